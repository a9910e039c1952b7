/- Contracts: the digest of leaves, on both sides. -/
import Derived.Test.YtncpaekiidpchaaGreatMk1
import Derived.Test.YtncpaekiidpchaaGreatRc1
set_option linter.all false
set_option maxRecDepth 100000
namespace Go.Proofs.YtncpaekiidpchaaGreat
open Go.AW
theorem znb {L : List (List UInt8)} (h : L.length ≤ 1048576) (b : List UInt8) : (zfk L b).length ≤ 1048576 := by
 unfold zfk
 split
 ·exact h
 ·split
  ·exact h
  ·simp; omega
theorem zor {L : List (List UInt8)} (h : L.length ≤ 1048576) (b : List UInt8) : 0 ≤ zed L b ∧ zed L b ≤ 1048577 := by
 unfold zed
 split
 ·rename_i i hi
  have := (zuA hi).1
  omega
 ·split
  ·omega
  ·omega
theorem zcC : ∀ (f : Nat) {L l : List (List UInt8)},l.length ≤ f → L.length ≤ 1048576 → (zbQ L l).2.length ≤ 1048576 ∧ 0 ≤ (zbQ L l).1 ∧ (zbQ L l).1 ≤ 1048577
 | _,L, [],_,h => ⟨znb h _,zor h _⟩
 | _,L, [x],_,h => ⟨znb h _,zor h _⟩
 | 0,L,x :: y :: r,hf,h => by simp at hf
 | f + 1,L,x :: y :: r,hf,h => by
  have hs := zcr (n := (x :: y :: r).length) (by simp)
  rw [zur (by simp)]
  have h1 := (zcC f (L := L) (l := (x :: y :: r).take (zn (x :: y :: r).length)) (by rw [List.length_take]; omega) h).1
  have h2 := (zcC f (L := (zbQ L ((x :: y :: r).take (zn (x :: y :: r).length))).2) (l := (x :: y :: r).drop (zn (x :: y :: r).length)) (by rw [List.length_drop]; omega) h1).1
  exact ⟨znb h2 _,zor h2 _⟩
theorem c_r5Leaf {σ : List zf} {id : Nat} {L : List (List UInt8)} {b : List UInt8} (hT : σ[id]? = some (rtO L)) (hL : L.length ≤ 1048576) (hb : b.length ≤ 1073740000) {K : AV → List zf → Prop}
  (hK : K (.d (.int .i64 (zed L (zoW b)))) (σ.set id (rtO (zfk L (zoW b))))) : zL Tryz.prog zoI [.box id 0, .d (.slice (bcs b))] σ K := by
 refine zj ztn.is rfl fun hl _ => ztn.goes ?_
 simp only [zua,iN,bT,bF,eN]
 (repeat' first | refine gq1 ?_ | with_reducible first | exact ⟨⟩ | refine zh ?_ | fail)
 refine c_r5leaf (by omega) ?_
 (repeat' first | refine gq1 ?_ | with_reducible first | exact ⟨⟩ | refine zh ?_ | fail)
 refine zjI hT (by simp [zoW]; omega) hL ?_
 (repeat' first | refine gq1 ?_ | with_reducible first | exact ⟨⟩ | refine zh ?_ | fail)
 exact zcs (by simp) (by simp [zdj,dmT,dm,dm1,zbV]) (hl.setO (zew _ _)) hK
theorem c_r5Node {σ : List zf} {id : Nat} {L : List (List UInt8)} {l r : Int} (hT : σ[id]? = some (rtO L)) (hL : L.length ≤ 1048576) (hl1 : l ≤ 9223372036854775807) (hr1 : r ≤ 9223372036854775807) {K : AV → List zf → Prop}
  (hK : K (.d (.int .i64 (zed L (zit l r)))) (σ.set id (rtO (zfk L (zit l r))))) : zL Tryz.prog zoH [.box id 0, .d (.int .i64 l), .d (.int .i64 r)] σ K := by
 refine zj ztm.is rfl fun hl _ => ztm.goes ?_
 have n1 := zJ (n := l.toNat) (by omega)
 have n2 := zJ (n := r.toNat) (by omega)
 simp only [ztZ,iN,bT,bF,eN]
 (repeat' first | refine gq1 ?_ | with_reducible first | exact ⟨⟩ | refine zh ?_ | fail)
 refine c_r5node hl1 hr1 ?_
 (repeat' first | refine gq1 ?_ | with_reducible first | exact ⟨⟩ | refine zh ?_ | fail)
 refine zjI hT (by simp [zit]; omega) hL ?_
 (repeat' first | refine gq1 ?_ | with_reducible first | exact ⟨⟩ | refine zh ?_ | fail)
 exact zcs (by simp) (by simp [zdj,dmT,dm,dm1,zbV]) (hl.setO (zew _ _)) hK
theorem c_r5RootA : ∀ (f : Nat) {σ : List zf} {id : Nat} {L l : List (List UInt8)},l.length ≤ f → σ[id]? = some (rtO L) → L.length ≤ 1048576 → l.length ≤ 1073741824 → (∀ x ∈ l,x.length ≤ 1073740000) → ∀ {K : AV → List zf → Prop},
  K (.d (.int .i64 (zbQ L l).1)) (σ.set id (rtO (zbQ L l).2)) → zL Tryz.prog zdQ [.box id 0, .d (.slice (zcU l))] σ K := by
 intro f
 induction f with
 | zero =>
  intro σ id L l hf hT hL hn hx K hK
  have : l = [] := List.eq_nil_of_length_eq_zero (by omega)
  subst this
  refine zj zeI.is rfl fun hl _ => zeI.goes ?_
  simp only [zja,iN,bT,bF,eN]
  (repeat' first | refine gq1 ?_ | with_reducible first | exact ⟨⟩ | refine zh ?_ | fail)
  refine zjI (b := [2]) hT (by simp) hL ?_
  (repeat' first | refine gq1 ?_ | with_reducible first | exact ⟨⟩ | refine zh ?_ | fail)
  exact zcs (by simp) (by simp [zdj,dmT,dm,dm1,zbV]) (hl.setO (zew _ _)) hK
 | succ f ih =>
  intro σ id L l hf hT hL hn hx K hK
  match l,hf,hn,hx,hK with
  | [],_,_,_,hK =>
   refine zj zeI.is rfl fun hl _ => zeI.goes ?_
   simp only [zja,iN,bT,bF,eN]
   (repeat' first | refine gq1 ?_ | with_reducible first | exact ⟨⟩ | refine zh ?_ | fail)
   refine zjI (b := [2]) hT (by simp) hL ?_
   (repeat' first | refine gq1 ?_ | with_reducible first | exact ⟨⟩ | refine zh ?_ | fail)
   exact zcs (by simp) (by simp [zdj,dmT,dm,dm1,zbV]) (hl.setO (zew _ _)) hK
  | [x],_,_,hx,hK =>
   refine zj zeI.is rfl fun hl _ => zeI.goes ?_
   simp only [zja,iN,bT,bF,eN]
   (repeat' first | refine gq1 ?_ | with_reducible first | exact ⟨⟩ | refine zh ?_ | fail)
   refine c_r5Leaf (b := x) hT hL (hx x (by simp)) ?_
   (repeat' first | refine gq1 ?_ | with_reducible first | exact ⟨⟩ | refine zh ?_ | fail)
   exact zcs (by simp) (by simp [zdj,dmT,dm,dm1,zbV]) (hl.setO (zew _ _)) hK
  | x :: y :: r,hf,hn,hx,hK =>
   obtain ⟨l,hle⟩ : ∃ l,x :: y :: r = l := ⟨_,rfl⟩
   have h2 : 2 ≤ l.length := by rw [← hle]; simp
   rw [hle] at hf hn hx hK ⊢
   clear hle
   have hs := zcr h2
   rw [zur h2] at hK
   refine zj zeI.is rfl fun hl _ => zeI.goes ?_
   have hlen : (zcU l).length = l.length := List.length_map ..
   have e0 : ((l.length : Int) == 0) = false := by rw [beq_eq_false_iff_ne]; omega
   have e1 : ((l.length : Int) == 1) = false := by rw [beq_eq_false_iff_ne]; omega
   have htk : List.take (zn l.length) (zcU l) = zcU (l.take (zn l.length)) := by rw [zcU, ← List.map_take]
   have hdr : List.drop (zn l.length) (zcU l) = zcU (l.drop (zn l.length)) := by rw [zcU, ← List.map_drop]
   have htl : List.take l.length (zcU l) = zcU l := List.take_of_length_le (by omega)
   have hone : ∀ e ∈ zcU l,e.length = 1 := zgV (f := fun b => [D.slice (bcs b)]) (fun _ => rfl) l
   have hl1 : (l.take (zn l.length)).length = zn l.length := by rw [List.length_take]; omega
   have hl2 : (l.drop (zn l.length)).length = l.length - zn l.length := List.length_drop
   obtain ⟨g1,g2,g3⟩ := zcC l.length (L := L) (l := l.take (zn l.length)) (by omega) hL
   simp only [zja,iN,bT,bF,eN]
   (repeat' first | refine gq2 (zd hlen (zd e0 e1)) ?_ | with_reducible first | exact ⟨⟩ | refine zh ?_ | fail)
   refine c_r5Split (by omega) ?_
   (repeat' first | refine gq2 (zd hlen htk) ?_ | with_reducible first | exact ⟨⟩ | refine zh ?_ | fail)
   refine ih (by omega) hT hL (by omega) (fun z hz => hx z (List.mem_of_mem_take hz)) ?_
   obtain ⟨A,hA⟩ : ∃ A,zbQ L (l.take (zn l.length)) = A := ⟨_,rfl⟩
   rw [hA] at hK g1 g2 g3 ⊢
   obtain ⟨q1,q2,q3⟩ := zcC l.length (L := A.2) (l := l.drop (zn l.length)) (by omega) g1
   (repeat' first | refine gq2 (zd hlen (zd htl hdr)) ?_ | with_reducible first | exact ⟨⟩ | refine zh ?_ | fail)
   refine ih (by omega) (zbn hT) g1 (by omega) (fun z hz => hx z (List.mem_of_mem_drop hz)) ?_
   obtain ⟨B,hB⟩ : ∃ B,zbQ A.2 (l.drop (zn l.length)) = B := ⟨_,rfl⟩
   rw [hB] at hK q1 q2 q3 ⊢
   rw [List.set_set]
   (repeat' first | refine gq1 ?_ | with_reducible first | exact ⟨⟩ | refine zh ?_ | fail)
   refine c_r5Node (zbn hT) q1 (by omega) (by omega) ?_
   rw [List.set_set]
   (repeat' first | refine gq1 ?_ | with_reducible first | exact ⟨⟩ | refine zh ?_ | fail)
   exact zcs (by simp) (by simp [zdj,dmT,dm,dm1,zbV]) (hl.setO (zew _ _)) hK
theorem zlK {σ : List zf} {id : Nat} {L l : List (List UInt8)} (hT : σ[id]? = some (rtO L)) (hL : L.length ≤ 1048576) (hn : l.length ≤ 1073741824) (hx : ∀ x ∈ l,x.length ≤ 1073740000) {K : AV → List zf → Prop}
  (hK : K (.d (.int .i64 (zbQ L l).1)) (σ.set id (rtO (zbQ L l).2))) : zL Tryz.prog zdQ [.box id 0, .d (.slice (zcU l))] σ K := c_r5RootA l.length (Nat.le_refl _) hT hL hn hx hK
theorem zsz {σ : List zf} {id m t : Nat} {L : List (List UInt8)} (hT : zcu σ id m t L) (L1 L2 : List (List UInt8)) : putTab (putTab σ id m t L1) id m t L2 = putTab σ id m t L2 := by
 obtain ⟨n1,n2,n3⟩ := hT.ne
 unfold putTab
 apply List.ext_getElem?
 intro i
 simp only [List.getElem?_set,List.length_set]
 by_cases h1 : m = i
 ·simp [h1]
 ·by_cases h2 : id = i
  ·simp [h1,h2]
  ·by_cases h3 : t = i
   ·simp [h1,h2,h3]
   ·simp [h1,h2,h3]
theorem c_mkLeaf {σ : List zf} {id m t : Nat} {L : List (List UInt8)} {b : List UInt8} (hT : zcu σ id m t L) (hL : L.length ≤ 1048576) (hb : b.length ≤ 1073740000) {K : AV → List zf → Prop}
  (hK : K (.d (.int .i64 (zed L (zoW b)))) (putTab σ id m t (zfk L (zoW b)))) : zL Tryz.prog zjA [.box id 0, .d (.slice (bcs b))] σ K := by
 refine zj znC.is rfl fun hl _ => znC.goes ?_
 simp only [zod,iN,bT,bF,eN]
 (repeat' first | refine gq1 ?_ | with_reducible first | exact ⟨⟩ | refine zh ?_ | fail)
 refine c_mkleaf (by omega) ?_
 (repeat' first | refine gq1 ?_ | with_reducible first | exact ⟨⟩ | refine zh ?_ | fail)
 refine zty hT (by simp [zoW]; omega) hL ?_
 (repeat' first | refine gq1 ?_ | with_reducible first | exact ⟨⟩ | refine zh ?_ | fail)
 exact zcs (zcm ..) (by simp [zdj,dmT,dm,dm1,zbV]) (hT.lows hl _) hK
theorem c_mkNode {σ : List zf} {id m t : Nat} {L : List (List UInt8)} {l r : Int} (hT : zcu σ id m t L) (hL : L.length ≤ 1048576) (hl1 : l ≤ 9223372036854775807) (hr1 : r ≤ 9223372036854775807) {K : AV → List zf → Prop}
  (hK : K (.d (.int .i64 (zed L (zit l r)))) (putTab σ id m t (zfk L (zit l r)))) : zL Tryz.prog zjz [.box id 0, .d (.int .i64 l), .d (.int .i64 r)] σ K := by
 refine zj znB.is rfl fun hl _ => znB.goes ?_
 have n1 := zJ (n := l.toNat) (by omega)
 have n2 := zJ (n := r.toNat) (by omega)
 simp only [zoc,iN,bT,bF,eN]
 (repeat' first | refine gq1 ?_ | with_reducible first | exact ⟨⟩ | refine zh ?_ | fail)
 refine zuW hl1 hr1 ?_
 (repeat' first | refine gq1 ?_ | with_reducible first | exact ⟨⟩ | refine zh ?_ | fail)
 refine zty hT (by simp [zit]; omega) hL ?_
 (repeat' first | refine gq1 ?_ | with_reducible first | exact ⟨⟩ | refine zh ?_ | fail)
 exact zcs (zcm ..) (by simp [zdj,dmT,dm,dm1,zbV]) (hT.lows hl _) hK
theorem c_mkRootA : ∀ (f : Nat) {σ : List zf} {id m t : Nat} {L l : List (List UInt8)},l.length ≤ f → zcu σ id m t L → L.length ≤ 1048576 → l.length ≤ 1073741824 → (∀ x ∈ l,x.length ≤ 1073740000) → ∀ {K : AV → List zf → Prop},
  K (.d (.int .i64 (zbQ L l).1)) (putTab σ id m t (zbQ L l).2) → zL Tryz.prog zdq [.box id 0, .d (.slice (zcU l))] σ K := by
 intro f
 induction f with
 | zero =>
  intro σ id m t L l hf hT hL hn hx K hK
  have : l = [] := List.eq_nil_of_length_eq_zero (by omega)
  subst this
  refine zj zcD.is rfl fun hl _ => zcD.goes ?_
  simp only [zfh,iN,bT,bF,eN]
  (repeat' first | refine gq1 ?_ | with_reducible first | exact ⟨⟩ | refine zh ?_ | fail)
  refine zty (b := [2]) hT (by simp) hL ?_
  (repeat' first | refine gq1 ?_ | with_reducible first | exact ⟨⟩ | refine zh ?_ | fail)
  exact zcs (zcm ..) (by simp [zdj,dmT,dm,dm1,zbV]) (hT.lows hl _) hK
 | succ f ih =>
  intro σ id m t L l hf hT hL hn hx K hK
  match l,hf,hn,hx,hK with
  | [],_,_,_,hK =>
   refine zj zcD.is rfl fun hl _ => zcD.goes ?_
   simp only [zfh,iN,bT,bF,eN]
   (repeat' first | refine gq1 ?_ | with_reducible first | exact ⟨⟩ | refine zh ?_ | fail)
   refine zty (b := [2]) hT (by simp) hL ?_
   (repeat' first | refine gq1 ?_ | with_reducible first | exact ⟨⟩ | refine zh ?_ | fail)
   exact zcs (zcm ..) (by simp [zdj,dmT,dm,dm1,zbV]) (hT.lows hl _) hK
  | [x],_,_,hx,hK =>
   refine zj zcD.is rfl fun hl _ => zcD.goes ?_
   simp only [zfh,iN,bT,bF,eN]
   (repeat' first | refine gq1 ?_ | with_reducible first | exact ⟨⟩ | refine zh ?_ | fail)
   refine c_mkLeaf (b := x) hT hL (hx x (by simp)) ?_
   (repeat' first | refine gq1 ?_ | with_reducible first | exact ⟨⟩ | refine zh ?_ | fail)
   exact zcs (zcm ..) (by simp [zdj,dmT,dm,dm1,zbV]) (hT.lows hl _) hK
  | x :: y :: r,hf,hn,hx,hK =>
   obtain ⟨l,hle⟩ : ∃ l,x :: y :: r = l := ⟨_,rfl⟩
   have h2 : 2 ≤ l.length := by rw [← hle]; simp
   rw [hle] at hf hn hx hK ⊢
   clear hle
   have hs := zcr h2
   rw [zur h2] at hK
   refine zj zcD.is rfl fun hl _ => zcD.goes ?_
   have hlen : (zcU l).length = l.length := List.length_map ..
   have e0 : ((l.length : Int) == 0) = false := by rw [beq_eq_false_iff_ne]; omega
   have e1 : ((l.length : Int) == 1) = false := by rw [beq_eq_false_iff_ne]; omega
   have htk : List.take (zn l.length) (zcU l) = zcU (l.take (zn l.length)) := by rw [zcU, ← List.map_take]
   have hdr : List.drop (zn l.length) (zcU l) = zcU (l.drop (zn l.length)) := by rw [zcU, ← List.map_drop]
   have htl : List.take l.length (zcU l) = zcU l := List.take_of_length_le (by omega)
   have hone : ∀ e ∈ zcU l,e.length = 1 := zgV (f := fun b => [D.slice (bcs b)]) (fun _ => rfl) l
   have hl1 : (l.take (zn l.length)).length = zn l.length := by rw [List.length_take]; omega
   have hl2 : (l.drop (zn l.length)).length = l.length - zn l.length := List.length_drop
   obtain ⟨g1,g2,g3⟩ := zcC l.length (L := L) (l := l.take (zn l.length)) (by omega) hL
   simp only [zfh,iN,bT,bF,eN]
   (repeat' first | refine gq2 (zd hlen (zd e0 e1)) ?_ | with_reducible first | exact ⟨⟩ | refine zh ?_ | fail)
   refine znM (by omega) ?_
   (repeat' first | refine gq2 (zd hlen htk) ?_ | with_reducible first | exact ⟨⟩ | refine zh ?_ | fail)
   refine ih (by omega) hT hL (by omega) (fun z hz => hx z (List.mem_of_mem_take hz)) ?_
   obtain ⟨A,hA⟩ : ∃ A,zbQ L (l.take (zn l.length)) = A := ⟨_,rfl⟩
   rw [hA] at hK g1 g2 g3 ⊢
   obtain ⟨q1,q2,q3⟩ := zcC l.length (L := A.2) (l := l.drop (zn l.length)) (by omega) g1
   (repeat' first | refine gq2 (zd hlen (zd htl hdr)) ?_ | with_reducible first | exact ⟨⟩ | refine zh ?_ | fail)
   refine ih (by omega) (hT.put A.2) g1 (by omega) (fun z hz => hx z (List.mem_of_mem_drop hz)) ?_
   obtain ⟨B,hB⟩ : ∃ B,zbQ A.2 (l.drop (zn l.length)) = B := ⟨_,rfl⟩
   rw [hB] at hK q1 q2 q3 ⊢
   rw [zsz hT]
   (repeat' first | refine gq1 ?_ | with_reducible first | exact ⟨⟩ | refine zh ?_ | fail)
   refine c_mkNode (hT.put B.2) q1 (by omega) (by omega) ?_
   rw [zsz hT]
   (repeat' first | refine gq1 ?_ | with_reducible first | exact ⟨⟩ | refine zh ?_ | fail)
   exact zcs (zcm ..) (by simp [zdj,dmT,dm,dm1,zbV]) (hT.lows hl _) hK
theorem c_mkRoot {σ : List zf} {id m t : Nat} {L l : List (List UInt8)} (hT : zcu σ id m t L) (hL : L.length ≤ 1048576) (hn : l.length ≤ 1073741824) (hx : ∀ x ∈ l,x.length ≤ 1073740000) {K : AV → List zf → Prop}
  (hK : K (.d (.int .i64 (zbQ L l).1)) (putTab σ id m t (zbQ L l).2)) : zL Tryz.prog zdq [.box id 0, .d (.slice (zcU l))] σ K := c_mkRootA l.length (Nat.le_refl _) hT hL hn hx hK
end Go.Proofs.YtncpaekiidpchaaGreat
