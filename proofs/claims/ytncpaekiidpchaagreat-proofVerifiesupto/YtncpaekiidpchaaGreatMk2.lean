/- Contracts: the digest of leaves, on both sides. -/
import Derived.Test.YtncpaekiidpchaaGreatMk1
import Derived.Test.YtncpaekiidpchaaGreatRq2
import Derived.Test.YtncpaekiidpchaaGreatSpTab
import Derived.Test.YtncpaekiidpchaaGreatSpUtf
set_option linter.all false
set_option maxRecDepth 100000
namespace Go.Proofs.YtncpaekiidpchaaGreat
open Go.AW
theorem znD {L : List (List UInt8)} (h : L.length ≤ 1048576) (b : List UInt8) : (zfo L b).length ≤ 1048576 := by
 unfold zfo
 split
 ·exact h
 ·split
  ·exact h
  ·simp; omega
theorem zoU {L : List (List UInt8)} (h : L.length ≤ 1048576) (b : List UInt8) : 0 ≤ zew L b ∧ zew L b ≤ 1048577 := by
 unfold zew
 split
 ·rename_i i hi
  have := (zvo hi).1
  omega
 ·split
  ·omega
  ·omega
theorem zcz : ∀ (f : Nat) {L l : List (List UInt8)},l.length ≤ f → L.length ≤ 1048576 → (zbM L l).2.length ≤ 1048576 ∧ 0 ≤ (zbM L l).1 ∧ (zbM L l).1 ≤ 1048577
 | _,L, [],_,h => ⟨znD h _,zoU h _⟩
 | _,L, [x],_,h => ⟨znD h _,zoU h _⟩
 | 0,L,x :: y :: r,hf,h => by simp at hf
 | f + 1,L,x :: y :: r,hf,h => by
  have hs := zbB (n := (x :: y :: r).length) (by simp)
  rw [zrn (by simp)]
  have h1 := (zcz f (L := L) (l := (x :: y :: r).take (zj (x :: y :: r).length)) (by rw [List.length_take]; omega) h).1
  have h2 := (zcz f (L := (zbM L ((x :: y :: r).take (zj (x :: y :: r).length))).2) (l := (x :: y :: r).drop (zj (x :: y :: r).length)) (by rw [List.length_drop]; omega) h1).1
  exact ⟨znD h2 _,zoU h2 _⟩
theorem c_r5Leaf {σ : List zh} {id : Nat} {L : List (List UInt8)} {b : List UInt8} (hT : σ[id]? = some (rtO L)) (hL : L.length ≤ 1048576) (hb : b.length ≤ 1073740000) {K : KT}
  (hK : K (.d (.int .i64 (zew L (zpw b)))) (σ.set id (rtO (zfo L (zpw b))))) : zy Tryz.prog zpk [.box id 0, .d (.slice (bcs b))] σ K := by
 refine zi zui.is rfl fun hl _ => zui.goes ?_
 simp only [zuV,iN,bT,bF,eN]
 (repeat' first | refine gq1 ?_ | with_reducible first | exact ⟨⟩ | refine zg ?_ | fail)
 refine c_r5leaf (by omega) ?_
 (repeat' first | refine gq1 ?_ | with_reducible first | exact ⟨⟩ | refine zg ?_ | fail)
 refine zkj hT (by simp [zpw]; omega) hL ?_
 (repeat' first | refine gq1 ?_ | with_reducible first | exact ⟨⟩ | refine zg ?_ | fail)
 exact zco (by simp) (by simp [zcZ,dmT,dm,dm1,zcf]) (hl.setO (zeG _ _)) hK
theorem c_r5Node {σ : List zh} {id : Nat} {L : List (List UInt8)} {l r : Int} (hT : σ[id]? = some (rtO L)) (hL : L.length ≤ 1048576) (hl1 : l ≤ 9223372036854775807) (hr1 : r ≤ 9223372036854775807) {K : KT}
  (hK : K (.d (.int .i64 (zew L (ziU l r)))) (σ.set id (rtO (zfo L (ziU l r))))) : zy Tryz.prog zpj [.box id 0, .d (.int .i64 l), .d (.int .i64 r)] σ K := by
 refine zi zuh.is rfl fun hl _ => zuh.goes ?_
 have n1 := zD (n := l.toNat) (by omega)
 have n2 := zD (n := r.toNat) (by omega)
 simp only [zuU,iN,bT,bF,eN]
 (repeat' first | refine gq1 ?_ | with_reducible first | exact ⟨⟩ | refine zg ?_ | fail)
 refine zvH hl1 hr1 ?_
 (repeat' first | refine gq1 ?_ | with_reducible first | exact ⟨⟩ | refine zg ?_ | fail)
 refine zkj hT (by simp [ziU]; omega) hL ?_
 (repeat' first | refine gq1 ?_ | with_reducible first | exact ⟨⟩ | refine zg ?_ | fail)
 exact zco (by simp) (by simp [zcZ,dmT,dm,dm1,zcf]) (hl.setO (zeG _ _)) hK
theorem c_r5RootA : ∀ (f : Nat) {σ : List zh} {id : Nat} {L l : List (List UInt8)},l.length ≤ f → σ[id]? = some (rtO L) → L.length ≤ 1048576 → l.length ≤ 1073741824 → (∀ x ∈ l,x.length ≤ 1073740000) → ∀ {K : KT},
  K (.d (.int .i64 (zbM L l).1)) (σ.set id (rtO (zbM L l).2)) → zy Tryz.prog zdW [.box id 0, .d (.slice (zcy l))] σ K := by
 intro f
 induction f with
 | zero =>
  intro σ id L l hf hT hL hn hx K hK
  have : l = [] := List.eq_nil_of_length_eq_zero (by omega)
  subst this
  refine zi zeT.is rfl fun hl _ => zeT.goes ?_
  simp only [zjB,iN,bT,bF,eN]
  (repeat' first | refine gq1 ?_ | with_reducible first | exact ⟨⟩ | refine zg ?_ | fail)
  refine zkj (b := [2]) hT (by simp) hL ?_
  (repeat' first | refine gq1 ?_ | with_reducible first | exact ⟨⟩ | refine zg ?_ | fail)
  exact zco (by simp) (by simp [zcZ,dmT,dm,dm1,zcf]) (hl.setO (zeG _ _)) hK
 | succ f ih =>
  intro σ id L l hf hT hL hn hx K hK
  match l,hf,hn,hx,hK with
  | [],_,_,_,hK =>
   refine zi zeT.is rfl fun hl _ => zeT.goes ?_
   simp only [zjB,iN,bT,bF,eN]
   (repeat' first | refine gq1 ?_ | with_reducible first | exact ⟨⟩ | refine zg ?_ | fail)
   refine zkj (b := [2]) hT (by simp) hL ?_
   (repeat' first | refine gq1 ?_ | with_reducible first | exact ⟨⟩ | refine zg ?_ | fail)
   exact zco (by simp) (by simp [zcZ,dmT,dm,dm1,zcf]) (hl.setO (zeG _ _)) hK
  | [x],_,_,hx,hK =>
   refine zi zeT.is rfl fun hl _ => zeT.goes ?_
   simp only [zjB,iN,bT,bF,eN]
   (repeat' first | refine gq1 ?_ | with_reducible first | exact ⟨⟩ | refine zg ?_ | fail)
   refine c_r5Leaf (b := x) hT hL (hx x (by simp)) ?_
   (repeat' first | refine gq1 ?_ | with_reducible first | exact ⟨⟩ | refine zg ?_ | fail)
   exact zco (by simp) (by simp [zcZ,dmT,dm,dm1,zcf]) (hl.setO (zeG _ _)) hK
  | x :: y :: r,hf,hn,hx,hK =>
   obtain ⟨l,hle⟩ : ∃ l,x :: y :: r = l := ⟨_,rfl⟩
   have h2 : 2 ≤ l.length := by rw [← hle]; simp
   rw [hle] at hf hn hx hK ⊢
   clear hle
   have hs := zbB h2
   rw [zrn h2] at hK
   refine zi zeT.is rfl fun hl _ => zeT.goes ?_
   have hlen : (zcy l).length = l.length := List.length_map ..
   have e0 : ((l.length : Int) == 0) = false := by rw [beq_eq_false_iff_ne]; omega
   have e1 : ((l.length : Int) == 1) = false := by rw [beq_eq_false_iff_ne]; omega
   have htk : List.take (zj l.length) (zcy l) = zcy (l.take (zj l.length)) := by rw [zcy, ← List.map_take]
   have hdr : List.drop (zj l.length) (zcy l) = zcy (l.drop (zj l.length)) := by rw [zcy, ← List.map_drop]
   have htl : List.take l.length (zcy l) = zcy l := List.take_of_length_le (by omega)
   have hone : ∀ e ∈ zcy l,e.length = 1 := zgo (f := fun b => [D.slice (bcs b)]) (fun _ => rfl) l
   have hl1 : (l.take (zj l.length)).length = zj l.length := by rw [List.length_take]; omega
   have hl2 : (l.drop (zj l.length)).length = l.length - zj l.length := List.length_drop
   obtain ⟨g1,g2,g3⟩ := zcz l.length (L := L) (l := l.take (zj l.length)) (by omega) hL
   simp only [zjB,iN,bT,bF,eN]
   (repeat' first | refine gq2 (zc hlen (zc e0 e1)) ?_ | with_reducible first | exact ⟨⟩ | refine zg ?_ | fail)
   refine zoq (by omega) ?_
   (repeat' first | refine gq2 (zc hlen htk) ?_ | with_reducible first | exact ⟨⟩ | refine zg ?_ | fail)
   refine ih (by omega) hT hL (by omega) (fun z hz => hx z (List.mem_of_mem_take hz)) ?_
   obtain ⟨A,hA⟩ : ∃ A,zbM L (l.take (zj l.length)) = A := ⟨_,rfl⟩
   rw [hA] at hK g1 g2 g3 ⊢
   obtain ⟨q1,q2,q3⟩ := zcz l.length (L := A.2) (l := l.drop (zj l.length)) (by omega) g1
   (repeat' first | refine gq2 (zc hlen (zc htl hdr)) ?_ | with_reducible first | exact ⟨⟩ | refine zg ?_ | fail)
   refine ih (by omega) (zbm hT) g1 (by omega) (fun z hz => hx z (List.mem_of_mem_drop hz)) ?_
   obtain ⟨B,hB⟩ : ∃ B,zbM A.2 (l.drop (zj l.length)) = B := ⟨_,rfl⟩
   rw [hB] at hK q1 q2 q3 ⊢
   rw [List.set_set]
   (repeat' first | refine gq1 ?_ | with_reducible first | exact ⟨⟩ | refine zg ?_ | fail)
   refine c_r5Node (zbm hT) q1 (by omega) (by omega) ?_
   rw [List.set_set]
   (repeat' first | refine gq1 ?_ | with_reducible first | exact ⟨⟩ | refine zg ?_ | fail)
   exact zco (by simp) (by simp [zcZ,dmT,dm,dm1,zcf]) (hl.setO (zeG _ _)) hK
theorem zmq {σ : List zh} {id : Nat} {L l : List (List UInt8)} (hT : σ[id]? = some (rtO L)) (hL : L.length ≤ 1048576) (hn : l.length ≤ 1073741824) (hx : ∀ x ∈ l,x.length ≤ 1073740000) {K : KT}
  (hK : K (.d (.int .i64 (zbM L l).1)) (σ.set id (rtO (zbM L l).2))) : zy Tryz.prog zdW [.box id 0, .d (.slice (zcy l))] σ K := c_r5RootA l.length (Nat.le_refl _) hT hL hn hx hK
theorem ztu {σ : List zh} {id m t : Nat} {L : List (List UInt8)} (hT : zcq σ id m t L) (L1 L2 : List (List UInt8)) : putTab (putTab σ id m t L1) id m t L2 = putTab σ id m t L2 := by
 obtain ⟨n1,n2,n3⟩ := hT.ne
 unfold putTab
 apply List.ext_getElem?
 intro i
 simp only [List.getElem?_set,List.length_set]
 by_cases h1 : m = i
 ·simp [h1]
 ·by_cases h2 : id = i
  ·simp [h1,h2]
  ·by_cases h3 : t = i
   ·simp [h1,h2,h3]
   ·simp [h1,h2,h3]
theorem c_mkLeaf {σ : List zh} {id m t : Nat} {L : List (List UInt8)} {b : List UInt8} (hT : zcq σ id m t L) (hL : L.length ≤ 1048576) (hb : b.length ≤ 1073740000) {K : KT}
  (hK : K (.d (.int .i64 (zew L (zpw b)))) (putTab σ id m t (zfo L (zpw b)))) : zy Tryz.prog zjZ [.box id 0, .d (.slice (bcs b))] σ K := by
 refine zi zog.is rfl fun hl _ => zog.goes ?_
 simp only [zoJ,iN,bT,bF,eN]
 (repeat' first | refine gq1 ?_ | with_reducible first | exact ⟨⟩ | refine zg ?_ | fail)
 refine c_mkleaf (by omega) ?_
 (repeat' first | refine gq1 ?_ | with_reducible first | exact ⟨⟩ | refine zg ?_ | fail)
 refine zso hT (by simp [zpw]; omega) hL ?_
 (repeat' first | refine gq1 ?_ | with_reducible first | exact ⟨⟩ | refine zg ?_ | fail)
 exact zco (zcv ..) (by simp [zcZ,dmT,dm,dm1,zcf]) (hT.lows hl _) hK
theorem c_mkNode {σ : List zh} {id m t : Nat} {L : List (List UInt8)} {l r : Int} (hT : zcq σ id m t L) (hL : L.length ≤ 1048576) (hl1 : l ≤ 9223372036854775807) (hr1 : r ≤ 9223372036854775807) {K : KT}
  (hK : K (.d (.int .i64 (zew L (ziU l r)))) (putTab σ id m t (zfo L (ziU l r)))) : zy Tryz.prog zjY [.box id 0, .d (.int .i64 l), .d (.int .i64 r)] σ K := by
 refine zi zof.is rfl fun hl _ => zof.goes ?_
 have n1 := zD (n := l.toNat) (by omega)
 have n2 := zD (n := r.toNat) (by omega)
 simp only [zoI,iN,bT,bF,eN]
 (repeat' first | refine gq1 ?_ | with_reducible first | exact ⟨⟩ | refine zg ?_ | fail)
 refine zvI hl1 hr1 ?_
 (repeat' first | refine gq1 ?_ | with_reducible first | exact ⟨⟩ | refine zg ?_ | fail)
 refine zso hT (by simp [ziU]; omega) hL ?_
 (repeat' first | refine gq1 ?_ | with_reducible first | exact ⟨⟩ | refine zg ?_ | fail)
 exact zco (zcv ..) (by simp [zcZ,dmT,dm,dm1,zcf]) (hT.lows hl _) hK
theorem c_mkRootA : ∀ (f : Nat) {σ : List zh} {id m t : Nat} {L l : List (List UInt8)},l.length ≤ f → zcq σ id m t L → L.length ≤ 1048576 → l.length ≤ 1073741824 → (∀ x ∈ l,x.length ≤ 1073740000) → ∀ {K : KT},
  K (.d (.int .i64 (zbM L l).1)) (putTab σ id m t (zbM L l).2) → zy Tryz.prog zdi [.box id 0, .d (.slice (zcy l))] σ K := by
 intro f
 induction f with
 | zero =>
  intro σ id m t L l hf hT hL hn hx K hK
  have : l = [] := List.eq_nil_of_length_eq_zero (by omega)
  subst this
  refine zi zcA.is rfl fun hl _ => zcA.goes ?_
  simp only [zfm,iN,bT,bF,eN]
  (repeat' first | refine gq1 ?_ | with_reducible first | exact ⟨⟩ | refine zg ?_ | fail)
  refine zso (b := [2]) hT (by simp) hL ?_
  (repeat' first | refine gq1 ?_ | with_reducible first | exact ⟨⟩ | refine zg ?_ | fail)
  exact zco (zcv ..) (by simp [zcZ,dmT,dm,dm1,zcf]) (hT.lows hl _) hK
 | succ f ih =>
  intro σ id m t L l hf hT hL hn hx K hK
  match l,hf,hn,hx,hK with
  | [],_,_,_,hK =>
   refine zi zcA.is rfl fun hl _ => zcA.goes ?_
   simp only [zfm,iN,bT,bF,eN]
   (repeat' first | refine gq1 ?_ | with_reducible first | exact ⟨⟩ | refine zg ?_ | fail)
   refine zso (b := [2]) hT (by simp) hL ?_
   (repeat' first | refine gq1 ?_ | with_reducible first | exact ⟨⟩ | refine zg ?_ | fail)
   exact zco (zcv ..) (by simp [zcZ,dmT,dm,dm1,zcf]) (hT.lows hl _) hK
  | [x],_,_,hx,hK =>
   refine zi zcA.is rfl fun hl _ => zcA.goes ?_
   simp only [zfm,iN,bT,bF,eN]
   (repeat' first | refine gq1 ?_ | with_reducible first | exact ⟨⟩ | refine zg ?_ | fail)
   refine c_mkLeaf (b := x) hT hL (hx x (by simp)) ?_
   (repeat' first | refine gq1 ?_ | with_reducible first | exact ⟨⟩ | refine zg ?_ | fail)
   exact zco (zcv ..) (by simp [zcZ,dmT,dm,dm1,zcf]) (hT.lows hl _) hK
  | x :: y :: r,hf,hn,hx,hK =>
   obtain ⟨l,hle⟩ : ∃ l,x :: y :: r = l := ⟨_,rfl⟩
   have h2 : 2 ≤ l.length := by rw [← hle]; simp
   rw [hle] at hf hn hx hK ⊢
   clear hle
   have hs := zbB h2
   rw [zrn h2] at hK
   refine zi zcA.is rfl fun hl _ => zcA.goes ?_
   have hlen : (zcy l).length = l.length := List.length_map ..
   have e0 : ((l.length : Int) == 0) = false := by rw [beq_eq_false_iff_ne]; omega
   have e1 : ((l.length : Int) == 1) = false := by rw [beq_eq_false_iff_ne]; omega
   have htk : List.take (zj l.length) (zcy l) = zcy (l.take (zj l.length)) := by rw [zcy, ← List.map_take]
   have hdr : List.drop (zj l.length) (zcy l) = zcy (l.drop (zj l.length)) := by rw [zcy, ← List.map_drop]
   have htl : List.take l.length (zcy l) = zcy l := List.take_of_length_le (by omega)
   have hone : ∀ e ∈ zcy l,e.length = 1 := zgo (f := fun b => [D.slice (bcs b)]) (fun _ => rfl) l
   have hl1 : (l.take (zj l.length)).length = zj l.length := by rw [List.length_take]; omega
   have hl2 : (l.drop (zj l.length)).length = l.length - zj l.length := List.length_drop
   obtain ⟨g1,g2,g3⟩ := zcz l.length (L := L) (l := l.take (zj l.length)) (by omega) hL
   simp only [zfm,iN,bT,bF,eN]
   (repeat' first | refine gq2 (zc hlen (zc e0 e1)) ?_ | with_reducible first | exact ⟨⟩ | refine zg ?_ | fail)
   refine zor (by omega) ?_
   (repeat' first | refine gq2 (zc hlen htk) ?_ | with_reducible first | exact ⟨⟩ | refine zg ?_ | fail)
   refine ih (by omega) hT hL (by omega) (fun z hz => hx z (List.mem_of_mem_take hz)) ?_
   obtain ⟨A,hA⟩ : ∃ A,zbM L (l.take (zj l.length)) = A := ⟨_,rfl⟩
   rw [hA] at hK g1 g2 g3 ⊢
   obtain ⟨q1,q2,q3⟩ := zcz l.length (L := A.2) (l := l.drop (zj l.length)) (by omega) g1
   (repeat' first | refine gq2 (zc hlen (zc htl hdr)) ?_ | with_reducible first | exact ⟨⟩ | refine zg ?_ | fail)
   refine ih (by omega) (hT.put A.2) g1 (by omega) (fun z hz => hx z (List.mem_of_mem_drop hz)) ?_
   obtain ⟨B,hB⟩ : ∃ B,zbM A.2 (l.drop (zj l.length)) = B := ⟨_,rfl⟩
   rw [hB] at hK q1 q2 q3 ⊢
   rw [ztu hT]
   (repeat' first | refine gq1 ?_ | with_reducible first | exact ⟨⟩ | refine zg ?_ | fail)
   refine c_mkNode (hT.put B.2) q1 (by omega) (by omega) ?_
   rw [ztu hT]
   (repeat' first | refine gq1 ?_ | with_reducible first | exact ⟨⟩ | refine zg ?_ | fail)
   exact zco (zcv ..) (by simp [zcZ,dmT,dm,dm1,zcf]) (hT.lows hl _) hK
theorem c_mkRoot {σ : List zh} {id m t : Nat} {L l : List (List UInt8)} (hT : zcq σ id m t L) (hL : L.length ≤ 1048576) (hn : l.length ≤ 1073741824) (hx : ∀ x ∈ l,x.length ≤ 1073740000) {K : KT}
  (hK : K (.d (.int .i64 (zbM L l).1)) (putTab σ id m t (zbM L l).2)) : zy Tryz.prog zdi [.box id 0, .d (.slice (zcy l))] σ K := c_mkRootA l.length (Nat.le_refl _) hT hL hn hx hK
end Go.Proofs.YtncpaekiidpchaaGreat

/- Votes: their bytes, and whether they are signed. No program in sight. -/
namespace Go.AW
abbrev zaX (l : List Int) : List (List D) := l.map fun t => [D.int .i64 t]
def zdq (x : Int) : Bool := decide (0 ≤ x ∧ x ≤ 9007199254740992)
def zrA (a b c d : Int) : Bool := zdq a && (zdq b && (zdq c && zdq d))
def zgU (l : List Int) : List UInt8 := (l.map fun x => zcr x.toNat).flatten
def zkO (a b c d : Int) : List UInt8 := 4 :: zgU [a,b,c,d]
theorem znL {x : Int} : zdq x = true ↔ 0 ≤ x ∧ x ≤ 9007199254740992 := by simp [zdq]
theorem zmf {l : List Int} {k : Nat} {x : Int} (h : l[k]? = some x) : zgU (l.take (k + 1)) = zgU (l.take k) ++ zcr x.toNat := by
 rw [List.take_add_one,h]; simp [zgU]
theorem zla {l : List Int} (h : ∀ x ∈ l,x < 9223372036854775808) : (zgU l).length ≤ l.length * 10 := by
 induction l with
 | nil => simp [zgU]
 | cons x l ih =>
  have h1 := h x (by simp)
  have h2 := zD (n := x.toNat) (by omega)
  have h3 := ih fun y hy => h y (by simp [hy])
  simp only [zgU,List.map_cons,List.flatten_cons,List.length_append,List.length_cons] at h3 ⊢
  omega
theorem voteB_len {a b c d : Int} (h : zrA a b c d = true) : (zkO a b c d).length ≤ 50 := by
 simp only [zrA,Bool.and_eq_true,znL] at h
 have := zla (l := [a,b,c,d]) (by intro x hx; simp at hx; omega)
 simp only [zkO,List.length_cons,List.length_nil] at this ⊢
 omega
theorem mayV_all (a b c d : Int) : zrA a b c d = [a,b,c,d].all zdq := by simp [zrA]
def zfu (L : List (List UInt8)) (G : List zS) (s : zS) (key : Int) (b : List UInt8) : Bool := match zcX L b with
 | some i => decide (s.key = key ∧ s.dig = ((i + 1 : Nat) : Int)) && decide (s ∈ G)
 | none => false
def ziR (L : List (List UInt8)) (G : List zS) (s : zS) (key a b c d : Int) : Bool := zrA a b c d && zfu L G s key (zkO a b c d)
end Go.AW
