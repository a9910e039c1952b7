/- Contracts: the digest of leaves, on both sides. -/
import Derived.Test.YtfjommppajkpoaaGreatMk1
import Derived.Test.YtfjommppajkpoaaGreatRq2
import Derived.Test.YtfjommppajkpoaaGreatSpTab
import Derived.Test.YtfjommppajkpoaaGreatSpUtf
set_option linter.all false
set_option maxRecDepth 100000
namespace Go.Proofs.YtfjommppajkpoaaGreat
open Go.AW
theorem zni {L : List (List UInt8)} (h : L.length ≤ 1048576) (b : List UInt8) : (zfe L b).length ≤ 1048576 := by
 unfold zfe
 split
 ·exact h
 ·split
  ·exact h
  ·simp; omega
theorem zow {L : List (List UInt8)} (h : L.length ≤ 1048576) (b : List UInt8) : 0 ≤ zee L b ∧ zee L b ≤ 1048577 := by
 unfold zee
 split
 ·rename_i i hi
  have := (zuF hi).1
  omega
 ·split
  ·omega
  ·omega
theorem zcu : ∀ (f : Nat) {L l : List (List UInt8)},l.length ≤ f → L.length ≤ 1048576 → (zcc L l).2.length ≤ 1048576 ∧ 0 ≤ (zcc L l).1 ∧ (zcc L l).1 ≤ 1048577
 | _,L, [],_,h => ⟨zni h _,zow h _⟩
 | _,L, [x],_,h => ⟨zni h _,zow h _⟩
 | 0,L,x :: y :: r,hf,h => by simp at hf
 | f + 1,L,x :: y :: r,hf,h => by
  have hs := zbZ (n := (x :: y :: r).length) (by simp)
  rw [zux (by simp)]
  have h1 := (zcu f (L := L) (l := (x :: y :: r).take (zk (x :: y :: r).length)) (by rw [List.length_take]; omega) h).1
  have h2 := (zcu f (L := (zcc L ((x :: y :: r).take (zk (x :: y :: r).length))).2) (l := (x :: y :: r).drop (zk (x :: y :: r).length)) (by rw [List.length_drop]; omega) h1).1
  exact ⟨zni h2 _,zow h2 _⟩
theorem c_r5Leaf {σ : List zg} {id : Nat} {L : List (List UInt8)} {b : List UInt8} (hT : σ[id]? = some (rtO L)) (hL : L.length ≤ 1048576) (hb : b.length ≤ 1073740000) {K : KT}
  (hK : K (.d (.int .i64 (zee L (zoV b)))) (σ.set id (rtO (zfe L (zoV b))))) : zq Tryz.prog zoK [.box id 0, .d (.slice (bcs b))] σ K := by
 refine zga e_r05_Leaf fun hl => ?_
 simp only [zui,iN,bT,bF,eN]
 refine gq1 ?_
 refine c_r5leaf (by omega) ?_
 refine gq1 ?_
 refine zjC hT (by simp [zoV]; omega) hL ?_
 refine gq1 ?_
 exact zck (by simp) (by simp [zcO,dmT,dm,dm1,zbY]) (hl.setO (zfn _ _)) hK
theorem c_r5Node {σ : List zg} {id : Nat} {L : List (List UInt8)} {l r : Int} (hT : σ[id]? = some (rtO L)) (hL : L.length ≤ 1048576) (hl1 : l ≤ 9223372036854775807) (hr1 : r ≤ 9223372036854775807) {K : KT}
  (hK : K (.d (.int .i64 (zee L (zit l r)))) (σ.set id (rtO (zfe L (zit l r))))) : zq Tryz.prog zoJ [.box id 0, .d (.int .i64 l), .d (.int .i64 r)] σ K := by
 refine acE3 e_r05_Node fun hl => ?_
 have n1 := zt (n := l.toNat) (by omega)
 have n2 := zt (n := r.toNat) (by omega)
 simp only [zuh,iN,bT,bF,eN]
 refine gq1 ?_
 refine zvo hl1 hr1 ?_
 refine gq1 ?_
 refine zjC hT (by simp [zit]; omega) hL ?_
 refine gq1 ?_
 exact zck (by simp) (by simp [zcO,dmT,dm,dm1,zbY]) (hl.setO (zfn _ _)) hK
theorem c_r5RootA : ∀ (f : Nat) {σ : List zg} {id : Nat} {L l : List (List UInt8)},l.length ≤ f → σ[id]? = some (rtO L) → L.length ≤ 1048576 → l.length ≤ 1073741824 → (∀ x ∈ l,x.length ≤ 1073740000) → ∀ {K : KT},
  K (.d (.int .i64 (zcc L l).1)) (σ.set id (rtO (zcc L l).2)) → zq Tryz.prog zfu [.box id 0, .d (.slice (zdo l))] σ K := by
 intro f
 induction f with
 | zero =>
  intro σ id L l hf hT hL hn hx K hK
  have : l = [] := List.eq_nil_of_length_eq_zero (by omega)
  subst this
  refine zga zlE fun hl => ?_
  simp only [ziU,iN,bT,bF,eN]
  refine gq1 ?_
  refine zjC (b := [2]) hT (by simp) hL ?_
  refine gq1 ?_
  exact zck (by simp) (by simp [zcO,dmT,dm,dm1,zbY]) (hl.setO (zfn _ _)) hK
 | succ f ih =>
  intro σ id L l hf hT hL hn hx K hK
  match l,hf,hn,hx,hK with
  | [],_,_,_,hK =>
   refine zga zlE fun hl => ?_
   simp only [ziU,iN,bT,bF,eN]
   refine gq1 ?_
   refine zjC (b := [2]) hT (by simp) hL ?_
   refine gq1 ?_
   exact zck (by simp) (by simp [zcO,dmT,dm,dm1,zbY]) (hl.setO (zfn _ _)) hK
  | [x],_,_,hx,hK =>
   refine zga zlE fun hl => ?_
   simp only [ziU,iN,bT,bF,eN]
   refine gq1 ?_
   refine c_r5Leaf (b := x) hT hL (hx x (by simp)) ?_
   refine gq1 ?_
   exact zck (by simp) (by simp [zcO,dmT,dm,dm1,zbY]) (hl.setO (zfn _ _)) hK
  | x :: y :: r,hf,hn,hx,hK =>
   obtain ⟨l,hle⟩ : ∃ l,x :: y :: r = l := ⟨_,rfl⟩
   have h2 : 2 ≤ l.length := by rw [← hle]; simp
   rw [hle] at hf hn hx hK ⊢
   clear hle
   have hs := zbZ h2
   rw [zux h2] at hK
   refine zga zlE fun hl => ?_
   have hlen : (zdo l).length = l.length := List.length_map ..
   have e0 : ((l.length : Int) == 0) = false := by rw [beq_eq_false_iff_ne]; omega
   have e1 : ((l.length : Int) == 1) = false := by rw [beq_eq_false_iff_ne]; omega
   have htk : List.take (zk l.length) (zdo l) = zdo (l.take (zk l.length)) := by rw [zdo, ← List.map_take]
   have hdr : List.drop (zk l.length) (zdo l) = zdo (l.drop (zk l.length)) := by rw [zdo, ← List.map_drop]
   have htl : List.take l.length (zdo l) = zdo l := List.take_of_length_le (by omega)
   have hone : ∀ e ∈ zdo l,e.length = 1 := zhf (f := fun b => [D.slice (bcs b)]) (fun _ => rfl) l
   have hl1 : (l.take (zk l.length)).length = zk l.length := by rw [List.length_take]; omega
   have hl2 : (l.drop (zk l.length)).length = l.length - zk l.length := List.length_drop
   obtain ⟨g1,g2,g3⟩ := zcu l.length (L := L) (l := l.take (zk l.length)) (by omega) hL
   simp only [ziU,iN,bT,bF,eN]
   refine gq2 (zc hlen (zc e0 e1)) ?_
   refine zrN (by omega) ?_
   refine gq2 (zc hlen htk) ?_
   refine ih (by omega) hT hL (by omega) (fun z hz => hx z (List.mem_of_mem_take hz)) ?_
   obtain ⟨A,hA⟩ : ∃ A,zcc L (l.take (zk l.length)) = A := ⟨_,rfl⟩
   rw [hA] at hK g1 g2 g3 ⊢
   obtain ⟨q1,q2,q3⟩ := zcu l.length (L := A.2) (l := l.drop (zk l.length)) (by omega) g1
   refine gq2 (zc hlen (zc htl hdr)) ?_
   refine ih (by omega) (zbs hT) g1 (by omega) (fun z hz => hx z (List.mem_of_mem_drop hz)) ?_
   obtain ⟨B,hB⟩ : ∃ B,zcc A.2 (l.drop (zk l.length)) = B := ⟨_,rfl⟩
   rw [hB] at hK q1 q2 q3 ⊢
   rw [List.set_set]
   refine gq1 ?_
   refine c_r5Node (zbs hT) q1 (by omega) (by omega) ?_
   rw [List.set_set]
   refine gq1 ?_
   exact zck (by simp) (by simp [zcO,dmT,dm,dm1,zbY]) (hl.setO (zfn _ _)) hK
theorem c_r5Root {σ : List zg} {id : Nat} {L l : List (List UInt8)} (hT : σ[id]? = some (rtO L)) (hL : L.length ≤ 1048576) (hn : l.length ≤ 1073741824) (hx : ∀ x ∈ l,x.length ≤ 1073740000) {K : KT}
  (hK : K (.d (.int .i64 (zcc L l).1)) (σ.set id (rtO (zcc L l).2))) : zq Tryz.prog zfu [.box id 0, .d (.slice (zdo l))] σ K := c_r5RootA l.length (Nat.le_refl _) hT hL hn hx hK
theorem ztb {σ : List zg} {id m t : Nat} {L : List (List UInt8)} (hT : zcd σ id m t L) (L1 L2 : List (List UInt8)) : putTab (putTab σ id m t L1) id m t L2 = putTab σ id m t L2 := by
 obtain ⟨n1,n2,n3⟩ := hT.ne
 unfold putTab
 apply List.ext_getElem?
 intro i
 simp only [List.getElem?_set,List.length_set]
 by_cases h1 : m = i
 ·simp [h1]
 ·by_cases h2 : id = i
  ·simp [h1,h2]
  ·by_cases h3 : t = i
   ·simp [h1,h2,h3]
   ·simp [h1,h2,h3]
theorem c_mkLeaf {σ : List zg} {id m t : Nat} {L : List (List UInt8)} {b : List UInt8} (hT : zcd σ id m t L) (hL : L.length ≤ 1048576) (hb : b.length ≤ 1073740000) {K : KT}
  (hK : K (.d (.int .i64 (zee L (zoV b)))) (putTab σ id m t (zfe L (zoV b)))) : zq Tryz.prog zjs [.box id 0, .d (.slice (bcs b))] σ K := by
 refine zga zuZ fun hl => ?_
 simp only [zok,iN,bT,bF,eN]
 refine gq1 ?_
 refine c_mkleaf (by omega) ?_
 refine gq1 ?_
 refine ztJ hT (by simp [zoV]; omega) hL ?_
 refine gq1 ?_
 exact zck (zcr ..) (by simp [zcO,dmT,dm,dm1,zbY]) (hT.lows hl _) hK
theorem c_mkNode {σ : List zg} {id m t : Nat} {L : List (List UInt8)} {l r : Int} (hT : zcd σ id m t L) (hL : L.length ≤ 1048576) (hl1 : l ≤ 9223372036854775807) (hr1 : r ≤ 9223372036854775807) {K : KT}
  (hK : K (.d (.int .i64 (zee L (zit l r)))) (putTab σ id m t (zfe L (zit l r)))) : zq Tryz.prog zjr [.box id 0, .d (.int .i64 l), .d (.int .i64 r)] σ K := by
 refine acE3 zuY fun hl => ?_
 have n1 := zt (n := l.toNat) (by omega)
 have n2 := zt (n := r.toNat) (by omega)
 simp only [zoj,iN,bT,bF,eN]
 refine gq1 ?_
 refine zvp hl1 hr1 ?_
 refine gq1 ?_
 refine ztJ hT (by simp [zit]; omega) hL ?_
 refine gq1 ?_
 exact zck (zcr ..) (by simp [zcO,dmT,dm,dm1,zbY]) (hT.lows hl _) hK
theorem c_mkRootA : ∀ (f : Nat) {σ : List zg} {id m t : Nat} {L l : List (List UInt8)},l.length ≤ f → zcd σ id m t L → L.length ≤ 1048576 → l.length ≤ 1073741824 → (∀ x ∈ l,x.length ≤ 1073740000) → ∀ {K : KT},
  K (.d (.int .i64 (zcc L l).1)) (putTab σ id m t (zcc L l).2) → zq Tryz.prog zcV [.box id 0, .d (.slice (zdo l))] σ K := by
 intro f
 induction f with
 | zero =>
  intro σ id m t L l hf hT hL hn hx K hK
  have : l = [] := List.eq_nil_of_length_eq_zero (by omega)
  subst this
  refine zga zgR fun hl => ?_
  simp only [zfa,iN,bT,bF,eN]
  refine gq1 ?_
  refine ztJ (b := [2]) hT (by simp) hL ?_
  refine gq1 ?_
  exact zck (zcr ..) (by simp [zcO,dmT,dm,dm1,zbY]) (hT.lows hl _) hK
 | succ f ih =>
  intro σ id m t L l hf hT hL hn hx K hK
  match l,hf,hn,hx,hK with
  | [],_,_,_,hK =>
   refine zga zgR fun hl => ?_
   simp only [zfa,iN,bT,bF,eN]
   refine gq1 ?_
   refine ztJ (b := [2]) hT (by simp) hL ?_
   refine gq1 ?_
   exact zck (zcr ..) (by simp [zcO,dmT,dm,dm1,zbY]) (hT.lows hl _) hK
  | [x],_,_,hx,hK =>
   refine zga zgR fun hl => ?_
   simp only [zfa,iN,bT,bF,eN]
   refine gq1 ?_
   refine c_mkLeaf (b := x) hT hL (hx x (by simp)) ?_
   refine gq1 ?_
   exact zck (zcr ..) (by simp [zcO,dmT,dm,dm1,zbY]) (hT.lows hl _) hK
  | x :: y :: r,hf,hn,hx,hK =>
   obtain ⟨l,hle⟩ : ∃ l,x :: y :: r = l := ⟨_,rfl⟩
   have h2 : 2 ≤ l.length := by rw [← hle]; simp
   rw [hle] at hf hn hx hK ⊢
   clear hle
   have hs := zbZ h2
   rw [zux h2] at hK
   refine zga zgR fun hl => ?_
   have hlen : (zdo l).length = l.length := List.length_map ..
   have e0 : ((l.length : Int) == 0) = false := by rw [beq_eq_false_iff_ne]; omega
   have e1 : ((l.length : Int) == 1) = false := by rw [beq_eq_false_iff_ne]; omega
   have htk : List.take (zk l.length) (zdo l) = zdo (l.take (zk l.length)) := by rw [zdo, ← List.map_take]
   have hdr : List.drop (zk l.length) (zdo l) = zdo (l.drop (zk l.length)) := by rw [zdo, ← List.map_drop]
   have htl : List.take l.length (zdo l) = zdo l := List.take_of_length_le (by omega)
   have hone : ∀ e ∈ zdo l,e.length = 1 := zhf (f := fun b => [D.slice (bcs b)]) (fun _ => rfl) l
   have hl1 : (l.take (zk l.length)).length = zk l.length := by rw [List.length_take]; omega
   have hl2 : (l.drop (zk l.length)).length = l.length - zk l.length := List.length_drop
   obtain ⟨g1,g2,g3⟩ := zcu l.length (L := L) (l := l.take (zk l.length)) (by omega) hL
   simp only [zfa,iN,bT,bF,eN]
   refine gq2 (zc hlen (zc e0 e1)) ?_
   refine znS (by omega) ?_
   refine gq2 (zc hlen htk) ?_
   refine ih (by omega) hT hL (by omega) (fun z hz => hx z (List.mem_of_mem_take hz)) ?_
   obtain ⟨A,hA⟩ : ∃ A,zcc L (l.take (zk l.length)) = A := ⟨_,rfl⟩
   rw [hA] at hK g1 g2 g3 ⊢
   obtain ⟨q1,q2,q3⟩ := zcu l.length (L := A.2) (l := l.drop (zk l.length)) (by omega) g1
   refine gq2 (zc hlen (zc htl hdr)) ?_
   refine ih (by omega) (hT.put A.2) g1 (by omega) (fun z hz => hx z (List.mem_of_mem_drop hz)) ?_
   obtain ⟨B,hB⟩ : ∃ B,zcc A.2 (l.drop (zk l.length)) = B := ⟨_,rfl⟩
   rw [hB] at hK q1 q2 q3 ⊢
   rw [ztb hT]
   refine gq1 ?_
   refine c_mkNode (hT.put B.2) q1 (by omega) (by omega) ?_
   rw [ztb hT]
   refine gq1 ?_
   exact zck (zcr ..) (by simp [zcO,dmT,dm,dm1,zbY]) (hT.lows hl _) hK
theorem c_mkRoot {σ : List zg} {id m t : Nat} {L l : List (List UInt8)} (hT : zcd σ id m t L) (hL : L.length ≤ 1048576) (hn : l.length ≤ 1073741824) (hx : ∀ x ∈ l,x.length ≤ 1073740000) {K : KT}
  (hK : K (.d (.int .i64 (zcc L l).1)) (putTab σ id m t (zcc L l).2)) : zq Tryz.prog zcV [.box id 0, .d (.slice (zdo l))] σ K := c_mkRootA l.length (Nat.le_refl _) hT hL hn hx hK
end Go.Proofs.YtfjommppajkpoaaGreat

/- Votes: their bytes, and whether they are signed. No program in sight. -/
namespace Go.AW
abbrev zbd (l : List Int) : List (List D) := l.map fun t => [D.int .i64 t]
def zdd (x : Int) : Bool := decide (0 ≤ x ∧ x ≤ 9007199254740992)
def zrb (a b c d : Int) : Bool := zdd a && (zdd b && (zdd c && zdd d))
def zgK (l : List Int) : List UInt8 := (l.map fun x => zcn x.toNat).flatten
def zka (a b c d : Int) : List UInt8 := 4 :: zgK [a,b,c,d]
theorem znr {x : Int} : zdd x = true ↔ 0 ≤ x ∧ x ≤ 9007199254740992 := by simp [zdd]
theorem zlx {l : List Int} {k : Nat} {x : Int} (h : l[k]? = some x) : zgK (l.take (k + 1)) = zgK (l.take k) ++ zcn x.toNat := by
 rw [List.take_add_one,h]; simp [zgK]
theorem zkA {l : List Int} (h : ∀ x ∈ l,x < 9223372036854775808) : (zgK l).length ≤ l.length * 10 := by
 induction l with
 | nil => simp [zgK]
 | cons x l ih =>
  have h1 := h x (by simp)
  have h2 := zt (n := x.toNat) (by omega)
  have h3 := ih fun y hy => h y (by simp [hy])
  simp only [zgK,List.map_cons,List.flatten_cons,List.length_append,List.length_cons] at h3 ⊢
  omega
theorem voteB_len {a b c d : Int} (h : zrb a b c d = true) : (zka a b c d).length ≤ 50 := by
 simp only [zrb,Bool.and_eq_true,znr] at h
 have := zkA (l := [a,b,c,d]) (by intro x hx; simp at hx; omega)
 simp only [zka,List.length_cons,List.length_nil] at this ⊢
 omega
theorem mayV_all (a b c d : Int) : zrb a b c d = [a,b,c,d].all zdd := by simp [zrb]
def zfm (L : List (List UInt8)) (G : List zI) (s : zI) (key : Int) (b : List UInt8) : Bool := match zcN L b with
 | some i => decide (s.key = key ∧ s.dig = ((i + 1 : Nat) : Int)) && decide (s ∈ G)
 | none => false
def zin (L : List (List UInt8)) (G : List zI) (s : zI) (key a b c d : Int) : Bool := zrb a b c d && zfm L G s key (zka a b c d)
end Go.AW
