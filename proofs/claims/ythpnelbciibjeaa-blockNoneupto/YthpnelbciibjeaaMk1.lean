/- Contracts: where a list is parted, how long a proof is, leaves and nodes, on both sides. -/
import Derived.Test.YthpnelbciibjeaaId3
import Derived.Test.YthpnelbciibjeaaCodec1
import Derived.Test.YthpnelbciibjeaaSpTake
import Derived.Test.YthpnelbciibjeaaRq2
set_option linter.all false
set_option maxRecDepth 100000
set_option linter.unusedSimpArgs false
set_option linter.unusedVariables false
namespace Go.Proofs.Ythpnelbciibjeaa
open Go.AW

theorem c_mkSplit {σ : List zc} {n : Nat} (hn : n ≤ 4611686018427387904) {K : AV → List zc → Prop} (hK : K (.d (.int .i64 (zab n : Nat))) σ) : zj Try.prog zfJ [.d (.int .i64 n)] σ K := by
  refine zhr zmA fun hl => ?_
  have fin : ∀ z, zab n = z → K (.d (.int .i64 (z : Nat))) σ := fun z h => h ▸ hK
  clear hK
  simp only [ziy, iN, bT, bF, eN]
  by_cases h : n < 2
  · have hd : decide ((n : Int) < 2) = true := by simp; omega
    refine gq2 hd ?_
    refine zbD hl ?_
    exact fin 0 (if_pos h)
  · have hd : decide ((n : Int) < 2) = false := by simp; omega
    refine gq2 hd ?_
    refine zV n (fun j vs s => s = σ ∧ ∃ k : Nat, vs = [.d (.int .i64 k)] ∧ 1 ≤ k ∧ k < n ∧ j ≤ k ∧ zab n = zfy n k n) ⟨rfl, 1, rfl, by omega, by omega, by omega, if_neg h⟩ ?_
    rintro j vs s hj ⟨rfl, k, rfl, hk1, hk2, hjk, hsp⟩
    have hw1 : IntKind.i64.wrap ((n : Int) - (k : Int)) = ((n - k : Nat) : Int) := by rw [zbJ (by omega) (by omega)]; omega
    by_cases hlt : k < n - k
    · have hd2 : decide ((k : Int) < ((n - k : Nat) : Int)) = true := by simp; omega
      have hw2 : IntKind.i64.wrap ((k : Int) * 2) = ((k * 2 : Nat) : Int) := by rw [zbJ (by omega) (by omega)]; omega
      refine gq2 (zg hw1 (zg hd2 hw2)) ?_
      refine zcd.to (j + 1) (by omega) (by omega) ⟨rfl, k * 2, rfl, by omega, by omega, by omega, ?_⟩
      rw [hsp, zlk n k n hk1 (by omega) hlt]
    · have hd2 : decide ((k : Int) < ((n - k : Nat) : Int)) = false := by simp; omega
      refine gq2 (zg hw1 hd2) ?_
      refine zbD hl ?_
      exact fin k (by rw [hsp, ziC _ _ _ hlt])
theorem c_mkleaf {σ : List zc} {b : List UInt8} (hb : b.length ≤ 1073741000) {K : AV → List zc → Prop} (hK : K (.d (.slice (bcs (leafB b)))) σ) : zj Try.prog zgu [.d (.slice (bcs b))] σ K := by
  refine zhr znS fun hl => ?_
  have hlen := zbN b
  have h1 := zfL (bs := b)
  simp only [zjC, iN, bT, bF, eN]
  refine gq2 hlen ?_
  refine zbD hl ?_
  exact hK
theorem maxn (x : Int) : (if 0 > x then 0 else x) = ((x.toNat : Nat) : Int) ∧ (if x > 0 then x else 0) = ((x.toNat : Nat) : Int) := by
  constructor <;> split <;> omega
theorem gq25 {A P Q : Prop} (a : A) (h : Q) (e : A → Hd Q → P := by intro a h; (repeat' first | simp -dsimp only [↓ziv, ↓zbi, ↓zcW, ↓zix, ↓zio, ↓zim, ↓ziq, ↓zin, ↓zdb, ↓zcX, ↓zdc, ↓zcY, ↓zir, ↓zcU, ↓zdd, ↓zcZ, ↓zde, ↓zda, ↓zil, ↓ziu, ↓zcS, ↓zdf, ↓zia, ↓zhZ, ↓zij, iN, bT, bF, eN, ↓zeU, ↓unC, ↓zah, ↓zR, ↓zS, ↓zad, ↓zaG, ↓zbl, ↓zea, ↓zaj, ↓zcA, ↓zau, ↓zu, ↓zo, ↓zcT, ↓zi, ↓zax, ↓zac, ↓zbm, ↓zbg, ↓zd, ↓zK, ↓zq, ↓zJ, ↓zaI, ↓zeE, ↓zfi, ↓zat, ↓zaW, ↓zaY, ↓zbC, ↓zck, ↓zG, ↓zaA, ↓zQ, ↓zF, ↓zaE, zfb, zcF, zcr, unA, zfm, bnd, zfY, zap, zaw, zfQ, dm, dm1, zA, zaT, zgP, zgO, zZ, Q0, Q1, Q2, Q3, Q4, Q5, zaD, zI, zr, zav, zW, Q6, Q7, Q8, Q9, Q10, Q11, Q12, Q13, Q14, Nat.reduceAdd, Q15, Int.reduceToNat, Q16, Q17, Q18, Q19, Q20, reduceIte, Q21, Q22, zD, rep, zT, zgN, toD, zan, Q23, Q24, Q25, Q26, Q27, Q28, Nat.reduceLeDiff, Q29, Nat.reduceSub, Q30, Q31, Q32, sc, Q33, Q34, Q35, Q36, Q37, Q26, Q38, Q39, n0gt, n1gt, n2gt, n0eq, zhd, n1eq, n2eq, n0ne, n1ne, zhc, zhe, i0ne, i0eq, Bool.not_true, Bool.not_false, List.length_map, m1, a] | with_reducible refine andA ?_ | fail); exact h.go) : P := e a ⟨h⟩
theorem c_mknode {σ : List zc} {l r : Int} (hl1 : l ≤ 9223372036854775807) (hr1 : r ≤ 9223372036854775807) {K : AV → List zc → Prop} (hK : K (.d (.slice (bcs (zms l r)))) σ) : zj Try.prog zgt [.d (.int .i64 l), .d (.int .i64 r)] σ K := by
  refine zla znR fun hl => ?_
  obtain ⟨m1, m2⟩ := maxn l
  obtain ⟨m3, m4⟩ := maxn r
  have hw1 : IntKind.u64.wrap ((l.toNat : Nat) : Int) = ((l.toNat : Nat) : Int) := zcp (by omega)
  have hw2 : IntKind.u64.wrap ((r.toNat : Nat) : Int) = ((r.toNat : Nat) : Int) := zcp (by omega)
  have n1 := zk (n := l.toNat) (by omega)
  simp only [zjB, iN, bT, bF, eN]
  refine gq25 (zg m2 hw1) ?_
  refine zcG (b := [1]) (by omega) (by simp) ?_
  refine gq2 (zg m3 (zg m4 hw2)) ?_
  refine zcG (b := 1 :: zbB l.toNat) (by omega) (by simp; omega) ?_
  refine gq1 ?_
  refine zbD hl ?_
  exact hK

theorem znt {L : List (List UInt8)} (h : L.length ≤ 1048576) (b : List UInt8) : (zfP L b).length ≤ 1048576 := by
  unfold zfP
  split
  · exact h
  · split
    · exact h
    · simp; omega
theorem zjS {L : List (List UInt8)} (h : L.length ≤ 1048576) (b : List UInt8) : 0 ≤ ziB L b ∧ ziB L b ≤ 1048577 := by
  unfold ziB
  split
  · rename_i i hi
    have := (lookF_lt hi).1
    omega
  · split
    · omega
    · omega
theorem zfS : ∀ (f : Nat) {L l : List (List UInt8)}, l.length ≤ f → L.length ≤ 1048576 → (zdi L l).2.length ≤ 1048576 ∧ 0 ≤ (zdi L l).1 ∧ (zdi L l).1 ≤ 1048577
  | _, L, [], _, h => ⟨znt h _, zjS h _⟩
  | _, L, [x], _, h => ⟨znt h _, zjS h _⟩
  | 0, L, x :: y :: r, hf, h => by simp at hf
  | f + 1, L, x :: y :: r, hf, h => by
    have hs := zjb (n := (x :: y :: r).length) (by simp)
    rw [rootF_2 (by simp)]
    have h1 := (zfS f (L := L) (l := (x :: y :: r).take (zab (x :: y :: r).length)) (by rw [List.length_take]; omega) h).1
    have h2 := (zfS f (L := (zdi L ((x :: y :: r).take (zab (x :: y :: r).length))).2) (l := (x :: y :: r).drop (zab (x :: y :: r).length)) (by rw [List.length_drop]; omega) h1).1
    exact ⟨znt h2 _, zjS h2 _⟩
theorem zjU {σ : List zc} {id m t : Nat} {L : List (List UInt8)} (hT : zbr σ id m t L) (L1 L2 : List (List UInt8)) : putTab (putTab σ id m t L1) id m t L2 = putTab σ id m t L2 := by
  obtain ⟨n1, n2, n3⟩ := hT.ne
  unfold putTab
  apply List.ext_getElem?
  intro i
  simp only [List.getElem?_set, List.length_set]
  by_cases h1 : m = i
  · simp [h1]
  · by_cases h2 : id = i
    · simp [h1, h2]
    · by_cases h3 : t = i
      · simp [h1, h2, h3]
      · simp [h1, h2, h3]
theorem c_mkLeaf {σ : List zc} {id m t : Nat} {L : List (List UInt8)} {b : List UInt8} (hT : zbr σ id m t L) (hL : L.length ≤ 1048576) (hb : b.length ≤ 1073740000) {K : AV → List zc → Prop}
    (hK : K (.d (.int .i64 (ziB L (leafB b)))) (putTab σ id m t (zfP L (leafB b)))) : zj Try.prog zgw [.box id 0, .d (.slice (bcs b))] σ K := by
  refine zla znU fun hl => ?_
  simp only [zjE, iN, bT, bF, eN]
  refine gq1 ?_
  refine c_mkleaf (by omega) ?_
  refine gq1 ?_
  refine zkD hT (by simp [leafB]; omega) hL ?_
  refine gq1 ?_
  exact zdE (zaN ..) (by simp [zfO, dmT, dm, dm1, zdg]) (hT.lows hl _) hK
theorem c_mkNode {σ : List zc} {id m t : Nat} {L : List (List UInt8)} {l r : Int} (hT : zbr σ id m t L) (hL : L.length ≤ 1048576) (hl1 : l ≤ 9223372036854775807) (hr1 : r ≤ 9223372036854775807) {K : AV → List zc → Prop}
    (hK : K (.d (.int .i64 (ziB L (zms l r)))) (putTab σ id m t (zfP L (zms l r)))) : zj Try.prog zgv [.box id 0, .d (.int .i64 l), .d (.int .i64 r)] σ K := by
  refine acE3 znT fun hl => ?_
  have n1 := zk (n := l.toNat) (by omega)
  have n2 := zk (n := r.toNat) (by omega)
  simp only [zjD, iN, bT, bF, eN]
  refine gq1 ?_
  refine c_mknode hl1 hr1 ?_
  refine gq1 ?_
  refine zkD hT (by simp [zms]; omega) hL ?_
  refine gq1 ?_
  exact zdE (zaN ..) (by simp [zfO, dmT, dm, dm1, zdg]) (hT.lows hl _) hK
theorem c_mkRootA : ∀ (f : Nat) {σ : List zc} {id m t : Nat} {L l : List (List UInt8)}, l.length ≤ f → zbr σ id m t L → L.length ≤ 1048576 → l.length ≤ 1073741824 → (∀ x ∈ l, x.length ≤ 1073740000) → ∀ {K : AV → List zc → Prop},
    K (.d (.int .i64 (zdi L l).1)) (putTab σ id m t (zdi L l).2) → zj Try.prog zbW [.box id 0, .d (.slice (zjL l))] σ K := by
  intro f
  induction f with
  | zero =>
    intro σ id m t L l hf hT hL hn hx K hK
    have : l = [] := List.eq_nil_of_length_eq_zero (by omega)
    subst this
    refine zla zeS fun hl => ?_
    simp only [zdN, iN, bT, bF, eN]
    refine gq1 ?_
    refine zkD (b := [2]) hT (by simp) hL ?_
    refine gq1 ?_
    exact zdE (zaN ..) (by simp [zfO, dmT, dm, dm1, zdg]) (hT.lows hl _) hK
  | succ f ih =>
    intro σ id m t L l hf hT hL hn hx K hK
    match l, hf, hn, hx, hK with
    | [], _, _, _, hK =>
      refine zla zeS fun hl => ?_
      simp only [zdN, iN, bT, bF, eN]
      refine gq1 ?_
      refine zkD (b := [2]) hT (by simp) hL ?_
      refine gq1 ?_
      exact zdE (zaN ..) (by simp [zfO, dmT, dm, dm1, zdg]) (hT.lows hl _) hK
    | [x], _, _, hx, hK =>
      refine zla zeS fun hl => ?_
      simp only [zdN, iN, bT, bF, eN]
      refine gq1 ?_
      refine c_mkLeaf (b := x) hT hL (hx x (by simp)) ?_
      refine gq1 ?_
      exact zdE (zaN ..) (by simp [zfO, dmT, dm, dm1, zdg]) (hT.lows hl _) hK
    | x :: y :: r, hf, hn, hx, hK =>
      obtain ⟨l, hle⟩ : ∃ l, x :: y :: r = l := ⟨_, rfl⟩
      have h2 : 2 ≤ l.length := by rw [← hle]; simp
      rw [hle] at hf hn hx hK ⊢
      clear hle
      have hs := zjb h2
      rw [rootF_2 h2] at hK
      refine zla zeS fun hl => ?_
      have hlen : (zjL l).length = l.length := List.length_map ..
      have e0 : ((l.length : Int) == 0) = false := by rw [beq_eq_false_iff_ne]; omega
      have e1 : ((l.length : Int) == 1) = false := by rw [beq_eq_false_iff_ne]; omega
      have htk : List.take (zab l.length) (zjL l) = zjL (l.take (zab l.length)) := by rw [zjL, ← List.map_take]
      have hdr : List.drop (zab l.length) (zjL l) = zjL (l.drop (zab l.length)) := by rw [zjL, ← List.map_drop]
      have htl : List.take l.length (zjL l) = zjL l := List.take_of_length_le (by omega)
      have hone : ∀ e ∈ zjL l, e.length = 1 := one_len (f := fun b => [D.slice (bcs b)]) (fun _ => rfl) l
      have hl1 : (l.take (zab l.length)).length = zab l.length := by rw [List.length_take]; omega
      have hl2 : (l.drop (zab l.length)).length = l.length - zab l.length := List.length_drop
      obtain ⟨g1, g2, g3⟩ := zfS l.length (L := L) (l := l.take (zab l.length)) (by omega) hL
      simp only [zdN, iN, bT, bF, eN]
      refine gq2 (zg hlen (zg e0 e1)) ?_
      refine c_mkSplit (by omega) ?_
      refine gq2 (zg hlen htk) ?_
      refine ih (by omega) hT hL (by omega) (fun z hz => hx z (List.mem_of_mem_take hz)) ?_
      obtain ⟨A, hA⟩ : ∃ A, zdi L (l.take (zab l.length)) = A := ⟨_, rfl⟩
      rw [hA] at hK g1 g2 g3 ⊢
      obtain ⟨q1, q2, q3⟩ := zfS l.length (L := A.2) (l := l.drop (zab l.length)) (by omega) g1
      refine gq2 (zg hlen (zg htl hdr)) ?_
      refine ih (by omega) (hT.put A.2) g1 (by omega) (fun z hz => hx z (List.mem_of_mem_drop hz)) ?_
      obtain ⟨B, hB⟩ : ∃ B, zdi A.2 (l.drop (zab l.length)) = B := ⟨_, rfl⟩
      rw [hB] at hK q1 q2 q3 ⊢
      rw [zjU hT]
      refine gq1 ?_
      refine c_mkNode (hT.put B.2) q1 (by omega) (by omega) ?_
      rw [zjU hT]
      refine gq1 ?_
      exact zdE (zaN ..) (by simp [zfO, dmT, dm, dm1, zdg]) (hT.lows hl _) hK
theorem c_mkRoot {σ : List zc} {id m t : Nat} {L l : List (List UInt8)} (hT : zbr σ id m t L) (hL : L.length ≤ 1048576) (hn : l.length ≤ 1073741824) (hx : ∀ x ∈ l, x.length ≤ 1073740000) {K : AV → List zc → Prop}
    (hK : K (.d (.int .i64 (zdi L l).1)) (putTab σ id m t (zdi L l).2)) : zj Try.prog zbW [.box id 0, .d (.slice (zjL l))] σ K := c_mkRootA l.length (Nat.le_refl _) hT hL hn hx hK
end Go.Proofs.Ythpnelbciibjeaa
