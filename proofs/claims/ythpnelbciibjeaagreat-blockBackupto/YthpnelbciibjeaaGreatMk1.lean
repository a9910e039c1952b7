/- Contracts: where a list is parted, how long a proof is, leaves and nodes, on both sides. -/
import Derived.Test.YthpnelbciibjeaaGreatId3
import Derived.Test.YthpnelbciibjeaaGreatCodec1
import Derived.Test.YthpnelbciibjeaaGreatSpTake
import Derived.Test.YthpnelbciibjeaaGreatRq2
set_option linter.all false
set_option maxRecDepth 100000
set_option linter.unusedSimpArgs false
set_option linter.unusedVariables false
namespace Go.Proofs.YthpnelbciibjeaaGreat
open Go.AW

theorem c_mkSplit {σ : List zc} {n : Nat} (hn : n ≤ 4611686018427387904) {K : AV → List zc → Prop} (hK : K (.d (.int .i64 (zad n : Nat))) σ) : zt Tryz.prog zfY [.d (.int .i64 n)] σ K := by
  refine ziI zng fun hl => ?_
  have fin : ∀ z, zad n = z → K (.d (.int .i64 (z : Nat))) σ := fun z h => h ▸ hK
  clear hK
  simp only [ziJ, iN, bT, bF, eN]
  by_cases h : n < 2
  · have hd : decide ((n : Int) < 2) = true := by simp; omega
    refine gq2 hd ?_
    refine zcg hl ?_
    exact fin 0 (if_pos h)
  · have hd : decide ((n : Int) < 2) = false := by simp; omega
    refine gq2 hd ?_
    refine zaa n (fun j vs s => s = σ ∧ ∃ k : Nat, vs = [.d (.int .i64 k)] ∧ 1 ≤ k ∧ k < n ∧ j ≤ k ∧ zad n = zfJ n k n) ⟨rfl, 1, rfl, by omega, by omega, by omega, if_neg h⟩ ?_
    rintro j vs s hj ⟨rfl, k, rfl, hk1, hk2, hjk, hsp⟩
    have hw1 : IntKind.i64.wrap ((n : Int) - (k : Int)) = ((n - k : Nat) : Int) := by rw [zbb (by omega) (by omega)]; omega
    by_cases hlt : k < n - k
    · have hd2 : decide ((k : Int) < ((n - k : Nat) : Int)) = true := by simp; omega
      have hw2 : IntKind.i64.wrap ((k : Int) * 2) = ((k * 2 : Nat) : Int) := by rw [zbb (by omega) (by omega)]; omega
      refine gq2 (zg hw1 (zg hd2 hw2)) ?_
      refine zdb.to (j + 1) (by omega) (by omega) ⟨rfl, k * 2, rfl, by omega, by omega, by omega, ?_⟩
      rw [hsp, zlS n k n hk1 (by omega) hlt]
    · have hd2 : decide ((k : Int) < ((n - k : Nat) : Int)) = false := by simp; omega
      refine gq2 (zg hw1 hd2) ?_
      refine zcg hl ?_
      exact fin k (by rw [hsp, ziO _ _ _ hlt])
theorem c_mkleaf {σ : List zc} {b : List UInt8} (hb : b.length ≤ 1073741000) {K : AV → List zc → Prop} (hK : K (.d (.slice (bcs (leafB b)))) σ) : zt Tryz.prog zgE [.d (.slice (bcs b))] σ K := by
  refine ziI zoE fun hl => ?_
  have hlen := zaN b
  have h1 := zdo (bs := b)
  simp only [zkb, iN, bT, bF, eN]
  refine gq2 hlen ?_
  refine zcg hl ?_
  exact hK
theorem maxn (x : Int) : (if 0 > x then 0 else x) = ((x.toNat : Nat) : Int) ∧ (if x > 0 then x else 0) = ((x.toNat : Nat) : Int) := by
  constructor <;> split <;> omega
theorem gq25 {A P Q : Prop} (a : A) (h : Q) (e : A → Hd Q → P := by intro a h; (repeat' first | simp -dsimp only [↓zit, ↓zbj, ↓zcR, ↓ziu, ↓zik, ↓zii, ↓zil, ↓zij, ↓zcW, ↓zcS, ↓zcX, ↓zcT, ↓zim, ↓zcN, ↓zcY, ↓zcU, ↓zcZ, ↓zcV, ↓zig, ↓zis, ↓zcL, ↓zda, ↓zic, ↓zib, ↓zif, iN, bT, bF, eN, ↓zet, ↓unC, ↓zW, ↓zR, ↓zS, ↓zY, ↓zaD, ↓zbk, ↓zdA, ↓zac, ↓zcB, ↓zaz, ↓zr, ↓zm, ↓zcr, ↓zh, ↓zau, ↓zab, ↓zbl, ↓zbi, ↓zd, ↓zK, ↓zn, ↓zI, ↓zay, ↓zeF, ↓zfd, ↓zaf, ↓zaT, ↓zba, ↓zbx, ↓zcd, ↓zG, ↓zav, ↓zO, ↓zC, ↓zaC, zeX, zcz, zcq, unA, zeU, bnd, zgc, zaj, zat, zfI, dm, dm1, zA, zaQ, zgP, zgO, zal, Q0, Q1, Q2, Q3, Q4, Q5, zaB, zy, zq, zar, zU, Q6, Q7, Q8, Q9, Q10, Q11, Q12, Q13, Q14, Nat.reduceAdd, Q15, Int.reduceToNat, Q16, Q17, Q18, Q19, Q20, reduceIte, Q21, Q22, zE, rep, zT, zgz, toD, zae, Q23, Q24, Q25, Q26, Q27, Q28, Nat.reduceLeDiff, Q29, Nat.reduceSub, Q30, Q31, Q32, sc, Q33, Q34, Q35, Q36, Q37, Q26, Q38, Q39, n0gt, n1gt, n2gt, n0eq, ziS, n1eq, n2eq, n0ne, n1ne, ziR, ziT, i0ne, i0eq, Bool.not_true, Bool.not_false, List.length_map, m1, a] | with_reducible refine andA ?_ | fail); exact h.go) : P := e a ⟨h⟩
theorem c_mknode {σ : List zc} {l r : Int} (hl1 : l ≤ 9223372036854775807) (hr1 : r ≤ 9223372036854775807) {K : AV → List zc → Prop} (hK : K (.d (.slice (bcs (zmX l r)))) σ) : zt Tryz.prog zgD [.d (.int .i64 l), .d (.int .i64 r)] σ K := by
  refine zlh zoD fun hl => ?_
  obtain ⟨m1, m2⟩ := maxn l
  obtain ⟨m3, m4⟩ := maxn r
  have hw1 : IntKind.u64.wrap ((l.toNat : Nat) : Int) = ((l.toNat : Nat) : Int) := zbP (by omega)
  have hw2 : IntKind.u64.wrap ((r.toNat : Nat) : Int) = ((r.toNat : Nat) : Int) := zbP (by omega)
  have n1 := zk (n := l.toNat) (by omega)
  simp only [zka, iN, bT, bF, eN]
  refine gq25 (zg m2 hw1) ?_
  refine zcG (b := [1]) (by omega) (by simp) ?_
  refine gq2 (zg m3 (zg m4 hw2)) ?_
  refine zcG (b := 1 :: zbc l.toNat) (by omega) (by simp; omega) ?_
  refine gq1 ?_
  refine zcg hl ?_
  exact hK

theorem zoc {L : List (List UInt8)} (h : L.length ≤ 1048576) (b : List UInt8) : (zge L b).length ≤ 1048576 := by
  unfold zge
  split
  · exact h
  · split
    · exact h
    · simp; omega
theorem zkr {L : List (List UInt8)} (h : L.length ≤ 1048576) (b : List UInt8) : 0 ≤ ziN L b ∧ ziN L b ≤ 1048577 := by
  unfold ziN
  split
  · rename_i i hi
    have := (lookF_lt hi).1
    omega
  · split
    · omega
    · omega
theorem zgg : ∀ (f : Nat) {L l : List (List UInt8)}, l.length ≤ f → L.length ≤ 1048576 → (zdi L l).2.length ≤ 1048576 ∧ 0 ≤ (zdi L l).1 ∧ (zdi L l).1 ≤ 1048577
  | _, L, [], _, h => ⟨zoc h _, zkr h _⟩
  | _, L, [x], _, h => ⟨zoc h _, zkr h _⟩
  | 0, L, x :: y :: r, hf, h => by simp at hf
  | f + 1, L, x :: y :: r, hf, h => by
    have hs := zjq (n := (x :: y :: r).length) (by simp)
    rw [rootF_2 (by simp)]
    have h1 := (zgg f (L := L) (l := (x :: y :: r).take (zad (x :: y :: r).length)) (by rw [List.length_take]; omega) h).1
    have h2 := (zgg f (L := (zdi L ((x :: y :: r).take (zad (x :: y :: r).length))).2) (l := (x :: y :: r).drop (zad (x :: y :: r).length)) (by rw [List.length_drop]; omega) h1).1
    exact ⟨zoc h2 _, zkr h2 _⟩
theorem zkt {σ : List zc} {id m t : Nat} {L : List (List UInt8)} (hT : zby σ id m t L) (L1 L2 : List (List UInt8)) : putTab (putTab σ id m t L1) id m t L2 = putTab σ id m t L2 := by
  obtain ⟨n1, n2, n3⟩ := hT.ne
  unfold putTab
  apply List.ext_getElem?
  intro i
  simp only [List.getElem?_set, List.length_set]
  by_cases h1 : m = i
  · simp [h1]
  · by_cases h2 : id = i
    · simp [h1, h2]
    · by_cases h3 : t = i
      · simp [h1, h2, h3]
      · simp [h1, h2, h3]
theorem c_mkLeaf {σ : List zc} {id m t : Nat} {L : List (List UInt8)} {b : List UInt8} (hT : zby σ id m t L) (hL : L.length ≤ 1048576) (hb : b.length ≤ 1073740000) {K : AV → List zc → Prop}
    (hK : K (.d (.int .i64 (ziN L (leafB b)))) (putTab σ id m t (zge L (leafB b)))) : zt Tryz.prog zgG [.box id 0, .d (.slice (bcs b))] σ K := by
  refine zlh zoG fun hl => ?_
  simp only [zkd, iN, bT, bF, eN]
  refine gq1 ?_
  refine c_mkleaf (by omega) ?_
  refine gq1 ?_
  refine zld hT (by simp [leafB]; omega) hL ?_
  refine gq1 ?_
  exact zdK (zaL ..) (by simp [zdq, dmT, dm, dm1, zbz]) (hT.lows hl _) hK
theorem c_mkNode {σ : List zc} {id m t : Nat} {L : List (List UInt8)} {l r : Int} (hT : zby σ id m t L) (hL : L.length ≤ 1048576) (hl1 : l ≤ 9223372036854775807) (hr1 : r ≤ 9223372036854775807) {K : AV → List zc → Prop}
    (hK : K (.d (.int .i64 (ziN L (zmX l r)))) (putTab σ id m t (zge L (zmX l r)))) : zt Tryz.prog zgF [.box id 0, .d (.int .i64 l), .d (.int .i64 r)] σ K := by
  refine acE3 zoF fun hl => ?_
  have n1 := zk (n := l.toNat) (by omega)
  have n2 := zk (n := r.toNat) (by omega)
  simp only [zkc, iN, bT, bF, eN]
  refine gq1 ?_
  refine c_mknode hl1 hr1 ?_
  refine gq1 ?_
  refine zld hT (by simp [zmX]; omega) hL ?_
  refine gq1 ?_
  exact zdK (zaL ..) (by simp [zdq, dmT, dm, dm1, zbz]) (hT.lows hl _) hK
theorem c_mkRootA : ∀ (f : Nat) {σ : List zc} {id m t : Nat} {L l : List (List UInt8)}, l.length ≤ f → zby σ id m t L → L.length ≤ 1048576 → l.length ≤ 1073741824 → (∀ x ∈ l, x.length ≤ 1073740000) → ∀ {K : AV → List zc → Prop},
    K (.d (.int .i64 (zdi L l).1)) (putTab σ id m t (zdi L l).2) → zt Tryz.prog zbU [.box id 0, .d (.slice (zkm l))] σ K := by
  intro f
  induction f with
  | zero =>
    intro σ id m t L l hf hT hL hn hx K hK
    have : l = [] := List.eq_nil_of_length_eq_zero (by omega)
    subst this
    refine zlh zeV fun hl => ?_
    simp only [zdS, iN, bT, bF, eN]
    refine gq1 ?_
    refine zld (b := [2]) hT (by simp) hL ?_
    refine gq1 ?_
    exact zdK (zaL ..) (by simp [zdq, dmT, dm, dm1, zbz]) (hT.lows hl _) hK
  | succ f ih =>
    intro σ id m t L l hf hT hL hn hx K hK
    match l, hf, hn, hx, hK with
    | [], _, _, _, hK =>
      refine zlh zeV fun hl => ?_
      simp only [zdS, iN, bT, bF, eN]
      refine gq1 ?_
      refine zld (b := [2]) hT (by simp) hL ?_
      refine gq1 ?_
      exact zdK (zaL ..) (by simp [zdq, dmT, dm, dm1, zbz]) (hT.lows hl _) hK
    | [x], _, _, hx, hK =>
      refine zlh zeV fun hl => ?_
      simp only [zdS, iN, bT, bF, eN]
      refine gq1 ?_
      refine c_mkLeaf (b := x) hT hL (hx x (by simp)) ?_
      refine gq1 ?_
      exact zdK (zaL ..) (by simp [zdq, dmT, dm, dm1, zbz]) (hT.lows hl _) hK
    | x :: y :: r, hf, hn, hx, hK =>
      obtain ⟨l, hle⟩ : ∃ l, x :: y :: r = l := ⟨_, rfl⟩
      have h2 : 2 ≤ l.length := by rw [← hle]; simp
      rw [hle] at hf hn hx hK ⊢
      clear hle
      have hs := zjq h2
      rw [rootF_2 h2] at hK
      refine zlh zeV fun hl => ?_
      have hlen : (zkm l).length = l.length := List.length_map ..
      have e0 : ((l.length : Int) == 0) = false := by rw [beq_eq_false_iff_ne]; omega
      have e1 : ((l.length : Int) == 1) = false := by rw [beq_eq_false_iff_ne]; omega
      have htk : List.take (zad l.length) (zkm l) = zkm (l.take (zad l.length)) := by rw [zkm, ← List.map_take]
      have hdr : List.drop (zad l.length) (zkm l) = zkm (l.drop (zad l.length)) := by rw [zkm, ← List.map_drop]
      have htl : List.take l.length (zkm l) = zkm l := List.take_of_length_le (by omega)
      have hone : ∀ e ∈ zkm l, e.length = 1 := one_len (f := fun b => [D.slice (bcs b)]) (fun _ => rfl) l
      have hl1 : (l.take (zad l.length)).length = zad l.length := by rw [List.length_take]; omega
      have hl2 : (l.drop (zad l.length)).length = l.length - zad l.length := List.length_drop
      obtain ⟨g1, g2, g3⟩ := zgg l.length (L := L) (l := l.take (zad l.length)) (by omega) hL
      simp only [zdS, iN, bT, bF, eN]
      refine gq2 (zg hlen (zg e0 e1)) ?_
      refine c_mkSplit (by omega) ?_
      refine gq2 (zg hlen htk) ?_
      refine ih (by omega) hT hL (by omega) (fun z hz => hx z (List.mem_of_mem_take hz)) ?_
      obtain ⟨A, hA⟩ : ∃ A, zdi L (l.take (zad l.length)) = A := ⟨_, rfl⟩
      rw [hA] at hK g1 g2 g3 ⊢
      obtain ⟨q1, q2, q3⟩ := zgg l.length (L := A.2) (l := l.drop (zad l.length)) (by omega) g1
      refine gq2 (zg hlen (zg htl hdr)) ?_
      refine ih (by omega) (hT.put A.2) g1 (by omega) (fun z hz => hx z (List.mem_of_mem_drop hz)) ?_
      obtain ⟨B, hB⟩ : ∃ B, zdi A.2 (l.drop (zad l.length)) = B := ⟨_, rfl⟩
      rw [hB] at hK q1 q2 q3 ⊢
      rw [zkt hT]
      refine gq1 ?_
      refine c_mkNode (hT.put B.2) q1 (by omega) (by omega) ?_
      rw [zkt hT]
      refine gq1 ?_
      exact zdK (zaL ..) (by simp [zdq, dmT, dm, dm1, zbz]) (hT.lows hl _) hK
theorem c_mkRoot {σ : List zc} {id m t : Nat} {L l : List (List UInt8)} (hT : zby σ id m t L) (hL : L.length ≤ 1048576) (hn : l.length ≤ 1073741824) (hx : ∀ x ∈ l, x.length ≤ 1073740000) {K : AV → List zc → Prop}
    (hK : K (.d (.int .i64 (zdi L l).1)) (putTab σ id m t (zdi L l).2)) : zt Tryz.prog zbU [.box id 0, .d (.slice (zkm l))] σ K := c_mkRootA l.length (Nat.le_refl _) hT hL hn hx hK
end Go.Proofs.YthpnelbciibjeaaGreat
