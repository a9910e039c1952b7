/- Contracts: where a list is parted, how long a proof is, leaves and nodes, on both sides. -/
import Derived.Test.YthpnelbciibjeaaGreatId4
import Derived.Test.YthpnelbciibjeaaGreatCodec1
import Derived.Test.YthpnelbciibjeaaGreatSpTake
import Derived.Test.YthpnelbciibjeaaGreatRq2
set_option linter.all false
set_option maxRecDepth 100000
set_option linter.unusedSimpArgs false
set_option linter.unusedVariables false
namespace Go.Proofs.YthpnelbciibjeaaGreat
open Go.AW

theorem c_mkSplit {σ : List zc} {n : Nat} (hn : n ≤ 4611686018427387904) {K : AV → List zc → Prop} (hK : K (.d (.int .i64 (zaq n : Nat))) σ) : zo Tryz.prog zgw [.d (.int .i64 n)] σ K := by
  refine zhS zog fun hl => ?_
  have fin : ∀ z, zaq n = z → K (.d (.int .i64 (z : Nat))) σ := fun z h => h ▸ hK
  clear hK
  simp only [zjz, iN, bT, bF, eN]
  by_cases h : n < 2
  · have hd : decide ((n : Int) < 2) = true := by simp; omega
    refine gq2 hd ?_
    refine zbx hl ?_
    exact fin 0 (if_pos h)
  · have hd : decide ((n : Int) < 2) = false := by simp; omega
    refine gq2 hd ?_
    refine zV n (fun j vs s => s = σ ∧ ∃ k : Nat, vs = [.d (.int .i64 k)] ∧ 1 ≤ k ∧ k < n ∧ j ≤ k ∧ zaq n = zge n k n) ⟨rfl, 1, rfl, by omega, by omega, by omega, if_neg h⟩ ?_
    rintro j vs s hj ⟨rfl, k, rfl, hk1, hk2, hjk, hsp⟩
    have hw1 : IntKind.i64.wrap ((n : Int) - (k : Int)) = ((n - k : Nat) : Int) := by rw [zaK (by omega) (by omega)]; omega
    by_cases hlt : k < n - k
    · have hd2 : decide ((k : Int) < ((n - k : Nat) : Int)) = true := by simp; omega
      have hw2 : IntKind.i64.wrap ((k : Int) * 2) = ((k * 2 : Nat) : Int) := by rw [zaK (by omega) (by omega)]; omega
      refine gq2 (zh hw1 (zh hd2 hw2)) ?_
      refine zcE.to (j + 1) (by omega) (by omega) ⟨rfl, k * 2, rfl, by omega, by omega, by omega, ?_⟩
      rw [hsp, zmQ n k n hk1 (by omega) hlt]
    · have hd2 : decide ((k : Int) < ((n - k : Nat) : Int)) = false := by simp; omega
      refine gq2 (zh hw1 hd2) ?_
      refine zbx hl ?_
      exact fin k (by rw [hsp, zjD _ _ _ hlt])
theorem c_mkleaf {σ : List zc} {b : List UInt8} (hb : b.length ≤ 1073741000) {K : AV → List zc → Prop} (hK : K (.d (.slice (bcs (leafB b)))) σ) : zo Tryz.prog zhq [.d (.slice (bcs b))] σ K := by
  refine zhS zpU fun hl => ?_
  have hlen := zat b
  have h1 := zbF (bs := b)
  simp only [zkP, iN, bT, bF, eN]
  refine gq2 hlen ?_
  refine zbx hl ?_
  exact hK
theorem maxn (x : Int) : (if 0 > x then 0 else x) = ((x.toNat : Nat) : Int) ∧ (if x > 0 then x else 0) = ((x.toNat : Nat) : Int) := by
  constructor <;> split <;> omega
theorem gq30 {A P Q : Prop} (a : A) (h : Q) (e : A → Hd Q → P := by intro a h; (repeat' first | simp -dsimp only [↓zgX, ↓zaP, ↓zca, ↓zgZ, ↓zgR, ↓zgP, ↓zgS, ↓zgQ, ↓zcf, ↓zcb, ↓zcg, ↓zcc, ↓zgT, ↓zbX, ↓zch, ↓zcd, ↓zci, ↓zce, ↓zgN, ↓zgW, ↓zbW, ↓zcm, ↓zgC, ↓zgB, ↓zgL, iN, bT, bF, eN, ↓zdH, ↓unC, ↓zR, ↓zN, ↓zO, ↓zP, ↓zan, ↓zba, ↓zcY, ↓zS, ↓zcj, ↓zao, ↓zt, ↓zj, ↓zbI, ↓zg, ↓zah, ↓zX, ↓zaZ, ↓zaU, ↓zd, ↓zH, ↓zl, ↓zy, ↓zar, ↓zdS, ↓zeg, ↓zZ, ↓zaH, ↓zaO, ↓zbn, ↓zbC, ↓zw, ↓zam, ↓zL, ↓zu, ↓zaj, zee, zbN, zbH, unA, zed, bnd, zeY, zad, zag, zeQ, dm, dm1, zE, zaI, zgc, zgb, zaf, Q0, Q1, Q2, Q3, Q4, Q5, zai, zp, zm, zac, zM, Q6, Q7, Q8, Q9, Q10, Q11, Q12, Q13, Q14, Nat.reduceAdd, Q15, Int.reduceToNat, Q16, Q17, Q18, Q19, Q20, reduceIte, Q21, Q22, zC, rep, zT, zfz, toD, zab, Q23, Q24, Q25, Q26, Q27, Q28, Nat.reduceLeDiff, Q29, Nat.reduceSub, Q30, Q31, Q32, sc, Q33, Q34, Q35, Q36, Q37, Q26, Q38, Q39, zpD, zpA, zpx, zpE, zhv, zpB, zpy, zpC, zpz, zhu, zhw, zpJ, zpK, Bool.not_true, Bool.not_false, List.length_map, m1, a] | with_reducible refine zqn ?_ | fail); exact h.go) : P := e a ⟨h⟩
theorem c_mknode {σ : List zc} {l r : Int} (hl1 : l ≤ 9223372036854775807) (hr1 : r ≤ 9223372036854775807) {K : AV → List zc → Prop} (hK : K (.d (.slice (bcs (znZ l r)))) σ) : zo Tryz.prog zhp [.d (.int .i64 l), .d (.int .i64 r)] σ K := by
  refine zjy zpT fun hl => ?_
  obtain ⟨m1, m2⟩ := maxn l
  obtain ⟨m3, m4⟩ := maxn r
  have hw1 : IntKind.u64.wrap ((l.toNat : Nat) : Int) = ((l.toNat : Nat) : Int) := zbe (by omega)
  have hw2 : IntKind.u64.wrap ((r.toNat : Nat) : Int) = ((r.toNat : Nat) : Int) := zbe (by omega)
  have n1 := zn (n := l.toNat) (by omega)
  simp only [zkO, iN, bT, bF, eN]
  refine gq30 (zh m2 hw1) ?_
  refine zde (b := [1]) (by omega) (by simp) ?_
  refine gq2 (zh m3 (zh m4 hw2)) ?_
  refine zde (b := 1 :: zbs l.toNat) (by omega) (by simp; omega) ?_
  refine gq1 ?_
  refine zbx hl ?_
  exact hK

theorem zph {L : List (List UInt8)} (h : L.length ≤ 1048576) (b : List UInt8) : (zfA L b).length ≤ 1048576 := by
  unfold zfA
  split
  · exact h
  · split
    · exact h
    · simp; omega
theorem zle {L : List (List UInt8)} (h : L.length ≤ 1048576) (b : List UInt8) : 0 ≤ zhT L b ∧ zhT L b ≤ 1048577 := by
  unfold zhT
  split
  · rename_i i hi
    have := (lookF_lt hi).1
    omega
  · split
    · omega
    · omega
theorem zgF : ∀ (f : Nat) {L l : List (List UInt8)}, l.length ≤ f → L.length ≤ 1048576 → (zdp L l).2.length ≤ 1048576 ∧ 0 ≤ (zdp L l).1 ∧ (zdp L l).1 ≤ 1048577
  | _, L, [], _, h => ⟨zph h _, zle h _⟩
  | _, L, [x], _, h => ⟨zph h _, zle h _⟩
  | 0, L, x :: y :: r, hf, h => by simp at hf
  | f + 1, L, x :: y :: r, hf, h => by
    have hs := zkg (n := (x :: y :: r).length) (by simp)
    rw [rootF_2 (by simp)]
    have h1 := (zgF f (L := L) (l := (x :: y :: r).take (zaq (x :: y :: r).length)) (by rw [List.length_take]; omega) h).1
    have h2 := (zgF f (L := (zdp L ((x :: y :: r).take (zaq (x :: y :: r).length))).2) (l := (x :: y :: r).drop (zaq (x :: y :: r).length)) (by rw [List.length_drop]; omega) h1).1
    exact ⟨zph h2 _, zle h2 _⟩
theorem zlh {σ : List zc} {id m t : Nat} {L : List (List UInt8)} (hT : zbO σ id m t L) (L1 L2 : List (List UInt8)) : putTab (putTab σ id m t L1) id m t L2 = putTab σ id m t L2 := by
  obtain ⟨n1, n2, n3⟩ := hT.ne
  unfold putTab
  apply List.ext_getElem?
  intro i
  simp only [List.getElem?_set, List.length_set]
  by_cases h1 : m = i
  · simp [h1]
  · by_cases h2 : id = i
    · simp [h1, h2]
    · by_cases h3 : t = i
      · simp [h1, h2, h3]
      · simp [h1, h2, h3]
theorem c_mkLeaf {σ : List zc} {id m t : Nat} {L : List (List UInt8)} {b : List UInt8} (hT : zbO σ id m t L) (hL : L.length ≤ 1048576) (hb : b.length ≤ 1073740000) {K : AV → List zc → Prop}
    (hK : K (.d (.int .i64 (zhT L (leafB b)))) (putTab σ id m t (zfA L (leafB b)))) : zo Tryz.prog zhs [.box id 0, .d (.slice (bcs b))] σ K := by
  refine zjy zpW fun hl => ?_
  simp only [zkR, iN, bT, bF, eN]
  refine gq1 ?_
  refine c_mkleaf (by omega) ?_
  refine gq1 ?_
  refine zmc hT (by simp [leafB]; omega) hL ?_
  refine gq1 ?_
  exact zdV (zaS ..) (by simp [zbM, dmT, dm, dm1, zbo]) (hT.lows hl _) hK
theorem c_mkNode {σ : List zc} {id m t : Nat} {L : List (List UInt8)} {l r : Int} (hT : zbO σ id m t L) (hL : L.length ≤ 1048576) (hl1 : l ≤ 9223372036854775807) (hr1 : r ≤ 9223372036854775807) {K : AV → List zc → Prop}
    (hK : K (.d (.int .i64 (zhT L (znZ l r)))) (putTab σ id m t (zfA L (znZ l r)))) : zo Tryz.prog zhr [.box id 0, .d (.int .i64 l), .d (.int .i64 r)] σ K := by
  refine acE3 zpV fun hl => ?_
  have n1 := zn (n := l.toNat) (by omega)
  have n2 := zn (n := r.toNat) (by omega)
  simp only [zkQ, iN, bT, bF, eN]
  refine gq1 ?_
  refine c_mknode hl1 hr1 ?_
  refine gq1 ?_
  refine zmc hT (by simp [znZ]; omega) hL ?_
  refine gq1 ?_
  exact zdV (zaS ..) (by simp [zbM, dmT, dm, dm1, zbo]) (hT.lows hl _) hK
theorem c_mkRootA : ∀ (f : Nat) {σ : List zc} {id m t : Nat} {L l : List (List UInt8)}, l.length ≤ f → zbO σ id m t L → L.length ≤ 1048576 → l.length ≤ 1073741824 → (∀ x ∈ l, x.length ≤ 1073740000) → ∀ {K : AV → List zc → Prop},
    K (.d (.int .i64 (zdp L l).1)) (putTab σ id m t (zdp L l).2) → zo Tryz.prog zcv [.box id 0, .d (.slice (zhF l))] σ K := by
  intro f
  induction f with
  | zero =>
    intro σ id m t L l hf hT hL hn hx K hK
    have : l = [] := List.eq_nil_of_length_eq_zero (by omega)
    subst this
    refine zjy zfq fun hl => ?_
    simp only [zec, iN, bT, bF, eN]
    refine gq1 ?_
    refine zmc (b := [2]) hT (by simp) hL ?_
    refine gq1 ?_
    exact zdV (zaS ..) (by simp [zbM, dmT, dm, dm1, zbo]) (hT.lows hl _) hK
  | succ f ih =>
    intro σ id m t L l hf hT hL hn hx K hK
    match l, hf, hn, hx, hK with
    | [], _, _, _, hK =>
      refine zjy zfq fun hl => ?_
      simp only [zec, iN, bT, bF, eN]
      refine gq1 ?_
      refine zmc (b := [2]) hT (by simp) hL ?_
      refine gq1 ?_
      exact zdV (zaS ..) (by simp [zbM, dmT, dm, dm1, zbo]) (hT.lows hl _) hK
    | [x], _, _, hx, hK =>
      refine zjy zfq fun hl => ?_
      simp only [zec, iN, bT, bF, eN]
      refine gq1 ?_
      refine c_mkLeaf (b := x) hT hL (hx x (by simp)) ?_
      refine gq1 ?_
      exact zdV (zaS ..) (by simp [zbM, dmT, dm, dm1, zbo]) (hT.lows hl _) hK
    | x :: y :: r, hf, hn, hx, hK =>
      obtain ⟨l, hle⟩ : ∃ l, x :: y :: r = l := ⟨_, rfl⟩
      have h2 : 2 ≤ l.length := by rw [← hle]; simp
      rw [hle] at hf hn hx hK ⊢
      clear hle
      have hs := zkg h2
      rw [rootF_2 h2] at hK
      refine zjy zfq fun hl => ?_
      have hlen : (zhF l).length = l.length := List.length_map ..
      have e0 : ((l.length : Int) == 0) = false := by rw [beq_eq_false_iff_ne]; omega
      have e1 : ((l.length : Int) == 1) = false := by rw [beq_eq_false_iff_ne]; omega
      have htk : List.take (zaq l.length) (zhF l) = zhF (l.take (zaq l.length)) := by rw [zhF, ← List.map_take]
      have hdr : List.drop (zaq l.length) (zhF l) = zhF (l.drop (zaq l.length)) := by rw [zhF, ← List.map_drop]
      have htl : List.take l.length (zhF l) = zhF l := List.take_of_length_le (by omega)
      have hone : ∀ e ∈ zhF l, e.length = 1 := zpt (f := fun b => [D.slice (bcs b)]) (fun _ => rfl) l
      have hl1 : (l.take (zaq l.length)).length = zaq l.length := by rw [List.length_take]; omega
      have hl2 : (l.drop (zaq l.length)).length = l.length - zaq l.length := List.length_drop
      obtain ⟨g1, g2, g3⟩ := zgF l.length (L := L) (l := l.take (zaq l.length)) (by omega) hL
      simp only [zec, iN, bT, bF, eN]
      refine gq2 (zh hlen (zh e0 e1)) ?_
      refine c_mkSplit (by omega) ?_
      refine gq2 (zh hlen htk) ?_
      refine ih (by omega) hT hL (by omega) (fun z hz => hx z (List.mem_of_mem_take hz)) ?_
      obtain ⟨A, hA⟩ : ∃ A, zdp L (l.take (zaq l.length)) = A := ⟨_, rfl⟩
      rw [hA] at hK g1 g2 g3 ⊢
      obtain ⟨q1, q2, q3⟩ := zgF l.length (L := A.2) (l := l.drop (zaq l.length)) (by omega) g1
      refine gq2 (zh hlen (zh htl hdr)) ?_
      refine ih (by omega) (hT.put A.2) g1 (by omega) (fun z hz => hx z (List.mem_of_mem_drop hz)) ?_
      obtain ⟨B, hB⟩ : ∃ B, zdp A.2 (l.drop (zaq l.length)) = B := ⟨_, rfl⟩
      rw [hB] at hK q1 q2 q3 ⊢
      rw [zlh hT]
      refine gq1 ?_
      refine c_mkNode (hT.put B.2) q1 (by omega) (by omega) ?_
      rw [zlh hT]
      refine gq1 ?_
      exact zdV (zaS ..) (by simp [zbM, dmT, dm, dm1, zbo]) (hT.lows hl _) hK
theorem c_mkRoot {σ : List zc} {id m t : Nat} {L l : List (List UInt8)} (hT : zbO σ id m t L) (hL : L.length ≤ 1048576) (hn : l.length ≤ 1073741824) (hx : ∀ x ∈ l, x.length ≤ 1073740000) {K : AV → List zc → Prop}
    (hK : K (.d (.int .i64 (zdp L l).1)) (putTab σ id m t (zdp L l).2)) : zo Tryz.prog zcv [.box id 0, .d (.slice (zhF l))] σ K := c_mkRootA l.length (Nat.le_refl _) hT hL hn hx hK
end Go.Proofs.YthpnelbciibjeaaGreat
