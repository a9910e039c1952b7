/- Contracts: where a list is parted, how long a proof is, leaves and nodes, on both sides. -/
import Derived.Test.YthpnelbciibjeaaGreatId2
import Derived.Test.YthpnelbciibjeaaGreatCodec1
import Derived.Test.YthpnelbciibjeaaGreatSpUtf
set_option linter.all false
set_option maxRecDepth 100000
set_option linter.unusedSimpArgs false
set_option linter.unusedVariables false
namespace Go.Proofs.YthpnelbciibjeaaGreat
open Go.AW

theorem c_mkSplit {σ : List zc} {n : Nat} (hn : n ≤ 4611686018427387904) {K : AV → List zc → Prop} (hK : K (.d (.int .i64 (zS n : Nat))) σ) : zt Tryz.prog zgh [.d (.int .i64 n)] σ K := by
  refine zhl znW fun hl => ?_
  have fin : ∀ z, zS n = z → K (.d (.int .i64 (z : Nat))) σ := fun z h => h ▸ hK
  clear hK
  simp only [zjj, iN, bT, bF, eN]
  by_cases h : n < 2
  · have hd : decide ((n : Int) < 2) = true := by simp; omega
    refine gq2 hd ?_
    refine zbj hl ?_
    exact fin 0 (if_pos h)
  · have hd : decide ((n : Int) < 2) = false := by simp; omega
    refine gq2 hd ?_
    refine zN n (fun j vs s => s = σ ∧ ∃ k : Nat, vs = [.d (.int .i64 k)] ∧ 1 ≤ k ∧ k < n ∧ j ≤ k ∧ zS n = zfX n k n) ⟨rfl, 1, rfl, by omega, by omega, by omega, if_neg h⟩ ?_
    rintro j vs s hj ⟨rfl, k, rfl, hk1, hk2, hjk, hsp⟩
    have hw1 : IntKind.i64.wrap ((n : Int) - (k : Int)) = ((n - k : Nat) : Int) := by rw [zaD (by omega) (by omega)]; omega
    by_cases hlt : k < n - k
    · have hd2 : decide ((k : Int) < ((n - k : Nat) : Int)) = true := by simp; omega
      have hw2 : IntKind.i64.wrap ((k : Int) * 2) = ((k * 2 : Nat) : Int) := by rw [zaD (by omega) (by omega)]; omega
      refine gq2 (zi hw1 (zi hd2 hw2)) ?_
      refine zbJ.to (j + 1) (by omega) (by omega) ⟨rfl, k * 2, rfl, by omega, by omega, by omega, ?_⟩
      rw [hsp, zmx n k n hk1 (by omega) hlt]
    · have hd2 : decide ((k : Int) < ((n - k : Nat) : Int)) = false := by simp; omega
      refine gq2 (zi hw1 hd2) ?_
      refine zbj hl ?_
      exact fin k (by rw [hsp, zjo _ _ _ hlt])
theorem c_mkleaf {σ : List zc} {b : List UInt8} (hb : b.length ≤ 1073741000) {K : AV → List zc → Prop} (hK : K (.d (.slice (bcs (zlW b)))) σ) : zt Tryz.prog zgV [.d (.slice (bcs b))] σ K := by
  refine zhl zpC fun hl => ?_
  have hlen := zbp b
  have h1 := zgm (bs := b)
  simp only [zkB, iN, bT, bF, eN]
  refine gq2 hlen ?_
  refine zbj hl ?_
  exact hK
theorem maxn (x : Int) : (if 0 > x then 0 else x) = ((x.toNat : Nat) : Int) ∧ (if x > 0 then x else 0) = ((x.toNat : Nat) : Int) := by
  constructor <;> split <;> omega
theorem gq8 {A P Q : Prop} (a : A) (h : Q) (e : A → Hd Q → P := by intro a h; (repeat' first | simp -dsimp only [↓zhH, ↓zbh, ↓zcI, ↓zhI, ↓zhD, ↓zhB, ↓zhE, ↓zhC, ↓zcN, ↓zcJ, ↓zcO, ↓zcK, ↓zhF, ↓zcH, ↓zcP, ↓zcL, ↓zcQ, ↓zcM, ↓zhA, ↓zhG, ↓zcG, ↓zcS, ↓zhy, ↓zhx, ↓zhz, iN, bT, bF, eN, ↓zei, ↓unC, ↓zal, ↓zZ, ↓zaa, ↓zah, ↓zaE, ↓zaO, ↓zdI, ↓zak, ↓zcu, ↓zaF, ↓zr, ↓zA, ↓zde, ↓zj, ↓zau, ↓zT, ↓zaW, ↓zbl, ↓zd, ↓zU, ↓zq, ↓zJ, ↓zaI, ↓zez, ↓zeX, ↓zaq, ↓zaS, ↓zaV, ↓zbA, ↓zbV, ↓zG, ↓zay, ↓zX, ↓zH, ↓zaC, zeY, zcw, zcg, unA, zfb, bnd, zfU, zan, zaG, zfT, dm, dm1, zC, zaT, zgx, zgw, zao, Q0, Q1, Q2, Q3, Q4, Q5, zaB, zP, zp, zas, zac, Q6, Q7, Q8, Q9, Q10, Q11, Q12, Q13, Q14, Nat.reduceAdd, Q15, Int.reduceToNat, Q16, Q17, Q18, Q19, Q20, reduceIte, Q21, Q22, zE, rep, zag, zgP, toD, zap, Q23, Q24, Q25, Q26, Q27, Q28, Nat.reduceLeDiff, Q29, Nat.reduceSub, Q30, Q31, Q32, sc, Q33, Q34, Q35, Q36, Q37, Q26, Q38, Q39, n0gt, n1gt, n2gt, n0eq, zjv, n1eq, n2eq, n0ne, n1ne, zju, zjw, i0ne, i0eq, Bool.not_true, Bool.not_false, List.length_map, m1, a] | with_reducible refine andA ?_ | fail); exact h.go) : P := e a ⟨h⟩
theorem c_mknode {σ : List zc} {l r : Int} (hl1 : l ≤ 9223372036854775807) (hr1 : r ≤ 9223372036854775807) {K : AV → List zc → Prop} (hK : K (.d (.slice (bcs (zjZ l r)))) σ) : zt Tryz.prog zgU [.d (.int .i64 l), .d (.int .i64 r)] σ K := by
  refine zlO zpB fun hl => ?_
  obtain ⟨m1, m2⟩ := maxn l
  obtain ⟨m3, m4⟩ := maxn r
  have hw1 : IntKind.u64.wrap ((l.toNat : Nat) : Int) = ((l.toNat : Nat) : Int) := zcT (by omega)
  have hw2 : IntKind.u64.wrap ((r.toNat : Nat) : Int) = ((r.toNat : Nat) : Int) := zcT (by omega)
  have n1 := zo (n := l.toNat) (by omega)
  simp only [zkA, iN, bT, bF, eN]
  refine gq8 (zi m2 hw1) ?_
  refine zdi (b := [1]) (by omega) (by simp) ?_
  refine gq2 (zi m3 (zi m4 hw2)) ?_
  refine zdi (b := 1 :: zbG l.toNat) (by omega) (by simp; omega) ?_
  refine gq1 ?_
  refine zbj hl ?_
  exact hK
end Go.Proofs.YthpnelbciibjeaaGreat
