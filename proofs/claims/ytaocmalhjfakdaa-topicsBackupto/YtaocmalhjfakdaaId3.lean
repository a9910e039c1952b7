/- Contracts: a ledger signs; a table's clone; whether both were made. -/
import Derived.Test.YtaocmalhjfakdaaId2
set_option linter.all false
set_option maxRecDepth 100000
set_option linter.unusedSimpArgs false
set_option linter.unusedVariables false
namespace Go.Proofs.Ytaocmalhjfakdaa
open Go.AW


def rtO (l : List (List UInt8)) : zc := .box [.d (.slice (zmq l))]
theorem wki (k : Nat) (h : k ≤ 1073741824) : IntKind.i64.wrap ((k : Int) + 1) = ((k + 1 : Nat) : Int) := by rw [zbJ (by omega) (by omega)]; rfl
theorem gq4 {P Q : Prop} (h : Q) (e : Hd Q → P := by intro h; (repeat' first | simp -dsimp only [↓zhM, ↓zbc, ↓zcw, ↓zhN, ↓zhF, ↓zhD, ↓zhG, ↓zhE, ↓zcB, ↓zcx, ↓zcC, ↓zcy, ↓zhH, ↓zcv, ↓zcD, ↓zcz, ↓zcE, ↓zcA, ↓zhC, ↓zhK, ↓zcu, ↓zcF, ↓zhu, ↓zht, ↓zhA, iN, bT, bF, eN, ↓zdW, ↓unC, ↓zW, ↓zP, ↓zQ, ↓zZ, ↓zax, ↓zbx, ↓zdD, ↓zan, ↓zcV, ↓zaD, ↓zn, ↓zp, ↓zca, ↓zh, ↓zak, ↓zN, ↓zbf, ↓zba, ↓ze, ↓zD, ↓zl, ↓zA, ↓zas, ↓zeB, ↓zeQ, ↓zaC, ↓zaP, ↓zaS, ↓zbs, ↓zbW, ↓zx, ↓zap, ↓zK, ↓zr, ↓zaw, zeM, zcl, zcd, unA, zeK, bnd, zfK, zae, zaj, zfy, dm, dm1, zV, zbo, zgx, zgw, keepO, Q0, Q1, Q2, Q3, Q4, Q5, zaz, zG, zi, zau, zY, Q6, Q7, Q8, Q9, Q10, Q11, Q12, Q13, Q14, Nat.reduceAdd, Q15, Int.reduceToNat, Q16, Q17, Q18, Q19, Q20, reduceIte, Q21, Q22, zu, rep, zR, zfV, toD, zab, Q23, Q24, Q25, Q26, Q27, Q28, Nat.reduceLeDiff, Q29, Nat.reduceSub, Q30, Q31, Q32, sc, Q33, Q34, Q35, Q36, Q37, Q26, Q38, Q39, n0gt, n1gt, n2gt, n0eq, zhW, n1eq, n2eq, n0ne, n1ne, zhV, zhX, i0ne, i0eq, Bool.not_true, Bool.not_false, List.length_map, Bool.and_false, Bool.and_self, Bool.false_and, Bool.not_false, Bool.not_true, Bool.true_and, Int.toNat_natCast, Int.toNat_zero, List.drop_zero, List.length_map, List.length_nil, List.nil_append, List.take_length, Nat.sub_zero, Nat.zero_add, Option.isSome_none, Option.isSome_some, Option.map_none, Option.map_some, zbg, beq_self_eq_true, bne_self_eq_false, zge, zdi, zdf, zaS, zjk, zbs] | with_reducible refine andA ?_ | fail); exact h.go) : P := e ⟨h⟩
theorem c_rtSame {σ : List zc} {a b : List UInt8} {K : AV → List zc → Prop} (hK : K (.d (.bool (a == b))) σ) : zt Try.prog zjg [.d (.slice (bcs a)), .d (.slice (bcs b))] σ K := by
  refine acE2 e_r02_Same fun hl => ?_
  simp only [zmk, iN, bT, bF, eN]
  refine gq4 ?_
  refine zgk hl ?_
  exact hK
theorem c_rtLook {σ : List zc} {id : Nat} {l : List (List UInt8)} {b : List UInt8} (hT : σ[id]? = some (rtO l)) (hl0 : l.length ≤ 1048576) {K : AV → List zc → Prop}
    (hK : K (.tup [.d (.int .i64 (numOf (zgJ l b))), .d (.bool (zgJ l b).isSome)]) σ) : zt Try.prog zef [.box id 0, .d (.slice (bcs b))] σ K := by
  refine acE2 zkd fun hl => ?_
  have hlen : (zmq l).length = l.length := List.length_map ..
  have hb : σ[id]? = some (.box [.d (.slice (zmq l))]) := hT
  simp only [zgr, iN, bT, bF, eN]
  refine zai l.length (fun k vs s => vs = [.d (.int .i64 k)] ∧ s = σ ∧ zgJ (l.take k) b = none) ⟨rfl, rfl, rfl⟩ ?_
  rintro k vs s hk ⟨rfl, rfl, hno⟩
  by_cases hlt : k < l.length
  · have hd : decide ((k : Int) < (l.length : Int)) = true := by simp; omega
    have hx : l[k]? = some l[k] := by simp [hlt]
    have hgx := zjl (f := fun b => [D.slice (bcs b)]) hx
    obtain ⟨x, hxe⟩ : ∃ x, l[k] = x := ⟨_, rfl⟩
    rw [hxe] at hx hgx
    refine gq2 (zb hlen (zb hd (zb hb hgx))) ?_
    refine c_rtSame ?_
    cases he : (x == b)
    · refine gq2 (wki k (by omega)) ?_
      exact zds.next hlt ⟨rfl, rfl, look_next hx hno he⟩
    · rw [look_hit hx hno he] at hK
      refine gq2 (wki k (by omega)) ?_
      refine zgk hl ?_
      exact hK
  · have hd : decide ((k : Int) < (l.length : Int)) = false := by simp; omega
    rw [List.take_of_length_le (by omega)] at hno
    rw [hno] at hK
    refine gq2 (zb hlen (zb hd hb)) ?_
    refine zgk hl ?_
    exact hK
theorem gq5 {P Q : Prop} (h : Q) (e : Hd Q → P := by intro h; (repeat' first | simp -dsimp only [↓zhM, ↓zbc, ↓zcw, ↓zhN, ↓zhF, ↓zhD, ↓zhG, ↓zhE, ↓zcB, ↓zcx, ↓zcC, ↓zcy, ↓zhH, ↓zcv, ↓zcD, ↓zcz, ↓zcE, ↓zcA, ↓zhC, ↓zhK, ↓zcu, ↓zcF, ↓zhu, ↓zht, ↓zhA, iN, bT, bF, eN, ↓zdW, ↓unC, ↓zW, ↓zP, ↓zQ, ↓zZ, ↓zax, ↓zbx, ↓zdD, ↓zan, ↓zcV, ↓zaD, ↓zn, ↓zp, ↓zca, ↓zh, ↓zak, ↓zN, ↓zbf, ↓zba, ↓ze, ↓zD, ↓zl, ↓zA, ↓zas, ↓zeB, ↓zeQ, ↓zaC, ↓zaP, ↓zaS, ↓zbs, ↓zbW, ↓zx, ↓zap, ↓zK, ↓zr, ↓zaw, zeM, zcl, zcd, unA, zeK, bnd, zfK, zae, zaj, zfy, dm, dm1, zV, zbo, zgx, zgw, keepO, Q0, Q1, Q2, Q3, Q4, Q5, zaz, zG, zi, zau, zY, Q6, Q7, Q8, Q9, Q10, Q11, Q12, Q13, Q14, Nat.reduceAdd, Q15, Int.reduceToNat, Q16, Q17, Q18, Q19, Q20, reduceIte, Q21, Q22, zu, rep, zR, zfV, toD, zab, Q23, Q24, Q25, Q26, Q27, Q28, Nat.reduceLeDiff, Q29, Nat.reduceSub, Q30, Q31, Q32, sc, Q33, Q34, Q35, Q36, Q37, Q26, Q38, Q39, n0gt, n1gt, n2gt, n0eq, zhW, n1eq, n2eq, n0ne, n1ne, zhV, zhX, i0ne, i0eq, Bool.not_true, Bool.not_false, List.length_map, Bool.and_false, Bool.and_self, Bool.false_and, Bool.not_false, Bool.not_true, Bool.true_and, Int.toNat_natCast, Int.toNat_zero, List.drop_zero, List.length_map, List.length_nil, List.nil_append, List.take_length, Nat.sub_zero, Nat.zero_add, Option.isSome_none, Option.isSome_some, Option.map_none, Option.map_some, zbg, beq_self_eq_true, bne_self_eq_false, zbD, zby, numOf, opA, signD, signedD] | with_reducible refine andA ?_ | fail); exact h.go) : P := e ⟨h⟩
theorem gq6 {A P Q : Prop} (a : A) (h : Q) (e : A → Hd Q → P := by intro a h; (repeat' first | simp -dsimp only [↓zhM, ↓zbc, ↓zcw, ↓zhN, ↓zhF, ↓zhD, ↓zhG, ↓zhE, ↓zcB, ↓zcx, ↓zcC, ↓zcy, ↓zhH, ↓zcv, ↓zcD, ↓zcz, ↓zcE, ↓zcA, ↓zhC, ↓zhK, ↓zcu, ↓zcF, ↓zhu, ↓zht, ↓zhA, iN, bT, bF, eN, ↓zdW, ↓unC, ↓zW, ↓zP, ↓zQ, ↓zZ, ↓zax, ↓zbx, ↓zdD, ↓zan, ↓zcV, ↓zaD, ↓zn, ↓zp, ↓zca, ↓zh, ↓zak, ↓zN, ↓zbf, ↓zba, ↓ze, ↓zD, ↓zl, ↓zA, ↓zas, ↓zeB, ↓zeQ, ↓zaC, ↓zaP, ↓zaS, ↓zbs, ↓zbW, ↓zx, ↓zap, ↓zK, ↓zr, ↓zaw, zeM, zcl, zcd, unA, zeK, bnd, zfK, zae, zaj, zfy, dm, dm1, zV, zbo, zgx, zgw, keepO, Q0, Q1, Q2, Q3, Q4, Q5, zaz, zG, zi, zau, zY, Q6, Q7, Q8, Q9, Q10, Q11, Q12, Q13, Q14, Nat.reduceAdd, Q15, Int.reduceToNat, Q16, Q17, Q18, Q19, Q20, reduceIte, Q21, Q22, zu, rep, zR, zfV, toD, zab, Q23, Q24, Q25, Q26, Q27, Q28, Nat.reduceLeDiff, Q29, Nat.reduceSub, Q30, Q31, Q32, sc, Q33, Q34, Q35, Q36, Q37, Q26, Q38, Q39, n0gt, n1gt, n2gt, n0eq, zhW, n1eq, n2eq, n0ne, n1ne, zhV, zhX, i0ne, i0eq, Bool.not_true, Bool.not_false, List.length_map, Bool.and_false, Bool.and_self, Bool.false_and, Bool.not_false, Bool.not_true, Bool.true_and, Int.toNat_natCast, Int.toNat_zero, List.drop_zero, List.length_map, List.length_nil, List.nil_append, List.take_length, Nat.sub_zero, Nat.zero_add, Option.isSome_none, Option.isSome_some, Option.map_none, Option.map_some, zbg, beq_self_eq_true, bne_self_eq_false, zbD, zby, numOf, opA, signD, signedD, a] | with_reducible refine andA ?_ | fail); exact h.go) : P := e a ⟨h⟩
theorem c_rtSum {σ : List zc} {id : Nat} {l : List (List UInt8)} {b : List UInt8} (hT : σ[id]? = some (rtO l)) (hbl : b.length ≤ 1073741824) (hl0 : l.length ≤ 1048576) {K : AV → List zc → Prop}
    (hK : K (.d (.int .i64 (sumN l b))) (σ.set id (rtO (sumL l b)))) : zt Try.prog zeP [.box id 0, .d (.slice (bcs b))] σ K := by
  refine acall_ofW zgO.is rfl fun hl _ => zgO.goes ?_
  have hlen : (zmq l).length = l.length := List.length_map ..
  have hb : ∀ τ, (σ ++ τ)[id]? = some (.box [.d (.slice (zmq l))]) := fun τ => zf hT
  have hb0 : σ[id]? = some (.box [.d (.slice (zmq l))]) := hT
  have hlt := zg hT
  simp only [zgU, iN, bT, bF, eN]
  refine gq1 ?_
  refine c_rtLook hT hl0 ?_
  cases ho : zgJ l b with
  | some k =>
    simp only [sumN, sumL, ho] at hK
    rw [zfn hT] at hK
    refine gq5 ?_
    refine endsW_of ?_
    refine zgk hl ?_
    exact hK
  | none =>
    simp only [sumN, sumL, ho] at hK
    by_cases hfull : l.length ≥ 1048576
    · rw [if_pos hfull, if_pos hfull, zfn hT] at hK
      have hd : decide ((l.length : Int) ≥ 1048576) = true := by simp; omega
      refine gq6 (zb hb0 (zb hlen hd)) ?_
      refine endsW_of ?_
      refine zgk hl ?_
      exact hK
    · rw [if_neg hfull, if_neg hfull] at hK
      have hd : decide ((l.length : Int) ≥ 1048576) = false := by simp; omega
      have s1 : ∀ X τ, (σ ++ τ).set id X = σ.set id X ++ τ := fun X τ => zhc hT
      have g1 : ∀ X τ, (σ.set id X ++ τ)[id]? = some X := fun X τ => zf (zfs hT)
      have bl : (bcs b).length = b.length := zbg b
      have b1 : ∀ e ∈ bcs b, e.length = 1 := zej
      have t1 : ∀ e ∈ zmq l, e.length = 1 := one_len (f := fun b => [D.slice (bcs b)]) (fun _ => rfl) l
      refine gq6 (zb hb (zb hb0 (zb hlen (zb hd (zb s1 (zb g1 bl)))))) ?_
      have e : zmq l ++ [[D.slice (bcs b)]] = zmq (l ++ [b]) := by simp [zmq]
      rw [e]
      exact endsW_data hT (by simp [zgi, dmT, dm, dm1, zcg]) hl hK
end Go.Proofs.Ytaocmalhjfakdaa
