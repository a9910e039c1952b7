/- Contracts: a record that is told of in a row. -/
import Derived.Test.YtaocmalhjfakdaaKn5
set_option linter.all false
set_option maxRecDepth 100000
set_option linter.unusedSimpArgs false
set_option linter.unusedVariables false
namespace Go.Proofs.Ytaocmalhjfakdaa
open Go.AW

theorem bcs_flatN : ∀ l : List UInt8, (bcs l).flatten.map AV.d = byN l
  | [] => rfl
  | b :: l => congrArg (AV.d (.int .u8 b.toNat) :: ·) (bcs_flatN l)
section

variable {σ : List zb} {id : Nat} {T : zav} {O : Nat → Prop} {K : AV → List zb → Prop}

theorem gq24 {P Q : Prop} (h : Q) (e : Hd Q → P := by intro h; (repeat' first | simp -dsimp only [↓zhp, ↓zbg, ↓zcG, ↓zht, ↓zhb, ↓zgZ, ↓zhc, ↓zha, ↓zcM, ↓zcI, ↓zcN, ↓zcJ, ↓zhe, ↓zcD, ↓zcO, ↓zcK, ↓zcP, ↓zcL, ↓zgX, ↓zhn, ↓zcC, ↓zcQ, ↓zgJ, ↓zgI, ↓zgT, iN, bT, bF, eN, ↓zeg, ↓unC, ↓zaj, ↓zQ, ↓zR, ↓zad, ↓zaw, ↓zbd, ↓zdI, ↓zam, ↓zcm, ↓zal, ↓zo, ↓zl, ↓zbR, ↓zh, ↓zag, ↓zL, ↓zaX, ↓zaV, ↓zd, ↓zr, ↓zn, ↓zC, ↓zan, ↓zeb, ↓zej, ↓zaF, ↓zaN, ↓zaK, ↓zby, ↓zbS, ↓zA, ↓zak, ↓zS, ↓zE, ↓zat, zeh, zcf, zcd, unA, zek, bnd, zeV, zab, zT, zeU, dm, dm1, zt, zaL, zfO, zfN, zW, Q0, Q1, Q2, Q3, Q4, Q5, zax, zB, zu, zas, zX, Q6, Q7, Q8, Q9, Q10, Q11, Q12, Q13, Q14, Nat.reduceAdd, Q15, Int.reduceToNat, Q16, Q17, Q18, Q19, Q20, reduceIte, Q21, Q22, zI, rep, zP, zgG, toD, zah, Q23, Q24, Q25, Q26, Q27, Q28, Nat.reduceLeDiff, Q29, Nat.reduceSub, Q30, Q31, Q32, sc, Q33, Q34, Q35, Q36, Q37, Q26, Q38, Q39, n0gt, n1gt, n2gt, n0eq, ziz, n1eq, n2eq, n0ne, n1ne, ziy, ziA, i0ne, i0eq, Bool.not_true, Bool.not_false, List.length_map, Bool.and_false, Bool.and_self, Bool.false_and, Bool.not_false, Bool.not_true, Bool.true_and, Int.toNat_natCast, Int.toNat_zero, List.drop_zero, List.length_map, List.length_nil, List.nil_append, List.take_length, Nat.sub_zero, Nat.zero_add, Option.isSome_none, Option.isSome_some, Option.map_none, Option.map_some, zdA, zcb, beq_self_eq_true, bne_self_eq_false, zhS, zeU] | with_reducible refine andA ?_ | fail); exact h.go) : P := e ⟨h⟩
theorem c_clNew {r : List UInt8} (h0 : 0 < r.length) (hr : r.length ≤ 1073741824) (hK : ∀ g, K (.rsl σ.length g 1 0 r.length) (σ ++ [.row g 1 (byN r)])) :
    zi Try.prog ze [.d (.slice (bcs r))] σ K := by
  refine zaC zae.is rfl fun hl _ => zae.goes ?_
  simp only [zay, iN, bT, bF, eN]
  have hcell : ∀ x ∈ bcs r, x.length = 1 := zfi
  have hfl := bcs_flatN r
  obtain ⟨es, hes⟩ : ∃ es, bcs r = es := ⟨_, rfl⟩
  have hlen : es.length = r.length := by rw [← hes]; exact zcb _
  rw [hes] at hfl hcell ⊢
  cases es with
  | nil => simp at hlen; omega
  | cons e es =>
    simp only [zan, zek]
    refine gq24 ?_
    refine ⟨by simp at hlen hr ⊢; omega, ?_⟩
    have := hK 1
    rw [← hlen, ← hfl] at this
    refine zaR ?_
    exact this
theorem c_getR {n : List UInt8} {k : Nat} {y : zV} {r : List UInt8} (hT : zey σ id T O) (hI : zeH T) (hk : atF n T.l 0 = some k) (hy : T.l[k]? = some y) (hb : y.base = 0) (hrc : y.recs = [r]) (h0 : 0 < r.length) (hr : r.length ≤ 64)
    (hK : ∀ g, K (.tup [.rsl σ.length g 1 0 r.length, .d (.int .i64 0)]) (σ ++ [.row g 1 (byN r)])) : zi Try.prog zN [.box id 0, .d (.str n), .d (.int .i64 0)] σ K := by
  obtain ⟨m, X, hP, hR, hO⟩ := hT
  refine zaC zdp.is rfl fun hl _ => zdp.goes ?_
  simp only [zdt, iN, bT, bF, eN]
  refine gq1 ?_
  refine c_tpFind hP ?_
  cases hx : zeo n X 0 with
  | none => exact absurd (hR.no hx) (by rw [hk]; simp)
  | some q =>
    obtain ⟨i, p⟩ := q
    obtain ⟨h1, h2, k', y', h3, h4, h5⟩ := hR.yes hx
    rw [hk] at h3; cases h3
    rw [hy] at h4; cases h4
    have hpb := (hP.tops p (List.mem_of_getElem? h1)).b
    have e1 : p.x = ⟨p.x.name, 0, [r], p.x.groups⟩ := by
      have := h5.base; have := h5.recs
      rw [hb] at *; rw [hrc] at *
      cases hpx : p.x; simp_all
    rw [e1] at hpb
    have hb2 : σ[p.id]? = some (.box [.d (.int .i64 0), .own p.t [[.slice (bcs r)]], .map p.g]) := hpb
    refine zaZ (zk hb2 (zk (show ((0 : Int) != 0) = false from rfl) (show decide ((0 : Int) < 0) = false from rfl))) ?_
    refine zbU (x := ⟨y.name, 0, [r], []⟩) hpb ⟨by simp [zV.next], by simp [zV.next]⟩ ?_
    have hd : decide ((0 : Int) ≥ (zV.mk y.name 0 [r] []).next) = false := rfl
    refine zaZ (zk hb2 (zk hd (show IntKind.i64.wrap ((0 : Int) - 0) = 0 from rfl))) ?_
    refine c_clNew h0 (by omega) fun g => ?_
    refine gq1 ?_
    exact zaR (hK g)
end

end Go.Proofs.Ytaocmalhjfakdaa
