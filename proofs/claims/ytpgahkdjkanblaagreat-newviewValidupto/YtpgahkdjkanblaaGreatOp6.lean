/- Contracts: an operation's bytes. -/
import Derived.Test.YtpgahkdjkanblaaGreatCodec1
set_option linter.all false
set_option maxRecDepth 100000
set_option linter.unusedSimpArgs false
namespace Go.Proofs.YtpgahkdjkanblaaGreat
open Go.AW

theorem u64_of {n : Int} (h : 0 ≤ n) (h2 : n < 9223372036854775808) : IntKind.u64.wrap n = (n.toNat : Int) := by
  obtain ⟨m, rfl⟩ := Int.eq_ofNat_of_zero_le h
  rw [Int.toNat_natCast]; exact zcC (by omega)
theorem bytesE (s : List UInt8) : s.map zcB = bcs s := rfl

theorem gq62 {A P Q : Prop} (a : A) (h : Q) (e : A → P = Q := by intro a; simp -dsimp only [↓zey, ↓zay, ↓zbs, ↓zez, ↓zeu, ↓zes, ↓zev, ↓zet, ↓zbx, ↓zbt, ↓zby, ↓zbu, ↓zew, ↓zbr, ↓zbz, ↓zbv, ↓zbA, ↓zbw, ↓zer, ↓zex, ↓zbp, ↓zbB, ↓zep, ↓zeo, ↓zeq, iN, bT, bF, eN, ↓zcv, ↓unC, ↓zU, ↓zI, ↓zJ, ↓zM, ↓zX, ↓zal, ↓zcX, ↓zai, ↓zaJ, ↓zW, ↓zg, ↓zn, ↓zbP, ↓zb, ↓zaf, ↓zD, ↓zaI, ↓zaQ, ↓zd, ↓zF, ↓zj, ↓zG, ↓zam, ↓zdc, ↓zdj, ↓zak, ↓zau, ↓zaL, ↓zaY, ↓zbh, ↓zo, ↓zaj, ↓zK, ↓zr, ↓zV, zdk, zbn, zbk, unA, zdu, bnd, zdG, zae, zO, zdW, dm, dm1, zR, zaF, zea, zdZ, zw, Q0, Q1, Q2, Q3, Q4, Q5, zY, zC, zt, zN, zE, Q6, Q7, Q8, Q9, Q10, Q11, Q12, Q13, Q14, Nat.reduceAdd, Q15, Int.reduceToNat, Q16, Q17, Q18, Q19, Q20, reduceIte, Q21, Q22, zA, rep, zZ, zeB, toD, zap, Q23, Q24, Q25, Q26, Q27, Q28, Nat.reduceLeDiff, Q29, Nat.reduceSub, Q30, Q31, Q32, sc, Q33, Q34, Q35, bytesE, a]; rfl) : P := (e a).mpr h
theorem c_Put {σ : List zf} {b : List UInt8} {o : TOp} (hb : b.length ≤ 268435456) (ho : zlX o ≤ 268435456) {K : KT} (hK : K (.d (.slice (bcs (b ++ if zcg zib o = 0 then opB o else [])))) σ) :
    zm Tryz.prog zvW [.d (.slice (bcs b)), opA o] σ K := by
  refine zc e_op_Put.is rfl fun hl _ => e_op_Put.goes ?_
  have hsz := ho
  simp only [zlX] at hsz
  have hrl := zkH o.recs
  simp only [S_op_Put, iN, bT, bF, eN, opA]
  (refine zuE ?_; try with_reducible exact True.intro)
  refine zeP zgS (by simp [bcs]; omega) ?_
  (refine zuE ?_; try with_reducible exact True.intro)
  refine c_Check (o := o) (by omega) (by omega) (by omega) ?_
  (refine zuE ?_; try with_reducible exact True.intro)
  refine zS (fun h => ?_) (fun h => ?_)
  · refine zq hl ?_
    (try simp only [decide_eq_true_eq, decide_eq_false_iff_not, beq_iff_eq, beq_eq_false_iff_ne, bne_iff_ne, ne_eq, Bool.not_eq_true', Bool.not_eq_false', bne_eq_false_iff_eq] at *)
    rw [if_neg h, List.append_nil] at hK
    exact hK
  have hc : zcg zib o = 0 := by (try simp only [decide_eq_true_eq, decide_eq_false_iff_not, beq_iff_eq, beq_eq_false_iff_ne, bne_iff_ne, ne_eq, Bool.not_eq_true', Bool.not_eq_false', bne_eq_false_iff_eq] at *); omega
  obtain ⟨k0, k4, o0, o1, hon⟩ := zrN hc
  rw [if_pos hc] at hK
  have hkn := zp (n := o.kind.toNat) (by omega)
  have hon' := zp (n := o.offset.toNat) (by omega)
  have hrn := zp (n := o.recs.length) (by omega)
  have htp := zgW (x := o.topic) (by omega)
  have hgp := zgW (x := o.group) (by omega)
  (refine gq41 (u64_of k0 (by omega)) ?_; try with_reducible exact True.intro)
  refine zdU (by omega) (by omega) ?_
  have wo := u64_of o0 (by omega : o.offset < 9223372036854775808)
  have wl : IntKind.u64.wrap ((zeT o.recs).length : Int) = (o.recs.length : Int) := by rw [zA]; exact zcC (by omega)
  have wl' : IntKind.u64.wrap (o.recs.length : Int) = (o.recs.length : Int) := zcC (by omega)
  repeat' first
    | (refine gq62 (gqc3 wo (gqc3 wl wl')) ?_; try with_reducible exact True.intro)
    | (refine zS (fun h => ?_) (fun h => ?_) <;> (try rw [h]))
    | ((with_reducible refine And.intro ?_ ?_); focus (first | omega | rfl | decide))
    | refine zno (by omega) (by simp only [zra, List.length_append] at *; omega) ?_
    | refine zdU (by omega) (by simp only [zra, List.length_append] at *; omega) ?_
  -- the ways that end
  all_goals first
    | (exfalso; (try simp only [decide_eq_true_eq, decide_eq_false_iff_not, beq_iff_eq, beq_eq_false_iff_ne, bne_iff_ne, ne_eq, Bool.not_eq_true', Bool.not_eq_false', bne_eq_false_iff_eq] at *); omega)
    | (refine zq hl ?_
       (try simp only [decide_eq_true_eq, decide_eq_false_iff_not, beq_iff_eq, beq_eq_false_iff_ne, bne_iff_ne, ne_eq, Bool.not_eq_true', Bool.not_eq_false', bne_eq_false_iff_eq] at *)
       simp only [zdF, dmT, dm, dm1]
       (first | rw [opB_0 (by omega)] at hK | rw [opB_1 (by omega)] at hK | rw [opB_3 (by omega)] at hK | rw [opB_4 (by omega)] at hK)
       exact hK)
    | skip
  -- the records
  have hk2 : o.kind = 2 := by (try simp only [decide_eq_true_eq, decide_eq_false_iff_not, beq_iff_eq, beq_eq_false_iff_ne, bne_iff_ne, ne_eq, Bool.not_eq_true', Bool.not_eq_false', bne_eq_false_iff_eq] at *); omega
  rw [opB_2 hk2] at hK
  refine zl o.recs.length (fun k vs s => ∃ t τ, vs = [.own t (bcs (b ++ (zcf o.kind.toNat ++ (zcf o.topic.length ++ (o.topic ++ (zcf o.recs.length ++ zqk (o.recs.take k))))))), .d (.int .i64 k)] ∧ s = σ ++ τ) ⟨σ.length + 4, _, by rw [List.take_zero, show zqk [] = [] from rfl, List.append_nil]; rfl, rfl⟩ ?_
  rintro k vs s hk ⟨t, τ, rfl, rfl⟩
  (refine zuE ?_; try with_reducible exact True.intro)
  refine zS (fun h => ?_) (fun h => ?_)
  · have hka : k < o.recs.length := by (try simp only [decide_eq_true_eq, decide_eq_false_iff_not, beq_iff_eq, beq_eq_false_iff_ne, bne_iff_ne, ne_eq, Bool.not_eq_true', Bool.not_eq_false', bne_eq_false_iff_eq] at *); omega
    have hx : o.recs[k]? = some o.recs[k] := by simp [hka]
    have hle := rec_le (List.getElem_mem hka)
    have htl := zjL o.recs (by omega) k
    (refine gq41 (zeZ hx) ?_; try with_reducible exact True.intro)
    refine And.intro (by omega) (zno (by omega) (by simp only [zra, List.length_append] at *; omega) ?_)
    (refine zuE ?_; try with_reducible exact True.intro)
    refine zaG.next hka ⟨σ.length + τ.length, _, ?_, rfl⟩
    rw [zat (by omega) (by omega), zuo hx]
    simp only [zra, List.append_assoc]
    rfl
  · have hke : k = o.recs.length := by (try simp only [decide_eq_true_eq, decide_eq_false_iff_not, beq_iff_eq, beq_eq_false_iff_ne, bne_iff_ne, ne_eq, Bool.not_eq_true', Bool.not_eq_false', bne_eq_false_iff_eq] at *); omega
    subst hke
    refine zq hl ?_
    rw [List.take_length]
    exact hK

theorem c_rPut {σ : List zf} {b : List UInt8} {o : TOp} (hb : b.length ≤ 268435456) (ho : zlX o ≤ 268435456) {K : KT} (hK : K (.d (.slice (bcs (b ++ if zcg zib o = 0 then opB o else [])))) σ) :
    zm Tryz.prog zso [.d (.slice (bcs b)), opA o] σ K := by
  refine zc e_r06_Put.is rfl fun hl _ => e_r06_Put.goes ?_
  have hsz := ho
  simp only [zlX] at hsz
  have hrl := zkH o.recs
  simp only [S_r06_Put, iN, bT, bF, eN, opA]
  (refine zuE ?_; try with_reducible exact True.intro)
  refine c_rCheck (o := o) (by omega) (by omega) (by omega) ?_
  (refine zuE ?_; try with_reducible exact True.intro)
  refine zS (fun h => ?_) (fun h => ?_)
  · refine zq hl ?_
    (try simp only [decide_eq_true_eq, decide_eq_false_iff_not, beq_iff_eq, beq_eq_false_iff_ne, bne_iff_ne, ne_eq, Bool.not_eq_true', Bool.not_eq_false', bne_eq_false_iff_eq] at *)
    rw [if_neg h, List.append_nil] at hK
    exact hK
  have hc : zcg zib o = 0 := by (try simp only [decide_eq_true_eq, decide_eq_false_iff_not, beq_iff_eq, beq_eq_false_iff_ne, bne_iff_ne, ne_eq, Bool.not_eq_true', Bool.not_eq_false', bne_eq_false_iff_eq] at *); omega
  obtain ⟨k0, k4, o0, o1, hon⟩ := zrN hc
  rw [if_pos hc] at hK
  have hkn := zp (n := o.kind.toNat) (by omega)
  have hon' := zp (n := o.offset.toNat) (by omega)
  have hrn := zp (n := o.recs.length) (by omega)
  have htp := zgW (x := o.topic) (by omega)
  have hgp := zgW (x := o.group) (by omega)
  (refine gq41 (u64_of k0 (by omega)) ?_; try with_reducible exact True.intro)
  refine c_fields ?_
  (refine gq41 (u64_of k0 (by omega)) ?_; try with_reducible exact True.intro)
  refine zeH (by omega) (by omega) ?_
  have wo := u64_of o0 (by omega : o.offset < 9223372036854775808)
  have wl : IntKind.u64.wrap ((zeT o.recs).length : Int) = (o.recs.length : Int) := by rw [zA]; exact zcC (by omega)
  have wl' : IntKind.u64.wrap (o.recs.length : Int) = (o.recs.length : Int) := zcC (by omega)
  have f1 : zmm o.kind = true ↔ o.kind ≠ 0 := by simp [zmm]; omega
  have f2 : zoZ o.kind = true ↔ o.kind = 3 := by simp [zoZ]
  have f3 : fOff o.kind = true ↔ (o.kind = 3 ∨ o.kind = 4) := by simp [fOff]
  have f4 : zwc o.kind = true ↔ o.kind = 2 := by simp [zwc]
  repeat' first
    | (refine gq62 (gqc3 wo (gqc3 wl wl')) ?_; try with_reducible exact True.intro)
    | (refine zS (fun h => ?_) (fun h => ?_) <;> (try rw [h]))
    | ((with_reducible refine And.intro ?_ ?_); focus (first | omega | rfl | decide))
    | refine zow (by omega) (by simp only [zra, List.length_append] at *; omega) ?_
    | refine zeH (by omega) (by simp only [zra, List.length_append] at *; omega) ?_
  -- the ways that end, those that can't be
  all_goals first
    | (exfalso; clear hK; grind)
    | (refine zq hl ?_
       (try simp only [decide_eq_true_eq, decide_eq_false_iff_not, beq_iff_eq, beq_eq_false_iff_ne, bne_iff_ne, ne_eq, Bool.not_eq_true', Bool.not_eq_false', bne_eq_false_iff_eq] at *)
       simp only [zdF, dmT, dm, dm1]
       (first | rw [opB_0 (by grind)] at hK | rw [opB_1 (by grind)] at hK | rw [opB_3 (by grind)] at hK | rw [opB_4 (by grind)] at hK)
       exact hK)
    | skip
  -- the records
  have hk2 : o.kind = 2 := by grind
  rw [opB_2 hk2] at hK
  refine zl o.recs.length (fun k vs s => ∃ t τ, vs = [.own t (bcs (b ++ (zcf o.kind.toNat ++ (zcf o.topic.length ++ (o.topic ++ (zcf o.recs.length ++ zqk (o.recs.take k))))))), .d (.int .i64 k)] ∧ s = σ ++ .box [.d (.int .i64 o.kind), .d (.str o.topic), .d (.str o.group), .d (.int .i64 o.offset), .d (.slice (zeT o.recs))] :: τ)
    ⟨σ.length + 3, _, by rw [List.take_zero, show zqk [] = [] from rfl, List.append_nil]; rfl, rfl⟩ ?_
  rintro k vs s hk ⟨t, τ, rfl, rfl⟩
  (refine zuE ?_; try with_reducible exact True.intro)
  refine zS (fun h => ?_) (fun h => ?_)
  · have hka : k < o.recs.length := by (try simp only [decide_eq_true_eq, decide_eq_false_iff_not, beq_iff_eq, beq_eq_false_iff_ne, bne_iff_ne, ne_eq, Bool.not_eq_true', Bool.not_eq_false', bne_eq_false_iff_eq] at *); omega
    have hx : o.recs[k]? = some o.recs[k] := by simp [hka]
    have hle := rec_le (List.getElem_mem hka)
    have htl := zjL o.recs (by omega) k
    (refine gq41 (zeZ hx) ?_; try with_reducible exact True.intro)
    refine And.intro (by omega) (zow (by omega) (by simp only [zra, List.length_append] at *; omega) ?_)
    (refine zuE ?_; try with_reducible exact True.intro)
    refine zaG.next hka ⟨σ.length + (τ.length + 1), _, ?_, rfl⟩
    rw [zat (by omega) (by omega), zuo hx]
    simp only [zra, List.append_assoc]
    rfl
  · have hke : k = o.recs.length := by (try simp only [decide_eq_true_eq, decide_eq_false_iff_not, beq_iff_eq, beq_eq_false_iff_ne, bne_iff_ne, ne_eq, Bool.not_eq_true', Bool.not_eq_false', bne_eq_false_iff_eq] at *); omega
    subst hke
    refine zq hl ?_
    rw [List.take_length]
    exact hK
end Go.Proofs.YtpgahkdjkanblaaGreat
