/- Contracts: which view-changes and new views may be, as messages: bare, Check: the program's. -/
import Derived.Test.YtpgahkdjkanblaaGreatSm6
import Derived.Test.YtpgahkdjkanblaaGreatSpPut
import Derived.Test.YtpgahkdjkanblaaGreatNr3
import Derived.Test.YtpgahkdjkanblaaGreatSm4
import Derived.Test.YtpgahkdjkanblaaGreatCodec1
set_option linter.all false
set_option maxRecDepth 100000
set_option linter.unusedSimpArgs false
set_option linter.unusedVariables false
namespace Go.Proofs.YtpgahkdjkanblaaGreat
open Go.AW

theorem c_bare7 {σ : List zd} {m : zes} (hk : m.kind = 7) {K : KT} (hK : K (zlf (zoK m)) σ) : zl Tryz.prog zhy [zlf m] σ K := by
  refine ze zhA.is rfl fun hl _ => zhA.goes ?_
  simp only [zku, iN, bT, bF, eN]
  refine zay (zq (show (m.kind == 1) = false by rw [hk]; rfl) (zq (show (m.kind == 2) = false by rw [hk]; rfl) (zq (show (m.kind == 3) = false by rw [hk]; rfl) (zq (show (m.kind == 4) = false by rw [hk]; rfl) (zq (show (m.kind == 5) = false by rw [hk]; rfl) (zq (show (m.kind == 6) = false by rw [hk]; rfl) (zq (show (m.kind == 7) = true by rw [hk]; rfl) (zq (show (m.kind == 8) = false by rw [hk]; rfl) (zq (show (m.kind == 9) = false by rw [hk]; rfl) (zq (show (m.kind == 10) = false by rw [hk]; rfl) (zq (show (m.kind == 11) = false by rw [hk]; rfl) (show (m.kind == 12) = false by rw [hk]; rfl)))))))))))) ?_
  refine zkS ?_
  refine zay (show ownK m.kind = false by rw [hk]; rfl) ?_
  refine zV hl ?_
  simp only [zoK, hk] at hK
  rw [hk]
  exact hK
theorem c_bare8 {σ : List zd} {m : zes} (hk : m.kind = 8) {K : KT} (hK : K (zlf (zoK m)) σ) : zl Tryz.prog zhy [zlf m] σ K := by
  refine ze zhA.is rfl fun hl _ => zhA.goes ?_
  simp only [zku, iN, bT, bF, eN]
  refine zay (zq (show (m.kind == 1) = false by rw [hk]; rfl) (zq (show (m.kind == 2) = false by rw [hk]; rfl) (zq (show (m.kind == 3) = false by rw [hk]; rfl) (zq (show (m.kind == 4) = false by rw [hk]; rfl) (zq (show (m.kind == 5) = false by rw [hk]; rfl) (zq (show (m.kind == 6) = false by rw [hk]; rfl) (zq (show (m.kind == 7) = false by rw [hk]; rfl) (zq (show (m.kind == 8) = true by rw [hk]; rfl) (zq (show (m.kind == 9) = false by rw [hk]; rfl) (zq (show (m.kind == 10) = false by rw [hk]; rfl) (zq (show (m.kind == 11) = false by rw [hk]; rfl) (show (m.kind == 12) = false by rw [hk]; rfl)))))))))))) ?_
  refine zkS ?_
  refine zay (show ownK m.kind = true by rw [hk]; rfl) ?_
  refine zV hl ?_
  simp only [zoK, hk] at hK
  rw [hk]
  exact hK
theorem noPf_small : smallPf zqi := ⟨by decide, by decide, by decide, by decide, by decide, by simp [zqi, znV], by simp [zqi, znV], by simp [zqi, znV], by simp [zqi]⟩
theorem zfk : zcH zfl := ⟨⟨by decide, by simp [zfl]⟩, ⟨by decide, by simp [zfl]⟩, by decide, by decide, by simp [zfl], by decide, by simp [zfl], noPf_small, by decide, by decide⟩
theorem ite_small {c : Prop} [h : Decidable c] {a b : zes} (ha : zcH a) (hb : zcH b) : zcH (if c then a else b) := by
  cases h
  · rw [if_neg ‹_›]; exact hb
  · rw [if_pos ‹_›]; exact ha
theorem zuh {m : zes} (h : zcH m) : zcH (zoK m) := by
  obtain ⟨h1, h2, h3, h4, h5, h6, h7, h8, h9, h10⟩ := h
  obtain ⟨n1, n2, n3, n4, n5, n6, n7, n8, n9, n10⟩ := zfk
  unfold zoK
  repeat' refine ite_small ?_ ?_
  all_goals constructor <;> assumption
theorem gq53 {A P Q : Prop} (a : A) (h : Q) (e : A → Hd Q → P := by intro a h; (repeat' first | simp -dsimp only [↓zfa, ↓zat, ↓zbt, ↓zfb, ↓zeW, ↓zeU, ↓zeX, ↓zeV, ↓zby, ↓zbu, ↓zbz, ↓zbv, ↓zeY, ↓zbs, ↓zbA, ↓zbw, ↓zbB, ↓zbx, ↓zeT, ↓zeZ, ↓zbr, ↓zbC, ↓zeQ, ↓zeP, ↓zeS, iN, bT, bF, eN, ↓zcO, ↓unC, ↓zP, ↓zG, ↓zH, ↓zK, ↓zW, ↓zaz, ↓zdn, ↓zau, ↓zbf, ↓zQ, ↓zg, ↓zf, ↓zbY, ↓zb, ↓zae, ↓zL, ↓zaN, ↓zaO, ↓zc, ↓zB, ↓zj, ↓zE, ↓zY, ↓zdz, ↓zdA, ↓zam, ↓zap, ↓zaK, ↓zaV, ↓zbj, ↓zm, ↓zai, ↓zJ, ↓zr, ↓zT, zdD, zbo, zbk, unA, zcZ, bnd, zdZ, zac, zR, zdT, dm, dm1, zI, zan, zeq, zep, zZ, Q0, Q1, Q2, Q3, Q4, Q5, zX, zn, zo, zF, zA, Q6, Q7, Q8, Q9, Q10, Q11, Q12, Q13, Q14, Nat.reduceAdd, Q15, Int.reduceToNat, Q16, Q17, Q18, Q19, Q20, reduceIte, Q21, Q22, zw, rep, zU, zeo, toD, zaa, Q23, Q24, Q25, Q26, Q27, Q28, Nat.reduceLeDiff, Q29, Nat.reduceSub, Q30, Q31, Q32, sc, Q33, Q34, Q35, Q36, Q37, Q26, Q38, Q39, zlJ, zlG, zlD, zlK, zeM, zlH, zlE, zlI, zlF, zeL, zeN, zlL, zlM, Bool.not_true, Bool.not_false, List.length_map, List.nil_append, a] | with_reducible refine zmc ?_ | fail); exact h.go) : P := e a ⟨h⟩
theorem c_mCheck7 {σ : List zd} {m : zes} (hm : zcH m) (hk : m.kind = 7) {K : KT} (hK : K (.d (.int .i64 (zbO m))) σ) : zl Tryz.prog zfo [zlf m] σ K := by
  refine ze zgz.is rfl fun hl _ => zgz.goes ?_
  have fin : ∀ z, zbO m = z → K (.d (.int .i64 z)) σ := fun z h => h ▸ hK
  clear hK
  simp only [zjD, iN, bT, bF, eN]
  refine zaF ?_
  refine c_aMsg7 (P := []) (m := m) (by rw [List.getElem?_append_right (by omega)]; simp [zgi, zec]) hm hk ?_
  cases h1 : (zec (zjP m) == 0)
  · refine gq53 h1 ?_
    refine zV hl ?_
    exact fin _ (by simp at h1; simp [zbO, h1])
  refine gq53 h1 ?_
  refine c_bare7 (m := m) hk ?_
  refine zaF ?_
  refine c_mSame (a := m) (b := zoK m) hm (zuh hm) ?_
  cases h2 : decide (m = zoK m)
  · refine zaF ?_
    refine zV hl ?_
    exact fin _ (by simp at h1 h2; simp [zbO, h1, h2])
  · refine zay h1 ?_
    refine zV hl ?_
    exact fin _ (by simp at h1 h2; simp [zbO, h1, ← h2])
theorem c_mCheck8 {σ : List zd} {m : zes} (hm : zcH m) (hk : m.kind = 8) {K : KT} (hK : K (.d (.int .i64 (zbO m))) σ) : zl Tryz.prog zfo [zlf m] σ K := by
  refine ze zgz.is rfl fun hl _ => zgz.goes ?_
  have fin : ∀ z, zbO m = z → K (.d (.int .i64 z)) σ := fun z h => h ▸ hK
  clear hK
  simp only [zjD, iN, bT, bF, eN]
  refine zaF ?_
  refine c_aMsg8 (P := []) (m := m) (by rw [List.getElem?_append_right (by omega)]; simp [zgi, zec]) hm hk ?_
  cases h1 : (zec (zjP m) == 0)
  · refine gq53 h1 ?_
    refine zV hl ?_
    exact fin _ (by simp at h1; simp [zbO, h1])
  refine gq53 h1 ?_
  refine c_bare8 (m := m) hk ?_
  refine zaF ?_
  refine c_mSame (a := m) (b := zoK m) hm (zuh hm) ?_
  cases h2 : decide (m = zoK m)
  · refine zaF ?_
    refine zV hl ?_
    exact fin _ (by simp at h1 h2; simp [zbO, h1, h2])
  · refine zay h1 ?_
    refine zV hl ?_
    exact fin _ (by simp at h1 h2; simp [zbO, h1, ← h2])
end Go.Proofs.YtpgahkdjkanblaaGreat

/- Contracts: which view-changes and new views may be, as messages: the document's. -/
set_option maxRecDepth 100000
set_option linter.unusedSimpArgs false
set_option linter.unusedVariables false
namespace Go.Proofs.YtpgahkdjkanblaaGreat
open Go.AW

end Go.Proofs.YtpgahkdjkanblaaGreat

/- Contracts: messages that are the same, the document's. -/
set_option maxRecDepth 100000
set_option linter.unusedSimpArgs false
set_option linter.unusedVariables false
namespace Go.Proofs.YtpgahkdjkanblaaGreat
open Go.AW

end Go.Proofs.YtpgahkdjkanblaaGreat

/- Contracts: an operation's bytes. -/
set_option maxRecDepth 100000
set_option linter.unusedSimpArgs false
namespace Go.Proofs.YtpgahkdjkanblaaGreat
open Go.AW

theorem u64_of {n : Int} (h : 0 ≤ n) (h2 : n < 9223372036854775808) : IntKind.u64.wrap n = (n.toNat : Int) := by
  obtain ⟨m, rfl⟩ := Int.eq_ofNat_of_zero_le h
  rw [Int.toNat_natCast]; exact zgj (by omega)
theorem bytesE (s : List UInt8) : s.map zdc = bcs s := rfl

theorem gq54 {A P Q : Prop} (a : A) (h : Q) (e : A → P = Q := by intro a; simp -dsimp only [↓zfa, ↓zat, ↓zbt, ↓zfb, ↓zeW, ↓zeU, ↓zeX, ↓zeV, ↓zby, ↓zbu, ↓zbz, ↓zbv, ↓zeY, ↓zbs, ↓zbA, ↓zbw, ↓zbB, ↓zbx, ↓zeT, ↓zeZ, ↓zbr, ↓zbC, ↓zeQ, ↓zeP, ↓zeS, iN, bT, bF, eN, ↓zcO, ↓unC, ↓zP, ↓zG, ↓zH, ↓zK, ↓zW, ↓zaz, ↓zdn, ↓zau, ↓zbf, ↓zQ, ↓zg, ↓zf, ↓zbY, ↓zb, ↓zae, ↓zL, ↓zaN, ↓zaO, ↓zc, ↓zB, ↓zj, ↓zE, ↓zY, ↓zdz, ↓zdA, ↓zam, ↓zap, ↓zaK, ↓zaV, ↓zbj, ↓zm, ↓zai, ↓zJ, ↓zr, ↓zT, zdD, zbo, zbk, unA, zcZ, bnd, zdZ, zac, zR, zdT, dm, dm1, zI, zan, zeq, zep, zZ, Q0, Q1, Q2, Q3, Q4, Q5, zX, zn, zo, zF, zA, Q6, Q7, Q8, Q9, Q10, Q11, Q12, Q13, Q14, Nat.reduceAdd, Q15, Int.reduceToNat, Q16, Q17, Q18, Q19, Q20, reduceIte, Q21, Q22, zw, rep, zU, zeo, toD, zaa, Q23, Q24, Q25, Q26, Q27, Q28, Nat.reduceLeDiff, Q29, Nat.reduceSub, Q30, Q31, Q32, sc, Q33, Q34, Q35, a]; rfl) : P := (e a).mpr h
theorem gq55 {A P Q : Prop} (a : A) (h : Q) (e : A → P = Q := by intro a; simp -dsimp only [↓zfa, ↓zat, ↓zbt, ↓zfb, ↓zeW, ↓zeU, ↓zeX, ↓zeV, ↓zby, ↓zbu, ↓zbz, ↓zbv, ↓zeY, ↓zbs, ↓zbA, ↓zbw, ↓zbB, ↓zbx, ↓zeT, ↓zeZ, ↓zbr, ↓zbC, ↓zeQ, ↓zeP, ↓zeS, iN, bT, bF, eN, ↓zcO, ↓unC, ↓zP, ↓zG, ↓zH, ↓zK, ↓zW, ↓zaz, ↓zdn, ↓zau, ↓zbf, ↓zQ, ↓zg, ↓zf, ↓zbY, ↓zb, ↓zae, ↓zL, ↓zaN, ↓zaO, ↓zc, ↓zB, ↓zj, ↓zE, ↓zY, ↓zdz, ↓zdA, ↓zam, ↓zap, ↓zaK, ↓zaV, ↓zbj, ↓zm, ↓zai, ↓zJ, ↓zr, ↓zT, zdD, zbo, zbk, unA, zcZ, bnd, zdZ, zac, zR, zdT, dm, dm1, zI, zan, zeq, zep, zZ, Q0, Q1, Q2, Q3, Q4, Q5, zX, zn, zo, zF, zA, Q6, Q7, Q8, Q9, Q10, Q11, Q12, Q13, Q14, Nat.reduceAdd, Q15, Int.reduceToNat, Q16, Q17, Q18, Q19, Q20, reduceIte, Q21, Q22, zw, rep, zU, zeo, toD, zaa, Q23, Q24, Q25, Q26, Q27, Q28, Nat.reduceLeDiff, Q29, Nat.reduceSub, Q30, Q31, Q32, sc, Q33, Q34, Q35, bytesE, a]; rfl) : P := (e a).mpr h
theorem c_Put {σ : List zd} {b : List UInt8} {o : TOp} (hb : b.length ≤ 268435456) (ho : zmB o ≤ 268435456) {K : KT} (hK : K (.d (.slice (bcs (b ++ if zeD zmI o = 0 then opB o else [])))) σ) :
    zl Tryz.prog zuF [.d (.slice (bcs b)), opA o] σ K := by
  refine ze e_op_Put.is rfl fun hl _ => e_op_Put.goes ?_
  have hsz := ho
  simp only [zmB] at hsz
  have hrl := zor o.recs
  simp only [S_op_Put, iN, bT, bF, eN, opA]
  (refine gq30 ?_; try with_reducible exact True.intro)
  refine zfz zht (by simp [bcs]; omega) ?_
  (refine gq30 ?_; try with_reducible exact True.intro)
  refine c_Check (o := o) (by omega) (by omega) (by omega) ?_
  (refine gq30 ?_; try with_reducible exact True.intro)
  refine zaU (fun h => ?_) (fun h => ?_)
  · refine zV hl ?_
    (try simp only [decide_eq_true_eq, decide_eq_false_iff_not, beq_iff_eq, beq_eq_false_iff_ne, bne_iff_ne, ne_eq, Bool.not_eq_true', Bool.not_eq_false', bne_eq_false_iff_eq] at *)
    rw [if_neg h, List.append_nil] at hK
    exact hK
  have hc : zeD zmI o = 0 := by (try simp only [decide_eq_true_eq, decide_eq_false_iff_not, beq_iff_eq, beq_eq_false_iff_ne, bne_iff_ne, ne_eq, Bool.not_eq_true', Bool.not_eq_false', bne_eq_false_iff_eq] at *); omega
  obtain ⟨k0, k4, o0, o1, hon⟩ := zuV hc
  rw [if_pos hc] at hK
  have hkn := zC (n := o.kind.toNat) (by omega)
  have hon' := zC (n := o.offset.toNat) (by omega)
  have hrn := zC (n := o.recs.length) (by omega)
  have htp := zli (x := o.topic) (by omega)
  have hgp := zli (x := o.group) (by omega)
  (refine gq54 (u64_of k0 (by omega)) ?_; try with_reducible exact True.intro)
  refine zeF (by omega) (by omega) ?_
  have wo := u64_of o0 (by omega : o.offset < 9223372036854775808)
  have wl : IntKind.u64.wrap ((zgh o.recs).length : Int) = (o.recs.length : Int) := by rw [zw]; exact zgj (by omega)
  have wl' : IntKind.u64.wrap (o.recs.length : Int) = (o.recs.length : Int) := zgj (by omega)
  repeat' first
    | (refine gq55 (gqc3 wo (gqc3 wl wl')) ?_; try with_reducible exact True.intro)
    | (refine zaU (fun h => ?_) (fun h => ?_) <;> (try rw [h]))
    | ((with_reducible refine And.intro ?_ ?_); focus (first | omega | rfl | decide))
    | refine znI (by omega) (by simp only [ztu, List.length_append] at *; omega) ?_
    | refine zeF (by omega) (by simp only [ztu, List.length_append] at *; omega) ?_
  -- the ways that end
  all_goals first
    | (exfalso; (try simp only [decide_eq_true_eq, decide_eq_false_iff_not, beq_iff_eq, beq_eq_false_iff_ne, bne_iff_ne, ne_eq, Bool.not_eq_true', Bool.not_eq_false', bne_eq_false_iff_eq] at *); omega)
    | (refine zV hl ?_
       (try simp only [decide_eq_true_eq, decide_eq_false_iff_not, beq_iff_eq, beq_eq_false_iff_ne, bne_iff_ne, ne_eq, Bool.not_eq_true', Bool.not_eq_false', bne_eq_false_iff_eq] at *)
       simp only [zdy, dmT, dm, dm1]
       (first | rw [opB_0 (by omega)] at hK | rw [opB_1 (by omega)] at hK | rw [opB_3 (by omega)] at hK | rw [opB_4 (by omega)] at hK)
       exact hK)
    | skip
  -- the records
  have hk2 : o.kind = 2 := by (try simp only [decide_eq_true_eq, decide_eq_false_iff_not, beq_iff_eq, beq_eq_false_iff_ne, bne_iff_ne, ne_eq, Bool.not_eq_true', Bool.not_eq_false', bne_eq_false_iff_eq] at *); omega
  rw [opB_2 hk2] at hK
  refine zy o.recs.length (fun k vs s => ∃ t τ, vs = [.own t (bcs (b ++ (zdv o.kind.toNat ++ (zdv o.topic.length ++ (o.topic ++ (zdv o.recs.length ++ zrO (o.recs.take k))))))), .d (.int .i64 k)] ∧ s = σ ++ τ) ⟨σ.length + 4, _, by rw [List.take_zero, show zrO [] = [] from rfl, List.append_nil]; rfl, rfl⟩ ?_
  rintro k vs s hk ⟨t, τ, rfl, rfl⟩
  (refine gq30 ?_; try with_reducible exact True.intro)
  refine zaU (fun h => ?_) (fun h => ?_)
  · have hka : k < o.recs.length := by (try simp only [decide_eq_true_eq, decide_eq_false_iff_not, beq_iff_eq, beq_eq_false_iff_ne, bne_iff_ne, ne_eq, Bool.not_eq_true', Bool.not_eq_false', bne_eq_false_iff_eq] at *); omega
    have hx : o.recs[k]? = some o.recs[k] := by simp [hka]
    have hle := rec_le (List.getElem_mem hka)
    have htl := znT o.recs (by omega) k
    (refine gq54 (zhG hx) ?_; try with_reducible exact True.intro)
    refine And.intro (by omega) (znI (by omega) (by simp only [ztu, List.length_append] at *; omega) ?_)
    (refine gq30 ?_; try with_reducible exact True.intro)
    refine zbp.next hka ⟨σ.length + τ.length, _, ?_, rfl⟩
    rw [zbE (by omega) (by omega), recsB_snoc hx]
    simp only [ztu, List.append_assoc]
    rfl
  · have hke : k = o.recs.length := by (try simp only [decide_eq_true_eq, decide_eq_false_iff_not, beq_iff_eq, beq_eq_false_iff_ne, bne_iff_ne, ne_eq, Bool.not_eq_true', Bool.not_eq_false', bne_eq_false_iff_eq] at *); omega
    subst hke
    refine zV hl ?_
    rw [List.take_length]
    exact hK

end Go.Proofs.YtpgahkdjkanblaaGreat
