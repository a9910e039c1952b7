/- Contracts: messages that are the same, the program's. -/
import Derived.Test.YtpgahkdjkanblaaGreatSm2
import Derived.Test.YtpgahkdjkanblaaGreatSpMsg
set_option linter.all false
set_option maxRecDepth 100000
set_option linter.unusedSimpArgs false
set_option linter.unusedVariables false
namespace Go.Proofs.YtpgahkdjkanblaaGreat
open Go.AW

theorem gq53 {A P Q : Prop} (a : A) (h : Q) (e : A → Hd Q → P := by intro a h; (repeat' first | simp -dsimp only [↓zey, ↓zay, ↓zbs, ↓zez, ↓zeu, ↓zes, ↓zev, ↓zet, ↓zbx, ↓zbt, ↓zby, ↓zbu, ↓zew, ↓zbr, ↓zbz, ↓zbv, ↓zbA, ↓zbw, ↓zer, ↓zex, ↓zbp, ↓zbB, ↓zep, ↓zeo, ↓zeq, iN, bT, bF, eN, ↓zcv, ↓unC, ↓zU, ↓zI, ↓zJ, ↓zM, ↓zX, ↓zal, ↓zcX, ↓zai, ↓zaJ, ↓zW, ↓zg, ↓zn, ↓zbP, ↓zb, ↓zaf, ↓zD, ↓zaI, ↓zaQ, ↓zd, ↓zF, ↓zj, ↓zG, ↓zam, ↓zdc, ↓zdj, ↓zak, ↓zau, ↓zaL, ↓zaY, ↓zbh, ↓zo, ↓zaj, ↓zK, ↓zr, ↓zV, zdk, zbn, zbk, unA, zdu, bnd, zdG, zae, zO, zdW, dm, dm1, zR, zaF, zea, zdZ, zw, Q0, Q1, Q2, Q3, Q4, Q5, zY, zC, zt, zN, zE, Q6, Q7, Q8, Q9, Q10, Q11, Q12, Q13, Q14, Nat.reduceAdd, Q15, Int.reduceToNat, Q16, Q17, Q18, Q19, Q20, reduceIte, Q21, Q22, zA, rep, zZ, zeB, toD, zap, Q23, Q24, Q25, Q26, Q27, Q28, Nat.reduceLeDiff, Q29, Nat.reduceSub, Q30, Q31, Q32, sc, Q33, Q34, Q35, Q36, Q37, Q26, Q38, Q39, zpZ, zpW, zpT, zqa, zgd, zpX, zpU, zpY, zpV, zgc, zge, zqb, zqc, Bool.not_true, Bool.not_false, List.length_map, Bool.and_false, Bool.and_self, Bool.false_and, Bool.true_and, Option.isSome_none, Option.isSome_some, Option.map_none, Option.map_some, beq_self_eq_true, bne_self_eq_false, a] | with_reducible refine zqd ?_ | fail); exact h.go) : P := e a ⟨h⟩
theorem c_mSameProof {σ : List zf} {a b : zlz} (ha : zvI a) {K : KT} (hK : K (.d (.bool (decide (a = b)))) σ) : zm Tryz.prog zfs [proofA a, proofA b] σ K := by
  refine zc ziE.is rfl fun hl _ => ziE.goes ?_
  have fin : ∀ z, decide (a = b) = z → K (.d (.bool z)) σ := fun z h => h ▸ hK
  clear hK
  simp only [ziS, iN, bT, bF, eN]
  cases h1 : (a.topic == b.topic)
  · refine zH h1 ?_
    refine zq hl ?_
    exact fin _ (decide_eq_false fun h => by subst h; simp at h1)
  cases h2 : (a.offset == b.offset)
  · refine zH (zi h1 h2) ?_
    refine zq hl ?_
    exact fin _ (decide_eq_false fun h => by subst h; simp at h2)
  refine gq53 (zi h1 h2) ?_
  refine zle ?_
  cases h3 : (a.rec_ == b.rec_)
  · refine zH h3 ?_
    refine zq hl ?_
    exact fin _ (decide_eq_false fun h => by subst h; simp at h3)
  refine gq53 h3 ?_
  refine c_eqHdr ha.headers ?_
  cases h4 : decide (a.headers = b.headers)
  · refine zH h4 ?_
    refine zq hl ?_
    exact fin _ (decide_eq_false fun h => by subst h; simp at h4)
  cases h5 : (a.index == b.index)
  · refine zH (zi h4 h5) ?_
    refine zq hl ?_
    exact fin _ (decide_eq_false fun h => by subst h; simp at h5)
  cases h6 : (a.count == b.count)
  · refine zH (zi h4 (zi h5 h6)) ?_
    refine zq hl ?_
    exact fin _ (decide_eq_false fun h => by subst h; simp at h6)
  refine gq53 (zi h4 (zi h5 h6)) ?_
  refine c_eqDig ha.path ?_
  cases h7 : decide (a.path = b.path)
  · refine zH h7 ?_
    refine zq hl ?_
    exact fin _ (decide_eq_false fun h => by subst h; simp at h7)
  refine gq53 h7 ?_
  refine zox (a := a.cert) (b := b.cert) ha.signs ?_
  cases h8 : decide (a.cert = b.cert)
  · refine zH h8 ?_
    refine zq hl ?_
    exact fin _ (decide_eq_false fun h => by subst h; simp at h8)
  refine zH h8 ?_
  refine zq hl ?_
  exact fin _ (decide_eq_true (by cases a; cases b; simp_all))
abbrev fltMA (a : zgs) : AV := .agg [.d (.int .i64 a.kind), .d (.int .i64 a.src), .d (.int .i64 a.client), .d (.int .i64 a.view), .d (.int .i64 a.seq), .d (.int .i64 a.time), .d (.int .i64 a.offset), .d (.int .i64 a.dig), .d (.int .i64 a.rerr), .d (.int .i64 a.roff), .d (.str a.topic), .d (.int .i64 a.key), .d (.int .i64 a.sdig)]
theorem c_flatOf {σ : List zf} {a : zgs} {K : KT} (hK : K (fltMA a) σ) : zm Tryz.prog zfl [zqx a] σ K := by
  refine zc zlt.is rfl fun hl _ => zlt.goes ?_
  simp only [zlL, iN, bT, bF, eN]
  refine zao ?_
  refine zq hl ?_
  exact hK
structure zdX (m : zgs) : Prop where
  batch : okB m.batch
  batchS : zhF m.batch
  signs : m.cert.signs.length ≤ 1073741824
  changes : m.changes.length ≤ 1073741824
  change : ∀ c ∈ m.changes, okCh c ∧ zjd c
  entries : m.entries.length ≤ 1073741824
  entry : ∀ x ∈ m.entries, okB x.batch ∧ zsa x
  proof : zvI m.proof
  topic : m.topic.length ≤ 16777216
  state : m.state.length ≤ 1073741824
theorem gq54 {A P Q : Prop} (a : A) (h : Q) (e : A → Hd Q → P := by intro a h; (repeat' first | simp -dsimp only [↓zey, ↓zay, ↓zbs, ↓zez, ↓zeu, ↓zes, ↓zev, ↓zet, ↓zbx, ↓zbt, ↓zby, ↓zbu, ↓zew, ↓zbr, ↓zbz, ↓zbv, ↓zbA, ↓zbw, ↓zer, ↓zex, ↓zbp, ↓zbB, ↓zep, ↓zeo, ↓zeq, iN, bT, bF, eN, ↓zcv, ↓unC, ↓zU, ↓zI, ↓zJ, ↓zM, ↓zX, ↓zal, ↓zcX, ↓zai, ↓zaJ, ↓zW, ↓zg, ↓zn, ↓zbP, ↓zb, ↓zaf, ↓zD, ↓zaI, ↓zaQ, ↓zd, ↓zF, ↓zj, ↓zG, ↓zam, ↓zdc, ↓zdj, ↓zak, ↓zau, ↓zaL, ↓zaY, ↓zbh, ↓zo, ↓zaj, ↓zK, ↓zr, ↓zV, zdk, zbn, zbk, unA, zdu, bnd, zdG, zae, zO, zdW, dm, dm1, zR, zaF, zea, zdZ, zw, Q0, Q1, Q2, Q3, Q4, Q5, zY, zC, zt, zN, zE, Q6, Q7, Q8, Q9, Q10, Q11, Q12, Q13, Q14, Nat.reduceAdd, Q15, Int.reduceToNat, Q16, Q17, Q18, Q19, Q20, reduceIte, Q21, Q22, zA, rep, zZ, zeB, toD, zap, Q23, Q24, Q25, Q26, Q27, Q28, Nat.reduceLeDiff, Q29, Nat.reduceSub, Q30, Q31, Q32, sc, Q33, Q34, Q35, Q36, Q37, Q26, Q38, Q39, zpZ, zpW, zpT, zqa, zgd, zpX, zpU, zpY, zpV, zgc, zge, zqb, zqc, Bool.not_true, Bool.not_false, List.length_map, Option.map_none, Option.map_some, zdT, a] | with_reducible refine zqd ?_ | fail); exact h.go) : P := e a ⟨h⟩
theorem gq55 {A P Q : Prop} (a : A) (h : Q) (e : A → Hd Q → P := by intro a h; (repeat' first | simp -dsimp only [↓zey, ↓zay, ↓zbs, ↓zez, ↓zeu, ↓zes, ↓zev, ↓zet, ↓zbx, ↓zbt, ↓zby, ↓zbu, ↓zew, ↓zbr, ↓zbz, ↓zbv, ↓zbA, ↓zbw, ↓zer, ↓zex, ↓zbp, ↓zbB, ↓zep, ↓zeo, ↓zeq, iN, bT, bF, eN, ↓zcv, ↓unC, ↓zU, ↓zI, ↓zJ, ↓zM, ↓zX, ↓zal, ↓zcX, ↓zai, ↓zaJ, ↓zW, ↓zg, ↓zn, ↓zbP, ↓zb, ↓zaf, ↓zD, ↓zaI, ↓zaQ, ↓zd, ↓zF, ↓zj, ↓zG, ↓zam, ↓zdc, ↓zdj, ↓zak, ↓zau, ↓zaL, ↓zaY, ↓zbh, ↓zo, ↓zaj, ↓zK, ↓zr, ↓zV, zdk, zbn, zbk, unA, zdu, bnd, zdG, zae, zO, zdW, dm, dm1, zR, zaF, zea, zdZ, zw, Q0, Q1, Q2, Q3, Q4, Q5, zY, zC, zt, zN, zE, Q6, Q7, Q8, Q9, Q10, Q11, Q12, Q13, Q14, Nat.reduceAdd, Q15, Int.reduceToNat, Q16, Q17, Q18, Q19, Q20, reduceIte, Q21, Q22, zA, rep, zZ, zeB, toD, zap, Q23, Q24, Q25, Q26, Q27, Q28, Nat.reduceLeDiff, Q29, Nat.reduceSub, Q30, Q31, Q32, sc, Q33, Q34, Q35, Q36, Q37, Q26, Q38, Q39, zpZ, zpW, zpT, zqa, zgd, zpX, zpU, zpY, zpV, zgc, zge, zqb, zqc, Bool.not_true, Bool.not_false, List.length_map, Option.map_none, Option.map_some, beq_self_eq_true, zdT, a] | with_reducible refine zqd ?_ | fail); exact h.go) : P := e a ⟨h⟩
theorem c_mSame {σ : List zf} {a b : zgs} (ha : zdX a) (hb : zdX b) {K : KT} (hK : K (.d (.bool (decide (a = b)))) σ) : zm Tryz.prog zjO [zqx a, zqx b] σ K := by
  refine zc znJ.is rfl fun hl _ => znJ.goes ?_
  have fin : ∀ z, decide (a = b) = z → K (.d (.bool z)) σ := fun z h => h ▸ hK
  clear hK
  simp only [znX, iN, bT, bF, eN]
  refine zao ?_
  refine c_flatOf (a := a) ?_
  refine zao ?_
  refine c_flatOf (a := b) ?_
  cases h1 : ((a.kind == b.kind && (a.src == b.src && (a.client == b.client && (a.view == b.view && (a.seq == b.seq && (a.time == b.time && (a.offset == b.offset && (a.dig == b.dig && (a.rerr == b.rerr && (a.roff == b.roff && (a.topic == b.topic && (a.key == b.key && a.sdig == b.sdig)))))))))))))
  · refine gq54 h1 ?_
    refine zq hl ?_
    exact fin _ (decide_eq_false fun h => by subst h; simp at h1)
  refine gq55 h1 ?_
  refine ztg ha.batchS hb.batchS ?_
  cases h2 : decide (a.batch = b.batch)
  · refine zH h2 ?_
    refine zq hl ?_
    exact fin _ (decide_eq_false fun h => by subst h; simp at h2)
  refine gq53 h2 ?_
  refine zox (a := a.cert) (b := b.cert) ha.signs ?_
  cases h3 : decide (a.cert = b.cert)
  · refine zH h3 ?_
    refine zq hl ?_
    exact fin _ (decide_eq_false fun h => by subst h; simp at h3)
  refine gq53 h3 ?_
  refine c_eqChanges ha.changes (fun x hx => (ha.change x hx).2) (fun x hx => (hb.change x hx).2) ?_
  cases h4 : decide (a.changes = b.changes)
  · refine zH h4 ?_
    refine zq hl ?_
    exact fin _ (decide_eq_false fun h => by subst h; simp at h4)
  refine gq53 h4 ?_
  refine c_eqEntries ha.entries (fun x hx => (ha.entry x hx).2) (fun x hx => (hb.entry x hx).2) ?_
  cases h5 : decide (a.entries = b.entries)
  · refine zH h5 ?_
    refine zq hl ?_
    exact fin _ (decide_eq_false fun h => by subst h; simp at h5)
  refine gq53 h5 ?_
  refine zle ?_
  cases h6 : (a.state == b.state)
  · refine zH h6 ?_
    refine zq hl ?_
    exact fin _ (decide_eq_false fun h => by subst h; simp at h6)
  refine gq53 h6 ?_
  refine c_mSameProof (a := a.proof) (b := b.proof) ha.proof ?_
  cases h7 : decide (a.proof = b.proof)
  · refine zH h7 ?_
    refine zq hl ?_
    exact fin _ (decide_eq_false fun h => by subst h; simp at h7)
  refine zH h7 ?_
  refine zq hl ?_
  exact fin _ (decide_eq_true (by cases a; cases b; simp_all))
end Go.Proofs.YtpgahkdjkanblaaGreat
