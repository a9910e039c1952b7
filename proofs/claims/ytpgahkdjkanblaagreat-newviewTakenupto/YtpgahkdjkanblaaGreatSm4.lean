/- Contracts: messages that are the same, the program's. -/
import Derived.Test.YtpgahkdjkanblaaGreatSm2
import Derived.Test.YtpgahkdjkanblaaGreatSpMsg
set_option linter.all false
set_option maxRecDepth 100000
set_option linter.unusedSimpArgs false
set_option linter.unusedVariables false
namespace Go.Proofs.YtpgahkdjkanblaaGreat
open Go.AW

theorem gq50 {A P Q : Prop} (a : A) (h : Q) (e : A → Hd Q → P := by intro a h; (repeat' first | simp -dsimp only [↓zfa, ↓zat, ↓zbt, ↓zfb, ↓zeW, ↓zeU, ↓zeX, ↓zeV, ↓zby, ↓zbu, ↓zbz, ↓zbv, ↓zeY, ↓zbs, ↓zbA, ↓zbw, ↓zbB, ↓zbx, ↓zeT, ↓zeZ, ↓zbr, ↓zbC, ↓zeQ, ↓zeP, ↓zeS, iN, bT, bF, eN, ↓zcO, ↓unC, ↓zP, ↓zG, ↓zH, ↓zK, ↓zW, ↓zaz, ↓zdn, ↓zau, ↓zbf, ↓zQ, ↓zg, ↓zf, ↓zbY, ↓zb, ↓zae, ↓zL, ↓zaN, ↓zaO, ↓zc, ↓zB, ↓zj, ↓zE, ↓zY, ↓zdz, ↓zdA, ↓zam, ↓zap, ↓zaK, ↓zaV, ↓zbj, ↓zm, ↓zai, ↓zJ, ↓zr, ↓zT, zdD, zbo, zbk, unA, zcZ, bnd, zdZ, zac, zR, zdT, dm, dm1, zI, zan, zeq, zep, zZ, Q0, Q1, Q2, Q3, Q4, Q5, zX, zn, zo, zF, zA, Q6, Q7, Q8, Q9, Q10, Q11, Q12, Q13, Q14, Nat.reduceAdd, Q15, Int.reduceToNat, Q16, Q17, Q18, Q19, Q20, reduceIte, Q21, Q22, zw, rep, zU, zeo, toD, zaa, Q23, Q24, Q25, Q26, Q27, Q28, Nat.reduceLeDiff, Q29, Nat.reduceSub, Q30, Q31, Q32, sc, Q33, Q34, Q35, Q36, Q37, Q26, Q38, Q39, zlJ, zlG, zlD, zlK, zeM, zlH, zlE, zlI, zlF, zeL, zeN, zlL, zlM, Bool.not_true, Bool.not_false, List.length_map, Bool.and_false, Bool.and_self, Bool.false_and, Bool.true_and, Option.isSome_none, Option.isSome_some, Option.map_none, Option.map_some, beq_self_eq_true, bne_self_eq_false, a] | with_reducible refine zmc ?_ | fail); exact h.go) : P := e a ⟨h⟩
theorem c_mSameProof {σ : List zd} {a b : zoh} (ha : smallPf a) {K : KT} (hK : K (.d (.bool (decide (a = b)))) σ) : zl Tryz.prog zfU [proofA a, proofA b] σ K := by
  refine ze zji.is rfl fun hl _ => zji.goes ?_
  have fin : ∀ z, decide (a = b) = z → K (.d (.bool z)) σ := fun z h => h ▸ hK
  clear hK
  simp only [zjy, iN, bT, bF, eN]
  cases h1 : (a.topic == b.topic)
  · refine zay h1 ?_
    refine zV hl ?_
    exact fin _ (decide_eq_false fun h => by subst h; simp at h1)
  cases h2 : (a.offset == b.offset)
  · refine zay (zq h1 h2) ?_
    refine zV hl ?_
    exact fin _ (decide_eq_false fun h => by subst h; simp at h2)
  refine gq50 (zq h1 h2) ?_
  refine zlz ?_
  cases h3 : (a.rec_ == b.rec_)
  · refine zay h3 ?_
    refine zV hl ?_
    exact fin _ (decide_eq_false fun h => by subst h; simp at h3)
  refine gq50 h3 ?_
  refine c_eqHdr ha.headers ?_
  cases h4 : decide (a.headers = b.headers)
  · refine zay h4 ?_
    refine zV hl ?_
    exact fin _ (decide_eq_false fun h => by subst h; simp at h4)
  cases h5 : (a.index == b.index)
  · refine zay (zq h4 h5) ?_
    refine zV hl ?_
    exact fin _ (decide_eq_false fun h => by subst h; simp at h5)
  cases h6 : (a.count == b.count)
  · refine zay (zq h4 (zq h5 h6)) ?_
    refine zV hl ?_
    exact fin _ (decide_eq_false fun h => by subst h; simp at h6)
  refine gq50 (zq h4 (zq h5 h6)) ?_
  refine c_eqDig ha.path ?_
  cases h7 : decide (a.path = b.path)
  · refine zay h7 ?_
    refine zV hl ?_
    exact fin _ (decide_eq_false fun h => by subst h; simp at h7)
  refine gq50 h7 ?_
  refine zoG (a := a.cert) (b := b.cert) ha.signs ?_
  cases h8 : decide (a.cert = b.cert)
  · refine zay h8 ?_
    refine zV hl ?_
    exact fin _ (decide_eq_false fun h => by subst h; simp at h8)
  refine zay h8 ?_
  refine zV hl ?_
  exact fin _ (decide_eq_true (by cases a; cases b; simp_all))
abbrev fltMA (a : zes) : AV := .agg [.d (.int .i64 a.kind), .d (.int .i64 a.src), .d (.int .i64 a.client), .d (.int .i64 a.view), .d (.int .i64 a.seq), .d (.int .i64 a.time), .d (.int .i64 a.offset), .d (.int .i64 a.dig), .d (.int .i64 a.rerr), .d (.int .i64 a.roff), .d (.str a.topic), .d (.int .i64 a.key), .d (.int .i64 a.sdig)]
theorem c_flatOf {σ : List zd} {a : zes} {K : KT} (hK : K (fltMA a) σ) : zl Tryz.prog zfM [zlf a] σ K := by
  refine ze zlX.is rfl fun hl _ => zlX.goes ?_
  simp only [zmn, iN, bT, bF, eN]
  refine zaF ?_
  refine zV hl ?_
  exact hK
structure zcH (m : zes) : Prop where
  batch : okB m.batch
  batchS : ziR m.batch
  signs : m.cert.signs.length ≤ 1073741824
  changes : m.changes.length ≤ 1073741824
  change : ∀ c ∈ m.changes, okCh c ∧ zlg c
  entries : m.entries.length ≤ 1073741824
  entry : ∀ x ∈ m.entries, okB x.batch ∧ zmE x
  proof : smallPf m.proof
  topic : m.topic.length ≤ 16777216
  state : m.state.length ≤ 1073741824
theorem gq51 {A P Q : Prop} (a : A) (h : Q) (e : A → Hd Q → P := by intro a h; (repeat' first | simp -dsimp only [↓zfa, ↓zat, ↓zbt, ↓zfb, ↓zeW, ↓zeU, ↓zeX, ↓zeV, ↓zby, ↓zbu, ↓zbz, ↓zbv, ↓zeY, ↓zbs, ↓zbA, ↓zbw, ↓zbB, ↓zbx, ↓zeT, ↓zeZ, ↓zbr, ↓zbC, ↓zeQ, ↓zeP, ↓zeS, iN, bT, bF, eN, ↓zcO, ↓unC, ↓zP, ↓zG, ↓zH, ↓zK, ↓zW, ↓zaz, ↓zdn, ↓zau, ↓zbf, ↓zQ, ↓zg, ↓zf, ↓zbY, ↓zb, ↓zae, ↓zL, ↓zaN, ↓zaO, ↓zc, ↓zB, ↓zj, ↓zE, ↓zY, ↓zdz, ↓zdA, ↓zam, ↓zap, ↓zaK, ↓zaV, ↓zbj, ↓zm, ↓zai, ↓zJ, ↓zr, ↓zT, zdD, zbo, zbk, unA, zcZ, bnd, zdZ, zac, zR, zdT, dm, dm1, zI, zan, zeq, zep, zZ, Q0, Q1, Q2, Q3, Q4, Q5, zX, zn, zo, zF, zA, Q6, Q7, Q8, Q9, Q10, Q11, Q12, Q13, Q14, Nat.reduceAdd, Q15, Int.reduceToNat, Q16, Q17, Q18, Q19, Q20, reduceIte, Q21, Q22, zw, rep, zU, zeo, toD, zaa, Q23, Q24, Q25, Q26, Q27, Q28, Nat.reduceLeDiff, Q29, Nat.reduceSub, Q30, Q31, Q32, sc, Q33, Q34, Q35, Q36, Q37, Q26, Q38, Q39, zlJ, zlG, zlD, zlK, zeM, zlH, zlE, zlI, zlF, zeL, zeN, zlL, zlM, Bool.not_true, Bool.not_false, List.length_map, Option.map_none, Option.map_some, zeE, a] | with_reducible refine zmc ?_ | fail); exact h.go) : P := e a ⟨h⟩
theorem gq52 {A P Q : Prop} (a : A) (h : Q) (e : A → Hd Q → P := by intro a h; (repeat' first | simp -dsimp only [↓zfa, ↓zat, ↓zbt, ↓zfb, ↓zeW, ↓zeU, ↓zeX, ↓zeV, ↓zby, ↓zbu, ↓zbz, ↓zbv, ↓zeY, ↓zbs, ↓zbA, ↓zbw, ↓zbB, ↓zbx, ↓zeT, ↓zeZ, ↓zbr, ↓zbC, ↓zeQ, ↓zeP, ↓zeS, iN, bT, bF, eN, ↓zcO, ↓unC, ↓zP, ↓zG, ↓zH, ↓zK, ↓zW, ↓zaz, ↓zdn, ↓zau, ↓zbf, ↓zQ, ↓zg, ↓zf, ↓zbY, ↓zb, ↓zae, ↓zL, ↓zaN, ↓zaO, ↓zc, ↓zB, ↓zj, ↓zE, ↓zY, ↓zdz, ↓zdA, ↓zam, ↓zap, ↓zaK, ↓zaV, ↓zbj, ↓zm, ↓zai, ↓zJ, ↓zr, ↓zT, zdD, zbo, zbk, unA, zcZ, bnd, zdZ, zac, zR, zdT, dm, dm1, zI, zan, zeq, zep, zZ, Q0, Q1, Q2, Q3, Q4, Q5, zX, zn, zo, zF, zA, Q6, Q7, Q8, Q9, Q10, Q11, Q12, Q13, Q14, Nat.reduceAdd, Q15, Int.reduceToNat, Q16, Q17, Q18, Q19, Q20, reduceIte, Q21, Q22, zw, rep, zU, zeo, toD, zaa, Q23, Q24, Q25, Q26, Q27, Q28, Nat.reduceLeDiff, Q29, Nat.reduceSub, Q30, Q31, Q32, sc, Q33, Q34, Q35, Q36, Q37, Q26, Q38, Q39, zlJ, zlG, zlD, zlK, zeM, zlH, zlE, zlI, zlF, zeL, zeN, zlL, zlM, Bool.not_true, Bool.not_false, List.length_map, Option.map_none, Option.map_some, beq_self_eq_true, zeE, a] | with_reducible refine zmc ?_ | fail); exact h.go) : P := e a ⟨h⟩
theorem c_mSame {σ : List zd} {a b : zes} (ha : zcH a) (hb : zcH b) {K : KT} (hK : K (.d (.bool (decide (a = b)))) σ) : zl Tryz.prog zkr [zlf a, zlf b] σ K := by
  refine ze zod.is rfl fun hl _ => zod.goes ?_
  have fin : ∀ z, decide (a = b) = z → K (.d (.bool z)) σ := fun z h => h ▸ hK
  clear hK
  simp only [zop, iN, bT, bF, eN]
  refine zaF ?_
  refine c_flatOf (a := a) ?_
  refine zaF ?_
  refine c_flatOf (a := b) ?_
  cases h1 : ((a.kind == b.kind && (a.src == b.src && (a.client == b.client && (a.view == b.view && (a.seq == b.seq && (a.time == b.time && (a.offset == b.offset && (a.dig == b.dig && (a.rerr == b.rerr && (a.roff == b.roff && (a.topic == b.topic && (a.key == b.key && a.sdig == b.sdig)))))))))))))
  · refine gq51 h1 ?_
    refine zV hl ?_
    exact fin _ (decide_eq_false fun h => by subst h; simp at h1)
  refine gq52 h1 ?_
  refine zpz ha.batchS hb.batchS ?_
  cases h2 : decide (a.batch = b.batch)
  · refine zay h2 ?_
    refine zV hl ?_
    exact fin _ (decide_eq_false fun h => by subst h; simp at h2)
  refine gq50 h2 ?_
  refine zoG (a := a.cert) (b := b.cert) ha.signs ?_
  cases h3 : decide (a.cert = b.cert)
  · refine zay h3 ?_
    refine zV hl ?_
    exact fin _ (decide_eq_false fun h => by subst h; simp at h3)
  refine gq50 h3 ?_
  refine c_eqChanges ha.changes (fun x hx => (ha.change x hx).2) (fun x hx => (hb.change x hx).2) ?_
  cases h4 : decide (a.changes = b.changes)
  · refine zay h4 ?_
    refine zV hl ?_
    exact fin _ (decide_eq_false fun h => by subst h; simp at h4)
  refine gq50 h4 ?_
  refine c_eqEntries ha.entries (fun x hx => (ha.entry x hx).2) (fun x hx => (hb.entry x hx).2) ?_
  cases h5 : decide (a.entries = b.entries)
  · refine zay h5 ?_
    refine zV hl ?_
    exact fin _ (decide_eq_false fun h => by subst h; simp at h5)
  refine gq50 h5 ?_
  refine zlz ?_
  cases h6 : (a.state == b.state)
  · refine zay h6 ?_
    refine zV hl ?_
    exact fin _ (decide_eq_false fun h => by subst h; simp at h6)
  refine gq50 h6 ?_
  refine c_mSameProof (a := a.proof) (b := b.proof) ha.proof ?_
  cases h7 : decide (a.proof = b.proof)
  · refine zay h7 ?_
    refine zV hl ?_
    exact fin _ (decide_eq_false fun h => by subst h; simp at h7)
  refine zay h7 ?_
  refine zV hl ?_
  exact fin _ (decide_eq_true (by cases a; cases b; simp_all))
end Go.Proofs.YtpgahkdjkanblaaGreat

/- Contracts: which messages may be, the program's: view-changes and new views. -/
set_option maxRecDepth 100000
set_option linter.unusedSimpArgs false
set_option linter.unusedVariables false
namespace Go.Proofs.YtpgahkdjkanblaaGreat
open Go.AW

theorem c_intIndex {σ : List zd} {l : List Int} {x : Int} (hl0 : l.length ≤ 1073741824) {K : KT} (hK : ∀ i : Int, (0 ≤ i ↔ x ∈ l) → K (.d (.int .i64 i)) σ) :
    zl Tryz.prog zfc [.d (.slice (zse l)), .d (.int .i64 x)] σ K := by
  refine ze zgP.is rfl fun hl _ => zgP.goes ?_
  simp only [zgZ, iN, bT, bF, eN]
  refine zaF ?_
  refine zy l.length (fun k vs s => vs = [.d (.int .i64 k)] ∧ (∃ T, s = σ ++ T) ∧ x ∉ l.take k) ⟨rfl, ⟨[], by simp⟩, by simp⟩ ?_
  rintro k vs s hk ⟨rfl, ⟨T, rfl⟩, htk⟩
  by_cases hlt : k < l.length
  · have hd : decide ((k : Int) < (l.length : Int)) = true := by simp; omega
    have hx : l[k]? = some l[k] := by simp [hlt]
    have hmem := List.getElem_mem hlt
    have hgx := zal (f := fun t => [D.int .i64 t]) hx
    obtain ⟨y, hye⟩ : ∃ y, l[k] = y := ⟨_, rfl⟩
    rw [hye] at hx hgx hmem
    cases h : (x == y)
    · refine zay (zq hd (zq hgx (zq h (wk1 k (by omega))))) ?_
      refine zbp.next hlt ⟨rfl, ⟨_, rfl⟩, ?_⟩
      rw [List.take_add_one, hx]
      simp at h
      simp [htk, h]
    · refine zay (zq hd (zq hgx h)) ?_
      refine zV hl ?_
      refine hK _ ?_
      simp at h
      simp [h, hmem]
  · have hd : decide ((k : Int) < (l.length : Int)) = false := by simp; omega
    refine zay hd ?_
    refine zV hl ?_
    refine hK _ ?_
    rw [List.take_of_length_le (by omega)] at htk
    simp [htk]
theorem zvb {σ : List zd} {l : List Int} {x : Int} (hl0 : l.length ≤ 1073741824) {K : KT} (hK : K (.d (.bool (decide (x ∈ l)))) σ) :
    zl Tryz.prog zdQ [.d (.slice (zse l)), .d (.int .i64 x)] σ K := by
  refine ze zfJ.is rfl fun hl _ => zfJ.goes ?_
  simp only [zfK, iN, bT, bF, eN]
  refine zaF ?_
  refine c_intIndex hl0 fun i hi => ?_
  have e : decide (i ≥ 0) = decide (x ∈ l) := by rw [decide_eq_decide, ge_iff_le, hi]
  refine zaF ?_
  rw [e]
  refine zV hl ?_
  exact hK
theorem zkS {σ : List zd} {k : Int} {K : KT} (hK : K (.d (.bool (ownK k))) σ) : zl Tryz.prog zdH [.d (.int .i64 k)] σ K := by
  refine ze zlW.is rfl fun hl _ => zlW.goes ?_
  simp only [zmm, iN, bT, bF, eN]
  refine zaF ?_
  refine zvb (l := [2, 3, 4, 5, 6, 8, 9]) (by simp) ?_
  have e : decide (k ∈ [2, 3, 4, 5, 6, 8, 9]) = ownK k := by
    unfold ownK
    rw [decide_eq_decide]
    simp
    omega
  rw [e]
  refine zaF ?_
  refine zV hl ?_
  exact hK
theorem zms.zero {σ S : List zd} {id : Nat} {B : zd} {P : List Int} (h : zms σ id B P S) : zms σ id B (P ++ [0]) S := by
  have e : zec (P ++ [0]) = zec P := by
    rw [zuM]
    by_cases h : zec P = 0
    · rw [if_neg (by simpa using h), h]; rfl
    · rw [if_pos h]
  obtain ⟨h1, h2, h3⟩ := h
  exact ⟨by rw [e]; exact h1, h2, by rw [e]; exact h3⟩
end Go.Proofs.YtpgahkdjkanblaaGreat
