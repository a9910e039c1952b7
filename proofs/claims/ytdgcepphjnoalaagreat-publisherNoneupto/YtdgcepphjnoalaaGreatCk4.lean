/- Contracts: what is asked, as a list of errors that grows. -/
import Derived.Test.YtdgcepphjnoalaaGreatCk1
import Derived.Test.YtdgcepphjnoalaaGreatRq1
import Derived.Test.YtdgcepphjnoalaaGreatSm2
set_option linter.all false
set_option maxRecDepth 100000
set_option linter.unusedSimpArgs false
set_option linter.unusedVariables false
namespace Go.Proofs.YtdgcepphjnoalaaGreat
open Go.AW

section

variable {σ : List zc} {id : Nat} {P : List Int} {K : AV → List zc → Prop}

theorem c_aSays {x : Int} (hσ : σ[id]? = some (zoO (zhA P))) (hK : K (.tup []) (σ.set id (zoO (zhA (P ++ [x]))))) : zl Tryz.prog zag [.box id 0, .d (.int .i64 x)] σ K := c_says hσ (by rw [zqx]; exact hK)
theorem c_aIn {n lo hi : Int} (hσ : σ[id]? = some (zoO (zhA P))) (hK : K (.tup []) (σ.set id (zoO (zhA (P ++ [inE n lo hi]))))) : zl Tryz.prog zas [.box id 0, .d (.int .i64 n), .d (.int .i64 lo), .d (.int .i64 hi)] σ K := c_askIn hσ (by rw [zqx]; exact hK)
theorem c_aNum {n : Int} (hσ : σ[id]? = some (zoO (zhA P))) (hK : K (.tup []) (σ.set id (zoO (zhA (P ++ [zod n]))))) : zl Tryz.prog zaE [.box id 0, .d (.int .i64 n)] σ K := c_askNum hσ (by rw [zqx]; exact hK)
end


structure zpa (σ : List zc) (id : Nat) (B : zc) (P : List Int) (S : List zc) : Prop where
  a : S[id]? = some (zoO (zhA P))
  b : S[σ.length]? = some B
  pre : ∃ τ, S = σ.set id (zoO (zhA P)) ++ τ
section

variable {σ S : List zc} {id : Nat} {B : zc} {P P' : List Int}

theorem zpa.first (hσ : σ[id]? = some (zoO (zhA P))) (B : zc) : zpa σ id B P (σ ++ [B]) := ⟨zy hσ, by rw [zu]; rfl, [B], by rw [zdP hσ]⟩
theorem zpa.set (h : zpa σ id B P S) (hid : id < σ.length) (P' : List Int) : zpa σ id B P' (S.set id (zoO (zhA P'))) := by
  obtain ⟨h1, h2, τ, h3⟩ := h
  refine ⟨List.getElem?_set_self (zbR h1), (List.getElem?_set_ne (by omega)).trans h2, τ, ?_⟩
  rw [h3, List.set_append_left _ _ (by simpa using hid), List.set_set]
theorem zpa.app (h : zpa σ id B P S) (τ : List zc) : zpa σ id B P (S ++ τ) := by
  obtain ⟨h1, h2, τ', h3⟩ := h
  exact ⟨zy h1, zy h2, τ' ++ τ, by rw [h3, List.append_assoc]⟩
theorem zpa.done (h : zpa σ id B P S) {K : AV → List zc → Prop} (hl : zfz σ.length σ) (hK : K (.tup []) (σ.set id (zoO (zhA P)))) : AW.Ends σ.length K (some []) S := by
  obtain ⟨_, _, τ, rfl⟩ := h
  exact zfp (by simp [zdg, dmT, zda]) hl (zlJ _ _) hK
theorem zpa.as (h : zpa σ id B P S) (e : P = P') : zpa σ id B P' S := e ▸ h
end

section

variable {σ : List zc} {id : Nat} {P : List Int} {K : AV → List zc → Prop}

theorem c_aBroker {n : Int} (hσ : σ[id]? = some (zoO (zhA P))) (hK : K (.tup []) (σ.set id (zoO (zhA (P ++ [brkE n]))))) : zl Tryz.prog zaw [.box id 0, .d (.int .i64 n)] σ K := by
  refine zjc zjb fun hl => ?_
  simp only [zfh, iN, bT, bF, eN]
  refine zaP ?_
  refine c_aIn hσ ?_
  exact zis (by simp [zdg, dmT, zda]) hl (zlJ _ _) hK
end
/-! the same, while something else is known of what lies there -/
section

variable {σ S : List zc} {id : Nat} {B : zc} {P : List Int} {K : AV → List zc → Prop} (j : zpa σ id B P S) (hid : id < σ.length)
include j hid
theorem j_says {x : Int} (hK : ∀ S, zpa σ id B (P ++ [x]) S → K (.tup []) S) : zl Tryz.prog zag [.box id 0, .d (.int .i64 x)] S K := c_aSays j.a (hK _ (j.set hid _))
theorem j_in {n lo hi : Int} (hK : ∀ S, zpa σ id B (P ++ [inE n lo hi]) S → K (.tup []) S) : zl Tryz.prog zas [.box id 0, .d (.int .i64 n), .d (.int .i64 lo), .d (.int .i64 hi)] S K := c_aIn j.a (hK _ (j.set hid _))
theorem j_num {n : Int} (hK : ∀ S, zpa σ id B (P ++ [zod n]) S → K (.tup []) S) : zl Tryz.prog zaE [.box id 0, .d (.int .i64 n)] S K := c_aNum j.a (hK _ (j.set hid _))
theorem j_broker {n : Int} (hK : ∀ S, zpa σ id B (P ++ [brkE n]) S → K (.tup []) S) : zl Tryz.prog zaw [.box id 0, .d (.int .i64 n)] S K := c_aBroker j.a (hK _ (j.set hid _))
end

abbrev changeL (c : zdx) : List AV := [.d (.int .i64 c.view), .d (.int .i64 c.src), .d (.int .i64 c.cert.seq), .d (.int .i64 c.cert.dig), .d (.slice (zbQ c.cert.signs)), .d (.slice (zgy c.above)), .d (.int .i64 c.key), .d (.int .i64 c.dig)]
structure okCh (c : zdx) : Prop where
  signs : c.cert.signs.length ≤ 1073741824
  above : c.above.length ≤ 1073741824
  each : ∀ p ∈ c.above, p.signs.length ≤ 1073741824 ∧ okB p.batch

theorem gq24 {A P Q : Prop} (a : A) (h : Q) (e : A → Hd Q → P := by intro a h; (repeat' first | simp -dsimp only [↓zgn, ↓zaG, ↓zca, ↓zgo, ↓zgh, ↓zgf, ↓zgi, ↓zgg, ↓zcf, ↓zcb, ↓zcg, ↓zcc, ↓zgj, ↓zbW, ↓zch, ↓zcd, ↓zci, ↓zce, ↓zge, ↓zgl, ↓zbV, ↓zck, ↓zgb, ↓zga, ↓zgd, iN, bT, bF, eN, ↓zds, ↓unC, ↓zX, ↓zJ, ↓zK, ↓zM, ↓zal, ↓zaV, ↓zdU, ↓zay, ↓zbD, ↓zR, ↓zi, ↓zg, ↓zbr, ↓zd, ↓zan, ↓zO, ↓zbf, ↓zbg, ↓zf, ↓zB, ↓zn, ↓zD, ↓zZ, ↓zeb, ↓zes, ↓zaq, ↓zaC, ↓zbe, ↓zbl, ↓zbG, ↓zp, ↓zao, ↓zL, ↓zr, ↓zaj, zen, zbP, zbL, unA, zdF, bnd, zeV, zaf, zac, zeF, dm, dm1, zQ, zaz, zfy, zfx, zI, Q0, Q1, Q2, Q3, Q4, Q5, zam, zw, zu, zN, zG, Q6, Q7, Q8, Q9, Q10, Q11, Q12, Q13, Q14, Nat.reduceAdd, Q15, Int.reduceToNat, Q16, Q17, Q18, Q19, Q20, reduceIte, Q21, Q22, zC, rep, zV, zfi, toD, zad, Q23, Q24, Q25, Q26, Q27, Q28, Nat.reduceLeDiff, Q29, Nat.reduceSub, Q30, Q31, Q32, sc, Q33, Q34, Q35, Q36, Q37, Q26, Q38, Q39, zmU, zmR, zmO, zmV, zfD, zmS, zmP, zmT, zmQ, zfC, zfE, zmY, zmZ, Bool.not_true, Bool.not_false, List.length_map, Bool.and_false, Bool.and_self, Bool.false_and, Bool.not_false, Bool.not_true, Bool.true_and, Int.toNat_natCast, Int.toNat_zero, List.drop_zero, List.length_map, List.length_nil, List.nil_append, List.take_length, Nat.sub_zero, Nat.zero_add, Option.isSome_none, Option.isSome_some, Option.map_none, Option.map_some, zaJ, beq_self_eq_true, bne_self_eq_false, a] | with_reducible refine zni ?_ | fail); exact h.go) : P := e a ⟨h⟩
theorem c_mSameProof {σ : List zc} {a b : zhR} (ha : zqB a) {K : AV → List zc → Prop} (hK : K (.d (.bool (decide (a = b)))) σ) : zl Tryz.prog zew [proofA a, proofA b] σ K := by
  refine zjc zkK fun hl => ?_
  have fin : ∀ z, decide (a = b) = z → K (.d (.bool z)) σ := fun z h => h ▸ hK
  clear hK
  simp only [zgN, iN, bT, bF, eN]
  cases h1 : (a.topic == b.topic)
  · refine zbi h1 ?_
    refine zap hl ?_
    exact fin _ (decide_eq_false fun h => by subst h; simp at h1)
  cases h2 : (a.offset == b.offset)
  · refine zbi (zj h1 h2) ?_
    refine zap hl ?_
    exact fin _ (decide_eq_false fun h => by subst h; simp at h2)
  refine gq24 (zj h1 h2) ?_
  refine ziz ?_
  cases h3 : (a.rec_ == b.rec_)
  · refine zbi h3 ?_
    refine zap hl ?_
    exact fin _ (decide_eq_false fun h => by subst h; simp at h3)
  refine gq24 h3 ?_
  refine c_eqHdr ha.headers ?_
  cases h4 : decide (a.headers = b.headers)
  · refine zbi h4 ?_
    refine zap hl ?_
    exact fin _ (decide_eq_false fun h => by subst h; simp at h4)
  cases h5 : (a.index == b.index)
  · refine zbi (zj h4 h5) ?_
    refine zap hl ?_
    exact fin _ (decide_eq_false fun h => by subst h; simp at h5)
  cases h6 : (a.count == b.count)
  · refine zbi (zj h4 (zj h5 h6)) ?_
    refine zap hl ?_
    exact fin _ (decide_eq_false fun h => by subst h; simp at h6)
  refine gq24 (zj h4 (zj h5 h6)) ?_
  refine c_eqDig ha.path ?_
  cases h7 : decide (a.path = b.path)
  · refine zbi h7 ?_
    refine zap hl ?_
    exact fin _ (decide_eq_false fun h => by subst h; simp at h7)
  refine gq24 h7 ?_
  refine zkS (a := a.cert) (b := b.cert) ha.signs ?_
  cases h8 : decide (a.cert = b.cert)
  · refine zbi h8 ?_
    refine zap hl ?_
    exact fin _ (decide_eq_false fun h => by subst h; simp at h8)
  refine zbi h8 ?_
  refine zap hl ?_
  exact fin _ (decide_eq_true (by cases a; cases b; simp_all))
abbrev fltMA (a : zfc) : AV := .agg [.d (.int .i64 a.kind), .d (.int .i64 a.src), .d (.int .i64 a.client), .d (.int .i64 a.view), .d (.int .i64 a.seq), .d (.int .i64 a.time), .d (.int .i64 a.offset), .d (.int .i64 a.dig), .d (.int .i64 a.rerr), .d (.int .i64 a.roff), .d (.str a.topic), .d (.int .i64 a.key), .d (.int .i64 a.sdig)]
theorem c_flatOf {σ : List zc} {a : zfc} {K : AV → List zc → Prop} (hK : K (fltMA a) σ) : zl Tryz.prog zer [znr a] σ K := by
  refine zfT znx fun hl => ?_
  simp only [ziQ, iN, bT, bF, eN, zl6]
  refine zaP ?_
  refine zap hl ?_
  exact hK
structure zdy (m : zfc) : Prop where
  batch : okB m.batch
  batchS : ziF m.batch
  signs : m.cert.signs.length ≤ 1073741824
  changes : m.changes.length ≤ 1073741824
  change : ∀ c ∈ m.changes, okCh c ∧ zif c
  entries : m.entries.length ≤ 1073741824
  entry : ∀ x ∈ m.entries, okB x.batch ∧ znV x
  proof : zqB m.proof
  topic : m.topic.length ≤ 16777216
  state : m.state.length ≤ 1073741824
theorem c_mSame {σ : List zc} {a b : zfc} (ha : zdy a) (hb : zdy b) {K : AV → List zc → Prop} (hK : K (.d (.bool (decide (a = b)))) σ) : zl Tryz.prog zhu [znr a, znr b] σ K := by
  refine zjc zpv fun hl => ?_
  have fin : ∀ z, decide (a = b) = z → K (.d (.bool z)) σ := fun z h => h ▸ hK
  clear hK
  simp only [zku, iN, bT, bF, eN]
  refine zaP ?_
  refine c_flatOf (a := a) ?_
  refine zaP ?_
  refine c_flatOf (a := b) ?_
  cases h1 : ((a.kind == b.kind && (a.src == b.src && (a.client == b.client && (a.view == b.view && (a.seq == b.seq && (a.time == b.time && (a.offset == b.offset && (a.dig == b.dig && (a.rerr == b.rerr && (a.roff == b.roff && (a.topic == b.topic && (a.key == b.key && a.sdig == b.sdig)))))))))))))
  · refine zpb h1 ?_
    refine zap hl ?_
    exact fin _ (decide_eq_false fun h => by subst h; simp at h1)
  refine zpb h1 ?_
  refine zoK ha.batchS hb.batchS ?_
  cases h2 : decide (a.batch = b.batch)
  · refine zbi h2 ?_
    refine zap hl ?_
    exact fin _ (decide_eq_false fun h => by subst h; simp at h2)
  refine gq24 h2 ?_
  refine zkS (a := a.cert) (b := b.cert) ha.signs ?_
  cases h3 : decide (a.cert = b.cert)
  · refine zbi h3 ?_
    refine zap hl ?_
    exact fin _ (decide_eq_false fun h => by subst h; simp at h3)
  refine gq24 h3 ?_
  refine c_eqChanges ha.changes (fun x hx => (ha.change x hx).2) (fun x hx => (hb.change x hx).2) ?_
  cases h4 : decide (a.changes = b.changes)
  · refine zbi h4 ?_
    refine zap hl ?_
    exact fin _ (decide_eq_false fun h => by subst h; simp at h4)
  refine gq24 h4 ?_
  refine c_eqEntries ha.entries (fun x hx => (ha.entry x hx).2) (fun x hx => (hb.entry x hx).2) ?_
  cases h5 : decide (a.entries = b.entries)
  · refine zbi h5 ?_
    refine zap hl ?_
    exact fin _ (decide_eq_false fun h => by subst h; simp at h5)
  refine gq24 h5 ?_
  refine ziz ?_
  cases h6 : (a.state == b.state)
  · refine zbi h6 ?_
    refine zap hl ?_
    exact fin _ (decide_eq_false fun h => by subst h; simp at h6)
  refine gq24 h6 ?_
  refine c_mSameProof (a := a.proof) (b := b.proof) ha.proof ?_
  cases h7 : decide (a.proof = b.proof)
  · refine zbi h7 ?_
    refine zap hl ?_
    exact fin _ (decide_eq_false fun h => by subst h; simp at h7)
  refine zbi h7 ?_
  refine zap hl ?_
  exact fin _ (decide_eq_true (by cases a; cases b; simp_all))
end Go.Proofs.YtdgcepphjnoalaaGreat
