/- Contracts: parts of messages that are the same, the program's. -/
import Derived.Test.YtdgcepphjnoalaaGreatMu0
import Derived.Test.YtdgcepphjnoalaaGreatCk1
set_option linter.all false
set_option maxRecDepth 100000
set_option linter.unusedSimpArgs false
set_option linter.unusedVariables false
namespace Go.Proofs.YtdgcepphjnoalaaGreat
open Go.AW

theorem gq23 {A P Q : Prop} (a : A) (h : Q) (e : A → Hd Q → P := by intro a h; (repeat' first | simp -dsimp only [↓zgn, ↓zaG, ↓zca, ↓zgo, ↓zgh, ↓zgf, ↓zgi, ↓zgg, ↓zcf, ↓zcb, ↓zcg, ↓zcc, ↓zgj, ↓zbW, ↓zch, ↓zcd, ↓zci, ↓zce, ↓zge, ↓zgl, ↓zbV, ↓zck, ↓zgb, ↓zga, ↓zgd, iN, bT, bF, eN, ↓zds, ↓unC, ↓zX, ↓zJ, ↓zK, ↓zM, ↓zal, ↓zaV, ↓zdU, ↓zay, ↓zbD, ↓zR, ↓zi, ↓zg, ↓zbr, ↓zd, ↓zan, ↓zO, ↓zbf, ↓zbg, ↓zf, ↓zB, ↓zn, ↓zD, ↓zZ, ↓zeb, ↓zes, ↓zaq, ↓zaC, ↓zbe, ↓zbl, ↓zbG, ↓zp, ↓zao, ↓zL, ↓zr, ↓zaj, zen, zbP, zbL, unA, zdF, bnd, zeV, zaf, zac, zeF, dm, dm1, zQ, zaz, zfy, zfx, zI, Q0, Q1, Q2, Q3, Q4, Q5, zam, zw, zu, zN, zG, Q6, Q7, Q8, Q9, Q10, Q11, Q12, Q13, Q14, Nat.reduceAdd, Q15, Int.reduceToNat, Q16, Q17, Q18, Q19, Q20, reduceIte, Q21, Q22, zC, rep, zV, zfi, toD, zad, Q23, Q24, Q25, Q26, Q27, Q28, Nat.reduceLeDiff, Q29, Nat.reduceSub, Q30, Q31, Q32, sc, Q33, Q34, Q35, Q36, Q37, Q26, Q38, Q39, zmU, zmR, zmO, zmV, zfD, zmS, zmP, zmT, zmQ, zfC, zfE, zmY, zmZ, Bool.not_true, Bool.not_false, List.length_map, Bool.and_false, Bool.and_self, Bool.false_and, Bool.not_false, Bool.not_true, Bool.true_and, Int.toNat_natCast, Int.toNat_zero, List.drop_zero, List.length_map, List.length_nil, List.nil_append, List.take_length, Nat.sub_zero, Nat.zero_add, Option.isSome_none, Option.isSome_some, Option.map_none, Option.map_some, zaJ, beq_self_eq_true, bne, bne_self_eq_false, zbK, certA, zcD, zei, hdrD, zbM, numOf, opA, zhG, ziU, zfO, zaH, a] | with_reducible refine zni ?_ | fail); exact h.go) : P := e a ⟨h⟩
theorem c_eqSign {σ : List zc} {a b : List zS} (ha1 : a.length ≤ 1073741824) {K : AV → List zc → Prop} (hK : K (.d (.bool (decide (a = b)))) σ) :
    zl Tryz.prog zaK [.d (.slice (zbQ a)), .d (.slice (zbQ b))] σ K := by
  refine zjc zeX fun hl => ?_
  have fin : ∀ z, decide (a = b) = z → K (.d (.bool z)) σ := fun z h => h ▸ hK
  clear hK
  simp only [zcS, iN, bT, bF, eN]
  cases hl0 : ((a.length : Int) != (b.length : Int))
  rotate_left
  · refine zbi hl0 ?_
    refine zap hl ?_
    refine fin _ (decide_eq_false fun h => ?_)
    rw [h] at hl0; simp at hl0
  have hl2 : a.length = b.length := by simp at hl0; omega
  refine zbi hl0 ?_
  refine zae a.length (fun k vs s => vs = [.d (.int .i64 k)] ∧ (∃ T, s = σ ++ T) ∧ a.take k = b.take k) ⟨rfl, ⟨[], by simp⟩, by simp⟩ ?_
  rintro k vs s hk ⟨rfl, ⟨T, rfl⟩, htk⟩
  by_cases hlt : k < a.length
  · have hd : decide ((k : Int) < (a.length : Int)) = true := by simp; omega
    have hx : a[k]? = some a[k] := by simp [hlt]
    have hy : b[k]? = some (b[k]'(by omega)) := List.getElem?_eq_getElem _
    have hgx := zbZ (f := ziU) hx
    have hgy := zbZ (f := ziU) hy
    obtain ⟨x, hxe⟩ : ∃ x, a[k] = x := ⟨_, rfl⟩
    obtain ⟨y, hye⟩ : ∃ y, (b[k]'(by omega)) = y := ⟨_, rfl⟩
    rw [hxe] at hx hgx
    rw [hye] at hy hgy
    obtain ⟨S, hS⟩ : ∃ S, σ ++ T = S := ⟨_, rfl⟩
    rw [hS]
    have hxy : x = y ↔ ((x.key == y.key && x.dig == y.dig)) = true := by cases x; cases y; simp
    cases h2 : ((x.key == y.key && x.dig == y.dig))
    · refine gq23 (zj hd (zj hgx (zj hgy h2))) ?_
      rw [← hS]
      refine zap hl ?_
      refine fin _ (decide_eq_false fun h => ?_)
      subst h
      rw [hx] at hy
      rw [hxy.1 (Option.some.inj hy)] at h2; cases h2
    · refine gq23 (zj hd (zj hgx (zj hgy (zj h2 (wk1 k (by omega)))))) ?_
      exact zdE.next hlt ⟨rfl, ⟨_, hS.symm⟩, zdc hx hy htk (hxy.2 h2)⟩
  · have hd : decide ((k : Int) < (a.length : Int)) = false := by simp; omega
    refine zbi hd ?_
    refine zap hl ?_
    exact fin _ (decide_eq_true (zeB hl2 (k := k) (by omega) htk))
theorem c_eqHdr {σ : List zc} {a b : List zpc} (ha1 : a.length ≤ 1073741824) {K : AV → List zc → Prop} (hK : K (.d (.bool (decide (a = b)))) σ) :
    zl Tryz.prog zaY [.d (.slice (zqR a)), .d (.slice (zqR b))] σ K := by
  refine zjc zej fun hl => ?_
  have fin : ∀ z, decide (a = b) = z → K (.d (.bool z)) σ := fun z h => h ▸ hK
  clear hK
  simp only [zcl, iN, bT, bF, eN]
  cases hl0 : ((a.length : Int) != (b.length : Int))
  rotate_left
  · refine zbi hl0 ?_
    refine zap hl ?_
    refine fin _ (decide_eq_false fun h => ?_)
    rw [h] at hl0; simp at hl0
  have hl2 : a.length = b.length := by simp at hl0; omega
  refine zbi hl0 ?_
  refine zae a.length (fun k vs s => vs = [.d (.int .i64 k)] ∧ (∃ T, s = σ ++ T) ∧ a.take k = b.take k) ⟨rfl, ⟨[], by simp⟩, by simp⟩ ?_
  rintro k vs s hk ⟨rfl, ⟨T, rfl⟩, htk⟩
  by_cases hlt : k < a.length
  · have hd : decide ((k : Int) < (a.length : Int)) = true := by simp; omega
    have hx : a[k]? = some a[k] := by simp [hlt]
    have hy : b[k]? = some (b[k]'(by omega)) := List.getElem?_eq_getElem _
    have hgx := zbZ (f := hdrD) hx
    have hgy := zbZ (f := hdrD) hy
    obtain ⟨x, hxe⟩ : ∃ x, a[k] = x := ⟨_, rfl⟩
    obtain ⟨y, hye⟩ : ∃ y, (b[k]'(by omega)) = y := ⟨_, rfl⟩
    rw [hxe] at hx hgx
    rw [hye] at hy hgy
    obtain ⟨S, hS⟩ : ∃ S, σ ++ T = S := ⟨_, rfl⟩
    rw [hS]
    have hxy : x = y ↔ ((x.seq == y.seq && (x.prev == y.prev && (x.batch == y.batch && (x.root == y.root && x.state == y.state))))) = true := by cases x; cases y; simp
    cases h2 : ((x.seq == y.seq && (x.prev == y.prev && (x.batch == y.batch && (x.root == y.root && x.state == y.state)))))
    · refine gq23 (zj hd (zj hgx (zj hgy h2))) ?_
      rw [← hS]
      refine zap hl ?_
      refine fin _ (decide_eq_false fun h => ?_)
      subst h
      rw [hx] at hy
      rw [hxy.1 (Option.some.inj hy)] at h2; cases h2
    · refine gq23 (zj hd (zj hgx (zj hgy (zj h2 (wk1 k (by omega)))))) ?_
      exact zdE.next hlt ⟨rfl, ⟨_, hS.symm⟩, zdc hx hy htk (hxy.2 h2)⟩
  · have hd : decide ((k : Int) < (a.length : Int)) = false := by simp; omega
    refine zbi hd ?_
    refine zap hl ?_
    exact fin _ (decide_eq_true (zeB hl2 (k := k) (by omega) htk))
theorem c_eqDig {σ : List zc} {a b : List Int} (ha1 : a.length ≤ 1073741824) {K : AV → List zc → Prop} (hK : K (.d (.bool (decide (a = b)))) σ) :
    zl Tryz.prog zaZ [.d (.slice (zlt a)), .d (.slice (zlt b))] σ K := by
  refine zjc zek fun hl => ?_
  have fin : ∀ z, decide (a = b) = z → K (.d (.bool z)) σ := fun z h => h ▸ hK
  clear hK
  simp only [zcm, iN, bT, bF, eN]
  cases hl0 : ((a.length : Int) != (b.length : Int))
  rotate_left
  · refine zbi hl0 ?_
    refine zap hl ?_
    refine fin _ (decide_eq_false fun h => ?_)
    rw [h] at hl0; simp at hl0
  have hl2 : a.length = b.length := by simp at hl0; omega
  refine zbi hl0 ?_
  refine zae a.length (fun k vs s => vs = [.d (.int .i64 k)] ∧ (∃ T, s = σ ++ T) ∧ a.take k = b.take k) ⟨rfl, ⟨[], by simp⟩, by simp⟩ ?_
  rintro k vs s hk ⟨rfl, ⟨T, rfl⟩, htk⟩
  by_cases hlt : k < a.length
  · have hd : decide ((k : Int) < (a.length : Int)) = true := by simp; omega
    have hx : a[k]? = some a[k] := by simp [hlt]
    have hy : b[k]? = some (b[k]'(by omega)) := List.getElem?_eq_getElem _
    have hgx := zbZ (f := fun t => [D.int .i64 t]) hx
    have hgy := zbZ (f := fun t => [D.int .i64 t]) hy
    obtain ⟨x, hxe⟩ : ∃ x, a[k] = x := ⟨_, rfl⟩
    obtain ⟨y, hye⟩ : ∃ y, (b[k]'(by omega)) = y := ⟨_, rfl⟩
    rw [hxe] at hx hgx
    rw [hye] at hy hgy
    obtain ⟨S, hS⟩ : ∃ S, σ ++ T = S := ⟨_, rfl⟩
    rw [hS]
    have hxy : x = y ↔ (x == y) = true := by simp
    cases h2 : (x == y)
    · refine gq23 (zj hd (zj hgx (zj hgy h2))) ?_
      rw [← hS]
      refine zap hl ?_
      refine fin _ (decide_eq_false fun h => ?_)
      subst h
      rw [hx] at hy
      rw [hxy.1 (Option.some.inj hy)] at h2; cases h2
    · refine gq23 (zj hd (zj hgx (zj hgy (zj h2 (wk1 k (by omega)))))) ?_
      exact zdE.next hlt ⟨rfl, ⟨_, hS.symm⟩, zdc hx hy htk (hxy.2 h2)⟩
  · have hd : decide ((k : Int) < (a.length : Int)) = false := by simp; omega
    refine zbi hd ?_
    refine zap hl ?_
    exact fin _ (decide_eq_true (zeB hl2 (k := k) (by omega) htk))
structure znT (p : zjy) : Prop where
  signs : p.signs.length ≤ 1073741824
  batch : ziF p.batch
structure zif (c : zdx) : Prop where
  signs : c.cert.signs.length ≤ 1073741824
  above : c.above.length ≤ 1073741824
  each : ∀ p ∈ c.above, znT p
def znV (x : zhh) : Prop := ziF x.batch
abbrev entryA (x : zhh) : AV := .agg [.d (.int .i64 x.view), .d (.int .i64 x.seq), .d (.slice (zcR x.batch)), .d (.int .i64 x.key), .d (.int .i64 x.dig)]
theorem zkS {σ : List zc} {a b : zlL} (ha : a.signs.length ≤ 1073741824) {K : AV → List zc → Prop} (hK : K (.d (.bool (decide (a = b)))) σ) : zl Tryz.prog zcK [certA a, certA b] σ K := by
  refine zjc zlx fun hl => ?_
  have fin : ∀ z, decide (a = b) = z → K (.d (.bool z)) σ := fun z h => h ▸ hK
  clear hK
  simp only [zhj, iN, bT, bF, eN]
  cases h1 : (a.seq == b.seq)
  · refine zbi h1 ?_
    refine zap hl ?_
    exact fin _ (decide_eq_false fun h => by subst h; simp at h1)
  cases h2 : (a.dig == b.dig)
  · refine zbi (zj h1 h2) ?_
    refine zap hl ?_
    exact fin _ (decide_eq_false fun h => by subst h; simp at h2)
  refine zbi (zj h1 h2) ?_
  refine c_eqSign ha ?_
  cases h3 : decide (a.signs = b.signs)
  · refine zaP ?_
    refine zap hl ?_
    exact fin _ (decide_eq_false fun h => by subst h; simp at h3)
  · refine zaP ?_
    refine zap hl ?_
    exact fin _ (decide_eq_true (by cases a; cases b; simp_all))
theorem c_mSamePrep {σ : List zc} {a b : zjy} (ha : znT a) (hb : znT b) {K : AV → List zc → Prop} (hK : K (.d (.bool (decide (a = b)))) σ) :
    zl Tryz.prog zcA [.agg [.d (.int .i64 a.view), .d (.int .i64 a.seq), .d (.int .i64 a.dig), .d (.int .i64 a.fkey), .d (.int .i64 a.fdig), .d (.slice (zbQ a.signs)), .d (.slice (zcR a.batch))], .agg [.d (.int .i64 b.view), .d (.int .i64 b.seq), .d (.int .i64 b.dig), .d (.int .i64 b.fkey), .d (.int .i64 b.fdig), .d (.slice (zbQ b.signs)), .d (.slice (zcR b.batch))]] σ K := by
  refine zjc zja fun hl => ?_
  have fin : ∀ z, decide (a = b) = z → K (.d (.bool z)) σ := fun z h => h ▸ hK
  clear hK
  simp only [zfg, iN, bT, bF, eN]
  cases h1 : (a.view == b.view)
  · refine zbi h1 ?_
    refine zap hl ?_
    exact fin _ (decide_eq_false fun h => by subst h; simp at h1)
  cases h2 : (a.seq == b.seq)
  · refine zbi (zj h1 h2) ?_
    refine zap hl ?_
    exact fin _ (decide_eq_false fun h => by subst h; simp at h2)
  cases h3 : (a.dig == b.dig)
  · refine zbi (zj h1 (zj h2 h3)) ?_
    refine zap hl ?_
    exact fin _ (decide_eq_false fun h => by subst h; simp at h3)
  cases h4 : (a.fkey == b.fkey && a.fdig == b.fdig)
  · refine zpb (zj h1 (zj h2 (zj h3 h4))) ?_
    refine zap hl ?_
    exact fin _ (decide_eq_false fun h => by subst h; simp at h4)
  refine zpb (zj h1 (zj h2 (zj h3 h4))) ?_
  refine c_eqSign ha.signs ?_
  cases h5 : decide (a.signs = b.signs)
  · refine zaP ?_
    refine zap hl ?_
    exact fin _ (decide_eq_false fun h => by subst h; simp at h5)
  refine zaP ?_
  refine zoK ha.batch hb.batch ?_
  cases h6 : decide (a.batch = b.batch)
  · refine zaP ?_
    refine zap hl ?_
    exact fin _ (decide_eq_false fun h => by subst h; simp at h6)
  · refine zaP ?_
    refine zap hl ?_
    exact fin _ (decide_eq_true (by cases a; cases b; simp_all))


theorem c_eqPreps {σ : List zc} {a b : List zjy} (ha1 : a.length ≤ 1073741824) (ha2 : ∀ x ∈ a, znT x) (hb2 : ∀ x ∈ b, znT x) {K : AV → List zc → Prop} (hK : K (.d (.bool (decide (a = b)))) σ) :
    zl Tryz.prog zH [.d (.slice (zgy a)), .d (.slice (zgy b)), .fn (.func zcA) [] []] σ K := by
  refine acE3 zaX fun hl => ?_
  have fin : ∀ z, decide (a = b) = z → K (.d (.bool z)) σ := fun z h => h ▸ hK
  clear hK
  simp only [zak, iN, bT, bF, eN, zl7]
  cases hl0 : ((a.length : Int) != (b.length : Int))
  rotate_left
  · refine zbi hl0 ?_
    refine zap hl ?_
    refine fin _ (decide_eq_false fun h => ?_)
    rw [h] at hl0; simp at hl0
  have hl2 : a.length = b.length := by simp at hl0; omega
  refine zbi hl0 ?_
  refine zae a.length (fun k vs s => vs = [.d (.int .i64 k)] ∧ (∃ T, s = σ ++ T) ∧ a.take k = b.take k) ⟨rfl, ⟨[], by simp⟩, by simp⟩ ?_
  rintro k vs s hk ⟨rfl, ⟨T, rfl⟩, htk⟩
  by_cases hlt : k < a.length
  · have hd : decide ((k : Int) < (a.length : Int)) = true := by simp; omega
    have hx : a[k]? = some a[k] := by simp [hlt]
    have hy : b[k]? = some (b[k]'(by omega)) := List.getElem?_eq_getElem _
    have hgx := zbZ (f := zhG) hx
    have hgy := zbZ (f := zhG) hy
    have hxs := ha2 _ (List.getElem_mem hlt)
    have hys := hb2 _ (List.getElem_mem (show k < b.length by omega))
    obtain ⟨x, hxe⟩ : ∃ x, a[k] = x := ⟨_, rfl⟩
    obtain ⟨y, hye⟩ : ∃ y, (b[k]'(by omega)) = y := ⟨_, rfl⟩
    rw [hxe] at hx hgx hxs
    rw [hye] at hy hgy hys
    obtain ⟨S, hS⟩ : ∃ S, σ ++ T = S := ⟨_, rfl⟩
    rw [hS]
    refine zpb (zj hd (zj hgx hgy)) ?_
    refine c_mSamePrep (a := x) (b := y) hxs hys ?_
    cases he : decide (x = y)
    · refine zbi hd ?_
      rw [← hS, List.append_assoc]
      refine zap hl ?_
      refine fin _ (decide_eq_false fun h => ?_)
      subst h
      rw [hx] at hy
      have := Option.some.inj hy
      simp [this] at he
    · refine zbi (wk1 k (by omega)) ?_
      exact zdE.next hlt ⟨rfl, ⟨_, by rw [← hS, List.append_assoc]⟩, zdc hx hy htk (by simpa using he)⟩
  · have hd : decide ((k : Int) < (a.length : Int)) = false := by simp; omega
    refine zbi hd ?_
    refine zap hl ?_
    exact fin _ (decide_eq_true (zeB hl2 (k := k) (by omega) htk))
theorem zri {σ : List zc} {a b : zdx} (ha : zif a) (hb : zif b) {K : AV → List zc → Prop} (hK : K (.d (.bool (decide (a = b)))) σ) :
    zl Tryz.prog zcU [.agg [.d (.int .i64 a.view), .d (.int .i64 a.src), .d (.int .i64 a.cert.seq), .d (.int .i64 a.cert.dig), .d (.slice (zbQ a.cert.signs)), .d (.slice (zgy a.above)), .d (.int .i64 a.key), .d (.int .i64 a.dig)], .agg [.d (.int .i64 b.view), .d (.int .i64 b.src), .d (.int .i64 b.cert.seq), .d (.int .i64 b.cert.dig), .d (.slice (zbQ b.cert.signs)), .d (.slice (zgy b.above)), .d (.int .i64 b.key), .d (.int .i64 b.dig)]] σ K := by
  refine zjc zjY fun hl => ?_
  have fin : ∀ z, decide (a = b) = z → K (.d (.bool z)) σ := fun z h => h ▸ hK
  clear hK
  simp only [zfY, iN, bT, bF, eN]
  cases h1 : (a.view == b.view)
  · refine zbi h1 ?_
    refine zap hl ?_
    exact fin _ (decide_eq_false fun h => by subst h; simp at h1)
  cases h2 : (a.src == b.src)
  · refine zbi (zj h1 h2) ?_
    refine zap hl ?_
    exact fin _ (decide_eq_false fun h => by subst h; simp at h2)
  refine zbi (zj h1 h2) ?_
  refine zkS (a := a.cert) (b := b.cert) ha.signs ?_
  cases h3 : decide (a.cert = b.cert)
  · refine zaP ?_
    refine zap hl ?_
    exact fin _ (decide_eq_false fun h => by subst h; simp at h3)
  refine zaP ?_
  refine c_eqPreps ha.above ha.each hb.each ?_
  cases h4 : decide (a.above = b.above)
  · refine zaP ?_
    refine zap hl ?_
    exact fin _ (decide_eq_false fun h => by subst h; simp at h4)
  cases h5 : (a.key == b.key && a.dig == b.dig)
  · refine zpb h5 ?_
    refine zap hl ?_
    exact fin _ (decide_eq_false fun h => by subst h; simp at h5)
  · refine zpb h5 ?_
    refine zap hl ?_
    exact fin _ (decide_eq_true (by cases a; cases b; simp_all))


theorem c_eqChanges {σ : List zc} {a b : List zdx} (ha1 : a.length ≤ 1073741824) (ha2 : ∀ x ∈ a, zif x) (hb2 : ∀ x ∈ b, zif x) {K : AV → List zc → Prop} (hK : K (.d (.bool (decide (a = b)))) σ) :
    zl Tryz.prog zU [.d (.slice (zeu a)), .d (.slice (zeu b)), .fn (.func zcU) [] []] σ K := by
  refine acE3 zbt fun hl => ?_
  have fin : ∀ z, decide (a = b) = z → K (.d (.bool z)) σ := fun z h => h ▸ hK
  clear hK
  simp only [zau, iN, bT, bF, eN, zl5]
  cases hl0 : ((a.length : Int) != (b.length : Int))
  rotate_left
  · refine zbi hl0 ?_
    refine zap hl ?_
    refine fin _ (decide_eq_false fun h => ?_)
    rw [h] at hl0; simp at hl0
  have hl2 : a.length = b.length := by simp at hl0; omega
  refine zbi hl0 ?_
  refine zae a.length (fun k vs s => vs = [.d (.int .i64 k)] ∧ (∃ T, s = σ ++ T) ∧ a.take k = b.take k) ⟨rfl, ⟨[], by simp⟩, by simp⟩ ?_
  rintro k vs s hk ⟨rfl, ⟨T, rfl⟩, htk⟩
  by_cases hlt : k < a.length
  · have hd : decide ((k : Int) < (a.length : Int)) = true := by simp; omega
    have hx : a[k]? = some a[k] := by simp [hlt]
    have hy : b[k]? = some (b[k]'(by omega)) := List.getElem?_eq_getElem _
    have hgx := zbZ (f := zcD) hx
    have hgy := zbZ (f := zcD) hy
    have hxs := ha2 _ (List.getElem_mem hlt)
    have hys := hb2 _ (List.getElem_mem (show k < b.length by omega))
    obtain ⟨x, hxe⟩ : ∃ x, a[k] = x := ⟨_, rfl⟩
    obtain ⟨y, hye⟩ : ∃ y, (b[k]'(by omega)) = y := ⟨_, rfl⟩
    rw [hxe] at hx hgx hxs
    rw [hye] at hy hgy hys
    obtain ⟨S, hS⟩ : ∃ S, σ ++ T = S := ⟨_, rfl⟩
    rw [hS]
    refine zpb (zj hd (zj hgx hgy)) ?_
    refine zri (a := x) (b := y) hxs hys ?_
    cases he : decide (x = y)
    · refine zbi hd ?_
      rw [← hS, List.append_assoc]
      refine zap hl ?_
      refine fin _ (decide_eq_false fun h => ?_)
      subst h
      rw [hx] at hy
      have := Option.some.inj hy
      simp [this] at he
    · refine zbi (wk1 k (by omega)) ?_
      exact zdE.next hlt ⟨rfl, ⟨_, by rw [← hS, List.append_assoc]⟩, zdc hx hy htk (by simpa using he)⟩
  · have hd : decide ((k : Int) < (a.length : Int)) = false := by simp; omega
    refine zbi hd ?_
    refine zap hl ?_
    exact fin _ (decide_eq_true (zeB hl2 (k := k) (by omega) htk))
theorem c_mSameEntry {σ : List zc} {a b : zhh} (ha : znV a) (hb : znV b) {K : AV → List zc → Prop} (hK : K (.d (.bool (decide (a = b)))) σ) :
    zl Tryz.prog zdj [entryA a, entryA b] σ K := by
  refine zjc zkL fun hl => ?_
  have fin : ∀ z, decide (a = b) = z → K (.d (.bool z)) σ := fun z h => h ▸ hK
  clear hK
  simp only [zgO, iN, bT, bF, eN]
  cases h1 : (a.view == b.view)
  · refine zbi h1 ?_
    refine zap hl ?_
    exact fin _ (decide_eq_false fun h => by subst h; simp at h1)
  cases h2 : (a.seq == b.seq)
  · refine zbi (zj h1 h2) ?_
    refine zap hl ?_
    exact fin _ (decide_eq_false fun h => by subst h; simp at h2)
  refine zbi (zj h1 h2) ?_
  refine zoK ha hb ?_
  cases h3 : decide (a.batch = b.batch)
  · refine zaP ?_
    refine zap hl ?_
    exact fin _ (decide_eq_false fun h => by subst h; simp at h3)
  cases h5 : (a.key == b.key && a.dig == b.dig)
  · refine zpb h5 ?_
    refine zap hl ?_
    exact fin _ (decide_eq_false fun h => by subst h; simp at h5)
  · refine zpb h5 ?_
    refine zap hl ?_
    exact fin _ (decide_eq_true (by cases a; cases b; simp_all))


theorem c_eqEntries {σ : List zc} {a b : List zhh} (ha1 : a.length ≤ 1073741824) (ha2 : ∀ x ∈ a, znV x) (hb2 : ∀ x ∈ b, znV x) {K : AV → List zc → Prop} (hK : K (.d (.bool (decide (a = b)))) σ) :
    zl Tryz.prog zaa [.d (.slice (zet a)), .d (.slice (zet b)), .fn (.func zdj) [] []] σ K := by
  refine acE3 zbH fun hl => ?_
  have fin : ∀ z, decide (a = b) = z → K (.d (.bool z)) σ := fun z h => h ▸ hK
  clear hK
  simp only [zaB, iN, bT, bF, eN]
  cases hl0 : ((a.length : Int) != (b.length : Int))
  rotate_left
  · refine zbi hl0 ?_
    refine zap hl ?_
    refine fin _ (decide_eq_false fun h => ?_)
    rw [h] at hl0; simp at hl0
  have hl2 : a.length = b.length := by simp at hl0; omega
  refine zbi hl0 ?_
  refine zae a.length (fun k vs s => vs = [.d (.int .i64 k)] ∧ (∃ T, s = σ ++ T) ∧ a.take k = b.take k) ⟨rfl, ⟨[], by simp⟩, by simp⟩ ?_
  rintro k vs s hk ⟨rfl, ⟨T, rfl⟩, htk⟩
  by_cases hlt : k < a.length
  · have hd : decide ((k : Int) < (a.length : Int)) = true := by simp; omega
    have hx : a[k]? = some a[k] := by simp [hlt]
    have hy : b[k]? = some (b[k]'(by omega)) := List.getElem?_eq_getElem _
    have hgx := zbZ (f := zei) hx
    have hgy := zbZ (f := zei) hy
    have hxs := ha2 _ (List.getElem_mem hlt)
    have hys := hb2 _ (List.getElem_mem (show k < b.length by omega))
    obtain ⟨x, hxe⟩ : ∃ x, a[k] = x := ⟨_, rfl⟩
    obtain ⟨y, hye⟩ : ∃ y, (b[k]'(by omega)) = y := ⟨_, rfl⟩
    rw [hxe] at hx hgx hxs
    rw [hye] at hy hgy hys
    obtain ⟨S, hS⟩ : ∃ S, σ ++ T = S := ⟨_, rfl⟩
    rw [hS]
    refine zpb (zj hd (zj hgx hgy)) ?_
    refine c_mSameEntry (a := x) (b := y) hxs hys ?_
    cases he : decide (x = y)
    · refine zbi hd ?_
      rw [← hS, List.append_assoc]
      refine zap hl ?_
      refine fin _ (decide_eq_false fun h => ?_)
      subst h
      rw [hx] at hy
      have := Option.some.inj hy
      simp [this] at he
    · refine zbi (wk1 k (by omega)) ?_
      exact zdE.next hlt ⟨rfl, ⟨_, by rw [← hS, List.append_assoc]⟩, zdc hx hy htk (by simpa using he)⟩
  · have hd : decide ((k : Int) < (a.length : Int)) = false := by simp; omega
    refine zbi hd ?_
    refine zap hl ?_
    exact fin _ (decide_eq_true (zeB hl2 (k := k) (by omega) htk))

end Go.Proofs.YtdgcepphjnoalaaGreat
