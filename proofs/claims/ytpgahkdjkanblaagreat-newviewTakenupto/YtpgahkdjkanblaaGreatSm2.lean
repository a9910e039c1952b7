/- Contracts: parts of messages that are the same, the program's. -/
import Derived.Test.YtpgahkdjkanblaaGreatSpPut
import Derived.Test.YtpgahkdjkanblaaGreatCk2
import Derived.Test.YtpgahkdjkanblaaGreatSpMsg
set_option linter.all false
set_option maxRecDepth 100000
set_option linter.unusedSimpArgs false
set_option linter.unusedVariables false
namespace Go.Proofs.YtpgahkdjkanblaaGreat
open Go.AW

theorem gq48 {A P Q : Prop} (a : A) (h : Q) (e : A → Hd Q → P := by intro a h; (repeat' first | simp -dsimp only [↓zfa, ↓zat, ↓zbt, ↓zfb, ↓zeW, ↓zeU, ↓zeX, ↓zeV, ↓zby, ↓zbu, ↓zbz, ↓zbv, ↓zeY, ↓zbs, ↓zbA, ↓zbw, ↓zbB, ↓zbx, ↓zeT, ↓zeZ, ↓zbr, ↓zbC, ↓zeQ, ↓zeP, ↓zeS, iN, bT, bF, eN, ↓zcO, ↓unC, ↓zP, ↓zG, ↓zH, ↓zK, ↓zW, ↓zaz, ↓zdn, ↓zau, ↓zbf, ↓zQ, ↓zg, ↓zf, ↓zbY, ↓zb, ↓zae, ↓zL, ↓zaN, ↓zaO, ↓zc, ↓zB, ↓zj, ↓zE, ↓zY, ↓zdz, ↓zdA, ↓zam, ↓zap, ↓zaK, ↓zaV, ↓zbj, ↓zm, ↓zai, ↓zJ, ↓zr, ↓zT, zdD, zbo, zbk, unA, zcZ, bnd, zdZ, zac, zR, zdT, dm, dm1, zI, zan, zeq, zep, zZ, Q0, Q1, Q2, Q3, Q4, Q5, zX, zn, zo, zF, zA, Q6, Q7, Q8, Q9, Q10, Q11, Q12, Q13, Q14, Nat.reduceAdd, Q15, Int.reduceToNat, Q16, Q17, Q18, Q19, Q20, reduceIte, Q21, Q22, zw, rep, zU, zeo, toD, zaa, Q23, Q24, Q25, Q26, Q27, Q28, Nat.reduceLeDiff, Q29, Nat.reduceSub, Q30, Q31, Q32, sc, Q33, Q34, Q35, Q36, Q37, Q26, Q38, Q39, zlJ, zlG, zlD, zlK, zeM, zlH, zlE, zlI, zlF, zeL, zeN, zlL, zlM, Bool.not_true, Bool.not_false, List.length_map, bne, zdB, zgH, a] | with_reducible refine zmc ?_ | fail); exact h.go) : P := e a ⟨h⟩
theorem c_eqSign {σ : List zd} {a b : List zt} (ha1 : a.length ≤ 1073741824) {K : KT} (hK : K (.d (.bool (decide (a = b)))) σ) :
    zl Tryz.prog zbI [.d (.slice (zab a)), .d (.slice (zab b))] σ K := by
  refine ze zdV.is rfl fun hl _ => zdV.goes ?_
  have fin : ∀ z, decide (a = b) = z → K (.d (.bool z)) σ := fun z h => h ▸ hK
  clear hK
  simp only [zdX, iN, bT, bF, eN]
  cases hl0 : ((a.length : Int) != (b.length : Int))
  rotate_left
  · refine zay hl0 ?_
    refine zV hl ?_
    refine fin _ (decide_eq_false fun h => ?_)
    rw [h] at hl0; simp at hl0
  have hl2 : a.length = b.length := by simp at hl0; omega
  refine zay hl0 ?_
  refine zy a.length (fun k vs s => vs = [.d (.int .i64 k)] ∧ (∃ T, s = σ ++ T) ∧ a.take k = b.take k) ⟨rfl, ⟨[], by simp⟩, by simp⟩ ?_
  rintro k vs s hk ⟨rfl, ⟨T, rfl⟩, htk⟩
  by_cases hlt : k < a.length
  · have hd : decide ((k : Int) < (a.length : Int)) = true := by simp; omega
    have hx : a[k]? = some a[k] := by simp [hlt]
    have hy : b[k]? = some (b[k]'(by omega)) := List.getElem?_eq_getElem _
    have hgx := zal (f := zgH) hx
    have hgy := zal (f := zgH) hy
    obtain ⟨x, hxe⟩ : ∃ x, a[k] = x := ⟨_, rfl⟩
    obtain ⟨y, hye⟩ : ∃ y, (b[k]'(by omega)) = y := ⟨_, rfl⟩
    rw [hxe] at hx hgx
    rw [hye] at hy hgy
    obtain ⟨S, hS⟩ : ∃ S, σ ++ T = S := ⟨_, rfl⟩
    rw [hS]
    have hxy : x = y ↔ ((x.key == y.key && x.dig == y.dig)) = true := by cases x; cases y; simp
    cases h2 : ((x.key == y.key && x.dig == y.dig))
    · refine gq48 (zq hd (zq hgx (zq hgy h2))) ?_
      rw [← hS]
      refine zV hl ?_
      refine fin _ (decide_eq_false fun h => ?_)
      subst h
      rw [hx] at hy
      rw [hxy.1 (Option.some.inj hy)] at h2; cases h2
    · refine gq48 (zq hd (zq hgx (zq hgy (zq h2 (wk1 k (by omega)))))) ?_
      exact zbp.next hlt ⟨rfl, ⟨_, hS.symm⟩, zcG hx hy htk (hxy.2 h2)⟩
  · have hd : decide ((k : Int) < (a.length : Int)) = false := by simp; omega
    refine zay hd ?_
    refine zV hl ?_
    exact fin _ (decide_eq_true (zed hl2 (k := k) (by omega) htk))
theorem gq49 {A P Q : Prop} (a : A) (h : Q) (e : A → Hd Q → P := by intro a h; (repeat' first | simp -dsimp only [↓zfa, ↓zat, ↓zbt, ↓zfb, ↓zeW, ↓zeU, ↓zeX, ↓zeV, ↓zby, ↓zbu, ↓zbz, ↓zbv, ↓zeY, ↓zbs, ↓zbA, ↓zbw, ↓zbB, ↓zbx, ↓zeT, ↓zeZ, ↓zbr, ↓zbC, ↓zeQ, ↓zeP, ↓zeS, iN, bT, bF, eN, ↓zcO, ↓unC, ↓zP, ↓zG, ↓zH, ↓zK, ↓zW, ↓zaz, ↓zdn, ↓zau, ↓zbf, ↓zQ, ↓zg, ↓zf, ↓zbY, ↓zb, ↓zae, ↓zL, ↓zaN, ↓zaO, ↓zc, ↓zB, ↓zj, ↓zE, ↓zY, ↓zdz, ↓zdA, ↓zam, ↓zap, ↓zaK, ↓zaV, ↓zbj, ↓zm, ↓zai, ↓zJ, ↓zr, ↓zT, zdD, zbo, zbk, unA, zcZ, bnd, zdZ, zac, zR, zdT, dm, dm1, zI, zan, zeq, zep, zZ, Q0, Q1, Q2, Q3, Q4, Q5, zX, zn, zo, zF, zA, Q6, Q7, Q8, Q9, Q10, Q11, Q12, Q13, Q14, Nat.reduceAdd, Q15, Int.reduceToNat, Q16, Q17, Q18, Q19, Q20, reduceIte, Q21, Q22, zw, rep, zU, zeo, toD, zaa, Q23, Q24, Q25, Q26, Q27, Q28, Nat.reduceLeDiff, Q29, Nat.reduceSub, Q30, Q31, Q32, sc, Q33, Q34, Q35, Q36, Q37, Q26, Q38, Q39, zlJ, zlG, zlD, zlK, zeM, zlH, zlE, zlI, zlF, zeL, zeN, zlL, zlM, Bool.not_true, Bool.not_false, List.length_map, bne, zdB, a] | with_reducible refine zmc ?_ | fail); exact h.go) : P := e a ⟨h⟩
theorem c_eqHdr {σ : List zd} {a b : List THdr} (ha1 : a.length ≤ 1073741824) {K : KT} (hK : K (.d (.bool (decide (a = b)))) σ) :
    zl Tryz.prog zbS [.d (.slice (hdrsE a)), .d (.slice (hdrsE b))] σ K := by
  refine ze zde.is rfl fun hl _ => zde.goes ?_
  have fin : ∀ z, decide (a = b) = z → K (.d (.bool z)) σ := fun z h => h ▸ hK
  clear hK
  simp only [zdj, iN, bT, bF, eN]
  cases hl0 : ((a.length : Int) != (b.length : Int))
  rotate_left
  · refine zay hl0 ?_
    refine zV hl ?_
    refine fin _ (decide_eq_false fun h => ?_)
    rw [h] at hl0; simp at hl0
  have hl2 : a.length = b.length := by simp at hl0; omega
  refine zay hl0 ?_
  refine zy a.length (fun k vs s => vs = [.d (.int .i64 k)] ∧ (∃ T, s = σ ++ T) ∧ a.take k = b.take k) ⟨rfl, ⟨[], by simp⟩, by simp⟩ ?_
  rintro k vs s hk ⟨rfl, ⟨T, rfl⟩, htk⟩
  by_cases hlt : k < a.length
  · have hd : decide ((k : Int) < (a.length : Int)) = true := by simp; omega
    have hx : a[k]? = some a[k] := by simp [hlt]
    have hy : b[k]? = some (b[k]'(by omega)) := List.getElem?_eq_getElem _
    have hgx := zal (f := hdrD) hx
    have hgy := zal (f := hdrD) hy
    obtain ⟨x, hxe⟩ : ∃ x, a[k] = x := ⟨_, rfl⟩
    obtain ⟨y, hye⟩ : ∃ y, (b[k]'(by omega)) = y := ⟨_, rfl⟩
    rw [hxe] at hx hgx
    rw [hye] at hy hgy
    obtain ⟨S, hS⟩ : ∃ S, σ ++ T = S := ⟨_, rfl⟩
    rw [hS]
    have hxy : x = y ↔ ((x.seq == y.seq && (x.prev == y.prev && (x.batch == y.batch && (x.root == y.root && x.state == y.state))))) = true := by cases x; cases y; simp
    cases h2 : ((x.seq == y.seq && (x.prev == y.prev && (x.batch == y.batch && (x.root == y.root && x.state == y.state)))))
    · refine gq49 (zq hd (zq hgx (zq hgy h2))) ?_
      rw [← hS]
      refine zV hl ?_
      refine fin _ (decide_eq_false fun h => ?_)
      subst h
      rw [hx] at hy
      rw [hxy.1 (Option.some.inj hy)] at h2; cases h2
    · refine gq49 (zq hd (zq hgx (zq hgy (zq h2 (wk1 k (by omega)))))) ?_
      exact zbp.next hlt ⟨rfl, ⟨_, hS.symm⟩, zcG hx hy htk (hxy.2 h2)⟩
  · have hd : decide ((k : Int) < (a.length : Int)) = false := by simp; omega
    refine zay hd ?_
    refine zV hl ?_
    exact fin _ (decide_eq_true (zed hl2 (k := k) (by omega) htk))
theorem c_eqDig {σ : List zd} {a b : List Int} (ha1 : a.length ≤ 1073741824) {K : KT} (hK : K (.d (.bool (decide (a = b)))) σ) :
    zl Tryz.prog zbT [.d (.slice (zse a)), .d (.slice (zse b))] σ K := by
  refine ze zdf.is rfl fun hl _ => zdf.goes ?_
  have fin : ∀ z, decide (a = b) = z → K (.d (.bool z)) σ := fun z h => h ▸ hK
  clear hK
  simp only [zdk, iN, bT, bF, eN]
  cases hl0 : ((a.length : Int) != (b.length : Int))
  rotate_left
  · refine zay hl0 ?_
    refine zV hl ?_
    refine fin _ (decide_eq_false fun h => ?_)
    rw [h] at hl0; simp at hl0
  have hl2 : a.length = b.length := by simp at hl0; omega
  refine zay hl0 ?_
  refine zy a.length (fun k vs s => vs = [.d (.int .i64 k)] ∧ (∃ T, s = σ ++ T) ∧ a.take k = b.take k) ⟨rfl, ⟨[], by simp⟩, by simp⟩ ?_
  rintro k vs s hk ⟨rfl, ⟨T, rfl⟩, htk⟩
  by_cases hlt : k < a.length
  · have hd : decide ((k : Int) < (a.length : Int)) = true := by simp; omega
    have hx : a[k]? = some a[k] := by simp [hlt]
    have hy : b[k]? = some (b[k]'(by omega)) := List.getElem?_eq_getElem _
    have hgx := zal (f := fun t => [D.int .i64 t]) hx
    have hgy := zal (f := fun t => [D.int .i64 t]) hy
    obtain ⟨x, hxe⟩ : ∃ x, a[k] = x := ⟨_, rfl⟩
    obtain ⟨y, hye⟩ : ∃ y, (b[k]'(by omega)) = y := ⟨_, rfl⟩
    rw [hxe] at hx hgx
    rw [hye] at hy hgy
    obtain ⟨S, hS⟩ : ∃ S, σ ++ T = S := ⟨_, rfl⟩
    rw [hS]
    have hxy : x = y ↔ (x == y) = true := by simp
    cases h2 : (x == y)
    · refine gq49 (zq hd (zq hgx (zq hgy h2))) ?_
      rw [← hS]
      refine zV hl ?_
      refine fin _ (decide_eq_false fun h => ?_)
      subst h
      rw [hx] at hy
      rw [hxy.1 (Option.some.inj hy)] at h2; cases h2
    · refine gq49 (zq hd (zq hgx (zq hgy (zq h2 (wk1 k (by omega)))))) ?_
      exact zbp.next hlt ⟨rfl, ⟨_, hS.symm⟩, zcG hx hy htk (hxy.2 h2)⟩
  · have hd : decide ((k : Int) < (a.length : Int)) = false := by simp; omega
    refine zay hd ?_
    refine zV hl ?_
    exact fin _ (decide_eq_true (zed hl2 (k := k) (by omega) htk))
structure zrK (p : zca) : Prop where
  signs : p.signs.length ≤ 1073741824
  batch : ziR p.batch
structure zlg (c : zO) : Prop where
  signs : c.cert.signs.length ≤ 1073741824
  above : c.above.length ≤ 1073741824
  each : ∀ p ∈ c.above, zrK p
def zmE (x : zaI) : Prop := ziR x.batch
abbrev zsj (x : zaI) : AV := .agg [.d (.int .i64 x.view), .d (.int .i64 x.seq), .d (.slice (zbD x.batch)), .d (.int .i64 x.key), .d (.int .i64 x.dig)]
theorem zoG {σ : List zd} {a b : zfB} (ha : a.signs.length ≤ 1073741824) {K : KT} (hK : K (.d (.bool (decide (a = b)))) σ) : zl Tryz.prog zdL [zfX a, zfX b] σ K := by
  refine ze zjU.is rfl fun hl _ => zjU.goes ?_
  have fin : ∀ z, decide (a = b) = z → K (.d (.bool z)) σ := fun z h => h ▸ hK
  clear hK
  simp only [zkh, iN, bT, bF, eN]
  cases h1 : (a.seq == b.seq)
  · refine zay h1 ?_
    refine zV hl ?_
    exact fin _ (decide_eq_false fun h => by subst h; simp at h1)
  cases h2 : (a.dig == b.dig)
  · refine zay (zq h1 h2) ?_
    refine zV hl ?_
    exact fin _ (decide_eq_false fun h => by subst h; simp at h2)
  refine zay (zq h1 h2) ?_
  refine c_eqSign ha ?_
  cases h3 : decide (a.signs = b.signs)
  · refine zaF ?_
    refine zV hl ?_
    exact fin _ (decide_eq_false fun h => by subst h; simp at h3)
  · refine zaF ?_
    refine zV hl ?_
    exact fin _ (decide_eq_true (by cases a; cases b; simp_all))
theorem c_mSamePrep {σ : List zd} {a b : zca} (ha : zrK a) (hb : zrK b) {K : KT} (hK : K (.d (.bool (decide (a = b)))) σ) :
    zl Tryz.prog zdw [.agg [.d (.int .i64 a.view), .d (.int .i64 a.seq), .d (.int .i64 a.dig), .d (.int .i64 a.fkey), .d (.int .i64 a.fdig), .d (.slice (zab a.signs)), .d (.slice (zbD a.batch))], .agg [.d (.int .i64 b.view), .d (.int .i64 b.seq), .d (.int .i64 b.dig), .d (.int .i64 b.fkey), .d (.int .i64 b.fdig), .d (.slice (zab b.signs)), .d (.slice (zbD b.batch))]] σ K := by
  refine ze zgV.is rfl fun hl _ => zgV.goes ?_
  have fin : ∀ z, decide (a = b) = z → K (.d (.bool z)) σ := fun z h => h ▸ hK
  clear hK
  simp only [zhf, iN, bT, bF, eN]
  cases h1 : (a.view == b.view)
  · refine zay h1 ?_
    refine zV hl ?_
    exact fin _ (decide_eq_false fun h => by subst h; simp at h1)
  cases h2 : (a.seq == b.seq)
  · refine zay (zq h1 h2) ?_
    refine zV hl ?_
    exact fin _ (decide_eq_false fun h => by subst h; simp at h2)
  cases h3 : (a.dig == b.dig)
  · refine zay (zq h1 (zq h2 h3)) ?_
    refine zV hl ?_
    exact fin _ (decide_eq_false fun h => by subst h; simp at h3)
  cases h4 : (a.fkey == b.fkey && a.fdig == b.fdig)
  · refine znN (zq h1 (zq h2 (zq h3 h4))) ?_
    refine zV hl ?_
    exact fin _ (decide_eq_false fun h => by subst h; simp at h4)
  refine znN (zq h1 (zq h2 (zq h3 h4))) ?_
  refine c_eqSign ha.signs ?_
  cases h5 : decide (a.signs = b.signs)
  · refine zaF ?_
    refine zV hl ?_
    exact fin _ (decide_eq_false fun h => by subst h; simp at h5)
  refine zaF ?_
  refine zpz ha.batch hb.batch ?_
  cases h6 : decide (a.batch = b.batch)
  · refine zaF ?_
    refine zV hl ?_
    exact fin _ (decide_eq_false fun h => by subst h; simp at h6)
  · refine zaF ?_
    refine zV hl ?_
    exact fin _ (decide_eq_true (by cases a; cases b; simp_all))


theorem c_eqPreps {σ : List zd} {a b : List zca} (ha1 : a.length ≤ 1073741824) (ha2 : ∀ x ∈ a, zrK x) (hb2 : ∀ x ∈ b, zrK x) {K : KT} (hK : K (.d (.bool (decide (a = b)))) σ) :
    zl Tryz.prog zak [.d (.slice (zfG a)), .d (.slice (zfG b)), .fn (.func zdw) [] []] σ K := by
  refine ze zaH.is rfl fun hl _ => zaH.goes ?_
  have fin : ∀ z, decide (a = b) = z → K (.d (.bool z)) σ := fun z h => h ▸ hK
  clear hK
  simp only [zaJ, iN, bT, bF, eN]
  cases hl0 : ((a.length : Int) != (b.length : Int))
  rotate_left
  · refine zay hl0 ?_
    refine zV hl ?_
    refine fin _ (decide_eq_false fun h => ?_)
    rw [h] at hl0; simp at hl0
  have hl2 : a.length = b.length := by simp at hl0; omega
  refine zay hl0 ?_
  refine zy a.length (fun k vs s => vs = [.d (.int .i64 k)] ∧ (∃ T, s = σ ++ T) ∧ a.take k = b.take k) ⟨rfl, ⟨[], by simp⟩, by simp⟩ ?_
  rintro k vs s hk ⟨rfl, ⟨T, rfl⟩, htk⟩
  by_cases hlt : k < a.length
  · have hd : decide ((k : Int) < (a.length : Int)) = true := by simp; omega
    have hx : a[k]? = some a[k] := by simp [hlt]
    have hy : b[k]? = some (b[k]'(by omega)) := List.getElem?_eq_getElem _
    have hgx := zal (f := zgI) hx
    have hgy := zal (f := zgI) hy
    have hxs := ha2 _ (List.getElem_mem hlt)
    have hys := hb2 _ (List.getElem_mem (show k < b.length by omega))
    obtain ⟨x, hxe⟩ : ∃ x, a[k] = x := ⟨_, rfl⟩
    obtain ⟨y, hye⟩ : ∃ y, (b[k]'(by omega)) = y := ⟨_, rfl⟩
    rw [hxe] at hx hgx hxs
    rw [hye] at hy hgy hys
    obtain ⟨S, hS⟩ : ∃ S, σ ++ T = S := ⟨_, rfl⟩
    rw [hS]
    refine znN (zq hd (zq hgx hgy)) ?_
    refine c_mSamePrep (a := x) (b := y) hxs hys ?_
    cases he : decide (x = y)
    · refine zay hd ?_
      rw [← hS, List.append_assoc]
      refine zV hl ?_
      refine fin _ (decide_eq_false fun h => ?_)
      subst h
      rw [hx] at hy
      have := Option.some.inj hy
      simp [this] at he
    · refine zay (wk1 k (by omega)) ?_
      exact zbp.next hlt ⟨rfl, ⟨_, by rw [← hS, List.append_assoc]⟩, zcG hx hy htk (by simpa using he)⟩
  · have hd : decide ((k : Int) < (a.length : Int)) = false := by simp; omega
    refine zay hd ?_
    refine zV hl ?_
    exact fin _ (decide_eq_true (zed hl2 (k := k) (by omega) htk))
theorem zva {σ : List zd} {a b : zO} (ha : zlg a) (hb : zlg b) {K : KT} (hK : K (.d (.bool (decide (a = b)))) σ) :
    zl Tryz.prog zeb [.agg [.d (.int .i64 a.view), .d (.int .i64 a.src), .d (.int .i64 a.cert.seq), .d (.int .i64 a.cert.dig), .d (.slice (zab a.cert.signs)), .d (.slice (zfG a.above)), .d (.int .i64 a.key), .d (.int .i64 a.dig)], .agg [.d (.int .i64 b.view), .d (.int .i64 b.src), .d (.int .i64 b.cert.seq), .d (.int .i64 b.cert.dig), .d (.slice (zab b.cert.signs)), .d (.slice (zfG b.above)), .d (.int .i64 b.key), .d (.int .i64 b.dig)]] σ K := by
  refine ze zis.is rfl fun hl _ => zis.goes ?_
  have fin : ∀ z, decide (a = b) = z → K (.d (.bool z)) σ := fun z h => h ▸ hK
  clear hK
  simp only [ziz, iN, bT, bF, eN]
  cases h1 : (a.view == b.view)
  · refine zay h1 ?_
    refine zV hl ?_
    exact fin _ (decide_eq_false fun h => by subst h; simp at h1)
  cases h2 : (a.src == b.src)
  · refine zay (zq h1 h2) ?_
    refine zV hl ?_
    exact fin _ (decide_eq_false fun h => by subst h; simp at h2)
  refine zay (zq h1 h2) ?_
  refine zoG (a := a.cert) (b := b.cert) ha.signs ?_
  cases h3 : decide (a.cert = b.cert)
  · refine zaF ?_
    refine zV hl ?_
    exact fin _ (decide_eq_false fun h => by subst h; simp at h3)
  refine zaF ?_
  refine c_eqPreps ha.above ha.each hb.each ?_
  cases h4 : decide (a.above = b.above)
  · refine zaF ?_
    refine zV hl ?_
    exact fin _ (decide_eq_false fun h => by subst h; simp at h4)
  cases h5 : (a.key == b.key && a.dig == b.dig)
  · refine znN h5 ?_
    refine zV hl ?_
    exact fin _ (decide_eq_false fun h => by subst h; simp at h5)
  · refine znN h5 ?_
    refine zV hl ?_
    exact fin _ (decide_eq_true (by cases a; cases b; simp_all))


theorem c_eqChanges {σ : List zd} {a b : List zO} (ha1 : a.length ≤ 1073741824) (ha2 : ∀ x ∈ a, zlg x) (hb2 : ∀ x ∈ b, zlg x) {K : KT} (hK : K (.d (.bool (decide (a = b)))) σ) :
    zl Tryz.prog zas [.d (.slice (zaL a)), .d (.slice (zaL b)), .fn (.func zeb) [] []] σ K := by
  refine ze zaX.is rfl fun hl _ => zaX.goes ?_
  have fin : ∀ z, decide (a = b) = z → K (.d (.bool z)) σ := fun z h => h ▸ hK
  clear hK
  simp only [zaZ, iN, bT, bF, eN]
  cases hl0 : ((a.length : Int) != (b.length : Int))
  rotate_left
  · refine zay hl0 ?_
    refine zV hl ?_
    refine fin _ (decide_eq_false fun h => ?_)
    rw [h] at hl0; simp at hl0
  have hl2 : a.length = b.length := by simp at hl0; omega
  refine zay hl0 ?_
  refine zy a.length (fun k vs s => vs = [.d (.int .i64 k)] ∧ (∃ T, s = σ ++ T) ∧ a.take k = b.take k) ⟨rfl, ⟨[], by simp⟩, by simp⟩ ?_
  rintro k vs s hk ⟨rfl, ⟨T, rfl⟩, htk⟩
  by_cases hlt : k < a.length
  · have hd : decide ((k : Int) < (a.length : Int)) = true := by simp; omega
    have hx : a[k]? = some a[k] := by simp [hlt]
    have hy : b[k]? = some (b[k]'(by omega)) := List.getElem?_eq_getElem _
    have hgx := zal (f := zbH) hx
    have hgy := zal (f := zbH) hy
    have hxs := ha2 _ (List.getElem_mem hlt)
    have hys := hb2 _ (List.getElem_mem (show k < b.length by omega))
    obtain ⟨x, hxe⟩ : ∃ x, a[k] = x := ⟨_, rfl⟩
    obtain ⟨y, hye⟩ : ∃ y, (b[k]'(by omega)) = y := ⟨_, rfl⟩
    rw [hxe] at hx hgx hxs
    rw [hye] at hy hgy hys
    obtain ⟨S, hS⟩ : ∃ S, σ ++ T = S := ⟨_, rfl⟩
    rw [hS]
    refine znN (zq hd (zq hgx hgy)) ?_
    refine zva (a := x) (b := y) hxs hys ?_
    cases he : decide (x = y)
    · refine zay hd ?_
      rw [← hS, List.append_assoc]
      refine zV hl ?_
      refine fin _ (decide_eq_false fun h => ?_)
      subst h
      rw [hx] at hy
      have := Option.some.inj hy
      simp [this] at he
    · refine zay (wk1 k (by omega)) ?_
      exact zbp.next hlt ⟨rfl, ⟨_, by rw [← hS, List.append_assoc]⟩, zcG hx hy htk (by simpa using he)⟩
  · have hd : decide ((k : Int) < (a.length : Int)) = false := by simp; omega
    refine zay hd ?_
    refine zV hl ?_
    exact fin _ (decide_eq_true (zed hl2 (k := k) (by omega) htk))
theorem c_mSameEntry {σ : List zd} {a b : zaI} (ha : zmE a) (hb : zmE b) {K : KT} (hK : K (.d (.bool (decide (a = b)))) σ) :
    zl Tryz.prog zez [zsj a, zsj b] σ K := by
  refine ze zjj.is rfl fun hl _ => zjj.goes ?_
  have fin : ∀ z, decide (a = b) = z → K (.d (.bool z)) σ := fun z h => h ▸ hK
  clear hK
  simp only [zjz, iN, bT, bF, eN]
  cases h1 : (a.view == b.view)
  · refine zay h1 ?_
    refine zV hl ?_
    exact fin _ (decide_eq_false fun h => by subst h; simp at h1)
  cases h2 : (a.seq == b.seq)
  · refine zay (zq h1 h2) ?_
    refine zV hl ?_
    exact fin _ (decide_eq_false fun h => by subst h; simp at h2)
  refine zay (zq h1 h2) ?_
  refine zpz ha hb ?_
  cases h3 : decide (a.batch = b.batch)
  · refine zaF ?_
    refine zV hl ?_
    exact fin _ (decide_eq_false fun h => by subst h; simp at h3)
  cases h5 : (a.key == b.key && a.dig == b.dig)
  · refine znN h5 ?_
    refine zV hl ?_
    exact fin _ (decide_eq_false fun h => by subst h; simp at h5)
  · refine znN h5 ?_
    refine zV hl ?_
    exact fin _ (decide_eq_true (by cases a; cases b; simp_all))


theorem c_eqEntries {σ : List zd} {a b : List zaI} (ha1 : a.length ≤ 1073741824) (ha2 : ∀ x ∈ a, zmE x) (hb2 : ∀ x ∈ b, zmE x) {K : KT} (hK : K (.d (.bool (decide (a = b)))) σ) :
    zl Tryz.prog zaw [.d (.slice (zah a)), .d (.slice (zah b)), .fn (.func zez) [] []] σ K := by
  refine ze zbh.is rfl fun hl _ => zbh.goes ?_
  have fin : ∀ z, decide (a = b) = z → K (.d (.bool z)) σ := fun z h => h ▸ hK
  clear hK
  simp only [zbi, iN, bT, bF, eN]
  cases hl0 : ((a.length : Int) != (b.length : Int))
  rotate_left
  · refine zay hl0 ?_
    refine zV hl ?_
    refine fin _ (decide_eq_false fun h => ?_)
    rw [h] at hl0; simp at hl0
  have hl2 : a.length = b.length := by simp at hl0; omega
  refine zay hl0 ?_
  refine zy a.length (fun k vs s => vs = [.d (.int .i64 k)] ∧ (∃ T, s = σ ++ T) ∧ a.take k = b.take k) ⟨rfl, ⟨[], by simp⟩, by simp⟩ ?_
  rintro k vs s hk ⟨rfl, ⟨T, rfl⟩, htk⟩
  by_cases hlt : k < a.length
  · have hd : decide ((k : Int) < (a.length : Int)) = true := by simp; omega
    have hx : a[k]? = some a[k] := by simp [hlt]
    have hy : b[k]? = some (b[k]'(by omega)) := List.getElem?_eq_getElem _
    have hgx := zal (f := zdC) hx
    have hgy := zal (f := zdC) hy
    have hxs := ha2 _ (List.getElem_mem hlt)
    have hys := hb2 _ (List.getElem_mem (show k < b.length by omega))
    obtain ⟨x, hxe⟩ : ∃ x, a[k] = x := ⟨_, rfl⟩
    obtain ⟨y, hye⟩ : ∃ y, (b[k]'(by omega)) = y := ⟨_, rfl⟩
    rw [hxe] at hx hgx hxs
    rw [hye] at hy hgy hys
    obtain ⟨S, hS⟩ : ∃ S, σ ++ T = S := ⟨_, rfl⟩
    rw [hS]
    refine znN (zq hd (zq hgx hgy)) ?_
    refine c_mSameEntry (a := x) (b := y) hxs hys ?_
    cases he : decide (x = y)
    · refine zay hd ?_
      rw [← hS, List.append_assoc]
      refine zV hl ?_
      refine fin _ (decide_eq_false fun h => ?_)
      subst h
      rw [hx] at hy
      have := Option.some.inj hy
      simp [this] at he
    · refine zay (wk1 k (by omega)) ?_
      exact zbp.next hlt ⟨rfl, ⟨_, by rw [← hS, List.append_assoc]⟩, zcG hx hy htk (by simpa using he)⟩
  · have hd : decide ((k : Int) < (a.length : Int)) = false := by simp; omega
    refine zay hd ?_
    refine zV hl ?_
    exact fin _ (decide_eq_true (zed hl2 (k := k) (by omega) htk))

end Go.Proofs.YtpgahkdjkanblaaGreat
