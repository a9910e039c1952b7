/- Contracts: parts of messages that are the same, the program's. -/
import Derived.Test.YtpgahkdjkanblaaGreatKr1
import Derived.Test.YtpgahkdjkanblaaGreatCk2
import Derived.Test.YtpgahkdjkanblaaGreatSpMsg
set_option linter.all false
set_option maxRecDepth 100000
set_option linter.unusedSimpArgs false
set_option linter.unusedVariables false
namespace Go.Proofs.YtpgahkdjkanblaaGreat
open Go.AW

theorem gq51 {A P Q : Prop} (a : A) (h : Q) (e : A → Hd Q → P := by intro a h; (repeat' first | simp -dsimp only [↓zey, ↓zay, ↓zbs, ↓zez, ↓zeu, ↓zes, ↓zev, ↓zet, ↓zbx, ↓zbt, ↓zby, ↓zbu, ↓zew, ↓zbr, ↓zbz, ↓zbv, ↓zbA, ↓zbw, ↓zer, ↓zex, ↓zbp, ↓zbB, ↓zep, ↓zeo, ↓zeq, iN, bT, bF, eN, ↓zcv, ↓unC, ↓zU, ↓zI, ↓zJ, ↓zM, ↓zX, ↓zal, ↓zcX, ↓zai, ↓zaJ, ↓zW, ↓zg, ↓zn, ↓zbP, ↓zb, ↓zaf, ↓zD, ↓zaI, ↓zaQ, ↓zd, ↓zF, ↓zj, ↓zG, ↓zam, ↓zdc, ↓zdj, ↓zak, ↓zau, ↓zaL, ↓zaY, ↓zbh, ↓zo, ↓zaj, ↓zK, ↓zr, ↓zV, zdk, zbn, zbk, unA, zdu, bnd, zdG, zae, zO, zdW, dm, dm1, zR, zaF, zea, zdZ, zw, Q0, Q1, Q2, Q3, Q4, Q5, zY, zC, zt, zN, zE, Q6, Q7, Q8, Q9, Q10, Q11, Q12, Q13, Q14, Nat.reduceAdd, Q15, Int.reduceToNat, Q16, Q17, Q18, Q19, Q20, reduceIte, Q21, Q22, zA, rep, zZ, zeB, toD, zap, Q23, Q24, Q25, Q26, Q27, Q28, Nat.reduceLeDiff, Q29, Nat.reduceSub, Q30, Q31, Q32, sc, Q33, Q34, Q35, Q36, Q37, Q26, Q38, Q39, zpZ, zpW, zpT, zqa, zgd, zpX, zpU, zpY, zpV, zgc, zge, zqb, zqc, Bool.not_true, Bool.not_false, List.length_map, bne, zcU, zeS, a] | with_reducible refine zqd ?_ | fail); exact h.go) : P := e a ⟨h⟩
theorem c_eqSign {σ : List zf} {a b : List zP} (ha1 : a.length ≤ 1073741824) {K : KT} (hK : K (.d (.bool (decide (a = b)))) σ) :
    zm Tryz.prog zbC [.d (.slice (zas a)), .d (.slice (zas b))] σ K := by
  refine zc zdr.is rfl fun hl _ => zdr.goes ?_
  have fin : ∀ z, decide (a = b) = z → K (.d (.bool z)) σ := fun z h => h ▸ hK
  clear hK
  simp only [zds, iN, bT, bF, eN]
  cases hl0 : ((a.length : Int) != (b.length : Int))
  rotate_left
  · refine zH hl0 ?_
    refine zq hl ?_
    refine fin _ (decide_eq_false fun h => ?_)
    rw [h] at hl0; simp at hl0
  have hl2 : a.length = b.length := by simp at hl0; omega
  refine zH hl0 ?_
  refine zl a.length (fun k vs s => vs = [.d (.int .i64 k)] ∧ (∃ T, s = σ ++ T) ∧ a.take k = b.take k) ⟨rfl, ⟨[], by simp⟩, by simp⟩ ?_
  rintro k vs s hk ⟨rfl, ⟨T, rfl⟩, htk⟩
  by_cases hlt : k < a.length
  · have hd : decide ((k : Int) < (a.length : Int)) = true := by simp; omega
    have hx : a[k]? = some a[k] := by simp [hlt]
    have hy : b[k]? = some (b[k]'(by omega)) := List.getElem?_eq_getElem _
    have hgx := zQ (f := zeS) hx
    have hgy := zQ (f := zeS) hy
    obtain ⟨x, hxe⟩ : ∃ x, a[k] = x := ⟨_, rfl⟩
    obtain ⟨y, hye⟩ : ∃ y, (b[k]'(by omega)) = y := ⟨_, rfl⟩
    rw [hxe] at hx hgx
    rw [hye] at hy hgy
    obtain ⟨S, hS⟩ : ∃ S, σ ++ T = S := ⟨_, rfl⟩
    rw [hS]
    have hxy : x = y ↔ ((x.key == y.key && x.dig == y.dig)) = true := by cases x; cases y; simp
    cases h2 : ((x.key == y.key && x.dig == y.dig))
    · refine gq51 (zi hd (zi hgx (zi hgy h2))) ?_
      rw [← hS]
      refine zq hl ?_
      refine fin _ (decide_eq_false fun h => ?_)
      subst h
      rw [hx] at hy
      rw [hxy.1 (Option.some.inj hy)] at h2; cases h2
    · refine gq51 (zi hd (zi hgx (zi hgy (zi h2 (wk1 k (by omega)))))) ?_
      exact zaG.next hlt ⟨rfl, ⟨_, hS.symm⟩, zbi hx hy htk (hxy.2 h2)⟩
  · have hd : decide ((k : Int) < (a.length : Int)) = false := by simp; omega
    refine zH hd ?_
    refine zq hl ?_
    exact fin _ (decide_eq_true (zca hl2 (k := k) (by omega) htk))
theorem gq52 {A P Q : Prop} (a : A) (h : Q) (e : A → Hd Q → P := by intro a h; (repeat' first | simp -dsimp only [↓zey, ↓zay, ↓zbs, ↓zez, ↓zeu, ↓zes, ↓zev, ↓zet, ↓zbx, ↓zbt, ↓zby, ↓zbu, ↓zew, ↓zbr, ↓zbz, ↓zbv, ↓zbA, ↓zbw, ↓zer, ↓zex, ↓zbp, ↓zbB, ↓zep, ↓zeo, ↓zeq, iN, bT, bF, eN, ↓zcv, ↓unC, ↓zU, ↓zI, ↓zJ, ↓zM, ↓zX, ↓zal, ↓zcX, ↓zai, ↓zaJ, ↓zW, ↓zg, ↓zn, ↓zbP, ↓zb, ↓zaf, ↓zD, ↓zaI, ↓zaQ, ↓zd, ↓zF, ↓zj, ↓zG, ↓zam, ↓zdc, ↓zdj, ↓zak, ↓zau, ↓zaL, ↓zaY, ↓zbh, ↓zo, ↓zaj, ↓zK, ↓zr, ↓zV, zdk, zbn, zbk, unA, zdu, bnd, zdG, zae, zO, zdW, dm, dm1, zR, zaF, zea, zdZ, zw, Q0, Q1, Q2, Q3, Q4, Q5, zY, zC, zt, zN, zE, Q6, Q7, Q8, Q9, Q10, Q11, Q12, Q13, Q14, Nat.reduceAdd, Q15, Int.reduceToNat, Q16, Q17, Q18, Q19, Q20, reduceIte, Q21, Q22, zA, rep, zZ, zeB, toD, zap, Q23, Q24, Q25, Q26, Q27, Q28, Nat.reduceLeDiff, Q29, Nat.reduceSub, Q30, Q31, Q32, sc, Q33, Q34, Q35, Q36, Q37, Q26, Q38, Q39, zpZ, zpW, zpT, zqa, zgd, zpX, zpU, zpY, zpV, zgc, zge, zqb, zqc, Bool.not_true, Bool.not_false, List.length_map, bne, zcU, a] | with_reducible refine zqd ?_ | fail); exact h.go) : P := e a ⟨h⟩
theorem c_eqHdr {σ : List zf} {a b : List THdr} (ha1 : a.length ≤ 1073741824) {K : KT} (hK : K (.d (.bool (decide (a = b)))) σ) :
    zm Tryz.prog zbM [.d (.slice (hdrsE a)), .d (.slice (hdrsE b))] σ K := by
  refine zc zcN.is rfl fun hl _ => zcN.goes ?_
  have fin : ∀ z, decide (a = b) = z → K (.d (.bool z)) σ := fun z h => h ▸ hK
  clear hK
  simp only [zcQ, iN, bT, bF, eN]
  cases hl0 : ((a.length : Int) != (b.length : Int))
  rotate_left
  · refine zH hl0 ?_
    refine zq hl ?_
    refine fin _ (decide_eq_false fun h => ?_)
    rw [h] at hl0; simp at hl0
  have hl2 : a.length = b.length := by simp at hl0; omega
  refine zH hl0 ?_
  refine zl a.length (fun k vs s => vs = [.d (.int .i64 k)] ∧ (∃ T, s = σ ++ T) ∧ a.take k = b.take k) ⟨rfl, ⟨[], by simp⟩, by simp⟩ ?_
  rintro k vs s hk ⟨rfl, ⟨T, rfl⟩, htk⟩
  by_cases hlt : k < a.length
  · have hd : decide ((k : Int) < (a.length : Int)) = true := by simp; omega
    have hx : a[k]? = some a[k] := by simp [hlt]
    have hy : b[k]? = some (b[k]'(by omega)) := List.getElem?_eq_getElem _
    have hgx := zQ (f := hdrD) hx
    have hgy := zQ (f := hdrD) hy
    obtain ⟨x, hxe⟩ : ∃ x, a[k] = x := ⟨_, rfl⟩
    obtain ⟨y, hye⟩ : ∃ y, (b[k]'(by omega)) = y := ⟨_, rfl⟩
    rw [hxe] at hx hgx
    rw [hye] at hy hgy
    obtain ⟨S, hS⟩ : ∃ S, σ ++ T = S := ⟨_, rfl⟩
    rw [hS]
    have hxy : x = y ↔ ((x.seq == y.seq && (x.prev == y.prev && (x.batch == y.batch && (x.root == y.root && x.state == y.state))))) = true := by cases x; cases y; simp
    cases h2 : ((x.seq == y.seq && (x.prev == y.prev && (x.batch == y.batch && (x.root == y.root && x.state == y.state)))))
    · refine gq52 (zi hd (zi hgx (zi hgy h2))) ?_
      rw [← hS]
      refine zq hl ?_
      refine fin _ (decide_eq_false fun h => ?_)
      subst h
      rw [hx] at hy
      rw [hxy.1 (Option.some.inj hy)] at h2; cases h2
    · refine gq52 (zi hd (zi hgx (zi hgy (zi h2 (wk1 k (by omega)))))) ?_
      exact zaG.next hlt ⟨rfl, ⟨_, hS.symm⟩, zbi hx hy htk (hxy.2 h2)⟩
  · have hd : decide ((k : Int) < (a.length : Int)) = false := by simp; omega
    refine zH hd ?_
    refine zq hl ?_
    exact fin _ (decide_eq_true (zca hl2 (k := k) (by omega) htk))
theorem c_eqDig {σ : List zf} {a b : List Int} (ha1 : a.length ≤ 1073741824) {K : KT} (hK : K (.d (.bool (decide (a = b)))) σ) :
    zm Tryz.prog zbN [.d (.slice (zop a)), .d (.slice (zop b))] σ K := by
  refine zc zcO.is rfl fun hl _ => zcO.goes ?_
  have fin : ∀ z, decide (a = b) = z → K (.d (.bool z)) σ := fun z h => h ▸ hK
  clear hK
  simp only [zcR, iN, bT, bF, eN]
  cases hl0 : ((a.length : Int) != (b.length : Int))
  rotate_left
  · refine zH hl0 ?_
    refine zq hl ?_
    refine fin _ (decide_eq_false fun h => ?_)
    rw [h] at hl0; simp at hl0
  have hl2 : a.length = b.length := by simp at hl0; omega
  refine zH hl0 ?_
  refine zl a.length (fun k vs s => vs = [.d (.int .i64 k)] ∧ (∃ T, s = σ ++ T) ∧ a.take k = b.take k) ⟨rfl, ⟨[], by simp⟩, by simp⟩ ?_
  rintro k vs s hk ⟨rfl, ⟨T, rfl⟩, htk⟩
  by_cases hlt : k < a.length
  · have hd : decide ((k : Int) < (a.length : Int)) = true := by simp; omega
    have hx : a[k]? = some a[k] := by simp [hlt]
    have hy : b[k]? = some (b[k]'(by omega)) := List.getElem?_eq_getElem _
    have hgx := zQ (f := fun t => [D.int .i64 t]) hx
    have hgy := zQ (f := fun t => [D.int .i64 t]) hy
    obtain ⟨x, hxe⟩ : ∃ x, a[k] = x := ⟨_, rfl⟩
    obtain ⟨y, hye⟩ : ∃ y, (b[k]'(by omega)) = y := ⟨_, rfl⟩
    rw [hxe] at hx hgx
    rw [hye] at hy hgy
    obtain ⟨S, hS⟩ : ∃ S, σ ++ T = S := ⟨_, rfl⟩
    rw [hS]
    have hxy : x = y ↔ (x == y) = true := by simp
    cases h2 : (x == y)
    · refine gq52 (zi hd (zi hgx (zi hgy h2))) ?_
      rw [← hS]
      refine zq hl ?_
      refine fin _ (decide_eq_false fun h => ?_)
      subst h
      rw [hx] at hy
      rw [hxy.1 (Option.some.inj hy)] at h2; cases h2
    · refine gq52 (zi hd (zi hgx (zi hgy (zi h2 (wk1 k (by omega)))))) ?_
      exact zaG.next hlt ⟨rfl, ⟨_, hS.symm⟩, zbi hx hy htk (hxy.2 h2)⟩
  · have hd : decide ((k : Int) < (a.length : Int)) = false := by simp; omega
    refine zH hd ?_
    refine zq hl ?_
    exact fin _ (decide_eq_true (zca hl2 (k := k) (by omega) htk))
structure zoa (p : zbW) : Prop where
  signs : p.signs.length ≤ 1073741824
  batch : zhF p.batch
structure zjd (c : zaa) : Prop where
  signs : c.cert.signs.length ≤ 1073741824
  above : c.above.length ≤ 1073741824
  each : ∀ p ∈ c.above, zoa p
def zsa (x : ziN) : Prop := zhF x.batch
abbrev entryA (x : ziN) : AV := .agg [.d (.int .i64 x.view), .d (.int .i64 x.seq), .d (.slice (zbo x.batch)), .d (.int .i64 x.key), .d (.int .i64 x.dig)]
theorem zox {σ : List zf} {a b : zek} (ha : a.signs.length ≤ 1073741824) {K : KT} (hK : K (.d (.bool (decide (a = b)))) σ) : zm Tryz.prog zdf [zgQ a, zgQ b] σ K := by
  refine zc zjp.is rfl fun hl _ => zjp.goes ?_
  have fin : ∀ z, decide (a = b) = z → K (.d (.bool z)) σ := fun z h => h ▸ hK
  clear hK
  simp only [zjE, iN, bT, bF, eN]
  cases h1 : (a.seq == b.seq)
  · refine zH h1 ?_
    refine zq hl ?_
    exact fin _ (decide_eq_false fun h => by subst h; simp at h1)
  cases h2 : (a.dig == b.dig)
  · refine zH (zi h1 h2) ?_
    refine zq hl ?_
    exact fin _ (decide_eq_false fun h => by subst h; simp at h2)
  refine zH (zi h1 h2) ?_
  refine c_eqSign ha ?_
  cases h3 : decide (a.signs = b.signs)
  · refine zao ?_
    refine zq hl ?_
    exact fin _ (decide_eq_false fun h => by subst h; simp at h3)
  · refine zao ?_
    refine zq hl ?_
    exact fin _ (decide_eq_true (by cases a; cases b; simp_all))
theorem c_mSamePrep {σ : List zf} {a b : zbW} (ha : zoa a) (hb : zoa b) {K : KT} (hK : K (.d (.bool (decide (a = b)))) σ) :
    zm Tryz.prog zcW [.agg [.d (.int .i64 a.view), .d (.int .i64 a.seq), .d (.int .i64 a.dig), .d (.int .i64 a.fkey), .d (.int .i64 a.fdig), .d (.slice (zas a.signs)), .d (.slice (zbo a.batch))], .agg [.d (.int .i64 b.view), .d (.int .i64 b.seq), .d (.int .i64 b.dig), .d (.int .i64 b.fkey), .d (.int .i64 b.fdig), .d (.slice (zas b.signs)), .d (.slice (zbo b.batch))]] σ K := by
  refine zc zgp.is rfl fun hl _ => zgp.goes ?_
  have fin : ∀ z, decide (a = b) = z → K (.d (.bool z)) σ := fun z h => h ▸ hK
  clear hK
  simp only [zgz, iN, bT, bF, eN]
  cases h1 : (a.view == b.view)
  · refine zH h1 ?_
    refine zq hl ?_
    exact fin _ (decide_eq_false fun h => by subst h; simp at h1)
  cases h2 : (a.seq == b.seq)
  · refine zH (zi h1 h2) ?_
    refine zq hl ?_
    exact fin _ (decide_eq_false fun h => by subst h; simp at h2)
  cases h3 : (a.dig == b.dig)
  · refine zH (zi h1 (zi h2 h3)) ?_
    refine zq hl ?_
    exact fin _ (decide_eq_false fun h => by subst h; simp at h3)
  cases h4 : (a.fkey == b.fkey && a.fdig == b.fdig)
  · refine zjk (zi h1 (zi h2 (zi h3 h4))) ?_
    refine zq hl ?_
    exact fin _ (decide_eq_false fun h => by subst h; simp at h4)
  refine zjk (zi h1 (zi h2 (zi h3 h4))) ?_
  refine c_eqSign ha.signs ?_
  cases h5 : decide (a.signs = b.signs)
  · refine zao ?_
    refine zq hl ?_
    exact fin _ (decide_eq_false fun h => by subst h; simp at h5)
  refine zao ?_
  refine ztg ha.batch hb.batch ?_
  cases h6 : decide (a.batch = b.batch)
  · refine zao ?_
    refine zq hl ?_
    exact fin _ (decide_eq_false fun h => by subst h; simp at h6)
  · refine zao ?_
    refine zq hl ?_
    exact fin _ (decide_eq_true (by cases a; cases b; simp_all))


theorem c_eqPreps {σ : List zf} {a b : List zbW} (ha1 : a.length ≤ 1073741824) (ha2 : ∀ x ∈ a, zoa x) (hb2 : ∀ x ∈ b, zoa x) {K : KT} (hK : K (.d (.bool (decide (a = b)))) σ) :
    zm Tryz.prog zah [.d (.slice (zfI a)), .d (.slice (zfI b)), .fn (.func zcW) [] []] σ K := by
  refine zc zaD.is rfl fun hl _ => zaD.goes ?_
  have fin : ∀ z, decide (a = b) = z → K (.d (.bool z)) σ := fun z h => h ▸ hK
  clear hK
  simp only [zaE, iN, bT, bF, eN]
  cases hl0 : ((a.length : Int) != (b.length : Int))
  rotate_left
  · refine zH hl0 ?_
    refine zq hl ?_
    refine fin _ (decide_eq_false fun h => ?_)
    rw [h] at hl0; simp at hl0
  have hl2 : a.length = b.length := by simp at hl0; omega
  refine zH hl0 ?_
  refine zl a.length (fun k vs s => vs = [.d (.int .i64 k)] ∧ (∃ T, s = σ ++ T) ∧ a.take k = b.take k) ⟨rfl, ⟨[], by simp⟩, by simp⟩ ?_
  rintro k vs s hk ⟨rfl, ⟨T, rfl⟩, htk⟩
  by_cases hlt : k < a.length
  · have hd : decide ((k : Int) < (a.length : Int)) = true := by simp; omega
    have hx : a[k]? = some a[k] := by simp [hlt]
    have hy : b[k]? = some (b[k]'(by omega)) := List.getElem?_eq_getElem _
    have hgx := zQ (f := zeV) hx
    have hgy := zQ (f := zeV) hy
    have hxs := ha2 _ (List.getElem_mem hlt)
    have hys := hb2 _ (List.getElem_mem (show k < b.length by omega))
    obtain ⟨x, hxe⟩ : ∃ x, a[k] = x := ⟨_, rfl⟩
    obtain ⟨y, hye⟩ : ∃ y, (b[k]'(by omega)) = y := ⟨_, rfl⟩
    rw [hxe] at hx hgx hxs
    rw [hye] at hy hgy hys
    obtain ⟨S, hS⟩ : ∃ S, σ ++ T = S := ⟨_, rfl⟩
    rw [hS]
    refine zjk (zi hd (zi hgx hgy)) ?_
    refine c_mSamePrep (a := x) (b := y) hxs hys ?_
    cases he : decide (x = y)
    · refine zH hd ?_
      rw [← hS, List.append_assoc]
      refine zq hl ?_
      refine fin _ (decide_eq_false fun h => ?_)
      subst h
      rw [hx] at hy
      have := Option.some.inj hy
      simp [this] at he
    · refine zH (wk1 k (by omega)) ?_
      exact zaG.next hlt ⟨rfl, ⟨_, by rw [← hS, List.append_assoc]⟩, zbi hx hy htk (by simpa using he)⟩
  · have hd : decide ((k : Int) < (a.length : Int)) = false := by simp; omega
    refine zH hd ?_
    refine zq hl ?_
    exact fin _ (decide_eq_true (zca hl2 (k := k) (by omega) htk))
theorem zwp {σ : List zf} {a b : zaa} (ha : zjd a) (hb : zjd b) {K : KT} (hK : K (.d (.bool (decide (a = b)))) σ) :
    zm Tryz.prog zdv [.agg [.d (.int .i64 a.view), .d (.int .i64 a.src), .d (.int .i64 a.cert.seq), .d (.int .i64 a.cert.dig), .d (.slice (zas a.cert.signs)), .d (.slice (zfI a.above)), .d (.int .i64 a.key), .d (.int .i64 a.dig)], .agg [.d (.int .i64 b.view), .d (.int .i64 b.src), .d (.int .i64 b.cert.seq), .d (.int .i64 b.cert.dig), .d (.slice (zas b.cert.signs)), .d (.slice (zfI b.above)), .d (.int .i64 b.key), .d (.int .i64 b.dig)]] σ K := by
  refine zc zhN.is rfl fun hl _ => zhN.goes ?_
  have fin : ∀ z, decide (a = b) = z → K (.d (.bool z)) σ := fun z h => h ▸ hK
  clear hK
  simp only [zhV, iN, bT, bF, eN]
  cases h1 : (a.view == b.view)
  · refine zH h1 ?_
    refine zq hl ?_
    exact fin _ (decide_eq_false fun h => by subst h; simp at h1)
  cases h2 : (a.src == b.src)
  · refine zH (zi h1 h2) ?_
    refine zq hl ?_
    exact fin _ (decide_eq_false fun h => by subst h; simp at h2)
  refine zH (zi h1 h2) ?_
  refine zox (a := a.cert) (b := b.cert) ha.signs ?_
  cases h3 : decide (a.cert = b.cert)
  · refine zao ?_
    refine zq hl ?_
    exact fin _ (decide_eq_false fun h => by subst h; simp at h3)
  refine zao ?_
  refine c_eqPreps ha.above ha.each hb.each ?_
  cases h4 : decide (a.above = b.above)
  · refine zao ?_
    refine zq hl ?_
    exact fin _ (decide_eq_false fun h => by subst h; simp at h4)
  cases h5 : (a.key == b.key && a.dig == b.dig)
  · refine zjk h5 ?_
    refine zq hl ?_
    exact fin _ (decide_eq_false fun h => by subst h; simp at h5)
  · refine zjk h5 ?_
    refine zq hl ?_
    exact fin _ (decide_eq_true (by cases a; cases b; simp_all))


theorem c_eqChanges {σ : List zf} {a b : List zaa} (ha1 : a.length ≤ 1073741824) (ha2 : ∀ x ∈ a, zjd x) (hb2 : ∀ x ∈ b, zjd x) {K : KT} (hK : K (.d (.bool (decide (a = b)))) σ) :
    zm Tryz.prog zar [.d (.slice (zaP a)), .d (.slice (zaP b)), .fn (.func zdv) [] []] σ K := by
  refine zc zaS.is rfl fun hl _ => zaS.goes ?_
  have fin : ∀ z, decide (a = b) = z → K (.d (.bool z)) σ := fun z h => h ▸ hK
  clear hK
  simp only [zaU, iN, bT, bF, eN]
  cases hl0 : ((a.length : Int) != (b.length : Int))
  rotate_left
  · refine zH hl0 ?_
    refine zq hl ?_
    refine fin _ (decide_eq_false fun h => ?_)
    rw [h] at hl0; simp at hl0
  have hl2 : a.length = b.length := by simp at hl0; omega
  refine zH hl0 ?_
  refine zl a.length (fun k vs s => vs = [.d (.int .i64 k)] ∧ (∃ T, s = σ ++ T) ∧ a.take k = b.take k) ⟨rfl, ⟨[], by simp⟩, by simp⟩ ?_
  rintro k vs s hk ⟨rfl, ⟨T, rfl⟩, htk⟩
  by_cases hlt : k < a.length
  · have hd : decide ((k : Int) < (a.length : Int)) = true := by simp; omega
    have hx : a[k]? = some a[k] := by simp [hlt]
    have hy : b[k]? = some (b[k]'(by omega)) := List.getElem?_eq_getElem _
    have hgx := zQ (f := zbm) hx
    have hgy := zQ (f := zbm) hy
    have hxs := ha2 _ (List.getElem_mem hlt)
    have hys := hb2 _ (List.getElem_mem (show k < b.length by omega))
    obtain ⟨x, hxe⟩ : ∃ x, a[k] = x := ⟨_, rfl⟩
    obtain ⟨y, hye⟩ : ∃ y, (b[k]'(by omega)) = y := ⟨_, rfl⟩
    rw [hxe] at hx hgx hxs
    rw [hye] at hy hgy hys
    obtain ⟨S, hS⟩ : ∃ S, σ ++ T = S := ⟨_, rfl⟩
    rw [hS]
    refine zjk (zi hd (zi hgx hgy)) ?_
    refine zwp (a := x) (b := y) hxs hys ?_
    cases he : decide (x = y)
    · refine zH hd ?_
      rw [← hS, List.append_assoc]
      refine zq hl ?_
      refine fin _ (decide_eq_false fun h => ?_)
      subst h
      rw [hx] at hy
      have := Option.some.inj hy
      simp [this] at he
    · refine zH (wk1 k (by omega)) ?_
      exact zaG.next hlt ⟨rfl, ⟨_, by rw [← hS, List.append_assoc]⟩, zbi hx hy htk (by simpa using he)⟩
  · have hd : decide ((k : Int) < (a.length : Int)) = false := by simp; omega
    refine zH hd ?_
    refine zq hl ?_
    exact fin _ (decide_eq_true (zca hl2 (k := k) (by omega) htk))
theorem c_mSameEntry {σ : List zf} {a b : ziN} (ha : zsa a) (hb : zsa b) {K : KT} (hK : K (.d (.bool (decide (a = b)))) σ) :
    zm Tryz.prog zdM [entryA a, entryA b] σ K := by
  refine zc ziF.is rfl fun hl _ => ziF.goes ?_
  have fin : ∀ z, decide (a = b) = z → K (.d (.bool z)) σ := fun z h => h ▸ hK
  clear hK
  simp only [ziT, iN, bT, bF, eN]
  cases h1 : (a.view == b.view)
  · refine zH h1 ?_
    refine zq hl ?_
    exact fin _ (decide_eq_false fun h => by subst h; simp at h1)
  cases h2 : (a.seq == b.seq)
  · refine zH (zi h1 h2) ?_
    refine zq hl ?_
    exact fin _ (decide_eq_false fun h => by subst h; simp at h2)
  refine zH (zi h1 h2) ?_
  refine ztg ha hb ?_
  cases h3 : decide (a.batch = b.batch)
  · refine zao ?_
    refine zq hl ?_
    exact fin _ (decide_eq_false fun h => by subst h; simp at h3)
  cases h5 : (a.key == b.key && a.dig == b.dig)
  · refine zjk h5 ?_
    refine zq hl ?_
    exact fin _ (decide_eq_false fun h => by subst h; simp at h5)
  · refine zjk h5 ?_
    refine zq hl ?_
    exact fin _ (decide_eq_true (by cases a; cases b; simp_all))


theorem c_eqEntries {σ : List zf} {a b : List ziN} (ha1 : a.length ≤ 1073741824) (ha2 : ∀ x ∈ a, zsa x) (hb2 : ∀ x ∈ b, zsa x) {K : KT} (hK : K (.d (.bool (decide (a = b)))) σ) :
    zm Tryz.prog zaw [.d (.slice (zfV a)), .d (.slice (zfV b)), .fn (.func zdM) [] []] σ K := by
  refine zc zba.is rfl fun hl _ => zba.goes ?_
  have fin : ∀ z, decide (a = b) = z → K (.d (.bool z)) σ := fun z h => h ▸ hK
  clear hK
  simp only [zbb, iN, bT, bF, eN]
  cases hl0 : ((a.length : Int) != (b.length : Int))
  rotate_left
  · refine zH hl0 ?_
    refine zq hl ?_
    refine fin _ (decide_eq_false fun h => ?_)
    rw [h] at hl0; simp at hl0
  have hl2 : a.length = b.length := by simp at hl0; omega
  refine zH hl0 ?_
  refine zl a.length (fun k vs s => vs = [.d (.int .i64 k)] ∧ (∃ T, s = σ ++ T) ∧ a.take k = b.take k) ⟨rfl, ⟨[], by simp⟩, by simp⟩ ?_
  rintro k vs s hk ⟨rfl, ⟨T, rfl⟩, htk⟩
  by_cases hlt : k < a.length
  · have hd : decide ((k : Int) < (a.length : Int)) = true := by simp; omega
    have hx : a[k]? = some a[k] := by simp [hlt]
    have hy : b[k]? = some (b[k]'(by omega)) := List.getElem?_eq_getElem _
    have hgx := zQ (f := zhJ) hx
    have hgy := zQ (f := zhJ) hy
    have hxs := ha2 _ (List.getElem_mem hlt)
    have hys := hb2 _ (List.getElem_mem (show k < b.length by omega))
    obtain ⟨x, hxe⟩ : ∃ x, a[k] = x := ⟨_, rfl⟩
    obtain ⟨y, hye⟩ : ∃ y, (b[k]'(by omega)) = y := ⟨_, rfl⟩
    rw [hxe] at hx hgx hxs
    rw [hye] at hy hgy hys
    obtain ⟨S, hS⟩ : ∃ S, σ ++ T = S := ⟨_, rfl⟩
    rw [hS]
    refine zjk (zi hd (zi hgx hgy)) ?_
    refine c_mSameEntry (a := x) (b := y) hxs hys ?_
    cases he : decide (x = y)
    · refine zH hd ?_
      rw [← hS, List.append_assoc]
      refine zq hl ?_
      refine fin _ (decide_eq_false fun h => ?_)
      subst h
      rw [hx] at hy
      have := Option.some.inj hy
      simp [this] at he
    · refine zH (wk1 k (by omega)) ?_
      exact zaG.next hlt ⟨rfl, ⟨_, by rw [← hS, List.append_assoc]⟩, zbi hx hy htk (by simpa using he)⟩
  · have hd : decide ((k : Int) < (a.length : Int)) = false := by simp; omega
    refine zH hd ?_
    refine zq hl ?_
    exact fin _ (decide_eq_true (zca hl2 (k := k) (by omega) htk))

end Go.Proofs.YtpgahkdjkanblaaGreat
