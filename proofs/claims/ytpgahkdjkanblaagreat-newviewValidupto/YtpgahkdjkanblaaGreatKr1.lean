/- Contracts: which view-changes and new views may be, the document's. -/
import Derived.Test.YtpgahkdjkanblaaGreatCk2
import Derived.Test.YtpgahkdjkanblaaGreatSpMsg
import Derived.Test.YtpgahkdjkanblaaGreatRc2
import Derived.Test.YtpgahkdjkanblaaGreatSpPut
import Derived.Test.YtpgahkdjkanblaaGreatRq1
import Derived.Test.YtpgahkdjkanblaaGreatCodec1
set_option linter.all false
set_option maxRecDepth 100000
set_option linter.unusedSimpArgs false
set_option linter.unusedVariables false
namespace Go.Proofs.YtpgahkdjkanblaaGreat
open Go.AW

theorem zsy (l r : List Int) : zbj (zbj l :: r) = zbj (l ++ r) := by
  rw [zif]; rfl
theorem fst_flat {α : Type} {f : α → List Int} {l : List α} {k : Nat} {x : α} (h : l[k]? = some x) (h0 : ∀ y ∈ l.take k, zbj (f y) = 0) (hx : zbj (f x) ≠ 0) (r : List Int) : zbj ((l.map f).flatten ++ r) = zbj (f x) := by
  have e : l = l.take k ++ x :: l.drop (k + 1) := by
    obtain ⟨hk, rfl⟩ := List.getElem?_eq_some_iff.1 h
    simp
  have z : ∀ m : List α, (∀ y ∈ m, zbj (f y) = 0) → zbj ((m.map f).flatten) = 0 := by
    intro m
    induction m with
    | nil => intro _; rfl
    | cons y m ih => intro h; simp only [List.map_cons, List.flatten_cons]; rw [zoY (h y (by simp))]; exact ih fun z hz => h z (by simp [hz])
  rw [e, List.map_append, List.flatten_append, List.append_assoc, zoY (z _ h0), List.map_cons, List.flatten_cons, List.append_assoc, fstE_appN hx]
theorem fst_flat0 {α : Type} {f : α → List Int} : ∀ {l : List α}, (∀ y ∈ l, zbj (f y) = 0) → zbj ((l.map f).flatten) = 0
  | [], _ => rfl
  | y :: l, h => by simp only [List.map_cons, List.flatten_cons]; rw [zoY (h y (by simp))]; exact fst_flat0 fun z hz => h z (by simp [hz])
theorem c_kBroker {σ : List zf} {n : Int} {K : KT} (hK : K (.d (.int .i64 (brkE n))) σ) : zm Tryz.prog zdI [.d (.int .i64 n)] σ K := by
  refine zc zrh.is rfl fun hl _ => zrh.goes ?_
  simp only [zrs, iN, bT, bF, eN]
  refine zao ?_
  refine c_kIn ?_
  refine zao ?_
  refine zq hl ?_
  exact hK
theorem c_kPrep {σ : List zf} {p : zbW} (hs : p.signs.length ≤ 1073741824) (hb : okB p.batch) {K : KT} (hK : K (.d (.int .i64 (zbj (zcY p)))) σ) :
    zm Tryz.prog zfr [.agg [.d (.int .i64 p.view), .d (.int .i64 p.seq), .d (.int .i64 p.dig), .d (.int .i64 p.fkey), .d (.int .i64 p.fdig), .d (.slice (zas p.signs)), .d (.slice (zbo p.batch))]] σ K := by
  refine zc ziB.is rfl fun hl _ => ziB.goes ?_
  simp only [ziP, iN, bT, bF, eN]
  refine zao ?_
  refine c_kNum ?_
  refine zao ?_
  refine c_kPos ?_
  refine zao ?_
  refine c_kPos ?_
  refine zao ?_
  refine zef ?_
  refine zao ?_
  refine c_kSigns hs ?_
  refine zao ?_
  refine zld hb ?_
  refine zao ?_
  refine zrO (l := [zjX p.view, zrC p.seq, zrC p.dig, zL p.fkey p.fdig, zbj (zbX p.signs), zy p.batch]) (by simp) ?_
  have e : zbj [zjX p.view, zrC p.seq, zrC p.dig, zL p.fkey p.fdig, zbj (zbX p.signs), zy p.batch] = zbj (zcY p) := by
    simp only [zcY, zsy, zbj]
    rw [← zsy]; rfl
  rw [e]
  refine zao ?_
  refine zq hl ?_
  exact hK
theorem c_kBody {σ : List zf} {c : zaa} (hc : okCh c) {K : KT} (hK : K (.d (.int .i64 (zbj (zdp c)))) σ) : zm Tryz.prog zir [.agg (zbV c)] σ K := by
  refine zc zmv.is rfl fun hl _ => zmv.goes ?_
  have fin : ∀ z, zbj (zdp c) = z → K (.d (.int .i64 z)) σ := fun z h => h ▸ hK
  clear hK
  have hpl : (zfI c.above).length = c.above.length := List.length_map ..
  have hal := hc.above
  simp only [zmP, iN, bT, bF, eN]
  refine zao ?_
  refine c_kPos ?_
  refine zao ?_
  refine c_kBroker ?_
  refine zao ?_
  refine c_kCert (c := c.cert) hc.signs ?_
  refine zao ?_
  refine zrO (l := [zrC c.view, brkE c.src, zbj (zck c.cert)]) (by simp) ?_
  have e : ∀ r, zbj (zrC c.view :: brkE c.src :: (zck c.cert ++ r)) = if zbj [zrC c.view, brkE c.src, zbj (zck c.cert)] ≠ 0 then zbj [zrC c.view, brkE c.src, zbj (zck c.cert)] else zbj r := by
    intro r
    rw [← zif]
    simp only [List.cons_append, List.nil_append, zbj]
    rw [zif]
  cases h1 : (zbj [zrC c.view, brkE c.src, zbj (zck c.cert)] != 0)
  rotate_left
  · refine zH h1 ?_
    refine zq hl ?_
    exact fin _ (by rw [zdp, e, if_pos (by simpa using h1)])
  have e1 : zbj (zdp c) = zbj (inE c.above.length 0 8 :: (c.above.map zcY).flatten) := by rw [zdp, e, if_neg (by simpa using h1)]
  by_cases h2 : c.above.length > 8
  · have h2' : decide ((c.above.length : Int) > 8) = true := by simp; omega
    refine zH (zi h1 (zi hpl h2')) ?_
    refine zq hl ?_
    exact fin _ (by rw [e1, inE, if_pos (by omega)]; rfl)
  have h2' : decide ((c.above.length : Int) > 8) = false := by simp; omega
  have e2 : zbj (zdp c) = zbj ((c.above.map zcY).flatten) := by rw [e1, inE, if_neg (by omega)]; rfl
  refine zH (zi h1 (zi hpl h2')) ?_
  refine zl c.above.length (fun k vs s => vs = [.d (.int .i64 k)] ∧ s = σ ++ [.box (zbV c)] ∧ ∀ p ∈ c.above.take k, zbj (zcY p) = 0) ⟨rfl, rfl, by simp⟩ ?_
  rintro k vs s hk ⟨rfl, rfl, h0⟩
  by_cases hlt : k < c.above.length
  · have hd : decide ((k : Int) < (c.above.length : Int)) = true := by simp; omega
    have hx : c.above[k]? = some c.above[k] := by simp [hlt]
    have hpx := hc.each _ (List.getElem_mem hlt)
    have hgx := zQ (f := zeV) hx
    obtain ⟨p, hp⟩ : ∃ p, c.above[k] = p := ⟨_, rfl⟩
    rw [hp] at hx hgx hpx
    refine zjk (zi hd (zi hgx hpl)) ?_
    refine c_kPrep (p := p) hpx.1 hpx.2 ?_
    cases h3 : (zbj (zcY p) != 0)
    · refine zH (zi h3 (wkc k (by omega))) ?_
      refine zaG.next hlt ⟨rfl, rfl, ?_⟩
      intro q hq
      rw [List.take_add_one, hx] at hq
      simp at hq
      rcases hq with hq | rfl
      · exact h0 q hq
      · simpa using h3
    · refine zH h3 ?_
      refine zq hl ?_
      refine fin _ ?_
      have := fst_flat hx h0 (by simpa using h3) []
      rw [List.append_nil] at this
      rw [e2, this]
  · have hd : decide ((k : Int) < (c.above.length : Int)) = false := by simp; omega
    rw [List.take_of_length_le (by omega)] at h0
    refine zH (zi hd hpl) ?_
    refine zq hl ?_
    exact fin _ (by rw [e2, fst_flat0 h0])
theorem c_kChange {σ : List zf} {c : zaa} (hc : okCh c) {K : KT} (hK : K (.d (.int .i64 (zbj (zbT c)))) σ) : zm Tryz.prog zgI [.agg (zbV c)] σ K := by
  refine zc zki.is rfl fun hl _ => zki.goes ?_
  simp only [zkx, iN, bT, bF, eN]
  refine zao ?_
  refine c_kBody (c := c) hc ?_
  refine zao ?_
  refine zef ?_
  refine zao ?_
  refine zrO (l := [zbj (zdp c), zL c.key c.dig]) (by simp) ?_
  rw [zsy]
  refine zao ?_
  refine zq hl ?_
  exact hK
end Go.Proofs.YtpgahkdjkanblaaGreat

/- Contracts: batches that are the same, the program's. -/
set_option maxRecDepth 100000
set_option linter.unusedSimpArgs false
set_option linter.unusedVariables false
namespace Go.Proofs.YtpgahkdjkanblaaGreat
open Go.AW

theorem gq50 {A P Q : Prop} (a : A) (h : Q) (e : A → Hd Q → P := by intro a h; (repeat' first | simp -dsimp only [↓zey, ↓zay, ↓zbs, ↓zez, ↓zeu, ↓zes, ↓zev, ↓zet, ↓zbx, ↓zbt, ↓zby, ↓zbu, ↓zew, ↓zbr, ↓zbz, ↓zbv, ↓zbA, ↓zbw, ↓zer, ↓zex, ↓zbp, ↓zbB, ↓zep, ↓zeo, ↓zeq, iN, bT, bF, eN, ↓zcv, ↓unC, ↓zU, ↓zI, ↓zJ, ↓zM, ↓zX, ↓zal, ↓zcX, ↓zai, ↓zaJ, ↓zW, ↓zg, ↓zn, ↓zbP, ↓zb, ↓zaf, ↓zD, ↓zaI, ↓zaQ, ↓zd, ↓zF, ↓zj, ↓zG, ↓zam, ↓zdc, ↓zdj, ↓zak, ↓zau, ↓zaL, ↓zaY, ↓zbh, ↓zo, ↓zaj, ↓zK, ↓zr, ↓zV, zdk, zbn, zbk, unA, zdu, bnd, zdG, zae, zO, zdW, dm, dm1, zR, zaF, zea, zdZ, zw, Q0, Q1, Q2, Q3, Q4, Q5, zY, zC, zt, zN, zE, Q6, Q7, Q8, Q9, Q10, Q11, Q12, Q13, Q14, Nat.reduceAdd, Q15, Int.reduceToNat, Q16, Q17, Q18, Q19, Q20, reduceIte, Q21, Q22, zA, rep, zZ, zeB, toD, zap, Q23, Q24, Q25, Q26, Q27, Q28, Nat.reduceLeDiff, Q29, Nat.reduceSub, Q30, Q31, Q32, sc, Q33, Q34, Q35, Q36, Q37, Q26, Q38, Q39, zpZ, zpW, zpT, zqa, zgd, zpX, zpU, zpY, zpV, zgc, zge, zqb, zqc, Bool.not_true, Bool.not_false, List.length_map, Bool.and_false, Bool.and_self, Bool.false_and, Bool.true_and, Option.isSome_none, Option.isSome_some, Option.map_none, Option.map_some, beq_self_eq_true, bne_self_eq_false, zbm, zhJ, zcU, opA, zeV, zeS, zfG, zaM, a] | with_reducible refine zqd ?_ | fail); exact h.go) : P := e a ⟨h⟩
theorem c_Same1 {σ : List zf} {a b : zu} (ha : a.op.recs.length ≤ 1073741824) (hb : b.op.recs.length ≤ 1073741824) {K : KT} (hK : K (.d (.bool (decide (a = b)))) σ) : zm Tryz.prog zfj [zfG a, zfG b] σ K := by
  refine zc zli.is rfl fun hl _ => zli.goes ?_
  have e : a = b ↔ a.key = b.key ∧ a.dig = b.dig ∧ a.client = b.client ∧ a.time = b.time ∧ a.op = b.op := by cases a; cases b; simp; constructor <;> (intro h; simp_all)
  have fin : ∀ z, decide (a = b) = z → K (.d (.bool z)) σ := fun z h => h ▸ hK
  clear hK
  simp only [zlA, iN, bT, bF, eN, zfG]
  cases h1 : (a.key == b.key)
  · refine gq50 h1 ?_
    refine zq hl ?_
    refine fin _ (decide_eq_false fun h => ?_)
    have := (e.1 h).1; simp [this] at h1
  cases h2 : (a.dig == b.dig)
  · refine gq50 (zi h1 h2) ?_
    refine zq hl ?_
    refine fin _ (decide_eq_false fun h => ?_)
    have := (e.1 h).2.1; simp [this] at h2
  cases h3 : (a.client == b.client)
  · refine gq50 (zi h1 (zi h2 h3)) ?_
    refine zq hl ?_
    refine fin _ (decide_eq_false fun h => ?_)
    have := (e.1 h).2.2.1; simp [this] at h3
  cases h4 : (a.time == b.time)
  · refine gq50 (zi h1 (zi h2 (zi h3 h4))) ?_
    refine zq hl ?_
    refine fin _ (decide_eq_false fun h => ?_)
    have := (e.1 h).2.2.2.1; simp [this] at h4
  refine gq50 (zi h1 (zi h2 (zi h3 h4))) ?_
  refine c_Same (a := a.op) (b := b.op) ha hb ?_
  refine zao ?_
  refine zq hl ?_
  refine fin _ ?_
  rw [Bool.eq_iff_iff, decide_eq_true_eq, decide_eq_true_eq, e]
  simp only [beq_iff_eq] at h1 h2 h3 h4
  simp [h1, h2, h3, h4]
theorem zpt {σ : List zf} {a b : List zu} (ha : zhF a) (hb : zhF b) {K : KT} (hK : K (.d (.bool (decide (a = b)))) σ) :
    zm Tryz.prog zav [.d (.slice (zbo a)), .d (.slice (zbo b)), .fn (.func zfj) [] []] σ K := by
  refine zc zaW.is rfl fun hl _ => zaW.goes ?_
  have fin : ∀ z, decide (a = b) = z → K (.d (.bool z)) σ := fun z h => h ▸ hK
  clear hK
  obtain ⟨ha1, ha2⟩ := ha
  obtain ⟨hb1, hb2⟩ := hb
  simp only [zaX, iN, bT, bF, eN]
  cases hl0 : ((a.length : Int) != (b.length : Int))
  rotate_left
  · refine zH hl0 ?_
    refine zq hl ?_
    refine fin _ (decide_eq_false fun h => ?_)
    rw [h] at hl0; simp at hl0
  have hl2 : a.length = b.length := by simp at hl0; omega
  refine zH hl0 ?_
  refine zl a.length (fun k vs s => vs = [.d (.int .i64 k)] ∧ (∃ T, s = σ ++ T) ∧ a.take k = b.take k) ⟨rfl, ⟨[], by simp⟩, by simp⟩ ?_
  rintro k vs s hk ⟨rfl, ⟨T, rfl⟩, htk⟩
  by_cases hlt : k < a.length
  · have hd : decide ((k : Int) < (a.length : Int)) = true := by simp; omega
    have hx : a[k]? = some a[k] := by simp [hlt]
    have hy : b[k]? = some (b[k]'(by omega)) := List.getElem?_eq_getElem _
    have hgx := zQ (f := zaM) hx
    have hgy := zQ (f := zaM) hy
    have hxs := (ha2 _ (List.getElem_mem hlt)).1
    have hys := (hb2 _ (List.getElem_mem (show k < b.length by omega))).1
    obtain ⟨x, hxe⟩ : ∃ x, a[k] = x := ⟨_, rfl⟩
    obtain ⟨y, hye⟩ : ∃ y, (b[k]'(by omega)) = y := ⟨_, rfl⟩
    rw [hxe] at hx hgx hxs
    rw [hye] at hy hgy hys
    obtain ⟨S, hS⟩ : ∃ S, σ ++ T = S := ⟨_, rfl⟩
    rw [hS]
    refine znj (zi hd (zi hgx hgy)) ?_
    refine c_Same1 (a := x) (b := y) hxs hys ?_
    cases he : decide (x = y)
    · refine zH hd ?_
      rw [← hS, List.append_assoc]
      refine zq hl ?_
      refine fin _ (decide_eq_false fun h => ?_)
      subst h
      rw [hx] at hy
      have := Option.some.inj hy
      simp [this] at he
    · refine zH (wk1 k (by omega)) ?_
      exact zaG.next hlt ⟨rfl, ⟨_, by rw [← hS, List.append_assoc]⟩, zbi hx hy htk (by simpa using he)⟩
  · have hd : decide ((k : Int) < (a.length : Int)) = false := by simp; omega
    refine zH hd ?_
    refine zq hl ?_
    exact fin _ (decide_eq_true (zca hl2 (k := k) (by omega) htk))
theorem ztg {σ : List zf} {a b : List zu} (ha : zhF a) (hb : zhF b) {K : KT} (hK : K (.d (.bool (decide (a = b)))) σ) : zm Tryz.prog zfa [.d (.slice (zbo a)), .d (.slice (zbo b))] σ K := by
  refine zc znz.is rfl fun hl _ => znz.goes ?_
  simp only [znN, iN, bT, bF, eN]
  refine zao ?_
  refine zpt ha hb ?_
  refine zao ?_
  refine zq hl ?_
  exact hK

end Go.Proofs.YtpgahkdjkanblaaGreat
