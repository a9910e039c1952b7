/- Contracts: votes, the document's. -/
import Derived.Test.YtdgcepphjnoalaaGreatSpPool
import Derived.Test.YtdgcepphjnoalaaGreatSpTab
import Derived.Test.YtdgcepphjnoalaaGreatSpDec
import Derived.Test.YtdgcepphjnoalaaGreatRq2
import Derived.Test.YtdgcepphjnoalaaGreatSm2
import Derived.Test.YtdgcepphjnoalaaGreatSh
import Derived.Test.YtdgcepphjnoalaaGreatAwEnd
set_option linter.all false
set_option maxRecDepth 100000
set_option linter.unusedSimpArgs false
set_option linter.unusedVariables false
namespace Go.Proofs.YtdgcepphjnoalaaGreat
open Go.AW

def sgnE (L : List (List UInt8)) (key : Int) (b : List UInt8) : Int := if zie L b = 0 then 6 else ziT key (zie L b)
def sgnS (L : List (List UInt8)) (key : Int) (b : List UInt8) : zS := if zie L b = 0 then ⟨0, 0⟩ else signR key (zie L b)
def sgnG (L : List (List UInt8)) (G : List zS) (key : Int) (b : List UInt8) : List zS := if zie L b = 0 then G else zje G key (zie L b)
end Go.Proofs.YtdgcepphjnoalaaGreat

/- What a new view goes on with. No program in sight. -/
set_option linter.unusedSimpArgs false
namespace Go.AW

def zqg (f : Int) : Int := if f < 1 ∨ f > 4 then 120 else 0
def zlc (n f : Int) : Int := if f < 1 ∨ f > 4 then 0 else n * f + 1
end Go.AW

/- Certificates: whether they are valid. No program in sight. -/
set_option linter.unusedSimpArgs false
set_option linter.unusedVariables false
namespace Go.Proofs.YtdgcepphjnoalaaGreat
open Go.AW

abbrev prepA (p : zjy) : AV := .agg [.d (.int .i64 p.view), .d (.int .i64 p.seq), .d (.int .i64 p.dig), .d (.int .i64 p.fkey), .d (.int .i64 p.fdig), .d (.slice (zbQ p.signs)), .d (.slice (zcR p.batch))]

structure TGi where
  id : Nat
  m : Nat
  t : Nat
  id2 : Nat
  m2 : Nat
  t2 : Nat
structure TG (i : TGi) (σ : List zc) (L : List (List UInt8)) (G : List zS) : Prop where
  tab : zdT σ i.id i.m i.t L
  led : zdp σ i.id2 i.m2 i.t2 G
  n1 : i.id ≠ i.id2
  n2 : i.m ≠ i.m2
def zfP (i : TGi) (σ : List zc) (L : List (List UInt8)) (G : List zS) : List zc := putLed (putTab σ i.id i.m i.t L) i.id2 i.m2 i.t2 G
theorem TG.app {i : TGi} {σ : List zc} {L : List (List UInt8)} {G : List zS} (h : TG i σ L G) (τ : List zc) : TG i (σ ++ τ) L G := ⟨h.tab.app τ, h.led.app τ, h.n1, h.n2⟩
theorem TG.put {i : TGi} {σ : List zc} {L : List (List UInt8)} {G : List zS} (h : TG i σ L G) (L' : List (List UInt8)) (G' : List zS) : TG i (zfP i σ L' G') L' G' :=
  ⟨(h.tab.put L').putLed (zdp.putTab h.tab h.led h.n1 h.n2 L') h.n1 h.n2 G', (zdp.putTab h.tab h.led h.n1 h.n2 L').put G', h.n1, h.n2⟩
theorem TG.put_app {i : TGi} {σ : List zc} {L : List (List UInt8)} {G : List zS} (h : TG i σ L G) (L' : List (List UInt8)) (G' : List zS) (τ : List zc) : zfP i (σ ++ τ) L' G' = zfP i σ L' G' ++ τ := by
  unfold zfP
  rw [zma h.tab, zmb (zdp.putTab h.tab h.led h.n1 h.n2 L')]
theorem zlj (i : TGi) (σ : List zc) (L : List (List UInt8)) (G : List zS) : (zfP i σ L G).length = σ.length := by simp [zfP, putTab, putLed]
theorem TG.self {i : TGi} {σ : List zc} {L : List (List UInt8)} {G : List zS} (h : TG i σ L G) : zfP i σ L G = σ := by
  unfold zfP; rw [h.tab.self, h.led.self]
theorem TG.lows {i : TGi} {σ : List zc} {L : List (List UInt8)} {G : List zS} (h : TG i σ L G) (hl : zfz σ.length σ) (L' : List (List UInt8)) (G' : List zS) : zfz σ.length (zfP i σ L' G') := by
  have h1 := h.tab.lows hl L'
  have h2 := (zdp.putTab h.tab h.led h.n1 h.n2 L').lows (by rw [zjM]; exact h1) G'
  rw [zjM] at h2
  exact h2
theorem put_tab_led {i : TGi} {σ : List zc} {L L' : List (List UInt8)} {G : List zS} (h : TG i σ L G) : putTab σ i.id i.m i.t L' = zfP i σ L' G := by
  unfold zfP
  rw [(zdp.putTab h.tab h.led h.n1 h.n2 L').self]
theorem put_led_tab {i : TGi} {σ : List zc} {L : List (List UInt8)} {G G' : List zS} (h : TG i σ L G) : putLed σ i.id2 i.m2 i.t2 G' = zfP i σ L G' := by
  unfold zfP
  rw [h.tab.self]
theorem TG.ne {i : TGi} {σ : List zc} {L : List (List UInt8)} {G : List zS} (h : TG i σ L G) : [i.id, i.m, i.t, i.id2, i.m2, i.t2].Nodup := by
  obtain ⟨a1, a2, a3⟩ := h.tab.ne
  obtain ⟨b1, b2, b3⟩ := h.led.ne
  obtain ⟨⟨c1, c2⟩, ⟨d1, d2⟩, ⟨e1, e2, e3⟩⟩ := apart2 h.tab h.led h.n1 h.n2
  have := h.n1
  have := h.n2
  simp
  exact ⟨⟨a1, a2, ‹_›, c1, c2⟩, ⟨a3, d1, ‹_›, d2⟩, ⟨e1, e2, e3⟩, ⟨b1, b2⟩, b3⟩
theorem TG.other {i : TGi} {σ : List zc} {k : Nat} (hk : k ≠ i.id ∧ k ≠ i.m ∧ k ≠ i.t ∧ k ≠ i.id2 ∧ k ≠ i.m2 ∧ k ≠ i.t2) (L : List (List UInt8)) (G : List zS) : (zfP i σ L G)[k]? = σ[k]? := by
  obtain ⟨h1, h2, h3, h4, h5, h6⟩ := hk
  unfold zfP putTab putLed
  rw [List.getElem?_set_ne (Ne.symm h4), List.getElem?_set_ne (Ne.symm h6), List.getElem?_set_ne (Ne.symm h5), List.getElem?_set_ne (Ne.symm h2), List.getElem?_set_ne (Ne.symm h1), List.getElem?_set_ne (Ne.symm h3)]
theorem TG.put_put {i : TGi} {σ : List zc} {L : List (List UInt8)} {G : List zS} (h : TG i σ L G) (L1 L2 : List (List UInt8)) (G1 G2 : List zS) : zfP i (zfP i σ L1 G1) L2 G2 = zfP i σ L2 G2 := by
  have h1 := (h.put L1 G1).put L2 G2
  have h2 := h.put L2 G2
  apply List.ext_getElem?
  intro k
  by_cases e1 : k = i.id
  · subst e1; rw [h1.tab.box, h2.tab.box]
  by_cases e2 : k = i.m
  · subst e2; rw [h1.tab.map, h2.tab.map]
  by_cases e3 : k = i.t
  · subst e3; rw [h1.tab.tok, h2.tab.tok]
  by_cases e4 : k = i.id2
  · subst e4; rw [h1.led.box, h2.led.box]
  by_cases e5 : k = i.m2
  · subst e5; rw [h1.led.map, h2.led.map]
  by_cases e6 : k = i.t2
  · subst e6; rw [h1.led.tok, h2.led.tok]
  rw [TG.other ⟨e1, e2, e3, e4, e5, e6⟩, TG.other ⟨e1, e2, e3, e4, e5, e6⟩, TG.other ⟨e1, e2, e3, e4, e5, e6⟩]
/-! entries -/
structure LoopR where
  e : Int
  L : List (List UInt8)
  G : List zS
  out : List zhh
structure MakeR where
  m : zfc
  e : Int
  L : List (List UInt8)
  G : List zS

theorem c_auSign {i : TGi} {σ : List zc} {L : List (List UInt8)} {G : List zS} {key : Int} {b : List UInt8} (h : TG i σ L G) (hL : znL L) (hbl : b.length ≤ 1073741824) (hg : G.length ≤ 1073741824) {K : AV → List zc → Prop}
    (hK : K (.tup [signA (sgnS L key b), .d (.int .i64 (sgnE L key b))]) (zfP i σ (zgt L b) (sgnG L G key b))) :
    zl Tryz.prog zkD [.box i.id 0, .box i.id2 0, .d (.int .i64 key), .d (.slice (bcs b))] σ K := by
  refine acE4 e_auth_sign fun hl => ?_
  simp only [zoW, iN, bT, bF, eN]
  refine zaP ?_
  refine c_tSum (h.tab.app _) hbl hL.len ?_
  rw [zma h.tab, put_tab_led h]
  have h1 := h.put (zgt L b) G
  have hl1 := h.lows hl (zgt L b) G
  have hs1 := zlj i σ (zgt L b) G
  have hpp := h.put_put (zgt L b) (zgt L b) G (sgnG L G key b)
  obtain ⟨S1, hS1⟩ : ∃ S, zfP i σ (zgt L b) G = S := ⟨_, rfl⟩
  rw [hS1] at h1 hl1 hs1 hpp ⊢
  have r1 : σ.length = S1.length := hs1.symm
  rw [r1] at hl1
  by_cases hz : zie L b = 0
  · have hq : (zie L b == 0) = true := by simpa using hz
    simp only [sgnE, sgnS, sgnG, if_pos hz, signA, hS1] at hK
    refine zbi (zj hq r1) ?_
    refine zhc rfl ?_ hl1 hK
    simp [zhZ, dmT, dm, dm1, zdg, zda, zhz]
  · have hq : (zie L b == 0) = false := by simpa using hz
    rw [← hpp] at hK
    simp only [sgnE, sgnS, sgnG, if_neg hz] at hK
    refine zbi (zj hq r1) ?_
    refine c_gSign (h1.led.app _) hg ?_
    rw [zmb h1.led, put_led_tab h1]
    have h2 := h1.put (zgt L b) (zje G key (zie L b))
    have hl2 := h1.lows hl1 (zgt L b) (zje G key (zie L b))
    have hs2 := zlj i S1 (zgt L b) (zje G key (zie L b))
    obtain ⟨S2, hS2⟩ : ∃ S, zfP i S1 (zgt L b) (zje G key (zie L b)) = S := ⟨_, rfl⟩
    rw [hS2] at hK hs2 hl2 h2 ⊢
    have r3 : S1.length = S2.length := hs2.symm
    have r2 : σ.length = S2.length := r1.trans r3
    rw [r3] at hl2
    simp only [signA] at hK ⊢
    refine zbi (zj r2 r3) ?_
    refine zhc rfl ?_ hl2 hK
    simp [zhZ, dmT, dm, dm1, zdg, zda, zhz]

theorem gqc3 {A B : Prop} (a : A) (b : B) : A ∧ B := ⟨a, b⟩
theorem gq36 {A P Q : Prop} (a : A) (h : Q) (e : A → P = Q := by intro a; simp -dsimp only [↓zgn, ↓zaG, ↓zca, ↓zgo, ↓zgh, ↓zgf, ↓zgi, ↓zgg, ↓zcf, ↓zcb, ↓zcg, ↓zcc, ↓zgj, ↓zbW, ↓zch, ↓zcd, ↓zci, ↓zce, ↓zge, ↓zgl, ↓zbV, ↓zck, ↓zgb, ↓zga, ↓zgd, iN, bT, bF, eN, ↓zds, ↓unC, ↓zX, ↓zJ, ↓zK, ↓zM, ↓zal, ↓zaV, ↓zdU, ↓zay, ↓zbD, ↓zR, ↓zi, ↓zg, ↓zbr, ↓zd, ↓zan, ↓zO, ↓zbf, ↓zbg, ↓zf, ↓zB, ↓zn, ↓zD, ↓zZ, ↓zeb, ↓zes, ↓zaq, ↓zaC, ↓zbe, ↓zbl, ↓zbG, ↓zp, ↓zao, ↓zL, ↓zr, ↓zaj, zen, zbP, zbL, unA, zdF, bnd, zeV, zaf, zac, zeF, dm, dm1, zQ, zaz, zfy, zfx, zI, Q0, Q1, Q2, Q3, Q4, Q5, zam, zw, zu, zN, zG, Q6, Q7, Q8, Q9, Q10, Q11, Q12, Q13, Q14, Nat.reduceAdd, Q15, Int.reduceToNat, Q16, Q17, Q18, Q19, Q20, reduceIte, Q21, Q22, zC, rep, zV, zfi, toD, zad, Q23, Q24, Q25, Q26, Q27, Q28, Nat.reduceLeDiff, Q29, Nat.reduceSub, Q30, Q31, Q32, sc, Q33, Q34, Q35, a]; rfl) : P := (e a).mpr h
theorem c_quCheck {σ : List zc} {f : Int} {K : AV → List zc → Prop} (hK : K (.d (.int .i64 (zqg f))) σ) : zl Tryz.prog zfu [.d (.int .i64 f)] σ K := by
  refine zfT zpr fun hl => ?_
  simp only [zkq, iN, bT, bF, eN]
  cases h1 : decide (f < 1) <;> cases h2 : decide (f > 4)
  all_goals
    (refine gq36 (gqc3 h1 h2) ?_; try with_reducible exact True.intro)
    refine zap hl ?_
    simp only [decide_eq_true_eq, decide_eq_false_iff_not] at h1 h2
  · rw [zqg, if_neg (by omega)] at hK; exact hK
  all_goals (rw [zqg, if_pos (by omega)] at hK; exact hK)
theorem gq37 {P Q : Prop} (h : Q) (e : P = Q := by simp -dsimp only [↓zgn, ↓zaG, ↓zca, ↓zgo, ↓zgh, ↓zgf, ↓zgi, ↓zgg, ↓zcf, ↓zcb, ↓zcg, ↓zcc, ↓zgj, ↓zbW, ↓zch, ↓zcd, ↓zci, ↓zce, ↓zge, ↓zgl, ↓zbV, ↓zck, ↓zgb, ↓zga, ↓zgd, iN, bT, bF, eN, ↓zds, ↓unC, ↓zX, ↓zJ, ↓zK, ↓zM, ↓zal, ↓zaV, ↓zdU, ↓zay, ↓zbD, ↓zR, ↓zi, ↓zg, ↓zbr, ↓zd, ↓zan, ↓zO, ↓zbf, ↓zbg, ↓zf, ↓zB, ↓zn, ↓zD, ↓zZ, ↓zeb, ↓zes, ↓zaq, ↓zaC, ↓zbe, ↓zbl, ↓zbG, ↓zp, ↓zao, ↓zL, ↓zr, ↓zaj, zen, zbP, zbL, unA, zdF, bnd, zeV, zaf, zac, zeF, dm, dm1, zQ, zaz, zfy, zfx, zI, Q0, Q1, Q2, Q3, Q4, Q5, zam, zw, zu, zN, zG, Q6, Q7, Q8, Q9, Q10, Q11, Q12, Q13, Q14, Nat.reduceAdd, Q15, Int.reduceToNat, Q16, Q17, Q18, Q19, Q20, reduceIte, Q21, Q22, zC, rep, zV, zfi, toD, zad, Q23, Q24, Q25, Q26, Q27, Q28, Nat.reduceLeDiff, Q29, Nat.reduceSub, Q30, Q31, Q32, sc, Q33, Q34, Q35]; rfl) : P := e.mpr h
theorem c_times {σ : List zc} {n f : Int} (hn : 0 ≤ n ∧ n ≤ 3) {K : AV → List zc → Prop} (hK : K (.d (.int .i64 (zlc n f))) σ) : zl Tryz.prog zft [.d (.int .i64 n), .d (.int .i64 f)] σ K := by
  refine zjc zpp fun hl => ?_
  simp only [zko, iN, bT, bF, eN]
  (refine gq37 ?_; try with_reducible exact True.intro)
  refine c_quCheck ?_
  by_cases h : f < 1 ∨ f > 4
  · rw [zlc, if_pos h] at hK
    rw [zqg, if_pos h]
    (refine gq36 (show ((120 : Int) != 0) = true from rfl) ?_; try with_reducible exact True.intro)
    refine zap hl ?_
    exact hK
  · rw [zlc, if_neg h] at hK
    rw [zqg, if_neg h]
    have h1 : 0 ≤ n * f := Int.mul_nonneg hn.1 (by omega)
    have h2 : n * f ≤ 3 * 4 := Int.mul_le_mul hn.2 (by omega) (by omega) (by omega)
    have w1 : IntKind.i64.wrap (n * f) = n * f := zdf (by omega) (by omega)
    have w2 : IntKind.i64.wrap (n * f + 1) = n * f + 1 := zdf (by omega) (by omega)
    (refine gq36 (gqc3 (show ((0 : Int) != 0) = false from rfl) (gqc3 w1 w2)) ?_; try with_reducible exact True.intro)
    refine zap hl ?_
    exact hK
theorem c_quBrokers {σ : List zc} {f : Int} {K : AV → List zc → Prop} (hK : K (.d (.int .i64 (zlc 3 f))) σ) : zl Tryz.prog zfR [.d (.int .i64 f)] σ K := by
  refine zfT znv fun hl => ?_
  simp only [ziO, iN, bT, bF, eN]
  (refine gq37 ?_; try with_reducible exact True.intro)
  refine c_times (by omega) ?_
  (refine gq37 ?_; try with_reducible exact True.intro)
  refine zap hl ?_
  exact hK
end Go.Proofs.YtdgcepphjnoalaaGreat
