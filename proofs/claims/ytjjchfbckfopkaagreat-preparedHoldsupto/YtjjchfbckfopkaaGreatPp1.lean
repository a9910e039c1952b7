/- Certificates: whether they are valid. No program in sight. -/
import Derived.Test.YtjjchfbckfopkaaGreatId5
import Derived.Test.YtjjchfbckfopkaaGreatRq4
import Derived.Test.YtjjchfbckfopkaaGreatAu2
set_option linter.all false
set_option linter.unusedSimpArgs false
set_option linter.unusedVariables false
namespace Go.Proofs.YtjjchfbckfopkaaGreat
open Go.AW

def primF (f v : Int) : Int := if (f < 1 ∨ f > 4) ∨ v < 0 ∨ v > 9007199254740992 then -1 else v.tmod (3 * f + 1)
def votesF (L : List (List UInt8)) (G : List zP) (f lead view seq dig : Int) : Int → List zP → Bool
  | _, [] => true
  | last, s :: r => !(decide (s.key ≤ last)) && (!(decide (s.key ≥ zlv 3 f)) && (!(s.key == lead) && (zlu L G s s.key 3 view seq dig && votesF L G f lead view seq dig s.key r)))
def zlE (f : Int) (p : zw) : Bool := decide (zhS f = 0) && (!(decide (p.view < 0)) && (!(decide (p.view > 9007199254740992)) && (!(decide (p.seq < 1)) && !(decide (p.seq > 9007199254740992)))))
def prepH (L : List (List UInt8)) (G : List zP) (f : Int) (p : zw) : Bool :=
  zlu L G ⟨p.fkey, p.fdig⟩ (primF f p.view) 2 p.view p.seq p.dig && (((p.signs.length : Int) == 2 * f) && votesF L G f (primF f p.view) p.view p.seq p.dig (-1) p.signs)
def prepG (L : List (List UInt8)) (G : List zP) (f : Int) (p : zw) : Bool := match zeb L (zeZ p.batch) with
  | some i => (((i + 1 : Nat) : Int) == p.dig) && prepH L G f p
  | none => false
def zme (L : List (List UInt8)) (G : List zP) (f : Int) (p : zw) : Bool := zlE f p && (zhC L G p.batch && prepG L G f p)
theorem validB_check {L : List (List UInt8)} {G : List zP} {b : List zf} (h : zhC L G b = true) : zx b = 0 := by
  simp [zhC] at h; exact h.1
theorem prim_tmod {f v : Int} (h : ¬ (f < 1 ∨ f > 4)) (h0 : ¬ v < 0) (h1 : ¬ v > 9007199254740992) : 0 ≤ v.tmod (3 * f + 1) ∧ v.tmod (3 * f + 1) ≤ 12 := by
  have := Int.tmod_lt_of_pos v (b := 3 * f + 1) (by omega)
  have h2 := Int.tmod_nonneg (3 * f + 1) (show 0 ≤ v by omega)
  omega
abbrev zdZ (p : zw) : AV := .agg [.d (.int .i64 p.view), .d (.int .i64 p.seq), .d (.int .i64 p.dig), .d (.int .i64 p.fkey), .d (.int .i64 p.fdig), .d (.slice (zaB p.signs)), .d (.slice (zaM p.batch))]
theorem votes_drop {L : List (List UInt8)} {G : List zP} {f lead view seq dig last : Int} {l : List zP} {k : Nat} {s : zP} (h : l[k]? = some s) :
    votesF L G f lead view seq dig last (l.drop k) = (!(decide (s.key ≤ last)) && (!(decide (s.key ≥ zlv 3 f)) && (!(s.key == lead) && (zlu L G s s.key 3 view seq dig && votesF L G f lead view seq dig s.key (l.drop (k + 1)))))) := by
  have hk : k < l.length := (List.getElem?_eq_some_iff.1 h).1
  rw [List.drop_eq_getElem_cons hk, (List.getElem?_eq_some_iff.1 h).2]
  rfl

theorem c_quView {σ : List zb} {f v : Int} {K : AV → List zb → Prop} (hK : K (.d (.bool (!decide ((f < 1 ∨ f > 4) ∨ v < 0 ∨ v > 9007199254740992)))) σ) : zt Tryz.prog zgQ [.d (.int .i64 f), .d (.int .i64 v)] σ K := by
  refine zhh zpR fun hl => ?_
  simp only [zkB, iN, bT, bF, eN]
  refine gq1 ?_
  refine znE ?_
  by_cases h : f < 1 ∨ f > 4
  · rw [decide_eq_true (.inl h)] at hK
    rw [zhS, if_pos h]
    refine gq2 (show ((120 : Int) == 0) = false from rfl) ?_
    refine zam hl ?_
    exact hK
  · rw [zhS, if_neg h]
    cases h1 : decide (v ≥ 0)
    · rw [decide_eq_true (.inr (.inl (by simpa using h1)))] at hK
      refine gq2 (zj (show ((0 : Int) == 0) = true from rfl) h1) ?_
      refine zam hl ?_
      exact hK
    · have h0 : ¬ v < 0 := by simp at h1; omega
      refine gq2 (zj (show ((0 : Int) == 0) = true from rfl) h1) ?_
      refine zam hl ?_
      rw [show decide (v ≤ 9007199254740992) = !decide ((f < 1 ∨ f > 4) ∨ v < 0 ∨ v > 9007199254740992) by
        by_cases h2 : v ≤ 9007199254740992
        · rw [decide_eq_true h2, decide_eq_false (by omega)]; rfl
        · rw [decide_eq_false h2, decide_eq_true (by omega)]; rfl]
      exact hK
theorem c_quPrimary {σ : List zb} {f v : Int} {K : AV → List zb → Prop} (hK : K (.d (.int .i64 (primF f v))) σ) : zt Tryz.prog zeR [.d (.int .i64 f), .d (.int .i64 v)] σ K := by
  refine zhh zmj fun hl => ?_
  simp only [zhl, iN, bT, bF, eN]
  refine gq1 ?_
  refine c_quView ?_
  by_cases h : (f < 1 ∨ f > 4) ∨ v < 0 ∨ v > 9007199254740992
  · rw [primF, if_pos h] at hK
    rw [decide_eq_true h]
    refine gq1 ?_
    refine zam hl ?_
    exact hK
  · rw [primF, if_neg h] at hK
    rw [decide_eq_false h]
    have hf : ¬ (f < 1 ∨ f > 4) := fun e => h (.inl e)
    refine gq1 ?_
    refine znF ?_
    rw [zlv, if_neg hf]
    have := prim_tmod hf (fun e => h (.inr (.inl e))) (fun e => h (.inr (.inr e)))
    have hw : IntKind.i64.wrap (v.tmod (3 * f + 1)) = v.tmod (3 * f + 1) := zap (by omega) (by omega)
    have hz : (3 * f + 1 == 0) = false := by simp; omega
    refine gq2 (zj hw hz) ?_
    refine zam hl ?_
    exact hK

structure zdb (p : zw) : Prop where
  ops : ∀ x ∈ p.batch, zgo x.op ≤ 20971520
  batch : p.batch.length ≤ 1073741824
  signs : p.signs.length ≤ 1073741824

theorem gq40 {A P Q : Prop} (a : A) (h : Q) (e : A → Hd Q → P := by intro a h; (repeat' first | simp -dsimp only [↓zek, ↓zar, ↓zbg, ↓zel, ↓zef, ↓zed, ↓zeg, ↓zee, ↓zbl, ↓zbh, ↓zbm, ↓zbi, ↓zeh, ↓zbe, ↓zbn, ↓zbj, ↓zbo, ↓zbk, ↓zec, ↓zej, ↓zbd, ↓zbp, ↓zdW, ↓zdV, ↓zea, iN, bT, bF, eN, ↓zci, ↓unC, ↓zS, ↓zE, ↓zF, ↓zJ, ↓zZ, ↓zaD, ↓zcj, ↓zab, ↓zbr, ↓zU, ↓zl, ↓zo, ↓zbz, ↓zg, ↓zad, ↓zI, ↓zaz, ↓zaJ, ↓zc, ↓zB, ↓zn, ↓zq, ↓zaj, ↓zcB, ↓zcE, ↓zah, ↓zao, ↓zaA, ↓zaO, ↓zaT, ↓zm, ↓zae, ↓zG, ↓zp, ↓zY, zcD, zaV, zaU, unA, zcK, bnd, zcZ, zaa, zag, zdh, dm, dm1, zM, zau, zdy, zdx, zT, Q0, Q1, Q2, Q3, Q4, Q5, zR, zi, zk, zu, zy, Q6, Q7, Q8, Q9, Q10, Q11, Q12, Q13, Q14, Nat.reduceAdd, Q15, Int.reduceToNat, Q16, Q17, Q18, Q19, Q20, reduceIte, Q21, Q22, zA, rep, zV, zdX, toD, zaf, Q23, Q24, Q25, Q26, Q27, Q28, Nat.reduceLeDiff, Q29, Nat.reduceSub, Q30, Q31, Q32, sc, Q33, Q34, Q35, Q36, Q37, Q26, Q38, Q39, zjZ, zjW, zjT, zka, zdJ, zjX, zjU, zjY, zjV, zdI, zdK, zkf, zkg, Bool.not_true, Bool.not_false, List.length_map, Bool.and_false, Bool.and_self, Bool.false_and, Bool.not_false, Bool.not_true, Bool.true_and, Int.toNat_natCast, Int.toNat_zero, List.drop_zero, List.length_map, List.length_nil, List.nil_append, List.take_length, Nat.sub_zero, Nat.zero_add, Option.isSome_none, Option.isSome_some, Option.map_none, Option.map_some, zav, beq_self_eq_true, bne_self_eq_false, a] | with_reducible refine zkw ?_ | fail); exact h.go) : P := e a ⟨h⟩
theorem c_prValid {σ : List zb} {id m t id2 m2 t2 : Nat} {L : List (List UInt8)} {G : List zP} {f : Int} {p : zw} (hT : zde σ id m t L) (hG : zdg σ id2 m2 t2 G) (hL : TabI L) (hg : G.length ≤ 1073741824) (hp : zdb p)
    {K : AV → List zb → Prop} (hK : K (.d (.bool (zme L G f p))) σ) : zt Tryz.prog zdk [.box id 0, .box id2 0, .d (.int .i64 f), zdZ p] σ K := by
  refine acE4 zmm fun hl => ?_
  have fin : ∀ z, zme L G f p = z → K (.d (.bool z)) σ := fun z h => h ▸ hK
  clear hK
  simp only [zho, iN, bT, bF, eN, zdZ]
  refine gq1 ?_
  refine c_tClone (hT.app _) hL.nd hL.len hL.each ?_
  refine gq1 ?_
  refine c_gClone (hG.app _) hg fun g' => ?_
  refine gq1 ?_
  refine znE ?_
  by_cases h0 : f < 1 ∨ f > 4
  · rw [zhS, if_pos h0]
    refine gq2 (show ((120 : Int) != 0) = true from rfl) ?_
    refine zam hl ?_
    exact fin _ (by simp [zme, zlE, zhS, h0])
  have hc0 : zhS f = 0 := if_neg h0
  rw [hc0]
  cases h1 : decide (p.view < 0)
  rotate_left
  · refine gq2 (zj (show ((0 : Int) != 0) = false from rfl) h1) ?_
    refine zam hl ?_
    exact fin _ (by simp [zme, zlE, h1])
  cases h2 : decide (p.view > 9007199254740992)
  rotate_left
  · refine gq2 (zj (show ((0 : Int) != 0) = false from rfl) (zj h1 h2)) ?_
    refine zam hl ?_
    exact fin _ (by simp [zme, zlE, h2])
  cases h3 : decide (p.seq < 1)
  rotate_left
  · refine gq2 (zj (show ((0 : Int) != 0) = false from rfl) (zj h1 (zj h2 h3))) ?_
    refine zam hl ?_
    exact fin _ (by simp [zme, zlE, h3])
  cases h4 : decide (p.seq > 9007199254740992)
  rotate_left
  · refine gq2 (zj (show ((0 : Int) != 0) = false from rfl) (zj h1 (zj h2 (zj h3 h4)))) ?_
    refine zam hl ?_
    exact fin _ (by simp [zme, zlE, h4])
  have hok : zlE f p = true := by simp [zlE, hc0, h1, h2, h3, h4]
  have hpf : zme L G f p = (zhC L G p.batch && prepG L G f p) := by rw [zme, hok, Bool.true_and]
  refine gq2 (zj (show ((0 : Int) != 0) = false from rfl) (zj h1 (zj h2 (zj h3 h4)))) ?_
  refine zok (b := p.batch) (hT.app _) (hG.app _) hp.ops hp.batch ?_
  cases h5 : zhC L G p.batch
  · refine gq1 ?_
    refine zam hl ?_
    exact fin _ (by rw [hpf, h5]; rfl)
  rw [h5, Bool.true_and] at hpf
  have hcb := validB_check h5
  refine gq1 ?_
  refine c_PutBatch (b := []) (by simp) hp.ops hp.batch ?_
  rw [List.nil_append, show zbJ p.batch = zeZ p.batch from if_pos hcb]
  refine gq1 ?_
  refine zpX (hT.app _) ?_
  refine gq1 ?_
  refine c_quPrimary ?_
  cases h6 : zeb L (zeZ p.batch) with
  | none =>
    refine gq5 ?_
    refine zam hl ?_
    exact fin _ (by simp only [hpf, prepG, h6])
  | some i =>
    simp only [prepG, h6] at hpf
    simp only [numOf]
    cases h7 : (((i + 1 : Nat) : Int) == p.dig)
    · have h7' : (((i + 1 : Nat) : Int) != p.dig) = true := by simpa using h7
      refine gq40 h7' ?_
      refine zam hl ?_
      exact fin _ (by rw [hpf, h7]; rfl)
    have h7' : (((i + 1 : Nat) : Int) != p.dig) = false := by simpa using h7
    have h7e : ((i + 1 : Nat) : Int) = p.dig := by simpa using h7
    simp only [h7, Bool.true_and] at hpf
    rw [h7e] at h7' ⊢
    refine gq40 h7' ?_
    refine zkr (s := ⟨p.fkey, p.fdig⟩) (hT.app _) (hG.app _) hL hg ?_
    cases h8 : zlu L G ⟨p.fkey, p.fdig⟩ (primF f p.view) 2 p.view p.seq p.dig
    · refine gq1 ?_
      refine zam hl ?_
      exact fin _ (by rw [hpf, prepH, h8]; rfl)
    rw [prepH, h8, Bool.true_and] at hpf
    have hw2 : IntKind.i64.wrap (2 * f) = 2 * f := zap (by omega) (by omega)
    have hlen : (zaB p.signs).length = p.signs.length := List.length_map ..
    cases h9 : ((p.signs.length : Int) == 2 * f)
    · have h9' : ((p.signs.length : Int) != 2 * f) = true := by simpa using h9
      refine gq2 (zj hw2 (zj hlen h9')) ?_
      refine zam hl ?_
      exact fin _ (by rw [hpf, h9]; rfl)
    have h9' : ((p.signs.length : Int) != 2 * f) = false := by simpa using h9
    rw [h9, Bool.true_and] at hpf
    refine gq2 (zj hw2 (zj hlen h9')) ?_
    refine zC p.signs.length (fun k vs s => ∃ last : Int, vs = [.d (.int .i64 last), .d (.int .i64 k)] ∧ (∃ T, s = σ ++ (.box [.d (.int .i64 p.view), .d (.int .i64 p.seq), .d (.int .i64 p.dig), .d (.int .i64 p.fkey), .d (.int .i64 p.fdig), .d (.slice (zaB p.signs)), .d (.slice (zaM p.batch))] :: T)) ∧
      zme L G f p = votesF L G f (primF f p.view) p.view p.seq p.dig last (p.signs.drop k)) ⟨-1, rfl, ⟨_, rfl⟩, by simpa using hpf⟩ ?_
    rintro k vs s hk ⟨last, rfl, ⟨T, rfl⟩, hpf⟩
    by_cases hlt : k < p.signs.length
    · have hd : decide ((k : Int) < (p.signs.length : Int)) = true := by simp; omega
      have hx : p.signs[k]? = some p.signs[k] := by simp [hlt]
      have hgx := zax (f := zfn) hx
      obtain ⟨x, hxe⟩ : ∃ x, p.signs[k] = x := ⟨_, rfl⟩
      rw [hxe] at hx hgx
      have hsl := hp.signs
      rw [votes_drop hx] at hpf
      have hw : IntKind.i64.wrap ((k : Int) + 1) = ((k + 1 : Nat) : Int) := by rw [zap (by omega) (by omega)]; rfl
      cases g1 : decide (x.key ≤ last)
      rotate_left
      · refine gq8 (zj hd (zj hgx (zj hlen g1))) ?_
        refine zam hl ?_
        exact fin _ (by rw [hpf, g1]; rfl)
      refine gq8 (zj hd (zj hgx (zj hlen g1))) ?_
      refine znF ?_
      cases g2 : decide (x.key ≥ zlv 3 f)
      rotate_left
      · refine gq2 g2 ?_
        refine zam hl ?_
        exact fin _ (by rw [hpf, g1, g2]; rfl)
      cases g3 : (x.key == primF f p.view)
      rotate_left
      · refine gq2 (zj g2 g3) ?_
        refine zam hl ?_
        exact fin _ (by rw [hpf, g1, g2, g3]; rfl)
      rw [g1, g2, g3] at hpf
      simp only [Bool.not_false, Bool.true_and] at hpf
      refine gq2 (zj g2 g3) ?_
      refine zkr (s := x) (hT.app _) (hG.app _) hL hg ?_
      cases g4 : zlu L G x x.key 3 p.view p.seq p.dig
      · rw [g4] at hpf
        refine gq1 ?_
        refine zam hl ?_
        exact fin _ hpf
      · rw [g4, Bool.true_and] at hpf
        refine gq2 hw ?_
        exact zaQ.next hlt ⟨x.key, rfl, ⟨_, rfl⟩, hpf⟩
    · have hd : decide ((k : Int) < (p.signs.length : Int)) = false := by simp; omega
      rw [List.drop_eq_nil_of_le (by omega)] at hpf
      refine gq2 (zj hd hlen) ?_
      refine zam hl ?_
      exact fin _ hpf
end Go.Proofs.YtjjchfbckfopkaaGreat
