/- Contracts: votes, the document's. -/
import Derived.Test.YtpgahkdjkanblaaGreatRq5
import Derived.Test.YtpgahkdjkanblaaGreatSpTab
import Derived.Test.YtpgahkdjkanblaaGreatSpOp
import Derived.Test.YtpgahkdjkanblaaGreatQu1
set_option linter.all false
set_option maxRecDepth 100000
set_option linter.unusedSimpArgs false
set_option linter.unusedVariables false
namespace Go.Proofs.YtpgahkdjkanblaaGreat
open Go.AW

def sgnE (L : List (List UInt8)) (key : Int) (b : List UInt8) : Int := if znL L b = 0 then 6 else zhE key (znL L b)
def zsU (L : List (List UInt8)) (key : Int) (b : List UInt8) : zt := if znL L b = 0 then ⟨0, 0⟩ else signR key (znL L b)
def zoW (L : List (List UInt8)) (G : List zt) (key : Int) (b : List UInt8) : List zt := if znL L b = 0 then G else zid G key (znL L b)
def votE (L : List (List UInt8)) (key a b c d : Int) : Int := if mayV a b c d = true then sgnE L key (zoS a b c d) else 1
def votS (L : List (List UInt8)) (key a b c d : Int) : zt := if mayV a b c d = true then zsU L key (zoS a b c d) else ⟨0, 0⟩
def votL (L : List (List UInt8)) (a b c d : Int) : List (List UInt8) := if mayV a b c d = true then zib L (zoS a b c d) else L
def votG (L : List (List UInt8)) (G : List zt) (key a b c d : Int) : List zt := if mayV a b c d = true then zoW L G key (zoS a b c d) else G
end Go.Proofs.YtpgahkdjkanblaaGreat

/- Certificates: whether they are valid. No program in sight. -/
set_option linter.unusedSimpArgs false
set_option linter.unusedVariables false
namespace Go.Proofs.YtpgahkdjkanblaaGreat
open Go.AW

def zcA (f v : Int) : Int := if (f < 1 ∨ f > 4) ∨ v < 0 ∨ v > 9007199254740992 then -1 else v.tmod (3 * f + 1)
def zqR (L : List (List UInt8)) (G : List zt) (f lead view seq dig : Int) : Int → List zt → Bool
  | _, [] => true
  | last, s :: r => !(decide (s.key ≤ last)) && (!(decide (s.key ≥ zaB 3 f)) && (!(s.key == lead) && (zgJ L G s s.key 3 view seq dig && zqR L G f lead view seq dig s.key r)))
def zpa (f : Int) (p : zca) : Bool := decide (zci f = 0) && (!(decide (p.view < 0)) && (!(decide (p.view > 9007199254740992)) && (!(decide (p.seq < 1)) && !(decide (p.seq > 9007199254740992)))))
def prepH (L : List (List UInt8)) (G : List zt) (f : Int) (p : zca) : Bool :=
  zgJ L G ⟨p.fkey, p.fdig⟩ (zcA f p.view) 2 p.view p.seq p.dig && (((p.signs.length : Int) == 2 * f) && zqR L G f (zcA f p.view) p.view p.seq p.dig (-1) p.signs)
def prepG (L : List (List UInt8)) (G : List zt) (f : Int) (p : zca) : Bool := match zff L (zcP p.batch) with
  | some i => (((i + 1 : Nat) : Int) == p.dig) && prepH L G f p
  | none => false
def zmt (L : List (List UInt8)) (G : List zt) (f : Int) (p : zca) : Bool := zpa f p && (ziQ L G p.batch && prepG L G f p)
theorem validB_check {L : List (List UInt8)} {G : List zt} {b : List zu} (h : ziQ L G b = true) : zD b = 0 := by
  simp [ziQ] at h; exact h.1
theorem prim_tmod {f v : Int} (h : ¬ (f < 1 ∨ f > 4)) (h0 : ¬ v < 0) (h1 : ¬ v > 9007199254740992) : 0 ≤ v.tmod (3 * f + 1) ∧ v.tmod (3 * f + 1) ≤ 12 := by
  have := Int.tmod_lt_of_pos v (b := 3 * f + 1) (by omega)
  have h2 := Int.tmod_nonneg (3 * f + 1) (show 0 ≤ v by omega)
  omega
abbrev prepA (p : zca) : AV := .agg [.d (.int .i64 p.view), .d (.int .i64 p.seq), .d (.int .i64 p.dig), .d (.int .i64 p.fkey), .d (.int .i64 p.fdig), .d (.slice (zab p.signs)), .d (.slice (zbD p.batch))]
theorem votes_drop {L : List (List UInt8)} {G : List zt} {f lead view seq dig last : Int} {l : List zt} {k : Nat} {s : zt} (h : l[k]? = some s) :
    zqR L G f lead view seq dig last (l.drop k) = (!(decide (s.key ≤ last)) && (!(decide (s.key ≥ zaB 3 f)) && (!(s.key == lead) && (zgJ L G s s.key 3 view seq dig && zqR L G f lead view seq dig s.key (l.drop (k + 1)))))) := by
  have hk : k < l.length := (List.getElem?_eq_some_iff.1 h).1
  rw [List.drop_eq_getElem_cons hk, (List.getElem?_eq_some_iff.1 h).2]
  rfl
end Go.Proofs.YtpgahkdjkanblaaGreat

/- Contracts: whether a certificate is valid, the program's. -/
set_option maxRecDepth 100000
set_option linter.unusedSimpArgs false
set_option linter.unusedVariables false
namespace Go.Proofs.YtpgahkdjkanblaaGreat
open Go.AW

theorem c_quView {σ : List zd} {f v : Int} {K : KT} (hK : K (.d (.bool (!decide ((f < 1 ∨ f > 4) ∨ v < 0 ∨ v > 9007199254740992)))) σ) : zl Tryz.prog zlm [.d (.int .i64 f), .d (.int .i64 v)] σ K := by
  refine ze zpr.is rfl fun hl _ => zpr.goes ?_
  simp only [zpM, iN, bT, bF, eN]
  refine zaF ?_
  refine zjs ?_
  by_cases h : f < 1 ∨ f > 4
  · rw [decide_eq_true (.inl h)] at hK
    rw [zci, if_pos h]
    refine zeB (show ((120 : Int) == 0) = false from rfl) ?_
    refine zV hl ?_
    exact hK
  · rw [zci, if_neg h]
    cases h1 : decide (v ≥ 0)
    · rw [decide_eq_true (.inr (.inl (by simpa using h1)))] at hK
      refine zeB (zS (show ((0 : Int) == 0) = true from rfl) h1) ?_
      refine zV hl ?_
      exact hK
    · have h0 : ¬ v < 0 := by simp at h1; omega
      refine zeB (zS (show ((0 : Int) == 0) = true from rfl) h1) ?_
      refine zV hl ?_
      rw [show decide (v ≤ 9007199254740992) = !decide ((f < 1 ∨ f > 4) ∨ v < 0 ∨ v > 9007199254740992) by
        by_cases h2 : v ≤ 9007199254740992
        · rw [decide_eq_true h2, decide_eq_false (by omega)]; rfl
        · rw [decide_eq_false h2, decide_eq_true (by omega)]; rfl]
      exact hK
theorem zoF {σ : List zd} {f v : Int} {K : KT} (hK : K (.d (.int .i64 (zcA f v))) σ) : zl Tryz.prog zeK [.d (.int .i64 f), .d (.int .i64 v)] σ K := by
  refine ze zlS.is rfl fun hl _ => zlS.goes ?_
  simp only [zmi, iN, bT, bF, eN]
  refine zaF ?_
  refine c_quView ?_
  by_cases h : (f < 1 ∨ f > 4) ∨ v < 0 ∨ v > 9007199254740992
  · rw [zcA, if_pos h] at hK
    rw [decide_eq_true h]
    refine zaF ?_
    refine zV hl ?_
    exact hK
  · rw [zcA, if_neg h] at hK
    rw [decide_eq_false h]
    have hf : ¬ (f < 1 ∨ f > 4) := fun e => h (.inl e)
    refine zaF ?_
    refine zjt ?_
    rw [zaB, if_neg hf]
    have := prim_tmod hf (fun e => h (.inr (.inl e))) (fun e => h (.inr (.inr e)))
    have hw : IntKind.i64.wrap (v.tmod (3 * f + 1)) = v.tmod (3 * f + 1) := zbE (by omega) (by omega)
    have hz : (3 * f + 1 == 0) = false := by simp; omega
    refine zeB (zS hw hz) ?_
    refine zV hl ?_
    exact hK
end Go.Proofs.YtpgahkdjkanblaaGreat

/- Contracts: whether a certificate is valid, the program's. -/
set_option maxRecDepth 100000
set_option linter.unusedSimpArgs false
set_option linter.unusedVariables false
namespace Go.Proofs.YtpgahkdjkanblaaGreat
open Go.AW

structure smallP (p : zca) : Prop where
  ops : ∀ x ∈ p.batch, zmB x.op ≤ 20971520
  batch : p.batch.length ≤ 1073741824
  signs : p.signs.length ≤ 1073741824

theorem gq63 {A P Q : Prop} (a : A) (h : Q) (e : A → Hd Q → P := by intro a h; (repeat' first | simp -dsimp only [↓zfa, ↓zat, ↓zbt, ↓zfb, ↓zeW, ↓zeU, ↓zeX, ↓zeV, ↓zby, ↓zbu, ↓zbz, ↓zbv, ↓zeY, ↓zbs, ↓zbA, ↓zbw, ↓zbB, ↓zbx, ↓zeT, ↓zeZ, ↓zbr, ↓zbC, ↓zeQ, ↓zeP, ↓zeS, iN, bT, bF, eN, ↓zcO, ↓unC, ↓zP, ↓zG, ↓zH, ↓zK, ↓zW, ↓zaz, ↓zdn, ↓zau, ↓zbf, ↓zQ, ↓zg, ↓zf, ↓zbY, ↓zb, ↓zae, ↓zL, ↓zaN, ↓zaO, ↓zc, ↓zB, ↓zj, ↓zE, ↓zY, ↓zdz, ↓zdA, ↓zam, ↓zap, ↓zaK, ↓zaV, ↓zbj, ↓zm, ↓zai, ↓zJ, ↓zr, ↓zT, zdD, zbo, zbk, unA, zcZ, bnd, zdZ, zac, zR, zdT, dm, dm1, zI, zan, zeq, zep, zZ, Q0, Q1, Q2, Q3, Q4, Q5, zX, zn, zo, zF, zA, Q6, Q7, Q8, Q9, Q10, Q11, Q12, Q13, Q14, Nat.reduceAdd, Q15, Int.reduceToNat, Q16, Q17, Q18, Q19, Q20, reduceIte, Q21, Q22, zw, rep, zU, zeo, toD, zaa, Q23, Q24, Q25, Q26, Q27, Q28, Nat.reduceLeDiff, Q29, Nat.reduceSub, Q30, Q31, Q32, sc, Q33, Q34, Q35, Q36, Q37, Q26, Q38, Q39, zlJ, zlG, zlD, zlK, zeM, zlH, zlE, zlI, zlF, zeL, zeN, zlL, zlM, Bool.not_true, Bool.not_false, List.length_map, Bool.and_false, Bool.and_self, Bool.false_and, Bool.true_and, Option.isSome_none, Option.isSome_some, Option.map_none, Option.map_some, beq_self_eq_true, bne_self_eq_false, a] | with_reducible refine zmc ?_ | fail); exact h.go) : P := e a ⟨h⟩
theorem c_prValid {σ : List zd} {id m t id2 m2 t2 : Nat} {L : List (List UInt8)} {G : List zt} {f : Int} {p : zca} (hT : zdG σ id m t L) (hG : zdu σ id2 m2 t2 G) (hL : zkx L) (hg : G.length ≤ 1073741824) (hp : smallP p)
    {K : KT} (hK : K (.d (.bool (zmt L G f p))) σ) : zl Tryz.prog zih [.box id 0, .box id2 0, .d (.int .i64 f), prepA p] σ K := by
  refine ze zlU.is rfl fun hl _ => zlU.goes ?_
  have fin : ∀ z, zmt L G f p = z → K (.d (.bool z)) σ := fun z h => h ▸ hK
  clear hK
  simp only [zmk, iN, bT, bF, eN, prepA]
  refine zaF ?_
  refine zpy (hT.app _) hL.nd hL.len hL.each ?_
  refine zaF ?_
  refine zpA (hG.app _) hg fun g' => ?_
  refine zaF ?_
  refine zjs ?_
  by_cases h0 : f < 1 ∨ f > 4
  · rw [zci, if_pos h0]
    refine zeB (show ((120 : Int) != 0) = true from rfl) ?_
    refine zV hl ?_
    exact fin _ (by simp [zmt, zpa, zci, h0])
  have hc0 : zci f = 0 := if_neg h0
  rw [hc0]
  cases h1 : decide (p.view < 0)
  rotate_left
  · refine zeB (zS (show ((0 : Int) != 0) = false from rfl) h1) ?_
    refine zV hl ?_
    exact fin _ (by simp [zmt, zpa, h1])
  cases h2 : decide (p.view > 9007199254740992)
  rotate_left
  · refine zeB (zS (show ((0 : Int) != 0) = false from rfl) (zS h1 h2)) ?_
    refine zV hl ?_
    exact fin _ (by simp [zmt, zpa, h2])
  cases h3 : decide (p.seq < 1)
  rotate_left
  · refine zeB (zS (show ((0 : Int) != 0) = false from rfl) (zS h1 (zS h2 h3))) ?_
    refine zV hl ?_
    exact fin _ (by simp [zmt, zpa, h3])
  cases h4 : decide (p.seq > 9007199254740992)
  rotate_left
  · refine zeB (zS (show ((0 : Int) != 0) = false from rfl) (zS h1 (zS h2 (zS h3 h4)))) ?_
    refine zV hl ?_
    exact fin _ (by simp [zmt, zpa, h4])
  have hok : zpa f p = true := by simp [zpa, hc0, h1, h2, h3, h4]
  have hpf : zmt L G f p = (ziQ L G p.batch && prepG L G f p) := by rw [zmt, hok, Bool.true_and]
  refine zeB (zS (show ((0 : Int) != 0) = false from rfl) (zS h1 (zS h2 (zS h3 h4)))) ?_
  refine ztf (b := p.batch) (hT.app _) (hG.app _) hp.ops hp.batch ?_
  cases h5 : ziQ L G p.batch
  · refine zaF ?_
    refine zV hl ?_
    exact fin _ (by rw [hpf, h5]; rfl)
  rw [h5, Bool.true_and] at hpf
  have hcb := validB_check h5
  refine zaF ?_
  refine zqI (b := []) (by simp) hp.ops hp.batch ?_
  rw [List.nil_append, show zeG p.batch = zcP p.batch from if_pos hcb]
  refine zaF ?_
  refine zqF (hT.app _) ?_
  refine zaF ?_
  refine zoF ?_
  cases h6 : zff L (zcP p.batch) with
  | none =>
    refine gq60 ?_
    refine zV hl ?_
    exact fin _ (by simp only [hpf, prepG, h6])
  | some i =>
    simp only [prepG, h6] at hpf
    simp only [numOf]
    cases h7 : (((i + 1 : Nat) : Int) == p.dig)
    · have h7' : (((i + 1 : Nat) : Int) != p.dig) = true := by simpa using h7
      refine gq63 h7' ?_
      refine zV hl ?_
      exact fin _ (by rw [hpf, h7]; rfl)
    have h7' : (((i + 1 : Nat) : Int) != p.dig) = false := by simpa using h7
    have h7e : ((i + 1 : Nat) : Int) = p.dig := by simpa using h7
    simp only [h7, Bool.true_and] at hpf
    rw [h7e] at h7' ⊢
    refine gq63 h7' ?_
    refine ziI (s := ⟨p.fkey, p.fdig⟩) (hT.app _) (hG.app _) hL hg ?_
    cases h8 : zgJ L G ⟨p.fkey, p.fdig⟩ (zcA f p.view) 2 p.view p.seq p.dig
    · refine zaF ?_
      refine zV hl ?_
      exact fin _ (by rw [hpf, prepH, h8]; rfl)
    rw [prepH, h8, Bool.true_and] at hpf
    have hw2 : IntKind.i64.wrap (2 * f) = 2 * f := zbE (by omega) (by omega)
    have hlen : (zab p.signs).length = p.signs.length := List.length_map ..
    cases h9 : ((p.signs.length : Int) == 2 * f)
    · have h9' : ((p.signs.length : Int) != 2 * f) = true := by simpa using h9
      refine zeB (zS hw2 (zS hlen h9')) ?_
      refine zV hl ?_
      exact fin _ (by rw [hpf, h9]; rfl)
    have h9' : ((p.signs.length : Int) != 2 * f) = false := by simpa using h9
    rw [h9, Bool.true_and] at hpf
    refine zeB (zS hw2 (zS hlen h9')) ?_
    refine zy p.signs.length (fun k vs s => ∃ last : Int, vs = [.d (.int .i64 last), .d (.int .i64 k)] ∧ (∃ T, s = σ ++ (.box [.d (.int .i64 p.view), .d (.int .i64 p.seq), .d (.int .i64 p.dig), .d (.int .i64 p.fkey), .d (.int .i64 p.fdig), .d (.slice (zab p.signs)), .d (.slice (zbD p.batch))] :: T)) ∧
      zmt L G f p = zqR L G f (zcA f p.view) p.view p.seq p.dig last (p.signs.drop k)) ⟨-1, rfl, ⟨_, rfl⟩, by simpa using hpf⟩ ?_
    rintro k vs s hk ⟨last, rfl, ⟨T, rfl⟩, hpf⟩
    by_cases hlt : k < p.signs.length
    · have hd : decide ((k : Int) < (p.signs.length : Int)) = true := by simp; omega
      have hx : p.signs[k]? = some p.signs[k] := by simp [hlt]
      have hgx := zal (f := zgH) hx
      obtain ⟨x, hxe⟩ : ∃ x, p.signs[k] = x := ⟨_, rfl⟩
      rw [hxe] at hx hgx
      have hsl := hp.signs
      rw [votes_drop hx] at hpf
      have hw : IntKind.i64.wrap ((k : Int) + 1) = ((k + 1 : Nat) : Int) := by rw [zbE (by omega) (by omega)]; rfl
      cases g1 : decide (x.key ≤ last)
      rotate_left
      · refine gq46 (zS hd (zS hgx (zS hlen g1))) ?_
        refine zV hl ?_
        exact fin _ (by rw [hpf, g1]; rfl)
      refine gq46 (zS hd (zS hgx (zS hlen g1))) ?_
      refine zjt ?_
      cases g2 : decide (x.key ≥ zaB 3 f)
      rotate_left
      · refine zeB g2 ?_
        refine zV hl ?_
        exact fin _ (by rw [hpf, g1, g2]; rfl)
      cases g3 : (x.key == zcA f p.view)
      rotate_left
      · refine zeB (zS g2 g3) ?_
        refine zV hl ?_
        exact fin _ (by rw [hpf, g1, g2, g3]; rfl)
      rw [g1, g2, g3] at hpf
      simp only [Bool.not_false, Bool.true_and] at hpf
      refine zeB (zS g2 g3) ?_
      refine ziI (s := x) (hT.app _) (hG.app _) hL hg ?_
      cases g4 : zgJ L G x x.key 3 p.view p.seq p.dig
      · rw [g4] at hpf
        refine zaF ?_
        refine zV hl ?_
        exact fin _ hpf
      · rw [g4, Bool.true_and] at hpf
        refine zeB hw ?_
        exact zbp.next hlt ⟨x.key, rfl, ⟨_, rfl⟩, hpf⟩
    · have hd : decide ((k : Int) < (p.signs.length : Int)) = false := by simp; omega
      rw [List.drop_eq_nil_of_le (by omega)] at hpf
      refine zeB (zS hd hlen) ?_
      refine zV hl ?_
      exact fin _ hpf
end Go.Proofs.YtpgahkdjkanblaaGreat
