/- Certificates: whether they are valid. No program in sight. -/
import Derived.Test.YtjjchfbckfopkaaGreatId5
import Derived.Test.YtjjchfbckfopkaaGreatRq5
import Derived.Test.YtjjchfbckfopkaaGreatAu2
set_option linter.all false
set_option linter.unusedSimpArgs false
set_option linter.unusedVariables false
namespace Go.Proofs.YtjjchfbckfopkaaGreat
open Go.AW

def primF (f v : Int) : Int := if (f < 1 ∨ f > 4) ∨ v < 0 ∨ v > 9007199254740992 then -1 else v.tmod (3 * f + 1)
def votesF (L : List (List UInt8)) (G : List zO) (f lead view seq dig : Int) : Int → List zO → Bool
  | _, [] => true
  | last, s :: r => !(decide (s.key ≤ last)) && (!(decide (s.key ≥ zkp 3 f)) && (!(s.key == lead) && (zko L G s s.key 3 view seq dig && votesF L G f lead view seq dig s.key r)))
def zky (f : Int) (p : zav) : Bool := decide (zhh f = 0) && (!(decide (p.view < 0)) && (!(decide (p.view > 9007199254740992)) && (!(decide (p.seq < 1)) && !(decide (p.seq > 9007199254740992)))))
def prepH (L : List (List UInt8)) (G : List zO) (f : Int) (p : zav) : Bool :=
  zko L G ⟨p.fkey, p.fdig⟩ (primF f p.view) 2 p.view p.seq p.dig && (((p.signs.length : Int) == 2 * f) && votesF L G f (primF f p.view) p.view p.seq p.dig (-1) p.signs)
def prepG (L : List (List UInt8)) (G : List zO) (f : Int) (p : zav) : Bool := match zdE L (zeE p.batch) with
  | some i => (((i + 1 : Nat) : Int) == p.dig) && prepH L G f p
  | none => false
def zkX (L : List (List UInt8)) (G : List zO) (f : Int) (p : zav) : Bool := zky f p && (zgR L G p.batch && prepG L G f p)
theorem validB_check {L : List (List UInt8)} {G : List zO} {b : List ze} (h : zgR L G b = true) : zw b = 0 := by
  simp [zgR] at h; exact h.1
theorem prim_tmod {f v : Int} (h : ¬ (f < 1 ∨ f > 4)) (h0 : ¬ v < 0) (h1 : ¬ v > 9007199254740992) : 0 ≤ v.tmod (3 * f + 1) ∧ v.tmod (3 * f + 1) ≤ 12 := by
  have := Int.tmod_lt_of_pos v (b := 3 * f + 1) (by omega)
  have h2 := Int.tmod_nonneg (3 * f + 1) (show 0 ≤ v by omega)
  omega
abbrev zfw (p : zav) : AV := .agg [.d (.int .i64 p.view), .d (.int .i64 p.seq), .d (.int .i64 p.dig), .d (.int .i64 p.fkey), .d (.int .i64 p.fdig), .d (.slice (zaL p.signs)), .d (.slice (zbn p.batch))]
theorem votes_drop {L : List (List UInt8)} {G : List zO} {f lead view seq dig last : Int} {l : List zO} {k : Nat} {s : zO} (h : l[k]? = some s) :
    votesF L G f lead view seq dig last (l.drop k) = (!(decide (s.key ≤ last)) && (!(decide (s.key ≥ zkp 3 f)) && (!(s.key == lead) && (zko L G s s.key 3 view seq dig && votesF L G f lead view seq dig s.key (l.drop (k + 1)))))) := by
  have hk : k < l.length := (List.getElem?_eq_some_iff.1 h).1
  rw [List.drop_eq_getElem_cons hk, (List.getElem?_eq_some_iff.1 h).2]
  rfl

theorem c_quView {σ : List zb} {f v : Int} {K : AV → List zb → Prop} (hK : K (.d (.bool (!decide ((f < 1 ∨ f > 4) ∨ v < 0 ∨ v > 9007199254740992)))) σ) : zn Tryz.prog zgj [.d (.int .i64 f), .d (.int .i64 v)] σ K := by
  refine zia zow fun hl => ?_
  simp only [zjn, iN, bT, bF, eN]
  refine gq1 ?_
  refine zmq ?_
  by_cases h : f < 1 ∨ f > 4
  · rw [decide_eq_true (.inl h)] at hK
    rw [zhh, if_pos h]
    refine gq2 (show ((120 : Int) == 0) = false from rfl) ?_
    refine zam hl ?_
    exact hK
  · rw [zhh, if_neg h]
    cases h1 : decide (v ≥ 0)
    · rw [decide_eq_true (.inr (.inl (by simpa using h1)))] at hK
      refine gq2 (zo (show ((0 : Int) == 0) = true from rfl) h1) ?_
      refine zam hl ?_
      exact hK
    · have h0 : ¬ v < 0 := by simp at h1; omega
      refine gq2 (zo (show ((0 : Int) == 0) = true from rfl) h1) ?_
      refine zam hl ?_
      rw [show decide (v ≤ 9007199254740992) = !decide ((f < 1 ∨ f > 4) ∨ v < 0 ∨ v > 9007199254740992) by
        by_cases h2 : v ≤ 9007199254740992
        · rw [decide_eq_true h2, decide_eq_false (by omega)]; rfl
        · rw [decide_eq_false h2, decide_eq_true (by omega)]; rfl]
      exact hK
theorem c_quPrimary {σ : List zb} {f v : Int} {K : AV → List zb → Prop} (hK : K (.d (.int .i64 (primF f v))) σ) : zn Tryz.prog zew [.d (.int .i64 f), .d (.int .i64 v)] σ K := by
  refine zia zlc fun hl => ?_
  simp only [zgz, iN, bT, bF, eN]
  refine gq1 ?_
  refine c_quView ?_
  by_cases h : (f < 1 ∨ f > 4) ∨ v < 0 ∨ v > 9007199254740992
  · rw [primF, if_pos h] at hK
    rw [decide_eq_true h]
    refine gq1 ?_
    refine zam hl ?_
    exact hK
  · rw [primF, if_neg h] at hK
    rw [decide_eq_false h]
    have hf : ¬ (f < 1 ∨ f > 4) := fun e => h (.inl e)
    refine gq1 ?_
    refine zmr ?_
    rw [zkp, if_neg hf]
    have := prim_tmod hf (fun e => h (.inr (.inl e))) (fun e => h (.inr (.inr e)))
    have hw : IntKind.i64.wrap (v.tmod (3 * f + 1)) = v.tmod (3 * f + 1) := zao (by omega) (by omega)
    have hz : (3 * f + 1 == 0) = false := by simp; omega
    refine gq2 (zo hw hz) ?_
    refine zam hl ?_
    exact hK
end Go.Proofs.YtjjchfbckfopkaaGreat
