/- What a new view goes on with. No program in sight. -/
import Derived.Test.YtcappjcojggehaaGreatSpNum
import Derived.Test.YtcappjcojggehaaGreatSpVote
import Derived.Test.YtcappjcojggehaaGreatRq5
import Derived.Test.YtcappjcojggehaaGreatId3
set_option linter.all false
set_option linter.unusedSimpArgs false
namespace Go.AW

def zdu (f : Int) : Int := if f < 1 ∨ f > 4 then 120 else 0
def zcw (n f : Int) : Int := if f < 1 ∨ f > 4 then 0 else n * f + 1
end Go.AW

/- Certificates: whether they are valid. No program in sight. -/
set_option linter.unusedSimpArgs false
set_option linter.unusedVariables false
namespace Go.Proofs.YtcappjcojggehaaGreat
open Go.AW

def zlt (f v : Int) : Int := if (f < 1 ∨ f > 4) ∨ v < 0 ∨ v > 9007199254740992 then -1 else v.tmod (3 * f + 1)
def zlj (L : List (List UInt8)) (G : List zR) (f lead view seq dig : Int) : Int → List zR → Bool
  | _, [] => true
  | last, s :: r => !(decide (s.key ≤ last)) && (!(decide (s.key ≥ zcw 3 f)) && (!(s.key == lead) && (zfC L G s s.key 3 view seq dig && zlj L G f lead view seq dig s.key r)))
def ziR (f : Int) (p : zcs) : Bool := decide (zdu f = 0) && (!(decide (p.view < 0)) && (!(decide (p.view > 9007199254740992)) && (!(decide (p.seq < 1)) && !(decide (p.seq > 9007199254740992)))))
def prepH (L : List (List UInt8)) (G : List zR) (f : Int) (p : zcs) : Bool :=
  zfC L G ⟨p.fkey, p.fdig⟩ (zlt f p.view) 2 p.view p.seq p.dig && (((p.signs.length : Int) == 2 * f) && zlj L G f (zlt f p.view) p.view p.seq p.dig (-1) p.signs)
def prepG (L : List (List UInt8)) (G : List zR) (f : Int) (p : zcs) : Bool := match zck L (zei p.batch) with
  | some i => (((i + 1 : Nat) : Int) == p.dig) && prepH L G f p
  | none => false
def zhe (L : List (List UInt8)) (G : List zR) (f : Int) (p : zcs) : Bool := ziR f p && (zhj L G p.batch && prepG L G f p)
theorem validB_check {L : List (List UInt8)} {G : List zR} {b : List zd} (h : zhj L G b = true) : zD b = 0 := by
  simp [zhj] at h; exact h.1
theorem prim_tmod {f v : Int} (h : ¬ (f < 1 ∨ f > 4)) (h0 : ¬ v < 0) (h1 : ¬ v > 9007199254740992) : 0 ≤ v.tmod (3 * f + 1) ∧ v.tmod (3 * f + 1) ≤ 12 := by
  have := Int.tmod_lt_of_pos v (b := 3 * f + 1) (by omega)
  have h2 := Int.tmod_nonneg (3 * f + 1) (show 0 ≤ v by omega)
  omega
abbrev zkT (p : zcs) : AV := .agg [.d (.int .i64 p.view), .d (.int .i64 p.seq), .d (.int .i64 p.dig), .d (.int .i64 p.fkey), .d (.int .i64 p.fdig), .d (.slice (zaY p.signs)), .d (.slice (zbs p.batch))]
theorem votes_drop {L : List (List UInt8)} {G : List zR} {f lead view seq dig last : Int} {l : List zR} {k : Nat} {s : zR} (h : l[k]? = some s) :
    zlj L G f lead view seq dig last (l.drop k) = (!(decide (s.key ≤ last)) && (!(decide (s.key ≥ zcw 3 f)) && (!(s.key == lead) && (zfC L G s s.key 3 view seq dig && zlj L G f lead view seq dig s.key (l.drop (k + 1)))))) := by
  have hk : k < l.length := (List.getElem?_eq_some_iff.1 h).1
  rw [List.drop_eq_getElem_cons hk, (List.getElem?_eq_some_iff.1 h).2]
  rfl
end Go.Proofs.YtcappjcojggehaaGreat

/- A ledger's clone, whatever was signed. -/
set_option maxRecDepth 100000
set_option linter.unusedSimpArgs false
set_option linter.unusedVariables false
namespace Go.Proofs.YtcappjcojggehaaGreat
open Go.AW

theorem c_gClone {σ : List zb} {id m t : Nat} {g : List zR} (hG : zcU σ id m t g) (hg : g.length ≤ 1073741824) {K : AV → List zb → Prop}
    (hK : ∀ g' : List zR, K (.box (σ.length + 1) 0) (σ ++ ledO σ.length g')) : zN Tryz.prog zbU [.box id 0] σ K := by
  refine zbu zeh.is rfl (fun s => List.range' σ.length 3) fun hl _ => zeh.goes ?_
  have hbx : ∀ τ, (σ ++ τ)[id]? = _ := fun τ => zaa hG.box
  have hlen : (ziZ g).length = g.length := List.length_map ..
  simp only [zem, iN, bT, bF, eN]
  (repeat' first | refine gq1 ?_ | with_reducible first | exact ⟨⟩ | refine zA ?_ | fail)
  refine c_gNone hG ?_
  (repeat' first | refine gq2 hbx ?_ | with_reducible first | exact ⟨⟩ | refine zA ?_ | fail)
  refine zmh ?_
  (repeat' first | refine gq2 (zu hbx hlen) ?_ | with_reducible first | exact ⟨⟩ | refine zA ?_ | fail)
  refine zV g.length (fun k vs s => vs = [.d (.int .i64 k)] ∧ ∃ g' τ, g'.length ≤ k ∧ s = σ ++ (ledO σ.length g' ++ τ)) ⟨rfl, [], [], by simp, by simp [ziZ, zmz]⟩ ?_
  rintro k vs s hk ⟨rfl, g', τ, hg', rfl⟩
  by_cases hlt : k < g.length
  · have hd : decide ((k : Int) < (g.length : Int)) = true := by simp; omega
    have hx : g[k]? = some g[k] := by simp [hlt]
    obtain ⟨x, hxe⟩ : ∃ x, g[k] = x := ⟨_, rfl⟩
    rw [hxe] at hx
    have hgx : (ziZ g)[k]? = some [D.int .i64 x.key, D.int .i64 x.dig] := by rw [ziZ]; exact zaT hx
    (repeat' first | refine gq2 (zu hd (zu hgx hlen)) ?_ | with_reducible first | exact ⟨⟩ | refine zA ?_ | fail)
    have hL : ∀ τ', zcU (σ ++ (ledO σ.length g' ++ τ')) (σ.length + 1) σ.length (σ.length + 2) g' := fun τ' => ledAt_new σ g' τ'
    refine c_gSign (hL (τ ++ [.box [.d (.int .i64 x.key), .d (.int .i64 x.dig)]])) (by omega) ?_
    have hP := putLed_new σ g' (zdW g' x.key x.dig) (τ ++ [.box [.d (.int .i64 x.key), .d (.int .i64 x.dig)]])
    rw [hP]
    have hw : IntKind.i64.wrap ((k : Int) + 1) = ((k + 1 : Nat) : Int) := by rw [zaj (by omega) (by omega)]; rfl
    (repeat' first | refine gq2 hw ?_ | with_reducible first | exact ⟨⟩ | refine zA ?_ | fail)
    refine zaR.next hlt ⟨rfl, zdW g' x.key x.dig, τ ++ [.box [.d (.int .i64 x.key), .d (.int .i64 x.dig)]], ?_, by simp [ledO]⟩
    unfold zdW zkR
    split
    · split
      · omega
      · simp; omega
    · omega
  · have hd : decide ((k : Int) < (g.length : Int)) = false := by simp; omega
    (repeat' first | refine gq2 (zu hlen hd) ?_ | with_reducible first | exact ⟨⟩ | refine zA ?_ | fail)
    exact zht (σ' := σ) (os := ledO σ.length g') (τ := τ) rfl rfl hl (low_ledO _ _) (.box _ _ (by simp)) (hK g')
end Go.Proofs.YtcappjcojggehaaGreat
