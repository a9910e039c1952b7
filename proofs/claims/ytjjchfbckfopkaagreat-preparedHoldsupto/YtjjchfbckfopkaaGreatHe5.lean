/- Contracts: lists that are kept as they are. -/
import Derived.Test.YtjjchfbckfopkaaGreatMu0
import Derived.Test.YtjjchfbckfopkaaGreatHe4
set_option linter.all false
set_option maxRecDepth 100000
set_option linter.unusedSimpArgs false
set_option linter.unusedVariables false
namespace Go.Proofs.YtjjchfbckfopkaaGreat
open Go.AW

def ziO (last : Int) : List zw → Bool
  | [] => true
  | p :: r => (decide (last < p.seq) && decide (p.seq ≤ 9007199254740992)) && ziO p.seq r
theorem rises_drop {l : List zw} {k : Nat} {p : zw} {last : Int} (h : l[k]? = some p) : ziO last (l.drop k) = ((decide (last < p.seq) && decide (p.seq ≤ 9007199254740992)) && ziO p.seq (l.drop (k + 1))) := by
  obtain ⟨h1, h2⟩ := List.getElem?_eq_some_iff.1 h
  rw [List.drop_eq_getElem_cons h1, h2, ziO]
abbrev zmf (l : List zw) : List (Int × zw) := l.map fun p => (p.seq, p)
theorem findP_no {s : Int} : ∀ {l : List zw} {i : Nat}, (∀ p ∈ l, p.seq < s) → zcR s (zmf l) i = none
  | [], _, _ => rfl
  | p :: r, i, h => by
    have := h p (by simp)
    simp only [zmf, List.map_cons, zcR]
    rw [if_neg (by omega)]
    exact findP_no fun q hq => h q (by simp [hq])
theorem keyed_rel {l : List zw} (hs : l.Pairwise fun p q => p.seq < q.seq) (hp : ∀ p ∈ l, zdb p) : zma (zmf l) l := by
  refine ⟨?_, fun e he => ?_, fun p => ?_, hs, hp⟩
  · rw [zmf, List.map_map]
    exact (List.pairwise_map.2 hs : (l.map zw.seq).Pairwise (· < ·)).imp fun h => by omega
  · obtain ⟨p, _, rfl⟩ := List.mem_map.1 he; rfl
  · rw [List.mem_map]
    constructor
    · rintro ⟨q, hq, he⟩
      have : q = p := congrArg Prod.snd he
      exact this ▸ hq
    · intro h; exact ⟨p, h, rfl⟩
section

variable {σ : List zb} {K : AV → List zb → Prop}

theorem c_heFrom {l : List zw} (hn : l.length ≤ 1000000) (hs : ∀ p ∈ l, zdb p)
    (hK0 : ziO 0 l = false → ∀ S, (∀ (j : Nat) (x : zb), σ[j]? = some x → S[j]? = some x) → K (.tup [.d .nilp, .d (.int .i64 1)]) S)
    (hK1 : ziO 0 l = true → ∀ S, zdA S (σ.length + 1) σ.length (zmf l) → (∀ (j : Nat) (x : zb), σ[j]? = some x → S[j]? = some x) → K (.tup [.box (σ.length + 1) 0, .d (.int .i64 0)]) S) :
    zt Tryz.prog zfs [.d (.slice (zba l))] σ K := by
  refine zcv zhQ.is rfl fun hl _ => zhQ.goes ?_
  have hll : (zba l).length = l.length := List.length_map ..
  simp only [zig, iN, bT, bF, eN, zl1]
  refine gq1 ?_
  refine zqd ?_
  refine gq2 hll ?_
  refine zC l.length (fun k vs s => ∃ last, vs = [.d (.int .i64 last), .d (.int .i64 k)] ∧ zdA s (σ.length + 1) σ.length (zmf (l.take k)) ∧ ziO 0 l = ziO last (l.drop k) ∧ 0 ≤ last ∧ (∀ p ∈ l.take k, p.seq ≤ last) ∧ (∀ (j : Nat) (x : zb), σ[j]? = some x → s[j]? = some x))
    ⟨0, rfl, ⟨by rw [zi]; rfl, by rw [zk]; rfl⟩, rfl, Int.le_refl _, by simp, fun j x h => ze h⟩ ?_
  rintro k vs s hk ⟨last, rfl, hH, hr, h0, hlo, hpre⟩
  by_cases hlt : k < l.length
  · have hd : decide ((k : Int) < (l.length : Int)) = true := by simp; omega
    have hx : l[k]? = some l[k] := by simp [hlt]
    have hsx := hs _ (List.getElem_mem hlt)
    have hgx := zax (f := zdY) hx
    have htk : l.take (k + 1) = l.take k ++ [l[k]] := by rw [List.take_add_one, hx]; rfl
    have hrd := rises_drop (last := last) hx
    obtain ⟨p, hp⟩ : ∃ p, l[k] = p := ⟨_, rfl⟩
    rw [hp] at hgx hsx hrd htk
    have xs : ∀ a τ, (s ++ a :: τ)[s.length]? = some a := fun a τ => zk ..
    cases c1 : decide (p.seq ≤ last)
    rotate_left
    · have d1 : ¬ last < p.seq := by simp at c1; omega
      rw [decide_eq_false d1, Bool.false_and, Bool.false_and] at hrd
      refine gq8 (zj hd (zj hgx (zj xs c1))) ?_
      exact zjp (hK0 (hr.trans hrd) _ fun j x h => ze (hpre j x h))
    have d1 : last < p.seq := by simp at c1; omega
    rw [decide_eq_true d1, Bool.true_and] at hrd
    refine gq8 (zj hd (zj hgx (zj xs c1))) ?_
    have hfp := findP_no (s := p.seq) (l := l.take k) (i := 0) fun q hq => by have := hlo q hq; omega
    have hok : hOk (zmf (l.take k)) p = true := by rw [hOk, hfp]
    have hput : hPut (zmf (l.take k)) p = zmf (l.take (k + 1)) := by rw [hPut, hfp, htk, zmf, zmf, List.map_append]; rfl
    refine zqc (p := p) (hH.app _) hsx ?_
    rw [hok, Bool.and_true, hput]
    by_cases d2 : p.seq ≤ 9007199254740992
    · have hin : inR p = true := by
        have e1 : decide (p.seq < 1) = false := by simp; omega
        have e2 : decide (p.seq > 9007199254740992) = false := by simp; omega
        rw [inR, e1, e2]; rfl
      rw [hin, if_pos rfl]
      rw [decide_eq_true d2, Bool.true_and] at hrd
      have lm := zaP hH.map
      have xs2 : ∀ Y a τ, ((s ++ a :: τ).set σ.length Y)[s.length]? = some a := fun Y a τ => by rw [List.getElem?_set_ne (by omega), zk]; rfl
      refine gq2 (zj xs2 (wk1 k (by omega))) ?_
      refine zaQ.next hlt ⟨p.seq, rfl, ⟨?_, List.getElem?_set_self (by simp; omega)⟩, hr.trans hrd, by omega, fun q hq => ?_, fun j x h => ?_⟩
      · rw [List.getElem?_set_ne (by omega)]; exact ze hH.box
      · rw [htk] at hq
        rcases List.mem_append.1 hq with hq | hq
        · have := hlo q hq; omega
        · simp at hq; subst hq; exact Int.le_refl _
      · have := zaP h
        rw [List.getElem?_set_ne (by omega)]; exact ze (hpre j x h)
    · have hin : inR p = false := by
        have e1 : decide (p.seq < 1) = false := by simp; omega
        have e2 : decide (p.seq > 9007199254740992) = true := by simp; omega
        rw [inR, e1, e2]; rfl
      rw [hin, if_neg (by simp)]
      rw [decide_eq_false d2, Bool.false_and] at hrd
      refine gq1 ?_
      refine zjp (hK0 (hr.trans hrd) _ fun j x h => ?_)
      have := zaP h
      rw [List.getElem?_set_ne (by omega)]; exact ze (hpre j x h)
  · have hd : decide ((k : Int) < (l.length : Int)) = false := by simp; omega
    rw [List.drop_eq_nil_of_le (by omega)] at hr
    rw [List.take_of_length_le (by omega)] at hH
    refine gq2 hd ?_
    exact zjp (hK1 hr _ hH hpre)
end


abbrev docO (R : List zw) : zb := .box [.d (.slice (zba R))]
section

variable {σ : List zb} {K : AV → List zb → Prop}

end

end Go.Proofs.YtjjchfbckfopkaaGreat
