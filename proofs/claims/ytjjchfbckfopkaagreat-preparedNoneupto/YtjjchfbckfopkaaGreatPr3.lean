/- Contracts: certificates that are kept. -/
import Derived.Test.YtjjchfbckfopkaaGreatPr2
import Derived.Test.YtjjchfbckfopkaaGreatSpMap
import Derived.Test.YtjjchfbckfopkaaGreatRq1
set_option linter.all false
set_option maxRecDepth 100000
set_option linter.unusedSimpArgs false
set_option linter.unusedVariables false
namespace Go.Proofs.YtjjchfbckfopkaaGreat
open Go.AW

theorem c_clSign {σ : List zb} {l : List zO} (hn : l.length ≤ 1073741824) {K : AV → List zb → Prop} (hK : K (.d (.slice (zaL l))) σ) : zn Tryz.prog zag [.d (.slice (zaL l))] σ K := by
  refine zfz zdG fun hl => ?_
  have hlen : (zaL l).length = l.length := List.length_map ..
  have h2 : ∀ e ∈ zaL l, e.length = 2 := zog (f := zgb) (fun _ => rfl) l
  simp only [zbP, iN, bT, bF, eN, zai, zcH]
  obtain ⟨es, hes⟩ : ∃ es, zaL l = es := ⟨_, rfl⟩
  rw [hes] at hlen h2 hK ⊢
  cases es with
  | nil =>
    refine ⟨?_, ?_⟩
    · refine gq1 ?_
      refine zam hl ?_
      exact hK
    · refine gq1 ?_
      refine zam hl ?_
      exact hK
  | cons e es =>
    simp only [zU, zq, zJ, zac, rep, zi, zdZ, zaj, zr, zdk]
    refine ⟨h2, by simp, by rw [hlen]; simp; omega, ?_⟩
    refine zam hl ?_
    exact hK
theorem c_prClone {σ : List zb} {p : zav} (hp : smallP p) {K : AV → List zb → Prop} (hK : K (zfw p) σ) : zn Tryz.prog zaI [zfw p] σ K := by
  refine zfz zle fun hl => ?_
  simp only [zgB, iN, bT, bF, eN, zl0, zfw]
  refine gq1 ?_
  refine c_clSign hp.signs ?_
  refine gq1 ?_
  refine c_rqClone (b := p.batch) ⟨hp.batch, fun s hs => (sizes (hp.ops s hs)).2.2⟩ ?_
  refine gq1 ?_
  refine zam hl ?_
  exact hK
def zor (s : Int) : List (Int × zav) → Nat → Option (Nat × zav)
  | [], _ => none
  | e :: r, i => if s = e.1 then some (i, e.2) else zor s r (i + 1)
abbrev hE (l : List (Int × zav)) : List (AV × AV) := ents (l.map fun e => (e.1, zfw e.2))
theorem zok (s : Int) : ∀ (l : List (Int × zav)) (i : Nat), zgL .int (.d (.int .i64 s)) (hE l) i = some ((zor s l i).map fun q => (q.1, zfw q.2))
  | [], _ => rfl
  | e :: r, i => by
    simp only [hE, ents, List.map_cons, zgL, zdF, if_true, zor]
    by_cases h : s = e.1
    · simp [h]
    · have : (s == e.1) = false := by simpa using h
      simp only [this, if_neg h]
      exact zok s r (i + 1)
structure zkU (σ : List zb) (h m : Nat) (l : List (Int × zav)) : Prop where
  box : σ[h]? = some (.box [.map m])
  map : σ[m]? = some (.map (hE l))
theorem zkU.app {σ : List zb} {h m : Nat} {l : List (Int × zav)} (H : zkU σ h m l) (τ : List zb) : zkU (σ ++ τ) h m l := ⟨zk H.box, zk H.map⟩
def inR (p : zav) : Bool := !(decide (p.seq < 1)) && !(decide (p.seq > 9007199254740992))
def hOk (l : List (Int × zav)) (p : zav) : Bool := match zor p.seq l 0 with
  | some q => !(decide (q.2.view ≥ p.view))
  | none => true
def hPut (l : List (Int × zav)) (p : zav) : List (Int × zav) := match zor p.seq l 0 with
  | some q => if q.2.view ≥ p.view then l else l.set q.1 (p.seq, p)
  | none => l ++ [(p.seq, p)]
theorem zoI {σ : List zb} {h m : Nat} {l : List (Int × zav)} (H : zkU σ h m l) {K : AV → List zb → Prop} (hK : K (.d (.bool false)) σ) : zn Tryz.prog zae [.box h 0] σ K := by
  refine zfz zcL fun hl => ?_
  have hb := H.box
  simp only [zbT, iN, bT, bF, eN]
  refine gq2 hb ?_
  refine zam hl ?_
  exact hK
theorem c_heLen {σ : List zb} {h m : Nat} {l : List (Int × zav)} (H : zkU σ h m l) {K : AV → List zb → Prop} (hK : K (.d (.int .i64 l.length)) σ) : zn Tryz.prog zbA [.box h 0] σ K := by
  refine zfz zeW fun hl => ?_
  have hb := H.box
  have hm := H.map
  have hlen : (hE l).length = l.length := by simp [hE, ents]
  simp only [zdd, iN, bT, bF, eN]
  refine gq1 ?_
  refine zoI H ?_
  refine gq2 (zo hb (zo hm hlen)) ?_
  refine zam hl ?_
  exact hK
theorem c_heNew {σ : List zb} {K : AV → List zb → Prop} (hK : K (.box (σ.length + 1) 0) (σ ++ [.map (hE []), .box [.map σ.length]])) : zn Tryz.prog zcQ [] σ K := by
  refine zby zhV.is rfl (fun s => List.range' σ.length 2) fun hl _ => zhV.goes ?_
  simp only [zif, iN, bT, bF, eN]
  refine gq1 ?_
  refine zdv (σ' := σ) (os := [.map (hE []), .box [.map σ.length]]) rfl rfl hl ?_ (.box _ _ (by simp)) hK
  intro x hx
  simp only [List.mem_cons, List.not_mem_nil, or_false] at hx
  rcases hx with rfl | rfl
  · intro e he
    simp [hE, ents] at he
  · intro c hc
    simp only [List.mem_cons, List.not_mem_nil, or_false] at hc
    subst hc
    exact .map _ (by simp)
theorem hE_set (l : List (Int × zav)) (i : Nat) (p : zav) : (hE l).set i (.d (.int .i64 p.seq), zfw p) = hE (l.set i (p.seq, p)) := by
  simp only [hE, ents, List.map_set]
theorem hE_add (l : List (Int × zav)) (p : zav) : hE l ++ [(.d (.int .i64 p.seq), zfw p)] = hE (l ++ [(p.seq, p)]) := by simp [hE, ents]
theorem lowHE (n : Nat) (l : List (Int × zav)) : zoO n (.map (hE l)) := by
  intro e he
  simp only [hE, ents, List.map_map, List.mem_map] at he
  obtain ⟨x, _, rfl⟩ := he
  refine ⟨.d _, .agg _ fun c hc => ?_⟩
  simp only [List.mem_cons, List.not_mem_nil, or_false] at hc
  rcases hc with rfl | rfl | rfl | rfl | rfl | rfl | rfl <;> exact .d _
theorem c_hePut {σ : List zb} {h m : Nat} {l : List (Int × zav)} {p : zav} (H : zkU σ h m l) (hp : smallP p) {K : AV → List zb → Prop}
    (hK : K (.d (.bool (inR p && hOk l p))) (σ.set m (.map (hE (if inR p = true then hPut l p else l))))) :
    zn Tryz.prog zaA [.box h 0, zfw p] σ K := by
  refine zia zcg fun hl => ?_
  have hb : ∀ τ, (σ ++ τ)[h]? = some (.box [.map m]) := fun τ => zk H.box
  have hm : ∀ τ, (σ ++ τ)[m]? = some (.map (hE l)) := fun τ => zk H.map
  have hsm : ∀ τ X, (σ ++ τ).set m X = σ.set m X ++ τ := fun τ X => zbR H.map
  have hf := zok p.seq l 0
  have hsame : σ.set m (.map (hE l)) = σ := zbH H.map
  simp only [zci, iN, bT, bF, eN, zl0, zfw]
  refine gq1 ?_
  refine zoI (H.app _) ?_
  cases h1 : decide (p.seq < 1)
  rotate_left
  · simp only [inR, h1, Bool.not_true, Bool.false_and, Bool.false_eq_true, if_false, hsame] at hK
    refine gq2 h1 ?_
    refine zam hl ?_
    exact hK
  cases h2 : decide (p.seq > 9007199254740992)
  rotate_left
  · simp only [inR, h2, Bool.not_true, Bool.and_false, Bool.false_and, Bool.false_eq_true, if_false, hsame] at hK
    refine gq2 (zo h1 h2) ?_
    refine zam hl ?_
    exact hK
  simp only [inR, h1, h2, Bool.not_false, Bool.true_and, if_true] at hK
  cases hq : zor p.seq l 0 with
  | none =>
    rw [hq] at hf
    simp only [hOk, hPut, hq] at hK
    refine gq3 (zo h1 (zo h2 (zo hb (zo hm hf)))) ?_
    refine c_prClone (p := p) hp ?_
    refine gq3 (zo hb (zo hm (zo hf hsm))) ?_
    rw [hE_add]
    exact ends_set (by simp [zfj, dmT, dm, dm1, zcm]) hl (lowHE _ _) hK
  | some q =>
    rw [hq] at hf
    simp only [hOk, hPut, hq] at hK
    cases h3 : decide (q.2.view ≥ p.view)
    · rw [h3, if_neg (by simpa using h3)] at hK
      refine gq3 (zo h1 (zo h2 (zo hb (zo hm (zo hf h3))))) ?_
      refine c_prClone (p := p) hp ?_
      refine gq3 (zo hb (zo hm (zo hf hsm))) ?_
      rw [hE_set]
      exact ends_set (by simp [zfj, dmT, dm, dm1, zcm]) hl (lowHE _ _) hK
    · rw [h3, if_pos (by simpa using h3), hsame] at hK
      refine gq3 (zo h1 (zo h2 (zo hb (zo hm (zo hf h3))))) ?_
      refine zam hl ?_
      exact hK
end Go.Proofs.YtjjchfbckfopkaaGreat
