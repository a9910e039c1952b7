/- Contracts: the program's topics: names, groups, what was committed, what a client was told last. -/
import Derived.Test.YtaocmalhjfakdaaKs1
import Derived.Test.YtaocmalhjfakdaaTq8
set_option linter.all false
set_option maxRecDepth 100000
set_option linter.unusedSimpArgs false
set_option linter.unusedVariables false
namespace Go.Proofs.Ytaocmalhjfakdaa
open Go.AW

theorem zfV {α : Type} {l m : List α} (h1 : l.Nodup) (h2 : m.Nodup) (h : ∀ a, a ∈ l ↔ a ∈ m) : l.Perm m := (List.perm_ext_iff_of_nodup h1 h2).2 h
theorem rel_names {X : List zcS} {T : List zQ} (h : Rel X T) : (X.map zcS.name).Perm (T.map zQ.name) := by
  refine zfV h.nod h.sort.nodup fun a => ?_
  constructor
  · intro ha
    obtain ⟨p, hp, rfl⟩ := List.mem_map.1 ha
    obtain ⟨y, hy, hr⟩ := h.fw p hp
    exact List.mem_map.2 ⟨y, hy, hr.name.symm⟩
  · intro ha
    obtain ⟨y, hy, rfl⟩ := List.mem_map.1 ha
    obtain ⟨p, hp, hr⟩ := h.bw y hy
    exact List.mem_map.2 ⟨p, hp, hr.name⟩
theorem gr_names {G L : List (List UInt8 × Int)} (h : GR G L) : (G.map Prod.fst).Perm (L.map Prod.fst) := by
  refine zfV h.nod h.sort.nodup fun a => ?_
  simp only [List.mem_map, h.mem]
def zhV (T : zS) (n : List UInt8) : Option zQ := match atF n T.l 0 with
  | none => none
  | some k => T.l[k]?
def ziA (T : zS) (n : List UInt8) : List (List UInt8 × Int) := match zhV T n with
  | none => []
  | some x => x.groups
theorem zif {X : List zcS} {T : zS} (h : Rel X T.l) (n : List UInt8) : (zdT n X 0 = none ∧ zhV T n = none) ∨ ∃ i p y, zdT n X 0 = some (i, p) ∧ X[i]? = some p ∧ p.x.name = n ∧ zhV T n = some y ∧ y ∈ T.l ∧ TR p.x y := by
  cases hx : zdT n X 0 with
  | none => exact .inl ⟨rfl, by rw [zhV, h.no hx]⟩
  | some q =>
    obtain ⟨i, p⟩ := q
    obtain ⟨h1, h2, k, y, h3, h4, h5⟩ := h.yes hx
    refine .inr ⟨i, p, y, rfl, h1, h2, ?_, List.mem_of_getElem? h4, h5⟩
    rw [zhV, h3]; exact h4
abbrev strsE (l : List (List UInt8)) : List (List D) := l.map fun x => [.str x]
section

variable {σ : List zb} {id m : Nat} {X : List zcS} {T : zS} {O : Nat → Prop} {K : AV → List zb → Prop}

theorem c_KeysTop {m : Nat} (hK : K (.fn (.func zi) [] [.box σ.length 0]) (σ ++ [.box [.map m]])) : zC Try.prog zr [.map m] σ K := by
  refine zaI zK.is rfl fun hl _ => zK.goes ?_
  simp only [zM, iN, bT, bF, eN]
  refine zen ?_
  exact zaW hK
theorem c_KeysGrp {m : Nat} (hK : K (.fn (.func zu) [] [.box σ.length 0]) (σ ++ [.box [.map m]])) : zC Try.prog zP [.map m] σ K := by
  refine zaI zav.is rfl fun hl _ => zav.goes ?_
  simp only [zaw, iN, bT, bF, eN]
  refine zen ?_
  exact zaW hK
theorem hf_top : F2 Try.prog zi zew := zaA
theorem hf_grp : F2 Try.prog zu zew := zbq
theorem c_tpNames (h : zeC σ id T O) (hI : zee T) (hK : K (.d (.slice (strsE (T.l.map zQ.name)))) σ) : zC Try.prog zbF [.box id 0] σ K := by
  obtain ⟨m, X, hP, hR, hO⟩ := h
  refine acE1 zeS fun hl => ?_
  have hb := hP.box
  have hlen : X.length ≤ 8 := by rw [hR.len]; exact hI.len
  simp only [zcM, iN, bT, bF, eN]
  refine zen ?_
  refine zhI hb ?_
  refine zbf hb ?_
  refine c_KeysTop ?_
  refine zen ?_
  refine zhh (names := X.map zcS.name) (L := T.l.map zQ.name) hf_top (by simp [topM, zfs]) (by simp; omega) (by rw [zn]; rfl) (ze hP.map) (rel_names hR) hR.sort ?_
  refine zen ?_
  refine zhF hl ?_
  exact hK
theorem c_tpGroups {n : List UInt8} (h : zeC σ id T O) (hI : zee T) (hK : K (.d (.slice (strsE ((ziA T n).map Prod.fst)))) σ) : zC Try.prog zby [.box id 0, .d (.str n)] σ K := by
  obtain ⟨m, X, hP, hR, hO⟩ := h
  refine acE2 zeJ fun hl => ?_
  simp only [zcr, iN, bT, bF, eN]
  refine zen ?_
  refine zkn hP ?_
  rcases zif hR n with ⟨h1, h2⟩ | ⟨i, p, y, h1, h2, h3, h4, h5, h6⟩
  · rw [h1]
    rw [ziA, h2] at hK
    refine zbf (show ((4 : Int) != 0) = true from rfl) ?_
    refine zhF hl ?_
    exact hK
  · rw [h1]
    rw [ziA, h4] at hK
    have hp := hP.tops p (List.mem_of_getElem? h2)
    have hb := hp.b
    have hlen : p.x.groups.length ≤ 8 := by rw [h6.gr.len]; exact (hI.tops y h5).groups
    refine zbf hb ?_
    refine c_KeysGrp ?_
    refine zen ?_
    refine zhh (names := p.x.groups.map Prod.fst) (L := y.groups.map Prod.fst) hf_grp (by simp [grpM, zfs]) (by simp; omega) (by rw [zn]; rfl) (ze hp.g) (gr_names h6.gr) h6.gr.sort ?_
    refine zen ?_
    refine zhF hl ?_
    exact hK
end

end Go.Proofs.Ytaocmalhjfakdaa
