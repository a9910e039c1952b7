/- Contracts: the program's topics: names, groups, what was committed, what a client was told last. -/
import Derived.Test.YtaocmalhjfakdaaKs1
import Derived.Test.YtaocmalhjfakdaaTq8
set_option linter.all false
set_option maxRecDepth 100000
set_option linter.unusedSimpArgs false
set_option linter.unusedVariables false
namespace Go.Proofs.Ytaocmalhjfakdaa
open Go.AW

theorem zix {α : Type} {l m : List α} (h1 : l.Nodup) (h2 : m.Nodup) (h : ∀ a, a ∈ l ↔ a ∈ m) : l.Perm m := (List.perm_ext_iff_of_nodup h1 h2).2 h
theorem rel_names {X : List zcv} {T : List zJ} (h : Rel X T) : (X.map zcv.name).Perm (T.map zJ.name) := by
  refine zix h.nod h.sort.nodup fun a => ?_
  constructor
  · intro ha
    obtain ⟨p, hp, rfl⟩ := List.mem_map.1 ha
    obtain ⟨y, hy, hr⟩ := h.fw p hp
    exact List.mem_map.2 ⟨y, hy, hr.name.symm⟩
  · intro ha
    obtain ⟨y, hy, rfl⟩ := List.mem_map.1 ha
    obtain ⟨p, hp, hr⟩ := h.bw y hy
    exact List.mem_map.2 ⟨p, hp, hr.name⟩
theorem gr_names {G L : List (List UInt8 × Int)} (h : GR G L) : (G.map Prod.fst).Perm (L.map Prod.fst) := by
  refine zix h.nod h.sort.nodup fun a => ?_
  simp only [List.mem_map, h.mem]
def zdo (T : zP) (n : List UInt8) : Option zJ := match atF n T.l 0 with
  | none => none
  | some k => T.l[k]?
def zie (T : zP) (n : List UInt8) : List (List UInt8 × Int) := match zdo T n with
  | none => []
  | some x => x.groups
def zdk (T : zP) (n g : List UInt8) : Int × Int := match zdo T n with
  | none => (0, 4)
  | some x => match zmw g x.groups with
    | none => (0, 4)
    | some v => (v, 0)
def lastQ (T : zP) (c : Int) : Int × Int × Int := if c < 0 ∨ 8 ≤ c then (0, 0, 0) else T.last.getD c.toNat (0, 0, 0)
theorem zgD {X : List zcv} {T : zP} (h : Rel X T.l) (n : List UInt8) : (zem n X 0 = none ∧ zdo T n = none) ∨ ∃ i p y, zem n X 0 = some (i, p) ∧ X[i]? = some p ∧ p.x.name = n ∧ zdo T n = some y ∧ y ∈ T.l ∧ TR p.x y := by
  cases hx : zem n X 0 with
  | none => exact .inl ⟨rfl, by rw [zdo, h.no hx]⟩
  | some q =>
    obtain ⟨i, p⟩ := q
    obtain ⟨h1, h2, k, y, h3, h4, h5⟩ := h.yes hx
    refine .inr ⟨i, p, y, rfl, h1, h2, ?_, List.mem_of_getElem? h4, h5⟩
    rw [zdo, h3]; exact h4
abbrev zit (l : List (List UInt8)) : List (List D) := l.map fun x => [.str x]
section

variable {σ : List zb} {id m : Nat} {X : List zcv} {T : zP} {O : Nat → Prop} {K : AV → List zb → Prop}

theorem c_KeysTop {m : Nat} (hK : K (.fn (.func zr) [] [.box σ.length 0]) (σ ++ [.box [.map m]])) : zu Try.prog zH [.map m] σ K := by
  refine zau zah.is rfl fun hl _ => zah.goes ?_
  simp only [zaj, iN, bT, bF, eN]
  refine zbw ?_
  exact zaR hK
theorem c_KeysGrp {m : Nat} (hK : K (.fn (.func zK) [] [.box σ.length 0]) (σ ++ [.box [.map m]])) : zu Try.prog zam [.map m] σ K := by
  refine zau zaW.is rfl fun hl _ => zaW.goes ?_
  simp only [zaX, iN, bT, bF, eN]
  refine zbw ?_
  exact zaR hK
theorem hf_top : F2 Try.prog zr zgh := zbe
theorem hf_grp : F2 Try.prog zK zgh := zbT
theorem c_tpNames (h : zdm σ id T O) (hI : zcF T) (hK : K (.d (.slice (zit (T.l.map zJ.name)))) σ) : zu Try.prog zbz [.box id 0] σ K := by
  obtain ⟨m, X, hP, hR, hO⟩ := h
  refine zlr zgO fun hl => ?_
  have hb := hP.box
  have hlen : X.length ≤ 8 := by rw [hR.len]; exact hI.len
  simp only [zee, iN, bT, bF, eN]
  refine zbw ?_
  refine zht hb ?_
  refine zV hb ?_
  refine c_KeysTop ?_
  refine zbw ?_
  refine zjJ (names := X.map zcv.name) (L := T.l.map zJ.name) hf_top (by simp [zmd, zhw]) (by simp; omega) (by rw [zl]; rfl) (ze hP.map) (rel_names hR) hR.sort ?_
  refine zbw ?_
  refine zde hl ?_
  exact hK
theorem zlR {n : List UInt8} (h : zdm σ id T O) (hI : zcF T) (hK : K (.d (.slice (zit ((zie T n).map Prod.fst)))) σ) : zu Try.prog zbu [.box id 0, .d (.str n)] σ K := by
  obtain ⟨m, X, hP, hR, hO⟩ := h
  refine acE2 zgx fun hl => ?_
  simp only [zdI, iN, bT, bF, eN]
  refine zbw ?_
  refine ziM hP ?_
  rcases zgD hR n with ⟨h1, h2⟩ | ⟨i, p, y, h1, h2, h3, h4, h5, h6⟩
  · rw [h1]
    rw [zie, h2] at hK
    refine zV (show ((4 : Int) != 0) = true from rfl) ?_
    refine zde hl ?_
    exact hK
  · rw [h1]
    rw [zie, h4] at hK
    have hp := hP.tops p (List.mem_of_getElem? h2)
    have hb := hp.b
    have hlen : p.x.groups.length ≤ 8 := by rw [h6.gr.len]; exact (hI.tops y h5).groups
    refine zV hb ?_
    refine c_KeysGrp ?_
    refine zbw ?_
    refine zjJ (names := p.x.groups.map Prod.fst) (L := y.groups.map Prod.fst) hf_grp (by simp [grpM, zhw]) (by simp; omega) (by rw [zl]; rfl) (ze hp.g) (gr_names h6.gr) h6.gr.sort ?_
    refine zbw ?_
    refine zde hl ?_
    exact hK
theorem zmG {n g : List UInt8} (h : zdm σ id T O) (hK : K (.tup [.d (.int .i64 (zdk T n g).1), .d (.int .i64 (zdk T n g).2)]) σ) : zu Try.prog zbD [.box id 0, .d (.str n), .d (.str g)] σ K := by
  obtain ⟨m, X, hP, hR, hO⟩ := h
  refine acE3 zfy fun hl => ?_
  simp only [zcW, iN, bT, bF, eN]
  refine zbw ?_
  refine ziM hP ?_
  rcases zgD hR n with ⟨h1, h2⟩ | ⟨i, p, y, h1, h2, h3, h4, h5, h6⟩
  · rw [h1]
    rw [zdk, h2] at hK
    refine zV (show ((4 : Int) != 0) = true from rfl) ?_
    refine zde hl ?_
    exact hK
  · rw [h1]
    rw [zdk, h4] at hK
    simp only [h6.gr.had g] at hK
    have hp := hP.tops p (List.mem_of_getElem? h2)
    have hb := hp.b
    have hg := hp.g
    have hf := zhl g p.x.groups 0
    cases hx : zgw g p.x.groups 0 with
    | none =>
      rw [hx] at hf hK
      refine zkH (zd hb (zd hg hf)) ?_
      refine zde hl ?_
      exact hK
    | some q =>
      rw [hx] at hf hK
      refine zkH (zd hb (zd hg hf)) ?_
      refine zde hl ?_
      exact hK
theorem c_tpLast {c : Int} (h : zdm σ id T O) (hK : K (.tup [.d (.int .i64 (lastQ T c).1), .agg [.d (.int .i64 (lastQ T c).2.1), .d (.int .i64 (lastQ T c).2.2)]]) σ) : zu Try.prog zcC [.box id 0, .d (.int .i64 c)] σ K := by
  obtain ⟨m, hb, h8⟩ := h.box
  refine acE2 zhz fun hl => ?_
  have hid := zh hb
  have xb : ∀ τ, (σ ++ τ)[id]? = _ := fun τ => ze hb
  simp only [zeC, iN, bT, bF, eN]
  refine zbw ?_
  refine zht (xb _) ?_
  cases c0 : decide (c < 0)
  rotate_left
  · rw [lastQ, if_pos (by simp at c0; omega)] at hK
    refine zV (zd c0 xb) ?_
    refine zde hl ?_
    exact hK
  cases c1 : decide (c ≥ 8)
  rotate_left
  · rw [lastQ, if_pos (by simp at c1; omega)] at hK
    refine zV (zd c0 (zd c1 xb)) ?_
    refine zde hl ?_
    exact hK
  have e0 := c0; have e1 := c1
  simp only [decide_eq_false_iff_not, Int.not_lt, ge_iff_le, Int.not_le] at e0 e1
  obtain ⟨a, ha⟩ : ∃ a, T.last[c.toNat]? = some a := ⟨_, List.getElem?_eq_getElem (by omega)⟩
  rw [lastQ, if_neg (by omega), List.getD_eq_getElem?_getD, ha] at hK
  have hl3 := zeW ha
  have hlc := zcL T.last
  have hl4 : ∀ X : AV, List.take 3 (List.drop (1 + c.toNat * 3) (X :: zbb T.last)) = [.d (.int .i64 a.1), .d (.int .i64 a.2.1), .d (.int .i64 a.2.2)] := fun X => by
    rw [Nat.add_comm, List.drop_succ_cons]; exact hl3
  have hl1 : ∀ X : AV, (X :: zbb T.last)[1 + c.toNat * 3]? = some (.d (.int .i64 a.1)) := fun X => by
    have := congrArg (·[0]?) (hl4 X)
    simpa [List.getElem?_take, List.getElem?_drop] using this
  have hl2 : ∀ X : AV, List.take 2 (List.drop (1 + (c.toNat * 3 + 1)) (X :: zbb T.last)) = [.d (.int .i64 a.2.1), .d (.int .i64 a.2.2)] := fun X => by
    rw [← Nat.add_assoc]
    have := congrArg (List.drop 1) (hl4 X)
    rw [List.drop_take, List.drop_drop] at this
    simpa using this
  refine zV (zd c0 (zd c1 (zd xb (zd hl1 hl2)))) ?_
  refine zde hl ?_
  exact hK
end

end Go.Proofs.Ytaocmalhjfakdaa
