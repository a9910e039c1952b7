/- An end of a call that zmv all that it made: what the caller's objects name now lies there. -/
import Derived.Test.YthpnelbciibjeaaAwFrz
import Derived.Sort.Grow
set_option linter.all false
set_option linter.unusedSimpArgs false
set_option linter.unusedVariables false
namespace Go.AW
section
variable {P : Program} {σ : List zc}

def EndsA (K : AV → List zc → Prop) (out : Option (List AV)) (σ' : List zc) : Prop := match out with
  | some l => ∃ s, zkH [] σ' [] s ∧ K (dmT (zdg l)) s
  | none => False
theorem zba {f : FuncId} {F : AF} {na : Nat} (hF : isFn P f F na) {as0 : List AV} (has : as0.length = na) {K : AV → List zc → Prop}
    (h : zfx σ.length σ → (∀ a ∈ as0, Low σ.length a) → awp P F.body (AtEnd fun fr' σ' => EndsA K (zlp fr' σ' F.res) σ') (zfR 0 as0) σ) : zj P f as0 σ K :=
  zjA hF has _ (fun {L w L' σ' w' fr' ts} S st S' F' hz => by
    unfold EndsA at hz
    split at hz
    · rename_i l hl
      obtain ⟨s, hw, hK⟩ := hz
      obtain ⟨L2, st2, S2, _⟩ := zhy hw S' (us := []) ⟨rfl, by simp⟩
      exact ⟨L2, s, l, dmT (zdg l), hl, st.trans st2, S2, fun v hr => dmT_sound (st2.rv hr), hK⟩
    · exact hz.elim) h
theorem zbE {K : AV → List zc → Prop} {l : List AV} {s : List zc} (h : K (dmT (zdg l)) s) : EndsA K (some l) s := ⟨_, .refl _ _, h⟩
end


theorem row_fill {L : Nat → Loc} {σ : List zc} {w w' : World} (S : Sim L σ w) {id g sz : Nat} {cs cs' : List AV} (hx : σ[id]? = some (.row g sz cs)) (hl : cs'.length = cs.length) (hsc' : ∀ c ∈ cs', sc c = true)
    (h1 : w'.os = w.os) (h2 : w'.tape = w.tape) (h3 : w'.output = w.output) (h4 : w.heap.size ≤ w'.heap.size)
    (hblk : ∀ b, b < w.heap.size → b ≠ (L id).a.block → w'.heap[b]? = w.heap[b]?)
    (hblk0 : (∀ o, ¬ zbI (L id) (.row g sz cs) (L id).a.block o) → w'.heap[(L id).a.block]? = w.heap[(L id).a.block]?)
    (hc : ∀ b o, b < w.heap.size → ¬ zbI (L id) (.row g sz cs) b o → w'.cell? ⟨b, o, none⟩ = w.cell? ⟨b, o, none⟩)
    (hfz : ∀ b o, b < w.heap.size → w'.frozen? ⟨b, o, none⟩ = w.frozen? ⟨b, o, none⟩)
    (hin : ∀ o, zbI (L id) (.row g sz cs) (L id).a.block o → ∃ v, w'.cell? ⟨(L id).a.block, o, none⟩ = some v)
    (hcells : ∀ (j : Nat) c, cs'[j]? = some c → ∃ v, w'.cell? ⟨(L id).a.block, (L id).a.off + j, none⟩ = some v ∧ RV w' L (σ.set id (.row g sz cs')) c v) :
    zbj L σ w L (σ.set id (.row g sz cs')) w' ∧ Sim L (σ.set id (.row g sz cs')) w' := by
  have hf : ∀ b o, zbI (L id) (.row g sz cs') b o → zbI (L id) (.row g sz cs) b o := fun b o h => h
  have own : ∀ b o, zbI (L id) (.row g sz cs) b o → Own L σ b o := fun b o h => ⟨id, _, hx, h⟩
  have s : zbj L σ w L (σ.set id (.row g sz cs')) w' := by
    refine ⟨h1, h2, h3, h4, fun c hc' hn => ?_, fun c p hc' hn => hc c p hc' fun h => hn (own _ _ h), fun c p hc' hn => hfz c p hc', fun c p _ h => zjW hx hf h, by simp, fun i y hy => ?_⟩
    · by_cases e : c = (L id).a.block
      · subst e
        exact hblk0 fun o h => hn o (own _ _ h)
      · exact hblk c hc' e
    · by_cases e : id = i
      · subst e
        rw [hx] at hy; cases hy
        exact ⟨.row g sz cs', by simp [ze hx], fun _ => rfl, fun _ _ => rfl, fun _ _ e => (by cases e), fun g' sz' c' e => by cases e; exact .inr ⟨g, cs', rfl, Nat.le_refl _, fun _ => ⟨rfl, hl⟩⟩⟩
      · exact .stay (by rw [List.getElem?_set_ne e]; exact hy) rfl
  refine ⟨s, fun i y hy => ?_, fun i j y z c p hij hy hz hfy hfz' => ?_⟩
  · rcases zE hy with ⟨rfl, rfl⟩ | ⟨hne, hy⟩
    · obtain ⟨k0, k1, ksc, ks, k2, k3⟩ := S.obj i _ hx
      refine ⟨k0, by rw [hl]; exact k1, hsc', fun h => Nat.lt_of_lt_of_le (ks h) h4, fun o ho ho' => ?_, hcells⟩
      obtain ⟨⟨u, h5⟩, h6⟩ := k2 o ho ho'
      exact ⟨hin o ⟨rfl, ho, ho'⟩, (hfz _ _ (cell?_some_lt h5)).trans h6⟩
    · have ho := S.obj i y hy
      refine ho.keep s (fun c p hfp => ?_) (fun c hc' => ?_)
      · have hlt : c < w.heap.size := S.own_lt ⟨i, y, hy, hfp⟩
        exact ⟨hc c p hlt fun h => S.apart i id y _ c p hne hy hx hfp h, hfz c p hlt⟩
      · have hlt : c < w.heap.size := S.own_lt ⟨i, y, hy, hc' 0⟩
        by_cases e : c = (L id).a.block
        · subst e
          exact hblk0 fun o h => S.apart i id y _ _ o hne hy hx (hc' o) h
        · exact hblk c hlt e
  · have key : ∀ {i y}, (σ.set id (.row g sz cs'))[i]? = some y → zbI (L i) y c p → ∃ y', σ[i]? = some y' ∧ zbI (L i) y' c p := fun {i y} hy hfy => by
      rcases zE hy with ⟨rfl, rfl⟩ | ⟨_, hy⟩
      · exact ⟨_, hx, hf _ _ hfy⟩
      · exact ⟨y, hy, hfy⟩
    obtain ⟨y', hy', hfy'⟩ := key hy hfy
    obtain ⟨z', hz', hfz''⟩ := key hz hfz'
    exact S.apart i j y' z' c p hij hy' hz' hfy' hfz''
open Go.Sort

structure SortsC {α : Type} [Inhabited α] (P : Program) (f : FuncId) (enc : α → Value) (srt : List α → List α) : Prop where
  some : ∀ (blk off cap : Nat) (ss : List α) (W : World), Go.Sort.Holds enc W blk off ss.toArray → blk < W.heap.size → ss.length < 4611686018427387904 →
    Calls P f #[.slice (some ⟨blk, off, none⟩) ss.length cap] W fun e w' => e = .returned (.tuple #[]) ∧ ∃ k os, w' = grow (putRow enc (Go.Sort.ahead W k) blk off (srt ss).toArray) os
  none : ∀ (p : Option Addr) (cap : Nat) (W : World), Calls P f #[.slice p 0 cap] W fun e w' => e = .returned (.tuple #[]) ∧ w' = W
  len : ∀ l, (srt l).length = l.length
theorem acall_sort {α : Type} [Inhabited α] {P : Program} {f : FuncId} {enc : α → Value} {srt : List α → List α} {dA : α → D} (hd : ∀ w O x v, RD w O (dA x) v ↔ v = enc x) (hok : zkC P f = true) (hs : SortsC P f enc srt)
    {σ : List zc} {t g : Nat} {l : List α} (hσ : σ[t]? = some (.row g 1 (l.map fun x => .d (dA x)))) (hn : l.length < 4611686018427387904) {K : AV → List zc → Prop}
    (hK : K (.tup []) (σ.set t (.row g 1 ((srt l).map fun x => .d (dA x))))) : zj P f [.rsl t g 1 0 l.length] σ K := by
  refine ⟨hok, fun L w vs S hv => ?_⟩
  obtain ⟨hv1, hv2⟩ := hv
  obtain ⟨v, rfl⟩ : ∃ v, vs = [v] := by
    match vs, hv1 with
    | [v], _ => exact ⟨v, rfl⟩
  have hv3 := hv2 0 _ _ rfl rfl
  obtain ⟨b, c, rfl, _, hlh, hle, hb, hb', _, hcur⟩ := hv3.rsl_inv
  obtain ⟨_, q2, q3, q4, q5⟩ := hcur 1 _ hσ
  have hlen := hs.len l
  rw [Nat.sub_zero]
  rcases Nat.eq_zero_or_pos l.length with h0 | h0
  · rw [h0]
    refine (hs.none b c w).mono ?_
    rintro e w' ⟨rfl, rfl⟩
    have e1 : l = [] := List.length_eq_zero_iff.1 h0
    subst e1
    have e2 : srt [] = [] := List.length_eq_zero_iff.1 hlen
    rw [e2, List.map_nil] at hK
    rw [List.map_nil] at hσ
    have e3 : σ.set t (.row g 1 []) = σ := by
      apply List.ext_getElem?
      intro i
      rw [List.getElem?_set]
      split
      · rename_i e; subst e; rw [hσ]; simp [ze hσ]
      · rfl
    rw [e3] at hK
    exact ⟨L, σ, .tup [], .refl _ _ _, S, .tup [] [] rfl (by simp), hK⟩
  · have hcap : l.length ≤ (L t).cap := q3
    obtain ⟨k0, k1, ksc, ks, k2, k3⟩ := S.obj t _ hσ
    have hlt := ks (by omega)
    rw [q5 (by omega)]
    simp only [Nat.zero_mul, Nat.add_zero]
    have hH : Go.Sort.Holds enc w (L t).a.block (L t).a.off l.toArray := fun j hj => by
      have hj' : j < l.length := by simpa using hj
      obtain ⟨u, h1, h2⟩ := k3 j (.d (dA l[j])) (by simp [hj'])
      cases h2 with
      | d _ _ h2 =>
        have := (hd _ _ _ _).1 h2
        subst this
        refine ⟨by rw [h1]; simp [hj'], (k2 _ (by omega) (by omega)).2⟩
    refine (hs.some (L t).a.block (L t).a.off c l w hH hlt hn).mono ?_
    rintro e w' ⟨rfl, k, os, rfl⟩
    have hH' : Go.Sort.Holds enc (Go.Sort.ahead w k) (L t).a.block (L t).a.off l.toArray := hH
    have hsz : (putRow enc (Go.Sort.ahead w k) (L t).a.block (L t).a.off (srt l).toArray).heap.size = w.heap.size := by simp [putRow, mapBlock, Go.Sort.ahead]
    have oth : ∀ b, b < w.heap.size → b ≠ (L t).a.block → (grow (putRow enc (Go.Sort.ahead w k) (L t).a.block (L t).a.off (srt l).toArray) os).heap[b]? = w.heap[b]? := fun b hb hne => by
      rw [heap_grow_old _ _ (by rw [hsz]; exact hb)]
      simp [putRow, mapBlock, Go.Sort.ahead, Array.getElem?_modify, Ne.symm hne]
    have cel : ∀ b o, b < w.heap.size → (grow (putRow enc (Go.Sort.ahead w k) (L t).a.block (L t).a.off (srt l).toArray) os).cell? ⟨b, o, none⟩ = (putRow enc (Go.Sort.ahead w k) (L t).a.block (L t).a.off (srt l).toArray).cell? ⟨b, o, none⟩ := fun b o hb => cell?_grow _ _ _ (by rw [hsz]; exact hb)
    have inn : ∀ j, j < l.length → (grow (putRow enc (Go.Sort.ahead w k) (L t).a.block (L t).a.off (srt l).toArray) os).cell? ⟨(L t).a.block, (L t).a.off + j, none⟩ = some (enc (srt l).toArray[j]!) := fun j hj => by
      rw [cel _ _ hlt]
      exact cell?_putRow enc (Go.Sort.ahead w k) _ _ l.toArray (srt l).toArray hH' (by simp [hlen]) j (by simp [hlen, hj])
    have out : ∀ o, o < (L t).a.off ∨ (L t).a.off + l.length ≤ o → (grow (putRow enc (Go.Sort.ahead w k) (L t).a.block (L t).a.off (srt l).toArray) os).cell? ⟨(L t).a.block, o, none⟩ = w.cell? ⟨(L t).a.block, o, none⟩ := fun o ho => by
      rw [cel _ _ hlt]
      exact cell?_putRow_other enc (Go.Sort.ahead w k) _ _ _ _ (.inr (by simpa [hlen] using ho))
    obtain ⟨s, S'⟩ := row_fill (w' := grow (putRow enc (Go.Sort.ahead w k) (L t).a.block (L t).a.off (srt l).toArray) os) S hσ (cs' := (srt l).map fun x => .d (dA x)) (by simp [hlen]) (by simp [sc]) rfl rfl rfl (by rw [size_grow, hsz]; omega) oth
      (fun h => absurd (⟨rfl, Nat.le_refl _, by omega⟩ : zbI (L t) (.row g 1 (l.map fun x => .d (dA x))) (L t).a.block (L t).a.off) (h _))
      (fun b o hb hf => by
        by_cases e : b = (L t).a.block
        · subst e
          refine out o ?_
          have : ¬ ((L t).a.off ≤ o ∧ o < (L t).a.off + (L t).cap * 1) := fun h => hf ⟨rfl, h.1, h.2⟩
          omega
        · rw [cel _ _ hb]
          exact cell?_putRow_other enc (Go.Sort.ahead w k) _ _ _ _ (.inl e))
      (fun b o hb => by
        rw [frozen?_grow _ _ _ (by rw [hsz]; exact hb), frozen?_putRow]; rfl)
      (fun o ho => by
        obtain ⟨_, h1, h2⟩ := ho
        by_cases e : o < (L t).a.off + l.length
        · have := inn (o - (L t).a.off) (by omega)
          rw [show (L t).a.off + (o - (L t).a.off) = o by omega] at this
          exact ⟨_, this⟩
        · obtain ⟨⟨u, h3⟩, _⟩ := k2 o h1 h2
          exact ⟨u, (out o (by omega)).trans h3⟩)
      (fun j c hj => by
        rw [List.getElem?_map] at hj
        obtain ⟨x, hx, rfl⟩ := Option.map_eq_some_iff.1 hj
        have hjl := ze hx
        rw [hlen] at hjl
        refine ⟨_, inn j hjl, .d _ _ ((hd _ _ _ _).2 ?_)⟩
        have hjs : j < (srt l).length := by omega
        have : (srt l)[j] = x := Option.some.inj ((List.getElem?_eq_getElem hjs).symm.trans hx)
        rw [← this]; simp [hjs])
    exact ⟨L, _, .tup [], s, S', .tup [] [] rfl (by simp), hK⟩
end Go.AW
