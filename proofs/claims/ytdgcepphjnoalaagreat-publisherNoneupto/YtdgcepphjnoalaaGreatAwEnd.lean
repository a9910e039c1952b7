/- ENDS OF A CALL that keep some of what it made: what zld is renumbered behind what was there. -/
import Derived.Test.YtdgcepphjnoalaaGreatAwRun
import Derived.IntWalk
set_option linter.all false
set_option linter.unusedSimpArgs false
set_option linter.unusedVariables false
namespace Go.AW
section
variable {P : Program} {w : World} {L : Nat → Loc} {σ : List zc}

def idxK : List Nat → Nat → Nat → Option Nat
  | [], _, _ => none
  | k :: ks, id, m => if id = k then some m else idxK ks id (m + 1)
def zkz (n : Nat) (ks : List Nat) (id : Nat) : Option Nat := if id < n then some id else idxK ks id n

mutual
def zdb (f : Nat → Option Nat) : AV → Option AV
  | .d x => some (.d x)
  | .agg cs => match zhE f cs with | some l => some (.agg l) | none => none
  | .tup cs => match zhE f cs with | some l => some (.tup l) | none => none
  | .own t es => match f t with | some t' => some (.own t' es) | none => none
  | .exact es => some (.exact es)
  | .bsl id off len cap sz => match f id with | some i => some (.bsl i off len cap sz) | none => none
  | .box id off => match f id with | some i => some (.box i off) | none => none
  | .vp cs => some (.vp cs)
  | .map id => match f id with | some i => some (.map i) | none => none
  | .iter id => match f id with | some i => some (.iter i) | none => none
  | .fn g a b => match zhE f a, zhE f b with | some a', some b' => some (.fn g a' b') | _, _ => none
  | .rsl t g sz lo hi => match f t with | some t' => some (.rsl t' g sz lo hi) | none => none
  | .rpt t g off => match f t with | some t' => some (.rpt t' g off) | none => none
  | .undef => some .undef
def zhE (f : Nat → Option Nat) : List AV → Option (List AV)
  | [] => some []
  | a :: l => match zdb f a, zhE f l with | some a', some l' => some (a' :: l') | _, _ => none
end

def renPs (f : Nat → Option Nat) : List (AV × AV) → Option (List (AV × AV))
  | [] => some []
  | e :: l => match zdb f e.1, zdb f e.2, renPs f l with | some a, some b, some l' => some ((a, b) :: l') | _, _, _ => none
def zjT (f : Nat → Option Nat) : zc → Option zc
  | .box cs => match zhE f cs with | some l => some (.box l) | none => none
  | .map es => match renPs f es with | some l => some (.map l) | none => none
  | .tok sz n => some (.tok sz n)
  | .iter s p => some (.iter s p)
  | .dead => some .dead
  | .mapr c bs es => match renPs f es with | some l => some (.mapr c bs l) | none => none
  | .mit none c s => some (.mit none c s)
  | .lrec b r vs => match zhE f vs with | some l => some (.lrec b r l) | none => none
  | .mit (some m) c s => match f m with | some m' => some (.mit (some m') c s) | none => none
  | .row g sz cs => match zhE f cs with | some l => some (.row g sz l) | none => none
def znZ (f : Nat → Option Nat) : List zc → Option (List zc)
  | [] => some []
  | x :: l => match zjT f x, znZ f l with | some a, some l' => some (a :: l') | _, _ => none

theorem zdq {f : Nat → Option Nat} : ∀ {l l' : List AV}, zhE f l = some l' → l'.length = l.length ∧ ∀ (i : Nat) a b, l[i]? = some a → l'[i]? = some b → zdb f a = some b
  | [], l', h => by simp [zhE] at h; subst h; simp
  | a :: l, l', h => by
    simp only [zhE] at h
    split at h
    · rename_i a' t h1 h2
      cases h
      obtain ⟨g1, g2⟩ := zdq h2
      refine ⟨by simp [g1], fun i x y hx hy => ?_⟩
      cases i with
      | zero => simp at hx hy; subst hx hy; exact h1
      | succ i => exact g2 i x y hx hy
    · cases h
theorem znY {f : Nat → Option Nat} : ∀ {l l' : List (AV × AV)}, renPs f l = some l' → l'.length = l.length ∧ ∀ (i : Nat) a b, l[i]? = some a → l'[i]? = some b → zdb f a.1 = some b.1 ∧ zdb f a.2 = some b.2
  | [], l', h => by simp [renPs] at h; subst h; simp
  | a :: l, l', h => by
    simp only [renPs] at h
    split at h
    · rename_i a' b' t h1 h2 h3
      cases h
      obtain ⟨g1, g2⟩ := znY h3
      refine ⟨by simp [g1], fun i x y hx hy => ?_⟩
      cases i with
      | zero => simp at hx hy; subst hx hy; exact ⟨h1, h2⟩
      | succ i => exact g2 i x y hx hy
    · cases h
theorem renOs_get {f : Nat → Option Nat} : ∀ {l l' : List zc}, znZ f l = some l' → l'.length = l.length ∧ ∀ (i : Nat) a b, l[i]? = some a → l'[i]? = some b → zjT f a = some b
  | [], l', h => by simp [znZ] at h; subst h; simp
  | a :: l, l', h => by
    simp only [znZ] at h
    split at h
    · rename_i a' t h1 h2
      cases h
      obtain ⟨g1, g2⟩ := renOs_get h2
      refine ⟨by simp [g1], fun i x y hx hy => ?_⟩
      cases i with
      | zero => simp at hx hy; subst hx hy; exact h1
      | succ i => exact g2 i x y hx hy
    · cases h

structure zrn (L L2 : Nat → Loc) (σ σ2 : List zc) (f : Nat → Option Nat) : Prop where
  obj : ∀ id i x, f id = some i → σ[id]? = some x → L2 i = L id ∧ ∃ y, σ2[i]? = some y ∧ y.kind = x.kind ∧ (∀ sz n, x = .tok sz n → y = .tok sz n) ∧ (∀ g sz cs, x = .row g sz cs → ∃ cs', y = .row g sz cs' ∧ cs'.length = cs.length)
  own : ∀ b o, Own L2 σ2 b o → Own L σ b o

theorem RV.ren {L2 : Nat → Loc} {σ2 : List zc} {f : Nat → Option Nat} (R : zrn L L2 σ σ2 f) {x y : AV} {v : Value} (h : RV w L σ x v) (hy : zdb f x = some y) : RV w L2 σ2 y v := by
  have rd : ∀ {x : D} {v : Value}, RD w (Own L σ) x v → RD w (Own L2 σ2) x v := fun h => zfA R.own h
  have fx : ∀ {id i}, f id = some i → zkb σ id → L2 i = L id ∧ zkb σ2 i := fun {id i} hf ⟨z, h1, h2⟩ => by
    obtain ⟨e, y, g1, g2, _⟩ := R.obj id i z hf h1
    exact ⟨e, y, g1, by rw [g2]; exact h2⟩
  have rw' : ∀ {t i}, f t = some i → zpy σ t → L2 i = L t ∧ zpy σ2 i ∧ ∀ g sz cs', σ2[i]? = some (.row g sz cs') → ∃ cs, σ[t]? = some (.row g sz cs) ∧ cs'.length = cs.length := fun {t i} hf ⟨z, h1, h2⟩ => by
    obtain ⟨e, y, g1, g2, _, g4⟩ := R.obj t i z hf h1
    refine ⟨e, ⟨y, g1, by rw [g2]; exact h2⟩, fun g sz cs' e' => ?_⟩
    rw [g1] at e'; cases e'
    cases z with
    | row g0 sz0 cs0 =>
      obtain ⟨cs2, e2, e3⟩ := g4 g0 sz0 cs0 rfl
      cases e2
      exact ⟨cs0, h1, e3⟩
    | _ => simp [zc.kind] at g2
  induction h generalizing y with
  | d _ _ h => simp [zdb] at hy; subst hy; exact .d _ _ (rd h)
  | agg cs vs h1 h2 ih =>
    simp only [zdb] at hy
    split at hy
    · rename_i l hl
      cases hy
      obtain ⟨g1, g2⟩ := zdq hl
      refine .agg _ _ (by omega) fun i c v hc hv => ?_
      have hi := ze hc
      have hx : cs[i]? = some (cs[i]'(by omega)) := List.getElem?_eq_getElem _
      exact ih i _ v hx hv (g2 i _ c hx hc)
    · cases hy
  | tup cs vs h1 h2 ih =>
    simp only [zdb] at hy
    split at hy
    · rename_i l hl
      cases hy
      obtain ⟨g1, g2⟩ := zdq hl
      refine .tup _ _ (by omega) fun i c v hc hv => ?_
      have hi := ze hc
      have hx : cs[i]? = some (cs[i]'(by omega)) := List.getElem?_eq_getElem _
      exact ih i _ v hx hv (g2 i _ c hx hc)
    · cases hy
  | own t es v sz k h1 h2 h3 h4 h5 =>
    simp only [zdb] at hy
    split at hy
    · rename_i t' ht
      cases hy
      obtain ⟨e, y, g1, g2, g3, _⟩ := R.obj t t' _ ht h1
      rw [g3 sz k rfl] at g1
      exact .own t' es v sz k g1 h2 h3 (rd h4) (by rw [e]; exact h5)
    · cases hy
  | exact es a h => simp [zdb] at hy; subst hy; exact .exact _ _ (rd h)
  | bsl id off len cap sz h1 h2 =>
    simp only [zdb] at hy
    split at hy
    · rename_i i hi
      cases hy
      obtain ⟨e, g⟩ := fx hi h1
      rw [← e]; exact .bsl _ _ _ _ _ g h2
    · cases hy
  | box id off h1 =>
    simp only [zdb] at hy
    split at hy
    · rename_i i hi
      cases hy
      obtain ⟨e, g⟩ := fx hi h1
      rw [← e]; exact .box _ _ g
    · cases hy
  | vp cs b off h =>
    simp [zdb] at hy; subst hy
    refine .vp _ _ _ fun j d hj => ?_
    obtain ⟨v, h1, h2, h3⟩ := h j d hj
    exact ⟨v, h1, fun h => h2 (R.own _ _ h), rd h3⟩
  | map id h1 =>
    simp only [zdb] at hy
    split at hy
    · rename_i i hi
      cases hy
      obtain ⟨e, g⟩ := fx hi h1
      rw [← e]; exact .map _ g
    · cases hy
  | iter id h1 =>
    simp only [zdb] at hy
    split at hy
    · rename_i i hi
      cases hy
      obtain ⟨e, g⟩ := fx hi h1
      rw [← e]; exact .iter _ g
    · cases hy
  | fn g first cap fs cs h1 h2 _ _ ih1 ih2 =>
    simp only [zdb] at hy
    split at hy
    · rename_i a b ha hb
      cases hy
      obtain ⟨g1, g2⟩ := zdq ha
      obtain ⟨k1, k2⟩ := zdq hb
      refine .fn _ _ _ _ _ (by omega) (by omega) (fun i c v hc hv => ?_) (fun i c v hc hv => ?_)
      · have hi := ze hc
        have hx : first[i]? = some (first[i]'(by omega)) := List.getElem?_eq_getElem _
        exact ih1 i _ v hx hv (g2 i _ c hx hc)
      · have hi := ze hc
        have hx : cap[i]? = some (cap[i]'(by omega)) := List.getElem?_eq_getElem _
        exact ih2 i _ v hx hv (k2 i _ c hx hc)
    · cases hy
  | rsl t g sz lo hi a c h1 h2 h3 h4 h5 h6 h7 =>
    simp only [zdb] at hy
    split at hy
    · rename_i i hi'
      cases hy
      obtain ⟨e, k1, k2⟩ := rw' hi' h1
      refine .rsl _ _ _ _ _ _ _ k1 (fun g' sz' cs' e' => ?_) h3 h4 h5 h6 (fun sz' cs' e' => ?_)
      · obtain ⟨cs, e2, _⟩ := k2 g' sz' cs' e'
        exact h2 g' sz' cs e2
      · obtain ⟨cs, e2, e3⟩ := k2 g sz' cs' e'
        rw [e, e3]
        exact h7 sz' cs e2
    · cases hy
  | rpt t g off b o h1 h2 h3 =>
    simp only [zdb] at hy
    split at hy
    · rename_i i hi'
      cases hy
      obtain ⟨e, k1, k2⟩ := rw' hi' h1
      refine .rpt _ _ _ _ _ k1 (fun g' sz' cs' e' => ?_) (fun sz' cs' e' => ?_)
      · obtain ⟨cs, e2, _⟩ := k2 g' sz' cs' e'
        exact h2 g' sz' cs e2
      · obtain ⟨cs, e2, e3⟩ := k2 g sz' cs' e'
        rw [e]
        exact h3 sz' cs e2
    · cases hy
  | undef v => simp [zdb] at hy; subst hy; exact .undef v

theorem renAV_sc {f : Nat → Option Nat} {a b : AV} (h : zdb f a = some b) (hs : sc a = true) : sc b = true := by
  cases a <;> simp only [zdb] at h <;> first
    | (simp [sc] at hs; done)
    | (cases h; rfl)
    | (split at h <;> first | (cases h; rfl) | (cases h; done))
theorem zlQ.ren {L2 : Nat → Loc} {σ2 : List zc} {f : Nat → Option Nat} (R : zrn L L2 σ σ2 f) {x y : zc} {l : Loc} (h : zlQ w L σ l x) (hy : zjT f x = some y) : zlQ w L2 σ2 l y := by
  cases x with
  | box cs =>
    simp only [zjT] at hy
    split at hy
    · rename_i l' hl
      cases hy
      obtain ⟨g1, g2⟩ := zdq hl
      obtain ⟨h1, h2, h3⟩ := h
      refine ⟨h1, h2, fun j c hj => ?_⟩
      have hi := ze hj
      have hx : cs[j]? = some (cs[j]'(by omega)) := List.getElem?_eq_getElem _
      obtain ⟨h4, v, h5, h6⟩ := h3 j _ hx
      exact ⟨h4, v, h5, h6.ren R (g2 j _ c hx hj)⟩
    · cases hy
  | map es =>
    simp only [zjT] at hy
    split at hy
    · rename_i l' hl
      cases hy
      obtain ⟨g1, g2⟩ := znY hl
      obtain ⟨ms, clock, h1, h2, h3, h4⟩ := h
      refine ⟨ms, clock, h1, by omega, fun i e m he hm => ?_, h4⟩
      have hi := ze he
      have hx : es[i]? = some (es[i]'(by omega)) := List.getElem?_eq_getElem _
      have k := h3 i _ m hx hm
      have q := g2 i _ e hx he
      exact ⟨k.1.ren R q.1, k.2.ren R q.2⟩
    · cases hy
  | mapr c bs es =>
    simp only [zjT] at hy
    split at hy
    · rename_i l' hl
      cases hy
      obtain ⟨g1, g2⟩ := znY hl
      obtain ⟨ms, h1, h2, h3, h4⟩ := h
      refine ⟨ms, h1, by omega, fun i e m he hm => ?_, h4⟩
      have hi := ze he
      have hx : es[i]? = some (es[i]'(by omega)) := List.getElem?_eq_getElem _
      have k := h3 i _ m hx hm
      have q := g2 i _ e hx he
      exact ⟨k.1.ren R q.1, k.2.ren R q.2⟩
    · cases hy
  | lrec b r vs =>
    simp only [zjT] at hy
    split at hy
    · rename_i l' hl
      cases hy
      obtain ⟨g1, g2⟩ := zdq hl
      obtain ⟨h1, h2, h3, h4⟩ := h
      refine ⟨h1, h2, by omega, fun i c v hc hv => ?_⟩
      have hi := ze hc
      have hx : vs[i]? = some (vs[i]'(by omega)) := List.getElem?_eq_getElem _
      exact (h4 i _ v hx hv).ren R (g2 i _ c hx hc)
    · cases hy
  | mit m c seen =>
    cases m with
    | none => simp [zjT] at hy; subst hy; exact h
    | some m =>
      simp only [zjT] at hy
      split at hy
      · rename_i m' hm
        cases hy
        obtain ⟨⟨z, k1, k2⟩, h2⟩ := h
        obtain ⟨e, z', g1, g2, _⟩ := R.obj m m' z hm k1
        exact ⟨⟨z', g1, by rw [g2]; exact k2⟩, by rw [e]; exact h2⟩
      · cases hy
  | row g sz cs =>
    simp only [zjT] at hy
    split at hy
    · rename_i l' hl
      cases hy
      obtain ⟨g1, g2⟩ := zdq hl
      obtain ⟨h1, h2, hsc, hs, h3, h4⟩ := h
      refine ⟨h1, by rw [g1]; exact h2, fun d hd => ?_, hs, h3, fun j c hj => ?_⟩
      · obtain ⟨j, hj⟩ := List.mem_iff_getElem?.1 hd
        have hi := ze hj
        have hx : cs[j]? = some (cs[j]'(by omega)) := List.getElem?_eq_getElem _
        exact renAV_sc (g2 j _ d hx hj) (hsc _ (List.mem_of_getElem? hx))
      · have hi := ze hj
        have hx : cs[j]? = some (cs[j]'(by omega)) := List.getElem?_eq_getElem _
        obtain ⟨v, h5, h6⟩ := h4 j _ hx
        exact ⟨v, h5, h6.ren R (g2 j _ c hx hj)⟩
    · cases hy
  | tok sz n => simp [zjT] at hy; subst hy; exact h
  | iter s p => simp [zjT] at hy; subst hy; exact h
  | dead => simp [zjT] at hy; subst hy; exact h

theorem zhD {f : Nat → Option Nat} {x y : zc} (h : zjT f x = some y) : y.kind = x.kind ∧ (∀ sz n, x = .tok sz n → y = .tok sz n) ∧ (∀ g sz cs, x = .row g sz cs → ∃ cs', y = .row g sz cs' ∧ cs'.length = cs.length) ∧ ∀ (l : Loc) b o, zdB l y b o ↔ zdB l x b o := by
  cases x with
  | box cs =>
    simp only [zjT] at h
    split at h
    · rename_i l hl
      cases h
      obtain ⟨g1, _⟩ := zdq hl
      exact ⟨rfl, nofun, nofun, fun l b o => by simp only [zdB]; rw [g1]⟩
    · cases h
  | map es =>
    simp only [zjT] at h
    split at h
    · cases h
      exact ⟨rfl, nofun, nofun, fun l b o => Iff.rfl⟩
    · cases h
  | mapr c bs es =>
    simp only [zjT] at h
    split at h
    · cases h
      exact ⟨rfl, nofun, nofun, fun l b o => Iff.rfl⟩
    · cases h
  | lrec b r vs =>
    simp only [zjT] at h
    split at h
    · cases h
      exact ⟨rfl, nofun, nofun, fun l b o => Iff.rfl⟩
    · cases h
  | mit m c seen =>
    cases m with
    | none => simp only [zjT, Option.some.injEq] at h; subst h; exact ⟨rfl, nofun, nofun, fun l b o => Iff.rfl⟩
    | some m =>
      simp only [zjT] at h
      split at h
      · cases h
        exact ⟨rfl, nofun, nofun, fun l b o => Iff.rfl⟩
      · cases h
  | row g sz cs =>
    simp only [zjT] at h
    split at h
    · rename_i l hl
      cases h
      obtain ⟨g1, _⟩ := zdq hl
      exact ⟨rfl, nofun, fun g' sz' cs' e => by cases e; exact ⟨l, rfl, g1⟩, fun l b o => Iff.rfl⟩
    · cases h
  | tok sz n => simp [zjT] at h; subst h; exact ⟨rfl, fun _ _ e => e, nofun, fun _ _ _ => Iff.rfl⟩
  | iter s p => simp [zjT] at h; subst h; exact ⟨rfl, nofun, nofun, fun _ _ _ => Iff.rfl⟩
  | dead => simp [zjT] at h; subst h; exact ⟨rfl, nofun, nofun, fun _ _ _ => Iff.rfl⟩

mutual
theorem zli {n : Nat} {f : Nat → Option Nat} (hf : ∀ id, id < n → f id = some id) : ∀ {x : AV}, Low n x → zdb f x = some x
  | .d x, _ => rfl
  | .agg cs, h => by cases h with | agg _ h => simp only [zdb, zeC hf h]
  | .tup cs, h => by cases h with | tup _ h => simp only [zdb, zeC hf h]
  | .own t es, h => by cases h with | own _ _ h => simp only [zdb, hf t h]
  | .exact es, _ => rfl
  | .bsl id off len cap sz, h => by cases h with | bsl _ _ _ _ _ h => simp only [zdb, hf id h]
  | .box id off, h => by cases h with | box _ _ h => simp only [zdb, hf id h]
  | .vp cs, _ => rfl
  | .map id, h => by cases h with | map _ h => simp only [zdb, hf id h]
  | .iter id, h => by cases h with | iter _ h => simp only [zdb, hf id h]
  | .fn g a b, h => by cases h with | fn _ _ _ h1 h2 => simp only [zdb, zeC hf h1, zeC hf h2]
  | .rsl t g sz lo hi, h => by cases h with | rsl _ _ _ _ _ h => simp only [zdb, hf t h]
  | .rpt t g off, h => by cases h with | rpt _ _ _ h => simp only [zdb, hf t h]
  | .undef, _ => rfl
theorem zeC {n : Nat} {f : Nat → Option Nat} (hf : ∀ id, id < n → f id = some id) : ∀ {l : List AV}, (∀ c ∈ l, Low n c) → zhE f l = some l
  | [], _ => rfl
  | a :: l, h => by simp only [zhE, zli hf (h a List.mem_cons_self), zeC hf (fun c hc => h c (List.mem_cons_of_mem _ hc))]
end

theorem znX {n : Nat} {f : Nat → Option Nat} (hf : ∀ id, id < n → f id = some id) : ∀ {l : List (AV × AV)}, (∀ e ∈ l, Low n e.1 ∧ Low n e.2) → renPs f l = some l
  | [], _ => rfl
  | a :: l, h => by
    have := h a List.mem_cons_self
    simp only [renPs, zli hf this.1, zli hf this.2, znX hf (fun c hc => h c (List.mem_cons_of_mem _ hc))]
theorem renO_low {n : Nat} {f : Nat → Option Nat} (hf : ∀ id, id < n → f id = some id) {x : zc} (h : zqv n x) : zjT f x = some x := by
  cases x with
  | box cs => simp only [zjT, zeC hf h]
  | map es => simp only [zjT, znX hf h]
  | mapr c bs es => simp only [zjT, znX hf h]
  | lrec b r vs => simp only [zjT, zeC hf h]
  | mit m c seen =>
    cases m with
    | none => rfl
    | some m => simp only [zjT, hf m h]
  | row g sz cs => simp only [zjT, zeC hf h]
  | _ => rfl

theorem idxK_spec : ∀ {ks : List Nat} {id m i : Nat}, idxK ks id m = some i → m ≤ i ∧ ks[i - m]? = some id
  | [], _, _, _, h => by simp [idxK] at h
  | k :: ks, id, m, i, h => by
    simp only [idxK] at h
    split at h
    · rename_i e
      cases h
      exact ⟨Nat.le_refl _, by simp [e]⟩
    · obtain ⟨h1, h2⟩ := idxK_spec h
      exact ⟨by omega, by rw [show i - m = (i - (m + 1)) + 1 by omega]; simpa using h2⟩

def getL (σ : List zc) : List Nat → Option (List zc)
  | [] => some []
  | k :: ks => match σ[k]?, getL σ ks with | some x, some l => some (x :: l) | _, _ => none
theorem getL_get : ∀ {ks : List Nat} {l : List zc}, getL σ ks = some l → l.length = ks.length ∧ ∀ (i : Nat) k x, ks[i]? = some k → l[i]? = some x → σ[k]? = some x
  | [], l, h => by simp [getL] at h; subst h; simp
  | k :: ks, l, h => by
    simp only [getL] at h
    split at h
    · rename_i x t h1 h2
      cases h
      obtain ⟨g1, g2⟩ := getL_get h2
      refine ⟨by simp [g1], fun i k x hk hx => ?_⟩
      cases i with
      | zero => simp at hk hx; subst hk hx; exact h1
      | succ i => exact g2 i k x hk hx
    · cases h

def zro (n : Nat) (ks : List Nat) (K : AV → List zc → Prop) (out : Option (List AV)) (σ' : List zc) : Prop :=
  match out with
  | some l => n ≤ σ'.length ∧ zfz n (σ'.take n) ∧ (∀ k ∈ ks, n ≤ k) ∧ ks.Nodup ∧
    match getL σ' ks with
    | some os => match znZ (zkz n ks) os, zdb (zkz n ks) (zdg l) with
      | some os', some r => K r (σ'.take n ++ os')
      | _, _ => False
    | none => False
  | none => False
def zlR (n : Nat) (ks : List zc → List Nat) (K : AV → List zc → Prop) (out : Option (List AV)) (σ' : List zc) : Prop := zro n (ks σ') K out σ'

theorem keep_sound {n : Nat} {ks : List Nat} {os os' : List zc} (S : Sim L σ w) (hn : n ≤ σ.length) (hlow : zfz n (σ.take n)) (hks : ∀ k ∈ ks, n ≤ k) (hnd : ks.Nodup) (hos : getL σ ks = some os) (hos' : znZ (zkz n ks) os = some os') :
    ∃ L2, (∀ id, id < n → L2 id = L id) ∧ zrn L L2 σ (σ.take n ++ os') (zkz n ks) ∧ Sim L2 (σ.take n ++ os') w := by
  have hlt : (σ.take n).length = n := by simp [hn]
  obtain ⟨a1, a2⟩ := getL_get hos
  obtain ⟨b1, b2⟩ := renOs_get hos'
  let src : Nat → Nat := fun i => if i < n then i else ks.getD (i - n) 0
  refine ⟨fun i => L (src i), fun id h => by simp [src, h], ?_, ?_⟩
  all_goals
    -- an object of the new list, and the one that it was
    have obj2 : ∀ i y, (σ.take n ++ os')[i]? = some y → ∃ x, σ[src i]? = some x ∧ zjT (zkz n ks) x = some y ∧ (i < n ∨ n ≤ i ∧ ks[i - n]? = some (src i)) := fun i y hy => by
      rcases Nat.lt_or_ge i n with hi | hi
      · rw [List.getElem?_append_left (by omega), List.getElem?_take, if_pos hi] at hy
        refine ⟨y, by simpa [src, hi] using hy, renO_low (n := n) (fun id h => by simp [zkz, h]) (hlow i y (by rw [List.getElem?_take, if_pos hi]; exact hy)), .inl hi⟩
      · rw [List.getElem?_append_right (by omega), hlt] at hy
        have h1 := ze hy
        have hx : os[i - n]? = some (os[i - n]'(by omega)) := List.getElem?_eq_getElem _
        have hk : ks[i - n]? = some (ks[i - n]'(by omega)) := List.getElem?_eq_getElem _
        have hsrc : src i = ks[i - n]'(by omega) := by
          have : ¬ i < n := by omega
          simp [src, this, List.getD, hk]
        exact ⟨_, by rw [hsrc]; exact a2 _ _ _ hk hx, b2 _ _ y hx hy, .inr ⟨hi, by rw [hsrc]; exact hk⟩⟩
    have foot : ∀ b o, Own (fun i => L (src i)) (σ.take n ++ os') b o → Own L σ b o := fun b o ⟨i, y, hy, hf⟩ => by
      obtain ⟨x, h1, h2, _⟩ := obj2 i y hy
      exact ⟨src i, x, h1, ((zhD h2).2.2.2 _ _ _).1 hf⟩
    have R : zrn L (fun i => L (src i)) σ (σ.take n ++ os') (zkz n ks) := ⟨fun id i x hi hx => by
      unfold zkz at hi
      split at hi
      · rename_i hid
        cases hi
        refine ⟨by simp [src, hid], x, ?_, rfl, fun _ _ e => e, fun g sz cs e => ⟨cs, e, rfl⟩⟩
        rw [List.getElem?_append_left (by omega), List.getElem?_take, if_pos hid]; exact hx
      · obtain ⟨h1, h2⟩ := idxK_spec hi
        have hi' : ¬ i < n := by omega
        have hsrc : src i = id := by simp [src, hi', List.getD, h2]
        refine ⟨by rw [hsrc], ?_⟩
        have h3 := ze h2
        have hy : (σ.take n ++ os')[i]? = some (os'[i - n]'(by omega)) := by
          rw [List.getElem?_append_right (by omega), hlt]; exact List.getElem?_eq_getElem _
        obtain ⟨x', g1, g2, _⟩ := obj2 i _ hy
        rw [hsrc, hx] at g1
        cases g1
        exact ⟨_, hy, (zhD g2).1, (zhD g2).2.1, (zhD g2).2.2.1⟩, foot⟩
  · exact R
  · refine ⟨fun i y hy => ?_, fun i j x y b o hij hx hy hfx hfy => ?_⟩
    · obtain ⟨x, h1, h2, _⟩ := obj2 i y hy
      exact (S.obj _ _ h1).ren R h2
    · obtain ⟨x', h1, h2, h3⟩ := obj2 i x hx
      obtain ⟨y', g1, g2, g3⟩ := obj2 j y hy
      have hne : src i ≠ src j := by
        rcases h3 with hi | ⟨hi, hki⟩ <;> rcases g3 with hj | ⟨hj, hkj⟩
        · simpa [src, hi, hj] using hij
        · have := hks _ (List.mem_of_getElem? hkj)
          have e : src i = i := by simp [src, hi]
          omega
        · have := hks _ (List.mem_of_getElem? hki)
          have e : src j = j := by simp [src, hj]
          omega
        · intro e
          rw [e] at hki
          have l1 := ze hki
          have l2 := ze hkj
          have := (List.getElem?_inj l1 hnd).1 (hki.trans hkj.symm)
          omega
      exact S.apart _ _ _ _ b o hne h1 g1 (((zhD h2).2.2.2 _ _ _).1 hfx) (((zhD g2).2.2.2 _ _ _).1 hfy)

theorem zbN {f : FuncId} {F : AF} {na : Nat} (hF : isFn P f F na) {as0 : List AV} (has : as0.length = na) {K : AV → List zc → Prop} (ks : List zc → List Nat)
    (h : zfz σ.length σ → (∀ a ∈ as0, Low σ.length a) → awp P F.body (AtEnd fun fr' σ' => zlR σ.length ks K (zno fr' σ' F.res) σ') (zgU 0 as0) σ) : zl P f as0 σ K :=
  zjx hF has _ (fun {L w L' σ' w' fr' ts} S st S' F' hz => by
    unfold zlR zro at hz
    split at hz
    · rename_i l hl
      obtain ⟨z0, z1, z2, z3, z4⟩ := hz
      split at z4
      · rename_i os hos
        split at z4
        · rename_i os' r hos' hr
          obtain ⟨L2, k1, k2, k3⟩ := keep_sound S' z0 z1 z2 z3 hos hos'
          refine ⟨L2, _, l, r, hl, ⟨st.os, st.tape, st.output, st.size, st.blk, st.cell, st.fz, fun b o hb ho => st.own b o hb (k2.own b o ho), by simp; omega, fun id x hx => ?_⟩, k3, fun v hv => hv.ren k2 hr, z4⟩
          have hid := ze hx
          obtain ⟨x', g1, g2, g3, g4, g5⟩ := st.turns id x hx
          refine ⟨x', by rw [List.getElem?_append_left (by simp; omega), List.getElem?_take, if_pos hid]; exact g1, g2, fun hk hk5 => (k1 id hid).trans (g3 hk hk5), fun sz n e => ?_, fun g sz cs e => ?_⟩
          · obtain ⟨n', e1, e2, e3⟩ := g4 sz n e
            exact ⟨n', e1, e2, fun e => (k1 id hid).trans (e3 e)⟩
          · rcases g5 g sz cs e with h | ⟨g', cs', e1, e2, e3⟩
            · exact .inl h
            · exact .inr ⟨g', cs', e1, e2, fun e => ⟨(k1 id hid).trans (e3 e).1, (e3 e).2⟩⟩
        · exact z4.elim
      · exact z4.elim
    · exact hz.elim) h

end

section
variable {P : Program} {w : World} {L : Nat → Loc} {σ : List zc}

theorem zl.tok {f : FuncId} {xs : List AV} {es : List (List D)} {sz : Nat} (hsz : ∀ e ∈ es, e.length = sz) {K : AV → List zc → Prop}
    (h : zl P f xs σ fun r σ' => (r = .own σ.length es ∧ σ' = σ ++ [.tok sz es.length]) ∨ (r = .exact es ∧ σ' = σ)) (hK : K (.own σ.length es) (σ ++ [.tok sz es.length])) : zl P f xs σ K :=
  ⟨h.1, fun L w vs S hv => (h.2 L w vs S hv).mono fun e w' he => by
    cases e with
    | panicked ch => exact he
    | outgrown => exact he
    | returned v =>
      obtain ⟨L', σ', r, s, S', hr, hcase⟩ := he
      rcases hcase with ⟨rfl, rfl⟩ | ⟨rfl, rfl⟩
      · exact ⟨L', _, _, s, S', hr, hK⟩
      · obtain ⟨a, hv', hrd, ha, hs⟩ := zhK hr
        obtain ⟨st, S2⟩ := add_tok S' sz es.length a ha hs
        refine ⟨_, _, _, s.trans st, S2, ?_, hK⟩
        refine .own _ _ _ sz es.length (by simp) (Nat.le_refl _) hsz (st.rd hrd) fun _ => ?_
        rw [hv', zF]
        cases a <;> rfl⟩
end


abbrev bcs (bs : List UInt8) : List (List D) := bs.map zcj
theorem zhy {bs : List UInt8} : ∀ e ∈ bcs bs, e.length = 1 := by
  intro e he
  obtain ⟨b, _, rfl⟩ := List.mem_map.1 he
  rfl
theorem zaJ (bs : List UInt8) : (bcs bs).length = bs.length := by simp [bcs]
theorem zkT (bs : List UInt8) : zkU (bcs bs) = some bs := by
  induction bs with
  | nil => rfl
  | cons b bs ih =>
    simp only [bcs] at ih
    simp only [bcs, List.map_cons, zcj, zkU, ih, Option.map_some]
    simp
theorem zql (a b : List UInt8) : bcs a ++ bcs b = bcs (a ++ b) := by simp [bcs]
theorem zw {α : Type} (σ τ : List α) (k : Nat) : (σ ++ τ)[σ.length + k]? = τ[k]? := by
  rw [List.getElem?_append_right (by omega), Nat.add_sub_cancel_left]
theorem zu {α : Type} (σ τ : List α) : (σ ++ τ)[σ.length]? = τ[0]? := by
  rw [List.getElem?_append_right (by omega), Nat.sub_self]
theorem zN {α : Type} (σ τ : List α) (k : Nat) (x : α) : (σ ++ τ).set (σ.length + k) x = σ ++ τ.set k x := by
  rw [List.set_append_right _ _ (by omega), Nat.add_sub_cancel_left]
theorem zG {α : Type} (σ τ : List α) (x : α) : (σ ++ τ).set σ.length x = σ ++ τ.set 0 x := by
  rw [List.set_append_right _ _ (by omega), Nat.sub_self]
theorem zam {α : Type} (σ τ : List α) : (σ ++ τ).length = σ.length + τ.length := by simp
theorem zy {α : Type} {σ τ : List α} {id : Nat} {x : α} (h : σ[id]? = some x) : (σ ++ τ)[id]? = some x := by
  rw [List.getElem?_append_left (List.getElem?_eq_some_iff.1 h).1]; exact h
theorem zig {α : Type} {σ τ : List α} {id : Nat} {x y : α} (h : σ[id]? = some x) : (σ ++ τ).set id y = σ.set id y ++ τ := by
  rw [List.set_append_left _ _ (List.getElem?_eq_some_iff.1 h).1]
theorem map_dm1_d (ds : List D) : (ds.map AV.d).map dm1 = ds.map AV.d := by simp [Function.comp_def, dm1]
theorem zls (n : Nat) (ds : List D) : ∀ c ∈ ds.map AV.d, Low n c := by
  intro c hc
  obtain ⟨d, _, rfl⟩ := List.mem_map.1 hc
  exact .d _
inductive Tag {α : Sort _} (p : α) : Type
  | mk
def BBL (b : Bool) (p q : Prop) (_ : Tag p) (_ : Tag q) : Prop := BB b p q
def ACallL (P : Program) (f : FuncId) (as_ : List AV) (σ : List zc) (K : AV → List zc → Prop) (_ : Tag K) : Prop := zl P f as_ σ K
theorem zaG (P : Program) (f : FuncId) (as_ : List AV) (σ : List zc) (K : AV → List zc → Prop) : zl P f as_ σ K = ACallL P f as_ σ K .mk := rfl
def loopCL (init : List AV) (σ : List zc) (round : List AV → List zc → (List AV → List zc → Prop) → Prop) (_ : Tag round) : Prop := zec init σ round
theorem zca (init : List AV) (σ : List zc) (round : List AV → List zc → (List AV → List zc → Prop) → Prop) : zec init σ round = loopCL init σ round .mk := rfl
theorem zL (p q : Prop) (t : Tag p) (u : Tag q) : BBL true p q t u = p := zrp p q
theorem zr (p q : Prop) (t : Tag p) (u : Tag q) : BBL false p q t u = q := znM p q
theorem zbh {b : Bool} {p q : Prop} {t : Tag p} {u : Tag q} (h1 : b = true → p) (h2 : b = false → q) : BBL b p q t u := ⟨h1, h2⟩
theorem zaj (b : Bool) (p q : Prop) (t : Tag p) (u : Tag q) : BBL (!b) p q t u = BBL b q p u t := BB_not b p q
theorem zJ (b : Bool) (body : KT → Prop) (σ : List zc) (K : KT) : zfG (.d (.bool b)) true body σ K = BBL b (body K) (K (.tup []) σ) .mk .mk := by
  simp only [zfG, BB_beqT]; rfl
theorem zK (b : Bool) (body : KT → Prop) (σ : List zc) (K : KT) : zfG (.d (.bool b)) false body σ K = BBL b (K (.tup []) σ) (body K) .mk .mk := by
  simp only [zfG, BB_beqF]; rfl
theorem zM (w : Bool) (body : KT → Prop) (σ : List zc) (K : KT) : zfG (.tup []) w body σ K = K (.tup []) σ := rfl
theorem zX (b : Bool) (p q : Prop) : zo (.d (.bool b)) p q = BBL b p q .mk .mk := rfl
theorem zal (b : Bool) (x y : AV) (σ : List zc) (K : KT) : zpg (.d (.bool b)) x y σ K = BBL b (K x σ) (K y σ) .mk .mk := rfl
theorem zgh (b : Bool) (body : KT → Prop) (σ : List zc) (K : KT) : gF (.d (.bool b)) body σ K = BBL b (K (.tup []) σ) (body K) .mk .mk := zK b body σ K
theorem zgf (b : Bool) (body : KT → Prop) (σ : List zc) (K : KT) : gT (.d (.bool b)) body σ K = BBL b (body K) (K (.tup []) σ) .mk .mk := zJ b body σ K
theorem zgi (body : KT → Prop) (σ : List zc) (K : KT) : gF (.tup []) body σ K = K (.tup []) σ := rfl
theorem zgg (body : KT → Prop) (σ : List zc) (K : KT) : gT (.tup []) body σ K = K (.tup []) σ := rfl
theorem zcf (b : Bool) (x : AV) (σ : List zc) (K : KT) : gFm (.d (.bool b)) x σ K = BBL b (K (.tup []) σ) (K x σ) .mk .mk := zK b _ σ K
theorem zcb (b : Bool) (x : AV) (σ : List zc) (K : KT) : gTm (.d (.bool b)) x σ K = BBL b (K x σ) (K (.tup []) σ) .mk .mk := zJ b _ σ K
theorem zcg (x : AV) (σ : List zc) (K : KT) : gFm (.tup []) x σ K = K (.tup []) σ := rfl
theorem zcc (x : AV) (σ : List zc) (K : KT) : gTm (.tup []) x σ K = K (.tup []) σ := rfl
theorem zgj (off : Nat) (x : AV) (σ : List zc) (K : KT) : fl off x σ K = zd off x σ fun a s => zi false 1 a s K := rfl
theorem zbW (off : Nat) (x : AV) (σ : List zc) (K : KT) : nfl off x σ K = zbr x σ fun b s => zd off b s fun a s => zi false 1 a s K := rfl
theorem zch (b : Bool) (off : Nat) (x : AV) (σ : List zc) (K : KT) : gFl (.d (.bool b)) off x σ K = BBL b (K (.tup []) σ) (zd off x σ fun a s => zi false 1 a s K) .mk .mk := by
  cases b <;> simp [gFl, zK, zL, zr]
theorem zcd (b : Bool) (off : Nat) (x : AV) (σ : List zc) (K : KT) : gTl (.d (.bool b)) off x σ K = BBL b (zd off x σ fun a s => zi false 1 a s K) (K (.tup []) σ) .mk .mk := by
  cases b <;> simp [gTl, zJ, zL, zr]
theorem zci (off : Nat) (x : AV) (σ : List zc) (K : KT) : gFl (.tup []) off x σ K = K (.tup []) σ := rfl
theorem zce (off : Nat) (x : AV) (σ : List zc) (K : KT) : gTl (.tup []) off x σ K = K (.tup []) σ := rfl
theorem zge (m : Bool) (sz n : Nat) (x i : AV) (σ : List zc) (K : KT) : il m sz n x i σ K = zO none sz x i σ fun a s => zi m n a s K := rfl
theorem zgl (z : List AV) (n : Nat) (x : AV) (σ : List zc) (K : KT) : cp z n x σ K = zR z σ fun b s => zg n b x s fun _ s => K b s := rfl
theorem zbV (b : Bool) (x : AV) (σ : List zc) (K : KT) : orC (.d (.bool b)) x σ K = BBL b (K (.d (.bool true)) σ) (K x σ) .mk .mk := rfl
theorem zck (b : Bool) (x : AV) (σ : List zc) (K : KT) : anC (.d (.bool b)) x σ K = BBL b (K x σ) (K (.d (.bool false)) σ) .mk .mk := rfl
theorem zgn (P : Program) (f : FuncId) (as_ : List AV) (σ : List zc) (K : KT) : cA P f as_ σ K = ACallL P f (as_.map dm) σ K .mk := rfl
theorem zgo (op : BinOp) (x y : AV) (σ : List zc) (K : KT) : bP op x y σ K = zds op .plain x y σ K := rfl
theorem zgb (Z : Option (List AV) → List zc → Prop) (a : AV) (σ : List zc) : z1 Z a σ = Z (zQ (some a) (some [])) σ := rfl
theorem zga (Z : Option (List AV) → List zc → Prop) (a b : AV) (σ : List zc) : z2 Z a b σ = Z (zQ (some a) (zQ (some b) (some []))) σ := rfl
theorem zgd (n : Nat) (z : List AV) (x : AV) (σ : List zc) (K : KT) : m1 n z x σ K = zn false n 1 (zac (rep z 1) [(0, n, x)]) σ K := rfl
theorem zid (σ τ : List zc) : (σ ++ τ).take σ.length = σ := by simp
theorem zmr {σ τ : List zc} {K : AV → List zc → Prop} {l : List AV} (h1 : Low σ.length (dmT (zdg l))) (hl : zfz σ.length σ) (h : K (dmT (zdg l)) σ) : Ends σ.length K (some l) (σ ++ τ) := by
  unfold Ends
  rw [zid]
  exact ⟨h1, hl, h⟩
theorem zou {σ : List zc} {K : AV → List zc → Prop} {l : List AV} (h1 : Low σ.length (dmT (zdg l))) (hl : zfz σ.length σ) (h : K (dmT (zdg l)) σ) : Ends σ.length K (some l) σ := by
  unfold Ends
  rw [List.take_length]
  exact ⟨h1, hl, h⟩

theorem finP {σ τ : List zc} {K : AV → List zc → Prop} {l : List AV} (hl : zfz σ.length σ) (h : K (dmT (zdg l)) σ) (h1 : Low σ.length (dmT (zdg l)) := by simp [zhZ, dmT, dm, dm1, zdg, zda, zhz, zoZ]) : Ends σ.length K (some l) (σ ++ τ) := zmr h1 hl h
theorem finQ {σ : List zc} {K : AV → List zc → Prop} {l : List AV} (hl : zfz σ.length σ) (h : K (dmT (zdg l)) σ) (h1 : Low σ.length (dmT (zdg l)) := by simp [zhZ, dmT, dm, dm1, zdg, zda, zhz, zoZ]) : Ends σ.length K (some l) σ := zou h1 hl h
theorem kk5 {x : Int} (h : x = 5) : (x == 1) = false ∧ (x == 2) = false ∧ (x == 3) = false ∧ (x == 4) = false ∧ (x == 5) = true ∧ (x == 6) = false ∧ (x == 7) = false ∧ (x == 8) = false ∧ (x == 9) = false ∧ (x == 10) = false ∧ (x == 11) = false ∧ (x == 12) = false := by subst h; exact ⟨rfl, rfl, rfl, rfl, rfl, rfl, rfl, rfl, rfl, rfl, rfl, rfl⟩
structure Hd (p : Prop) : Prop where
  go : p
theorem zap {σ s : List zc} {K : AV → List zc → Prop} {l : List AV} (hl : zfz σ.length σ) (h : K (dmT (zdg l)) σ) (e : ∃ τ, s = σ ++ τ := by first | with_reducible exact ⟨_, rfl⟩ | exact ⟨[], (List.append_nil _).symm⟩) (h1 : Low σ.length (dmT (zdg l)) := by simp [zhZ, dmT, dm, dm1, zdg, zda, zhz, zoZ]) : Ends σ.length K (some l) s := by
  obtain ⟨τ, rfl⟩ := e
  exact zmr h1 hl h
theorem zni {p q : Prop} (h2 : q) (h1 : p := by first | omega | rfl | decide | (simp; done) | fail) : p ∧ q := ⟨h1, h2⟩

theorem endsL_none {σ τ : List zc} {K : AV → List zc → Prop} {l : List AV} {r : AV} (hl : zfz σ.length σ) (hr : zdb (zkz σ.length []) (zdg l) = some r) (h : K r σ) : zro σ.length [] K (some l) (σ ++ τ) := by
  simp only [zro, getL, znZ, hr, zid]
  refine ⟨by simp, hl, by simp, by simp, by simpa using h⟩
theorem endsL_none0 {σ : List zc} {K : AV → List zc → Prop} {l : List AV} {r : AV} (hl : zfz σ.length σ) (hr : zdb (zkz σ.length []) (zdg l) = some r) (h : K r σ) : zro σ.length [] K (some l) σ := by
  have := endsL_none (τ := []) hl hr h
  simpa using this
theorem endsL_own {σ τ : List zc} {K : AV → List zc → Prop} {t sz n : Nat} {es : List (List D)} (hl : zfz σ.length σ) (ht : σ.length ≤ t) (hg : (σ ++ τ)[t]? = some (.tok sz n)) (h : K (.own σ.length es) (σ ++ [.tok sz n])) :
    zro σ.length [t] K (some [.own t es]) (σ ++ τ) := by
  have h1 : ¬ t < σ.length := by omega
  simp only [zro, getL, hg, znZ, zjT, zdg, zdb, zkz, idxK, h1, if_false, if_true, zid]
  exact ⟨by simp, hl, by simpa using ht, by simp, h⟩

theorem zit {σ : List zc} {ks : List zc → List Nat} {K : AV → List zc → Prop} {l : List AV} {r : AV} (hks : ks σ = []) (hl : zfz σ.length σ) (hr : zdb (zkz σ.length []) (zdg l) = some r) (h : K r σ) : zlR σ.length ks K (some l) σ := by
  unfold zlR; rw [hks]; exact endsL_none0 hl hr h
theorem zov {σ τ : List zc} {ks : List zc → List Nat} {K : AV → List zc → Prop} {t sz n : Nat} {es : List (List D)} (hks : ks (σ ++ τ) = [t]) (hl : zfz σ.length σ) (ht : σ.length ≤ t) (hg : (σ ++ τ)[t]? = some (.tok sz n)) (h : K (.own σ.length es) (σ ++ [.tok sz n])) :
    zlR σ.length ks K (some [.own t es]) (σ ++ τ) := by
  unfold zlR; rw [hks]; exact endsL_own hl ht hg h

theorem zms {σ : List zc} {ks : List zc → List Nat} {K : AV → List zc → Prop} {sz n : Nat} {es : List (List D)} (hl : zfz σ.length σ) (hks : ks (σ ++ [.tok sz n]) = [σ.length]) (h : K (.own σ.length es) (σ ++ [.tok sz n])) :
    zlR σ.length ks K (some [.own σ.length es]) (σ ++ [.tok sz n]) := zov hks hl (Nat.le_refl _) List.getElem?_concat_length h

def zdE (N : Nat) (I : Nat → List AV → List zc → Prop) (k : Nat) (vs : List AV) (s : List zc) : Prop := ∃ n', n' < N - k ∧ ∃ k', k' ≤ N ∧ n' = N - k' ∧ I k' vs s
theorem zdE.next {N : Nat} {I : Nat → List AV → List zc → Prop} {k : Nat} {vs : List AV} {s : List zc} (hk : k < N) (h : I (k + 1) vs s) : zdE N I k vs s :=
  ⟨N - (k + 1), by omega, k + 1, by omega, rfl, h⟩
theorem zdE.to {N : Nat} {I : Nat → List AV → List zc → Prop} {k : Nat} {vs : List AV} {s : List zc} (k' : Nat) (hk : k < k') (hk' : k' ≤ N) (h : I k' vs s) : zdE N I k vs s :=
  ⟨N - k', by omega, k', by omega, rfl, h⟩
theorem loopC_countW {init : List AV} {σ : List zc} {round : List AV → List zc → (List AV → List zc → Prop) → Prop} (N : Nat) (I : Nat → List AV → List zc → Prop) {vs0 : List AV} {s0 : List zc} (hw : zlV init σ vs0 s0)
    (h0 : I 0 vs0 s0) (h : ∀ k vs s, k ≤ N → I k vs s → round vs s (zdE N I k)) : zec init σ round := by
  refine ⟨fun n vs s => ∃ k, k ≤ N ∧ n = N - k ∧ I k vs s, N, ⟨vs0, s0, hw, 0, Nat.zero_le _, rfl, h0⟩, ?_⟩
  rintro n vs s ⟨k, hk, rfl, hI⟩
  exact h k vs s hk hI
theorem zae {init : List AV} {σ : List zc} {round : List AV → List zc → (List AV → List zc → Prop) → Prop} (N : Nat) (I : Nat → List AV → List zc → Prop)
    (h0 : I 0 init σ) (h : ∀ k vs s, k ≤ N → I k vs s → round vs s (zdE N I k)) : zec init σ round := loopC_countW N I (.refl _ _) h0 h
theorem zmU : decide (((0 : Nat) : Int) > 0) = false := rfl
theorem zmR : decide (((1 : Nat) : Int) > 0) = true := rfl
theorem zmO : decide (((2 : Nat) : Int) > 0) = true := rfl
theorem zmV : (((0 : Nat) : Int) == 0) = true := rfl
theorem zfD : (((1 : Nat) : Int) == 0) = false := rfl
theorem zmS : (((1 : Nat) : Int) == 1) = true := rfl
theorem zmP : (((2 : Nat) : Int) == 2) = true := rfl
theorem zmT : (((0 : Nat) : Int) != 0) = false := rfl
theorem zmQ : (((1 : Nat) : Int) != 1) = false := rfl
theorem zfC : (((1 : Nat) : Int) != 0) = true := rfl
theorem zfE : (((0 : Nat) : Int) != 1) = true := rfl
theorem zmY : ((0 : Int) != 0) = false := rfl
theorem zmZ : ((0 : Int) == 0) = true := rfl
theorem zp (a : AV) (l : List AV) (k : AV → List AV → Prop) : zed (a :: l) k = k a l := rfl
theorem Q0 {α : Type _} {a : α} {l : List α} : (a :: l)[0]? = some a := rfl
theorem Q1 {α : Type _} {a : α} {i : Nat} {l : List α} : (a :: l)[i + 1]? = l[i]? := rfl
theorem Q2 {α : Type _} {β : Type _} {f : α → β} {a : α} {l : List α} : List.map f (a :: l) = f a :: List.map f l := rfl
theorem Q3 {α : Type _} {β : Type _} {f : α → β} : List.map f [] = [] := rfl
theorem Q4 {α : Type _} {a : α} {as0 : List α} : (a :: as0).length = as0.length + 1 := rfl
theorem Q5 {α : Type _} : ([] : List α).length = 0 := rfl
theorem Q6 {α : Type _} (as0 bs cs : List α) : as0 ++ bs ++ cs = as0 ++ (bs ++ cs) := List.append_assoc as0 bs cs
theorem Q7 {α : Type _} {a : α} {as0 bs : List α} : a :: as0 ++ bs = a :: (as0 ++ bs) := rfl
theorem Q8 {α : Type _} (as0 : List α) : [] ++ as0 = as0 := rfl
theorem Q9 {α : Type _} {x : α} {xs : List α} {a : α} : (x :: xs).set 0 a = a :: xs := rfl
theorem Q10 {α : Type _} {x : α} {xs : List α} {i : Nat} {a : α} : (x :: xs).set (i + 1) a = x :: xs.set i a := rfl
theorem Q11 (n m k : Nat) : n + m + k = n + (m + k) := Nat.add_assoc n m k
theorem Q12 (n : Nat) : 0 + n = n := Nat.zero_add n
theorem Q13 (n : Nat) : n + 0 = n := rfl
theorem Q14 (n : Nat) : n * 1 = n := Nat.mul_one n
theorem Q15 (n : Nat) : ((n : Int)).toNat = n := rfl
theorem Q16 {α : Type _} {β : Type _} (a : α) (f : α → β) : Option.map f (some a) = some (f a) := rfl
theorem Q17 {α : Type _} {β : Type _} (f : α → β) : Option.map f none = none := rfl
theorem Q18 : (false = true) = False := Bool.false_eq_true
theorem Q19 {α : Sort _} {x : Decidable True} (t e : α) : (if True then t else e) = t := if_true t e
theorem Q20 {α : Sort _} {x : Decidable False} (t e : α) : (if False then t else e) = e := if_false t e
theorem Q21 (p : Prop) : (True ∧ p) = p := true_and p
theorem Q22 (p : Prop) : (p ∧ True) = p := and_true p
theorem Q23 {α : Type _} {a : α} {as0 : List α} {i : Nat} : List.take (i + 1) (a :: as0) = a :: List.take i as0 := rfl
theorem Q24 {α : Type _} {l : List α} : List.take 0 l = [] := rfl
theorem Q25 {α : Type _} {a : α} {l : List α} {i : Nat} : List.drop (i + 1) (a :: l) = List.drop i l := rfl
theorem Q26 {α : Type _} {l : List α} : List.drop 0 l = l := rfl
theorem Q27 {α : Type _} {i : Nat} : List.take i ([] : List α) = [] := List.take_nil
theorem Q28 {α : Type _} {i : Nat} : List.drop i ([] : List α) = [] := List.drop_nil
theorem Q29 (n : Nat) : n ≤ n := Nat.le_refl n
theorem Q30 {α : Type _} (as0 : List α) : as0 ++ [] = as0 := List.append_nil as0
theorem Q31 {α : Type _} {a : α} {l : List α} {f : α → Bool} : (a :: l).all f = (f a && l.all f) := rfl
theorem Q32 {α : Type _} {f : α → Bool} : [].all f = true := rfl
theorem Q33 (b : Bool) : (b && true) = b := Bool.and_true b
theorem Q34 (b : Bool) : (b && b) = b := Bool.and_self b
theorem Q35 (n : Nat) : ¬n < n := Nat.lt_irrefl n
theorem Q36 (n : Nat) : 0 * n = 0 := Nat.zero_mul n
theorem Q37 (n : Nat) : n - 0 = n := rfl
theorem Q38 {α : Type _} {l : List α} {L : List (List α)} : (l :: L).flatten = l ++ L.flatten := rfl
theorem Q39 {α : Type _} : ([] : List (List α)).flatten = [] := rfl
end Go.AW
