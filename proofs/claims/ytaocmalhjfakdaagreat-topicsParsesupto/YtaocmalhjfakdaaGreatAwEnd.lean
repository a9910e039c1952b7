/- ENDS OF A CALL that keep some of what it made: what zkr is renumbered behind what was there. -/
import Derived.Test.YtaocmalhjfakdaaGreatAwFun
import Derived.IntWalk
import Derived.Sort.Grow
set_option linter.all false
set_option linter.unusedSimpArgs false
set_option linter.unusedVariables false
namespace Go.AW
section
variable {P : Program} {w : World} {L : Nat → Loc} {σ : List zc}

def idxK : List Nat → Nat → Nat → Option Nat
  | [], _, _ => none
  | k :: ks, id, m => if id = k then some m else idxK ks id (m + 1)
def zkw (n : Nat) (ks : List Nat) (id : Nat) : Option Nat := if id < n then some id else idxK ks id n

mutual
def zcm (f : Nat → Option Nat) : AV → Option AV
  | .d x => some (.d x)
  | .agg cs => match zgc f cs with | some l => some (.agg l) | none => none
  | .tup cs => match zgc f cs with | some l => some (.tup l) | none => none
  | .own t es => match f t with | some t' => some (.own t' es) | none => none
  | .exact es => some (.exact es)
  | .bsl id off len cap sz => match f id with | some i => some (.bsl i off len cap sz) | none => none
  | .box id off => match f id with | some i => some (.box i off) | none => none
  | .vp cs => some (.vp cs)
  | .map id => match f id with | some i => some (.map i) | none => none
  | .iter id => match f id with | some i => some (.iter i) | none => none
  | .fn g a b => match zgc f a, zgc f b with | some a', some b' => some (.fn g a' b') | _, _ => none
  | .rsl t g sz lo hi => match f t with | some t' => some (.rsl t' g sz lo hi) | none => none
  | .rpt t g off => match f t with | some t' => some (.rpt t' g off) | none => none
  | .undef => some .undef
def zgc (f : Nat → Option Nat) : List AV → Option (List AV)
  | [] => some []
  | a :: l => match zcm f a, zgc f l with | some a', some l' => some (a' :: l') | _, _ => none
end

def renPs (f : Nat → Option Nat) : List (AV × AV) → Option (List (AV × AV))
  | [] => some []
  | e :: l => match zcm f e.1, zcm f e.2, renPs f l with | some a, some b, some l' => some ((a, b) :: l') | _, _, _ => none
def zik (f : Nat → Option Nat) : zc → Option zc
  | .box cs => match zgc f cs with | some l => some (.box l) | none => none
  | .map es => match renPs f es with | some l => some (.map l) | none => none
  | .tok sz n => some (.tok sz n)
  | .iter s p => some (.iter s p)
  | .dead => some .dead
  | .mapr c bs es => match renPs f es with | some l => some (.mapr c bs l) | none => none
  | .mit none c s => some (.mit none c s)
  | .lrec b r vs => match zgc f vs with | some l => some (.lrec b r l) | none => none
  | .mit (some m) c s => match f m with | some m' => some (.mit (some m') c s) | none => none
  | .row g sz cs => match zgc f cs with | some l => some (.row g sz l) | none => none
def zmS (f : Nat → Option Nat) : List zc → Option (List zc)
  | [] => some []
  | x :: l => match zik f x, zmS f l with | some a, some l' => some (a :: l') | _, _ => none

theorem zcZ {f : Nat → Option Nat} : ∀ {l l' : List AV}, zgc f l = some l' → l'.length = l.length ∧ ∀ (i : Nat) a b, l[i]? = some a → l'[i]? = some b → zcm f a = some b
  | [], l', h => by simp [zgc] at h; subst h; simp
  | a :: l, l', h => by
    simp only [zgc] at h
    split at h
    · rename_i a' t h1 h2
      cases h
      obtain ⟨g1, g2⟩ := zcZ h2
      refine ⟨by simp [g1], fun i x y hx hy => ?_⟩
      cases i with
      | zero => simp at hx hy; subst hx hy; exact h1
      | succ i => exact g2 i x y hx hy
    · cases h
theorem zmR {f : Nat → Option Nat} : ∀ {l l' : List (AV × AV)}, renPs f l = some l' → l'.length = l.length ∧ ∀ (i : Nat) a b, l[i]? = some a → l'[i]? = some b → zcm f a.1 = some b.1 ∧ zcm f a.2 = some b.2
  | [], l', h => by simp [renPs] at h; subst h; simp
  | a :: l, l', h => by
    simp only [renPs] at h
    split at h
    · rename_i a' b' t h1 h2 h3
      cases h
      obtain ⟨g1, g2⟩ := zmR h3
      refine ⟨by simp [g1], fun i x y hx hy => ?_⟩
      cases i with
      | zero => simp at hx hy; subst hx hy; exact ⟨h1, h2⟩
      | succ i => exact g2 i x y hx hy
    · cases h
theorem renOs_get {f : Nat → Option Nat} : ∀ {l l' : List zc}, zmS f l = some l' → l'.length = l.length ∧ ∀ (i : Nat) a b, l[i]? = some a → l'[i]? = some b → zik f a = some b
  | [], l', h => by simp [zmS] at h; subst h; simp
  | a :: l, l', h => by
    simp only [zmS] at h
    split at h
    · rename_i a' t h1 h2
      cases h
      obtain ⟨g1, g2⟩ := renOs_get h2
      refine ⟨by simp [g1], fun i x y hx hy => ?_⟩
      cases i with
      | zero => simp at hx hy; subst hx hy; exact h1
      | succ i => exact g2 i x y hx hy
    · cases h

structure zpz (L L2 : Nat → Loc) (σ σ2 : List zc) (f : Nat → Option Nat) : Prop where
  obj : ∀ id i x, f id = some i → σ[id]? = some x → L2 i = L id ∧ ∃ y, σ2[i]? = some y ∧ y.kind = x.kind ∧ (∀ sz n, x = .tok sz n → y = .tok sz n) ∧ (∀ g sz cs, x = .row g sz cs → ∃ cs', y = .row g sz cs' ∧ cs'.length = cs.length)
  own : ∀ b o, Own L2 σ2 b o → Own L σ b o

theorem RV.ren {L2 : Nat → Loc} {σ2 : List zc} {f : Nat → Option Nat} (R : zpz L L2 σ σ2 f) {x y : AV} {v : Value} (h : RV w L σ x v) (hy : zcm f x = some y) : RV w L2 σ2 y v := by
  have rd : ∀ {x : D} {v : Value}, RD w (Own L σ) x v → RD w (Own L2 σ2) x v := fun h => zfc R.own h
  have fx : ∀ {id i}, f id = some i → zjs σ id → L2 i = L id ∧ zjs σ2 i := fun {id i} hf ⟨z, h1, h2⟩ => by
    obtain ⟨e, y, g1, g2, _⟩ := R.obj id i z hf h1
    exact ⟨e, y, g1, by rw [g2]; exact h2⟩
  have rw' : ∀ {t i}, f t = some i → znU σ t → L2 i = L t ∧ znU σ2 i ∧ ∀ g sz cs', σ2[i]? = some (.row g sz cs') → ∃ cs, σ[t]? = some (.row g sz cs) ∧ cs'.length = cs.length := fun {t i} hf ⟨z, h1, h2⟩ => by
    obtain ⟨e, y, g1, g2, _, g4⟩ := R.obj t i z hf h1
    refine ⟨e, ⟨y, g1, by rw [g2]; exact h2⟩, fun g sz cs' e' => ?_⟩
    rw [g1] at e'; cases e'
    cases z with
    | row g0 sz0 cs0 =>
      obtain ⟨cs2, e2, e3⟩ := g4 g0 sz0 cs0 rfl
      cases e2
      exact ⟨cs0, h1, e3⟩
    | _ => simp [zc.kind] at g2
  induction h generalizing y with
  | d _ _ h => simp [zcm] at hy; subst hy; exact .d _ _ (rd h)
  | agg cs vs h1 h2 ih =>
    simp only [zcm] at hy
    split at hy
    · rename_i l hl
      cases hy
      obtain ⟨g1, g2⟩ := zcZ hl
      refine .agg _ _ (by omega) fun i c v hc hv => ?_
      have hi := zd hc
      have hx : cs[i]? = some (cs[i]'(by omega)) := List.getElem?_eq_getElem _
      exact ih i _ v hx hv (g2 i _ c hx hc)
    · cases hy
  | tup cs vs h1 h2 ih =>
    simp only [zcm] at hy
    split at hy
    · rename_i l hl
      cases hy
      obtain ⟨g1, g2⟩ := zcZ hl
      refine .tup _ _ (by omega) fun i c v hc hv => ?_
      have hi := zd hc
      have hx : cs[i]? = some (cs[i]'(by omega)) := List.getElem?_eq_getElem _
      exact ih i _ v hx hv (g2 i _ c hx hc)
    · cases hy
  | own t es v sz k h1 h2 h3 h4 h5 =>
    simp only [zcm] at hy
    split at hy
    · rename_i t' ht
      cases hy
      obtain ⟨e, y, g1, g2, g3, _⟩ := R.obj t t' _ ht h1
      rw [g3 sz k rfl] at g1
      exact .own t' es v sz k g1 h2 h3 (rd h4) (by rw [e]; exact h5)
    · cases hy
  | exact es a h => simp [zcm] at hy; subst hy; exact .exact _ _ (rd h)
  | bsl id off len cap sz h1 h2 =>
    simp only [zcm] at hy
    split at hy
    · rename_i i hi
      cases hy
      obtain ⟨e, g⟩ := fx hi h1
      rw [← e]; exact .bsl _ _ _ _ _ g h2
    · cases hy
  | box id off h1 =>
    simp only [zcm] at hy
    split at hy
    · rename_i i hi
      cases hy
      obtain ⟨e, g⟩ := fx hi h1
      rw [← e]; exact .box _ _ g
    · cases hy
  | vp cs b off h =>
    simp [zcm] at hy; subst hy
    refine .vp _ _ _ fun j d hj => ?_
    obtain ⟨v, h1, h2, h3⟩ := h j d hj
    exact ⟨v, h1, fun h => h2 (R.own _ _ h), rd h3⟩
  | map id h1 =>
    simp only [zcm] at hy
    split at hy
    · rename_i i hi
      cases hy
      obtain ⟨e, g⟩ := fx hi h1
      rw [← e]; exact .map _ g
    · cases hy
  | iter id h1 =>
    simp only [zcm] at hy
    split at hy
    · rename_i i hi
      cases hy
      obtain ⟨e, g⟩ := fx hi h1
      rw [← e]; exact .iter _ g
    · cases hy
  | fn g first cap fs cs h1 h2 _ _ ih1 ih2 =>
    simp only [zcm] at hy
    split at hy
    · rename_i a b ha hb
      cases hy
      obtain ⟨g1, g2⟩ := zcZ ha
      obtain ⟨k1, k2⟩ := zcZ hb
      refine .fn _ _ _ _ _ (by omega) (by omega) (fun i c v hc hv => ?_) (fun i c v hc hv => ?_)
      · have hi := zd hc
        have hx : first[i]? = some (first[i]'(by omega)) := List.getElem?_eq_getElem _
        exact ih1 i _ v hx hv (g2 i _ c hx hc)
      · have hi := zd hc
        have hx : cap[i]? = some (cap[i]'(by omega)) := List.getElem?_eq_getElem _
        exact ih2 i _ v hx hv (k2 i _ c hx hc)
    · cases hy
  | rsl t g sz lo hi a c h1 h2 h3 h4 h5 h6 h7 =>
    simp only [zcm] at hy
    split at hy
    · rename_i i hi'
      cases hy
      obtain ⟨e, k1, k2⟩ := rw' hi' h1
      refine .rsl _ _ _ _ _ _ _ k1 (fun g' sz' cs' e' => ?_) h3 h4 h5 h6 (fun sz' cs' e' => ?_)
      · obtain ⟨cs, e2, _⟩ := k2 g' sz' cs' e'
        exact h2 g' sz' cs e2
      · obtain ⟨cs, e2, e3⟩ := k2 g sz' cs' e'
        rw [e, e3]
        exact h7 sz' cs e2
    · cases hy
  | rpt t g off b o h1 h2 h3 =>
    simp only [zcm] at hy
    split at hy
    · rename_i i hi'
      cases hy
      obtain ⟨e, k1, k2⟩ := rw' hi' h1
      refine .rpt _ _ _ _ _ k1 (fun g' sz' cs' e' => ?_) (fun sz' cs' e' => ?_)
      · obtain ⟨cs, e2, _⟩ := k2 g' sz' cs' e'
        exact h2 g' sz' cs e2
      · obtain ⟨cs, e2, e3⟩ := k2 g sz' cs' e'
        rw [e]
        exact h3 sz' cs e2
    · cases hy
  | undef v => simp [zcm] at hy; subst hy; exact .undef v

theorem renAV_sc {f : Nat → Option Nat} {a b : AV} (h : zcm f a = some b) (hs : sc a = true) : sc b = true := by
  cases a <;> simp only [zcm] at h <;> first
    | (simp [sc] at hs; done)
    | (cases h; rfl)
    | (split at h <;> first | (cases h; rfl) | (cases h; done))
theorem zlh.ren {L2 : Nat → Loc} {σ2 : List zc} {f : Nat → Option Nat} (R : zpz L L2 σ σ2 f) {x y : zc} {l : Loc} (h : zlh w L σ l x) (hy : zik f x = some y) : zlh w L2 σ2 l y := by
  cases x with
  | box cs =>
    simp only [zik] at hy
    split at hy
    · rename_i l' hl
      cases hy
      obtain ⟨g1, g2⟩ := zcZ hl
      obtain ⟨h1, h2, h3⟩ := h
      refine ⟨h1, h2, fun j c hj => ?_⟩
      have hi := zd hj
      have hx : cs[j]? = some (cs[j]'(by omega)) := List.getElem?_eq_getElem _
      obtain ⟨h4, v, h5, h6⟩ := h3 j _ hx
      exact ⟨h4, v, h5, h6.ren R (g2 j _ c hx hj)⟩
    · cases hy
  | map es =>
    simp only [zik] at hy
    split at hy
    · rename_i l' hl
      cases hy
      obtain ⟨g1, g2⟩ := zmR hl
      obtain ⟨ms, clock, h1, h2, h3, h4⟩ := h
      refine ⟨ms, clock, h1, by omega, fun i e m he hm => ?_, h4⟩
      have hi := zd he
      have hx : es[i]? = some (es[i]'(by omega)) := List.getElem?_eq_getElem _
      have k := h3 i _ m hx hm
      have q := g2 i _ e hx he
      exact ⟨k.1.ren R q.1, k.2.ren R q.2⟩
    · cases hy
  | mapr c bs es =>
    simp only [zik] at hy
    split at hy
    · rename_i l' hl
      cases hy
      obtain ⟨g1, g2⟩ := zmR hl
      obtain ⟨ms, h1, h2, h3, h4⟩ := h
      refine ⟨ms, h1, by omega, fun i e m he hm => ?_, h4⟩
      have hi := zd he
      have hx : es[i]? = some (es[i]'(by omega)) := List.getElem?_eq_getElem _
      have k := h3 i _ m hx hm
      have q := g2 i _ e hx he
      exact ⟨k.1.ren R q.1, k.2.ren R q.2⟩
    · cases hy
  | lrec b r vs =>
    simp only [zik] at hy
    split at hy
    · rename_i l' hl
      cases hy
      obtain ⟨g1, g2⟩ := zcZ hl
      obtain ⟨h1, h2, h3, h4⟩ := h
      refine ⟨h1, h2, by omega, fun i c v hc hv => ?_⟩
      have hi := zd hc
      have hx : vs[i]? = some (vs[i]'(by omega)) := List.getElem?_eq_getElem _
      exact (h4 i _ v hx hv).ren R (g2 i _ c hx hc)
    · cases hy
  | mit m c seen =>
    cases m with
    | none => simp [zik] at hy; subst hy; exact h
    | some m =>
      simp only [zik] at hy
      split at hy
      · rename_i m' hm
        cases hy
        obtain ⟨⟨z, k1, k2⟩, h2⟩ := h
        obtain ⟨e, z', g1, g2, _⟩ := R.obj m m' z hm k1
        exact ⟨⟨z', g1, by rw [g2]; exact k2⟩, by rw [e]; exact h2⟩
      · cases hy
  | row g sz cs =>
    simp only [zik] at hy
    split at hy
    · rename_i l' hl
      cases hy
      obtain ⟨g1, g2⟩ := zcZ hl
      obtain ⟨h1, h2, hsc, hs, h3, h4⟩ := h
      refine ⟨h1, by rw [g1]; exact h2, fun d hd => ?_, hs, h3, fun j c hj => ?_⟩
      · obtain ⟨j, hj⟩ := List.mem_iff_getElem?.1 hd
        have hi := zd hj
        have hx : cs[j]? = some (cs[j]'(by omega)) := List.getElem?_eq_getElem _
        exact renAV_sc (g2 j _ d hx hj) (hsc _ (List.mem_of_getElem? hx))
      · have hi := zd hj
        have hx : cs[j]? = some (cs[j]'(by omega)) := List.getElem?_eq_getElem _
        obtain ⟨v, h5, h6⟩ := h4 j _ hx
        exact ⟨v, h5, h6.ren R (g2 j _ c hx hj)⟩
    · cases hy
  | tok sz n => simp [zik] at hy; subst hy; exact h
  | iter s p => simp [zik] at hy; subst hy; exact h
  | dead => simp [zik] at hy; subst hy; exact h

theorem zgW {f : Nat → Option Nat} {x y : zc} (h : zik f x = some y) : y.kind = x.kind ∧ (∀ sz n, x = .tok sz n → y = .tok sz n) ∧ (∀ g sz cs, x = .row g sz cs → ∃ cs', y = .row g sz cs' ∧ cs'.length = cs.length) ∧ ∀ (l : Loc) b o, zcs l y b o ↔ zcs l x b o := by
  cases x with
  | box cs =>
    simp only [zik] at h
    split at h
    · rename_i l hl
      cases h
      obtain ⟨g1, _⟩ := zcZ hl
      exact ⟨rfl, nofun, nofun, fun l b o => by simp only [zcs]; rw [g1]⟩
    · cases h
  | map es =>
    simp only [zik] at h
    split at h
    · cases h
      exact ⟨rfl, nofun, nofun, fun l b o => Iff.rfl⟩
    · cases h
  | mapr c bs es =>
    simp only [zik] at h
    split at h
    · cases h
      exact ⟨rfl, nofun, nofun, fun l b o => Iff.rfl⟩
    · cases h
  | lrec b r vs =>
    simp only [zik] at h
    split at h
    · cases h
      exact ⟨rfl, nofun, nofun, fun l b o => Iff.rfl⟩
    · cases h
  | mit m c seen =>
    cases m with
    | none => simp only [zik, Option.some.injEq] at h; subst h; exact ⟨rfl, nofun, nofun, fun l b o => Iff.rfl⟩
    | some m =>
      simp only [zik] at h
      split at h
      · cases h
        exact ⟨rfl, nofun, nofun, fun l b o => Iff.rfl⟩
      · cases h
  | row g sz cs =>
    simp only [zik] at h
    split at h
    · rename_i l hl
      cases h
      obtain ⟨g1, _⟩ := zcZ hl
      exact ⟨rfl, nofun, fun g' sz' cs' e => by cases e; exact ⟨l, rfl, g1⟩, fun l b o => Iff.rfl⟩
    · cases h
  | tok sz n => simp [zik] at h; subst h; exact ⟨rfl, fun _ _ e => e, nofun, fun _ _ _ => Iff.rfl⟩
  | iter s p => simp [zik] at h; subst h; exact ⟨rfl, nofun, nofun, fun _ _ _ => Iff.rfl⟩
  | dead => simp [zik] at h; subst h; exact ⟨rfl, nofun, nofun, fun _ _ _ => Iff.rfl⟩

mutual
theorem zmT {n : Nat} {f : Nat → Option Nat} (hf : ∀ id, id < n → f id = some id) : ∀ {x : AV}, Low n x → zcm f x = some x
  | .d x, _ => rfl
  | .agg cs, h => by cases h with | agg _ h => simp only [zcm, zdU hf h]
  | .tup cs, h => by cases h with | tup _ h => simp only [zcm, zdU hf h]
  | .own t es, h => by cases h with | own _ _ h => simp only [zcm, hf t h]
  | .exact es, _ => rfl
  | .bsl id off len cap sz, h => by cases h with | bsl _ _ _ _ _ h => simp only [zcm, hf id h]
  | .box id off, h => by cases h with | box _ _ h => simp only [zcm, hf id h]
  | .vp cs, _ => rfl
  | .map id, h => by cases h with | map _ h => simp only [zcm, hf id h]
  | .iter id, h => by cases h with | iter _ h => simp only [zcm, hf id h]
  | .fn g a b, h => by cases h with | fn _ _ _ h1 h2 => simp only [zcm, zdU hf h1, zdU hf h2]
  | .rsl t g sz lo hi, h => by cases h with | rsl _ _ _ _ _ h => simp only [zcm, hf t h]
  | .rpt t g off, h => by cases h with | rpt _ _ _ h => simp only [zcm, hf t h]
  | .undef, _ => rfl
theorem zdU {n : Nat} {f : Nat → Option Nat} (hf : ∀ id, id < n → f id = some id) : ∀ {l : List AV}, (∀ c ∈ l, Low n c) → zgc f l = some l
  | [], _ => rfl
  | a :: l, h => by simp only [zgc, zmT hf (h a List.mem_cons_self), zdU hf (fun c hc => h c (List.mem_cons_of_mem _ hc))]
end

theorem zmQ {n : Nat} {f : Nat → Option Nat} (hf : ∀ id, id < n → f id = some id) : ∀ {l : List (AV × AV)}, (∀ e ∈ l, Low n e.1 ∧ Low n e.2) → renPs f l = some l
  | [], _ => rfl
  | a :: l, h => by
    have := h a List.mem_cons_self
    simp only [renPs, zmT hf this.1, zmT hf this.2, zmQ hf (fun c hc => h c (List.mem_cons_of_mem _ hc))]
theorem renO_low {n : Nat} {f : Nat → Option Nat} (hf : ∀ id, id < n → f id = some id) {x : zc} (h : LowO n x) : zik f x = some x := by
  cases x with
  | box cs => simp only [zik, zdU hf h]
  | map es => simp only [zik, zmQ hf h]
  | mapr c bs es => simp only [zik, zmQ hf h]
  | lrec b r vs => simp only [zik, zdU hf h]
  | mit m c seen =>
    cases m with
    | none => rfl
    | some m => simp only [zik, hf m h]
  | row g sz cs => simp only [zik, zdU hf h]
  | _ => rfl

theorem idxK_spec : ∀ {ks : List Nat} {id m i : Nat}, idxK ks id m = some i → m ≤ i ∧ ks[i - m]? = some id
  | [], _, _, _, h => by simp [idxK] at h
  | k :: ks, id, m, i, h => by
    simp only [idxK] at h
    split at h
    · rename_i e
      cases h
      exact ⟨Nat.le_refl _, by simp [e]⟩
    · obtain ⟨h1, h2⟩ := idxK_spec h
      exact ⟨by omega, by rw [show i - m = (i - (m + 1)) + 1 by omega]; simpa using h2⟩

def getL (σ : List zc) : List Nat → Option (List zc)
  | [] => some []
  | k :: ks => match σ[k]?, getL σ ks with | some x, some l => some (x :: l) | _, _ => none
theorem getL_get : ∀ {ks : List Nat} {l : List zc}, getL σ ks = some l → l.length = ks.length ∧ ∀ (i : Nat) k x, ks[i]? = some k → l[i]? = some x → σ[k]? = some x
  | [], l, h => by simp [getL] at h; subst h; simp
  | k :: ks, l, h => by
    simp only [getL] at h
    split at h
    · rename_i x t h1 h2
      cases h
      obtain ⟨g1, g2⟩ := getL_get h2
      refine ⟨by simp [g1], fun i k x hk hx => ?_⟩
      cases i with
      | zero => simp at hk hx; subst hk hx; exact h1
      | succ i => exact g2 i k x hk hx
    · cases h

def znV (n : Nat) (ks : List Nat) (K : KT) (out : Option (List AV)) (σ' : List zc) : Prop :=
  match out with
  | some l => n ≤ σ'.length ∧ zgS n (σ'.take n) ∧ (∀ k ∈ ks, n ≤ k) ∧ ks.Nodup ∧
    match getL σ' ks with
    | some os => match zmS (zkw n ks) os, zcm (zkw n ks) (zcJ l) with
      | some os', some r => K r (σ'.take n ++ os')
      | _, _ => False
    | none => False
  | none => False
def znW (n : Nat) (ks : List zc → List Nat) (K : KT) (out : Option (List AV)) (σ' : List zc) : Prop := znV n (ks σ') K out σ'

theorem keep_sound {n : Nat} {ks : List Nat} {os os' : List zc} (S : Sim L σ w) (hn : n ≤ σ.length) (hlow : zgS n (σ.take n)) (hks : ∀ k ∈ ks, n ≤ k) (hnd : ks.Nodup) (hos : getL σ ks = some os) (hos' : zmS (zkw n ks) os = some os') :
    ∃ L2, (∀ id, id < n → L2 id = L id) ∧ zpz L L2 σ (σ.take n ++ os') (zkw n ks) ∧ Sim L2 (σ.take n ++ os') w := by
  have hlt : (σ.take n).length = n := by simp [hn]
  obtain ⟨a1, a2⟩ := getL_get hos
  obtain ⟨b1, b2⟩ := renOs_get hos'
  let src : Nat → Nat := fun i => if i < n then i else ks.getD (i - n) 0
  refine ⟨fun i => L (src i), fun id h => by simp [src, h], ?_, ?_⟩
  all_goals
    -- an object of the new list, and the one that it was
    have obj2 : ∀ i y, (σ.take n ++ os')[i]? = some y → ∃ x, σ[src i]? = some x ∧ zik (zkw n ks) x = some y ∧ (i < n ∨ n ≤ i ∧ ks[i - n]? = some (src i)) := fun i y hy => by
      rcases Nat.lt_or_ge i n with hi | hi
      · rw [List.getElem?_append_left (by omega), List.getElem?_take, if_pos hi] at hy
        refine ⟨y, by simpa [src, hi] using hy, renO_low (n := n) (fun id h => by simp [zkw, h]) (hlow i y (by rw [List.getElem?_take, if_pos hi]; exact hy)), .inl hi⟩
      · rw [List.getElem?_append_right (by omega), hlt] at hy
        have h1 := zd hy
        have hx : os[i - n]? = some (os[i - n]'(by omega)) := List.getElem?_eq_getElem _
        have hk : ks[i - n]? = some (ks[i - n]'(by omega)) := List.getElem?_eq_getElem _
        have hsrc : src i = ks[i - n]'(by omega) := by
          have : ¬ i < n := by omega
          simp [src, this, List.getD, hk]
        exact ⟨_, by rw [hsrc]; exact a2 _ _ _ hk hx, b2 _ _ y hx hy, .inr ⟨hi, by rw [hsrc]; exact hk⟩⟩
    have foot : ∀ b o, Own (fun i => L (src i)) (σ.take n ++ os') b o → Own L σ b o := fun b o ⟨i, y, hy, hf⟩ => by
      obtain ⟨x, h1, h2, _⟩ := obj2 i y hy
      exact ⟨src i, x, h1, ((zgW h2).2.2.2 _ _ _).1 hf⟩
    have R : zpz L (fun i => L (src i)) σ (σ.take n ++ os') (zkw n ks) := ⟨fun id i x hi hx => by
      unfold zkw at hi
      split at hi
      · rename_i hid
        cases hi
        refine ⟨by simp [src, hid], x, ?_, rfl, fun _ _ e => e, fun g sz cs e => ⟨cs, e, rfl⟩⟩
        rw [List.getElem?_append_left (by omega), List.getElem?_take, if_pos hid]; exact hx
      · obtain ⟨h1, h2⟩ := idxK_spec hi
        have hi' : ¬ i < n := by omega
        have hsrc : src i = id := by simp [src, hi', List.getD, h2]
        refine ⟨by rw [hsrc], ?_⟩
        have h3 := zd h2
        have hy : (σ.take n ++ os')[i]? = some (os'[i - n]'(by omega)) := by
          rw [List.getElem?_append_right (by omega), hlt]; exact List.getElem?_eq_getElem _
        obtain ⟨x', g1, g2, _⟩ := obj2 i _ hy
        rw [hsrc, hx] at g1
        cases g1
        exact ⟨_, hy, (zgW g2).1, (zgW g2).2.1, (zgW g2).2.2.1⟩, foot⟩
  · exact R
  · refine ⟨fun i y hy => ?_, fun i j x y b o hij hx hy hfx hfy => ?_⟩
    · obtain ⟨x, h1, h2, _⟩ := obj2 i y hy
      exact (S.obj _ _ h1).ren R h2
    · obtain ⟨x', h1, h2, h3⟩ := obj2 i x hx
      obtain ⟨y', g1, g2, g3⟩ := obj2 j y hy
      have hne : src i ≠ src j := by
        rcases h3 with hi | ⟨hi, hki⟩ <;> rcases g3 with hj | ⟨hj, hkj⟩
        · simpa [src, hi, hj] using hij
        · have := hks _ (List.mem_of_getElem? hkj)
          have e : src i = i := by simp [src, hi]
          omega
        · have := hks _ (List.mem_of_getElem? hki)
          have e : src j = j := by simp [src, hj]
          omega
        · intro e
          rw [e] at hki
          have l1 := zd hki
          have l2 := zd hkj
          have := (List.getElem?_inj l1 hnd).1 (hki.trans hkj.symm)
          omega
      exact S.apart _ _ _ _ b o hne h1 g1 (((zgW h2).2.2.2 _ _ _).1 hfx) (((zgW g2).2.2.2 _ _ _).1 hfy)

theorem zdy {f : FuncId} {F : AF} {na : Nat} (hF : isFn P f F na) {as0 : List AV} (has : as0.length = na) {K : KT} (ks : List zc → List Nat)
    (h : zgS σ.length σ → (∀ a ∈ as0, Low σ.length a) → awp P F.body (AtEnd fun fr' σ' => znW σ.length ks K (zmP fr' σ' F.res) σ') (zgV 0 as0) σ) : zn P f as0 σ K :=
  zld hF has _ (fun {L w L' σ' w' fr' ts} S st S' F' hz => by
    unfold znW znV at hz
    split at hz
    · rename_i l hl
      obtain ⟨z0, z1, z2, z3, z4⟩ := hz
      split at z4
      · rename_i os hos
        split at z4
        · rename_i os' r hos' hr
          obtain ⟨L2, k1, k2, k3⟩ := keep_sound S' z0 z1 z2 z3 hos hos'
          refine ⟨L2, _, l, r, hl, ⟨st.os, st.tape, st.output, st.size, st.blk, st.cell, st.fz, fun b o hb ho => st.own b o hb (k2.own b o ho), by simp; omega, fun id x hx => ?_⟩, k3, fun v hv => hv.ren k2 hr, z4⟩
          have hid := zd hx
          obtain ⟨x', g1, g2, g3, g4, g5⟩ := st.turns id x hx
          refine ⟨x', by rw [List.getElem?_append_left (by simp; omega), List.getElem?_take, if_pos hid]; exact g1, g2, fun hk hk5 => (k1 id hid).trans (g3 hk hk5), fun sz n e => ?_, fun g sz cs e => ?_⟩
          · obtain ⟨n', e1, e2, e3⟩ := g4 sz n e
            exact ⟨n', e1, e2, fun e => (k1 id hid).trans (e3 e)⟩
          · rcases g5 g sz cs e with h | ⟨g', cs', e1, e2, e3⟩
            · exact .inl h
            · exact .inr ⟨g', cs', e1, e2, fun e => ⟨(k1 id hid).trans (e3 e).1, (e3 e).2⟩⟩
        · exact z4.elim
      · exact z4.elim
    · exact hz.elim) h

end

section
variable {P : Program} {w : World} {L : Nat → Loc} {σ : List zc}

theorem zn.tok {f : FuncId} {xs : List AV} {es : List (List D)} {sz : Nat} (hsz : ∀ e ∈ es, e.length = sz) {K : KT}
    (h : zn P f xs σ fun r σ' => (r = .own σ.length es ∧ σ' = σ ++ [.tok sz es.length]) ∨ (r = .exact es ∧ σ' = σ)) (hK : K (.own σ.length es) (σ ++ [.tok sz es.length])) : zn P f xs σ K :=
  ⟨h.1, fun L w vs S hv => (h.2 L w vs S hv).mono fun e w' he => by
    cases e with
    | panicked ch => exact he
    | outgrown => exact he
    | returned v =>
      obtain ⟨L', σ', r, s, S', hr, hcase⟩ := he
      rcases hcase with ⟨rfl, rfl⟩ | ⟨rfl, rfl⟩
      · exact ⟨L', _, _, s, S', hr, hK⟩
      · obtain ⟨a, hv', hrd, ha, hs⟩ := zhe hr
        obtain ⟨st, S2⟩ := add_tok S' sz es.length a ha hs
        refine ⟨_, _, _, s.trans st, S2, ?_, hK⟩
        refine .own _ _ _ sz es.length (by simp) (Nat.le_refl _) hsz (st.rd hrd) fun _ => ?_
        rw [hv', zB]
        cases a <;> rfl⟩
end


abbrev bcs (bs : List UInt8) : List (List D) := bs.map zbx
theorem zdh {bs : List UInt8} : ∀ e ∈ bcs bs, e.length = 1 := by
  intro e he
  obtain ⟨b, _, rfl⟩ := List.mem_map.1 he
  rfl
theorem zbM (bs : List UInt8) : (bcs bs).length = bs.length := by simp [bcs]
theorem zkh (bs : List UInt8) : zki (bcs bs) = some bs := by
  induction bs with
  | nil => rfl
  | cons b bs ih =>
    simp only [bcs] at ih
    simp only [bcs, List.map_cons, zbx, zki, ih, Option.map_some]
    simp
theorem zlO (a b : List UInt8) : bcs a ++ bcs b = bcs (a ++ b) := by simp [bcs]
theorem zE {α : Type} (σ τ : List α) (k : Nat) : (σ ++ τ)[σ.length + k]? = τ[k]? := by
  rw [List.getElem?_append_right (by omega), Nat.add_sub_cancel_left]
theorem zj {α : Type} (σ τ : List α) : (σ ++ τ)[σ.length]? = τ[0]? := by
  rw [List.getElem?_append_right (by omega), Nat.sub_self]
theorem zat {α : Type} (σ τ : List α) (k : Nat) (x : α) : (σ ++ τ).set (σ.length + k) x = σ ++ τ.set k x := by
  rw [List.set_append_right _ _ (by omega), Nat.add_sub_cancel_left]
theorem zP {α : Type} (σ τ : List α) (x : α) : (σ ++ τ).set σ.length x = σ ++ τ.set 0 x := by
  rw [List.set_append_right _ _ (by omega), Nat.sub_self]
theorem zap {α : Type} (σ τ : List α) : (σ ++ τ).length = σ.length + τ.length := by simp
theorem zf {α : Type} {σ τ : List α} {id : Nat} {x : α} (h : σ[id]? = some x) : (σ ++ τ)[id]? = some x := by
  rw [List.getElem?_append_left (List.getElem?_eq_some_iff.1 h).1]; exact h
theorem set_left {α : Type} {σ τ : List α} {id : Nat} {x y : α} (h : σ[id]? = some x) : (σ ++ τ).set id y = σ.set id y ++ τ := by
  rw [List.set_append_left _ _ (List.getElem?_eq_some_iff.1 h).1]
theorem map_dm1_d (ds : List D) : (ds.map AV.d).map dm1 = ds.map AV.d := by simp [Function.comp_def, dm1]
theorem low_map_d (n : Nat) (ds : List D) : ∀ c ∈ ds.map AV.d, Low n c := by
  intro c hc
  obtain ⟨d, _, rfl⟩ := List.mem_map.1 hc
  exact .d _
inductive Tag {α : Sort _} (p : α) : Type
  | mk
def BBL (b : Bool) (p q : Prop) (_ : Tag p) (_ : Tag q) : Prop := BB b p q
def ACallL (P : Program) (f : FuncId) (as_ : List AV) (σ : List zc) (K : KT) (_ : Tag K) : Prop := zn P f as_ σ K
theorem zbf (P : Program) (f : FuncId) (as_ : List AV) (σ : List zc) (K : KT) : zn P f as_ σ K = ACallL P f as_ σ K .mk := rfl
def loopCL (init : List AV) (σ : List zc) (round : List AV → List zc → (List AV → List zc → Prop) → Prop) (_ : Tag round) : Prop := zbP init σ round
theorem zcv (init : List AV) (σ : List zc) (round : List AV → List zc → (List AV → List zc → Prop) → Prop) : zbP init σ round = loopCL init σ round .mk := rfl
theorem zL (p q : Prop) (t : Tag p) (u : Tag q) : BBL true p q t u = p := zpA p q
theorem zA (p q : Prop) (t : Tag p) (u : Tag q) : BBL false p q t u = q := zmJ p q
theorem zM {b : Bool} {p q : Prop} {t : Tag p} {u : Tag q} (h1 : b = true → p) (h2 : b = false → q) : BBL b p q t u := ⟨h1, h2⟩
theorem zau (b : Bool) (p q : Prop) (t : Tag p) (u : Tag q) : BBL (!b) p q t u = BBL b q p u t := BB_not b p q
theorem zN (b : Bool) (body : KT → Prop) (σ : List zc) (K : KT) : zfd (.d (.bool b)) true body σ K = BBL b (body K) (K (.tup []) σ) .mk .mk := by
  simp only [zfd, BB_beqT]; rfl
theorem zO (b : Bool) (body : KT → Prop) (σ : List zc) (K : KT) : zfd (.d (.bool b)) false body σ K = BBL b (K (.tup []) σ) (body K) .mk .mk := by
  simp only [zfd, BB_beqF]; rfl
theorem zU (w : Bool) (body : KT → Prop) (σ : List zc) (K : KT) : zfd (.tup []) w body σ K = K (.tup []) σ := rfl
theorem zad (b : Bool) (p q : Prop) : zl (.d (.bool b)) p q = BBL b p q .mk .mk := rfl
theorem zaw (b : Bool) (x y : AV) (σ : List zc) (K : KT) : znN (.d (.bool b)) x y σ K = BBL b (K x σ) (K y σ) .mk .mk := rfl
theorem zhx (b : Bool) (body : KT → Prop) (σ : List zc) (K : KT) : gF (.d (.bool b)) body σ K = BBL b (K (.tup []) σ) (body K) .mk .mk := zO b body σ K
theorem zhv (b : Bool) (body : KT → Prop) (σ : List zc) (K : KT) : gT (.d (.bool b)) body σ K = BBL b (body K) (K (.tup []) σ) .mk .mk := zN b body σ K
theorem zhy (body : KT → Prop) (σ : List zc) (K : KT) : gF (.tup []) body σ K = K (.tup []) σ := rfl
theorem zhw (body : KT → Prop) (σ : List zc) (K : KT) : gT (.tup []) body σ K = K (.tup []) σ := rfl
theorem zcA (b : Bool) (x : AV) (σ : List zc) (K : KT) : gFm (.d (.bool b)) x σ K = BBL b (K (.tup []) σ) (K x σ) .mk .mk := zO b _ σ K
theorem zcw (b : Bool) (x : AV) (σ : List zc) (K : KT) : gTm (.d (.bool b)) x σ K = BBL b (K x σ) (K (.tup []) σ) .mk .mk := zN b _ σ K
theorem zcB (x : AV) (σ : List zc) (K : KT) : gFm (.tup []) x σ K = K (.tup []) σ := rfl
theorem zcx (x : AV) (σ : List zc) (K : KT) : gTm (.tup []) x σ K = K (.tup []) σ := rfl
theorem zhz (off : Nat) (x : AV) (σ : List zc) (K : KT) : fl off x σ K = zh off x σ fun a s => zk false 1 a s K := rfl
theorem zcu (off : Nat) (x : AV) (σ : List zc) (K : KT) : nfl off x σ K = zbE x σ fun b s => zh off b s fun a s => zk false 1 a s K := rfl
theorem zcC (b : Bool) (off : Nat) (x : AV) (σ : List zc) (K : KT) : gFl (.d (.bool b)) off x σ K = BBL b (K (.tup []) σ) (zh off x σ fun a s => zk false 1 a s K) .mk .mk := by
  cases b <;> simp [gFl, zO, zL, zA]
theorem zcy (b : Bool) (off : Nat) (x : AV) (σ : List zc) (K : KT) : gTl (.d (.bool b)) off x σ K = BBL b (zh off x σ fun a s => zk false 1 a s K) (K (.tup []) σ) .mk .mk := by
  cases b <;> simp [gTl, zN, zL, zA]
theorem zcD (off : Nat) (x : AV) (σ : List zc) (K : KT) : gFl (.tup []) off x σ K = K (.tup []) σ := rfl
theorem zcz (off : Nat) (x : AV) (σ : List zc) (K : KT) : gTl (.tup []) off x σ K = K (.tup []) σ := rfl
theorem zhu (m : Bool) (sz n : Nat) (x i : AV) (σ : List zc) (K : KT) : il m sz n x i σ K = zC none sz x i σ fun a s => zk m n a s K := rfl
theorem zhA (z : List AV) (n : Nat) (x : AV) (σ : List zc) (K : KT) : cp z n x σ K = zai z σ fun b s => zi n b x s fun _ s => K b s := rfl
theorem zct (b : Bool) (x : AV) (σ : List zc) (K : KT) : orC (.d (.bool b)) x σ K = BBL b (K (.d (.bool true)) σ) (K x σ) .mk .mk := rfl
theorem zcE (b : Bool) (x : AV) (σ : List zc) (K : KT) : anC (.d (.bool b)) x σ K = BBL b (K x σ) (K (.d (.bool false)) σ) .mk .mk := rfl
theorem zhB (P : Program) (f : FuncId) (as_ : List AV) (σ : List zc) (K : KT) : cA P f as_ σ K = ACallL P f (as_.map dm) σ K .mk := rfl
theorem zhC (op : BinOp) (x y : AV) (σ : List zc) (K : KT) : bP op x y σ K = zea op .plain x y σ K := rfl
theorem zhs (Z : Option (List AV) → List zc → Prop) (a : AV) (σ : List zc) : z1 Z a σ = Z (zp (some a) (some [])) σ := rfl
theorem zhr (Z : Option (List AV) → List zc → Prop) (a b : AV) (σ : List zc) : z2 Z a b σ = Z (zp (some a) (zp (some b) (some []))) σ := rfl
theorem zht (n : Nat) (z : List AV) (x : AV) (σ : List zc) (K : KT) : m1 n z x σ K = zq false n 1 (zX (rep z 1) [(0, n, x)]) σ K := rfl
theorem ziZ (σ τ : List zc) : (σ ++ τ).take σ.length = σ := by simp
theorem zlC {σ τ : List zc} {K : KT} {l : List AV} (h1 : Low σ.length (dmT (zcJ l))) (hl : zgS σ.length σ) (h : K (dmT (zcJ l)) σ) : Ends σ.length K (some l) (σ ++ τ) := by
  unfold Ends
  rw [ziZ]
  exact ⟨h1, hl, h⟩
theorem zeW {σ : List zc} {K : KT} {l : List AV} (h1 : Low σ.length (dmT (zcJ l))) (hl : zgS σ.length σ) (h : K (dmT (zcJ l)) σ) : Ends σ.length K (some l) σ := by
  unfold Ends
  rw [List.take_length]
  exact ⟨h1, hl, h⟩

theorem finP {σ τ : List zc} {K : KT} {l : List AV} (hl : zgS σ.length σ) (h : K (dmT (zcJ l)) σ) (h1 : Low σ.length (dmT (zcJ l)) := by simp [zeB, dmT, dm, dm1, zcJ, ziS, Low_agg, znM]) : Ends σ.length K (some l) (σ ++ τ) := zlC h1 hl h
theorem finQ {σ : List zc} {K : KT} {l : List AV} (hl : zgS σ.length σ) (h : K (dmT (zcJ l)) σ) (h1 : Low σ.length (dmT (zcJ l)) := by simp [zeB, dmT, dm, dm1, zcJ, ziS, Low_agg, znM]) : Ends σ.length K (some l) σ := zeW h1 hl h
structure Hd (p : Prop) : Prop where
  go : p
theorem zdv {σ s : List zc} {K : KT} {l : List AV} (hl : zgS σ.length σ) (h : K (dmT (zcJ l)) σ) (e : ∃ τ, s = σ ++ τ := by first | with_reducible exact ⟨_, rfl⟩ | exact ⟨[], (List.append_nil _).symm⟩) (h1 : Low σ.length (dmT (zcJ l)) := by simp [zeB, dmT, dm, dm1, zcJ, ziS, Low_agg, znM]) : Ends σ.length K (some l) s := by
  obtain ⟨τ, rfl⟩ := e
  exact zlC h1 hl h
theorem andA {p q : Prop} (h2 : q) (h1 : p := by first | omega | rfl | decide | (simp; done) | fail) : p ∧ q := ⟨h1, h2⟩

theorem endsL_none {σ τ : List zc} {K : KT} {l : List AV} {r : AV} (hl : zgS σ.length σ) (hr : zcm (zkw σ.length []) (zcJ l) = some r) (h : K r σ) : znV σ.length [] K (some l) (σ ++ τ) := by
  simp only [znV, getL, zmS, hr, ziZ]
  refine ⟨by simp, hl, by simp, by simp, by simpa using h⟩
theorem endsL_none0 {σ : List zc} {K : KT} {l : List AV} {r : AV} (hl : zgS σ.length σ) (hr : zcm (zkw σ.length []) (zcJ l) = some r) (h : K r σ) : znV σ.length [] K (some l) σ := by
  have := endsL_none (τ := []) hl hr h
  simpa using this
theorem endsL_own {σ τ : List zc} {K : KT} {t sz n : Nat} {es : List (List D)} (hl : zgS σ.length σ) (ht : σ.length ≤ t) (hg : (σ ++ τ)[t]? = some (.tok sz n)) (h : K (.own σ.length es) (σ ++ [.tok sz n])) :
    znV σ.length [t] K (some [.own t es]) (σ ++ τ) := by
  have h1 : ¬ t < σ.length := by omega
  simp only [znV, getL, hg, zmS, zik, zcJ, zcm, zkw, idxK, h1, if_false, if_true, ziZ]
  exact ⟨by simp, hl, by simpa using ht, by simp, h⟩

theorem znp {σ : List zc} {ks : List zc → List Nat} {K : KT} {l : List AV} {r : AV} (hks : ks σ = []) (hl : zgS σ.length σ) (hr : zcm (zkw σ.length []) (zcJ l) = some r) (h : K r σ) : znW σ.length ks K (some l) σ := by
  unfold znW; rw [hks]; exact endsL_none0 hl hr h
theorem endsK_own {σ τ : List zc} {ks : List zc → List Nat} {K : KT} {t sz n : Nat} {es : List (List D)} (hks : ks (σ ++ τ) = [t]) (hl : zgS σ.length σ) (ht : σ.length ≤ t) (hg : (σ ++ τ)[t]? = some (.tok sz n)) (h : K (.own σ.length es) (σ ++ [.tok sz n])) :
    znW σ.length ks K (some [.own t es]) (σ ++ τ) := by
  unfold znW; rw [hks]; exact endsL_own hl ht hg h

theorem zeX {σ : List zc} {ks : List zc → List Nat} {K : KT} {sz n : Nat} {es : List (List D)} (hl : zgS σ.length σ) (hks : ks (σ ++ [.tok sz n]) = [σ.length]) (h : K (.own σ.length es) (σ ++ [.tok sz n])) :
    znW σ.length ks K (some [.own σ.length es]) (σ ++ [.tok sz n]) := endsK_own hks hl (Nat.le_refl _) List.getElem?_concat_length h

def zbC (N : Nat) (I : Nat → List AV → List zc → Prop) (k : Nat) (vs : List AV) (s : List zc) : Prop := ∃ n', n' < N - k ∧ ∃ k', k' ≤ N ∧ n' = N - k' ∧ I k' vs s
theorem zbC.next {N : Nat} {I : Nat → List AV → List zc → Prop} {k : Nat} {vs : List AV} {s : List zc} (hk : k < N) (h : I (k + 1) vs s) : zbC N I k vs s :=
  ⟨N - (k + 1), by omega, k + 1, by omega, rfl, h⟩
theorem zbC.to {N : Nat} {I : Nat → List AV → List zc → Prop} {k : Nat} {vs : List AV} {s : List zc} (k' : Nat) (hk : k < k') (hk' : k' ≤ N) (h : I k' vs s) : zbC N I k vs s :=
  ⟨N - k', by omega, k', by omega, rfl, h⟩
theorem zcc {init : List AV} {σ : List zc} {round : List AV → List zc → (List AV → List zc → Prop) → Prop} (N : Nat) (I : Nat → List AV → List zc → Prop) {vs0 : List AV} {s0 : List zc} (hw : zle init σ vs0 s0)
    (h0 : I 0 vs0 s0) (h : ∀ k vs s, k ≤ N → I k vs s → round vs s (zbC N I k)) : zbP init σ round := by
  refine ⟨fun n vs s => ∃ k, k ≤ N ∧ n = N - k ∧ I k vs s, N, ⟨vs0, s0, hw, 0, Nat.zero_le _, rfl, h0⟩, ?_⟩
  rintro n vs s ⟨k, hk, rfl, hI⟩
  exact h k vs s hk hI
theorem zF {init : List AV} {σ : List zc} {round : List AV → List zc → (List AV → List zc → Prop) → Prop} (N : Nat) (I : Nat → List AV → List zc → Prop)
    (h0 : I 0 init σ) (h : ∀ k vs s, k ≤ N → I k vs s → round vs s (zbC N I k)) : zbP init σ round := zcc N I (.refl _ _) h0 h
theorem n0gt : decide (((0 : Nat) : Int) > 0) = false := rfl
theorem n1gt : decide (((1 : Nat) : Int) > 0) = true := rfl
theorem n2gt : decide (((2 : Nat) : Int) > 0) = true := rfl
theorem n0eq : (((0 : Nat) : Int) == 0) = true := rfl
theorem zjQ : (((1 : Nat) : Int) == 0) = false := rfl
theorem n1eq : (((1 : Nat) : Int) == 1) = true := rfl
theorem n2eq : (((2 : Nat) : Int) == 2) = true := rfl
theorem n0ne : (((0 : Nat) : Int) != 0) = false := rfl
theorem n1ne : (((1 : Nat) : Int) != 1) = false := rfl
theorem zjP : (((1 : Nat) : Int) != 0) = true := rfl
theorem zjR : (((0 : Nat) : Int) != 1) = true := rfl
theorem i0ne : ((0 : Int) != 0) = false := rfl
theorem i0eq : ((0 : Int) == 0) = true := rfl
theorem zx (a : AV) (l : List AV) (k : AV → List AV → Prop) : zaK (a :: l) k = k a l := rfl
theorem Q0 {α : Type _} {a : α} {l : List α} : (a :: l)[0]? = some a := rfl
theorem Q1 {α : Type _} {a : α} {i : Nat} {l : List α} : (a :: l)[i + 1]? = l[i]? := rfl
theorem Q2 {α : Type _} {β : Type _} {f : α → β} {a : α} {l : List α} : List.map f (a :: l) = f a :: List.map f l := rfl
theorem Q3 {α : Type _} {β : Type _} {f : α → β} : List.map f [] = [] := rfl
theorem Q4 {α : Type _} {a : α} {as0 : List α} : (a :: as0).length = as0.length + 1 := rfl
theorem Q5 {α : Type _} : ([] : List α).length = 0 := rfl
theorem Q6 {α : Type _} (as0 bs cs : List α) : as0 ++ bs ++ cs = as0 ++ (bs ++ cs) := List.append_assoc as0 bs cs
theorem Q7 {α : Type _} {a : α} {as0 bs : List α} : a :: as0 ++ bs = a :: (as0 ++ bs) := rfl
theorem Q8 {α : Type _} (as0 : List α) : [] ++ as0 = as0 := rfl
theorem Q9 {α : Type _} {x : α} {xs : List α} {a : α} : (x :: xs).set 0 a = a :: xs := rfl
theorem Q10 {α : Type _} {x : α} {xs : List α} {i : Nat} {a : α} : (x :: xs).set (i + 1) a = x :: xs.set i a := rfl
theorem Q11 (n m k : Nat) : n + m + k = n + (m + k) := Nat.add_assoc n m k
theorem Q12 (n : Nat) : 0 + n = n := Nat.zero_add n
theorem Q13 (n : Nat) : n + 0 = n := rfl
theorem Q14 (n : Nat) : n * 1 = n := Nat.mul_one n
theorem Q15 (n : Nat) : ((n : Int)).toNat = n := rfl
theorem Q16 {α : Type _} {β : Type _} (a : α) (f : α → β) : Option.map f (some a) = some (f a) := rfl
theorem Q17 {α : Type _} {β : Type _} (f : α → β) : Option.map f none = none := rfl
theorem Q18 : (false = true) = False := Bool.false_eq_true
theorem Q19 {α : Sort _} {x : Decidable True} (t e : α) : (if True then t else e) = t := if_true t e
theorem Q20 {α : Sort _} {x : Decidable False} (t e : α) : (if False then t else e) = e := if_false t e
theorem Q21 (p : Prop) : (True ∧ p) = p := true_and p
theorem Q22 (p : Prop) : (p ∧ True) = p := and_true p
theorem Q23 {α : Type _} {a : α} {as0 : List α} {i : Nat} : List.take (i + 1) (a :: as0) = a :: List.take i as0 := rfl
theorem Q24 {α : Type _} {l : List α} : List.take 0 l = [] := rfl
theorem Q25 {α : Type _} {a : α} {l : List α} {i : Nat} : List.drop (i + 1) (a :: l) = List.drop i l := rfl
theorem Q26 {α : Type _} {l : List α} : List.drop 0 l = l := rfl
theorem Q27 {α : Type _} {i : Nat} : List.take i ([] : List α) = [] := List.take_nil
theorem Q28 {α : Type _} {i : Nat} : List.drop i ([] : List α) = [] := List.drop_nil
theorem Q29 (n : Nat) : n ≤ n := Nat.le_refl n
theorem Q30 {α : Type _} (as0 : List α) : as0 ++ [] = as0 := List.append_nil as0
theorem Q31 {α : Type _} {a : α} {l : List α} {f : α → Bool} : (a :: l).all f = (f a && l.all f) := rfl
theorem Q32 {α : Type _} {f : α → Bool} : [].all f = true := rfl
theorem Q33 (b : Bool) : (b && true) = b := Bool.and_true b
theorem Q34 (b : Bool) : (b && b) = b := Bool.and_self b
theorem Q35 (n : Nat) : ¬n < n := Nat.lt_irrefl n
theorem Q36 (n : Nat) : 0 * n = 0 := Nat.zero_mul n
theorem Q37 (n : Nat) : n - 0 = n := rfl
theorem Q38 {α : Type _} {l : List α} {L : List (List α)} : (l :: L).flatten = l ++ L.flatten := rfl
theorem Q39 {α : Type _} : ([] : List (List α)).flatten = [] := rfl

def allO {α : Type} : List (Option α) → Option (List α)
  | [] => some []
  | some a :: l => match allO l with | some r => some (a :: r) | none => none
  | none :: _ => none
theorem zmH {α : Type} : ∀ {l : List (Option α)} {r : List α}, allO l = some r → r.length = l.length ∧ ∀ (i : Nat) a b, l[i]? = some a → r[i]? = some b → a = some b
  | [], r, h => by simp [allO] at h; subst h; simp
  | none :: l, r, h => by simp [allO] at h
  | some a :: l, r, h => by
    simp only [allO] at h
    split at h
    · rename_i r' hr
      cases h
      obtain ⟨h1, h2⟩ := zmH hr
      refine ⟨by simp [h1], fun i x y hx hy => ?_⟩
      cases i with
      | zero => simp at hx hy; subst hx hy; rfl
      | succ i => simp at hx hy; exact h2 i x y hx hy
    · cases h
def frz (σ : List zc) (n₀ : Nat) : Nat → AV → Option D
  | _, .d x => some x
  | _, .own _ es => some (.slice es)
  | _, .exact es => some (.slice es)
  | n + 1, .rsl t g sz lo hi => match σ[t]? with
    | some (.row g' sz' cs) => if n₀ ≤ t ∧ g' = g ∧ sz' = sz then
        match allO (((cs.drop (lo * sz)).take ((hi - lo) * sz)).map (frz σ n₀ n)) with
        | some ds => some (.slice (zao sz (hi - lo) ds))
        | none => none
      else none
    | _ => none
  | _, _ => none
def frz1 (σ : List zc) (n₀ n : Nat) : AV → Option AV
  | .agg cs => match allO (cs.map (frz σ n₀ n)) with | some ds => some (.agg (ds.map .d)) | none => none
  | a => match frz σ n₀ n a with | some x => some (.d x) | none => none
def frzT (σ : List zc) (n₀ n : Nat) : AV → Option AV
  | .tup vs => match allO (vs.map (frz1 σ n₀ n)) with | some l => some (.tup l) | none => none
  | a => frz1 σ n₀ n a

section

variable {P : Program} {w : World} {L : Nat → Loc} {σ : List zc}

theorem frz_sound (S : Sim L σ w) {O : Nat → Nat → Prop} {n₀ : Nat} (hO : ∀ b o, O b o → Own L σ b o) (hno : ∀ t x, n₀ ≤ t → σ[t]? = some x → x.kind = 5 → ∀ b o, zcs (L t) x b o → ¬ O b o) :
    ∀ (n : Nat) (a : AV) (x : D) (v : Value), RV w L σ a v → frz σ n₀ n a = some x → RD w O x v := by
  intro n
  induction n with
  | zero =>
    intro a x v h hx
    cases h with
    | d _ _ h => simp [frz] at hx; subst hx; exact zfc hO h
    | own _ _ _ _ _ _ _ _ h => simp [frz] at hx; subst hx; exact zfc hO h
    | exact _ _ h => simp [frz] at hx; subst hx; exact zfc hO h
    | _ => simp [frz] at hx
  | succ n ih =>
    intro a x v h hx
    cases h with
    | d _ _ h => simp [frz] at hx; subst hx; exact zfc hO h
    | own _ _ _ _ _ _ _ _ h => simp [frz] at hx; subst hx; exact zfc hO h
    | exact _ _ h => simp [frz] at hx; subst hx; exact zfc hO h
    | rsl t g sz lo hi b c h1 h2 h3 h4 h5 h6 h7 =>
      simp only [frz] at hx
      split at hx
      · rename_i g' sz' cs hcs
        split at hx
        · rename_i hc
          obtain ⟨hn, rfl, rfl⟩ := hc
          split at hx
          · rename_i ds hds
            cases hx
            obtain ⟨a1, a2⟩ := zmH hds
            obtain ⟨_, q2, q3, q4, q5⟩ := h7 sz' cs hcs
            obtain ⟨p0, ⟨m, p1, p1'⟩, p2, p3, p4, p5⟩ := S.obj t _ hcs
            have hmul : hi * sz' ≤ (L t).cap * sz' := Nat.mul_le_mul_right _ q3
            have hsub : lo * sz' + (hi - lo) * sz' = hi * sz' := by rw [← Nat.add_mul]; congr 1; omega
            have hdl : ds.length = (hi - lo) * sz' := by rw [a1]; simp; omega
            have hcl : (zao sz' (hi - lo) ds).length = hi - lo := zgb _ _ _
            rcases Nat.eq_zero_or_pos (hi - lo) with h0 | h0
            · rw [h0] at hcl ⊢
              rw [List.eq_nil_of_length_eq_zero hcl]
              exact .empty _ _ h5
            · rw [q5 (by omega)]
              have hch := zke sz' (hi - lo) ds hdl
              generalize hes : zao sz' (hi - lo) ds = es at hcl hch
              rw [← hcl]
              refine RD.of_block (sz := sz') (by rw [hcl]; exact h4) hch fun i e j d hi' hj => ?_
              rw [← hes] at hi'
              obtain ⟨c1, c2, c3⟩ := zjl sz' (hi - lo) ds i e j d hi' hj
              have hlt := zd c3
              rw [hdl] at hlt
              have hc : cs[lo * sz' + (i * sz' + j)]? = some (cs[lo * sz' + (i * sz' + j)]'(by omega)) := List.getElem?_eq_getElem _
              obtain ⟨u, u1, u2⟩ := p5 _ _ hc
              refine ⟨u, by rw [Nat.add_assoc]; exact u1, hno t _ hn hcs rfl _ _ ⟨rfl, by omega, by omega⟩, ih _ d u u2 ?_⟩
              refine a2 (i * sz' + j) _ d ?_ c3
              rw [List.getElem?_map, List.getElem?_take, if_pos hlt, List.getElem?_drop, hc]
              rfl
          · cases hx
        · cases hx
      · cases hx
    | _ => simp [frz] at hx

theorem zoq (S : Sim L σ w) {L2 : Nat → Loc} {σ2 : List zc} {n₀ n : Nat} (hO : ∀ b o, Own L2 σ2 b o → Own L σ b o) (hno : ∀ t x, n₀ ≤ t → σ[t]? = some x → x.kind = 5 → ∀ b o, zcs (L t) x b o → ¬ Own L2 σ2 b o)
    {a r : AV} {v : Value} (h : RV w L σ a v) (hr : frz1 σ n₀ n a = some r) : RV w L2 σ2 r v := by
  have one : (match frz σ n₀ n a with | some x => some (AV.d x) | none => none) = some r → RV w L2 σ2 r v := fun hr => by
    split at hr
    · rename_i x hx
      cases hr
      exact .d _ _ (frz_sound S hO hno n a x v h hx)
    · cases hr
  cases a with
  | agg cs =>
    simp only [frz1] at hr
    split at hr
    · rename_i ds hds
      cases hr
      obtain ⟨vs, rfl, h1, h2⟩ := h.agg_inv
      obtain ⟨a1, a2⟩ := zmH hds
      refine .agg _ _ (by simp at a1 ⊢; omega) fun i c u hc hu => ?_
      simp only [List.getElem?_map, Option.map_eq_some_iff] at hc
      obtain ⟨d, hd, rfl⟩ := hc
      have hlt := zd hd
      have hcs : cs[i]? = some (cs[i]'(by simp at a1; omega)) := List.getElem?_eq_getElem _
      exact .d _ _ (frz_sound S hO hno n _ d u (h2 i _ u hcs hu) (a2 i _ d (by rw [List.getElem?_map, hcs]; rfl) hd))
    · cases hr
  | _ => exact one hr
theorem zop (S : Sim L σ w) {L2 : Nat → Loc} {σ2 : List zc} {n₀ n : Nat} (hO : ∀ b o, Own L2 σ2 b o → Own L σ b o) (hno : ∀ t x, n₀ ≤ t → σ[t]? = some x → x.kind = 5 → ∀ b o, zcs (L t) x b o → ¬ Own L2 σ2 b o)
    {a r : AV} {v : Value} (h : RV w L σ a v) (hr : frzT σ n₀ n a = some r) : RV w L2 σ2 r v := by
  cases a with
  | tup cs =>
    simp only [frzT] at hr
    split at hr
    · rename_i l hl
      cases hr
      obtain ⟨vs, rfl, h1, h2⟩ := h.tup_inv
      obtain ⟨a1, a2⟩ := zmH hl
      refine .tup _ _ (by simp at a1 ⊢; omega) fun i c u hc hu => ?_
      have hlt := zd hc
      have hcs : cs[i]? = some (cs[i]'(by simp at a1; omega)) := List.getElem?_eq_getElem _
      exact zoq S hO hno (h2 i _ u hcs hu) (a2 i _ c (by rw [List.getElem?_map, hcs]; rfl) hc)
    · cases hr
  | _ => exact zoq S hO hno h hr

def EndsF (m n : Nat) (K : KT) (out : Option (List AV)) (σ' : List zc) : Prop :=
  match out with
  | some l => match frzT σ' n m (zcJ l) with
    | some r => zgS n (σ'.take n) ∧ K r (σ'.take n)
    | none => False
  | none => False
theorem acall_frz {f : FuncId} {F : AF} {na : Nat} (hF : isFn P f F na) {as0 : List AV} (has : as0.length = na) {K : KT} (m : Nat)
    (h : zgS σ.length σ → (∀ a ∈ as0, Low σ.length a) → awp P F.body (AtEnd fun fr' σ' => EndsF m σ.length K (zmP fr' σ' F.res) σ') (zgV 0 as0) σ) : zn P f as0 σ K :=
  zld hF has _ (fun {L w L' σ' w' fr' ts} S st S' F' hz => by
    unfold EndsF at hz
    split at hz
    · rename_i l hl
      split at hz
      · rename_i r hr
        obtain ⟨z2, z3⟩ := hz
        refine ⟨L', _, l, r, hl, st.take, S'.take z2, fun v hv => zop S' (fun b o => zkz) (fun t x ht hx hk b o hf hown => ?_) hv hr, z3⟩
        obtain ⟨id, y, hy, hfy⟩ := hown
        rw [List.getElem?_take] at hy
        split at hy
        · rename_i hid
          exact S'.apart id t y x b o (by omega) hy hx hfy hf
        · cases hy
      · exact hz.elim
    · exact hz.elim) h

end

section
variable {P : Program} {σ : List zc}

theorem zn.weaken {f : FuncId} {xs : List AV} {K : KT} (h : zn P f xs σ fun r s => ∃ r' s', zle [r] s [r'] s' ∧ K r' s') : zn P f xs σ K :=
  ⟨h.1, fun L w vs S hv => (h.2 L w vs S hv).mono fun e w' he => by
    cases e with
    | panicked _ => exact he
    | outgrown => exact he
    | returned v =>
      obtain ⟨L', σ', r, st, S', hr, r', s', hw, hK⟩ := he
      obtain ⟨L2, st2, S2, hv2⟩ := ziX hw S' (us := [v]) ⟨rfl, fun i c u hc hu => by cases i <;> simp at hc hu; subst hc hu; exact hr⟩
      exact ⟨L2, s', r', st.trans st2, S2, hv2.2 0 r' v rfl rfl, hK⟩⟩

theorem zn.dm {f : FuncId} {xs : List AV} {K : KT} (h : zn P f (xs.map AW.dm) σ K) : zn P f xs σ K :=
  ⟨h.1, fun L w vs S hv => h.2 L w vs S ⟨by rw [List.length_map]; exact hv.1, fun i a v ha hu => by
    simp only [List.getElem?_map, Option.map_eq_some_iff] at ha
    obtain ⟨a', ha', rfl⟩ := ha
    exact zmE (hv.2 i a' v ha' hu)⟩⟩

theorem zn.pre {f : FuncId} {xs xs' : List AV} {σ' : List zc} {K : KT} (hw : zle xs σ xs' σ') (h : zn P f xs' σ' K) : zn P f xs σ K :=
  ⟨h.1, fun L w vs S hv => by
    obtain ⟨L1, st, S1, hv1⟩ := ziX hw S hv
    refine (h.2 L1 w vs S1 hv1).mono fun e w' he => ?_
    cases e with
    | panicked _ => exact he
    | outgrown => exact he
    | returned v =>
      obtain ⟨L', s', r, st', S', hr, hK⟩ := he
      exact ⟨L', s', r, st.trans st', S', hr, hK⟩⟩
theorem zgS.setO {n : Nat} (h : zgS n σ) {id : Nat} {x : zc} (hx : LowO n x) : zgS n (σ.set id x) := zgS.set h hx
theorem zjd {α : Type} {σ : List α} {id : Nat} {x : α} (h : σ[id]? = some x) : σ.set id x = σ := by
  obtain ⟨hl, hh⟩ := List.getElem?_eq_some_iff.1 h
  rw [← hh]; exact List.set_getElem_self hl
theorem zg {α : Type} {σ : List α} {id : Nat} {x : α} (h : σ[id]? = some x) : id < σ.length := (List.getElem?_eq_some_iff.1 h).1
end

section
variable {P : Program} {σ : List zc}

def zli (K : KT) (out : Option (List AV)) (σ' : List zc) : Prop := match out with
  | some l => ∃ s, zle [] σ' [] s ∧ K (dmT (zcJ l)) s
  | none => False
theorem zaj {f : FuncId} {F : AF} {na : Nat} (hF : isFn P f F na) {as0 : List AV} (has : as0.length = na) {K : KT}
    (h : zgS σ.length σ → (∀ a ∈ as0, Low σ.length a) → awp P F.body (AtEnd fun fr' σ' => zli K (zmP fr' σ' F.res) σ') (zgV 0 as0) σ) : zn P f as0 σ K :=
  zld hF has _ (fun {L w L' σ' w' fr' ts} S st S' F' hz => by
    unfold zli at hz
    split at hz
    · rename_i l hl
      obtain ⟨s, hw, hK⟩ := hz
      obtain ⟨L2, st2, S2, _⟩ := ziX hw S' (us := []) ⟨rfl, by simp⟩
      exact ⟨L2, s, l, dmT (zcJ l), hl, st.trans st2, S2, fun v hr => dmT_sound (st2.rv hr), hK⟩
    · exact hz.elim) h
theorem zaO {K : KT} {l : List AV} {s : List zc} (h : K (dmT (zcJ l)) s) : zli K (some l) s := ⟨_, .refl _ _, h⟩
end


theorem row_fill {L : Nat → Loc} {σ : List zc} {w w' : World} (S : Sim L σ w) {id g sz : Nat} {cs cs' : List AV} (hx : σ[id]? = some (.row g sz cs)) (hl : cs'.length = cs.length) (hsc' : ∀ c ∈ cs', sc c = true)
    (h1 : w'.os = w.os) (h2 : w'.tape = w.tape) (h3 : w'.output = w.output) (h4 : w.heap.size ≤ w'.heap.size)
    (hblk : ∀ b, b < w.heap.size → b ≠ (L id).a.block → w'.heap[b]? = w.heap[b]?)
    (hblk0 : (∀ o, ¬ zcs (L id) (.row g sz cs) (L id).a.block o) → w'.heap[(L id).a.block]? = w.heap[(L id).a.block]?)
    (hc : ∀ b o, b < w.heap.size → ¬ zcs (L id) (.row g sz cs) b o → w'.cell? ⟨b, o, none⟩ = w.cell? ⟨b, o, none⟩)
    (hfz : ∀ b o, b < w.heap.size → w'.frozen? ⟨b, o, none⟩ = w.frozen? ⟨b, o, none⟩)
    (hin : ∀ o, zcs (L id) (.row g sz cs) (L id).a.block o → ∃ v, w'.cell? ⟨(L id).a.block, o, none⟩ = some v)
    (hcells : ∀ (j : Nat) c, cs'[j]? = some c → ∃ v, w'.cell? ⟨(L id).a.block, (L id).a.off + j, none⟩ = some v ∧ RV w' L (σ.set id (.row g sz cs')) c v) :
    zbJ L σ w L (σ.set id (.row g sz cs')) w' ∧ Sim L (σ.set id (.row g sz cs')) w' := by
  have hf : ∀ b o, zcs (L id) (.row g sz cs') b o → zcs (L id) (.row g sz cs) b o := fun b o h => h
  have own : ∀ b o, zcs (L id) (.row g sz cs) b o → Own L σ b o := fun b o h => ⟨id, _, hx, h⟩
  have s : zbJ L σ w L (σ.set id (.row g sz cs')) w' := by
    refine ⟨h1, h2, h3, h4, fun c hc' hn => ?_, fun c p hc' hn => hc c p hc' fun h => hn (own _ _ h), fun c p hc' hn => hfz c p hc', fun c p _ h => zln hx hf h, by simp, fun i y hy => ?_⟩
    · by_cases e : c = (L id).a.block
      · subst e
        exact hblk0 fun o h => hn o (own _ _ h)
      · exact hblk c hc' e
    · by_cases e : id = i
      · subst e
        rw [hx] at hy; cases hy
        exact ⟨.row g sz cs', by simp [zd hx], fun _ => rfl, fun _ _ => rfl, fun _ _ e => (by cases e), fun g' sz' c' e => by cases e; exact .inr ⟨g, cs', rfl, Nat.le_refl _, fun _ => ⟨rfl, hl⟩⟩⟩
      · exact .stay (by rw [List.getElem?_set_ne e]; exact hy) rfl
  refine ⟨s, fun i y hy => ?_, fun i j y z c p hij hy hz hfy hfz' => ?_⟩
  · rcases zH hy with ⟨rfl, rfl⟩ | ⟨hne, hy⟩
    · obtain ⟨k0, k1, ksc, ks, k2, k3⟩ := S.obj i _ hx
      refine ⟨k0, by rw [hl]; exact k1, hsc', fun h => Nat.lt_of_lt_of_le (ks h) h4, fun o ho ho' => ?_, hcells⟩
      obtain ⟨⟨u, h5⟩, h6⟩ := k2 o ho ho'
      exact ⟨hin o ⟨rfl, ho, ho'⟩, (hfz _ _ (cell?_some_lt h5)).trans h6⟩
    · have ho := S.obj i y hy
      refine ho.keep s (fun c p hfp => ?_) (fun c hc' => ?_)
      · have hlt : c < w.heap.size := S.own_lt ⟨i, y, hy, hfp⟩
        exact ⟨hc c p hlt fun h => S.apart i id y _ c p hne hy hx hfp h, hfz c p hlt⟩
      · have hlt : c < w.heap.size := S.own_lt ⟨i, y, hy, hc' 0⟩
        by_cases e : c = (L id).a.block
        · subst e
          exact hblk0 fun o h => S.apart i id y _ _ o hne hy hx (hc' o) h
        · exact hblk c hlt e
  · have key : ∀ {i y}, (σ.set id (.row g sz cs'))[i]? = some y → zcs (L i) y c p → ∃ y', σ[i]? = some y' ∧ zcs (L i) y' c p := fun {i y} hy hfy => by
      rcases zH hy with ⟨rfl, rfl⟩ | ⟨_, hy⟩
      · exact ⟨_, hx, hf _ _ hfy⟩
      · exact ⟨y, hy, hfy⟩
    obtain ⟨y', hy', hfy'⟩ := key hy hfy
    obtain ⟨z', hz', hfz''⟩ := key hz hfz'
    exact S.apart i j y' z' c p hij hy' hz' hfy' hfz''
open Go.Sort

structure SortsC {α : Type} [Inhabited α] (P : Program) (f : FuncId) (enc : α → Value) (srt : List α → List α) : Prop where
  some : ∀ (blk off cap : Nat) (ss : List α) (W : World), Go.Sort.Holds enc W blk off ss.toArray → blk < W.heap.size → ss.length < 4611686018427387904 →
    Calls P f #[.slice (some ⟨blk, off, none⟩) ss.length cap] W fun e w' => e = .returned (.tuple #[]) ∧ ∃ k os, w' = grow (putRow enc (Go.Sort.ahead W k) blk off (srt ss).toArray) os
  none : ∀ (p : Option Addr) (cap : Nat) (W : World), Calls P f #[.slice p 0 cap] W fun e w' => e = .returned (.tuple #[]) ∧ w' = W
  len : ∀ l, (srt l).length = l.length
theorem acall_sort {α : Type} [Inhabited α] {P : Program} {f : FuncId} {enc : α → Value} {srt : List α → List α} {dA : α → D} (hd : ∀ w O x v, RD w O (dA x) v ↔ v = enc x) (hok : zny P f = true) (hs : SortsC P f enc srt)
    {σ : List zc} {t g : Nat} {l : List α} (hσ : σ[t]? = some (.row g 1 (l.map fun x => .d (dA x)))) (hn : l.length < 4611686018427387904) {K : KT}
    (hK : K (.tup []) (σ.set t (.row g 1 ((srt l).map fun x => .d (dA x))))) : zn P f [.rsl t g 1 0 l.length] σ K := by
  refine ⟨hok, fun L w vs S hv => ?_⟩
  obtain ⟨hv1, hv2⟩ := hv
  obtain ⟨v, rfl⟩ : ∃ v, vs = [v] := by
    match vs, hv1 with
    | [v], _ => exact ⟨v, rfl⟩
  have hv3 := hv2 0 _ _ rfl rfl
  obtain ⟨b, c, rfl, _, hlh, hle, hb, hb', _, hcur⟩ := hv3.rsl_inv
  obtain ⟨_, q2, q3, q4, q5⟩ := hcur 1 _ hσ
  have hlen := hs.len l
  rw [Nat.sub_zero]
  rcases Nat.eq_zero_or_pos l.length with h0 | h0
  · rw [h0]
    refine (hs.none b c w).mono ?_
    rintro e w' ⟨rfl, rfl⟩
    have e1 : l = [] := List.length_eq_zero_iff.1 h0
    subst e1
    have e2 : srt [] = [] := List.length_eq_zero_iff.1 hlen
    rw [e2, List.map_nil] at hK
    rw [List.map_nil] at hσ
    have e3 : σ.set t (.row g 1 []) = σ := by
      apply List.ext_getElem?
      intro i
      rw [List.getElem?_set]
      split
      · rename_i e; subst e; rw [hσ]; simp [zd hσ]
      · rfl
    rw [e3] at hK
    exact ⟨L, σ, .tup [], .refl _ _ _, S, .tup [] [] rfl (by simp), hK⟩
  · have hcap : l.length ≤ (L t).cap := q3
    obtain ⟨k0, k1, ksc, ks, k2, k3⟩ := S.obj t _ hσ
    have hlt := ks (by omega)
    rw [q5 (by omega)]
    simp only [Nat.zero_mul, Nat.add_zero]
    have hH : Go.Sort.Holds enc w (L t).a.block (L t).a.off l.toArray := fun j hj => by
      have hj' : j < l.length := by simpa using hj
      obtain ⟨u, h1, h2⟩ := k3 j (.d (dA l[j])) (by simp [hj'])
      cases h2 with
      | d _ _ h2 =>
        have := (hd _ _ _ _).1 h2
        subst this
        refine ⟨by rw [h1]; simp [hj'], (k2 _ (by omega) (by omega)).2⟩
    refine (hs.some (L t).a.block (L t).a.off c l w hH hlt hn).mono ?_
    rintro e w' ⟨rfl, k, os, rfl⟩
    have hH' : Go.Sort.Holds enc (Go.Sort.ahead w k) (L t).a.block (L t).a.off l.toArray := hH
    have hsz : (putRow enc (Go.Sort.ahead w k) (L t).a.block (L t).a.off (srt l).toArray).heap.size = w.heap.size := by simp [putRow, mapBlock, Go.Sort.ahead]
    have oth : ∀ b, b < w.heap.size → b ≠ (L t).a.block → (grow (putRow enc (Go.Sort.ahead w k) (L t).a.block (L t).a.off (srt l).toArray) os).heap[b]? = w.heap[b]? := fun b hb hne => by
      rw [heap_grow_old _ _ (by rw [hsz]; exact hb)]
      simp [putRow, mapBlock, Go.Sort.ahead, Array.getElem?_modify, Ne.symm hne]
    have cel : ∀ b o, b < w.heap.size → (grow (putRow enc (Go.Sort.ahead w k) (L t).a.block (L t).a.off (srt l).toArray) os).cell? ⟨b, o, none⟩ = (putRow enc (Go.Sort.ahead w k) (L t).a.block (L t).a.off (srt l).toArray).cell? ⟨b, o, none⟩ := fun b o hb => cell?_grow _ _ _ (by rw [hsz]; exact hb)
    have inn : ∀ j, j < l.length → (grow (putRow enc (Go.Sort.ahead w k) (L t).a.block (L t).a.off (srt l).toArray) os).cell? ⟨(L t).a.block, (L t).a.off + j, none⟩ = some (enc (srt l).toArray[j]!) := fun j hj => by
      rw [cel _ _ hlt]
      exact cell?_putRow enc (Go.Sort.ahead w k) _ _ l.toArray (srt l).toArray hH' (by simp [hlen]) j (by simp [hlen, hj])
    have out : ∀ o, o < (L t).a.off ∨ (L t).a.off + l.length ≤ o → (grow (putRow enc (Go.Sort.ahead w k) (L t).a.block (L t).a.off (srt l).toArray) os).cell? ⟨(L t).a.block, o, none⟩ = w.cell? ⟨(L t).a.block, o, none⟩ := fun o ho => by
      rw [cel _ _ hlt]
      exact cell?_putRow_other enc (Go.Sort.ahead w k) _ _ _ _ (.inr (by simpa [hlen] using ho))
    obtain ⟨s, S'⟩ := row_fill (w' := grow (putRow enc (Go.Sort.ahead w k) (L t).a.block (L t).a.off (srt l).toArray) os) S hσ (cs' := (srt l).map fun x => .d (dA x)) (by simp [hlen]) (by simp [sc]) rfl rfl rfl (by rw [size_grow, hsz]; omega) oth
      (fun h => absurd (⟨rfl, Nat.le_refl _, by omega⟩ : zcs (L t) (.row g 1 (l.map fun x => .d (dA x))) (L t).a.block (L t).a.off) (h _))
      (fun b o hb hf => by
        by_cases e : b = (L t).a.block
        · subst e
          refine out o ?_
          have : ¬ ((L t).a.off ≤ o ∧ o < (L t).a.off + (L t).cap * 1) := fun h => hf ⟨rfl, h.1, h.2⟩
          omega
        · rw [cel _ _ hb]
          exact cell?_putRow_other enc (Go.Sort.ahead w k) _ _ _ _ (.inl e))
      (fun b o hb => by
        rw [frozen?_grow _ _ _ (by rw [hsz]; exact hb), frozen?_putRow]; rfl)
      (fun o ho => by
        obtain ⟨_, h1, h2⟩ := ho
        by_cases e : o < (L t).a.off + l.length
        · have := inn (o - (L t).a.off) (by omega)
          rw [show (L t).a.off + (o - (L t).a.off) = o by omega] at this
          exact ⟨_, this⟩
        · obtain ⟨⟨u, h3⟩, _⟩ := k2 o h1 h2
          exact ⟨u, (out o (by omega)).trans h3⟩)
      (fun j c hj => by
        rw [List.getElem?_map] at hj
        obtain ⟨x, hx, rfl⟩ := Option.map_eq_some_iff.1 hj
        have hjl := zd hx
        rw [hlen] at hjl
        refine ⟨_, inn j hjl, .d _ _ ((hd _ _ _ _).2 ?_)⟩
        have hjs : j < (srt l).length := by omega
        have : (srt l)[j] = x := Option.some.inj ((List.getElem?_eq_getElem hjs).symm.trans hx)
        rw [← this]; simp [hjs])
    exact ⟨L, _, .tup [], s, S', .tup [] [] rfl (by simp), hK⟩
end Go.AW
