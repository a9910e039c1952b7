/- Rows that are written keep their shape. -/
import Derived.Test.YtnfienilahfdjaaMu3
set_option linter.all false
set_option maxRecDepth 100000
set_option linter.unusedSimpArgs false
set_option linter.unusedVariables false
namespace Go.Proofs.Ytnfienilahfdjaa
open Go.AW

def isI (y : AV) : Prop := ∃ v, y = .d (.int .u8 v)
def ByteS (n : Nat) (s : List AObj) (x : AV) : Prop := ∃ t g cs, n ≤ t ∧ x = .rsl t g 1 0 (List.length cs) ∧ s[t]? = some (.row g 1 cs) ∧ List.length cs ≤ 1073741824 ∧ ∀ y ∈ cs, isI y
def RecsS (n : Nat) (s : List AObj) (x : AV) : Prop := ∃ t g cs, n ≤ t ∧ x = .rsl t g 1 0 (List.length cs) ∧ s[t]? = some (.row g 1 cs) ∧ List.length cs ≤ 1073741824 ∧ ∀ y ∈ cs, ByteS n s y
def NineS (n : Nat) (s : List AObj) (l : List AV) : Prop := ∃ a tm p q r u rc v w, l = [.d (.int .i64 a), .d (.int .i64 tm), p, q, r, u, rc, v, w] ∧ RecsS n s rc
def BatchS (n : Nat) (s : List AObj) (t g m : Nat) : Prop := ∃ Ls, n ≤ t ∧ s[t]? = some (.row g 9 (List.flatten Ls)) ∧ Ls.length = m ∧ ∀ l ∈ Ls, NineS n s l
theorem ByteX.shape {n : Nat} {s : List AObj} {c : AV} {r : List UInt8} (h : ByteX n s c r) (hr : r.length ≤ 1073741824) : ByteS n s c := by
  obtain ⟨t, g, h1, h2, h3⟩ := h
  refine ⟨t, g, r.map byteA, h1, by rw [List.length_map]; exact h2, h3, by simpa using hr, fun y hy => ?_⟩
  obtain ⟨b, _, rfl⟩ := List.mem_map.1 hy
  exact ⟨_, rfl⟩
theorem RecsX.shape {n : Nat} {s : List AObj} {c : AV} {rs : List (List UInt8)} (h : RecsX n s c rs) (h0 : rs.length ≤ 1073741824) (hr : ∀ r ∈ rs, r.length ≤ 1073741824) : RecsS n s c := by
  obtain ⟨t, g, cs, h1, h2, h3, h4, h5⟩ := h
  refine ⟨t, g, cs, h1, by rw [h4]; exact h2, h3, by omega, fun y hy => ?_⟩
  obtain ⟨i, hi⟩ := List.mem_iff_getElem?.1 hy
  have := lt_len hi
  have hir : rs[i]? = some (rs[i]'(by omega)) := List.getElem?_eq_getElem _
  obtain ⟨x, e1, e2⟩ := h5 i _ hir
  rw [hi] at e1; cases e1
  exact e2.shape (hr _ (List.mem_of_getElem? hir))
theorem BatchX.shape {n : Nat} {s : List AObj} {c : AV} {b : List TSigned} (h : BatchX n s c b) (hb : smallB b) : ∃ t g, c = .rsl t g 9 0 b.length ∧ BatchS n s t g b.length := by
  obtain ⟨t, g, Ls, h1, h2, h3, h4, h5⟩ := h
  refine ⟨t, g, h2, Ls, h1, h3, h4, fun l hl => ?_⟩
  obtain ⟨i, hi⟩ := List.mem_iff_getElem?.1 hl
  have := lt_len hi
  have hib : b[i]? = some (b[i]'(by omega)) := List.getElem?_eq_getElem _
  obtain ⟨rc, e1, e2⟩ := h5 i _ hib
  rw [hi] at e1; cases e1
  have hs := hb.2 _ (List.mem_of_getElem? hib)
  exact ⟨_, _, _, _, _, _, _, _, _, rfl, e2.shape hs.1 hs.2⟩
def Keeps (s s' : List AObj) : Prop := ∀ (t g : Nat) (cs : List AV), s[t]? = some (.row g 1 cs) → ∃ cs', s'[t]? = some (.row g 1 cs') ∧ List.length cs' = List.length cs ∧ ((∀ y ∈ cs, isI y) → ∀ y ∈ cs', isI y) ∧ ((∀ y ∈ cs, isI y) ∨ cs' = cs)
theorem ByteS.keep {n : Nat} {s s' : List AObj} {x : AV} (h : ByteS n s x) (hk : Keeps s s') : ByteS n s' x := by
  obtain ⟨t, g, cs, h1, h2, h3, h4, h5⟩ := h
  obtain ⟨cs', e1, e2, e3, _⟩ := hk t g cs h3
  exact ⟨t, g, cs', h1, by rw [e2]; exact h2, e1, by omega, e3 h5⟩
theorem ByteS.notI {n : Nat} {s : List AObj} {x : AV} (h : ByteS n s x) : ¬ isI x := by
  obtain ⟨t, g, cs, h1, h2, _⟩ := h
  rintro ⟨v, hv⟩
  rw [hv] at h2; cases h2
theorem RecsS.keep {n : Nat} {s s' : List AObj} {x : AV} (h : RecsS n s x) (hk : Keeps s s') : RecsS n s' x := by
  obtain ⟨t, g, cs, h1, h2, h3, h4, h5⟩ := h
  obtain ⟨cs', e1, e2, _, e4⟩ := hk t g cs h3
  have : cs' = cs := by
    rcases e4 with e4 | e4
    · cases cs with
      | nil => simpa using e2
      | cons y r => exact absurd (e4 y (by simp)) (h5 y (by simp)).notI
    · exact e4
  subst this
  exact ⟨t, g, cs', h1, h2, e1, h4, fun y hy => (h5 y hy).keep hk⟩
theorem NineS.keep {n : Nat} {s s' : List AObj} {l : List AV} (h : NineS n s l) (hk : Keeps s s') : NineS n s' l := by
  obtain ⟨a, tm, p, q, r, u, rc, v, w, h1, h2⟩ := h
  exact ⟨a, tm, p, q, r, u, rc, v, w, h1, h2.keep hk⟩
theorem NineS.len {n : Nat} {s : List AObj} {l : List AV} (h : NineS n s l) : l.length = 9 := by
  obtain ⟨a, tm, p, q, r, u, rc, v, w, rfl, _⟩ := h
  rfl
theorem BatchS.keep {n : Nat} {s s' : List AObj} {t g m : Nat} (h : BatchS n s t g m) (hk : Keeps s s') (ht : s'[t]? = s[t]?) : BatchS n s' t g m := by
  obtain ⟨Ls, h1, h2, h3, h4⟩ := h
  exact ⟨Ls, h1, by rw [ht]; exact h2, h3, fun l hl => (h4 l hl).keep hk⟩
theorem BatchX.mono {n m : Nat} {s : List AObj} {c : AV} {b : List TSigned} (h : BatchX n s c b) (hm : m ≤ n) : BatchX m s c b := by
  obtain ⟨t, g, Ls, h1, h2, h3, h4, h5⟩ := h
  exact ⟨t, g, Ls, by omega, h2, h3, h4, fun i x hx => by obtain ⟨rc, e1, e2⟩ := h5 i x hx; exact ⟨rc, e1, e2.mono hm⟩⟩
theorem c_rqCloneX {σ : List AObj} {b : List TSigned} (hb : smallB b) {K : AV → List AObj → Prop} (hK : ∀ S c, (∃ T, S = σ ++ T) → BatchX σ.length S c b → K c S) : ACall Try.prog n_request_Clone [.d (.slice (batchE b))] σ K :=
  c_rqCloneM hb fun τ c h => hK _ c ⟨τ, rfl⟩ h
end Go.Proofs.Ytnfienilahfdjaa
