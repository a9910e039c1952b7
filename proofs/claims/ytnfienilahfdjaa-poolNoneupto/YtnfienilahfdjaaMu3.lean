/- Rows of rows, told as data; rows that are written, their shape. -/
import Derived.Test.YtnfienilahfdjaaMu2
set_option linter.all false
set_option maxRecDepth 100000
set_option linter.unusedSimpArgs false
set_option linter.unusedVariables false
namespace Go.Proofs.Ytnfienilahfdjaa
open Go.AW

theorem ByteX.frz {n m n₀ : Nat} {s : List AObj} {c : AV} {r : List UInt8} (h : ByteX n s c r) (hn : n₀ ≤ n) : frz s n₀ (m + 1) c = some (.slice (bcs r)) := by
  obtain ⟨t, g, h1, h2, h3⟩ := h
  subst h2
  have hk : allO ((((r.map byteA).drop (0 * 1)).take ((r.length - 0) * 1)).map (AW.frz s n₀ m)) = some (r.map fun b => D.int .u8 b.toNat) := by
    have : ((r.map byteA).drop (0 * 1)).take ((r.length - 0) * 1) = r.map byteA := by simp [List.take_of_length_le]
    rw [this, List.map_map]
    exact allO_map fun b _ => by cases m <;> rfl
  simp only [AW.frz, h3, hk]
  rw [if_pos (by simp; omega)]
  have hc : ∀ r : List UInt8, chunks 1 r.length (r.map fun b => D.int .u8 b.toNat) = bcs r := by
    intro r
    induction r with
    | nil => rfl
    | cons b r ih => simp only [List.length_cons, List.map_cons, chunks, List.take_succ_cons, List.take_zero, List.drop_succ_cons, List.drop_zero, ih]; rfl
  rw [Nat.sub_zero, hc]
theorem chunks_ones : ∀ rs : List (List UInt8), chunks 1 rs.length (rs.map fun r => D.slice (bcs r)) = recsE rs := by
  intro rs
  induction rs with
  | nil => rfl
  | cons r rs ih => simp only [List.length_cons, List.map_cons, chunks, List.take_succ_cons, List.take_zero, List.drop_succ_cons, List.drop_zero, ih]; rfl
theorem allO_at {α β : Type} {f : α → Option β} : ∀ {l : List α} {r : List β}, l.length = r.length → (∀ (i : Nat) a b, l[i]? = some a → r[i]? = some b → f a = some b) → allO (l.map f) = some r
  | [], [], _, _ => rfl
  | [], b :: r, h, _ => by simp at h
  | a :: l, [], h, _ => by simp at h
  | a :: l, b :: r, h, hf => by
    have h1 := hf 0 a b rfl rfl
    have h2 := allO_at (l := l) (r := r) (by simpa using h) fun i x y hx hy => hf (i + 1) x y (by simpa using hx) (by simpa using hy)
    simp only [List.map_cons, h1, allO, h2]
theorem RecsX.frz {n m n₀ : Nat} {s : List AObj} {c : AV} {rs : List (List UInt8)} (h : RecsX n s c rs) (hn : n₀ ≤ n) : frz s n₀ (m + 2) c = some (.slice (recsE rs)) := by
  obtain ⟨t, g, cs, h1, h2, h3, h4, h5⟩ := h
  subst h2
  have hk : allO (((cs.drop (0 * 1)).take ((rs.length - 0) * 1)).map (AW.frz s n₀ (m + 1))) = some (rs.map fun r => D.slice (bcs r)) := by
    have : (cs.drop (0 * 1)).take ((rs.length - 0) * 1) = cs := by simp [List.take_of_length_le, h4]
    rw [this]
    refine allO_at (by simp [h4]) fun i a b ha hb => ?_
    simp only [List.getElem?_map, Option.map_eq_some_iff] at hb
    obtain ⟨r, hr, rfl⟩ := hb
    obtain ⟨x, e1, e2⟩ := h5 i r hr
    rw [ha] at e1; cases e1
    exact e2.frz hn
  simp only [AW.frz, h3, hk]
  rw [if_pos (by simp; omega), Nat.sub_zero, chunks_ones]
theorem allO_app {α : Type} : ∀ {a b : List (Option α)} {x y : List α}, allO a = some x → allO b = some y → allO (a ++ b) = some (x ++ y)
  | [], b, x, y, h1, h2 => by simp [allO] at h1; subst h1; simpa using h2
  | none :: a, b, x, y, h1, h2 => by simp [allO] at h1
  | some c :: a, b, x, y, h1, h2 => by
    simp only [allO] at h1
    cases ha : allO a with
    | none => rw [ha] at h1; cases h1
    | some z =>
      rw [ha] at h1
      cases h1
      simp only [List.cons_append, allO, allO_app ha h2]
theorem chunks_nine : ∀ b : List TSigned, chunks 9 b.length ((b.map signedD).flatten) = batchE b := by
  intro b
  induction b with
  | nil => rfl
  | cons x b ih =>
    simp only [List.length_cons, List.map_cons, List.flatten_cons, chunks]
    rw [show ((signedD x) ++ (b.map signedD).flatten).take 9 = signedD x from rfl, show ((signedD x) ++ (b.map signedD).flatten).drop 9 = (b.map signedD).flatten from rfl, ih]
theorem BatchX.frz {n m n₀ : Nat} {s : List AObj} {c : AV} {b : List TSigned} (h : BatchX n s c b) (hn : n₀ ≤ n) : frz s n₀ (m + 3) c = some (.slice (batchE b)) := by
  obtain ⟨t, g, Ls, h1, h2, h3, h4, h5⟩ := h
  subst h2
  have h9 := flat_len (flat_nine h4 h5)
  have hk : allO ((((List.flatten Ls).drop (0 * 9)).take ((b.length - 0) * 9)).map (AW.frz s n₀ (m + 2))) = some ((b.map signedD).flatten) := by
    have : ((List.flatten Ls).drop (0 * 9)).take ((b.length - 0) * 9) = List.flatten Ls := by
      rw [Nat.zero_mul, List.drop_zero, Nat.sub_zero, List.take_of_length_le (by omega)]
    rw [this]
    clear this h3 h9
    induction b generalizing Ls with
    | nil =>
      have : Ls = [] := by simpa using h4
      subst this; rfl
    | cons x b ih =>
      match Ls, h4 with
      | l :: Ls, h4 =>
        obtain ⟨rc, e1, e2⟩ := h5 0 x rfl
        simp only [List.getElem?_cons_zero, Option.some.injEq] at e1
        subst e1
        have hr := ih Ls (by simpa using h4) fun i y hy => by
          obtain ⟨rc, g1, g2⟩ := h5 (i + 1) y (by simpa using hy)
          exact ⟨rc, by simpa using g1, g2⟩
        simp only [List.flatten_cons, List.map_append, List.map_cons]
        refine allO_app ?_ hr
        have f := e2.frz (m := m) hn
        simp only [cells9, List.map_cons, List.map_nil, allO, AW.frz, f, signedD]
  simp only [AW.frz, h3, hk]
  rw [if_pos (by simp; omega), Nat.sub_zero, chunks_nine]
end Go.Proofs.Ytnfienilahfdjaa
