/- Bytes of requests and batches say where they end; who is in a ledger. No program in sight. -/
import Derived.Test.YthmdpooklflkfaaSpRd
import Derived.Test.YthmdpooklflkfaaSpTab
set_option linter.all false
set_option linter.unusedSimpArgs false
set_option linter.unusedVariables false
namespace Go.AW

theorem reqB_pre {x y : TSigned} {s t : List UInt8} (hx : checkReqF x = 0) (hy : checkReqF y = 0) (zx : opSz x.op ≤ 20971520) (zy : opSz y.op ≤ 20971520) (h : reqB x ++ s = reqB y ++ t) :
    (x.client = y.client ∧ x.time = y.time ∧ x.op = y.op) ∧ s = t := by
  obtain ⟨a1, a2, a3, a4, a5⟩ := req_ok hx
  obtain ⟨b1, b2, b3, b4, b5⟩ := req_ok hy
  simp only [reqB, List.append_assoc] at h
  obtain ⟨e1, h⟩ := numB_pre (by omega) (by omega) h
  obtain ⟨e2, h⟩ := numB_pre (by omega) (by omega) h
  obtain ⟨e3, h⟩ := opB_pre a5 b5 (by omega) (by omega) h
  exact ⟨⟨by omega, by omega, e3⟩, h⟩
theorem signB_pre {k d k' d' : Int} {s t : List UInt8} (h1 : checkSignF k d = 0) (h2 : checkSignF k' d' = 0) (h : signB k d ++ s = signB k' d' ++ t) : (k = k' ∧ d = d') ∧ s = t := by
  have a := sign_ok h1
  have b := sign_ok h2
  simp only [signB, List.append_assoc] at h
  obtain ⟨e1, h⟩ := numB_pre (by omega) (by omega) h
  obtain ⟨e2, h⟩ := numB_pre (by omega) (by omega) h
  exact ⟨⟨by omega, by omega⟩, h⟩
theorem oneB_pre {x y : TSigned} {s t : List UInt8} (hx : checkReqF x = 0 ∧ checkSignF x.key x.dig = 0) (hy : checkReqF y = 0 ∧ checkSignF y.key y.dig = 0) (zx : opSz x.op ≤ 20971520) (zy : opSz y.op ≤ 20971520) (h : oneB x ++ s = oneB y ++ t) :
    x = y ∧ s = t := by
  have l1 := reqB_len (x := x) (by omega) hx.1
  have l2 := reqB_len (x := y) (by omega) hy.1
  simp only [oneB, List.append_assoc] at h
  obtain ⟨e1, h⟩ := putB_pre (by omega) (by omega) h
  obtain ⟨e2, h⟩ := signB_pre hx.2 hy.2 h
  have e3 := (reqB_pre (s := []) (t := []) hx.1 hy.1 zx zy (by rw [e1])).1
  refine ⟨?_, h⟩
  obtain ⟨e4, e5, e6⟩ := e3
  obtain ⟨e7, e8⟩ := e2
  cases x; cases y; simp_all
theorem batchBs_inj : ∀ {a b : List TSigned}, a.length = b.length → (∀ x ∈ a, (checkReqF x = 0 ∧ checkSignF x.key x.dig = 0) ∧ opSz x.op ≤ 20971520) → (∀ x ∈ b, (checkReqF x = 0 ∧ checkSignF x.key x.dig = 0) ∧ opSz x.op ≤ 20971520) →
    batchBs a = batchBs b → a = b
  | [], [], _, _, _, _ => rfl
  | [], y :: ys, hl, _, _, _ => by simp at hl
  | x :: xs, [], hl, _, _, _ => by simp at hl
  | x :: xs, y :: ys, hl, hx, hy, h => by
    simp only [batchBs, List.map_cons, List.flatten_cons] at h
    have h1 := hx x (by simp)
    have h2 := hy y (by simp)
    obtain ⟨e1, h⟩ := oneB_pre h1.1 h2.1 h1.2 h2.2 h
    rw [e1, batchBs_inj (by simpa using hl) (fun z hz => hx z (by simp [hz])) (fun z hz => hy z (by simp [hz])) h]
theorem batchB_inj {a b : List TSigned} (ha : checkBatchF a = 0) (hb : checkBatchF b = 0) (za : ∀ x ∈ a, opSz x.op ≤ 20971520) (zb : ∀ x ∈ b, opSz x.op ≤ 20971520) (h : batchB a = batchB b) : a = b := by
  obtain ⟨a4, am, _⟩ := batch_ok ha
  obtain ⟨b4, bm, _⟩ := batch_ok hb
  simp only [batchB] at h
  obtain ⟨e1, h⟩ := numB_pre (by omega) (by omega) h
  exact batchBs_inj e1 (fun x hx => ⟨am x hx, za x hx⟩) (fun x hx => ⟨bm x hx, zb x hx⟩) h

/-- the number of what is in a table, and what has it -/
theorem sum_pos {l : List (List UInt8)} {b : List UInt8} (h : sumN l b ≠ 0) : ∃ i : Nat, sumN l b = ((i + 1 : Nat) : Int) ∧ lookF (sumL l b) b = some i ∧ (sumL l b)[i]? = some b := by
  unfold sumN at h ⊢
  unfold sumL
  cases ho : lookF l b with
  | some i => exact ⟨i, rfl, ho, (lookF_lt ho).2⟩
  | none =>
    simp only [ho] at h
    simp only
    split at h
    · exact absurd rfl h
    · rename_i hl
      rw [if_neg hl, if_neg hl]
      exact ⟨l.length, rfl, look_new l b ho, by simp⟩
theorem sumL_more (l : List (List UInt8)) (b : List UInt8) : ∃ m, sumL l b = l ++ m := by
  unfold sumL
  cases lookF l b with
  | some i => exact ⟨[], by simp⟩
  | none =>
    simp only
    split
    · exact ⟨[], by simp⟩
    · exact ⟨[b], rfl⟩
/-- of two byte strings the numbers are the same just if these are -/
theorem sum_same {l : List (List UInt8)} {a b : List UInt8} (ha : sumN l a ≠ 0) (hb : sumN (sumL l a) b ≠ 0) : sumN l a = sumN (sumL l a) b ↔ a = b := by
  obtain ⟨i, e1, e2, e3⟩ := sum_pos ha
  obtain ⟨j, f1, f2, f3⟩ := sum_pos hb
  obtain ⟨m, hm⟩ := sumL_more (sumL l a) b
  constructor
  · intro h
    have hij : i = j := by rw [e1, f1] at h; omega
    subst hij
    rw [hm, List.getElem?_append_left (lt_len e3), e3] at f3
    exact Option.some.inj f3
  · intro h
    subst h
    rw [e1]
    simp only [sumN]
    rw [e2]
end Go.AW
