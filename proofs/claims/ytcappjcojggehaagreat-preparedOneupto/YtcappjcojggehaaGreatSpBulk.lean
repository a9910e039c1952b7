/- What holds little has short lists. No program in sight. -/
import Derived.Test.YtcappjcojggehaaGreatSpNum
import Derived.Test.YtcappjcojggehaaGreatSpPool
import Derived.Test.YtcappjcojggehaaGreatSpRd
set_option linter.all false
set_option linter.unusedSimpArgs false
namespace Go.AW

theorem zer {α : Type} {f : α → List D} (h : ∀ a, 1 ≤ zcQ (f a)) : ∀ (l : List α), l.length ≤ zdw (l.map f)
  | [] => Nat.zero_le _
  | a :: l => by have := h a; have := zer h l; simp only [List.map_cons, List.length_cons, zdw]; omega
theorem zfU {α : Type} {f : α → List D} {a : α} : ∀ {l : List α}, a ∈ l → zcQ (f a) ≤ zdw (l.map f)
  | b :: l, h => by
    simp only [List.map_cons, zdw]
    rcases List.mem_cons.1 h with rfl | h
    · omega
    · have := zfU (f := f) h; omega
end Go.AW

/- Requests that wait, in a list by clients: the document's pool. No program in sight. -/
set_option linter.unusedSimpArgs false
set_option linter.unusedVariables false
namespace Go.AW

theorem zhP {q : PQ} {n : Nat} {o : Option zd} (h : q[n]? = some o) : zdl q = zdl (q.take n) ++ (o.toList ++ zdl (q.drop (n + 1))) := by
  obtain ⟨hn, rfl⟩ := List.getElem?_eq_some_iff.1 h
  have e : q = q.take n ++ q[n] :: q.drop (n + 1) := by rw [List.getElem_cons_drop]; exact (List.take_append_drop n q).symm
  conv => lhs; rw [e]
  simp only [zdl, List.filterMap_append, List.filterMap_cons, id_eq]
  cases q[n] <;> rfl
theorem zkW {q : PQ} {n : Nat} (o : Option zd) (h : n < q.length) : zdl (q.set n o) = zdl (q.take n) ++ (o.toList ++ zdl (q.drop (n + 1))) := by
  have := zhP (q := q.set n o) (n := n) (o := o) (by simp [h])
  rwa [List.take_set_of_le (Nat.le_refl _), List.drop_set_of_lt (by omega)] at this
theorem zfg.before {q : PQ} (hq : zfg q) {n : Nat} {y : zd} (h : y ∈ zdl (q.take n)) : y.client < n := by
  obtain ⟨i, hi⟩ := waitF_mem h
  rw [List.getElem?_take] at hi
  split at hi
  · have := (hq.at_ i y hi).1; omega
  · cases hi
theorem zfg.behind {q : PQ} (hq : zfg q) {n : Nat} {y : zd} (h : y ∈ zdl (q.drop (n + 1))) : (n : Int) < y.client := by
  obtain ⟨i, hi⟩ := waitF_mem h
  rw [List.getElem?_drop] at hi
  have := (hq.at_ _ y hi).1; omega
theorem of_wait {q : PQ} {c : Int} {x : zd} (h : ofF q c = some x) : x ∈ zdl q := by
  obtain ⟨_, _, h⟩ := ofF_some h
  simp only [zdl, List.mem_filterMap, id_eq, exists_eq_right]
  exact List.mem_of_getElem? h
theorem zfg.client {q : PQ} (hq : zfg q) {c : Int} {x : zd} (h : ofF q c = some x) : x.client = c := by
  obtain ⟨h0, h8, hg⟩ := ofF_some h
  have := (hq.at_ _ x hg).1; omega
theorem zfg.of_none {q : PQ} (hq : zfg q) {c : Int} (h : ∀ y ∈ zdl q, y.client ≠ c) : ofF q c = none := by
  cases ho : ofF q c with
  | none => rfl
  | some x => exact absurd (hq.client ho) (h x (of_wait ho))
theorem znj {α : Type} {l : List α} {p : α → Bool} (h : ∀ x ∈ l, p x = true) : l.filter p = l := List.filter_eq_self.2 h
theorem zfg.without {q : PQ} (hq : zfg q) {c : Int} (h0 : 0 ≤ c) (h8 : c < 8) : (zdl q).filter (fun y => y.client != c) = zdl (q.set c.toNat none) := by
  have hl := hq.len
  have hg := hq.get h0 h8
  rw [zhP hg, zkW none (by omega)]
  simp only [List.filter_append, Option.toList_none, List.nil_append]
  rw [znj (l := zdl (q.take c.toNat)) fun y hy => by have := hq.before hy; simp; omega, znj (l := zdl (q.drop (c.toNat + 1))) fun y hy => by have := hq.behind hy; simp; omega]
  congr 1
  cases ho : ofF q c with
  | none => rfl
  | some x => simp [hq.client ho]
theorem zfg.place {q : PQ} (hq : zfg q) {c : Int} (h0 : 0 ≤ c) (h8 : c < 8) {k : Nat} (hlo : ∀ y ∈ (zdl (q.set c.toNat none)).take k, y.client < c) (hk : k ≤ (zdl (q.set c.toNat none)).length)
    (hhi : ∀ y, (zdl (q.set c.toNat none))[k]? = some y → ¬ y.client < c) (x : zd) :
    (zdl (q.set c.toNat none)).take k ++ (x :: (zdl (q.set c.toNat none)).drop k) = zdl (q.set c.toNat (some x)) := by
  have hl := hq.len
  have e := zkW (q := q) none (show c.toNat < q.length by omega)
  have e2 := zkW (q := q) (some x) (show c.toNat < q.length by omega)
  simp only [Option.toList_none, List.nil_append, Option.toList_some] at e e2
  obtain ⟨A, hA⟩ : ∃ A, zdl (q.take c.toNat) = A := ⟨_, rfl⟩
  obtain ⟨B, hB⟩ : ∃ B, zdl (q.drop (c.toNat + 1)) = B := ⟨_, rfl⟩
  have hAlt : ∀ y ∈ A, y.client < c := fun y hy => by rw [← hA] at hy; have := hq.before hy; omega
  have hBgt : ∀ y ∈ B, c < y.client := fun y hy => by rw [← hB] at hy; have := hq.behind hy; omega
  rw [hA, hB] at e e2
  rw [e] at hlo hk hhi ⊢
  rw [e2]
  have hkA : k = A.length := by
    rcases Nat.lt_trichotomy k A.length with h | h | h
    · exact absurd (hAlt A[k] (List.getElem_mem h)) (hhi A[k] (by rw [List.getElem?_append_left h]; simp [h]))
    · exact h
    · exfalso
      rw [List.length_append] at hk
      have hb : B[0]? = some (B[0]'(by omega)) := List.getElem?_eq_getElem _
      have hm : B[0]'(by omega) ∈ (A ++ B).take k := by
        refine List.mem_of_getElem? (i := A.length) ?_
        rw [List.getElem?_take, if_pos h, List.getElem?_append_right (Nat.le_refl _), Nat.sub_self]
        exact hb
      have h1 := hlo _ hm
      have h2 := hBgt _ (List.getElem_mem (show 0 < B.length by omega))
      omega
  subst hkA
  simp

theorem zfg.push {q : PQ} (hq : zfg q) {x : zd} (hx : zD [x] = 0) (hlt : ∀ y ∈ zdl q, y.client < x.client) : canPut q x = true ∧ zdl (putQ q x) = zdl q ++ [x] := by
  obtain ⟨h0, h8, _⟩ := one_ok hx
  have hl := hq.len
  have hno : ofF q x.client = none := hq.of_none fun y hy => by have := hlt y hy; omega
  have hc : canPut q x = true := by simp [canPut, hx, hno, mayPut]
  refine ⟨hc, ?_⟩
  have hg := hq.get h0 h8
  rw [hno] at hg
  rw [putQ, if_pos hc, zkW _ (by omega), zhP hg]
  have hB : zdl (q.drop (x.client.toNat + 1)) = [] := by
    rw [List.eq_nil_iff_forall_not_mem]
    intro y hy
    have h1 := hq.behind hy
    have h2 := hlt y (by rw [zhP hg]; simp [hy])
    omega
  rw [hB]; simp
end Go.AW

/- A script of what is done to a pool; what holds little has short names, too. No program in sight. -/
set_option linter.unusedSimpArgs false
set_option linter.unusedVariables false
namespace Go.AW

def okL (l : List (List zd)) : Prop := l.length ≤ 1048576 ∧ ∀ b ∈ l, okB b ∧ b.length ≤ 1048576
theorem okL.len {l : List (List zd)} (h : okL l) : l.length ≤ 1073741824 ∧ ∀ b ∈ l, b.length ≤ 1073741824 := ⟨by have := h.1; omega, fun b hb => (h.2 b hb).1.1⟩
structure TStep where
  what : Int
  s : zd
  client : Int
  time : Int
  opn : List (List zd)
end Go.AW

/- Requests as data, and how much room they take. No program in sight. -/
set_option linter.unusedSimpArgs false
set_option linter.unusedVariables false
namespace Go.AW

def reqD (x : zd) : List D := [.int .i64 x.client, .int .i64 x.time, .int .i64 x.op.kind, .str x.op.topic, .str x.op.group, .int .i64 x.op.offset, .slice (zdy x.op.recs)]
def tyReq : List Ty := [.int .i64, .int .i64, .int .i64, .str, .str, .int .i64, .slice [.slice [.int .u8]]]
abbrev zeu (l : List zd) : List (List D) := l.map reqD
theorem dec_req {ds : List D} (h : zcY tyReq ds) : ∃ s : zd, ds = reqD s ∧ signedR s := by
  obtain ⟨d1, ds, rfl, h1, h⟩ := zax h
  obtain ⟨d2, ds, rfl, h2, h⟩ := zax h
  obtain ⟨d3, ds, rfl, h3, h⟩ := zax h
  obtain ⟨d4, ds, rfl, h4, h⟩ := zax h
  obtain ⟨d5, ds, rfl, h5, h⟩ := zax h
  obtain ⟨d6, ds, rfl, h6, h⟩ := zax h
  obtain ⟨d7, ds, rfl, h7, h⟩ := zax h
  obtain rfl := ziO h
  obtain ⟨a1, rfl, r1⟩ := zdt h1
  obtain ⟨a2, rfl, r2⟩ := zdt h2
  obtain ⟨a3, rfl, r3⟩ := zdt h3
  obtain ⟨a4, rfl⟩ := dec_str h4
  obtain ⟨a5, rfl⟩ := dec_str h5
  obtain ⟨a6, rfl, r6⟩ := zdt h6
  obtain ⟨a7, rfl⟩ := dec_recs h7
  exact ⟨⟨a1, a2, ⟨a3, a4, a5, a6, a7⟩, 0, 0⟩, rfl, r1, r2, ⟨r3, r6⟩, by simp [zng], by simp [zng]⟩
theorem reqD_sz {x : zd} {n : Nat} (h : zcQ (reqD x) ≤ n) (hn : n ≤ 2097152) : zfz x.op ≤ 20971520 := by
  have := opSz_bulk x.op
  simp only [reqD, opD, zcQ, zfV] at h this
  omega
theorem reqs_sz {b : List zd} {n : Nat} (h : zdw (zeu b) ≤ n) (hn : n ≤ 2097152) : (∀ s ∈ b, zfz s.op ≤ 20971520) ∧ b.length ≤ 2097152 := by
  unfold zeu at h
  exact ⟨fun s hs => reqD_sz (Nat.le_trans (zfU (f := reqD) hs) h) hn, Nat.le_trans (zer (f := reqD) (fun a => by simp only [reqD, zcQ, zfV]; omega) b) (by omega)⟩
theorem dec_reqs {d : D} (h : zfY (.slice tyReq) d) : ∃ b, d = .slice (zeu b) ∧ ∀ x ∈ b, signedR x := zke h fun e he => dec_req he
end Go.AW
