/- A record stands at its offset until it is trimmed. No program in sight. -/
import Derived.Test.YtaocmalhjfakdaaSpPrg
import Derived.Test.YtaocmalhjfakdaaSpNum
import Derived.Test.YtaocmalhjfakdaaSpPool
import Derived.Test.YtaocmalhjfakdaaSpUtf
set_option linter.all false
set_option linter.unusedSimpArgs false
set_option linter.unusedVariables false
namespace Go.AW

structure AtE where
  n : List UInt8
  l : List (List UInt8)
  t : Nat
def findY (n : List UInt8) : List AtE → Nat → Option (Nat × AtE)
  | [], _ => none
  | e :: r, i => if n = e.n then some (i, e) else findY n r (i + 1)
theorem findY_some {n : List UInt8} : ∀ {l : List AtE} {i k : Nat} {e : AtE}, findY n l i = some (k, e) → ∃ j, k = i + j ∧ l[j]? = some e ∧ e.n = n
  | [], _, _, _, h => by simp [findY] at h
  | g :: r, i, k, v, h => by
    simp only [findY] at h
    split at h
    · rename_i e; cases h; exact ⟨0, rfl, rfl, e.symm⟩
    · obtain ⟨j, h1, h2, h3⟩ := findY_some h
      exact ⟨j + 1, by omega, by simpa using h2, h3⟩
def getY (n : List UInt8) (Y : List AtE) : List (List UInt8) := match findY n Y 0 with
  | some q => q.2.l
  | none => []
theorem findY_app {n : List UInt8} {e : AtE} : ∀ {l : List AtE} {i : Nat}, findY n (l ++ [e]) i = match findY n l i with | some q => some q | none => if n = e.n then some (i + l.length, e) else none
  | [], i => by simp [findY]
  | a :: r, i => by
    simp only [List.cons_append, findY]
    split
    · rfl
    · rw [findY_app (l := r)]
      simp only [List.length_cons, Nat.add_assoc, Nat.add_comm 1]
theorem getY_new {n m : List UInt8} {Y : List AtE} {r : List (List UInt8)} {t : Nat} (h : findY m Y 0 = none) : getY n (Y ++ [⟨m, r, t⟩]) = if n = m then r else getY n Y := by
  unfold getY
  rw [findY_app]
  by_cases e : n = m
  · subst e
    rw [h]; simp
  · cases findY n Y 0 with
    | none => simp [e]
    | some q => simp [e]
theorem findY_set {n : List UInt8} {e e' : AtE} (he : e'.n = e.n) : ∀ {l : List AtE} {i j : Nat}, l[j]? = some e → (∀ k, k < j → ∀ a, l[k]? = some a → a.n ≠ e.n) →
    findY n (l.set j e') i = if n = e.n then some (i + j, e') else findY n l i
  | [], _, _, h, _ => by simp at h
  | a :: r, i, 0, h, _ => by
    simp at h; subst h
    simp only [List.set_cons_zero, findY, he, Nat.add_zero]
    split <;> simp_all
  | a :: r, i, j + 1, h, h0 => by
    have h1 := h0 0 (by omega) a rfl
    have ih := findY_set (n := n) (i := i + 1) he (l := r) (j := j) (by simpa using h) (fun k hk b hb => h0 (k + 1) (by omega) b (by simpa using hb))
    simp only [List.set_cons_succ, findY, ih]
    by_cases e1 : n = a.n
    · have : n ≠ e.n := by rw [e1]; exact h1
      simp [e1, h1]
    · by_cases e2 : n = e.n
      · subst e2
        simp only [if_neg e1, if_true]
        congr 2; omega
      · simp [e1, e2]
theorem findY_first {n : List UInt8} : ∀ {l : List AtE} {i j : Nat} {e : AtE}, findY n l i = some (i + j, e) → ∀ k, k < j → ∀ a, l[k]? = some a → a.n ≠ n
  | [], _, _, _, h => by simp [findY] at h
  | a :: r, i, j, e, h => by
    intro k hk b hb
    simp only [findY] at h
    split at h
    · simp only [Option.some.injEq, Prod.mk.injEq] at h; omega
    · rename_i e1
      cases k with
      | zero => simp at hb; subst hb; exact fun e => e1 e.symm
      | succ k =>
        cases j with
        | zero => omega
        | succ j => exact findY_first (l := r) (i := i + 1) (j := j) (by rw [h, show i + 1 + j = i + (j + 1) by omega]) k (by omega) b (by simpa using hb)
theorem getY_set {n m : List UInt8} {Y : List AtE} {j : Nat} {e e' : AtE} (h : findY m Y 0 = some (j, e)) (he : e'.n = m) : getY n (Y.set j e') = if n = m then e'.l else getY n Y := by
  obtain ⟨j', e1, h1, h2⟩ := findY_some h
  rw [Nat.zero_add] at e1; subst e1
  unfold getY
  rw [findY_set (n := n) (e := e) (he.trans h2.symm) h1 (fun k hk a ha => by rw [h2]; exact findY_first (i := 0) (j := j) (by rw [Nat.zero_add]; exact h) k hk a ha)]
  rw [h2]
  by_cases e : n = m <;> simp [e]
def PlL (l : List TTopic) (Y : List AtE) : Prop :=
  (∀ y ∈ l, ((getY y.name Y).length : Int) = y.next ∧ (getY y.name Y).drop y.base.toNat = y.recs ∧ 0 ≤ y.base) ∧ ∀ n, (∀ y ∈ l, y.name ≠ n) → getY n Y = []
theorem PlL.same {l : List TTopic} {Y Y' : List AtE} (h : PlL l Y) (hY : ∀ n, getY n Y' = getY n Y) : PlL l Y' :=
  ⟨fun y hy => by rw [hY]; exact h.1 y hy, fun n hn => by rw [hY]; exact h.2 n hn⟩
theorem PlL.set {l : List TTopic} {Y : List AtE} (h : PlL l Y) {k : Nat} {x y : TTopic} (hx : l[k]? = some x) (hn : y.name = x.name)
    (hy : ((getY y.name Y).length : Int) = y.next ∧ (getY y.name Y).drop y.base.toNat = y.recs ∧ 0 ≤ y.base) : PlL (l.set k y) Y := by
  refine ⟨fun z hz => ?_, fun n h' => h.2 n fun z hz => ?_⟩
  · rcases set_ne_mem hz with rfl | ⟨j, hj, hz'⟩
    · exact hy
    · exact h.1 z (List.mem_of_getElem? hz')
  · obtain ⟨j, hj⟩ := List.mem_iff_getElem?.1 hz
    by_cases e : j = k
    · subst e
      rw [hx] at hj; cases hj
      rw [← hn]
      exact h' y (mem_set_self' hx)
    · exact h' z (mem_set_ne hj e)
def StepY (l' : List TTopic) (P : List TPlaced) (Y : List AtE) : Prop :=
  ∃ nm rs, P = placeF nm (getY nm Y).length rs ∧ ∀ Y', (∀ n, getY n Y' = if n = nm then getY n Y ++ rs else getY n Y) → PlL l' Y'
theorem stepY_none {l' : List TTopic} {Y : List AtE} (h : PlL l' Y) : StepY l' [] Y := by
  refine ⟨[], [], rfl, fun Y' hY => h.same fun n => ?_⟩
  rw [hY]; split <;> simp
theorem does_step {T : TTops} {Y : List AtE} (h : PlL T.l Y) (hs : SortK TTopic.name T.l) (o : TOp) : StepY (doesF T o).2.2.l (doesF T o).2.1 Y := by
  unfold doesF
  split
  · exact stepY_none h
  · split
    · exact stepY_none h
    · split
      · unfold createF
        split
        · exact stepY_none h
        · rename_i hno
          split
          · exact stepY_none h
          · refine stepY_none ?_
            have hn : ∀ y ∈ T.l, y.name ≠ o.topic := by
              cases ha : atF o.topic T.l 0 with
              | none => exact atF_none ha
              | some k => rw [ha] at hno; simp at hno
            have htd := List.take_append_drop (lessN o.topic T.l) T.l
            refine ⟨fun z hz => ?_, fun n h' => h.2 n fun z hz => ?_⟩
            · rcases List.mem_append.1 hz with hz | hz
              · exact h.1 z (List.mem_of_mem_take hz)
              · rcases List.mem_cons.1 hz with rfl | hz
                · simp only [h.2 o.topic hn]
                  exact ⟨rfl, rfl, Int.le_refl _⟩
                · exact h.1 z (List.mem_of_mem_drop hz)
            · rw [← htd] at hz
              exact h' z (by rcases List.mem_append.1 hz with hz | hz <;> simp [hz])
      · split
        · exact stepY_none h
        · rename_i i _
          split
          · exact stepY_none h
          · rename_i x hx
            obtain ⟨q1, q2, q3⟩ := h.1 x (List.mem_of_getElem? hx)
            have hnx : x.next = x.base + x.recs.length := rfl
            split
            · unfold publishF
              split
              · exact stepY_none h
              · refine ⟨x.name, o.recs, by rw [q1], fun Y' hY => ?_⟩
                have e0 := hY x.name
                rw [if_pos rfl] at e0
                refine ⟨fun z hz => ?_, fun n h' => ?_⟩
                · rcases set_ne_mem hz with rfl | ⟨j, hj, hz'⟩
                  · simp only
                    rw [e0]
                    refine ⟨by simp only [TTopic.next, List.length_append]; omega, ?_, q3⟩
                    rw [List.drop_append_of_le_length (by omega), q2]
                  · have hne : z.name ≠ x.name := fun e => hj (nodup_inj hs.nodup hz' hx e)
                    rw [hY, if_neg hne]
                    exact h.1 z (List.mem_of_getElem? hz')
                · have hne : n ≠ x.name := fun e => h' _ (mem_set_self' hx) e.symm
                  rw [hY, if_neg hne]
                  refine h.2 n fun z hz => ?_
                  obtain ⟨j, hj⟩ := List.mem_iff_getElem?.1 hz
                  by_cases e : j = i
                  · subst e
                    rw [hx] at hj; cases hj
                    exact Ne.symm hne
                  · exact h' z (mem_set_ne hj e)
            · split
              · unfold commitF
                split
                · exact stepY_none h
                · split
                  · exact stepY_none h
                  · exact stepY_none (h.set hx rfl ⟨q1, q2, q3⟩)
              · unfold trimF
                split
                · exact stepY_none h
                · rename_i ht
                  refine stepY_none (h.set hx rfl ⟨?_, ?_, ?_⟩)
                  · simp only [TTopic.next, List.length_drop]; omega
                  · simp only
                    rw [← q2, List.drop_drop]
                    congr 1; omega
                  · simp only; omega
theorem apply_step {T : TTops} {Y : List AtE} (h : PlL T.l Y) (hs : SortK TTopic.name T.l) (c tm : Int) (o : TOp) : StepY (applyF T c tm o).2.2.2.l (applyF T c tm o).2.1 Y := by
  unfold applyF
  split
  · exact stepY_none h
  · split
    · exact stepY_none h
    · split
      · exact stepY_none h
      · exact does_step h hs o

theorem bulkLL_len {α : Type} {f : α → List D} (h : ∀ a, 1 ≤ bulkL (f a)) : ∀ (l : List α), l.length ≤ bulkLL (l.map f)
  | [] => Nat.zero_le _
  | a :: l => by have := h a; have := bulkLL_len h l; simp only [List.map_cons, List.length_cons, bulkLL]; omega
theorem bulkLL_mem {α : Type} {f : α → List D} {a : α} : ∀ {l : List α}, a ∈ l → bulkL (f a) ≤ bulkLL (l.map f)
  | b :: l, h => by
    simp only [List.map_cons, bulkLL]
    rcases List.mem_cons.1 h with rfl | h
    · omega
    · have := bulkLL_mem (f := f) h; omega

theorem wait_split {q : PQ} {n : Nat} {o : Option TSigned} (h : q[n]? = some o) : waitF q = waitF (q.take n) ++ (o.toList ++ waitF (q.drop (n + 1))) := by
  obtain ⟨hn, rfl⟩ := List.getElem?_eq_some_iff.1 h
  have e : q = q.take n ++ q[n] :: q.drop (n + 1) := by rw [List.getElem_cons_drop]; exact (List.take_append_drop n q).symm
  conv => lhs; rw [e]
  simp only [waitF, List.filterMap_append, List.filterMap_cons, id_eq]
  cases q[n] <;> rfl
theorem wait_set {q : PQ} {n : Nat} (o : Option TSigned) (h : n < q.length) : waitF (q.set n o) = waitF (q.take n) ++ (o.toList ++ waitF (q.drop (n + 1))) := by
  have := wait_split (q := q.set n o) (n := n) (o := o) (by simp [h])
  rwa [List.take_set_of_le (Nat.le_refl _), List.drop_set_of_lt (by omega)] at this
theorem PoolI.before {q : PQ} (hq : PoolI q) {n : Nat} {y : TSigned} (h : y ∈ waitF (q.take n)) : y.client < n := by
  obtain ⟨i, hi⟩ := waitF_mem h
  rw [List.getElem?_take] at hi
  split at hi
  · have := (hq.at_ i y hi).1; omega
  · cases hi
theorem PoolI.behind {q : PQ} (hq : PoolI q) {n : Nat} {y : TSigned} (h : y ∈ waitF (q.drop (n + 1))) : (n : Int) < y.client := by
  obtain ⟨i, hi⟩ := waitF_mem h
  rw [List.getElem?_drop] at hi
  have := (hq.at_ _ y hi).1; omega
theorem of_wait {q : PQ} {c : Int} {x : TSigned} (h : ofF q c = some x) : x ∈ waitF q := by
  obtain ⟨_, _, h⟩ := ofF_some h
  simp only [waitF, List.mem_filterMap, id_eq, exists_eq_right]
  exact List.mem_of_getElem? h
theorem PoolI.client {q : PQ} (hq : PoolI q) {c : Int} {x : TSigned} (h : ofF q c = some x) : x.client = c := by
  obtain ⟨h0, h8, hg⟩ := ofF_some h
  have := (hq.at_ _ x hg).1; omega
theorem PoolI.of_none {q : PQ} (hq : PoolI q) {c : Int} (h : ∀ y ∈ waitF q, y.client ≠ c) : ofF q c = none := by
  cases ho : ofF q c with
  | none => rfl
  | some x => exact absurd (hq.client ho) (h x (of_wait ho))
theorem filter_all {α : Type} {l : List α} {p : α → Bool} (h : ∀ x ∈ l, p x = true) : l.filter p = l := List.filter_eq_self.2 h
theorem PoolI.without {q : PQ} (hq : PoolI q) {c : Int} (h0 : 0 ≤ c) (h8 : c < 8) : (waitF q).filter (fun y => y.client != c) = waitF (q.set c.toNat none) := by
  have hl := hq.len
  have hg := hq.get h0 h8
  rw [wait_split hg, wait_set none (by omega)]
  simp only [List.filter_append, Option.toList_none, List.nil_append]
  rw [filter_all (l := waitF (q.take c.toNat)) fun y hy => by have := hq.before hy; simp; omega, filter_all (l := waitF (q.drop (c.toNat + 1))) fun y hy => by have := hq.behind hy; simp; omega]
  congr 1
  cases ho : ofF q c with
  | none => rfl
  | some x => simp [hq.client ho]
theorem PoolI.place {q : PQ} (hq : PoolI q) {c : Int} (h0 : 0 ≤ c) (h8 : c < 8) {k : Nat} (hlo : ∀ y ∈ (waitF (q.set c.toNat none)).take k, y.client < c) (hk : k ≤ (waitF (q.set c.toNat none)).length)
    (hhi : ∀ y, (waitF (q.set c.toNat none))[k]? = some y → ¬ y.client < c) (x : TSigned) :
    (waitF (q.set c.toNat none)).take k ++ (x :: (waitF (q.set c.toNat none)).drop k) = waitF (q.set c.toNat (some x)) := by
  have hl := hq.len
  have e := wait_set (q := q) none (show c.toNat < q.length by omega)
  have e2 := wait_set (q := q) (some x) (show c.toNat < q.length by omega)
  simp only [Option.toList_none, List.nil_append, Option.toList_some] at e e2
  obtain ⟨A, hA⟩ : ∃ A, waitF (q.take c.toNat) = A := ⟨_, rfl⟩
  obtain ⟨B, hB⟩ : ∃ B, waitF (q.drop (c.toNat + 1)) = B := ⟨_, rfl⟩
  have hAlt : ∀ y ∈ A, y.client < c := fun y hy => by rw [← hA] at hy; have := hq.before hy; omega
  have hBgt : ∀ y ∈ B, c < y.client := fun y hy => by rw [← hB] at hy; have := hq.behind hy; omega
  rw [hA, hB] at e e2
  rw [e] at hlo hk hhi ⊢
  rw [e2]
  have hkA : k = A.length := by
    rcases Nat.lt_trichotomy k A.length with h | h | h
    · exact absurd (hAlt A[k] (List.getElem_mem h)) (hhi A[k] (by rw [List.getElem?_append_left h]; simp [h]))
    · exact h
    · exfalso
      rw [List.length_append] at hk
      have hb : B[0]? = some (B[0]'(by omega)) := List.getElem?_eq_getElem _
      have hm : B[0]'(by omega) ∈ (A ++ B).take k := by
        refine List.mem_of_getElem? (i := A.length) ?_
        rw [List.getElem?_take, if_pos h, List.getElem?_append_right (Nat.le_refl _), Nat.sub_self]
        exact hb
      have h1 := hlo _ hm
      have h2 := hBgt _ (List.getElem_mem (show 0 < B.length by omega))
      omega
  subst hkA
  simp

def prevC (w : List TSigned) : Nat → Int
  | 0 => -1
  | k + 1 => match w[k]? with | some x => x.client | none => -1
theorem PoolI.push {q : PQ} (hq : PoolI q) {x : TSigned} (hx : checkBatchF [x] = 0) (hlt : ∀ y ∈ waitF q, y.client < x.client) : canPut q x = true ∧ waitF (putQ q x) = waitF q ++ [x] := by
  obtain ⟨h0, h8, _⟩ := one_ok hx
  have hl := hq.len
  have hno : ofF q x.client = none := hq.of_none fun y hy => by have := hlt y hy; omega
  have hc : canPut q x = true := by simp [canPut, hx, hno, mayPut]
  refine ⟨hc, ?_⟩
  have hg := hq.get h0 h8
  rw [hno] at hg
  rw [putQ, if_pos hc, wait_set _ (by omega), wait_split hg]
  have hB : waitF (q.drop (x.client.toNat + 1)) = [] := by
    rw [List.eq_nil_iff_forall_not_mem]
    intro y hy
    have h1 := hq.behind hy
    have h2 := hlt y (by rw [wait_split hg]; simp [hy])
    omega
  rw [hB]; simp
theorem PoolI.prev {q : PQ} (hq : PoolI q) {k : Nat} {x : TSigned} (hx : (waitF q)[k]? = some x) : prevC (waitF q) k < x.client := by
  have hxm := List.mem_of_getElem? hx
  obtain ⟨i, hi⟩ := waitF_mem hxm
  have hxc := (hq.at_ i x hi).1
  cases k with
  | zero => simp only [prevC]; omega
  | succ k =>
    have hk := (List.getElem?_eq_some_iff.1 hx).1
    have hy : (waitF q)[k]? = some ((waitF q)[k]'(by omega)) := List.getElem?_eq_getElem _
    simp only [prevC, hy]
    -- the list is rising
    have hp : (waitF q).Pairwise fun a b => a.client < b.client := by
      have key : ∀ (l : PQ) (a : Nat), (∀ (i : Nat) x, l[i]? = some (some x) → x.client = ((a + i : Nat) : Int)) → (l.filterMap id).Pairwise fun a b => a.client < b.client := by
        intro l
        induction l with
        | nil => intro a _; simp
        | cons o l ih =>
          intro a h
          have hr := ih (a + 1) fun i x hi => by have := h (i + 1) x (by simpa using hi); rw [this]; congr 1; omega
          cases o with
          | none => simpa using hr
          | some x =>
            simp only [List.filterMap_cons, id_eq, List.pairwise_cons]
            refine ⟨fun y hy => ?_, hr⟩
            obtain ⟨j, hj⟩ := waitF_mem (q := l) hy
            have h1 := h 0 x rfl
            have h2 := h (j + 1) y (by simpa using hj)
            omega
      exact key q 0 fun i x hi => by have := (hq.at_ i x hi).1; simpa using this
    have := List.pairwise_iff_getElem.1 hp k (k + 1) (by omega) hk (by omega)
    obtain ⟨_, rfl⟩ := List.getElem?_eq_some_iff.1 hx
    exact this

structure TStep where
  what : Int
  s : TSigned
  client : Int
  time : Int
  opn : List (List TSigned)

def reqD (x : TSigned) : List D := [.int .i64 x.client, .int .i64 x.time, .int .i64 x.op.kind, .str x.op.topic, .str x.op.group, .int .i64 x.op.offset, .slice (recsE x.op.recs)]
def tyReq : List Ty := [.int .i64, .int .i64, .int .i64, .str, .str, .int .i64, .slice [.slice [.int .u8]]]
abbrev reqsE (l : List TSigned) : List (List D) := l.map reqD
theorem dec_req {ds : List D} (h : TFitsL tyReq ds) : ∃ s : TSigned, ds = reqD s ∧ signedR s := by
  obtain ⟨d1, ds, rfl, h1, h⟩ := tfits_cons h
  obtain ⟨d2, ds, rfl, h2, h⟩ := tfits_cons h
  obtain ⟨d3, ds, rfl, h3, h⟩ := tfits_cons h
  obtain ⟨d4, ds, rfl, h4, h⟩ := tfits_cons h
  obtain ⟨d5, ds, rfl, h5, h⟩ := tfits_cons h
  obtain ⟨d6, ds, rfl, h6, h⟩ := tfits_cons h
  obtain ⟨d7, ds, rfl, h7, h⟩ := tfits_cons h
  obtain rfl := tfits_nil h
  obtain ⟨a1, rfl, r1⟩ := dec_i64 h1
  obtain ⟨a2, rfl, r2⟩ := dec_i64 h2
  obtain ⟨a3, rfl, r3⟩ := dec_i64 h3
  obtain ⟨a4, rfl⟩ := dec_str h4
  obtain ⟨a5, rfl⟩ := dec_str h5
  obtain ⟨a6, rfl, r6⟩ := dec_i64 h6
  obtain ⟨a7, rfl⟩ := dec_recs h7
  exact ⟨⟨a1, a2, ⟨a3, a4, a5, a6, a7⟩, 0, 0⟩, rfl, r1, r2, ⟨r3, r6⟩, by simp [i64r], by simp [i64r]⟩
theorem reqD_sz {x : TSigned} {n : Nat} (h : bulkL (reqD x) ≤ n) (hn : n ≤ 2097152) : opSz x.op ≤ 20971520 := by
  have := opSz_bulk x.op
  simp only [reqD, opD, bulkL, bulkD] at h this
  omega
theorem reqs_sz {b : List TSigned} {n : Nat} (h : bulkLL (reqsE b) ≤ n) (hn : n ≤ 2097152) : (∀ s ∈ b, opSz s.op ≤ 20971520) ∧ b.length ≤ 2097152 := by
  unfold reqsE at h
  exact ⟨fun s hs => reqD_sz (Nat.le_trans (bulkLL_mem (f := reqD) hs) h) hn, Nat.le_trans (bulkLL_len (f := reqD) (fun a => by simp only [reqD, bulkL, bulkD]; omega) b) (by omega)⟩
theorem dec_reqs {d : D} (h : TFits (.slice tyReq) d) : ∃ b, d = .slice (reqsE b) ∧ ∀ x ∈ b, signedR x := dec_sliceR h fun e he => dec_req he
end Go.AW
