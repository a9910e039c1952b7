/- A region that draws its order: one order told serves for all. -/
import Derived.Test.YtahbjkanmagndaaAwDraw
set_option linter.all false
namespace Go.AW
variable {P : Program}

def pw {α : Type} (f : α → α → Bool) : List α → Bool
  | [] => true
  | a :: r => r.all (f a) && pw f r
theorem pw_spec {α : Type} {f : α → α → Bool} : ∀ {l : List α}, pw f l = true → l.Pairwise fun a b => f a b = true
  | [], _ => .nil
  | a :: r, h => by
    simp only [pw, Bool.and_eq_true, List.all_eq_true] at h
    exact .cons h.1 (pw_spec h.2)
/-- all that the operations 'a' wait for, as bits -/
def mask (cl : List Nat) : List Nat → Nat
  | [] => 0
  | j :: r => (2 ^ j ||| cl.getD j 0) ||| mask cl r
theorem mask_spec {cl : List Nat} {p : Nat} : ∀ {a : List Nat}, (mask cl a).testBit p = true → ∃ j ∈ a, p = j ∨ (cl.getD j 0).testBit p = true
  | [], h => by simp [mask] at h
  | j :: r, h => by
    simp only [mask, Nat.testBit_or, Bool.or_eq_true] at h
    rcases h with (h | h) | h
    · rw [Nat.testBit_two_pow] at h
      exact ⟨j, List.mem_cons_self, .inl (by simpa using h : j = p).symm⟩
    · exact ⟨j, List.mem_cons_self, .inr h⟩
    · obtain ⟨k, hk, h'⟩ := mask_spec h
      exact ⟨k, List.mem_cons_of_mem _ hk, h'⟩

def linB (l : List Ai) (after : List (List Nat)) (cl : List Nat) (p q : Nat × List Nat) : Bool :=
  !(p.1 == q.1) && !(after.getD p.1 []).contains q.1 && match l[p.1]?, l[q.1]? with
    | some x, some y => stays x y && ((cl.getD q.1 0).testBit p.1 || pairOk x y p.2 q.2)
    | _, _ => false
def linA (l : List Ai) (after : List (List Nat)) (cl : List Nat) (i : Nat) : Bool :=
  (after.getD i []).all (fun j => decide (j < i)) && (mask cl (after.getD i []) ||| cl.getD i 0 == mask cl (after.getD i [])) && match l[i]? with
    | some x => stays x x
    | none => false
/-- the order told, and the bits of what each waits for, are in order -/
def linOk (l : List Ai) (after : List (List Nat)) (lin : List (Nat × List Nat)) (cl : List Nat) : Bool :=
  lin.length == after.length && (List.range after.length).all (fun i => (lin.map (·.1)).contains i && linA l after cl i) && lin.all (fun p => decide (p.1 < after.length)) && pw (linB l after cl) lin

structure LinInv (l : List Ai) (after : List (List Nat)) (cl : List Nat) (lin : List (Nat × List Nat)) (listed : List Bool) : Prop where
  len : listed.length = after.length
  mem : ∀ i, i < after.length → (listed.getD i true = false ↔ ∃ p ∈ lin, p.1 = i)
  low : ∀ p ∈ lin, p.1 < after.length
  pair : lin.Pairwise fun p q => linB l after cl p q = true
  down : ∀ i, i < after.length → listed.getD i true = true → ∀ j ∈ after.getD i [], listed.getD j false = true

theorem linA_spec {l : List Ai} {after : List (List Nat)} {cl : List Nat} {i : Nat} (h : linA l after cl i = true) :
    (∀ j ∈ after.getD i [], j < i) ∧ (∀ p, (cl.getD i 0).testBit p = true → ∃ j ∈ after.getD i [], p = j ∨ (cl.getD j 0).testBit p = true) ∧ ∃ x, l[i]? = some x ∧ stays x x = true := by
  simp only [linA, Bool.and_eq_true, List.all_eq_true, decide_eq_true_eq, beq_iff_eq] at h
  refine ⟨h.1.1, fun p hp => mask_spec ?_, ?_⟩
  · rw [← h.1.2, Nat.testBit_or, hp, Bool.or_true]
  · have := h.2
    split at this
    · rename_i x hx; exact ⟨x, hx, this⟩
    · cases this

theorem getD_tf {l : List Bool} {i n : Nat} (hl : l.length = n) (hi : i < n) (a b : Bool) : l.getD i a = l.getD i b := by
  subst hl
  simp [List.getD, List.getElem?_eq_getElem hi]

theorem clos_listed {l : List Ai} {after : List (List Nat)} {cl : List Nat} {lin : List (Nat × List Nat)} {listed : List Bool} (hA : ∀ i, i < after.length → linA l after cl i = true) (I : LinInv l after cl lin listed) :
    ∀ (n i : Nat), i < n → i < after.length → (∀ j ∈ after.getD i [], listed.getD j false = true) → ∀ p, (cl.getD i 0).testBit p = true → listed.getD p false = true
  | 0, i, h, _, _, _, _ => absurd h (Nat.not_lt_zero _)
  | n + 1, i, hn, hi, hd, p, hp => by
    obtain ⟨h1, h2, _⟩ := linA_spec (hA i hi)
    obtain ⟨j, hj, hpj⟩ := h2 p hp
    rcases hpj with rfl | hpj
    · exact hd p hj
    · have hji := h1 j hj
      have hjn : j < after.length := by omega
      exact clos_listed hA I n j (by omega) hjn (I.down j hjn (by rw [getD_tf I.len hjn true false]; exact hd j hj)) p hpj

theorem mem_aready {after : List (List Nat)} {listed : List Bool} {i : Nat} : i ∈ aready after listed ↔ i < after.length ∧ listed.getD i true = false ∧ ∀ j ∈ after.getD i [], listed.getD j false = true := by
  simp only [aready, List.mem_filter, List.mem_range, Bool.and_eq_true, Bool.not_eq_true', List.all_eq_true]

theorem adraw_any {l : List Ai} {after : List (List Nat)} {cl : List Nat} (hA : ∀ i, i < after.length → linA l after cl i = true) {K : Frame → List AObj → Prop} (hK : FE K) :
    ∀ (n : Nat) (lin : List (Nat × List Nat)) (listed : List Bool) (fr : Frame) (σ : List AObj), lin.length = n → LinInv l after cl lin listed → adraw P l lin fr σ K → aany P l after K n listed fr σ
  | 0, lin, listed, fr, σ, hn, I, h => by
    have e : lin = [] := List.length_eq_zero_iff.1 hn
    subst e
    refine ⟨?_, h⟩
    rw [List.eq_nil_iff_forall_not_mem]
    intro i hi
    obtain ⟨h1, h2, _⟩ := mem_aready.1 hi
    obtain ⟨p, hp, _⟩ := (I.mem i h1).1 h2
    cases hp
  | n + 1, lin, listed, fr, σ, hn, I, h => by
    refine ⟨fun h0 => ?_, fun i hi => ?_⟩
    · exfalso
      cases lin with
      | nil => cases hn
      | cons p r =>
        have hlow := I.low p List.mem_cons_self
        have hr : p.1 ∈ aready after listed := by
          refine mem_aready.2 ⟨hlow, (I.mem _ hlow).2 ⟨p, List.mem_cons_self, rfl⟩, fun j hj => ?_⟩
          have hjp := (linA_spec (hA _ hlow)).1 j hj
          have hjn : j < after.length := by omega
          cases hl : listed.getD j false with
          | true => rfl
          | false =>
            rw [getD_tf I.len hjn false true] at hl
            obtain ⟨q, hq, e⟩ := (I.mem j hjn).1 hl
            rcases List.mem_cons.1 hq with rfl | hq
            · omega
            · have := (List.pairwise_cons.1 I.pair).1 q hq
              simp only [linB, Bool.and_eq_true, Bool.not_eq_true', List.contains_eq_mem, decide_eq_false_iff_not] at this
              rw [e] at this
              exact absurd hj this.1.2
        rw [h0] at hr
        cases hr
    · obtain ⟨h1, h2, h3⟩ := mem_aready.1 hi
      obtain ⟨q, hq, e⟩ := (I.mem i h1).1 h2
      obtain ⟨pre, post, rfl⟩ := List.append_of_mem hq
      obtain ⟨i', nd⟩ := q
      simp only at e
      subst e
      obtain ⟨_, _, x, hx, _⟩ := linA_spec (hA i' h1)
      have hpair := List.pairwise_append.1 I.pair
      have hcross : ∀ p ∈ pre, linB l after cl p (i', nd) = true := fun p hp => hpair.2.2 p hp (i', nd) List.mem_cons_self
      have hpost : ∀ p ∈ post, linB l after cl (i', nd) p = true := fun p hp => (List.pairwise_cons.1 hpair.2.1).1 p hp
      have hB : ∀ p q, linB l after cl p q = true → p.1 ≠ q.1 ∧ ∃ y z, l[p.1]? = some y ∧ l[q.1]? = some z ∧ stays y z = true ∧ ((cl.getD q.1 0).testBit p.1 = true ∨ pairOk y z p.2 q.2 = true) := by
        intro p q hpq
        simp only [linB, Bool.and_eq_true, Bool.not_eq_true', beq_eq_false_iff_ne] at hpq
        refine ⟨hpq.1.1, ?_⟩
        have := hpq.2
        split at this
        · rename_i y z hy hz
          simp only [Bool.and_eq_true, Bool.or_eq_true] at this
          exact ⟨y, z, hy, hz, this.1, this.2⟩
        · cases this
      have hun : ∀ p ∈ pre, listed.getD p.1 false = false := fun p hp => by
        have hlow := I.low p (List.mem_append_left _ hp)
        rw [getD_tf I.len hlow false true]
        exact (I.mem _ hlow).2 ⟨p, List.mem_append_left _ hp, rfl⟩
      have hex := extract hK hx (post := post) pre fr σ (fun p hp => by
          obtain ⟨_, y, z, hy, hz, _, hor⟩ := hB _ _ (hcross p hp)
          rw [hx] at hz; cases hz
          refine ⟨y, hy, ?_⟩
          rcases hor with hc | hc
          · have := clos_listed hA I _ i' (Nat.lt_succ_self _) h1 h3 p.1 hc
            rw [hun p hp] at this; cases this
          · exact hc)
        (hpair.1.imp fun {p q} hpq y z hy hz => by
          obtain ⟨_, y', z', hy', hz', hs, _⟩ := hB _ _ hpq
          rw [hy] at hy'; rw [hz] at hz'; cases hy'; cases hz'; exact hs)
        (fun p hp y hy => by
          obtain ⟨_, _, y', hy', hs⟩ := linA_spec (hA p.1 (I.low p (List.mem_append_left _ hp)))
          rw [hy] at hy'; cases hy'; exact hs) h
      simp only [hx]
      refine aop_mono (fun f s hs => adraw_any hA hK n (pre ++ post) (listed.set i' true) f s (by simp at hn ⊢; omega) ?_ hs.2) hex
      have hne : ∀ p ∈ pre ++ post, p.1 ≠ i' := fun p hp => by
        rcases List.mem_append.1 hp with hp | hp
        · exact (hB _ _ (hcross p hp)).1
        · exact fun e => (hB _ _ (hpost p hp)).1 e.symm
      have hset : ∀ k d, k ≠ i' → (listed.set i' true).getD k d = listed.getD k d := fun k d hk => by simp [List.getD, List.getElem?_set_ne (Ne.symm hk)]
      have hseti : ∀ d, (listed.set i' true).getD i' d = true := fun d => by simp [List.getD, List.getElem?_set, I.len, h1]
      refine ⟨by rw [List.length_set]; exact I.len, fun k hk => ?_, fun p hp => I.low p ?_, ?_, fun k hk hl j hj => ?_⟩
      · by_cases hki : k = i'
        · subst hki
          rw [hseti]
          exact ⟨fun e => Bool.noConfusion e, fun ⟨p, hp, e⟩ => absurd e (hne p hp)⟩
        · rw [hset k true hki, I.mem k hk]
          constructor
          · rintro ⟨p, hp, rfl⟩
            refine ⟨p, ?_, rfl⟩
            rcases List.mem_append.1 hp with hp | hp
            · exact List.mem_append_left _ hp
            · rcases List.mem_cons.1 hp with rfl | hp
              · exact absurd rfl hki
              · exact List.mem_append_right _ hp
          · rintro ⟨p, hp, rfl⟩
            refine ⟨p, ?_, rfl⟩
            rcases List.mem_append.1 hp with hp | hp
            · exact List.mem_append_left _ hp
            · exact List.mem_append_right _ (List.mem_cons_of_mem _ hp)
      · rcases List.mem_append.1 hp with hp | hp
        · exact List.mem_append_left _ hp
        · exact List.mem_append_right _ (List.mem_cons_of_mem _ hp)
      · exact I.pair.sublist (List.Sublist.append_left (List.sublist_cons_self _ _) _)
      · have hj' : listed.getD j false = true := by
          by_cases hki : k = i'
          · subst hki; exact h3 j hj
          · rw [hset k true hki] at hl
            exact I.down k hk hl j hj
        by_cases hji : j = i'
        · subst hji; exact hseti _
        · rw [hset j false hji]; exact hj'

theorem linOk_any {l : List Ai} {after : List (List Nat)} {lin : List (Nat × List Nat)} {cl : List Nat} (h : linOk l after lin cl = true) {K : Frame → List AObj → Prop} (hK : FE K) {fr : Frame} {σ : List AObj} (hd : adraw P l lin fr σ K) :
    aany P l after K after.length (List.replicate after.length false) fr σ := by
  simp only [linOk, Bool.and_eq_true, List.all_eq_true, decide_eq_true_eq, beq_iff_eq, List.mem_range, List.contains_eq_mem, List.mem_map] at h
  obtain ⟨⟨⟨h1, h2⟩, h3⟩, h4⟩ := h
  refine adraw_any (fun i hi => (h2 i hi).2) hK _ lin _ fr σ h1 ⟨by simp, fun i hi => ?_, h3, pw_spec h4, fun i hi e => ?_⟩ hd
  · constructor
    · intro _
      exact (h2 i hi).1
    · intro _
      simp [List.getD, hi]
  · simp [List.getD, hi] at e

def keysLt (n : Nat) (fr : Frame) : Prop := ∀ p ∈ fr, p.1 < n
theorem adraw_keys {l : List Ai} {n : Nat} (hl : ∀ x ∈ l, ∀ d, x.dst = some d → d < n) {K : Frame → List AObj → Prop} : ∀ (lin : List (Nat × List Nat)) (fr : Frame) (σ : List AObj), keysLt n fr → adraw P l lin fr σ K → adraw P l lin fr σ fun f s => keysLt n f ∧ K f s
  | [], fr, σ, hf, h => ⟨hf, h⟩
  | (i, nd) :: r, fr, σ, hf, h => by
    unfold adraw at *
    split at h
    · rename_i x hx
      refine aop_move (fun _ _ => rfl) (fun u s hs => ?_) h
      rw [keeps_iff] at hs ⊢
      refine ⟨hs.1, adraw_keys hl r _ s (fun p hp => ?_) hs.2⟩
      unfold aput at hp
      split at hp
      · rename_i d hd
        rcases List.mem_cons.1 hp with rfl | hp
        · exact hl x (List.mem_of_getElem? hx) d hd
        · exact hf p hp
      · exact hf p hp
    · exact h
theorem adraw_mono {l : List Ai} {K K' : Frame → List AObj → Prop} (hk : ∀ f s, K f s → K' f s) : ∀ (lin : List (Nat × List Nat)) (fr : Frame) (σ : List AObj), adraw P l lin fr σ K → adraw P l lin fr σ K'
  | [], fr, σ, h => hk _ _ h
  | (i, nd) :: r, fr, σ, h => by
    unfold adraw at *
    split at h
    · refine aop_mono (fun f s hs => ?_) h
      rw [keeps_iff] at hs ⊢
      exact ⟨hs.1, adraw_mono hk r _ s hs.2⟩
    · exact h
inductive Ex where
  | normal
  | exit (id : Nat)
  | ret

def awp (P : Program) : AC → (Ex → Frame → List AObj → Prop) → Frame → List AObj → Prop
  | .skip, Q, fr, σ => Q .normal fr σ
  | .ops l, Q, fr, σ => aops P l fr σ (Q .normal)
  | .draw l after lin cl, Q, fr, σ => match linOk l after lin cl with | true => adraw P l lin fr σ (Q .normal) | false => False
  | .seq a b, Q, fr, σ => awp P a (fun | .normal, fr', σ' => awp P b Q fr' σ' | e, fr', σ' => Q e fr' σ') fr σ
  | .cond c a b, Q, fr, σ => condC (ev fr c) (awp P a Q fr σ) (awp P b Q fr σ)
  | .block id a, Q, fr, σ => awp P a (fun | .exit id', fr', σ' => if id' = id then Q .normal fr' σ' else Q (.exit id') fr' σ' | e, fr', σ' => Q e fr' σ') fr σ
  | .loop lv dd a, Q, fr, σ => loopC (lv.map (getS fr)) σ fun vs σ' again =>
      awp P a (fun | .normal, f, s => again (lv.map (getS f)) s | e, f, s => Q e f s) (setS (kill fr dd) lv vs) σ'
  | .exit id, Q, fr, σ => Q (.exit id) fr σ
  | .ret, Q, fr, σ => Q .ret fr σ

end Go.AW
