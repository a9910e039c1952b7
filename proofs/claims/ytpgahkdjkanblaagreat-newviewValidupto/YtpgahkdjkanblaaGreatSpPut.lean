/- The bytes of view-changes and new views, and how many they are at most. No program in sight. -/
import Derived.Test.YtpgahkdjkanblaaGreatSpMsg
import Derived.Test.YtpgahkdjkanblaaGreatSpTab
set_option linter.all false
set_option linter.unusedSimpArgs false
set_option linter.unusedVariables false
namespace Go.AW

theorem zvb : ∀ {f : Nat} {s : List UInt8} {n : Nat}, zeb f s = some n → s.length ≤ 4 * n
  | 0, _, _, h => by simp [zeb] at h
  | f + 1, s, n, h => by
    unfold zeb at h
    split at h
    · rename_i h0; simp [h0]
    · split at h
      · cases h
      · simp only [Option.map_eq_some_iff] at h
        obtain ⟨k, hk, rfl⟩ := h
        have h1 := zvb hk
        have h2 := zkp s
        simp only [List.length_drop] at h1
        omega
theorem name64 {s : List UInt8} (h : zib s = true) : s.length ≤ 64 := by
  unfold zib zhd at h
  simp only [decide_eq_true_eq] at h
  split at h
  · rename_i n hn
    have := zvb hn
    split at h
    · omega
    · omega
  · omega
theorem op_small {o : TOp} (h : zcg zib o = 0) : zlX o ≤ 500 := by
  obtain ⟨k0, k4, o0, o1, ho⟩ := zrN h
  unfold zcg at h
  split at h
  · cases h
  split at h
  · cases h
  rename_i h1
  split at h
  · cases h
  rename_i h2
  split at h
  · cases h
  rename_i h3
  have e1 : o.topic = (zme o).topic := congrArg _ ho
  have e2 : o.group = (zme o).group := congrArg _ ho
  have e3 : o.recs = (zme o).recs := congrArg _ ho
  have hk : o.kind = 0 ∨ o.kind = 1 ∨ o.kind = 2 ∨ o.kind = 3 ∨ o.kind = 4 := by omega
  have ht : o.kind ≠ 0 → o.topic.length ≤ 64 := fun hk => name64 (by simpa [hk] using h1)
  have hg : o.kind = 3 → o.group.length ≤ 64 := fun hk => name64 (by simpa [hk] using h2)
  have hr : o.kind = 2 → (o.recs.map fun r => r.length + 10).sum ≤ 296 := by
    intro hk
    simp only [hk, true_and, not_or, Int.not_lt] at h3
    obtain ⟨h4, h5, h6⟩ := h3
    have h7 : ∀ r ∈ o.recs, r.length ≤ 64 := by
      intro r hr
      simp only [List.any_eq_true, not_exists, not_and, decide_eq_true_eq] at h6
      have := h6 r hr
      omega
    have key : ∀ l : List (List UInt8), (∀ r ∈ l, r.length ≤ 64) → (l.map fun r => r.length + 10).sum ≤ l.length * 74 := by
      intro l
      induction l with
      | nil => simp
      | cons r l ih =>
        intro h
        have h8 := ih fun r hr => h r (by simp [hr])
        have h9 := h r (by simp)
        simp only [List.map_cons, List.sum_cons, List.length_cons]
        omega
    have := key o.recs h7
    have : o.recs.length * 74 ≤ 4 * 74 := Nat.mul_le_mul_right _ (by omega)
    omega
  unfold zlX
  rcases hk with hk | hk | hk | hk | hk
  · simp [zme, hk, noOp] at e1 e2 e3; simp [e1, e2, e3]
  · simp [zme, hk, noOp] at e1 e2 e3; have := ht (by omega); simp [e2, e3]; omega
  · simp [zme, hk, noOp] at e1 e2 e3; have := ht (by omega); have := hr hk; simp only [e2, List.length_nil]; omega
  · simp [zme, hk, noOp] at e1 e2 e3; have := ht (by omega); have := hg hk; simp [e3]; omega
  · simp [zme, hk, noOp] at e1 e2 e3; have := ht (by omega); simp [e2, e3]; omega
theorem zgN {α β : Type} {f : α → List β} {n : Nat} {l : List α} (h : ∀ x ∈ l, (f x).length ≤ n) : ((l.map f).flatten).length ≤ l.length * n := by
  induction l with
  | nil => simp
  | cons x l ih =>
    have h1 := ih fun y hy => h y (by simp [hy])
    have h2 := h x (by simp)
    simp only [List.map_cons, List.flatten_cons, List.length_append, List.length_cons, Nat.add_mul, Nat.one_mul]
    omega
theorem zoA {l : List zu} (h : zy l = 0) : (∀ x ∈ l, zlX x.op ≤ 500) ∧ (zff l).length ≤ 4000 := by
  obtain ⟨h4, hm, _⟩ := zlg h
  have hz : ∀ x ∈ l, zlX x.op ≤ 500 := fun x hx => op_small (req_ok (hm x hx).1).2.2.2.2
  refine ⟨hz, ?_⟩
  have h1 : ∀ x ∈ l, (oneB x).length ≤ 700 := by
    intro x hx
    have a := zvP (Nat.le_trans (hz x hx) (by omega)) (hm x hx).1
    have b := zfH (hm x hx).2
    have c := zgW (x := reqB x) (by have := hz x hx; omega)
    have := hz x hx
    simp only [oneB, List.length_append]; omega
  have h2 : (zcH l).length ≤ l.length * 700 := zgN h1
  have : l.length * 700 ≤ 4 * 700 := Nat.mul_le_mul_right _ h4
  have n1 := zp (n := l.length) (by omega)
  simp only [zff, List.length_append]; omega
theorem fstE_mem {l : List Int} (h : zbj l = 0) : ∀ e ∈ l, e = 0 := by
  induction l with
  | nil => simp
  | cons x l ih =>
    unfold zbj at h
    split at h
    · rename_i hx; exact absurd h hx
    · rename_i hx
      intro e he
      rcases List.mem_cons.1 he with rfl | he
      · simpa using hx
      · exact ih h e he
def zsc (l : List zP) : List UInt8 := zcf l.length ++ (l.map fun s => zfD s.key s.dig).flatten
def ztb (c : zek) : List UInt8 := zcf c.seq.toNat ++ (zcf c.dig.toNat ++ zsc c.signs)
def zrB (p : zbW) : List UInt8 := zcf p.view.toNat ++ (zcf p.seq.toNat ++ (zcf p.dig.toNat ++ (zfD p.fkey p.fdig ++ (zsc p.signs ++ zff p.batch))))
def ztl (c : zaa) : List UInt8 := zcf c.view.toNat ++ (zcf c.src.toNat ++ (ztb c.cert ++ (zcf c.above.length ++ (c.above.map zrB).flatten)))
def changeB (c : zaa) : List UInt8 := ztl c ++ zfD c.key c.dig
def entryB (x : ziN) : List UInt8 := zcf x.view.toNat ++ (zcf x.seq.toNat ++ (zff x.batch ++ zfD x.key x.dig))
def newvB (m : zgs) : List UInt8 := zcf m.src.toNat ++ (zcf m.view.toNat ++ (zcf m.changes.length ++ ((m.changes.map changeB).flatten ++ (zcf m.entries.length ++ (m.entries.map entryB).flatten))))
theorem zvJ {l : List zP} (h : ∀ e ∈ zbX l, e = 0) : l.length ≤ 13 ∧ ∀ s ∈ l, zL s.key s.dig = 0 := by
  refine ⟨?_, fun s hs => h _ (List.mem_cons_of_mem _ (List.mem_map_of_mem hs))⟩
  have := inE_0 (h _ List.mem_cons_self)
  omega
theorem znd {l : List zP} (h : ∀ e ∈ zbX l, e = 0) : (zsc l).length ≤ 270 := by
  obtain ⟨h1, h2⟩ := zvJ h
  have h3 : ((l.map fun s => zfD s.key s.dig).flatten).length ≤ l.length * 20 := zgN fun s hs => zfH (h2 s hs)
  have n1 := zp (n := l.length) (by omega)
  have : l.length * 20 ≤ 13 * 20 := Nat.mul_le_mul_right _ h1
  simp only [zsc, List.length_append]; omega
theorem cert_ok {c : zek} (h : ∀ e ∈ zck c, e = 0) : (0 ≤ c.seq ∧ c.seq ≤ 9007199254740992) ∧ (0 ≤ c.dig ∧ c.dig ≤ 9007199254740992) ∧ ∀ e ∈ zbX c.signs, e = 0 :=
  ⟨numE_0 (h _ (by simp [zck])), numE_0 (h _ (by simp [zck])), fun e he => h e (by simp only [zck, List.mem_cons]; exact .inr (.inr (.inr he)))⟩
theorem zta {c : zek} (h : ∀ e ∈ zck c, e = 0) : (ztb c).length ≤ 290 := by
  obtain ⟨h1, h2, h3⟩ := cert_ok h
  have := znd h3
  have n1 := zp (n := c.seq.toNat) (by omega)
  have n2 := zp (n := c.dig.toNat) (by omega)
  simp only [ztb, List.length_append]; omega
theorem posE_0 {n : Int} (h : zrC n = 0) : 1 ≤ n ∧ n ≤ 9007199254740992 := inE_0 h
structure prepOkE (p : zbW) : Prop where
  view : 0 ≤ p.view ∧ p.view ≤ 9007199254740992
  seq : 1 ≤ p.seq ∧ p.seq ≤ 9007199254740992
  dig : 1 ≤ p.dig ∧ p.dig ≤ 9007199254740992
  first : zL p.fkey p.fdig = 0
  signs : ∀ e ∈ zbX p.signs, e = 0
  batch : zy p.batch = 0
theorem prep_ok {p : zbW} (h : ∀ e ∈ zcY p, e = 0) : prepOkE p :=
  ⟨numE_0 (h _ (by simp [zcY])), posE_0 (h _ (by simp [zcY])), posE_0 (h _ (by simp [zcY])), h _ (by simp [zcY]), fun e he => h e (by simp only [zcY, List.mem_cons, List.mem_append]; exact .inr (.inr (.inr (.inr (.inl he))))), h _ (by simp [zcY])⟩
theorem zsg {p : zbW} (h : ∀ e ∈ zcY p, e = 0) : (zrB p).length ≤ 4400 := by
  obtain ⟨h1, h2, h3, h4, h5, h6⟩ := prep_ok h
  have := znd h5
  have := zfH h4
  have := (zoA h6).2
  have n1 := zp (n := p.view.toNat) (by omega)
  have n2 := zp (n := p.seq.toNat) (by omega)
  have n3 := zp (n := p.dig.toNat) (by omega)
  simp only [zrB, List.length_append]; omega
structure bodyOkE (c : zaa) : Prop where
  view : 1 ≤ c.view ∧ c.view ≤ 9007199254740992
  src : 0 ≤ c.src ∧ c.src ≤ 12
  cert : ∀ e ∈ zck c.cert, e = 0
  many : c.above.length ≤ 8
  above : ∀ p ∈ c.above, ∀ e ∈ zcY p, e = 0
theorem body_ok {c : zaa} (h : ∀ e ∈ zdp c, e = 0) : bodyOkE c := by
  refine ⟨posE_0 (h _ (by simp [zdp])), inE_0 (h (brkE c.src) (by simp [zdp])), fun e he => h e (by simp [zdp, he]), ?_, fun p hp e he => h e ?_⟩
  · have := inE_0 (h (inE c.above.length 0 8) (by simp [zdp])); omega
  · simp only [zdp, List.mem_cons, List.mem_append, List.mem_flatten, List.mem_map]
    exact .inr (.inr (.inr (.inr ⟨_, ⟨p, hp, rfl⟩, he⟩)))
theorem bodyB_len {c : zaa} (h : ∀ e ∈ zdp c, e = 0) : (ztl c).length ≤ 36000 := by
  obtain ⟨h1, h2, h3, h4, h5⟩ := body_ok h
  have := zta h3
  have h6 : ((c.above.map zrB).flatten).length ≤ c.above.length * 4400 := zgN fun p hp => zsg (h5 p hp)
  have : c.above.length * 4400 ≤ 8 * 4400 := Nat.mul_le_mul_right _ h4
  have n1 := zp (n := c.view.toNat) (by omega)
  have n2 := zp (n := c.src.toNat) (by omega)
  have n3 := zp (n := c.above.length) (by omega)
  simp only [ztl, List.length_append]; omega
theorem zpq {c : zaa} (h : ∀ e ∈ zbT c, e = 0) : (∀ e ∈ zdp c, e = 0) ∧ zL c.key c.dig = 0 :=
  ⟨fun e he => h e (by simp [zbT, he]), h _ (by simp [zbT])⟩
structure entryOkE (x : ziN) : Prop where
  view : 0 ≤ x.view ∧ x.view ≤ 9007199254740992
  seq : 1 ≤ x.seq ∧ x.seq ≤ 9007199254740992
  batch : zy x.batch = 0
  sign : zL x.key x.dig = 0
structure newvOkE (m : zgs) : Prop where
  src : 0 ≤ m.src ∧ m.src ≤ 12
  view : 1 ≤ m.view ∧ m.view ≤ 9007199254740992
  manyC : m.changes.length ≤ 13
  change : ∀ c ∈ m.changes, ∀ e ∈ zbT c, e = 0
  manyE : m.entries.length ≤ 8
  entry : ∀ x ∈ m.entries, ∀ e ∈ entryErr x, e = 0
def zqU (m : zgs) : List UInt8 := zcf m.kind.toNat ++ (if m.kind = 7 then (match m.changes with | c :: _ => ztl c | [] => []) else if m.kind = 8 then newvB m else [])
def ownS (m : zgs) : zP := if m.kind = 7 then (match m.changes with | c :: _ => ⟨c.key, c.dig⟩ | [] => ⟨m.key, m.sdig⟩) else ⟨m.key, m.sdig⟩
def zua (m : zgs) : List UInt8 := zqU m ++ zfD (ownS m).key (ownS m).dig
def zdn (m : zgs) : Int := if zbU m ≠ 0 then zbU m else if (zua m).length > 262144 then 3 else 0
def zqA (m : zgs) : List UInt8 := if zdn m = 0 then zua m else []
def zfE (m : zgs) : zgs := if m.kind = 7 then (match m.changes with | [c] => { m with changes := [{ c with key := 0, dig := 1 }] } | _ => m) else if ownK m.kind = true then { m with key := 0, sdig := 1 } else m
def zot (m : zgs) : List UInt8 := if zdn (zfE m) = 0 then 6 :: zqU (zfE m) else []
def zgC (L : List (List UInt8)) (G : List zP) (m : zgs) : Bool := decide (zbU m = 0) && (decide (zdn (zfE m) = 0) && zfF L G (ownS m) m.src (zot m))
def vcM (c : zaa) : zgs := { zlR with kind := 7, src := c.src, view := c.view, changes := [c] }
theorem check_all {m : zgs} (h : zbU m = 0) : (∀ e ∈ zkb m, e = 0) ∧ m = zrI m := by
  unfold zbU at h
  split at h
  · rename_i h1; exact absurd h h1
  · rename_i h1
    split at h
    · rename_i h2; exact ⟨fstE_mem (by simpa using h1), h2⟩
    · cases h
theorem check7 {m : zgs} (hk : m.kind = 7) (h : zbU m = 0) : ∃ c, m.changes = [c] ∧ ∀ e ∈ zbT c, e = 0 := by
  have h1 := (check_all h).1
  simp only [zkb, zrL, hk] at h1
  have h2 := inE_0 (h1 (inE m.changes.length 1 1) (by simp))
  obtain ⟨c, hc⟩ : ∃ c, m.changes = [c] := List.length_eq_one_iff.1 (by omega)
  refine ⟨c, hc, fun e he => h1 e ?_⟩
  simp [hc, he]
end Go.AW
