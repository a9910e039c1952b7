/- The bytes of view-changes and new views, and how many they are at most. No program in sight. -/
import Derived.Test.YtpgahkdjkanblaaGreatSpMsg
import Derived.Test.YtpgahkdjkanblaaGreatSpTab
import Derived.Test.YtpgahkdjkanblaaGreatCk2
import Derived.Test.YtpgahkdjkanblaaGreatRq1
import Derived.Test.YtpgahkdjkanblaaGreatCodec1
set_option linter.all false
set_option linter.unusedSimpArgs false
set_option linter.unusedVariables false
namespace Go.AW

theorem zua : ∀ {f : Nat} {s : List UInt8} {n : Nat}, zhT f s = some n → s.length ≤ 4 * n
  | 0, _, _, h => by simp [zhT] at h
  | f + 1, s, n, h => by
    unfold zhT at h
    split at h
    · rename_i h0; simp [h0]
    · split at h
      · cases h
      · simp only [Option.map_eq_some_iff] at h
        obtain ⟨k, hk, rfl⟩ := h
        have h1 := zua hk
        have h2 := znF s
        simp only [List.length_drop] at h1
        omega
theorem name64 {s : List UInt8} (h : zmI s = true) : s.length ≤ 64 := by
  unfold zmI znO at h
  simp only [decide_eq_true_eq] at h
  split at h
  · rename_i n hn
    have := zua hn
    split at h
    · omega
    · omega
  · omega
theorem op_small {o : TOp} (h : zeD zmI o = 0) : zmB o ≤ 500 := by
  obtain ⟨k0, k4, o0, o1, ho⟩ := zuV h
  unfold zeD at h
  split at h
  · cases h
  split at h
  · cases h
  rename_i h1
  split at h
  · cases h
  rename_i h2
  split at h
  · cases h
  rename_i h3
  have e1 : o.topic = (zos o).topic := congrArg _ ho
  have e2 : o.group = (zos o).group := congrArg _ ho
  have e3 : o.recs = (zos o).recs := congrArg _ ho
  have hk : o.kind = 0 ∨ o.kind = 1 ∨ o.kind = 2 ∨ o.kind = 3 ∨ o.kind = 4 := by omega
  have ht : o.kind ≠ 0 → o.topic.length ≤ 64 := fun hk => name64 (by simpa [hk] using h1)
  have hg : o.kind = 3 → o.group.length ≤ 64 := fun hk => name64 (by simpa [hk] using h2)
  have hr : o.kind = 2 → (o.recs.map fun r => r.length + 10).sum ≤ 296 := by
    intro hk
    simp only [hk, true_and, not_or, Int.not_lt] at h3
    obtain ⟨h4, h5, h6⟩ := h3
    have h7 : ∀ r ∈ o.recs, r.length ≤ 64 := by
      intro r hr
      simp only [List.any_eq_true, not_exists, not_and, decide_eq_true_eq] at h6
      have := h6 r hr
      omega
    have key : ∀ l : List (List UInt8), (∀ r ∈ l, r.length ≤ 64) → (l.map fun r => r.length + 10).sum ≤ l.length * 74 := by
      intro l
      induction l with
      | nil => simp
      | cons r l ih =>
        intro h
        have h8 := ih fun r hr => h r (by simp [hr])
        have h9 := h r (by simp)
        simp only [List.map_cons, List.sum_cons, List.length_cons]
        omega
    have := key o.recs h7
    have : o.recs.length * 74 ≤ 4 * 74 := Nat.mul_le_mul_right _ (by omega)
    omega
  unfold zmB
  rcases hk with hk | hk | hk | hk | hk
  · simp [zos, hk, noOp] at e1 e2 e3; simp [e1, e2, e3]
  · simp [zos, hk, noOp] at e1 e2 e3; have := ht (by omega); simp [e2, e3]; omega
  · simp [zos, hk, noOp] at e1 e2 e3; have := ht (by omega); have := hr hk; simp only [e2, List.length_nil]; omega
  · simp [zos, hk, noOp] at e1 e2 e3; have := ht (by omega); have := hg hk; simp [e3]; omega
  · simp [zos, hk, noOp] at e1 e2 e3; have := ht (by omega); simp [e2, e3]; omega
theorem zfw {α β : Type} {f : α → List β} {n : Nat} {l : List α} (h : ∀ x ∈ l, (f x).length ≤ n) : ((l.map f).flatten).length ≤ l.length * n := by
  induction l with
  | nil => simp
  | cons x l ih =>
    have h1 := ih fun y hy => h y (by simp [hy])
    have h2 := h x (by simp)
    simp only [List.map_cons, List.flatten_cons, List.length_append, List.length_cons, Nat.add_mul, Nat.one_mul]
    omega
theorem zju {l : List zu} (h : zD l = 0) : (∀ x ∈ l, zmB x.op ≤ 500) ∧ (zcP l).length ≤ 4000 := by
  obtain ⟨h4, hm, _⟩ := znJ h
  have hz : ∀ x ∈ l, zmB x.op ≤ 500 := fun x hx => op_small (req_ok (hm x hx).1).2.2.2.2
  refine ⟨hz, ?_⟩
  have h1 : ∀ x ∈ l, (oneB x).length ≤ 700 := by
    intro x hx
    have a := zuD (Nat.le_trans (hz x hx) (by omega)) (hm x hx).1
    have b := zfF (hm x hx).2
    have c := zli (x := reqB x) (by have := hz x hx; omega)
    have := hz x hx
    simp only [oneB, List.length_append]; omega
  have h2 : (zds l).length ≤ l.length * 700 := zfw h1
  have : l.length * 700 ≤ 4 * 700 := Nat.mul_le_mul_right _ h4
  have n1 := zC (n := l.length) (by omega)
  simp only [zcP, List.length_append]; omega
theorem fstE_mem {l : List Int} (h : zec l = 0) : ∀ e ∈ l, e = 0 := by
  induction l with
  | nil => simp
  | cons x l ih =>
    unfold zec at h
    split at h
    · rename_i hx; exact absurd h hx
    · rename_i hx
      intro e he
      rcases List.mem_cons.1 he with rfl | he
      · simpa using hx
      · exact ih h e he
theorem fstE_zero {l : List Int} (h : ∀ e ∈ l, e = 0) : zec l = 0 := by
  induction l with
  | nil => rfl
  | cons x l ih => simp [zec, h x (by simp), ih fun e he => h e (by simp [he])]

def ztq (l : List zt) : List UInt8 := zdv l.length ++ (l.map fun s => zie s.key s.dig).flatten
def certB (c : zfB) : List UInt8 := zdv c.seq.toNat ++ (zdv c.dig.toNat ++ ztq c.signs)
def prepB (p : zca) : List UInt8 := zdv p.view.toNat ++ (zdv p.seq.toNat ++ (zdv p.dig.toNat ++ (zie p.fkey p.fdig ++ (ztq p.signs ++ zcP p.batch))))
def zvf (c : zO) : List UInt8 := zdv c.view.toNat ++ (zdv c.src.toNat ++ (certB c.cert ++ (zdv c.above.length ++ (c.above.map prepB).flatten)))
def zkt (c : zO) : List UInt8 := zvf c ++ zie c.key c.dig
def zrc (x : zaI) : List UInt8 := zdv x.view.toNat ++ (zdv x.seq.toNat ++ (zcP x.batch ++ zie x.key x.dig))
def newvB (m : zes) : List UInt8 := zdv m.src.toNat ++ (zdv m.view.toNat ++ (zdv m.changes.length ++ ((m.changes.map zkt).flatten ++ (zdv m.entries.length ++ (m.entries.map zrc).flatten))))
theorem signs_ok {l : List zt} (h : ∀ e ∈ zfs l, e = 0) : l.length ≤ 13 ∧ ∀ s ∈ l, zag s.key s.dig = 0 := by
  refine ⟨?_, fun s hs => h _ (List.mem_cons_of_mem _ (List.mem_map_of_mem hs))⟩
  have := zuL (h _ List.mem_cons_self)
  omega
theorem zqb {l : List zt} (h : ∀ e ∈ zfs l, e = 0) : (ztq l).length ≤ 270 := by
  obtain ⟨h1, h2⟩ := signs_ok h
  have h3 : ((l.map fun s => zie s.key s.dig).flatten).length ≤ l.length * 20 := zfw fun s hs => zfF (h2 s hs)
  have n1 := zC (n := l.length) (by omega)
  have : l.length * 20 ≤ 13 * 20 := Nat.mul_le_mul_right _ h1
  simp only [ztq, List.length_append]; omega
theorem cert_ok {c : zfB} (h : ∀ e ∈ zfq c, e = 0) : (0 ≤ c.seq ∧ c.seq ≤ 9007199254740992) ∧ (0 ≤ c.dig ∧ c.dig ≤ 9007199254740992) ∧ ∀ e ∈ zfs c.signs, e = 0 :=
  ⟨numE_0 (h _ (by simp [zfq])), numE_0 (h _ (by simp [zfq])), fun e he => h e (by simp only [zfq, List.mem_cons]; exact .inr (.inr (.inr he)))⟩
theorem certB_len {c : zfB} (h : ∀ e ∈ zfq c, e = 0) : (certB c).length ≤ 290 := by
  obtain ⟨h1, h2, h3⟩ := cert_ok h
  have := zqb h3
  have n1 := zC (n := c.seq.toNat) (by omega)
  have n2 := zC (n := c.dig.toNat) (by omega)
  simp only [certB, List.length_append]; omega
theorem posE_0 {n : Int} (h : posE n = 0) : 1 ≤ n ∧ n ≤ 9007199254740992 := zuL h
structure prepOkE (p : zca) : Prop where
  view : 0 ≤ p.view ∧ p.view ≤ 9007199254740992
  seq : 1 ≤ p.seq ∧ p.seq ≤ 9007199254740992
  dig : 1 ≤ p.dig ∧ p.dig ≤ 9007199254740992
  first : zag p.fkey p.fdig = 0
  signs : ∀ e ∈ zfs p.signs, e = 0
  batch : zD p.batch = 0
theorem prep_ok {p : zca} (h : ∀ e ∈ zfR p, e = 0) : prepOkE p :=
  ⟨numE_0 (h _ (by simp [zfR])), posE_0 (h _ (by simp [zfR])), posE_0 (h _ (by simp [zfR])), h _ (by simp [zfR]), fun e he => h e (by simp only [zfR, List.mem_cons, List.mem_append]; exact .inr (.inr (.inr (.inr (.inl he))))), h _ (by simp [zfR])⟩
theorem prepB_len {p : zca} (h : ∀ e ∈ zfR p, e = 0) : (prepB p).length ≤ 4400 := by
  obtain ⟨h1, h2, h3, h4, h5, h6⟩ := prep_ok h
  have := zqb h5
  have := zfF h4
  have := (zju h6).2
  have n1 := zC (n := p.view.toNat) (by omega)
  have n2 := zC (n := p.seq.toNat) (by omega)
  have n3 := zC (n := p.dig.toNat) (by omega)
  simp only [prepB, List.length_append]; omega
structure bodyOkE (c : zO) : Prop where
  view : 1 ≤ c.view ∧ c.view ≤ 9007199254740992
  src : 0 ≤ c.src ∧ c.src ≤ 12
  cert : ∀ e ∈ zfq c.cert, e = 0
  many : c.above.length ≤ 8
  above : ∀ p ∈ c.above, ∀ e ∈ zfR p, e = 0
theorem body_ok {c : zO} (h : ∀ e ∈ zil c, e = 0) : bodyOkE c := by
  refine ⟨posE_0 (h _ (by simp [zil])), zuL (h (brkE c.src) (by simp [zil])), fun e he => h e (by simp [zil, he]), ?_, fun p hp e he => h e ?_⟩
  · have := zuL (h (inE c.above.length 0 8) (by simp [zil])); omega
  · simp only [zil, List.mem_cons, List.mem_append, List.mem_flatten, List.mem_map]
    exact .inr (.inr (.inr (.inr ⟨_, ⟨p, hp, rfl⟩, he⟩)))
theorem zsE {c : zO} (h : ∀ e ∈ zil c, e = 0) : (zvf c).length ≤ 36000 := by
  obtain ⟨h1, h2, h3, h4, h5⟩ := body_ok h
  have := certB_len h3
  have h6 : ((c.above.map prepB).flatten).length ≤ c.above.length * 4400 := zfw fun p hp => prepB_len (h5 p hp)
  have : c.above.length * 4400 ≤ 8 * 4400 := Nat.mul_le_mul_right _ h4
  have n1 := zC (n := c.view.toNat) (by omega)
  have n2 := zC (n := c.src.toNat) (by omega)
  have n3 := zC (n := c.above.length) (by omega)
  simp only [zvf, List.length_append]; omega
theorem zpx {c : zO} (h : ∀ e ∈ zbN c, e = 0) : (∀ e ∈ zil c, e = 0) ∧ zag c.key c.dig = 0 :=
  ⟨fun e he => h e (by simp [zbN, he]), h _ (by simp [zbN])⟩
theorem zsw {c : zO} (h : ∀ e ∈ zbN c, e = 0) : (zkt c).length ≤ 36020 := by
  obtain ⟨h1, h2⟩ := zpx h
  have := zsE h1
  have := zfF h2
  simp only [zkt, List.length_append]; omega
structure entryOkE (x : zaI) : Prop where
  view : 0 ≤ x.view ∧ x.view ≤ 9007199254740992
  seq : 1 ≤ x.seq ∧ x.seq ≤ 9007199254740992
  batch : zD x.batch = 0
  sign : zag x.key x.dig = 0
theorem entry_ok {x : zaI} (h : ∀ e ∈ zhz x, e = 0) : entryOkE x :=
  ⟨numE_0 (h _ (by simp [zhz])), posE_0 (h _ (by simp [zhz])), h _ (by simp [zhz]), h _ (by simp [zhz])⟩
theorem ztP {x : zaI} (h : ∀ e ∈ zhz x, e = 0) : (zrc x).length ≤ 4040 := by
  obtain ⟨h1, h2, h3, h4⟩ := entry_ok h
  have := zfF h4
  have := (zju h3).2
  have n1 := zC (n := x.view.toNat) (by omega)
  have n2 := zC (n := x.seq.toNat) (by omega)
  simp only [zrc, List.length_append]; omega
structure newvOkE (m : zes) : Prop where
  src : 0 ≤ m.src ∧ m.src ≤ 12
  view : 1 ≤ m.view ∧ m.view ≤ 9007199254740992
  manyC : m.changes.length ≤ 13
  change : ∀ c ∈ m.changes, ∀ e ∈ zbN c, e = 0
  manyE : m.entries.length ≤ 8
  entry : ∀ x ∈ m.entries, ∀ e ∈ zhz x, e = 0
theorem newv_ok {m : zes} (h : ∀ e ∈ zfm m, e = 0) : newvOkE m := by
  refine ⟨zuL (h (brkE m.src) (by simp [zfm])), posE_0 (h _ (by simp [zfm])), ?_, fun p hp e he => h e ?_, ?_, fun p hp e he => h e ?_⟩
  · have := zuL (h (inE m.changes.length 0 13) (by simp [zfm])); omega
  · simp only [zfm, List.mem_cons, List.mem_append, List.mem_flatten, List.mem_map]
    exact .inr (.inr (.inr (.inl ⟨_, ⟨p, hp, rfl⟩, he⟩)))
  · have := zuL (h (inE m.entries.length 0 8) (by simp [zfm])); omega
  · simp only [zfm, List.mem_cons, List.mem_append, List.mem_flatten, List.mem_map]
    exact .inr (.inr (.inr (.inr (.inr ⟨_, ⟨p, hp, rfl⟩, he⟩))))
theorem newvB_len {m : zes} (h : ∀ e ∈ zfm m, e = 0) : (newvB m).length ≤ 600000 := by
  obtain ⟨h1, h2, h3, h4, h5, h6⟩ := newv_ok h
  have a : ((m.changes.map zkt).flatten).length ≤ m.changes.length * 36020 := zfw fun p hp => zsw (h4 p hp)
  have b : ((m.entries.map zrc).flatten).length ≤ m.entries.length * 4040 := zfw fun p hp => ztP (h6 p hp)
  have : m.changes.length * 36020 ≤ 13 * 36020 := Nat.mul_le_mul_right _ h3
  have : m.entries.length * 4040 ≤ 8 * 4040 := Nat.mul_le_mul_right _ h5
  have n1 := zC (n := m.src.toNat) (by omega)
  have n2 := zC (n := m.view.toNat) (by omega)
  have n3 := zC (n := m.changes.length) (by omega)
  have n4 := zC (n := m.entries.length) (by omega)
  simp only [newvB, List.length_append]; omega
def zpS (m : zes) : List UInt8 := zdv m.kind.toNat ++ (if m.kind = 7 then (match m.changes with | c :: _ => zvf c | [] => []) else if m.kind = 8 then newvB m else [])
def ownS (m : zes) : zt := if m.kind = 7 then (match m.changes with | c :: _ => ⟨c.key, c.dig⟩ | [] => ⟨m.key, m.sdig⟩) else ⟨m.key, m.sdig⟩
def zru (m : zes) : List UInt8 := zpS m ++ zie (ownS m).key (ownS m).dig
def zcK (m : zes) : Int := if zbO m ≠ 0 then zbO m else if (zru m).length > 262144 then 3 else 0
def zqq (m : zes) : List UInt8 := if zcK m = 0 then zru m else []
def zdE (m : zes) : zes := if m.kind = 7 then (match m.changes with | [c] => { m with changes := [{ c with key := 0, dig := 1 }] } | _ => m) else if ownK m.kind = true then { m with key := 0, sdig := 1 } else m
def zdb (m : zes) : List UInt8 := if zcK (zdE m) = 0 then 6 :: zpS (zdE m) else []
def zet (L : List (List UInt8)) (G : List zt) (m : zes) : Bool := decide (zbO m = 0) && (decide (zcK (zdE m) = 0) && zhi L G (ownS m) m.src (zdb m))
def vcM (c : zO) : zes := { zfl with kind := 7, src := c.src, view := c.view, changes := [c] }
theorem check_all {m : zes} (h : zbO m = 0) : (∀ e ∈ zjP m, e = 0) ∧ m = zoK m := by
  unfold zbO at h
  split at h
  · rename_i h1; exact absurd h h1
  · rename_i h1
    split at h
    · rename_i h2; exact ⟨fstE_mem (by simpa using h1), h2⟩
    · cases h
theorem check7 {m : zes} (hk : m.kind = 7) (h : zbO m = 0) : ∃ c, m.changes = [c] ∧ ∀ e ∈ zbN c, e = 0 := by
  have h1 := (check_all h).1
  simp only [zjP, zny, hk] at h1
  have h2 := zuL (h1 (inE m.changes.length 1 1) (by simp))
  obtain ⟨c, hc⟩ : ∃ c, m.changes = [c] := List.length_eq_one_iff.1 (by omega)
  refine ⟨c, hc, fun e he => h1 e ?_⟩
  simp [hc, he]
theorem check8 {m : zes} (hk : m.kind = 8) (h : zbO m = 0) : (∀ e ∈ zfm m, e = 0) ∧ zag m.key m.sdig = 0 := by
  have h1 := (check_all h).1
  simp only [zjP, zny, hk] at h1
  exact ⟨fun e he => h1 e (by simp [he]), h1 _ (by simp [show ownK 8 = true from rfl])⟩
end Go.AW

/- Contracts: which view-changes and new views may be, the document's. -/
set_option maxRecDepth 100000
set_option linter.unusedSimpArgs false
set_option linter.unusedVariables false
namespace Go.Proofs.YtpgahkdjkanblaaGreat
open Go.AW

end Go.Proofs.YtpgahkdjkanblaaGreat

/- Contracts: batches that are the same, the program's. -/
set_option maxRecDepth 100000
set_option linter.unusedSimpArgs false
set_option linter.unusedVariables false
namespace Go.Proofs.YtpgahkdjkanblaaGreat
open Go.AW

theorem gq47 {A P Q : Prop} (a : A) (h : Q) (e : A → Hd Q → P := by intro a h; (repeat' first | simp -dsimp only [↓zfa, ↓zat, ↓zbt, ↓zfb, ↓zeW, ↓zeU, ↓zeX, ↓zeV, ↓zby, ↓zbu, ↓zbz, ↓zbv, ↓zeY, ↓zbs, ↓zbA, ↓zbw, ↓zbB, ↓zbx, ↓zeT, ↓zeZ, ↓zbr, ↓zbC, ↓zeQ, ↓zeP, ↓zeS, iN, bT, bF, eN, ↓zcO, ↓unC, ↓zP, ↓zG, ↓zH, ↓zK, ↓zW, ↓zaz, ↓zdn, ↓zau, ↓zbf, ↓zQ, ↓zg, ↓zf, ↓zbY, ↓zb, ↓zae, ↓zL, ↓zaN, ↓zaO, ↓zc, ↓zB, ↓zj, ↓zE, ↓zY, ↓zdz, ↓zdA, ↓zam, ↓zap, ↓zaK, ↓zaV, ↓zbj, ↓zm, ↓zai, ↓zJ, ↓zr, ↓zT, zdD, zbo, zbk, unA, zcZ, bnd, zdZ, zac, zR, zdT, dm, dm1, zI, zan, zeq, zep, zZ, Q0, Q1, Q2, Q3, Q4, Q5, zX, zn, zo, zF, zA, Q6, Q7, Q8, Q9, Q10, Q11, Q12, Q13, Q14, Nat.reduceAdd, Q15, Int.reduceToNat, Q16, Q17, Q18, Q19, Q20, reduceIte, Q21, Q22, zw, rep, zU, zeo, toD, zaa, Q23, Q24, Q25, Q26, Q27, Q28, Nat.reduceLeDiff, Q29, Nat.reduceSub, Q30, Q31, Q32, sc, Q33, Q34, Q35, Q36, Q37, Q26, Q38, Q39, zlJ, zlG, zlD, zlK, zeM, zlH, zlE, zlI, zlF, zeL, zeN, zlL, zlM, Bool.not_true, Bool.not_false, List.length_map, Bool.and_false, Bool.and_self, Bool.false_and, Bool.true_and, Option.isSome_none, Option.isSome_some, Option.map_none, Option.map_some, beq_self_eq_true, bne_self_eq_false, zbH, zdC, zdB, opA, zgI, zgH, zic, zbl, a] | with_reducible refine zmc ?_ | fail); exact h.go) : P := e a ⟨h⟩
theorem c_Same1 {σ : List zd} {a b : zu} (ha : a.op.recs.length ≤ 1073741824) (hb : b.op.recs.length ≤ 1073741824) {K : KT} (hK : K (.d (.bool (decide (a = b)))) σ) : zl Tryz.prog zfL [zic a, zic b] σ K := by
  refine ze zlP.is rfl fun hl _ => zlP.goes ?_
  have e : a = b ↔ a.key = b.key ∧ a.dig = b.dig ∧ a.client = b.client ∧ a.time = b.time ∧ a.op = b.op := by cases a; cases b; simp; constructor <;> (intro h; simp_all)
  have fin : ∀ z, decide (a = b) = z → K (.d (.bool z)) σ := fun z h => h ▸ hK
  clear hK
  simp only [zmf, iN, bT, bF, eN, zic]
  cases h1 : (a.key == b.key)
  · refine gq47 h1 ?_
    refine zV hl ?_
    refine fin _ (decide_eq_false fun h => ?_)
    have := (e.1 h).1; simp [this] at h1
  cases h2 : (a.dig == b.dig)
  · refine gq47 (zq h1 h2) ?_
    refine zV hl ?_
    refine fin _ (decide_eq_false fun h => ?_)
    have := (e.1 h).2.1; simp [this] at h2
  cases h3 : (a.client == b.client)
  · refine gq47 (zq h1 (zq h2 h3)) ?_
    refine zV hl ?_
    refine fin _ (decide_eq_false fun h => ?_)
    have := (e.1 h).2.2.1; simp [this] at h3
  cases h4 : (a.time == b.time)
  · refine gq47 (zq h1 (zq h2 (zq h3 h4))) ?_
    refine zV hl ?_
    refine fin _ (decide_eq_false fun h => ?_)
    have := (e.1 h).2.2.2.1; simp [this] at h4
  refine gq47 (zq h1 (zq h2 (zq h3 h4))) ?_
  refine c_Same (a := a.op) (b := b.op) ha hb ?_
  refine zaF ?_
  refine zV hl ?_
  refine fin _ ?_
  rw [Bool.eq_iff_iff, decide_eq_true_eq, decide_eq_true_eq, e]
  simp only [beq_iff_eq] at h1 h2 h3 h4
  simp [h1, h2, h3, h4]
theorem zpD {σ : List zd} {a b : List zu} (ha : ziR a) (hb : ziR b) {K : KT} (hK : K (.d (.bool (decide (a = b)))) σ) :
    zl Tryz.prog zav [.d (.slice (zbD a)), .d (.slice (zbD b)), .fn (.func zfL) [] []] σ K := by
  refine ze zbc.is rfl fun hl _ => zbc.goes ?_
  have fin : ∀ z, decide (a = b) = z → K (.d (.bool z)) σ := fun z h => h ▸ hK
  clear hK
  obtain ⟨ha1, ha2⟩ := ha
  obtain ⟨hb1, hb2⟩ := hb
  simp only [zbd, iN, bT, bF, eN]
  cases hl0 : ((a.length : Int) != (b.length : Int))
  rotate_left
  · refine zeB hl0 ?_
    refine zV hl ?_
    refine fin _ (decide_eq_false fun h => ?_)
    rw [h] at hl0; simp at hl0
  have hl2 : a.length = b.length := by simp at hl0; omega
  refine zeB hl0 ?_
  refine zy a.length (fun k vs s => vs = [.d (.int .i64 k)] ∧ (∃ T, s = σ ++ T) ∧ a.take k = b.take k) ⟨rfl, ⟨[], by simp⟩, by simp⟩ ?_
  rintro k vs s hk ⟨rfl, ⟨T, rfl⟩, htk⟩
  by_cases hlt : k < a.length
  · have hd : decide ((k : Int) < (a.length : Int)) = true := by simp; omega
    have hx : a[k]? = some a[k] := by simp [hlt]
    have hy : b[k]? = some (b[k]'(by omega)) := List.getElem?_eq_getElem _
    have hgx := zal (f := zbl) hx
    have hgy := zal (f := zbl) hy
    have hxs := (ha2 _ (List.getElem_mem hlt)).1
    have hys := (hb2 _ (List.getElem_mem (show k < b.length by omega))).1
    obtain ⟨x, hxe⟩ : ∃ x, a[k] = x := ⟨_, rfl⟩
    obtain ⟨y, hye⟩ : ∃ y, (b[k]'(by omega)) = y := ⟨_, rfl⟩
    rw [hxe] at hx hgx hxs
    rw [hye] at hy hgy hys
    obtain ⟨S, hS⟩ : ∃ S, σ ++ T = S := ⟨_, rfl⟩
    rw [hS]
    refine gq46 (zq hd (zq hgx hgy)) ?_
    refine c_Same1 (a := x) (b := y) hxs hys ?_
    cases he : decide (x = y)
    · refine zeB hd ?_
      rw [← hS, List.append_assoc]
      refine zV hl ?_
      refine fin _ (decide_eq_false fun h => ?_)
      subst h
      rw [hx] at hy
      have := Option.some.inj hy
      simp [this] at he
    · refine zeB (wk1 k (by omega)) ?_
      exact zbp.next hlt ⟨rfl, ⟨_, by rw [← hS, List.append_assoc]⟩, zcG hx hy htk (by simpa using he)⟩
  · have hd : decide ((k : Int) < (a.length : Int)) = false := by simp; omega
    refine zeB hd ?_
    refine zV hl ?_
    exact fin _ (decide_eq_true (zed hl2 (k := k) (by omega) htk))
theorem zpz {σ : List zd} {a b : List zu} (ha : ziR a) (hb : ziR b) {K : KT} (hK : K (.d (.bool (decide (a = b)))) σ) : zl Tryz.prog zeR [.d (.slice (zbD a)), .d (.slice (zbD b))] σ K := by
  refine ze znW.is rfl fun hl _ => znW.goes ?_
  simp only [zoi, iN, bT, bF, eN]
  refine zaF ?_
  refine zpD ha hb ?_
  refine zaF ?_
  refine zV hl ?_
  exact hK

end Go.Proofs.YtpgahkdjkanblaaGreat
