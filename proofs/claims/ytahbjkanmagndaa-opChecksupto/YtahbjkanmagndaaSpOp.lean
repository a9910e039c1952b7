/- Operations: what the document says of them. No program in sight. -/
import Derived.Test.YtahbjkanmagndaaSpNum
import Derived.Test.YtahbjkanmagndaaAwEnd
set_option linter.all false
namespace Go.AW

structure TOp where
  kind : Int
  topic : List UInt8
  group : List UInt8
  offset : Int
  recs : List (List UInt8)
deriving DecidableEq

def recsE (rs : List (List UInt8)) : List (List D) := rs.map fun r => [D.slice (bcs r)]
def opA (o : TOp) : AV := .agg [.d (.int .i64 o.kind), .d (.str o.topic), .d (.str o.group), .d (.int .i64 o.offset), .d (.slice (recsE o.recs))]
def noOp : TOp := ⟨0, [], [], 0, []⟩

theorem recsE_len (rs : List (List UInt8)) : (recsE rs).length = rs.length := by simp [recsE]
theorem recsE_get {rs : List (List UInt8)} {k : Nat} {r : List UInt8} (h : rs[k]? = some r) : (recsE rs)[k]? = some [D.slice (bcs r)] := by simp [recsE, h]

/-- the operation with the fields that its kind has alone -/
def onlyF (o : TOp) : TOp :=
  if o.kind = 1 then { noOp with kind := o.kind, topic := o.topic }
  else if o.kind = 2 then { noOp with kind := o.kind, topic := o.topic, recs := o.recs }
  else if o.kind = 3 then { noOp with kind := o.kind, topic := o.topic, group := o.group, offset := o.offset }
  else if o.kind = 4 then { noOp with kind := o.kind, topic := o.topic, offset := o.offset }
  else { noOp with kind := o.kind }
def opKindOk (o : TOp) : Bool := decide (0 ≤ o.kind ∧ o.kind ≤ 4)
/-- what is wrong with an operation, told which texts are names -/
def checkOpF (name : List UInt8 → Bool) (o : TOp) : Int :=
  if opKindOk o = false ∨ o ≠ onlyF o then 60
  else if o.kind ≠ 0 ∧ name o.topic = false then 61
  else if o.kind = 3 ∧ name o.group = false then 61
  else if o.kind = 2 ∧ (o.recs.length < 1 ∨ o.recs.length > 4 ∨ o.recs.any (fun r => decide (r.length > 64)) = true) then 62
  else if o.offset < 0 ∨ o.offset > 9007199254740992 then 60
  else 0

/-- a byte string behind its length -/
def putB (x : List UInt8) : List UInt8 := numB x.length ++ x
def recsB (rs : List (List UInt8)) : List UInt8 := (rs.map putB).flatten
/-- an operation's bytes, of one that may be -/
def opB (o : TOp) : List UInt8 :=
  numB o.kind.toNat ++ ((if o.kind ≠ 0 then putB o.topic else []) ++
    (if o.kind = 2 then numB o.recs.length ++ recsB o.recs else if o.kind = 3 then putB o.group ++ numB o.offset.toNat else if o.kind = 4 then numB o.offset.toNat else []))
theorem opB_0 {o : TOp} (h : o.kind = 0) : opB o = numB o.kind.toNat := by simp [opB, h]
theorem opB_1 {o : TOp} (h : o.kind = 1) : opB o = numB o.kind.toNat ++ (numB o.topic.length ++ o.topic) := by simp [opB, h, putB]
theorem opB_2 {o : TOp} (h : o.kind = 2) : opB o = numB o.kind.toNat ++ (numB o.topic.length ++ (o.topic ++ (numB o.recs.length ++ recsB o.recs))) := by simp [opB, h, putB]
theorem opB_3 {o : TOp} (h : o.kind = 3) : opB o = numB o.kind.toNat ++ (numB o.topic.length ++ (o.topic ++ (numB o.group.length ++ (o.group ++ numB o.offset.toNat)))) := by simp [opB, h, putB]
theorem opB_4 {o : TOp} (h : o.kind = 4) : opB o = numB o.kind.toNat ++ (numB o.topic.length ++ (o.topic ++ numB o.offset.toNat)) := by simp [opB, h, putB]
/-- how much room an operation takes at most -/
def opSz (o : TOp) : Nat := o.topic.length + o.group.length + (o.recs.map fun r => r.length + 10).sum
theorem putB_len {x : List UInt8} (h : x.length < 18446744073709551616) : (putB x).length ≤ x.length + 10 := by
  have := numB_len10 h
  simp only [putB, List.length_append]; omega
theorem recsB_take_len (rs : List (List UInt8)) (h : (rs.map fun r => r.length + 10).sum ≤ 1073741824) : ∀ k, (recsB (rs.take k)).length ≤ (rs.map fun r => r.length + 10).sum := by
  have key : ∀ l : List (List UInt8), (l.map fun r => r.length + 10).sum ≤ 1073741824 → (recsB l).length ≤ (l.map fun r => r.length + 10).sum := by
    intro l
    induction l with
    | nil => simp [recsB]
    | cons r l ih =>
      intro h
      simp only [List.map_cons, List.sum_cons] at h ⊢
      have h1 := ih (by omega)
      have h2 := putB_len (x := r) (by omega)
      simp only [recsB, List.map_cons, List.flatten_cons, List.length_append] at h1 ⊢
      omega
  have sum_take : ∀ (l : List (List UInt8)) k, ((l.take k).map fun r => r.length + 10).sum ≤ (l.map fun r => r.length + 10).sum := by
    intro l
    induction l with
    | nil => simp
    | cons r l ih =>
      intro k
      cases k with
      | zero => simp
      | succ k => simp only [List.take_succ_cons, List.map_cons, List.sum_cons]; have := ih k; omega
  intro k
  have h1 := sum_take rs k
  have := key (rs.take k) (by omega)
  omega
theorem recsB_snoc {rs : List (List UInt8)} {k : Nat} {r : List UInt8} (h : rs[k]? = some r) : recsB (rs.take (k + 1)) = recsB (rs.take k) ++ putB r := by
  rw [List.take_add_one, h]; simp [recsB]
theorem recs_len_le (rs : List (List UInt8)) : rs.length ≤ (rs.map fun r => r.length + 10).sum := by
  induction rs with
  | nil => simp
  | cons r l ih => simp only [List.map_cons, List.sum_cons, List.length_cons]; omega
theorem rec_le {rs : List (List UInt8)} {r : List UInt8} (h : r ∈ rs) : r.length ≤ (rs.map fun r => r.length + 10).sum := by
  induction rs with
  | nil => cases h
  | cons x l ih =>
    simp only [List.map_cons, List.sum_cons]
    rcases List.mem_cons.1 h with rfl | h
    · omega
    · have := ih h; omega
theorem check_ok {name : List UInt8 → Bool} {o : TOp} (h : checkOpF name o = 0) : 0 ≤ o.kind ∧ o.kind ≤ 4 ∧ 0 ≤ o.offset ∧ o.offset ≤ 9007199254740992 ∧ o = onlyF o := by
  unfold checkOpF opKindOk at h
  grind
theorem take_eq_of {α : Type} {a b : List α} (hl : a.length = b.length) {k : Nat} (hk : k = a.length) (h : a.take k = b.take k) : a = b := by
  rw [hk, List.take_length, hl, List.take_length] at h
  exact h
theorem take_succ_eq {α : Type} {a b : List α} {k : Nat} {x y : α} (ha : a[k]? = some x) (hb : b[k]? = some y) (h : a.take k = b.take k) (e : x = y) : a.take (k + 1) = b.take (k + 1) := by
  rw [List.take_add_one, List.take_add_one, ha, hb, h, e]
end Go.AW
