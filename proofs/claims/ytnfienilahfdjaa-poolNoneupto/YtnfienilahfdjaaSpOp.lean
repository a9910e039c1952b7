/- Operations: what the document says of them. No program in sight. -/
import Derived.Test.YtnfienilahfdjaaSpNum
import Derived.Test.YtnfienilahfdjaaAwEnd
set_option linter.all false
namespace Go.AW

structure TOp where
  kind : Int
  topic : List UInt8
  group : List UInt8
  offset : Int
  recs : List (List UInt8)
deriving DecidableEq

def recsE (rs : List (List UInt8)) : List (List D) := rs.map fun r => [D.slice (bcs r)]
def opA (o : TOp) : AV := .agg [.d (.int .i64 o.kind), .d (.str o.topic), .d (.str o.group), .d (.int .i64 o.offset), .d (.slice (recsE o.recs))]
def noOp : TOp := ⟨0, [], [], 0, []⟩

theorem recsE_len (rs : List (List UInt8)) : (recsE rs).length = rs.length := by simp [recsE]
theorem recsE_get {rs : List (List UInt8)} {k : Nat} {r : List UInt8} (h : rs[k]? = some r) : (recsE rs)[k]? = some [D.slice (bcs r)] := by simp [recsE, h]

def onlyF (o : TOp) : TOp :=
  if o.kind = 1 then { noOp with kind := o.kind, topic := o.topic }
  else if o.kind = 2 then { noOp with kind := o.kind, topic := o.topic, recs := o.recs }
  else if o.kind = 3 then { noOp with kind := o.kind, topic := o.topic, group := o.group, offset := o.offset }
  else if o.kind = 4 then { noOp with kind := o.kind, topic := o.topic, offset := o.offset }
  else { noOp with kind := o.kind }
def opKindOk (o : TOp) : Bool := decide (0 ≤ o.kind ∧ o.kind ≤ 4)
def checkOpF (name : List UInt8 → Bool) (o : TOp) : Int :=
  if opKindOk o = false ∨ o ≠ onlyF o then 60
  else if o.kind ≠ 0 ∧ name o.topic = false then 61
  else if o.kind = 3 ∧ name o.group = false then 61
  else if o.kind = 2 ∧ (o.recs.length < 1 ∨ o.recs.length > 4 ∨ o.recs.any (fun r => decide (r.length > 64)) = true) then 62
  else if o.offset < 0 ∨ o.offset > 9007199254740992 then 60
  else 0

theorem take_eq_of {α : Type} {a b : List α} (hl : a.length = b.length) {k : Nat} (hk : k = a.length) (h : a.take k = b.take k) : a = b := by
  rw [hk, List.take_length, hl, List.take_length] at h
  exact h
theorem take_succ_eq {α : Type} {a b : List α} {k : Nat} {x y : α} (ha : a[k]? = some x) (hb : b[k]? = some y) (h : a.take k = b.take k) (e : x = y) : a.take (k + 1) = b.take (k + 1) := by
  rw [List.take_add_one, List.take_add_one, ha, hb, h, e]
end Go.AW
