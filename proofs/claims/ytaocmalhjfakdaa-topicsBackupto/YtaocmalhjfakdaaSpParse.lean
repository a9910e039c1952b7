/- Topics read from bytes, by the program: no program in sight. -/
import Derived.Test.YtaocmalhjfakdaaSpMap
import Derived.Test.YtaocmalhjfakdaaSpPrg
set_option linter.all false
set_option linter.unusedSimpArgs false
set_option linter.unusedVariables false
namespace Go.AW

def ziG {α : Type} (f : α → α) : Nat → α → α
  | 0, x => x
  | k + 1, x => f (ziG f k x)
def zcj (above : List UInt8) (s : Rd) : List UInt8 × Rd :=
  let t := zbj false 64 s
  if zbn t.1 = true ∧ Op.bytesLess above t.1 = true then t else (t.1, t.2.fail false 70)
structure GSt where
  above : List UInt8
  G : List (List UInt8 × Int)
  s : Rd
def zga (next : Nat) (g : GSt) : GSt :=
  let n := zcj g.above g.s
  let v := zaZ false next n.2
  ⟨n.1, g.G ++ [(n.1, (v.1 : Int))], v.2⟩
def ziH (next k : Nat) (s : Rd) : GSt := ziG (zga next) k ⟨[], [], s⟩
def zel (name : List UInt8) (s : Rd) : zC × Rd :=
  let b := zaZ false 9007199254740992 s
  let n := zaZ false 64 b.2
  let r := zcJ false n.1 n.2
  let f := if b.1 + r.1.length > 9007199254740992 then r.2.fail false 70 else r.2
  let g := zaZ false 8 f
  let G := ziH (b.1 + r.1.length) g.1 g.2
  (⟨name, (b.1 : Int), r.1, G.G⟩, G.s)
def zcI (e : Nat) : Bool := e = 0 ∨ e = 4 ∨ e = 5 ∨ e = 6 ∨ e = 71 ∨ e = 72 ∨ e = 60 ∨ e = 61 ∨ e = 62
def zaF (s : Rd) : (Int × Int × Int) × Rd :=
  let t := zaZ false 9007199254740992 s
  let e := zaZ false 65536 t.2
  let o := zaZ false 9007199254740992 e.2
  let s1 := if zcI e.1 = true ∧ (e.1 = 0 ∨ o.1 = 0) then o.2 else o.2.fail false 70
  let s2 := if t.1 = 0 ∧ ¬ (e.1 = 0 ∧ o.1 = 0) then s1.fail false 70 else s1
  (((t.1 : Int), (e.1 : Int), (o.1 : Int)), s2)
structure TSt where
  above : List UInt8
  X : List zC
  s : Rd
def zhR (t : TSt) : TSt :=
  let n := zcj t.above t.s
  let x := zel n.1 n.2
  ⟨n.1, t.X ++ [x.1], x.2⟩
def zlD (k : Nat) (s : Rd) : TSt := ziG zhR k ⟨[], [], s⟩
structure LSt where
  l : List (Int × Int × Int)
  s : Rd
def zeC (t : LSt) : LSt := ⟨t.l ++ [(zaF t.s).1], (zaF t.s).2⟩
def zfJ (k : Nat) (s : Rd) : LSt := ziG zeC k ⟨[], s⟩
def zgv (b : List UInt8) : TSt := zlD (zaZ false 8 ⟨b, 0⟩).1 (zaZ false 8 ⟨b, 0⟩).2
def zhT (b : List UInt8) : LSt := zfJ 8 (zgv b).s
def parsF (b : List UInt8) : zO := ⟨(zgv b).X, (zhT b).l⟩
end Go.AW
