/- Topics read from bytes, by the program: no program in sight. -/
import Derived.Test.YtaocmalhjfakdaaGreatSpNum
set_option linter.all false
set_option linter.unusedSimpArgs false
set_option linter.unusedVariables false
namespace Go.AW

def zdu {α : Type} (f : α → α) : Nat → α → α
  | 0, x => x
  | k + 1, x => f (zdu f k x)
def zdr (above : List UInt8) (s : Rd) : List UInt8 × Rd :=
  let t := zaJ false 64 s
  if zaZ t.1 = true ∧ Op.bytesLess above t.1 = true then t else (t.1, t.2.fail false 70)
structure GSt where
  above : List UInt8
  G : List (List UInt8 × Int)
  s : Rd
def zhJ (next : Nat) (g : GSt) : GSt :=
  let n := zdr g.above g.s
  let v := zax false next n.2
  ⟨n.1, g.G ++ [(n.1, (v.1 : Int))], v.2⟩
def zkH (next k : Nat) (s : Rd) : GSt := zdu (zhJ next) k ⟨[], [], s⟩
def zfs (name : List UInt8) (s : Rd) : zu × Rd :=
  let b := zax false 9007199254740992 s
  let n := zax false 64 b.2
  let r := zdN false n.1 n.2
  let f := if b.1 + r.1.length > 9007199254740992 then r.2.fail false 70 else r.2
  let g := zax false 8 f
  let G := zkH (b.1 + r.1.length) g.1 g.2
  (⟨name, (b.1 : Int), r.1, G.G⟩, G.s)
def zdb (e : Nat) : Bool := e = 0 ∨ e = 4 ∨ e = 5 ∨ e = 6 ∨ e = 71 ∨ e = 72 ∨ e = 60 ∨ e = 61 ∨ e = 62
def zbh (s : Rd) : (Int × Int × Int) × Rd :=
  let t := zax false 9007199254740992 s
  let e := zax false 65536 t.2
  let o := zax false 9007199254740992 e.2
  let s1 := if zdb e.1 = true ∧ (e.1 = 0 ∨ o.1 = 0) then o.2 else o.2.fail false 70
  let s2 := if t.1 = 0 ∧ ¬ (e.1 = 0 ∧ o.1 = 0) then s1.fail false 70 else s1
  (((t.1 : Int), (e.1 : Int), (o.1 : Int)), s2)
structure TSt where
  above : List UInt8
  X : List zu
  s : Rd
def zjG (t : TSt) : TSt :=
  let n := zdr t.above t.s
  let x := zfs n.1 n.2
  ⟨n.1, t.X ++ [x.1], x.2⟩
def znY (k : Nat) (s : Rd) : TSt := zdu zjG k ⟨[], [], s⟩
structure LSt where
  l : List (Int × Int × Int)
  s : Rd
def zfN (t : LSt) : LSt := ⟨t.l ++ [(zbh t.s).1], (zbh t.s).2⟩
def zha (k : Nat) (s : Rd) : LSt := zdu zfN k ⟨[], s⟩
def zie (b : List UInt8) : TSt := znY (zax false 8 ⟨b, 0⟩).1 (zax false 8 ⟨b, 0⟩).2
def ziq (b : List UInt8) : LSt := zha 8 (zie b).s
def zoV (b : List UInt8) : zak := ⟨(zie b).X, (ziq b).l⟩
end Go.AW
