/- The operations with their types resolved, and what each does to what is known. -/
import Derived.Test.YtahbjkanmagndaaAwSim
set_option linter.all false
namespace Go.AW

inductive Opd where
  | tmp (t : Nat)
  | lit (a : AV)

inductive SK where
  | str
  | sl (sz : Nat)
  | arr (n sz : Nat)

inductive LK where
  | str | sl | map
  | arr (n : Nat)

inductive CK where
  | int (k : IntKind)
  | toBytes
  | toStr
  | same

/-- what '==' compares -/
inductive EK where
  | plain
  | bool
  | ptr
  | slice
  | ints (n : Nat)
  | map

/-- a map's keys -/
inductive KK where
  | int
  | str
  | ints (n : Nat)

inductive I where
  | mv (x : Opd)
  | pick (c a b : Opd)
  | alloc (zero : List AV)
  | boxi (x : Opd)
  | build (zero : List AV) (parts : List (Nat × Nat × Opd))
  | mkslice (mu : Bool) (sz len : Nat) (zero : List AV) (parts : List (Nat × Nat × Opd))
  | load (agg : Bool) (n : Nat) (x : Opd)
  | store (n : Nat) (a x : Opd)
  | nilchk (x : Opd)
  | bin (op : BinOp) (e : EK) (x y : Opd)
  | un (op : UnOp) (x : Opd)
  | conv (c : CK) (x : Opd)
  | slc (k : SK) (x : Opd) (lo hi mx : Option Opd)
  | faddr (off : Nat) (x : Opd)
  | field (agg : Bool) (off n : Nat) (x : Opd)
  | iaddr (arr : Option Nat) (sz : Nat) (x i : Opd)
  | idxS (x i : Opd)
  | idxA (agg : Bool) (len sz : Nat) (x i : Opd)
  | extract (x : Opd) (i : Nat)
  | len (k : LK) (x : Opd)
  | append (sz bytes : Nat) (zero : List AV) (x y : Opd)
  | maxi (xs : List Opd)
  | mini (xs : List Opd)
  | call (f : FuncId) (args : List Opd)
  | callv (f : Opd) (args : List Opd)
  | mkfn (f : Fn) (first cap : List Opd)
  | rangeS (x : Opd)
  | nextS (x : Opd)
  | isnil (neg : Bool) (x : Opd)
  | mkmap
  | mget (kk : KK) (ok : Bool) (z : AV) (m k : Opd)
  | mset (kk : KK) (m k x : Opd)
  | mdel (kk : KK) (m k : Opd)

structure Ai where
  dst : Option Nat
  g : Option (Nat × Bool)
  i : I

inductive AC where
  | skip
  | ops (l : List Ai)
  | draw (l : List Ai) (after : List (List Nat)) (lin : List (Nat × List Nat)) (cl : List Nat)
  | seq (a b : AC)
  | cond (c : Opd) (a b : AC)
  | block (id : Nat) (a : AC)
  | loop (lv dd : List Nat) (a : AC)
  | exit (id : Nat)
  | ret

def litS : Value → Option AV
  | .int k n => some (.d (.int k n))
  | .bool b => some (.d (.bool b))
  | .string s => some (.d (.str s.data.toList))
  | .slice none 0 0 => some (.exact [])
  | .pointer none => some (.d .nilp)
  | .map none => some (.d .nilmap)
  | .nilFunc => some (.d .nilfn)
  | _ => none
def litA : Value → Option AV
  | .agg cs => (cs.toList.mapM litS).map .agg
  | v => litS v
def opd : Operand → Option Opd
  | .tmp t => some (.tmp t)
  | .const v => (litA v).map .lit
  | .func f => some (.lit (.fn (.func f) [] []))
  | .global _ => none
def sizeOf? (P : Program) (t : TypeId) : Option Nat := (P.info? t).map (·.size)
def aggB (P : Program) (t : TypeId) : Option Bool :=
  match P.underlying t with
  | some (.struct _) | some (.array _ _) => some true
  | some _ => some false
  | none => none
def zeros (P : Program) (t : TypeId) : Option (List AV) := do
  let i ← P.info? t
  let z ← i.zero
  z.cells.toList.mapM litS
def callOk (P : Program) (f : FuncId) : Bool :=
  match P.funcs[f]? with
  | some fn => fn.name != "runtime.NumGoroutine" && fn.body.isSome
  | none => false
def intT (P : Program) (t : TypeId) : Bool :=
  match P.underlying t with
  | some (.int _) => true
  | _ => false
def sizeIs (P : Program) (t : TypeId) (n : Nat) : Bool :=
  match P.info? t with
  | some i => i.size == n
  | none => false
/-- a struct of n integers -/
def intsOk (P : Program) (t : TypeId) (fs : Array Field) : Bool :=
  !P.stoodInHeld t && !P.eqGuardType P.depth t && sizeIs P t fs.size && fs.toList.zipIdx.all fun f => f.1.name != "_" && f.1.offset == f.2 && intT P f.1.type
def intsB (P : Program) (t : TypeId) : Option Nat :=
  match P.underlying t with
  | some (.struct fs) => if intsOk P t fs = true then some fs.size else none
  | _ => none
def ekOf (P : Program) (op : BinOp) (t : TypeId) : Option EK :=
  match op with
  | .eql | .neq =>
    match P.underlying t with
    | some (.int _) | some .string => some .plain
    | some .bool => some .bool
    | some (.pointer _) => some .ptr
    | some (.slice _) => some .slice
    | some (.map _ _) => some .map
    | some (.struct _) => (intsB P t).map .ints
    | _ => none
  | _ => some .plain
def kkOf (P : Program) (t : TypeId) : Option KK :=
  match P.underlying t with
  | some (.int _) => some .int
  | some .string => some .str
  | some (.struct _) => (intsB P t).map .ints
  | _ => none
/-- '==' or '!=' of a slice and the constant nil -/
def nilCmp (P : Program) (op : BinOp) (t : TypeId) (y : Operand) : Bool :=
  match op, y, P.underlying t with
  | .eql, .const (.slice none 0 0), some (.slice _) => true
  | .neq, .const (.slice none 0 0), some (.slice _) => true
  | _, _, _ => false
def isNeq : BinOp → Bool
  | .neq => true
  | _ => false
def optM {α β : Type} (f : α → Option β) : Option α → Option (Option β)
  | none => some none
  | some x => (f x).map some

def compI (P : Program) (o : Oper) : Option I :=
  match o.op with
  | .move x | .assign x => do pure (.mv (← opd x))
  | .pick c a b => do pure (.pick (← opd c) (← opd a) (← opd b))
  | .alloc t => do pure (.alloc (← zeros P t))
  | .box _ x => do pure (.boxi (← opd x))
  | .build t parts =>
    match P.underlying t with
    | some (.struct fs) => do
      let z ← zeros P t
      let ps ← parts.toList.mapM fun p => do let f ← fs[p.1]?; let s ← sizeOf? P f.type; pure (f.offset, s, ← opd p.2)
      if fs.toList.all (fun f => (sizeOf? P f.type).isSome) then pure (.build z ps) else none
    | some (.array _ e) => do
      let z ← zeros P t
      let s ← sizeOf? P e
      let ps ← parts.toList.mapM fun p => do pure (p.1 * s, s, ← opd p.2)
      pure (.build z ps)
    | _ => none
  | .buildSlice t len parts =>
    match P.underlying t with
    | some (.slice e) => do
      let s ← sizeOf? P e
      let z ← zeros P e
      let ps ← parts.toList.mapM fun p => do pure (p.1 * s, s, ← opd p.2)
      if len * s ≤ 16777216 && 0 < s && z.length == s then pure (.mkslice false s len z ps) else none
    | _ => none
  | .load t x => do pure (.load (← aggB P t) (← sizeOf? P t) (← opd x))
  | .store t a x => do pure (.store (← sizeOf? P t) (← opd a) (← opd x))
  | .nilCheck x => do pure (.nilchk (← opd x))
  | .binOp op t x y _ => if nilCmp P op t y = true then do pure (.isnil (isNeq op) (← opd x)) else do pure (.bin op (← ekOf P op t) (← opd x) (← opd y))
  | .makeMap t none =>
    match P.underlying t with
    | some (.map _ _) => some .mkmap
    | _ => none
  | .lookup t m k ok =>
    match P.underlying t with
    | some (.map kt et) => do
      let kk ← kkOf P kt
      let i ← P.info? et
      let z ← i.zero
      let za ← litA z
      pure (.mget kk ok za (← opd m) (← opd k))
    | _ => none
  | .mapUpdate t m k x | .insert t m k x =>
    match P.underlying t with
    | some (.map kt _) => do pure (.mset (← kkOf P kt) (← opd m) (← opd k) (← opd x))
    | _ => none
  | .unOp op _ x => do pure (.un op (← opd x))
  | .convert src dst x =>
    match P.underlying src, P.underlying dst with
    | some (.int _), some (.int k) => do pure (.conv (.int k) (← opd x))
    | some .string, some (.slice e) => match P.underlying e with
      | some (.int .u8) => do pure (.conv .toBytes (← opd x))
      | _ => none
    | some (.slice e), some .string => match P.underlying e with
      | some (.int .u8) => do pure (.conv .toStr (← opd x))
      | _ => none
    | some .string, some .string => do pure (.conv .same (← opd x))
    | _, _ => none
  | .slice t x lo hi mx =>
    match P.underlying t with
    | some .string => do pure (.slc .str (← opd x) (← optM opd lo) (← optM opd hi) (← optM opd mx))
    | some (.slice e) => do pure (.slc (.sl (← sizeOf? P e)) (← opd x) (← optM opd lo) (← optM opd hi) (← optM opd mx))
    | some (.array n e) => do pure (.slc (.arr n (← sizeOf? P e)) (← opd x) (← optM opd lo) (← optM opd hi) (← optM opd mx))
    | _ => none
  | .fieldAddr t x k =>
    match P.underlying t with
    | some (.struct fs) => do
      let f ← fs[k]?
      let s ← sizeOf? P f.type
      if s = 0 then none else pure (.faddr f.offset (← opd x))
    | _ => none
  | .field t x k =>
    match P.underlying t with
    | some (.struct fs) => do
      let f ← fs[k]?
      pure (.field (← aggB P f.type) f.offset (← sizeOf? P f.type) (← opd x))
    | _ => none
  | .indexAddr t x i =>
    match P.underlying t with
    | some (.array n e) => do pure (.iaddr (some n) (← sizeOf? P e) (← opd x) (← opd i))
    | some (.slice e) => do pure (.iaddr none (← sizeOf? P e) (← opd x) (← opd i))
    | _ => none
  | .index t x i =>
    match P.underlying t with
    | some .string => do pure (.idxS (← opd x) (← opd i))
    | some (.array n e) => do pure (.idxA (← aggB P e) n (← sizeOf? P e) (← opd x) (← opd i))
    | _ => none
  | .extract x k => do pure (.extract (← opd x) k)
  | .range t x =>
    match P.underlying t with
    | some .string => do pure (.rangeS (← opd x))
    | _ => none
  | .next x true => do pure (.nextS (← opd x))
  | .makeFunc f first cap => do pure (.mkfn f (← first.toList.mapM opd) (← cap.toList.mapM opd))
  | .call c =>
    match c.callee with
    | .value (.func f) => if callOk P f then do pure (.call f (← c.args.toList.mapM opd)) else none
    | .value x => do pure (.callv (← opd x) (← c.args.toList.mapM opd))
    | .builtin .len =>
      match c.argTypes[0]?, c.args.toList with
      | some t, [x] =>
        match P.underlying t with
        | some .string => do pure (.len .str (← opd x))
        | some (.slice _) => do pure (.len .sl (← opd x))
        | some (.array n _) => do pure (.len (.arr n) (← opd x))
        | some (.map _ _) => do pure (.len .map (← opd x))
        | some (.pointer e) => match P.underlying e with
          | some (.array n _) => do pure (.len (.arr n) (← opd x))
          | _ => none
        | _ => none
      | _, _ => none
    | .builtin .append =>
      match c.argTypes.toList, c.args.toList with
      | [t, u], [x, y] =>
        match P.underlying t, P.underlying u with
        | some (.slice e), some (.slice _) | some (.slice e), some .string => do
          let s ← sizeOf? P e
          let i ← P.info? e
          let z ← zeros P e
          if 0 < s && z.length == s && 0 < i.bytes then pure (.append s i.bytes z (← opd x) (← opd y)) else none
        | _, _ => none
      | _, _ => none
    | .builtin .delete =>
      match c.argTypes[0]?, c.args.toList with
      | some t, [m, k] =>
        match P.underlying t with
        | some (.map kt _) => do pure (.mdel (← kkOf P kt) (← opd m) (← opd k))
        | _ => none
      | _, _ => none
    | .builtin .max => do pure (.maxi (← c.args.toList.mapM opd))
    | .builtin .min => do pure (.mini (← c.args.toList.mapM opd))
    | _ => none
  | _ => none

def compO (P : Program) (ops : Array Oper) (o : Oper) : Option Ai := do
  let i ← compI P o
  match o.guard with
  | none => pure ⟨o.dst, none, i⟩
  | some (j, want) =>
    let oj ← ops[j]?
    let d ← oj.dst
    pure ⟨o.dst, some (d, want), i⟩

def I.norm : I → I
  | .mkslice _ s n z p => .mkslice false s n z p
  | i => i
def Ai.norm (x : Ai) : Ai := { x with i := x.i.norm }

def deps (o : Oper) : List Nat := (o.after.toList.filter (Region.binds .any)).map (·.on)

def comp (P : Program) : Code → Option AC
  | .skip => some .skip
  | .region _ ops false => do pure (.ops (← ops.toList.mapM (compO P ops)))
  | .region _ ops true => do pure (.draw (← ops.toList.mapM (compO P ops)) (ops.toList.map deps) [] [])
  | .seq a b => do pure (.seq (← comp P a) (← comp P b))
  | .cond c a b => do pure (.cond (← opd c) (← comp P a) (← comp P b))
  | .block id a => do pure (.block id (← comp P a))
  | .loop a => do pure (.loop [] [] (← comp P a))
  | .exit id => some (.exit id)
  | .ret => some .ret
  | _ => none

def AC.norm : AC → AC
  | .ops l => .ops (l.map Ai.norm)
  | .draw l d _ _ => .draw (l.map Ai.norm) d [] []
  | .seq a b => .seq a.norm b.norm
  | .cond c a b => .cond c a.norm b.norm
  | .block id a => .block id a.norm
  | .loop _ _ a => .loop [] [] a.norm
  | c => c

/-! What is known, step by step. -/

def BB (b : Bool) (p q : Prop) : Prop := (b = true → p) ∧ (b = false → q)

def ev (fr : Frame) : Opd → AV
  | .tmp t => getS fr t
  | .lit a => a

def dm1 : AV → AV
  | .own _ es => .d (.slice es)
  | .exact es => .d (.slice es)
  | a => a
/-- what a callee is told of an argument: no row's end -/
def dm : AV → AV
  | .agg cs => .agg (cs.map dm1)
  | a => dm1 a
def toD : AV → Option D
  | .d x => some x
  | .own _ es => some (.slice es)
  | .exact es => some (.slice es)
  | _ => none
def toDs : List AV → Option (List D)
  | [] => some []
  | a :: l => match toD a, toDs l with | some x, some r => some (x :: r) | _, _ => none
/-- a value that is held by one cell -/
def sc : AV → Bool
  | .undef | .agg _ | .tup _ => false
  | _ => true
def cellsA : AV → Option (List AV)
  | .agg cs => some cs
  | .undef | .tup _ => none
  | a => some [a]
def splice {α : Type} (cs : List α) (off : Nat) (xs : List α) : List α := cs.take off ++ xs ++ cs.drop (off + xs.length)
def fillA (fr : Frame) : List AV → List (Nat × Nat × Opd) → Option (List AV)
  | cs, [] => some cs
  | cs, (off, s, x) :: r =>
    match cellsA (ev fr x) with
    | some xs => if xs.length = s ∧ off + s ≤ cs.length then fillA fr (splice cs off xs) r else none
    | none => none
def chunks {α : Type} (s : Nat) : Nat → List α → List (List α)
  | 0, _ => []
  | n + 1, l => l.take s :: chunks s n (l.drop s)
def rep {α : Type} (z : List α) : Nat → List α
  | 0 => []
  | n + 1 => z ++ rep z n

def intOp (op : BinOp) (k : IntKind) (a b : Int) : Option D :=
  match op with
  | .add => some (.int k (k.wrap (a + b)))
  | .sub => some (.int k (k.wrap (a - b)))
  | .mul => some (.int k (k.wrap (a * b)))
  | .and => some (.int k (k.wrap (BitVec.ofInt k.bits a &&& BitVec.ofInt k.bits b).toNat))
  | .or => some (.int k (k.wrap (BitVec.ofInt k.bits a ||| BitVec.ofInt k.bits b).toNat))
  | .xor => some (.int k (k.wrap (BitVec.ofInt k.bits a ^^^ BitVec.ofInt k.bits b).toNat))
  | .andNot => some (.int k (k.wrap (BitVec.ofInt k.bits a &&& ~~~BitVec.ofInt k.bits b).toNat))
  | .eql => some (.bool (a == b))
  | .neq => some (.bool (a != b))
  | .lss => some (.bool (decide (a < b)))
  | .leq => some (.bool (decide (a ≤ b)))
  | .gtr => some (.bool (decide (a > b)))
  | .geq => some (.bool (decide (a ≥ b)))
  | _ => none
def strOp (op : BinOp) (a b : List UInt8) : Option D :=
  match op with
  | .eql => some (.bool (a == b))
  | .neq => some (.bool (!(a == b)))
  | .lss => some (.bool (Op.bytesLess a b))
  | .leq => some (.bool (Op.bytesLess a b || a == b))
  | .gtr => some (.bool (!(Op.bytesLess a b || a == b)))
  | .geq => some (.bool (!Op.bytesLess a b))
  | _ => none
/-- two structs of integers -/
def intsEq : List AV → List AV → Option Bool
  | [], [] => some true
  | .d (.int k a) :: r, .d (.int k' b) :: s => if k = k' then (intsEq r s).map ((a == b) && ·) else none
  | _, _ => none
def binA (op : BinOp) (e : EK) (x y : AV) (K : AV → Prop) : Prop :=
  match e, x, y with
  | .plain, .d (.int k a), .d (.int k' b) =>
    match op with
    | .shl => 0 ≤ b ∧ K (.d (.int k (k.wrap (a * 2 ^ (min b.toNat k.bits)))))
    | .shr => 0 ≤ b ∧ K (.d (.int k (a.fdiv (2 ^ (min b.toNat k.bits)))))
    | .quo => k = k' ∧ b ≠ 0 ∧ K (.d (.int k (k.wrap (a.tdiv b))))
    | .rem => k = k' ∧ b ≠ 0 ∧ K (.d (.int k (a.tmod b)))
    | _ => k = k' ∧ match intOp op k a b with | some r => K (.d r) | none => False
  | .plain, .d (.str a), .d (.str b) =>
    match op with
    | .add => a.length + b.length ≤ 9223372036854775807 ∧ K (.d (.str (a ++ b)))
    | _ => match strOp op a b with | some r => K (.d r) | none => False
  | .bool, .d (.bool a), .d (.bool b) =>
    match op with
    | .eql => K (.d (.bool (a == b)))
    | .neq => K (.d (.bool (!(a == b))))
    | _ => False
  | .ptr, .box _ _, .d .nilp => match op with | .eql => K (.d (.bool false)) | .neq => K (.d (.bool true)) | _ => False
  | .ptr, .d .nilp, .box _ _ => match op with | .eql => K (.d (.bool false)) | .neq => K (.d (.bool true)) | _ => False
  | .ptr, .d .nilp, .d .nilp => match op with | .eql => K (.d (.bool true)) | .neq => K (.d (.bool false)) | _ => False
  | .map, .map _, .d .nilmap => match op with | .eql => K (.d (.bool false)) | .neq => K (.d (.bool true)) | _ => False
  | .map, .d .nilmap, .d .nilmap => match op with | .eql => K (.d (.bool true)) | .neq => K (.d (.bool false)) | _ => False
  | .ints n, .agg xs, .agg ys =>
    xs.length = n ∧ match intsEq xs ys with
    | some r => match op with | .eql => K (.d (.bool r)) | .neq => K (.d (.bool (!r))) | _ => False
    | none => False
  | _, _, _ => False

def unA (op : UnOp) (x : AV) (K : AV → Prop) : Prop :=
  match op, x with
  | .not, .d (.bool b) => K (.d (.bool (!b)))
  | .neg, .d (.int k n) => K (.d (.int k (k.wrap (0 - n))))
  | _, _ => False

def byteCell (b : UInt8) : List D := [.int .u8 b.toNat]
def bytesOf : List (List D) → Option (List UInt8)
  | [] => some []
  | [.int .u8 n] :: r => (bytesOf r).map (UInt8.ofNat n.toNat :: ·)
  | _ => none
def esOf : AV → Option (List (List D))
  | .d (.slice es) => some es
  | .own _ es => some es
  | .exact es => some es
  | _ => none
def intV : AV → Option Int
  | .d (.int _ n) => some n
  | _ => none

def callable (P : Program) (f : FuncId) : Prop := callOk P f = true

/-- what a call comes to -/
def CR (L : Nat → Loc) (σ : List AObj) (w : World) (K : AV → List AObj → Prop) : Ending → World → Prop
  | .returned v, w' => ∃ L' σ' r, Step L σ w L' σ' w' ∧ Sim L' σ' w' ∧ RV w' L' σ' r v ∧ K r σ'
  | .panicked _, _ => False
  | .outgrown, _ => False
def RVs (w : World) (L : Nat → Loc) (σ : List AObj) (as : List AV) (vs : List Value) : Prop :=
  vs.length = as.length ∧ ∀ (i : Nat) a v, as[i]? = some a → vs[i]? = some v → RV w L σ a v
def ACall (P : Program) (f : FuncId) (as : List AV) (σ : List AObj) (K : AV → List AObj → Prop) : Prop :=
  callOk P f = true ∧ ∀ L w vs, Sim L σ w → RVs w L σ as vs → Calls P f vs.toArray w (CR L σ w K)

def maxL : Int → List AV → Option Int
  | m, [] => some m
  | m, .d (.int _ n) :: r => maxL (if n > m then n else m) r
  | _, _ => none
def minL : Int → List AV → Option Int
  | m, [] => some m
  | m, .d (.int _ n) :: r => minL (if n < m then n else m) r
  | _, _ => none
def srcE (σ : List AObj) (sz : Nat) : AV → Option (List (List D))
  | .d (.slice es) => some es
  | .own _ es => some es
  | .exact es => some es
  | .d (.str s) => some (s.map byteCell)
  | .bsl id off len _ s => if s = sz then match σ[id]? with
    | some (.box cs) => if off + len * sz ≤ cs.length then (toDs ((cs.drop off).take (len * sz))).map (chunks sz len) else none
    | _ => none else none
  | _ => none

/-! what each operation comes to, of its operands' values -/
abbrev KT := AV → List AObj → Prop
def pickC (c a b : AV) (σ : List AObj) (K : KT) : Prop :=
  match c with
  | .d (.bool t) => BB t (K a σ) (K b σ)
  | _ => False
def boxC (x : AV) (σ : List AObj) (K : KT) : Prop :=
  match cellsA x with
  | some cs => K (.box σ.length 0) (σ ++ [.box cs])
  | none => False
def buildC (o : Option (List AV)) (σ : List AObj) (K : KT) : Prop :=
  match o with
  | some cs => K (.agg cs) σ
  | none => False
def mksliceC (mu : Bool) (s n : Nat) (o : Option (List AV)) (σ : List AObj) (K : KT) : Prop :=
  match o with
  | some cs =>
    if mu then K (.bsl σ.length 0 n n s) (σ ++ [.box cs]) else
    match toDs cs with
    | some ds => K (.exact (chunks s n ds)) σ
    | none => False
  | none => False
def loadC (agg : Bool) (n : Nat) (x : AV) (σ : List AObj) (K : KT) : Prop :=
  match x with
  | .box id off =>
    match σ[id]? with
    | some (.box cs) =>
      if agg then off + n ≤ cs.length ∧ K (.agg ((cs.drop off).take n)) σ else
      match cs[off]? with
      | some a => K a σ
      | none => False
    | _ => False
  | .vp cs =>
    if agg then n ≤ cs.length ∧ K (.agg ((cs.take n).map .d)) σ else
    match cs[0]? with
    | some x => K (.d x) σ
    | none => False
  | _ => False
def storeC (n : Nat) (x y : AV) (σ : List AObj) (K : KT) : Prop :=
  match x, cellsA y with
  | .box id off, some xs =>
    match σ[id]? with
    | some (.box cs) => xs.length = n ∧ off + n ≤ cs.length ∧ xs.all sc = true ∧ K (.tup []) (σ.set id (.box (splice cs off xs)))
    | _ => False
  | _, _ => False
def nilC (x : AV) (σ : List AObj) (K : KT) : Prop :=
  match x with
  | .box id off => K (.box id off) σ
  | .vp cs => K (.vp cs) σ
  | .fn (.func f) a b => K (.fn (.func f) a b) σ
  | _ => False
def convC (c : CK) (x : AV) (σ : List AObj) (K : KT) : Prop :=
  match c with
  | .int k =>
    match x with
    | .d (.int _ n) => K (.d (.int k (k.wrap n))) σ
    | _ => False
  | .toBytes =>
    match x with
    | .d (.str s) => K (.d (.slice (s.map byteCell))) σ
    | _ => False
  | .toStr =>
    match esOf x with
    | some es => match bytesOf es with
      | some s => K (.d (.str s)) σ
      | none => False
    | none => False
  | .same =>
    match x with
    | .d (.str s) => K (.d (.str s)) σ
    | _ => False
/-- an optional bound: absent, its default -/
def bnd (o : Option AV) (dflt : Nat) : Option Int :=
  match o with
  | none => some dflt
  | some x => intV x
def slcC (k : SK) (x : AV) (lo hi mx : Option AV) (σ : List AObj) (K : KT) : Prop :=
  match k with
  | .str =>
    match x with
    | .d (.str s) => match bnd lo 0, bnd hi s.length, mx with
      | some l, some h, none => 0 ≤ l ∧ l ≤ h ∧ h ≤ s.length ∧ K (.d (.str ((s.take h.toNat).drop l.toNat))) σ
      | _, _, _ => False
    | _ => False
  | .sl sz =>
    match esOf x with
    | some es => match bnd lo 0, bnd hi es.length with
      | some l, some h =>
        match mx with
        | none => 0 ≤ l ∧ l ≤ h ∧ h ≤ es.length ∧ (∀ e ∈ es, e.length = sz) ∧ K (.d (.slice ((es.take h.toNat).drop l.toNat))) σ
        | some m => hi.isSome = true ∧ intV m = some h ∧ 0 ≤ l ∧ l ≤ h ∧ h ≤ es.length ∧ (∀ e ∈ es, e.length = sz) ∧ K (.exact ((es.take h.toNat).drop l.toNat)) σ
      | _, _ => False
    | none =>
      match x with
      | .bsl id off len cap s => match bnd lo 0, bnd hi len, mx with
        | some l, some h, none => s = sz ∧ 0 ≤ l ∧ l ≤ h ∧ h ≤ cap ∧ l < cap ∧ K (.bsl id (off + l.toNat * sz) (h.toNat - l.toNat) (cap - l.toNat) sz) σ
        | _, _, _ => False
      | _ => False
  | .arr n sz =>
    match x with
    | .box id off => match bnd lo 0, bnd hi n, mx with
      | some l, some h, none => 0 ≤ l ∧ l ≤ h ∧ h ≤ n ∧ l < n ∧ K (.bsl id (off + l.toNat * sz) (h.toNat - l.toNat) (n - l.toNat) sz) σ
      | _, _, _ => False
    | _ => False
def faddrC (off : Nat) (x : AV) (σ : List AObj) (K : KT) : Prop :=
  match x with
  | .box id o => K (.box id (o + off)) σ
  | .vp cs => K (.vp (cs.drop off)) σ
  | _ => False
def fieldC (agg : Bool) (off n : Nat) (x : AV) (σ : List AObj) (K : KT) : Prop :=
  match x with
  | .agg cs =>
    if agg then off + n ≤ cs.length ∧ K (.agg ((cs.drop off).take n)) σ else
    match cs[off]? with
    | some a => K a σ
    | none => False
  | _ => False
def iaddrC (arr : Option Nat) (sz : Nat) (x i : AV) (σ : List AObj) (K : KT) : Prop :=
  match arr with
  | none =>
    match intV i with
    | some k =>
      match esOf x with
      | some es => match es[k.toNat]? with
        | some e => 0 ≤ k ∧ e.length = sz ∧ K (.vp e) σ
        | none => False
      | none =>
        match x with
        | .bsl id off len _ s => s = sz ∧ 0 ≤ k ∧ k < len ∧ K (.box id (off + k.toNat * sz)) σ
        | _ => False
    | none => False
  | some n =>
    match intV i, x with
    | some k, .box id off => 0 ≤ k ∧ k < n ∧ K (.box id (off + k.toNat * sz)) σ
    | _, _ => False
def idxSC (x i : AV) (σ : List AObj) (K : KT) : Prop :=
  match x, intV i with
  | .d (.str s), some k => match s[k.toNat]? with
    | some b => 0 ≤ k ∧ K (.d (.int .u8 b.toNat)) σ
    | none => False
  | _, _ => False
def idxAC (agg : Bool) (n sz : Nat) (x i : AV) (σ : List AObj) (K : KT) : Prop :=
  match x, intV i with
  | .agg cs, some k =>
    0 ≤ k ∧ k < n ∧
    if agg then k.toNat * sz + sz ≤ cs.length ∧ K (.agg ((cs.drop (k.toNat * sz)).take sz)) σ else
    match cs[k.toNat * sz]? with
    | some a => K a σ
    | none => False
  | _, _ => False
def extractC (x : AV) (k : Nat) (σ : List AObj) (K : KT) : Prop :=
  match x with
  | .tup vs => match vs[k]? with
    | some a => K a σ
    | none => False
  | _ => False
def lenC (k : LK) (x : AV) (σ : List AObj) (K : KT) : Prop :=
  match k with
  | .str =>
    match x with
    | .d (.str s) => K (.d (.int .i64 s.length)) σ
    | _ => False
  | .sl =>
    match esOf x with
    | some es => K (.d (.int .i64 es.length)) σ
    | none => match x with
      | .bsl _ _ len _ _ => K (.d (.int .i64 len)) σ
      | _ => False
  | .arr n => K (.d (.int .i64 n)) σ
  | .map => match x with
    | .map id => match σ[id]? with
      | some (.map es) => K (.d (.int .i64 es.length)) σ
      | _ => False
    | .d .nilmap => K (.d (.int .i64 0)) σ
    | _ => False
def appendC (sz bytes : Nat) (x y : AV) (σ : List AObj) (K : KT) : Prop :=
  match srcE σ sz y with
  | some ys =>
    (∀ e ∈ ys, e.length = sz) ∧
    match x with
    | .exact es => (∀ e ∈ es, e.length = sz) ∧ (es.length + ys.length) * bytes ≤ 140737488355328 ∧ K (.own σ.length (es ++ ys)) (σ ++ [.tok sz (es.length + ys.length)])
    | .own t es => (es.length + ys.length) * bytes ≤ 140737488355328 ∧ σ[t]? = some (.tok sz es.length) ∧ K (.own t (es ++ ys)) (σ.set t (.tok sz (es.length + ys.length)))
    | _ => False
  | none => False
def maxC (xs : List AV) (σ : List AObj) (K : KT) : Prop :=
  match xs with
  | .d (.int k n) :: r => match maxL n r with
    | some m => K (.d (.int k m)) σ
    | none => False
  | _ => False
def minC (xs : List AV) (σ : List AObj) (K : KT) : Prop :=
  match xs with
  | .d (.int k n) :: r => match minL n r with
    | some m => K (.d (.int k m)) σ
    | none => False
  | _ => False
def callvC (P : Program) (g : AV) (args : List AV) (σ : List AObj) (K : KT) : Prop :=
  match g with
  | .fn (.func f) first cap => ACall P f (first ++ args ++ cap) σ K
  | _ => False
def rangeC (x : AV) (σ : List AObj) (K : KT) : Prop :=
  match x with
  | .d (.str s) => K (.iter σ.length) (σ ++ [.iter s 0])
  | _ => False
def nextC (x : AV) (σ : List AObj) (K : KT) : Prop :=
  match x with
  | .iter id => match σ[id]? with
    | some (.iter s pos) =>
      if pos < s.length then K (.tup [.d (.bool true), .d (.int .i64 pos), .d (.int .i32 (Utf8.decode ⟨s.toArray⟩ pos).1)]) (σ.set id (.iter s (pos + (Utf8.decode ⟨s.toArray⟩ pos).2)))
      else K (.tup [.d (.bool false)]) σ
    | _ => False
  | _ => False

/-- is a slice nil? Of an empty one it is not known. -/
def isnilC (neg : Bool) (x : AV) (σ : List AObj) (K : KT) : Prop :=
  match esOf x with
  | some [] => K (.d (.bool true)) σ ∧ K (.d (.bool false)) σ
  | some (_ :: _) => K (.d (.bool neg)) σ
  | none => match x with
    | .bsl _ _ _ _ _ => K (.d (.bool neg)) σ
    | _ => False
/-- are two keys the same? none: they are not keys of this kind -/
def keyEq : KK → AV → AV → Option Bool
  | .int, .d (.int k a), .d (.int k' b) => if k = k' then some (a == b) else none
  | .str, .d (.str a), .d (.str b) => some (a == b)
  | .ints n, .agg xs, .agg ys => if xs.length = n then intsEq xs ys else none
  | _, _, _ => none
/-- the place and the value of a key -/
def mfind (kk : KK) (k : AV) : List (AV × AV) → Nat → Option (Option (Nat × AV))
  | [], _ => some none
  | e :: es, i => match keyEq kk k e.1 with
    | some true => some (some (i, e.2))
    | some false => mfind kk k es (i + 1)
    | none => none
def keyFit : KK → AV → Bool
  | .int, .d (.int _ _) => true
  | .str, .d (.str _) => true
  | .ints n, .agg xs => xs.length == n && (intsEq xs xs).isSome
  | _, _ => false
/-- a map's entries: those of nil are none -/
def entriesOf (m : AV) (σ : List AObj) : Option (List (AV × AV)) :=
  match m with
  | .map id => match σ[id]? with
    | some (.map es) => some es
    | _ => none
  | .d .nilmap => some []
  | _ => none
def mgetR (ok : Bool) (v : AV) (is : Bool) : AV :=
  match ok with
  | true => .tup [v, .d (.bool is)]
  | false => v
def mgetC (kk : KK) (ok : Bool) (z m k : AV) (σ : List AObj) (K : KT) : Prop :=
  match entriesOf m σ with
  | some es => keyFit kk k = true ∧ match mfind kk k es 0 with
    | some (some (_, v)) => K (mgetR ok v true) σ
    | some none => K (mgetR ok z false) σ
    | none => False
  | none => False
def msetC (kk : KK) (m k x : AV) (σ : List AObj) (K : KT) : Prop :=
  match m with
  | .map id => match σ[id]? with
    | some (.map es) => keyFit kk k = true ∧ match mfind kk k es 0 with
      | some (some (i, _)) => K (.tup []) (σ.set id (.map (es.set i (k, x))))
      | some none => K (.tup []) (σ.set id (.map (es ++ [(k, x)])))
      | none => False
    | _ => False
  | _ => False
def mdelC (kk : KK) (m k : AV) (σ : List AObj) (K : KT) : Prop :=
  match m with
  | .map id => match σ[id]? with
    | some (.map es) => keyFit kk k = true ∧ match mfind kk k es 0 with
      | some (some (i, _)) => K (.tup []) (σ.set id (.map (es.eraseIdx i)))
      | some none => K (.tup []) σ
      | none => False
    | _ => False
  | .d .nilmap => keyFit kk k = true ∧ K (.tup []) σ
  | _ => False

def astep (P : Program) (i : I) (fr : Frame) (σ : List AObj) (K : KT) : Prop :=
  match i with
  | .mv x => K (ev fr x) σ
  | .pick c a b => pickC (ev fr c) (ev fr a) (ev fr b) σ K
  | .alloc z => K (.box σ.length 0) (σ ++ [.box z])
  | .boxi x => boxC (ev fr x) σ K
  | .build z ps => buildC (fillA fr z ps) σ K
  | .mkslice mu s n z ps => mksliceC mu s n (fillA fr (rep z n) ps) σ K
  | .load agg n x => loadC agg n (ev fr x) σ K
  | .store n x y => storeC n (ev fr x) (ev fr y) σ K
  | .nilchk x => nilC (ev fr x) σ K
  | .bin op e x y => binA op e (ev fr x) (ev fr y) (fun a => K a σ)
  | .un op x => unA op (ev fr x) (fun a => K a σ)
  | .conv c x => convC c (ev fr x) σ K
  | .slc k x lo hi mx => slcC k (ev fr x) (lo.map (ev fr)) (hi.map (ev fr)) (mx.map (ev fr)) σ K
  | .faddr off x => faddrC off (ev fr x) σ K
  | .field agg off n x => fieldC agg off n (ev fr x) σ K
  | .iaddr arr sz x i => iaddrC arr sz (ev fr x) (ev fr i) σ K
  | .idxS x i => idxSC (ev fr x) (ev fr i) σ K
  | .idxA agg n sz x i => idxAC agg n sz (ev fr x) (ev fr i) σ K
  | .extract x k => extractC (ev fr x) k σ K
  | .len k x => lenC k (ev fr x) σ K
  | .append sz bytes _ x y => appendC sz bytes (ev fr x) (ev fr y) σ K
  | .maxi xs => maxC (xs.map (ev fr)) σ K
  | .mini xs => minC (xs.map (ev fr)) σ K
  | .call f args => ACall P f (args.map fun x => dm (ev fr x)) σ K
  | .callv g args => callvC P (ev fr g) (args.map fun x => dm (ev fr x)) σ K
  | .mkfn f first cap => K (.fn f (first.map (ev fr)) (cap.map (ev fr))) σ
  | .rangeS x => rangeC (ev fr x) σ K
  | .nextS x => nextC (ev fr x) σ K
  | .isnil neg x => isnilC neg (ev fr x) σ K
  | .mkmap => K (.map σ.length) (σ ++ [.map []])
  | .mget kk ok z m k => mgetC kk ok z (ev fr m) (ev fr k) σ K
  | .mset kk m k x => msetC kk (ev fr m) (ev fr k) (ev fr x) σ K
  | .mdel kk m k => mdelC kk (ev fr m) (ev fr k) σ K

def aput (fr : Frame) (dst : Option Nat) (a : AV) : Frame :=
  match dst with
  | some d => (d, a) :: fr
  | none => fr

/-- a guarded operation: done, or passed over -/
def guardC (g : AV) (want : Bool) (body : KT → Prop) (σ : List AObj) (K : KT) : Prop :=
  match g with
  | .d (.bool b) => BB (b == want) (body K) (K (.tup []) σ)
  | .tup [] => K (.tup []) σ
  | _ => False
/-- one operation, with its guard -/
def aop (P : Program) (x : Ai) (fr : Frame) (σ : List AObj) (K : Frame → List AObj → Prop) : Prop :=
  match x.g with
  | none => astep P x.i fr σ fun a σ' => K (aput fr x.dst a) σ'
  | some (s, want) => guardC (getS fr s) want (astep P x.i fr σ) σ fun a σ' => K (aput fr x.dst a) σ'

def aops (P : Program) : List Ai → Frame → List AObj → (Frame → List AObj → Prop) → Prop
  | [], fr, σ, K => K fr σ
  | x :: l, fr, σ, K => aop P x fr σ fun fr' σ' => aops P l fr' σ' K

/-- which may come next -/
def aready (after : List (List Nat)) (listed : List Bool) : List Nat :=
  (List.range after.length).filter fun i => !listed.getD i true && (after.getD i []).all fun j => listed.getD j false
/-- the operations of a region that draws its order, in whatever order -/
def aany (P : Program) (l : List Ai) (after : List (List Nat)) (K : Frame → List AObj → Prop) : Nat → List Bool → Frame → List AObj → Prop
  | 0, listed, fr, σ => aready after listed = [] ∧ K fr σ
  | n + 1, listed, fr, σ => (aready after listed = [] → K fr σ) ∧
    ∀ i ∈ aready after listed, match l[i]? with
      | some x => aop P x fr σ (aany P l after K n (listed.set i true))
      | none => False

/-- the slots of a loop's state -/
def setS : Frame → List Nat → List AV → Frame
  | fr, [], _ => fr
  | fr, i :: l, vs => setS ((i, vs.getD 0 .undef) :: fr) l (vs.drop 1)
def kill : Frame → List Nat → Frame
  | fr, [] => fr
  | fr, i :: l => kill ((i, .undef) :: fr) l
/-- A LOOP: an invariant that bears a number, which every round lowers. -/
def loopC (init : List AV) (σ : List AObj) (round : List AV → List AObj → (List AV → List AObj → Prop) → Prop) : Prop :=
  ∃ (I : Nat → List AV → List AObj → Prop) (n₀ : Nat), I n₀ init σ ∧ ∀ n vs σ', I n vs σ' → round vs σ' fun vs' s => ∃ n', n' < n ∧ I n' vs' s
def condC (c : AV) (p q : Prop) : Prop :=
  match c with
  | .d (.bool t) => BB t p q
  | _ => False

end Go.AW
