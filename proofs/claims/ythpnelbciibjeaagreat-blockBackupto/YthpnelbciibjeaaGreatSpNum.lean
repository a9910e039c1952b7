/- How a number is put: seven bits a byte. No program in sight. -/
import Derived.IntWalk
import Derived.Test.YthpnelbciibjeaaGreatAwEnd
import Derived.Test.YthpnelbciibjeaaGreatAwFun
set_option linter.all false
namespace Go.AW

def zbc (n : Nat) : List UInt8 := if n < 128 then [UInt8.ofNat n] else UInt8.ofNat (n % 128 + 128) :: zbc (n / 128)
termination_by n
decreasing_by omega

theorem zgj {n : Nat} (h : n < 128) : zbc n = [UInt8.ofNat n] := by rw [zbc, if_pos h]
theorem zlB {n : Nat} (h : ¬ n < 128) : zbc n = UInt8.ofNat (n % 128 + 128) :: zbc (n / 128) := by rw [zbc, if_neg h]
theorem numB_len : ∀ (k n : Nat), n < 128 ^ (k + 1) → 1 ≤ (zbc n).length ∧ (zbc n).length ≤ k + 1
  | 0, n, h => by rw [zgj (by simpa using h)]; simp
  | k + 1, n, h => by
    by_cases hs : n < 128
    · rw [zgj hs]; simp
    · rw [zlB hs]
      have := numB_len k (n / 128) (by rw [Nat.div_lt_iff_lt_mul (by omega)]; rw [Nat.pow_succ] at h; exact h)
      simp; omega
theorem zk {n : Nat} (h : n < 18446744073709551616) : 1 ≤ (zbc n).length ∧ (zbc n).length ≤ 10 := numB_len 9 n (by omega)

theorem or128 : ∀ x : Fin 256, (BitVec.ofInt 8 (x.val : Int) ||| BitVec.ofInt 8 128).toNat = x.val % 128 + 128 := by decide +kernel
theorem wrap8 (n : Nat) : IntKind.u8.wrap (n : Int) = ((n % 256 : Nat) : Int) := by
  simp [IntKind.wrap, IntKind.signed, IntKind.bits]
theorem znZ {n : Nat} (h : n < 256) : IntKind.u8.wrap (n : Int) = (n : Int) := by rw [wrap8, Nat.mod_eq_of_lt h]
theorem zbP {n : Nat} (h : n < 18446744073709551616) : IntKind.u64.wrap (n : Int) = (n : Int) := by
  simp [IntKind.wrap, IntKind.signed, IntKind.bits]
  omega
theorem zbb {n : Int} (h1 : -9223372036854775808 ≤ n) (h2 : n ≤ 9223372036854775807) : IntKind.i64.wrap n = n := IntWalk.i64_in n ⟨h1, h2⟩
theorem zkJ {n : Nat} (h : n < 256) : ((UInt8.ofNat n).toNat : Int) = (n : Int) := by
  simp; omega

structure TOp where
  kind : Int
  topic : List UInt8
  group : List UInt8
  offset : Int
  recs : List (List UInt8)
deriving DecidableEq

def zbM (rs : List (List UInt8)) : List (List D) := rs.map fun r => [D.slice (bcs r)]
def opA (o : TOp) : AV := .agg [.d (.int .i64 o.kind), .d (.str o.topic), .d (.str o.group), .d (.int .i64 o.offset), .d (.slice (zbM o.recs))]
def noOp : TOp := ⟨0, [], [], 0, []⟩

theorem zmb (rs : List (List UInt8)) : ∀ e ∈ zbM rs, e.length = 1 := by
  intro e he
  obtain ⟨r, _, rfl⟩ := List.mem_map.1 he
  rfl
theorem zE (rs : List (List UInt8)) : (zbM rs).length = rs.length := by simp [zbM]
theorem zhb {rs : List (List UInt8)} {k : Nat} {r : List UInt8} (h : rs[k]? = some r) : (zbM rs)[k]? = some [D.slice (bcs r)] := by simp [zbM, h]

def onlyF (o : TOp) : TOp :=
  if o.kind = 1 then { noOp with kind := o.kind, topic := o.topic }
  else if o.kind = 2 then { noOp with kind := o.kind, topic := o.topic, recs := o.recs }
  else if o.kind = 3 then { noOp with kind := o.kind, topic := o.topic, group := o.group, offset := o.offset }
  else if o.kind = 4 then { noOp with kind := o.kind, topic := o.topic, offset := o.offset }
  else { noOp with kind := o.kind }
def zhP (o : TOp) : Bool := decide (0 ≤ o.kind ∧ o.kind ≤ 4)
def zai (name : List UInt8 → Bool) (o : TOp) : Int :=
  if zhP o = false ∨ o ≠ onlyF o then 60
  else if o.kind ≠ 0 ∧ name o.topic = false then 61
  else if o.kind = 3 ∧ name o.group = false then 61
  else if o.kind = 2 ∧ (o.recs.length < 1 ∨ o.recs.length > 4 ∨ o.recs.any (fun r => decide (r.length > 64)) = true) then 62
  else if o.offset < 0 ∨ o.offset > 9007199254740992 then 60
  else 0

def zjl (x : List UInt8) : List UInt8 := zbc x.length ++ x
def zeD (rs : List (List UInt8)) : List UInt8 := (rs.map zjl).flatten
def opB (o : TOp) : List UInt8 :=
  zbc o.kind.toNat ++ ((if o.kind ≠ 0 then zjl o.topic else []) ++
    (if o.kind = 2 then zbc o.recs.length ++ zeD o.recs else if o.kind = 3 then zjl o.group ++ zbc o.offset.toNat else if o.kind = 4 then zbc o.offset.toNat else []))
theorem opB_0 {o : TOp} (h : o.kind = 0) : opB o = zbc o.kind.toNat := by simp [opB, h]
theorem opB_1 {o : TOp} (h : o.kind = 1) : opB o = zbc o.kind.toNat ++ (zbc o.topic.length ++ o.topic) := by simp [opB, h, zjl]
theorem opB_2 {o : TOp} (h : o.kind = 2) : opB o = zbc o.kind.toNat ++ (zbc o.topic.length ++ (o.topic ++ (zbc o.recs.length ++ zeD o.recs))) := by simp [opB, h, zjl]
theorem opB_3 {o : TOp} (h : o.kind = 3) : opB o = zbc o.kind.toNat ++ (zbc o.topic.length ++ (o.topic ++ (zbc o.group.length ++ (o.group ++ zbc o.offset.toNat)))) := by simp [opB, h, zjl]
theorem opB_4 {o : TOp} (h : o.kind = 4) : opB o = zbc o.kind.toNat ++ (zbc o.topic.length ++ (o.topic ++ zbc o.offset.toNat)) := by simp [opB, h, zjl]
def zme (o : TOp) : Nat := o.topic.length + o.group.length + (o.recs.map fun r => r.length + 10).sum
theorem zdB {x : List UInt8} (h : x.length < 18446744073709551616) : (zjl x).length ≤ x.length + 10 := by
  have := zk h
  simp only [zjl, List.length_append]; omega
theorem ziC (rs : List (List UInt8)) (h : (rs.map fun r => r.length + 10).sum ≤ 1073741824) : ∀ k, (zeD (rs.take k)).length ≤ (rs.map fun r => r.length + 10).sum := by
  have key : ∀ l : List (List UInt8), (l.map fun r => r.length + 10).sum ≤ 1073741824 → (zeD l).length ≤ (l.map fun r => r.length + 10).sum := by
    intro l
    induction l with
    | nil => simp [zeD]
    | cons r l ih =>
      intro h
      simp only [List.map_cons, List.sum_cons] at h ⊢
      have h1 := ih (by omega)
      have h2 := zdB (x := r) (by omega)
      simp only [zeD, List.map_cons, List.flatten_cons, List.length_append] at h1 ⊢
      omega
  have sum_take : ∀ (l : List (List UInt8)) k, ((l.take k).map fun r => r.length + 10).sum ≤ (l.map fun r => r.length + 10).sum := by
    intro l
    induction l with
    | nil => simp
    | cons r l ih =>
      intro k
      cases k with
      | zero => simp
      | succ k => simp only [List.take_succ_cons, List.map_cons, List.sum_cons]; have := ih k; omega
  intro k
  have h1 := sum_take rs k
  have := key (rs.take k) (by omega)
  omega
theorem recsB_snoc {rs : List (List UInt8)} {k : Nat} {r : List UInt8} (h : rs[k]? = some r) : zeD (rs.take (k + 1)) = zeD (rs.take k) ++ zjl r := by
  rw [List.take_add_one, h]; simp [zeD]
theorem ziP (rs : List (List UInt8)) : rs.length ≤ (rs.map fun r => r.length + 10).sum := by
  induction rs with
  | nil => simp
  | cons r l ih => simp only [List.map_cons, List.sum_cons, List.length_cons]; omega
theorem rec_le {rs : List (List UInt8)} {r : List UInt8} (h : r ∈ rs) : r.length ≤ (rs.map fun r => r.length + 10).sum := by
  induction rs with
  | nil => cases h
  | cons x l ih =>
    simp only [List.map_cons, List.sum_cons]
    rcases List.mem_cons.1 h with rfl | h
    · omega
    · have := ih h; omega
theorem check_ok {name : List UInt8 → Bool} {o : TOp} (h : zai name o = 0) : 0 ≤ o.kind ∧ o.kind ≤ 4 ∧ 0 ≤ o.offset ∧ o.offset ≤ 9007199254740992 ∧ o = onlyF o := by
  unfold zai zhP at h
  grind
theorem take_eq_of {α : Type} {a b : List α} (hl : a.length = b.length) {k : Nat} (hk : k = a.length) (h : a.take k = b.take k) : a = b := by
  rw [hk, List.take_length, hl, List.take_length] at h
  exact h
theorem take_succ_eq {α : Type} {a b : List α} {k : Nat} {x y : α} (ha : a[k]? = some x) (hb : b[k]? = some y) (h : a.take k = b.take k) (e : x = y) : a.take (k + 1) = b.take (k + 1) := by
  rw [List.take_add_one, List.take_add_one, ha, hb, h, e]

theorem list_as {α β : Type} {f : α → β} : ∀ {l : List β}, (∀ e ∈ l, ∃ a, e = f a) → ∃ as_ : List α, l = as_.map f
  | [], _ => ⟨[], rfl⟩
  | e :: l, h => by
    obtain ⟨a, rfl⟩ := h e List.mem_cons_self
    obtain ⟨as_, rfl⟩ := list_as (l := l) (fun x hx => h x (List.mem_cons_of_mem _ hx))
    exact ⟨a :: as_, rfl⟩
theorem fits1 {t : Ty} {d : D} (h : zeJ [t] [d]) : zjk t d := h.2 0 t d rfl rfl
theorem one_of {t : Ty} {ds : List D} (h : zeJ [t] ds) : ∃ d, ds = [d] ∧ zjk t d := by
  match ds, h with
  | [d], h => exact ⟨d, rfl, fits1 h⟩
theorem zgd {t : Ty} {ts : List Ty} {ds : List D} (h : zeJ (t :: ts) ds) : ∃ d ds', ds = d :: ds' ∧ zjk t d ∧ zeJ ts ds' := by
  match ds, h with
  | d :: ds', h => exact ⟨d, ds', rfl, h.2 0 t d rfl rfl, by have := h.1; simpa using this, fun i t d h1 h2 => h.2 (i + 1) t d h1 h2⟩
theorem tfits_nil {ds : List D} (h : zeJ [] ds) : ds = [] := by
  have := h.1; simpa using this
theorem dec_int {k : IntKind} {d : D} (h : zjk (.int k) d) : ∃ n, d = .int k n ∧ (Lit.int k n).wf = true := by cases h with | int _ n h => exact ⟨n, rfl, h⟩
theorem zmD {d : D} (h : zjk (.int .i64) d) : ∃ n, d = .int .i64 n ∧ -9223372036854775808 ≤ n ∧ n ≤ 9223372036854775807 := by
  obtain ⟨n, hd, h2⟩ := dec_int h
  exact ⟨n, hd, by simpa [Lit.wf, IntKind.min, IntKind.max, IntKind.signed, IntKind.bits] using h2⟩
theorem dec_u8 {d : D} (h : zjk (.int .u8) d) : ∃ b : UInt8, d = .int .u8 b.toNat := by
  obtain ⟨n, hd, h2⟩ := dec_int h
  have h' : 0 ≤ n ∧ n ≤ 255 := by simpa [Lit.wf, IntKind.min, IntKind.max, IntKind.signed, IntKind.bits] using h2
  exact ⟨UInt8.ofNat n.toNat, by rw [hd, zkJ (by omega)]; congr 1; omega⟩
theorem dec_slice {α : Type} {ts : List Ty} {d : D} {f : α → List D} (h : zjk (.slice ts) d) (hf : ∀ e, zeJ ts e → ∃ a, e = f a) : ∃ as_ : List α, d = .slice (as_.map f) := by
  cases h with
  | slice _ es h1 h2 h3 =>
    obtain ⟨as_, rfl⟩ := list_as (f := f) (fun e he => hf e ⟨h2 e he, h3 e he⟩)
    exact ⟨as_, rfl⟩
theorem dec_bytes {d : D} (h : zjk (.slice [.int .u8]) d) : ∃ bs, d = .slice (bcs bs) := dec_slice h fun e he => by
  obtain ⟨d, rfl, h⟩ := one_of he
  obtain ⟨b, rfl⟩ := dec_u8 h
  exact ⟨b, rfl⟩
theorem bulk_bcs (bs : List UInt8) : zjU (bcs bs) = bs.length := by
  induction bs with
  | nil => rfl
  | cons b bs ih => simp only [bcs, List.map_cons, zbm, zjU, zhv, znk, List.length_cons] at ih ⊢; omega
def i64r (n : Int) : Prop := -9223372036854775808 ≤ n ∧ n ≤ 9223372036854775807

structure zeu where
  key : Int
  dig : Int
deriving DecidableEq
structure zi where
  client : Int
  time : Int
  op : TOp
  key : Int
  dig : Int
deriving DecidableEq
structure TPrep where
  view : Int
  seq : Int
  dig : Int
  fkey : Int
  fdig : Int
  signs : List zeu
  batch : List zi
deriving DecidableEq
structure TCert where
  seq : Int
  dig : Int
  signs : List zeu
deriving DecidableEq
structure TChange where
  view : Int
  src : Int
  cert : TCert
  above : List TPrep
  key : Int
  dig : Int
deriving DecidableEq
structure TEntry where
  view : Int
  seq : Int
  batch : List zi
  key : Int
  dig : Int
deriving DecidableEq

def signD (s : zeu) : List D := [.int .i64 s.key, .int .i64 s.dig]
abbrev signsE (l : List zeu) : List (List D) := l.map signD
def zfW (x : zi) : List D := [.int .i64 x.client, .int .i64 x.time, .int .i64 x.op.kind, .str x.op.topic, .str x.op.group, .int .i64 x.op.offset, .slice (zbM x.op.recs), .int .i64 x.key, .int .i64 x.dig]
abbrev zlg (b : List zi) : List (List D) := b.map zfW
theorem one_len {α : Type} {f : α → List D} {n : Nat} (hf : ∀ a, (f a).length = n) (l : List α) : ∀ e ∈ l.map f, e.length = n := by
  intro e he
  obtain ⟨a, _, rfl⟩ := List.mem_map.1 he
  exact hf a
theorem batch_nine (l : List zi) : ∀ e ∈ zlg l, e.length = 9 := one_len (f := zfW) (fun _ => rfl) l
theorem zef {α : Type} {f : α → List D} {l : List α} {k : Nat} {x : α} (h : l[k]? = some x) : (l.map f)[k]? = some (f x) := by simp [h]
end Go.AW
