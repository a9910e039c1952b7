/- Contracts: bytes.Clone. -/
import Derived.Test.YtncpaekiidpchaaGreatSh
import Derived.Test.YtncpaekiidpchaaGreatAwEnd
import Derived.IntWalk
import Derived.Test.YtncpaekiidpchaaGreatAwRun
set_option linter.all false
set_option maxRecDepth 100000
namespace Go.Proofs.YtncpaekiidpchaaGreat
open Go.AW
theorem zuZ {σ : List zf} {es : List (List D)} {K : AV → List zf → Prop} (he : ∀ e ∈ es,e.length = 1) (hn : es.length ≤ 1073741824) (hK : K (.own σ.length es) (σ ++ [.tok 1 es.length])) : zL Tryz.prog zjB [.d (.slice es)] σ K := by
 refine zL.tok he ?_ hK
 refine zco znD.is rfl (fun s => if s.length = σ.length then [] else [σ.length]) fun hl _ => znD.goes ?_
 simp only [zoe,iN,bT,bF,eN,zad,zce]
 cases es with
 | nil =>
  refine ⟨?_, ?_⟩
  ·simp only [zQ,zH,zD]
   exact zmO (by simp) hl rfl (by simp)
  ·simp only [zQ,zu,zD,zV,rep,zr,zcv,zW,zt,zcp]
   refine ⟨by simp,by simp,by simp, ?_⟩
   exact ziG hl (by simp) (by simp)
 | cons e es =>
  simp only [zQ,zu,zD,zV,rep,zr,zcv,zW,zt,zcp]
  refine ⟨he,by simp,by simp at hn ⊢; omega, ?_⟩
  exact ziG hl (by simp) (by simp)
end Go.Proofs.YtncpaekiidpchaaGreat

/- How a number is put: seven bits a byte. No program in sight. -/
namespace Go.AW
def zcw (n : Nat) : List UInt8 := if n < 128 then [UInt8.ofNat n] else UInt8.ofNat (n % 128 + 128) :: zcw (n / 128)
termination_by n
decreasing_by omega
theorem zly {n : Nat} (h : n < 128) : zcw n = [UInt8.ofNat n] := by rw [zcw,if_pos h]
theorem zux {n : Nat} (h : ¬ n < 128) : zcw n = UInt8.ofNat (n % 128 + 128) :: zcw (n / 128) := by rw [zcw,if_neg h]
theorem numB_len : ∀ (k n : Nat),n < 128 ^ (k + 1) → 1 ≤ (zcw n).length ∧ (zcw n).length ≤ k + 1
 | 0,n,h => by rw [zly (by simpa using h)]; simp
 | k + 1,n,h => by
  by_cases hs : n < 128
  ·rw [zly hs]; simp
  ·rw [zux hs]
   have := numB_len k (n / 128) (by rw [Nat.div_lt_iff_lt_mul (by omega)]; rw [Nat.pow_succ] at h; exact h)
   simp; omega
theorem zJ {n : Nat} (h : n < 18446744073709551616) : 1 ≤ (zcw n).length ∧ (zcw n).length ≤ 10 := numB_len 9 n (by omega)
theorem or128 : ∀ x : Fin 256,(BitVec.ofInt 8 (x.val : Int) ||| BitVec.ofInt 8 128).toNat = x.val % 128 + 128 := by decide +kernel
theorem wrap8 (n : Nat) : IntKind.u8.wrap (n : Int) = ((n % 256 : Nat) : Int) := by
 simp [IntKind.wrap,IntKind.signed,IntKind.bits]
theorem zqh {n : Nat} (h : n < 256) : IntKind.u8.wrap (n : Int) = (n : Int) := by rw [wrap8,Nat.mod_eq_of_lt h]
theorem zcq {n : Nat} (h : n < 18446744073709551616) : IntKind.u64.wrap (n : Int) = (n : Int) := by
 simp [IntKind.wrap,IntKind.signed,IntKind.bits]
 omega
theorem zai {n : Int} (h1 : -9223372036854775808 ≤ n) (h2 : n ≤ 9223372036854775807) : IntKind.i64.wrap n = n := IntWalk.i64_in n ⟨h1,h2⟩
theorem zlM {n : Nat} (h : n < 256) : ((UInt8.ofNat n).toNat : Int) = (n : Int) := by
 simp; omega
end Go.AW

/- Operations: what the document says of them. No program in sight. -/
namespace Go.AW
structure TOp where
 kind : Int
 topic : List UInt8
 group : List UInt8
 offset : Int
 recs : List (List UInt8)
deriving DecidableEq
def zbR (rs : List (List UInt8)) : List (List D) := rs.map fun r => [D.slice (bcs r)]
def opA (o : TOp) : AV := .agg [.d (.int .i64 o.kind), .d (.str o.topic), .d (.str o.group), .d (.int .i64 o.offset), .d (.slice (zbR o.recs))]
def noOp : TOp := ⟨0, [], [], 0, []⟩
theorem zqH (rs : List (List UInt8)) : ∀ e ∈ zbR rs,e.length = 1 := by
 intro e he
 obtain ⟨r,_,rfl⟩ := List.mem_map.1 he
 rfl
theorem zx (rs : List (List UInt8)) : (zbR rs).length = rs.length := by simp [zbR]
theorem zis {rs : List (List UInt8)} {k : Nat} {r : List UInt8} (h : rs[k]? = some r) : (zbR rs)[k]? = some [D.slice (bcs r)] := by simp [zbR,h]
def onlyF (o : TOp) : TOp :=
 if o.kind = 1 then { noOp with kind := o.kind,topic := o.topic }
 else if o.kind = 2 then { noOp with kind := o.kind,topic := o.topic,recs := o.recs }
 else if o.kind = 3 then { noOp with kind := o.kind,topic := o.topic,group := o.group,offset := o.offset }
 else if o.kind = 4 then { noOp with kind := o.kind,topic := o.topic,offset := o.offset }
 else { noOp with kind := o.kind }
def zhL (o : TOp) : Bool := decide (0 ≤ o.kind ∧ o.kind ≤ 4)
def zbA (name : List UInt8 → Bool) (o : TOp) : Int :=
 if zhL o = false ∨ o ≠ onlyF o then 60
 else if o.kind ≠ 0 ∧ name o.topic = false then 61
 else if o.kind = 3 ∧ name o.group = false then 61
 else if o.kind = 2 ∧ (o.recs.length < 1 ∨ o.recs.length > 4 ∨ o.recs.any (fun r => decide (r.length > 64)) = true) then 62
 else if o.offset < 0 ∨ o.offset > 9007199254740992 then 60
 else 0
def znf (x : List UInt8) : List UInt8 := zcw x.length ++ x
def zkm (rs : List (List UInt8)) : List UInt8 := (rs.map znf).flatten
def opB (o : TOp) : List UInt8 :=
 zcw o.kind.toNat ++ ((if o.kind ≠ 0 then znf o.topic else []) ++
  (if o.kind = 2 then zcw o.recs.length ++ zkm o.recs else if o.kind = 3 then znf o.group ++ zcw o.offset.toNat else if o.kind = 4 then zcw o.offset.toNat else []))
theorem opB_0 {o : TOp} (h : o.kind = 0) : opB o = zcw o.kind.toNat := by simp [opB,h]
theorem opB_1 {o : TOp} (h : o.kind = 1) : opB o = zcw o.kind.toNat ++ (zcw o.topic.length ++ o.topic) := by simp [opB,h,znf]
theorem opB_2 {o : TOp} (h : o.kind = 2) : opB o = zcw o.kind.toNat ++ (zcw o.topic.length ++ (o.topic ++ (zcw o.recs.length ++ zkm o.recs))) := by simp [opB,h,znf]
theorem opB_3 {o : TOp} (h : o.kind = 3) : opB o = zcw o.kind.toNat ++ (zcw o.topic.length ++ (o.topic ++ (zcw o.group.length ++ (o.group ++ zcw o.offset.toNat)))) := by simp [opB,h,znf]
theorem opB_4 {o : TOp} (h : o.kind = 4) : opB o = zcw o.kind.toNat ++ (zcw o.topic.length ++ (o.topic ++ zcw o.offset.toNat)) := by simp [opB,h,znf]
def zkq (o : TOp) : Nat := o.topic.length + o.group.length + (o.recs.map fun r => r.length + 10).sum
theorem zeS {x : List UInt8} (h : x.length < 18446744073709551616) : (znf x).length ≤ x.length + 10 := by
 have := zJ h
 simp only [znf,List.length_append]; omega
theorem zlT (rs : List (List UInt8)) (h : (rs.map fun r => r.length + 10).sum ≤ 1073741824) : ∀ k,(zkm (rs.take k)).length ≤ (rs.map fun r => r.length + 10).sum := by
 have key : ∀ l : List (List UInt8),(l.map fun r => r.length + 10).sum ≤ 1073741824 → (zkm l).length ≤ (l.map fun r => r.length + 10).sum := by
  intro l
  induction l with
  | nil => simp [zkm]
  | cons r l ih =>
   intro h
   simp only [List.map_cons,List.sum_cons] at h ⊢
   have h1 := ih (by omega)
   have h2 := zeS (x := r) (by omega)
   simp only [zkm,List.map_cons,List.flatten_cons,List.length_append] at h1 ⊢
   omega
 have zuk : ∀ (l : List (List UInt8)) k,((l.take k).map fun r => r.length + 10).sum ≤ (l.map fun r => r.length + 10).sum := by
  intro l
  induction l with
  | nil => simp
  | cons r l ih =>
   intro k
   cases k with
   | zero => simp
   | succ k => simp only [List.take_succ_cons,List.map_cons,List.sum_cons]; have := ih k; omega
 intro k
 have h1 := zuk rs k
 have := key (rs.take k) (by omega)
 omega
theorem recsB_snoc {rs : List (List UInt8)} {k : Nat} {r : List UInt8} (h : rs[k]? = some r) : zkm (rs.take (k + 1)) = zkm (rs.take k) ++ znf r := by
 rw [List.take_add_one,h]; simp [zkm]
theorem zjo (rs : List (List UInt8)) : rs.length ≤ (rs.map fun r => r.length + 10).sum := by
 induction rs with
 | nil => simp
 | cons r l ih => simp only [List.map_cons,List.sum_cons,List.length_cons]; omega
theorem rec_le {rs : List (List UInt8)} {r : List UInt8} (h : r ∈ rs) : r.length ≤ (rs.map fun r => r.length + 10).sum := by
 induction rs with
 | nil => cases h
 | cons x l ih =>
  simp only [List.map_cons,List.sum_cons]
  rcases List.mem_cons.1 h with rfl | h
  ·omega
  ·have := ih h; omega
theorem check_ok {name : List UInt8 → Bool} {o : TOp} (h : zbA name o = 0) : 0 ≤ o.kind ∧ o.kind ≤ 4 ∧ 0 ≤ o.offset ∧ o.offset ≤ 9007199254740992 ∧ o = onlyF o := by
 unfold zbA zhL at h
 grind
theorem zlr {α : Type} {a b : List α} (hl : a.length = b.length) {k : Nat} (hk : k = a.length) (h : a.take k = b.take k) : a = b := by
 rw [hk,List.take_length,hl,List.take_length] at h
 exact h
theorem zhI {α : Type} {a b : List α} {k : Nat} {x y : α} (ha : a[k]? = some x) (hb : b[k]? = some y) (h : a.take k = b.take k) (e : x = y) : a.take (k + 1) = b.take (k + 1) := by
 rw [List.take_add_one,List.take_add_one,ha,hb,h,e]
end Go.AW

/- Arguments of known types as data of the document. -/
namespace Go.AW
theorem list_as {α β : Type} {f : α → β} : ∀ {l : List β},(∀ e ∈ l, ∃ a,e = f a) → ∃ as_ : List α,l = as_.map f
 | [],_ => ⟨[],rfl⟩
 | e :: l,h => by
  obtain ⟨a,rfl⟩ := h e List.mem_cons_self
  obtain ⟨as_,rfl⟩ := list_as (l := l) (fun x hx => h x (List.mem_cons_of_mem _ hx))
  exact ⟨a :: as_,rfl⟩
theorem fits1 {t : Ty} {d : D} (h : zdm [t] [d]) : zhx t d := h.2 0 t d rfl rfl
theorem one_of {t : Ty} {ds : List D} (h : zdm [t] ds) : ∃ d,ds = [d] ∧ zhx t d := by
 match ds,h with
 | [d],h => exact ⟨d,rfl,fits1 h⟩
theorem zac {t : Ty} {ts : List Ty} {ds : List D} (h : zdm (t :: ts) ds) : ∃ d ds',ds = d :: ds' ∧ zhx t d ∧ zdm ts ds' := by
 match ds,h with
 | d :: ds',h => exact ⟨d,ds',rfl,h.2 0 t d rfl rfl,by have := h.1; simpa using this,fun i t d h1 h2 => h.2 (i + 1) t d h1 h2⟩
theorem zfK {ds : List D} (h : zdm [] ds) : ds = [] := by
 have := h.1; simpa using this
theorem dec_int {k : IntKind} {d : D} (h : zhx (.int k) d) : ∃ n,d = .int k n ∧ (Lit.int k n).wf = true := by cases h with | int _ n h => exact ⟨n,rfl,h⟩
theorem zcc {d : D} (h : zhx (.int .i64) d) : ∃ n,d = .int .i64 n ∧ -9223372036854775808 ≤ n ∧ n ≤ 9223372036854775807 := by
 obtain ⟨n,hd,h2⟩ := dec_int h
 exact ⟨n,hd,by simpa [Lit.wf,IntKind.min,IntKind.max,IntKind.signed,IntKind.bits] using h2⟩
theorem dec_u8 {d : D} (h : zhx (.int .u8) d) : ∃ b : UInt8,d = .int .u8 b.toNat := by
 obtain ⟨n,hd,h2⟩ := dec_int h
 have h' : 0 ≤ n ∧ n ≤ 255 := by simpa [Lit.wf,IntKind.min,IntKind.max,IntKind.signed,IntKind.bits] using h2
 exact ⟨UInt8.ofNat n.toNat,by rw [hd,zlM (by omega)]; congr 1; omega⟩
theorem zpc {d : D} (h : zhx .str d) : ∃ s,d = .str s := by cases h with | str s _ => exact ⟨s,rfl⟩
theorem znI {α : Type} {ts : List Ty} {d : D} {f : α → List D} (h : zhx (.slice ts) d) (hf : ∀ e,zdm ts e → ∃ a,e = f a) : ∃ as_ : List α,d = .slice (as_.map f) := by
 cases h with
 | slice _ es h1 h2 h3 =>
  obtain ⟨as_,rfl⟩ := list_as (f := f) (fun e he => hf e ⟨h2 e he,h3 e he⟩)
  exact ⟨as_,rfl⟩
theorem zru {d : D} (h : zhx (.slice [.int .u8]) d) : ∃ bs,d = .slice (bcs bs) := znI h fun e he => by
 obtain ⟨d,rfl,h⟩ := one_of he
 obtain ⟨b,rfl⟩ := dec_u8 h
 exact ⟨b,rfl⟩
theorem dec_recs {d : D} (h : zhx (.slice [.slice [.int .u8]]) d) : ∃ rs,d = .slice (zbR rs) := znI h fun e he => by
 obtain ⟨d,rfl,h⟩ := one_of he
 obtain ⟨b,rfl⟩ := zru h
 exact ⟨b,rfl⟩
theorem zvd (bs : List UInt8) : zdO (bcs bs) = bs.length := by
 induction bs with
 | nil => rfl
 | cons b bs ih => simp only [bcs,List.map_cons,zbP,zdO,zdf,zfE,List.length_cons] at ih ⊢; omega
theorem bulk_recs (rs : List (List UInt8)) : zdO (zbR rs) = (rs.map fun r => r.length + 1).sum := by
 induction rs with
 | nil => rfl
 | cons r rs ih => simp only [zbR,List.map_cons,zdO,zdf,zfE,List.sum_cons,zvd] at ih ⊢; omega
def zmK (n : Int) : Prop := -9223372036854775808 ≤ n ∧ n ≤ 9223372036854775807
def opR (o : TOp) : Prop := zmK o.kind ∧ zmK o.offset
def opD (o : TOp) : List D := [.int .i64 o.kind, .str o.topic, .str o.group, .int .i64 o.offset, .slice (zbR o.recs)]
theorem opSz_bulk (o : TOp) : zkq o ≤ 10 * zdf (opD o) := by
 have : (o.recs.map fun r => r.length + 10).sum ≤ 10 * (o.recs.map fun r => r.length + 1).sum := by
  induction o.recs with
  | nil => simp
  | cons r rs ih => simp only [List.map_cons,List.sum_cons]; omega
 simp only [zkq,opD,zdf,zfE,bulk_recs]
 omega
end Go.AW

/- Requests, batches, certificates, view-changes: what the document holds, as data. No program in sight. -/
namespace Go.AW
structure zae where
 key : Int
 dig : Int
deriving DecidableEq
structure zA where
 client : Int
 time : Int
 op : TOp
 key : Int
 dig : Int
deriving DecidableEq
structure TPrep where
 view : Int
 seq : Int
 dig : Int
 fkey : Int
 fdig : Int
 signs : List zae
 batch : List zA
deriving DecidableEq
structure zfF where
 seq : Int
 dig : Int
 signs : List zae
deriving DecidableEq
structure TChange where
 view : Int
 src : Int
 cert : zfF
 above : List TPrep
 key : Int
 dig : Int
deriving DecidableEq
structure TEntry where
 view : Int
 seq : Int
 batch : List zA
 key : Int
 dig : Int
deriving DecidableEq
def zgE (s : zae) : List D := [.int .i64 s.key, .int .i64 s.dig]
abbrev zaz (l : List zae) : List (List D) := l.map zgE
def zeQ (x : zA) : List D := [.int .i64 x.client, .int .i64 x.time, .int .i64 x.op.kind, .str x.op.topic, .str x.op.group, .int .i64 x.op.offset, .slice (zbR x.op.recs), .int .i64 x.key, .int .i64 x.dig]
abbrev zfV (b : List zA) : List (List D) := b.map zeQ
def certD (c : zfF) : List D := [.int .i64 c.seq, .int .i64 c.dig, .slice (zaz c.signs)]
def entryD (x : TEntry) : List D := [.int .i64 x.view, .int .i64 x.seq, .slice (zfV x.batch), .int .i64 x.key, .int .i64 x.dig]
abbrev entriesE (l : List TEntry) : List (List D) := l.map entryD
theorem zgV {α : Type} {f : α → List D} {n : Nat} (hf : ∀ a,(f a).length = n) (l : List α) : ∀ e ∈ l.map f,e.length = n := by
 intro e he
 obtain ⟨a,_,rfl⟩ := List.mem_map.1 he
 exact hf a
theorem zaf {α : Type} {f : α → List D} {l : List α} {k : Nat} {x : α} (h : l[k]? = some x) : (l.map f)[k]? = some (f x) := by simp [h]
def tySign : List Ty := [.int .i64, .int .i64]
def zuh : List Ty := [.int .i64, .int .i64, .int .i64, .str, .str, .int .i64, .slice [.slice [.int .u8]], .int .i64, .int .i64]
def signR (s : zae) : Prop := zmK s.key ∧ zmK s.dig
def zum (x : zA) : Prop := zmK x.client ∧ zmK x.time ∧ opR x.op ∧ zmK x.key ∧ zmK x.dig
theorem zlF {α : Type} {ts : List Ty} {d : D} {f : α → List D} {R : α → Prop} (h : zhx (.slice ts) d) (hf : ∀ e,zdm ts e → ∃ a,e = f a ∧ R a) : ∃ as_ : List α,d = .slice (as_.map f) ∧ ∀ a ∈ as_,R a := by
 cases h with
 | slice _ es h1 h2 h3 =>
  have : ∀ l : List (List D),(∀ e ∈ l,zdm ts e) → ∃ as_ : List α,l = as_.map f ∧ ∀ a ∈ as_,R a := by
   intro l
   induction l with
   | nil => intro _; exact ⟨[],rfl,by simp⟩
   | cons e l ih =>
    intro hl
    obtain ⟨a,rfl,ha⟩ := hf e (hl e (.head _))
    obtain ⟨as_,rfl,has⟩ := ih fun e he => hl e (.tail _ he)
    exact ⟨a :: as_,rfl,by simpa using ⟨ha,has⟩⟩
  obtain ⟨as_,rfl,h4⟩ := this es (fun e he => ⟨h2 e he,h3 e he⟩)
  exact ⟨as_,rfl,h4⟩
theorem dec_sign {ds : List D} (h : zdm tySign ds) : ∃ s : zae,ds = zgE s ∧ signR s := by
 obtain ⟨d1,ds,rfl,h1,h⟩ := zac h
 obtain ⟨d2,ds,rfl,h2,h⟩ := zac h
 obtain rfl := zfK h
 obtain ⟨a,rfl,ha⟩ := zcc h1
 obtain ⟨b,rfl,hb⟩ := zcc h2
 exact ⟨⟨a,b⟩,rfl,ha,hb⟩
theorem dec_signed {ds : List D} (h : zdm zuh ds) : ∃ s : zA,ds = zeQ s ∧ zum s := by
 obtain ⟨d1,ds,rfl,h1,h⟩ := zac h
 obtain ⟨d2,ds,rfl,h2,h⟩ := zac h
 obtain ⟨d3,ds,rfl,h3,h⟩ := zac h
 obtain ⟨d4,ds,rfl,h4,h⟩ := zac h
 obtain ⟨d5,ds,rfl,h5,h⟩ := zac h
 obtain ⟨d6,ds,rfl,h6,h⟩ := zac h
 obtain ⟨d7,ds,rfl,h7,h⟩ := zac h
 obtain ⟨d8,ds,rfl,h8,h⟩ := zac h
 obtain ⟨d9,ds,rfl,h9,h⟩ := zac h
 obtain rfl := zfK h
 obtain ⟨a1,rfl,k1⟩ := zcc h1
 obtain ⟨a2,rfl,k2⟩ := zcc h2
 obtain ⟨a3,rfl,k3⟩ := zcc h3
 obtain ⟨a4,rfl⟩ := zpc h4
 obtain ⟨a5,rfl⟩ := zpc h5
 obtain ⟨a6,rfl,k6⟩ := zcc h6
 obtain ⟨a7,rfl⟩ := dec_recs h7
 obtain ⟨a8,rfl,k8⟩ := zcc h8
 obtain ⟨a9,rfl,k9⟩ := zcc h9
 exact ⟨⟨a1,a2,⟨a3,a4,a5,a6,a7⟩,a8,a9⟩,rfl,k1,k2,⟨k3,k6⟩,k8,k9⟩
end Go.AW
