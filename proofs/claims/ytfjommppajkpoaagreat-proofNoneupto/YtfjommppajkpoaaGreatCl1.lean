/- Contracts: bytes.Clone. -/
import Derived.Test.YtfjommppajkpoaaGreatSh
import Derived.Test.YtfjommppajkpoaaGreatAwEnd
import Derived.IntWalk
import Derived.Test.YtfjommppajkpoaaGreatAwTop
set_option linter.all false
set_option maxRecDepth 100000
namespace Go.Proofs.YtfjommppajkpoaaGreat
open Go.AW
theorem zvr {σ : List zg} {es : List (List D)} {K : KT} (he : ∀ e ∈ es,e.length = 1) (hn : es.length ≤ 1073741824) (hK : K (.own σ.length es) (σ ++ [.tok 1 es.length])) : zq Tryz.prog zjt [.d (.slice es)] σ K := by
 refine zq.tok he ?_ hK
 refine zct znN.is rfl (fun s => if s.length = σ.length then [] else [σ.length]) fun hl _ => znN.goes ?_
 simp only [zol,iN,bT,bF,eN,zav,zei]
 cases es with
 | nil =>
  refine ⟨?_, ?_⟩
  ·simp only [zac,zS,zB]
   exact zrr (by simp) hl rfl (by simp)
  ·simp only [zac,zE,zB,zP,rep,zu,zfc,zah,zy,zeE]
   refine ⟨by simp,by simp,by simp, ?_⟩
   exact ziH hl (by simp) (by simp)
 | cons e es =>
  simp only [zac,zE,zB,zP,rep,zu,zfc,zah,zy,zeE]
  refine ⟨he,by simp,by simp at hn ⊢; omega, ?_⟩
  exact ziH hl (by simp) (by simp)
end Go.Proofs.YtfjommppajkpoaaGreat

/- How a number is put: seven bits a byte. No program in sight. -/
namespace Go.AW
def zcn (n : Nat) : List UInt8 := if n < 128 then [UInt8.ofNat n] else UInt8.ofNat (n % 128 + 128) :: zcn (n / 128)
termination_by n
decreasing_by omega
theorem zly {n : Nat} (h : n < 128) : zcn n = [UInt8.ofNat n] := by rw [zcn,if_pos h]
theorem zuB {n : Nat} (h : ¬ n < 128) : zcn n = UInt8.ofNat (n % 128 + 128) :: zcn (n / 128) := by rw [zcn,if_neg h]
theorem numB_len : ∀ (k n : Nat),n < 128 ^ (k + 1) → 1 ≤ (zcn n).length ∧ (zcn n).length ≤ k + 1
 | 0,n,h => by rw [zly (by simpa using h)]; simp
 | k + 1,n,h => by
  by_cases hs : n < 128
  ·rw [zly hs]; simp
  ·rw [zuB hs]
   have := numB_len k (n / 128) (by rw [Nat.div_lt_iff_lt_mul (by omega)]; rw [Nat.pow_succ] at h; exact h)
   simp; omega
theorem zt {n : Nat} (h : n < 18446744073709551616) : 1 ≤ (zcn n).length ∧ (zcn n).length ≤ 10 := numB_len 9 n (by omega)
theorem or128 : ∀ x : Fin 256,(BitVec.ofInt 8 (x.val : Int) ||| BitVec.ofInt 8 128).toNat = x.val % 128 + 128 := by decide +kernel
theorem wrap8 (n : Nat) : IntKind.u8.wrap (n : Int) = ((n % 256 : Nat) : Int) := by
 simp [IntKind.wrap,IntKind.signed,IntKind.bits]
theorem zqo {n : Nat} (h : n < 256) : IntKind.u8.wrap (n : Int) = (n : Int) := by rw [wrap8,Nat.mod_eq_of_lt h]
theorem zci {n : Nat} (h : n < 18446744073709551616) : IntKind.u64.wrap (n : Int) = (n : Int) := by
 simp [IntKind.wrap,IntKind.signed,IntKind.bits]
 omega
theorem zJ {n : Int} (h1 : -9223372036854775808 ≤ n) (h2 : n ≤ 9223372036854775807) : IntKind.i64.wrap n = n := IntWalk.i64_in n ⟨h1,h2⟩
theorem zlJ {n : Nat} (h : n < 256) : ((UInt8.ofNat n).toNat : Int) = (n : Int) := by
 simp; omega
structure TOp where
 kind : Int
 topic : List UInt8
 group : List UInt8
 offset : Int
 recs : List (List UInt8)
deriving DecidableEq
def zcj (rs : List (List UInt8)) : List (List D) := rs.map fun r => [D.slice (bcs r)]
def opA (o : TOp) : AV := .agg [.d (.int .i64 o.kind), .d (.str o.topic), .d (.str o.group), .d (.int .i64 o.offset), .d (.slice (zcj o.recs))]
def noOp : TOp := ⟨0, [], [], 0, []⟩
theorem zqR (rs : List (List UInt8)) : ∀ e ∈ zcj rs,e.length = 1 := by
 intro e he
 obtain ⟨r,_,rfl⟩ := List.mem_map.1 he
 rfl
theorem zH (rs : List (List UInt8)) : (zcj rs).length = rs.length := by simp [zcj]
theorem znm {rs : List (List UInt8)} {k : Nat} {r : List UInt8} (h : rs[k]? = some r) : (zcj rs)[k]? = some [D.slice (bcs r)] := by simp [zcj,h]
def onlyF (o : TOp) : TOp :=
 if o.kind = 1 then { noOp with kind := o.kind,topic := o.topic }
 else if o.kind = 2 then { noOp with kind := o.kind,topic := o.topic,recs := o.recs }
 else if o.kind = 3 then { noOp with kind := o.kind,topic := o.topic,group := o.group,offset := o.offset }
 else if o.kind = 4 then { noOp with kind := o.kind,topic := o.topic,offset := o.offset }
 else { noOp with kind := o.kind }
def zhN (o : TOp) : Bool := decide (0 ≤ o.kind ∧ o.kind ≤ 4)
def zbj (name : List UInt8 → Bool) (o : TOp) : Int :=
 if zhN o = false ∨ o ≠ onlyF o then 60
 else if o.kind ≠ 0 ∧ name o.topic = false then 61
 else if o.kind = 3 ∧ name o.group = false then 61
 else if o.kind = 2 ∧ (o.recs.length < 1 ∨ o.recs.length > 4 ∨ o.recs.any (fun r => decide (r.length > 64)) = true) then 62
 else if o.offset < 0 ∨ o.offset > 9007199254740992 then 60
 else 0
def znn (x : List UInt8) : List UInt8 := zcn x.length ++ x
def zkc (rs : List (List UInt8)) : List UInt8 := (rs.map znn).flatten
def opB (o : TOp) : List UInt8 :=
 zcn o.kind.toNat ++ ((if o.kind ≠ 0 then znn o.topic else []) ++
  (if o.kind = 2 then zcn o.recs.length ++ zkc o.recs else if o.kind = 3 then znn o.group ++ zcn o.offset.toNat else if o.kind = 4 then zcn o.offset.toNat else []))
theorem opB_0 {o : TOp} (h : o.kind = 0) : opB o = zcn o.kind.toNat := by simp [opB,h]
theorem opB_1 {o : TOp} (h : o.kind = 1) : opB o = zcn o.kind.toNat ++ (zcn o.topic.length ++ o.topic) := by simp [opB,h,znn]
theorem opB_2 {o : TOp} (h : o.kind = 2) : opB o = zcn o.kind.toNat ++ (zcn o.topic.length ++ (o.topic ++ (zcn o.recs.length ++ zkc o.recs))) := by simp [opB,h,znn]
theorem opB_3 {o : TOp} (h : o.kind = 3) : opB o = zcn o.kind.toNat ++ (zcn o.topic.length ++ (o.topic ++ (zcn o.group.length ++ (o.group ++ zcn o.offset.toNat)))) := by simp [opB,h,znn]
theorem opB_4 {o : TOp} (h : o.kind = 4) : opB o = zcn o.kind.toNat ++ (zcn o.topic.length ++ (o.topic ++ zcn o.offset.toNat)) := by simp [opB,h,znn]
def zmd (o : TOp) : Nat := o.topic.length + o.group.length + (o.recs.map fun r => r.length + 10).sum
theorem zeK {x : List UInt8} (h : x.length < 18446744073709551616) : (znn x).length ≤ x.length + 10 := by
 have := zt h
 simp only [znn,List.length_append]; omega
theorem zmb (rs : List (List UInt8)) (h : (rs.map fun r => r.length + 10).sum ≤ 1073741824) : ∀ k,(zkc (rs.take k)).length ≤ (rs.map fun r => r.length + 10).sum := by
 have key : ∀ l : List (List UInt8),(l.map fun r => r.length + 10).sum ≤ 1073741824 → (zkc l).length ≤ (l.map fun r => r.length + 10).sum := by
  intro l
  induction l with
  | nil => simp [zkc]
  | cons r l ih =>
   intro h
   simp only [List.map_cons,List.sum_cons] at h ⊢
   have h1 := ih (by omega)
   have h2 := zeK (x := r) (by omega)
   simp only [zkc,List.map_cons,List.flatten_cons,List.length_append] at h1 ⊢
   omega
 have zuq : ∀ (l : List (List UInt8)) k,((l.take k).map fun r => r.length + 10).sum ≤ (l.map fun r => r.length + 10).sum := by
  intro l
  induction l with
  | nil => simp
  | cons r l ih =>
   intro k
   cases k with
   | zero => simp
   | succ k => simp only [List.take_succ_cons,List.map_cons,List.sum_cons]; have := ih k; omega
 intro k
 have h1 := zuq rs k
 have := key (rs.take k) (by omega)
 omega
theorem recsB_snoc {rs : List (List UInt8)} {k : Nat} {r : List UInt8} (h : rs[k]? = some r) : zkc (rs.take (k + 1)) = zkc (rs.take k) ++ znn r := by
 rw [List.take_add_one,h]; simp [zkc]
theorem zjf (rs : List (List UInt8)) : rs.length ≤ (rs.map fun r => r.length + 10).sum := by
 induction rs with
 | nil => simp
 | cons r l ih => simp only [List.map_cons,List.sum_cons,List.length_cons]; omega
theorem rec_le {rs : List (List UInt8)} {r : List UInt8} (h : r ∈ rs) : r.length ≤ (rs.map fun r => r.length + 10).sum := by
 induction rs with
 | nil => cases h
 | cons x l ih =>
  simp only [List.map_cons,List.sum_cons]
  rcases List.mem_cons.1 h with rfl | h
  ·omega
  ·have := ih h; omega
theorem check_ok {name : List UInt8 → Bool} {o : TOp} (h : zbj name o = 0) : 0 ≤ o.kind ∧ o.kind ≤ 4 ∧ 0 ≤ o.offset ∧ o.offset ≤ 9007199254740992 ∧ o = onlyF o := by
 unfold zbj zhN at h
 grind
theorem list_as {α β : Type} {f : α → β} : ∀ {l : List β},(∀ e ∈ l, ∃ a,e = f a) → ∃ as_ : List α,l = as_.map f
 | [],_ => ⟨[],rfl⟩
 | e :: l,h => by
  obtain ⟨a,rfl⟩ := h e List.mem_cons_self
  obtain ⟨as_,rfl⟩ := list_as (l := l) (fun x hx => h x (List.mem_cons_of_mem _ hx))
  exact ⟨a :: as_,rfl⟩
theorem fits1 {t : Ty} {d : D} (h : zel [t] [d]) : zkg t d := h.2 0 t d rfl rfl
theorem one_of {t : Ty} {ds : List D} (h : zel [t] ds) : ∃ d,ds = [d] ∧ zkg t d := by
 match ds,h with
 | [d],h => exact ⟨d,rfl,fits1 h⟩
theorem zaX {t : Ty} {ts : List Ty} {ds : List D} (h : zel (t :: ts) ds) : ∃ d ds',ds = d :: ds' ∧ zkg t d ∧ zel ts ds' := by
 match ds,h with
 | d :: ds',h => exact ⟨d,ds',rfl,h.2 0 t d rfl rfl,by have := h.1; simpa using this,fun i t d h1 h2 => h.2 (i + 1) t d h1 h2⟩
theorem znh {ds : List D} (h : zel [] ds) : ds = [] := by
 have := h.1; simpa using this
theorem dec_int {k : IntKind} {d : D} (h : zkg (.int k) d) : ∃ n,d = .int k n ∧ (Lit.int k n).wf = true := by cases h with | int _ n h => exact ⟨n,rfl,h⟩
theorem zeW {d : D} (h : zkg (.int .i64) d) : ∃ n,d = .int .i64 n ∧ -9223372036854775808 ≤ n ∧ n ≤ 9223372036854775807 := by
 obtain ⟨n,hd,h2⟩ := dec_int h
 exact ⟨n,hd,by simpa [Lit.wf,IntKind.min,IntKind.max,IntKind.signed,IntKind.bits] using h2⟩
theorem dec_u8 {d : D} (h : zkg (.int .u8) d) : ∃ b : UInt8,d = .int .u8 b.toNat := by
 obtain ⟨n,hd,h2⟩ := dec_int h
 have h' : 0 ≤ n ∧ n ≤ 255 := by simpa [Lit.wf,IntKind.min,IntKind.max,IntKind.signed,IntKind.bits] using h2
 exact ⟨UInt8.ofNat n.toNat,by rw [hd,zlJ (by omega)]; congr 1; omega⟩
theorem dec_str {d : D} (h : zkg .str d) : ∃ s,d = .str s := by cases h with | str s _ => exact ⟨s,rfl⟩
theorem zrG {α : Type} {ts : List Ty} {d : D} {f : α → List D} (h : zkg (.slice ts) d) (hf : ∀ e,zel ts e → ∃ a,e = f a) : ∃ as_ : List α,d = .slice (as_.map f) := by
 cases h with
 | slice _ es h1 h2 h3 =>
  obtain ⟨as_,rfl⟩ := list_as (f := f) (fun e he => hf e ⟨h2 e he,h3 e he⟩)
  exact ⟨as_,rfl⟩
theorem dec_bytes {d : D} (h : zkg (.slice [.int .u8]) d) : ∃ bs,d = .slice (bcs bs) := zrG h fun e he => by
 obtain ⟨d,rfl,h⟩ := one_of he
 obtain ⟨b,rfl⟩ := dec_u8 h
 exact ⟨b,rfl⟩
theorem bulk_bcs (bs : List UInt8) : ziP (bcs bs) = bs.length := by
 induction bs with
 | nil => rfl
 | cons b bs ih => simp only [bcs,List.map_cons,zbA,ziP,zhx,znU,List.length_cons] at ih ⊢; omega
def zrk (n : Int) : Prop := -9223372036854775808 ≤ n ∧ n ≤ 9223372036854775807
structure zI where
 key : Int
 dig : Int
deriving DecidableEq
structure zr where
 client : Int
 time : Int
 op : TOp
 key : Int
 dig : Int
deriving DecidableEq
structure TPrep where
 view : Int
 seq : Int
 dig : Int
 fkey : Int
 fdig : Int
 signs : List zI
 batch : List zr
deriving DecidableEq
structure zfV where
 seq : Int
 dig : Int
 signs : List zI
deriving DecidableEq
structure TChange where
 view : Int
 src : Int
 cert : zfV
 above : List TPrep
 key : Int
 dig : Int
deriving DecidableEq
structure TEntry where
 view : Int
 seq : Int
 batch : List zr
 key : Int
 dig : Int
deriving DecidableEq
def zfI (s : zI) : List D := [.int .i64 s.key, .int .i64 s.dig]
abbrev zas (l : List zI) : List (List D) := l.map zfI
def zeI (x : zr) : List D := [.int .i64 x.client, .int .i64 x.time, .int .i64 x.op.kind, .str x.op.topic, .str x.op.group, .int .i64 x.op.offset, .slice (zcj x.op.recs), .int .i64 x.key, .int .i64 x.dig]
abbrev zjL (b : List zr) : List (List D) := b.map zeI
def certD (c : zfV) : List D := [.int .i64 c.seq, .int .i64 c.dig, .slice (zas c.signs)]
theorem zhf {α : Type} {f : α → List D} {n : Nat} (hf : ∀ a,(f a).length = n) (l : List α) : ∀ e ∈ l.map f,e.length = n := by
 intro e he
 obtain ⟨a,_,rfl⟩ := List.mem_map.1 he
 exact hf a
theorem zU {α : Type} {f : α → List D} {l : List α} {k : Nat} {x : α} (h : l[k]? = some x) : (l.map f)[k]? = some (f x) := by simp [h]
def tySign : List Ty := [.int .i64, .int .i64]
def signR (s : zI) : Prop := zrk s.key ∧ zrk s.dig
theorem dec_sliceR {α : Type} {ts : List Ty} {d : D} {f : α → List D} {R : α → Prop} (h : zkg (.slice ts) d) (hf : ∀ e,zel ts e → ∃ a,e = f a ∧ R a) : ∃ as_ : List α,d = .slice (as_.map f) ∧ ∀ a ∈ as_,R a := by
 cases h with
 | slice _ es h1 h2 h3 =>
  have : ∀ l : List (List D),(∀ e ∈ l,zel ts e) → ∃ as_ : List α,l = as_.map f ∧ ∀ a ∈ as_,R a := by
   intro l
   induction l with
   | nil => intro _; exact ⟨[],rfl,by simp⟩
   | cons e l ih =>
    intro hl
    obtain ⟨a,rfl,ha⟩ := hf e (hl e (.head _))
    obtain ⟨as_,rfl,has⟩ := ih fun e he => hl e (.tail _ he)
    exact ⟨a :: as_,rfl,by simpa using ⟨ha,has⟩⟩
  obtain ⟨as_,rfl,h4⟩ := this es (fun e he => ⟨h2 e he,h3 e he⟩)
  exact ⟨as_,rfl,h4⟩
theorem dec_sign {ds : List D} (h : zel tySign ds) : ∃ s : zI,ds = zfI s ∧ signR s := by
 obtain ⟨d1,ds,rfl,h1,h⟩ := zaX h
 obtain ⟨d2,ds,rfl,h2,h⟩ := zaX h
 obtain rfl := znh h
 obtain ⟨a,rfl,ha⟩ := zeW h1
 obtain ⟨b,rfl,hb⟩ := zeW h2
 exact ⟨⟨a,b⟩,rfl,ha,hb⟩
end Go.AW
