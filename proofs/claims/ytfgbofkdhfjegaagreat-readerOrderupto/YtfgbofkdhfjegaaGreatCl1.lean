/- Contracts: bytes.Clone. -/
import Derived.Test.YtfgbofkdhfjegaaGreatSh
import Derived.Test.YtfgbofkdhfjegaaGreatAwEnd
import Derived.IntWalk
import Derived.Test.YtfgbofkdhfjegaaGreatAwRun
set_option linter.all false
set_option maxRecDepth 100000
namespace Go.Proofs.YtfgbofkdhfjegaaGreat
open Go.AW
theorem zwp {σ : List zh} {es : List (List D)} {K : KT} (he : ∀ e ∈ es,e.length = 1) (hn : es.length ≤ 1073741824) (hK : K (.own σ.length es) (σ ++ [.tok 1 es.length])) : zr Tryz.prog zeB [.d (.slice es)] σ K := by
 refine zr.tok he ?_ hK
 refine zce zpi.is rfl (fun s => if s.length = σ.length then [] else [σ.length]) fun hl _ => zpi.goes ?_
 simp only [zpC,iN,bT,bF,eN,zao,zdy]
 cases es with
 | nil =>
  refine ⟨?_, ?_⟩
  ·simp only [zW,zM,zC]
   exact zkU (by simp) hl rfl (by simp)
  ·simp only [zW,zE,zC,zS,rep,zw,zeF,zaj,zB,zdY]
   refine ⟨by simp,by simp,by simp, ?_⟩
   exact zjT hl (by simp) (by simp)
 | cons e es =>
  simp only [zW,zE,zC,zS,rep,zw,zeF,zaj,zB,zdY]
  refine ⟨he,by simp,by simp at hn ⊢; omega, ?_⟩
  exact zjT hl (by simp) (by simp)
end Go.Proofs.YtfgbofkdhfjegaaGreat

/- How a number is put: seven bits a byte. No program in sight. -/
namespace Go.AW
def zcR (n : Nat) : List UInt8 := if n < 128 then [UInt8.ofNat n] else UInt8.ofNat (n % 128 + 128) :: zcR (n / 128)
termination_by n
decreasing_by omega
theorem zmJ {n : Nat} (h : n < 128) : zcR n = [UInt8.ofNat n] := by rw [zcR,if_pos h]
theorem zvF {n : Nat} (h : ¬ n < 128) : zcR n = UInt8.ofNat (n % 128 + 128) :: zcR (n / 128) := by rw [zcR,if_neg h]
theorem numB_len : ∀ (k n : Nat),n < 128 ^ (k + 1) → 1 ≤ (zcR n).length ∧ (zcR n).length ≤ k + 1
 | 0,n,h => by rw [zmJ (by simpa using h)]; simp
 | k + 1,n,h => by
  by_cases hs : n < 128
  ·rw [zmJ hs]; simp
  ·rw [zvF hs]
   have := numB_len k (n / 128) (by rw [Nat.div_lt_iff_lt_mul (by omega)]; rw [Nat.pow_succ] at h; exact h)
   simp; omega
theorem zF {n : Nat} (h : n < 18446744073709551616) : 1 ≤ (zcR n).length ∧ (zcR n).length ≤ 10 := numB_len 9 n (by omega)
theorem or128 : ∀ x : Fin 256,(BitVec.ofInt 8 (x.val : Int) ||| BitVec.ofInt 8 128).toNat = x.val % 128 + 128 := by decide +kernel
theorem wrap8 (n : Nat) : IntKind.u8.wrap (n : Int) = ((n % 256 : Nat) : Int) := by
 simp [IntKind.wrap,IntKind.signed,IntKind.bits]
theorem zry {n : Nat} (h : n < 256) : IntKind.u8.wrap (n : Int) = (n : Int) := by rw [wrap8,Nat.mod_eq_of_lt h]
theorem zcU {n : Nat} (h : n < 18446744073709551616) : IntKind.u64.wrap (n : Int) = (n : Int) := by
 simp [IntKind.wrap,IntKind.signed,IntKind.bits]
 omega
theorem zU {n : Int} (h1 : -9223372036854775808 ≤ n) (h2 : n ≤ 9223372036854775807) : IntKind.i64.wrap n = n := IntWalk.i64_in n ⟨h1,h2⟩
theorem zmV {n : Nat} (h : n < 256) : ((UInt8.ofNat n).toNat : Int) = (n : Int) := by
 simp; omega
structure TOp where
 kind : Int
 topic : List UInt8
 group : List UInt8
 offset : Int
 recs : List (List UInt8)
deriving DecidableEq
def zbV (rs : List (List UInt8)) : List (List D) := rs.map fun r => [D.slice (bcs r)]
def opA (o : TOp) : AV := .agg [.d (.int .i64 o.kind), .d (.str o.topic), .d (.str o.group), .d (.int .i64 o.offset), .d (.slice (zbV o.recs))]
def noOp : TOp := ⟨0, [], [], 0, []⟩
theorem zsb (rs : List (List UInt8)) : ∀ e ∈ zbV rs,e.length = 1 := by
 intro e he
 obtain ⟨r,_,rfl⟩ := List.mem_map.1 he
 rfl
theorem zG (rs : List (List UInt8)) : (zbV rs).length = rs.length := by simp [zbV]
theorem zjD {rs : List (List UInt8)} {k : Nat} {r : List UInt8} (h : rs[k]? = some r) : (zbV rs)[k]? = some [D.slice (bcs r)] := by simp [zbV,h]
def onlyF (o : TOp) : TOp :=
 if o.kind = 1 then { noOp with kind := o.kind,topic := o.topic }
 else if o.kind = 2 then { noOp with kind := o.kind,topic := o.topic,recs := o.recs }
 else if o.kind = 3 then { noOp with kind := o.kind,topic := o.topic,group := o.group,offset := o.offset }
 else if o.kind = 4 then { noOp with kind := o.kind,topic := o.topic,offset := o.offset }
 else { noOp with kind := o.kind }
def ziV (o : TOp) : Bool := decide (0 ≤ o.kind ∧ o.kind ≤ 4)
def zbp (name : List UInt8 → Bool) (o : TOp) : Int :=
 if ziV o = false ∨ o ≠ onlyF o then 60
 else if o.kind ≠ 0 ∧ name o.topic = false then 61
 else if o.kind = 3 ∧ name o.group = false then 61
 else if o.kind = 2 ∧ (o.recs.length < 1 ∨ o.recs.length > 4 ∨ o.recs.any (fun r => decide (r.length > 64)) = true) then 62
 else if o.offset < 0 ∨ o.offset > 9007199254740992 then 60
 else 0
def zoH (x : List UInt8) : List UInt8 := zcR x.length ++ x
def zlz (rs : List (List UInt8)) : List UInt8 := (rs.map zoH).flatten
def opB (o : TOp) : List UInt8 :=
 zcR o.kind.toNat ++ ((if o.kind ≠ 0 then zoH o.topic else []) ++
  (if o.kind = 2 then zcR o.recs.length ++ zlz o.recs else if o.kind = 3 then zoH o.group ++ zcR o.offset.toNat else if o.kind = 4 then zcR o.offset.toNat else []))
theorem opB_0 {o : TOp} (h : o.kind = 0) : opB o = zcR o.kind.toNat := by simp [opB,h]
theorem opB_1 {o : TOp} (h : o.kind = 1) : opB o = zcR o.kind.toNat ++ (zcR o.topic.length ++ o.topic) := by simp [opB,h,zoH]
theorem opB_2 {o : TOp} (h : o.kind = 2) : opB o = zcR o.kind.toNat ++ (zcR o.topic.length ++ (o.topic ++ (zcR o.recs.length ++ zlz o.recs))) := by simp [opB,h,zoH]
theorem opB_3 {o : TOp} (h : o.kind = 3) : opB o = zcR o.kind.toNat ++ (zcR o.topic.length ++ (o.topic ++ (zcR o.group.length ++ (o.group ++ zcR o.offset.toNat)))) := by simp [opB,h,zoH]
theorem opB_4 {o : TOp} (h : o.kind = 4) : opB o = zcR o.kind.toNat ++ (zcR o.topic.length ++ (o.topic ++ zcR o.offset.toNat)) := by simp [opB,h,zoH]
def zkr (o : TOp) : Nat := o.topic.length + o.group.length + (o.recs.map fun r => r.length + 10).sum
theorem zfN {x : List UInt8} (h : x.length < 18446744073709551616) : (zoH x).length ≤ x.length + 10 := by
 have := zF h
 simp only [zoH,List.length_append]; omega
theorem znn (rs : List (List UInt8)) (h : (rs.map fun r => r.length + 10).sum ≤ 1073741824) : ∀ k,(zlz (rs.take k)).length ≤ (rs.map fun r => r.length + 10).sum := by
 have key : ∀ l : List (List UInt8),(l.map fun r => r.length + 10).sum ≤ 1073741824 → (zlz l).length ≤ (l.map fun r => r.length + 10).sum := by
  intro l
  induction l with
  | nil => simp [zlz]
  | cons r l ih =>
   intro h
   simp only [List.map_cons,List.sum_cons] at h ⊢
   have h1 := ih (by omega)
   have h2 := zfN (x := r) (by omega)
   simp only [zlz,List.map_cons,List.flatten_cons,List.length_append] at h1 ⊢
   omega
 have zvu : ∀ (l : List (List UInt8)) k,((l.take k).map fun r => r.length + 10).sum ≤ (l.map fun r => r.length + 10).sum := by
  intro l
  induction l with
  | nil => simp
  | cons r l ih =>
   intro k
   cases k with
   | zero => simp
   | succ k => simp only [List.take_succ_cons,List.map_cons,List.sum_cons]; have := ih k; omega
 intro k
 have h1 := zvu rs k
 have := key (rs.take k) (by omega)
 omega
theorem recsB_snoc {rs : List (List UInt8)} {k : Nat} {r : List UInt8} (h : rs[k]? = some r) : zlz (rs.take (k + 1)) = zlz (rs.take k) ++ zoH r := by
 rw [List.take_add_one,h]; simp [zlz]
theorem zkz (rs : List (List UInt8)) : rs.length ≤ (rs.map fun r => r.length + 10).sum := by
 induction rs with
 | nil => simp
 | cons r l ih => simp only [List.map_cons,List.sum_cons,List.length_cons]; omega
theorem rec_le {rs : List (List UInt8)} {r : List UInt8} (h : r ∈ rs) : r.length ≤ (rs.map fun r => r.length + 10).sum := by
 induction rs with
 | nil => cases h
 | cons x l ih =>
  simp only [List.map_cons,List.sum_cons]
  rcases List.mem_cons.1 h with rfl | h
  ·omega
  ·have := ih h; omega
theorem check_ok {name : List UInt8 → Bool} {o : TOp} (h : zbp name o = 0) : 0 ≤ o.kind ∧ o.kind ≤ 4 ∧ 0 ≤ o.offset ∧ o.offset ≤ 9007199254740992 ∧ o = onlyF o := by
 unfold zbp ziV at h
 grind
theorem zet {α : Type} {a b : List α} (hl : a.length = b.length) {k : Nat} (hk : k = a.length) (h : a.take k = b.take k) : a = b := by
 rw [hk,List.take_length,hl,List.take_length] at h
 exact h
theorem zcY {α : Type} {a b : List α} {k : Nat} {x y : α} (ha : a[k]? = some x) (hb : b[k]? = some y) (h : a.take k = b.take k) (e : x = y) : a.take (k + 1) = b.take (k + 1) := by
 rw [List.take_add_one,List.take_add_one,ha,hb,h,e]
theorem list_as {α β : Type} {f : α → β} : ∀ {l : List β},(∀ e ∈ l, ∃ a,e = f a) → ∃ as_ : List α,l = as_.map f
 | [],_ => ⟨[],rfl⟩
 | e :: l,h => by
  obtain ⟨a,rfl⟩ := h e List.mem_cons_self
  obtain ⟨as_,rfl⟩ := list_as (l := l) (fun x hx => h x (List.mem_cons_of_mem _ hx))
  exact ⟨a :: as_,rfl⟩
theorem fits1 {t : Ty} {d : D} (h : zct [t] [d]) : ziN t d := h.2 0 t d rfl rfl
theorem one_of {t : Ty} {ds : List D} (h : zct [t] ds) : ∃ d,ds = [d] ∧ ziN t d := by
 match ds,h with
 | [d],h => exact ⟨d,rfl,fits1 h⟩
theorem zq {t : Ty} {ts : List Ty} {ds : List D} (h : zct (t :: ts) ds) : ∃ d ds',ds = d :: ds' ∧ ziN t d ∧ zct ts ds' := by
 match ds,h with
 | d :: ds',h => exact ⟨d,ds',rfl,h.2 0 t d rfl rfl,by have := h.1; simpa using this,fun i t d h1 h2 => h.2 (i + 1) t d h1 h2⟩
theorem zdR {ds : List D} (h : zct [] ds) : ds = [] := by
 have := h.1; simpa using this
theorem dec_int {k : IntKind} {d : D} (h : ziN (.int k) d) : ∃ n,d = .int k n ∧ (Lit.int k n).wf = true := by cases h with | int _ n h => exact ⟨n,rfl,h⟩
theorem zaA {d : D} (h : ziN (.int .i64) d) : ∃ n,d = .int .i64 n ∧ -9223372036854775808 ≤ n ∧ n ≤ 9223372036854775807 := by
 obtain ⟨n,hd,h2⟩ := dec_int h
 exact ⟨n,hd,by simpa [Lit.wf,IntKind.min,IntKind.max,IntKind.signed,IntKind.bits] using h2⟩
theorem dec_u8 {d : D} (h : ziN (.int .u8) d) : ∃ b : UInt8,d = .int .u8 b.toNat := by
 obtain ⟨n,hd,h2⟩ := dec_int h
 have h' : 0 ≤ n ∧ n ≤ 255 := by simpa [Lit.wf,IntKind.min,IntKind.max,IntKind.signed,IntKind.bits] using h2
 exact ⟨UInt8.ofNat n.toNat,by rw [hd,zmV (by omega)]; congr 1; omega⟩
theorem zsQ {d : D} (h : ziN .str d) : ∃ s,d = .str s := by cases h with | str s _ => exact ⟨s,rfl⟩
theorem zeq {α : Type} {ts : List Ty} {d : D} {f : α → List D} (h : ziN (.slice ts) d) (hf : ∀ e,zct ts e → ∃ a,e = f a) : ∃ as_ : List α,d = .slice (as_.map f) := by
 cases h with
 | slice _ es h1 h2 h3 =>
  obtain ⟨as_,rfl⟩ := list_as (f := f) (fun e he => hf e ⟨h2 e he,h3 e he⟩)
  exact ⟨as_,rfl⟩
theorem zsS {d : D} (h : ziN (.slice [.int .u8]) d) : ∃ bs,d = .slice (bcs bs) := zeq h fun e he => by
 obtain ⟨d,rfl,h⟩ := one_of he
 obtain ⟨b,rfl⟩ := dec_u8 h
 exact ⟨b,rfl⟩
theorem dec_recs {d : D} (h : ziN (.slice [.slice [.int .u8]]) d) : ∃ rs,d = .slice (zbV rs) := zeq h fun e he => by
 obtain ⟨d,rfl,h⟩ := one_of he
 obtain ⟨b,rfl⟩ := zsS h
 exact ⟨b,rfl⟩
theorem zwt (bs : List UInt8) : zdl (bcs bs) = bs.length := by
 induction bs with
 | nil => rfl
 | cons b bs ih => simp only [bcs,List.map_cons,zco,zdl,zcE,zeM,List.length_cons] at ih ⊢; omega
def ziL (n : Int) : Prop := -9223372036854775808 ≤ n ∧ n ≤ 9223372036854775807
def opR (o : TOp) : Prop := ziL o.kind ∧ ziL o.offset
structure zJ where
 key : Int
 dig : Int
deriving DecidableEq
structure zp where
 client : Int
 time : Int
 op : TOp
 key : Int
 dig : Int
deriving DecidableEq
structure zow where
 view : Int
 seq : Int
 dig : Int
 fkey : Int
 fdig : Int
 signs : List zJ
 batch : List zp
deriving DecidableEq
structure zfj where
 seq : Int
 dig : Int
 signs : List zJ
deriving DecidableEq
structure zgg where
 view : Int
 src : Int
 cert : zfj
 above : List zow
 key : Int
 dig : Int
deriving DecidableEq
structure zmn where
 view : Int
 seq : Int
 batch : List zp
 key : Int
 dig : Int
deriving DecidableEq
def zhU (s : zJ) : List D := [.int .i64 s.key, .int .i64 s.dig]
abbrev zaY (l : List zJ) : List (List D) := l.map zhU
def zch (x : zp) : List D := [.int .i64 x.client, .int .i64 x.time, .int .i64 x.op.kind, .str x.op.topic, .str x.op.group, .int .i64 x.op.offset, .slice (zbV x.op.recs), .int .i64 x.key, .int .i64 x.dig]
abbrev zdf (b : List zp) : List (List D) := b.map zch
def znM (p : zow) : List D := [.int .i64 p.view, .int .i64 p.seq, .int .i64 p.dig, .int .i64 p.fkey, .int .i64 p.fdig, .slice (zaY p.signs), .slice (zdf p.batch)]
abbrev zuk (l : List zow) : List (List D) := l.map znM
def certD (c : zfj) : List D := [.int .i64 c.seq, .int .i64 c.dig, .slice (zaY c.signs)]
def zer (c : zgg) : List D := [.int .i64 c.view, .int .i64 c.src, .int .i64 c.cert.seq, .int .i64 c.cert.dig, .slice (zaY c.cert.signs), .slice (zuk c.above), .int .i64 c.key, .int .i64 c.dig]
abbrev zkY (l : List zgg) : List (List D) := l.map zer
def zhk (x : zmn) : List D := [.int .i64 x.view, .int .i64 x.seq, .slice (zdf x.batch), .int .i64 x.key, .int .i64 x.dig]
abbrev zkT (l : List zmn) : List (List D) := l.map zhk
theorem zjq {α : Type} {f : α → List D} {n : Nat} (hf : ∀ a,(f a).length = n) (l : List α) : ∀ e ∈ l.map f,e.length = n := by
 intro e he
 obtain ⟨a,_,rfl⟩ := List.mem_map.1 he
 exact hf a
theorem zR {α : Type} {f : α → List D} {l : List α} {k : Nat} {x : α} (h : l[k]? = some x) : (l.map f)[k]? = some (f x) := by simp [h]
def zqC : List Ty := [.int .i64, .int .i64]
def zrA : List Ty := [.int .i64, .int .i64, .int .i64, .str, .str, .int .i64, .slice [.slice [.int .u8]], .int .i64, .int .i64]
def tyPrep : List Ty := [.int .i64, .int .i64, .int .i64, .int .i64, .int .i64, .slice zqC, .slice zrA]
def tyChange : List Ty := [.int .i64, .int .i64, .int .i64, .int .i64, .slice zqC, .slice tyPrep, .int .i64, .int .i64]
def signR (s : zJ) : Prop := ziL s.key ∧ ziL s.dig
def signedR (x : zp) : Prop := ziL x.client ∧ ziL x.time ∧ opR x.op ∧ ziL x.key ∧ ziL x.dig
def prepR (p : zow) : Prop := ziL p.view ∧ ziL p.seq ∧ ziL p.dig ∧ ziL p.fkey ∧ ziL p.fdig
def changeR (c : zgg) : Prop := ziL c.view ∧ ziL c.src ∧ ziL c.cert.seq ∧ ziL c.cert.dig ∧ (∀ p ∈ c.above,prepR p) ∧ ziL c.key ∧ ziL c.dig
theorem zuL {α : Type} {ts : List Ty} {d : D} {f : α → List D} {R : α → Prop} (h : ziN (.slice ts) d) (hf : ∀ e,zct ts e → ∃ a,e = f a ∧ R a) : ∃ as_ : List α,d = .slice (as_.map f) ∧ ∀ a ∈ as_,R a := by
 cases h with
 | slice _ es h1 h2 h3 =>
  have : ∀ l : List (List D),(∀ e ∈ l,zct ts e) → ∃ as_ : List α,l = as_.map f ∧ ∀ a ∈ as_,R a := by
   intro l
   induction l with
   | nil => intro _; exact ⟨[],rfl,by simp⟩
   | cons e l ih =>
    intro hl
    obtain ⟨a,rfl,ha⟩ := hf e (hl e (.head _))
    obtain ⟨as_,rfl,has⟩ := ih fun e he => hl e (.tail _ he)
    exact ⟨a :: as_,rfl,by simpa using ⟨ha,has⟩⟩
  obtain ⟨as_,rfl,h4⟩ := this es (fun e he => ⟨h2 e he,h3 e he⟩)
  exact ⟨as_,rfl,h4⟩
theorem zrG {ds : List D} (h : zct zqC ds) : ∃ s : zJ,ds = zhU s ∧ signR s := by
 obtain ⟨d1,ds,rfl,h1,h⟩ := zq h
 obtain ⟨d2,ds,rfl,h2,h⟩ := zq h
 obtain rfl := zdR h
 obtain ⟨a,rfl,ha⟩ := zaA h1
 obtain ⟨b,rfl,hb⟩ := zaA h2
 exact ⟨⟨a,b⟩,rfl,ha,hb⟩
theorem zqv {ds : List D} (h : zct zrA ds) : ∃ s : zp,ds = zch s ∧ signedR s := by
 obtain ⟨d1,ds,rfl,h1,h⟩ := zq h
 obtain ⟨d2,ds,rfl,h2,h⟩ := zq h
 obtain ⟨d3,ds,rfl,h3,h⟩ := zq h
 obtain ⟨d4,ds,rfl,h4,h⟩ := zq h
 obtain ⟨d5,ds,rfl,h5,h⟩ := zq h
 obtain ⟨d6,ds,rfl,h6,h⟩ := zq h
 obtain ⟨d7,ds,rfl,h7,h⟩ := zq h
 obtain ⟨d8,ds,rfl,h8,h⟩ := zq h
 obtain ⟨d9,ds,rfl,h9,h⟩ := zq h
 obtain rfl := zdR h
 obtain ⟨a1,rfl,k1⟩ := zaA h1
 obtain ⟨a2,rfl,k2⟩ := zaA h2
 obtain ⟨a3,rfl,k3⟩ := zaA h3
 obtain ⟨a4,rfl⟩ := zsQ h4
 obtain ⟨a5,rfl⟩ := zsQ h5
 obtain ⟨a6,rfl,k6⟩ := zaA h6
 obtain ⟨a7,rfl⟩ := dec_recs h7
 obtain ⟨a8,rfl,k8⟩ := zaA h8
 obtain ⟨a9,rfl,k9⟩ := zaA h9
 exact ⟨⟨a1,a2,⟨a3,a4,a5,a6,a7⟩,a8,a9⟩,rfl,k1,k2,⟨k3,k6⟩,k8,k9⟩
theorem dec_prep {ds : List D} (h : zct tyPrep ds) : ∃ s : zow,ds = znM s ∧ prepR s := by
 obtain ⟨d1,ds,rfl,h1,h⟩ := zq h
 obtain ⟨d2,ds,rfl,h2,h⟩ := zq h
 obtain ⟨d3,ds,rfl,h3,h⟩ := zq h
 obtain ⟨d4,ds,rfl,h4,h⟩ := zq h
 obtain ⟨d5,ds,rfl,h5,h⟩ := zq h
 obtain ⟨d6,ds,rfl,h6,h⟩ := zq h
 obtain ⟨d7,ds,rfl,h7,h⟩ := zq h
 obtain rfl := zdR h
 obtain ⟨a1,rfl,k1⟩ := zaA h1
 obtain ⟨a2,rfl,k2⟩ := zaA h2
 obtain ⟨a3,rfl,k3⟩ := zaA h3
 obtain ⟨a4,rfl,k4⟩ := zaA h4
 obtain ⟨a5,rfl,k5⟩ := zaA h5
 obtain ⟨a6,rfl⟩ := zeq h6 (fun e he => (zrG he).imp fun _ h => h.1)
 obtain ⟨a7,rfl⟩ := zeq h7 (fun e he => (zqv he).imp fun _ h => h.1)
 exact ⟨⟨a1,a2,a3,a4,a5,a6,a7⟩,rfl,k1,k2,k3,k4,k5⟩
theorem dec_change {ds : List D} (h : zct tyChange ds) : ∃ s : zgg,ds = zer s ∧ changeR s := by
 obtain ⟨d1,ds,rfl,h1,h⟩ := zq h
 obtain ⟨d2,ds,rfl,h2,h⟩ := zq h
 obtain ⟨d3,ds,rfl,h3,h⟩ := zq h
 obtain ⟨d4,ds,rfl,h4,h⟩ := zq h
 obtain ⟨d5,ds,rfl,h5,h⟩ := zq h
 obtain ⟨d6,ds,rfl,h6,h⟩ := zq h
 obtain ⟨d7,ds,rfl,h7,h⟩ := zq h
 obtain ⟨d8,ds,rfl,h8,h⟩ := zq h
 obtain rfl := zdR h
 obtain ⟨a1,rfl,k1⟩ := zaA h1
 obtain ⟨a2,rfl,k2⟩ := zaA h2
 obtain ⟨a3,rfl,k3⟩ := zaA h3
 obtain ⟨a4,rfl,k4⟩ := zaA h4
 obtain ⟨a5,rfl⟩ := zeq h5 (fun e he => (zrG he).imp fun _ h => h.1)
 obtain ⟨a6,rfl,k6⟩ := zuL h6 (fun e he => dec_prep he)
 obtain ⟨a7,rfl,k7⟩ := zaA h7
 obtain ⟨a8,rfl,k8⟩ := zaA h8
 exact ⟨⟨a1,a2,⟨a3,a4,a5⟩,a6,a7,a8⟩,rfl,k1,k2,k3,k4,k6,k7,k8⟩
end Go.AW
