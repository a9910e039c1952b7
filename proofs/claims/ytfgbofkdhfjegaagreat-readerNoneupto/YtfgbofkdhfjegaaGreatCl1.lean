/- Contracts: bytes.Clone. -/
import Derived.Test.YtfgbofkdhfjegaaGreatSh
import Derived.Test.YtfgbofkdhfjegaaGreatAwEnd
import Derived.IntWalk
import Derived.Test.YtfgbofkdhfjegaaGreatAwRun
set_option linter.all false
set_option maxRecDepth 100000
namespace Go.Proofs.YtfgbofkdhfjegaaGreat
open Go.AW
theorem zwy {σ : List zh} {es : List (List D)} {K : KT} (he : ∀ e ∈ es,e.length = 1) (hn : es.length ≤ 1073741824) (hK : K (.own σ.length es) (σ ++ [.tok 1 es.length])) : zp Tryz.prog zeE [.d (.slice es)] σ K := by
 refine zp.tok he ?_ hK
 refine zbB zpr.is rfl (fun s => if s.length = σ.length then [] else [σ.length]) fun hl _ => zpr.goes ?_
 simp only [zpK,iN,bT,bF,eN,zap,zdL]
 cases es with
 | nil =>
  refine ⟨?_, ?_⟩
  ·simp only [zaa,zM,zD]
   exact zli (by simp) hl rfl (by simp)
  ·simp only [zaa,zF,zD,zQ,rep,zu,zfq,zaq,zC,zek]
   refine ⟨by simp,by simp,by simp, ?_⟩
   exact zkg hl (by simp) (by simp)
 | cons e es =>
  simp only [zaa,zF,zD,zQ,rep,zu,zfq,zaq,zC,zek]
  refine ⟨he,by simp,by simp at hn ⊢; omega, ?_⟩
  exact zkg hl (by simp) (by simp)
end Go.Proofs.YtfgbofkdhfjegaaGreat

/- How a number is put: seven bits a byte. No program in sight. -/
namespace Go.AW
def zcO (n : Nat) : List UInt8 := if n < 128 then [UInt8.ofNat n] else UInt8.ofNat (n % 128 + 128) :: zcO (n / 128)
termination_by n
decreasing_by omega
theorem zmX {n : Nat} (h : n < 128) : zcO n = [UInt8.ofNat n] := by rw [zcO,if_pos h]
theorem zvM {n : Nat} (h : ¬ n < 128) : zcO n = UInt8.ofNat (n % 128 + 128) :: zcO (n / 128) := by rw [zcO,if_neg h]
theorem numB_len : ∀ (k n : Nat),n < 128 ^ (k + 1) → 1 ≤ (zcO n).length ∧ (zcO n).length ≤ k + 1
 | 0,n,h => by rw [zmX (by simpa using h)]; simp
 | k + 1,n,h => by
  by_cases hs : n < 128
  ·rw [zmX hs]; simp
  ·rw [zvM hs]
   have := numB_len k (n / 128) (by rw [Nat.div_lt_iff_lt_mul (by omega)]; rw [Nat.pow_succ] at h; exact h)
   simp; omega
theorem zE {n : Nat} (h : n < 18446744073709551616) : 1 ≤ (zcO n).length ∧ (zcO n).length ≤ 10 := numB_len 9 n (by omega)
theorem or128 : ∀ x : Fin 256,(BitVec.ofInt 8 (x.val : Int) ||| BitVec.ofInt 8 128).toNat = x.val % 128 + 128 := by decide +kernel
theorem wrap8 (n : Nat) : IntKind.u8.wrap (n : Int) = ((n % 256 : Nat) : Int) := by
 simp [IntKind.wrap,IntKind.signed,IntKind.bits]
theorem zrF {n : Nat} (h : n < 256) : IntKind.u8.wrap (n : Int) = (n : Int) := by rw [wrap8,Nat.mod_eq_of_lt h]
theorem zcQ {n : Nat} (h : n < 18446744073709551616) : IntKind.u64.wrap (n : Int) = (n : Int) := by
 simp [IntKind.wrap,IntKind.signed,IntKind.bits]
 omega
theorem zac {n : Int} (h1 : -9223372036854775808 ≤ n) (h2 : n ≤ 9223372036854775807) : IntKind.i64.wrap n = n := IntWalk.i64_in n ⟨h1,h2⟩
theorem znk {n : Nat} (h : n < 256) : ((UInt8.ofNat n).toNat : Int) = (n : Int) := by
 simp; omega
structure TOp where
 kind : Int
 topic : List UInt8
 group : List UInt8
 offset : Int
 recs : List (List UInt8)
deriving DecidableEq
def zbZ (rs : List (List UInt8)) : List (List D) := rs.map fun r => [D.slice (bcs r)]
def opA (o : TOp) : AV := .agg [.d (.int .i64 o.kind), .d (.str o.topic), .d (.str o.group), .d (.int .i64 o.offset), .d (.slice (zbZ o.recs))]
def noOp : TOp := ⟨0, [], [], 0, []⟩
theorem zsk (rs : List (List UInt8)) : ∀ e ∈ zbZ rs,e.length = 1 := by
 intro e he
 obtain ⟨r,_,rfl⟩ := List.mem_map.1 he
 rfl
theorem zG (rs : List (List UInt8)) : (zbZ rs).length = rs.length := by simp [zbZ]
theorem zjQ {rs : List (List UInt8)} {k : Nat} {r : List UInt8} (h : rs[k]? = some r) : (zbZ rs)[k]? = some [D.slice (bcs r)] := by simp [zbZ,h]
def onlyF (o : TOp) : TOp :=
 if o.kind = 1 then { noOp with kind := o.kind,topic := o.topic }
 else if o.kind = 2 then { noOp with kind := o.kind,topic := o.topic,recs := o.recs }
 else if o.kind = 3 then { noOp with kind := o.kind,topic := o.topic,group := o.group,offset := o.offset }
 else if o.kind = 4 then { noOp with kind := o.kind,topic := o.topic,offset := o.offset }
 else { noOp with kind := o.kind }
def ziW (o : TOp) : Bool := decide (0 ≤ o.kind ∧ o.kind ≤ 4)
def zbr (name : List UInt8 → Bool) (o : TOp) : Int :=
 if ziW o = false ∨ o ≠ onlyF o then 60
 else if o.kind ≠ 0 ∧ name o.topic = false then 61
 else if o.kind = 3 ∧ name o.group = false then 61
 else if o.kind = 2 ∧ (o.recs.length < 1 ∨ o.recs.length > 4 ∨ o.recs.any (fun r => decide (r.length > 64)) = true) then 62
 else if o.offset < 0 ∨ o.offset > 9007199254740992 then 60
 else 0
def zoT (x : List UInt8) : List UInt8 := zcO x.length ++ x
def zlK (rs : List (List UInt8)) : List UInt8 := (rs.map zoT).flatten
def opB (o : TOp) : List UInt8 :=
 zcO o.kind.toNat ++ ((if o.kind ≠ 0 then zoT o.topic else []) ++
  (if o.kind = 2 then zcO o.recs.length ++ zlK o.recs else if o.kind = 3 then zoT o.group ++ zcO o.offset.toNat else if o.kind = 4 then zcO o.offset.toNat else []))
theorem opB_0 {o : TOp} (h : o.kind = 0) : opB o = zcO o.kind.toNat := by simp [opB,h]
theorem opB_1 {o : TOp} (h : o.kind = 1) : opB o = zcO o.kind.toNat ++ (zcO o.topic.length ++ o.topic) := by simp [opB,h,zoT]
theorem opB_2 {o : TOp} (h : o.kind = 2) : opB o = zcO o.kind.toNat ++ (zcO o.topic.length ++ (o.topic ++ (zcO o.recs.length ++ zlK o.recs))) := by simp [opB,h,zoT]
theorem opB_3 {o : TOp} (h : o.kind = 3) : opB o = zcO o.kind.toNat ++ (zcO o.topic.length ++ (o.topic ++ (zcO o.group.length ++ (o.group ++ zcO o.offset.toNat)))) := by simp [opB,h,zoT]
theorem opB_4 {o : TOp} (h : o.kind = 4) : opB o = zcO o.kind.toNat ++ (zcO o.topic.length ++ (o.topic ++ zcO o.offset.toNat)) := by simp [opB,h,zoT]
def zkF (o : TOp) : Nat := o.topic.length + o.group.length + (o.recs.map fun r => r.length + 10).sum
theorem zgd {x : List UInt8} (h : x.length < 18446744073709551616) : (zoT x).length ≤ x.length + 10 := by
 have := zE h
 simp only [zoT,List.length_append]; omega
theorem znA (rs : List (List UInt8)) (h : (rs.map fun r => r.length + 10).sum ≤ 1073741824) : ∀ k,(zlK (rs.take k)).length ≤ (rs.map fun r => r.length + 10).sum := by
 have key : ∀ l : List (List UInt8),(l.map fun r => r.length + 10).sum ≤ 1073741824 → (zlK l).length ≤ (l.map fun r => r.length + 10).sum := by
  intro l
  induction l with
  | nil => simp [zlK]
  | cons r l ih =>
   intro h
   simp only [List.map_cons,List.sum_cons] at h ⊢
   have h1 := ih (by omega)
   have h2 := zgd (x := r) (by omega)
   simp only [zlK,List.map_cons,List.flatten_cons,List.length_append] at h1 ⊢
   omega
 have zvB : ∀ (l : List (List UInt8)) k,((l.take k).map fun r => r.length + 10).sum ≤ (l.map fun r => r.length + 10).sum := by
  intro l
  induction l with
  | nil => simp
  | cons r l ih =>
   intro k
   cases k with
   | zero => simp
   | succ k => simp only [List.take_succ_cons,List.map_cons,List.sum_cons]; have := ih k; omega
 intro k
 have h1 := zvB rs k
 have := key (rs.take k) (by omega)
 omega
theorem recsB_snoc {rs : List (List UInt8)} {k : Nat} {r : List UInt8} (h : rs[k]? = some r) : zlK (rs.take (k + 1)) = zlK (rs.take k) ++ zoT r := by
 rw [List.take_add_one,h]; simp [zlK]
theorem zkM (rs : List (List UInt8)) : rs.length ≤ (rs.map fun r => r.length + 10).sum := by
 induction rs with
 | nil => simp
 | cons r l ih => simp only [List.map_cons,List.sum_cons,List.length_cons]; omega
theorem rec_le {rs : List (List UInt8)} {r : List UInt8} (h : r ∈ rs) : r.length ≤ (rs.map fun r => r.length + 10).sum := by
 induction rs with
 | nil => cases h
 | cons x l ih =>
  simp only [List.map_cons,List.sum_cons]
  rcases List.mem_cons.1 h with rfl | h
  ·omega
  ·have := ih h; omega
theorem check_ok {name : List UInt8 → Bool} {o : TOp} (h : zbr name o = 0) : 0 ≤ o.kind ∧ o.kind ≤ 4 ∧ 0 ≤ o.offset ∧ o.offset ≤ 9007199254740992 ∧ o = onlyF o := by
 unfold zbr ziW at h
 grind
theorem zfG {α : Type} {a b : List α} (hl : a.length = b.length) {k : Nat} (hk : k = a.length) (h : a.take k = b.take k) : a = b := by
 rw [hk,List.take_length,hl,List.take_length] at h
 exact h
theorem zdx {α : Type} {a b : List α} {k : Nat} {x y : α} (ha : a[k]? = some x) (hb : b[k]? = some y) (h : a.take k = b.take k) (e : x = y) : a.take (k + 1) = b.take (k + 1) := by
 rw [List.take_add_one,List.take_add_one,ha,hb,h,e]
theorem list_as {α β : Type} {f : α → β} : ∀ {l : List β},(∀ e ∈ l, ∃ a,e = f a) → ∃ as_ : List α,l = as_.map f
 | [],_ => ⟨[],rfl⟩
 | e :: l,h => by
  obtain ⟨a,rfl⟩ := h e List.mem_cons_self
  obtain ⟨as_,rfl⟩ := list_as (l := l) (fun x hx => h x (List.mem_cons_of_mem _ hx))
  exact ⟨a :: as_,rfl⟩
theorem fits1 {t : Ty} {d : D} (h : zcF [t] [d]) : zls t d := h.2 0 t d rfl rfl
theorem one_of {t : Ty} {ds : List D} (h : zcF [t] ds) : ∃ d,ds = [d] ∧ zls t d := by
 match ds,h with
 | [d],h => exact ⟨d,rfl,fits1 h⟩
theorem zw {t : Ty} {ts : List Ty} {ds : List D} (h : zcF (t :: ts) ds) : ∃ d ds',ds = d :: ds' ∧ zls t d ∧ zcF ts ds' := by
 match ds,h with
 | d :: ds',h => exact ⟨d,ds',rfl,h.2 0 t d rfl rfl,by have := h.1; simpa using this,fun i t d h1 h2 => h.2 (i + 1) t d h1 h2⟩
theorem zej {ds : List D} (h : zcF [] ds) : ds = [] := by
 have := h.1; simpa using this
theorem dec_int {k : IntKind} {d : D} (h : zls (.int k) d) : ∃ n,d = .int k n ∧ (Lit.int k n).wf = true := by cases h with | int _ n h => exact ⟨n,rfl,h⟩
theorem zaK {d : D} (h : zls (.int .i64) d) : ∃ n,d = .int .i64 n ∧ -9223372036854775808 ≤ n ∧ n ≤ 9223372036854775807 := by
 obtain ⟨n,hd,h2⟩ := dec_int h
 exact ⟨n,hd,by simpa [Lit.wf,IntKind.min,IntKind.max,IntKind.signed,IntKind.bits] using h2⟩
theorem dec_u8 {d : D} (h : zls (.int .u8) d) : ∃ b : UInt8,d = .int .u8 b.toNat := by
 obtain ⟨n,hd,h2⟩ := dec_int h
 have h' : 0 ≤ n ∧ n ≤ 255 := by simpa [Lit.wf,IntKind.min,IntKind.max,IntKind.signed,IntKind.bits] using h2
 exact ⟨UInt8.ofNat n.toNat,by rw [hd,znk (by omega)]; congr 1; omega⟩
theorem zwk {d : D} (h : zls .str d) : ∃ s,d = .str s := by cases h with | str s _ => exact ⟨s,rfl⟩
theorem zet {α : Type} {ts : List Ty} {d : D} {f : α → List D} (h : zls (.slice ts) d) (hf : ∀ e,zcF ts e → ∃ a,e = f a) : ∃ as_ : List α,d = .slice (as_.map f) := by
 cases h with
 | slice _ es h1 h2 h3 =>
  obtain ⟨as_,rfl⟩ := list_as (f := f) (fun e he => hf e ⟨h2 e he,h3 e he⟩)
  exact ⟨as_,rfl⟩
theorem zsY {d : D} (h : zls (.slice [.int .u8]) d) : ∃ bs,d = .slice (bcs bs) := zet h fun e he => by
 obtain ⟨d,rfl,h⟩ := one_of he
 obtain ⟨b,rfl⟩ := dec_u8 h
 exact ⟨b,rfl⟩
theorem dec_recs {d : D} (h : zls (.slice [.slice [.int .u8]]) d) : ∃ rs,d = .slice (zbZ rs) := zet h fun e he => by
 obtain ⟨d,rfl,h⟩ := one_of he
 obtain ⟨b,rfl⟩ := zsY h
 exact ⟨b,rfl⟩
theorem zwC (bs : List UInt8) : zdA (bcs bs) = bs.length := by
 induction bs with
 | nil => rfl
 | cons b bs ih => simp only [bcs,List.map_cons,zcs,zdA,zcZ,zgt,List.length_cons] at ih ⊢; omega
def ziM (n : Int) : Prop := -9223372036854775808 ≤ n ∧ n ≤ 9223372036854775807
def opR (o : TOp) : Prop := ziM o.kind ∧ ziM o.offset
structure zI where
 key : Int
 dig : Int
deriving DecidableEq
structure zq where
 client : Int
 time : Int
 op : TOp
 key : Int
 dig : Int
deriving DecidableEq
structure zoG where
 view : Int
 seq : Int
 dig : Int
 fkey : Int
 fdig : Int
 signs : List zI
 batch : List zq
deriving DecidableEq
structure zff where
 seq : Int
 dig : Int
 signs : List zI
deriving DecidableEq
structure zgw where
 view : Int
 src : Int
 cert : zff
 above : List zoG
 key : Int
 dig : Int
deriving DecidableEq
structure zmA where
 view : Int
 seq : Int
 batch : List zq
 key : Int
 dig : Int
deriving DecidableEq
def zil (s : zI) : List D := [.int .i64 s.key, .int .i64 s.dig]
abbrev zbd (l : List zI) : List (List D) := l.map zil
def zcl (x : zq) : List D := [.int .i64 x.client, .int .i64 x.time, .int .i64 x.op.kind, .str x.op.topic, .str x.op.group, .int .i64 x.op.offset, .slice (zbZ x.op.recs), .int .i64 x.key, .int .i64 x.dig]
abbrev zdi (b : List zq) : List (List D) := b.map zcl
def znX (p : zoG) : List D := [.int .i64 p.view, .int .i64 p.seq, .int .i64 p.dig, .int .i64 p.fkey, .int .i64 p.fdig, .slice (zbd p.signs), .slice (zdi p.batch)]
abbrev zur (l : List zoG) : List (List D) := l.map znX
def certD (c : zff) : List D := [.int .i64 c.seq, .int .i64 c.dig, .slice (zbd c.signs)]
def zeu (c : zgw) : List D := [.int .i64 c.view, .int .i64 c.src, .int .i64 c.cert.seq, .int .i64 c.cert.dig, .slice (zbd c.cert.signs), .slice (zur c.above), .int .i64 c.key, .int .i64 c.dig]
abbrev zng (l : List zgw) : List (List D) := l.map zeu
def zhB (x : zmA) : List D := [.int .i64 x.view, .int .i64 x.seq, .slice (zdi x.batch), .int .i64 x.key, .int .i64 x.dig]
abbrev znc (l : List zmA) : List (List D) := l.map zhB
theorem zjt {α : Type} {f : α → List D} {n : Nat} (hf : ∀ a,(f a).length = n) (l : List α) : ∀ e ∈ l.map f,e.length = n := by
 intro e he
 obtain ⟨a,_,rfl⟩ := List.mem_map.1 he
 exact hf a
theorem zS {α : Type} {f : α → List D} {l : List α} {k : Nat} {x : α} (h : l[k]? = some x) : (l.map f)[k]? = some (f x) := by simp [h]
def zrV : List Ty := [.int .i64, .int .i64]
def zrH : List Ty := [.int .i64, .int .i64, .int .i64, .str, .str, .int .i64, .slice [.slice [.int .u8]], .int .i64, .int .i64]
def tyPrep : List Ty := [.int .i64, .int .i64, .int .i64, .int .i64, .int .i64, .slice zrV, .slice zrH]
def tyChange : List Ty := [.int .i64, .int .i64, .int .i64, .int .i64, .slice zrV, .slice tyPrep, .int .i64, .int .i64]
def signR (s : zI) : Prop := ziM s.key ∧ ziM s.dig
def signedR (x : zq) : Prop := ziM x.client ∧ ziM x.time ∧ opR x.op ∧ ziM x.key ∧ ziM x.dig
def prepR (p : zoG) : Prop := ziM p.view ∧ ziM p.seq ∧ ziM p.dig ∧ ziM p.fkey ∧ ziM p.fdig
def changeR (c : zgw) : Prop := ziM c.view ∧ ziM c.src ∧ ziM c.cert.seq ∧ ziM c.cert.dig ∧ (∀ p ∈ c.above,prepR p) ∧ ziM c.key ∧ ziM c.dig
theorem zuS {α : Type} {ts : List Ty} {d : D} {f : α → List D} {R : α → Prop} (h : zls (.slice ts) d) (hf : ∀ e,zcF ts e → ∃ a,e = f a ∧ R a) : ∃ as_ : List α,d = .slice (as_.map f) ∧ ∀ a ∈ as_,R a := by
 cases h with
 | slice _ es h1 h2 h3 =>
  have : ∀ l : List (List D),(∀ e ∈ l,zcF ts e) → ∃ as_ : List α,l = as_.map f ∧ ∀ a ∈ as_,R a := by
   intro l
   induction l with
   | nil => intro _; exact ⟨[],rfl,by simp⟩
   | cons e l ih =>
    intro hl
    obtain ⟨a,rfl,ha⟩ := hf e (hl e (.head _))
    obtain ⟨as_,rfl,has⟩ := ih fun e he => hl e (.tail _ he)
    exact ⟨a :: as_,rfl,by simpa using ⟨ha,has⟩⟩
  obtain ⟨as_,rfl,h4⟩ := this es (fun e he => ⟨h2 e he,h3 e he⟩)
  exact ⟨as_,rfl,h4⟩
theorem zrO {ds : List D} (h : zcF zrV ds) : ∃ s : zI,ds = zil s ∧ signR s := by
 obtain ⟨d1,ds,rfl,h1,h⟩ := zw h
 obtain ⟨d2,ds,rfl,h2,h⟩ := zw h
 obtain rfl := zej h
 obtain ⟨a,rfl,ha⟩ := zaK h1
 obtain ⟨b,rfl,hb⟩ := zaK h2
 exact ⟨⟨a,b⟩,rfl,ha,hb⟩
theorem zqB {ds : List D} (h : zcF zrH ds) : ∃ s : zq,ds = zcl s ∧ signedR s := by
 obtain ⟨d1,ds,rfl,h1,h⟩ := zw h
 obtain ⟨d2,ds,rfl,h2,h⟩ := zw h
 obtain ⟨d3,ds,rfl,h3,h⟩ := zw h
 obtain ⟨d4,ds,rfl,h4,h⟩ := zw h
 obtain ⟨d5,ds,rfl,h5,h⟩ := zw h
 obtain ⟨d6,ds,rfl,h6,h⟩ := zw h
 obtain ⟨d7,ds,rfl,h7,h⟩ := zw h
 obtain ⟨d8,ds,rfl,h8,h⟩ := zw h
 obtain ⟨d9,ds,rfl,h9,h⟩ := zw h
 obtain rfl := zej h
 obtain ⟨a1,rfl,k1⟩ := zaK h1
 obtain ⟨a2,rfl,k2⟩ := zaK h2
 obtain ⟨a3,rfl,k3⟩ := zaK h3
 obtain ⟨a4,rfl⟩ := zwk h4
 obtain ⟨a5,rfl⟩ := zwk h5
 obtain ⟨a6,rfl,k6⟩ := zaK h6
 obtain ⟨a7,rfl⟩ := dec_recs h7
 obtain ⟨a8,rfl,k8⟩ := zaK h8
 obtain ⟨a9,rfl,k9⟩ := zaK h9
 exact ⟨⟨a1,a2,⟨a3,a4,a5,a6,a7⟩,a8,a9⟩,rfl,k1,k2,⟨k3,k6⟩,k8,k9⟩
theorem dec_prep {ds : List D} (h : zcF tyPrep ds) : ∃ s : zoG,ds = znX s ∧ prepR s := by
 obtain ⟨d1,ds,rfl,h1,h⟩ := zw h
 obtain ⟨d2,ds,rfl,h2,h⟩ := zw h
 obtain ⟨d3,ds,rfl,h3,h⟩ := zw h
 obtain ⟨d4,ds,rfl,h4,h⟩ := zw h
 obtain ⟨d5,ds,rfl,h5,h⟩ := zw h
 obtain ⟨d6,ds,rfl,h6,h⟩ := zw h
 obtain ⟨d7,ds,rfl,h7,h⟩ := zw h
 obtain rfl := zej h
 obtain ⟨a1,rfl,k1⟩ := zaK h1
 obtain ⟨a2,rfl,k2⟩ := zaK h2
 obtain ⟨a3,rfl,k3⟩ := zaK h3
 obtain ⟨a4,rfl,k4⟩ := zaK h4
 obtain ⟨a5,rfl,k5⟩ := zaK h5
 obtain ⟨a6,rfl⟩ := zet h6 (fun e he => (zrO he).imp fun _ h => h.1)
 obtain ⟨a7,rfl⟩ := zet h7 (fun e he => (zqB he).imp fun _ h => h.1)
 exact ⟨⟨a1,a2,a3,a4,a5,a6,a7⟩,rfl,k1,k2,k3,k4,k5⟩
theorem dec_change {ds : List D} (h : zcF tyChange ds) : ∃ s : zgw,ds = zeu s ∧ changeR s := by
 obtain ⟨d1,ds,rfl,h1,h⟩ := zw h
 obtain ⟨d2,ds,rfl,h2,h⟩ := zw h
 obtain ⟨d3,ds,rfl,h3,h⟩ := zw h
 obtain ⟨d4,ds,rfl,h4,h⟩ := zw h
 obtain ⟨d5,ds,rfl,h5,h⟩ := zw h
 obtain ⟨d6,ds,rfl,h6,h⟩ := zw h
 obtain ⟨d7,ds,rfl,h7,h⟩ := zw h
 obtain ⟨d8,ds,rfl,h8,h⟩ := zw h
 obtain rfl := zej h
 obtain ⟨a1,rfl,k1⟩ := zaK h1
 obtain ⟨a2,rfl,k2⟩ := zaK h2
 obtain ⟨a3,rfl,k3⟩ := zaK h3
 obtain ⟨a4,rfl,k4⟩ := zaK h4
 obtain ⟨a5,rfl⟩ := zet h5 (fun e he => (zrO he).imp fun _ h => h.1)
 obtain ⟨a6,rfl,k6⟩ := zuS h6 (fun e he => dec_prep he)
 obtain ⟨a7,rfl,k7⟩ := zaK h7
 obtain ⟨a8,rfl,k8⟩ := zaK h8
 exact ⟨⟨a1,a2,⟨a3,a4,a5⟩,a6,a7,a8⟩,rfl,k1,k2,k3,k4,k6,k7,k8⟩
end Go.AW
