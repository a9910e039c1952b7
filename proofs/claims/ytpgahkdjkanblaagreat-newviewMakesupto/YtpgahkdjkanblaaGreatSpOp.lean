/- Operations: what the document says of them. No program in sight. -/
import Derived.Test.YtpgahkdjkanblaaGreatSh
import Derived.Test.YtpgahkdjkanblaaGreatAwEnd
import Derived.Test.YtpgahkdjkanblaaGreatAwFun
set_option linter.all false
namespace Go.AW
structure TOp where
 kind:Int
 topic:List UInt8
 group:List UInt8
 offset:Int
 recs:List (List UInt8)
deriving DecidableEq
def zgp (rs:List (List UInt8)):List (List D):=rs.map fun r => [D.slice (bcs r)]
def opA (o:TOp):AV := .agg [.d (.int .i64 o.kind),.d (.str o.topic),.d (.str o.group),.d (.int .i64 o.offset),.d (.slice (zgp o.recs))]
def noOp:TOp:=⟨0,[],[], 0,[]⟩
theorem zH (rs:List (List UInt8)):(zgp rs).length=rs.length:=by simp [zgp]
theorem zgt {rs:List (List UInt8)} {k:Nat} {r:List UInt8} (h:rs[k]? = some r):(zgp rs)[k]? = some [D.slice (bcs r)]:=by simp [zgp,h]
def zoP (o:TOp):TOp :=
 if o.kind=1 then { noOp with kind:=o.kind,topic:=o.topic }
 else if o.kind=2 then { noOp with kind:=o.kind,topic:=o.topic,recs:=o.recs }
 else if o.kind=3 then { noOp with kind:=o.kind,topic:=o.topic,group:=o.group,offset:=o.offset }
 else if o.kind=4 then { noOp with kind:=o.kind,topic:=o.topic,offset:=o.offset }
 else { noOp with kind:=o.kind }
def zix (o:TOp):Bool:=decide (0<=o.kind/\o.kind<=4)
def zcP (name:List UInt8->Bool) (o:TOp):Int :=
 if zix o=false ∨ o ≠ zoP o then 60
 else if o.kind ≠ 0/\name o.topic=false then 61
 else if o.kind=3/\name o.group=false then 61
 else if o.kind=2/\(o.recs.length<1 ∨ o.recs.length > 4 ∨ o.recs.any (fun r=>decide (r.length > 64))=true) then 62
 else if o.offset<0 ∨ o.offset > 9007199254740992 then 60
 else 0
def zul (x:List UInt8):List UInt8:=zcI x.length++x
def ztn (rs:List (List UInt8)):List UInt8:=(rs.map zul).flatten
def opB (o:TOp):List UInt8 :=
 zcI o.kind.toNat++((if o.kind ≠ 0 then zul o.topic else []) ++
  (if o.kind=2 then zcI o.recs.length++ztn o.recs else if o.kind=3 then zul o.group++zcI o.offset.toNat else if o.kind=4 then zcI o.offset.toNat else []))
theorem opB_0 {o:TOp} (h:o.kind=0):opB o=zcI o.kind.toNat:=by simp [opB,h]
theorem opB_1 {o:TOp} (h:o.kind=1):opB o=zcI o.kind.toNat++(zcI o.topic.length++o.topic):=by simp [opB,h,zul]
theorem opB_2 {o:TOp} (h:o.kind=2):opB o=zcI o.kind.toNat++(zcI o.topic.length++(o.topic++(zcI o.recs.length++ztn o.recs))):=by simp [opB,h,zul]
theorem opB_3 {o:TOp} (h:o.kind=3):opB o=zcI o.kind.toNat++(zcI o.topic.length++(o.topic++(zcI o.group.length++(o.group++zcI o.offset.toNat)))):=by simp [opB,h,zul]
theorem opB_4 {o:TOp} (h:o.kind=4):opB o=zcI o.kind.toNat++(zcI o.topic.length++(o.topic++zcI o.offset.toNat)):=by simp [opB,h,zul]
def zlh (o:TOp):Nat:=o.topic.length+o.group.length+(o.recs.map fun r=>r.length+10).sum
theorem ziw {x:List UInt8} (h:x.length<18446744073709551616):(zul x).length<=x.length+10:=by
 have:=zp h
 simp only [zul,List.length_append];omega
theorem zlP (rs:List (List UInt8)) (h:(rs.map fun r=>r.length+10).sum<=1073741824):∀ k,(ztn (rs.take k)).length<=(rs.map fun r=>r.length+10).sum:=by
 have key:∀ l:List (List UInt8),(l.map fun r=>r.length+10).sum<=1073741824->(ztn l).length<=(l.map fun r=>r.length+10).sum:=by
  intro l
  induction l with
  | nil=>simp [ztn]
  | cons r l ih =>
   intro h
   simp only [List.map_cons,List.sum_cons] at h ⊢
   have h1:=ih (by omega)
   have h2:=ziw (x:=r) (by omega)
   simp only [ztn,List.map_cons,List.flatten_cons,List.length_append] at h1 ⊢
   omega
 have sum_take:∀ (l:List (List UInt8)) k,((l.take k).map fun r=>r.length+10).sum<=(l.map fun r=>r.length+10).sum:=by
  intro l
  induction l with
  | nil=>simp
  | cons r l ih =>
   intro k
   cases k with
   | zero=>simp
   | succ k=>simp only [List.take_succ_cons,List.map_cons,List.sum_cons];have:=ih k;omega
 intro k
 have h1:=sum_take rs k
 have:=key (rs.take k) (by omega)
 omega
theorem zxS {rs:List (List UInt8)} {k:Nat} {r:List UInt8} (h:rs[k]? = some r):ztn (rs.take (k+1))=ztn (rs.take k)++zul r:=by
 rw [List.take_add_one,h];simp [ztn]
theorem zmR (rs:List (List UInt8)):rs.length<=(rs.map fun r=>r.length+10).sum:=by
 induction rs with
 | nil=>simp
 | cons r l ih=>simp only [List.map_cons,List.sum_cons,List.length_cons];omega
theorem rec_le {rs:List (List UInt8)} {r:List UInt8} (h:r ∈ rs):r.length<=(rs.map fun r=>r.length+10).sum:=by
 induction rs with
 | nil=>cases h
 | cons x l ih =>
  simp only [List.map_cons,List.sum_cons]
  rcases List.mem_cons.1 h with rfl | h
  ·omega
  ·have:=ih h;omega
theorem zvk {name:List UInt8->Bool} {o:TOp} (h:zcP name o=0):0<=o.kind/\o.kind<=4/\0<=o.offset/\o.offset<=9007199254740992/\o=zoP o:=by
 unfold zcP zix at h
 grind
theorem zcH {α:Type} {a b:List α} (hl:a.length=b.length) {k:Nat} (hk:k=a.length) (h:a.take k=b.take k):a=b:=by
 rw [hk,List.take_length,hl,List.take_length] at h
 exact h
theorem zbM {α:Type} {a b:List α} {k:Nat} {x y : α} (ha:a[k]? = some x) (hb:b[k]? = some y) (h:a.take k=b.take k) (e:x=y):a.take (k+1)=b.take (k+1):=by
 rw [List.take_add_one,List.take_add_one,ha,hb,h,e]
end Go.AW

/- Arguments of known types as data of the document. -/
namespace Go.AW
theorem list_as {α β:Type} {f : α → β}:∀ {l:List β},(∀ e ∈ l, ∃ a,e=f a)->∃ as_:List α,l=as_.map f
 | [],_=>⟨[],rfl⟩
 | e :: l,h=>by
  obtain ⟨a,rfl⟩:=h e List.mem_cons_self
  obtain ⟨as_,rfl⟩:=list_as (l:=l) (fun x hx=>h x (List.mem_cons_of_mem _ hx))
  exact ⟨a :: as_,rfl⟩
theorem fits1 {t:Ty} {d:D} (h:zgo [t] [d]):zoF t d:=h.2 0 t d rfl rfl
theorem one_of {t:Ty} {ds:List D} (h:zgo [t] ds):∃ d,ds = [d]/\zoF t d:=by
 match ds,h with
 | [d],h=>exact ⟨d,rfl,fits1 h⟩
theorem zaP {t:Ty} {ts:List Ty} {ds:List D} (h:zgo (t :: ts) ds):∃ d ds',ds=d :: ds' ∧ zoF t d/\zgo ts ds':=by
 match ds,h with
 | d :: ds',h=>exact ⟨d,ds',rfl,h.2 0 t d rfl rfl,by have:=h.1;simpa using this,fun i t d h1 h2=>h.2 (i+1) t d h1 h2⟩
theorem zoI {ds:List D} (h:zgo [] ds):ds = []:=by
 have:=h.1;simpa using this
theorem dec_int {k:IntKind} {d:D} (h:zoF (.int k) d):∃ n,d = .int k n/\(Lit.int k n).wf=true:=by cases h with | int _ n h=>exact ⟨n,rfl,h⟩
theorem zey {d:D} (h:zoF (.int .i64) d):∃ n,d = .int .i64 n ∧ -9223372036854775808<=n/\n<=9223372036854775807:=by
 obtain ⟨n,hd,h2⟩:=dec_int h
 exact ⟨n,hd,by simpa [Lit.wf,IntKind.min,IntKind.max,IntKind.signed,IntKind.bits] using h2⟩
theorem dec_u8 {d:D} (h:zoF (.int .u8) d):∃ b:UInt8,d = .int .u8 b.toNat:=by
 obtain ⟨n,hd,h2⟩:=dec_int h
 have h':0<=n/\n<=255:=by simpa [Lit.wf,IntKind.min,IntKind.max,IntKind.signed,IntKind.bits] using h2
 exact ⟨UInt8.ofNat n.toNat,by rw [hd,zqv (by omega)];congr 1;omega⟩
theorem dec_str {d:D} (h:zoF .str d):∃ s,d = .str s:=by cases h with | str s _=>exact ⟨s,rfl⟩
theorem zmx {α:Type} {ts:List Ty} {d:D} {f : α->List D} (h:zoF (.slice ts) d) (hf:∀ e,zgo ts e->∃ a,e=f a):∃ as_:List α,d = .slice (as_.map f):=by
 cases h with
 | slice _ es h1 h2 h3 =>
  obtain ⟨as_,rfl⟩:=list_as (f:=f) (fun e he=>hf e ⟨h2 e he,h3 e he⟩)
  exact ⟨as_,rfl⟩
theorem dec_bytes {d:D} (h:zoF (.slice [.int .u8]) d):∃ bs,d = .slice (bcs bs):=zmx h fun e he=>by
 obtain ⟨d,rfl,h⟩:=one_of he
 obtain ⟨b,rfl⟩:=dec_u8 h
 exact ⟨b,rfl⟩
theorem dec_recs {d:D} (h:zoF (.slice [.slice [.int .u8]]) d):∃ rs,d = .slice (zgp rs):=zmx h fun e he=>by
 obtain ⟨d,rfl,h⟩:=one_of he
 obtain ⟨b,rfl⟩:=dec_bytes h
 exact ⟨b,rfl⟩
theorem bulk_bcs (bs:List UInt8):zfA (bcs bs)=bs.length:=by
 induction bs with
 | nil=>rfl
 | cons b bs ih=>simp only [bcs,List.map_cons,zcQ,zfA,zff,ziY,List.length_cons] at ih ⊢;omega
theorem bulk_recs (rs:List (List UInt8)):zfA (zgp rs)=(rs.map fun r=>r.length+1).sum:=by
 induction rs with
 | nil=>rfl
 | cons r rs ih=>simp only [zgp,List.map_cons,zfA,zff,ziY,List.sum_cons,bulk_bcs] at ih ⊢;omega
def zqG (n:Int):Prop := -9223372036854775808<=n/\n<=9223372036854775807
def opR (o:TOp):Prop:=zqG o.kind/\zqG o.offset
def opD (o:TOp):List D := [.int .i64 o.kind,.str o.topic,.str o.group,.int .i64 o.offset,.slice (zgp o.recs)]
theorem opSz_bulk (o:TOp):zlh o<=10 * zff (opD o):=by
 have:(o.recs.map fun r=>r.length+10).sum<=10 * (o.recs.map fun r=>r.length+1).sum:=by
  induction o.recs with
  | nil=>simp
  | cons r rs ih=>simp only [List.map_cons,List.sum_cons];omega
 simp only [zlh,opD,zff,ziY,bulk_recs]
 omega
end Go.AW

/- Requests, batches, certificates, view-changes: what the document holds, as data. No program in sight. -/
namespace Go.AW
structure zK where
 key:Int
 dig:Int
deriving DecidableEq
structure zJ where
 client:Int
 time:Int
 op:TOp
 key:Int
 dig:Int
deriving DecidableEq
structure zcb where
 view:Int
 seq:Int
 dig:Int
 fkey:Int
 fdig:Int
 signs:List zK
 batch:List zJ
deriving DecidableEq
structure zft where
 seq:Int
 dig:Int
 signs:List zK
deriving DecidableEq
structure zU where
 view:Int
 src:Int
 cert:zft
 above:List zcb
 key:Int
 dig:Int
deriving DecidableEq
structure zbL where
 view:Int
 seq:Int
 batch:List zJ
 key:Int
 dig:Int
deriving DecidableEq
def zgf (s:zK):List D := [.int .i64 s.key,.int .i64 s.dig]
abbrev zap (l:List zK):List (List D):=l.map zgf
def zbc (x:zJ):List D := [.int .i64 x.client,.int .i64 x.time,.int .i64 x.op.kind,.str x.op.topic,.str x.op.group,.int .i64 x.op.offset,.slice (zgp x.op.recs),.int .i64 x.key,.int .i64 x.dig]
abbrev zbj (b:List zJ):List (List D):=b.map zbc
def zew (p:zcb):List D := [.int .i64 p.view,.int .i64 p.seq,.int .i64 p.dig,.int .i64 p.fkey,.int .i64 p.fdig,.slice (zap p.signs),.slice (zbj p.batch)]
abbrev zeV (l:List zcb):List (List D):=l.map zew
def zaE (c:zU):List D := [.int .i64 c.view,.int .i64 c.src,.int .i64 c.cert.seq,.int .i64 c.cert.dig,.slice (zap c.cert.signs),.slice (zeV c.above),.int .i64 c.key,.int .i64 c.dig]
abbrev zan (l:List zU):List (List D):=l.map zaE
def zed (x:zbL):List D := [.int .i64 x.view,.int .i64 x.seq,.slice (zbj x.batch),.int .i64 x.key,.int .i64 x.dig]
abbrev zaw (l:List zbL):List (List D):=l.map zed
theorem zhb {α:Type} {f : α->List D} {n:Nat} (hf:∀ a,(f a).length=n) (l:List α):∀ e ∈ l.map f,e.length=n:=by
 intro e he
 obtain ⟨a,_,rfl⟩:=List.mem_map.1 he
 exact hf a
theorem zvw (l:List zK):∀ e ∈ zap l,e.length=2:=zhb (f:=zgf) (fun _=>rfl) l
theorem batch_nine (l:List zJ):∀ e ∈ zbj l,e.length=9:=zhb (f:=zbc) (fun _=>rfl) l
theorem preps_seven (l:List zcb):∀ e ∈ zeV l,e.length=7:=zhb (f:=zew) (fun _=>rfl) l
theorem changes_eight (l:List zU):∀ e ∈ zan l,e.length=8:=zhb (f:=zaE) (fun _=>rfl) l
theorem entries_five (l:List zbL):∀ e ∈ zaw l,e.length=5:=zhb (f:=zed) (fun _=>rfl) l
theorem zR {α:Type} {f : α->List D} {l:List α} {k:Nat} {x : α} (h:l[k]? = some x):(l.map f)[k]? = some (f x):=by simp [h]
theorem map_snoc {α:Type} {f : α->List D} {l:List α} {k:Nat} {x : α} (h:l[k]? = some x):(l.take k).map f++[f x]=(l.take (k+1)).map f:=by
 rw [List.take_add_one,h];simp
def tySign:List Ty := [.int .i64,.int .i64]
def tySigned:List Ty := [.int .i64,.int .i64,.int .i64,.str,.str,.int .i64,.slice [.slice [.int .u8]],.int .i64,.int .i64]
def tyPrep:List Ty := [.int .i64,.int .i64,.int .i64,.int .i64,.int .i64,.slice tySign,.slice tySigned]
def tyChange:List Ty := [.int .i64,.int .i64,.int .i64,.int .i64,.slice tySign,.slice tyPrep,.int .i64,.int .i64]
def signR (s:zK):Prop:=zqG s.key/\zqG s.dig
def signedR (x:zJ):Prop:=zqG x.client/\zqG x.time/\opR x.op/\zqG x.key/\zqG x.dig
def prepR (p:zcb):Prop:=zqG p.view/\zqG p.seq/\zqG p.dig/\zqG p.fkey/\zqG p.fdig
def zio (c:zU):Prop:=zqG c.view/\zqG c.src/\zqG c.cert.seq/\zqG c.cert.dig/\(∀ p ∈ c.above,prepR p)/\zqG c.key/\zqG c.dig
theorem zyM {α:Type} {ts:List Ty} {d:D} {f : α->List D} {R : α->Prop} (h:zoF (.slice ts) d) (hf:∀ e,zgo ts e->∃ a,e=f a/\R a):∃ as_:List α,d = .slice (as_.map f)/\∀ a ∈ as_,R a:=by
 cases h with
 | slice _ es h1 h2 h3 =>
  have:∀ l:List (List D),(∀ e ∈ l,zgo ts e)->∃ as_:List α,l=as_.map f/\∀ a ∈ as_,R a:=by
   intro l
   induction l with
   | nil=>intro _;exact ⟨[],rfl,by simp⟩
   | cons e l ih =>
    intro hl
    obtain ⟨a,rfl,ha⟩:=hf e (hl e (.head _))
    obtain ⟨as_,rfl,has⟩:=ih fun e he=>hl e (.tail _ he)
    exact ⟨a :: as_,rfl,by simpa using ⟨ha,has⟩⟩
  obtain ⟨as_,rfl,h4⟩:=this es (fun e he=>⟨h2 e he,h3 e he⟩)
  exact ⟨as_,rfl,h4⟩
theorem zAc {ds:List D} (h:zgo tySign ds):∃ s:zK,ds=zgf s/\signR s:=by
 obtain ⟨d1,ds,rfl,h1,h⟩:=zaP h
 obtain ⟨d2,ds,rfl,h2,h⟩:=zaP h
 obtain rfl:=zoI h
 obtain ⟨a,rfl,ha⟩:=zey h1
 obtain ⟨b,rfl,hb⟩:=zey h2
 exact ⟨⟨a,b⟩,rfl,ha,hb⟩
theorem dec_signed {ds:List D} (h:zgo tySigned ds):∃ s:zJ,ds=zbc s/\signedR s:=by
 obtain ⟨d1,ds,rfl,h1,h⟩:=zaP h
 obtain ⟨d2,ds,rfl,h2,h⟩:=zaP h
 obtain ⟨d3,ds,rfl,h3,h⟩:=zaP h
 obtain ⟨d4,ds,rfl,h4,h⟩:=zaP h
 obtain ⟨d5,ds,rfl,h5,h⟩:=zaP h
 obtain ⟨d6,ds,rfl,h6,h⟩:=zaP h
 obtain ⟨d7,ds,rfl,h7,h⟩:=zaP h
 obtain ⟨d8,ds,rfl,h8,h⟩:=zaP h
 obtain ⟨d9,ds,rfl,h9,h⟩:=zaP h
 obtain rfl:=zoI h
 obtain ⟨a1,rfl,k1⟩:=zey h1
 obtain ⟨a2,rfl,k2⟩:=zey h2
 obtain ⟨a3,rfl,k3⟩:=zey h3
 obtain ⟨a4,rfl⟩:=dec_str h4
 obtain ⟨a5,rfl⟩:=dec_str h5
 obtain ⟨a6,rfl,k6⟩:=zey h6
 obtain ⟨a7,rfl⟩:=dec_recs h7
 obtain ⟨a8,rfl,k8⟩:=zey h8
 obtain ⟨a9,rfl,k9⟩:=zey h9
 exact ⟨⟨a1,a2,⟨a3,a4,a5,a6,a7⟩,a8,a9⟩,rfl,k1,k2,⟨k3,k6⟩,k8,k9⟩
theorem dec_prep {ds:List D} (h:zgo tyPrep ds):∃ s:zcb,ds=zew s/\prepR s:=by
 obtain ⟨d1,ds,rfl,h1,h⟩:=zaP h
 obtain ⟨d2,ds,rfl,h2,h⟩:=zaP h
 obtain ⟨d3,ds,rfl,h3,h⟩:=zaP h
 obtain ⟨d4,ds,rfl,h4,h⟩:=zaP h
 obtain ⟨d5,ds,rfl,h5,h⟩:=zaP h
 obtain ⟨d6,ds,rfl,h6,h⟩:=zaP h
 obtain ⟨d7,ds,rfl,h7,h⟩:=zaP h
 obtain rfl:=zoI h
 obtain ⟨a1,rfl,k1⟩:=zey h1
 obtain ⟨a2,rfl,k2⟩:=zey h2
 obtain ⟨a3,rfl,k3⟩:=zey h3
 obtain ⟨a4,rfl,k4⟩:=zey h4
 obtain ⟨a5,rfl,k5⟩:=zey h5
 obtain ⟨a6,rfl⟩:=zmx h6 (fun e he=>(zAc he).imp fun _ h=>h.1)
 obtain ⟨a7,rfl⟩:=zmx h7 (fun e he=>(dec_signed he).imp fun _ h=>h.1)
 exact ⟨⟨a1,a2,a3,a4,a5,a6,a7⟩,rfl,k1,k2,k3,k4,k5⟩
theorem dec_change {ds:List D} (h:zgo tyChange ds):∃ s:zU,ds=zaE s/\zio s:=by
 obtain ⟨d1,ds,rfl,h1,h⟩:=zaP h
 obtain ⟨d2,ds,rfl,h2,h⟩:=zaP h
 obtain ⟨d3,ds,rfl,h3,h⟩:=zaP h
 obtain ⟨d4,ds,rfl,h4,h⟩:=zaP h
 obtain ⟨d5,ds,rfl,h5,h⟩:=zaP h
 obtain ⟨d6,ds,rfl,h6,h⟩:=zaP h
 obtain ⟨d7,ds,rfl,h7,h⟩:=zaP h
 obtain ⟨d8,ds,rfl,h8,h⟩:=zaP h
 obtain rfl:=zoI h
 obtain ⟨a1,rfl,k1⟩:=zey h1
 obtain ⟨a2,rfl,k2⟩:=zey h2
 obtain ⟨a3,rfl,k3⟩:=zey h3
 obtain ⟨a4,rfl,k4⟩:=zey h4
 obtain ⟨a5,rfl⟩:=zmx h5 (fun e he=>(zAc he).imp fun _ h=>h.1)
 obtain ⟨a6,rfl,k6⟩:=zyM h6 (fun e he=>dec_prep he)
 obtain ⟨a7,rfl,k7⟩:=zey h7
 obtain ⟨a8,rfl,k8⟩:=zey h8
 exact ⟨⟨a1,a2,⟨a3,a4,a5⟩,a6,a7,a8⟩,rfl,k1,k2,k3,k4,k6,k7,k8⟩
end Go.AW

/- What a new view goes on with. No program in sight. -/
namespace Go.AW
def zbN (f:Int):Int:=if f<1 ∨ f > 4 then 120 else 0
def zaW (n f:Int):Int:=if f<1 ∨ f > 4 then 0 else n * f+1
def zfB (cs:List zU):Nat->Int
 | 0 => -1
 | k+1=>match cs[k]? with | some c=>c.src | none => 0
def zrT (f:Int) (cs:List zU) (k:Nat):Bool:=match cs[k]? with | some c=>decide (zfB cs k<c.src/\c.src<zaW 3 f) | none=>true
def zlf (f:Int) (cs:List zU) (k:Nat):Bool:=(List.range k).all (zrT f cs)
def zlY (f view:Int) (cs:List zU):Int :=
 if zbN f ≠ 0 then zbN f else if view<1 ∨ view > 9007199254740992 then 1 else if zlf f cs cs.length=false then 1 else if cs.length<zaW 2 f then 160 else 0
theorem zkg (f:Int) (cs:List zU) (k:Nat):zlf f cs (k+1)=(zlf f cs k && zrT f cs k):=by
 simp [zlf,List.range_succ]
theorem zxN {f:Int} {cs:List zU} {k:Nat} (hk:k<cs.length) (h:zrT f cs k=false):zlf f cs cs.length=false:=by
 rw [zlf,List.all_eq_false]
 exact ⟨k,by simpa using hk,by simp [h]⟩
theorem zth {f:Int} {cs:List zU}:∀ {k:Nat},k<=cs.length->zlf f cs k=true → -1<=zfB cs k
 | 0,_,_=>by simp [zfB]
 | k+1,hk,h=>by
  rw [zkg,Bool.and_eq_true] at h
  have ih:=zth (by omega) h.1
  have hx:cs[k]? = some cs[k]:=by simp [show k<cs.length by omega]
  have:=h.2
  simp only [zrT,hx,decide_eq_true_eq] at this
  simp only [zfB,hx]
  omega
theorem srcsOk_pos1 {f:Int} {cs:List zU} {k:Nat} (hk:k<cs.length) (h:zlf f cs (k+1)=true):0<=zfB cs (k+1):=by
 rw [zkg,Bool.and_eq_true] at h
 have ih:=zth (by omega) h.1
 have hx:cs[k]? = some cs[k]:=by simp [hk]
 have:=h.2
 simp only [zrT,hx,decide_eq_true_eq] at this
 simp only [zfB,hx]
 omega
def zoQ:zft:=⟨0, 0,[]⟩
def maxI (a b:Int):Int:=if b > a then b else a
def znt (b:zft) (c:zU):zft:=if c.cert.seq > b.seq then c.cert else b
def bestOf (cs:List zU):zft:=match cs with | []=>zoQ | c :: _=>c.cert
def zjW (cs:List zU) (k:Nat):zft:=(cs.take k).foldl znt (bestOf cs)
def zbW (cs:List zU) (k:Nat):List zcb:=((cs.take k).map (·.above)).flatten
def zco (L:List zcb):Int:=L.foldl (fun m p=>maxI m p.seq) 0
def zfZ (s:Int) (o:Option zcb) (p:zcb):Option zcb:=if p.seq=s then (match o with | none=>some p | some q=>if p.view > q.view then some p else some q) else o
def zrO (L:List zcb) (s:Int):Option zcb:=L.foldl (zfZ s) none
def ztY (o:Option zcb):List zJ:=match o with | some p=>p.batch | none => []
def zxD (view:Int) (L:List zcb) (base:Int) (n:Nat):zbL:=⟨view,base+n+1,ztY (zrO L (base+n+1)), 0, 0⟩
def zin (view:Int) (L:List zcb) (base:Int) (n:Nat):List zbL:=(List.range n).map (zxD view L base)
def zsh (great base:Int):Nat:=min (great - base).toNat 8
def zkh (f view:Int) (cs:List zU):zft × List zbL × Int :=
 if zlY f view cs ≠ 0 then (zoQ,[],zlY f view cs) else
  let b:=zjW cs cs.length
  let L:=zbW cs cs.length
  if b.seq<0 ∨ zco L<=b.seq then (b,[], 0) else (b,zin view L b.seq (zsh (zco L) b.seq), 0)
theorem ztW {cs:List zU} {k:Nat} {c:zU} (h:cs[k]? = some c):zjW cs (k+1)=znt (zjW cs k) c:=by
 simp only [zjW,List.take_add_one,h,Option.toList_some,List.foldl_append,List.foldl_cons,List.foldl_nil]
theorem zoO {cs:List zU} {k:Nat} {c:zU} (h:cs[k]? = some c):zbW cs (k+1)=zbW cs k++c.above:=by
 simp [zbW,List.take_add_one,h]
theorem zvT (L:List zcb) (p:zcb):zco (L++[p])=maxI (zco L) p.seq:=by simp [zco]
theorem zvO (L:List zcb) (p:zcb) (s:Int):zrO (L++[p]) s=zfZ s (zrO L s) p:=by simp [zrO]
theorem greatF_nn (L:List zcb):0<=zco L:=by
 have:∀ (L:List zcb) (m:Int), 0<=m → 0<=L.foldl (fun m p=>maxI m p.seq) m:=by
  intro L
  induction L with
  | nil=>intro m h;exact h
  | cons p L ih=>intro m h;exact ih _ (by simp only [maxI];split <;> omega)
 exact this L 0 (by omega)
theorem latF_seq {L:List zcb} {s:Int} {p:zcb} (h:zrO L s=some p):p.seq=s/\p ∈ L:=by
 have:∀ (L:List zcb) (o:Option zcb),L.foldl (zfZ s) o=some p->(o=some p) ∨ (p.seq=s/\p ∈ L):=by
  intro L
  induction L with
  | nil=>intro o h;exact .inl h
  | cons q L ih =>
   intro o h
   rcases ih _ h with h | h
   ·unfold zfZ at h
    by_cases e:q.seq=s
    ·rw [if_pos e] at h
     cases o with
     | none=>simp only [Option.some.injEq] at h;subst h;exact .inr ⟨e,.head _⟩
     | some r =>
      simp only at h
      split at h
      ·simp only [Option.some.injEq] at h;subst h;exact .inr ⟨e,.head _⟩
      ·exact .inl h
    ·rw [if_neg e] at h;exact .inl h
   ·exact .inr ⟨h.1,.tail _ h.2⟩
 rcases this L none h with h | h
 ·cases h
 ·exact h
theorem greatF_lt {L:List zcb} {m:Int} (hm:0<=m) (h:∀ p ∈ L,p.seq<=m):zco L<=m:=by
 have:∀ (L:List zcb) (a:Int),a<=m->(∀ p ∈ L,p.seq<=m)->L.foldl (fun m p=>maxI m p.seq) a<=m:=by
  intro L
  induction L with
  | nil=>intro a ha _;exact ha
  | cons p L ih=>intro a ha h;exact ih _ (by have:=h p (.head _);simp only [maxI];split <;> omega) (fun p hp=>h p (.tail _ hp))
 exact this L 0 hm h
theorem zys (view:Int) (L:List zcb) (base:Int) (n:Nat):zin view L base n++[zxD view L base n]=zin view L base (n+1):=by
 simp [zin,List.range_succ]
theorem zwO {cs:List zU}:∀ {k:Nat},k<=cs.length->cs ≠ []->∃ c ∈ cs,zjW cs k=c.cert
 | 0,_,h=>by
  cases cs with
  | nil=>exact absurd rfl h
  | cons c cs=>exact ⟨c,.head _,rfl⟩
 | k+1,hk,h=>by
  obtain ⟨c,hc,e⟩:=zwO (k:=k) (by omega) h
  have hx:cs[k]? = some cs[k]:=by simp [show k<cs.length by omega]
  rw [ztW hx,znt]
  split
  ·exact ⟨_,List.getElem_mem _,rfl⟩
  ·exact ⟨c,hc,e⟩
end Go.AW
