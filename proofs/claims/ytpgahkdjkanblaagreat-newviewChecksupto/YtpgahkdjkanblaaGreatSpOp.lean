/- Operations: what the document says of them. No program in sight. -/
import Derived.Test.YtpgahkdjkanblaaGreatSh
import Derived.Test.YtpgahkdjkanblaaGreatAwEnd
import Derived.Test.YtpgahkdjkanblaaGreatAwTy
set_option linter.all false
namespace Go.AW
structure TOp where
 kind:Int
 topic:List UInt8
 group:List UInt8
 offset:Int
 recs:List (List UInt8)
deriving DecidableEq
def zeU (rs:List (List UInt8)):List (List D):=rs.map fun r => [D.slice (bcs r)]
def opA (o:TOp):AV := .agg [.d (.int .i64 o.kind),.d (.str o.topic),.d (.str o.group),.d (.int .i64 o.offset),.d (.slice (zeU o.recs))]
def noOp:TOp:=⟨0,[],[], 0,[]⟩
theorem zU (rs:List (List UInt8)):(zeU rs).length=rs.length:=by simp [zeU]
theorem zfM {rs:List (List UInt8)} {k:Nat} {r:List UInt8} (h:rs[k]? = some r):(zeU rs)[k]? = some [D.slice (bcs r)]:=by simp [zeU,h]
def zou (o:TOp):TOp:=
 if o.kind=1 then { noOp with kind:=o.kind,topic:=o.topic }
 else if o.kind=2 then { noOp with kind:=o.kind,topic:=o.topic,recs:=o.recs }
 else if o.kind=3 then { noOp with kind:=o.kind,topic:=o.topic,group:=o.group,offset:=o.offset }
 else if o.kind=4 then { noOp with kind:=o.kind,topic:=o.topic,offset:=o.offset }
 else { noOp with kind:=o.kind }
def ziw (o:TOp):Bool:=decide (0<=o.kind/\o.kind<=4)
def zcT (name:List UInt8->Bool) (o:TOp):Int:=
 if ziw o=false∨o≠zou o then 60
 else if o.kind≠0/\name o.topic=false then 61
 else if o.kind=3/\name o.group=false then 61
 else if o.kind=2/\(o.recs.length<1∨o.recs.length > 4∨o.recs.any (fun r=>decide (r.length > 64))=true) then 62
 else if o.offset<0∨o.offset > 9007199254740992 then 60
 else 0
def zup (x:List UInt8):List UInt8:=zcA x.length++x
def ztf (rs:List (List UInt8)):List UInt8:=(rs.map zup).flatten
def opB (o:TOp):List UInt8:=
 zcA o.kind.toNat++((if o.kind≠0 then zup o.topic else []) ++
  (if o.kind=2 then zcA o.recs.length++ztf o.recs else if o.kind=3 then zup o.group++zcA o.offset.toNat else if o.kind=4 then zcA o.offset.toNat else []))
theorem opB_0 {o:TOp} (h:o.kind=0):opB o=zcA o.kind.toNat:=by simp [opB,h]
theorem opB_1 {o:TOp} (h:o.kind=1):opB o=zcA o.kind.toNat++(zcA o.topic.length++o.topic):=by simp [opB,h,zup]
theorem opB_2 {o:TOp} (h:o.kind=2):opB o=zcA o.kind.toNat++(zcA o.topic.length++(o.topic++(zcA o.recs.length++ztf o.recs))):=by simp [opB,h,zup]
theorem opB_3 {o:TOp} (h:o.kind=3):opB o=zcA o.kind.toNat++(zcA o.topic.length++(o.topic++(zcA o.group.length++(o.group++zcA o.offset.toNat)))):=by simp [opB,h,zup]
theorem opB_4 {o:TOp} (h:o.kind=4):opB o=zcA o.kind.toNat++(zcA o.topic.length++(o.topic++zcA o.offset.toNat)):=by simp [opB,h,zup]
def zlf (o:TOp):Nat:=o.topic.length+o.group.length+(o.recs.map fun r=>r.length+10).sum
theorem ziv {x:List UInt8} (h:x.length<18446744073709551616):(zup x).length<=x.length+10:=by
 have:=zm h
 simp only [zup,List.length_append];omega
theorem zlB (rs:List (List UInt8)) (h:(rs.map fun r=>r.length+10).sum<=1073741824):∀ k,(ztf (rs.take k)).length<=(rs.map fun r=>r.length+10).sum:=by
 have key:∀ l:List (List UInt8),(l.map fun r=>r.length+10).sum<=1073741824->(ztf l).length<=(l.map fun r=>r.length+10).sum:=by
  intro l
  induction l with
  | nil=>simp [ztf]
  | cons r l ih=>
   intro h
   simp only [List.map_cons,List.sum_cons] at h ⊢
   have h1:=ih (by omega)
   have h2:=ziv (x:=r) (by omega)
   simp only [ztf,List.map_cons,List.flatten_cons,List.length_append] at h1 ⊢
   omega
 have sum_take:∀ (l:List (List UInt8)) k,((l.take k).map fun r=>r.length+10).sum<=(l.map fun r=>r.length+10).sum:=by
  intro l
  induction l with
  | nil=>simp
  | cons r l ih=>
   intro k
   cases k with
   | zero=>simp
   | succ k=>simp only [List.take_succ_cons,List.map_cons,List.sum_cons];have:=ih k;omega
 intro k
 have h1:=sum_take rs k
 have:=key (rs.take k) (by omega)
 omega
theorem zyB {rs:List (List UInt8)} {k:Nat} {r:List UInt8} (h:rs[k]? = some r):ztf (rs.take (k+1))=ztf (rs.take k)++zup r:=by
 rw [List.take_add_one,h];simp [ztf]
theorem zmG (rs:List (List UInt8)):rs.length<=(rs.map fun r=>r.length+10).sum:=by
 induction rs with
 | nil=>simp
 | cons r l ih=>simp only [List.map_cons,List.sum_cons,List.length_cons];omega
theorem rec_le {rs:List (List UInt8)} {r:List UInt8} (h:r∈rs):r.length<=(rs.map fun r=>r.length+10).sum:=by
 induction rs with
 | nil=>cases h
 | cons x l ih=>
  simp only [List.map_cons,List.sum_cons]
  rcases List.mem_cons.1 h with rfl|h
  ·omega
  ·have:=ih h;omega
theorem zvv {name:List UInt8->Bool} {o:TOp} (h:zcT name o=0):0<=o.kind/\o.kind<=4/\0<=o.offset/\o.offset<=9007199254740992/\o=zou o:=by
 unfold zcT ziw at h
 grind
theorem zcz {α:Type} {a b:List α} (hl:a.length=b.length) {k:Nat} (hk:k=a.length) (h:a.take k=b.take k):a=b:=by
 rw [hk,List.take_length,hl,List.take_length] at h
 exact h
theorem zby {α:Type} {a b:List α} {k:Nat} {x y : α} (ha:a[k]? = some x) (hb:b[k]? = some y) (h:a.take k=b.take k) (e:x=y):a.take (k+1)=b.take (k+1):=by
 rw [List.take_add_one,List.take_add_one,ha,hb,h,e]
theorem list_as {α β:Type} {f : α → β}:∀ {l:List β},(∀ e∈l, ∃ a,e=f a)->∃ as_:List α,l=as_.map f
 | [],_=>⟨[],rfl⟩
 | e::l,h=>by
  obtain ⟨a,rfl⟩:=h e List.mem_cons_self
  obtain ⟨as_,rfl⟩:=list_as (l:=l) (fun x hx=>h x (List.mem_cons_of_mem _ hx))
  exact ⟨a::as_,rfl⟩
theorem fits1 {t:Ty} {d:D} (h:zgk [t] [d]):zoi t d:=h.2 0 t d rfl rfl
theorem one_of {t:Ty} {ds:List D} (h:zgk [t] ds):∃ d,ds = [d]/\zoi t d:=by
 match ds,h with
 | [d],h=>exact ⟨d,rfl,fits1 h⟩
theorem zaG {t:Ty} {ts:List Ty} {ds:List D} (h:zgk (t::ts) ds):∃ d ds',ds=d::ds' ∧ zoi t d/\zgk ts ds':=by
 match ds,h with
 | d::ds',h=>exact ⟨d,ds',rfl,h.2 0 t d rfl rfl,by have:=h.1;simpa using this,fun i t d h1 h2=>h.2 (i+1) t d h1 h2⟩
theorem zlO {ds:List D} (h:zgk [] ds):ds = []:=by
 have:=h.1;simpa using this
theorem dec_int {k:IntKind} {d:D} (h:zoi (.int k) d):∃ n,d = .int k n/\(Lit.int k n).wf=true:=by cases h with|int _ n h=>exact ⟨n,rfl,h⟩
theorem zew {d:D} (h:zoi (.int .i64) d):∃ n,d = .int .i64 n ∧ -9223372036854775808<=n/\n<=9223372036854775807:=by
 obtain ⟨n,hd,h2⟩:=dec_int h
 exact ⟨n,hd,by simpa [Lit.wf,IntKind.min,IntKind.max,IntKind.signed,IntKind.bits] using h2⟩
theorem dec_u8 {d:D} (h:zoi (.int .u8) d):∃ b:UInt8,d = .int .u8 b.toNat:=by
 obtain ⟨n,hd,h2⟩:=dec_int h
 have h':0<=n/\n<=255:=by simpa [Lit.wf,IntKind.min,IntKind.max,IntKind.signed,IntKind.bits] using h2
 exact ⟨UInt8.ofNat n.toNat,by rw [hd,zpT (by omega)];congr 1;omega⟩
theorem dec_str {d:D} (h:zoi .str d):∃ s,d = .str s:=by cases h with|str s _=>exact ⟨s,rfl⟩
theorem zmh {α:Type} {ts:List Ty} {d:D} {f : α->List D} (h:zoi (.slice ts) d) (hf:∀ e,zgk ts e->∃ a,e=f a):∃ as_:List α,d = .slice (as_.map f):=by
 cases h with
 | slice _ es h1 h2 h3=>
  obtain ⟨as_,rfl⟩:=list_as (f:=f) (fun e he=>hf e ⟨h2 e he,h3 e he⟩)
  exact ⟨as_,rfl⟩
theorem dec_bytes {d:D} (h:zoi (.slice [.int .u8]) d):∃ bs,d = .slice (bcs bs):=zmh h fun e he=>by
 obtain ⟨d,rfl,h⟩:=one_of he
 obtain ⟨b,rfl⟩:=dec_u8 h
 exact ⟨b,rfl⟩
theorem dec_recs {d:D} (h:zoi (.slice [.slice [.int .u8]]) d):∃ rs,d = .slice (zeU rs):=zmh h fun e he=>by
 obtain ⟨d,rfl,h⟩:=one_of he
 obtain ⟨b,rfl⟩:=dec_bytes h
 exact ⟨b,rfl⟩
theorem bulk_bcs (bs:List UInt8):zfq (bcs bs)=bs.length:=by
 induction bs with
 | nil=>rfl
 | cons b bs ih=>simp only [bcs,List.map_cons,zcU,zfq,zeS,ziS,List.length_cons] at ih ⊢;omega
theorem bulk_recs (rs:List (List UInt8)):zfq (zeU rs)=(rs.map fun r=>r.length+1).sum:=by
 induction rs with
 | nil=>rfl
 | cons r rs ih=>simp only [zeU,List.map_cons,zfq,zeS,ziS,List.sum_cons,bulk_bcs] at ih ⊢;omega
def zrF (n:Int):Prop := -9223372036854775808<=n/\n<=9223372036854775807
def opR (o:TOp):Prop:=zrF o.kind/\zrF o.offset
def opD (o:TOp):List D := [.int .i64 o.kind,.str o.topic,.str o.group,.int .i64 o.offset,.slice (zeU o.recs)]
theorem opSz_bulk (o:TOp):zlf o<=10*zeS (opD o):=by
 have:(o.recs.map fun r=>r.length+10).sum<=10*(o.recs.map fun r=>r.length+1).sum:=by
  induction o.recs with
  | nil=>simp
  | cons r rs ih=>simp only [List.map_cons,List.sum_cons];omega
 simp only [zlf,opD,zeS,ziS,bulk_recs]
 omega
structure zy where
 key:Int
 dig:Int
deriving DecidableEq
structure zC where
 client:Int
 time:Int
 op:TOp
 key:Int
 dig:Int
deriving DecidableEq
structure zbO where
 view:Int
 seq:Int
 dig:Int
 fkey:Int
 fdig:Int
 signs:List zy
 batch:List zC
deriving DecidableEq
structure zeP where
 seq:Int
 dig:Int
 signs:List zy
deriving DecidableEq
structure zJ where
 view:Int
 src:Int
 cert:zeP
 above:List zbO
 key:Int
 dig:Int
deriving DecidableEq
structure zaI where
 view:Int
 seq:Int
 batch:List zC
 key:Int
 dig:Int
deriving DecidableEq
def zfi (s:zy):List D := [.int .i64 s.key,.int .i64 s.dig]
abbrev zO (l:List zy):List (List D):=l.map zfi
def zaN (x:zC):List D := [.int .i64 x.client,.int .i64 x.time,.int .i64 x.op.kind,.str x.op.topic,.str x.op.group,.int .i64 x.op.offset,.slice (zeU x.op.recs),.int .i64 x.key,.int .i64 x.dig]
abbrev zaP (b:List zC):List (List D):=b.map zaN
def zei (p:zbO):List D := [.int .i64 p.view,.int .i64 p.seq,.int .i64 p.dig,.int .i64 p.fkey,.int .i64 p.fdig,.slice (zO p.signs),.slice (zaP p.batch)]
abbrev zdC (l:List zbO):List (List D):=l.map zei
def zat (c:zJ):List D := [.int .i64 c.view,.int .i64 c.src,.int .i64 c.cert.seq,.int .i64 c.cert.dig,.slice (zO c.cert.signs),.slice (zdC c.above),.int .i64 c.key,.int .i64 c.dig]
abbrev zR (l:List zJ):List (List D):=l.map zat
def zbh (x:zaI):List D := [.int .i64 x.view,.int .i64 x.seq,.slice (zaP x.batch),.int .i64 x.key,.int .i64 x.dig]
abbrev zu (l:List zaI):List (List D):=l.map zbh
theorem zec {α:Type} {f : α->List D} {n:Nat} (hf:∀ a,(f a).length=n) (l:List α):∀ e∈l.map f,e.length=n:=by
 intro e he
 obtain ⟨a,_,rfl⟩:=List.mem_map.1 he
 exact hf a
theorem zoo (l:List zy):∀ e∈zO l,e.length=2:=zec (f:=zfi) (fun _=>rfl) l
theorem batch_nine (l:List zC):∀ e∈zaP l,e.length=9:=zec (f:=zaN) (fun _=>rfl) l
theorem preps_seven (l:List zbO):∀ e∈zdC l,e.length=7:=zec (f:=zei) (fun _=>rfl) l
theorem changes_eight (l:List zJ):∀ e∈zR l,e.length=8:=zec (f:=zat) (fun _=>rfl) l
theorem entries_five (l:List zaI):∀ e∈zu l,e.length=5:=zec (f:=zbh) (fun _=>rfl) l
theorem zF {α:Type} {f : α->List D} {l:List α} {k:Nat} {x : α} (h:l[k]? = some x):(l.map f)[k]? = some (f x):=by simp [h]
theorem map_snoc {α:Type} {f : α->List D} {l:List α} {k:Nat} {x : α} (h:l[k]? = some x):(l.take k).map f++[f x]=(l.take (k+1)).map f:=by
 rw [List.take_add_one,h];simp
def tySign:List Ty := [.int .i64,.int .i64]
def tySigned:List Ty := [.int .i64,.int .i64,.int .i64,.str,.str,.int .i64,.slice [.slice [.int .u8]],.int .i64,.int .i64]
def tyPrep:List Ty := [.int .i64,.int .i64,.int .i64,.int .i64,.int .i64,.slice tySign,.slice tySigned]
def tyChange:List Ty := [.int .i64,.int .i64,.int .i64,.int .i64,.slice tySign,.slice tyPrep,.int .i64,.int .i64]
def signR (s:zy):Prop:=zrF s.key/\zrF s.dig
def signedR (x:zC):Prop:=zrF x.client/\zrF x.time/\opR x.op/\zrF x.key/\zrF x.dig
def prepR (p:zbO):Prop:=zrF p.view/\zrF p.seq/\zrF p.dig/\zrF p.fkey/\zrF p.fdig
def zgL (c:zJ):Prop:=zrF c.view/\zrF c.src/\zrF c.cert.seq/\zrF c.cert.dig/\(∀ p∈c.above,prepR p)/\zrF c.key/\zrF c.dig
theorem zzi {α:Type} {ts:List Ty} {d:D} {f : α->List D} {R : α->Prop} (h:zoi (.slice ts) d) (hf:∀ e,zgk ts e->∃ a,e=f a/\R a):∃ as_:List α,d = .slice (as_.map f)/\∀ a∈as_,R a:=by
 cases h with
 | slice _ es h1 h2 h3=>
  have:∀ l:List (List D),(∀ e∈l,zgk ts e)->∃ as_:List α,l=as_.map f/\∀ a∈as_,R a:=by
   intro l
   induction l with
   | nil=>intro _;exact ⟨[],rfl,by simp⟩
   | cons e l ih=>
    intro hl
    obtain ⟨a,rfl,ha⟩:=hf e (hl e (.head _))
    obtain ⟨as_,rfl,has⟩:=ih fun e he=>hl e (.tail _ he)
    exact ⟨a::as_,rfl,by simpa using ⟨ha,has⟩⟩
  obtain ⟨as_,rfl,h4⟩:=this es (fun e he=>⟨h2 e he,h3 e he⟩)
  exact ⟨as_,rfl,h4⟩
theorem zAE {ds:List D} (h:zgk tySign ds):∃ s:zy,ds=zfi s/\signR s:=by
 obtain ⟨d1,ds,rfl,h1,h⟩:=zaG h
 obtain ⟨d2,ds,rfl,h2,h⟩:=zaG h
 obtain rfl:=zlO h
 obtain ⟨a,rfl,ha⟩:=zew h1
 obtain ⟨b,rfl,hb⟩:=zew h2
 exact ⟨⟨a,b⟩,rfl,ha,hb⟩
theorem dec_signed {ds:List D} (h:zgk tySigned ds):∃ s:zC,ds=zaN s/\signedR s:=by
 obtain ⟨d1,ds,rfl,h1,h⟩:=zaG h
 obtain ⟨d2,ds,rfl,h2,h⟩:=zaG h
 obtain ⟨d3,ds,rfl,h3,h⟩:=zaG h
 obtain ⟨d4,ds,rfl,h4,h⟩:=zaG h
 obtain ⟨d5,ds,rfl,h5,h⟩:=zaG h
 obtain ⟨d6,ds,rfl,h6,h⟩:=zaG h
 obtain ⟨d7,ds,rfl,h7,h⟩:=zaG h
 obtain ⟨d8,ds,rfl,h8,h⟩:=zaG h
 obtain ⟨d9,ds,rfl,h9,h⟩:=zaG h
 obtain rfl:=zlO h
 obtain ⟨a1,rfl,k1⟩:=zew h1
 obtain ⟨a2,rfl,k2⟩:=zew h2
 obtain ⟨a3,rfl,k3⟩:=zew h3
 obtain ⟨a4,rfl⟩:=dec_str h4
 obtain ⟨a5,rfl⟩:=dec_str h5
 obtain ⟨a6,rfl,k6⟩:=zew h6
 obtain ⟨a7,rfl⟩:=dec_recs h7
 obtain ⟨a8,rfl,k8⟩:=zew h8
 obtain ⟨a9,rfl,k9⟩:=zew h9
 exact ⟨⟨a1,a2,⟨a3,a4,a5,a6,a7⟩,a8,a9⟩,rfl,k1,k2,⟨k3,k6⟩,k8,k9⟩
theorem dec_prep {ds:List D} (h:zgk tyPrep ds):∃ s:zbO,ds=zei s/\prepR s:=by
 obtain ⟨d1,ds,rfl,h1,h⟩:=zaG h
 obtain ⟨d2,ds,rfl,h2,h⟩:=zaG h
 obtain ⟨d3,ds,rfl,h3,h⟩:=zaG h
 obtain ⟨d4,ds,rfl,h4,h⟩:=zaG h
 obtain ⟨d5,ds,rfl,h5,h⟩:=zaG h
 obtain ⟨d6,ds,rfl,h6,h⟩:=zaG h
 obtain ⟨d7,ds,rfl,h7,h⟩:=zaG h
 obtain rfl:=zlO h
 obtain ⟨a1,rfl,k1⟩:=zew h1
 obtain ⟨a2,rfl,k2⟩:=zew h2
 obtain ⟨a3,rfl,k3⟩:=zew h3
 obtain ⟨a4,rfl,k4⟩:=zew h4
 obtain ⟨a5,rfl,k5⟩:=zew h5
 obtain ⟨a6,rfl⟩:=zmh h6 (fun e he=>(zAE he).imp fun _ h=>h.1)
 obtain ⟨a7,rfl⟩:=zmh h7 (fun e he=>(dec_signed he).imp fun _ h=>h.1)
 exact ⟨⟨a1,a2,a3,a4,a5,a6,a7⟩,rfl,k1,k2,k3,k4,k5⟩
theorem dec_change {ds:List D} (h:zgk tyChange ds):∃ s:zJ,ds=zat s/\zgL s:=by
 obtain ⟨d1,ds,rfl,h1,h⟩:=zaG h
 obtain ⟨d2,ds,rfl,h2,h⟩:=zaG h
 obtain ⟨d3,ds,rfl,h3,h⟩:=zaG h
 obtain ⟨d4,ds,rfl,h4,h⟩:=zaG h
 obtain ⟨d5,ds,rfl,h5,h⟩:=zaG h
 obtain ⟨d6,ds,rfl,h6,h⟩:=zaG h
 obtain ⟨d7,ds,rfl,h7,h⟩:=zaG h
 obtain ⟨d8,ds,rfl,h8,h⟩:=zaG h
 obtain rfl:=zlO h
 obtain ⟨a1,rfl,k1⟩:=zew h1
 obtain ⟨a2,rfl,k2⟩:=zew h2
 obtain ⟨a3,rfl,k3⟩:=zew h3
 obtain ⟨a4,rfl,k4⟩:=zew h4
 obtain ⟨a5,rfl⟩:=zmh h5 (fun e he=>(zAE he).imp fun _ h=>h.1)
 obtain ⟨a6,rfl,k6⟩:=zzi h6 (fun e he=>dec_prep he)
 obtain ⟨a7,rfl,k7⟩:=zew h7
 obtain ⟨a8,rfl,k8⟩:=zew h8
 exact ⟨⟨a1,a2,⟨a3,a4,a5⟩,a6,a7,a8⟩,rfl,k1,k2,k3,k4,k6,k7,k8⟩
def zbs (f:Int):Int:=if f<1∨f > 4 then 120 else 0
def zaR (n f:Int):Int:=if f<1∨f > 4 then 0 else n*f+1
def zfu (cs:List zJ):Nat->Int
 | 0 => -1
 | k+1=>match cs[k]? with|some c=>c.src|none => 0
def zrL (f:Int) (cs:List zJ) (k:Nat):Bool:=match cs[k]? with|some c=>decide (zfu cs k<c.src/\c.src<zaR 3 f)|none=>true
def zld (f:Int) (cs:List zJ) (k:Nat):Bool:=(List.range k).all (zrL f cs)
def zjn (f view:Int) (cs:List zJ):Int:=
 if zbs f≠0 then zbs f else if view<1∨view > 9007199254740992 then 1 else if zld f cs cs.length=false then 1 else if cs.length<zaR 2 f then 160 else 0
theorem zkd (f:Int) (cs:List zJ) (k:Nat):zld f cs (k+1)=(zld f cs k&&zrL f cs k):=by
 simp [zld,List.range_succ]
theorem zyx {f:Int} {cs:List zJ} {k:Nat} (hk:k<cs.length) (h:zrL f cs k=false):zld f cs cs.length=false:=by
 rw [zld,List.all_eq_false]
 exact ⟨k,by simpa using hk,by simp [h]⟩
theorem zsY {f:Int} {cs:List zJ}:∀ {k:Nat},k<=cs.length->zld f cs k=true → -1<=zfu cs k
 | 0,_,_=>by simp [zfu]
 | k+1,hk,h=>by
  rw [zkd,Bool.and_eq_true] at h
  have ih:=zsY (by omega) h.1
  have hx:cs[k]? = some cs[k]:=by simp [show k<cs.length by omega]
  have:=h.2
  simp only [zrL,hx,decide_eq_true_eq] at this
  simp only [zfu,hx]
  omega
theorem srcsOk_pos1 {f:Int} {cs:List zJ} {k:Nat} (hk:k<cs.length) (h:zld f cs (k+1)=true):0<=zfu cs (k+1):=by
 rw [zkd,Bool.and_eq_true] at h
 have ih:=zsY (by omega) h.1
 have hx:cs[k]? = some cs[k]:=by simp [hk]
 have:=h.2
 simp only [zrL,hx,decide_eq_true_eq] at this
 simp only [zfu,hx]
 omega
def zgN:zeP:=⟨0, 0,[]⟩
def maxI (a b:Int):Int:=if b > a then b else a
def znh (b:zeP) (c:zJ):zeP:=if c.cert.seq > b.seq then c.cert else b
def bestOf (cs:List zJ):zeP:=match cs with|[]=>zgN|c::_=>c.cert
def ziT (cs:List zJ) (k:Nat):zeP:=(cs.take k).foldl znh (bestOf cs)
def zbz (cs:List zJ) (k:Nat):List zbO:=((cs.take k).map (·.above)).flatten
def zbQ (L:List zbO):Int:=L.foldl (fun m p=>maxI m p.seq) 0
def zfT (s:Int) (o:Option zbO) (p:zbO):Option zbO:=if p.seq=s then (match o with|none=>some p|some q=>if p.view > q.view then some p else some q) else o
def zrE (L:List zbO) (s:Int):Option zbO:=L.foldl (zfT s) none
def zrv (o:Option zbO):List zC:=match o with|some p=>p.batch|none => []
def entAt (view:Int) (L:List zbO) (base:Int) (n:Nat):zaI:=⟨view,base+n+1,zrv (zrE L (base+n+1)), 0, 0⟩
def zgt (view:Int) (L:List zbO) (base:Int) (n:Nat):List zaI:=(List.range n).map (entAt view L base)
def zrZ (great base:Int):Nat:=min (great-base).toNat 8
def zfZ (f view:Int) (cs:List zJ):zeP × List zaI × Int:=
 if zjn f view cs≠0 then (zgN,[],zjn f view cs) else
  let b:=ziT cs cs.length
  let L:=zbz cs cs.length
  if b.seq<0∨zbQ L<=b.seq then (b,[], 0) else (b,zgt view L b.seq (zrZ (zbQ L) b.seq), 0)
theorem ztZ {cs:List zJ} {k:Nat} {c:zJ} (h:cs[k]? = some c):ziT cs (k+1)=znh (ziT cs k) c:=by
 simp only [ziT,List.take_add_one,h,Option.toList_some,List.foldl_append,List.foldl_cons,List.foldl_nil]
theorem zot {cs:List zJ} {k:Nat} {c:zJ} (h:cs[k]? = some c):zbz cs (k+1)=zbz cs k++c.above:=by
 simp [zbz,List.take_add_one,h]
theorem zwo (L:List zbO) (p:zbO):zbQ (L++[p])=maxI (zbQ L) p.seq:=by simp [zbQ]
theorem zwh (L:List zbO) (p:zbO) (s:Int):zrE (L++[p]) s=zfT s (zrE L s) p:=by simp [zrE]
theorem greatF_nn (L:List zbO):0<=zbQ L:=by
 have:∀ (L:List zbO) (m:Int), 0<=m → 0<=L.foldl (fun m p=>maxI m p.seq) m:=by
  intro L
  induction L with
  | nil=>intro m h;exact h
  | cons p L ih=>intro m h;exact ih _ (by simp only [maxI];split<;>omega)
 exact this L 0 (by omega)
theorem zAj {L:List zbO} {s:Int} {p:zbO} (h:zrE L s=some p):p.seq=s/\p∈L:=by
 have:∀ (L:List zbO) (o:Option zbO),L.foldl (zfT s) o=some p->(o=some p)∨(p.seq=s/\p∈L):=by
  intro L
  induction L with
  | nil=>intro o h;exact .inl h
  | cons q L ih=>
   intro o h
   rcases ih _ h with h|h
   ·unfold zfT at h
    by_cases e:q.seq=s
    ·rw [if_pos e] at h
     cases o with
     | none=>simp only [Option.some.injEq] at h;subst h;exact .inr ⟨e,.head _⟩
     | some r=>
      simp only at h
      split at h
      ·simp only [Option.some.injEq] at h;subst h;exact .inr ⟨e,.head _⟩
      ·exact .inl h
    ·rw [if_neg e] at h;exact .inl h
   ·exact .inr ⟨h.1,.tail _ h.2⟩
 rcases this L none h with h|h
 ·cases h
 ·exact h
theorem greatF_lt {L:List zbO} {m:Int} (hm:0<=m) (h:∀ p∈L,p.seq<=m):zbQ L<=m:=by
 have:∀ (L:List zbO) (a:Int),a<=m->(∀ p∈L,p.seq<=m)->L.foldl (fun m p=>maxI m p.seq) a<=m:=by
  intro L
  induction L with
  | nil=>intro a ha _;exact ha
  | cons p L ih=>intro a ha h;exact ih _ (by have:=h p (.head _);simp only [maxI];split<;>omega) (fun p hp=>h p (.tail _ hp))
 exact this L 0 hm h
theorem zzd (view:Int) (L:List zbO) (base:Int) (n:Nat):zgt view L base n++[entAt view L base n]=zgt view L base (n+1):=by
 simp [zgt,List.range_succ]
theorem zsB {cs:List zJ}:∀ {k:Nat},k<=cs.length->cs≠[]->∃ c∈cs,ziT cs k=c.cert
 | 0,_,h=>by
  cases cs with
  | nil=>exact absurd rfl h
  | cons c cs=>exact ⟨c,.head _,rfl⟩
 | k+1,hk,h=>by
  obtain ⟨c,hc,e⟩:=zsB (k:=k) (by omega) h
  have hx:cs[k]? = some cs[k]:=by simp [show k<cs.length by omega]
  rw [ztZ hx,znh]
  split
  ·exact ⟨_,List.getElem_mem _,rfl⟩
  ·exact ⟨c,hc,e⟩
end Go.AW
