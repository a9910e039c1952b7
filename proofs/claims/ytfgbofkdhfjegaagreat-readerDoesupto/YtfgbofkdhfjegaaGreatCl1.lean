/- Contracts: bytes.Clone. -/
import Derived.Test.YtfgbofkdhfjegaaGreatSh
import Derived.Test.YtfgbofkdhfjegaaGreatAwEnd
import Derived.IntWalk
import Derived.Test.YtfgbofkdhfjegaaGreatAwTy
set_option linter.all false
set_option maxRecDepth 100000
namespace Go.Proofs.YtfgbofkdhfjegaaGreat
open Go.AW
theorem zzl {σ:List zh} {es:List (List D)} {K:KT} (he:∀ e∈es,e.length=1) (hn:es.length<=1073741824) (hK:K (.own σ.length es) (σ++[.tok 1 es.length])):zp Tryz.prog zfx [.d (.slice es)] σ K:=by
 refine zp.tok he ?_ hK
 refine zcl zqW.is rfl (fun s=>if s.length = σ.length then [] else [σ.length]) fun hl _=>zqW.goes ?_
 simp only [zrv,iN,bT,bF,eN,zao,zdo]
 cases es with
 | nil=>
  refine ⟨?_,?_⟩
  ·simp only [zX,zO,zG]
   exact zmk (by simp) hl rfl (by simp)
  ·simp only [zX,zE,zG,zS,rep,zr,zeC,zag,zD,zdI]
   refine ⟨by simp,by simp,by simp,?_⟩
   exact zlf hl (by simp) (by simp)
 | cons e es=>
  simp only [zX,zE,zG,zS,rep,zr,zeC,zag,zD,zdI]
  refine ⟨he,by simp,by simp at hn ⊢;omega,?_⟩
  exact zlf hl (by simp) (by simp)
end Go.Proofs.YtfgbofkdhfjegaaGreat

/- How a number is put: seven bits a byte. No program in sight. -/
namespace Go.AW
def zdi (n:Nat):List UInt8:=if n<128 then [UInt8.ofNat n] else UInt8.ofNat (n % 128+128)::zdi (n / 128)
termination_by n
decreasing_by omega
theorem zop {n:Nat} (h:n<128):zdi n = [UInt8.ofNat n]:=by rw [zdi,if_pos h]
theorem zys {n:Nat} (h:¬ n<128):zdi n=UInt8.ofNat (n % 128+128)::zdi (n / 128):=by rw [zdi,if_neg h]
theorem numB_len:∀ (k n:Nat),n<128 ^ (k+1) → 1<=(zdi n).length/\(zdi n).length<=k+1
 | 0,n,h=>by rw [zop (by simpa using h)];simp
 | k+1,n,h=>by
  by_cases hs:n<128
  ·rw [zop hs];simp
  ·rw [zys hs]
   have:=numB_len k (n / 128) (by rw [Nat.div_lt_iff_lt_mul (by omega)];rw [Nat.pow_succ] at h;exact h)
   simp;omega
theorem zJ {n:Nat} (h:n<18446744073709551616):1<=(zdi n).length/\(zdi n).length<=10:=numB_len 9 n (by omega)
theorem or128:∀ x:Fin 256,(BitVec.ofInt 8 (x.val:Int) ||| BitVec.ofInt 8 128).toNat=x.val % 128+128:=by decide +kernel
theorem wrap8 (n:Nat):IntKind.u8.wrap (n:Int)=((n % 256:Nat):Int):=by
 simp [IntKind.wrap,IntKind.signed,IntKind.bits]
theorem ztM {n:Nat} (h:n<256):IntKind.u8.wrap (n:Int)=(n:Int):=by rw [wrap8,Nat.mod_eq_of_lt h]
theorem zdm {n:Nat} (h:n<18446744073709551616):IntKind.u64.wrap (n:Int)=(n:Int):=by
 simp [IntKind.wrap,IntKind.signed,IntKind.bits]
 omega
theorem zU {n:Int} (h1 : -9223372036854775808<=n) (h2:n<=9223372036854775807):IntKind.i64.wrap n=n:=IntWalk.i64_in n ⟨h1,h2⟩
theorem zoD {n:Nat} (h:n<256):((UInt8.ofNat n).toNat:Int)=(n:Int):=by
 simp;omega
structure TOp where
 kind:Int
 topic:List UInt8
 group:List UInt8
 offset:Int
 recs:List (List UInt8)
deriving DecidableEq
def zbY (rs:List (List UInt8)):List (List D):=rs.map fun r => [D.slice (bcs r)]
def opA (o:TOp):AV := .agg [.d (.int .i64 o.kind),.d (.str o.topic),.d (.str o.group),.d (.int .i64 o.offset),.d (.slice (zbY o.recs))]
def noOp:TOp:=⟨0,[],[], 0,[]⟩
theorem zuq (rs:List (List UInt8)):∀ e∈zbY rs,e.length=1:=by
 intro e he
 obtain ⟨r,_,rfl⟩:=List.mem_map.1 he
 rfl
theorem zF (rs:List (List UInt8)):(zbY rs).length=rs.length:=by simp [zbY]
theorem zhL {rs:List (List UInt8)} {k:Nat} {r:List UInt8} (h:rs[k]? = some r):(zbY rs)[k]? = some [D.slice (bcs r)]:=by simp [zbY,h]
def onlyF (o:TOp):TOp:=
 if o.kind=1 then { noOp with kind:=o.kind,topic:=o.topic }
 else if o.kind=2 then { noOp with kind:=o.kind,topic:=o.topic,recs:=o.recs }
 else if o.kind=3 then { noOp with kind:=o.kind,topic:=o.topic,group:=o.group,offset:=o.offset }
 else if o.kind=4 then { noOp with kind:=o.kind,topic:=o.topic,offset:=o.offset }
 else { noOp with kind:=o.kind }
def zkd (o:TOp):Bool:=decide (0<=o.kind/\o.kind<=4)
def zbG (name:List UInt8->Bool) (o:TOp):Int:=
 if zkd o=false∨o≠onlyF o then 60
 else if o.kind≠0/\name o.topic=false then 61
 else if o.kind=3/\name o.group=false then 61
 else if o.kind=2/\(o.recs.length<1∨o.recs.length > 4∨o.recs.any (fun r=>decide (r.length > 64))=true) then 62
 else if o.offset<0∨o.offset > 9007199254740992 then 60
 else 0
def zqr (x:List UInt8):List UInt8:=zdi x.length++x
def zmW (rs:List (List UInt8)):List UInt8:=(rs.map zqr).flatten
def opB (o:TOp):List UInt8:=
 zdi o.kind.toNat++((if o.kind≠0 then zqr o.topic else []) ++
  (if o.kind=2 then zdi o.recs.length++zmW o.recs else if o.kind=3 then zqr o.group++zdi o.offset.toNat else if o.kind=4 then zdi o.offset.toNat else []))
theorem opB_0 {o:TOp} (h:o.kind=0):opB o=zdi o.kind.toNat:=by simp [opB,h]
theorem opB_1 {o:TOp} (h:o.kind=1):opB o=zdi o.kind.toNat++(zdi o.topic.length++o.topic):=by simp [opB,h,zqr]
theorem opB_2 {o:TOp} (h:o.kind=2):opB o=zdi o.kind.toNat++(zdi o.topic.length++(o.topic++(zdi o.recs.length++zmW o.recs))):=by simp [opB,h,zqr]
theorem opB_3 {o:TOp} (h:o.kind=3):opB o=zdi o.kind.toNat++(zdi o.topic.length++(o.topic++(zdi o.group.length++(o.group++zdi o.offset.toNat)))):=by simp [opB,h,zqr]
theorem opB_4 {o:TOp} (h:o.kind=4):opB o=zdi o.kind.toNat++(zdi o.topic.length++(o.topic++zdi o.offset.toNat)):=by simp [opB,h,zqr]
def zlI (o:TOp):Nat:=o.topic.length+o.group.length+(o.recs.map fun r=>r.length+10).sum
theorem zgC {x:List UInt8} (h:x.length<18446744073709551616):(zqr x).length<=x.length+10:=by
 have:=zJ h
 simp only [zqr,List.length_append];omega
theorem zoW (rs:List (List UInt8)) (h:(rs.map fun r=>r.length+10).sum<=1073741824):∀ k,(zmW (rs.take k)).length<=(rs.map fun r=>r.length+10).sum:=by
 have key:∀ l:List (List UInt8),(l.map fun r=>r.length+10).sum<=1073741824->(zmW l).length<=(l.map fun r=>r.length+10).sum:=by
  intro l
  induction l with
  | nil=>simp [zmW]
  | cons r l ih=>
   intro h
   simp only [List.map_cons,List.sum_cons] at h ⊢
   have h1:=ih (by omega)
   have h2:=zgC (x:=r) (by omega)
   simp only [zmW,List.map_cons,List.flatten_cons,List.length_append] at h1 ⊢
   omega
 have zyh:∀ (l:List (List UInt8)) k,((l.take k).map fun r=>r.length+10).sum<=(l.map fun r=>r.length+10).sum:=by
  intro l
  induction l with
  | nil=>simp
  | cons r l ih=>
   intro k
   cases k with
   | zero=>simp
   | succ k=>simp only [List.take_succ_cons,List.map_cons,List.sum_cons];have:=ih k;omega
 intro k
 have h1:=zyh rs k
 have:=key (rs.take k) (by omega)
 omega
theorem recsB_snoc {rs:List (List UInt8)} {k:Nat} {r:List UInt8} (h:rs[k]? = some r):zmW (rs.take (k+1))=zmW (rs.take k)++zqr r:=by
 rw [List.take_add_one,h];simp [zmW]
theorem zlO (rs:List (List UInt8)):rs.length<=(rs.map fun r=>r.length+10).sum:=by
 induction rs with
 | nil=>simp
 | cons r l ih=>simp only [List.map_cons,List.sum_cons,List.length_cons];omega
theorem rec_le {rs:List (List UInt8)} {r:List UInt8} (h:r∈rs):r.length<=(rs.map fun r=>r.length+10).sum:=by
 induction rs with
 | nil=>cases h
 | cons x l ih=>
  simp only [List.map_cons,List.sum_cons]
  rcases List.mem_cons.1 h with rfl|h
  ·omega
  ·have:=ih h;omega
theorem check_ok {name:List UInt8->Bool} {o:TOp} (h:zbG name o=0):0<=o.kind/\o.kind<=4/\0<=o.offset/\o.offset<=9007199254740992/\o=onlyF o:=by
 unfold zbG zkd at h
 grind
theorem zbN {α:Type} {a b:List α} (hl:a.length=b.length) {k:Nat} (hk:k=a.length) (h:a.take k=b.take k):a=b:=by
 rw [hk,List.take_length,hl,List.take_length] at h
 exact h
theorem zbc {α:Type} {a b:List α} {k:Nat} {x y : α} (ha:a[k]? = some x) (hb:b[k]? = some y) (h:a.take k=b.take k) (e:x=y):a.take (k+1)=b.take (k+1):=by
 rw [List.take_add_one,List.take_add_one,ha,hb,h,e]
theorem list_as {α β:Type} {f : α → β}:∀ {l:List β},(∀ e∈l, ∃ a,e=f a)->∃ as_:List α,l=as_.map f
 | [],_=>⟨[],rfl⟩
 | e::l,h=>by
  obtain ⟨a,rfl⟩:=h e List.mem_cons_self
  obtain ⟨as_,rfl⟩:=list_as (l:=l) (fun x hx=>h x (List.mem_cons_of_mem _ hx))
  exact ⟨a::as_,rfl⟩
theorem fits1 {t:Ty} {d:D} (h:zcF [t] [d]):zjW t d:=h.2 0 t d rfl rfl
theorem one_of {t:Ty} {ds:List D} (h:zcF [t] ds):∃ d,ds = [d]/\zjW t d:=by
 match ds,h with
 | [d],h=>exact ⟨d,rfl,fits1 h⟩
theorem zu {t:Ty} {ts:List Ty} {ds:List D} (h:zcF (t::ts) ds):∃ d ds',ds=d::ds' ∧ zjW t d/\zcF ts ds':=by
 match ds,h with
 | d::ds',h=>exact ⟨d,ds',rfl,h.2 0 t d rfl rfl,by have:=h.1;simpa using this,fun i t d h1 h2=>h.2 (i+1) t d h1 h2⟩
theorem zet {ds:List D} (h:zcF [] ds):ds = []:=by
 have:=h.1;simpa using this
theorem dec_int {k:IntKind} {d:D} (h:zjW (.int k) d):∃ n,d = .int k n/\(Lit.int k n).wf=true:=by cases h with|int _ n h=>exact ⟨n,rfl,h⟩
theorem zaG {d:D} (h:zjW (.int .i64) d):∃ n,d = .int .i64 n ∧ -9223372036854775808<=n/\n<=9223372036854775807:=by
 obtain ⟨n,hd,h2⟩:=dec_int h
 exact ⟨n,hd,by simpa [Lit.wf,IntKind.min,IntKind.max,IntKind.signed,IntKind.bits] using h2⟩
theorem dec_u8 {d:D} (h:zjW (.int .u8) d):∃ b:UInt8,d = .int .u8 b.toNat:=by
 obtain ⟨n,hd,h2⟩:=dec_int h
 have h':0<=n/\n<=255:=by simpa [Lit.wf,IntKind.min,IntKind.max,IntKind.signed,IntKind.bits] using h2
 exact ⟨UInt8.ofNat n.toNat,by rw [hd,zoD (by omega)];congr 1;omega⟩
theorem zvg {d:D} (h:zjW .str d):∃ s,d = .str s:=by cases h with|str s _=>exact ⟨s,rfl⟩
theorem zfm {α:Type} {ts:List Ty} {d:D} {f : α->List D} (h:zjW (.slice ts) d) (hf:∀ e,zcF ts e->∃ a,e=f a):∃ as_:List α,d = .slice (as_.map f):=by
 cases h with
 | slice _ es h1 h2 h3=>
  obtain ⟨as_,rfl⟩:=list_as (f:=f) (fun e he=>hf e ⟨h2 e he,h3 e he⟩)
  exact ⟨as_,rfl⟩
theorem zvi {d:D} (h:zjW (.slice [.int .u8]) d):∃ bs,d = .slice (bcs bs):=zfm h fun e he=>by
 obtain ⟨d,rfl,h⟩:=one_of he
 obtain ⟨b,rfl⟩:=dec_u8 h
 exact ⟨b,rfl⟩
theorem dec_recs {d:D} (h:zjW (.slice [.slice [.int .u8]]) d):∃ rs,d = .slice (zbY rs):=zfm h fun e he=>by
 obtain ⟨d,rfl,h⟩:=one_of he
 obtain ⟨b,rfl⟩:=zvi h
 exact ⟨b,rfl⟩
theorem zzp (bs:List UInt8):zdE (bcs bs)=bs.length:=by
 induction bs with
 | nil=>rfl
 | cons b bs ih=>simp only [bcs,List.map_cons,zcz,zdE,zcW,zfJ,List.length_cons] at ih ⊢;omega
def zjT (n:Int):Prop := -9223372036854775808<=n/\n<=9223372036854775807
def opR (o:TOp):Prop:=zjT o.kind/\zjT o.offset
structure zR where
 key:Int
 dig:Int
deriving DecidableEq
structure zt where
 client:Int
 time:Int
 op:TOp
 key:Int
 dig:Int
deriving DecidableEq
structure zoQ where
 view:Int
 seq:Int
 dig:Int
 fkey:Int
 fdig:Int
 signs:List zR
 batch:List zt
deriving DecidableEq
structure zeX where
 seq:Int
 dig:Int
 signs:List zR
deriving DecidableEq
structure zfK where
 view:Int
 src:Int
 cert:zeX
 above:List zoQ
 key:Int
 dig:Int
deriving DecidableEq
structure zmz where
 view:Int
 seq:Int
 batch:List zt
 key:Int
 dig:Int
deriving DecidableEq
def zgz (s:zR):List D := [.int .i64 s.key,.int .i64 s.dig]
abbrev zaI (l:List zR):List (List D):=l.map zgz
def zbX (x:zt):List D := [.int .i64 x.client,.int .i64 x.time,.int .i64 x.op.kind,.str x.op.topic,.str x.op.group,.int .i64 x.op.offset,.slice (zbY x.op.recs),.int .i64 x.key,.int .i64 x.dig]
abbrev zda (b:List zt):List (List D):=b.map zbX
def zjU (p:zoQ):List D := [.int .i64 p.view,.int .i64 p.seq,.int .i64 p.dig,.int .i64 p.fkey,.int .i64 p.fdig,.slice (zaI p.signs),.slice (zda p.batch)]
abbrev zqt (l:List zoQ):List (List D):=l.map zjU
def certD (c:zeX):List D := [.int .i64 c.seq,.int .i64 c.dig,.slice (zaI c.signs)]
def zdq (c:zfK):List D := [.int .i64 c.view,.int .i64 c.src,.int .i64 c.cert.seq,.int .i64 c.cert.dig,.slice (zaI c.cert.signs),.slice (zqt c.above),.int .i64 c.key,.int .i64 c.dig]
abbrev zkl (l:List zfK):List (List D):=l.map zdq
def zgT (x:zmz):List D := [.int .i64 x.view,.int .i64 x.seq,.slice (zda x.batch),.int .i64 x.key,.int .i64 x.dig]
abbrev zkh (l:List zmz):List (List D):=l.map zgT
theorem zjk {α:Type} {f : α->List D} {n:Nat} (hf:∀ a,(f a).length=n) (l:List α):∀ e∈l.map f,e.length=n:=by
 intro e he
 obtain ⟨a,_,rfl⟩:=List.mem_map.1 he
 exact hf a
theorem zK {α:Type} {f : α->List D} {l:List α} {k:Nat} {x : α} (h:l[k]? = some x):(l.map f)[k]? = some (f x):=by simp [h]
def zsE:List Ty := [.int .i64,.int .i64]
def ztO:List Ty := [.int .i64,.int .i64,.int .i64,.str,.str,.int .i64,.slice [.slice [.int .u8]],.int .i64,.int .i64]
def tyPrep:List Ty := [.int .i64,.int .i64,.int .i64,.int .i64,.int .i64,.slice zsE,.slice ztO]
def tyChange:List Ty := [.int .i64,.int .i64,.int .i64,.int .i64,.slice zsE,.slice tyPrep,.int .i64,.int .i64]
def signR (s:zR):Prop:=zjT s.key/\zjT s.dig
def signedR (x:zt):Prop:=zjT x.client/\zjT x.time/\opR x.op/\zjT x.key/\zjT x.dig
def prepR (p:zoQ):Prop:=zjT p.view/\zjT p.seq/\zjT p.dig/\zjT p.fkey/\zjT p.fdig
def changeR (c:zfK):Prop:=zjT c.view/\zjT c.src/\zjT c.cert.seq/\zjT c.cert.dig/\(∀ p∈c.above,prepR p)/\zjT c.key/\zjT c.dig
theorem zxp {α:Type} {ts:List Ty} {d:D} {f : α->List D} {R : α->Prop} (h:zjW (.slice ts) d) (hf:∀ e,zcF ts e->∃ a,e=f a/\R a):∃ as_:List α,d = .slice (as_.map f)/\∀ a∈as_,R a:=by
 cases h with
 | slice _ es h1 h2 h3=>
  have:∀ l:List (List D),(∀ e∈l,zcF ts e)->∃ as_:List α,l=as_.map f/\∀ a∈as_,R a:=by
   intro l
   induction l with
   | nil=>intro _;exact ⟨[],rfl,by simp⟩
   | cons e l ih=>
    intro hl
    obtain ⟨a,rfl,ha⟩:=hf e (hl e (.head _))
    obtain ⟨as_,rfl,has⟩:=ih fun e he=>hl e (.tail _ he)
    exact ⟨a::as_,rfl,by simpa using ⟨ha,has⟩⟩
  obtain ⟨as_,rfl,h4⟩:=this es (fun e he=>⟨h2 e he,h3 e he⟩)
  exact ⟨as_,rfl,h4⟩
theorem ztW {ds:List D} (h:zcF zsE ds):∃ s:zR,ds=zgz s/\signR s:=by
 obtain ⟨d1,ds,rfl,h1,h⟩:=zu h
 obtain ⟨d2,ds,rfl,h2,h⟩:=zu h
 obtain rfl:=zet h
 obtain ⟨a,rfl,ha⟩:=zaG h1
 obtain ⟨b,rfl,hb⟩:=zaG h2
 exact ⟨⟨a,b⟩,rfl,ha,hb⟩
theorem zsv {ds:List D} (h:zcF ztO ds):∃ s:zt,ds=zbX s/\signedR s:=by
 obtain ⟨d1,ds,rfl,h1,h⟩:=zu h
 obtain ⟨d2,ds,rfl,h2,h⟩:=zu h
 obtain ⟨d3,ds,rfl,h3,h⟩:=zu h
 obtain ⟨d4,ds,rfl,h4,h⟩:=zu h
 obtain ⟨d5,ds,rfl,h5,h⟩:=zu h
 obtain ⟨d6,ds,rfl,h6,h⟩:=zu h
 obtain ⟨d7,ds,rfl,h7,h⟩:=zu h
 obtain ⟨d8,ds,rfl,h8,h⟩:=zu h
 obtain ⟨d9,ds,rfl,h9,h⟩:=zu h
 obtain rfl:=zet h
 obtain ⟨a1,rfl,k1⟩:=zaG h1
 obtain ⟨a2,rfl,k2⟩:=zaG h2
 obtain ⟨a3,rfl,k3⟩:=zaG h3
 obtain ⟨a4,rfl⟩:=zvg h4
 obtain ⟨a5,rfl⟩:=zvg h5
 obtain ⟨a6,rfl,k6⟩:=zaG h6
 obtain ⟨a7,rfl⟩:=dec_recs h7
 obtain ⟨a8,rfl,k8⟩:=zaG h8
 obtain ⟨a9,rfl,k9⟩:=zaG h9
 exact ⟨⟨a1,a2,⟨a3,a4,a5,a6,a7⟩,a8,a9⟩,rfl,k1,k2,⟨k3,k6⟩,k8,k9⟩
theorem dec_prep {ds:List D} (h:zcF tyPrep ds):∃ s:zoQ,ds=zjU s/\prepR s:=by
 obtain ⟨d1,ds,rfl,h1,h⟩:=zu h
 obtain ⟨d2,ds,rfl,h2,h⟩:=zu h
 obtain ⟨d3,ds,rfl,h3,h⟩:=zu h
 obtain ⟨d4,ds,rfl,h4,h⟩:=zu h
 obtain ⟨d5,ds,rfl,h5,h⟩:=zu h
 obtain ⟨d6,ds,rfl,h6,h⟩:=zu h
 obtain ⟨d7,ds,rfl,h7,h⟩:=zu h
 obtain rfl:=zet h
 obtain ⟨a1,rfl,k1⟩:=zaG h1
 obtain ⟨a2,rfl,k2⟩:=zaG h2
 obtain ⟨a3,rfl,k3⟩:=zaG h3
 obtain ⟨a4,rfl,k4⟩:=zaG h4
 obtain ⟨a5,rfl,k5⟩:=zaG h5
 obtain ⟨a6,rfl⟩:=zfm h6 (fun e he=>(ztW he).imp fun _ h=>h.1)
 obtain ⟨a7,rfl⟩:=zfm h7 (fun e he=>(zsv he).imp fun _ h=>h.1)
 exact ⟨⟨a1,a2,a3,a4,a5,a6,a7⟩,rfl,k1,k2,k3,k4,k5⟩
theorem dec_change {ds:List D} (h:zcF tyChange ds):∃ s:zfK,ds=zdq s/\changeR s:=by
 obtain ⟨d1,ds,rfl,h1,h⟩:=zu h
 obtain ⟨d2,ds,rfl,h2,h⟩:=zu h
 obtain ⟨d3,ds,rfl,h3,h⟩:=zu h
 obtain ⟨d4,ds,rfl,h4,h⟩:=zu h
 obtain ⟨d5,ds,rfl,h5,h⟩:=zu h
 obtain ⟨d6,ds,rfl,h6,h⟩:=zu h
 obtain ⟨d7,ds,rfl,h7,h⟩:=zu h
 obtain ⟨d8,ds,rfl,h8,h⟩:=zu h
 obtain rfl:=zet h
 obtain ⟨a1,rfl,k1⟩:=zaG h1
 obtain ⟨a2,rfl,k2⟩:=zaG h2
 obtain ⟨a3,rfl,k3⟩:=zaG h3
 obtain ⟨a4,rfl,k4⟩:=zaG h4
 obtain ⟨a5,rfl⟩:=zfm h5 (fun e he=>(ztW he).imp fun _ h=>h.1)
 obtain ⟨a6,rfl,k6⟩:=zxp h6 (fun e he=>dec_prep he)
 obtain ⟨a7,rfl,k7⟩:=zaG h7
 obtain ⟨a8,rfl,k8⟩:=zaG h8
 exact ⟨⟨a1,a2,⟨a3,a4,a5⟩,a6,a7,a8⟩,rfl,k1,k2,k3,k4,k6,k7,k8⟩
end Go.AW
