/- Chapter 25: what the law is handed, decoded. -/
import Derived.Test.YtfgbofkdhfjegaaGreatNr3
import Derived.Test.YtfgbofkdhfjegaaGreatBv1
import Derived.Test.YtfgbofkdhfjegaaGreatCk4
import Derived.Test.YtfgbofkdhfjegaaGreatBt3
set_option linter.all false
set_option maxRecDepth 100000
namespace Go.Proofs.YtfgbofkdhfjegaaGreat
open Go.AW
theorem dec_bool {d:D} (h:ziY .bool d):∃ b,d = .bool b:=by cases h with|bool b=>exact ⟨b,rfl⟩
def tyEntry:List Ty := [.int .i64,.int .i64,.slice zrG,.int .i64,.int .i64]
def tyM1:List Ty := [.int .i64,.int .i64,.int .i64,.int .i64,.int .i64,.int .i64,.int .i64,.int .i64,.int .i64,.slice zrG]
def tyM2:List Ty := [.slice tyChange,.slice tyEntry,.slice [.int .u8],.str,.int .i64]
def tyMsg:List Ty:=tyM1++(tyCert++(tyM2++(tyProof++zqK)))
theorem zlK {b:List Ty}:∀ {a:List Ty} {ds:List D},zcs (a++b) ds->∃ x y,ds=x++y/\zcs a x/\zcs b y
 | [],ds,h=>⟨[],ds,rfl,⟨rfl,by simp⟩,h⟩
 | t::a,ds,h=>by
  obtain ⟨d,ds,rfl,h1,h⟩:=zq (t:=t) (ts:=a++b) h
  obtain ⟨x,y,rfl,h2,h3⟩:=zlK (a:=a) h
  refine ⟨d::x,y,rfl,⟨by simp [h2.1],fun i t' d' ht hd => ?_⟩,h3⟩
  cases i with
  | zero=>simp only [List.getElem?_cons_zero,Option.some.injEq] at ht hd;subst ht;subst hd;exact h1
  | succ i=>exact h2.2 i t' d' (by simpa using ht) (by simpa using hd)
theorem dec_entry {ds:List D} (h:zcs tyEntry ds):∃ s:zmp,ds=zhp s:=by
 obtain ⟨d1,ds,rfl,h1,h⟩:=zq h
 obtain ⟨d2,ds,rfl,h2,h⟩:=zq h
 obtain ⟨d3,ds,rfl,h3,h⟩:=zq h
 obtain ⟨d4,ds,rfl,h4,h⟩:=zq h
 obtain ⟨d5,ds,rfl,h5,h⟩:=zq h
 obtain rfl:=zdR h
 obtain ⟨a1,rfl,_⟩:=zaA h1
 obtain ⟨a2,rfl,_⟩:=zaA h2
 obtain ⟨a3,rfl⟩:=zer (f:=zch) h3 (fun e he=>(zqC he).imp fun _ h=>h.1)
 obtain ⟨a4,rfl,_⟩:=zaA h4
 obtain ⟨a5,rfl,_⟩:=zaA h5
 exact ⟨⟨a1,a2,a3,a4,a5⟩,rfl⟩
theorem okB_bulk {b:List zo} (h:zdl (zdm b)<=1048576):okB b/\zoJ b:=by
 have hl:=leB_bulk h
 refine ⟨⟨by have:=hl.1;omega,fun x hx => ?_⟩,by have:=hl.1;omega,fun x hx=>⟨by have:=(hl.2 x hx).1;omega,fun r hr=>by have:=(hl.2 x hx).2 r hr;omega⟩⟩
 have e:=zfM (l:=b) (f:=zch) hx
 unfold zdm at h
 simp only [zch,zcJ,zeO] at e
 exact ⟨by omega,by omega,by have:=(hl.2 x hx).1;omega,fun r hr=>by have:=(hl.2 x hx).2 r hr;omega⟩
theorem okCh_bulk {c:zgg} (h:zcJ (zes c)<=1048576):okCh c/\zmF c:=by
 simp only [zes,zcJ,zeO] at h
 have b1:=signs_bulk c.cert.signs
 have b2:=zdv (f:=znQ) (fun a=>by simp only [znQ,zcJ,zeO];omega) c.above
 have e2:zdl (c.above.map znQ)=zdl (zuu c.above):=rfl
 have key:∀ p∈c.above,p.signs.length<=1048576/\okB p.batch/\zoJ p.batch:=fun p hp=>by
  have e:=zfM (l:=c.above) (f:=znQ) hp
  simp only [znQ,zcJ,zeO] at e
  have b3:=signs_bulk p.signs
  exact ⟨by omega,okB_bulk (by omega)⟩
 exact ⟨⟨by omega,by omega,fun p hp=>⟨by have:=(key p hp).1;omega,(key p hp).2.1⟩⟩,by omega,by omega,fun p hp=>⟨by have:=(key p hp).1;omega,(key p hp).2.2⟩⟩
structure TM1 where
 kind:Int
 src:Int
 view:Int
 seq:Int
 dig:Int
 client:Int
 time:Int
 rerr:Int
 roff:Int
 batch:List zo
structure TM2 where
 changes:List zgg
 entries:List zmp
 state:List UInt8
 topic:List UInt8
 offset:Int
def m1D (m:TM1):List D := [.int .i64 m.kind,.int .i64 m.src,.int .i64 m.view,.int .i64 m.seq,.int .i64 m.dig,.int .i64 m.client,.int .i64 m.time,.int .i64 m.rerr,.int .i64 m.roff,.slice (zdm m.batch)]
def m2D (m:TM2):List D := [.slice (zmY m.changes),.slice (zmU m.entries),.slice (bcs m.state),.str m.topic,.int .i64 m.offset]
theorem dec_m1 {ds:List D} (h:zcs tyM1 ds):∃ m:TM1,ds=m1D m:=by
 obtain ⟨d1,ds,rfl,h1,h⟩:=zq h
 obtain ⟨d2,ds,rfl,h2,h⟩:=zq h
 obtain ⟨d3,ds,rfl,h3,h⟩:=zq h
 obtain ⟨d4,ds,rfl,h4,h⟩:=zq h
 obtain ⟨d5,ds,rfl,h5,h⟩:=zq h
 obtain ⟨d6,ds,rfl,h6,h⟩:=zq h
 obtain ⟨d7,ds,rfl,h7,h⟩:=zq h
 obtain ⟨d8,ds,rfl,h8,h⟩:=zq h
 obtain ⟨d9,ds,rfl,h9,h⟩:=zq h
 obtain ⟨d10,ds,rfl,h10,h⟩:=zq h
 obtain rfl:=zdR h
 obtain ⟨a1,rfl,_⟩:=zaA h1
 obtain ⟨a2,rfl,_⟩:=zaA h2
 obtain ⟨a3,rfl,_⟩:=zaA h3
 obtain ⟨a4,rfl,_⟩:=zaA h4
 obtain ⟨a5,rfl,_⟩:=zaA h5
 obtain ⟨a6,rfl,_⟩:=zaA h6
 obtain ⟨a7,rfl,_⟩:=zaA h7
 obtain ⟨a8,rfl,_⟩:=zaA h8
 obtain ⟨a9,rfl,_⟩:=zaA h9
 obtain ⟨a10,rfl⟩:=zer (f:=zch) h10 (fun e he=>(zqC he).imp fun _ h=>h.1)
 exact ⟨⟨a1,a2,a3,a4,a5,a6,a7,a8,a9,a10⟩,rfl⟩
theorem dec_m2 {ds:List D} (h:zcs tyM2 ds):∃ m:TM2,ds=m2D m:=by
 obtain ⟨d1,ds,rfl,h1,h⟩:=zq h
 obtain ⟨d2,ds,rfl,h2,h⟩:=zq h
 obtain ⟨d3,ds,rfl,h3,h⟩:=zq h
 obtain ⟨d4,ds,rfl,h4,h⟩:=zq h
 obtain ⟨d5,ds,rfl,h5,h⟩:=zq h
 obtain rfl:=zdR h
 obtain ⟨a1,rfl⟩:=zer (f:=zes) h1 (fun e he=>(dec_change he).imp fun _ h=>h.1)
 obtain ⟨a2,rfl⟩:=zer (f:=zhp) h2 (fun e he=>dec_entry he)
 obtain ⟨a3,rfl⟩:=ztb h3
 obtain ⟨a4,rfl⟩:=zsZ h4
 obtain ⟨a5,rfl,_⟩:=zaA h5
 exact ⟨⟨a1,a2,a3,a4,a5⟩,rfl⟩
theorem dec_msg {ds:List D} (h:zcs tyMsg ds) (hb:zcJ ds<=1048576):∃ m:zlI,ds=msgD m/\zid m:=by
 obtain ⟨x1,ds,rfl,h1,h⟩:=zlK h
 obtain ⟨x2,ds,rfl,h2,h⟩:=zlK h
 obtain ⟨x3,ds,rfl,h3,h⟩:=zlK h
 obtain ⟨x4,x5,rfl,h4,h5⟩:=zlK h
 simp only [zrb] at hb
 obtain ⟨m1,rfl⟩:=dec_m1 h1
 obtain ⟨c,rfl,hc⟩:=dec_cert h2 (by omega)
 obtain ⟨m2,rfl⟩:=dec_m2 h3
 obtain ⟨p,rfl,hp⟩:=dec_proof h4 (by omega)
 obtain ⟨g,rfl,_⟩:=zrO h5
 have b1:zcJ (m1D m1)<=1048576:=by omega
 have b2:zcJ (m2D m2)<=1048576:=by omega
 clear hb h h1 h2 h3 h4 h5
 refine ⟨⟨m1.kind,m1.src,m1.view,m1.seq,m1.dig,m1.client,m1.time,m1.rerr,m1.roff,m1.batch,c,m2.changes,m2.entries,m2.state,m2.topic,m2.offset,p,g.key,g.dig⟩,rfl,?_⟩
 simp only [m1D,zcJ,zeO] at b1
 simp only [m2D,zcJ,zeO,zwG] at b2
 have b10:=okB_bulk (b:=m1.batch) (by omega)
 have b14:=zdv (f:=zes) (fun a=>by simp only [zes,zcJ,zeO];omega) m2.changes
 have b15:=zdv (f:=zhp) (fun a=>by simp only [zhp,zcJ,zeO];omega) m2.entries
 have e14:zdl (m2.changes.map zes)=zdl (zmY m2.changes):=rfl
 have e15:zdl (m2.entries.map zhp)=zdl (zmU m2.entries):=rfl
 refine ⟨b10.1,b10.2,?_,?_,fun y hy => ?_,?_,fun x hx => ?_,hp.small,?_,?_⟩
 ·simp only;omega
 ·simp only;omega
 ·have e:=zfM (l:=m2.changes) (f:=zes) hy
  exact okCh_bulk (by omega)
 ·simp only;omega
 ·have e:=zfM (l:=m2.entries) (f:=zhp) hx
  simp only [zhp,zcJ,zeO] at e
  exact okB_bulk (by omega)
 ·simp only;omega
 ·simp only;omega
structure TAct where
 do_:Int
 offset:Int
 turn:Bool
 m:zlI
abbrev actD (a:TAct):List D := .int .i64 a.do_::.int .i64 a.offset::.bool a.turn::msgD a.m
abbrev actsE (l:List TAct):List (List D):=l.map actD
def tyAct:List Ty := .int .i64::.int .i64::.bool::tyMsg
structure TCas where
 f:Int
 me:Int
 topic:List UInt8
 offset:Int
 recs:List (List UInt8)
 voters:Nat
 bad:List zI
 acts:List TAct
def tyCas:List Ty := [.int .i64,.int .i64,.str,.int .i64,.slice [.slice [.int .u8]],.int .u16,.slice zqK,.slice tyAct]
abbrev casD (c:TCas):List D := [.int .i64 c.f,.int .i64 c.me,.str c.topic,.int .i64 c.offset,.slice (zbT c.recs),.int .u16 c.voters,.slice (zaW c.bad),.slice (actsE c.acts)]
abbrev znm (c:TCas):List AV:=(casD c).map .d
def actOk (a:TAct):Prop:=ziK a.offset/\zid a.m
structure casOk (c:TCas):Prop where
 f:ziK c.f
 me:ziK c.me
 topic:c.topic.length<=1048576
 offset:ziK c.offset
 recs:c.recs.length<=1048576
 each:∀ r∈c.recs,r.length<=1048576
 voters:c.voters<65536
 bad:c.bad.length<=1048576
 many:c.acts.length<=1048576
 acts:∀ a∈c.acts,actOk a
theorem dec_act {ds:List D} (h:zcs tyAct ds) (hb:zcJ ds<=1048576):∃ a:TAct,ds=actD a/\actOk a:=by
 obtain ⟨d1,ds,rfl,h1,h⟩:=zq h
 obtain ⟨d2,ds,rfl,h2,h⟩:=zq h
 obtain ⟨d3,ds,rfl,h3,hm⟩:=zq h
 clear h
 obtain ⟨a1,rfl,_⟩:=zaA h1
 obtain ⟨a2,rfl,k2⟩:=zaA h2
 obtain ⟨a3,rfl⟩:=dec_bool h3
 obtain ⟨m,rfl,hs⟩:=dec_msg hm (by simp only [zcJ] at hb;omega)
 exact ⟨⟨a1,a2,a3,m⟩,rfl,k2,hs⟩
theorem dec_acts {d:D} (h:ziY (.slice tyAct) d) (hb:zeO d<=1048576):∃ l:List TAct,d = .slice (actsE l)/\(∀ a∈l,actOk a)/\l.length<=1048576:=by
 cases h with
 | slice _ es h1 h2 h3=>
  simp only [zeO] at hb
  have:∀ l:List (List D),(∀ e∈l,zcs tyAct e)->zdl l<=1048576->∃ as_:List TAct,l=as_.map actD/\(∀ a∈as_,actOk a):=by
   intro l
   induction l with
   | nil=>intro _ _;exact ⟨[],rfl,by simp⟩
   | cons e l ih=>
    intro hl hb
    simp only [zdl] at hb
    obtain ⟨a,rfl,ha⟩:=dec_act (hl e (.head _)) (by omega)
    obtain ⟨as_,rfl,has⟩:=ih (fun e he=>hl e (.tail _ he)) (by omega)
    exact ⟨a::as_,rfl,by simpa using ⟨ha,has⟩⟩
  obtain ⟨as_,rfl,h4⟩:=this es (fun e he=>⟨h2 e he,h3 e he⟩) (by omega)
  have b7:=zdv (f:=actD) (fun a=>by simp only [actD,zcJ,zeO];omega) as_
  exact ⟨as_,rfl,h4,by omega⟩
theorem dec_cas {ds:List D} (h:zcs tyCas ds) (hb:zcJ ds<=1048576):∃ c,ds=casD c/\casOk c:=by
 obtain ⟨d1,ds,rfl,h1,h⟩:=zq h
 obtain ⟨d2,ds,rfl,h2,h⟩:=zq h
 obtain ⟨d3,ds,rfl,h3,h⟩:=zq h
 obtain ⟨d4,ds,rfl,h4,h⟩:=zq h
 obtain ⟨d5,ds,rfl,h5,h⟩:=zq h
 obtain ⟨d6,ds,rfl,h6,h⟩:=zq h
 obtain ⟨d7,ds,rfl,h7,h⟩:=zq h
 obtain ⟨d8,ds,rfl,h8,h⟩:=zq h
 obtain rfl:=zdR h
 obtain ⟨a1,rfl,k1⟩:=zaA h1
 obtain ⟨a2,rfl,k2⟩:=zaA h2
 obtain ⟨a3,rfl⟩:=zsZ h3
 obtain ⟨a4,rfl,k4⟩:=zaA h4
 obtain ⟨a5,rfl⟩:=dec_recs h5
 obtain ⟨a6,rfl,k6⟩:=dec_u16' h6
 obtain ⟨a7,rfl⟩:=zta h7
 simp only [zcJ] at hb
 obtain ⟨a8,rfl,k8,k9⟩:=dec_acts h8 (by omega)
 simp only [zeO] at hb
 have b5:=zny a5
 have b7:=signs_bulk a7
 refine ⟨⟨a1,a2,a3,a4,a5,a6,a7,a8⟩,rfl,k1,k2,?_,k4,?_,fun r hr => ?_,k6,?_,k9,k8⟩
 ·simp only;omega
 ·have:=b5.1;simp only;omega
 ·have:=b5.2 r hr;omega
 ·simp only;omega
end Go.Proofs.YtfgbofkdhfjegaaGreat
