/- Contract: what chapter 23 begins with. -/
import Derived.Test.YtfgbofkdhfjegaaGreatBv1
import Derived.Test.YtfgbofkdhfjegaaGreatSpChk
import Derived.Test.YtfgbofkdhfjegaaGreatSpUtf
import Derived.Test.YtfgbofkdhfjegaaGreatPf1
import Derived.Test.YtfgbofkdhfjegaaGreatOpC
import Derived.Test.YtfgbofkdhfjegaaGreatOp1
set_option linter.all false
set_option maxRecDepth 100000
namespace Go.Proofs.YtfgbofkdhfjegaaGreat
open Go.AW
abbrev zero25:List AV := [.exact [],.d (.int .i64 0),.d (.int .i64 0),.d (.int .i64 0),.d (.int .i64 0),.d (.int .i64 0),.d (.int .i64 0),.d (.int .i64 0),.d (.int .i64 0),.d (.int .i64 0),.d (.int .i64 0),.d (.int .i64 0),.d (.int .i64 0),.d (.int .i64 0),.d (.int .i64 0),.d (.int .i64 0),.d (.int .i64 0),.d (.int .i64 0),.d (.int .i64 0),.d (.int .i64 0),.d (.int .i64 0),.d (.int .i64 0),.d (.int .i64 0),.d (.int .i64 0),.d (.int .i64 0)]
end Go.Proofs.YtfgbofkdhfjegaaGreat

/- Messages: which may be. No program in sight. -/
namespace Go.AW
structure zjF where
 kind:Int
 src:Int
 view:Int
 seq:Int
 dig:Int
 client:Int
 time:Int
 rerr:Int
 roff:Int
 batch:List zt
 cert:zeX
 changes:List zfK
 entries:List zmz
 state:List UInt8
 topic:List UInt8
 offset:Int
 proof:zbW
 key:Int
 sdig:Int
def zCert:zeX:=⟨0, 0,[]⟩
def znm:zbW:=⟨[], 0,[],[], 0, 0,[],zCert⟩
def zgE:zjF:=⟨0, 0, 0, 0, 0, 0, 0, 0, 0,[],zCert,[],[],[],[], 0,znm, 0, 0⟩
abbrev msgL (m:zjF):List AV:=
 [.d (.int .i64 m.kind),.d (.int .i64 m.src),.d (.int .i64 m.view),.d (.int .i64 m.seq),.d (.int .i64 m.dig),.d (.int .i64 m.client),.d (.int .i64 m.time),.d (.int .i64 m.rerr),.d (.int .i64 m.roff),.d (.slice (zda m.batch)),
  .d (.int .i64 m.cert.seq),.d (.int .i64 m.cert.dig),.d (.slice (zaI m.cert.signs)),.d (.slice (zkl m.changes)),.d (.slice (zkh m.entries)),.d (.slice (bcs m.state)),.d (.str m.topic),.d (.int .i64 m.offset),
  .d (.str m.proof.topic),.d (.int .i64 m.proof.offset),.d (.slice (bcs m.proof.rec_)),.d (.slice (zgR m.proof.headers)),.d (.int .i64 m.proof.index),.d (.int .i64 m.proof.count),.d (.slice (zcH m.proof.path)),.d (.int .i64 m.proof.cert.seq),.d (.int .i64 m.proof.cert.dig),.d (.slice (zaI m.proof.cert.signs)),.d (.int .i64 m.key),.d (.int .i64 m.sdig)]
abbrev zwl (m:zjF):AV := .agg (msgL m)
abbrev msgO (m:zjF):zh := .box (msgL m)
def brkE (n:Int):Int:=inE n 0 12
def prepErr (p:zoQ):List Int:=zgm p.view::zwO p.seq::zwO p.dig::zah p.fkey p.fdig::(zfo p.signs++[zad p.batch])
def bodyErr (c:zfK):List Int:=zwO c.view::brkE c.src::(zep c.cert++(inE c.above.length 0 8::(c.above.map prepErr).flatten))
def zvl (c:zfK):List Int:=bodyErr c++[zah c.key c.dig]
def entryErr (x:zmz):List Int := [zgm x.view,zwO x.seq,zad x.batch,zah x.key x.dig]
def voteErr (m:zjF):List Int := [brkE m.src,zgm m.view,zwO m.seq,zwO m.dig]
def newvErr (m:zjF):List Int:=brkE m.src::zwO m.view::inE m.changes.length 0 13::((m.changes.map zvl).flatten++(inE m.entries.length 0 8::(m.entries.map entryErr).flatten))
def ownK (k:Int):Bool:=decide (2<=k/\k<=9/\k≠7)
def zyr (m:zjF):List Int:=
 if m.kind=1 then [inE m.batch.length 1 1,zad m.batch]
 else if m.kind=2 then voteErr m++[zad m.batch]
 else if m.kind=3∨m.kind=4 then voteErr m
 else if m.kind=5 then [brkE m.src,zgm m.view,inE m.client 0 7,zgm m.time,inE m.rerr 0 65536,zgm m.roff]
 else if m.kind=6 then [brkE m.src,zwO m.seq,zwO m.dig]
 else if m.kind=7 then inE m.changes.length 1 1::(m.changes.map fun c=>zvl c++[if c.src≠m.src∨c.view≠m.view then 100 else 0]).flatten
 else if m.kind=8 then newvErr m
 else if m.kind=9 then [brkE m.src,zgm m.seq]
 else if m.kind=10 then brkE m.src::(zep m.cert++[inE m.state.length 0 262144])
 else if m.kind=11 then [inE m.client 0 7,zqy m.topic,zgm m.offset]
 else if m.kind=12 then brkE m.src::zgD m.proof
 else [100]
def zoX (m:zjF):List Int:=zyr m++(if ownK m.kind=true then [zah m.key m.sdig] else [])
def zvA (m:zjF):zjF:=
 if m.kind=1 then { zgE with kind:=m.kind,batch:=m.batch }
 else if m.kind=2 then { zgE with kind:=m.kind,src:=m.src,view:=m.view,seq:=m.seq,dig:=m.dig,batch:=m.batch,key:=m.key,sdig:=m.sdig }
 else if m.kind=3∨m.kind=4 then { zgE with kind:=m.kind,src:=m.src,view:=m.view,seq:=m.seq,dig:=m.dig,key:=m.key,sdig:=m.sdig }
 else if m.kind=5 then { zgE with kind:=m.kind,src:=m.src,view:=m.view,client:=m.client,time:=m.time,rerr:=m.rerr,roff:=m.roff,key:=m.key,sdig:=m.sdig }
 else if m.kind=6 then { zgE with kind:=m.kind,src:=m.src,seq:=m.seq,dig:=m.dig,key:=m.key,sdig:=m.sdig }
 else if m.kind=7 then { zgE with kind:=m.kind,src:=m.src,view:=m.view,changes:=m.changes }
 else if m.kind=8 then { zgE with kind:=m.kind,src:=m.src,view:=m.view,changes:=m.changes,entries:=m.entries,key:=m.key,sdig:=m.sdig }
 else if m.kind=9 then { zgE with kind:=m.kind,src:=m.src,seq:=m.seq,key:=m.key,sdig:=m.sdig }
 else if m.kind=10 then { zgE with kind:=m.kind,src:=m.src,cert:=m.cert,state:=m.state }
 else if m.kind=11 then { zgE with kind:=m.kind,client:=m.client,topic:=m.topic,offset:=m.offset }
 else if m.kind=12 then { zgE with kind:=m.kind,src:=m.src,proof:=m.proof }
 else { zgE with kind:=m.kind,src:=m.src }
deriving instance DecidableEq for zbW
deriving instance DecidableEq for zjF
def zhA (m:zjF):Int:=if zbz (zoX m)≠0 then zbz (zoX m) else if m=zvA m then 0 else 100
end Go.AW

/- A client that reads. No program in sight. -/
namespace Go.Proofs.YtfgbofkdhfjegaaGreat
open Go.AW
abbrev msgD (m:zjF):List D:=
 [.int .i64 m.kind,.int .i64 m.src,.int .i64 m.view,.int .i64 m.seq,.int .i64 m.dig,.int .i64 m.client,.int .i64 m.time,.int .i64 m.rerr,.int .i64 m.roff,.slice (zda m.batch),
  .int .i64 m.cert.seq,.int .i64 m.cert.dig,.slice (zaI m.cert.signs),.slice (zkl m.changes),.slice (zkh m.entries),.slice (bcs m.state),.str m.topic,.int .i64 m.offset,
  .str m.proof.topic,.int .i64 m.proof.offset,.slice (bcs m.proof.rec_),.slice (zgR m.proof.headers),.int .i64 m.proof.index,.int .i64 m.proof.count,.slice (zcH m.proof.path),.int .i64 m.proof.cert.seq,.int .i64 m.proof.cert.dig,.slice (zaI m.proof.cert.signs),.int .i64 m.key,.int .i64 m.sdig]
abbrev outD (o:Int × zjF):List D := .int .i64 o.1::msgD o.2
abbrev zqw (l:List (Int × zjF)):List (List D):=l.map outD
structure zkJ where
 f:Int
 me:Int
 topic:List UInt8
 next:Int
 L:List zbi
 broker:Int
 wait:Int
def zfE (f me:Int) (topic:List UInt8) (offset:Int):Int:=
 if zcZ f≠0 then zcZ f else if me<0∨me≥8 then 1 else if zex topic=false then 61 else if offset<0∨offset≥9007199254740992 then 1 else 0
def zqh (f me:Int) (topic:List UInt8) (offset:Int):zkJ:=⟨f,me,topic,offset,[], 0, 0⟩
def askM (r:zkJ):zjF:={ zgE with kind := 11,client:=r.me,topic:=r.topic,offset:=r.next }
def zvD (r:zkJ):List (Int × zjF):=if r.next=9007199254740992 then [] else [(r.broker,askM r)]
def zrF (r:zkJ):zkJ:=if r.wait+1<4 then { r with wait:=r.wait+1 } else { r with wait := 0,broker:=(r.broker+1).tmod (zcA 3 r.f) }
def zrG (r:zkJ):List (Int × zjF):=if r.wait+1<4 then [] else zvD (zrF r)
def zdu (L:List (List UInt8)) (G:List zR) (r:zkJ) (m:zjF):Int:=
 if m.kind≠12∨zhA m≠0∨m.proof.topic≠r.topic∨m.proof.offset≠r.next∨r.next=9007199254740992 then 250 else zoF L G r.f m.proof
def zde (r:zkJ) (m:zjF):zkJ:={ r with L:=r.L++[⟨r.topic,r.next,m.proof.rec_⟩],next:=r.next+1,wait := 0 }
def takeR (L:List (List UInt8)) (G:List zR) (r:zkJ) (m:zjF):zkJ:=if zdu L G r m=0 then zde r m else r
structure zwg (n:Nat) (r:zkJ):Prop where
 f:1<=r.f/\r.f<=4
 next:0<=r.next/\r.next<=9007199254740992
 broker:0<=r.broker/\r.broker<13
 wait:0<=r.wait/\r.wait<4
 topic:r.topic.length<=1048576
 len:r.L.length<=n
 recs:∀ p∈r.L,p.rec_.length<=16777216/\p.topic=r.topic
theorem checkF_0 {f:Int}:zcZ f=0↔1<=f/\f<=4:=by
 unfold zcZ;split<;>omega
theorem newRE_0 {f me:Int} {topic:List UInt8} {offset:Int} (h:zfE f me topic offset=0):(1<=f/\f<=4)/\0<=offset/\offset<9007199254740992:=by
 unfold zfE at h
 split at h
 ·rename_i e;exact absurd h e
 rename_i e
 split at h
 ·simp at h
 split at h
 ·simp at h
 split at h
 ·simp at h
 ·exact ⟨checkF_0.1 (Classical.not_not.1 e),by omega,by omega⟩
theorem newR_I {f me:Int} {topic:List UInt8} {offset:Int} (h:zfE f me topic offset=0) (ht:topic.length<=1048576):zwg 0 (zqh f me topic offset):=by
 have:=newRE_0 h
 exact ⟨this.1,⟨this.2.1,by simp only [zqh];omega⟩,by simp [zqh],by simp [zqh],ht,by simp [zqh],by simp [zqh]⟩
theorem zwg.mono {n m:Nat} {r:zkJ} (h:zwg n r) (hn:n<=m):zwg m r:=⟨h.f,h.next,h.broker,h.wait,h.topic,by have:=h.len;omega,h.recs⟩
theorem tick_I {n:Nat} {r:zkJ} (h:zwg n r):zwg n (zrF r):=by
 have hw:=h.wait
 unfold zrF
 split
 ·exact ⟨h.f,h.next,h.broker,by simp only;omega,h.topic,h.len,h.recs⟩
 ·refine ⟨h.f,h.next,?_,by simp,h.topic,h.len,h.recs⟩
  have hf:=h.f
  have e:zcA 3 r.f=3*r.f+1:=by rw [zcA,if_neg (by omega)]
  have hb:=h.broker
  simp only [e]
  have h1:=Int.tmod_lt_of_pos (r.broker+1) (show 0<3*r.f+1 by omega)
  have h2:=Int.tmod_nonneg (3*r.f+1) (show 0<=r.broker+1 by omega)
  omega
theorem take_I {n:Nat} {L:List (List UInt8)} {G:List zR} {r:zkJ} {m:zjF} (h:zwg n r) (hm:m.proof.rec_.length<=16777216):zwg (n+1) (takeR L G r m):=by
 have hl:=h.len
 unfold takeR
 split
 ·rename_i e
  have hn:r.next≠9007199254740992:=fun e2=>by
   rw [zdu,if_pos (.inr (.inr (.inr (.inr e2))))] at e;simp at e
  have h2:=h.next
  refine ⟨h.f,⟨by simp only [zde];omega,by simp only [zde];omega⟩,h.broker,by simp [zde],h.topic,by simp [zde];omega,fun p hp => ?_⟩
  simp only [zde,List.mem_append,List.mem_singleton] at hp
  rcases hp with hp|rfl
  ·exact h.recs p hp
  ·exact ⟨hm,rfl⟩
 ·exact h.mono (by omega)
theorem c_Same1 {σ:List zh} {a b:zt} (ha:a.op.recs.length<=1073741824) (hb:b.op.recs.length<=1073741824) {K:KT} (hK:K (.d (.bool (decide (a=b)))) σ):zp Tryz.prog zfW [zkz a,zkz b] σ K:=by
 refine zeW ztu fun hl => ?_
 have e:a=b↔a.key=b.key/\a.dig=b.dig/\a.client=b.client/\a.time=b.time/\a.op=b.op:=by cases a;cases b;simp;constructor<;>(intro h;simp_all)
 have fin:∀ z,decide (a=b)=z->K (.d (.bool z)) σ:=fun z h=>h▸hK
 clear hK
 simp only [zmA,iN,bT,bF,eN,zkz]
 cases h1:(a.key==b.key)
 ·refine zqi h1 ?_
  refine zI hl ?_
  refine fin _ (decide_eq_false fun h => ?_)
  have:=(e.1 h).1;simp [this] at h1
 cases h2:(a.dig==b.dig)
 ·refine zqi (zP h1 h2) ?_
  refine zI hl ?_
  refine fin _ (decide_eq_false fun h => ?_)
  have:=(e.1 h).2.1;simp [this] at h2
 cases h3:(a.client==b.client)
 ·refine zqi (zP h1 (zP h2 h3)) ?_
  refine zI hl ?_
  refine fin _ (decide_eq_false fun h => ?_)
  have:=(e.1 h).2.2.1;simp [this] at h3
 cases h4:(a.time==b.time)
 ·refine zqi (zP h1 (zP h2 (zP h3 h4))) ?_
  refine zI hl ?_
  refine fin _ (decide_eq_false fun h => ?_)
  have:=(e.1 h).2.2.2.1;simp [this] at h4
 refine zqi (zP h1 (zP h2 (zP h3 h4))) ?_
 refine c_Same (a:=a.op) (b:=b.op) ha hb ?_
 refine zdS ?_
 refine zI hl ?_
 refine fin _ ?_
 rw [Bool.eq_iff_iff,decide_eq_true_eq,decide_eq_true_eq,e]
 simp only [beq_iff_eq] at h1 h2 h3 h4
 simp [h1,h2,h3,h4]
theorem zrg {σ:List zh} {a b:List zt} (ha:zkO a) (hb:zkO b) {K:KT} (hK:K (.d (.bool (decide (a=b)))) σ) :
  zp Tryz.prog zaz [.d (.slice (zda a)),.d (.slice (zda b)),.fn (.func zfW) [] []] σ K:=by
 refine acE3 zcr fun hl => ?_
 have fin:∀ z,decide (a=b)=z->K (.d (.bool z)) σ:=fun z h=>h▸hK
 clear hK
 obtain ⟨ha1,ha2⟩:=ha
 obtain ⟨hb1,hb2⟩:=hb
 simp only [zbe,iN,bT,bF,eN,zl8]
 cases hl0:((a.length:Int) != (b.length:Int))
 rotate_left
 ·refine zaQ hl0 ?_
  refine zI hl ?_
  refine fin _ (decide_eq_false fun h => ?_)
  rw [h] at hl0;simp at hl0
 have hl2:a.length=b.length:=by simp at hl0;omega
 refine zaQ hl0 ?_
 refine zo a.length (fun k vs s=>vs = [.d (.int .i64 k)]/\(∃ T,s = σ++T)/\a.take k=b.take k) ⟨rfl,⟨[],by simp⟩,by simp⟩ ?_
 rintro k vs s hk ⟨rfl,⟨T,rfl⟩,htk⟩
 by_cases hlt:k<a.length
 ·have hd:decide ((k:Int)<(a.length:Int))=true:=by simp;omega
  have hx:a[k]? = some a[k]:=by simp [hlt]
  have hy:b[k]? = some (b[k]'(by omega)):=List.getElem?_eq_getElem _
  have hgx:=zK (f:=zbX) hx
  have hgy:=zK (f:=zbX) hy
  have hxs:=(ha2 _ (List.getElem_mem hlt)).1
  have hys:=(hb2 _ (List.getElem_mem (show k<b.length by omega))).1
  obtain ⟨x,hxe⟩:∃ x,a[k]=x:=⟨_,rfl⟩
  obtain ⟨y,hye⟩:∃ y,(b[k]'(by omega))=y:=⟨_,rfl⟩
  rw [hxe] at hx hgx hxs
  rw [hye] at hy hgy hys
  obtain ⟨S,hS⟩:∃ S, σ++T=S:=⟨_,rfl⟩
  rw [hS]
  refine zqi (zP hd (zP hgx hgy)) ?_
  refine c_Same1 (a:=x) (b:=y) hxs hys ?_
  cases he:decide (x=y)
  ·refine zaQ hd ?_
   rw [← hS,List.append_assoc]
   refine zI hl ?_
   refine fin _ (decide_eq_false fun h => ?_)
   subst h
   rw [hx] at hy
   have:=Option.some.inj hy
   simp [this] at he
  ·refine zaQ (wk1 k (by omega)) ?_
   exact zas.next hlt ⟨rfl,⟨_,by rw [← hS,List.append_assoc]⟩,zbc hx hy htk (by simpa using he)⟩
 ·have hd:decide ((k:Int)<(a.length:Int))=false:=by simp;omega
  refine zaQ hd ?_
  refine zI hl ?_
  exact fin _ (decide_eq_true (zbN hl2 (k:=k) (by omega) htk))
theorem zvp {σ:List zh} {a b:List zt} (ha:zkO a) (hb:zkO b) {K:KT} (hK:K (.d (.bool (decide (a=b)))) σ):zp Tryz.prog zfN [.d (.slice (zda a)),.d (.slice (zda b))] σ K:=by
 refine zeW zwr fun hl => ?_
 simp only [zpg,iN,bT,bF,eN]
 refine zdS ?_
 refine zrg ha hb ?_
 refine zdS ?_
 refine zI hl ?_
 exact hK
end Go.Proofs.YtfgbofkdhfjegaaGreat
