/- Messages: which may be. No program in sight. -/
import Derived.Test.YtpgahkdjkanblaaGreatSpTab
import Derived.Test.YtpgahkdjkanblaaGreatCk2
set_option linter.all false
namespace Go.AW
structure zcS where
 kind:Int
 src:Int
 view:Int
 seq:Int
 dig:Int
 client:Int
 time:Int
 rerr:Int
 roff:Int
 batch:List zC
 cert:zeP
 changes:List zJ
 entries:List zaI
 state:List UInt8
 topic:List UInt8
 offset:Int
 proof:znu
 key:Int
 sdig:Int
def zCert:zeP:=⟨0, 0,[]⟩
def zti:znu:=⟨[], 0,[],[], 0, 0,[],zCert⟩
def zed:zcS:=⟨0, 0, 0, 0, 0, 0, 0, 0, 0,[],zCert,[],[],[],[], 0,zti, 0, 0⟩
abbrev msgL (m:zcS):List AV:=
 [.d (.int .i64 m.kind),.d (.int .i64 m.src),.d (.int .i64 m.view),.d (.int .i64 m.seq),.d (.int .i64 m.dig),.d (.int .i64 m.client),.d (.int .i64 m.time),.d (.int .i64 m.rerr),.d (.int .i64 m.roff),.d (.slice (zaP m.batch)),
  .d (.int .i64 m.cert.seq),.d (.int .i64 m.cert.dig),.d (.slice (zO m.cert.signs)),.d (.slice (zR m.changes)),.d (.slice (zu m.entries)),.d (.slice (bcs m.state)),.d (.str m.topic),.d (.int .i64 m.offset),
  .d (.str m.proof.topic),.d (.int .i64 m.proof.offset),.d (.slice (bcs m.proof.rec_)),.d (.slice (znX m.proof.headers)),.d (.int .i64 m.proof.index),.d (.int .i64 m.proof.count),.d (.slice (ziN m.proof.path)),.d (.int .i64 m.proof.cert.seq),.d (.int .i64 m.proof.cert.dig),.d (.slice (zO m.proof.cert.signs)),.d (.int .i64 m.key),.d (.int .i64 m.sdig)]
abbrev zeR (m:zcS):AV := .agg (msgL m)
abbrev zqk (m:zcS):zd := .box (msgL m)
def zxh (n:Int):Int:=inE n 0 12
def zeb (p:zbO):List Int:=zlL p.view::zrD p.seq::zrD p.dig::zN p.fkey p.fdig::(zcs p.signs++[zr p.batch])
def zey (c:zJ):List Int:=zrD c.view::zxh c.src::(zdd c.cert++(inE c.above.length 0 8::(c.above.map zeb).flatten))
def zaY (c:zJ):List Int:=zey c++[zN c.key c.dig]
def zep (x:zaI):List Int := [zlL x.view,zrD x.seq,zr x.batch,zN x.key x.dig]
def voteErr (m:zcS):List Int := [zxh m.src,zlL m.view,zrD m.seq,zrD m.dig]
def zfN (m:zcS):List Int:=zxh m.src::zrD m.view::inE m.changes.length 0 13::((m.changes.map zaY).flatten++(inE m.entries.length 0 8::(m.entries.map zep).flatten))
def zvQ (k:Int):Bool:=decide (2<=k/\k<=9/\k≠7)
def zmI (m:zcS):List Int:=
 if m.kind=1 then [inE m.batch.length 1 1,zr m.batch]
 else if m.kind=2 then voteErr m++[zr m.batch]
 else if m.kind=3∨m.kind=4 then voteErr m
 else if m.kind=5 then [zxh m.src,zlL m.view,inE m.client 0 7,zlL m.time,inE m.rerr 0 65536,zlL m.roff]
 else if m.kind=6 then [zxh m.src,zrD m.seq,zrD m.dig]
 else if m.kind=7 then inE m.changes.length 1 1::(m.changes.map fun c=>zaY c++[if c.src≠m.src∨c.view≠m.view then 100 else 0]).flatten
 else if m.kind=8 then zfN m
 else if m.kind=9 then [zxh m.src,zlL m.seq]
 else if m.kind=10 then zxh m.src::(zdd m.cert++[inE m.state.length 0 262144])
 else if m.kind=11 then [inE m.client 0 7,nameE m.topic,zlL m.offset]
 else if m.kind=12 then zxh m.src::proofErr m.proof
 else [100]
def zfA (m:zcS):List Int:=zmI m++(if zvQ m.kind=true then [zN m.key m.sdig] else [])
def zmo (m:zcS):zcS:=
 if m.kind=1 then { zed with kind:=m.kind,batch:=m.batch }
 else if m.kind=2 then { zed with kind:=m.kind,src:=m.src,view:=m.view,seq:=m.seq,dig:=m.dig,batch:=m.batch,key:=m.key,sdig:=m.sdig }
 else if m.kind=3∨m.kind=4 then { zed with kind:=m.kind,src:=m.src,view:=m.view,seq:=m.seq,dig:=m.dig,key:=m.key,sdig:=m.sdig }
 else if m.kind=5 then { zed with kind:=m.kind,src:=m.src,view:=m.view,client:=m.client,time:=m.time,rerr:=m.rerr,roff:=m.roff,key:=m.key,sdig:=m.sdig }
 else if m.kind=6 then { zed with kind:=m.kind,src:=m.src,seq:=m.seq,dig:=m.dig,key:=m.key,sdig:=m.sdig }
 else if m.kind=7 then { zed with kind:=m.kind,src:=m.src,view:=m.view,changes:=m.changes }
 else if m.kind=8 then { zed with kind:=m.kind,src:=m.src,view:=m.view,changes:=m.changes,entries:=m.entries,key:=m.key,sdig:=m.sdig }
 else if m.kind=9 then { zed with kind:=m.kind,src:=m.src,seq:=m.seq,key:=m.key,sdig:=m.sdig }
 else if m.kind=10 then { zed with kind:=m.kind,src:=m.src,cert:=m.cert,state:=m.state }
 else if m.kind=11 then { zed with kind:=m.kind,client:=m.client,topic:=m.topic,offset:=m.offset }
 else if m.kind=12 then { zed with kind:=m.kind,src:=m.src,proof:=m.proof }
 else { zed with kind:=m.kind,src:=m.src }
deriving instance DecidableEq for znu
deriving instance DecidableEq for zcS
def zaD (m:zcS):Int:=if zbg (zfA m)≠0 then zbg (zfA m) else if m=zmo m then 0 else 100
end Go.AW

/- Contracts: what is asked of votes, prepared certificates, view-changes and new views. -/
set_option maxRecDepth 100000
namespace Go.Proofs.YtpgahkdjkanblaaGreat
open Go.AW
structure znR (σ:List zd) (id:Nat) (B:zd) (P:List Int) (S:List zd):Prop where
 a:S[id]? = some (zgX (zbg P))
 b:S[σ.length]? = some B
 pre:∃ τ,S = σ.set id (zgX (zbg P)) ++ τ
section
variable {σ S:List zd} {id:Nat} {B:zd} {P P':List Int}
theorem znR.first (hσ : σ[id]? = some (zgX (zbg P))) (B:zd):znR σ id B P (σ++[B]):=⟨zn hσ,by rw [zD];rfl,[B],by rw [zcm hσ]⟩
theorem znR.set (h:znR σ id B P S) (hid:id < σ.length) (P':List Int):znR σ id B P' (S.set id (zgX (zbg P'))):=by
 obtain ⟨h1,h2, τ,h3⟩:=h
 refine ⟨List.getElem?_set_self (zcY h1),(List.getElem?_set_ne (by omega)).trans h2, τ,?_⟩
 rw [h3,List.set_append_left _ _ (by simpa using hid),List.set_set]
theorem znR.app (h:znR σ id B P S) (τ:List zd):znR σ id B P (S ++ τ):=by
 obtain ⟨h1,h2, τ',h3⟩:=h
 exact ⟨zn h1,zn h2, τ' ++ τ,by rw [h3,List.append_assoc]⟩
theorem znR.done (h:znR σ id B P S) {K:KT} (hl:zgl σ.length σ) (hK:K (.tup []) (σ.set id (zgX (zbg P)))):AW.Ends σ.length K (some []) S:=by
 obtain ⟨_,_, τ,rfl⟩:=h
 exact zgS (by simp [zcq,dmT,zaU]) hl (zjQ _ _) hK
theorem znR.as (h:znR σ id B P S) (e:P=P'):znR σ id B P' S:=e▸h
end
section
variable {σ:List zd} {id:Nat} {P:List Int} {K:KT}
theorem c_aBroker {n:Int} (hσ : σ[id]? = some (zgX (zbg P))) (hK:K (.tup []) (σ.set id (zgX (zbg (P++[zxh n]))))):zj Tryz.prog zaM [.box id 0,.d (.int .i64 n)] σ K:=by
 refine zeE zog fun hl => ?_
 simp only [zid,iN,bT,bF,eN]
 refine zQ ?_
 refine c_aIn hσ ?_
 exact zgJ (by simp [zcq,dmT,zaU]) hl (zjQ _ _) hK
end
section
variable {σ S:List zd} {id:Nat} {B:zd} {P:List Int} {K:KT} (j:znR σ id B P S) (hid:id < σ.length)
include j hid
theorem zyS {x:Int} (hK:∀ S,znR σ id B (P++[x]) S->K (.tup []) S):zj Tryz.prog zS [.box id 0,.d (.int .i64 x)] S K:=c_aSays j.a (hK _ (j.set hid _))
theorem j_in {n lo hi:Int} (hK:∀ S,znR σ id B (P++[inE n lo hi]) S->K (.tup []) S):zj Tryz.prog zaK [.box id 0,.d (.int .i64 n),.d (.int .i64 lo),.d (.int .i64 hi)] S K:=c_aIn j.a (hK _ (j.set hid _))
theorem j_num {n:Int} (hK:∀ S,znR σ id B (P++[zlL n]) S->K (.tup []) S):zj Tryz.prog zas [.box id 0,.d (.int .i64 n)] S K:=c_aNum j.a (hK _ (j.set hid _))
theorem j_pos {n:Int} (hK:∀ S,znR σ id B (P++[zrD n]) S->K (.tup []) S):zj Tryz.prog zaO [.box id 0,.d (.int .i64 n)] S K:=c_aPos j.a (hK _ (j.set hid _))
theorem j_many {n hi:Int} (hK:∀ S,znR σ id B (P++[inE n 0 hi]) S->K (.tup []) S):zj Tryz.prog zbl [.box id 0,.d (.int .i64 n),.d (.int .i64 hi)] S K:=c_aMany j.a (hK _ (j.set hid _))
theorem j_broker {n:Int} (hK:∀ S,znR σ id B (P++[zxh n]) S->K (.tup []) S):zj Tryz.prog zaM [.box id 0,.d (.int .i64 n)] S K:=c_aBroker j.a (hK _ (j.set hid _))
theorem j_signs {l:List zy} (hl0:l.length<=1073741824) (hK:∀ S,znR σ id B (P++zcs l) S->K (.tup []) S):zj Tryz.prog zbc [.box id 0,.d (.slice (zO l))] S K:=c_aSigns j.a hl0 (hK _ (j.set hid _))
theorem j_cert {c:zeP} (hl0:c.signs.length<=1073741824) (hK:∀ S,znR σ id B (P++zdd c) S->K (.tup []) S):zj Tryz.prog zcB [.box id 0,zdu c] S K:=c_aCert j.a hl0 (hK _ (j.set hid _))
end
abbrev prepL (p:zbO):List AV := [.d (.int .i64 p.view),.d (.int .i64 p.seq),.d (.int .i64 p.dig),.d (.int .i64 p.fkey),.d (.int .i64 p.fdig),.d (.slice (zO p.signs)),.d (.slice (zaP p.batch))]
abbrev zbj (c:zJ):List AV := [.d (.int .i64 c.view),.d (.int .i64 c.src),.d (.int .i64 c.cert.seq),.d (.int .i64 c.cert.dig),.d (.slice (zO c.cert.signs)),.d (.slice (zdC c.above)),.d (.int .i64 c.key),.d (.int .i64 c.dig)]
theorem c_aPrep {σ:List zd} {id:Nat} {P:List Int} {p:zbO} (hσ : σ[id]? = some (zgX (zbg P))) (hs:p.signs.length<=1073741824) (hb:okB p.batch) {K:KT} (hK:K (.tup []) (σ.set id (zgX (zbg (P++zeb p))))) :
  zj Tryz.prog zeJ [.box id 0,.agg (prepL p)] σ K:=by
 refine zeE zmf fun hl => ?_
 have hid:=zcY hσ
 simp only [zgV,iN,bT,bF,eN]
 have j:=znR.first hσ (.box (prepL p))
 refine zQ ?_
 refine j_num j hid fun S j => ?_
 have b:=j.b
 refine zA b ?_
 refine j_pos j hid fun S j => ?_
 have b:=j.b
 refine zA b ?_
 refine j_pos j hid fun S j => ?_
 have b:=j.b
 refine zA b ?_
 refine zer ?_
 refine zA b ?_
 refine zyS j hid fun S j => ?_
 have b:=j.b
 refine zA b ?_
 refine j_signs j hid hs fun S j => ?_
 have b:=j.b
 refine zA b ?_
 refine zfY hb ?_
 refine zQ ?_
 refine zyS j hid fun S j => ?_
 refine zQ ?_
 exact (j.as (by simp [zeb])).done hl hK
structure okCh (c:zJ):Prop where
 signs:c.cert.signs.length<=1073741824
 above:c.above.length<=1073741824
 each:∀ p∈c.above,p.signs.length<=1073741824/\okB p.batch
theorem zeo {α β:Type} {f : α->List β} {l:List α} {k:Nat} {x : α} (h:l[k]? = some x):((l.take (k+1)).map f).flatten=((l.take k).map f).flatten++f x:=by
 rw [zrX h];simp
theorem c_aChange {σ:List zd} {id:Nat} {P:List Int} {c:zJ} (hσ : σ[id]? = some (zgX (zbg P))) (hc:okCh c) {K:KT} (hK:K (.tup []) (σ.set id (zgX (zbg (P++zaY c))))) :
  zj Tryz.prog zdW [.box id 0,.agg (zbj c)] σ K:=by
 refine zeE zof fun hl => ?_
 have hid:=zcY hσ
 have hpl:(zdC c.above).length=c.above.length:=List.length_map ..
 have hal:=hc.above
 simp only [zic,iN,bT,bF,eN,zl3]
 have j:=znR.first hσ (.box (zbj c))
 refine zQ ?_
 refine j_pos j hid fun S j => ?_
 have b:=j.b
 refine zA b ?_
 refine j_broker j hid fun S j => ?_
 have b:=j.b
 refine zA b ?_
 refine j_cert (c:=c.cert) j hid hc.signs fun S j => ?_
 have b:=j.b
 refine zA (zo b hpl) ?_
 refine j_many j hid fun S j => ?_
 have b:=j.b
 obtain ⟨Q,hQ⟩:∃ Q,P++[zrD c.view]++[zxh c.src]++zdd c.cert++[inE c.above.length 0 8]=Q:=⟨_,rfl⟩
 rw [hQ] at j
 refine zA (zo b hpl) ?_
 refine zl c.above.length (fun k vs S=>vs = [.d (.int .i64 k)]/\znR σ id (.box (zbj c)) (Q++((c.above.take k).map zeb).flatten) S) ⟨rfl,by simpa using j⟩ ?_
 rintro k vs S hk ⟨rfl,j⟩
 by_cases hlt:k<c.above.length
 ·have hd:decide ((k:Int)<(c.above.length:Int))=true:=by simp;omega
  have hx:c.above[k]? = some c.above[k]:=by simp [hlt]
  have hpx:=hc.each _ (List.getElem_mem hlt)
  have hgx:=zF (f:=zei) hx
  obtain ⟨p,hp⟩:∃ p,c.above[k]=p:=⟨_,rfl⟩
  rw [hp] at hx hgx hpx
  refine zfG (zo hd (zo hgx hpl)) ?_
  refine c_aPrep (p:=p) (zn j.a) hpx.1 hpx.2 ?_
  have j2:=(j.app [.box (prepL p)]).set hid (Q++((c.above.take k).map zeb).flatten++zeb p)
  refine zA (wkc k (by omega)) ?_
  refine zan.next hlt ⟨rfl,?_⟩
  rw [zeo hx, ← List.append_assoc]
  exact j2
 ·have hd:decide ((k:Int)<(c.above.length:Int))=false:=by simp;omega
  rw [show c.above.take k=c.above from List.take_of_length_le (by omega)] at j
  have b:=j.b
  refine zA (zo hd (zo hpl b)) ?_
  refine zer ?_
  refine zQ ?_
  refine zyS j hid fun S j => ?_
  refine zQ ?_
  exact (j.as (by rw [← hQ];simp [zaY,zey])).done hl hK
end Go.Proofs.YtpgahkdjkanblaaGreat
