/- Messages: which may be. No program in sight. -/
import Derived.Test.YtpgahkdjkanblaaGreatSpTab
import Derived.Test.YtpgahkdjkanblaaGreatCk2
set_option linter.all false
namespace Go.AW
structure zee where
 kind:Int
 src:Int
 view:Int
 seq:Int
 dig:Int
 client:Int
 time:Int
 rerr:Int
 roff:Int
 batch:List zJ
 cert:zft
 changes:List zU
 entries:List zbL
 state:List UInt8
 topic:List UInt8
 offset:Int
 proof:znU
 key:Int
 sdig:Int
def zCert:zft:=⟨0, 0,[]⟩
def ztq:znU:=⟨[], 0,[],[], 0, 0,[],zCert⟩
def zeW:zee:=⟨0, 0, 0, 0, 0, 0, 0, 0, 0,[],zCert,[],[],[],[], 0,ztq, 0, 0⟩
abbrev msgL (m:zee):List AV :=
 [.d (.int .i64 m.kind),.d (.int .i64 m.src),.d (.int .i64 m.view),.d (.int .i64 m.seq),.d (.int .i64 m.dig),.d (.int .i64 m.client),.d (.int .i64 m.time),.d (.int .i64 m.rerr),.d (.int .i64 m.roff),.d (.slice (zbj m.batch)),
  .d (.int .i64 m.cert.seq),.d (.int .i64 m.cert.dig),.d (.slice (zap m.cert.signs)),.d (.slice (zan m.changes)),.d (.slice (zaw m.entries)),.d (.slice (bcs m.state)),.d (.str m.topic),.d (.int .i64 m.offset),
  .d (.str m.proof.topic),.d (.int .i64 m.proof.offset),.d (.slice (bcs m.proof.rec_)),.d (.slice (zzT m.proof.headers)),.d (.int .i64 m.proof.index),.d (.int .i64 m.proof.count),.d (.slice (zpd m.proof.path)),.d (.int .i64 m.proof.cert.seq),.d (.int .i64 m.proof.cert.dig),.d (.slice (zap m.proof.cert.signs)),.d (.int .i64 m.key),.d (.int .i64 m.sdig)]
abbrev zge (m:zee):AV := .agg (msgL m)
abbrev zqE (m:zee):zh := .box (msgL m)
def zwN (n:Int):Int:=inE n 0 12
def zef (p:zcb):List Int:=zlX p.view :: zrN p.seq :: zrN p.dig :: zS p.fkey p.fdig :: (zcC p.signs++[zD p.batch])
def zez (c:zU):List Int:=zrN c.view :: zwN c.src :: (zcX c.cert++(inE c.above.length 0 8 :: (c.above.map zef).flatten))
def zaX (c:zU):List Int:=zez c++[zS c.key c.dig]
def zer (x:zbL):List Int := [zlX x.view,zrN x.seq,zD x.batch,zS x.key x.dig]
def voteErr (m:zee):List Int := [zwN m.src,zlX m.view,zrN m.seq,zrN m.dig]
def zfS (m:zee):List Int:=zwN m.src :: zrN m.view :: inE m.changes.length 0 13 :: ((m.changes.map zaX).flatten++(inE m.entries.length 0 8 :: (m.entries.map zer).flatten))
def zvE (k:Int):Bool:=decide (2<=k/\k<=9/\k ≠ 7)
def zmS (m:zee):List Int :=
 if m.kind=1 then [inE m.batch.length 1 1,zD m.batch]
 else if m.kind=2 then voteErr m++[zD m.batch]
 else if m.kind=3 ∨ m.kind=4 then voteErr m
 else if m.kind=5 then [zwN m.src,zlX m.view,inE m.client 0 7,zlX m.time,inE m.rerr 0 65536,zlX m.roff]
 else if m.kind=6 then [zwN m.src,zrN m.seq,zrN m.dig]
 else if m.kind=7 then inE m.changes.length 1 1 :: (m.changes.map fun c=>zaX c++[if c.src ≠ m.src ∨ c.view ≠ m.view then 100 else 0]).flatten
 else if m.kind=8 then zfS m
 else if m.kind=9 then [zwN m.src,zlX m.seq]
 else if m.kind=10 then zwN m.src :: (zcX m.cert++[inE m.state.length 0 262144])
 else if m.kind=11 then [inE m.client 0 7,nameE m.topic,zlX m.offset]
 else if m.kind=12 then zwN m.src :: proofErr m.proof
 else [100]
def zfK (m:zee):List Int:=zmS m++(if zvE m.kind=true then [zS m.key m.sdig] else [])
def zmD (m:zee):zee :=
 if m.kind=1 then { zeW with kind:=m.kind,batch:=m.batch }
 else if m.kind=2 then { zeW with kind:=m.kind,src:=m.src,view:=m.view,seq:=m.seq,dig:=m.dig,batch:=m.batch,key:=m.key,sdig:=m.sdig }
 else if m.kind=3 ∨ m.kind=4 then { zeW with kind:=m.kind,src:=m.src,view:=m.view,seq:=m.seq,dig:=m.dig,key:=m.key,sdig:=m.sdig }
 else if m.kind=5 then { zeW with kind:=m.kind,src:=m.src,view:=m.view,client:=m.client,time:=m.time,rerr:=m.rerr,roff:=m.roff,key:=m.key,sdig:=m.sdig }
 else if m.kind=6 then { zeW with kind:=m.kind,src:=m.src,seq:=m.seq,dig:=m.dig,key:=m.key,sdig:=m.sdig }
 else if m.kind=7 then { zeW with kind:=m.kind,src:=m.src,view:=m.view,changes:=m.changes }
 else if m.kind=8 then { zeW with kind:=m.kind,src:=m.src,view:=m.view,changes:=m.changes,entries:=m.entries,key:=m.key,sdig:=m.sdig }
 else if m.kind=9 then { zeW with kind:=m.kind,src:=m.src,seq:=m.seq,key:=m.key,sdig:=m.sdig }
 else if m.kind=10 then { zeW with kind:=m.kind,src:=m.src,cert:=m.cert,state:=m.state }
 else if m.kind=11 then { zeW with kind:=m.kind,client:=m.client,topic:=m.topic,offset:=m.offset }
 else if m.kind=12 then { zeW with kind:=m.kind,src:=m.src,proof:=m.proof }
 else { zeW with kind:=m.kind,src:=m.src }
deriving instance DecidableEq for znU
deriving instance DecidableEq for zee
def zaN (m:zee):Int:=if zbn (zfK m) ≠ 0 then zbn (zfK m) else if m=zmD m then 0 else 100
end Go.AW

/- Contracts: what is asked of votes, prepared certificates, view-changes and new views. -/
set_option maxRecDepth 100000
namespace Go.Proofs.YtpgahkdjkanblaaGreat
open Go.AW
structure zoo (σ:List zh) (id:Nat) (B:zh) (P:List Int) (S:List zh):Prop where
 a:S[id]? = some (zgX (zbn P))
 b:S[σ.length]? = some B
 pre:∃ τ,S = σ.set id (zgX (zbn P)) ++ τ
section
variable {σ S:List zh} {id:Nat} {B:zh} {P P':List Int}
theorem zoo.first (hσ : σ[id]? = some (zgX (zbn P))) (B:zh):zoo σ id B P (σ++[B]):=⟨zx hσ,by rw [zt];rfl,[B],by rw [zcz hσ]⟩
theorem zoo.set (h:zoo σ id B P S) (hid:id < σ.length) (P':List Int):zoo σ id B P' (S.set id (zgX (zbn P'))):=by
 obtain ⟨h1,h2, τ,h3⟩:=h
 refine ⟨List.getElem?_set_self (zcT h1),(List.getElem?_set_ne (by omega)).trans h2, τ,?_⟩
 rw [h3,List.set_append_left _ _ (by simpa using hid),List.set_set]
theorem zoo.app (h:zoo σ id B P S) (τ:List zh):zoo σ id B P (S ++ τ):=by
 obtain ⟨h1,h2, τ',h3⟩:=h
 exact ⟨zx h1,zx h2, τ' ++ τ,by rw [h3,List.append_assoc]⟩
theorem zoo.done (h:zoo σ id B P S) {K:KT} (hl:ziu σ.length σ) (hK:K (.tup []) (σ.set id (zgX (zbn P)))):AW.Ends σ.length K (some []) S:=by
 obtain ⟨_,_, τ,rfl⟩:=h
 exact zgS (by simp [zcO,dmT,zaU]) hl (zjY _ _) hK
theorem zoo.as (h:zoo σ id B P S) (e:P=P'):zoo σ id B P' S:=e ▸ h
end
section
variable {σ:List zh} {id:Nat} {P:List Int} {K:KT}
theorem c_aBroker {n:Int} (hσ : σ[id]? = some (zgX (zbn P))) (hK:K (.tup []) (σ.set id (zgX (zbn (P++[zwN n]))))):zo Tryz.prog zaL [.box id 0,.d (.int .i64 n)] σ K:=by
 refine zd zhS.is rfl fun hl _=>zhS.goes ?_
 simp only [zic,iN,bT,bF,eN]
 refine zab ?_
 refine c_aIn hσ ?_
 exact zgL (by simp [zcO,dmT,zaU]) hl (zjY _ _) hK
end
section
variable {σ S:List zh} {id:Nat} {B:zh} {P:List Int} {K:KT} (j:zoo σ id B P S) (hid:id < σ.length)
include j hid
theorem zyj {x:Int} (hK:∀ S,zoo σ id B (P++[x]) S->K (.tup []) S):zo Tryz.prog zW [.box id 0,.d (.int .i64 x)] S K:=c_aSays j.a (hK _ (j.set hid _))
theorem j_in {n lo hi:Int} (hK:∀ S,zoo σ id B (P++[inE n lo hi]) S->K (.tup []) S):zo Tryz.prog zaJ [.box id 0,.d (.int .i64 n),.d (.int .i64 lo),.d (.int .i64 hi)] S K:=c_aIn j.a (hK _ (j.set hid _))
theorem j_num {n:Int} (hK:∀ S,zoo σ id B (P++[zlX n]) S->K (.tup []) S):zo Tryz.prog zaA [.box id 0,.d (.int .i64 n)] S K:=c_aNum j.a (hK _ (j.set hid _))
theorem j_pos {n:Int} (hK:∀ S,zoo σ id B (P++[zrN n]) S->K (.tup []) S):zo Tryz.prog zaM [.box id 0,.d (.int .i64 n)] S K:=c_aPos j.a (hK _ (j.set hid _))
theorem j_many {n hi:Int} (hK:∀ S,zoo σ id B (P++[inE n 0 hi]) S->K (.tup []) S):zo Tryz.prog zbD [.box id 0,.d (.int .i64 n),.d (.int .i64 hi)] S K:=c_aMany j.a (hK _ (j.set hid _))
theorem j_broker {n:Int} (hK:∀ S,zoo σ id B (P++[zwN n]) S->K (.tup []) S):zo Tryz.prog zaL [.box id 0,.d (.int .i64 n)] S K:=c_aBroker j.a (hK _ (j.set hid _))
theorem j_signs {l:List zK} (hl0:l.length<=1073741824) (hK:∀ S,zoo σ id B (P++zcC l) S->K (.tup []) S):zo Tryz.prog zbf [.box id 0,.d (.slice (zap l))] S K:=c_aSigns j.a hl0 (hK _ (j.set hid _))
theorem j_cert {c:zft} (hl0:c.signs.length<=1073741824) (hK:∀ S,zoo σ id B (P++zcX c) S->K (.tup []) S):zo Tryz.prog zcJ [.box id 0,zgc c] S K:=c_aCert j.a hl0 (hK _ (j.set hid _))
end
abbrev prepL (p:zcb):List AV := [.d (.int .i64 p.view),.d (.int .i64 p.seq),.d (.int .i64 p.dig),.d (.int .i64 p.fkey),.d (.int .i64 p.fdig),.d (.slice (zap p.signs)),.d (.slice (zbj p.batch))]
abbrev zbK (c:zU):List AV := [.d (.int .i64 c.view),.d (.int .i64 c.src),.d (.int .i64 c.cert.seq),.d (.int .i64 c.cert.dig),.d (.slice (zap c.cert.signs)),.d (.slice (zeV c.above)),.d (.int .i64 c.key),.d (.int .i64 c.dig)]
theorem c_aPrep {σ:List zh} {id:Nat} {P:List Int} {p:zcb} (hσ : σ[id]? = some (zgX (zbn P))) (hs:p.signs.length<=1073741824) (hb:okB p.batch) {K:KT} (hK:K (.tup []) (σ.set id (zgX (zbn (P++zef p))))) :
  zo Tryz.prog zeY [.box id 0,.agg (prepL p)] σ K:=by
 refine zd zgT.is rfl fun hl _=>zgT.goes ?_
 have hid:=zcT hσ
 simp only [zgW,iN,bT,bF,eN]
 have j:=zoo.first hσ (.box (prepL p))
 refine zab ?_
 refine j_num j hid fun S j => ?_
 have b:=j.b
 refine zB b ?_
 refine j_pos j hid fun S j => ?_
 have b:=j.b
 refine zB b ?_
 refine j_pos j hid fun S j => ?_
 have b:=j.b
 refine zB b ?_
 refine zet ?_
 refine zB b ?_
 refine zyj j hid fun S j => ?_
 have b:=j.b
 refine zB b ?_
 refine j_signs j hid hs fun S j => ?_
 have b:=j.b
 refine zB b ?_
 refine zgU hb ?_
 refine zab ?_
 refine zyj j hid fun S j => ?_
 refine zab ?_
 exact (j.as (by simp [zef])).done hl hK
structure okCh (c:zU):Prop where
 signs:c.cert.signs.length<=1073741824
 above:c.above.length<=1073741824
 each:∀ p ∈ c.above,p.signs.length<=1073741824/\okB p.batch
theorem zeq {α β:Type} {f : α->List β} {l:List α} {k:Nat} {x : α} (h:l[k]? = some x):((l.take (k+1)).map f).flatten=((l.take k).map f).flatten++f x:=by
 rw [zsg h];simp
theorem c_aChange {σ:List zh} {id:Nat} {P:List Int} {c:zU} (hσ : σ[id]? = some (zgX (zbn P))) (hc:okCh c) {K:KT} (hK:K (.tup []) (σ.set id (zgX (zbn (P++zaX c))))) :
  zo Tryz.prog zec [.box id 0,.agg (zbK c)] σ K:=by
 refine zd zhR.is rfl fun hl _=>zhR.goes ?_
 have hid:=zcT hσ
 have hpl:(zeV c.above).length=c.above.length:=List.length_map ..
 have hal:=hc.above
 simp only [zib,iN,bT,bF,eN]
 have j:=zoo.first hσ (.box (zbK c))
 refine zab ?_
 refine j_pos j hid fun S j => ?_
 have b:=j.b
 refine zB b ?_
 refine j_broker j hid fun S j => ?_
 have b:=j.b
 refine zB b ?_
 refine j_cert (c:=c.cert) j hid hc.signs fun S j => ?_
 have b:=j.b
 refine zB (ze b hpl) ?_
 refine j_many j hid fun S j => ?_
 have b:=j.b
 obtain ⟨Q,hQ⟩:∃ Q,P++[zrN c.view]++[zwN c.src]++zcX c.cert++[inE c.above.length 0 8]=Q:=⟨_,rfl⟩
 rw [hQ] at j
 refine zB (ze b hpl) ?_
 refine zm c.above.length (fun k vs S=>vs = [.d (.int .i64 k)]/\zoo σ id (.box (zbK c)) (Q++((c.above.take k).map zef).flatten) S) ⟨rfl,by simpa using j⟩ ?_
 rintro k vs S hk ⟨rfl,j⟩
 by_cases hlt:k<c.above.length
 ·have hd:decide ((k:Int)<(c.above.length:Int))=true:=by simp;omega
  have hx:c.above[k]? = some c.above[k]:=by simp [hlt]
  have hpx:=hc.each _ (List.getElem_mem hlt)
  have hgx:=zR (f:=zew) hx
  obtain ⟨p,hp⟩:∃ p,c.above[k]=p:=⟨_,rfl⟩
  rw [hp] at hx hgx hpx
  refine zhH (ze hd (ze hgx hpl)) ?_
  refine c_aPrep (p:=p) (zx j.a) hpx.1 hpx.2 ?_
  have j2:=(j.app [.box (prepL p)]).set hid (Q++((c.above.take k).map zef).flatten++zef p)
  refine zB (wkc k (by omega)) ?_
  refine zaz.next hlt ⟨rfl,?_⟩
  rw [zeq hx, ← List.append_assoc]
  exact j2
 ·have hd:decide ((k:Int)<(c.above.length:Int))=false:=by simp;omega
  rw [show c.above.take k=c.above from List.take_of_length_le (by omega)] at j
  have b:=j.b
  refine zB (ze hd (ze hpl b)) ?_
  refine zet ?_
  refine zab ?_
  refine zyj j hid fun S j => ?_
  refine zab ?_
  exact (j.as (by rw [← hQ];simp [zaX,zez])).done hl hK
end Go.Proofs.YtpgahkdjkanblaaGreat
