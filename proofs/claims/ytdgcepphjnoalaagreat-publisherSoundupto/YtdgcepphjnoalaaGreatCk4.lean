/- Contracts: what is asked, as a list of errors that grows. -/
import Derived.Test.YtdgcepphjnoalaaGreatOpC
import Derived.Test.YtdgcepphjnoalaaGreatSpTab
set_option linter.all false
set_option maxRecDepth 100000
namespace Go.Proofs.YtdgcepphjnoalaaGreat
open Go.AW
theorem thn_apps (P l:List Int):znX (zax P) (zax l)=zax (P++l):=by rw[← thnE_z (zax P),thnE_app,thnE_z]
section
variable {σ:List AObj} {id:Nat} {P:List Int} {K:KT}
theorem c_aSays {x:Int}(hσ:σ[id]? = some (zfr (zax P)))(hK:K (.tup []) (σ.set id (zfr (zax (P++[x]))))):zP zE [.box id 0,.d (.int .i64 x)] σ K:=c_says hσ (by rw[zps];exact hK)
theorem c_aIn {n lo hi:Int}(hσ:σ[id]? = some (zfr (zax P)))(hK:K (.tup []) (σ.set id (zfr (zax (P++[inE n lo hi]))))):zP zau [.box id 0,.d (.int .i64 n),.d (.int .i64 lo),.d (.int .i64 hi)] σ K:=zAO hσ (by rw[zps];exact hK)
theorem c_aNum {n:Int}(hσ:σ[id]? = some (zfr (zax P)))(hK:K (.tup []) (σ.set id (zfr (zax (P++[zeP n]))))):zP zR [.box id 0,.d (.int .i64 n)] σ K:=zAN hσ (by rw[zps];exact hK)
theorem c_aPos {n:Int}(hσ:σ[id]? = some (zfr (zax P)))(hK:K (.tup []) (σ.set id (zfr (zax (P++[zkl n]))))):zP zae [.box id 0,.d (.int .i64 n)] σ K:=c_askPos hσ (by rw[zps];exact hK)
theorem c_aMany {n hi:Int}(hσ:σ[id]? = some (zfr (zax P)))(hK:K (.tup []) (σ.set id (zfr (zax (P++[inE n 0 hi]))))):zP zal [.box id 0,.d (.int .i64 n),.d (.int .i64 hi)] σ K:=c_askMany hσ (by rw[zps];exact hK)
theorem c_aName {x:List UInt8}(hσ:σ[id]? = some (zfr (zax P)))(hx:x.length<=1073741824)(hK:K (.tup []) (σ.set id (zfr (zax (P++[zkZ x]))))):zP zcv [.box id 0,.d (.str x)] σ K:=c_askName hσ hx (by rw[zps];exact hK)
theorem c_aSigns {l:List zK}(hσ:σ[id]? = some (zfr (zax P)))(hl0:l.length<=1073741824)(hK:K (.tup []) (σ.set id (zfr (zax (P++zcn l))))):zP zaY [.box id 0,.d (.slice (zat l))] σ K:=zzh hσ hl0 (by rw[thn_apps];exact hK)
theorem c_aCert {c:zjt}(hσ:σ[id]? = some (zfr (zax P)))(hl0:c.signs.length<=1073741824)(hK:K (.tup []) (σ.set id (zfr (zax (P++zby c))))):zP zbP [.box id 0,zhL c] σ K:=c_askCert hσ hl0 (by rw[thn_apps];exact hK)
end
variable {σ:List AObj}
structure zjL (σ:List AObj) (id:Nat) (B:AObj) (P:List Int) (S:List AObj):Prop where
 a:S[id]? = some (zfr (zax P))
 b:S[σ.length]? = some B
 pre:∃τ,S=σ.set id (zfr (zax P))++τ
section
variable {σ S:List AObj} {id:Nat} {B:AObj} {P P':List Int}
theorem zjL.first (hσ:σ[id]? = some (zfr (zax P)))(B:AObj):zjL σ id B P (σ++[B]):=⟨zi hσ,by rw[zB];rfl,[B],by rw[zbQ hσ]⟩
theorem zjL.set (h:zjL σ id B P S)(hid:id<σ.length)(P':List Int):zjL σ id B P' (S.set id (zfr (zax P'))):=by
 obtain⟨h1,h2,τ,h3⟩:=h;refine⟨List.getElem?_set_self (zZ h1),(List.getElem?_set_ne (by omega)).trans h2,τ,?_⟩;rw[h3,List.set_append_left _ _ (by simpa using hid),List.set_set]
theorem zjL.app (h:zjL σ id B P S)(τ:List AObj):zjL σ id B P (S++τ):=by
 obtain⟨h1,h2,τ',h3⟩:=h;exact⟨zi h1,zi h2,τ'++τ,by rw[h3,List.append_assoc]⟩
theorem zjL.done (h:zjL σ id B P S){K:KT}(hl:zhm σ.length σ)(hK:K (.tup []) (σ.set id (zfr (zax P)))):AW.Ends σ.length K (some []) S:=by
 obtain⟨_,_,τ,rfl⟩:=h;exact zeK (by simp[zck,dmT,zbw]) hl (ziJ _ _) hK
theorem zjL.as (h:zjL σ id B P S)(e:P=P'):zjL σ id B P' S:=e▸h
end
section
variable {σ:List AObj} {id:Nat} {P:List Int} {K:KT}
theorem c_aBroker {n:Int}(hσ:σ[id]? = some (zfr (zax P)))(hK:K (.tup []) (σ.set id (zfr (zax (P++[zjz n]))))):zP zas [.box id 0,.d (.int .i64 n)] σ K:=by
 refine zen zoh fun hl=>?_;simp only[zik,iN,bT,bF,eN];refine zG ?_;refine c_aIn hσ ?_;exact zeW (by simp[zck,dmT,zbw]) hl (ziJ _ _) hK
end
section
variable {σ S:List AObj} {id:Nat} {B:AObj} {P:List Int} {K:KT} (j:zjL σ id B P S) (hid:id<σ.length)
include j hid
theorem zkA {x:Int}(hK:∀S,zjL σ id B (P++[x]) S->K (.tup []) S):zP zE [.box id 0,.d (.int .i64 x)] S K:=c_aSays j.a (hK _ (j.set hid _))
theorem j_in {n lo hi:Int}(hK:∀S,zjL σ id B (P++[inE n lo hi]) S->K (.tup []) S):zP zau [.box id 0,.d (.int .i64 n),.d (.int .i64 lo),.d (.int .i64 hi)] S K:=c_aIn j.a (hK _ (j.set hid _))
theorem zwl {n:Int}(hK:∀S,zjL σ id B (P++[zeP n]) S->K (.tup []) S):zP zR [.box id 0,.d (.int .i64 n)] S K:=c_aNum j.a (hK _ (j.set hid _))
theorem j_pos {n:Int}(hK:∀S,zjL σ id B (P++[zkl n]) S->K (.tup []) S):zP zae [.box id 0,.d (.int .i64 n)] S K:=c_aPos j.a (hK _ (j.set hid _))
theorem zui {n hi:Int}(hK:∀S,zjL σ id B (P++[inE n 0 hi]) S->K (.tup []) S):zP zal [.box id 0,.d (.int .i64 n),.d (.int .i64 hi)] S K:=c_aMany j.a (hK _ (j.set hid _))
theorem zlp {n:Int}(hK:∀S,zjL σ id B (P++[zjz n]) S->K (.tup []) S):zP zas [.box id 0,.d (.int .i64 n)] S K:=c_aBroker j.a (hK _ (j.set hid _))
theorem j_name {x:List UInt8}(hx:x.length<=1073741824)(hK:∀S,zjL σ id B (P++[zkZ x]) S->K (.tup []) S):zP zcv [.box id 0,.d (.str x)] S K:=c_aName j.a hx (hK _ (j.set hid _))
theorem j_signs {l:List zK}(hl0:l.length<=1073741824)(hK:∀S,zjL σ id B (P++zcn l) S->K (.tup []) S):zP zaY [.box id 0,.d (.slice (zat l))] S K:=c_aSigns j.a hl0 (hK _ (j.set hid _))
theorem j_cert {c:zjt}(hl0:c.signs.length<=1073741824)(hK:∀S,zjL σ id B (P++zby c) S->K (.tup []) S):zP zbP [.box id 0,zhL c] S K:=c_aCert j.a hl0 (hK _ (j.set hid _))
end
abbrev prepL (p:zjY):List AV:=[.d (.int .i64 p.view),.d (.int .i64 p.seq),.d (.int .i64 p.dig),.d (.int .i64 p.fkey),.d (.int .i64 p.fdig),.d (.slice (zat p.signs)),.d (.slice (zbA p.batch))]
abbrev zbK (c:zbk):List AV:=[.d (.int .i64 c.view),.d (.int .i64 c.src),.d (.int .i64 c.cert.seq),.d (.int .i64 c.cert.dig),.d (.slice (zat c.cert.signs)),.d (.slice (zft c.above)),.d (.int .i64 c.key),.d (.int .i64 c.dig)]
theorem c_aPrep {id:Nat}{P:List Int}{p:zjY}(hσ:σ[id]? = some (zfr (zax P)))(hs:p.signs.length<=1073741824)(hb:okB p.batch){K:KT}(hK:K (.tup []) (σ.set id (zfr (zax (P++zdR p))))) :
  zP zeH [.box id 0,.agg (prepL p)] σ K:=by
 refine zen zmC fun hl=>?_;have hid:=zZ hσ;simp only[zhk,iN,bT,bF,eN];have j:=zjL.first hσ (.box (prepL p));refine zG ?_;refine zwl j hid fun S j=>?_;have b:=j.b;refine zm b ?_;refine j_pos j hid fun S j=>?_;have b:=j.b;refine zm b ?_;refine j_pos j hid fun S j=>?_;have b:=j.b;refine zm b ?_;refine zbL ?_;refine zm b ?_;refine zkA j hid fun S j=>?_;have b:=j.b;refine zm b ?_;refine j_signs j hid hs fun S j=>?_;have b:=j.b;refine zm b ?_;refine ziY hb ?_;refine zG ?_;refine zkA j hid fun S j=>?_;refine zG ?_;exact(j.as (by simp[zdR])).done hl hK
structure okCh (c:zbk):Prop where
 signs:c.cert.signs.length<=1073741824
 above:c.above.length<=1073741824
 each:∀p∈c.above,p.signs.length<=1073741824/\okB p.batch
theorem zcW {α β:Type}{f:α->List β}{l:List α}{k:Nat}{x:α}(h:l[k]? = some x):((l.take (k+1)).map f).flatten=((l.take k).map f).flatten++f x:=by
 rw[zjU h];simp
theorem c_aChange {id:Nat}{P:List Int}{c:zbk}(hσ:σ[id]? = some (zfr (zax P)))(hc:okCh c){K:KT}(hK:K (.tup []) (σ.set id (zfr (zax (P++zaS c))))) :
  zP zdN [.box id 0,.agg (zbK c)] σ K:=by
 refine zen zog fun hl=>?_;have hid:=zZ hσ;have hpl:(zft c.above).length=c.above.length:=List.length_map ..;have hal:=hc.above;simp only[zij,iN,bT,bF,eN,zl7];have j:=zjL.first hσ (.box (zbK c));refine zG ?_;refine j_pos j hid fun S j=>?_;have b:=j.b;refine zm b ?_;refine zlp j hid fun S j=>?_;have b:=j.b;refine zm b ?_;refine j_cert (c:=c.cert) j hid hc.signs fun S j=>?_;have b:=j.b;refine zm (zd b hpl) ?_;refine zui j hid fun S j=>?_;have b:=j.b;obtain⟨Q,hQ⟩:∃Q,P++[zkl c.view]++[zjz c.src]++zby c.cert++[inE c.above.length 0 8]=Q:=⟨_,rfl⟩;rw[hQ]at j;refine zm (zd b hpl) ?_;refine zn c.above.length (fun k vs S=>vs=[.d (.int .i64 k)]/\zjL σ id (.box (zbK c)) (Q++((c.above.take k).map zdR).flatten) S) ⟨rfl,by simpa using j⟩ ?_;rintro k vs S hk ⟨rfl,j⟩;by_cases hlt:k<c.above.length
 ·have hd:decide ((k:Int)<(c.above.length:Int))=true:=by simp;omega
  have hx:c.above[k]? = some c.above[k]:=by simp[hlt]
  have hpx:=hc.each _ (List.getElem_mem hlt);have hgx:=zQ (f:=zfy) hx;obtain⟨p,hp⟩:∃p,c.above[k]=p:=⟨_,rfl⟩;rw[hp]at hx hgx hpx;refine zdO (zd hd (zd hgx hpl)) ?_;refine c_aPrep (p:=p) (zi j.a) hpx.1 hpx.2 ?_;have j2:=(j.app [.box (prepL p)]).set hid (Q++((c.above.take k).map zdR).flatten++zdR p);refine zm (wkc k (by omega)) ?_;refine zaF.next hlt ⟨rfl,?_⟩;rw[zcW hx,← List.append_assoc];exact j2
 ·have hd:decide ((k:Int)<(c.above.length:Int))=false:=by simp;omega
  rw[show c.above.take k=c.above from List.take_of_length_le (by omega)]at j;have b:=j.b;refine zm (zd hd (zd hpl b)) ?_;refine zbL ?_;refine zG ?_;refine zkA j hid fun S j=>?_;refine zG ?_;exact(j.as (by rw[← hQ];simp[zaS,zeu])).done hl hK
variable {σ:List AObj}
theorem c_mSameProof {a b:zfi}(ha:zqS a){K:KT}(hK:K (.d (.bool (decide (a=b)))) σ):zP zgZ [znD a,znD b] σ K:=by
 refine zen zro fun hl=>?_;have fin:∀z,decide (a=b)=z->K (.d (.bool z)) σ:=fun z h=>h▸hK;clear hK;simp only[zkR,iN,bT,bF,eN];cases h1:(a.topic==b.topic)
 ·refine zm h1 ?_;refine zu hl ?_;exact fin _ (decide_eq_false fun h=>by subst h;simp at h1)
 cases h2:(a.offset==b.offset)
 ·refine zm (zd h1 h2) ?_;refine zu hl ?_;exact fin _ (decide_eq_false fun h=>by subst h;simp at h2)
 refine zlr (zd h1 h2) ?_;refine znx ?_;cases h3:(a.rec_==b.rec_)
 ·refine zm h3 ?_;refine zu hl ?_;exact fin _ (decide_eq_false fun h=>by subst h;simp at h3)
 refine zlr h3 ?_;refine c_eqHdr ha.headers ?_;cases h4:decide (a.headers=b.headers)
 ·refine zm h4 ?_;refine zu hl ?_;exact fin _ (decide_eq_false fun h=>by subst h;simp at h4)
 cases h5:(a.index==b.index)
 ·refine zm (zd h4 h5) ?_;refine zu hl ?_;exact fin _ (decide_eq_false fun h=>by subst h;simp at h5)
 cases h6:(a.count==b.count)
 ·refine zm (zd h4 (zd h5 h6)) ?_;refine zu hl ?_;exact fin _ (decide_eq_false fun h=>by subst h;simp at h6)
 refine zlr (zd h4 (zd h5 h6)) ?_;refine c_eqDig ha.path ?_;cases h7:decide (a.path=b.path)
 ·refine zm h7 ?_;refine zu hl ?_;exact fin _ (decide_eq_false fun h=>by subst h;simp at h7)
 refine zlr h7 ?_;refine zrB (a:=a.cert) (b:=b.cert) ha.signs ?_;cases h8:decide (a.cert=b.cert)
 ·refine zm h8 ?_;refine zu hl ?_;exact fin _ (decide_eq_false fun h=>by subst h;simp at h8)
 refine zm h8 ?_;refine zu hl ?_;exact fin _ (decide_eq_true (by cases a;cases b;simp_all))
abbrev fltMA (a:zbj):AV:=.agg [.d (.int .i64 a.kind),.d (.int .i64 a.src),.d (.int .i64 a.client),.d (.int .i64 a.view),.d (.int .i64 a.seq),.d (.int .i64 a.time),.d (.int .i64 a.offset),.d (.int .i64 a.dig),.d (.int .i64 a.rerr),.d (.int .i64 a.roff),.d (.str a.topic),.d (.int .i64 a.key),.d (.int .i64 a.sdig)]
theorem c_flatOf {a:zbj}{K:KT}(hK:K (fltMA a) σ):zP zgT [zgd a] σ K:=by
 refine zey zve fun hl=>?_;simp only[znS,iN,bT,bF,eN,zl8];refine zG ?_;refine zu hl ?_;exact hK
structure zaK (m:zbj):Prop where
 batch:okB m.batch
 batchS:zgx m.batch
 signs:m.cert.signs.length<=1073741824
 changes:m.changes.length<=1073741824
 change:∀c∈m.changes,okCh c/\zjM c
 entries:m.entries.length<=1073741824
 entry:∀x∈m.entries,okB x.batch/\zvN x
 proof:zqS m.proof
 topic:m.topic.length<=16777216
 state:m.state.length<=1073741824
theorem c_mSame {a b:zbj}(ha:zaK a)(hb:zaK b){K:KT}(hK:K (.d (.bool (decide (a=b)))) σ):zP zmd [zgd a,zgd b] σ K:=by
 refine zen zyf fun hl=>?_;have fin:∀z,decide (a=b)=z->K (.d (.bool z)) σ:=fun z h=>h▸hK;clear hK;simp only[zqP,iN,bT,bF,eN];refine zG ?_;refine c_flatOf (a:=a) ?_;refine zG ?_;refine c_flatOf (a:=b) ?_;cases h1:((a.kind==b.kind&&(a.src==b.src&&(a.client==b.client&&(a.view==b.view&&(a.seq==b.seq&&(a.time==b.time&&(a.offset==b.offset&&(a.dig==b.dig&&(a.rerr==b.rerr&&(a.roff==b.roff&&(a.topic==b.topic&&(a.key==b.key&&a.sdig==b.sdig)))))))))))))
 ·refine zdO h1 ?_;refine zu hl ?_;exact fin _ (decide_eq_false fun h=>by subst h;simp at h1)
 refine zdO h1 ?_;refine zwU ha.batchS hb.batchS ?_;cases h2:decide (a.batch=b.batch)
 ·refine zm h2 ?_;refine zu hl ?_;exact fin _ (decide_eq_false fun h=>by subst h;simp at h2)
 refine zlr h2 ?_;refine zrB (a:=a.cert) (b:=b.cert) ha.signs ?_;cases h3:decide (a.cert=b.cert)
 ·refine zm h3 ?_;refine zu hl ?_;exact fin _ (decide_eq_false fun h=>by subst h;simp at h3)
 refine zlr h3 ?_;refine c_eqChanges ha.changes (fun x hx=>(ha.change x hx).2) (fun x hx=>(hb.change x hx).2) ?_;cases h4:decide (a.changes=b.changes)
 ·refine zm h4 ?_;refine zu hl ?_;exact fin _ (decide_eq_false fun h=>by subst h;simp at h4)
 refine zlr h4 ?_;refine c_eqEntries ha.entries (fun x hx=>(ha.entry x hx).2) (fun x hx=>(hb.entry x hx).2) ?_;cases h5:decide (a.entries=b.entries)
 ·refine zm h5 ?_;refine zu hl ?_;exact fin _ (decide_eq_false fun h=>by subst h;simp at h5)
 refine zlr h5 ?_;refine znx ?_;cases h6:(a.state==b.state)
 ·refine zm h6 ?_;refine zu hl ?_;exact fin _ (decide_eq_false fun h=>by subst h;simp at h6)
 refine zlr h6 ?_;refine c_mSameProof (a:=a.proof) (b:=b.proof) ha.proof ?_;cases h7:decide (a.proof=b.proof)
 ·refine zm h7 ?_;refine zu hl ?_;exact fin _ (decide_eq_false fun h=>by subst h;simp at h7)
 refine zm h7 ?_;refine zu hl ?_;exact fin _ (decide_eq_true (by cases a;cases b;simp_all))
variable {σ:List AObj}
theorem c_intIndex {l:List Int}{x:Int}(hl0:l.length<=1073741824){K:KT}(hK:∀i:Int,(0<=i↔x∈l)->K (.d (.int .i64 i)) σ) :
  zP zfn [.d (.slice (zgH l)),.d (.int .i64 x)] σ K:=by
 refine zen zob fun hl=>?_;simp only[zid,iN,bT,bF,eN];refine zG ?_;refine zn l.length (fun k vs s=>vs=[.d (.int .i64 k)]/\(∃T,s=σ++T)/\x∉l.take k) ⟨rfl,⟨[],by simp⟩,by simp⟩ ?_;rintro k vs s hk ⟨rfl,⟨T,rfl⟩,htk⟩;by_cases hlt:k<l.length
 ·have hd:decide ((k:Int)<(l.length:Int))=true:=by simp;omega
  have hx:l[k]? = some l[k]:=by simp[hlt]
  have hmem:=List.getElem_mem hlt;have hgx:=zQ (f:=fun t=>[D.int .i64 t]) hx;obtain⟨y,hye⟩:∃y,l[k]=y:=⟨_,rfl⟩;rw[hye]at hx hgx hmem;cases h:(x==y)
  ·refine zm (zd hd (zd hgx (zd h (wk1 k (by omega))))) ?_;refine zaF.next hlt ⟨rfl,⟨_,rfl⟩,?_⟩;rw[List.take_add_one,hx];simp at h;simp[htk,h]
  ·refine zm (zd hd (zd hgx h)) ?_;refine zu hl ?_;refine hK _ ?_;simp at h;simp[h,hmem]
 ·have hd:decide ((k:Int)<(l.length:Int))=false:=by simp;omega
  refine zm hd ?_;refine zu hl ?_;refine hK _ ?_;rw[List.take_of_length_le (by omega)]at htk;simp[htk]
theorem zAL {l:List Int}{x:Int}(hl0:l.length<=1073741824){K:KT}(hK:K (.d (.bool (decide (x∈l)))) σ) :
  zP zer [.d (.slice (zgH l)),.d (.int .i64 x)] σ K:=by
 refine zen zmf fun hl=>?_;simp only[zgP,iN,bT,bF,eN];refine zG ?_;refine c_intIndex hl0 fun i hi=>?_;have e:decide (i≥0)=decide (x∈l):=by rw[decide_eq_decide,ge_iff_le,hi]
 refine zG ?_;rw[e];refine zu hl ?_;exact hK
theorem zaP {k:Int}{K:KT}(hK:K (.d (.bool (zeO k))) σ):zP zdV [.d (.int .i64 k)] σ K:=by
 refine zey zvd fun hl=>?_;simp only[znR,iN,bT,bF,eN];refine zG ?_;refine zAL (l:=[2,3,4,5,6,8,9]) (by simp) ?_;have e:decide (k∈[2,3,4,5,6,8,9])=zeO k:=by
  unfold zeO;rw[decide_eq_decide];simp;omega
 rw[e];refine zG ?_;refine zu hl ?_;exact hK
theorem zjL.zero {σ S:List AObj}{id:Nat}{B:AObj}{P:List Int}(h:zjL σ id B P S):zjL σ id B (P++[0]) S:=by
 have e:zax (P++[0])=zax P:=by
  rw[zeC];by_cases h:zax P=0
  ·rw[if_neg (by simpa using h),h];rfl
  ·rw[if_pos h]
 obtain⟨h1,h2,h3⟩:=h;exact⟨by rw[e];exact h1,h2,by rw[e];exact h3⟩
variable {σ:List AObj}
section
variable {σ S:List AObj} {id n:Nat} {B X:AObj} {P:List Int} {K:KT} (j:zjL σ id B P S) (hid:id<σ.length) (hne:n≠id) (c:S[n]? = some X)
include j hid hne c
theorem jx_says {x:Int}(hK:∀S,zjL σ id B (P++[x]) S->S[n]? = some X->K (.tup []) S):zP zE [.box id 0,.d (.int .i64 x)] S K:=c_aSays j.a (hK _ (j.set hid _) ((List.getElem?_set_ne hne.symm).trans c))
theorem jx_num {x:Int}(hK:∀S,zjL σ id B (P++[zeP x]) S->S[n]? = some X->K (.tup []) S):zP zR [.box id 0,.d (.int .i64 x)] S K:=c_aNum j.a (hK _ (j.set hid _) ((List.getElem?_set_ne hne.symm).trans c))
theorem jx_pos {x:Int}(hK:∀S,zjL σ id B (P++[zkl x]) S->S[n]? = some X->K (.tup []) S):zP zae [.box id 0,.d (.int .i64 x)] S K:=c_aPos j.a (hK _ (j.set hid _) ((List.getElem?_set_ne hne.symm).trans c))
end
theorem c_aNewView {id:Nat}{P:List Int}{m:zbj}(hσ:σ[id]? = some (zfr (zax P)))(hm:zaK m){K:KT}(hK:K (.tup []) (σ.set id (zfr (zax (P++zfG m))))) :
  zP zeV [.box id 0,zgd m] σ K:=by
 refine zen znr fun hl=>?_;have hid:=zZ hσ;have hcl:(zap m.changes).length=m.changes.length:=List.length_map ..;have hel:(zbq m.entries).length=m.entries.length:=List.length_map ..;have hc:=hm.changes;have he:=hm.entries;simp only[zhT,iN,bT,bF,eN,zl6];have j:=zjL.first hσ (zla m);refine zG ?_;refine zlp j hid fun S j=>?_;have b:=j.b;refine zm b ?_;refine j_pos j hid fun S j=>?_;have b:=j.b;refine zm (zd b hcl) ?_;refine zui j hid fun S j=>?_;have b:=j.b;obtain⟨Q,hQ⟩:∃Q,P++[zjz m.src]++[zkl m.view]++[inE m.changes.length 0 13]=Q:=⟨_,rfl⟩;rw[hQ]at j;refine zm (zd b hcl) ?_;refine zn m.changes.length (fun k vs S=>vs=[.d (.int .i64 k)]/\zjL σ id (zla m) (Q++((m.changes.take k).map zaS).flatten) S) ⟨rfl,by simpa using j⟩ ?_;rintro k vs S hk ⟨rfl,j⟩;by_cases hlt:k<m.changes.length
 ·have hd:decide ((k:Int)<(m.changes.length:Int))=true:=by simp;omega
  have hx:m.changes[k]? = some m.changes[k]:=by simp[hlt]
  have hpx:=hm.change _ (List.getElem_mem hlt);have hgx:=zQ (f:=zag) hx;obtain⟨p,hp⟩:∃p,m.changes[k]=p:=⟨_,rfl⟩;rw[hp]at hx hgx hpx;refine zdO (zd hd (zd hgx hcl)) ?_;refine c_aChange (c:=p) (zi j.a) hpx.1 ?_;have j2:=(j.app [.box (zbK p)]).set hid (Q++((m.changes.take k).map zaS).flatten++zaS p);refine zm (wkc k (by omega)) ?_;refine zaF.next hlt ⟨rfl,?_⟩;rw[zcW hx,← List.append_assoc];exact j2
 ·have hd:decide ((k:Int)<(m.changes.length:Int))=false:=by simp;omega
  rw[show m.changes.take k=m.changes from List.take_of_length_le (by omega)]at j;have b:=j.b;refine zm (zd hd (zd hcl (zd b hel))) ?_;refine zui j hid fun S j=>?_;have b:=j.b;obtain⟨R,hR⟩:∃R,Q++(m.changes.map zaS).flatten++[inE m.entries.length 0 8]=R:=⟨_,rfl⟩;rw[hR]at j;refine zm (zd b hel) ?_;refine zn m.entries.length (fun k vs S=>vs=[.d (.int .i64 k)]/\zjL σ id (zla m) (R++((m.entries.take k).map zek).flatten) S) ⟨rfl,by simpa using j⟩ ?_;rintro k vs S hk ⟨rfl,j⟩;by_cases hlt:k<m.entries.length
  ·have hd:decide ((k:Int)<(m.entries.length:Int))=true:=by simp;omega
   have hx:m.entries[k]? = some m.entries[k]:=by simp[hlt]
   have hpx:=hm.entry _ (List.getElem_mem hlt);have hgx:=zQ (f:=zdd) hx;obtain⟨x,hp⟩:∃x,m.entries[k]=x:=⟨_,rfl⟩;rw[hp]at hx hgx hpx;obtain⟨X,hX⟩:∃X,AObj.box [.d (.int .i64 x.view),.d (.int .i64 x.seq),.d (.slice (zbA x.batch)),.d (.int .i64 x.key),.d (.int .i64 x.dig)]=X:=⟨_,rfl⟩;have c:(S++[X])[S.length]? = some X:=by rw[zB];rfl
   have hne:S.length≠id:=by obtain⟨τ,h1⟩:=j.pre;rw[h1];simp;omega
   have j:=j.app [X];subst hX;refine zdO (zd hd (zd hgx hel)) ?_;obtain⟨n,hn⟩:∃n,S.length=n:=⟨_,rfl⟩;obtain⟨S0,hS0⟩:∃S0,S++[AObj.box [.d (.int .i64 x.view),.d (.int .i64 x.seq),.d (.slice (zbA x.batch)),.d (.int .i64 x.key),.d (.int .i64 x.dig)]]=S0:=⟨_,rfl⟩;rw[hn]at c hne;rw[hS0]at c j;rw[hn,hS0];refine jx_num j hid hne c fun S j c=>?_;refine zm c ?_;refine jx_pos j hid hne c fun S j c=>?_;refine zm c ?_;refine ziY hpx.1 ?_;refine zG ?_;refine jx_says j hid hne c fun S j c=>?_;refine zm c ?_;refine zbL ?_;refine zG ?_;refine jx_says j hid hne c fun S j c=>?_;refine zm (wkc k (by omega)) ?_;exact zaF.next hlt ⟨rfl,j.as (by rw[zcW hx];simp[zek])⟩
  ·have hd:decide ((k:Int)<(m.entries.length:Int))=false:=by simp;omega
   rw[show m.entries.take k=m.entries from List.take_of_length_le (by omega)]at j;refine zm (zd hd hel) ?_;exact(j.as (by rw[← hR,← hQ];simp[zfG])).done hl hK
theorem c_aMsg7 {id:Nat}{P:List Int}{m:zbj}(hσ:σ[id]? = some (zfr (zax P)))(hm:zaK m)(hk:m.kind=7){K:KT}(hK:K (.tup []) (σ.set id (zfr (zax (P++zab m))))) :
  zP zbI [.box id 0,zgd m] σ K:=by
 refine zen zdl fun hl=>?_;have hid:=zZ hσ;have hcl:(zap m.changes).length=m.changes.length:=List.length_map ..;have hc:=hm.changes;simp only[zcs,iN,bT,bF,eN,zl6];have j:=zjL.first hσ (zla m);refine zm (zd (kk7 hk) hcl) ?_;refine j_in j hid fun S j=>?_;have b:=j.b;obtain⟨Q,hQ⟩:∃Q,P++[inE m.changes.length 1 1]=Q:=⟨_,rfl⟩;rw[hQ]at j;refine zm (zd b (zd hcl (kk7 hk))) ?_;refine zn m.changes.length (fun k vs S=>vs=[.d (.int .i64 k)]/\zjL σ id (zla m) (Q++((m.changes.take k).map fun c=>zaS c++[if c.src≠m.src∨c.view≠m.view then 100 else 0]).flatten) S) ⟨rfl,by simpa using j⟩ ?_;rintro k vs S hk0 ⟨rfl,j⟩;by_cases hlt:k<m.changes.length
 ·have hd:decide ((k:Int)<(m.changes.length:Int))=true:=by simp;omega
  have hx:m.changes[k]? = some m.changes[k]:=by simp[hlt]
  have hpx:=hm.change _ (List.getElem_mem hlt);have hgx:=zQ (f:=zag) hx;obtain⟨p,hp⟩:∃p,m.changes[k]=p:=⟨_,rfl⟩;rw[hp]at hx hgx hpx;have c:(S++[.box (zbK p)])[S.length]? = some (.box (zbK p)):=by rw[zB];rfl
  have hne:S.length≠id:=by obtain⟨τ,h1⟩:=j.pre;rw[h1];simp;omega
  have j:=j.app [.box (zbK p)];refine zdO (zd hd (zd hgx hcl)) ?_;obtain⟨n,hn⟩:∃n,S.length=n:=⟨_,rfl⟩;obtain⟨S0,hS0⟩:∃S0,S++[AObj.box (zbK p)]=S0:=⟨_,rfl⟩;rw[hn]at c hne;rw[hS0]at c j;rw[hn,hS0];refine c_aChange (c:=p) j.a hpx.1 ?_;have j:=j.set hid (Q++((m.changes.take k).map fun c=>zaS c++[if c.src≠m.src∨c.view≠m.view then 100 else 0]).flatten++zaS p);have c:=(List.getElem?_set_ne (a:=zfr (zax (Q++((m.changes.take k).map fun c=>zaS c++[if c.src≠m.src∨c.view≠m.view then 100 else 0]).flatten++zaS p))) hne.symm).trans c;obtain⟨S1,hS1⟩:∃S1,S0.set id (zfr (zax (Q++((m.changes.take k).map fun c=>zaS c++[if c.src≠m.src∨c.view≠m.view then 100 else 0]).flatten++zaS p)))=S1:=⟨_,rfl⟩;rw[hS1]at c j ⊢;have b:=j.b;cases h1:(p.src != m.src)
  ·cases h2:(p.view != m.view)
   ·refine zm (zd b (zd c (zd h1 (zd h2 (zd (kk7 hk) (wkc k (by omega))))))) ?_;refine zaF.next hlt ⟨rfl,?_⟩;rw[zcW hx,← List.append_assoc,← List.append_assoc,if_neg (by simp at h1 h2;simp[h1,h2])];exact j.zero
   ·refine zm (zd b (zd c (zd h1 (zd h2 (zd (kk7 hk) (wkc k (by omega))))))) ?_;refine zkA j hid fun S j=>?_;refine zm (wkc k (by omega)) ?_;refine zaF.next hlt ⟨rfl,?_⟩;rw[zcW hx,← List.append_assoc,← List.append_assoc,if_pos (by simp at h1 h2;simp[h2])];exact j
  ·refine zm (zd b (zd c (zd h1 (zd (kk7 hk) (wkc k (by omega)))))) ?_;refine zkA j hid fun S j=>?_;refine zm (wkc k (by omega)) ?_;refine zaF.next hlt ⟨rfl,?_⟩;rw[zcW hx,← List.append_assoc,← List.append_assoc,if_pos (by simp at h1;simp[h1])];exact j
 ·have hd:decide ((k:Int)<(m.changes.length:Int))=false:=by simp;omega
  rw[show m.changes.take k=m.changes from List.take_of_length_le (by omega)]at j;have b:=j.b;refine zm (zd hd (zd hcl (zd b (kk7 hk)))) ?_;refine zaP ?_;refine zm (show zeO m.kind=false by rw[hk];rfl) ?_;exact(j.as (by rw[← hQ];simp[zab,zC,hk,show zeO 7=false from rfl])).done hl hK
theorem c_aMsg8 {id:Nat}{P:List Int}{m:zbj}(hσ:σ[id]? = some (zfr (zax P)))(hm:zaK m)(hk:m.kind=8){K:KT}(hK:K (.tup []) (σ.set id (zfr (zax (P++zab m))))) :
  zP zbI [.box id 0,zgd m] σ K:=by
 refine zen zdl fun hl=>?_;have hid:=zZ hσ;simp only[zcs,iN,bT,bF,eN,zl6];have j:=zjL.first hσ (zla m);refine zm (kk8 hk) ?_;refine c_aNewView (m:=m) j.a hm ?_;have j:=j.set hid (P++zfG m);obtain⟨S1,hS1⟩:∃S1,(σ++[zla m]).set id (zfr (zax (P++zfG m)))=S1:=⟨_,rfl⟩;rw[hS1]at j;have b:=j.b;refine zm (zd hS1 (zd b (kk8 hk))) ?_;refine zaP ?_;refine zm (zd (show zeO m.kind=true by rw[hk];rfl) b) ?_;refine zbL ?_;refine zG ?_;refine zkA j hid fun S j=>?_;refine zG ?_;exact(j.as (by simp[zab,zC,hk,show zeO 8=true from rfl])).done hl hK
theorem noPf_small:zqS zte:=⟨by decide,by decide,by decide,by decide,by decide,by simp[zte,zqt],by simp[zte,zqt],by simp[zte,zqt],by simp[zte]⟩
theorem zvM:zaK zeq:=⟨⟨by decide,by simp[zeq]⟩,⟨by decide,by simp[zeq]⟩,by decide,by decide,by simp[zeq],by decide,by simp[zeq],noPf_small,by decide,by decide⟩
theorem ite_small {c:Prop}[h:Decidable c]{a b:zbj}(ha:zaK a)(hb:zaK b):zaK (if c then a else b):=by
 cases h
 ·rw[if_neg ‹_›];exact hb
 ·rw[if_pos ‹_›];exact ha
theorem zzl {m:zbj}(h:zaK m):zaK (zfB m):=by
 obtain⟨h1,h2,h3,h4,h5,h6,h7,h8,h9,h10⟩:=h;obtain⟨n1,n2,n3,n4,n5,n6,n7,n8,n9,n10⟩:=zvM;unfold zfB;repeat' refine ite_small ?_ ?_
 all_goals constructor<;>assumption
variable {σ:List AObj}
theorem zjL.cong {σ S:List AObj}{id:Nat}{B:AObj}{P P':List Int}(h:zjL σ id B P S)(e:zax P=zax P'):zjL σ id B P' S:=by
 obtain⟨h1,h2,h3⟩:=h;exact⟨e▸h1,h2,e▸h3⟩
abbrev hdrX (h:zsU):AObj:=.box [.d (.int .i64 h.seq),.d (.int .i64 h.prev),.d (.int .i64 h.batch),.d (.int .i64 h.root),.d (.int .i64 h.state)]
theorem c_aProof {id:Nat}{P:List Int}{p:zfi}(hσ:σ[id]? = some (zfr (zax P)))(hp:zqS p){K:KT}(hK:K (.tup []) (σ.set id (zfr (zax (P++zcS p))))) :
  zP zfN [.box id 0,znD p] σ K:=by
 refine zen zoP fun hl=>?_;have hid:=zZ hσ;have hrl:=zam p.rec_;have hhl:(zmv p.headers).length=p.headers.length:=List.length_map ..;have hpl:(zgH p.path).length=p.path.length:=List.length_map ..;have hph:=hp.headers;have hpb:=hp.path;simp only[zjg,iN,bT,bF,eN,znD];have j:=zjL.first hσ (zor p);refine zG ?_;refine j_name j hid (by have:=hp.topic;omega) fun S j=>?_;have b:=j.b;refine zm b ?_;refine zwl j hid fun S j=>?_;have b:=j.b;refine zm (zd b hrl) ?_;refine zui j hid fun S j=>?_;have b:=j.b;refine zm (zd b hhl) ?_;refine zui j hid fun S j=>?_;have b:=j.b;obtain⟨Q,hQ⟩:∃Q,P++[zkZ p.topic]++[zeP p.offset]++[inE p.rec_.length 0 64]++[inE p.headers.length 0 64]=Q:=⟨_,rfl⟩;rw[hQ]at j;have hQ1:P++zgB p=Q:=by rw[← hQ];simp[zgB]
 refine zm (zd b hhl) ?_;refine zn p.headers.length (fun k vs S=>vs=[.d (.int .i64 k)]/\zjL σ id (zor p) (Q++((p.headers.take k).map zhg).flatten) S) ⟨rfl,by simpa using j⟩ ?_;rintro k vs S hk ⟨rfl,j⟩;by_cases hlt:k<p.headers.length
 ·have hd:decide ((k:Int)<(p.headers.length:Int))=true:=by simp;omega
  have hx:p.headers[k]? = some p.headers[k]:=by simp[hlt]
  have hgx:=zQ (f:=zsi) hx;obtain⟨h,hhe⟩:∃h,p.headers[k]=h:=⟨_,rfl⟩;rw[hhe]at hx hgx;have c:(S++[hdrX h])[S.length]? = some (hdrX h):=by rw[zB];rfl
  have hne:S.length≠id:=by obtain⟨τ,h1⟩:=j.pre;rw[h1];simp;omega
  have j:=j.app [hdrX h];refine zdO (zd hd (zd hgx hhl)) ?_;obtain⟨n,hn⟩:∃n,S.length=n:=⟨_,rfl⟩;obtain⟨S0,hS0⟩:∃S0,S++[hdrX h]=S0:=⟨_,rfl⟩;rw[hn]at c hne;rw[hS0]at c j;simp only[hdrX]at hS0 c;rw[hn,hS0];refine jx_pos j hid hne c fun S j c=>?_;have hg:∀(k:Nat) x,[h.prev,h.batch,h.root,h.state][k]? = some x→[[D.int .i64 h.prev],[D.int .i64 h.batch],[D.int .i64 h.root],[D.int .i64 h.state]][k]? = some [D.int .i64 x]:=fun k x hx=>by
   have:=zQ (f:=fun t=>[D.int .i64 t]) hx;simpa using this
  have hhd:zhg h=[zkl h.seq]++[h.prev,h.batch,h.root,h.state].map zeP:=rfl;have hl4:[h.prev,h.batch,h.root,h.state].length=4:=rfl;obtain⟨R,hR⟩:∃R,Q++((p.headers.take k).map zhg).flatten++[zkl h.seq]=R:=⟨_,rfl⟩;rw[hR]at j;refine zm c ?_;obtain⟨l,hlq⟩:∃l,[h.prev,h.batch,h.root,h.state]=l:=⟨_,rfl⟩;rw[hlq]at hg hhd hl4;refine zn 4 (fun i vs S=>vs=[.d (.int .i64 i)]/\zjL σ id (zor p) (R++(l.take i).map zeP) S) ⟨rfl,by simpa using j⟩ ?_;rintro i vs S hi ⟨rfl,j⟩;by_cases hjl:i<4
  ·have hd2:decide ((i:Int)<((4:Nat):Int))=true:=by simp;omega
   have hy:l[i]? = some (l[i]'(by omega)):=List.getElem?_eq_getElem _;have hgy:=hg i _ hy;obtain⟨y,hye⟩:∃y,(l[i]'(by omega))=y:=⟨_,rfl⟩;rw[hye]at hy hgy;have hmy:=zjU (f:=zeP) hy;refine zm (zd hd2 hgy) ?_;refine zwl j hid fun S j=>?_;refine zm (wkc i (by omega)) ?_;exact zaF.next hjl ⟨rfl,j.as (by rw[hmy];simp)⟩
  ·have hd2:decide ((i:Int)<((4:Nat):Int))=false:=by simp;omega
   rw[List.take_of_length_le (by omega)]at j;refine zm (zd hd2 (wkc k (by omega))) ?_;refine zaF.next hlt ⟨rfl,j.as ?_⟩;rw[zcW hx,← hR,hhd];simp
 ·have hd:decide ((k:Int)<(p.headers.length:Int))=false:=by simp;omega
  rw[List.take_of_length_le (by omega)]at j;have b:=j.b;have hix:=hp.index;have hct:=hp.count;refine zm (zd hd b) ?_;refine zwl j hid fun S j=>?_;have b:=j.b;refine zm b ?_;refine zui j hid fun S j=>?_;have b:=j.b;obtain⟨R,hR⟩:∃R,Q++(p.headers.map zhg).flatten++[zeP p.index]++[inE p.count 0 16]=R:=⟨_,rfl⟩;rw[hR]at j;refine zm b ?_;refine j_in j hid fun S j=>?_;have j:zjL σ id (zor p) (R++[inE p.index 0 (p.count-1)]) S:=j.cong (by
   by_cases hz:zax R=0
   ·have hc0:inE p.count 0 16=0:=by
     rw[← hR,zeC]at hz;split at hz
     ·rename_i h;exact absurd hz h
     ·simp only[zax]at hz;split at hz
      ·rename_i h;exact absurd hz h
      ·rename_i h;simpa using h
    have:=zkB hc0;rw[show IntKind.i64.wrap (p.count-1)=p.count-1 from zaT (by omega) (by omega)]
   ·rw[zhH hz,zhH hz])
  have b:=j.b;refine zm (zd b hpl) ?_;refine zui j hid fun S j=>?_;have b:=j.b;obtain⟨V,hV⟩:∃V,R++[inE p.index 0 (p.count-1)]++[inE p.path.length 0 8]=V:=⟨_,rfl⟩;rw[hV]at j;refine zm (zd b hpl) ?_;refine zn p.path.length (fun k vs S=>vs=[.d (.int .i64 k)]/\zjL σ id (zor p) (V++(p.path.take k).map zeP) S) ⟨rfl,by simpa using j⟩ ?_;rintro i vs S hi ⟨rfl,j⟩;by_cases hjl:i<p.path.length
  ·have hd2:decide ((i:Int)<(p.path.length:Int))=true:=by simp;omega
   have hy:p.path[i]? = some p.path[i]:=by simp[hjl]
   have hgy:=zQ (f:=fun t=>[D.int .i64 t]) hy;obtain⟨y,hye⟩:∃y,p.path[i]=y:=⟨_,rfl⟩;rw[hye]at hy hgy;have hmy:=zjU (f:=zeP) hy;refine zm (zd hd2 (zd hgy hpl)) ?_;refine zwl j hid fun S j=>?_;refine zm (wkc i (by omega)) ?_;exact zaF.next hjl ⟨rfl,j.as (by rw[hmy];simp)⟩
  ·have hd2:decide ((i:Int)<(p.path.length:Int))=false:=by simp;omega
   rw[List.take_of_length_le (by omega)]at j;have b:=j.b;refine zm (zd hd2 (zd b hpl)) ?_;refine j_cert (c:=p.cert) j hid hp.signs fun S j=>?_;refine zG ?_;refine(j.as ?_).done hl hK;rw[← hV,← hR,← hQ1];simp[zcS,zfF,zhs]
theorem c_aMsg12 {id:Nat}{P:List Int}{m:zbj}(hσ:σ[id]? = some (zfr (zax P)))(hm:zaK m)(hk:m.kind=12){K:KT}(hK:K (.tup []) (σ.set id (zfr (zax (P++zab m))))) :
  zP zbI [.box id 0,zgd m] σ K:=by
 refine zen zdl fun hl=>?_;have hid:=zZ hσ;simp only[zcs,iN,bT,bF,eN,zl6];have j:=zjL.first hσ (zla m);refine zm (kk12 hk) ?_;refine zlp j hid fun S j=>?_;have b:=j.b;refine zm (zd b (kk12 hk)) ?_;refine c_aProof (p:=m.proof) j.a hm.proof ?_;have j:=j.set hid (P++[zjz m.src]++zcS m.proof);obtain⟨S1,hS1⟩:∃S1,S.set id (zfr (zax (P++[zjz m.src]++zcS m.proof)))=S1:=⟨_,rfl⟩;rw[hS1]at j ⊢;have b:=j.b;refine zm (zd b (kk12 hk)) ?_;refine zaP ?_;refine zm (zd (show zeO m.kind=false by rw[hk];rfl) b) ?_;exact(j.as (by simp[zab,zC,hk,show zeO 12=false from rfl])).done hl hK
variable {σ:List AObj}
theorem c_aVote {id:Nat}{P:List Int}{m:zbj}(hσ:σ[id]? = some (zfr (zax P))){K:KT}(hK:K (.tup []) (σ.set id (zfr (zax (P++zep m))))):zP zeB [.box id 0,zgd m] σ K:=by
 refine zen zqc fun hl=>?_;have hid:=zZ hσ;simp only[zjF,iN,bT,bF,eN];have j:=zjL.first hσ (zla m);refine zG ?_;refine zlp j hid fun S j=>?_;have b:=j.b;refine zm b ?_;refine zwl j hid fun S j=>?_;have b:=j.b;refine zm b ?_;refine j_pos j hid fun S j=>?_;have b:=j.b;refine zm b ?_;refine j_pos j hid fun S j=>?_;refine zG ?_;exact(j.as (by simp[zep])).done hl hK
theorem c_aMsgG {id:Nat}{P:List Int}{m:zbj}(hσ:σ[id]? = some (zfr (zax P)))(hm:zaK m){K:KT}(hK:K (.tup []) (σ.set id (zfr (zax (P++zab m))))) :
  zP zbI [.box id 0,zgd m] σ K:=by
 by_cases h7:m.kind=7
 ·exact c_aMsg7 hσ hm h7 hK
 by_cases h8:m.kind=8
 ·exact c_aMsg8 hσ hm h8 hK
 by_cases h12:m.kind=12
 ·exact c_aMsg12 hσ hm h12 hK
 refine zen zdl fun hl=>?_;have hid:=zZ hσ;simp only[zcs,iN,bT,bF,eN,zl6];have j:=zjL.first hσ (zla m);by_cases hk:m.kind=1
 ·have ho:zeO m.kind=false:=by rw[hk];rfl
  refine zm (K1 hk) ?_;refine j_in j hid fun S j=>?_;have b:=j.b;refine zm (zd b (K1 hk)) ?_;refine ziY (b:=m.batch) hm.batch ?_;refine zm (zd b (K1 hk)) ?_;refine zkA j hid fun S j=>?_;have b:=j.b;refine zm (zd b (K1 hk)) ?_;refine zaP ?_;refine zm (zd ho b) ?_;exact(j.as (by simp[zab,zC,hk,show zeO 1=false from rfl])).done hl hK
 by_cases hk:m.kind=2
 ·have ho:zeO m.kind=true:=by rw[hk];rfl
  refine zm (K2 hk) ?_;refine c_aVote (m:=m) j.a ?_;have j:=j.set hid (P++zep m);obtain⟨S1,hS1⟩:∃S1,(σ++[zla m]).set id (zfr (zax (P++zep m)))=S1:=⟨_,rfl⟩;rw[hS1]at j ⊢;have b:=j.b;refine zm (zd b (K2 hk)) ?_;refine ziY (b:=m.batch) hm.batch ?_;refine zm (zd b (K2 hk)) ?_;refine zkA j hid fun S j=>?_;have b:=j.b;refine zm (zd b (K2 hk)) ?_;refine zaP ?_;refine zm (zd ho b) ?_;refine zbL ?_;refine zG ?_;refine zkA j hid fun S j=>?_;refine zG ?_;exact(j.as (by simp[zab,zC,hk,show zeO 2=true from rfl])).done hl hK
 by_cases hk:m.kind=3
 ·have ho:zeO m.kind=true:=by rw[hk];rfl
  refine zm (K3 hk) ?_;refine c_aVote (m:=m) j.a ?_;have j:=j.set hid (P++zep m);obtain⟨S1,hS1⟩:∃S1,(σ++[zla m]).set id (zfr (zax (P++zep m)))=S1:=⟨_,rfl⟩;rw[hS1]at j ⊢;have b:=j.b;refine zm (zd b (K3 hk)) ?_;refine zaP ?_;refine zm (zd ho b) ?_;refine zbL ?_;refine zG ?_;refine zkA j hid fun S j=>?_;refine zG ?_;exact(j.as (by simp[zab,zC,hk,show zeO 3=true from rfl])).done hl hK
 by_cases hk:m.kind=4
 ·have ho:zeO m.kind=true:=by rw[hk];rfl
  refine zm (K4 hk) ?_;refine c_aVote (m:=m) j.a ?_;have j:=j.set hid (P++zep m);obtain⟨S1,hS1⟩:∃S1,(σ++[zla m]).set id (zfr (zax (P++zep m)))=S1:=⟨_,rfl⟩;rw[hS1]at j ⊢;have b:=j.b;refine zm (zd b (K4 hk)) ?_;refine zaP ?_;refine zm (zd ho b) ?_;refine zbL ?_;refine zG ?_;refine zkA j hid fun S j=>?_;refine zG ?_;exact(j.as (by simp[zab,zC,hk,show zeO 4=true from rfl])).done hl hK
 by_cases hk:m.kind=5
 ·have ho:zeO m.kind=true:=by rw[hk];rfl
  refine zm (K5 hk) ?_;refine zlp j hid fun S j=>?_;have b:=j.b;refine zm (zd b (K5 hk)) ?_;refine zwl j hid fun S j=>?_;have b:=j.b;refine zm (zd b (K5 hk)) ?_;refine j_in j hid fun S j=>?_;have b:=j.b;refine zm (zd b (K5 hk)) ?_;refine zwl j hid fun S j=>?_;have b:=j.b;refine zm (zd b (K5 hk)) ?_;refine j_in j hid fun S j=>?_;have b:=j.b;refine zm (zd b (K5 hk)) ?_;refine zwl j hid fun S j=>?_;have b:=j.b;refine zm (zd b (K5 hk)) ?_;refine zaP ?_;refine zm (zd ho b) ?_;refine zbL ?_;refine zG ?_;refine zkA j hid fun S j=>?_;refine zG ?_;exact(j.as (by simp[zab,zC,hk,show zeO 5=true from rfl])).done hl hK
 by_cases hk:m.kind=6
 ·have ho:zeO m.kind=true:=by rw[hk];rfl
  refine zm (K6 hk) ?_;refine zlp j hid fun S j=>?_;have b:=j.b;refine zm (zd b (K6 hk)) ?_;refine j_pos j hid fun S j=>?_;have b:=j.b;refine zm (zd b (K6 hk)) ?_;refine j_pos j hid fun S j=>?_;have b:=j.b;refine zm (zd b (K6 hk)) ?_;refine zaP ?_;refine zm (zd ho b) ?_;refine zbL ?_;refine zG ?_;refine zkA j hid fun S j=>?_;refine zG ?_;exact(j.as (by simp[zab,zC,hk,show zeO 6=true from rfl])).done hl hK
 by_cases hk:m.kind=9
 ·have ho:zeO m.kind=true:=by rw[hk];rfl
  refine zm (K9 hk) ?_;refine zlp j hid fun S j=>?_;have b:=j.b;refine zm (zd b (K9 hk)) ?_;refine zwl j hid fun S j=>?_;have b:=j.b;refine zm (zd b (K9 hk)) ?_;refine zaP ?_;refine zm (zd ho b) ?_;refine zbL ?_;refine zG ?_;refine zkA j hid fun S j=>?_;refine zG ?_;exact(j.as (by simp[zab,zC,hk,show zeO 9=true from rfl])).done hl hK
 by_cases hk:m.kind=10
 ·have ho:zeO m.kind=false:=by rw[hk];rfl
  refine zm (K10 hk) ?_;refine zlp j hid fun S j=>?_;have b:=j.b;refine zm (zd b (K10 hk)) ?_;refine j_cert (c:=m.cert) j hid hm.signs fun S j=>?_;have b:=j.b;refine zm (zd b (K10 hk)) ?_;refine zui j hid fun S j=>?_;have b:=j.b;refine zm (zd b (K10 hk)) ?_;refine zaP ?_;refine zm (zd ho b) ?_;exact(j.as (by simp[zab,zC,hk,show zeO 10=false from rfl])).done hl hK
 by_cases hk:m.kind=11
 ·have ho:zeO m.kind=false:=by rw[hk];rfl
  refine zm (K11 hk) ?_;refine j_in j hid fun S j=>?_;have b:=j.b;refine zm (zd b (K11 hk)) ?_;refine j_name j hid (by have:=hm.topic;omega) fun S j=>?_;have b:=j.b;refine zm (zd b (K11 hk)) ?_;refine zwl j hid fun S j=>?_;have b:=j.b;refine zm (zd b (K11 hk)) ?_;refine zaP ?_;refine zm (zd ho b) ?_;exact(j.as (by simp[zab,zC,hk,show zeO 11=false from rfl])).done hl hK
 have hk:¬(1<=m.kind/\m.kind<=12):=by omega
 have ho:zeO m.kind=false:=by simp only[zeO,decide_eq_false_iff_not];omega
 refine zm (K0 hk) ?_;refine zkA j hid fun S j=>?_;have b:=j.b;refine zm b ?_;refine zaP ?_;refine zm (zd ho b) ?_;exact(j.as (by simp[zab,zC, *])).done hl hK
theorem c_bareG {m:zbj}{K:KT}(hK:K (zgd (zfB m)) σ):zP zmc [zgd m] σ K:=by
 refine zey zye fun hl=>?_;simp only[zqO,iN,bT,bF,eN,zl3];by_cases hk:m.kind=1
 ·have ho:zeO m.kind=false:=by rw[hk];rfl
  refine zm (K1 hk) ?_;refine zaP ?_;refine zm ho ?_;refine zu hl ?_;simp only[zfB,hk]at hK;rw[hk];exact hK
 by_cases hk:m.kind=2
 ·have ho:zeO m.kind=true:=by rw[hk];rfl
  refine zm (K2 hk) ?_;refine zaP ?_;refine zm ho ?_;refine zu hl ?_;simp only[zfB,hk]at hK;rw[hk];exact hK
 by_cases hk:m.kind=3
 ·have ho:zeO m.kind=true:=by rw[hk];rfl
  refine zm (K3 hk) ?_;refine zaP ?_;refine zm ho ?_;refine zu hl ?_;simp only[zfB,hk]at hK;rw[hk];exact hK
 by_cases hk:m.kind=4
 ·have ho:zeO m.kind=true:=by rw[hk];rfl
  refine zm (K4 hk) ?_;refine zaP ?_;refine zm ho ?_;refine zu hl ?_;simp only[zfB,hk]at hK;rw[hk];exact hK
 by_cases hk:m.kind=5
 ·have ho:zeO m.kind=true:=by rw[hk];rfl
  refine zm (K5 hk) ?_;refine zaP ?_;refine zm ho ?_;refine zu hl ?_;simp only[zfB,hk]at hK;rw[hk];exact hK
 by_cases hk:m.kind=6
 ·have ho:zeO m.kind=true:=by rw[hk];rfl
  refine zm (K6 hk) ?_;refine zaP ?_;refine zm ho ?_;refine zu hl ?_;simp only[zfB,hk]at hK;rw[hk];exact hK
 by_cases hk:m.kind=7
 ·have ho:zeO m.kind=false:=by rw[hk];rfl
  refine zm (K7 hk) ?_;refine zaP ?_;refine zm ho ?_;refine zu hl ?_;simp only[zfB,hk]at hK;rw[hk];exact hK
 by_cases hk:m.kind=8
 ·have ho:zeO m.kind=true:=by rw[hk];rfl
  refine zm (K8 hk) ?_;refine zaP ?_;refine zm ho ?_;refine zu hl ?_;simp only[zfB,hk]at hK;rw[hk];exact hK
 by_cases hk:m.kind=9
 ·have ho:zeO m.kind=true:=by rw[hk];rfl
  refine zm (K9 hk) ?_;refine zaP ?_;refine zm ho ?_;refine zu hl ?_;simp only[zfB,hk]at hK;rw[hk];exact hK
 by_cases hk:m.kind=10
 ·have ho:zeO m.kind=false:=by rw[hk];rfl
  refine zm (K10 hk) ?_;refine zaP ?_;refine zm ho ?_;refine zu hl ?_;simp only[zfB,hk]at hK;rw[hk];exact hK
 by_cases hk:m.kind=11
 ·have ho:zeO m.kind=false:=by rw[hk];rfl
  refine zm (K11 hk) ?_;refine zaP ?_;refine zm ho ?_;refine zu hl ?_;simp only[zfB,hk]at hK;rw[hk];exact hK
 by_cases hk:m.kind=12
 ·have ho:zeO m.kind=false:=by rw[hk];rfl
  refine zm (K12 hk) ?_;refine zaP ?_;refine zm ho ?_;refine zu hl ?_;simp only[zfB,hk]at hK;rw[hk];exact hK
 have hk:¬(1<=m.kind/\m.kind<=12):=by omega
 have ho:zeO m.kind=false:=by simp only[zeO,decide_eq_false_iff_not];omega
 refine zm (K0 hk) ?_;refine zaP ?_;refine zm ho ?_;refine zu hl ?_;have e:zfB m={ zeq with kind:=m.kind,src:=m.src }:=by simp[zfB, *]
 rw[e]at hK;exact hK
theorem c_mCheckG {m:zbj}(hm:zaK m){K:KT}(hK:K (.d (.int .i64 (zbJ m))) σ):zP zhD [zgd m] σ K:=by
 refine zey zwH fun hl=>?_;have fin:∀z,zbJ m=z->K (.d (.int .i64 z)) σ:=fun z h=>h▸hK;clear hK;simp only[zpm,iN,bT,bF,eN];refine zG ?_;refine c_aMsgG (P:=[]) (m:=m) (by rw[List.getElem?_append_right (by omega)];simp[zfr,zax]) hm ?_;cases h1:(zax (zab m)==0)
 ·refine zlr h1 ?_;refine zu hl ?_;exact fin _ (by simp at h1;simp[zbJ,h1])
 refine zlr h1 ?_;refine c_bareG (m:=m) ?_;refine zG ?_;refine c_mSame (a:=m) (b:=zfB m) hm (zzl hm) ?_;cases h2:decide (m=zfB m)
 ·refine zG ?_;refine zu hl ?_;exact fin _ (by simp at h1 h2;simp[zbJ,h1,h2])
 ·refine zm h1 ?_;refine zu hl ?_;exact fin _ (by simp at h1 h2;simp[zbJ,h1,← h2])
end Go.Proofs.YtdgcepphjnoalaaGreat
