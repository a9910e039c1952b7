/- Contracts: messages that are the same, the program's. -/
import Derived.Test.YtdgcepphjnoalaaGreatSpTab
set_option linter.all false
set_option maxRecDepth 100000
namespace Go.Proofs.YtdgcepphjnoalaaGreat
open Go.AW
variable {σ:List AObj} {K:KT}
theorem c_mSameProof {a b:zfl}(ha:zqN a)(hK:K (.d (.bool (decide (a=b)))) σ):zP zhb [znD a,znD b] σ K:=by
 refine zeq zrj fun hl=>?_;have fin:∀z,decide (a=b)=z->K (.d (.bool z)) σ:=fun z h=>h▸hK;clear hK;simp only[zkV,iN,bT,bF,eN];cases h1:(a.topic==b.topic)
 ·refine zm h1 ?_;refine zu hl ?_;exact fin _ (decide_eq_false fun h=>by subst h;simp at h1)
 cases h2:(a.offset==b.offset)
 ·refine zm (zd h1 h2) ?_;refine zu hl ?_;exact fin _ (decide_eq_false fun h=>by subst h;simp at h2)
 refine zjB (zd h1 h2) ?_;refine znx ?_;cases h3:(a.rec_==b.rec_)
 ·refine zm h3 ?_;refine zu hl ?_;exact fin _ (decide_eq_false fun h=>by subst h;simp at h3)
 refine zjB h3 ?_;refine c_eqHdr ha.headers ?_;cases h4:decide (a.headers=b.headers)
 ·refine zm h4 ?_;refine zu hl ?_;exact fin _ (decide_eq_false fun h=>by subst h;simp at h4)
 cases h5:(a.index==b.index)
 ·refine zm (zd h4 h5) ?_;refine zu hl ?_;exact fin _ (decide_eq_false fun h=>by subst h;simp at h5)
 cases h6:(a.count==b.count)
 ·refine zm (zd h4 (zd h5 h6)) ?_;refine zu hl ?_;exact fin _ (decide_eq_false fun h=>by subst h;simp at h6)
 refine zjB (zd h4 (zd h5 h6)) ?_;refine c_eqDig ha.path ?_;cases h7:decide (a.path=b.path)
 ·refine zm h7 ?_;refine zu hl ?_;exact fin _ (decide_eq_false fun h=>by subst h;simp at h7)
 refine zjB h7 ?_;refine zrx (a:=a.cert) (b:=b.cert) ha.signs ?_;cases h8:decide (a.cert=b.cert)
 ·refine zm h8 ?_;refine zu hl ?_;exact fin _ (decide_eq_false fun h=>by subst h;simp at h8)
 refine zm h8 ?_;refine zu hl ?_;exact fin _ (decide_eq_true (by cases a;cases b;simp_all))
abbrev fltMA (a:zbC):AV:=.agg [.d (.int .i64 a.kind),.d (.int .i64 a.src),.d (.int .i64 a.client),.d (.int .i64 a.view),.d (.int .i64 a.seq),.d (.int .i64 a.time),.d (.int .i64 a.offset),.d (.int .i64 a.dig),.d (.int .i64 a.rerr),.d (.int .i64 a.roff),.d (.str a.topic),.d (.int .i64 a.key),.d (.int .i64 a.sdig)]
theorem c_flatOf {a:zbC}(hK:K (fltMA a) σ):zP zgT [zgi a] σ K:=by
 refine zeA zuU fun hl=>?_;simp only[znS,iN,bT,bF,eN,zl8];refine zG ?_;refine zu hl ?_;exact hK
structure zaI (m:zbC):Prop where
 batch:okB m.batch
 batchS:zgl m.batch
 signs:m.cert.signs.length<=1073741824
 changes:m.changes.length<=1073741824
 change:∀c∈m.changes,okCh c/\zjR c
 entries:m.entries.length<=1073741824
 entry:∀x∈m.entries,okB x.batch/\zvK x
 proof:zqN m.proof
 topic:m.topic.length<=16777216
 state:m.state.length<=1073741824
theorem c_mSame {a b:zbC}(ha:zaI a)(hb:zaI b)(hK:K (.d (.bool (decide (a=b)))) σ):zP zmg [zgi a,zgi b] σ K:=by
 refine zeq zxZ fun hl=>?_;have fin:∀z,decide (a=b)=z->K (.d (.bool z)) σ:=fun z h=>h▸hK;clear hK;simp only[zqK,iN,bT,bF,eN];refine zG ?_;refine c_flatOf (a:=a) ?_;refine zG ?_;refine c_flatOf (a:=b) ?_;cases h1:((a.kind==b.kind&&(a.src==b.src&&(a.client==b.client&&(a.view==b.view&&(a.seq==b.seq&&(a.time==b.time&&(a.offset==b.offset&&(a.dig==b.dig&&(a.rerr==b.rerr&&(a.roff==b.roff&&(a.topic==b.topic&&(a.key==b.key&&a.sdig==b.sdig)))))))))))))
 ·refine zdV h1 ?_;refine zu hl ?_;exact fin _ (decide_eq_false fun h=>by subst h;simp at h1)
 refine zdV h1 ?_;refine zwQ ha.batchS hb.batchS ?_;cases h2:decide (a.batch=b.batch)
 ·refine zm h2 ?_;refine zu hl ?_;exact fin _ (decide_eq_false fun h=>by subst h;simp at h2)
 refine zjB h2 ?_;refine zrx (a:=a.cert) (b:=b.cert) ha.signs ?_;cases h3:decide (a.cert=b.cert)
 ·refine zm h3 ?_;refine zu hl ?_;exact fin _ (decide_eq_false fun h=>by subst h;simp at h3)
 refine zjB h3 ?_;refine c_eqChanges ha.changes (fun x hx=>(ha.change x hx).2) (fun x hx=>(hb.change x hx).2) ?_;cases h4:decide (a.changes=b.changes)
 ·refine zm h4 ?_;refine zu hl ?_;exact fin _ (decide_eq_false fun h=>by subst h;simp at h4)
 refine zjB h4 ?_;refine c_eqEntries ha.entries (fun x hx=>(ha.entry x hx).2) (fun x hx=>(hb.entry x hx).2) ?_;cases h5:decide (a.entries=b.entries)
 ·refine zm h5 ?_;refine zu hl ?_;exact fin _ (decide_eq_false fun h=>by subst h;simp at h5)
 refine zjB h5 ?_;refine znx ?_;cases h6:(a.state==b.state)
 ·refine zm h6 ?_;refine zu hl ?_;exact fin _ (decide_eq_false fun h=>by subst h;simp at h6)
 refine zjB h6 ?_;refine c_mSameProof (a:=a.proof) (b:=b.proof) ha.proof ?_;cases h7:decide (a.proof=b.proof)
 ·refine zm h7 ?_;refine zu hl ?_;exact fin _ (decide_eq_false fun h=>by subst h;simp at h7)
 refine zm h7 ?_;refine zu hl ?_;exact fin _ (decide_eq_true (by cases a;cases b;simp_all))
variable {σ:List AObj} {K:KT}
theorem c_intIndex {l:List Int}{x:Int}(hl0:l.length<=1073741824)(hK:∀i:Int,(0<=i↔x∈l)->K (.d (.int .i64 i)) σ) :
  zP zfq [.d (.slice (zhY l)),.d (.int .i64 x)] σ K:=by
 refine zeq zoa fun hl=>?_;simp only[zih,iN,bT,bF,eN];refine zG ?_;refine zn l.length (fun k vs s=>vs=[.d (.int .i64 k)]/\(∃T,s=σ++T)/\x∉l.take k) ⟨rfl,⟨[],by simp⟩,by simp⟩ ?_;rintro k vs s hk ⟨rfl,⟨T,rfl⟩,htk⟩;by_cases hlt:k<l.length
 ·have hd:decide ((k:Int)<(l.length:Int))=true:=by simp;omega
  have hx:l[k]? = some l[k]:=by simp[hlt]
  have hmem:=List.getElem_mem hlt;have hgx:=zR (f:=fun t=>[D.int .i64 t]) hx;obtain⟨y,hye⟩:∃y,l[k]=y:=⟨_,rfl⟩;rw[hye]at hx hgx hmem;cases h:(x==y)
  ·refine zm (zd hd (zd hgx (zd h (wk1 k (by omega))))) ?_;refine zaK.next hlt ⟨rfl,⟨_,rfl⟩,?_⟩;rw[List.take_add_one,hx];simp at h;simp[htk,h]
  ·refine zm (zd hd (zd hgx h)) ?_;refine zu hl ?_;refine hK _ ?_;simp at h;simp[h,hmem]
 ·have hd:decide ((k:Int)<(l.length:Int))=false:=by simp;omega
  refine zm hd ?_;refine zu hl ?_;refine hK _ ?_;rw[List.take_of_length_le (by omega)]at htk;simp[htk]
theorem zAB {l:List Int}{x:Int}(hl0:l.length<=1073741824)(hK:K (.d (.bool (decide (x∈l)))) σ) :
  zP zew [.d (.slice (zhY l)),.d (.int .i64 x)] σ K:=by
 refine zeq zmi fun hl=>?_;simp only[zgQ,iN,bT,bF,eN];refine zG ?_;refine c_intIndex hl0 fun i hi=>?_;have e:decide (i≥0)=decide (x∈l):=by rw[decide_eq_decide,ge_iff_le,hi]
 refine zG ?_;rw[e];refine zu hl ?_;exact hK
theorem zaP {k:Int}(hK:K (.d (.bool (zeT k))) σ):zP zdZ [.d (.int .i64 k)] σ K:=by
 refine zeA zuT fun hl=>?_;simp only[znR,iN,bT,bF,eN];refine zG ?_;refine zAB (l:=[2,3,4,5,6,8,9]) (by simp) ?_;have e:decide (k∈[2,3,4,5,6,8,9])=zeT k:=by
  unfold zeT;rw[decide_eq_decide];simp;omega
 rw[e];refine zG ?_;refine zu hl ?_;exact hK
theorem zjP.zero {σ S:List AObj}{id:Nat}{B:AObj}{P:List Int}(h:zjP σ id B P S):zjP σ id B (P++[0]) S:=by
 have e:zax (P++[0])=zax P:=by
  rw[zeH];by_cases h:zax P=0
  ·rw[if_neg (by simpa using h),h];rfl
  ·rw[if_pos h]
 obtain⟨h1,h2,h3⟩:=h;exact⟨by rw[e];exact h1,h2,by rw[e];exact h3⟩
variable {σ:List AObj} {K:KT}
section
variable {σ S:List AObj} {id n:Nat} {B X:AObj} {P:List Int} {K:KT} (j:zjP σ id B P S) (hid:id<σ.length) (hne:n≠id) (c:S[n]? = some X)
include j hid hne c
theorem jx_says {x:Int}(hK:∀S,zjP σ id B (P++[x]) S->S[n]? = some X->K (.tup []) S):zP zE [.box id 0,.d (.int .i64 x)] S K:=c_aSays j.a (hK _ (j.set hid _) ((List.getElem?_set_ne hne.symm).trans c))
theorem jx_num {x:Int}(hK:∀S,zjP σ id B (P++[zeU x]) S->S[n]? = some X->K (.tup []) S):zP zQ [.box id 0,.d (.int .i64 x)] S K:=c_aNum j.a (hK _ (j.set hid _) ((List.getElem?_set_ne hne.symm).trans c))
theorem jx_pos {x:Int}(hK:∀S,zjP σ id B (P++[zkr x]) S->S[n]? = some X->K (.tup []) S):zP zaf [.box id 0,.d (.int .i64 x)] S K:=c_aPos j.a (hK _ (j.set hid _) ((List.getElem?_set_ne hne.symm).trans c))
end
theorem c_aNewView {id:Nat}{P:List Int}{m:zbC}(hσ:σ[id]? = some (zfu (zax P)))(hm:zaI m)(hK:K (.tup []) (σ.set id (zfu (zax (P++zfH m))))) :
  zP zfa [.box id 0,zgi m] σ K:=by
 refine zeq znq fun hl=>?_;have hid:=zaa hσ;have hcl:(zap m.changes).length=m.changes.length:=List.length_map ..;have hel:(zbo m.entries).length=m.entries.length:=List.length_map ..;have hc:=hm.changes;have he:=hm.entries;simp only[zhV,iN,bT,bF,eN,zl6];have j:=zjP.first hσ (zlg m);refine zG ?_;refine zlu j hid fun S j=>?_;have b:=j.b;refine zm b ?_;refine j_pos j hid fun S j=>?_;have b:=j.b;refine zm (zd b hcl) ?_;refine ztY j hid fun S j=>?_;have b:=j.b;obtain⟨Q,hQ⟩:∃Q,P++[zjE m.src]++[zkr m.view]++[inE m.changes.length 0 13]=Q:=⟨_,rfl⟩;rw[hQ]at j;refine zm (zd b hcl) ?_;refine zn m.changes.length (fun k vs S=>vs=[.d (.int .i64 k)]/\zjP σ id (zlg m) (Q++((m.changes.take k).map zaT).flatten) S) ⟨rfl,by simpa using j⟩ ?_;rintro k vs S hk ⟨rfl,j⟩;by_cases hlt:k<m.changes.length
 ·have hd:decide ((k:Int)<(m.changes.length:Int))=true:=by simp;omega
  have hx:m.changes[k]? = some m.changes[k]:=by simp[hlt]
  have hpx:=hm.change _ (List.getElem_mem hlt);have hgx:=zR (f:=zaj) hx;obtain⟨p,hp⟩:∃p,m.changes[k]=p:=⟨_,rfl⟩;rw[hp]at hx hgx hpx;refine zdV (zd hd (zd hgx hcl)) ?_;refine c_aChange (c:=p) (zi j.a) hpx.1 ?_;have j2:=(j.app [.box (zbL p)]).set hid (Q++((m.changes.take k).map zaT).flatten++zaT p);refine zm (wkc k (by omega)) ?_;refine zaK.next hlt ⟨rfl,?_⟩;rw[zda hx,← List.append_assoc];exact j2
 ·have hd:decide ((k:Int)<(m.changes.length:Int))=false:=by simp;omega
  rw[show m.changes.take k=m.changes from List.take_of_length_le (by omega)]at j;have b:=j.b;refine zm (zd hd (zd hcl (zd b hel))) ?_;refine ztY j hid fun S j=>?_;have b:=j.b;obtain⟨R,hR⟩:∃R,Q++(m.changes.map zaT).flatten++[inE m.entries.length 0 8]=R:=⟨_,rfl⟩;rw[hR]at j;refine zm (zd b hel) ?_;refine zn m.entries.length (fun k vs S=>vs=[.d (.int .i64 k)]/\zjP σ id (zlg m) (R++((m.entries.take k).map zen).flatten) S) ⟨rfl,by simpa using j⟩ ?_;rintro k vs S hk ⟨rfl,j⟩;by_cases hlt:k<m.entries.length
  ·have hd:decide ((k:Int)<(m.entries.length:Int))=true:=by simp;omega
   have hx:m.entries[k]? = some m.entries[k]:=by simp[hlt]
   have hpx:=hm.entry _ (List.getElem_mem hlt);have hgx:=zR (f:=zdI) hx;obtain⟨x,hp⟩:∃x,m.entries[k]=x:=⟨_,rfl⟩;rw[hp]at hx hgx hpx;obtain⟨X,hX⟩:∃X,AObj.box [.d (.int .i64 x.view),.d (.int .i64 x.seq),.d (.slice (zbz x.batch)),.d (.int .i64 x.key),.d (.int .i64 x.dig)]=X:=⟨_,rfl⟩;have c:(S++[X])[S.length]? = some X:=by rw[zB];rfl
   have hne:S.length≠id:=by obtain⟨τ,h1⟩:=j.pre;rw[h1];simp;omega
   have j:=j.app [X];subst hX;refine zdV (zd hd (zd hgx hel)) ?_;obtain⟨n,hn⟩:∃n,S.length=n:=⟨_,rfl⟩;obtain⟨S0,hS0⟩:∃S0,S++[AObj.box [.d (.int .i64 x.view),.d (.int .i64 x.seq),.d (.slice (zbz x.batch)),.d (.int .i64 x.key),.d (.int .i64 x.dig)]]=S0:=⟨_,rfl⟩;rw[hn]at c hne;rw[hS0]at c j;rw[hn,hS0];refine jx_num j hid hne c fun S j c=>?_;refine zm c ?_;refine jx_pos j hid hne c fun S j c=>?_;refine zm c ?_;refine zjb hpx.1 ?_;refine zG ?_;refine jx_says j hid hne c fun S j c=>?_;refine zm c ?_;refine zbM ?_;refine zG ?_;refine jx_says j hid hne c fun S j c=>?_;refine zm (wkc k (by omega)) ?_;exact zaK.next hlt ⟨rfl,j.as (by rw[zda hx];simp[zen])⟩
  ·have hd:decide ((k:Int)<(m.entries.length:Int))=false:=by simp;omega
   rw[show m.entries.take k=m.entries from List.take_of_length_le (by omega)]at j;refine zm (zd hd hel) ?_;exact(j.as (by rw[← hR,← hQ];simp[zfH])).done hl hK
theorem c_aMsg7 {id:Nat}{P:List Int}{m:zbC}(hσ:σ[id]? = some (zfu (zax P)))(hm:zaI m)(hk:m.kind=7)(hK:K (.tup []) (σ.set id (zfu (zax (P++zac m))))) :
  zP zbJ [.box id 0,zgi m] σ K:=by
 refine zeq zdq fun hl=>?_;have hid:=zaa hσ;have hcl:(zap m.changes).length=m.changes.length:=List.length_map ..;have hc:=hm.changes;simp only[zct,iN,bT,bF,eN,zl6];have j:=zjP.first hσ (zlg m);refine zm (zd (kk7 hk) hcl) ?_;refine j_in j hid fun S j=>?_;have b:=j.b;obtain⟨Q,hQ⟩:∃Q,P++[inE m.changes.length 1 1]=Q:=⟨_,rfl⟩;rw[hQ]at j;refine zm (zd b (zd hcl (kk7 hk))) ?_;refine zn m.changes.length (fun k vs S=>vs=[.d (.int .i64 k)]/\zjP σ id (zlg m) (Q++((m.changes.take k).map fun c=>zaT c++[if c.src≠m.src∨c.view≠m.view then 100 else 0]).flatten) S) ⟨rfl,by simpa using j⟩ ?_;rintro k vs S hk0 ⟨rfl,j⟩;by_cases hlt:k<m.changes.length
 ·have hd:decide ((k:Int)<(m.changes.length:Int))=true:=by simp;omega
  have hx:m.changes[k]? = some m.changes[k]:=by simp[hlt]
  have hpx:=hm.change _ (List.getElem_mem hlt);have hgx:=zR (f:=zaj) hx;obtain⟨p,hp⟩:∃p,m.changes[k]=p:=⟨_,rfl⟩;rw[hp]at hx hgx hpx;have c:(S++[.box (zbL p)])[S.length]? = some (.box (zbL p)):=by rw[zB];rfl
  have hne:S.length≠id:=by obtain⟨τ,h1⟩:=j.pre;rw[h1];simp;omega
  have j:=j.app [.box (zbL p)];refine zdV (zd hd (zd hgx hcl)) ?_;obtain⟨n,hn⟩:∃n,S.length=n:=⟨_,rfl⟩;obtain⟨S0,hS0⟩:∃S0,S++[AObj.box (zbL p)]=S0:=⟨_,rfl⟩;rw[hn]at c hne;rw[hS0]at c j;rw[hn,hS0];refine c_aChange (c:=p) j.a hpx.1 ?_;have j:=j.set hid (Q++((m.changes.take k).map fun c=>zaT c++[if c.src≠m.src∨c.view≠m.view then 100 else 0]).flatten++zaT p);have c:=(List.getElem?_set_ne (a:=zfu (zax (Q++((m.changes.take k).map fun c=>zaT c++[if c.src≠m.src∨c.view≠m.view then 100 else 0]).flatten++zaT p))) hne.symm).trans c;obtain⟨S1,hS1⟩:∃S1,S0.set id (zfu (zax (Q++((m.changes.take k).map fun c=>zaT c++[if c.src≠m.src∨c.view≠m.view then 100 else 0]).flatten++zaT p)))=S1:=⟨_,rfl⟩;rw[hS1]at c j ⊢;have b:=j.b;cases h1:(p.src != m.src)
  ·cases h2:(p.view != m.view)
   ·refine zm (zd b (zd c (zd h1 (zd h2 (zd (kk7 hk) (wkc k (by omega))))))) ?_;refine zaK.next hlt ⟨rfl,?_⟩;rw[zda hx,← List.append_assoc,← List.append_assoc,if_neg (by simp at h1 h2;simp[h1,h2])];exact j.zero
   ·refine zm (zd b (zd c (zd h1 (zd h2 (zd (kk7 hk) (wkc k (by omega))))))) ?_;refine zkE j hid fun S j=>?_;refine zm (wkc k (by omega)) ?_;refine zaK.next hlt ⟨rfl,?_⟩;rw[zda hx,← List.append_assoc,← List.append_assoc,if_pos (by simp at h1 h2;simp[h2])];exact j
  ·refine zm (zd b (zd c (zd h1 (zd (kk7 hk) (wkc k (by omega)))))) ?_;refine zkE j hid fun S j=>?_;refine zm (wkc k (by omega)) ?_;refine zaK.next hlt ⟨rfl,?_⟩;rw[zda hx,← List.append_assoc,← List.append_assoc,if_pos (by simp at h1;simp[h1])];exact j
 ·have hd:decide ((k:Int)<(m.changes.length:Int))=false:=by simp;omega
  rw[show m.changes.take k=m.changes from List.take_of_length_le (by omega)]at j;have b:=j.b;refine zm (zd hd (zd hcl (zd b (kk7 hk)))) ?_;refine zaP ?_;refine zm (show zeT m.kind=false by rw[hk];rfl) ?_;exact(j.as (by rw[← hQ];simp[zac,zC,hk,show zeT 7=false from rfl])).done hl hK
theorem c_aMsg8 {id:Nat}{P:List Int}{m:zbC}(hσ:σ[id]? = some (zfu (zax P)))(hm:zaI m)(hk:m.kind=8)(hK:K (.tup []) (σ.set id (zfu (zax (P++zac m))))) :
  zP zbJ [.box id 0,zgi m] σ K:=by
 refine zeq zdq fun hl=>?_;have hid:=zaa hσ;simp only[zct,iN,bT,bF,eN,zl6];have j:=zjP.first hσ (zlg m);refine zm (kk8 hk) ?_;refine c_aNewView (m:=m) j.a hm ?_;have j:=j.set hid (P++zfH m);obtain⟨S1,hS1⟩:∃S1,(σ++[zlg m]).set id (zfu (zax (P++zfH m)))=S1:=⟨_,rfl⟩;rw[hS1]at j;have b:=j.b;refine zm (zd hS1 (zd b (kk8 hk))) ?_;refine zaP ?_;refine zm (zd (show zeT m.kind=true by rw[hk];rfl) b) ?_;refine zbM ?_;refine zG ?_;refine zkE j hid fun S j=>?_;refine zG ?_;exact(j.as (by simp[zac,zC,hk,show zeT 8=true from rfl])).done hl hK
theorem noPf_small:zqN zsU:=⟨by decide,by decide,by decide,by decide,by decide,by simp[zsU,zqn],by simp[zsU,zqn],by simp[zsU,zqn],by simp[zsU]⟩
theorem zvJ:zaI zeu:=⟨⟨by decide,by simp[zeu]⟩,⟨by decide,by simp[zeu]⟩,by decide,by decide,by simp[zeu],by decide,by simp[zeu],noPf_small,by decide,by decide⟩
theorem ite_small {c:Prop}[h:Decidable c]{a b:zbC}(ha:zaI a)(hb:zaI b):zaI (if c then a else b):=by
 cases h
 ·rw[if_neg ‹_›];exact hb
 ·rw[if_pos ‹_›];exact ha
theorem zza {m:zbC}(h:zaI m):zaI (zfD m):=by
 obtain⟨h1,h2,h3,h4,h5,h6,h7,h8,h9,h10⟩:=h;obtain⟨n1,n2,n3,n4,n5,n6,n7,n8,n9,n10⟩:=zvJ;unfold zfD;repeat' refine ite_small ?_ ?_
 all_goals constructor<;>assumption
variable {σ:List AObj} {K:KT}
theorem zjP.cong {σ S:List AObj}{id:Nat}{B:AObj}{P P':List Int}(h:zjP σ id B P S)(e:zax P=zax P'):zjP σ id B P' S:=by
 obtain⟨h1,h2,h3⟩:=h;exact⟨e▸h1,h2,e▸h3⟩
abbrev hdrX (h:zsK):AObj:=.box [.d (.int .i64 h.seq),.d (.int .i64 h.prev),.d (.int .i64 h.batch),.d (.int .i64 h.root),.d (.int .i64 h.state)]
theorem c_aProof {id:Nat}{P:List Int}{p:zfl}(hσ:σ[id]? = some (zfu (zax P)))(hp:zqN p)(hK:K (.tup []) (σ.set id (zfu (zax (P++zcU p))))) :
  zP zfN [.box id 0,znD p] σ K:=by
 refine zeq zoM fun hl=>?_;have hid:=zaa hσ;have hrl:=zam p.rec_;have hhl:(zmw p.headers).length=p.headers.length:=List.length_map ..;have hpl:(zhY p.path).length=p.path.length:=List.length_map ..;have hph:=hp.headers;have hpb:=hp.path;simp only[zjk,iN,bT,bF,eN,znD];have j:=zjP.first hσ (zop p);refine zG ?_;refine j_name j hid (by have:=hp.topic;omega) fun S j=>?_;have b:=j.b;refine zm b ?_;refine zwi j hid fun S j=>?_;have b:=j.b;refine zm (zd b hrl) ?_;refine ztY j hid fun S j=>?_;have b:=j.b;refine zm (zd b hhl) ?_;refine ztY j hid fun S j=>?_;have b:=j.b;obtain⟨Q,hQ⟩:∃Q,P++[zlf p.topic]++[zeU p.offset]++[inE p.rec_.length 0 64]++[inE p.headers.length 0 64]=Q:=⟨_,rfl⟩;rw[hQ]at j;have hQ1:P++zgD p=Q:=by rw[← hQ];simp[zgD]
 refine zm (zd b hhl) ?_;refine zn p.headers.length (fun k vs S=>vs=[.d (.int .i64 k)]/\zjP σ id (zop p) (Q++((p.headers.take k).map zhi).flatten) S) ⟨rfl,by simpa using j⟩ ?_;rintro k vs S hk ⟨rfl,j⟩;by_cases hlt:k<p.headers.length
 ·have hd:decide ((k:Int)<(p.headers.length:Int))=true:=by simp;omega
  have hx:p.headers[k]? = some p.headers[k]:=by simp[hlt]
  have hgx:=zR (f:=zxI) hx;obtain⟨h,hhe⟩:∃h,p.headers[k]=h:=⟨_,rfl⟩;rw[hhe]at hx hgx;have c:(S++[hdrX h])[S.length]? = some (hdrX h):=by rw[zB];rfl
  have hne:S.length≠id:=by obtain⟨τ,h1⟩:=j.pre;rw[h1];simp;omega
  have j:=j.app [hdrX h];refine gq19 (zd hd (zd hgx hhl)) ?_;obtain⟨n,hn⟩:∃n,S.length=n:=⟨_,rfl⟩;obtain⟨S0,hS0⟩:∃S0,S++[hdrX h]=S0:=⟨_,rfl⟩;rw[hn]at c hne;rw[hS0]at c j;simp only[hdrX]at hS0 c;rw[hn,hS0];refine jx_pos j hid hne c fun S j c=>?_;have hg:∀(k:Nat) x,[h.prev,h.batch,h.root,h.state][k]? = some x→[[D.int .i64 h.prev],[D.int .i64 h.batch],[D.int .i64 h.root],[D.int .i64 h.state]][k]? = some [D.int .i64 x]:=fun k x hx=>by
   have:=zR (f:=fun t=>[D.int .i64 t]) hx;simpa using this
  have hhd:zhi h=[zkr h.seq]++[h.prev,h.batch,h.root,h.state].map zeU:=rfl;have hl4:[h.prev,h.batch,h.root,h.state].length=4:=rfl;obtain⟨R,hR⟩:∃R,Q++((p.headers.take k).map zhi).flatten++[zkr h.seq]=R:=⟨_,rfl⟩;rw[hR]at j;refine zm c ?_;obtain⟨l,hlq⟩:∃l,[h.prev,h.batch,h.root,h.state]=l:=⟨_,rfl⟩;rw[hlq]at hg hhd hl4;refine zn 4 (fun i vs S=>vs=[.d (.int .i64 i)]/\zjP σ id (zop p) (R++(l.take i).map zeU) S) ⟨rfl,by simpa using j⟩ ?_;rintro i vs S hi ⟨rfl,j⟩;by_cases hjl:i<4
  ·have hd2:decide ((i:Int)<((4:Nat):Int))=true:=by simp;omega
   have hy:l[i]? = some (l[i]'(by omega)):=List.getElem?_eq_getElem _;have hgy:=hg i _ hy;obtain⟨y,hye⟩:∃y,(l[i]'(by omega))=y:=⟨_,rfl⟩;rw[hye]at hy hgy;have hmy:=zjX (f:=zeU) hy;refine zm (zd hd2 hgy) ?_;refine zwi j hid fun S j=>?_;refine zm (wkc i (by omega)) ?_;exact zaK.next hjl ⟨rfl,j.as (by rw[hmy];simp)⟩
  ·have hd2:decide ((i:Int)<((4:Nat):Int))=false:=by simp;omega
   rw[List.take_of_length_le (by omega)]at j;refine zm (zd hd2 (wkc k (by omega))) ?_;refine zaK.next hlt ⟨rfl,j.as ?_⟩;rw[zda hx,← hR,hhd];simp
 ·have hd:decide ((k:Int)<(p.headers.length:Int))=false:=by simp;omega
  rw[List.take_of_length_le (by omega)]at j;have b:=j.b;have hix:=hp.index;have hct:=hp.count;refine zm (zd hd b) ?_;refine zwi j hid fun S j=>?_;have b:=j.b;refine zm b ?_;refine ztY j hid fun S j=>?_;have b:=j.b;obtain⟨R,hR⟩:∃R,Q++(p.headers.map zhi).flatten++[zeU p.index]++[inE p.count 0 16]=R:=⟨_,rfl⟩;rw[hR]at j;refine zm b ?_;refine j_in j hid fun S j=>?_;have j:zjP σ id (zop p) (R++[inE p.index 0 (p.count-1)]) S:=j.cong (by
   by_cases hz:zax R=0
   ·have hc0:inE p.count 0 16=0:=by
     rw[← hR,zeH]at hz;split at hz
     ·rename_i h;exact absurd hz h
     ·simp only[zax]at hz;split at hz
      ·rename_i h;exact absurd hz h
      ·rename_i h;simpa using h
    have:=zkF hc0;rw[show IntKind.i64.wrap (p.count-1)=p.count-1 from zaW (by omega) (by omega)]
   ·rw[zhK hz,zhK hz])
  have b:=j.b;refine zm (zd b hpl) ?_;refine ztY j hid fun S j=>?_;have b:=j.b;obtain⟨V,hV⟩:∃V,R++[inE p.index 0 (p.count-1)]++[inE p.path.length 0 8]=V:=⟨_,rfl⟩;rw[hV]at j;refine zm (zd b hpl) ?_;refine zn p.path.length (fun k vs S=>vs=[.d (.int .i64 k)]/\zjP σ id (zop p) (V++(p.path.take k).map zeU) S) ⟨rfl,by simpa using j⟩ ?_;rintro i vs S hi ⟨rfl,j⟩;by_cases hjl:i<p.path.length
  ·have hd2:decide ((i:Int)<(p.path.length:Int))=true:=by simp;omega
   have hy:p.path[i]? = some p.path[i]:=by simp[hjl]
   have hgy:=zR (f:=fun t=>[D.int .i64 t]) hy;obtain⟨y,hye⟩:∃y,p.path[i]=y:=⟨_,rfl⟩;rw[hye]at hy hgy;have hmy:=zjX (f:=zeU) hy;refine zm (zd hd2 (zd hgy hpl)) ?_;refine zwi j hid fun S j=>?_;refine zm (wkc i (by omega)) ?_;exact zaK.next hjl ⟨rfl,j.as (by rw[hmy];simp)⟩
  ·have hd2:decide ((i:Int)<(p.path.length:Int))=false:=by simp;omega
   rw[List.take_of_length_le (by omega)]at j;have b:=j.b;refine zm (zd hd2 (zd b hpl)) ?_;refine j_cert (c:=p.cert) j hid hp.signs fun S j=>?_;refine zG ?_;refine(j.as ?_).done hl hK;rw[← hV,← hR,← hQ1];simp[zcU,zfG,zhu]
theorem c_aMsg12 {id:Nat}{P:List Int}{m:zbC}(hσ:σ[id]? = some (zfu (zax P)))(hm:zaI m)(hk:m.kind=12)(hK:K (.tup []) (σ.set id (zfu (zax (P++zac m))))) :
  zP zbJ [.box id 0,zgi m] σ K:=by
 refine zeq zdq fun hl=>?_;have hid:=zaa hσ;simp only[zct,iN,bT,bF,eN,zl6];have j:=zjP.first hσ (zlg m);refine zm (kk12 hk) ?_;refine zlu j hid fun S j=>?_;have b:=j.b;refine zm (zd b (kk12 hk)) ?_;refine c_aProof (p:=m.proof) j.a hm.proof ?_;have j:=j.set hid (P++[zjE m.src]++zcU m.proof);obtain⟨S1,hS1⟩:∃S1,S.set id (zfu (zax (P++[zjE m.src]++zcU m.proof)))=S1:=⟨_,rfl⟩;rw[hS1]at j ⊢;have b:=j.b;refine zm (zd b (kk12 hk)) ?_;refine zaP ?_;refine zm (zd (show zeT m.kind=false by rw[hk];rfl) b) ?_;exact(j.as (by simp[zac,zC,hk,show zeT 12=false from rfl])).done hl hK
end Go.Proofs.YtdgcepphjnoalaaGreat

/- The bytes of view-changes and new views, and how many they are at most. No program in sight. -/
namespace Go.AW
theorem zyN:∀ {f:Nat} {s:List UInt8} {n:Nat},zfk f s=some n->s.length<=4*n
 | 0,_,_,h=>by simp[zfk]at h
 | f+1,s,n,h=>by
  unfold zfk at h;split at h
  ·rename_i h0;simp[h0]
  ·split at h
   ·cases h
   ·simp only[Option.map_eq_some_iff]at h;obtain⟨k,hk,rfl⟩:=h;have h1:=zyN hk;have h2:=zmG s;simp only[List.length_drop]at h1;omega
theorem zys {s:List UInt8}(h:zev s=true):s.length<=64:=by
 unfold zev ziP at h;simp only[decide_eq_true_eq]at h;split at h
 ·rename_i n hn;have:=zyN hn;split at h
  ·omega
  ·omega
 ·omega
theorem op_small {o:TOp}(h:zaN zev o=0):zmW o<=500:=by
 obtain⟨k0,k4,o0,o1,ho⟩:=zvl h;unfold zaN at h;split at h
 ·cases h
 split at h
 ·cases h
 rename_i h1;split at h
 ·cases h
 rename_i h2;split at h
 ·cases h
 rename_i h3;have e1:o.topic=(zor o).topic:=congrArg _ ho;have e2:o.group=(zor o).group:=congrArg _ ho;have e3:o.recs=(zor o).recs:=congrArg _ ho;have hk:o.kind=0∨o.kind=1∨o.kind=2∨o.kind=3∨o.kind=4:=by omega
 have ht:o.kind≠0->o.topic.length<=64:=fun hk=>zys (by simpa [hk] using h1);have hg:o.kind=3->o.group.length<=64:=fun hk=>zys (by simpa [hk] using h2);have hr:o.kind=2->(o.recs.map fun r=>r.length+10).sum<=296:=by
  intro hk;simp only[hk,true_and,not_or,Int.not_lt]at h3;obtain⟨h4,h5,h6⟩:=h3;have h7:∀r∈o.recs,r.length<=64:=by
   intro r hr;simp only[List.any_eq_true,not_exists,not_and,decide_eq_true_eq]at h6;have:=h6 r hr;omega
  have key:∀l:List (List UInt8),(∀r∈l,r.length<=64)->(l.map fun r=>r.length+10).sum<=l.length*74:=by
   intro l;induction l with
   | nil=>simp
   | cons r l ih=>
    intro h
    have h8:=ih fun r hr=>h r (by simp[hr])
    have h9:=h r (by simp)
    simp only[List.map_cons,List.sum_cons,List.length_cons]
    omega
  have:=key o.recs h7;have:o.recs.length*74<=4*74:=Nat.mul_le_mul_right _ (by omega);omega
 unfold zmW;rcases hk with hk|hk|hk|hk|hk
 ·simp[zor,hk,noOp]at e1 e2 e3;simp[e1,e2,e3]
 ·simp[zor,hk,noOp]at e1 e2 e3;have:=ht (by omega);simp[e2,e3];omega
 ·simp[zor,hk,noOp]at e1 e2 e3;have:=ht (by omega);have:=hr hk;simp only[e2,List.length_nil];omega
 ·simp[zor,hk,noOp]at e1 e2 e3;have:=ht (by omega);have:=hg hk;simp[e3];omega
 ·simp[zor,hk,noOp]at e1 e2 e3;have:=ht (by omega);simp[e2,e3];omega
theorem zcz {α β:Type}{f:α->List β}{n:Nat}{l:List α}(h:∀x∈l,(f x).length<=n):((l.map f).flatten).length<=l.length*n:=by
 induction l with
 | nil=>simp
 | cons x l ih=>
  have h1:=ih fun y hy=>h y (by simp[hy])
  have h2:=h x (by simp)
  simp only[List.map_cons,List.flatten_cons,List.length_append,List.length_cons,Nat.add_mul,Nat.one_mul]
  omega
theorem zdK {l:List zr}(h:zD l=0):(∀x∈l,zmW x.op<=500)/\(zhl l).length<=4000:=by
 obtain⟨h4,hm,_⟩:=zkb h;have hz:∀x∈l,zmW x.op<=500:=fun x hx=>op_small (req_ok (hm x hx).1).2.2.2.2;refine⟨hz,?_⟩;have h1:∀x∈l,(oneB x).length<=700:=by
  intro x hx;have a:=zpu (Nat.le_trans (hz x hx) (by omega)) (hm x hx).1;have b:=zgB (hm x hx).2;have c:=zdl (x:=znC x) (by have:=hz x hx;omega);have:=hz x hx;simp only[oneB,List.length_append];omega
 have h2:(zdM l).length<=l.length*700:=zcz h1;have:l.length*700<=4*700:=Nat.mul_le_mul_right _ h4;have n1:=zl (n:=l.length) (by omega);simp only[zhl,List.length_append];omega
theorem fstE_mem {l:List Int}(h:zax l=0):∀e∈l,e=0:=by
 induction l with
 | nil=>simp
 | cons x l ih=>
  unfold zax at h
  split at h
  ·rename_i hx;exact absurd h hx
  ·rename_i hx
   intro e he
   rcases List.mem_cons.1 he with rfl|he
   ·simpa using hx
   ·exact ih h e he
def zvL (l:List zI):List UInt8:=zbv l.length++(l.map fun s=>zgt s.key s.dig).flatten
def zrv (c:zjx):List UInt8:=zbv c.seq.toNat++(zbv c.dig.toNat++zvL c.signs)
def zux (p:zkc):List UInt8:=zbv p.view.toNat++(zbv p.seq.toNat++(zbv p.dig.toNat++(zgt p.fkey p.fdig++(zvL p.signs++zhl p.batch))))
def zuW (c:zbj):List UInt8:=zbv c.view.toNat++(zbv c.src.toNat++(zrv c.cert++(zbv c.above.length++(c.above.map zux).flatten)))
def zfU (c:zbj):List UInt8:=zuW c++zgt c.key c.dig
def znE (x:zhS):List UInt8:=zbv x.view.toNat++(zbv x.seq.toNat++(zhl x.batch++zgt x.key x.dig))
def newvB (m:zbC):List UInt8:=zbv m.src.toNat++(zbv m.view.toNat++(zbv m.changes.length++((m.changes.map zfU).flatten++(zbv m.entries.length++(m.entries.map znE).flatten))))
theorem zzF {l:List zI}(h:∀e∈zco l,e=0):l.length<=13/\∀s∈l,zx s.key s.dig=0:=by
 refine⟨?_,fun s hs=>h _ (List.mem_cons_of_mem _ (List.mem_map_of_mem hs))⟩;have:=zkF (h _ List.mem_cons_self);omega
theorem zpr {l:List zI}(h:∀e∈zco l,e=0):(zvL l).length<=270:=by
 obtain⟨h1,h2⟩:=zzF h;have h3:((l.map fun s=>zgt s.key s.dig).flatten).length<=l.length*20:=zcz fun s hs=>zgB (h2 s hs);have n1:=zl (n:=l.length) (by omega);have:l.length*20<=13*20:=Nat.mul_le_mul_right _ h1;simp only[zvL,List.length_append];omega
theorem cert_ok {c:zjx}(h:∀e∈zbx c,e=0):(0<=c.seq/\c.seq<=9007199254740992)/\(0<=c.dig/\c.dig<=9007199254740992)/\∀e∈zco c.signs,e=0:=
 ⟨zrR (h _ (by simp[zbx])),zrR (h _ (by simp[zbx])),fun e he=>h e (by simp only[zbx,List.mem_cons];exact .inr (.inr (.inr he)))⟩
theorem zhN {c:zjx}(h:∀e∈zbx c,e=0):(zrv c).length<=290:=by
 obtain⟨h1,h2,h3⟩:=cert_ok h;have:=zpr h3;have n1:=zl (n:=c.seq.toNat) (by omega);have n2:=zl (n:=c.dig.toNat) (by omega);simp only[zrv,List.length_append];omega
theorem posE_0 {n:Int}(h:zkr n=0):1<=n/\n<=9007199254740992:=zkF h
structure prepOkE (p:zkc):Prop where
 view:0<=p.view/\p.view<=9007199254740992
 seq:1<=p.seq/\p.seq<=9007199254740992
 dig:1<=p.dig/\p.dig<=9007199254740992
 first:zx p.fkey p.fdig=0
 signs:∀e∈zco p.signs,e=0
 batch:zD p.batch=0
theorem prep_ok {p:zkc}(h:∀e∈zdX p,e=0):prepOkE p:=
 ⟨zrR (h _ (by simp[zdX])),posE_0 (h _ (by simp[zdX])),posE_0 (h _ (by simp[zdX])),h _ (by simp[zdX]),fun e he=>h e (by simp only[zdX,List.mem_cons,List.mem_append];exact .inr (.inr (.inr (.inr (.inl he))))),h _ (by simp[zdX])⟩
theorem zvR {p:zkc}(h:∀e∈zdX p,e=0):(zux p).length<=4400:=by
 obtain⟨h1,h2,h3,h4,h5,h6⟩:=prep_ok h;have:=zpr h5;have:=zgB h4;have:=(zdK h6).2;have n1:=zl (n:=p.view.toNat) (by omega);have n2:=zl (n:=p.seq.toNat) (by omega);have n3:=zl (n:=p.dig.toNat) (by omega);simp only[zux,List.length_append];omega
structure bodyOkE (c:zbj):Prop where
 view:1<=c.view/\c.view<=9007199254740992
 src:0<=c.src/\c.src<=12
 cert:∀e∈zbx c.cert,e=0
 many:c.above.length<=8
 above:∀p∈c.above,∀e∈zdX p,e=0
theorem body_ok {c:zbj}(h:∀e∈zez c,e=0):bodyOkE c:=by
 refine⟨posE_0 (h _ (by simp[zez])),zkF (h (zjE c.src) (by simp[zez])),fun e he=>h e (by simp[zez,he]),?_,fun p hp e he=>h e ?_⟩
 ·have:=zkF (h (inE c.above.length 0 8) (by simp[zez]));omega
 ·simp only[zez,List.mem_cons,List.mem_append,List.mem_flatten,List.mem_map];exact .inr (.inr (.inr (.inr ⟨_,⟨p,hp,rfl⟩,he⟩)))
theorem zsu {c:zbj}(h:∀e∈zez c,e=0):(zuW c).length<=36000:=by
 obtain⟨h1,h2,h3,h4,h5⟩:=body_ok h;have:=zhN h3;have h6:((c.above.map zux).flatten).length<=c.above.length*4400:=zcz fun p hp=>zvR (h5 p hp);have:c.above.length*4400<=8*4400:=Nat.mul_le_mul_right _ h4;have n1:=zl (n:=c.view.toNat) (by omega);have n2:=zl (n:=c.src.toNat) (by omega);have n3:=zl (n:=c.above.length) (by omega);simp only[zuW,List.length_append];omega
theorem ziX {c:zbj}(h:∀e∈zaT c,e=0):(∀e∈zez c,e=0)/\zx c.key c.dig=0:=
 ⟨fun e he=>h e (by simp[zaT,he]),h _ (by simp[zaT])⟩
theorem zru {c:zbj}(h:∀e∈zaT c,e=0):(zfU c).length<=36020:=by
 obtain⟨h1,h2⟩:=ziX h;have:=zsu h1;have:=zgB h2;simp only[zfU,List.length_append];omega
structure entryOkE (x:zhS):Prop where
 view:0<=x.view/\x.view<=9007199254740992
 seq:1<=x.seq/\x.seq<=9007199254740992
 batch:zD x.batch=0
 sign:zx x.key x.dig=0
theorem zAi {x:zhS}(h:∀e∈zen x,e=0):entryOkE x:=
 ⟨zrR (h _ (by simp[zen])),posE_0 (h _ (by simp[zen])),h _ (by simp[zen]),h _ (by simp[zen])⟩
theorem ztp {x:zhS}(h:∀e∈zen x,e=0):(znE x).length<=4040:=by
 obtain⟨h1,h2,h3,h4⟩:=zAi h;have:=zgB h4;have:=(zdK h3).2;have n1:=zl (n:=x.view.toNat) (by omega);have n2:=zl (n:=x.seq.toNat) (by omega);simp only[znE,List.length_append];omega
structure newvOkE (m:zbC):Prop where
 src:0<=m.src/\m.src<=12
 view:1<=m.view/\m.view<=9007199254740992
 manyC:m.changes.length<=13
 change:∀c∈m.changes,∀e∈zaT c,e=0
 manyE:m.entries.length<=8
 entry:∀x∈m.entries,∀e∈zen x,e=0
theorem newv_ok {m:zbC}(h:∀e∈zfH m,e=0):newvOkE m:=by
 refine⟨zkF (h (zjE m.src) (by simp[zfH])),posE_0 (h _ (by simp[zfH])),?_,fun p hp e he=>h e ?_,?_,fun p hp e he=>h e ?_⟩
 ·have:=zkF (h (inE m.changes.length 0 13) (by simp[zfH]));omega
 ·simp only[zfH,List.mem_cons,List.mem_append,List.mem_flatten,List.mem_map];exact .inr (.inr (.inr (.inl ⟨_,⟨p,hp,rfl⟩,he⟩)))
 ·have:=zkF (h (inE m.entries.length 0 8) (by simp[zfH]));omega
 ·simp only[zfH,List.mem_cons,List.mem_append,List.mem_flatten,List.mem_map];exact .inr (.inr (.inr (.inr (.inr ⟨_,⟨p,hp,rfl⟩,he⟩))))
theorem newvB_len {m:zbC}(h:∀e∈zfH m,e=0):(newvB m).length<=600000:=by
 obtain⟨h1,h2,h3,h4,h5,h6⟩:=newv_ok h;have a:((m.changes.map zfU).flatten).length<=m.changes.length*36020:=zcz fun p hp=>zru (h4 p hp);have b:((m.entries.map znE).flatten).length<=m.entries.length*4040:=zcz fun p hp=>ztp (h6 p hp);have:m.changes.length*36020<=13*36020:=Nat.mul_le_mul_right _ h3;have:m.entries.length*4040<=8*4040:=Nat.mul_le_mul_right _ h5;have n1:=zl (n:=m.src.toNat) (by omega);have n2:=zl (n:=m.view.toNat) (by omega);have n3:=zl (n:=m.changes.length) (by omega);have n4:=zl (n:=m.entries.length) (by omega);simp only[newvB,List.length_append];omega
def unsB (m:zbC):List UInt8:=zbv m.kind.toNat++(if m.kind=7 then(match m.changes with|c::_=>zuW c|[]=>[])else if m.kind=8 then newvB m else [])
def ownS (m:zbC):zI:=if m.kind=7 then(match m.changes with|c::_=>⟨c.key,c.dig⟩|[]=>⟨m.key,m.sdig⟩)else⟨m.key,m.sdig⟩
def zbr (m:zbC):zbC:=if m.kind=7 then(match m.changes with|[c]=>{ m with changes:=[{ c with key:=0,dig:=1 }] }|_=>m)else if zeT m.kind=true then{ m with key:=0,sdig:=1 }else m
theorem zgO {m:zbC}(h:zbK m=0):(∀e∈zac m,e=0)/\m=zfD m:=by
 unfold zbK at h;split at h
 ·rename_i h1;exact absurd h h1
 ·rename_i h1;split at h
  ·rename_i h2;exact⟨fstE_mem (by simpa using h1),h2⟩
  ·cases h
theorem zwM {m:zbC}(hk:m.kind=7)(h:zbK m=0):∃c,m.changes=[c]/\∀e∈zaT c,e=0:=by
 have h1:=(zgO h).1;simp only[zac,zC,hk]at h1;have h2:=zkF (h1 (inE m.changes.length 1 1) (by simp));obtain⟨c,hc⟩:∃c,m.changes=[c]:=List.length_eq_one_iff.1 (by omega);refine⟨c,hc,fun e he=>h1 e ?_⟩;simp[hc,he]
theorem check8 {m:zbC}(hk:m.kind=8)(h:zbK m=0):(∀e∈zfH m,e=0)/\zx m.key m.sdig=0:=by
 have h1:=(zgO h).1;simp only[zac,zC,hk]at h1;exact⟨fun e he=>h1 e (by simp[he]),h1 _ (by simp[show zeT 8=true from rfl])⟩
def replyB (m:zbC):List UInt8:=5::zS [m.view,m.client,m.time,m.rerr,m.roff]
structure ReplyOk (m:zbC):Prop where
 src:0<=m.src/\m.src<=12
 view:0<=m.view/\m.view<=9007199254740992
 client:0<=m.client/\m.client<=7
 time:0<=m.time/\m.time<=9007199254740992
 rerr:0<=m.rerr/\m.rerr<=65536
 roff:0<=m.roff/\m.roff<=9007199254740992
 sign:zx m.key m.sdig=0
theorem zyO {m:zbC}(hk:m.kind=5)(h:zbK m=0):ReplyOk m:=by
 have h1:=(zgO h).1;simp only[zac,zC,hk]at h1;exact⟨zkF (h1 (zjE m.src) (by simp)),zrR (h1 _ (by simp)),zkF (h1 (inE m.client 0 7) (by simp)),zrR (h1 (zeU m.time) (by simp)),zkF (h1 (inE m.rerr 0 65536) (by simp)),zrR (h1 (zeU m.roff) (by simp)),h1 _ (by simp[show zeT 5=true from rfl])⟩
theorem K1 {x:Int}(h:x=1):(x==1)=true/\(x==2)=false/\(x==3)=false/\(x==4)=false/\(x==5)=false/\(x==6)=false/\(x==7)=false/\(x==8)=false/\(x==9)=false/\(x==10)=false/\(x==11)=false/\(x==12)=false:=by subst h;decide
theorem K2 {x:Int}(h:x=2):(x==1)=false/\(x==2)=true/\(x==3)=false/\(x==4)=false/\(x==5)=false/\(x==6)=false/\(x==7)=false/\(x==8)=false/\(x==9)=false/\(x==10)=false/\(x==11)=false/\(x==12)=false:=by subst h;decide
theorem K3 {x:Int}(h:x=3):(x==1)=false/\(x==2)=false/\(x==3)=true/\(x==4)=false/\(x==5)=false/\(x==6)=false/\(x==7)=false/\(x==8)=false/\(x==9)=false/\(x==10)=false/\(x==11)=false/\(x==12)=false:=by subst h;decide
theorem K4 {x:Int}(h:x=4):(x==1)=false/\(x==2)=false/\(x==3)=false/\(x==4)=true/\(x==5)=false/\(x==6)=false/\(x==7)=false/\(x==8)=false/\(x==9)=false/\(x==10)=false/\(x==11)=false/\(x==12)=false:=by subst h;decide
theorem K5 {x:Int}(h:x=5):(x==1)=false/\(x==2)=false/\(x==3)=false/\(x==4)=false/\(x==5)=true/\(x==6)=false/\(x==7)=false/\(x==8)=false/\(x==9)=false/\(x==10)=false/\(x==11)=false/\(x==12)=false:=by subst h;decide
theorem K6 {x:Int}(h:x=6):(x==1)=false/\(x==2)=false/\(x==3)=false/\(x==4)=false/\(x==5)=false/\(x==6)=true/\(x==7)=false/\(x==8)=false/\(x==9)=false/\(x==10)=false/\(x==11)=false/\(x==12)=false:=by subst h;decide
theorem K7 {x:Int}(h:x=7):(x==1)=false/\(x==2)=false/\(x==3)=false/\(x==4)=false/\(x==5)=false/\(x==6)=false/\(x==7)=true/\(x==8)=false/\(x==9)=false/\(x==10)=false/\(x==11)=false/\(x==12)=false:=by subst h;decide
theorem K8 {x:Int}(h:x=8):(x==1)=false/\(x==2)=false/\(x==3)=false/\(x==4)=false/\(x==5)=false/\(x==6)=false/\(x==7)=false/\(x==8)=true/\(x==9)=false/\(x==10)=false/\(x==11)=false/\(x==12)=false:=by subst h;decide
theorem K9 {x:Int}(h:x=9):(x==1)=false/\(x==2)=false/\(x==3)=false/\(x==4)=false/\(x==5)=false/\(x==6)=false/\(x==7)=false/\(x==8)=false/\(x==9)=true/\(x==10)=false/\(x==11)=false/\(x==12)=false:=by subst h;decide
theorem K10 {x:Int}(h:x=10):(x==1)=false/\(x==2)=false/\(x==3)=false/\(x==4)=false/\(x==5)=false/\(x==6)=false/\(x==7)=false/\(x==8)=false/\(x==9)=false/\(x==10)=true/\(x==11)=false/\(x==12)=false:=by subst h;decide
theorem K11 {x:Int}(h:x=11):(x==1)=false/\(x==2)=false/\(x==3)=false/\(x==4)=false/\(x==5)=false/\(x==6)=false/\(x==7)=false/\(x==8)=false/\(x==9)=false/\(x==10)=false/\(x==11)=true/\(x==12)=false:=by subst h;decide
theorem K12 {x:Int}(h:x=12):(x==1)=false/\(x==2)=false/\(x==3)=false/\(x==4)=false/\(x==5)=false/\(x==6)=false/\(x==7)=false/\(x==8)=false/\(x==9)=false/\(x==10)=false/\(x==11)=false/\(x==12)=true:=by subst h;decide
theorem K0 {x:Int}(h:¬(1<=x/\x<=12)):(x==1)=false/\(x==2)=false/\(x==3)=false/\(x==4)=false/\(x==5)=false/\(x==6)=false/\(x==7)=false/\(x==8)=false/\(x==9)=false/\(x==10)=false/\(x==11)=false/\(x==12)=false:=by simp;omega
def hdB (h:zsK):List UInt8:=zS [h.seq,h.prev,h.batch,h.root,h.state]
def ztT (p:zfl):List UInt8:=zkq p.topic++(zS [p.offset]++(zkq p.rec_++(zbv p.headers.length++((p.headers.map hdB).flatten++(zS [p.index,p.count]++(zbv p.path.length++(zS p.path++zrv p.cert)))))))
structure zrB (p:zfl):Prop where
 topic:p.topic.length<=64
 offset:0<=p.offset/\p.offset<=9007199254740992
 record:p.rec_.length<=64
 many:p.headers.length<=64
 hdr:∀h∈p.headers,∀e∈zhi h,e=0
 index:0<=p.index/\p.index<=9007199254740992
 count:0<=p.count/\p.count<=16
 path:p.path.length<=8
 num:∀x∈p.path,0<=x/\x<=9007199254740992
 cert:∀e∈zbx p.cert,e=0
theorem zzO {p:zfl}(h:∀e∈zcU p,e=0):zrB p:=by
 have g:∀n lo hi:Int,inE n lo hi∈zcU p->lo<=n/\n<=hi:=fun n lo hi hm=>zkF (h _ hm);refine⟨?_,g _ _ _ (by simp[zcU,zgD,zeU]),?_,?_,fun x hx e he=>h e ?_,g _ _ _ (by simp[zcU,zfG,zeU]),g _ _ _ (by simp[zcU,zfG]),?_,fun x hx=>?_,fun e he=>h e (by simp[zcU,he])⟩
 ·have:=h (zlf p.topic) (by simp[zcU,zgD]);refine zys ?_;unfold zlf at this;split at this
  ·assumption
  ·cases this
 ·have:=g p.rec_.length 0 64 (by simp[zcU,zgD]);omega
 ·have:=g p.headers.length 0 64 (by simp[zcU,zgD]);omega
 ·simp only[zcU,List.mem_append,List.mem_flatten,List.mem_map];exact .inr (.inl ⟨_,⟨x,hx,rfl⟩,he⟩)
 ·have:=g p.path.length 0 8 (by simp[zcU,zhu]);omega
 ·exact g x 0 9007199254740992 (by simp only[zcU,List.mem_append,List.mem_map];exact .inr (.inr (.inr (.inr (.inl ⟨x,hx,rfl⟩)))))
theorem hdr_ok {h:zsK}(he:∀e∈zhi h,e=0):∀x∈[h.seq,h.prev,h.batch,h.root,h.state],0<=x/\x<=9007199254740992:=by
 have g:∀n lo hi:Int,inE n lo hi∈zhi h->lo<=n/\n<=hi:=fun n lo hi hm=>zkF (he _ hm);have h1:=g h.seq 1 9007199254740992 (by simp[zhi,zkr]);have h2:=g h.prev 0 9007199254740992 (by simp[zhi,zeU]);have h3:=g h.batch 0 9007199254740992 (by simp[zhi,zeU]);have h4:=g h.root 0 9007199254740992 (by simp[zhi,zeU]);have h5:=g h.state 0 9007199254740992 (by simp[zhi,zeU]);simp;omega
theorem zce {l:List Int}(h:∀x∈l,0<=x/\x<=9007199254740992):(zS l).length<=l.length*10:=zos fun x hx=>by have:=h x hx;omega
theorem hdB_len {h:zsK}(he:∀e∈zhi h,e=0):(hdB h).length<=50:=zce (hdr_ok he)
theorem proofB_len {p:zfl}(h:zrB p):(ztT p).length<=5000:=by
 obtain⟨h1,h2,h3,h4,h5,h6,h7,h8,h9,h10⟩:=h;have p1:=zdl (x:=p.topic) (by omega);have p2:=zdl (x:=p.rec_) (by omega);have n1:=zce (l:=[p.offset]) (by simp;omega);have n2:=zl (n:=p.headers.length) (by omega);have n3:=zce (l:=[p.index,p.count]) (by simp;omega);have n5:=zl (n:=p.path.length) (by omega);have n6:=zce h9;have q1:=zhN h10;have q2:((p.headers.map hdB).flatten).length<=p.headers.length*50:=zcz fun s hm=>hdB_len (h5 s hm);have:p.headers.length*50<=64*50:=Nat.mul_le_mul_right _ h4;simp only[List.length_cons,List.length_nil]at n1 n3;simp only[ztT,List.length_append];omega
def zft (m:zbC):List UInt8:=
 if m.kind=1 then zhl m.batch
 else if m.kind=2 then zS [m.src,m.view,m.seq,m.dig]++zhl m.batch
 else if m.kind=3∨m.kind=4 then zS [m.src,m.view,m.seq,m.dig]
 else if m.kind=5 then zS [m.src,m.view,m.client,m.time]++(zbv m.rerr.toNat++zbv m.roff.toNat)
 else if m.kind=6 then zS [m.src,m.seq,m.dig]
 else if m.kind=7 then(match m.changes with|c::_=>zuW c|[]=>[])
 else if m.kind=8 then newvB m
 else if m.kind=9 then zS [m.src,m.seq]
 else if m.kind=10 then zS [m.src]++(zrv m.cert++zkq m.state)
 else if m.kind=11 then zS [m.client]++(zkq m.topic++zS [m.offset])
 else if m.kind=12 then zS [m.src]++ztT m.proof
 else []
def znW (m:zbC):List UInt8:=zbv m.kind.toNat++zft m
def ztj (m:zbC):List UInt8:=znW m++if m.kind=7∨zeT m.kind=true then zgt (ownS m).key (ownS m).dig else []
def zfV (m:zbC):Int:=if zbK m≠0 then zbK m else if (ztj m).length>262144 then 3 else 0
def nilK (k:Int):Bool:=decide (k=1∨k=10∨k=11∨k=12)
def zdi (m:zbC):List UInt8:=
 if m.kind=2∨m.kind=3∨m.kind=4 then zvz m.kind m.view m.seq m.dig
 else if m.kind=6 then zvz m.kind 0 m.seq m.dig
 else if m.kind=9 then zvz m.kind 0 m.seq 0
 else if m.kind=5 then replyB m
 else 6::znW (zbr m)
theorem kinds {m:zbC}(h:zbK m=0):1<=m.kind/\m.kind<=12:=by
 by_cases hk:1<=m.kind/\m.kind<=12
 ·exact hk
 have:=(zgO h).1 100 (by
  have e:∀j:Int,1<=j->j<=12->m.kind≠j:=fun j h1 h2 h3=>hk (by omega);simp[zac,zC,e])
 cases this
theorem own_ok {m:zbC}(h:zbK m=0)(ho:zeT m.kind=true):zx m.key m.sdig=0:=(zgO h).1 _ (by simp[zac,ho])
theorem zzz {m:zbC}(h:zbK m=0)(hk:m.kind=2∨m.kind=3∨m.kind=4):(0<=m.src/\m.src<=12)/\(0<=m.view/\m.view<=9007199254740992)/\(1<=m.seq/\m.seq<=9007199254740992)/\(1<=m.dig/\m.dig<=9007199254740992):=by
 have h1:=(zgO h).1;have g:∀n lo hi:Int,inE n lo hi∈zet m->lo<=n/\n<=hi:=fun n lo hi hm=>zkF (h1 _ (by rcases hk with hk|hk|hk<;>simp[zac,zC,hk,hm]));exact⟨g _ _ _ (by simp[zet,zjE]),g _ _ _ (by simp[zet,zeU]),g _ _ _ (by simp[zet,zkr]),g _ _ _ (by simp[zet,zkr])⟩
end Go.AW
