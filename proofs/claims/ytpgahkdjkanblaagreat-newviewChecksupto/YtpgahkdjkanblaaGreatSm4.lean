/- Contracts: messages that are the same, the program's. -/
import Derived.Test.YtpgahkdjkanblaaGreatSm2
import Derived.Test.YtpgahkdjkanblaaGreatSpMsg
import Derived.Test.YtpgahkdjkanblaaGreatSpPut
set_option linter.all false
set_option maxRecDepth 100000
namespace Go.Proofs.YtpgahkdjkanblaaGreat
open Go.AW
theorem c_mSameProof {σ:List zd} {a b:znu} (ha:zzR a) {K:KT} (hK:K (.d (.bool (decide (a=b)))) σ):zj Tryz.prog zgH [proofA a,proofA b] σ K:=by
 refine zeE zre fun hl => ?_
 have fin:∀ z,decide (a=b)=z->K (.d (.bool z)) σ:=fun z h=>h▸hK
 clear hK
 simp only [zkL,iN,bT,bF,eN]
 cases h1:(a.topic==b.topic)
 ·refine zA h1 ?_
  refine zt hl ?_
  exact fin _ (decide_eq_false fun h=>by subst h;simp at h1)
 cases h2:(a.offset==b.offset)
 ·refine zA (zo h1 h2) ?_
  refine zt hl ?_
  exact fin _ (decide_eq_false fun h=>by subst h;simp at h2)
 refine zmD (zo h1 h2) ?_
 refine zng ?_
 cases h3:(a.rec_==b.rec_)
 ·refine zA h3 ?_
  refine zt hl ?_
  exact fin _ (decide_eq_false fun h=>by subst h;simp at h3)
 refine zmD h3 ?_
 refine c_eqHdr ha.headers ?_
 cases h4:decide (a.headers=b.headers)
 ·refine zA h4 ?_
  refine zt hl ?_
  exact fin _ (decide_eq_false fun h=>by subst h;simp at h4)
 cases h5:(a.index==b.index)
 ·refine zA (zo h4 h5) ?_
  refine zt hl ?_
  exact fin _ (decide_eq_false fun h=>by subst h;simp at h5)
 cases h6:(a.count==b.count)
 ·refine zA (zo h4 (zo h5 h6)) ?_
  refine zt hl ?_
  exact fin _ (decide_eq_false fun h=>by subst h;simp at h6)
 refine zmD (zo h4 (zo h5 h6)) ?_
 refine c_eqDig ha.path ?_
 cases h7:decide (a.path=b.path)
 ·refine zA h7 ?_
  refine zt hl ?_
  exact fin _ (decide_eq_false fun h=>by subst h;simp at h7)
 refine zmD h7 ?_
 refine zrs (a:=a.cert) (b:=b.cert) ha.signs ?_
 cases h8:decide (a.cert=b.cert)
 ·refine zA h8 ?_
  refine zt hl ?_
  exact fin _ (decide_eq_false fun h=>by subst h;simp at h8)
 refine zA h8 ?_
 refine zt hl ?_
 exact fin _ (decide_eq_true (by cases a;cases b;simp_all))
abbrev fltMA (a:zcS):AV := .agg [.d (.int .i64 a.kind),.d (.int .i64 a.src),.d (.int .i64 a.client),.d (.int .i64 a.view),.d (.int .i64 a.seq),.d (.int .i64 a.time),.d (.int .i64 a.offset),.d (.int .i64 a.dig),.d (.int .i64 a.rerr),.d (.int .i64 a.roff),.d (.str a.topic),.d (.int .i64 a.key),.d (.int .i64 a.sdig)]
theorem c_flatOf {σ:List zd} {a:zcS} {K:KT} (hK:K (fltMA a) σ):zj Tryz.prog zgC [zeR a] σ K:=by
 refine zdZ zvl fun hl => ?_
 simp only [znM,iN,bT,bF,eN,zl6]
 refine zQ ?_
 refine zt hl ?_
 exact hK
structure zbn (m:zcS):Prop where
 batch:okB m.batch
 batchS:zhN m.batch
 signs:m.cert.signs.length<=1073741824
 changes:m.changes.length<=1073741824
 change:∀ c∈m.changes,okCh c/\zjF c
 entries:m.entries.length<=1073741824
 entry:∀ x∈m.entries,okB x.batch/\zlA x
 proof:zzR m.proof
 topic:m.topic.length<=16777216
 state:m.state.length<=1073741824
theorem c_mSame {σ:List zd} {a b:zcS} (ha:zbn a) (hb:zbn b) {K:KT} (hK:K (.d (.bool (decide (a=b)))) σ):zj Tryz.prog zlF [zeR a,zeR b] σ K:=by
 refine zeE zyh fun hl => ?_
 have fin:∀ z,decide (a=b)=z->K (.d (.bool z)) σ:=fun z h=>h▸hK
 clear hK
 simp only [zqF,iN,bT,bF,eN]
 refine zQ ?_
 refine c_flatOf (a:=a) ?_
 refine zQ ?_
 refine c_flatOf (a:=b) ?_
 cases h1:((a.kind==b.kind&&(a.src==b.src&&(a.client==b.client&&(a.view==b.view&&(a.seq==b.seq&&(a.time==b.time&&(a.offset==b.offset&&(a.dig==b.dig&&(a.rerr==b.rerr&&(a.roff==b.roff&&(a.topic==b.topic&&(a.key==b.key&&a.sdig==b.sdig)))))))))))))
 ·refine zfG h1 ?_
  refine zt hl ?_
  exact fin _ (decide_eq_false fun h=>by subst h;simp at h1)
 refine zfG h1 ?_
 refine zsu ha.batchS hb.batchS ?_
 cases h2:decide (a.batch=b.batch)
 ·refine zA h2 ?_
  refine zt hl ?_
  exact fin _ (decide_eq_false fun h=>by subst h;simp at h2)
 refine zmD h2 ?_
 refine zrs (a:=a.cert) (b:=b.cert) ha.signs ?_
 cases h3:decide (a.cert=b.cert)
 ·refine zA h3 ?_
  refine zt hl ?_
  exact fin _ (decide_eq_false fun h=>by subst h;simp at h3)
 refine zmD h3 ?_
 refine c_eqChanges ha.changes (fun x hx=>(ha.change x hx).2) (fun x hx=>(hb.change x hx).2) ?_
 cases h4:decide (a.changes=b.changes)
 ·refine zA h4 ?_
  refine zt hl ?_
  exact fin _ (decide_eq_false fun h=>by subst h;simp at h4)
 refine zmD h4 ?_
 refine c_eqEntries ha.entries (fun x hx=>(ha.entry x hx).2) (fun x hx=>(hb.entry x hx).2) ?_
 cases h5:decide (a.entries=b.entries)
 ·refine zA h5 ?_
  refine zt hl ?_
  exact fin _ (decide_eq_false fun h=>by subst h;simp at h5)
 refine zmD h5 ?_
 refine zng ?_
 cases h6:(a.state==b.state)
 ·refine zA h6 ?_
  refine zt hl ?_
  exact fin _ (decide_eq_false fun h=>by subst h;simp at h6)
 refine zmD h6 ?_
 refine c_mSameProof (a:=a.proof) (b:=b.proof) ha.proof ?_
 cases h7:decide (a.proof=b.proof)
 ·refine zA h7 ?_
  refine zt hl ?_
  exact fin _ (decide_eq_false fun h=>by subst h;simp at h7)
 refine zA h7 ?_
 refine zt hl ?_
 exact fin _ (decide_eq_true (by cases a;cases b;simp_all))
theorem c_intIndex {σ:List zd} {l:List Int} {x:Int} (hl0:l.length<=1073741824) {K:KT} (hK:∀ i:Int,(0<=i↔x∈l)->K (.d (.int .i64 i)) σ) :
  zj Tryz.prog zfv [.d (.slice (ziN l)),.d (.int .i64 x)] σ K:=by
 refine zeE znZ fun hl => ?_
 simp only [zhV,iN,bT,bF,eN]
 refine zQ ?_
 refine zl l.length (fun k vs s=>vs = [.d (.int .i64 k)]/\(∃ T,s = σ++T)/\x ∉ l.take k) ⟨rfl,⟨[],by simp⟩,by simp⟩ ?_
 rintro k vs s hk ⟨rfl,⟨T,rfl⟩,htk⟩
 by_cases hlt:k<l.length
 ·have hd:decide ((k:Int)<(l.length:Int))=true:=by simp;omega
  have hx:l[k]? = some l[k]:=by simp [hlt]
  have hmem:=List.getElem_mem hlt
  have hgx:=zF (f:=fun t => [D.int .i64 t]) hx
  obtain ⟨y,hye⟩:∃ y,l[k]=y:=⟨_,rfl⟩
  rw [hye] at hx hgx hmem
  cases h:(x==y)
  ·refine zA (zo hd (zo hgx (zo h (wk1 k (by omega))))) ?_
   refine zan.next hlt ⟨rfl,⟨_,rfl⟩,?_⟩
   rw [List.take_add_one,hx]
   simp at h
   simp [htk,h]
  ·refine zA (zo hd (zo hgx h)) ?_
   refine zt hl ?_
   refine hK _ ?_
   simp at h
   simp [h,hmem]
 ·have hd:decide ((k:Int)<(l.length:Int))=false:=by simp;omega
  refine zA hd ?_
  refine zt hl ?_
  refine hK _ ?_
  rw [List.take_of_length_le (by omega)] at htk
  simp [htk]
theorem zAO {σ:List zd} {l:List Int} {x:Int} (hl0:l.length<=1073741824) {K:KT} (hK:K (.d (.bool (decide (x∈l)))) σ) :
  zj Tryz.prog zet [.d (.slice (ziN l)),.d (.int .i64 x)] σ K:=by
 refine zeE zlG fun hl => ?_
 simp only [zgA,iN,bT,bF,eN]
 refine zQ ?_
 refine c_intIndex hl0 fun i hi => ?_
 have e:decide (i≥0)=decide (x∈l):=by rw [decide_eq_decide,ge_iff_le,hi]
 refine zQ ?_
 rw [e]
 refine zt hl ?_
 exact hK
theorem zml {σ:List zd} {k:Int} {K:KT} (hK:K (.d (.bool (zvQ k))) σ):zj Tryz.prog zef [.d (.int .i64 k)] σ K:=by
 refine zdZ zvk fun hl => ?_
 simp only [znL,iN,bT,bF,eN]
 refine zQ ?_
 refine zAO (l := [2, 3, 4, 5, 6, 8, 9]) (by simp) ?_
 have e:decide (k∈[2, 3, 4, 5, 6, 8, 9])=zvQ k:=by
  unfold zvQ
  rw [decide_eq_decide]
  simp
  omega
 rw [e]
 refine zQ ?_
 refine zt hl ?_
 exact hK
theorem znR.zero {σ S:List zd} {id:Nat} {B:zd} {P:List Int} (h:znR σ id B P S):znR σ id B (P++[0]) S:=by
 have e:zbg (P++[0])=zbg P:=by
  rw [zjL]
  by_cases h:zbg P=0
  ·rw [if_neg (by simpa using h),h];rfl
  ·rw [if_pos h]
 obtain ⟨h1,h2,h3⟩:=h
 exact ⟨by rw [e];exact h1,h2,by rw [e];exact h3⟩
section
variable {σ S:List zd} {id n:Nat} {B X:zd} {P:List Int} {K:KT} (j:znR σ id B P S) (hid:id < σ.length) (hne:n≠id) (c:S[n]? = some X)
include j hid hne c
theorem jx_says {x:Int} (hK:∀ S,znR σ id B (P++[x]) S->S[n]? = some X->K (.tup []) S):zj Tryz.prog zS [.box id 0,.d (.int .i64 x)] S K:=c_aSays j.a (hK _ (j.set hid _) ((List.getElem?_set_ne hne.symm).trans c))
theorem jx_num {x:Int} (hK:∀ S,znR σ id B (P++[zlL x]) S->S[n]? = some X->K (.tup []) S):zj Tryz.prog zas [.box id 0,.d (.int .i64 x)] S K:=c_aNum j.a (hK _ (j.set hid _) ((List.getElem?_set_ne hne.symm).trans c))
theorem jx_pos {x:Int} (hK:∀ S,znR σ id B (P++[zrD x]) S->S[n]? = some X->K (.tup []) S):zj Tryz.prog zaO [.box id 0,.d (.int .i64 x)] S K:=c_aPos j.a (hK _ (j.set hid _) ((List.getElem?_set_ne hne.symm).trans c))
end
theorem c_aNewView {σ:List zd} {id:Nat} {P:List Int} {m:zcS} (hσ : σ[id]? = some (zgX (zbg P))) (hm:zbn m) {K:KT} (hK:K (.tup []) (σ.set id (zgX (zbg (P++zfN m))))) :
  zj Tryz.prog zfa [.box id 0,zeR m] σ K:=by
 refine zeE znb fun hl => ?_
 have hid:=zcY hσ
 have hcl:(zR m.changes).length=m.changes.length:=List.length_map ..
 have hel:(zu m.entries).length=m.entries.length:=List.length_map ..
 have hc:=hm.changes
 have he:=hm.entries
 simp only [zhw,iN,bT,bF,eN,zl4]
 have j:=znR.first hσ (zqk m)
 refine zQ ?_
 refine j_broker j hid fun S j => ?_
 have b:=j.b
 refine zA b ?_
 refine j_pos j hid fun S j => ?_
 have b:=j.b
 refine zA (zo b hcl) ?_
 refine j_many j hid fun S j => ?_
 have b:=j.b
 obtain ⟨Q,hQ⟩:∃ Q,P++[zxh m.src]++[zrD m.view]++[inE m.changes.length 0 13]=Q:=⟨_,rfl⟩
 rw [hQ] at j
 refine zA (zo b hcl) ?_
 refine zl m.changes.length (fun k vs S=>vs = [.d (.int .i64 k)]/\znR σ id (zqk m) (Q++((m.changes.take k).map zaY).flatten) S) ⟨rfl,by simpa using j⟩ ?_
 rintro k vs S hk ⟨rfl,j⟩
 by_cases hlt:k<m.changes.length
 ·have hd:decide ((k:Int)<(m.changes.length:Int))=true:=by simp;omega
  have hx:m.changes[k]? = some m.changes[k]:=by simp [hlt]
  have hpx:=hm.change _ (List.getElem_mem hlt)
  have hgx:=zF (f:=zat) hx
  obtain ⟨p,hp⟩:∃ p,m.changes[k]=p:=⟨_,rfl⟩
  rw [hp] at hx hgx hpx
  refine zfG (zo hd (zo hgx hcl)) ?_
  refine c_aChange (c:=p) (zn j.a) hpx.1 ?_
  have j2:=(j.app [.box (zbj p)]).set hid (Q++((m.changes.take k).map zaY).flatten++zaY p)
  refine zA (wkc k (by omega)) ?_
  refine zan.next hlt ⟨rfl,?_⟩
  rw [zeo hx, ← List.append_assoc]
  exact j2
 ·have hd:decide ((k:Int)<(m.changes.length:Int))=false:=by simp;omega
  rw [show m.changes.take k=m.changes from List.take_of_length_le (by omega)] at j
  have b:=j.b
  refine zA (zo hd (zo hcl (zo b hel))) ?_
  refine j_many j hid fun S j => ?_
  have b:=j.b
  obtain ⟨R,hR⟩:∃ R,Q++(m.changes.map zaY).flatten++[inE m.entries.length 0 8]=R:=⟨_,rfl⟩
  rw [hR] at j
  refine zA (zo b hel) ?_
  refine zl m.entries.length (fun k vs S=>vs = [.d (.int .i64 k)]/\znR σ id (zqk m) (R++((m.entries.take k).map zep).flatten) S) ⟨rfl,by simpa using j⟩ ?_
  rintro k vs S hk ⟨rfl,j⟩
  by_cases hlt:k<m.entries.length
  ·have hd:decide ((k:Int)<(m.entries.length:Int))=true:=by simp;omega
   have hx:m.entries[k]? = some m.entries[k]:=by simp [hlt]
   have hpx:=hm.entry _ (List.getElem_mem hlt)
   have hgx:=zF (f:=zbh) hx
   obtain ⟨x,hp⟩:∃ x,m.entries[k]=x:=⟨_,rfl⟩
   rw [hp] at hx hgx hpx
   obtain ⟨X,hX⟩:∃ X,zd.box [.d (.int .i64 x.view),.d (.int .i64 x.seq),.d (.slice (zaP x.batch)),.d (.int .i64 x.key),.d (.int .i64 x.dig)]=X:=⟨_,rfl⟩
   have c:(S++[X])[S.length]? = some X:=by rw [zD];rfl
   have hne:S.length≠id:=by obtain ⟨τ,h1⟩:=j.pre;rw [h1];simp;omega
   have j:=j.app [X]
   subst hX
   refine zfG (zo hd (zo hgx hel)) ?_
   obtain ⟨n,hn⟩:∃ n,S.length=n:=⟨_,rfl⟩
   obtain ⟨S0,hS0⟩:∃ S0,S++[zd.box [.d (.int .i64 x.view),.d (.int .i64 x.seq),.d (.slice (zaP x.batch)),.d (.int .i64 x.key),.d (.int .i64 x.dig)]]=S0:=⟨_,rfl⟩
   rw [hn] at c hne
   rw [hS0] at c j
   rw [hn,hS0]
   refine jx_num j hid hne c fun S j c => ?_
   refine zA c ?_
   refine jx_pos j hid hne c fun S j c => ?_
   refine zA c ?_
   refine zfY hpx.1 ?_
   refine zQ ?_
   refine jx_says j hid hne c fun S j c => ?_
   refine zA c ?_
   refine zer ?_
   refine zQ ?_
   refine jx_says j hid hne c fun S j c => ?_
   refine zA (wkc k (by omega)) ?_
   exact zan.next hlt ⟨rfl,j.as (by rw [zeo hx];simp [zep])⟩
  ·have hd:decide ((k:Int)<(m.entries.length:Int))=false:=by simp;omega
   rw [show m.entries.take k=m.entries from List.take_of_length_le (by omega)] at j
   refine zA (zo hd hel) ?_
   exact (j.as (by rw [← hR, ← hQ];simp [zfN])).done hl hK
theorem c_aMsg7 {σ:List zd} {id:Nat} {P:List Int} {m:zcS} (hσ : σ[id]? = some (zgX (zbg P))) (hm:zbn m) (hk:m.kind=7) {K:KT} (hK:K (.tup []) (σ.set id (zgX (zbg (P++zfA m))))) :
  zj Tryz.prog zdB [.box id 0,zeR m] σ K:=by
 refine zeE zhs fun hl => ?_
 have hid:=zcY hσ
 have hcl:(zR m.changes).length=m.changes.length:=List.length_map ..
 have hc:=hm.changes
 simp only [zfh,iN,bT,bF,eN,zl4]
 have j:=znR.first hσ (zqk m)
 refine zA (zo (kk7 hk) hcl) ?_
 refine j_in j hid fun S j => ?_
 have b:=j.b
 obtain ⟨Q,hQ⟩:∃ Q,P++[inE m.changes.length 1 1]=Q:=⟨_,rfl⟩
 rw [hQ] at j
 refine zA (zo b (zo hcl (kk7 hk))) ?_
 refine zl m.changes.length (fun k vs S=>vs = [.d (.int .i64 k)]/\znR σ id (zqk m) (Q++((m.changes.take k).map fun c=>zaY c++[if c.src≠m.src∨c.view≠m.view then 100 else 0]).flatten) S) ⟨rfl,by simpa using j⟩ ?_
 rintro k vs S hk0 ⟨rfl,j⟩
 by_cases hlt:k<m.changes.length
 ·have hd:decide ((k:Int)<(m.changes.length:Int))=true:=by simp;omega
  have hx:m.changes[k]? = some m.changes[k]:=by simp [hlt]
  have hpx:=hm.change _ (List.getElem_mem hlt)
  have hgx:=zF (f:=zat) hx
  obtain ⟨p,hp⟩:∃ p,m.changes[k]=p:=⟨_,rfl⟩
  rw [hp] at hx hgx hpx
  have c:(S++[.box (zbj p)])[S.length]? = some (.box (zbj p)):=by rw [zD];rfl
  have hne:S.length≠id:=by obtain ⟨τ,h1⟩:=j.pre;rw [h1];simp;omega
  have j:=j.app [.box (zbj p)]
  refine zfG (zo hd (zo hgx hcl)) ?_
  obtain ⟨n,hn⟩:∃ n,S.length=n:=⟨_,rfl⟩
  obtain ⟨S0,hS0⟩:∃ S0,S++[zd.box (zbj p)]=S0:=⟨_,rfl⟩
  rw [hn] at c hne
  rw [hS0] at c j
  rw [hn,hS0]
  refine c_aChange (c:=p) j.a hpx.1 ?_
  have j:=j.set hid (Q++((m.changes.take k).map fun c=>zaY c++[if c.src≠m.src∨c.view≠m.view then 100 else 0]).flatten++zaY p)
  have c:=(List.getElem?_set_ne (a:=zgX (zbg (Q++((m.changes.take k).map fun c=>zaY c++[if c.src≠m.src∨c.view≠m.view then 100 else 0]).flatten++zaY p))) hne.symm).trans c
  obtain ⟨S1,hS1⟩:∃ S1,S0.set id (zgX (zbg (Q++((m.changes.take k).map fun c=>zaY c++[if c.src≠m.src∨c.view≠m.view then 100 else 0]).flatten++zaY p)))=S1:=⟨_,rfl⟩
  rw [hS1] at c j ⊢
  have b:=j.b
  cases h1:(p.src != m.src)
  ·cases h2:(p.view != m.view)
   ·refine zA (zo b (zo c (zo h1 (zo h2 (zo (kk7 hk) (wkc k (by omega))))))) ?_
    refine zan.next hlt ⟨rfl,?_⟩
    rw [zeo hx, ← List.append_assoc, ← List.append_assoc,if_neg (by simp at h1 h2;simp [h1,h2])]
    exact j.zero
   ·refine zA (zo b (zo c (zo h1 (zo h2 (zo (kk7 hk) (wkc k (by omega))))))) ?_
    refine zyS j hid fun S j => ?_
    refine zA (wkc k (by omega)) ?_
    refine zan.next hlt ⟨rfl,?_⟩
    rw [zeo hx, ← List.append_assoc, ← List.append_assoc,if_pos (by simp at h1 h2;simp [h2])]
    exact j
  ·refine zA (zo b (zo c (zo h1 (zo (kk7 hk) (wkc k (by omega)))))) ?_
   refine zyS j hid fun S j => ?_
   refine zA (wkc k (by omega)) ?_
   refine zan.next hlt ⟨rfl,?_⟩
   rw [zeo hx, ← List.append_assoc, ← List.append_assoc,if_pos (by simp at h1;simp [h1])]
   exact j
 ·have hd:decide ((k:Int)<(m.changes.length:Int))=false:=by simp;omega
  rw [show m.changes.take k=m.changes from List.take_of_length_le (by omega)] at j
  have b:=j.b
  refine zA (zo hd (zo hcl (zo b (kk7 hk)))) ?_
  refine zml ?_
  refine zA (show zvQ m.kind=false by rw [hk];rfl) ?_
  exact (j.as (by rw [← hQ];simp [zfA,zmI,hk,show zvQ 7=false from rfl])).done hl hK
theorem c_aMsg8 {σ:List zd} {id:Nat} {P:List Int} {m:zcS} (hσ : σ[id]? = some (zgX (zbg P))) (hm:zbn m) (hk:m.kind=8) {K:KT} (hK:K (.tup []) (σ.set id (zgX (zbg (P++zfA m))))) :
  zj Tryz.prog zdB [.box id 0,zeR m] σ K:=by
 refine zeE zhs fun hl => ?_
 have hid:=zcY hσ
 simp only [zfh,iN,bT,bF,eN,zl4]
 have j:=znR.first hσ (zqk m)
 refine zA (kk8 hk) ?_
 refine c_aNewView (m:=m) j.a hm ?_
 have j:=j.set hid (P++zfN m)
 obtain ⟨S1,hS1⟩:∃ S1,(σ++[zqk m]).set id (zgX (zbg (P++zfN m)))=S1:=⟨_,rfl⟩
 rw [hS1] at j
 have b:=j.b
 refine zA (zo hS1 (zo b (kk8 hk))) ?_
 refine zml ?_
 refine zA (zo (show zvQ m.kind=true by rw [hk];rfl) b) ?_
 refine zer ?_
 refine zQ ?_
 refine zyS j hid fun S j => ?_
 refine zQ ?_
 exact (j.as (by simp [zfA,zmI,hk,show zvQ 8=true from rfl])).done hl hK
theorem c_bare7 {σ:List zd} {m:zcS} (hk:m.kind=7) {K:KT} (hK:K (zeR (zmo m)) σ):zj Tryz.prog ziC [zeR m] σ K:=by
 refine zdZ zqq fun hl => ?_
 simp only [zlJ,iN,bT,bF,eN,zl0]
 refine zA (kk7 hk) ?_
 refine zml ?_
 refine zA (show zvQ m.kind=false by rw [hk];rfl) ?_
 refine zt hl ?_
 simp only [zmo,hk] at hK
 rw [hk]
 exact hK
theorem c_bare8 {σ:List zd} {m:zcS} (hk:m.kind=8) {K:KT} (hK:K (zeR (zmo m)) σ):zj Tryz.prog ziC [zeR m] σ K:=by
 refine zdZ zqq fun hl => ?_
 simp only [zlJ,iN,bT,bF,eN,zl0]
 refine zA (kk8 hk) ?_
 refine zml ?_
 refine zA (show zvQ m.kind=true by rw [hk];rfl) ?_
 refine zt hl ?_
 simp only [zmo,hk] at hK
 rw [hk]
 exact hK
theorem noPf_small:zzR zti:=⟨by decide,by decide,by decide,by decide,by decide,by simp [zti,zrF],by simp [zti,zrF],by simp [zti,zrF],by simp [zti]⟩
theorem zfI:zbn zed:=⟨⟨by decide,by simp [zed]⟩,⟨by decide,by simp [zed]⟩,by decide,by decide,by simp [zed],by decide,by simp [zed],noPf_small,by decide,by decide⟩
theorem ite_small {c:Prop} [h:Decidable c] {a b:zcS} (ha:zbn a) (hb:zbn b):zbn (if c then a else b):=by
 cases h
 ·rw [if_neg ‹_›];exact hb
 ·rw [if_pos ‹_›];exact ha
theorem zpU {m:zcS} (h:zbn m):zbn (zmo m):=by
 obtain ⟨h1,h2,h3,h4,h5,h6,h7,h8,h9,h10⟩:=h
 obtain ⟨n1,n2,n3,n4,n5,n6,n7,n8,n9,n10⟩:=zfI
 unfold zmo
 repeat' refine ite_small ?_ ?_
 all_goals constructor<;>assumption
theorem c_mCheck7 {σ:List zd} {m:zcS} (hm:zbn m) (hk:m.kind=7) {K:KT} (hK:K (.d (.int .i64 (zaD m))) σ):zj Tryz.prog zfS [zeR m] σ K:=by
 refine zdZ zoO fun hl => ?_
 have fin:∀ z,zaD m=z->K (.d (.int .i64 z)) σ:=fun z h=>h▸hK
 clear hK
 simp only [zkQ,iN,bT,bF,eN]
 refine zQ ?_
 refine c_aMsg7 (P := []) (m:=m) (by rw [List.getElem?_append_right (by omega)];simp [zgX,zbg]) hm hk ?_
 cases h1:(zbg (zfA m)==0)
 ·refine zmD h1 ?_
  refine zt hl ?_
  exact fin _ (by simp at h1;simp [zaD,h1])
 refine zmD h1 ?_
 refine c_bare7 (m:=m) hk ?_
 refine zQ ?_
 refine c_mSame (a:=m) (b:=zmo m) hm (zpU hm) ?_
 cases h2:decide (m=zmo m)
 ·refine zQ ?_
  refine zt hl ?_
  exact fin _ (by simp at h1 h2;simp [zaD,h1,h2])
 ·refine zA h1 ?_
  refine zt hl ?_
  exact fin _ (by simp at h1 h2;simp [zaD,h1, ← h2])
theorem c_mCheck8 {σ:List zd} {m:zcS} (hm:zbn m) (hk:m.kind=8) {K:KT} (hK:K (.d (.int .i64 (zaD m))) σ):zj Tryz.prog zfS [zeR m] σ K:=by
 refine zdZ zoO fun hl => ?_
 have fin:∀ z,zaD m=z->K (.d (.int .i64 z)) σ:=fun z h=>h▸hK
 clear hK
 simp only [zkQ,iN,bT,bF,eN]
 refine zQ ?_
 refine c_aMsg8 (P := []) (m:=m) (by rw [List.getElem?_append_right (by omega)];simp [zgX,zbg]) hm hk ?_
 cases h1:(zbg (zfA m)==0)
 ·refine zmD h1 ?_
  refine zt hl ?_
  exact fin _ (by simp at h1;simp [zaD,h1])
 refine zmD h1 ?_
 refine c_bare8 (m:=m) hk ?_
 refine zQ ?_
 refine c_mSame (a:=m) (b:=zmo m) hm (zpU hm) ?_
 cases h2:decide (m=zmo m)
 ·refine zQ ?_
  refine zt hl ?_
  exact fin _ (by simp at h1 h2;simp [zaD,h1,h2])
 ·refine zA h1 ?_
  refine zt hl ?_
  exact fin _ (by simp at h1 h2;simp [zaD,h1, ← h2])
theorem c_kEntry {σ:List zd} {x:zaI} (hb:okB x.batch) {K:KT} (hK:K (.d (.int .i64 (zbg (zep x)))) σ):zj Tryz.prog zjh [zoI x] σ K:=by
 refine zdZ zvc fun hl => ?_
 simp only [znD,iN,bT,bF,eN]
 refine zQ ?_
 refine c_kNum ?_
 refine zQ ?_
 refine c_kPos ?_
 refine zQ ?_
 refine zgh hb ?_
 refine zQ ?_
 refine zdl ?_
 refine zQ ?_
 refine zpQ (l:=zep x) (by simp [zep]) ?_
 refine zQ ?_
 refine zt hl ?_
 exact hK
theorem zrW {α:Type} {P : α->Prop} {l:List α} {k:Nat} {x : α} (hx:l[k]? = some x) (h0:∀ y∈l.take k,P y) (h:P x):∀ y∈l.take (k+1),P y:=by
 intro q hq
 rw [List.take_add_one,hx] at hq
 simp at hq
 rcases hq with hq|rfl
 ·exact h0 q hq
 ·exact h
theorem c_kNewView {σ:List zd} {m:zcS} (hm:zbn m) (hk:m.kind=8) {K:KT} (hK:K (.d (.int .i64 (zbg (zfA m)))) σ):zj Tryz.prog zhf [zeR m] σ K:=by
 refine zdZ zsj fun hl => ?_
 have fin:∀ z,zbg (zfA m)=z->K (.d (.int .i64 z)) σ:=fun z h=>h▸hK
 clear hK
 have hcl:(zR m.changes).length=m.changes.length:=List.length_map ..
 have hel:(zu m.entries).length=m.entries.length:=List.length_map ..
 have hcl1:=hm.changes
 have hel1:=hm.entries
 have e0:zbg (zfA m)=zbg ([zxh m.src,zrD m.view,inE m.changes.length 0 13]++((m.changes.map zaY).flatten++(inE m.entries.length 0 8::((m.entries.map zep).flatten++[zN m.key m.sdig])))):=by
  simp [zfA,zmI,hk,zfN,show zvQ 8=true from rfl]
 simp only [zlr,iN,bT,bF,eN]
 refine zQ ?_
 refine c_kBroker ?_
 refine zQ ?_
 refine c_kPos ?_
 refine zA hcl ?_
 refine c_kIn ?_
 refine zQ ?_
 refine zpQ (l := [zxh m.src,zrD m.view,inE m.changes.length 0 13]) (by simp) ?_
 cases h1:(zbg [zxh m.src,zrD m.view,inE m.changes.length 0 13] != 0)
 rotate_left
 ·refine zA h1 ?_
  refine zt hl ?_
  exact fin _ (by rw [e0,zws (by simpa using h1)])
 rw [zkx (by simpa using h1)] at e0
 refine zA h1 ?_
 refine zl m.changes.length (fun k vs s=>vs = [.d (.int .i64 k)]/\s = σ++[zqk m]/\∀ c∈m.changes.take k,zbg (zaY c)=0) ⟨rfl,rfl,by simp⟩ ?_
 rintro k vs s hk0 ⟨rfl,rfl,h0⟩
 by_cases hlt:k<m.changes.length
 ·have hd:decide ((k:Int)<(m.changes.length:Int))=true:=by simp;omega
  have hx:m.changes[k]? = some m.changes[k]:=by simp [hlt]
  have hpx:=hm.change _ (List.getElem_mem hlt)
  have hgx:=zF (f:=zat) hx
  obtain ⟨p,hp⟩:∃ p,m.changes[k]=p:=⟨_,rfl⟩
  rw [hp] at hx hgx hpx
  refine zfG (zo hd (zo hgx hcl)) ?_
  refine c_kChange (c:=p) hpx.1 ?_
  cases h3:(zbg (zaY p) != 0)
  ·refine zA (zo h3 (wkc k (by omega))) ?_
   exact zan.next hlt ⟨rfl,rfl,zrW hx h0 (by simpa using h3)⟩
  ·refine zA h3 ?_
   refine zt hl ?_
   exact fin _ (by rw [e0,zAl hx h0 (by simpa using h3)])
 have hd:decide ((k:Int)<(m.changes.length:Int))=false:=by simp;omega
 rw [List.take_of_length_le (by omega)] at h0
 rw [zkx (zsd h0)] at e0
 by_cases h2:m.entries.length > 8
 ·have h2':decide ((m.entries.length:Int) > 8)=true:=by simp;omega
  refine zA (zo hd (zo hcl (zo hel h2'))) ?_
  refine zt hl ?_
  exact fin _ (by rw [e0,inE,if_pos (by omega)];rfl)
 have h2':decide ((m.entries.length:Int) > 8)=false:=by simp;omega
 have e1:zbg (zfA m)=zbg ((m.entries.map zep).flatten++[zN m.key m.sdig]):=by rw [e0,inE,if_neg (by omega)];rfl
 refine zA (zo hd (zo hcl (zo hel h2'))) ?_
 refine zl m.entries.length (fun k vs s=>vs = [.d (.int .i64 k)]/\s = σ++[zqk m]/\∀ c∈m.entries.take k,zbg (zep c)=0) ⟨rfl,rfl,by simp⟩ ?_
 rintro k vs s hk1 ⟨rfl,rfl,h0⟩
 by_cases hlt:k<m.entries.length
 ·have hd:decide ((k:Int)<(m.entries.length:Int))=true:=by simp;omega
  have hx:m.entries[k]? = some m.entries[k]:=by simp [hlt]
  have hpx:=hm.entry _ (List.getElem_mem hlt)
  have hgx:=zF (f:=zbh) hx
  obtain ⟨p,hp⟩:∃ p,m.entries[k]=p:=⟨_,rfl⟩
  rw [hp] at hx hgx hpx
  refine zfG (zo hd (zo hgx hel)) ?_
  refine c_kEntry (x:=p) hpx.1 ?_
  cases h3:(zbg (zep p) != 0)
  ·refine zA (zo h3 (wkc k (by omega))) ?_
   exact zan.next hlt ⟨rfl,rfl,zrW hx h0 (by simpa using h3)⟩
  ·refine zA h3 ?_
   refine zt hl ?_
   exact fin _ (by rw [e1,zAl hx h0 (by simpa using h3)])
 ·have hd:decide ((k:Int)<(m.entries.length:Int))=false:=by simp;omega
  rw [List.take_of_length_le (by omega)] at h0
  refine zA (zo hd hel) ?_
  refine zdl ?_
  refine zQ ?_
  refine zt hl ?_
  refine fin _ ?_
  rw [e1,zkx (zsd h0)]
  simp only [zbg]
  split<;>simp_all
theorem c_kParts8 {σ:List zd} {m:zcS} (hm:zbn m) (hk:m.kind=8) {K:KT} (hK:K (.d (.int .i64 (zbg (zfA m)))) σ):zj Tryz.prog zmL [zeR m] σ K:=by
 refine zdZ zwI fun hl => ?_
 simp only [zry,iN,bT,bF,eN]
 refine zQ ?_
 refine zdl ?_
 refine zA (kk8 hk) ?_
 refine c_kNewView (m:=m) hm hk ?_
 refine zQ ?_
 refine zt hl ?_
 exact hK
theorem c_kParts7 {σ:List zd} {m:zcS} (hm:zbn m) (hk:m.kind=7) {K:KT} (hK:K (.d (.int .i64 (zbg (zfA m)))) σ):zj Tryz.prog zmL [zeR m] σ K:=by
 refine zdZ zwI fun hl => ?_
 have fin:∀ z,zbg (zfA m)=z->K (.d (.int .i64 z)) σ:=fun z h=>h▸hK
 clear hK
 have hcl:(zR m.changes).length=m.changes.length:=List.length_map ..
 have hcl1:=hm.changes
 have e0:zbg (zfA m)=zbg (inE m.changes.length 1 1::(m.changes.map fun c=>zaY c++[if c.src≠m.src∨c.view≠m.view then 100 else 0]).flatten):=by
  simp [zfA,zmI,hk,show zvQ 7=false from rfl]
 simp only [zry,iN,bT,bF,eN]
 refine zQ ?_
 refine zdl ?_
 cases h1:((m.changes.length:Int) != 1)
 rotate_left
 ·refine zA (zo (kk7 hk) (zo hcl h1)) ?_
  refine zt hl ?_
  refine fin _ ?_
  simp only [bne_iff_ne,ne_eq] at h1
  rw [e0,inE,if_pos (by omega)];rfl
 simp only [bne_eq_false_iff_eq] at h1
 obtain ⟨c,hc⟩:∃ c,m.changes = [c]:=List.length_eq_one_iff.1 (by omega)
 have hgx:(zR m.changes)[0]? = some (zat c):=by rw [hc];rfl
 have hgl:(zR m.changes).length=1:=by rw [hc];rfl
 have e1:zbg (zfA m)=zbg (zaY c++[if c.src≠m.src∨c.view≠m.view then 100 else 0]):=by
  rw [e0,hc,inE,if_neg (by simp)]
  simp [zbg]
 have hpx:=(hm.change c (by rw [hc];simp)).1
 refine zfG (zo (kk7 hk) (zo hgl hgx)) ?_
 refine c_kChange (c:=c) hpx ?_
 cases h2:(zbg (zaY c) != 0)
 rotate_left
 ·refine zA h2 ?_
  refine zt hl ?_
  exact fin _ (by rw [e1,zws (by simpa using h2)])
 rw [zkx (by simpa using h2)] at e1
 cases h3:(m.src != c.src)
 ·cases h4:(m.view != c.view)
  ·refine zfG (zo h2 (zo h3 (zo h4 (zo hgl hgx)))) ?_
   refine zt hl ?_
   refine fin _ ?_
   simp at h3 h4
   rw [e1,if_neg (by simp [h3,h4])];rfl
  ·refine zfG (zo h2 (zo h3 (zo h4 (zo hgl hgx)))) ?_
   refine zt hl ?_
   refine fin _ ?_
   simp at h4
   rw [e1,if_pos (.inr fun h=>h4 h.symm)];rfl
 ·refine zfG (zo h2 (zo h3 (zo hgl hgx))) ?_
  refine zt hl ?_
  refine fin _ ?_
  simp at h3
  rw [e1,if_pos (.inl fun h=>h3 h.symm)];rfl
theorem c_kOnly7 {σ:List zd} {m:zcS} (hk:m.kind=7) {K:KT} (hK:K (zeR (zmo m)) σ):zj Tryz.prog zpE [zeR m] σ K:=by
 refine zdZ zze fun hl => ?_
 simp only [zud,iN,bT,bF,eN,zl0]
 refine zA (kk7 hk) ?_
 refine zt hl ?_
 simp only [zmo,hk] at hK
 rw [hk]
 exact hK
theorem c_kOnly8 {σ:List zd} {m:zcS} (hk:m.kind=8) {K:KT} (hK:K (zeR (zmo m)) σ):zj Tryz.prog zpE [zeR m] σ K:=by
 refine zdZ zze fun hl => ?_
 simp only [zud,iN,bT,bF,eN,zl0]
 refine zA (kk8 hk) ?_
 refine zt hl ?_
 simp only [zmo,hk] at hK
 rw [hk]
 exact hK
end Go.Proofs.YtpgahkdjkanblaaGreat
