/- Contracts: what is asked, as a list of errors that grows. -/
import Derived.Test.YtfgbofkdhfjegaaGreatPt2
import Derived.Test.YtfgbofkdhfjegaaGreatOpC
import Derived.Test.YtfgbofkdhfjegaaGreatBt3
import Derived.Test.YtfgbofkdhfjegaaGreatSm2
import Derived.Test.YtfgbofkdhfjegaaGreatAwFrz
set_option linter.all false
set_option maxRecDepth 100000
namespace Go.Proofs.YtfgbofkdhfjegaaGreat
open Go.AW
theorem thn_apps (P l:List Int):ziT (zbz P) (zbz l)=zbz (P++l):=by rw [← zkM (zbz P),zyg,zkM]
section
variable {σ:List zh} {id:Nat} {P:List Int} {K:KT}
theorem c_aIn {n lo hi:Int} (hσ : σ[id]? = some (zgW (zbz P))) (hK:K (.tup []) (σ.set id (zgW (zbz (P++[inE n lo hi]))))):zp Tryz.prog zaB [.box id 0,.d (.int .i64 n),.d (.int .i64 lo),.d (.int .i64 hi)] σ K:=zvv hσ (by rw [zlJ];exact hK)
theorem c_aNum {n:Int} (hσ : σ[id]? = some (zgW (zbz P))) (hK:K (.tup []) (σ.set id (zgW (zbz (P++[zgm n]))))):zp Tryz.prog zaq [.box id 0,.d (.int .i64 n)] σ K:=zmt hσ (by rw [zlJ];exact hK)
theorem c_aPos {n:Int} (hσ : σ[id]? = some (zgW (zbz P))) (hK:K (.tup []) (σ.set id (zgW (zbz (P++[zwO n]))))):zp Tryz.prog zbZ [.box id 0,.d (.int .i64 n)] σ K:=c_askPos hσ (by rw [zlJ];exact hK)
theorem c_aMany {n hi:Int} (hσ : σ[id]? = some (zgW (zbz P))) (hK:K (.tup []) (σ.set id (zgW (zbz (P++[inE n 0 hi]))))):zp Tryz.prog zaR [.box id 0,.d (.int .i64 n),.d (.int .i64 hi)] σ K:=zlo hσ (by rw [zlJ];exact hK)
theorem c_aName {x:List UInt8} (hσ : σ[id]? = some (zgW (zbz P))) (hx:x.length<=1073741824) (hK:K (.tup []) (σ.set id (zgW (zbz (P++[zqy x]))))):zp Tryz.prog zci [.box id 0,.d (.str x)] σ K:=c_askName hσ hx (by rw [zlJ];exact hK)
theorem c_aCert {c:zeX} (hσ : σ[id]? = some (zgW (zbz P))) (hl0:c.signs.length<=1073741824) (hK:K (.tup []) (σ.set id (zgW (zbz (P++zep c))))):zp Tryz.prog zcj [.box id 0,ziw c] σ K:=c_askCert hσ hl0 (by rw [thn_apps];exact hK)
end
structure zoE (σ:List zh) (id:Nat) (B:zh) (P:List Int) (S:List zh):Prop where
 a:S[id]? = some (zgW (zbz P))
 b:S[σ.length]? = some B
 pre:∃ τ,S = σ.set id (zgW (zbz P)) ++ τ
section
variable {σ S:List zh} {id:Nat} {B:zh} {P P':List Int}
theorem zoE.first (hσ : σ[id]? = some (zgW (zbz P))) (B:zh):zoE σ id B P (σ++[B]):=⟨zf hσ,by rw [zy];rfl,[B],by rw [zbF hσ]⟩
theorem zoE.set (h:zoE σ id B P S) (hid:id < σ.length) (P':List Int):zoE σ id B P' (S.set id (zgW (zbz P'))):=by
 obtain ⟨h1,h2, τ,h3⟩:=h
 refine ⟨List.getElem?_set_self (zB h1),(List.getElem?_set_ne (by omega)).trans h2, τ,?_⟩
 rw [h3,List.set_append_left _ _ (by simpa using hid),List.set_set]
theorem zoE.app (h:zoE σ id B P S) (τ:List zh):zoE σ id B P (S ++ τ):=by
 obtain ⟨h1,h2, τ',h3⟩:=h
 exact ⟨zf h1,zf h2, τ' ++ τ,by rw [h3,List.append_assoc]⟩
theorem zoE.done (h:zoE σ id B P S) {K:KT} (hl:zgh σ.length σ) (hK:K (.tup []) (σ.set id (zgW (zbz P)))):AW.Ends σ.length K (some []) S:=by
 obtain ⟨_,_, τ,rfl⟩:=h
 exact zjh (by simp [zcJ,dmT,zcb]) hl (zgV _ _) hK
theorem zoE.as (h:zoE σ id B P S) (e:P=P'):zoE σ id B P' S:=e▸h
end
section
variable {σ:List zh} {id:Nat} {P:List Int} {K:KT}
theorem c_aBroker {n:Int} (hσ : σ[id]? = some (zgW (zbz P))) (hK:K (.tup []) (σ.set id (zgW (zbz (P++[brkE n]))))):zp Tryz.prog zbd [.box id 0,.d (.int .i64 n)] σ K:=by
 refine zeW znd fun hl => ?_
 simp only [zhh,iN,bT,bF,eN]
 refine zdS ?_
 refine c_aIn hσ ?_
 exact zfk (by simp [zcJ,dmT,zcb]) hl (zgV _ _) hK
end
section
variable {σ S:List zh} {id:Nat} {B:zh} {P:List Int} {K:KT} (j:zoE σ id B P S) (hid:id < σ.length)
include j hid
theorem j_in {n lo hi:Int} (hK:∀ S,zoE σ id B (P++[inE n lo hi]) S->K (.tup []) S):zp Tryz.prog zaB [.box id 0,.d (.int .i64 n),.d (.int .i64 lo),.d (.int .i64 hi)] S K:=c_aIn j.a (hK _ (j.set hid _))
theorem j_num {n:Int} (hK:∀ S,zoE σ id B (P++[zgm n]) S->K (.tup []) S):zp Tryz.prog zaq [.box id 0,.d (.int .i64 n)] S K:=c_aNum j.a (hK _ (j.set hid _))
theorem j_many {n hi:Int} (hK:∀ S,zoE σ id B (P++[inE n 0 hi]) S->K (.tup []) S):zp Tryz.prog zaR [.box id 0,.d (.int .i64 n),.d (.int .i64 hi)] S K:=c_aMany j.a (hK _ (j.set hid _))
theorem j_broker {n:Int} (hK:∀ S,zoE σ id B (P++[brkE n]) S->K (.tup []) S):zp Tryz.prog zbd [.box id 0,.d (.int .i64 n)] S K:=c_aBroker j.a (hK _ (j.set hid _))
theorem j_name {x:List UInt8} (hx:x.length<=1073741824) (hK:∀ S,zoE σ id B (P++[zqy x]) S->K (.tup []) S):zp Tryz.prog zci [.box id 0,.d (.str x)] S K:=c_aName j.a hx (hK _ (j.set hid _))
theorem j_cert {c:zeX} (hl0:c.signs.length<=1073741824) (hK:∀ S,zoE σ id B (P++zep c) S->K (.tup []) S):zp Tryz.prog zcj [.box id 0,ziw c] S K:=c_aCert j.a hl0 (hK _ (j.set hid _))
end
abbrev changeL (c:zfK):List AV := [.d (.int .i64 c.view),.d (.int .i64 c.src),.d (.int .i64 c.cert.seq),.d (.int .i64 c.cert.dig),.d (.slice (zaI c.cert.signs)),.d (.slice (zqt c.above)),.d (.int .i64 c.key),.d (.int .i64 c.dig)]
structure okCh (c:zfK):Prop where
 signs:c.cert.signs.length<=1073741824
 above:c.above.length<=1073741824
 each:∀ p∈c.above,p.signs.length<=1073741824/\okB p.batch
theorem flat_take {α β:Type} {f : α->List β} {l:List α} {k:Nat} {x : α} (h:l[k]? = some x):((l.take (k+1)).map f).flatten=((l.take k).map f).flatten++f x:=by
 rw [zem h];simp
theorem c_mSameProof {σ:List zh} {a b:zbW} (ha:zfe a) {K:KT} (hK:K (.d (.bool (decide (a=b)))) σ):zp Tryz.prog zgq [zfB a,zfB b] σ K:=by
 refine zeW zpR fun hl => ?_
 have fin:∀ z,decide (a=b)=z->K (.d (.bool z)) σ:=fun z h=>h▸hK
 clear hK
 simp only [zjL,iN,bT,bF,eN]
 cases h1:(a.topic==b.topic)
 ·refine zaQ h1 ?_
  refine zI hl ?_
  exact fin _ (decide_eq_false fun h=>by subst h;simp at h1)
 cases h2:(a.offset==b.offset)
 ·refine zaQ (zP h1 h2) ?_
  refine zI hl ?_
  exact fin _ (decide_eq_false fun h=>by subst h;simp at h2)
 refine zyz (zP h1 h2) ?_
 refine zms ?_
 cases h3:(a.rec_==b.rec_)
 ·refine zaQ h3 ?_
  refine zI hl ?_
  exact fin _ (decide_eq_false fun h=>by subst h;simp at h3)
 refine zyz h3 ?_
 refine c_eqHdr ha.headers ?_
 cases h4:decide (a.headers=b.headers)
 ·refine zaQ h4 ?_
  refine zI hl ?_
  exact fin _ (decide_eq_false fun h=>by subst h;simp at h4)
 cases h5:(a.index==b.index)
 ·refine zaQ (zP h4 h5) ?_
  refine zI hl ?_
  exact fin _ (decide_eq_false fun h=>by subst h;simp at h5)
 cases h6:(a.count==b.count)
 ·refine zaQ (zP h4 (zP h5 h6)) ?_
  refine zI hl ?_
  exact fin _ (decide_eq_false fun h=>by subst h;simp at h6)
 refine zyz (zP h4 (zP h5 h6)) ?_
 refine c_eqDig ha.path ?_
 cases h7:decide (a.path=b.path)
 ·refine zaQ h7 ?_
  refine zI hl ?_
  exact fin _ (decide_eq_false fun h=>by subst h;simp at h7)
 refine zyz h7 ?_
 refine zqb (a:=a.cert) (b:=b.cert) ha.signs ?_
 cases h8:decide (a.cert=b.cert)
 ·refine zaQ h8 ?_
  refine zI hl ?_
  exact fin _ (decide_eq_false fun h=>by subst h;simp at h8)
 refine zaQ h8 ?_
 refine zI hl ?_
 exact fin _ (decide_eq_true (by cases a;cases b;simp_all))
abbrev fltMA (a:zjF):AV := .agg [.d (.int .i64 a.kind),.d (.int .i64 a.src),.d (.int .i64 a.client),.d (.int .i64 a.view),.d (.int .i64 a.seq),.d (.int .i64 a.time),.d (.int .i64 a.offset),.d (.int .i64 a.dig),.d (.int .i64 a.rerr),.d (.int .i64 a.roff),.d (.str a.topic),.d (.int .i64 a.key),.d (.int .i64 a.sdig)]
theorem c_flatOf {σ:List zh} {a:zjF} {K:KT} (hK:K (fltMA a) σ):zp Tryz.prog zgb [zwl a] σ K:=by
 refine zfc ztF fun hl => ?_
 simp only [zmL,iN,bT,bF,eN,zl10]
 refine zdS ?_
 refine zI hl ?_
 exact hK
structure zdD (m:zjF):Prop where
 batch:okB m.batch
 batchS:zkO m.batch
 signs:m.cert.signs.length<=1073741824
 changes:m.changes.length<=1073741824
 change:∀ c∈m.changes,okCh c/\zka c
 entries:m.entries.length<=1073741824
 entry:∀ x∈m.entries,okB x.batch/\zuj x
 proof:zfe m.proof
 topic:m.topic.length<=16777216
 state:m.state.length<=1073741824
theorem c_mSame {σ:List zh} {a b:zjF} (ha:zdD a) (hb:zdD b) {K:KT} (hK:K (.d (.bool (decide (a=b)))) σ):zp Tryz.prog zkE [zwl a,zwl b] σ K:=by
 refine zeW zwy fun hl => ?_
 have fin:∀ z,decide (a=b)=z->K (.d (.bool z)) σ:=fun z h=>h▸hK
 clear hK
 simp only [zpo,iN,bT,bF,eN]
 refine zdS ?_
 refine c_flatOf (a:=a) ?_
 refine zdS ?_
 refine c_flatOf (a:=b) ?_
 cases h1:((a.kind==b.kind&&(a.src==b.src&&(a.client==b.client&&(a.view==b.view&&(a.seq==b.seq&&(a.time==b.time&&(a.offset==b.offset&&(a.dig==b.dig&&(a.rerr==b.rerr&&(a.roff==b.roff&&(a.topic==b.topic&&(a.key==b.key&&a.sdig==b.sdig)))))))))))))
 ·refine zqi h1 ?_
  refine zI hl ?_
  exact fin _ (decide_eq_false fun h=>by subst h;simp at h1)
 refine zqi h1 ?_
 refine zvp ha.batchS hb.batchS ?_
 cases h2:decide (a.batch=b.batch)
 ·refine zaQ h2 ?_
  refine zI hl ?_
  exact fin _ (decide_eq_false fun h=>by subst h;simp at h2)
 refine zyz h2 ?_
 refine zqb (a:=a.cert) (b:=b.cert) ha.signs ?_
 cases h3:decide (a.cert=b.cert)
 ·refine zaQ h3 ?_
  refine zI hl ?_
  exact fin _ (decide_eq_false fun h=>by subst h;simp at h3)
 refine zyz h3 ?_
 refine c_eqChanges ha.changes (fun x hx=>(ha.change x hx).2) (fun x hx=>(hb.change x hx).2) ?_
 cases h4:decide (a.changes=b.changes)
 ·refine zaQ h4 ?_
  refine zI hl ?_
  exact fin _ (decide_eq_false fun h=>by subst h;simp at h4)
 refine zyz h4 ?_
 refine c_eqEntries ha.entries (fun x hx=>(ha.entry x hx).2) (fun x hx=>(hb.entry x hx).2) ?_
 cases h5:decide (a.entries=b.entries)
 ·refine zaQ h5 ?_
  refine zI hl ?_
  exact fin _ (decide_eq_false fun h=>by subst h;simp at h5)
 refine zyz h5 ?_
 refine zms ?_
 cases h6:(a.state==b.state)
 ·refine zaQ h6 ?_
  refine zI hl ?_
  exact fin _ (decide_eq_false fun h=>by subst h;simp at h6)
 refine zyz h6 ?_
 refine c_mSameProof (a:=a.proof) (b:=b.proof) ha.proof ?_
 cases h7:decide (a.proof=b.proof)
 ·refine zaQ h7 ?_
  refine zI hl ?_
  exact fin _ (decide_eq_false fun h=>by subst h;simp at h7)
 refine zaQ h7 ?_
 refine zI hl ?_
 exact fin _ (decide_eq_true (by cases a;cases b;simp_all))
theorem c_intIndex {σ:List zh} {l:List Int} {x:Int} (hl0:l.length<=1073741824) {K:KT} (hK:∀ i:Int,(0<=i↔x∈l)->K (.d (.int .i64 i)) σ) :
  zp Tryz.prog zeH [.d (.slice (zcH l)),.d (.int .i64 x)] σ K:=by
 refine zeW zmZ fun hl => ?_
 simp only [zhd,iN,bT,bF,eN]
 refine zdS ?_
 refine zo l.length (fun k vs s=>vs = [.d (.int .i64 k)]/\(∃ T,s = σ++T)/\x ∉ l.take k) ⟨rfl,⟨[],by simp⟩,by simp⟩ ?_
 rintro k vs s hk ⟨rfl,⟨T,rfl⟩,htk⟩
 by_cases hlt:k<l.length
 ·have hd:decide ((k:Int)<(l.length:Int))=true:=by simp;omega
  have hx:l[k]? = some l[k]:=by simp [hlt]
  have hmem:=List.getElem_mem hlt
  have hgx:=zK (f:=fun t => [D.int .i64 t]) hx
  obtain ⟨y,hye⟩:∃ y,l[k]=y:=⟨_,rfl⟩
  rw [hye] at hx hgx hmem
  cases h:(x==y)
  ·refine zaQ (zP hd (zP hgx (zP h (wk1 k (by omega))))) ?_
   refine zas.next hlt ⟨rfl,⟨_,rfl⟩,?_⟩
   rw [List.take_add_one,hx]
   simp at h
   simp [htk,h]
  ·refine zaQ (zP hd (zP hgx h)) ?_
   refine zI hl ?_
   refine hK _ ?_
   simp at h
   simp [h,hmem]
 ·have hd:decide ((k:Int)<(l.length:Int))=false:=by simp;omega
  refine zaQ hd ?_
  refine zI hl ?_
  refine hK _ ?_
  rw [List.take_of_length_le (by omega)] at htk
  simp [htk]
theorem zzj {σ:List zh} {l:List Int} {x:Int} (hl0:l.length<=1073741824) {K:KT} (hK:K (.d (.bool (decide (x∈l)))) σ) :
  zp Tryz.prog zdC [.d (.slice (zcH l)),.d (.int .i64 x)] σ K:=by
 refine zeW zkG fun hl => ?_
 simp only [zfV,iN,bT,bF,eN]
 refine zdS ?_
 refine c_intIndex hl0 fun i hi => ?_
 have e:decide (i≥0)=decide (x∈l):=by rw [decide_eq_decide,ge_iff_le,hi]
 refine zdS ?_
 rw [e]
 refine zI hl ?_
 exact hK
theorem c_mSigned {σ:List zh} {k:Int} {K:KT} (hK:K (.d (.bool (ownK k))) σ):zp Tryz.prog zga [.d (.int .i64 k)] σ K:=by
 refine zfc ztE fun hl => ?_
 simp only [zmK,iN,bT,bF,eN]
 refine zdS ?_
 refine zzj (l := [2, 3, 4, 5, 6, 8, 9]) (by simp) ?_
 have e:decide (k∈[2, 3, 4, 5, 6, 8, 9])=ownK k:=by
  unfold ownK
  rw [decide_eq_decide]
  simp
  omega
 rw [e]
 refine zdS ?_
 refine zI hl ?_
 exact hK
theorem zoE.zero {σ S:List zh} {id:Nat} {B:zh} {P:List Int} (h:zoE σ id B P S):zoE σ id B (P++[0]) S:=by
 have e:zbz (P++[0])=zbz P:=by
  rw [zgg]
  by_cases h:zbz P=0
  ·rw [if_neg (by simpa using h),h];rfl
  ·rw [if_pos h]
 obtain ⟨h1,h2,h3⟩:=h
 exact ⟨by rw [e];exact h1,h2,by rw [e];exact h3⟩
section
variable {σ S:List zh} {id n:Nat} {B X:zh} {P:List Int} {K:KT} (j:zoE σ id B P S) (hid:id < σ.length) (hne:n≠id) (c:S[n]? = some X)
include j hid hne c
theorem jx_pos {x:Int} (hK:∀ S,zoE σ id B (P++[zwO x]) S->S[n]? = some X->K (.tup []) S):zp Tryz.prog zbZ [.box id 0,.d (.int .i64 x)] S K:=c_aPos j.a (hK _ (j.set hid _) ((List.getElem?_set_ne hne.symm).trans c))
end
theorem noPf_small:zfe znm:=⟨by decide,by decide,by decide,by decide,by decide,by simp [znm,zjT],by simp [znm,zjT],by simp [znm,zjT],by simp [znm]⟩
theorem zhj:zdD zgE:=⟨⟨by decide,by simp [zgE]⟩,⟨by decide,by simp [zgE]⟩,by decide,by decide,by simp [zgE],by decide,by simp [zgE],noPf_small,by decide,by decide⟩
theorem ite_small {c:Prop} [h:Decidable c] {a b:zjF} (ha:zdD a) (hb:zdD b):zdD (if c then a else b):=by
 cases h
 ·rw [if_neg ‹_›];exact hb
 ·rw [if_pos ‹_›];exact ha
theorem zxD {m:zjF} (h:zdD m):zdD (zvA m):=by
 obtain ⟨h1,h2,h3,h4,h5,h6,h7,h8,h9,h10⟩:=h
 obtain ⟨n1,n2,n3,n4,n5,n6,n7,n8,n9,n10⟩:=zhj
 unfold zvA
 repeat' refine ite_small ?_ ?_
 all_goals constructor<;>assumption
theorem zoE.cong {σ S:List zh} {id:Nat} {B:zh} {P P':List Int} (h:zoE σ id B P S) (e:zbz P=zbz P'):zoE σ id B P' S:=by
 obtain ⟨h1,h2,h3⟩:=h
 exact ⟨e▸h1,h2,e▸h3⟩
abbrev hdrX (h:zdl):zh := .box [.d (.int .i64 h.seq),.d (.int .i64 h.prev),.d (.int .i64 h.batch),.d (.int .i64 h.root),.d (.int .i64 h.state)]
theorem c_aProof {σ:List zh} {id:Nat} {P:List Int} {p:zbW} (hσ : σ[id]? = some (zgW (zbz P))) (hp:zfe p) {K:KT} (hK:K (.tup []) (σ.set id (zgW (zbz (P++zgD p))))) :
  zp Tryz.prog zcC [.box id 0,zfB p] σ K:=by
 refine zeW zhY fun hl => ?_
 have hid:=zB hσ
 have hrl:=zav p.rec_
 have hhl:(zgR p.headers).length=p.headers.length:=List.length_map ..
 have hpl:(zcH p.path).length=p.path.length:=List.length_map ..
 have hph:=hp.headers
 have hpb:=hp.path
 simp only [zfn,iN,bT,bF,eN,zfB]
 have j:=zoE.first hσ (zhN p)
 refine zdS ?_
 refine j_name j hid (by have:=hp.topic;omega) fun S j => ?_
 have b:=j.b
 refine zaQ b ?_
 refine j_num j hid fun S j => ?_
 have b:=j.b
 refine zaQ (zP b hrl) ?_
 refine j_many j hid fun S j => ?_
 have b:=j.b
 refine zaQ (zP b hhl) ?_
 refine j_many j hid fun S j => ?_
 have b:=j.b
 obtain ⟨Q,hQ⟩:∃ Q,P++[zqy p.topic]++[zgm p.offset]++[inE p.rec_.length 0 64]++[inE p.headers.length 0 64]=Q:=⟨_,rfl⟩
 rw [hQ] at j
 have hQ1:P++zew p=Q:=by rw [← hQ];simp [zew]
 refine zaQ (zP b hhl) ?_
 refine zo p.headers.length (fun k vs S=>vs = [.d (.int .i64 k)]/\zoE σ id (zhN p) (Q++((p.headers.take k).map zgw).flatten) S) ⟨rfl,by simpa using j⟩ ?_
 rintro k vs S hk ⟨rfl,j⟩
 by_cases hlt:k<p.headers.length
 ·have hd:decide ((k:Int)<(p.headers.length:Int))=true:=by simp;omega
  have hx:p.headers[k]? = some p.headers[k]:=by simp [hlt]
  have hgx:=zK (f:=ztT) hx
  obtain ⟨h,hhe⟩:∃ h,p.headers[k]=h:=⟨_,rfl⟩
  rw [hhe] at hx hgx
  have c:(S++[hdrX h])[S.length]? = some (hdrX h):=by rw [zy];rfl
  have hne:S.length≠id:=by obtain ⟨τ,h1⟩:=j.pre;rw [h1];simp;omega
  have j:=j.app [hdrX h]
  refine gq38 (zP hd (zP hgx hhl)) ?_
  obtain ⟨n,hn⟩:∃ n,S.length=n:=⟨_,rfl⟩
  obtain ⟨S0,hS0⟩:∃ S0,S++[hdrX h]=S0:=⟨_,rfl⟩
  rw [hn] at c hne
  rw [hS0] at c j
  simp only [hdrX] at hS0 c
  rw [hn,hS0]
  refine jx_pos j hid hne c fun S j c => ?_
  have hg:∀ (k:Nat) x,[h.prev,h.batch,h.root,h.state][k]? = some x → [[D.int .i64 h.prev],[D.int .i64 h.batch],[D.int .i64 h.root],[D.int .i64 h.state]][k]? = some [D.int .i64 x]:=fun k x hx=>by
   have:=zK (f:=fun t => [D.int .i64 t]) hx
   simpa using this
  have hhd:zgw h = [zwO h.seq]++[h.prev,h.batch,h.root,h.state].map zgm:=rfl
  have hl4 : [h.prev,h.batch,h.root,h.state].length=4:=rfl
  obtain ⟨R,hR⟩:∃ R,Q++((p.headers.take k).map zgw).flatten++[zwO h.seq]=R:=⟨_,rfl⟩
  rw [hR] at j
  refine zaQ c ?_
  obtain ⟨l,hlq⟩:∃ l,[h.prev,h.batch,h.root,h.state]=l:=⟨_,rfl⟩
  rw [hlq] at hg hhd hl4
  refine zo 4 (fun i vs S=>vs = [.d (.int .i64 i)]/\zoE σ id (zhN p) (R++(l.take i).map zgm) S) ⟨rfl,by simpa using j⟩ ?_
  rintro i vs S hi ⟨rfl,j⟩
  by_cases hjl:i<4
  ·have hd2:decide ((i:Int)<((4:Nat):Int))=true:=by simp;omega
   have hy:l[i]? = some (l[i]'(by omega)):=List.getElem?_eq_getElem _
   have hgy:=hg i _ hy
   obtain ⟨y,hye⟩:∃ y,(l[i]'(by omega))=y:=⟨_,rfl⟩
   rw [hye] at hy hgy
   have hmy:=zem (f:=zgm) hy
   refine zaQ (zP hd2 hgy) ?_
   refine j_num j hid fun S j => ?_
   refine zaQ (wkc i (by omega)) ?_
   exact zas.next hjl ⟨rfl,j.as (by rw [hmy];simp)⟩
  ·have hd2:decide ((i:Int)<((4:Nat):Int))=false:=by simp;omega
   rw [List.take_of_length_le (by omega)] at j
   refine zaQ (zP hd2 (wkc k (by omega))) ?_
   refine zas.next hlt ⟨rfl,j.as ?_⟩
   rw [flat_take hx, ← hR,hhd];simp
 ·have hd:decide ((k:Int)<(p.headers.length:Int))=false:=by simp;omega
  rw [List.take_of_length_le (by omega)] at j
  have b:=j.b
  have hix:=hp.index
  have hct:=hp.count
  refine zaQ (zP hd b) ?_
  refine j_num j hid fun S j => ?_
  have b:=j.b
  refine zaQ b ?_
  refine j_many j hid fun S j => ?_
  have b:=j.b
  obtain ⟨R,hR⟩:∃ R,Q++(p.headers.map zgw).flatten++[zgm p.index]++[inE p.count 0 16]=R:=⟨_,rfl⟩
  rw [hR] at j
  refine zaQ b ?_
  refine j_in j hid fun S j => ?_
  have j:zoE σ id (zhN p) (R++[inE p.index 0 (p.count-1)]) S:=j.cong (by
   by_cases hz:zbz R=0
   ·have hc0:inE p.count 0 16=0:=by
     rw [← hR,zgg] at hz
     split at hz
     ·rename_i h;exact absurd hz h
     ·simp only [zbz] at hz
      split at hz
      ·rename_i h;exact absurd hz h
      ·rename_i h;simpa using h
    have:=inE_0 hc0
    rw [show IntKind.i64.wrap (p.count-1)=p.count-1 from zU (by omega) (by omega)]
   ·rw [zjB hz,zjB hz])
  have b:=j.b
  refine zaQ (zP b hpl) ?_
  refine j_many j hid fun S j => ?_
  have b:=j.b
  obtain ⟨V,hV⟩:∃ V,R++[inE p.index 0 (p.count-1)]++[inE p.path.length 0 8]=V:=⟨_,rfl⟩
  rw [hV] at j
  refine zaQ (zP b hpl) ?_
  refine zo p.path.length (fun k vs S=>vs = [.d (.int .i64 k)]/\zoE σ id (zhN p) (V++(p.path.take k).map zgm) S) ⟨rfl,by simpa using j⟩ ?_
  rintro i vs S hi ⟨rfl,j⟩
  by_cases hjl:i<p.path.length
  ·have hd2:decide ((i:Int)<(p.path.length:Int))=true:=by simp;omega
   have hy:p.path[i]? = some p.path[i]:=by simp [hjl]
   have hgy:=zK (f:=fun t => [D.int .i64 t]) hy
   obtain ⟨y,hye⟩:∃ y,p.path[i]=y:=⟨_,rfl⟩
   rw [hye] at hy hgy
   have hmy:=zem (f:=zgm) hy
   refine zaQ (zP hd2 (zP hgy hpl)) ?_
   refine j_num j hid fun S j => ?_
   refine zaQ (wkc i (by omega)) ?_
   exact zas.next hjl ⟨rfl,j.as (by rw [hmy];simp)⟩
  ·have hd2:decide ((i:Int)<(p.path.length:Int))=false:=by simp;omega
   rw [List.take_of_length_le (by omega)] at j
   have b:=j.b
   refine zaQ (zP hd2 (zP b hpl)) ?_
   refine j_cert (c:=p.cert) j hid hp.signs fun S j => ?_
   refine zdS ?_
   refine (j.as ?_).done hl hK
   rw [← hV, ← hR, ← hQ1]
   simp [zgD,zbO,zev]
theorem c_aMsg12 {σ:List zh} {id:Nat} {P:List Int} {m:zjF} (hσ : σ[id]? = some (zgW (zbz P))) (hm:zdD m) (hk:m.kind=12) {K:KT} (hK:K (.tup []) (σ.set id (zgW (zbz (P++zoX m))))) :
  zp Tryz.prog zej [.box id 0,zwl m] σ K:=by
 refine zeW zml fun hl => ?_
 have hid:=zB hσ
 simp only [zgY,iN,bT,bF,eN,zl9]
 have j:=zoE.first hσ (msgO m)
 refine zaQ (kk12 hk) ?_
 refine j_broker j hid fun S j => ?_
 have b:=j.b
 refine zaQ (zP b (kk12 hk)) ?_
 refine c_aProof (p:=m.proof) j.a hm.proof ?_
 have j:=j.set hid (P++[brkE m.src]++zgD m.proof)
 obtain ⟨S1,hS1⟩:∃ S1,S.set id (zgW (zbz (P++[brkE m.src]++zgD m.proof)))=S1:=⟨_,rfl⟩
 rw [hS1] at j ⊢
 have b:=j.b
 refine zaQ (zP b (kk12 hk)) ?_
 refine c_mSigned ?_
 refine zaQ (zP (show ownK m.kind=false by rw [hk];rfl) b) ?_
 exact (j.as (by simp [zoX,zyr,hk,show ownK 12=false from rfl])).done hl hK
theorem c_bare12 {σ:List zh} {m:zjF} (hk:m.kind=12) {K:KT} (hK:K (zwl (zvA m)) σ):zp Tryz.prog zkD [zwl m] σ K:=by
 refine zfc zwx fun hl => ?_
 simp only [zpn,iN,bT,bF,eN,zl1]
 refine zaQ (kk12 hk) ?_
 refine c_mSigned ?_
 refine zaQ (show ownK m.kind=false by rw [hk];rfl) ?_
 refine zI hl ?_
 simp only [zvA,hk] at hK
 rw [hk]
 exact hK
theorem c_mCheck12 {σ:List zh} {m:zjF} (hm:zdD m) (hk:m.kind=12) {K:KT} (hK:K (.d (.int .i64 (zhA m))) σ):zp Tryz.prog zju [zwl m] σ K:=by
 refine zfc zvc fun hl => ?_
 have fin:∀ z,zhA m=z->K (.d (.int .i64 z)) σ:=fun z h=>h▸hK
 clear hK
 simp only [zod,iN,bT,bF,eN]
 refine zdS ?_
 refine c_aMsg12 (P := []) (m:=m) (by rw [List.getElem?_append_right (by omega)];simp [zgW,zbz]) hm hk ?_
 cases h1:(zbz (zoX m)==0)
 ·refine zyz h1 ?_
  refine zI hl ?_
  exact fin _ (by simp at h1;simp [zhA,h1])
 refine zyz h1 ?_
 refine c_bare12 (m:=m) hk ?_
 refine zdS ?_
 refine c_mSame (a:=m) (b:=zvA m) hm (zxD hm) ?_
 cases h2:decide (m=zvA m)
 ·refine zdS ?_
  refine zI hl ?_
  exact fin _ (by simp at h1 h2;simp [zhA,h1,h2])
 ·refine zaQ h1 ?_
  refine zI hl ?_
  exact fin _ (by simp at h1 h2;simp [zhA,h1, ← h2])
end Go.Proofs.YtfgbofkdhfjegaaGreat

/- Ends of calls that keep objects told at the end; a result whose rows are let go. -/
namespace Go.AW
section
variable {P:Program} {σ:List zh}
theorem zp.frz {f:FuncId} {xs:List AV} {K:KT} (m:Nat) (h:zp P f xs σ fun r s => ∃ r',frzT s σ.length m r=some r' ∧ s.take σ.length = σ/\K r' σ):zp P f xs σ K:=
 ⟨h.1,fun L w vs S hv=>(h.2 L w vs S hv).mono fun e w' he=>by
  cases e with
  | panicked _=>exact he
  | outgrown=>exact he
  | returned v=>
   obtain ⟨L', σ',r,st,S',hr,r',hf,ht,hK⟩:=he
   have z2:zgh σ.length (σ'.take σ.length):=by rw [ht];exact S.lows
   have hS:=S'.take z2
   have hst:=st.take
   have hv:=zxj S' (L2:=L') (σ2 := σ'.take σ.length) (fun b o=>zqv) (fun t x ht hx hk b o hf hown=>by
    obtain ⟨id,y,hy,hfy⟩:=hown
    rw [List.getElem?_take] at hy
    split at hy
    ·rename_i hid
     exact S'.apart id t y x b o (by omega) hy hx hfy hf
    ·cases hy) hr hf
   rw [ht] at hS hst hv
   exact ⟨L', σ,r',hst,hS,hv,hK⟩⟩
end
end Go.AW
