/- Contracts: parts of messages that are the same, the program's. -/
import Derived.Test.YtpgahkdjkanblaaGreatSpPut
import Derived.Test.YtpgahkdjkanblaaGreatCk2
import Derived.Test.YtpgahkdjkanblaaGreatSpMsg
set_option linter.all false
set_option maxRecDepth 100000
namespace Go.Proofs.YtpgahkdjkanblaaGreat
open Go.AW
theorem gq56 {A P Q:Prop} (a:A) (h:Q) (e:A->Hd Q->P:=by intro a h;(repeat' first | simp -dsimp only [↓zeN, ↓zav, ↓zbq, ↓zeO, ↓zeH, ↓zeF, ↓zeI, ↓zeG, ↓zbv, ↓zbr, ↓zbw, ↓zbs, ↓zeJ, ↓zbp, ↓zbx, ↓zbt, ↓zby, ↓zbu, ↓zeE, ↓zeM, ↓zbo, ↓zbz, ↓zeC, ↓zeB, ↓zeD,iN,bT,bF,eN, ↓zcB, ↓unC, ↓zV, ↓zM, ↓zN, ↓zQ, ↓zY, ↓zal, ↓zdb, ↓zak, ↓zaH, ↓zT, ↓zf, ↓zj, ↓zbZ, ↓zb, ↓zag, ↓zE, ↓zaI, ↓zaO, ↓zc, ↓zy, ↓zl, ↓zG, ↓zaa, ↓zdm, ↓zdw, ↓zaj, ↓zar, ↓zaK, ↓zaS, ↓zaY, ↓zq, ↓zai, ↓zO, ↓zu, ↓zX,zdx,zbg,zbb,unA,zdd,bnd,zdY,zaf,zP,zdR,dm,dm1,zA,zae,zeh,zeg,zI,Q0,Q1,Q2,Q3,Q4,Q5,zZ,zC,zt,zL,zF,Q6,Q7,Q8,Q9,Q10,Q11,Q12,Q13,Q14,Nat.reduceAdd,Q15,Int.reduceToNat,Q16,Q17,Q18,Q19,Q20,reduceIte,Q21,Q22,zH,rep,zac,zel,toD,zah,Q23,Q24,Q25,Q26,Q27,Q28,Nat.reduceLeDiff,Q29,Nat.reduceSub,Q30,Q31,Q32,sc,Q33,Q34,Q35,Q36,Q37,Q26,Q38,Q39,zoy,zov,zos,zoz,zfG,zow,zot,zox,zou,zfF,zfH,zoB,zoC,Bool.not_true,Bool.not_false,List.length_map,bne,zdX,zgf,a] | with_reducible refine zoE ?_ | fail);exact h.go):P:=e a ⟨h⟩
theorem c_eqSign {σ:List zh} {a b:List zK} (ha1:a.length<=1073741824) {K:KT} (hK:K (.d (.bool (decide (a=b)))) σ) :
  zo Tryz.prog zbT [.d (.slice (zap a)),.d (.slice (zap b))] σ K:=by
 refine zd zeK.is rfl fun hl _=>zeK.goes ?_
 have fin:∀ z,decide (a=b)=z->K (.d (.bool z)) σ:=fun z h=>h ▸ hK
 clear hK
 simp only [zeP,iN,bT,bF,eN]
 cases hl0:((a.length:Int) != (b.length:Int))
 rotate_left
 ·refine zB hl0 ?_
  refine zw hl ?_
  refine fin _ (decide_eq_false fun h => ?_)
  rw [h] at hl0;simp at hl0
 have hl2:a.length=b.length:=by simp at hl0;omega
 refine zB hl0 ?_
 refine zm a.length (fun k vs s=>vs = [.d (.int .i64 k)]/\(∃ T,s = σ++T)/\a.take k=b.take k) ⟨rfl,⟨[],by simp⟩,by simp⟩ ?_
 rintro k vs s hk ⟨rfl,⟨T,rfl⟩,htk⟩
 by_cases hlt:k<a.length
 ·have hd:decide ((k:Int)<(a.length:Int))=true:=by simp;omega
  have hx:a[k]? = some a[k]:=by simp [hlt]
  have hy:b[k]? = some (b[k]'(by omega)):=List.getElem?_eq_getElem _
  have hgx:=zR (f:=zgf) hx
  have hgy:=zR (f:=zgf) hy
  obtain ⟨x,hxe⟩:∃ x,a[k]=x:=⟨_,rfl⟩
  obtain ⟨y,hye⟩:∃ y,(b[k]'(by omega))=y:=⟨_,rfl⟩
  rw [hxe] at hx hgx
  rw [hye] at hy hgy
  obtain ⟨S,hS⟩:∃ S, σ++T=S:=⟨_,rfl⟩
  rw [hS]
  have hxy:x=y ↔ ((x.key == y.key && x.dig == y.dig))=true:=by cases x;cases y;simp
  cases h2:((x.key == y.key && x.dig == y.dig))
  ·refine gq56 (ze hd (ze hgx (ze hgy h2))) ?_
   rw [← hS]
   refine zw hl ?_
   refine fin _ (decide_eq_false fun h => ?_)
   subst h
   rw [hx] at hy
   rw [hxy.1 (Option.some.inj hy)] at h2;cases h2
  ·refine gq56 (ze hd (ze hgx (ze hgy (ze h2 (wk1 k (by omega)))))) ?_
   exact zaz.next hlt ⟨rfl,⟨_,hS.symm⟩,zbM hx hy htk (hxy.2 h2)⟩
 ·have hd:decide ((k:Int)<(a.length:Int))=false:=by simp;omega
  refine zB hd ?_
  refine zw hl ?_
  exact fin _ (decide_eq_true (zcH hl2 (k:=k) (by omega) htk))
theorem gq57 {A P Q:Prop} (a:A) (h:Q) (e:A->Hd Q->P:=by intro a h;(repeat' first | simp -dsimp only [↓zeN, ↓zav, ↓zbq, ↓zeO, ↓zeH, ↓zeF, ↓zeI, ↓zeG, ↓zbv, ↓zbr, ↓zbw, ↓zbs, ↓zeJ, ↓zbp, ↓zbx, ↓zbt, ↓zby, ↓zbu, ↓zeE, ↓zeM, ↓zbo, ↓zbz, ↓zeC, ↓zeB, ↓zeD,iN,bT,bF,eN, ↓zcB, ↓unC, ↓zV, ↓zM, ↓zN, ↓zQ, ↓zY, ↓zal, ↓zdb, ↓zak, ↓zaH, ↓zT, ↓zf, ↓zj, ↓zbZ, ↓zb, ↓zag, ↓zE, ↓zaI, ↓zaO, ↓zc, ↓zy, ↓zl, ↓zG, ↓zaa, ↓zdm, ↓zdw, ↓zaj, ↓zar, ↓zaK, ↓zaS, ↓zaY, ↓zq, ↓zai, ↓zO, ↓zu, ↓zX,zdx,zbg,zbb,unA,zdd,bnd,zdY,zaf,zP,zdR,dm,dm1,zA,zae,zeh,zeg,zI,Q0,Q1,Q2,Q3,Q4,Q5,zZ,zC,zt,zL,zF,Q6,Q7,Q8,Q9,Q10,Q11,Q12,Q13,Q14,Nat.reduceAdd,Q15,Int.reduceToNat,Q16,Q17,Q18,Q19,Q20,reduceIte,Q21,Q22,zH,rep,zac,zel,toD,zah,Q23,Q24,Q25,Q26,Q27,Q28,Nat.reduceLeDiff,Q29,Nat.reduceSub,Q30,Q31,Q32,sc,Q33,Q34,Q35,Q36,Q37,Q26,Q38,Q39,zoy,zov,zos,zoz,zfG,zow,zot,zox,zou,zfF,zfH,zoB,zoC,Bool.not_true,Bool.not_false,List.length_map,bne,zdX,a] | with_reducible refine zoE ?_ | fail);exact h.go):P:=e a ⟨h⟩
theorem c_eqHdr {σ:List zh} {a b:List THdr} (ha1:a.length<=1073741824) {K:KT} (hK:K (.d (.bool (decide (a=b)))) σ) :
  zo Tryz.prog zch [.d (.slice (zzT a)),.d (.slice (zzT b))] σ K:=by
 refine zd zdH.is rfl fun hl _=>zdH.goes ?_
 have fin:∀ z,decide (a=b)=z->K (.d (.bool z)) σ:=fun z h=>h ▸ hK
 clear hK
 simp only [zdM,iN,bT,bF,eN]
 cases hl0:((a.length:Int) != (b.length:Int))
 rotate_left
 ·refine zB hl0 ?_
  refine zw hl ?_
  refine fin _ (decide_eq_false fun h => ?_)
  rw [h] at hl0;simp at hl0
 have hl2:a.length=b.length:=by simp at hl0;omega
 refine zB hl0 ?_
 refine zm a.length (fun k vs s=>vs = [.d (.int .i64 k)]/\(∃ T,s = σ++T)/\a.take k=b.take k) ⟨rfl,⟨[],by simp⟩,by simp⟩ ?_
 rintro k vs s hk ⟨rfl,⟨T,rfl⟩,htk⟩
 by_cases hlt:k<a.length
 ·have hd:decide ((k:Int)<(a.length:Int))=true:=by simp;omega
  have hx:a[k]? = some a[k]:=by simp [hlt]
  have hy:b[k]? = some (b[k]'(by omega)):=List.getElem?_eq_getElem _
  have hgx:=zR (f:=hdrD) hx
  have hgy:=zR (f:=hdrD) hy
  obtain ⟨x,hxe⟩:∃ x,a[k]=x:=⟨_,rfl⟩
  obtain ⟨y,hye⟩:∃ y,(b[k]'(by omega))=y:=⟨_,rfl⟩
  rw [hxe] at hx hgx
  rw [hye] at hy hgy
  obtain ⟨S,hS⟩:∃ S, σ++T=S:=⟨_,rfl⟩
  rw [hS]
  have hxy:x=y ↔ ((x.seq == y.seq && (x.prev == y.prev && (x.batch == y.batch && (x.root == y.root && x.state == y.state)))))=true:=by cases x;cases y;simp
  cases h2:((x.seq == y.seq && (x.prev == y.prev && (x.batch == y.batch && (x.root == y.root && x.state == y.state)))))
  ·refine gq57 (ze hd (ze hgx (ze hgy h2))) ?_
   rw [← hS]
   refine zw hl ?_
   refine fin _ (decide_eq_false fun h => ?_)
   subst h
   rw [hx] at hy
   rw [hxy.1 (Option.some.inj hy)] at h2;cases h2
  ·refine gq57 (ze hd (ze hgx (ze hgy (ze h2 (wk1 k (by omega)))))) ?_
   exact zaz.next hlt ⟨rfl,⟨_,hS.symm⟩,zbM hx hy htk (hxy.2 h2)⟩
 ·have hd:decide ((k:Int)<(a.length:Int))=false:=by simp;omega
  refine zB hd ?_
  refine zw hl ?_
  exact fin _ (decide_eq_true (zcH hl2 (k:=k) (by omega) htk))
theorem c_eqDig {σ:List zh} {a b:List Int} (ha1:a.length<=1073741824) {K:KT} (hK:K (.d (.bool (decide (a=b)))) σ) :
  zo Tryz.prog zci [.d (.slice (zpd a)),.d (.slice (zpd b))] σ K:=by
 refine zd zdI.is rfl fun hl _=>zdI.goes ?_
 have fin:∀ z,decide (a=b)=z->K (.d (.bool z)) σ:=fun z h=>h ▸ hK
 clear hK
 simp only [zdN,iN,bT,bF,eN]
 cases hl0:((a.length:Int) != (b.length:Int))
 rotate_left
 ·refine zB hl0 ?_
  refine zw hl ?_
  refine fin _ (decide_eq_false fun h => ?_)
  rw [h] at hl0;simp at hl0
 have hl2:a.length=b.length:=by simp at hl0;omega
 refine zB hl0 ?_
 refine zm a.length (fun k vs s=>vs = [.d (.int .i64 k)]/\(∃ T,s = σ++T)/\a.take k=b.take k) ⟨rfl,⟨[],by simp⟩,by simp⟩ ?_
 rintro k vs s hk ⟨rfl,⟨T,rfl⟩,htk⟩
 by_cases hlt:k<a.length
 ·have hd:decide ((k:Int)<(a.length:Int))=true:=by simp;omega
  have hx:a[k]? = some a[k]:=by simp [hlt]
  have hy:b[k]? = some (b[k]'(by omega)):=List.getElem?_eq_getElem _
  have hgx:=zR (f:=fun t => [D.int .i64 t]) hx
  have hgy:=zR (f:=fun t => [D.int .i64 t]) hy
  obtain ⟨x,hxe⟩:∃ x,a[k]=x:=⟨_,rfl⟩
  obtain ⟨y,hye⟩:∃ y,(b[k]'(by omega))=y:=⟨_,rfl⟩
  rw [hxe] at hx hgx
  rw [hye] at hy hgy
  obtain ⟨S,hS⟩:∃ S, σ++T=S:=⟨_,rfl⟩
  rw [hS]
  have hxy:x=y ↔ (x == y)=true:=by simp
  cases h2:(x == y)
  ·refine gq57 (ze hd (ze hgx (ze hgy h2))) ?_
   rw [← hS]
   refine zw hl ?_
   refine fin _ (decide_eq_false fun h => ?_)
   subst h
   rw [hx] at hy
   rw [hxy.1 (Option.some.inj hy)] at h2;cases h2
  ·refine gq57 (ze hd (ze hgx (ze hgy (ze h2 (wk1 k (by omega)))))) ?_
   exact zaz.next hlt ⟨rfl,⟨_,hS.symm⟩,zbM hx hy htk (hxy.2 h2)⟩
 ·have hd:decide ((k:Int)<(a.length:Int))=false:=by simp;omega
  refine zB hd ?_
  refine zw hl ?_
  exact fin _ (decide_eq_true (zcH hl2 (k:=k) (by omega) htk))
structure zrf (p:zcb):Prop where
 signs:p.signs.length<=1073741824
 batch:ziK p.batch
structure zjM (c:zU):Prop where
 signs:c.cert.signs.length<=1073741824
 above:c.above.length<=1073741824
 each:∀ p ∈ c.above,zrf p
def zti (x:zbL):Prop:=ziK x.batch
abbrev zwa (x:zbL):AV := .agg [.d (.int .i64 x.view),.d (.int .i64 x.seq),.d (.slice (zbj x.batch)),.d (.int .i64 x.key),.d (.int .i64 x.dig)]
theorem zrF {σ:List zh} {a b:zft} (ha:a.signs.length<=1073741824) {K:KT} (hK:K (.d (.bool (decide (a=b)))) σ):zo Tryz.prog zeo [zgc a,zgc b] σ K:=by
 refine zd zlu.is rfl fun hl _=>zlu.goes ?_
 have fin:∀ z,decide (a=b)=z->K (.d (.bool z)) σ:=fun z h=>h ▸ hK
 clear hK
 simp only [zlI,iN,bT,bF,eN]
 cases h1:(a.seq == b.seq)
 ·refine zB h1 ?_
  refine zw hl ?_
  exact fin _ (decide_eq_false fun h=>by subst h;simp at h1)
 cases h2:(a.dig == b.dig)
 ·refine zB (ze h1 h2) ?_
  refine zw hl ?_
  exact fin _ (decide_eq_false fun h=>by subst h;simp at h2)
 refine zB (ze h1 h2) ?_
 refine c_eqSign ha ?_
 cases h3:decide (a.signs=b.signs)
 ·refine zab ?_
  refine zw hl ?_
  exact fin _ (decide_eq_false fun h=>by subst h;simp at h3)
 ·refine zab ?_
  refine zw hl ?_
  exact fin _ (decide_eq_true (by cases a;cases b;simp_all))
theorem c_mSamePrep {σ:List zh} {a b:zcb} (ha:zrf a) (hb:zrf b) {K:KT} (hK:K (.d (.bool (decide (a=b)))) σ) :
  zo Tryz.prog zeb [.agg [.d (.int .i64 a.view),.d (.int .i64 a.seq),.d (.int .i64 a.dig),.d (.int .i64 a.fkey),.d (.int .i64 a.fdig),.d (.slice (zap a.signs)),.d (.slice (zbj a.batch))],.agg [.d (.int .i64 b.view),.d (.int .i64 b.seq),.d (.int .i64 b.dig),.d (.int .i64 b.fkey),.d (.int .i64 b.fdig),.d (.slice (zap b.signs)),.d (.slice (zbj b.batch))]] σ K:=by
 refine zd zhQ.is rfl fun hl _=>zhQ.goes ?_
 have fin:∀ z,decide (a=b)=z->K (.d (.bool z)) σ:=fun z h=>h ▸ hK
 clear hK
 simp only [zia,iN,bT,bF,eN]
 cases h1:(a.view == b.view)
 ·refine zB h1 ?_
  refine zw hl ?_
  exact fin _ (decide_eq_false fun h=>by subst h;simp at h1)
 cases h2:(a.seq == b.seq)
 ·refine zB (ze h1 h2) ?_
  refine zw hl ?_
  exact fin _ (decide_eq_false fun h=>by subst h;simp at h2)
 cases h3:(a.dig == b.dig)
 ·refine zB (ze h1 (ze h2 h3)) ?_
  refine zw hl ?_
  exact fin _ (decide_eq_false fun h=>by subst h;simp at h3)
 cases h4:(a.fkey == b.fkey && a.fdig == b.fdig)
 ·refine zhH (ze h1 (ze h2 (ze h3 h4))) ?_
  refine zw hl ?_
  exact fin _ (decide_eq_false fun h=>by subst h;simp at h4)
 refine zhH (ze h1 (ze h2 (ze h3 h4))) ?_
 refine c_eqSign ha.signs ?_
 cases h5:decide (a.signs=b.signs)
 ·refine zab ?_
  refine zw hl ?_
  exact fin _ (decide_eq_false fun h=>by subst h;simp at h5)
 refine zab ?_
 refine zwH ha.batch hb.batch ?_
 cases h6:decide (a.batch=b.batch)
 ·refine zab ?_
  refine zw hl ?_
  exact fin _ (decide_eq_false fun h=>by subst h;simp at h6)
 ·refine zab ?_
  refine zw hl ?_
  exact fin _ (decide_eq_true (by cases a;cases b;simp_all))
theorem c_eqPreps {σ:List zh} {a b:List zcb} (ha1:a.length<=1073741824) (ha2:∀ x ∈ a,zrf x) (hb2:∀ x ∈ b,zrf x) {K:KT} (hK:K (.d (.bool (decide (a=b)))) σ) :
  zo Tryz.prog zau [.d (.slice (zeV a)),.d (.slice (zeV b)),.fn (.func zeb) [] []] σ K:=by
 refine zd zaQ.is rfl fun hl _=>zaQ.goes ?_
 have fin:∀ z,decide (a=b)=z->K (.d (.bool z)) σ:=fun z h=>h ▸ hK
 clear hK
 simp only [zaR,iN,bT,bF,eN]
 cases hl0:((a.length:Int) != (b.length:Int))
 rotate_left
 ·refine zB hl0 ?_
  refine zw hl ?_
  refine fin _ (decide_eq_false fun h => ?_)
  rw [h] at hl0;simp at hl0
 have hl2:a.length=b.length:=by simp at hl0;omega
 refine zB hl0 ?_
 refine zm a.length (fun k vs s=>vs = [.d (.int .i64 k)]/\(∃ T,s = σ++T)/\a.take k=b.take k) ⟨rfl,⟨[],by simp⟩,by simp⟩ ?_
 rintro k vs s hk ⟨rfl,⟨T,rfl⟩,htk⟩
 by_cases hlt:k<a.length
 ·have hd:decide ((k:Int)<(a.length:Int))=true:=by simp;omega
  have hx:a[k]? = some a[k]:=by simp [hlt]
  have hy:b[k]? = some (b[k]'(by omega)):=List.getElem?_eq_getElem _
  have hgx:=zR (f:=zew) hx
  have hgy:=zR (f:=zew) hy
  have hxs:=ha2 _ (List.getElem_mem hlt)
  have hys:=hb2 _ (List.getElem_mem (show k<b.length by omega))
  obtain ⟨x,hxe⟩:∃ x,a[k]=x:=⟨_,rfl⟩
  obtain ⟨y,hye⟩:∃ y,(b[k]'(by omega))=y:=⟨_,rfl⟩
  rw [hxe] at hx hgx hxs
  rw [hye] at hy hgy hys
  obtain ⟨S,hS⟩:∃ S, σ++T=S:=⟨_,rfl⟩
  rw [hS]
  refine zhH (ze hd (ze hgx hgy)) ?_
  refine c_mSamePrep (a:=x) (b:=y) hxs hys ?_
  cases he:decide (x=y)
  ·refine zB hd ?_
   rw [← hS,List.append_assoc]
   refine zw hl ?_
   refine fin _ (decide_eq_false fun h => ?_)
   subst h
   rw [hx] at hy
   have:=Option.some.inj hy
   simp [this] at he
  ·refine zB (wk1 k (by omega)) ?_
   exact zaz.next hlt ⟨rfl,⟨_,by rw [← hS,List.append_assoc]⟩,zbM hx hy htk (by simpa using he)⟩
 ·have hd:decide ((k:Int)<(a.length:Int))=false:=by simp;omega
  refine zB hd ?_
  refine zw hl ?_
  exact fin _ (decide_eq_true (zcH hl2 (k:=k) (by omega) htk))
theorem zAl {σ:List zh} {a b:zU} (ha:zjM a) (hb:zjM b) {K:KT} (hK:K (.d (.bool (decide (a=b)))) σ) :
  zo Tryz.prog zeT [.agg [.d (.int .i64 a.view),.d (.int .i64 a.src),.d (.int .i64 a.cert.seq),.d (.int .i64 a.cert.dig),.d (.slice (zap a.cert.signs)),.d (.slice (zeV a.above)),.d (.int .i64 a.key),.d (.int .i64 a.dig)],.agg [.d (.int .i64 b.view),.d (.int .i64 b.src),.d (.int .i64 b.cert.seq),.d (.int .i64 b.cert.dig),.d (.slice (zap b.cert.signs)),.d (.slice (zeV b.above)),.d (.int .i64 b.key),.d (.int .i64 b.dig)]] σ K:=by
 refine zd zjz.is rfl fun hl _=>zjz.goes ?_
 have fin:∀ z,decide (a=b)=z->K (.d (.bool z)) σ:=fun z h=>h ▸ hK
 clear hK
 simp only [zjH,iN,bT,bF,eN]
 cases h1:(a.view == b.view)
 ·refine zB h1 ?_
  refine zw hl ?_
  exact fin _ (decide_eq_false fun h=>by subst h;simp at h1)
 cases h2:(a.src == b.src)
 ·refine zB (ze h1 h2) ?_
  refine zw hl ?_
  exact fin _ (decide_eq_false fun h=>by subst h;simp at h2)
 refine zB (ze h1 h2) ?_
 refine zrF (a:=a.cert) (b:=b.cert) ha.signs ?_
 cases h3:decide (a.cert=b.cert)
 ·refine zab ?_
  refine zw hl ?_
  exact fin _ (decide_eq_false fun h=>by subst h;simp at h3)
 refine zab ?_
 refine c_eqPreps ha.above ha.each hb.each ?_
 cases h4:decide (a.above=b.above)
 ·refine zab ?_
  refine zw hl ?_
  exact fin _ (decide_eq_false fun h=>by subst h;simp at h4)
 cases h5:(a.key == b.key && a.dig == b.dig)
 ·refine zhH h5 ?_
  refine zw hl ?_
  exact fin _ (decide_eq_false fun h=>by subst h;simp at h5)
 ·refine zhH h5 ?_
  refine zw hl ?_
  exact fin _ (decide_eq_true (by cases a;cases b;simp_all))
theorem c_eqChanges {σ:List zh} {a b:List zU} (ha1:a.length<=1073741824) (ha2:∀ x ∈ a,zjM x) (hb2:∀ x ∈ b,zjM x) {K:KT} (hK:K (.d (.bool (decide (a=b)))) σ) :
  zo Tryz.prog zaC [.d (.slice (zan a)),.d (.slice (zan b)),.fn (.func zeT) [] []] σ K:=by
 refine zd zbi.is rfl fun hl _=>zbi.goes ?_
 have fin:∀ z,decide (a=b)=z->K (.d (.bool z)) σ:=fun z h=>h ▸ hK
 clear hK
 simp only [zbl,iN,bT,bF,eN]
 cases hl0:((a.length:Int) != (b.length:Int))
 rotate_left
 ·refine zB hl0 ?_
  refine zw hl ?_
  refine fin _ (decide_eq_false fun h => ?_)
  rw [h] at hl0;simp at hl0
 have hl2:a.length=b.length:=by simp at hl0;omega
 refine zB hl0 ?_
 refine zm a.length (fun k vs s=>vs = [.d (.int .i64 k)]/\(∃ T,s = σ++T)/\a.take k=b.take k) ⟨rfl,⟨[],by simp⟩,by simp⟩ ?_
 rintro k vs s hk ⟨rfl,⟨T,rfl⟩,htk⟩
 by_cases hlt:k<a.length
 ·have hd:decide ((k:Int)<(a.length:Int))=true:=by simp;omega
  have hx:a[k]? = some a[k]:=by simp [hlt]
  have hy:b[k]? = some (b[k]'(by omega)):=List.getElem?_eq_getElem _
  have hgx:=zR (f:=zaE) hx
  have hgy:=zR (f:=zaE) hy
  have hxs:=ha2 _ (List.getElem_mem hlt)
  have hys:=hb2 _ (List.getElem_mem (show k<b.length by omega))
  obtain ⟨x,hxe⟩:∃ x,a[k]=x:=⟨_,rfl⟩
  obtain ⟨y,hye⟩:∃ y,(b[k]'(by omega))=y:=⟨_,rfl⟩
  rw [hxe] at hx hgx hxs
  rw [hye] at hy hgy hys
  obtain ⟨S,hS⟩:∃ S, σ++T=S:=⟨_,rfl⟩
  rw [hS]
  refine zhH (ze hd (ze hgx hgy)) ?_
  refine zAl (a:=x) (b:=y) hxs hys ?_
  cases he:decide (x=y)
  ·refine zB hd ?_
   rw [← hS,List.append_assoc]
   refine zw hl ?_
   refine fin _ (decide_eq_false fun h => ?_)
   subst h
   rw [hx] at hy
   have:=Option.some.inj hy
   simp [this] at he
  ·refine zB (wk1 k (by omega)) ?_
   exact zaz.next hlt ⟨rfl,⟨_,by rw [← hS,List.append_assoc]⟩,zbM hx hy htk (by simpa using he)⟩
 ·have hd:decide ((k:Int)<(a.length:Int))=false:=by simp;omega
  refine zB hd ?_
  refine zw hl ?_
  exact fin _ (decide_eq_true (zcH hl2 (k:=k) (by omega) htk))
theorem c_mSameEntry {σ:List zh} {a b:zbL} (ha:zti a) (hb:zti b) {K:KT} (hK:K (.d (.bool (decide (a=b)))) σ) :
  zo Tryz.prog zfl [zwa a,zwa b] σ K:=by
 refine zd zkB.is rfl fun hl _=>zkB.goes ?_
 have fin:∀ z,decide (a=b)=z->K (.d (.bool z)) σ:=fun z h=>h ▸ hK
 clear hK
 simp only [zkR,iN,bT,bF,eN]
 cases h1:(a.view == b.view)
 ·refine zB h1 ?_
  refine zw hl ?_
  exact fin _ (decide_eq_false fun h=>by subst h;simp at h1)
 cases h2:(a.seq == b.seq)
 ·refine zB (ze h1 h2) ?_
  refine zw hl ?_
  exact fin _ (decide_eq_false fun h=>by subst h;simp at h2)
 refine zB (ze h1 h2) ?_
 refine zwH ha hb ?_
 cases h3:decide (a.batch=b.batch)
 ·refine zab ?_
  refine zw hl ?_
  exact fin _ (decide_eq_false fun h=>by subst h;simp at h3)
 cases h5:(a.key == b.key && a.dig == b.dig)
 ·refine zhH h5 ?_
  refine zw hl ?_
  exact fin _ (decide_eq_false fun h=>by subst h;simp at h5)
 ·refine zhH h5 ?_
  refine zw hl ?_
  exact fin _ (decide_eq_true (by cases a;cases b;simp_all))
theorem c_eqEntries {σ:List zh} {a b:List zbL} (ha1:a.length<=1073741824) (ha2:∀ x ∈ a,zti x) (hb2:∀ x ∈ b,zti x) {K:KT} (hK:K (.d (.bool (decide (a=b)))) σ) :
  zo Tryz.prog zaF [.d (.slice (zaw a)),.d (.slice (zaw b)),.fn (.func zfl) [] []] σ K:=by
 refine zd zbF.is rfl fun hl _=>zbF.goes ?_
 have fin:∀ z,decide (a=b)=z->K (.d (.bool z)) σ:=fun z h=>h ▸ hK
 clear hK
 simp only [zbG,iN,bT,bF,eN]
 cases hl0:((a.length:Int) != (b.length:Int))
 rotate_left
 ·refine zB hl0 ?_
  refine zw hl ?_
  refine fin _ (decide_eq_false fun h => ?_)
  rw [h] at hl0;simp at hl0
 have hl2:a.length=b.length:=by simp at hl0;omega
 refine zB hl0 ?_
 refine zm a.length (fun k vs s=>vs = [.d (.int .i64 k)]/\(∃ T,s = σ++T)/\a.take k=b.take k) ⟨rfl,⟨[],by simp⟩,by simp⟩ ?_
 rintro k vs s hk ⟨rfl,⟨T,rfl⟩,htk⟩
 by_cases hlt:k<a.length
 ·have hd:decide ((k:Int)<(a.length:Int))=true:=by simp;omega
  have hx:a[k]? = some a[k]:=by simp [hlt]
  have hy:b[k]? = some (b[k]'(by omega)):=List.getElem?_eq_getElem _
  have hgx:=zR (f:=zed) hx
  have hgy:=zR (f:=zed) hy
  have hxs:=ha2 _ (List.getElem_mem hlt)
  have hys:=hb2 _ (List.getElem_mem (show k<b.length by omega))
  obtain ⟨x,hxe⟩:∃ x,a[k]=x:=⟨_,rfl⟩
  obtain ⟨y,hye⟩:∃ y,(b[k]'(by omega))=y:=⟨_,rfl⟩
  rw [hxe] at hx hgx hxs
  rw [hye] at hy hgy hys
  obtain ⟨S,hS⟩:∃ S, σ++T=S:=⟨_,rfl⟩
  rw [hS]
  refine zhH (ze hd (ze hgx hgy)) ?_
  refine c_mSameEntry (a:=x) (b:=y) hxs hys ?_
  cases he:decide (x=y)
  ·refine zB hd ?_
   rw [← hS,List.append_assoc]
   refine zw hl ?_
   refine fin _ (decide_eq_false fun h => ?_)
   subst h
   rw [hx] at hy
   have:=Option.some.inj hy
   simp [this] at he
  ·refine zB (wk1 k (by omega)) ?_
   exact zaz.next hlt ⟨rfl,⟨_,by rw [← hS,List.append_assoc]⟩,zbM hx hy htk (by simpa using he)⟩
 ·have hd:decide ((k:Int)<(a.length:Int))=false:=by simp;omega
  refine zB hd ?_
  refine zw hl ?_
  exact fin _ (decide_eq_true (zcH hl2 (k:=k) (by omega) htk))
end Go.Proofs.YtpgahkdjkanblaaGreat
