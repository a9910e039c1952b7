/- Contracts: parts of messages that are the same, the program's. -/
import Derived.Test.YtpgahkdjkanblaaGreatSpPut
import Derived.Test.YtpgahkdjkanblaaGreatCk2
import Derived.Test.YtpgahkdjkanblaaGreatSpMsg
set_option linter.all false
set_option maxRecDepth 100000
namespace Go.Proofs.YtpgahkdjkanblaaGreat
open Go.AW
theorem zxP {A P Q:Prop} (a:A) (h:Q) (e:A->Hd Q->P:=by intro a h;(repeat' first|simp -dsimp only [↓zhL, ↓zbi, ↓zcI, ↓zhM, ↓zhF, ↓zhD, ↓zhG, ↓zhE, ↓zcN, ↓zcJ, ↓zcO, ↓zcK, ↓zhH, ↓zcH, ↓zcP, ↓zcL, ↓zcQ, ↓zcM, ↓zhC, ↓zhK, ↓zcG, ↓zcR, ↓zhz, ↓zhy, ↓zhB,iN,bT,bF,eN, ↓zdT, ↓unC, ↓zam, ↓zY, ↓zZ, ↓zae, ↓zax, ↓zag, ↓zeQ, ↓zap, ↓zaQ, ↓zW, ↓zg, ↓zh, ↓zcW, ↓zb, ↓zaC, ↓zG, ↓zbv, ↓zbE, ↓zc, ↓zE, ↓zq, ↓zK, ↓zao, ↓zft, ↓zfB, ↓zaL, ↓zaX, ↓zbm, ↓zbC, ↓zcj, ↓zI, ↓zaH, ↓zaa, ↓zM, ↓zaw,zfE,zcw,zcp,unA,zeT,bnd,zgq,zaA,zL,zga,dm,dm1,zw,zad,zgP,zgO,zH,Q0,Q1,Q2,Q3,Q4,Q5,zay,zB,zD,zT,zP,Q6,Q7,Q8,Q9,Q10,Q11,Q12,Q13,Q14,Nat.reduceAdd,Q15,Int.reduceToNat,Q16,Q17,Q18,Q19,Q20,reduceIte,Q21,Q22,zU,rep,zar,zgW,toD,zaz,Q23,Q24,Q25,Q26,Q27,Q28,Nat.reduceLeDiff,Q29,Nat.reduceSub,Q30,Q31,Q32,sc,Q33,Q34,Q35,Q36,Q37,Q26,Q38,Q39,zwb,zvY,zvV,zwc,zks,zvZ,zvW,zwa,zvX,zkr,zkt,zwl,zwm,Bool.not_true,Bool.not_false,List.length_map,Bool.and_false,Bool.and_self,Bool.false_and,Bool.not_false,Bool.not_true,Bool.true_and,Int.toNat_natCast,Int.toNat_zero,List.drop_zero,List.length_map,List.length_nil,List.nil_append,List.take_length,Nat.sub_zero,Nat.zero_add,Option.isSome_none,Option.isSome_some,Option.map_none,Option.map_some,zX,beq_self_eq_true,bft,bne,bne_self_eq_false,btf,zco,zdu,zat,zbh,hdrD,zdR,zlS,opA,zei,zfi,zfK,zaN,a]|with_reducible refine zxk ?_|fail);exact h.go):P:=e a ⟨h⟩
theorem c_eqSign {σ:List zd} {a b:List zy} (ha1:a.length<=1073741824) {K:KT} (hK:K (.d (.bool (decide (a=b)))) σ) :
  zj Tryz.prog zbH [.d (.slice (zO a)),.d (.slice (zO b))] σ K:=by
 refine zeE zhI fun hl => ?_
 have fin:∀ z,decide (a=b)=z->K (.d (.bool z)) σ:=fun z h=>h▸hK
 clear hK
 simp only [zeB,iN,bT,bF,eN]
 cases hl0:((a.length:Int) != (b.length:Int))
 rotate_left
 ·refine zA hl0 ?_
  refine zt hl ?_
  refine fin _ (decide_eq_false fun h => ?_)
  rw [h] at hl0;simp at hl0
 have hl2:a.length=b.length:=by simp at hl0;omega
 refine zA hl0 ?_
 refine zl a.length (fun k vs s=>vs = [.d (.int .i64 k)]/\(∃ T,s = σ++T)/\a.take k=b.take k) ⟨rfl,⟨[],by simp⟩,by simp⟩ ?_
 rintro k vs s hk ⟨rfl,⟨T,rfl⟩,htk⟩
 by_cases hlt:k<a.length
 ·have hd:decide ((k:Int)<(a.length:Int))=true:=by simp;omega
  have hx:a[k]? = some a[k]:=by simp [hlt]
  have hy:b[k]? = some (b[k]'(by omega)):=List.getElem?_eq_getElem _
  have hgx:=zF (f:=zfi) hx
  have hgy:=zF (f:=zfi) hy
  obtain ⟨x,hxe⟩:∃ x,a[k]=x:=⟨_,rfl⟩
  obtain ⟨y,hye⟩:∃ y,(b[k]'(by omega))=y:=⟨_,rfl⟩
  rw [hxe] at hx hgx
  rw [hye] at hy hgy
  obtain ⟨S,hS⟩:∃ S, σ++T=S:=⟨_,rfl⟩
  rw [hS]
  have hxy:x=y↔((x.key==y.key&&x.dig==y.dig))=true:=by cases x;cases y;simp
  cases h2:((x.key==y.key&&x.dig==y.dig))
  ·refine zxP (zo hd (zo hgx (zo hgy h2))) ?_
   rw [← hS]
   refine zt hl ?_
   refine fin _ (decide_eq_false fun h => ?_)
   subst h
   rw [hx] at hy
   rw [hxy.1 (Option.some.inj hy)] at h2;cases h2
  ·refine zxP (zo hd (zo hgx (zo hgy (zo h2 (wk1 k (by omega)))))) ?_
   exact zan.next hlt ⟨rfl,⟨_,hS.symm⟩,zby hx hy htk (hxy.2 h2)⟩
 ·have hd:decide ((k:Int)<(a.length:Int))=false:=by simp;omega
  refine zA hd ?_
  refine zt hl ?_
  exact fin _ (decide_eq_true (zcz hl2 (k:=k) (by omega) htk))
theorem c_eqHdr {σ:List zd} {a b:List THdr} (ha1:a.length<=1073741824) {K:KT} (hK:K (.d (.bool (decide (a=b)))) σ) :
  zj Tryz.prog zbV [.d (.slice (znX a)),.d (.slice (znX b))] σ K:=by
 refine zeE zgv fun hl => ?_
 have fin:∀ z,decide (a=b)=z->K (.d (.bool z)) σ:=fun z h=>h▸hK
 clear hK
 simp only [zdF,iN,bT,bF,eN]
 cases hl0:((a.length:Int) != (b.length:Int))
 rotate_left
 ·refine zA hl0 ?_
  refine zt hl ?_
  refine fin _ (decide_eq_false fun h => ?_)
  rw [h] at hl0;simp at hl0
 have hl2:a.length=b.length:=by simp at hl0;omega
 refine zA hl0 ?_
 refine zl a.length (fun k vs s=>vs = [.d (.int .i64 k)]/\(∃ T,s = σ++T)/\a.take k=b.take k) ⟨rfl,⟨[],by simp⟩,by simp⟩ ?_
 rintro k vs s hk ⟨rfl,⟨T,rfl⟩,htk⟩
 by_cases hlt:k<a.length
 ·have hd:decide ((k:Int)<(a.length:Int))=true:=by simp;omega
  have hx:a[k]? = some a[k]:=by simp [hlt]
  have hy:b[k]? = some (b[k]'(by omega)):=List.getElem?_eq_getElem _
  have hgx:=zF (f:=hdrD) hx
  have hgy:=zF (f:=hdrD) hy
  obtain ⟨x,hxe⟩:∃ x,a[k]=x:=⟨_,rfl⟩
  obtain ⟨y,hye⟩:∃ y,(b[k]'(by omega))=y:=⟨_,rfl⟩
  rw [hxe] at hx hgx
  rw [hye] at hy hgy
  obtain ⟨S,hS⟩:∃ S, σ++T=S:=⟨_,rfl⟩
  rw [hS]
  have hxy:x=y↔((x.seq==y.seq&&(x.prev==y.prev&&(x.batch==y.batch&&(x.root==y.root&&x.state==y.state)))))=true:=by cases x;cases y;simp
  cases h2:((x.seq==y.seq&&(x.prev==y.prev&&(x.batch==y.batch&&(x.root==y.root&&x.state==y.state)))))
  ·refine zxP (zo hd (zo hgx (zo hgy h2))) ?_
   rw [← hS]
   refine zt hl ?_
   refine fin _ (decide_eq_false fun h => ?_)
   subst h
   rw [hx] at hy
   rw [hxy.1 (Option.some.inj hy)] at h2;cases h2
  ·refine zxP (zo hd (zo hgx (zo hgy (zo h2 (wk1 k (by omega)))))) ?_
   exact zan.next hlt ⟨rfl,⟨_,hS.symm⟩,zby hx hy htk (hxy.2 h2)⟩
 ·have hd:decide ((k:Int)<(a.length:Int))=false:=by simp;omega
  refine zA hd ?_
  refine zt hl ?_
  exact fin _ (decide_eq_true (zcz hl2 (k:=k) (by omega) htk))
theorem c_eqDig {σ:List zd} {a b:List Int} (ha1:a.length<=1073741824) {K:KT} (hK:K (.d (.bool (decide (a=b)))) σ) :
  zj Tryz.prog zbW [.d (.slice (ziN a)),.d (.slice (ziN b))] σ K:=by
 refine zeE zgw fun hl => ?_
 have fin:∀ z,decide (a=b)=z->K (.d (.bool z)) σ:=fun z h=>h▸hK
 clear hK
 simp only [zdG,iN,bT,bF,eN]
 cases hl0:((a.length:Int) != (b.length:Int))
 rotate_left
 ·refine zA hl0 ?_
  refine zt hl ?_
  refine fin _ (decide_eq_false fun h => ?_)
  rw [h] at hl0;simp at hl0
 have hl2:a.length=b.length:=by simp at hl0;omega
 refine zA hl0 ?_
 refine zl a.length (fun k vs s=>vs = [.d (.int .i64 k)]/\(∃ T,s = σ++T)/\a.take k=b.take k) ⟨rfl,⟨[],by simp⟩,by simp⟩ ?_
 rintro k vs s hk ⟨rfl,⟨T,rfl⟩,htk⟩
 by_cases hlt:k<a.length
 ·have hd:decide ((k:Int)<(a.length:Int))=true:=by simp;omega
  have hx:a[k]? = some a[k]:=by simp [hlt]
  have hy:b[k]? = some (b[k]'(by omega)):=List.getElem?_eq_getElem _
  have hgx:=zF (f:=fun t => [D.int .i64 t]) hx
  have hgy:=zF (f:=fun t => [D.int .i64 t]) hy
  obtain ⟨x,hxe⟩:∃ x,a[k]=x:=⟨_,rfl⟩
  obtain ⟨y,hye⟩:∃ y,(b[k]'(by omega))=y:=⟨_,rfl⟩
  rw [hxe] at hx hgx
  rw [hye] at hy hgy
  obtain ⟨S,hS⟩:∃ S, σ++T=S:=⟨_,rfl⟩
  rw [hS]
  have hxy:x=y↔(x==y)=true:=by simp
  cases h2:(x==y)
  ·refine zxP (zo hd (zo hgx (zo hgy h2))) ?_
   rw [← hS]
   refine zt hl ?_
   refine fin _ (decide_eq_false fun h => ?_)
   subst h
   rw [hx] at hy
   rw [hxy.1 (Option.some.inj hy)] at h2;cases h2
  ·refine zxP (zo hd (zo hgx (zo hgy (zo h2 (wk1 k (by omega)))))) ?_
   exact zan.next hlt ⟨rfl,⟨_,hS.symm⟩,zby hx hy htk (hxy.2 h2)⟩
 ·have hd:decide ((k:Int)<(a.length:Int))=false:=by simp;omega
  refine zA hd ?_
  refine zt hl ?_
  exact fin _ (decide_eq_true (zcz hl2 (k:=k) (by omega) htk))
structure zqH (p:zbO):Prop where
 signs:p.signs.length<=1073741824
 batch:zhN p.batch
structure zjF (c:zJ):Prop where
 signs:c.cert.signs.length<=1073741824
 above:c.above.length<=1073741824
 each:∀ p∈c.above,zqH p
def zlA (x:zaI):Prop:=zhN x.batch
abbrev zoI (x:zaI):AV := .agg [.d (.int .i64 x.view),.d (.int .i64 x.seq),.d (.slice (zaP x.batch)),.d (.int .i64 x.key),.d (.int .i64 x.dig)]
theorem zrs {σ:List zd} {a b:zeP} (ha:a.signs.length<=1073741824) {K:KT} (hK:K (.d (.bool (decide (a=b)))) σ):zj Tryz.prog zel [zdu a,zdu b] σ K:=by
 refine zeE zsm fun hl => ?_
 have fin:∀ z,decide (a=b)=z->K (.d (.bool z)) σ:=fun z h=>h▸hK
 clear hK
 simp only [zlv,iN,bT,bF,eN]
 cases h1:(a.seq==b.seq)
 ·refine zA h1 ?_
  refine zt hl ?_
  exact fin _ (decide_eq_false fun h=>by subst h;simp at h1)
 cases h2:(a.dig==b.dig)
 ·refine zA (zo h1 h2) ?_
  refine zt hl ?_
  exact fin _ (decide_eq_false fun h=>by subst h;simp at h2)
 refine zA (zo h1 h2) ?_
 refine c_eqSign ha ?_
 cases h3:decide (a.signs=b.signs)
 ·refine zQ ?_
  refine zt hl ?_
  exact fin _ (decide_eq_false fun h=>by subst h;simp at h3)
 ·refine zQ ?_
  refine zt hl ?_
  exact fin _ (decide_eq_true (by cases a;cases b;simp_all))
theorem c_mSamePrep {σ:List zd} {a b:zbO} (ha:zqH a) (hb:zqH b) {K:KT} (hK:K (.d (.bool (decide (a=b)))) σ) :
  zj Tryz.prog zdV [.agg [.d (.int .i64 a.view),.d (.int .i64 a.seq),.d (.int .i64 a.dig),.d (.int .i64 a.fkey),.d (.int .i64 a.fdig),.d (.slice (zO a.signs)),.d (.slice (zaP a.batch))],.agg [.d (.int .i64 b.view),.d (.int .i64 b.seq),.d (.int .i64 b.dig),.d (.int .i64 b.fkey),.d (.int .i64 b.fdig),.d (.slice (zO b.signs)),.d (.slice (zaP b.batch))]] σ K:=by
 refine zeE zoe fun hl => ?_
 have fin:∀ z,decide (a=b)=z->K (.d (.bool z)) σ:=fun z h=>h▸hK
 clear hK
 simp only [zib,iN,bT,bF,eN]
 cases h1:(a.view==b.view)
 ·refine zA h1 ?_
  refine zt hl ?_
  exact fin _ (decide_eq_false fun h=>by subst h;simp at h1)
 cases h2:(a.seq==b.seq)
 ·refine zA (zo h1 h2) ?_
  refine zt hl ?_
  exact fin _ (decide_eq_false fun h=>by subst h;simp at h2)
 cases h3:(a.dig==b.dig)
 ·refine zA (zo h1 (zo h2 h3)) ?_
  refine zt hl ?_
  exact fin _ (decide_eq_false fun h=>by subst h;simp at h3)
 cases h4:(a.fkey==b.fkey&&a.fdig==b.fdig)
 ·refine zfG (zo h1 (zo h2 (zo h3 h4))) ?_
  refine zt hl ?_
  exact fin _ (decide_eq_false fun h=>by subst h;simp at h4)
 refine zfG (zo h1 (zo h2 (zo h3 h4))) ?_
 refine c_eqSign ha.signs ?_
 cases h5:decide (a.signs=b.signs)
 ·refine zQ ?_
  refine zt hl ?_
  exact fin _ (decide_eq_false fun h=>by subst h;simp at h5)
 refine zQ ?_
 refine zsu ha.batch hb.batch ?_
 cases h6:decide (a.batch=b.batch)
 ·refine zQ ?_
  refine zt hl ?_
  exact fin _ (decide_eq_false fun h=>by subst h;simp at h6)
 ·refine zQ ?_
  refine zt hl ?_
  exact fin _ (decide_eq_true (by cases a;cases b;simp_all))
theorem c_eqPreps {σ:List zd} {a b:List zbO} (ha1:a.length<=1073741824) (ha2:∀ x∈a,zqH x) (hb2:∀ x∈b,zqH x) {K:KT} (hK:K (.d (.bool (decide (a=b)))) σ) :
  zj Tryz.prog zal [.d (.slice (zdC a)),.d (.slice (zdC b)),.fn (.func zdV) [] []] σ K:=by
 refine zyo zbS fun hl => ?_
 have fin:∀ z,decide (a=b)=z->K (.d (.bool z)) σ:=fun z h=>h▸hK
 clear hK
 simp only [zaS,iN,bT,bF,eN,zl3]
 cases hl0:((a.length:Int) != (b.length:Int))
 rotate_left
 ·refine zA hl0 ?_
  refine zt hl ?_
  refine fin _ (decide_eq_false fun h => ?_)
  rw [h] at hl0;simp at hl0
 have hl2:a.length=b.length:=by simp at hl0;omega
 refine zA hl0 ?_
 refine zl a.length (fun k vs s=>vs = [.d (.int .i64 k)]/\(∃ T,s = σ++T)/\a.take k=b.take k) ⟨rfl,⟨[],by simp⟩,by simp⟩ ?_
 rintro k vs s hk ⟨rfl,⟨T,rfl⟩,htk⟩
 by_cases hlt:k<a.length
 ·have hd:decide ((k:Int)<(a.length:Int))=true:=by simp;omega
  have hx:a[k]? = some a[k]:=by simp [hlt]
  have hy:b[k]? = some (b[k]'(by omega)):=List.getElem?_eq_getElem _
  have hgx:=zF (f:=zei) hx
  have hgy:=zF (f:=zei) hy
  have hxs:=ha2 _ (List.getElem_mem hlt)
  have hys:=hb2 _ (List.getElem_mem (show k<b.length by omega))
  obtain ⟨x,hxe⟩:∃ x,a[k]=x:=⟨_,rfl⟩
  obtain ⟨y,hye⟩:∃ y,(b[k]'(by omega))=y:=⟨_,rfl⟩
  rw [hxe] at hx hgx hxs
  rw [hye] at hy hgy hys
  obtain ⟨S,hS⟩:∃ S, σ++T=S:=⟨_,rfl⟩
  rw [hS]
  refine zfG (zo hd (zo hgx hgy)) ?_
  refine c_mSamePrep (a:=x) (b:=y) hxs hys ?_
  cases he:decide (x=y)
  ·refine zA hd ?_
   rw [← hS,List.append_assoc]
   refine zt hl ?_
   refine fin _ (decide_eq_false fun h => ?_)
   subst h
   rw [hx] at hy
   have:=Option.some.inj hy
   simp [this] at he
  ·refine zA (wk1 k (by omega)) ?_
   exact zan.next hlt ⟨rfl,⟨_,by rw [← hS,List.append_assoc]⟩,zby hx hy htk (by simpa using he)⟩
 ·have hd:decide ((k:Int)<(a.length:Int))=false:=by simp;omega
  refine zA hd ?_
  refine zt hl ?_
  exact fin _ (decide_eq_true (zcz hl2 (k:=k) (by omega) htk))
theorem zAM {σ:List zd} {a b:zJ} (ha:zjF a) (hb:zjF b) {K:KT} (hK:K (.d (.bool (decide (a=b)))) σ) :
  zj Tryz.prog zeF [.agg [.d (.int .i64 a.view),.d (.int .i64 a.src),.d (.int .i64 a.cert.seq),.d (.int .i64 a.cert.dig),.d (.slice (zO a.cert.signs)),.d (.slice (zdC a.above)),.d (.int .i64 a.key),.d (.int .i64 a.dig)],.agg [.d (.int .i64 b.view),.d (.int .i64 b.src),.d (.int .i64 b.cert.seq),.d (.int .i64 b.cert.dig),.d (.slice (zO b.cert.signs)),.d (.slice (zdC b.above)),.d (.int .i64 b.key),.d (.int .i64 b.dig)]] σ K:=by
 refine zeE zqb fun hl => ?_
 have fin:∀ z,decide (a=b)=z->K (.d (.bool z)) σ:=fun z h=>h▸hK
 clear hK
 simp only [zjA,iN,bT,bF,eN]
 cases h1:(a.view==b.view)
 ·refine zA h1 ?_
  refine zt hl ?_
  exact fin _ (decide_eq_false fun h=>by subst h;simp at h1)
 cases h2:(a.src==b.src)
 ·refine zA (zo h1 h2) ?_
  refine zt hl ?_
  exact fin _ (decide_eq_false fun h=>by subst h;simp at h2)
 refine zA (zo h1 h2) ?_
 refine zrs (a:=a.cert) (b:=b.cert) ha.signs ?_
 cases h3:decide (a.cert=b.cert)
 ·refine zQ ?_
  refine zt hl ?_
  exact fin _ (decide_eq_false fun h=>by subst h;simp at h3)
 refine zQ ?_
 refine c_eqPreps ha.above ha.each hb.each ?_
 cases h4:decide (a.above=b.above)
 ·refine zQ ?_
  refine zt hl ?_
  exact fin _ (decide_eq_false fun h=>by subst h;simp at h4)
 cases h5:(a.key==b.key&&a.dig==b.dig)
 ·refine zfG h5 ?_
  refine zt hl ?_
  exact fin _ (decide_eq_false fun h=>by subst h;simp at h5)
 ·refine zfG h5 ?_
  refine zt hl ?_
  exact fin _ (decide_eq_true (by cases a;cases b;simp_all))
theorem c_eqChanges {σ:List zd} {a b:List zJ} (ha1:a.length<=1073741824) (ha2:∀ x∈a,zjF x) (hb2:∀ x∈b,zjF x) {K:KT} (hK:K (.d (.bool (decide (a=b)))) σ) :
  zj Tryz.prog zav [.d (.slice (zR a)),.d (.slice (zR b)),.fn (.func zeF) [] []] σ K:=by
 refine zyo zcE fun hl => ?_
 have fin:∀ z,decide (a=b)=z->K (.d (.bool z)) σ:=fun z h=>h▸hK
 clear hK
 simp only [zbe,iN,bT,bF,eN,zl4]
 cases hl0:((a.length:Int) != (b.length:Int))
 rotate_left
 ·refine zA hl0 ?_
  refine zt hl ?_
  refine fin _ (decide_eq_false fun h => ?_)
  rw [h] at hl0;simp at hl0
 have hl2:a.length=b.length:=by simp at hl0;omega
 refine zA hl0 ?_
 refine zl a.length (fun k vs s=>vs = [.d (.int .i64 k)]/\(∃ T,s = σ++T)/\a.take k=b.take k) ⟨rfl,⟨[],by simp⟩,by simp⟩ ?_
 rintro k vs s hk ⟨rfl,⟨T,rfl⟩,htk⟩
 by_cases hlt:k<a.length
 ·have hd:decide ((k:Int)<(a.length:Int))=true:=by simp;omega
  have hx:a[k]? = some a[k]:=by simp [hlt]
  have hy:b[k]? = some (b[k]'(by omega)):=List.getElem?_eq_getElem _
  have hgx:=zF (f:=zat) hx
  have hgy:=zF (f:=zat) hy
  have hxs:=ha2 _ (List.getElem_mem hlt)
  have hys:=hb2 _ (List.getElem_mem (show k<b.length by omega))
  obtain ⟨x,hxe⟩:∃ x,a[k]=x:=⟨_,rfl⟩
  obtain ⟨y,hye⟩:∃ y,(b[k]'(by omega))=y:=⟨_,rfl⟩
  rw [hxe] at hx hgx hxs
  rw [hye] at hy hgy hys
  obtain ⟨S,hS⟩:∃ S, σ++T=S:=⟨_,rfl⟩
  rw [hS]
  refine zfG (zo hd (zo hgx hgy)) ?_
  refine zAM (a:=x) (b:=y) hxs hys ?_
  cases he:decide (x=y)
  ·refine zA hd ?_
   rw [← hS,List.append_assoc]
   refine zt hl ?_
   refine fin _ (decide_eq_false fun h => ?_)
   subst h
   rw [hx] at hy
   have:=Option.some.inj hy
   simp [this] at he
  ·refine zA (wk1 k (by omega)) ?_
   exact zan.next hlt ⟨rfl,⟨_,by rw [← hS,List.append_assoc]⟩,zby hx hy htk (by simpa using he)⟩
 ·have hd:decide ((k:Int)<(a.length:Int))=false:=by simp;omega
  refine zA hd ?_
  refine zt hl ?_
  exact fin _ (decide_eq_true (zcz hl2 (k:=k) (by omega) htk))
theorem c_mSameEntry {σ:List zd} {a b:zaI} (ha:zlA a) (hb:zlA b) {K:KT} (hK:K (.d (.bool (decide (a=b)))) σ) :
  zj Tryz.prog zeZ [zoI a,zoI b] σ K:=by
 refine zeE zrf fun hl => ?_
 have fin:∀ z,decide (a=b)=z->K (.d (.bool z)) σ:=fun z h=>h▸hK
 clear hK
 simp only [zkM,iN,bT,bF,eN]
 cases h1:(a.view==b.view)
 ·refine zA h1 ?_
  refine zt hl ?_
  exact fin _ (decide_eq_false fun h=>by subst h;simp at h1)
 cases h2:(a.seq==b.seq)
 ·refine zA (zo h1 h2) ?_
  refine zt hl ?_
  exact fin _ (decide_eq_false fun h=>by subst h;simp at h2)
 refine zA (zo h1 h2) ?_
 refine zsu ha hb ?_
 cases h3:decide (a.batch=b.batch)
 ·refine zQ ?_
  refine zt hl ?_
  exact fin _ (decide_eq_false fun h=>by subst h;simp at h3)
 cases h5:(a.key==b.key&&a.dig==b.dig)
 ·refine zfG h5 ?_
  refine zt hl ?_
  exact fin _ (decide_eq_false fun h=>by subst h;simp at h5)
 ·refine zfG h5 ?_
  refine zt hl ?_
  exact fin _ (decide_eq_true (by cases a;cases b;simp_all))
theorem c_eqEntries {σ:List zd} {a b:List zaI} (ha1:a.length<=1073741824) (ha2:∀ x∈a,zlA x) (hb2:∀ x∈b,zlA x) {K:KT} (hK:K (.d (.bool (decide (a=b)))) σ) :
  zj Tryz.prog zaE [.d (.slice (zu a)),.d (.slice (zu b)),.fn (.func zeZ) [] []] σ K:=by
 refine zyo zdj fun hl => ?_
 have fin:∀ z,decide (a=b)=z->K (.d (.bool z)) σ:=fun z h=>h▸hK
 clear hK
 simp only [zbp,iN,bT,bF,eN]
 cases hl0:((a.length:Int) != (b.length:Int))
 rotate_left
 ·refine zA hl0 ?_
  refine zt hl ?_
  refine fin _ (decide_eq_false fun h => ?_)
  rw [h] at hl0;simp at hl0
 have hl2:a.length=b.length:=by simp at hl0;omega
 refine zA hl0 ?_
 refine zl a.length (fun k vs s=>vs = [.d (.int .i64 k)]/\(∃ T,s = σ++T)/\a.take k=b.take k) ⟨rfl,⟨[],by simp⟩,by simp⟩ ?_
 rintro k vs s hk ⟨rfl,⟨T,rfl⟩,htk⟩
 by_cases hlt:k<a.length
 ·have hd:decide ((k:Int)<(a.length:Int))=true:=by simp;omega
  have hx:a[k]? = some a[k]:=by simp [hlt]
  have hy:b[k]? = some (b[k]'(by omega)):=List.getElem?_eq_getElem _
  have hgx:=zF (f:=zbh) hx
  have hgy:=zF (f:=zbh) hy
  have hxs:=ha2 _ (List.getElem_mem hlt)
  have hys:=hb2 _ (List.getElem_mem (show k<b.length by omega))
  obtain ⟨x,hxe⟩:∃ x,a[k]=x:=⟨_,rfl⟩
  obtain ⟨y,hye⟩:∃ y,(b[k]'(by omega))=y:=⟨_,rfl⟩
  rw [hxe] at hx hgx hxs
  rw [hye] at hy hgy hys
  obtain ⟨S,hS⟩:∃ S, σ++T=S:=⟨_,rfl⟩
  rw [hS]
  refine zfG (zo hd (zo hgx hgy)) ?_
  refine c_mSameEntry (a:=x) (b:=y) hxs hys ?_
  cases he:decide (x=y)
  ·refine zA hd ?_
   rw [← hS,List.append_assoc]
   refine zt hl ?_
   refine fin _ (decide_eq_false fun h => ?_)
   subst h
   rw [hx] at hy
   have:=Option.some.inj hy
   simp [this] at he
  ·refine zA (wk1 k (by omega)) ?_
   exact zan.next hlt ⟨rfl,⟨_,by rw [← hS,List.append_assoc]⟩,zby hx hy htk (by simpa using he)⟩
 ·have hd:decide ((k:Int)<(a.length:Int))=false:=by simp;omega
  refine zA hd ?_
  refine zt hl ?_
  exact fin _ (decide_eq_true (zcz hl2 (k:=k) (by omega) htk))
end Go.Proofs.YtpgahkdjkanblaaGreat
