/- Contracts: parts of messages that are the same, the program's. -/
import Derived.Test.YtfgbofkdhfjegaaGreatBt3
import Derived.Test.YtfgbofkdhfjegaaGreatPt2
set_option linter.all false
set_option maxRecDepth 100000
namespace Go.Proofs.YtfgbofkdhfjegaaGreat
open Go.AW
theorem gq43 {A P Q:Prop} (a:A) (h:Q) (e:A->Hd Q->P:=by intro a h;(repeat' first|simp -dsimp only [↓zft, ↓zaH, ↓zbG, ↓zfu, ↓zfo, ↓zfm, ↓zfp, ↓zfn, ↓zbL, ↓zbH, ↓zbM, ↓zbI, ↓zfq, ↓zbF, ↓zbN, ↓zbJ, ↓zbO, ↓zbK, ↓zfl, ↓zfr, ↓zbE, ↓zbP, ↓zfd, ↓zfc, ↓zfk,iN,bT,bF,eN, ↓zcQ, ↓unC, ↓zY, ↓zK, ↓zL, ↓zN, ↓zae, ↓zax, ↓zcK, ↓zaq, ↓zbh, ↓zR, ↓zp, ↓zm, ↓zbV, ↓zh, ↓zak, ↓zH, ↓zaR, ↓zaY, ↓ze, ↓zD, ↓zu, ↓zB, ↓zar, ↓zdk, ↓zdz, ↓zas, ↓zaD, ↓zaV, ↓zbf, ↓zbm, ↓zA, ↓zan, ↓zM, ↓zF, ↓zad,zdE,zbu,zbo,unA,zdC,bnd,zej,zag,zS,zeh,dm,dm1,zC,zah,zeF,zeE,zQ,Q0,Q1,Q2,Q3,Q4,Q5,zV,zx,zw,zO,zJ,Q6,Q7,Q8,Q9,Q10,Q11,Q12,Q13,Q14,Nat.reduceAdd,Q15,Int.reduceToNat,Q16,Q17,Q18,Q19,Q20,reduceIte,Q21,Q22,zG,rep,zZ,zeQ,toD,zal,Q23,Q24,Q25,Q26,Q27,Q28,Nat.reduceLeDiff,Q29,Nat.reduceSub,Q30,Q31,Q32,sc,Q33,Q34,Q35,Q36,Q37,Q26,Q38,Q39,ziR,ziO,ziL,ziS,zcX,ziP,ziM,ziQ,ziN,zcW,zcY,ziU,ziV,Bool.not_true,Bool.not_false,List.length_map,Bool.and_false,Bool.and_self,Bool.false_and,Bool.not_false,Bool.not_true,Bool.true_and,Int.toNat_natCast,Int.toNat_zero,List.drop_zero,List.length_map,List.length_nil,List.nil_append,List.take_length,Nat.sub_zero,Nat.zero_add,Option.isSome_none,Option.isSome_some,Option.map_none,Option.map_some,zaL,beq_self_eq_true,bft,bne,bne_self_eq_false,btf,zcr,zot,zes,zhp,hdrD,zdX,zfN,opA,znQ,zhI,zkD,zch,a]|with_reducible refine ziX ?_|fail);exact h.go):P:=e a ⟨h⟩
theorem c_eqSign {σ:List zg} {a b:List zI} (ha1:a.length<=1073741824) {K:KT} (hK:K (.d (.bool (decide (a=b)))) σ) :
  zr Tryz.prog zbi [.d (.slice (zaW a)),.d (.slice (zaW b))] σ K:=by
 refine zfP zgl fun hl => ?_
 have fin:∀ z,decide (a=b)=z->K (.d (.bool z)) σ:=fun z h=>h▸hK
 clear hK
 simp only [zdn,iN,bT,bF,eN]
 cases hl0:((a.length:Int) != (b.length:Int))
 rotate_left
 ·refine zbw hl0 ?_
  refine zT hl ?_
  refine fin _ (decide_eq_false fun h => ?_)
  rw [h] at hl0;simp at hl0
 have hl2:a.length=b.length:=by simp at hl0;omega
 refine zbw hl0 ?_
 refine zt a.length (fun k vs s=>vs = [.d (.int .i64 k)]/\(∃ T,s = σ++T)/\a.take k=b.take k) ⟨rfl,⟨[],by simp⟩,by simp⟩ ?_
 rintro k vs s hk ⟨rfl,⟨T,rfl⟩,htk⟩
 by_cases hlt:k<a.length
 ·have hd:decide ((k:Int)<(a.length:Int))=true:=by simp;omega
  have hx:a[k]? = some a[k]:=by simp [hlt]
  have hy:b[k]? = some (b[k]'(by omega)):=List.getElem?_eq_getElem _
  have hgx:=zP (f:=zhI) hx
  have hgy:=zP (f:=zhI) hy
  obtain ⟨x,hxe⟩:∃ x,a[k]=x:=⟨_,rfl⟩
  obtain ⟨y,hye⟩:∃ y,(b[k]'(by omega))=y:=⟨_,rfl⟩
  rw [hxe] at hx hgx
  rw [hye] at hy hgy
  obtain ⟨S,hS⟩:∃ S, σ++T=S:=⟨_,rfl⟩
  rw [hS]
  have hxy:x=y↔((x.key==y.key&&x.dig==y.dig))=true:=by cases x;cases y;simp
  cases h2:((x.key==y.key&&x.dig==y.dig))
  ·refine gq43 (zbb hd (zbb hgx (zbb hgy h2))) ?_
   rw [← hS]
   refine zT hl ?_
   refine fin _ (decide_eq_false fun h => ?_)
   subst h
   rw [hx] at hy
   rw [hxy.1 (Option.some.inj hy)] at h2;cases h2
  ·refine gq43 (zbb hd (zbb hgx (zbb hgy (zbb h2 (wk1 k (by omega)))))) ?_
   exact zaB.next hlt ⟨rfl,⟨_,hS.symm⟩,zdB hx hy htk (hxy.2 h2)⟩
 ·have hd:decide ((k:Int)<(a.length:Int))=false:=by simp;omega
  refine zbw hd ?_
  refine zT hl ?_
  exact fin _ (decide_eq_true (zfJ hl2 (k:=k) (by omega) htk))
theorem c_eqHdr {σ:List zg} {a b:List zcF} (ha1:a.length<=1073741824) {K:KT} (hK:K (.d (.bool (decide (a=b)))) σ) :
  zr Tryz.prog zby [.d (.slice (ziW a)),.d (.slice (ziW b))] σ K:=by
 refine zfP zeX fun hl => ?_
 have fin:∀ z,decide (a=b)=z->K (.d (.bool z)) σ:=fun z h=>h▸hK
 clear hK
 simp only [zcO,iN,bT,bF,eN]
 cases hl0:((a.length:Int) != (b.length:Int))
 rotate_left
 ·refine zbw hl0 ?_
  refine zT hl ?_
  refine fin _ (decide_eq_false fun h => ?_)
  rw [h] at hl0;simp at hl0
 have hl2:a.length=b.length:=by simp at hl0;omega
 refine zbw hl0 ?_
 refine zt a.length (fun k vs s=>vs = [.d (.int .i64 k)]/\(∃ T,s = σ++T)/\a.take k=b.take k) ⟨rfl,⟨[],by simp⟩,by simp⟩ ?_
 rintro k vs s hk ⟨rfl,⟨T,rfl⟩,htk⟩
 by_cases hlt:k<a.length
 ·have hd:decide ((k:Int)<(a.length:Int))=true:=by simp;omega
  have hx:a[k]? = some a[k]:=by simp [hlt]
  have hy:b[k]? = some (b[k]'(by omega)):=List.getElem?_eq_getElem _
  have hgx:=zP (f:=hdrD) hx
  have hgy:=zP (f:=hdrD) hy
  obtain ⟨x,hxe⟩:∃ x,a[k]=x:=⟨_,rfl⟩
  obtain ⟨y,hye⟩:∃ y,(b[k]'(by omega))=y:=⟨_,rfl⟩
  rw [hxe] at hx hgx
  rw [hye] at hy hgy
  obtain ⟨S,hS⟩:∃ S, σ++T=S:=⟨_,rfl⟩
  rw [hS]
  have hxy:x=y↔((x.seq==y.seq&&(x.prev==y.prev&&(x.batch==y.batch&&(x.root==y.root&&x.state==y.state)))))=true:=by cases x;cases y;simp
  cases h2:((x.seq==y.seq&&(x.prev==y.prev&&(x.batch==y.batch&&(x.root==y.root&&x.state==y.state)))))
  ·refine gq43 (zbb hd (zbb hgx (zbb hgy h2))) ?_
   rw [← hS]
   refine zT hl ?_
   refine fin _ (decide_eq_false fun h => ?_)
   subst h
   rw [hx] at hy
   rw [hxy.1 (Option.some.inj hy)] at h2;cases h2
  ·refine gq43 (zbb hd (zbb hgx (zbb hgy (zbb h2 (wk1 k (by omega)))))) ?_
   exact zaB.next hlt ⟨rfl,⟨_,hS.symm⟩,zdB hx hy htk (hxy.2 h2)⟩
 ·have hd:decide ((k:Int)<(a.length:Int))=false:=by simp;omega
  refine zbw hd ?_
  refine zT hl ?_
  exact fin _ (decide_eq_true (zfJ hl2 (k:=k) (by omega) htk))
theorem c_eqDig {σ:List zg} {a b:List Int} (ha1:a.length<=1073741824) {K:KT} (hK:K (.d (.bool (decide (a=b)))) σ) :
  zr Tryz.prog zbz [.d (.slice (zdA a)),.d (.slice (zdA b))] σ K:=by
 refine zfP zeY fun hl => ?_
 have fin:∀ z,decide (a=b)=z->K (.d (.bool z)) σ:=fun z h=>h▸hK
 clear hK
 simp only [zcP,iN,bT,bF,eN]
 cases hl0:((a.length:Int) != (b.length:Int))
 rotate_left
 ·refine zbw hl0 ?_
  refine zT hl ?_
  refine fin _ (decide_eq_false fun h => ?_)
  rw [h] at hl0;simp at hl0
 have hl2:a.length=b.length:=by simp at hl0;omega
 refine zbw hl0 ?_
 refine zt a.length (fun k vs s=>vs = [.d (.int .i64 k)]/\(∃ T,s = σ++T)/\a.take k=b.take k) ⟨rfl,⟨[],by simp⟩,by simp⟩ ?_
 rintro k vs s hk ⟨rfl,⟨T,rfl⟩,htk⟩
 by_cases hlt:k<a.length
 ·have hd:decide ((k:Int)<(a.length:Int))=true:=by simp;omega
  have hx:a[k]? = some a[k]:=by simp [hlt]
  have hy:b[k]? = some (b[k]'(by omega)):=List.getElem?_eq_getElem _
  have hgx:=zP (f:=fun t => [D.int .i64 t]) hx
  have hgy:=zP (f:=fun t => [D.int .i64 t]) hy
  obtain ⟨x,hxe⟩:∃ x,a[k]=x:=⟨_,rfl⟩
  obtain ⟨y,hye⟩:∃ y,(b[k]'(by omega))=y:=⟨_,rfl⟩
  rw [hxe] at hx hgx
  rw [hye] at hy hgy
  obtain ⟨S,hS⟩:∃ S, σ++T=S:=⟨_,rfl⟩
  rw [hS]
  have hxy:x=y↔(x==y)=true:=by simp
  cases h2:(x==y)
  ·refine gq43 (zbb hd (zbb hgx (zbb hgy h2))) ?_
   rw [← hS]
   refine zT hl ?_
   refine fin _ (decide_eq_false fun h => ?_)
   subst h
   rw [hx] at hy
   rw [hxy.1 (Option.some.inj hy)] at h2;cases h2
  ·refine gq43 (zbb hd (zbb hgx (zbb hgy (zbb h2 (wk1 k (by omega)))))) ?_
   exact zaB.next hlt ⟨rfl,⟨_,hS.symm⟩,zdB hx hy htk (hxy.2 h2)⟩
 ·have hd:decide ((k:Int)<(a.length:Int))=false:=by simp;omega
  refine zbw hd ?_
  refine zT hl ?_
  exact fin _ (decide_eq_true (zfJ hl2 (k:=k) (by omega) htk))
structure zsa (p:zoB):Prop where
 signs:p.signs.length<=1073741824
 batch:zoJ p.batch
structure zmF (c:zgg):Prop where
 signs:c.cert.signs.length<=1073741824
 above:c.above.length<=1073741824
 each:∀ p∈c.above,zsa p
def zsb (x:zmp):Prop:=zoJ x.batch
abbrev entryA (x:zmp):AV := .agg [.d (.int .i64 x.view),.d (.int .i64 x.seq),.d (.slice (zdm x.batch)),.d (.int .i64 x.key),.d (.int .i64 x.dig)]
theorem zow {σ:List zg} {a b:zfa} (ha:a.signs.length<=1073741824) {K:KT} (hK:K (.d (.bool (decide (a=b)))) σ):zr Tryz.prog zde [zot a,zot b] σ K:=by
 refine zfP zpi fun hl => ?_
 have fin:∀ z,decide (a=b)=z->K (.d (.bool z)) σ:=fun z h=>h▸hK
 clear hK
 simp only [zjr,iN,bT,bF,eN]
 cases h1:(a.seq==b.seq)
 ·refine zbw h1 ?_
  refine zT hl ?_
  exact fin _ (decide_eq_false fun h=>by subst h;simp at h1)
 cases h2:(a.dig==b.dig)
 ·refine zbw (zbb h1 h2) ?_
  refine zT hl ?_
  exact fin _ (decide_eq_false fun h=>by subst h;simp at h2)
 refine zbw (zbb h1 h2) ?_
 refine c_eqSign ha ?_
 cases h3:decide (a.signs=b.signs)
 ·refine zir ?_
  refine zT hl ?_
  exact fin _ (decide_eq_false fun h=>by subst h;simp at h3)
 ·refine zir ?_
  refine zT hl ?_
  exact fin _ (decide_eq_true (by cases a;cases b;simp_all))
theorem c_mSamePrep {σ:List zg} {a b:zoB} (ha:zsa a) (hb:zsa b) {K:KT} (hK:K (.d (.bool (decide (a=b)))) σ) :
  zr Tryz.prog zcU [.agg [.d (.int .i64 a.view),.d (.int .i64 a.seq),.d (.int .i64 a.dig),.d (.int .i64 a.fkey),.d (.int .i64 a.fdig),.d (.slice (zaW a.signs)),.d (.slice (zdm a.batch))],.agg [.d (.int .i64 b.view),.d (.int .i64 b.seq),.d (.int .i64 b.dig),.d (.int .i64 b.fkey),.d (.int .i64 b.fdig),.d (.slice (zaW b.signs)),.d (.slice (zdm b.batch))]] σ K:=by
 refine zfP zlG fun hl => ?_
 have fin:∀ z,decide (a=b)=z->K (.d (.bool z)) σ:=fun z h=>h▸hK
 clear hK
 simp only [zgs,iN,bT,bF,eN]
 cases h1:(a.view==b.view)
 ·refine zbw h1 ?_
  refine zT hl ?_
  exact fin _ (decide_eq_false fun h=>by subst h;simp at h1)
 cases h2:(a.seq==b.seq)
 ·refine zbw (zbb h1 h2) ?_
  refine zT hl ?_
  exact fin _ (decide_eq_false fun h=>by subst h;simp at h2)
 cases h3:(a.dig==b.dig)
 ·refine zbw (zbb h1 (zbb h2 h3)) ?_
  refine zT hl ?_
  exact fin _ (decide_eq_false fun h=>by subst h;simp at h3)
 cases h4:(a.fkey==b.fkey&&a.fdig==b.fdig)
 ·refine zrr (zbb h1 (zbb h2 (zbb h3 h4))) ?_
  refine zT hl ?_
  exact fin _ (decide_eq_false fun h=>by subst h;simp at h4)
 refine zrr (zbb h1 (zbb h2 (zbb h3 h4))) ?_
 refine c_eqSign ha.signs ?_
 cases h5:decide (a.signs=b.signs)
 ·refine zir ?_
  refine zT hl ?_
  exact fin _ (decide_eq_false fun h=>by subst h;simp at h5)
 refine zir ?_
 refine ztj ha.batch hb.batch ?_
 cases h6:decide (a.batch=b.batch)
 ·refine zir ?_
  refine zT hl ?_
  exact fin _ (decide_eq_false fun h=>by subst h;simp at h6)
 ·refine zir ?_
  refine zT hl ?_
  exact fin _ (decide_eq_true (by cases a;cases b;simp_all))
theorem c_eqPreps {σ:List zg} {a b:List zoB} (ha1:a.length<=1073741824) (ha2:∀ x∈a,zsa x) (hb2:∀ x∈b,zsa x) {K:KT} (hK:K (.d (.bool (decide (a=b)))) σ) :
  zr Tryz.prog zac [.d (.slice (zuu a)),.d (.slice (zuu b)),.fn (.func zcU) [] []] σ K:=by
 refine acE3 zbv fun hl => ?_
 have fin:∀ z,decide (a=b)=z->K (.d (.bool z)) σ:=fun z h=>h▸hK
 clear hK
 simp only [zaF,iN,bT,bF,eN,zl3]
 cases hl0:((a.length:Int) != (b.length:Int))
 rotate_left
 ·refine zbw hl0 ?_
  refine zT hl ?_
  refine fin _ (decide_eq_false fun h => ?_)
  rw [h] at hl0;simp at hl0
 have hl2:a.length=b.length:=by simp at hl0;omega
 refine zbw hl0 ?_
 refine zt a.length (fun k vs s=>vs = [.d (.int .i64 k)]/\(∃ T,s = σ++T)/\a.take k=b.take k) ⟨rfl,⟨[],by simp⟩,by simp⟩ ?_
 rintro k vs s hk ⟨rfl,⟨T,rfl⟩,htk⟩
 by_cases hlt:k<a.length
 ·have hd:decide ((k:Int)<(a.length:Int))=true:=by simp;omega
  have hx:a[k]? = some a[k]:=by simp [hlt]
  have hy:b[k]? = some (b[k]'(by omega)):=List.getElem?_eq_getElem _
  have hgx:=zP (f:=znQ) hx
  have hgy:=zP (f:=znQ) hy
  have hxs:=ha2 _ (List.getElem_mem hlt)
  have hys:=hb2 _ (List.getElem_mem (show k<b.length by omega))
  obtain ⟨x,hxe⟩:∃ x,a[k]=x:=⟨_,rfl⟩
  obtain ⟨y,hye⟩:∃ y,(b[k]'(by omega))=y:=⟨_,rfl⟩
  rw [hxe] at hx hgx hxs
  rw [hye] at hy hgy hys
  obtain ⟨S,hS⟩:∃ S, σ++T=S:=⟨_,rfl⟩
  rw [hS]
  refine zrr (zbb hd (zbb hgx hgy)) ?_
  refine c_mSamePrep (a:=x) (b:=y) hxs hys ?_
  cases he:decide (x=y)
  ·refine zbw hd ?_
   rw [← hS,List.append_assoc]
   refine zT hl ?_
   refine fin _ (decide_eq_false fun h => ?_)
   subst h
   rw [hx] at hy
   have:=Option.some.inj hy
   simp [this] at he
  ·refine zbw (wk1 k (by omega)) ?_
   exact zaB.next hlt ⟨rfl,⟨_,by rw [← hS,List.append_assoc]⟩,zdB hx hy htk (by simpa using he)⟩
 ·have hd:decide ((k:Int)<(a.length:Int))=false:=by simp;omega
  refine zbw hd ?_
  refine zT hl ?_
  exact fin _ (decide_eq_true (zfJ hl2 (k:=k) (by omega) htk))
theorem zwz {σ:List zg} {a b:zgg} (ha:zmF a) (hb:zmF b) {K:KT} (hK:K (.d (.bool (decide (a=b)))) σ) :
  zr Tryz.prog zdq [.agg [.d (.int .i64 a.view),.d (.int .i64 a.src),.d (.int .i64 a.cert.seq),.d (.int .i64 a.cert.dig),.d (.slice (zaW a.cert.signs)),.d (.slice (zuu a.above)),.d (.int .i64 a.key),.d (.int .i64 a.dig)],.agg [.d (.int .i64 b.view),.d (.int .i64 b.src),.d (.int .i64 b.cert.seq),.d (.int .i64 b.cert.dig),.d (.slice (zaW b.cert.signs)),.d (.slice (zuu b.above)),.d (.int .i64 b.key),.d (.int .i64 b.dig)]] σ K:=by
 refine zfP zng fun hl => ?_
 have fin:∀ z,decide (a=b)=z->K (.d (.bool z)) σ:=fun z h=>h▸hK
 clear hK
 simp only [zhz,iN,bT,bF,eN]
 cases h1:(a.view==b.view)
 ·refine zbw h1 ?_
  refine zT hl ?_
  exact fin _ (decide_eq_false fun h=>by subst h;simp at h1)
 cases h2:(a.src==b.src)
 ·refine zbw (zbb h1 h2) ?_
  refine zT hl ?_
  exact fin _ (decide_eq_false fun h=>by subst h;simp at h2)
 refine zbw (zbb h1 h2) ?_
 refine zow (a:=a.cert) (b:=b.cert) ha.signs ?_
 cases h3:decide (a.cert=b.cert)
 ·refine zir ?_
  refine zT hl ?_
  exact fin _ (decide_eq_false fun h=>by subst h;simp at h3)
 refine zir ?_
 refine c_eqPreps ha.above ha.each hb.each ?_
 cases h4:decide (a.above=b.above)
 ·refine zir ?_
  refine zT hl ?_
  exact fin _ (decide_eq_false fun h=>by subst h;simp at h4)
 cases h5:(a.key==b.key&&a.dig==b.dig)
 ·refine zrr h5 ?_
  refine zT hl ?_
  exact fin _ (decide_eq_false fun h=>by subst h;simp at h5)
 ·refine zrr h5 ?_
  refine zT hl ?_
  exact fin _ (decide_eq_true (by cases a;cases b;simp_all))
theorem c_eqChanges {σ:List zg} {a b:List zgg} (ha1:a.length<=1073741824) (ha2:∀ x∈a,zmF x) (hb2:∀ x∈b,zmF x) {K:KT} (hK:K (.d (.bool (decide (a=b)))) σ) :
  zr Tryz.prog zap [.d (.slice (zmY a)),.d (.slice (zmY b)),.fn (.func zdq) [] []] σ K:=by
 refine acE3 zcg fun hl => ?_
 have fin:∀ z,decide (a=b)=z->K (.d (.bool z)) σ:=fun z h=>h▸hK
 clear hK
 simp only [zaP,iN,bT,bF,eN,zl9]
 cases hl0:((a.length:Int) != (b.length:Int))
 rotate_left
 ·refine zbw hl0 ?_
  refine zT hl ?_
  refine fin _ (decide_eq_false fun h => ?_)
  rw [h] at hl0;simp at hl0
 have hl2:a.length=b.length:=by simp at hl0;omega
 refine zbw hl0 ?_
 refine zt a.length (fun k vs s=>vs = [.d (.int .i64 k)]/\(∃ T,s = σ++T)/\a.take k=b.take k) ⟨rfl,⟨[],by simp⟩,by simp⟩ ?_
 rintro k vs s hk ⟨rfl,⟨T,rfl⟩,htk⟩
 by_cases hlt:k<a.length
 ·have hd:decide ((k:Int)<(a.length:Int))=true:=by simp;omega
  have hx:a[k]? = some a[k]:=by simp [hlt]
  have hy:b[k]? = some (b[k]'(by omega)):=List.getElem?_eq_getElem _
  have hgx:=zP (f:=zes) hx
  have hgy:=zP (f:=zes) hy
  have hxs:=ha2 _ (List.getElem_mem hlt)
  have hys:=hb2 _ (List.getElem_mem (show k<b.length by omega))
  obtain ⟨x,hxe⟩:∃ x,a[k]=x:=⟨_,rfl⟩
  obtain ⟨y,hye⟩:∃ y,(b[k]'(by omega))=y:=⟨_,rfl⟩
  rw [hxe] at hx hgx hxs
  rw [hye] at hy hgy hys
  obtain ⟨S,hS⟩:∃ S, σ++T=S:=⟨_,rfl⟩
  rw [hS]
  refine zrr (zbb hd (zbb hgx hgy)) ?_
  refine zwz (a:=x) (b:=y) hxs hys ?_
  cases he:decide (x=y)
  ·refine zbw hd ?_
   rw [← hS,List.append_assoc]
   refine zT hl ?_
   refine fin _ (decide_eq_false fun h => ?_)
   subst h
   rw [hx] at hy
   have:=Option.some.inj hy
   simp [this] at he
  ·refine zbw (wk1 k (by omega)) ?_
   exact zaB.next hlt ⟨rfl,⟨_,by rw [← hS,List.append_assoc]⟩,zdB hx hy htk (by simpa using he)⟩
 ·have hd:decide ((k:Int)<(a.length:Int))=false:=by simp;omega
  refine zbw hd ?_
  refine zT hl ?_
  exact fin _ (decide_eq_true (zfJ hl2 (k:=k) (by omega) htk))
theorem c_mSameEntry {σ:List zg} {a b:zmp} (ha:zsb a) (hb:zsb b) {K:KT} (hK:K (.d (.bool (decide (a=b)))) σ) :
  zr Tryz.prog zdL [entryA a,entryA b] σ K:=by
 refine zfP zol fun hl => ?_
 have fin:∀ z,decide (a=b)=z->K (.d (.bool z)) σ:=fun z h=>h▸hK
 clear hK
 simp only [ziD,iN,bT,bF,eN]
 cases h1:(a.view==b.view)
 ·refine zbw h1 ?_
  refine zT hl ?_
  exact fin _ (decide_eq_false fun h=>by subst h;simp at h1)
 cases h2:(a.seq==b.seq)
 ·refine zbw (zbb h1 h2) ?_
  refine zT hl ?_
  exact fin _ (decide_eq_false fun h=>by subst h;simp at h2)
 refine zbw (zbb h1 h2) ?_
 refine ztj ha hb ?_
 cases h3:decide (a.batch=b.batch)
 ·refine zir ?_
  refine zT hl ?_
  exact fin _ (decide_eq_false fun h=>by subst h;simp at h3)
 cases h5:(a.key==b.key&&a.dig==b.dig)
 ·refine zrr h5 ?_
  refine zT hl ?_
  exact fin _ (decide_eq_false fun h=>by subst h;simp at h5)
 ·refine zrr h5 ?_
  refine zT hl ?_
  exact fin _ (decide_eq_true (by cases a;cases b;simp_all))
theorem c_eqEntries {σ:List zg} {a b:List zmp} (ha1:a.length<=1073741824) (ha2:∀ x∈a,zsb x) (hb2:∀ x∈b,zsb x) {K:KT} (hK:K (.d (.bool (decide (a=b)))) σ) :
  zr Tryz.prog zav [.d (.slice (zmU a)),.d (.slice (zmU b)),.fn (.func zdL) [] []] σ K:=by
 refine acE3 zcm fun hl => ?_
 have fin:∀ z,decide (a=b)=z->K (.d (.bool z)) σ:=fun z h=>h▸hK
 clear hK
 simp only [zaU,iN,bT,bF,eN]
 cases hl0:((a.length:Int) != (b.length:Int))
 rotate_left
 ·refine zbw hl0 ?_
  refine zT hl ?_
  refine fin _ (decide_eq_false fun h => ?_)
  rw [h] at hl0;simp at hl0
 have hl2:a.length=b.length:=by simp at hl0;omega
 refine zbw hl0 ?_
 refine zt a.length (fun k vs s=>vs = [.d (.int .i64 k)]/\(∃ T,s = σ++T)/\a.take k=b.take k) ⟨rfl,⟨[],by simp⟩,by simp⟩ ?_
 rintro k vs s hk ⟨rfl,⟨T,rfl⟩,htk⟩
 by_cases hlt:k<a.length
 ·have hd:decide ((k:Int)<(a.length:Int))=true:=by simp;omega
  have hx:a[k]? = some a[k]:=by simp [hlt]
  have hy:b[k]? = some (b[k]'(by omega)):=List.getElem?_eq_getElem _
  have hgx:=zP (f:=zhp) hx
  have hgy:=zP (f:=zhp) hy
  have hxs:=ha2 _ (List.getElem_mem hlt)
  have hys:=hb2 _ (List.getElem_mem (show k<b.length by omega))
  obtain ⟨x,hxe⟩:∃ x,a[k]=x:=⟨_,rfl⟩
  obtain ⟨y,hye⟩:∃ y,(b[k]'(by omega))=y:=⟨_,rfl⟩
  rw [hxe] at hx hgx hxs
  rw [hye] at hy hgy hys
  obtain ⟨S,hS⟩:∃ S, σ++T=S:=⟨_,rfl⟩
  rw [hS]
  refine zrr (zbb hd (zbb hgx hgy)) ?_
  refine c_mSameEntry (a:=x) (b:=y) hxs hys ?_
  cases he:decide (x=y)
  ·refine zbw hd ?_
   rw [← hS,List.append_assoc]
   refine zT hl ?_
   refine fin _ (decide_eq_false fun h => ?_)
   subst h
   rw [hx] at hy
   have:=Option.some.inj hy
   simp [this] at he
  ·refine zbw (wk1 k (by omega)) ?_
   exact zaB.next hlt ⟨rfl,⟨_,by rw [← hS,List.append_assoc]⟩,zdB hx hy htk (by simpa using he)⟩
 ·have hd:decide ((k:Int)<(a.length:Int))=false:=by simp;omega
  refine zbw hd ?_
  refine zT hl ?_
  exact fin _ (decide_eq_true (zfJ hl2 (k:=k) (by omega) htk))
end Go.Proofs.YtfgbofkdhfjegaaGreat
