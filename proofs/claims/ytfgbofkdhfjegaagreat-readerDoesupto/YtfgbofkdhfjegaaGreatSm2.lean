/- Contracts: parts of messages that are the same, the program's. -/
import Derived.Test.YtfgbofkdhfjegaaGreatBt3
import Derived.Test.YtfgbofkdhfjegaaGreatPt2
set_option linter.all false
set_option maxRecDepth 100000
namespace Go.Proofs.YtfgbofkdhfjegaaGreat
open Go.AW
theorem gq49 {A P Q:Prop} (a:A) (h:Q) (e:A->Hd Q->P:=by intro a h;(repeat' first|simp -dsimp only [↓zeU, ↓zaA, ↓zbp, ↓zeV, ↓zeO, ↓zeM, ↓zeP, ↓zeN, ↓zbu, ↓zbq, ↓zbv, ↓zbr, ↓zeQ, ↓zbo, ↓zbw, ↓zbs, ↓zbx, ↓zbt, ↓zeL, ↓zeT, ↓zbn, ↓zby, ↓zeG, ↓zeF, ↓zeK,iN,bT,bF,eN, ↓zco, ↓unC, ↓zX, ↓zM, ↓zN, ↓zQ, ↓zZ, ↓zai, ↓zcv, ↓zaf, ↓zaS, ↓zV, ↓zl, ↓zm, ↓zbg, ↓ze, ↓zae, ↓zC, ↓zaM, ↓zaT, ↓zd, ↓zA, ↓zr, ↓zD, ↓zao, ↓zcY, ↓zdn, ↓zap, ↓zaw, ↓zaN, ↓zaZ, ↓zbk, ↓zw, ↓zaj, ↓zO, ↓zE, ↓zY,zdr,zbm,zbl,unA,zdo,bnd,zdL,zab,zS,zdI,dm,dm1,zG,zak,zdZ,zdY,zH,Q0,Q1,Q2,Q3,Q4,Q5,zW,zx,zy,zT,zL,Q6,Q7,Q8,Q9,Q10,Q11,Q12,Q13,Q14,Nat.reduceAdd,Q15,Int.reduceToNat,Q16,Q17,Q18,Q19,Q20,reduceIte,Q21,Q22,zF,rep,zaa,zeC,toD,zag,Q23,Q24,Q25,Q26,Q27,Q28,Nat.reduceLeDiff,Q29,Nat.reduceSub,Q30,Q31,Q32,sc,Q33,Q34,Q35,Q36,Q37,Q26,Q38,Q39,zis,zio,zil,zit,zcN,ziq,zim,zir,zin,zcM,zcO,ziu,ziv,Bool.not_true,Bool.not_false,List.length_map,Bool.and_false,Bool.and_self,Bool.false_and,Bool.not_false,Bool.not_true,Bool.true_and,Int.toNat_natCast,Int.toNat_zero,List.drop_zero,List.length_map,List.length_nil,List.nil_append,List.take_length,Nat.sub_zero,Nat.zero_add,Option.isSome_none,Option.isSome_some,Option.map_none,Option.map_some,zav,beq_self_eq_true,bft,bne,bne_self_eq_false,btf,zcu,ziw,zdq,zgT,ztT,zea,zjl,opA,zjU,zgz,zkz,zbX,a]|with_reducible refine zix ?_|fail);exact h.go):P:=e a ⟨h⟩
theorem c_eqSign {σ:List zh} {a b:List zR} (ha1:a.length<=1073741824) {K:KT} (hK:K (.d (.bool (decide (a=b)))) σ) :
  zp Tryz.prog zbC [.d (.slice (zaI a)),.d (.slice (zaI b))] σ K:=by
 refine zeW zgZ fun hl => ?_
 have fin:∀ z,decide (a=b)=z->K (.d (.bool z)) σ:=fun z h=>h▸hK
 clear hK
 simp only [zdF,iN,bT,bF,eN]
 cases hl0:((a.length:Int) != (b.length:Int))
 rotate_left
 ·refine zaQ hl0 ?_
  refine zI hl ?_
  refine fin _ (decide_eq_false fun h => ?_)
  rw [h] at hl0;simp at hl0
 have hl2:a.length=b.length:=by simp at hl0;omega
 refine zaQ hl0 ?_
 refine zo a.length (fun k vs s=>vs = [.d (.int .i64 k)]/\(∃ T,s = σ++T)/\a.take k=b.take k) ⟨rfl,⟨[],by simp⟩,by simp⟩ ?_
 rintro k vs s hk ⟨rfl,⟨T,rfl⟩,htk⟩
 by_cases hlt:k<a.length
 ·have hd:decide ((k:Int)<(a.length:Int))=true:=by simp;omega
  have hx:a[k]? = some a[k]:=by simp [hlt]
  have hy:b[k]? = some (b[k]'(by omega)):=List.getElem?_eq_getElem _
  have hgx:=zK (f:=zgz) hx
  have hgy:=zK (f:=zgz) hy
  obtain ⟨x,hxe⟩:∃ x,a[k]=x:=⟨_,rfl⟩
  obtain ⟨y,hye⟩:∃ y,(b[k]'(by omega))=y:=⟨_,rfl⟩
  rw [hxe] at hx hgx
  rw [hye] at hy hgy
  obtain ⟨S,hS⟩:∃ S, σ++T=S:=⟨_,rfl⟩
  rw [hS]
  have hxy:x=y↔((x.key==y.key&&x.dig==y.dig))=true:=by cases x;cases y;simp
  cases h2:((x.key==y.key&&x.dig==y.dig))
  ·refine gq49 (zP hd (zP hgx (zP hgy h2))) ?_
   rw [← hS]
   refine zI hl ?_
   refine fin _ (decide_eq_false fun h => ?_)
   subst h
   rw [hx] at hy
   rw [hxy.1 (Option.some.inj hy)] at h2;cases h2
  ·refine gq49 (zP hd (zP hgx (zP hgy (zP h2 (wk1 k (by omega)))))) ?_
   exact zas.next hlt ⟨rfl,⟨_,hS.symm⟩,zbc hx hy htk (hxy.2 h2)⟩
 ·have hd:decide ((k:Int)<(a.length:Int))=false:=by simp;omega
  refine zaQ hd ?_
  refine zI hl ?_
  exact fin _ (decide_eq_true (zbN hl2 (k:=k) (by omega) htk))
theorem c_eqHdr {σ:List zh} {a b:List zdl} (ha1:a.length<=1073741824) {K:KT} (hK:K (.d (.bool (decide (a=b)))) σ) :
  zp Tryz.prog zbQ [.d (.slice (zgR a)),.d (.slice (zgR b))] σ K:=by
 refine zeW zfT fun hl => ?_
 have fin:∀ z,decide (a=b)=z->K (.d (.bool z)) σ:=fun z h=>h▸hK
 clear hK
 simp only [zdc,iN,bT,bF,eN]
 cases hl0:((a.length:Int) != (b.length:Int))
 rotate_left
 ·refine zaQ hl0 ?_
  refine zI hl ?_
  refine fin _ (decide_eq_false fun h => ?_)
  rw [h] at hl0;simp at hl0
 have hl2:a.length=b.length:=by simp at hl0;omega
 refine zaQ hl0 ?_
 refine zo a.length (fun k vs s=>vs = [.d (.int .i64 k)]/\(∃ T,s = σ++T)/\a.take k=b.take k) ⟨rfl,⟨[],by simp⟩,by simp⟩ ?_
 rintro k vs s hk ⟨rfl,⟨T,rfl⟩,htk⟩
 by_cases hlt:k<a.length
 ·have hd:decide ((k:Int)<(a.length:Int))=true:=by simp;omega
  have hx:a[k]? = some a[k]:=by simp [hlt]
  have hy:b[k]? = some (b[k]'(by omega)):=List.getElem?_eq_getElem _
  have hgx:=zK (f:=ztT) hx
  have hgy:=zK (f:=ztT) hy
  obtain ⟨x,hxe⟩:∃ x,a[k]=x:=⟨_,rfl⟩
  obtain ⟨y,hye⟩:∃ y,(b[k]'(by omega))=y:=⟨_,rfl⟩
  rw [hxe] at hx hgx
  rw [hye] at hy hgy
  obtain ⟨S,hS⟩:∃ S, σ++T=S:=⟨_,rfl⟩
  rw [hS]
  have hxy:x=y↔((x.seq==y.seq&&(x.prev==y.prev&&(x.batch==y.batch&&(x.root==y.root&&x.state==y.state)))))=true:=by cases x;cases y;simp
  cases h2:((x.seq==y.seq&&(x.prev==y.prev&&(x.batch==y.batch&&(x.root==y.root&&x.state==y.state)))))
  ·refine gq49 (zP hd (zP hgx (zP hgy h2))) ?_
   rw [← hS]
   refine zI hl ?_
   refine fin _ (decide_eq_false fun h => ?_)
   subst h
   rw [hx] at hy
   rw [hxy.1 (Option.some.inj hy)] at h2;cases h2
  ·refine gq49 (zP hd (zP hgx (zP hgy (zP h2 (wk1 k (by omega)))))) ?_
   exact zas.next hlt ⟨rfl,⟨_,hS.symm⟩,zbc hx hy htk (hxy.2 h2)⟩
 ·have hd:decide ((k:Int)<(a.length:Int))=false:=by simp;omega
  refine zaQ hd ?_
  refine zI hl ?_
  exact fin _ (decide_eq_true (zbN hl2 (k:=k) (by omega) htk))
theorem c_eqDig {σ:List zh} {a b:List Int} (ha1:a.length<=1073741824) {K:KT} (hK:K (.d (.bool (decide (a=b)))) σ) :
  zp Tryz.prog zbR [.d (.slice (zcH a)),.d (.slice (zcH b))] σ K:=by
 refine zeW zfU fun hl => ?_
 have fin:∀ z,decide (a=b)=z->K (.d (.bool z)) σ:=fun z h=>h▸hK
 clear hK
 simp only [zdd,iN,bT,bF,eN]
 cases hl0:((a.length:Int) != (b.length:Int))
 rotate_left
 ·refine zaQ hl0 ?_
  refine zI hl ?_
  refine fin _ (decide_eq_false fun h => ?_)
  rw [h] at hl0;simp at hl0
 have hl2:a.length=b.length:=by simp at hl0;omega
 refine zaQ hl0 ?_
 refine zo a.length (fun k vs s=>vs = [.d (.int .i64 k)]/\(∃ T,s = σ++T)/\a.take k=b.take k) ⟨rfl,⟨[],by simp⟩,by simp⟩ ?_
 rintro k vs s hk ⟨rfl,⟨T,rfl⟩,htk⟩
 by_cases hlt:k<a.length
 ·have hd:decide ((k:Int)<(a.length:Int))=true:=by simp;omega
  have hx:a[k]? = some a[k]:=by simp [hlt]
  have hy:b[k]? = some (b[k]'(by omega)):=List.getElem?_eq_getElem _
  have hgx:=zK (f:=fun t => [D.int .i64 t]) hx
  have hgy:=zK (f:=fun t => [D.int .i64 t]) hy
  obtain ⟨x,hxe⟩:∃ x,a[k]=x:=⟨_,rfl⟩
  obtain ⟨y,hye⟩:∃ y,(b[k]'(by omega))=y:=⟨_,rfl⟩
  rw [hxe] at hx hgx
  rw [hye] at hy hgy
  obtain ⟨S,hS⟩:∃ S, σ++T=S:=⟨_,rfl⟩
  rw [hS]
  have hxy:x=y↔(x==y)=true:=by simp
  cases h2:(x==y)
  ·refine gq49 (zP hd (zP hgx (zP hgy h2))) ?_
   rw [← hS]
   refine zI hl ?_
   refine fin _ (decide_eq_false fun h => ?_)
   subst h
   rw [hx] at hy
   rw [hxy.1 (Option.some.inj hy)] at h2;cases h2
  ·refine gq49 (zP hd (zP hgx (zP hgy (zP h2 (wk1 k (by omega)))))) ?_
   exact zas.next hlt ⟨rfl,⟨_,hS.symm⟩,zbc hx hy htk (hxy.2 h2)⟩
 ·have hd:decide ((k:Int)<(a.length:Int))=false:=by simp;omega
  refine zaQ hd ?_
  refine zI hl ?_
  exact fin _ (decide_eq_true (zbN hl2 (k:=k) (by omega) htk))
structure zpv (p:zoQ):Prop where
 signs:p.signs.length<=1073741824
 batch:zkO p.batch
structure zka (c:zfK):Prop where
 signs:c.cert.signs.length<=1073741824
 above:c.above.length<=1073741824
 each:∀ p∈c.above,zpv p
def zuj (x:zmz):Prop:=zkO x.batch
abbrev entryA (x:zmz):AV := .agg [.d (.int .i64 x.view),.d (.int .i64 x.seq),.d (.slice (zda x.batch)),.d (.int .i64 x.key),.d (.int .i64 x.dig)]
theorem zqb {σ:List zh} {a b:zeX} (ha:a.signs.length<=1073741824) {K:KT} (hK:K (.d (.bool (decide (a=b)))) σ):zp Tryz.prog zdv [ziw a,ziw b] σ K:=by
 refine zeW zqR fun hl => ?_
 have fin:∀ z,decide (a=b)=z->K (.d (.bool z)) σ:=fun z h=>h▸hK
 clear hK
 simp only [zkt,iN,bT,bF,eN]
 cases h1:(a.seq==b.seq)
 ·refine zaQ h1 ?_
  refine zI hl ?_
  exact fin _ (decide_eq_false fun h=>by subst h;simp at h1)
 cases h2:(a.dig==b.dig)
 ·refine zaQ (zP h1 h2) ?_
  refine zI hl ?_
  exact fin _ (decide_eq_false fun h=>by subst h;simp at h2)
 refine zaQ (zP h1 h2) ?_
 refine c_eqSign ha ?_
 cases h3:decide (a.signs=b.signs)
 ·refine zdS ?_
  refine zI hl ?_
  exact fin _ (decide_eq_false fun h=>by subst h;simp at h3)
 ·refine zdS ?_
  refine zI hl ?_
  exact fin _ (decide_eq_true (by cases a;cases b;simp_all))
theorem c_mSamePrep {σ:List zh} {a b:zoQ} (ha:zpv a) (hb:zpv b) {K:KT} (hK:K (.d (.bool (decide (a=b)))) σ) :
  zp Tryz.prog zdj [.agg [.d (.int .i64 a.view),.d (.int .i64 a.seq),.d (.int .i64 a.dig),.d (.int .i64 a.fkey),.d (.int .i64 a.fdig),.d (.slice (zaI a.signs)),.d (.slice (zda a.batch))],.agg [.d (.int .i64 b.view),.d (.int .i64 b.seq),.d (.int .i64 b.dig),.d (.int .i64 b.fkey),.d (.int .i64 b.fdig),.d (.slice (zaI b.signs)),.d (.slice (zda b.batch))]] σ K:=by
 refine zeW znc fun hl => ?_
 have fin:∀ z,decide (a=b)=z->K (.d (.bool z)) σ:=fun z h=>h▸hK
 clear hK
 simp only [zhg,iN,bT,bF,eN]
 cases h1:(a.view==b.view)
 ·refine zaQ h1 ?_
  refine zI hl ?_
  exact fin _ (decide_eq_false fun h=>by subst h;simp at h1)
 cases h2:(a.seq==b.seq)
 ·refine zaQ (zP h1 h2) ?_
  refine zI hl ?_
  exact fin _ (decide_eq_false fun h=>by subst h;simp at h2)
 cases h3:(a.dig==b.dig)
 ·refine zaQ (zP h1 (zP h2 h3)) ?_
  refine zI hl ?_
  exact fin _ (decide_eq_false fun h=>by subst h;simp at h3)
 cases h4:(a.fkey==b.fkey&&a.fdig==b.fdig)
 ·refine zqi (zP h1 (zP h2 (zP h3 h4))) ?_
  refine zI hl ?_
  exact fin _ (decide_eq_false fun h=>by subst h;simp at h4)
 refine zqi (zP h1 (zP h2 (zP h3 h4))) ?_
 refine c_eqSign ha.signs ?_
 cases h5:decide (a.signs=b.signs)
 ·refine zdS ?_
  refine zI hl ?_
  exact fin _ (decide_eq_false fun h=>by subst h;simp at h5)
 refine zdS ?_
 refine zvp ha.batch hb.batch ?_
 cases h6:decide (a.batch=b.batch)
 ·refine zdS ?_
  refine zI hl ?_
  exact fin _ (decide_eq_false fun h=>by subst h;simp at h6)
 ·refine zdS ?_
  refine zI hl ?_
  exact fin _ (decide_eq_true (by cases a;cases b;simp_all))
theorem c_eqPreps {σ:List zh} {a b:List zoQ} (ha1:a.length<=1073741824) (ha2:∀ x∈a,zpv x) (hb2:∀ x∈b,zpv x) {K:KT} (hK:K (.d (.bool (decide (a=b)))) σ) :
  zp Tryz.prog zan [.d (.slice (zqt a)),.d (.slice (zqt b)),.fn (.func zdj) [] []] σ K:=by
 refine acE3 zbM fun hl => ?_
 have fin:∀ z,decide (a=b)=z->K (.d (.bool z)) σ:=fun z h=>h▸hK
 clear hK
 simp only [zaJ,iN,bT,bF,eN,zl4]
 cases hl0:((a.length:Int) != (b.length:Int))
 rotate_left
 ·refine zaQ hl0 ?_
  refine zI hl ?_
  refine fin _ (decide_eq_false fun h => ?_)
  rw [h] at hl0;simp at hl0
 have hl2:a.length=b.length:=by simp at hl0;omega
 refine zaQ hl0 ?_
 refine zo a.length (fun k vs s=>vs = [.d (.int .i64 k)]/\(∃ T,s = σ++T)/\a.take k=b.take k) ⟨rfl,⟨[],by simp⟩,by simp⟩ ?_
 rintro k vs s hk ⟨rfl,⟨T,rfl⟩,htk⟩
 by_cases hlt:k<a.length
 ·have hd:decide ((k:Int)<(a.length:Int))=true:=by simp;omega
  have hx:a[k]? = some a[k]:=by simp [hlt]
  have hy:b[k]? = some (b[k]'(by omega)):=List.getElem?_eq_getElem _
  have hgx:=zK (f:=zjU) hx
  have hgy:=zK (f:=zjU) hy
  have hxs:=ha2 _ (List.getElem_mem hlt)
  have hys:=hb2 _ (List.getElem_mem (show k<b.length by omega))
  obtain ⟨x,hxe⟩:∃ x,a[k]=x:=⟨_,rfl⟩
  obtain ⟨y,hye⟩:∃ y,(b[k]'(by omega))=y:=⟨_,rfl⟩
  rw [hxe] at hx hgx hxs
  rw [hye] at hy hgy hys
  obtain ⟨S,hS⟩:∃ S, σ++T=S:=⟨_,rfl⟩
  rw [hS]
  refine zqi (zP hd (zP hgx hgy)) ?_
  refine c_mSamePrep (a:=x) (b:=y) hxs hys ?_
  cases he:decide (x=y)
  ·refine zaQ hd ?_
   rw [← hS,List.append_assoc]
   refine zI hl ?_
   refine fin _ (decide_eq_false fun h => ?_)
   subst h
   rw [hx] at hy
   have:=Option.some.inj hy
   simp [this] at he
  ·refine zaQ (wk1 k (by omega)) ?_
   exact zas.next hlt ⟨rfl,⟨_,by rw [← hS,List.append_assoc]⟩,zbc hx hy htk (by simpa using he)⟩
 ·have hd:decide ((k:Int)<(a.length:Int))=false:=by simp;omega
  refine zaQ hd ?_
  refine zI hl ?_
  exact fin _ (decide_eq_true (zbN hl2 (k:=k) (by omega) htk))
theorem zzh {σ:List zh} {a b:zfK} (ha:zka a) (hb:zka b) {K:KT} (hK:K (.d (.bool (decide (a=b)))) σ) :
  zp Tryz.prog zdK [.agg [.d (.int .i64 a.view),.d (.int .i64 a.src),.d (.int .i64 a.cert.seq),.d (.int .i64 a.cert.dig),.d (.slice (zaI a.cert.signs)),.d (.slice (zqt a.above)),.d (.int .i64 a.key),.d (.int .i64 a.dig)],.agg [.d (.int .i64 b.view),.d (.int .i64 b.src),.d (.int .i64 b.cert.seq),.d (.int .i64 b.cert.dig),.d (.slice (zaI b.cert.signs)),.d (.slice (zqt b.above)),.d (.int .i64 b.key),.d (.int .i64 b.dig)]] σ K:=by
 refine zeW zoK fun hl => ?_
 have fin:∀ z,decide (a=b)=z->K (.d (.bool z)) σ:=fun z h=>h▸hK
 clear hK
 simp only [ziM,iN,bT,bF,eN]
 cases h1:(a.view==b.view)
 ·refine zaQ h1 ?_
  refine zI hl ?_
  exact fin _ (decide_eq_false fun h=>by subst h;simp at h1)
 cases h2:(a.src==b.src)
 ·refine zaQ (zP h1 h2) ?_
  refine zI hl ?_
  exact fin _ (decide_eq_false fun h=>by subst h;simp at h2)
 refine zaQ (zP h1 h2) ?_
 refine zqb (a:=a.cert) (b:=b.cert) ha.signs ?_
 cases h3:decide (a.cert=b.cert)
 ·refine zdS ?_
  refine zI hl ?_
  exact fin _ (decide_eq_false fun h=>by subst h;simp at h3)
 refine zdS ?_
 refine c_eqPreps ha.above ha.each hb.each ?_
 cases h4:decide (a.above=b.above)
 ·refine zdS ?_
  refine zI hl ?_
  exact fin _ (decide_eq_false fun h=>by subst h;simp at h4)
 cases h5:(a.key==b.key&&a.dig==b.dig)
 ·refine zqi h5 ?_
  refine zI hl ?_
  exact fin _ (decide_eq_false fun h=>by subst h;simp at h5)
 ·refine zqi h5 ?_
  refine zI hl ?_
  exact fin _ (decide_eq_true (by cases a;cases b;simp_all))
theorem c_eqChanges {σ:List zh} {a b:List zfK} (ha1:a.length<=1073741824) (ha2:∀ x∈a,zka x) (hb2:∀ x∈b,zka x) {K:KT} (hK:K (.d (.bool (decide (a=b)))) σ) :
  zp Tryz.prog zay [.d (.slice (zkl a)),.d (.slice (zkl b)),.fn (.func zdK) [] []] σ K:=by
 refine acE3 zcn fun hl => ?_
 have fin:∀ z,decide (a=b)=z->K (.d (.bool z)) σ:=fun z h=>h▸hK
 clear hK
 simp only [zaY,iN,bT,bF,eN,zl9]
 cases hl0:((a.length:Int) != (b.length:Int))
 rotate_left
 ·refine zaQ hl0 ?_
  refine zI hl ?_
  refine fin _ (decide_eq_false fun h => ?_)
  rw [h] at hl0;simp at hl0
 have hl2:a.length=b.length:=by simp at hl0;omega
 refine zaQ hl0 ?_
 refine zo a.length (fun k vs s=>vs = [.d (.int .i64 k)]/\(∃ T,s = σ++T)/\a.take k=b.take k) ⟨rfl,⟨[],by simp⟩,by simp⟩ ?_
 rintro k vs s hk ⟨rfl,⟨T,rfl⟩,htk⟩
 by_cases hlt:k<a.length
 ·have hd:decide ((k:Int)<(a.length:Int))=true:=by simp;omega
  have hx:a[k]? = some a[k]:=by simp [hlt]
  have hy:b[k]? = some (b[k]'(by omega)):=List.getElem?_eq_getElem _
  have hgx:=zK (f:=zdq) hx
  have hgy:=zK (f:=zdq) hy
  have hxs:=ha2 _ (List.getElem_mem hlt)
  have hys:=hb2 _ (List.getElem_mem (show k<b.length by omega))
  obtain ⟨x,hxe⟩:∃ x,a[k]=x:=⟨_,rfl⟩
  obtain ⟨y,hye⟩:∃ y,(b[k]'(by omega))=y:=⟨_,rfl⟩
  rw [hxe] at hx hgx hxs
  rw [hye] at hy hgy hys
  obtain ⟨S,hS⟩:∃ S, σ++T=S:=⟨_,rfl⟩
  rw [hS]
  refine zqi (zP hd (zP hgx hgy)) ?_
  refine zzh (a:=x) (b:=y) hxs hys ?_
  cases he:decide (x=y)
  ·refine zaQ hd ?_
   rw [← hS,List.append_assoc]
   refine zI hl ?_
   refine fin _ (decide_eq_false fun h => ?_)
   subst h
   rw [hx] at hy
   have:=Option.some.inj hy
   simp [this] at he
  ·refine zaQ (wk1 k (by omega)) ?_
   exact zas.next hlt ⟨rfl,⟨_,by rw [← hS,List.append_assoc]⟩,zbc hx hy htk (by simpa using he)⟩
 ·have hd:decide ((k:Int)<(a.length:Int))=false:=by simp;omega
  refine zaQ hd ?_
  refine zI hl ?_
  exact fin _ (decide_eq_true (zbN hl2 (k:=k) (by omega) htk))
theorem c_mSameEntry {σ:List zh} {a b:zmz} (ha:zuj a) (hb:zuj b) {K:KT} (hK:K (.d (.bool (decide (a=b)))) σ) :
  zp Tryz.prog zei [entryA a,entryA b] σ K:=by
 refine zeW zpS fun hl => ?_
 have fin:∀ z,decide (a=b)=z->K (.d (.bool z)) σ:=fun z h=>h▸hK
 clear hK
 simp only [zjM,iN,bT,bF,eN]
 cases h1:(a.view==b.view)
 ·refine zaQ h1 ?_
  refine zI hl ?_
  exact fin _ (decide_eq_false fun h=>by subst h;simp at h1)
 cases h2:(a.seq==b.seq)
 ·refine zaQ (zP h1 h2) ?_
  refine zI hl ?_
  exact fin _ (decide_eq_false fun h=>by subst h;simp at h2)
 refine zaQ (zP h1 h2) ?_
 refine zvp ha hb ?_
 cases h3:decide (a.batch=b.batch)
 ·refine zdS ?_
  refine zI hl ?_
  exact fin _ (decide_eq_false fun h=>by subst h;simp at h3)
 cases h5:(a.key==b.key&&a.dig==b.dig)
 ·refine zqi h5 ?_
  refine zI hl ?_
  exact fin _ (decide_eq_false fun h=>by subst h;simp at h5)
 ·refine zqi h5 ?_
  refine zI hl ?_
  exact fin _ (decide_eq_true (by cases a;cases b;simp_all))
theorem c_eqEntries {σ:List zh} {a b:List zmz} (ha1:a.length<=1073741824) (ha2:∀ x∈a,zuj x) (hb2:∀ x∈b,zuj x) {K:KT} (hK:K (.d (.bool (decide (a=b)))) σ) :
  zp Tryz.prog zaC [.d (.slice (zkh a)),.d (.slice (zkh b)),.fn (.func zei) [] []] σ K:=by
 refine acE3 zcx fun hl => ?_
 have fin:∀ z,decide (a=b)=z->K (.d (.bool z)) σ:=fun z h=>h▸hK
 clear hK
 simp only [zbh,iN,bT,bF,eN]
 cases hl0:((a.length:Int) != (b.length:Int))
 rotate_left
 ·refine zaQ hl0 ?_
  refine zI hl ?_
  refine fin _ (decide_eq_false fun h => ?_)
  rw [h] at hl0;simp at hl0
 have hl2:a.length=b.length:=by simp at hl0;omega
 refine zaQ hl0 ?_
 refine zo a.length (fun k vs s=>vs = [.d (.int .i64 k)]/\(∃ T,s = σ++T)/\a.take k=b.take k) ⟨rfl,⟨[],by simp⟩,by simp⟩ ?_
 rintro k vs s hk ⟨rfl,⟨T,rfl⟩,htk⟩
 by_cases hlt:k<a.length
 ·have hd:decide ((k:Int)<(a.length:Int))=true:=by simp;omega
  have hx:a[k]? = some a[k]:=by simp [hlt]
  have hy:b[k]? = some (b[k]'(by omega)):=List.getElem?_eq_getElem _
  have hgx:=zK (f:=zgT) hx
  have hgy:=zK (f:=zgT) hy
  have hxs:=ha2 _ (List.getElem_mem hlt)
  have hys:=hb2 _ (List.getElem_mem (show k<b.length by omega))
  obtain ⟨x,hxe⟩:∃ x,a[k]=x:=⟨_,rfl⟩
  obtain ⟨y,hye⟩:∃ y,(b[k]'(by omega))=y:=⟨_,rfl⟩
  rw [hxe] at hx hgx hxs
  rw [hye] at hy hgy hys
  obtain ⟨S,hS⟩:∃ S, σ++T=S:=⟨_,rfl⟩
  rw [hS]
  refine zqi (zP hd (zP hgx hgy)) ?_
  refine c_mSameEntry (a:=x) (b:=y) hxs hys ?_
  cases he:decide (x=y)
  ·refine zaQ hd ?_
   rw [← hS,List.append_assoc]
   refine zI hl ?_
   refine fin _ (decide_eq_false fun h => ?_)
   subst h
   rw [hx] at hy
   have:=Option.some.inj hy
   simp [this] at he
  ·refine zaQ (wk1 k (by omega)) ?_
   exact zas.next hlt ⟨rfl,⟨_,by rw [← hS,List.append_assoc]⟩,zbc hx hy htk (by simpa using he)⟩
 ·have hd:decide ((k:Int)<(a.length:Int))=false:=by simp;omega
  refine zaQ hd ?_
  refine zI hl ?_
  exact fin _ (decide_eq_true (zbN hl2 (k:=k) (by omega) htk))
end Go.Proofs.YtfgbofkdhfjegaaGreat
