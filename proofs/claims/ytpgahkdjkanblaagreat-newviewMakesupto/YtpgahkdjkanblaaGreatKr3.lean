/- Contracts: messages that are the same, the document's. -/
import Derived.Test.YtpgahkdjkanblaaGreatNr3
import Derived.Test.YtpgahkdjkanblaaGreatSm4
set_option linter.all false
set_option maxRecDepth 100000
namespace Go.Proofs.YtpgahkdjkanblaaGreat
open Go.AW
theorem c_kSamePrep {σ:List zh} {a b:zcb} (ha:zrf a) (hb:zrf b) {K:KT} (hK:K (.d (.bool (decide (a=b)))) σ):zo Tryz.prog zhi [.agg [.d (.int .i64 a.view),.d (.int .i64 a.seq),.d (.int .i64 a.dig),.d (.int .i64 a.fkey),.d (.int .i64 a.fdig),.d (.slice (zap a.signs)),.d (.slice (zbj a.batch))],.agg [.d (.int .i64 b.view),.d (.int .i64 b.seq),.d (.int .i64 b.dig),.d (.int .i64 b.fkey),.d (.int .i64 b.fdig),.d (.slice (zap b.signs)),.d (.slice (zbj b.batch))]] σ K:=by
 refine zd zlr.is rfl fun hl _=>zlr.goes ?_
 have fin:∀ z,decide (a=b)=z->K (.d (.bool z)) σ:=fun z h=>h ▸ hK
 clear hK
 simp only [zlF,iN,bT,bF,eN]
 cases h1:(a.view == b.view)
 ·refine zB h1 ?_
  refine zw hl ?_
  exact fin _ (decide_eq_false fun h=>by subst h;simp at h1)
 cases h2:(a.seq == b.seq)
 ·refine zB (ze h1 h2) ?_
  refine zw hl ?_
  exact fin _ (decide_eq_false fun h=>by subst h;simp at h2)
 cases h3:(a.dig == b.dig)
 ·refine zB (ze h1 (ze h2 h3)) ?_
  refine zw hl ?_
  exact fin _ (decide_eq_false fun h=>by subst h;simp at h3)
 cases h4:(a.fkey == b.fkey && a.fdig == b.fdig)
 ·refine zhH (ze h1 (ze h2 (ze h3 h4))) ?_
  refine zw hl ?_
  exact fin _ (decide_eq_false fun h=>by subst h;simp at h4)
 refine gq55 (ze h1 (ze h2 (ze h3 h4))) ?_
 refine zwF ha.signs ?_
 cases h5:decide (a.signs=b.signs)
 ·refine zB h5 ?_
  refine zw hl ?_
  exact fin _ (decide_eq_false fun h=>by subst h;simp at h5)
 refine gq58 h5 ?_
 refine zAi ha.batch hb.batch ?_
 cases h6:decide (a.batch=b.batch)
 ·refine zB h6 ?_
  refine zw hl ?_
  exact fin _ (decide_eq_false fun h=>by subst h;simp at h6)
 refine zB h6 ?_
 refine zw hl ?_
 exact fin _ (decide_eq_true (by cases a;cases b;simp_all))
theorem gq62 {A P Q:Prop} (a:A) (h:Q) (e:A->Hd Q->P:=by intro a h;(repeat' first | simp -dsimp only [↓zeN, ↓zav, ↓zbq, ↓zeO, ↓zeH, ↓zeF, ↓zeI, ↓zeG, ↓zbv, ↓zbr, ↓zbw, ↓zbs, ↓zeJ, ↓zbp, ↓zbx, ↓zbt, ↓zby, ↓zbu, ↓zeE, ↓zeM, ↓zbo, ↓zbz, ↓zeC, ↓zeB, ↓zeD,iN,bT,bF,eN, ↓zcB, ↓unC, ↓zV, ↓zM, ↓zN, ↓zQ, ↓zY, ↓zal, ↓zdb, ↓zak, ↓zaH, ↓zT, ↓zf, ↓zj, ↓zbZ, ↓zb, ↓zag, ↓zE, ↓zaI, ↓zaO, ↓zc, ↓zy, ↓zl, ↓zG, ↓zaa, ↓zdm, ↓zdw, ↓zaj, ↓zar, ↓zaK, ↓zaS, ↓zaY, ↓zq, ↓zai, ↓zO, ↓zu, ↓zX,zdx,zbg,zbb,unA,zdd,bnd,zdY,zaf,zP,zdR,dm,dm1,zA,zae,zeh,zeg,zI,Q0,Q1,Q2,Q3,Q4,Q5,zZ,zC,zt,zL,zF,Q6,Q7,Q8,Q9,Q10,Q11,Q12,Q13,Q14,Nat.reduceAdd,Q15,Int.reduceToNat,Q16,Q17,Q18,Q19,Q20,reduceIte,Q21,Q22,zH,rep,zac,zel,toD,zah,Q23,Q24,Q25,Q26,Q27,Q28,Nat.reduceLeDiff,Q29,Nat.reduceSub,Q30,Q31,Q32,sc,Q33,Q34,Q35,Q36,Q37,Q26,Q38,Q39,zoy,zov,zos,zoz,zfG,zow,zot,zox,zou,zfF,zfH,zoB,zoC,Bool.not_true,Bool.not_false,List.length_map,bne,a] | with_reducible refine zoE ?_ | fail);exact h.go):P:=e a ⟨h⟩
theorem gq63 {A P Q:Prop} (a:A) (h:Q) (e:A->Hd Q->P:=by intro a h;(repeat' first | simp -dsimp only [↓zeN, ↓zav, ↓zbq, ↓zeO, ↓zeH, ↓zeF, ↓zeI, ↓zeG, ↓zbv, ↓zbr, ↓zbw, ↓zbs, ↓zeJ, ↓zbp, ↓zbx, ↓zbt, ↓zby, ↓zbu, ↓zeE, ↓zeM, ↓zbo, ↓zbz, ↓zeC, ↓zeB, ↓zeD,iN,bT,bF,eN, ↓zcB, ↓unC, ↓zV, ↓zM, ↓zN, ↓zQ, ↓zY, ↓zal, ↓zdb, ↓zak, ↓zaH, ↓zT, ↓zf, ↓zj, ↓zbZ, ↓zb, ↓zag, ↓zE, ↓zaI, ↓zaO, ↓zc, ↓zy, ↓zl, ↓zG, ↓zaa, ↓zdm, ↓zdw, ↓zaj, ↓zar, ↓zaK, ↓zaS, ↓zaY, ↓zq, ↓zai, ↓zO, ↓zu, ↓zX,zdx,zbg,zbb,unA,zdd,bnd,zdY,zaf,zP,zdR,dm,dm1,zA,zae,zeh,zeg,zI,Q0,Q1,Q2,Q3,Q4,Q5,zZ,zC,zt,zL,zF,Q6,Q7,Q8,Q9,Q10,Q11,Q12,Q13,Q14,Nat.reduceAdd,Q15,Int.reduceToNat,Q16,Q17,Q18,Q19,Q20,reduceIte,Q21,Q22,zH,rep,zac,zel,toD,zah,Q23,Q24,Q25,Q26,Q27,Q28,Nat.reduceLeDiff,Q29,Nat.reduceSub,Q30,Q31,Q32,sc,Q33,Q34,Q35,Q36,Q37,Q26,Q38,Q39,zoy,zov,zos,zoz,zfG,zow,zot,zox,zou,zfF,zfH,zoB,zoC,Bool.not_true,Bool.not_false,List.length_map,beq_self_eq_true,bne,a] | with_reducible refine zoE ?_ | fail);exact h.go):P:=e a ⟨h⟩
theorem zAm {σ:List zh} {a b:zU} (ha:zjM a) (hb:zjM b) {K:KT} (hK:K (.d (.bool (decide (a=b)))) σ):zo Tryz.prog zjl [.agg [.d (.int .i64 a.view),.d (.int .i64 a.src),.d (.int .i64 a.cert.seq),.d (.int .i64 a.cert.dig),.d (.slice (zap a.cert.signs)),.d (.slice (zeV a.above)),.d (.int .i64 a.key),.d (.int .i64 a.dig)],.agg [.d (.int .i64 b.view),.d (.int .i64 b.src),.d (.int .i64 b.cert.seq),.d (.int .i64 b.cert.dig),.d (.slice (zap b.cert.signs)),.d (.slice (zeV b.above)),.d (.int .i64 b.key),.d (.int .i64 b.dig)]] σ K:=by
 refine zd znE.is rfl fun hl _=>znE.goes ?_
 have fin:∀ z,decide (a=b)=z->K (.d (.bool z)) σ:=fun z h=>h ▸ hK
 clear hK
 simp only [zoa,iN,bT,bF,eN]
 have hla:((a.above.map zew).length)=a.above.length:=List.length_map ..
 have hlb:((b.above.map zew).length)=b.above.length:=List.length_map ..
 have hal:=ha.above
 cases h1:(a.view == b.view)
 ·refine gq62 h1 ?_
  refine zw hl ?_
  exact fin _ (decide_eq_false fun h=>by subst h;simp at h1)
 cases h2:(a.src == b.src)
 ·refine gq62 (ze h1 h2) ?_
  refine zw hl ?_
  exact fin _ (decide_eq_false fun h=>by subst h;simp at h2)
 refine gq63 (ze h1 h2) ?_
 refine ztR (a:=a.cert) (b:=b.cert) ha.signs ?_
 cases h3:decide (a.cert=b.cert)
 ·refine zB h3 ?_
  refine zw hl ?_
  exact fin _ (decide_eq_false fun h=>by subst h;simp at h3)
 cases h4:(a.key == b.key && a.dig == b.dig)
 ·refine zhH (ze h3 h4) ?_
  refine zw hl ?_
  exact fin _ (decide_eq_false fun h=>by subst h;simp at h4)
 cases h5:((a.above.length:Int) == (b.above.length:Int))
 ·refine gq57 (ze h3 (ze h4 (ze hla (ze hlb h5)))) ?_
  refine zw hl ?_
  exact fin _ (decide_eq_false fun h=>by subst h;simp at h5)
 have hl2:a.above.length=b.above.length:=by simp at h5;omega
 have hla:((a.above.map zew).length)=a.above.length:=List.length_map ..
 have hlb:((b.above.map zew).length)=b.above.length:=List.length_map ..
 refine gq57 (ze h3 (ze h4 (ze hla (ze hlb (ze h5 (ze hla hlb)))))) ?_
 refine zm a.above.length (fun k vs s=>vs = [.d (.int .i64 k)]/\s = σ++[.box (zbK a),.box (zbK b)]/\a.above.take k=b.above.take k) ⟨rfl,rfl,by simp⟩ ?_
 rintro k vs s hk ⟨rfl,rfl,htk⟩
 by_cases hlt:k<a.above.length
 ·have hd:decide ((k:Int)<(a.above.length:Int))=true:=by simp;omega
  have hx:a.above[k]? = some a.above[k]:=by simp [hlt]
  have hy:b.above[k]? = some (b.above[k]'(by omega)):=List.getElem?_eq_getElem _
  have hgx:=zR (f:=zew) hx
  have hgy:=zR (f:=zew) hy
  have hxs:=ha.each _ (List.getElem_mem hlt)
  have hys:=hb.each _ (List.getElem_mem (show k<b.above.length by omega))
  obtain ⟨x,hxe⟩:∃ x,a.above[k]=x:=⟨_,rfl⟩
  obtain ⟨y,hye⟩:∃ y,(b.above[k]'(by omega))=y:=⟨_,rfl⟩
  rw [hxe] at hx hgx hxs
  rw [hye] at hy hgy hys
  refine zhH (ze hd (ze hgx (ze hgy (ze hla hlb)))) ?_
  refine c_kSamePrep (a:=x) (b:=y) hxs hys ?_
  cases he:decide (x=y)
  ·refine zab ?_
   refine zw hl ?_
   refine fin _ (decide_eq_false fun h => ?_)
   subst h
   rw [hx] at hy
   have:=Option.some.inj hy
   simp [this] at he
  ·refine zB (wkc k (by omega)) ?_
   exact zaz.next hlt ⟨rfl,rfl,zbM hx hy htk (by simpa using he)⟩
 have hd:decide ((k:Int)<(a.above.length:Int))=false:=by simp;omega
 have heq_above:a.above=b.above:=zcH hl2 (k:=k) (by omega) htk
 refine zB (ze hd (ze hla hlb)) ?_
 refine zw hl ?_
 exact fin _ (decide_eq_true (by cases a;cases b;simp_all))
theorem gq64 {A P Q:Prop} (a:A) (h:Q) (e:A->Hd Q->P:=by intro a h;(repeat' first | simp -dsimp only [↓zeN, ↓zav, ↓zbq, ↓zeO, ↓zeH, ↓zeF, ↓zeI, ↓zeG, ↓zbv, ↓zbr, ↓zbw, ↓zbs, ↓zeJ, ↓zbp, ↓zbx, ↓zbt, ↓zby, ↓zbu, ↓zeE, ↓zeM, ↓zbo, ↓zbz, ↓zeC, ↓zeB, ↓zeD,iN,bT,bF,eN, ↓zcB, ↓unC, ↓zV, ↓zM, ↓zN, ↓zQ, ↓zY, ↓zal, ↓zdb, ↓zak, ↓zaH, ↓zT, ↓zf, ↓zj, ↓zbZ, ↓zb, ↓zag, ↓zE, ↓zaI, ↓zaO, ↓zc, ↓zy, ↓zl, ↓zG, ↓zaa, ↓zdm, ↓zdw, ↓zaj, ↓zar, ↓zaK, ↓zaS, ↓zaY, ↓zq, ↓zai, ↓zO, ↓zu, ↓zX,zdx,zbg,zbb,unA,zdd,bnd,zdY,zaf,zP,zdR,dm,dm1,zA,zae,zeh,zeg,zI,Q0,Q1,Q2,Q3,Q4,Q5,zZ,zC,zt,zL,zF,Q6,Q7,Q8,Q9,Q10,Q11,Q12,Q13,Q14,Nat.reduceAdd,Q15,Int.reduceToNat,Q16,Q17,Q18,Q19,Q20,reduceIte,Q21,Q22,zH,rep,zac,zel,toD,zah,Q23,Q24,Q25,Q26,Q27,Q28,Nat.reduceLeDiff,Q29,Nat.reduceSub,Q30,Q31,Q32,sc,Q33,Q34,Q35,Q36,Q37,Q26,Q38,Q39,zoy,zov,zos,zoz,zfG,zow,zot,zox,zou,zfF,zfH,zoB,zoC,Bool.not_true,Bool.not_false,List.length_map,bne,zgM,a] | with_reducible refine zoE ?_ | fail);exact h.go):P:=e a ⟨h⟩
theorem gq65 {A P Q:Prop} (a:A) (h:Q) (e:A->Hd Q->P:=by intro a h;(repeat' first | simp -dsimp only [↓zeN, ↓zav, ↓zbq, ↓zeO, ↓zeH, ↓zeF, ↓zeI, ↓zeG, ↓zbv, ↓zbr, ↓zbw, ↓zbs, ↓zeJ, ↓zbp, ↓zbx, ↓zbt, ↓zby, ↓zbu, ↓zeE, ↓zeM, ↓zbo, ↓zbz, ↓zeC, ↓zeB, ↓zeD,iN,bT,bF,eN, ↓zcB, ↓unC, ↓zV, ↓zM, ↓zN, ↓zQ, ↓zY, ↓zal, ↓zdb, ↓zak, ↓zaH, ↓zT, ↓zf, ↓zj, ↓zbZ, ↓zb, ↓zag, ↓zE, ↓zaI, ↓zaO, ↓zc, ↓zy, ↓zl, ↓zG, ↓zaa, ↓zdm, ↓zdw, ↓zaj, ↓zar, ↓zaK, ↓zaS, ↓zaY, ↓zq, ↓zai, ↓zO, ↓zu, ↓zX,zdx,zbg,zbb,unA,zdd,bnd,zdY,zaf,zP,zdR,dm,dm1,zA,zae,zeh,zeg,zI,Q0,Q1,Q2,Q3,Q4,Q5,zZ,zC,zt,zL,zF,Q6,Q7,Q8,Q9,Q10,Q11,Q12,Q13,Q14,Nat.reduceAdd,Q15,Int.reduceToNat,Q16,Q17,Q18,Q19,Q20,reduceIte,Q21,Q22,zH,rep,zac,zel,toD,zah,Q23,Q24,Q25,Q26,Q27,Q28,Nat.reduceLeDiff,Q29,Nat.reduceSub,Q30,Q31,Q32,sc,Q33,Q34,Q35,Q36,Q37,Q26,Q38,Q39,zoy,zov,zos,zoz,zfG,zow,zot,zox,zou,zfF,zfH,zoB,zoC,Bool.not_true,Bool.not_false,List.length_map,beq_self_eq_true,bne,zgM,a] | with_reducible refine zoE ?_ | fail);exact h.go):P:=e a ⟨h⟩
theorem c_kSameProof {σ:List zh} {a b:znU} (ha:zzz a) {K:KT} (hK:K (.d (.bool (decide (a=b)))) σ):zo Tryz.prog zkn [proofA a,proofA b] σ K:=by
 refine zd zpr.is rfl fun hl _=>zpr.goes ?_
 have fin:∀ z,decide (a=b)=z->K (.d (.bool z)) σ:=fun z h=>h ▸ hK
 clear hK
 simp only [zpQ,iN,bT,bF,eN]
 have hla1:((zzT a.headers).length)=a.headers.length:=List.length_map ..
 have hlb1:((zzT b.headers).length)=b.headers.length:=List.length_map ..
 have hla2:((zpd a.path).length)=a.path.length:=List.length_map ..
 have hlb2:((zpd b.path).length)=b.path.length:=List.length_map ..
 have hal1:=ha.headers
 have hal2:=ha.path
 cases h1:(a.topic == b.topic)
 ·refine gq62 h1 ?_
  refine zw hl ?_
  exact fin _ (decide_eq_false fun h=>by subst h;simp at h1)
 cases h2:(a.offset == b.offset)
 ·refine gq62 (ze h1 h2) ?_
  refine zw hl ?_
  exact fin _ (decide_eq_false fun h=>by subst h;simp at h2)
 cases h3:(a.rec_ == b.rec_)
 ·refine gq64 (ze h1 (ze h2 h3)) ?_
  refine zw hl ?_
  exact fin _ (decide_eq_false fun h=>by subst h;simp at h3)
 cases h4:(a.index == b.index)
 ·refine gq64 (ze h1 (ze h2 (ze h3 h4))) ?_
  refine zw hl ?_
  exact fin _ (decide_eq_false fun h=>by subst h;simp at h4)
 cases h5:(a.count == b.count)
 ·refine gq64 (ze h1 (ze h2 (ze h3 (ze h4 h5)))) ?_
  refine zw hl ?_
  exact fin _ (decide_eq_false fun h=>by subst h;simp at h5)
 refine gq65 (ze h1 (ze h2 (ze h3 (ze h4 h5)))) ?_
 refine ztR (a:=a.cert) (b:=b.cert) ha.signs ?_
 cases h6:decide (a.cert=b.cert)
 ·refine zB h6 ?_
  refine zw hl ?_
  exact fin _ (decide_eq_false fun h=>by subst h;simp at h6)
 cases h7:((a.headers.length:Int) == (b.headers.length:Int))
 ·refine gq62 (ze h6 (ze hla1 (ze hlb1 h7))) ?_
  refine zw hl ?_
  exact fin _ (decide_eq_false fun h=>by subst h;simp at h7)
 cases h8:((a.path.length:Int) == (b.path.length:Int))
 ·refine gq62 (ze h6 (ze hla1 (ze hlb1 (ze h7 (ze hla2 (ze hlb2 h8)))))) ?_
  refine zw hl ?_
  exact fin _ (decide_eq_false fun h=>by subst h;simp at h8)
 have hl2:a.headers.length=b.headers.length:=by simp at h7;omega
 have hl3:a.path.length=b.path.length:=by simp at h8;omega
 have hla:((a.headers.map hdrD).length)=a.headers.length:=List.length_map ..
 have hlb:((b.headers.map hdrD).length)=b.headers.length:=List.length_map ..
 refine gq62 (ze h6 (ze hla1 (ze hlb1 (ze h7 (ze hla2 (ze hlb2 (ze h8 (ze hla hlb)))))))) ?_
 refine zm a.headers.length (fun k vs s=>vs = [.d (.int .i64 k)]/\s = σ++[proofO a,proofO b]/\a.headers.take k=b.headers.take k) ⟨rfl,rfl,by simp⟩ ?_
 rintro k vs s hk ⟨rfl,rfl,htk⟩
 by_cases hlt:k<a.headers.length
 ·have hd:decide ((k:Int)<(a.headers.length:Int))=true:=by simp;omega
  have hx:a.headers[k]? = some a.headers[k]:=by simp [hlt]
  have hy:b.headers[k]? = some (b.headers[k]'(by omega)):=List.getElem?_eq_getElem _
  have hgx:=zR (f:=hdrD) hx
  have hgy:=zR (f:=hdrD) hy
  obtain ⟨x,hxe⟩:∃ x,a.headers[k]=x:=⟨_,rfl⟩
  obtain ⟨y,hye⟩:∃ y,(b.headers[k]'(by omega))=y:=⟨_,rfl⟩
  rw [hxe] at hx hgx
  rw [hye] at hy hgy
  have hxy:x=y ↔ ((x.seq == y.seq && (x.prev == y.prev && (x.batch == y.batch && (x.root == y.root && x.state == y.state)))))=true:=by cases x;cases y;simp
  cases he2:((x.seq == y.seq && (x.prev == y.prev && (x.batch == y.batch && (x.root == y.root && x.state == y.state)))))
  ·refine gq57 (ze hd (ze hgx (ze hgy (ze hla (ze hlb he2))))) ?_
   refine zw hl ?_
   refine fin _ (decide_eq_false fun h => ?_)
   subst h
   rw [hx] at hy
   rw [hxy.1 (Option.some.inj hy)] at he2;cases he2
  ·refine gq57 (ze hd (ze hgx (ze hgy (ze hla (ze hlb (ze he2 (wkc k (by omega)))))))) ?_
   exact zaz.next hlt ⟨rfl,rfl,zbM hx hy htk (hxy.2 he2)⟩
 have hd:decide ((k:Int)<(a.headers.length:Int))=false:=by simp;omega
 have heq_headers:a.headers=b.headers:=zcH hl2 (k:=k) (by omega) htk
 refine zB (ze hd (ze hla1 (ze hlb1 (ze hla2 hlb2)))) ?_
 have hla:((a.path.map (fun t => [D.int .i64 t])).length)=a.path.length:=List.length_map ..
 have hlb:((b.path.map (fun t => [D.int .i64 t])).length)=b.path.length:=List.length_map ..
 refine gq62 (ze h6 (ze hla1 (ze hlb1 (ze h7 (ze hla2 (ze hlb2 (ze h8 (ze hla hlb)))))))) ?_
 refine zm a.path.length (fun k vs s=>vs = [.d (.int .i64 k)]/\s = σ++[proofO a,proofO b]/\a.path.take k=b.path.take k) ⟨rfl,rfl,by simp⟩ ?_
 rintro k vs s hk ⟨rfl,rfl,htk⟩
 by_cases hlt:k<a.path.length
 ·have hd:decide ((k:Int)<(a.path.length:Int))=true:=by simp;omega
  have hx:a.path[k]? = some a.path[k]:=by simp [hlt]
  have hy:b.path[k]? = some (b.path[k]'(by omega)):=List.getElem?_eq_getElem _
  have hgx:=zR (f:=(fun t => [D.int .i64 t])) hx
  have hgy:=zR (f:=(fun t => [D.int .i64 t])) hy
  obtain ⟨x,hxe⟩:∃ x,a.path[k]=x:=⟨_,rfl⟩
  obtain ⟨y,hye⟩:∃ y,(b.path[k]'(by omega))=y:=⟨_,rfl⟩
  rw [hxe] at hx hgx
  rw [hye] at hy hgy
  have hxy:x=y ↔ (x == y)=true:=by simp
  cases he2:(x == y)
  ·refine gq57 (ze hd (ze hgx (ze hgy (ze hla (ze hlb he2))))) ?_
   refine zw hl ?_
   refine fin _ (decide_eq_false fun h => ?_)
   subst h
   rw [hx] at hy
   rw [hxy.1 (Option.some.inj hy)] at he2;cases he2
  ·refine gq57 (ze hd (ze hgx (ze hgy (ze hla (ze hlb (ze he2 (wkc k (by omega)))))))) ?_
   exact zaz.next hlt ⟨rfl,rfl,zbM hx hy htk (hxy.2 he2)⟩
 have hd:decide ((k:Int)<(a.path.length:Int))=false:=by simp;omega
 have heq_path:a.path=b.path:=zcH hl3 (k:=k) (by omega) htk
 refine zB (ze hd (ze hla hlb)) ?_
 refine zw hl ?_
 exact fin _ (decide_eq_true (by cases a;cases b;simp_all))
theorem gq66 {A P Q:Prop} (a:A) (h:Q) (e:A->Hd Q->P:=by intro a h;(repeat' first | simp -dsimp only [↓zeN, ↓zav, ↓zbq, ↓zeO, ↓zeH, ↓zeF, ↓zeI, ↓zeG, ↓zbv, ↓zbr, ↓zbw, ↓zbs, ↓zeJ, ↓zbp, ↓zbx, ↓zbt, ↓zby, ↓zbu, ↓zeE, ↓zeM, ↓zbo, ↓zbz, ↓zeC, ↓zeB, ↓zeD,iN,bT,bF,eN, ↓zcB, ↓unC, ↓zV, ↓zM, ↓zN, ↓zQ, ↓zY, ↓zal, ↓zdb, ↓zak, ↓zaH, ↓zT, ↓zf, ↓zj, ↓zbZ, ↓zb, ↓zag, ↓zE, ↓zaI, ↓zaO, ↓zc, ↓zy, ↓zl, ↓zG, ↓zaa, ↓zdm, ↓zdw, ↓zaj, ↓zar, ↓zaK, ↓zaS, ↓zaY, ↓zq, ↓zai, ↓zO, ↓zu, ↓zX,zdx,zbg,zbb,unA,zdd,bnd,zdY,zaf,zP,zdR,dm,dm1,zA,zae,zeh,zeg,zI,Q0,Q1,Q2,Q3,Q4,Q5,zZ,zC,zt,zL,zF,Q6,Q7,Q8,Q9,Q10,Q11,Q12,Q13,Q14,Nat.reduceAdd,Q15,Int.reduceToNat,Q16,Q17,Q18,Q19,Q20,reduceIte,Q21,Q22,zH,rep,zac,zel,toD,zah,Q23,Q24,Q25,Q26,Q27,Q28,Nat.reduceLeDiff,Q29,Nat.reduceSub,Q30,Q31,Q32,sc,Q33,Q34,Q35,Q36,Q37,Q26,Q38,Q39,zoy,zov,zos,zoz,zfG,zow,zot,zox,zou,zfF,zfH,zoB,zoC,Bool.not_true,Bool.not_false,List.length_map,beq_self_eq_true,bne,zdX,a] | with_reducible refine zoE ?_ | fail);exact h.go):P:=e a ⟨h⟩
theorem c_kSame {σ:List zh} {a b:zee} (ha:zbP a) (hb:zbP b) {K:KT} (hK:K (.d (.bool (decide (a=b)))) σ):zo Tryz.prog zqi [zge a,zge b] σ K:=by
 refine zd zyz.is rfl fun hl _=>zyz.goes ?_
 have fin:∀ z,decide (a=b)=z->K (.d (.bool z)) σ:=fun z h=>h ▸ hK
 clear hK
 simp only [zzl,iN,bT,bF,eN]
 have hla:((zan a.changes).length)=a.changes.length:=List.length_map ..
 have hlb:((zan b.changes).length)=b.changes.length:=List.length_map ..
 have hal:=ha.changes
 cases h1:(a.kind == b.kind)
 ·refine gq62 h1 ?_
  refine zw hl ?_
  exact fin _ (decide_eq_false fun h=>by subst h;simp at h1)
 cases h2:(a.src == b.src)
 ·refine gq62 (ze h1 h2) ?_
  refine zw hl ?_
  exact fin _ (decide_eq_false fun h=>by subst h;simp at h2)
 cases h3:(a.view == b.view)
 ·refine gq62 (ze h1 (ze h2 h3)) ?_
  refine zw hl ?_
  exact fin _ (decide_eq_false fun h=>by subst h;simp at h3)
 cases h4:(a.seq == b.seq)
 ·refine gq62 (ze h1 (ze h2 (ze h3 h4))) ?_
  refine zw hl ?_
  exact fin _ (decide_eq_false fun h=>by subst h;simp at h4)
 cases h5:(a.dig == b.dig)
 ·refine gq62 (ze h1 (ze h2 (ze h3 (ze h4 h5)))) ?_
  refine zw hl ?_
  exact fin _ (decide_eq_false fun h=>by subst h;simp at h5)
 cases h6:(a.client == b.client)
 ·refine gq62 (ze h1 (ze h2 (ze h3 (ze h4 (ze h5 h6))))) ?_
  refine zw hl ?_
  exact fin _ (decide_eq_false fun h=>by subst h;simp at h6)
 cases h7:(a.time == b.time)
 ·refine gq62 (ze h1 (ze h2 (ze h3 (ze h4 (ze h5 (ze h6 h7)))))) ?_
  refine zw hl ?_
  exact fin _ (decide_eq_false fun h=>by subst h;simp at h7)
 cases h8:(a.rerr == b.rerr && a.roff == b.roff)
 ·refine gq57 (ze h1 (ze h2 (ze h3 (ze h4 (ze h5 (ze h6 (ze h7 h8))))))) ?_
  refine zw hl ?_
  exact fin _ (decide_eq_false fun h=>by subst h;simp at h8)
 cases h9:(a.topic == b.topic)
 ·refine gq57 (ze h1 (ze h2 (ze h3 (ze h4 (ze h5 (ze h6 (ze h7 (ze h8 h9)))))))) ?_
  refine zw hl ?_
  exact fin _ (decide_eq_false fun h=>by subst h;simp at h9)
 cases h10:(a.offset == b.offset)
 ·refine gq57 (ze h1 (ze h2 (ze h3 (ze h4 (ze h5 (ze h6 (ze h7 (ze h8 (ze h9 h10))))))))) ?_
  refine zw hl ?_
  exact fin _ (decide_eq_false fun h=>by subst h;simp at h10)
 cases h11:(a.key == b.key && a.sdig == b.sdig)
 ·refine gq57 (ze h1 (ze h2 (ze h3 (ze h4 (ze h5 (ze h6 (ze h7 (ze h8 (ze h9 (ze h10 h11)))))))))) ?_
  refine zw hl ?_
  exact fin _ (decide_eq_false fun h=>by subst h;simp at h11)
 refine gq66 (ze h1 (ze h2 (ze h3 (ze h4 (ze h5 (ze h6 (ze h7 (ze h8 (ze h9 (ze h10 h11)))))))))) ?_
 refine zAi ha.batchS hb.batchS ?_
 cases h12:decide (a.batch=b.batch)
 ·refine zB h12 ?_
  refine zw hl ?_
  exact fin _ (decide_eq_false fun h=>by subst h;simp at h12)
 refine gq58 h12 ?_
 refine ztR (a:=a.cert) (b:=b.cert) ha.signs ?_
 cases h13:decide (a.cert=b.cert)
 ·refine zB h13 ?_
  refine zw hl ?_
  exact fin _ (decide_eq_false fun h=>by subst h;simp at h13)
 refine gq58 h13 ?_
 refine zAh ha.entries (fun x hx=>(ha.entry x hx).2) (fun x hx=>(hb.entry x hx).2) ?_
 cases h14:decide (a.entries=b.entries)
 ·refine zB h14 ?_
  refine zw hl ?_
  exact fin _ (decide_eq_false fun h=>by subst h;simp at h14)
 cases h15:(a.state == b.state)
 ·refine gq64 (ze h14 h15) ?_
  refine zw hl ?_
  exact fin _ (decide_eq_false fun h=>by subst h;simp at h15)
 refine gq65 (ze h14 h15) ?_
 refine c_kSameProof (a:=a.proof) (b:=b.proof) ha.proof ?_
 cases h16:decide (a.proof=b.proof)
 ·refine zB h16 ?_
  refine zw hl ?_
  exact fin _ (decide_eq_false fun h=>by subst h;simp at h16)
 cases h17:((a.changes.length:Int) == (b.changes.length:Int))
 ·refine gq62 (ze h16 (ze hla (ze hlb h17))) ?_
  refine zw hl ?_
  exact fin _ (decide_eq_false fun h=>by subst h;simp at h17)
 have hl2:a.changes.length=b.changes.length:=by simp at h17;omega
 have hla:((a.changes.map zaE).length)=a.changes.length:=List.length_map ..
 have hlb:((b.changes.map zaE).length)=b.changes.length:=List.length_map ..
 refine gq62 (ze h16 (ze hla (ze hlb (ze h17 (ze hla hlb))))) ?_
 refine zm a.changes.length (fun k vs s=>vs = [.d (.int .i64 k)]/\s = σ++[zqE a,zqE b]/\a.changes.take k=b.changes.take k) ⟨rfl,rfl,by simp⟩ ?_
 rintro k vs s hk ⟨rfl,rfl,htk⟩
 by_cases hlt:k<a.changes.length
 ·have hd:decide ((k:Int)<(a.changes.length:Int))=true:=by simp;omega
  have hx:a.changes[k]? = some a.changes[k]:=by simp [hlt]
  have hy:b.changes[k]? = some (b.changes[k]'(by omega)):=List.getElem?_eq_getElem _
  have hgx:=zR (f:=zaE) hx
  have hgy:=zR (f:=zaE) hy
  have hxs:=(ha.change _ (List.getElem_mem hlt)).2
  have hys:=(hb.change _ (List.getElem_mem (show k<b.changes.length by omega))).2
  obtain ⟨x,hxe⟩:∃ x,a.changes[k]=x:=⟨_,rfl⟩
  obtain ⟨y,hye⟩:∃ y,(b.changes[k]'(by omega))=y:=⟨_,rfl⟩
  rw [hxe] at hx hgx hxs
  rw [hye] at hy hgy hys
  refine zhH (ze hd (ze hgx (ze hgy (ze hla hlb)))) ?_
  refine zAm (a:=x) (b:=y) hxs hys ?_
  cases he:decide (x=y)
  ·refine zab ?_
   refine zw hl ?_
   refine fin _ (decide_eq_false fun h => ?_)
   subst h
   rw [hx] at hy
   have:=Option.some.inj hy
   simp [this] at he
  ·refine zB (wkc k (by omega)) ?_
   exact zaz.next hlt ⟨rfl,rfl,zbM hx hy htk (by simpa using he)⟩
 have hd:decide ((k:Int)<(a.changes.length:Int))=false:=by simp;omega
 have heq_changes:a.changes=b.changes:=zcH hl2 (k:=k) (by omega) htk
 refine zB (ze hd (ze hla hlb)) ?_
 refine zw hl ?_
 exact fin _ (decide_eq_true (by cases a;cases b;simp_all))
end Go.Proofs.YtpgahkdjkanblaaGreat
