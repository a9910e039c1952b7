/- Contracts: messages that are the same, the document's. -/
import Derived.Test.YtfgbofkdhfjegaaGreatRe1
import Derived.Test.YtfgbofkdhfjegaaGreatCk4
set_option linter.all false
set_option maxRecDepth 100000
namespace Go.Proofs.YtfgbofkdhfjegaaGreat
open Go.AW
theorem c_kSamePrep {σ:List zh} {a b:zoQ} (ha:zpv a) (hb:zpv b) {K:KT} (hK:K (.d (.bool (decide (a=b)))) σ):zp Tryz.prog zgI [.agg [.d (.int .i64 a.view),.d (.int .i64 a.seq),.d (.int .i64 a.dig),.d (.int .i64 a.fkey),.d (.int .i64 a.fdig),.d (.slice (zaI a.signs)),.d (.slice (zda a.batch))],.agg [.d (.int .i64 b.view),.d (.int .i64 b.seq),.d (.int .i64 b.dig),.d (.int .i64 b.fkey),.d (.int .i64 b.fdig),.d (.slice (zaI b.signs)),.d (.slice (zda b.batch))]] σ K:=by
 refine zeW zqN fun hl => ?_
 have fin:∀ z,decide (a=b)=z->K (.d (.bool z)) σ:=fun z h=>h▸hK
 clear hK
 simp only [zkp,iN,bT,bF,eN]
 cases h1:(a.view==b.view)
 ·refine zaQ h1 ?_
  refine zI hl ?_
  exact fin _ (decide_eq_false fun h=>by subst h;simp at h1)
 cases h2:(a.seq==b.seq)
 ·refine zaQ (zP h1 h2) ?_
  refine zI hl ?_
  exact fin _ (decide_eq_false fun h=>by subst h;simp at h2)
 cases h3:(a.dig==b.dig)
 ·refine zaQ (zP h1 (zP h2 h3)) ?_
  refine zI hl ?_
  exact fin _ (decide_eq_false fun h=>by subst h;simp at h3)
 cases h4:(a.fkey==b.fkey&&a.fdig==b.fdig)
 ·refine zqi (zP h1 (zP h2 (zP h3 h4))) ?_
  refine zI hl ?_
  exact fin _ (decide_eq_false fun h=>by subst h;simp at h4)
 refine zqi (zP h1 (zP h2 (zP h3 h4))) ?_
 refine zvo ha.signs ?_
 cases h5:decide (a.signs=b.signs)
 ·refine zaQ h5 ?_
  refine zI hl ?_
  exact fin _ (decide_eq_false fun h=>by subst h;simp at h5)
 refine zyz h5 ?_
 refine zyW ha.batch hb.batch ?_
 cases h6:decide (a.batch=b.batch)
 ·refine zaQ h6 ?_
  refine zI hl ?_
  exact fin _ (decide_eq_false fun h=>by subst h;simp at h6)
 refine zaQ h6 ?_
 refine zI hl ?_
 exact fin _ (decide_eq_true (by cases a;cases b;simp_all))
theorem gq53 {A P Q:Prop} (a:A) (h:Q) (e:A->Hd Q->P:=by intro a h;(repeat' first|simp -dsimp only [↓zeU, ↓zaA, ↓zbp, ↓zeV, ↓zeO, ↓zeM, ↓zeP, ↓zeN, ↓zbu, ↓zbq, ↓zbv, ↓zbr, ↓zeQ, ↓zbo, ↓zbw, ↓zbs, ↓zbx, ↓zbt, ↓zeL, ↓zeT, ↓zbn, ↓zby, ↓zeG, ↓zeF, ↓zeK,iN,bT,bF,eN, ↓zco, ↓unC, ↓zX, ↓zM, ↓zN, ↓zQ, ↓zZ, ↓zai, ↓zcv, ↓zaf, ↓zaS, ↓zV, ↓zl, ↓zm, ↓zbg, ↓ze, ↓zae, ↓zC, ↓zaM, ↓zaT, ↓zd, ↓zA, ↓zr, ↓zD, ↓zao, ↓zcY, ↓zdn, ↓zap, ↓zaw, ↓zaN, ↓zaZ, ↓zbk, ↓zw, ↓zaj, ↓zO, ↓zE, ↓zY,zdr,zbm,zbl,unA,zdo,bnd,zdL,zab,zS,zdI,dm,dm1,zG,zak,zdZ,zdY,zH,Q0,Q1,Q2,Q3,Q4,Q5,zW,zx,zy,zT,zL,Q6,Q7,Q8,Q9,Q10,Q11,Q12,Q13,Q14,Nat.reduceAdd,Q15,Int.reduceToNat,Q16,Q17,Q18,Q19,Q20,reduceIte,Q21,Q22,zF,rep,zaa,zeC,toD,zag,Q23,Q24,Q25,Q26,Q27,Q28,Nat.reduceLeDiff,Q29,Nat.reduceSub,Q30,Q31,Q32,sc,Q33,Q34,Q35,Q36,Q37,Q26,Q38,Q39,zis,zio,zil,zit,zcN,ziq,zim,zir,zin,zcM,zcO,ziu,ziv,Bool.not_true,Bool.not_false,List.length_map,Bool.and_false,Bool.and_self,Bool.false_and,Bool.not_false,Bool.not_true,Bool.true_and,Int.toNat_natCast,Int.toNat_zero,List.drop_zero,List.length_map,List.length_nil,List.nil_append,List.take_length,Nat.sub_zero,Nat.zero_add,Option.isSome_none,Option.isSome_some,Option.map_none,Option.map_some,zav,beq_self_eq_true,bft,bne,bne_self_eq_false,btf,a]|with_reducible refine zix ?_|fail);exact h.go):P:=e a ⟨h⟩
theorem zzi {σ:List zh} {a b:zfK} (ha:zka a) (hb:zka b) {K:KT} (hK:K (.d (.bool (decide (a=b)))) σ):zp Tryz.prog zig [.agg [.d (.int .i64 a.view),.d (.int .i64 a.src),.d (.int .i64 a.cert.seq),.d (.int .i64 a.cert.dig),.d (.slice (zaI a.cert.signs)),.d (.slice (zqt a.above)),.d (.int .i64 a.key),.d (.int .i64 a.dig)],.agg [.d (.int .i64 b.view),.d (.int .i64 b.src),.d (.int .i64 b.cert.seq),.d (.int .i64 b.cert.dig),.d (.slice (zaI b.cert.signs)),.d (.slice (zqt b.above)),.d (.int .i64 b.key),.d (.int .i64 b.dig)]] σ K:=by
 refine zeW ztx fun hl => ?_
 have fin:∀ z,decide (a=b)=z->K (.d (.bool z)) σ:=fun z h=>h▸hK
 clear hK
 simp only [zmD,iN,bT,bF,eN]
 have hla:((a.above.map zjU).length)=a.above.length:=List.length_map ..
 have hlb:((b.above.map zjU).length)=b.above.length:=List.length_map ..
 have hal:=ha.above
 cases h1:(a.view==b.view)
 ·refine gq53 h1 ?_
  refine zI hl ?_
  exact fin _ (decide_eq_false fun h=>by subst h;simp at h1)
 cases h2:(a.src==b.src)
 ·refine gq53 (zP h1 h2) ?_
  refine zI hl ?_
  exact fin _ (decide_eq_false fun h=>by subst h;simp at h2)
 refine gq53 (zP h1 h2) ?_
 refine zsx (a:=a.cert) (b:=b.cert) ha.signs ?_
 cases h3:decide (a.cert=b.cert)
 ·refine zaQ h3 ?_
  refine zI hl ?_
  exact fin _ (decide_eq_false fun h=>by subst h;simp at h3)
 cases h4:(a.key==b.key&&a.dig==b.dig)
 ·refine zqi (zP h3 h4) ?_
  refine zI hl ?_
  exact fin _ (decide_eq_false fun h=>by subst h;simp at h4)
 cases h5:((a.above.length:Int)==(b.above.length:Int))
 ·refine gq49 (zP h3 (zP h4 (zP hla (zP hlb h5)))) ?_
  refine zI hl ?_
  exact fin _ (decide_eq_false fun h=>by subst h;simp at h5)
 have hl2:a.above.length=b.above.length:=by simp at h5;omega
 have hla:((a.above.map zjU).length)=a.above.length:=List.length_map ..
 have hlb:((b.above.map zjU).length)=b.above.length:=List.length_map ..
 refine gq49 (zP h3 (zP h4 (zP hla (zP hlb (zP h5 (zP hla hlb)))))) ?_
 refine zo a.above.length (fun k vs s=>vs = [.d (.int .i64 k)]/\s = σ++[.box (changeL a),.box (changeL b)]/\a.above.take k=b.above.take k) ⟨rfl,rfl,by simp⟩ ?_
 rintro k vs s hk ⟨rfl,rfl,htk⟩
 by_cases hlt:k<a.above.length
 ·have hd:decide ((k:Int)<(a.above.length:Int))=true:=by simp;omega
  have hx:a.above[k]? = some a.above[k]:=by simp [hlt]
  have hy:b.above[k]? = some (b.above[k]'(by omega)):=List.getElem?_eq_getElem _
  have hgx:=zK (f:=zjU) hx
  have hgy:=zK (f:=zjU) hy
  have hxs:=ha.each _ (List.getElem_mem hlt)
  have hys:=hb.each _ (List.getElem_mem (show k<b.above.length by omega))
  obtain ⟨x,hxe⟩:∃ x,a.above[k]=x:=⟨_,rfl⟩
  obtain ⟨y,hye⟩:∃ y,(b.above[k]'(by omega))=y:=⟨_,rfl⟩
  rw [hxe] at hx hgx hxs
  rw [hye] at hy hgy hys
  refine zqi (zP hd (zP hgx (zP hgy (zP hla hlb)))) ?_
  refine c_kSamePrep (a:=x) (b:=y) hxs hys ?_
  cases he:decide (x=y)
  ·refine zdS ?_
   refine zI hl ?_
   refine fin _ (decide_eq_false fun h => ?_)
   subst h
   rw [hx] at hy
   have:=Option.some.inj hy
   simp [this] at he
  ·refine zaQ (wkc k (by omega)) ?_
   exact zas.next hlt ⟨rfl,rfl,zbc hx hy htk (by simpa using he)⟩
 have hd:decide ((k:Int)<(a.above.length:Int))=false:=by simp;omega
 have heq_above:a.above=b.above:=zbN hl2 (k:=k) (by omega) htk
 refine zaQ (zP hd (zP hla hlb)) ?_
 refine zI hl ?_
 exact fin _ (decide_eq_true (by cases a;cases b;simp_all))
theorem gq54 {A P Q:Prop} (a:A) (h:Q) (e:A->Hd Q->P:=by intro a h;(repeat' first|simp -dsimp only [↓zeU, ↓zaA, ↓zbp, ↓zeV, ↓zeO, ↓zeM, ↓zeP, ↓zeN, ↓zbu, ↓zbq, ↓zbv, ↓zbr, ↓zeQ, ↓zbo, ↓zbw, ↓zbs, ↓zbx, ↓zbt, ↓zeL, ↓zeT, ↓zbn, ↓zby, ↓zeG, ↓zeF, ↓zeK,iN,bT,bF,eN, ↓zco, ↓unC, ↓zX, ↓zM, ↓zN, ↓zQ, ↓zZ, ↓zai, ↓zcv, ↓zaf, ↓zaS, ↓zV, ↓zl, ↓zm, ↓zbg, ↓ze, ↓zae, ↓zC, ↓zaM, ↓zaT, ↓zd, ↓zA, ↓zr, ↓zD, ↓zao, ↓zcY, ↓zdn, ↓zap, ↓zaw, ↓zaN, ↓zaZ, ↓zbk, ↓zw, ↓zaj, ↓zO, ↓zE, ↓zY,zdr,zbm,zbl,unA,zdo,bnd,zdL,zab,zS,zdI,dm,dm1,zG,zak,zdZ,zdY,zH,Q0,Q1,Q2,Q3,Q4,Q5,zW,zx,zy,zT,zL,Q6,Q7,Q8,Q9,Q10,Q11,Q12,Q13,Q14,Nat.reduceAdd,Q15,Int.reduceToNat,Q16,Q17,Q18,Q19,Q20,reduceIte,Q21,Q22,zF,rep,zaa,zeC,toD,zag,Q23,Q24,Q25,Q26,Q27,Q28,Nat.reduceLeDiff,Q29,Nat.reduceSub,Q30,Q31,Q32,sc,Q33,Q34,Q35,Q36,Q37,Q26,Q38,Q39,zis,zio,zil,zit,zcN,ziq,zim,zir,zin,zcM,zcO,ziu,ziv,Bool.not_true,Bool.not_false,List.length_map,Bool.and_false,Bool.and_self,Bool.false_and,Bool.not_false,Bool.not_true,Bool.true_and,Int.toNat_natCast,Int.toNat_zero,List.drop_zero,List.length_map,List.length_nil,List.nil_append,List.take_length,Nat.sub_zero,Nat.zero_add,Option.isSome_none,Option.isSome_some,Option.map_none,Option.map_some,zav,beq_self_eq_true,bft,bne,bne_self_eq_false,btf,zgr,zeA,zfQ,zaN,mgetR,zaZ,a]|with_reducible refine zix ?_|fail);exact h.go):P:=e a ⟨h⟩
theorem c_kSameProof {σ:List zh} {a b:zbW} (ha:zfe a) {K:KT} (hK:K (.d (.bool (decide (a=b)))) σ):zp Tryz.prog zjn [zfB a,zfB b] σ K:=by
 refine zeW zuU fun hl => ?_
 have fin:∀ z,decide (a=b)=z->K (.d (.bool z)) σ:=fun z h=>h▸hK
 clear hK
 simp only [znW,iN,bT,bF,eN]
 have hla1:((zgR a.headers).length)=a.headers.length:=List.length_map ..
 have hlb1:((zgR b.headers).length)=b.headers.length:=List.length_map ..
 have hla2:((zcH a.path).length)=a.path.length:=List.length_map ..
 have hlb2:((zcH b.path).length)=b.path.length:=List.length_map ..
 have hal1:=ha.headers
 have hal2:=ha.path
 cases h1:(a.topic==b.topic)
 ·refine gq53 h1 ?_
  refine zI hl ?_
  exact fin _ (decide_eq_false fun h=>by subst h;simp at h1)
 cases h2:(a.offset==b.offset)
 ·refine gq53 (zP h1 h2) ?_
  refine zI hl ?_
  exact fin _ (decide_eq_false fun h=>by subst h;simp at h2)
 cases h3:(a.rec_==b.rec_)
 ·refine gq54 (zP h1 (zP h2 h3)) ?_
  refine zI hl ?_
  exact fin _ (decide_eq_false fun h=>by subst h;simp at h3)
 cases h4:(a.index==b.index)
 ·refine gq54 (zP h1 (zP h2 (zP h3 h4))) ?_
  refine zI hl ?_
  exact fin _ (decide_eq_false fun h=>by subst h;simp at h4)
 cases h5:(a.count==b.count)
 ·refine gq54 (zP h1 (zP h2 (zP h3 (zP h4 h5)))) ?_
  refine zI hl ?_
  exact fin _ (decide_eq_false fun h=>by subst h;simp at h5)
 refine gq54 (zP h1 (zP h2 (zP h3 (zP h4 h5)))) ?_
 refine zsx (a:=a.cert) (b:=b.cert) ha.signs ?_
 cases h6:decide (a.cert=b.cert)
 ·refine zaQ h6 ?_
  refine zI hl ?_
  exact fin _ (decide_eq_false fun h=>by subst h;simp at h6)
 cases h7:((a.headers.length:Int)==(b.headers.length:Int))
 ·refine gq53 (zP h6 (zP hla1 (zP hlb1 h7))) ?_
  refine zI hl ?_
  exact fin _ (decide_eq_false fun h=>by subst h;simp at h7)
 cases h8:((a.path.length:Int)==(b.path.length:Int))
 ·refine gq53 (zP h6 (zP hla1 (zP hlb1 (zP h7 (zP hla2 (zP hlb2 h8)))))) ?_
  refine zI hl ?_
  exact fin _ (decide_eq_false fun h=>by subst h;simp at h8)
 have hl2:a.headers.length=b.headers.length:=by simp at h7;omega
 have hl3:a.path.length=b.path.length:=by simp at h8;omega
 have hla:((a.headers.map ztT).length)=a.headers.length:=List.length_map ..
 have hlb:((b.headers.map ztT).length)=b.headers.length:=List.length_map ..
 refine gq53 (zP h6 (zP hla1 (zP hlb1 (zP h7 (zP hla2 (zP hlb2 (zP h8 (zP hla hlb)))))))) ?_
 refine zo a.headers.length (fun k vs s=>vs = [.d (.int .i64 k)]/\s = σ++[zhN a,zhN b]/\a.headers.take k=b.headers.take k) ⟨rfl,rfl,by simp⟩ ?_
 rintro k vs s hk ⟨rfl,rfl,htk⟩
 by_cases hlt:k<a.headers.length
 ·have hd:decide ((k:Int)<(a.headers.length:Int))=true:=by simp;omega
  have hx:a.headers[k]? = some a.headers[k]:=by simp [hlt]
  have hy:b.headers[k]? = some (b.headers[k]'(by omega)):=List.getElem?_eq_getElem _
  have hgx:=zK (f:=ztT) hx
  have hgy:=zK (f:=ztT) hy
  obtain ⟨x,hxe⟩:∃ x,a.headers[k]=x:=⟨_,rfl⟩
  obtain ⟨y,hye⟩:∃ y,(b.headers[k]'(by omega))=y:=⟨_,rfl⟩
  rw [hxe] at hx hgx
  rw [hye] at hy hgy
  have hxy:x=y↔((x.seq==y.seq&&(x.prev==y.prev&&(x.batch==y.batch&&(x.root==y.root&&x.state==y.state)))))=true:=by cases x;cases y;simp
  cases he2:((x.seq==y.seq&&(x.prev==y.prev&&(x.batch==y.batch&&(x.root==y.root&&x.state==y.state)))))
  ·refine gq49 (zP hd (zP hgx (zP hgy (zP hla (zP hlb he2))))) ?_
   refine zI hl ?_
   refine fin _ (decide_eq_false fun h => ?_)
   subst h
   rw [hx] at hy
   rw [hxy.1 (Option.some.inj hy)] at he2;cases he2
  ·refine gq49 (zP hd (zP hgx (zP hgy (zP hla (zP hlb (zP he2 (wkc k (by omega)))))))) ?_
   exact zas.next hlt ⟨rfl,rfl,zbc hx hy htk (hxy.2 he2)⟩
 have hd:decide ((k:Int)<(a.headers.length:Int))=false:=by simp;omega
 have heq_headers:a.headers=b.headers:=zbN hl2 (k:=k) (by omega) htk
 refine zaQ (zP hd (zP hla1 (zP hlb1 (zP hla2 hlb2)))) ?_
 have hla:((a.path.map (fun t => [D.int .i64 t])).length)=a.path.length:=List.length_map ..
 have hlb:((b.path.map (fun t => [D.int .i64 t])).length)=b.path.length:=List.length_map ..
 refine gq53 (zP h6 (zP hla1 (zP hlb1 (zP h7 (zP hla2 (zP hlb2 (zP h8 (zP hla hlb)))))))) ?_
 refine zo a.path.length (fun k vs s=>vs = [.d (.int .i64 k)]/\s = σ++[zhN a,zhN b]/\a.path.take k=b.path.take k) ⟨rfl,rfl,by simp⟩ ?_
 rintro k vs s hk ⟨rfl,rfl,htk⟩
 by_cases hlt:k<a.path.length
 ·have hd:decide ((k:Int)<(a.path.length:Int))=true:=by simp;omega
  have hx:a.path[k]? = some a.path[k]:=by simp [hlt]
  have hy:b.path[k]? = some (b.path[k]'(by omega)):=List.getElem?_eq_getElem _
  have hgx:=zK (f:=(fun t => [D.int .i64 t])) hx
  have hgy:=zK (f:=(fun t => [D.int .i64 t])) hy
  obtain ⟨x,hxe⟩:∃ x,a.path[k]=x:=⟨_,rfl⟩
  obtain ⟨y,hye⟩:∃ y,(b.path[k]'(by omega))=y:=⟨_,rfl⟩
  rw [hxe] at hx hgx
  rw [hye] at hy hgy
  have hxy:x=y↔(x==y)=true:=by simp
  cases he2:(x==y)
  ·refine gq49 (zP hd (zP hgx (zP hgy (zP hla (zP hlb he2))))) ?_
   refine zI hl ?_
   refine fin _ (decide_eq_false fun h => ?_)
   subst h
   rw [hx] at hy
   rw [hxy.1 (Option.some.inj hy)] at he2;cases he2
  ·refine gq49 (zP hd (zP hgx (zP hgy (zP hla (zP hlb (zP he2 (wkc k (by omega)))))))) ?_
   exact zas.next hlt ⟨rfl,rfl,zbc hx hy htk (hxy.2 he2)⟩
 have hd:decide ((k:Int)<(a.path.length:Int))=false:=by simp;omega
 have heq_path:a.path=b.path:=zbN hl3 (k:=k) (by omega) htk
 refine zaQ (zP hd (zP hla hlb)) ?_
 refine zI hl ?_
 exact fin _ (decide_eq_true (by cases a;cases b;simp_all))
theorem c_kSame {σ:List zh} {a b:zjF} (ha:zdD a) (hb:zdD b) {K:KT} (hK:K (.d (.bool (decide (a=b)))) σ):zp Tryz.prog zor [zwl a,zwl b] σ K:=by
 refine zeW e_r10_Same fun hl => ?_
 have fin:∀ z,decide (a=b)=z->K (.d (.bool z)) σ:=fun z h=>h▸hK
 clear hK
 simp only [zxQ,iN,bT,bF,eN]
 have hla:((zkl a.changes).length)=a.changes.length:=List.length_map ..
 have hlb:((zkl b.changes).length)=b.changes.length:=List.length_map ..
 have hal:=ha.changes
 cases h1:(a.kind==b.kind)
 ·refine gq53 h1 ?_
  refine zI hl ?_
  exact fin _ (decide_eq_false fun h=>by subst h;simp at h1)
 cases h2:(a.src==b.src)
 ·refine gq53 (zP h1 h2) ?_
  refine zI hl ?_
  exact fin _ (decide_eq_false fun h=>by subst h;simp at h2)
 cases h3:(a.view==b.view)
 ·refine gq53 (zP h1 (zP h2 h3)) ?_
  refine zI hl ?_
  exact fin _ (decide_eq_false fun h=>by subst h;simp at h3)
 cases h4:(a.seq==b.seq)
 ·refine gq53 (zP h1 (zP h2 (zP h3 h4))) ?_
  refine zI hl ?_
  exact fin _ (decide_eq_false fun h=>by subst h;simp at h4)
 cases h5:(a.dig==b.dig)
 ·refine gq53 (zP h1 (zP h2 (zP h3 (zP h4 h5)))) ?_
  refine zI hl ?_
  exact fin _ (decide_eq_false fun h=>by subst h;simp at h5)
 cases h6:(a.client==b.client)
 ·refine gq53 (zP h1 (zP h2 (zP h3 (zP h4 (zP h5 h6))))) ?_
  refine zI hl ?_
  exact fin _ (decide_eq_false fun h=>by subst h;simp at h6)
 cases h7:(a.time==b.time)
 ·refine gq53 (zP h1 (zP h2 (zP h3 (zP h4 (zP h5 (zP h6 h7)))))) ?_
  refine zI hl ?_
  exact fin _ (decide_eq_false fun h=>by subst h;simp at h7)
 cases h8:(a.rerr==b.rerr&&a.roff==b.roff)
 ·refine gq49 (zP h1 (zP h2 (zP h3 (zP h4 (zP h5 (zP h6 (zP h7 h8))))))) ?_
  refine zI hl ?_
  exact fin _ (decide_eq_false fun h=>by subst h;simp at h8)
 cases h9:(a.topic==b.topic)
 ·refine gq49 (zP h1 (zP h2 (zP h3 (zP h4 (zP h5 (zP h6 (zP h7 (zP h8 h9)))))))) ?_
  refine zI hl ?_
  exact fin _ (decide_eq_false fun h=>by subst h;simp at h9)
 cases h10:(a.offset==b.offset)
 ·refine gq49 (zP h1 (zP h2 (zP h3 (zP h4 (zP h5 (zP h6 (zP h7 (zP h8 (zP h9 h10))))))))) ?_
  refine zI hl ?_
  exact fin _ (decide_eq_false fun h=>by subst h;simp at h10)
 cases h11:(a.key==b.key&&a.sdig==b.sdig)
 ·refine gq49 (zP h1 (zP h2 (zP h3 (zP h4 (zP h5 (zP h6 (zP h7 (zP h8 (zP h9 (zP h10 h11)))))))))) ?_
  refine zI hl ?_
  exact fin _ (decide_eq_false fun h=>by subst h;simp at h11)
 refine gq49 (zP h1 (zP h2 (zP h3 (zP h4 (zP h5 (zP h6 (zP h7 (zP h8 (zP h9 (zP h10 h11)))))))))) ?_
 refine zyW ha.batchS hb.batchS ?_
 cases h12:decide (a.batch=b.batch)
 ·refine zaQ h12 ?_
  refine zI hl ?_
  exact fin _ (decide_eq_false fun h=>by subst h;simp at h12)
 refine zyz h12 ?_
 refine zsx (a:=a.cert) (b:=b.cert) ha.signs ?_
 cases h13:decide (a.cert=b.cert)
 ·refine zaQ h13 ?_
  refine zI hl ?_
  exact fin _ (decide_eq_false fun h=>by subst h;simp at h13)
 refine zyz h13 ?_
 refine zyU ha.entries (fun x hx=>(ha.entry x hx).2) (fun x hx=>(hb.entry x hx).2) ?_
 cases h14:decide (a.entries=b.entries)
 ·refine zaQ h14 ?_
  refine zI hl ?_
  exact fin _ (decide_eq_false fun h=>by subst h;simp at h14)
 cases h15:(a.state==b.state)
 ·refine gq54 (zP h14 h15) ?_
  refine zI hl ?_
  exact fin _ (decide_eq_false fun h=>by subst h;simp at h15)
 refine gq54 (zP h14 h15) ?_
 refine c_kSameProof (a:=a.proof) (b:=b.proof) ha.proof ?_
 cases h16:decide (a.proof=b.proof)
 ·refine zaQ h16 ?_
  refine zI hl ?_
  exact fin _ (decide_eq_false fun h=>by subst h;simp at h16)
 cases h17:((a.changes.length:Int)==(b.changes.length:Int))
 ·refine gq53 (zP h16 (zP hla (zP hlb h17))) ?_
  refine zI hl ?_
  exact fin _ (decide_eq_false fun h=>by subst h;simp at h17)
 have hl2:a.changes.length=b.changes.length:=by simp at h17;omega
 have hla:((a.changes.map zdq).length)=a.changes.length:=List.length_map ..
 have hlb:((b.changes.map zdq).length)=b.changes.length:=List.length_map ..
 refine gq53 (zP h16 (zP hla (zP hlb (zP h17 (zP hla hlb))))) ?_
 refine zo a.changes.length (fun k vs s=>vs = [.d (.int .i64 k)]/\s = σ++[msgO a,msgO b]/\a.changes.take k=b.changes.take k) ⟨rfl,rfl,by simp⟩ ?_
 rintro k vs s hk ⟨rfl,rfl,htk⟩
 by_cases hlt:k<a.changes.length
 ·have hd:decide ((k:Int)<(a.changes.length:Int))=true:=by simp;omega
  have hx:a.changes[k]? = some a.changes[k]:=by simp [hlt]
  have hy:b.changes[k]? = some (b.changes[k]'(by omega)):=List.getElem?_eq_getElem _
  have hgx:=zK (f:=zdq) hx
  have hgy:=zK (f:=zdq) hy
  have hxs:=(ha.change _ (List.getElem_mem hlt)).2
  have hys:=(hb.change _ (List.getElem_mem (show k<b.changes.length by omega))).2
  obtain ⟨x,hxe⟩:∃ x,a.changes[k]=x:=⟨_,rfl⟩
  obtain ⟨y,hye⟩:∃ y,(b.changes[k]'(by omega))=y:=⟨_,rfl⟩
  rw [hxe] at hx hgx hxs
  rw [hye] at hy hgy hys
  refine zqi (zP hd (zP hgx (zP hgy (zP hla hlb)))) ?_
  refine zzi (a:=x) (b:=y) hxs hys ?_
  cases he:decide (x=y)
  ·refine zdS ?_
   refine zI hl ?_
   refine fin _ (decide_eq_false fun h => ?_)
   subst h
   rw [hx] at hy
   have:=Option.some.inj hy
   simp [this] at he
  ·refine zaQ (wkc k (by omega)) ?_
   exact zas.next hlt ⟨rfl,rfl,zbc hx hy htk (by simpa using he)⟩
 have hd:decide ((k:Int)<(a.changes.length:Int))=false:=by simp;omega
 have heq_changes:a.changes=b.changes:=zbN hl2 (k:=k) (by omega) htk
 refine zaQ (zP hd (zP hla hlb)) ?_
 refine zI hl ?_
 exact fin _ (decide_eq_true (by cases a;cases b;simp_all))
end Go.Proofs.YtfgbofkdhfjegaaGreat
