/- Contracts: messages that are the same, the document's. -/
import Derived.Test.YtpgahkdjkanblaaGreatNr3
import Derived.Test.YtpgahkdjkanblaaGreatSm4
set_option linter.all false
set_option maxRecDepth 100000
namespace Go.Proofs.YtpgahkdjkanblaaGreat
open Go.AW
theorem c_kSamePrep {σ:List zd} {a b:zbO} (ha:zqH a) (hb:zqH b) {K:KT} (hK:K (.d (.bool (decide (a=b)))) σ):zj Tryz.prog zhg [.agg [.d (.int .i64 a.view),.d (.int .i64 a.seq),.d (.int .i64 a.dig),.d (.int .i64 a.fkey),.d (.int .i64 a.fdig),.d (.slice (zO a.signs)),.d (.slice (zaP a.batch))],.agg [.d (.int .i64 b.view),.d (.int .i64 b.seq),.d (.int .i64 b.dig),.d (.int .i64 b.fkey),.d (.int .i64 b.fdig),.d (.slice (zO b.signs)),.d (.slice (zaP b.batch))]] σ K:=by
 refine zeE zsk fun hl => ?_
 have fin:∀ z,decide (a=b)=z->K (.d (.bool z)) σ:=fun z h=>h▸hK
 clear hK
 simp only [zls,iN,bT,bF,eN]
 cases h1:(a.view==b.view)
 ·refine zA h1 ?_
  refine zt hl ?_
  exact fin _ (decide_eq_false fun h=>by subst h;simp at h1)
 cases h2:(a.seq==b.seq)
 ·refine zA (zo h1 h2) ?_
  refine zt hl ?_
  exact fin _ (decide_eq_false fun h=>by subst h;simp at h2)
 cases h3:(a.dig==b.dig)
 ·refine zA (zo h1 (zo h2 h3)) ?_
  refine zt hl ?_
  exact fin _ (decide_eq_false fun h=>by subst h;simp at h3)
 cases h4:(a.fkey==b.fkey&&a.fdig==b.fdig)
 ·refine zfG (zo h1 (zo h2 (zo h3 h4))) ?_
  refine zt hl ?_
  exact fin _ (decide_eq_false fun h=>by subst h;simp at h4)
 refine zfG (zo h1 (zo h2 (zo h3 h4))) ?_
 refine zwY ha.signs ?_
 cases h5:decide (a.signs=b.signs)
 ·refine zA h5 ?_
  refine zt hl ?_
  exact fin _ (decide_eq_false fun h=>by subst h;simp at h5)
 refine zmD h5 ?_
 refine zvw ha.batch hb.batch ?_
 cases h6:decide (a.batch=b.batch)
 ·refine zA h6 ?_
  refine zt hl ?_
  exact fin _ (decide_eq_false fun h=>by subst h;simp at h6)
 refine zA h6 ?_
 refine zt hl ?_
 exact fin _ (decide_eq_true (by cases a;cases b;simp_all))
theorem zol {A P Q:Prop} (a:A) (h:Q) (e:A->Hd Q->P:=by intro a h;(repeat' first|simp -dsimp only [↓zhL, ↓zbi, ↓zcI, ↓zhM, ↓zhF, ↓zhD, ↓zhG, ↓zhE, ↓zcN, ↓zcJ, ↓zcO, ↓zcK, ↓zhH, ↓zcH, ↓zcP, ↓zcL, ↓zcQ, ↓zcM, ↓zhC, ↓zhK, ↓zcG, ↓zcR, ↓zhz, ↓zhy, ↓zhB,iN,bT,bF,eN, ↓zdT, ↓unC, ↓zam, ↓zY, ↓zZ, ↓zae, ↓zax, ↓zag, ↓zeQ, ↓zap, ↓zaQ, ↓zW, ↓zg, ↓zh, ↓zcW, ↓zb, ↓zaC, ↓zG, ↓zbv, ↓zbE, ↓zc, ↓zE, ↓zq, ↓zK, ↓zao, ↓zft, ↓zfB, ↓zaL, ↓zaX, ↓zbm, ↓zbC, ↓zcj, ↓zI, ↓zaH, ↓zaa, ↓zM, ↓zaw,zfE,zcw,zcp,unA,zeT,bnd,zgq,zaA,zL,zga,dm,dm1,zw,zad,zgP,zgO,zH,Q0,Q1,Q2,Q3,Q4,Q5,zay,zB,zD,zT,zP,Q6,Q7,Q8,Q9,Q10,Q11,Q12,Q13,Q14,Nat.reduceAdd,Q15,Int.reduceToNat,Q16,Q17,Q18,Q19,Q20,reduceIte,Q21,Q22,zU,rep,zar,zgW,toD,zaz,Q23,Q24,Q25,Q26,Q27,Q28,Nat.reduceLeDiff,Q29,Nat.reduceSub,Q30,Q31,Q32,sc,Q33,Q34,Q35,Q36,Q37,Q26,Q38,Q39,zwb,zvY,zvV,zwc,zks,zvZ,zvW,zwa,zvX,zkr,zkt,zwl,zwm,Bool.not_true,Bool.not_false,List.length_map,Bool.and_false,Bool.and_self,Bool.false_and,Bool.not_false,Bool.not_true,Bool.true_and,Int.toNat_natCast,Int.toNat_zero,List.drop_zero,List.length_map,List.length_nil,List.nil_append,List.take_length,Nat.sub_zero,Nat.zero_add,Option.isSome_none,Option.isSome_some,Option.map_none,Option.map_some,zX,beq_self_eq_true,bft,bne,bne_self_eq_false,btf,a]|with_reducible refine zxk ?_|fail);exact h.go):P:=e a ⟨h⟩
theorem zAN {σ:List zd} {a b:zJ} (ha:zjF a) (hb:zjF b) {K:KT} (hK:K (.d (.bool (decide (a=b)))) σ):zj Tryz.prog zji [.agg [.d (.int .i64 a.view),.d (.int .i64 a.src),.d (.int .i64 a.cert.seq),.d (.int .i64 a.cert.dig),.d (.slice (zO a.cert.signs)),.d (.slice (zdC a.above)),.d (.int .i64 a.key),.d (.int .i64 a.dig)],.agg [.d (.int .i64 b.view),.d (.int .i64 b.src),.d (.int .i64 b.cert.seq),.d (.int .i64 b.cert.dig),.d (.slice (zO b.cert.signs)),.d (.slice (zdC b.above)),.d (.int .i64 b.key),.d (.int .i64 b.dig)]] σ K:=by
 refine zeE zvd fun hl => ?_
 have fin:∀ z,decide (a=b)=z->K (.d (.bool z)) σ:=fun z h=>h▸hK
 clear hK
 simp only [znE,iN,bT,bF,eN]
 have hla:((a.above.map zei).length)=a.above.length:=List.length_map ..
 have hlb:((b.above.map zei).length)=b.above.length:=List.length_map ..
 have hal:=ha.above
 cases h1:(a.view==b.view)
 ·refine zol h1 ?_
  refine zt hl ?_
  exact fin _ (decide_eq_false fun h=>by subst h;simp at h1)
 cases h2:(a.src==b.src)
 ·refine zol (zo h1 h2) ?_
  refine zt hl ?_
  exact fin _ (decide_eq_false fun h=>by subst h;simp at h2)
 refine zol (zo h1 h2) ?_
 refine zpP (a:=a.cert) (b:=b.cert) ha.signs ?_
 cases h3:decide (a.cert=b.cert)
 ·refine zA h3 ?_
  refine zt hl ?_
  exact fin _ (decide_eq_false fun h=>by subst h;simp at h3)
 cases h4:(a.key==b.key&&a.dig==b.dig)
 ·refine zfG (zo h3 h4) ?_
  refine zt hl ?_
  exact fin _ (decide_eq_false fun h=>by subst h;simp at h4)
 cases h5:((a.above.length:Int)==(b.above.length:Int))
 ·refine zxP (zo h3 (zo h4 (zo hla (zo hlb h5)))) ?_
  refine zt hl ?_
  exact fin _ (decide_eq_false fun h=>by subst h;simp at h5)
 have hl2:a.above.length=b.above.length:=by simp at h5;omega
 have hla:((a.above.map zei).length)=a.above.length:=List.length_map ..
 have hlb:((b.above.map zei).length)=b.above.length:=List.length_map ..
 refine zxP (zo h3 (zo h4 (zo hla (zo hlb (zo h5 (zo hla hlb)))))) ?_
 refine zl a.above.length (fun k vs s=>vs = [.d (.int .i64 k)]/\s = σ++[.box (zbj a),.box (zbj b)]/\a.above.take k=b.above.take k) ⟨rfl,rfl,by simp⟩ ?_
 rintro k vs s hk ⟨rfl,rfl,htk⟩
 by_cases hlt:k<a.above.length
 ·have hd:decide ((k:Int)<(a.above.length:Int))=true:=by simp;omega
  have hx:a.above[k]? = some a.above[k]:=by simp [hlt]
  have hy:b.above[k]? = some (b.above[k]'(by omega)):=List.getElem?_eq_getElem _
  have hgx:=zF (f:=zei) hx
  have hgy:=zF (f:=zei) hy
  have hxs:=ha.each _ (List.getElem_mem hlt)
  have hys:=hb.each _ (List.getElem_mem (show k<b.above.length by omega))
  obtain ⟨x,hxe⟩:∃ x,a.above[k]=x:=⟨_,rfl⟩
  obtain ⟨y,hye⟩:∃ y,(b.above[k]'(by omega))=y:=⟨_,rfl⟩
  rw [hxe] at hx hgx hxs
  rw [hye] at hy hgy hys
  refine zfG (zo hd (zo hgx (zo hgy (zo hla hlb)))) ?_
  refine c_kSamePrep (a:=x) (b:=y) hxs hys ?_
  cases he:decide (x=y)
  ·refine zQ ?_
   refine zt hl ?_
   refine fin _ (decide_eq_false fun h => ?_)
   subst h
   rw [hx] at hy
   have:=Option.some.inj hy
   simp [this] at he
  ·refine zA (wkc k (by omega)) ?_
   exact zan.next hlt ⟨rfl,rfl,zby hx hy htk (by simpa using he)⟩
 have hd:decide ((k:Int)<(a.above.length:Int))=false:=by simp;omega
 have heq_above:a.above=b.above:=zcz hl2 (k:=k) (by omega) htk
 refine zA (zo hd (zo hla hlb)) ?_
 refine zt hl ?_
 exact fin _ (decide_eq_true (by cases a;cases b;simp_all))
theorem gq44 {A P Q:Prop} (a:A) (h:Q) (e:A->Hd Q->P:=by intro a h;(repeat' first|simp -dsimp only [↓zhL, ↓zbi, ↓zcI, ↓zhM, ↓zhF, ↓zhD, ↓zhG, ↓zhE, ↓zcN, ↓zcJ, ↓zcO, ↓zcK, ↓zhH, ↓zcH, ↓zcP, ↓zcL, ↓zcQ, ↓zcM, ↓zhC, ↓zhK, ↓zcG, ↓zcR, ↓zhz, ↓zhy, ↓zhB,iN,bT,bF,eN, ↓zdT, ↓unC, ↓zam, ↓zY, ↓zZ, ↓zae, ↓zax, ↓zag, ↓zeQ, ↓zap, ↓zaQ, ↓zW, ↓zg, ↓zh, ↓zcW, ↓zb, ↓zaC, ↓zG, ↓zbv, ↓zbE, ↓zc, ↓zE, ↓zq, ↓zK, ↓zao, ↓zft, ↓zfB, ↓zaL, ↓zaX, ↓zbm, ↓zbC, ↓zcj, ↓zI, ↓zaH, ↓zaa, ↓zM, ↓zaw,zfE,zcw,zcp,unA,zeT,bnd,zgq,zaA,zL,zga,dm,dm1,zw,zad,zgP,zgO,zH,Q0,Q1,Q2,Q3,Q4,Q5,zay,zB,zD,zT,zP,Q6,Q7,Q8,Q9,Q10,Q11,Q12,Q13,Q14,Nat.reduceAdd,Q15,Int.reduceToNat,Q16,Q17,Q18,Q19,Q20,reduceIte,Q21,Q22,zU,rep,zar,zgW,toD,zaz,Q23,Q24,Q25,Q26,Q27,Q28,Nat.reduceLeDiff,Q29,Nat.reduceSub,Q30,Q31,Q32,sc,Q33,Q34,Q35,Q36,Q37,Q26,Q38,Q39,zwb,zvY,zvV,zwc,zks,zvZ,zvW,zwa,zvX,zkr,zkt,zwl,zwm,Bool.not_true,Bool.not_false,List.length_map,Bool.and_false,Bool.and_self,Bool.false_and,Bool.not_false,Bool.not_true,Bool.true_and,Int.toNat_natCast,Int.toNat_zero,List.drop_zero,List.length_map,List.length_nil,List.nil_append,List.take_length,Nat.sub_zero,Nat.zero_add,Option.isSome_none,Option.isSome_some,Option.map_none,Option.map_some,zX,beq_self_eq_true,bft,bne,bne_self_eq_false,btf,zex,zdx,zfn,zbm,zuT,zbC,a]|with_reducible refine zxk ?_|fail);exact h.go):P:=e a ⟨h⟩
theorem c_kSameProof {σ:List zd} {a b:znu} (ha:zzR a) {K:KT} (hK:K (.d (.bool (decide (a=b)))) σ):zj Tryz.prog zkl [proofA a,proofA b] σ K:=by
 refine zeE zwL fun hl => ?_
 have fin:∀ z,decide (a=b)=z->K (.d (.bool z)) σ:=fun z h=>h▸hK
 clear hK
 simp only [zpl,iN,bT,bF,eN]
 have hla1:((znX a.headers).length)=a.headers.length:=List.length_map ..
 have hlb1:((znX b.headers).length)=b.headers.length:=List.length_map ..
 have hla2:((ziN a.path).length)=a.path.length:=List.length_map ..
 have hlb2:((ziN b.path).length)=b.path.length:=List.length_map ..
 have hal1:=ha.headers
 have hal2:=ha.path
 cases h1:(a.topic==b.topic)
 ·refine zol h1 ?_
  refine zt hl ?_
  exact fin _ (decide_eq_false fun h=>by subst h;simp at h1)
 cases h2:(a.offset==b.offset)
 ·refine zol (zo h1 h2) ?_
  refine zt hl ?_
  exact fin _ (decide_eq_false fun h=>by subst h;simp at h2)
 cases h3:(a.rec_==b.rec_)
 ·refine gq44 (zo h1 (zo h2 h3)) ?_
  refine zt hl ?_
  exact fin _ (decide_eq_false fun h=>by subst h;simp at h3)
 cases h4:(a.index==b.index)
 ·refine gq44 (zo h1 (zo h2 (zo h3 h4))) ?_
  refine zt hl ?_
  exact fin _ (decide_eq_false fun h=>by subst h;simp at h4)
 cases h5:(a.count==b.count)
 ·refine gq44 (zo h1 (zo h2 (zo h3 (zo h4 h5)))) ?_
  refine zt hl ?_
  exact fin _ (decide_eq_false fun h=>by subst h;simp at h5)
 refine gq44 (zo h1 (zo h2 (zo h3 (zo h4 h5)))) ?_
 refine zpP (a:=a.cert) (b:=b.cert) ha.signs ?_
 cases h6:decide (a.cert=b.cert)
 ·refine zA h6 ?_
  refine zt hl ?_
  exact fin _ (decide_eq_false fun h=>by subst h;simp at h6)
 cases h7:((a.headers.length:Int)==(b.headers.length:Int))
 ·refine zol (zo h6 (zo hla1 (zo hlb1 h7))) ?_
  refine zt hl ?_
  exact fin _ (decide_eq_false fun h=>by subst h;simp at h7)
 cases h8:((a.path.length:Int)==(b.path.length:Int))
 ·refine zol (zo h6 (zo hla1 (zo hlb1 (zo h7 (zo hla2 (zo hlb2 h8)))))) ?_
  refine zt hl ?_
  exact fin _ (decide_eq_false fun h=>by subst h;simp at h8)
 have hl2:a.headers.length=b.headers.length:=by simp at h7;omega
 have hl3:a.path.length=b.path.length:=by simp at h8;omega
 have hla:((a.headers.map hdrD).length)=a.headers.length:=List.length_map ..
 have hlb:((b.headers.map hdrD).length)=b.headers.length:=List.length_map ..
 refine zol (zo h6 (zo hla1 (zo hlb1 (zo h7 (zo hla2 (zo hlb2 (zo h8 (zo hla hlb)))))))) ?_
 refine zl a.headers.length (fun k vs s=>vs = [.d (.int .i64 k)]/\s = σ++[proofO a,proofO b]/\a.headers.take k=b.headers.take k) ⟨rfl,rfl,by simp⟩ ?_
 rintro k vs s hk ⟨rfl,rfl,htk⟩
 by_cases hlt:k<a.headers.length
 ·have hd:decide ((k:Int)<(a.headers.length:Int))=true:=by simp;omega
  have hx:a.headers[k]? = some a.headers[k]:=by simp [hlt]
  have hy:b.headers[k]? = some (b.headers[k]'(by omega)):=List.getElem?_eq_getElem _
  have hgx:=zF (f:=hdrD) hx
  have hgy:=zF (f:=hdrD) hy
  obtain ⟨x,hxe⟩:∃ x,a.headers[k]=x:=⟨_,rfl⟩
  obtain ⟨y,hye⟩:∃ y,(b.headers[k]'(by omega))=y:=⟨_,rfl⟩
  rw [hxe] at hx hgx
  rw [hye] at hy hgy
  have hxy:x=y↔((x.seq==y.seq&&(x.prev==y.prev&&(x.batch==y.batch&&(x.root==y.root&&x.state==y.state)))))=true:=by cases x;cases y;simp
  cases he2:((x.seq==y.seq&&(x.prev==y.prev&&(x.batch==y.batch&&(x.root==y.root&&x.state==y.state)))))
  ·refine zxP (zo hd (zo hgx (zo hgy (zo hla (zo hlb he2))))) ?_
   refine zt hl ?_
   refine fin _ (decide_eq_false fun h => ?_)
   subst h
   rw [hx] at hy
   rw [hxy.1 (Option.some.inj hy)] at he2;cases he2
  ·refine zxP (zo hd (zo hgx (zo hgy (zo hla (zo hlb (zo he2 (wkc k (by omega)))))))) ?_
   exact zan.next hlt ⟨rfl,rfl,zby hx hy htk (hxy.2 he2)⟩
 have hd:decide ((k:Int)<(a.headers.length:Int))=false:=by simp;omega
 have heq_headers:a.headers=b.headers:=zcz hl2 (k:=k) (by omega) htk
 refine zA (zo hd (zo hla1 (zo hlb1 (zo hla2 hlb2)))) ?_
 have hla:((a.path.map (fun t => [D.int .i64 t])).length)=a.path.length:=List.length_map ..
 have hlb:((b.path.map (fun t => [D.int .i64 t])).length)=b.path.length:=List.length_map ..
 refine zol (zo h6 (zo hla1 (zo hlb1 (zo h7 (zo hla2 (zo hlb2 (zo h8 (zo hla hlb)))))))) ?_
 refine zl a.path.length (fun k vs s=>vs = [.d (.int .i64 k)]/\s = σ++[proofO a,proofO b]/\a.path.take k=b.path.take k) ⟨rfl,rfl,by simp⟩ ?_
 rintro k vs s hk ⟨rfl,rfl,htk⟩
 by_cases hlt:k<a.path.length
 ·have hd:decide ((k:Int)<(a.path.length:Int))=true:=by simp;omega
  have hx:a.path[k]? = some a.path[k]:=by simp [hlt]
  have hy:b.path[k]? = some (b.path[k]'(by omega)):=List.getElem?_eq_getElem _
  have hgx:=zF (f:=(fun t => [D.int .i64 t])) hx
  have hgy:=zF (f:=(fun t => [D.int .i64 t])) hy
  obtain ⟨x,hxe⟩:∃ x,a.path[k]=x:=⟨_,rfl⟩
  obtain ⟨y,hye⟩:∃ y,(b.path[k]'(by omega))=y:=⟨_,rfl⟩
  rw [hxe] at hx hgx
  rw [hye] at hy hgy
  have hxy:x=y↔(x==y)=true:=by simp
  cases he2:(x==y)
  ·refine zxP (zo hd (zo hgx (zo hgy (zo hla (zo hlb he2))))) ?_
   refine zt hl ?_
   refine fin _ (decide_eq_false fun h => ?_)
   subst h
   rw [hx] at hy
   rw [hxy.1 (Option.some.inj hy)] at he2;cases he2
  ·refine zxP (zo hd (zo hgx (zo hgy (zo hla (zo hlb (zo he2 (wkc k (by omega)))))))) ?_
   exact zan.next hlt ⟨rfl,rfl,zby hx hy htk (hxy.2 he2)⟩
 have hd:decide ((k:Int)<(a.path.length:Int))=false:=by simp;omega
 have heq_path:a.path=b.path:=zcz hl3 (k:=k) (by omega) htk
 refine zA (zo hd (zo hla hlb)) ?_
 refine zt hl ?_
 exact fin _ (decide_eq_true (by cases a;cases b;simp_all))
theorem c_kSame {σ:List zd} {a b:zcS} (ha:zbn a) (hb:zbn b) {K:KT} (hK:K (.d (.bool (decide (a=b)))) σ):zj Tryz.prog zpF [zeR a,zeR b] σ K:=by
 refine zeE e_r10_Same fun hl => ?_
 have fin:∀ z,decide (a=b)=z->K (.d (.bool z)) σ:=fun z h=>h▸hK
 clear hK
 simp only [zzE,iN,bT,bF,eN]
 have hla:((zR a.changes).length)=a.changes.length:=List.length_map ..
 have hlb:((zR b.changes).length)=b.changes.length:=List.length_map ..
 have hal:=ha.changes
 cases h1:(a.kind==b.kind)
 ·refine zol h1 ?_
  refine zt hl ?_
  exact fin _ (decide_eq_false fun h=>by subst h;simp at h1)
 cases h2:(a.src==b.src)
 ·refine zol (zo h1 h2) ?_
  refine zt hl ?_
  exact fin _ (decide_eq_false fun h=>by subst h;simp at h2)
 cases h3:(a.view==b.view)
 ·refine zol (zo h1 (zo h2 h3)) ?_
  refine zt hl ?_
  exact fin _ (decide_eq_false fun h=>by subst h;simp at h3)
 cases h4:(a.seq==b.seq)
 ·refine zol (zo h1 (zo h2 (zo h3 h4))) ?_
  refine zt hl ?_
  exact fin _ (decide_eq_false fun h=>by subst h;simp at h4)
 cases h5:(a.dig==b.dig)
 ·refine zol (zo h1 (zo h2 (zo h3 (zo h4 h5)))) ?_
  refine zt hl ?_
  exact fin _ (decide_eq_false fun h=>by subst h;simp at h5)
 cases h6:(a.client==b.client)
 ·refine zol (zo h1 (zo h2 (zo h3 (zo h4 (zo h5 h6))))) ?_
  refine zt hl ?_
  exact fin _ (decide_eq_false fun h=>by subst h;simp at h6)
 cases h7:(a.time==b.time)
 ·refine zol (zo h1 (zo h2 (zo h3 (zo h4 (zo h5 (zo h6 h7)))))) ?_
  refine zt hl ?_
  exact fin _ (decide_eq_false fun h=>by subst h;simp at h7)
 cases h8:(a.rerr==b.rerr&&a.roff==b.roff)
 ·refine zxP (zo h1 (zo h2 (zo h3 (zo h4 (zo h5 (zo h6 (zo h7 h8))))))) ?_
  refine zt hl ?_
  exact fin _ (decide_eq_false fun h=>by subst h;simp at h8)
 cases h9:(a.topic==b.topic)
 ·refine zxP (zo h1 (zo h2 (zo h3 (zo h4 (zo h5 (zo h6 (zo h7 (zo h8 h9)))))))) ?_
  refine zt hl ?_
  exact fin _ (decide_eq_false fun h=>by subst h;simp at h9)
 cases h10:(a.offset==b.offset)
 ·refine zxP (zo h1 (zo h2 (zo h3 (zo h4 (zo h5 (zo h6 (zo h7 (zo h8 (zo h9 h10))))))))) ?_
  refine zt hl ?_
  exact fin _ (decide_eq_false fun h=>by subst h;simp at h10)
 cases h11:(a.key==b.key&&a.sdig==b.sdig)
 ·refine zxP (zo h1 (zo h2 (zo h3 (zo h4 (zo h5 (zo h6 (zo h7 (zo h8 (zo h9 (zo h10 h11)))))))))) ?_
  refine zt hl ?_
  exact fin _ (decide_eq_false fun h=>by subst h;simp at h11)
 refine zxP (zo h1 (zo h2 (zo h3 (zo h4 (zo h5 (zo h6 (zo h7 (zo h8 (zo h9 (zo h10 h11)))))))))) ?_
 refine zvw ha.batchS hb.batchS ?_
 cases h12:decide (a.batch=b.batch)
 ·refine zA h12 ?_
  refine zt hl ?_
  exact fin _ (decide_eq_false fun h=>by subst h;simp at h12)
 refine zmD h12 ?_
 refine zpP (a:=a.cert) (b:=b.cert) ha.signs ?_
 cases h13:decide (a.cert=b.cert)
 ·refine zA h13 ?_
  refine zt hl ?_
  exact fin _ (decide_eq_false fun h=>by subst h;simp at h13)
 refine zmD h13 ?_
 refine zss ha.entries (fun x hx=>(ha.entry x hx).2) (fun x hx=>(hb.entry x hx).2) ?_
 cases h14:decide (a.entries=b.entries)
 ·refine zA h14 ?_
  refine zt hl ?_
  exact fin _ (decide_eq_false fun h=>by subst h;simp at h14)
 cases h15:(a.state==b.state)
 ·refine gq44 (zo h14 h15) ?_
  refine zt hl ?_
  exact fin _ (decide_eq_false fun h=>by subst h;simp at h15)
 refine gq44 (zo h14 h15) ?_
 refine c_kSameProof (a:=a.proof) (b:=b.proof) ha.proof ?_
 cases h16:decide (a.proof=b.proof)
 ·refine zA h16 ?_
  refine zt hl ?_
  exact fin _ (decide_eq_false fun h=>by subst h;simp at h16)
 cases h17:((a.changes.length:Int)==(b.changes.length:Int))
 ·refine zol (zo h16 (zo hla (zo hlb h17))) ?_
  refine zt hl ?_
  exact fin _ (decide_eq_false fun h=>by subst h;simp at h17)
 have hl2:a.changes.length=b.changes.length:=by simp at h17;omega
 have hla:((a.changes.map zat).length)=a.changes.length:=List.length_map ..
 have hlb:((b.changes.map zat).length)=b.changes.length:=List.length_map ..
 refine zol (zo h16 (zo hla (zo hlb (zo h17 (zo hla hlb))))) ?_
 refine zl a.changes.length (fun k vs s=>vs = [.d (.int .i64 k)]/\s = σ++[zqk a,zqk b]/\a.changes.take k=b.changes.take k) ⟨rfl,rfl,by simp⟩ ?_
 rintro k vs s hk ⟨rfl,rfl,htk⟩
 by_cases hlt:k<a.changes.length
 ·have hd:decide ((k:Int)<(a.changes.length:Int))=true:=by simp;omega
  have hx:a.changes[k]? = some a.changes[k]:=by simp [hlt]
  have hy:b.changes[k]? = some (b.changes[k]'(by omega)):=List.getElem?_eq_getElem _
  have hgx:=zF (f:=zat) hx
  have hgy:=zF (f:=zat) hy
  have hxs:=(ha.change _ (List.getElem_mem hlt)).2
  have hys:=(hb.change _ (List.getElem_mem (show k<b.changes.length by omega))).2
  obtain ⟨x,hxe⟩:∃ x,a.changes[k]=x:=⟨_,rfl⟩
  obtain ⟨y,hye⟩:∃ y,(b.changes[k]'(by omega))=y:=⟨_,rfl⟩
  rw [hxe] at hx hgx hxs
  rw [hye] at hy hgy hys
  refine zfG (zo hd (zo hgx (zo hgy (zo hla hlb)))) ?_
  refine zAN (a:=x) (b:=y) hxs hys ?_
  cases he:decide (x=y)
  ·refine zQ ?_
   refine zt hl ?_
   refine fin _ (decide_eq_false fun h => ?_)
   subst h
   rw [hx] at hy
   have:=Option.some.inj hy
   simp [this] at he
  ·refine zA (wkc k (by omega)) ?_
   exact zan.next hlt ⟨rfl,rfl,zby hx hy htk (by simpa using he)⟩
 have hd:decide ((k:Int)<(a.changes.length:Int))=false:=by simp;omega
 have heq_changes:a.changes=b.changes:=zcz hl2 (k:=k) (by omega) htk
 refine zA (zo hd (zo hla hlb)) ?_
 refine zt hl ?_
 exact fin _ (decide_eq_true (by cases a;cases b;simp_all))
end Go.Proofs.YtpgahkdjkanblaaGreat
