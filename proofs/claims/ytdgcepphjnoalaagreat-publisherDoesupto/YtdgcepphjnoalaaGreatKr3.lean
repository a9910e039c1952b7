/- Contracts: messages that are the same, the document's. -/
import Derived.Test.YtdgcepphjnoalaaGreatQu1
import Derived.Test.YtdgcepphjnoalaaGreatSm4
import Derived.Test.YtdgcepphjnoalaaGreatGa1
import Derived.Test.YtdgcepphjnoalaaGreatCl1
import Derived.Test.YtdgcepphjnoalaaGreatRq3
import Derived.Test.YtdgcepphjnoalaaGreatWr3
set_option linter.all false
set_option maxRecDepth 100000
namespace Go.Proofs.YtdgcepphjnoalaaGreat
open Go.AW
variable {σ:List AObj} {K:KT}
theorem c_kSamePrep {a b:zkc}(ha:zqM a)(hb:zqM b)(hK:K (.d (.bool (decide (a=b)))) σ):zP zhC [.agg [.d (.int .i64 a.view),.d (.int .i64 a.seq),.d (.int .i64 a.dig),.d (.int .i64 a.fkey),.d (.int .i64 a.fdig),.d (.slice (zat a.signs)),.d (.slice (zbz a.batch))],.agg [.d (.int .i64 b.view),.d (.int .i64 b.seq),.d (.int .i64 b.dig),.d (.int .i64 b.fkey),.d (.int .i64 b.fdig),.d (.slice (zat b.signs)),.d (.slice (zbz b.batch))]] σ K:=by
 refine zeq zsg fun hl=>?_;have fin:∀z,decide (a=b)=z->K (.d (.bool z)) σ:=fun z h=>h▸hK;clear hK;simp only[zlM,iN,bT,bF,eN];cases h1:(a.view==b.view)
 ·refine zm h1 ?_;refine zu hl ?_;exact fin _ (decide_eq_false fun h=>by subst h;simp at h1)
 cases h2:(a.seq==b.seq)
 ·refine zm (zd h1 h2) ?_;refine zu hl ?_;exact fin _ (decide_eq_false fun h=>by subst h;simp at h2)
 cases h3:(a.dig==b.dig)
 ·refine zm (zd h1 (zd h2 h3)) ?_;refine zu hl ?_;exact fin _ (decide_eq_false fun h=>by subst h;simp at h3)
 cases h4:(a.fkey==b.fkey&&a.fdig==b.fdig)
 ·refine zdV (zd h1 (zd h2 (zd h3 h4))) ?_;refine zu hl ?_;exact fin _ (decide_eq_false fun h=>by subst h;simp at h4)
 refine zdV (zd h1 (zd h2 (zd h3 h4))) ?_;refine zwP ha.signs ?_;cases h5:decide (a.signs=b.signs)
 ·refine zm h5 ?_;refine zu hl ?_;exact fin _ (decide_eq_false fun h=>by subst h;simp at h5)
 refine zjB h5 ?_;refine zvn ha.batch hb.batch ?_;cases h6:decide (a.batch=b.batch)
 ·refine zm h6 ?_;refine zu hl ?_;exact fin _ (decide_eq_false fun h=>by subst h;simp at h6)
 refine zm h6 ?_;refine zu hl ?_;exact fin _ (decide_eq_true (by cases a;cases b;simp_all))
theorem zzZ {A P Q:Prop}(a:A)(h:Q)(e:A->Hd Q->P:=by intro a h;(repeat' first|simp -dsimp only[↓zlG,↓zbS,↓zee,↓zlH,↓zly,↓zlw,↓zlz,↓zlx,↓zej,↓zef,↓zek,↓zeg,↓zlA,↓zeb,↓zel,↓zeh,↓zem,↓zei,↓zlv,↓zlE,↓zea,↓zep,↓zln,↓zlm,↓zlt,iN,bT,bF,eN,↓zes,↓unC,↓zaB,↓zah,↓zai,↓zav,↓zaX,↓zag,↓zgA,↓zaw,↓zbf,↓zad,↓ze,↓zj,↓zaR,↓zc,↓zaV,↓zN,↓zbT,↓zcl,↓zf,↓zF,↓zp,↓zM,↓zaA,↓zgH,↓zhI,↓zbc,↓zby,↓zcf,↓zcA,↓zdo,↓zJ,↓zbb,↓zak,↓zO,↓zaU,zhr,zdU,zdB,unA,zgx,bnd,ziS,zaO,zL,zic,dm,dm1,zH,zaF,zjW,zjV,keepO,Q0,Q1,Q2,Q3,Q4,Q5,zba,zA,zB,zY,zab,Q6,Q7,Q8,Q9,Q10,Q11,Q12,Q13,Q14,Nat.reduceAdd,Q15,Int.reduceToNat,Q16,Q17,Q18,Q19,Q20,reduceIte,Q21,Q22,zy,rep,zaq,zhW,toD,zaC,Q23,Q24,Q25,Q26,Q27,Q28,Nat.reduceLeDiff,Q29,Nat.reduceSub,Q30,Q31,Q32,sc,Q33,Q34,Q35,Q36,Q37,Q26,Q38,Q39,zuF,zuC,zuz,zuG,zjv,zuD,zuA,zuE,zuB,zju,zjw,zuI,zuJ,Bool.not_true,Bool.not_false,List.length_map,Bool.and_false,Bool.and_self,Bool.false_and,Bool.not_false,Bool.not_true,Bool.true_and,Int.toNat_natCast,Int.toNat_zero,List.drop_zero,List.length_map,List.length_nil,List.nil_append,List.take_length,Nat.sub_zero,Nat.zero_add,Option.isSome_none,Option.isSome_some,Option.map_none,Option.map_some,zam,beq_self_eq_true,bft,bne,bne_self_eq_false,btf,a]|with_reducible refine zuX ?_|fail);exact h.go):P:=e a ⟨h⟩
theorem zAA {a b:zbj}(ha:zjR a)(hb:zjR b)(hK:K (.d (.bool (decide (a=b)))) σ):zP zjq [.agg [.d (.int .i64 a.view),.d (.int .i64 a.src),.d (.int .i64 a.cert.seq),.d (.int .i64 a.cert.dig),.d (.slice (zat a.cert.signs)),.d (.slice (zfw a.above)),.d (.int .i64 a.key),.d (.int .i64 a.dig)],.agg [.d (.int .i64 b.view),.d (.int .i64 b.src),.d (.int .i64 b.cert.seq),.d (.int .i64 b.cert.dig),.d (.slice (zat b.cert.signs)),.d (.slice (zfw b.above)),.d (.int .i64 b.key),.d (.int .i64 b.dig)]] σ K:=by
 refine zeq zuO fun hl=>?_;have fin:∀z,decide (a=b)=z->K (.d (.bool z)) σ:=fun z h=>h▸hK;clear hK;simp only[znM,iN,bT,bF,eN];have hla:((a.above.map zgb).length)=a.above.length:=List.length_map ..;have hlb:((b.above.map zgb).length)=b.above.length:=List.length_map ..;have hal:=ha.above;cases h1:(a.view==b.view)
 ·refine zzZ h1 ?_;refine zu hl ?_;exact fin _ (decide_eq_false fun h=>by subst h;simp at h1)
 cases h2:(a.src==b.src)
 ·refine zzZ (zd h1 h2) ?_;refine zu hl ?_;exact fin _ (decide_eq_false fun h=>by subst h;simp at h2)
 refine zzZ (zd h1 h2) ?_;refine ztD (a:=a.cert) (b:=b.cert) ha.signs ?_;cases h3:decide (a.cert=b.cert)
 ·refine zm h3 ?_;refine zu hl ?_;exact fin _ (decide_eq_false fun h=>by subst h;simp at h3)
 cases h4:(a.key==b.key&&a.dig==b.dig)
 ·refine zdV (zd h3 h4) ?_;refine zu hl ?_;exact fin _ (decide_eq_false fun h=>by subst h;simp at h4)
 cases h5:((a.above.length:Int)==(b.above.length:Int))
 ·refine gq21 (zd h3 (zd h4 (zd hla (zd hlb h5)))) ?_;refine zu hl ?_;exact fin _ (decide_eq_false fun h=>by subst h;simp at h5)
 have hl2:a.above.length=b.above.length:=by simp at h5;omega
 have hla:((a.above.map zgb).length)=a.above.length:=List.length_map ..;have hlb:((b.above.map zgb).length)=b.above.length:=List.length_map ..;refine gq21 (zd h3 (zd h4 (zd hla (zd hlb (zd h5 (zd hla hlb)))))) ?_;refine zn a.above.length (fun k vs s=>vs=[.d (.int .i64 k)]/\s=σ++[.box (zbL a),.box (zbL b)]/\a.above.take k=b.above.take k) ⟨rfl,rfl,by simp⟩ ?_;rintro k vs s hk ⟨rfl,rfl,htk⟩;by_cases hlt:k<a.above.length
 ·have hd:decide ((k:Int)<(a.above.length:Int))=true:=by simp;omega
  have hx:a.above[k]? = some a.above[k]:=by simp[hlt]
  have hy:b.above[k]? = some (b.above[k]'(by omega)):=List.getElem?_eq_getElem _;have hgx:=zR (f:=zgb) hx;have hgy:=zR (f:=zgb) hy;have hxs:=ha.each _ (List.getElem_mem hlt);have hys:=hb.each _ (List.getElem_mem (show k<b.above.length by omega));obtain⟨x,hxe⟩:∃x,a.above[k]=x:=⟨_,rfl⟩;obtain⟨y,hye⟩:∃y,(b.above[k]'(by omega))=y:=⟨_,rfl⟩;rw[hxe]at hx hgx hxs;rw[hye]at hy hgy hys;refine zdV (zd hd (zd hgx (zd hgy (zd hla hlb)))) ?_;refine c_kSamePrep (a:=x) (b:=y) hxs hys ?_;cases he:decide (x=y)
  ·refine zG ?_;refine zu hl ?_;refine fin _ (decide_eq_false fun h=>?_);subst h;rw[hx]at hy;have:=Option.some.inj hy;simp[this]at he
  ·refine zm (wkc k (by omega)) ?_;exact zaK.next hlt ⟨rfl,rfl,zbq hx hy htk (by simpa using he)⟩
 have hd:decide ((k:Int)<(a.above.length:Int))=false:=by simp;omega
 have heq_above:a.above=b.above:=zcu hl2 (k:=k) (by omega) htk;refine zm (zd hd (zd hla hlb)) ?_;refine zu hl ?_;exact fin _ (decide_eq_true (by cases a;cases b;simp_all))
theorem gq37 {A P Q:Prop}(a:A)(h:Q)(e:A->Hd Q->P:=by intro a h;(repeat' first|simp -dsimp only[↓zlG,↓zbS,↓zee,↓zlH,↓zly,↓zlw,↓zlz,↓zlx,↓zej,↓zef,↓zek,↓zeg,↓zlA,↓zeb,↓zel,↓zeh,↓zem,↓zei,↓zlv,↓zlE,↓zea,↓zep,↓zln,↓zlm,↓zlt,iN,bT,bF,eN,↓zes,↓unC,↓zaB,↓zah,↓zai,↓zav,↓zaX,↓zag,↓zgA,↓zaw,↓zbf,↓zad,↓ze,↓zj,↓zaR,↓zc,↓zaV,↓zN,↓zbT,↓zcl,↓zf,↓zF,↓zp,↓zM,↓zaA,↓zgH,↓zhI,↓zbc,↓zby,↓zcf,↓zcA,↓zdo,↓zJ,↓zbb,↓zak,↓zO,↓zaU,zhr,zdU,zdB,unA,zgx,bnd,ziS,zaO,zL,zic,dm,dm1,zH,zaF,zjW,zjV,keepO,Q0,Q1,Q2,Q3,Q4,Q5,zba,zA,zB,zY,zab,Q6,Q7,Q8,Q9,Q10,Q11,Q12,Q13,Q14,Nat.reduceAdd,Q15,Int.reduceToNat,Q16,Q17,Q18,Q19,Q20,reduceIte,Q21,Q22,zy,rep,zaq,zhW,toD,zaC,Q23,Q24,Q25,Q26,Q27,Q28,Nat.reduceLeDiff,Q29,Nat.reduceSub,Q30,Q31,Q32,sc,Q33,Q34,Q35,Q36,Q37,Q26,Q38,Q39,zuF,zuC,zuz,zuG,zjv,zuD,zuA,zuE,zuB,zju,zjw,zuI,zuJ,Bool.not_true,Bool.not_false,List.length_map,Bool.and_false,Bool.and_self,Bool.false_and,Bool.not_false,Bool.not_true,Bool.true_and,Int.toNat_natCast,Int.toNat_zero,List.drop_zero,List.length_map,List.length_nil,List.nil_append,List.take_length,Nat.sub_zero,Nat.zero_add,Option.isSome_none,Option.isSome_some,Option.map_none,Option.map_some,zam,beq_self_eq_true,bft,bne,bne_self_eq_false,btf,ziC,zfj,zgm,zcf,mgetR,zcA,a]|with_reducible refine zuX ?_|fail);exact h.go):P:=e a ⟨h⟩
theorem c_kSameProof {a b:zfl}(ha:zqN a)(hK:K (.d (.bool (decide (a=b)))) σ):zP zkx [znD a,znD b] σ K:=by
 refine zeq zwA fun hl=>?_;have fin:∀z,decide (a=b)=z->K (.d (.bool z)) σ:=fun z h=>h▸hK;clear hK;simp only[zpe,iN,bT,bF,eN];have hla1:((zmw a.headers).length)=a.headers.length:=List.length_map ..;have hlb1:((zmw b.headers).length)=b.headers.length:=List.length_map ..;have hla2:((zhY a.path).length)=a.path.length:=List.length_map ..;have hlb2:((zhY b.path).length)=b.path.length:=List.length_map ..;have hal1:=ha.headers;have hal2:=ha.path;cases h1:(a.topic==b.topic)
 ·refine zzZ h1 ?_;refine zu hl ?_;exact fin _ (decide_eq_false fun h=>by subst h;simp at h1)
 cases h2:(a.offset==b.offset)
 ·refine zzZ (zd h1 h2) ?_;refine zu hl ?_;exact fin _ (decide_eq_false fun h=>by subst h;simp at h2)
 cases h3:(a.rec_==b.rec_)
 ·refine gq37 (zd h1 (zd h2 h3)) ?_;refine zu hl ?_;exact fin _ (decide_eq_false fun h=>by subst h;simp at h3)
 cases h4:(a.index==b.index)
 ·refine gq37 (zd h1 (zd h2 (zd h3 h4))) ?_;refine zu hl ?_;exact fin _ (decide_eq_false fun h=>by subst h;simp at h4)
 cases h5:(a.count==b.count)
 ·refine gq37 (zd h1 (zd h2 (zd h3 (zd h4 h5)))) ?_;refine zu hl ?_;exact fin _ (decide_eq_false fun h=>by subst h;simp at h5)
 refine gq37 (zd h1 (zd h2 (zd h3 (zd h4 h5)))) ?_;refine ztD (a:=a.cert) (b:=b.cert) ha.signs ?_;cases h6:decide (a.cert=b.cert)
 ·refine zm h6 ?_;refine zu hl ?_;exact fin _ (decide_eq_false fun h=>by subst h;simp at h6)
 cases h7:((a.headers.length:Int)==(b.headers.length:Int))
 ·refine zzZ (zd h6 (zd hla1 (zd hlb1 h7))) ?_;refine zu hl ?_;exact fin _ (decide_eq_false fun h=>by subst h;simp at h7)
 cases h8:((a.path.length:Int)==(b.path.length:Int))
 ·refine zzZ (zd h6 (zd hla1 (zd hlb1 (zd h7 (zd hla2 (zd hlb2 h8)))))) ?_;refine zu hl ?_;exact fin _ (decide_eq_false fun h=>by subst h;simp at h8)
 have hl2:a.headers.length=b.headers.length:=by simp at h7;omega
 have hl3:a.path.length=b.path.length:=by simp at h8;omega
 have hla:((a.headers.map zxI).length)=a.headers.length:=List.length_map ..;have hlb:((b.headers.map zxI).length)=b.headers.length:=List.length_map ..;refine zzZ (zd h6 (zd hla1 (zd hlb1 (zd h7 (zd hla2 (zd hlb2 (zd h8 (zd hla hlb)))))))) ?_;refine zn a.headers.length (fun k vs s=>vs=[.d (.int .i64 k)]/\s=σ++[zop a,zop b]/\a.headers.take k=b.headers.take k) ⟨rfl,rfl,by simp⟩ ?_;rintro k vs s hk ⟨rfl,rfl,htk⟩;by_cases hlt:k<a.headers.length
 ·have hd:decide ((k:Int)<(a.headers.length:Int))=true:=by simp;omega
  have hx:a.headers[k]? = some a.headers[k]:=by simp[hlt]
  have hy:b.headers[k]? = some (b.headers[k]'(by omega)):=List.getElem?_eq_getElem _;have hgx:=zR (f:=zxI) hx;have hgy:=zR (f:=zxI) hy;obtain⟨x,hxe⟩:∃x,a.headers[k]=x:=⟨_,rfl⟩;obtain⟨y,hye⟩:∃y,(b.headers[k]'(by omega))=y:=⟨_,rfl⟩;rw[hxe]at hx hgx;rw[hye]at hy hgy;have hxy:x=y↔((x.seq==y.seq&&(x.prev==y.prev&&(x.batch==y.batch&&(x.root==y.root&&x.state==y.state)))))=true:=by cases x;cases y;simp
  cases he2:((x.seq==y.seq&&(x.prev==y.prev&&(x.batch==y.batch&&(x.root==y.root&&x.state==y.state)))))
  ·refine gq21 (zd hd (zd hgx (zd hgy (zd hla (zd hlb he2))))) ?_;refine zu hl ?_;refine fin _ (decide_eq_false fun h=>?_);subst h;rw[hx]at hy;rw[hxy.1 (Option.some.inj hy)]at he2;cases he2
  ·refine gq21 (zd hd (zd hgx (zd hgy (zd hla (zd hlb (zd he2 (wkc k (by omega)))))))) ?_;exact zaK.next hlt ⟨rfl,rfl,zbq hx hy htk (hxy.2 he2)⟩
 have hd:decide ((k:Int)<(a.headers.length:Int))=false:=by simp;omega
 have heq_headers:a.headers=b.headers:=zcu hl2 (k:=k) (by omega) htk;refine zm (zd hd (zd hla1 (zd hlb1 (zd hla2 hlb2)))) ?_;have hla:((a.path.map (fun t=>[D.int .i64 t])).length)=a.path.length:=List.length_map ..;have hlb:((b.path.map (fun t=>[D.int .i64 t])).length)=b.path.length:=List.length_map ..;refine zzZ (zd h6 (zd hla1 (zd hlb1 (zd h7 (zd hla2 (zd hlb2 (zd h8 (zd hla hlb)))))))) ?_;refine zn a.path.length (fun k vs s=>vs=[.d (.int .i64 k)]/\s=σ++[zop a,zop b]/\a.path.take k=b.path.take k) ⟨rfl,rfl,by simp⟩ ?_;rintro k vs s hk ⟨rfl,rfl,htk⟩;by_cases hlt:k<a.path.length
 ·have hd:decide ((k:Int)<(a.path.length:Int))=true:=by simp;omega
  have hx:a.path[k]? = some a.path[k]:=by simp[hlt]
  have hy:b.path[k]? = some (b.path[k]'(by omega)):=List.getElem?_eq_getElem _;have hgx:=zR (f:=(fun t=>[D.int .i64 t])) hx;have hgy:=zR (f:=(fun t=>[D.int .i64 t])) hy;obtain⟨x,hxe⟩:∃x,a.path[k]=x:=⟨_,rfl⟩;obtain⟨y,hye⟩:∃y,(b.path[k]'(by omega))=y:=⟨_,rfl⟩;rw[hxe]at hx hgx;rw[hye]at hy hgy;have hxy:x=y↔(x==y)=true:=by simp
  cases he2:(x==y)
  ·refine gq21 (zd hd (zd hgx (zd hgy (zd hla (zd hlb he2))))) ?_;refine zu hl ?_;refine fin _ (decide_eq_false fun h=>?_);subst h;rw[hx]at hy;rw[hxy.1 (Option.some.inj hy)]at he2;cases he2
  ·refine gq21 (zd hd (zd hgx (zd hgy (zd hla (zd hlb (zd he2 (wkc k (by omega)))))))) ?_;exact zaK.next hlt ⟨rfl,rfl,zbq hx hy htk (hxy.2 he2)⟩
 have hd:decide ((k:Int)<(a.path.length:Int))=false:=by simp;omega
 have heq_path:a.path=b.path:=zcu hl3 (k:=k) (by omega) htk;refine zm (zd hd (zd hla hlb)) ?_;refine zu hl ?_;exact fin _ (decide_eq_true (by cases a;cases b;simp_all))
theorem c_kSame {a b:zbC}(ha:zaI a)(hb:zaI b)(hK:K (.d (.bool (decide (a=b)))) σ):zP zms [zgi a,zgi b] σ K:=by
 refine zeq e_r10_Same fun hl=>?_;have fin:∀z,decide (a=b)=z->K (.d (.bool z)) σ:=fun z h=>h▸hK;clear hK;simp only[zzl,iN,bT,bF,eN];have hla:((zap a.changes).length)=a.changes.length:=List.length_map ..;have hlb:((zap b.changes).length)=b.changes.length:=List.length_map ..;have hal:=ha.changes;cases h1:(a.kind==b.kind)
 ·refine zzZ h1 ?_;refine zu hl ?_;exact fin _ (decide_eq_false fun h=>by subst h;simp at h1)
 cases h2:(a.src==b.src)
 ·refine zzZ (zd h1 h2) ?_;refine zu hl ?_;exact fin _ (decide_eq_false fun h=>by subst h;simp at h2)
 cases h3:(a.view==b.view)
 ·refine zzZ (zd h1 (zd h2 h3)) ?_;refine zu hl ?_;exact fin _ (decide_eq_false fun h=>by subst h;simp at h3)
 cases h4:(a.seq==b.seq)
 ·refine zzZ (zd h1 (zd h2 (zd h3 h4))) ?_;refine zu hl ?_;exact fin _ (decide_eq_false fun h=>by subst h;simp at h4)
 cases h5:(a.dig==b.dig)
 ·refine zzZ (zd h1 (zd h2 (zd h3 (zd h4 h5)))) ?_;refine zu hl ?_;exact fin _ (decide_eq_false fun h=>by subst h;simp at h5)
 cases h6:(a.client==b.client)
 ·refine zzZ (zd h1 (zd h2 (zd h3 (zd h4 (zd h5 h6))))) ?_;refine zu hl ?_;exact fin _ (decide_eq_false fun h=>by subst h;simp at h6)
 cases h7:(a.time==b.time)
 ·refine zzZ (zd h1 (zd h2 (zd h3 (zd h4 (zd h5 (zd h6 h7)))))) ?_;refine zu hl ?_;exact fin _ (decide_eq_false fun h=>by subst h;simp at h7)
 cases h8:(a.rerr==b.rerr&&a.roff==b.roff)
 ·refine gq21 (zd h1 (zd h2 (zd h3 (zd h4 (zd h5 (zd h6 (zd h7 h8))))))) ?_;refine zu hl ?_;exact fin _ (decide_eq_false fun h=>by subst h;simp at h8)
 cases h9:(a.topic==b.topic)
 ·refine gq21 (zd h1 (zd h2 (zd h3 (zd h4 (zd h5 (zd h6 (zd h7 (zd h8 h9)))))))) ?_;refine zu hl ?_;exact fin _ (decide_eq_false fun h=>by subst h;simp at h9)
 cases h10:(a.offset==b.offset)
 ·refine gq21 (zd h1 (zd h2 (zd h3 (zd h4 (zd h5 (zd h6 (zd h7 (zd h8 (zd h9 h10))))))))) ?_;refine zu hl ?_;exact fin _ (decide_eq_false fun h=>by subst h;simp at h10)
 cases h11:(a.key==b.key&&a.sdig==b.sdig)
 ·refine gq21 (zd h1 (zd h2 (zd h3 (zd h4 (zd h5 (zd h6 (zd h7 (zd h8 (zd h9 (zd h10 h11)))))))))) ?_;refine zu hl ?_;exact fin _ (decide_eq_false fun h=>by subst h;simp at h11)
 refine gq21 (zd h1 (zd h2 (zd h3 (zd h4 (zd h5 (zd h6 (zd h7 (zd h8 (zd h9 (zd h10 h11)))))))))) ?_;refine zvn ha.batchS hb.batchS ?_;cases h12:decide (a.batch=b.batch)
 ·refine zm h12 ?_;refine zu hl ?_;exact fin _ (decide_eq_false fun h=>by subst h;simp at h12)
 refine zjB h12 ?_;refine ztD (a:=a.cert) (b:=b.cert) ha.signs ?_;cases h13:decide (a.cert=b.cert)
 ·refine zm h13 ?_;refine zu hl ?_;exact fin _ (decide_eq_false fun h=>by subst h;simp at h13)
 refine zjB h13 ?_;refine zAw ha.entries (fun x hx=>(ha.entry x hx).2) (fun x hx=>(hb.entry x hx).2) ?_;cases h14:decide (a.entries=b.entries)
 ·refine zm h14 ?_;refine zu hl ?_;exact fin _ (decide_eq_false fun h=>by subst h;simp at h14)
 cases h15:(a.state==b.state)
 ·refine gq37 (zd h14 h15) ?_;refine zu hl ?_;exact fin _ (decide_eq_false fun h=>by subst h;simp at h15)
 refine gq37 (zd h14 h15) ?_;refine c_kSameProof (a:=a.proof) (b:=b.proof) ha.proof ?_;cases h16:decide (a.proof=b.proof)
 ·refine zm h16 ?_;refine zu hl ?_;exact fin _ (decide_eq_false fun h=>by subst h;simp at h16)
 cases h17:((a.changes.length:Int)==(b.changes.length:Int))
 ·refine zzZ (zd h16 (zd hla (zd hlb h17))) ?_;refine zu hl ?_;exact fin _ (decide_eq_false fun h=>by subst h;simp at h17)
 have hl2:a.changes.length=b.changes.length:=by simp at h17;omega
 have hla:((a.changes.map zaj).length)=a.changes.length:=List.length_map ..;have hlb:((b.changes.map zaj).length)=b.changes.length:=List.length_map ..;refine zzZ (zd h16 (zd hla (zd hlb (zd h17 (zd hla hlb))))) ?_;refine zn a.changes.length (fun k vs s=>vs=[.d (.int .i64 k)]/\s=σ++[zlg a,zlg b]/\a.changes.take k=b.changes.take k) ⟨rfl,rfl,by simp⟩ ?_;rintro k vs s hk ⟨rfl,rfl,htk⟩;by_cases hlt:k<a.changes.length
 ·have hd:decide ((k:Int)<(a.changes.length:Int))=true:=by simp;omega
  have hx:a.changes[k]? = some a.changes[k]:=by simp[hlt]
  have hy:b.changes[k]? = some (b.changes[k]'(by omega)):=List.getElem?_eq_getElem _;have hgx:=zR (f:=zaj) hx;have hgy:=zR (f:=zaj) hy;have hxs:=(ha.change _ (List.getElem_mem hlt)).2;have hys:=(hb.change _ (List.getElem_mem (show k<b.changes.length by omega))).2;obtain⟨x,hxe⟩:∃x,a.changes[k]=x:=⟨_,rfl⟩;obtain⟨y,hye⟩:∃y,(b.changes[k]'(by omega))=y:=⟨_,rfl⟩;rw[hxe]at hx hgx hxs;rw[hye]at hy hgy hys;refine zdV (zd hd (zd hgx (zd hgy (zd hla hlb)))) ?_;refine zAA (a:=x) (b:=y) hxs hys ?_;cases he:decide (x=y)
  ·refine zG ?_;refine zu hl ?_;refine fin _ (decide_eq_false fun h=>?_);subst h;rw[hx]at hy;have:=Option.some.inj hy;simp[this]at he
  ·refine zm (wkc k (by omega)) ?_;exact zaK.next hlt ⟨rfl,rfl,zbq hx hy htk (by simpa using he)⟩
 have hd:decide ((k:Int)<(a.changes.length:Int))=false:=by simp;omega
 have heq_changes:a.changes=b.changes:=zcu hl2 (k:=k) (by omega) htk;refine zm (zd hd (zd hla hlb)) ?_;refine zu hl ?_;exact fin _ (decide_eq_true (by cases a;cases b;simp_all))
variable {σ:List AObj} {K:KT}
theorem w64k {x:Int}(h0:0<=x)(h1:x<=9007199254740992):IntKind.u64.wrap x=((x.toNat:Nat):Int):=by
 rw[show x=((x.toNat:Nat):Int) by omega,zdW (by omega)];rfl
theorem zeV {b:List UInt8}{l:List Int}(hb:b.length<=536870912)(hl0:l.length<=1000)(hi:∀x∈l,0<=x/\x<=9007199254740992)(hK:K (.d (.slice (bcs (b++zS l)))) σ) :
  zP zbn [.d (.slice (bcs b)),.d (.slice (zhY l))] σ K:=by
 refine zeq e_r10_put fun hl=>?_;simp only[S_r10_put,iN,bT,bF,eN];refine zG ?_;refine zn l.length (fun k vs s=>(∃x,vs=[x,.d (.int .i64 k)]/\(x=.d (.slice (bcs (b++zS (l.take k))))∨∃t,x=.own t (bcs (b++zS (l.take k)))))/\∃T,s=σ++T) ⟨⟨_,rfl,.inl (by simp[zS])⟩,[],by simp⟩ ?_;rintro k vs s hk ⟨⟨y,rfl,hy⟩,T,rfl⟩;by_cases hlt:k<l.length
 ·have hd:decide ((k:Int)<(l.length:Int))=true:=by simp;omega
  have hx:l[k]? = some l[k]:=by simp[hlt]
  have hxi:=hi _ (List.getElem_mem hlt);have hgx:=zR (f:=fun t=>[D.int .i64 t]) hx;obtain⟨x,hxe⟩:∃x,l[k]=x:=⟨_,rfl⟩;rw[hxe]at hx hgx hxi;have hw:=w64k hxi.1 hxi.2;have hln:=zos (l:=l.take k) (fun y hy=>by have:=hi y (List.mem_of_mem_take hy);omega);have hlk:(l.take k).length=k:=by rw[List.length_take];omega
  have hbl:(b++zS (l.take k)).length<=1073741824:=by rw[List.length_append];omega
  have hnx:b++zS (l.take (k+1))=b++(zS (l.take k)++zbv x.toNat):=by rw[List.take_add_one,hx];simp[zS]
  have fin:∀t τ,(∃z,[AV.own t (bcs (b++(zS (l.take k)++zbv x.toNat))),.d (.int .i64 (k+1:Nat))]=[z,.d (.int .i64 (k+1:Nat))]/\(z=.d (.slice (bcs (b++zS (l.take (k+1)))))∨∃t,z=.own t (bcs (b++zS (l.take (k+1))))))/\∃T',σ++T++τ=σ++T':=fun t τ=>
   ⟨⟨_,rfl,.inr ⟨t,by rw[hnx]⟩⟩,_,List.append_assoc _ _ _⟩
  obtain⟨S,hS⟩:∃S,σ++T=S:=⟨_,rfl⟩;rw[hS]at fin ⊢;rcases hy with rfl|⟨t,rfl⟩
  ·refine zm (zd hd (zd hgx hw)) ?_;refine zeQ (by omega) hbl ?_;refine zm (wkc k (by omega)) ?_;exact zaK.next hlt (fin _ _)
  ·refine zm (zd hd (zd hgx hw)) ?_;refine zeQ (by omega) hbl ?_;refine zm (wkc k (by omega)) ?_;exact zaK.next hlt (fin _ _)
 ·have hd:decide ((k:Int)<(l.length:Int))=false:=by simp;omega
  rw[List.take_of_length_le (by omega)]at hy;rcases hy with rfl|⟨t,rfl⟩
  ·refine zm hd ?_;refine zu hl ?_;exact hK
  ·refine zm hd ?_;refine zu hl ?_;exact hK
theorem zwV {b:List UInt8}{l:List zI}(hb:b.length<=268435456)(hc:∀e∈zco l,e=0)(hK:K (.d (.slice (bcs (b++zvL l)))) σ) :
  zP ziI [.d (.slice (bcs b)),.d (.slice (zat l))] σ K:=by
 refine zeq zxO fun hl=>?_;obtain⟨h13,hs⟩:=zzF hc;have hll:(zat l).length=l.length:=List.length_map ..;have n1:=zl (n:=l.length) (by omega);simp only[zqy,iN,bT,bF,eN];refine zm hll ?_;refine zeV (l:=[(l.length:Int)]) (by omega) (by simp) (by simp;omega) ?_;rw[show zS [(l.length:Int)]=zbv l.length by simp[zS]];refine zm hll ?_;refine zn l.length (fun k vs s=>vs=[.d (.slice (bcs (b++(zbv l.length++((l.take k).map fun s=>zgt s.key s.dig).flatten)))),.d (.int .i64 k)]/\s=σ) ⟨by simp,rfl⟩ ?_;rintro k vs s hk ⟨rfl,rfl⟩;by_cases hlt:k<l.length
 ·have hd:decide ((k:Int)<(l.length:Int))=true:=by simp;omega
  have hx:l[k]? = some l[k]:=by simp[hlt]
  have hxi:=hs _ (List.getElem_mem hlt);have hgx:=zR (f:=zgX) hx;obtain⟨x,hxe⟩:∃x,l[k]=x:=⟨_,rfl⟩;rw[hxe]at hx hgx hxi;have hlen:(((l.take k).map fun s=>zgt s.key s.dig).flatten).length<=(l.take k).length*20:=zcz fun s hm=>zgB (hs s (List.mem_of_mem_take hm));have hlk:(l.take k).length=k:=by rw[List.length_take];omega
  have hsb:zcv x.key x.dig=zgt x.key x.dig:=by simp[zcv,hxi]
  refine zdV (zd hd (zd hgx hll)) ?_;refine ziB (by simp only[List.length_append];omega) ?_;rw[hsb];refine zm (wkc k (by omega)) ?_;exact zaK.next hlt ⟨by rw[zda hx];try simp,rfl⟩
 ·have hd:decide ((k:Int)<(l.length:Int))=false:=by simp;omega
  rw[List.take_of_length_le (by omega)];refine zm (zd hd hll) ?_;refine zu hl ?_;exact hK
theorem ztE {b:List UInt8}{c:zjx}(hb:b.length<=134217728)(hc:∀e∈zbx c,e=0)(hK:K (.d (.slice (bcs (b++zrv c)))) σ) :
  zP zhz [.d (.slice (bcs b)),zmk c] σ K:=by
 refine zeq zAl fun hl=>?_;obtain⟨h1,h2,h3⟩:=cert_ok hc;have n1:=zl (n:=c.seq.toNat) (by omega);have n2:=zl (n:=c.dig.toNat) (by omega);simp only[zsA,iN,bT,bF,eN];refine zG ?_;refine zeV (l:=[c.seq,c.dig]) (by omega) (by simp) (by simp;omega) ?_;refine zG ?_;refine zwV (by simp[zS];omega) h3 ?_;refine zG ?_;refine zu hl ?_;have fin:∀x,x=b++zrv c->K (dmT (zcm [.d (.slice (bcs x))])) σ:=by rintro _ rfl;exact hK
 exact fin _ (by simp[zrv,zS])
theorem zyU {b:List UInt8}{c:zbj}(hb:b.length<=67108864)(hc:∀e∈zez c,e=0)(hK:K (.d (.slice (bcs (b++zuW c)))) σ) :
  zP zjU [.d (.slice (bcs b)),.agg (zbL c)] σ K:=by
 refine zeq zAm fun hl=>?_;have hpl:(zfw c.above).length=c.above.length:=List.length_map ..;obtain⟨h1,h2,h3,h4,h5⟩:=body_ok hc;have n1:=zl (n:=c.view.toNat) (by omega);have n2:=zl (n:=c.src.toNat) (by omega);have n3:=zl (n:=c.above.length) (by omega);have n4:=zhN h3;simp only[zsB,iN,bT,bF,eN,zl7];refine zG ?_;refine zeV (l:=[c.view,c.src]) (by omega) (by simp) (by simp;omega) ?_;refine zG ?_;refine ztE (c:=c.cert) (by simp[zS];omega) h3 ?_;refine zm hpl ?_;refine zeV (l:=[(c.above.length:Int)]) (by simp[zS];omega) (by simp) (by simp;omega) ?_;rw[show zS [(c.above.length:Int)]=zbv c.above.length by simp[zS]];obtain⟨Q,hQ⟩:∃Q,b++(zS [c.view,c.src]++zrv c.cert)++zbv c.above.length=Q:=⟨_,rfl⟩;have hQl:Q.length<=67108864+400:=by rw[← hQ];simp[zS];omega
 rw[hQ];refine zm hpl ?_;refine zn c.above.length (fun k vs s=>vs=[.d (.slice (bcs (Q++((c.above.take k).map zux).flatten))),.d (.int .i64 k)]/\∃T,s=σ++[.box (zbL c)]++T) ⟨by simp,[],by simp⟩ ?_;rintro k vs s hk ⟨rfl,T,rfl⟩;by_cases hlt:k<c.above.length
 ·have hd:decide ((k:Int)<(c.above.length:Int))=true:=by simp;omega
  have hx:c.above[k]? = some c.above[k]:=by simp[hlt]
  have hpx:=h5 _ (List.getElem_mem hlt);have hgx:=zR (f:=zgb) hx;obtain⟨p,hp⟩:∃p,c.above[k]=p:=⟨_,rfl⟩;rw[hp]at hx hgx hpx;have hlen:(((c.above.take k).map zux).flatten).length<=(c.above.take k).length*4400:=zcz fun s hm=>zvR (h5 s (List.mem_of_mem_take hm));have hlk:(c.above.take k).length=k:=by rw[List.length_take];omega
  obtain⟨R,hR⟩:∃R,Q++((c.above.take k).map zux).flatten=R:=⟨_,rfl⟩;have hRl:R.length<=67108864+36000:=by rw[← hR,List.length_append];omega
  rw[hR];obtain⟨p1,p2,p3,p4,p5,p6⟩:=prep_ok hpx;have m1:=zl (n:=p.view.toNat) (by omega);have m2:=zl (n:=p.seq.toNat) (by omega);have m3:=zl (n:=p.dig.toNat) (by omega);have m4:=zgB p4;have m5:=zpr p5;have hsb:zcv p.fkey p.fdig=zgt p.fkey p.fdig:=by simp[zcv,p4]
  have hbb:zdL p.batch=zhl p.batch:=by simp[zdL,p6]
  have hbx:∀τ,(σ++[AObj.box (zbL c)]++T++τ)[σ.length]? = some (.box (zbL c)):=fun τ=>zi (zi (by rw[zB];rfl));have hbx0:=hbx [];rw[List.append_nil]at hbx0;have fin:∀τ,∃T',σ++[AObj.box (zbL c)]++T++τ=σ++AObj.box (zbL c)::T':=fun τ=>⟨T++τ,by simp⟩;obtain⟨S,hS⟩:∃S,σ++[AObj.box (zbL c)]++T=S:=⟨_,rfl⟩;rw[hS]at hbx hbx0 fin ⊢;refine zdV (zd hd (zd hgx (zd hpl (zd hbx hbx0)))) ?_;refine zeV (l:=[p.view,p.seq,p.dig]) (by omega) (by simp) (by simp;omega) ?_;refine zG ?_;refine ziB (by simp[zS];omega) ?_;rw[hsb];refine zG ?_;refine zwV (by simp[zS];omega) p5 ?_;refine zG ?_;refine znv (by simp[zS];omega) (fun x hx=>Nat.le_trans ((zdK p6).1 x hx) (by omega)) (by have:=(zkb p6).1;omega) ?_;rw[hbb];refine zm (wkc k (by omega)) ?_;refine zaK.next hlt ⟨?_,fin _⟩;rw[zda hx,← hR];simp[zux,zS]
 ·have hd:decide ((k:Int)<(c.above.length:Int))=false:=by simp;omega
  have hbx0:(σ++[AObj.box (zbL c)]++T)[σ.length]? = some (.box (zbL c)):=zi (by rw[zB];rfl);rw[show c.above.take k=c.above from List.take_of_length_le (by omega)];obtain⟨S,hS⟩:∃S,[AObj.box (zbL c)]++T=S:=⟨_,rfl⟩;rw[List.append_assoc,hS]at hbx0 ⊢;refine zm (zd hd (zd hpl hbx0)) ?_;refine zu hl ?_;rw[← hQ];have fin:∀x,x=b++zuW c->K (dmT (zcm [.d (.slice (bcs x))])) σ:=by rintro _ rfl;exact hK
  exact fin _ (by simp[zuW,zS])
theorem c_kPutChange {b:List UInt8}{c:zbj}(hb:b.length<=67108864)(hc:∀e∈zaT c,e=0)(hK:K (.d (.slice (bcs (b++zfU c)))) σ) :
  zP zkv [.d (.slice (bcs b)),.agg (zbL c)] σ K:=by
 refine zeq zwx fun hl=>?_;obtain⟨h1,h2⟩:=ziX hc;have n1:=zsu h1;have hsb:zcv c.key c.dig=zgt c.key c.dig:=by simp[zcv,h2]
 simp only[zpb,iN,bT,bF,eN];refine zG ?_;refine zyU (c:=c) hb h1 ?_;refine zG ?_;refine ziB (by simp only[List.length_append];omega) ?_;rw[hsb];refine zG ?_;refine zu hl ?_;have fin:∀x,x=b++zfU c->K (dmT (zcm [.d (.slice (bcs x))])) σ:=by rintro _ rfl;exact hK
 exact fin _ (by simp[zfU,zS])
variable {σ:List AObj} {K:KT}
theorem gq38 {A P Q:Prop}(a:A)(h:Q)(e:A->Hd Q->P:=by intro a h;(repeat' first|simp -dsimp only[↓zlG,↓zbS,↓zee,↓zlH,↓zly,↓zlw,↓zlz,↓zlx,↓zej,↓zef,↓zek,↓zeg,↓zlA,↓zeb,↓zel,↓zeh,↓zem,↓zei,↓zlv,↓zlE,↓zea,↓zep,↓zln,↓zlm,↓zlt,iN,bT,bF,eN,↓zes,↓unC,↓zaB,↓zah,↓zai,↓zav,↓zaX,↓zag,↓zgA,↓zaw,↓zbf,↓zad,↓ze,↓zj,↓zaR,↓zc,↓zaV,↓zN,↓zbT,↓zcl,↓zf,↓zF,↓zp,↓zM,↓zaA,↓zgH,↓zhI,↓zbc,↓zby,↓zcf,↓zcA,↓zdo,↓zJ,↓zbb,↓zak,↓zO,↓zaU,zhr,zdU,zdB,unA,zgx,bnd,ziS,zaO,zL,zic,dm,dm1,zH,zaF,zjW,zjV,keepO,Q0,Q1,Q2,Q3,Q4,Q5,zba,zA,zB,zY,zab,Q6,Q7,Q8,Q9,Q10,Q11,Q12,Q13,Q14,Nat.reduceAdd,Q15,Int.reduceToNat,Q16,Q17,Q18,Q19,Q20,reduceIte,Q21,Q22,zy,rep,zaq,zhW,toD,zaC,Q23,Q24,Q25,Q26,Q27,Q28,Nat.reduceLeDiff,Q29,Nat.reduceSub,Q30,Q31,Q32,sc,Q33,Q34,Q35,Q36,Q37,Q26,Q38,Q39,zuF,zuC,zuz,zuG,zjv,zuD,zuA,zuE,zuB,zju,zjw,zuI,zuJ,Bool.not_true,Bool.not_false,List.length_map,Bool.and_false,Bool.and_self,Bool.false_and,Bool.not_false,Bool.not_true,Bool.true_and,Int.toNat_natCast,Int.toNat_zero,List.drop_zero,List.length_map,List.length_nil,List.nil_append,List.take_length,Nat.sub_zero,Nat.zero_add,Option.isSome_none,Option.isSome_some,Option.map_none,Option.map_some,zam,beq_self_eq_true,bne_self_eq_false,a]|with_reducible refine zuX ?_|fail);exact h.go):P:=e a ⟨h⟩
theorem c_raSigned {id id2:Nat}{L:List (List UInt8)}{G:List zI}{s:zI}{key:Int}{b:List UInt8}(hT:σ[id]? = some (rtO L))(hG:σ[id2]? = some (rlO G))(hl0:L.length<=1048576)(hg:G.length<=1073741824)
  (hK:K (.d (.bool (ziq L G s key b))) σ):zP zou [.box id 0,.box id2 0,.agg [.d (.int .i64 s.key),.d (.int .i64 s.dig)],.d (.int .i64 key),.d (.slice (bcs b))] σ K:=by
 refine acE5 e_r11_signed fun hl=>?_;simp only[zul,iN,bT,bF,eN];refine zG ?_;refine c_rtLook (zi hT) hl0 ?_;have fin:∀z,ziq L G s key b=z->K (.d (.bool z)) σ:=fun z h=>h▸hK;clear hK;cases hlk:zhJ L b with
 | none=>
  refine gq28 ?_
  refine zu hl ?_
  exact fin _ (by simp[ziq,hlk])
 | some i=>
  simp only[zuy]
  cases h1:(s.key==key)
  ·refine gq38 h1 ?_
   refine zu hl ?_
   exact fin _ (by simp at h1;simp[ziq,hlk,h1])
  ·cases h2:(s.dig==((i+1:Nat):Int))
   ·refine gq38 (zd h1 h2) ?_
    refine zu hl ?_
    exact fin _ (by simp at h1 h2;simp[ziq,hlk,h1];omega)
   ·refine gq38 (zd h1 h2) ?_
    refine zyT (s:=s) (zi hG) hg ?_
    refine zG ?_
    refine zu hl ?_
    exact fin _ (by simp at h1 h2;simp[ziq,hlk,h1,h2])
variable {σ:List AObj} {K:KT}
theorem zwU {k:Int}(hK:K (.d (.bool (zeT k))) σ):zP zov [.d (.int .i64 k)] σ K:=by
 refine zeA e_r10_signed fun hl=>?_;have fin:∀z,zeT k=z->K (.d (.bool z)) σ:=fun z h=>h▸hK;clear hK;simp only[zum,iN,bT,bF,eN];cases h1:decide (k≥2)
 ·refine zm h1 ?_;refine zu hl ?_;exact fin _ (by simp at h1;simp[zeT];omega)
 cases h2:decide (k<=9)
 ·refine zm (zd h1 h2) ?_;refine zu hl ?_;exact fin _ (by simp at h2;simp[zeT];omega)
 refine zm (zd h1 h2) ?_;refine zu hl ?_;refine fin _ ?_;simp at h1 h2;rw[Bool.eq_iff_iff];simp[zeT,h1,h2]
theorem zAz {b:List UInt8}(hK:K (.tup [.d (.slice (bcs (if b.length>262144 then []else b))),.d (.int .i64 (if b.length>262144 then 3 else 0))]) σ) :
  zP zqU [.d (.slice (bcs b)),.d (.int .i64 0)] σ K:=by
 refine zeq e_r10_short fun hl=>?_;simp only[zxk,iN,bT,bF,eN];by_cases h:b.length>262144
 ·have hd:decide ((b.length:Int)>262144)=true:=by simp;omega
  rw[if_pos h,if_pos h]at hK;refine zm hd ?_;refine zu hl ?_;exact hK
 ·have hd:decide ((b.length:Int)>262144)=false:=by simp;omega
  rw[if_neg h,if_neg h]at hK;refine zm hd ?_;refine zu hl ?_;exact hK
theorem c_kBody7 {m:zbC}{c:zbj}(hk:m.kind=7)(hch:m.changes=[c])(hc:∀e∈zez c,e=0)(hK:K (.tup [.d (.slice (bcs (unsB m))),.d (.bool true)]) σ) :
  zP zki [zgi m] σ K:=by
 refine zeA ztt fun hl=>?_;have hgx:(zap m.changes)[0]? = some (zaj c):=by rw[hch];rfl
 have hgl:(zap m.changes).length=1:=by rw[hch];rfl
 have n1:=zl (n:=m.kind.toNat) (by omega);simp only[zpP,iN,bT,bF,eN];refine zG ?_;refine zeV (b:=[]) (l:=[m.kind]) (by simp) (by simp) (by simp;omega) ?_;refine zdV (zd (kk7 hk) (zd hgx hgl)) ?_;refine zyU (c:=c) (b:=[]++zS [m.kind]) (by simp[zS];omega) hc ?_;refine zG ?_;refine zu hl ?_;have fin:∀x,x=unsB m->K (dmT (zcm [.d (.slice (bcs x)),.d (.bool true)])) σ:=by rintro _ rfl;exact hK
 exact fin _ (by simp[unsB,hk,hch,zS])
theorem c_kBody8 {m:zbC}(hk:m.kind=8)(hc:∀e∈zfH m,e=0)(hK:K (.tup [.d (.slice (bcs (unsB m))),.d (.bool true)]) σ) :
  zP zki [zgi m] σ K:=by
 refine zeA ztt fun hl=>?_;have hcl:(zap m.changes).length=m.changes.length:=List.length_map ..;have hel:(zbo m.entries).length=m.entries.length:=List.length_map ..;obtain⟨h1,h2,h3,h4,h5,h6⟩:=newv_ok hc;have n0:=zl (n:=m.kind.toNat) (by omega);have n1:=zl (n:=m.src.toNat) (by omega);have n2:=zl (n:=m.view.toNat) (by omega);have n3:=zl (n:=m.changes.length) (by omega);have n4:=zl (n:=m.entries.length) (by omega);simp only[zpP,iN,bT,bF,eN];refine zG ?_;refine zeV (b:=[]) (l:=[m.kind]) (by simp) (by simp) (by simp;omega) ?_;refine zm (zd (kk8 hk) hcl) ?_;refine zeV (l:=[m.src,m.view,(m.changes.length:Int)]) (b:=[]++zS [m.kind]) (by simp[zS];omega) (by simp) (by simp;omega) ?_;obtain⟨Q,hQ⟩:∃Q,[]++zS [m.kind]++zS [m.src,m.view,(m.changes.length:Int)]=Q:=⟨_,rfl⟩;have hQl:Q.length<=1000:=by rw[← hQ];simp[zS];omega
 rw[hQ];refine zm hcl ?_;refine zn m.changes.length (fun k vs s=>vs=[.d (.slice (bcs (Q++((m.changes.take k).map zfU).flatten))),.d (.int .i64 k)]/\s=σ++[zlg m]) ⟨by simp,rfl⟩ ?_;rintro k vs s hk0 ⟨rfl,rfl⟩;have hlenC:(((m.changes.take k).map zfU).flatten).length<=13*36020:=by
  have:=zcz (f:=zfU) (n:=36020) (l:=m.changes.take k) fun s hm=>zru (h4 s (List.mem_of_mem_take hm));have hlk:(m.changes.take k).length<=13:=by rw[List.length_take];omega
  have:(m.changes.take k).length*36020<=13*36020:=Nat.mul_le_mul_right _ hlk;omega
 by_cases hlt:k<m.changes.length
 ·have hd:decide ((k:Int)<(m.changes.length:Int))=true:=by simp;omega
  have hx:m.changes[k]? = some m.changes[k]:=by simp[hlt]
  have hpx:=h4 _ (List.getElem_mem hlt);have hgx:=zR (f:=zaj) hx;obtain⟨p,hp⟩:∃p,m.changes[k]=p:=⟨_,rfl⟩;rw[hp]at hx hgx hpx;refine zdV (zd hd (zd hgx hcl)) ?_;refine c_kPutChange (c:=p) (by simp only[List.length_append];omega) hpx ?_;refine zm (wkc k (by omega)) ?_;exact zaK.next hlt ⟨by rw[zda hx];try simp,rfl⟩
 have hd:decide ((k:Int)<(m.changes.length:Int))=false:=by simp;omega
 rw[show m.changes.take k=m.changes from List.take_of_length_le (by omega)]at hlenC ⊢;refine zm (zd hd (zd hcl hel)) ?_;refine zeV (l:=[(m.entries.length:Int)]) (by simp only[List.length_append];omega) (by simp) (by simp;omega) ?_;obtain⟨R,hR⟩:∃R,Q++(m.changes.map zfU).flatten++zS [(m.entries.length:Int)]=R:=⟨_,rfl⟩;have hRl:R.length<=1000000:=by rw[← hR];simp only[zS,List.map_cons,List.map_nil,List.flatten_cons,List.flatten_nil,List.append_nil,List.length_append,Int.toNat_natCast];omega
 rw[hR];refine zm hel ?_;refine zn m.entries.length (fun k vs s=>vs=[.d (.slice (bcs (R++((m.entries.take k).map znE).flatten))),.d (.int .i64 k)]/\∃T,s=σ++zlg m::T) ⟨by simp,[],rfl⟩ ?_;rintro k vs s hk1 ⟨rfl,T,rfl⟩;by_cases hlt:k<m.entries.length
 ·have hd:decide ((k:Int)<(m.entries.length:Int))=true:=by simp;omega
  have hx:m.entries[k]? = some m.entries[k]:=by simp[hlt]
  have hpx:=h6 _ (List.getElem_mem hlt);have hgx:=zR (f:=zdI) hx;obtain⟨p,hp⟩:∃p,m.entries[k]=p:=⟨_,rfl⟩;rw[hp]at hx hgx hpx;have hlen:(((m.entries.take k).map znE).flatten).length<=(m.entries.take k).length*4040:=zcz fun s hm=>ztp (h6 s (List.mem_of_mem_take hm));have hlk:(m.entries.take k).length=k:=by rw[List.length_take];omega
  obtain⟨X,hX⟩:∃X,R++((m.entries.take k).map znE).flatten=X:=⟨_,rfl⟩;have hXl:X.length<=2000000:=by rw[← hX,List.length_append];omega
  rw[hX];obtain⟨p1,p2,p3,p4⟩:=zAi hpx;have m1:=zl (n:=p.view.toNat) (by omega);have m2:=zl (n:=p.seq.toNat) (by omega);have m3:=(zdK p3).2;have hsb:zcv p.key p.dig=zgt p.key p.dig:=by simp[zcv,p4]
  have hbb:zdL p.batch=zhl p.batch:=by simp[zdL,p3]
  have hbx0:(σ++zlg m::T)[σ.length]? = some (zlg m):=by rw[zB];rfl
  have hbx:∀τ,(σ++zlg m::T++τ)[σ.length]? = some (zlg m):=fun τ=>zi hbx0;have fin:∀τ,∃T',σ++zlg m::T++τ=σ++zlg m::T':=fun τ=>⟨T++τ,by simp⟩;obtain⟨S,hS⟩:∃S,σ++zlg m::T=S:=⟨_,rfl⟩;rw[hS]at hbx hbx0 fin ⊢;refine zdV (zd hd (zd hgx (zd hel (zd hbx hbx0)))) ?_;refine zeV (l:=[p.view,p.seq]) (by omega) (by simp) (by simp;omega) ?_;refine zG ?_;refine znv (by simp[zS];omega) (fun x hx=>Nat.le_trans ((zdK p3).1 x hx) (by omega)) (by have:=(zkb p3).1;omega) ?_;rw[hbb];refine zG ?_;refine ziB (by simp[zS];omega) ?_;rw[hsb];refine zm (wkc k (by omega)) ?_;refine zaK.next hlt ⟨?_,fin _⟩;rw[zda hx,← hX];simp[znE,zS]
 ·have hd:decide ((k:Int)<(m.entries.length:Int))=false:=by simp;omega
  have hbx0:(σ++zlg m::T)[σ.length]? = some (zlg m):=by rw[zB];rfl
  rw[show m.entries.take k=m.entries from List.take_of_length_le (by omega)];obtain⟨S,hS⟩:∃S,zlg m::T=S:=⟨_,rfl⟩;rw[hS]at hbx0 ⊢;refine zm (zd hd (zd hel hbx0)) ?_;refine zu hl ?_;have fin:∀x,x=unsB m->K (dmT (zcm [.d (.slice (bcs x)),.d (.bool true)])) σ:=by rintro _ rfl;exact hK
  exact fin _ (by rw[← hR,← hQ];simp[unsB,hk,newvB,zS])
abbrev withS (m:zbC) (s:zI):zbC:={ m with key:=s.key,sdig:=s.dig }
theorem zzS:msgL zeu=[.d (.int .i64 0),.d (.int .i64 0),.d (.int .i64 0),.d (.int .i64 0),.d (.int .i64 0),.d (.int .i64 0),.d (.int .i64 0),.d (.int .i64 0),.d (.int .i64 0),.d (.slice []),.d (.int .i64 0),.d (.int .i64 0),.d (.slice []),.d (.slice []),.d (.slice []),.d (.slice []),.d (.str []),.d (.int .i64 0),.d (.str []),.d (.int .i64 0),.d (.slice []),.d (.slice []),.d (.int .i64 0),.d (.int .i64 0),.d (.slice []),.d (.int .i64 0),.d (.int .i64 0),.d (.slice []),.d (.int .i64 0),.d (.int .i64 0)]:=rfl
variable {σ:List AObj} {K:KT}
def zqc (m:zbC):AV:=if zfV (zbr m)=0/\nilK m.kind=false then .d (.slice (bcs (zdi m)))else .nils
theorem zzE {m:zbC}(h7:m.kind≠7):zbr m=if zeT m.kind=true then zvA m else m:=by rw[zbr,if_neg h7]
theorem zrL (m:zbC):(zbr m).kind=m.kind:=by
 unfold zbr;split
 ·split<;>rfl
 ·split<;>rfl
theorem zzW {m:zbC}(h:zfV (zbr m)=0):(m.kind=2∨m.kind=3∨m.kind=4->mayV m.kind m.view m.seq m.dig=true)/\(m.kind=6->mayV m.kind 0 m.seq m.dig=true)/\(m.kind=9->mayV m.kind 0 m.seq 0=true):=by
 have hc:=(zjD h).1;have hall:=(zgO hc).1;refine⟨fun hk=>?_,fun hk=>?_,fun hk=>?_⟩
 ·have ho:zeT m.kind=true:=by simp only[zeT,decide_eq_true_eq];omega
  have e:zbr m=zvA m:=by rw[zzE (by omega),if_pos ho]
  obtain⟨v1,v2,v3,v4⟩:=zzz hc (by rw[zrL];exact hk);rw[e]at v1 v2 v3 v4;simp only[mayV,zvV,Bool.and_eq_true,decide_eq_true_eq];simp only at v2 v3 v4;omega
 ·have e:zbr m=zvA m:=by rw[zzE (by omega),if_pos (by rw[hk];rfl)]
  rw[e]at hall;have g2:=zkF (hall (zkr m.seq) (by simp[zac,zC,hk]));have g3:=zkF (hall (zkr m.dig) (by simp[zac,zC,hk]));simp only[mayV,zvV,Bool.and_eq_true,decide_eq_true_eq];omega
 ·have e:zbr m=zvA m:=by rw[zzE (by omega),if_pos (by rw[hk];rfl)]
  rw[e]at hall;have g2:=zkF (hall (zeU m.seq) (by simp[zac,zC,hk]));simp only[mayV,zvV,Bool.and_eq_true,decide_eq_true_eq];omega
theorem zsP {m:zbC}(hk:m.kind=5)(h:zfV (zbr m)=0):ReplyOk (zvA m):=by
 have e:zbr m=zvA m:=by rw[zzE (by omega),if_pos (by rw[hk];rfl)]
 have:=(zjD h).1;rw[e]at this;exact zyO (m:=zvA m) hk this
theorem zuj {m:zbC}(hm:zaI m)
  (hK:K (.tup [zqc m,.d (.int .i64 (zfV (zbr m)))]) σ):zP ziM [zgi m] σ K:=by
 refine zlI zoF.is rfl fun hl _=>zoF.goes ?_;simp only[zoT];refine zG ?_;refine c_mUnsignedG (m:=m) hm ?_;by_cases h1:zfV (zbr m)=0;rotate_left
 ·have h1':(zfV (zbr m) != 0)=true:=by simp[h1]
  refine zm h1' ?_;refine zu hl ?_;rw[zqc,if_neg (fun h=>h1 h.1)]at hK;exact hK
 have h1':(zfV (zbr m) != 0)=false:=by simp[h1]
 have hkk:=kinds (zjD h1).1;rw[zrL]at hkk;obtain⟨y1,y2,y3⟩:=zzW h1;have hlen:=(zjD h1).2;rw[if_pos h1];have hn:nilK m.kind=true->K (.tup [.nils,.d (.int .i64 0)]) σ:=fun hk=>by
  rw[zqc,if_neg (fun h=>by rw[hk]at h;cases h.2),h1]at hK;exact hK
 have hs:nilK m.kind=false->∀b,zdi m=b->K (.tup [.d (.slice (bcs b)),.d (.int .i64 0)]) σ:=fun hk b hb=>by
  rw[zqc,if_pos ⟨h1,hk⟩,h1,hb]at hK;exact hK
 clear hK;have ulen:(znW (zbr m)).length<=262144:=by rw[ztj,List.length_append]at hlen;omega
 by_cases hk:m.kind=2
 ·refine zm (zd h1' (K2 hk)) ?_;refine zhQ (a:=m.kind) (b:=m.view) (c:=m.seq) (d:=m.dig) (y1 (by omega)) ?_;refine zG ?_;refine zu hl ?_;exact hs (by rw[hk];rfl) _ (by simp[zdi,hk])
 by_cases hk:m.kind=3
 ·refine zm (zd h1' (K3 hk)) ?_;refine zhQ (a:=m.kind) (b:=m.view) (c:=m.seq) (d:=m.dig) (y1 (by omega)) ?_;refine zG ?_;refine zu hl ?_;exact hs (by rw[hk];rfl) _ (by simp[zdi,hk])
 by_cases hk:m.kind=4
 ·refine zm (zd h1' (K4 hk)) ?_;refine zhQ (a:=m.kind) (b:=m.view) (c:=m.seq) (d:=m.dig) (y1 (by omega)) ?_;refine zG ?_;refine zu hl ?_;exact hs (by rw[hk];rfl) _ (by simp[zdi,hk])
 by_cases hk:m.kind=6
 ·refine zm (zd h1' (K6 hk)) ?_;refine zhQ (a:=m.kind) (b:=0) (c:=m.seq) (d:=m.dig) (y2 hk) ?_;refine zG ?_;refine zu hl ?_;exact hs (by rw[hk];rfl) _ (by simp[zdi,hk])
 by_cases hk:m.kind=9
 ·refine zm (zd h1' (K9 hk)) ?_;refine zhQ (a:=m.kind) (b:=0) (c:=m.seq) (d:=0) (y3 hk) ?_;refine zG ?_;refine zu hl ?_;exact hs (by rw[hk];rfl) _ (by simp[zdi,hk])
 by_cases hk:m.kind=5
 ·have hc:=zsP hk h1;refine zm (zd h1' (K5 hk)) ?_;refine c_auPut (b:=[5]) (l:=[m.view,m.client,m.time,m.rerr,m.roff]) (by simp) (by simp) ?_ ?_
  ·have a1:=hc.view;have a2:=hc.client;have a3:=hc.time;have a4:=hc.rerr;have a5:=hc.roff;simp only[zvA]at a1 a2 a3 a4 a5;simp;omega
  refine zG ?_;refine zu hl ?_;exact hs (by rw[hk];rfl) (replyB m) (by simp[zdi,hk])
 by_cases hk:m.kind=7
 ·refine zm (zd h1' (K7 hk)) ?_;refine⟨bcs1 _,by simp,by omega,?_⟩;refine zu hl ?_;exact hs (by rw[hk];rfl) (6::znW (zbr m)) (by simp[zdi,hk])
 by_cases hk:m.kind=8
 ·refine zm (zd h1' (K8 hk)) ?_;refine⟨bcs1 _,by simp,by omega,?_⟩;refine zu hl ?_;exact hs (by rw[hk];rfl) (6::znW (zbr m)) (by simp[zdi,hk])
 by_cases hk:m.kind=1
 ·refine zm (zd h1' (K1 hk)) ?_;refine zu hl ?_;exact hn (by rw[hk];rfl)
 by_cases hk:m.kind=10
 ·refine zm (zd h1' (K10 hk)) ?_;refine zu hl ?_;exact hn (by rw[hk];rfl)
 by_cases hk:m.kind=11
 ·refine zm (zd h1' (K11 hk)) ?_;refine zu hl ?_;exact hn (by rw[hk];rfl)
 have hk:m.kind=12:=by omega
 refine zm (zd h1' (K12 hk)) ?_;refine zu hl ?_;exact hn (by rw[hk];rfl)
variable {σ:List AObj} {K:KT}
theorem mgWalk {m:zbC}(hm:zaI m){Z:ZT}
  (hZ:∀g g2 A B,ztL (σ.length+4) A->ztL (σ.length+4) B->Z (some [.agg (msgL2 m (.rsl (σ.length+2) g 8 0 m.changes.length) (.rsl (σ.length+3) g2 5 0 m.entries.length))]) (σ++[A,B,.row g 8 (zcF (zap m.changes)),.row g2 5 (zcF (zbo m.entries))])) :
  zjy Tryz.prog (zgi m) σ Z:=by
 have hcl:(zap m.changes).length=m.changes.length:=List.length_map ..;have hel:(zbo m.entries).length=m.entries.length:=List.length_map ..;have h8:=changes_eight m.changes;have h5:=entries_five m.entries;have hal:=hm.changes;have hbl:=hm.entries;simp only[zjy,iN,bT,bF,eN,zl3];refine zG ?_;refine zkM (b:=m.batch) hm.batchS ?_;refine zG ?_;refine znw (c:=m.cert) hm.signs ?_;refine zG ?_;refine c_clByt ziD (by rw[zam];exact hm.state) ?_;refine zG ?_;refine c_clChangeM h8 (by omega) fun g=>?_;refine zm hcl ?_;refine c_clEntryM h5 (by omega) fun g2=>?_;refine zm (zd hcl hel) ?_;obtain⟨R,hR⟩:∃R,zcF (zap m.changes)=R:=⟨_,rfl⟩;obtain⟨Q,hQ⟩:∃R,zcF (zbo m.entries)=R:=⟨_,rfl⟩;have hRl:R.length=m.changes.length*8:=by rw[← hR,zoD h8,hcl]
 have hQl:Q.length=m.entries.length*5:=by rw[← hQ,zoD h5,hel]
 rw[hR,hQ];refine zn m.changes.length (fun k vs s=>vs=[.d (.int .i64 k)]/\s=σ++[AObj.box (msgL2 m (.rsl (σ.length+2) g 8 0 m.changes.length) (.rsl (σ.length+3) g2 5 0 m.entries.length)),.box zero30,.row g 8 R,.row g2 5 Q]) ⟨rfl,rfl⟩ ?_;rintro k vs s hk ⟨rfl,rfl⟩;by_cases hlt:k<m.changes.length
 ·have hd:decide ((k:Int)<(m.changes.length:Int))=true:=by simp;omega
  have hx:m.changes[k]? = some m.changes[k]:=by simp[hlt]
  have hgx:=zR (f:=zaj) hx;have hsm:=(hm.change _ (List.getElem_mem hlt)).2;obtain⟨c,hc⟩:∃c,m.changes[k]=c:=⟨_,rfl⟩;rw[hc]at hx hgx hsm;have g8:=zwm h8 hgx;have s8:=row_same8 h8 hgx;rw[hR]at g8 s8;have zz8:k*8+8<=R.length:=by omega
  have zk:0<=(k:Int):=by omega
  refine zdV (zd hd (zd zk (zd zz8 g8))) ?_;refine zwT (c:=c) hsm ?_;refine zm (zd hd (zd zk (zd zz8 (wki k (by omega))))) ?_;simp only[zaj,List.map_cons,List.map_nil,List.cons_append,List.nil_append]at s8;exact zaK.next hlt ⟨rfl,by rw[s8]⟩
 ·have hd:decide ((k:Int)<(m.changes.length:Int))=false:=by simp;omega
  refine zm hd ?_;refine zn m.entries.length (fun k vs s=>vs=[.d (.int .i64 k)]/\s=σ++[AObj.box (msgL2 m (.rsl (σ.length+2) g 8 0 m.changes.length) (.rsl (σ.length+3) g2 5 0 m.entries.length)),.box zero30,.row g 8 R,.row g2 5 Q]) ⟨rfl,rfl⟩ ?_;rintro k vs s hk ⟨rfl,rfl⟩;by_cases hlt:k<m.entries.length
  ·have hd:decide ((k:Int)<(m.entries.length:Int))=true:=by simp;omega
   have hx:m.entries[k]? = some m.entries[k]:=by simp[hlt]
   have hgx:=zR (f:=zdI) hx;have hsm:=(hm.entry _ (List.getElem_mem hlt)).2;obtain⟨x,hxe⟩:∃c,m.entries[k]=c:=⟨_,rfl⟩;rw[hxe]at hx hgx hsm;have g2':=ztl h5 hgx (i:=2) (by omega);have s2:=zzL g2';simp only[zdI,List.getElem?_cons_succ,List.getElem?_cons_zero,Option.map_some]at g2' s2;rw[hQ]at g2' s2;have zz2:k*5+2+1<=Q.length:=by omega
   have zk:0<=(k:Int):=by omega
   refine zjB (zd hd (zd zk (zd zz2 g2'))) ?_;refine zkM (b:=x.batch) hsm ?_;refine zjB (zd hd (zd zk (zd zz2 (zd s2 (wki k (by omega)))))) ?_;exact zaK.next hlt ⟨rfl,rfl⟩
  ·have hd:decide ((k:Int)<(m.entries.length:Int))=false:=by simp;omega
   have hp:=hm.proof;have hh5:∀e∈zmw m.proof.headers,e.length=5:=zjn (f:=zxI) (fun _=>rfl) _;have hh1:∀e∈zhY m.proof.path,e.length=1:=zjn (f:=fun x=>[D.int .i64 x]) (fun _=>rfl) _;refine zjB hd ?_;refine c_clByt ziD (by rw[zam];have:=hp.rec_;omega) ?_;refine zG ?_;refine c_clHdr hh5 (by rw[List.length_map];exact hp.headers) ?_;refine zG ?_;refine c_clDig hh1 (by rw[List.length_map];exact hp.path) ?_;refine zG ?_;refine znw (c:=m.proof.cert) hp.signs ?_;refine zG ?_;have z0:=hZ g g2;rw[hR,hQ]at z0;refine z0 _ _ ?_ ?_
   ·intro c hc;simp only[List.mem_cons,List.not_mem_nil,or_false]at hc;rcases hc with rfl|rfl|rfl|rfl|rfl|rfl|rfl|rfl|rfl|rfl|rfl|rfl|rfl|rfl|rfl|rfl|rfl|rfl|rfl|rfl|rfl|rfl|rfl|rfl|rfl|rfl|rfl|rfl|rfl|rfl<;>first|exact .d _|exact .rsl _ _ _ _ _ (by omega)
   ·intro c hc;simp only[List.mem_cons,List.not_mem_nil,or_false]at hc;rcases hc with rfl|rfl|rfl|rfl|rfl|rfl|rfl|rfl|rfl|rfl|rfl|rfl|rfl|rfl|rfl|rfl|rfl|rfl|rfl|rfl|rfl|rfl|rfl|rfl|rfl|rfl|rfl|rfl|rfl|rfl<;>first|exact .d _|exact .rsl _ _ _ _ _ (by omega)
variable {σ:List AObj} {K:KT}
theorem c_kParts12 {m:zbC}(hm:zaI m)(hk:m.kind=12)(hK:K (.d (.int .i64 (zax (zac m)))) σ):zP ziu [zgi m] σ K:=by
 refine zeA zno fun hl=>?_;have e0:zax (zac m)=zax [zjE m.src,zmj m.proof]:=by
  have e1:∀(x:Int) (l:List Int),zax (x::l)=zax [x,zax l]:=fun x l=>by
   simp only[zax];split
   ·rfl
   ·split<;>simp_all
  rw[show zac m=zjE m.src::zcU m.proof by simp[zac,zC,hk,show zeT 12=false from rfl],e1,zmj]
 rw[e0]at hK;simp only[zkQ,iN,bT,bF,eN];refine zG ?_;refine zbI ?_;refine zm (kk12 hk) ?_;refine zja ?_;refine zm (kk12 hk) ?_;refine c_kProof (p:=m.proof) hm.proof ?_;refine zG ?_;refine zeJ (l:=[zjE m.src,zmj m.proof]) (by simp) ?_;refine zG ?_;refine zu hl ?_;exact hK
variable {σ:List AObj} {K:KT}
theorem c_kVote {m:zbC}{e:Int}(hK:K (.d (.int .i64 (zax (zet m++[e,zx m.key m.sdig])))) σ):zP zhA [zgi m,.d (.int .i64 e)] σ K:=by
 refine zeq zwy fun hl=>?_;simp only[zpc,iN,bT,bF,eN];refine zG ?_;refine zja ?_;refine zG ?_;refine ziZ ?_;refine zG ?_;refine zqs ?_;refine zG ?_;refine zqs ?_;refine zG ?_;refine zbI ?_;refine zG ?_;refine zeJ (l:=zet m++[e,zx m.key m.sdig]) (by simp[zet]) ?_;refine zG ?_;refine zu hl ?_;exact hK
theorem c_kPartsG {m:zbC}(hm:zaI m)(hK:K (.d (.int .i64 (zax (zac m)))) σ):zP ziu [zgi m] σ K:=by
 by_cases h7:m.kind=7
 ·exact c_kParts7 hm h7 hK
 by_cases h8:m.kind=8
 ·exact c_kParts8 hm h8 hK
 by_cases h12:m.kind=12
 ·exact c_kParts12 hm h12 hK
 refine zeA zno fun hl=>?_;have hbl:(zbz m.batch).length=m.batch.length:=List.length_map ..;have fin:∀l:List Int,zax (zac m)=zax l->K (.d (.int .i64 (zax l))) σ:=fun z h=>h▸hK;have fin1:∀x:Int,zax (zac m)=x->K (.d (.int .i64 x)) σ:=fun z h=>h▸hK;clear hK;simp only[zkQ,iN,bT,bF,eN];refine zG ?_;refine zbI ?_;by_cases hk:m.kind=1
 ·have e0:zac m=[inE m.batch.length 1 1,zD m.batch]:=by simp[zac,zC,hk,show zeT 1=false from rfl]
  cases h1:((m.batch.length:Int) != 1)
  ·refine zm (zd (K1 hk) (zd hbl h1)) ?_;refine zhP (b:=m.batch) hm.batch ?_;refine zG ?_;refine zu hl ?_;refine fin1 _ ?_;simp only[bne_eq_false_iff_eq]at h1;rw[e0,inE,if_neg (by omega)];simp only[zax];split<;>simp_all
  ·refine zm (zd (K1 hk) (zd hbl h1)) ?_;refine zu hl ?_;refine fin1 _ ?_;simp only[bne_iff_ne,ne_eq]at h1;rw[e0,inE,if_pos (by omega)];rfl
 by_cases hk:m.kind=2
 ·have e0:zac m=zet m++[zD m.batch,zx m.key m.sdig]:=by simp[zac,zC,hk,show zeT 2=true from rfl]
  refine zm (K2 hk) ?_;refine zhP (b:=m.batch) hm.batch ?_;refine zm (K2 hk) ?_;refine c_kVote (m:=m) ?_;refine zG ?_;refine zu hl ?_;exact fin _ (by rw[e0])
 by_cases hk:m.kind=3
 ·have e0:zac m=zet m++[zx m.key m.sdig]:=by simp[zac,zC,hk,show zeT 3=true from rfl]
  refine zm (K3 hk) ?_;refine c_kVote (m:=m) ?_;refine zG ?_;refine zu hl ?_;exact fin _ (by rw[e0,zeH,zeH];rfl)
 by_cases hk:m.kind=4
 ·have e0:zac m=zet m++[zx m.key m.sdig]:=by simp[zac,zC,hk,show zeT 4=true from rfl]
  refine zm (K4 hk) ?_;refine c_kVote (m:=m) ?_;refine zG ?_;refine zu hl ?_;exact fin _ (by rw[e0,zeH,zeH];rfl)
 by_cases hk:m.kind=5
 ·have e0:zac m=[zjE m.src,zeU m.view,inE m.client 0 7,zeU m.time,inE m.rerr 0 65536,zeU m.roff,zx m.key m.sdig]:=by simp[zac,zC,hk,show zeT 5=true from rfl]
  refine zm (K5 hk) ?_;refine zja ?_;refine zm (K5 hk) ?_;refine ziZ ?_;refine zm (K5 hk) ?_;refine zwW ?_;refine zm (K5 hk) ?_;refine ziZ ?_;refine zm (K5 hk) ?_;refine zwW ?_;refine zm (K5 hk) ?_;refine ziZ ?_;refine zm (K5 hk) ?_;refine zeJ (l:=[zjE m.src,zeU m.view,inE m.client 0 7,zeU m.time,inE m.rerr 0 65536,zeU m.roff,zx m.key m.sdig]) (by simp) ?_;refine zG ?_;refine zu hl ?_;exact fin _ (by rw[e0])
 by_cases hk:m.kind=6
 ·have e0:zac m=[zjE m.src,zkr m.seq,zkr m.dig,zx m.key m.sdig]:=by simp[zac,zC,hk,show zeT 6=true from rfl]
  refine zm (K6 hk) ?_;refine zja ?_;refine zm (K6 hk) ?_;refine zqs ?_;refine zm (K6 hk) ?_;refine zqs ?_;refine zm (K6 hk) ?_;refine zeJ (l:=[zjE m.src,zkr m.seq,zkr m.dig,zx m.key m.sdig]) (by simp) ?_;refine zG ?_;refine zu hl ?_;exact fin _ (by rw[e0])
 by_cases hk:m.kind=9
 ·have e0:zac m=[zjE m.src,zeU m.seq,zx m.key m.sdig]:=by simp[zac,zC,hk,show zeT 9=true from rfl]
  refine zm (K9 hk) ?_;refine zja ?_;refine zm (K9 hk) ?_;refine ziZ ?_;refine zm (K9 hk) ?_;refine zeJ (l:=[zjE m.src,zeU m.seq,zx m.key m.sdig]) (by simp) ?_;refine zG ?_;refine zu hl ?_;exact fin _ (by rw[e0])
 by_cases hk:m.kind=10
 ·have e0:zac m=zjE m.src::(zbx m.cert++[inE m.state.length 0 262144]):=by simp[zac,zC,hk,show zeT 10=false from rfl]
  refine zm (K10 hk) ?_;refine zja ?_;refine zm (K10 hk) ?_;refine c_kCert (c:=m.cert) hm.signs ?_;refine zjB (K10 hk) ?_;refine zwW ?_;refine zm (K10 hk) ?_;refine zeJ (l:=[zjE m.src,zax (zbx m.cert),inE m.state.length 0 262144]) (by simp) ?_;refine zG ?_;refine zu hl ?_;exact fin _ (by rw[e0];simp only[zax];rw[zeH];rfl)
 by_cases hk:m.kind=11
 ·have e0:zac m=[inE m.client 0 7,zlf m.topic,zeU m.offset]:=by simp[zac,zC,hk,show zeT 11=false from rfl]
  refine zm (K11 hk) ?_;refine zwW ?_;refine zm (K11 hk) ?_;refine c_kName (x:=m.topic) (by have:=hm.topic;omega) ?_;refine zm (K11 hk) ?_;refine ziZ ?_;refine zm (K11 hk) ?_;refine zeJ (l:=[inE m.client 0 7,zlf m.topic,zeU m.offset]) (by simp) ?_;refine zG ?_;refine zu hl ?_;exact fin _ (by rw[e0])
 have hr:¬(1<=m.kind/\m.kind<=12):=by omega
 refine zm (K0 hr) ?_;refine zu hl ?_;refine fin1 _ ?_;have ho:zeT m.kind=false:=by simp[zeT];omega
 have e0:zac m=[100]:=by
  simp only[zac,zC,ho];rw[if_neg (by omega),if_neg (by omega),if_neg (by omega),if_neg (by omega),if_neg (by omega),if_neg (by omega),if_neg (by omega),if_neg (by omega),if_neg (by omega),if_neg (by omega),if_neg (by omega)];rfl
 rw[e0];rfl
theorem c_kOnlyG {m:zbC}(hk0:1<=m.kind/\m.kind<=12)(hK:K (zgi (zfD m)) σ):zP zsW [zgi m] σ K:=by
 refine zeA e_r10_only fun hl=>?_;simp only[zzj,iN,bT,bF,eN,zl3];have hks:m.kind=1∨m.kind=2∨m.kind=3∨m.kind=4∨m.kind=5∨m.kind=6∨m.kind=7∨m.kind=8∨m.kind=9∨m.kind=10∨m.kind=11∨m.kind=12:=by omega
 rcases hks with hk|hk|hk|hk|hk|hk|hk|hk|hk|hk|hk|hk
 ·refine zm (K1 hk) ?_;refine zu hl ?_;simp only[zfD,hk,reduceIte]at hK;rw[hk];exact hK
 ·refine zm (K2 hk) ?_;refine zu hl ?_;simp only[zfD,hk,reduceIte]at hK;rw[hk];exact hK
 ·refine zm (K3 hk) ?_;refine zu hl ?_;simp only[zfD,hk,reduceIte]at hK;rw[hk];exact hK
 ·refine zm (K4 hk) ?_;refine zu hl ?_;simp only[zfD,hk,reduceIte]at hK;rw[hk];exact hK
 ·refine zm (K5 hk) ?_;refine zu hl ?_;simp only[zfD,hk,reduceIte]at hK;rw[hk];exact hK
 ·refine zm (K6 hk) ?_;refine zu hl ?_;simp only[zfD,hk,reduceIte]at hK;rw[hk];exact hK
 ·refine zm (K7 hk) ?_;refine zu hl ?_;simp only[zfD,hk,reduceIte]at hK;rw[hk];exact hK
 ·refine zm (K8 hk) ?_;refine zu hl ?_;simp only[zfD,hk,reduceIte]at hK;rw[hk];exact hK
 ·refine zm (K9 hk) ?_;refine zu hl ?_;simp only[zfD,hk,reduceIte]at hK;rw[hk];exact hK
 ·refine zm (K10 hk) ?_;refine zu hl ?_;simp only[zfD,hk,reduceIte]at hK;rw[hk];exact hK
 ·refine zm (K11 hk) ?_;refine zu hl ?_;simp only[zfD,hk,reduceIte]at hK;rw[hk];exact hK
 ·refine zm (K12 hk) ?_;refine zu hl ?_;simp only[zfD,hk,reduceIte]at hK;rw[hk];exact hK
theorem kinds0 {m:zbC}(h:zax (zac m)=0):1<=m.kind/\m.kind<=12:=by
 by_cases hk:1<=m.kind/\m.kind<=12
 ·exact hk
 have:=fstE_mem h 100 (by
  have e:∀j:Int,1<=j->j<=12->m.kind≠j:=fun j h1 h2 h3=>hk (by omega);simp[zac,zC,e])
 cases this
theorem c_kCheckG {m:zbC}(hm:zaI m)(hK:K (.d (.int .i64 (zbK m))) σ):zP zne [zgi m] σ K:=by
 refine zeA e_r10_Check fun hl=>?_;have fin:∀z,zbK m=z->K (.d (.int .i64 z)) σ:=fun z h=>h▸hK;clear hK;simp only[zxm,iN,bT,bF,eN];refine zG ?_;refine c_kPartsG (m:=m) hm ?_;cases h1:(zax (zac m) != 0);rotate_left
 ·refine zm h1 ?_;refine zu hl ?_;exact fin _ (by simp at h1;simp[zbK,h1])
 refine zm h1 ?_;refine c_kOnlyG (m:=m) (kinds0 (by simpa using h1)) ?_;refine zG ?_;refine c_kSame (a:=m) (b:=zfD m) hm (zza hm) ?_;cases h2:decide (m=zfD m)
 ·refine zG ?_;refine zu hl ?_;exact fin _ (by simp at h1 h2;simp[zbK,h1,h2])
 ·refine zG ?_;refine zu hl ?_;exact fin _ (by simp at h1 h2;simp[zbK,h1,← h2])
variable {σ:List AObj} {K:KT}
abbrev zoq (p:zfl):List AV:=[.d (.str p.topic),.d (.int .i64 p.offset),.d (.slice (bcs p.rec_)),.d (.slice (zmw p.headers)),.d (.int .i64 p.index),.d (.int .i64 p.count),.d (.slice (zhY p.path)),.d (.int .i64 p.cert.seq),.d (.int .i64 p.cert.dig),.d (.slice (zat p.cert.signs))]
theorem c_kPutProof {b:List UInt8}{p:zfl}(hb:b.length<=1000000)(hp:zrB p)(hK:K (.d (.slice (bcs (b++ztT p)))) σ) :
  zP zmb [.d (.slice (bcs b)),znD p] σ K:=by
 refine zeq zxP fun hl=>?_;have hhl:(zmw p.headers).length=p.headers.length:=List.length_map ..;have hpl:(zhY p.path).length=p.path.length:=List.length_map ..;obtain⟨h1,h2,h3,h4,h5,h6,h7,h8,h9,h10⟩:=hp;have p1:=zdl (x:=p.topic) (by omega);have p2:=zdl (x:=p.rec_) (by omega);have n1:=zl (n:=p.offset.toNat) (by omega);have n2:=zl (n:=p.headers.length) (by omega);have n3:=zl (n:=p.index.toNat) (by omega);have n4:=zl (n:=p.count.toNat) (by omega);have n5:=zl (n:=p.path.length) (by omega);have q1:=zhN h10;simp only[zqz,iN,bT,bF,eN,znD];refine zG ?_;refine zhd (b:=b) (x:=p.topic) (by omega) (by omega) ?_;rw[show zbv p.topic.length++p.topic=zkq p.topic from rfl];refine zG ?_;refine zeV (l:=[p.offset]) (by simp only[List.length_append];omega) (by simp) (by simp;omega) ?_;refine zm hhl ?_;refine zhd (b:=b++(zkq p.topic++zS [p.offset])) (x:=p.rec_) (by omega) (by simp[zS];omega) ?_;rw[show zbv p.rec_.length++p.rec_=zkq p.rec_ from rfl];refine zm hhl ?_;refine zeV (b:=b++(zkq p.topic++(zS [p.offset]++zkq p.rec_))) (l:=[(p.headers.length:Int)]) (by simp[zS];omega) (by simp) (by simp;omega) ?_;rw[show zS [(p.headers.length:Int)]=zbv p.headers.length by simp[zS]];obtain⟨Q,hQ⟩:∃Q,b++(zkq p.topic++(zS [p.offset]++zkq p.rec_))++zbv p.headers.length=Q:=⟨_,rfl⟩;have hQl:Q.length<=1000400:=by rw[← hQ];simp[zS];omega
 rw[hQ];refine zm hhl ?_;refine zn p.headers.length (fun k vs s=>vs=[.d (.slice (bcs (Q++((p.headers.take k).map hdB).flatten))),.d (.int .i64 k)]/\∃T,s=σ++.box (zoq p)::T) ⟨by simp,_,rfl⟩ ?_;rintro k vs s hk ⟨rfl,T,rfl⟩;have hlenC:(((p.headers.take k).map hdB).flatten).length<=64*50:=by
  have:=zcz (f:=hdB) (n:=50) (l:=p.headers.take k) fun s hm=>hdB_len (h5 s (List.mem_of_mem_take hm));have hlk:(p.headers.take k).length<=64:=by rw[List.length_take];omega
  have:(p.headers.take k).length*50<=64*50:=Nat.mul_le_mul_right _ hlk;omega
 have hbx0:(σ++AObj.box (zoq p)::T)[σ.length]? = some (.box (zoq p)):=by rw[zB];rfl
 by_cases hlt:k<p.headers.length
 ·have hd:decide ((k:Int)<(p.headers.length:Int))=true:=by simp;omega
  have hx:p.headers[k]? = some p.headers[k]:=by simp[hlt]
  have hpx:=hdr_ok (h5 _ (List.getElem_mem hlt));have hgx:=zR (f:=zxI) hx;obtain⟨h,hh⟩:∃h,p.headers[k]=h:=⟨_,rfl⟩;rw[hh]at hx hgx hpx;have hbx:∀τ,(σ++AObj.box (zoq p)::T++τ)[σ.length]? = some (.box (zoq p)):=fun τ=>zi hbx0;have fin:∀τ,∃T',σ++AObj.box (zoq p)::T++τ=σ++AObj.box (zoq p)::T':=fun τ=>⟨T++τ,by simp⟩;obtain⟨S,hS⟩:∃S,σ++AObj.box (zoq p)::T=S:=⟨_,rfl⟩;rw[hS]at hbx hbx0 fin ⊢;refine gq19 (zd hd (zd hgx (zd hhl (zd hbx hbx0)))) ?_;refine zeV (l:=[h.seq,h.prev,h.batch,h.root,h.state]) (by simp only[List.length_append];omega) (by simp) hpx ?_;refine zm (wkc k (by omega)) ?_;refine zaK.next hlt ⟨?_,fin _⟩;rw[zda hx,hdB,← List.append_assoc]
 have hd:decide ((k:Int)<(p.headers.length:Int))=false:=by simp;omega
 rw[show p.headers.take k=p.headers from List.take_of_length_le (by omega)]at hlenC ⊢;obtain⟨T1,hT1⟩:∃T1,AObj.box (zoq p)::T=T1:=⟨_,rfl⟩;rw[hT1]at hbx0 ⊢;refine zm (zd hd (zd hhl (zd hpl hbx0))) ?_;refine zeV (l:=[p.index,p.count,(p.path.length:Int)]) (by simp only[List.length_append];omega) (by simp) (by simp;omega) ?_;obtain⟨R,hR⟩:∃R,Q++(p.headers.map hdB).flatten++zS [p.index,p.count,(p.path.length:Int)]=R:=⟨_,rfl⟩;have hRl:R.length<=1004000:=by rw[← hR];simp[zS]at hlenC ⊢;omega
 rw[hR];refine zm hpl ?_;refine zn p.path.length (fun k vs s=>vs=[.d (.slice (bcs (R++zS (p.path.take k)))),.d (.int .i64 k)]/\∃T,s=σ++T/\T[0]? = some (.box (zoq p))) ⟨by simp[zS],T1,by first|rfl|simp,by rw[← hT1];rfl⟩ ?_;rintro k vs s hk1 ⟨rfl,T2,rfl,hx2⟩;have hbx2:(σ++T2)[σ.length]? = some (.box (zoq p)):=by rw[zB];exact hx2
 have hlenP:(zS (p.path.take k)).length<=80:=by
  have:=zce (l:=p.path.take k) fun s hm=>h9 s (List.mem_of_mem_take hm);have hlk:(p.path.take k).length<=8:=by rw[List.length_take];omega
  omega
 by_cases hlt:k<p.path.length
 ·have hd:decide ((k:Int)<(p.path.length:Int))=true:=by simp;omega
  have hx:p.path[k]? = some p.path[k]:=by simp[hlt]
  have hpx:=h9 _ (List.getElem_mem hlt);have hgx:=zR (f:=fun t=>[D.int .i64 t]) hx;obtain⟨h,hh⟩:∃h,p.path[k]=h:=⟨_,rfl⟩;rw[hh]at hx hgx hpx;refine zm (zd hd (zd hgx (zd hpl hbx2))) ?_;refine zeV (l:=[h]) (by simp only[List.length_append];omega) (by simp) (by simp;omega) ?_;refine zm (wkc k (by omega)) ?_;refine zaK.next hlt ⟨?_,T2,by first|rfl|simp,hx2⟩;rw[zpw hx,← List.append_assoc];simp[zS]
 have hd:decide ((k:Int)<(p.path.length:Int))=false:=by simp;omega
 rw[show p.path.take k=p.path from List.take_of_length_le (by omega)]at hlenP ⊢;refine zm (zd hd (zd hpl hbx2)) ?_;refine ztE (c:=p.cert) (by simp only[List.length_append];omega) h10 ?_;refine zG ?_;refine zu hl ?_;have fin:∀x,x=b++ztT p->K (dmT (zcm [.d (.slice (bcs x))])) σ:=by rintro _ rfl;exact hK
 exact fin _ (by rw[← hR,← hQ];simp[ztT,zS])
end Go.Proofs.YtdgcepphjnoalaaGreat
