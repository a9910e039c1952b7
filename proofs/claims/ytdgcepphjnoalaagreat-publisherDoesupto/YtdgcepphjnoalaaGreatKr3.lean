/- Contracts: messages that are the same, the document's. -/
import Derived.Test.YtdgcepphjnoalaaGreatPp1
import Derived.Test.YtdgcepphjnoalaaGreatCk4
import Derived.Test.YtdgcepphjnoalaaGreatRd1
import Derived.Test.YtdgcepphjnoalaaGreatSh
import Derived.Test.YtdgcepphjnoalaaGreatId3
set_option linter.all false
set_option maxRecDepth 100000
namespace Go.Proofs.YtdgcepphjnoalaaGreat
open Go.AW
variable {σ:List AObj}
theorem c_kSamePrep {a b:zkd}(ha:zqO a)(hb:zqO b){K:KT}(hK:K (.d (.bool (decide (a=b)))) σ):zP zhC [.agg [.d (.int .i64 a.view),.d (.int .i64 a.seq),.d (.int .i64 a.dig),.d (.int .i64 a.fkey),.d (.int .i64 a.fdig),.d (.slice (zat a.signs)),.d (.slice (zbz a.batch))],.agg [.d (.int .i64 b.view),.d (.int .i64 b.seq),.d (.int .i64 b.dig),.d (.int .i64 b.fkey),.d (.int .i64 b.fdig),.d (.slice (zat b.signs)),.d (.slice (zbz b.batch))]] σ K:=by
 refine zeq zsj fun hl=>?_;have fin:∀z,decide (a=b)=z->K (.d (.bool z)) σ:=fun z h=>h▸hK;clear hK;simp only[zlN,iN,bT,bF,eN];cases h1:(a.view==b.view)
 ·refine zm h1 ?_;refine zu hl ?_;exact fin _ (decide_eq_false fun h=>by subst h;simp at h1)
 cases h2:(a.seq==b.seq)
 ·refine zm (zd h1 h2) ?_;refine zu hl ?_;exact fin _ (decide_eq_false fun h=>by subst h;simp at h2)
 cases h3:(a.dig==b.dig)
 ·refine zm (zd h1 (zd h2 h3)) ?_;refine zu hl ?_;exact fin _ (decide_eq_false fun h=>by subst h;simp at h3)
 cases h4:(a.fkey==b.fkey&&a.fdig==b.fdig)
 ·refine zdB (zd h1 (zd h2 (zd h3 h4))) ?_;refine zu hl ?_;exact fin _ (decide_eq_false fun h=>by subst h;simp at h4)
 refine zdB (zd h1 (zd h2 (zd h3 h4))) ?_;refine zwR ha.signs ?_;cases h5:decide (a.signs=b.signs)
 ·refine zm h5 ?_;refine zu hl ?_;exact fin _ (decide_eq_false fun h=>by subst h;simp at h5)
 refine zjC h5 ?_;refine zvp ha.batch hb.batch ?_;cases h6:decide (a.batch=b.batch)
 ·refine zm h6 ?_;refine zu hl ?_;exact fin _ (decide_eq_false fun h=>by subst h;simp at h6)
 refine zm h6 ?_;refine zu hl ?_;exact fin _ (decide_eq_true (by cases a;cases b;simp_all))
theorem zAa {A P Q:Prop}(a:A)(h:Q)(e:A->Hd Q->P:=by intro a h;(repeat' first|simp -dsimp only[↓zlH,↓zbS,↓zee,↓zlI,↓zlz,↓zlx,↓zlA,↓zly,↓zej,↓zef,↓zek,↓zeg,↓zlB,↓zeb,↓zel,↓zeh,↓zem,↓zei,↓zlw,↓zlF,↓zea,↓zep,↓zlo,↓zln,↓zlu,iN,bT,bF,eN,↓zes,↓unC,↓zaC,↓zai,↓zaj,↓zav,↓zaX,↓zah,↓zgB,↓zaw,↓zbf,↓zad,↓ze,↓zj,↓zaR,↓zc,↓zaV,↓zN,↓zbT,↓zcl,↓zf,↓zF,↓zp,↓zM,↓zaB,↓zgI,↓zhI,↓zbc,↓zby,↓zcf,↓zcA,↓zdp,↓zJ,↓zbb,↓zak,↓zO,↓zaU,zhr,zdV,zdD,unA,zgy,bnd,ziT,zaO,zL,zid,dm,dm1,zH,zaF,zjX,zjW,keepO,Q0,Q1,Q2,Q3,Q4,Q5,zba,zA,zB,zY,zab,Q6,Q7,Q8,Q9,Q10,Q11,Q12,Q13,Q14,Nat.reduceAdd,Q15,Int.reduceToNat,Q16,Q17,Q18,Q19,Q20,reduceIte,Q21,Q22,zy,rep,zaq,zhX,toD,zaD,Q23,Q24,Q25,Q26,Q27,Q28,Nat.reduceLeDiff,Q29,Nat.reduceSub,Q30,Q31,Q32,sc,Q33,Q34,Q35,Q36,Q37,Q26,Q38,Q39,zuH,zuE,zuB,zuI,zjw,zuF,zuC,zuG,zuD,zjv,zjx,zuK,zuL,Bool.not_true,Bool.not_false,List.length_map,Bool.and_false,Bool.and_self,Bool.false_and,Bool.not_false,Bool.not_true,Bool.true_and,Int.toNat_natCast,Int.toNat_zero,List.drop_zero,List.length_map,List.length_nil,List.nil_append,List.take_length,Nat.sub_zero,Nat.zero_add,Option.isSome_none,Option.isSome_some,Option.map_none,Option.map_some,zam,beq_self_eq_true,bft,bne,bne_self_eq_false,btf,a]|with_reducible refine zuZ ?_|fail);exact h.go):P:=e a ⟨h⟩
theorem zAB {a b:zbj}(ha:zjS a)(hb:zjS b){K:KT}(hK:K (.d (.bool (decide (a=b)))) σ):zP zjr [.agg [.d (.int .i64 a.view),.d (.int .i64 a.src),.d (.int .i64 a.cert.seq),.d (.int .i64 a.cert.dig),.d (.slice (zat a.cert.signs)),.d (.slice (zfw a.above)),.d (.int .i64 a.key),.d (.int .i64 a.dig)],.agg [.d (.int .i64 b.view),.d (.int .i64 b.src),.d (.int .i64 b.cert.seq),.d (.int .i64 b.cert.dig),.d (.slice (zat b.cert.signs)),.d (.slice (zfw b.above)),.d (.int .i64 b.key),.d (.int .i64 b.dig)]] σ K:=by
 refine zeq zuQ fun hl=>?_;have fin:∀z,decide (a=b)=z->K (.d (.bool z)) σ:=fun z h=>h▸hK;clear hK;simp only[znM,iN,bT,bF,eN];have hla:((a.above.map zfC).length)=a.above.length:=List.length_map ..;have hlb:((b.above.map zfC).length)=b.above.length:=List.length_map ..;have hal:=ha.above;cases h1:(a.view==b.view)
 ·refine zAa h1 ?_;refine zu hl ?_;exact fin _ (decide_eq_false fun h=>by subst h;simp at h1)
 cases h2:(a.src==b.src)
 ·refine zAa (zd h1 h2) ?_;refine zu hl ?_;exact fin _ (decide_eq_false fun h=>by subst h;simp at h2)
 refine zAa (zd h1 h2) ?_;refine ztG (a:=a.cert) (b:=b.cert) ha.signs ?_;cases h3:decide (a.cert=b.cert)
 ·refine zm h3 ?_;refine zu hl ?_;exact fin _ (decide_eq_false fun h=>by subst h;simp at h3)
 cases h4:(a.key==b.key&&a.dig==b.dig)
 ·refine zdB (zd h3 h4) ?_;refine zu hl ?_;exact fin _ (decide_eq_false fun h=>by subst h;simp at h4)
 cases h5:((a.above.length:Int)==(b.above.length:Int))
 ·refine gq21 (zd h3 (zd h4 (zd hla (zd hlb h5)))) ?_;refine zu hl ?_;exact fin _ (decide_eq_false fun h=>by subst h;simp at h5)
 have hl2:a.above.length=b.above.length:=by simp at h5;omega
 have hla:((a.above.map zfC).length)=a.above.length:=List.length_map ..;have hlb:((b.above.map zfC).length)=b.above.length:=List.length_map ..;refine gq21 (zd h3 (zd h4 (zd hla (zd hlb (zd h5 (zd hla hlb)))))) ?_;refine zn a.above.length (fun k vs s=>vs=[.d (.int .i64 k)]/\s=σ++[.box (zbL a),.box (zbL b)]/\a.above.take k=b.above.take k) ⟨rfl,rfl,by simp⟩ ?_;rintro k vs s hk ⟨rfl,rfl,htk⟩;by_cases hlt:k<a.above.length
 ·have hd:decide ((k:Int)<(a.above.length:Int))=true:=by simp;omega
  have hx:a.above[k]? = some a.above[k]:=by simp[hlt]
  have hy:b.above[k]? = some (b.above[k]'(by omega)):=List.getElem?_eq_getElem _;have hgx:=zR (f:=zfC) hx;have hgy:=zR (f:=zfC) hy;have hxs:=ha.each _ (List.getElem_mem hlt);have hys:=hb.each _ (List.getElem_mem (show k<b.above.length by omega));obtain⟨x,hxe⟩:∃x,a.above[k]=x:=⟨_,rfl⟩;obtain⟨y,hye⟩:∃y,(b.above[k]'(by omega))=y:=⟨_,rfl⟩;rw[hxe]at hx hgx hxs;rw[hye]at hy hgy hys;refine zdB (zd hd (zd hgx (zd hgy (zd hla hlb)))) ?_;refine c_kSamePrep (a:=x) (b:=y) hxs hys ?_;cases he:decide (x=y)
  ·refine zG ?_;refine zu hl ?_;refine fin _ (decide_eq_false fun h=>?_);subst h;rw[hx]at hy;have:=Option.some.inj hy;simp[this]at he
  ·refine zm (wkc k (by omega)) ?_;exact zaK.next hlt ⟨rfl,rfl,zbq hx hy htk (by simpa using he)⟩
 have hd:decide ((k:Int)<(a.above.length:Int))=false:=by simp;omega
 have heq_above:a.above=b.above:=zcu hl2 (k:=k) (by omega) htk;refine zm (zd hd (zd hla hlb)) ?_;refine zu hl ?_;exact fin _ (decide_eq_true (by cases a;cases b;simp_all))
theorem gq37 {A P Q:Prop}(a:A)(h:Q)(e:A->Hd Q->P:=by intro a h;(repeat' first|simp -dsimp only[↓zlH,↓zbS,↓zee,↓zlI,↓zlz,↓zlx,↓zlA,↓zly,↓zej,↓zef,↓zek,↓zeg,↓zlB,↓zeb,↓zel,↓zeh,↓zem,↓zei,↓zlw,↓zlF,↓zea,↓zep,↓zlo,↓zln,↓zlu,iN,bT,bF,eN,↓zes,↓unC,↓zaC,↓zai,↓zaj,↓zav,↓zaX,↓zah,↓zgB,↓zaw,↓zbf,↓zad,↓ze,↓zj,↓zaR,↓zc,↓zaV,↓zN,↓zbT,↓zcl,↓zf,↓zF,↓zp,↓zM,↓zaB,↓zgI,↓zhI,↓zbc,↓zby,↓zcf,↓zcA,↓zdp,↓zJ,↓zbb,↓zak,↓zO,↓zaU,zhr,zdV,zdD,unA,zgy,bnd,ziT,zaO,zL,zid,dm,dm1,zH,zaF,zjX,zjW,keepO,Q0,Q1,Q2,Q3,Q4,Q5,zba,zA,zB,zY,zab,Q6,Q7,Q8,Q9,Q10,Q11,Q12,Q13,Q14,Nat.reduceAdd,Q15,Int.reduceToNat,Q16,Q17,Q18,Q19,Q20,reduceIte,Q21,Q22,zy,rep,zaq,zhX,toD,zaD,Q23,Q24,Q25,Q26,Q27,Q28,Nat.reduceLeDiff,Q29,Nat.reduceSub,Q30,Q31,Q32,sc,Q33,Q34,Q35,Q36,Q37,Q26,Q38,Q39,zuH,zuE,zuB,zuI,zjw,zuF,zuC,zuG,zuD,zjv,zjx,zuK,zuL,Bool.not_true,Bool.not_false,List.length_map,Bool.and_false,Bool.and_self,Bool.false_and,Bool.not_false,Bool.not_true,Bool.true_and,Int.toNat_natCast,Int.toNat_zero,List.drop_zero,List.length_map,List.length_nil,List.nil_append,List.take_length,Nat.sub_zero,Nat.zero_add,Option.isSome_none,Option.isSome_some,Option.map_none,Option.map_some,zam,beq_self_eq_true,bft,bne,bne_self_eq_false,btf,ziD,zfj,zgm,zcf,mgetR,zcA,a]|with_reducible refine zuZ ?_|fail);exact h.go):P:=e a ⟨h⟩
theorem c_kSameProof {a b:zfl}(ha:zqP a){K:KT}(hK:K (.d (.bool (decide (a=b)))) σ):zP zky [znD a,znD b] σ K:=by
 refine zeq zwC fun hl=>?_;have fin:∀z,decide (a=b)=z->K (.d (.bool z)) σ:=fun z h=>h▸hK;clear hK;simp only[zpg,iN,bT,bF,eN];have hla1:((zmw a.headers).length)=a.headers.length:=List.length_map ..;have hlb1:((zmw b.headers).length)=b.headers.length:=List.length_map ..;have hla2:((zhZ a.path).length)=a.path.length:=List.length_map ..;have hlb2:((zhZ b.path).length)=b.path.length:=List.length_map ..;have hal1:=ha.headers;have hal2:=ha.path;cases h1:(a.topic==b.topic)
 ·refine zAa h1 ?_;refine zu hl ?_;exact fin _ (decide_eq_false fun h=>by subst h;simp at h1)
 cases h2:(a.offset==b.offset)
 ·refine zAa (zd h1 h2) ?_;refine zu hl ?_;exact fin _ (decide_eq_false fun h=>by subst h;simp at h2)
 cases h3:(a.rec_==b.rec_)
 ·refine gq37 (zd h1 (zd h2 h3)) ?_;refine zu hl ?_;exact fin _ (decide_eq_false fun h=>by subst h;simp at h3)
 cases h4:(a.index==b.index)
 ·refine gq37 (zd h1 (zd h2 (zd h3 h4))) ?_;refine zu hl ?_;exact fin _ (decide_eq_false fun h=>by subst h;simp at h4)
 cases h5:(a.count==b.count)
 ·refine gq37 (zd h1 (zd h2 (zd h3 (zd h4 h5)))) ?_;refine zu hl ?_;exact fin _ (decide_eq_false fun h=>by subst h;simp at h5)
 refine gq37 (zd h1 (zd h2 (zd h3 (zd h4 h5)))) ?_;refine ztG (a:=a.cert) (b:=b.cert) ha.signs ?_;cases h6:decide (a.cert=b.cert)
 ·refine zm h6 ?_;refine zu hl ?_;exact fin _ (decide_eq_false fun h=>by subst h;simp at h6)
 cases h7:((a.headers.length:Int)==(b.headers.length:Int))
 ·refine zAa (zd h6 (zd hla1 (zd hlb1 h7))) ?_;refine zu hl ?_;exact fin _ (decide_eq_false fun h=>by subst h;simp at h7)
 cases h8:((a.path.length:Int)==(b.path.length:Int))
 ·refine zAa (zd h6 (zd hla1 (zd hlb1 (zd h7 (zd hla2 (zd hlb2 h8)))))) ?_;refine zu hl ?_;exact fin _ (decide_eq_false fun h=>by subst h;simp at h8)
 have hl2:a.headers.length=b.headers.length:=by simp at h7;omega
 have hl3:a.path.length=b.path.length:=by simp at h8;omega
 have hla:((a.headers.map zsb).length)=a.headers.length:=List.length_map ..;have hlb:((b.headers.map zsb).length)=b.headers.length:=List.length_map ..;refine zAa (zd h6 (zd hla1 (zd hlb1 (zd h7 (zd hla2 (zd hlb2 (zd h8 (zd hla hlb)))))))) ?_;refine zn a.headers.length (fun k vs s=>vs=[.d (.int .i64 k)]/\s=σ++[zop a,zop b]/\a.headers.take k=b.headers.take k) ⟨rfl,rfl,by simp⟩ ?_;rintro k vs s hk ⟨rfl,rfl,htk⟩;by_cases hlt:k<a.headers.length
 ·have hd:decide ((k:Int)<(a.headers.length:Int))=true:=by simp;omega
  have hx:a.headers[k]? = some a.headers[k]:=by simp[hlt]
  have hy:b.headers[k]? = some (b.headers[k]'(by omega)):=List.getElem?_eq_getElem _;have hgx:=zR (f:=zsb) hx;have hgy:=zR (f:=zsb) hy;obtain⟨x,hxe⟩:∃x,a.headers[k]=x:=⟨_,rfl⟩;obtain⟨y,hye⟩:∃y,(b.headers[k]'(by omega))=y:=⟨_,rfl⟩;rw[hxe]at hx hgx;rw[hye]at hy hgy;have hxy:x=y↔((x.seq==y.seq&&(x.prev==y.prev&&(x.batch==y.batch&&(x.root==y.root&&x.state==y.state)))))=true:=by cases x;cases y;simp
  cases he2:((x.seq==y.seq&&(x.prev==y.prev&&(x.batch==y.batch&&(x.root==y.root&&x.state==y.state)))))
  ·refine gq21 (zd hd (zd hgx (zd hgy (zd hla (zd hlb he2))))) ?_;refine zu hl ?_;refine fin _ (decide_eq_false fun h=>?_);subst h;rw[hx]at hy;rw[hxy.1 (Option.some.inj hy)]at he2;cases he2
  ·refine gq21 (zd hd (zd hgx (zd hgy (zd hla (zd hlb (zd he2 (wkc k (by omega)))))))) ?_;exact zaK.next hlt ⟨rfl,rfl,zbq hx hy htk (hxy.2 he2)⟩
 have hd:decide ((k:Int)<(a.headers.length:Int))=false:=by simp;omega
 have heq_headers:a.headers=b.headers:=zcu hl2 (k:=k) (by omega) htk;refine zm (zd hd (zd hla1 (zd hlb1 (zd hla2 hlb2)))) ?_;have hla:((a.path.map (fun t=>[D.int .i64 t])).length)=a.path.length:=List.length_map ..;have hlb:((b.path.map (fun t=>[D.int .i64 t])).length)=b.path.length:=List.length_map ..;refine zAa (zd h6 (zd hla1 (zd hlb1 (zd h7 (zd hla2 (zd hlb2 (zd h8 (zd hla hlb)))))))) ?_;refine zn a.path.length (fun k vs s=>vs=[.d (.int .i64 k)]/\s=σ++[zop a,zop b]/\a.path.take k=b.path.take k) ⟨rfl,rfl,by simp⟩ ?_;rintro k vs s hk ⟨rfl,rfl,htk⟩;by_cases hlt:k<a.path.length
 ·have hd:decide ((k:Int)<(a.path.length:Int))=true:=by simp;omega
  have hx:a.path[k]? = some a.path[k]:=by simp[hlt]
  have hy:b.path[k]? = some (b.path[k]'(by omega)):=List.getElem?_eq_getElem _;have hgx:=zR (f:=(fun t=>[D.int .i64 t])) hx;have hgy:=zR (f:=(fun t=>[D.int .i64 t])) hy;obtain⟨x,hxe⟩:∃x,a.path[k]=x:=⟨_,rfl⟩;obtain⟨y,hye⟩:∃y,(b.path[k]'(by omega))=y:=⟨_,rfl⟩;rw[hxe]at hx hgx;rw[hye]at hy hgy;have hxy:x=y↔(x==y)=true:=by simp
  cases he2:(x==y)
  ·refine gq21 (zd hd (zd hgx (zd hgy (zd hla (zd hlb he2))))) ?_;refine zu hl ?_;refine fin _ (decide_eq_false fun h=>?_);subst h;rw[hx]at hy;rw[hxy.1 (Option.some.inj hy)]at he2;cases he2
  ·refine gq21 (zd hd (zd hgx (zd hgy (zd hla (zd hlb (zd he2 (wkc k (by omega)))))))) ?_;exact zaK.next hlt ⟨rfl,rfl,zbq hx hy htk (hxy.2 he2)⟩
 have hd:decide ((k:Int)<(a.path.length:Int))=false:=by simp;omega
 have heq_path:a.path=b.path:=zcu hl3 (k:=k) (by omega) htk;refine zm (zd hd (zd hla hlb)) ?_;refine zu hl ?_;exact fin _ (decide_eq_true (by cases a;cases b;simp_all))
theorem c_kSame {a b:zbC}(ha:zaI a)(hb:zaI b){K:KT}(hK:K (.d (.bool (decide (a=b)))) σ):zP zms [zgi a,zgi b] σ K:=by
 refine zeq e_r10_Same fun hl=>?_;have fin:∀z,decide (a=b)=z->K (.d (.bool z)) σ:=fun z h=>h▸hK;clear hK;simp only[zzm,iN,bT,bF,eN];have hla:((zap a.changes).length)=a.changes.length:=List.length_map ..;have hlb:((zap b.changes).length)=b.changes.length:=List.length_map ..;have hal:=ha.changes;cases h1:(a.kind==b.kind)
 ·refine zAa h1 ?_;refine zu hl ?_;exact fin _ (decide_eq_false fun h=>by subst h;simp at h1)
 cases h2:(a.src==b.src)
 ·refine zAa (zd h1 h2) ?_;refine zu hl ?_;exact fin _ (decide_eq_false fun h=>by subst h;simp at h2)
 cases h3:(a.view==b.view)
 ·refine zAa (zd h1 (zd h2 h3)) ?_;refine zu hl ?_;exact fin _ (decide_eq_false fun h=>by subst h;simp at h3)
 cases h4:(a.seq==b.seq)
 ·refine zAa (zd h1 (zd h2 (zd h3 h4))) ?_;refine zu hl ?_;exact fin _ (decide_eq_false fun h=>by subst h;simp at h4)
 cases h5:(a.dig==b.dig)
 ·refine zAa (zd h1 (zd h2 (zd h3 (zd h4 h5)))) ?_;refine zu hl ?_;exact fin _ (decide_eq_false fun h=>by subst h;simp at h5)
 cases h6:(a.client==b.client)
 ·refine zAa (zd h1 (zd h2 (zd h3 (zd h4 (zd h5 h6))))) ?_;refine zu hl ?_;exact fin _ (decide_eq_false fun h=>by subst h;simp at h6)
 cases h7:(a.time==b.time)
 ·refine zAa (zd h1 (zd h2 (zd h3 (zd h4 (zd h5 (zd h6 h7)))))) ?_;refine zu hl ?_;exact fin _ (decide_eq_false fun h=>by subst h;simp at h7)
 cases h8:(a.rerr==b.rerr&&a.roff==b.roff)
 ·refine gq21 (zd h1 (zd h2 (zd h3 (zd h4 (zd h5 (zd h6 (zd h7 h8))))))) ?_;refine zu hl ?_;exact fin _ (decide_eq_false fun h=>by subst h;simp at h8)
 cases h9:(a.topic==b.topic)
 ·refine gq21 (zd h1 (zd h2 (zd h3 (zd h4 (zd h5 (zd h6 (zd h7 (zd h8 h9)))))))) ?_;refine zu hl ?_;exact fin _ (decide_eq_false fun h=>by subst h;simp at h9)
 cases h10:(a.offset==b.offset)
 ·refine gq21 (zd h1 (zd h2 (zd h3 (zd h4 (zd h5 (zd h6 (zd h7 (zd h8 (zd h9 h10))))))))) ?_;refine zu hl ?_;exact fin _ (decide_eq_false fun h=>by subst h;simp at h10)
 cases h11:(a.key==b.key&&a.sdig==b.sdig)
 ·refine gq21 (zd h1 (zd h2 (zd h3 (zd h4 (zd h5 (zd h6 (zd h7 (zd h8 (zd h9 (zd h10 h11)))))))))) ?_;refine zu hl ?_;exact fin _ (decide_eq_false fun h=>by subst h;simp at h11)
 refine gq21 (zd h1 (zd h2 (zd h3 (zd h4 (zd h5 (zd h6 (zd h7 (zd h8 (zd h9 (zd h10 h11)))))))))) ?_;refine zvp ha.batchS hb.batchS ?_;cases h12:decide (a.batch=b.batch)
 ·refine zm h12 ?_;refine zu hl ?_;exact fin _ (decide_eq_false fun h=>by subst h;simp at h12)
 refine zjC h12 ?_;refine ztG (a:=a.cert) (b:=b.cert) ha.signs ?_;cases h13:decide (a.cert=b.cert)
 ·refine zm h13 ?_;refine zu hl ?_;exact fin _ (decide_eq_false fun h=>by subst h;simp at h13)
 refine zjC h13 ?_;refine zAx ha.entries (fun x hx=>(ha.entry x hx).2) (fun x hx=>(hb.entry x hx).2) ?_;cases h14:decide (a.entries=b.entries)
 ·refine zm h14 ?_;refine zu hl ?_;exact fin _ (decide_eq_false fun h=>by subst h;simp at h14)
 cases h15:(a.state==b.state)
 ·refine gq37 (zd h14 h15) ?_;refine zu hl ?_;exact fin _ (decide_eq_false fun h=>by subst h;simp at h15)
 refine gq37 (zd h14 h15) ?_;refine c_kSameProof (a:=a.proof) (b:=b.proof) ha.proof ?_;cases h16:decide (a.proof=b.proof)
 ·refine zm h16 ?_;refine zu hl ?_;exact fin _ (decide_eq_false fun h=>by subst h;simp at h16)
 cases h17:((a.changes.length:Int)==(b.changes.length:Int))
 ·refine zAa (zd h16 (zd hla (zd hlb h17))) ?_;refine zu hl ?_;exact fin _ (decide_eq_false fun h=>by subst h;simp at h17)
 have hl2:a.changes.length=b.changes.length:=by simp at h17;omega
 have hla:((a.changes.map zag).length)=a.changes.length:=List.length_map ..;have hlb:((b.changes.map zag).length)=b.changes.length:=List.length_map ..;refine zAa (zd h16 (zd hla (zd hlb (zd h17 (zd hla hlb))))) ?_;refine zn a.changes.length (fun k vs s=>vs=[.d (.int .i64 k)]/\s=σ++[zlh a,zlh b]/\a.changes.take k=b.changes.take k) ⟨rfl,rfl,by simp⟩ ?_;rintro k vs s hk ⟨rfl,rfl,htk⟩;by_cases hlt:k<a.changes.length
 ·have hd:decide ((k:Int)<(a.changes.length:Int))=true:=by simp;omega
  have hx:a.changes[k]? = some a.changes[k]:=by simp[hlt]
  have hy:b.changes[k]? = some (b.changes[k]'(by omega)):=List.getElem?_eq_getElem _;have hgx:=zR (f:=zag) hx;have hgy:=zR (f:=zag) hy;have hxs:=(ha.change _ (List.getElem_mem hlt)).2;have hys:=(hb.change _ (List.getElem_mem (show k<b.changes.length by omega))).2;obtain⟨x,hxe⟩:∃x,a.changes[k]=x:=⟨_,rfl⟩;obtain⟨y,hye⟩:∃y,(b.changes[k]'(by omega))=y:=⟨_,rfl⟩;rw[hxe]at hx hgx hxs;rw[hye]at hy hgy hys;refine zdB (zd hd (zd hgx (zd hgy (zd hla hlb)))) ?_;refine zAB (a:=x) (b:=y) hxs hys ?_;cases he:decide (x=y)
  ·refine zG ?_;refine zu hl ?_;refine fin _ (decide_eq_false fun h=>?_);subst h;rw[hx]at hy;have:=Option.some.inj hy;simp[this]at he
  ·refine zm (wkc k (by omega)) ?_;exact zaK.next hlt ⟨rfl,rfl,zbq hx hy htk (by simpa using he)⟩
 have hd:decide ((k:Int)<(a.changes.length:Int))=false:=by simp;omega
 have heq_changes:a.changes=b.changes:=zcu hl2 (k:=k) (by omega) htk;refine zm (zd hd (zd hla hlb)) ?_;refine zu hl ?_;exact fin _ (decide_eq_true (by cases a;cases b;simp_all))
variable {σ:List AObj}
theorem w64k {x:Int}(h0:0<=x)(h1:x<=9007199254740992):IntKind.u64.wrap x=((x.toNat:Nat):Int):=by
 rw[show x=((x.toNat:Nat):Int) by omega,zdW (by omega)];rfl
theorem zeV {b:List UInt8}{l:List Int}(hb:b.length<=536870912)(hl0:l.length<=1000)(hi:∀x∈l,0<=x/\x<=9007199254740992){K:KT}(hK:K (.d (.slice (bcs (b++zS l)))) σ) :
  zP zbn [.d (.slice (bcs b)),.d (.slice (zhZ l))] σ K:=by
 refine zeq e_r10_put fun hl=>?_;simp only[S_r10_put,iN,bT,bF,eN];refine zG ?_;refine zn l.length (fun k vs s=>(∃x,vs=[x,.d (.int .i64 k)]/\(x=.d (.slice (bcs (b++zS (l.take k))))∨∃t,x=.own t (bcs (b++zS (l.take k)))))/\∃T,s=σ++T) ⟨⟨_,rfl,.inl (by simp[zS])⟩,[],by simp⟩ ?_;rintro k vs s hk ⟨⟨y,rfl,hy⟩,T,rfl⟩;by_cases hlt:k<l.length
 ·have hd:decide ((k:Int)<(l.length:Int))=true:=by simp;omega
  have hx:l[k]? = some l[k]:=by simp[hlt]
  have hxi:=hi _ (List.getElem_mem hlt);have hgx:=zR (f:=fun t=>[D.int .i64 t]) hx;obtain⟨x,hxe⟩:∃x,l[k]=x:=⟨_,rfl⟩;rw[hxe]at hx hgx hxi;have hw:=w64k hxi.1 hxi.2;have hln:=zot (l:=l.take k) (fun y hy=>by have:=hi y (List.mem_of_mem_take hy);omega);have hlk:(l.take k).length=k:=by rw[List.length_take];omega
  have hbl:(b++zS (l.take k)).length<=1073741824:=by rw[List.length_append];omega
  have hnx:b++zS (l.take (k+1))=b++(zS (l.take k)++zbv x.toNat):=by rw[List.take_add_one,hx];simp[zS]
  have fin:∀t τ,(∃z,[AV.own t (bcs (b++(zS (l.take k)++zbv x.toNat))),.d (.int .i64 (k+1:Nat))]=[z,.d (.int .i64 (k+1:Nat))]/\(z=.d (.slice (bcs (b++zS (l.take (k+1)))))∨∃t,z=.own t (bcs (b++zS (l.take (k+1))))))/\∃T',σ++T++τ=σ++T':=fun t τ=>
   ⟨⟨_,rfl,.inr ⟨t,by rw[hnx]⟩⟩,_,List.append_assoc _ _ _⟩
  obtain⟨S,hS⟩:∃S,σ++T=S:=⟨_,rfl⟩;rw[hS]at fin ⊢;rcases hy with rfl|⟨t,rfl⟩
  ·refine zm (zd hd (zd hgx hw)) ?_;refine zeQ (by omega) hbl ?_;refine zm (wkc k (by omega)) ?_;exact zaK.next hlt (fin _ _)
  ·refine zm (zd hd (zd hgx hw)) ?_;refine zeQ (by omega) hbl ?_;refine zm (wkc k (by omega)) ?_;exact zaK.next hlt (fin _ _)
 ·have hd:decide ((k:Int)<(l.length:Int))=false:=by simp;omega
  rw[List.take_of_length_le (by omega)]at hy;rcases hy with rfl|⟨t,rfl⟩
  ·refine zm hd ?_;refine zu hl ?_;exact hK
  ·refine zm hd ?_;refine zu hl ?_;exact hK
theorem zwX {b:List UInt8}{l:List zI}(hb:b.length<=268435456)(hc:∀e∈zco l,e=0){K:KT}(hK:K (.d (.slice (bcs (b++zvN l)))) σ) :
  zP ziJ [.d (.slice (bcs b)),.d (.slice (zat l))] σ K:=by
 refine zeq zxP fun hl=>?_;obtain⟨h13,hs⟩:=zzG hc;have hll:(zat l).length=l.length:=List.length_map ..;have n1:=zl (n:=l.length) (by omega);simp only[zqA,iN,bT,bF,eN];refine zm hll ?_;refine zeV (l:=[(l.length:Int)]) (by omega) (by simp) (by simp;omega) ?_;rw[show zS [(l.length:Int)]=zbv l.length by simp[zS]];refine zm hll ?_;refine zn l.length (fun k vs s=>vs=[.d (.slice (bcs (b++(zbv l.length++((l.take k).map fun s=>zgu s.key s.dig).flatten)))),.d (.int .i64 k)]/\s=σ) ⟨by simp,rfl⟩ ?_;rintro k vs s hk ⟨rfl,rfl⟩;by_cases hlt:k<l.length
 ·have hd:decide ((k:Int)<(l.length:Int))=true:=by simp;omega
  have hx:l[k]? = some l[k]:=by simp[hlt]
  have hxi:=hs _ (List.getElem_mem hlt);have hgx:=zR (f:=zgt) hx;obtain⟨x,hxe⟩:∃x,l[k]=x:=⟨_,rfl⟩;rw[hxe]at hx hgx hxi;have hlen:(((l.take k).map fun s=>zgu s.key s.dig).flatten).length<=(l.take k).length*20:=zcz fun s hm=>zgC (hs s (List.mem_of_mem_take hm));have hlk:(l.take k).length=k:=by rw[List.length_take];omega
  have hsb:zcv x.key x.dig=zgu x.key x.dig:=by simp[zcv,hxi]
  refine zdB (zd hd (zd hgx hll)) ?_;refine ziC (by simp only[List.length_append];omega) ?_;rw[hsb];refine zm (wkc k (by omega)) ?_;exact zaK.next hlt ⟨by rw[zda hx];try simp,rfl⟩
 ·have hd:decide ((k:Int)<(l.length:Int))=false:=by simp;omega
  rw[List.take_of_length_le (by omega)];refine zm (zd hd hll) ?_;refine zu hl ?_;exact hK
theorem ztH {b:List UInt8}{c:zjy}(hb:b.length<=134217728)(hc:∀e∈zbx c,e=0){K:KT}(hK:K (.d (.slice (bcs (b++zrx c)))) σ) :
  zP zhz [.d (.slice (bcs b)),zhO c] σ K:=by
 refine zeq zAm fun hl=>?_;obtain⟨h1,h2,h3⟩:=cert_ok hc;have n1:=zl (n:=c.seq.toNat) (by omega);have n2:=zl (n:=c.dig.toNat) (by omega);simp only[zsD,iN,bT,bF,eN];refine zG ?_;refine zeV (l:=[c.seq,c.dig]) (by omega) (by simp) (by simp;omega) ?_;refine zG ?_;refine zwX (by simp[zS];omega) h3 ?_;refine zG ?_;refine zu hl ?_;have fin:∀x,x=b++zrx c->K (dmT (zcm [.d (.slice (bcs x))])) σ:=by rintro _ rfl;exact hK
 exact fin _ (by simp[zrx,zS])
theorem zyV {b:List UInt8}{c:zbj}(hb:b.length<=67108864)(hc:∀e∈zez c,e=0){K:KT}(hK:K (.d (.slice (bcs (b++zuY c)))) σ) :
  zP zjV [.d (.slice (bcs b)),.agg (zbL c)] σ K:=by
 refine zeq zAn fun hl=>?_;have hpl:(zfw c.above).length=c.above.length:=List.length_map ..;obtain⟨h1,h2,h3,h4,h5⟩:=body_ok hc;have n1:=zl (n:=c.view.toNat) (by omega);have n2:=zl (n:=c.src.toNat) (by omega);have n3:=zl (n:=c.above.length) (by omega);have n4:=zhN h3;simp only[zsE,iN,bT,bF,eN,zl7];refine zG ?_;refine zeV (l:=[c.view,c.src]) (by omega) (by simp) (by simp;omega) ?_;refine zG ?_;refine ztH (c:=c.cert) (by simp[zS];omega) h3 ?_;refine zm hpl ?_;refine zeV (l:=[(c.above.length:Int)]) (by simp[zS];omega) (by simp) (by simp;omega) ?_;rw[show zS [(c.above.length:Int)]=zbv c.above.length by simp[zS]];obtain⟨Q,hQ⟩:∃Q,b++(zS [c.view,c.src]++zrx c.cert)++zbv c.above.length=Q:=⟨_,rfl⟩;have hQl:Q.length<=67108864+400:=by rw[← hQ];simp[zS];omega
 rw[hQ];refine zm hpl ?_;refine zn c.above.length (fun k vs s=>vs=[.d (.slice (bcs (Q++((c.above.take k).map zuA).flatten))),.d (.int .i64 k)]/\∃T,s=σ++[.box (zbL c)]++T) ⟨by simp,[],by simp⟩ ?_;rintro k vs s hk ⟨rfl,T,rfl⟩;by_cases hlt:k<c.above.length
 ·have hd:decide ((k:Int)<(c.above.length:Int))=true:=by simp;omega
  have hx:c.above[k]? = some c.above[k]:=by simp[hlt]
  have hpx:=h5 _ (List.getElem_mem hlt);have hgx:=zR (f:=zfC) hx;obtain⟨p,hp⟩:∃p,c.above[k]=p:=⟨_,rfl⟩;rw[hp]at hx hgx hpx;have hlen:(((c.above.take k).map zuA).flatten).length<=(c.above.take k).length*4400:=zcz fun s hm=>zvT (h5 s (List.mem_of_mem_take hm));have hlk:(c.above.take k).length=k:=by rw[List.length_take];omega
  obtain⟨R,hR⟩:∃R,Q++((c.above.take k).map zuA).flatten=R:=⟨_,rfl⟩;have hRl:R.length<=67108864+36000:=by rw[← hR,List.length_append];omega
  rw[hR];obtain⟨p1,p2,p3,p4,p5,p6⟩:=prep_ok hpx;have m1:=zl (n:=p.view.toNat) (by omega);have m2:=zl (n:=p.seq.toNat) (by omega);have m3:=zl (n:=p.dig.toNat) (by omega);have m4:=zgC p4;have m5:=zpt p5;have hsb:zcv p.fkey p.fdig=zgu p.fkey p.fdig:=by simp[zcv,p4]
  have hbb:zdM p.batch=zhl p.batch:=by simp[zdM,p6]
  have hbx:∀τ,(σ++[AObj.box (zbL c)]++T++τ)[σ.length]? = some (.box (zbL c)):=fun τ=>zi (zi (by rw[zB];rfl));have hbx0:=hbx [];rw[List.append_nil]at hbx0;have fin:∀τ,∃T',σ++[AObj.box (zbL c)]++T++τ=σ++AObj.box (zbL c)::T':=fun τ=>⟨T++τ,by simp⟩;obtain⟨S,hS⟩:∃S,σ++[AObj.box (zbL c)]++T=S:=⟨_,rfl⟩;rw[hS]at hbx hbx0 fin ⊢;refine zdB (zd hd (zd hgx (zd hpl (zd hbx hbx0)))) ?_;refine zeV (l:=[p.view,p.seq,p.dig]) (by omega) (by simp) (by simp;omega) ?_;refine zG ?_;refine ziC (by simp[zS];omega) ?_;rw[hsb];refine zG ?_;refine zwX (by simp[zS];omega) p5 ?_;refine zG ?_;refine znv (by simp[zS];omega) (fun x hx=>Nat.le_trans ((zdL p6).1 x hx) (by omega)) (by have:=(zkc p6).1;omega) ?_;rw[hbb];refine zm (wkc k (by omega)) ?_;refine zaK.next hlt ⟨?_,fin _⟩;rw[zda hx,← hR];simp[zuA,zS]
 ·have hd:decide ((k:Int)<(c.above.length:Int))=false:=by simp;omega
  have hbx0:(σ++[AObj.box (zbL c)]++T)[σ.length]? = some (.box (zbL c)):=zi (by rw[zB];rfl);rw[show c.above.take k=c.above from List.take_of_length_le (by omega)];obtain⟨S,hS⟩:∃S,[AObj.box (zbL c)]++T=S:=⟨_,rfl⟩;rw[List.append_assoc,hS]at hbx0 ⊢;refine zm (zd hd (zd hpl hbx0)) ?_;refine zu hl ?_;rw[← hQ];have fin:∀x,x=b++zuY c->K (dmT (zcm [.d (.slice (bcs x))])) σ:=by rintro _ rfl;exact hK
  exact fin _ (by simp[zuY,zS])
theorem c_kPutChange {b:List UInt8}{c:zbj}(hb:b.length<=67108864)(hc:∀e∈zaT c,e=0){K:KT}(hK:K (.d (.slice (bcs (b++zfV c)))) σ) :
  zP zkw [.d (.slice (bcs b)),.agg (zbL c)] σ K:=by
 refine zeq zwz fun hl=>?_;obtain⟨h1,h2⟩:=ziY hc;have n1:=zsx h1;have hsb:zcv c.key c.dig=zgu c.key c.dig:=by simp[zcv,h2]
 simp only[zpd,iN,bT,bF,eN];refine zG ?_;refine zyV (c:=c) hb h1 ?_;refine zG ?_;refine ziC (by simp only[List.length_append];omega) ?_;rw[hsb];refine zG ?_;refine zu hl ?_;have fin:∀x,x=b++zfV c->K (dmT (zcm [.d (.slice (bcs x))])) σ:=by rintro _ rfl;exact hK
 exact fin _ (by simp[zfV,zS])
variable {σ:List AObj}
theorem gq38 {A P Q:Prop}(a:A)(h:Q)(e:A->Hd Q->P:=by intro a h;(repeat' first|simp -dsimp only[↓zlH,↓zbS,↓zee,↓zlI,↓zlz,↓zlx,↓zlA,↓zly,↓zej,↓zef,↓zek,↓zeg,↓zlB,↓zeb,↓zel,↓zeh,↓zem,↓zei,↓zlw,↓zlF,↓zea,↓zep,↓zlo,↓zln,↓zlu,iN,bT,bF,eN,↓zes,↓unC,↓zaC,↓zai,↓zaj,↓zav,↓zaX,↓zah,↓zgB,↓zaw,↓zbf,↓zad,↓ze,↓zj,↓zaR,↓zc,↓zaV,↓zN,↓zbT,↓zcl,↓zf,↓zF,↓zp,↓zM,↓zaB,↓zgI,↓zhI,↓zbc,↓zby,↓zcf,↓zcA,↓zdp,↓zJ,↓zbb,↓zak,↓zO,↓zaU,zhr,zdV,zdD,unA,zgy,bnd,ziT,zaO,zL,zid,dm,dm1,zH,zaF,zjX,zjW,keepO,Q0,Q1,Q2,Q3,Q4,Q5,zba,zA,zB,zY,zab,Q6,Q7,Q8,Q9,Q10,Q11,Q12,Q13,Q14,Nat.reduceAdd,Q15,Int.reduceToNat,Q16,Q17,Q18,Q19,Q20,reduceIte,Q21,Q22,zy,rep,zaq,zhX,toD,zaD,Q23,Q24,Q25,Q26,Q27,Q28,Nat.reduceLeDiff,Q29,Nat.reduceSub,Q30,Q31,Q32,sc,Q33,Q34,Q35,Q36,Q37,Q26,Q38,Q39,zuH,zuE,zuB,zuI,zjw,zuF,zuC,zuG,zuD,zjv,zjx,zuK,zuL,Bool.not_true,Bool.not_false,List.length_map,Bool.and_false,Bool.and_self,Bool.false_and,Bool.not_false,Bool.not_true,Bool.true_and,Int.toNat_natCast,Int.toNat_zero,List.drop_zero,List.length_map,List.length_nil,List.nil_append,List.take_length,Nat.sub_zero,Nat.zero_add,Option.isSome_none,Option.isSome_some,Option.map_none,Option.map_some,zam,beq_self_eq_true,bne_self_eq_false,a]|with_reducible refine zuZ ?_|fail);exact h.go):P:=e a ⟨h⟩
theorem c_raSigned {id id2:Nat}{L:List (List UInt8)}{G:List zI}{s:zI}{key:Int}{b:List UInt8}(hT:σ[id]? = some (rtO L))(hG:σ[id2]? = some (rlO G))(hl0:L.length<=1048576)(hg:G.length<=1073741824){K:KT}
  (hK:K (.d (.bool (zir L G s key b))) σ):zP zow [.box id 0,.box id2 0,.agg [.d (.int .i64 s.key),.d (.int .i64 s.dig)],.d (.int .i64 key),.d (.slice (bcs b))] σ K:=by
 refine acE5 e_r11_signed fun hl=>?_;simp only[zuo,iN,bT,bF,eN];refine zG ?_;refine c_rtLook (zi hT) hl0 ?_;have fin:∀z,zir L G s key b=z->K (.d (.bool z)) σ:=fun z h=>h▸hK;clear hK;cases hlk:zhJ L b with
 | none=>
  refine gq28 ?_
  refine zu hl ?_
  exact fin _ (by simp[zir,hlk])
 | some i=>
  simp only[zou]
  cases h1:(s.key==key)
  ·refine gq38 h1 ?_
   refine zu hl ?_
   exact fin _ (by simp at h1;simp[zir,hlk,h1])
  ·cases h2:(s.dig==((i+1:Nat):Int))
   ·refine gq38 (zd h1 h2) ?_
    refine zu hl ?_
    exact fin _ (by simp at h1 h2;simp[zir,hlk,h1];omega)
   ·refine gq38 (zd h1 h2) ?_
    refine zyU (s:=s) (zi hG) hg ?_
    refine zG ?_
    refine zu hl ?_
    exact fin _ (by simp at h1 h2;simp[zir,hlk,h1,h2])
variable {σ:List AObj}
theorem zwW {k:Int}{K:KT}(hK:K (.d (.bool (zeT k))) σ):zP zox [.d (.int .i64 k)] σ K:=by
 refine zeA e_r10_signed fun hl=>?_;have fin:∀z,zeT k=z->K (.d (.bool z)) σ:=fun z h=>h▸hK;clear hK;simp only[zup,iN,bT,bF,eN];cases h1:decide (k≥2)
 ·refine zm h1 ?_;refine zu hl ?_;exact fin _ (by simp at h1;simp[zeT];omega)
 cases h2:decide (k<=9)
 ·refine zm (zd h1 h2) ?_;refine zu hl ?_;exact fin _ (by simp at h2;simp[zeT];omega)
 refine zm (zd h1 h2) ?_;refine zu hl ?_;refine fin _ ?_;simp at h1 h2;rw[Bool.eq_iff_iff];simp[zeT,h1,h2]
theorem zAA {b:List UInt8}{K:KT}(hK:K (.tup [.d (.slice (bcs (if b.length>262144 then []else b))),.d (.int .i64 (if b.length>262144 then 3 else 0))]) σ) :
  zP zqW [.d (.slice (bcs b)),.d (.int .i64 0)] σ K:=by
 refine zeq e_r10_short fun hl=>?_;simp only[zxm,iN,bT,bF,eN];by_cases h:b.length>262144
 ·have hd:decide ((b.length:Int)>262144)=true:=by simp;omega
  rw[if_pos h,if_pos h]at hK;refine zm hd ?_;refine zu hl ?_;exact hK
 ·have hd:decide ((b.length:Int)>262144)=false:=by simp;omega
  rw[if_neg h,if_neg h]at hK;refine zm hd ?_;refine zu hl ?_;exact hK
theorem c_kBody7 {m:zbC}{c:zbj}(hk:m.kind=7)(hch:m.changes=[c])(hc:∀e∈zez c,e=0){K:KT}(hK:K (.tup [.d (.slice (bcs (unsB m))),.d (.bool true)]) σ) :
  zP zkj [zgi m] σ K:=by
 refine zeA ztw fun hl=>?_;have hgx:(zap m.changes)[0]? = some (zag c):=by rw[hch];rfl
 have hgl:(zap m.changes).length=1:=by rw[hch];rfl
 have n1:=zl (n:=m.kind.toNat) (by omega);simp only[zpR,iN,bT,bF,eN];refine zG ?_;refine zeV (b:=[]) (l:=[m.kind]) (by simp) (by simp) (by simp;omega) ?_;refine zdB (zd (kk7 hk) (zd hgx hgl)) ?_;refine zyV (c:=c) (b:=[]++zS [m.kind]) (by simp[zS];omega) hc ?_;refine zG ?_;refine zu hl ?_;have fin:∀x,x=unsB m->K (dmT (zcm [.d (.slice (bcs x)),.d (.bool true)])) σ:=by rintro _ rfl;exact hK
 exact fin _ (by simp[unsB,hk,hch,zS])
theorem c_kBody8 {m:zbC}(hk:m.kind=8)(hc:∀e∈zfI m,e=0){K:KT}(hK:K (.tup [.d (.slice (bcs (unsB m))),.d (.bool true)]) σ) :
  zP zkj [zgi m] σ K:=by
 refine zeA ztw fun hl=>?_;have hcl:(zap m.changes).length=m.changes.length:=List.length_map ..;have hel:(zbo m.entries).length=m.entries.length:=List.length_map ..;obtain⟨h1,h2,h3,h4,h5,h6⟩:=newv_ok hc;have n0:=zl (n:=m.kind.toNat) (by omega);have n1:=zl (n:=m.src.toNat) (by omega);have n2:=zl (n:=m.view.toNat) (by omega);have n3:=zl (n:=m.changes.length) (by omega);have n4:=zl (n:=m.entries.length) (by omega);simp only[zpR,iN,bT,bF,eN];refine zG ?_;refine zeV (b:=[]) (l:=[m.kind]) (by simp) (by simp) (by simp;omega) ?_;refine zm (zd (kk8 hk) hcl) ?_;refine zeV (l:=[m.src,m.view,(m.changes.length:Int)]) (b:=[]++zS [m.kind]) (by simp[zS];omega) (by simp) (by simp;omega) ?_;obtain⟨Q,hQ⟩:∃Q,[]++zS [m.kind]++zS [m.src,m.view,(m.changes.length:Int)]=Q:=⟨_,rfl⟩;have hQl:Q.length<=1000:=by rw[← hQ];simp[zS];omega
 rw[hQ];refine zm hcl ?_;refine zn m.changes.length (fun k vs s=>vs=[.d (.slice (bcs (Q++((m.changes.take k).map zfV).flatten))),.d (.int .i64 k)]/\s=σ++[zlh m]) ⟨by simp,rfl⟩ ?_;rintro k vs s hk0 ⟨rfl,rfl⟩;have hlenC:(((m.changes.take k).map zfV).flatten).length<=13*36020:=by
  have:=zcz (f:=zfV) (n:=36020) (l:=m.changes.take k) fun s hm=>zrw (h4 s (List.mem_of_mem_take hm));have hlk:(m.changes.take k).length<=13:=by rw[List.length_take];omega
  have:(m.changes.take k).length*36020<=13*36020:=Nat.mul_le_mul_right _ hlk;omega
 by_cases hlt:k<m.changes.length
 ·have hd:decide ((k:Int)<(m.changes.length:Int))=true:=by simp;omega
  have hx:m.changes[k]? = some m.changes[k]:=by simp[hlt]
  have hpx:=h4 _ (List.getElem_mem hlt);have hgx:=zR (f:=zag) hx;obtain⟨p,hp⟩:∃p,m.changes[k]=p:=⟨_,rfl⟩;rw[hp]at hx hgx hpx;refine zdB (zd hd (zd hgx hcl)) ?_;refine c_kPutChange (c:=p) (by simp only[List.length_append];omega) hpx ?_;refine zm (wkc k (by omega)) ?_;exact zaK.next hlt ⟨by rw[zda hx];try simp,rfl⟩
 have hd:decide ((k:Int)<(m.changes.length:Int))=false:=by simp;omega
 rw[show m.changes.take k=m.changes from List.take_of_length_le (by omega)]at hlenC ⊢;refine zm (zd hd (zd hcl hel)) ?_;refine zeV (l:=[(m.entries.length:Int)]) (by simp only[List.length_append];omega) (by simp) (by simp;omega) ?_;obtain⟨R,hR⟩:∃R,Q++(m.changes.map zfV).flatten++zS [(m.entries.length:Int)]=R:=⟨_,rfl⟩;have hRl:R.length<=1000000:=by rw[← hR];simp only[zS,List.map_cons,List.map_nil,List.flatten_cons,List.flatten_nil,List.append_nil,List.length_append,Int.toNat_natCast];omega
 rw[hR];refine zm hel ?_;refine zn m.entries.length (fun k vs s=>vs=[.d (.slice (bcs (R++((m.entries.take k).map znE).flatten))),.d (.int .i64 k)]/\∃T,s=σ++zlh m::T) ⟨by simp,[],rfl⟩ ?_;rintro k vs s hk1 ⟨rfl,T,rfl⟩;by_cases hlt:k<m.entries.length
 ·have hd:decide ((k:Int)<(m.entries.length:Int))=true:=by simp;omega
  have hx:m.entries[k]? = some m.entries[k]:=by simp[hlt]
  have hpx:=h6 _ (List.getElem_mem hlt);have hgx:=zR (f:=zdh) hx;obtain⟨p,hp⟩:∃p,m.entries[k]=p:=⟨_,rfl⟩;rw[hp]at hx hgx hpx;have hlen:(((m.entries.take k).map znE).flatten).length<=(m.entries.take k).length*4040:=zcz fun s hm=>zts (h6 s (List.mem_of_mem_take hm));have hlk:(m.entries.take k).length=k:=by rw[List.length_take];omega
  obtain⟨X,hX⟩:∃X,R++((m.entries.take k).map znE).flatten=X:=⟨_,rfl⟩;have hXl:X.length<=2000000:=by rw[← hX,List.length_append];omega
  rw[hX];obtain⟨p1,p2,p3,p4⟩:=zAj hpx;have m1:=zl (n:=p.view.toNat) (by omega);have m2:=zl (n:=p.seq.toNat) (by omega);have m3:=(zdL p3).2;have hsb:zcv p.key p.dig=zgu p.key p.dig:=by simp[zcv,p4]
  have hbb:zdM p.batch=zhl p.batch:=by simp[zdM,p3]
  have hbx0:(σ++zlh m::T)[σ.length]? = some (zlh m):=by rw[zB];rfl
  have hbx:∀τ,(σ++zlh m::T++τ)[σ.length]? = some (zlh m):=fun τ=>zi hbx0;have fin:∀τ,∃T',σ++zlh m::T++τ=σ++zlh m::T':=fun τ=>⟨T++τ,by simp⟩;obtain⟨S,hS⟩:∃S,σ++zlh m::T=S:=⟨_,rfl⟩;rw[hS]at hbx hbx0 fin ⊢;refine zdB (zd hd (zd hgx (zd hel (zd hbx hbx0)))) ?_;refine zeV (l:=[p.view,p.seq]) (by omega) (by simp) (by simp;omega) ?_;refine zG ?_;refine znv (by simp[zS];omega) (fun x hx=>Nat.le_trans ((zdL p3).1 x hx) (by omega)) (by have:=(zkc p3).1;omega) ?_;rw[hbb];refine zG ?_;refine ziC (by simp[zS];omega) ?_;rw[hsb];refine zm (wkc k (by omega)) ?_;refine zaK.next hlt ⟨?_,fin _⟩;rw[zda hx,← hX];simp[znE,zS]
 ·have hd:decide ((k:Int)<(m.entries.length:Int))=false:=by simp;omega
  have hbx0:(σ++zlh m::T)[σ.length]? = some (zlh m):=by rw[zB];rfl
  rw[show m.entries.take k=m.entries from List.take_of_length_le (by omega)];obtain⟨S,hS⟩:∃S,zlh m::T=S:=⟨_,rfl⟩;rw[hS]at hbx0 ⊢;refine zm (zd hd (zd hel hbx0)) ?_;refine zu hl ?_;have fin:∀x,x=unsB m->K (dmT (zcm [.d (.slice (bcs x)),.d (.bool true)])) σ:=by rintro _ rfl;exact hK
  exact fin _ (by rw[← hR,← hQ];simp[unsB,hk,newvB,zS])
end Go.Proofs.YtdgcepphjnoalaaGreat
