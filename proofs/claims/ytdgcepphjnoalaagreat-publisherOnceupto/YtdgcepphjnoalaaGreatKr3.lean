/- Contracts: messages that are the same, the document's. -/
import Derived.Test.YtdgcepphjnoalaaGreatPp1
import Derived.Test.YtdgcepphjnoalaaGreatCk4
import Derived.Test.YtdgcepphjnoalaaGreatRd1
import Derived.Test.YtdgcepphjnoalaaGreatSh
import Derived.Test.YtdgcepphjnoalaaGreatId3
set_option linter.all false
set_option maxRecDepth 100000
namespace Go.Proofs.YtdgcepphjnoalaaGreat
open Go.AW
variable {σ:List AObj}
theorem c_kSamePrep {a b:zjU}(ha:zqK a)(hb:zqK b){K:KT}(hK:K (.d (.bool (decide (a=b)))) σ):zP zhy [.agg [.d (.int .i64 a.view),.d (.int .i64 a.seq),.d (.int .i64 a.dig),.d (.int .i64 a.fkey),.d (.int .i64 a.fdig),.d (.slice (zat a.signs)),.d (.slice (zbA a.batch))],.agg [.d (.int .i64 b.view),.d (.int .i64 b.seq),.d (.int .i64 b.dig),.d (.int .i64 b.fkey),.d (.int .i64 b.fdig),.d (.slice (zat b.signs)),.d (.slice (zbA b.batch))]] σ K:=by
 refine zec zsg fun hl=>?_;have fin:∀z,decide (a=b)=z->K (.d (.bool z)) σ:=fun z h=>h▸hK;clear hK;simp only[zlv,iN,bT,bF,eN];cases h1:(a.view==b.view)
 ·refine zm h1 ?_;refine zu hl ?_;exact fin _ (decide_eq_false fun h=>by subst h;simp at h1)
 cases h2:(a.seq==b.seq)
 ·refine zm (zd h1 h2) ?_;refine zu hl ?_;exact fin _ (decide_eq_false fun h=>by subst h;simp at h2)
 cases h3:(a.dig==b.dig)
 ·refine zm (zd h1 (zd h2 h3)) ?_;refine zu hl ?_;exact fin _ (decide_eq_false fun h=>by subst h;simp at h3)
 cases h4:(a.fkey==b.fkey&&a.fdig==b.fdig)
 ·refine zdy (zd h1 (zd h2 (zd h3 h4))) ?_;refine zu hl ?_;exact fin _ (decide_eq_false fun h=>by subst h;simp at h4)
 refine zdy (zd h1 (zd h2 (zd h3 h4))) ?_;refine zwJ ha.signs ?_;cases h5:decide (a.signs=b.signs)
 ·refine zm h5 ?_;refine zu hl ?_;exact fin _ (decide_eq_false fun h=>by subst h;simp at h5)
 refine zkZ h5 ?_;refine zAv ha.batch hb.batch ?_;cases h6:decide (a.batch=b.batch)
 ·refine zm h6 ?_;refine zu hl ?_;exact fin _ (decide_eq_false fun h=>by subst h;simp at h6)
 refine zm h6 ?_;refine zu hl ?_;exact fin _ (decide_eq_true (by cases a;cases b;simp_all))
theorem zzX {A P Q:Prop}(a:A)(h:Q)(e:A->Hd Q->P:=by intro a h;(repeat' first|simp -dsimp only[↓zmg,↓zcf,↓zep,↓zmh,↓zmb,↓zlZ,↓zmc,↓zma,↓zeu,↓zeq,↓zev,↓zer,↓zmd,↓zeo,↓zew,↓zes,↓zex,↓zet,↓zlY,↓zmf,↓zen,↓zey,↓zlW,↓zlV,↓zlX,iN,bT,bF,eN,↓zeO,↓unC,↓zaE,↓zan,↓zao,↓zaA,↓zbf,↓zah,↓zgR,↓zaz,↓zbe,↓zae,↓ze,↓zl,↓zbc,↓zc,↓zaY,↓zM,↓zce,↓zcB,↓zf,↓zF,↓zr,↓zN,↓zaC,↓zgY,↓zhU,↓zbi,↓zbJ,↓zcj,↓zcM,↓zdG,↓zL,↓zbh,↓zap,↓zR,↓zbb,zhS,zdY,zdS,unA,zgE,bnd,zjr,zaP,zK,ziD,dm,dm1,zH,zaI,zkw,zkv,keepO,Q0,Q1,Q2,Q3,Q4,Q5,zbg,zA,zC,zZ,zad,Q6,Q7,Q8,Q9,Q10,Q11,Q12,Q13,Q14,Nat.reduceAdd,Q15,Int.reduceToNat,Q16,Q17,Q18,Q19,Q20,reduceIte,Q21,Q22,zy,rep,zaq,zil,toD,zaD,Q23,Q24,Q25,Q26,Q27,Q28,Nat.reduceLeDiff,Q29,Nat.reduceSub,Q30,Q31,Q32,sc,Q33,Q34,Q35,Q36,Q37,Q26,Q38,Q39,zvP,zvM,zvJ,zvQ,zkt,zvN,zvK,zvO,zvL,zks,zku,zwb,zwc,Bool.not_true,Bool.not_false,List.length_map,Bool.and_false,Bool.and_self,Bool.false_and,Bool.not_false,Bool.not_true,Bool.true_and,Int.toNat_natCast,Int.toNat_zero,List.drop_zero,List.length_map,List.length_nil,List.nil_append,List.take_length,Nat.sub_zero,Nat.zero_add,Option.isSome_none,Option.isSome_some,Option.map_none,Option.map_some,zaj,beq_self_eq_true,bft,bne,bne_self_eq_false,btf,a]|with_reducible refine zxa ?_|fail);exact h.go):P:=e a ⟨h⟩
theorem zAz {a b:zbl}(ha:zjL a)(hb:zjL b){K:KT}(hK:K (.d (.bool (decide (a=b)))) σ):zP zjn [.agg [.d (.int .i64 a.view),.d (.int .i64 a.src),.d (.int .i64 a.cert.seq),.d (.int .i64 a.cert.dig),.d (.slice (zat a.cert.signs)),.d (.slice (zft a.above)),.d (.int .i64 a.key),.d (.int .i64 a.dig)],.agg [.d (.int .i64 b.view),.d (.int .i64 b.src),.d (.int .i64 b.cert.seq),.d (.int .i64 b.cert.dig),.d (.slice (zat b.cert.signs)),.d (.slice (zft b.above)),.d (.int .i64 b.key),.d (.int .i64 b.dig)]] σ K:=by
 refine zec zuE fun hl=>?_;have fin:∀z,decide (a=b)=z->K (.d (.bool z)) σ:=fun z h=>h▸hK;clear hK;simp only[znJ,iN,bT,bF,eN];have hla:((a.above.map zfx).length)=a.above.length:=List.length_map ..;have hlb:((b.above.map zfx).length)=b.above.length:=List.length_map ..;have hal:=ha.above;cases h1:(a.view==b.view)
 ·refine zzX h1 ?_;refine zu hl ?_;exact fin _ (decide_eq_false fun h=>by subst h;simp at h1)
 cases h2:(a.src==b.src)
 ·refine zzX (zd h1 h2) ?_;refine zu hl ?_;exact fin _ (decide_eq_false fun h=>by subst h;simp at h2)
 refine zzX (zd h1 h2) ?_;refine ztD (a:=a.cert) (b:=b.cert) ha.signs ?_;cases h3:decide (a.cert=b.cert)
 ·refine zm h3 ?_;refine zu hl ?_;exact fin _ (decide_eq_false fun h=>by subst h;simp at h3)
 cases h4:(a.key==b.key&&a.dig==b.dig)
 ·refine zdy (zd h3 h4) ?_;refine zu hl ?_;exact fin _ (decide_eq_false fun h=>by subst h;simp at h4)
 cases h5:((a.above.length:Int)==(b.above.length:Int))
 ·refine gq21 (zd h3 (zd h4 (zd hla (zd hlb h5)))) ?_;refine zu hl ?_;exact fin _ (decide_eq_false fun h=>by subst h;simp at h5)
 have hl2:a.above.length=b.above.length:=by simp at h5;omega
 have hla:((a.above.map zfx).length)=a.above.length:=List.length_map ..;have hlb:((b.above.map zfx).length)=b.above.length:=List.length_map ..;refine gq21 (zd h3 (zd h4 (zd hla (zd hlb (zd h5 (zd hla hlb)))))) ?_;refine zn a.above.length (fun k vs s=>vs=[.d (.int .i64 k)]/\s=σ++[.box (zbM a),.box (zbM b)]/\a.above.take k=b.above.take k) ⟨rfl,rfl,by simp⟩ ?_;rintro k vs s hk ⟨rfl,rfl,htk⟩;by_cases hlt:k<a.above.length
 ·have hd:decide ((k:Int)<(a.above.length:Int))=true:=by simp;omega
  have hx:a.above[k]? = some a.above[k]:=by simp[hlt]
  have hy:b.above[k]? = some (b.above[k]'(by omega)):=List.getElem?_eq_getElem _;have hgx:=zQ (f:=zfx) hx;have hgy:=zQ (f:=zfx) hy;have hxs:=ha.each _ (List.getElem_mem hlt);have hys:=hb.each _ (List.getElem_mem (show k<b.above.length by omega));obtain⟨x,hxe⟩:∃x,a.above[k]=x:=⟨_,rfl⟩;obtain⟨y,hye⟩:∃y,(b.above[k]'(by omega))=y:=⟨_,rfl⟩;rw[hxe]at hx hgx hxs;rw[hye]at hy hgy hys;refine zdy (zd hd (zd hgx (zd hgy (zd hla hlb)))) ?_;refine c_kSamePrep (a:=x) (b:=y) hxs hys ?_;cases he:decide (x=y)
  ·refine zG ?_;refine zu hl ?_;refine fin _ (decide_eq_false fun h=>?_);subst h;rw[hx]at hy;have:=Option.some.inj hy;simp[this]at he
  ·refine zm (wkc k (by omega)) ?_;exact zaK.next hlt ⟨rfl,rfl,zbs hx hy htk (by simpa using he)⟩
 have hd:decide ((k:Int)<(a.above.length:Int))=false:=by simp;omega
 have heq_above:a.above=b.above:=zcv hl2 (k:=k) (by omega) htk;refine zm (zd hd (zd hla hlb)) ?_;refine zu hl ?_;exact fin _ (decide_eq_true (by cases a;cases b;simp_all))
theorem gq37 {A P Q:Prop}(a:A)(h:Q)(e:A->Hd Q->P:=by intro a h;(repeat' first|simp -dsimp only[↓zmg,↓zcf,↓zep,↓zmh,↓zmb,↓zlZ,↓zmc,↓zma,↓zeu,↓zeq,↓zev,↓zer,↓zmd,↓zeo,↓zew,↓zes,↓zex,↓zet,↓zlY,↓zmf,↓zen,↓zey,↓zlW,↓zlV,↓zlX,iN,bT,bF,eN,↓zeO,↓unC,↓zaE,↓zan,↓zao,↓zaA,↓zbf,↓zah,↓zgR,↓zaz,↓zbe,↓zae,↓ze,↓zl,↓zbc,↓zc,↓zaY,↓zM,↓zce,↓zcB,↓zf,↓zF,↓zr,↓zN,↓zaC,↓zgY,↓zhU,↓zbi,↓zbJ,↓zcj,↓zcM,↓zdG,↓zL,↓zbh,↓zap,↓zR,↓zbb,zhS,zdY,zdS,unA,zgE,bnd,zjr,zaP,zK,ziD,dm,dm1,zH,zaI,zkw,zkv,keepO,Q0,Q1,Q2,Q3,Q4,Q5,zbg,zA,zC,zZ,zad,Q6,Q7,Q8,Q9,Q10,Q11,Q12,Q13,Q14,Nat.reduceAdd,Q15,Int.reduceToNat,Q16,Q17,Q18,Q19,Q20,reduceIte,Q21,Q22,zy,rep,zaq,zil,toD,zaD,Q23,Q24,Q25,Q26,Q27,Q28,Nat.reduceLeDiff,Q29,Nat.reduceSub,Q30,Q31,Q32,sc,Q33,Q34,Q35,Q36,Q37,Q26,Q38,Q39,zvP,zvM,zvJ,zvQ,zkt,zvN,zvK,zvO,zvL,zks,zku,zwb,zwc,Bool.not_true,Bool.not_false,List.length_map,Bool.and_false,Bool.and_self,Bool.false_and,Bool.not_false,Bool.not_true,Bool.true_and,Int.toNat_natCast,Int.toNat_zero,List.drop_zero,List.length_map,List.length_nil,List.nil_append,List.take_length,Nat.sub_zero,Nat.zero_add,Option.isSome_none,Option.isSome_some,Option.map_none,Option.map_some,zaj,beq_self_eq_true,bft,bne,bne_self_eq_false,btf,ziz,zfg,zgh,zcj,mgetR,zcM,a]|with_reducible refine zxa ?_|fail);exact h.go):P:=e a ⟨h⟩
theorem c_kSameProof {a b:zfi}(ha:zqL a){K:KT}(hK:K (.d (.bool (decide (a=b)))) σ):zP zkm [znA a,znA b] σ K:=by
 refine zec zwu fun hl=>?_;have fin:∀z,decide (a=b)=z->K (.d (.bool z)) σ:=fun z h=>h▸hK;clear hK;simp only[zpc,iN,bT,bF,eN];have hla1:((zmt a.headers).length)=a.headers.length:=List.length_map ..;have hlb1:((zmt b.headers).length)=b.headers.length:=List.length_map ..;have hla2:((zhV a.path).length)=a.path.length:=List.length_map ..;have hlb2:((zhV b.path).length)=b.path.length:=List.length_map ..;have hal1:=ha.headers;have hal2:=ha.path;cases h1:(a.topic==b.topic)
 ·refine zzX h1 ?_;refine zu hl ?_;exact fin _ (decide_eq_false fun h=>by subst h;simp at h1)
 cases h2:(a.offset==b.offset)
 ·refine zzX (zd h1 h2) ?_;refine zu hl ?_;exact fin _ (decide_eq_false fun h=>by subst h;simp at h2)
 cases h3:(a.rec_==b.rec_)
 ·refine gq37 (zd h1 (zd h2 h3)) ?_;refine zu hl ?_;exact fin _ (decide_eq_false fun h=>by subst h;simp at h3)
 cases h4:(a.index==b.index)
 ·refine gq37 (zd h1 (zd h2 (zd h3 h4))) ?_;refine zu hl ?_;exact fin _ (decide_eq_false fun h=>by subst h;simp at h4)
 cases h5:(a.count==b.count)
 ·refine gq37 (zd h1 (zd h2 (zd h3 (zd h4 h5)))) ?_;refine zu hl ?_;exact fin _ (decide_eq_false fun h=>by subst h;simp at h5)
 refine gq37 (zd h1 (zd h2 (zd h3 (zd h4 h5)))) ?_;refine ztD (a:=a.cert) (b:=b.cert) ha.signs ?_;cases h6:decide (a.cert=b.cert)
 ·refine zm h6 ?_;refine zu hl ?_;exact fin _ (decide_eq_false fun h=>by subst h;simp at h6)
 cases h7:((a.headers.length:Int)==(b.headers.length:Int))
 ·refine zzX (zd h6 (zd hla1 (zd hlb1 h7))) ?_;refine zu hl ?_;exact fin _ (decide_eq_false fun h=>by subst h;simp at h7)
 cases h8:((a.path.length:Int)==(b.path.length:Int))
 ·refine zzX (zd h6 (zd hla1 (zd hlb1 (zd h7 (zd hla2 (zd hlb2 h8)))))) ?_;refine zu hl ?_;exact fin _ (decide_eq_false fun h=>by subst h;simp at h8)
 have hl2:a.headers.length=b.headers.length:=by simp at h7;omega
 have hl3:a.path.length=b.path.length:=by simp at h8;omega
 have hla:((a.headers.map zrY).length)=a.headers.length:=List.length_map ..;have hlb:((b.headers.map zrY).length)=b.headers.length:=List.length_map ..;refine zzX (zd h6 (zd hla1 (zd hlb1 (zd h7 (zd hla2 (zd hlb2 (zd h8 (zd hla hlb)))))))) ?_;refine zn a.headers.length (fun k vs s=>vs=[.d (.int .i64 k)]/\s=σ++[zom a,zom b]/\a.headers.take k=b.headers.take k) ⟨rfl,rfl,by simp⟩ ?_;rintro k vs s hk ⟨rfl,rfl,htk⟩;by_cases hlt:k<a.headers.length
 ·have hd:decide ((k:Int)<(a.headers.length:Int))=true:=by simp;omega
  have hx:a.headers[k]? = some a.headers[k]:=by simp[hlt]
  have hy:b.headers[k]? = some (b.headers[k]'(by omega)):=List.getElem?_eq_getElem _;have hgx:=zQ (f:=zrY) hx;have hgy:=zQ (f:=zrY) hy;obtain⟨x,hxe⟩:∃x,a.headers[k]=x:=⟨_,rfl⟩;obtain⟨y,hye⟩:∃y,(b.headers[k]'(by omega))=y:=⟨_,rfl⟩;rw[hxe]at hx hgx;rw[hye]at hy hgy;have hxy:x=y↔((x.seq==y.seq&&(x.prev==y.prev&&(x.batch==y.batch&&(x.root==y.root&&x.state==y.state)))))=true:=by cases x;cases y;simp
  cases he2:((x.seq==y.seq&&(x.prev==y.prev&&(x.batch==y.batch&&(x.root==y.root&&x.state==y.state)))))
  ·refine gq21 (zd hd (zd hgx (zd hgy (zd hla (zd hlb he2))))) ?_;refine zu hl ?_;refine fin _ (decide_eq_false fun h=>?_);subst h;rw[hx]at hy;rw[hxy.1 (Option.some.inj hy)]at he2;cases he2
  ·refine gq21 (zd hd (zd hgx (zd hgy (zd hla (zd hlb (zd he2 (wkc k (by omega)))))))) ?_;exact zaK.next hlt ⟨rfl,rfl,zbs hx hy htk (hxy.2 he2)⟩
 have hd:decide ((k:Int)<(a.headers.length:Int))=false:=by simp;omega
 have heq_headers:a.headers=b.headers:=zcv hl2 (k:=k) (by omega) htk;refine zm (zd hd (zd hla1 (zd hlb1 (zd hla2 hlb2)))) ?_;have hla:((a.path.map (fun t=>[D.int .i64 t])).length)=a.path.length:=List.length_map ..;have hlb:((b.path.map (fun t=>[D.int .i64 t])).length)=b.path.length:=List.length_map ..;refine zzX (zd h6 (zd hla1 (zd hlb1 (zd h7 (zd hla2 (zd hlb2 (zd h8 (zd hla hlb)))))))) ?_;refine zn a.path.length (fun k vs s=>vs=[.d (.int .i64 k)]/\s=σ++[zom a,zom b]/\a.path.take k=b.path.take k) ⟨rfl,rfl,by simp⟩ ?_;rintro k vs s hk ⟨rfl,rfl,htk⟩;by_cases hlt:k<a.path.length
 ·have hd:decide ((k:Int)<(a.path.length:Int))=true:=by simp;omega
  have hx:a.path[k]? = some a.path[k]:=by simp[hlt]
  have hy:b.path[k]? = some (b.path[k]'(by omega)):=List.getElem?_eq_getElem _;have hgx:=zQ (f:=(fun t=>[D.int .i64 t])) hx;have hgy:=zQ (f:=(fun t=>[D.int .i64 t])) hy;obtain⟨x,hxe⟩:∃x,a.path[k]=x:=⟨_,rfl⟩;obtain⟨y,hye⟩:∃y,(b.path[k]'(by omega))=y:=⟨_,rfl⟩;rw[hxe]at hx hgx;rw[hye]at hy hgy;have hxy:x=y↔(x==y)=true:=by simp
  cases he2:(x==y)
  ·refine gq21 (zd hd (zd hgx (zd hgy (zd hla (zd hlb he2))))) ?_;refine zu hl ?_;refine fin _ (decide_eq_false fun h=>?_);subst h;rw[hx]at hy;rw[hxy.1 (Option.some.inj hy)]at he2;cases he2
  ·refine gq21 (zd hd (zd hgx (zd hgy (zd hla (zd hlb (zd he2 (wkc k (by omega)))))))) ?_;exact zaK.next hlt ⟨rfl,rfl,zbs hx hy htk (hxy.2 he2)⟩
 have hd:decide ((k:Int)<(a.path.length:Int))=false:=by simp;omega
 have heq_path:a.path=b.path:=zcv hl3 (k:=k) (by omega) htk;refine zm (zd hd (zd hla hlb)) ?_;refine zu hl ?_;exact fin _ (decide_eq_true (by cases a;cases b;simp_all))
theorem c_kSame {a b:zbD}(ha:zaJ a)(hb:zaJ b){K:KT}(hK:K (.d (.bool (decide (a=b)))) σ):zP zmo [zge a,zge b] σ K:=by
 refine zec e_r10_Same fun hl=>?_;have fin:∀z,decide (a=b)=z->K (.d (.bool z)) σ:=fun z h=>h▸hK;clear hK;simp only[zzj,iN,bT,bF,eN];have hla:((zam a.changes).length)=a.changes.length:=List.length_map ..;have hlb:((zam b.changes).length)=b.changes.length:=List.length_map ..;have hal:=ha.changes;cases h1:(a.kind==b.kind)
 ·refine zzX h1 ?_;refine zu hl ?_;exact fin _ (decide_eq_false fun h=>by subst h;simp at h1)
 cases h2:(a.src==b.src)
 ·refine zzX (zd h1 h2) ?_;refine zu hl ?_;exact fin _ (decide_eq_false fun h=>by subst h;simp at h2)
 cases h3:(a.view==b.view)
 ·refine zzX (zd h1 (zd h2 h3)) ?_;refine zu hl ?_;exact fin _ (decide_eq_false fun h=>by subst h;simp at h3)
 cases h4:(a.seq==b.seq)
 ·refine zzX (zd h1 (zd h2 (zd h3 h4))) ?_;refine zu hl ?_;exact fin _ (decide_eq_false fun h=>by subst h;simp at h4)
 cases h5:(a.dig==b.dig)
 ·refine zzX (zd h1 (zd h2 (zd h3 (zd h4 h5)))) ?_;refine zu hl ?_;exact fin _ (decide_eq_false fun h=>by subst h;simp at h5)
 cases h6:(a.client==b.client)
 ·refine zzX (zd h1 (zd h2 (zd h3 (zd h4 (zd h5 h6))))) ?_;refine zu hl ?_;exact fin _ (decide_eq_false fun h=>by subst h;simp at h6)
 cases h7:(a.time==b.time)
 ·refine zzX (zd h1 (zd h2 (zd h3 (zd h4 (zd h5 (zd h6 h7)))))) ?_;refine zu hl ?_;exact fin _ (decide_eq_false fun h=>by subst h;simp at h7)
 cases h8:(a.rerr==b.rerr&&a.roff==b.roff)
 ·refine gq21 (zd h1 (zd h2 (zd h3 (zd h4 (zd h5 (zd h6 (zd h7 h8))))))) ?_;refine zu hl ?_;exact fin _ (decide_eq_false fun h=>by subst h;simp at h8)
 cases h9:(a.topic==b.topic)
 ·refine gq21 (zd h1 (zd h2 (zd h3 (zd h4 (zd h5 (zd h6 (zd h7 (zd h8 h9)))))))) ?_;refine zu hl ?_;exact fin _ (decide_eq_false fun h=>by subst h;simp at h9)
 cases h10:(a.offset==b.offset)
 ·refine gq21 (zd h1 (zd h2 (zd h3 (zd h4 (zd h5 (zd h6 (zd h7 (zd h8 (zd h9 h10))))))))) ?_;refine zu hl ?_;exact fin _ (decide_eq_false fun h=>by subst h;simp at h10)
 cases h11:(a.key==b.key&&a.sdig==b.sdig)
 ·refine gq21 (zd h1 (zd h2 (zd h3 (zd h4 (zd h5 (zd h6 (zd h7 (zd h8 (zd h9 (zd h10 h11)))))))))) ?_;refine zu hl ?_;exact fin _ (decide_eq_false fun h=>by subst h;simp at h11)
 refine gq21 (zd h1 (zd h2 (zd h3 (zd h4 (zd h5 (zd h6 (zd h7 (zd h8 (zd h9 (zd h10 h11)))))))))) ?_;refine zAv ha.batchS hb.batchS ?_;cases h12:decide (a.batch=b.batch)
 ·refine zm h12 ?_;refine zu hl ?_;exact fin _ (decide_eq_false fun h=>by subst h;simp at h12)
 refine zkZ h12 ?_;refine ztD (a:=a.cert) (b:=b.cert) ha.signs ?_;cases h13:decide (a.cert=b.cert)
 ·refine zm h13 ?_;refine zu hl ?_;exact fin _ (decide_eq_false fun h=>by subst h;simp at h13)
 refine zkZ h13 ?_;refine zAu ha.entries (fun x hx=>(ha.entry x hx).2) (fun x hx=>(hb.entry x hx).2) ?_;cases h14:decide (a.entries=b.entries)
 ·refine zm h14 ?_;refine zu hl ?_;exact fin _ (decide_eq_false fun h=>by subst h;simp at h14)
 cases h15:(a.state==b.state)
 ·refine gq37 (zd h14 h15) ?_;refine zu hl ?_;exact fin _ (decide_eq_false fun h=>by subst h;simp at h15)
 refine gq37 (zd h14 h15) ?_;refine c_kSameProof (a:=a.proof) (b:=b.proof) ha.proof ?_;cases h16:decide (a.proof=b.proof)
 ·refine zm h16 ?_;refine zu hl ?_;exact fin _ (decide_eq_false fun h=>by subst h;simp at h16)
 cases h17:((a.changes.length:Int)==(b.changes.length:Int))
 ·refine zzX (zd h16 (zd hla (zd hlb h17))) ?_;refine zu hl ?_;exact fin _ (decide_eq_false fun h=>by subst h;simp at h17)
 have hl2:a.changes.length=b.changes.length:=by simp at h17;omega
 have hla:((a.changes.map zag).length)=a.changes.length:=List.length_map ..;have hlb:((b.changes.map zag).length)=b.changes.length:=List.length_map ..;refine zzX (zd h16 (zd hla (zd hlb (zd h17 (zd hla hlb))))) ?_;refine zn a.changes.length (fun k vs s=>vs=[.d (.int .i64 k)]/\s=σ++[zlb a,zlb b]/\a.changes.take k=b.changes.take k) ⟨rfl,rfl,by simp⟩ ?_;rintro k vs s hk ⟨rfl,rfl,htk⟩;by_cases hlt:k<a.changes.length
 ·have hd:decide ((k:Int)<(a.changes.length:Int))=true:=by simp;omega
  have hx:a.changes[k]? = some a.changes[k]:=by simp[hlt]
  have hy:b.changes[k]? = some (b.changes[k]'(by omega)):=List.getElem?_eq_getElem _;have hgx:=zQ (f:=zag) hx;have hgy:=zQ (f:=zag) hy;have hxs:=(ha.change _ (List.getElem_mem hlt)).2;have hys:=(hb.change _ (List.getElem_mem (show k<b.changes.length by omega))).2;obtain⟨x,hxe⟩:∃x,a.changes[k]=x:=⟨_,rfl⟩;obtain⟨y,hye⟩:∃y,(b.changes[k]'(by omega))=y:=⟨_,rfl⟩;rw[hxe]at hx hgx hxs;rw[hye]at hy hgy hys;refine zdy (zd hd (zd hgx (zd hgy (zd hla hlb)))) ?_;refine zAz (a:=x) (b:=y) hxs hys ?_;cases he:decide (x=y)
  ·refine zG ?_;refine zu hl ?_;refine fin _ (decide_eq_false fun h=>?_);subst h;rw[hx]at hy;have:=Option.some.inj hy;simp[this]at he
  ·refine zm (wkc k (by omega)) ?_;exact zaK.next hlt ⟨rfl,rfl,zbs hx hy htk (by simpa using he)⟩
 have hd:decide ((k:Int)<(a.changes.length:Int))=false:=by simp;omega
 have heq_changes:a.changes=b.changes:=zcv hl2 (k:=k) (by omega) htk;refine zm (zd hd (zd hla hlb)) ?_;refine zu hl ?_;exact fin _ (decide_eq_true (by cases a;cases b;simp_all))
variable {σ:List AObj}
theorem w64k {x:Int}(h0:0<=x)(h1:x<=9007199254740992):IntKind.u64.wrap x=((x.toNat:Nat):Int):=by
 rw[show x=((x.toNat:Nat):Int) by omega,zdR (by omega)];rfl
theorem zeS {b:List UInt8}{l:List Int}(hb:b.length<=536870912)(hl0:l.length<=1000)(hi:∀x∈l,0<=x/\x<=9007199254740992){K:KT}(hK:K (.d (.slice (bcs (b++zS l)))) σ) :
  zP zbp [.d (.slice (bcs b)),.d (.slice (zhV l))] σ K:=by
 refine zec e_r10_put fun hl=>?_;simp only[S_r10_put,iN,bT,bF,eN];refine zG ?_;refine zn l.length (fun k vs s=>(∃x,vs=[x,.d (.int .i64 k)]/\(x=.d (.slice (bcs (b++zS (l.take k))))∨∃t,x=.own t (bcs (b++zS (l.take k)))))/\∃T,s=σ++T) ⟨⟨_,rfl,.inl (by simp[zS])⟩,[],by simp⟩ ?_;rintro k vs s hk ⟨⟨y,rfl,hy⟩,T,rfl⟩;by_cases hlt:k<l.length
 ·have hd:decide ((k:Int)<(l.length:Int))=true:=by simp;omega
  have hx:l[k]? = some l[k]:=by simp[hlt]
  have hxi:=hi _ (List.getElem_mem hlt);have hgx:=zQ (f:=fun t=>[D.int .i64 t]) hx;obtain⟨x,hxe⟩:∃x,l[k]=x:=⟨_,rfl⟩;rw[hxe]at hx hgx hxi;have hw:=w64k hxi.1 hxi.2;have hln:=zoq (l:=l.take k) (fun y hy=>by have:=hi y (List.mem_of_mem_take hy);omega);have hlk:(l.take k).length=k:=by rw[List.length_take];omega
  have hbl:(b++zS (l.take k)).length<=1073741824:=by rw[List.length_append];omega
  have hnx:b++zS (l.take (k+1))=b++(zS (l.take k)++zbx x.toNat):=by rw[List.take_add_one,hx];simp[zS]
  have fin:∀t τ,(∃z,[AV.own t (bcs (b++(zS (l.take k)++zbx x.toNat))),.d (.int .i64 (k+1:Nat))]=[z,.d (.int .i64 (k+1:Nat))]/\(z=.d (.slice (bcs (b++zS (l.take (k+1)))))∨∃t,z=.own t (bcs (b++zS (l.take (k+1))))))/\∃T',σ++T++τ=σ++T':=fun t τ=>
   ⟨⟨_,rfl,.inr ⟨t,by rw[hnx]⟩⟩,_,List.append_assoc _ _ _⟩
  obtain⟨S,hS⟩:∃S,σ++T=S:=⟨_,rfl⟩;rw[hS]at fin ⊢;rcases hy with rfl|⟨t,rfl⟩
  ·refine zm (zd hd (zd hgx hw)) ?_;refine zeM (by omega) hbl ?_;refine zm (wkc k (by omega)) ?_;exact zaK.next hlt (fin _ _)
  ·refine zm (zd hd (zd hgx hw)) ?_;refine zeM (by omega) hbl ?_;refine zm (wkc k (by omega)) ?_;exact zaK.next hlt (fin _ _)
 ·have hd:decide ((k:Int)<(l.length:Int))=false:=by simp;omega
  rw[List.take_of_length_le (by omega)]at hy;rcases hy with rfl|⟨t,rfl⟩
  ·refine zm hd ?_;refine zu hl ?_;exact hK
  ·refine zm hd ?_;refine zu hl ?_;exact hK
theorem zwR {b:List UInt8}{l:List zI}(hb:b.length<=268435456)(hc:∀e∈zco l,e=0){K:KT}(hK:K (.d (.slice (bcs (b++zvv l)))) σ) :
  zP ziG [.d (.slice (bcs b)),.d (.slice (zat l))] σ K:=by
 refine zec zxM fun hl=>?_;obtain⟨h13,hs⟩:=zzD hc;have hll:(zat l).length=l.length:=List.length_map ..;have n1:=zj (n:=l.length) (by omega);simp only[zqw,iN,bT,bF,eN];refine zm hll ?_;refine zeS (l:=[(l.length:Int)]) (by omega) (by simp) (by simp;omega) ?_;rw[show zS [(l.length:Int)]=zbx l.length by simp[zS]];refine zm hll ?_;refine zn l.length (fun k vs s=>vs=[.d (.slice (bcs (b++(zbx l.length++((l.take k).map fun s=>zgp s.key s.dig).flatten)))),.d (.int .i64 k)]/\s=σ) ⟨by simp,rfl⟩ ?_;rintro k vs s hk ⟨rfl,rfl⟩;by_cases hlt:k<l.length
 ·have hd:decide ((k:Int)<(l.length:Int))=true:=by simp;omega
  have hx:l[k]? = some l[k]:=by simp[hlt]
  have hxi:=hs _ (List.getElem_mem hlt);have hgx:=zQ (f:=zgo) hx;obtain⟨x,hxe⟩:∃x,l[k]=x:=⟨_,rfl⟩;rw[hxe]at hx hgx hxi;have hlen:(((l.take k).map fun s=>zgp s.key s.dig).flatten).length<=(l.take k).length*20:=zcA fun s hm=>zgw (hs s (List.mem_of_mem_take hm));have hlk:(l.take k).length=k:=by rw[List.length_take];omega
  have hsb:zcw x.key x.dig=zgp x.key x.dig:=by simp[zcw,hxi]
  refine zdy (zd hd (zd hgx hll)) ?_;refine ziy (by simp only[List.length_append];omega) ?_;rw[hsb];refine zm (wkc k (by omega)) ?_;exact zaK.next hlt ⟨by rw[zcZ hx];try simp,rfl⟩
 ·have hd:decide ((k:Int)<(l.length:Int))=false:=by simp;omega
  rw[List.take_of_length_le (by omega)];refine zm (zd hd hll) ?_;refine zu hl ?_;exact hK
theorem ztE {b:List UInt8}{c:zjs}(hb:b.length<=134217728)(hc:∀e∈zbz c,e=0){K:KT}(hK:K (.d (.slice (bcs (b++zrt c)))) σ) :
  zP zhv [.d (.slice (bcs b)),zhJ c] σ K:=by
 refine zec zAj fun hl=>?_;obtain⟨h1,h2,h3⟩:=cert_ok hc;have n1:=zj (n:=c.seq.toNat) (by omega);have n2:=zj (n:=c.dig.toNat) (by omega);simp only[zsA,iN,bT,bF,eN];refine zG ?_;refine zeS (l:=[c.seq,c.dig]) (by omega) (by simp) (by simp;omega) ?_;refine zG ?_;refine zwR (by simp[zS];omega) h3 ?_;refine zG ?_;refine zu hl ?_;have fin:∀x,x=b++zrt c->K (dmT (zcm [.d (.slice (bcs x))])) σ:=by rintro _ rfl;exact hK
 exact fin _ (by simp[zrt,zS])
theorem zyT {b:List UInt8}{c:zbl}(hb:b.length<=67108864)(hc:∀e∈zej c,e=0){K:KT}(hK:K (.d (.slice (bcs (b++zuM c)))) σ) :
  zP zjP [.d (.slice (bcs b)),.agg (zbM c)] σ K:=by
 refine zec zAk fun hl=>?_;have hpl:(zft c.above).length=c.above.length:=List.length_map ..;obtain⟨h1,h2,h3,h4,h5⟩:=body_ok hc;have n1:=zj (n:=c.view.toNat) (by omega);have n2:=zj (n:=c.src.toNat) (by omega);have n3:=zj (n:=c.above.length) (by omega);have n4:=zhI h3;simp only[zsB,iN,bT,bF,eN,zl7];refine zG ?_;refine zeS (l:=[c.view,c.src]) (by omega) (by simp) (by simp;omega) ?_;refine zG ?_;refine ztE (c:=c.cert) (by simp[zS];omega) h3 ?_;refine zm hpl ?_;refine zeS (l:=[(c.above.length:Int)]) (by simp[zS];omega) (by simp) (by simp;omega) ?_;rw[show zS [(c.above.length:Int)]=zbx c.above.length by simp[zS]];obtain⟨Q,hQ⟩:∃Q,b++(zS [c.view,c.src]++zrt c.cert)++zbx c.above.length=Q:=⟨_,rfl⟩;have hQl:Q.length<=67108864+400:=by rw[← hQ];simp[zS];omega
 rw[hQ];refine zm hpl ?_;refine zn c.above.length (fun k vs s=>vs=[.d (.slice (bcs (Q++((c.above.take k).map zuy).flatten))),.d (.int .i64 k)]/\∃T,s=σ++[.box (zbM c)]++T) ⟨by simp,[],by simp⟩ ?_;rintro k vs s hk ⟨rfl,T,rfl⟩;by_cases hlt:k<c.above.length
 ·have hd:decide ((k:Int)<(c.above.length:Int))=true:=by simp;omega
  have hx:c.above[k]? = some c.above[k]:=by simp[hlt]
  have hpx:=h5 _ (List.getElem_mem hlt);have hgx:=zQ (f:=zfx) hx;obtain⟨p,hp⟩:∃p,c.above[k]=p:=⟨_,rfl⟩;rw[hp]at hx hgx hpx;have hlen:(((c.above.take k).map zuy).flatten).length<=(c.above.take k).length*4400:=zcA fun s hm=>zvB (h5 s (List.mem_of_mem_take hm));have hlk:(c.above.take k).length=k:=by rw[List.length_take];omega
  obtain⟨R,hR⟩:∃R,Q++((c.above.take k).map zuy).flatten=R:=⟨_,rfl⟩;have hRl:R.length<=67108864+36000:=by rw[← hR,List.length_append];omega
  rw[hR];obtain⟨p1,p2,p3,p4,p5,p6⟩:=prep_ok hpx;have m1:=zj (n:=p.view.toNat) (by omega);have m2:=zj (n:=p.seq.toNat) (by omega);have m3:=zj (n:=p.dig.toNat) (by omega);have m4:=zgw p4;have m5:=zpp p5;have hsb:zcw p.fkey p.fdig=zgp p.fkey p.fdig:=by simp[zcw,p4]
  have hbb:zdJ p.batch=zhi p.batch:=by simp[zdJ,p6]
  have hbx:∀τ,(σ++[AObj.box (zbM c)]++T++τ)[σ.length]? = some (.box (zbM c)):=fun τ=>zi (zi (by rw[zC];rfl));have hbx0:=hbx [];rw[List.append_nil]at hbx0;have fin:∀τ,∃T',σ++[AObj.box (zbM c)]++T++τ=σ++AObj.box (zbM c)::T':=fun τ=>⟨T++τ,by simp⟩;obtain⟨S,hS⟩:∃S,σ++[AObj.box (zbM c)]++T=S:=⟨_,rfl⟩;rw[hS]at hbx hbx0 fin ⊢;refine zdy (zd hd (zd hgx (zd hpl (zd hbx hbx0)))) ?_;refine zeS (l:=[p.view,p.seq,p.dig]) (by omega) (by simp) (by simp;omega) ?_;refine zG ?_;refine ziy (by simp[zS];omega) ?_;rw[hsb];refine zG ?_;refine zwR (by simp[zS];omega) p5 ?_;refine zG ?_;refine zns (by simp[zS];omega) (fun x hx=>Nat.le_trans ((zdI p6).1 x hx) (by omega)) (by have:=(zjT p6).1;omega) ?_;rw[hbb];refine zm (wkc k (by omega)) ?_;refine zaK.next hlt ⟨?_,fin _⟩;rw[zcZ hx,← hR];simp[zuy,zS]
 ·have hd:decide ((k:Int)<(c.above.length:Int))=false:=by simp;omega
  have hbx0:(σ++[AObj.box (zbM c)]++T)[σ.length]? = some (.box (zbM c)):=zi (by rw[zC];rfl);rw[show c.above.take k=c.above from List.take_of_length_le (by omega)];obtain⟨S,hS⟩:∃S,[AObj.box (zbM c)]++T=S:=⟨_,rfl⟩;rw[List.append_assoc,hS]at hbx0 ⊢;refine zm (zd hd (zd hpl hbx0)) ?_;refine zu hl ?_;rw[← hQ];have fin:∀x,x=b++zuM c->K (dmT (zcm [.d (.slice (bcs x))])) σ:=by rintro _ rfl;exact hK
  exact fin _ (by simp[zuM,zS])
theorem c_kPutChange {b:List UInt8}{c:zbl}(hb:b.length<=67108864)(hc:∀e∈zaT c,e=0){K:KT}(hK:K (.d (.slice (bcs (b++zfQ c)))) σ) :
  zP zkk [.d (.slice (bcs b)),.agg (zbM c)] σ K:=by
 refine zec zwr fun hl=>?_;obtain⟨h1,h2⟩:=ziU hc;have n1:=zsu h1;have hsb:zcw c.key c.dig=zgp c.key c.dig:=by simp[zcw,h2]
 simp only[zoZ,iN,bT,bF,eN];refine zG ?_;refine zyT (c:=c) hb h1 ?_;refine zG ?_;refine ziy (by simp only[List.length_append];omega) ?_;rw[hsb];refine zG ?_;refine zu hl ?_;have fin:∀x,x=b++zfQ c->K (dmT (zcm [.d (.slice (bcs x))])) σ:=by rintro _ rfl;exact hK
 exact fin _ (by simp[zfQ,zS])
variable {σ:List AObj}
theorem gq38 {A P Q:Prop}(a:A)(h:Q)(e:A->Hd Q->P:=by intro a h;(repeat' first|simp -dsimp only[↓zmg,↓zcf,↓zep,↓zmh,↓zmb,↓zlZ,↓zmc,↓zma,↓zeu,↓zeq,↓zev,↓zer,↓zmd,↓zeo,↓zew,↓zes,↓zex,↓zet,↓zlY,↓zmf,↓zen,↓zey,↓zlW,↓zlV,↓zlX,iN,bT,bF,eN,↓zeO,↓unC,↓zaE,↓zan,↓zao,↓zaA,↓zbf,↓zah,↓zgR,↓zaz,↓zbe,↓zae,↓ze,↓zl,↓zbc,↓zc,↓zaY,↓zM,↓zce,↓zcB,↓zf,↓zF,↓zr,↓zN,↓zaC,↓zgY,↓zhU,↓zbi,↓zbJ,↓zcj,↓zcM,↓zdG,↓zL,↓zbh,↓zap,↓zR,↓zbb,zhS,zdY,zdS,unA,zgE,bnd,zjr,zaP,zK,ziD,dm,dm1,zH,zaI,zkw,zkv,keepO,Q0,Q1,Q2,Q3,Q4,Q5,zbg,zA,zC,zZ,zad,Q6,Q7,Q8,Q9,Q10,Q11,Q12,Q13,Q14,Nat.reduceAdd,Q15,Int.reduceToNat,Q16,Q17,Q18,Q19,Q20,reduceIte,Q21,Q22,zy,rep,zaq,zil,toD,zaD,Q23,Q24,Q25,Q26,Q27,Q28,Nat.reduceLeDiff,Q29,Nat.reduceSub,Q30,Q31,Q32,sc,Q33,Q34,Q35,Q36,Q37,Q26,Q38,Q39,zvP,zvM,zvJ,zvQ,zkt,zvN,zvK,zvO,zvL,zks,zku,zwb,zwc,Bool.not_true,Bool.not_false,List.length_map,Bool.and_false,Bool.and_self,Bool.false_and,Bool.not_false,Bool.not_true,Bool.true_and,Int.toNat_natCast,Int.toNat_zero,List.drop_zero,List.length_map,List.length_nil,List.nil_append,List.take_length,Nat.sub_zero,Nat.zero_add,Option.isSome_none,Option.isSome_some,Option.map_none,Option.map_some,zaj,beq_self_eq_true,bne_self_eq_false,a]|with_reducible refine zxa ?_|fail);exact h.go):P:=e a ⟨h⟩
theorem c_raSigned {id id2:Nat}{L:List (List UInt8)}{G:List zI}{s:zI}{key:Int}{b:List UInt8}(hT:σ[id]? = some (rtO L))(hG:σ[id2]? = some (rlO G))(hl0:L.length<=1048576)(hg:G.length<=1073741824){K:KT}
  (hK:K (.d (.bool (zim L G s key b))) σ):zP zos [.box id 0,.box id2 0,.agg [.d (.int .i64 s.key),.d (.int .i64 s.dig)],.d (.int .i64 key),.d (.slice (bcs b))] σ K:=by
 refine acE5 e_r11_signed fun hl=>?_;simp only[zul,iN,bT,bF,eN];refine zG ?_;refine c_rtLook (zi hT) hl0 ?_;have fin:∀z,zim L G s key b=z->K (.d (.bool z)) σ:=fun z h=>h▸hK;clear hK;cases hlk:zhE L b with
 | none=>
  refine gq28 ?_
  refine zu hl ?_
  exact fin _ (by simp[zim,hlk])
 | some i=>
  simp only[zor]
  cases h1:(s.key==key)
  ·refine gq38 h1 ?_
   refine zu hl ?_
   exact fin _ (by simp at h1;simp[zim,hlk,h1])
  ·cases h2:(s.dig==((i+1:Nat):Int))
   ·refine gq38 (zd h1 h2) ?_
    refine zu hl ?_
    exact fin _ (by simp at h1 h2;simp[zim,hlk,h1];omega)
   ·refine gq38 (zd h1 h2) ?_
    refine zyS (s:=s) (zi hG) hg ?_
    refine zG ?_
    refine zu hl ?_
    exact fin _ (by simp at h1 h2;simp[zim,hlk,h1,h2])
variable {σ:List AObj}
theorem zwQ {k:Int}{K:KT}(hK:K (.d (.bool (zeQ k))) σ):zP zot [.d (.int .i64 k)] σ K:=by
 refine zez e_r10_signed fun hl=>?_;have fin:∀z,zeQ k=z->K (.d (.bool z)) σ:=fun z h=>h▸hK;clear hK;simp only[zum,iN,bT,bF,eN];cases h1:decide (k≥2)
 ·refine zm h1 ?_;refine zu hl ?_;exact fin _ (by simp at h1;simp[zeQ];omega)
 cases h2:decide (k<=9)
 ·refine zm (zd h1 h2) ?_;refine zu hl ?_;exact fin _ (by simp at h2;simp[zeQ];omega)
 refine zm (zd h1 h2) ?_;refine zu hl ?_;refine fin _ ?_;simp at h1 h2;rw[Bool.eq_iff_iff];simp[zeQ,h1,h2]
theorem zAy {b:List UInt8}{K:KT}(hK:K (.tup [.d (.slice (bcs (if b.length>262144 then []else b))),.d (.int .i64 (if b.length>262144 then 3 else 0))]) σ) :
  zP zqS [.d (.slice (bcs b)),.d (.int .i64 0)] σ K:=by
 refine zec e_r10_short fun hl=>?_;simp only[zxi,iN,bT,bF,eN];by_cases h:b.length>262144
 ·have hd:decide ((b.length:Int)>262144)=true:=by simp;omega
  rw[if_pos h,if_pos h]at hK;refine zm hd ?_;refine zu hl ?_;exact hK
 ·have hd:decide ((b.length:Int)>262144)=false:=by simp;omega
  rw[if_neg h,if_neg h]at hK;refine zm hd ?_;refine zu hl ?_;exact hK
theorem c_kBody7 {m:zbD}{c:zbl}(hk:m.kind=7)(hch:m.changes=[c])(hc:∀e∈zej c,e=0){K:KT}(hK:K (.tup [.d (.slice (bcs (unsB m))),.d (.bool true)]) σ) :
  zP zka [zge m] σ K:=by
 refine zez ztt fun hl=>?_;have hgx:(zam m.changes)[0]? = some (zag c):=by rw[hch];rfl
 have hgl:(zam m.changes).length=1:=by rw[hch];rfl
 have n1:=zj (n:=m.kind.toNat) (by omega);simp only[zpN,iN,bT,bF,eN];refine zG ?_;refine zeS (b:=[]) (l:=[m.kind]) (by simp) (by simp) (by simp;omega) ?_;refine zdy (zd (kk7 hk) (zd hgx hgl)) ?_;refine zyT (c:=c) (b:=[]++zS [m.kind]) (by simp[zS];omega) hc ?_;refine zG ?_;refine zu hl ?_;have fin:∀x,x=unsB m->K (dmT (zcm [.d (.slice (bcs x)),.d (.bool true)])) σ:=by rintro _ rfl;exact hK
 exact fin _ (by simp[unsB,hk,hch,zS])
theorem c_kBody8 {m:zbD}(hk:m.kind=8)(hc:∀e∈zfD m,e=0){K:KT}(hK:K (.tup [.d (.slice (bcs (unsB m))),.d (.bool true)]) σ) :
  zP zka [zge m] σ K:=by
 refine zez ztt fun hl=>?_;have hcl:(zam m.changes).length=m.changes.length:=List.length_map ..;have hel:(zbq m.entries).length=m.entries.length:=List.length_map ..;obtain⟨h1,h2,h3,h4,h5,h6⟩:=newv_ok hc;have n0:=zj (n:=m.kind.toNat) (by omega);have n1:=zj (n:=m.src.toNat) (by omega);have n2:=zj (n:=m.view.toNat) (by omega);have n3:=zj (n:=m.changes.length) (by omega);have n4:=zj (n:=m.entries.length) (by omega);simp only[zpN,iN,bT,bF,eN];refine zG ?_;refine zeS (b:=[]) (l:=[m.kind]) (by simp) (by simp) (by simp;omega) ?_;refine zm (zd (kk8 hk) hcl) ?_;refine zeS (l:=[m.src,m.view,(m.changes.length:Int)]) (b:=[]++zS [m.kind]) (by simp[zS];omega) (by simp) (by simp;omega) ?_;obtain⟨Q,hQ⟩:∃Q,[]++zS [m.kind]++zS [m.src,m.view,(m.changes.length:Int)]=Q:=⟨_,rfl⟩;have hQl:Q.length<=1000:=by rw[← hQ];simp[zS];omega
 rw[hQ];refine zm hcl ?_;refine zn m.changes.length (fun k vs s=>vs=[.d (.slice (bcs (Q++((m.changes.take k).map zfQ).flatten))),.d (.int .i64 k)]/\s=σ++[zlb m]) ⟨by simp,rfl⟩ ?_;rintro k vs s hk0 ⟨rfl,rfl⟩;have hlenC:(((m.changes.take k).map zfQ).flatten).length<=13*36020:=by
  have:=zcA (f:=zfQ) (n:=36020) (l:=m.changes.take k) fun s hm=>zrs (h4 s (List.mem_of_mem_take hm));have hlk:(m.changes.take k).length<=13:=by rw[List.length_take];omega
  have:(m.changes.take k).length*36020<=13*36020:=Nat.mul_le_mul_right _ hlk;omega
 by_cases hlt:k<m.changes.length
 ·have hd:decide ((k:Int)<(m.changes.length:Int))=true:=by simp;omega
  have hx:m.changes[k]? = some m.changes[k]:=by simp[hlt]
  have hpx:=h4 _ (List.getElem_mem hlt);have hgx:=zQ (f:=zag) hx;obtain⟨p,hp⟩:∃p,m.changes[k]=p:=⟨_,rfl⟩;rw[hp]at hx hgx hpx;refine zdy (zd hd (zd hgx hcl)) ?_;refine c_kPutChange (c:=p) (by simp only[List.length_append];omega) hpx ?_;refine zm (wkc k (by omega)) ?_;exact zaK.next hlt ⟨by rw[zcZ hx];try simp,rfl⟩
 have hd:decide ((k:Int)<(m.changes.length:Int))=false:=by simp;omega
 rw[show m.changes.take k=m.changes from List.take_of_length_le (by omega)]at hlenC ⊢;refine zm (zd hd (zd hcl hel)) ?_;refine zeS (l:=[(m.entries.length:Int)]) (by simp only[List.length_append];omega) (by simp) (by simp;omega) ?_;obtain⟨R,hR⟩:∃R,Q++(m.changes.map zfQ).flatten++zS [(m.entries.length:Int)]=R:=⟨_,rfl⟩;have hRl:R.length<=1000000:=by rw[← hR];simp only[zS,List.map_cons,List.map_nil,List.flatten_cons,List.flatten_nil,List.append_nil,List.length_append,Int.toNat_natCast];omega
 rw[hR];refine zm hel ?_;refine zn m.entries.length (fun k vs s=>vs=[.d (.slice (bcs (R++((m.entries.take k).map znB).flatten))),.d (.int .i64 k)]/\∃T,s=σ++zlb m::T) ⟨by simp,[],rfl⟩ ?_;rintro k vs s hk1 ⟨rfl,T,rfl⟩;by_cases hlt:k<m.entries.length
 ·have hd:decide ((k:Int)<(m.entries.length:Int))=true:=by simp;omega
  have hx:m.entries[k]? = some m.entries[k]:=by simp[hlt]
  have hpx:=h6 _ (List.getElem_mem hlt);have hgx:=zQ (f:=zdg) hx;obtain⟨p,hp⟩:∃p,m.entries[k]=p:=⟨_,rfl⟩;rw[hp]at hx hgx hpx;have hlen:(((m.entries.take k).map znB).flatten).length<=(m.entries.take k).length*4040:=zcA fun s hm=>ztp (h6 s (List.mem_of_mem_take hm));have hlk:(m.entries.take k).length=k:=by rw[List.length_take];omega
  obtain⟨X,hX⟩:∃X,R++((m.entries.take k).map znB).flatten=X:=⟨_,rfl⟩;have hXl:X.length<=2000000:=by rw[← hX,List.length_append];omega
  rw[hX];obtain⟨p1,p2,p3,p4⟩:=zAg hpx;have m1:=zj (n:=p.view.toNat) (by omega);have m2:=zj (n:=p.seq.toNat) (by omega);have m3:=(zdI p3).2;have hsb:zcw p.key p.dig=zgp p.key p.dig:=by simp[zcw,p4]
  have hbb:zdJ p.batch=zhi p.batch:=by simp[zdJ,p3]
  have hbx0:(σ++zlb m::T)[σ.length]? = some (zlb m):=by rw[zC];rfl
  have hbx:∀τ,(σ++zlb m::T++τ)[σ.length]? = some (zlb m):=fun τ=>zi hbx0;have fin:∀τ,∃T',σ++zlb m::T++τ=σ++zlb m::T':=fun τ=>⟨T++τ,by simp⟩;obtain⟨S,hS⟩:∃S,σ++zlb m::T=S:=⟨_,rfl⟩;rw[hS]at hbx hbx0 fin ⊢;refine zdy (zd hd (zd hgx (zd hel (zd hbx hbx0)))) ?_;refine zeS (l:=[p.view,p.seq]) (by omega) (by simp) (by simp;omega) ?_;refine zG ?_;refine zns (by simp[zS];omega) (fun x hx=>Nat.le_trans ((zdI p3).1 x hx) (by omega)) (by have:=(zjT p3).1;omega) ?_;rw[hbb];refine zG ?_;refine ziy (by simp[zS];omega) ?_;rw[hsb];refine zm (wkc k (by omega)) ?_;refine zaK.next hlt ⟨?_,fin _⟩;rw[zcZ hx,← hX];simp[znB,zS]
 ·have hd:decide ((k:Int)<(m.entries.length:Int))=false:=by simp;omega
  have hbx0:(σ++zlb m::T)[σ.length]? = some (zlb m):=by rw[zC];rfl
  rw[show m.entries.take k=m.entries from List.take_of_length_le (by omega)];obtain⟨S,hS⟩:∃S,zlb m::T=S:=⟨_,rfl⟩;rw[hS]at hbx0 ⊢;refine zm (zd hd (zd hel hbx0)) ?_;refine zu hl ?_;have fin:∀x,x=unsB m->K (dmT (zcm [.d (.slice (bcs x)),.d (.bool true)])) σ:=by rintro _ rfl;exact hK
  exact fin _ (by rw[← hR,← hQ];simp[unsB,hk,newvB,zS])
end Go.Proofs.YtdgcepphjnoalaaGreat
