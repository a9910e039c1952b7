/- Certificates: whether they are valid. No program in sight. -/
import Derived.Test.YtdgcepphjnoalaaGreatSpTab
import Derived.Test.YtdgcepphjnoalaaGreatId3
import Derived.Test.YtdgcepphjnoalaaGreatRc2
import Derived.Test.YtdgcepphjnoalaaGreatSh
import Derived.Test.YtdgcepphjnoalaaGreatAwLoop
import Derived.Test.YtdgcepphjnoalaaGreatOpC
import Derived.Test.YtdgcepphjnoalaaGreatCk4
import Derived.Test.YtdgcepphjnoalaaGreatSpNum
import Derived.Test.YtdgcepphjnoalaaGreatAwKeepX
set_option linter.all false
namespace Go.Proofs.YtdgcepphjnoalaaGreat
open Go.AW
abbrev prepA (p:zjU):AV:=.agg [.d (.int .i64 p.view),.d (.int .i64 p.seq),.d (.int .i64 p.dig),.d (.int .i64 p.fkey),.d (.int .i64 p.fdig),.d (.slice (zat p.signs)),.d (.slice (zbA p.batch))]
variable {σ:List AObj}
structure TGi where
 id:Nat
 m:Nat
 t:Nat
 id2:Nat
 m2:Nat
 t2:Nat
structure TG (i:TGi) (σ:List AObj) (L:List (List UInt8)) (G:List zI):Prop where
 tab:zgK σ i.id i.m i.t L
 led:zfj σ i.id2 i.m2 i.t2 G
 n1:i.id≠i.id2
 n2:i.m≠i.m2
def zhk (i:TGi) (σ:List AObj) (L:List (List UInt8)) (G:List zI):List AObj:=putLed (putTab σ i.id i.m i.t L) i.id2 i.m2 i.t2 G
theorem TG.app {i:TGi}{L:List (List UInt8)}{G:List zI}(h:TG i σ L G)(τ:List AObj):TG i (σ++τ) L G:=⟨h.tab.app τ,h.led.app τ,h.n1,h.n2⟩
theorem TG.put {i:TGi}{L:List (List UInt8)}{G:List zI}(h:TG i σ L G)(L':List (List UInt8))(G':List zI):TG i (zhk i σ L' G') L' G':=
 ⟨(h.tab.put L').putLed (zfj.putTab h.tab h.led h.n1 h.n2 L') h.n1 h.n2 G',(zfj.putTab h.tab h.led h.n1 h.n2 L').put G',h.n1,h.n2⟩
theorem TG.put_app {i:TGi}{L:List (List UInt8)}{G:List zI}(h:TG i σ L G)(L':List (List UInt8))(G':List zI)(τ:List AObj):zhk i (σ++τ) L' G'=zhk i σ L' G'++τ:=by
 unfold zhk;rw[zsR h.tab,zsS (zfj.putTab h.tab h.led h.n1 h.n2 L')]
theorem zke (i:TGi)(σ:List AObj)(L:List (List UInt8))(G:List zI):(zhk i σ L G).length=σ.length:=by simp[zhk,putTab,putLed]
theorem TG.self {i:TGi}{L:List (List UInt8)}{G:List zI}(h:TG i σ L G):zhk i σ L G=σ:=by
 unfold zhk;rw[h.tab.self,h.led.self]
theorem TG.lows {i:TGi}{L:List (List UInt8)}{G:List zI}(h:TG i σ L G)(hl:zhl σ.length σ)(L':List (List UInt8))(G':List zI):zhl σ.length (zhk i σ L' G'):=by
 have h1:=h.tab.lows hl L';have h2:=(zfj.putTab h.tab h.led h.n1 h.n2 L').lows (by rw[zpt];exact h1) G';rw[zpt]at h2;exact h2
theorem put_tab_led {i:TGi}{L L':List (List UInt8)}{G:List zI}(h:TG i σ L G):putTab σ i.id i.m i.t L'=zhk i σ L' G:=by
 unfold zhk;rw[(zfj.putTab h.tab h.led h.n1 h.n2 L').self]
theorem put_led_tab {i:TGi}{L:List (List UInt8)}{G G':List zI}(h:TG i σ L G):putLed σ i.id2 i.m2 i.t2 G'=zhk i σ L G':=by
 unfold zhk;rw[h.tab.self]
theorem TG.ne {i:TGi}{L:List (List UInt8)}{G:List zI}(h:TG i σ L G):[i.id,i.m,i.t,i.id2,i.m2,i.t2].Nodup:=by
 obtain⟨a1,a2,a3⟩:=h.tab.ne;obtain⟨b1,b2,b3⟩:=h.led.ne;obtain⟨⟨c1,c2⟩,⟨d1,d2⟩,⟨e1,e2,e3⟩⟩:=apart2 h.tab h.led h.n1 h.n2;have:=h.n1;have:=h.n2;simp;exact⟨⟨a1,a2,‹_›,c1,c2⟩,⟨a3,d1,‹_›,d2⟩,⟨e1,e2,e3⟩,⟨b1,b2⟩,b3⟩
theorem TG.other {i:TGi}{k:Nat}(hk:k≠i.id/\k≠i.m/\k≠i.t/\k≠i.id2/\k≠i.m2/\k≠i.t2)(L:List (List UInt8))(G:List zI):(zhk i σ L G)[k]? = σ[k]?:=by
 obtain⟨h1,h2,h3,h4,h5,h6⟩:=hk;unfold zhk putTab putLed;rw[List.getElem?_set_ne (Ne.symm h4),List.getElem?_set_ne (Ne.symm h6),List.getElem?_set_ne (Ne.symm h5),List.getElem?_set_ne (Ne.symm h2),List.getElem?_set_ne (Ne.symm h1),List.getElem?_set_ne (Ne.symm h3)]
theorem TG.put_put {i:TGi}{L:List (List UInt8)}{G:List zI}(h:TG i σ L G)(L1 L2:List (List UInt8))(G1 G2:List zI):zhk i (zhk i σ L1 G1) L2 G2=zhk i σ L2 G2:=by
 have h1:=(h.put L1 G1).put L2 G2;have h2:=h.put L2 G2;apply List.ext_getElem?;intro k;by_cases e1:k=i.id
 ·subst e1;rw[h1.tab.box,h2.tab.box]
 by_cases e2:k=i.m
 ·subst e2;rw[h1.tab.map,h2.tab.map]
 by_cases e3:k=i.t
 ·subst e3;rw[h1.tab.tok,h2.tab.tok]
 by_cases e4:k=i.id2
 ·subst e4;rw[h1.led.box,h2.led.box]
 by_cases e5:k=i.m2
 ·subst e5;rw[h1.led.map,h2.led.map]
 by_cases e6:k=i.t2
 ·subst e6;rw[h1.led.tok,h2.led.tok]
 rw[TG.other ⟨e1,e2,e3,e4,e5,e6⟩,TG.other ⟨e1,e2,e3,e4,e5,e6⟩,TG.other ⟨e1,e2,e3,e4,e5,e6⟩]
structure LoopR where
 e:Int
 L:List (List UInt8)
 G:List zI
 out:List zhO
structure zya where
 m:zbD
 e:Int
 L:List (List UInt8)
 G:List zI
variable {σ:List AObj}
theorem c_auSign {i:TGi}{L:List (List UInt8)}{G:List zI}{key:Int}{b:List UInt8}(h:TG i σ L G)(hL:zmF L)(hbl:b.length<=1073741824)(hg:G.length<=1073741824){K:KT}
  (hK:K (.tup [zuw (sgnS L key b),.d (.int .i64 (zxA L key b))]) (zhk i σ (zfX L b) (zqe L G key b))) :
  zP zqX [.box i.id 0,.box i.id2 0,.d (.int .i64 key),.d (.slice (bcs b))] σ K:=by
 refine acE4 e_auth_sign fun hl=>?_;simp only[zxu,iN,bT,bF,eN];refine zG ?_;refine c_tSum (h.tab.app _) hbl hL.len ?_;rw[zsR h.tab,put_tab_led h];have h1:=h.put (zfX L b) G;have hl1:=h.lows hl (zfX L b) G;have hs1:=zke i σ (zfX L b) G;have hpp:=h.put_put (zfX L b) (zfX L b) G (zqe L G key b);obtain⟨S1,hS1⟩:∃S,zhk i σ (zfX L b) G=S:=⟨_,rfl⟩;rw[hS1]at h1 hl1 hs1 hpp ⊢;have r1:σ.length=S1.length:=hs1.symm;rw[r1]at hl1;by_cases hz:zhT L b=0
 ·have hq:(zhT L b==0)=true:=by simpa using hz
  simp only[zxA,sgnS,zqe,if_pos hz,zuw,hS1]at hK;refine zm (zd hq r1) ?_;refine zfa rfl ?_ hl1 hK;simp[zha,dmT,dm,dm1,zcm,zbw,zfs]
 ·have hq:(zhT L b==0)=false:=by simpa using hz
  rw[← hpp]at hK;simp only[zxA,sgnS,zqe,if_neg hz]at hK;refine zm (zd hq r1) ?_;refine c_gSign (h1.led.app _) hg ?_;rw[zsS h1.led,put_led_tab h1];have h2:=h1.put (zfX L b) (zhn G key (zhT L b));have hl2:=h1.lows hl1 (zfX L b) (zhn G key (zhT L b));have hs2:=zke i S1 (zfX L b) (zhn G key (zhT L b));obtain⟨S2,hS2⟩:∃S,zhk i S1 (zfX L b) (zhn G key (zhT L b))=S:=⟨_,rfl⟩;rw[hS2]at hK hs2 hl2 h2 ⊢;have r3:S1.length=S2.length:=hs2.symm;have r2:σ.length=S2.length:=r1.trans r3;rw[r3]at hl2;simp only[zuw]at hK ⊢;refine zm (zd r2 r3) ?_;refine zfa rfl ?_ hl2 hK;simp[zha,dmT,dm,dm1,zcm,zbw,zfs]
theorem sgnG_len (L:List (List UInt8))(G:List zI)(key:Int)(b:List UInt8):(zqe L G key b).length<=G.length+1:=by
 unfold zqe zhn zzE;split
 ·omega
 ·split
  ·split
   ·omega
   ·simp
  ·omega
variable {σ:List AObj}
theorem gqc4 {A B:Prop}(a:A)(b:B):A/\B:=⟨a,b⟩
theorem gq33 {A P Q:Prop}(a:A)(h:Q)(e:A->P=Q:=by intro a;simp -dsimp only[↓zmg,↓zcf,↓zep,↓zmh,↓zmb,↓zlZ,↓zmc,↓zma,↓zeu,↓zeq,↓zev,↓zer,↓zmd,↓zeo,↓zew,↓zes,↓zex,↓zet,↓zlY,↓zmf,↓zen,↓zey,↓zlW,↓zlV,↓zlX,iN,bT,bF,eN,↓zeO,↓unC,↓zaE,↓zan,↓zao,↓zaA,↓zbf,↓zah,↓zgR,↓zaz,↓zbe,↓zae,↓ze,↓zl,↓zbc,↓zc,↓zaY,↓zM,↓zce,↓zcB,↓zf,↓zF,↓zr,↓zN,↓zaC,↓zgY,↓zhU,↓zbi,↓zbJ,↓zcj,↓zcM,↓zdG,↓zL,↓zbh,↓zap,↓zR,↓zbb,zhS,zdY,zdS,unA,zgE,bnd,zjr,zaP,zK,ziD,dm,dm1,zH,zaI,zkw,zkv,keepO,Q0,Q1,Q2,Q3,Q4,Q5,zbg,zA,zC,zZ,zad,Q6,Q7,Q8,Q9,Q10,Q11,Q12,Q13,Q14,Nat.reduceAdd,Q15,Int.reduceToNat,Q16,Q17,Q18,Q19,Q20,reduceIte,Q21,Q22,zy,rep,zaq,zil,toD,zaD,Q23,Q24,Q25,Q26,Q27,Q28,Nat.reduceLeDiff,Q29,Nat.reduceSub,Q30,Q31,Q32,sc,Q33,Q34,Q35,a];rfl):P:=(e a).mpr h
theorem zwL {f:Int}{K:KT}(hK:K (.d (.int .i64 (zhg f))) σ):zP ziI [.d (.int .i64 f)] σ K:=by
 refine zez zxT fun hl=>?_;simp only[zqE,iN,bT,bF,eN];cases h1:decide (f<1)<;>cases h2:decide (f>4);all_goals
  (refine gq33 (gqc4 h1 h2) ?_;try with_reducible exact True.intro)
  refine zu hl ?_
  simp only[decide_eq_true_eq,decide_eq_false_iff_not]at h1 h2
 ·rw[zhg,if_neg (by omega)]at hK;exact hK
 all_goals(rw[zhg,if_pos (by omega)]at hK;exact hK)
theorem zso {f:Int}{K:KT}(hK:K (.d (.int .i64 (zhg f))) σ):zP zki [.d (.int .i64 f)] σ K:=by
 refine zez e_r12_Check fun hl=>?_;simp only[zxf,iN,bT,bF,eN];cases h1:decide (f<1)<;>cases h2:decide (f>4);all_goals
  (refine gq33 (gqc4 h1 h2) ?_;try with_reducible exact True.intro)
  refine zu hl ?_
  simp only[decide_eq_true_eq,decide_eq_false_iff_not]at h1 h2
 ·rw[zhg,if_neg (by omega)]at hK;exact hK
 all_goals(rw[zhg,if_pos (by omega)]at hK;exact hK)
theorem gq34 {P Q:Prop}(h:Q)(e:P=Q:=by simp -dsimp only[↓zmg,↓zcf,↓zep,↓zmh,↓zmb,↓zlZ,↓zmc,↓zma,↓zeu,↓zeq,↓zev,↓zer,↓zmd,↓zeo,↓zew,↓zes,↓zex,↓zet,↓zlY,↓zmf,↓zen,↓zey,↓zlW,↓zlV,↓zlX,iN,bT,bF,eN,↓zeO,↓unC,↓zaE,↓zan,↓zao,↓zaA,↓zbf,↓zah,↓zgR,↓zaz,↓zbe,↓zae,↓ze,↓zl,↓zbc,↓zc,↓zaY,↓zM,↓zce,↓zcB,↓zf,↓zF,↓zr,↓zN,↓zaC,↓zgY,↓zhU,↓zbi,↓zbJ,↓zcj,↓zcM,↓zdG,↓zL,↓zbh,↓zap,↓zR,↓zbb,zhS,zdY,zdS,unA,zgE,bnd,zjr,zaP,zK,ziD,dm,dm1,zH,zaI,zkw,zkv,keepO,Q0,Q1,Q2,Q3,Q4,Q5,zbg,zA,zC,zZ,zad,Q6,Q7,Q8,Q9,Q10,Q11,Q12,Q13,Q14,Nat.reduceAdd,Q15,Int.reduceToNat,Q16,Q17,Q18,Q19,Q20,reduceIte,Q21,Q22,zy,rep,zaq,zil,toD,zaD,Q23,Q24,Q25,Q26,Q27,Q28,Nat.reduceLeDiff,Q29,Nat.reduceSub,Q30,Q31,Q32,sc,Q33,Q34,Q35];rfl):P:=e.mpr h
theorem c_times {n f:Int}(hn:0<=n/\n<=3){K:KT}(hK:K (.d (.int .i64 (zgu n f))) σ):zP ziH [.d (.int .i64 n),.d (.int .i64 f)] σ K:=by
 refine zec zxR fun hl=>?_;simp only[zqC,iN,bT,bF,eN];(refine gq34 ?_;try with_reducible exact True.intro);refine zwL ?_;by_cases h:f<1∨f>4
 ·rw[zgu,if_pos h]at hK;rw[zhg,if_pos h];(refine gq33 (show((120:Int) != 0)=true from rfl) ?_;try with_reducible exact True.intro);refine zu hl ?_;exact hK
 ·rw[zgu,if_neg h]at hK;rw[zhg,if_neg h];have h1:0<=n*f:=Int.mul_nonneg hn.1 (by omega);have h2:n*f<=3*4:=Int.mul_le_mul hn.2 (by omega) (by omega) (by omega);have w1:IntKind.i64.wrap (n*f)=n*f:=zaQ (by omega) (by omega);have w2:IntKind.i64.wrap (n*f+1)=n*f+1:=zaQ (by omega) (by omega);(refine gq33 (gqc4 (show((0:Int) != 0)=false from rfl) (gqc4 w1 w2)) ?_;try with_reducible exact True.intro);refine zu hl ?_;exact hK
theorem zwM {f:Int}{K:KT}(hK:K (.d (.int .i64 (zgu 3 f))) σ):zP zjp [.d (.int .i64 f)] σ K:=by
 refine zez zuI fun hl=>?_;simp only[znN,iN,bT,bF,eN];(refine gq34 ?_;try with_reducible exact True.intro);refine c_times (by omega) ?_;(refine gq34 ?_;try with_reducible exact True.intro);refine zu hl ?_;exact hK
theorem c_rBrokers {f:Int}{K:KT}(hK:K (.d (.int .i64 (zgu 3 f))) σ):zP zna [.d (.int .i64 f)] σ K:=by
 refine zez zAi fun hl=>?_;simp only[zsz,iN,bT,bF,eN];(refine gq34 ?_;try with_reducible exact True.intro);refine zso ?_;by_cases h:f<1∨f>4
 ·rw[zgu,if_pos h]at hK;rw[zhg,if_pos h];(refine gq33 (show((120:Int) != 0)=true from rfl) ?_;try with_reducible exact True.intro);refine zu hl ?_;exact hK
 ·rw[zgu,if_neg h]at hK;rw[zhg,if_neg h];have w1:IntKind.i64.wrap (3*f)=3*f:=zaQ (by omega) (by omega);have w2:IntKind.i64.wrap (3*f+1)=3*f+1:=zaQ (by omega) (by omega);(refine gq33 (gqc4 (show((0:Int) != 0)=false from rfl) (gqc4 w1 w2)) ?_;try with_reducible exact True.intro);refine zu hl ?_;exact hK
structure smallP (p:zjU):Prop where
 ops:∀x∈p.batch,zmT x.op<=20971520
 batch:p.batch.length<=1073741824
 signs:p.signs.length<=1073741824
variable {σ:List AObj}
theorem c_clSign {l:List zI}(hn:l.length<=1073741824){K:KT}(hK:K (.d (.slice (zat l))) σ):zP zbC [.d (.slice (zat l))] σ K:=by
 refine zez zhX fun hl=>?_;have hlen:(zat l).length=l.length:=List.length_map ..;have h2:∀e∈zat l,e.length=2:=zjk (f:=zgo) (fun _=>rfl) l;simp only[zel,iN,bT,bF,eN,zaC,zgE];obtain⟨es,hes⟩:∃es,zat l=es:=⟨_,rfl⟩;rw[hes]at hlen h2 hK ⊢;cases es with
 | nil=>
  refine⟨?_,?_⟩
  ·refine zG ?_
   refine zu hl ?_
   exact hK
  ·refine zG ?_
   refine zu hl ?_
   exact hK
 | cons e es=>
  simp only[zaE,zR,zH,zK,rep,zr,zil,zaD,zN,ziD]
  refine⟨h2,by simp,by rw[hlen];simp;omega,?_⟩
  refine zu hl ?_
  exact hK
abbrev hE (l:List (Int × zjU)):List (AV × AV):=ents (l.map fun e=>(e.1,prepA e.2))
structure HeldAt (σ:List AObj) (h m:Nat) (l:List (Int × zjU)):Prop where
 box:σ[h]? = some (.box [.map m])
 map:σ[m]? = some (.map (hE l))
theorem HeldAt.app {h m:Nat}{l:List (Int × zjU)}(H:HeldAt σ h m l)(τ:List AObj):HeldAt (σ++τ) h m l:=⟨zi H.box,zi H.map⟩
variable {σ:List AObj}
theorem gq35 {P Q:Prop}(h:Q)(e:Hd Q->P:=by intro h;(repeat' first|simp -dsimp only[↓zmg,↓zcf,↓zep,↓zmh,↓zmb,↓zlZ,↓zmc,↓zma,↓zeu,↓zeq,↓zev,↓zer,↓zmd,↓zeo,↓zew,↓zes,↓zex,↓zet,↓zlY,↓zmf,↓zen,↓zey,↓zlW,↓zlV,↓zlX,iN,bT,bF,eN,↓zeO,↓unC,↓zaE,↓zan,↓zao,↓zaA,↓zbf,↓zah,↓zgR,↓zaz,↓zbe,↓zae,↓ze,↓zl,↓zbc,↓zc,↓zaY,↓zM,↓zce,↓zcB,↓zf,↓zF,↓zr,↓zN,↓zaC,↓zgY,↓zhU,↓zbi,↓zbJ,↓zcj,↓zcM,↓zdG,↓zL,↓zbh,↓zap,↓zR,↓zbb,zhS,zdY,zdS,unA,zgE,bnd,zjr,zaP,zK,ziD,dm,dm1,zH,zaI,zkw,zkv,keepO,Q0,Q1,Q2,Q3,Q4,Q5,zbg,zA,zC,zZ,zad,Q6,Q7,Q8,Q9,Q10,Q11,Q12,Q13,Q14,Nat.reduceAdd,Q15,Int.reduceToNat,Q16,Q17,Q18,Q19,Q20,reduceIte,Q21,Q22,zy,rep,zaq,zil,toD,zaD,Q23,Q24,Q25,Q26,Q27,Q28,Nat.reduceLeDiff,Q29,Nat.reduceSub,Q30,Q31,Q32,sc,Q33,Q34,Q35,Q36,Q37,Q26,Q38,Q39,zvP,zvM,zvJ,zvQ,zkt,zvN,zvK,zvO,zvL,zks,zku,zwb,zwc,Bool.not_true,Bool.not_false,List.length_map,Bool.and_false,Bool.and_self,Bool.false_and,Bool.not_false,Bool.not_true,Bool.true_and,Int.toNat_natCast,Int.toNat_zero,List.drop_zero,List.length_map,List.length_nil,List.nil_append,List.take_length,Nat.sub_zero,Nat.zero_add,Option.isSome_none,Option.isSome_some,Option.map_none,Option.map_some,zhN,zaj,beq_self_eq_true,bft,bne_self_eq_false,btf,zuA,ziD]|with_reducible refine zxa ?_|fail);exact h.go):P:=e ⟨h⟩
theorem c_clChangeM {es:List (List D)}(h8:∀e∈es,e.length=8)(hn:es.length<=1073741824){K:KT}(hK:∀g,K (.rsl σ.length g 8 0 es.length) (σ++[.row g 8 (zcG es)])) :
  zP zbZ [.d (.slice es)] σ K:=by
 refine ACall.weaken ?_;refine zbO zdh.is rfl (fun s=>List.range' σ.length (s.length-σ.length)) fun hl _=>zdh.goes ?_;have fin:∀g,zsH σ.length (fun s=>List.range' σ.length (s.length-σ.length)) (fun r s=>∃r' s',zqb [r] s [r'] s'∧K r' s') (some [.rsl σ.length g 8 0 es.length]) (σ++[.row g 8 (zcG es)]):=fun g=>
  zdn (σ':=σ) (os:=[.row g 8 (zcG es)]) rfl (by simp) hl (by intro x hx;simp only[List.mem_cons,List.not_mem_nil,or_false]at hx;subst hx;exact zms _ _) (.rsl _ _ _ _ _ (by simp)) ⟨_,_,.refl _ _,hK g⟩
 simp only[zdj,iN,bT,bF,eN,zl6];cases es with
 | nil=>
  simp only[zaC,zgE]
  refine⟨?_,?_⟩
  ·refine zG ?_
   refine znk (r:=.exact []) (by simp) hl rfl ?_
   exact⟨.rsl σ.length 0 8 0 0,σ++[.row 0 8 []],.row 0 8 rfl (by omega) (.refl _ _),hK 0⟩
  ·refine gq35 ?_
   exact fin 1
 | cons e es=>
  simp only[zaC,zgE]
  refine gq35 ?_
  exact⟨by simp at hn;omega,fin 1⟩
theorem c_clEntryM {es:List (List D)}(h8:∀e∈es,e.length=5)(hn:es.length<=1073741824){K:KT}(hK:∀g,K (.rsl σ.length g 5 0 es.length) (σ++[.row g 5 (zcG es)])) :
  zP zci [.d (.slice es)] σ K:=by
 refine ACall.weaken ?_;refine zbO zdH.is rfl (fun s=>List.range' σ.length (s.length-σ.length)) fun hl _=>zdH.goes ?_;have fin:∀g,zsH σ.length (fun s=>List.range' σ.length (s.length-σ.length)) (fun r s=>∃r' s',zqb [r] s [r'] s'∧K r' s') (some [.rsl σ.length g 5 0 es.length]) (σ++[.row g 5 (zcG es)]):=fun g=>
  zdn (σ':=σ) (os:=[.row g 5 (zcG es)]) rfl (by simp) hl (by intro x hx;simp only[List.mem_cons,List.not_mem_nil,or_false]at hx;subst hx;exact zms _ _) (.rsl _ _ _ _ _ (by simp)) ⟨_,_,.refl _ _,hK g⟩
 simp only[zdL,iN,bT,bF,eN];cases es with
 | nil=>
  simp only[zaC,zgE]
  refine⟨?_,?_⟩
  ·refine zG ?_
   refine znk (r:=.exact []) (by simp) hl rfl ?_
   exact⟨.rsl σ.length 0 5 0 0,σ++[.row 0 5 []],.row 0 5 rfl (by omega) (.refl _ _),hK 0⟩
  ·refine gq35 ?_
   exact fin 1
 | cons e es=>
  simp only[zaC,zgE]
  refine gq35 ?_
  exact⟨by simp at hn;omega,fin 1⟩
theorem c_clPrepM {es:List (List D)}(h8:∀e∈es,e.length=7)(hn:es.length<=1073741824){K:KT}(hK:∀g,K (.rsl σ.length g 7 0 es.length) (σ++[.row g 7 (zcG es)])) :
  zP zby [.d (.slice es)] σ K:=by
 refine ACall.weaken ?_;refine zbO zcN.is rfl (fun s=>List.range' σ.length (s.length-σ.length)) fun hl _=>zcN.goes ?_;have fin:∀g,zsH σ.length (fun s=>List.range' σ.length (s.length-σ.length)) (fun r s=>∃r' s',zqb [r] s [r'] s'∧K r' s') (some [.rsl σ.length g 7 0 es.length]) (σ++[.row g 7 (zcG es)]):=fun g=>
  zdn (σ':=σ) (os:=[.row g 7 (zcG es)]) rfl (by simp) hl (by intro x hx;simp only[List.mem_cons,List.not_mem_nil,or_false]at hx;subst hx;exact zms _ _) (.rsl _ _ _ _ _ (by simp)) ⟨_,_,.refl _ _,hK g⟩
 simp only[zcP,iN,bT,bF,eN,zl7];cases es with
 | nil=>
  simp only[zaC,zgE]
  refine⟨?_,?_⟩
  ·refine zG ?_
   refine znk (r:=.exact []) (by simp) hl rfl ?_
   exact⟨.rsl σ.length 0 7 0 0,σ++[.row 0 7 []],.row 0 7 rfl (by omega) (.refl _ _),hK 0⟩
  ·refine gq35 ?_
   exact fin 1
 | cons e es=>
  simp only[zaC,zgE]
  refine gq35 ?_
  exact⟨by simp at hn;omega,fin 1⟩
theorem c_clHdr {es:List (List D)}(h8:∀e∈es,e.length=5)(hn:es.length<=1073741824){K:KT}(hK:K (.d (.slice es)) σ) :
  zP zbX [.d (.slice es)] σ K:=by
 refine zez zgH fun hl=>?_;simp only[zdv,iN,bT,bF,eN,zaC,zgE];cases es with
 | nil=>
  refine⟨?_,?_⟩
  ·refine zG ?_
   refine zu hl ?_
   exact hK
  ·refine zG ?_
   refine zu hl ?_
   exact hK
 | cons e es=>
  simp only[zaE,zR,zH,zK,rep,zr,zil,zaD,zN,ziD]
  refine⟨h8,by simp,by simp at hn ⊢;omega,?_⟩
  refine zu hl ?_
  exact hK
theorem c_clDig {es:List (List D)}(h8:∀e∈es,e.length=1)(hn:es.length<=1073741824){K:KT}(hK:K (.d (.slice es)) σ) :
  zP zbY [.d (.slice es)] σ K:=by
 refine zez zgI fun hl=>?_;simp only[zdw,iN,bT,bF,eN,zaC,zgE];cases es with
 | nil=>
  refine⟨?_,?_⟩
  ·refine zG ?_
   refine zu hl ?_
   exact hK
  ·refine zG ?_
   refine zu hl ?_
   exact hK
 | cons e es=>
  simp only[zaE,zR,zH,zK,rep,zr,zil,zaD,zN,ziD]
  refine⟨h8,by simp,by simp at hn ⊢;omega,?_⟩
  refine zu hl ?_
  exact hK
theorem c_clByt {es:List (List D)}(h8:∀e∈es,e.length=1)(hn:es.length<=1073741824){K:KT}(hK:K (.d (.slice es)) σ) :
  zP zcV [.d (.slice es)] σ K:=by
 refine zez zno fun hl=>?_;simp only[zny,iN,bT,bF,eN,zaC,zgE];cases es with
 | nil=>
  refine⟨?_,?_⟩
  ·refine zG ?_
   refine zu hl ?_
   exact hK
  ·refine zG ?_
   refine zu hl ?_
   exact hK
 | cons e es=>
  simp only[zaE,zR,zH,zK,rep,zr,zil,zaD,zN,ziD]
  refine⟨h8,by simp,by simp at hn ⊢;omega,?_⟩
  refine zu hl ?_
  exact hK
theorem znt {c:zjs}(hn:c.signs.length<=1073741824){K:KT}(hK:K (zhJ c) σ):zP zdC [zhJ c] σ K:=by
 refine zez zrj fun hl=>?_;simp only[zkS,iN,bT,bF,eN,zhJ];refine zG ?_;refine c_clSign hn ?_;refine zG ?_;refine zu hl ?_;exact hK
theorem zzJ {α:Type}{l:List α}{i:Nat}{x:α}(h:l[i]? = some x):l.take i++x::l.drop (i+1)=l:=by
 obtain⟨hi,hx⟩:=List.getElem?_eq_some_iff.1 h;rw[← hx,← List.drop_eq_getElem_cons hi,List.take_append_drop]
theorem row_same8 {es:List (List D)}{sz k:Nat}{e:List D}(h:∀e∈es,e.length=sz)(he:es[k]? = some e):(zcG es).take (k*sz)++(e.map AV.d++(zcG es).drop (k*sz+sz))=zcG es:=by
 have h1:=zwg h he;rw[← h1,← List.drop_drop,List.take_append_drop,List.take_append_drop]
variable {σ:List AObj}
theorem zwJ {a b:List zI}(ha:a.length<=1073741824){K:KT}(hK:K (.d (.bool (decide (a=b)))) σ) :
  zP zhu [.d (.slice (zat a)),.d (.slice (zat b))] σ K:=by
 refine zec zwq fun hl=>?_;have fin:∀z:Bool,decide (a=b)=z->K (.d (.bool z)) σ:=fun z hz=>by rw[← hz];exact hK
 clear hK;simp only[zoY,iN,bT,bF,eN];(refine gq11 ?_;try with_reducible exact True.intro);by_cases hl2:a.length=b.length
 ·have hne:((a.length:Int) != (b.length:Int))=false:=by simp[hl2]
  (refine gq10 hne ?_;try with_reducible exact True.intro);refine zn a.length (fun k vs s=>vs=[.d (.int .i64 k)]/\s=σ/\a.take k=b.take k) ⟨rfl,rfl,by simp⟩ ?_;rintro k vs s hk ⟨rfl,rfl,htk⟩;(refine gq11 ?_;try with_reducible exact True.intro);refine zV (fun h=>?_) (fun h=>?_)
  ·have hka:k<a.length:=by simp at h;omega
   have hx:a[k]? = some a[k]:=by simp[hka]
   have hy:b[k]? = some (b[k]'(by omega)):=List.getElem?_eq_getElem _;have hgx:=zQ (f:=zgo) hx;have hgy:=zQ (f:=zgo) hy;obtain⟨x,hxe⟩:∃x,a[k]=x:=⟨_,rfl⟩;obtain⟨y,hye⟩:∃y,b[k]'(by omega)=y:=⟨_,rfl⟩;rw[hxe]at hgx hx;rw[hye]at hgy hy;have hxy:x=y↔x.key=y.key/\x.dig=y.dig:=by cases x;cases y;simp
   cases h2:(x.key==y.key&&x.dig==y.dig)
   ·(refine gq14 (zjR hgx (zjR hgy h2)) ?_;try with_reducible exact True.intro);repeat'((with_reducible refine And.intro ?_ ?_);focus(first|omega|rfl|decide))
    try(refine gq14 (zjR hgx (zjR hgy h2)) ?_;try with_reducible exact True.intro)
    refine zu hl ?_;refine fin _ (decide_eq_false (by rintro rfl;rw[hx]at hy;have:=hxy.1 (Option.some.inj hy);simp[this.1,this.2]at h2))
   ·(refine gq14 (zjR hgx (zjR hgy h2)) ?_;try with_reducible exact True.intro);repeat'((with_reducible refine And.intro ?_ ?_);focus(first|omega|rfl|decide))
    try(refine gq14 (zjR hgx (zjR hgy h2)) ?_;try with_reducible exact True.intro)
    simp only[Bool.and_eq_true,beq_iff_eq]at h2;refine zaK.next hka ⟨?_,rfl,zbs hx hy htk (hxy.2 h2)⟩;rw[show(k:Int)+1=((k+1:Nat):Int) by omega,zaQ (by omega) (by omega)]
  ·refine zu hl ?_;refine fin _ (decide_eq_true (zcv hl2 (k:=k) (by simp at h;omega) htk))
 ·have hne:((a.length:Int) != (b.length:Int))=true:=by simp;omega
  (refine gq10 hne ?_;try with_reducible exact True.intro);refine zu hl ?_;exact fin _ (decide_eq_false (by rintro rfl;exact hl2 rfl))
theorem ztD {a b:zjs}(ha:a.signs.length<=1073741824){K:KT}(hK:K (.d (.bool (decide (a=b)))) σ) :
  zP zgB [zhJ a,zhJ b] σ K:=by
 refine zec zxP fun hl=>?_;have fin:∀z:Bool,decide (a=b)=z->K (.d (.bool z)) σ:=fun z hz=>by rw[← hz];exact hK
 clear hK;have hab:a=b↔a.seq=b.seq/\a.dig=b.dig/\a.signs=b.signs:=by cases a;cases b;simp
 simp only[zqz,iN,bT,bF,eN];cases h1:(a.seq==b.seq)
 ·(refine gq10 h1 ?_;try with_reducible exact True.intro);refine zu hl ?_;refine fin _ (decide_eq_false fun h=>?_);simp[(hab.1 h).1]at h1
 cases h2:(a.dig==b.dig)
 ·(refine gq10 (zjR h1 h2) ?_;try with_reducible exact True.intro);refine zu hl ?_;refine fin _ (decide_eq_false fun h=>?_);simp[(hab.1 h).2.1]at h2
 (refine gq10 (zjR h1 h2) ?_;try with_reducible exact True.intro);refine zwJ ha ?_;(refine gq9 ?_;try with_reducible exact True.intro);refine zu hl ?_;refine fin _ ?_;simp only[beq_iff_eq]at h1 h2;by_cases h3:a.signs=b.signs
 ·rw[decide_eq_true h3,decide_eq_true (hab.2 ⟨h1,h2,h3⟩)]
 ·rw[decide_eq_false h3,decide_eq_false (fun h=>h3 (hab.1 h).2.2)]
theorem zAu {a b:List zhO}(ha:a.length<=1073741824)(hA:∀x∈a,zgv x.batch)(hB:∀x∈b,zgv x.batch){K:KT}(hK:K (.d (.bool (decide (a=b)))) σ) :
  zP zis [.d (.slice (zbq a)),.d (.slice (zbq b))] σ K:=by
 refine zec ztu fun hl=>?_;have fin:∀z:Bool,decide (a=b)=z->K (.d (.bool z)) σ:=fun z hz=>by rw[← hz];exact hK
 clear hK;simp only[zmJ,iN,bT,bF,eN];(refine gq11 ?_;try with_reducible exact True.intro);by_cases hl2:a.length=b.length
 ·have hne:((a.length:Int) != (b.length:Int))=false:=by simp[hl2]
  (refine gq10 hne ?_;try with_reducible exact True.intro);refine zn a.length (fun k vs s=>vs=[.d (.int .i64 k)]/\s=σ/\a.take k=b.take k) ⟨rfl,rfl,by simp⟩ ?_;rintro k vs s hk ⟨rfl,rfl,htk⟩;(refine gq11 ?_;try with_reducible exact True.intro);refine zV (fun h=>?_) (fun h=>?_)
  ·have hka:k<a.length:=by simp at h;omega
   have hx:a[k]? = some a[k]:=by simp[hka]
   have hy:b[k]? = some (b[k]'(by omega)):=List.getElem?_eq_getElem _;have ax:=hA _ (List.getElem_mem hka);have bx:=hB _ (List.getElem_mem (show k<b.length by omega));have hgx:=zQ (f:=zdg) hx;have hgy:=zQ (f:=zdg) hy;obtain⟨x,hxe⟩:∃x,a[k]=x:=⟨_,rfl⟩;obtain⟨y,hye⟩:∃y,b[k]'(by omega)=y:=⟨_,rfl⟩;rw[hxe]at hgx hx ax;rw[hye]at hgy hy bx;have hxy:x=y↔x.view=y.view/\x.seq=y.seq/\(x.key=y.key/\x.dig=y.dig)/\x.batch=y.batch:=by cases x;cases y;simp;grind
   have neq:¬(x.view=y.view/\x.seq=y.seq/\(x.key=y.key/\x.dig=y.dig)/\x.batch=y.batch)->K (.d (.bool false)) s:=fun h=>fin _ (decide_eq_false (by rintro rfl;rw[hx]at hy;exact h (hxy.1 (Option.some.inj hy))));cases h1:(x.view != y.view);rotate_left
   ·(refine gq14 (zjR hgx (zjR hgy h1)) ?_;try with_reducible exact True.intro);repeat'((with_reducible refine And.intro ?_ ?_);focus(first|omega|rfl|decide))
    try(refine gq14 (zjR hgx (zjR hgy h1)) ?_;try with_reducible exact True.intro)
    refine zu hl ?_;refine neq (fun h=>?_);simp[h.1]at h1
   cases h2:(x.seq != y.seq);rotate_left
   ·(refine gq14 (zjR hgx (zjR hgy (zjR h1 h2))) ?_;try with_reducible exact True.intro);repeat'((with_reducible refine And.intro ?_ ?_);focus(first|omega|rfl|decide))
    try(refine gq14 (zjR hgx (zjR hgy (zjR h1 h2))) ?_;try with_reducible exact True.intro)
    refine zu hl ?_;refine neq (fun h=>?_);simp[h.2.1]at h2
   cases h3:(x.key==y.key&&x.dig==y.dig)
   ·(refine gq14 (zjR hgx (zjR hgy (zjR h1 (zjR h2 h3)))) ?_;try with_reducible exact True.intro);repeat'((with_reducible refine And.intro ?_ ?_);focus(first|omega|rfl|decide))
    try(refine gq14 (zjR hgx (zjR hgy (zjR h1 (zjR h2 h3)))) ?_;try with_reducible exact True.intro)
    refine zu hl ?_;refine neq (fun h=>?_);simp[h.2.2.1.1,h.2.2.1.2]at h3
   (refine gq14 (zjR hgx (zjR hgy (zjR h1 (zjR h2 h3)))) ?_;try with_reducible exact True.intro);repeat'((with_reducible refine And.intro ?_ ?_);focus(first|omega|rfl|decide))
   try(refine gq14 (zjR hgx (zjR hgy (zjR h1 (zjR h2 h3)))) ?_;try with_reducible exact True.intro)
   refine zAv ax bx ?_;by_cases h4:x.batch=y.batch
   ·rw[decide_eq_true h4];(refine gq11 ?_;try with_reducible exact True.intro);simp only[Bool.and_eq_true,beq_iff_eq,bne_eq_false_iff_eq]at h1 h2 h3;refine zaK.next hka ⟨?_,rfl,zbs hx hy htk (hxy.2 ⟨h1,h2,h3,h4⟩)⟩;rw[show(k:Int)+1=((k+1:Nat):Int) by omega,zaQ (by omega) (by omega)]
   ·rw[decide_eq_false h4];(refine gq11 ?_;try with_reducible exact True.intro);refine zu hl ?_;exact neq (fun h=>h4 h.2.2.2)
  ·refine zu hl ?_;refine fin _ (decide_eq_true (zcv hl2 (k:=k) (by simp at h;omega) htk))
 ·have hne:((a.length:Int) != (b.length:Int))=true:=by simp;omega
  (refine gq10 hne ?_;try with_reducible exact True.intro);refine zu hl ?_;exact fin _ (decide_eq_false (by rintro rfl;exact hl2 rfl))
variable {σ:List AObj}
theorem ztk {n₀ m t g sz:Nat}{es:List (List D)}(ht:σ[t]? = some (.row g sz (zcG es)))(hn:n₀<=t)(h:∀e∈es,e.length=sz):frz σ n₀ (m+2) (.rsl t g sz 0 es.length)=some (.slice es):=by
 have hf:∀ds:List D,allO ((ds.map AV.d).map (frz σ n₀ (m+1)))=some ds:=by
  intro ds;induction ds with
  | nil=>rfl
  | cons d ds ih=>
   have:frz σ n₀ (m+1) (.d d)=some d:=rfl
   simp only[List.map_cons,this,allO,ih]
 have hc:∀(es:List (List D)),(∀e∈es,e.length=sz)->zaD sz es.length es.flatten=es:=by
  intro es;induction es with
  | nil=>intro _;rfl
  | cons e es ih=>
   intro h
   have he:=h e List.mem_cons_self
   simp only[List.length_cons,zaD,List.flatten_cons]
   rw[List.take_left' he,List.drop_left' he,ih fun x hx=>h x (List.mem_cons_of_mem _ hx)]
 have hl:(zcG es).length=es.length*sz:=zoB h;simp only[frz,ht,hn,true_and,and_self,if_true,Nat.zero_mul,List.drop_zero,Nat.sub_zero];rw[List.take_of_length_le (by omega),hf];simp only;rw[hc es h]
theorem frz_d (σ:List AObj)(n m:Nat)(x:D):frz σ n m (.d x)=some x:=by cases m<;>rfl
variable {σ:List AObj}
theorem preps_seven (l:List zjU):∀e∈zft l,e.length=7:=zjk (f:=zfx) (fun _=>rfl) l
theorem changes_eight (l:List zbl):∀e∈zam l,e.length=8:=zjk (f:=zag) (fun _=>rfl) l
theorem entries_five (l:List zhO):∀e∈zbq l,e.length=5:=zjk (f:=zdg) (fun _=>rfl) l
theorem zwP {c:zbl}(hc:zjL c){K:KT}(hK:K (.agg (zbM c)) σ):zP zfJ [.agg (zbM c)] σ K:=by
 refine zsx zhY.is rfl 2 fun hl _=>zhY.goes ?_;have hlen:(zft c.above).length=c.above.length:=List.length_map ..;have h7:=preps_seven c.above;have hal:=hc.above;simp only[zic,iN,bT,bF,eN,zl6];refine zG ?_;refine znt (c:=c.cert) hc.signs ?_;refine zG ?_;refine c_clPrepM h7 (by omega) fun g=>?_;refine zm hlen ?_;refine zn c.above.length (fun k vs s=>vs=[.d (.int .i64 k)]/\s=σ++[AObj.box [.d (.int .i64 c.view),.d (.int .i64 c.src),.d (.int .i64 c.cert.seq),.d (.int .i64 c.cert.dig),.d (.slice (zat c.cert.signs)),.rsl (σ.length+2) g 7 0 c.above.length,.d (.int .i64 c.key),.d (.int .i64 c.dig)],
  .box [.d (.int .i64 0),.d (.int .i64 0),.d (.int .i64 0),.d (.int .i64 0),.exact [],.exact [],.d (.int .i64 0),.d (.int .i64 0)],.row g 7 (zcG (zft c.above))]) ⟨rfl,by first|rfl|simp⟩ ?_
 rintro k vs s hk ⟨rfl,rfl⟩;by_cases hlt:k<c.above.length
 ·have hd:decide ((k:Int)<(c.above.length:Int))=true:=by simp;omega
  have hx:c.above[k]? = some c.above[k]:=by simp[hlt]
  have hgx:=zQ (f:=zfx) hx;have hsm:=hc.each _ (List.getElem_mem hlt);obtain⟨p,hp⟩:∃p,c.above[k]=p:=⟨_,rfl⟩;rw[hp]at hx hgx hsm;have g5:=ztl h7 hgx (i:=5) (by omega);have g6:=ztl h7 hgx (i:=6) (by omega);have s5:=zzJ g5;have s6:=zzJ g6;have hfl:(zcG (zft c.above)).length=c.above.length*7:=by rw[zoB h7,hlen]
  simp only[zfx,List.getElem?_cons_succ,List.getElem?_cons_zero,Option.map_some]at g5 g6 s5 s6;obtain⟨R,hR⟩:∃R,zcG (zft c.above)=R:=⟨_,rfl⟩;rw[hR]at g5 g6 s5 s6 hfl ⊢;have zz5:k*7+5+1<=R.length:=by omega
  have zz6:k*7+6+1<=R.length:=by omega
  have zk:0<=(k:Int):=by omega
  refine zm (zd hd (zd g5 (zd g6 (zd s5 (zd s6 (zd zk (zd zz5 (zd zz6 hd)))))))) ?_;refine c_clSign hsm.signs ?_;refine zm (zd hd (zd g5 (zd g6 (zd s5 (zd s6 (zd zk (zd zz5 (zd zz6 hd)))))))) ?_;refine zkH (b:=p.batch) hsm.batch ?_;refine zm (zd hd (zd g5 (zd g6 (zd s5 (zd s6 (zd zk (zd zz5 (zd zz6 (wki k (by omega)))))))))) ?_;exact zaK.next hlt ⟨rfl,rfl⟩
 ·have hd:decide ((k:Int)<(c.above.length:Int))=false:=by simp;omega
  refine zm hd ?_;have hr:∀A B:AObj,frz (σ++[A,B,.row g 7 (zcG (zft c.above))]) σ.length 2 (.rsl (σ.length+2) g 7 0 c.above.length)=some (.slice (zft c.above)):=fun A B=>by
   rw[← hlen];exact ztk (m:=0) (by rw[zA];rfl) (by omega) h7
  refine zse (r:=.agg (zbM c)) ?_ hl hK;simp only[zcm,frzT,frz1,List.map_cons,List.map_nil,frz_d,hr,allO]
abbrev zero30:List AV:=[.d (.int .i64 0),.d (.int .i64 0),.d (.int .i64 0),.d (.int .i64 0),.d (.int .i64 0),.d (.int .i64 0),.d (.int .i64 0),.d (.int .i64 0),.d (.int .i64 0),.exact [],.d (.int .i64 0),.d (.int .i64 0),.exact [],.exact [],.exact [],.exact [],.d (.str []),.d (.int .i64 0),.d (.str []),.d (.int .i64 0),.exact [],.exact [],.d (.int .i64 0),.d (.int .i64 0),.exact [],.d (.int .i64 0),.d (.int .i64 0),.exact [],.d (.int .i64 0),.d (.int .i64 0)]
abbrev msgL2 (m:zbD) (a b:AV):List AV:=
 [.d (.int .i64 m.kind),.d (.int .i64 m.src),.d (.int .i64 m.view),.d (.int .i64 m.seq),.d (.int .i64 m.dig),.d (.int .i64 m.client),.d (.int .i64 m.time),.d (.int .i64 m.rerr),.d (.int .i64 m.roff),.d (.slice (zbA m.batch)),
  .d (.int .i64 m.cert.seq),.d (.int .i64 m.cert.dig),.d (.slice (zat m.cert.signs)),a,b,.d (.slice (bcs m.state)),.d (.str m.topic),.d (.int .i64 m.offset),
  .d (.str m.proof.topic),.d (.int .i64 m.proof.offset),.d (.slice (bcs m.proof.rec_)),.d (.slice (zmt m.proof.headers)),.d (.int .i64 m.proof.index),.d (.int .i64 m.proof.count),.d (.slice (zhV m.proof.path)),.d (.int .i64 m.proof.cert.seq),.d (.int .i64 m.proof.cert.dig),.d (.slice (zat m.proof.cert.signs)),.d (.int .i64 m.key),.d (.int .i64 m.sdig)]
variable {σ:List AObj}
theorem zwS {n lo hi:Int}{K:KT}(hK:K (.d (.int .i64 (inE n lo hi))) σ):zP zga [.d (.int .i64 n),.d (.int .i64 lo),.d (.int .i64 hi)] σ K:=by
 refine acE3 e_r10_in fun hl=>?_;have fin:∀z,inE n lo hi=z->K (.d (.int .i64 z)) σ:=fun z h=>h▸hK;clear hK;simp only[S_r10_in,iN,bT,bF,eN];cases h1:decide (n<lo)
 ·cases h2:decide (n>hi)
  ·refine zm (zd h1 h2) ?_;refine zu hl ?_;exact fin 0 (by rw[inE,if_neg];simp at h1 h2;omega)
  ·refine zm (zd h1 h2) ?_;refine zu hl ?_;exact fin 100 (by rw[inE,if_pos];simp at h1 h2;omega)
 ·refine zm h1 ?_;refine zu hl ?_;exact fin 100 (by rw[inE,if_pos];simp at h1;omega)
theorem ziW {n:Int}{K:KT}(hK:K (.d (.int .i64 (zeR n))) σ):zP zcp [.d (.int .i64 n)] σ K:=by
 refine zez e_r10_num fun hl=>?_;simp only[S_r10_num,iN,bT,bF,eN];refine zG ?_;refine zwS ?_;refine zG ?_;refine zu hl ?_;exact hK
theorem zqq {n:Int}{K:KT}(hK:K (.d (.int .i64 (zkg n))) σ):zP zfd [.d (.int .i64 n)] σ K:=by
 refine zez e_r10_pos fun hl=>?_;simp only[S_r10_pos,iN,bT,bF,eN];refine zG ?_;refine zwS ?_;refine zG ?_;refine zu hl ?_;exact hK
theorem c_kName {x:List UInt8}(hx:x.length<=1073741824){K:KT}(hK:K (.d (.int .i64 (zla x))) σ):zP zpy [.d (.str x)] σ K:=by
 refine zez e_r10_name fun hl=>?_;have fin:∀z,zla x=z->K (.d (.int .i64 z)) σ:=fun z h=>h▸hK;clear hK;simp only[zzi,iN,bT,bF,eN];refine zG ?_;refine c_rName hx ?_;cases h:zef x
 ·refine zG ?_;refine zu hl ?_;exact fin 61 (by rw[zla,if_neg (by simp[h])])
 ·refine zG ?_;refine zu hl ?_;exact fin 0 (by rw[zla,if_pos h])
theorem fst_drop {l:List Int}{k:Nat}{x:Int}(hx:l[k]? = some x):zav (l.drop k)=if x≠0 then x else zav (l.drop (k+1)):=by
 have hk:k<l.length:=(List.getElem?_eq_some_iff.1 hx).1;rw[List.drop_eq_getElem_cons hk,(List.getElem?_eq_some_iff.1 hx).2];rfl
theorem zeF {l:List Int}(hl0:l.length<=1073741824){K:KT}(hK:K (.d (.int .i64 (zav l))) σ):zP zbu [.d (.slice (zhV l))] σ K:=by
 refine zez e_r10_first fun hl=>?_;have fin:∀z,zav l=z->K (.d (.int .i64 z)) σ:=fun z h=>h▸hK;clear hK;have hlen:(zhV l).length=l.length:=List.length_map ..;simp only[zxj,iN,bT,bF,eN];refine zn l.length (fun k vs s=>vs=[.d (.int .i64 k)]/\s=σ/\zav l=zav (l.drop k)) ⟨rfl,rfl,by simp⟩ ?_;rintro k vs s hk ⟨rfl,rfl,hpf⟩;by_cases hlt:k<l.length
 ·have hd:decide ((k:Int)<(l.length:Int))=true:=by simp;omega
  have hx:l[k]? = some l[k]:=by simp[hlt]
  have hgx:=zQ (f:=fun t=>[D.int .i64 t]) hx;obtain⟨x,hxe⟩:∃x,l[k]=x:=⟨_,rfl⟩;rw[hxe]at hx hgx;rw[fst_drop hx]at hpf;cases h1:(x != 0)
  ·rw[if_neg (by simpa using h1)]at hpf;refine zm (zd hd (zd hgx (zd hlen (zd h1 (wkc k (by omega)))))) ?_;exact zaK.next hlt ⟨rfl,rfl,hpf⟩
  ·rw[if_pos (by simpa using h1)]at hpf;refine zm (zd hd (zd hgx (zd hlen h1))) ?_;refine zu hl ?_;exact fin _ hpf
 ·have hd:decide ((k:Int)<(l.length:Int))=false:=by simp;omega
  rw[List.drop_eq_nil_of_le (by omega)]at hpf;refine zm (zd hd hlen) ?_;refine zu hl ?_;exact fin _ hpf
theorem c_kSigns {l:List zI}(hl0:l.length<=1073741824){K:KT}(hK:K (.d (.int .i64 (zav (zco l)))) σ):zP zkj [.d (.slice (zat l))] σ K:=by
 refine zez e_r10_signs fun hl=>?_;have fin:∀z,zav (zco l)=z->K (.d (.int .i64 z)) σ:=fun z h=>h▸hK;clear hK;have hlen:(zat l).length=l.length:=List.length_map ..;simp only[zxh,iN,bT,bF,eN];cases h0:decide ((l.length:Int)>13);rotate_left
 ·refine zm (zd hlen h0) ?_;refine zu hl ?_;refine fin 100 ?_;have:inE l.length 0 13=100:=by rw[inE,if_pos];simp at h0;omega
  simp[zco,zav,this]
 refine zm (zd hlen h0) ?_;have e0:zav (zco l)=zav (l.map fun s=>zx s.key s.dig):=by
  have:inE l.length 0 13=0:=by rw[inE,if_neg];simp at h0;omega
  simp[zco,zav,this]
 refine zn l.length (fun k vs s=>vs=[.d (.int .i64 k)]/\s=σ/\zav (zco l)=zav ((l.map fun s=>zx s.key s.dig).drop k)) ⟨rfl,rfl,by simpa using e0⟩ ?_;rintro k vs s hk ⟨rfl,rfl,hpf⟩;by_cases hlt:k<l.length
 ·have hd:decide ((k:Int)<(l.length:Int))=true:=by simp;omega
  have hx:l[k]? = some l[k]:=by simp[hlt]
  have hgx:=zQ (f:=zgo) hx;obtain⟨x,hxe⟩:∃x,l[k]=x:=⟨_,rfl⟩;rw[hxe]at hx hgx;rw[fst_drop (x:=zx x.key x.dig) (by simp[hx])]at hpf;refine gq19 (zd hd (zd hgx hlen)) ?_;refine zbI ?_;cases h1:(zx x.key x.dig != 0)
  ·rw[if_neg (by simpa using h1)]at hpf;refine zm (zd h1 (wkc k (by omega))) ?_;exact zaK.next hlt ⟨rfl,rfl,hpf⟩
  ·rw[if_pos (by simpa using h1)]at hpf;refine zm h1 ?_;refine zu hl ?_;exact fin _ hpf
 ·have hd:decide ((k:Int)<(l.length:Int))=false:=by simp;omega
  rw[List.drop_eq_nil_of_le (by simp;omega)]at hpf;refine zm (zd hd hlen) ?_;refine zu hl ?_;exact fin _ hpf
theorem c_kCert {c:zjs}(hl0:c.signs.length<=1073741824){K:KT}(hK:K (.d (.int .i64 (zav (zbz c)))) σ):zP zfH [zhJ c] σ K:=by
 refine zez zwv fun hl=>?_;have fin:∀z,zav (zbz c)=z->K (.d (.int .i64 z)) σ:=fun z h=>h▸hK;clear hK;have hlen:(zat c.signs).length=c.signs.length:=List.length_map ..;simp only[zpd,iN,bT,bF,eN,zhJ];refine zG ?_;refine ziW ?_;refine zG ?_;refine ziW ?_;refine zG ?_;refine zeF (l:=[zeR c.seq,zeR c.dig]) (by simp) ?_;have e2:zav (zbz c)=if zav [zeR c.seq,zeR c.dig]≠0 then zav [zeR c.seq,zeR c.dig]else zav (zfc c::zco c.signs):=by
  rw[← zeD];rfl
 cases h1:(zav [zeR c.seq,zeR c.dig] != 0);rotate_left
 ·refine zm h1 ?_;refine zu hl ?_;exact fin _ (by rw[e2,if_pos (by simpa using h1)])
 have h1':zav [zeR c.seq,zeR c.dig]=0:=by simpa using h1
 rw[if_neg (by simpa using h1)]at e2;have hs:zeR c.seq=0:=by
  simp only[zav]at h1';split at h1'
  ·rename_i h;exact absurd h1' h
  ·rename_i h;simpa using h
 have hsq:=zrQ hs;have yes:zfc c=0->zP zkj [.d (.slice (zat c.signs))] (σ++[AObj.box [AV.d (D.int .i64 c.seq),AV.d (D.int .i64 c.dig),AV.d (D.slice (zat c.signs))]]) fun G s=>z1 (AW.Ends σ.length K) G s:=fun h=>by
  refine c_kSigns hl0 ?_;refine zG ?_;refine zu hl ?_;refine fin _ ?_;rw[e2];simp[zav,h]
 have no:zfc c=100->zav (zbz c)=100:=fun h=>by rw[e2];simp[zav,h]
 cases h2:(c.seq==0)
 ·have h2':¬c.seq=0:=by simpa using h2
  have h3:decide (c.seq>0)=true:=by simp;omega
  cases h4:(c.dig==0)
  ·refine zm (zd h1 (zd h2 (zd h3 h4))) ?_;exact yes (by simp at h4;simp[zfc,h2',h4])
  ·refine zm (zd h1 (zd h2 (zd h3 h4))) ?_;refine zu hl ?_;exact fin 100 (no (by simp at h4;simp[zfc,h2',h4]))
 ·have h2':c.seq=0:=by simpa using h2
  have h3:decide (c.seq>0)=false:=by simp;omega
  cases h4:(c.dig != 0)
  ·cases h5:decide ((c.signs.length:Int)>0)
   ·refine zm (zd h1 (zd h2 (zd h3 (zd h4 (zd hlen h5))))) ?_;exact yes (by simp at h4 h5;simp[zfc,h2',h4,h5])
   ·refine zm (zd h1 (zd h2 (zd h3 (zd h4 (zd hlen h5))))) ?_;refine zu hl ?_;refine fin 100 (no ?_);simp only[decide_eq_true_eq]at h5;rw[zfc,if_pos (.inr ⟨h2',by omega⟩)]
  ·refine zm (zd h1 (zd h2 (zd h3 h4))) ?_;refine zu hl ?_;exact fin 100 (no (by simp at h4;simp[zfc,h2',h4]))
theorem c_kHdr {h:zsJ}{K:KT}(hK:K (.d (.int .i64 (zav (zhf h)))) σ):zP zir [hdrA h] σ K:=by
 refine zez zts fun hl=>?_;simp only[zmI,iN,bT,bF,eN,hdrA];refine zG ?_;refine zqq ?_;refine zG ?_;refine ziW ?_;refine zG ?_;refine ziW ?_;refine zG ?_;refine ziW ?_;refine zG ?_;refine ziW ?_;refine zG ?_;refine zeF (l:=zhf h) (by simp[zhf]) ?_;refine zG ?_;refine zu hl ?_;exact hK
theorem c_kProof {p:zfi}(hp:zqL p){K:KT}(hK:K (.d (.int .i64 (zlT p))) σ):zP zjo [znA p] σ K:=by
 refine zez zuF fun hl=>?_;have fin:∀z,zlT p=z->K (.d (.int .i64 z)) σ:=fun z h=>h▸hK;clear hK;have hrl:=zaj p.rec_;have hhl:(zmt p.headers).length=p.headers.length:=List.length_map ..;have hpl:(zhV p.path).length=p.path.length:=List.length_map ..;simp only[znK,iN,bT,bF,eN,znA];refine zm (zd hrl hhl) ?_;refine c_kName (by have:=hp.topic;omega) ?_;refine zG ?_;refine ziW ?_;refine zG ?_;refine zwS ?_;refine zG ?_;refine zwS ?_;refine zG ?_;refine zeF (l:=zgy p) (by simp[zgy]) ?_;cases h1:(zav (zgy p) != 0);rotate_left
 ·refine zm h1 ?_;refine zu hl ?_;exact fin _ (by rw[zlT,zcU,zhF (by simpa using h1)])
 have e1:zlT p=zav ((p.headers.map zhf).flatten++(zfC p++(zhq p++(p.path.map zeR++zbz p.cert)))):=by
  rw[zlT,zcU,zgD (by simpa using h1)]
 obtain⟨Q,hQ⟩:∃Q,zfC p++(zhq p++(p.path.map zeR++zbz p.cert))=Q:=⟨_,rfl⟩;rw[hQ]at e1;refine zm h1 ?_;refine zn p.headers.length (fun k vs s=>vs=[.d (.int .i64 k)]/\s=σ++[zom p]/\zlT p=zav (((p.headers.drop k).map zhf).flatten++Q)) ⟨rfl,rfl,by simpa using e1⟩ ?_;rintro k vs s hk ⟨rfl,rfl,hpf⟩;by_cases hlt:k<p.headers.length
 ·have hd:decide ((k:Int)<(p.headers.length:Int))=true:=by simp;omega
  have hx:p.headers[k]? = some p.headers[k]:=by simp[hlt]
  have hgx:=zQ (f:=zrY) hx;have hdr:p.headers.drop k=p.headers[k]::p.headers.drop (k+1):=List.drop_eq_getElem_cons hlt;obtain⟨h,hhe⟩:∃h,p.headers[k]=h:=⟨_,rfl⟩;rw[hhe]at hx hgx hdr;have hph:=hp.headers;rw[hdr,List.map_cons,List.flatten_cons,List.append_assoc,zeD]at hpf;refine zm (zd hd (zd hgx hhl)) ?_;refine c_kHdr (h:=h) ?_;cases h2:(zav (zhf h) != 0)
  ·rw[if_neg (by simpa using h2)]at hpf;refine zm (zd h2 (wkc k (by omega))) ?_;exact zaK.next hlt ⟨rfl,rfl,hpf⟩
  ·rw[if_pos (by simpa using h2)]at hpf;refine zm h2 ?_;refine zu hl ?_;exact fin _ hpf
 ·have hd:decide ((k:Int)<(p.headers.length:Int))=false:=by simp;omega
  rw[List.drop_eq_nil_of_le (by omega),List.map_nil,List.flatten_nil,List.nil_append,← hQ]at hpf;refine zm (zd hd hhl) ?_;refine ziW ?_;refine zG ?_;refine zwS ?_;refine zG ?_;refine zeF (l:=zfC p) (by simp[zfC]) ?_;cases h2:(zav (zfC p) != 0);rotate_left
  ·refine zm h2 ?_;refine zu hl ?_;exact fin _ (by rw[hpf,zhF (by simpa using h2)])
  have h2':zav (zfC p)=0:=by simpa using h2
  rw[zgD h2']at hpf;have hix:zeR p.index=0/\inE p.count 0 16=0:=by
   simp only[zfC,zav]at h2';split at h2'
   ·rename_i h;exact absurd h2' h
   ·rename_i h;split at h2'
    ·rename_i h3;exact absurd h2' h3
    ·rename_i h3;exact⟨by simpa using h,by simpa using h3⟩
  have i1:=zrQ hix.1;have i2:=zkz hix.2;have bad:(p.index≥p.count∨(p.path.length:Int)>8)->zav (zhq p)=100:=fun h=>by
   simp only[zhq,zav];by_cases hh:p.index≥p.count
   ·have:inE p.index 0 (p.count-1)=100:=by rw[inE,if_pos];omega
    simp[this]
   ·have a:inE p.index 0 (p.count-1)=0:=by rw[inE,if_neg];omega
    have b:inE p.path.length 0 8=100:=by rw[inE,if_pos];omega
    simp[a,b]
  cases h3:decide (p.index≥p.count);rotate_left
  ·refine zm (zd h2 h3) ?_;refine zu hl ?_;refine fin _ ?_;have:=bad (.inl (by simpa using h3));rw[hpf,zhF (by rw[this];decide),this]
  cases h4:decide ((p.path.length:Int)>8);rotate_left
  ·refine zm (zd h2 (zd h3 (zd hpl h4))) ?_;refine zu hl ?_;refine fin _ ?_;have:=bad (.inr (by simpa using h4));rw[hpf,zhF (by rw[this];decide),this]
  have h5:zav (zhq p)=0:=by
   simp only[decide_eq_false_iff_not]at h3 h4;have a:inE p.index 0 (p.count-1)=0:=by rw[inE,if_neg];omega
   have b:inE p.path.length 0 8=0:=by rw[inE,if_neg];omega
   simp[zhq,zav,a,b]
  rw[zgD h5]at hpf;refine zm (zd h2 (zd h3 (zd hpl h4))) ?_;have hpb:=hp.path;refine zn p.path.length (fun k vs s=>vs=[.d (.int .i64 k)]/\s=σ++[zom p]/\zlT p=zav ((p.path.drop k).map zeR++zbz p.cert)) ⟨rfl,rfl,by simpa using hpf⟩ ?_;rintro j vs s hj ⟨rfl,rfl,hpf2⟩;by_cases hjl:j<p.path.length
  ·have hd2:decide ((j:Int)<(p.path.length:Int))=true:=by simp;omega
   have hy:p.path[j]? = some p.path[j]:=by simp[hjl]
   have hgy:=zQ (f:=fun t=>[D.int .i64 t]) hy;have hdr:p.path.drop j=p.path[j]::p.path.drop (j+1):=List.drop_eq_getElem_cons hjl;obtain⟨y,hye⟩:∃y,p.path[j]=y:=⟨_,rfl⟩;rw[hye]at hy hgy hdr;rw[hdr,List.map_cons,List.cons_append]at hpf2;simp only[zav]at hpf2;refine zm (zd hd2 (zd hgy hpl)) ?_;refine ziW ?_;cases h6:(zeR y != 0)
   ·rw[if_neg (by simpa using h6)]at hpf2;refine zm (zd h6 (wkc j (by omega))) ?_;exact zaK.next hjl ⟨rfl,rfl,hpf2⟩
   ·rw[if_pos (by simpa using h6)]at hpf2;refine zm h6 ?_;refine zu hl ?_;exact fin _ hpf2
  ·have hd2:decide ((j:Int)<(p.path.length:Int))=false:=by simp;omega
   rw[List.drop_eq_nil_of_le (by omega),List.map_nil,List.nil_append]at hpf2;refine zm (zd hd2 hpl) ?_;refine c_kCert (c:=p.cert) hp.signs ?_;refine zG ?_;refine zu hl ?_;exact fin _ hpf2
variable {σ:List AObj}
theorem zwf (l r:List Int):zav (zav l::r)=zav (l++r):=by
 rw[zeD];rfl
theorem zAa {α:Type}{f:α->List Int}{l:List α}{k:Nat}{x:α}(h:l[k]? = some x)(h0:∀y∈l.take k,zav (f y)=0)(hx:zav (f x)≠0)(r:List Int):zav ((l.map f).flatten++r)=zav (f x):=by
 have e:l=l.take k++x::l.drop (k+1):=by
  obtain⟨hk,rfl⟩:=List.getElem?_eq_some_iff.1 h;simp
 have z:∀m:List α,(∀y∈m,zav (f y)=0)->zav ((m.map f).flatten)=0:=by
  intro m;induction m with
  | nil=>intro _;rfl
  | cons y m ih=>intro h;simp only[List.map_cons,List.flatten_cons];rw[zgD (h y (by simp))];exact ih fun z hz=>h z (by simp[hz])
 rw[e,List.map_append,List.flatten_append,List.append_assoc,zgD (z _ h0),List.map_cons,List.flatten_cons,List.append_assoc,zhF hx]
theorem zsc {α:Type}{f:α->List Int}:∀ {l:List α},(∀y∈l,zav (f y)=0)->zav ((l.map f).flatten)=0
 | [],_=>rfl
 | y::l,h=>by simp only[List.map_cons,List.flatten_cons];rw[zgD (h y (by simp))];exact zsc fun z hz=>h z (by simp[hz])
theorem ziX {n:Int}{K:KT}(hK:K (.d (.int .i64 (zjy n))) σ):zP zdp [.d (.int .i64 n)] σ K:=by
 refine zez e_r10_broker fun hl=>?_;simp only[zun,iN,bT,bF,eN];refine zG ?_;refine zwS ?_;refine zG ?_;refine zu hl ?_;exact hK
theorem c_kPrep {p:zjU}(hs:p.signs.length<=1073741824)(hb:okB p.batch){K:KT}(hK:K (.d (.int .i64 (zav (zdT p)))) σ) :
  zP zgV [.agg [.d (.int .i64 p.view),.d (.int .i64 p.seq),.d (.int .i64 p.dig),.d (.int .i64 p.fkey),.d (.int .i64 p.fdig),.d (.slice (zat p.signs)),.d (.slice (zbA p.batch))]] σ K:=by
 refine zez zre fun hl=>?_;simp only[zkM,iN,bT,bF,eN];refine zG ?_;refine ziW ?_;refine zG ?_;refine zqq ?_;refine zG ?_;refine zqq ?_;refine zG ?_;refine zbI ?_;refine zG ?_;refine c_kSigns hs ?_;refine zG ?_;refine zhL hb ?_;refine zG ?_;refine zeF (l:=[zeR p.view,zkg p.seq,zkg p.dig,zx p.fkey p.fdig,zav (zco p.signs),zD p.batch]) (by simp) ?_;have e:zav [zeR p.view,zkg p.seq,zkg p.dig,zx p.fkey p.fdig,zav (zco p.signs),zD p.batch]=zav (zdT p):=by
  simp only[zdT,zwf,zav];rw[← zwf];rfl
 rw[e];refine zG ?_;refine zu hl ?_;exact hK
theorem c_kBody {c:zbl}(hc:okCh c){K:KT}(hK:K (.d (.int .i64 (zav (zej c)))) σ):zP zkl [.agg (zbM c)] σ K:=by
 refine zez zwt fun hl=>?_;have fin:∀z,zav (zej c)=z->K (.d (.int .i64 z)) σ:=fun z h=>h▸hK;clear hK;have hpl:(zft c.above).length=c.above.length:=List.length_map ..;have hal:=hc.above;simp only[zpb,iN,bT,bF,eN];refine zG ?_;refine zqq ?_;refine zG ?_;refine ziX ?_;refine zG ?_;refine c_kCert (c:=c.cert) hc.signs ?_;refine zG ?_;refine zeF (l:=[zkg c.view,zjy c.src,zav (zbz c.cert)]) (by simp) ?_;have e:∀r,zav (zkg c.view::zjy c.src::(zbz c.cert++r))=if zav [zkg c.view,zjy c.src,zav (zbz c.cert)]≠0 then zav [zkg c.view,zjy c.src,zav (zbz c.cert)]else zav r:=by
  intro r;rw[← zeD];simp only[List.cons_append,List.nil_append,zav];rw[zeD]
 cases h1:(zav [zkg c.view,zjy c.src,zav (zbz c.cert)] != 0);rotate_left
 ·refine zm h1 ?_;refine zu hl ?_;exact fin _ (by rw[zej,e,if_pos (by simpa using h1)])
 have e1:zav (zej c)=zav (inE c.above.length 0 8::(c.above.map zdT).flatten):=by rw[zej,e,if_neg (by simpa using h1)]
 by_cases h2:c.above.length>8
 ·have h2':decide ((c.above.length:Int)>8)=true:=by simp;omega
  refine zm (zd h1 (zd hpl h2')) ?_;refine zu hl ?_;exact fin _ (by rw[e1,inE,if_pos (by omega)];rfl)
 have h2':decide ((c.above.length:Int)>8)=false:=by simp;omega
 have e2:zav (zej c)=zav ((c.above.map zdT).flatten):=by rw[e1,inE,if_neg (by omega)];rfl
 refine zm (zd h1 (zd hpl h2')) ?_;refine zn c.above.length (fun k vs s=>vs=[.d (.int .i64 k)]/\s=σ++[.box (zbM c)]/\∀p∈c.above.take k,zav (zdT p)=0) ⟨rfl,rfl,by simp⟩ ?_;rintro k vs s hk ⟨rfl,rfl,h0⟩;by_cases hlt:k<c.above.length
 ·have hd:decide ((k:Int)<(c.above.length:Int))=true:=by simp;omega
  have hx:c.above[k]? = some c.above[k]:=by simp[hlt]
  have hpx:=hc.each _ (List.getElem_mem hlt);have hgx:=zQ (f:=zfx) hx;obtain⟨p,hp⟩:∃p,c.above[k]=p:=⟨_,rfl⟩;rw[hp]at hx hgx hpx;refine zdy (zd hd (zd hgx hpl)) ?_;refine c_kPrep (p:=p) hpx.1 hpx.2 ?_;cases h3:(zav (zdT p) != 0)
  ·refine zm (zd h3 (wkc k (by omega))) ?_;refine zaK.next hlt ⟨rfl,rfl,?_⟩;intro q hq;rw[List.take_add_one,hx]at hq;simp at hq;rcases hq with hq|rfl
   ·exact h0 q hq
   ·simpa using h3
  ·refine zm h3 ?_;refine zu hl ?_;refine fin _ ?_;have:=zAa hx h0 (by simpa using h3) [];rw[List.append_nil]at this;rw[e2,this]
 ·have hd:decide ((k:Int)<(c.above.length:Int))=false:=by simp;omega
  rw[List.take_of_length_le (by omega)]at h0;refine zm (zd hd hpl) ?_;refine zu hl ?_;exact fin _ (by rw[e2,zsc h0])
theorem c_kChange {c:zbl}(hc:okCh c){K:KT}(hK:K (.d (.int .i64 (zav (zaT c)))) σ):zP zgb [.agg (zbM c)] σ K:=by
 refine zez ztv fun hl=>?_;simp only[zmK,iN,bT,bF,eN];refine zG ?_;refine c_kBody (c:=c) hc ?_;refine zG ?_;refine zbI ?_;refine zG ?_;refine zeF (l:=[zav (zej c),zx c.key c.dig]) (by simp) ?_;rw[zwf];refine zG ?_;refine zu hl ?_;exact hK
variable {σ:List AObj}
theorem c_kEntry {x:zhO}(hb:okB x.batch){K:KT}(hK:K (.d (.int .i64 (zav (zdZ x)))) σ):zP zjm [entryA x] σ K:=by
 refine zez zuD fun hl=>?_;simp only[znI,iN,bT,bF,eN];refine zG ?_;refine ziW ?_;refine zG ?_;refine zqq ?_;refine zG ?_;refine zhL hb ?_;refine zG ?_;refine zbI ?_;refine zG ?_;refine zeF (l:=zdZ x) (by simp[zdZ]) ?_;refine zG ?_;refine zu hl ?_;exact hK
theorem zrW {α:Type}{P:α->Prop}{l:List α}{k:Nat}{x:α}(hx:l[k]? = some x)(h0:∀y∈l.take k,P y)(h:P x):∀y∈l.take (k+1),P y:=by
 intro q hq;rw[List.take_add_one,hx]at hq;simp at hq;rcases hq with hq|rfl
 ·exact h0 q hq
 ·exact h
theorem c_kNewView {m:zbD}(hm:zaJ m)(hk:m.kind=8){K:KT}(hK:K (.d (.int .i64 (zav (zab m)))) σ):zP zhx [zge m] σ K:=by
 refine zez zsf fun hl=>?_;have fin:∀z,zav (zab m)=z->K (.d (.int .i64 z)) σ:=fun z h=>h▸hK;clear hK;have hcl:(zam m.changes).length=m.changes.length:=List.length_map ..;have hel:(zbq m.entries).length=m.entries.length:=List.length_map ..;have hcl1:=hm.changes;have hel1:=hm.entries;have e0:zav (zab m)=zav ([zjy m.src,zkg m.view,inE m.changes.length 0 13]++((m.changes.map zaT).flatten++(inE m.entries.length 0 8::((m.entries.map zdZ).flatten++[zx m.key m.sdig])))):=by
  simp[zab,zB,hk,zfD,show zeQ 8=true from rfl]
 simp only[zlu,iN,bT,bF,eN];refine zG ?_;refine ziX ?_;refine zG ?_;refine zqq ?_;refine zm hcl ?_;refine zwS ?_;refine zG ?_;refine zeF (l:=[zjy m.src,zkg m.view,inE m.changes.length 0 13]) (by simp) ?_;cases h1:(zav [zjy m.src,zkg m.view,inE m.changes.length 0 13] != 0);rotate_left
 ·refine zm h1 ?_;refine zu hl ?_;exact fin _ (by rw[e0,zhF (by simpa using h1)])
 rw[zgD (by simpa using h1)]at e0;refine zm h1 ?_;refine zn m.changes.length (fun k vs s=>vs=[.d (.int .i64 k)]/\s=σ++[zlb m]/\∀c∈m.changes.take k,zav (zaT c)=0) ⟨rfl,rfl,by simp⟩ ?_;rintro k vs s hk0 ⟨rfl,rfl,h0⟩;by_cases hlt:k<m.changes.length
 ·have hd:decide ((k:Int)<(m.changes.length:Int))=true:=by simp;omega
  have hx:m.changes[k]? = some m.changes[k]:=by simp[hlt]
  have hpx:=hm.change _ (List.getElem_mem hlt);have hgx:=zQ (f:=zag) hx;obtain⟨p,hp⟩:∃p,m.changes[k]=p:=⟨_,rfl⟩;rw[hp]at hx hgx hpx;refine zdy (zd hd (zd hgx hcl)) ?_;refine c_kChange (c:=p) hpx.1 ?_;cases h3:(zav (zaT p) != 0)
  ·refine zm (zd h3 (wkc k (by omega))) ?_;exact zaK.next hlt ⟨rfl,rfl,zrW hx h0 (by simpa using h3)⟩
  ·refine zm h3 ?_;refine zu hl ?_;exact fin _ (by rw[e0,zAa hx h0 (by simpa using h3)])
 have hd:decide ((k:Int)<(m.changes.length:Int))=false:=by simp;omega
 rw[List.take_of_length_le (by omega)]at h0;rw[zgD (zsc h0)]at e0;by_cases h2:m.entries.length>8
 ·have h2':decide ((m.entries.length:Int)>8)=true:=by simp;omega
  refine zm (zd hd (zd hcl (zd hel h2'))) ?_;refine zu hl ?_;exact fin _ (by rw[e0,inE,if_pos (by omega)];rfl)
 have h2':decide ((m.entries.length:Int)>8)=false:=by simp;omega
 have e1:zav (zab m)=zav ((m.entries.map zdZ).flatten++[zx m.key m.sdig]):=by rw[e0,inE,if_neg (by omega)];rfl
 refine zm (zd hd (zd hcl (zd hel h2'))) ?_;refine zn m.entries.length (fun k vs s=>vs=[.d (.int .i64 k)]/\s=σ++[zlb m]/\∀c∈m.entries.take k,zav (zdZ c)=0) ⟨rfl,rfl,by simp⟩ ?_;rintro k vs s hk1 ⟨rfl,rfl,h0⟩;by_cases hlt:k<m.entries.length
 ·have hd:decide ((k:Int)<(m.entries.length:Int))=true:=by simp;omega
  have hx:m.entries[k]? = some m.entries[k]:=by simp[hlt]
  have hpx:=hm.entry _ (List.getElem_mem hlt);have hgx:=zQ (f:=zdg) hx;obtain⟨p,hp⟩:∃p,m.entries[k]=p:=⟨_,rfl⟩;rw[hp]at hx hgx hpx;refine zdy (zd hd (zd hgx hel)) ?_;refine c_kEntry (x:=p) hpx.1 ?_;cases h3:(zav (zdZ p) != 0)
  ·refine zm (zd h3 (wkc k (by omega))) ?_;exact zaK.next hlt ⟨rfl,rfl,zrW hx h0 (by simpa using h3)⟩
  ·refine zm h3 ?_;refine zu hl ?_;exact fin _ (by rw[e1,zAa hx h0 (by simpa using h3)])
 ·have hd:decide ((k:Int)<(m.entries.length:Int))=false:=by simp;omega
  rw[List.take_of_length_le (by omega)]at h0;refine zm (zd hd hel) ?_;refine zbI ?_;refine zG ?_;refine zu hl ?_;refine fin _ ?_;rw[e1,zgD (zsc h0)];simp only[zav];split<;>simp_all
theorem c_kParts8 {m:zbD}(hm:zaJ m)(hk:m.kind=8){K:KT}(hK:K (.d (.int .i64 (zav (zab m)))) σ):zP ziq [zge m] σ K:=by
 refine zez znl fun hl=>?_;simp only[zkL,iN,bT,bF,eN];refine zG ?_;refine zbI ?_;refine zm (kk8 hk) ?_;refine c_kNewView (m:=m) hm hk ?_;refine zG ?_;refine zu hl ?_;exact hK
theorem c_kParts7 {m:zbD}(hm:zaJ m)(hk:m.kind=7){K:KT}(hK:K (.d (.int .i64 (zav (zab m)))) σ):zP ziq [zge m] σ K:=by
 refine zez znl fun hl=>?_;have fin:∀z,zav (zab m)=z->K (.d (.int .i64 z)) σ:=fun z h=>h▸hK;clear hK;have hcl:(zam m.changes).length=m.changes.length:=List.length_map ..;have hcl1:=hm.changes;have e0:zav (zab m)=zav (inE m.changes.length 1 1::(m.changes.map fun c=>zaT c++[if c.src≠m.src∨c.view≠m.view then 100 else 0]).flatten):=by
  simp[zab,zB,hk,show zeQ 7=false from rfl]
 simp only[zkL,iN,bT,bF,eN];refine zG ?_;refine zbI ?_;cases h1:((m.changes.length:Int) != 1);rotate_left
 ·refine zm (zd (kk7 hk) (zd hcl h1)) ?_;refine zu hl ?_;refine fin _ ?_;simp only[bne_iff_ne,ne_eq]at h1;rw[e0,inE,if_pos (by omega)];rfl
 simp only[bne_eq_false_iff_eq]at h1;obtain⟨c,hc⟩:∃c,m.changes=[c]:=List.length_eq_one_iff.1 (by omega);have hgx:(zam m.changes)[0]? = some (zag c):=by rw[hc];rfl
 have hgl:(zam m.changes).length=1:=by rw[hc];rfl
 have e1:zav (zab m)=zav (zaT c++[if c.src≠m.src∨c.view≠m.view then 100 else 0]):=by
  rw[e0,hc,inE,if_neg (by simp)];simp[zav]
 have hpx:=(hm.change c (by rw[hc];simp)).1;refine zdy (zd (kk7 hk) (zd hgl hgx)) ?_;refine c_kChange (c:=c) hpx ?_;cases h2:(zav (zaT c) != 0);rotate_left
 ·refine zm h2 ?_;refine zu hl ?_;exact fin _ (by rw[e1,zhF (by simpa using h2)])
 rw[zgD (by simpa using h2)]at e1;cases h3:(m.src != c.src)
 ·cases h4:(m.view != c.view)
  ·refine zdy (zd h2 (zd h3 (zd h4 (zd hgl hgx)))) ?_;refine zu hl ?_;refine fin _ ?_;simp at h3 h4;rw[e1,if_neg (by simp[h3,h4])];rfl
  ·refine zdy (zd h2 (zd h3 (zd h4 (zd hgl hgx)))) ?_;refine zu hl ?_;refine fin _ ?_;simp at h4;rw[e1,if_pos (.inr fun h=>h4 h.symm)];rfl
 ·refine zdy (zd h2 (zd h3 (zd hgl hgx))) ?_;refine zu hl ?_;refine fin _ ?_;simp at h3;rw[e1,if_pos (.inl fun h=>h3 h.symm)];rfl
end Go.Proofs.YtdgcepphjnoalaaGreat
