/- Certificates: whether they are valid. No program in sight. -/
import Derived.Test.YtdgcepphjnoalaaGreatSpTab
import Derived.Test.YtdgcepphjnoalaaGreatId3
import Derived.Test.YtdgcepphjnoalaaGreatOpC
import Derived.Test.YtdgcepphjnoalaaGreatSh
import Derived.Test.YtdgcepphjnoalaaGreatAwLoop
import Derived.Test.YtdgcepphjnoalaaGreatCk4
import Derived.Test.YtdgcepphjnoalaaGreatRd1
set_option linter.all false
set_option maxRecDepth 100000
namespace Go.Proofs.YtdgcepphjnoalaaGreat
open Go.AW
abbrev prepA (p:zjY):AV:=.agg [.d (.int .i64 p.view),.d (.int .i64 p.seq),.d (.int .i64 p.dig),.d (.int .i64 p.fkey),.d (.int .i64 p.fdig),.d (.slice (zat p.signs)),.d (.slice (zbA p.batch))]
variable {σ:List AObj} {L:List (List UInt8)} {G:List zK}
structure TGi where
 id:Nat
 m:Nat
 t:Nat
 id2:Nat
 m2:Nat
 t2:Nat
structure TG (i:TGi) (σ:List AObj) (L:List (List UInt8)) (G:List zK):Prop where
 tab:zgO σ i.id i.m i.t L
 led:zfj σ i.id2 i.m2 i.t2 G
 n1:i.id≠i.id2
 n2:i.m≠i.m2
def zhl (i:TGi) (σ:List AObj) (L:List (List UInt8)) (G:List zK):List AObj:=putLed (putTab σ i.id i.m i.t L) i.id2 i.m2 i.t2 G
theorem TG.app {i:TGi}(h:TG i σ L G)(τ:List AObj):TG i (σ++τ) L G:=⟨h.tab.app τ,h.led.app τ,h.n1,h.n2⟩
theorem TG.put {i:TGi}(h:TG i σ L G)(L':List (List UInt8))(G':List zK):TG i (zhl i σ L' G') L' G':=
 ⟨(h.tab.put L').putLed (zfj.putTab h.tab h.led h.n1 h.n2 L') h.n1 h.n2 G',(zfj.putTab h.tab h.led h.n1 h.n2 L').put G',h.n1,h.n2⟩
theorem TG.put_app {i:TGi}(h:TG i σ L G)(L':List (List UInt8))(G':List zK)(τ:List AObj):zhl i (σ++τ) L' G'=zhl i σ L' G'++τ:=by
 unfold zhl;rw[ztb h.tab,ztc (zfj.putTab h.tab h.led h.n1 h.n2 L')]
theorem zkj (i:TGi)(σ:List AObj)(L:List (List UInt8))(G:List zK):(zhl i σ L G).length=σ.length:=by simp[zhl,putTab,putLed]
theorem TG.self {i:TGi}(h:TG i σ L G):zhl i σ L G=σ:=by
 unfold zhl;rw[h.tab.self,h.led.self]
theorem TG.lows {i:TGi}(h:TG i σ L G)(hl:zhm σ.length σ)(L':List (List UInt8))(G':List zK):zhm σ.length (zhl i σ L' G'):=by
 have h1:=h.tab.lows hl L';have h2:=(zfj.putTab h.tab h.led h.n1 h.n2 L').lows (by rw[zpA];exact h1) G';rw[zpA]at h2;exact h2
theorem put_tab_led {i:TGi}{L L':List (List UInt8)}(h:TG i σ L G):putTab σ i.id i.m i.t L'=zhl i σ L' G:=by
 unfold zhl;rw[(zfj.putTab h.tab h.led h.n1 h.n2 L').self]
theorem put_led_tab {i:TGi}{G G':List zK}(h:TG i σ L G):putLed σ i.id2 i.m2 i.t2 G'=zhl i σ L G':=by
 unfold zhl;rw[h.tab.self]
theorem TG.ne {i:TGi}(h:TG i σ L G):[i.id,i.m,i.t,i.id2,i.m2,i.t2].Nodup:=by
 obtain⟨a1,a2,a3⟩:=h.tab.ne;obtain⟨b1,b2,b3⟩:=h.led.ne;obtain⟨⟨c1,c2⟩,⟨d1,d2⟩,⟨e1,e2,e3⟩⟩:=apart2 h.tab h.led h.n1 h.n2;have:=h.n1;have:=h.n2;simp;exact⟨⟨a1,a2,‹_›,c1,c2⟩,⟨a3,d1,‹_›,d2⟩,⟨e1,e2,e3⟩,⟨b1,b2⟩,b3⟩
theorem TG.other {i:TGi}{k:Nat}(hk:k≠i.id/\k≠i.m/\k≠i.t/\k≠i.id2/\k≠i.m2/\k≠i.t2)(L:List (List UInt8))(G:List zK):(zhl i σ L G)[k]? = σ[k]?:=by
 obtain⟨h1,h2,h3,h4,h5,h6⟩:=hk;unfold zhl putTab putLed;rw[List.getElem?_set_ne (Ne.symm h4),List.getElem?_set_ne (Ne.symm h6),List.getElem?_set_ne (Ne.symm h5),List.getElem?_set_ne (Ne.symm h2),List.getElem?_set_ne (Ne.symm h1),List.getElem?_set_ne (Ne.symm h3)]
theorem TG.put_put {i:TGi}(h:TG i σ L G)(L1 L2:List (List UInt8))(G1 G2:List zK):zhl i (zhl i σ L1 G1) L2 G2=zhl i σ L2 G2:=by
 have h1:=(h.put L1 G1).put L2 G2;have h2:=h.put L2 G2;apply List.ext_getElem?;intro k;by_cases e1:k=i.id
 ·subst e1;rw[h1.tab.box,h2.tab.box]
 by_cases e2:k=i.m
 ·subst e2;rw[h1.tab.map,h2.tab.map]
 by_cases e3:k=i.t
 ·subst e3;rw[h1.tab.tok,h2.tab.tok]
 by_cases e4:k=i.id2
 ·subst e4;rw[h1.led.box,h2.led.box]
 by_cases e5:k=i.m2
 ·subst e5;rw[h1.led.map,h2.led.map]
 by_cases e6:k=i.t2
 ·subst e6;rw[h1.led.tok,h2.led.tok]
 rw[TG.other ⟨e1,e2,e3,e4,e5,e6⟩,TG.other ⟨e1,e2,e3,e4,e5,e6⟩,TG.other ⟨e1,e2,e3,e4,e5,e6⟩]
structure LoopR where
 e:Int
 L:List (List UInt8)
 G:List zK
 out:List zhQ
structure zyk where
 m:zbj
 e:Int
 L:List (List UInt8)
 G:List zK
variable {σ:List AObj} {L:List (List UInt8)} {G:List zK}
theorem c_auSign {i:TGi}{key:Int}{b:List UInt8}(h:TG i σ L G)(hL:zmI L)(hbl:b.length<=1073741824)(hg:G.length<=1073741824){K:KT}
  (hK:K (.tup [zuG (sgnS L key b),.d (.int .i64 (zvp L key b))]) (zhl i σ (zfb L b) (zol L G key b))) :
  zP zre [.box i.id 0,.box i.id2 0,.d (.int .i64 key),.d (.slice (bcs b))] σ K:=by
 refine acE4 e_auth_sign fun hl=>?_;simp only[zxA,iN,bT,bF,eN];refine zG ?_;refine c_tSum (h.tab.app _) hbl hL.len ?_;rw[ztb h.tab,put_tab_led h];have h1:=h.put (zfb L b) G;have hl1:=h.lows hl (zfb L b) G;have hs1:=zkj i σ (zfb L b) G;have hpp:=h.put_put (zfb L b) (zfb L b) G (zol L G key b);obtain⟨S1,hS1⟩:∃S,zhl i σ (zfb L b) G=S:=⟨_,rfl⟩;rw[hS1]at h1 hl1 hs1 hpp ⊢;have r1:σ.length=S1.length:=hs1.symm;rw[r1]at hl1;by_cases hz:zgw L b=0
 ·have hq:(zgw L b==0)=true:=by simpa using hz
  simp only[zvp,sgnS,zol,if_pos hz,zuG,hS1]at hK;refine zm (zd hq r1) ?_;refine zeX rfl ?_ hl1 hK;simp[zgQ,dmT,dm,dm1,zck,zbw,zfs]
 ·have hq:(zgw L b==0)=false:=by simpa using hz
  rw[← hpp]at hK;simp only[zvp,sgnS,zol,if_neg hz]at hK;refine zm (zd hq r1) ?_;refine c_gSign (h1.led.app _) hg ?_;rw[ztc h1.led,put_led_tab h1];have h2:=h1.put (zfb L b) (zgn G key (zgw L b));have hl2:=h1.lows hl1 (zfb L b) (zgn G key (zgw L b));have hs2:=zkj i S1 (zfb L b) (zgn G key (zgw L b));obtain⟨S2,hS2⟩:∃S,zhl i S1 (zfb L b) (zgn G key (zgw L b))=S:=⟨_,rfl⟩;rw[hS2]at hK hs2 hl2 h2 ⊢;have r3:S1.length=S2.length:=hs2.symm;have r2:σ.length=S2.length:=r1.trans r3;rw[r3]at hl2;simp only[zuG]at hK ⊢;refine zm (zd r2 r3) ?_;refine zeX rfl ?_ hl2 hK;simp[zgQ,dmT,dm,dm1,zck,zbw,zfs]
theorem sgnG_len (L:List (List UInt8))(G:List zK)(key:Int)(b:List UInt8):(zol L G key b).length<=G.length+1:=by
 unfold zol zgn zvP;split
 ·omega
 ·split
  ·split
   ·omega
   ·simp
  ·omega
variable {σ:List AObj}
theorem zxO {A B:Prop}(a:A)(b:B):A/\B:=⟨a,b⟩
theorem gq33 {A P Q:Prop}(a:A)(h:Q)(e:A->P=Q:=by intro a;simp -dsimp only[↓zlC,↓zbR,↓zeb,↓zlD,↓zlu,↓zls,↓zlv,↓zlt,↓zeg,↓zec,↓zeh,↓zed,↓zlw,↓zdX,↓zei,↓zee,↓zej,↓zef,↓zlq,↓zlA,↓zdW,↓zem,↓zli,↓zlh,↓zln,iN,bT,bF,eN,↓zev,↓unC,↓zaC,↓zai,↓zaj,↓zav,↓zaW,↓zah,↓zgy,↓zaw,↓zbd,↓zad,↓ze,↓zl,↓zbg,↓zc,↓zaV,↓zN,↓zbS,↓zcl,↓zf,↓zF,↓zp,↓zM,↓zaB,↓zgF,↓zhG,↓zbc,↓zbz,↓zcf,↓zcz,↓zdj,↓zJ,↓zbb,↓zak,↓zO,↓zaU,zho,zdP,zdy,unA,zgu,bnd,ziP,zaO,zL,zhY,dm,dm1,zH,zaJ,zjT,zjS,keepO,Q0,Q1,Q2,Q3,Q4,Q5,zba,zA,zB,zX,zaa,Q6,Q7,Q8,Q9,Q10,Q11,Q12,Q13,Q14,Nat.reduceAdd,Q15,Int.reduceToNat,Q16,Q17,Q18,Q19,Q20,reduceIte,Q21,Q22,zy,rep,zaq,zhV,toD,zaD,Q23,Q24,Q25,Q26,Q27,Q28,Nat.reduceLeDiff,Q29,Nat.reduceSub,Q30,Q31,Q32,sc,Q33,Q34,Q35,a];rfl):P:=(e a).mpr h
theorem zwV {f:Int}{K:KT}(hK:K (.d (.int .i64 (zhh f))) σ):zP ziF [.d (.int .i64 f)] σ K:=by
 refine zey zyb fun hl=>?_;simp only[zqL,iN,bT,bF,eN];cases h1:decide (f<1)<;>cases h2:decide (f>4);all_goals
  (refine gq33 (zxO h1 h2) ?_;try with_reducible exact True.intro)
  refine zu hl ?_
  simp only[decide_eq_true_eq,decide_eq_false_iff_not]at h1 h2
 ·rw[zhh,if_neg (by omega)]at hK;exact hK
 all_goals(rw[zhh,if_pos (by omega)]at hK;exact hK)
theorem zsy {f:Int}{K:KT}(hK:K (.d (.int .i64 (zhh f))) σ):zP zko [.d (.int .i64 f)] σ K:=by
 refine zey e_r12_Check fun hl=>?_;simp only[zxl,iN,bT,bF,eN];cases h1:decide (f<1)<;>cases h2:decide (f>4);all_goals
  (refine gq33 (zxO h1 h2) ?_;try with_reducible exact True.intro)
  refine zu hl ?_
  simp only[decide_eq_true_eq,decide_eq_false_iff_not]at h1 h2
 ·rw[zhh,if_neg (by omega)]at hK;exact hK
 all_goals(rw[zhh,if_pos (by omega)]at hK;exact hK)
theorem gq34 {P Q:Prop}(h:Q)(e:P=Q:=by simp -dsimp only[↓zlC,↓zbR,↓zeb,↓zlD,↓zlu,↓zls,↓zlv,↓zlt,↓zeg,↓zec,↓zeh,↓zed,↓zlw,↓zdX,↓zei,↓zee,↓zej,↓zef,↓zlq,↓zlA,↓zdW,↓zem,↓zli,↓zlh,↓zln,iN,bT,bF,eN,↓zev,↓unC,↓zaC,↓zai,↓zaj,↓zav,↓zaW,↓zah,↓zgy,↓zaw,↓zbd,↓zad,↓ze,↓zl,↓zbg,↓zc,↓zaV,↓zN,↓zbS,↓zcl,↓zf,↓zF,↓zp,↓zM,↓zaB,↓zgF,↓zhG,↓zbc,↓zbz,↓zcf,↓zcz,↓zdj,↓zJ,↓zbb,↓zak,↓zO,↓zaU,zho,zdP,zdy,unA,zgu,bnd,ziP,zaO,zL,zhY,dm,dm1,zH,zaJ,zjT,zjS,keepO,Q0,Q1,Q2,Q3,Q4,Q5,zba,zA,zB,zX,zaa,Q6,Q7,Q8,Q9,Q10,Q11,Q12,Q13,Q14,Nat.reduceAdd,Q15,Int.reduceToNat,Q16,Q17,Q18,Q19,Q20,reduceIte,Q21,Q22,zy,rep,zaq,zhV,toD,zaD,Q23,Q24,Q25,Q26,Q27,Q28,Nat.reduceLeDiff,Q29,Nat.reduceSub,Q30,Q31,Q32,sc,Q33,Q34,Q35];rfl):P:=e.mpr h
theorem c_times {n f:Int}(hn:0<=n/\n<=3){K:KT}(hK:K (.d (.int .i64 (zfD n f))) σ):zP ziE [.d (.int .i64 n),.d (.int .i64 f)] σ K:=by
 refine zen zxZ fun hl=>?_;simp only[zqJ,iN,bT,bF,eN];(refine gq34 ?_;try with_reducible exact True.intro);refine zwV ?_;by_cases h:f<1∨f>4
 ·rw[zfD,if_pos h]at hK;rw[zhh,if_pos h];(refine gq33 (show((120:Int) != 0)=true from rfl) ?_;try with_reducible exact True.intro);refine zu hl ?_;exact hK
 ·rw[zfD,if_neg h]at hK;rw[zhh,if_neg h];have h1:0<=n*f:=Int.mul_nonneg hn.1 (by omega);have h2:n*f<=3*4:=Int.mul_le_mul hn.2 (by omega) (by omega) (by omega);have w1:IntKind.i64.wrap (n*f)=n*f:=zaT (by omega) (by omega);have w2:IntKind.i64.wrap (n*f+1)=n*f+1:=zaT (by omega) (by omega);(refine gq33 (zxO (show((0:Int) != 0)=false from rfl) (zxO w1 w2)) ?_;try with_reducible exact True.intro);refine zu hl ?_;exact hK
theorem zwW {f:Int}{K:KT}(hK:K (.d (.int .i64 (zfD 3 f))) σ):zP zjo [.d (.int .i64 f)] σ K:=by
 refine zey zvc fun hl=>?_;simp only[znQ,iN,bT,bF,eN];(refine gq34 ?_;try with_reducible exact True.intro);refine c_times (by omega) ?_;(refine gq34 ?_;try with_reducible exact True.intro);refine zu hl ?_;exact hK
theorem zze {f:Int}{K:KT}(hK:K (.d (.int .i64 (zfD 3 f))) σ):zP zjP [.d (.int .i64 f)] σ K:=by
 refine zey zAt fun hl=>?_;simp only[zsJ,iN,bT,bF,eN];(refine gq34 ?_;try with_reducible exact True.intro);refine zsy ?_;by_cases h:f<1∨f>4
 ·rw[zfD,if_pos h]at hK;rw[zhh,if_pos h];(refine gq33 (show((120:Int) != 0)=true from rfl) ?_;try with_reducible exact True.intro);refine zu hl ?_;exact hK
 ·rw[zfD,if_neg h]at hK;rw[zhh,if_neg h];have w1:IntKind.i64.wrap (3*f)=3*f:=zaT (by omega) (by omega);have w2:IntKind.i64.wrap (3*f+1)=3*f+1:=zaT (by omega) (by omega);(refine gq33 (zxO (show((0:Int) != 0)=false from rfl) (zxO w1 w2)) ?_;try with_reducible exact True.intro);refine zu hl ?_;exact hK
structure smallP (p:zjY):Prop where
 ops:∀x∈p.batch,zmW x.op<=20971520
 batch:p.batch.length<=1073741824
 signs:p.signs.length<=1073741824
variable {σ:List AObj}
theorem c_clSign {l:List zK}(hn:l.length<=1073741824){K:KT}(hK:K (.d (.slice (zat l))) σ):zP zbC [.d (.slice (zat l))] σ K:=by
 refine zey zhX fun hl=>?_;have hlen:(zat l).length=l.length:=List.length_map ..;have h2:∀e∈zat l,e.length=2:=zjj (f:=zgo) (fun _=>rfl) l;simp only[zex,iN,bT,bF,eN,zaB,zgu];obtain⟨es,hes⟩:∃es,zat l=es:=⟨_,rfl⟩;rw[hes]at hlen h2 hK ⊢;cases es with
 | nil=>
  refine⟨?_,?_⟩
  ·refine zG ?_
   refine zu hl ?_
   exact hK
  ·refine zG ?_
   refine zu hl ?_
   exact hK
 | cons e es=>
  simp only[zaC,zO,zH,zL,rep,zp,zhV,zaD,zM,zhY]
  refine⟨h2,by simp,by rw[hlen];simp;omega,?_⟩
  refine zu hl ?_
  exact hK
abbrev hE (l:List (Int × zjY)):List (AV × AV):=ents (l.map fun e=>(e.1,prepA e.2))
structure HeldAt (σ:List AObj) (h m:Nat) (l:List (Int × zjY)):Prop where
 box:σ[h]? = some (.box [.map m])
 map:σ[m]? = some (.map (hE l))
theorem HeldAt.app {h m:Nat}{l:List (Int × zjY)}(H:HeldAt σ h m l)(τ:List AObj):HeldAt (σ++τ) h m l:=⟨zi H.box,zi H.map⟩
variable {σ:List AObj}
theorem gq35 {P Q:Prop}(h:Q)(e:Hd Q->P:=by intro h;(repeat' first|simp -dsimp only[↓zlC,↓zbR,↓zeb,↓zlD,↓zlu,↓zls,↓zlv,↓zlt,↓zeg,↓zec,↓zeh,↓zed,↓zlw,↓zdX,↓zei,↓zee,↓zej,↓zef,↓zlq,↓zlA,↓zdW,↓zem,↓zli,↓zlh,↓zln,iN,bT,bF,eN,↓zev,↓unC,↓zaC,↓zai,↓zaj,↓zav,↓zaW,↓zah,↓zgy,↓zaw,↓zbd,↓zad,↓ze,↓zl,↓zbg,↓zc,↓zaV,↓zN,↓zbS,↓zcl,↓zf,↓zF,↓zp,↓zM,↓zaB,↓zgF,↓zhG,↓zbc,↓zbz,↓zcf,↓zcz,↓zdj,↓zJ,↓zbb,↓zak,↓zO,↓zaU,zho,zdP,zdy,unA,zgu,bnd,ziP,zaO,zL,zhY,dm,dm1,zH,zaJ,zjT,zjS,keepO,Q0,Q1,Q2,Q3,Q4,Q5,zba,zA,zB,zX,zaa,Q6,Q7,Q8,Q9,Q10,Q11,Q12,Q13,Q14,Nat.reduceAdd,Q15,Int.reduceToNat,Q16,Q17,Q18,Q19,Q20,reduceIte,Q21,Q22,zy,rep,zaq,zhV,toD,zaD,Q23,Q24,Q25,Q26,Q27,Q28,Nat.reduceLeDiff,Q29,Nat.reduceSub,Q30,Q31,Q32,sc,Q33,Q34,Q35,Q36,Q37,Q26,Q38,Q39,zuP,zuM,zuJ,zuQ,zjr,zuN,zuK,zuO,zuL,zjq,zjs,zuS,zuT,Bool.not_true,Bool.not_false,List.length_map,Bool.and_false,Bool.and_self,Bool.false_and,Bool.not_false,Bool.not_true,Bool.true_and,Int.toNat_natCast,Int.toNat_zero,List.drop_zero,List.length_map,List.length_nil,List.nil_append,List.take_length,Nat.sub_zero,Nat.zero_add,Option.isSome_none,Option.isSome_some,Option.map_none,Option.map_some,zhP,zam,beq_self_eq_true,bft,bne_self_eq_false,btf,zuU,zhY]|with_reducible refine zvh ?_|fail);exact h.go):P:=e ⟨h⟩
theorem c_clChangeM {es:List (List D)}(h8:∀e∈es,e.length=8)(hn:es.length<=1073741824){K:KT}(hK:∀g,K (.rsl σ.length g 8 0 es.length) (σ++[.row g 8 (zcE es)])) :
  zP zbZ [.d (.slice es)] σ K:=by
 refine ACall.weaken ?_;refine zbM zde.is rfl (fun s=>List.range' σ.length (s.length-σ.length)) fun hl _=>zde.goes ?_;have fin:∀g,zsR σ.length (fun s=>List.range' σ.length (s.length-σ.length)) (fun r s=>∃r' s',zqk [r] s [r'] s'∧K r' s') (some [.rsl σ.length g 8 0 es.length]) (σ++[.row g 8 (zcE es)]):=fun g=>
  zdk (σ':=σ) (os:=[.row g 8 (zcE es)]) rfl (by simp) hl (by intro x hx;simp only[List.mem_cons,List.not_mem_nil,or_false]at hx;subst hx;exact zmt _ _) (.rsl _ _ _ _ _ (by simp)) ⟨_,_,.refl _ _,hK g⟩
 simp only[zdf,iN,bT,bF,eN,zl6];cases es with
 | nil=>
  simp only[zaB,zgu]
  refine⟨?_,?_⟩
  ·refine zG ?_
   refine zno (r:=.exact []) (by simp) hl rfl ?_
   exact⟨.rsl σ.length 0 8 0 0,σ++[.row 0 8 []],.row 0 8 rfl (by omega) (.refl _ _),hK 0⟩
  ·refine gq35 ?_
   exact fin 1
 | cons e es=>
  simp only[zaB,zgu]
  refine gq35 ?_
  exact⟨by simp at hn;omega,fin 1⟩
theorem c_clEntryM {es:List (List D)}(h8:∀e∈es,e.length=5)(hn:es.length<=1073741824){K:KT}(hK:∀g,K (.rsl σ.length g 5 0 es.length) (σ++[.row g 5 (zcE es)])) :
  zP zci [.d (.slice es)] σ K:=by
 refine ACall.weaken ?_;refine zbM zdG.is rfl (fun s=>List.range' σ.length (s.length-σ.length)) fun hl _=>zdG.goes ?_;have fin:∀g,zsR σ.length (fun s=>List.range' σ.length (s.length-σ.length)) (fun r s=>∃r' s',zqk [r] s [r'] s'∧K r' s') (some [.rsl σ.length g 5 0 es.length]) (σ++[.row g 5 (zcE es)]):=fun g=>
  zdk (σ':=σ) (os:=[.row g 5 (zcE es)]) rfl (by simp) hl (by intro x hx;simp only[List.mem_cons,List.not_mem_nil,or_false]at hx;subst hx;exact zmt _ _) (.rsl _ _ _ _ _ (by simp)) ⟨_,_,.refl _ _,hK g⟩
 simp only[zdK,iN,bT,bF,eN];cases es with
 | nil=>
  simp only[zaB,zgu]
  refine⟨?_,?_⟩
  ·refine zG ?_
   refine zno (r:=.exact []) (by simp) hl rfl ?_
   exact⟨.rsl σ.length 0 5 0 0,σ++[.row 0 5 []],.row 0 5 rfl (by omega) (.refl _ _),hK 0⟩
  ·refine gq35 ?_
   exact fin 1
 | cons e es=>
  simp only[zaB,zgu]
  refine gq35 ?_
  exact⟨by simp at hn;omega,fin 1⟩
theorem c_clPrepM {es:List (List D)}(h8:∀e∈es,e.length=7)(hn:es.length<=1073741824){K:KT}(hK:∀g,K (.rsl σ.length g 7 0 es.length) (σ++[.row g 7 (zcE es)])) :
  zP zbx [.d (.slice es)] σ K:=by
 refine ACall.weaken ?_;refine zbM zcL.is rfl (fun s=>List.range' σ.length (s.length-σ.length)) fun hl _=>zcL.goes ?_;have fin:∀g,zsR σ.length (fun s=>List.range' σ.length (s.length-σ.length)) (fun r s=>∃r' s',zqk [r] s [r'] s'∧K r' s') (some [.rsl σ.length g 7 0 es.length]) (σ++[.row g 7 (zcE es)]):=fun g=>
  zdk (σ':=σ) (os:=[.row g 7 (zcE es)]) rfl (by simp) hl (by intro x hx;simp only[List.mem_cons,List.not_mem_nil,or_false]at hx;subst hx;exact zmt _ _) (.rsl _ _ _ _ _ (by simp)) ⟨_,_,.refl _ _,hK g⟩
 simp only[zcN,iN,bT,bF,eN,zl7];cases es with
 | nil=>
  simp only[zaB,zgu]
  refine⟨?_,?_⟩
  ·refine zG ?_
   refine zno (r:=.exact []) (by simp) hl rfl ?_
   exact⟨.rsl σ.length 0 7 0 0,σ++[.row 0 7 []],.row 0 7 rfl (by omega) (.refl _ _),hK 0⟩
  ·refine gq35 ?_
   exact fin 1
 | cons e es=>
  simp only[zaB,zgu]
  refine gq35 ?_
  exact⟨by simp at hn;omega,fin 1⟩
theorem c_clHdr {es:List (List D)}(h8:∀e∈es,e.length=5)(hn:es.length<=1073741824){K:KT}(hK:K (.d (.slice es)) σ) :
  zP zbX [.d (.slice es)] σ K:=by
 refine zey zgL fun hl=>?_;simp only[zds,iN,bT,bF,eN,zaB,zgu];cases es with
 | nil=>
  refine⟨?_,?_⟩
  ·refine zG ?_
   refine zu hl ?_
   exact hK
  ·refine zG ?_
   refine zu hl ?_
   exact hK
 | cons e es=>
  simp only[zaC,zO,zH,zL,rep,zp,zhV,zaD,zM,zhY]
  refine⟨h8,by simp,by simp at hn ⊢;omega,?_⟩
  refine zu hl ?_
  exact hK
theorem c_clDig {es:List (List D)}(h8:∀e∈es,e.length=1)(hn:es.length<=1073741824){K:KT}(hK:K (.d (.slice es)) σ) :
  zP zbY [.d (.slice es)] σ K:=by
 refine zey zgM fun hl=>?_;simp only[zdt,iN,bT,bF,eN,zaB,zgu];cases es with
 | nil=>
  refine⟨?_,?_⟩
  ·refine zG ?_
   refine zu hl ?_
   exact hK
  ·refine zG ?_
   refine zu hl ?_
   exact hK
 | cons e es=>
  simp only[zaC,zO,zH,zL,rep,zp,zhV,zaD,zM,zhY]
  refine⟨h8,by simp,by simp at hn ⊢;omega,?_⟩
  refine zu hl ?_
  exact hK
theorem c_clByt {es:List (List D)}(h8:∀e∈es,e.length=1)(hn:es.length<=1073741824){K:KT}(hK:K (.d (.slice es)) σ) :
  zP zcT [.d (.slice es)] σ K:=by
 refine zey zns fun hl=>?_;simp only[znB,iN,bT,bF,eN,zaB,zgu];cases es with
 | nil=>
  refine⟨?_,?_⟩
  ·refine zG ?_
   refine zu hl ?_
   exact hK
  ·refine zG ?_
   refine zu hl ?_
   exact hK
 | cons e es=>
  simp only[zaC,zO,zH,zL,rep,zp,zhV,zaD,zM,zhY]
  refine⟨h8,by simp,by simp at hn ⊢;omega,?_⟩
  refine zu hl ?_
  exact hK
theorem znw {c:zjt}(hn:c.signs.length<=1073741824){K:KT}(hK:K (zhL c) σ):zP zdC [zhL c] σ K:=by
 refine zey zrq fun hl=>?_;simp only[zkT,iN,bT,bF,eN,zhL];refine zG ?_;refine c_clSign hn ?_;refine zG ?_;refine zu hl ?_;exact hK
theorem zzW {α:Type}{l:List α}{i:Nat}{x:α}(h:l[i]? = some x):l.take i++x::l.drop (i+1)=l:=by
 obtain⟨hi,hx⟩:=List.getElem?_eq_some_iff.1 h;rw[← hx,← List.drop_eq_getElem_cons hi,List.take_append_drop]
theorem row_same8 {es:List (List D)}{sz k:Nat}{e:List D}(h:∀e∈es,e.length=sz)(he:es[k]? = some e):(zcE es).take (k*sz)++(e.map AV.d++(zcE es).drop (k*sz+sz))=zcE es:=by
 have h1:=zwp h he;rw[← h1,← List.drop_drop,List.take_append_drop,List.take_append_drop]
variable {σ:List AObj}
theorem zwT {a b:List zK}(ha:a.length<=1073741824){K:KT}(hK:K (.d (.bool (decide (a=b)))) σ) :
  zP zhw [.d (.slice (zat a)),.d (.slice (zat b))] σ K:=by
 refine zen zwz fun hl=>?_;have fin:∀z:Bool,decide (a=b)=z->K (.d (.bool z)) σ:=fun z hz=>by rw[← hz];exact hK
 clear hK;simp only[zpd,iN,bT,bF,eN];(refine gq11 ?_;try with_reducible exact True.intro);by_cases hl2:a.length=b.length
 ·have hne:((a.length:Int) != (b.length:Int))=false:=by simp[hl2]
  (refine gq10 hne ?_;try with_reducible exact True.intro);refine zn a.length (fun k vs s=>vs=[.d (.int .i64 k)]/\s=σ/\a.take k=b.take k) ⟨rfl,rfl,by simp⟩ ?_;rintro k vs s hk ⟨rfl,rfl,htk⟩;(refine gq11 ?_;try with_reducible exact True.intro);refine zV (fun h=>?_) (fun h=>?_)
  ·have hka:k<a.length:=by simp at h;omega
   have hx:a[k]? = some a[k]:=by simp[hka]
   have hy:b[k]? = some (b[k]'(by omega)):=List.getElem?_eq_getElem _;have hgx:=zQ (f:=zgo) hx;have hgy:=zQ (f:=zgo) hy;obtain⟨x,hxe⟩:∃x,a[k]=x:=⟨_,rfl⟩;obtain⟨y,hye⟩:∃y,b[k]'(by omega)=y:=⟨_,rfl⟩;rw[hxe]at hgx hx;rw[hye]at hgy hy;have hxy:x=y↔x.key=y.key/\x.dig=y.dig:=by cases x;cases y;simp
   cases h2:(x.key==y.key&&x.dig==y.dig)
   ·(refine gq14 (zjV hgx (zjV hgy h2)) ?_;try with_reducible exact True.intro);repeat'((with_reducible refine And.intro ?_ ?_);focus(first|omega|rfl|decide))
    try(refine gq14 (zjV hgx (zjV hgy h2)) ?_;try with_reducible exact True.intro)
    refine zu hl ?_;refine fin _ (decide_eq_false (by rintro rfl;rw[hx]at hy;have:=hxy.1 (Option.some.inj hy);simp[this.1,this.2]at h2))
   ·(refine gq14 (zjV hgx (zjV hgy h2)) ?_;try with_reducible exact True.intro);repeat'((with_reducible refine And.intro ?_ ?_);focus(first|omega|rfl|decide))
    try(refine gq14 (zjV hgx (zjV hgy h2)) ?_;try with_reducible exact True.intro)
    simp only[Bool.and_eq_true,beq_iff_eq]at h2;refine zaF.next hka ⟨?_,rfl,zbs hx hy htk (hxy.2 h2)⟩;rw[show(k:Int)+1=((k+1:Nat):Int) by omega,zaT (by omega) (by omega)]
  ·refine zu hl ?_;refine fin _ (decide_eq_true (zct hl2 (k:=k) (by simp at h;omega) htk))
 ·have hne:((a.length:Int) != (b.length:Int))=true:=by simp;omega
  (refine gq10 hne ?_;try with_reducible exact True.intro);refine zu hl ?_;exact fin _ (decide_eq_false (by rintro rfl;exact hl2 rfl))
theorem ztN {a b:zjt}(ha:a.signs.length<=1073741824){K:KT}(hK:K (.d (.bool (decide (a=b)))) σ) :
  zP zgE [zhL a,zhL b] σ K:=by
 refine zen zxX fun hl=>?_;have fin:∀z:Bool,decide (a=b)=z->K (.d (.bool z)) σ:=fun z hz=>by rw[← hz];exact hK
 clear hK;have hab:a=b↔a.seq=b.seq/\a.dig=b.dig/\a.signs=b.signs:=by cases a;cases b;simp
 simp only[zqG,iN,bT,bF,eN];cases h1:(a.seq==b.seq)
 ·(refine gq10 h1 ?_;try with_reducible exact True.intro);refine zu hl ?_;refine fin _ (decide_eq_false fun h=>?_);simp[(hab.1 h).1]at h1
 cases h2:(a.dig==b.dig)
 ·(refine gq10 (zjV h1 h2) ?_;try with_reducible exact True.intro);refine zu hl ?_;refine fin _ (decide_eq_false fun h=>?_);simp[(hab.1 h).2.1]at h2
 (refine gq10 (zjV h1 h2) ?_;try with_reducible exact True.intro);refine zwT ha ?_;(refine gq9 ?_;try with_reducible exact True.intro);refine zu hl ?_;refine fin _ ?_;simp only[beq_iff_eq]at h1 h2;by_cases h3:a.signs=b.signs
 ·rw[decide_eq_true h3,decide_eq_true (hab.2 ⟨h1,h2,h3⟩)]
 ·rw[decide_eq_false h3,decide_eq_false (fun h=>h3 (hab.1 h).2.2)]
theorem zAF {a b:List zhQ}(ha:a.length<=1073741824)(hA:∀x∈a,zgx x.batch)(hB:∀x∈b,zgx x.batch){K:KT}(hK:K (.d (.bool (decide (a=b)))) σ) :
  zP ziq [.d (.slice (zbq a)),.d (.slice (zbq b))] σ K:=by
 refine zen ztE fun hl=>?_;have fin:∀z:Bool,decide (a=b)=z->K (.d (.bool z)) σ:=fun z hz=>by rw[← hz];exact hK
 clear hK;simp only[zmM,iN,bT,bF,eN];(refine gq11 ?_;try with_reducible exact True.intro);by_cases hl2:a.length=b.length
 ·have hne:((a.length:Int) != (b.length:Int))=false:=by simp[hl2]
  (refine gq10 hne ?_;try with_reducible exact True.intro);refine zn a.length (fun k vs s=>vs=[.d (.int .i64 k)]/\s=σ/\a.take k=b.take k) ⟨rfl,rfl,by simp⟩ ?_;rintro k vs s hk ⟨rfl,rfl,htk⟩;(refine gq11 ?_;try with_reducible exact True.intro);refine zV (fun h=>?_) (fun h=>?_)
  ·have hka:k<a.length:=by simp at h;omega
   have hx:a[k]? = some a[k]:=by simp[hka]
   have hy:b[k]? = some (b[k]'(by omega)):=List.getElem?_eq_getElem _;have ax:=hA _ (List.getElem_mem hka);have bx:=hB _ (List.getElem_mem (show k<b.length by omega));have hgx:=zQ (f:=zdd) hx;have hgy:=zQ (f:=zdd) hy;obtain⟨x,hxe⟩:∃x,a[k]=x:=⟨_,rfl⟩;obtain⟨y,hye⟩:∃y,b[k]'(by omega)=y:=⟨_,rfl⟩;rw[hxe]at hgx hx ax;rw[hye]at hgy hy bx;have hxy:x=y↔x.view=y.view/\x.seq=y.seq/\(x.key=y.key/\x.dig=y.dig)/\x.batch=y.batch:=by cases x;cases y;simp;grind
   have neq:¬(x.view=y.view/\x.seq=y.seq/\(x.key=y.key/\x.dig=y.dig)/\x.batch=y.batch)->K (.d (.bool false)) s:=fun h=>fin _ (decide_eq_false (by rintro rfl;rw[hx]at hy;exact h (hxy.1 (Option.some.inj hy))));cases h1:(x.view != y.view);rotate_left
   ·(refine gq14 (zjV hgx (zjV hgy h1)) ?_;try with_reducible exact True.intro);repeat'((with_reducible refine And.intro ?_ ?_);focus(first|omega|rfl|decide))
    try(refine gq14 (zjV hgx (zjV hgy h1)) ?_;try with_reducible exact True.intro)
    refine zu hl ?_;refine neq (fun h=>?_);simp[h.1]at h1
   cases h2:(x.seq != y.seq);rotate_left
   ·(refine gq14 (zjV hgx (zjV hgy (zjV h1 h2))) ?_;try with_reducible exact True.intro);repeat'((with_reducible refine And.intro ?_ ?_);focus(first|omega|rfl|decide))
    try(refine gq14 (zjV hgx (zjV hgy (zjV h1 h2))) ?_;try with_reducible exact True.intro)
    refine zu hl ?_;refine neq (fun h=>?_);simp[h.2.1]at h2
   cases h3:(x.key==y.key&&x.dig==y.dig)
   ·(refine gq14 (zjV hgx (zjV hgy (zjV h1 (zjV h2 h3)))) ?_;try with_reducible exact True.intro);repeat'((with_reducible refine And.intro ?_ ?_);focus(first|omega|rfl|decide))
    try(refine gq14 (zjV hgx (zjV hgy (zjV h1 (zjV h2 h3)))) ?_;try with_reducible exact True.intro)
    refine zu hl ?_;refine neq (fun h=>?_);simp[h.2.2.1.1,h.2.2.1.2]at h3
   (refine gq14 (zjV hgx (zjV hgy (zjV h1 (zjV h2 h3)))) ?_;try with_reducible exact True.intro);repeat'((with_reducible refine And.intro ?_ ?_);focus(first|omega|rfl|decide))
   try(refine gq14 (zjV hgx (zjV hgy (zjV h1 (zjV h2 h3)))) ?_;try with_reducible exact True.intro)
   refine zAG ax bx ?_;by_cases h4:x.batch=y.batch
   ·rw[decide_eq_true h4];(refine gq11 ?_;try with_reducible exact True.intro);simp only[Bool.and_eq_true,beq_iff_eq,bne_eq_false_iff_eq]at h1 h2 h3;refine zaF.next hka ⟨?_,rfl,zbs hx hy htk (hxy.2 ⟨h1,h2,h3,h4⟩)⟩;rw[show(k:Int)+1=((k+1:Nat):Int) by omega,zaT (by omega) (by omega)]
   ·rw[decide_eq_false h4];(refine gq11 ?_;try with_reducible exact True.intro);refine zu hl ?_;exact neq (fun h=>h4 h.2.2.2)
  ·refine zu hl ?_;refine fin _ (decide_eq_true (zct hl2 (k:=k) (by simp at h;omega) htk))
 ·have hne:((a.length:Int) != (b.length:Int))=true:=by simp;omega
  (refine gq10 hne ?_;try with_reducible exact True.intro);refine zu hl ?_;exact fin _ (decide_eq_false (by rintro rfl;exact hl2 rfl))
variable {σ:List AObj}
theorem ztv {n₀ m t g sz:Nat}{es:List (List D)}(ht:σ[t]? = some (.row g sz (zcE es)))(hn:n₀<=t)(h:∀e∈es,e.length=sz):frz σ n₀ (m+2) (.rsl t g sz 0 es.length)=some (.slice es):=by
 have hf:∀ds:List D,allO ((ds.map AV.d).map (frz σ n₀ (m+1)))=some ds:=by
  intro ds;induction ds with
  | nil=>rfl
  | cons d ds ih=>
   have:frz σ n₀ (m+1) (.d d)=some d:=rfl
   simp only[List.map_cons,this,allO,ih]
 have hc:∀(es:List (List D)),(∀e∈es,e.length=sz)->zaD sz es.length es.flatten=es:=by
  intro es;induction es with
  | nil=>intro _;rfl
  | cons e es ih=>
   intro h
   have he:=h e List.mem_cons_self
   simp only[List.length_cons,zaD,List.flatten_cons]
   rw[List.take_left' he,List.drop_left' he,ih fun x hx=>h x (List.mem_cons_of_mem _ hx)]
 have hl:(zcE es).length=es.length*sz:=zoG h;simp only[frz,ht,hn,true_and,and_self,if_true,Nat.zero_mul,List.drop_zero,Nat.sub_zero];rw[List.take_of_length_le (by omega),hf];simp only;rw[hc es h]
theorem frz_d (σ:List AObj)(n m:Nat)(x:D):frz σ n m (.d x)=some x:=by cases m<;>rfl
variable {σ:List AObj}
theorem preps_seven (l:List zjY):∀e∈zft l,e.length=7:=zjj (f:=zfy) (fun _=>rfl) l
theorem changes_eight (l:List zbk):∀e∈zap l,e.length=8:=zjj (f:=zag) (fun _=>rfl) l
theorem entries_five (l:List zhQ):∀e∈zbq l,e.length=5:=zjj (f:=zdd) (fun _=>rfl) l
theorem zwX {c:zbk}(hc:zjM c){K:KT}(hK:K (.agg (zbK c)) σ):zP zfM [.agg (zbK c)] σ K:=by
 refine zsH zhZ.is rfl 2 fun hl _=>zhZ.goes ?_;have hlen:(zft c.above).length=c.above.length:=List.length_map ..;have h7:=preps_seven c.above;have hal:=hc.above;simp only[zic,iN,bT,bF,eN,zl6];refine zG ?_;refine znw (c:=c.cert) hc.signs ?_;refine zG ?_;refine c_clPrepM h7 (by omega) fun g=>?_;refine zm hlen ?_;refine zn c.above.length (fun k vs s=>vs=[.d (.int .i64 k)]/\s=σ++[AObj.box [.d (.int .i64 c.view),.d (.int .i64 c.src),.d (.int .i64 c.cert.seq),.d (.int .i64 c.cert.dig),.d (.slice (zat c.cert.signs)),.rsl (σ.length+2) g 7 0 c.above.length,.d (.int .i64 c.key),.d (.int .i64 c.dig)],
  .box [.d (.int .i64 0),.d (.int .i64 0),.d (.int .i64 0),.d (.int .i64 0),.exact [],.exact [],.d (.int .i64 0),.d (.int .i64 0)],.row g 7 (zcE (zft c.above))]) ⟨rfl,by first|rfl|simp⟩ ?_
 rintro k vs s hk ⟨rfl,rfl⟩;by_cases hlt:k<c.above.length
 ·have hd:decide ((k:Int)<(c.above.length:Int))=true:=by simp;omega
  have hx:c.above[k]? = some c.above[k]:=by simp[hlt]
  have hgx:=zQ (f:=zfy) hx;have hsm:=hc.each _ (List.getElem_mem hlt);obtain⟨p,hp⟩:∃p,c.above[k]=p:=⟨_,rfl⟩;rw[hp]at hx hgx hsm;have g5:=ztw h7 hgx (i:=5) (by omega);have g6:=ztw h7 hgx (i:=6) (by omega);have s5:=zzW g5;have s6:=zzW g6;have hfl:(zcE (zft c.above)).length=c.above.length*7:=by rw[zoG h7,hlen]
  simp only[zfy,List.getElem?_cons_succ,List.getElem?_cons_zero,Option.map_some]at g5 g6 s5 s6;obtain⟨R,hR⟩:∃R,zcE (zft c.above)=R:=⟨_,rfl⟩;rw[hR]at g5 g6 s5 s6 hfl ⊢;have zz5:k*7+5+1<=R.length:=by omega
  have zz6:k*7+6+1<=R.length:=by omega
  have zk:0<=(k:Int):=by omega
  refine zm (zd hd (zd g5 (zd g6 (zd s5 (zd s6 (zd zk (zd zz5 (zd zz6 hd)))))))) ?_;refine c_clSign hsm.signs ?_;refine zm (zd hd (zd g5 (zd g6 (zd s5 (zd s6 (zd zk (zd zz5 (zd zz6 hd)))))))) ?_;refine zmG (b:=p.batch) hsm.batch ?_;refine zm (zd hd (zd g5 (zd g6 (zd s5 (zd s6 (zd zk (zd zz5 (zd zz6 (wki k (by omega)))))))))) ?_;exact zaF.next hlt ⟨rfl,rfl⟩
 ·have hd:decide ((k:Int)<(c.above.length:Int))=false:=by simp;omega
  refine zm hd ?_;have hr:∀A B:AObj,frz (σ++[A,B,.row g 7 (zcE (zft c.above))]) σ.length 2 (.rsl (σ.length+2) g 7 0 c.above.length)=some (.slice (zft c.above)):=fun A B=>by
   rw[← hlen];exact ztv (m:=0) (by rw[zA];rfl) (by omega) h7
  refine zso (r:=.agg (zbK c)) ?_ hl hK;simp only[zck,frzT,frz1,List.map_cons,List.map_nil,frz_d,hr,allO]
abbrev zero30:List AV:=[.d (.int .i64 0),.d (.int .i64 0),.d (.int .i64 0),.d (.int .i64 0),.d (.int .i64 0),.d (.int .i64 0),.d (.int .i64 0),.d (.int .i64 0),.d (.int .i64 0),.exact [],.d (.int .i64 0),.d (.int .i64 0),.exact [],.exact [],.exact [],.exact [],.d (.str []),.d (.int .i64 0),.d (.str []),.d (.int .i64 0),.exact [],.exact [],.d (.int .i64 0),.d (.int .i64 0),.exact [],.d (.int .i64 0),.d (.int .i64 0),.exact [],.d (.int .i64 0),.d (.int .i64 0)]
abbrev msgL2 (m:zbj) (a b:AV):List AV:=
 [.d (.int .i64 m.kind),.d (.int .i64 m.src),.d (.int .i64 m.view),.d (.int .i64 m.seq),.d (.int .i64 m.dig),.d (.int .i64 m.client),.d (.int .i64 m.time),.d (.int .i64 m.rerr),.d (.int .i64 m.roff),.d (.slice (zbA m.batch)),
  .d (.int .i64 m.cert.seq),.d (.int .i64 m.cert.dig),.d (.slice (zat m.cert.signs)),a,b,.d (.slice (bcs m.state)),.d (.str m.topic),.d (.int .i64 m.offset),
  .d (.str m.proof.topic),.d (.int .i64 m.proof.offset),.d (.slice (bcs m.proof.rec_)),.d (.slice (zmv m.proof.headers)),.d (.int .i64 m.proof.index),.d (.int .i64 m.proof.count),.d (.slice (zgH m.proof.path)),.d (.int .i64 m.proof.cert.seq),.d (.int .i64 m.proof.cert.dig),.d (.slice (zat m.proof.cert.signs)),.d (.int .i64 m.key),.d (.int .i64 m.sdig)]
variable {σ:List AObj}
theorem zxa {n lo hi:Int}{K:KT}(hK:K (.d (.int .i64 (inE n lo hi))) σ):zP zfZ [.d (.int .i64 n),.d (.int .i64 lo),.d (.int .i64 hi)] σ K:=by
 refine acE3 e_r10_in fun hl=>?_;have fin:∀z,inE n lo hi=z->K (.d (.int .i64 z)) σ:=fun z h=>h▸hK;clear hK;simp only[S_r10_in,iN,bT,bF,eN];cases h1:decide (n<lo)
 ·cases h2:decide (n>hi)
  ·refine zm (zd h1 h2) ?_;refine zu hl ?_;exact fin 0 (by rw[inE,if_neg];simp at h1 h2;omega)
  ·refine zm (zd h1 h2) ?_;refine zu hl ?_;exact fin 100 (by rw[inE,if_pos];simp at h1 h2;omega)
 ·refine zm h1 ?_;refine zu hl ?_;exact fin 100 (by rw[inE,if_pos];simp at h1;omega)
theorem ziW {n:Int}{K:KT}(hK:K (.d (.int .i64 (zeP n))) σ):zP zco [.d (.int .i64 n)] σ K:=by
 refine zey e_r10_num fun hl=>?_;simp only[S_r10_num,iN,bT,bF,eN];refine zG ?_;refine zxa ?_;refine zG ?_;refine zu hl ?_;exact hK
theorem zqx {n:Int}{K:KT}(hK:K (.d (.int .i64 (zkl n))) σ):zP zfd [.d (.int .i64 n)] σ K:=by
 refine zey e_r10_pos fun hl=>?_;simp only[S_r10_pos,iN,bT,bF,eN];refine zG ?_;refine zxa ?_;refine zG ?_;refine zu hl ?_;exact hK
theorem c_kName {x:List UInt8}(hx:x.length<=1073741824){K:KT}(hK:K (.d (.int .i64 (zkZ x))) σ):zP zpE [.d (.str x)] σ K:=by
 refine zey e_r10_name fun hl=>?_;have fin:∀z,zkZ x=z->K (.d (.int .i64 z)) σ:=fun z h=>h▸hK;clear hK;simp only[zzw,iN,bT,bF,eN];refine zG ?_;refine c_rName hx ?_;cases h:zdY x
 ·refine zG ?_;refine zu hl ?_;exact fin 61 (by rw[zkZ,if_neg (by simp[h])])
 ·refine zG ?_;refine zu hl ?_;exact fin 0 (by rw[zkZ,if_pos h])
theorem fst_drop {l:List Int}{k:Nat}{x:Int}(hx:l[k]? = some x):zax (l.drop k)=if x≠0 then x else zax (l.drop (k+1)):=by
 have hk:k<l.length:=(List.getElem?_eq_some_iff.1 hx).1;rw[List.drop_eq_getElem_cons hk,(List.getElem?_eq_some_iff.1 hx).2];rfl
theorem zeE {l:List Int}(hl0:l.length<=1073741824){K:KT}(hK:K (.d (.int .i64 (zax l))) σ):zP zbu [.d (.slice (zgH l))] σ K:=by
 refine zey e_r10_first fun hl=>?_;have fin:∀z,zax l=z->K (.d (.int .i64 z)) σ:=fun z h=>h▸hK;clear hK;have hlen:(zgH l).length=l.length:=List.length_map ..;simp only[zxp,iN,bT,bF,eN];refine zn l.length (fun k vs s=>vs=[.d (.int .i64 k)]/\s=σ/\zax l=zax (l.drop k)) ⟨rfl,rfl,by simp⟩ ?_;rintro k vs s hk ⟨rfl,rfl,hpf⟩;by_cases hlt:k<l.length
 ·have hd:decide ((k:Int)<(l.length:Int))=true:=by simp;omega
  have hx:l[k]? = some l[k]:=by simp[hlt]
  have hgx:=zQ (f:=fun t=>[D.int .i64 t]) hx;obtain⟨x,hxe⟩:∃x,l[k]=x:=⟨_,rfl⟩;rw[hxe]at hx hgx;rw[fst_drop hx]at hpf;cases h1:(x != 0)
  ·rw[if_neg (by simpa using h1)]at hpf;refine zm (zd hd (zd hgx (zd hlen (zd h1 (wkc k (by omega)))))) ?_;exact zaF.next hlt ⟨rfl,rfl,hpf⟩
  ·rw[if_pos (by simpa using h1)]at hpf;refine zm (zd hd (zd hgx (zd hlen h1))) ?_;refine zu hl ?_;exact fin _ hpf
 ·have hd:decide ((k:Int)<(l.length:Int))=false:=by simp;omega
  rw[List.drop_eq_nil_of_le (by omega)]at hpf;refine zm (zd hd hlen) ?_;refine zu hl ?_;exact fin _ hpf
theorem c_kSigns {l:List zK}(hl0:l.length<=1073741824){K:KT}(hK:K (.d (.int .i64 (zax (zcn l)))) σ):zP zkp [.d (.slice (zat l))] σ K:=by
 refine zey e_r10_signs fun hl=>?_;have fin:∀z,zax (zcn l)=z->K (.d (.int .i64 z)) σ:=fun z h=>h▸hK;clear hK;have hlen:(zat l).length=l.length:=List.length_map ..;simp only[zxn,iN,bT,bF,eN];cases h0:decide ((l.length:Int)>13);rotate_left
 ·refine zm (zd hlen h0) ?_;refine zu hl ?_;refine fin 100 ?_;have:inE l.length 0 13=100:=by rw[inE,if_pos];simp at h0;omega
  simp[zcn,zax,this]
 refine zm (zd hlen h0) ?_;have e0:zax (zcn l)=zax (l.map fun s=>zx s.key s.dig):=by
  have:inE l.length 0 13=0:=by rw[inE,if_neg];simp at h0;omega
  simp[zcn,zax,this]
 refine zn l.length (fun k vs s=>vs=[.d (.int .i64 k)]/\s=σ/\zax (zcn l)=zax ((l.map fun s=>zx s.key s.dig).drop k)) ⟨rfl,rfl,by simpa using e0⟩ ?_;rintro k vs s hk ⟨rfl,rfl,hpf⟩;by_cases hlt:k<l.length
 ·have hd:decide ((k:Int)<(l.length:Int))=true:=by simp;omega
  have hx:l[k]? = some l[k]:=by simp[hlt]
  have hgx:=zQ (f:=zgo) hx;obtain⟨x,hxe⟩:∃x,l[k]=x:=⟨_,rfl⟩;rw[hxe]at hx hgx;rw[fst_drop (x:=zx x.key x.dig) (by simp[hx])]at hpf;refine gq19 (zd hd (zd hgx hlen)) ?_;refine zbH ?_;cases h1:(zx x.key x.dig != 0)
  ·rw[if_neg (by simpa using h1)]at hpf;refine zm (zd h1 (wkc k (by omega))) ?_;exact zaF.next hlt ⟨rfl,rfl,hpf⟩
  ·rw[if_pos (by simpa using h1)]at hpf;refine zm h1 ?_;refine zu hl ?_;exact fin _ hpf
 ·have hd:decide ((k:Int)<(l.length:Int))=false:=by simp;omega
  rw[List.drop_eq_nil_of_le (by simp;omega)]at hpf;refine zm (zd hd hlen) ?_;refine zu hl ?_;exact fin _ hpf
theorem c_kCert {c:zjt}(hl0:c.signs.length<=1073741824){K:KT}(hK:K (.d (.int .i64 (zax (zby c)))) σ):zP zfK [zhL c] σ K:=by
 refine zey zwE fun hl=>?_;have fin:∀z,zax (zby c)=z->K (.d (.int .i64 z)) σ:=fun z h=>h▸hK;clear hK;have hlen:(zat c.signs).length=c.signs.length:=List.length_map ..;simp only[zpi,iN,bT,bF,eN,zhL];refine zG ?_;refine ziW ?_;refine zG ?_;refine ziW ?_;refine zG ?_;refine zeE (l:=[zeP c.seq,zeP c.dig]) (by simp) ?_;have e2:zax (zby c)=if zax [zeP c.seq,zeP c.dig]≠0 then zax [zeP c.seq,zeP c.dig]else zax (zeZ c::zcn c.signs):=by
  rw[← zeC];rfl
 cases h1:(zax [zeP c.seq,zeP c.dig] != 0);rotate_left
 ·refine zm h1 ?_;refine zu hl ?_;exact fin _ (by rw[e2,if_pos (by simpa using h1)])
 have h1':zax [zeP c.seq,zeP c.dig]=0:=by simpa using h1
 rw[if_neg (by simpa using h1)]at e2;have hs:zeP c.seq=0:=by
  simp only[zax]at h1';split at h1'
  ·rename_i h;exact absurd h1' h
  ·rename_i h;simpa using h
 have hsq:=zrW hs;have yes:zeZ c=0->zP zkp [.d (.slice (zat c.signs))] (σ++[AObj.box [AV.d (D.int .i64 c.seq),AV.d (D.int .i64 c.dig),AV.d (D.slice (zat c.signs))]]) fun G s=>z1 (AW.Ends σ.length K) G s:=fun h=>by
  refine c_kSigns hl0 ?_;refine zG ?_;refine zu hl ?_;refine fin _ ?_;rw[e2];simp[zax,h]
 have no:zeZ c=100->zax (zby c)=100:=fun h=>by rw[e2];simp[zax,h]
 cases h2:(c.seq==0)
 ·have h2':¬c.seq=0:=by simpa using h2
  have h3:decide (c.seq>0)=true:=by simp;omega
  cases h4:(c.dig==0)
  ·refine zm (zd h1 (zd h2 (zd h3 h4))) ?_;exact yes (by simp at h4;simp[zeZ,h2',h4])
  ·refine zm (zd h1 (zd h2 (zd h3 h4))) ?_;refine zu hl ?_;exact fin 100 (no (by simp at h4;simp[zeZ,h2',h4]))
 ·have h2':c.seq=0:=by simpa using h2
  have h3:decide (c.seq>0)=false:=by simp;omega
  cases h4:(c.dig != 0)
  ·cases h5:decide ((c.signs.length:Int)>0)
   ·refine zm (zd h1 (zd h2 (zd h3 (zd h4 (zd hlen h5))))) ?_;exact yes (by simp at h4 h5;simp[zeZ,h2',h4,h5])
   ·refine zm (zd h1 (zd h2 (zd h3 (zd h4 (zd hlen h5))))) ?_;refine zu hl ?_;refine fin 100 (no ?_);simp only[decide_eq_true_eq]at h5;rw[zeZ,if_pos (.inr ⟨h2',by omega⟩)]
  ·refine zm (zd h1 (zd h2 (zd h3 h4))) ?_;refine zu hl ?_;exact fin 100 (no (by simp at h4;simp[zeZ,h2',h4]))
theorem c_kHdr {h:zsU}{K:KT}(hK:K (.d (.int .i64 (zax (zhg h)))) σ):zP zio [hdrA h] σ K:=by
 refine zey ztC fun hl=>?_;simp only[zmL,iN,bT,bF,eN,hdrA];refine zG ?_;refine zqx ?_;refine zG ?_;refine ziW ?_;refine zG ?_;refine ziW ?_;refine zG ?_;refine ziW ?_;refine zG ?_;refine ziW ?_;refine zG ?_;refine zeE (l:=zhg h) (by simp[zhg]) ?_;refine zG ?_;refine zu hl ?_;exact hK
theorem c_kProof {p:zfi}(hp:zqS p){K:KT}(hK:K (.d (.int .i64 (zmh p))) σ):zP zjn [znD p] σ K:=by
 refine zey zuZ fun hl=>?_;have fin:∀z,zmh p=z->K (.d (.int .i64 z)) σ:=fun z h=>h▸hK;clear hK;have hrl:=zam p.rec_;have hhl:(zmv p.headers).length=p.headers.length:=List.length_map ..;have hpl:(zgH p.path).length=p.path.length:=List.length_map ..;simp only[znN,iN,bT,bF,eN,znD];refine zm (zd hrl hhl) ?_;refine c_kName (by have:=hp.topic;omega) ?_;refine zG ?_;refine ziW ?_;refine zG ?_;refine zxa ?_;refine zG ?_;refine zxa ?_;refine zG ?_;refine zeE (l:=zgB p) (by simp[zgB]) ?_;cases h1:(zax (zgB p) != 0);rotate_left
 ·refine zm h1 ?_;refine zu hl ?_;exact fin _ (by rw[zmh,zcS,zhH (by simpa using h1)])
 have e1:zmh p=zax ((p.headers.map zhg).flatten++(zfF p++(zhs p++(p.path.map zeP++zby p.cert)))):=by
  rw[zmh,zcS,zgI (by simpa using h1)]
 obtain⟨Q,hQ⟩:∃Q,zfF p++(zhs p++(p.path.map zeP++zby p.cert))=Q:=⟨_,rfl⟩;rw[hQ]at e1;refine zm h1 ?_;refine zn p.headers.length (fun k vs s=>vs=[.d (.int .i64 k)]/\s=σ++[zor p]/\zmh p=zax (((p.headers.drop k).map zhg).flatten++Q)) ⟨rfl,rfl,by simpa using e1⟩ ?_;rintro k vs s hk ⟨rfl,rfl,hpf⟩;by_cases hlt:k<p.headers.length
 ·have hd:decide ((k:Int)<(p.headers.length:Int))=true:=by simp;omega
  have hx:p.headers[k]? = some p.headers[k]:=by simp[hlt]
  have hgx:=zQ (f:=zsi) hx;have hdr:p.headers.drop k=p.headers[k]::p.headers.drop (k+1):=List.drop_eq_getElem_cons hlt;obtain⟨h,hhe⟩:∃h,p.headers[k]=h:=⟨_,rfl⟩;rw[hhe]at hx hgx hdr;have hph:=hp.headers;rw[hdr,List.map_cons,List.flatten_cons,List.append_assoc,zeC]at hpf;refine zm (zd hd (zd hgx hhl)) ?_;refine c_kHdr (h:=h) ?_;cases h2:(zax (zhg h) != 0)
  ·rw[if_neg (by simpa using h2)]at hpf;refine zm (zd h2 (wkc k (by omega))) ?_;exact zaF.next hlt ⟨rfl,rfl,hpf⟩
  ·rw[if_pos (by simpa using h2)]at hpf;refine zm h2 ?_;refine zu hl ?_;exact fin _ hpf
 ·have hd:decide ((k:Int)<(p.headers.length:Int))=false:=by simp;omega
  rw[List.drop_eq_nil_of_le (by omega),List.map_nil,List.flatten_nil,List.nil_append,← hQ]at hpf;refine zm (zd hd hhl) ?_;refine ziW ?_;refine zG ?_;refine zxa ?_;refine zG ?_;refine zeE (l:=zfF p) (by simp[zfF]) ?_;cases h2:(zax (zfF p) != 0);rotate_left
  ·refine zm h2 ?_;refine zu hl ?_;exact fin _ (by rw[hpf,zhH (by simpa using h2)])
  have h2':zax (zfF p)=0:=by simpa using h2
  rw[zgI h2']at hpf;have hix:zeP p.index=0/\inE p.count 0 16=0:=by
   simp only[zfF,zax]at h2';split at h2'
   ·rename_i h;exact absurd h2' h
   ·rename_i h;split at h2'
    ·rename_i h3;exact absurd h2' h3
    ·rename_i h3;exact⟨by simpa using h,by simpa using h3⟩
  have i1:=zrW hix.1;have i2:=zkB hix.2;have bad:(p.index≥p.count∨(p.path.length:Int)>8)->zax (zhs p)=100:=fun h=>by
   simp only[zhs,zax];by_cases hh:p.index≥p.count
   ·have:inE p.index 0 (p.count-1)=100:=by rw[inE,if_pos];omega
    simp[this]
   ·have a:inE p.index 0 (p.count-1)=0:=by rw[inE,if_neg];omega
    have b:inE p.path.length 0 8=100:=by rw[inE,if_pos];omega
    simp[a,b]
  cases h3:decide (p.index≥p.count);rotate_left
  ·refine zm (zd h2 h3) ?_;refine zu hl ?_;refine fin _ ?_;have:=bad (.inl (by simpa using h3));rw[hpf,zhH (by rw[this];decide),this]
  cases h4:decide ((p.path.length:Int)>8);rotate_left
  ·refine zm (zd h2 (zd h3 (zd hpl h4))) ?_;refine zu hl ?_;refine fin _ ?_;have:=bad (.inr (by simpa using h4));rw[hpf,zhH (by rw[this];decide),this]
  have h5:zax (zhs p)=0:=by
   simp only[decide_eq_false_iff_not]at h3 h4;have a:inE p.index 0 (p.count-1)=0:=by rw[inE,if_neg];omega
   have b:inE p.path.length 0 8=0:=by rw[inE,if_neg];omega
   simp[zhs,zax,a,b]
  rw[zgI h5]at hpf;refine zm (zd h2 (zd h3 (zd hpl h4))) ?_;have hpb:=hp.path;refine zn p.path.length (fun k vs s=>vs=[.d (.int .i64 k)]/\s=σ++[zor p]/\zmh p=zax ((p.path.drop k).map zeP++zby p.cert)) ⟨rfl,rfl,by simpa using hpf⟩ ?_;rintro j vs s hj ⟨rfl,rfl,hpf2⟩;by_cases hjl:j<p.path.length
  ·have hd2:decide ((j:Int)<(p.path.length:Int))=true:=by simp;omega
   have hy:p.path[j]? = some p.path[j]:=by simp[hjl]
   have hgy:=zQ (f:=fun t=>[D.int .i64 t]) hy;have hdr:p.path.drop j=p.path[j]::p.path.drop (j+1):=List.drop_eq_getElem_cons hjl;obtain⟨y,hye⟩:∃y,p.path[j]=y:=⟨_,rfl⟩;rw[hye]at hy hgy hdr;rw[hdr,List.map_cons,List.cons_append]at hpf2;simp only[zax]at hpf2;refine zm (zd hd2 (zd hgy hpl)) ?_;refine ziW ?_;cases h6:(zeP y != 0)
   ·rw[if_neg (by simpa using h6)]at hpf2;refine zm (zd h6 (wkc j (by omega))) ?_;exact zaF.next hjl ⟨rfl,rfl,hpf2⟩
   ·rw[if_pos (by simpa using h6)]at hpf2;refine zm h6 ?_;refine zu hl ?_;exact fin _ hpf2
  ·have hd2:decide ((j:Int)<(p.path.length:Int))=false:=by simp;omega
   rw[List.drop_eq_nil_of_le (by omega),List.map_nil,List.nil_append]at hpf2;refine zm (zd hd2 hpl) ?_;refine c_kCert (c:=p.cert) hp.signs ?_;refine zG ?_;refine zu hl ?_;exact fin _ hpf2
variable {σ:List AObj}
theorem zwo (l r:List Int):zax (zax l::r)=zax (l++r):=by
 rw[zeC];rfl
theorem zAl {α:Type}{f:α->List Int}{l:List α}{k:Nat}{x:α}(h:l[k]? = some x)(h0:∀y∈l.take k,zax (f y)=0)(hx:zax (f x)≠0)(r:List Int):zax ((l.map f).flatten++r)=zax (f x):=by
 have e:l=l.take k++x::l.drop (k+1):=by
  obtain⟨hk,rfl⟩:=List.getElem?_eq_some_iff.1 h;simp
 have z:∀m:List α,(∀y∈m,zax (f y)=0)->zax ((m.map f).flatten)=0:=by
  intro m;induction m with
  | nil=>intro _;rfl
  | cons y m ih=>intro h;simp only[List.map_cons,List.flatten_cons];rw[zgI (h y (by simp))];exact ih fun z hz=>h z (by simp[hz])
 rw[e,List.map_append,List.flatten_append,List.append_assoc,zgI (z _ h0),List.map_cons,List.flatten_cons,List.append_assoc,zhH hx]
theorem zsm {α:Type}{f:α->List Int}:∀ {l:List α},(∀y∈l,zax (f y)=0)->zax ((l.map f).flatten)=0
 | [],_=>rfl
 | y::l,h=>by simp only[List.map_cons,List.flatten_cons];rw[zgI (h y (by simp))];exact zsm fun z hz=>h z (by simp[hz])
theorem ziX {n:Int}{K:KT}(hK:K (.d (.int .i64 (zjz n))) σ):zP zdm [.d (.int .i64 n)] σ K:=by
 refine zey e_r10_broker fun hl=>?_;simp only[zuy,iN,bT,bF,eN];refine zG ?_;refine zxa ?_;refine zG ?_;refine zu hl ?_;exact hK
theorem c_kPrep {p:zjY}(hs:p.signs.length<=1073741824)(hb:okB p.batch){K:KT}(hK:K (.d (.int .i64 (zax (zdR p)))) σ) :
  zP zgY [.agg [.d (.int .i64 p.view),.d (.int .i64 p.seq),.d (.int .i64 p.dig),.d (.int .i64 p.fkey),.d (.int .i64 p.fdig),.d (.slice (zat p.signs)),.d (.slice (zbA p.batch))]] σ K:=by
 refine zey zrl fun hl=>?_;simp only[zkN,iN,bT,bF,eN];refine zG ?_;refine ziW ?_;refine zG ?_;refine zqx ?_;refine zG ?_;refine zqx ?_;refine zG ?_;refine zbH ?_;refine zG ?_;refine c_kSigns hs ?_;refine zG ?_;refine zhN hb ?_;refine zG ?_;refine zeE (l:=[zeP p.view,zkl p.seq,zkl p.dig,zx p.fkey p.fdig,zax (zcn p.signs),zD p.batch]) (by simp) ?_;have e:zax [zeP p.view,zkl p.seq,zkl p.dig,zx p.fkey p.fdig,zax (zcn p.signs),zD p.batch]=zax (zdR p):=by
  simp only[zdR,zwo,zax];rw[← zwo];rfl
 rw[e];refine zG ?_;refine zu hl ?_;exact hK
theorem c_kBody {c:zbk}(hc:okCh c){K:KT}(hK:K (.d (.int .i64 (zax (zeu c)))) σ):zP zkr [.agg (zbK c)] σ K:=by
 refine zey zwC fun hl=>?_;have fin:∀z,zax (zeu c)=z->K (.d (.int .i64 z)) σ:=fun z h=>h▸hK;clear hK;have hpl:(zft c.above).length=c.above.length:=List.length_map ..;have hal:=hc.above;simp only[zpg,iN,bT,bF,eN];refine zG ?_;refine zqx ?_;refine zG ?_;refine ziX ?_;refine zG ?_;refine c_kCert (c:=c.cert) hc.signs ?_;refine zG ?_;refine zeE (l:=[zkl c.view,zjz c.src,zax (zby c.cert)]) (by simp) ?_;have e:∀r,zax (zkl c.view::zjz c.src::(zby c.cert++r))=if zax [zkl c.view,zjz c.src,zax (zby c.cert)]≠0 then zax [zkl c.view,zjz c.src,zax (zby c.cert)]else zax r:=by
  intro r;rw[← zeC];simp only[List.cons_append,List.nil_append,zax];rw[zeC]
 cases h1:(zax [zkl c.view,zjz c.src,zax (zby c.cert)] != 0);rotate_left
 ·refine zm h1 ?_;refine zu hl ?_;exact fin _ (by rw[zeu,e,if_pos (by simpa using h1)])
 have e1:zax (zeu c)=zax (inE c.above.length 0 8::(c.above.map zdR).flatten):=by rw[zeu,e,if_neg (by simpa using h1)]
 by_cases h2:c.above.length>8
 ·have h2':decide ((c.above.length:Int)>8)=true:=by simp;omega
  refine zm (zd h1 (zd hpl h2')) ?_;refine zu hl ?_;exact fin _ (by rw[e1,inE,if_pos (by omega)];rfl)
 have h2':decide ((c.above.length:Int)>8)=false:=by simp;omega
 have e2:zax (zeu c)=zax ((c.above.map zdR).flatten):=by rw[e1,inE,if_neg (by omega)];rfl
 refine zm (zd h1 (zd hpl h2')) ?_;refine zn c.above.length (fun k vs s=>vs=[.d (.int .i64 k)]/\s=σ++[.box (zbK c)]/\∀p∈c.above.take k,zax (zdR p)=0) ⟨rfl,rfl,by simp⟩ ?_;rintro k vs s hk ⟨rfl,rfl,h0⟩;by_cases hlt:k<c.above.length
 ·have hd:decide ((k:Int)<(c.above.length:Int))=true:=by simp;omega
  have hx:c.above[k]? = some c.above[k]:=by simp[hlt]
  have hpx:=hc.each _ (List.getElem_mem hlt);have hgx:=zQ (f:=zfy) hx;obtain⟨p,hp⟩:∃p,c.above[k]=p:=⟨_,rfl⟩;rw[hp]at hx hgx hpx;refine zdO (zd hd (zd hgx hpl)) ?_;refine c_kPrep (p:=p) hpx.1 hpx.2 ?_;cases h3:(zax (zdR p) != 0)
  ·refine zm (zd h3 (wkc k (by omega))) ?_;refine zaF.next hlt ⟨rfl,rfl,?_⟩;intro q hq;rw[List.take_add_one,hx]at hq;simp at hq;rcases hq with hq|rfl
   ·exact h0 q hq
   ·simpa using h3
  ·refine zm h3 ?_;refine zu hl ?_;refine fin _ ?_;have:=zAl hx h0 (by simpa using h3) [];rw[List.append_nil]at this;rw[e2,this]
 ·have hd:decide ((k:Int)<(c.above.length:Int))=false:=by simp;omega
  rw[List.take_of_length_le (by omega)]at h0;refine zm (zd hd hpl) ?_;refine zu hl ?_;exact fin _ (by rw[e2,zsm h0])
theorem c_kChange {c:zbk}(hc:okCh c){K:KT}(hK:K (.d (.int .i64 (zax (zaS c)))) σ):zP zga [.agg (zbK c)] σ K:=by
 refine zey ztF fun hl=>?_;simp only[zmN,iN,bT,bF,eN];refine zG ?_;refine c_kBody (c:=c) hc ?_;refine zG ?_;refine zbH ?_;refine zG ?_;refine zeE (l:=[zax (zeu c),zx c.key c.dig]) (by simp) ?_;rw[zwo];refine zG ?_;refine zu hl ?_;exact hK
variable {σ:List AObj}
theorem c_kEntry {x:zhQ}(hb:okB x.batch){K:KT}(hK:K (.d (.int .i64 (zax (zek x)))) σ):zP zjl [entryA x] σ K:=by
 refine zey zuX fun hl=>?_;simp only[znL,iN,bT,bF,eN];refine zG ?_;refine ziW ?_;refine zG ?_;refine zqx ?_;refine zG ?_;refine zhN hb ?_;refine zG ?_;refine zbH ?_;refine zG ?_;refine zeE (l:=zek x) (by simp[zek]) ?_;refine zG ?_;refine zu hl ?_;exact hK
theorem zse {α:Type}{P:α->Prop}{l:List α}{k:Nat}{x:α}(hx:l[k]? = some x)(h0:∀y∈l.take k,P y)(h:P x):∀y∈l.take (k+1),P y:=by
 intro q hq;rw[List.take_add_one,hx]at hq;simp at hq;rcases hq with hq|rfl
 ·exact h0 q hq
 ·exact h
theorem c_kNewView {m:zbj}(hm:zaK m)(hk:m.kind=8){K:KT}(hK:K (.d (.int .i64 (zax (zab m)))) σ):zP zhz [zgd m] σ K:=by
 refine zey zsp fun hl=>?_;have fin:∀z,zax (zab m)=z->K (.d (.int .i64 z)) σ:=fun z h=>h▸hK;clear hK;have hcl:(zap m.changes).length=m.changes.length:=List.length_map ..;have hel:(zbq m.entries).length=m.entries.length:=List.length_map ..;have hcl1:=hm.changes;have hel1:=hm.entries;have e0:zax (zab m)=zax ([zjz m.src,zkl m.view,inE m.changes.length 0 13]++((m.changes.map zaS).flatten++(inE m.entries.length 0 8::((m.entries.map zek).flatten++[zx m.key m.sdig])))):=by
  simp[zab,zC,hk,zfG,show zeO 8=true from rfl]
 simp only[zlH,iN,bT,bF,eN];refine zG ?_;refine ziX ?_;refine zG ?_;refine zqx ?_;refine zm hcl ?_;refine zxa ?_;refine zG ?_;refine zeE (l:=[zjz m.src,zkl m.view,inE m.changes.length 0 13]) (by simp) ?_;cases h1:(zax [zjz m.src,zkl m.view,inE m.changes.length 0 13] != 0);rotate_left
 ·refine zm h1 ?_;refine zu hl ?_;exact fin _ (by rw[e0,zhH (by simpa using h1)])
 rw[zgI (by simpa using h1)]at e0;refine zm h1 ?_;refine zn m.changes.length (fun k vs s=>vs=[.d (.int .i64 k)]/\s=σ++[zla m]/\∀c∈m.changes.take k,zax (zaS c)=0) ⟨rfl,rfl,by simp⟩ ?_;rintro k vs s hk0 ⟨rfl,rfl,h0⟩;by_cases hlt:k<m.changes.length
 ·have hd:decide ((k:Int)<(m.changes.length:Int))=true:=by simp;omega
  have hx:m.changes[k]? = some m.changes[k]:=by simp[hlt]
  have hpx:=hm.change _ (List.getElem_mem hlt);have hgx:=zQ (f:=zag) hx;obtain⟨p,hp⟩:∃p,m.changes[k]=p:=⟨_,rfl⟩;rw[hp]at hx hgx hpx;refine zdO (zd hd (zd hgx hcl)) ?_;refine c_kChange (c:=p) hpx.1 ?_;cases h3:(zax (zaS p) != 0)
  ·refine zm (zd h3 (wkc k (by omega))) ?_;exact zaF.next hlt ⟨rfl,rfl,zse hx h0 (by simpa using h3)⟩
  ·refine zm h3 ?_;refine zu hl ?_;exact fin _ (by rw[e0,zAl hx h0 (by simpa using h3)])
 have hd:decide ((k:Int)<(m.changes.length:Int))=false:=by simp;omega
 rw[List.take_of_length_le (by omega)]at h0;rw[zgI (zsm h0)]at e0;by_cases h2:m.entries.length>8
 ·have h2':decide ((m.entries.length:Int)>8)=true:=by simp;omega
  refine zm (zd hd (zd hcl (zd hel h2'))) ?_;refine zu hl ?_;exact fin _ (by rw[e0,inE,if_pos (by omega)];rfl)
 have h2':decide ((m.entries.length:Int)>8)=false:=by simp;omega
 have e1:zax (zab m)=zax ((m.entries.map zek).flatten++[zx m.key m.sdig]):=by rw[e0,inE,if_neg (by omega)];rfl
 refine zm (zd hd (zd hcl (zd hel h2'))) ?_;refine zn m.entries.length (fun k vs s=>vs=[.d (.int .i64 k)]/\s=σ++[zla m]/\∀c∈m.entries.take k,zax (zek c)=0) ⟨rfl,rfl,by simp⟩ ?_;rintro k vs s hk1 ⟨rfl,rfl,h0⟩;by_cases hlt:k<m.entries.length
 ·have hd:decide ((k:Int)<(m.entries.length:Int))=true:=by simp;omega
  have hx:m.entries[k]? = some m.entries[k]:=by simp[hlt]
  have hpx:=hm.entry _ (List.getElem_mem hlt);have hgx:=zQ (f:=zdd) hx;obtain⟨p,hp⟩:∃p,m.entries[k]=p:=⟨_,rfl⟩;rw[hp]at hx hgx hpx;refine zdO (zd hd (zd hgx hel)) ?_;refine c_kEntry (x:=p) hpx.1 ?_;cases h3:(zax (zek p) != 0)
  ·refine zm (zd h3 (wkc k (by omega))) ?_;exact zaF.next hlt ⟨rfl,rfl,zse hx h0 (by simpa using h3)⟩
  ·refine zm h3 ?_;refine zu hl ?_;exact fin _ (by rw[e1,zAl hx h0 (by simpa using h3)])
 ·have hd:decide ((k:Int)<(m.entries.length:Int))=false:=by simp;omega
  rw[List.take_of_length_le (by omega)]at h0;refine zm (zd hd hel) ?_;refine zbH ?_;refine zG ?_;refine zu hl ?_;refine fin _ ?_;rw[e1,zgI (zsm h0)];simp only[zax];split<;>simp_all
theorem c_kParts8 {m:zbj}(hm:zaK m)(hk:m.kind=8){K:KT}(hK:K (.d (.int .i64 (zax (zab m)))) σ):zP zin [zgd m] σ K:=by
 refine zey znp fun hl=>?_;simp only[zkM,iN,bT,bF,eN];refine zG ?_;refine zbH ?_;refine zm (kk8 hk) ?_;refine c_kNewView (m:=m) hm hk ?_;refine zG ?_;refine zu hl ?_;exact hK
theorem c_kParts7 {m:zbj}(hm:zaK m)(hk:m.kind=7){K:KT}(hK:K (.d (.int .i64 (zax (zab m)))) σ):zP zin [zgd m] σ K:=by
 refine zey znp fun hl=>?_;have fin:∀z,zax (zab m)=z->K (.d (.int .i64 z)) σ:=fun z h=>h▸hK;clear hK;have hcl:(zap m.changes).length=m.changes.length:=List.length_map ..;have hcl1:=hm.changes;have e0:zax (zab m)=zax (inE m.changes.length 1 1::(m.changes.map fun c=>zaS c++[if c.src≠m.src∨c.view≠m.view then 100 else 0]).flatten):=by
  simp[zab,zC,hk,show zeO 7=false from rfl]
 simp only[zkM,iN,bT,bF,eN];refine zG ?_;refine zbH ?_;cases h1:((m.changes.length:Int) != 1);rotate_left
 ·refine zm (zd (kk7 hk) (zd hcl h1)) ?_;refine zu hl ?_;refine fin _ ?_;simp only[bne_iff_ne,ne_eq]at h1;rw[e0,inE,if_pos (by omega)];rfl
 simp only[bne_eq_false_iff_eq]at h1;obtain⟨c,hc⟩:∃c,m.changes=[c]:=List.length_eq_one_iff.1 (by omega);have hgx:(zap m.changes)[0]? = some (zag c):=by rw[hc];rfl
 have hgl:(zap m.changes).length=1:=by rw[hc];rfl
 have e1:zax (zab m)=zax (zaS c++[if c.src≠m.src∨c.view≠m.view then 100 else 0]):=by
  rw[e0,hc,inE,if_neg (by simp)];simp[zax]
 have hpx:=(hm.change c (by rw[hc];simp)).1;refine zdO (zd (kk7 hk) (zd hgl hgx)) ?_;refine c_kChange (c:=c) hpx ?_;cases h2:(zax (zaS c) != 0);rotate_left
 ·refine zm h2 ?_;refine zu hl ?_;exact fin _ (by rw[e1,zhH (by simpa using h2)])
 rw[zgI (by simpa using h2)]at e1;cases h3:(m.src != c.src)
 ·cases h4:(m.view != c.view)
  ·refine zdO (zd h2 (zd h3 (zd h4 (zd hgl hgx)))) ?_;refine zu hl ?_;refine fin _ ?_;simp at h3 h4;rw[e1,if_neg (by simp[h3,h4])];rfl
  ·refine zdO (zd h2 (zd h3 (zd h4 (zd hgl hgx)))) ?_;refine zu hl ?_;refine fin _ ?_;simp at h4;rw[e1,if_pos (.inr fun h=>h4 h.symm)];rfl
 ·refine zdO (zd h2 (zd h3 (zd hgl hgx))) ?_;refine zu hl ?_;refine fin _ ?_;simp at h3;rw[e1,if_pos (.inl fun h=>h3 h.symm)];rfl
variable {σ:List AObj}
theorem c_kSamePrep {a b:zjY}(ha:zqR a)(hb:zqR b){K:KT}(hK:K (.d (.bool (decide (a=b)))) σ):zP zhA [.agg [.d (.int .i64 a.view),.d (.int .i64 a.seq),.d (.int .i64 a.dig),.d (.int .i64 a.fkey),.d (.int .i64 a.fdig),.d (.slice (zat a.signs)),.d (.slice (zbA a.batch))],.agg [.d (.int .i64 b.view),.d (.int .i64 b.seq),.d (.int .i64 b.dig),.d (.int .i64 b.fkey),.d (.int .i64 b.fdig),.d (.slice (zat b.signs)),.d (.slice (zbA b.batch))]] σ K:=by
 refine zen zsq fun hl=>?_;have fin:∀z,decide (a=b)=z->K (.d (.bool z)) σ:=fun z h=>h▸hK;clear hK;simp only[zlI,iN,bT,bF,eN];cases h1:(a.view==b.view)
 ·refine zm h1 ?_;refine zu hl ?_;exact fin _ (decide_eq_false fun h=>by subst h;simp at h1)
 cases h2:(a.seq==b.seq)
 ·refine zm (zd h1 h2) ?_;refine zu hl ?_;exact fin _ (decide_eq_false fun h=>by subst h;simp at h2)
 cases h3:(a.dig==b.dig)
 ·refine zm (zd h1 (zd h2 h3)) ?_;refine zu hl ?_;exact fin _ (decide_eq_false fun h=>by subst h;simp at h3)
 cases h4:(a.fkey==b.fkey&&a.fdig==b.fdig)
 ·refine zdO (zd h1 (zd h2 (zd h3 h4))) ?_;refine zu hl ?_;exact fin _ (decide_eq_false fun h=>by subst h;simp at h4)
 refine zdO (zd h1 (zd h2 (zd h3 h4))) ?_;refine zwT ha.signs ?_;cases h5:decide (a.signs=b.signs)
 ·refine zm h5 ?_;refine zu hl ?_;exact fin _ (decide_eq_false fun h=>by subst h;simp at h5)
 refine zlr h5 ?_;refine zAG ha.batch hb.batch ?_;cases h6:decide (a.batch=b.batch)
 ·refine zm h6 ?_;refine zu hl ?_;exact fin _ (decide_eq_false fun h=>by subst h;simp at h6)
 refine zm h6 ?_;refine zu hl ?_;exact fin _ (decide_eq_true (by cases a;cases b;simp_all))
theorem zAi {A P Q:Prop}(a:A)(h:Q)(e:A->Hd Q->P:=by intro a h;(repeat' first|simp -dsimp only[↓zlC,↓zbR,↓zeb,↓zlD,↓zlu,↓zls,↓zlv,↓zlt,↓zeg,↓zec,↓zeh,↓zed,↓zlw,↓zdX,↓zei,↓zee,↓zej,↓zef,↓zlq,↓zlA,↓zdW,↓zem,↓zli,↓zlh,↓zln,iN,bT,bF,eN,↓zev,↓unC,↓zaC,↓zai,↓zaj,↓zav,↓zaW,↓zah,↓zgy,↓zaw,↓zbd,↓zad,↓ze,↓zl,↓zbg,↓zc,↓zaV,↓zN,↓zbS,↓zcl,↓zf,↓zF,↓zp,↓zM,↓zaB,↓zgF,↓zhG,↓zbc,↓zbz,↓zcf,↓zcz,↓zdj,↓zJ,↓zbb,↓zak,↓zO,↓zaU,zho,zdP,zdy,unA,zgu,bnd,ziP,zaO,zL,zhY,dm,dm1,zH,zaJ,zjT,zjS,keepO,Q0,Q1,Q2,Q3,Q4,Q5,zba,zA,zB,zX,zaa,Q6,Q7,Q8,Q9,Q10,Q11,Q12,Q13,Q14,Nat.reduceAdd,Q15,Int.reduceToNat,Q16,Q17,Q18,Q19,Q20,reduceIte,Q21,Q22,zy,rep,zaq,zhV,toD,zaD,Q23,Q24,Q25,Q26,Q27,Q28,Nat.reduceLeDiff,Q29,Nat.reduceSub,Q30,Q31,Q32,sc,Q33,Q34,Q35,Q36,Q37,Q26,Q38,Q39,zuP,zuM,zuJ,zuQ,zjr,zuN,zuK,zuO,zuL,zjq,zjs,zuS,zuT,Bool.not_true,Bool.not_false,List.length_map,Bool.and_false,Bool.and_self,Bool.false_and,Bool.not_false,Bool.not_true,Bool.true_and,Int.toNat_natCast,Int.toNat_zero,List.drop_zero,List.length_map,List.length_nil,List.nil_append,List.take_length,Nat.sub_zero,Nat.zero_add,Option.isSome_none,Option.isSome_some,Option.map_none,Option.map_some,zam,beq_self_eq_true,bft,bne,bne_self_eq_false,btf,a]|with_reducible refine zvh ?_|fail);exact h.go):P:=e a ⟨h⟩
theorem zAK {a b:zbk}(ha:zjM a)(hb:zjM b){K:KT}(hK:K (.d (.bool (decide (a=b)))) σ):zP zjm [.agg [.d (.int .i64 a.view),.d (.int .i64 a.src),.d (.int .i64 a.cert.seq),.d (.int .i64 a.cert.dig),.d (.slice (zat a.cert.signs)),.d (.slice (zft a.above)),.d (.int .i64 a.key),.d (.int .i64 a.dig)],.agg [.d (.int .i64 b.view),.d (.int .i64 b.src),.d (.int .i64 b.cert.seq),.d (.int .i64 b.cert.dig),.d (.slice (zat b.cert.signs)),.d (.slice (zft b.above)),.d (.int .i64 b.key),.d (.int .i64 b.dig)]] σ K:=by
 refine zen zuY fun hl=>?_;have fin:∀z,decide (a=b)=z->K (.d (.bool z)) σ:=fun z h=>h▸hK;clear hK;simp only[znM,iN,bT,bF,eN];have hla:((a.above.map zfy).length)=a.above.length:=List.length_map ..;have hlb:((b.above.map zfy).length)=b.above.length:=List.length_map ..;have hal:=ha.above;cases h1:(a.view==b.view)
 ·refine zAi h1 ?_;refine zu hl ?_;exact fin _ (decide_eq_false fun h=>by subst h;simp at h1)
 cases h2:(a.src==b.src)
 ·refine zAi (zd h1 h2) ?_;refine zu hl ?_;exact fin _ (decide_eq_false fun h=>by subst h;simp at h2)
 refine zAi (zd h1 h2) ?_;refine ztN (a:=a.cert) (b:=b.cert) ha.signs ?_;cases h3:decide (a.cert=b.cert)
 ·refine zm h3 ?_;refine zu hl ?_;exact fin _ (decide_eq_false fun h=>by subst h;simp at h3)
 cases h4:(a.key==b.key&&a.dig==b.dig)
 ·refine zdO (zd h3 h4) ?_;refine zu hl ?_;exact fin _ (decide_eq_false fun h=>by subst h;simp at h4)
 cases h5:((a.above.length:Int)==(b.above.length:Int))
 ·refine gq21 (zd h3 (zd h4 (zd hla (zd hlb h5)))) ?_;refine zu hl ?_;exact fin _ (decide_eq_false fun h=>by subst h;simp at h5)
 have hl2:a.above.length=b.above.length:=by simp at h5;omega
 have hla:((a.above.map zfy).length)=a.above.length:=List.length_map ..;have hlb:((b.above.map zfy).length)=b.above.length:=List.length_map ..;refine gq21 (zd h3 (zd h4 (zd hla (zd hlb (zd h5 (zd hla hlb)))))) ?_;refine zn a.above.length (fun k vs s=>vs=[.d (.int .i64 k)]/\s=σ++[.box (zbK a),.box (zbK b)]/\a.above.take k=b.above.take k) ⟨rfl,rfl,by simp⟩ ?_;rintro k vs s hk ⟨rfl,rfl,htk⟩;by_cases hlt:k<a.above.length
 ·have hd:decide ((k:Int)<(a.above.length:Int))=true:=by simp;omega
  have hx:a.above[k]? = some a.above[k]:=by simp[hlt]
  have hy:b.above[k]? = some (b.above[k]'(by omega)):=List.getElem?_eq_getElem _;have hgx:=zQ (f:=zfy) hx;have hgy:=zQ (f:=zfy) hy;have hxs:=ha.each _ (List.getElem_mem hlt);have hys:=hb.each _ (List.getElem_mem (show k<b.above.length by omega));obtain⟨x,hxe⟩:∃x,a.above[k]=x:=⟨_,rfl⟩;obtain⟨y,hye⟩:∃y,(b.above[k]'(by omega))=y:=⟨_,rfl⟩;rw[hxe]at hx hgx hxs;rw[hye]at hy hgy hys;refine zdO (zd hd (zd hgx (zd hgy (zd hla hlb)))) ?_;refine c_kSamePrep (a:=x) (b:=y) hxs hys ?_;cases he:decide (x=y)
  ·refine zG ?_;refine zu hl ?_;refine fin _ (decide_eq_false fun h=>?_);subst h;rw[hx]at hy;have:=Option.some.inj hy;simp[this]at he
  ·refine zm (wkc k (by omega)) ?_;exact zaF.next hlt ⟨rfl,rfl,zbs hx hy htk (by simpa using he)⟩
 have hd:decide ((k:Int)<(a.above.length:Int))=false:=by simp;omega
 have heq_above:a.above=b.above:=zct hl2 (k:=k) (by omega) htk;refine zm (zd hd (zd hla hlb)) ?_;refine zu hl ?_;exact fin _ (decide_eq_true (by cases a;cases b;simp_all))
theorem gq37 {A P Q:Prop}(a:A)(h:Q)(e:A->Hd Q->P:=by intro a h;(repeat' first|simp -dsimp only[↓zlC,↓zbR,↓zeb,↓zlD,↓zlu,↓zls,↓zlv,↓zlt,↓zeg,↓zec,↓zeh,↓zed,↓zlw,↓zdX,↓zei,↓zee,↓zej,↓zef,↓zlq,↓zlA,↓zdW,↓zem,↓zli,↓zlh,↓zln,iN,bT,bF,eN,↓zev,↓unC,↓zaC,↓zai,↓zaj,↓zav,↓zaW,↓zah,↓zgy,↓zaw,↓zbd,↓zad,↓ze,↓zl,↓zbg,↓zc,↓zaV,↓zN,↓zbS,↓zcl,↓zf,↓zF,↓zp,↓zM,↓zaB,↓zgF,↓zhG,↓zbc,↓zbz,↓zcf,↓zcz,↓zdj,↓zJ,↓zbb,↓zak,↓zO,↓zaU,zho,zdP,zdy,unA,zgu,bnd,ziP,zaO,zL,zhY,dm,dm1,zH,zaJ,zjT,zjS,keepO,Q0,Q1,Q2,Q3,Q4,Q5,zba,zA,zB,zX,zaa,Q6,Q7,Q8,Q9,Q10,Q11,Q12,Q13,Q14,Nat.reduceAdd,Q15,Int.reduceToNat,Q16,Q17,Q18,Q19,Q20,reduceIte,Q21,Q22,zy,rep,zaq,zhV,toD,zaD,Q23,Q24,Q25,Q26,Q27,Q28,Nat.reduceLeDiff,Q29,Nat.reduceSub,Q30,Q31,Q32,sc,Q33,Q34,Q35,Q36,Q37,Q26,Q38,Q39,zuP,zuM,zuJ,zuQ,zjr,zuN,zuK,zuO,zuL,zjq,zjs,zuS,zuT,Bool.not_true,Bool.not_false,List.length_map,Bool.and_false,Bool.and_self,Bool.false_and,Bool.not_false,Bool.not_true,Bool.true_and,Int.toNat_natCast,Int.toNat_zero,List.drop_zero,List.length_map,List.length_nil,List.nil_append,List.take_length,Nat.sub_zero,Nat.zero_add,Option.isSome_none,Option.isSome_some,Option.map_none,Option.map_some,zam,beq_self_eq_true,bft,bne,bne_self_eq_false,btf,zix,zfg,zgg,zcf,mgetR,zcz,a]|with_reducible refine zvh ?_|fail);exact h.go):P:=e a ⟨h⟩
theorem c_kSameProof {a b:zfi}(ha:zqS a){K:KT}(hK:K (.d (.bool (decide (a=b)))) σ):zP zks [znD a,znD b] σ K:=by
 refine zen zwD fun hl=>?_;have fin:∀z,decide (a=b)=z->K (.d (.bool z)) σ:=fun z h=>h▸hK;clear hK;simp only[zph,iN,bT,bF,eN];have hla1:((zmv a.headers).length)=a.headers.length:=List.length_map ..;have hlb1:((zmv b.headers).length)=b.headers.length:=List.length_map ..;have hla2:((zgH a.path).length)=a.path.length:=List.length_map ..;have hlb2:((zgH b.path).length)=b.path.length:=List.length_map ..;have hal1:=ha.headers;have hal2:=ha.path;cases h1:(a.topic==b.topic)
 ·refine zAi h1 ?_;refine zu hl ?_;exact fin _ (decide_eq_false fun h=>by subst h;simp at h1)
 cases h2:(a.offset==b.offset)
 ·refine zAi (zd h1 h2) ?_;refine zu hl ?_;exact fin _ (decide_eq_false fun h=>by subst h;simp at h2)
 cases h3:(a.rec_==b.rec_)
 ·refine gq37 (zd h1 (zd h2 h3)) ?_;refine zu hl ?_;exact fin _ (decide_eq_false fun h=>by subst h;simp at h3)
 cases h4:(a.index==b.index)
 ·refine gq37 (zd h1 (zd h2 (zd h3 h4))) ?_;refine zu hl ?_;exact fin _ (decide_eq_false fun h=>by subst h;simp at h4)
 cases h5:(a.count==b.count)
 ·refine gq37 (zd h1 (zd h2 (zd h3 (zd h4 h5)))) ?_;refine zu hl ?_;exact fin _ (decide_eq_false fun h=>by subst h;simp at h5)
 refine gq37 (zd h1 (zd h2 (zd h3 (zd h4 h5)))) ?_;refine ztN (a:=a.cert) (b:=b.cert) ha.signs ?_;cases h6:decide (a.cert=b.cert)
 ·refine zm h6 ?_;refine zu hl ?_;exact fin _ (decide_eq_false fun h=>by subst h;simp at h6)
 cases h7:((a.headers.length:Int)==(b.headers.length:Int))
 ·refine zAi (zd h6 (zd hla1 (zd hlb1 h7))) ?_;refine zu hl ?_;exact fin _ (decide_eq_false fun h=>by subst h;simp at h7)
 cases h8:((a.path.length:Int)==(b.path.length:Int))
 ·refine zAi (zd h6 (zd hla1 (zd hlb1 (zd h7 (zd hla2 (zd hlb2 h8)))))) ?_;refine zu hl ?_;exact fin _ (decide_eq_false fun h=>by subst h;simp at h8)
 have hl2:a.headers.length=b.headers.length:=by simp at h7;omega
 have hl3:a.path.length=b.path.length:=by simp at h8;omega
 have hla:((a.headers.map zsi).length)=a.headers.length:=List.length_map ..;have hlb:((b.headers.map zsi).length)=b.headers.length:=List.length_map ..;refine zAi (zd h6 (zd hla1 (zd hlb1 (zd h7 (zd hla2 (zd hlb2 (zd h8 (zd hla hlb)))))))) ?_;refine zn a.headers.length (fun k vs s=>vs=[.d (.int .i64 k)]/\s=σ++[zor a,zor b]/\a.headers.take k=b.headers.take k) ⟨rfl,rfl,by simp⟩ ?_;rintro k vs s hk ⟨rfl,rfl,htk⟩;by_cases hlt:k<a.headers.length
 ·have hd:decide ((k:Int)<(a.headers.length:Int))=true:=by simp;omega
  have hx:a.headers[k]? = some a.headers[k]:=by simp[hlt]
  have hy:b.headers[k]? = some (b.headers[k]'(by omega)):=List.getElem?_eq_getElem _;have hgx:=zQ (f:=zsi) hx;have hgy:=zQ (f:=zsi) hy;obtain⟨x,hxe⟩:∃x,a.headers[k]=x:=⟨_,rfl⟩;obtain⟨y,hye⟩:∃y,(b.headers[k]'(by omega))=y:=⟨_,rfl⟩;rw[hxe]at hx hgx;rw[hye]at hy hgy;have hxy:x=y↔((x.seq==y.seq&&(x.prev==y.prev&&(x.batch==y.batch&&(x.root==y.root&&x.state==y.state)))))=true:=by cases x;cases y;simp
  cases he2:((x.seq==y.seq&&(x.prev==y.prev&&(x.batch==y.batch&&(x.root==y.root&&x.state==y.state)))))
  ·refine gq21 (zd hd (zd hgx (zd hgy (zd hla (zd hlb he2))))) ?_;refine zu hl ?_;refine fin _ (decide_eq_false fun h=>?_);subst h;rw[hx]at hy;rw[hxy.1 (Option.some.inj hy)]at he2;cases he2
  ·refine gq21 (zd hd (zd hgx (zd hgy (zd hla (zd hlb (zd he2 (wkc k (by omega)))))))) ?_;exact zaF.next hlt ⟨rfl,rfl,zbs hx hy htk (hxy.2 he2)⟩
 have hd:decide ((k:Int)<(a.headers.length:Int))=false:=by simp;omega
 have heq_headers:a.headers=b.headers:=zct hl2 (k:=k) (by omega) htk;refine zm (zd hd (zd hla1 (zd hlb1 (zd hla2 hlb2)))) ?_;have hla:((a.path.map (fun t=>[D.int .i64 t])).length)=a.path.length:=List.length_map ..;have hlb:((b.path.map (fun t=>[D.int .i64 t])).length)=b.path.length:=List.length_map ..;refine zAi (zd h6 (zd hla1 (zd hlb1 (zd h7 (zd hla2 (zd hlb2 (zd h8 (zd hla hlb)))))))) ?_;refine zn a.path.length (fun k vs s=>vs=[.d (.int .i64 k)]/\s=σ++[zor a,zor b]/\a.path.take k=b.path.take k) ⟨rfl,rfl,by simp⟩ ?_;rintro k vs s hk ⟨rfl,rfl,htk⟩;by_cases hlt:k<a.path.length
 ·have hd:decide ((k:Int)<(a.path.length:Int))=true:=by simp;omega
  have hx:a.path[k]? = some a.path[k]:=by simp[hlt]
  have hy:b.path[k]? = some (b.path[k]'(by omega)):=List.getElem?_eq_getElem _;have hgx:=zQ (f:=(fun t=>[D.int .i64 t])) hx;have hgy:=zQ (f:=(fun t=>[D.int .i64 t])) hy;obtain⟨x,hxe⟩:∃x,a.path[k]=x:=⟨_,rfl⟩;obtain⟨y,hye⟩:∃y,(b.path[k]'(by omega))=y:=⟨_,rfl⟩;rw[hxe]at hx hgx;rw[hye]at hy hgy;have hxy:x=y↔(x==y)=true:=by simp
  cases he2:(x==y)
  ·refine gq21 (zd hd (zd hgx (zd hgy (zd hla (zd hlb he2))))) ?_;refine zu hl ?_;refine fin _ (decide_eq_false fun h=>?_);subst h;rw[hx]at hy;rw[hxy.1 (Option.some.inj hy)]at he2;cases he2
  ·refine gq21 (zd hd (zd hgx (zd hgy (zd hla (zd hlb (zd he2 (wkc k (by omega)))))))) ?_;exact zaF.next hlt ⟨rfl,rfl,zbs hx hy htk (hxy.2 he2)⟩
 have hd:decide ((k:Int)<(a.path.length:Int))=false:=by simp;omega
 have heq_path:a.path=b.path:=zct hl3 (k:=k) (by omega) htk;refine zm (zd hd (zd hla hlb)) ?_;refine zu hl ?_;exact fin _ (decide_eq_true (by cases a;cases b;simp_all))
theorem c_kSame {a b:zbj}(ha:zaK a)(hb:zaK b){K:KT}(hK:K (.d (.bool (decide (a=b)))) σ):zP zmp [zgd a,zgd b] σ K:=by
 refine zen e_r10_Same fun hl=>?_;have fin:∀z,decide (a=b)=z->K (.d (.bool z)) σ:=fun z h=>h▸hK;clear hK;simp only[zzx,iN,bT,bF,eN];have hla:((zap a.changes).length)=a.changes.length:=List.length_map ..;have hlb:((zap b.changes).length)=b.changes.length:=List.length_map ..;have hal:=ha.changes;cases h1:(a.kind==b.kind)
 ·refine zAi h1 ?_;refine zu hl ?_;exact fin _ (decide_eq_false fun h=>by subst h;simp at h1)
 cases h2:(a.src==b.src)
 ·refine zAi (zd h1 h2) ?_;refine zu hl ?_;exact fin _ (decide_eq_false fun h=>by subst h;simp at h2)
 cases h3:(a.view==b.view)
 ·refine zAi (zd h1 (zd h2 h3)) ?_;refine zu hl ?_;exact fin _ (decide_eq_false fun h=>by subst h;simp at h3)
 cases h4:(a.seq==b.seq)
 ·refine zAi (zd h1 (zd h2 (zd h3 h4))) ?_;refine zu hl ?_;exact fin _ (decide_eq_false fun h=>by subst h;simp at h4)
 cases h5:(a.dig==b.dig)
 ·refine zAi (zd h1 (zd h2 (zd h3 (zd h4 h5)))) ?_;refine zu hl ?_;exact fin _ (decide_eq_false fun h=>by subst h;simp at h5)
 cases h6:(a.client==b.client)
 ·refine zAi (zd h1 (zd h2 (zd h3 (zd h4 (zd h5 h6))))) ?_;refine zu hl ?_;exact fin _ (decide_eq_false fun h=>by subst h;simp at h6)
 cases h7:(a.time==b.time)
 ·refine zAi (zd h1 (zd h2 (zd h3 (zd h4 (zd h5 (zd h6 h7)))))) ?_;refine zu hl ?_;exact fin _ (decide_eq_false fun h=>by subst h;simp at h7)
 cases h8:(a.rerr==b.rerr&&a.roff==b.roff)
 ·refine gq21 (zd h1 (zd h2 (zd h3 (zd h4 (zd h5 (zd h6 (zd h7 h8))))))) ?_;refine zu hl ?_;exact fin _ (decide_eq_false fun h=>by subst h;simp at h8)
 cases h9:(a.topic==b.topic)
 ·refine gq21 (zd h1 (zd h2 (zd h3 (zd h4 (zd h5 (zd h6 (zd h7 (zd h8 h9)))))))) ?_;refine zu hl ?_;exact fin _ (decide_eq_false fun h=>by subst h;simp at h9)
 cases h10:(a.offset==b.offset)
 ·refine gq21 (zd h1 (zd h2 (zd h3 (zd h4 (zd h5 (zd h6 (zd h7 (zd h8 (zd h9 h10))))))))) ?_;refine zu hl ?_;exact fin _ (decide_eq_false fun h=>by subst h;simp at h10)
 cases h11:(a.key==b.key&&a.sdig==b.sdig)
 ·refine gq21 (zd h1 (zd h2 (zd h3 (zd h4 (zd h5 (zd h6 (zd h7 (zd h8 (zd h9 (zd h10 h11)))))))))) ?_;refine zu hl ?_;exact fin _ (decide_eq_false fun h=>by subst h;simp at h11)
 refine gq21 (zd h1 (zd h2 (zd h3 (zd h4 (zd h5 (zd h6 (zd h7 (zd h8 (zd h9 (zd h10 h11)))))))))) ?_;refine zAG ha.batchS hb.batchS ?_;cases h12:decide (a.batch=b.batch)
 ·refine zm h12 ?_;refine zu hl ?_;exact fin _ (decide_eq_false fun h=>by subst h;simp at h12)
 refine zlr h12 ?_;refine ztN (a:=a.cert) (b:=b.cert) ha.signs ?_;cases h13:decide (a.cert=b.cert)
 ·refine zm h13 ?_;refine zu hl ?_;exact fin _ (decide_eq_false fun h=>by subst h;simp at h13)
 refine zlr h13 ?_;refine zAF ha.entries (fun x hx=>(ha.entry x hx).2) (fun x hx=>(hb.entry x hx).2) ?_;cases h14:decide (a.entries=b.entries)
 ·refine zm h14 ?_;refine zu hl ?_;exact fin _ (decide_eq_false fun h=>by subst h;simp at h14)
 cases h15:(a.state==b.state)
 ·refine gq37 (zd h14 h15) ?_;refine zu hl ?_;exact fin _ (decide_eq_false fun h=>by subst h;simp at h15)
 refine gq37 (zd h14 h15) ?_;refine c_kSameProof (a:=a.proof) (b:=b.proof) ha.proof ?_;cases h16:decide (a.proof=b.proof)
 ·refine zm h16 ?_;refine zu hl ?_;exact fin _ (decide_eq_false fun h=>by subst h;simp at h16)
 cases h17:((a.changes.length:Int)==(b.changes.length:Int))
 ·refine zAi (zd h16 (zd hla (zd hlb h17))) ?_;refine zu hl ?_;exact fin _ (decide_eq_false fun h=>by subst h;simp at h17)
 have hl2:a.changes.length=b.changes.length:=by simp at h17;omega
 have hla:((a.changes.map zag).length)=a.changes.length:=List.length_map ..;have hlb:((b.changes.map zag).length)=b.changes.length:=List.length_map ..;refine zAi (zd h16 (zd hla (zd hlb (zd h17 (zd hla hlb))))) ?_;refine zn a.changes.length (fun k vs s=>vs=[.d (.int .i64 k)]/\s=σ++[zla a,zla b]/\a.changes.take k=b.changes.take k) ⟨rfl,rfl,by simp⟩ ?_;rintro k vs s hk ⟨rfl,rfl,htk⟩;by_cases hlt:k<a.changes.length
 ·have hd:decide ((k:Int)<(a.changes.length:Int))=true:=by simp;omega
  have hx:a.changes[k]? = some a.changes[k]:=by simp[hlt]
  have hy:b.changes[k]? = some (b.changes[k]'(by omega)):=List.getElem?_eq_getElem _;have hgx:=zQ (f:=zag) hx;have hgy:=zQ (f:=zag) hy;have hxs:=(ha.change _ (List.getElem_mem hlt)).2;have hys:=(hb.change _ (List.getElem_mem (show k<b.changes.length by omega))).2;obtain⟨x,hxe⟩:∃x,a.changes[k]=x:=⟨_,rfl⟩;obtain⟨y,hye⟩:∃y,(b.changes[k]'(by omega))=y:=⟨_,rfl⟩;rw[hxe]at hx hgx hxs;rw[hye]at hy hgy hys;refine zdO (zd hd (zd hgx (zd hgy (zd hla hlb)))) ?_;refine zAK (a:=x) (b:=y) hxs hys ?_;cases he:decide (x=y)
  ·refine zG ?_;refine zu hl ?_;refine fin _ (decide_eq_false fun h=>?_);subst h;rw[hx]at hy;have:=Option.some.inj hy;simp[this]at he
  ·refine zm (wkc k (by omega)) ?_;exact zaF.next hlt ⟨rfl,rfl,zbs hx hy htk (by simpa using he)⟩
 have hd:decide ((k:Int)<(a.changes.length:Int))=false:=by simp;omega
 have heq_changes:a.changes=b.changes:=zct hl2 (k:=k) (by omega) htk;refine zm (zd hd (zd hla hlb)) ?_;refine zu hl ?_;exact fin _ (decide_eq_true (by cases a;cases b;simp_all))
variable {σ:List AObj}
theorem w64k {x:Int}(h0:0<=x)(h1:x<=9007199254740992):IntKind.u64.wrap x=((x.toNat:Nat):Int):=by
 rw[show x=((x.toNat:Nat):Int) by omega,zdQ (by omega)];rfl
theorem zeQ {b:List UInt8}{l:List Int}(hb:b.length<=536870912)(hl0:l.length<=1000)(hi:∀x∈l,0<=x/\x<=9007199254740992){K:KT}(hK:K (.d (.slice (bcs (b++zS l)))) σ) :
  zP zbp [.d (.slice (bcs b)),.d (.slice (zgH l))] σ K:=by
 refine zen e_r10_put fun hl=>?_;simp only[S_r10_put,iN,bT,bF,eN];refine zG ?_;refine zn l.length (fun k vs s=>(∃x,vs=[x,.d (.int .i64 k)]/\(x=.d (.slice (bcs (b++zS (l.take k))))∨∃t,x=.own t (bcs (b++zS (l.take k)))))/\∃T,s=σ++T) ⟨⟨_,rfl,.inl (by simp[zS])⟩,[],by simp⟩ ?_;rintro k vs s hk ⟨⟨y,rfl,hy⟩,T,rfl⟩;by_cases hlt:k<l.length
 ·have hd:decide ((k:Int)<(l.length:Int))=true:=by simp;omega
  have hx:l[k]? = some l[k]:=by simp[hlt]
  have hxi:=hi _ (List.getElem_mem hlt);have hgx:=zQ (f:=fun t=>[D.int .i64 t]) hx;obtain⟨x,hxe⟩:∃x,l[k]=x:=⟨_,rfl⟩;rw[hxe]at hx hgx hxi;have hw:=w64k hxi.1 hxi.2;have hln:=zov (l:=l.take k) (fun y hy=>by have:=hi y (List.mem_of_mem_take hy);omega);have hlk:(l.take k).length=k:=by rw[List.length_take];omega
  have hbl:(b++zS (l.take k)).length<=1073741824:=by rw[List.length_append];omega
  have hnx:b++zS (l.take (k+1))=b++(zS (l.take k)++zbt x.toNat):=by rw[List.take_add_one,hx];simp[zS]
  have fin:∀t τ,(∃z,[AV.own t (bcs (b++(zS (l.take k)++zbt x.toNat))),.d (.int .i64 (k+1:Nat))]=[z,.d (.int .i64 (k+1:Nat))]/\(z=.d (.slice (bcs (b++zS (l.take (k+1)))))∨∃t,z=.own t (bcs (b++zS (l.take (k+1))))))/\∃T',σ++T++τ=σ++T':=fun t τ=>
   ⟨⟨_,rfl,.inr ⟨t,by rw[hnx]⟩⟩,_,List.append_assoc _ _ _⟩
  obtain⟨S,hS⟩:∃S,σ++T=S:=⟨_,rfl⟩;rw[hS]at fin ⊢;rcases hy with rfl|⟨t,rfl⟩
  ·refine zm (zd hd (zd hgx hw)) ?_;refine zeL (by omega) hbl ?_;refine zm (wkc k (by omega)) ?_;exact zaF.next hlt (fin _ _)
  ·refine zm (zd hd (zd hgx hw)) ?_;refine zeL (by omega) hbl ?_;refine zm (wkc k (by omega)) ?_;exact zaF.next hlt (fin _ _)
 ·have hd:decide ((k:Int)<(l.length:Int))=false:=by simp;omega
  rw[List.take_of_length_le (by omega)]at hy;rcases hy with rfl|⟨t,rfl⟩
  ·refine zm hd ?_;refine zu hl ?_;exact hK
  ·refine zm hd ?_;refine zu hl ?_;exact hK
theorem zwZ {b:List UInt8}{l:List zK}(hb:b.length<=268435456)(hc:∀e∈zcn l,e=0){K:KT}(hK:K (.d (.slice (bcs (b++zvO l)))) σ) :
  zP ziD [.d (.slice (bcs b)),.d (.slice (zat l))] σ K:=by
 refine zen zxU fun hl=>?_;obtain⟨h13,hs⟩:=zzR hc;have hll:(zat l).length=l.length:=List.length_map ..;have n1:=zj (n:=l.length) (by omega);simp only[zqD,iN,bT,bF,eN];refine zm hll ?_;refine zeQ (l:=[(l.length:Int)]) (by omega) (by simp) (by simp;omega) ?_;rw[show zS [(l.length:Int)]=zbt l.length by simp[zS]];refine zm hll ?_;refine zn l.length (fun k vs s=>vs=[.d (.slice (bcs (b++(zbt l.length++((l.take k).map fun s=>zgp s.key s.dig).flatten)))),.d (.int .i64 k)]/\s=σ) ⟨by simp,rfl⟩ ?_;rintro k vs s hk ⟨rfl,rfl⟩;by_cases hlt:k<l.length
 ·have hd:decide ((k:Int)<(l.length:Int))=true:=by simp;omega
  have hx:l[k]? = some l[k]:=by simp[hlt]
  have hxi:=hs _ (List.getElem_mem hlt);have hgx:=zQ (f:=zgo) hx;obtain⟨x,hxe⟩:∃x,l[k]=x:=⟨_,rfl⟩;rw[hxe]at hx hgx hxi;have hlen:(((l.take k).map fun s=>zgp s.key s.dig).flatten).length<=(l.take k).length*20:=zcy fun s hm=>zgz (hs s (List.mem_of_mem_take hm));have hlk:(l.take k).length=k:=by rw[List.length_take];omega
  have hsb:zcu x.key x.dig=zgp x.key x.dig:=by simp[zcu,hxi]
  refine zdO (zd hd (zd hgx hll)) ?_;refine ziw (by simp only[List.length_append];omega) ?_;rw[hsb];refine zm (wkc k (by omega)) ?_;exact zaF.next hlt ⟨by rw[zcW hx];try simp,rfl⟩
 ·have hd:decide ((k:Int)<(l.length:Int))=false:=by simp;omega
  rw[List.take_of_length_le (by omega)];refine zm (zd hd hll) ?_;refine zu hl ?_;exact hK
theorem ztO {b:List UInt8}{c:zjt}(hb:b.length<=134217728)(hc:∀e∈zby c,e=0){K:KT}(hK:K (.d (.slice (bcs (b++zrz c)))) σ) :
  zP zhx [.d (.slice (bcs b)),zhL c] σ K:=by
 refine zen zAu fun hl=>?_;obtain⟨h1,h2,h3⟩:=cert_ok hc;have n1:=zj (n:=c.seq.toNat) (by omega);have n2:=zj (n:=c.dig.toNat) (by omega);simp only[zsK,iN,bT,bF,eN];refine zG ?_;refine zeQ (l:=[c.seq,c.dig]) (by omega) (by simp) (by simp;omega) ?_;refine zG ?_;refine zwZ (by simp[zS];omega) h3 ?_;refine zG ?_;refine zu hl ?_;have fin:∀x,x=b++zrz c->K (dmT (zck [.d (.slice (bcs x))])) σ:=by rintro _ rfl;exact hK
 exact fin _ (by simp[zrz,zS])
theorem zzf {b:List UInt8}{c:zbk}(hb:b.length<=67108864)(hc:∀e∈zeu c,e=0){K:KT}(hK:K (.d (.slice (bcs (b++zvg c)))) σ) :
  zP zjR [.d (.slice (bcs b)),.agg (zbK c)] σ K:=by
 refine zen zAv fun hl=>?_;have hpl:(zft c.above).length=c.above.length:=List.length_map ..;obtain⟨h1,h2,h3,h4,h5⟩:=body_ok hc;have n1:=zj (n:=c.view.toNat) (by omega);have n2:=zj (n:=c.src.toNat) (by omega);have n3:=zj (n:=c.above.length) (by omega);have n4:=zhK h3;simp only[zsL,iN,bT,bF,eN,zl7];refine zG ?_;refine zeQ (l:=[c.view,c.src]) (by omega) (by simp) (by simp;omega) ?_;refine zG ?_;refine ztO (c:=c.cert) (by simp[zS];omega) h3 ?_;refine zm hpl ?_;refine zeQ (l:=[(c.above.length:Int)]) (by simp[zS];omega) (by simp) (by simp;omega) ?_;rw[show zS [(c.above.length:Int)]=zbt c.above.length by simp[zS]];obtain⟨Q,hQ⟩:∃Q,b++(zS [c.view,c.src]++zrz c.cert)++zbt c.above.length=Q:=⟨_,rfl⟩;have hQl:Q.length<=67108864+400:=by rw[← hQ];simp[zS];omega
 rw[hQ];refine zm hpl ?_;refine zn c.above.length (fun k vs s=>vs=[.d (.slice (bcs (Q++((c.above.take k).map zuI).flatten))),.d (.int .i64 k)]/\∃T,s=σ++[.box (zbK c)]++T) ⟨by simp,[],by simp⟩ ?_;rintro k vs s hk ⟨rfl,T,rfl⟩;by_cases hlt:k<c.above.length
 ·have hd:decide ((k:Int)<(c.above.length:Int))=true:=by simp;omega
  have hx:c.above[k]? = some c.above[k]:=by simp[hlt]
  have hpx:=h5 _ (List.getElem_mem hlt);have hgx:=zQ (f:=zfy) hx;obtain⟨p,hp⟩:∃p,c.above[k]=p:=⟨_,rfl⟩;rw[hp]at hx hgx hpx;have hlen:(((c.above.take k).map zuI).flatten).length<=(c.above.take k).length*4400:=zcy fun s hm=>zvV (h5 s (List.mem_of_mem_take hm));have hlk:(c.above.take k).length=k:=by rw[List.length_take];omega
  obtain⟨R,hR⟩:∃R,Q++((c.above.take k).map zuI).flatten=R:=⟨_,rfl⟩;have hRl:R.length<=67108864+36000:=by rw[← hR,List.length_append];omega
  rw[hR];obtain⟨p1,p2,p3,p4,p5,p6⟩:=prep_ok hpx;have m1:=zj (n:=p.view.toNat) (by omega);have m2:=zj (n:=p.seq.toNat) (by omega);have m3:=zj (n:=p.dig.toNat) (by omega);have m4:=zgz p4;have m5:=zpv p5;have hsb:zcu p.fkey p.fdig=zgp p.fkey p.fdig:=by simp[zcu,p4]
  have hbb:zdI p.batch=zhj p.batch:=by simp[zdI,p6]
  have hbx:∀τ,(σ++[AObj.box (zbK c)]++T++τ)[σ.length]? = some (.box (zbK c)):=fun τ=>zi (zi (by rw[zB];rfl));have hbx0:=hbx [];rw[List.append_nil]at hbx0;have fin:∀τ,∃T',σ++[AObj.box (zbK c)]++T++τ=σ++AObj.box (zbK c)::T':=fun τ=>⟨T++τ,by simp⟩;obtain⟨S,hS⟩:∃S,σ++[AObj.box (zbK c)]++T=S:=⟨_,rfl⟩;rw[hS]at hbx hbx0 fin ⊢;refine zdO (zd hd (zd hgx (zd hpl (zd hbx hbx0)))) ?_;refine zeQ (l:=[p.view,p.seq,p.dig]) (by omega) (by simp) (by simp;omega) ?_;refine zG ?_;refine ziw (by simp[zS];omega) ?_;rw[hsb];refine zG ?_;refine zwZ (by simp[zS];omega) p5 ?_;refine zG ?_;refine znv (by simp[zS];omega) (fun x hx=>Nat.le_trans ((zdH p6).1 x hx) (by omega)) (by have:=(zjX p6).1;omega) ?_;rw[hbb];refine zm (wkc k (by omega)) ?_;refine zaF.next hlt ⟨?_,fin _⟩;rw[zcW hx,← hR];simp[zuI,zS]
 ·have hd:decide ((k:Int)<(c.above.length:Int))=false:=by simp;omega
  have hbx0:(σ++[AObj.box (zbK c)]++T)[σ.length]? = some (.box (zbK c)):=zi (by rw[zB];rfl);rw[show c.above.take k=c.above from List.take_of_length_le (by omega)];obtain⟨S,hS⟩:∃S,[AObj.box (zbK c)]++T=S:=⟨_,rfl⟩;rw[List.append_assoc,hS]at hbx0 ⊢;refine zm (zd hd (zd hpl hbx0)) ?_;refine zu hl ?_;rw[← hQ];have fin:∀x,x=b++zvg c->K (dmT (zck [.d (.slice (bcs x))])) σ:=by rintro _ rfl;exact hK
  exact fin _ (by simp[zvg,zS])
theorem c_kPutChange {b:List UInt8}{c:zbk}(hb:b.length<=67108864)(hc:∀e∈zaS c,e=0){K:KT}(hK:K (.d (.slice (bcs (b++zfS c)))) σ) :
  zP zkq [.d (.slice (bcs b)),.agg (zbK c)] σ K:=by
 refine zen zwA fun hl=>?_;obtain⟨h1,h2⟩:=ziU hc;have n1:=zsE h1;have hsb:zcu c.key c.dig=zgp c.key c.dig:=by simp[zcu,h2]
 simp only[zpe,iN,bT,bF,eN];refine zG ?_;refine zzf (c:=c) hb h1 ?_;refine zG ?_;refine ziw (by simp only[List.length_append];omega) ?_;rw[hsb];refine zG ?_;refine zu hl ?_;have fin:∀x,x=b++zfS c->K (dmT (zck [.d (.slice (bcs x))])) σ:=by rintro _ rfl;exact hK
 exact fin _ (by simp[zfS,zS])
variable {σ:List AObj} {L:List (List UInt8)} {G:List zK}
theorem gq38 {A P Q:Prop}(a:A)(h:Q)(e:A->Hd Q->P:=by intro a h;(repeat' first|simp -dsimp only[↓zlC,↓zbR,↓zeb,↓zlD,↓zlu,↓zls,↓zlv,↓zlt,↓zeg,↓zec,↓zeh,↓zed,↓zlw,↓zdX,↓zei,↓zee,↓zej,↓zef,↓zlq,↓zlA,↓zdW,↓zem,↓zli,↓zlh,↓zln,iN,bT,bF,eN,↓zev,↓unC,↓zaC,↓zai,↓zaj,↓zav,↓zaW,↓zah,↓zgy,↓zaw,↓zbd,↓zad,↓ze,↓zl,↓zbg,↓zc,↓zaV,↓zN,↓zbS,↓zcl,↓zf,↓zF,↓zp,↓zM,↓zaB,↓zgF,↓zhG,↓zbc,↓zbz,↓zcf,↓zcz,↓zdj,↓zJ,↓zbb,↓zak,↓zO,↓zaU,zho,zdP,zdy,unA,zgu,bnd,ziP,zaO,zL,zhY,dm,dm1,zH,zaJ,zjT,zjS,keepO,Q0,Q1,Q2,Q3,Q4,Q5,zba,zA,zB,zX,zaa,Q6,Q7,Q8,Q9,Q10,Q11,Q12,Q13,Q14,Nat.reduceAdd,Q15,Int.reduceToNat,Q16,Q17,Q18,Q19,Q20,reduceIte,Q21,Q22,zy,rep,zaq,zhV,toD,zaD,Q23,Q24,Q25,Q26,Q27,Q28,Nat.reduceLeDiff,Q29,Nat.reduceSub,Q30,Q31,Q32,sc,Q33,Q34,Q35,Q36,Q37,Q26,Q38,Q39,zuP,zuM,zuJ,zuQ,zjr,zuN,zuK,zuO,zuL,zjq,zjs,zuS,zuT,Bool.not_true,Bool.not_false,List.length_map,Bool.and_false,Bool.and_self,Bool.false_and,Bool.not_false,Bool.not_true,Bool.true_and,Int.toNat_natCast,Int.toNat_zero,List.drop_zero,List.length_map,List.length_nil,List.nil_append,List.take_length,Nat.sub_zero,Nat.zero_add,Option.isSome_none,Option.isSome_some,Option.map_none,Option.map_some,zam,beq_self_eq_true,bne_self_eq_false,a]|with_reducible refine zvh ?_|fail);exact h.go):P:=e a ⟨h⟩
theorem c_raSigned {id id2:Nat}{s:zK}{key:Int}{b:List UInt8}(hT:σ[id]? = some (rtO L))(hG:σ[id2]? = some (rlO G))(hl0:L.length<=1048576)(hg:G.length<=1073741824){K:KT}
  (hK:K (.d (.bool (zhp L G s key b))) σ):zP zox [.box id 0,.box id2 0,.agg [.d (.int .i64 s.key),.d (.int .i64 s.dig)],.d (.int .i64 key),.d (.slice (bcs b))] σ K:=by
 refine acE5 e_r11_signed fun hl=>?_;simp only[zuw,iN,bT,bF,eN];refine zG ?_;refine c_rtLook (zi hT) hl0 ?_;have fin:∀z,zhp L G s key b=z->K (.d (.bool z)) σ:=fun z h=>h▸hK;clear hK;cases hlk:zge L b with
 | none=>
  refine gq28 ?_
  refine zu hl ?_
  exact fin _ (by simp[zhp,hlk])
 | some i=>
  simp only[zow]
  cases h1:(s.key==key)
  ·refine gq38 h1 ?_
   refine zu hl ?_
   exact fin _ (by simp at h1;simp[zhp,hlk,h1])
  ·cases h2:(s.dig==((i+1:Nat):Int))
   ·refine gq38 (zd h1 h2) ?_
    refine zu hl ?_
    exact fin _ (by simp at h1 h2;simp[zhp,hlk,h1];omega)
   ·refine gq38 (zd h1 h2) ?_
    refine zzd (s:=s) (zi hG) hg ?_
    refine zG ?_
    refine zu hl ?_
    exact fin _ (by simp at h1 h2;simp[zhp,hlk,h1,h2])
variable {σ:List AObj}
theorem zwY {k:Int}{K:KT}(hK:K (.d (.bool (zeO k))) σ):zP zoy [.d (.int .i64 k)] σ K:=by
 refine zey e_r10_signed fun hl=>?_;have fin:∀z,zeO k=z->K (.d (.bool z)) σ:=fun z h=>h▸hK;clear hK;simp only[zux,iN,bT,bF,eN];cases h1:decide (k≥2)
 ·refine zm h1 ?_;refine zu hl ?_;exact fin _ (by simp at h1;simp[zeO];omega)
 cases h2:decide (k<=9)
 ·refine zm (zd h1 h2) ?_;refine zu hl ?_;exact fin _ (by simp at h2;simp[zeO];omega)
 refine zm (zd h1 h2) ?_;refine zu hl ?_;refine fin _ ?_;simp at h1 h2;rw[Bool.eq_iff_iff];simp[zeO,h1,h2]
theorem zAJ {b:List UInt8}{K:KT}(hK:K (.tup [.d (.slice (bcs (if b.length>262144 then []else b))),.d (.int .i64 (if b.length>262144 then 3 else 0))]) σ) :
  zP zqZ [.d (.slice (bcs b)),.d (.int .i64 0)] σ K:=by
 refine zen e_r10_short fun hl=>?_;simp only[zxo,iN,bT,bF,eN];by_cases h:b.length>262144
 ·have hd:decide ((b.length:Int)>262144)=true:=by simp;omega
  rw[if_pos h,if_pos h]at hK;refine zm hd ?_;refine zu hl ?_;exact hK
 ·have hd:decide ((b.length:Int)>262144)=false:=by simp;omega
  rw[if_neg h,if_neg h]at hK;refine zm hd ?_;refine zu hl ?_;exact hK
theorem c_kBody7 {m:zbj}{c:zbk}(hk:m.kind=7)(hch:m.changes=[c])(hc:∀e∈zeu c,e=0){K:KT}(hK:K (.tup [.d (.slice (bcs (unsB m))),.d (.bool true)]) σ) :
  zP zke [zgd m] σ K:=by
 refine zey ztD fun hl=>?_;have hgx:(zap m.changes)[0]? = some (zag c):=by rw[hch];rfl
 have hgl:(zap m.changes).length=1:=by rw[hch];rfl
 have n1:=zj (n:=m.kind.toNat) (by omega);simp only[zpU,iN,bT,bF,eN];refine zG ?_;refine zeQ (b:=[]) (l:=[m.kind]) (by simp) (by simp) (by simp;omega) ?_;refine zdO (zd (kk7 hk) (zd hgx hgl)) ?_;refine zzf (c:=c) (b:=[]++zS [m.kind]) (by simp[zS];omega) hc ?_;refine zG ?_;refine zu hl ?_;have fin:∀x,x=unsB m->K (dmT (zck [.d (.slice (bcs x)),.d (.bool true)])) σ:=by rintro _ rfl;exact hK
 exact fin _ (by simp[unsB,hk,hch,zS])
theorem c_kBody8 {m:zbj}(hk:m.kind=8)(hc:∀e∈zfG m,e=0){K:KT}(hK:K (.tup [.d (.slice (bcs (unsB m))),.d (.bool true)]) σ) :
  zP zke [zgd m] σ K:=by
 refine zey ztD fun hl=>?_;have hcl:(zap m.changes).length=m.changes.length:=List.length_map ..;have hel:(zbq m.entries).length=m.entries.length:=List.length_map ..;obtain⟨h1,h2,h3,h4,h5,h6⟩:=newv_ok hc;have n0:=zj (n:=m.kind.toNat) (by omega);have n1:=zj (n:=m.src.toNat) (by omega);have n2:=zj (n:=m.view.toNat) (by omega);have n3:=zj (n:=m.changes.length) (by omega);have n4:=zj (n:=m.entries.length) (by omega);simp only[zpU,iN,bT,bF,eN];refine zG ?_;refine zeQ (b:=[]) (l:=[m.kind]) (by simp) (by simp) (by simp;omega) ?_;refine zm (zd (kk8 hk) hcl) ?_;refine zeQ (l:=[m.src,m.view,(m.changes.length:Int)]) (b:=[]++zS [m.kind]) (by simp[zS];omega) (by simp) (by simp;omega) ?_;obtain⟨Q,hQ⟩:∃Q,[]++zS [m.kind]++zS [m.src,m.view,(m.changes.length:Int)]=Q:=⟨_,rfl⟩;have hQl:Q.length<=1000:=by rw[← hQ];simp[zS];omega
 rw[hQ];refine zm hcl ?_;refine zn m.changes.length (fun k vs s=>vs=[.d (.slice (bcs (Q++((m.changes.take k).map zfS).flatten))),.d (.int .i64 k)]/\s=σ++[zla m]) ⟨by simp,rfl⟩ ?_;rintro k vs s hk0 ⟨rfl,rfl⟩;have hlenC:(((m.changes.take k).map zfS).flatten).length<=13*36020:=by
  have:=zcy (f:=zfS) (n:=36020) (l:=m.changes.take k) fun s hm=>zry (h4 s (List.mem_of_mem_take hm));have hlk:(m.changes.take k).length<=13:=by rw[List.length_take];omega
  have:(m.changes.take k).length*36020<=13*36020:=Nat.mul_le_mul_right _ hlk;omega
 by_cases hlt:k<m.changes.length
 ·have hd:decide ((k:Int)<(m.changes.length:Int))=true:=by simp;omega
  have hx:m.changes[k]? = some m.changes[k]:=by simp[hlt]
  have hpx:=h4 _ (List.getElem_mem hlt);have hgx:=zQ (f:=zag) hx;obtain⟨p,hp⟩:∃p,m.changes[k]=p:=⟨_,rfl⟩;rw[hp]at hx hgx hpx;refine zdO (zd hd (zd hgx hcl)) ?_;refine c_kPutChange (c:=p) (by simp only[List.length_append];omega) hpx ?_;refine zm (wkc k (by omega)) ?_;exact zaF.next hlt ⟨by rw[zcW hx];try simp,rfl⟩
 have hd:decide ((k:Int)<(m.changes.length:Int))=false:=by simp;omega
 rw[show m.changes.take k=m.changes from List.take_of_length_le (by omega)]at hlenC ⊢;refine zm (zd hd (zd hcl hel)) ?_;refine zeQ (l:=[(m.entries.length:Int)]) (by simp only[List.length_append];omega) (by simp) (by simp;omega) ?_;obtain⟨R,hR⟩:∃R,Q++(m.changes.map zfS).flatten++zS [(m.entries.length:Int)]=R:=⟨_,rfl⟩;have hRl:R.length<=1000000:=by rw[← hR];simp only[zS,List.map_cons,List.map_nil,List.flatten_cons,List.flatten_nil,List.append_nil,List.length_append,Int.toNat_natCast];omega
 rw[hR];refine zm hel ?_;refine zn m.entries.length (fun k vs s=>vs=[.d (.slice (bcs (R++((m.entries.take k).map znE).flatten))),.d (.int .i64 k)]/\∃T,s=σ++zla m::T) ⟨by simp,[],rfl⟩ ?_;rintro k vs s hk1 ⟨rfl,T,rfl⟩;by_cases hlt:k<m.entries.length
 ·have hd:decide ((k:Int)<(m.entries.length:Int))=true:=by simp;omega
  have hx:m.entries[k]? = some m.entries[k]:=by simp[hlt]
  have hpx:=h6 _ (List.getElem_mem hlt);have hgx:=zQ (f:=zdd) hx;obtain⟨p,hp⟩:∃p,m.entries[k]=p:=⟨_,rfl⟩;rw[hp]at hx hgx hpx;have hlen:(((m.entries.take k).map znE).flatten).length<=(m.entries.take k).length*4040:=zcy fun s hm=>ztA (h6 s (List.mem_of_mem_take hm));have hlk:(m.entries.take k).length=k:=by rw[List.length_take];omega
  obtain⟨X,hX⟩:∃X,R++((m.entries.take k).map znE).flatten=X:=⟨_,rfl⟩;have hXl:X.length<=2000000:=by rw[← hX,List.length_append];omega
  rw[hX];obtain⟨p1,p2,p3,p4⟩:=zAr hpx;have m1:=zj (n:=p.view.toNat) (by omega);have m2:=zj (n:=p.seq.toNat) (by omega);have m3:=(zdH p3).2;have hsb:zcu p.key p.dig=zgp p.key p.dig:=by simp[zcu,p4]
  have hbb:zdI p.batch=zhj p.batch:=by simp[zdI,p3]
  have hbx0:(σ++zla m::T)[σ.length]? = some (zla m):=by rw[zB];rfl
  have hbx:∀τ,(σ++zla m::T++τ)[σ.length]? = some (zla m):=fun τ=>zi hbx0;have fin:∀τ,∃T',σ++zla m::T++τ=σ++zla m::T':=fun τ=>⟨T++τ,by simp⟩;obtain⟨S,hS⟩:∃S,σ++zla m::T=S:=⟨_,rfl⟩;rw[hS]at hbx hbx0 fin ⊢;refine zdO (zd hd (zd hgx (zd hel (zd hbx hbx0)))) ?_;refine zeQ (l:=[p.view,p.seq]) (by omega) (by simp) (by simp;omega) ?_;refine zG ?_;refine znv (by simp[zS];omega) (fun x hx=>Nat.le_trans ((zdH p3).1 x hx) (by omega)) (by have:=(zjX p3).1;omega) ?_;rw[hbb];refine zG ?_;refine ziw (by simp[zS];omega) ?_;rw[hsb];refine zm (wkc k (by omega)) ?_;refine zaF.next hlt ⟨?_,fin _⟩;rw[zcW hx,← hX];simp[znE,zS]
 ·have hd:decide ((k:Int)<(m.entries.length:Int))=false:=by simp;omega
  have hbx0:(σ++zla m::T)[σ.length]? = some (zla m):=by rw[zB];rfl
  rw[show m.entries.take k=m.entries from List.take_of_length_le (by omega)];obtain⟨S,hS⟩:∃S,zla m::T=S:=⟨_,rfl⟩;rw[hS]at hbx0 ⊢;refine zm (zd hd (zd hel hbx0)) ?_;refine zu hl ?_;have fin:∀x,x=unsB m->K (dmT (zck [.d (.slice (bcs x)),.d (.bool true)])) σ:=by rintro _ rfl;exact hK
  exact fin _ (by rw[← hR,← hQ];simp[unsB,hk,newvB,zS])
end Go.Proofs.YtdgcepphjnoalaaGreat
