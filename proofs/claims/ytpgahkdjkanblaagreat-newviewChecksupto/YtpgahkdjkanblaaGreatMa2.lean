/- Contracts: votes and entries signed, the program's. -/
import Derived.Test.YtpgahkdjkanblaaGreatSpPool2
import Derived.Test.YtpgahkdjkanblaaGreatId5
import Derived.Test.YtpgahkdjkanblaaGreatSm2
import Derived.Test.YtpgahkdjkanblaaGreatAu3
import Derived.Test.YtpgahkdjkanblaaGreatRq1
import Derived.Test.YtpgahkdjkanblaaGreatNr3
import Derived.Test.YtpgahkdjkanblaaGreatSm4
import Derived.Test.YtpgahkdjkanblaaGreatAwFrz
set_option linter.all false
set_option maxRecDepth 100000
namespace Go.Proofs.YtpgahkdjkanblaaGreat
open Go.AW
theorem c_auSign {i:TGi} {σ:List zd} {L:List (List UInt8)} {G:List zy} {key:Int} {b:List UInt8} (h:TG i σ L G) (hL:zka L) (hbl:b.length<=1073741824) (hg:G.length<=1073741824) {K:KT}
  (hK:K (.tup [znT (sgnS L key b),.d (.int .i64 (zvJ L key b))]) (zeD i σ (zgn L b) (zlP L G key b))) :
  zj Tryz.prog zmV [.box i.id 0,.box i.id2 0,.d (.int .i64 key),.d (.slice (bcs b))] σ K:=by
 refine zAU e_auth_sign fun hl => ?_
 simp only [zxJ,iN,bT,bF,eN]
 refine zQ ?_
 refine c_tSum (h.tab.app _) hbl hL.len ?_
 rw [ztg h.tab,zvM h]
 have h1:=h.put (zgn L b) G
 have hl1:=h.lows hl (zgn L b) G
 have hs1:=zfk i σ (zgn L b) G
 have hpp:=h.put_put (zgn L b) (zgn L b) G (zlP L G key b)
 obtain ⟨S1,hS1⟩:∃ S,zeD i σ (zgn L b) G=S:=⟨_,rfl⟩
 rw [hS1] at h1 hl1 hs1 hpp ⊢
 have r1 : σ.length=S1.length:=hs1.symm
 rw [r1] at hl1
 by_cases hz:zon L b=0
 ·have hq:(zon L b==0)=true:=by simpa using hz
  simp only [zvJ,sgnS,zlP,if_pos hz,znT,hS1] at hK
  refine zA (zo hq r1) ?_
  refine zcx rfl ?_ hl1 hK
  simp [zfF,dmT,dm,dm1,zcq,zaU,zdw]
 ·have hq:(zon L b==0)=false:=by simpa using hz
  rw [← hpp] at hK
  simp only [zvJ,sgnS,zlP,if_neg hz] at hK
  refine zA (zo hq r1) ?_
  refine c_gSign (h1.led.app _) hg ?_
  rw [zth h1.led,put_led_tab h1]
  have h2:=h1.put (zgn L b) (zie G key (zon L b))
  have hl2:=h1.lows hl1 (zgn L b) (zie G key (zon L b))
  have hs2:=zfk i S1 (zgn L b) (zie G key (zon L b))
  obtain ⟨S2,hS2⟩:∃ S,zeD i S1 (zgn L b) (zie G key (zon L b))=S:=⟨_,rfl⟩
  rw [hS2] at hK hs2 hl2 h2 ⊢
  have r3:S1.length=S2.length:=hs2.symm
  have r2 : σ.length=S2.length:=r1.trans r3
  rw [r3] at hl2
  simp only [znT] at hK ⊢
  refine zA (zo r2 r3) ?_
  refine zcx rfl ?_ hl2 hK
  simp [zfF,dmT,dm,dm1,zcq,zaU,zdw]
theorem c_auVote {i:TGi} {σ:List zd} {L:List (List UInt8)} {G:List zy} {key a b c d:Int} (h:TG i σ L G) (hL:zka L) (hg:G.length<=1073741824) {K:KT}
  (hK:K (.tup [znT (votS L key a b c d),.d (.int .i64 (votE L key a b c d))]) (zeD i σ (zyt L a b c d) (zyu L G key a b c d))) :
  zj Tryz.prog zqV [.box i.id 0,.box i.id2 0,.d (.int .i64 key),.d (.int .i64 a),.d (.int .i64 b),.d (.int .i64 c),.d (.int .i64 d)] σ K:=by
 refine acE7 e_auth_Vote fun hl => ?_
 simp only [zxL,iN,bT,bF,eN]
 refine zQ ?_
 refine zpR (h.tab.app _) (h.led.app _) hL hg ?_
 refine zQ ?_
 refine c_auMay ?_
 cases hm:zvs a b c d
 ·simp only [votS,votE,zyt,zyu,hm,Bool.false_eq_true,if_false,znT,h.self] at hK
  refine zQ ?_
  refine zt hl ?_
  exact hK
 ·simp only [votS,votE,zyt,zyu,hm,if_true] at hK
  have hbl:=zvC hm
  refine zQ ?_
  refine zsx hm ?_
  refine zQ ?_
  refine c_auSign (h.app _) hL (by omega) hg ?_
  rw [h.put_app]
  have hl2:=h.lows hl (zgn L (zkc a b c d)) (zlP L G key (zkc a b c d))
  have hs2:=zfk i σ (zgn L (zkc a b c d)) (zlP L G key (zkc a b c d))
  obtain ⟨S2,hS2⟩:∃ S,zeD i σ (zgn L (zkc a b c d)) (zlP L G key (zkc a b c d))=S:=⟨_,rfl⟩
  rw [hS2] at hK hs2 hl2 ⊢
  have r3 : σ.length=S2.length:=hs2.symm
  rw [r3] at hl2
  simp only [znT] at hK ⊢
  refine zA r3 ?_
  refine zcx rfl ?_ hl2 hK
  simp [zfF,dmT,dm,dm1,zcq,zaU,zdw]
theorem zka.vote {L:List (List UInt8)} (h:zka L) (a b c d:Int):zka (zyt L a b c d):=by
 unfold zyt
 split
 ·rename_i hm
  exact h.sum (by have:=zvC hm;omega)
 ·exact h
theorem zzV (L:List (List UInt8)) (G:List zy) (key:Int) (b:List UInt8):(zlP L G key b).length<=G.length+1:=by
 unfold zlP zie zzU
 split
 ·omega
 ·split
  ·split
   ·omega
   ·simp
  ·omega
theorem votG_len (L:List (List UInt8)) (G:List zy) (key a b c d:Int):(zyu L G key a b c d).length<=G.length+1:=by
 unfold zyu
 split
 ·exact zzV ..
 ·omega
theorem zka.dig' {L:List (List UInt8)} (h:zka L) {l:List zC} (hx:∀ s∈l,zlf s.op<=20971520):zka (zom L l):=by
 unfold zom
 split
 ·exact h
 ·rename_i hc
  have:=zlH hx
  rw [zbw,if_pos (by simpa using hc)] at this
  exact h.sum (by omega)
theorem zka.ent {L:List (List UInt8)} (h:zka L) {x:zaI} (hx:∀ s∈x.batch,zlf s.op<=20971520):zka (zqm L x):=by
 unfold zqm
 split
 ·exact h.dig' hx
 ·exact (h.dig' hx).vote ..
theorem entG_len (L:List (List UInt8)) (G:List zy) (key:Int) (x:zaI):(zqn L G key x).length<=G.length+1:=by
 unfold zqn
 split
 ·omega
 ·exact votG_len ..
theorem c_auEntry {i:TGi} {σ:List zd} {L:List (List UInt8)} {G:List zy} {key:Int} {x:zaI} (h:TG i σ L G) (hL:zka L) (hg:G.length<=1073741824) (hx:∀ s∈x.batch,zlf s.op<=20971520) (hll:x.batch.length<=1073741824)
  {K:KT} (hK:K (.tup [zoI (entX L key x),.d (.int .i64 (zlk L key x))]) (zeD i σ (zqm L x) (zqn L G key x))) :
  zj Tryz.prog zoF [.box i.id 0,.box i.id2 0,.d (.int .i64 key),zoI x] σ K:=by
 refine zAU e_auth_Entry fun hl => ?_
 have hok:zhN x.batch:=⟨hll,fun s hs=>by have:=zsZ (hx s hs);exact ⟨this.2.2.1,this.2.2.2⟩⟩
 simp only [zuP,iN,bT,bF,eN]
 refine zQ ?_
 refine zpR (h.tab.app _) (h.led.app _) hL hg ?_
 refine zQ ?_
 refine c_rqDigest (h.tab.app _) hL hx hll ?_
 rw [ztg h.tab,zvM h]
 have h1:=h.put (zom L x.batch) G
 have hl1:=h.lows hl (zom L x.batch) G
 have hs1:=zfk i σ (zom L x.batch) G
 have hpp:=fun G' L'=>h.put_put (zom L x.batch) L' G G'
 obtain ⟨S1,hS1⟩:∃ S,zeD i σ (zom L x.batch) G=S:=⟨_,rfl⟩
 rw [hS1] at h1 hl1 hs1 ⊢
 simp only [hS1] at hpp
 have r1 : σ.length=S1.length:=hs1.symm
 rw [r1] at hl1
 by_cases hz:digE L x.batch=0
 rotate_left
 ·have hq:(digE L x.batch != 0)=true:=by simpa using hz
  simp only [entX,zlk,zqm,zqn,if_pos hz,ne_eq,hz,not_false_eq_true,if_true,noEn,hS1] at hK
  refine zA (zo hq r1) ?_
  refine zcx rfl ?_ hl1 hK
  simp [zfF,dmT,dm,dm1,zcq,zaU,zdw]
 have hq:(digE L x.batch != 0)=false:=by simpa using hz
 have hz':¬ digE L x.batch≠0:=by simpa using hz
 have e1:zlk L key x=votE (zom L x.batch) key 2 x.view x.seq (zoS L x.batch):=if_neg hz'
 have e2:zqm L x=zyt (zom L x.batch) 2 x.view x.seq (zoS L x.batch):=if_neg hz'
 have e3:zqn L G key x=zyu (zom L x.batch) G key 2 x.view x.seq (zoS L x.batch):=if_neg hz'
 have hL1:=hL.dig' hx
 unfold entX at hK
 rw [e1,e2,e3, ← hpp] at hK
 obtain ⟨L1,hL1e⟩:∃ A,zom L x.batch=A:=⟨_,rfl⟩
 rw [hL1e] at hK h1 hL1
 refine zA (zo hq r1) ?_
 refine zmj (b:=x.batch) hok ?_
 refine zA r1 ?_
 refine c_auVote (h1.app _) hL1 hg ?_
 rw [h1.put_app]
 have h2:=h1.put (zyt L1 2 x.view x.seq (zoS L x.batch)) (zyu L1 G key 2 x.view x.seq (zoS L x.batch))
 have hl2:=h1.lows hl1 (zyt L1 2 x.view x.seq (zoS L x.batch)) (zyu L1 G key 2 x.view x.seq (zoS L x.batch))
 have hs2:=zfk i S1 (zyt L1 2 x.view x.seq (zoS L x.batch)) (zyu L1 G key 2 x.view x.seq (zoS L x.batch))
 obtain ⟨S2,hS2⟩:∃ S,zeD i S1 (zyt L1 2 x.view x.seq (zoS L x.batch)) (zyu L1 G key 2 x.view x.seq (zoS L x.batch))=S:=⟨_,rfl⟩
 rw [hS2] at hK hs2 hl2 h2 ⊢
 have r3:S1.length=S2.length:=hs2.symm
 have r2 : σ.length=S2.length:=r1.trans r3
 rw [r3] at hl2
 obtain ⟨sg,hsg⟩:∃ s,votS L1 key 2 x.view x.seq (zoS L x.batch)=s:=⟨_,rfl⟩
 obtain ⟨N,hN⟩:∃ s,votE L1 key 2 x.view x.seq (zoS L x.batch)=s:=⟨_,rfl⟩
 rw [hsg,hN] at hK
 rw [hsg,hN]
 simp only [znT]
 by_cases hn:N=0
 ·have hq2:(N != 0)=false:=by simpa using hn
  rw [if_neg (by simpa using hn),hn] at hK
  refine zA (zo hq2 (zo r2 r3)) ?_
  refine zcx rfl ?_ hl2 hK
  simp [zfF,dmT,dm,dm1,zcq,zaU,zdw]
 ·have hq2:(N != 0)=true:=by simpa using hn
  rw [if_pos hn] at hK
  simp only [noEn] at hK
  refine zA (zo hq2 (zo r2 r3)) ?_
  refine zcx rfl ?_ hl2 hK
  simp [zfF,dmT,dm,dm1,zcq,zaU,zdw]
theorem c_raEntry {σ:List zd} {id id2:Nat} {L:List (List UInt8)} {G:List zy} {key:Int} {x:zaI} (hT : σ[id]? = some (rtO L)) (hG : σ[id2]? = some (rlO G)) (hne:id≠id2) (hL:zka L) (hg:G.length<=1073741824)
  (hx:∀ s∈x.batch,zlf s.op<=20971520) (hll:x.batch.length<=1073741824)
  {K:KT} (hK:K (.tup [zoI (entX L key x),.d (.int .i64 (zlk L key x))]) ((σ.set id (rtO (zqm L x))).set id2 (rlO (zqn L G key x)))) :
  zj Tryz.prog zqO [.box id 0,.box id2 0,.d (.int .i64 key),zoI x] σ K:=by
 refine zAU e_r11_Entry fun hl => ?_
 simp only [zxv,iN,bT,bF,eN]
 refine zQ ?_
 refine c_rqrDigest (zn hT) hL hx hll ?_
 rw [zbB hT]
 have hl1:zgl σ.length (σ.set id (rtO (zom L x.batch))):=hl.setO (zmF _ _)
 have hs1:(σ.set id (rtO (zom L x.batch))).length = σ.length:=by simp
 have hT1:(σ.set id (rtO (zom L x.batch)))[id]? = some (rtO (zom L x.batch)):=zcl hT
 have hG1:(σ.set id (rtO (zom L x.batch)))[id2]? = some (rlO G):=by rw [List.getElem?_set_ne hne];exact hG
 have hpp:∀ X,(σ.set id (rtO (zom L x.batch))).set id X = σ.set id X:=fun X=>List.set_set ..
 obtain ⟨S1,hS1⟩:∃ S1, σ.set id (rtO (zom L x.batch))=S1:=⟨_,rfl⟩
 rw [hS1] at hT1 hG1 hs1 hl1 ⊢
 simp only [hS1] at hpp
 have r1 : σ.length=S1.length:=hs1.symm
 rw [r1] at hl1
 by_cases hz:digE L x.batch=0
 rotate_left
 ·have hq:(digE L x.batch != 0)=true:=by simpa using hz
  simp only [entX,zlk,zqm,zqn,if_pos hz,ne_eq,hz,not_false_eq_true,if_true,noEn,hS1] at hK
  rw [zcm hG1] at hK
  refine zA (zo hq r1) ?_
  refine zcx rfl ?_ hl1 hK
  simp [zfF,dmT,dm,dm1,zcq,zaU,zdw]
 have hq:(digE L x.batch != 0)=false:=by simpa using hz
 have hz':¬ digE L x.batch≠0:=by simpa using hz
 have e1:zlk L key x=votE (zom L x.batch) key 2 x.view x.seq (zoS L x.batch):=if_neg hz'
 have e2:zqm L x=zyt (zom L x.batch) 2 x.view x.seq (zoS L x.batch):=if_neg hz'
 have e3:zqn L G key x=zyu (zom L x.batch) G key 2 x.view x.seq (zoS L x.batch):=if_neg hz'
 have hL1:=hL.dig' hx
 unfold entX at hK
 rw [e1,e2,e3, ← hpp] at hK
 obtain ⟨L1,hL1e⟩:∃ A,zom L x.batch=A:=⟨_,rfl⟩
 rw [hL1e] at hK hT1 hL1
 refine zA (zo hq r1) ?_
 refine c_raVote (zn hT1) (zn hG1) hne hL1.len hg ?_
 rw [zbB hT1,zbB (by rw [List.getElem?_set_ne hne];exact hG1)]
 have hl2:zgl S1.length ((S1.set id (rtO (zyt L1 2 x.view x.seq (zoS L x.batch)))).set id2 (rlO (zyu L1 G key 2 x.view x.seq (zoS L x.batch)))):=(hl1.setO (zmF _ _)).setO (ztc _ _)
 have hs2:((S1.set id (rtO (zyt L1 2 x.view x.seq (zoS L x.batch)))).set id2 (rlO (zyu L1 G key 2 x.view x.seq (zoS L x.batch)))).length=S1.length:=by simp
 obtain ⟨S2,hS2⟩:∃ S,(S1.set id (rtO (zyt L1 2 x.view x.seq (zoS L x.batch)))).set id2 (rlO (zyu L1 G key 2 x.view x.seq (zoS L x.batch)))=S:=⟨_,rfl⟩
 rw [hS2] at hK hs2 hl2 ⊢
 have r3:S1.length=S2.length:=hs2.symm
 have r2 : σ.length=S2.length:=r1.trans r3
 rw [r3] at hl2
 obtain ⟨sg,hsg⟩:∃ s,votS L1 key 2 x.view x.seq (zoS L x.batch)=s:=⟨_,rfl⟩
 obtain ⟨N,hN⟩:∃ s,votE L1 key 2 x.view x.seq (zoS L x.batch)=s:=⟨_,rfl⟩
 rw [hsg,hN] at hK
 rw [hsg,hN]
 simp only [znT]
 by_cases hn:N=0
 ·have hq2:(N != 0)=false:=by simpa using hn
  rw [if_neg (by simpa using hn),hn] at hK
  refine zA (zo hq2 (zo r2 r3)) ?_
  refine zcx rfl ?_ hl2 hK
  simp [zfF,dmT,dm,dm1,zcq,zaU,zdw]
 ·have hq2:(N != 0)=true:=by simpa using hn
  rw [if_pos hn] at hK
  simp only [noEn] at hK
  refine zA (zo hq2 (zo r2 r3)) ?_
  refine zcx rfl ?_ hl2 hK
  simp [zfF,dmT,dm,dm1,zcq,zaU,zdw]
theorem c_clSign {σ:List zd} {l:List zy} (hn:l.length<=1073741824) {K:KT} (hK:K (.d (.slice (zO l))) σ):zj Tryz.prog zbI [.d (.slice (zO l))] σ K:=by
 refine zdZ zhJ fun hl => ?_
 have hlen:(zO l).length=l.length:=List.length_map ..
 have h2:∀ e∈zO l,e.length=2:=zec (f:=zfi) (fun _=>rfl) l
 simp only [zeC,iN,bT,bF,eN,zao,zeT]
 obtain ⟨es,hes⟩:∃ es,zO l=es:=⟨_,rfl⟩
 rw [hes] at hlen h2 hK ⊢
 cases es with
 | nil=>
  refine ⟨?_,?_⟩
  ·refine zQ ?_
   refine zt hl ?_
   exact hK
  ·refine zQ ?_
   refine zt hl ?_
   exact hK
 | cons e es=>
  simp only [zam,zM,zw,zL,rep,zq,zgW,zaz,zK,zga]
  refine ⟨h2,by simp,by rw [hlen];simp;omega,?_⟩
  refine zt hl ?_
  exact hK
abbrev hE (l:List (Int × zbO)):List (AV × AV):=zww (l.map fun e=>(e.1,prepA e.2))
structure HeldAt (σ:List zd) (h m:Nat) (l:List (Int × zbO)):Prop where
 box : σ[h]? = some (.box [.map m])
 map : σ[m]? = some (.map (hE l))
theorem HeldAt.app {σ:List zd} {h m:Nat} {l:List (Int × zbO)} (H:HeldAt σ h m l) (τ:List zd):HeldAt (σ ++ τ) h m l:=⟨zn H.box,zn H.map⟩
theorem gq56 {P Q:Prop} (h:Q) (e:Hd Q->P:=by intro h;(repeat' first|simp -dsimp only [↓zhL, ↓zbi, ↓zcI, ↓zhM, ↓zhF, ↓zhD, ↓zhG, ↓zhE, ↓zcN, ↓zcJ, ↓zcO, ↓zcK, ↓zhH, ↓zcH, ↓zcP, ↓zcL, ↓zcQ, ↓zcM, ↓zhC, ↓zhK, ↓zcG, ↓zcR, ↓zhz, ↓zhy, ↓zhB,iN,bT,bF,eN, ↓zdT, ↓unC, ↓zam, ↓zY, ↓zZ, ↓zae, ↓zax, ↓zag, ↓zeQ, ↓zap, ↓zaQ, ↓zW, ↓zg, ↓zh, ↓zcW, ↓zb, ↓zaC, ↓zG, ↓zbv, ↓zbE, ↓zc, ↓zE, ↓zq, ↓zK, ↓zao, ↓zft, ↓zfB, ↓zaL, ↓zaX, ↓zbm, ↓zbC, ↓zcj, ↓zI, ↓zaH, ↓zaa, ↓zM, ↓zaw,zfE,zcw,zcp,unA,zeT,bnd,zgq,zaA,zL,zga,dm,dm1,zw,zad,zgP,zgO,zH,Q0,Q1,Q2,Q3,Q4,Q5,zay,zB,zD,zT,zP,Q6,Q7,Q8,Q9,Q10,Q11,Q12,Q13,Q14,Nat.reduceAdd,Q15,Int.reduceToNat,Q16,Q17,Q18,Q19,Q20,reduceIte,Q21,Q22,zU,rep,zar,zgW,toD,zaz,Q23,Q24,Q25,Q26,Q27,Q28,Nat.reduceLeDiff,Q29,Nat.reduceSub,Q30,Q31,Q32,sc,Q33,Q34,Q35,Q36,Q37,Q26,Q38,Q39,zwb,zvY,zvV,zwc,zks,zvZ,zvW,zwa,zvX,zkr,zkt,zwl,zwm,Bool.not_true,Bool.not_false,List.length_map,Bool.and_false,Bool.and_self,Bool.false_and,Bool.not_false,Bool.not_true,Bool.true_and,Int.toNat_natCast,Int.toNat_zero,List.drop_zero,List.length_map,List.length_nil,List.nil_append,List.take_length,Nat.sub_zero,Nat.zero_add,Option.isSome_none,Option.isSome_some,Option.map_none,Option.map_some,zdX,zX,beq_self_eq_true,bft,bne_self_eq_false,btf,zuV,zga]|with_reducible refine zxk ?_|fail);exact h.go):P:=e ⟨h⟩
theorem c_clChangeM {σ:List zd} {es:List (List D)} (h8:∀ e∈es,e.length=8) (hn:es.length<=1073741824) {K:KT} (hK:∀ g,K (.rsl σ.length g 8 0 es.length) (σ++[.row g 8 (zac es)])) :
  zj Tryz.prog zbZ [.d (.slice es)] σ K:=by
 refine zj.weaken ?_
 refine zbT zdy.is rfl (fun s=>List.range' σ.length (s.length-σ.length)) fun hl _=>zdy.goes ?_
 have fin:∀ g,zoj σ.length (fun s=>List.range' σ.length (s.length-σ.length)) (fun r s => ∃ r' s',zsT [r] s [r'] s' ∧ K r' s') (some [.rsl σ.length g 8 0 es.length]) (σ++[.row g 8 (zac es)]):=fun g=>
  zeq (σ' := σ) (os := [.row g 8 (zac es)]) rfl (by simp) hl (by intro x hx;simp only [List.mem_cons,List.not_mem_nil,or_false] at hx;subst hx;exact zoG _ _) (.rsl _ _ _ _ _ (by simp)) ⟨_,_,.refl _ _,hK g⟩
 simp only [zdz,iN,bT,bF,eN,zl4]
 cases es with
 | nil=>
  simp only [zao,zeT]
  refine ⟨?_,?_⟩
  ·refine zQ ?_
   refine zkz (r := .exact []) (by simp) hl rfl ?_
   exact ⟨.rsl σ.length 0 8 0 0, σ++[.row 0 8 []],.row 0 8 rfl (by omega) (.refl _ _),hK 0⟩
  ·refine gq56 ?_
   exact fin 1
 | cons e es=>
  simp only [zao,zeT]
  refine gq56 ?_
  exact ⟨by simp at hn;omega,fin 1⟩
theorem c_clEntryM {σ:List zd} {es:List (List D)} (h8:∀ e∈es,e.length=5) (hn:es.length<=1073741824) {K:KT} (hK:∀ g,K (.rsl σ.length g 5 0 es.length) (σ++[.row g 5 (zac es)])) :
  zj Tryz.prog zcn [.d (.slice es)] σ K:=by
 refine zj.weaken ?_
 refine zbT zdS.is rfl (fun s=>List.range' σ.length (s.length-σ.length)) fun hl _=>zdS.goes ?_
 have fin:∀ g,zoj σ.length (fun s=>List.range' σ.length (s.length-σ.length)) (fun r s => ∃ r' s',zsT [r] s [r'] s' ∧ K r' s') (some [.rsl σ.length g 5 0 es.length]) (σ++[.row g 5 (zac es)]):=fun g=>
  zeq (σ' := σ) (os := [.row g 5 (zac es)]) rfl (by simp) hl (by intro x hx;simp only [List.mem_cons,List.not_mem_nil,or_false] at hx;subst hx;exact zoG _ _) (.rsl _ _ _ _ _ (by simp)) ⟨_,_,.refl _ _,hK g⟩
 simp only [zdU,iN,bT,bF,eN]
 cases es with
 | nil=>
  simp only [zao,zeT]
  refine ⟨?_,?_⟩
  ·refine zQ ?_
   refine zkz (r := .exact []) (by simp) hl rfl ?_
   exact ⟨.rsl σ.length 0 5 0 0, σ++[.row 0 5 []],.row 0 5 rfl (by omega) (.refl _ _),hK 0⟩
  ·refine gq56 ?_
   exact fin 1
 | cons e es=>
  simp only [zao,zeT]
  refine gq56 ?_
  exact ⟨by simp at hn;omega,fin 1⟩
theorem c_clPrepM {σ:List zd} {es:List (List D)} (h8:∀ e∈es,e.length=7) (hn:es.length<=1073741824) {K:KT} (hK:∀ g,K (.rsl σ.length g 7 0 es.length) (σ++[.row g 7 (zac es)])) :
  zj Tryz.prog zbD [.d (.slice es)] σ K:=by
 refine zj.weaken ?_
 refine zbT zcZ.is rfl (fun s=>List.range' σ.length (s.length-σ.length)) fun hl _=>zcZ.goes ?_
 have fin:∀ g,zoj σ.length (fun s=>List.range' σ.length (s.length-σ.length)) (fun r s => ∃ r' s',zsT [r] s [r'] s' ∧ K r' s') (some [.rsl σ.length g 7 0 es.length]) (σ++[.row g 7 (zac es)]):=fun g=>
  zeq (σ' := σ) (os := [.row g 7 (zac es)]) rfl (by simp) hl (by intro x hx;simp only [List.mem_cons,List.not_mem_nil,or_false] at hx;subst hx;exact zoG _ _) (.rsl _ _ _ _ _ (by simp)) ⟨_,_,.refl _ _,hK g⟩
 simp only [zdb,iN,bT,bF,eN,zl3]
 cases es with
 | nil=>
  simp only [zao,zeT]
  refine ⟨?_,?_⟩
  ·refine zQ ?_
   refine zkz (r := .exact []) (by simp) hl rfl ?_
   exact ⟨.rsl σ.length 0 7 0 0, σ++[.row 0 7 []],.row 0 7 rfl (by omega) (.refl _ _),hK 0⟩
  ·refine gq56 ?_
   exact fin 1
 | cons e es=>
  simp only [zao,zeT]
  refine gq56 ?_
  exact ⟨by simp at hn;omega,fin 1⟩
theorem c_clHdr {σ:List zd} {es:List (List D)} (h8:∀ e∈es,e.length=5) (hn:es.length<=1073741824) {K:KT} (hK:K (.d (.slice es)) σ) :
  zj Tryz.prog zbX [.d (.slice es)] σ K:=by
 refine zdZ zgx fun hl => ?_
 simp only [zdH,iN,bT,bF,eN,zao,zeT]
 cases es with
 | nil=>
  refine ⟨?_,?_⟩
  ·refine zQ ?_
   refine zt hl ?_
   exact hK
  ·refine zQ ?_
   refine zt hl ?_
   exact hK
 | cons e es=>
  simp only [zam,zM,zw,zL,rep,zq,zgW,zaz,zK,zga]
  refine ⟨h8,by simp,by simp at hn ⊢;omega,?_⟩
  refine zt hl ?_
  exact hK
theorem c_clDig {σ:List zd} {es:List (List D)} (h8:∀ e∈es,e.length=1) (hn:es.length<=1073741824) {K:KT} (hK:K (.d (.slice es)) σ) :
  zj Tryz.prog zbY [.d (.slice es)] σ K:=by
 refine zdZ zgy fun hl => ?_
 simp only [zdI,iN,bT,bF,eN,zao,zeT]
 cases es with
 | nil=>
  refine ⟨?_,?_⟩
  ·refine zQ ?_
   refine zt hl ?_
   exact hK
  ·refine zQ ?_
   refine zt hl ?_
   exact hK
 | cons e es=>
  simp only [zam,zM,zw,zL,rep,zq,zgW,zaz,zK,zga]
  refine ⟨h8,by simp,by simp at hn ⊢;omega,?_⟩
  refine zt hl ?_
  exact hK
theorem c_clByt {σ:List zd} {es:List (List D)} (h8:∀ e∈es,e.length=1) (hn:es.length<=1073741824) {K:KT} (hK:K (.d (.slice es)) σ) :
  zj Tryz.prog zdi [.d (.slice es)] σ K:=by
 refine zdZ znc fun hl => ?_
 simp only [znm,iN,bT,bF,eN,zao,zeT]
 cases es with
 | nil=>
  refine ⟨?_,?_⟩
  ·refine zQ ?_
   refine zt hl ?_
   exact hK
  ·refine zQ ?_
   refine zt hl ?_
   exact hK
 | cons e es=>
  simp only [zam,zM,zw,zL,rep,zq,zgW,zaz,zK,zga]
  refine ⟨h8,by simp,by simp at hn ⊢;omega,?_⟩
  refine zt hl ?_
  exact hK
theorem zne {σ:List zd} {c:zeP} (hn:c.signs.length<=1073741824) {K:KT} (hK:K (zdu c) σ):zj Tryz.prog zdP [zdu c] σ K:=by
 refine zdZ zrg fun hl => ?_
 simp only [zkN,iN,bT,bF,eN,zdu]
 refine zQ ?_
 refine c_clSign hn ?_
 refine zQ ?_
 refine zt hl ?_
 exact hK
theorem zzZ {α:Type} {l:List α} {i:Nat} {x : α} (h:l[i]? = some x):l.take i++x::l.drop (i+1)=l:=by
 obtain ⟨hi,hx⟩:=List.getElem?_eq_some_iff.1 h
 rw [← hx, ← List.drop_eq_getElem_cons hi,List.take_append_drop]
theorem row_same8 {es:List (List D)} {sz k:Nat} {e:List D} (h:∀ e∈es,e.length=sz) (he:es[k]? = some e):(zac es).take (k*sz)++(e.map AV.d++(zac es).drop (k*sz+sz))=zac es:=by
 have h1:=zse h he
 rw [← h1, ← List.drop_drop,List.take_append_drop,List.take_append_drop]
end Go.Proofs.YtpgahkdjkanblaaGreat
