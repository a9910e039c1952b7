/- Contracts: how many brokers there are, and a quorum has. -/
import Derived.Test.YtfgbofkdhfjegaaGreatSh
import Derived.Test.YtfgbofkdhfjegaaGreatRq5
import Derived.Test.YtfgbofkdhfjegaaGreatAwEnd
import Derived.Test.YtfgbofkdhfjegaaGreatMk2
import Derived.Test.YtfgbofkdhfjegaaGreatCk1
set_option linter.all false
set_option maxRecDepth 100000
namespace Go.Proofs.YtfgbofkdhfjegaaGreat
open Go.AW
theorem zlD {A B:Prop} (a:A) (b:B):A/\B:=⟨a,b⟩
theorem gq35 {A P Q:Prop} (a:A) (h:Q) (e:A->P=Q:=by intro a;simp -dsimp only [↓zft, ↓zaH, ↓zbG, ↓zfu, ↓zfo, ↓zfm, ↓zfp, ↓zfn, ↓zbL, ↓zbH, ↓zbM, ↓zbI, ↓zfq, ↓zbF, ↓zbN, ↓zbJ, ↓zbO, ↓zbK, ↓zfl, ↓zfr, ↓zbE, ↓zbP, ↓zfd, ↓zfc, ↓zfk,iN,bT,bF,eN, ↓zcQ, ↓unC, ↓zY, ↓zK, ↓zL, ↓zN, ↓zae, ↓zax, ↓zcK, ↓zaq, ↓zbh, ↓zR, ↓zp, ↓zm, ↓zbV, ↓zh, ↓zak, ↓zH, ↓zaR, ↓zaY, ↓ze, ↓zD, ↓zu, ↓zB, ↓zar, ↓zdk, ↓zdz, ↓zas, ↓zaD, ↓zaV, ↓zbf, ↓zbm, ↓zA, ↓zan, ↓zM, ↓zF, ↓zad,zdE,zbu,zbo,unA,zdC,bnd,zej,zag,zS,zeh,dm,dm1,zC,zah,zeF,zeE,zQ,Q0,Q1,Q2,Q3,Q4,Q5,zV,zx,zw,zO,zJ,Q6,Q7,Q8,Q9,Q10,Q11,Q12,Q13,Q14,Nat.reduceAdd,Q15,Int.reduceToNat,Q16,Q17,Q18,Q19,Q20,reduceIte,Q21,Q22,zG,rep,zZ,zeQ,toD,zal,Q23,Q24,Q25,Q26,Q27,Q28,Nat.reduceLeDiff,Q29,Nat.reduceSub,Q30,Q31,Q32,sc,Q33,Q34,Q35,a];rfl):P:=(e a).mpr h
theorem zpq {σ:List zg} {f:Int} {K:KT} (hK:K (.d (.int .i64 (zcM f))) σ):zr Tryz.prog zeb [.d (.int .i64 f)] σ K:=by
 refine zgp zue fun hl => ?_
 simp only [znF,iN,bT,bF,eN]
 cases h1:decide (f<1)<;>cases h2:decide (f > 4)
 all_goals
  (refine gq35 (zlD h1 h2) ?_;try with_reducible exact True.intro)
  refine zT hl ?_
  simp only [decide_eq_true_eq,decide_eq_false_iff_not] at h1 h2
 ·rw [zcM,if_neg (by omega)] at hK;exact hK
 all_goals (rw [zcM,if_pos (by omega)] at hK;exact hK)
theorem ztk {σ:List zg} {f:Int} {K:KT} (hK:K (.d (.int .i64 (zcM f))) σ):zr Tryz.prog zif [.d (.int .i64 f)] σ K:=by
 refine zgp e_r12_Check fun hl => ?_
 simp only [ztA,iN,bT,bF,eN]
 cases h1:decide (f<1)<;>cases h2:decide (f > 4)
 all_goals
  (refine gq35 (zlD h1 h2) ?_;try with_reducible exact True.intro)
  refine zT hl ?_
  simp only [decide_eq_true_eq,decide_eq_false_iff_not] at h1 h2
 ·rw [zcM,if_neg (by omega)] at hK;exact hK
 all_goals (rw [zcM,if_pos (by omega)] at hK;exact hK)
theorem gq36 {P Q:Prop} (h:Q) (e:P=Q:=by simp -dsimp only [↓zft, ↓zaH, ↓zbG, ↓zfu, ↓zfo, ↓zfm, ↓zfp, ↓zfn, ↓zbL, ↓zbH, ↓zbM, ↓zbI, ↓zfq, ↓zbF, ↓zbN, ↓zbJ, ↓zbO, ↓zbK, ↓zfl, ↓zfr, ↓zbE, ↓zbP, ↓zfd, ↓zfc, ↓zfk,iN,bT,bF,eN, ↓zcQ, ↓unC, ↓zY, ↓zK, ↓zL, ↓zN, ↓zae, ↓zax, ↓zcK, ↓zaq, ↓zbh, ↓zR, ↓zp, ↓zm, ↓zbV, ↓zh, ↓zak, ↓zH, ↓zaR, ↓zaY, ↓ze, ↓zD, ↓zu, ↓zB, ↓zar, ↓zdk, ↓zdz, ↓zas, ↓zaD, ↓zaV, ↓zbf, ↓zbm, ↓zA, ↓zan, ↓zM, ↓zF, ↓zad,zdE,zbu,zbo,unA,zdC,bnd,zej,zag,zS,zeh,dm,dm1,zC,zah,zeF,zeE,zQ,Q0,Q1,Q2,Q3,Q4,Q5,zV,zx,zw,zO,zJ,Q6,Q7,Q8,Q9,Q10,Q11,Q12,Q13,Q14,Nat.reduceAdd,Q15,Int.reduceToNat,Q16,Q17,Q18,Q19,Q20,reduceIte,Q21,Q22,zG,rep,zZ,zeQ,toD,zal,Q23,Q24,Q25,Q26,Q27,Q28,Nat.reduceLeDiff,Q29,Nat.reduceSub,Q30,Q31,Q32,sc,Q33,Q34,Q35];rfl):P:=e.mpr h
theorem c_times {σ:List zg} {n f:Int} (hn:0<=n/\n<=3) {K:KT} (hK:K (.d (.int .i64 (zda n f))) σ):zr Tryz.prog zgH [.d (.int .i64 n),.d (.int .i64 f)] σ K:=by
 refine zfP zud fun hl => ?_
 simp only [znE,iN,bT,bF,eN]
 (refine gq36 ?_;try with_reducible exact True.intro)
 refine zpq ?_
 by_cases h:f<1∨f > 4
 ·rw [zda,if_pos h] at hK
  rw [zcM,if_pos h]
  (refine gq35 (show ((120:Int) != 0)=true from rfl) ?_;try with_reducible exact True.intro)
  refine zT hl ?_
  exact hK
 ·rw [zda,if_neg h] at hK
  rw [zcM,if_neg h]
  have h1:0<=n*f:=Int.mul_nonneg hn.1 (by omega)
  have h2:n*f<=3*4:=Int.mul_le_mul hn.2 (by omega) (by omega) (by omega)
  have w1:IntKind.i64.wrap (n*f)=n*f:=zab (by omega) (by omega)
  have w2:IntKind.i64.wrap (n*f+1)=n*f+1:=zab (by omega) (by omega)
  (refine gq35 (zlD (show ((0:Int) != 0)=false from rfl) (zlD w1 w2)) ?_;try with_reducible exact True.intro)
  refine zT hl ?_
  exact hK
theorem c_quBig {σ:List zg} {f:Int} {K:KT} (hK:K (.d (.int .i64 (zda 2 f))) σ):zr Tryz.prog zlV [.d (.int .i64 f)] σ K:=by
 refine zgp e_quorum_Big fun hl => ?_
 simp only [zri,iN,bT,bF,eN]
 (refine gq36 ?_;try with_reducible exact True.intro)
 refine c_times (by omega) ?_
 (refine gq36 ?_;try with_reducible exact True.intro)
 refine zT hl ?_
 exact hK
theorem c_quBrokers {σ:List zg} {f:Int} {K:KT} (hK:K (.d (.int .i64 (zda 3 f))) σ):zr Tryz.prog zhh [.d (.int .i64 f)] σ K:=by
 refine zgp zrx fun hl => ?_
 simp only [zlr,iN,bT,bF,eN]
 (refine gq36 ?_;try with_reducible exact True.intro)
 refine c_times (by omega) ?_
 (refine gq36 ?_;try with_reducible exact True.intro)
 refine zT hl ?_
 exact hK
theorem c_rBrokers {σ:List zg} {f:Int} {K:KT} (hK:K (.d (.int .i64 (zda 3 f))) σ):zr Tryz.prog zkI [.d (.int .i64 f)] σ K:=by
 refine zgp zwe fun hl => ?_
 simp only [zpy,iN,bT,bF,eN]
 (refine gq36 ?_;try with_reducible exact True.intro)
 refine ztk ?_
 by_cases h:f<1∨f > 4
 ·rw [zda,if_pos h] at hK
  rw [zcM,if_pos h]
  (refine gq35 (show ((120:Int) != 0)=true from rfl) ?_;try with_reducible exact True.intro)
  refine zT hl ?_
  exact hK
 ·rw [zda,if_neg h] at hK
  rw [zcM,if_neg h]
  have w1:IntKind.i64.wrap (3*f)=3*f:=zab (by omega) (by omega)
  have w2:IntKind.i64.wrap (3*f+1)=3*f+1:=zab (by omega) (by omega)
  (refine gq35 (zlD (show ((0:Int) != 0)=false from rfl) (zlD w1 w2)) ?_;try with_reducible exact True.intro)
  refine zT hl ?_
  exact hK
theorem zwx {σ:List zg} {x:Int} {K:KT} (hK:K (.d (.bool (zdd x))) σ):zr Tryz.prog zjT [.d (.int .i64 x)] σ K:=by
 refine zgp e_r11_num fun hl => ?_
 have fin:∀ z,zdd x=z->K (.d (.bool z)) σ:=fun z h=>h▸hK
 clear hK
 simp only [S_r11_num,iN,bT,bF,eN]
 cases h1:decide (x≥0)
 ·refine gq2 h1 ?_
  refine zT hl ?_
  exact fin _ (by simp at h1;simp [zdd];omega)
 ·refine gq2 h1 ?_
  refine zT hl ?_
  exact fin _ (by simp at h1;simp [zdd];omega)
theorem c_raMay {σ:List zg} {a b c d:Int} {K:KT} (hK:K (.d (.bool (znZ a b c d))) σ) :
  zr Tryz.prog zsm [.d (.int .i64 a),.d (.int .i64 b),.d (.int .i64 c),.d (.int .i64 d)] σ K:=by
 refine acE4 e_r11_may fun hl => ?_
 have fin:∀ z,znZ a b c d=z->K (.d (.bool z)) σ:=fun z h=>h▸hK
 clear hK
 simp only [S_r11_may,iN,bT,bF,eN]
 refine gq1 ?_
 refine zwx ?_
 cases h1:zdd a
 ·refine gq1 ?_
  refine zT hl ?_
  exact fin _ (by simp [znZ,h1])
 refine gq1 ?_
 refine zwx ?_
 cases h2:zdd b
 ·refine gq1 ?_
  refine zT hl ?_
  exact fin _ (by simp [znZ,h1,h2])
 refine gq1 ?_
 refine zwx ?_
 cases h3:zdd c
 ·refine gq1 ?_
  refine zT hl ?_
  exact fin _ (by simp [znZ,h1,h2,h3])
 refine gq1 ?_
 refine zwx ?_
 refine gq1 ?_
 refine zT hl ?_
 exact fin _ (by simp [znZ,h1,h2,h3])
theorem zww {σ:List zg} {b:List UInt8} {x:Int} (hb:b.length<=1000000) (h0:0<=x) (h1:x<=9007199254740992) {K:KT} (hK:K (.d (.slice (bcs (b++zcu x.toNat)))) σ) :
  zr Tryz.prog zjS [.d (.slice (bcs b)),.d (.int .i64 x)] σ K:=by
 refine zfP e_r11_put fun hl => ?_
 have hm1:(if 0 > x then 0 else x)=x:=by split<;>omega
 have hm2:(if x<0 then 0 else x)=x:=by split<;>omega
 have hw:IntKind.u64.wrap x=((x.toNat:Nat):Int):=by
  rw [show x=((x.toNat:Nat):Int) by omega,zcV (by omega)];rfl
 simp only [S_r11_put,iN,bT,bF,eN]
 refine gq2 (zf hm1 (zf hm2 hw)) ?_
 refine zdg (by omega) (by omega) ?_
 refine gq1 ?_
 refine zT hl ?_
 exact hK
theorem zwv {σ:List zg} {a b c d:Int} (h:znZ a b c d=true) {K:KT} (hK:K (.d (.slice (bcs (zeu a b c d)))) σ) :
  zr Tryz.prog zig [.d (.int .i64 a),.d (.int .i64 b),.d (.int .i64 c),.d (.int .i64 d)] σ K:=by
 refine acE4 zsN fun hl => ?_
 simp only [znZ,Bool.and_eq_true,zdT] at h
 obtain ⟨⟨a0,a1⟩,⟨b0,b1⟩,⟨c0,c1⟩,⟨d0,d1⟩⟩:=h
 have l1:=zE (n:=a.toNat) (by omega)
 have l2:=zE (n:=b.toNat) (by omega)
 have l3:=zE (n:=c.toNat) (by omega)
 simp only [zmq,iN,bT,bF,eN]
 refine gq1 ?_
 refine zww (b := [4]) (by simp) a0 a1 ?_
 obtain ⟨B1,hB1⟩:∃ B,[4]++zcu a.toNat=B:=⟨_,rfl⟩
 have n1:B1.length<=11:=by rw [← hB1];simp;omega
 rw [hB1]
 refine gq1 ?_
 refine zww (by omega) b0 b1 ?_
 obtain ⟨B2,hB2⟩:∃ B,B1++zcu b.toNat=B:=⟨_,rfl⟩
 have n2:B2.length<=21:=by rw [← hB2];simp;omega
 rw [hB2]
 refine gq1 ?_
 refine zww (by omega) c0 c1 ?_
 obtain ⟨B3,hB3⟩:∃ B,B2++zcu c.toNat=B:=⟨_,rfl⟩
 have n3:B3.length<=31:=by rw [← hB3];simp;omega
 rw [hB3]
 refine gq1 ?_
 refine zww (by omega) d0 d1 ?_
 refine gq1 ?_
 refine zT hl ?_
 rw [show B3++zcu d.toNat=zeu a b c d by rw [← hB3, ← hB2, ← hB1];simp [zeu,zgP]]
 exact hK
def sgnE (L:List (List UInt8)) (key:Int) (b:List UInt8):Int:=if zdy L b=0 then 6 else zei key (zdy L b)
def sgnS (L:List (List UInt8)) (key:Int) (b:List UInt8):zI:=if zdy L b=0 then ⟨0, 0⟩ else signR key (zdy L b)
def sgnG (L:List (List UInt8)) (G:List zI) (key:Int) (b:List UInt8):List zI:=if zdy L b=0 then G else zfz G key (zdy L b)
theorem c_raSign {σ:List zg} {id id2:Nat} {L:List (List UInt8)} {G:List zI} {key:Int} {b:List UInt8} (hT : σ[id]? = some (rtO L)) (hG : σ[id2]? = some (rlO G)) (h1:id≠id2) (hbl:b.length<=1073741824) (hl0:L.length<=1048576) (hg:G.length<=1073741824)
  {K:KT}
  (hK:K (.tup [zvK (sgnS L key b),.d (.int .i64 (sgnE L key b))]) ((σ.set id (rtO (zeJ L b))).set id2 (rlO (sgnG L G key b)))) :
  zr Tryz.prog zqc [.box id 0,.box id2 0,.d (.int .i64 key),.d (.slice (bcs b))] σ K:=by
 refine acE4 e_r11_sign fun hl => ?_
 simp only [zvr,iN,bT,bF,eN]
 refine gq1 ?_
 refine zlc (zd hT) hbl hl0 ?_
 rw [zbZ hT]
 have hl1:zfv σ.length (σ.set id (rtO (zeJ L b))):=hl.setO (zfB _ _)
 have hs1:(σ.set id (rtO (zeJ L b))).length = σ.length:=by simp
 have hG1:(σ.set id (rtO (zeJ L b)))[id2]? = some (rlO G):=by rw [List.getElem?_set_ne h1];exact hG
 obtain ⟨S1,hS1⟩:∃ S1, σ.set id (rtO (zeJ L b))=S1:=⟨_,rfl⟩
 rw [hS1] at hK hG1 hs1 hl1 ⊢
 have r1 : σ.length=S1.length:=hs1.symm
 rw [r1] at hl1
 by_cases hz:zdy L b=0
 ·have hq:(zdy L b==0)=true:=by simpa using hz
  simp only [sgnE,sgnS,sgnG,if_pos hz,zvK] at hK
  rw [zbl hG1] at hK
  refine gq2 (zf hq r1) ?_
  refine zef rfl ?_ hl1 ?_
  ·simp [zeH,dmT,dm,dm1,zcH,zbS,zeP]
  ·exact hK
 ·have hq:(zdy L b==0)=false:=by simpa using hz
  simp only [sgnE,sgnS,sgnG,if_neg hz] at hK
  refine gq2 (zf hq r1) ?_
  refine c_rgSign (zd hG1) hg ?_
  rw [zbZ hG1]
  have hl2:zfv S1.length (S1.set id2 (rlO (zfz G key (zdy L b)))):=hl1.setO (rlO_low _ _)
  have hs2:(S1.set id2 (rlO (zfz G key (zdy L b)))).length=S1.length:=by simp
  obtain ⟨S2,hS2⟩:∃ S2,S1.set id2 (rlO (zfz G key (zdy L b)))=S2:=⟨_,rfl⟩
  rw [hS2] at hK hs2 hl2 ⊢
  have r3:S1.length=S2.length:=hs2.symm
  have r2 : σ.length=S2.length:=r1.trans r3
  rw [r3] at hl2
  simp only [zvK] at hK ⊢
  refine gq2 (zf r2 r3) ?_
  refine zef rfl ?_ hl2 ?_
  ·simp [zeH,dmT,dm,dm1,zcH,zbS,zeP]
  ·exact hK
def votE (L:List (List UInt8)) (key a b c d:Int):Int:=if znZ a b c d=true then sgnE L key (zeu a b c d) else 1
def votS (L:List (List UInt8)) (key a b c d:Int):zI:=if znZ a b c d=true then sgnS L key (zeu a b c d) else ⟨0, 0⟩
def votL (L:List (List UInt8)) (a b c d:Int):List (List UInt8):=if znZ a b c d=true then zeJ L (zeu a b c d) else L
def votG (L:List (List UInt8)) (G:List zI) (key a b c d:Int):List zI:=if znZ a b c d=true then sgnG L G key (zeu a b c d) else G
theorem c_raVote {σ:List zg} {id id2:Nat} {L:List (List UInt8)} {G:List zI} {key a b c d:Int} (hT : σ[id]? = some (rtO L)) (hG : σ[id2]? = some (rlO G)) (h1:id≠id2) (hl0:L.length<=1048576) (hg:G.length<=1073741824)
  {K:KT}
  (hK:K (.tup [zvK (votS L key a b c d),.d (.int .i64 (votE L key a b c d))]) ((σ.set id (rtO (votL L a b c d))).set id2 (rlO (votG L G key a b c d)))) :
  zr Tryz.prog zjU [.box id 0,.box id2 0,.d (.int .i64 key),.d (.int .i64 a),.d (.int .i64 b),.d (.int .i64 c),.d (.int .i64 d)] σ K:=by
 refine acE7 e_r11_Vote fun hl => ?_
 simp only [zvs,iN,bT,bF,eN]
 refine gq1 ?_
 refine c_raMay ?_
 cases hm:znZ a b c d
 ·simp only [votS,votE,votL,votG,hm,Bool.false_eq_true,if_false,zvK] at hK
  rw [zbl hT,zbl hG] at hK
  refine gq1 ?_
  refine zT hl ?_
  exact hK
 ·simp only [votS,votE,votL,votG,hm,if_true] at hK
  have hbl:=voteB_len hm
  refine gq1 ?_
  refine zwv hm ?_
  refine gq1 ?_
  refine c_raSign (zd hT) (zd hG) h1 (by omega) hl0 hg ?_
  rw [zbZ hT,zbZ (by rw [List.getElem?_set_ne h1];exact hG)]
  have hl2:zfv σ.length ((σ.set id (rtO (zeJ L (zeu a b c d)))).set id2 (rlO (sgnG L G key (zeu a b c d)))):=(hl.setO (zfB _ _)).setO (rlO_low _ _)
  have hs2:((σ.set id (rtO (zeJ L (zeu a b c d)))).set id2 (rlO (sgnG L G key (zeu a b c d)))).length = σ.length:=by simp
  obtain ⟨S2,hS2⟩:∃ S2,(σ.set id (rtO (zeJ L (zeu a b c d)))).set id2 (rlO (sgnG L G key (zeu a b c d)))=S2:=⟨_,rfl⟩
  rw [hS2] at hK hs2 hl2 ⊢
  have r3 : σ.length=S2.length:=hs2.symm
  rw [r3] at hl2
  simp only [zvK] at hK ⊢
  refine gq2 r3 ?_
  refine zef rfl ?_ hl2 ?_
  ·simp [zeH,dmT,dm,dm1,zcH,zbS,zeP]
  ·exact hK
abbrev prepA (p:zoB):AV := .agg [.d (.int .i64 p.view),.d (.int .i64 p.seq),.d (.int .i64 p.dig),.d (.int .i64 p.fkey),.d (.int .i64 p.fdig),.d (.slice (zaW p.signs)),.d (.slice (zdm p.batch))]
structure smallP (p:zoB):Prop where
 ops:∀ x∈p.batch,zjG x.op<=20971520
 batch:p.batch.length<=1073741824
 signs:p.signs.length<=1073741824
end Go.Proofs.YtfgbofkdhfjegaaGreat

/- Checkpoints' certificates: which are valid. No program in sight. -/
namespace Go.AW
def zqo (f seq d key:Int):Bool:=decide (seq≥1)&&(decide (seq<=9007199254740992)&&((seq.tmod 4==0)&&(decide (d≥1)&&(decide (d<=9007199254740992)&&(decide (key≥0)&&decide (key<zda 3 f))))))
def zeroC (c:zfa):Bool:=(c.seq==0)&&((c.dig==0)&&((c.signs.length:Int)==0))
def zsp (f seq d:Int):Option zI->List zI->Bool
 | _,[]=>true
 | p,s::r=>zqo f seq d s.key&&((match p with|some q => !(decide (s.key<=q.key))|none=>true)&&zsp f seq d (some s) r)
def zhN (f:Int) (c:zfa):Bool:=zeroC c || (decide ((c.signs.length:Int)≥zda 2 f)&&zsp f c.seq c.dig none c.signs)
def zth (L:List (List UInt8)) (G:List zI) (f:Int) (c:zfa):Bool:=decide (zcM f=0)&&(zhN f c&&c.signs.all fun s=>zqJ L G s s.key 6 0 c.seq c.dig)
theorem mayCs_drop {f seq d:Int} {p:Option zI} {l:List zI} {k:Nat} {s:zI} (h:l[k]? = some s):zsp f seq d p (l.drop k)=(zqo f seq d s.key&&((match p with|some q => !(decide (s.key<=q.key))|none=>true)&&zsp f seq d (some s) (l.drop (k+1)))):=by
 have hk:k<l.length:=(List.getElem?_eq_some_iff.1 h).1
 rw [List.drop_eq_getElem_cons hk,(List.getElem?_eq_some_iff.1 h).2]
 rfl
def aheadS (l:List zI):Nat->Option zI
 | 0=>none
 | k+1=>l[k]?
end Go.AW

/- Contracts: checkpoints' certificates, on both sides. -/
set_option maxRecDepth 100000
namespace Go.Proofs.YtfgbofkdhfjegaaGreat
open Go.AW
theorem c_ptZero {σ:List zg} {c:zfa} {K:KT} (hK:K (.d (.bool (zeroC c))) σ):zr Tryz.prog zlW [zot c] σ K:=by
 refine zgp e_point_zero fun hl => ?_
 have hlen:(zaW c.signs).length=c.signs.length:=List.length_map ..
 have fin:∀ z,zeroC c=z->K (.d (.bool z)) σ:=fun z h=>h▸hK
 clear hK
 simp only [zrj,iN,bT,bF,eN,zot]
 cases h1:(c.seq==0)
 ·refine gq2 h1 ?_
  refine zT hl ?_
  exact fin _ (by simp [zeroC,h1])
 cases h2:(c.dig==0)
 ·refine gq2 (zf h1 h2) ?_
  refine zT hl ?_
  exact fin _ (by simp [zeroC,h1,h2])
 refine gq2 (zf h1 (zf h2 hlen)) ?_
 refine zT hl ?_
 exact fin _ (by simp [zeroC,h1,h2])
theorem c_ptMay {σ:List zg} {id:Nat} {f seq d key:Int} {cs:List AV} (hσ : σ[id]? = some (.box (.d (.int .i64 f)::cs))) {K:KT} (hK:K (.d (.bool (zqo f seq d key))) σ) :
  zr Tryz.prog zfY [.box id 0,.d (.int .i64 seq),.d (.int .i64 d),.d (.int .i64 key)] σ K:=by
 refine acE4 zph fun hl => ?_
 have fin:∀ z,zqo f seq d key=z->K (.d (.bool z)) σ:=fun z h=>h▸hK
 clear hK
 have e4:((4:Int)==0)=false:=rfl
 simp only [zjq,iN,bT,bF,eN]
 cases h1:decide (seq≥1)
 ·refine gq2 h1 ?_
  refine zT hl ?_
  exact fin _ (by rw [zqo,h1];rfl)
 cases h2:decide (seq<=9007199254740992)
 ·refine gq2 (zf h1 h2) ?_
  refine zT hl ?_
  exact fin _ (by rw [zqo,h1,h2];rfl)
 cases h3:(seq.tmod 4==0)
 ·refine gq2 (zf h1 (zf h2 (zf e4 h3))) ?_
  refine zT hl ?_
  exact fin _ (by rw [zqo,h1,h2,h3];rfl)
 cases h4:decide (d≥1)
 ·refine gq2 (zf h1 (zf h2 (zf e4 (zf h3 h4)))) ?_
  refine zT hl ?_
  exact fin _ (by rw [zqo,h1,h2,h3,h4];rfl)
 cases h5:decide (d<=9007199254740992)
 ·refine gq2 (zf h1 (zf h2 (zf e4 (zf h3 (zf h4 h5))))) ?_
  refine zT hl ?_
  exact fin _ (by rw [zqo,h1,h2,h3,h4,h5];rfl)
 cases h6:decide (key≥0)
 ·refine gq2 (zf h1 (zf h2 (zf e4 (zf h3 (zf h4 (zf h5 h6)))))) ?_
  refine zT hl ?_
  exact fin _ (by rw [zqo,h1,h2,h3,h4,h5,h6];rfl)
 refine gq2 (zf h1 (zf h2 (zf e4 (zf h3 (zf h4 (zf h5 (zf h6 hσ))))))) ?_
 refine c_quBrokers ?_
 refine gq1 ?_
 refine zT hl ?_
 exact fin _ (by rw [zqo,h1,h2,h3,h4,h5,h6];rfl)
theorem zoz {l:List zI} {k:Nat} {s:zI} (h:l[k]? = some s):aheadS l (k+1)=some s:=h
abbrev certO (c:zfa):zg := .box [.d (.int .i64 c.seq),.d (.int .i64 c.dig),.d (.slice (zaW c.signs))]
theorem c_ptMayCert {σ:List zg} {id:Nat} {f:Int} {c:zfa} {cs:List AV} (hσ : σ[id]? = some (.box (.d (.int .i64 f)::cs))) (hl0:c.signs.length<=1073741824) {K:KT} (hK:K (.d (.bool (zhN f c))) σ) :
  zr Tryz.prog zed [.box id 0,zot c] σ K:=by
 refine zfP zlF fun hl => ?_
 have fin:∀ z,zhN f c=z->K (.d (.bool z)) σ:=fun z h=>h▸hK
 clear hK
 have hlen:(zaW c.signs).length=c.signs.length:=List.length_map ..
 have hS:∀ τ,(σ ++ τ)[id]? = some (.box (.d (.int .i64 f)::cs)):=fun τ=>zd hσ
 simp only [zgr,iN,bT,bF,eN,zot]
 refine gq1 ?_
 refine c_ptZero (c:=c) ?_
 cases hz:zeroC c
 rotate_left
 ·refine gq1 ?_
  refine zT hl ?_
  exact fin _ (by rw [zhN,hz];rfl)
 refine gq2 hlen ?_
 refine zt c.signs.length (fun k vs s=>vs = [.d (.int .i64 k)]/\(∃ T,s = σ++certO c::T)/\zsp f c.seq c.dig none c.signs=zsp f c.seq c.dig (aheadS c.signs k) (c.signs.drop k)) ⟨rfl,⟨[],rfl⟩,rfl⟩ ?_
 rintro k vs s hk ⟨rfl,⟨T,rfl⟩,hpf⟩
 have no:zsp f c.seq c.dig none c.signs=false->zhN f c=false:=fun h=>by rw [zhN,hz,h,Bool.and_false];rfl
 by_cases hlt:k<c.signs.length
 ·have hd:decide ((k:Int)<(c.signs.length:Int))=true:=by simp;omega
  have hx:c.signs[k]? = some c.signs[k]:=by simp [hlt]
  have hgx:=zP (f:=zhI) hx
  obtain ⟨x,hxe⟩:∃ x,c.signs[k]=x:=⟨_,rfl⟩
  rw [hxe] at hx hgx
  rw [mayCs_drop hx] at hpf
  refine gq8 (zf hd hgx) ?_
  refine c_ptMay (hS _) ?_
  cases h1:zqo f c.seq c.dig x.key
  ·refine gq1 ?_
   refine zT hl ?_
   exact fin _ (no (by rw [hpf,h1];rfl))
  rw [h1,Bool.true_and] at hpf
  cases k with
  | zero=>
   refine gq2 (zf (show decide (((0:Nat):Int) > 0)=false from rfl) (wkc 0 (by omega))) ?_
   exact zaB.next hlt ⟨rfl,⟨_,rfl⟩,by rw [hpf,zoz hx];rfl⟩
  | succ j=>
   have hz1:decide (((j+1:Nat):Int) > 0)=true:=decide_eq_true (by omega)
   have hw1:IntKind.i64.wrap (((j+1:Nat):Int)-1)=(j:Int):=by rw [zab (by omega) (by omega)];omega
   have hy:c.signs[j]? = some c.signs[j]:=by simp [show j<c.signs.length by omega]
   have hgy:=zP (f:=zhI) hy
   obtain ⟨y,hye⟩:∃ y,c.signs[j]=y:=⟨_,rfl⟩
   rw [hye] at hy hgy
   rw [zoz hy] at hpf
   simp only at hpf
   cases h2:decide (x.key<=y.key)
   ·refine gq8 (zf hz1 (zf hw1 (zf hgx (zf hgy (zf h2 (wkc (j+1) (by omega))))))) ?_
    exact zaB.next hlt ⟨rfl,⟨_,rfl⟩,by rw [hpf,h2,zoz hx];simp⟩
   ·refine gq8 (zf hz1 (zf hw1 (zf hgx (zf hgy h2)))) ?_
    refine zT hl ?_
    exact fin _ (no (by rw [hpf,h2];rfl))
 ·have hd:decide ((k:Int)<(c.signs.length:Int))=false:=by simp;omega
  rw [List.drop_eq_nil_of_le (by omega)] at hpf
  refine gq2 (zf hd (zf hlen hS)) ?_
  refine c_quBig ?_
  refine gq1 ?_
  refine zT hl ?_
  exact fin _ (by rw [zhN,hz,hpf];simp [zsp])
theorem c_ptNew {σ:List zg} {f:Int} {K:KT} (hN:zcM f≠0->K (.tup [.d .nilp,.d (.int .i64 (zcM f))]) σ)
  (hY:zcM f=0->K (.tup [.box (σ.length+1) 0,.d (.int .i64 0)]) (σ++[.map [],.box [.d (.int .i64 f),.d (.int .i64 0),.d (.int .i64 0),.exact [],.map σ.length,.exact []]])):zr Tryz.prog znX [.d (.int .i64 f)] σ K:=by
 refine zce zsT.is rfl (fun s=>if s.length = σ.length then [] else List.range' σ.length 2) fun hl _=>zsT.goes ?_
 simp only [ztK,iN,bT,bF,eN]
 refine gq1 ?_
 refine zpq ?_
 cases h:(zcM f != 0)
 ·have h0:zcM f=0:=by simpa using h
  refine gq2 h ?_
  refine zdf (os := [.map [],.box [.d (.int .i64 f),.d (.int .i64 0),.d (.int .i64 0),.exact [],.map σ.length,.exact []]]) rfl (by simp) hl ?_ ?_ (hY h0)
  ·intro x hx
   simp only [List.mem_cons,List.not_mem_nil,or_false] at hx
   rcases hx with rfl|rfl
   ·intro e he;simp at he
   ·intro c hc
    simp only [List.mem_cons,List.not_mem_nil,or_false] at hc
    rcases hc with rfl|rfl|rfl|rfl|rfl|rfl
    ·exact .d _
    ·exact .d _
    ·exact .d _
    ·exact .exact _
    ·exact .map _ (by simp)
    ·exact .exact _
  ·simp [zcH,zbS,Low_box,zeH]
 ·refine gq2 h ?_
  exact zkY (by simp) hl (by simp [zcH,zdi,zjc]) (hN (by simpa using h))
end Go.Proofs.YtfgbofkdhfjegaaGreat
