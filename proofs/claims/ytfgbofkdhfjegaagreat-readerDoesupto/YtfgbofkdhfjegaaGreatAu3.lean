/- Contracts: votes, the document's. -/
import Derived.Test.YtfgbofkdhfjegaaGreatRq5
import Derived.Test.YtfgbofkdhfjegaaGreatRq2
import Derived.Test.YtfgbofkdhfjegaaGreatSpChk
set_option linter.all false
set_option maxRecDepth 100000
namespace Go.Proofs.YtfgbofkdhfjegaaGreat
open Go.AW
theorem zzd {σ:List zh} {x:Int} {K:KT} (hK:K (.d (.bool (zdB x))) σ):zp Tryz.prog zkU [.d (.int .i64 x)] σ K:=by
 refine zfc e_r11_num fun hl => ?_
 have fin:∀ z,zdB x=z->K (.d (.bool z)) σ:=fun z h=>h▸hK
 clear hK
 simp only [S_r11_num,iN,bT,bF,eN]
 cases h1:decide (x≥0)
 ·refine gq2 h1 ?_
  refine zI hl ?_
  exact fin _ (by simp at h1;simp [zdB];omega)
 ·refine gq2 h1 ?_
  refine zI hl ?_
  exact fin _ (by simp at h1;simp [zdB];omega)
theorem c_raMay {σ:List zh} {a b c d:Int} {K:KT} (hK:K (.d (.bool (zse a b c d))) σ) :
  zp Tryz.prog zqz [.d (.int .i64 a),.d (.int .i64 b),.d (.int .i64 c),.d (.int .i64 d)] σ K:=by
 refine acE4 e_r11_may fun hl => ?_
 have fin:∀ z,zse a b c d=z->K (.d (.bool z)) σ:=fun z h=>h▸hK
 clear hK
 simp only [S_r11_may,iN,bT,bF,eN]
 refine gq1 ?_
 refine zzd ?_
 cases h1:zdB a
 ·refine gq1 ?_
  refine zI hl ?_
  exact fin _ (by simp [zse,h1])
 refine gq1 ?_
 refine zzd ?_
 cases h2:zdB b
 ·refine gq1 ?_
  refine zI hl ?_
  exact fin _ (by simp [zse,h1,h2])
 refine gq1 ?_
 refine zzd ?_
 cases h3:zdB c
 ·refine gq1 ?_
  refine zI hl ?_
  exact fin _ (by simp [zse,h1,h2,h3])
 refine gq1 ?_
 refine zzd ?_
 refine gq1 ?_
 refine zI hl ?_
 exact fin _ (by simp [zse,h1,h2,h3])
theorem zzc {σ:List zh} {b:List UInt8} {x:Int} (hb:b.length<=1000000) (h0:0<=x) (h1:x<=9007199254740992) {K:KT} (hK:K (.d (.slice (bcs (b++zdi x.toNat)))) σ) :
  zp Tryz.prog zkT [.d (.slice (bcs b)),.d (.int .i64 x)] σ K:=by
 refine zeW e_r11_put fun hl => ?_
 have hm1:(if 0 > x then 0 else x)=x:=by split<;>omega
 have hm2:(if x<0 then 0 else x)=x:=by split<;>omega
 have hw:IntKind.u64.wrap x=((x.toNat:Nat):Int):=by
  rw [show x=((x.toNat:Nat):Int) by omega,zdm (by omega)];rfl
 simp only [S_r11_put,iN,bT,bF,eN]
 refine gq2 (zg hm1 (zg hm2 hw)) ?_
 refine zdy (by omega) (by omega) ?_
 refine gq1 ?_
 refine zI hl ?_
 exact hK
theorem zqZ {σ:List zh} {a b c d:Int} (h:zse a b c d=true) {K:KT} (hK:K (.d (.slice (bcs (zgA a b c d)))) σ) :
  zp Tryz.prog zgG [.d (.int .i64 a),.d (.int .i64 b),.d (.int .i64 c),.d (.int .i64 d)] σ K:=by
 refine acE4 zuR fun hl => ?_
 simp only [zse,Bool.and_eq_true,zfM] at h
 obtain ⟨⟨a0,a1⟩,⟨b0,b1⟩,⟨c0,c1⟩,⟨d0,d1⟩⟩:=h
 have l1:=zJ (n:=a.toNat) (by omega)
 have l2:=zJ (n:=b.toNat) (by omega)
 have l3:=zJ (n:=c.toNat) (by omega)
 simp only [znT,iN,bT,bF,eN]
 refine gq1 ?_
 refine zzc (b := [4]) (by simp) a0 a1 ?_
 obtain ⟨B1,hB1⟩:∃ B,[4]++zdi a.toNat=B:=⟨_,rfl⟩
 have n1:B1.length<=11:=by rw [← hB1];simp;omega
 rw [hB1]
 refine gq1 ?_
 refine zzc (by omega) b0 b1 ?_
 obtain ⟨B2,hB2⟩:∃ B,B1++zdi b.toNat=B:=⟨_,rfl⟩
 have n2:B2.length<=21:=by rw [← hB2];simp;omega
 rw [hB2]
 refine gq1 ?_
 refine zzc (by omega) c0 c1 ?_
 obtain ⟨B3,hB3⟩:∃ B,B2++zdi c.toNat=B:=⟨_,rfl⟩
 have n3:B3.length<=31:=by rw [← hB3];simp;omega
 rw [hB3]
 refine gq1 ?_
 refine zzc (by omega) d0 d1 ?_
 refine gq1 ?_
 refine zI hl ?_
 rw [show B3++zdi d.toNat=zgA a b c d by rw [← hB3, ← hB2, ← hB1];simp [zgA,ziU]]
 exact hK
def sgnE (L:List (List UInt8)) (key:Int) (b:List UInt8):Int:=if zdX L b=0 then 6 else zfb key (zdX L b)
def sgnS (L:List (List UInt8)) (key:Int) (b:List UInt8):zR:=if zdX L b=0 then ⟨0, 0⟩ else signR key (zdX L b)
def sgnG (L:List (List UInt8)) (G:List zR) (key:Int) (b:List UInt8):List zR:=if zdX L b=0 then G else zgy G key (zdX L b)
theorem c_raSign {σ:List zh} {id id2:Nat} {L:List (List UInt8)} {G:List zR} {key:Int} {b:List UInt8} (hT : σ[id]? = some (rtO L)) (hG : σ[id2]? = some (rlO G)) (h1:id≠id2) (hbl:b.length<=1073741824) (hl0:L.length<=1048576) (hg:G.length<=1073741824)
  {K:KT}
  (hK:K (.tup [zyk (sgnS L key b),.d (.int .i64 (sgnE L key b))]) ((σ.set id (rtO (zfD L b))).set id2 (rlO (sgnG L G key b)))) :
  zp Tryz.prog zrR [.box id 0,.box id2 0,.d (.int .i64 key),.d (.slice (bcs b))] σ K:=by
 refine acE4 e_r11_sign fun hl => ?_
 simp only [zxM,iN,bT,bF,eN]
 refine gq1 ?_
 refine zmo (zf hT) hbl hl0 ?_
 rw [zcg hT]
 have hl1:zgh σ.length (σ.set id (rtO (zfD L b))):=hl.setO (zgl _ _)
 have hs1:(σ.set id (rtO (zfD L b))).length = σ.length:=by simp
 have hG1:(σ.set id (rtO (zfD L b)))[id2]? = some (rlO G):=by rw [List.getElem?_set_ne h1];exact hG
 obtain ⟨S1,hS1⟩:∃ S1, σ.set id (rtO (zfD L b))=S1:=⟨_,rfl⟩
 rw [hS1] at hK hG1 hs1 hl1 ⊢
 have r1 : σ.length=S1.length:=hs1.symm
 rw [r1] at hl1
 by_cases hz:zdX L b=0
 ·have hq:(zdX L b==0)=true:=by simpa using hz
  simp only [sgnE,sgnS,sgnG,if_pos hz,zyk] at hK
  rw [zbF hG1] at hK
  refine gq2 (zg hq r1) ?_
  refine zeZ rfl ?_ hl1 ?_
  ·simp [zfz,dmT,dm,dm1,zcJ,zcb,zfL]
  ·exact hK
 ·have hq:(zdX L b==0)=false:=by simpa using hz
  simp only [sgnE,sgnS,sgnG,if_neg hz] at hK
  refine gq2 (zg hq r1) ?_
  refine c_rgSign (zf hG1) hg ?_
  rw [zcg hG1]
  have hl2:zgh S1.length (S1.set id2 (rlO (zgy G key (zdX L b)))):=hl1.setO (rlO_low _ _)
  have hs2:(S1.set id2 (rlO (zgy G key (zdX L b)))).length=S1.length:=by simp
  obtain ⟨S2,hS2⟩:∃ S2,S1.set id2 (rlO (zgy G key (zdX L b)))=S2:=⟨_,rfl⟩
  rw [hS2] at hK hs2 hl2 ⊢
  have r3:S1.length=S2.length:=hs2.symm
  have r2 : σ.length=S2.length:=r1.trans r3
  rw [r3] at hl2
  simp only [zyk] at hK ⊢
  refine gq2 (zg r2 r3) ?_
  refine zeZ rfl ?_ hl2 ?_
  ·simp [zfz,dmT,dm,dm1,zcJ,zcb,zfL]
  ·exact hK
def votE (L:List (List UInt8)) (key a b c d:Int):Int:=if zse a b c d=true then sgnE L key (zgA a b c d) else 1
def votS (L:List (List UInt8)) (key a b c d:Int):zR:=if zse a b c d=true then sgnS L key (zgA a b c d) else ⟨0, 0⟩
def votL (L:List (List UInt8)) (a b c d:Int):List (List UInt8):=if zse a b c d=true then zfD L (zgA a b c d) else L
def votG (L:List (List UInt8)) (G:List zR) (key a b c d:Int):List zR:=if zse a b c d=true then sgnG L G key (zgA a b c d) else G
theorem c_raVote {σ:List zh} {id id2:Nat} {L:List (List UInt8)} {G:List zR} {key a b c d:Int} (hT : σ[id]? = some (rtO L)) (hG : σ[id2]? = some (rlO G)) (h1:id≠id2) (hl0:L.length<=1048576) (hg:G.length<=1073741824)
  {K:KT}
  (hK:K (.tup [zyk (votS L key a b c d),.d (.int .i64 (votE L key a b c d))]) ((σ.set id (rtO (votL L a b c d))).set id2 (rlO (votG L G key a b c d)))) :
  zp Tryz.prog zkV [.box id 0,.box id2 0,.d (.int .i64 key),.d (.int .i64 a),.d (.int .i64 b),.d (.int .i64 c),.d (.int .i64 d)] σ K:=by
 refine acE7 e_r11_Vote fun hl => ?_
 simp only [zxN,iN,bT,bF,eN]
 refine gq1 ?_
 refine c_raMay ?_
 cases hm:zse a b c d
 ·simp only [votS,votE,votL,votG,hm,Bool.false_eq_true,if_false,zyk] at hK
  rw [zbF hT,zbF hG] at hK
  refine gq1 ?_
  refine zI hl ?_
  exact hK
 ·simp only [votS,votE,votL,votG,hm,if_true] at hK
  have hbl:=voteB_len hm
  refine gq1 ?_
  refine zqZ hm ?_
  refine gq1 ?_
  refine c_raSign (zf hT) (zf hG) h1 (by omega) hl0 hg ?_
  rw [zcg hT,zcg (by rw [List.getElem?_set_ne h1];exact hG)]
  have hl2:zgh σ.length ((σ.set id (rtO (zfD L (zgA a b c d)))).set id2 (rlO (sgnG L G key (zgA a b c d)))):=(hl.setO (zgl _ _)).setO (rlO_low _ _)
  have hs2:((σ.set id (rtO (zfD L (zgA a b c d)))).set id2 (rlO (sgnG L G key (zgA a b c d)))).length = σ.length:=by simp
  obtain ⟨S2,hS2⟩:∃ S2,(σ.set id (rtO (zfD L (zgA a b c d)))).set id2 (rlO (sgnG L G key (zgA a b c d)))=S2:=⟨_,rfl⟩
  rw [hS2] at hK hs2 hl2 ⊢
  have r3 : σ.length=S2.length:=hs2.symm
  rw [r3] at hl2
  simp only [zyk] at hK ⊢
  refine gq2 r3 ?_
  refine zeZ rfl ?_ hl2 ?_
  ·simp [zfz,dmT,dm,dm1,zcJ,zcb,zfL]
  ·exact hK
abbrev prepA (p:zoQ):AV := .agg [.d (.int .i64 p.view),.d (.int .i64 p.seq),.d (.int .i64 p.dig),.d (.int .i64 p.fkey),.d (.int .i64 p.fdig),.d (.slice (zaI p.signs)),.d (.slice (zda p.batch))]
structure smallP (p:zoQ):Prop where
 ops:∀ x∈p.batch,zlI x.op<=20971520
 batch:p.batch.length<=1073741824
 signs:p.signs.length<=1073741824
theorem gq42 {A P Q:Prop} (a:A) (h:Q) (e:A->Hd Q->P:=by intro a h;(repeat' first|simp -dsimp only [↓zeU, ↓zaA, ↓zbp, ↓zeV, ↓zeO, ↓zeM, ↓zeP, ↓zeN, ↓zbu, ↓zbq, ↓zbv, ↓zbr, ↓zeQ, ↓zbo, ↓zbw, ↓zbs, ↓zbx, ↓zbt, ↓zeL, ↓zeT, ↓zbn, ↓zby, ↓zeG, ↓zeF, ↓zeK,iN,bT,bF,eN, ↓zco, ↓unC, ↓zX, ↓zM, ↓zN, ↓zQ, ↓zZ, ↓zai, ↓zcv, ↓zaf, ↓zaS, ↓zV, ↓zl, ↓zm, ↓zbg, ↓ze, ↓zae, ↓zC, ↓zaM, ↓zaT, ↓zd, ↓zA, ↓zr, ↓zD, ↓zao, ↓zcY, ↓zdn, ↓zap, ↓zaw, ↓zaN, ↓zaZ, ↓zbk, ↓zw, ↓zaj, ↓zO, ↓zE, ↓zY,zdr,zbm,zbl,unA,zdo,bnd,zdL,zab,zS,zdI,dm,dm1,zG,zak,zdZ,zdY,zH,Q0,Q1,Q2,Q3,Q4,Q5,zW,zx,zy,zT,zL,Q6,Q7,Q8,Q9,Q10,Q11,Q12,Q13,Q14,Nat.reduceAdd,Q15,Int.reduceToNat,Q16,Q17,Q18,Q19,Q20,reduceIte,Q21,Q22,zF,rep,zaa,zeC,toD,zag,Q23,Q24,Q25,Q26,Q27,Q28,Nat.reduceLeDiff,Q29,Nat.reduceSub,Q30,Q31,Q32,sc,Q33,Q34,Q35,Q36,Q37,Q26,Q38,Q39,zis,zio,zil,zit,zcN,ziq,zim,zir,zin,zcM,zcO,ziu,ziv,Bool.not_true,Bool.not_false,List.length_map,Bool.and_false,Bool.and_self,Bool.false_and,Bool.not_false,Bool.not_true,Bool.true_and,Int.toNat_natCast,Int.toNat_zero,List.drop_zero,List.length_map,List.length_nil,List.nil_append,List.take_length,Nat.sub_zero,Nat.zero_add,Option.isSome_none,Option.isSome_some,Option.map_none,Option.map_some,zav,beq_self_eq_true,bne_self_eq_false,a]|with_reducible refine zix ?_|fail);exact h.go):P:=e a ⟨h⟩
theorem c_raSigned {σ:List zh} {id id2:Nat} {L:List (List UInt8)} {G:List zR} {s:zR} {key:Int} {b:List UInt8} (hT : σ[id]? = some (rtO L)) (hG : σ[id2]? = some (rlO G)) (hl0:L.length<=1048576) (hg:G.length<=1073741824) {K:KT}
  (hK:K (.d (.bool (zhk L G s key b))) σ):zp Tryz.prog znq [.box id 0,.box id2 0,.agg [.d (.int .i64 s.key),.d (.int .i64 s.dig)],.d (.int .i64 key),.d (.slice (bcs b))] σ K:=by
 refine acE5 e_r11_signed fun hl => ?_
 simp only [zta,iN,bT,bF,eN]
 refine gq1 ?_
 refine zmp (zf hT) hl0 ?_
 have fin:∀ z,zhk L G s key b=z->K (.d (.bool z)) σ:=fun z h=>h▸hK
 clear hK
 cases hlk:zdf L b with
 | none=>
  refine gq5 ?_
  refine zI hl ?_
  exact fin _ (by simp [zhk,hlk])
 | some i=>
  simp only [zjl]
  cases h1:(s.key==key)
  ·refine gq42 h1 ?_
   refine zI hl ?_
   exact fin _ (by simp at h1;simp [zhk,hlk,h1])
  ·cases h2:(s.dig==((i+1:Nat):Int))
   ·refine gq42 (zg h1 h2) ?_
    refine zI hl ?_
    exact fin _ (by simp at h1 h2;simp [zhk,hlk,h1];omega)
   ·refine gq42 (zg h1 h2) ?_
    refine zxv (s:=s) (zf hG) hg ?_
    refine gq1 ?_
    refine zI hl ?_
    exact fin _ (by simp at h1 h2;simp [zhk,hlk,h1,h2])
theorem zzb {σ:List zh} {id id2:Nat} {L:List (List UInt8)} {G:List zR} {s:zR} {key a b c d:Int} (hT : σ[id]? = some (rtO L)) (hG : σ[id2]? = some (rlO G)) (hl0:L.length<=1048576) (hg:G.length<=1073741824) {K:KT}
  (hK:K (.d (.bool (zkL L G s key a b c d))) σ) :
  zp Tryz.prog zjm [.box id 0,.box id2 0,.agg [.d (.int .i64 s.key),.d (.int .i64 s.dig)],.d (.int .i64 key),.d (.int .i64 a),.d (.int .i64 b),.d (.int .i64 c),.d (.int .i64 d)] σ K:=by
 refine acE8 zuS fun hl => ?_
 simp only [znU,iN,bT,bF,eN]
 refine gq1 ?_
 refine c_raMay ?_
 cases hm:zse a b c d
 ·rw [zkL,hm,Bool.false_and] at hK
  refine gq1 ?_
  refine zI hl ?_
  exact hK
 ·rw [zkL,hm,Bool.true_and] at hK
  refine gq1 ?_
  refine zqZ hm ?_
  refine gq1 ?_
  refine c_raSigned (s:=s) (zf hT) (zf hG) hl0 hg ?_
  refine gq1 ?_
  refine zI hl ?_
  exact hK
end Go.Proofs.YtfgbofkdhfjegaaGreat

/- Checkpoints' certificates: which are valid. No program in sight. -/
namespace Go.AW
def zjV (f seq d key:Int):Bool:=decide (seq≥1)&&(decide (seq<=9007199254740992)&&((seq.tmod 4==0)&&(decide (d≥1)&&(decide (d<=9007199254740992)&&(decide (key≥0)&&decide (key<zcA 3 f))))))
def zrD (c:zeX):Bool:=(c.seq==0)&&((c.dig==0)&&((c.signs.length:Int)==0))
def zyv (f seq d:Int):Option zR->List zR->Bool
 | _,[]=>true
 | p,s::r=>zjV f seq d s.key&&((match p with|some q => !(decide (s.key<=q.key))|none=>true)&&zyv f seq d (some s) r)
def zel (f:Int) (c:zeX):Bool:=zrD c || (decide ((c.signs.length:Int)≥zcA 2 f)&&zyv f c.seq c.dig none c.signs)
def znL (L:List (List UInt8)) (G:List zR) (f:Int) (c:zeX):Bool:=decide (zcZ f=0)&&(zel f c&&c.signs.all fun s=>zkL L G s s.key 6 0 c.seq c.dig)
theorem zwU {f seq d:Int} {p:Option zR} {l:List zR} {k:Nat} {s:zR} (h:l[k]? = some s):zyv f seq d p (l.drop k)=(zjV f seq d s.key&&((match p with|some q => !(decide (s.key<=q.key))|none=>true)&&zyv f seq d (some s) (l.drop (k+1)))):=by
 have hk:k<l.length:=(List.getElem?_eq_some_iff.1 h).1
 rw [List.drop_eq_getElem_cons hk,(List.getElem?_eq_some_iff.1 h).2]
 rfl
def aheadS (l:List zR):Nat->Option zR
 | 0=>none
 | k+1=>l[k]?
end Go.AW

/- Contracts: checkpoints' certificates, on both sides. -/
set_option maxRecDepth 100000
namespace Go.Proofs.YtfgbofkdhfjegaaGreat
open Go.AW
theorem c_ptZero {σ:List zh} {c:zeX} {K:KT} (hK:K (.d (.bool (zrD c))) σ):zp Tryz.prog zny [ziw c] σ K:=by
 refine zfc e_point_zero fun hl => ?_
 have hlen:(zaI c.signs).length=c.signs.length:=List.length_map ..
 have fin:∀ z,zrD c=z->K (.d (.bool z)) σ:=fun z h=>h▸hK
 clear hK
 simp only [ztk,iN,bT,bF,eN,ziw]
 cases h1:(c.seq==0)
 ·refine gq2 h1 ?_
  refine zI hl ?_
  exact fin _ (by simp [zrD,h1])
 cases h2:(c.dig==0)
 ·refine gq2 (zg h1 h2) ?_
  refine zI hl ?_
  exact fin _ (by simp [zrD,h1,h2])
 refine gq2 (zg h1 (zg h2 hlen)) ?_
 refine zI hl ?_
 exact fin _ (by simp [zrD,h1,h2])
theorem c_r14Zero {σ:List zh} {c:zeX} {K:KT} (hK:K (.d (.bool (zrD c))) σ):zp Tryz.prog zrO [ziw c] σ K:=by
 refine zfc e_r14_zero fun hl => ?_
 have hlen:(zaI c.signs).length=c.signs.length:=List.length_map ..
 have fin:∀ z,zrD c=z->K (.d (.bool z)) σ:=fun z h=>h▸hK
 clear hK
 simp only [zxJ,iN,bT,bF,eN,ziw]
 cases h1:(c.seq==0)
 ·refine gq2 h1 ?_
  refine zI hl ?_
  exact fin _ (by simp [zrD,h1])
 cases h2:(c.dig==0)
 ·refine gq2 (zg h1 h2) ?_
  refine zI hl ?_
  exact fin _ (by simp [zrD,h1,h2])
 refine gq2 (zg h1 (zg h2 hlen)) ?_
 refine zI hl ?_
 exact fin _ (by simp [zrD,h1,h2])
theorem c_ptMay {σ:List zh} {id:Nat} {f seq d key:Int} {cs:List AV} (hσ : σ[id]? = some (.box (.d (.int .i64 f)::cs))) {K:KT} (hK:K (.d (.bool (zjV f seq d key))) σ) :
  zp Tryz.prog zgO [.box id 0,.d (.int .i64 seq),.d (.int .i64 d),.d (.int .i64 key)] σ K:=by
 refine acE4 zqQ fun hl => ?_
 have fin:∀ z,zjV f seq d key=z->K (.d (.bool z)) σ:=fun z h=>h▸hK
 clear hK
 have e4:((4:Int)==0)=false:=rfl
 simp only [zks,iN,bT,bF,eN]
 cases h1:decide (seq≥1)
 ·refine gq2 h1 ?_
  refine zI hl ?_
  exact fin _ (by rw [zjV,h1];rfl)
 cases h2:decide (seq<=9007199254740992)
 ·refine gq2 (zg h1 h2) ?_
  refine zI hl ?_
  exact fin _ (by rw [zjV,h1,h2];rfl)
 cases h3:(seq.tmod 4==0)
 ·refine gq2 (zg h1 (zg h2 (zg e4 h3))) ?_
  refine zI hl ?_
  exact fin _ (by rw [zjV,h1,h2,h3];rfl)
 cases h4:decide (d≥1)
 ·refine gq2 (zg h1 (zg h2 (zg e4 (zg h3 h4)))) ?_
  refine zI hl ?_
  exact fin _ (by rw [zjV,h1,h2,h3,h4];rfl)
 cases h5:decide (d<=9007199254740992)
 ·refine gq2 (zg h1 (zg h2 (zg e4 (zg h3 (zg h4 h5))))) ?_
  refine zI hl ?_
  exact fin _ (by rw [zjV,h1,h2,h3,h4,h5];rfl)
 cases h6:decide (key≥0)
 ·refine gq2 (zg h1 (zg h2 (zg e4 (zg h3 (zg h4 (zg h5 h6)))))) ?_
  refine zI hl ?_
  exact fin _ (by rw [zjV,h1,h2,h3,h4,h5,h6];rfl)
 refine gq2 (zg h1 (zg h2 (zg e4 (zg h3 (zg h4 (zg h5 (zg h6 hσ))))))) ?_
 refine zvr ?_
 refine gq1 ?_
 refine zI hl ?_
 exact fin _ (by rw [zjV,h1,h2,h3,h4,h5,h6];rfl)
theorem c_r14May {σ:List zh} {id:Nat} {f seq d key:Int} {cs:List AV} (hσ : σ[id]? = some (.box (.d (.int .i64 f)::cs))) {K:KT} (hK:K (.d (.bool (zjV f seq d key))) σ) :
  zp Tryz.prog zif [.box id 0,.d (.int .i64 seq),.d (.int .i64 d),.d (.int .i64 key)] σ K:=by
 refine acE4 ztw fun hl => ?_
 have fin:∀ z,zjV f seq d key=z->K (.d (.bool z)) σ:=fun z h=>h▸hK
 clear hK
 have e4:((4:Int)==0)=false:=rfl
 simp only [zmC,iN,bT,bF,eN]
 cases h1:decide (seq≥1)
 ·refine gq2 h1 ?_
  refine zI hl ?_
  exact fin _ (by rw [zjV,h1];rfl)
 cases h2:decide (seq<=9007199254740992)
 ·refine gq2 (zg h1 h2) ?_
  refine zI hl ?_
  exact fin _ (by rw [zjV,h1,h2];rfl)
 cases h3:(seq.tmod 4==0)
 ·refine gq2 (zg h1 (zg h2 (zg e4 h3))) ?_
  refine zI hl ?_
  exact fin _ (by rw [zjV,h1,h2,h3];rfl)
 cases h4:decide (d≥1)
 ·refine gq2 (zg h1 (zg h2 (zg e4 (zg h3 h4)))) ?_
  refine zI hl ?_
  exact fin _ (by rw [zjV,h1,h2,h3,h4];rfl)
 cases h5:decide (d<=9007199254740992)
 ·refine gq2 (zg h1 (zg h2 (zg e4 (zg h3 (zg h4 h5))))) ?_
  refine zI hl ?_
  exact fin _ (by rw [zjV,h1,h2,h3,h4,h5];rfl)
 cases h6:decide (key≥0)
 ·refine gq2 (zg h1 (zg h2 (zg e4 (zg h3 (zg h4 (zg h5 h6)))))) ?_
  refine zI hl ?_
  exact fin _ (by rw [zjV,h1,h2,h3,h4,h5,h6];rfl)
 refine gq2 (zg h1 (zg h2 (zg e4 (zg h3 (zg h4 (zg h5 (zg h6 hσ))))))) ?_
 refine zsy ?_
 refine gq1 ?_
 refine zI hl ?_
 exact fin _ (by rw [zjV,h1,h2,h3,h4,h5,h6];rfl)
theorem zhC {l:List zR} {k:Nat} {s:zR} (h:l[k]? = some s):aheadS l (k+1)=some s:=h
abbrev zyR (c:zeX):zh := .box [.d (.int .i64 c.seq),.d (.int .i64 c.dig),.d (.slice (zaI c.signs))]
theorem c_ptMayCert {σ:List zh} {id:Nat} {f:Int} {c:zeX} {cs:List AV} (hσ : σ[id]? = some (.box (.d (.int .i64 f)::cs))) (hl0:c.signs.length<=1073741824) {K:KT} (hK:K (.d (.bool (zel f c))) σ) :
  zp Tryz.prog zeJ [.box id 0,ziw c] σ K:=by
 refine zeW znb fun hl => ?_
 have fin:∀ z,zel f c=z->K (.d (.bool z)) σ:=fun z h=>h▸hK
 clear hK
 have hlen:(zaI c.signs).length=c.signs.length:=List.length_map ..
 have hS:∀ τ,(σ ++ τ)[id]? = some (.box (.d (.int .i64 f)::cs)):=fun τ=>zf hσ
 simp only [zhf,iN,bT,bF,eN,ziw]
 refine gq1 ?_
 refine c_ptZero (c:=c) ?_
 cases hz:zrD c
 rotate_left
 ·refine gq1 ?_
  refine zI hl ?_
  exact fin _ (by rw [zel,hz];rfl)
 refine gq2 hlen ?_
 refine zo c.signs.length (fun k vs s=>vs = [.d (.int .i64 k)]/\(∃ T,s = σ++zyR c::T)/\zyv f c.seq c.dig none c.signs=zyv f c.seq c.dig (aheadS c.signs k) (c.signs.drop k)) ⟨rfl,⟨[],rfl⟩,rfl⟩ ?_
 rintro k vs s hk ⟨rfl,⟨T,rfl⟩,hpf⟩
 have no:zyv f c.seq c.dig none c.signs=false->zel f c=false:=fun h=>by rw [zel,hz,h,Bool.and_false];rfl
 by_cases hlt:k<c.signs.length
 ·have hd:decide ((k:Int)<(c.signs.length:Int))=true:=by simp;omega
  have hx:c.signs[k]? = some c.signs[k]:=by simp [hlt]
  have hgx:=zK (f:=zgz) hx
  obtain ⟨x,hxe⟩:∃ x,c.signs[k]=x:=⟨_,rfl⟩
  rw [hxe] at hx hgx
  rw [zwU hx] at hpf
  refine gq8 (zg hd hgx) ?_
  refine c_ptMay (hS _) ?_
  cases h1:zjV f c.seq c.dig x.key
  ·refine gq1 ?_
   refine zI hl ?_
   exact fin _ (no (by rw [hpf,h1];rfl))
  rw [h1,Bool.true_and] at hpf
  cases k with
  | zero=>
   refine gq2 (zg (show decide (((0:Nat):Int) > 0)=false from rfl) (wkc 0 (by omega))) ?_
   exact zas.next hlt ⟨rfl,⟨_,rfl⟩,by rw [hpf,zhC hx];rfl⟩
  | succ j=>
   have hz1:decide (((j+1:Nat):Int) > 0)=true:=decide_eq_true (by omega)
   have hw1:IntKind.i64.wrap (((j+1:Nat):Int)-1)=(j:Int):=by rw [zU (by omega) (by omega)];omega
   have hy:c.signs[j]? = some c.signs[j]:=by simp [show j<c.signs.length by omega]
   have hgy:=zK (f:=zgz) hy
   obtain ⟨y,hye⟩:∃ y,c.signs[j]=y:=⟨_,rfl⟩
   rw [hye] at hy hgy
   rw [zhC hy] at hpf
   simp only at hpf
   cases h2:decide (x.key<=y.key)
   ·refine gq8 (zg hz1 (zg hw1 (zg hgx (zg hgy (zg h2 (wkc (j+1) (by omega))))))) ?_
    exact zas.next hlt ⟨rfl,⟨_,rfl⟩,by rw [hpf,h2,zhC hx];simp⟩
   ·refine gq8 (zg hz1 (zg hw1 (zg hgx (zg hgy h2)))) ?_
    refine zI hl ?_
    exact fin _ (no (by rw [hpf,h2];rfl))
 ·have hd:decide ((k:Int)<(c.signs.length:Int))=false:=by simp;omega
  rw [List.drop_eq_nil_of_le (by omega)] at hpf
  refine gq2 (zg hd (zg hlen hS)) ?_
  refine c_quBig ?_
  refine gq1 ?_
  refine zI hl ?_
  exact fin _ (by rw [zel,hz,hpf];simp [zyv])
theorem c_r14MayCert {σ:List zh} {id:Nat} {f:Int} {c:zeX} {cs:List AV} (hσ : σ[id]? = some (.box (.d (.int .i64 f)::cs))) (hl0:c.signs.length<=1073741824) {K:KT} (hK:K (.d (.bool (zel f c))) σ) :
  zp Tryz.prog zfG [.box id 0,ziw c] σ K:=by
 refine zeW zoJ fun hl => ?_
 have fin:∀ z,zel f c=z->K (.d (.bool z)) σ:=fun z h=>h▸hK
 clear hK
 have hlen:(zaI c.signs).length=c.signs.length:=List.length_map ..
 have hS:∀ τ,(σ ++ τ)[id]? = some (.box (.d (.int .i64 f)::cs)):=fun τ=>zf hσ
 simp only [ziK,iN,bT,bF,eN,ziw]
 refine gq1 ?_
 refine c_r14Zero (c:=c) ?_
 cases hz:zrD c
 rotate_left
 ·refine gq1 ?_
  refine zI hl ?_
  exact fin _ (by rw [zel,hz];rfl)
 refine gq2 (zg hlen hS) ?_
 refine c_rBig ?_
 cases hb:decide ((c.signs.length:Int)<zcA 2 f)
 rotate_left
 ·refine gq2 hb ?_
  refine zI hl ?_
  refine fin _ ?_
  have:decide ((c.signs.length:Int)≥zcA 2 f)=false:=by simp at hb ⊢;omega
  rw [zel,hz,this];rfl
 have hb2:decide ((c.signs.length:Int)≥zcA 2 f)=true:=by simp at hb ⊢;omega
 refine gq2 hb ?_
 refine zo c.signs.length (fun k vs s=>vs = [.d (.int .i64 k)]/\s = σ++[zyR c]/\zel f c=zyv f c.seq c.dig (aheadS c.signs k) (c.signs.drop k)) ⟨rfl,rfl,by rw [zel,hz,hb2];rfl⟩ ?_
 rintro k vs s hk ⟨rfl,rfl,hpf⟩
 by_cases hlt:k<c.signs.length
 ·have hd:decide ((k:Int)<(c.signs.length:Int))=true:=by simp;omega
  have hx:c.signs[k]? = some c.signs[k]:=by simp [hlt]
  have hgx:=zK (f:=zgz) hx
  obtain ⟨x,hxe⟩:∃ x,c.signs[k]=x:=⟨_,rfl⟩
  rw [hxe] at hx hgx
  rw [zwU hx] at hpf
  refine gq8 (zg hd (zg hgx hlen)) ?_
  refine c_r14May (hS _) ?_
  cases h1:zjV f c.seq c.dig x.key
  ·refine gq1 ?_
   refine zI hl ?_
   exact fin _ (by rw [hpf,h1];rfl)
  rw [h1,Bool.true_and] at hpf
  cases k with
  | zero=>
   refine gq2 (zg (show decide (((0:Nat):Int) > 0)=false from rfl) (wkc 0 (by omega))) ?_
   exact zas.next hlt ⟨rfl,rfl,by rw [hpf,zhC hx];rfl⟩
  | succ j=>
   have hz1:decide (((j+1:Nat):Int) > 0)=true:=decide_eq_true (by omega)
   have hw1:IntKind.i64.wrap (((j+1:Nat):Int)-1)=(j:Int):=by rw [zU (by omega) (by omega)];omega
   have hy:c.signs[j]? = some c.signs[j]:=by simp [show j<c.signs.length by omega]
   have hgy:=zK (f:=zgz) hy
   obtain ⟨y,hye⟩:∃ y,c.signs[j]=y:=⟨_,rfl⟩
   rw [hye] at hy hgy
   rw [zhC hy] at hpf
   simp only at hpf
   cases h2:decide (x.key<=y.key)
   ·refine gq8 (zg hz1 (zg hw1 (zg hgx (zg hgy (zg h2 (wkc (j+1) (by omega))))))) ?_
    exact zas.next hlt ⟨rfl,rfl,by rw [hpf,h2,zhC hx];simp⟩
   ·refine gq8 (zg hz1 (zg hw1 (zg hgx (zg hgy h2)))) ?_
    refine zI hl ?_
    exact fin _ (by rw [hpf,h2];rfl)
 ·have hd:decide ((k:Int)<(c.signs.length:Int))=false:=by simp;omega
  rw [List.drop_eq_nil_of_le (by omega)] at hpf
  refine gq2 (zg hd hlen) ?_
  refine zI hl ?_
  exact fin _ (by rw [hpf];rfl)
theorem c_ptNew {σ:List zh} {f:Int} {K:KT} (hN:zcZ f≠0->K (.tup [.d .nilp,.d (.int .i64 (zcZ f))]) σ)
  (hY:zcZ f=0->K (.tup [.box (σ.length+1) 0,.d (.int .i64 0)]) (σ++[.map [],.box [.d (.int .i64 f),.d (.int .i64 0),.d (.int .i64 0),.exact [],.map σ.length,.exact []]])):zp Tryz.prog zpE [.d (.int .i64 f)] σ K:=by
 refine zcl zvb.is rfl (fun s=>if s.length = σ.length then [] else List.range' σ.length 2) fun hl _=>zvb.goes ?_
 simp only [zwa,iN,bT,bF,eN]
 refine gq1 ?_
 refine zrc ?_
 cases h:(zcZ f != 0)
 ·have h0:zcZ f=0:=by simpa using h
  refine gq2 h ?_
  refine zdw (os := [.map [],.box [.d (.int .i64 f),.d (.int .i64 0),.d (.int .i64 0),.exact [],.map σ.length,.exact []]]) rfl (by simp) hl ?_ ?_ (hY h0)
  ·intro x hx
   simp only [List.mem_cons,List.not_mem_nil,or_false] at hx
   rcases hx with rfl|rfl
   ·intro e he;simp at he
   ·intro c hc
    simp only [List.mem_cons,List.not_mem_nil,or_false] at hc
    rcases hc with rfl|rfl|rfl|rfl|rfl|rfl
    ·exact .d _
    ·exact .d _
    ·exact .d _
    ·exact .exact _
    ·exact .map _ (by simp)
    ·exact .exact _
  ·simp [zcJ,zcb,Low_box,zfz]
 ·refine gq2 h ?_
  exact zmk (by simp) hl (by simp [zcJ,zdA,zkc]) (hN (by simpa using h))
end Go.Proofs.YtfgbofkdhfjegaaGreat
