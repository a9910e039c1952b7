/- Contracts: votes, the document's. -/
import Derived.Test.YtpgahkdjkanblaaGreatRq3
import Derived.Test.YtpgahkdjkanblaaGreatSpTab
import Derived.Test.YtpgahkdjkanblaaGreatSpOp
import Derived.Test.YtpgahkdjkanblaaGreatId5
import Derived.Test.YtpgahkdjkanblaaGreatQu1
set_option linter.all false
set_option maxRecDepth 100000
namespace Go.Proofs.YtpgahkdjkanblaaGreat
open Go.AW
theorem zAL {σ:List zd} {x:Int} {K:KT} (hK:K (.d (.bool (zkX x))) σ):zj Tryz.prog zlT [.d (.int .i64 x)] σ K:=by
 refine zdZ e_r11_num fun hl => ?_
 have fin:∀ z,zkX x=z->K (.d (.bool z)) σ:=fun z h=>h▸hK
 clear hK
 simp only [S_r11_num,iN,bT,bF,eN]
 cases h1:decide (x≥0)
 ·refine zA h1 ?_
  refine zt hl ?_
  exact fin _ (by simp at h1;simp [zkX];omega)
 ·refine zA h1 ?_
  refine zt hl ?_
  exact fin _ (by simp at h1;simp [zkX];omega)
theorem c_raMay {σ:List zd} {a b c d:Int} {K:KT} (hK:K (.d (.bool (zvs a b c d))) σ) :
  zj Tryz.prog zrS [.d (.int .i64 a),.d (.int .i64 b),.d (.int .i64 c),.d (.int .i64 d)] σ K:=by
 refine zAU e_r11_may fun hl => ?_
 have fin:∀ z,zvs a b c d=z->K (.d (.bool z)) σ:=fun z h=>h▸hK
 clear hK
 simp only [S_r11_may,iN,bT,bF,eN]
 refine zQ ?_
 refine zAL ?_
 cases h1:zkX a
 ·refine zQ ?_
  refine zt hl ?_
  exact fin _ (by simp [zvs,h1])
 refine zQ ?_
 refine zAL ?_
 cases h2:zkX b
 ·refine zQ ?_
  refine zt hl ?_
  exact fin _ (by simp [zvs,h1,h2])
 refine zQ ?_
 refine zAL ?_
 cases h3:zkX c
 ·refine zQ ?_
  refine zt hl ?_
  exact fin _ (by simp [zvs,h1,h2,h3])
 refine zQ ?_
 refine zAL ?_
 refine zQ ?_
 refine zt hl ?_
 exact fin _ (by simp [zvs,h1,h2,h3])
theorem zAK {σ:List zd} {b:List UInt8} {x:Int} (hb:b.length<=1000000) (h0:0<=x) (h1:x<=9007199254740992) {K:KT} (hK:K (.d (.slice (bcs (b++zcA x.toNat)))) σ) :
  zj Tryz.prog zfO [.d (.slice (bcs b)),.d (.int .i64 x)] σ K:=by
 refine zeE e_r11_put fun hl => ?_
 have hm1:(if 0 > x then 0 else x)=x:=by split<;>omega
 have hm2:(if x<0 then 0 else x)=x:=by split<;>omega
 have hw:IntKind.u64.wrap x=((x.toNat:Nat):Int):=by
  rw [show x=((x.toNat:Nat):Int) by omega,zdq (by omega)];rfl
 simp only [S_r11_put,iN,bT,bF,eN]
 refine zA (zo hm1 (zo hm2 hw)) ?_
 refine zfX (by omega) (by omega) ?_
 refine zQ ?_
 refine zt hl ?_
 exact hK
theorem zsv {σ:List zd} {a b c d:Int} (h:zvs a b c d=true) {K:KT} (hK:K (.d (.slice (bcs (zkc a b c d)))) σ) :
  zj Tryz.prog zdN [.d (.int .i64 a),.d (.int .i64 b),.d (.int .i64 c),.d (.int .i64 d)] σ K:=by
 refine zAU zwD fun hl => ?_
 simp only [zvs,Bool.and_eq_true,zvR] at h
 obtain ⟨⟨a0,a1⟩,⟨b0,b1⟩,⟨c0,c1⟩,⟨d0,d1⟩⟩:=h
 have l1:=zm (n:=a.toNat) (by omega)
 have l2:=zm (n:=b.toNat) (by omega)
 have l3:=zm (n:=c.toNat) (by omega)
 simp only [zpf,iN,bT,bF,eN]
 refine zQ ?_
 refine zAK (b := [4]) (by simp) a0 a1 ?_
 obtain ⟨B1,hB1⟩:∃ B,[4]++zcA a.toNat=B:=⟨_,rfl⟩
 have n1:B1.length<=11:=by rw [← hB1];simp;omega
 rw [hB1]
 refine zQ ?_
 refine zAK (by omega) b0 b1 ?_
 obtain ⟨B2,hB2⟩:∃ B,B1++zcA b.toNat=B:=⟨_,rfl⟩
 have n2:B2.length<=21:=by rw [← hB2];simp;omega
 rw [hB2]
 refine zQ ?_
 refine zAK (by omega) c0 c1 ?_
 obtain ⟨B3,hB3⟩:∃ B,B2++zcA c.toNat=B:=⟨_,rfl⟩
 have n3:B3.length<=31:=by rw [← hB3];simp;omega
 rw [hB3]
 refine zQ ?_
 refine zAK (by omega) d0 d1 ?_
 refine zQ ?_
 refine zt hl ?_
 rw [show B3++zcA d.toNat=zkc a b c d by rw [← hB3, ← hB2, ← hB1];simp [zkc,zaV]]
 exact hK
def zvJ (L:List (List UInt8)) (key:Int) (b:List UInt8):Int:=if zon L b=0 then 6 else zjd key (zon L b)
def sgnS (L:List (List UInt8)) (key:Int) (b:List UInt8):zy:=if zon L b=0 then ⟨0, 0⟩ else signR key (zon L b)
def zlP (L:List (List UInt8)) (G:List zy) (key:Int) (b:List UInt8):List zy:=if zon L b=0 then G else zie G key (zon L b)
theorem c_raSign {σ:List zd} {id id2:Nat} {L:List (List UInt8)} {G:List zy} {key:Int} {b:List UInt8} (hT : σ[id]? = some (rtO L)) (hG : σ[id2]? = some (rlO G)) (h1:id≠id2) (hbl:b.length<=1073741824) (hl0:L.length<=1048576) (hg:G.length<=1073741824)
  {K:KT}
  (hK:K (.tup [znT (sgnS L key b),.d (.int .i64 (zvJ L key b))]) ((σ.set id (rtO (zgn L b))).set id2 (rlO (zlP L G key b)))) :
  zj Tryz.prog zpD [.box id 0,.box id2 0,.d (.int .i64 key),.d (.slice (bcs b))] σ K:=by
 refine zAU e_r11_sign fun hl => ?_
 simp only [zzB,iN,bT,bF,eN]
 refine zQ ?_
 refine c_rtSum (zn hT) hbl hl0 ?_
 rw [zbB hT]
 have hl1:zgl σ.length (σ.set id (rtO (zgn L b))):=hl.setO (zmF _ _)
 have hs1:(σ.set id (rtO (zgn L b))).length = σ.length:=by simp
 have hG1:(σ.set id (rtO (zgn L b)))[id2]? = some (rlO G):=by rw [List.getElem?_set_ne h1];exact hG
 obtain ⟨S1,hS1⟩:∃ S1, σ.set id (rtO (zgn L b))=S1:=⟨_,rfl⟩
 rw [hS1] at hK hG1 hs1 hl1 ⊢
 have r1 : σ.length=S1.length:=hs1.symm
 rw [r1] at hl1
 by_cases hz:zon L b=0
 ·have hq:(zon L b==0)=true:=by simpa using hz
  simp only [zvJ,sgnS,zlP,if_pos hz,znT] at hK
  rw [zcm hG1] at hK
  refine zA (zo hq r1) ?_
  refine zcx rfl ?_ hl1 ?_
  ·simp [zfF,dmT,dm,dm1,zcq,zaU,zdw]
  ·exact hK
 ·have hq:(zon L b==0)=false:=by simpa using hz
  simp only [zvJ,sgnS,zlP,if_neg hz] at hK
  refine zA (zo hq r1) ?_
  refine c_rgSign (zn hG1) hg ?_
  rw [zbB hG1]
  have hl2:zgl S1.length (S1.set id2 (rlO (zie G key (zon L b)))):=hl1.setO (ztc _ _)
  have hs2:(S1.set id2 (rlO (zie G key (zon L b)))).length=S1.length:=by simp
  obtain ⟨S2,hS2⟩:∃ S2,S1.set id2 (rlO (zie G key (zon L b)))=S2:=⟨_,rfl⟩
  rw [hS2] at hK hs2 hl2 ⊢
  have r3:S1.length=S2.length:=hs2.symm
  have r2 : σ.length=S2.length:=r1.trans r3
  rw [r3] at hl2
  simp only [znT] at hK ⊢
  refine zA (zo r2 r3) ?_
  refine zcx rfl ?_ hl2 ?_
  ·simp [zfF,dmT,dm,dm1,zcq,zaU,zdw]
  ·exact hK
def votE (L:List (List UInt8)) (key a b c d:Int):Int:=if zvs a b c d=true then zvJ L key (zkc a b c d) else 1
def votS (L:List (List UInt8)) (key a b c d:Int):zy:=if zvs a b c d=true then sgnS L key (zkc a b c d) else ⟨0, 0⟩
def zyt (L:List (List UInt8)) (a b c d:Int):List (List UInt8):=if zvs a b c d=true then zgn L (zkc a b c d) else L
def zyu (L:List (List UInt8)) (G:List zy) (key a b c d:Int):List zy:=if zvs a b c d=true then zlP L G key (zkc a b c d) else G
theorem c_raVote {σ:List zd} {id id2:Nat} {L:List (List UInt8)} {G:List zy} {key a b c d:Int} (hT : σ[id]? = some (rtO L)) (hG : σ[id2]? = some (rlO G)) (h1:id≠id2) (hl0:L.length<=1048576) (hg:G.length<=1073741824)
  {K:KT}
  (hK:K (.tup [znT (votS L key a b c d),.d (.int .i64 (votE L key a b c d))]) ((σ.set id (rtO (zyt L a b c d))).set id2 (rlO (zyu L G key a b c d)))) :
  zj Tryz.prog ztm [.box id 0,.box id2 0,.d (.int .i64 key),.d (.int .i64 a),.d (.int .i64 b),.d (.int .i64 c),.d (.int .i64 d)] σ K:=by
 refine acE7 e_r11_Vote fun hl => ?_
 simp only [zzC,iN,bT,bF,eN]
 refine zQ ?_
 refine c_raMay ?_
 cases hm:zvs a b c d
 ·simp only [votS,votE,zyt,zyu,hm,Bool.false_eq_true,if_false,znT] at hK
  rw [zcm hT,zcm hG] at hK
  refine zQ ?_
  refine zt hl ?_
  exact hK
 ·simp only [votS,votE,zyt,zyu,hm,if_true] at hK
  have hbl:=zvC hm
  refine zQ ?_
  refine zsv hm ?_
  refine zQ ?_
  refine c_raSign (zn hT) (zn hG) h1 (by omega) hl0 hg ?_
  rw [zbB hT,zbB (by rw [List.getElem?_set_ne h1];exact hG)]
  have hl2:zgl σ.length ((σ.set id (rtO (zgn L (zkc a b c d)))).set id2 (rlO (zlP L G key (zkc a b c d)))):=(hl.setO (zmF _ _)).setO (ztc _ _)
  have hs2:((σ.set id (rtO (zgn L (zkc a b c d)))).set id2 (rlO (zlP L G key (zkc a b c d)))).length = σ.length:=by simp
  obtain ⟨S2,hS2⟩:∃ S2,(σ.set id (rtO (zgn L (zkc a b c d)))).set id2 (rlO (zlP L G key (zkc a b c d)))=S2:=⟨_,rfl⟩
  rw [hS2] at hK hs2 hl2 ⊢
  have r3 : σ.length=S2.length:=hs2.symm
  rw [r3] at hl2
  simp only [znT] at hK ⊢
  refine zA r3 ?_
  refine zcx rfl ?_ hl2 ?_
  ·simp [zfF,dmT,dm,dm1,zcq,zaU,zdw]
  ·exact hK
def zbG (f v:Int):Int:=if (f<1∨f > 4)∨v<0∨v > 9007199254740992 then -1 else v.tmod (3*f+1)
def zrI (L:List (List UInt8)) (G:List zy) (f lead view seq dig:Int):Int->List zy->Bool
 | _,[]=>true
 | last,s::r => !(decide (s.key<=last))&&(!(decide (s.key≥zaR 3 f))&&(!(s.key==lead)&&(zfy L G s s.key 3 view seq dig&&zrI L G f lead view seq dig s.key r)))
def zjs (f:Int) (p:zbO):Bool:=decide (zbs f=0)&&(!(decide (p.view<0))&&(!(decide (p.view > 9007199254740992))&&(!(decide (p.seq<1)) && !(decide (p.seq > 9007199254740992)))))
def prepH (L:List (List UInt8)) (G:List zy) (f:Int) (p:zbO):Bool:=
 zfy L G ⟨p.fkey,p.fdig⟩ (zbG f p.view) 2 p.view p.seq p.dig&&(((p.signs.length:Int)==2*f)&&zrI L G f (zbG f p.view) p.view p.seq p.dig (-1) p.signs)
def zAd (L:List (List UInt8)) (G:List zy) (f:Int) (p:zbO):Bool:=match zev L (zbN p.batch) with
 | some i=>(((i+1:Nat):Int)==p.dig)&&prepH L G f p
 | none=>false
def zgY (L:List (List UInt8)) (G:List zy) (f:Int) (p:zbO):Bool:=zjs f p&&(zgm L G p.batch&&zAd L G f p)
theorem zui {L:List (List UInt8)} {G:List zy} {b:List zC} (h:zgm L G b=true):zr b=0:=by
 simp [zgm] at h;exact h.1
theorem prim_tmod {f v:Int} (h:¬ (f<1∨f > 4)) (h0:¬ v<0) (h1:¬ v > 9007199254740992):0<=v.tmod (3*f+1)/\v.tmod (3*f+1)<=12:=by
 have:=Int.tmod_lt_of_pos v (b := 3*f+1) (by omega)
 have h2:=Int.tmod_nonneg (3*f+1) (show 0<=v by omega)
 omega
abbrev prepA (p:zbO):AV := .agg [.d (.int .i64 p.view),.d (.int .i64 p.seq),.d (.int .i64 p.dig),.d (.int .i64 p.fkey),.d (.int .i64 p.fdig),.d (.slice (zO p.signs)),.d (.slice (zaP p.batch))]
theorem zys {L:List (List UInt8)} {G:List zy} {f lead view seq dig last:Int} {l:List zy} {k:Nat} {s:zy} (h:l[k]? = some s) :
  zrI L G f lead view seq dig last (l.drop k)=(!(decide (s.key<=last))&&(!(decide (s.key≥zaR 3 f))&&(!(s.key==lead)&&(zfy L G s s.key 3 view seq dig&&zrI L G f lead view seq dig s.key (l.drop (k+1)))))):=by
 have hk:k<l.length:=(List.getElem?_eq_some_iff.1 h).1
 rw [List.drop_eq_getElem_cons hk,(List.getElem?_eq_some_iff.1 h).2]
 rfl
theorem c_quView {σ:List zd} {f v:Int} {K:KT} (hK:K (.d (.bool (!decide ((f<1∨f > 4)∨v<0∨v > 9007199254740992)))) σ):zj Tryz.prog zmQ [.d (.int .i64 f),.d (.int .i64 v)] σ K:=by
 refine zeE zAx fun hl => ?_
 simp only [zsM,iN,bT,bF,eN]
 refine zQ ?_
 refine zkE ?_
 by_cases h:f<1∨f > 4
 ·rw [decide_eq_true (.inl h)] at hK
  rw [zbs,if_pos h]
  refine zA (show ((120:Int)==0)=false from rfl) ?_
  refine zt hl ?_
  exact hK
 ·rw [zbs,if_neg h]
  cases h1:decide (v≥0)
  ·rw [decide_eq_true (.inr (.inl (by simpa using h1)))] at hK
   refine zA (zi (show ((0:Int)==0)=true from rfl) h1) ?_
   refine zt hl ?_
   exact hK
  ·have h0:¬ v<0:=by simp at h1;omega
   refine zA (zi (show ((0:Int)==0)=true from rfl) h1) ?_
   refine zt hl ?_
   rw [show decide (v<=9007199254740992) = !decide ((f<1∨f > 4)∨v<0∨v > 9007199254740992) by
    by_cases h2:v<=9007199254740992
    ·rw [decide_eq_true h2,decide_eq_false (by omega)];rfl
    ·rw [decide_eq_false h2,decide_eq_true (by omega)];rfl]
   exact hK
theorem zrr {σ:List zd} {f v:Int} {K:KT} (hK:K (.d (.int .i64 (zbG f v))) σ):zj Tryz.prog zfm [.d (.int .i64 f),.d (.int .i64 v)] σ K:=by
 refine zeE zvg fun hl => ?_
 simp only [znH,iN,bT,bF,eN]
 refine zQ ?_
 refine c_quView ?_
 by_cases h:(f<1∨f > 4)∨v<0∨v > 9007199254740992
 ·rw [zbG,if_pos h] at hK
  rw [decide_eq_true h]
  refine zQ ?_
  refine zt hl ?_
  exact hK
 ·rw [zbG,if_neg h] at hK
  rw [decide_eq_false h]
  have hf:¬ (f<1∨f > 4):=fun e=>h (.inl e)
  refine zQ ?_
  refine zkF ?_
  rw [zaR,if_neg hf]
  have:=prim_tmod hf (fun e=>h (.inr (.inl e))) (fun e=>h (.inr (.inr e)))
  have hw:IntKind.i64.wrap (v.tmod (3*f+1))=v.tmod (3*f+1):=zab (by omega) (by omega)
  have hz:(3*f+1==0)=false:=by simp;omega
  refine zA (zi hw hz) ?_
  refine zt hl ?_
  exact hK
structure smallP (p:zbO):Prop where
 ops:∀ x∈p.batch,zlf x.op<=20971520
 batch:p.batch.length<=1073741824
 signs:p.signs.length<=1073741824
theorem c_prValid {σ:List zd} {id m t id2 m2 t2:Nat} {L:List (List UInt8)} {G:List zy} {f:Int} {p:zbO} (hT:zea σ id m t L) (hG:zdL σ id2 m2 t2 G) (hL:zka L) (hg:G.length<=1073741824) (hp:smallP p)
  {K:KT} (hK:K (.d (.bool (zgY L G f p))) σ):zj Tryz.prog zjk [.box id 0,.box id2 0,.d (.int .i64 f),prepA p] σ K:=by
 refine zAU zvi fun hl => ?_
 have fin:∀ z,zgY L G f p=z->K (.d (.bool z)) σ:=fun z h=>h▸hK
 clear hK
 simp only [znJ,iN,bT,bF,eN,prepA]
 refine zQ ?_
 refine zsr (hT.app _) hL.nd hL.len hL.each ?_
 refine zQ ?_
 refine zsw (hG.app _) hg fun g' => ?_
 refine zQ ?_
 refine zkE ?_
 by_cases h0:f<1∨f > 4
 ·rw [zbs,if_pos h0]
  refine zA (show ((120:Int) != 0)=true from rfl) ?_
  refine zt hl ?_
  exact fin _ (by simp [zgY,zjs,zbs,h0])
 have hc0:zbs f=0:=if_neg h0
 rw [hc0]
 cases h1:decide (p.view<0)
 rotate_left
 ·refine zA (zi (show ((0:Int) != 0)=false from rfl) h1) ?_
  refine zt hl ?_
  exact fin _ (by simp [zgY,zjs,h1])
 cases h2:decide (p.view > 9007199254740992)
 rotate_left
 ·refine zA (zi (show ((0:Int) != 0)=false from rfl) (zi h1 h2)) ?_
  refine zt hl ?_
  exact fin _ (by simp [zgY,zjs,h2])
 cases h3:decide (p.seq<1)
 rotate_left
 ·refine zA (zi (show ((0:Int) != 0)=false from rfl) (zi h1 (zi h2 h3))) ?_
  refine zt hl ?_
  exact fin _ (by simp [zgY,zjs,h3])
 cases h4:decide (p.seq > 9007199254740992)
 rotate_left
 ·refine zA (zi (show ((0:Int) != 0)=false from rfl) (zi h1 (zi h2 (zi h3 h4)))) ?_
  refine zt hl ?_
  exact fin _ (by simp [zgY,zjs,h4])
 have hok:zjs f p=true:=by simp [zjs,hc0,h1,h2,h3,h4]
 have hpf:zgY L G f p=(zgm L G p.batch&&zAd L G f p):=by rw [zgY,hok,Bool.true_and]
 refine zA (zi (show ((0:Int) != 0)=false from rfl) (zi h1 (zi h2 (zi h3 h4)))) ?_
 refine zyi (b:=p.batch) (hT.app _) (hG.app _) hp.ops hp.batch ?_
 cases h5:zgm L G p.batch
 ·refine zQ ?_
  refine zt hl ?_
  exact fin _ (by rw [hpf,h5];rfl)
 rw [h5,Bool.true_and] at hpf
 have hcb:=zui h5
 refine zQ ?_
 refine ztV (b := []) (by simp) hp.ops hp.batch ?_
 rw [List.nil_append,show zbw p.batch=zbN p.batch from if_pos hcb]
 refine zQ ?_
 refine ztQ (hT.app _) ?_
 refine zQ ?_
 refine zrr ?_
 cases h6:zev L (zbN p.batch) with
 | none=>
  refine gq50 ?_
  refine zt hl ?_
  exact fin _ (by simp only [hpf,zAd,h6])
 | some i=>
  simp only [zAd,h6] at hpf
  simp only [zlS]
  cases h7:(((i+1:Nat):Int)==p.dig)
  ·have h7':(((i+1:Nat):Int) != p.dig)=true:=by simpa using h7
   refine gq54 h7' ?_
   refine zt hl ?_
   exact fin _ (by rw [hpf,h7];rfl)
  have h7':(((i+1:Nat):Int) != p.dig)=false:=by simpa using h7
  have h7e:((i+1:Nat):Int)=p.dig:=by simpa using h7
  simp only [h7,Bool.true_and] at hpf
  rw [h7e] at h7' ⊢
  refine gq54 h7' ?_
  refine zjO (s:=⟨p.fkey,p.fdig⟩) (hT.app _) (hG.app _) hL hg ?_
  cases h8:zfy L G ⟨p.fkey,p.fdig⟩ (zbG f p.view) 2 p.view p.seq p.dig
  ·refine zQ ?_
   refine zt hl ?_
   exact fin _ (by rw [hpf,prepH,h8];rfl)
  rw [prepH,h8,Bool.true_and] at hpf
  have hw2:IntKind.i64.wrap (2*f)=2*f:=zab (by omega) (by omega)
  have hlen:(zO p.signs).length=p.signs.length:=List.length_map ..
  cases h9:((p.signs.length:Int)==2*f)
  ·have h9':((p.signs.length:Int) != 2*f)=true:=by simpa using h9
   refine zA (zi hw2 (zi hlen h9')) ?_
   refine zt hl ?_
   exact fin _ (by rw [hpf,h9];rfl)
  have h9':((p.signs.length:Int) != 2*f)=false:=by simpa using h9
  rw [h9,Bool.true_and] at hpf
  refine zA (zi hw2 (zi hlen h9')) ?_
  refine zl p.signs.length (fun k vs s => ∃ last:Int,vs = [.d (.int .i64 last),.d (.int .i64 k)]/\(∃ T,s = σ++(.box [.d (.int .i64 p.view),.d (.int .i64 p.seq),.d (.int .i64 p.dig),.d (.int .i64 p.fkey),.d (.int .i64 p.fdig),.d (.slice (zO p.signs)),.d (.slice (zaP p.batch))]::T)) ∧
   zgY L G f p=zrI L G f (zbG f p.view) p.view p.seq p.dig last (p.signs.drop k)) ⟨-1,rfl,⟨_,rfl⟩,by simpa using hpf⟩ ?_
  rintro k vs s hk ⟨last,rfl,⟨T,rfl⟩,hpf⟩
  by_cases hlt:k<p.signs.length
  ·have hd:decide ((k:Int)<(p.signs.length:Int))=true:=by simp;omega
   have hx:p.signs[k]? = some p.signs[k]:=by simp [hlt]
   have hgx:=zF (f:=zfi) hx
   obtain ⟨x,hxe⟩:∃ x,p.signs[k]=x:=⟨_,rfl⟩
   rw [hxe] at hx hgx
   have hsl:=hp.signs
   rw [zys hx] at hpf
   have hw:IntKind.i64.wrap ((k:Int)+1)=((k+1:Nat):Int):=by rw [zab (by omega) (by omega)];rfl
   cases g1:decide (x.key<=last)
   rotate_left
   ·refine zkZ (zi hd (zi hgx (zi hlen g1))) ?_
    refine zt hl ?_
    exact fin _ (by rw [hpf,g1];rfl)
   refine zkZ (zi hd (zi hgx (zi hlen g1))) ?_
   refine zkF ?_
   cases g2:decide (x.key≥zaR 3 f)
   rotate_left
   ·refine zA g2 ?_
    refine zt hl ?_
    exact fin _ (by rw [hpf,g1,g2];rfl)
   cases g3:(x.key==zbG f p.view)
   rotate_left
   ·refine zA (zi g2 g3) ?_
    refine zt hl ?_
    exact fin _ (by rw [hpf,g1,g2,g3];rfl)
   rw [g1,g2,g3] at hpf
   simp only [Bool.not_false,Bool.true_and] at hpf
   refine zA (zi g2 g3) ?_
   refine zjO (s:=x) (hT.app _) (hG.app _) hL hg ?_
   cases g4:zfy L G x x.key 3 p.view p.seq p.dig
   ·rw [g4] at hpf
    refine zQ ?_
    refine zt hl ?_
    exact fin _ hpf
   ·rw [g4,Bool.true_and] at hpf
    refine zA hw ?_
    exact zan.next hlt ⟨x.key,rfl,⟨_,rfl⟩,hpf⟩
  ·have hd:decide ((k:Int)<(p.signs.length:Int))=false:=by simp;omega
   rw [List.drop_eq_nil_of_le (by omega)] at hpf
   refine zA (zi hd hlen) ?_
   refine zt hl ?_
   exact fin _ hpf
end Go.Proofs.YtpgahkdjkanblaaGreat
