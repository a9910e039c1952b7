/- Contracts: runes and names. -/
import Derived.Test.YtdgcepphjnoalaaGreatCl1
set_option linter.all false
set_option maxRecDepth 100000
namespace Go.Proofs.YtdgcepphjnoalaaGreat
open Go.AW
variable {σ:List AObj} {K:KT}
theorem c_Runes {s:List UInt8}(hs:s.length<=1073741824)(hK:K (.d (.int .i64 (ziP s))) σ):zP zta [.d (.str s)] σ K:=by
 refine zeA e_op_Runes fun hl=>?_;simp only[zzs,iN,bT,bF,eN,zbb];refine zn s.length (fun pos vs s'=>∃cnt:Nat,vs=[.d (.int .i64 cnt)]/\s'=σ++[.iter s pos]/\pos<=s.length/\cnt<=pos/\zfk (s.length+1) s=(zfk (s.length+1) (s.drop pos)).map (· + cnt)) ⟨0,rfl,rfl,by omega,by omega,by simp⟩ ?_;rintro pos vs s' hp ⟨cnt,rfl,rfl,hps,hc,hr⟩;simp only[zJ,zrT,zB,List.getElem?_cons_zero];split
 ·rename_i hlt;have hd:s.drop pos≠[]:=by intro e;have:=congrArg List.length e;simp at this;omega
  have hw:=goDec_width _ hd;have hw2:=zmG (s.drop pos);simp only[decode_eq s pos hlt];have hcount:zfk (s.length+1) (s.drop pos)=if (zmm (s.drop pos)).2=0∨badF (zmm (s.drop pos)).1=true then none else(zfk s.length ((s.drop pos).drop (zmm (s.drop pos)).2)).map (· + 1):=by
   rw[zfk,if_neg hd]
  (repeat'(first|(refine gq4 ?_;try with_reducible exact True.intro)|(refine zW (fun h=>?_) (fun h=>?_)<;>(try rw[h]))|((with_reducible refine And.intro ?_ ?_);focus(first|omega|rfl|decide))));all_goals first
   | (
    refine zu hl ?_
    have hb:badF (zrZ (s.drop pos)).1=true:=by
     simp only[badF];(try simp only[decide_eq_true_eq,decide_eq_false_iff_not,beq_iff_eq,beq_eq_false_iff_ne,bne_iff_ne,ne_eq,Bool.not_eq_true',Bool.not_eq_false',bne_eq_false_iff_eq]at *);omega
    rw[goDec_bad]at hb
    have:zfk (s.length+1) (s.drop pos)=none:=by rw[hcount,if_pos (by simpa using hb)]
    have h0:ziP s=0:=by simp[ziP,hr,this]
    rw[h0]at hK;exact hK)
   | skip
  all_goals
   have hb:badF (zrZ (s.drop pos)).1=false:=by
    simp only[badF];(try simp only[decide_eq_true_eq,decide_eq_false_iff_not,beq_iff_eq,beq_eq_false_iff_ne,bne_iff_ne,ne_eq,Bool.not_eq_true',Bool.not_eq_false',bne_eq_false_iff_eq]at *);omega
   obtain⟨g1,g2,g3⟩:=goDec_good hb
   rw[zaW (by omega) (by omega)]
   refine zaK.to (pos+(zrZ (s.drop pos)).2) (by omega) (by simp at hw;omega) ⟨cnt+1,rfl,rfl,by simp at hw;omega,by omega,?_⟩
   rw[hr,hcount,if_neg (by simp[g2,g3]),g1,List.drop_drop,zrs s.length (s.length+1) _ (by simp at *;omega) (by simp;omega)]
   cases zfk (s.length+1) (List.drop (pos+(zmm (s.drop pos)).2) s)<;>simp
   omega
 ·rename_i hlt;have e:s.drop pos=[]:=List.drop_eq_nil_of_le (by omega);have hcnt:zfk (s.length+1) s=some cnt:=by rw[hr,e];simp[zfk]
  (refine gq2 @zy ?_;try with_reducible exact True.intro);refine zW (fun h=>?_) (fun h=>?_);all_goals(try(refine gq2 (zd h @zy) ?_;try with_reducible exact True.intro))
  ·refine zu hl ?_;have h0:ziP s=0:=by simp[ziP,hcnt];simp at h;omega
   rw[h0]at hK;exact hK
  ·refine zu hl ?_;have h0:ziP s=cnt:=by simp[ziP,hcnt];simp at h;omega
   rw[h0]at hK;exact hK
theorem c_Name {s:List UInt8}(hs:s.length<=1073741824)(hK:K (.d (.bool (zev s))) σ):zP zox [.d (.str s)] σ K:=by
 refine zeA e_op_Name fun hl=>?_;(simp only[S_op_Name];refine gq2 @zy ?_;try with_reducible exact True.intro);refine c_Runes hs ?_;(refine gq2 @zy ?_;try with_reducible exact True.intro);refine zu hl ?_;have:decide ((ziP s:Int)>0)=zev s:=by simp[zev]
 rw[this];exact hK
variable {σ:List AObj} {K:KT}
theorem c_rsize {c:Nat}(hK:K (.d (.int .i64 (znY c))) σ):zP zsX [.d (.int .u8 c)] σ K:=by
 refine zeA e_r06_size fun hl=>?_;simp only[zzo,iN,bT,bF,eN];(repeat'(first|(refine gq4 ?_;try with_reducible exact True.intro)|(refine zW (fun h=>?_) (fun h=>?_)<;>(try rw[h]))|((with_reducible refine And.intro ?_ ?_);focus(first|omega|rfl|decide))));all_goals refine zu hl ?_
 all_goals(try simp only[decide_eq_true_eq,decide_eq_false_iff_not,beq_iff_eq,beq_eq_false_iff_ne,bne_iff_ne,ne_eq,Bool.not_eq_true',Bool.not_eq_false',bne_eq_false_iff_eq]at *)
 all_goals
  simp only[zcm,dmT,dm,dm1]
  have e:∀z:Nat,znY c=z->K (.d (.int .i64 z)) σ:=fun z hz=>by rw[← hz];exact hK
  first
  | exact e 0 (by unfold znY;rw[if_neg (by omega),if_neg (by omega),if_neg (by omega),if_neg (by omega)])
  | exact e 1 (by unfold znY;rw[if_pos (by omega)])
  | exact e 2 (by unfold znY;rw[if_neg (by omega),if_pos (by omega)])
  | exact e 3 (by unfold znY;rw[if_neg (by omega),if_neg (by omega),if_pos (by omega)])
  | exact e 4 (by unfold znY;rw[if_neg (by omega),if_neg (by omega),if_neg (by omega),if_pos (by omega)])
theorem mask_eq (z:Nat)(hz:z=2∨z=3∨z=4)(b:Nat)(hb:b<256) :
  IntKind.i64.wrap ↑(BitVec.ofInt IntKind.i64.bits (b:Int) &&& BitVec.ofInt IntKind.i64.bits (IntKind.i64.wrap (IntKind.i64.wrap (1*2 ^ (min (IntKind.i64.wrap (7-(z:Int))).toNat IntKind.i64.bits))-1))).toNat=((b % 2 ^ (7-z):Nat):Int):=by
 have h0:(BitVec.ofInt 64 (b:Int)).toNat=b:=by simp;omega
 have key:∀m:Nat,(m=3∨m=4∨m=5)->IntKind.i64.wrap ↑(BitVec.ofInt 64 (b:Int) &&& BitVec.ofInt 64 ((2:Int) ^ m-1)).toNat=((b % 2 ^ m:Nat):Int):=fun m hm=>by
  have:(BitVec.ofInt 64 (b:Int) &&& BitVec.ofInt 64 ((2:Int) ^ m-1)).toNat=b % 2 ^ m:=by
   rw[BitVec.toNat_and,h0];rcases hm with rfl|rfl|rfl
   ·exact Nat.and_two_pow_sub_one_eq_mod b 3
   ·exact Nat.and_two_pow_sub_one_eq_mod b 4
   ·exact Nat.and_two_pow_sub_one_eq_mod b 5
  rw[this];have:b % 2 ^ m<256:=Nat.lt_of_le_of_lt (Nat.mod_le _ _) hb;exact zaW (by omega) (by omega)
 rcases hz with rfl|rfl|rfl
 ·exact key 5 (by omega)
 ·exact key 4 (by omega)
 ·exact key 3 (by omega)
theorem partF_lt (s:List UInt8)(z:Nat)(hz:2<=z):∀i,zis s z i<32*64 ^ i
 | 0=>by
  simp only[zis];have:2 ^ (7-z)<=2 ^ 5:=Nat.pow_le_pow_right (by omega) (by omega);have:=Nat.mod_lt (at8 s 0) (y:=2 ^ (7-z)) (Nat.pos_of_ne_zero (by simp));omega
 | i+1=>by
  simp only[zis,Nat.pow_succ];have:=partF_lt s z hz i;omega
theorem at8_some {s:List UInt8}{i:Nat}(h:i<s.length):s[i]? = some s[i]/\(s[i].toNat:Int)=(at8 s i:Int):=by
 have:s[i]? = some s[i]:=List.getElem?_eq_getElem h;exact⟨this,by simp[at8,this]⟩
theorem gq6 {A P Q:Prop}(a:A)(h:Q)(e:A->P=Q:=by intro a;simp -dsimp only[↓zlG,↓zbS,↓zee,↓zlH,↓zly,↓zlw,↓zlz,↓zlx,↓zej,↓zef,↓zek,↓zeg,↓zlA,↓zeb,↓zel,↓zeh,↓zem,↓zei,↓zlv,↓zlE,↓zea,↓zep,↓zln,↓zlm,↓zlt,iN,bT,bF,eN,↓zes,↓unC,↓zaB,↓zah,↓zai,↓zav,↓zaX,↓zag,↓zgA,↓zaw,↓zbf,↓zad,↓ze,↓zj,↓zaR,↓zc,↓zaV,↓zN,↓zbT,↓zcl,↓zf,↓zF,↓zp,↓zM,↓zaA,↓zgH,↓zhI,↓zbc,↓zby,↓zcf,↓zcA,↓zdo,↓zJ,↓zbb,↓zak,↓zO,↓zaU,zhr,zdU,zdB,unA,zgx,bnd,ziS,zaO,zL,zic,dm,dm1,zH,zaF,zjW,zjV,keepO,Q0,Q1,Q2,Q3,Q4,Q5,zba,zA,zB,zY,zab,Q6,Q7,Q8,Q9,Q10,Q11,Q12,Q13,Q14,Nat.reduceAdd,Q15,Int.reduceToNat,Q16,Q17,Q18,Q19,Q20,reduceIte,Q21,Q22,zy,rep,zaq,zhW,toD,zaC,Q23,Q24,Q25,Q26,Q27,Q28,Nat.reduceLeDiff,Q29,Nat.reduceSub,Q30,Q31,Q32,sc,Q33,Q34,Q35,a];rfl):P:=(e a).mpr h
theorem c_rune1 {s:List UInt8}(hs:s.length<=1073741824)(hne:s≠[])(hK:K (.tup [.d (.int .i64 (zmm s).1),.d (.int .i64 (zmm s).2)]) σ):zP zqW [.d (.str s)] σ K:=by
 refine zeA e_r06_rune1 fun hl=>?_;have hpos:0<s.length:=List.length_pos_iff.2 hne;obtain⟨g1,g2⟩:=at8_some hpos;have hb0:=zxa s 0;(simp only[zxq];refine gq2 (zd @zy (zd g1 g2)) ?_;try with_reducible exact True.intro);refine⟨by omega,c_rsize ?_⟩;have hz4:znY (at8 s 0)=0∨znY (at8 s 0)=1∨znY (at8 s 0)=2∨znY (at8 s 0)=3∨znY (at8 s 0)=4:=by
  unfold znY;split<;>(try split)<;>(try split)<;>(try split)<;>omega
 obtain⟨z,hz⟩:∃z,z=znY (at8 s 0):=⟨_,rfl⟩;rw[← hz]at hz4 ⊢;have bad:z=0∨z>s.length->K (.tup [.d (.int .i64 0),.d (.int .i64 0)]) σ:=fun h=>by
  have:zmm s=(0,0):=by simp only[zmm,← hz];rw[if_pos h]
  rw[this]at hK;exact hK
 (refine gq2 @zy ?_;try with_reducible exact True.intro);refine zW (fun h=>?_) (fun h=>?_);all_goals(try(refine gq2 (zd h (zd @zy (zd g1 g2))) ?_;try with_reducible exact True.intro))
 ·refine zu hl ?_;exact bad (.inl (by(try simp only[decide_eq_true_eq,decide_eq_false_iff_not,beq_iff_eq,beq_eq_false_iff_ne,bne_iff_ne,ne_eq,Bool.not_eq_true',Bool.not_eq_false',bne_eq_false_iff_eq]at *);omega))
 have hz0:z≠0:=by(try simp only[decide_eq_true_eq,decide_eq_false_iff_not,beq_iff_eq,beq_eq_false_iff_ne,bne_iff_ne,ne_eq,Bool.not_eq_true',Bool.not_eq_false',bne_eq_false_iff_eq]at *);omega
 refine zW (fun h=>?_) (fun h=>?_);all_goals(try(refine gq2 (zd h (zd @zy (zd g1 g2))) ?_;try with_reducible exact True.intro))
 ·refine zu hl ?_;exact bad (.inr (by(try simp only[decide_eq_true_eq,decide_eq_false_iff_not,beq_iff_eq,beq_eq_false_iff_ne,bne_iff_ne,ne_eq,Bool.not_eq_true',Bool.not_eq_false',bne_eq_false_iff_eq]at *);omega))
 have hzl:z<=s.length:=by(try simp only[decide_eq_true_eq,decide_eq_false_iff_not,beq_iff_eq,beq_eq_false_iff_ne,bne_iff_ne,ne_eq,Bool.not_eq_true',Bool.not_eq_false',bne_eq_false_iff_eq]at *);omega
 have hnb:¬(z=0∨z>s.length):=by omega
 refine zW (fun h=>?_) (fun h=>?_);all_goals(try(refine gq2 (zd h (zd @zy (zd g1 g2))) ?_;try with_reducible exact True.intro))
 ·have h1:z=1:=by(try simp only[decide_eq_true_eq,decide_eq_false_iff_not,beq_iff_eq,beq_eq_false_iff_ne,bne_iff_ne,ne_eq,Bool.not_eq_true',Bool.not_eq_false',bne_eq_false_iff_eq]at *);omega
  refine⟨by omega,?_⟩;refine zu hl ?_;have:zmm s=(at8 s 0,1):=by simp only[zmm,← hz];rw[if_neg hnb,if_pos h1]
  rw[this]at hK;simp only[zcm,dmT,dm,dm1,List.map_cons,List.map_nil];rw[zaW (by omega) (by omega)];exact hK
 have hz2:z=2∨z=3∨z=4:=by(try simp only[decide_eq_true_eq,decide_eq_false_iff_not,beq_iff_eq,beq_eq_false_iff_ne,bne_iff_ne,ne_eq,Bool.not_eq_true',Bool.not_eq_false',bne_eq_false_iff_eq]at *);omega
 have h1:¬z=1:=by omega
 refine⟨by omega,?_⟩;have hw:IntKind.i64.wrap (at8 s 0:Int)=(at8 s 0:Int):=zaW (by omega) (by omega);have hsh:(0:Int)<=IntKind.i64.wrap (7-(z:Int)):=by rw[zaW (by omega) (by omega)];omega
 refine⟨hsh,?_⟩;rw[hw,mask_eq z hz2 _ hb0];refine zn z (fun k vs s'=>s'=σ/\k+1<=z/\vs=[.d (.int .i64 (zis s z k)),.d (.int .i64 (k+1:Nat))]/\∀i,i<k+1→1<=i->ztC s i=true) ⟨rfl,by omega,rfl,fun i h1 h2=>by omega⟩ ?_;rintro k vs s' hk ⟨rfl,hk1,rfl,hcont⟩;have hpl:=partF_lt s z (by omega) k;have hpow:64 ^ k<=64 ^ 3:=Nat.pow_le_pow_right (by omega) (by omega);(refine gq2 @zy ?_;try with_reducible exact True.intro);have fail:(¬ ∀i,i<z→1<=i->ztC s i=true)->K (.tup [.d (.int .i64 0),.d (.int .i64 0)]) s':=fun h=>by
  have:zmm s=(0,0):=by simp only[zmm,← hz];rw[if_neg hnb,if_neg h1,if_neg h]
  rw[this]at hK;exact hK
 refine zW (fun h=>?_) (fun h=>?_)
 ·have hkz:k+1<z:=by(try simp only[decide_eq_true_eq,decide_eq_false_iff_not,beq_iff_eq,beq_eq_false_iff_ne,bne_iff_ne,ne_eq,Bool.not_eq_true',Bool.not_eq_false',bne_eq_false_iff_eq]at *);omega
  obtain⟨f1,f2⟩:=at8_some (s:=s) (i:=k+1) (by omega);have hb:=zxa s (k+1);repeat' first
   | (refine gq6 (zd f1 f2) ?_;try with_reducible exact True.intro)
   | (refine zW (fun h=>?_) (fun h=>?_)<;>(try rw[h]))
   | ((with_reducible refine And.intro ?_ ?_);focus(first|omega|rfl|decide))
  ·refine zu hl ?_;exact fail fun h'=>by
    have:=h' (k+1) hkz (by omega);simp only[ztC]at this;(try simp only[decide_eq_true_eq,decide_eq_false_iff_not,beq_iff_eq,beq_eq_false_iff_ne,bne_iff_ne,ne_eq,Bool.not_eq_true',Bool.not_eq_false',bne_eq_false_iff_eq]at *);omega
  ·refine zu hl ?_;exact fail fun h'=>by
    have:=h' (k+1) hkz (by omega);simp only[ztC]at this;(try simp only[decide_eq_true_eq,decide_eq_false_iff_not,beq_iff_eq,beq_eq_false_iff_ne,bne_iff_ne,ne_eq,Bool.not_eq_true',Bool.not_eq_false',bne_eq_false_iff_eq]at *);omega
  have hv:IntKind.i64.wrap (IntKind.i64.wrap (↑(zis s z k)*64)+(IntKind.i64.wrap ↑(at8 s (k+1))).tmod 64)=((zis s z (k+1):Nat):Int):=by
   have hp2:zis s z k<32*64 ^ 3:=by omega
   have e1:IntKind.i64.wrap ((zis s z k:Int)*64)=(zis s z k:Int)*64:=zaW (by omega) (by omega);have e2:IntKind.i64.wrap (at8 s (k+1):Int)=(at8 s (k+1):Int):=zaW (by omega) (by omega);have e3:((at8 s (k+1):Int)).tmod 64=((at8 s (k+1) % 64:Nat):Int):=by rw[Int.tmod_eq_emod_of_nonneg (by omega)];rfl
   rw[e1,e2,e3,zaW (by omega) (by omega)];simp only[zis];omega
  have hw2:IntKind.i64.wrap (((k+1:Nat):Int)+1)=((k+1+1:Nat):Int):=by rw[zaW (by omega) (by omega)];rfl
  rw[hv,hw2];refine zaK.next (by omega) ⟨rfl,by omega,rfl,fun i hi1 hi2=>?_⟩;by_cases hi:i<k+1
  ·exact hcont i hi hi2
  ·obtain rfl:i=k+1:=by omega
   simp only[ztC];(try simp only[decide_eq_true_eq,decide_eq_false_iff_not,beq_iff_eq,beq_eq_false_iff_ne,bne_iff_ne,ne_eq,Bool.not_eq_true',Bool.not_eq_false',bne_eq_false_iff_eq]at *);omega
 ·have hkz:k+1=z:=by(try simp only[decide_eq_true_eq,decide_eq_false_iff_not,beq_iff_eq,beq_eq_false_iff_ne,bne_iff_ne,ne_eq,Bool.not_eq_true',Bool.not_eq_false',bne_eq_false_iff_eq]at *);omega
  have hall:∀i,i<z→1<=i->ztC s i=true:=by rw[← hkz];exact hcont
  have hdec:zmm s=if zis s z k<zhh z∨zis s z k>1114111∨(55296<=zis s z k/\zis s z k<57344)then(0,0)else(zis s z k,z):=by
   have e:z-1=k:=by omega
   simp only[zmm,← hz];rw[if_neg hnb,if_neg h1,if_pos hall,e]
  have hget:∃l:Nat,l=zhh z/\([[D.int .i64 0],[D.int .i64 0],[D.int .i64 128],[D.int .i64 2048],[D.int .i64 65536]]:List (List D))[z]? = some [D.int .i64 l]:=by
   rcases hz2 with rfl|rfl|rfl<;>exact⟨_,rfl,rfl⟩
  obtain⟨l,hl1,hl2⟩:=hget;rw[← hl1]at hdec;repeat' first
   | (refine gq6 hl2 ?_;try with_reducible exact True.intro)
   | (refine zW (fun h=>?_) (fun h=>?_)<;>(try rw[h]))
   | ((with_reducible refine And.intro ?_ ?_);focus(first|omega|rfl|decide))
  all_goals refine zu hl ?_
  all_goals(try simp only[decide_eq_true_eq,decide_eq_false_iff_not,beq_iff_eq,beq_eq_false_iff_ne,bne_iff_ne,ne_eq,Bool.not_eq_true',Bool.not_eq_false',bne_eq_false_iff_eq]at *)
  all_goals simp only[zcm,dmT,dm,dm1,List.map_cons,List.map_nil]
  all_goals first
   | (rw[if_pos (by omega)]at hdec;rw[hdec]at hK;exact hK)
   | (rw[if_neg (by omega)]at hdec;rw[hdec]at hK;exact hK)
theorem badF_ref (v:Nat):badF v=decide (v<33∨127<=v/\v<160∨v=47∨v=65533):=by
 simp only[badF];congr 1;apply propext;omega
theorem c_rRunes {s:List UInt8}(hs:s.length<=1073741824)(hK:K (.d (.int .i64 (ziP s))) σ):zP zqX [.d (.str s)] σ K:=by
 refine zeA e_r06_Runes fun hl=>?_;simp only[zxr,iN,bT,bF,eN];refine zn s.length (fun pos vs s'=>∃(cnt:Nat) (t:List UInt8),t.length+pos=s.length/\vs=[.d (.str t),.d (.int .i64 cnt)]/\s'=σ/\cnt<=pos/\cnt<=16/\zfk (s.length+1) s=(zfk (s.length+1) t).map (· + cnt)) ⟨0,s,rfl,rfl,rfl,by omega,by omega,by simp⟩ ?_;rintro pos vs s' hp ⟨cnt,t,hlen,rfl,rfl,hc,hc16,hr⟩;(refine gq2 @zy ?_;try with_reducible exact True.intro);refine zW (fun h=>?_) (fun h=>?_)
 ·have ht:t≠[]:=by rintro rfl;simp at h
  have htl:0<t.length:=List.length_pos_iff.2 ht;have hw2:=zmG t;have hcount:zfk (s.length+1) t=if (zmm t).2=0∨badF (zmm t).1=true then none else(zfk s.length (t.drop (zmm t).2)).map (· + 1):=by
   rw[zfk,if_neg ht]
  refine c_rune1 (by omega) ht ?_;have stop:(zmm t).2=0∨badF (zmm t).1=true∨cnt=16->K (.d (.int .i64 0)) s':=fun hb=>by
   have h0:ziP s=0:=by
    by_cases hq:(zmm t).2=0∨badF (zmm t).1=true
    ·simp[ziP,hr,hcount,if_pos hq]
    ·have hcn:cnt=16:=by
      rcases hb with hb|hb|hb
      ·exact absurd (.inl hb) hq
      ·exact absurd (.inr hb) hq
      ·exact hb
     simp only[ziP,hr,hcount,if_neg hq];cases zfk s.length (t.drop (zmm t).2)with
     | none=>simp
     | some m=>simp;omega
   rw[h0]at hK;exact hK
  (repeat'(first|(refine gq4 ?_;try with_reducible exact True.intro)|(refine zW (fun h=>?_) (fun h=>?_)<;>(try rw[h]))|((with_reducible refine And.intro ?_ ?_);focus(first|omega|rfl|decide))));all_goals first
   | (
    refine zu hl ?_
    refine stop ?_
    rw[badF_ref,decide_eq_true_eq]
    (try simp only[decide_eq_true_eq,decide_eq_false_iff_not,beq_iff_eq,beq_eq_false_iff_ne,bne_iff_ne,ne_eq,Bool.not_eq_true',Bool.not_eq_false',bne_eq_false_iff_eq]at *)
    omega)
   | skip
  all_goals
   have hb:badF (zmm t).1=false:=by
    rw[badF_ref,decide_eq_false_iff_not];(try simp only[decide_eq_true_eq,decide_eq_false_iff_not,beq_iff_eq,beq_eq_false_iff_ne,bne_iff_ne,ne_eq,Bool.not_eq_true',Bool.not_eq_false',bne_eq_false_iff_eq]at *);omega
   have h2:(zmm t).2≠0:=by(try simp only[decide_eq_true_eq,decide_eq_false_iff_not,beq_iff_eq,beq_eq_false_iff_ne,bne_iff_ne,ne_eq,Bool.not_eq_true',Bool.not_eq_false',bne_eq_false_iff_eq]at *);omega
   have hcl:cnt<16:=by(try simp only[decide_eq_true_eq,decide_eq_false_iff_not,beq_iff_eq,beq_eq_false_iff_ne,bne_iff_ne,ne_eq,Bool.not_eq_true',Bool.not_eq_false',bne_eq_false_iff_eq]at *);omega
   rw[zaW (by omega) (by omega)]
   refine zaK.to (pos+(zmm t).2) (by omega) (by omega) ⟨cnt+1,t.drop (zmm t).2,by simp;omega,?_,rfl,by omega,by omega,?_⟩
   ·simp
   ·rw[hr,hcount,if_neg (by simp[h2,hb]),zrs s.length (s.length+1) _ (by simp;omega) (by simp;omega)]
    cases zfk (s.length+1) (t.drop (zmm t).2)<;>simp
    omega
 ·refine zu hl ?_;have ht:t=[]:=by
   have:¬0<t.length:=by(try simp only[decide_eq_true_eq,decide_eq_false_iff_not,beq_iff_eq,beq_eq_false_iff_ne,bne_iff_ne,ne_eq,Bool.not_eq_true',Bool.not_eq_false',bne_eq_false_iff_eq]at *);omega
   exact List.length_eq_zero_iff.1 (by omega)
  have h0:ziP s=cnt:=by
   simp only[ziP,hr,ht];simp[zfk];omega
  rw[h0]at hK;exact hK
theorem c_rName {s:List UInt8}(hs:s.length<=1073741824)(hK:K (.d (.bool (zev s))) σ):zP zmt [.d (.str s)] σ K:=by
 refine zeA e_r06_Name fun hl=>?_;simp only[zzq,iN,bT,bF,eN];(refine gq2 @zy ?_;try with_reducible exact True.intro);refine c_rRunes hs ?_;(refine gq2 @zy ?_;try with_reducible exact True.intro);refine zu hl ?_;have:decide ((ziP s:Int)>0)=zev s:=by simp[zev]
 rw[this];exact hK
variable {σ:List AObj} {K:KT}
theorem c_Check_1 {r:List UInt8}(hK:K (.d (.bool (decide (r.length>64)))) σ):zP zls [.d (.slice (bcs r))] σ K:=by
 refine zeA e_op_Check_1 fun hl=>?_;simp only[zuq,iN,bT,bF,eN];(refine gq2 @zy ?_;try with_reducible exact True.intro);refine zu hl ?_;have:decide (((bcs r).length:Int)>64)=decide (r.length>64):=by simp[bcs];omega
 rw[this];exact hK
theorem gq7 {A P Q:Prop}(a:A)(h:Q)(e:A->P=Q:=by intro a;simp -dsimp only[↓zlG,↓zbS,↓zee,↓zlH,↓zly,↓zlw,↓zlz,↓zlx,↓zej,↓zef,↓zek,↓zeg,↓zlA,↓zeb,↓zel,↓zeh,↓zem,↓zei,↓zlv,↓zlE,↓zea,↓zep,↓zln,↓zlm,↓zlt,iN,bT,bF,eN,↓zes,↓unC,↓zaB,↓zah,↓zai,↓zav,↓zaX,↓zag,↓zgA,↓zaw,↓zbf,↓zad,↓ze,↓zj,↓zaR,↓zc,↓zaV,↓zN,↓zbT,↓zcl,↓zf,↓zF,↓zp,↓zM,↓zaA,↓zgH,↓zhI,↓zbc,↓zby,↓zcf,↓zcA,↓zdo,↓zJ,↓zbb,↓zak,↓zO,↓zaU,zhr,zdU,zdB,unA,zgx,bnd,ziS,zaO,zL,zic,dm,dm1,zH,zaF,zjW,zjV,keepO,Q0,Q1,Q2,Q3,Q4,Q5,zba,zA,zB,zY,zab,Q6,Q7,Q8,Q9,Q10,Q11,Q12,Q13,Q14,Nat.reduceAdd,Q15,Int.reduceToNat,Q16,Q17,Q18,Q19,Q20,reduceIte,Q21,Q22,dmT,zcm,a];rfl):P:=(e a).mpr h
theorem zoO {a:List (List UInt8)}(ha:a.length<=1073741824)(hK:K (.d (.bool (a.any fun r=>decide (r.length>64)))) σ) :
  zP zbk [.d (.slice (zdT a)),.fn (.func zls) [] []] σ K:=by
 refine zeq zfd fun hl=>?_;simp only[zcs,iN,bT,bF,eN];(refine gq2 @zy ?_;try with_reducible exact True.intro);refine zeq zfC fun hl=>?_;simp only[zcT,iN,bT,bF,eN];(refine gq2 @zy ?_;try with_reducible exact True.intro);refine zn a.length (fun k vs s=>vs=[.d (.int .i64 k)]/\s=σ/\∀r∈a.take k,¬r.length>64) ⟨rfl,rfl,by simp⟩ ?_;rintro k vs s hk ⟨rfl,rfl,htk⟩;(refine gq2 @zy ?_;try with_reducible exact True.intro);refine zW (fun h=>?_) (fun h=>?_)
 ·have hka:k<a.length:=by(try simp only[decide_eq_true_eq,decide_eq_false_iff_not,beq_iff_eq,beq_eq_false_iff_ne,bne_iff_ne,ne_eq,Bool.not_eq_true',Bool.not_eq_false',bne_eq_false_iff_eq]at *);omega
  have hx:a[k]? = some a[k]:=by simp[hka]
  (refine gq2 (zd (zgC hx) @zy) ?_;try with_reducible exact True.intro);refine And.intro (by omega) (c_Check_1 ?_);(refine gq2 @zy ?_;try with_reducible exact True.intro);refine zW (fun h=>?_) (fun h=>?_)
  ·refine zu hl ?_;(refine gq7 @zy ?_;try with_reducible exact True.intro);refine zu hl ?_;have e1:decide ((k:Int)≥0)=true:=by simp
   have e2:(a.any fun r=>decide (r.length>64))=true:=by
    rw[List.any_eq_true];exact⟨a[k],List.getElem_mem _,h⟩
   rw[e2]at hK;simp only[zcm,dmT,dm,dm1];rw[e1];exact hK
  ·(refine gq2 @zy ?_;try with_reducible exact True.intro);refine zaK.next hka ⟨?_,rfl,fun r hr=>?_⟩
   ·rw[zaW (by omega) (by omega)];rfl
   ·rw[List.take_add_one,hx]at hr;rcases List.mem_append.1 hr with hr|hr
    ·exact htk r hr
    ·have:r=a[k]:=by simpa using hr
     subst this;simpa using h
 ·refine zu hl ?_;(refine gq7 @zy ?_;try with_reducible exact True.intro);refine zu hl ?_;have e2:(a.any fun r=>decide (r.length>64))=false:=by
   rw[List.any_eq_false];intro r hr;have hk':k=a.length:=by(try simp only[decide_eq_true_eq,decide_eq_false_iff_not,beq_iff_eq,beq_eq_false_iff_ne,bne_iff_ne,ne_eq,Bool.not_eq_true',Bool.not_eq_false',bne_eq_false_iff_eq]at *);omega
   rw[hk',List.take_length]at htk;simpa using htk r hr
  rw[e2]at hK;exact hK
theorem gq8 {P Q:Prop}(h:Q)(e:P=Q:=by simp -dsimp only[↓zlG,↓zbS,↓zee,↓zlH,↓zly,↓zlw,↓zlz,↓zlx,↓zej,↓zef,↓zek,↓zeg,↓zlA,↓zeb,↓zel,↓zeh,↓zem,↓zei,↓zlv,↓zlE,↓zea,↓zep,↓zln,↓zlm,↓zlt,iN,bT,bF,eN,↓zes,↓unC,↓zaB,↓zah,↓zai,↓zav,↓zaX,↓zag,↓zgA,↓zaw,↓zbf,↓zad,↓ze,↓zj,↓zaR,↓zc,↓zaV,↓zN,↓zbT,↓zcl,↓zf,↓zF,↓zp,↓zM,↓zaA,↓zgH,↓zhI,↓zbc,↓zby,↓zcf,↓zcA,↓zdo,↓zJ,↓zbb,↓zak,↓zO,↓zaU,zhr,zdU,zdB,unA,zgx,bnd,ziS,zaO,zL,zic,dm,dm1,zH,zaF,zjW,zjV,keepO,Q0,Q1,Q2,Q3,Q4,Q5,zba,zA,zB,zY,zab,Q6,Q7,Q8,Q9,Q10,Q11,Q12,Q13,Q14,Nat.reduceAdd,Q15,Int.reduceToNat,Q16,Q17,Q18,Q19,Q20,reduceIte,Q21,Q22,zy,rep,zaq,zhW,toD,zaC,Q23,Q24,Q25,Q26,Q27,Q28,Nat.reduceLeDiff,Q29,Nat.reduceSub,Q30,Q31,Q32,sc,Q33,Q34,Q35,Bool.and_false,Bool.and_self,Bool.false_and,Bool.not_false,Bool.not_true,Bool.true_and,Int.toNat_natCast,Int.toNat_zero,List.drop_zero,List.length_map,List.length_nil,List.nil_append,List.take_length,Nat.sub_zero,Nat.zero_add,Option.isSome_none,Option.isSome_some,Option.map_none,Option.map_some,zam,beq_self_eq_true,bne_self_eq_false,zck,zch,opA];rfl):P:=e.mpr h
theorem zwY {o:TOp}(ht:o.topic.length<=1073741824)(hg:o.group.length<=1073741824)(hr:o.recs.length<=1073741824)(hK:K (.d (.int .i64 (zaN zev o))) σ):zP zmu [opA o] σ K:=by
 refine zeA e_op_Check fun hl=>?_;simp only[zzu,iN,bT,bF,eN,zl2,opA];(refine gq4 ?_;try with_reducible exact True.intro);refine c_only (o:=o) ?_;have honly:(zor o).recs.length<=1073741824:=by unfold zor noOp;split<;>(try split)<;>(try split)<;>(try split)<;>simp<;>omega
 (refine gq8 ?_;try with_reducible exact True.intro);repeat' first
  | (refine gq4 ?_;try with_reducible exact True.intro)
  | refine c_Same (a:=o) (b:=zor o) hr honly ?_
  | refine c_Name ht ?_
  | refine c_Name hg ?_
  | refine zoO hr ?_
  | (refine zW (fun h=>?_) (fun h=>?_)<;>(try rw[h]))
  | ((with_reducible refine And.intro ?_ ?_);focus(first|omega|rfl|decide))
 all_goals refine zu hl ?_
 all_goals(try simp only[decide_eq_true_eq,decide_eq_false_iff_not,beq_iff_eq,beq_eq_false_iff_ne,bne_iff_ne,ne_eq,Bool.not_eq_true',Bool.not_eq_false',bne_eq_false_iff_eq]at *)
 all_goals
  simp only[zcm,dmT,dm,dm1]
  have e:∀z:Int,zaN zev o=z->K (.d (.int .i64 z)) σ:=fun z hz=>by rw[← hz];exact hK
  clear hK
  apply e
  first
  | grind [zaN]
  | skip
variable {σ:List AObj} {K:KT}
def zoE (k:Int):Bool:=decide (1<=k/\k<=4)
def zsd (k:Int):Bool:=decide (k=3)
def fOff (k:Int):Bool:=decide (k=3∨k=4)
def zAg (k:Int):Bool:=decide (k=2)
theorem c_fields {k:Int}(hK:K (.tup [.d (.bool (zoE k)),.d (.bool (zsd k)),.d (.bool (fOff k)),.d (.bool (zAg k))]) σ):zP zlr [.d (.int .i64 k)] σ K:=by
 refine zeA e_r06_fields fun hl=>?_;simp only[zuo,iN,bT,bF,eN];(repeat'(first|(refine gq4 ?_;try with_reducible exact True.intro)|(refine zW (fun h=>?_) (fun h=>?_)<;>(try rw[h]))|((with_reducible refine And.intro ?_ ?_);focus(first|omega|rfl|decide))));all_goals refine zu hl ?_
 all_goals(try simp only[decide_eq_true_eq,decide_eq_false_iff_not,beq_iff_eq,beq_eq_false_iff_ne,bne_iff_ne,ne_eq,Bool.not_eq_true',Bool.not_eq_false',bne_eq_false_iff_eq]at *)
 all_goals
  simp only[zcm,dmT,dm,dm1,List.map_cons,List.map_nil]
  have e:∀a b c d:Bool,zoE k=a->zsd k=b->fOff k=c->zAg k=d->K (.tup [.d (.bool a),.d (.bool b),.d (.bool c),.d (.bool d)]) σ:=fun a b c d h1 h2 h3 h4=>by rw[← h1,← h2,← h3,← h4];exact hK
  clear hK
  apply e<;>simp[zoE,zsd,fOff,zAg]<;>omega
theorem onlyF_iff (o:TOp):o=zor o↔(zoE o.kind=false->o.topic=[])/\(zsd o.kind=false->o.group=[])/\(fOff o.kind=false->o.offset=0)/\(zAg o.kind=false->o.recs=[]):=by
 obtain⟨k,t,g,f,r⟩:=o;simp only[zor,noOp,zoE,zsd,fOff,zAg,decide_eq_false_iff_not];by_cases h1:k=1
 ·subst h1;simp
 by_cases h2:k=2
 ·subst h2;simp
 by_cases h3:k=3
 ·subst h3;simp
 by_cases h4:k=4
 ·subst h4;simp
 ·have:¬(1<=k/\k<=4):=by omega
  simp[h1,h2,h3,h4,this]
set_option maxHeartbeats 2000000 in
theorem zAx {σ:List AObj}{o:TOp}(ht:o.topic.length<=1073741824)(hg:o.group.length<=1073741824)(hr:o.recs.length<=1073741824){K:KT}(hK:K (.d (.int .i64 (zaN zev o))) σ):zP zkz [opA o] σ K:=by
 refine zeA e_r06_Check fun hl=>?_;simp only[zxs,iN,bT,bF,eN,opA];(refine gq4 ?_;try with_reducible exact True.intro);refine c_fields ?_;have fin:∀z:Int,zaN zev o=z->K (.d (.int .i64 z)) σ:=fun z hz=>by rw[← hz];exact hK
 have honly:=onlyF_iff o;have hkind:zoE o.kind=true->ziH o=true:=by simp[zoE,ziH];omega
 have hk1:zoE o.kind=true↔(ziH o=true/\o.kind≠0):=by simp[zoE,ziH];omega
 have hk2:zsd o.kind=true↔o.kind=3:=by simp[zsd]
 have hk3:zAg o.kind=true↔o.kind=2:=by simp[zAg]
 have hk4:ziH o=true↔(0<=o.kind/\o.kind<=4):=by simp[ziH]
 have hnil:o.recs=[]↔o.recs.length=0:=List.length_eq_zero_iff.symm;clear hK;repeat' first
  | (refine gq4 ?_;try with_reducible exact True.intro)
  | refine c_rName ht ?_
  | refine c_rName hg ?_
  | (refine zW (fun h=>?_) (fun h=>?_)<;>(try rw[h]))
  | ((with_reducible refine And.intro ?_ ?_);focus(first|omega|rfl|decide))
 all_goals first
  | (
   refine zu hl ?_
   (try simp only[decide_eq_true_eq,decide_eq_false_iff_not,beq_iff_eq,beq_eq_false_iff_ne,bne_iff_ne,ne_eq,Bool.not_eq_true',Bool.not_eq_false',bne_eq_false_iff_eq]at *)
   simp only[zcm,dmT,dm,dm1]
   apply fin
   grind [zaN])
  | skip
 all_goals
  refine zn o.recs.length (fun k vs s=>vs=[.d (.int .i64 k)]/\s=σ++[.box [.d (.int .i64 o.kind),.d (.str o.topic),.d (.str o.group),.d (.int .i64 o.offset),.d (.slice (zdT o.recs))]]/\∀r∈o.recs.take k,¬r.length>64) ⟨rfl,rfl,by simp⟩ ?_
  rintro k vs s hk ⟨rfl,rfl,htk⟩
  (refine gq2 @zy ?_;try with_reducible exact True.intro)
  refine zW (fun h=>?_) (fun h=>?_)
  ·have hka:k<o.recs.length:=by(try simp only[decide_eq_true_eq,decide_eq_false_iff_not,beq_iff_eq,beq_eq_false_iff_ne,bne_iff_ne,ne_eq,Bool.not_eq_true',Bool.not_eq_false',bne_eq_false_iff_eq]at *);omega
   have hx:o.recs[k]? = some o.recs[k]:=by simp[hka]
   have hmem:o.recs[k]∈o.recs:=List.getElem_mem _
   have hbl:(bcs o.recs[k]).length=o.recs[k].length:=by simp[bcs]
   (refine gq2 (zd (zgC hx) @zy) ?_;try with_reducible exact True.intro)
   refine And.intro (by omega) ?_
   refine zW (fun h=>?_) (fun h=>?_)
   ·have hany:(o.recs.any fun r=>decide (r.length>64))=true:=by
     rw[List.any_eq_true];exact⟨_,hmem,by(try simp only[decide_eq_true_eq,decide_eq_false_iff_not,beq_iff_eq,beq_eq_false_iff_ne,bne_iff_ne,ne_eq,Bool.not_eq_true',Bool.not_eq_false',bne_eq_false_iff_eq]at *);omega⟩
    refine zu hl ?_
    (try simp only[decide_eq_true_eq,decide_eq_false_iff_not,beq_iff_eq,beq_eq_false_iff_ne,bne_iff_ne,ne_eq,Bool.not_eq_true',Bool.not_eq_false',bne_eq_false_iff_eq]at *)
    simp only[zcm,dmT,dm,dm1]
    apply fin
    grind [zaN]
   ·(refine gq2 @zy ?_;try with_reducible exact True.intro)
    refine zaK.next hka ⟨?_,rfl,fun r hr=>?_⟩
    ·rw[zaW (by omega) (by omega)];rfl
    ·rw[List.take_add_one,hx]at hr
     rcases List.mem_append.1 hr with hr|hr
     ·exact htk r hr
     ·have:r=o.recs[k]:=by simpa using hr
      subst this
      (try simp only[decide_eq_true_eq,decide_eq_false_iff_not,beq_iff_eq,beq_eq_false_iff_ne,bne_iff_ne,ne_eq,Bool.not_eq_true',Bool.not_eq_false',bne_eq_false_iff_eq]at *)
      omega
  ·have hany:(o.recs.any fun r=>decide (r.length>64))=false:=by
    rw[List.any_eq_false];intro r hr;have hk':k=o.recs.length:=by(try simp only[decide_eq_true_eq,decide_eq_false_iff_not,beq_iff_eq,beq_eq_false_iff_ne,bne_iff_ne,ne_eq,Bool.not_eq_true',Bool.not_eq_false',bne_eq_false_iff_eq]at *);omega
    rw[hk',List.take_length]at htk;simpa using htk r hr
   clear htk
   (repeat'(first|(refine gq4 ?_;try with_reducible exact True.intro)|(refine zW (fun h=>?_) (fun h=>?_)<;>(try rw[h]))|((with_reducible refine And.intro ?_ ?_);focus(first|omega|rfl|decide))))
   all_goals
    refine zu hl ?_
    (try simp only[decide_eq_true_eq,decide_eq_false_iff_not,beq_iff_eq,beq_eq_false_iff_ne,bne_iff_ne,ne_eq,Bool.not_eq_true',Bool.not_eq_false',bne_eq_false_iff_eq]at *)
    simp only[zcm,dmT,dm,dm1]
    apply fin
    grind [zaN]
end Go.Proofs.YtdgcepphjnoalaaGreat
