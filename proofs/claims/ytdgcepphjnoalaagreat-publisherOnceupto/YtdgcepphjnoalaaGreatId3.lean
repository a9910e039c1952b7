/- Contracts: a ledger signs; a table's clone; whether both were made. -/
import Derived.Test.YtdgcepphjnoalaaGreatWr3
import Derived.Test.YtdgcepphjnoalaaGreatRd1
import Derived.Test.YtdgcepphjnoalaaGreatRc2
import Derived.Test.YtdgcepphjnoalaaGreatSpTab
set_option linter.all false
set_option maxRecDepth 100000
namespace Go.Proofs.YtdgcepphjnoalaaGreat
open Go.AW
variable {σ:List AObj}
def zuw (s:zI):AV:=.agg [.d (.int .i64 s.key),.d (.int .i64 s.dig)]
def signR (k d:Int):zI:=if zgS k d=0 then⟨k,d⟩else⟨0,0⟩
def zhn (g:List zI) (k d:Int):List zI:=if zgS k d=0 then zzE g ⟨k,d⟩else g
theorem c_gSign {id m t:Nat}{g:List zI}{k d:Int}(hG:zfj σ id m t g)(hgl:g.length<=1073741824){K:KT}
  (hK:K (.tup [zuw (signR k d),.d (.int .i64 (zgS k d))]) (putLed σ id m t (zhn g k d))):zP zdF [.box id 0,.d (.int .i64 k),.d (.int .i64 d)] σ K:=by
 refine acE3 zro fun hl=>?_;have hb:∀τ,(σ++τ)[id]? = some (.box [.own t (ztW g),.map m]):=fun τ=>zi hG.box;have hm:∀τ,(σ++τ)[m]? = some (.map (zxB g)):=fun τ=>zi hG.map;obtain⟨n1,n2,n3⟩:=hG.ne;have hlen:(ztW g).length=g.length:=List.length_map ..;have bad:zgS k d≠0->K (.tup [.agg [.d (.int .i64 0),.d (.int .i64 0)],.d (.int .i64 (zgS k d))]) σ:=fun h=>by
  rw[signR,zhn,if_neg h,if_neg h,hG.self]at hK;exact hK
 simp only[zkY,iN,bT,bF,eN];refine zzY ?_;refine zwT (hG.app _) ?_;cases h1:decide (k<0)
 ·cases h2:decide (k≥21)
  ·have hk:¬(k<0∨k≥21):=by simp at h1 h2;omega
   cases h3:decide (d<1)
   ·have he:zgS k d=0:=by rw[zgS,if_neg hk,if_neg (by simpa using h3)]
    rw[he,signR,zhn,if_pos he,if_pos he]at hK;by_cases hs:(⟨k,d⟩:zI)∈g
    ·obtain⟨j,hf⟩:=zrV hs;simp only at hf;rw[zzE,if_pos hs,hG.self]at hK;refine gq27 (zdq h1 (zdq h2 (zdq h3 (zdq hb (zdq hm hf))))) ?_;refine zu hl ?_;exact hK
    ·have hf:=ztV hs;simp only at hf;rw[zzE,if_neg hs]at hK;have hmm:σ[m]? = some (.map (zxB g)):=hG.map;have s1:∀X τ,(σ++τ).set m X=σ.set m X++τ:=fun X τ=>zdk hG.map;have hb':∀X,(σ.set m X)[id]? = some (.box [.own t (ztW g),.map m]):=fun X=>by rw[List.getElem?_set_ne (Ne.symm n1)];exact hG.box
     have ht':∀X,(σ.set m X)[t]? = some (.tok 2 g.length):=fun X=>by rw[List.getElem?_set_ne n3];exact hG.tok
     have g3:∀X τ,(σ.set m X++τ)[id]? = some (.box [.own t (ztW g),.map m]):=fun X τ=>zi (hb' X);have g4:∀X τ,(σ.set m X++τ)[t]? = some (.tok 2 g.length):=fun X τ=>zi (ht' X);have s2:∀X Y τ,(σ.set m X++τ).set t Y=(σ.set m X).set t Y++τ:=fun X Y τ=>zdk (ht' X);have hb2:∀X Y,((σ.set m X).set t Y)[id]? = some (.box [.own t (ztW g),.map m]):=fun X Y=>by rw[List.getElem?_set_ne (Ne.symm n2)];exact hb' X
     have s3:∀X Y Z τ,((σ.set m X).set t Y++τ).set id Z=((σ.set m X).set t Y).set id Z++τ:=fun X Y Z τ=>zdk (hb2 X Y);have g5:∀X Y τ,((σ.set m X).set t Y++τ)[id]? = some (.box [.own t (ztW g),.map m]):=fun X Y τ=>zi (hb2 X Y);have L1:∀X:AObj,σ.length=(σ.set m X).length:=fun X=>by simp
     have L2:∀X Y:AObj,σ.length=((σ.set m X).set t Y).length:=fun X Y=>by simp
     have L3:∀X Y Z:AObj,σ.length=(((σ.set m X).set t Y).set id Z).length:=fun X Y Z=>by simp
     have e1:∀X τ n,(σ.set m X++τ)[σ.length+n]? = τ[n]?:=fun X τ n=>by rw[L1 X];exact zA ..
     have e2:∀X Y Z τ n,(((σ.set m X).set t Y).set id Z++τ)[σ.length+n]? = τ[n]?:=fun X Y Z τ n=>by rw[L3 X Y Z];exact zA ..
     have e3:∀X Y Z τ W,(((σ.set m X).set t Y).set id Z++τ).set σ.length W=((σ.set m X).set t Y).set id Z++τ.set 0 W:=fun X Y Z τ W=>by rw[L3 X Y Z];exact zad ..
     have e4:∀X Y Z τ,(((σ.set m X).set t Y).set id Z++τ)[σ.length]? = τ[0]?:=fun X Y Z τ=>by rw[L3 X Y Z];exact zC ..
     refine gq27 (zdq h1 (zdq h2 (zdq h3 (zdq hb (zdq hm (zdq hf (zdq s1 (zdq g3 (zdq g4 (zdq s2 (zdq s3 (zdq g5 (zdq e1 (zdq e2 (zdq e3 (zdq e4 hlen)))))))))))))))) ?_;have e:putLed σ id m t (g++[⟨k,d⟩])=(((σ.set m (AObj.map (zxB g++[(AV.agg [AV.d (D.int IntKind.i64 k),AV.d (D.int IntKind.i64 d)],AV.d (D.bool true))]))).set t (AObj.tok 2 (g.length+1))).set id (AObj.box [AV.own t (ztW g++[[D.int IntKind.i64 k,D.int IntKind.i64 d]]),AV.map m])):=by
      rw[ledM_add g ⟨k,d⟩];simp[putLed,ztW,zgo]
     rw[← e];exact zfa (zyk ..) (by simp[zha,dmT,dm,dm1,zcm,zbw,zfs]) (hG.lows hl _) hK
   ·have he:zgS k d=1:=by rw[zgS,if_neg hk,if_pos (by simpa using h3)]
    have:=bad (by rw[he];decide);rw[he]at this;refine zoe (zdq h1 (zdq h2 h3)) ?_;refine zu hl ?_;exact this
  ·have he:zgS k d=20:=by rw[zgS,if_pos (by simp at h2;omega)]
   have:=bad (by rw[he];decide);rw[he]at this;refine zoe (zdq h1 h2) ?_;refine zu hl ?_;exact this
 ·have he:zgS k d=20:=by rw[zgS,if_pos (by simp at h1;omega)]
  have:=bad (by rw[he];decide);rw[he]at this;refine zoe h1 ?_;refine zu hl ?_;exact this
theorem gq28 {P Q:Prop}(h:Q)(e:Hd Q->P:=by intro h;(repeat' first|simp -dsimp only[↓zmg,↓zcf,↓zep,↓zmh,↓zmb,↓zlZ,↓zmc,↓zma,↓zeu,↓zeq,↓zev,↓zer,↓zmd,↓zeo,↓zew,↓zes,↓zex,↓zet,↓zlY,↓zmf,↓zen,↓zey,↓zlW,↓zlV,↓zlX,iN,bT,bF,eN,↓zeO,↓unC,↓zaE,↓zan,↓zao,↓zaA,↓zbf,↓zah,↓zgR,↓zaz,↓zbe,↓zae,↓ze,↓zl,↓zbc,↓zc,↓zaY,↓zM,↓zce,↓zcB,↓zf,↓zF,↓zr,↓zN,↓zaC,↓zgY,↓zhU,↓zbi,↓zbJ,↓zcj,↓zcM,↓zdG,↓zL,↓zbh,↓zap,↓zR,↓zbb,zhS,zdY,zdS,unA,zgE,bnd,zjr,zaP,zK,ziD,dm,dm1,zH,zaI,zkw,zkv,keepO,Q0,Q1,Q2,Q3,Q4,Q5,zbg,zA,zC,zZ,zad,Q6,Q7,Q8,Q9,Q10,Q11,Q12,Q13,Q14,Nat.reduceAdd,Q15,Int.reduceToNat,Q16,Q17,Q18,Q19,Q20,reduceIte,Q21,Q22,zy,rep,zaq,zil,toD,zaD,Q23,Q24,Q25,Q26,Q27,Q28,Nat.reduceLeDiff,Q29,Nat.reduceSub,Q30,Q31,Q32,sc,Q33,Q34,Q35,Q36,Q37,Q26,Q38,Q39,zvP,zvM,zvJ,zvQ,zkt,zvN,zvK,zvO,zvL,zks,zku,zwb,zwc,Bool.not_true,Bool.not_false,List.length_map,Bool.and_false,Bool.and_self,Bool.false_and,Bool.not_false,Bool.not_true,Bool.true_and,Int.toNat_natCast,Int.toNat_zero,List.drop_zero,List.length_map,List.length_nil,List.nil_append,List.take_length,Nat.sub_zero,Nat.zero_add,Option.isSome_none,Option.isSome_some,Option.map_none,Option.map_some,zaj,beq_self_eq_true,bne_self_eq_false]|with_reducible refine zxa ?_|fail);exact h.go):P:=e ⟨h⟩
theorem c_From {l:List (List UInt8)}(hn:l.Nodup)(hl0:l.length<=1048576)(hb:∀b∈l,b.length<=1073741824){K:KT}
  (hK:K (.tup [.box (σ.length+1) 0,.d (.int .i64 0)]) (σ++tabO σ.length l)):zP zow [.d (.slice (zvp l))] σ K:=by
 refine zbO zug.is rfl (fun s=>List.range' σ.length 3) fun hl _=>zug.goes ?_;have hlen:(zvp l).length=l.length:=List.length_map ..;have hd:decide ((l.length:Int)>1048576)=false:=by simp;omega
 simp only[zur,iN,bT,bF,eN];refine zoe (zdq hlen hd) ?_;refine ztF ?_;refine zzY ?_;refine zn l.length (fun k vs s=>vs=[.d (.int .i64 k)]/\s=σ++tabO σ.length (l.take k)) ⟨rfl,rfl⟩ ?_;rintro k vs s hk ⟨rfl,rfl⟩;by_cases hlt:k<l.length
 ·have hd:decide ((k:Int)<(l.length:Int))=true:=by simp;omega
  have hx:l[k]? = some l[k]:=by simp[hlt]
  have hgx:=zQ (f:=fun b=>[D.slice (bcs b)]) hx;have hxb:=hb _ (List.getElem_mem hlt);have hnot:l[k]∉l.take k:=fun hm=>by
   obtain⟨i,hi,he⟩:=List.mem_take_iff_getElem.1 hm;have:=(List.getElem_inj hn).1 he;omega
  obtain⟨x,hxe⟩:∃x,l[k]=x:=⟨_,rfl⟩;rw[hxe]at hx hgx hxb hnot;have hno:=zyx hnot;have hT:zgK (σ++tabO σ.length (l.take k)) (σ.length+1) σ.length (σ.length+2) (l.take k):=by simpa using tabAt_new σ (l.take k) []
  have hP:∀l',putTab (σ++tabO σ.length (l.take k)) (σ.length+1) σ.length (σ.length+2) l'=σ++tabO σ.length l':=fun l'=>by simpa using putTab_new σ (l.take k) l' []
  refine zoe (zdq hlen (zdq hd hgx)) ?_;refine c_tLook hT ?_;rw[hno];refine gq28 ?_;refine c_tSum hT hxb (by rw[List.length_take];omega) ?_;rw[hP];have e:zfX (l.take k) x=l.take (k+1):=by
   have h1:(l.take k).length=k:=by rw[List.length_take];omega
   rw[zfX,hno];simp only[h1];rw[if_neg (by omega),List.take_add_one,hx];rfl
  rw[e];have hw:IntKind.i64.wrap ((k:Int)+1)=((k+1:Nat):Int):=by rw[zaQ (by omega) (by omega)];rfl
  refine zoe hw ?_;exact zaK.next hlt ⟨rfl,rfl⟩
 ·have hd:decide ((k:Int)<(l.length:Int))=false:=by simp;omega
  rw[List.take_of_length_le (by omega)];refine zoe (zdq hlen hd) ?_;refine zdn (σ':=σ) (os:=tabO σ.length l) rfl rfl hl (low_tabO _ _) ?_ hK;exact .tup _ (by simp[zha];exact .box _ _ (by simp))
theorem zvb {id m t:Nat}{l:List (List UInt8)}(hT:zgK σ id m t l)(hn:l.Nodup)(hl0:l.length<=1048576)(hb:∀b∈l,b.length<=1073741824){K:KT}
  (hK:K (.box (σ.length+1) 0) (σ++tabO σ.length l)):zP zdE [.box id 0] σ K:=by
 refine zbO zkG.is rfl (fun s=>List.range' σ.length 3) fun hl _=>zkG.goes ?_;have hbx:=hT.box;simp only[zkW,iN,bT,bF,eN];refine zzY ?_;refine zAs hT ?_;refine zoe hbx ?_;refine c_From hn hl0 hb ?_;refine zzY ?_;exact zdn (σ':=σ) (os:=tabO σ.length l) rfl rfl hl (low_tabO _ _) (.box _ _ (by simp)) hK
theorem c_known {id m t:Nat}{l:List (List UInt8)}(hT:zgK σ id m t l)(hn:l.Nodup)(hl0:l.length<=1048576)(hb:∀b∈l,b.length<=1073741824){K:KT}
  (hK:K (.d (.bool true)) σ):zP zkh [.box id 0] σ K:=by
 refine zez zwk fun hl=>?_;simp only[zoT,iN,bT,bF,eN];refine zzY ?_;refine c_tLen hT ?_;cases h:decide ((l.length:Int)>0)
 ·refine zoe h ?_;refine zvb hT hn hl0 hb ?_;refine zoe h ?_;refine zu hl ?_;exact hK
 ·refine zoe h ?_;refine zu hl ?_;exact hK
theorem gq29 {A P Q:Prop}(a:A)(h:Q)(e:A->Hd Q->P:=by intro a h;(repeat' first|simp -dsimp only[↓zmg,↓zcf,↓zep,↓zmh,↓zmb,↓zlZ,↓zmc,↓zma,↓zeu,↓zeq,↓zev,↓zer,↓zmd,↓zeo,↓zew,↓zes,↓zex,↓zet,↓zlY,↓zmf,↓zen,↓zey,↓zlW,↓zlV,↓zlX,iN,bT,bF,eN,↓zeO,↓unC,↓zaE,↓zan,↓zao,↓zaA,↓zbf,↓zah,↓zgR,↓zaz,↓zbe,↓zae,↓ze,↓zl,↓zbc,↓zc,↓zaY,↓zM,↓zce,↓zcB,↓zf,↓zF,↓zr,↓zN,↓zaC,↓zgY,↓zhU,↓zbi,↓zbJ,↓zcj,↓zcM,↓zdG,↓zL,↓zbh,↓zap,↓zR,↓zbb,zhS,zdY,zdS,unA,zgE,bnd,zjr,zaP,zK,ziD,dm,dm1,zH,zaI,zkw,zkv,keepO,Q0,Q1,Q2,Q3,Q4,Q5,zbg,zA,zC,zZ,zad,Q6,Q7,Q8,Q9,Q10,Q11,Q12,Q13,Q14,Nat.reduceAdd,Q15,Int.reduceToNat,Q16,Q17,Q18,Q19,Q20,reduceIte,Q21,Q22,zy,rep,zaq,zil,toD,zaD,Q23,Q24,Q25,Q26,Q27,Q28,Nat.reduceLeDiff,Q29,Nat.reduceSub,Q30,Q31,Q32,sc,Q33,Q34,Q35,Q36,Q37,Q26,Q38,Q39,zvP,zvM,zvJ,zvQ,zkt,zvN,zvK,zvO,zvL,zks,zku,zwb,zwc,Bool.not_true,Bool.not_false,List.length_map,ztW,zat,a]|with_reducible refine zxa ?_|fail);exact h.go):P:=e a ⟨h⟩
theorem c_gClone0 {id m t:Nat}(hG:zfj σ id m t []){K:KT}(hK:K (.box (σ.length+1) 0) (σ++ledO σ.length [])):zP zcy [.box id 0] σ K:=by
 refine zbO zeE.is rfl (fun s=>List.range' σ.length 3) fun hl _=>zeE.goes ?_;have hbx:∀τ,(σ++τ)[id]? = _:=fun τ=>zi hG.box;simp only[zgt,iN,bT,bF,eN];refine zzY ?_;refine zwT hG ?_;refine zoe hbx ?_;refine znv ?_;refine zoe hbx ?_;refine zn 0 (fun k vs s=>vs=[.d (.int .i64 0)]/\s=σ++ledO σ.length []) ⟨rfl,rfl⟩ ?_;rintro k vs s hk ⟨rfl,rfl⟩;have hd:decide ((0:Int)<((0:Nat):Int))=false:=rfl;refine gq29 hd ?_;exact zdn (σ':=σ) (os:=ledO σ.length []) rfl rfl hl (low_ledO _ _) (.box _ _ (by simp)) hK
theorem c_made {id m t id2 m2 t2:Nat}{l:List (List UInt8)}{g:List zI}(hT:zgK σ id m t l)(hG:zfj σ id2 m2 t2 g)(hn:l.Nodup)(hl0:l.length<=1048576)(hb:∀b∈l,b.length<=1073741824){K:KT}
  (hK:K (.d (.bool true)) σ):zP zlK [.box id 0,.box id2 0] σ K:=by
 refine zec zxJ fun hl=>?_;simp only[zqt,iN,bT,bF,eN];refine zzY ?_;refine c_known hT hn hl0 hb ?_;refine zzY ?_;refine c_gLen hG ?_;cases h:decide ((g.length:Int)>0)
 ·have hg:g=[]:=by simpa using h
  subst hg;refine zoe h ?_;refine c_gClone0 hG ?_;refine zoe h ?_;refine zu hl ?_;exact hK
 ·refine zoe h ?_;refine zu hl ?_;exact hK
variable {σ:List AObj}
def rtO (l:List (List UInt8)):AObj:=.box [.d (.slice (zvp l))]
def rlO (g:List zI):AObj:=.box [.d (.slice (ztW g))]
theorem rtO_low (n:Nat)(l:List (List UInt8)):ztL n (rtO l):=by
 intro c hc;simp only[List.mem_cons,List.not_mem_nil,or_false]at hc;subst hc;exact .d _
theorem rlO_low (n:Nat)(g:List zI):ztL n (rlO g):=by
 intro c hc;simp only[List.mem_cons,List.not_mem_nil,or_false]at hc;subst hc;exact .d _
theorem wki (k:Nat)(h:k<=1073741824):IntKind.i64.wrap ((k:Int)+1)=((k+1:Nat):Int):=by rw[zaQ (by omega) (by omega)];rfl
theorem gq30 {P Q:Prop}(h:Q)(e:Hd Q->P:=by intro h;(repeat' first|simp -dsimp only[↓zmg,↓zcf,↓zep,↓zmh,↓zmb,↓zlZ,↓zmc,↓zma,↓zeu,↓zeq,↓zev,↓zer,↓zmd,↓zeo,↓zew,↓zes,↓zex,↓zet,↓zlY,↓zmf,↓zen,↓zey,↓zlW,↓zlV,↓zlX,iN,bT,bF,eN,↓zeO,↓unC,↓zaE,↓zan,↓zao,↓zaA,↓zbf,↓zah,↓zgR,↓zaz,↓zbe,↓zae,↓ze,↓zl,↓zbc,↓zc,↓zaY,↓zM,↓zce,↓zcB,↓zf,↓zF,↓zr,↓zN,↓zaC,↓zgY,↓zhU,↓zbi,↓zbJ,↓zcj,↓zcM,↓zdG,↓zL,↓zbh,↓zap,↓zR,↓zbb,zhS,zdY,zdS,unA,zgE,bnd,zjr,zaP,zK,ziD,dm,dm1,zH,zaI,zkw,zkv,keepO,Q0,Q1,Q2,Q3,Q4,Q5,zbg,zA,zC,zZ,zad,Q6,Q7,Q8,Q9,Q10,Q11,Q12,Q13,Q14,Nat.reduceAdd,Q15,Int.reduceToNat,Q16,Q17,Q18,Q19,Q20,reduceIte,Q21,Q22,zy,rep,zaq,zil,toD,zaD,Q23,Q24,Q25,Q26,Q27,Q28,Nat.reduceLeDiff,Q29,Nat.reduceSub,Q30,Q31,Q32,sc,Q33,Q34,Q35,Q36,Q37,Q26,Q38,Q39,zvP,zvM,zvJ,zvQ,zkt,zvN,zvK,zvO,zvL,zks,zku,zwb,zwc,Bool.not_true,Bool.not_false,List.length_map,Bool.and_false,Bool.and_self,Bool.false_and,Bool.not_false,Bool.not_true,Bool.true_and,Int.toNat_natCast,Int.toNat_zero,List.drop_zero,List.length_map,List.length_nil,List.nil_append,List.take_length,Nat.sub_zero,Nat.zero_add,Option.isSome_none,Option.isSome_some,Option.map_none,Option.map_some,zaj,beq_self_eq_true,bne_self_eq_false,ziz,zfg,zgh,zcj,mgetR,zcM]|with_reducible refine zxa ?_|fail);exact h.go):P:=e ⟨h⟩
theorem c_rtSame {a b:List UInt8}{K:KT}(hK:K (.d (.bool (a==b))) σ):zP zsZ [.d (.slice (bcs a)),.d (.slice (bcs b))] σ K:=by
 refine zec e_r02_Same fun hl=>?_;simp only[zzp,iN,bT,bF,eN];refine gq30 ?_;refine zu hl ?_;exact hK
theorem c_rtLook {id:Nat}{l:List (List UInt8)}{b:List UInt8}(hT:σ[id]? = some (rtO l))(hl0:l.length<=1048576){K:KT}
  (hK:K (.tup [.d (.int .i64 (zor (zhE l b))),.d (.bool (zhE l b).isSome)]) σ):zP zgN [.box id 0,.d (.slice (bcs b))] σ K:=by
 refine zec zuH fun hl=>?_;have hlen:(zvp l).length=l.length:=List.length_map ..;have hb:σ[id]? = some (.box [.d (.slice (zvp l))]):=hT;simp only[znM,iN,bT,bF,eN];refine zn l.length (fun k vs s=>vs=[.d (.int .i64 k)]/\s=σ/\zhE (l.take k) b=none) ⟨rfl,rfl,rfl⟩ ?_;rintro k vs s hk ⟨rfl,rfl,hno⟩;by_cases hlt:k<l.length
 ·have hd:decide ((k:Int)<(l.length:Int))=true:=by simp;omega
  have hx:l[k]? = some l[k]:=by simp[hlt]
  have hgx:=zQ (f:=fun b=>[D.slice (bcs b)]) hx;obtain⟨x,hxe⟩:∃x,l[k]=x:=⟨_,rfl⟩;rw[hxe]at hx hgx;refine zoe (zdq hlen (zdq hd (zdq hb hgx))) ?_;refine c_rtSame ?_;cases he:(x==b)
  ·refine zoe (wki k (by omega)) ?_;exact zaK.next hlt ⟨rfl,rfl,look_next hx hno he⟩
  ·rw[look_hit hx hno he]at hK;refine zoe (wki k (by omega)) ?_;refine zu hl ?_;exact hK
 ·have hd:decide ((k:Int)<(l.length:Int))=false:=by simp;omega
  rw[List.take_of_length_le (by omega)]at hno;rw[hno]at hK;refine zoe (zdq hlen (zdq hd hb)) ?_;refine zu hl ?_;exact hK
theorem gq31 {P Q:Prop}(h:Q)(e:Hd Q->P:=by intro h;(repeat' first|simp -dsimp only[↓zmg,↓zcf,↓zep,↓zmh,↓zmb,↓zlZ,↓zmc,↓zma,↓zeu,↓zeq,↓zev,↓zer,↓zmd,↓zeo,↓zew,↓zes,↓zex,↓zet,↓zlY,↓zmf,↓zen,↓zey,↓zlW,↓zlV,↓zlX,iN,bT,bF,eN,↓zeO,↓unC,↓zaE,↓zan,↓zao,↓zaA,↓zbf,↓zah,↓zgR,↓zaz,↓zbe,↓zae,↓ze,↓zl,↓zbc,↓zc,↓zaY,↓zM,↓zce,↓zcB,↓zf,↓zF,↓zr,↓zN,↓zaC,↓zgY,↓zhU,↓zbi,↓zbJ,↓zcj,↓zcM,↓zdG,↓zL,↓zbh,↓zap,↓zR,↓zbb,zhS,zdY,zdS,unA,zgE,bnd,zjr,zaP,zK,ziD,dm,dm1,zH,zaI,zkw,zkv,keepO,Q0,Q1,Q2,Q3,Q4,Q5,zbg,zA,zC,zZ,zad,Q6,Q7,Q8,Q9,Q10,Q11,Q12,Q13,Q14,Nat.reduceAdd,Q15,Int.reduceToNat,Q16,Q17,Q18,Q19,Q20,reduceIte,Q21,Q22,zy,rep,zaq,zil,toD,zaD,Q23,Q24,Q25,Q26,Q27,Q28,Nat.reduceLeDiff,Q29,Nat.reduceSub,Q30,Q31,Q32,sc,Q33,Q34,Q35,Q36,Q37,Q26,Q38,Q39,zvP,zvM,zvJ,zvQ,zkt,zvN,zvK,zvO,zvL,zks,zku,zwb,zwc,Bool.not_true,Bool.not_false,List.length_map,Bool.and_false,Bool.and_self,Bool.false_and,Bool.not_false,Bool.not_true,Bool.true_and,Int.toNat_natCast,Int.toNat_zero,List.drop_zero,List.length_map,List.length_nil,List.nil_append,List.take_length,Nat.sub_zero,Nat.zero_add,Option.isSome_none,Option.isSome_some,Option.map_none,Option.map_some,zaj,beq_self_eq_true,bne_self_eq_false,zck,zhJ,zag,zdg,zrY,zcl,zor,opA,opD,zfx,zgo,zaw]|with_reducible refine zxa ?_|fail);exact h.go):P:=e ⟨h⟩
theorem gq32 {A P Q:Prop}(a:A)(h:Q)(e:A->Hd Q->P:=by intro a h;(repeat' first|simp -dsimp only[↓zmg,↓zcf,↓zep,↓zmh,↓zmb,↓zlZ,↓zmc,↓zma,↓zeu,↓zeq,↓zev,↓zer,↓zmd,↓zeo,↓zew,↓zes,↓zex,↓zet,↓zlY,↓zmf,↓zen,↓zey,↓zlW,↓zlV,↓zlX,iN,bT,bF,eN,↓zeO,↓unC,↓zaE,↓zan,↓zao,↓zaA,↓zbf,↓zah,↓zgR,↓zaz,↓zbe,↓zae,↓ze,↓zl,↓zbc,↓zc,↓zaY,↓zM,↓zce,↓zcB,↓zf,↓zF,↓zr,↓zN,↓zaC,↓zgY,↓zhU,↓zbi,↓zbJ,↓zcj,↓zcM,↓zdG,↓zL,↓zbh,↓zap,↓zR,↓zbb,zhS,zdY,zdS,unA,zgE,bnd,zjr,zaP,zK,ziD,dm,dm1,zH,zaI,zkw,zkv,keepO,Q0,Q1,Q2,Q3,Q4,Q5,zbg,zA,zC,zZ,zad,Q6,Q7,Q8,Q9,Q10,Q11,Q12,Q13,Q14,Nat.reduceAdd,Q15,Int.reduceToNat,Q16,Q17,Q18,Q19,Q20,reduceIte,Q21,Q22,zy,rep,zaq,zil,toD,zaD,Q23,Q24,Q25,Q26,Q27,Q28,Nat.reduceLeDiff,Q29,Nat.reduceSub,Q30,Q31,Q32,sc,Q33,Q34,Q35,Q36,Q37,Q26,Q38,Q39,zvP,zvM,zvJ,zvQ,zkt,zvN,zvK,zvO,zvL,zks,zku,zwb,zwc,Bool.not_true,Bool.not_false,List.length_map,Bool.and_false,Bool.and_self,Bool.false_and,Bool.not_false,Bool.not_true,Bool.true_and,Int.toNat_natCast,Int.toNat_zero,List.drop_zero,List.length_map,List.length_nil,List.nil_append,List.take_length,Nat.sub_zero,Nat.zero_add,Option.isSome_none,Option.isSome_some,Option.map_none,Option.map_some,zaj,beq_self_eq_true,bne_self_eq_false,zck,zhJ,zag,zdg,zrY,zcl,zor,opA,opD,zfx,zgo,zaw,a]|with_reducible refine zxa ?_|fail);exact h.go):P:=e a ⟨h⟩
theorem c_rtSum {id:Nat}{l:List (List UInt8)}{b:List UInt8}(hT:σ[id]? = some (rtO l))(hbl:b.length<=1073741824)(hl0:l.length<=1048576){K:KT}
  (hK:K (.d (.int .i64 (zhT l b))) (σ.set id (rtO (zfX l b)))):zP zhz [.box id 0,.d (.slice (bcs b))] σ K:=by
 refine zja zoG.is rfl fun hl _=>zoG.goes ?_;have hlen:(zvp l).length=l.length:=List.length_map ..;have hb:∀τ,(σ++τ)[id]? = some (.box [.d (.slice (zvp l))]):=fun τ=>zi hT;have hb0:σ[id]? = some (.box [.d (.slice (zvp l))]):=hT;have hlt:=zY hT;simp only[zpg,iN,bT,bF,eN];refine zzY ?_;refine c_rtLook hT hl0 ?_;cases ho:zhE l b with
 | some k=>
  simp only[zhT,zfX,ho]at hK
  rw[zbS hT]at hK
  refine gq31 ?_
  refine ziL ?_
  refine zu hl ?_
  exact hK
 | none=>
  simp only[zhT,zfX,ho]at hK
  by_cases hfull:l.length≥1048576
  ·rw[if_pos hfull,if_pos hfull,zbS hT]at hK
   have hd:decide ((l.length:Int)≥1048576)=true:=by simp;omega
   refine gq32 (zdq hb0 (zdq hlen hd)) ?_
   refine ziL ?_
   refine zu hl ?_
   exact hK
  ·rw[if_neg hfull,if_neg hfull]at hK
   have hd:decide ((l.length:Int)≥1048576)=false:=by simp;omega
   have s1:∀X τ,(σ++τ).set id X=σ.set id X++τ:=fun X τ=>zdk hT
   have g1:∀X τ,(σ.set id X++τ)[id]? = some X:=fun X τ=>zi (zdr hT)
   have bl:(bcs b).length=b.length:=zaj b
   have b1:∀e∈bcs b,e.length=1:=ziA
   have t1:∀e∈zvp l,e.length=1:=zjk (f:=fun b=>[D.slice (bcs b)]) (fun _=>rfl) l
   refine gq32 (zdq hb (zdq hb0 (zdq hlen (zdq hd (zdq s1 (zdq g1 bl)))))) ?_
   have e:zvp l++[[D.slice (bcs b)]]=zvp (l++[b]):=by simp[zvp]
   rw[e]
   exact zkb hT (by simp[zha,dmT,dm,dm1,zcm]) hl hK
theorem zyS {id:Nat}{g:List zI}{s:zI}(hG:σ[id]? = some (rlO g))(hg0:g.length<=1073741824){K:KT}(hK:K (.d (.bool (decide (s∈g)))) σ) :
  zP zeV [.box id 0,.agg [.d (.int .i64 s.key),.d (.int .i64 s.dig)]] σ K:=by
 refine zec zrf fun hl=>?_;have hlen:(ztW g).length=g.length:=List.length_map ..;have hb:∀τ,(σ++τ)[id]? = some (.box [.d (.slice (ztW g))]):=fun τ=>zi hG;simp only[zkN,iN,bT,bF,eN];refine zzY ?_;refine zn g.length (fun k vs q=>vs=[.d (.int .i64 k)]/\q=σ++[.box [.d (.int .i64 s.key),.d (.int .i64 s.dig)]]/\s∉g.take k) ⟨rfl,rfl,by simp⟩ ?_;rintro k vs q hk ⟨rfl,rfl,hno⟩;by_cases hlt:k<g.length
 ·have hd:decide ((k:Int)<(g.length:Int))=true:=by simp;omega
  have hx:g[k]? = some g[k]:=by simp[hlt]
  have hgx:=zQ (f:=zgo) hx;obtain⟨x,hxe⟩:∃x,g[k]=x:=⟨_,rfl⟩;rw[hxe]at hx hgx;by_cases he:x=s
  ·subst he;rw[decide_eq_true (List.mem_of_getElem? hx)]at hK;refine gq32 (zdq hlen (zdq hd (zdq hb hgx))) ?_;refine zu hl ?_;exact hK
  ·have hn2:s∉g.take (k+1):=by
    rw[List.take_add_one,hx];simp;exact⟨hno,fun h=>he h.symm⟩
   have e:x=s↔x.key=s.key/\x.dig=s.dig:=by cases s;cases x;simp
   cases h1:(x.key==s.key)
   ·refine gq32 (zdq hlen (zdq hd (zdq hb (zdq hgx (zdq h1 (wki k (by omega))))))) ?_;exact zaK.next hlt ⟨rfl,rfl,hn2⟩
   ·have h2:(x.dig==s.dig)=false:=by
     have:¬x.dig=s.dig:=fun h=>he (e.2 ⟨by simpa using h1,h⟩);simpa using this
    refine gq32 (zdq hlen (zdq hd (zdq hb (zdq hgx (zdq h1 (zdq h2 (wki k (by omega)))))))) ?_;exact zaK.next hlt ⟨rfl,rfl,hn2⟩
 ·have hd:decide ((k:Int)<(g.length:Int))=false:=by simp;omega
  rw[List.take_of_length_le (by omega)]at hno;rw[decide_eq_false hno]at hK;refine zoe (zdq hlen (zdq hd hb)) ?_;refine zu hl ?_;exact hK
theorem c_rgSign {id:Nat}{g:List zI}{k d:Int}(hG:σ[id]? = some (rlO g))(hgl:g.length<=1073741824){K:KT}
  (hK:K (.tup [zuw (signR k d),.d (.int .i64 (zgS k d))]) (σ.set id (rlO (zhn g k d)))):zP zgc [.box id 0,.d (.int .i64 k),.d (.int .i64 d)] σ K:=by
 refine zja zmz.is rfl fun hl _=>zmz.goes ?_;have hb:∀τ,(σ++τ)[id]? = some (.box [.d (.slice (ztW g))]):=fun τ=>zi hG;have hlen:(ztW g).length=g.length:=List.length_map ..;have bad:zgS k d≠0->K (.tup [.agg [.d (.int .i64 0),.d (.int .i64 0)],.d (.int .i64 (zgS k d))]) σ:=fun h=>by
  rw[signR,zhn,if_neg h,if_neg h,zbS hG]at hK;exact hK
 simp only[zmM,iN,bT,bF,eN];refine zzY ?_;cases h1:decide (k<0)
 ·cases h2:decide (k≥21)
  ·have hk:¬(k<0∨k≥21):=by simp at h1 h2;omega
   cases h3:decide (d<1)
   ·have he:zgS k d=0:=by rw[zgS,if_neg hk,if_neg (by simpa using h3)]
    rw[he,signR,zhn,if_pos he,if_pos he]at hK;refine zoe (zdq h1 (zdq h2 h3)) ?_;refine zyS (s:=⟨k,d⟩) (zi hG) hgl ?_;by_cases hs:(⟨k,d⟩:zI)∈g
    ·rw[decide_eq_true hs];rw[zzE,if_pos hs,zbS hG]at hK;refine zoe hb ?_;refine ziL ?_;refine zu hl ?_;exact hK
    ·rw[decide_eq_false hs];rw[zzE,if_neg hs]at hK;have s1:∀X τ,(σ++τ).set id X=σ.set id X++τ:=fun X τ=>zdk hG;have L1:∀X:AObj,σ.length=(σ.set id X).length:=fun X=>by simp
     have e1:∀X τ n,(σ.set id X++τ)[σ.length+n]? = τ[n]?:=fun X τ n=>by rw[L1 X];exact zA ..
     have e3:∀X τ W,(σ.set id X++τ).set σ.length W=σ.set id X++τ.set 0 W:=fun X τ W=>by rw[L1 X];exact zad ..
     have e4:∀X τ,(σ.set id X++τ)[σ.length]? = τ[0]?:=fun X τ=>by rw[L1 X];exact zC ..
     refine zoe (zdq hb (zdq hlen (zdq s1 (zdq e1 (zdq e3 e4))))) ?_;have e:ztW g++[[D.int .i64 k,D.int .i64 d]]=ztW (g++[⟨k,d⟩]):=by simp[ztW,zat,zgo]
     refine⟨zjk (f:=zgo) (fun _=>rfl) g,by simp,by omega,by simp,by omega,?_⟩;rw[e];exact zkb hG (by simp[zha,dmT,dm,dm1,zcm,zbw,zfs]) hl hK
   ·have he:zgS k d=1:=by rw[zgS,if_neg hk,if_pos (by simpa using h3)]
    have:=bad (by rw[he];decide);rw[he]at this;refine zoe (zdq h1 (zdq h2 h3)) ?_;refine ziL ?_;refine zu hl ?_;exact this
  ·have he:zgS k d=20:=by rw[zgS,if_pos (by simp at h2;omega)]
   have:=bad (by rw[he];decide);rw[he]at this;refine zoe (zdq h1 h2) ?_;refine ziL ?_;refine zu hl ?_;exact this
 ·have he:zgS k d=20:=by rw[zgS,if_pos (by simp at h1;omega)]
  have:=bad (by rw[he];decide);rw[he]at this;refine zoe h1 ?_;refine ziL ?_;refine zu hl ?_;exact this
variable {σ:List AObj}
theorem zgK.put {id m t:Nat}{l:List (List UInt8)}(h:zgK σ id m t l)(l':List (List UInt8)):zgK (putTab σ id m t l') id m t l':=by
 obtain⟨n1,n2,n3⟩:=h.ne;have h1:=zY h.box;have h2:=zY h.map;have h3:=zY h.tok;unfold putTab;refine⟨?_,?_,?_⟩
 ·rw[List.getElem?_set_ne (Ne.symm n1),List.getElem?_set_self (by simpa using h1)]
 ·rw[List.getElem?_set_self (by simpa using h2)]
 ·rw[List.getElem?_set_ne n3,List.getElem?_set_ne n2,List.getElem?_set_self h3]
theorem zfj.put {id m t:Nat}{g:List zI}(h:zfj σ id m t g)(g':List zI):zfj (putLed σ id m t g') id m t g':=by
 obtain⟨n1,n2,n3⟩:=h.ne;have h1:=zY h.box;have h2:=zY h.map;have h3:=zY h.tok;unfold putLed;refine⟨?_,?_,?_⟩
 ·rw[List.getElem?_set_self (by simpa using h1)]
 ·rw[List.getElem?_set_ne n1,List.getElem?_set_ne (Ne.symm n3),List.getElem?_set_self h2]
 ·rw[List.getElem?_set_ne n2,List.getElem?_set_self (by simpa using h3)]
theorem apart2 {id m t id2 m2 t2:Nat}{l:List (List UInt8)}{g:List zI}(hT:zgK σ id m t l)(hG:zfj σ id2 m2 t2 g)(h1:id≠id2)(h2:m≠m2) :
  (id≠m2/\id≠t2)/\(m≠id2/\m≠t2)/\(t≠id2/\t≠m2/\t≠t2):=by
 refine⟨⟨?_,?_⟩,⟨?_,?_⟩,⟨?_,?_,?_⟩⟩<;>intro e<;>subst e
 ·have:=hT.box;rw[hG.map]at this;cases this
 ·have:=hT.box;rw[hG.tok]at this;cases this
 ·have:=hT.map;rw[hG.box]at this;cases this
 ·have:=hT.map;rw[hG.tok]at this;cases this
 ·have:=hT.tok;rw[hG.box]at this;cases this
 ·have:=hT.tok;rw[hG.map]at this;cases this
 ·have:=hT.tok;rw[hG.tok]at this;cases this
theorem zfj.putTab {id m t id2 m2 t2:Nat}{l:List (List UInt8)}{g:List zI}(hT:zgK σ id m t l)(hG:zfj σ id2 m2 t2 g)(h1:id≠id2)(h2:m≠m2)(l':List (List UInt8)) :
  zfj (putTab σ id m t l') id2 m2 t2 g:=by
 obtain⟨⟨a1,a2⟩,⟨b1,b2⟩,⟨c1,c2,c3⟩⟩:=apart2 hT hG h1 h2;unfold Go.Proofs.YtdgcepphjnoalaaGreat.putTab;refine⟨?_,?_,?_⟩
 ·rw[List.getElem?_set_ne b1,List.getElem?_set_ne h1,List.getElem?_set_ne c1];exact hG.box
 ·rw[List.getElem?_set_ne h2,List.getElem?_set_ne a1,List.getElem?_set_ne c2];exact hG.map
 ·rw[List.getElem?_set_ne b2,List.getElem?_set_ne a2,List.getElem?_set_ne c3];exact hG.tok
theorem zgK.putLed {id m t id2 m2 t2:Nat}{l:List (List UInt8)}{g:List zI}(hT:zgK σ id m t l)(hG:zfj σ id2 m2 t2 g)(h1:id≠id2)(h2:m≠m2)(g':List zI) :
  zgK (putLed σ id2 m2 t2 g') id m t l:=by
 obtain⟨⟨a1,a2⟩,⟨b1,b2⟩,⟨c1,c2,c3⟩⟩:=apart2 hT hG h1 h2;unfold Go.Proofs.YtdgcepphjnoalaaGreat.putLed;refine⟨?_,?_,?_⟩
 ·rw[List.getElem?_set_ne (Ne.symm h1),List.getElem?_set_ne (Ne.symm a2),List.getElem?_set_ne (Ne.symm a1)];exact hT.box
 ·rw[List.getElem?_set_ne (Ne.symm b1),List.getElem?_set_ne (Ne.symm b2),List.getElem?_set_ne (Ne.symm h2)];exact hT.map
 ·rw[List.getElem?_set_ne (Ne.symm c1),List.getElem?_set_ne (Ne.symm c3),List.getElem?_set_ne (Ne.symm c2)];exact hT.tok
def noSg:zp:=⟨0,0,noOp,0,0⟩
def zjM (L:List (List UInt8)) (x:zp):Int:=if zT x≠0 then zT x else zgS (zuV x.client) (zhT L (znz x))
def zeT (L:List (List UInt8)) (x:zp):zp:=if zjM L x=0 then⟨x.client,x.time,x.op,zuV x.client,zhT L (znz x)⟩else noSg
def zoh (L:List (List UInt8)) (x:zp):List (List UInt8):=if zT x≠0 then L else zfX L (znz x)
def zpO (L:List (List UInt8)) (G:List zI) (x:zp):List zI:=if zT x≠0 then G else zhn G (zuV x.client) (zhT L (znz x))
structure zmF (L:List (List UInt8)):Prop where
 nd:L.Nodup
 len:L.length<=1048576
 each:∀b∈L,b.length<=1073741824
theorem zmF.nil:zmF []:=⟨.nil,by simp,by simp⟩
theorem zmF.sum {L:List (List UInt8)}(h:zmF L){b:List UInt8}(hb:b.length<=1073741824):zmF (zfX L b):=by
 unfold zfX;cases ho:zhE L b with
 | some k=>exact h
 | none=>
  simp only
  split
  ·exact h
  ·rename_i hl
   have hn:b∉L:=fun hm=>by
    obtain⟨i,hi⟩:=List.mem_iff_getElem?.1 hm;exact zzV ho hm
   refine⟨?_,by simp;omega,fun x hx=>?_⟩
   ·rw[List.nodup_append]
    refine⟨h.nd,by simp,fun a ha c hc=>?_⟩
    simp at hc;subst hc
    exact fun e=>hn (e▸ha)
   ·rcases List.mem_append.1 hx with hx|hx
    ·exact h.each x hx
    ·simp at hx;subst hx;exact hb
theorem zmF.seal {L:List (List UInt8)}(h:zmF L){x:zp}(hx:zmT x.op<=20971520):zmF (zoh L x):=by
 unfold zoh;split
 ·exact h
 ·rename_i hc;exact h.sum (by have:=zps (x:=x) (by omega) (by simpa using hc);omega)
theorem zpI {id m t id2 m2 t2:Nat}{L:List (List UInt8)}{G:List zI}{x:zp}(hT:zgK σ id m t L)(hG:zfj σ id2 m2 t2 G)(h1:id≠id2)(h2:m≠m2)(hL:zmF L)(hGl:G.length<=1073741824)
  (hx:zmT x.op<=20971520) {K:KT}
  (hK:K (.tup [zjj (zeT L x),.d (.int .i64 (zjM L x))]) (putLed (putTab σ id m t (zoh L x)) id2 m2 t2 (zpO L G x))):zP zgz [.box id 0,.box id2 0,reqA x] σ K:=by
 refine acE3 zxK fun hl=>?_;have hsz:=sizes hx;simp only[zqu,iN,bT,bF,eN,zl1,reqA];refine zG ?_;refine c_rqBytes (x:=x) hx ?_;by_cases hc:zT x=0
 ·have hb:(zT x != 0)=false:=by simpa using hc
  have hrl:=zps (x:=x) (by omega) hc;refine zm hb ?_;refine c_made (hT.app _) (hG.app _) hL.nd hL.len hL.each ?_;refine zG ?_;refine c_rqKey ?_;rw[show zbU x=znz x from if_pos hc];refine zG ?_;refine c_tSum (hT.app _) (by omega) hL.len ?_;rw[zsR hT];simp only[zoh,zpO,hc,ne_eq,not_true_eq_false,if_false]at hK;have e1:zjM L x=zgS (zuV x.client) (zhT L (znz x)):=by rw[zjM,if_neg (by simpa using hc)]
  rw[e1]at hK;have hG1:=zfj.putTab hT hG h1 h2 (zfX L (znz x));have hl1:=hT.lows hl (zfX L (znz x));have hs1:=zpt σ id m t (zfX L (znz x));obtain⟨S1,hS1⟩:∃S1,putTab σ id m t (zfX L (znz x))=S1:=⟨_,rfl⟩;rw[hS1]at hK hG1 hs1 hl1 ⊢;rw[← hs1]at hl1;have r1:σ.length=S1.length:=hs1.symm;refine zm r1 ?_;refine c_gSign (hG1.app _) hGl ?_;rw[zsS hG1];obtain⟨N,hN⟩:∃N,zgS (zuV x.client) (zhT L (znz x))=N:=⟨_,rfl⟩;have hl2:=hG1.lows hl1 (zhn G (zuV x.client) (zhT L (znz x)));have hs2:=zyk S1 id2 m2 t2 (zhn G (zuV x.client) (zhT L (znz x)));obtain⟨S2,hS2⟩:∃S2,putLed S1 id2 m2 t2 (zhn G (zuV x.client) (zhT L (znz x)))=S2:=⟨_,rfl⟩;rw[hS2]at hK hs2 hl2 ⊢;rw[← hs2]at hl2;have r2:σ.length=S2.length:=by rw[r1];exact hs2.symm
  have r3:S1.length=S2.length:=hs2.symm;rw[hN]at hK ⊢;simp only[zuw];by_cases hN0:N=0
  ·have hq:(N != 0)=false:=by simpa using hN0
   have e2:zeT L x=⟨x.client,x.time,x.op,zuV x.client,zhT L (znz x)⟩:=by rw[zeT,if_pos (by rw[e1,hN,hN0])]
   have e3:signR (zuV x.client) (zhT L (znz x))=⟨zuV x.client,zhT L (znz x)⟩:=by rw[signR,if_pos (by rw[hN,hN0])]
   rw[e2]at hK;rw[e3];refine zm (zd hq (zd r2 r3)) ?_;refine ziV (o:=x.op) hsz.2.2.1 hsz.2.2.2 ?_;simp only[opA];refine zm (zd hq (zd r2 r3)) ?_;rw[hN0]at hK;refine zfa rfl ?_ hl2 ?_
   ·simp[zha,dmT,dm,dm1,zcm,zbw,zfs]
   ·exact hK
  ·have hq:(N != 0)=true:=by simpa using hN0
   have e2:zeT L x=noSg:=by rw[zeT,if_neg (by rw[e1,hN];exact hN0)]
   rw[e2]at hK;rw[show signR (zuV x.client) (zhT L (znz x))=⟨0,0⟩from by rw[signR,if_neg (by rw[hN];exact hN0)]];refine zm (zd hq (zd r2 r3)) ?_;refine zfa rfl ?_ hl2 ?_
   ·simp[zha,dmT,dm,dm1,zcm,zbw,zfs]
   ·exact hK
 ·have hb:(zT x != 0)=true:=by simpa using hc
  have e1:zjM L x=zT x:=if_pos hc;have e2:zeT L x=noSg:=by rw[zeT,if_neg (by rw[e1];exact hc)]
  rw[e1,e2,zoh,zpO,if_pos hc,if_pos hc,hT.self,hG.self]at hK;refine zm hb ?_;refine zu hl ?_;exact hK
variable {σ:List AObj}
theorem c_rqrKey {c:Int}{K:KT}(hK:K (.d (.int .i64 (zuV c))) σ):zP zou [.d (.int .i64 c)] σ K:=c_rKey hK
theorem c_rqrSeal {id id2:Nat}{L:List (List UInt8)}{G:List zI}{x:zp}(hT:σ[id]? = some (rtO L))(hG:σ[id2]? = some (rlO G))(h1:id≠id2)(hL:zmF L)(hGl:G.length<=1073741824)
  (hx:zmT x.op<=20971520) {K:KT}
  (hK:K (.tup [zjj (zeT L x),.d (.int .i64 (zjM L x))]) ((σ.set id (rtO (zoh L x))).set id2 (rlO (zpO L G x)))):zP zpz [.box id 0,.box id2 0,reqA x] σ K:=by
 refine acE3 e_r08_Seal fun hl=>?_;have hsz:=sizes hx;simp only[zzk,iN,bT,bF,eN,zl1,reqA];refine zG ?_;refine zyR (x:=x) hx ?_;by_cases hc:zT x=0
 ·have hb:(zT x != 0)=false:=by simpa using hc
  have hrl:=zps (x:=x) (by omega) hc;refine zm hb ?_;refine c_rqrKey ?_;rw[show zbU x=znz x from if_pos hc];refine zG ?_;refine c_rtSum (zi hT) (by omega) hL.len ?_;rw[zdk hT];simp only[zoh,zpO,hc,ne_eq,not_true_eq_false,if_false]at hK;have e1:zjM L x=zgS (zuV x.client) (zhT L (znz x)):=by rw[zjM,if_neg (by simpa using hc)]
  rw[e1]at hK;have hl1:zhl σ.length (σ.set id (rtO (zfX L (znz x)))):=hl.setO (rtO_low _ _);have hs1:(σ.set id (rtO (zfX L (znz x)))).length=σ.length:=by simp
  have hG1:(σ.set id (rtO (zfX L (znz x))))[id2]? = some (rlO G):=by rw[List.getElem?_set_ne h1];exact hG
  obtain⟨S1,hS1⟩:∃S1,σ.set id (rtO (zfX L (znz x)))=S1:=⟨_,rfl⟩;rw[hS1]at hK hG1 hs1 hl1 ⊢;have r1:σ.length=S1.length:=hs1.symm;refine zm r1 ?_;refine c_rgSign (zi hG1) hGl ?_;rw[zdk hG1];obtain⟨N,hN⟩:∃N,zgS (zuV x.client) (zhT L (znz x))=N:=⟨_,rfl⟩;have hl2:zhl σ.length (S1.set id2 (rlO (zhn G (zuV x.client) (zhT L (znz x))))):=hl1.setO (rlO_low _ _);have hs2:(S1.set id2 (rlO (zhn G (zuV x.client) (zhT L (znz x))))).length=S1.length:=by simp
  obtain⟨S2,hS2⟩:∃S2,S1.set id2 (rlO (zhn G (zuV x.client) (zhT L (znz x))))=S2:=⟨_,rfl⟩;rw[hS2]at hK hs2 hl2 ⊢;have r2:σ.length=S2.length:=by rw[r1];exact hs2.symm
  have r3:S1.length=S2.length:=hs2.symm;rw[r2]at hl2;rw[hN]at hK ⊢;simp only[zuw];by_cases hN0:N=0
  ·have hq:(N != 0)=false:=by simpa using hN0
   have e2:zeT L x=⟨x.client,x.time,x.op,zuV x.client,zhT L (znz x)⟩:=by rw[zeT,if_pos (by rw[e1,hN,hN0])]
   have e3:signR (zuV x.client) (zhT L (znz x))=⟨zuV x.client,zhT L (znz x)⟩:=by rw[signR,if_pos (by rw[hN,hN0])]
   rw[e2]at hK;rw[e3];refine zm (zd hq (zd r2 r3)) ?_;rw[hN0]at hK;refine zfa rfl ?_ hl2 ?_
   ·simp[zha,dmT,dm,dm1,zcm,zbw,zfs]
   ·exact hK
  ·have hq:(N != 0)=true:=by simpa using hN0
   have e2:zeT L x=noSg:=by rw[zeT,if_neg (by rw[e1,hN];exact hN0)]
   rw[e2]at hK;rw[show signR (zuV x.client) (zhT L (znz x))=⟨0,0⟩from by rw[signR,if_neg (by rw[hN];exact hN0)]];refine zm (zd hq (zd r2 r3)) ?_;refine zfa rfl ?_ hl2 ?_
   ·simp[zha,dmT,dm,dm1,zcm,zbw,zfs]
   ·exact hK
 ·have hb:(zT x != 0)=true:=by simpa using hc
  have e1:zjM L x=zT x:=if_pos hc;have e2:zeT L x=noSg:=by rw[zeT,if_neg (by rw[e1];exact hc)]
  rw[e1,e2,zoh,zpO,if_pos hc,if_pos hc,zbS hT,zbS hG]at hK;refine zm hb ?_;refine zu hl ?_;exact hK
variable {σ:List AObj}
theorem zAB {id m t:Nat}{g:List zI}(hG:zfj σ id m t g)(hg:g.length<=1073741824){K:KT}
  (hK:∀g':List zI,K (.box (σ.length+1) 0) (σ++ledO σ.length g')):zP zcy [.box id 0] σ K:=by
 refine zbO zeE.is rfl (fun s=>List.range' σ.length 3) fun hl _=>zeE.goes ?_;have hbx:∀τ,(σ++τ)[id]? = _:=fun τ=>zi hG.box;have hlen:(ztW g).length=g.length:=List.length_map ..;simp only[zgt,iN,bT,bF,eN];refine zzY ?_;refine zwT hG ?_;refine zoe hbx ?_;refine znv ?_;refine zoe (zdq hbx hlen) ?_;refine zn g.length (fun k vs s=>vs=[.d (.int .i64 k)]/\∃g' τ,g'.length<=k/\s=σ++(ledO σ.length g'++τ)) ⟨rfl,[],[],by simp,by simp[ztW,zxB]⟩ ?_;rintro k vs s hk ⟨rfl,g',τ,hg',rfl⟩;by_cases hlt:k<g.length
 ·have hd:decide ((k:Int)<(g.length:Int))=true:=by simp;omega
  have hx:g[k]? = some g[k]:=by simp[hlt]
  obtain⟨x,hxe⟩:∃x,g[k]=x:=⟨_,rfl⟩;rw[hxe]at hx;have hgx:(ztW g)[k]? = some [D.int .i64 x.key,D.int .i64 x.dig]:=by rw[ztW];exact zQ hx
  refine zoe (zdq hd (zdq hgx hlen)) ?_;have hL:∀τ',zfj (σ++(ledO σ.length g'++τ')) (σ.length+1) σ.length (σ.length+2) g':=fun τ'=>ledAt_new σ g' τ';refine c_gSign (hL (τ++[.box [.d (.int .i64 x.key),.d (.int .i64 x.dig)]])) (by omega) ?_;have hP:=putLed_new σ g' (zhn g' x.key x.dig) (τ++[.box [.d (.int .i64 x.key),.d (.int .i64 x.dig)]]);rw[hP];have hw:IntKind.i64.wrap ((k:Int)+1)=((k+1:Nat):Int):=by rw[zaQ (by omega) (by omega)];rfl
  refine zoe hw ?_;refine zaK.next hlt ⟨rfl,zhn g' x.key x.dig,τ++[.box [.d (.int .i64 x.key),.d (.int .i64 x.dig)]],?_,by simp[ledO]⟩;unfold zhn zzE;split
  ·split
   ·omega
   ·simp;omega
  ·omega
 ·have hd:decide ((k:Int)<(g.length:Int))=false:=by simp;omega
  refine zoe (zdq hlen hd) ?_;exact zud (σ':=σ) (os:=ledO σ.length g') (τ:=τ) rfl rfl hl (low_ledO _ _) (.box _ _ (by simp)) (hK g')
variable {σ:List AObj}
theorem c_auPut {b:List UInt8}{l:List Int}(hb:b.length<=1000000)(hl0:l.length<=1000)(hi:∀x∈l,0<=x/\x<=9007199254740992){K:KT}(hK:K (.d (.slice (bcs (b++zS l)))) σ) :
  zP zpB [.d (.slice (bcs b)),.d (.slice (zhV l))] σ K:=by
 refine zec e_auth_put fun hl=>?_;simp only[zzv,iN,bT,bF,eN];refine zG ?_;refine zn l.length (fun k vs s=>(∃x,vs=[x,.d (.int .i64 k)]/\(x=.d (.slice (bcs (b++zS (l.take k))))∨∃t,x=.own t (bcs (b++zS (l.take k)))))/\∃T,s=σ++T) ⟨⟨_,rfl,.inl (by simp[zS])⟩,[],by simp⟩ ?_;rintro k vs s hk ⟨⟨y,rfl,hy⟩,T,rfl⟩;have hdy:dm y=.d (.slice (bcs (b++zS (l.take k)))):=by
  rcases hy with rfl|⟨t,rfl⟩<;>rfl
 by_cases hlt:k<l.length
 ·have hd:decide ((k:Int)<(l.length:Int))=true:=by simp;omega
  have hx:l[k]? = some l[k]:=by simp[hlt]
  have hxi:=hi _ (List.getElem_mem hlt);have hgx:=zQ (f:=fun t=>[D.int .i64 t]) hx;obtain⟨x,hxe⟩:∃x,l[k]=x:=⟨_,rfl⟩;rw[hxe]at hx hgx hxi;have hm1:(if x>0 then x else 0)=x:=by split<;>omega
  have hm2:(if 0<x then x else 0)=x:=by split<;>omega
  have hw:IntKind.u64.wrap x=((x.toNat:Nat):Int):=by
   rw[show x=((x.toNat:Nat):Int) by omega,zdR (by omega)];rfl
  have hln:=zoq (l:=l.take k) (fun y hy=>by have:=hi y (List.mem_of_mem_take hy);omega);have hlk:(l.take k).length=k:=by rw[List.length_take];omega
  have hw2:IntKind.i64.wrap ((k:Int)+1)=((k+1:Nat):Int):=by rw[zaQ (by omega) (by omega)];rfl
  have hbl:(b++zS (l.take k)).length<=1073741824:=by rw[List.length_append];omega
  rcases hy with rfl|⟨t,rfl⟩
  ·refine zm (zd hd (zd hgx (zd hm1 (zd hm2 hw)))) ?_;refine zfv (by omega) hbl ?_;refine zm hw2 ?_;exact zaK.next hlt ⟨⟨_,rfl,.inr ⟨_,by rw[zpu hx]⟩⟩,_,rfl⟩
  ·refine zm (zd hd (zd hgx (zd hm1 (zd hm2 hw)))) ?_;refine zfv (by omega) hbl ?_;refine zm hw2 ?_;exact zaK.next hlt ⟨⟨_,rfl,.inr ⟨_,by rw[zpu hx]⟩⟩,_,rfl⟩
 ·have hd:decide ((k:Int)<(l.length:Int))=false:=by simp;omega
  rw[List.take_of_length_le (by omega)]at hy;rcases hy with rfl|⟨t,rfl⟩
  ·refine zm hd ?_;refine zu hl ?_;exact hK
  ·refine zm hd ?_;refine zu hl ?_;exact hK
variable {σ:List AObj}
theorem may_all {a b c d:Int}(h:mayV a b c d=true):∀x∈[a,b,c,d],0<=x/\x<=9007199254740992:=by
 rw[mayV_all,List.all_eq_true]at h;exact fun x hx=>zvE.1 (h x hx)
theorem zhM {a b c d:Int}(h:mayV a b c d=true){K:KT}(hK:K (.d (.slice (bcs (zvk a b c d)))) σ) :
  zP zff [.d (.int .i64 a),.d (.int .i64 b),.d (.int .i64 c),.d (.int .i64 d)] σ K:=by
 refine acE4 zuL fun hl=>?_;simp only[znS,iN,bT,bF,eN];refine zG ?_;refine c_auPut (b:=[4]) (l:=[a,b,c,d]) (by simp) (by simp) (may_all h) ?_;refine zG ?_;refine zu hl ?_;exact hK
theorem c_auMade {id m t id2 m2 t2:Nat}{l:List (List UInt8)}{g:List zI}(hT:zgK σ id m t l)(hG:zfj σ id2 m2 t2 g)(hL:zmF l)(hg:g.length<=1073741824){K:KT}
  (hK:K (.d (.bool true)) σ):zP zng [.box id 0,.box id2 0] σ K:=by
 refine zec e_auth_made fun hl=>?_;simp only[zxv,iN,bT,bF,eN];refine zG ?_;refine zvb hT hL.nd hL.len hL.each ?_;refine zG ?_;refine zAB (hG.app _) hg fun g'=>?_;refine zG ?_;refine zu hl ?_;exact hK
theorem c_auSigned {id m t id2 m2 t2:Nat}{L:List (List UInt8)}{G:List zI}{s:zI}{key:Int}{b:List UInt8}(hT:zgK σ id m t L)(hG:zfj σ id2 m2 t2 G){K:KT}
  (hK:K (.d (.bool (zim L G s key b))) σ):zP znf [.box id 0,.box id2 0,.agg [.d (.int .i64 s.key),.d (.int .i64 s.dig)],.d (.int .i64 key),.d (.slice (bcs b))] σ K:=by
 refine acE5 zAn fun hl=>?_;have hT1:=fun τ=>hT.app τ;have hG1:=fun τ=>hG.app τ;simp only[zsF,iN,bT,bF,eN];refine zG ?_;refine c_tLook (hT1 _) ?_;have fin:∀z,zim L G s key b=z->K (.d (.bool z)) σ:=fun z h=>h▸hK;clear hK;cases hlk:zhE L b with
 | none=>
  refine gq28 ?_
  refine zu hl ?_
  exact fin _ (by simp[zim,hlk])
 | some i=>
  simp only[zor]
  cases h1:(s.key==key)
  ·refine zdy h1 ?_
   refine zu hl ?_
   exact fin _ (by simp at h1;simp[zim,hlk,h1])
  ·cases h2:(s.dig==((i+1:Nat):Int))
   ·refine zdy (zd h1 h2) ?_
    refine zu hl ?_
    exact fin _ (by simp at h1 h2;simp[zim,hlk,h1];omega)
   ·refine zdy (zd h1 h2) ?_
    refine c_gSigned (s:=s) (hG1 _) ?_
    refine zG ?_
    refine zu hl ?_
    exact fin _ (by simp at h1 h2;simp[zim,hlk,h1,h2])
abbrev uns7 (m:zbD) (c:zbl):zbD:={ m with changes:=[{ c with key:=0,dig:=1 }] }
theorem some7 {m:zbD}{c:zbl}(hk:m.kind=7)(hc:m.changes=[c]):zbt m=uns7 m c:=by simp[zbt,hk,hc]
theorem uns7_small {m:zbD}{c:zbl}(h:zaJ m)(hc:m.changes=[c]):zaJ (uns7 m c):=by
 obtain⟨h1,h2,h3,h4,h5,h6,h7,h8,h9,h10⟩:=h;obtain⟨⟨a1,a2,a3⟩,⟨b1,b2,b3⟩⟩:=h5 c (by rw[hc];simp);exact⟨h1,h2,h3,by simp,by intro x hx;simp at hx;subst hx;exact⟨⟨a1,a2,a3⟩,⟨b1,b2,b3⟩⟩,h6,h7,h8,h9,h10⟩
abbrev zvl (m:zbD):zbD:={ m with key:=0,sdig:=1 }
theorem uns8_small {m:zbD}(h:zaJ m):zaJ (zvl m):=by
 obtain⟨h1,h2,h3,h4,h5,h6,h7,h8,h9,h10⟩:=h;exact⟨h1,h2,h3,h4,h5,h6,h7,h8,h9,h10⟩
theorem bcs1 (l:List UInt8):∀e∈bcs l,e.length=1:=by
 intro e he;simp only[bcs,List.mem_map]at he;obtain⟨x,_,rfl⟩:=he;rfl
variable {σ:List AObj}
theorem res_eq {e o:Int}(he:0<=e)(ho:0<=o):resB e o=zbx e.toNat++zbx o.toNat:=by
 rw[resB,Int.max_eq_right he,Int.max_eq_right ho]
theorem unsG7 {m:zbD}(h:m.kind=7∨m.kind=8):unsB m=znT m:=by
 cases hc:m.changes<;>rcases h with h|h<;>simp[unsB,znT,zfq,h,hc]
theorem zwI {id:Nat}{b:List UInt8}{m:zbD}(hσ:σ[id]? = some (wO b))(hb:b.length<=900000)(h:zbL m=0){K:KT}(hK:K (.tup []) (σ.set id (wO (b++znT m)))) :
  zP zbr [.box id 0,zge m] σ K:=by
 have hkk:=kinds h;by_cases h7:m.kind=7
 ·obtain⟨c,hc,he⟩:=zwG h7 h;exact c_wUns7 hσ (by omega) h7 hc (ziU he).1 (by rw[unsG7 (.inl h7)];exact hK)
 by_cases h8:m.kind=8
 ·exact c_wUns8 hσ (by omega) h8 (check8 h8 h).1 (by rw[unsG7 (.inr h8)];exact hK)
 have hall:=(zgJ h).1;have gi:∀n lo hi:Int,inE n lo hi∈zB m->lo<=n/\n<=hi:=fun n lo hi hm=>zkz (hall _ (by simp[zab,hm]));refine zec zei fun hl=>?_;have hid:=zY hσ;have n0:=zj (n:=m.kind.toNat) (by omega);have hf:∀ {S b'},zlE σ id (zlb m) (wO b') S->b'=b++znT m->AW.Ends σ.length K (some []) S:=fun j e=>(j.as (by rw[e])).done (zqd _ _) hl hK;simp only[zcX,iN,bT,bF,eN,zl6];have j:=zlE.first hσ (zlb m);refine zG ?_;refine zgC (b:=b) (l:=[m.kind]) j hid (by omega) (by simp) (by simp;omega) fun S j=>?_;have b0:=j.b;have e0:zS [m.kind]=zbx m.kind.toNat:=by simp[zS]
 rw[e0]at j;obtain⟨b1,hb1⟩:∃b1,b++zbx m.kind.toNat=b1:=⟨_,rfl⟩;have hb1l:b1.length<=900010:=by rw[← hb1,List.length_append];omega
 have hu:b++znT m=b1++zfq m:=by rw[znT,← List.append_assoc,hb1]
 rw[hb1]at j;by_cases hv:m.kind=2∨m.kind=3∨m.kind=4
 ·obtain⟨v1,v2,v3,v4⟩:=zzx h hv;have q:=zcd (l:=[m.src,m.view,m.seq,m.dig]) (by simp;omega);simp only[List.length_cons,List.length_nil]at q;rcases hv with hk|hk|hk
  ·have hcb:zD m.batch=0:=hall _ (by simp[zab,zB,hk]);refine zm (zd b0 (K2 hk)) ?_;refine zgC (b:=b1) (l:=[m.src,m.view,m.seq,m.dig]) j hid (by omega) (by simp) (by simp;omega) fun S j=>?_;have b0:=j.b;refine zm (zd b0 (K2 hk)) ?_;refine zuW (b:=b1++zS [m.src,m.view,m.seq,m.dig]) j hid (by rw[List.length_append];omega) hcb fun S j=>?_;refine zG ?_;exact hf j (by rw[hu];simp[zfq,hk])
  ·refine zm (zd b0 (K3 hk)) ?_;refine zgC (b:=b1) (l:=[m.src,m.view,m.seq,m.dig]) j hid (by omega) (by simp) (by simp;omega) fun S j=>?_;have b0:=j.b;refine zm (zd b0 (K3 hk)) ?_;exact hf j (by rw[hu];simp[zfq,hk])
  ·refine zm (zd b0 (K4 hk)) ?_;refine zgC (b:=b1) (l:=[m.src,m.view,m.seq,m.dig]) j hid (by omega) (by simp) (by simp;omega) fun S j=>?_;have b0:=j.b;refine zm (zd b0 (K4 hk)) ?_;exact hf j (by rw[hu];simp[zfq,hk])
 by_cases hk:m.kind=1
 ·have hcb:zD m.batch=0:=hall _ (by simp[zab,zB,hk]);refine zm (zd b0 (K1 hk)) ?_;refine zuW (b:=b1) j hid (by omega) hcb fun S j=>?_;refine zG ?_;exact hf j (by rw[hu];simp[zfq,hk])
 by_cases hk:m.kind=5
 ·obtain⟨h1,h2,h3,h4,h5,h6,_⟩:=zyN hk h;have q:=zcd (l:=[m.src,m.view,m.client,m.time]) (by simp;omega);simp only[List.length_cons,List.length_nil]at q;refine zm (zd b0 (K5 hk)) ?_;refine zgC (b:=b1) (l:=[m.src,m.view,m.client,m.time]) j hid (by omega) (by simp) (by simp;omega) fun S j=>?_;have b0:=j.b;have a0:=j.a;refine zm (zd b0 a0) ?_;refine c_PutResult (e:=m.rerr) (o:=m.roff) (b:=b1++zS [m.src,m.view,m.client,m.time]) (by rw[List.length_append];omega) (by omega) (by omega) ?_;refine zm (zd b0 a0) ?_;exact hf (j.set hid _) (by rw[hu];simp[zfq,hk,res_eq h5.1 h6.1])
 by_cases hk:m.kind=6
 ·have g1:=gi m.src 0 12 (by simp[zB,hk,zjy]);have g2:=gi m.seq 1 9007199254740992 (by simp[zB,hk,zkg]);have g3:=gi m.dig 1 9007199254740992 (by simp[zB,hk,zkg]);refine zm (zd b0 (K6 hk)) ?_;refine zgC (b:=b1) (l:=[m.src,m.seq,m.dig]) j hid (by omega) (by simp) (by simp;omega) fun S j=>?_;refine zG ?_;exact hf j (by rw[hu];simp[zfq,hk])
 by_cases hk:m.kind=9
 ·have g1:=gi m.src 0 12 (by simp[zB,hk,zjy]);have g2:=gi m.seq 0 9007199254740992 (by simp[zB,hk,zeR]);refine zm (zd b0 (K9 hk)) ?_;refine zgC (b:=b1) (l:=[m.src,m.seq]) j hid (by omega) (by simp) (by simp;omega) fun S j=>?_;refine zG ?_;exact hf j (by rw[hu];simp[zfq,hk])
 by_cases hk:m.kind=10
 ·have g1:=gi m.src 0 12 (by simp[zB,hk,zjy]);have g2:∀e∈zbz m.cert,e=0:=fun e he=>hall e (by simp[zab,zB,hk,he]);have g3:=gi m.state.length 0 262144 (by simp[zB,hk]);have q:=zcd (l:=[m.src]) (by simp;omega);have q2:=zhI g2;simp only[List.length_cons,List.length_nil]at q;refine zm (zd b0 (K10 hk)) ?_;refine zgC (b:=b1) (l:=[m.src]) j hid (by omega) (by simp) (by simp;omega) fun S j=>?_;have b0:=j.b;refine zm b0 ?_;refine jw_cert (b:=b1++zS [m.src]) (c:=m.cert) j hid (by rw[List.length_append];omega) g2 fun S j=>?_;have b0:=j.b;refine zm b0 ?_;refine jw_str (b:=b1++zS [m.src]++zrt m.cert) (x:=m.state) j hid (by simp only[List.length_append];omega) (by omega) fun S j=>?_;refine zG ?_;exact hf j (by rw[hu];simp[zfq,hk])
 by_cases hk:m.kind=11
 ·have g1:=gi m.client 0 7 (by simp[zB,hk]);have g2:=gi m.offset 0 9007199254740992 (by simp[zB,hk,zeR]);have g3:m.topic.length<=64:=by
   refine zyr ?_;have:=hall (zla m.topic) (by simp[zab,zB,hk]);unfold zla at this;split at this
   ·assumption
   ·cases this
  have q:=zcd (l:=[m.client]) (by simp;omega);have p1:=zdl (x:=m.topic) (by omega);simp only[List.length_cons,List.length_nil]at q;refine zm (zd b0 (K11 hk)) ?_;refine zgC (b:=b1) (l:=[m.client]) j hid (by omega) (by simp) (by simp;omega) fun S j=>?_;have b0:=j.b;refine zm b0 ?_;refine jw_str (b:=b1++zS [m.client]) (x:=m.topic) j hid (by rw[List.length_append];omega) (by omega) fun S j=>?_;have b0:=j.b;refine zm b0 ?_;refine zgC (b:=b1++zS [m.client]++zkf m.topic) (l:=[m.offset]) j hid (by simp only[List.length_append];omega) (by simp) (by simp;omega) fun S j=>?_;refine zG ?_;exact hf j (by rw[hu];simp[zfq,hk])
 have hk:m.kind=12:=by omega
 have g1:=gi m.src 0 12 (by simp[zB,hk,zjy]);have g2:zrA m.proof:=zzM fun e he=>hall e (by simp[zab,zB,hk,he]);have q:=zcd (l:=[m.src]) (by simp;omega);simp only[List.length_cons,List.length_nil]at q;refine zm (zd b0 (K12 hk)) ?_;refine zgC (b:=b1) (l:=[m.src]) j hid (by omega) (by simp) (by simp;omega) fun S j=>?_;have b0:=j.b;refine zm b0 ?_;refine c_wProof (b:=b1++zS [m.src]) (p:=m.proof) j.a (by rw[List.length_append];omega) g2 ?_;refine zG ?_;exact hf (j.set hid _) (by rw[hu];simp[zfq,hk])
theorem zjx {m:zbD}(h:zfS m=0):zbL m=0/\(ztj m).length<=262144:=by
 unfold zfS at h;split at h
 ·rename_i hh;exact absurd h hh
 ·rename_i hh;split at h
  ·cases h
  ·exact⟨by simpa using hh,by omega⟩
theorem unsG_len {m:zbD}(hm:m.state.length<=1073741824)(h:zbL m=0):(znT m).length<=700000:=by
 have hkk:=kinds h;have hall:=(zgJ h).1;have gi:∀n lo hi:Int,inE n lo hi∈zB m->lo<=n/\n<=hi:=fun n lo hi hm=>zkz (hall _ (by simp[zab,hm]));have n0:=zj (n:=m.kind.toNat) (by omega);have fin:(zfq m).length<=600000->(znT m).length<=700000:=fun h=>by rw[znT,List.length_append];omega
 refine fin ?_;clear fin;by_cases hv:m.kind=2∨m.kind=3∨m.kind=4
 ·obtain⟨v1,v2,v3,v4⟩:=zzx h hv;have q:=zcd (l:=[m.src,m.view,m.seq,m.dig]) (by simp;omega);simp only[List.length_cons,List.length_nil]at q;rcases hv with hk|hk|hk
  ·have hcb:zD m.batch=0:=hall _ (by simp[zab,zB,hk]);have:=(zdI hcb).2;simp only[zfq,hk,reduceIte,Int.reduceEq,List.length_append];omega
  ·simp only[zfq,hk,reduceIte,Int.reduceEq,true_or];omega
  ·simp only[zfq,hk,reduceIte,Int.reduceEq,or_true];omega
 by_cases hk:m.kind=1
 ·have hcb:zD m.batch=0:=hall _ (by simp[zab,zB,hk]);have:=(zdI hcb).2;simp only[zfq,hk,reduceIte];omega
 by_cases hk:m.kind=5
 ·obtain⟨h1,h2,h3,h4,h5,h6,_⟩:=zyN hk h;have q:=zcd (l:=[m.src,m.view,m.client,m.time]) (by simp;omega);have n5:=zj (n:=m.rerr.toNat) (by omega);have n6:=zj (n:=m.roff.toNat) (by omega);simp only[List.length_cons,List.length_nil]at q;simp only[zfq,hk,reduceIte,Int.reduceEq,or_self,List.length_append];omega
 by_cases hk:m.kind=6
 ·have g1:=gi m.src 0 12 (by simp[zB,hk,zjy]);have g2:=gi m.seq 1 9007199254740992 (by simp[zB,hk,zkg]);have g3:=gi m.dig 1 9007199254740992 (by simp[zB,hk,zkg]);have q:=zcd (l:=[m.src,m.seq,m.dig]) (by simp;omega);simp only[List.length_cons,List.length_nil]at q;simp only[zfq,hk,reduceIte,Int.reduceEq,or_self];omega
 by_cases hk:m.kind=7
 ·obtain⟨c,hc,he⟩:=zwG hk h;have:=zsu (ziU he).1;simp only[zfq,hk,reduceIte,Int.reduceEq,or_self,hc];omega
 by_cases hk:m.kind=8
 ·have:=newvB_len (check8 hk h).1;simp only[zfq,hk,reduceIte,Int.reduceEq,or_self];omega
 by_cases hk:m.kind=9
 ·have g1:=gi m.src 0 12 (by simp[zB,hk,zjy]);have g2:=gi m.seq 0 9007199254740992 (by simp[zB,hk,zeR]);have q:=zcd (l:=[m.src,m.seq]) (by simp;omega);simp only[List.length_cons,List.length_nil]at q;simp only[zfq,hk,reduceIte,Int.reduceEq,or_self];omega
 by_cases hk:m.kind=10
 ·have g1:=gi m.src 0 12 (by simp[zB,hk,zjy]);have g2:∀e∈zbz m.cert,e=0:=fun e he=>hall e (by simp[zab,zB,hk,he]);have g3:=gi m.state.length 0 262144 (by simp[zB,hk]);have q:=zcd (l:=[m.src]) (by simp;omega);have q2:=zhI g2;have q3:=zdl (x:=m.state) (by omega);simp only[List.length_cons,List.length_nil]at q;simp only[zfq,hk,reduceIte,Int.reduceEq,or_self,List.length_append];omega
 by_cases hk:m.kind=11
 ·have g1:=gi m.client 0 7 (by simp[zB,hk]);have g2:=gi m.offset 0 9007199254740992 (by simp[zB,hk,zeR]);have g3:m.topic.length<=64:=by
   refine zyr ?_;have:=hall (zla m.topic) (by simp[zab,zB,hk]);unfold zla at this;split at this
   ·assumption
   ·cases this
  have q:=zcd (l:=[m.client]) (by simp;omega);have q2:=zcd (l:=[m.offset]) (by simp;omega);have p1:=zdl (x:=m.topic) (by omega);simp only[List.length_cons,List.length_nil]at q q2;simp only[zfq,hk,reduceIte,Int.reduceEq,or_self,List.length_append];omega
 have hk:m.kind=12:=by omega
 have g1:=gi m.src 0 12 (by simp[zB,hk,zjy]);have g2:zrA m.proof:=zzM fun e he=>hall e (by simp[zab,zB,hk,he]);have q:=zcd (l:=[m.src]) (by simp;omega);have q2:=proofB_len g2;simp only[List.length_cons,List.length_nil]at q;simp only[zfq,hk,reduceIte,Int.reduceEq,or_self,List.length_append];omega
variable {σ:List AObj}
theorem zsp {m:zbD}(hm:zaJ m){K:KT}(hK:∀b:List UInt8,K (.tup [.d (.slice (bcs b)),.d (.int .i64 (zfS m))]) σ) :
  zP zkp [zge m] σ K:=by
 refine zez zwz fun hl=>?_;have fin:∀b z,zfS m=z->K (.tup [.d (.slice (bcs b)),.d (.int .i64 z)]) σ:=fun b z h=>h▸hK b;clear hK;simp only[zpi,iN,bT,bF,eN];refine zG ?_;refine c_mCheckG (m:=m) hm ?_;cases h1:(zbL m != 0);rotate_left
 ·refine zm h1 ?_;refine zu hl ?_;exact fin [] _ (by simp at h1;simp[zfS,h1])
 have h1':zbL m=0:=by simpa using h1
 have hul:=unsG_len hm.state h1';have ende:∀u,ztj m=u->zfS m=if u.length>262144 then 3 else 0:=fun u hu=>by simp[zfS,h1',hu]
 refine zm h1 ?_;refine ACall.pre (.dataB (σ.length+1) 0 [.exact []] (.exact []) [] (by simp) rfl rfl (.refl _ _)) ?_;have hW:((σ++[zlb m,.box [.exact []]]).set (σ.length+1) (.box (([AV.exact []]:List AV).set 0 (.d (.slice [])))))=σ++[zlb m,wO []]:=by rw[zZ];rfl
 rw[hW];refine zwI (b:=[]) (m:=m) (by rw[zA];rfl) (by simp) h1' ?_;rw[zZ];by_cases h7:m.kind=7
 ·obtain⟨c,hc,he⟩:=zwG h7 h1';have hgx:(zam m.changes)[0]? = some (zag c):=by rw[hc];rfl
  have hgl:(zam m.changes).length=1:=by rw[hc];rfl
  refine zdy (zd (K7 h7) (zd hgx hgl)) ?_;refine zAq (b:=znT m) (by rw[zA];rfl) (by omega) (ziU he).2 ?_;rw[zZ];refine zG ?_;obtain⟨u,hu⟩:∃u,znT m++zgp c.key c.dig=u:=⟨_,rfl⟩;rw[hu];have hS:(σ++List.set [zlb m,wO (znT m)] 1 (wO u))[σ.length+1]? = some (wO u):=by rw[zA];rfl
  refine zAr (b:=u) hS ?_;refine zG ?_;refine zu hl ?_;exact fin _ _ (ende u (by rw[← hu];simp[ztj,ownS,h7,hc]))
 by_cases ho:zeQ m.kind=true
 ·have hs:=own_ok h1' ho;refine zm (show(m.kind==7)=false by simpa using h7) ?_;refine zaO ?_;refine zm ho ?_;refine zAq (b:=znT m) (by rw[zA];rfl) (by omega) hs ?_;rw[zZ];refine zG ?_;obtain⟨u,hu⟩:∃u,znT m++zgp m.key m.sdig=u:=⟨_,rfl⟩;rw[hu];have hS:(σ++List.set [zlb m,wO (znT m)] 1 (wO u))[σ.length+1]? = some (wO u):=by rw[zA];rfl
  refine zAr (b:=u) hS ?_;refine zG ?_;refine zu hl ?_;exact fin _ _ (ende u (by rw[← hu];simp[ztj,ownS,h7,ho]))
 ·have ho':zeQ m.kind=false:=by simpa using ho
  refine zm (show(m.kind==7)=false by simpa using h7) ?_;refine zaO ?_;refine zm ho' ?_;refine zAr (b:=znT m) (by rw[zA];rfl) ?_;refine zG ?_;refine zu hl ?_;exact fin _ _ (ende _ (by simp[ztj,h7,ho]))
theorem zyf {m:zbD}(h:zaJ m):zaJ (zbt m):=by
 unfold zbt;split
 ·split
  ·rename_i c hc;exact uns7_small h hc
  ·exact h
 ·split
  ·exact uns8_small h
  ·exact h
theorem c_mUnsignedG {m:zbD}(hm:zaJ m){K:KT}
  (hK:K (.tup [.d (.slice (bcs (if zfS (zbt m)=0 then znT (zbt m)else []))),.d (.int .i64 (zfS (zbt m)))]) σ):zP zhA [zge m] σ K:=by
 refine zez zsj fun hl=>?_;have hs:=zyf hm;have hgl:(zam m.changes).length=m.changes.length:=List.length_map ..;have fin:∀b z,(if zfS (zbt m)=0 then znT (zbt m)else [])=b->zfS (zbt m)=z->K (.tup [.d (.slice (bcs b)),.d (.int .i64 z)]) σ:=fun b z h h'=>h▸h'▸hK;clear hK;obtain⟨M,hM⟩:∃M,zbt m=M:=⟨_,rfl⟩;rw[hM]at fin hs;simp only[zlA,iN,bT,bF,eN,zl6];by_cases h7:m.kind=7
 ·by_cases h1:m.changes.length=1
  ·obtain⟨c,hc⟩:=List.length_eq_one_iff.1 h1;have hgx:(zam m.changes)[0]? = some (zag c):=by rw[hc];rfl
   rw[some7 h7 hc]at hM;refine zdy (zd (K7 h7) (zd hgx (zd hgl h1))) ?_;refine c_mSome ?_;refine zdy (zd hgx hgl) ?_;subst hM;refine zsp (m:=uns7 m c) hs fun b0=>?_;cases hb:(zfS (uns7 m c) != 0)
   ·have hb':zfS (uns7 m c)=0:=by simpa using hb
    refine zm hb ?_;refine ACall.pre (.dataB (σ.length+2) 0 [.exact []] (.exact []) [] (by rw[zA];rfl) rfl rfl (.refl _ _)) ?_;rw[zZ];refine zwI (b:=[]) (m:=uns7 m c) (by rw[zA];rfl) (by simp) (zjx hb').1 ?_;rw[zZ];refine zG ?_;refine zu hl ?_;exact fin _ _ (by rw[if_pos hb']) hb'
   ·have hb':zfS (uns7 m c)≠0:=by simpa using hb
    refine zm hb ?_;refine zu hl ?_;exact fin [] _ (by rw[if_neg hb']) rfl
  ·have hb1:(((m.changes.length:Nat):Int)==1)=false:=by simp;omega
   have e:zbt m=m:=by
    unfold zbt;rw[if_pos h7];split
    ·rename_i c hc;simp[hc]at h1
    ·rfl
   rw[e]at hM;refine zm (zd (K7 h7) (zd hgl hb1)) ?_;refine zaO ?_;refine zm (show zeQ m.kind=false by rw[h7];rfl) ?_;subst hM;refine zsp (m:=m) hs fun b0=>?_;cases hb:(zfS (m) != 0)
   ·have hb':zfS (m)=0:=by simpa using hb
    refine zm hb ?_;refine ACall.pre (.dataB (σ.length+1) 0 [.exact []] (.exact []) [] (by rw[zA];rfl) rfl rfl (.refl _ _)) ?_;rw[zZ];refine zwI (b:=[]) (m:=m) (by rw[zA];rfl) (by simp) (zjx hb').1 ?_;rw[zZ];refine zG ?_;refine zu hl ?_;exact fin _ _ (by rw[if_pos hb']) hb'
   ·have hb':zfS (m)≠0:=by simpa using hb
    refine zm hb ?_;refine zu hl ?_;exact fin [] _ (by rw[if_neg hb']) rfl
 by_cases ho:zeQ m.kind=true
 ·have e:zbt m=zvl m:=by simp[zbt,h7,ho]
  rw[e]at hM;refine zm (show(m.kind==7)=false by simpa using h7) ?_;refine zaO ?_;refine zm ho ?_;refine c_mSome ?_;refine zG ?_;subst hM;refine zsp (m:=zvl m) hs fun b0=>?_;cases hb:(zfS (zvl m) != 0)
  ·have hb':zfS (zvl m)=0:=by simpa using hb
   refine zm hb ?_;refine ACall.pre (.dataB (σ.length+1) 0 [.exact []] (.exact []) [] (by rw[zA];rfl) rfl rfl (.refl _ _)) ?_;rw[zZ];refine zwI (b:=[]) (m:=zvl m) (by rw[zA];rfl) (by simp) (zjx hb').1 ?_;rw[zZ];refine zG ?_;refine zu hl ?_;exact fin _ _ (by rw[if_pos hb']) hb'
  ·have hb':zfS (zvl m)≠0:=by simpa using hb
   refine zm hb ?_;refine zu hl ?_;exact fin [] _ (by rw[if_neg hb']) rfl
 ·have ho':zeQ m.kind=false:=by simpa using ho
  have e:zbt m=m:=by simp[zbt,h7,ho]
  rw[e]at hM;refine zm (show(m.kind==7)=false by simpa using h7) ?_;refine zaO ?_;refine zm ho' ?_;subst hM;refine zsp (m:=m) hs fun b0=>?_;cases hb:(zfS (m) != 0)
  ·have hb':zfS (m)=0:=by simpa using hb
   refine zm hb ?_;refine ACall.pre (.dataB (σ.length+1) 0 [.exact []] (.exact []) [] (by rw[zA];rfl) rfl rfl (.refl _ _)) ?_;rw[zZ];refine zwI (b:=[]) (m:=m) (by rw[zA];rfl) (by simp) (zjx hb').1 ?_;rw[zZ];refine zG ?_;refine zu hl ?_;exact fin _ _ (by rw[if_pos hb']) hb'
  ·have hb':zfS (m)≠0:=by simpa using hb
   refine zm hb ?_;refine zu hl ?_;exact fin [] _ (by rw[if_neg hb']) rfl
variable {σ:List AObj}
theorem znr {b:List UInt8}{x:Int}(hb:b.length<=1000000)(h0:0<=x)(h1:x<=9007199254740992){K:KT}(hK:K (.d (.slice (bcs (b++zbx x.toNat)))) σ) :
  zP zfF [.d (.slice (bcs b)),.d (.int .i64 x)] σ K:=by
 refine zec e_r11_put fun hl=>?_;have hm1:(if 0>x then 0 else x)=x:=by split<;>omega
 have hm2:(if x<0 then 0 else x)=x:=by split<;>omega
 have hw:IntKind.u64.wrap x=((x.toNat:Nat):Int):=by
  rw[show x=((x.toNat:Nat):Int) by omega,zdR (by omega)];rfl
 simp only[S_r11_put,iN,bT,bF,eN];refine zm (zd hm1 (zd hm2 hw)) ?_;refine zeM (by omega) (by omega) ?_;refine zG ?_;refine zu hl ?_;exact hK
theorem zhK {a b c d:Int}(h:mayV a b c d=true){K:KT}(hK:K (.d (.slice (bcs (zvk a b c d)))) σ) :
  zP zfG [.d (.int .i64 a),.d (.int .i64 b),.d (.int .i64 c),.d (.int .i64 d)] σ K:=by
 refine acE4 zwp fun hl=>?_;simp only[mayV,Bool.and_eq_true,zvE]at h;obtain⟨⟨a0,a1⟩,⟨b0,b1⟩,⟨c0,c1⟩,⟨d0,d1⟩⟩:=h;have l1:=zj (n:=a.toNat) (by omega);have l2:=zj (n:=b.toNat) (by omega);have l3:=zj (n:=c.toNat) (by omega);simp only[zoX,iN,bT,bF,eN];refine zG ?_;refine znr (b:=[4]) (by simp) a0 a1 ?_;obtain⟨B1,hB1⟩:∃B,[4]++zbx a.toNat=B:=⟨_,rfl⟩;have n1:B1.length<=11:=by rw[← hB1];simp;omega
 rw[hB1];refine zG ?_;refine znr (by omega) b0 b1 ?_;obtain⟨B2,hB2⟩:∃B,B1++zbx b.toNat=B:=⟨_,rfl⟩;have n2:B2.length<=21:=by rw[← hB2];simp;omega
 rw[hB2];refine zG ?_;refine znr (by omega) c0 c1 ?_;obtain⟨B3,hB3⟩:∃B,B2++zbx c.toNat=B:=⟨_,rfl⟩;have n3:B3.length<=31:=by rw[← hB3];simp;omega
 rw[hB3];refine zG ?_;refine znr (by omega) d0 d1 ?_;refine zG ?_;refine zu hl ?_;rw[show B3++zbx d.toNat=zvk a b c d by rw[← hB3,← hB2,← hB1];simp[zvk,zS]];exact hK
def zxA (L:List (List UInt8)) (key:Int) (b:List UInt8):Int:=if zhT L b=0 then 6 else zgS key (zhT L b)
def sgnS (L:List (List UInt8)) (key:Int) (b:List UInt8):zI:=if zhT L b=0 then⟨0,0⟩else signR key (zhT L b)
def zqe (L:List (List UInt8)) (G:List zI) (key:Int) (b:List UInt8):List zI:=if zhT L b=0 then G else zhn G key (zhT L b)
theorem c_raSign {id id2:Nat}{L:List (List UInt8)}{G:List zI}{key:Int}{b:List UInt8}(hT:σ[id]? = some (rtO L))(hG:σ[id2]? = some (rlO G))(h1:id≠id2)(hbl:b.length<=1073741824)(hl0:L.length<=1048576)(hg:G.length<=1073741824)
  {K:KT}
  (hK:K (.tup [zuw (sgnS L key b),.d (.int .i64 (zxA L key b))]) ((σ.set id (rtO (zfX L b))).set id2 (rlO (zqe L G key b)))) :
  zP zsV [.box id 0,.box id2 0,.d (.int .i64 key),.d (.slice (bcs b))] σ K:=by
 refine acE4 e_r11_sign fun hl=>?_;simp only[zzf,iN,bT,bF,eN];refine zG ?_;refine c_rtSum (zi hT) hbl hl0 ?_;rw[zdk hT];have hl1:zhl σ.length (σ.set id (rtO (zfX L b))):=hl.setO (rtO_low _ _);have hs1:(σ.set id (rtO (zfX L b))).length=σ.length:=by simp
 have hG1:(σ.set id (rtO (zfX L b)))[id2]? = some (rlO G):=by rw[List.getElem?_set_ne h1];exact hG
 obtain⟨S1,hS1⟩:∃S1,σ.set id (rtO (zfX L b))=S1:=⟨_,rfl⟩;rw[hS1]at hK hG1 hs1 hl1 ⊢;have r1:σ.length=S1.length:=hs1.symm;rw[r1]at hl1;by_cases hz:zhT L b=0
 ·have hq:(zhT L b==0)=true:=by simpa using hz
  simp only[zxA,sgnS,zqe,if_pos hz,zuw]at hK;rw[zbS hG1]at hK;refine zm (zd hq r1) ?_;refine zfa rfl ?_ hl1 ?_
  ·simp[zha,dmT,dm,dm1,zcm,zbw,zfs]
  ·exact hK
 ·have hq:(zhT L b==0)=false:=by simpa using hz
  simp only[zxA,sgnS,zqe,if_neg hz]at hK;refine zm (zd hq r1) ?_;refine c_rgSign (zi hG1) hg ?_;rw[zdk hG1];have hl2:zhl S1.length (S1.set id2 (rlO (zhn G key (zhT L b)))):=hl1.setO (rlO_low _ _);have hs2:(S1.set id2 (rlO (zhn G key (zhT L b)))).length=S1.length:=by simp
  obtain⟨S2,hS2⟩:∃S2,S1.set id2 (rlO (zhn G key (zhT L b)))=S2:=⟨_,rfl⟩;rw[hS2]at hK hs2 hl2 ⊢;have r3:S1.length=S2.length:=hs2.symm;have r2:σ.length=S2.length:=r1.trans r3;rw[r3]at hl2;simp only[zuw]at hK ⊢;refine zm (zd r2 r3) ?_;refine zfa rfl ?_ hl2 ?_
  ·simp[zha,dmT,dm,dm1,zcm,zbw,zfs]
  ·exact hK
end Go.Proofs.YtdgcepphjnoalaaGreat
