/- Contracts: a ledger signs; a table's clone; whether both were made. -/
import Derived.Test.YtdgcepphjnoalaaGreatWr3
import Derived.Test.YtdgcepphjnoalaaGreatRd1
import Derived.Test.YtdgcepphjnoalaaGreatRc2
import Derived.Test.YtdgcepphjnoalaaGreatSpTab
set_option linter.all false
set_option maxRecDepth 100000
namespace Go.Proofs.YtdgcepphjnoalaaGreat
open Go.AW
variable {σ:List AObj}
def zuy (s:zI):AV:=.agg [.d (.int .i64 s.key),.d (.int .i64 s.dig)]
def signR (k d:Int):zI:=if zgX k d=0 then⟨k,d⟩else⟨0,0⟩
def zhs (g:List zI) (k d:Int):List zI:=if zgX k d=0 then zzH g ⟨k,d⟩else g
theorem c_gSign {id m t:Nat}{g:List zI}{k d:Int}(hG:zfm σ id m t g)(hgl:g.length<=1073741824){K:KT}
  (hK:K (.tup [zuy (signR k d),.d (.int .i64 (zgX k d))]) (putLed σ id m t (zhs g k d))):zP zdJ [.box id 0,.d (.int .i64 k),.d (.int .i64 d)] σ K:=by
 refine acE3 zrs fun hl=>?_;have hb:∀τ,(σ++τ)[id]? = some (.box [.own t (ztZ g),.map m]):=fun τ=>zi hG.box;have hm:∀τ,(σ++τ)[m]? = some (.map (zxF g)):=fun τ=>zi hG.map;obtain⟨n1,n2,n3⟩:=hG.ne;have hlen:(ztZ g).length=g.length:=List.length_map ..;have bad:zgX k d≠0->K (.tup [.agg [.d (.int .i64 0),.d (.int .i64 0)],.d (.int .i64 (zgX k d))]) σ:=fun h=>by
  rw[signR,zhs,if_neg h,if_neg h,hG.self]at hK;exact hK
 simp only[zle,iN,bT,bF,eN];refine zAb ?_;refine zwZ (hG.app _) ?_;cases h1:decide (k<0)
 ·cases h2:decide (k≥21)
  ·have hk:¬(k<0∨k≥21):=by simp at h1 h2;omega
   cases h3:decide (d<1)
   ·have he:zgX k d=0:=by rw[zgX,if_neg hk,if_neg (by simpa using h3)]
    rw[he,signR,zhs,if_pos he,if_pos he]at hK;by_cases hs:(⟨k,d⟩:zI)∈g
    ·obtain⟨j,hf⟩:=zrY hs;simp only at hf;rw[zzH,if_pos hs,hG.self]at hK;refine gq27 (zdt h1 (zdt h2 (zdt h3 (zdt hb (zdt hm hf))))) ?_;refine zu hl ?_;exact hK
    ·have hf:=ztY hs;simp only at hf;rw[zzH,if_neg hs]at hK;have hmm:σ[m]? = some (.map (zxF g)):=hG.map;have s1:∀X τ,(σ++τ).set m X=σ.set m X++τ:=fun X τ=>zdl hG.map;have hb':∀X,(σ.set m X)[id]? = some (.box [.own t (ztZ g),.map m]):=fun X=>by rw[List.getElem?_set_ne (Ne.symm n1)];exact hG.box
     have ht':∀X,(σ.set m X)[t]? = some (.tok 2 g.length):=fun X=>by rw[List.getElem?_set_ne n3];exact hG.tok
     have g3:∀X τ,(σ.set m X++τ)[id]? = some (.box [.own t (ztZ g),.map m]):=fun X τ=>zi (hb' X);have g4:∀X τ,(σ.set m X++τ)[t]? = some (.tok 2 g.length):=fun X τ=>zi (ht' X);have s2:∀X Y τ,(σ.set m X++τ).set t Y=(σ.set m X).set t Y++τ:=fun X Y τ=>zdl (ht' X);have hb2:∀X Y,((σ.set m X).set t Y)[id]? = some (.box [.own t (ztZ g),.map m]):=fun X Y=>by rw[List.getElem?_set_ne (Ne.symm n2)];exact hb' X
     have s3:∀X Y Z τ,((σ.set m X).set t Y++τ).set id Z=((σ.set m X).set t Y).set id Z++τ:=fun X Y Z τ=>zdl (hb2 X Y);have g5:∀X Y τ,((σ.set m X).set t Y++τ)[id]? = some (.box [.own t (ztZ g),.map m]):=fun X Y τ=>zi (hb2 X Y);have L1:∀X:AObj,σ.length=(σ.set m X).length:=fun X=>by simp
     have L2:∀X Y:AObj,σ.length=((σ.set m X).set t Y).length:=fun X Y=>by simp
     have L3:∀X Y Z:AObj,σ.length=(((σ.set m X).set t Y).set id Z).length:=fun X Y Z=>by simp
     have e1:∀X τ n,(σ.set m X++τ)[σ.length+n]? = τ[n]?:=fun X τ n=>by rw[L1 X];exact zA ..
     have e2:∀X Y Z τ n,(((σ.set m X).set t Y).set id Z++τ)[σ.length+n]? = τ[n]?:=fun X Y Z τ n=>by rw[L3 X Y Z];exact zA ..
     have e3:∀X Y Z τ W,(((σ.set m X).set t Y).set id Z++τ).set σ.length W=((σ.set m X).set t Y).set id Z++τ.set 0 W:=fun X Y Z τ W=>by rw[L3 X Y Z];exact zab ..
     have e4:∀X Y Z τ,(((σ.set m X).set t Y).set id Z++τ)[σ.length]? = τ[0]?:=fun X Y Z τ=>by rw[L3 X Y Z];exact zB ..
     refine gq27 (zdt h1 (zdt h2 (zdt h3 (zdt hb (zdt hm (zdt hf (zdt s1 (zdt g3 (zdt g4 (zdt s2 (zdt s3 (zdt g5 (zdt e1 (zdt e2 (zdt e3 (zdt e4 hlen)))))))))))))))) ?_;have e:putLed σ id m t (g++[⟨k,d⟩])=(((σ.set m (AObj.map (zxF g++[(AV.agg [AV.d (D.int IntKind.i64 k),AV.d (D.int IntKind.i64 d)],AV.d (D.bool true))]))).set t (AObj.tok 2 (g.length+1))).set id (AObj.box [AV.own t (ztZ g++[[D.int IntKind.i64 k,D.int IntKind.i64 d]]),AV.map m])):=by
      rw[ledM_add g ⟨k,d⟩];simp[putLed,ztZ,zgt]
     rw[← e];exact zfc (zym ..) (by simp[zhe,dmT,dm,dm1,zcm,zbu,zfv]) (hG.lows hl _) hK
   ·have he:zgX k d=1:=by rw[zgX,if_neg hk,if_pos (by simpa using h3)]
    have:=bad (by rw[he];decide);rw[he]at this;refine zoh (zdt h1 (zdt h2 h3)) ?_;refine zu hl ?_;exact this
  ·have he:zgX k d=20:=by rw[zgX,if_pos (by simp at h2;omega)]
   have:=bad (by rw[he];decide);rw[he]at this;refine zoh (zdt h1 h2) ?_;refine zu hl ?_;exact this
 ·have he:zgX k d=20:=by rw[zgX,if_pos (by simp at h1;omega)]
  have:=bad (by rw[he];decide);rw[he]at this;refine zoh h1 ?_;refine zu hl ?_;exact this
theorem gq28 {P Q:Prop}(h:Q)(e:Hd Q->P:=by intro h;(repeat' first|simp -dsimp only[↓zlH,↓zbS,↓zee,↓zlI,↓zlz,↓zlx,↓zlA,↓zly,↓zej,↓zef,↓zek,↓zeg,↓zlB,↓zeb,↓zel,↓zeh,↓zem,↓zei,↓zlw,↓zlF,↓zea,↓zep,↓zlo,↓zln,↓zlu,iN,bT,bF,eN,↓zes,↓unC,↓zaC,↓zai,↓zaj,↓zav,↓zaX,↓zah,↓zgB,↓zaw,↓zbf,↓zad,↓ze,↓zj,↓zaR,↓zc,↓zaV,↓zN,↓zbT,↓zcl,↓zf,↓zF,↓zp,↓zM,↓zaB,↓zgI,↓zhI,↓zbc,↓zby,↓zcf,↓zcA,↓zdp,↓zJ,↓zbb,↓zak,↓zO,↓zaU,zhr,zdV,zdD,unA,zgy,bnd,ziT,zaO,zL,zid,dm,dm1,zH,zaF,zjX,zjW,keepO,Q0,Q1,Q2,Q3,Q4,Q5,zba,zA,zB,zY,zab,Q6,Q7,Q8,Q9,Q10,Q11,Q12,Q13,Q14,Nat.reduceAdd,Q15,Int.reduceToNat,Q16,Q17,Q18,Q19,Q20,reduceIte,Q21,Q22,zy,rep,zaq,zhX,toD,zaD,Q23,Q24,Q25,Q26,Q27,Q28,Nat.reduceLeDiff,Q29,Nat.reduceSub,Q30,Q31,Q32,sc,Q33,Q34,Q35,Q36,Q37,Q26,Q38,Q39,zuH,zuE,zuB,zuI,zjw,zuF,zuC,zuG,zuD,zjv,zjx,zuK,zuL,Bool.not_true,Bool.not_false,List.length_map,Bool.and_false,Bool.and_self,Bool.false_and,Bool.not_false,Bool.not_true,Bool.true_and,Int.toNat_natCast,Int.toNat_zero,List.drop_zero,List.length_map,List.length_nil,List.nil_append,List.take_length,Nat.sub_zero,Nat.zero_add,Option.isSome_none,Option.isSome_some,Option.map_none,Option.map_some,zam,beq_self_eq_true,bne_self_eq_false]|with_reducible refine zuZ ?_|fail);exact h.go):P:=e ⟨h⟩
theorem c_From {l:List (List UInt8)}(hn:l.Nodup)(hl0:l.length<=1048576)(hb:∀b∈l,b.length<=1073741824){K:KT}
  (hK:K (.tup [.box (σ.length+1) 0,.d (.int .i64 0)]) (σ++tabO σ.length l)):zP zoA [.d (.slice (zvH l))] σ K:=by
 refine zbN zuj.is rfl (fun s=>List.range' σ.length 3) fun hl _=>zuj.goes ?_;have hlen:(zvH l).length=l.length:=List.length_map ..;have hd:decide ((l.length:Int)>1048576)=false:=by simp;omega
 simp only[zuu,iN,bT,bF,eN];refine zoh (zdt hlen hd) ?_;refine ztI ?_;refine zAb ?_;refine zn l.length (fun k vs s=>vs=[.d (.int .i64 k)]/\s=σ++tabO σ.length (l.take k)) ⟨rfl,rfl⟩ ?_;rintro k vs s hk ⟨rfl,rfl⟩;by_cases hlt:k<l.length
 ·have hd:decide ((k:Int)<(l.length:Int))=true:=by simp;omega
  have hx:l[k]? = some l[k]:=by simp[hlt]
  have hgx:=zR (f:=fun b=>[D.slice (bcs b)]) hx;have hxb:=hb _ (List.getElem_mem hlt);have hnot:l[k]∉l.take k:=fun hm=>by
   obtain⟨i,hi,he⟩:=List.mem_take_iff_getElem.1 hm;have:=(List.getElem_inj hn).1 he;omega
  obtain⟨x,hxe⟩:∃x,l[k]=x:=⟨_,rfl⟩;rw[hxe]at hx hgx hxb hnot;have hno:=zyz hnot;have hT:zgQ (σ++tabO σ.length (l.take k)) (σ.length+1) σ.length (σ.length+2) (l.take k):=by simpa using tabAt_new σ (l.take k) []
  have hP:∀l',putTab (σ++tabO σ.length (l.take k)) (σ.length+1) σ.length (σ.length+2) l'=σ++tabO σ.length l':=fun l'=>by simpa using putTab_new σ (l.take k) l' []
  refine zoh (zdt hlen (zdt hd hgx)) ?_;refine c_tLook hT ?_;rw[hno];refine gq28 ?_;refine c_tSum hT hxb (by rw[List.length_take];omega) ?_;rw[hP];have e:zga (l.take k) x=l.take (k+1):=by
   have h1:(l.take k).length=k:=by rw[List.length_take];omega
   rw[zga,hno];simp only[h1];rw[if_neg (by omega),List.take_add_one,hx];rfl
  rw[e];have hw:IntKind.i64.wrap ((k:Int)+1)=((k+1:Nat):Int):=by rw[zaW (by omega) (by omega)];rfl
  refine zoh hw ?_;exact zaK.next hlt ⟨rfl,rfl⟩
 ·have hd:decide ((k:Int)<(l.length:Int))=false:=by simp;omega
  rw[List.take_of_length_le (by omega)];refine zoh (zdt hlen hd) ?_;refine zdq (σ':=σ) (os:=tabO σ.length l) rfl rfl hl (low_tabO _ _) ?_ hK;exact .tup _ (by simp[zhe];exact .box _ _ (by simp))
theorem zvo {id m t:Nat}{l:List (List UInt8)}(hT:zgQ σ id m t l)(hn:l.Nodup)(hl0:l.length<=1048576)(hb:∀b∈l,b.length<=1073741824){K:KT}
  (hK:K (.box (σ.length+1) 0) (σ++tabO σ.length l)):zP zdI [.box id 0] σ K:=by
 refine zbN zkM.is rfl (fun s=>List.range' σ.length 3) fun hl _=>zkM.goes ?_;have hbx:=hT.box;simp only[zlc,iN,bT,bF,eN];refine zAb ?_;refine zAv hT ?_;refine zoh hbx ?_;refine c_From hn hl0 hb ?_;refine zAb ?_;exact zdq (σ':=σ) (os:=tabO σ.length l) rfl rfl hl (low_tabO _ _) (.box _ _ (by simp)) hK
theorem c_known {id m t:Nat}{l:List (List UInt8)}(hT:zgQ σ id m t l)(hn:l.Nodup)(hl0:l.length<=1048576)(hb:∀b∈l,b.length<=1073741824){K:KT}
  (hK:K (.d (.bool true)) σ):zP zkt [.box id 0] σ K:=by
 refine zeA zws fun hl=>?_;simp only[zoX,iN,bT,bF,eN];refine zAb ?_;refine c_tLen hT ?_;cases h:decide ((l.length:Int)>0)
 ·refine zoh h ?_;refine zvo hT hn hl0 hb ?_;refine zoh h ?_;refine zu hl ?_;exact hK
 ·refine zoh h ?_;refine zu hl ?_;exact hK
theorem gq29 {A P Q:Prop}(a:A)(h:Q)(e:A->Hd Q->P:=by intro a h;(repeat' first|simp -dsimp only[↓zlH,↓zbS,↓zee,↓zlI,↓zlz,↓zlx,↓zlA,↓zly,↓zej,↓zef,↓zek,↓zeg,↓zlB,↓zeb,↓zel,↓zeh,↓zem,↓zei,↓zlw,↓zlF,↓zea,↓zep,↓zlo,↓zln,↓zlu,iN,bT,bF,eN,↓zes,↓unC,↓zaC,↓zai,↓zaj,↓zav,↓zaX,↓zah,↓zgB,↓zaw,↓zbf,↓zad,↓ze,↓zj,↓zaR,↓zc,↓zaV,↓zN,↓zbT,↓zcl,↓zf,↓zF,↓zp,↓zM,↓zaB,↓zgI,↓zhI,↓zbc,↓zby,↓zcf,↓zcA,↓zdp,↓zJ,↓zbb,↓zak,↓zO,↓zaU,zhr,zdV,zdD,unA,zgy,bnd,ziT,zaO,zL,zid,dm,dm1,zH,zaF,zjX,zjW,keepO,Q0,Q1,Q2,Q3,Q4,Q5,zba,zA,zB,zY,zab,Q6,Q7,Q8,Q9,Q10,Q11,Q12,Q13,Q14,Nat.reduceAdd,Q15,Int.reduceToNat,Q16,Q17,Q18,Q19,Q20,reduceIte,Q21,Q22,zy,rep,zaq,zhX,toD,zaD,Q23,Q24,Q25,Q26,Q27,Q28,Nat.reduceLeDiff,Q29,Nat.reduceSub,Q30,Q31,Q32,sc,Q33,Q34,Q35,Q36,Q37,Q26,Q38,Q39,zuH,zuE,zuB,zuI,zjw,zuF,zuC,zuG,zuD,zjv,zjx,zuK,zuL,Bool.not_true,Bool.not_false,List.length_map,ztZ,zat,a]|with_reducible refine zuZ ?_|fail);exact h.go):P:=e a ⟨h⟩
theorem c_gClone0 {id m t:Nat}(hG:zfm σ id m t []){K:KT}(hK:K (.box (σ.length+1) 0) (σ++ledO σ.length [])):zP zcx [.box id 0] σ K:=by
 refine zbN zeI.is rfl (fun s=>List.range' σ.length 3) fun hl _=>zeI.goes ?_;have hbx:∀τ,(σ++τ)[id]? = _:=fun τ=>zi hG.box;simp only[zgz,iN,bT,bF,eN];refine zAb ?_;refine zwZ hG ?_;refine zoh hbx ?_;refine zny ?_;refine zoh hbx ?_;refine zn 0 (fun k vs s=>vs=[.d (.int .i64 0)]/\s=σ++ledO σ.length []) ⟨rfl,rfl⟩ ?_;rintro k vs s hk ⟨rfl,rfl⟩;have hd:decide ((0:Int)<((0:Nat):Int))=false:=rfl;refine gq29 hd ?_;exact zdq (σ':=σ) (os:=ledO σ.length []) rfl rfl hl (low_ledO _ _) (.box _ _ (by simp)) hK
theorem c_made {id m t id2 m2 t2:Nat}{l:List (List UInt8)}{g:List zI}(hT:zgQ σ id m t l)(hG:zfm σ id2 m2 t2 g)(hn:l.Nodup)(hl0:l.length<=1048576)(hb:∀b∈l,b.length<=1073741824){K:KT}
  (hK:K (.d (.bool true)) σ):zP zmb [.box id 0,.box id2 0] σ K:=by
 refine zeq zxM fun hl=>?_;simp only[zqx,iN,bT,bF,eN];refine zAb ?_;refine c_known hT hn hl0 hb ?_;refine zAb ?_;refine c_gLen hG ?_;cases h:decide ((g.length:Int)>0)
 ·have hg:g=[]:=by simpa using h
  subst hg;refine zoh h ?_;refine c_gClone0 hG ?_;refine zoh h ?_;refine zu hl ?_;exact hK
 ·refine zoh h ?_;refine zu hl ?_;exact hK
variable {σ:List AObj}
def rtO (l:List (List UInt8)):AObj:=.box [.d (.slice (zvH l))]
def rlO (g:List zI):AObj:=.box [.d (.slice (ztZ g))]
theorem rtO_low (n:Nat)(l:List (List UInt8)):ztO n (rtO l):=by
 intro c hc;simp only[List.mem_cons,List.not_mem_nil,or_false]at hc;subst hc;exact .d _
theorem rlO_low (n:Nat)(g:List zI):ztO n (rlO g):=by
 intro c hc;simp only[List.mem_cons,List.not_mem_nil,or_false]at hc;subst hc;exact .d _
theorem wki (k:Nat)(h:k<=1073741824):IntKind.i64.wrap ((k:Int)+1)=((k+1:Nat):Int):=by rw[zaW (by omega) (by omega)];rfl
theorem gq30 {P Q:Prop}(h:Q)(e:Hd Q->P:=by intro h;(repeat' first|simp -dsimp only[↓zlH,↓zbS,↓zee,↓zlI,↓zlz,↓zlx,↓zlA,↓zly,↓zej,↓zef,↓zek,↓zeg,↓zlB,↓zeb,↓zel,↓zeh,↓zem,↓zei,↓zlw,↓zlF,↓zea,↓zep,↓zlo,↓zln,↓zlu,iN,bT,bF,eN,↓zes,↓unC,↓zaC,↓zai,↓zaj,↓zav,↓zaX,↓zah,↓zgB,↓zaw,↓zbf,↓zad,↓ze,↓zj,↓zaR,↓zc,↓zaV,↓zN,↓zbT,↓zcl,↓zf,↓zF,↓zp,↓zM,↓zaB,↓zgI,↓zhI,↓zbc,↓zby,↓zcf,↓zcA,↓zdp,↓zJ,↓zbb,↓zak,↓zO,↓zaU,zhr,zdV,zdD,unA,zgy,bnd,ziT,zaO,zL,zid,dm,dm1,zH,zaF,zjX,zjW,keepO,Q0,Q1,Q2,Q3,Q4,Q5,zba,zA,zB,zY,zab,Q6,Q7,Q8,Q9,Q10,Q11,Q12,Q13,Q14,Nat.reduceAdd,Q15,Int.reduceToNat,Q16,Q17,Q18,Q19,Q20,reduceIte,Q21,Q22,zy,rep,zaq,zhX,toD,zaD,Q23,Q24,Q25,Q26,Q27,Q28,Nat.reduceLeDiff,Q29,Nat.reduceSub,Q30,Q31,Q32,sc,Q33,Q34,Q35,Q36,Q37,Q26,Q38,Q39,zuH,zuE,zuB,zuI,zjw,zuF,zuC,zuG,zuD,zjv,zjx,zuK,zuL,Bool.not_true,Bool.not_false,List.length_map,Bool.and_false,Bool.and_self,Bool.false_and,Bool.not_false,Bool.not_true,Bool.true_and,Int.toNat_natCast,Int.toNat_zero,List.drop_zero,List.length_map,List.length_nil,List.nil_append,List.take_length,Nat.sub_zero,Nat.zero_add,Option.isSome_none,Option.isSome_some,Option.map_none,Option.map_some,zam,beq_self_eq_true,bne_self_eq_false,ziD,zfj,zgm,zcf,mgetR,zcA]|with_reducible refine zuZ ?_|fail);exact h.go):P:=e ⟨h⟩
theorem c_rtSame {a b:List UInt8}{K:KT}(hK:K (.d (.bool (a==b))) σ):zP ztc [.d (.slice (bcs a)),.d (.slice (bcs b))] σ K:=by
 refine zeq e_r02_Same fun hl=>?_;simp only[zzs,iN,bT,bF,eN];refine gq30 ?_;refine zu hl ?_;exact hK
theorem c_rtLook {id:Nat}{l:List (List UInt8)}{b:List UInt8}(hT:σ[id]? = some (rtO l))(hl0:l.length<=1048576){K:KT}
  (hK:K (.tup [.d (.int .i64 (zou (zhJ l b))),.d (.bool (zhJ l b).isSome)]) σ):zP zgT [.box id 0,.d (.slice (bcs b))] σ K:=by
 refine zeq zuT fun hl=>?_;have hlen:(zvH l).length=l.length:=List.length_map ..;have hb:σ[id]? = some (.box [.d (.slice (zvH l))]):=hT;simp only[znP,iN,bT,bF,eN];refine zn l.length (fun k vs s=>vs=[.d (.int .i64 k)]/\s=σ/\zhJ (l.take k) b=none) ⟨rfl,rfl,rfl⟩ ?_;rintro k vs s hk ⟨rfl,rfl,hno⟩;by_cases hlt:k<l.length
 ·have hd:decide ((k:Int)<(l.length:Int))=true:=by simp;omega
  have hx:l[k]? = some l[k]:=by simp[hlt]
  have hgx:=zR (f:=fun b=>[D.slice (bcs b)]) hx;obtain⟨x,hxe⟩:∃x,l[k]=x:=⟨_,rfl⟩;rw[hxe]at hx hgx;refine zoh (zdt hlen (zdt hd (zdt hb hgx))) ?_;refine c_rtSame ?_;cases he:(x==b)
  ·refine zoh (wki k (by omega)) ?_;exact zaK.next hlt ⟨rfl,rfl,look_next hx hno he⟩
  ·rw[look_hit hx hno he]at hK;refine zoh (wki k (by omega)) ?_;refine zu hl ?_;exact hK
 ·have hd:decide ((k:Int)<(l.length:Int))=false:=by simp;omega
  rw[List.take_of_length_le (by omega)]at hno;rw[hno]at hK;refine zoh (zdt hlen (zdt hd hb)) ?_;refine zu hl ?_;exact hK
theorem gq31 {P Q:Prop}(h:Q)(e:Hd Q->P:=by intro h;(repeat' first|simp -dsimp only[↓zlH,↓zbS,↓zee,↓zlI,↓zlz,↓zlx,↓zlA,↓zly,↓zej,↓zef,↓zek,↓zeg,↓zlB,↓zeb,↓zel,↓zeh,↓zem,↓zei,↓zlw,↓zlF,↓zea,↓zep,↓zlo,↓zln,↓zlu,iN,bT,bF,eN,↓zes,↓unC,↓zaC,↓zai,↓zaj,↓zav,↓zaX,↓zah,↓zgB,↓zaw,↓zbf,↓zad,↓ze,↓zj,↓zaR,↓zc,↓zaV,↓zN,↓zbT,↓zcl,↓zf,↓zF,↓zp,↓zM,↓zaB,↓zgI,↓zhI,↓zbc,↓zby,↓zcf,↓zcA,↓zdp,↓zJ,↓zbb,↓zak,↓zO,↓zaU,zhr,zdV,zdD,unA,zgy,bnd,ziT,zaO,zL,zid,dm,dm1,zH,zaF,zjX,zjW,keepO,Q0,Q1,Q2,Q3,Q4,Q5,zba,zA,zB,zY,zab,Q6,Q7,Q8,Q9,Q10,Q11,Q12,Q13,Q14,Nat.reduceAdd,Q15,Int.reduceToNat,Q16,Q17,Q18,Q19,Q20,reduceIte,Q21,Q22,zy,rep,zaq,zhX,toD,zaD,Q23,Q24,Q25,Q26,Q27,Q28,Nat.reduceLeDiff,Q29,Nat.reduceSub,Q30,Q31,Q32,sc,Q33,Q34,Q35,Q36,Q37,Q26,Q38,Q39,zuH,zuE,zuB,zuI,zjw,zuF,zuC,zuG,zuD,zjv,zjx,zuK,zuL,Bool.not_true,Bool.not_false,List.length_map,Bool.and_false,Bool.and_self,Bool.false_and,Bool.not_false,Bool.not_true,Bool.true_and,Int.toNat_natCast,Int.toNat_zero,List.drop_zero,List.length_map,List.length_nil,List.nil_append,List.take_length,Nat.sub_zero,Nat.zero_add,Option.isSome_none,Option.isSome_some,Option.map_none,Option.map_some,zam,beq_self_eq_true,bne_self_eq_false,zck,zhO,zag,zdh,zsb,zch,zou,opA,opD,zfC,zgt,zay]|with_reducible refine zuZ ?_|fail);exact h.go):P:=e ⟨h⟩
theorem gq32 {A P Q:Prop}(a:A)(h:Q)(e:A->Hd Q->P:=by intro a h;(repeat' first|simp -dsimp only[↓zlH,↓zbS,↓zee,↓zlI,↓zlz,↓zlx,↓zlA,↓zly,↓zej,↓zef,↓zek,↓zeg,↓zlB,↓zeb,↓zel,↓zeh,↓zem,↓zei,↓zlw,↓zlF,↓zea,↓zep,↓zlo,↓zln,↓zlu,iN,bT,bF,eN,↓zes,↓unC,↓zaC,↓zai,↓zaj,↓zav,↓zaX,↓zah,↓zgB,↓zaw,↓zbf,↓zad,↓ze,↓zj,↓zaR,↓zc,↓zaV,↓zN,↓zbT,↓zcl,↓zf,↓zF,↓zp,↓zM,↓zaB,↓zgI,↓zhI,↓zbc,↓zby,↓zcf,↓zcA,↓zdp,↓zJ,↓zbb,↓zak,↓zO,↓zaU,zhr,zdV,zdD,unA,zgy,bnd,ziT,zaO,zL,zid,dm,dm1,zH,zaF,zjX,zjW,keepO,Q0,Q1,Q2,Q3,Q4,Q5,zba,zA,zB,zY,zab,Q6,Q7,Q8,Q9,Q10,Q11,Q12,Q13,Q14,Nat.reduceAdd,Q15,Int.reduceToNat,Q16,Q17,Q18,Q19,Q20,reduceIte,Q21,Q22,zy,rep,zaq,zhX,toD,zaD,Q23,Q24,Q25,Q26,Q27,Q28,Nat.reduceLeDiff,Q29,Nat.reduceSub,Q30,Q31,Q32,sc,Q33,Q34,Q35,Q36,Q37,Q26,Q38,Q39,zuH,zuE,zuB,zuI,zjw,zuF,zuC,zuG,zuD,zjv,zjx,zuK,zuL,Bool.not_true,Bool.not_false,List.length_map,Bool.and_false,Bool.and_self,Bool.false_and,Bool.not_false,Bool.not_true,Bool.true_and,Int.toNat_natCast,Int.toNat_zero,List.drop_zero,List.length_map,List.length_nil,List.nil_append,List.take_length,Nat.sub_zero,Nat.zero_add,Option.isSome_none,Option.isSome_some,Option.map_none,Option.map_some,zam,beq_self_eq_true,bne_self_eq_false,zck,zhO,zag,zdh,zsb,zch,zou,opA,opD,zfC,zgt,zay,a]|with_reducible refine zuZ ?_|fail);exact h.go):P:=e a ⟨h⟩
theorem c_rtSum {id:Nat}{l:List (List UInt8)}{b:List UInt8}(hT:σ[id]? = some (rtO l))(hbl:b.length<=1073741824)(hl0:l.length<=1048576){K:KT}
  (hK:K (.d (.int .i64 (zhY l b))) (σ.set id (rtO (zga l b)))):zP zhD [.box id 0,.d (.slice (bcs b))] σ K:=by
 refine zje zoK.is rfl fun hl _=>zoK.goes ?_;have hlen:(zvH l).length=l.length:=List.length_map ..;have hb:∀τ,(σ++τ)[id]? = some (.box [.d (.slice (zvH l))]):=fun τ=>zi hT;have hb0:σ[id]? = some (.box [.d (.slice (zvH l))]):=hT;have hlt:=zaa hT;simp only[zpk,iN,bT,bF,eN];refine zAb ?_;refine c_rtLook hT hl0 ?_;cases ho:zhJ l b with
 | some k=>
  simp only[zhY,zga,ho]at hK
  rw[zbR hT]at hK
  refine gq31 ?_
  refine ziO ?_
  refine zu hl ?_
  exact hK
 | none=>
  simp only[zhY,zga,ho]at hK
  by_cases hfull:l.length≥1048576
  ·rw[if_pos hfull,if_pos hfull,zbR hT]at hK
   have hd:decide ((l.length:Int)≥1048576)=true:=by simp;omega
   refine gq32 (zdt hb0 (zdt hlen hd)) ?_
   refine ziO ?_
   refine zu hl ?_
   exact hK
  ·rw[if_neg hfull,if_neg hfull]at hK
   have hd:decide ((l.length:Int)≥1048576)=false:=by simp;omega
   have s1:∀X τ,(σ++τ).set id X=σ.set id X++τ:=fun X τ=>zdl hT
   have g1:∀X τ,(σ.set id X++τ)[id]? = some X:=fun X τ=>zi (zdu hT)
   have bl:(bcs b).length=b.length:=zam b
   have b1:∀e∈bcs b,e.length=1:=ziE
   have t1:∀e∈zvH l,e.length=1:=zjo (f:=fun b=>[D.slice (bcs b)]) (fun _=>rfl) l
   refine gq32 (zdt hb (zdt hb0 (zdt hlen (zdt hd (zdt s1 (zdt g1 bl)))))) ?_
   have e:zvH l++[[D.slice (bcs b)]]=zvH (l++[b]):=by simp[zvH]
   rw[e]
   exact zkl hT (by simp[zhe,dmT,dm,dm1,zcm]) hl hK
theorem zyU {id:Nat}{g:List zI}{s:zI}(hG:σ[id]? = some (rlO g))(hg0:g.length<=1073741824){K:KT}(hK:K (.d (.bool (decide (s∈g)))) σ) :
  zP zeX [.box id 0,.agg [.d (.int .i64 s.key),.d (.int .i64 s.dig)]] σ K:=by
 refine zeq zrj fun hl=>?_;have hlen:(ztZ g).length=g.length:=List.length_map ..;have hb:∀τ,(σ++τ)[id]? = some (.box [.d (.slice (ztZ g))]):=fun τ=>zi hG;simp only[zkT,iN,bT,bF,eN];refine zAb ?_;refine zn g.length (fun k vs q=>vs=[.d (.int .i64 k)]/\q=σ++[.box [.d (.int .i64 s.key),.d (.int .i64 s.dig)]]/\s∉g.take k) ⟨rfl,rfl,by simp⟩ ?_;rintro k vs q hk ⟨rfl,rfl,hno⟩;by_cases hlt:k<g.length
 ·have hd:decide ((k:Int)<(g.length:Int))=true:=by simp;omega
  have hx:g[k]? = some g[k]:=by simp[hlt]
  have hgx:=zR (f:=zgt) hx;obtain⟨x,hxe⟩:∃x,g[k]=x:=⟨_,rfl⟩;rw[hxe]at hx hgx;by_cases he:x=s
  ·subst he;rw[decide_eq_true (List.mem_of_getElem? hx)]at hK;refine gq32 (zdt hlen (zdt hd (zdt hb hgx))) ?_;refine zu hl ?_;exact hK
  ·have hn2:s∉g.take (k+1):=by
    rw[List.take_add_one,hx];simp;exact⟨hno,fun h=>he h.symm⟩
   have e:x=s↔x.key=s.key/\x.dig=s.dig:=by cases s;cases x;simp
   cases h1:(x.key==s.key)
   ·refine gq32 (zdt hlen (zdt hd (zdt hb (zdt hgx (zdt h1 (wki k (by omega))))))) ?_;exact zaK.next hlt ⟨rfl,rfl,hn2⟩
   ·have h2:(x.dig==s.dig)=false:=by
     have:¬x.dig=s.dig:=fun h=>he (e.2 ⟨by simpa using h1,h⟩);simpa using this
    refine gq32 (zdt hlen (zdt hd (zdt hb (zdt hgx (zdt h1 (zdt h2 (wki k (by omega)))))))) ?_;exact zaK.next hlt ⟨rfl,rfl,hn2⟩
 ·have hd:decide ((k:Int)<(g.length:Int))=false:=by simp;omega
  rw[List.take_of_length_le (by omega)]at hno;rw[decide_eq_false hno]at hK;refine zoh (zdt hlen (zdt hd hb)) ?_;refine zu hl ?_;exact hK
theorem c_rgSign {id:Nat}{g:List zI}{k d:Int}(hG:σ[id]? = some (rlO g))(hgl:g.length<=1073741824){K:KT}
  (hK:K (.tup [zuy (signR k d),.d (.int .i64 (zgX k d))]) (σ.set id (rlO (zhs g k d)))):zP zgg [.box id 0,.d (.int .i64 k),.d (.int .i64 d)] σ K:=by
 refine zje zmC.is rfl fun hl _=>zmC.goes ?_;have hb:∀τ,(σ++τ)[id]? = some (.box [.d (.slice (ztZ g))]):=fun τ=>zi hG;have hlen:(ztZ g).length=g.length:=List.length_map ..;have bad:zgX k d≠0->K (.tup [.agg [.d (.int .i64 0),.d (.int .i64 0)],.d (.int .i64 (zgX k d))]) σ:=fun h=>by
  rw[signR,zhs,if_neg h,if_neg h,zbR hG]at hK;exact hK
 simp only[zmP,iN,bT,bF,eN];refine zAb ?_;cases h1:decide (k<0)
 ·cases h2:decide (k≥21)
  ·have hk:¬(k<0∨k≥21):=by simp at h1 h2;omega
   cases h3:decide (d<1)
   ·have he:zgX k d=0:=by rw[zgX,if_neg hk,if_neg (by simpa using h3)]
    rw[he,signR,zhs,if_pos he,if_pos he]at hK;refine zoh (zdt h1 (zdt h2 h3)) ?_;refine zyU (s:=⟨k,d⟩) (zi hG) hgl ?_;by_cases hs:(⟨k,d⟩:zI)∈g
    ·rw[decide_eq_true hs];rw[zzH,if_pos hs,zbR hG]at hK;refine zoh hb ?_;refine ziO ?_;refine zu hl ?_;exact hK
    ·rw[decide_eq_false hs];rw[zzH,if_neg hs]at hK;have s1:∀X τ,(σ++τ).set id X=σ.set id X++τ:=fun X τ=>zdl hG;have L1:∀X:AObj,σ.length=(σ.set id X).length:=fun X=>by simp
     have e1:∀X τ n,(σ.set id X++τ)[σ.length+n]? = τ[n]?:=fun X τ n=>by rw[L1 X];exact zA ..
     have e3:∀X τ W,(σ.set id X++τ).set σ.length W=σ.set id X++τ.set 0 W:=fun X τ W=>by rw[L1 X];exact zab ..
     have e4:∀X τ,(σ.set id X++τ)[σ.length]? = τ[0]?:=fun X τ=>by rw[L1 X];exact zB ..
     refine zoh (zdt hb (zdt hlen (zdt s1 (zdt e1 (zdt e3 e4))))) ?_;have e:ztZ g++[[D.int .i64 k,D.int .i64 d]]=ztZ (g++[⟨k,d⟩]):=by simp[ztZ,zat,zgt]
     refine⟨zjo (f:=zgt) (fun _=>rfl) g,by simp,by omega,by simp,by omega,?_⟩;rw[e];exact zkl hG (by simp[zhe,dmT,dm,dm1,zcm,zbu,zfv]) hl hK
   ·have he:zgX k d=1:=by rw[zgX,if_neg hk,if_pos (by simpa using h3)]
    have:=bad (by rw[he];decide);rw[he]at this;refine zoh (zdt h1 (zdt h2 h3)) ?_;refine ziO ?_;refine zu hl ?_;exact this
  ·have he:zgX k d=20:=by rw[zgX,if_pos (by simp at h2;omega)]
   have:=bad (by rw[he];decide);rw[he]at this;refine zoh (zdt h1 h2) ?_;refine ziO ?_;refine zu hl ?_;exact this
 ·have he:zgX k d=20:=by rw[zgX,if_pos (by simp at h1;omega)]
  have:=bad (by rw[he];decide);rw[he]at this;refine zoh h1 ?_;refine ziO ?_;refine zu hl ?_;exact this
variable {σ:List AObj}
theorem zgQ.put {id m t:Nat}{l:List (List UInt8)}(h:zgQ σ id m t l)(l':List (List UInt8)):zgQ (putTab σ id m t l') id m t l':=by
 obtain⟨n1,n2,n3⟩:=h.ne;have h1:=zaa h.box;have h2:=zaa h.map;have h3:=zaa h.tok;unfold putTab;refine⟨?_,?_,?_⟩
 ·rw[List.getElem?_set_ne (Ne.symm n1),List.getElem?_set_self (by simpa using h1)]
 ·rw[List.getElem?_set_self (by simpa using h2)]
 ·rw[List.getElem?_set_ne n3,List.getElem?_set_ne n2,List.getElem?_set_self h3]
theorem zfm.put {id m t:Nat}{g:List zI}(h:zfm σ id m t g)(g':List zI):zfm (putLed σ id m t g') id m t g':=by
 obtain⟨n1,n2,n3⟩:=h.ne;have h1:=zaa h.box;have h2:=zaa h.map;have h3:=zaa h.tok;unfold putLed;refine⟨?_,?_,?_⟩
 ·rw[List.getElem?_set_self (by simpa using h1)]
 ·rw[List.getElem?_set_ne n1,List.getElem?_set_ne (Ne.symm n3),List.getElem?_set_self h2]
 ·rw[List.getElem?_set_ne n2,List.getElem?_set_self (by simpa using h3)]
theorem apart2 {id m t id2 m2 t2:Nat}{l:List (List UInt8)}{g:List zI}(hT:zgQ σ id m t l)(hG:zfm σ id2 m2 t2 g)(h1:id≠id2)(h2:m≠m2) :
  (id≠m2/\id≠t2)/\(m≠id2/\m≠t2)/\(t≠id2/\t≠m2/\t≠t2):=by
 refine⟨⟨?_,?_⟩,⟨?_,?_⟩,⟨?_,?_,?_⟩⟩<;>intro e<;>subst e
 ·have:=hT.box;rw[hG.map]at this;cases this
 ·have:=hT.box;rw[hG.tok]at this;cases this
 ·have:=hT.map;rw[hG.box]at this;cases this
 ·have:=hT.map;rw[hG.tok]at this;cases this
 ·have:=hT.tok;rw[hG.box]at this;cases this
 ·have:=hT.tok;rw[hG.map]at this;cases this
 ·have:=hT.tok;rw[hG.tok]at this;cases this
theorem zfm.putTab {id m t id2 m2 t2:Nat}{l:List (List UInt8)}{g:List zI}(hT:zgQ σ id m t l)(hG:zfm σ id2 m2 t2 g)(h1:id≠id2)(h2:m≠m2)(l':List (List UInt8)) :
  zfm (putTab σ id m t l') id2 m2 t2 g:=by
 obtain⟨⟨a1,a2⟩,⟨b1,b2⟩,⟨c1,c2,c3⟩⟩:=apart2 hT hG h1 h2;unfold Go.Proofs.YtdgcepphjnoalaaGreat.putTab;refine⟨?_,?_,?_⟩
 ·rw[List.getElem?_set_ne b1,List.getElem?_set_ne h1,List.getElem?_set_ne c1];exact hG.box
 ·rw[List.getElem?_set_ne h2,List.getElem?_set_ne a1,List.getElem?_set_ne c2];exact hG.map
 ·rw[List.getElem?_set_ne b2,List.getElem?_set_ne a2,List.getElem?_set_ne c3];exact hG.tok
theorem zgQ.putLed {id m t id2 m2 t2:Nat}{l:List (List UInt8)}{g:List zI}(hT:zgQ σ id m t l)(hG:zfm σ id2 m2 t2 g)(h1:id≠id2)(h2:m≠m2)(g':List zI) :
  zgQ (putLed σ id2 m2 t2 g') id m t l:=by
 obtain⟨⟨a1,a2⟩,⟨b1,b2⟩,⟨c1,c2,c3⟩⟩:=apart2 hT hG h1 h2;unfold Go.Proofs.YtdgcepphjnoalaaGreat.putLed;refine⟨?_,?_,?_⟩
 ·rw[List.getElem?_set_ne (Ne.symm h1),List.getElem?_set_ne (Ne.symm a2),List.getElem?_set_ne (Ne.symm a1)];exact hT.box
 ·rw[List.getElem?_set_ne (Ne.symm b1),List.getElem?_set_ne (Ne.symm b2),List.getElem?_set_ne (Ne.symm h2)];exact hT.map
 ·rw[List.getElem?_set_ne (Ne.symm c1),List.getElem?_set_ne (Ne.symm c3),List.getElem?_set_ne (Ne.symm c2)];exact hT.tok
def noSg:zr:=⟨0,0,noOp,0,0⟩
def zko (L:List (List UInt8)) (x:zr):Int:=if zT x≠0 then zT x else zgX (zvi x.client) (zhY L (znC x))
def zfB (L:List (List UInt8)) (x:zr):zr:=if zko L x=0 then⟨x.client,x.time,x.op,zvi x.client,zhY L (znC x)⟩else noSg
def zok (L:List (List UInt8)) (x:zr):List (List UInt8):=if zT x≠0 then L else zga L (znC x)
def zpS (L:List (List UInt8)) (G:List zI) (x:zr):List zI:=if zT x≠0 then G else zhs G (zvi x.client) (zhY L (znC x))
structure zmI (L:List (List UInt8)):Prop where
 nd:L.Nodup
 len:L.length<=1048576
 each:∀b∈L,b.length<=1073741824
theorem zmI.nil:zmI []:=⟨.nil,by simp,by simp⟩
theorem zmI.sum {L:List (List UInt8)}(h:zmI L){b:List UInt8}(hb:b.length<=1073741824):zmI (zga L b):=by
 unfold zga;cases ho:zhJ L b with
 | some k=>exact h
 | none=>
  simp only
  split
  ·exact h
  ·rename_i hl
   have hn:b∉L:=fun hm=>by
    obtain⟨i,hi⟩:=List.mem_iff_getElem?.1 hm;exact zzY ho hm
   refine⟨?_,by simp;omega,fun x hx=>?_⟩
   ·rw[List.nodup_append]
    refine⟨h.nd,by simp,fun a ha c hc=>?_⟩
    simp at hc;subst hc
    exact fun e=>hn (e▸ha)
   ·rcases List.mem_append.1 hx with hx|hx
    ·exact h.each x hx
    ·simp at hx;subst hx;exact hb
theorem zmI.seal {L:List (List UInt8)}(h:zmI L){x:zr}(hx:zmW x.op<=20971520):zmI (zok L x):=by
 unfold zok;split
 ·exact h
 ·rename_i hc;exact h.sum (by have:=zpw (x:=x) (by omega) (by simpa using hc);omega)
theorem zpM {id m t id2 m2 t2:Nat}{L:List (List UInt8)}{G:List zI}{x:zr}(hT:zgQ σ id m t L)(hG:zfm σ id2 m2 t2 G)(h1:id≠id2)(h2:m≠m2)(hL:zmI L)(hGl:G.length<=1073741824)
  (hx:zmW x.op<=20971520) {K:KT}
  (hK:K (.tup [zis (zfB L x),.d (.int .i64 (zko L x))]) (putLed (putTab σ id m t (zok L x)) id2 m2 t2 (zpS L G x))):zP zgF [.box id 0,.box id2 0,reqA x] σ K:=by
 refine acE3 zxN fun hl=>?_;have hsz:=sizes hx;simp only[zqy,iN,bT,bF,eN,zl1,reqA];refine zG ?_;refine c_rqBytes (x:=x) hx ?_;by_cases hc:zT x=0
 ·have hb:(zT x != 0)=false:=by simpa using hc
  have hrl:=zpw (x:=x) (by omega) hc;refine zm hb ?_;refine c_made (hT.app _) (hG.app _) hL.nd hL.len hL.each ?_;refine zG ?_;refine c_rqKey ?_;rw[show zbV x=znC x from if_pos hc];refine zG ?_;refine c_tSum (hT.app _) (by omega) hL.len ?_;rw[zsU hT];simp only[zok,zpS,hc,ne_eq,not_true_eq_false,if_false]at hK;have e1:zko L x=zgX (zvi x.client) (zhY L (znC x)):=by rw[zko,if_neg (by simpa using hc)]
  rw[e1]at hK;have hG1:=zfm.putTab hT hG h1 h2 (zga L (znC x));have hl1:=hT.lows hl (zga L (znC x));have hs1:=zpx σ id m t (zga L (znC x));obtain⟨S1,hS1⟩:∃S1,putTab σ id m t (zga L (znC x))=S1:=⟨_,rfl⟩;rw[hS1]at hK hG1 hs1 hl1 ⊢;rw[← hs1]at hl1;have r1:σ.length=S1.length:=hs1.symm;refine zm r1 ?_;refine c_gSign (hG1.app _) hGl ?_;rw[zsV hG1];obtain⟨N,hN⟩:∃N,zgX (zvi x.client) (zhY L (znC x))=N:=⟨_,rfl⟩;have hl2:=hG1.lows hl1 (zhs G (zvi x.client) (zhY L (znC x)));have hs2:=zym S1 id2 m2 t2 (zhs G (zvi x.client) (zhY L (znC x)));obtain⟨S2,hS2⟩:∃S2,putLed S1 id2 m2 t2 (zhs G (zvi x.client) (zhY L (znC x)))=S2:=⟨_,rfl⟩;rw[hS2]at hK hs2 hl2 ⊢;rw[← hs2]at hl2;have r2:σ.length=S2.length:=by rw[r1];exact hs2.symm
  have r3:S1.length=S2.length:=hs2.symm;rw[hN]at hK ⊢;simp only[zuy];by_cases hN0:N=0
  ·have hq:(N != 0)=false:=by simpa using hN0
   have e2:zfB L x=⟨x.client,x.time,x.op,zvi x.client,zhY L (znC x)⟩:=by rw[zfB,if_pos (by rw[e1,hN,hN0])]
   have e3:signR (zvi x.client) (zhY L (znC x))=⟨zvi x.client,zhY L (znC x)⟩:=by rw[signR,if_pos (by rw[hN,hN0])]
   rw[e2]at hK;rw[e3];refine zm (zd hq (zd r2 r3)) ?_;refine ziZ (o:=x.op) hsz.2.2.1 hsz.2.2.2 ?_;simp only[opA];refine zm (zd hq (zd r2 r3)) ?_;rw[hN0]at hK;refine zfc rfl ?_ hl2 ?_
   ·simp[zhe,dmT,dm,dm1,zcm,zbu,zfv]
   ·exact hK
  ·have hq:(N != 0)=true:=by simpa using hN0
   have e2:zfB L x=noSg:=by rw[zfB,if_neg (by rw[e1,hN];exact hN0)]
   rw[e2]at hK;rw[show signR (zvi x.client) (zhY L (znC x))=⟨0,0⟩from by rw[signR,if_neg (by rw[hN];exact hN0)]];refine zm (zd hq (zd r2 r3)) ?_;refine zfc rfl ?_ hl2 ?_
   ·simp[zhe,dmT,dm,dm1,zcm,zbu,zfv]
   ·exact hK
 ·have hb:(zT x != 0)=true:=by simpa using hc
  have e1:zko L x=zT x:=if_pos hc;have e2:zfB L x=noSg:=by rw[zfB,if_neg (by rw[e1];exact hc)]
  rw[e1,e2,zok,zpS,if_pos hc,if_pos hc,hT.self,hG.self]at hK;refine zm hb ?_;refine zu hl ?_;exact hK
variable {σ:List AObj}
theorem c_rqrKey {c:Int}{K:KT}(hK:K (.d (.int .i64 (zvi c))) σ):zP zoy [.d (.int .i64 c)] σ K:=c_rKey hK
theorem c_rqrSeal {id id2:Nat}{L:List (List UInt8)}{G:List zI}{x:zr}(hT:σ[id]? = some (rtO L))(hG:σ[id2]? = some (rlO G))(h1:id≠id2)(hL:zmI L)(hGl:G.length<=1073741824)
  (hx:zmW x.op<=20971520) {K:KT}
  (hK:K (.tup [zis (zfB L x),.d (.int .i64 (zko L x))]) ((σ.set id (rtO (zok L x))).set id2 (rlO (zpS L G x)))):zP zpD [.box id 0,.box id2 0,reqA x] σ K:=by
 refine acE3 e_r08_Seal fun hl=>?_;have hsz:=sizes hx;simp only[zzn,iN,bT,bF,eN,zl1,reqA];refine zG ?_;refine zyT (x:=x) hx ?_;by_cases hc:zT x=0
 ·have hb:(zT x != 0)=false:=by simpa using hc
  have hrl:=zpw (x:=x) (by omega) hc;refine zm hb ?_;refine c_rqrKey ?_;rw[show zbV x=znC x from if_pos hc];refine zG ?_;refine c_rtSum (zi hT) (by omega) hL.len ?_;rw[zdl hT];simp only[zok,zpS,hc,ne_eq,not_true_eq_false,if_false]at hK;have e1:zko L x=zgX (zvi x.client) (zhY L (znC x)):=by rw[zko,if_neg (by simpa using hc)]
  rw[e1]at hK;have hl1:zhp σ.length (σ.set id (rtO (zga L (znC x)))):=hl.setO (rtO_low _ _);have hs1:(σ.set id (rtO (zga L (znC x)))).length=σ.length:=by simp
  have hG1:(σ.set id (rtO (zga L (znC x))))[id2]? = some (rlO G):=by rw[List.getElem?_set_ne h1];exact hG
  obtain⟨S1,hS1⟩:∃S1,σ.set id (rtO (zga L (znC x)))=S1:=⟨_,rfl⟩;rw[hS1]at hK hG1 hs1 hl1 ⊢;have r1:σ.length=S1.length:=hs1.symm;refine zm r1 ?_;refine c_rgSign (zi hG1) hGl ?_;rw[zdl hG1];obtain⟨N,hN⟩:∃N,zgX (zvi x.client) (zhY L (znC x))=N:=⟨_,rfl⟩;have hl2:zhp σ.length (S1.set id2 (rlO (zhs G (zvi x.client) (zhY L (znC x))))):=hl1.setO (rlO_low _ _);have hs2:(S1.set id2 (rlO (zhs G (zvi x.client) (zhY L (znC x))))).length=S1.length:=by simp
  obtain⟨S2,hS2⟩:∃S2,S1.set id2 (rlO (zhs G (zvi x.client) (zhY L (znC x))))=S2:=⟨_,rfl⟩;rw[hS2]at hK hs2 hl2 ⊢;have r2:σ.length=S2.length:=by rw[r1];exact hs2.symm
  have r3:S1.length=S2.length:=hs2.symm;rw[r2]at hl2;rw[hN]at hK ⊢;simp only[zuy];by_cases hN0:N=0
  ·have hq:(N != 0)=false:=by simpa using hN0
   have e2:zfB L x=⟨x.client,x.time,x.op,zvi x.client,zhY L (znC x)⟩:=by rw[zfB,if_pos (by rw[e1,hN,hN0])]
   have e3:signR (zvi x.client) (zhY L (znC x))=⟨zvi x.client,zhY L (znC x)⟩:=by rw[signR,if_pos (by rw[hN,hN0])]
   rw[e2]at hK;rw[e3];refine zm (zd hq (zd r2 r3)) ?_;rw[hN0]at hK;refine zfc rfl ?_ hl2 ?_
   ·simp[zhe,dmT,dm,dm1,zcm,zbu,zfv]
   ·exact hK
  ·have hq:(N != 0)=true:=by simpa using hN0
   have e2:zfB L x=noSg:=by rw[zfB,if_neg (by rw[e1,hN];exact hN0)]
   rw[e2]at hK;rw[show signR (zvi x.client) (zhY L (znC x))=⟨0,0⟩from by rw[signR,if_neg (by rw[hN];exact hN0)]];refine zm (zd hq (zd r2 r3)) ?_;refine zfc rfl ?_ hl2 ?_
   ·simp[zhe,dmT,dm,dm1,zcm,zbu,zfv]
   ·exact hK
 ·have hb:(zT x != 0)=true:=by simpa using hc
  have e1:zko L x=zT x:=if_pos hc;have e2:zfB L x=noSg:=by rw[zfB,if_neg (by rw[e1];exact hc)]
  rw[e1,e2,zok,zpS,if_pos hc,if_pos hc,zbR hT,zbR hG]at hK;refine zm hb ?_;refine zu hl ?_;exact hK
variable {σ:List AObj}
theorem zAD {id m t:Nat}{g:List zI}(hG:zfm σ id m t g)(hg:g.length<=1073741824){K:KT}
  (hK:∀g':List zI,K (.box (σ.length+1) 0) (σ++ledO σ.length g')):zP zcx [.box id 0] σ K:=by
 refine zbN zeI.is rfl (fun s=>List.range' σ.length 3) fun hl _=>zeI.goes ?_;have hbx:∀τ,(σ++τ)[id]? = _:=fun τ=>zi hG.box;have hlen:(ztZ g).length=g.length:=List.length_map ..;simp only[zgz,iN,bT,bF,eN];refine zAb ?_;refine zwZ hG ?_;refine zoh hbx ?_;refine zny ?_;refine zoh (zdt hbx hlen) ?_;refine zn g.length (fun k vs s=>vs=[.d (.int .i64 k)]/\∃g' τ,g'.length<=k/\s=σ++(ledO σ.length g'++τ)) ⟨rfl,[],[],by simp,by simp[ztZ,zxF]⟩ ?_;rintro k vs s hk ⟨rfl,g',τ,hg',rfl⟩;by_cases hlt:k<g.length
 ·have hd:decide ((k:Int)<(g.length:Int))=true:=by simp;omega
  have hx:g[k]? = some g[k]:=by simp[hlt]
  obtain⟨x,hxe⟩:∃x,g[k]=x:=⟨_,rfl⟩;rw[hxe]at hx;have hgx:(ztZ g)[k]? = some [D.int .i64 x.key,D.int .i64 x.dig]:=by rw[ztZ];exact zR hx
  refine zoh (zdt hd (zdt hgx hlen)) ?_;have hL:∀τ',zfm (σ++(ledO σ.length g'++τ')) (σ.length+1) σ.length (σ.length+2) g':=fun τ'=>ledAt_new σ g' τ';refine c_gSign (hL (τ++[.box [.d (.int .i64 x.key),.d (.int .i64 x.dig)]])) (by omega) ?_;have hP:=putLed_new σ g' (zhs g' x.key x.dig) (τ++[.box [.d (.int .i64 x.key),.d (.int .i64 x.dig)]]);rw[hP];have hw:IntKind.i64.wrap ((k:Int)+1)=((k+1:Nat):Int):=by rw[zaW (by omega) (by omega)];rfl
  refine zoh hw ?_;refine zaK.next hlt ⟨rfl,zhs g' x.key x.dig,τ++[.box [.d (.int .i64 x.key),.d (.int .i64 x.dig)]],?_,by simp[ledO]⟩;unfold zhs zzH;split
  ·split
   ·omega
   ·simp;omega
  ·omega
 ·have hd:decide ((k:Int)<(g.length:Int))=false:=by simp;omega
  refine zoh (zdt hlen hd) ?_;exact zug (σ':=σ) (os:=ledO σ.length g') (τ:=τ) rfl rfl hl (low_ledO _ _) (.box _ _ (by simp)) (hK g')
variable {σ:List AObj}
theorem c_auPut {b:List UInt8}{l:List Int}(hb:b.length<=1000000)(hl0:l.length<=1000)(hi:∀x∈l,0<=x/\x<=9007199254740992){K:KT}(hK:K (.d (.slice (bcs (b++zS l)))) σ) :
  zP zpF [.d (.slice (bcs b)),.d (.slice (zhZ l))] σ K:=by
 refine zeq e_auth_put fun hl=>?_;simp only[zzy,iN,bT,bF,eN];refine zG ?_;refine zn l.length (fun k vs s=>(∃x,vs=[x,.d (.int .i64 k)]/\(x=.d (.slice (bcs (b++zS (l.take k))))∨∃t,x=.own t (bcs (b++zS (l.take k)))))/\∃T,s=σ++T) ⟨⟨_,rfl,.inl (by simp[zS])⟩,[],by simp⟩ ?_;rintro k vs s hk ⟨⟨y,rfl,hy⟩,T,rfl⟩;have hdy:dm y=.d (.slice (bcs (b++zS (l.take k)))):=by
  rcases hy with rfl|⟨t,rfl⟩<;>rfl
 by_cases hlt:k<l.length
 ·have hd:decide ((k:Int)<(l.length:Int))=true:=by simp;omega
  have hx:l[k]? = some l[k]:=by simp[hlt]
  have hxi:=hi _ (List.getElem_mem hlt);have hgx:=zR (f:=fun t=>[D.int .i64 t]) hx;obtain⟨x,hxe⟩:∃x,l[k]=x:=⟨_,rfl⟩;rw[hxe]at hx hgx hxi;have hm1:(if x>0 then x else 0)=x:=by split<;>omega
  have hm2:(if 0<x then x else 0)=x:=by split<;>omega
  have hw:IntKind.u64.wrap x=((x.toNat:Nat):Int):=by
   rw[show x=((x.toNat:Nat):Int) by omega,zdW (by omega)];rfl
  have hln:=zot (l:=l.take k) (fun y hy=>by have:=hi y (List.mem_of_mem_take hy);omega);have hlk:(l.take k).length=k:=by rw[List.length_take];omega
  have hw2:IntKind.i64.wrap ((k:Int)+1)=((k+1:Nat):Int):=by rw[zaW (by omega) (by omega)];rfl
  have hbl:(b++zS (l.take k)).length<=1073741824:=by rw[List.length_append];omega
  rcases hy with rfl|⟨t,rfl⟩
  ·refine zm (zd hd (zd hgx (zd hm1 (zd hm2 hw)))) ?_;refine zfy (by omega) hbl ?_;refine zm hw2 ?_;exact zaK.next hlt ⟨⟨_,rfl,.inr ⟨_,by rw[zpy hx]⟩⟩,_,rfl⟩
  ·refine zm (zd hd (zd hgx (zd hm1 (zd hm2 hw)))) ?_;refine zfy (by omega) hbl ?_;refine zm hw2 ?_;exact zaK.next hlt ⟨⟨_,rfl,.inr ⟨_,by rw[zpy hx]⟩⟩,_,rfl⟩
 ·have hd:decide ((k:Int)<(l.length:Int))=false:=by simp;omega
  rw[List.take_of_length_le (by omega)]at hy;rcases hy with rfl|⟨t,rfl⟩
  ·refine zm hd ?_;refine zu hl ?_;exact hK
  ·refine zm hd ?_;refine zu hl ?_;exact hK
variable {σ:List AObj}
theorem may_all {a b c d:Int}(h:mayV a b c d=true):∀x∈[a,b,c,d],0<=x/\x<=9007199254740992:=by
 rw[mayV_all,List.all_eq_true]at h;exact fun x hx=>zvW.1 (h x hx)
theorem zhR {a b c d:Int}(h:mayV a b c d=true){K:KT}(hK:K (.d (.slice (bcs (zvB a b c d)))) σ) :
  zP zfi [.d (.int .i64 a),.d (.int .i64 b),.d (.int .i64 c),.d (.int .i64 d)] σ K:=by
 refine acE4 zuX fun hl=>?_;simp only[znV,iN,bT,bF,eN];refine zG ?_;refine c_auPut (b:=[4]) (l:=[a,b,c,d]) (by simp) (by simp) (may_all h) ?_;refine zG ?_;refine zu hl ?_;exact hK
theorem c_auMade {id m t id2 m2 t2:Nat}{l:List (List UInt8)}{g:List zI}(hT:zgQ σ id m t l)(hG:zfm σ id2 m2 t2 g)(hL:zmI l)(hg:g.length<=1073741824){K:KT}
  (hK:K (.d (.bool true)) σ):zP znj [.box id 0,.box id2 0] σ K:=by
 refine zeq e_auth_made fun hl=>?_;simp only[zxz,iN,bT,bF,eN];refine zG ?_;refine zvo hT hL.nd hL.len hL.each ?_;refine zG ?_;refine zAD (hG.app _) hg fun g'=>?_;refine zG ?_;refine zu hl ?_;exact hK
theorem c_auSigned {id m t id2 m2 t2:Nat}{L:List (List UInt8)}{G:List zI}{s:zI}{key:Int}{b:List UInt8}(hT:zgQ σ id m t L)(hG:zfm σ id2 m2 t2 G){K:KT}
  (hK:K (.d (.bool (zir L G s key b))) σ):zP zni [.box id 0,.box id2 0,.agg [.d (.int .i64 s.key),.d (.int .i64 s.dig)],.d (.int .i64 key),.d (.slice (bcs b))] σ K:=by
 refine acE5 zAq fun hl=>?_;have hT1:=fun τ=>hT.app τ;have hG1:=fun τ=>hG.app τ;simp only[zsI,iN,bT,bF,eN];refine zG ?_;refine c_tLook (hT1 _) ?_;have fin:∀z,zir L G s key b=z->K (.d (.bool z)) σ:=fun z h=>h▸hK;clear hK;cases hlk:zhJ L b with
 | none=>
  refine gq28 ?_
  refine zu hl ?_
  exact fin _ (by simp[zir,hlk])
 | some i=>
  simp only[zou]
  cases h1:(s.key==key)
  ·refine zdB h1 ?_
   refine zu hl ?_
   exact fin _ (by simp at h1;simp[zir,hlk,h1])
  ·cases h2:(s.dig==((i+1:Nat):Int))
   ·refine zdB (zd h1 h2) ?_
    refine zu hl ?_
    exact fin _ (by simp at h1 h2;simp[zir,hlk,h1];omega)
   ·refine zdB (zd h1 h2) ?_
    refine c_gSigned (s:=s) (hG1 _) ?_
    refine zG ?_
    refine zu hl ?_
    exact fin _ (by simp at h1 h2;simp[zir,hlk,h1,h2])
abbrev uns7 (m:zbC) (c:zbj):zbC:={ m with changes:=[{ c with key:=0,dig:=1 }] }
theorem some7 {m:zbC}{c:zbj}(hk:m.kind=7)(hc:m.changes=[c]):zbr m=uns7 m c:=by simp[zbr,hk,hc]
theorem uns7_small {m:zbC}{c:zbj}(h:zaI m)(hc:m.changes=[c]):zaI (uns7 m c):=by
 obtain⟨h1,h2,h3,h4,h5,h6,h7,h8,h9,h10⟩:=h;obtain⟨⟨a1,a2,a3⟩,⟨b1,b2,b3⟩⟩:=h5 c (by rw[hc];simp);exact⟨h1,h2,h3,by simp,by intro x hx;simp at hx;subst hx;exact⟨⟨a1,a2,a3⟩,⟨b1,b2,b3⟩⟩,h6,h7,h8,h9,h10⟩
abbrev zvC (m:zbC):zbC:={ m with key:=0,sdig:=1 }
theorem uns8_small {m:zbC}(h:zaI m):zaI (zvC m):=by
 obtain⟨h1,h2,h3,h4,h5,h6,h7,h8,h9,h10⟩:=h;exact⟨h1,h2,h3,h4,h5,h6,h7,h8,h9,h10⟩
theorem bcs1 (l:List UInt8):∀e∈bcs l,e.length=1:=by
 intro e he;simp only[bcs,List.mem_map]at he;obtain⟨x,_,rfl⟩:=he;rfl
variable {σ:List AObj}
theorem res_eq {e o:Int}(he:0<=e)(ho:0<=o):resB e o=zbv e.toNat++zbv o.toNat:=by
 rw[resB,Int.max_eq_right he,Int.max_eq_right ho]
theorem unsG7 {m:zbC}(h:m.kind=7∨m.kind=8):unsB m=znW m:=by
 cases hc:m.changes<;>rcases h with h|h<;>simp[unsB,znW,zft,h,hc]
theorem zwQ {id:Nat}{b:List UInt8}{m:zbC}(hσ:σ[id]? = some (wO b))(hb:b.length<=900000)(h:zbK m=0){K:KT}(hK:K (.tup []) (σ.set id (wO (b++znW m)))) :
  zP zbp [.box id 0,zgi m] σ K:=by
 have hkk:=kinds h;by_cases h7:m.kind=7
 ·obtain⟨c,hc,he⟩:=zwO h7 h;exact c_wUns7 hσ (by omega) h7 hc (ziY he).1 (by rw[unsG7 (.inl h7)];exact hK)
 by_cases h8:m.kind=8
 ·exact c_wUns8 hσ (by omega) h8 (check8 h8 h).1 (by rw[unsG7 (.inr h8)];exact hK)
 have hall:=(zgP h).1;have gi:∀n lo hi:Int,inE n lo hi∈zC m->lo<=n/\n<=hi:=fun n lo hi hm=>zkG (hall _ (by simp[zac,hm]));refine zeq zey fun hl=>?_;have hid:=zaa hσ;have n0:=zl (n:=m.kind.toNat) (by omega);have hf:∀ {S b'},zlW σ id (zlh m) (wO b') S->b'=b++znW m->AW.Ends σ.length K (some []) S:=fun j e=>(j.as (by rw[e])).done (zqh _ _) hl hK;simp only[zcX,iN,bT,bF,eN,zl6];have j:=zlW.first hσ (zlh m);refine zG ?_;refine zgJ (b:=b) (l:=[m.kind]) j hid (by omega) (by simp) (by simp;omega) fun S j=>?_;have b0:=j.b;have e0:zS [m.kind]=zbv m.kind.toNat:=by simp[zS]
 rw[e0]at j;obtain⟨b1,hb1⟩:∃b1,b++zbv m.kind.toNat=b1:=⟨_,rfl⟩;have hb1l:b1.length<=900010:=by rw[← hb1,List.length_append];omega
 have hu:b++znW m=b1++zft m:=by rw[znW,← List.append_assoc,hb1]
 rw[hb1]at j;by_cases hv:m.kind=2∨m.kind=3∨m.kind=4
 ·obtain⟨v1,v2,v3,v4⟩:=zzA h hv;have q:=zce (l:=[m.src,m.view,m.seq,m.dig]) (by simp;omega);simp only[List.length_cons,List.length_nil]at q;rcases hv with hk|hk|hk
  ·have hcb:zD m.batch=0:=hall _ (by simp[zac,zC,hk]);refine zm (zd b0 (K2 hk)) ?_;refine zgJ (b:=b1) (l:=[m.src,m.view,m.seq,m.dig]) j hid (by omega) (by simp) (by simp;omega) fun S j=>?_;have b0:=j.b;refine zm (zd b0 (K2 hk)) ?_;refine zvj (b:=b1++zS [m.src,m.view,m.seq,m.dig]) j hid (by rw[List.length_append];omega) hcb fun S j=>?_;refine zG ?_;exact hf j (by rw[hu];simp[zft,hk])
  ·refine zm (zd b0 (K3 hk)) ?_;refine zgJ (b:=b1) (l:=[m.src,m.view,m.seq,m.dig]) j hid (by omega) (by simp) (by simp;omega) fun S j=>?_;have b0:=j.b;refine zm (zd b0 (K3 hk)) ?_;exact hf j (by rw[hu];simp[zft,hk])
  ·refine zm (zd b0 (K4 hk)) ?_;refine zgJ (b:=b1) (l:=[m.src,m.view,m.seq,m.dig]) j hid (by omega) (by simp) (by simp;omega) fun S j=>?_;have b0:=j.b;refine zm (zd b0 (K4 hk)) ?_;exact hf j (by rw[hu];simp[zft,hk])
 by_cases hk:m.kind=1
 ·have hcb:zD m.batch=0:=hall _ (by simp[zac,zC,hk]);refine zm (zd b0 (K1 hk)) ?_;refine zvj (b:=b1) j hid (by omega) hcb fun S j=>?_;refine zG ?_;exact hf j (by rw[hu];simp[zft,hk])
 by_cases hk:m.kind=5
 ·obtain⟨h1,h2,h3,h4,h5,h6,_⟩:=zyP hk h;have q:=zce (l:=[m.src,m.view,m.client,m.time]) (by simp;omega);simp only[List.length_cons,List.length_nil]at q;refine zm (zd b0 (K5 hk)) ?_;refine zgJ (b:=b1) (l:=[m.src,m.view,m.client,m.time]) j hid (by omega) (by simp) (by simp;omega) fun S j=>?_;have b0:=j.b;have a0:=j.a;refine zm (zd b0 a0) ?_;refine c_PutResult (e:=m.rerr) (o:=m.roff) (b:=b1++zS [m.src,m.view,m.client,m.time]) (by rw[List.length_append];omega) (by omega) (by omega) ?_;refine zm (zd b0 a0) ?_;exact hf (j.set hid _) (by rw[hu];simp[zft,hk,res_eq h5.1 h6.1])
 by_cases hk:m.kind=6
 ·have g1:=gi m.src 0 12 (by simp[zC,hk,zjF]);have g2:=gi m.seq 1 9007199254740992 (by simp[zC,hk,zks]);have g3:=gi m.dig 1 9007199254740992 (by simp[zC,hk,zks]);refine zm (zd b0 (K6 hk)) ?_;refine zgJ (b:=b1) (l:=[m.src,m.seq,m.dig]) j hid (by omega) (by simp) (by simp;omega) fun S j=>?_;refine zG ?_;exact hf j (by rw[hu];simp[zft,hk])
 by_cases hk:m.kind=9
 ·have g1:=gi m.src 0 12 (by simp[zC,hk,zjF]);have g2:=gi m.seq 0 9007199254740992 (by simp[zC,hk,zeU]);refine zm (zd b0 (K9 hk)) ?_;refine zgJ (b:=b1) (l:=[m.src,m.seq]) j hid (by omega) (by simp) (by simp;omega) fun S j=>?_;refine zG ?_;exact hf j (by rw[hu];simp[zft,hk])
 by_cases hk:m.kind=10
 ·have g1:=gi m.src 0 12 (by simp[zC,hk,zjF]);have g2:∀e∈zbx m.cert,e=0:=fun e he=>hall e (by simp[zac,zC,hk,he]);have g3:=gi m.state.length 0 262144 (by simp[zC,hk]);have q:=zce (l:=[m.src]) (by simp;omega);have q2:=zhN g2;simp only[List.length_cons,List.length_nil]at q;refine zm (zd b0 (K10 hk)) ?_;refine zgJ (b:=b1) (l:=[m.src]) j hid (by omega) (by simp) (by simp;omega) fun S j=>?_;have b0:=j.b;refine zm b0 ?_;refine jw_cert (b:=b1++zS [m.src]) (c:=m.cert) j hid (by rw[List.length_append];omega) g2 fun S j=>?_;have b0:=j.b;refine zm b0 ?_;refine jw_str (b:=b1++zS [m.src]++zrx m.cert) (x:=m.state) j hid (by simp only[List.length_append];omega) (by omega) fun S j=>?_;refine zG ?_;exact hf j (by rw[hu];simp[zft,hk])
 by_cases hk:m.kind=11
 ·have g1:=gi m.client 0 7 (by simp[zC,hk]);have g2:=gi m.offset 0 9007199254740992 (by simp[zC,hk,zeU]);have g3:m.topic.length<=64:=by
   refine zyt ?_;have:=hall (zlg m.topic) (by simp[zac,zC,hk]);unfold zlg at this;split at this
   ·assumption
   ·cases this
  have q:=zce (l:=[m.client]) (by simp;omega);have p1:=zdm (x:=m.topic) (by omega);simp only[List.length_cons,List.length_nil]at q;refine zm (zd b0 (K11 hk)) ?_;refine zgJ (b:=b1) (l:=[m.client]) j hid (by omega) (by simp) (by simp;omega) fun S j=>?_;have b0:=j.b;refine zm b0 ?_;refine jw_str (b:=b1++zS [m.client]) (x:=m.topic) j hid (by rw[List.length_append];omega) (by omega) fun S j=>?_;have b0:=j.b;refine zm b0 ?_;refine zgJ (b:=b1++zS [m.client]++zkr m.topic) (l:=[m.offset]) j hid (by simp only[List.length_append];omega) (by simp) (by simp;omega) fun S j=>?_;refine zG ?_;exact hf j (by rw[hu];simp[zft,hk])
 have hk:m.kind=12:=by omega
 have g1:=gi m.src 0 12 (by simp[zC,hk,zjF]);have g2:zrD m.proof:=zzP fun e he=>hall e (by simp[zac,zC,hk,he]);have q:=zce (l:=[m.src]) (by simp;omega);simp only[List.length_cons,List.length_nil]at q;refine zm (zd b0 (K12 hk)) ?_;refine zgJ (b:=b1) (l:=[m.src]) j hid (by omega) (by simp) (by simp;omega) fun S j=>?_;have b0:=j.b;refine zm b0 ?_;refine c_wProof (b:=b1++zS [m.src]) (p:=m.proof) j.a (by rw[List.length_append];omega) g2 ?_;refine zG ?_;exact hf (j.set hid _) (by rw[hu];simp[zft,hk])
theorem zjE {m:zbC}(h:zfW m=0):zbK m=0/\(ztm m).length<=262144:=by
 unfold zfW at h;split at h
 ·rename_i hh;exact absurd h hh
 ·rename_i hh;split at h
  ·cases h
  ·exact⟨by simpa using hh,by omega⟩
theorem unsG_len {m:zbC}(hm:m.state.length<=1073741824)(h:zbK m=0):(znW m).length<=700000:=by
 have hkk:=kinds h;have hall:=(zgP h).1;have gi:∀n lo hi:Int,inE n lo hi∈zC m->lo<=n/\n<=hi:=fun n lo hi hm=>zkG (hall _ (by simp[zac,hm]));have n0:=zl (n:=m.kind.toNat) (by omega);have fin:(zft m).length<=600000->(znW m).length<=700000:=fun h=>by rw[znW,List.length_append];omega
 refine fin ?_;clear fin;by_cases hv:m.kind=2∨m.kind=3∨m.kind=4
 ·obtain⟨v1,v2,v3,v4⟩:=zzA h hv;have q:=zce (l:=[m.src,m.view,m.seq,m.dig]) (by simp;omega);simp only[List.length_cons,List.length_nil]at q;rcases hv with hk|hk|hk
  ·have hcb:zD m.batch=0:=hall _ (by simp[zac,zC,hk]);have:=(zdL hcb).2;simp only[zft,hk,reduceIte,Int.reduceEq,List.length_append];omega
  ·simp only[zft,hk,reduceIte,Int.reduceEq,true_or];omega
  ·simp only[zft,hk,reduceIte,Int.reduceEq,or_true];omega
 by_cases hk:m.kind=1
 ·have hcb:zD m.batch=0:=hall _ (by simp[zac,zC,hk]);have:=(zdL hcb).2;simp only[zft,hk,reduceIte];omega
 by_cases hk:m.kind=5
 ·obtain⟨h1,h2,h3,h4,h5,h6,_⟩:=zyP hk h;have q:=zce (l:=[m.src,m.view,m.client,m.time]) (by simp;omega);have n5:=zl (n:=m.rerr.toNat) (by omega);have n6:=zl (n:=m.roff.toNat) (by omega);simp only[List.length_cons,List.length_nil]at q;simp only[zft,hk,reduceIte,Int.reduceEq,or_self,List.length_append];omega
 by_cases hk:m.kind=6
 ·have g1:=gi m.src 0 12 (by simp[zC,hk,zjF]);have g2:=gi m.seq 1 9007199254740992 (by simp[zC,hk,zks]);have g3:=gi m.dig 1 9007199254740992 (by simp[zC,hk,zks]);have q:=zce (l:=[m.src,m.seq,m.dig]) (by simp;omega);simp only[List.length_cons,List.length_nil]at q;simp only[zft,hk,reduceIte,Int.reduceEq,or_self];omega
 by_cases hk:m.kind=7
 ·obtain⟨c,hc,he⟩:=zwO hk h;have:=zsx (ziY he).1;simp only[zft,hk,reduceIte,Int.reduceEq,or_self,hc];omega
 by_cases hk:m.kind=8
 ·have:=newvB_len (check8 hk h).1;simp only[zft,hk,reduceIte,Int.reduceEq,or_self];omega
 by_cases hk:m.kind=9
 ·have g1:=gi m.src 0 12 (by simp[zC,hk,zjF]);have g2:=gi m.seq 0 9007199254740992 (by simp[zC,hk,zeU]);have q:=zce (l:=[m.src,m.seq]) (by simp;omega);simp only[List.length_cons,List.length_nil]at q;simp only[zft,hk,reduceIte,Int.reduceEq,or_self];omega
 by_cases hk:m.kind=10
 ·have g1:=gi m.src 0 12 (by simp[zC,hk,zjF]);have g2:∀e∈zbx m.cert,e=0:=fun e he=>hall e (by simp[zac,zC,hk,he]);have g3:=gi m.state.length 0 262144 (by simp[zC,hk]);have q:=zce (l:=[m.src]) (by simp;omega);have q2:=zhN g2;have q3:=zdm (x:=m.state) (by omega);simp only[List.length_cons,List.length_nil]at q;simp only[zft,hk,reduceIte,Int.reduceEq,or_self,List.length_append];omega
 by_cases hk:m.kind=11
 ·have g1:=gi m.client 0 7 (by simp[zC,hk]);have g2:=gi m.offset 0 9007199254740992 (by simp[zC,hk,zeU]);have g3:m.topic.length<=64:=by
   refine zyt ?_;have:=hall (zlg m.topic) (by simp[zac,zC,hk]);unfold zlg at this;split at this
   ·assumption
   ·cases this
  have q:=zce (l:=[m.client]) (by simp;omega);have q2:=zce (l:=[m.offset]) (by simp;omega);have p1:=zdm (x:=m.topic) (by omega);simp only[List.length_cons,List.length_nil]at q q2;simp only[zft,hk,reduceIte,Int.reduceEq,or_self,List.length_append];omega
 have hk:m.kind=12:=by omega
 have g1:=gi m.src 0 12 (by simp[zC,hk,zjF]);have g2:zrD m.proof:=zzP fun e he=>hall e (by simp[zac,zC,hk,he]);have q:=zce (l:=[m.src]) (by simp;omega);have q2:=proofB_len g2;simp only[List.length_cons,List.length_nil]at q;simp only[zft,hk,reduceIte,Int.reduceEq,or_self,List.length_append];omega
variable {σ:List AObj}
theorem zss {m:zbC}(hm:zaI m){K:KT}(hK:∀b:List UInt8,K (.tup [.d (.slice (bcs b)),.d (.int .i64 (zfW m))]) σ) :
  zP zkB [zgi m] σ K:=by
 refine zeA zwH fun hl=>?_;have fin:∀b z,zfW m=z->K (.tup [.d (.slice (bcs b)),.d (.int .i64 z)]) σ:=fun b z h=>h▸hK b;clear hK;simp only[zpm,iN,bT,bF,eN];refine zG ?_;refine c_mCheckG (m:=m) hm ?_;cases h1:(zbK m != 0);rotate_left
 ·refine zm h1 ?_;refine zu hl ?_;exact fin [] _ (by simp at h1;simp[zfW,h1])
 have h1':zbK m=0:=by simpa using h1
 have hul:=unsG_len hm.state h1';have ende:∀u,ztm m=u->zfW m=if u.length>262144 then 3 else 0:=fun u hu=>by simp[zfW,h1',hu]
 refine zm h1 ?_;refine ACall.pre (.dataB (σ.length+1) 0 [.exact []] (.exact []) [] (by simp) rfl rfl (.refl _ _)) ?_;have hW:((σ++[zlh m,.box [.exact []]]).set (σ.length+1) (.box (([AV.exact []]:List AV).set 0 (.d (.slice [])))))=σ++[zlh m,wO []]:=by rw[zY];rfl
 rw[hW];refine zwQ (b:=[]) (m:=m) (by rw[zA];rfl) (by simp) h1' ?_;rw[zY];by_cases h7:m.kind=7
 ·obtain⟨c,hc,he⟩:=zwO h7 h1';have hgx:(zap m.changes)[0]? = some (zag c):=by rw[hc];rfl
  have hgl:(zap m.changes).length=1:=by rw[hc];rfl
  refine zdB (zd (K7 h7) (zd hgx hgl)) ?_;refine zAt (b:=znW m) (by rw[zA];rfl) (by omega) (ziY he).2 ?_;rw[zY];refine zG ?_;obtain⟨u,hu⟩:∃u,znW m++zgu c.key c.dig=u:=⟨_,rfl⟩;rw[hu];have hS:(σ++List.set [zlh m,wO (znW m)] 1 (wO u))[σ.length+1]? = some (wO u):=by rw[zA];rfl
  refine zAu (b:=u) hS ?_;refine zG ?_;refine zu hl ?_;exact fin _ _ (ende u (by rw[← hu];simp[ztm,ownS,h7,hc]))
 by_cases ho:zeT m.kind=true
 ·have hs:=own_ok h1' ho;refine zm (show(m.kind==7)=false by simpa using h7) ?_;refine zaP ?_;refine zm ho ?_;refine zAt (b:=znW m) (by rw[zA];rfl) (by omega) hs ?_;rw[zY];refine zG ?_;obtain⟨u,hu⟩:∃u,znW m++zgu m.key m.sdig=u:=⟨_,rfl⟩;rw[hu];have hS:(σ++List.set [zlh m,wO (znW m)] 1 (wO u))[σ.length+1]? = some (wO u):=by rw[zA];rfl
  refine zAu (b:=u) hS ?_;refine zG ?_;refine zu hl ?_;exact fin _ _ (ende u (by rw[← hu];simp[ztm,ownS,h7,ho]))
 ·have ho':zeT m.kind=false:=by simpa using ho
  refine zm (show(m.kind==7)=false by simpa using h7) ?_;refine zaP ?_;refine zm ho' ?_;refine zAu (b:=znW m) (by rw[zA];rfl) ?_;refine zG ?_;refine zu hl ?_;exact fin _ _ (ende _ (by simp[ztm,h7,ho]))
theorem zyh {m:zbC}(h:zaI m):zaI (zbr m):=by
 unfold zbr;split
 ·split
  ·rename_i c hc;exact uns7_small h hc
  ·exact h
 ·split
  ·exact uns8_small h
  ·exact h
theorem c_mUnsignedG {m:zbC}(hm:zaI m){K:KT}
  (hK:K (.tup [.d (.slice (bcs (if zfW (zbr m)=0 then znW (zbr m)else []))),.d (.int .i64 (zfW (zbr m)))]) σ):zP zhE [zgi m] σ K:=by
 refine zeA zsm fun hl=>?_;have hs:=zyh hm;have hgl:(zap m.changes).length=m.changes.length:=List.length_map ..;have fin:∀b z,(if zfW (zbr m)=0 then znW (zbr m)else [])=b->zfW (zbr m)=z->K (.tup [.d (.slice (bcs b)),.d (.int .i64 z)]) σ:=fun b z h h'=>h▸h'▸hK;clear hK;obtain⟨M,hM⟩:∃M,zbr m=M:=⟨_,rfl⟩;rw[hM]at fin hs;simp only[zlS,iN,bT,bF,eN,zl6];by_cases h7:m.kind=7
 ·by_cases h1:m.changes.length=1
  ·obtain⟨c,hc⟩:=List.length_eq_one_iff.1 h1;have hgx:(zap m.changes)[0]? = some (zag c):=by rw[hc];rfl
   rw[some7 h7 hc]at hM;refine zdB (zd (K7 h7) (zd hgx (zd hgl h1))) ?_;refine c_mSome ?_;refine zdB (zd hgx hgl) ?_;subst hM;refine zss (m:=uns7 m c) hs fun b0=>?_;cases hb:(zfW (uns7 m c) != 0)
   ·have hb':zfW (uns7 m c)=0:=by simpa using hb
    refine zm hb ?_;refine ACall.pre (.dataB (σ.length+2) 0 [.exact []] (.exact []) [] (by rw[zA];rfl) rfl rfl (.refl _ _)) ?_;rw[zY];refine zwQ (b:=[]) (m:=uns7 m c) (by rw[zA];rfl) (by simp) (zjE hb').1 ?_;rw[zY];refine zG ?_;refine zu hl ?_;exact fin _ _ (by rw[if_pos hb']) hb'
   ·have hb':zfW (uns7 m c)≠0:=by simpa using hb
    refine zm hb ?_;refine zu hl ?_;exact fin [] _ (by rw[if_neg hb']) rfl
  ·have hb1:(((m.changes.length:Nat):Int)==1)=false:=by simp;omega
   have e:zbr m=m:=by
    unfold zbr;rw[if_pos h7];split
    ·rename_i c hc;simp[hc]at h1
    ·rfl
   rw[e]at hM;refine zm (zd (K7 h7) (zd hgl hb1)) ?_;refine zaP ?_;refine zm (show zeT m.kind=false by rw[h7];rfl) ?_;subst hM;refine zss (m:=m) hs fun b0=>?_;cases hb:(zfW (m) != 0)
   ·have hb':zfW (m)=0:=by simpa using hb
    refine zm hb ?_;refine ACall.pre (.dataB (σ.length+1) 0 [.exact []] (.exact []) [] (by rw[zA];rfl) rfl rfl (.refl _ _)) ?_;rw[zY];refine zwQ (b:=[]) (m:=m) (by rw[zA];rfl) (by simp) (zjE hb').1 ?_;rw[zY];refine zG ?_;refine zu hl ?_;exact fin _ _ (by rw[if_pos hb']) hb'
   ·have hb':zfW (m)≠0:=by simpa using hb
    refine zm hb ?_;refine zu hl ?_;exact fin [] _ (by rw[if_neg hb']) rfl
 by_cases ho:zeT m.kind=true
 ·have e:zbr m=zvC m:=by simp[zbr,h7,ho]
  rw[e]at hM;refine zm (show(m.kind==7)=false by simpa using h7) ?_;refine zaP ?_;refine zm ho ?_;refine c_mSome ?_;refine zG ?_;subst hM;refine zss (m:=zvC m) hs fun b0=>?_;cases hb:(zfW (zvC m) != 0)
  ·have hb':zfW (zvC m)=0:=by simpa using hb
   refine zm hb ?_;refine ACall.pre (.dataB (σ.length+1) 0 [.exact []] (.exact []) [] (by rw[zA];rfl) rfl rfl (.refl _ _)) ?_;rw[zY];refine zwQ (b:=[]) (m:=zvC m) (by rw[zA];rfl) (by simp) (zjE hb').1 ?_;rw[zY];refine zG ?_;refine zu hl ?_;exact fin _ _ (by rw[if_pos hb']) hb'
  ·have hb':zfW (zvC m)≠0:=by simpa using hb
   refine zm hb ?_;refine zu hl ?_;exact fin [] _ (by rw[if_neg hb']) rfl
 ·have ho':zeT m.kind=false:=by simpa using ho
  have e:zbr m=m:=by simp[zbr,h7,ho]
  rw[e]at hM;refine zm (show(m.kind==7)=false by simpa using h7) ?_;refine zaP ?_;refine zm ho' ?_;subst hM;refine zss (m:=m) hs fun b0=>?_;cases hb:(zfW (m) != 0)
  ·have hb':zfW (m)=0:=by simpa using hb
   refine zm hb ?_;refine ACall.pre (.dataB (σ.length+1) 0 [.exact []] (.exact []) [] (by rw[zA];rfl) rfl rfl (.refl _ _)) ?_;rw[zY];refine zwQ (b:=[]) (m:=m) (by rw[zA];rfl) (by simp) (zjE hb').1 ?_;rw[zY];refine zG ?_;refine zu hl ?_;exact fin _ _ (by rw[if_pos hb']) hb'
  ·have hb':zfW (m)≠0:=by simpa using hb
   refine zm hb ?_;refine zu hl ?_;exact fin [] _ (by rw[if_neg hb']) rfl
variable {σ:List AObj}
theorem znu {b:List UInt8}{x:Int}(hb:b.length<=1000000)(h0:0<=x)(h1:x<=9007199254740992){K:KT}(hK:K (.d (.slice (bcs (b++zbv x.toNat)))) σ) :
  zP zfJ [.d (.slice (bcs b)),.d (.int .i64 x)] σ K:=by
 refine zeq e_r11_put fun hl=>?_;have hm1:(if 0>x then 0 else x)=x:=by split<;>omega
 have hm2:(if x<0 then 0 else x)=x:=by split<;>omega
 have hw:IntKind.u64.wrap x=((x.toNat:Nat):Int):=by
  rw[show x=((x.toNat:Nat):Int) by omega,zdW (by omega)];rfl
 simp only[S_r11_put,iN,bT,bF,eN];refine zm (zd hm1 (zd hm2 hw)) ?_;refine zeQ (by omega) (by omega) ?_;refine zG ?_;refine zu hl ?_;exact hK
theorem zhP {a b c d:Int}(h:mayV a b c d=true){K:KT}(hK:K (.d (.slice (bcs (zvB a b c d)))) σ) :
  zP zfK [.d (.int .i64 a),.d (.int .i64 b),.d (.int .i64 c),.d (.int .i64 d)] σ K:=by
 refine acE4 zwx fun hl=>?_;simp only[mayV,Bool.and_eq_true,zvW]at h;obtain⟨⟨a0,a1⟩,⟨b0,b1⟩,⟨c0,c1⟩,⟨d0,d1⟩⟩:=h;have l1:=zl (n:=a.toNat) (by omega);have l2:=zl (n:=b.toNat) (by omega);have l3:=zl (n:=c.toNat) (by omega);simp only[zpb,iN,bT,bF,eN];refine zG ?_;refine znu (b:=[4]) (by simp) a0 a1 ?_;obtain⟨B1,hB1⟩:∃B,[4]++zbv a.toNat=B:=⟨_,rfl⟩;have n1:B1.length<=11:=by rw[← hB1];simp;omega
 rw[hB1];refine zG ?_;refine znu (by omega) b0 b1 ?_;obtain⟨B2,hB2⟩:∃B,B1++zbv b.toNat=B:=⟨_,rfl⟩;have n2:B2.length<=21:=by rw[← hB2];simp;omega
 rw[hB2];refine zG ?_;refine znu (by omega) c0 c1 ?_;obtain⟨B3,hB3⟩:∃B,B2++zbv c.toNat=B:=⟨_,rfl⟩;have n3:B3.length<=31:=by rw[← hB3];simp;omega
 rw[hB3];refine zG ?_;refine znu (by omega) d0 d1 ?_;refine zG ?_;refine zu hl ?_;rw[show B3++zbv d.toNat=zvB a b c d by rw[← hB3,← hB2,← hB1];simp[zvB,zS]];exact hK
def zxE (L:List (List UInt8)) (key:Int) (b:List UInt8):Int:=if zhY L b=0 then 6 else zgX key (zhY L b)
def sgnS (L:List (List UInt8)) (key:Int) (b:List UInt8):zI:=if zhY L b=0 then⟨0,0⟩else signR key (zhY L b)
def zqi (L:List (List UInt8)) (G:List zI) (key:Int) (b:List UInt8):List zI:=if zhY L b=0 then G else zhs G key (zhY L b)
theorem c_raSign {id id2:Nat}{L:List (List UInt8)}{G:List zI}{key:Int}{b:List UInt8}(hT:σ[id]? = some (rtO L))(hG:σ[id2]? = some (rlO G))(h1:id≠id2)(hbl:b.length<=1073741824)(hl0:L.length<=1048576)(hg:G.length<=1073741824)
  {K:KT}
  (hK:K (.tup [zuy (sgnS L key b),.d (.int .i64 (zxE L key b))]) ((σ.set id (rtO (zga L b))).set id2 (rlO (zqi L G key b)))) :
  zP zsY [.box id 0,.box id2 0,.d (.int .i64 key),.d (.slice (bcs b))] σ K:=by
 refine acE4 e_r11_sign fun hl=>?_;simp only[zzi,iN,bT,bF,eN];refine zG ?_;refine c_rtSum (zi hT) hbl hl0 ?_;rw[zdl hT];have hl1:zhp σ.length (σ.set id (rtO (zga L b))):=hl.setO (rtO_low _ _);have hs1:(σ.set id (rtO (zga L b))).length=σ.length:=by simp
 have hG1:(σ.set id (rtO (zga L b)))[id2]? = some (rlO G):=by rw[List.getElem?_set_ne h1];exact hG
 obtain⟨S1,hS1⟩:∃S1,σ.set id (rtO (zga L b))=S1:=⟨_,rfl⟩;rw[hS1]at hK hG1 hs1 hl1 ⊢;have r1:σ.length=S1.length:=hs1.symm;rw[r1]at hl1;by_cases hz:zhY L b=0
 ·have hq:(zhY L b==0)=true:=by simpa using hz
  simp only[zxE,sgnS,zqi,if_pos hz,zuy]at hK;rw[zbR hG1]at hK;refine zm (zd hq r1) ?_;refine zfc rfl ?_ hl1 ?_
  ·simp[zhe,dmT,dm,dm1,zcm,zbu,zfv]
  ·exact hK
 ·have hq:(zhY L b==0)=false:=by simpa using hz
  simp only[zxE,sgnS,zqi,if_neg hz]at hK;refine zm (zd hq r1) ?_;refine c_rgSign (zi hG1) hg ?_;rw[zdl hG1];have hl2:zhp S1.length (S1.set id2 (rlO (zhs G key (zhY L b)))):=hl1.setO (rlO_low _ _);have hs2:(S1.set id2 (rlO (zhs G key (zhY L b)))).length=S1.length:=by simp
  obtain⟨S2,hS2⟩:∃S2,S1.set id2 (rlO (zhs G key (zhY L b)))=S2:=⟨_,rfl⟩;rw[hS2]at hK hs2 hl2 ⊢;have r3:S1.length=S2.length:=hs2.symm;have r2:σ.length=S2.length:=r1.trans r3;rw[r3]at hl2;simp only[zuy]at hK ⊢;refine zm (zd r2 r3) ?_;refine zfc rfl ?_ hl2 ?_
  ·simp[zhe,dmT,dm,dm1,zcm,zbu,zfv]
  ·exact hK
end Go.Proofs.YtdgcepphjnoalaaGreat
