/- Contracts: a ledger signs; a table's clone; whether both were made. -/
import Derived.Test.YtdgcepphjnoalaaGreatRd1
import Derived.Test.YtdgcepphjnoalaaGreatOpC
import Derived.Test.YtdgcepphjnoalaaGreatSpTab
set_option linter.all false
set_option maxRecDepth 100000
namespace Go.Proofs.YtdgcepphjnoalaaGreat
open Go.AW
variable {σ:List AObj}
def zuG (s:zK):AV:=.agg [.d (.int .i64 s.key),.d (.int .i64 s.dig)]
def signR (k d:Int):zK:=if zfx k d=0 then⟨k,d⟩else⟨0,0⟩
def zgn (g:List zK) (k d:Int):List zK:=if zfx k d=0 then zvP g ⟨k,d⟩else g
theorem c_gSign {id m t:Nat}{g:List zK}{k d:Int}(hG:zfj σ id m t g)(hgl:g.length<=1073741824){K:KT}
  (hK:K (.tup [zuG (signR k d),.d (.int .i64 (zfx k d))]) (putLed σ id m t (zgn g k d))):zP zdF [.box id 0,.d (.int .i64 k),.d (.int .i64 d)] σ K:=by
 refine acE3 zru fun hl=>?_;have hb:∀τ,(σ++τ)[id]? = some (.box [.own t (zug g),.map m]):=fun τ=>zi hG.box;have hm:∀τ,(σ++τ)[m]? = some (.map (zxG g)):=fun τ=>zi hG.map;obtain⟨n1,n2,n3⟩:=hG.ne;have hlen:(zug g).length=g.length:=List.length_map ..;have bad:zfx k d≠0->K (.tup [.agg [.d (.int .i64 0),.d (.int .i64 0)],.d (.int .i64 (zfx k d))]) σ:=fun h=>by
  rw[signR,zgn,if_neg h,if_neg h,hG.self]at hK;exact hK
 simp only[zkY,iN,bT,bF,eN];refine zAj ?_;refine zxb (hG.app _) ?_;cases h1:decide (k<0)
 ·cases h2:decide (k≥21)
  ·have hk:¬(k<0∨k≥21):=by simp at h1 h2;omega
   cases h3:decide (d<1)
   ·have he:zfx k d=0:=by rw[zfx,if_neg hk,if_neg (by simpa using h3)]
    rw[he,signR,zgn,if_pos he,if_pos he]at hK;by_cases hs:(⟨k,d⟩:zK)∈g
    ·obtain⟨j,hf⟩:=zsd hs;simp only at hf;rw[zvP,if_pos hs,hG.self]at hK;refine gq27 (zdn h1 (zdn h2 (zdn h3 (zdn hb (zdn hm hf))))) ?_;refine zu hl ?_;exact hK
    ·have hf:=zuf hs;simp only at hf;rw[zvP,if_neg hs]at hK;have hmm:σ[m]? = some (.map (zxG g)):=hG.map;have s1:∀X τ,(σ++τ).set m X=σ.set m X++τ:=fun X τ=>zdg hG.map;have hb':∀X,(σ.set m X)[id]? = some (.box [.own t (zug g),.map m]):=fun X=>by rw[List.getElem?_set_ne (Ne.symm n1)];exact hG.box
     have ht':∀X,(σ.set m X)[t]? = some (.tok 2 g.length):=fun X=>by rw[List.getElem?_set_ne n3];exact hG.tok
     have g3:∀X τ,(σ.set m X++τ)[id]? = some (.box [.own t (zug g),.map m]):=fun X τ=>zi (hb' X);have g4:∀X τ,(σ.set m X++τ)[t]? = some (.tok 2 g.length):=fun X τ=>zi (ht' X);have s2:∀X Y τ,(σ.set m X++τ).set t Y=(σ.set m X).set t Y++τ:=fun X Y τ=>zdg (ht' X);have hb2:∀X Y,((σ.set m X).set t Y)[id]? = some (.box [.own t (zug g),.map m]):=fun X Y=>by rw[List.getElem?_set_ne (Ne.symm n2)];exact hb' X
     have s3:∀X Y Z τ,((σ.set m X).set t Y++τ).set id Z=((σ.set m X).set t Y).set id Z++τ:=fun X Y Z τ=>zdg (hb2 X Y);have g5:∀X Y τ,((σ.set m X).set t Y++τ)[id]? = some (.box [.own t (zug g),.map m]):=fun X Y τ=>zi (hb2 X Y);have L1:∀X:AObj,σ.length=(σ.set m X).length:=fun X=>by simp
     have L2:∀X Y:AObj,σ.length=((σ.set m X).set t Y).length:=fun X Y=>by simp
     have L3:∀X Y Z:AObj,σ.length=(((σ.set m X).set t Y).set id Z).length:=fun X Y Z=>by simp
     have e1:∀X τ n,(σ.set m X++τ)[σ.length+n]? = τ[n]?:=fun X τ n=>by rw[L1 X];exact zA ..
     have e2:∀X Y Z τ n,(((σ.set m X).set t Y).set id Z++τ)[σ.length+n]? = τ[n]?:=fun X Y Z τ n=>by rw[L3 X Y Z];exact zA ..
     have e3:∀X Y Z τ W,(((σ.set m X).set t Y).set id Z++τ).set σ.length W=((σ.set m X).set t Y).set id Z++τ.set 0 W:=fun X Y Z τ W=>by rw[L3 X Y Z];exact zaa ..
     have e4:∀X Y Z τ,(((σ.set m X).set t Y).set id Z++τ)[σ.length]? = τ[0]?:=fun X Y Z τ=>by rw[L3 X Y Z];exact zB ..
     refine gq27 (zdn h1 (zdn h2 (zdn h3 (zdn hb (zdn hm (zdn hf (zdn s1 (zdn g3 (zdn g4 (zdn s2 (zdn s3 (zdn g5 (zdn e1 (zdn e2 (zdn e3 (zdn e4 hlen)))))))))))))))) ?_;have e:putLed σ id m t (g++[⟨k,d⟩])=(((σ.set m (AObj.map (zxG g++[(AV.agg [AV.d (D.int IntKind.i64 k),AV.d (D.int IntKind.i64 d)],AV.d (D.bool true))]))).set t (AObj.tok 2 (g.length+1))).set id (AObj.box [AV.own t (zug g++[[D.int IntKind.i64 k,D.int IntKind.i64 d]]),AV.map m])):=by
      rw[ledM_add g ⟨k,d⟩];simp[putLed,zug,zgo]
     rw[← e];exact zeX (zyv ..) (by simp[zgQ,dmT,dm,dm1,zck,zbw,zfs]) (hG.lows hl _) hK
   ·have he:zfx k d=1:=by rw[zfx,if_neg hk,if_pos (by simpa using h3)]
    have:=bad (by rw[he];decide);rw[he]at this;refine zoi (zdn h1 (zdn h2 h3)) ?_;refine zu hl ?_;exact this
  ·have he:zfx k d=20:=by rw[zfx,if_pos (by simp at h2;omega)]
   have:=bad (by rw[he];decide);rw[he]at this;refine zoi (zdn h1 h2) ?_;refine zu hl ?_;exact this
 ·have he:zfx k d=20:=by rw[zfx,if_pos (by simp at h1;omega)]
  have:=bad (by rw[he];decide);rw[he]at this;refine zoi h1 ?_;refine zu hl ?_;exact this
theorem gq28 {P Q:Prop}(h:Q)(e:Hd Q->P:=by intro h;(repeat' first|simp -dsimp only[↓zlC,↓zbR,↓zeb,↓zlD,↓zlu,↓zls,↓zlv,↓zlt,↓zeg,↓zec,↓zeh,↓zed,↓zlw,↓zdX,↓zei,↓zee,↓zej,↓zef,↓zlq,↓zlA,↓zdW,↓zem,↓zli,↓zlh,↓zln,iN,bT,bF,eN,↓zev,↓unC,↓zaC,↓zai,↓zaj,↓zav,↓zaW,↓zah,↓zgy,↓zaw,↓zbd,↓zad,↓ze,↓zl,↓zbg,↓zc,↓zaV,↓zN,↓zbS,↓zcl,↓zf,↓zF,↓zp,↓zM,↓zaB,↓zgF,↓zhG,↓zbc,↓zbz,↓zcf,↓zcz,↓zdj,↓zJ,↓zbb,↓zak,↓zO,↓zaU,zho,zdP,zdy,unA,zgu,bnd,ziP,zaO,zL,zhY,dm,dm1,zH,zaJ,zjT,zjS,keepO,Q0,Q1,Q2,Q3,Q4,Q5,zba,zA,zB,zX,zaa,Q6,Q7,Q8,Q9,Q10,Q11,Q12,Q13,Q14,Nat.reduceAdd,Q15,Int.reduceToNat,Q16,Q17,Q18,Q19,Q20,reduceIte,Q21,Q22,zy,rep,zaq,zhV,toD,zaD,Q23,Q24,Q25,Q26,Q27,Q28,Nat.reduceLeDiff,Q29,Nat.reduceSub,Q30,Q31,Q32,sc,Q33,Q34,Q35,Q36,Q37,Q26,Q38,Q39,zuP,zuM,zuJ,zuQ,zjr,zuN,zuK,zuO,zuL,zjq,zjs,zuS,zuT,Bool.not_true,Bool.not_false,List.length_map,Bool.and_false,Bool.and_self,Bool.false_and,Bool.not_false,Bool.not_true,Bool.true_and,Int.toNat_natCast,Int.toNat_zero,List.drop_zero,List.length_map,List.length_nil,List.nil_append,List.take_length,Nat.sub_zero,Nat.zero_add,Option.isSome_none,Option.isSome_some,Option.map_none,Option.map_some,zam,beq_self_eq_true,bne_self_eq_false]|with_reducible refine zvh ?_|fail);exact h.go):P:=e ⟨h⟩
theorem c_From {l:List (List UInt8)}(hn:l.Nodup)(hl0:l.length<=1048576)(hb:∀b∈l,b.length<=1073741824){K:KT}
  (hK:K (.tup [.box (σ.length+1) 0,.d (.int .i64 0)]) (σ++tabO σ.length l)):zP zoB [.d (.slice (zvJ l))] σ K:=by
 refine zbM zuq.is rfl (fun s=>List.range' σ.length 3) fun hl _=>zuq.goes ?_;have hlen:(zvJ l).length=l.length:=List.length_map ..;have hd:decide ((l.length:Int)>1048576)=false:=by simp;omega
 simp only[zuC,iN,bT,bF,eN];refine zoi (zdn hlen hd) ?_;refine ztP ?_;refine zAj ?_;refine zn l.length (fun k vs s=>vs=[.d (.int .i64 k)]/\s=σ++tabO σ.length (l.take k)) ⟨rfl,rfl⟩ ?_;rintro k vs s hk ⟨rfl,rfl⟩;by_cases hlt:k<l.length
 ·have hd:decide ((k:Int)<(l.length:Int))=true:=by simp;omega
  have hx:l[k]? = some l[k]:=by simp[hlt]
  have hgx:=zQ (f:=fun b=>[D.slice (bcs b)]) hx;have hxb:=hb _ (List.getElem_mem hlt);have hnot:l[k]∉l.take k:=fun hm=>by
   obtain⟨i,hi,he⟩:=List.mem_take_iff_getElem.1 hm;have:=(List.getElem_inj hn).1 he;omega
  obtain⟨x,hxe⟩:∃x,l[k]=x:=⟨_,rfl⟩;rw[hxe]at hx hgx hxb hnot;have hno:=zyJ hnot;have hT:zgO (σ++tabO σ.length (l.take k)) (σ.length+1) σ.length (σ.length+2) (l.take k):=by simpa using tabAt_new σ (l.take k) []
  have hP:∀l',putTab (σ++tabO σ.length (l.take k)) (σ.length+1) σ.length (σ.length+2) l'=σ++tabO σ.length l':=fun l'=>by simpa using putTab_new σ (l.take k) l' []
  refine zoi (zdn hlen (zdn hd hgx)) ?_;refine c_tLook hT ?_;rw[hno];refine gq28 ?_;refine c_tSum hT hxb (by rw[List.length_take];omega) ?_;rw[hP];have e:zfb (l.take k) x=l.take (k+1):=by
   have h1:(l.take k).length=k:=by rw[List.length_take];omega
   rw[zfb,hno];simp only[h1];rw[if_neg (by omega),List.take_add_one,hx];rfl
  rw[e];have hw:IntKind.i64.wrap ((k:Int)+1)=((k+1:Nat):Int):=by rw[zaT (by omega) (by omega)];rfl
  refine zoi hw ?_;exact zaF.next hlt ⟨rfl,rfl⟩
 ·have hd:decide ((k:Int)<(l.length:Int))=false:=by simp;omega
  rw[List.take_of_length_le (by omega)];refine zoi (zdn hlen hd) ?_;refine zdk (σ':=σ) (os:=tabO σ.length l) rfl rfl hl (low_tabO _ _) ?_ hK;exact .tup _ (by simp[zgQ];exact .box _ _ (by simp))
theorem zvw {id m t:Nat}{l:List (List UInt8)}(hT:zgO σ id m t l)(hn:l.Nodup)(hl0:l.length<=1048576)(hb:∀b∈l,b.length<=1073741824){K:KT}
  (hK:K (.box (σ.length+1) 0) (σ++tabO σ.length l)):zP zdE [.box id 0] σ K:=by
 refine zbM zkI.is rfl (fun s=>List.range' σ.length 3) fun hl _=>zkI.goes ?_;have hbx:=hT.box;simp only[zkW,iN,bT,bF,eN];refine zAj ?_;refine zAD hT ?_;refine zoi hbx ?_;refine c_From hn hl0 hb ?_;refine zAj ?_;exact zdk (σ':=σ) (os:=tabO σ.length l) rfl rfl hl (low_tabO _ _) (.box _ _ (by simp)) hK
theorem c_known {id m t:Nat}{l:List (List UInt8)}(hT:zgO σ id m t l)(hn:l.Nodup)(hl0:l.length<=1048576)(hb:∀b∈l,b.length<=1073741824){K:KT}
  (hK:K (.d (.bool true)) σ):zP zkn [.box id 0] σ K:=by
 refine zey zwt fun hl=>?_;simp only[zoY,iN,bT,bF,eN];refine zAj ?_;refine c_tLen hT ?_;cases h:decide ((l.length:Int)>0)
 ·refine zoi h ?_;refine zvw hT hn hl0 hb ?_;refine zoi h ?_;refine zu hl ?_;exact hK
 ·refine zoi h ?_;refine zu hl ?_;exact hK
theorem gq29 {A P Q:Prop}(a:A)(h:Q)(e:A->Hd Q->P:=by intro a h;(repeat' first|simp -dsimp only[↓zlC,↓zbR,↓zeb,↓zlD,↓zlu,↓zls,↓zlv,↓zlt,↓zeg,↓zec,↓zeh,↓zed,↓zlw,↓zdX,↓zei,↓zee,↓zej,↓zef,↓zlq,↓zlA,↓zdW,↓zem,↓zli,↓zlh,↓zln,iN,bT,bF,eN,↓zev,↓unC,↓zaC,↓zai,↓zaj,↓zav,↓zaW,↓zah,↓zgy,↓zaw,↓zbd,↓zad,↓ze,↓zl,↓zbg,↓zc,↓zaV,↓zN,↓zbS,↓zcl,↓zf,↓zF,↓zp,↓zM,↓zaB,↓zgF,↓zhG,↓zbc,↓zbz,↓zcf,↓zcz,↓zdj,↓zJ,↓zbb,↓zak,↓zO,↓zaU,zho,zdP,zdy,unA,zgu,bnd,ziP,zaO,zL,zhY,dm,dm1,zH,zaJ,zjT,zjS,keepO,Q0,Q1,Q2,Q3,Q4,Q5,zba,zA,zB,zX,zaa,Q6,Q7,Q8,Q9,Q10,Q11,Q12,Q13,Q14,Nat.reduceAdd,Q15,Int.reduceToNat,Q16,Q17,Q18,Q19,Q20,reduceIte,Q21,Q22,zy,rep,zaq,zhV,toD,zaD,Q23,Q24,Q25,Q26,Q27,Q28,Nat.reduceLeDiff,Q29,Nat.reduceSub,Q30,Q31,Q32,sc,Q33,Q34,Q35,Q36,Q37,Q26,Q38,Q39,zuP,zuM,zuJ,zuQ,zjr,zuN,zuK,zuO,zuL,zjq,zjs,zuS,zuT,Bool.not_true,Bool.not_false,List.length_map,zug,zat,a]|with_reducible refine zvh ?_|fail);exact h.go):P:=e a ⟨h⟩
theorem c_gClone0 {id m t:Nat}(hG:zfj σ id m t []){K:KT}(hK:K (.box (σ.length+1) 0) (σ++ledO σ.length [])):zP zcw [.box id 0] σ K:=by
 refine zbM zeD.is rfl (fun s=>List.range' σ.length 3) fun hl _=>zeD.goes ?_;have hbx:∀τ,(σ++τ)[id]? = _:=fun τ=>zi hG.box;simp only[zgv,iN,bT,bF,eN];refine zAj ?_;refine zxb hG ?_;refine zoi hbx ?_;refine zny ?_;refine zoi hbx ?_;refine zn 0 (fun k vs s=>vs=[.d (.int .i64 0)]/\s=σ++ledO σ.length []) ⟨rfl,rfl⟩ ?_;rintro k vs s hk ⟨rfl,rfl⟩;have hd:decide ((0:Int)<((0:Nat):Int))=false:=rfl;refine gq29 hd ?_;exact zdk (σ':=σ) (os:=ledO σ.length []) rfl rfl hl (low_ledO _ _) (.box _ _ (by simp)) hK
theorem c_made {id m t id2 m2 t2:Nat}{l:List (List UInt8)}{g:List zK}(hT:zgO σ id m t l)(hG:zfj σ id2 m2 t2 g)(hn:l.Nodup)(hl0:l.length<=1048576)(hb:∀b∈l,b.length<=1073741824){K:KT}
  (hK:K (.d (.bool true)) σ):zP zlX [.box id 0,.box id2 0] σ K:=by
 refine zen zxR fun hl=>?_;simp only[zqA,iN,bT,bF,eN];refine zAj ?_;refine c_known hT hn hl0 hb ?_;refine zAj ?_;refine c_gLen hG ?_;cases h:decide ((g.length:Int)>0)
 ·have hg:g=[]:=by simpa using h
  subst hg;refine zoi h ?_;refine c_gClone0 hG ?_;refine zoi h ?_;refine zu hl ?_;exact hK
 ·refine zoi h ?_;refine zu hl ?_;exact hK
variable {σ:List AObj}
def rtO (l:List (List UInt8)):AObj:=.box [.d (.slice (zvJ l))]
def rlO (g:List zK):AObj:=.box [.d (.slice (zug g))]
theorem rtO_low (n:Nat)(l:List (List UInt8)):ztV n (rtO l):=by
 intro c hc;simp only[List.mem_cons,List.not_mem_nil,or_false]at hc;subst hc;exact .d _
theorem rlO_low (n:Nat)(g:List zK):ztV n (rlO g):=by
 intro c hc;simp only[List.mem_cons,List.not_mem_nil,or_false]at hc;subst hc;exact .d _
theorem wki (k:Nat)(h:k<=1073741824):IntKind.i64.wrap ((k:Int)+1)=((k+1:Nat):Int):=by rw[zaT (by omega) (by omega)];rfl
theorem gq30 {P Q:Prop}(h:Q)(e:Hd Q->P:=by intro h;(repeat' first|simp -dsimp only[↓zlC,↓zbR,↓zeb,↓zlD,↓zlu,↓zls,↓zlv,↓zlt,↓zeg,↓zec,↓zeh,↓zed,↓zlw,↓zdX,↓zei,↓zee,↓zej,↓zef,↓zlq,↓zlA,↓zdW,↓zem,↓zli,↓zlh,↓zln,iN,bT,bF,eN,↓zev,↓unC,↓zaC,↓zai,↓zaj,↓zav,↓zaW,↓zah,↓zgy,↓zaw,↓zbd,↓zad,↓ze,↓zl,↓zbg,↓zc,↓zaV,↓zN,↓zbS,↓zcl,↓zf,↓zF,↓zp,↓zM,↓zaB,↓zgF,↓zhG,↓zbc,↓zbz,↓zcf,↓zcz,↓zdj,↓zJ,↓zbb,↓zak,↓zO,↓zaU,zho,zdP,zdy,unA,zgu,bnd,ziP,zaO,zL,zhY,dm,dm1,zH,zaJ,zjT,zjS,keepO,Q0,Q1,Q2,Q3,Q4,Q5,zba,zA,zB,zX,zaa,Q6,Q7,Q8,Q9,Q10,Q11,Q12,Q13,Q14,Nat.reduceAdd,Q15,Int.reduceToNat,Q16,Q17,Q18,Q19,Q20,reduceIte,Q21,Q22,zy,rep,zaq,zhV,toD,zaD,Q23,Q24,Q25,Q26,Q27,Q28,Nat.reduceLeDiff,Q29,Nat.reduceSub,Q30,Q31,Q32,sc,Q33,Q34,Q35,Q36,Q37,Q26,Q38,Q39,zuP,zuM,zuJ,zuQ,zjr,zuN,zuK,zuO,zuL,zjq,zjs,zuS,zuT,Bool.not_true,Bool.not_false,List.length_map,Bool.and_false,Bool.and_self,Bool.false_and,Bool.not_false,Bool.not_true,Bool.true_and,Int.toNat_natCast,Int.toNat_zero,List.drop_zero,List.length_map,List.length_nil,List.nil_append,List.take_length,Nat.sub_zero,Nat.zero_add,Option.isSome_none,Option.isSome_some,Option.map_none,Option.map_some,zam,beq_self_eq_true,bne_self_eq_false,zix,zfg,zgg,zcf,mgetR,zcz]|with_reducible refine zvh ?_|fail);exact h.go):P:=e ⟨h⟩
theorem c_rtSame {a b:List UInt8}{K:KT}(hK:K (.d (.bool (a==b))) σ):zP ztl [.d (.slice (bcs a)),.d (.slice (bcs b))] σ K:=by
 refine zen e_r02_Same fun hl=>?_;simp only[zzD,iN,bT,bF,eN];refine gq30 ?_;refine zu hl ?_;exact hK
theorem c_rtLook {id:Nat}{l:List (List UInt8)}{b:List UInt8}(hT:σ[id]? = some (rtO l))(hl0:l.length<=1048576){K:KT}
  (hK:K (.tup [.d (.int .i64 (zow (zge l b))),.d (.bool (zge l b).isSome)]) σ):zP zgS [.box id 0,.d (.slice (bcs b))] σ K:=by
 refine zen zvb fun hl=>?_;have hlen:(zvJ l).length=l.length:=List.length_map ..;have hb:σ[id]? = some (.box [.d (.slice (zvJ l))]):=hT;simp only[znP,iN,bT,bF,eN];refine zn l.length (fun k vs s=>vs=[.d (.int .i64 k)]/\s=σ/\zge (l.take k) b=none) ⟨rfl,rfl,rfl⟩ ?_;rintro k vs s hk ⟨rfl,rfl,hno⟩;by_cases hlt:k<l.length
 ·have hd:decide ((k:Int)<(l.length:Int))=true:=by simp;omega
  have hx:l[k]? = some l[k]:=by simp[hlt]
  have hgx:=zQ (f:=fun b=>[D.slice (bcs b)]) hx;obtain⟨x,hxe⟩:∃x,l[k]=x:=⟨_,rfl⟩;rw[hxe]at hx hgx;refine zoi (zdn hlen (zdn hd (zdn hb hgx))) ?_;refine c_rtSame ?_;cases he:(x==b)
  ·refine zoi (wki k (by omega)) ?_;exact zaF.next hlt ⟨rfl,rfl,look_next hx hno he⟩
  ·rw[look_hit hx hno he]at hK;refine zoi (wki k (by omega)) ?_;refine zu hl ?_;exact hK
 ·have hd:decide ((k:Int)<(l.length:Int))=false:=by simp;omega
  rw[List.take_of_length_le (by omega)]at hno;rw[hno]at hK;refine zoi (zdn hlen (zdn hd hb)) ?_;refine zu hl ?_;exact hK
theorem gq31 {P Q:Prop}(h:Q)(e:Hd Q->P:=by intro h;(repeat' first|simp -dsimp only[↓zlC,↓zbR,↓zeb,↓zlD,↓zlu,↓zls,↓zlv,↓zlt,↓zeg,↓zec,↓zeh,↓zed,↓zlw,↓zdX,↓zei,↓zee,↓zej,↓zef,↓zlq,↓zlA,↓zdW,↓zem,↓zli,↓zlh,↓zln,iN,bT,bF,eN,↓zev,↓unC,↓zaC,↓zai,↓zaj,↓zav,↓zaW,↓zah,↓zgy,↓zaw,↓zbd,↓zad,↓ze,↓zl,↓zbg,↓zc,↓zaV,↓zN,↓zbS,↓zcl,↓zf,↓zF,↓zp,↓zM,↓zaB,↓zgF,↓zhG,↓zbc,↓zbz,↓zcf,↓zcz,↓zdj,↓zJ,↓zbb,↓zak,↓zO,↓zaU,zho,zdP,zdy,unA,zgu,bnd,ziP,zaO,zL,zhY,dm,dm1,zH,zaJ,zjT,zjS,keepO,Q0,Q1,Q2,Q3,Q4,Q5,zba,zA,zB,zX,zaa,Q6,Q7,Q8,Q9,Q10,Q11,Q12,Q13,Q14,Nat.reduceAdd,Q15,Int.reduceToNat,Q16,Q17,Q18,Q19,Q20,reduceIte,Q21,Q22,zy,rep,zaq,zhV,toD,zaD,Q23,Q24,Q25,Q26,Q27,Q28,Nat.reduceLeDiff,Q29,Nat.reduceSub,Q30,Q31,Q32,sc,Q33,Q34,Q35,Q36,Q37,Q26,Q38,Q39,zuP,zuM,zuJ,zuQ,zjr,zuN,zuK,zuO,zuL,zjq,zjs,zuS,zuT,Bool.not_true,Bool.not_false,List.length_map,Bool.and_false,Bool.and_self,Bool.false_and,Bool.not_false,Bool.not_true,Bool.true_and,Int.toNat_natCast,Int.toNat_zero,List.drop_zero,List.length_map,List.length_nil,List.nil_append,List.take_length,Nat.sub_zero,Nat.zero_add,Option.isSome_none,Option.isSome_some,Option.map_none,Option.map_some,zam,beq_self_eq_true,bne_self_eq_false,zcj,zhL,zag,zdd,zsi,zce,zow,opA,opD,zfy,zgo,zay]|with_reducible refine zvh ?_|fail);exact h.go):P:=e ⟨h⟩
theorem gq32 {A P Q:Prop}(a:A)(h:Q)(e:A->Hd Q->P:=by intro a h;(repeat' first|simp -dsimp only[↓zlC,↓zbR,↓zeb,↓zlD,↓zlu,↓zls,↓zlv,↓zlt,↓zeg,↓zec,↓zeh,↓zed,↓zlw,↓zdX,↓zei,↓zee,↓zej,↓zef,↓zlq,↓zlA,↓zdW,↓zem,↓zli,↓zlh,↓zln,iN,bT,bF,eN,↓zev,↓unC,↓zaC,↓zai,↓zaj,↓zav,↓zaW,↓zah,↓zgy,↓zaw,↓zbd,↓zad,↓ze,↓zl,↓zbg,↓zc,↓zaV,↓zN,↓zbS,↓zcl,↓zf,↓zF,↓zp,↓zM,↓zaB,↓zgF,↓zhG,↓zbc,↓zbz,↓zcf,↓zcz,↓zdj,↓zJ,↓zbb,↓zak,↓zO,↓zaU,zho,zdP,zdy,unA,zgu,bnd,ziP,zaO,zL,zhY,dm,dm1,zH,zaJ,zjT,zjS,keepO,Q0,Q1,Q2,Q3,Q4,Q5,zba,zA,zB,zX,zaa,Q6,Q7,Q8,Q9,Q10,Q11,Q12,Q13,Q14,Nat.reduceAdd,Q15,Int.reduceToNat,Q16,Q17,Q18,Q19,Q20,reduceIte,Q21,Q22,zy,rep,zaq,zhV,toD,zaD,Q23,Q24,Q25,Q26,Q27,Q28,Nat.reduceLeDiff,Q29,Nat.reduceSub,Q30,Q31,Q32,sc,Q33,Q34,Q35,Q36,Q37,Q26,Q38,Q39,zuP,zuM,zuJ,zuQ,zjr,zuN,zuK,zuO,zuL,zjq,zjs,zuS,zuT,Bool.not_true,Bool.not_false,List.length_map,Bool.and_false,Bool.and_self,Bool.false_and,Bool.not_false,Bool.not_true,Bool.true_and,Int.toNat_natCast,Int.toNat_zero,List.drop_zero,List.length_map,List.length_nil,List.nil_append,List.take_length,Nat.sub_zero,Nat.zero_add,Option.isSome_none,Option.isSome_some,Option.map_none,Option.map_some,zam,beq_self_eq_true,bne_self_eq_false,zcj,zhL,zag,zdd,zsi,zce,zow,opA,opD,zfy,zgo,zay,a]|with_reducible refine zvh ?_|fail);exact h.go):P:=e a ⟨h⟩
theorem c_rtSum {id:Nat}{l:List (List UInt8)}{b:List UInt8}(hT:σ[id]? = some (rtO l))(hbl:b.length<=1073741824)(hl0:l.length<=1048576){K:KT}
  (hK:K (.d (.int .i64 (zgw l b))) (σ.set id (rtO (zfb l b)))):zP zhB [.box id 0,.d (.slice (bcs b))] σ K:=by
 refine zja zoL.is rfl fun hl _=>zoL.goes ?_;have hlen:(zvJ l).length=l.length:=List.length_map ..;have hb:∀τ,(σ++τ)[id]? = some (.box [.d (.slice (zvJ l))]):=fun τ=>zi hT;have hb0:σ[id]? = some (.box [.d (.slice (zvJ l))]):=hT;have hlt:=zZ hT;simp only[zpl,iN,bT,bF,eN];refine zAj ?_;refine c_rtLook hT hl0 ?_;cases ho:zge l b with
 | some k=>
  simp only[zgw,zfb,ho]at hK
  rw[zbQ hT]at hK
  refine gq31 ?_
  refine ziI ?_
  refine zu hl ?_
  exact hK
 | none=>
  simp only[zgw,zfb,ho]at hK
  by_cases hfull:l.length≥1048576
  ·rw[if_pos hfull,if_pos hfull,zbQ hT]at hK
   have hd:decide ((l.length:Int)≥1048576)=true:=by simp;omega
   refine gq32 (zdn hb0 (zdn hlen hd)) ?_
   refine ziI ?_
   refine zu hl ?_
   exact hK
  ·rw[if_neg hfull,if_neg hfull]at hK
   have hd:decide ((l.length:Int)≥1048576)=false:=by simp;omega
   have s1:∀X τ,(σ++τ).set id X=σ.set id X++τ:=fun X τ=>zdg hT
   have g1:∀X τ,(σ.set id X++τ)[id]? = some X:=fun X τ=>zi (zdo hT)
   have bl:(bcs b).length=b.length:=zam b
   have b1:∀e∈bcs b,e.length=1:=ziy
   have t1:∀e∈zvJ l,e.length=1:=zjj (f:=fun b=>[D.slice (bcs b)]) (fun _=>rfl) l
   refine gq32 (zdn hb (zdn hb0 (zdn hlen (zdn hd (zdn s1 (zdn g1 bl)))))) ?_
   have e:zvJ l++[[D.slice (bcs b)]]=zvJ (l++[b]):=by simp[zvJ]
   rw[e]
   exact zkf hT (by simp[zgQ,dmT,dm,dm1,zck]) hl hK
theorem zzd {id:Nat}{g:List zK}{s:zK}(hG:σ[id]? = some (rlO g))(hg0:g.length<=1073741824){K:KT}(hK:K (.d (.bool (decide (s∈g)))) σ) :
  zP zeS [.box id 0,.agg [.d (.int .i64 s.key),.d (.int .i64 s.dig)]] σ K:=by
 refine zen zrm fun hl=>?_;have hlen:(zug g).length=g.length:=List.length_map ..;have hb:∀τ,(σ++τ)[id]? = some (.box [.d (.slice (zug g))]):=fun τ=>zi hG;simp only[zkO,iN,bT,bF,eN];refine zAj ?_;refine zn g.length (fun k vs q=>vs=[.d (.int .i64 k)]/\q=σ++[.box [.d (.int .i64 s.key),.d (.int .i64 s.dig)]]/\s∉g.take k) ⟨rfl,rfl,by simp⟩ ?_;rintro k vs q hk ⟨rfl,rfl,hno⟩;by_cases hlt:k<g.length
 ·have hd:decide ((k:Int)<(g.length:Int))=true:=by simp;omega
  have hx:g[k]? = some g[k]:=by simp[hlt]
  have hgx:=zQ (f:=zgo) hx;obtain⟨x,hxe⟩:∃x,g[k]=x:=⟨_,rfl⟩;rw[hxe]at hx hgx;by_cases he:x=s
  ·subst he;rw[decide_eq_true (List.mem_of_getElem? hx)]at hK;refine gq32 (zdn hlen (zdn hd (zdn hb hgx))) ?_;refine zu hl ?_;exact hK
  ·have hn2:s∉g.take (k+1):=by
    rw[List.take_add_one,hx];simp;exact⟨hno,fun h=>he h.symm⟩
   have e:x=s↔x.key=s.key/\x.dig=s.dig:=by cases s;cases x;simp
   cases h1:(x.key==s.key)
   ·refine gq32 (zdn hlen (zdn hd (zdn hb (zdn hgx (zdn h1 (wki k (by omega))))))) ?_;exact zaF.next hlt ⟨rfl,rfl,hn2⟩
   ·have h2:(x.dig==s.dig)=false:=by
     have:¬x.dig=s.dig:=fun h=>he (e.2 ⟨by simpa using h1,h⟩);simpa using this
    refine gq32 (zdn hlen (zdn hd (zdn hb (zdn hgx (zdn h1 (zdn h2 (wki k (by omega)))))))) ?_;exact zaF.next hlt ⟨rfl,rfl,hn2⟩
 ·have hd:decide ((k:Int)<(g.length:Int))=false:=by simp;omega
  rw[List.take_of_length_le (by omega)]at hno;rw[decide_eq_false hno]at hK;refine zoi (zdn hlen (zdn hd hb)) ?_;refine zu hl ?_;exact hK
theorem c_rgSign {id:Nat}{g:List zK}{k d:Int}(hG:σ[id]? = some (rlO g))(hgl:g.length<=1073741824){K:KT}
  (hK:K (.tup [zuG (signR k d),.d (.int .i64 (zfx k d))]) (σ.set id (rlO (zgn g k d)))):zP zgb [.box id 0,.d (.int .i64 k),.d (.int .i64 d)] σ K:=by
 refine zja zmB.is rfl fun hl _=>zmB.goes ?_;have hb:∀τ,(σ++τ)[id]? = some (.box [.d (.slice (zug g))]):=fun τ=>zi hG;have hlen:(zug g).length=g.length:=List.length_map ..;have bad:zfx k d≠0->K (.tup [.agg [.d (.int .i64 0),.d (.int .i64 0)],.d (.int .i64 (zfx k d))]) σ:=fun h=>by
  rw[signR,zgn,if_neg h,if_neg h,zbQ hG]at hK;exact hK
 simp only[zmP,iN,bT,bF,eN];refine zAj ?_;cases h1:decide (k<0)
 ·cases h2:decide (k≥21)
  ·have hk:¬(k<0∨k≥21):=by simp at h1 h2;omega
   cases h3:decide (d<1)
   ·have he:zfx k d=0:=by rw[zfx,if_neg hk,if_neg (by simpa using h3)]
    rw[he,signR,zgn,if_pos he,if_pos he]at hK;refine zoi (zdn h1 (zdn h2 h3)) ?_;refine zzd (s:=⟨k,d⟩) (zi hG) hgl ?_;by_cases hs:(⟨k,d⟩:zK)∈g
    ·rw[decide_eq_true hs];rw[zvP,if_pos hs,zbQ hG]at hK;refine zoi hb ?_;refine ziI ?_;refine zu hl ?_;exact hK
    ·rw[decide_eq_false hs];rw[zvP,if_neg hs]at hK;have s1:∀X τ,(σ++τ).set id X=σ.set id X++τ:=fun X τ=>zdg hG;have L1:∀X:AObj,σ.length=(σ.set id X).length:=fun X=>by simp
     have e1:∀X τ n,(σ.set id X++τ)[σ.length+n]? = τ[n]?:=fun X τ n=>by rw[L1 X];exact zA ..
     have e3:∀X τ W,(σ.set id X++τ).set σ.length W=σ.set id X++τ.set 0 W:=fun X τ W=>by rw[L1 X];exact zaa ..
     have e4:∀X τ,(σ.set id X++τ)[σ.length]? = τ[0]?:=fun X τ=>by rw[L1 X];exact zB ..
     refine zoi (zdn hb (zdn hlen (zdn s1 (zdn e1 (zdn e3 e4))))) ?_;have e:zug g++[[D.int .i64 k,D.int .i64 d]]=zug (g++[⟨k,d⟩]):=by simp[zug,zat,zgo]
     refine⟨zjj (f:=zgo) (fun _=>rfl) g,by simp,by omega,by simp,by omega,?_⟩;rw[e];exact zkf hG (by simp[zgQ,dmT,dm,dm1,zck,zbw,zfs]) hl hK
   ·have he:zfx k d=1:=by rw[zfx,if_neg hk,if_pos (by simpa using h3)]
    have:=bad (by rw[he];decide);rw[he]at this;refine zoi (zdn h1 (zdn h2 h3)) ?_;refine ziI ?_;refine zu hl ?_;exact this
  ·have he:zfx k d=20:=by rw[zfx,if_pos (by simp at h2;omega)]
   have:=bad (by rw[he];decide);rw[he]at this;refine zoi (zdn h1 h2) ?_;refine ziI ?_;refine zu hl ?_;exact this
 ·have he:zfx k d=20:=by rw[zfx,if_pos (by simp at h1;omega)]
  have:=bad (by rw[he];decide);rw[he]at this;refine zoi h1 ?_;refine ziI ?_;refine zu hl ?_;exact this
variable {σ:List AObj} {L:List (List UInt8)} {G:List zK}
theorem zgO.put {id m t:Nat}{l:List (List UInt8)}(h:zgO σ id m t l)(l':List (List UInt8)):zgO (putTab σ id m t l') id m t l':=by
 obtain⟨n1,n2,n3⟩:=h.ne;have h1:=zZ h.box;have h2:=zZ h.map;have h3:=zZ h.tok;unfold putTab;refine⟨?_,?_,?_⟩
 ·rw[List.getElem?_set_ne (Ne.symm n1),List.getElem?_set_self (by simpa using h1)]
 ·rw[List.getElem?_set_self (by simpa using h2)]
 ·rw[List.getElem?_set_ne n3,List.getElem?_set_ne n2,List.getElem?_set_self h3]
theorem zfj.put {id m t:Nat}{g:List zK}(h:zfj σ id m t g)(g':List zK):zfj (putLed σ id m t g') id m t g':=by
 obtain⟨n1,n2,n3⟩:=h.ne;have h1:=zZ h.box;have h2:=zZ h.map;have h3:=zZ h.tok;unfold putLed;refine⟨?_,?_,?_⟩
 ·rw[List.getElem?_set_self (by simpa using h1)]
 ·rw[List.getElem?_set_ne n1,List.getElem?_set_ne (Ne.symm n3),List.getElem?_set_self h2]
 ·rw[List.getElem?_set_ne n2,List.getElem?_set_self (by simpa using h3)]
theorem apart2 {id m t id2 m2 t2:Nat}{l:List (List UInt8)}{g:List zK}(hT:zgO σ id m t l)(hG:zfj σ id2 m2 t2 g)(h1:id≠id2)(h2:m≠m2) :
  (id≠m2/\id≠t2)/\(m≠id2/\m≠t2)/\(t≠id2/\t≠m2/\t≠t2):=by
 refine⟨⟨?_,?_⟩,⟨?_,?_⟩,⟨?_,?_,?_⟩⟩<;>intro e<;>subst e
 ·have:=hT.box;rw[hG.map]at this;cases this
 ·have:=hT.box;rw[hG.tok]at this;cases this
 ·have:=hT.map;rw[hG.box]at this;cases this
 ·have:=hT.map;rw[hG.tok]at this;cases this
 ·have:=hT.tok;rw[hG.box]at this;cases this
 ·have:=hT.tok;rw[hG.map]at this;cases this
 ·have:=hT.tok;rw[hG.tok]at this;cases this
theorem zfj.putTab {id m t id2 m2 t2:Nat}{l:List (List UInt8)}{g:List zK}(hT:zgO σ id m t l)(hG:zfj σ id2 m2 t2 g)(h1:id≠id2)(h2:m≠m2)(l':List (List UInt8)) :
  zfj (putTab σ id m t l') id2 m2 t2 g:=by
 obtain⟨⟨a1,a2⟩,⟨b1,b2⟩,⟨c1,c2,c3⟩⟩:=apart2 hT hG h1 h2;unfold Go.Proofs.YtdgcepphjnoalaaGreat.putTab;refine⟨?_,?_,?_⟩
 ·rw[List.getElem?_set_ne b1,List.getElem?_set_ne h1,List.getElem?_set_ne c1];exact hG.box
 ·rw[List.getElem?_set_ne h2,List.getElem?_set_ne a1,List.getElem?_set_ne c2];exact hG.map
 ·rw[List.getElem?_set_ne b2,List.getElem?_set_ne a2,List.getElem?_set_ne c3];exact hG.tok
theorem zgO.putLed {id m t id2 m2 t2:Nat}{l:List (List UInt8)}{g:List zK}(hT:zgO σ id m t l)(hG:zfj σ id2 m2 t2 g)(h1:id≠id2)(h2:m≠m2)(g':List zK) :
  zgO (putLed σ id2 m2 t2 g') id m t l:=by
 obtain⟨⟨a1,a2⟩,⟨b1,b2⟩,⟨c1,c2,c3⟩⟩:=apart2 hT hG h1 h2;unfold Go.Proofs.YtdgcepphjnoalaaGreat.putLed;refine⟨?_,?_,?_⟩
 ·rw[List.getElem?_set_ne (Ne.symm h1),List.getElem?_set_ne (Ne.symm a2),List.getElem?_set_ne (Ne.symm a1)];exact hT.box
 ·rw[List.getElem?_set_ne (Ne.symm b1),List.getElem?_set_ne (Ne.symm b2),List.getElem?_set_ne (Ne.symm h2)];exact hT.map
 ·rw[List.getElem?_set_ne (Ne.symm c1),List.getElem?_set_ne (Ne.symm c3),List.getElem?_set_ne (Ne.symm c2)];exact hT.tok
def noSg:zr:=⟨0,0,noOp,0,0⟩
def zjN (L:List (List UInt8)) (x:zr):Int:=if zT x≠0 then zT x else zfx (zsh x.client) (zgw L (zlT x))
def zfc (L:List (List UInt8)) (x:zr):zr:=if zjN L x=0 then⟨x.client,x.time,x.op,zsh x.client,zgw L (zlT x)⟩else noSg
def zna (L:List (List UInt8)) (x:zr):List (List UInt8):=if zT x≠0 then L else zfb L (zlT x)
def znZ (L:List (List UInt8)) (G:List zK) (x:zr):List zK:=if zT x≠0 then G else zgn G (zsh x.client) (zgw L (zlT x))
structure zmI (L:List (List UInt8)):Prop where
 nd:L.Nodup
 len:L.length<=1048576
 each:∀b∈L,b.length<=1073741824
theorem zmI.nil:zmI []:=⟨.nil,by simp,by simp⟩
theorem zmI.sum (h:zmI L){b:List UInt8}(hb:b.length<=1073741824):zmI (zfb L b):=by
 unfold zfb;cases ho:zge L b with
 | some k=>exact h
 | none=>
  simp only
  split
  ·exact h
  ·rename_i hl
   have hn:b∉L:=fun hm=>by
    obtain⟨i,hi⟩:=List.mem_iff_getElem?.1 hm;exact zAg ho hm
   refine⟨?_,by simp;omega,fun x hx=>?_⟩
   ·rw[List.nodup_append]
    refine⟨h.nd,by simp,fun a ha c hc=>?_⟩
    simp at hc;subst hc
    exact fun e=>hn (e▸ha)
   ·rcases List.mem_append.1 hx with hx|hx
    ·exact h.each x hx
    ·simp at hx;subst hx;exact hb
theorem zmI.seal (h:zmI L){x:zr}(hx:zmW x.op<=20971520):zmI (zna L x):=by
 unfold zna;split
 ·exact h
 ·rename_i hc;exact h.sum (by have:=zpy (x:=x) (by omega) (by simpa using hc);omega)
theorem zpP {id m t id2 m2 t2:Nat}{x:zr}(hT:zgO σ id m t L)(hG:zfj σ id2 m2 t2 G)(h1:id≠id2)(h2:m≠m2)(hL:zmI L)(hGl:G.length<=1073741824)
  (hx:zmW x.op<=20971520) {K:KT}
  (hK:K (.tup [zki (zfc L x),.d (.int .i64 (zjN L x))]) (putLed (putTab σ id m t (zna L x)) id2 m2 t2 (znZ L G x))):zP zgC [.box id 0,.box id2 0,reqA x] σ K:=by
 refine acE3 zxS fun hl=>?_;have hsz:=sizes hx;simp only[zqB,iN,bT,bF,eN,zl1,reqA];refine zG ?_;refine c_rqBytes (x:=x) hx ?_;by_cases hc:zT x=0
 ·have hb:(zT x != 0)=false:=by simpa using hc
  have hrl:=zpy (x:=x) (by omega) hc;refine zm hb ?_;refine c_made (hT.app _) (hG.app _) hL.nd hL.len hL.each ?_;refine zG ?_;refine c_rqKey ?_;rw[show zbU x=zlT x from if_pos hc];refine zG ?_;refine c_tSum (hT.app _) (by omega) hL.len ?_;rw[ztb hT];simp only[zna,znZ,hc,ne_eq,not_true_eq_false,if_false]at hK;have e1:zjN L x=zfx (zsh x.client) (zgw L (zlT x)):=by rw[zjN,if_neg (by simpa using hc)]
  rw[e1]at hK;have hG1:=zfj.putTab hT hG h1 h2 (zfb L (zlT x));have hl1:=hT.lows hl (zfb L (zlT x));have hs1:=zpA σ id m t (zfb L (zlT x));obtain⟨S1,hS1⟩:∃S1,putTab σ id m t (zfb L (zlT x))=S1:=⟨_,rfl⟩;rw[hS1]at hK hG1 hs1 hl1 ⊢;rw[← hs1]at hl1;have r1:σ.length=S1.length:=hs1.symm;refine zm r1 ?_;refine c_gSign (hG1.app _) hGl ?_;rw[ztc hG1];obtain⟨N,hN⟩:∃N,zfx (zsh x.client) (zgw L (zlT x))=N:=⟨_,rfl⟩;have hl2:=hG1.lows hl1 (zgn G (zsh x.client) (zgw L (zlT x)));have hs2:=zyv S1 id2 m2 t2 (zgn G (zsh x.client) (zgw L (zlT x)));obtain⟨S2,hS2⟩:∃S2,putLed S1 id2 m2 t2 (zgn G (zsh x.client) (zgw L (zlT x)))=S2:=⟨_,rfl⟩;rw[hS2]at hK hs2 hl2 ⊢;rw[← hs2]at hl2;have r2:σ.length=S2.length:=by rw[r1];exact hs2.symm
  have r3:S1.length=S2.length:=hs2.symm;rw[hN]at hK ⊢;simp only[zuG];by_cases hN0:N=0
  ·have hq:(N != 0)=false:=by simpa using hN0
   have e2:zfc L x=⟨x.client,x.time,x.op,zsh x.client,zgw L (zlT x)⟩:=by rw[zfc,if_pos (by rw[e1,hN,hN0])]
   have e3:signR (zsh x.client) (zgw L (zlT x))=⟨zsh x.client,zgw L (zlT x)⟩:=by rw[signR,if_pos (by rw[hN,hN0])]
   rw[e2]at hK;rw[e3];refine zm (zd hq (zd r2 r3)) ?_;refine ziV (o:=x.op) hsz.2.2.1 hsz.2.2.2 ?_;simp only[opA];refine zm (zd hq (zd r2 r3)) ?_;rw[hN0]at hK;refine zeX rfl ?_ hl2 ?_
   ·simp[zgQ,dmT,dm,dm1,zck,zbw,zfs]
   ·exact hK
  ·have hq:(N != 0)=true:=by simpa using hN0
   have e2:zfc L x=noSg:=by rw[zfc,if_neg (by rw[e1,hN];exact hN0)]
   rw[e2]at hK;rw[show signR (zsh x.client) (zgw L (zlT x))=⟨0,0⟩from by rw[signR,if_neg (by rw[hN];exact hN0)]];refine zm (zd hq (zd r2 r3)) ?_;refine zeX rfl ?_ hl2 ?_
   ·simp[zgQ,dmT,dm,dm1,zck,zbw,zfs]
   ·exact hK
 ·have hb:(zT x != 0)=true:=by simpa using hc
  have e1:zjN L x=zT x:=if_pos hc;have e2:zfc L x=noSg:=by rw[zfc,if_neg (by rw[e1];exact hc)]
  rw[e1,e2,zna,znZ,if_pos hc,if_pos hc,hT.self,hG.self]at hK;refine zm hb ?_;refine zu hl ?_;exact hK
variable {σ:List AObj} {L:List (List UInt8)} {G:List zK}
theorem c_rqrKey {c:Int}{K:KT}(hK:K (.d (.int .i64 (zsh c))) σ):zP zoz [.d (.int .i64 c)] σ K:=c_rKey hK
theorem c_rqrSeal {id id2:Nat}{x:zr}(hT:σ[id]? = some (rtO L))(hG:σ[id2]? = some (rlO G))(h1:id≠id2)(hL:zmI L)(hGl:G.length<=1073741824)
  (hx:zmW x.op<=20971520) {K:KT}
  (hK:K (.tup [zki (zfc L x),.d (.int .i64 (zjN L x))]) ((σ.set id (rtO (zna L x))).set id2 (rlO (znZ L G x)))):zP zpF [.box id 0,.box id2 0,reqA x] σ K:=by
 refine acE3 e_r08_Seal fun hl=>?_;have hsz:=sizes hx;simp only[zzy,iN,bT,bF,eN,zl1,reqA];refine zG ?_;refine zzc (x:=x) hx ?_;by_cases hc:zT x=0
 ·have hb:(zT x != 0)=false:=by simpa using hc
  have hrl:=zpy (x:=x) (by omega) hc;refine zm hb ?_;refine c_rqrKey ?_;rw[show zbU x=zlT x from if_pos hc];refine zG ?_;refine c_rtSum (zi hT) (by omega) hL.len ?_;rw[zdg hT];simp only[zna,znZ,hc,ne_eq,not_true_eq_false,if_false]at hK;have e1:zjN L x=zfx (zsh x.client) (zgw L (zlT x)):=by rw[zjN,if_neg (by simpa using hc)]
  rw[e1]at hK;have hl1:zhm σ.length (σ.set id (rtO (zfb L (zlT x)))):=hl.setO (rtO_low _ _);have hs1:(σ.set id (rtO (zfb L (zlT x)))).length=σ.length:=by simp
  have hG1:(σ.set id (rtO (zfb L (zlT x))))[id2]? = some (rlO G):=by rw[List.getElem?_set_ne h1];exact hG
  obtain⟨S1,hS1⟩:∃S1,σ.set id (rtO (zfb L (zlT x)))=S1:=⟨_,rfl⟩;rw[hS1]at hK hG1 hs1 hl1 ⊢;have r1:σ.length=S1.length:=hs1.symm;refine zm r1 ?_;refine c_rgSign (zi hG1) hGl ?_;rw[zdg hG1];obtain⟨N,hN⟩:∃N,zfx (zsh x.client) (zgw L (zlT x))=N:=⟨_,rfl⟩;have hl2:zhm σ.length (S1.set id2 (rlO (zgn G (zsh x.client) (zgw L (zlT x))))):=hl1.setO (rlO_low _ _);have hs2:(S1.set id2 (rlO (zgn G (zsh x.client) (zgw L (zlT x))))).length=S1.length:=by simp
  obtain⟨S2,hS2⟩:∃S2,S1.set id2 (rlO (zgn G (zsh x.client) (zgw L (zlT x))))=S2:=⟨_,rfl⟩;rw[hS2]at hK hs2 hl2 ⊢;have r2:σ.length=S2.length:=by rw[r1];exact hs2.symm
  have r3:S1.length=S2.length:=hs2.symm;rw[r2]at hl2;rw[hN]at hK ⊢;simp only[zuG];by_cases hN0:N=0
  ·have hq:(N != 0)=false:=by simpa using hN0
   have e2:zfc L x=⟨x.client,x.time,x.op,zsh x.client,zgw L (zlT x)⟩:=by rw[zfc,if_pos (by rw[e1,hN,hN0])]
   have e3:signR (zsh x.client) (zgw L (zlT x))=⟨zsh x.client,zgw L (zlT x)⟩:=by rw[signR,if_pos (by rw[hN,hN0])]
   rw[e2]at hK;rw[e3];refine zm (zd hq (zd r2 r3)) ?_;rw[hN0]at hK;refine zeX rfl ?_ hl2 ?_
   ·simp[zgQ,dmT,dm,dm1,zck,zbw,zfs]
   ·exact hK
  ·have hq:(N != 0)=true:=by simpa using hN0
   have e2:zfc L x=noSg:=by rw[zfc,if_neg (by rw[e1,hN];exact hN0)]
   rw[e2]at hK;rw[show signR (zsh x.client) (zgw L (zlT x))=⟨0,0⟩from by rw[signR,if_neg (by rw[hN];exact hN0)]];refine zm (zd hq (zd r2 r3)) ?_;refine zeX rfl ?_ hl2 ?_
   ·simp[zgQ,dmT,dm,dm1,zck,zbw,zfs]
   ·exact hK
 ·have hb:(zT x != 0)=true:=by simpa using hc
  have e1:zjN L x=zT x:=if_pos hc;have e2:zfc L x=noSg:=by rw[zfc,if_neg (by rw[e1];exact hc)]
  rw[e1,e2,zna,znZ,if_pos hc,if_pos hc,zbQ hT,zbQ hG]at hK;refine zm hb ?_;refine zu hl ?_;exact hK
variable {σ:List AObj}
theorem zAM {id m t:Nat}{g:List zK}(hG:zfj σ id m t g)(hg:g.length<=1073741824){K:KT}
  (hK:∀g':List zK,K (.box (σ.length+1) 0) (σ++ledO σ.length g')):zP zcw [.box id 0] σ K:=by
 refine zbM zeD.is rfl (fun s=>List.range' σ.length 3) fun hl _=>zeD.goes ?_;have hbx:∀τ,(σ++τ)[id]? = _:=fun τ=>zi hG.box;have hlen:(zug g).length=g.length:=List.length_map ..;simp only[zgv,iN,bT,bF,eN];refine zAj ?_;refine zxb hG ?_;refine zoi hbx ?_;refine zny ?_;refine zoi (zdn hbx hlen) ?_;refine zn g.length (fun k vs s=>vs=[.d (.int .i64 k)]/\∃g' τ,g'.length<=k/\s=σ++(ledO σ.length g'++τ)) ⟨rfl,[],[],by simp,by simp[zug,zxG]⟩ ?_;rintro k vs s hk ⟨rfl,g',τ,hg',rfl⟩;by_cases hlt:k<g.length
 ·have hd:decide ((k:Int)<(g.length:Int))=true:=by simp;omega
  have hx:g[k]? = some g[k]:=by simp[hlt]
  obtain⟨x,hxe⟩:∃x,g[k]=x:=⟨_,rfl⟩;rw[hxe]at hx;have hgx:(zug g)[k]? = some [D.int .i64 x.key,D.int .i64 x.dig]:=by rw[zug];exact zQ hx
  refine zoi (zdn hd (zdn hgx hlen)) ?_;have hL:∀τ',zfj (σ++(ledO σ.length g'++τ')) (σ.length+1) σ.length (σ.length+2) g':=fun τ'=>ledAt_new σ g' τ';refine c_gSign (hL (τ++[.box [.d (.int .i64 x.key),.d (.int .i64 x.dig)]])) (by omega) ?_;have hP:=putLed_new σ g' (zgn g' x.key x.dig) (τ++[.box [.d (.int .i64 x.key),.d (.int .i64 x.dig)]]);rw[hP];have hw:IntKind.i64.wrap ((k:Int)+1)=((k+1:Nat):Int):=by rw[zaT (by omega) (by omega)];rfl
  refine zoi hw ?_;refine zaF.next hlt ⟨rfl,zgn g' x.key x.dig,τ++[.box [.d (.int .i64 x.key),.d (.int .i64 x.dig)]],?_,by simp[ledO]⟩;unfold zgn zvP;split
  ·split
   ·omega
   ·simp;omega
  ·omega
 ·have hd:decide ((k:Int)<(g.length:Int))=false:=by simp;omega
  refine zoi (zdn hlen hd) ?_;exact zun (σ':=σ) (os:=ledO σ.length g') (τ:=τ) rfl rfl hl (low_ledO _ _) (.box _ _ (by simp)) (hK g')
variable {σ:List AObj}
theorem c_auPut {b:List UInt8}{l:List Int}(hb:b.length<=1000000)(hl0:l.length<=1000)(hi:∀x∈l,0<=x/\x<=9007199254740992){K:KT}(hK:K (.d (.slice (bcs (b++zS l)))) σ) :
  zP zpH [.d (.slice (bcs b)),.d (.slice (zgH l))] σ K:=by
 refine zen e_auth_put fun hl=>?_;simp only[zzJ,iN,bT,bF,eN];refine zG ?_;refine zn l.length (fun k vs s=>(∃x,vs=[x,.d (.int .i64 k)]/\(x=.d (.slice (bcs (b++zS (l.take k))))∨∃t,x=.own t (bcs (b++zS (l.take k)))))/\∃T,s=σ++T) ⟨⟨_,rfl,.inl (by simp[zS])⟩,[],by simp⟩ ?_;rintro k vs s hk ⟨⟨y,rfl,hy⟩,T,rfl⟩;have hdy:dm y=.d (.slice (bcs (b++zS (l.take k)))):=by
  rcases hy with rfl|⟨t,rfl⟩<;>rfl
 by_cases hlt:k<l.length
 ·have hd:decide ((k:Int)<(l.length:Int))=true:=by simp;omega
  have hx:l[k]? = some l[k]:=by simp[hlt]
  have hxi:=hi _ (List.getElem_mem hlt);have hgx:=zQ (f:=fun t=>[D.int .i64 t]) hx;obtain⟨x,hxe⟩:∃x,l[k]=x:=⟨_,rfl⟩;rw[hxe]at hx hgx hxi;have hm1:(if x>0 then x else 0)=x:=by split<;>omega
  have hm2:(if 0<x then x else 0)=x:=by split<;>omega
  have hw:IntKind.u64.wrap x=((x.toNat:Nat):Int):=by
   rw[show x=((x.toNat:Nat):Int) by omega,zdQ (by omega)];rfl
  have hln:=zov (l:=l.take k) (fun y hy=>by have:=hi y (List.mem_of_mem_take hy);omega);have hlk:(l.take k).length=k:=by rw[List.length_take];omega
  have hw2:IntKind.i64.wrap ((k:Int)+1)=((k+1:Nat):Int):=by rw[zaT (by omega) (by omega)];rfl
  have hbl:(b++zS (l.take k)).length<=1073741824:=by rw[List.length_append];omega
  rcases hy with rfl|⟨t,rfl⟩
  ·refine zm (zd hd (zd hgx (zd hm1 (zd hm2 hw)))) ?_;refine zfv (by omega) hbl ?_;refine zm hw2 ?_;exact zaF.next hlt ⟨⟨_,rfl,.inr ⟨_,by rw[zpB hx]⟩⟩,_,rfl⟩
  ·refine zm (zd hd (zd hgx (zd hm1 (zd hm2 hw)))) ?_;refine zfv (by omega) hbl ?_;refine zm hw2 ?_;exact zaF.next hlt ⟨⟨_,rfl,.inr ⟨_,by rw[zpB hx]⟩⟩,_,rfl⟩
 ·have hd:decide ((k:Int)<(l.length:Int))=false:=by simp;omega
  rw[List.take_of_length_le (by omega)]at hy;rcases hy with rfl|⟨t,rfl⟩
  ·refine zm hd ?_;refine zu hl ?_;exact hK
  ·refine zm hd ?_;refine zu hl ?_;exact hK
variable {σ:List AObj} {L:List (List UInt8)} {G:List zK}
theorem may_all {a b c d:Int}(h:mayV a b c d=true):∀x∈[a,b,c,d],0<=x/\x<=9007199254740992:=by
 rw[mayV_all,List.all_eq_true]at h;exact fun x hx=>zvY.1 (h x hx)
theorem zhO {a b c d:Int}(h:mayV a b c d=true){K:KT}(hK:K (.d (.slice (bcs (zrI a b c d)))) σ) :
  zP zff [.d (.int .i64 a),.d (.int .i64 b),.d (.int .i64 c),.d (.int .i64 d)] σ K:=by
 refine acE4 zvf fun hl=>?_;simp only[znV,iN,bT,bF,eN];refine zG ?_;refine c_auPut (b:=[4]) (l:=[a,b,c,d]) (by simp) (by simp) (may_all h) ?_;refine zG ?_;refine zu hl ?_;exact hK
theorem c_auMade {id m t id2 m2 t2:Nat}{l:List (List UInt8)}{g:List zK}(hT:zgO σ id m t l)(hG:zfj σ id2 m2 t2 g)(hL:zmI l)(hg:g.length<=1073741824){K:KT}
  (hK:K (.d (.bool true)) σ):zP znk [.box id 0,.box id2 0] σ K:=by
 refine zen e_auth_made fun hl=>?_;simp only[zxB,iN,bT,bF,eN];refine zG ?_;refine zvw hT hL.nd hL.len hL.each ?_;refine zG ?_;refine zAM (hG.app _) hg fun g'=>?_;refine zG ?_;refine zu hl ?_;exact hK
theorem c_auSigned {id m t id2 m2 t2:Nat}{s:zK}{key:Int}{b:List UInt8}(hT:zgO σ id m t L)(hG:zfj σ id2 m2 t2 G){K:KT}
  (hK:K (.d (.bool (zhp L G s key b))) σ):zP znj [.box id 0,.box id2 0,.agg [.d (.int .i64 s.key),.d (.int .i64 s.dig)],.d (.int .i64 key),.d (.slice (bcs b))] σ K:=by
 refine acE5 zAy fun hl=>?_;have hT1:=fun τ=>hT.app τ;have hG1:=fun τ=>hG.app τ;simp only[zsP,iN,bT,bF,eN];refine zG ?_;refine c_tLook (hT1 _) ?_;have fin:∀z,zhp L G s key b=z->K (.d (.bool z)) σ:=fun z h=>h▸hK;clear hK;cases hlk:zge L b with
 | none=>
  refine gq28 ?_
  refine zu hl ?_
  exact fin _ (by simp[zhp,hlk])
 | some i=>
  simp only[zow]
  cases h1:(s.key==key)
  ·refine zdO h1 ?_
   refine zu hl ?_
   exact fin _ (by simp at h1;simp[zhp,hlk,h1])
  ·cases h2:(s.dig==((i+1:Nat):Int))
   ·refine zdO (zd h1 h2) ?_
    refine zu hl ?_
    exact fin _ (by simp at h1 h2;simp[zhp,hlk,h1];omega)
   ·refine zdO (zd h1 h2) ?_
    refine c_gSigned (s:=s) (hG1 _) ?_
    refine zG ?_
    refine zu hl ?_
    exact fin _ (by simp at h1 h2;simp[zhp,hlk,h1,h2])
abbrev uns7 (m:zbj) (c:zbk):zbj:={ m with changes:=[{ c with key:=0,dig:=1 }] }
theorem some7 {m:zbj}{c:zbk}(hk:m.kind=7)(hc:m.changes=[c]):zbo m=uns7 m c:=by simp[zbo,hk,hc]
theorem uns7_small {m:zbj}{c:zbk}(h:zaK m)(hc:m.changes=[c]):zaK (uns7 m c):=by
 obtain⟨h1,h2,h3,h4,h5,h6,h7,h8,h9,h10⟩:=h;obtain⟨⟨a1,a2,a3⟩,⟨b1,b2,b3⟩⟩:=h5 c (by rw[hc];simp);exact⟨h1,h2,h3,by simp,by intro x hx;simp at hx;subst hx;exact⟨⟨a1,a2,a3⟩,⟨b1,b2,b3⟩⟩,h6,h7,h8,h9,h10⟩
abbrev zvl (m:zbj):zbj:={ m with key:=0,sdig:=1 }
theorem uns8_small {m:zbj}(h:zaK m):zaK (zvl m):=by
 obtain⟨h1,h2,h3,h4,h5,h6,h7,h8,h9,h10⟩:=h;exact⟨h1,h2,h3,h4,h5,h6,h7,h8,h9,h10⟩
theorem bcs1 (l:List UInt8):∀e∈bcs l,e.length=1:=by
 intro e he;simp only[bcs,List.mem_map]at he;obtain⟨x,_,rfl⟩:=he;rfl
variable {σ:List AObj}
theorem res_eq {e o:Int}(he:0<=e)(ho:0<=o):resB e o=zbt e.toNat++zbt o.toNat:=by
 rw[resB,Int.max_eq_right he,Int.max_eq_right ho]
theorem unsG7 {m:zbj}(h:m.kind=7∨m.kind=8):unsB m=znW m:=by
 cases hc:m.changes<;>rcases h with h|h<;>simp[unsB,znW,zfq,h,hc]
theorem zwS {id:Nat}{b:List UInt8}{m:zbj}(hσ:σ[id]? = some (wO b))(hb:b.length<=900000)(h:zbJ m=0){K:KT}(hK:K (.tup []) (σ.set id (wO (b++znW m)))) :
  zP zbr [.box id 0,zgd m] σ K:=by
 have hkk:=kinds h;by_cases h7:m.kind=7
 ·obtain⟨c,hc,he⟩:=zwQ h7 h;exact c_wUns7 hσ (by omega) h7 hc (ziU he).1 (by rw[unsG7 (.inl h7)];exact hK)
 by_cases h8:m.kind=8
 ·exact c_wUns8 hσ (by omega) h8 (check8 h8 h).1 (by rw[unsG7 (.inr h8)];exact hK)
 have hall:=(zgN h).1;have gi:∀n lo hi:Int,inE n lo hi∈zC m->lo<=n/\n<=hi:=fun n lo hi hm=>zkB (hall _ (by simp[zab,hm]));refine zen zet fun hl=>?_;have hid:=zZ hσ;have n0:=zj (n:=m.kind.toNat) (by omega);have hf:∀ {S b'},zlR σ id (zla m) (wO b') S->b'=b++znW m->AW.Ends σ.length K (some []) S:=fun j e=>(j.as (by rw[e])).done (zqm _ _) hl hK;simp only[zcV,iN,bT,bF,eN,zl6];have j:=zlR.first hσ (zla m);refine zG ?_;refine zgG (b:=b) (l:=[m.kind]) j hid (by omega) (by simp) (by simp;omega) fun S j=>?_;have b0:=j.b;have e0:zS [m.kind]=zbt m.kind.toNat:=by simp[zS]
 rw[e0]at j;obtain⟨b1,hb1⟩:∃b1,b++zbt m.kind.toNat=b1:=⟨_,rfl⟩;have hb1l:b1.length<=900010:=by rw[← hb1,List.length_append];omega
 have hu:b++znW m=b1++zfq m:=by rw[znW,← List.append_assoc,hb1]
 rw[hb1]at j;by_cases hv:m.kind=2∨m.kind=3∨m.kind=4
 ·obtain⟨v1,v2,v3,v4⟩:=zzL h hv;have q:=zcd (l:=[m.src,m.view,m.seq,m.dig]) (by simp;omega);simp only[List.length_cons,List.length_nil]at q;rcases hv with hk|hk|hk
  ·have hcb:zD m.batch=0:=hall _ (by simp[zab,zC,hk]);refine zm (zd b0 (K2 hk)) ?_;refine zgG (b:=b1) (l:=[m.src,m.view,m.seq,m.dig]) j hid (by omega) (by simp) (by simp;omega) fun S j=>?_;have b0:=j.b;refine zm (zd b0 (K2 hk)) ?_;refine zvr (b:=b1++zS [m.src,m.view,m.seq,m.dig]) j hid (by rw[List.length_append];omega) hcb fun S j=>?_;refine zG ?_;exact hf j (by rw[hu];simp[zfq,hk])
  ·refine zm (zd b0 (K3 hk)) ?_;refine zgG (b:=b1) (l:=[m.src,m.view,m.seq,m.dig]) j hid (by omega) (by simp) (by simp;omega) fun S j=>?_;have b0:=j.b;refine zm (zd b0 (K3 hk)) ?_;exact hf j (by rw[hu];simp[zfq,hk])
  ·refine zm (zd b0 (K4 hk)) ?_;refine zgG (b:=b1) (l:=[m.src,m.view,m.seq,m.dig]) j hid (by omega) (by simp) (by simp;omega) fun S j=>?_;have b0:=j.b;refine zm (zd b0 (K4 hk)) ?_;exact hf j (by rw[hu];simp[zfq,hk])
 by_cases hk:m.kind=1
 ·have hcb:zD m.batch=0:=hall _ (by simp[zab,zC,hk]);refine zm (zd b0 (K1 hk)) ?_;refine zvr (b:=b1) j hid (by omega) hcb fun S j=>?_;refine zG ?_;exact hf j (by rw[hu];simp[zfq,hk])
 by_cases hk:m.kind=5
 ·obtain⟨h1,h2,h3,h4,h5,h6,_⟩:=zur hk h;have q:=zcd (l:=[m.src,m.view,m.client,m.time]) (by simp;omega);simp only[List.length_cons,List.length_nil]at q;refine zm (zd b0 (K5 hk)) ?_;refine zgG (b:=b1) (l:=[m.src,m.view,m.client,m.time]) j hid (by omega) (by simp) (by simp;omega) fun S j=>?_;have b0:=j.b;have a0:=j.a;refine zm (zd b0 a0) ?_;refine c_PutResult (e:=m.rerr) (o:=m.roff) (b:=b1++zS [m.src,m.view,m.client,m.time]) (by rw[List.length_append];omega) (by omega) (by omega) ?_;refine zm (zd b0 a0) ?_;exact hf (j.set hid _) (by rw[hu];simp[zfq,hk,res_eq h5.1 h6.1])
 by_cases hk:m.kind=6
 ·have g1:=gi m.src 0 12 (by simp[zC,hk,zjz]);have g2:=gi m.seq 1 9007199254740992 (by simp[zC,hk,zkl]);have g3:=gi m.dig 1 9007199254740992 (by simp[zC,hk,zkl]);refine zm (zd b0 (K6 hk)) ?_;refine zgG (b:=b1) (l:=[m.src,m.seq,m.dig]) j hid (by omega) (by simp) (by simp;omega) fun S j=>?_;refine zG ?_;exact hf j (by rw[hu];simp[zfq,hk])
 by_cases hk:m.kind=9
 ·have g1:=gi m.src 0 12 (by simp[zC,hk,zjz]);have g2:=gi m.seq 0 9007199254740992 (by simp[zC,hk,zeP]);refine zm (zd b0 (K9 hk)) ?_;refine zgG (b:=b1) (l:=[m.src,m.seq]) j hid (by omega) (by simp) (by simp;omega) fun S j=>?_;refine zG ?_;exact hf j (by rw[hu];simp[zfq,hk])
 by_cases hk:m.kind=10
 ·have g1:=gi m.src 0 12 (by simp[zC,hk,zjz]);have g2:∀e∈zby m.cert,e=0:=fun e he=>hall e (by simp[zab,zC,hk,he]);have g3:=gi m.state.length 0 262144 (by simp[zC,hk]);have q:=zcd (l:=[m.src]) (by simp;omega);have q2:=zhK g2;simp only[List.length_cons,List.length_nil]at q;refine zm (zd b0 (K10 hk)) ?_;refine zgG (b:=b1) (l:=[m.src]) j hid (by omega) (by simp) (by simp;omega) fun S j=>?_;have b0:=j.b;refine zm b0 ?_;refine jw_cert (b:=b1++zS [m.src]) (c:=m.cert) j hid (by rw[List.length_append];omega) g2 fun S j=>?_;have b0:=j.b;refine zm b0 ?_;refine jw_str (b:=b1++zS [m.src]++zrz m.cert) (x:=m.state) j hid (by simp only[List.length_append];omega) (by omega) fun S j=>?_;refine zG ?_;exact hf j (by rw[hu];simp[zfq,hk])
 by_cases hk:m.kind=11
 ·have g1:=gi m.client 0 7 (by simp[zC,hk]);have g2:=gi m.offset 0 9007199254740992 (by simp[zC,hk,zeP]);have g3:m.topic.length<=64:=by
   refine zyD ?_;have:=hall (zkZ m.topic) (by simp[zab,zC,hk]);unfold zkZ at this;split at this
   ·assumption
   ·cases this
  have q:=zcd (l:=[m.client]) (by simp;omega);have p1:=zdh (x:=m.topic) (by omega);simp only[List.length_cons,List.length_nil]at q;refine zm (zd b0 (K11 hk)) ?_;refine zgG (b:=b1) (l:=[m.client]) j hid (by omega) (by simp) (by simp;omega) fun S j=>?_;have b0:=j.b;refine zm b0 ?_;refine jw_str (b:=b1++zS [m.client]) (x:=m.topic) j hid (by rw[List.length_append];omega) (by omega) fun S j=>?_;have b0:=j.b;refine zm b0 ?_;refine zgG (b:=b1++zS [m.client]++zkk m.topic) (l:=[m.offset]) j hid (by simp only[List.length_append];omega) (by simp) (by simp;omega) fun S j=>?_;refine zG ?_;exact hf j (by rw[hu];simp[zfq,hk])
 have hk:m.kind=12:=by omega
 have g1:=gi m.src 0 12 (by simp[zC,hk,zjz]);have g2:zrF m.proof:=zzZ fun e he=>hall e (by simp[zab,zC,hk,he]);have q:=zcd (l:=[m.src]) (by simp;omega);simp only[List.length_cons,List.length_nil]at q;refine zm (zd b0 (K12 hk)) ?_;refine zgG (b:=b1) (l:=[m.src]) j hid (by omega) (by simp) (by simp;omega) fun S j=>?_;have b0:=j.b;refine zm b0 ?_;refine c_wProof (b:=b1++zS [m.src]) (p:=m.proof) j.a (by rw[List.length_append];omega) g2 ?_;refine zG ?_;exact hf (j.set hid _) (by rw[hu];simp[zfq,hk])
theorem zjy {m:zbj}(h:zfA m=0):zbJ m=0/\(ztu m).length<=262144:=by
 unfold zfA at h;split at h
 ·rename_i hh;exact absurd h hh
 ·rename_i hh;split at h
  ·cases h
  ·exact⟨by simpa using hh,by omega⟩
theorem unsG_len {m:zbj}(hm:m.state.length<=1073741824)(h:zbJ m=0):(znW m).length<=700000:=by
 have hkk:=kinds h;have hall:=(zgN h).1;have gi:∀n lo hi:Int,inE n lo hi∈zC m->lo<=n/\n<=hi:=fun n lo hi hm=>zkB (hall _ (by simp[zab,hm]));have n0:=zj (n:=m.kind.toNat) (by omega);have fin:(zfq m).length<=600000->(znW m).length<=700000:=fun h=>by rw[znW,List.length_append];omega
 refine fin ?_;clear fin;by_cases hv:m.kind=2∨m.kind=3∨m.kind=4
 ·obtain⟨v1,v2,v3,v4⟩:=zzL h hv;have q:=zcd (l:=[m.src,m.view,m.seq,m.dig]) (by simp;omega);simp only[List.length_cons,List.length_nil]at q;rcases hv with hk|hk|hk
  ·have hcb:zD m.batch=0:=hall _ (by simp[zab,zC,hk]);have:=(zdH hcb).2;simp only[zfq,hk,reduceIte,Int.reduceEq,List.length_append];omega
  ·simp only[zfq,hk,reduceIte,Int.reduceEq,true_or];omega
  ·simp only[zfq,hk,reduceIte,Int.reduceEq,or_true];omega
 by_cases hk:m.kind=1
 ·have hcb:zD m.batch=0:=hall _ (by simp[zab,zC,hk]);have:=(zdH hcb).2;simp only[zfq,hk,reduceIte];omega
 by_cases hk:m.kind=5
 ·obtain⟨h1,h2,h3,h4,h5,h6,_⟩:=zur hk h;have q:=zcd (l:=[m.src,m.view,m.client,m.time]) (by simp;omega);have n5:=zj (n:=m.rerr.toNat) (by omega);have n6:=zj (n:=m.roff.toNat) (by omega);simp only[List.length_cons,List.length_nil]at q;simp only[zfq,hk,reduceIte,Int.reduceEq,or_self,List.length_append];omega
 by_cases hk:m.kind=6
 ·have g1:=gi m.src 0 12 (by simp[zC,hk,zjz]);have g2:=gi m.seq 1 9007199254740992 (by simp[zC,hk,zkl]);have g3:=gi m.dig 1 9007199254740992 (by simp[zC,hk,zkl]);have q:=zcd (l:=[m.src,m.seq,m.dig]) (by simp;omega);simp only[List.length_cons,List.length_nil]at q;simp only[zfq,hk,reduceIte,Int.reduceEq,or_self];omega
 by_cases hk:m.kind=7
 ·obtain⟨c,hc,he⟩:=zwQ hk h;have:=zsE (ziU he).1;simp only[zfq,hk,reduceIte,Int.reduceEq,or_self,hc];omega
 by_cases hk:m.kind=8
 ·have:=newvB_len (check8 hk h).1;simp only[zfq,hk,reduceIte,Int.reduceEq,or_self];omega
 by_cases hk:m.kind=9
 ·have g1:=gi m.src 0 12 (by simp[zC,hk,zjz]);have g2:=gi m.seq 0 9007199254740992 (by simp[zC,hk,zeP]);have q:=zcd (l:=[m.src,m.seq]) (by simp;omega);simp only[List.length_cons,List.length_nil]at q;simp only[zfq,hk,reduceIte,Int.reduceEq,or_self];omega
 by_cases hk:m.kind=10
 ·have g1:=gi m.src 0 12 (by simp[zC,hk,zjz]);have g2:∀e∈zby m.cert,e=0:=fun e he=>hall e (by simp[zab,zC,hk,he]);have g3:=gi m.state.length 0 262144 (by simp[zC,hk]);have q:=zcd (l:=[m.src]) (by simp;omega);have q2:=zhK g2;have q3:=zdh (x:=m.state) (by omega);simp only[List.length_cons,List.length_nil]at q;simp only[zfq,hk,reduceIte,Int.reduceEq,or_self,List.length_append];omega
 by_cases hk:m.kind=11
 ·have g1:=gi m.client 0 7 (by simp[zC,hk]);have g2:=gi m.offset 0 9007199254740992 (by simp[zC,hk,zeP]);have g3:m.topic.length<=64:=by
   refine zyD ?_;have:=hall (zkZ m.topic) (by simp[zab,zC,hk]);unfold zkZ at this;split at this
   ·assumption
   ·cases this
  have q:=zcd (l:=[m.client]) (by simp;omega);have q2:=zcd (l:=[m.offset]) (by simp;omega);have p1:=zdh (x:=m.topic) (by omega);simp only[List.length_cons,List.length_nil]at q q2;simp only[zfq,hk,reduceIte,Int.reduceEq,or_self,List.length_append];omega
 have hk:m.kind=12:=by omega
 have g1:=gi m.src 0 12 (by simp[zC,hk,zjz]);have g2:zrF m.proof:=zzZ fun e he=>hall e (by simp[zab,zC,hk,he]);have q:=zcd (l:=[m.src]) (by simp;omega);have q2:=proofB_len g2;simp only[List.length_cons,List.length_nil]at q;simp only[zfq,hk,reduceIte,Int.reduceEq,or_self,List.length_append];omega
variable {σ:List AObj}
theorem zsz {m:zbj}(hm:zaK m){K:KT}(hK:∀b:List UInt8,K (.tup [.d (.slice (bcs b)),.d (.int .i64 (zfA m))]) σ) :
  zP zkv [zgd m] σ K:=by
 refine zey zwI fun hl=>?_;have fin:∀b z,zfA m=z->K (.tup [.d (.slice (bcs b)),.d (.int .i64 z)]) σ:=fun b z h=>h▸hK b;clear hK;simp only[zpn,iN,bT,bF,eN];refine zG ?_;refine c_mCheckG (m:=m) hm ?_;cases h1:(zbJ m != 0);rotate_left
 ·refine zm h1 ?_;refine zu hl ?_;exact fin [] _ (by simp at h1;simp[zfA,h1])
 have h1':zbJ m=0:=by simpa using h1
 have hul:=unsG_len hm.state h1';have ende:∀u,ztu m=u->zfA m=if u.length>262144 then 3 else 0:=fun u hu=>by simp[zfA,h1',hu]
 refine zm h1 ?_;refine ACall.pre (.dataB (σ.length+1) 0 [.exact []] (.exact []) [] (by simp) rfl rfl (.refl _ _)) ?_;have hW:((σ++[zla m,.box [.exact []]]).set (σ.length+1) (.box (([AV.exact []]:List AV).set 0 (.d (.slice [])))))=σ++[zla m,wO []]:=by rw[zX];rfl
 rw[hW];refine zwS (b:=[]) (m:=m) (by rw[zA];rfl) (by simp) h1' ?_;rw[zX];by_cases h7:m.kind=7
 ·obtain⟨c,hc,he⟩:=zwQ h7 h1';have hgx:(zap m.changes)[0]? = some (zag c):=by rw[hc];rfl
  have hgl:(zap m.changes).length=1:=by rw[hc];rfl
  refine zdO (zd (K7 h7) (zd hgx hgl)) ?_;refine zAB (b:=znW m) (by rw[zA];rfl) (by omega) (ziU he).2 ?_;rw[zX];refine zG ?_;obtain⟨u,hu⟩:∃u,znW m++zgp c.key c.dig=u:=⟨_,rfl⟩;rw[hu];have hS:(σ++List.set [zla m,wO (znW m)] 1 (wO u))[σ.length+1]? = some (wO u):=by rw[zA];rfl
  refine zAC (b:=u) hS ?_;refine zG ?_;refine zu hl ?_;exact fin _ _ (ende u (by rw[← hu];simp[ztu,ownS,h7,hc]))
 by_cases ho:zeO m.kind=true
 ·have hs:=own_ok h1' ho;refine zm (show(m.kind==7)=false by simpa using h7) ?_;refine zaP ?_;refine zm ho ?_;refine zAB (b:=znW m) (by rw[zA];rfl) (by omega) hs ?_;rw[zX];refine zG ?_;obtain⟨u,hu⟩:∃u,znW m++zgp m.key m.sdig=u:=⟨_,rfl⟩;rw[hu];have hS:(σ++List.set [zla m,wO (znW m)] 1 (wO u))[σ.length+1]? = some (wO u):=by rw[zA];rfl
  refine zAC (b:=u) hS ?_;refine zG ?_;refine zu hl ?_;exact fin _ _ (ende u (by rw[← hu];simp[ztu,ownS,h7,ho]))
 ·have ho':zeO m.kind=false:=by simpa using ho
  refine zm (show(m.kind==7)=false by simpa using h7) ?_;refine zaP ?_;refine zm ho' ?_;refine zAC (b:=znW m) (by rw[zA];rfl) ?_;refine zG ?_;refine zu hl ?_;exact fin _ _ (ende _ (by simp[ztu,h7,ho]))
theorem zyq {m:zbj}(h:zaK m):zaK (zbo m):=by
 unfold zbo;split
 ·split
  ·rename_i c hc;exact uns7_small h hc
  ·exact h
 ·split
  ·exact uns8_small h
  ·exact h
theorem c_mUnsignedG {m:zbj}(hm:zaK m){K:KT}
  (hK:K (.tup [.d (.slice (bcs (if zfA (zbo m)=0 then znW (zbo m)else []))),.d (.int .i64 (zfA (zbo m)))]) σ):zP zhC [zgd m] σ K:=by
 refine zey zst fun hl=>?_;have hs:=zyq hm;have hgl:(zap m.changes).length=m.changes.length:=List.length_map ..;have fin:∀b z,(if zfA (zbo m)=0 then znW (zbo m)else [])=b->zfA (zbo m)=z->K (.tup [.d (.slice (bcs b)),.d (.int .i64 z)]) σ:=fun b z h h'=>h▸h'▸hK;clear hK;obtain⟨M,hM⟩:∃M,zbo m=M:=⟨_,rfl⟩;rw[hM]at fin hs;simp only[zlN,iN,bT,bF,eN,zl6];by_cases h7:m.kind=7
 ·by_cases h1:m.changes.length=1
  ·obtain⟨c,hc⟩:=List.length_eq_one_iff.1 h1;have hgx:(zap m.changes)[0]? = some (zag c):=by rw[hc];rfl
   rw[some7 h7 hc]at hM;refine zdO (zd (K7 h7) (zd hgx (zd hgl h1))) ?_;refine c_mSome ?_;refine zdO (zd hgx hgl) ?_;subst hM;refine zsz (m:=uns7 m c) hs fun b0=>?_;cases hb:(zfA (uns7 m c) != 0)
   ·have hb':zfA (uns7 m c)=0:=by simpa using hb
    refine zm hb ?_;refine ACall.pre (.dataB (σ.length+2) 0 [.exact []] (.exact []) [] (by rw[zA];rfl) rfl rfl (.refl _ _)) ?_;rw[zX];refine zwS (b:=[]) (m:=uns7 m c) (by rw[zA];rfl) (by simp) (zjy hb').1 ?_;rw[zX];refine zG ?_;refine zu hl ?_;exact fin _ _ (by rw[if_pos hb']) hb'
   ·have hb':zfA (uns7 m c)≠0:=by simpa using hb
    refine zm hb ?_;refine zu hl ?_;exact fin [] _ (by rw[if_neg hb']) rfl
  ·have hb1:(((m.changes.length:Nat):Int)==1)=false:=by simp;omega
   have e:zbo m=m:=by
    unfold zbo;rw[if_pos h7];split
    ·rename_i c hc;simp[hc]at h1
    ·rfl
   rw[e]at hM;refine zm (zd (K7 h7) (zd hgl hb1)) ?_;refine zaP ?_;refine zm (show zeO m.kind=false by rw[h7];rfl) ?_;subst hM;refine zsz (m:=m) hs fun b0=>?_;cases hb:(zfA (m) != 0)
   ·have hb':zfA (m)=0:=by simpa using hb
    refine zm hb ?_;refine ACall.pre (.dataB (σ.length+1) 0 [.exact []] (.exact []) [] (by rw[zA];rfl) rfl rfl (.refl _ _)) ?_;rw[zX];refine zwS (b:=[]) (m:=m) (by rw[zA];rfl) (by simp) (zjy hb').1 ?_;rw[zX];refine zG ?_;refine zu hl ?_;exact fin _ _ (by rw[if_pos hb']) hb'
   ·have hb':zfA (m)≠0:=by simpa using hb
    refine zm hb ?_;refine zu hl ?_;exact fin [] _ (by rw[if_neg hb']) rfl
 by_cases ho:zeO m.kind=true
 ·have e:zbo m=zvl m:=by simp[zbo,h7,ho]
  rw[e]at hM;refine zm (show(m.kind==7)=false by simpa using h7) ?_;refine zaP ?_;refine zm ho ?_;refine c_mSome ?_;refine zG ?_;subst hM;refine zsz (m:=zvl m) hs fun b0=>?_;cases hb:(zfA (zvl m) != 0)
  ·have hb':zfA (zvl m)=0:=by simpa using hb
   refine zm hb ?_;refine ACall.pre (.dataB (σ.length+1) 0 [.exact []] (.exact []) [] (by rw[zA];rfl) rfl rfl (.refl _ _)) ?_;rw[zX];refine zwS (b:=[]) (m:=zvl m) (by rw[zA];rfl) (by simp) (zjy hb').1 ?_;rw[zX];refine zG ?_;refine zu hl ?_;exact fin _ _ (by rw[if_pos hb']) hb'
  ·have hb':zfA (zvl m)≠0:=by simpa using hb
   refine zm hb ?_;refine zu hl ?_;exact fin [] _ (by rw[if_neg hb']) rfl
 ·have ho':zeO m.kind=false:=by simpa using ho
  have e:zbo m=m:=by simp[zbo,h7,ho]
  rw[e]at hM;refine zm (show(m.kind==7)=false by simpa using h7) ?_;refine zaP ?_;refine zm ho' ?_;subst hM;refine zsz (m:=m) hs fun b0=>?_;cases hb:(zfA (m) != 0)
  ·have hb':zfA (m)=0:=by simpa using hb
   refine zm hb ?_;refine ACall.pre (.dataB (σ.length+1) 0 [.exact []] (.exact []) [] (by rw[zA];rfl) rfl rfl (.refl _ _)) ?_;rw[zX];refine zwS (b:=[]) (m:=m) (by rw[zA];rfl) (by simp) (zjy hb').1 ?_;rw[zX];refine zG ?_;refine zu hl ?_;exact fin _ _ (by rw[if_pos hb']) hb'
  ·have hb':zfA (m)≠0:=by simpa using hb
   refine zm hb ?_;refine zu hl ?_;exact fin [] _ (by rw[if_neg hb']) rfl
variable {σ:List AObj} {L:List (List UInt8)} {G:List zK}
theorem znu {b:List UInt8}{x:Int}(hb:b.length<=1000000)(h0:0<=x)(h1:x<=9007199254740992){K:KT}(hK:K (.d (.slice (bcs (b++zbt x.toNat)))) σ) :
  zP zfI [.d (.slice (bcs b)),.d (.int .i64 x)] σ K:=by
 refine zen e_r11_put fun hl=>?_;have hm1:(if 0>x then 0 else x)=x:=by split<;>omega
 have hm2:(if x<0 then 0 else x)=x:=by split<;>omega
 have hw:IntKind.u64.wrap x=((x.toNat:Nat):Int):=by
  rw[show x=((x.toNat:Nat):Int) by omega,zdQ (by omega)];rfl
 simp only[S_r11_put,iN,bT,bF,eN];refine zm (zd hm1 (zd hm2 hw)) ?_;refine zeL (by omega) (by omega) ?_;refine zG ?_;refine zu hl ?_;exact hK
theorem zhM {a b c d:Int}(h:mayV a b c d=true){K:KT}(hK:K (.d (.slice (bcs (zrI a b c d)))) σ) :
  zP zfJ [.d (.int .i64 a),.d (.int .i64 b),.d (.int .i64 c),.d (.int .i64 d)] σ K:=by
 refine acE4 zwy fun hl=>?_;simp only[mayV,Bool.and_eq_true,zvY]at h;obtain⟨⟨a0,a1⟩,⟨b0,b1⟩,⟨c0,c1⟩,⟨d0,d1⟩⟩:=h;have l1:=zj (n:=a.toNat) (by omega);have l2:=zj (n:=b.toNat) (by omega);have l3:=zj (n:=c.toNat) (by omega);simp only[zpc,iN,bT,bF,eN];refine zG ?_;refine znu (b:=[4]) (by simp) a0 a1 ?_;obtain⟨B1,hB1⟩:∃B,[4]++zbt a.toNat=B:=⟨_,rfl⟩;have n1:B1.length<=11:=by rw[← hB1];simp;omega
 rw[hB1];refine zG ?_;refine znu (by omega) b0 b1 ?_;obtain⟨B2,hB2⟩:∃B,B1++zbt b.toNat=B:=⟨_,rfl⟩;have n2:B2.length<=21:=by rw[← hB2];simp;omega
 rw[hB2];refine zG ?_;refine znu (by omega) c0 c1 ?_;obtain⟨B3,hB3⟩:∃B,B2++zbt c.toNat=B:=⟨_,rfl⟩;have n3:B3.length<=31:=by rw[← hB3];simp;omega
 rw[hB3];refine zG ?_;refine znu (by omega) d0 d1 ?_;refine zG ?_;refine zu hl ?_;rw[show B3++zbt d.toNat=zrI a b c d by rw[← hB3,← hB2,← hB1];simp[zrI,zS]];exact hK
def zvp (L:List (List UInt8)) (key:Int) (b:List UInt8):Int:=if zgw L b=0 then 6 else zfx key (zgw L b)
def sgnS (L:List (List UInt8)) (key:Int) (b:List UInt8):zK:=if zgw L b=0 then⟨0,0⟩else signR key (zgw L b)
def zol (L:List (List UInt8)) (G:List zK) (key:Int) (b:List UInt8):List zK:=if zgw L b=0 then G else zgn G key (zgw L b)
theorem c_raSign {id id2:Nat}{key:Int}{b:List UInt8}(hT:σ[id]? = some (rtO L))(hG:σ[id2]? = some (rlO G))(h1:id≠id2)(hbl:b.length<=1073741824)(hl0:L.length<=1048576)(hg:G.length<=1073741824)
  {K:KT}
  (hK:K (.tup [zuG (sgnS L key b),.d (.int .i64 (zvp L key b))]) ((σ.set id (rtO (zfb L b))).set id2 (rlO (zol L G key b)))) :
  zP zth [.box id 0,.box id2 0,.d (.int .i64 key),.d (.slice (bcs b))] σ K:=by
 refine acE4 e_r11_sign fun hl=>?_;simp only[zzt,iN,bT,bF,eN];refine zG ?_;refine c_rtSum (zi hT) hbl hl0 ?_;rw[zdg hT];have hl1:zhm σ.length (σ.set id (rtO (zfb L b))):=hl.setO (rtO_low _ _);have hs1:(σ.set id (rtO (zfb L b))).length=σ.length:=by simp
 have hG1:(σ.set id (rtO (zfb L b)))[id2]? = some (rlO G):=by rw[List.getElem?_set_ne h1];exact hG
 obtain⟨S1,hS1⟩:∃S1,σ.set id (rtO (zfb L b))=S1:=⟨_,rfl⟩;rw[hS1]at hK hG1 hs1 hl1 ⊢;have r1:σ.length=S1.length:=hs1.symm;rw[r1]at hl1;by_cases hz:zgw L b=0
 ·have hq:(zgw L b==0)=true:=by simpa using hz
  simp only[zvp,sgnS,zol,if_pos hz,zuG]at hK;rw[zbQ hG1]at hK;refine zm (zd hq r1) ?_;refine zeX rfl ?_ hl1 ?_
  ·simp[zgQ,dmT,dm,dm1,zck,zbw,zfs]
  ·exact hK
 ·have hq:(zgw L b==0)=false:=by simpa using hz
  simp only[zvp,sgnS,zol,if_neg hz]at hK;refine zm (zd hq r1) ?_;refine c_rgSign (zi hG1) hg ?_;rw[zdg hG1];have hl2:zhm S1.length (S1.set id2 (rlO (zgn G key (zgw L b)))):=hl1.setO (rlO_low _ _);have hs2:(S1.set id2 (rlO (zgn G key (zgw L b)))).length=S1.length:=by simp
  obtain⟨S2,hS2⟩:∃S2,S1.set id2 (rlO (zgn G key (zgw L b)))=S2:=⟨_,rfl⟩;rw[hS2]at hK hs2 hl2 ⊢;have r3:S1.length=S2.length:=hs2.symm;have r2:σ.length=S2.length:=r1.trans r3;rw[r3]at hl2;simp only[zuG]at hK ⊢;refine zm (zd r2 r3) ?_;refine zeX rfl ?_ hl2 ?_
  ·simp[zgQ,dmT,dm,dm1,zck,zbw,zfs]
  ·exact hK
end Go.Proofs.YtdgcepphjnoalaaGreat
