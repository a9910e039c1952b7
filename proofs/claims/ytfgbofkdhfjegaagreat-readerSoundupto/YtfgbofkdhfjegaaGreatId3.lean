/- Contracts: a ledger signs; a table's clone; whether both were made. -/
import Derived.Test.YtfgbofkdhfjegaaGreatSpTab
set_option linter.all false
set_option maxRecDepth 100000
namespace Go.Proofs.YtfgbofkdhfjegaaGreat
open Go.AW
def zvK (s:zI):AV := .agg [.d (.int .i64 s.key),.d (.int .i64 s.dig)]
def signR (k d:Int):zI:=if zei k d=0 then ⟨k,d⟩ else ⟨0, 0⟩
def zfz (g:List zI) (k d:Int):List zI:=if zei k d=0 then zlA g ⟨k,d⟩ else g
theorem c_gSign {σ:List zg} {id m t:Nat} {g:List zI} {k d:Int} (hG:zee σ id m t g) (hgl:g.length<=1073741824) {K:KT}
  (hK:K (.tup [zvK (signR k d),.d (.int .i64 (zei k d))]) (putLed σ id m t (zfz g k d))):zr Tryz.prog zcS [.box id 0,.d (.int .i64 k),.d (.int .i64 d)] σ K:=by
 refine acE3 zop fun hl => ?_
 have hb:∀ τ,(σ ++ τ)[id]? = some (.box [.own t (zpL g),.map m]):=fun τ=>zd hG.box
 have hm:∀ τ,(σ ++ τ)[m]? = some (.map (ztQ g)):=fun τ=>zd hG.map
 obtain ⟨n1,n2,n3⟩:=hG.ne
 have hlen:(zpL g).length=g.length:=List.length_map ..
 have bad:zei k d≠0->K (.tup [.agg [.d (.int .i64 0),.d (.int .i64 0)],.d (.int .i64 (zei k d))]) σ:=fun h=>by
  rw [signR,zfz,if_neg h,if_neg h,hG.self] at hK
  exact hK
 simp only [ziI,iN,bT,bF,eN]
 refine gq1 ?_
 refine zwB (hG.app _) ?_
 cases h1:decide (k<0)
 ·cases h2:decide (k≥21)
  ·have hk:¬ (k<0∨k≥21):=by simp at h1 h2;omega
   cases h3:decide (d<1)
   ·have he:zei k d=0:=by rw [zei,if_neg hk,if_neg (by simpa using h3)]
    rw [he,signR,zfz,if_pos he,if_pos he] at hK
    by_cases hs:(⟨k,d⟩:zI)∈g
    ·obtain ⟨j,hf⟩:=zoT hs
     simp only at hf
     rw [zlA,if_pos hs,hG.self] at hK
     refine gq4 (zf h1 (zf h2 (zf h3 (zf hb (zf hm hf))))) ?_
     refine zT hl ?_
     exact hK
    ·have hf:=zqR hs
     simp only at hf
     rw [zlA,if_neg hs] at hK
     have hmm : σ[m]? = some (.map (ztQ g)):=hG.map
     have s1:∀ X τ,(σ ++ τ).set m X = σ.set m X ++ τ:=fun X τ=>zbZ hG.map
     have hb':∀ X,(σ.set m X)[id]? = some (.box [.own t (zpL g),.map m]):=fun X=>by rw [List.getElem?_set_ne (Ne.symm n1)];exact hG.box
     have ht':∀ X,(σ.set m X)[t]? = some (.tok 2 g.length):=fun X=>by rw [List.getElem?_set_ne n3];exact hG.tok
     have g3:∀ X τ,(σ.set m X ++ τ)[id]? = some (.box [.own t (zpL g),.map m]):=fun X τ=>zd (hb' X)
     have g4:∀ X τ,(σ.set m X ++ τ)[t]? = some (.tok 2 g.length):=fun X τ=>zd (ht' X)
     have s2:∀ X Y τ,(σ.set m X ++ τ).set t Y=(σ.set m X).set t Y ++ τ:=fun X Y τ=>zbZ (ht' X)
     have hb2:∀ X Y,((σ.set m X).set t Y)[id]? = some (.box [.own t (zpL g),.map m]):=fun X Y=>by rw [List.getElem?_set_ne (Ne.symm n2)];exact hb' X
     have s3:∀ X Y Z τ,((σ.set m X).set t Y ++ τ).set id Z=((σ.set m X).set t Y).set id Z ++ τ:=fun X Y Z τ=>zbZ (hb2 X Y)
     have g5:∀ X Y τ,((σ.set m X).set t Y ++ τ)[id]? = some (.box [.own t (zpL g),.map m]):=fun X Y τ=>zd (hb2 X Y)
     have L1:∀ X:zg, σ.length=(σ.set m X).length:=fun X=>by simp
     have L2:∀ X Y:zg, σ.length=((σ.set m X).set t Y).length:=fun X Y=>by simp
     have L3:∀ X Y Z:zg, σ.length=(((σ.set m X).set t Y).set id Z).length:=fun X Y Z=>by simp
     have e1:∀ X τ n,(σ.set m X ++ τ)[σ.length+n]? = τ[n]?:=fun X τ n=>by rw [L1 X];exact zx ..
     have e2:∀ X Y Z τ n,(((σ.set m X).set t Y).set id Z ++ τ)[σ.length+n]? = τ[n]?:=fun X Y Z τ n=>by rw [L3 X Y Z];exact zx ..
     have e3:∀ X Y Z τ W,(((σ.set m X).set t Y).set id Z ++ τ).set σ.length W=((σ.set m X).set t Y).set id Z ++ τ.set 0 W:=fun X Y Z τ W=>by rw [L3 X Y Z];exact zJ ..
     have e4:∀ X Y Z τ,(((σ.set m X).set t Y).set id Z ++ τ)[σ.length]? = τ[0]?:=fun X Y Z τ=>by rw [L3 X Y Z];exact zw ..
     refine gq4 (zf h1 (zf h2 (zf h3 (zf hb (zf hm (zf hf (zf s1 (zf g3 (zf g4 (zf s2 (zf s3 (zf g5 (zf e1 (zf e2 (zf e3 (zf e4 hlen)))))))))))))))) ?_
     have e:putLed σ id m t (g++[⟨k,d⟩])=(((σ.set m (zg.map (ztQ g++[(AV.agg [AV.d (D.int IntKind.i64 k),AV.d (D.int IntKind.i64 d)],AV.d (D.bool true))]))).set t (zg.tok 2 (g.length+1))).set id (zg.box [AV.own t (zpL g++[[D.int IntKind.i64 k,D.int IntKind.i64 d]]),AV.map m])):=by
      rw [ledM_add g ⟨k,d⟩]
      simp [putLed,zpL,zhI]
     rw [← e]
     exact zef (putLed_len ..) (by simp [zeH,dmT,dm,dm1,zcH,zbS,zeP]) (hG.lows hl _) hK
   ·have he:zei k d=1:=by rw [zei,if_neg hk,if_pos (by simpa using h3)]
    have:=bad (by rw [he];decide)
    rw [he] at this
    refine gq2 (zf h1 (zf h2 h3)) ?_
    refine zT hl ?_
    exact this
  ·have he:zei k d=20:=by rw [zei,if_pos (by simp at h2;omega)]
   have:=bad (by rw [he];decide)
   rw [he] at this
   refine gq2 (zf h1 h2) ?_
   refine zT hl ?_
   exact this
 ·have he:zei k d=20:=by rw [zei,if_pos (by simp at h1;omega)]
  have:=bad (by rw [he];decide)
  rw [he] at this
  refine gq2 h1 ?_
  refine zT hl ?_
  exact this
theorem gq5 {P Q:Prop} (h:Q) (e:Hd Q->P:=by intro h;(repeat' first|simp -dsimp only [↓zft, ↓zaH, ↓zbG, ↓zfu, ↓zfo, ↓zfm, ↓zfp, ↓zfn, ↓zbL, ↓zbH, ↓zbM, ↓zbI, ↓zfq, ↓zbF, ↓zbN, ↓zbJ, ↓zbO, ↓zbK, ↓zfl, ↓zfr, ↓zbE, ↓zbP, ↓zfd, ↓zfc, ↓zfk,iN,bT,bF,eN, ↓zcQ, ↓unC, ↓zY, ↓zK, ↓zL, ↓zN, ↓zae, ↓zax, ↓zcK, ↓zaq, ↓zbh, ↓zR, ↓zp, ↓zm, ↓zbV, ↓zh, ↓zak, ↓zH, ↓zaR, ↓zaY, ↓ze, ↓zD, ↓zu, ↓zB, ↓zar, ↓zdk, ↓zdz, ↓zas, ↓zaD, ↓zaV, ↓zbf, ↓zbm, ↓zA, ↓zan, ↓zM, ↓zF, ↓zad,zdE,zbu,zbo,unA,zdC,bnd,zej,zag,zS,zeh,dm,dm1,zC,zah,zeF,zeE,zQ,Q0,Q1,Q2,Q3,Q4,Q5,zV,zx,zw,zO,zJ,Q6,Q7,Q8,Q9,Q10,Q11,Q12,Q13,Q14,Nat.reduceAdd,Q15,Int.reduceToNat,Q16,Q17,Q18,Q19,Q20,reduceIte,Q21,Q22,zG,rep,zZ,zeQ,toD,zal,Q23,Q24,Q25,Q26,Q27,Q28,Nat.reduceLeDiff,Q29,Nat.reduceSub,Q30,Q31,Q32,sc,Q33,Q34,Q35,Q36,Q37,Q26,Q38,Q39,ziR,ziO,ziL,ziS,zcX,ziP,ziM,ziQ,ziN,zcW,zcY,ziU,ziV,Bool.not_true,Bool.not_false,List.length_map,Bool.and_false,Bool.and_self,Bool.false_and,Bool.not_false,Bool.not_true,Bool.true_and,Int.toNat_natCast,Int.toNat_zero,List.drop_zero,List.length_map,List.length_nil,List.nil_append,List.take_length,Nat.sub_zero,Nat.zero_add,Option.isSome_none,Option.isSome_some,Option.map_none,Option.map_some,zaL,beq_self_eq_true,bne_self_eq_false]|with_reducible refine ziX ?_|fail);exact h.go):P:=e ⟨h⟩
theorem c_From {σ:List zg} {l:List (List UInt8)} (hn:l.Nodup) (hl0:l.length<=1048576) (hb:∀ b∈l,b.length<=1073741824) {K:KT}
  (hK:K (.tup [.box (σ.length+1) 0,.d (.int .i64 0)]) (σ++tabO σ.length l)):zr Tryz.prog zlX [.d (.slice (zgK l))] σ K:=by
 refine zce zqY.is rfl (fun s=>List.range' σ.length 3) fun hl _=>zqY.goes ?_
 have hlen:(zgK l).length=l.length:=List.length_map ..
 have hd:decide ((l.length:Int) > 1048576)=false:=by simp;omega
 simp only [zrk,iN,bT,bF,eN]
 refine gq2 (zf hlen hd) ?_
 refine zvf ?_
 refine gq1 ?_
 refine zt l.length (fun k vs s=>vs = [.d (.int .i64 k)]/\s = σ++tabO σ.length (l.take k)) ⟨rfl,rfl⟩ ?_
 rintro k vs s hk ⟨rfl,rfl⟩
 by_cases hlt:k<l.length
 ·have hd:decide ((k:Int)<(l.length:Int))=true:=by simp;omega
  have hx:l[k]? = some l[k]:=by simp [hlt]
  have hgx:=zP (f:=fun b => [D.slice (bcs b)]) hx
  have hxb:=hb _ (List.getElem_mem hlt)
  have hnot:l[k] ∉ l.take k:=fun hm=>by
   obtain ⟨i,hi,he⟩:=List.mem_take_iff_getElem.1 hm
   have:=(List.getElem_inj hn).1 he
   omega
  obtain ⟨x,hxe⟩:∃ x,l[k]=x:=⟨_,rfl⟩
  rw [hxe] at hx hgx hxb hnot
  have hno:=zuE hnot
  have hT:zdo (σ++tabO σ.length (l.take k)) (σ.length+1) σ.length (σ.length+2) (l.take k):=by simpa using tabAt_new σ (l.take k) []
  have hP:∀ l',putTab (σ++tabO σ.length (l.take k)) (σ.length+1) σ.length (σ.length+2) l' = σ++tabO σ.length l':=fun l'=>by simpa using putTab_new σ (l.take k) l' []
  refine gq2 (zf hlen (zf hd hgx)) ?_
  refine zov hT ?_
  rw [hno]
  refine gq5 ?_
  refine c_tSum hT hxb (by rw [List.length_take];omega) ?_
  rw [hP]
  have e:zeJ (l.take k) x=l.take (k+1):=by
   have h1:(l.take k).length=k:=by rw [List.length_take];omega
   rw [zeJ,hno]
   simp only [h1]
   rw [if_neg (by omega),List.take_add_one,hx];rfl
  rw [e]
  have hw:IntKind.i64.wrap ((k:Int)+1)=((k+1:Nat):Int):=by rw [zab (by omega) (by omega)];rfl
  refine gq2 hw ?_
  exact zaB.next hlt ⟨rfl,rfl⟩
 ·have hd:decide ((k:Int)<(l.length:Int))=false:=by simp;omega
  rw [List.take_of_length_le (by omega)]
  refine gq2 (zf hlen hd) ?_
  refine zdf (σ' := σ) (os:=tabO σ.length l) rfl rfl hl (low_tabO _ _) ?_ hK
  exact .tup _ (by simp [zeH];exact .box _ _ (by simp))
theorem zpo {σ:List zg} {id m t:Nat} {l:List (List UInt8)} (hT:zdo σ id m t l) (hn:l.Nodup) (hl0:l.length<=1048576) (hb:∀ b∈l,b.length<=1073741824) {K:KT}
  (hK:K (.box (σ.length+1) 0) (σ++tabO σ.length l)):zr Tryz.prog zbR [.box id 0] σ K:=by
 refine zce ziu.is rfl (fun s=>List.range' σ.length 3) fun hl _=>ziu.goes ?_
 have hbx:=hT.box
 simp only [ziG,iN,bT,bF,eN]
 refine gq1 ?_
 refine zwr hT ?_
 refine gq2 hbx ?_
 refine c_From hn hl0 hb ?_
 refine gq1 ?_
 exact zdf (σ' := σ) (os:=tabO σ.length l) rfl rfl hl (low_tabO _ _) (.box _ _ (by simp)) hK
def rtO (l:List (List UInt8)):zg := .box [.d (.slice (zgK l))]
def rlO (g:List zI):zg := .box [.d (.slice (zpL g))]
theorem zfB (n:Nat) (l:List (List UInt8)):zvF n (rtO l):=by
 intro c hc
 simp only [List.mem_cons,List.not_mem_nil,or_false] at hc
 subst hc;exact .d _
theorem rlO_low (n:Nat) (g:List zI):zvF n (rlO g):=by
 intro c hc
 simp only [List.mem_cons,List.not_mem_nil,or_false] at hc
 subst hc;exact .d _
theorem wki (k:Nat) (h:k<=1073741824):IntKind.i64.wrap ((k:Int)+1)=((k+1:Nat):Int):=by rw [zab (by omega) (by omega)];rfl
theorem gq6 {P Q:Prop} (h:Q) (e:Hd Q->P:=by intro h;(repeat' first|simp -dsimp only [↓zft, ↓zaH, ↓zbG, ↓zfu, ↓zfo, ↓zfm, ↓zfp, ↓zfn, ↓zbL, ↓zbH, ↓zbM, ↓zbI, ↓zfq, ↓zbF, ↓zbN, ↓zbJ, ↓zbO, ↓zbK, ↓zfl, ↓zfr, ↓zbE, ↓zbP, ↓zfd, ↓zfc, ↓zfk,iN,bT,bF,eN, ↓zcQ, ↓unC, ↓zY, ↓zK, ↓zL, ↓zN, ↓zae, ↓zax, ↓zcK, ↓zaq, ↓zbh, ↓zR, ↓zp, ↓zm, ↓zbV, ↓zh, ↓zak, ↓zH, ↓zaR, ↓zaY, ↓ze, ↓zD, ↓zu, ↓zB, ↓zar, ↓zdk, ↓zdz, ↓zas, ↓zaD, ↓zaV, ↓zbf, ↓zbm, ↓zA, ↓zan, ↓zM, ↓zF, ↓zad,zdE,zbu,zbo,unA,zdC,bnd,zej,zag,zS,zeh,dm,dm1,zC,zah,zeF,zeE,zQ,Q0,Q1,Q2,Q3,Q4,Q5,zV,zx,zw,zO,zJ,Q6,Q7,Q8,Q9,Q10,Q11,Q12,Q13,Q14,Nat.reduceAdd,Q15,Int.reduceToNat,Q16,Q17,Q18,Q19,Q20,reduceIte,Q21,Q22,zG,rep,zZ,zeQ,toD,zal,Q23,Q24,Q25,Q26,Q27,Q28,Nat.reduceLeDiff,Q29,Nat.reduceSub,Q30,Q31,Q32,sc,Q33,Q34,Q35,Q36,Q37,Q26,Q38,Q39,ziR,ziO,ziL,ziS,zcX,ziP,ziM,ziQ,ziN,zcW,zcY,ziU,ziV,Bool.not_true,Bool.not_false,List.length_map,Bool.and_false,Bool.and_self,Bool.false_and,Bool.not_false,Bool.not_true,Bool.true_and,Int.toNat_natCast,Int.toNat_zero,List.drop_zero,List.length_map,List.length_nil,List.nil_append,List.take_length,Nat.sub_zero,Nat.zero_add,Option.isSome_none,Option.isSome_some,Option.map_none,Option.map_some,zaL,beq_self_eq_true,bne_self_eq_false,zlg,zeV,zga,zaV,mgetR,zbf]|with_reducible refine ziX ?_|fail);exact h.go):P:=e ⟨h⟩
theorem c_rtSame {σ:List zg} {a b:List UInt8} {K:KT} (hK:K (.d (.bool (a==b))) σ):zr Tryz.prog zqi [.d (.slice (bcs a)),.d (.slice (bcs b))] σ K:=by
 refine zfP e_r02_Same fun hl => ?_
 simp only [zvA,iN,bT,bF,eN]
 refine gq6 ?_
 refine zT hl ?_
 exact hK
theorem c_rtLook {σ:List zg} {id:Nat} {l:List (List UInt8)} {b:List UInt8} (hT : σ[id]? = some (rtO l)) (hl0:l.length<=1048576) {K:KT}
  (hK:K (.tup [.d (.int .i64 (zfN (zcv l b))),.d (.bool (zcv l b).isSome)]) σ):zr Tryz.prog zhg [.box id 0,.d (.slice (bcs b))] σ K:=by
 refine zfP zrw fun hl => ?_
 have hlen:(zgK l).length=l.length:=List.length_map ..
 have hb : σ[id]? = some (.box [.d (.slice (zgK l))]):=hT
 simp only [zlq,iN,bT,bF,eN]
 refine zt l.length (fun k vs s=>vs = [.d (.int .i64 k)]/\s = σ/\zcv (l.take k) b=none) ⟨rfl,rfl,rfl⟩ ?_
 rintro k vs s hk ⟨rfl,rfl,hno⟩
 by_cases hlt:k<l.length
 ·have hd:decide ((k:Int)<(l.length:Int))=true:=by simp;omega
  have hx:l[k]? = some l[k]:=by simp [hlt]
  have hgx:=zP (f:=fun b => [D.slice (bcs b)]) hx
  obtain ⟨x,hxe⟩:∃ x,l[k]=x:=⟨_,rfl⟩
  rw [hxe] at hx hgx
  refine gq2 (zf hlen (zf hd (zf hb hgx))) ?_
  refine c_rtSame ?_
  cases he:(x==b)
  ·refine gq2 (wki k (by omega)) ?_
   exact zaB.next hlt ⟨rfl,rfl,look_next hx hno he⟩
  ·rw [look_hit hx hno he] at hK
   refine gq2 (wki k (by omega)) ?_
   refine zT hl ?_
   exact hK
 ·have hd:decide ((k:Int)<(l.length:Int))=false:=by simp;omega
  rw [List.take_of_length_le (by omega)] at hno
  rw [hno] at hK
  refine gq2 (zf hlen (zf hd hb)) ?_
  refine zT hl ?_
  exact hK
theorem gq7 {P Q:Prop} (h:Q) (e:Hd Q->P:=by intro h;(repeat' first|simp -dsimp only [↓zft, ↓zaH, ↓zbG, ↓zfu, ↓zfo, ↓zfm, ↓zfp, ↓zfn, ↓zbL, ↓zbH, ↓zbM, ↓zbI, ↓zfq, ↓zbF, ↓zbN, ↓zbJ, ↓zbO, ↓zbK, ↓zfl, ↓zfr, ↓zbE, ↓zbP, ↓zfd, ↓zfc, ↓zfk,iN,bT,bF,eN, ↓zcQ, ↓unC, ↓zY, ↓zK, ↓zL, ↓zN, ↓zae, ↓zax, ↓zcK, ↓zaq, ↓zbh, ↓zR, ↓zp, ↓zm, ↓zbV, ↓zh, ↓zak, ↓zH, ↓zaR, ↓zaY, ↓ze, ↓zD, ↓zu, ↓zB, ↓zar, ↓zdk, ↓zdz, ↓zas, ↓zaD, ↓zaV, ↓zbf, ↓zbm, ↓zA, ↓zan, ↓zM, ↓zF, ↓zad,zdE,zbu,zbo,unA,zdC,bnd,zej,zag,zS,zeh,dm,dm1,zC,zah,zeF,zeE,zQ,Q0,Q1,Q2,Q3,Q4,Q5,zV,zx,zw,zO,zJ,Q6,Q7,Q8,Q9,Q10,Q11,Q12,Q13,Q14,Nat.reduceAdd,Q15,Int.reduceToNat,Q16,Q17,Q18,Q19,Q20,reduceIte,Q21,Q22,zG,rep,zZ,zeQ,toD,zal,Q23,Q24,Q25,Q26,Q27,Q28,Nat.reduceLeDiff,Q29,Nat.reduceSub,Q30,Q31,Q32,sc,Q33,Q34,Q35,Q36,Q37,Q26,Q38,Q39,ziR,ziO,ziL,ziS,zcX,ziP,ziM,ziQ,ziN,zcW,zcY,ziU,ziV,Bool.not_true,Bool.not_false,List.length_map,Bool.and_false,Bool.and_self,Bool.false_and,Bool.not_false,Bool.not_true,Bool.true_and,Int.toNat_natCast,Int.toNat_zero,List.drop_zero,List.length_map,List.length_nil,List.nil_append,List.take_length,Nat.sub_zero,Nat.zero_add,Option.isSome_none,Option.isSome_some,Option.map_none,Option.map_some,zaL,beq_self_eq_true,bne_self_eq_false,zcr,zes,zhp,zdX,zfN,opA,znQ,zhI,zch]|with_reducible refine ziX ?_|fail);exact h.go):P:=e ⟨h⟩
theorem gq8 {A P Q:Prop} (a:A) (h:Q) (e:A->Hd Q->P:=by intro a h;(repeat' first|simp -dsimp only [↓zft, ↓zaH, ↓zbG, ↓zfu, ↓zfo, ↓zfm, ↓zfp, ↓zfn, ↓zbL, ↓zbH, ↓zbM, ↓zbI, ↓zfq, ↓zbF, ↓zbN, ↓zbJ, ↓zbO, ↓zbK, ↓zfl, ↓zfr, ↓zbE, ↓zbP, ↓zfd, ↓zfc, ↓zfk,iN,bT,bF,eN, ↓zcQ, ↓unC, ↓zY, ↓zK, ↓zL, ↓zN, ↓zae, ↓zax, ↓zcK, ↓zaq, ↓zbh, ↓zR, ↓zp, ↓zm, ↓zbV, ↓zh, ↓zak, ↓zH, ↓zaR, ↓zaY, ↓ze, ↓zD, ↓zu, ↓zB, ↓zar, ↓zdk, ↓zdz, ↓zas, ↓zaD, ↓zaV, ↓zbf, ↓zbm, ↓zA, ↓zan, ↓zM, ↓zF, ↓zad,zdE,zbu,zbo,unA,zdC,bnd,zej,zag,zS,zeh,dm,dm1,zC,zah,zeF,zeE,zQ,Q0,Q1,Q2,Q3,Q4,Q5,zV,zx,zw,zO,zJ,Q6,Q7,Q8,Q9,Q10,Q11,Q12,Q13,Q14,Nat.reduceAdd,Q15,Int.reduceToNat,Q16,Q17,Q18,Q19,Q20,reduceIte,Q21,Q22,zG,rep,zZ,zeQ,toD,zal,Q23,Q24,Q25,Q26,Q27,Q28,Nat.reduceLeDiff,Q29,Nat.reduceSub,Q30,Q31,Q32,sc,Q33,Q34,Q35,Q36,Q37,Q26,Q38,Q39,ziR,ziO,ziL,ziS,zcX,ziP,ziM,ziQ,ziN,zcW,zcY,ziU,ziV,Bool.not_true,Bool.not_false,List.length_map,Bool.and_false,Bool.and_self,Bool.false_and,Bool.not_false,Bool.not_true,Bool.true_and,Int.toNat_natCast,Int.toNat_zero,List.drop_zero,List.length_map,List.length_nil,List.nil_append,List.take_length,Nat.sub_zero,Nat.zero_add,Option.isSome_none,Option.isSome_some,Option.map_none,Option.map_some,zaL,beq_self_eq_true,bne_self_eq_false,zcr,zes,zhp,zdX,zfN,opA,znQ,zhI,zch,a]|with_reducible refine ziX ?_|fail);exact h.go):P:=e a ⟨h⟩
theorem zlc {σ:List zg} {id:Nat} {l:List (List UInt8)} {b:List UInt8} (hT : σ[id]? = some (rtO l)) (hbl:b.length<=1073741824) (hl0:l.length<=1048576) {K:KT}
  (hK:K (.d (.int .i64 (zdy l b))) (σ.set id (rtO (zeJ l b)))):zr Tryz.prog zbB [.box id 0,.d (.slice (bcs b))] σ K:=by
 refine acall_ofW zmf.is rfl fun hl _=>zmf.goes ?_
 have hlen:(zgK l).length=l.length:=List.length_map ..
 have hb:∀ τ,(σ ++ τ)[id]? = some (.box [.d (.slice (zgK l))]):=fun τ=>zd hT
 have hb0 : σ[id]? = some (.box [.d (.slice (zgK l))]):=hT
 have hlt:=zy hT
 simp only [zmt,iN,bT,bF,eN]
 refine gq1 ?_
 refine c_rtLook hT hl0 ?_
 cases ho:zcv l b with
 | some k=>
  simp only [zdy,zeJ,ho] at hK
  rw [zbl hT] at hK
  refine gq7 ?_
  refine zmV ?_
  refine zT hl ?_
  exact hK
 | none=>
  simp only [zdy,zeJ,ho] at hK
  by_cases hfull:l.length≥1048576
  ·rw [if_pos hfull,if_pos hfull,zbl hT] at hK
   have hd:decide ((l.length:Int)≥1048576)=true:=by simp;omega
   refine gq8 (zf hb0 (zf hlen hd)) ?_
   refine zmV ?_
   refine zT hl ?_
   exact hK
  ·rw [if_neg hfull,if_neg hfull] at hK
   have hd:decide ((l.length:Int)≥1048576)=false:=by simp;omega
   have s1:∀ X τ,(σ ++ τ).set id X = σ.set id X ++ τ:=fun X τ=>zbZ hT
   have g1:∀ X τ,(σ.set id X ++ τ)[id]? = some X:=fun X τ=>zd (zbr hT)
   have bl:(bcs b).length=b.length:=zaL b
   have b1:∀ e∈bcs b,e.length=1:=zgd
   have t1:∀ e∈zgK l,e.length=1:=zjy (f:=fun b => [D.slice (bcs b)]) (fun _=>rfl) l
   refine gq8 (zf hb (zf hb0 (zf hlen (zf hd (zf s1 (zf g1 bl)))))) ?_
   have e:zgK l++[[D.slice (bcs b)]]=zgK (l++[b]):=by simp [zgK]
   rw [e]
   exact zuU hT (by simp [zeH,dmT,dm,dm1,zcH]) hl hK
theorem c_rgSigned {σ:List zg} {id:Nat} {g:List zI} {s:zI} (hG : σ[id]? = some (rlO g)) (hg0:g.length<=1073741824) {K:KT} (hK:K (.d (.bool (decide (s∈g)))) σ) :
  zr Tryz.prog zfE [.box id 0,.agg [.d (.int .i64 s.key),.d (.int .i64 s.dig)]] σ K:=by
 refine zfP zoj fun hl => ?_
 have hlen:(zpL g).length=g.length:=List.length_map ..
 have hb:∀ τ,(σ ++ τ)[id]? = some (.box [.d (.slice (zpL g))]):=fun τ=>zd hG
 simp only [ziB,iN,bT,bF,eN]
 refine gq1 ?_
 refine zt g.length (fun k vs q=>vs = [.d (.int .i64 k)]/\q = σ++[.box [.d (.int .i64 s.key),.d (.int .i64 s.dig)]]/\s ∉ g.take k) ⟨rfl,rfl,by simp⟩ ?_
 rintro k vs q hk ⟨rfl,rfl,hno⟩
 by_cases hlt:k<g.length
 ·have hd:decide ((k:Int)<(g.length:Int))=true:=by simp;omega
  have hx:g[k]? = some g[k]:=by simp [hlt]
  have hgx:=zP (f:=zhI) hx
  obtain ⟨x,hxe⟩:∃ x,g[k]=x:=⟨_,rfl⟩
  rw [hxe] at hx hgx
  by_cases he:x=s
  ·subst he
   rw [decide_eq_true (List.mem_of_getElem? hx)] at hK
   refine gq8 (zf hlen (zf hd (zf hb hgx))) ?_
   refine zT hl ?_
   exact hK
  ·have hn2:s ∉ g.take (k+1):=by
    rw [List.take_add_one,hx];simp
    exact ⟨hno,fun h=>he h.symm⟩
   have e:x=s↔x.key=s.key/\x.dig=s.dig:=by cases s;cases x;simp
   cases h1:(x.key==s.key)
   ·refine gq8 (zf hlen (zf hd (zf hb (zf hgx (zf h1 (wki k (by omega))))))) ?_
    exact zaB.next hlt ⟨rfl,rfl,hn2⟩
   ·have h2:(x.dig==s.dig)=false:=by
     have:¬ x.dig=s.dig:=fun h=>he (e.2 ⟨by simpa using h1,h⟩)
     simpa using this
    refine gq8 (zf hlen (zf hd (zf hb (zf hgx (zf h1 (zf h2 (wki k (by omega)))))))) ?_
    exact zaB.next hlt ⟨rfl,rfl,hn2⟩
 ·have hd:decide ((k:Int)<(g.length:Int))=false:=by simp;omega
  rw [List.take_of_length_le (by omega)] at hno
  rw [decide_eq_false hno] at hK
  refine gq2 (zf hlen (zf hd hb)) ?_
  refine zT hl ?_
  exact hK
theorem c_rgSign {σ:List zg} {id:Nat} {g:List zI} {k d:Int} (hG : σ[id]? = some (rlO g)) (hgl:g.length<=1073741824) {K:KT}
  (hK:K (.tup [zvK (signR k d),.d (.int .i64 (zei k d))]) (σ.set id (rlO (zfz g k d)))):zr Tryz.prog zex [.box id 0,.d (.int .i64 k),.d (.int .i64 d)] σ K:=by
 refine acall_ofW zkd.is rfl fun hl _=>zkd.goes ?_
 have hb:∀ τ,(σ ++ τ)[id]? = some (.box [.d (.slice (zpL g))]):=fun τ=>zd hG
 have hlen:(zpL g).length=g.length:=List.length_map ..
 have bad:zei k d≠0->K (.tup [.agg [.d (.int .i64 0),.d (.int .i64 0)],.d (.int .i64 (zei k d))]) σ:=fun h=>by
  rw [signR,zfz,if_neg h,if_neg h,zbl hG] at hK
  exact hK
 simp only [zkq,iN,bT,bF,eN]
 refine gq1 ?_
 cases h1:decide (k<0)
 ·cases h2:decide (k≥21)
  ·have hk:¬ (k<0∨k≥21):=by simp at h1 h2;omega
   cases h3:decide (d<1)
   ·have he:zei k d=0:=by rw [zei,if_neg hk,if_neg (by simpa using h3)]
    rw [he,signR,zfz,if_pos he,if_pos he] at hK
    refine gq2 (zf h1 (zf h2 h3)) ?_
    refine c_rgSigned (s:=⟨k,d⟩) (zd hG) hgl ?_
    by_cases hs:(⟨k,d⟩:zI)∈g
    ·rw [decide_eq_true hs]
     rw [zlA,if_pos hs,zbl hG] at hK
     refine gq2 hb ?_
     refine zmV ?_
     refine zT hl ?_
     exact hK
    ·rw [decide_eq_false hs]
     rw [zlA,if_neg hs] at hK
     have s1:∀ X τ,(σ ++ τ).set id X = σ.set id X ++ τ:=fun X τ=>zbZ hG
     have L1:∀ X:zg, σ.length=(σ.set id X).length:=fun X=>by simp
     have e1:∀ X τ n,(σ.set id X ++ τ)[σ.length+n]? = τ[n]?:=fun X τ n=>by rw [L1 X];exact zx ..
     have e3:∀ X τ W,(σ.set id X ++ τ).set σ.length W = σ.set id X ++ τ.set 0 W:=fun X τ W=>by rw [L1 X];exact zJ ..
     have e4:∀ X τ,(σ.set id X ++ τ)[σ.length]? = τ[0]?:=fun X τ=>by rw [L1 X];exact zw ..
     refine gq2 (zf hb (zf hlen (zf s1 (zf e1 (zf e3 e4))))) ?_
     have e:zpL g++[[D.int .i64 k,D.int .i64 d]]=zpL (g++[⟨k,d⟩]):=by simp [zpL,zaW,zhI]
     refine ⟨zjy (f:=zhI) (fun _=>rfl) g,by simp,by omega,by simp,by omega,?_⟩
     rw [e]
     exact zuU hG (by simp [zeH,dmT,dm,dm1,zcH,zbS,zeP]) hl hK
   ·have he:zei k d=1:=by rw [zei,if_neg hk,if_pos (by simpa using h3)]
    have:=bad (by rw [he];decide)
    rw [he] at this
    refine gq2 (zf h1 (zf h2 h3)) ?_
    refine zmV ?_
    refine zT hl ?_
    exact this
  ·have he:zei k d=20:=by rw [zei,if_pos (by simp at h2;omega)]
   have:=bad (by rw [he];decide)
   rw [he] at this
   refine gq2 (zf h1 h2) ?_
   refine zmV ?_
   refine zT hl ?_
   exact this
 ·have he:zei k d=20:=by rw [zei,if_pos (by simp at h1;omega)]
  have:=bad (by rw [he];decide)
  rw [he] at this
  refine gq2 h1 ?_
  refine zmV ?_
  refine zT hl ?_
  exact this
end Go.Proofs.YtfgbofkdhfjegaaGreat
