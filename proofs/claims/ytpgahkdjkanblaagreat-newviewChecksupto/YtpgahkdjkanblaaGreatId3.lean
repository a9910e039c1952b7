/- Contracts: a ledger signs; a table's clone; whether both were made. -/
import Derived.Test.YtpgahkdjkanblaaGreatId2
set_option linter.all false
set_option maxRecDepth 100000
namespace Go.Proofs.YtpgahkdjkanblaaGreat
open Go.AW
def znT (s:zy):AV := .agg [.d (.int .i64 s.key),.d (.int .i64 s.dig)]
def signR (k d:Int):zy:=if zjd k d=0 then ⟨k,d⟩ else ⟨0, 0⟩
def zie (g:List zy) (k d:Int):List zy:=if zjd k d=0 then zzU g ⟨k,d⟩ else g
theorem c_gSign {σ:List zd} {id m t:Nat} {g:List zy} {k d:Int} (hG:zdL σ id m t g) (hgl:g.length<=1073741824) {K:KT}
  (hK:K (.tup [znT (signR k d),.d (.int .i64 (zjd k d))]) (putLed σ id m t (zie g k d))):zj Tryz.prog zdQ [.box id 0,.d (.int .i64 k),.d (.int .i64 d)] σ K:=by
 refine zyo zrl fun hl => ?_
 have hb:∀ τ,(σ ++ τ)[id]? = some (.box [.own t (zwg g),.map m]):=fun τ=>zn hG.box
 have hm:∀ τ,(σ ++ τ)[m]? = some (.map (ledM g)):=fun τ=>zn hG.map
 obtain ⟨n1,n2,n3⟩:=hG.ne
 have hlen:(zwg g).length=g.length:=List.length_map ..
 have bad:zjd k d≠0->K (.tup [.agg [.d (.int .i64 0),.d (.int .i64 0)],.d (.int .i64 (zjd k d))]) σ:=fun h=>by
  rw [signR,zie,if_neg h,if_neg h,hG.self] at hK
  exact hK
 simp only [zkV,iN,bT,bF,eN]
 refine zxV ?_
 refine zAP (hG.app _) ?_
 cases h1:decide (k<0)
 ·cases h2:decide (k≥21)
  ·have hk:¬ (k<0∨k≥21):=by simp at h1 h2;omega
   cases h3:decide (d<1)
   ·have he:zjd k d=0:=by rw [zjd,if_neg hk,if_neg (by simpa using h3)]
    rw [he,signR,zie,if_pos he,if_pos he] at hK
    by_cases hs:(⟨k,d⟩:zy)∈g
    ·obtain ⟨j,hf⟩:=zrV hs
     simp only at hf
     rw [zzU,if_pos hs,hG.self] at hK
     refine gq49 (zcg h1 (zcg h2 (zcg h3 (zcg hb (zcg hm hf))))) ?_
     refine zt hl ?_
     exact hK
    ·have hf:=zur hs
     simp only at hf
     rw [zzU,if_neg hs] at hK
     have hmm : σ[m]? = some (.map (ledM g)):=hG.map
     have s1:∀ X τ,(σ ++ τ).set m X = σ.set m X ++ τ:=fun X τ=>zbB hG.map
     have hb':∀ X,(σ.set m X)[id]? = some (.box [.own t (zwg g),.map m]):=fun X=>by rw [List.getElem?_set_ne (Ne.symm n1)];exact hG.box
     have ht':∀ X,(σ.set m X)[t]? = some (.tok 2 g.length):=fun X=>by rw [List.getElem?_set_ne n3];exact hG.tok
     have g3:∀ X τ,(σ.set m X ++ τ)[id]? = some (.box [.own t (zwg g),.map m]):=fun X τ=>zn (hb' X)
     have g4:∀ X τ,(σ.set m X ++ τ)[t]? = some (.tok 2 g.length):=fun X τ=>zn (ht' X)
     have s2:∀ X Y τ,(σ.set m X ++ τ).set t Y=(σ.set m X).set t Y ++ τ:=fun X Y τ=>zbB (ht' X)
     have hb2:∀ X Y,((σ.set m X).set t Y)[id]? = some (.box [.own t (zwg g),.map m]):=fun X Y=>by rw [List.getElem?_set_ne (Ne.symm n2)];exact hb' X
     have s3:∀ X Y Z τ,((σ.set m X).set t Y ++ τ).set id Z=((σ.set m X).set t Y).set id Z ++ τ:=fun X Y Z τ=>zbB (hb2 X Y)
     have g5:∀ X Y τ,((σ.set m X).set t Y ++ τ)[id]? = some (.box [.own t (zwg g),.map m]):=fun X Y τ=>zn (hb2 X Y)
     have L1:∀ X:zd, σ.length=(σ.set m X).length:=fun X=>by simp
     have L2:∀ X Y:zd, σ.length=((σ.set m X).set t Y).length:=fun X Y=>by simp
     have L3:∀ X Y Z:zd, σ.length=(((σ.set m X).set t Y).set id Z).length:=fun X Y Z=>by simp
     have e1:∀ X τ n,(σ.set m X ++ τ)[σ.length+n]? = τ[n]?:=fun X τ n=>by rw [L1 X];exact zB ..
     have e2:∀ X Y Z τ n,(((σ.set m X).set t Y).set id Z ++ τ)[σ.length+n]? = τ[n]?:=fun X Y Z τ n=>by rw [L3 X Y Z];exact zB ..
     have e3:∀ X Y Z τ W,(((σ.set m X).set t Y).set id Z ++ τ).set σ.length W=((σ.set m X).set t Y).set id Z ++ τ.set 0 W:=fun X Y Z τ W=>by rw [L3 X Y Z];exact zP ..
     have e4:∀ X Y Z τ,(((σ.set m X).set t Y).set id Z ++ τ)[σ.length]? = τ[0]?:=fun X Y Z τ=>by rw [L3 X Y Z];exact zD ..
     refine gq49 (zcg h1 (zcg h2 (zcg h3 (zcg hb (zcg hm (zcg hf (zcg s1 (zcg g3 (zcg g4 (zcg s2 (zcg s3 (zcg g5 (zcg e1 (zcg e2 (zcg e3 (zcg e4 hlen)))))))))))))))) ?_
     have e:putLed σ id m t (g++[⟨k,d⟩])=(((σ.set m (zd.map (ledM g++[(AV.agg [AV.d (D.int IntKind.i64 k),AV.d (D.int IntKind.i64 d)],AV.d (D.bool true))]))).set t (zd.tok 2 (g.length+1))).set id (zd.box [AV.own t (zwg g++[[D.int IntKind.i64 k,D.int IntKind.i64 d]]),AV.map m])):=by
      rw [ledM_add g ⟨k,d⟩]
      simp [putLed,zwg,zfi]
     rw [← e]
     exact zcx (zyE ..) (by simp [zfF,dmT,dm,dm1,zcq,zaU,zdw]) (hG.lows hl _) hK
   ·have he:zjd k d=1:=by rw [zjd,if_neg hk,if_pos (by simpa using h3)]
    have:=bad (by rw [he];decide)
    rw [he] at this
    refine zjv (zcg h1 (zcg h2 h3)) ?_
    refine zt hl ?_
    exact this
  ·have he:zjd k d=20:=by rw [zjd,if_pos (by simp at h2;omega)]
   have:=bad (by rw [he];decide)
   rw [he] at this
   refine zjv (zcg h1 h2) ?_
   refine zt hl ?_
   exact this
 ·have he:zjd k d=20:=by rw [zjd,if_pos (by simp at h1;omega)]
  have:=bad (by rw [he];decide)
  rw [he] at this
  refine zjv h1 ?_
  refine zt hl ?_
  exact this
theorem gq50 {P Q:Prop} (h:Q) (e:Hd Q->P:=by intro h;(repeat' first|simp -dsimp only [↓zhL, ↓zbi, ↓zcI, ↓zhM, ↓zhF, ↓zhD, ↓zhG, ↓zhE, ↓zcN, ↓zcJ, ↓zcO, ↓zcK, ↓zhH, ↓zcH, ↓zcP, ↓zcL, ↓zcQ, ↓zcM, ↓zhC, ↓zhK, ↓zcG, ↓zcR, ↓zhz, ↓zhy, ↓zhB,iN,bT,bF,eN, ↓zdT, ↓unC, ↓zam, ↓zY, ↓zZ, ↓zae, ↓zax, ↓zag, ↓zeQ, ↓zap, ↓zaQ, ↓zW, ↓zg, ↓zh, ↓zcW, ↓zb, ↓zaC, ↓zG, ↓zbv, ↓zbE, ↓zc, ↓zE, ↓zq, ↓zK, ↓zao, ↓zft, ↓zfB, ↓zaL, ↓zaX, ↓zbm, ↓zbC, ↓zcj, ↓zI, ↓zaH, ↓zaa, ↓zM, ↓zaw,zfE,zcw,zcp,unA,zeT,bnd,zgq,zaA,zL,zga,dm,dm1,zw,zad,zgP,zgO,zH,Q0,Q1,Q2,Q3,Q4,Q5,zay,zB,zD,zT,zP,Q6,Q7,Q8,Q9,Q10,Q11,Q12,Q13,Q14,Nat.reduceAdd,Q15,Int.reduceToNat,Q16,Q17,Q18,Q19,Q20,reduceIte,Q21,Q22,zU,rep,zar,zgW,toD,zaz,Q23,Q24,Q25,Q26,Q27,Q28,Nat.reduceLeDiff,Q29,Nat.reduceSub,Q30,Q31,Q32,sc,Q33,Q34,Q35,Q36,Q37,Q26,Q38,Q39,zwb,zvY,zvV,zwc,zks,zvZ,zvW,zwa,zvX,zkr,zkt,zwl,zwm,Bool.not_true,Bool.not_false,List.length_map,Bool.and_false,Bool.and_self,Bool.false_and,Bool.not_false,Bool.not_true,Bool.true_and,Int.toNat_natCast,Int.toNat_zero,List.drop_zero,List.length_map,List.length_nil,List.nil_append,List.take_length,Nat.sub_zero,Nat.zero_add,Option.isSome_none,Option.isSome_some,Option.map_none,Option.map_some,zX,beq_self_eq_true,bne_self_eq_false]|with_reducible refine zxk ?_|fail);exact h.go):P:=e ⟨h⟩
theorem c_From {σ:List zd} {l:List (List UInt8)} (hn:l.Nodup) (hl0:l.length<=1048576) (hb:∀ b∈l,b.length<=1073741824) {K:KT}
  (hK:K (.tup [.box (σ.length+1) 0,.d (.int .i64 0)]) (σ++zvF σ.length l)):zj Tryz.prog ziK [.d (.slice (ziF l))] σ K:=by
 refine zbT zoR.is rfl (fun s=>List.range' σ.length 3) fun hl _=>zoR.goes ?_
 have hlen:(ziF l).length=l.length:=List.length_map ..
 have hd:decide ((l.length:Int) > 1048576)=false:=by simp;omega
 simp only [zpr,iN,bT,bF,eN]
 refine zjv (zcg hlen hd) ?_
 refine zzs ?_
 refine zxV ?_
 refine zl l.length (fun k vs s=>vs = [.d (.int .i64 k)]/\s = σ++zvF σ.length (l.take k)) ⟨rfl,rfl⟩ ?_
 rintro k vs s hk ⟨rfl,rfl⟩
 by_cases hlt:k<l.length
 ·have hd:decide ((k:Int)<(l.length:Int))=true:=by simp;omega
  have hx:l[k]? = some l[k]:=by simp [hlt]
  have hgx:=zF (f:=fun b => [D.slice (bcs b)]) hx
  have hxb:=hb _ (List.getElem_mem hlt)
  have hnot:l[k] ∉ l.take k:=fun hm=>by
   obtain ⟨i,hi,he⟩:=List.mem_take_iff_getElem.1 hm
   have:=(List.getElem_inj hn).1 he
   omega
  obtain ⟨x,hxe⟩:∃ x,l[k]=x:=⟨_,rfl⟩
  rw [hxe] at hx hgx hxb hnot
  have hno:=zty hnot
  have hT:zea (σ++zvF σ.length (l.take k)) (σ.length+1) σ.length (σ.length+2) (l.take k):=by simpa using tabAt_new σ (l.take k) []
  have hP:∀ l',putTab (σ++zvF σ.length (l.take k)) (σ.length+1) σ.length (σ.length+2) l' = σ++zvF σ.length l':=fun l'=>by simpa using zyD σ (l.take k) l' []
  refine zjv (zcg hlen (zcg hd hgx)) ?_
  refine ztQ hT ?_
  rw [hno]
  refine gq50 ?_
  refine c_tSum hT hxb (by rw [List.length_take];omega) ?_
  rw [hP]
  have e:zgn (l.take k) x=l.take (k+1):=by
   have h1:(l.take k).length=k:=by rw [List.length_take];omega
   rw [zgn,hno]
   simp only [h1]
   rw [if_neg (by omega),List.take_add_one,hx];rfl
  rw [e]
  have hw:IntKind.i64.wrap ((k:Int)+1)=((k+1:Nat):Int):=by rw [zab (by omega) (by omega)];rfl
  refine zjv hw ?_
  exact zan.next hlt ⟨rfl,rfl⟩
 ·have hd:decide ((k:Int)<(l.length:Int))=false:=by simp;omega
  rw [List.take_of_length_le (by omega)]
  refine zjv (zcg hlen hd) ?_
  refine zeq (σ' := σ) (os:=zvF σ.length l) rfl rfl hl (low_tabO _ _) ?_ hK
  exact .tup _ (by simp [zfF];exact .box _ _ (by simp))
theorem zsr {σ:List zd} {id m t:Nat} {l:List (List UInt8)} (hT:zea σ id m t l) (hn:l.Nodup) (hl0:l.length<=1048576) (hb:∀ b∈l,b.length<=1073741824) {K:KT}
  (hK:K (.box (σ.length+1) 0) (σ++zvF σ.length l)):zj Tryz.prog zcf [.box id 0] σ K:=by
 refine zbT zkA.is rfl (fun s=>List.range' σ.length 3) fun hl _=>zkA.goes ?_
 have hbx:=hT.box
 simp only [zkT,iN,bT,bF,eN]
 refine zxV ?_
 refine zAI hT ?_
 refine zjv hbx ?_
 refine c_From hn hl0 hb ?_
 refine zxV ?_
 exact zeq (σ' := σ) (os:=zvF σ.length l) rfl rfl hl (low_tabO _ _) (.box _ _ (by simp)) hK
theorem c_known {σ:List zd} {id m t:Nat} {l:List (List UInt8)} (hT:zea σ id m t l) (hn:l.Nodup) (hl0:l.length<=1048576) (hb:∀ b∈l,b.length<=1073741824) {K:KT}
  (hK:K (.d (.bool true)) σ):zj Tryz.prog zkf [.box id 0] σ K:=by
 refine zdZ zwy fun hl => ?_
 simp only [zpa,iN,bT,bF,eN]
 refine zxV ?_
 refine c_tLen hT ?_
 cases h:decide ((l.length:Int) > 0)
 ·refine zjv h ?_
  refine zsr hT hn hl0 hb ?_
  refine zjv h ?_
  refine zt hl ?_
  exact hK
 ·refine zjv h ?_
  refine zt hl ?_
  exact hK
def rtO (l:List (List UInt8)):zd := .box [.d (.slice (ziF l))]
def rlO (g:List zy):zd := .box [.d (.slice (zwg g))]
theorem zmF (n:Nat) (l:List (List UInt8)):zvA n (rtO l):=by
 intro c hc
 simp only [List.mem_cons,List.not_mem_nil,or_false] at hc
 subst hc;exact .d _
theorem ztc (n:Nat) (g:List zy):zvA n (rlO g):=by
 intro c hc
 simp only [List.mem_cons,List.not_mem_nil,or_false] at hc
 subst hc;exact .d _
theorem wki (k:Nat) (h:k<=1073741824):IntKind.i64.wrap ((k:Int)+1)=((k+1:Nat):Int):=by rw [zab (by omega) (by omega)];rfl
theorem gq51 {P Q:Prop} (h:Q) (e:Hd Q->P:=by intro h;(repeat' first|simp -dsimp only [↓zhL, ↓zbi, ↓zcI, ↓zhM, ↓zhF, ↓zhD, ↓zhG, ↓zhE, ↓zcN, ↓zcJ, ↓zcO, ↓zcK, ↓zhH, ↓zcH, ↓zcP, ↓zcL, ↓zcQ, ↓zcM, ↓zhC, ↓zhK, ↓zcG, ↓zcR, ↓zhz, ↓zhy, ↓zhB,iN,bT,bF,eN, ↓zdT, ↓unC, ↓zam, ↓zY, ↓zZ, ↓zae, ↓zax, ↓zag, ↓zeQ, ↓zap, ↓zaQ, ↓zW, ↓zg, ↓zh, ↓zcW, ↓zb, ↓zaC, ↓zG, ↓zbv, ↓zbE, ↓zc, ↓zE, ↓zq, ↓zK, ↓zao, ↓zft, ↓zfB, ↓zaL, ↓zaX, ↓zbm, ↓zbC, ↓zcj, ↓zI, ↓zaH, ↓zaa, ↓zM, ↓zaw,zfE,zcw,zcp,unA,zeT,bnd,zgq,zaA,zL,zga,dm,dm1,zw,zad,zgP,zgO,zH,Q0,Q1,Q2,Q3,Q4,Q5,zay,zB,zD,zT,zP,Q6,Q7,Q8,Q9,Q10,Q11,Q12,Q13,Q14,Nat.reduceAdd,Q15,Int.reduceToNat,Q16,Q17,Q18,Q19,Q20,reduceIte,Q21,Q22,zU,rep,zar,zgW,toD,zaz,Q23,Q24,Q25,Q26,Q27,Q28,Nat.reduceLeDiff,Q29,Nat.reduceSub,Q30,Q31,Q32,sc,Q33,Q34,Q35,Q36,Q37,Q26,Q38,Q39,zwb,zvY,zvV,zwc,zks,zvZ,zvW,zwa,zvX,zkr,zkt,zwl,zwm,Bool.not_true,Bool.not_false,List.length_map,Bool.and_false,Bool.and_self,Bool.false_and,Bool.not_false,Bool.not_true,Bool.true_and,Int.toNat_natCast,Int.toNat_zero,List.drop_zero,List.length_map,List.length_nil,List.nil_append,List.take_length,Nat.sub_zero,Nat.zero_add,Option.isSome_none,Option.isSome_some,Option.map_none,Option.map_some,zX,beq_self_eq_true,bne_self_eq_false,zex,zdx,zfn,zbm,zuT,zbC]|with_reducible refine zxk ?_|fail);exact h.go):P:=e ⟨h⟩
theorem c_rtSame {σ:List zd} {a b:List UInt8} {K:KT} (hK:K (.d (.bool (a==b))) σ):zj Tryz.prog ztq [.d (.slice (bcs a)),.d (.slice (bcs b))] σ K:=by
 refine zeE e_r02_Same fun hl => ?_
 simp only [zzJ,iN,bT,bF,eN]
 refine gq51 ?_
 refine zt hl ?_
 exact hK
theorem zst {σ:List zd} {id:Nat} {l:List (List UInt8)} {b:List UInt8} (hT : σ[id]? = some (rtO l)) (hl0:l.length<=1048576) {K:KT}
  (hK:K (.tup [.d (.int .i64 (zlS (zev l b))),.d (.bool (zev l b).isSome)]) σ):zj Tryz.prog zcd [.box id 0,.d (.slice (bcs b))] σ K:=by
 refine zeE znr fun hl => ?_
 have hlen:(ziF l).length=l.length:=List.length_map ..
 have hb : σ[id]? = some (.box [.d (.slice (ziF l))]):=hT
 simp only [zjp,iN,bT,bF,eN]
 refine zl l.length (fun k vs s=>vs = [.d (.int .i64 k)]/\s = σ/\zev (l.take k) b=none) ⟨rfl,rfl,rfl⟩ ?_
 rintro k vs s hk ⟨rfl,rfl,hno⟩
 by_cases hlt:k<l.length
 ·have hd:decide ((k:Int)<(l.length:Int))=true:=by simp;omega
  have hx:l[k]? = some l[k]:=by simp [hlt]
  have hgx:=zF (f:=fun b => [D.slice (bcs b)]) hx
  obtain ⟨x,hxe⟩:∃ x,l[k]=x:=⟨_,rfl⟩
  rw [hxe] at hx hgx
  refine zjv (zcg hlen (zcg hd (zcg hb hgx))) ?_
  refine c_rtSame ?_
  cases he:(x==b)
  ·refine zjv (wki k (by omega)) ?_
   exact zan.next hlt ⟨rfl,rfl,look_next hx hno he⟩
  ·rw [look_hit hx hno he] at hK
   refine zjv (wki k (by omega)) ?_
   refine zt hl ?_
   exact hK
 ·have hd:decide ((k:Int)<(l.length:Int))=false:=by simp;omega
  rw [List.take_of_length_le (by omega)] at hno
  rw [hno] at hK
  refine zjv (zcg hlen (zcg hd hb)) ?_
  refine zt hl ?_
  exact hK
theorem gq52 {P Q:Prop} (h:Q) (e:Hd Q->P:=by intro h;(repeat' first|simp -dsimp only [↓zhL, ↓zbi, ↓zcI, ↓zhM, ↓zhF, ↓zhD, ↓zhG, ↓zhE, ↓zcN, ↓zcJ, ↓zcO, ↓zcK, ↓zhH, ↓zcH, ↓zcP, ↓zcL, ↓zcQ, ↓zcM, ↓zhC, ↓zhK, ↓zcG, ↓zcR, ↓zhz, ↓zhy, ↓zhB,iN,bT,bF,eN, ↓zdT, ↓unC, ↓zam, ↓zY, ↓zZ, ↓zae, ↓zax, ↓zag, ↓zeQ, ↓zap, ↓zaQ, ↓zW, ↓zg, ↓zh, ↓zcW, ↓zb, ↓zaC, ↓zG, ↓zbv, ↓zbE, ↓zc, ↓zE, ↓zq, ↓zK, ↓zao, ↓zft, ↓zfB, ↓zaL, ↓zaX, ↓zbm, ↓zbC, ↓zcj, ↓zI, ↓zaH, ↓zaa, ↓zM, ↓zaw,zfE,zcw,zcp,unA,zeT,bnd,zgq,zaA,zL,zga,dm,dm1,zw,zad,zgP,zgO,zH,Q0,Q1,Q2,Q3,Q4,Q5,zay,zB,zD,zT,zP,Q6,Q7,Q8,Q9,Q10,Q11,Q12,Q13,Q14,Nat.reduceAdd,Q15,Int.reduceToNat,Q16,Q17,Q18,Q19,Q20,reduceIte,Q21,Q22,zU,rep,zar,zgW,toD,zaz,Q23,Q24,Q25,Q26,Q27,Q28,Nat.reduceLeDiff,Q29,Nat.reduceSub,Q30,Q31,Q32,sc,Q33,Q34,Q35,Q36,Q37,Q26,Q38,Q39,zwb,zvY,zvV,zwc,zks,zvZ,zvW,zwa,zvX,zkr,zkt,zwl,zwm,Bool.not_true,Bool.not_false,List.length_map,Bool.and_false,Bool.and_self,Bool.false_and,Bool.not_false,Bool.not_true,Bool.true_and,Int.toNat_natCast,Int.toNat_zero,List.drop_zero,List.length_map,List.length_nil,List.nil_append,List.take_length,Nat.sub_zero,Nat.zero_add,Option.isSome_none,Option.isSome_some,Option.map_none,Option.map_some,zX,beq_self_eq_true,bne_self_eq_false,zco,zat,zbh,zdR,zlS,opA,zei,zfi,zaN]|with_reducible refine zxk ?_|fail);exact h.go):P:=e ⟨h⟩
theorem gq53 {A P Q:Prop} (a:A) (h:Q) (e:A->Hd Q->P:=by intro a h;(repeat' first|simp -dsimp only [↓zhL, ↓zbi, ↓zcI, ↓zhM, ↓zhF, ↓zhD, ↓zhG, ↓zhE, ↓zcN, ↓zcJ, ↓zcO, ↓zcK, ↓zhH, ↓zcH, ↓zcP, ↓zcL, ↓zcQ, ↓zcM, ↓zhC, ↓zhK, ↓zcG, ↓zcR, ↓zhz, ↓zhy, ↓zhB,iN,bT,bF,eN, ↓zdT, ↓unC, ↓zam, ↓zY, ↓zZ, ↓zae, ↓zax, ↓zag, ↓zeQ, ↓zap, ↓zaQ, ↓zW, ↓zg, ↓zh, ↓zcW, ↓zb, ↓zaC, ↓zG, ↓zbv, ↓zbE, ↓zc, ↓zE, ↓zq, ↓zK, ↓zao, ↓zft, ↓zfB, ↓zaL, ↓zaX, ↓zbm, ↓zbC, ↓zcj, ↓zI, ↓zaH, ↓zaa, ↓zM, ↓zaw,zfE,zcw,zcp,unA,zeT,bnd,zgq,zaA,zL,zga,dm,dm1,zw,zad,zgP,zgO,zH,Q0,Q1,Q2,Q3,Q4,Q5,zay,zB,zD,zT,zP,Q6,Q7,Q8,Q9,Q10,Q11,Q12,Q13,Q14,Nat.reduceAdd,Q15,Int.reduceToNat,Q16,Q17,Q18,Q19,Q20,reduceIte,Q21,Q22,zU,rep,zar,zgW,toD,zaz,Q23,Q24,Q25,Q26,Q27,Q28,Nat.reduceLeDiff,Q29,Nat.reduceSub,Q30,Q31,Q32,sc,Q33,Q34,Q35,Q36,Q37,Q26,Q38,Q39,zwb,zvY,zvV,zwc,zks,zvZ,zvW,zwa,zvX,zkr,zkt,zwl,zwm,Bool.not_true,Bool.not_false,List.length_map,Bool.and_false,Bool.and_self,Bool.false_and,Bool.not_false,Bool.not_true,Bool.true_and,Int.toNat_natCast,Int.toNat_zero,List.drop_zero,List.length_map,List.length_nil,List.nil_append,List.take_length,Nat.sub_zero,Nat.zero_add,Option.isSome_none,Option.isSome_some,Option.map_none,Option.map_some,zX,beq_self_eq_true,bne_self_eq_false,zco,zat,zbh,zdR,zlS,opA,zei,zfi,zaN,a]|with_reducible refine zxk ?_|fail);exact h.go):P:=e a ⟨h⟩
theorem c_rtSum {σ:List zd} {id:Nat} {l:List (List UInt8)} {b:List UInt8} (hT : σ[id]? = some (rtO l)) (hbl:b.length<=1073741824) (hl0:l.length<=1048576) {K:KT}
  (hK:K (.d (.int .i64 (zon l b))) (σ.set id (rtO (zgn l b)))):zj Tryz.prog zhi [.box id 0,.d (.slice (bcs b))] σ K:=by
 refine zoZ zoK.is rfl fun hl _=>zoK.goes ?_
 have hlen:(ziF l).length=l.length:=List.length_map ..
 have hb:∀ τ,(σ ++ τ)[id]? = some (.box [.d (.slice (ziF l))]):=fun τ=>zn hT
 have hb0 : σ[id]? = some (.box [.d (.slice (ziF l))]):=hT
 have hlt:=zcY hT
 simp only [zpo,iN,bT,bF,eN]
 refine zxV ?_
 refine zst hT hl0 ?_
 cases ho:zev l b with
 | some k=>
  simp only [zon,zgn,ho] at hK
  rw [zcm hT] at hK
  refine gq52 ?_
  refine zmZ ?_
  refine zt hl ?_
  exact hK
 | none=>
  simp only [zon,zgn,ho] at hK
  by_cases hfull:l.length≥1048576
  ·rw [if_pos hfull,if_pos hfull,zcm hT] at hK
   have hd:decide ((l.length:Int)≥1048576)=true:=by simp;omega
   refine gq53 (zcg hb0 (zcg hlen hd)) ?_
   refine zmZ ?_
   refine zt hl ?_
   exact hK
  ·rw [if_neg hfull,if_neg hfull] at hK
   have hd:decide ((l.length:Int)≥1048576)=false:=by simp;omega
   have s1:∀ X τ,(σ ++ τ).set id X = σ.set id X ++ τ:=fun X τ=>zbB hT
   have g1:∀ X τ,(σ.set id X ++ τ)[id]? = some X:=fun X τ=>zn (zcl hT)
   have bl:(bcs b).length=b.length:=zX b
   have b1:∀ e∈bcs b,e.length=1:=zez
   have t1:∀ e∈ziF l,e.length=1:=zec (f:=fun b => [D.slice (bcs b)]) (fun _=>rfl) l
   refine gq53 (zcg hb (zcg hb0 (zcg hlen (zcg hd (zcg s1 (zcg g1 bl)))))) ?_
   have e:ziF l++[[D.slice (bcs b)]]=ziF (l++[b]):=by simp [ziF]
   rw [e]
   exact zma hT (by simp [zfF,dmT,dm,dm1,zcq]) hl hK
theorem ztR {σ:List zd} {id:Nat} {g:List zy} {s:zy} (hG : σ[id]? = some (rlO g)) (hg0:g.length<=1073741824) {K:KT} (hK:K (.d (.bool (decide (s∈g)))) σ) :
  zj Tryz.prog zdO [.box id 0,.agg [.d (.int .i64 s.key),.d (.int .i64 s.dig)]] σ K:=by
 refine zeE zrc fun hl => ?_
 have hlen:(zwg g).length=g.length:=List.length_map ..
 have hb:∀ τ,(σ ++ τ)[id]? = some (.box [.d (.slice (zwg g))]):=fun τ=>zn hG
 simp only [zkJ,iN,bT,bF,eN]
 refine zxV ?_
 refine zl g.length (fun k vs q=>vs = [.d (.int .i64 k)]/\q = σ++[.box [.d (.int .i64 s.key),.d (.int .i64 s.dig)]]/\s ∉ g.take k) ⟨rfl,rfl,by simp⟩ ?_
 rintro k vs q hk ⟨rfl,rfl,hno⟩
 by_cases hlt:k<g.length
 ·have hd:decide ((k:Int)<(g.length:Int))=true:=by simp;omega
  have hx:g[k]? = some g[k]:=by simp [hlt]
  have hgx:=zF (f:=zfi) hx
  obtain ⟨x,hxe⟩:∃ x,g[k]=x:=⟨_,rfl⟩
  rw [hxe] at hx hgx
  by_cases he:x=s
  ·subst he
   rw [decide_eq_true (List.mem_of_getElem? hx)] at hK
   refine gq53 (zcg hlen (zcg hd (zcg hb hgx))) ?_
   refine zt hl ?_
   exact hK
  ·have hn2:s ∉ g.take (k+1):=by
    rw [List.take_add_one,hx];simp
    exact ⟨hno,fun h=>he h.symm⟩
   have e:x=s↔x.key=s.key/\x.dig=s.dig:=by cases s;cases x;simp
   cases h1:(x.key==s.key)
   ·refine gq53 (zcg hlen (zcg hd (zcg hb (zcg hgx (zcg h1 (wki k (by omega))))))) ?_
    exact zan.next hlt ⟨rfl,rfl,hn2⟩
   ·have h2:(x.dig==s.dig)=false:=by
     have:¬ x.dig=s.dig:=fun h=>he (e.2 ⟨by simpa using h1,h⟩)
     simpa using this
    refine gq53 (zcg hlen (zcg hd (zcg hb (zcg hgx (zcg h1 (zcg h2 (wki k (by omega)))))))) ?_
    exact zan.next hlt ⟨rfl,rfl,hn2⟩
 ·have hd:decide ((k:Int)<(g.length:Int))=false:=by simp;omega
  rw [List.take_of_length_le (by omega)] at hno
  rw [decide_eq_false hno] at hK
  refine zjv (zcg hlen (zcg hd hb)) ?_
  refine zt hl ?_
  exact hK
theorem c_rgSign {σ:List zd} {id:Nat} {g:List zy} {k d:Int} (hG : σ[id]? = some (rlO g)) (hgl:g.length<=1073741824) {K:KT}
  (hK:K (.tup [znT (signR k d),.d (.int .i64 (zjd k d))]) (σ.set id (rlO (zie g k d)))):zj Tryz.prog zgf [.box id 0,.d (.int .i64 k),.d (.int .i64 d)] σ K:=by
 refine zoZ zme.is rfl fun hl _=>zme.goes ?_
 have hb:∀ τ,(σ ++ τ)[id]? = some (.box [.d (.slice (zwg g))]):=fun τ=>zn hG
 have hlen:(zwg g).length=g.length:=List.length_map ..
 have bad:zjd k d≠0->K (.tup [.agg [.d (.int .i64 0),.d (.int .i64 0)],.d (.int .i64 (zjd k d))]) σ:=fun h=>by
  rw [signR,zie,if_neg h,if_neg h,zcm hG] at hK
  exact hK
 simp only [zmx,iN,bT,bF,eN]
 refine zxV ?_
 cases h1:decide (k<0)
 ·cases h2:decide (k≥21)
  ·have hk:¬ (k<0∨k≥21):=by simp at h1 h2;omega
   cases h3:decide (d<1)
   ·have he:zjd k d=0:=by rw [zjd,if_neg hk,if_neg (by simpa using h3)]
    rw [he,signR,zie,if_pos he,if_pos he] at hK
    refine zjv (zcg h1 (zcg h2 h3)) ?_
    refine ztR (s:=⟨k,d⟩) (zn hG) hgl ?_
    by_cases hs:(⟨k,d⟩:zy)∈g
    ·rw [decide_eq_true hs]
     rw [zzU,if_pos hs,zcm hG] at hK
     refine zjv hb ?_
     refine zmZ ?_
     refine zt hl ?_
     exact hK
    ·rw [decide_eq_false hs]
     rw [zzU,if_neg hs] at hK
     have s1:∀ X τ,(σ ++ τ).set id X = σ.set id X ++ τ:=fun X τ=>zbB hG
     have L1:∀ X:zd, σ.length=(σ.set id X).length:=fun X=>by simp
     have e1:∀ X τ n,(σ.set id X ++ τ)[σ.length+n]? = τ[n]?:=fun X τ n=>by rw [L1 X];exact zB ..
     have e3:∀ X τ W,(σ.set id X ++ τ).set σ.length W = σ.set id X ++ τ.set 0 W:=fun X τ W=>by rw [L1 X];exact zP ..
     have e4:∀ X τ,(σ.set id X ++ τ)[σ.length]? = τ[0]?:=fun X τ=>by rw [L1 X];exact zD ..
     refine zjv (zcg hb (zcg hlen (zcg s1 (zcg e1 (zcg e3 e4))))) ?_
     have e:zwg g++[[D.int .i64 k,D.int .i64 d]]=zwg (g++[⟨k,d⟩]):=by simp [zwg,zO,zfi]
     refine ⟨zec (f:=zfi) (fun _=>rfl) g,by simp,by omega,by simp,by omega,?_⟩
     rw [e]
     exact zma hG (by simp [zfF,dmT,dm,dm1,zcq,zaU,zdw]) hl hK
   ·have he:zjd k d=1:=by rw [zjd,if_neg hk,if_pos (by simpa using h3)]
    have:=bad (by rw [he];decide)
    rw [he] at this
    refine zjv (zcg h1 (zcg h2 h3)) ?_
    refine zmZ ?_
    refine zt hl ?_
    exact this
  ·have he:zjd k d=20:=by rw [zjd,if_pos (by simp at h2;omega)]
   have:=bad (by rw [he];decide)
   rw [he] at this
   refine zjv (zcg h1 h2) ?_
   refine zmZ ?_
   refine zt hl ?_
   exact this
 ·have he:zjd k d=20:=by rw [zjd,if_pos (by simp at h1;omega)]
  have:=bad (by rw [he];decide)
  rw [he] at this
  refine zjv h1 ?_
  refine zmZ ?_
  refine zt hl ?_
  exact this
end Go.Proofs.YtpgahkdjkanblaaGreat
