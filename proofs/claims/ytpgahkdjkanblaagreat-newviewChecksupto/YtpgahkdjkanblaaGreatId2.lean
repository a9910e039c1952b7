/- Contracts: the program's tables and ledgers. -/
import Derived.Test.YtpgahkdjkanblaaGreatWr2
set_option linter.all false
set_option maxRecDepth 100000
namespace Go.Proofs.YtpgahkdjkanblaaGreat
open Go.AW
theorem zxV {P Q:Prop} (h:Q) (e:Hd Q->P:=by intro h;(repeat' first|simp -dsimp only [↓zhL, ↓zbi, ↓zcI, ↓zhM, ↓zhF, ↓zhD, ↓zhG, ↓zhE, ↓zcN, ↓zcJ, ↓zcO, ↓zcK, ↓zhH, ↓zcH, ↓zcP, ↓zcL, ↓zcQ, ↓zcM, ↓zhC, ↓zhK, ↓zcG, ↓zcR, ↓zhz, ↓zhy, ↓zhB,iN,bT,bF,eN, ↓zdT, ↓unC, ↓zam, ↓zY, ↓zZ, ↓zae, ↓zax, ↓zag, ↓zeQ, ↓zap, ↓zaQ, ↓zW, ↓zg, ↓zh, ↓zcW, ↓zb, ↓zaC, ↓zG, ↓zbv, ↓zbE, ↓zc, ↓zE, ↓zq, ↓zK, ↓zao, ↓zft, ↓zfB, ↓zaL, ↓zaX, ↓zbm, ↓zbC, ↓zcj, ↓zI, ↓zaH, ↓zaa, ↓zM, ↓zaw,zfE,zcw,zcp,unA,zeT,bnd,zgq,zaA,zL,zga,dm,dm1,zw,zad,zgP,zgO,zH,Q0,Q1,Q2,Q3,Q4,Q5,zay,zB,zD,zT,zP,Q6,Q7,Q8,Q9,Q10,Q11,Q12,Q13,Q14,Nat.reduceAdd,Q15,Int.reduceToNat,Q16,Q17,Q18,Q19,Q20,reduceIte,Q21,Q22,zU,rep,zar,zgW,toD,zaz,Q23,Q24,Q25,Q26,Q27,Q28,Nat.reduceLeDiff,Q29,Nat.reduceSub,Q30,Q31,Q32,sc,Q33,Q34,Q35,Q36,Q37,Q26,Q38,Q39,zwb,zvY,zvV,zwc,zks,zvZ,zvW,zwa,zvX,zkr,zkt,zwl,zwm,Bool.not_true,Bool.not_false,List.length_map]|with_reducible refine zxk ?_|fail);exact h.go):P:=e ⟨h⟩
theorem zzs {σ:List zd} {K:KT} (hK:K (.box (σ.length+1) 0) (σ++zvF σ.length [])):zj Tryz.prog zjm [] σ K:=by
 refine zj.weaken ?_
 refine zbT zns.is rfl (fun s=>List.range' σ.length 2) fun hl _=>zns.goes ?_
 simp only [znN,iN,bT,bF,eN]
 refine zxV ?_
 refine zeq (σ' := σ) (os := [.map [],.box [.exact [],.map σ.length]]) rfl rfl hl ?_ (.box _ _ (by simp)) ?_
 ·intro x hx
  simp only [List.mem_cons,List.not_mem_nil,or_false] at hx
  rcases hx with rfl|rfl
  ·intro e he;cases he
  ·intro c hc
   simp only [List.mem_cons,List.not_mem_nil,or_false] at hc
   rcases hc with rfl|rfl
   ·exact .exact _
   ·exact .map _ (by simp)
 ·refine ⟨.box (σ.length+1) 0, σ++zvF σ.length [],?_,hK⟩
  refine .tokB (σ.length+1) 0 [.exact [],.map σ.length] [] 1 (by rw [zB];rfl) rfl (by simp) ?_
  have e:(σ++[zd.map [],zd.box [AV.exact [],AV.map σ.length]]).set (σ.length+1) (.box ([AV.exact [],AV.map σ.length].set 0 (.own (σ++[zd.map [],zd.box [AV.exact [],AV.map σ.length]]).length [])))++[.tok 1 0] = σ++zvF σ.length []:=by
   rw [zT];simp [zvF];rfl
  rw [List.length_nil,e]
  exact .refl _ _
theorem zrt {σ:List zd} {K:KT} (hK:K (.box (σ.length+1) 0) (σ++ledO σ.length [])):zj Tryz.prog zgg [] σ K:=by
 refine zj.weaken ?_
 refine zbT zmg.is rfl (fun s=>List.range' σ.length 2) fun hl _=>zmg.goes ?_
 simp only [zmA,iN,bT,bF,eN]
 refine zxV ?_
 refine zeq (σ' := σ) (os := [.map [],.box [.exact [],.map σ.length]]) rfl rfl hl ?_ (.box _ _ (by simp)) ?_
 ·intro x hx
  simp only [List.mem_cons,List.not_mem_nil,or_false] at hx
  rcases hx with rfl|rfl
  ·intro e he;cases he
  ·intro c hc
   simp only [List.mem_cons,List.not_mem_nil,or_false] at hc
   rcases hc with rfl|rfl
   ·exact .exact _
   ·exact .map _ (by simp)
 ·refine ⟨.box (σ.length+1) 0, σ++ledO σ.length [],?_,hK⟩
  refine .tokB (σ.length+1) 0 [.exact [],.map σ.length] [] 2 (by rw [zB];rfl) rfl (by simp) ?_
  have e:(σ++[zd.map [],zd.box [AV.exact [],AV.map σ.length]]).set (σ.length+1) (.box ([AV.exact [],AV.map σ.length].set 0 (.own (σ++[zd.map [],zd.box [AV.exact [],AV.map σ.length]]).length [])))++[.tok 2 0] = σ++ledO σ.length []:=by
   rw [zT];simp [ledO];rfl
  rw [List.length_nil,e]
  exact .refl _ _
theorem zjv {A P Q:Prop} (a:A) (h:Q) (e:A->Hd Q->P:=by intro a h;(repeat' first|simp -dsimp only [↓zhL, ↓zbi, ↓zcI, ↓zhM, ↓zhF, ↓zhD, ↓zhG, ↓zhE, ↓zcN, ↓zcJ, ↓zcO, ↓zcK, ↓zhH, ↓zcH, ↓zcP, ↓zcL, ↓zcQ, ↓zcM, ↓zhC, ↓zhK, ↓zcG, ↓zcR, ↓zhz, ↓zhy, ↓zhB,iN,bT,bF,eN, ↓zdT, ↓unC, ↓zam, ↓zY, ↓zZ, ↓zae, ↓zax, ↓zag, ↓zeQ, ↓zap, ↓zaQ, ↓zW, ↓zg, ↓zh, ↓zcW, ↓zb, ↓zaC, ↓zG, ↓zbv, ↓zbE, ↓zc, ↓zE, ↓zq, ↓zK, ↓zao, ↓zft, ↓zfB, ↓zaL, ↓zaX, ↓zbm, ↓zbC, ↓zcj, ↓zI, ↓zaH, ↓zaa, ↓zM, ↓zaw,zfE,zcw,zcp,unA,zeT,bnd,zgq,zaA,zL,zga,dm,dm1,zw,zad,zgP,zgO,zH,Q0,Q1,Q2,Q3,Q4,Q5,zay,zB,zD,zT,zP,Q6,Q7,Q8,Q9,Q10,Q11,Q12,Q13,Q14,Nat.reduceAdd,Q15,Int.reduceToNat,Q16,Q17,Q18,Q19,Q20,reduceIte,Q21,Q22,zU,rep,zar,zgW,toD,zaz,Q23,Q24,Q25,Q26,Q27,Q28,Nat.reduceLeDiff,Q29,Nat.reduceSub,Q30,Q31,Q32,sc,Q33,Q34,Q35,Q36,Q37,Q26,Q38,Q39,zwb,zvY,zvV,zwc,zks,zvZ,zvW,zwa,zvX,zkr,zkt,zwl,zwm,Bool.not_true,Bool.not_false,List.length_map,a]|with_reducible refine zxk ?_|fail);exact h.go):P:=e a ⟨h⟩
theorem zAI {σ:List zd} {id m t:Nat} {l:List (List UInt8)} (hT:zea σ id m t l) {K:KT} (hK:K (.d (.bool false)) σ):zj Tryz.prog zdp [.box id 0] σ K:=by
 refine zdZ zso fun hl => ?_
 have hb:=hT.box
 simp only [zlx,iN,bT,bF,eN]
 refine zjv hb ?_
 refine zt hl ?_
 exact hK
theorem zAP {σ:List zd} {id m t:Nat} {g:List zy} (hG:zdL σ id m t g) {K:KT} (hK:K (.d (.bool false)) σ):zj Tryz.prog zdc [.box id 0] σ K:=by
 refine zdZ zrk fun hl => ?_
 have hb:=hG.box
 simp only [zkU,iN,bT,bF,eN]
 refine zjv hb ?_
 refine zt hl ?_
 exact hK
theorem zcg {A B:Prop} (a:A) (b:B):A/\B:=⟨a,b⟩
theorem gq48 {A P Q:Prop} (a:A) (h:Q) (e:A->Hd Q->P:=by intro a h;(repeat' first|simp -dsimp only [↓zhL, ↓zbi, ↓zcI, ↓zhM, ↓zhF, ↓zhD, ↓zhG, ↓zhE, ↓zcN, ↓zcJ, ↓zcO, ↓zcK, ↓zhH, ↓zcH, ↓zcP, ↓zcL, ↓zcQ, ↓zcM, ↓zhC, ↓zhK, ↓zcG, ↓zcR, ↓zhz, ↓zhy, ↓zhB,iN,bT,bF,eN, ↓zdT, ↓unC, ↓zam, ↓zY, ↓zZ, ↓zae, ↓zax, ↓zag, ↓zeQ, ↓zap, ↓zaQ, ↓zW, ↓zg, ↓zh, ↓zcW, ↓zb, ↓zaC, ↓zG, ↓zbv, ↓zbE, ↓zc, ↓zE, ↓zq, ↓zK, ↓zao, ↓zft, ↓zfB, ↓zaL, ↓zaX, ↓zbm, ↓zbC, ↓zcj, ↓zI, ↓zaH, ↓zaa, ↓zM, ↓zaw,zfE,zcw,zcp,unA,zeT,bnd,zgq,zaA,zL,zga,dm,dm1,zw,zad,zgP,zgO,zH,Q0,Q1,Q2,Q3,Q4,Q5,zay,zB,zD,zT,zP,Q6,Q7,Q8,Q9,Q10,Q11,Q12,Q13,Q14,Nat.reduceAdd,Q15,Int.reduceToNat,Q16,Q17,Q18,Q19,Q20,reduceIte,Q21,Q22,zU,rep,zar,zgW,toD,zaz,Q23,Q24,Q25,Q26,Q27,Q28,Nat.reduceLeDiff,Q29,Nat.reduceSub,Q30,Q31,Q32,sc,Q33,Q34,Q35,Q36,Q37,Q26,Q38,Q39,zwb,zvY,zvV,zwc,zks,zvZ,zvW,zwa,zvX,zkr,zkt,zwl,zwm,Bool.not_true,Bool.not_false,List.length_map,Bool.and_false,Bool.and_self,Bool.false_and,Bool.not_false,Bool.not_true,Bool.true_and,Int.toNat_natCast,Int.toNat_zero,List.drop_zero,List.length_map,List.length_nil,List.nil_append,List.take_length,Nat.sub_zero,Nat.zero_add,Option.isSome_none,Option.isSome_some,Option.map_none,Option.map_some,zX,beq_self_eq_true,bne_self_eq_false,zex,zdx,zfn,zbm,zuT,zbC,a]|with_reducible refine zxk ?_|fail);exact h.go):P:=e a ⟨h⟩
theorem ztQ {σ:List zd} {id m t:Nat} {l:List (List UInt8)} {b:List UInt8} (hT:zea σ id m t l) {K:KT} (hK:K (.tup [.d (.int .i64 (zlS (zev l b))),.d (.bool (zev l b).isSome)]) σ) :
  zj Tryz.prog zcv [.box id 0,.d (.slice (bcs b))] σ K:=by
 refine zeE zsp fun hl => ?_
 have hb:=hT.box
 have hm:=hT.map
 have hf:=mfind_tab l b
 simp only [zly,iN,bT,bF,eN]
 refine zxV ?_
 refine zAI hT ?_
 cases ho:zev l b with
 | none=>
  rw [ho] at hf hK
  simp only [Option.map_none] at hf
  refine gq48 (zcg hb (zcg hm hf)) ?_
  refine zt hl ?_
  exact hK
 | some k=>
  rw [ho] at hf hK
  simp only [Option.map_some] at hf
  refine gq48 (zcg hb (zcg hm hf)) ?_
  refine zt hl ?_
  exact hK
theorem c_tLen {σ:List zd} {id m t:Nat} {l:List (List UInt8)} (hT:zea σ id m t l) {K:KT} (hK:K (.d (.int .i64 l.length)) σ):zj Tryz.prog zdJ [.box id 0] σ K:=by
 refine zdZ ztM fun hl => ?_
 have hb:=hT.box
 simp only [zmz,iN,bT,bF,eN]
 refine zxV ?_
 refine zAI hT ?_
 refine zjv hb ?_
 refine zt hl ?_
 exact hK
theorem c_gLen {σ:List zd} {id m t:Nat} {g:List zy} (hG:zdL σ id m t g) {K:KT} (hK:K (.d (.int .i64 g.length)) σ):zj Tryz.prog zen [.box id 0] σ K:=by
 refine zdZ zsq fun hl => ?_
 have hb:=hG.box
 simp only [zlz,iN,bT,bF,eN]
 refine zxV ?_
 refine zAP hG ?_
 refine zjv hb ?_
 refine zt hl ?_
 exact hK
theorem gq49 {A P Q:Prop} (a:A) (h:Q) (e:A->Hd Q->P:=by intro a h;(repeat' first|simp -dsimp only [↓zhL, ↓zbi, ↓zcI, ↓zhM, ↓zhF, ↓zhD, ↓zhG, ↓zhE, ↓zcN, ↓zcJ, ↓zcO, ↓zcK, ↓zhH, ↓zcH, ↓zcP, ↓zcL, ↓zcQ, ↓zcM, ↓zhC, ↓zhK, ↓zcG, ↓zcR, ↓zhz, ↓zhy, ↓zhB,iN,bT,bF,eN, ↓zdT, ↓unC, ↓zam, ↓zY, ↓zZ, ↓zae, ↓zax, ↓zag, ↓zeQ, ↓zap, ↓zaQ, ↓zW, ↓zg, ↓zh, ↓zcW, ↓zb, ↓zaC, ↓zG, ↓zbv, ↓zbE, ↓zc, ↓zE, ↓zq, ↓zK, ↓zao, ↓zft, ↓zfB, ↓zaL, ↓zaX, ↓zbm, ↓zbC, ↓zcj, ↓zI, ↓zaH, ↓zaa, ↓zM, ↓zaw,zfE,zcw,zcp,unA,zeT,bnd,zgq,zaA,zL,zga,dm,dm1,zw,zad,zgP,zgO,zH,Q0,Q1,Q2,Q3,Q4,Q5,zay,zB,zD,zT,zP,Q6,Q7,Q8,Q9,Q10,Q11,Q12,Q13,Q14,Nat.reduceAdd,Q15,Int.reduceToNat,Q16,Q17,Q18,Q19,Q20,reduceIte,Q21,Q22,zU,rep,zar,zgW,toD,zaz,Q23,Q24,Q25,Q26,Q27,Q28,Nat.reduceLeDiff,Q29,Nat.reduceSub,Q30,Q31,Q32,sc,Q33,Q34,Q35,Q36,Q37,Q26,Q38,Q39,zwb,zvY,zvV,zwc,zks,zvZ,zvW,zwa,zvX,zkr,zkt,zwl,zwm,Bool.not_true,Bool.not_false,List.length_map,Bool.and_false,Bool.and_self,Bool.false_and,Bool.not_false,Bool.not_true,Bool.true_and,Int.toNat_natCast,Int.toNat_zero,List.drop_zero,List.length_map,List.length_nil,List.nil_append,List.take_length,Nat.sub_zero,Nat.zero_add,Option.isSome_none,Option.isSome_some,Option.map_none,Option.map_some,zX,beq_self_eq_true,bne_self_eq_false,zex,zco,zat,zdx,zbh,zdR,zfn,zbm,zuT,zbC,zlS,opA,zei,zfi,zaN,a]|with_reducible refine zxk ?_|fail);exact h.go):P:=e a ⟨h⟩
theorem c_gSigned {σ:List zd} {id m t:Nat} {g:List zy} {s:zy} (hG:zdL σ id m t g) {K:KT} (hK:K (.d (.bool (decide (s∈g)))) σ) :
  zj Tryz.prog zem [.box id 0,.agg [.d (.int .i64 s.key),.d (.int .i64 s.dig)]] σ K:=by
 refine zeE zoQ fun hl => ?_
 have hb:∀ τ,(σ ++ τ)[id]? = _:=fun τ=>zn hG.box
 have hm:∀ τ,(σ ++ τ)[m]? = _:=fun τ=>zn hG.map
 simp only [ziZ,iN,bT,bF,eN]
 refine zxV ?_
 refine zAP (hG.app _) ?_
 by_cases hs:s∈g
 ·obtain ⟨k,hf⟩:=zrV hs
  rw [decide_eq_true hs] at hK
  refine gq49 (zcg hb (zcg hm hf)) ?_
  refine zt hl ?_
  exact hK
 ·have hf:=zur hs
  rw [decide_eq_false hs] at hK
  refine gq49 (zcg hb (zcg hm hf)) ?_
  refine zt hl ?_
  exact hK
theorem c_tSum {σ:List zd} {id m t:Nat} {l:List (List UInt8)} {b:List UInt8} (hT:zea σ id m t l) (hbl:b.length<=1073741824) (hll:l.length<=1048576) {K:KT}
  (hK:K (.d (.int .i64 (zon l b))) (putTab σ id m t (zgn l b))):zj Tryz.prog zeK [.box id 0,.d (.slice (bcs b))] σ K:=by
 refine zeE ztL fun hl => ?_
 have hb:=hT.box
 have hm:=hT.map
 have ht:=hT.tok
 have hf:=mfind_tab l b
 obtain ⟨n1,n2,n3⟩:=hT.ne
 have hlen:(ziF l).length=l.length:=List.length_map ..
 simp only [zmy,iN,bT,bF,eN]
 refine zxV ?_
 refine zAI hT ?_
 cases ho:zev l b with
 | some k=>
  rw [ho] at hf
  simp only [zon,zgn,ho] at hK
  rw [hT.self] at hK
  simp only [Option.map_some] at hf
  refine gq48 (zcg hb (zcg hm hf)) ?_
  refine zt hl ?_
  exact hK
 | none=>
  rw [ho] at hf
  simp only [zon,zgn,ho] at hK
  simp only [Option.map_none] at hf
  by_cases hfull:l.length≥1048576
  ·rw [if_pos hfull,if_pos hfull,hT.self] at hK
   have hd:decide ((l.length:Int)≥1048576)=true:=by simp;omega
   refine gq48 (zcg hb (zcg hm (zcg hf (zcg hlen hd)))) ?_
   refine zt hl ?_
   exact hK
  ·rw [if_neg hfull,if_neg hfull] at hK
   have hd:decide ((l.length:Int)≥1048576)=false:=by simp;omega
   have g1:∀ τ,(σ ++ τ)[id]? = some (.box [.own t (ziF l),.map m]):=fun τ=>zn hb
   have g2:∀ τ,(σ ++ τ)[t]? = some (.tok 1 l.length):=fun τ=>zn ht
   have s1:∀ X τ,(σ ++ τ).set t X = σ.set t X ++ τ:=fun X τ=>zbB ht
   have hb':∀ X,(σ.set t X)[id]? = some (.box [.own t (ziF l),.map m]):=fun X=>by rw [List.getElem?_set_ne (Ne.symm n2)];exact hb
   have g3:∀ X τ,(σ.set t X ++ τ)[id]? = some (.box [.own t (ziF l),.map m]):=fun X τ=>zn (hb' X)
   have s2:∀ X Y τ,(σ.set t X ++ τ).set id Y=(σ.set t X).set id Y ++ τ:=fun X Y τ=>zbB (hb' X)
   have g4:∀ X Y τ,((σ.set t X).set id Y ++ τ)[id]? = some Y:=fun X Y τ=>zn (zcl (hb' X))
   have hm':∀ X Y,((σ.set t X).set id Y)[m]? = some (.map (tabM l)):=fun X Y=>by rw [List.getElem?_set_ne n1,List.getElem?_set_ne (Ne.symm n3)];exact hm
   have g5:∀ X Y τ,((σ.set t X).set id Y ++ τ)[m]? = some (.map (tabM l)):=fun X Y τ=>zn (hm' X Y)
   have s3:∀ X Y Z τ,((σ.set t X).set id Y ++ τ).set m Z=((σ.set t X).set id Y).set m Z ++ τ:=fun X Y Z τ=>zbB (hm' X Y)
   refine gq48 (zcg hb (zcg hm (zcg hf (zcg hlen hd)))) ?_
   refine zgi zez (by rw [zX];omega) ?_
   refine gq48 (zcg g1 (zcg g2 (zcg s1 (zcg g3 (zcg s2 (zcg g4 (zcg g5 (zcg s3 (zcg hf hlen))))))))) ?_
   refine ⟨hb.symm,by simp,by omega,?_⟩
   have e:putTab σ id m t (l++[b])=((σ.set t (zd.tok 1 (l.length+1))).set id (zd.box [AV.own t (ziF l++[[D.slice (bcs b)]]),AV.map m])).set m (zd.map (tabM l++[(AV.d (D.str b),AV.d (D.int IntKind.i64 ((l.length+1:Nat):Int)))])):=by
    simp [putTab,tabM_add,ziF]
    rw [← tabM_add];simp
   rw [← e]
   exact zcx (zpB ..) (by simp [zfF,dmT,dm,dm1,zcq]) (hT.lows hl _) hK
end Go.Proofs.YtpgahkdjkanblaaGreat
