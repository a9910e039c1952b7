/- Contracts: a ledger signs; a table's clone; whether both were made. -/
import Derived.Test.YtfgbofkdhfjegaaGreatSpTab
set_option linter.all false
set_option maxRecDepth 100000
namespace Go.Proofs.YtfgbofkdhfjegaaGreat
open Go.AW
def zyk (s:zR):AV := .agg [.d (.int .i64 s.key),.d (.int .i64 s.dig)]
def signR (k d:Int):zR:=if zfb k d=0 then ⟨k,d⟩ else ⟨0, 0⟩
def zgy (g:List zR) (k d:Int):List zR:=if zfb k d=0 then zmV g ⟨k,d⟩ else g
theorem c_gSign {σ:List zh} {id m t:Nat} {g:List zR} {k d:Int} (hG:zeY σ id m t g) (hgl:g.length<=1073741824) {K:KT}
  (hK:K (.tup [zyk (signR k d),.d (.int .i64 (zfb k d))]) (putLed σ id m t (zgy g k d))):zp Tryz.prog zek [.box id 0,.d (.int .i64 k),.d (.int .i64 d)] σ K:=by
 refine acE3 zpW fun hl => ?_
 have hb:∀ τ,(σ ++ τ)[id]? = some (.box [.own t (zrA g),.map m]):=fun τ=>zf hG.box
 have hm:∀ τ,(σ ++ τ)[m]? = some (.map (zwf g)):=fun τ=>zf hG.map
 obtain ⟨n1,n2,n3⟩:=hG.ne
 have hlen:(zrA g).length=g.length:=List.length_map ..
 have bad:zfb k d≠0->K (.tup [.agg [.d (.int .i64 0),.d (.int .i64 0)],.d (.int .i64 (zfb k d))]) σ:=fun h=>by
  rw [signR,zgy,if_neg h,if_neg h,hG.self] at hK
  exact hK
 simp only [zjR,iN,bT,bF,eN]
 refine gq1 ?_
 refine zzk (hG.app _) ?_
 cases h1:decide (k<0)
 ·cases h2:decide (k≥21)
  ·have hk:¬ (k<0∨k≥21):=by simp at h1 h2;omega
   cases h3:decide (d<1)
   ·have he:zfb k d=0:=by rw [zfb,if_neg hk,if_neg (by simpa using h3)]
    rw [he,signR,zgy,if_pos he,if_pos he] at hK
    by_cases hs:(⟨k,d⟩:zR)∈g
    ·obtain ⟨j,hf⟩:=zqC hs
     simp only at hf
     rw [zmV,if_pos hs,hG.self] at hK
     refine gq4 (zg h1 (zg h2 (zg h3 (zg hb (zg hm hf))))) ?_
     refine zI hl ?_
     exact hK
    ·have hf:=zsM hs
     simp only at hf
     rw [zmV,if_neg hs] at hK
     have hmm : σ[m]? = some (.map (zwf g)):=hG.map
     have s1:∀ X τ,(σ ++ τ).set m X = σ.set m X ++ τ:=fun X τ=>zcg hG.map
     have hb':∀ X,(σ.set m X)[id]? = some (.box [.own t (zrA g),.map m]):=fun X=>by rw [List.getElem?_set_ne (Ne.symm n1)];exact hG.box
     have ht':∀ X,(σ.set m X)[t]? = some (.tok 2 g.length):=fun X=>by rw [List.getElem?_set_ne n3];exact hG.tok
     have g3:∀ X τ,(σ.set m X ++ τ)[id]? = some (.box [.own t (zrA g),.map m]):=fun X τ=>zf (hb' X)
     have g4:∀ X τ,(σ.set m X ++ τ)[t]? = some (.tok 2 g.length):=fun X τ=>zf (ht' X)
     have s2:∀ X Y τ,(σ.set m X ++ τ).set t Y=(σ.set m X).set t Y ++ τ:=fun X Y τ=>zcg (ht' X)
     have hb2:∀ X Y,((σ.set m X).set t Y)[id]? = some (.box [.own t (zrA g),.map m]):=fun X Y=>by rw [List.getElem?_set_ne (Ne.symm n2)];exact hb' X
     have s3:∀ X Y Z τ,((σ.set m X).set t Y ++ τ).set id Z=((σ.set m X).set t Y).set id Z ++ τ:=fun X Y Z τ=>zcg (hb2 X Y)
     have g5:∀ X Y τ,((σ.set m X).set t Y ++ τ)[id]? = some (.box [.own t (zrA g),.map m]):=fun X Y τ=>zf (hb2 X Y)
     have L1:∀ X:zh, σ.length=(σ.set m X).length:=fun X=>by simp
     have L2:∀ X Y:zh, σ.length=((σ.set m X).set t Y).length:=fun X Y=>by simp
     have L3:∀ X Y Z:zh, σ.length=(((σ.set m X).set t Y).set id Z).length:=fun X Y Z=>by simp
     have e1:∀ X τ n,(σ.set m X ++ τ)[σ.length+n]? = τ[n]?:=fun X τ n=>by rw [L1 X];exact zx ..
     have e2:∀ X Y Z τ n,(((σ.set m X).set t Y).set id Z ++ τ)[σ.length+n]? = τ[n]?:=fun X Y Z τ n=>by rw [L3 X Y Z];exact zx ..
     have e3:∀ X Y Z τ W,(((σ.set m X).set t Y).set id Z ++ τ).set σ.length W=((σ.set m X).set t Y).set id Z ++ τ.set 0 W:=fun X Y Z τ W=>by rw [L3 X Y Z];exact zL ..
     have e4:∀ X Y Z τ,(((σ.set m X).set t Y).set id Z ++ τ)[σ.length]? = τ[0]?:=fun X Y Z τ=>by rw [L3 X Y Z];exact zy ..
     refine gq4 (zg h1 (zg h2 (zg h3 (zg hb (zg hm (zg hf (zg s1 (zg g3 (zg g4 (zg s2 (zg s3 (zg g5 (zg e1 (zg e2 (zg e3 (zg e4 hlen)))))))))))))))) ?_
     have e:putLed σ id m t (g++[⟨k,d⟩])=(((σ.set m (zh.map (zwf g++[(AV.agg [AV.d (D.int IntKind.i64 k),AV.d (D.int IntKind.i64 d)],AV.d (D.bool true))]))).set t (zh.tok 2 (g.length+1))).set id (zh.box [AV.own t (zrA g++[[D.int IntKind.i64 k,D.int IntKind.i64 d]]),AV.map m])):=by
      rw [ledM_add g ⟨k,d⟩]
      simp [putLed,zrA,zgz]
     rw [← e]
     exact zeZ (putLed_len ..) (by simp [zfz,dmT,dm,dm1,zcJ,zcb,zfL]) (hG.lows hl _) hK
   ·have he:zfb k d=1:=by rw [zfb,if_neg hk,if_pos (by simpa using h3)]
    have:=bad (by rw [he];decide)
    rw [he] at this
    refine gq2 (zg h1 (zg h2 h3)) ?_
    refine zI hl ?_
    exact this
  ·have he:zfb k d=20:=by rw [zfb,if_pos (by simp at h2;omega)]
   have:=bad (by rw [he];decide)
   rw [he] at this
   refine gq2 (zg h1 h2) ?_
   refine zI hl ?_
   exact this
 ·have he:zfb k d=20:=by rw [zfb,if_pos (by simp at h1;omega)]
  have:=bad (by rw [he];decide)
  rw [he] at this
  refine gq2 h1 ?_
  refine zI hl ?_
  exact this
theorem gq5 {P Q:Prop} (h:Q) (e:Hd Q->P:=by intro h;(repeat' first|simp -dsimp only [↓zeU, ↓zaA, ↓zbp, ↓zeV, ↓zeO, ↓zeM, ↓zeP, ↓zeN, ↓zbu, ↓zbq, ↓zbv, ↓zbr, ↓zeQ, ↓zbo, ↓zbw, ↓zbs, ↓zbx, ↓zbt, ↓zeL, ↓zeT, ↓zbn, ↓zby, ↓zeG, ↓zeF, ↓zeK,iN,bT,bF,eN, ↓zco, ↓unC, ↓zX, ↓zM, ↓zN, ↓zQ, ↓zZ, ↓zai, ↓zcv, ↓zaf, ↓zaS, ↓zV, ↓zl, ↓zm, ↓zbg, ↓ze, ↓zae, ↓zC, ↓zaM, ↓zaT, ↓zd, ↓zA, ↓zr, ↓zD, ↓zao, ↓zcY, ↓zdn, ↓zap, ↓zaw, ↓zaN, ↓zaZ, ↓zbk, ↓zw, ↓zaj, ↓zO, ↓zE, ↓zY,zdr,zbm,zbl,unA,zdo,bnd,zdL,zab,zS,zdI,dm,dm1,zG,zak,zdZ,zdY,zH,Q0,Q1,Q2,Q3,Q4,Q5,zW,zx,zy,zT,zL,Q6,Q7,Q8,Q9,Q10,Q11,Q12,Q13,Q14,Nat.reduceAdd,Q15,Int.reduceToNat,Q16,Q17,Q18,Q19,Q20,reduceIte,Q21,Q22,zF,rep,zaa,zeC,toD,zag,Q23,Q24,Q25,Q26,Q27,Q28,Nat.reduceLeDiff,Q29,Nat.reduceSub,Q30,Q31,Q32,sc,Q33,Q34,Q35,Q36,Q37,Q26,Q38,Q39,zis,zio,zil,zit,zcN,ziq,zim,zir,zin,zcM,zcO,ziu,ziv,Bool.not_true,Bool.not_false,List.length_map,Bool.and_false,Bool.and_self,Bool.false_and,Bool.not_false,Bool.not_true,Bool.true_and,Int.toNat_natCast,Int.toNat_zero,List.drop_zero,List.length_map,List.length_nil,List.nil_append,List.take_length,Nat.sub_zero,Nat.zero_add,Option.isSome_none,Option.isSome_some,Option.map_none,Option.map_some,zav,beq_self_eq_true,bne_self_eq_false]|with_reducible refine zix ?_|fail);exact h.go):P:=e ⟨h⟩
theorem c_From {σ:List zh} {l:List (List UInt8)} (hn:l.Nodup) (hl0:l.length<=1048576) (hb:∀ b∈l,b.length<=1073741824) {K:KT}
  (hK:K (.tup [.box (σ.length+1) 0,.d (.int .i64 0)]) (σ++tabO σ.length l)):zp Tryz.prog znz [.d (.slice (zhI l))] σ K:=by
 refine zcl zsT.is rfl (fun s=>List.range' σ.length 3) fun hl _=>zsT.goes ?_
 have hlen:(zhI l).length=l.length:=List.length_map ..
 have hd:decide ((l.length:Int) > 1048576)=false:=by simp;omega
 simp only [ztl,iN,bT,bF,eN]
 refine gq2 (zg hlen hd) ?_
 refine zxB ?_
 refine gq1 ?_
 refine zo l.length (fun k vs s=>vs = [.d (.int .i64 k)]/\s = σ++tabO σ.length (l.take k)) ⟨rfl,rfl⟩ ?_
 rintro k vs s hk ⟨rfl,rfl⟩
 by_cases hlt:k<l.length
 ·have hd:decide ((k:Int)<(l.length:Int))=true:=by simp;omega
  have hx:l[k]? = some l[k]:=by simp [hlt]
  have hgx:=zK (f:=fun b => [D.slice (bcs b)]) hx
  have hxb:=hb _ (List.getElem_mem hlt)
  have hnot:l[k] ∉ l.take k:=fun hm=>by
   obtain ⟨i,hi,he⟩:=List.mem_take_iff_getElem.1 hm
   have:=(List.getElem_inj hn).1 he
   omega
  obtain ⟨x,hxe⟩:∃ x,l[k]=x:=⟨_,rfl⟩
  rw [hxe] at hx hgx hxb hnot
  have hno:=zwY hnot
  have hT:zdH (σ++tabO σ.length (l.take k)) (σ.length+1) σ.length (σ.length+2) (l.take k):=by simpa using tabAt_new σ (l.take k) []
  have hP:∀ l',putTab (σ++tabO σ.length (l.take k)) (σ.length+1) σ.length (σ.length+2) l' = σ++tabO σ.length l':=fun l'=>by simpa using putTab_new σ (l.take k) l' []
  refine gq2 (zg hlen (zg hd hgx)) ?_
  refine zqa hT ?_
  rw [hno]
  refine gq5 ?_
  refine c_tSum hT hxb (by rw [List.length_take];omega) ?_
  rw [hP]
  have e:zfD (l.take k) x=l.take (k+1):=by
   have h1:(l.take k).length=k:=by rw [List.length_take];omega
   rw [zfD,hno]
   simp only [h1]
   rw [if_neg (by omega),List.take_add_one,hx];rfl
  rw [e]
  have hw:IntKind.i64.wrap ((k:Int)+1)=((k+1:Nat):Int):=by rw [zU (by omega) (by omega)];rfl
  refine gq2 hw ?_
  exact zas.next hlt ⟨rfl,rfl⟩
 ·have hd:decide ((k:Int)<(l.length:Int))=false:=by simp;omega
  rw [List.take_of_length_le (by omega)]
  refine gq2 (zg hlen hd) ?_
  refine zdw (σ' := σ) (os:=tabO σ.length l) rfl rfl hl (low_tabO _ _) ?_ hK
  exact .tup _ (by simp [zfz];exact .box _ _ (by simp))
theorem zqY {σ:List zh} {id m t:Nat} {l:List (List UInt8)} (hT:zdH σ id m t l) (hn:l.Nodup) (hl0:l.length<=1048576) (hb:∀ b∈l,b.length<=1073741824) {K:KT}
  (hK:K (.box (σ.length+1) 0) (σ++tabO σ.length l)):zp Tryz.prog zca [.box id 0] σ K:=by
 refine zcl zjD.is rfl (fun s=>List.range' σ.length 3) fun hl _=>zjD.goes ?_
 have hbx:=hT.box
 simp only [zjP,iN,bT,bF,eN]
 refine gq1 ?_
 refine zyS hT ?_
 refine gq2 hbx ?_
 refine c_From hn hl0 hb ?_
 refine gq1 ?_
 exact zdw (σ' := σ) (os:=tabO σ.length l) rfl rfl hl (low_tabO _ _) (.box _ _ (by simp)) hK
def rtO (l:List (List UInt8)):zh := .box [.d (.slice (zhI l))]
def rlO (g:List zR):zh := .box [.d (.slice (zrA g))]
theorem zgl (n:Nat) (l:List (List UInt8)):zyf n (rtO l):=by
 intro c hc
 simp only [List.mem_cons,List.not_mem_nil,or_false] at hc
 subst hc;exact .d _
theorem rlO_low (n:Nat) (g:List zR):zyf n (rlO g):=by
 intro c hc
 simp only [List.mem_cons,List.not_mem_nil,or_false] at hc
 subst hc;exact .d _
theorem wki (k:Nat) (h:k<=1073741824):IntKind.i64.wrap ((k:Int)+1)=((k+1:Nat):Int):=by rw [zU (by omega) (by omega)];rfl
theorem gq6 {P Q:Prop} (h:Q) (e:Hd Q->P:=by intro h;(repeat' first|simp -dsimp only [↓zeU, ↓zaA, ↓zbp, ↓zeV, ↓zeO, ↓zeM, ↓zeP, ↓zeN, ↓zbu, ↓zbq, ↓zbv, ↓zbr, ↓zeQ, ↓zbo, ↓zbw, ↓zbs, ↓zbx, ↓zbt, ↓zeL, ↓zeT, ↓zbn, ↓zby, ↓zeG, ↓zeF, ↓zeK,iN,bT,bF,eN, ↓zco, ↓unC, ↓zX, ↓zM, ↓zN, ↓zQ, ↓zZ, ↓zai, ↓zcv, ↓zaf, ↓zaS, ↓zV, ↓zl, ↓zm, ↓zbg, ↓ze, ↓zae, ↓zC, ↓zaM, ↓zaT, ↓zd, ↓zA, ↓zr, ↓zD, ↓zao, ↓zcY, ↓zdn, ↓zap, ↓zaw, ↓zaN, ↓zaZ, ↓zbk, ↓zw, ↓zaj, ↓zO, ↓zE, ↓zY,zdr,zbm,zbl,unA,zdo,bnd,zdL,zab,zS,zdI,dm,dm1,zG,zak,zdZ,zdY,zH,Q0,Q1,Q2,Q3,Q4,Q5,zW,zx,zy,zT,zL,Q6,Q7,Q8,Q9,Q10,Q11,Q12,Q13,Q14,Nat.reduceAdd,Q15,Int.reduceToNat,Q16,Q17,Q18,Q19,Q20,reduceIte,Q21,Q22,zF,rep,zaa,zeC,toD,zag,Q23,Q24,Q25,Q26,Q27,Q28,Nat.reduceLeDiff,Q29,Nat.reduceSub,Q30,Q31,Q32,sc,Q33,Q34,Q35,Q36,Q37,Q26,Q38,Q39,zis,zio,zil,zit,zcN,ziq,zim,zir,zin,zcM,zcO,ziu,ziv,Bool.not_true,Bool.not_false,List.length_map,Bool.and_false,Bool.and_self,Bool.false_and,Bool.not_false,Bool.not_true,Bool.true_and,Int.toNat_natCast,Int.toNat_zero,List.drop_zero,List.length_map,List.length_nil,List.nil_append,List.take_length,Nat.sub_zero,Nat.zero_add,Option.isSome_none,Option.isSome_some,Option.map_none,Option.map_some,zav,beq_self_eq_true,bne_self_eq_false,zgr,zeA,zfQ,zaN,mgetR,zaZ]|with_reducible refine zix ?_|fail);exact h.go):P:=e ⟨h⟩
theorem c_rtSame {σ:List zh} {a b:List UInt8} {K:KT} (hK:K (.d (.bool (a==b))) σ):zp Tryz.prog zrY [.d (.slice (bcs a)),.d (.slice (bcs b))] σ K:=by
 refine zeW e_r02_Same fun hl => ?_
 simp only [zya,iN,bT,bF,eN]
 refine gq6 ?_
 refine zI hl ?_
 exact hK
theorem zmp {σ:List zh} {id:Nat} {l:List (List UInt8)} {b:List UInt8} (hT : σ[id]? = some (rtO l)) (hl0:l.length<=1048576) {K:KT}
  (hK:K (.tup [.d (.int .i64 (zjl (zdf l b))),.d (.bool (zdf l b).isSome)]) σ):zp Tryz.prog zbV [.box id 0,.d (.slice (bcs b))] σ K:=by
 refine zeW ztC fun hl => ?_
 have hlen:(zhI l).length=l.length:=List.length_map ..
 have hb : σ[id]? = some (.box [.d (.slice (zhI l))]):=hT
 simp only [zmI,iN,bT,bF,eN]
 refine zo l.length (fun k vs s=>vs = [.d (.int .i64 k)]/\s = σ/\zdf (l.take k) b=none) ⟨rfl,rfl,rfl⟩ ?_
 rintro k vs s hk ⟨rfl,rfl,hno⟩
 by_cases hlt:k<l.length
 ·have hd:decide ((k:Int)<(l.length:Int))=true:=by simp;omega
  have hx:l[k]? = some l[k]:=by simp [hlt]
  have hgx:=zK (f:=fun b => [D.slice (bcs b)]) hx
  obtain ⟨x,hxe⟩:∃ x,l[k]=x:=⟨_,rfl⟩
  rw [hxe] at hx hgx
  refine gq2 (zg hlen (zg hd (zg hb hgx))) ?_
  refine c_rtSame ?_
  cases he:(x==b)
  ·refine gq2 (wki k (by omega)) ?_
   exact zas.next hlt ⟨rfl,rfl,look_next hx hno he⟩
  ·rw [look_hit hx hno he] at hK
   refine gq2 (wki k (by omega)) ?_
   refine zI hl ?_
   exact hK
 ·have hd:decide ((k:Int)<(l.length:Int))=false:=by simp;omega
  rw [List.take_of_length_le (by omega)] at hno
  rw [hno] at hK
  refine gq2 (zg hlen (zg hd hb)) ?_
  refine zI hl ?_
  exact hK
theorem gq7 {P Q:Prop} (h:Q) (e:Hd Q->P:=by intro h;(repeat' first|simp -dsimp only [↓zeU, ↓zaA, ↓zbp, ↓zeV, ↓zeO, ↓zeM, ↓zeP, ↓zeN, ↓zbu, ↓zbq, ↓zbv, ↓zbr, ↓zeQ, ↓zbo, ↓zbw, ↓zbs, ↓zbx, ↓zbt, ↓zeL, ↓zeT, ↓zbn, ↓zby, ↓zeG, ↓zeF, ↓zeK,iN,bT,bF,eN, ↓zco, ↓unC, ↓zX, ↓zM, ↓zN, ↓zQ, ↓zZ, ↓zai, ↓zcv, ↓zaf, ↓zaS, ↓zV, ↓zl, ↓zm, ↓zbg, ↓ze, ↓zae, ↓zC, ↓zaM, ↓zaT, ↓zd, ↓zA, ↓zr, ↓zD, ↓zao, ↓zcY, ↓zdn, ↓zap, ↓zaw, ↓zaN, ↓zaZ, ↓zbk, ↓zw, ↓zaj, ↓zO, ↓zE, ↓zY,zdr,zbm,zbl,unA,zdo,bnd,zdL,zab,zS,zdI,dm,dm1,zG,zak,zdZ,zdY,zH,Q0,Q1,Q2,Q3,Q4,Q5,zW,zx,zy,zT,zL,Q6,Q7,Q8,Q9,Q10,Q11,Q12,Q13,Q14,Nat.reduceAdd,Q15,Int.reduceToNat,Q16,Q17,Q18,Q19,Q20,reduceIte,Q21,Q22,zF,rep,zaa,zeC,toD,zag,Q23,Q24,Q25,Q26,Q27,Q28,Nat.reduceLeDiff,Q29,Nat.reduceSub,Q30,Q31,Q32,sc,Q33,Q34,Q35,Q36,Q37,Q26,Q38,Q39,zis,zio,zil,zit,zcN,ziq,zim,zir,zin,zcM,zcO,ziu,ziv,Bool.not_true,Bool.not_false,List.length_map,Bool.and_false,Bool.and_self,Bool.false_and,Bool.not_false,Bool.not_true,Bool.true_and,Int.toNat_natCast,Int.toNat_zero,List.drop_zero,List.length_map,List.length_nil,List.nil_append,List.take_length,Nat.sub_zero,Nat.zero_add,Option.isSome_none,Option.isSome_some,Option.map_none,Option.map_some,zav,beq_self_eq_true,bne_self_eq_false,zcu,zdq,zgT,zea,zjl,opA,zjU,zgz,zbX]|with_reducible refine zix ?_|fail);exact h.go):P:=e ⟨h⟩
theorem gq8 {A P Q:Prop} (a:A) (h:Q) (e:A->Hd Q->P:=by intro a h;(repeat' first|simp -dsimp only [↓zeU, ↓zaA, ↓zbp, ↓zeV, ↓zeO, ↓zeM, ↓zeP, ↓zeN, ↓zbu, ↓zbq, ↓zbv, ↓zbr, ↓zeQ, ↓zbo, ↓zbw, ↓zbs, ↓zbx, ↓zbt, ↓zeL, ↓zeT, ↓zbn, ↓zby, ↓zeG, ↓zeF, ↓zeK,iN,bT,bF,eN, ↓zco, ↓unC, ↓zX, ↓zM, ↓zN, ↓zQ, ↓zZ, ↓zai, ↓zcv, ↓zaf, ↓zaS, ↓zV, ↓zl, ↓zm, ↓zbg, ↓ze, ↓zae, ↓zC, ↓zaM, ↓zaT, ↓zd, ↓zA, ↓zr, ↓zD, ↓zao, ↓zcY, ↓zdn, ↓zap, ↓zaw, ↓zaN, ↓zaZ, ↓zbk, ↓zw, ↓zaj, ↓zO, ↓zE, ↓zY,zdr,zbm,zbl,unA,zdo,bnd,zdL,zab,zS,zdI,dm,dm1,zG,zak,zdZ,zdY,zH,Q0,Q1,Q2,Q3,Q4,Q5,zW,zx,zy,zT,zL,Q6,Q7,Q8,Q9,Q10,Q11,Q12,Q13,Q14,Nat.reduceAdd,Q15,Int.reduceToNat,Q16,Q17,Q18,Q19,Q20,reduceIte,Q21,Q22,zF,rep,zaa,zeC,toD,zag,Q23,Q24,Q25,Q26,Q27,Q28,Nat.reduceLeDiff,Q29,Nat.reduceSub,Q30,Q31,Q32,sc,Q33,Q34,Q35,Q36,Q37,Q26,Q38,Q39,zis,zio,zil,zit,zcN,ziq,zim,zir,zin,zcM,zcO,ziu,ziv,Bool.not_true,Bool.not_false,List.length_map,Bool.and_false,Bool.and_self,Bool.false_and,Bool.not_false,Bool.not_true,Bool.true_and,Int.toNat_natCast,Int.toNat_zero,List.drop_zero,List.length_map,List.length_nil,List.nil_append,List.take_length,Nat.sub_zero,Nat.zero_add,Option.isSome_none,Option.isSome_some,Option.map_none,Option.map_some,zav,beq_self_eq_true,bne_self_eq_false,zcu,zdq,zgT,zea,zjl,opA,zjU,zgz,zbX,a]|with_reducible refine zix ?_|fail);exact h.go):P:=e a ⟨h⟩
theorem zmo {σ:List zh} {id:Nat} {l:List (List UInt8)} {b:List UInt8} (hT : σ[id]? = some (rtO l)) (hbl:b.length<=1073741824) (hl0:l.length<=1048576) {K:KT}
  (hK:K (.d (.int .i64 (zdX l b))) (σ.set id (rtO (zfD l b)))):zp Tryz.prog zbT [.box id 0,.d (.slice (bcs b))] σ K:=by
 refine acall_ofW znG.is rfl fun hl _=>znG.goes ?_
 have hlen:(zhI l).length=l.length:=List.length_map ..
 have hb:∀ τ,(σ ++ τ)[id]? = some (.box [.d (.slice (zhI l))]):=fun τ=>zf hT
 have hb0 : σ[id]? = some (.box [.d (.slice (zhI l))]):=hT
 have hlt:=zB hT
 simp only [zoa,iN,bT,bF,eN]
 refine gq1 ?_
 refine zmp hT hl0 ?_
 cases ho:zdf l b with
 | some k=>
  simp only [zdX,zfD,ho] at hK
  rw [zbF hT] at hK
  refine gq7 ?_
  refine zox ?_
  refine zI hl ?_
  exact hK
 | none=>
  simp only [zdX,zfD,ho] at hK
  by_cases hfull:l.length≥1048576
  ·rw [if_pos hfull,if_pos hfull,zbF hT] at hK
   have hd:decide ((l.length:Int)≥1048576)=true:=by simp;omega
   refine gq8 (zg hb0 (zg hlen hd)) ?_
   refine zox ?_
   refine zI hl ?_
   exact hK
  ·rw [if_neg hfull,if_neg hfull] at hK
   have hd:decide ((l.length:Int)≥1048576)=false:=by simp;omega
   have s1:∀ X τ,(σ ++ τ).set id X = σ.set id X ++ τ:=fun X τ=>zcg hT
   have g1:∀ X τ,(σ.set id X ++ τ)[id]? = some X:=fun X τ=>zf (zbJ hT)
   have bl:(bcs b).length=b.length:=zav b
   have b1:∀ e∈bcs b,e.length=1:=zgs
   have t1:∀ e∈zhI l,e.length=1:=zjk (f:=fun b => [D.slice (bcs b)]) (fun _=>rfl) l
   refine gq8 (zg hb (zg hb0 (zg hlen (zg hd (zg s1 (zg g1 bl)))))) ?_
   have e:zhI l++[[D.slice (bcs b)]]=zhI (l++[b]):=by simp [zhI]
   rw [e]
   exact zxo hT (by simp [zfz,dmT,dm,dm1,zcJ]) hl hK
theorem zxv {σ:List zh} {id:Nat} {g:List zR} {s:zR} (hG : σ[id]? = some (rlO g)) (hg0:g.length<=1073741824) {K:KT} (hK:K (.d (.bool (decide (s∈g)))) σ) :
  zp Tryz.prog zeh [.box id 0,.agg [.d (.int .i64 s.key),.d (.int .i64 s.dig)]] σ K:=by
 refine zeW zpQ fun hl => ?_
 have hlen:(zrA g).length=g.length:=List.length_map ..
 have hb:∀ τ,(σ ++ τ)[id]? = some (.box [.d (.slice (zrA g))]):=fun τ=>zf hG
 simp only [zjK,iN,bT,bF,eN]
 refine gq1 ?_
 refine zo g.length (fun k vs q=>vs = [.d (.int .i64 k)]/\q = σ++[.box [.d (.int .i64 s.key),.d (.int .i64 s.dig)]]/\s ∉ g.take k) ⟨rfl,rfl,by simp⟩ ?_
 rintro k vs q hk ⟨rfl,rfl,hno⟩
 by_cases hlt:k<g.length
 ·have hd:decide ((k:Int)<(g.length:Int))=true:=by simp;omega
  have hx:g[k]? = some g[k]:=by simp [hlt]
  have hgx:=zK (f:=zgz) hx
  obtain ⟨x,hxe⟩:∃ x,g[k]=x:=⟨_,rfl⟩
  rw [hxe] at hx hgx
  by_cases he:x=s
  ·subst he
   rw [decide_eq_true (List.mem_of_getElem? hx)] at hK
   refine gq8 (zg hlen (zg hd (zg hb hgx))) ?_
   refine zI hl ?_
   exact hK
  ·have hn2:s ∉ g.take (k+1):=by
    rw [List.take_add_one,hx];simp
    exact ⟨hno,fun h=>he h.symm⟩
   have e:x=s↔x.key=s.key/\x.dig=s.dig:=by cases s;cases x;simp
   cases h1:(x.key==s.key)
   ·refine gq8 (zg hlen (zg hd (zg hb (zg hgx (zg h1 (wki k (by omega))))))) ?_
    exact zas.next hlt ⟨rfl,rfl,hn2⟩
   ·have h2:(x.dig==s.dig)=false:=by
     have:¬ x.dig=s.dig:=fun h=>he (e.2 ⟨by simpa using h1,h⟩)
     simpa using this
    refine gq8 (zg hlen (zg hd (zg hb (zg hgx (zg h1 (zg h2 (wki k (by omega)))))))) ?_
    exact zas.next hlt ⟨rfl,rfl,hn2⟩
 ·have hd:decide ((k:Int)<(g.length:Int))=false:=by simp;omega
  rw [List.take_of_length_le (by omega)] at hno
  rw [decide_eq_false hno] at hK
  refine gq2 (zg hlen (zg hd hb)) ?_
  refine zI hl ?_
  exact hK
theorem c_rgSign {σ:List zh} {id:Nat} {g:List zR} {k d:Int} (hG : σ[id]? = some (rlO g)) (hgl:g.length<=1073741824) {K:KT}
  (hK:K (.tup [zyk (signR k d),.d (.int .i64 (zfb k d))]) (σ.set id (rlO (zgy g k d)))):zp Tryz.prog zfs [.box id 0,.d (.int .i64 k),.d (.int .i64 d)] σ K:=by
 refine acall_ofW zlj.is rfl fun hl _=>zlj.goes ?_
 have hb:∀ τ,(σ ++ τ)[id]? = some (.box [.d (.slice (zrA g))]):=fun τ=>zf hG
 have hlen:(zrA g).length=g.length:=List.length_map ..
 have bad:zfb k d≠0->K (.tup [.agg [.d (.int .i64 0),.d (.int .i64 0)],.d (.int .i64 (zfb k d))]) σ:=fun h=>by
  rw [signR,zgy,if_neg h,if_neg h,zbF hG] at hK
  exact hK
 simp only [zlA,iN,bT,bF,eN]
 refine gq1 ?_
 cases h1:decide (k<0)
 ·cases h2:decide (k≥21)
  ·have hk:¬ (k<0∨k≥21):=by simp at h1 h2;omega
   cases h3:decide (d<1)
   ·have he:zfb k d=0:=by rw [zfb,if_neg hk,if_neg (by simpa using h3)]
    rw [he,signR,zgy,if_pos he,if_pos he] at hK
    refine gq2 (zg h1 (zg h2 h3)) ?_
    refine zxv (s:=⟨k,d⟩) (zf hG) hgl ?_
    by_cases hs:(⟨k,d⟩:zR)∈g
    ·rw [decide_eq_true hs]
     rw [zmV,if_pos hs,zbF hG] at hK
     refine gq2 hb ?_
     refine zox ?_
     refine zI hl ?_
     exact hK
    ·rw [decide_eq_false hs]
     rw [zmV,if_neg hs] at hK
     have s1:∀ X τ,(σ ++ τ).set id X = σ.set id X ++ τ:=fun X τ=>zcg hG
     have L1:∀ X:zh, σ.length=(σ.set id X).length:=fun X=>by simp
     have e1:∀ X τ n,(σ.set id X ++ τ)[σ.length+n]? = τ[n]?:=fun X τ n=>by rw [L1 X];exact zx ..
     have e3:∀ X τ W,(σ.set id X ++ τ).set σ.length W = σ.set id X ++ τ.set 0 W:=fun X τ W=>by rw [L1 X];exact zL ..
     have e4:∀ X τ,(σ.set id X ++ τ)[σ.length]? = τ[0]?:=fun X τ=>by rw [L1 X];exact zy ..
     refine gq2 (zg hb (zg hlen (zg s1 (zg e1 (zg e3 e4))))) ?_
     have e:zrA g++[[D.int .i64 k,D.int .i64 d]]=zrA (g++[⟨k,d⟩]):=by simp [zrA,zaI,zgz]
     refine ⟨zjk (f:=zgz) (fun _=>rfl) g,by simp,by omega,by simp,by omega,?_⟩
     rw [e]
     exact zxo hG (by simp [zfz,dmT,dm,dm1,zcJ,zcb,zfL]) hl hK
   ·have he:zfb k d=1:=by rw [zfb,if_neg hk,if_pos (by simpa using h3)]
    have:=bad (by rw [he];decide)
    rw [he] at this
    refine gq2 (zg h1 (zg h2 h3)) ?_
    refine zox ?_
    refine zI hl ?_
    exact this
  ·have he:zfb k d=20:=by rw [zfb,if_pos (by simp at h2;omega)]
   have:=bad (by rw [he];decide)
   rw [he] at this
   refine gq2 (zg h1 h2) ?_
   refine zox ?_
   refine zI hl ?_
   exact this
 ·have he:zfb k d=20:=by rw [zfb,if_pos (by simp at h1;omega)]
  have:=bad (by rw [he];decide)
  rw [he] at this
  refine gq2 h1 ?_
  refine zox ?_
  refine zI hl ?_
  exact this
end Go.Proofs.YtfgbofkdhfjegaaGreat
