/- Contracts: the program's tables and ledgers. -/
import Derived.Test.YtfjommppajkpoaaGreatSpTab
set_option linter.all false
set_option maxRecDepth 100000
namespace Go.Proofs.YtfjommppajkpoaaGreat
open Go.AW
theorem gq1 {P Q : Prop} (h : Q) (e : Hd Q → P := by intro h; (repeat' first | simp -dsimp only [↓zgr, ↓zaF, ↓zbL, ↓zgt, ↓zgn, ↓zgl, ↓zgo, ↓zgm, ↓zbR, ↓zbN, ↓zbS, ↓zbO, ↓zgp, ↓zbJ, ↓zbT, ↓zbP, ↓zbU, ↓zbQ, ↓zgj, ↓zgq, ↓zbI, ↓zbX, ↓zgc, ↓zgb, ↓zgi,iN,bT,bF,eN, ↓zdN, ↓unC, ↓zac, ↓zQ, ↓zR, ↓zV, ↓zak, ↓zau, ↓zco, ↓zag, ↓zaJ, ↓zW, ↓zp, ↓zo, ↓zbF, ↓zl, ↓zan, ↓zF, ↓zaM, ↓zaW, ↓ze, ↓zC, ↓zu, ↓zy, ↓zav, ↓zdr, ↓zdU, ↓zat, ↓zaB, ↓zaU, ↓zbk, ↓zbv, ↓zD, ↓zaq, ↓zS, ↓zE, ↓zam,zeb,zbD,zbB,unA,zei,bnd,zeF,zai,zP,zeE,dm,dm1,zB,zal,zfg,zff,zx,Q0,Q1,Q2,Q3,Q4,Q5,zZ,zh,zm,zT,zN,Q6,Q7,Q8,Q9,Q10,Q11,Q12,Q13,Q14,Nat.reduceAdd,Q15,Int.reduceToNat,Q16,Q17,Q18,Q19,Q20,reduceIte,Q21,Q22,zH,rep,zX,zfc,toD,zah,Q23,Q24,Q25,Q26,Q27,Q28,Nat.reduceLeDiff,Q29,Nat.reduceSub,Q30,Q31,Q32,sc,Q33,Q34,Q35,Q36,Q37,Q26,Q38,Q39,zkn,zkk,zkh,zko,zdu,zkl,zki,zkm,zkj,zdt,zdv,zkp,zkq,Bool.not_true,Bool.not_false,List.length_map] | with_reducible refine zkr ?_ | fail); exact h.go) : P := e ⟨h⟩
theorem zeD {σ : List zg} {K : KT} (hK : K (.box (σ.length + 1) 0) (σ ++ zup σ.length [])) : zq Tryz.prog zaS [] σ K := by
 refine zq.weaken ?_
 refine zct zjI.is rfl (fun s => List.range' σ.length 2) fun hl _ => zjI.goes ?_
 simp only [zjW,iN,bT,bF,eN]
 refine gq1 ?_
 refine zeU (σ' := σ) (os := [.map [], .box [.exact [], .map σ.length]]) rfl rfl hl ?_ (.box _ _ (by simp)) ?_
 ·intro x hx
  simp only [List.mem_cons,List.not_mem_nil,or_false] at hx
  rcases hx with rfl | rfl
  ·intro e he; cases he
  ·intro c hc
   simp only [List.mem_cons,List.not_mem_nil,or_false] at hc
   rcases hc with rfl | rfl
   ·exact .exact _
   ·exact .map _ (by simp)
 ·refine ⟨.box (σ.length + 1) 0, σ ++ zup σ.length [], ?_,hK⟩
  refine .tokB (σ.length + 1) 0 [.exact [], .map σ.length] [] 1 (by rw [zh]; rfl) rfl (by simp) ?_
  have e : (σ ++ [zg.map [],zg.box [AV.exact [],AV.map σ.length]]).set (σ.length + 1) (.box ([AV.exact [],AV.map σ.length].set 0 (.own (σ ++ [zg.map [],zg.box [AV.exact [],AV.map σ.length]]).length []))) ++ [.tok 1 0] = σ ++ zup σ.length [] := by
   rw [zT]; simp [zup]; rfl
  rw [List.length_nil,e]
  exact .refl _ _
theorem zbn {σ : List zg} {K : KT} (hK : K (.box (σ.length + 1) 0) (σ ++ ledO σ.length [])) : zq Tryz.prog zY [] σ K := by
 refine zq.weaken ?_
 refine zct ziK.is rfl (fun s => List.range' σ.length 2) fun hl _ => ziK.goes ?_
 simp only [ziZ,iN,bT,bF,eN]
 refine gq1 ?_
 refine zeU (σ' := σ) (os := [.map [], .box [.exact [], .map σ.length]]) rfl rfl hl ?_ (.box _ _ (by simp)) ?_
 ·intro x hx
  simp only [List.mem_cons,List.not_mem_nil,or_false] at hx
  rcases hx with rfl | rfl
  ·intro e he; cases he
  ·intro c hc
   simp only [List.mem_cons,List.not_mem_nil,or_false] at hc
   rcases hc with rfl | rfl
   ·exact .exact _
   ·exact .map _ (by simp)
 ·refine ⟨.box (σ.length + 1) 0, σ ++ ledO σ.length [], ?_,hK⟩
  refine .tokB (σ.length + 1) 0 [.exact [], .map σ.length] [] 2 (by rw [zh]; rfl) rfl (by simp) ?_
  have e : (σ ++ [zg.map [],zg.box [AV.exact [],AV.map σ.length]]).set (σ.length + 1) (.box ([AV.exact [],AV.map σ.length].set 0 (.own (σ ++ [zg.map [],zg.box [AV.exact [],AV.map σ.length]]).length []))) ++ [.tok 2 0] = σ ++ ledO σ.length [] := by
   rw [zT]; simp [ledO]; rfl
  rw [List.length_nil,e]
  exact .refl _ _
theorem gq2 {A P Q : Prop} (a : A) (h : Q) (e : A → Hd Q → P := by intro a h; (repeat' first | simp -dsimp only [↓zgr, ↓zaF, ↓zbL, ↓zgt, ↓zgn, ↓zgl, ↓zgo, ↓zgm, ↓zbR, ↓zbN, ↓zbS, ↓zbO, ↓zgp, ↓zbJ, ↓zbT, ↓zbP, ↓zbU, ↓zbQ, ↓zgj, ↓zgq, ↓zbI, ↓zbX, ↓zgc, ↓zgb, ↓zgi,iN,bT,bF,eN, ↓zdN, ↓unC, ↓zac, ↓zQ, ↓zR, ↓zV, ↓zak, ↓zau, ↓zco, ↓zag, ↓zaJ, ↓zW, ↓zp, ↓zo, ↓zbF, ↓zl, ↓zan, ↓zF, ↓zaM, ↓zaW, ↓ze, ↓zC, ↓zu, ↓zy, ↓zav, ↓zdr, ↓zdU, ↓zat, ↓zaB, ↓zaU, ↓zbk, ↓zbv, ↓zD, ↓zaq, ↓zS, ↓zE, ↓zam,zeb,zbD,zbB,unA,zei,bnd,zeF,zai,zP,zeE,dm,dm1,zB,zal,zfg,zff,zx,Q0,Q1,Q2,Q3,Q4,Q5,zZ,zh,zm,zT,zN,Q6,Q7,Q8,Q9,Q10,Q11,Q12,Q13,Q14,Nat.reduceAdd,Q15,Int.reduceToNat,Q16,Q17,Q18,Q19,Q20,reduceIte,Q21,Q22,zH,rep,zX,zfc,toD,zah,Q23,Q24,Q25,Q26,Q27,Q28,Nat.reduceLeDiff,Q29,Nat.reduceSub,Q30,Q31,Q32,sc,Q33,Q34,Q35,Q36,Q37,Q26,Q38,Q39,zkn,zkk,zkh,zko,zdu,zkl,zki,zkm,zkj,zdt,zdv,zkp,zkq,Bool.not_true,Bool.not_false,List.length_map,a] | with_reducible refine zkr ?_ | fail); exact h.go) : P := e a ⟨h⟩
theorem zvh {σ : List zg} {id m t : Nat} {l : List (List UInt8)} (hT : zcd σ id m t l) {K : KT} (hK : K (.d (.bool false)) σ) : zq Tryz.prog zbm [.box id 0] σ K := by
 refine zec zhS fun hl => ?_
 have hb := hT.box
 simp only [zfb,iN,bT,bF,eN]
 refine gq2 hb ?_
 refine zK hl ?_
 exact hK
theorem zvq {σ : List zg} {id m t : Nat} {g : List zI} (hG : zea σ id m t g) {K : KT} (hK : K (.d (.bool false)) σ) : zq Tryz.prog zbc [.box id 0] σ K := by
 refine zec zhw fun hl => ?_
 have hb := hG.box
 simp only [zey,iN,bT,bF,eN]
 refine gq2 hb ?_
 refine zK hl ?_
 exact hK
theorem zc {A B : Prop} (a : A) (b : B) : A ∧ B := ⟨a,b⟩
theorem gq3 {A P Q : Prop} (a : A) (h : Q) (e : A → Hd Q → P := by intro a h; (repeat' first | simp -dsimp only [↓zgr, ↓zaF, ↓zbL, ↓zgt, ↓zgn, ↓zgl, ↓zgo, ↓zgm, ↓zbR, ↓zbN, ↓zbS, ↓zbO, ↓zgp, ↓zbJ, ↓zbT, ↓zbP, ↓zbU, ↓zbQ, ↓zgj, ↓zgq, ↓zbI, ↓zbX, ↓zgc, ↓zgb, ↓zgi,iN,bT,bF,eN, ↓zdN, ↓unC, ↓zac, ↓zQ, ↓zR, ↓zV, ↓zak, ↓zau, ↓zco, ↓zag, ↓zaJ, ↓zW, ↓zp, ↓zo, ↓zbF, ↓zl, ↓zan, ↓zF, ↓zaM, ↓zaW, ↓ze, ↓zC, ↓zu, ↓zy, ↓zav, ↓zdr, ↓zdU, ↓zat, ↓zaB, ↓zaU, ↓zbk, ↓zbv, ↓zD, ↓zaq, ↓zS, ↓zE, ↓zam,zeb,zbD,zbB,unA,zei,bnd,zeF,zai,zP,zeE,dm,dm1,zB,zal,zfg,zff,zx,Q0,Q1,Q2,Q3,Q4,Q5,zZ,zh,zm,zT,zN,Q6,Q7,Q8,Q9,Q10,Q11,Q12,Q13,Q14,Nat.reduceAdd,Q15,Int.reduceToNat,Q16,Q17,Q18,Q19,Q20,reduceIte,Q21,Q22,zH,rep,zX,zfc,toD,zah,Q23,Q24,Q25,Q26,Q27,Q28,Nat.reduceLeDiff,Q29,Nat.reduceSub,Q30,Q31,Q32,sc,Q33,Q34,Q35,Q36,Q37,Q26,Q38,Q39,zkn,zkk,zkh,zko,zdu,zkl,zki,zkm,zkj,zdt,zdv,zkp,zkq,Bool.not_true,Bool.not_false,List.length_map,Bool.and_false,Bool.and_self,Bool.false_and,Bool.not_false,Bool.not_true,Bool.true_and,Int.toNat_natCast,Int.toNat_zero,List.drop_zero,List.length_map,List.length_nil,List.nil_append,List.take_length,Nat.sub_zero,Nat.zero_add,Option.isSome_none,Option.isSome_some,Option.map_none,Option.map_some,zaH,beq_self_eq_true,bne_self_eq_false,zmX,zej,zeC,zaU,mgetR,zbk,a] | with_reducible refine zkr ?_ | fail); exact h.go) : P := e a ⟨h⟩
theorem zmW {σ : List zg} {id m t : Nat} {l : List (List UInt8)} {b : List UInt8} (hT : zcd σ id m t l) {K : KT} (hK : K (.tup [.d (.int .i64 (zji (zcN l b))), .d (.bool (zcN l b).isSome)]) σ) :
  zq Tryz.prog zaK [.box id 0, .d (.slice (bcs b))] σ K := by
 refine zga znL fun hl => ?_
 have hb := hT.box
 have hm := hT.map
 have hf := mfind_tab l b
 simp only [zhZ,iN,bT,bF,eN]
 refine gq1 ?_
 refine zvh hT ?_
 cases ho : zcN l b with
 | none =>
  rw [ho] at hf hK
  simp only [Option.map_none] at hf
  refine gq3 (zc hb (zc hm hf)) ?_
  refine zK hl ?_
  exact hK
 | some k =>
  rw [ho] at hf hK
  simp only [Option.map_some] at hf
  refine gq3 (zc hb (zc hm hf)) ?_
  refine zK hl ?_
  exact hK
theorem c_tLen {σ : List zg} {id m t : Nat} {l : List (List UInt8)} (hT : zcd σ id m t l) {K : KT} (hK : K (.d (.int .i64 l.length)) σ) : zq Tryz.prog zfv [.box id 0] σ K := by
 refine zec zpe fun hl => ?_
 have hb := hT.box
 simp only [ziY,iN,bT,bF,eN]
 refine gq1 ?_
 refine zvh hT ?_
 refine gq2 hb ?_
 refine zK hl ?_
 exact hK
theorem c_gLen {σ : List zg} {id m t : Nat} {g : List zI} (hG : zea σ id m t g) {K : KT} (hK : K (.d (.int .i64 g.length)) σ) : zq Tryz.prog zdq [.box id 0] σ K := by
 refine zec znM fun hl => ?_
 have hb := hG.box
 simp only [zia,iN,bT,bF,eN]
 refine gq1 ?_
 refine zvq hG ?_
 refine gq2 hb ?_
 refine zK hl ?_
 exact hK
theorem gq4 {A P Q : Prop} (a : A) (h : Q) (e : A → Hd Q → P := by intro a h; (repeat' first | simp -dsimp only [↓zgr, ↓zaF, ↓zbL, ↓zgt, ↓zgn, ↓zgl, ↓zgo, ↓zgm, ↓zbR, ↓zbN, ↓zbS, ↓zbO, ↓zgp, ↓zbJ, ↓zbT, ↓zbP, ↓zbU, ↓zbQ, ↓zgj, ↓zgq, ↓zbI, ↓zbX, ↓zgc, ↓zgb, ↓zgi,iN,bT,bF,eN, ↓zdN, ↓unC, ↓zac, ↓zQ, ↓zR, ↓zV, ↓zak, ↓zau, ↓zco, ↓zag, ↓zaJ, ↓zW, ↓zp, ↓zo, ↓zbF, ↓zl, ↓zan, ↓zF, ↓zaM, ↓zaW, ↓ze, ↓zC, ↓zu, ↓zy, ↓zav, ↓zdr, ↓zdU, ↓zat, ↓zaB, ↓zaU, ↓zbk, ↓zbv, ↓zD, ↓zaq, ↓zS, ↓zE, ↓zam,zeb,zbD,zbB,unA,zei,bnd,zeF,zai,zP,zeE,dm,dm1,zB,zal,zfg,zff,zx,Q0,Q1,Q2,Q3,Q4,Q5,zZ,zh,zm,zT,zN,Q6,Q7,Q8,Q9,Q10,Q11,Q12,Q13,Q14,Nat.reduceAdd,Q15,Int.reduceToNat,Q16,Q17,Q18,Q19,Q20,reduceIte,Q21,Q22,zH,rep,zX,zfc,toD,zah,Q23,Q24,Q25,Q26,Q27,Q28,Nat.reduceLeDiff,Q29,Nat.reduceSub,Q30,Q31,Q32,sc,Q33,Q34,Q35,Q36,Q37,Q26,Q38,Q39,zkn,zkk,zkh,zko,zdu,zkl,zki,zkm,zkj,zdt,zdv,zkp,zkq,Bool.not_true,Bool.not_false,List.length_map,Bool.and_false,Bool.and_self,Bool.false_and,Bool.not_false,Bool.not_true,Bool.true_and,Int.toNat_natCast,Int.toNat_zero,List.drop_zero,List.length_map,List.length_nil,List.nil_append,List.take_length,Nat.sub_zero,Nat.zero_add,Option.isSome_none,Option.isSome_some,Option.map_none,Option.map_some,zaH,beq_self_eq_true,bne_self_eq_false,zmX,zcl,zej,zcv,zeC,zaU,mgetR,zbk,zji,opA,zfI,zeI,a] | with_reducible refine zkr ?_ | fail); exact h.go) : P := e a ⟨h⟩
theorem c_gSigned {σ : List zg} {id m t : Nat} {g : List zI} {s : zI} (hG : zea σ id m t g) {K : KT} (hK : K (.d (.bool (decide (s ∈ g)))) σ) :
  zq Tryz.prog zdF [.box id 0, .agg [.d (.int .i64 s.key), .d (.int .i64 s.dig)]] σ K := by
 refine zga zkV fun hl => ?_
 have hb : ∀ τ,(σ ++ τ)[id]? = _ := fun τ => zf hG.box
 have hm : ∀ τ,(σ ++ τ)[m]? = _ := fun τ => zf hG.map
 simp only [zfY,iN,bT,bF,eN]
 refine gq1 ?_
 refine zvq (hG.app _) ?_
 by_cases hs : s ∈ g
 ·obtain ⟨k,hf⟩ := znu hs
  rw [decide_eq_true hs] at hK
  refine gq4 (zc hb (zc hm hf)) ?_
  refine zK hl ?_
  exact hK
 ·have hf := zps hs
  rw [decide_eq_false hs] at hK
  refine gq4 (zc hb (zc hm hf)) ?_
  refine zK hl ?_
  exact hK
theorem ztJ {σ : List zg} {id m t : Nat} {l : List (List UInt8)} {b : List UInt8} (hT : zcd σ id m t l) (hbl : b.length ≤ 1073741824) (hll : l.length ≤ 1048576) {K : KT}
  (hK : K (.d (.int .i64 (zee l b))) (putTab σ id m t (zfe l b))) : zq Tryz.prog zbw [.box id 0, .d (.slice (bcs b))] σ K := by
 refine zga zpd fun hl => ?_
 have hb := hT.box
 have hm := hT.map
 have ht := hT.tok
 have hf := mfind_tab l b
 obtain ⟨n1,n2,n3⟩ := hT.ne
 have hlen : (zdo l).length = l.length := List.length_map ..
 simp only [ziX,iN,bT,bF,eN]
 refine gq1 ?_
 refine zvh hT ?_
 cases ho : zcN l b with
 | some k =>
  rw [ho] at hf
  simp only [zee,zfe,ho] at hK
  rw [hT.self] at hK
  simp only [Option.map_some] at hf
  refine gq3 (zc hb (zc hm hf)) ?_
  refine zK hl ?_
  exact hK
 | none =>
  rw [ho] at hf
  simp only [zee,zfe,ho] at hK
  simp only [Option.map_none] at hf
  by_cases hfull : l.length ≥ 1048576
  ·rw [if_pos hfull,if_pos hfull,hT.self] at hK
   have hd : decide ((l.length : Int) ≥ 1048576) = true := by simp; omega
   refine gq3 (zc hb (zc hm (zc hf (zc hlen hd)))) ?_
   refine zK hl ?_
   exact hK
  ·rw [if_neg hfull,if_neg hfull] at hK
   have hd : decide ((l.length : Int) ≥ 1048576) = false := by simp; omega
   have g1 : ∀ τ,(σ ++ τ)[id]? = some (.box [.own t (zdo l), .map m]) := fun τ => zf hb
   have g2 : ∀ τ,(σ ++ τ)[t]? = some (.tok 1 l.length) := fun τ => zf ht
   have s1 : ∀ X τ,(σ ++ τ).set t X = σ.set t X ++ τ := fun X τ => zbz ht
   have hb' : ∀ X,(σ.set t X)[id]? = some (.box [.own t (zdo l), .map m]) := fun X => by rw [List.getElem?_set_ne (Ne.symm n2)]; exact hb
   have g3 : ∀ X τ,(σ.set t X ++ τ)[id]? = some (.box [.own t (zdo l), .map m]) := fun X τ => zf (hb' X)
   have s2 : ∀ X Y τ,(σ.set t X ++ τ).set id Y = (σ.set t X).set id Y ++ τ := fun X Y τ => zbz (hb' X)
   have g4 : ∀ X Y τ,((σ.set t X).set id Y ++ τ)[id]? = some Y := fun X Y τ => zf (zbs (hb' X))
   have hm' : ∀ X Y,((σ.set t X).set id Y)[m]? = some (.map (tabM l)) := fun X Y => by rw [List.getElem?_set_ne n1,List.getElem?_set_ne (Ne.symm n3)]; exact hm
   have g5 : ∀ X Y τ,((σ.set t X).set id Y ++ τ)[m]? = some (.map (tabM l)) := fun X Y τ => zf (hm' X Y)
   have s3 : ∀ X Y Z τ,((σ.set t X).set id Y ++ τ).set m Z = ((σ.set t X).set id Y).set m Z ++ τ := fun X Y Z τ => zbz (hm' X Y)
   refine gq3 (zc hb (zc hm (zc hf (zc hlen hd)))) ?_
   refine zvr zgs (by rw [zaH]; omega) ?_
   refine gq3 (zc g1 (zc g2 (zc s1 (zc g3 (zc s2 (zc g4 (zc g5 (zc s3 (zc hf hlen))))))))) ?_
   refine ⟨hb.symm,by simp,by omega, ?_⟩
   have e : putTab σ id m t (l ++ [b]) = ((σ.set t (zg.tok 1 (l.length + 1))).set id (zg.box [AV.own t (zdo l ++ [[D.slice (bcs b)]]),AV.map m])).set m (zg.map (tabM l ++ [(AV.d (D.str b),AV.d (D.int IntKind.i64 ((l.length + 1 : Nat) : Int)))])) := by
    simp [putTab,tabM_add,zdo]
    rw [← tabM_add]; simp
   rw [← e]
   exact zcY (zcr ..) (by simp [zcO,dmT,dm,dm1,zbY]) (hT.lows hl _) hK
end Go.Proofs.YtfjommppajkpoaaGreat
