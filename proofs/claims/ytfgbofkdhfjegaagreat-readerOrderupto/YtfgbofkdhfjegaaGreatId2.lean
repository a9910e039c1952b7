/- Contracts: the program's tables and ledgers. -/
import Derived.Test.YtfgbofkdhfjegaaGreatSpTab
set_option linter.all false
set_option maxRecDepth 100000
namespace Go.Proofs.YtfgbofkdhfjegaaGreat
open Go.AW
theorem gq1 {P Q : Prop} (h : Q) (e : Hd Q → P := by intro h; (repeat' first | simp -dsimp only [↓zeY, ↓zaC, ↓zbz, ↓zeZ, ↓zeU, ↓zeS, ↓zeV, ↓zeT, ↓zbE, ↓zbA, ↓zbF, ↓zbB, ↓zeW, ↓zby, ↓zbG, ↓zbC, ↓zbH, ↓zbD, ↓zeR, ↓zeX, ↓zbx, ↓zbJ, ↓zeP, ↓zeO, ↓zeQ,iN,bT,bF,eN, ↓zcF, ↓unC, ↓zW, ↓zK, ↓zL, ↓zN, ↓zad, ↓zax, ↓zcB, ↓zal, ↓zbj, ↓zQ, ↓zo, ↓zj, ↓zbr, ↓zg, ↓zai, ↓zH, ↓zaM, ↓zaV, ↓ze, ↓zD, ↓zw, ↓zB, ↓zao, ↓zdb, ↓zdx, ↓zaq, ↓zay, ↓zaU, ↓zbd, ↓zbl, ↓zu, ↓zan, ↓zM, ↓zE, ↓zaa,zdz,zbq,zbn,unA,zdy,bnd,zec,zaf,zS,zdY,dm,dm1,zC,zah,zen,zem,zP,Q0,Q1,Q2,Q3,Q4,Q5,zT,zx,zy,zO,zI,Q6,Q7,Q8,Q9,Q10,Q11,Q12,Q13,Q14,Nat.reduceAdd,Q15,Int.reduceToNat,Q16,Q17,Q18,Q19,Q20,reduceIte,Q21,Q22,zG,rep,zZ,zeF,toD,zaj,Q23,Q24,Q25,Q26,Q27,Q28,Nat.reduceLeDiff,Q29,Nat.reduceSub,Q30,Q31,Q32,sc,Q33,Q34,Q35,Q36,Q37,Q26,Q38,Q39,zii,zif,zic,zij,zcN,zig,zid,zih,zie,zcM,zcO,zim,zin,Bool.not_true,Bool.not_false,List.length_map] | with_reducible refine zix ?_ | fail); exact h.go) : P := e ⟨h⟩
theorem zuV {σ : List zh} {K : KT} (hK : K (.box (σ.length + 1) 0) (σ ++ tabO σ.length [])) : zr Tryz.prog zfq [] σ K := by
 refine zr.weaken ?_
 refine zce zlh.is rfl (fun s => List.range' σ.length 2) fun hl _ => zlh.goes ?_
 simp only [zlt,iN,bT,bF,eN]
 refine gq1 ?_
 refine zdd (σ' := σ) (os := [.map [], .box [.exact [], .map σ.length]]) rfl rfl hl ?_ (.box _ _ (by simp)) ?_
 ·intro x hx
  simp only [List.mem_cons,List.not_mem_nil,or_false] at hx
  rcases hx with rfl | rfl
  ·intro e he; cases he
  ·intro c hc
   simp only [List.mem_cons,List.not_mem_nil,or_false] at hc
   rcases hc with rfl | rfl
   ·exact .exact _
   ·exact .map _ (by simp)
 ·refine ⟨.box (σ.length + 1) 0, σ ++ tabO σ.length [], ?_,hK⟩
  refine .tokB (σ.length + 1) 0 [.exact [], .map σ.length] [] 1 (by rw [zx]; rfl) rfl (by simp) ?_
  have e : (σ ++ [zh.map [],zh.box [AV.exact [],AV.map σ.length]]).set (σ.length + 1) (.box ([AV.exact [],AV.map σ.length].set 0 (.own (σ ++ [zh.map [],zh.box [AV.exact [],AV.map σ.length]]).length []))) ++ [.tok 1 0] = σ ++ tabO σ.length [] := by
   rw [zO]; simp [tabO]; rfl
  rw [List.length_nil,e]
  exact .refl _ _
theorem ztd {σ : List zh} {K : KT} (hK : K (.box (σ.length + 1) 0) (σ ++ ledO σ.length [])) : zr Tryz.prog zeA [] σ K := by
 refine zr.weaken ?_
 refine zce zjY.is rfl (fun s => List.range' σ.length 2) fun hl _ => zjY.goes ?_
 simp only [zkp,iN,bT,bF,eN]
 refine gq1 ?_
 refine zdd (σ' := σ) (os := [.map [], .box [.exact [], .map σ.length]]) rfl rfl hl ?_ (.box _ _ (by simp)) ?_
 ·intro x hx
  simp only [List.mem_cons,List.not_mem_nil,or_false] at hx
  rcases hx with rfl | rfl
  ·intro e he; cases he
  ·intro c hc
   simp only [List.mem_cons,List.not_mem_nil,or_false] at hc
   rcases hc with rfl | rfl
   ·exact .exact _
   ·exact .map _ (by simp)
 ·refine ⟨.box (σ.length + 1) 0, σ ++ ledO σ.length [], ?_,hK⟩
  refine .tokB (σ.length + 1) 0 [.exact [], .map σ.length] [] 2 (by rw [zx]; rfl) rfl (by simp) ?_
  have e : (σ ++ [zh.map [],zh.box [AV.exact [],AV.map σ.length]]).set (σ.length + 1) (.box ([AV.exact [],AV.map σ.length].set 0 (.own (σ ++ [zh.map [],zh.box [AV.exact [],AV.map σ.length]]).length []))) ++ [.tok 2 0] = σ ++ ledO σ.length [] := by
   rw [zO]; simp [ledO]; rfl
  rw [List.length_nil,e]
  exact .refl _ _
theorem gq2 {A P Q : Prop} (a : A) (h : Q) (e : A → Hd Q → P := by intro a h; (repeat' first | simp -dsimp only [↓zeY, ↓zaC, ↓zbz, ↓zeZ, ↓zeU, ↓zeS, ↓zeV, ↓zeT, ↓zbE, ↓zbA, ↓zbF, ↓zbB, ↓zeW, ↓zby, ↓zbG, ↓zbC, ↓zbH, ↓zbD, ↓zeR, ↓zeX, ↓zbx, ↓zbJ, ↓zeP, ↓zeO, ↓zeQ,iN,bT,bF,eN, ↓zcF, ↓unC, ↓zW, ↓zK, ↓zL, ↓zN, ↓zad, ↓zax, ↓zcB, ↓zal, ↓zbj, ↓zQ, ↓zo, ↓zj, ↓zbr, ↓zg, ↓zai, ↓zH, ↓zaM, ↓zaV, ↓ze, ↓zD, ↓zw, ↓zB, ↓zao, ↓zdb, ↓zdx, ↓zaq, ↓zay, ↓zaU, ↓zbd, ↓zbl, ↓zu, ↓zan, ↓zM, ↓zE, ↓zaa,zdz,zbq,zbn,unA,zdy,bnd,zec,zaf,zS,zdY,dm,dm1,zC,zah,zen,zem,zP,Q0,Q1,Q2,Q3,Q4,Q5,zT,zx,zy,zO,zI,Q6,Q7,Q8,Q9,Q10,Q11,Q12,Q13,Q14,Nat.reduceAdd,Q15,Int.reduceToNat,Q16,Q17,Q18,Q19,Q20,reduceIte,Q21,Q22,zG,rep,zZ,zeF,toD,zaj,Q23,Q24,Q25,Q26,Q27,Q28,Nat.reduceLeDiff,Q29,Nat.reduceSub,Q30,Q31,Q32,sc,Q33,Q34,Q35,Q36,Q37,Q26,Q38,Q39,zii,zif,zic,zij,zcN,zig,zid,zih,zie,zcM,zcO,zim,zin,Bool.not_true,Bool.not_false,List.length_map,a] | with_reducible refine zix ?_ | fail); exact h.go) : P := e a ⟨h⟩
theorem zwe {σ : List zh} {id m t : Nat} {l : List (List UInt8)} (hT : zdo σ id m t l) {K : KT} (hK : K (.d (.bool false)) σ) : zr Tryz.prog zcv [.box id 0] σ K := by
 refine zgk zpf fun hl => ?_
 have hb := hT.box
 simp only [zjl,iN,bT,bF,eN]
 refine gq2 hb ?_
 refine zV hl ?_
 exact hK
theorem zwo {σ : List zh} {id m t : Nat} {g : List zJ} (hG : zee σ id m t g) {K : KT} (hK : K (.d (.bool false)) σ) : zr Tryz.prog zck [.box id 0] σ K := by
 refine zgk zoj fun hl => ?_
 have hb := hG.box
 simp only [ziI,iN,bT,bF,eN]
 refine gq2 hb ?_
 refine zV hl ?_
 exact hK
theorem zf {A B : Prop} (a : A) (b : B) : A ∧ B := ⟨a,b⟩
theorem gq3 {A P Q : Prop} (a : A) (h : Q) (e : A → Hd Q → P := by intro a h; (repeat' first | simp -dsimp only [↓zeY, ↓zaC, ↓zbz, ↓zeZ, ↓zeU, ↓zeS, ↓zeV, ↓zeT, ↓zbE, ↓zbA, ↓zbF, ↓zbB, ↓zeW, ↓zby, ↓zbG, ↓zbC, ↓zbH, ↓zbD, ↓zeR, ↓zeX, ↓zbx, ↓zbJ, ↓zeP, ↓zeO, ↓zeQ,iN,bT,bF,eN, ↓zcF, ↓unC, ↓zW, ↓zK, ↓zL, ↓zN, ↓zad, ↓zax, ↓zcB, ↓zal, ↓zbj, ↓zQ, ↓zo, ↓zj, ↓zbr, ↓zg, ↓zai, ↓zH, ↓zaM, ↓zaV, ↓ze, ↓zD, ↓zw, ↓zB, ↓zao, ↓zdb, ↓zdx, ↓zaq, ↓zay, ↓zaU, ↓zbd, ↓zbl, ↓zu, ↓zan, ↓zM, ↓zE, ↓zaa,zdz,zbq,zbn,unA,zdy,bnd,zec,zaf,zS,zdY,dm,dm1,zC,zah,zen,zem,zP,Q0,Q1,Q2,Q3,Q4,Q5,zT,zx,zy,zO,zI,Q6,Q7,Q8,Q9,Q10,Q11,Q12,Q13,Q14,Nat.reduceAdd,Q15,Int.reduceToNat,Q16,Q17,Q18,Q19,Q20,reduceIte,Q21,Q22,zG,rep,zZ,zeF,toD,zaj,Q23,Q24,Q25,Q26,Q27,Q28,Nat.reduceLeDiff,Q29,Nat.reduceSub,Q30,Q31,Q32,sc,Q33,Q34,Q35,Q36,Q37,Q26,Q38,Q39,zii,zif,zic,zij,zcN,zig,zid,zih,zie,zcM,zcO,zim,zin,Bool.not_true,Bool.not_false,List.length_map,Bool.and_false,Bool.and_self,Bool.false_and,Bool.not_false,Bool.not_true,Bool.true_and,Int.toNat_natCast,Int.toNat_zero,List.drop_zero,List.length_map,List.length_nil,List.nil_append,List.take_length,Nat.sub_zero,Nat.zero_add,Option.isSome_none,Option.isSome_some,Option.map_none,Option.map_some,zaJ,beq_self_eq_true,bne_self_eq_false,ziw,zfe,zfY,zaU,mgetR,zbd,a] | with_reducible refine zix ?_ | fail); exact h.go) : P := e a ⟨h⟩
theorem zoq {σ : List zh} {id m t : Nat} {l : List (List UInt8)} {b : List UInt8} (hT : zdo σ id m t l) {K : KT} (hK : K (.tup [.d (.int .i64 (zjH (zdc l b))), .d (.bool (zdc l b).isSome)]) σ) :
  zr Tryz.prog zbi [.box id 0, .d (.slice (bcs b))] σ K := by
 refine zfJ zpg fun hl => ?_
 have hb := hT.box
 have hm := hT.map
 have hf := mfind_tab l b
 simp only [zjm,iN,bT,bF,eN]
 refine gq1 ?_
 refine zwe hT ?_
 cases ho : zdc l b with
 | none =>
  rw [ho] at hf hK
  simp only [Option.map_none] at hf
  refine gq3 (zf hb (zf hm hf)) ?_
  refine zV hl ?_
  exact hK
 | some k =>
  rw [ho] at hf hK
  simp only [Option.map_some] at hf
  refine gq3 (zf hb (zf hm hf)) ?_
  refine zV hl ?_
  exact hK
theorem c_tLen {σ : List zh} {id m t : Nat} {l : List (List UInt8)} (hT : zdo σ id m t l) {K : KT} (hK : K (.d (.int .i64 l.length)) σ) : zr Tryz.prog zgz [.box id 0] σ K := by
 refine zgk zqs fun hl => ?_
 have hb := hT.box
 simp only [zko,iN,bT,bF,eN]
 refine gq1 ?_
 refine zwe hT ?_
 refine gq2 hb ?_
 refine zV hl ?_
 exact hK
theorem c_gLen {σ : List zh} {id m t : Nat} {g : List zJ} (hG : zee σ id m t g) {K : KT} (hK : K (.d (.int .i64 g.length)) σ) : zr Tryz.prog zfW [.box id 0] σ K := by
 refine zgk zph fun hl => ?_
 have hb := hG.box
 simp only [zjn,iN,bT,bF,eN]
 refine gq1 ?_
 refine zwo hG ?_
 refine gq2 hb ?_
 refine zV hl ?_
 exact hK
theorem gq4 {A P Q : Prop} (a : A) (h : Q) (e : A → Hd Q → P := by intro a h; (repeat' first | simp -dsimp only [↓zeY, ↓zaC, ↓zbz, ↓zeZ, ↓zeU, ↓zeS, ↓zeV, ↓zeT, ↓zbE, ↓zbA, ↓zbF, ↓zbB, ↓zeW, ↓zby, ↓zbG, ↓zbC, ↓zbH, ↓zbD, ↓zeR, ↓zeX, ↓zbx, ↓zbJ, ↓zeP, ↓zeO, ↓zeQ,iN,bT,bF,eN, ↓zcF, ↓unC, ↓zW, ↓zK, ↓zL, ↓zN, ↓zad, ↓zax, ↓zcB, ↓zal, ↓zbj, ↓zQ, ↓zo, ↓zj, ↓zbr, ↓zg, ↓zai, ↓zH, ↓zaM, ↓zaV, ↓ze, ↓zD, ↓zw, ↓zB, ↓zao, ↓zdb, ↓zdx, ↓zaq, ↓zay, ↓zaU, ↓zbd, ↓zbl, ↓zu, ↓zan, ↓zM, ↓zE, ↓zaa,zdz,zbq,zbn,unA,zdy,bnd,zec,zaf,zS,zdY,dm,dm1,zC,zah,zen,zem,zP,Q0,Q1,Q2,Q3,Q4,Q5,zT,zx,zy,zO,zI,Q6,Q7,Q8,Q9,Q10,Q11,Q12,Q13,Q14,Nat.reduceAdd,Q15,Int.reduceToNat,Q16,Q17,Q18,Q19,Q20,reduceIte,Q21,Q22,zG,rep,zZ,zeF,toD,zaj,Q23,Q24,Q25,Q26,Q27,Q28,Nat.reduceLeDiff,Q29,Nat.reduceSub,Q30,Q31,Q32,sc,Q33,Q34,Q35,Q36,Q37,Q26,Q38,Q39,zii,zif,zic,zij,zcN,zig,zid,zih,zie,zcM,zcO,zim,zin,Bool.not_true,Bool.not_false,List.length_map,Bool.and_false,Bool.and_self,Bool.false_and,Bool.not_false,Bool.not_true,Bool.true_and,Int.toNat_natCast,Int.toNat_zero,List.drop_zero,List.length_map,List.length_nil,List.nil_append,List.take_length,Nat.sub_zero,Nat.zero_add,Option.isSome_none,Option.isSome_some,Option.map_none,Option.map_some,zaJ,beq_self_eq_true,bne_self_eq_false,ziw,zcr,zer,zfe,zhk,zdU,zfY,zaU,mgetR,zbd,zjH,opA,znM,zhU,zch,a] | with_reducible refine zix ?_ | fail); exact h.go) : P := e a ⟨h⟩
theorem c_gSigned {σ : List zh} {id m t : Nat} {g : List zJ} {s : zJ} (hG : zee σ id m t g) {K : KT} (hK : K (.d (.bool (decide (s ∈ g)))) σ) :
  zr Tryz.prog zel [.box id 0, .agg [.d (.int .i64 s.key), .d (.int .i64 s.dig)]] σ K := by
 refine zfJ zmg fun hl => ?_
 have hb : ∀ τ,(σ ++ τ)[id]? = _ := fun τ => zd hG.box
 have hm : ∀ τ,(σ ++ τ)[m]? = _ := fun τ => zd hG.map
 simp only [zha,iN,bT,bF,eN]
 refine gq1 ?_
 refine zwo (hG.app _) ?_
 by_cases hs : s ∈ g
 ·obtain ⟨k,hf⟩ := zoN hs
  rw [decide_eq_true hs] at hK
  refine gq4 (zf hb (zf hm hf)) ?_
  refine zV hl ?_
  exact hK
 ·have hf := zqK hs
  rw [decide_eq_false hs] at hK
  refine gq4 (zf hb (zf hm hf)) ?_
  refine zV hl ?_
  exact hK
theorem c_tSum {σ : List zh} {id m t : Nat} {l : List (List UInt8)} {b : List UInt8} (hT : zdo σ id m t l) (hbl : b.length ≤ 1073741824) (hll : l.length ≤ 1048576) {K : KT}
  (hK : K (.d (.int .i64 (zdA l b))) (putTab σ id m t (zeG l b))) : zr Tryz.prog zez [.box id 0, .d (.slice (bcs b))] σ K := by
 refine zfJ zqr fun hl => ?_
 have hb := hT.box
 have hm := hT.map
 have ht := hT.tok
 have hf := mfind_tab l b
 obtain ⟨n1,n2,n3⟩ := hT.ne
 have hlen : (zgH l).length = l.length := List.length_map ..
 simp only [zkn,iN,bT,bF,eN]
 refine gq1 ?_
 refine zwe hT ?_
 cases ho : zdc l b with
 | some k =>
  rw [ho] at hf
  simp only [zdA,zeG,ho] at hK
  rw [hT.self] at hK
  simp only [Option.map_some] at hf
  refine gq3 (zf hb (zf hm hf)) ?_
  refine zV hl ?_
  exact hK
 | none =>
  rw [ho] at hf
  simp only [zdA,zeG,ho] at hK
  simp only [Option.map_none] at hf
  by_cases hfull : l.length ≥ 1048576
  ·rw [if_pos hfull,if_pos hfull,hT.self] at hK
   have hd : decide ((l.length : Int) ≥ 1048576) = true := by simp; omega
   refine gq3 (zf hb (zf hm (zf hf (zf hlen hd)))) ?_
   refine zV hl ?_
   exact hK
  ·rw [if_neg hfull,if_neg hfull] at hK
   have hd : decide ((l.length : Int) ≥ 1048576) = false := by simp; omega
   have g1 : ∀ τ,(σ ++ τ)[id]? = some (.box [.own t (zgH l), .map m]) := fun τ => zd hb
   have g2 : ∀ τ,(σ ++ τ)[t]? = some (.tok 1 l.length) := fun τ => zd ht
   have s1 : ∀ X τ,(σ ++ τ).set t X = σ.set t X ++ τ := fun X τ => zbZ ht
   have hb' : ∀ X,(σ.set t X)[id]? = some (.box [.own t (zgH l), .map m]) := fun X => by rw [List.getElem?_set_ne (Ne.symm n2)]; exact hb
   have g3 : ∀ X τ,(σ.set t X ++ τ)[id]? = some (.box [.own t (zgH l), .map m]) := fun X τ => zd (hb' X)
   have s2 : ∀ X Y τ,(σ.set t X ++ τ).set id Y = (σ.set t X).set id Y ++ τ := fun X Y τ => zbZ (hb' X)
   have g4 : ∀ X Y τ,((σ.set t X).set id Y ++ τ)[id]? = some Y := fun X Y τ => zd (zbu (hb' X))
   have hm' : ∀ X Y,((σ.set t X).set id Y)[m]? = some (.map (tabM l)) := fun X Y => by rw [List.getElem?_set_ne n1,List.getElem?_set_ne (Ne.symm n3)]; exact hm
   have g5 : ∀ X Y τ,((σ.set t X).set id Y ++ τ)[m]? = some (.map (tabM l)) := fun X Y τ => zd (hm' X Y)
   have s3 : ∀ X Y Z τ,((σ.set t X).set id Y ++ τ).set m Z = ((σ.set t X).set id Y).set m Z ++ τ := fun X Y Z τ => zbZ (hm' X Y)
   refine gq3 (zf hb (zf hm (zf hf (zf hlen hd)))) ?_
   refine zwp zgd (by rw [zaJ]; omega) ?_
   refine gq3 (zf g1 (zf g2 (zf s1 (zf g3 (zf s2 (zf g4 (zf g5 (zf s3 (zf hf hlen))))))))) ?_
   refine ⟨hb.symm,by simp,by omega, ?_⟩
   have e : putTab σ id m t (l ++ [b]) = ((σ.set t (zh.tok 1 (l.length + 1))).set id (zh.box [AV.own t (zgH l ++ [[D.slice (bcs b)]]),AV.map m])).set m (zh.map (tabM l ++ [(AV.d (D.str b),AV.d (D.int IntKind.i64 ((l.length + 1 : Nat) : Int)))])) := by
    simp [putTab,tabM_add,zgH]
    rw [← tabM_add]; simp
   rw [← e]
   exact zef (putTab_len ..) (by simp [zeD,dmT,dm,dm1,zcC]) (hT.lows hl _) hK
def zvx (s : zJ) : AV := .agg [.d (.int .i64 s.key), .d (.int .i64 s.dig)]
def signR (k d : Int) : zJ := if zeh k d = 0 then ⟨k,d⟩ else ⟨0, 0⟩
def zfI (g : List zJ) (k d : Int) : List zJ := if zeh k d = 0 then zly g ⟨k,d⟩ else g
theorem c_gSign {σ : List zh} {id m t : Nat} {g : List zJ} {k d : Int} (hG : zee σ id m t g) (hgl : g.length ≤ 1073741824) {K : KT}
  (hK : K (.tup [zvx (signR k d), .d (.int .i64 (zeh k d))]) (putLed σ id m t (zfI g k d))) : zr Tryz.prog zdL [.box id 0, .d (.int .i64 k), .d (.int .i64 d)] σ K := by
 refine acE3 zok fun hl => ?_
 have hb : ∀ τ,(σ ++ τ)[id]? = some (.box [.own t (zpH g), .map m]) := fun τ => zd hG.box
 have hm : ∀ τ,(σ ++ τ)[m]? = some (.map (ztE g)) := fun τ => zd hG.map
 obtain ⟨n1,n2,n3⟩ := hG.ne
 have hlen : (zpH g).length = g.length := List.length_map ..
 have bad : zeh k d ≠ 0 → K (.tup [.agg [.d (.int .i64 0), .d (.int .i64 0)], .d (.int .i64 (zeh k d))]) σ := fun h => by
  rw [signR,zfI,if_neg h,if_neg h,hG.self] at hK
  exact hK
 simp only [ziJ,iN,bT,bF,eN]
 refine gq1 ?_
 refine zwo (hG.app _) ?_
 cases h1 : decide (k < 0)
 ·cases h2 : decide (k ≥ 21)
  ·have hk : ¬ (k < 0 ∨ k ≥ 21) := by simp at h1 h2; omega
   cases h3 : decide (d < 1)
   ·have he : zeh k d = 0 := by rw [zeh,if_neg hk,if_neg (by simpa using h3)]
    rw [he,signR,zfI,if_pos he,if_pos he] at hK
    by_cases hs : (⟨k,d⟩ : zJ) ∈ g
    ·obtain ⟨j,hf⟩ := zoN hs
     simp only at hf
     rw [zly,if_pos hs,hG.self] at hK
     refine gq4 (zf h1 (zf h2 (zf h3 (zf hb (zf hm hf))))) ?_
     refine zV hl ?_
     exact hK
    ·have hf := zqK hs
     simp only at hf
     rw [zly,if_neg hs] at hK
     have hmm : σ[m]? = some (.map (ztE g)) := hG.map
     have s1 : ∀ X τ,(σ ++ τ).set m X = σ.set m X ++ τ := fun X τ => zbZ hG.map
     have hb' : ∀ X,(σ.set m X)[id]? = some (.box [.own t (zpH g), .map m]) := fun X => by rw [List.getElem?_set_ne (Ne.symm n1)]; exact hG.box
     have ht' : ∀ X,(σ.set m X)[t]? = some (.tok 2 g.length) := fun X => by rw [List.getElem?_set_ne n3]; exact hG.tok
     have g3 : ∀ X τ,(σ.set m X ++ τ)[id]? = some (.box [.own t (zpH g), .map m]) := fun X τ => zd (hb' X)
     have g4 : ∀ X τ,(σ.set m X ++ τ)[t]? = some (.tok 2 g.length) := fun X τ => zd (ht' X)
     have s2 : ∀ X Y τ,(σ.set m X ++ τ).set t Y = (σ.set m X).set t Y ++ τ := fun X Y τ => zbZ (ht' X)
     have hb2 : ∀ X Y,((σ.set m X).set t Y)[id]? = some (.box [.own t (zpH g), .map m]) := fun X Y => by rw [List.getElem?_set_ne (Ne.symm n2)]; exact hb' X
     have s3 : ∀ X Y Z τ,((σ.set m X).set t Y ++ τ).set id Z = ((σ.set m X).set t Y).set id Z ++ τ := fun X Y Z τ => zbZ (hb2 X Y)
     have g5 : ∀ X Y τ,((σ.set m X).set t Y ++ τ)[id]? = some (.box [.own t (zpH g), .map m]) := fun X Y τ => zd (hb2 X Y)
     have L1 : ∀ X : zh, σ.length = (σ.set m X).length := fun X => by simp
     have L2 : ∀ X Y : zh, σ.length = ((σ.set m X).set t Y).length := fun X Y => by simp
     have L3 : ∀ X Y Z : zh, σ.length = (((σ.set m X).set t Y).set id Z).length := fun X Y Z => by simp
     have e1 : ∀ X τ n,(σ.set m X ++ τ)[σ.length + n]? = τ[n]? := fun X τ n => by rw [L1 X]; exact zx ..
     have e2 : ∀ X Y Z τ n,(((σ.set m X).set t Y).set id Z ++ τ)[σ.length + n]? = τ[n]? := fun X Y Z τ n => by rw [L3 X Y Z]; exact zx ..
     have e3 : ∀ X Y Z τ W,(((σ.set m X).set t Y).set id Z ++ τ).set σ.length W = ((σ.set m X).set t Y).set id Z ++ τ.set 0 W := fun X Y Z τ W => by rw [L3 X Y Z]; exact zI ..
     have e4 : ∀ X Y Z τ,(((σ.set m X).set t Y).set id Z ++ τ)[σ.length]? = τ[0]? := fun X Y Z τ => by rw [L3 X Y Z]; exact zy ..
     refine gq4 (zf h1 (zf h2 (zf h3 (zf hb (zf hm (zf hf (zf s1 (zf g3 (zf g4 (zf s2 (zf s3 (zf g5 (zf e1 (zf e2 (zf e3 (zf e4 hlen)))))))))))))))) ?_
     have e : putLed σ id m t (g ++ [⟨k,d⟩]) = (((σ.set m (zh.map (ztE g ++ [(AV.agg [AV.d (D.int IntKind.i64 k),AV.d (D.int IntKind.i64 d)],AV.d (D.bool true))]))).set t (zh.tok 2 (g.length + 1))).set id (zh.box [AV.own t (zpH g ++ [[D.int IntKind.i64 k,D.int IntKind.i64 d]]),AV.map m])) := by
      rw [ledM_add g ⟨k,d⟩]
      simp [putLed,zpH,zhU]
     rw [← e]
     exact zef (putLed_len ..) (by simp [zeD,dmT,dm,dm1,zcC,zbT,zeN]) (hG.lows hl _) hK
   ·have he : zeh k d = 1 := by rw [zeh,if_neg hk,if_pos (by simpa using h3)]
    have := bad (by rw [he]; decide)
    rw [he] at this
    refine gq2 (zf h1 (zf h2 h3)) ?_
    refine zV hl ?_
    exact this
  ·have he : zeh k d = 20 := by rw [zeh,if_pos (by simp at h2; omega)]
   have := bad (by rw [he]; decide)
   rw [he] at this
   refine gq2 (zf h1 h2) ?_
   refine zV hl ?_
   exact this
 ·have he : zeh k d = 20 := by rw [zeh,if_pos (by simp at h1; omega)]
  have := bad (by rw [he]; decide)
  rw [he] at this
  refine gq2 h1 ?_
  refine zV hl ?_
  exact this
theorem gq5 {P Q : Prop} (h : Q) (e : Hd Q → P := by intro h; (repeat' first | simp -dsimp only [↓zeY, ↓zaC, ↓zbz, ↓zeZ, ↓zeU, ↓zeS, ↓zeV, ↓zeT, ↓zbE, ↓zbA, ↓zbF, ↓zbB, ↓zeW, ↓zby, ↓zbG, ↓zbC, ↓zbH, ↓zbD, ↓zeR, ↓zeX, ↓zbx, ↓zbJ, ↓zeP, ↓zeO, ↓zeQ,iN,bT,bF,eN, ↓zcF, ↓unC, ↓zW, ↓zK, ↓zL, ↓zN, ↓zad, ↓zax, ↓zcB, ↓zal, ↓zbj, ↓zQ, ↓zo, ↓zj, ↓zbr, ↓zg, ↓zai, ↓zH, ↓zaM, ↓zaV, ↓ze, ↓zD, ↓zw, ↓zB, ↓zao, ↓zdb, ↓zdx, ↓zaq, ↓zay, ↓zaU, ↓zbd, ↓zbl, ↓zu, ↓zan, ↓zM, ↓zE, ↓zaa,zdz,zbq,zbn,unA,zdy,bnd,zec,zaf,zS,zdY,dm,dm1,zC,zah,zen,zem,zP,Q0,Q1,Q2,Q3,Q4,Q5,zT,zx,zy,zO,zI,Q6,Q7,Q8,Q9,Q10,Q11,Q12,Q13,Q14,Nat.reduceAdd,Q15,Int.reduceToNat,Q16,Q17,Q18,Q19,Q20,reduceIte,Q21,Q22,zG,rep,zZ,zeF,toD,zaj,Q23,Q24,Q25,Q26,Q27,Q28,Nat.reduceLeDiff,Q29,Nat.reduceSub,Q30,Q31,Q32,sc,Q33,Q34,Q35,Q36,Q37,Q26,Q38,Q39,zii,zif,zic,zij,zcN,zig,zid,zih,zie,zcM,zcO,zim,zin,Bool.not_true,Bool.not_false,List.length_map,Bool.and_false,Bool.and_self,Bool.false_and,Bool.not_false,Bool.not_true,Bool.true_and,Int.toNat_natCast,Int.toNat_zero,List.drop_zero,List.length_map,List.length_nil,List.nil_append,List.take_length,Nat.sub_zero,Nat.zero_add,Option.isSome_none,Option.isSome_some,Option.map_none,Option.map_some,zaJ,beq_self_eq_true,bne_self_eq_false] | with_reducible refine zix ?_ | fail); exact h.go) : P := e ⟨h⟩
theorem c_From {σ : List zh} {l : List (List UInt8)} (hn : l.Nodup) (hl0 : l.length ≤ 1048576) (hb : ∀ b ∈ l,b.length ≤ 1073741824) {K : KT}
  (hK : K (.tup [.box (σ.length + 1) 0, .d (.int .i64 0)]) (σ ++ tabO σ.length l)) : zr Tryz.prog zlW [.d (.slice (zgH l))] σ K := by
 refine zce zqS.is rfl (fun s => List.range' σ.length 3) fun hl _ => zqS.goes ?_
 have hlen : (zgH l).length = l.length := List.length_map ..
 have hd : decide ((l.length : Int) > 1048576) = false := by simp; omega
 simp only [zre,iN,bT,bF,eN]
 refine gq2 (zf hlen hd) ?_
 refine zuV ?_
 refine gq1 ?_
 refine zt l.length (fun k vs s => vs = [.d (.int .i64 k)] ∧ s = σ ++ tabO σ.length (l.take k)) ⟨rfl,rfl⟩ ?_
 rintro k vs s hk ⟨rfl,rfl⟩
 by_cases hlt : k < l.length
 ·have hd : decide ((k : Int) < (l.length : Int)) = true := by simp; omega
  have hx : l[k]? = some l[k] := by simp [hlt]
  have hgx := zR (f := fun b => [D.slice (bcs b)]) hx
  have hxb := hb _ (List.getElem_mem hlt)
  have hnot : l[k] ∉ l.take k := fun hm => by
   obtain ⟨i,hi,he⟩ := List.mem_take_iff_getElem.1 hm
   have := (List.getElem_inj hn).1 he
   omega
  obtain ⟨x,hxe⟩ : ∃ x,l[k] = x := ⟨_,rfl⟩
  rw [hxe] at hx hgx hxb hnot
  have hno := zut hnot
  have hT : zdo (σ ++ tabO σ.length (l.take k)) (σ.length + 1) σ.length (σ.length + 2) (l.take k) := by simpa using tabAt_new σ (l.take k) []
  have hP : ∀ l',putTab (σ ++ tabO σ.length (l.take k)) (σ.length + 1) σ.length (σ.length + 2) l' = σ ++ tabO σ.length l' := fun l' => by simpa using putTab_new σ (l.take k) l' []
  refine gq2 (zf hlen (zf hd hgx)) ?_
  refine zoq hT ?_
  rw [hno]
  refine gq5 ?_
  refine c_tSum hT hxb (by rw [List.length_take]; omega) ?_
  rw [hP]
  have e : zeG (l.take k) x = l.take (k + 1) := by
   have h1 : (l.take k).length = k := by rw [List.length_take]; omega
   rw [zeG,hno]
   simp only [h1]
   rw [if_neg (by omega),List.take_add_one,hx]; rfl
  rw [e]
  have hw : IntKind.i64.wrap ((k : Int) + 1) = ((k + 1 : Nat) : Int) := by rw [zU (by omega) (by omega)]; rfl
  refine gq2 hw ?_
  exact zaF.next hlt ⟨rfl,rfl⟩
 ·have hd : decide ((k : Int) < (l.length : Int)) = false := by simp; omega
  rw [List.take_of_length_le (by omega)]
  refine gq2 (zf hlen hd) ?_
  refine zdd (σ' := σ) (os := tabO σ.length l) rfl rfl hl (low_tabO _ _) ?_ hK
  exact .tup _ (by simp [zeD]; exact .box _ _ (by simp))
theorem zpj {σ : List zh} {id m t : Nat} {l : List (List UInt8)} (hT : zdo σ id m t l) (hn : l.Nodup) (hl0 : l.length ≤ 1048576) (hb : ∀ b ∈ l,b.length ≤ 1073741824) {K : KT}
  (hK : K (.box (σ.length + 1) 0) (σ ++ tabO σ.length l)) : zr Tryz.prog zbS [.box id 0] σ K := by
 refine zce zit.is rfl (fun s => List.range' σ.length 3) fun hl _ => zit.goes ?_
 have hbx := hT.box
 simp only [ziH,iN,bT,bF,eN]
 refine gq1 ?_
 refine zwe hT ?_
 refine gq2 hbx ?_
 refine c_From hn hl0 hb ?_
 refine gq1 ?_
 exact zdd (σ' := σ) (os := tabO σ.length l) rfl rfl hl (low_tabO _ _) (.box _ _ (by simp)) hK
end Go.Proofs.YtfgbofkdhfjegaaGreat
