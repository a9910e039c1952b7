/- Contract: a block of one request. -/
import Derived.Test.YtfgbofkdhfjegaaGreatBv3
set_option linter.all false
set_option maxRecDepth 100000
namespace Go.Proofs.YtfgbofkdhfjegaaGreat
open Go.AW
theorem c_block {σ S : List zh} {C : zh} {tb tc t g N m : Nat} {s : zaQ} {k : Int} {o : TOp} (h : WJ σ C tb tc t g s S) (hI : StI N m s) (hN : N ≤ 1073741823) (hm : m ≤ 1000) (hk : 0 ≤ k ∧ k ≤ 1000) (ho : zkr o ≤ 20971520)
  {K : KT} (hK : ∀ S2 t' g',WJ σ C tb tc t' g' { blX s ⟨0,k + 1,o, 0, 0⟩ with h := s.h } S2 → K (ztF (blX s ⟨0,k + 1,o, 0, 0⟩).h) S2) :
  zr Tryz.prog zey [.box (σ.length + 9) 0, .box (σ.length + 11) 0,ztF s.h, .d (.int .i64 k),opA o] S K := by
 refine zdw zjX.is rfl fun hl _ => zjX.goes ?_
 have hw : IntKind.i64.wrap (k + 1) = k + 1 := zU (by omega) (by omega)
 have hn := h.ne
 have hbl := hI.bl
 have tbl := zA h.kb
 have tcl := zA h.kc
 have hled := hI.led
 have f9 : ∀ τ,(S ++ τ)[σ.length + 9]? = some _ := fun τ => zd h.st
 have lS : σ.length + 14 ≤ S.length := by have := zA h.kc; omega
 simp only [zkl,iN,bT,bF,eN,zl3,zl7,zl8,ztF,opA]
 refine gq2 (zf f9 hw) ?_
 have hW1 := (h.x (zpP s.L ⟨0,k + 1,o, 0, 0⟩)).y (zrX s.L s.G ⟨0,k + 1,o, 0, 0⟩)
 have y1 : ∀ τ A B,((S ++ τ).set (σ.length + 1) A).set (σ.length + 2) B = (S.set (σ.length + 1) A).set (σ.length + 2) B ++ τ := fun τ A B => by
  rw [List.set_append_left _ _ (by omega),List.set_append_left _ _ (by simp; omega)]
 obtain ⟨S1,hS1⟩ : ∃ S1,(S.set (σ.length + 1) (rtO (zpP s.L ⟨0,k + 1,o, 0, 0⟩))).set (σ.length + 2) (rlO (zrX s.L s.G ⟨0,k + 1,o, 0, 0⟩)) = S1 := ⟨_,rfl⟩
 have l1 : S1.length = S.length := by rw [← hS1]; simp
 rw [hS1] at hW1
 have hI1 := stI_sl (x := ⟨0,k + 1,o, 0, 0⟩) hI ho
 have g9 : ∀ τ,(S1 ++ τ)[σ.length + 9]? = some _ := fun τ => zd hW1.st
 refine ⟨?_, ?_⟩
 rotate_left
 refine gq2 f9 ?_
 all_goals
  refine c_rqrSeal (L := s.L) (G := s.G) (x := ⟨0,k + 1,o, 0, 0⟩) (zd h.xb) (zd h.yb) (by omega) hI.tab (by omega) ho ?_
  rw [y1,hS1]
  simp only [← l1]
  cases he : (ztJ s.L ⟨0,k + 1,o, 0, 0⟩ != 0)
  rotate_left
  ·have hb : blX s ⟨0,k + 1,o, 0, 0⟩ = slX s ⟨0,k + 1,o, 0, 0⟩ := by rw [blX,if_neg (by simpa using he)]
   rw [hb] at hK
   simp only [zkw]
   (repeat' (first | simp -dsimp only [↓zeY, ↓zaC, ↓zbz, ↓zeZ, ↓zeU, ↓zeS, ↓zeV, ↓zeT, ↓zbE, ↓zbA, ↓zbF, ↓zbB, ↓zeW, ↓zby, ↓zbG, ↓zbC, ↓zbH, ↓zbD, ↓zeR, ↓zeX, ↓zbx, ↓zbJ, ↓zeP, ↓zeO, ↓zeQ,iN,bT,bF,eN, ↓zcF, ↓unC, ↓zW, ↓zK, ↓zL, ↓zN, ↓zad, ↓zax, ↓zcB, ↓zal, ↓zbj, ↓zQ, ↓zo, ↓zj, ↓zbr, ↓zg, ↓zai, ↓zH, ↓zaM, ↓zaV, ↓ze, ↓zD, ↓zw, ↓zB, ↓zao, ↓zdb, ↓zdx, ↓zaq, ↓zay, ↓zaU, ↓zbd, ↓zbl, ↓zu, ↓zan, ↓zM, ↓zE, ↓zaa,zdz,zbq,zbn,unA,zdy,bnd,zec,zaf,zS,zdY,dm,dm1,zC,zah,zen,zem,zP,Q0,Q1,Q2,Q3,Q4,Q5,zT,zx,zy,zO,zI,Q6,Q7,Q8,Q9,Q10,Q11,Q12,Q13,Q14,Nat.reduceAdd,Q15,Int.reduceToNat,Q16,Q17,Q18,Q19,Q20,reduceIte,Q21,Q22,zG,rep,zZ,zeF,toD,zaj,Q23,Q24,Q25,Q26,Q27,Q28,Nat.reduceLeDiff,Q29,Nat.reduceSub,Q30,Q31,Q32,sc,Q33,Q34,Q35,Q36,Q37,Q26,Q38,Q39,zii,zif,zic,zij,zcN,zig,zid,zih,zie,zcM,zcO,zim,zin,Bool.not_true,Bool.not_false,List.length_map,he, ← l1,List.length_set] | (with_reducible refine zix ?_) | fail))
   exact zff (hK _ t g (hW1.app _))
  have he0 : ztJ s.L ⟨0,k + 1,o, 0, 0⟩ = 0 := by simpa using he
  have hb : blX s ⟨0,k + 1,o, 0, 0⟩ = exX (slX s ⟨0,k + 1,o, 0, 0⟩) [zlK s.L ⟨0,k + 1,o, 0, 0⟩] := by rw [blX,if_pos he0]
  have hop : zkr (zlK s.L ⟨0,k + 1,o, 0, 0⟩).op ≤ 20971520 := by rw [sealS_op he0]; exact ho
  have hexI := stI_ex (b := [zlK s.L ⟨0,k + 1,o, 0, 0⟩]) hI1 (by simpa using hop)
  rw [hb] at hK
  clear hb
  obtain ⟨x,hx⟩ : ∃ x,zlK s.L ⟨0,k + 1,o, 0, 0⟩ = x := ⟨_,rfl⟩
  rw [hx] at hK hop hexI ⊢
  simp only [zkw]
  (repeat' (first | simp -dsimp only [↓zeY, ↓zaC, ↓zbz, ↓zeZ, ↓zeU, ↓zeS, ↓zeV, ↓zeT, ↓zbE, ↓zbA, ↓zbF, ↓zbB, ↓zeW, ↓zby, ↓zbG, ↓zbC, ↓zbH, ↓zbD, ↓zeR, ↓zeX, ↓zbx, ↓zbJ, ↓zeP, ↓zeO, ↓zeQ,iN,bT,bF,eN, ↓zcF, ↓unC, ↓zW, ↓zK, ↓zL, ↓zN, ↓zad, ↓zax, ↓zcB, ↓zal, ↓zbj, ↓zQ, ↓zo, ↓zj, ↓zbr, ↓zg, ↓zai, ↓zH, ↓zaM, ↓zaV, ↓ze, ↓zD, ↓zw, ↓zB, ↓zao, ↓zdb, ↓zdx, ↓zaq, ↓zay, ↓zaU, ↓zbd, ↓zbl, ↓zu, ↓zan, ↓zM, ↓zE, ↓zaa,zdz,zbq,zbn,unA,zdy,bnd,zec,zaf,zS,zdY,dm,dm1,zC,zah,zen,zem,zP,Q0,Q1,Q2,Q3,Q4,Q5,zT,zx,zy,zO,zI,Q6,Q7,Q8,Q9,Q10,Q11,Q12,Q13,Q14,Nat.reduceAdd,Q15,Int.reduceToNat,Q16,Q17,Q18,Q19,Q20,reduceIte,Q21,Q22,zG,rep,zZ,zeF,toD,zaj,Q23,Q24,Q25,Q26,Q27,Q28,Nat.reduceLeDiff,Q29,Nat.reduceSub,Q30,Q31,Q32,sc,Q33,Q34,Q35,Q36,Q37,Q26,Q38,Q39,zii,zif,zic,zij,zcN,zig,zid,zih,zie,zcM,zcO,zim,zin,Bool.not_true,Bool.not_false,List.length_map,he, ← l1,List.length_set,g9] | (with_reducible refine zix ?_) | fail))
 all_goals
  refine ⟨?_, ?_⟩
  ·refine zsZ (L := zpP s.L ⟨0,k + 1,o, 0, 0⟩) (T := s.T) (h := s.h) (b := [x]) (hW1.top.app _) hI1.tops hI1.last (zd hW1.xb) hI1.tab (by omega) (by simpa using hop) (by simp) fun S2 t' g' N' hT2 hL2 hS2 => ?_
   have hJ2 := (hW1.app _).exec hT2 hL2 hS2
   have a2 := hS2.get S1.length _ (by rw [zy]; rfl) (by omega) (by omega) (fun _ _ _ e => by cases e)
   have c2 := hS2.get (S1.length + 2) _ (by rw [zx]; rfl) (by omega) (by omega) (fun _ _ _ e => by cases e)
   have l2 := zA c2
   simp only [exX,slX] at hK hexI
   obtain ⟨r,hr⟩ : ∃ r,zdn (zpP s.L ⟨0,k + 1,o, 0, 0⟩) s.T s.h [x] = r := ⟨_,rfl⟩
   simp only [hr] at hK hJ2 hexI ⊢
   refine gq2 hw ?_
   obtain ⟨p,hp⟩ : ∃ p,S2.length = p := ⟨_,rfl⟩
   obtain ⟨S3,hS3⟩ : ∃ S3,S2 ++ [hdrC r.h] = S3 := ⟨_,rfl⟩
   have hJ3 : WJ σ C tb tc t' g' _ S3 := hS3 ▸ hJ2.app _
   have a3 : S3[S1.length]? = _ := hS3 ▸ zd a2
   have c3 : S3[S1.length + 2]? = _ := hS3 ▸ zd c2
   have n3 : S3[p]? = some (hdrC r.h) := by rw [← hS3, ← hp,zy]; rfl
   simp only [hdrC] at hS3
   have hpl : S1.length + 2 < p := by omega
   have e3 : (S2 ++ [zh.box [.d (.int .i64 0), .d (.int .i64 0), .d (.int .i64 0), .d (.int .i64 0), .d (.int .i64 0)]]).set S2.length (.box (zZ [.d (.int .i64 0), .d (.int .i64 0), .d (.int .i64 0), .d (.int .i64 0), .d (.int .i64 0)] 0 [.d (.int .i64 r.h.seq), .d (.int .i64 r.h.prev), .d (.int .i64 r.h.batch), .d (.int .i64 r.h.root), .d (.int .i64 r.h.state)])) = S3 := by rw [← hS3,zI]; rfl
   rw [e3,hp]
   have kb := hJ3.kb
   have q0 := hJ3.st
   have hbe : (zbW s.bs).length = s.bs.length := List.length_map ..
   cases hre : (r.e != 0)
   ·have hre' : r.e = 0 := by simpa using hre
    rw [if_neg (by simp [hre'])] at hK
    have q1 := fun Y => zc (i := tb) Y hJ3.st (by omega)
    have hJ5 := hJ3.blk (s.bs ++ [⟨r.h, [x],r.p⟩])
    have n5 := fun Y Z => zc (i := σ.length + 9) Z (zc (i := tb) Y n3 (by omega)) (by omega)
    have c5 := fun Y Z => zc (i := σ.length + 9) Z (zc (i := tb) Y c3 (by omega)) (by omega)
    rw [List.length_append,zbW,List.map_append] at hJ5
    obtain ⟨S5,hS5⟩ : ∃ S5,(S3.set tb (.tok 7 (s.bs.length + 1))).set (σ.length + 9) (.box [.box (σ.length + 4) 0, .box (σ.length + 7) 0, .box (σ.length + 1) 0, .box (σ.length + 2) 0, .own tb (zbW s.bs ++ [zhp ⟨r.h, [x],r.p⟩]), .own tc (zeg s.cs), .d .nilp, .d .nilp]) = S5 := ⟨_,rfl⟩
    have n6 : S5[p]? = some (hdrC r.h) := hS5 ▸ n5 _ _
    have c6 : S5[S1.length + 2]? = _ := hS5 ▸ c5 _ _
    have c7 := fun Y => List.getElem?_set_self (a := Y) (zA c6)
    have hJ6 : WJ σ C tb tc t' g' _ S5 := hS5 ▸ hJ5
    simp only [zhp,zdf,zch,List.map_cons,List.map_nil] at hS5
    (repeat' (first | simp -dsimp only [↓zeY, ↓zaC, ↓zbz, ↓zeZ, ↓zeU, ↓zeS, ↓zeV, ↓zeT, ↓zbE, ↓zbA, ↓zbF, ↓zbB, ↓zeW, ↓zby, ↓zbG, ↓zbC, ↓zbH, ↓zbD, ↓zeR, ↓zeX, ↓zbx, ↓zbJ, ↓zeP, ↓zeO, ↓zeQ,iN,bT,bF,eN, ↓zcF, ↓unC, ↓zW, ↓zK, ↓zL, ↓zN, ↓zad, ↓zax, ↓zcB, ↓zal, ↓zbj, ↓zQ, ↓zo, ↓zj, ↓zbr, ↓zg, ↓zai, ↓zH, ↓zaM, ↓zaV, ↓ze, ↓zD, ↓zw, ↓zB, ↓zao, ↓zdb, ↓zdx, ↓zaq, ↓zay, ↓zaU, ↓zbd, ↓zbl, ↓zu, ↓zan, ↓zM, ↓zE, ↓zaa,zdz,zbq,zbn,unA,zdy,bnd,zec,zaf,zS,zdY,dm,dm1,zC,zah,zen,zem,zP,Q0,Q1,Q2,Q3,Q4,Q5,zT,zx,zy,zO,zI,Q6,Q7,Q8,Q9,Q10,Q11,Q12,Q13,Q14,Nat.reduceAdd,Q15,Int.reduceToNat,Q16,Q17,Q18,Q19,Q20,reduceIte,Q21,Q22,zG,rep,zZ,zeF,toD,zaj,Q23,Q24,Q25,Q26,Q27,Q28,Nat.reduceLeDiff,Q29,Nat.reduceSub,Q30,Q31,Q32,sc,Q33,Q34,Q35,Q36,Q37,Q26,Q38,Q39,zii,zif,zic,zij,zcN,zig,zid,zih,zie,zcM,zcO,zim,zin,Bool.not_true,Bool.not_false,List.length_map,hre,hp,hS3,q0,q1,kb,hbe,hS5,n3,n6,c6,c7, ← l1] | (with_reducible refine zix ?_) | fail))
    refine zff ?_
    exact hK _ _ _ (hJ6.oth c6 (fun _ _ _ e => by cases e) (by omega) (by omega) (by omega) _)
   ·have hre' : r.e ≠ 0 := by simpa using hre
    rw [if_pos hre'] at hK
    have c4 := fun Y => List.getElem?_set_self (a := Y) (zA c3)
    (repeat' (first | simp -dsimp only [↓zeY, ↓zaC, ↓zbz, ↓zeZ, ↓zeU, ↓zeS, ↓zeV, ↓zeT, ↓zbE, ↓zbA, ↓zbF, ↓zbB, ↓zeW, ↓zby, ↓zbG, ↓zbC, ↓zbH, ↓zbD, ↓zeR, ↓zeX, ↓zbx, ↓zbJ, ↓zeP, ↓zeO, ↓zeQ,iN,bT,bF,eN, ↓zcF, ↓unC, ↓zW, ↓zK, ↓zL, ↓zN, ↓zad, ↓zax, ↓zcB, ↓zal, ↓zbj, ↓zQ, ↓zo, ↓zj, ↓zbr, ↓zg, ↓zai, ↓zH, ↓zaM, ↓zaV, ↓ze, ↓zD, ↓zw, ↓zB, ↓zao, ↓zdb, ↓zdx, ↓zaq, ↓zay, ↓zaU, ↓zbd, ↓zbl, ↓zu, ↓zan, ↓zM, ↓zE, ↓zaa,zdz,zbq,zbn,unA,zdy,bnd,zec,zaf,zS,zdY,dm,dm1,zC,zah,zen,zem,zP,Q0,Q1,Q2,Q3,Q4,Q5,zT,zx,zy,zO,zI,Q6,Q7,Q8,Q9,Q10,Q11,Q12,Q13,Q14,Nat.reduceAdd,Q15,Int.reduceToNat,Q16,Q17,Q18,Q19,Q20,reduceIte,Q21,Q22,zG,rep,zZ,zeF,toD,zaj,Q23,Q24,Q25,Q26,Q27,Q28,Nat.reduceLeDiff,Q29,Nat.reduceSub,Q30,Q31,Q32,sc,Q33,Q34,Q35,Q36,Q37,Q26,Q38,Q39,zii,zif,zic,zij,zcN,zig,zid,zih,zie,zcM,zcO,zim,zin,Bool.not_true,Bool.not_false,List.length_map,hre,hp,hS3,a3,c3,c4, ← l1] | (with_reducible refine zix ?_) | fail))
    refine zff ?_
    exact hK _ _ _ (hJ3.oth c3 (fun _ _ _ e => by cases e) (by omega) (by omega) (by omega) _)
  ·refine gq2 g9 ?_
   refine zsZ (L := zpP s.L ⟨0,k + 1,o, 0, 0⟩) (T := s.T) (h := s.h) (b := [x]) (hW1.top.app _) hI1.tops hI1.last (zd hW1.xb) hI1.tab (by omega) (by simpa using hop) (by simp) fun S2 t' g' N' hT2 hL2 hS2 => ?_
   have hJ2 := (hW1.app _).exec hT2 hL2 hS2
   have a2 := hS2.get S1.length _ (by rw [zy]; rfl) (by omega) (by omega) (fun _ _ _ e => by cases e)
   have c2 := hS2.get (S1.length + 2) _ (by rw [zx]; rfl) (by omega) (by omega) (fun _ _ _ e => by cases e)
   have l2 := zA c2
   simp only [exX,slX] at hK hexI
   obtain ⟨r,hr⟩ : ∃ r,zdn (zpP s.L ⟨0,k + 1,o, 0, 0⟩) s.T s.h [x] = r := ⟨_,rfl⟩
   simp only [hr] at hK hJ2 hexI ⊢
   have z2 := hS2.get (S1.length + 4) _ (by rw [zx]; rfl) (by omega) (by omega) (fun _ _ _ e => by cases e)
   obtain ⟨p,hp⟩ : ∃ p,S1.length + 4 = p := ⟨_,rfl⟩
   rw [hp] at z2
   obtain ⟨S3,hS3⟩ : ∃ S3,S2.set p (hdrC r.h) = S3 := ⟨_,rfl⟩
   have hJ3 : WJ σ C tb tc t' g' _ S3 := hS3 ▸ hJ2.oth z2 (fun _ _ _ e => by cases e) (by omega) (by omega) (by omega) _
   have a3 : S3[S1.length]? = _ := hS3 ▸ zc _ a2 (by omega)
   have c3 : S3[S1.length + 2]? = _ := hS3 ▸ zc _ c2 (by omega)
   have n3 : S3[p]? = some (hdrC r.h) := by rw [← hS3]; exact List.getElem?_set_self (zA z2)
   simp only [hdrC] at hS3
   have hpl : S1.length + 2 < p := by omega
   (repeat' (first | simp -dsimp only [↓zeY, ↓zaC, ↓zbz, ↓zeZ, ↓zeU, ↓zeS, ↓zeV, ↓zeT, ↓zbE, ↓zbA, ↓zbF, ↓zbB, ↓zeW, ↓zby, ↓zbG, ↓zbC, ↓zbH, ↓zbD, ↓zeR, ↓zeX, ↓zbx, ↓zbJ, ↓zeP, ↓zeO, ↓zeQ,iN,bT,bF,eN, ↓zcF, ↓unC, ↓zW, ↓zK, ↓zL, ↓zN, ↓zad, ↓zax, ↓zcB, ↓zal, ↓zbj, ↓zQ, ↓zo, ↓zj, ↓zbr, ↓zg, ↓zai, ↓zH, ↓zaM, ↓zaV, ↓ze, ↓zD, ↓zw, ↓zB, ↓zao, ↓zdb, ↓zdx, ↓zaq, ↓zay, ↓zaU, ↓zbd, ↓zbl, ↓zu, ↓zan, ↓zM, ↓zE, ↓zaa,zdz,zbq,zbn,unA,zdy,bnd,zec,zaf,zS,zdY,dm,dm1,zC,zah,zen,zem,zP,Q0,Q1,Q2,Q3,Q4,Q5,zT,zx,zy,zO,zI,Q6,Q7,Q8,Q9,Q10,Q11,Q12,Q13,Q14,Nat.reduceAdd,Q15,Int.reduceToNat,Q16,Q17,Q18,Q19,Q20,reduceIte,Q21,Q22,zG,rep,zZ,zeF,toD,zaj,Q23,Q24,Q25,Q26,Q27,Q28,Nat.reduceLeDiff,Q29,Nat.reduceSub,Q30,Q31,Q32,sc,Q33,Q34,Q35,Q36,Q37,Q26,Q38,Q39,zii,zif,zic,zij,zcN,zig,zid,zih,zie,zcM,zcO,zim,zin,Bool.not_true,Bool.not_false,List.length_map,hp,z2,hS3, ← l1] | (with_reducible refine zix ?_) | fail))
   have kb := hJ3.kb
   have q0 := hJ3.st
   have hbe : (zbW s.bs).length = s.bs.length := List.length_map ..
   cases hre : (r.e != 0)
   ·have hre' : r.e = 0 := by simpa using hre
    rw [if_neg (by simp [hre'])] at hK
    have q1 := fun Y => zc (i := tb) Y hJ3.st (by omega)
    have hJ5 := hJ3.blk (s.bs ++ [⟨r.h, [x],r.p⟩])
    have n5 := fun Y Z => zc (i := σ.length + 9) Z (zc (i := tb) Y n3 (by omega)) (by omega)
    have c5 := fun Y Z => zc (i := σ.length + 9) Z (zc (i := tb) Y c3 (by omega)) (by omega)
    rw [List.length_append,zbW,List.map_append] at hJ5
    obtain ⟨S5,hS5⟩ : ∃ S5,(S3.set tb (.tok 7 (s.bs.length + 1))).set (σ.length + 9) (.box [.box (σ.length + 4) 0, .box (σ.length + 7) 0, .box (σ.length + 1) 0, .box (σ.length + 2) 0, .own tb (zbW s.bs ++ [zhp ⟨r.h, [x],r.p⟩]), .own tc (zeg s.cs), .d .nilp, .d .nilp]) = S5 := ⟨_,rfl⟩
    have n6 : S5[p]? = some (hdrC r.h) := hS5 ▸ n5 _ _
    have c6 : S5[S1.length + 2]? = _ := hS5 ▸ c5 _ _
    have c7 := fun Y => List.getElem?_set_self (a := Y) (zA c6)
    have hJ6 : WJ σ C tb tc t' g' _ S5 := hS5 ▸ hJ5
    simp only [zhp,zdf,zch,List.map_cons,List.map_nil] at hS5
    (repeat' (first | simp -dsimp only [↓zeY, ↓zaC, ↓zbz, ↓zeZ, ↓zeU, ↓zeS, ↓zeV, ↓zeT, ↓zbE, ↓zbA, ↓zbF, ↓zbB, ↓zeW, ↓zby, ↓zbG, ↓zbC, ↓zbH, ↓zbD, ↓zeR, ↓zeX, ↓zbx, ↓zbJ, ↓zeP, ↓zeO, ↓zeQ,iN,bT,bF,eN, ↓zcF, ↓unC, ↓zW, ↓zK, ↓zL, ↓zN, ↓zad, ↓zax, ↓zcB, ↓zal, ↓zbj, ↓zQ, ↓zo, ↓zj, ↓zbr, ↓zg, ↓zai, ↓zH, ↓zaM, ↓zaV, ↓ze, ↓zD, ↓zw, ↓zB, ↓zao, ↓zdb, ↓zdx, ↓zaq, ↓zay, ↓zaU, ↓zbd, ↓zbl, ↓zu, ↓zan, ↓zM, ↓zE, ↓zaa,zdz,zbq,zbn,unA,zdy,bnd,zec,zaf,zS,zdY,dm,dm1,zC,zah,zen,zem,zP,Q0,Q1,Q2,Q3,Q4,Q5,zT,zx,zy,zO,zI,Q6,Q7,Q8,Q9,Q10,Q11,Q12,Q13,Q14,Nat.reduceAdd,Q15,Int.reduceToNat,Q16,Q17,Q18,Q19,Q20,reduceIte,Q21,Q22,zG,rep,zZ,zeF,toD,zaj,Q23,Q24,Q25,Q26,Q27,Q28,Nat.reduceLeDiff,Q29,Nat.reduceSub,Q30,Q31,Q32,sc,Q33,Q34,Q35,Q36,Q37,Q26,Q38,Q39,zii,zif,zic,zij,zcN,zig,zid,zih,zie,zcM,zcO,zim,zin,Bool.not_true,Bool.not_false,List.length_map,hre,hp,hS3,q0,q1,kb,hbe,hS5,n3,n6,c6,c7, ← l1] | (with_reducible refine zix ?_) | fail))
    refine zff ?_
    exact hK _ _ _ (hJ6.oth c6 (fun _ _ _ e => by cases e) (by omega) (by omega) (by omega) _)
   ·have hre' : r.e ≠ 0 := by simpa using hre
    rw [if_pos hre'] at hK
    have c4 := fun Y => List.getElem?_set_self (a := Y) (zA c3)
    (repeat' (first | simp -dsimp only [↓zeY, ↓zaC, ↓zbz, ↓zeZ, ↓zeU, ↓zeS, ↓zeV, ↓zeT, ↓zbE, ↓zbA, ↓zbF, ↓zbB, ↓zeW, ↓zby, ↓zbG, ↓zbC, ↓zbH, ↓zbD, ↓zeR, ↓zeX, ↓zbx, ↓zbJ, ↓zeP, ↓zeO, ↓zeQ,iN,bT,bF,eN, ↓zcF, ↓unC, ↓zW, ↓zK, ↓zL, ↓zN, ↓zad, ↓zax, ↓zcB, ↓zal, ↓zbj, ↓zQ, ↓zo, ↓zj, ↓zbr, ↓zg, ↓zai, ↓zH, ↓zaM, ↓zaV, ↓ze, ↓zD, ↓zw, ↓zB, ↓zao, ↓zdb, ↓zdx, ↓zaq, ↓zay, ↓zaU, ↓zbd, ↓zbl, ↓zu, ↓zan, ↓zM, ↓zE, ↓zaa,zdz,zbq,zbn,unA,zdy,bnd,zec,zaf,zS,zdY,dm,dm1,zC,zah,zen,zem,zP,Q0,Q1,Q2,Q3,Q4,Q5,zT,zx,zy,zO,zI,Q6,Q7,Q8,Q9,Q10,Q11,Q12,Q13,Q14,Nat.reduceAdd,Q15,Int.reduceToNat,Q16,Q17,Q18,Q19,Q20,reduceIte,Q21,Q22,zG,rep,zZ,zeF,toD,zaj,Q23,Q24,Q25,Q26,Q27,Q28,Nat.reduceLeDiff,Q29,Nat.reduceSub,Q30,Q31,Q32,sc,Q33,Q34,Q35,Q36,Q37,Q26,Q38,Q39,zii,zif,zic,zij,zcN,zig,zid,zih,zie,zcM,zcO,zim,zin,Bool.not_true,Bool.not_false,List.length_map,hre,hp,hS3,a3,c3,c4, ← l1] | (with_reducible refine zix ?_) | fail))
    refine zff ?_
    exact hK _ _ _ (hJ3.oth c3 (fun _ _ _ e => by cases e) (by omega) (by omega) (by omega) _)
end Go.Proofs.YtfgbofkdhfjegaaGreat
