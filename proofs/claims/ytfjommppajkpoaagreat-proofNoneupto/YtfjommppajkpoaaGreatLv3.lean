/- Chapter 23: a record that is proved, and one that is turned, as the document tells. -/
import Derived.Test.YtfjommppajkpoaaGreatBt3
import Derived.Test.YtfjommppajkpoaaGreatTr1
import Derived.Test.YtfjommppajkpoaaGreatTr2
import Derived.Test.YtfjommppajkpoaaGreatSpMap
import Derived.Test.YtfjommppajkpoaaGreatPf1
import Derived.Test.YtfjommppajkpoaaGreatCl1
import Derived.Test.YtfjommppajkpoaaGreatSpBulk
import Derived.Test.YtfjommppajkpoaaGreatAwFrz
set_option linter.all false
set_option maxRecDepth 100000
namespace Go.Proofs.YtfjommppajkpoaaGreat
open Go.AW
def putR (k : Int) (b : UInt8) : zr := ⟨0,k,⟨2, [116], [], 0, [[b]]⟩, 0, 0⟩
def zhs : zsa := ⟨1, [[⟨0, 1,⟨1, [116], [], 0, []⟩, 0, 0⟩], [putR 2 7], [putR 3 8], []], 7, [], [], 0, []⟩
abbrev zme : zfU := stF (ksF zhs) zhs.bats
abbrev zmf : Int × zaE × List (List UInt8) := zfw zme.L zme.bs (zme.cs.getD 0 ⟨0, 0, []⟩) [116] 0
theorem live3_1 : zme.bs.length = 4 := by decide +kernel
theorem live3_2 : zme.cs.length = 1 := by decide +kernel
theorem live3_3 : zmf.1 = 0 := by decide +kernel
theorem live3_4 : zmf.2.1.headers.length = 3 := by decide +kernel
theorem live3_5 : zib zmf.2.2 zme.G 1 zmf.2.1 = 0 := by decide +kernel
theorem live3_6 : zib zmf.2.2 zme.G 1 (zkt zmf.2.1 [⟨1, 0, 0, [9]⟩]) = 232 := by decide +kernel
theorem live3_7 : zib zmf.2.2 zme.G 1 (zkt zmf.2.1 [⟨7, 0, 0, []⟩]) = 230 := by decide +kernel
theorem live3_8 : zib zmf.2.2 zme.G 1 (zkt zmf.2.1 [⟨9, 0, 0, []⟩]) = 231 := by decide +kernel
theorem live3_all (s : zfU) (h : stF (ksF zhs) zhs.bats = s) : s.bs.length = 4 ∧ s.cs.length = 1 ∧ (zfw s.L s.bs (s.cs.getD 0 ⟨0, 0, []⟩) [116] 0).1 = 0 ∧ (zfw s.L s.bs (s.cs.getD 0 ⟨0, 0, []⟩) [116] 0).2.1.headers.length = 3 ∧
  zib (zfw s.L s.bs (s.cs.getD 0 ⟨0, 0, []⟩) [116] 0).2.2 s.G 1 (zfw s.L s.bs (s.cs.getD 0 ⟨0, 0, []⟩) [116] 0).2.1 = 0 ∧
  zib (zfw s.L s.bs (s.cs.getD 0 ⟨0, 0, []⟩) [116] 0).2.2 s.G 1 (zkt (zfw s.L s.bs (s.cs.getD 0 ⟨0, 0, []⟩) [116] 0).2.1 [⟨1, 0, 0, [9]⟩]) = 232 ∧
  zib (zfw s.L s.bs (s.cs.getD 0 ⟨0, 0, []⟩) [116] 0).2.2 s.G 1 (zkt (zfw s.L s.bs (s.cs.getD 0 ⟨0, 0, []⟩) [116] 0).2.1 [⟨7, 0, 0, []⟩]) = 230 ∧
  zib (zfw s.L s.bs (s.cs.getD 0 ⟨0, 0, []⟩) [116] 0).2.2 s.G 1 (zkt (zfw s.L s.bs (s.cs.getD 0 ⟨0, 0, []⟩) [116] 0).2.1 [⟨9, 0, 0, []⟩]) = 231 := by
 subst h
 exact ⟨live3_1,live3_2,live3_3,live3_4,live3_5,live3_6,live3_7,live3_8⟩
theorem c_live1 {σ : List zg} {k : Int} {b : UInt8} {K : KT} (hK : K (.d (.slice (reqsE [putR k b]))) σ) : zq Tryz.prog zhQ [.d (.int .i64 k), .d (.int .u8 b.toNat)] σ K := by
 refine zga e_l23_live_1 fun hl => ?_
 simp only [zpT,iN,bT,bF,eN,zl1,zl2]
 refine gq1 ?_
 refine zK hl ?_
 exact hK
theorem take_rest {σ S : List zg} (h : ∀ (j : Nat) (x : zg), σ[j]? = some x → S[j]? = some x) : S.take σ.length = σ := by
 apply List.ext_getElem?
 intro i
 rw [List.getElem?_take]
 split
 ·rename_i hi
  rw [h i _ (List.getElem?_eq_getElem hi),List.getElem?_eq_getElem hi]
 ·rw [List.getElem?_eq_none (by omega)]
theorem zrq {σ S : List zg} {K : KT} {l : List AV} (h : S.take σ.length = σ) (h1 : Low σ.length (dmT (zbY l))) (hl : zdY σ.length σ) (hK : K (dmT (zbY l)) σ) : AW.Ends σ.length K (some l) S := by
 unfold AW.Ends
 rw [h]
 exact ⟨h1,hl,hK⟩
theorem live3I : StI 55 4 zme := foldSt (N := 0) (m := 0) (ks := ksF zhs) (bats := zhs.bats) st0I (by decide +kernel) (znv _ _)
theorem gq45 {A P Q : Prop} (a : A) (h : Q) (e : A → Hd Q → P := by intro a h; (repeat' first | simp -dsimp only [↓zgr, ↓zaF, ↓zbL, ↓zgt, ↓zgn, ↓zgl, ↓zgo, ↓zgm, ↓zbR, ↓zbN, ↓zbS, ↓zbO, ↓zgp, ↓zbJ, ↓zbT, ↓zbP, ↓zbU, ↓zbQ, ↓zgj, ↓zgq, ↓zbI, ↓zbX, ↓zgc, ↓zgb, ↓zgi,iN,bT,bF,eN, ↓zdN, ↓unC, ↓zac, ↓zQ, ↓zR, ↓zV, ↓zak, ↓zau, ↓zco, ↓zag, ↓zaJ, ↓zW, ↓zp, ↓zo, ↓zbF, ↓zl, ↓zan, ↓zF, ↓zaM, ↓zaW, ↓ze, ↓zC, ↓zu, ↓zy, ↓zav, ↓zdr, ↓zdU, ↓zat, ↓zaB, ↓zaU, ↓zbk, ↓zbv, ↓zD, ↓zaq, ↓zS, ↓zE, ↓zam,zeb,zbD,zbB,unA,zei,bnd,zeF,zai,zP,zeE,dm,dm1,zB,zal,zfg,zff,zx,Q0,Q1,Q2,Q3,Q4,Q5,zZ,zh,zm,zT,zN,Q6,Q7,Q8,Q9,Q10,Q11,Q12,Q13,Q14,Nat.reduceAdd,Q15,Int.reduceToNat,Q16,Q17,Q18,Q19,Q20,reduceIte,Q21,Q22,zH,rep,zX,zfc,toD,zah,Q23,Q24,Q25,Q26,Q27,Q28,Nat.reduceLeDiff,Q29,Nat.reduceSub,Q30,Q31,Q32,sc,Q33,Q34,Q35,Q36,Q37,Q26,Q38,Q39,zkn,zkk,zkh,zko,zdu,zkl,zki,zkm,zkj,zdt,zdv,zkp,zkq,Bool.not_true,Bool.not_false,List.length_map,certD,a] | with_reducible refine zkr ?_ | fail); exact h.go) : P := e a ⟨h⟩
theorem c_live23 {σ : List zg} (hσ : ∀ x ∈ σ, ∀ g sz cs,x ≠ .row g sz cs) {K : KT} (hK : K (.d (.bool true)) σ) : zq Tryz.prog zoN [] σ K := by
 refine acE0 e_l23_live fun hl => ?_
 simp only [zul,iN,bT,bF,eN,zl0,zl1,zl2]
 refine gq1 ?_
 refine c_live1 (k := 2) (b := 7) ?_
 refine gq1 ?_
 refine c_live1 (k := 3) (b := 8) ?_
 refine gq1 ?_
 have hpre : ∀ (j : Nat) (x : zg), σ[j]? = some x → (σ ++ [zg.box [.d (.int .i64 1), .exact (zrT zhs.bats), .d (.int .u16 7), .exact [], .d (.str []), .d (.int .i64 0), .exact []]])[j]? = some x := fun j x h => zf h
 obtain ⟨ρ,hρ⟩ : ∃ ρ, σ ++ [zg.box [.d (.int .i64 1), .exact (zrT zhs.bats), .d (.int .u16 7), .exact [], .d (.str []), .d (.int .i64 0), .exact []]] = ρ := ⟨_,rfl⟩
 rw [hρ] at hpre
 change ACallL Tryz.prog zen [caseA zhs] (σ ++ [zg.box [.d (.int .i64 1), .exact (zrT zhs.bats), .d (.int .u16 7), .exact [], .d (.str []), .d (.int .i64 0), .exact []]]) _ _
 rw [hρ]
 refine c_begun23 (c := zhs) (by decide +kernel) (by decide +kernel) (by decide) fun S hE => ?_
 have hst := hE.st
 have hst' : ∀ τ,(S ++ τ)[_]? = _ := fun τ => zf hE.st
 have hI : StI 55 4 (stF (ksF zhs) zhs.bats) := live3I
 obtain ⟨s,hs⟩ : ∃ s,stF (ksF zhs) zhs.bats = s := ⟨_,rfl⟩
 rw [hs] at hst hst' hE hI
 obtain ⟨b1,b2,b3,b4,b5,b6,b7,b8⟩ := live3_all s hs
 have hn1 : (zcC s.bs).length = 4 := by rw [List.length_map]; exact b1
 have hn2 : (zgy s.cs).length = 1 := by rw [List.length_map]; exact b2
 have hn3 : (((4 : Nat) : Int) != 4) = false := rfl
 have hn4 : (((1 : Nat) : Int) != 1) = false := rfl
 obtain ⟨c0,hc0⟩ : ∃ c0,s.cs = [c0] := by
  match h : s.cs,b2 with
  | [x],_ => exact ⟨x,rfl⟩
 have hgc : (zgy s.cs)[0]? = some (certD c0) := by rw [hc0]; rfl
 have hc13 := hI.cs c0 (by rw [hc0]; simp)
 rw [show s.cs.getD 0 ⟨0, 0, []⟩ = c0 by rw [hc0]; rfl] at b3 b4 b5 b6 b7 b8
 clear hs
 refine gq45 (zc hst (zc hst' (zc hn1 (zc hn2 (zc hn3 (zc hn4 hgc)))))) ?_
 obtain ⟨m1,m2,m3,m4,m5⟩ := makeF_small (L := s.L) (l := s.bs) (c := c0) (t := [116]) (o := 0) hI.tab hI.bs (by omega) (by omega) (by simp) (by constructor <;> omega)
 have hle : (zfw s.L s.bs c0 [116] 0).2.2.length ≤ 1048576 := m5.len
 obtain ⟨M,hM⟩ : ∃ M,zfw s.L s.bs c0 [116] 0 = M := ⟨_,rfl⟩
 rw [hM] at m1 m2 m3 m4 m5 b3 b4 b5 b6 b7 b8
 have t1 : zdy (zkt M.2.1 [⟨1, 0, 0, [9]⟩]) := zot m1 (by omega) m3 m4 (by simp) (by intro w hw; simp at hw; subst hw; exact ⟨by simp,by constructor <;> simp⟩)
 have t2 : zdy (zkt M.2.1 [⟨7, 0, 0, []⟩]) := zot m1 (by omega) m3 m4 (by simp) (by intro w hw; simp at hw; subst hw; exact ⟨by simp,by constructor <;> simp⟩)
 have t3 : zdy (zkt M.2.1 [⟨9, 0, 0, []⟩]) := zot m1 (by omega) m3 m4 (by simp) (by intro w hw; simp at hw; subst hw; exact ⟨by simp,by constructor <;> simp⟩)
 have hn5 : (zdf M.2.1.headers).length = 3 := by rw [List.length_map]; exact b4
 have hG : s.G.length ≤ 1073741824 := by have := hI.led; omega
 have z0 : ((0 : Int) == 0) = true := rfl
 have z3 : (((3 : Nat) : Int) == 3) = true := rfl
 have zz1 : ((232 : Int) == 232) = true := rfl
 have zz2 : ((230 : Int) == 230) = true := rfl
 have zz3 : ((231 : Int) == 231) = true := rfl
 refine ⟨?_, ?_⟩
 ·refine c_pfMake (c := c0) hE.tab hI.tab (by omega) hI.bs (by omega) ?_
  rw [hM,b3]
  have hE2 := hE.putT M.2.2
  obtain ⟨S2,hS2⟩ : ∃ S2,putTab S (ρ.length + 4) (ρ.length + 3) (ρ.length + 5) M.2.2 = S2 := ⟨_,rfl⟩
  rw [hS2] at hE2 ⊢
  have g9 := hE2.st
  have g9' : ∀ τ,(S2 ++ τ)[_]? = _ := fun τ => zf hE2.st
  refine gq2 (zc z0 (zc z3 (zc hn5 (zc g9 g9')))) ?_
  refine zdM (p := M.2.1) (f := 1) (hE2.tab.app _) (hE2.led.app _) m5 hG m1 ?_
  rw [b5]
  refine gq2 (zc z0 g9') ?_
  refine zlG (p := M.2.1) (l := [⟨1, 0, 0, [9]⟩]) m1.headers m1.path m1.signs (by simp) ?_
  refine gq1 ?_
  refine zdM (f := 1) (hE2.tab.app _) (hE2.led.app _) m5 hG t1 ?_
  rw [b6]
  refine gq2 (zc zz1 g9') ?_
  refine zlG (p := M.2.1) (l := [⟨7, 0, 0, []⟩]) m1.headers m1.path m1.signs (by simp) ?_
  refine gq1 ?_
  refine zdM (f := 1) (hE2.tab.app _) (hE2.led.app _) m5 hG t2 ?_
  rw [b7]
  refine gq2 (zc zz2 g9') ?_
  refine zlG (p := M.2.1) (l := [⟨9, 0, 0, []⟩]) m1.headers m1.path m1.signs (by simp) ?_
  refine gq1 ?_
  refine zdM (f := 1) (hE2.tab.app _) (hE2.led.app _) m5 hG t3 ?_
  rw [b8]
  refine gq2 (zc zz3 g9') ?_
  exact zrq (take_rest fun j x hx => zf (hE2.rest j x (hpre j x hx) (hσ x (List.mem_of_getElem? hx)))) (by simp [zcO,dmT,dm,dm1,zbY]) hl hK
 ·refine gq2 (zc hst hst') ?_
  refine c_pfMake (c := c0) (hE.tab.app _) hI.tab (by omega) hI.bs (by omega) ?_
  rw [hM,b3,ztc hE.tab]
  have hE2 := hE.putT M.2.2
  obtain ⟨S2,hS2⟩ : ∃ S2,putTab S (ρ.length + 4) (ρ.length + 3) (ρ.length + 5) M.2.2 = S2 := ⟨_,rfl⟩
  rw [hS2] at hE2 ⊢
  have l2 : S2.length = S.length := by rw [← hS2]; exact zcr ..
  have g9 := hE2.st
  have g9' : ∀ τ,(S2 ++ τ)[_]? = _ := fun τ => zf hE2.st
  (repeat' (first | simp -dsimp only [↓zgr, ↓zaF, ↓zbL, ↓zgt, ↓zgn, ↓zgl, ↓zgo, ↓zgm, ↓zbR, ↓zbN, ↓zbS, ↓zbO, ↓zgp, ↓zbJ, ↓zbT, ↓zbP, ↓zbU, ↓zbQ, ↓zgj, ↓zgq, ↓zbI, ↓zbX, ↓zgc, ↓zgb, ↓zgi,iN,bT,bF,eN, ↓zdN, ↓unC, ↓zac, ↓zQ, ↓zR, ↓zV, ↓zak, ↓zau, ↓zco, ↓zag, ↓zaJ, ↓zW, ↓zp, ↓zo, ↓zbF, ↓zl, ↓zan, ↓zF, ↓zaM, ↓zaW, ↓ze, ↓zC, ↓zu, ↓zy, ↓zav, ↓zdr, ↓zdU, ↓zat, ↓zaB, ↓zaU, ↓zbk, ↓zbv, ↓zD, ↓zaq, ↓zS, ↓zE, ↓zam,zeb,zbD,zbB,unA,zei,bnd,zeF,zai,zP,zeE,dm,dm1,zB,zal,zfg,zff,zx,Q0,Q1,Q2,Q3,Q4,Q5,zZ,zh,zm,zT,zN,Q6,Q7,Q8,Q9,Q10,Q11,Q12,Q13,Q14,Nat.reduceAdd,Q15,Int.reduceToNat,Q16,Q17,Q18,Q19,Q20,reduceIte,Q21,Q22,zH,rep,zX,zfc,toD,zah,Q23,Q24,Q25,Q26,Q27,Q28,Nat.reduceLeDiff,Q29,Nat.reduceSub,Q30,Q31,Q32,sc,Q33,Q34,Q35,Q36,Q37,Q26,Q38,Q39,zkn,zkk,zkh,zko,zdu,zkl,zki,zkm,zkj,zdt,zdv,zkp,zkq,Bool.not_true,Bool.not_false,List.length_map,z0,z3,hn5,g9,g9', ← l2,List.length_set] | (with_reducible refine zkr ?_) | fail))
  refine zdM (p := M.2.1) (f := 1) (hE2.tab.app _) (hE2.led.app _) m5 hG m1 ?_
  rw [b5]
  (repeat' (first | simp -dsimp only [↓zgr, ↓zaF, ↓zbL, ↓zgt, ↓zgn, ↓zgl, ↓zgo, ↓zgm, ↓zbR, ↓zbN, ↓zbS, ↓zbO, ↓zgp, ↓zbJ, ↓zbT, ↓zbP, ↓zbU, ↓zbQ, ↓zgj, ↓zgq, ↓zbI, ↓zbX, ↓zgc, ↓zgb, ↓zgi,iN,bT,bF,eN, ↓zdN, ↓unC, ↓zac, ↓zQ, ↓zR, ↓zV, ↓zak, ↓zau, ↓zco, ↓zag, ↓zaJ, ↓zW, ↓zp, ↓zo, ↓zbF, ↓zl, ↓zan, ↓zF, ↓zaM, ↓zaW, ↓ze, ↓zC, ↓zu, ↓zy, ↓zav, ↓zdr, ↓zdU, ↓zat, ↓zaB, ↓zaU, ↓zbk, ↓zbv, ↓zD, ↓zaq, ↓zS, ↓zE, ↓zam,zeb,zbD,zbB,unA,zei,bnd,zeF,zai,zP,zeE,dm,dm1,zB,zal,zfg,zff,zx,Q0,Q1,Q2,Q3,Q4,Q5,zZ,zh,zm,zT,zN,Q6,Q7,Q8,Q9,Q10,Q11,Q12,Q13,Q14,Nat.reduceAdd,Q15,Int.reduceToNat,Q16,Q17,Q18,Q19,Q20,reduceIte,Q21,Q22,zH,rep,zX,zfc,toD,zah,Q23,Q24,Q25,Q26,Q27,Q28,Nat.reduceLeDiff,Q29,Nat.reduceSub,Q30,Q31,Q32,sc,Q33,Q34,Q35,Q36,Q37,Q26,Q38,Q39,zkn,zkk,zkh,zko,zdu,zkl,zki,zkm,zkj,zdt,zdv,zkp,zkq,Bool.not_true,Bool.not_false,List.length_map,z0,g9', ← l2,List.length_set] | (with_reducible refine zkr ?_) | fail))
  refine zlG (p := M.2.1) (l := [⟨1, 0, 0, [9]⟩]) m1.headers m1.path m1.signs (by simp) ?_
  refine gq1 ?_
  refine zdM (f := 1) (hE2.tab.app _) (hE2.led.app _) m5 hG t1 ?_
  rw [b6]
  (repeat' (first | simp -dsimp only [↓zgr, ↓zaF, ↓zbL, ↓zgt, ↓zgn, ↓zgl, ↓zgo, ↓zgm, ↓zbR, ↓zbN, ↓zbS, ↓zbO, ↓zgp, ↓zbJ, ↓zbT, ↓zbP, ↓zbU, ↓zbQ, ↓zgj, ↓zgq, ↓zbI, ↓zbX, ↓zgc, ↓zgb, ↓zgi,iN,bT,bF,eN, ↓zdN, ↓unC, ↓zac, ↓zQ, ↓zR, ↓zV, ↓zak, ↓zau, ↓zco, ↓zag, ↓zaJ, ↓zW, ↓zp, ↓zo, ↓zbF, ↓zl, ↓zan, ↓zF, ↓zaM, ↓zaW, ↓ze, ↓zC, ↓zu, ↓zy, ↓zav, ↓zdr, ↓zdU, ↓zat, ↓zaB, ↓zaU, ↓zbk, ↓zbv, ↓zD, ↓zaq, ↓zS, ↓zE, ↓zam,zeb,zbD,zbB,unA,zei,bnd,zeF,zai,zP,zeE,dm,dm1,zB,zal,zfg,zff,zx,Q0,Q1,Q2,Q3,Q4,Q5,zZ,zh,zm,zT,zN,Q6,Q7,Q8,Q9,Q10,Q11,Q12,Q13,Q14,Nat.reduceAdd,Q15,Int.reduceToNat,Q16,Q17,Q18,Q19,Q20,reduceIte,Q21,Q22,zH,rep,zX,zfc,toD,zah,Q23,Q24,Q25,Q26,Q27,Q28,Nat.reduceLeDiff,Q29,Nat.reduceSub,Q30,Q31,Q32,sc,Q33,Q34,Q35,Q36,Q37,Q26,Q38,Q39,zkn,zkk,zkh,zko,zdu,zkl,zki,zkm,zkj,zdt,zdv,zkp,zkq,Bool.not_true,Bool.not_false,List.length_map,zz1,g9', ← l2,List.length_set] | (with_reducible refine zkr ?_) | fail))
  refine zlG (p := M.2.1) (l := [⟨7, 0, 0, []⟩]) m1.headers m1.path m1.signs (by simp) ?_
  refine gq1 ?_
  refine zdM (f := 1) (hE2.tab.app _) (hE2.led.app _) m5 hG t2 ?_
  rw [b7]
  (repeat' (first | simp -dsimp only [↓zgr, ↓zaF, ↓zbL, ↓zgt, ↓zgn, ↓zgl, ↓zgo, ↓zgm, ↓zbR, ↓zbN, ↓zbS, ↓zbO, ↓zgp, ↓zbJ, ↓zbT, ↓zbP, ↓zbU, ↓zbQ, ↓zgj, ↓zgq, ↓zbI, ↓zbX, ↓zgc, ↓zgb, ↓zgi,iN,bT,bF,eN, ↓zdN, ↓unC, ↓zac, ↓zQ, ↓zR, ↓zV, ↓zak, ↓zau, ↓zco, ↓zag, ↓zaJ, ↓zW, ↓zp, ↓zo, ↓zbF, ↓zl, ↓zan, ↓zF, ↓zaM, ↓zaW, ↓ze, ↓zC, ↓zu, ↓zy, ↓zav, ↓zdr, ↓zdU, ↓zat, ↓zaB, ↓zaU, ↓zbk, ↓zbv, ↓zD, ↓zaq, ↓zS, ↓zE, ↓zam,zeb,zbD,zbB,unA,zei,bnd,zeF,zai,zP,zeE,dm,dm1,zB,zal,zfg,zff,zx,Q0,Q1,Q2,Q3,Q4,Q5,zZ,zh,zm,zT,zN,Q6,Q7,Q8,Q9,Q10,Q11,Q12,Q13,Q14,Nat.reduceAdd,Q15,Int.reduceToNat,Q16,Q17,Q18,Q19,Q20,reduceIte,Q21,Q22,zH,rep,zX,zfc,toD,zah,Q23,Q24,Q25,Q26,Q27,Q28,Nat.reduceLeDiff,Q29,Nat.reduceSub,Q30,Q31,Q32,sc,Q33,Q34,Q35,Q36,Q37,Q26,Q38,Q39,zkn,zkk,zkh,zko,zdu,zkl,zki,zkm,zkj,zdt,zdv,zkp,zkq,Bool.not_true,Bool.not_false,List.length_map,zz2,g9', ← l2,List.length_set] | (with_reducible refine zkr ?_) | fail))
  refine zlG (p := M.2.1) (l := [⟨9, 0, 0, []⟩]) m1.headers m1.path m1.signs (by simp) ?_
  refine gq1 ?_
  refine zdM (f := 1) (hE2.tab.app _) (hE2.led.app _) m5 hG t3 ?_
  rw [b8]
  (repeat' (first | simp -dsimp only [↓zgr, ↓zaF, ↓zbL, ↓zgt, ↓zgn, ↓zgl, ↓zgo, ↓zgm, ↓zbR, ↓zbN, ↓zbS, ↓zbO, ↓zgp, ↓zbJ, ↓zbT, ↓zbP, ↓zbU, ↓zbQ, ↓zgj, ↓zgq, ↓zbI, ↓zbX, ↓zgc, ↓zgb, ↓zgi,iN,bT,bF,eN, ↓zdN, ↓unC, ↓zac, ↓zQ, ↓zR, ↓zV, ↓zak, ↓zau, ↓zco, ↓zag, ↓zaJ, ↓zW, ↓zp, ↓zo, ↓zbF, ↓zl, ↓zan, ↓zF, ↓zaM, ↓zaW, ↓ze, ↓zC, ↓zu, ↓zy, ↓zav, ↓zdr, ↓zdU, ↓zat, ↓zaB, ↓zaU, ↓zbk, ↓zbv, ↓zD, ↓zaq, ↓zS, ↓zE, ↓zam,zeb,zbD,zbB,unA,zei,bnd,zeF,zai,zP,zeE,dm,dm1,zB,zal,zfg,zff,zx,Q0,Q1,Q2,Q3,Q4,Q5,zZ,zh,zm,zT,zN,Q6,Q7,Q8,Q9,Q10,Q11,Q12,Q13,Q14,Nat.reduceAdd,Q15,Int.reduceToNat,Q16,Q17,Q18,Q19,Q20,reduceIte,Q21,Q22,zH,rep,zX,zfc,toD,zah,Q23,Q24,Q25,Q26,Q27,Q28,Nat.reduceLeDiff,Q29,Nat.reduceSub,Q30,Q31,Q32,sc,Q33,Q34,Q35,Q36,Q37,Q26,Q38,Q39,zkn,zkk,zkh,zko,zdu,zkl,zki,zkm,zkj,zdt,zdv,zkp,zkq,Bool.not_true,Bool.not_false,List.length_map,zz3,g9', ← l2,List.length_set] | (with_reducible refine zkr ?_) | fail))
  exact zrq (take_rest fun j x hx => zf (hE2.rest j x (hpre j x hx) (hσ x (List.mem_of_getElem? hx)))) (by simp [zcO,dmT,dm,dm1,zbY]) hl hK
def tyHdr : List Ty := [.int .i64, .int .i64, .int .i64, .int .i64, .int .i64]
def tyProof : List Ty := [.str, .int .i64, .slice [.int .u8], .slice tyHdr, .int .i64, .int .i64, .slice [.int .i64], .int .i64, .int .i64, .slice tySign]
theorem dec_hdr {ds : List D} (h : zel tyHdr ds) : ∃ x : zdW,ds = zuJ x ∧ zrk x.seq := by
 obtain ⟨d1,ds,rfl,h1,h⟩ := zaX h
 obtain ⟨d2,ds,rfl,h2,h⟩ := zaX h
 obtain ⟨d3,ds,rfl,h3,h⟩ := zaX h
 obtain ⟨d4,ds,rfl,h4,h⟩ := zaX h
 obtain ⟨d5,ds,rfl,h5,h⟩ := zaX h
 obtain rfl := znh h
 obtain ⟨a1,rfl,k1⟩ := zeW h1
 obtain ⟨a2,rfl,_⟩ := zeW h2
 obtain ⟨a3,rfl,_⟩ := zeW h3
 obtain ⟨a4,rfl,_⟩ := zeW h4
 obtain ⟨a5,rfl,_⟩ := zeW h5
 exact ⟨⟨a1,a2,a3,a4,a5⟩,rfl,k1⟩
theorem dec_int1 {ds : List D} (h : zel [.int .i64] ds) : ∃ x : Int,ds = [.int .i64 x] ∧ zrk x := by
 obtain ⟨d1,ds,rfl,h1,h⟩ := zaX h
 obtain rfl := znh h
 obtain ⟨a1,rfl,k1⟩ := zeW h1
 exact ⟨a1,rfl,k1⟩
theorem dec_signs {d : D} (h : zkg (.slice tySign) d) : ∃ l : List zI,d = .slice (zas l) := by
 obtain ⟨l,rfl⟩ := zrG (f := zfI) h (fun e he => (dec_sign he).imp fun _ h => h.1)
 exact ⟨l,rfl⟩
theorem signs_bulk (l : List zI) : l.length ≤ ziP (zas l) := ziO (f := zfI) (fun a => by simp only [zfI,zhx,znU]; omega) l
structure PfS (p : zaE) : Prop where
 small : zdy p
 path : p.path.length ≤ 1048576
 headers : p.headers.length ≤ 1048576
 signs : p.cert.signs.length ≤ 1048576
theorem dec_proof {ds : List D} (h : zel tyProof ds) (hb : zhx ds ≤ 1048576) : ∃ p : zaE,ds = proofD p ∧ PfS p := by
 obtain ⟨d1,ds,rfl,h1,h⟩ := zaX h
 obtain ⟨d2,ds,rfl,h2,h⟩ := zaX h
 obtain ⟨d3,ds,rfl,h3,h⟩ := zaX h
 obtain ⟨d4,ds,rfl,h4,h⟩ := zaX h
 obtain ⟨d5,ds,rfl,h5,h⟩ := zaX h
 obtain ⟨d6,ds,rfl,h6,h⟩ := zaX h
 obtain ⟨d7,ds,rfl,h7,h⟩ := zaX h
 obtain ⟨d8,ds,rfl,h8,h⟩ := zaX h
 obtain ⟨d9,ds,rfl,h9,h⟩ := zaX h
 obtain ⟨d10,ds,rfl,h10,h⟩ := zaX h
 obtain rfl := znh h
 obtain ⟨a1,rfl⟩ := dec_str h1
 obtain ⟨a2,rfl,k2⟩ := zeW h2
 obtain ⟨a3,rfl⟩ := dec_bytes h3
 obtain ⟨a4,rfl⟩ := zrG (f := zuJ) h4 fun e he => (dec_hdr he).imp fun _ h => h.1
 obtain ⟨a5,rfl,k5⟩ := zeW h5
 obtain ⟨a6,rfl,k6⟩ := zeW h6
 obtain ⟨a7,rfl,k7⟩ := dec_sliceR (f := fun x : Int => [D.int .i64 x]) h7 fun e he => dec_int1 he
 obtain ⟨a8,rfl,k8⟩ := zeW h8
 obtain ⟨a9,rfl,k9⟩ := zeW h9
 obtain ⟨a10,rfl⟩ := dec_signs h10
 simp only [zhx,znU,bulk_bcs] at hb
 have b4 := ziO (f := zuJ) (fun a => by simp only [zuJ,zhx,znU]; omega) a4
 have b7 := ziO (f := fun x : Int => [D.int .i64 x]) (fun a => by simp only [zhx,znU]; omega) a7
 have b10 := signs_bulk a10
 refine ⟨⟨a1,a2,a3,a4,a5,a6,a7,⟨a8,a9,a10⟩⟩,rfl,⟨?_, ?_, ?_, ?_, ?_,k2,k5,k6,k7⟩, ?_, ?_, ?_⟩ <;> simp only <;> omega
structure okC (c : zsa) : Prop where
 ops : ∀ l ∈ c.bats, ∀ x ∈ l,zmd x.op ≤ 20971520
 sum : (c.bats.map List.length).sum ≤ 1048576
 voters : c.voters < 65536
 topic : c.topic.length ≤ 1048576
 offset : zrk c.offset
 tl : c.twists.length ≤ 1048576
 twists : ∀ w ∈ c.twists,TwI w
 bad : c.bad.length ≤ 1048576
 f : zrk c.f
theorem c_tNoneNil {σ : List zg} {K : KT} (hK : K (.d (.bool true)) σ) : zq Tryz.prog zbm [.d .nilp] σ K := by
 refine zec zhS fun hl => ?_
 simp only [zfb,iN,bT,bF,eN]
 refine gq1 ?_
 refine zK hl ?_
 exact hK
theorem zrL {σ : List zg} {K : KT} (hK : K (.d .nilp) σ) : zq Tryz.prog zaD [.d .nilp] σ K := by
 refine zec zev fun hl => ?_
 simp only [zex,iN,bT,bF,eN]
 refine gq1 ?_
 refine c_tNoneNil ?_
 refine gq1 ?_
 refine zK hl ?_
 exact hK
theorem c_gNoneNil {σ : List zg} {K : KT} (hK : K (.d (.bool true)) σ) : zq Tryz.prog zbc [.d .nilp] σ K := by
 refine zec zhw fun hl => ?_
 simp only [zey,iN,bT,bF,eN]
 refine gq1 ?_
 refine zK hl ?_
 exact hK
theorem c_gCloneNil {σ : List zg} {K : KT} (hK : K (.d .nilp) σ) : zq Tryz.prog zbo [.d .nilp] σ K := by
 refine zec zdV fun hl => ?_
 simp only [zdX,iN,bT,bF,eN]
 refine gq1 ?_
 refine c_gNoneNil ?_
 refine gq1 ?_
 refine zK hl ?_
 exact hK
section
variable {σ : List zg} {K : KT}
def noProof : zaE := ⟨[], 0, [], [], 0, 0, [],⟨0, 0, []⟩⟩
theorem c_mkNil {c : zfV} {t : List UInt8} {o : Int} {es : List (List D)} (hK : K (.tup [zcp noProof, .d (.int .i64 2)]) σ) : zq Tryz.prog zeA [.d .nilp, .d (.slice es),ziN c, .d (.str t), .d (.int .i64 o)] σ K := by
 refine acE5 zpB fun hl => ?_
 simp only [zlk,iN,bT,bF,eN,zl0,zl3,ziN]
 refine gq1 ?_
 refine zrL ?_
 refine gq1 ?_
 refine zK hl ?_
 exact hK
theorem c_vNilT {p : zaE} {f : Int} {id : Nat} (hK : K (.d (.int .i64 2)) σ) : zq Tryz.prog zG [.d .nilp, .box id 0, .d (.int .i64 f),zcp p] σ K := by
 refine acE4 zii fun hl => ?_
 simp only [zfH,iN,bT,bF,eN,zcp]
 refine gq1 ?_
 refine zrL ?_
 refine gq1 ?_
 refine zK hl ?_
 exact hK
theorem c_vNilG {p : zaE} {f : Int} {id m t : Nat} (hT : zcd σ id m t []) (hK : K (.d (.int .i64 2)) σ) : zq Tryz.prog zG [.box id 0, .d .nilp, .d (.int .i64 f),zcp p] σ K := by
 refine acE4 zii fun hl => ?_
 simp only [zfH,iN,bT,bF,eN,zcp]
 refine gq1 ?_
 refine zjB (hT.app _) .nil (by simp) (by simp) ?_
 refine gq1 ?_
 refine c_gCloneNil ?_
 refine gq1 ?_
 refine zK hl ?_
 exact hK
theorem zcK {v w : Nat} {f : Int} {p : zaE} (h1 : σ[v]? = some (.box [.exact []])) (h2 : σ[w]? = some (.box [.exact []])) (hne : v ≠ w) (hp : zdy p) (hK : ∀ S,K (.d (.int .i64 (zib [] [] f p))) S) :
  zq Tryz.prog zaf [.box v 0, .box w 0, .d (.int .i64 f),zcp p] σ K := by
 refine zq.pre (xs' := [.box v 0, .box w 0, .d (.int .i64 f),zcp p]) (σ' := (σ.set v (rtO [])).set w (rlO [])) ?_ (c_r23Verify (L := []) (G := []) ?_ ?_ (by simp) (by simp) hp (hK _))
 ·refine .dataB v 0 [.exact []] (.exact []) [] h1 rfl rfl ?_
  refine .dataB w 0 [.exact []] (.exact []) [] (by rw [List.getElem?_set_ne hne]; exact h2) rfl rfl (.refl _ _)
 ·rw [List.getElem?_set_ne (Ne.symm hne),List.getElem?_set_self (zA h1)]
 ·rw [List.getElem?_set_self (by rw [List.length_set]; exact zA h2)]
theorem zeY {a b : Nat} {f : Int} {p : zaE} (h1 : σ[a]? = some (.map (tabM []))) (h2 : σ[a + 1]? = some (.box [.own (a + 2) (zdo []), .map a])) (h3 : σ[a + 2]? = some (.tok 1 0))
  (k1 : σ[b]? = some (.map (zsw []))) (k2 : σ[b + 1]? = some (.box [.own (b + 2) (zny []), .map b])) (k3 : σ[b + 2]? = some (.tok 2 0)) (hp : zdy p) (hK : K (.d (.int .i64 (zib [] [] f p))) σ) :
  zq Tryz.prog zG [.box (a + 1) 0, .box (b + 1) 0, .d (.int .i64 f),zcp p] σ K :=
 zdM (L := []) (G := []) ⟨h2,h1,h3⟩ ⟨k2,k1,k3⟩ zjN.nil (by simp) hp hK
end
end Go.Proofs.YtfjommppajkpoaaGreat
