/- Contracts: certificates and entries that are the same. -/
import Derived.Test.YtncpaekiidpchaaGreatOpC
import Derived.Test.YtncpaekiidpchaaGreatPt2
import Derived.Test.YtncpaekiidpchaaGreatBt3
import Derived.Test.YtncpaekiidpchaaGreatTr1
import Derived.Test.YtncpaekiidpchaaGreatTr2
import Derived.Test.YtncpaekiidpchaaGreatMk7
import Derived.Test.YtncpaekiidpchaaGreatCk3
set_option linter.all false
set_option maxRecDepth 100000
namespace Go.Proofs.YtncpaekiidpchaaGreat
open Go.AW
def certA (c : zfH) : AV := .agg [.d (.int .i64 c.seq), .d (.int .i64 c.dig), .d (.slice (zaz c.signs))]
end Go.Proofs.YtncpaekiidpchaaGreat

/- Contracts: a proof is the same as itself; its first header's number. -/
set_option maxRecDepth 100000
namespace Go.Proofs.YtncpaekiidpchaaGreat
open Go.AW
def firstF (p : zaU) : Int := match p.headers with
 | [] => 0
 | h :: _ => h.seq
theorem gq56 {A P Q : Prop} (a : A) (h : Q) (e : A → P = Q := by intro a; simp -dsimp only [↓zey, ↓zau, ↓zbj, ↓zeA, ↓zes, ↓zeq, ↓zet, ↓zer, ↓zbo, ↓zbk, ↓zbp, ↓zbl, ↓zeu, ↓zbi, ↓zbq, ↓zbm, ↓zbr, ↓zbn, ↓zep, ↓zew, ↓zbh, ↓zbs, ↓zeg, ↓zef, ↓zeo,iN,bT,bF,eN, ↓zcS, ↓unC, ↓zW, ↓zK, ↓zL, ↓zN, ↓zZ, ↓zaw, ↓zbT, ↓zag, ↓zbu, ↓zP, ↓zq, ↓zo, ↓zby, ↓zl, ↓zaf, ↓zH, ↓zaC, ↓zaG, ↓ze, ↓zC, ↓zt, ↓zw, ↓zan, ↓zcC, ↓zdb, ↓zal, ↓zat, ↓zaF, ↓zaP, ↓zaW, ↓zu, ↓zai, ↓zM, ↓zA, ↓zaa,zdi,zbd,zba,unA,zdk,bnd,zdw,zac,zS,zdy,dm,dm1,zB,zak,zdP,zdO,zQ,Q0,Q1,Q2,Q3,Q4,Q5,zR,zr,zy,zO,zI,Q6,Q7,Q8,Q9,Q10,Q11,Q12,Q13,Q14,Nat.reduceAdd,Q15,Int.reduceToNat,Q16,Q17,Q18,Q19,Q20,reduceIte,Q21,Q22,zE,rep,zV,zdG,toD,zab,Q23,Q24,Q25,Q26,Q27,Q28,Nat.reduceLeDiff,Q29,Nat.reduceSub,Q30,Q31,Q32,sc,Q33,Q34,Q35,Q36,Q37,Q26,Q38,Q39,zgH,zgE,zgB,zgI,zcf,zgF,zgC,zgG,zgD,zce,zcg,zgJ,zgK,Bool.not_true,Bool.not_false,List.length_map,List.length_cons,a]; rfl) : P := (e a).mpr h
theorem c_pfBlock {σ : List zg} {p : zaU} {K : KT} (hK : K (.d (.int .i64 (firstF p))) σ) : zD Tryz.prog zjr [zgQ p] σ K := by
 refine zj znw.is rfl fun hl _ => znw.goes ?_
 simp only [znU,iN,bT,bF,eN,zgQ]
 cases hh : p.headers with
 | nil =>
  rw [firstF,hh] at hK
  (repeat' first | refine zfU (show (((0 : Nat) : Int) == 0) = true from rfl) ?_ | with_reducible first | exact ⟨⟩ | refine zh ?_ | fail)
  (first | refine zaq hl ?_ | refine zap hl ?_)
  exact hK
 | cons h r =>
  rw [firstF,hh] at hK
  have hz : (((r.length + 1 : Nat) : Int) == 0) = false := by simp; omega
  have hl2 : (zeM r).length = r.length := List.length_map ..
  (repeat' first | refine gq56 (zdv hz hl2) ?_ | with_reducible first | exact ⟨⟩ | refine zh ?_ | fail)
  (first | refine zaq hl ?_ | refine zap hl ?_)
  exact hK
end Go.Proofs.YtncpaekiidpchaaGreat

/- Chapter 23: a record that is proved, and one that is turned, as the document tells. -/
set_option maxRecDepth 100000
namespace Go.Proofs.YtncpaekiidpchaaGreat
open Go.AW
def putR (k : Int) (b : UInt8) : zn := ⟨0,k,⟨2, [116], [], 0, [[b]]⟩, 0, 0⟩
def zgZ : zkY := ⟨1, [[⟨0, 1,⟨1, [116], [], 0, []⟩, 0, 0⟩], [putR 2 7], [putR 3 8], []], 7, [], [], 0, []⟩
abbrev zlN : zds := stF (ksF zgZ) zgZ.bats
abbrev zlO : Int × zaU × List (List UInt8) := zdL zlN.L zlN.bs (zlN.cs.getD 0 ⟨0, 0, []⟩) [116] 0
theorem live3_1 : zlN.bs.length = 4 := by decide +kernel
theorem live3_2 : zlN.cs.length = 1 := by decide +kernel
theorem live3_3 : zlO.1 = 0 := by decide +kernel
theorem live3_4 : zlO.2.1.headers.length = 3 := by decide +kernel
theorem live3_5 : zmn zlO.2.2 zlN.G 1 zlO.2.1 = 0 := by decide +kernel
theorem live3_6 : zmn zlO.2.2 zlN.G 1 (zkl zlO.2.1 [⟨1, 0, 0, [9]⟩]) = 232 := by decide +kernel
theorem live3_7 : zmn zlO.2.2 zlN.G 1 (zkl zlO.2.1 [⟨7, 0, 0, []⟩]) = 230 := by decide +kernel
theorem live3_8 : zmn zlO.2.2 zlN.G 1 (zkl zlO.2.1 [⟨9, 0, 0, []⟩]) = 231 := by decide +kernel
theorem live3_all (s : zds) (h : stF (ksF zgZ) zgZ.bats = s) : s.bs.length = 4 ∧ s.cs.length = 1 ∧ (zdL s.L s.bs (s.cs.getD 0 ⟨0, 0, []⟩) [116] 0).1 = 0 ∧ (zdL s.L s.bs (s.cs.getD 0 ⟨0, 0, []⟩) [116] 0).2.1.headers.length = 3 ∧
  zmn (zdL s.L s.bs (s.cs.getD 0 ⟨0, 0, []⟩) [116] 0).2.2 s.G 1 (zdL s.L s.bs (s.cs.getD 0 ⟨0, 0, []⟩) [116] 0).2.1 = 0 ∧
  zmn (zdL s.L s.bs (s.cs.getD 0 ⟨0, 0, []⟩) [116] 0).2.2 s.G 1 (zkl (zdL s.L s.bs (s.cs.getD 0 ⟨0, 0, []⟩) [116] 0).2.1 [⟨1, 0, 0, [9]⟩]) = 232 ∧
  zmn (zdL s.L s.bs (s.cs.getD 0 ⟨0, 0, []⟩) [116] 0).2.2 s.G 1 (zkl (zdL s.L s.bs (s.cs.getD 0 ⟨0, 0, []⟩) [116] 0).2.1 [⟨7, 0, 0, []⟩]) = 230 ∧
  zmn (zdL s.L s.bs (s.cs.getD 0 ⟨0, 0, []⟩) [116] 0).2.2 s.G 1 (zkl (zdL s.L s.bs (s.cs.getD 0 ⟨0, 0, []⟩) [116] 0).2.1 [⟨9, 0, 0, []⟩]) = 231 := by
 subst h
 exact ⟨live3_1,live3_2,live3_3,live3_4,live3_5,live3_6,live3_7,live3_8⟩
theorem c_live1 {σ : List zg} {k : Int} {b : UInt8} {K : KT} (hK : K (.d (.slice (zpT [putR k b]))) σ) : zD Tryz.prog zhL [.d (.int .i64 k), .d (.int .u8 b.toNat)] σ K := by
 refine zj zpz.is rfl fun hl _ => zpz.goes ?_
 simp only [zpO,iN,bT,bF,eN]
 (repeat' first | refine gq1 ?_ | with_reducible first | exact ⟨⟩ | refine zh ?_ | fail)
 (first | refine zaq hl ?_ | refine zap hl ?_)
 exact hK
theorem zqo {σ S : List zg} (h : ∀ (j : Nat) (x : zg), σ[j]? = some x → S[j]? = some x) : S.take σ.length = σ := by
 apply List.ext_getElem?
 intro i
 rw [List.getElem?_take]
 split
 ·rename_i hi
  rw [h i _ (List.getElem?_eq_getElem hi),List.getElem?_eq_getElem hi]
 ·rw [List.getElem?_eq_none (by omega)]
theorem zqW {σ S : List zg} {K : KT} {l : List AV} (h : S.take σ.length = σ) (h1 : Low σ.length (dmT (zca l))) (hl : zfc σ.length σ) (hK : K (dmT (zca l)) σ) : AW.Ends σ.length K (some l) S := by
 unfold AW.Ends
 rw [h]
 exact ⟨h1,hl,hK⟩
theorem live3I : StI 55 4 zlN := foldSt (N := 0) (m := 0) (ks := ksF zgZ) (bats := zgZ.bats) st0I (by decide +kernel) (zgs _ _)
theorem gq57 {A P Q : Prop} (a : A) (h : Q) (e : A → P = Q := by intro a; simp -dsimp only [↓zey, ↓zau, ↓zbj, ↓zeA, ↓zes, ↓zeq, ↓zet, ↓zer, ↓zbo, ↓zbk, ↓zbp, ↓zbl, ↓zeu, ↓zbi, ↓zbq, ↓zbm, ↓zbr, ↓zbn, ↓zep, ↓zew, ↓zbh, ↓zbs, ↓zeg, ↓zef, ↓zeo,iN,bT,bF,eN, ↓zcS, ↓unC, ↓zW, ↓zK, ↓zL, ↓zN, ↓zZ, ↓zaw, ↓zbT, ↓zag, ↓zbu, ↓zP, ↓zq, ↓zo, ↓zby, ↓zl, ↓zaf, ↓zH, ↓zaC, ↓zaG, ↓ze, ↓zC, ↓zt, ↓zw, ↓zan, ↓zcC, ↓zdb, ↓zal, ↓zat, ↓zaF, ↓zaP, ↓zaW, ↓zu, ↓zai, ↓zM, ↓zA, ↓zaa,zdi,zbd,zba,unA,zdk,bnd,zdw,zac,zS,zdy,dm,dm1,zB,zak,zdP,zdO,zQ,Q0,Q1,Q2,Q3,Q4,Q5,zR,zr,zy,zO,zI,Q6,Q7,Q8,Q9,Q10,Q11,Q12,Q13,Q14,Nat.reduceAdd,Q15,Int.reduceToNat,Q16,Q17,Q18,Q19,Q20,reduceIte,Q21,Q22,zE,rep,zV,zdG,toD,zab,Q23,Q24,Q25,Q26,Q27,Q28,Nat.reduceLeDiff,Q29,Nat.reduceSub,Q30,Q31,Q32,sc,Q33,Q34,Q35,Q36,Q37,Q26,Q38,Q39,zgH,zgE,zgB,zgI,zcf,zgF,zgC,zgG,zgD,zce,zcg,zgJ,zgK,Bool.not_true,Bool.not_false,List.length_map,certD,a]; rfl) : P := (e a).mpr h
theorem c_live23 {σ : List zg} (hσ : ∀ x ∈ σ, ∀ g sz cs,x ≠ .row g sz cs) {K : KT} (hK : K (.d (.bool true)) σ) : zD Tryz.prog zoG [] σ K := by
 refine zj ztc.is rfl fun hl _ => ztc.goes ?_
 simp only [ztG,iN,bT,bF,eN]
 (repeat' first | refine gq1 ?_ | with_reducible first | exact ⟨⟩ | refine zh ?_ | fail)
 refine c_live1 (k := 2) (b := 7) ?_
 (repeat' first | refine gq1 ?_ | with_reducible first | exact ⟨⟩ | refine zh ?_ | fail)
 refine c_live1 (k := 3) (b := 8) ?_
 (repeat' first | refine gq1 ?_ | with_reducible first | exact ⟨⟩ | refine zh ?_ | fail)
 have hpre : ∀ (j : Nat) (x : zg), σ[j]? = some x → (σ ++ [zg.box [.d (.int .i64 1), .exact (zpb zgZ.bats), .d (.int .u16 7), .exact [], .d (.str []), .d (.int .i64 0), .exact []]])[j]? = some x := fun j x h => zf h
 obtain ⟨ρ,hρ⟩ : ∃ ρ, σ ++ [zg.box [.d (.int .i64 1), .exact (zpb zgZ.bats), .d (.int .u16 7), .exact [], .d (.str []), .d (.int .i64 0), .exact []]] = ρ := ⟨_,rfl⟩
 rw [hρ] at hpre
 change ACallL Tryz.prog zcq [caseA zgZ] (σ ++ [zg.box [.d (.int .i64 1), .exact (zpb zgZ.bats), .d (.int .u16 7), .exact [], .d (.str []), .d (.int .i64 0), .exact []]]) _ _
 rw [hρ]
 refine c_begun23 (c := zgZ) (by decide +kernel) (by decide +kernel) (by decide) fun S hE => ?_
 have hst := hE.st
 have hst' : ∀ τ,(S ++ τ)[_]? = _ := fun τ => zf hE.st
 have hI : StI 55 4 (stF (ksF zgZ) zgZ.bats) := live3I
 obtain ⟨s,hs⟩ : ∃ s,stF (ksF zgZ) zgZ.bats = s := ⟨_,rfl⟩
 rw [hs] at hst hst' hE hI
 obtain ⟨b1,b2,b3,b4,b5,b6,b7,b8⟩ := live3_all s hs
 have hn1 : (zcn s.bs).length = 4 := by rw [List.length_map]; exact b1
 have hn2 : (zfG s.cs).length = 1 := by rw [List.length_map]; exact b2
 have hn3 : (((4 : Nat) : Int) != 4) = false := rfl
 have hn4 : (((1 : Nat) : Int) != 1) = false := rfl
 obtain ⟨c0,hc0⟩ : ∃ c0,s.cs = [c0] := by
  match h : s.cs,b2 with
  | [x],_ => exact ⟨x,rfl⟩
 have hgc : (zfG s.cs)[0]? = some (certD c0) := by rw [hc0]; rfl
 have hc13 := hI.cs c0 (by rw [hc0]; simp)
 rw [show s.cs.getD 0 ⟨0, 0, []⟩ = c0 by rw [hc0]; rfl] at b3 b4 b5 b6 b7 b8
 clear hs
 (repeat' first | refine gq57 (zd hst (zd hst' (zd hn1 (zd hn2 (zd hn3 (zd hn4 hgc)))))) ?_ | with_reducible first | exact ⟨⟩ | refine zh ?_ | fail)
 obtain ⟨m1,m2,m3,m4,m5⟩ := zqI (L := s.L) (l := s.bs) (c := c0) (t := [116]) (o := 0) hI.tab hI.bs (by omega) (by omega) (by simp) (by constructor <;> omega)
 have hle : (zdL s.L s.bs c0 [116] 0).2.2.length ≤ 1048576 := m5.len
 obtain ⟨M,hM⟩ : ∃ M,zdL s.L s.bs c0 [116] 0 = M := ⟨_,rfl⟩
 rw [hM] at m1 m2 m3 m4 m5 b3 b4 b5 b6 b7 b8
 have t1 : zfg (zkl M.2.1 [⟨1, 0, 0, [9]⟩]) := zol m1 (by omega) m3 m4 (by simp) (by intro w hw; simp at hw; subst hw; exact ⟨by simp,by constructor <;> simp⟩)
 have t2 : zfg (zkl M.2.1 [⟨7, 0, 0, []⟩]) := zol m1 (by omega) m3 m4 (by simp) (by intro w hw; simp at hw; subst hw; exact ⟨by simp,by constructor <;> simp⟩)
 have t3 : zfg (zkl M.2.1 [⟨9, 0, 0, []⟩]) := zol m1 (by omega) m3 m4 (by simp) (by intro w hw; simp at hw; subst hw; exact ⟨by simp,by constructor <;> simp⟩)
 have hn5 : (zeM M.2.1.headers).length = 3 := by rw [List.length_map]; exact b4
 have hG : s.G.length ≤ 1073741824 := by have := hI.led; omega
 have z0 : ((0 : Int) == 0) = true := rfl
 have z3 : (((3 : Nat) : Int) == 3) = true := rfl
 have zz1 : ((232 : Int) == 232) = true := rfl
 have zz2 : ((230 : Int) == 230) = true := rfl
 have zz3 : ((231 : Int) == 231) = true := rfl
 refine ⟨?_, ?_⟩
 ·refine zup (c := c0) hE.tab hI.tab (by omega) hI.bs (by omega) ?_
  rw [hM,b3]
  have hE2 := hE.putT M.2.2
  obtain ⟨S2,hS2⟩ : ∃ S2,putTab S (ρ.length + 4) (ρ.length + 3) (ρ.length + 5) M.2.2 = S2 := ⟨_,rfl⟩
  rw [hS2] at hE2 ⊢
  have g9 := hE2.st
  have g9' : ∀ τ,(S2 ++ τ)[_]? = _ := fun τ => zf hE2.st
  (repeat' first | refine gq2 (zd z0 (zd z3 (zd hn5 (zd g9 g9')))) ?_ | with_reducible first | exact ⟨⟩ | refine zh ?_ | fail)
  refine zdM (p := M.2.1) (f := 1) (hE2.tab.app _) (hE2.led.app _) m5 hG m1 ?_
  rw [b5]
  (repeat' first | refine gq2 (zd z0 g9') ?_ | with_reducible first | exact ⟨⟩ | refine zh ?_ | fail)
  refine zlz (p := M.2.1) (l := [⟨1, 0, 0, [9]⟩]) m1.headers m1.path m1.signs (by simp) ?_
  (repeat' first | refine gq1 ?_ | with_reducible first | exact ⟨⟩ | refine zh ?_ | fail)
  refine zdM (f := 1) (hE2.tab.app _) (hE2.led.app _) m5 hG t1 ?_
  rw [b6]
  (repeat' first | refine gq2 (zd zz1 g9') ?_ | with_reducible first | exact ⟨⟩ | refine zh ?_ | fail)
  refine zlz (p := M.2.1) (l := [⟨7, 0, 0, []⟩]) m1.headers m1.path m1.signs (by simp) ?_
  (repeat' first | refine gq1 ?_ | with_reducible first | exact ⟨⟩ | refine zh ?_ | fail)
  refine zdM (f := 1) (hE2.tab.app _) (hE2.led.app _) m5 hG t2 ?_
  rw [b7]
  (repeat' first | refine gq2 (zd zz2 g9') ?_ | with_reducible first | exact ⟨⟩ | refine zh ?_ | fail)
  refine zlz (p := M.2.1) (l := [⟨9, 0, 0, []⟩]) m1.headers m1.path m1.signs (by simp) ?_
  (repeat' first | refine gq1 ?_ | with_reducible first | exact ⟨⟩ | refine zh ?_ | fail)
  refine zdM (f := 1) (hE2.tab.app _) (hE2.led.app _) m5 hG t3 ?_
  rw [b8]
  (repeat' first | refine gq2 (zd zz3 g9') ?_ | with_reducible first | exact ⟨⟩ | refine zh ?_ | fail)
  exact zqW (zqo fun j x hx => zf (hE2.rest j x (hpre j x hx) (hσ x (List.mem_of_getElem? hx)))) (by simp [zdh,dmT,dm,dm1,zca]) hl hK
 ·(repeat' first | refine gq2 (zd hst hst') ?_ | with_reducible first | exact ⟨⟩ | refine zh ?_ | fail)
  refine zup (c := c0) (hE.tab.app _) hI.tab (by omega) hI.bs (by omega) ?_
  rw [hM,b3,zso hE.tab]
  have hE2 := hE.putT M.2.2
  obtain ⟨S2,hS2⟩ : ∃ S2,putTab S (ρ.length + 4) (ρ.length + 3) (ρ.length + 5) M.2.2 = S2 := ⟨_,rfl⟩
  rw [hS2] at hE2 ⊢
  have l2 : S2.length = S.length := by rw [← hS2]; exact zco ..
  have g9 := hE2.st
  have g9' : ∀ τ,(S2 ++ τ)[_]? = _ := fun τ => zf hE2.st
  (repeat' (first | simp -dsimp only [↓zey, ↓zau, ↓zbj, ↓zeA, ↓zes, ↓zeq, ↓zet, ↓zer, ↓zbo, ↓zbk, ↓zbp, ↓zbl, ↓zeu, ↓zbi, ↓zbq, ↓zbm, ↓zbr, ↓zbn, ↓zep, ↓zew, ↓zbh, ↓zbs, ↓zeg, ↓zef, ↓zeo,iN,bT,bF,eN, ↓zcS, ↓unC, ↓zW, ↓zK, ↓zL, ↓zN, ↓zZ, ↓zaw, ↓zbT, ↓zag, ↓zbu, ↓zP, ↓zq, ↓zo, ↓zby, ↓zl, ↓zaf, ↓zH, ↓zaC, ↓zaG, ↓ze, ↓zC, ↓zt, ↓zw, ↓zan, ↓zcC, ↓zdb, ↓zal, ↓zat, ↓zaF, ↓zaP, ↓zaW, ↓zu, ↓zai, ↓zM, ↓zA, ↓zaa,zdi,zbd,zba,unA,zdk,bnd,zdw,zac,zS,zdy,dm,dm1,zB,zak,zdP,zdO,zQ,Q0,Q1,Q2,Q3,Q4,Q5,zR,zr,zy,zO,zI,Q6,Q7,Q8,Q9,Q10,Q11,Q12,Q13,Q14,Nat.reduceAdd,Q15,Int.reduceToNat,Q16,Q17,Q18,Q19,Q20,reduceIte,Q21,Q22,zE,rep,zV,zdG,toD,zab,Q23,Q24,Q25,Q26,Q27,Q28,Nat.reduceLeDiff,Q29,Nat.reduceSub,Q30,Q31,Q32,sc,Q33,Q34,Q35,Q36,Q37,Q26,Q38,Q39,zgH,zgE,zgB,zgI,zcf,zgF,zgC,zgG,zgD,zce,zcg,zgJ,zgK,Bool.not_true,Bool.not_false,List.length_map,z0,z3,hn5,g9,g9', ← l2,List.length_set] | (with_reducible refine zh ?_) | fail))
  refine zdM (p := M.2.1) (f := 1) (hE2.tab.app _) (hE2.led.app _) m5 hG m1 ?_
  rw [b5]
  (repeat' (first | simp -dsimp only [↓zey, ↓zau, ↓zbj, ↓zeA, ↓zes, ↓zeq, ↓zet, ↓zer, ↓zbo, ↓zbk, ↓zbp, ↓zbl, ↓zeu, ↓zbi, ↓zbq, ↓zbm, ↓zbr, ↓zbn, ↓zep, ↓zew, ↓zbh, ↓zbs, ↓zeg, ↓zef, ↓zeo,iN,bT,bF,eN, ↓zcS, ↓unC, ↓zW, ↓zK, ↓zL, ↓zN, ↓zZ, ↓zaw, ↓zbT, ↓zag, ↓zbu, ↓zP, ↓zq, ↓zo, ↓zby, ↓zl, ↓zaf, ↓zH, ↓zaC, ↓zaG, ↓ze, ↓zC, ↓zt, ↓zw, ↓zan, ↓zcC, ↓zdb, ↓zal, ↓zat, ↓zaF, ↓zaP, ↓zaW, ↓zu, ↓zai, ↓zM, ↓zA, ↓zaa,zdi,zbd,zba,unA,zdk,bnd,zdw,zac,zS,zdy,dm,dm1,zB,zak,zdP,zdO,zQ,Q0,Q1,Q2,Q3,Q4,Q5,zR,zr,zy,zO,zI,Q6,Q7,Q8,Q9,Q10,Q11,Q12,Q13,Q14,Nat.reduceAdd,Q15,Int.reduceToNat,Q16,Q17,Q18,Q19,Q20,reduceIte,Q21,Q22,zE,rep,zV,zdG,toD,zab,Q23,Q24,Q25,Q26,Q27,Q28,Nat.reduceLeDiff,Q29,Nat.reduceSub,Q30,Q31,Q32,sc,Q33,Q34,Q35,Q36,Q37,Q26,Q38,Q39,zgH,zgE,zgB,zgI,zcf,zgF,zgC,zgG,zgD,zce,zcg,zgJ,zgK,Bool.not_true,Bool.not_false,List.length_map,z0,g9', ← l2,List.length_set] | (with_reducible refine zh ?_) | fail))
  refine zlz (p := M.2.1) (l := [⟨1, 0, 0, [9]⟩]) m1.headers m1.path m1.signs (by simp) ?_
  (repeat' first | refine gq1 ?_ | with_reducible first | exact ⟨⟩ | refine zh ?_ | fail)
  refine zdM (f := 1) (hE2.tab.app _) (hE2.led.app _) m5 hG t1 ?_
  rw [b6]
  (repeat' (first | simp -dsimp only [↓zey, ↓zau, ↓zbj, ↓zeA, ↓zes, ↓zeq, ↓zet, ↓zer, ↓zbo, ↓zbk, ↓zbp, ↓zbl, ↓zeu, ↓zbi, ↓zbq, ↓zbm, ↓zbr, ↓zbn, ↓zep, ↓zew, ↓zbh, ↓zbs, ↓zeg, ↓zef, ↓zeo,iN,bT,bF,eN, ↓zcS, ↓unC, ↓zW, ↓zK, ↓zL, ↓zN, ↓zZ, ↓zaw, ↓zbT, ↓zag, ↓zbu, ↓zP, ↓zq, ↓zo, ↓zby, ↓zl, ↓zaf, ↓zH, ↓zaC, ↓zaG, ↓ze, ↓zC, ↓zt, ↓zw, ↓zan, ↓zcC, ↓zdb, ↓zal, ↓zat, ↓zaF, ↓zaP, ↓zaW, ↓zu, ↓zai, ↓zM, ↓zA, ↓zaa,zdi,zbd,zba,unA,zdk,bnd,zdw,zac,zS,zdy,dm,dm1,zB,zak,zdP,zdO,zQ,Q0,Q1,Q2,Q3,Q4,Q5,zR,zr,zy,zO,zI,Q6,Q7,Q8,Q9,Q10,Q11,Q12,Q13,Q14,Nat.reduceAdd,Q15,Int.reduceToNat,Q16,Q17,Q18,Q19,Q20,reduceIte,Q21,Q22,zE,rep,zV,zdG,toD,zab,Q23,Q24,Q25,Q26,Q27,Q28,Nat.reduceLeDiff,Q29,Nat.reduceSub,Q30,Q31,Q32,sc,Q33,Q34,Q35,Q36,Q37,Q26,Q38,Q39,zgH,zgE,zgB,zgI,zcf,zgF,zgC,zgG,zgD,zce,zcg,zgJ,zgK,Bool.not_true,Bool.not_false,List.length_map,zz1,g9', ← l2,List.length_set] | (with_reducible refine zh ?_) | fail))
  refine zlz (p := M.2.1) (l := [⟨7, 0, 0, []⟩]) m1.headers m1.path m1.signs (by simp) ?_
  (repeat' first | refine gq1 ?_ | with_reducible first | exact ⟨⟩ | refine zh ?_ | fail)
  refine zdM (f := 1) (hE2.tab.app _) (hE2.led.app _) m5 hG t2 ?_
  rw [b7]
  (repeat' (first | simp -dsimp only [↓zey, ↓zau, ↓zbj, ↓zeA, ↓zes, ↓zeq, ↓zet, ↓zer, ↓zbo, ↓zbk, ↓zbp, ↓zbl, ↓zeu, ↓zbi, ↓zbq, ↓zbm, ↓zbr, ↓zbn, ↓zep, ↓zew, ↓zbh, ↓zbs, ↓zeg, ↓zef, ↓zeo,iN,bT,bF,eN, ↓zcS, ↓unC, ↓zW, ↓zK, ↓zL, ↓zN, ↓zZ, ↓zaw, ↓zbT, ↓zag, ↓zbu, ↓zP, ↓zq, ↓zo, ↓zby, ↓zl, ↓zaf, ↓zH, ↓zaC, ↓zaG, ↓ze, ↓zC, ↓zt, ↓zw, ↓zan, ↓zcC, ↓zdb, ↓zal, ↓zat, ↓zaF, ↓zaP, ↓zaW, ↓zu, ↓zai, ↓zM, ↓zA, ↓zaa,zdi,zbd,zba,unA,zdk,bnd,zdw,zac,zS,zdy,dm,dm1,zB,zak,zdP,zdO,zQ,Q0,Q1,Q2,Q3,Q4,Q5,zR,zr,zy,zO,zI,Q6,Q7,Q8,Q9,Q10,Q11,Q12,Q13,Q14,Nat.reduceAdd,Q15,Int.reduceToNat,Q16,Q17,Q18,Q19,Q20,reduceIte,Q21,Q22,zE,rep,zV,zdG,toD,zab,Q23,Q24,Q25,Q26,Q27,Q28,Nat.reduceLeDiff,Q29,Nat.reduceSub,Q30,Q31,Q32,sc,Q33,Q34,Q35,Q36,Q37,Q26,Q38,Q39,zgH,zgE,zgB,zgI,zcf,zgF,zgC,zgG,zgD,zce,zcg,zgJ,zgK,Bool.not_true,Bool.not_false,List.length_map,zz2,g9', ← l2,List.length_set] | (with_reducible refine zh ?_) | fail))
  refine zlz (p := M.2.1) (l := [⟨9, 0, 0, []⟩]) m1.headers m1.path m1.signs (by simp) ?_
  (repeat' first | refine gq1 ?_ | with_reducible first | exact ⟨⟩ | refine zh ?_ | fail)
  refine zdM (f := 1) (hE2.tab.app _) (hE2.led.app _) m5 hG t3 ?_
  rw [b8]
  (repeat' (first | simp -dsimp only [↓zey, ↓zau, ↓zbj, ↓zeA, ↓zes, ↓zeq, ↓zet, ↓zer, ↓zbo, ↓zbk, ↓zbp, ↓zbl, ↓zeu, ↓zbi, ↓zbq, ↓zbm, ↓zbr, ↓zbn, ↓zep, ↓zew, ↓zbh, ↓zbs, ↓zeg, ↓zef, ↓zeo,iN,bT,bF,eN, ↓zcS, ↓unC, ↓zW, ↓zK, ↓zL, ↓zN, ↓zZ, ↓zaw, ↓zbT, ↓zag, ↓zbu, ↓zP, ↓zq, ↓zo, ↓zby, ↓zl, ↓zaf, ↓zH, ↓zaC, ↓zaG, ↓ze, ↓zC, ↓zt, ↓zw, ↓zan, ↓zcC, ↓zdb, ↓zal, ↓zat, ↓zaF, ↓zaP, ↓zaW, ↓zu, ↓zai, ↓zM, ↓zA, ↓zaa,zdi,zbd,zba,unA,zdk,bnd,zdw,zac,zS,zdy,dm,dm1,zB,zak,zdP,zdO,zQ,Q0,Q1,Q2,Q3,Q4,Q5,zR,zr,zy,zO,zI,Q6,Q7,Q8,Q9,Q10,Q11,Q12,Q13,Q14,Nat.reduceAdd,Q15,Int.reduceToNat,Q16,Q17,Q18,Q19,Q20,reduceIte,Q21,Q22,zE,rep,zV,zdG,toD,zab,Q23,Q24,Q25,Q26,Q27,Q28,Nat.reduceLeDiff,Q29,Nat.reduceSub,Q30,Q31,Q32,sc,Q33,Q34,Q35,Q36,Q37,Q26,Q38,Q39,zgH,zgE,zgB,zgI,zcf,zgF,zgC,zgG,zgD,zce,zcg,zgJ,zgK,Bool.not_true,Bool.not_false,List.length_map,zz3,g9', ← l2,List.length_set] | (with_reducible refine zh ?_) | fail))
  exact zqW (zqo fun j x hx => zf (hE2.rest j x (hpre j x hx) (hσ x (List.mem_of_getElem? hx)))) (by simp [zdh,dmT,dm,dm1,zca]) hl hK
end Go.Proofs.YtncpaekiidpchaaGreat
