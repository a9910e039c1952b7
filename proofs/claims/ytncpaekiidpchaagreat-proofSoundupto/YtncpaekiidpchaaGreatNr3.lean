/- Contracts: certificates and entries that are the same. -/
import Derived.Test.YtncpaekiidpchaaGreatOpC
import Derived.Test.YtncpaekiidpchaaGreatPt2
import Derived.Test.YtncpaekiidpchaaGreatBt3
import Derived.Test.YtncpaekiidpchaaGreatTr1
import Derived.Test.YtncpaekiidpchaaGreatTr2
import Derived.Test.YtncpaekiidpchaaGreatMk7
import Derived.Test.YtncpaekiidpchaaGreatCk3
set_option linter.all false
set_option maxRecDepth 100000
namespace Go.Proofs.YtncpaekiidpchaaGreat
open Go.AW
def certA (c : zfN) : AV := .agg [.d (.int .i64 c.seq), .d (.int .i64 c.dig), .d (.slice (zaA c.signs))]
end Go.Proofs.YtncpaekiidpchaaGreat

/- Contracts: a proof is the same as itself; its first header's number. -/
set_option maxRecDepth 100000
namespace Go.Proofs.YtncpaekiidpchaaGreat
open Go.AW
end Go.Proofs.YtncpaekiidpchaaGreat

/- Chapter 23: a record that is proved, and one that is turned, as the document tells. -/
set_option maxRecDepth 100000
namespace Go.Proofs.YtncpaekiidpchaaGreat
open Go.AW
def putR (k : Int) (b : UInt8) : zn := ⟨0,k,⟨2, [116], [], 0, [[b]]⟩, 0, 0⟩
def zhf : zmZ := ⟨1, [[⟨0, 1,⟨1, [116], [], 0, []⟩, 0, 0⟩], [putR 2 7], [putR 3 8], []], 7, [], [], 0, []⟩
abbrev zlW : zed := stF (ksF zhf) zhf.bats
abbrev zlX : Int × zaO × List (List UInt8) := zeQ zlW.L zlW.bs (zlW.cs.getD 0 ⟨0, 0, []⟩) [116] 0
theorem live3_1 : zlW.bs.length = 4 := by decide +kernel
theorem live3_2 : zlW.cs.length = 1 := by decide +kernel
theorem live3_3 : zlX.1 = 0 := by decide +kernel
theorem live3_4 : zlX.2.1.headers.length = 3 := by decide +kernel
theorem live3_5 : zlP zlX.2.2 zlW.G 1 zlX.2.1 = 0 := by decide +kernel
theorem live3_6 : zlP zlX.2.2 zlW.G 1 (zic zlX.2.1 [⟨1, 0, 0, [9]⟩]) = 232 := by decide +kernel
theorem live3_7 : zlP zlX.2.2 zlW.G 1 (zic zlX.2.1 [⟨7, 0, 0, []⟩]) = 230 := by decide +kernel
theorem live3_8 : zlP zlX.2.2 zlW.G 1 (zic zlX.2.1 [⟨9, 0, 0, []⟩]) = 231 := by decide +kernel
theorem live3_all (s : zed) (h : stF (ksF zhf) zhf.bats = s) : s.bs.length = 4 ∧ s.cs.length = 1 ∧ (zeQ s.L s.bs (s.cs.getD 0 ⟨0, 0, []⟩) [116] 0).1 = 0 ∧ (zeQ s.L s.bs (s.cs.getD 0 ⟨0, 0, []⟩) [116] 0).2.1.headers.length = 3 ∧
  zlP (zeQ s.L s.bs (s.cs.getD 0 ⟨0, 0, []⟩) [116] 0).2.2 s.G 1 (zeQ s.L s.bs (s.cs.getD 0 ⟨0, 0, []⟩) [116] 0).2.1 = 0 ∧
  zlP (zeQ s.L s.bs (s.cs.getD 0 ⟨0, 0, []⟩) [116] 0).2.2 s.G 1 (zic (zeQ s.L s.bs (s.cs.getD 0 ⟨0, 0, []⟩) [116] 0).2.1 [⟨1, 0, 0, [9]⟩]) = 232 ∧
  zlP (zeQ s.L s.bs (s.cs.getD 0 ⟨0, 0, []⟩) [116] 0).2.2 s.G 1 (zic (zeQ s.L s.bs (s.cs.getD 0 ⟨0, 0, []⟩) [116] 0).2.1 [⟨7, 0, 0, []⟩]) = 230 ∧
  zlP (zeQ s.L s.bs (s.cs.getD 0 ⟨0, 0, []⟩) [116] 0).2.2 s.G 1 (zic (zeQ s.L s.bs (s.cs.getD 0 ⟨0, 0, []⟩) [116] 0).2.1 [⟨9, 0, 0, []⟩]) = 231 := by
 subst h
 exact ⟨live3_1,live3_2,live3_3,live3_4,live3_5,live3_6,live3_7,live3_8⟩
theorem c_live1 {σ : List zg} {k : Int} {b : UInt8} {K : KT} (hK : K (.d (.slice (zpZ [putR k b]))) σ) : zE Tryz.prog zhM [.d (.int .i64 k), .d (.int .u8 b.toNat)] σ K := by
 refine zi zpD.is rfl fun hl _ => zpD.goes ?_
 simp only [zpS,iN,bT,bF,eN]
 (repeat' first | refine gq1 ?_ | with_reducible first | exact ⟨⟩ | refine zh ?_ | fail)
 (first | refine zar hl ?_ | refine zaq hl ?_)
 exact hK
theorem zqv {σ S : List zg} (h : ∀ (j : Nat) (x : zg), σ[j]? = some x → S[j]? = some x) : S.take σ.length = σ := by
 apply List.ext_getElem?
 intro i
 rw [List.getElem?_take]
 split
 ·rename_i hi
  rw [h i _ (List.getElem?_eq_getElem hi),List.getElem?_eq_getElem hi]
 ·rw [List.getElem?_eq_none (by omega)]
theorem zrc {σ S : List zg} {K : KT} {l : List AV} (h : S.take σ.length = σ) (h1 : Low σ.length (dmT (zbZ l))) (hl : zfg σ.length σ) (hK : K (dmT (zbZ l)) σ) : AW.Ends σ.length K (some l) S := by
 unfold AW.Ends
 rw [h]
 exact ⟨h1,hl,hK⟩
theorem live3I : StI 55 4 zlW := foldSt (N := 0) (m := 0) (ks := ksF zhf) (bats := zhf.bats) st0I (by decide +kernel) (zjD _ _)
theorem gq56 {A P Q : Prop} (a : A) (h : Q) (e : A → P = Q := by intro a; simp -dsimp only [↓zes, ↓zaw, ↓zbf, ↓zet, ↓zen, ↓zel, ↓zeo, ↓zem, ↓zbk, ↓zbg, ↓zbl, ↓zbh, ↓zep, ↓zbe, ↓zbm, ↓zbi, ↓zbn, ↓zbj, ↓zek, ↓zeq, ↓zbd, ↓zbo, ↓zef, ↓zee, ↓zej,iN,bT,bF,eN, ↓zcS, ↓unC, ↓zU, ↓zK, ↓zL, ↓zN, ↓zZ, ↓zax, ↓zbQ, ↓zaf, ↓zbp, ↓zP, ↓zq, ↓zo, ↓zbu, ↓zl, ↓zah, ↓zI, ↓zaD, ↓zaG, ↓ze, ↓zC, ↓zt, ↓zw, ↓zan, ↓zcC, ↓zcV, ↓zal, ↓zat, ↓zaE, ↓zaN, ↓zaS, ↓zu, ↓zai, ↓zM, ↓zA, ↓zaa,zcZ,zba,zaV,unA,zdg,bnd,zdy,zad,zS,zdz,dm,dm1,zB,zak,zdQ,zdP,zR,Q0,Q1,Q2,Q3,Q4,Q5,zQ,zr,zy,zO,zH,Q6,Q7,Q8,Q9,Q10,Q11,Q12,Q13,Q14,Nat.reduceAdd,Q15,Int.reduceToNat,Q16,Q17,Q18,Q19,Q20,reduceIte,Q21,Q22,zD,rep,zV,zdK,toD,zac,Q23,Q24,Q25,Q26,Q27,Q28,Nat.reduceLeDiff,Q29,Nat.reduceSub,Q30,Q31,Q32,sc,Q33,Q34,Q35,Q36,Q37,Q26,Q38,Q39,zgF,zgC,zgz,zgG,zcb,zgD,zgA,zgE,zgB,zca,zcc,zgK,zgL,Bool.not_true,Bool.not_false,List.length_map,certD,a]; rfl) : P := (e a).mpr h
theorem c_live23 {σ : List zg} (hσ : ∀ x ∈ σ, ∀ g sz cs,x ≠ .row g sz cs) {K : KT} (hK : K (.d (.bool true)) σ) : zE Tryz.prog zoG [] σ K := by
 refine zi zti.is rfl fun hl _ => zti.goes ?_
 simp only [ztN,iN,bT,bF,eN]
 (repeat' first | refine gq1 ?_ | with_reducible first | exact ⟨⟩ | refine zh ?_ | fail)
 refine c_live1 (k := 2) (b := 7) ?_
 (repeat' first | refine gq1 ?_ | with_reducible first | exact ⟨⟩ | refine zh ?_ | fail)
 refine c_live1 (k := 3) (b := 8) ?_
 (repeat' first | refine gq1 ?_ | with_reducible first | exact ⟨⟩ | refine zh ?_ | fail)
 have hpre : ∀ (j : Nat) (x : zg), σ[j]? = some x → (σ ++ [zg.box [.d (.int .i64 1), .exact (zpe zhf.bats), .d (.int .u16 7), .exact [], .d (.str []), .d (.int .i64 0), .exact []]])[j]? = some x := fun j x h => zf h
 obtain ⟨ρ,hρ⟩ : ∃ ρ, σ ++ [zg.box [.d (.int .i64 1), .exact (zpe zhf.bats), .d (.int .u16 7), .exact [], .d (.str []), .d (.int .i64 0), .exact []]] = ρ := ⟨_,rfl⟩
 rw [hρ] at hpre
 change ACallL Tryz.prog zcs [caseA zhf] (σ ++ [zg.box [.d (.int .i64 1), .exact (zpe zhf.bats), .d (.int .u16 7), .exact [], .d (.str []), .d (.int .i64 0), .exact []]]) _ _
 rw [hρ]
 refine c_begun23 (c := zhf) (by decide +kernel) (by decide +kernel) (by decide) fun S hE => ?_
 have hst := hE.st
 have hst' : ∀ τ,(S ++ τ)[_]? = _ := fun τ => zf hE.st
 have hI : StI 55 4 (stF (ksF zhf) zhf.bats) := live3I
 obtain ⟨s,hs⟩ : ∃ s,stF (ksF zhf) zhf.bats = s := ⟨_,rfl⟩
 rw [hs] at hst hst' hE hI
 obtain ⟨b1,b2,b3,b4,b5,b6,b7,b8⟩ := live3_all s hs
 have hn1 : (zcl s.bs).length = 4 := by rw [List.length_map]; exact b1
 have hn2 : (zfM s.cs).length = 1 := by rw [List.length_map]; exact b2
 have hn3 : (((4 : Nat) : Int) != 4) = false := rfl
 have hn4 : (((1 : Nat) : Int) != 1) = false := rfl
 obtain ⟨c0,hc0⟩ : ∃ c0,s.cs = [c0] := by
  match h : s.cs,b2 with
  | [x],_ => exact ⟨x,rfl⟩
 have hgc : (zfM s.cs)[0]? = some (certD c0) := by rw [hc0]; rfl
 have hc13 := hI.cs c0 (by rw [hc0]; simp)
 rw [show s.cs.getD 0 ⟨0, 0, []⟩ = c0 by rw [hc0]; rfl] at b3 b4 b5 b6 b7 b8
 clear hs
 (repeat' first | refine gq56 (zd hst (zd hst' (zd hn1 (zd hn2 (zd hn3 (zd hn4 hgc)))))) ?_ | with_reducible first | exact ⟨⟩ | refine zh ?_ | fail)
 obtain ⟨m1,m2,m3,m4,m5⟩ := zqO (L := s.L) (l := s.bs) (c := c0) (t := [116]) (o := 0) hI.tab hI.bs (by omega) (by omega) (by simp) (by constructor <;> omega)
 have hle : (zeQ s.L s.bs c0 [116] 0).2.2.length ≤ 1048576 := m5.len
 obtain ⟨M,hM⟩ : ∃ M,zeQ s.L s.bs c0 [116] 0 = M := ⟨_,rfl⟩
 rw [hM] at m1 m2 m3 m4 m5 b3 b4 b5 b6 b7 b8
 have t1 : zdT (zic M.2.1 [⟨1, 0, 0, [9]⟩]) := zlt m1 (by omega) m3 m4 (by simp) (by intro w hw; simp at hw; subst hw; exact ⟨by simp,by constructor <;> simp⟩)
 have t2 : zdT (zic M.2.1 [⟨7, 0, 0, []⟩]) := zlt m1 (by omega) m3 m4 (by simp) (by intro w hw; simp at hw; subst hw; exact ⟨by simp,by constructor <;> simp⟩)
 have t3 : zdT (zic M.2.1 [⟨9, 0, 0, []⟩]) := zlt m1 (by omega) m3 m4 (by simp) (by intro w hw; simp at hw; subst hw; exact ⟨by simp,by constructor <;> simp⟩)
 have hn5 : (zeR M.2.1.headers).length = 3 := by rw [List.length_map]; exact b4
 have hG : s.G.length ≤ 1073741824 := by have := hI.led; omega
 have z0 : ((0 : Int) == 0) = true := rfl
 have z3 : (((3 : Nat) : Int) == 3) = true := rfl
 have zz1 : ((232 : Int) == 232) = true := rfl
 have zz2 : ((230 : Int) == 230) = true := rfl
 have zz3 : ((231 : Int) == 231) = true := rfl
 refine ⟨?_, ?_⟩
 ·refine zuy (c := c0) hE.tab hI.tab (by omega) hI.bs (by omega) ?_
  rw [hM,b3]
  have hE2 := hE.putT M.2.2
  obtain ⟨S2,hS2⟩ : ∃ S2,putTab S (ρ.length + 4) (ρ.length + 3) (ρ.length + 5) M.2.2 = S2 := ⟨_,rfl⟩
  rw [hS2] at hE2 ⊢
  have g9 := hE2.st
  have g9' : ∀ τ,(S2 ++ τ)[_]? = _ := fun τ => zf hE2.st
  (repeat' first | refine gq2 (zd z0 (zd z3 (zd hn5 (zd g9 g9')))) ?_ | with_reducible first | exact ⟨⟩ | refine zh ?_ | fail)
  refine zdR (p := M.2.1) (f := 1) (hE2.tab.app _) (hE2.led.app _) m5 hG m1 ?_
  rw [b5]
  (repeat' first | refine gq2 (zd z0 g9') ?_ | with_reducible first | exact ⟨⟩ | refine zh ?_ | fail)
  refine zjJ (p := M.2.1) (l := [⟨1, 0, 0, [9]⟩]) m1.headers m1.path m1.signs (by simp) ?_
  (repeat' first | refine gq1 ?_ | with_reducible first | exact ⟨⟩ | refine zh ?_ | fail)
  refine zdR (f := 1) (hE2.tab.app _) (hE2.led.app _) m5 hG t1 ?_
  rw [b6]
  (repeat' first | refine gq2 (zd zz1 g9') ?_ | with_reducible first | exact ⟨⟩ | refine zh ?_ | fail)
  refine zjJ (p := M.2.1) (l := [⟨7, 0, 0, []⟩]) m1.headers m1.path m1.signs (by simp) ?_
  (repeat' first | refine gq1 ?_ | with_reducible first | exact ⟨⟩ | refine zh ?_ | fail)
  refine zdR (f := 1) (hE2.tab.app _) (hE2.led.app _) m5 hG t2 ?_
  rw [b7]
  (repeat' first | refine gq2 (zd zz2 g9') ?_ | with_reducible first | exact ⟨⟩ | refine zh ?_ | fail)
  refine zjJ (p := M.2.1) (l := [⟨9, 0, 0, []⟩]) m1.headers m1.path m1.signs (by simp) ?_
  (repeat' first | refine gq1 ?_ | with_reducible first | exact ⟨⟩ | refine zh ?_ | fail)
  refine zdR (f := 1) (hE2.tab.app _) (hE2.led.app _) m5 hG t3 ?_
  rw [b8]
  (repeat' first | refine gq2 (zd zz3 g9') ?_ | with_reducible first | exact ⟨⟩ | refine zh ?_ | fail)
  exact zrc (zqv fun j x hx => zf (hE2.rest j x (hpre j x hx) (hσ x (List.mem_of_getElem? hx)))) (by simp [zcU,dmT,dm,dm1,zbZ]) hl hK
 ·(repeat' first | refine gq2 (zd hst hst') ?_ | with_reducible first | exact ⟨⟩ | refine zh ?_ | fail)
  refine zuy (c := c0) (hE.tab.app _) hI.tab (by omega) hI.bs (by omega) ?_
  rw [hM,b3,zot hE.tab]
  have hE2 := hE.putT M.2.2
  obtain ⟨S2,hS2⟩ : ∃ S2,putTab S (ρ.length + 4) (ρ.length + 3) (ρ.length + 5) M.2.2 = S2 := ⟨_,rfl⟩
  rw [hS2] at hE2 ⊢
  have l2 : S2.length = S.length := by rw [← hS2]; exact zcg ..
  have g9 := hE2.st
  have g9' : ∀ τ,(S2 ++ τ)[_]? = _ := fun τ => zf hE2.st
  (repeat' (first | simp -dsimp only [↓zes, ↓zaw, ↓zbf, ↓zet, ↓zen, ↓zel, ↓zeo, ↓zem, ↓zbk, ↓zbg, ↓zbl, ↓zbh, ↓zep, ↓zbe, ↓zbm, ↓zbi, ↓zbn, ↓zbj, ↓zek, ↓zeq, ↓zbd, ↓zbo, ↓zef, ↓zee, ↓zej,iN,bT,bF,eN, ↓zcS, ↓unC, ↓zU, ↓zK, ↓zL, ↓zN, ↓zZ, ↓zax, ↓zbQ, ↓zaf, ↓zbp, ↓zP, ↓zq, ↓zo, ↓zbu, ↓zl, ↓zah, ↓zI, ↓zaD, ↓zaG, ↓ze, ↓zC, ↓zt, ↓zw, ↓zan, ↓zcC, ↓zcV, ↓zal, ↓zat, ↓zaE, ↓zaN, ↓zaS, ↓zu, ↓zai, ↓zM, ↓zA, ↓zaa,zcZ,zba,zaV,unA,zdg,bnd,zdy,zad,zS,zdz,dm,dm1,zB,zak,zdQ,zdP,zR,Q0,Q1,Q2,Q3,Q4,Q5,zQ,zr,zy,zO,zH,Q6,Q7,Q8,Q9,Q10,Q11,Q12,Q13,Q14,Nat.reduceAdd,Q15,Int.reduceToNat,Q16,Q17,Q18,Q19,Q20,reduceIte,Q21,Q22,zD,rep,zV,zdK,toD,zac,Q23,Q24,Q25,Q26,Q27,Q28,Nat.reduceLeDiff,Q29,Nat.reduceSub,Q30,Q31,Q32,sc,Q33,Q34,Q35,Q36,Q37,Q26,Q38,Q39,zgF,zgC,zgz,zgG,zcb,zgD,zgA,zgE,zgB,zca,zcc,zgK,zgL,Bool.not_true,Bool.not_false,List.length_map,z0,z3,hn5,g9,g9', ← l2,List.length_set] | (with_reducible refine zh ?_) | fail))
  refine zdR (p := M.2.1) (f := 1) (hE2.tab.app _) (hE2.led.app _) m5 hG m1 ?_
  rw [b5]
  (repeat' (first | simp -dsimp only [↓zes, ↓zaw, ↓zbf, ↓zet, ↓zen, ↓zel, ↓zeo, ↓zem, ↓zbk, ↓zbg, ↓zbl, ↓zbh, ↓zep, ↓zbe, ↓zbm, ↓zbi, ↓zbn, ↓zbj, ↓zek, ↓zeq, ↓zbd, ↓zbo, ↓zef, ↓zee, ↓zej,iN,bT,bF,eN, ↓zcS, ↓unC, ↓zU, ↓zK, ↓zL, ↓zN, ↓zZ, ↓zax, ↓zbQ, ↓zaf, ↓zbp, ↓zP, ↓zq, ↓zo, ↓zbu, ↓zl, ↓zah, ↓zI, ↓zaD, ↓zaG, ↓ze, ↓zC, ↓zt, ↓zw, ↓zan, ↓zcC, ↓zcV, ↓zal, ↓zat, ↓zaE, ↓zaN, ↓zaS, ↓zu, ↓zai, ↓zM, ↓zA, ↓zaa,zcZ,zba,zaV,unA,zdg,bnd,zdy,zad,zS,zdz,dm,dm1,zB,zak,zdQ,zdP,zR,Q0,Q1,Q2,Q3,Q4,Q5,zQ,zr,zy,zO,zH,Q6,Q7,Q8,Q9,Q10,Q11,Q12,Q13,Q14,Nat.reduceAdd,Q15,Int.reduceToNat,Q16,Q17,Q18,Q19,Q20,reduceIte,Q21,Q22,zD,rep,zV,zdK,toD,zac,Q23,Q24,Q25,Q26,Q27,Q28,Nat.reduceLeDiff,Q29,Nat.reduceSub,Q30,Q31,Q32,sc,Q33,Q34,Q35,Q36,Q37,Q26,Q38,Q39,zgF,zgC,zgz,zgG,zcb,zgD,zgA,zgE,zgB,zca,zcc,zgK,zgL,Bool.not_true,Bool.not_false,List.length_map,z0,g9', ← l2,List.length_set] | (with_reducible refine zh ?_) | fail))
  refine zjJ (p := M.2.1) (l := [⟨1, 0, 0, [9]⟩]) m1.headers m1.path m1.signs (by simp) ?_
  (repeat' first | refine gq1 ?_ | with_reducible first | exact ⟨⟩ | refine zh ?_ | fail)
  refine zdR (f := 1) (hE2.tab.app _) (hE2.led.app _) m5 hG t1 ?_
  rw [b6]
  (repeat' (first | simp -dsimp only [↓zes, ↓zaw, ↓zbf, ↓zet, ↓zen, ↓zel, ↓zeo, ↓zem, ↓zbk, ↓zbg, ↓zbl, ↓zbh, ↓zep, ↓zbe, ↓zbm, ↓zbi, ↓zbn, ↓zbj, ↓zek, ↓zeq, ↓zbd, ↓zbo, ↓zef, ↓zee, ↓zej,iN,bT,bF,eN, ↓zcS, ↓unC, ↓zU, ↓zK, ↓zL, ↓zN, ↓zZ, ↓zax, ↓zbQ, ↓zaf, ↓zbp, ↓zP, ↓zq, ↓zo, ↓zbu, ↓zl, ↓zah, ↓zI, ↓zaD, ↓zaG, ↓ze, ↓zC, ↓zt, ↓zw, ↓zan, ↓zcC, ↓zcV, ↓zal, ↓zat, ↓zaE, ↓zaN, ↓zaS, ↓zu, ↓zai, ↓zM, ↓zA, ↓zaa,zcZ,zba,zaV,unA,zdg,bnd,zdy,zad,zS,zdz,dm,dm1,zB,zak,zdQ,zdP,zR,Q0,Q1,Q2,Q3,Q4,Q5,zQ,zr,zy,zO,zH,Q6,Q7,Q8,Q9,Q10,Q11,Q12,Q13,Q14,Nat.reduceAdd,Q15,Int.reduceToNat,Q16,Q17,Q18,Q19,Q20,reduceIte,Q21,Q22,zD,rep,zV,zdK,toD,zac,Q23,Q24,Q25,Q26,Q27,Q28,Nat.reduceLeDiff,Q29,Nat.reduceSub,Q30,Q31,Q32,sc,Q33,Q34,Q35,Q36,Q37,Q26,Q38,Q39,zgF,zgC,zgz,zgG,zcb,zgD,zgA,zgE,zgB,zca,zcc,zgK,zgL,Bool.not_true,Bool.not_false,List.length_map,zz1,g9', ← l2,List.length_set] | (with_reducible refine zh ?_) | fail))
  refine zjJ (p := M.2.1) (l := [⟨7, 0, 0, []⟩]) m1.headers m1.path m1.signs (by simp) ?_
  (repeat' first | refine gq1 ?_ | with_reducible first | exact ⟨⟩ | refine zh ?_ | fail)
  refine zdR (f := 1) (hE2.tab.app _) (hE2.led.app _) m5 hG t2 ?_
  rw [b7]
  (repeat' (first | simp -dsimp only [↓zes, ↓zaw, ↓zbf, ↓zet, ↓zen, ↓zel, ↓zeo, ↓zem, ↓zbk, ↓zbg, ↓zbl, ↓zbh, ↓zep, ↓zbe, ↓zbm, ↓zbi, ↓zbn, ↓zbj, ↓zek, ↓zeq, ↓zbd, ↓zbo, ↓zef, ↓zee, ↓zej,iN,bT,bF,eN, ↓zcS, ↓unC, ↓zU, ↓zK, ↓zL, ↓zN, ↓zZ, ↓zax, ↓zbQ, ↓zaf, ↓zbp, ↓zP, ↓zq, ↓zo, ↓zbu, ↓zl, ↓zah, ↓zI, ↓zaD, ↓zaG, ↓ze, ↓zC, ↓zt, ↓zw, ↓zan, ↓zcC, ↓zcV, ↓zal, ↓zat, ↓zaE, ↓zaN, ↓zaS, ↓zu, ↓zai, ↓zM, ↓zA, ↓zaa,zcZ,zba,zaV,unA,zdg,bnd,zdy,zad,zS,zdz,dm,dm1,zB,zak,zdQ,zdP,zR,Q0,Q1,Q2,Q3,Q4,Q5,zQ,zr,zy,zO,zH,Q6,Q7,Q8,Q9,Q10,Q11,Q12,Q13,Q14,Nat.reduceAdd,Q15,Int.reduceToNat,Q16,Q17,Q18,Q19,Q20,reduceIte,Q21,Q22,zD,rep,zV,zdK,toD,zac,Q23,Q24,Q25,Q26,Q27,Q28,Nat.reduceLeDiff,Q29,Nat.reduceSub,Q30,Q31,Q32,sc,Q33,Q34,Q35,Q36,Q37,Q26,Q38,Q39,zgF,zgC,zgz,zgG,zcb,zgD,zgA,zgE,zgB,zca,zcc,zgK,zgL,Bool.not_true,Bool.not_false,List.length_map,zz2,g9', ← l2,List.length_set] | (with_reducible refine zh ?_) | fail))
  refine zjJ (p := M.2.1) (l := [⟨9, 0, 0, []⟩]) m1.headers m1.path m1.signs (by simp) ?_
  (repeat' first | refine gq1 ?_ | with_reducible first | exact ⟨⟩ | refine zh ?_ | fail)
  refine zdR (f := 1) (hE2.tab.app _) (hE2.led.app _) m5 hG t3 ?_
  rw [b8]
  (repeat' (first | simp -dsimp only [↓zes, ↓zaw, ↓zbf, ↓zet, ↓zen, ↓zel, ↓zeo, ↓zem, ↓zbk, ↓zbg, ↓zbl, ↓zbh, ↓zep, ↓zbe, ↓zbm, ↓zbi, ↓zbn, ↓zbj, ↓zek, ↓zeq, ↓zbd, ↓zbo, ↓zef, ↓zee, ↓zej,iN,bT,bF,eN, ↓zcS, ↓unC, ↓zU, ↓zK, ↓zL, ↓zN, ↓zZ, ↓zax, ↓zbQ, ↓zaf, ↓zbp, ↓zP, ↓zq, ↓zo, ↓zbu, ↓zl, ↓zah, ↓zI, ↓zaD, ↓zaG, ↓ze, ↓zC, ↓zt, ↓zw, ↓zan, ↓zcC, ↓zcV, ↓zal, ↓zat, ↓zaE, ↓zaN, ↓zaS, ↓zu, ↓zai, ↓zM, ↓zA, ↓zaa,zcZ,zba,zaV,unA,zdg,bnd,zdy,zad,zS,zdz,dm,dm1,zB,zak,zdQ,zdP,zR,Q0,Q1,Q2,Q3,Q4,Q5,zQ,zr,zy,zO,zH,Q6,Q7,Q8,Q9,Q10,Q11,Q12,Q13,Q14,Nat.reduceAdd,Q15,Int.reduceToNat,Q16,Q17,Q18,Q19,Q20,reduceIte,Q21,Q22,zD,rep,zV,zdK,toD,zac,Q23,Q24,Q25,Q26,Q27,Q28,Nat.reduceLeDiff,Q29,Nat.reduceSub,Q30,Q31,Q32,sc,Q33,Q34,Q35,Q36,Q37,Q26,Q38,Q39,zgF,zgC,zgz,zgG,zcb,zgD,zgA,zgE,zgB,zca,zcc,zgK,zgL,Bool.not_true,Bool.not_false,List.length_map,zz3,g9', ← l2,List.length_set] | (with_reducible refine zh ?_) | fail))
  exact zrc (zqv fun j x hx => zf (hE2.rest j x (hpre j x hx) (hσ x (List.mem_of_getElem? hx)))) (by simp [zcU,dmT,dm,dm1,zbZ]) hl hK
end Go.Proofs.YtncpaekiidpchaaGreat
