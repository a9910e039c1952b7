/- Contract: what chapter 23 begins with. -/
import Derived.Test.YtfjommppajkpoaaGreatBt2
set_option linter.all false
set_option maxRecDepth 100000
namespace Go.Proofs.YtfjommppajkpoaaGreat
open Go.AW
theorem zqs : ∀ (l : List (List zr)) (k : Nat),((l.take k).map List.length).sum ≤ (l.map List.length).sum
 | [],k => by simp
 | x :: l, 0 => by simp
 | x :: l,k + 1 => by have := zqs l k; simp only [List.take_succ_cons,List.map_cons,List.sum_cons]; omega
theorem sum_step {l : List (List zr)} {k : Nat} {x : List zr} (h : l[k]? = some x) : ((l.take k).map List.length).sum + x.length ≤ (l.map List.length).sum := by
 have := zqs l (k + 1)
 rw [List.take_add_one,h] at this
 simpa using this
def ksF (c : zsa) : List Int := memF (bothF c.voters (allF (zdc 3 c.f).toNat))
abbrev zero25 : List AV := [.exact [], .d (.int .i64 0), .d (.int .i64 0), .d (.int .i64 0), .d (.int .i64 0), .d (.int .i64 0), .d (.int .i64 0), .d (.int .i64 0), .d (.int .i64 0), .d (.int .i64 0), .d (.int .i64 0), .d (.int .i64 0), .d (.int .i64 0), .d (.int .i64 0), .d (.int .i64 0), .d (.int .i64 0), .d (.int .i64 0), .d (.int .i64 0), .d (.int .i64 0), .d (.int .i64 0), .d (.int .i64 0), .d (.int .i64 0), .d (.int .i64 0), .d (.int .i64 0), .d (.int .i64 0)]
def bt2 (n : Nat) (c : zsa) (L : List (List UInt8)) (h : zdW) : List zg :=
 [.box (zkf c),rtO L,rlO [], .map (tabM []), .box [.own (n + 5) [], .map (n + 3)], .tok 1 0, .map (zsw []), .box [.own (n + 8) [], .map (n + 6)], .tok 2 0,
  .box [.box (n + 4) 0, .box (n + 7) 0, .box (n + 1) 0, .box (n + 2) 0, .own (n + 13) [], .own (n + 14) []],hdrC h, .box (.rsl (n + 12) 0 4 0 0 :: zih zdA.last), .row 0 4 [], .tok 7 0, .tok 3 0]
theorem bt_weak2 {σ : List zg} {c : zsa} {L : List (List UInt8)} {h : zdW} (vs : List AV) : znb vs (σ ++ [.box (zkf c),rtO L,rlO [], .map (tabM []), .box [.own (σ.length + 5) [], .map (σ.length + 3)], .tok 1 0, .map (zsw []), .box [.own (σ.length + 8) [], .map (σ.length + 6)], .tok 2 0,
  .box [.box (σ.length + 4) 0, .box (σ.length + 7) 0, .box (σ.length + 1) 0, .box (σ.length + 2) 0, .exact [], .exact []], .box [.d (.int .i64 h.seq), .d (.int .i64 h.prev), .d (.int .i64 h.batch), .d (.int .i64 h.root), .d (.int .i64 h.state)], .box zero25]) vs (σ ++ bt2 σ.length c L h) := by
 refine .rowB (σ.length + 11) 0 zero25 4 (by rw [zh]; rfl) rfl (by omega) ?_
 rw [zT,zZ]
 simp only [List.set_cons_succ,List.set_cons_zero,List.length_cons,List.length_nil,List.append_assoc,List.cons_append,List.nil_append]
 refine .tokB (σ.length + 9) 4 _ [] 7 (by rw [zh]; rfl) rfl (by simp) ?_
 rw [zT,zZ]
 simp only [List.set_cons_succ,List.set_cons_zero,List.length_cons,List.length_nil,List.append_assoc,List.cons_append,List.nil_append]
 refine .tokB (σ.length + 9) 5 _ [] 3 (by rw [zh]; rfl) rfl (by simp) ?_
 rw [zT,zZ]
 simp only [List.set_cons_succ,List.set_cons_zero,List.length_cons,List.length_nil,List.append_assoc,List.cons_append,List.nil_append]
 exact .refl _ _
theorem bt_first {σ : List zg} {c : zsa} : StJ σ (.box (zkf c)) (σ.length + 13) (σ.length + 14) (σ.length + 12) 0 st0 (σ ++ bt2 σ.length c (genF []).2.2 (genF []).1) :=
 ⟨by rw [zm]; rfl,by rw [zh]; rfl,by rw [zh]; rfl,⟨by rw [zh]; rfl,by rw [zh]; rfl,by rw [zh]; rfl⟩,⟨by rw [zh]; rfl,by rw [zh]; rfl,by rw [zh]; rfl⟩,by rw [zh]; rfl,by rw [zh]; rfl,⟨by rw [zh]; rfl,by rw [zh]; rfl,rfl⟩,by rw [zh]; rfl,by rw [zh]; rfl,by omega,(fun _ _ _ e => by cases e),fun j x h _ => zf h⟩
theorem c_sealJ {σ S : List zg} {C : zg} {tb tc t g : Nat} {s : zfU} {r : zr} (h : StJ σ C tb tc t g s S) (hL : zjN s.L) (hG : s.G.length ≤ 1073741824) (hx : zmd r.op ≤ 20971520) {K : KT}
  (hK : ∀ S2,StJ σ C tb tc t g { s with L := sealL s.L r,G := sealG s.L s.G r } S2 → (∀ (j : Nat) (x : zg),S[j]? = some x → σ.length + 2 < j → S2[j]? = some x) → S2.length = S.length → K (.tup [zkv (zsA s.L r), .d (.int .i64 (zoz s.L r))]) S2) :
  zq Tryz.prog zix [.box (σ.length + 1) 0, .box (σ.length + 2) 0,reqA r] S K :=
 c_rqrSeal (L := s.L) (G := s.G) (x := r) h.xb h.yb (by omega) hL hG hx (hK _ ((h.x _).y _) (fun j x hj h1 => zd _ (zd _ hj (by omega)) (by omega)) (by simp))
theorem zvg {σ S : List zg} {C : zg} {tb tc t g : Nat} {s : zfU} {key a b c d : Int} (h : StJ σ C tb tc t g s S) (hL : zjN s.L) (hG : s.G.length ≤ 1073741824) {K : KT}
  (hK : ∀ S2,StJ σ C tb tc t g { s with L := votL s.L a b c d,G := votG s.L s.G key a b c d } S2 → (∀ (j : Nat) (x : zg),S[j]? = some x → σ.length + 2 < j → S2[j]? = some x) → S2.length = S.length → K (.tup [.agg [.d (.int .i64 (votS s.L key a b c d).key), .d (.int .i64 (votS s.L key a b c d).dig)], .d (.int .i64 (votE s.L key a b c d))]) S2) :
  zq Tryz.prog ziw [.box (σ.length + 1) 0, .box (σ.length + 2) 0, .d (.int .i64 key), .d (.int .i64 a), .d (.int .i64 b), .d (.int .i64 c), .d (.int .i64 d)] S K :=
 c_raVote (L := s.L) (G := s.G) h.xb h.yb (by omega) hL.len hG (hK _ ((h.x _).y _) (fun j x hj h1 => zd _ (zd _ hj (by omega)) (by omega)) (by simp))
theorem gq40 {A P Q : Prop} (a : A) (h : Q) (e : A → Hd Q → P := by intro a h; (repeat' first | simp -dsimp only [↓zgr, ↓zaF, ↓zbL, ↓zgt, ↓zgn, ↓zgl, ↓zgo, ↓zgm, ↓zbR, ↓zbN, ↓zbS, ↓zbO, ↓zgp, ↓zbJ, ↓zbT, ↓zbP, ↓zbU, ↓zbQ, ↓zgj, ↓zgq, ↓zbI, ↓zbX, ↓zgc, ↓zgb, ↓zgi,iN,bT,bF,eN, ↓zdN, ↓unC, ↓zac, ↓zQ, ↓zR, ↓zV, ↓zak, ↓zau, ↓zco, ↓zag, ↓zaJ, ↓zW, ↓zp, ↓zo, ↓zbF, ↓zl, ↓zan, ↓zF, ↓zaM, ↓zaW, ↓ze, ↓zC, ↓zu, ↓zy, ↓zav, ↓zdr, ↓zdU, ↓zat, ↓zaB, ↓zaU, ↓zbk, ↓zbv, ↓zD, ↓zaq, ↓zS, ↓zE, ↓zam,zeb,zbD,zbB,unA,zei,bnd,zeF,zai,zP,zeE,dm,dm1,zB,zal,zfg,zff,zx,Q0,Q1,Q2,Q3,Q4,Q5,zZ,zh,zm,zT,zN,Q6,Q7,Q8,Q9,Q10,Q11,Q12,Q13,Q14,Nat.reduceAdd,Q15,Int.reduceToNat,Q16,Q17,Q18,Q19,Q20,reduceIte,Q21,Q22,zH,rep,zX,zfc,toD,zah,Q23,Q24,Q25,Q26,Q27,Q28,Nat.reduceLeDiff,Q29,Nat.reduceSub,Q30,Q31,Q32,sc,Q33,Q34,Q35,Q36,Q37,Q26,Q38,Q39,zkn,zkk,zkh,zko,zdu,zkl,zki,zkm,zkj,zdt,zdv,zkp,zkq,Bool.not_true,Bool.not_false,List.length_map,ztt,a] | with_reducible refine zkr ?_ | fail); exact h.go) : P := e a ⟨h⟩
theorem gq41 {A P Q : Prop} (a : A) (h : Q) (e : A → Hd Q → P := by intro a h; (repeat' first | simp -dsimp only [↓zgr, ↓zaF, ↓zbL, ↓zgt, ↓zgn, ↓zgl, ↓zgo, ↓zgm, ↓zbR, ↓zbN, ↓zbS, ↓zbO, ↓zgp, ↓zbJ, ↓zbT, ↓zbP, ↓zbU, ↓zbQ, ↓zgj, ↓zgq, ↓zbI, ↓zbX, ↓zgc, ↓zgb, ↓zgi,iN,bT,bF,eN, ↓zdN, ↓unC, ↓zac, ↓zQ, ↓zR, ↓zV, ↓zak, ↓zau, ↓zco, ↓zag, ↓zaJ, ↓zW, ↓zp, ↓zo, ↓zbF, ↓zl, ↓zan, ↓zF, ↓zaM, ↓zaW, ↓ze, ↓zC, ↓zu, ↓zy, ↓zav, ↓zdr, ↓zdU, ↓zat, ↓zaB, ↓zaU, ↓zbk, ↓zbv, ↓zD, ↓zaq, ↓zS, ↓zE, ↓zam,zeb,zbD,zbB,unA,zei,bnd,zeF,zai,zP,zeE,dm,dm1,zB,zal,zfg,zff,zx,Q0,Q1,Q2,Q3,Q4,Q5,zZ,zh,zm,zT,zN,Q6,Q7,Q8,Q9,Q10,Q11,Q12,Q13,Q14,Nat.reduceAdd,Q15,Int.reduceToNat,Q16,Q17,Q18,Q19,Q20,reduceIte,Q21,Q22,zH,rep,zX,zfc,toD,zah,Q23,Q24,Q25,Q26,Q27,Q28,Nat.reduceLeDiff,Q29,Nat.reduceSub,Q30,Q31,Q32,sc,Q33,Q34,Q35,Q36,Q37,Q26,Q38,Q39,zkn,zkk,zkh,zko,zdu,zkl,zki,zkm,zkj,zdt,zdv,zkp,zkq,Bool.not_true,Bool.not_false,List.length_map,reqD,a] | with_reducible refine zkr ?_ | fail); exact h.go) : P := e a ⟨h⟩
theorem gq42 {A P Q : Prop} (a : A) (h : Q) (e : A → Hd Q → P := by intro a h; (repeat' first | simp -dsimp only [↓zgr, ↓zaF, ↓zbL, ↓zgt, ↓zgn, ↓zgl, ↓zgo, ↓zgm, ↓zbR, ↓zbN, ↓zbS, ↓zbO, ↓zgp, ↓zbJ, ↓zbT, ↓zbP, ↓zbU, ↓zbQ, ↓zgj, ↓zgq, ↓zbI, ↓zbX, ↓zgc, ↓zgb, ↓zgi,iN,bT,bF,eN, ↓zdN, ↓unC, ↓zac, ↓zQ, ↓zR, ↓zV, ↓zak, ↓zau, ↓zco, ↓zag, ↓zaJ, ↓zW, ↓zp, ↓zo, ↓zbF, ↓zl, ↓zan, ↓zF, ↓zaM, ↓zaW, ↓ze, ↓zC, ↓zu, ↓zy, ↓zav, ↓zdr, ↓zdU, ↓zat, ↓zaB, ↓zaU, ↓zbk, ↓zbv, ↓zD, ↓zaq, ↓zS, ↓zE, ↓zam,zeb,zbD,zbB,unA,zei,bnd,zeF,zai,zP,zeE,dm,dm1,zB,zal,zfg,zff,zx,Q0,Q1,Q2,Q3,Q4,Q5,zZ,zh,zm,zT,zN,Q6,Q7,Q8,Q9,Q10,Q11,Q12,Q13,Q14,Nat.reduceAdd,Q15,Int.reduceToNat,Q16,Q17,Q18,Q19,Q20,reduceIte,Q21,Q22,zH,rep,zX,zfc,toD,zah,Q23,Q24,Q25,Q26,Q27,Q28,Nat.reduceLeDiff,Q29,Nat.reduceSub,Q30,Q31,Q32,sc,Q33,Q34,Q35,Q36,Q37,Q26,Q38,Q39,zkn,zkk,zkh,zko,zdu,zkl,zki,zkm,zkj,zdt,zdv,zkp,zkq,Bool.not_true,Bool.not_false,List.length_map,List.length_set,m1,a] | with_reducible refine zkr ?_ | fail); exact h.go) : P := e a ⟨h⟩
theorem c_begun23 {σ : List zg} {c : zsa} (hb : ∀ l ∈ c.bats, ∀ x ∈ l,zmd x.op ≤ 20971520) (hsum : (c.bats.map List.length).sum ≤ 268435456) (hv : c.voters < 65536)
  {K : KT}
  (hK : ∀ S,StE σ (stF (ksF c) c.bats) (stF (ksF c) c.bats).L (stF (ksF c) c.bats).G S → K (.tup [.box (σ.length + 9) 0, .d (.bool true)]) S) :
  zq Tryz.prog zen [caseA c] σ K := by
 refine zhy zjH.is rfl fun hl _ => zjH.goes ?_
 have hlb : (zrT c.bats).length = c.bats.length := List.length_map ..
 simp only [zjV,iN,bT,bF,eN,zl2,zl3,zl4,zl5,zkf]
 refine gq1 ?_
 refine zeD ?_
 refine gq1 ?_
 refine zbn ?_
 refine gq1 ?_
 refine zq.pre (xs' := [.box (σ.length + 1) 0]) (σ' := σ ++ bt1 σ.length c [] []) (bt_weak _) ?_
 refine c_r9Genesis (L := []) (by rw [zh]; rfl) (by simp) ?_
 rw [zT]
 simp only [bt1,List.set_cons_succ,List.set_cons_zero]
 obtain ⟨B,hB⟩ : ∃ B,c.bats.take 20 = B := ⟨_,rfl⟩
 have hz1 : List.take (if (20 : Int) < (c.bats.length : Int) then (20 : Int) else (c.bats.length : Int)).toNat (zrT c.bats) = zrT B := by
  rw [← hB,show (if (20 : Int) < (c.bats.length : Int) then (20 : Int) else (c.bats.length : Int)).toNat = min c.bats.length 20 by split <;> omega]
  simp only [zrT,List.map_take]
  rcases Nat.le_total c.bats.length 20 with h | h
  ·rw [Nat.min_eq_left h,List.take_of_length_le (by simp),List.take_of_length_le (by simpa using h)]
  ·rw [Nat.min_eq_right h]
 have hz2 : List.drop ((0 : Nat) : Int).toNat (zrT B) = zrT B := rfl
 have hBl : B.length ≤ 20 := by rw [← hB,List.length_take]; omega
 have hBe : (zrT B).length = B.length := List.length_map ..
 have hBs : (B.map List.length).sum ≤ 268435456 := Nat.le_trans (by rw [← hB]; exact zqs ..) hsum
 have hBx : ∀ l ∈ B, ∀ x ∈ l,zmd x.op ≤ 20971520 := fun l hl => hb l (by rw [← hB] at hl; exact List.mem_of_mem_take hl)
 refine gq40 (zc hlb (zc hz1 (zc hz2 hBe))) ?_
 refine zaO B.length (fun k vs S => vs = [.d (.int .i64 k)] ∧ ∃ t g,StJ σ (.box (zkf c)) (σ.length + 13) (σ.length + 14) t g ((B.take k).foldl (stR (ksF c)) st0) S) (bt_weak2 _) ⟨rfl, σ.length + 12, 0,bt_first⟩ ?_
 rintro k vs S hk ⟨rfl,t,g,hJ⟩
 obtain ⟨s,hs⟩ : ∃ s,(B.take k).foldl (stR (ksF c)) st0 = s := ⟨_,rfl⟩
 have hI : StI (((B.take k).map List.length).sum + 13 * k) k s := by
  have := foldSt (ks := ksF c) (bats := B.take k) st0I (fun l hl => hBx l (List.mem_of_mem_take hl)) (znv _ _)
  rw [hs] at this
  have e : (B.take k).length = k := by rw [List.length_take]; omega
  rw [e] at this
  simpa using this
 rw [hs] at hJ
 by_cases hlt : k < B.length
 ·have hd : decide ((k : Int) < (B.length : Int)) = true := by simp; omega
  have hq : B[k]? = some B[k] := by simp [hlt]
  have hgx := zU (f := fun l : List zr => [D.slice (reqsE l)]) hq
  have hlx := hBx _ (List.getElem_mem hlt)
  obtain ⟨l,hle⟩ : ∃ l,B[k] = l := ⟨_,rfl⟩
  rw [hle] at hq hgx hlx
  have hsum2 : ((B.take k).map List.length).sum + l.length ≤ 268435456 := Nat.le_trans (sum_step hq) hBs
  have hlr : (reqsE l).length = l.length := List.length_map ..
  refine gq2 (zc hd (zc hgx (zc hBe (zc hlr (zc hz1 hz2))))) ?_
  have hn := hJ.ne
  have hwk : IntKind.i64.wrap ((k : Int) + 1) = ((k + 1 : Nat) : Int) := by rw [zJ (by omega) (by omega)]; rfl
  have hlS : σ.length + 14 < S.length := zA hJ.kc
  have hw2 : znb [.exact [], .d (.int .i64 0)] S [.own S.length (zjL []), .d (.int .i64 0)] (S ++ [.tok 9 0]) := .tok 0 [] 9 rfl (by simp) (.refl _ _)
  obtain ⟨N,hNq⟩ : ∃ N,S.length = N := ⟨_,rfl⟩
  rw [hNq] at hlS hw2
  refine zaO l.length (fun j vs S' => ∃ p : List (List UInt8) × List zI × List zr,p = (l.take j).foldl seR (s.L,s.G, []) ∧ vs = [.own N (zjL p.2.2), .d (.int .i64 j)] ∧ StJ σ (.box (zkf c)) (σ.length + 13) (σ.length + 14) t g { s with L := p.1,G := p.2.1 } S' ∧ S'[N]? = some (.tok 9 p.2.2.length)) hw2
   ⟨_,rfl,rfl,hJ.app _,by rw [← hNq]; simp⟩ ?_
  rintro j vs S' hj ⟨p,hp,rfl,hJ',hN'⟩
  have hpI : SeI (s.G.length + j) j p := by
   have := foldSe (n := s.G.length) (m := 0) (s := (s.L,s.G, [])) (l := l.take j) ⟨hI.tab,by simp,by simp,by simp⟩ fun x hx => hlx x (List.mem_of_mem_take hx)
   rw [← hp] at this
   have e : (l.take j).length = j := by rw [List.length_take]; omega
   rw [e] at this
   simpa using this
  have hpl : p.2.1.length ≤ 1073741824 := by have h1 := hpI.led; have h2 := hI.led; omega
  have hw : IntKind.i64.wrap ((j : Int) + 1) = ((j + 1 : Nat) : Int) := by rw [zJ (by omega) (by omega)]; rfl
  by_cases hjl : j < l.length
  ·have hd : decide ((j : Int) < (l.length : Int)) = true := by simp; omega
   have hr : l[j]? = some l[j] := by simp [hjl]
   have hgr := zU (f := reqD) hr
   have hrx := hlx _ (List.getElem_mem hjl)
   obtain ⟨r,hre⟩ : ∃ r,l[j] = r := ⟨_,rfl⟩
   rw [hre] at hr hgr hrx
   have rn := zeh (f := seR) (s := (s.L,s.G, [])) hr
   rw [← hp] at rn
   have hbe : (zjL p.2.2).length = p.2.2.length := List.length_map ..
   have f9 : ∀ τ,(S' ++ τ)[σ.length + 9]? = some _ := fun τ => zf hJ'.st
   have f9' := hJ'.st
   refine gq41 (zc hd (zc hgr (zc hlr (zc f9 f9')))) ?_
   refine ⟨?_, ?_⟩
   ·refine gq1 ?_
    refine c_sealJ (r := r) (hJ'.app _) hpI.tab hpl hrx fun S2 hJ2 hG2 hl2 => ?_
    have hN2 := hG2 _ _ (zf hN') (by omega)
    have l2 := zA hN2
    have x2 : ∀ τ,(S2 ++ τ)[N]? = _ := fun τ => zf hN2
    have y2 : ∀ τ Y,(S2 ++ τ).set N Y = S2.set N Y ++ τ := fun τ Y => List.set_append_left _ _ l2
    cases he : (zoz p.1 r == 0)
    ·have he' : ¬ zoz p.1 r = 0 := by simpa using he
     simp only [zkv]
     refine gq2 (zc he hw) ?_
     refine zap.next hjl ⟨_,rn.symm, ?_, ?_, ?_⟩
     ·simp only [seR,if_neg he']
     ·exact hJ2.app _
     ·simp only [seR,if_neg he']; exact x2 _
    ·have he' : zoz p.1 r = 0 := by simpa using he
     simp only [zkv]
     refine gq2 (zc he (zc hw (zc hbe (zc x2 y2)))) ?_
     refine ⟨by have := hpI.len; omega,zap.next hjl ⟨_,rn.symm, ?_, ?_, ?_⟩⟩
     ·simp only [seR,if_pos he']; simp [zjL,zeI]
     ·exact (hJ2.oth hN2 (fun _ _ _ e => by cases e) (by omega) (by omega) (by omega) _).app _
     ·simp only [seR,if_pos he']
      exact zf (by rw [List.getElem?_set_self l2]; simp)
   ·refine gq2 (zc f9 f9') ?_
    refine c_sealJ (r := r) (hJ'.app _) hpI.tab hpl hrx fun S2 hJ2 hG2 hl2 => ?_
    have hN2 := hG2 _ _ (zf hN') (by omega)
    have l2 := zA hN2
    have hA2 := hG2 (S'.length + 1) _ (by rw [zh]; rfl) (by have := zA hN'; omega)
    have hA3 : ∀ Y,(S2.set (S'.length + 1) Y)[S'.length + 1]? = some Y := fun Y => List.getElem?_set_self (zA hA2)
    have hJ3 : ∀ Y,StJ σ (.box (zkf c)) (σ.length + 13) (σ.length + 14) t g { s with L := sealL p.1 r,G := sealG p.1 p.2.1 r } (S2.set (S'.length + 1) Y) := fun Y => hJ2.oth hA2 (fun _ _ _ e => by cases e) (by have := zA hN'; omega) (by have := zA hN'; omega) (by have := zA hN'; omega) Y
    have hN3 : ∀ Y,(S2.set (S'.length + 1) Y)[N]? = some (.tok 9 p.2.2.length) := fun Y => zd _ hN2 (by have := zA hN'; omega)
    have y3 : ∀ Y Z,((S2.set (S'.length + 1) Y).set N Z)[N]? = some Z := fun Y Z => List.getElem?_set_self (by simpa using l2)
    cases he : (zoz p.1 r == 0)
    ·have he' : ¬ zoz p.1 r = 0 := by simpa using he
     simp only [zkv]
     refine gq36 (zc hA2 (zc hA3 (zc he hw))) ?_
     refine zap.next hjl ⟨_,rn.symm, ?_, ?_, ?_⟩
     ·simp only [seR,if_neg he']
     ·exact hJ3 _
     ·simp only [seR,if_neg he']; exact hN3 _
    ·have he' : zoz p.1 r = 0 := by simpa using he
     simp only [zkv]
     refine gq36 (zc hA2 (zc hA3 (zc hN3 (zc he (zc hw hbe))))) ?_
     refine ⟨by have := hpI.len; omega,zap.next hjl ⟨_,rn.symm, ?_, ?_, ?_⟩⟩
     ·simp only [seR,if_pos he']; simp [zjL,zeI]
     ·refine StJ.oth (hJ3 _) (hN3 _) (fun _ _ _ e => by cases e) (by omega) (by omega) (by omega) _
     ·simp only [seR,if_pos he']
      rw [y3]; simp
  ·have hd : decide ((j : Int) < (l.length : Int)) = false := by simp; omega
   rw [show l.take j = l from List.take_of_length_le (by omega)] at hp
   have hjl : j = l.length := by omega
   subst hjl
   have f9 : ∀ τ,(S' ++ τ)[σ.length + 9]? = some _ := fun τ => zf hJ'.st
   have f9' := hJ'.st
   have hx' : ∀ τ,(S' ++ τ)[σ.length + 10]? = some _ := fun τ => zf hJ'.hb
   have hx'' := hJ'.hb
   have hpl2 : p.2.2.length ≤ 1073741824 := by have := hpI.len; omega
   refine gq2 (zc hd (zc hlr (zc f9 (zc f9' (zc hx' hx''))))) ?_
   refine ⟨?_, ?_⟩
   ·refine zrM (L := p.1) (T := s.T) (h := s.h) (b := p.2.2) hJ'.top hI.tops hI.last hJ'.xb hpI.tab (by omega) hpI.sz hpl2 fun S2 t' g' N' hT2 hL2 hS2 => ?_
    have hJ2 := hJ'.exec hT2 hL2 hS2
    have hN2 := hS2.get _ _ hN' (by omega) (by omega) (fun _ _ _ e => by cases e)
    clear hS2 hT2 hL2
    have hst : stR (ksF c) s l = stX (ksF c) s p (zfz p.1 s.T s.h p.2.2) := by rw [hp]; rfl
    obtain ⟨r,hr⟩ : ∃ r,zfz p.1 s.T s.h p.2.2 = r := ⟨_,rfl⟩
    have hI' := execI (h := s.h) hpI.tab hI.tops hI.last hI.last8 hpI.sz
    simp only [hr] at hst hJ2 hI' ⊢
    cases he : (r.e != 0)
    ·refine gq2 he ?_
     obtain ⟨S3,hS3⟩ : ∃ S3,S2 ++ [hdrC r.h] = S3 := ⟨_,rfl⟩
     have hJ3 : StJ σ (.box (zkf c)) (σ.length + 13) (σ.length + 14) t' g' { L := r.L,G := p.2.1,h := s.h,T := r.T,bs := s.bs,cs := s.cs } S3 := hS3 ▸ hJ2.app _
     have hN3 : S3[N]? = some _ := hS3 ▸ zf hN2
     simp only [hdrC] at hS3
     clear hJ2 hN2
     have hJ4 := hJ3.hdr r.h
     have f0 := hJ3.hb
     have f1 := hJ4.st
     have f2 := hJ4.hb
     have f3 := hJ4.kb
     have f4 := fun Y => zd (i := σ.length + 13) Y hJ4.st (by omega)
     have f5 := fun Y Z => zd (i := σ.length + 9) Z (zd (i := σ.length + 13) Y hJ4.hb (by omega)) (by omega)
     have hbe : (zcC s.bs).length = s.bs.length := List.length_map ..
     have hbl := hI.bl
     have hJ5 := hJ4.blk (s.bs ++ [⟨r.h,p.2.2,r.p⟩])
     rw [List.length_append,zcC,List.map_append] at hJ5
     obtain ⟨S5,hS5⟩ : ∃ S5,((S3.set (σ.length + 10) (hdrC r.h)).set (σ.length + 13) (.tok 7 (s.bs.length + 1))).set (σ.length + 9) (.box [.box (σ.length + 4) 0, .box (σ.length + 7) 0, .box (σ.length + 1) 0, .box (σ.length + 2) 0, .own (σ.length + 13) (zcC s.bs ++ [zpG ⟨r.h,p.2.2,r.p⟩]), .own (σ.length + 14) (zgy s.cs)]) = S5 := ⟨_,rfl⟩
     have hJ6 : StJ σ (.box (zkf c)) (σ.length + 13) (σ.length + 14) t' g' { L := r.L,G := p.2.1,h := r.h,T := r.T,bs := s.bs ++ [⟨r.h,p.2.2,r.p⟩],cs := s.cs } S5 := hS5 ▸ hJ5
     have hN6 : S5[N]? = some _ := hS5 ▸ zd _ (zd _ (zd _ hN3 (by omega)) (by omega)) (by omega)
     simp only [hdrC,zpG] at hS5
     clear hJ5
     cases c4 : (r.h.seq.tmod 4 != 0)
     ·have g9 := hJ6.st
      have g10 := hJ6.hb
      have g0 := hJ6.cb
      refine gq2 (zc he (zc hS3 (zc f0 (zc f1 (zc f2 (zc f3 (zc f4 (zc f5 (zc c4 (zc hbe (zc hS5 (zc g9 (zc g10 g0))))))))))))) ?_
      refine zpi (h := r.h) hJ6.xb hI'.1.len ?_
      have hJ7 := hJ6.x (zgk r.L r.h)
      have hN7 := zd (i := σ.length + 1) (rtO (zgk r.L r.h)) hN6 (by omega)
      obtain ⟨S7,hS7⟩ : ∃ S7,S5.set (σ.length + 1) (rtO (zgk r.L r.h)) = S7 := ⟨_,rfl⟩
      rw [hS7] at hJ7 hN7 ⊢
      have l7 : σ.length + 14 < S7.length := zA hJ7.kc
      have k0 : ∀ τ,(S7 ++ τ)[σ.length]? = _ := fun τ => zf hJ7.cb
      have k10 := hJ7.hb
      refine gq2 (zc k0 k10) ?_
      refine c_rAll ?_
      refine gq2 k0 ?_
      refine c_rBoth hv (all_small _) ?_
      refine gq1 ?_
      refine c_rList (ztR _ _) ?_
      rw [show memF (bothF c.voters (allF (zdc 3 c.f).toNat)) = ksF c from rfl]
      refine gq1 ?_
      have hkl : (zbd (ksF c)).length = (ksF c).length := List.length_map ..
      have hk13 : (ksF c).length ≤ 13 := znv _ _
      obtain ⟨d,hdq⟩ : ∃ d,zsI r.L r.h = d := ⟨_,rfl⟩
      obtain ⟨M,hMq⟩ : ∃ M,S7.length = M := ⟨_,rfl⟩
      rw [hdq]
      have hwc : znb [.d (.int .i64 0)] (S7 ++ [.box [.d (.int .i64 r.h.seq), .d (.int .i64 d), .exact []]]) [.d (.int .i64 0)] (S7 ++ [.box [.d (.int .i64 r.h.seq), .d (.int .i64 d), .own (M + 1) []], .tok 2 0]) := by
       refine .tokB S7.length 2 _ [] 2 (by rw [zm]; rfl) rfl (by simp) ?_
       rw [zN,zZ,hMq,List.append_assoc]
       exact .refl _ _
      refine zaO (ksF c).length (fun j vs S8 => ∃ q : List (List UInt8) × List zI × List zI,q = ((ksF c).take j).foldl (voR r.h.seq d) (zgk r.L r.h,p.2.1, []) ∧ vs = [.d (.int .i64 j)] ∧ StJ σ (.box (zkf c)) (σ.length + 13) (σ.length + 14) t' g' { L := q.1,G := q.2.1,h := r.h,T := r.T,bs := s.bs ++ [⟨r.h,p.2.2,r.p⟩],cs := s.cs } S8 ∧ S8[M]? = some (.box [.d (.int .i64 r.h.seq), .d (.int .i64 d), .own (M + 1) (zas q.2.2)]) ∧ S8[M + 1]? = some (.tok 2 q.2.2.length)) hwc
       ⟨_,rfl,rfl,hJ7.app _,by rw [← hMq,zm]; rfl,by rw [← hMq,zh]; rfl⟩ ?_
      rintro j vs S8 hj ⟨q,hq8,rfl,hJ8,hM8,hT8⟩
      have hqI : VoI (s.G.length + l.length + j) j q := by
       have := foldVo (seq := r.h.seq) (d := d) (s := (zgk r.L r.h,p.2.1, [])) (N := s.G.length + l.length) (m := 0) ⟨zqt hI'.1 r.h,hpI.led,hp ▸ ledSe hI.ledI,Nat.zero_le _⟩ ((ksF c).take j)
       rw [← hq8] at this
       have e : ((ksF c).take j).length = j := by rw [List.length_take]; omega
       rw [e] at this
       simpa using this
      have hq1 := hqI.led; have hq2 := hqI.len; have hq3 := hI.led
      have hqg : q.2.1.length ≤ 1073741824 := by omega
      have hql : (zas q.2.2).length = q.2.2.length := List.length_map ..
      have m9 := hJ8.st
      have m10 := hJ8.hb
      have m9' : ∀ τ,(S8 ++ τ)[σ.length + 9]? = _ := fun τ => zf hJ8.st
      have m10' : ∀ τ,(S8 ++ τ)[σ.length + 10]? = _ := fun τ => zf hJ8.hb
      have hwj : IntKind.i64.wrap ((j : Int) + 1) = ((j + 1 : Nat) : Int) := by rw [zJ (by omega) (by omega)]; rfl
      by_cases hjl : j < (ksF c).length
      ·have hd : decide ((j : Int) < ((ksF c).length : Int)) = true := by simp; omega
       have hr8 : (ksF c)[j]? = some (ksF c)[j] := by simp [hjl]
       have hgr := zU (f := fun t : Int => [D.int .i64 t]) hr8
       obtain ⟨key,hkey⟩ : ∃ key,(ksF c)[j] = key := ⟨_,rfl⟩
       rw [hkey] at hr8 hgr
       have rn := zeh (f := voR r.h.seq d) (s := (zgk r.L r.h,p.2.1, [])) hr8
       rw [← hq8] at rn
       refine gq2 (zc hd (zc hgr (zc hkl (zc m9 (zc m9' (zc m10 m10')))))) ?_
       refine ⟨?_, ?_⟩
       ·refine zvg (key := key) (a := 6) (b := 0) (c := r.h.seq) (d := d) hJ8 hqI.tab hqg fun S9 hJ9 hG9 hl9 => ?_
        have hM9 := hG9 _ _ hM8 (by omega)
        have hT9 := hG9 _ _ hT8 (by omega)
        have m1 : ∀ τ,(S9 ++ τ)[M]? = _ := fun τ => zf hM9
        have m2 : ∀ τ,(S9 ++ τ)[M + 1]? = _ := fun τ => zf hT9
        cases hv8 : (votE q.1 key 6 0 r.h.seq d == 0)
        ·have hv9 : ¬ votE q.1 key 6 0 r.h.seq d = 0 := by simpa using hv8
         refine gq2 (zc hv8 hwj) ?_
         refine zap.next hjl ⟨_,rn.symm,rfl,hJ9.app _, ?_, ?_⟩
         ·simp only [voR,if_neg hv9]; exact m1 _
         ·simp only [voR,if_neg hv9]; exact m2 _
        ·have hv9 : votE q.1 key 6 0 r.h.seq d = 0 := by simpa using hv8
         have u1 : ∀ τ Y,((S9 ++ τ).set (M + 1) Y)[M]? = some _ := fun τ Y => zd Y (m1 τ) (by omega)
         refine gq15 (zc hv8 (zc hwj (zc m2 (zc u1 (zc hql hMq))))) ?_
         have hSg : zas (q.2.2 ++ [votS q.1 key 6 0 r.h.seq d]) = zas q.2.2 ++ [[.int .i64 (votS q.1 key 6 0 r.h.seq d).key, .int .i64 (votS q.1 key 6 0 r.h.seq d).dig]] := by simp; rfl
         refine zap.next hjl ⟨_,rn.symm,rfl,((hJ9.app _).oth (m2 _) (fun _ _ _ e => by cases e) (by omega) (by omega) (by omega) _).oth (u1 _ _) (fun _ _ _ e => by cases e) (by omega) (by omega) (by omega) _, ?_, ?_⟩
         ·simp only [voR,if_pos hv9]
          rw [hSg,List.getElem?_set_self (zA (u1 _ _))]
         ·simp only [voR,if_pos hv9]
          refine zd _ ?_ (by omega)
          rw [List.getElem?_set_self (zA (m2 _)),List.length_append]; rfl
       ·refine gq2 (zc m9 (zc m9' (zc m10 m10'))) ?_
        refine zvg (key := key) (a := 6) (b := 0) (c := r.h.seq) (d := d) (hJ8.app _) hqI.tab hqg fun S9 hJ9 hG9 hl9 => ?_
        have lM := zA hM8; have lT := zA hT8
        have hM9 := hG9 _ _ (zf hM8) (by omega)
        have hT9 := hG9 _ _ (zf hT8) (by omega)
        have hA9 := hG9 S8.length _ (by rw [zm]; rfl) (by omega)
        have b0 : ∀ Y,(S9.set S8.length Y)[S8.length]? = some Y := fun Y => List.getElem?_set_self (zA hA9)
        have hJA : ∀ Y,StJ σ (.box (zkf c)) (σ.length + 13) (σ.length + 14) t' g' _ (S9.set S8.length Y) := fun Y => hJ9.oth hA9 (fun _ _ _ e => by cases e) (by omega) (by omega) (by omega) Y
        have m1 : ∀ Y,(S9.set S8.length Y)[M]? = _ := fun Y => zd Y hM9 (by omega)
        have m2 : ∀ Y,(S9.set S8.length Y)[M + 1]? = _ := fun Y => zd Y hT9 (by omega)
        cases hv8 : (votE q.1 key 6 0 r.h.seq d == 0)
        ·have hv9 : ¬ votE q.1 key 6 0 r.h.seq d = 0 := by simpa using hv8
         refine gq36 (zc hv8 (zc hwj (zc hA9 b0))) ?_
         refine zap.next hjl ⟨_,rn.symm,rfl,hJA _, ?_, ?_⟩
         ·simp only [voR,if_neg hv9]; exact m1 _
         ·simp only [voR,if_neg hv9]; exact m2 _
        ·have hv9 : votE q.1 key 6 0 r.h.seq d = 0 := by simpa using hv8
         have u1 : ∀ Y Z,((S9.set S8.length Y).set (M + 1) Z)[M]? = some _ := fun Y Z => zd Z (m1 Y) (by omega)
         refine gq42 (zc hv8 (zc hwj (zc hA9 (zc b0 (zc m2 (zc u1 (zc hql hMq))))))) ?_
         have hSg : zas (q.2.2 ++ [votS q.1 key 6 0 r.h.seq d]) = zas q.2.2 ++ [[.int .i64 (votS q.1 key 6 0 r.h.seq d).key, .int .i64 (votS q.1 key 6 0 r.h.seq d).dig]] := by simp; rfl
         refine zap.next hjl ⟨_,rn.symm,rfl,((hJA _).oth (m2 _) (fun _ _ _ e => by cases e) (by omega) (by omega) (by omega) _).oth (u1 _ _) (fun _ _ _ e => by cases e) (by omega) (by omega) (by omega) _, ?_, ?_⟩
         ·simp only [voR,if_pos hv9]
          rw [hSg,List.getElem?_set_self (zA (u1 _ _))]
         ·simp only [voR,if_pos hv9]
          refine zd _ ?_ (by omega)
          rw [List.getElem?_set_self (zA (m2 _)),List.length_append]; rfl
      ·have hd : decide ((j : Int) < ((ksF c).length : Int)) = false := by simp; omega
       rw [show (ksF c).take j = ksF c from List.take_of_length_le (by omega)] at hq8
       have v1 := fun Y => zd (i := σ.length + 14) Y m9 (by omega)
       have hJ9 := hJ8.crt (s.cs ++ [⟨r.h.seq,d,q.2.2⟩])
       rw [List.length_append,zgy,List.map_append] at hJ9
       have hce : (zgy s.cs).length = s.cs.length := List.length_map ..
       have hcl := hI.cl
       have v14 := hJ8.kc
       refine gq2 (zc hd (zc hkl (zc hMq (zc m9 (zc m9' (zc hM8 (zc hT8 (zc hql (zc v1 (zc hce (zc v14 hwk))))))))))) ?_
       refine zap.next hlt ⟨rfl,t',g', ?_⟩
       rw [zeh hq,hs,hst,stX,if_neg (by simpa using he),if_neg (by simpa using c4),hdq, ← hq8]
       exact hJ9
     ·have g10 := hJ6.hb
      refine gq2 (zc he (zc hS3 (zc f0 (zc f1 (zc f2 (zc f3 (zc f4 (zc f5 (zc c4 (zc hwk (zc hbe (zc hS5 g10)))))))))))) ?_
      refine zap.next hlt ⟨rfl,t',g', ?_⟩
      rw [zeh hq,hs,hst,stX,if_neg (by simpa using he),if_pos (by simpa using c4)]
      exact hJ6
    ·refine gq2 (zc he hwk) ?_
     refine zap.next hlt ⟨rfl,t',g', ?_⟩
     rw [zeh hq,hs,hst,stX,if_pos (by simpa using he)]
     exact hJ2.app _
   ·refine gq2 (zc f9 (zc f9' (zc hx' hx''))) ?_
    refine zrM (L := p.1) (T := s.T) (h := s.h) (b := p.2.2) (hJ'.top.app _) hI.tops hI.last (zf hJ'.xb) hpI.tab (by omega) hpI.sz hpl2 fun S2 t' g' N' hT2 hL2 hS2 => ?_
    have lN := zA hN'
    have lS := zA hJ'.kc
    have hJ2 := (hJ'.app _).exec hT2 hL2 hS2
    have hN2 := hS2.get _ _ (zf hN') (by omega) (by omega) (fun _ _ _ e => by cases e)
    have hA2 := hS2.get S'.length _ (by rw [zm]; rfl) (by omega) (by omega) (fun _ _ _ e => by cases e)
    have hA3 : ∀ Y,(S2.set S'.length Y)[S'.length]? = some Y := fun Y => List.getElem?_set_self (zA hA2)
    clear hS2 hT2 hL2
    have hst : stR (ksF c) s l = stX (ksF c) s p (zfz p.1 s.T s.h p.2.2) := by rw [hp]; rfl
    obtain ⟨r,hr⟩ : ∃ r,zfz p.1 s.T s.h p.2.2 = r := ⟨_,rfl⟩
    have hI' := execI (h := s.h) hpI.tab hI.tops hI.last hI.last8 hpI.sz
    simp only [hr] at hst hJ2 hI' ⊢
    cases he : (r.e != 0)
    ·refine gq36 (zc he (zc hA2 hA3)) ?_
     obtain ⟨S3,hS3⟩ : ∃ S3,S2.set S'.length (hdrC r.h) = S3 := ⟨_,rfl⟩
     have hJ3 : StJ σ (.box (zkf c)) (σ.length + 13) (σ.length + 14) t' g' { L := r.L,G := p.2.1,h := s.h,T := r.T,bs := s.bs,cs := s.cs } S3 := hS3 ▸ hJ2.oth hA2 (fun _ _ _ e => by cases e) (by omega) (by omega) (by omega) _
     have hN3 : S3[N]? = some _ := hS3 ▸ zd _ hN2 (by omega)
     simp only [hdrC] at hS3
     clear hJ2 hN2
     have hJ4 := hJ3.hdr r.h
     have f0 := hJ3.hb
     have f1 := hJ4.st
     have f2 := hJ4.hb
     have f3 := hJ4.kb
     have f4 := fun Y => zd (i := σ.length + 13) Y hJ4.st (by omega)
     have f5 := fun Y Z => zd (i := σ.length + 9) Z (zd (i := σ.length + 13) Y hJ4.hb (by omega)) (by omega)
     have hbe : (zcC s.bs).length = s.bs.length := List.length_map ..
     have hbl := hI.bl
     have hJ5 := hJ4.blk (s.bs ++ [⟨r.h,p.2.2,r.p⟩])
     rw [List.length_append,zcC,List.map_append] at hJ5
     obtain ⟨S5,hS5⟩ : ∃ S5,((S3.set (σ.length + 10) (hdrC r.h)).set (σ.length + 13) (.tok 7 (s.bs.length + 1))).set (σ.length + 9) (.box [.box (σ.length + 4) 0, .box (σ.length + 7) 0, .box (σ.length + 1) 0, .box (σ.length + 2) 0, .own (σ.length + 13) (zcC s.bs ++ [zpG ⟨r.h,p.2.2,r.p⟩]), .own (σ.length + 14) (zgy s.cs)]) = S5 := ⟨_,rfl⟩
     have hJ6 : StJ σ (.box (zkf c)) (σ.length + 13) (σ.length + 14) t' g' { L := r.L,G := p.2.1,h := r.h,T := r.T,bs := s.bs ++ [⟨r.h,p.2.2,r.p⟩],cs := s.cs } S5 := hS5 ▸ hJ5
     have hN6 : S5[N]? = some _ := hS5 ▸ zd _ (zd _ (zd _ hN3 (by omega)) (by omega)) (by omega)
     simp only [hdrC,zpG] at hS5
     clear hJ5
     cases c4 : (r.h.seq.tmod 4 != 0)
     ·have g9 := hJ6.st
      have g10 := hJ6.hb
      have g0 := hJ6.cb
      refine gq36 (zc he (zc hA2 (zc hA3 (zc hS3 (zc f0 (zc f1 (zc f2 (zc f3 (zc f4 (zc f5 (zc c4 (zc hbe (zc hS5 (zc g9 (zc g10 g0))))))))))))))) ?_
      refine zpi (h := r.h) hJ6.xb hI'.1.len ?_
      have hJ7 := hJ6.x (zgk r.L r.h)
      have hN7 := zd (i := σ.length + 1) (rtO (zgk r.L r.h)) hN6 (by omega)
      obtain ⟨S7,hS7⟩ : ∃ S7,S5.set (σ.length + 1) (rtO (zgk r.L r.h)) = S7 := ⟨_,rfl⟩
      rw [hS7] at hJ7 hN7 ⊢
      have l7 : σ.length + 14 < S7.length := zA hJ7.kc
      have k0 : ∀ τ,(S7 ++ τ)[σ.length]? = _ := fun τ => zf hJ7.cb
      have k10 := hJ7.hb
      refine gq2 (zc k0 k10) ?_
      refine c_rAll ?_
      refine gq2 k0 ?_
      refine c_rBoth hv (all_small _) ?_
      refine gq1 ?_
      refine c_rList (ztR _ _) ?_
      rw [show memF (bothF c.voters (allF (zdc 3 c.f).toNat)) = ksF c from rfl]
      refine gq1 ?_
      have hkl : (zbd (ksF c)).length = (ksF c).length := List.length_map ..
      have hk13 : (ksF c).length ≤ 13 := znv _ _
      obtain ⟨d,hdq⟩ : ∃ d,zsI r.L r.h = d := ⟨_,rfl⟩
      obtain ⟨M,hMq⟩ : ∃ M,S7.length = M := ⟨_,rfl⟩
      rw [hdq]
      have hwc : znb [.d (.int .i64 0)] (S7 ++ [.box [.d (.int .i64 r.h.seq), .d (.int .i64 d), .exact []]]) [.d (.int .i64 0)] (S7 ++ [.box [.d (.int .i64 r.h.seq), .d (.int .i64 d), .own (M + 1) []], .tok 2 0]) := by
       refine .tokB S7.length 2 _ [] 2 (by rw [zm]; rfl) rfl (by simp) ?_
       rw [zN,zZ,hMq,List.append_assoc]
       exact .refl _ _
      refine zaO (ksF c).length (fun j vs S8 => ∃ q : List (List UInt8) × List zI × List zI,q = ((ksF c).take j).foldl (voR r.h.seq d) (zgk r.L r.h,p.2.1, []) ∧ vs = [.d (.int .i64 j)] ∧ StJ σ (.box (zkf c)) (σ.length + 13) (σ.length + 14) t' g' { L := q.1,G := q.2.1,h := r.h,T := r.T,bs := s.bs ++ [⟨r.h,p.2.2,r.p⟩],cs := s.cs } S8 ∧ S8[M]? = some (.box [.d (.int .i64 r.h.seq), .d (.int .i64 d), .own (M + 1) (zas q.2.2)]) ∧ S8[M + 1]? = some (.tok 2 q.2.2.length)) hwc
       ⟨_,rfl,rfl,hJ7.app _,by rw [← hMq,zm]; rfl,by rw [← hMq,zh]; rfl⟩ ?_
      rintro j vs S8 hj ⟨q,hq8,rfl,hJ8,hM8,hT8⟩
      have hqI : VoI (s.G.length + l.length + j) j q := by
       have := foldVo (seq := r.h.seq) (d := d) (s := (zgk r.L r.h,p.2.1, [])) (N := s.G.length + l.length) (m := 0) ⟨zqt hI'.1 r.h,hpI.led,hp ▸ ledSe hI.ledI,Nat.zero_le _⟩ ((ksF c).take j)
       rw [← hq8] at this
       have e : ((ksF c).take j).length = j := by rw [List.length_take]; omega
       rw [e] at this
       simpa using this
      have hq1 := hqI.led; have hq2 := hqI.len; have hq3 := hI.led
      have hqg : q.2.1.length ≤ 1073741824 := by omega
      have hql : (zas q.2.2).length = q.2.2.length := List.length_map ..
      have m9 := hJ8.st
      have m10 := hJ8.hb
      have m9' : ∀ τ,(S8 ++ τ)[σ.length + 9]? = _ := fun τ => zf hJ8.st
      have m10' : ∀ τ,(S8 ++ τ)[σ.length + 10]? = _ := fun τ => zf hJ8.hb
      have hwj : IntKind.i64.wrap ((j : Int) + 1) = ((j + 1 : Nat) : Int) := by rw [zJ (by omega) (by omega)]; rfl
      by_cases hjl : j < (ksF c).length
      ·have hd : decide ((j : Int) < ((ksF c).length : Int)) = true := by simp; omega
       have hr8 : (ksF c)[j]? = some (ksF c)[j] := by simp [hjl]
       have hgr := zU (f := fun t : Int => [D.int .i64 t]) hr8
       obtain ⟨key,hkey⟩ : ∃ key,(ksF c)[j] = key := ⟨_,rfl⟩
       rw [hkey] at hr8 hgr
       have rn := zeh (f := voR r.h.seq d) (s := (zgk r.L r.h,p.2.1, [])) hr8
       rw [← hq8] at rn
       refine gq2 (zc hd (zc hgr (zc hkl (zc m9 (zc m9' (zc m10 m10')))))) ?_
       refine ⟨?_, ?_⟩
       ·refine zvg (key := key) (a := 6) (b := 0) (c := r.h.seq) (d := d) hJ8 hqI.tab hqg fun S9 hJ9 hG9 hl9 => ?_
        have hM9 := hG9 _ _ hM8 (by omega)
        have hT9 := hG9 _ _ hT8 (by omega)
        have m1 : ∀ τ,(S9 ++ τ)[M]? = _ := fun τ => zf hM9
        have m2 : ∀ τ,(S9 ++ τ)[M + 1]? = _ := fun τ => zf hT9
        cases hv8 : (votE q.1 key 6 0 r.h.seq d == 0)
        ·have hv9 : ¬ votE q.1 key 6 0 r.h.seq d = 0 := by simpa using hv8
         refine gq2 (zc hv8 hwj) ?_
         refine zap.next hjl ⟨_,rn.symm,rfl,hJ9.app _, ?_, ?_⟩
         ·simp only [voR,if_neg hv9]; exact m1 _
         ·simp only [voR,if_neg hv9]; exact m2 _
        ·have hv9 : votE q.1 key 6 0 r.h.seq d = 0 := by simpa using hv8
         have u1 : ∀ τ Y,((S9 ++ τ).set (M + 1) Y)[M]? = some _ := fun τ Y => zd Y (m1 τ) (by omega)
         refine gq15 (zc hv8 (zc hwj (zc m2 (zc u1 (zc hql hMq))))) ?_
         have hSg : zas (q.2.2 ++ [votS q.1 key 6 0 r.h.seq d]) = zas q.2.2 ++ [[.int .i64 (votS q.1 key 6 0 r.h.seq d).key, .int .i64 (votS q.1 key 6 0 r.h.seq d).dig]] := by simp; rfl
         refine zap.next hjl ⟨_,rn.symm,rfl,((hJ9.app _).oth (m2 _) (fun _ _ _ e => by cases e) (by omega) (by omega) (by omega) _).oth (u1 _ _) (fun _ _ _ e => by cases e) (by omega) (by omega) (by omega) _, ?_, ?_⟩
         ·simp only [voR,if_pos hv9]
          rw [hSg,List.getElem?_set_self (zA (u1 _ _))]
         ·simp only [voR,if_pos hv9]
          refine zd _ ?_ (by omega)
          rw [List.getElem?_set_self (zA (m2 _)),List.length_append]; rfl
       ·refine gq2 (zc m9 (zc m9' (zc m10 m10'))) ?_
        refine zvg (key := key) (a := 6) (b := 0) (c := r.h.seq) (d := d) (hJ8.app _) hqI.tab hqg fun S9 hJ9 hG9 hl9 => ?_
        have lM := zA hM8; have lT := zA hT8
        have hM9 := hG9 _ _ (zf hM8) (by omega)
        have hT9 := hG9 _ _ (zf hT8) (by omega)
        have hA9 := hG9 S8.length _ (by rw [zm]; rfl) (by omega)
        have b0 : ∀ Y,(S9.set S8.length Y)[S8.length]? = some Y := fun Y => List.getElem?_set_self (zA hA9)
        have hJA : ∀ Y,StJ σ (.box (zkf c)) (σ.length + 13) (σ.length + 14) t' g' _ (S9.set S8.length Y) := fun Y => hJ9.oth hA9 (fun _ _ _ e => by cases e) (by omega) (by omega) (by omega) Y
        have m1 : ∀ Y,(S9.set S8.length Y)[M]? = _ := fun Y => zd Y hM9 (by omega)
        have m2 : ∀ Y,(S9.set S8.length Y)[M + 1]? = _ := fun Y => zd Y hT9 (by omega)
        cases hv8 : (votE q.1 key 6 0 r.h.seq d == 0)
        ·have hv9 : ¬ votE q.1 key 6 0 r.h.seq d = 0 := by simpa using hv8
         refine gq36 (zc hv8 (zc hwj (zc hA9 b0))) ?_
         refine zap.next hjl ⟨_,rn.symm,rfl,hJA _, ?_, ?_⟩
         ·simp only [voR,if_neg hv9]; exact m1 _
         ·simp only [voR,if_neg hv9]; exact m2 _
        ·have hv9 : votE q.1 key 6 0 r.h.seq d = 0 := by simpa using hv8
         have u1 : ∀ Y Z,((S9.set S8.length Y).set (M + 1) Z)[M]? = some _ := fun Y Z => zd Z (m1 Y) (by omega)
         refine gq42 (zc hv8 (zc hwj (zc hA9 (zc b0 (zc m2 (zc u1 (zc hql hMq))))))) ?_
         have hSg : zas (q.2.2 ++ [votS q.1 key 6 0 r.h.seq d]) = zas q.2.2 ++ [[.int .i64 (votS q.1 key 6 0 r.h.seq d).key, .int .i64 (votS q.1 key 6 0 r.h.seq d).dig]] := by simp; rfl
         refine zap.next hjl ⟨_,rn.symm,rfl,((hJA _).oth (m2 _) (fun _ _ _ e => by cases e) (by omega) (by omega) (by omega) _).oth (u1 _ _) (fun _ _ _ e => by cases e) (by omega) (by omega) (by omega) _, ?_, ?_⟩
         ·simp only [voR,if_pos hv9]
          rw [hSg,List.getElem?_set_self (zA (u1 _ _))]
         ·simp only [voR,if_pos hv9]
          refine zd _ ?_ (by omega)
          rw [List.getElem?_set_self (zA (m2 _)),List.length_append]; rfl
      ·have hd : decide ((j : Int) < ((ksF c).length : Int)) = false := by simp; omega
       rw [show (ksF c).take j = ksF c from List.take_of_length_le (by omega)] at hq8
       have v1 := fun Y => zd (i := σ.length + 14) Y m9 (by omega)
       have hJ9 := hJ8.crt (s.cs ++ [⟨r.h.seq,d,q.2.2⟩])
       rw [List.length_append,zgy,List.map_append] at hJ9
       have hce : (zgy s.cs).length = s.cs.length := List.length_map ..
       have hcl := hI.cl
       have v14 := hJ8.kc
       refine gq2 (zc hd (zc hkl (zc hMq (zc m9 (zc m9' (zc hM8 (zc hT8 (zc hql (zc v1 (zc hce (zc v14 hwk))))))))))) ?_
       refine zap.next hlt ⟨rfl,t',g', ?_⟩
       rw [zeh hq,hs,hst,stX,if_neg (by simpa using he),if_neg (by simpa using c4),hdq, ← hq8]
       exact hJ9
     ·have g10 := hJ6.hb
      refine gq36 (zc he (zc hA2 (zc hA3 (zc hS3 (zc f0 (zc f1 (zc f2 (zc f3 (zc f4 (zc f5 (zc c4 (zc hwk (zc hbe (zc hS5 g10)))))))))))))) ?_
      refine zap.next hlt ⟨rfl,t',g', ?_⟩
      rw [zeh hq,hs,hst,stX,if_neg (by simpa using he),if_pos (by simpa using c4)]
      exact hJ6
    ·refine gq36 (zc he (zc hwk (zc hA2 hA3))) ?_
     refine zap.next hlt ⟨rfl,t',g', ?_⟩
     rw [zeh hq,hs,hst,stX,if_pos (by simpa using he)]
     exact hJ2.oth hA2 (fun _ _ _ e => by cases e) (by omega) (by omega) (by omega) _
 ·have hd : decide ((k : Int) < (B.length : Int)) = false := by simp; omega
  have hsF : stF (ksF c) c.bats = s := by rw [← hs,List.take_of_length_le (show B.length ≤ k by omega), ← hB]; rfl
  rw [hsF] at hK
  have m9 := hJ.st
  have m1 : S[σ.length + 1]? = some (zg.box [.d (.slice (zdo s.L))]) := hJ.xb
  have etl : (zdo s.L).length = s.L.length := List.length_map ..
  have egl : (zny s.G).length = s.G.length := List.length_map ..
  have hti := hI.tab
  have hled := hI.led
  have hsm : ((B.take k).map List.length).sum ≤ 268435456 := Nat.le_trans (zqs ..) hBs
  have hgm : s.G.length ≤ 1073741824 := by omega
  refine gq15 (zc hd (zc hBe (zc hz1 (zc hz2 (zc m9 etl))))) ?_
  have hwk : znb [.d (.int .i64 0)] S [.d (.int .i64 0)] _ := .dataB (σ.length + 9) 4 _ (.own (σ.length + 13) (zcC s.bs)) (zcC s.bs) hJ.st rfl rfl (.dataB (σ.length + 9) 5 _ (.own (σ.length + 14) (zgy s.cs)) (zgy s.cs) (List.getElem?_set_self (zA hJ.st)) rfl rfl (.refl _ _))
  refine zaO s.L.length (fun k vs S => vs = [.d (.int .i64 k)] ∧ StE σ s (s.L.take k) [] S) hwk ⟨rfl,hJ.done⟩ ?_
  rintro u vs S2 hu ⟨rfl,hE⟩
  have e9 := hE.st
  by_cases hul : u < s.L.length
  ·have hd : decide ((u : Int) < (s.L.length : Int)) = true := by simp; omega
   have hx : s.L[u]? = some s.L[u] := by simp [hul]
   have hgx := zU (f := fun b => [D.slice (bcs b)]) hx
   have hxb := hti.each _ (List.getElem_mem hul)
   obtain ⟨x,hxe⟩ : ∃ x,s.L[u] = x := ⟨_,rfl⟩
   rw [hxe] at hx hgx hxb
   have hlen := hti.len
   have hw : IntKind.i64.wrap ((u : Int) + 1) = ((u + 1 : Nat) : Int) := by rw [zJ (by omega) (by omega)]; rfl
   have hn0 : (zee (s.L.take u) x == 0) = false := by
    simp only [zee]
    split
    ·simp; omega
    ·rw [List.length_take,if_neg (by omega)]
     simp; omega
   refine gq2 (zc hd (zc hgx (zc etl e9))) ?_
   refine ztJ hE.tab hxb (by rw [List.length_take]; omega) ?_
   rw [zuq hti.nd hti.len hx]
   refine gq2 (zc hw hn0) ?_
   exact zap.next hul ⟨rfl,hE.putT _⟩
  ·have hd : decide ((u : Int) < (s.L.length : Int)) = false := by simp; omega
   rw [show s.L.take u = s.L from List.take_of_length_le (by omega)] at hE
   have e8 : S2[σ.length + 2]? = some (zg.box [.d (.slice (zny s.G))]) := hE.yb
   refine gq2 (zc hd (zc etl (zc e9 (zc e8 egl)))) ?_
   refine zw s.G.length (fun k vs S => vs = [.d (.int .i64 k)] ∧ StE σ s s.L (s.G.take k) S) ⟨rfl,hE⟩ ?_
   rintro u vs S3 hu ⟨rfl,hE3⟩
   have e9 := hE3.st
   have e9' : ∀ τ,(S3 ++ τ)[σ.length + 9]? = _ := fun τ => zf hE3.st
   by_cases hul : u < s.G.length
   ·have hd : decide ((u : Int) < (s.G.length : Int)) = true := by simp; omega
    have hx : s.G[u]? = some s.G[u] := by simp [hul]
    obtain ⟨x,hxe⟩ : ∃ x,s.G[u] = x := ⟨_,rfl⟩
    rw [hxe] at hx
    have hgx : (zny s.G)[u]? = some [D.int .i64 x.key,D.int .i64 x.dig] := by rw [zny]; exact zU hx
    have hw : IntKind.i64.wrap ((u : Int) + 1) = ((u + 1 : Nat) : Int) := by rw [zJ (by omega) (by omega)]; rfl
    refine gq2 (zc hd (zc hgx (zc egl (zc e9 e9')))) ?_
    refine c_gSign (hE3.led.app _) (by rw [List.length_take]; omega) ?_
    rw [sign_take hI.ledI hx]
    refine gq2 hw ?_
    exact zap.next hul ⟨rfl,(hE3.app _).putG _⟩
   ·have hd : decide ((u : Int) < (s.G.length : Int)) = false := by simp; omega
    rw [show s.G.take u = s.G from List.take_of_length_le (by omega)] at hE3
    have e8 : S3[σ.length + 2]? = some (zg.box [.d (.slice (zny s.G))]) := hE3.yb
    have eq : ((s.G.length : Int) == (s.G.length : Int)) = true := by simp
    refine gq2 (zc hd (zc egl (zc e9 e8))) ?_
    refine c_gLen hE3.led ?_
    refine gq2 eq ?_
    refine zlO ?_
    exact hK _ hE3
end Go.Proofs.YtfjommppajkpoaaGreat
