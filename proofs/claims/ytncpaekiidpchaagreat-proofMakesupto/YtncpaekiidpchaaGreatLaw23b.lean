/- The law ProofMakes, from the contracts. -/
import Derived.Test.YtncpaekiidpchaaGreatTr2
import Derived.Test.YtncpaekiidpchaaGreatLv3
set_option linter.all false
set_option maxRecDepth 100000
namespace Go.Proofs.YtncpaekiidpchaaGreat
open Go.AW
theorem begun_case {σ : List zf} {c : znS} (hq : okC c) {K : AV → List zf → Prop}
  (hK : ∀ S,StE σ (stF (ksF c) c.bats) (stF (ksF c) c.bats).L (stF (ksF c) c.bats).G S → K (.tup [.box (σ.length + 9) 0, .d (.bool true)]) S) : zL Tryz.prog zcB [caseA c] σ K :=
 c_begun23 hq.ops (by have := hq.sum; omega) hq.voters hK
theorem stF_I {c : znS} (hq : okC c) : StI 2000000 20 (stF (ksF c) c.bats) := by
 have h := foldSt (ks := ksF c) (bats := c.bats.take 20) st0I (fun l hl => hq.ops l (List.mem_of_mem_take hl)) (zlD _ _)
 have h1 := zna c.bats 20
 have h2 := hq.sum
 have h3 : (c.bats.take 20).length ≤ 20 := by rw [List.length_take]; omega
 exact ⟨h.tab,by have := h.led; rw [stF]; omega,h.ledI,h.tops,h.last,h.last8,h.bs,by have := h.bl; rw [stF]; omega,h.cs,by have := h.cl; rw [stF]; omega⟩
def zkx : List (Bool × List Ty) := [(true,tyCase),(false, [.slice zui]),(true,tyCert)]
set_option maxHeartbeats 2000000 in
theorem zsj (xs : List AV) (n : Nat) (hn : n ≤ 1048576) (h : ArgsOk zkx xs n) : zL Tryz.prog zge xs [] fun r _ => r = .d (.bool true) := by
 obtain ⟨ds,xs1,m1,hf,hb1,rfl,h⟩ := h
 obtain ⟨q,rfl,hq⟩ := dec_case hf (by omega)
 obtain ⟨ds,xs2,m2,hf,hb2,rfl,h⟩ := h
 obtain ⟨d,rfl,h1⟩ := one_of hf
 obtain ⟨more,rfl,hmS,hmL⟩ := dec_blocks h1 (by simp only [zdf] at hb2; omega)
 obtain ⟨ds,xs3,m3,hf,hb3,rfl,rfl⟩ := h
 obtain ⟨x,rfl,hx⟩ := dec_cert hf (by omega)
 show zL Tryz.prog zge [caseA q, .d (.slice (zbv more)),certA x] [] _
 clear hf hb1 hb2 hb3 h1
 obtain ⟨σ,hσ⟩ : ∃ σ : List zf,([] : List zf) = σ := ⟨_,rfl⟩
 have hσr : ∀ x ∈ σ, ∀ g sz cs,x ≠ .row g sz cs := by subst hσ; simp
 rw [hσ]
 clear hσ
 refine zj zjR.is rfl fun hl _ => zjR.goes ?_
 simp only [zke,iN,bT,bF,eN]
 (repeat' first | refine gq1 ?_ | with_reducible first | exact ⟨⟩ | refine zh ?_ | fail)
 refine c_live23 (fun y hy => ?_) ?_
 ·rcases List.mem_append.1 hy with hy | hy
  ·exact hσr y hy
  ·simp only [List.mem_cons,List.not_mem_nil,or_false] at hy
   rcases hy with rfl | rfl <;> (intro _ _ _ e; cases e)
 (repeat' first | refine gq1 ?_ | with_reducible first | exact ⟨⟩ | refine zh ?_ | fail)
 obtain ⟨ρ,hρ⟩ : ∃ ρ, σ ++ [.box (ziR q), .box [.d (.int .i64 x.seq), .d (.int .i64 x.dig), .d (.slice (zaz x.signs))]] = ρ := ⟨_,rfl⟩
 have r0 : ρ[σ.length]? = some (.box (ziR q)) := by rw [← hρ,zw]; rfl
 have r1 : ρ[σ.length + 1]? = some (.box [.d (.int .i64 x.seq), .d (.int .i64 x.dig), .d (.slice (zaz x.signs))]) := by rw [← hρ,zq]; rfl
 have hlρ : ρ.length = σ.length + 2 := by rw [← hρ]; simp
 rw [hρ]
 refine begun_case hq fun S hE => ?_
 have hI := stF_I hq
 obtain ⟨s,hs⟩ : ∃ s,stF (ksF q) q.bats = s := ⟨_,rfl⟩
 rw [hs] at hE hI
 have st := hE.st
 have st' : ∀ τ,(S ++ τ)[_]? = _ := fun τ => zg hE.st
 have c1' : ∀ τ,(S ++ τ)[σ.length + 1]? = _ := fun τ => zg (hE.rest _ _ r1 (fun _ _ _ e => by cases e))
 have hbl : (zbv s.bs).length = s.bs.length := List.length_map ..
 have hml : (zbv more).length = more.length := List.length_map ..
 have hcl : (zfn s.cs).length = s.cs.length := List.length_map ..
 have i1 := hI.bl
 have i2 := hI.cl
 (repeat' first | refine gq2 (zd st (zd st' (zd c1' (zd hbl (zd hml hcl))))) ?_ | with_reducible first | exact ⟨⟩ | refine zh ?_ | fail)
 refine ⟨fun e he => by obtain ⟨c,_,rfl⟩ := List.mem_map.1 he; rfl,fun e he => by simp at he; subst he; rfl,by omega, ?_⟩
 refine zK (s.cs.length + 1) (fun k vs S => vs = [.d (.int .i64 k)] ∧ ∃ L,zjY L ∧ StE ρ { s with L := L } L s.G S) ⟨rfl,s.L,hI.tab,hE.app _⟩ ?_
 rintro k vs S1 hk ⟨rfl,L,hL,hE1⟩
 have st1 : S1[ρ.length + 9]? = _ := hE1.st
 have st1' : ∀ τ,(S1 ++ τ)[ρ.length + 9]? = _ := fun τ => zg hE1.st
 have d0 : ∀ τ,(S1 ++ τ)[σ.length]? = _ := fun τ => zg (hE1.rest _ _ r0 (fun _ _ _ e => by cases e))
 have hap : zbv s.bs ++ zbv more = zbv (s.bs ++ more) := by simp
 have hcl2 : ((x :: s.cs).map certD).length = s.cs.length + 1 := by simp
 by_cases hlt : k < s.cs.length + 1
 ·have hd : decide ((k : Int) < ((s.cs.length + 1 : Nat) : Int)) = true := by simp; omega
  have hk' : k < (x :: s.cs).length := by simpa using hlt
  have hx1 : (x :: s.cs)[k]? = some (x :: s.cs)[k] := by simp [hlt]
  have hx2 : ∀ c ∈ x :: s.cs,c.signs.length ≤ 1048576 := fun c hc => by
   rcases List.mem_cons.1 hc with rfl | hc
   ·exact hx
   ·have := hI.cs c hc; omega
  have hx3 := hx2 _ (List.getElem_mem hk')
  have hgx := zaf (f := certD) hx1
  obtain ⟨c,hc⟩ : ∃ c,(x :: s.cs)[k] = c := ⟨_,rfl⟩
  rw [hc] at hgx hx3
  have hgx' : ([.int .i64 x.seq, .int .i64 x.dig, .slice (zaz x.signs)] :: zfn s.cs)[k]? = some [.int .i64 c.seq, .int .i64 c.dig, .slice (zaz c.signs)] := hgx
  have hbs : ∀ b ∈ s.bs ++ more,zgb b := fun b hb => by
   rcases List.mem_append.1 hb with hb | hb
   ·exact hI.bs b hb
   ·exact hmS b hb
  have hbl2 : (s.bs ++ more).length ≤ 536870912 := by rw [List.length_append]; omega
  obtain ⟨m1,m2,m3,m4,m5⟩ := zqR (L := L) (l := s.bs ++ more) (c := c) (t := q.topic) (o := q.offset) hL hbs hbl2 (by omega) (by have := hq.topic; omega) hq.offset
  obtain ⟨M,hM⟩ : ∃ M,zdM L (s.bs ++ more) c q.topic q.offset = M := ⟨_,rfl⟩
  rw [hM] at m1 m2 m3 m4 m5
  have hw : IntKind.i64.wrap ((k : Int) + 1) = ((k + 1 : Nat) : Int) := by rw [zai (by omega) (by omega)]; rfl
  (repeat' first | refine gq66 (zd hd (zd hgx' (zd hcl (zd hap (zd st1 (zd st1' d0)))))) ?_ | with_reducible first | exact ⟨⟩ | refine zh ?_ | fail)
  have hE2 := hE1.putT M.2.2
  have l2 : (putTab S1 (ρ.length + 4) (ρ.length + 3) (ρ.length + 5) M.2.2).length = S1.length := zcm ..
  obtain ⟨S2,hS2⟩ : ∃ S2,putTab S1 (ρ.length + 4) (ρ.length + 3) (ρ.length + 5) M.2.2 = S2 := ⟨_,rfl⟩
  rw [hS2] at hE2 l2
  have hE3 := hE2.x M.2.2
  have x3 : ∀ τ,(S2 ++ τ).set (ρ.length + 1) (rtO M.2.2) = S2.set (ρ.length + 1) (rtO M.2.2) ++ τ := fun τ => List.set_append_left _ _ (zN hE2.xb)
  have l3 : (S2.set (ρ.length + 1) (rtO M.2.2)).length = S2.length := List.length_set
  obtain ⟨S3,hS3⟩ : ∃ S3,S2.set (ρ.length + 1) (rtO M.2.2) = S3 := ⟨_,rfl⟩
  rw [hS3] at hE3 l3
  simp only [hS3] at x3
  have st2 : ∀ τ,(S2 ++ τ)[ρ.length + 9]? = _ := fun τ => zg hE2.st
  have d2 : ∀ τ,(S2 ++ τ)[σ.length]? = _ := fun τ => zg (hE2.rest _ _ r0 (fun _ _ _ e => by cases e))
  have q1 : ∀ x : Int,(x != x) = false := fun x => by simp
  refine ⟨?_, ?_⟩
  ·refine zqq (L := L) (l := s.bs ++ more) (c := c) (hE1.tab.app _) hL (by omega) hbs (by omega) ?_
   rw [hM,zlv hE1.tab,hS2]
   (repeat' (first | simp -dsimp only [↓zcR, ↓zal, ↓zaM, ↓zcS, ↓zcN, ↓zcL, ↓zcO, ↓zcM, ↓zaR, ↓zaN, ↓zaS, ↓zaO, ↓zcP, ↓zaL, ↓zaT, ↓zaP, ↓zaU, ↓zaQ, ↓zcK, ↓zcQ, ↓zaK, ↓zaV, ↓zcI, ↓zcH, ↓zcJ,iN,bT,bF,eN, ↓zbI, ↓unC, ↓zQ, ↓zF, ↓zG, ↓zI, ↓zR, ↓zap, ↓zbp, ↓zab, ↓zaX, ↓zP, ↓zp, ↓zm, ↓zbg, ↓zi, ↓zY, ↓zB, ↓zas, ↓zaw, ↓ze, ↓zC, ↓zr, ↓zt, ↓zad, ↓zbL, ↓zbY, ↓zaa, ↓zaj, ↓zau, ↓zaB, ↓zaD, ↓zl, ↓zZ, ↓zH, ↓zu, ↓zS,zcd,zaI,zaH,unA,zce,bnd,zcn,zX,zV,zcp,dm,dm1,zD,zag,zcy,zcx,zU,Q0,Q1,Q2,Q3,Q4,Q5,zO,zq,zw,zM,zE,Q6,Q7,Q8,Q9,Q10,Q11,Q12,Q13,Q14,Nat.reduceAdd,Q15,Int.reduceToNat,Q16,Q17,Q18,Q19,Q20,reduceIte,Q21,Q22,zx,rep,zT,zcv,toD,zW,Q23,Q24,Q25,Q26,Q27,Q28,Nat.reduceLeDiff,Q29,Nat.reduceSub,Q30,Q31,Q32,sc,Q33,Q34,Q35,Q36,Q37,Q26,Q38,Q39,zel,zei,zef,zem,zbt,zej,zeg,zek,zeh,zbs,zbu,zen,zeo,Bool.not_true,Bool.not_false,List.length_map, ← l2,st2,d2,hap] | (with_reducible refine zh ?_) | fail))
   refine ⟨?_, ?_⟩
   ·refine znK (L := L) (l := s.bs ++ more) (c := c) (zg hE2.xb) hL.len (by omega) hbs (by omega) ?_
    rw [hM,x3]
    (repeat' (first | simp -dsimp only [↓zcR, ↓zal, ↓zaM, ↓zcS, ↓zcN, ↓zcL, ↓zcO, ↓zcM, ↓zaR, ↓zaN, ↓zaS, ↓zaO, ↓zcP, ↓zaL, ↓zaT, ↓zaP, ↓zaU, ↓zaQ, ↓zcK, ↓zcQ, ↓zaK, ↓zaV, ↓zcI, ↓zcH, ↓zcJ,iN,bT,bF,eN, ↓zbI, ↓unC, ↓zQ, ↓zF, ↓zG, ↓zI, ↓zR, ↓zap, ↓zbp, ↓zab, ↓zaX, ↓zP, ↓zp, ↓zm, ↓zbg, ↓zi, ↓zY, ↓zB, ↓zas, ↓zaw, ↓ze, ↓zC, ↓zr, ↓zt, ↓zad, ↓zbL, ↓zbY, ↓zaa, ↓zaj, ↓zau, ↓zaB, ↓zaD, ↓zl, ↓zZ, ↓zH, ↓zu, ↓zS,zcd,zaI,zaH,unA,zce,bnd,zcn,zX,zV,zcp,dm,dm1,zD,zag,zcy,zcx,zU,Q0,Q1,Q2,Q3,Q4,Q5,zO,zq,zw,zM,zE,Q6,Q7,Q8,Q9,Q10,Q11,Q12,Q13,Q14,Nat.reduceAdd,Q15,Int.reduceToNat,Q16,Q17,Q18,Q19,Q20,reduceIte,Q21,Q22,zx,rep,zT,zcv,toD,zW,Q23,Q24,Q25,Q26,Q27,Q28,Nat.reduceLeDiff,Q29,Nat.reduceSub,Q30,Q31,Q32,sc,Q33,Q34,Q35,Q36,Q37,Q26,Q38,Q39,zel,zei,zef,zem,zbt,zej,zeg,zek,zeh,zbs,zbu,zen,zeo,Bool.not_true,Bool.not_false,List.length_map, ← l2, ← l3,q1,List.length_set] | (with_reducible refine zh ?_) | fail))
    refine zuP m1 ?_
    (repeat' (first | simp -dsimp only [↓zcR, ↓zal, ↓zaM, ↓zcS, ↓zcN, ↓zcL, ↓zcO, ↓zcM, ↓zaR, ↓zaN, ↓zaS, ↓zaO, ↓zcP, ↓zaL, ↓zaT, ↓zaP, ↓zaU, ↓zaQ, ↓zcK, ↓zcQ, ↓zaK, ↓zaV, ↓zcI, ↓zcH, ↓zcJ,iN,bT,bF,eN, ↓zbI, ↓unC, ↓zQ, ↓zF, ↓zG, ↓zI, ↓zR, ↓zap, ↓zbp, ↓zab, ↓zaX, ↓zP, ↓zp, ↓zm, ↓zbg, ↓zi, ↓zY, ↓zB, ↓zas, ↓zaw, ↓ze, ↓zC, ↓zr, ↓zt, ↓zad, ↓zbL, ↓zbY, ↓zaa, ↓zaj, ↓zau, ↓zaB, ↓zaD, ↓zl, ↓zZ, ↓zH, ↓zu, ↓zS,zcd,zaI,zaH,unA,zce,bnd,zcn,zX,zV,zcp,dm,dm1,zD,zag,zcy,zcx,zU,Q0,Q1,Q2,Q3,Q4,Q5,zO,zq,zw,zM,zE,Q6,Q7,Q8,Q9,Q10,Q11,Q12,Q13,Q14,Nat.reduceAdd,Q15,Int.reduceToNat,Q16,Q17,Q18,Q19,Q20,reduceIte,Q21,Q22,zx,rep,zT,zcv,toD,zW,Q23,Q24,Q25,Q26,Q27,Q28,Nat.reduceLeDiff,Q29,Nat.reduceSub,Q30,Q31,Q32,sc,Q33,Q34,Q35,Q36,Q37,Q26,Q38,Q39,zel,zei,zef,zem,zbt,zej,zeg,zek,zeh,zbs,zbu,zen,zeo,Bool.not_true,Bool.not_false,List.length_map,q1, ← l2, ← l3,List.length_set] | (with_reducible refine zh ?_) | fail))
    refine znL ?_
    (repeat' (first | simp -dsimp only [↓zcR, ↓zal, ↓zaM, ↓zcS, ↓zcN, ↓zcL, ↓zcO, ↓zcM, ↓zaR, ↓zaN, ↓zaS, ↓zaO, ↓zcP, ↓zaL, ↓zaT, ↓zaP, ↓zaU, ↓zaQ, ↓zcK, ↓zcQ, ↓zaK, ↓zaV, ↓zcI, ↓zcH, ↓zcJ,iN,bT,bF,eN, ↓zbI, ↓unC, ↓zQ, ↓zF, ↓zG, ↓zI, ↓zR, ↓zap, ↓zbp, ↓zab, ↓zaX, ↓zP, ↓zp, ↓zm, ↓zbg, ↓zi, ↓zY, ↓zB, ↓zas, ↓zaw, ↓ze, ↓zC, ↓zr, ↓zt, ↓zad, ↓zbL, ↓zbY, ↓zaa, ↓zaj, ↓zau, ↓zaB, ↓zaD, ↓zl, ↓zZ, ↓zH, ↓zu, ↓zS,zcd,zaI,zaH,unA,zce,bnd,zcn,zX,zV,zcp,dm,dm1,zD,zag,zcy,zcx,zU,Q0,Q1,Q2,Q3,Q4,Q5,zO,zq,zw,zM,zE,Q6,Q7,Q8,Q9,Q10,Q11,Q12,Q13,Q14,Nat.reduceAdd,Q15,Int.reduceToNat,Q16,Q17,Q18,Q19,Q20,reduceIte,Q21,Q22,zx,rep,zT,zcv,toD,zW,Q23,Q24,Q25,Q26,Q27,Q28,Nat.reduceLeDiff,Q29,Nat.reduceSub,Q30,Q31,Q32,sc,Q33,Q34,Q35,Q36,Q37,Q26,Q38,Q39,zel,zei,zef,zem,zbt,zej,zeg,zek,zeh,zbs,zbu,zen,zeo,Bool.not_true,Bool.not_false,List.length_map,q1, ← l2, ← l3,List.length_set] | (with_reducible refine zh ?_) | fail))
    refine zuY ?_
    (repeat' first | refine gq2 (zd q1 hw) ?_ | with_reducible first | exact ⟨⟩ | refine zh ?_ | fail)
    exact zav.next hlt ⟨rfl,M.2.2,m5,hE3.app _⟩
   ·(repeat' (first | simp -dsimp only [↓zcR, ↓zal, ↓zaM, ↓zcS, ↓zcN, ↓zcL, ↓zcO, ↓zcM, ↓zaR, ↓zaN, ↓zaS, ↓zaO, ↓zcP, ↓zaL, ↓zaT, ↓zaP, ↓zaU, ↓zaQ, ↓zcK, ↓zcQ, ↓zaK, ↓zaV, ↓zcI, ↓zcH, ↓zcJ,iN,bT,bF,eN, ↓zbI, ↓unC, ↓zQ, ↓zF, ↓zG, ↓zI, ↓zR, ↓zap, ↓zbp, ↓zab, ↓zaX, ↓zP, ↓zp, ↓zm, ↓zbg, ↓zi, ↓zY, ↓zB, ↓zas, ↓zaw, ↓ze, ↓zC, ↓zr, ↓zt, ↓zad, ↓zbL, ↓zbY, ↓zaa, ↓zaj, ↓zau, ↓zaB, ↓zaD, ↓zl, ↓zZ, ↓zH, ↓zu, ↓zS,zcd,zaI,zaH,unA,zce,bnd,zcn,zX,zV,zcp,dm,dm1,zD,zag,zcy,zcx,zU,Q0,Q1,Q2,Q3,Q4,Q5,zO,zq,zw,zM,zE,Q6,Q7,Q8,Q9,Q10,Q11,Q12,Q13,Q14,Nat.reduceAdd,Q15,Int.reduceToNat,Q16,Q17,Q18,Q19,Q20,reduceIte,Q21,Q22,zx,rep,zT,zcv,toD,zW,Q23,Q24,Q25,Q26,Q27,Q28,Nat.reduceLeDiff,Q29,Nat.reduceSub,Q30,Q31,Q32,sc,Q33,Q34,Q35,Q36,Q37,Q26,Q38,Q39,zel,zei,zef,zem,zbt,zej,zeg,zek,zeh,zbs,zbu,zen,zeo,Bool.not_true,Bool.not_false,List.length_map,st2,d2, ← l2,hap,List.length_set] | (with_reducible refine zh ?_) | fail))
    refine znK (L := L) (l := s.bs ++ more) (c := c) (zg hE2.xb) hL.len (by omega) hbs (by omega) ?_
    rw [hM,x3]
    (repeat' (first | simp -dsimp only [↓zcR, ↓zal, ↓zaM, ↓zcS, ↓zcN, ↓zcL, ↓zcO, ↓zcM, ↓zaR, ↓zaN, ↓zaS, ↓zaO, ↓zcP, ↓zaL, ↓zaT, ↓zaP, ↓zaU, ↓zaQ, ↓zcK, ↓zcQ, ↓zaK, ↓zaV, ↓zcI, ↓zcH, ↓zcJ,iN,bT,bF,eN, ↓zbI, ↓unC, ↓zQ, ↓zF, ↓zG, ↓zI, ↓zR, ↓zap, ↓zbp, ↓zab, ↓zaX, ↓zP, ↓zp, ↓zm, ↓zbg, ↓zi, ↓zY, ↓zB, ↓zas, ↓zaw, ↓ze, ↓zC, ↓zr, ↓zt, ↓zad, ↓zbL, ↓zbY, ↓zaa, ↓zaj, ↓zau, ↓zaB, ↓zaD, ↓zl, ↓zZ, ↓zH, ↓zu, ↓zS,zcd,zaI,zaH,unA,zce,bnd,zcn,zX,zV,zcp,dm,dm1,zD,zag,zcy,zcx,zU,Q0,Q1,Q2,Q3,Q4,Q5,zO,zq,zw,zM,zE,Q6,Q7,Q8,Q9,Q10,Q11,Q12,Q13,Q14,Nat.reduceAdd,Q15,Int.reduceToNat,Q16,Q17,Q18,Q19,Q20,reduceIte,Q21,Q22,zx,rep,zT,zcv,toD,zW,Q23,Q24,Q25,Q26,Q27,Q28,Nat.reduceLeDiff,Q29,Nat.reduceSub,Q30,Q31,Q32,sc,Q33,Q34,Q35,Q36,Q37,Q26,Q38,Q39,zel,zei,zef,zem,zbt,zej,zeg,zek,zeh,zbs,zbu,zen,zeo,Bool.not_true,Bool.not_false,List.length_map, ← l2, ← l3,q1,List.length_set] | (with_reducible refine zh ?_) | fail))
    refine zuP m1 ?_
    (repeat' (first | simp -dsimp only [↓zcR, ↓zal, ↓zaM, ↓zcS, ↓zcN, ↓zcL, ↓zcO, ↓zcM, ↓zaR, ↓zaN, ↓zaS, ↓zaO, ↓zcP, ↓zaL, ↓zaT, ↓zaP, ↓zaU, ↓zaQ, ↓zcK, ↓zcQ, ↓zaK, ↓zaV, ↓zcI, ↓zcH, ↓zcJ,iN,bT,bF,eN, ↓zbI, ↓unC, ↓zQ, ↓zF, ↓zG, ↓zI, ↓zR, ↓zap, ↓zbp, ↓zab, ↓zaX, ↓zP, ↓zp, ↓zm, ↓zbg, ↓zi, ↓zY, ↓zB, ↓zas, ↓zaw, ↓ze, ↓zC, ↓zr, ↓zt, ↓zad, ↓zbL, ↓zbY, ↓zaa, ↓zaj, ↓zau, ↓zaB, ↓zaD, ↓zl, ↓zZ, ↓zH, ↓zu, ↓zS,zcd,zaI,zaH,unA,zce,bnd,zcn,zX,zV,zcp,dm,dm1,zD,zag,zcy,zcx,zU,Q0,Q1,Q2,Q3,Q4,Q5,zO,zq,zw,zM,zE,Q6,Q7,Q8,Q9,Q10,Q11,Q12,Q13,Q14,Nat.reduceAdd,Q15,Int.reduceToNat,Q16,Q17,Q18,Q19,Q20,reduceIte,Q21,Q22,zx,rep,zT,zcv,toD,zW,Q23,Q24,Q25,Q26,Q27,Q28,Nat.reduceLeDiff,Q29,Nat.reduceSub,Q30,Q31,Q32,sc,Q33,Q34,Q35,Q36,Q37,Q26,Q38,Q39,zel,zei,zef,zem,zbt,zej,zeg,zek,zeh,zbs,zbu,zen,zeo,Bool.not_true,Bool.not_false,List.length_map,q1, ← l2, ← l3,List.length_set] | (with_reducible refine zh ?_) | fail))
    refine znL ?_
    (repeat' (first | simp -dsimp only [↓zcR, ↓zal, ↓zaM, ↓zcS, ↓zcN, ↓zcL, ↓zcO, ↓zcM, ↓zaR, ↓zaN, ↓zaS, ↓zaO, ↓zcP, ↓zaL, ↓zaT, ↓zaP, ↓zaU, ↓zaQ, ↓zcK, ↓zcQ, ↓zaK, ↓zaV, ↓zcI, ↓zcH, ↓zcJ,iN,bT,bF,eN, ↓zbI, ↓unC, ↓zQ, ↓zF, ↓zG, ↓zI, ↓zR, ↓zap, ↓zbp, ↓zab, ↓zaX, ↓zP, ↓zp, ↓zm, ↓zbg, ↓zi, ↓zY, ↓zB, ↓zas, ↓zaw, ↓ze, ↓zC, ↓zr, ↓zt, ↓zad, ↓zbL, ↓zbY, ↓zaa, ↓zaj, ↓zau, ↓zaB, ↓zaD, ↓zl, ↓zZ, ↓zH, ↓zu, ↓zS,zcd,zaI,zaH,unA,zce,bnd,zcn,zX,zV,zcp,dm,dm1,zD,zag,zcy,zcx,zU,Q0,Q1,Q2,Q3,Q4,Q5,zO,zq,zw,zM,zE,Q6,Q7,Q8,Q9,Q10,Q11,Q12,Q13,Q14,Nat.reduceAdd,Q15,Int.reduceToNat,Q16,Q17,Q18,Q19,Q20,reduceIte,Q21,Q22,zx,rep,zT,zcv,toD,zW,Q23,Q24,Q25,Q26,Q27,Q28,Nat.reduceLeDiff,Q29,Nat.reduceSub,Q30,Q31,Q32,sc,Q33,Q34,Q35,Q36,Q37,Q26,Q38,Q39,zel,zei,zef,zem,zbt,zej,zeg,zek,zeh,zbs,zbu,zen,zeo,Bool.not_true,Bool.not_false,List.length_map,q1, ← l2, ← l3,List.length_set] | (with_reducible refine zh ?_) | fail))
    refine zuY ?_
    (repeat' first | refine gq2 (zd q1 hw) ?_ | with_reducible first | exact ⟨⟩ | refine zh ?_ | fail)
    exact zav.next hlt ⟨rfl,M.2.2,m5,hE3.app _⟩
  ·(repeat' first | refine gq2 (zd d0 st1') ?_ | with_reducible first | exact ⟨⟩ | refine zh ?_ | fail)
   refine zqq (L := L) (l := s.bs ++ more) (c := c) (hE1.tab.app _) hL (by omega) hbs (by omega) ?_
   rw [hM,zlv hE1.tab,hS2]
   (repeat' (first | simp -dsimp only [↓zcR, ↓zal, ↓zaM, ↓zcS, ↓zcN, ↓zcL, ↓zcO, ↓zcM, ↓zaR, ↓zaN, ↓zaS, ↓zaO, ↓zcP, ↓zaL, ↓zaT, ↓zaP, ↓zaU, ↓zaQ, ↓zcK, ↓zcQ, ↓zaK, ↓zaV, ↓zcI, ↓zcH, ↓zcJ,iN,bT,bF,eN, ↓zbI, ↓unC, ↓zQ, ↓zF, ↓zG, ↓zI, ↓zR, ↓zap, ↓zbp, ↓zab, ↓zaX, ↓zP, ↓zp, ↓zm, ↓zbg, ↓zi, ↓zY, ↓zB, ↓zas, ↓zaw, ↓ze, ↓zC, ↓zr, ↓zt, ↓zad, ↓zbL, ↓zbY, ↓zaa, ↓zaj, ↓zau, ↓zaB, ↓zaD, ↓zl, ↓zZ, ↓zH, ↓zu, ↓zS,zcd,zaI,zaH,unA,zce,bnd,zcn,zX,zV,zcp,dm,dm1,zD,zag,zcy,zcx,zU,Q0,Q1,Q2,Q3,Q4,Q5,zO,zq,zw,zM,zE,Q6,Q7,Q8,Q9,Q10,Q11,Q12,Q13,Q14,Nat.reduceAdd,Q15,Int.reduceToNat,Q16,Q17,Q18,Q19,Q20,reduceIte,Q21,Q22,zx,rep,zT,zcv,toD,zW,Q23,Q24,Q25,Q26,Q27,Q28,Nat.reduceLeDiff,Q29,Nat.reduceSub,Q30,Q31,Q32,sc,Q33,Q34,Q35,Q36,Q37,Q26,Q38,Q39,zel,zei,zef,zem,zbt,zej,zeg,zek,zeh,zbs,zbu,zen,zeo,Bool.not_true,Bool.not_false,List.length_map, ← l2,st2,d2,hap,List.length_set] | (with_reducible refine zh ?_) | fail))
   refine ⟨?_, ?_⟩
   ·refine znK (L := L) (l := s.bs ++ more) (c := c) (zg hE2.xb) hL.len (by omega) hbs (by omega) ?_
    rw [hM,x3]
    (repeat' (first | simp -dsimp only [↓zcR, ↓zal, ↓zaM, ↓zcS, ↓zcN, ↓zcL, ↓zcO, ↓zcM, ↓zaR, ↓zaN, ↓zaS, ↓zaO, ↓zcP, ↓zaL, ↓zaT, ↓zaP, ↓zaU, ↓zaQ, ↓zcK, ↓zcQ, ↓zaK, ↓zaV, ↓zcI, ↓zcH, ↓zcJ,iN,bT,bF,eN, ↓zbI, ↓unC, ↓zQ, ↓zF, ↓zG, ↓zI, ↓zR, ↓zap, ↓zbp, ↓zab, ↓zaX, ↓zP, ↓zp, ↓zm, ↓zbg, ↓zi, ↓zY, ↓zB, ↓zas, ↓zaw, ↓ze, ↓zC, ↓zr, ↓zt, ↓zad, ↓zbL, ↓zbY, ↓zaa, ↓zaj, ↓zau, ↓zaB, ↓zaD, ↓zl, ↓zZ, ↓zH, ↓zu, ↓zS,zcd,zaI,zaH,unA,zce,bnd,zcn,zX,zV,zcp,dm,dm1,zD,zag,zcy,zcx,zU,Q0,Q1,Q2,Q3,Q4,Q5,zO,zq,zw,zM,zE,Q6,Q7,Q8,Q9,Q10,Q11,Q12,Q13,Q14,Nat.reduceAdd,Q15,Int.reduceToNat,Q16,Q17,Q18,Q19,Q20,reduceIte,Q21,Q22,zx,rep,zT,zcv,toD,zW,Q23,Q24,Q25,Q26,Q27,Q28,Nat.reduceLeDiff,Q29,Nat.reduceSub,Q30,Q31,Q32,sc,Q33,Q34,Q35,Q36,Q37,Q26,Q38,Q39,zel,zei,zef,zem,zbt,zej,zeg,zek,zeh,zbs,zbu,zen,zeo,Bool.not_true,Bool.not_false,List.length_map, ← l2, ← l3,q1,List.length_set] | (with_reducible refine zh ?_) | fail))
    refine zuP m1 ?_
    (repeat' (first | simp -dsimp only [↓zcR, ↓zal, ↓zaM, ↓zcS, ↓zcN, ↓zcL, ↓zcO, ↓zcM, ↓zaR, ↓zaN, ↓zaS, ↓zaO, ↓zcP, ↓zaL, ↓zaT, ↓zaP, ↓zaU, ↓zaQ, ↓zcK, ↓zcQ, ↓zaK, ↓zaV, ↓zcI, ↓zcH, ↓zcJ,iN,bT,bF,eN, ↓zbI, ↓unC, ↓zQ, ↓zF, ↓zG, ↓zI, ↓zR, ↓zap, ↓zbp, ↓zab, ↓zaX, ↓zP, ↓zp, ↓zm, ↓zbg, ↓zi, ↓zY, ↓zB, ↓zas, ↓zaw, ↓ze, ↓zC, ↓zr, ↓zt, ↓zad, ↓zbL, ↓zbY, ↓zaa, ↓zaj, ↓zau, ↓zaB, ↓zaD, ↓zl, ↓zZ, ↓zH, ↓zu, ↓zS,zcd,zaI,zaH,unA,zce,bnd,zcn,zX,zV,zcp,dm,dm1,zD,zag,zcy,zcx,zU,Q0,Q1,Q2,Q3,Q4,Q5,zO,zq,zw,zM,zE,Q6,Q7,Q8,Q9,Q10,Q11,Q12,Q13,Q14,Nat.reduceAdd,Q15,Int.reduceToNat,Q16,Q17,Q18,Q19,Q20,reduceIte,Q21,Q22,zx,rep,zT,zcv,toD,zW,Q23,Q24,Q25,Q26,Q27,Q28,Nat.reduceLeDiff,Q29,Nat.reduceSub,Q30,Q31,Q32,sc,Q33,Q34,Q35,Q36,Q37,Q26,Q38,Q39,zel,zei,zef,zem,zbt,zej,zeg,zek,zeh,zbs,zbu,zen,zeo,Bool.not_true,Bool.not_false,List.length_map,q1, ← l2, ← l3,List.length_set] | (with_reducible refine zh ?_) | fail))
    refine znL ?_
    (repeat' (first | simp -dsimp only [↓zcR, ↓zal, ↓zaM, ↓zcS, ↓zcN, ↓zcL, ↓zcO, ↓zcM, ↓zaR, ↓zaN, ↓zaS, ↓zaO, ↓zcP, ↓zaL, ↓zaT, ↓zaP, ↓zaU, ↓zaQ, ↓zcK, ↓zcQ, ↓zaK, ↓zaV, ↓zcI, ↓zcH, ↓zcJ,iN,bT,bF,eN, ↓zbI, ↓unC, ↓zQ, ↓zF, ↓zG, ↓zI, ↓zR, ↓zap, ↓zbp, ↓zab, ↓zaX, ↓zP, ↓zp, ↓zm, ↓zbg, ↓zi, ↓zY, ↓zB, ↓zas, ↓zaw, ↓ze, ↓zC, ↓zr, ↓zt, ↓zad, ↓zbL, ↓zbY, ↓zaa, ↓zaj, ↓zau, ↓zaB, ↓zaD, ↓zl, ↓zZ, ↓zH, ↓zu, ↓zS,zcd,zaI,zaH,unA,zce,bnd,zcn,zX,zV,zcp,dm,dm1,zD,zag,zcy,zcx,zU,Q0,Q1,Q2,Q3,Q4,Q5,zO,zq,zw,zM,zE,Q6,Q7,Q8,Q9,Q10,Q11,Q12,Q13,Q14,Nat.reduceAdd,Q15,Int.reduceToNat,Q16,Q17,Q18,Q19,Q20,reduceIte,Q21,Q22,zx,rep,zT,zcv,toD,zW,Q23,Q24,Q25,Q26,Q27,Q28,Nat.reduceLeDiff,Q29,Nat.reduceSub,Q30,Q31,Q32,sc,Q33,Q34,Q35,Q36,Q37,Q26,Q38,Q39,zel,zei,zef,zem,zbt,zej,zeg,zek,zeh,zbs,zbu,zen,zeo,Bool.not_true,Bool.not_false,List.length_map,q1, ← l2, ← l3,List.length_set] | (with_reducible refine zh ?_) | fail))
    refine zuY ?_
    (repeat' first | refine gq2 (zd q1 hw) ?_ | with_reducible first | exact ⟨⟩ | refine zh ?_ | fail)
    exact zav.next hlt ⟨rfl,M.2.2,m5,hE3.app _⟩
   ·(repeat' (first | simp -dsimp only [↓zcR, ↓zal, ↓zaM, ↓zcS, ↓zcN, ↓zcL, ↓zcO, ↓zcM, ↓zaR, ↓zaN, ↓zaS, ↓zaO, ↓zcP, ↓zaL, ↓zaT, ↓zaP, ↓zaU, ↓zaQ, ↓zcK, ↓zcQ, ↓zaK, ↓zaV, ↓zcI, ↓zcH, ↓zcJ,iN,bT,bF,eN, ↓zbI, ↓unC, ↓zQ, ↓zF, ↓zG, ↓zI, ↓zR, ↓zap, ↓zbp, ↓zab, ↓zaX, ↓zP, ↓zp, ↓zm, ↓zbg, ↓zi, ↓zY, ↓zB, ↓zas, ↓zaw, ↓ze, ↓zC, ↓zr, ↓zt, ↓zad, ↓zbL, ↓zbY, ↓zaa, ↓zaj, ↓zau, ↓zaB, ↓zaD, ↓zl, ↓zZ, ↓zH, ↓zu, ↓zS,zcd,zaI,zaH,unA,zce,bnd,zcn,zX,zV,zcp,dm,dm1,zD,zag,zcy,zcx,zU,Q0,Q1,Q2,Q3,Q4,Q5,zO,zq,zw,zM,zE,Q6,Q7,Q8,Q9,Q10,Q11,Q12,Q13,Q14,Nat.reduceAdd,Q15,Int.reduceToNat,Q16,Q17,Q18,Q19,Q20,reduceIte,Q21,Q22,zx,rep,zT,zcv,toD,zW,Q23,Q24,Q25,Q26,Q27,Q28,Nat.reduceLeDiff,Q29,Nat.reduceSub,Q30,Q31,Q32,sc,Q33,Q34,Q35,Q36,Q37,Q26,Q38,Q39,zel,zei,zef,zem,zbt,zej,zeg,zek,zeh,zbs,zbu,zen,zeo,Bool.not_true,Bool.not_false,List.length_map,st2,d2, ← l2,hap,List.length_set] | (with_reducible refine zh ?_) | fail))
    refine znK (L := L) (l := s.bs ++ more) (c := c) (zg hE2.xb) hL.len (by omega) hbs (by omega) ?_
    rw [hM,x3]
    (repeat' (first | simp -dsimp only [↓zcR, ↓zal, ↓zaM, ↓zcS, ↓zcN, ↓zcL, ↓zcO, ↓zcM, ↓zaR, ↓zaN, ↓zaS, ↓zaO, ↓zcP, ↓zaL, ↓zaT, ↓zaP, ↓zaU, ↓zaQ, ↓zcK, ↓zcQ, ↓zaK, ↓zaV, ↓zcI, ↓zcH, ↓zcJ,iN,bT,bF,eN, ↓zbI, ↓unC, ↓zQ, ↓zF, ↓zG, ↓zI, ↓zR, ↓zap, ↓zbp, ↓zab, ↓zaX, ↓zP, ↓zp, ↓zm, ↓zbg, ↓zi, ↓zY, ↓zB, ↓zas, ↓zaw, ↓ze, ↓zC, ↓zr, ↓zt, ↓zad, ↓zbL, ↓zbY, ↓zaa, ↓zaj, ↓zau, ↓zaB, ↓zaD, ↓zl, ↓zZ, ↓zH, ↓zu, ↓zS,zcd,zaI,zaH,unA,zce,bnd,zcn,zX,zV,zcp,dm,dm1,zD,zag,zcy,zcx,zU,Q0,Q1,Q2,Q3,Q4,Q5,zO,zq,zw,zM,zE,Q6,Q7,Q8,Q9,Q10,Q11,Q12,Q13,Q14,Nat.reduceAdd,Q15,Int.reduceToNat,Q16,Q17,Q18,Q19,Q20,reduceIte,Q21,Q22,zx,rep,zT,zcv,toD,zW,Q23,Q24,Q25,Q26,Q27,Q28,Nat.reduceLeDiff,Q29,Nat.reduceSub,Q30,Q31,Q32,sc,Q33,Q34,Q35,Q36,Q37,Q26,Q38,Q39,zel,zei,zef,zem,zbt,zej,zeg,zek,zeh,zbs,zbu,zen,zeo,Bool.not_true,Bool.not_false,List.length_map, ← l2, ← l3,q1,List.length_set] | (with_reducible refine zh ?_) | fail))
    refine zuP m1 ?_
    (repeat' (first | simp -dsimp only [↓zcR, ↓zal, ↓zaM, ↓zcS, ↓zcN, ↓zcL, ↓zcO, ↓zcM, ↓zaR, ↓zaN, ↓zaS, ↓zaO, ↓zcP, ↓zaL, ↓zaT, ↓zaP, ↓zaU, ↓zaQ, ↓zcK, ↓zcQ, ↓zaK, ↓zaV, ↓zcI, ↓zcH, ↓zcJ,iN,bT,bF,eN, ↓zbI, ↓unC, ↓zQ, ↓zF, ↓zG, ↓zI, ↓zR, ↓zap, ↓zbp, ↓zab, ↓zaX, ↓zP, ↓zp, ↓zm, ↓zbg, ↓zi, ↓zY, ↓zB, ↓zas, ↓zaw, ↓ze, ↓zC, ↓zr, ↓zt, ↓zad, ↓zbL, ↓zbY, ↓zaa, ↓zaj, ↓zau, ↓zaB, ↓zaD, ↓zl, ↓zZ, ↓zH, ↓zu, ↓zS,zcd,zaI,zaH,unA,zce,bnd,zcn,zX,zV,zcp,dm,dm1,zD,zag,zcy,zcx,zU,Q0,Q1,Q2,Q3,Q4,Q5,zO,zq,zw,zM,zE,Q6,Q7,Q8,Q9,Q10,Q11,Q12,Q13,Q14,Nat.reduceAdd,Q15,Int.reduceToNat,Q16,Q17,Q18,Q19,Q20,reduceIte,Q21,Q22,zx,rep,zT,zcv,toD,zW,Q23,Q24,Q25,Q26,Q27,Q28,Nat.reduceLeDiff,Q29,Nat.reduceSub,Q30,Q31,Q32,sc,Q33,Q34,Q35,Q36,Q37,Q26,Q38,Q39,zel,zei,zef,zem,zbt,zej,zeg,zek,zeh,zbs,zbu,zen,zeo,Bool.not_true,Bool.not_false,List.length_map,q1, ← l2, ← l3,List.length_set] | (with_reducible refine zh ?_) | fail))
    refine znL ?_
    (repeat' (first | simp -dsimp only [↓zcR, ↓zal, ↓zaM, ↓zcS, ↓zcN, ↓zcL, ↓zcO, ↓zcM, ↓zaR, ↓zaN, ↓zaS, ↓zaO, ↓zcP, ↓zaL, ↓zaT, ↓zaP, ↓zaU, ↓zaQ, ↓zcK, ↓zcQ, ↓zaK, ↓zaV, ↓zcI, ↓zcH, ↓zcJ,iN,bT,bF,eN, ↓zbI, ↓unC, ↓zQ, ↓zF, ↓zG, ↓zI, ↓zR, ↓zap, ↓zbp, ↓zab, ↓zaX, ↓zP, ↓zp, ↓zm, ↓zbg, ↓zi, ↓zY, ↓zB, ↓zas, ↓zaw, ↓ze, ↓zC, ↓zr, ↓zt, ↓zad, ↓zbL, ↓zbY, ↓zaa, ↓zaj, ↓zau, ↓zaB, ↓zaD, ↓zl, ↓zZ, ↓zH, ↓zu, ↓zS,zcd,zaI,zaH,unA,zce,bnd,zcn,zX,zV,zcp,dm,dm1,zD,zag,zcy,zcx,zU,Q0,Q1,Q2,Q3,Q4,Q5,zO,zq,zw,zM,zE,Q6,Q7,Q8,Q9,Q10,Q11,Q12,Q13,Q14,Nat.reduceAdd,Q15,Int.reduceToNat,Q16,Q17,Q18,Q19,Q20,reduceIte,Q21,Q22,zx,rep,zT,zcv,toD,zW,Q23,Q24,Q25,Q26,Q27,Q28,Nat.reduceLeDiff,Q29,Nat.reduceSub,Q30,Q31,Q32,sc,Q33,Q34,Q35,Q36,Q37,Q26,Q38,Q39,zel,zei,zef,zem,zbt,zej,zeg,zek,zeh,zbs,zbu,zen,zeo,Bool.not_true,Bool.not_false,List.length_map,q1, ← l2, ← l3,List.length_set] | (with_reducible refine zh ?_) | fail))
    refine zuY ?_
    (repeat' first | refine gq2 (zd q1 hw) ?_ | with_reducible first | exact ⟨⟩ | refine zh ?_ | fail)
    exact zav.next hlt ⟨rfl,M.2.2,m5,hE3.app _⟩
 ·have hd : decide ((k : Int) < ((s.cs.length + 1 : Nat) : Int)) = false := by simp; omega
  have x1 : S1[ρ.length + 1]? = some (zf.box [.d (.slice (zcU L))]) := hE1.xb
  have etl : (zcU L).length = L.length := List.length_map ..
  have eq : ((L.length : Int) == (L.length : Int)) = true := by simp
  (repeat' first | refine gq66 (zd hd (zd hcl (zd st1 x1))) ?_ | with_reducible first | exact ⟨⟩ | refine zh ?_ | fail)
  refine c_tLen hE1.tab ?_
  (repeat' first | refine gq2 (zd etl eq) ?_ | with_reducible first | exact ⟨⟩ | refine zh ?_ | fail)
  refine zre (zqA fun j x hx => hE1.rest j x (by rw [← hρ]; exact zg hx) (hσr x (List.mem_of_getElem? hx))) (by simp [zdj,dmT,dm,dm1,zbV]) hl rfl
end Go.Proofs.YtncpaekiidpchaaGreat
