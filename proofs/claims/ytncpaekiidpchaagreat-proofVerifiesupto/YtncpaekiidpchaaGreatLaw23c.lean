/- The law ProofVerifies, from the contracts. -/
import Derived.Test.YtncpaekiidpchaaGreatTr2
import Derived.Test.YtncpaekiidpchaaGreatNr3
import Derived.Test.YtncpaekiidpchaaGreatBase
set_option linter.all false
set_option maxRecDepth 100000
namespace Go.Proofs.YtncpaekiidpchaaGreat
open Go.AW
theorem zqS (L : List (List UInt8)) (b : List UInt8) : L <+: zfo L b := by
 unfold zfo
 split
 ·exact List.prefix_refl L
 ·split
  ·exact List.prefix_refl L
  ·exact List.prefix_append ..
theorem rootF_pre : ∀ (f : Nat) {L l : List (List UInt8)},l.length ≤ f → L <+: (zbM L l).2 := by
 intro f
 induction f with
 | zero =>
  intro L l hf
  have : l = [] := List.eq_nil_of_length_eq_zero (by omega)
  subst this
  exact zqS ..
 | succ f ih =>
  intro L l hf
  match l,hf with
  | [],_ => exact zqS ..
  | [x],_ => exact zqS ..
  | x :: y :: r,hf =>
   obtain ⟨l,hl⟩ : ∃ l,x :: y :: r = l := ⟨_,rfl⟩
   have h2 : 2 ≤ l.length := by rw [← hl]; simp
   rw [hl] at hf ⊢
   have hs := zbB h2
   rw [zrn h2]
   exact ((ih (l := l.take (zj l.length)) (by rw [List.length_take]; omega)).trans (ih (l := l.drop (zj l.length)) (by rw [List.length_drop]; omega))).trans (zqS ..)
theorem zpa : ∀ (f : Nat) {L : List (List UInt8)} {i : Nat} {l : List (List UInt8)},l.length ≤ f → L <+: (zbo f L i l).2
 | 0,L,i,l,hf => by rw [zif (by omega)]; exact List.prefix_refl L
 | f + 1,L,i,l,hf => by
  by_cases h1 : l.length ≤ 1
  ·rw [zif h1]; exact List.prefix_refl L
  ·have hs := zbB (n := l.length) (by omega)
   rw [zqU (by omega)]
   split
   ·exact (zpa f (by rw [List.length_take]; omega)).trans (rootF_pre _ (Nat.le_refl _))
   ·exact (zpa f (by rw [List.length_drop]; omega)).trans (rootF_pre _ (Nat.le_refl _))
theorem makeF_pre {L : List (List UInt8)} {l : List zdT} {c : zfk} {t : List UInt8} {o : Int} : L <+: (zdz L l c t o).2.2 := by
 unfold zdz
 split
 ·exact List.prefix_refl L
 ·split
  ·exact List.prefix_refl L
  ·exact zpa _ (by simp)
theorem begun_case' {σ : List zh} {c : zoz} (hq : okC c) {K : KT}
  (hK : ∀ S,StE σ (stF (ksF c) c.bats) (stF (ksF c) c.bats).L (stF (ksF c) c.bats).G S → K (.tup [.box (σ.length + 9) 0, .d (.bool true)]) S) : zy Tryz.prog zcx [caseA c] σ K :=
 c_begun23 hq.ops (by have := hq.sum; omega) hq.voters hK
theorem stF_I' {c : zoz} (hq : okC c) : StI 2000000 20 (stF (ksF c) c.bats) := by
 have h := foldSt (ks := ksF c) (bats := c.bats.take 20) st0I (fun l hl => hq.ops l (List.mem_of_mem_take hl)) (zmk _ _)
 have h1 := znC c.bats 20
 have h2 := hq.sum
 have h3 : (c.bats.take 20).length ≤ 20 := by rw [List.length_take]; omega
 exact ⟨h.tab,by have := h.led; rw [stF]; omega,h.ledI,h.tops,h.last,h.last8,h.bs,by have := h.bl; rw [stF]; omega,h.cs,by have := h.cl; rw [stF]; omega⟩
abbrev zjQ (l : List zaW) : List (List D) := l.map proofD
def zig : List (Bool × List Ty) := [(true,tyCase),(true,tyProof)]
set_option maxHeartbeats 2000000 in
theorem zpx (xs : List AV) (n : Nat) (hn : n ≤ 1048576) (h : ArgsOk zig xs n) : zy Tryz.prog zeL xs [] fun r _ => r = .d (.bool true) := by
 obtain ⟨ds,xs1,m1,hf,hb1,rfl,h⟩ := h
 obtain ⟨q,rfl,hq⟩ := dec_case hf (by omega)
 obtain ⟨ds,xs2,m2,hf,hb2,rfl,rfl⟩ := h
 obtain ⟨p,rfl,hp⟩ := dec_proof hf (by omega)
 show zy Tryz.prog zeL [caseA q,zeO p] [] _
 clear hf hb1 hb2
 obtain ⟨σ,hσ⟩ : ∃ σ : List zh,([] : List zh) = σ := ⟨_,rfl⟩
 have hσr : ∀ x ∈ σ, ∀ g sz cs,x ≠ .row g sz cs := by subst hσ; simp
 rw [hσ]
 clear hσ
 refine zi zhH.is rfl fun hl _ => zhH.goes ?_
 simp only [zhV,iN,bT,bF,eN]
 (repeat' first | refine gq1 ?_ | with_reducible first | exact ⟨⟩ | refine zg ?_ | fail)
 refine c_live23 (fun y hy => ?_) ?_
 ·rcases List.mem_append.1 hy with hy | hy
  ·exact hσr y hy
  ·simp only [List.mem_cons,List.not_mem_nil,or_false] at hy
   rcases hy with rfl | rfl <;> (intro _ _ _ e; cases e)
 (repeat' first | refine gq1 ?_ | with_reducible first | exact ⟨⟩ | refine zg ?_ | fail)
 obtain ⟨ρ,hρ⟩ : ∃ ρ, σ ++ [.box (zjt q),zmC p] = ρ := ⟨_,rfl⟩
 have r0 : ρ[σ.length]? = some (.box (zjt q)) := by rw [← hρ,zx]; rfl
 have r1 : ρ[σ.length + 1]? = some (zmC p) := by rw [← hρ,zq]; rfl
 have hlρ : ρ.length = σ.length + 2 := by rw [← hρ]; simp
 rw [hρ]
 refine begun_case' hq fun S hE => ?_
 have hI := stF_I' hq
 obtain ⟨s,hs⟩ : ∃ s,stF (ksF q) q.bats = s := ⟨_,rfl⟩
 rw [hs] at hE hI
 have st := hE.st
 have st' : ∀ τ,(S ++ τ)[_]? = _ := fun τ => zf hE.st
 have c1' := hE.rest _ _ r1 (fun _ _ _ e => by cases e)
 have hcl : (zgh s.cs).length = s.cs.length := List.length_map ..
 have i1 := hI.bl
 have i2 := hI.cl
 have hG : s.G.length ≤ 1073741824 := by have := hI.led; omega
 (repeat' first | refine gq2 (zc st (zc st' (zc c1' hcl))) ?_ | with_reducible first | exact ⟨⟩ | refine zg ?_ | fail)
 have hS9 := zH st
 obtain ⟨T0,hT0⟩ : ∃ T0,S.length = T0 := ⟨_,rfl⟩
 rw [hT0] at hS9
 have hw1 : zmS [.exact [proofD p], .d (.int .i64 0)] S [.own T0 (zjQ [p]), .d (.int .i64 0)] (S ++ [.tok 10 1]) := by
  refine .tok 0 [proofD p] 10 rfl (by intro e he; simp at he; subst he; rfl) ?_
  rw [hT0]
  exact .refl _ _
 refine zaI s.cs.length (fun k vs S => ∃ (L : List (List UInt8)) (ps : List zaW),vs = [.own T0 (zjQ ps), .d (.int .i64 k)] ∧ zkB L ∧ s.L <+: L ∧ StE ρ { s with L := L } s.L s.G S ∧ S[T0]? = some (.tok 10 ps.length) ∧ (∀ x ∈ ps,zdJ x) ∧ ps.length ≤ 2 * k + 1) hw1
  ⟨s.L, [p],rfl,hI.tab,List.prefix_refl _,hE.app _,by rw [← hT0,zx]; rfl,by simpa using hp.small,by simp⟩ ?_
 rintro k vs S1 hk ⟨L,ps,rfl,hL,hpre,hE1,hT1,hps,hpl⟩
 have st1 : S1[ρ.length + 9]? = _ := hE1.st
 have st1' : ∀ τ,(S1 ++ τ)[ρ.length + 9]? = _ := fun τ => zf hE1.st
 have d0 : ∀ τ,(S1 ++ τ)[σ.length]? = _ := fun τ => zf (hE1.rest _ _ r0 (fun _ _ _ e => by cases e))
 have hpe : (zjQ ps).length = ps.length := List.length_map ..
 by_cases hlt : k < s.cs.length
 ·have hd : decide ((k : Int) < (s.cs.length : Int)) = true := by simp; omega
  have hx1 : s.cs[k]? = some s.cs[k] := by simp [hlt]
  have hx3 := hI.cs _ (List.getElem_mem hlt)
  have hgx := zU (f := certD) hx1
  obtain ⟨c,hc⟩ : ∃ c,s.cs[k] = c := ⟨_,rfl⟩
  rw [hc] at hgx hx3
  obtain ⟨m1,m2,m3,m4,m5⟩ := zrD (L := L) (l := s.bs) (c := c) (t := q.topic) (o := q.offset) hL hI.bs (by omega) (by omega) (by have := hq.topic; omega) hq.offset
  have hpre2 := hpre.trans (makeF_pre (L := L) (l := s.bs) (c := c) (t := q.topic) (o := q.offset))
  obtain ⟨M,hM⟩ : ∃ M,zdz L s.bs c q.topic q.offset = M := ⟨_,rfl⟩
  rw [hM] at m1 m2 m3 m4 m5 hpre2
  have hw : IntKind.i64.wrap ((k : Int) + 1) = ((k + 1 : Nat) : Int) := by rw [zP (by omega) (by omega)]; rfl
  have tS : zdJ (zgS M.2.1 q.twists) := zmb m1 (by omega) m3 m4 (by have := hq.tl; omega) hq.twists
  have hE2 := hE1.x M.2.2
  have x2 : ∀ τ,(S1 ++ τ).set (ρ.length + 1) (rtO M.2.2) = S1.set (ρ.length + 1) (rtO M.2.2) ++ τ := fun τ => List.set_append_left _ _ (zH hE1.xb)
  have l2 : (S1.set (ρ.length + 1) (rtO M.2.2)).length = S1.length := List.length_set
  have hT2 := zd (rtO M.2.2) (i := ρ.length + 1) hT1 (by omega)
  obtain ⟨S2,hS2⟩ : ∃ S2,S1.set (ρ.length + 1) (rtO M.2.2) = S2 := ⟨_,rfl⟩
  rw [hS2] at hE2 l2 hT2
  simp only [hS2] at x2
  have d2 : ∀ τ,(S2 ++ τ)[σ.length]? = _ := fun τ => zf (hE2.rest _ _ r0 (fun _ _ _ e => by cases e))
  have t2 : ∀ τ,(S2 ++ τ)[T0]? = _ := fun τ => zf hT2
  have t2' : ∀ τ Y,(S2 ++ τ).set T0 Y = S2.set T0 Y ++ τ := fun τ Y => List.set_append_left _ _ (zH hT2)
  (repeat' first | refine gq59 (zc hd (zc hgx (zc hcl (zc st1 (zc st1' d0))))) ?_ | with_reducible first | exact ⟨⟩ | refine zg ?_ | fail)
  refine ⟨?_, ?_⟩
  ·refine c_r23Make (L := L) (l := s.bs) (c := c) (zf hE1.xb) hL.len (by omega) hI.bs (by omega) ?_
   rw [hM,x2]
   cases he : (M.1 == 0)
   ·(repeat' first | refine gq2 (zc he hw) ?_ | with_reducible first | exact ⟨⟩ | refine zg ?_ | fail)
    exact zap.next hlt ⟨M.2.2,ps,rfl,m5,hpre2,hE2.app _,t2 _,hps,by omega⟩
   ·(repeat' first | refine gq2 (zc he d2) ?_ | with_reducible first | exact ⟨⟩ | refine zg ?_ | fail)
    refine ziw (p := M.2.1) (l := q.twists) m1.headers m1.path m1.signs (by have := hq.tl; omega) ?_
    (repeat' (first | simp -dsimp only [↓zen, ↓zaw, ↓zba, ↓zeo, ↓zej, ↓zeh, ↓zek, ↓zei, ↓zbf, ↓zbb, ↓zbg, ↓zbc, ↓zel, ↓zaZ, ↓zbh, ↓zbd, ↓zbi, ↓zbe, ↓zeg, ↓zem, ↓zaY, ↓zbj, ↓zee, ↓zed, ↓zef,iN,bT,bF,eN, ↓zcI, ↓unC, ↓zV, ↓zJ, ↓zK, ↓zN, ↓zaa, ↓zas, ↓zbH, ↓zah, ↓zaV, ↓zQ, ↓zp, ↓zo, ↓zbr, ↓zk, ↓zag, ↓zG, ↓zaB, ↓zaF, ↓ze, ↓zE, ↓zr, ↓zw, ↓zam, ↓zcs, ↓zcM, ↓zak, ↓zat, ↓zaE, ↓zaJ, ↓zaP, ↓zu, ↓zai, ↓zL, ↓zA, ↓zab,zcT,zaU,zaT,unA,zcW,bnd,zds,zae,zR,zdv,dm,dm1,zC,zaj,zdH,zdG,zM,Q0,Q1,Q2,Q3,Q4,Q5,zT,zq,zx,zO,zI,Q6,Q7,Q8,Q9,Q10,Q11,Q12,Q13,Q14,Nat.reduceAdd,Q15,Int.reduceToNat,Q16,Q17,Q18,Q19,Q20,reduceIte,Q21,Q22,zF,rep,zY,zdD,toD,zad,Q23,Q24,Q25,Q26,Q27,Q28,Nat.reduceLeDiff,Q29,Nat.reduceSub,Q30,Q31,Q32,sc,Q33,Q34,Q35,Q36,Q37,Q26,Q38,Q39,zfZ,zfW,zfT,zga,zbR,zfX,zfU,zfY,zfV,zbQ,zbS,zgb,zgc,Bool.not_true,Bool.not_false,List.length_map,he,hw,t2,t2',hpe, ← l2,List.length_set] | (with_reducible refine zg ?_) | fail))
    refine zap.next hlt ⟨M.2.2,ps ++ [M.2.1,zgS M.2.1 q.twists],by rw [show zjQ (ps ++ [M.2.1,zgS M.2.1 q.twists]) = zjQ ps ++ zjQ [M.2.1,zgS M.2.1 q.twists] from List.map_append ..]; rfl,m5,hpre2,(hE2.oth (by omega) _).app _, ?_, ?_,by simp; omega⟩
    ·rw [zf (List.getElem?_set_self (zH hT2))]; simp
    ·intro x hx
     rcases List.mem_append.1 hx with hx | hx
     ·exact hps x hx
     ·simp only [List.mem_cons,List.not_mem_nil,or_false] at hx
      rcases hx with rfl | rfl
      ·exact m1
      ·exact tS
  ·(repeat' first | refine gq2 (zc st1' d0) ?_ | with_reducible first | exact ⟨⟩ | refine zg ?_ | fail)
   refine c_r23Make (L := L) (l := s.bs) (c := c) (zf hE1.xb) hL.len (by omega) hI.bs (by omega) ?_
   rw [hM,x2]
   cases he : (M.1 == 0)
   ·(repeat' (first | simp -dsimp only [↓zen, ↓zaw, ↓zba, ↓zeo, ↓zej, ↓zeh, ↓zek, ↓zei, ↓zbf, ↓zbb, ↓zbg, ↓zbc, ↓zel, ↓zaZ, ↓zbh, ↓zbd, ↓zbi, ↓zbe, ↓zeg, ↓zem, ↓zaY, ↓zbj, ↓zee, ↓zed, ↓zef,iN,bT,bF,eN, ↓zcI, ↓unC, ↓zV, ↓zJ, ↓zK, ↓zN, ↓zaa, ↓zas, ↓zbH, ↓zah, ↓zaV, ↓zQ, ↓zp, ↓zo, ↓zbr, ↓zk, ↓zag, ↓zG, ↓zaB, ↓zaF, ↓ze, ↓zE, ↓zr, ↓zw, ↓zam, ↓zcs, ↓zcM, ↓zak, ↓zat, ↓zaE, ↓zaJ, ↓zaP, ↓zu, ↓zai, ↓zL, ↓zA, ↓zab,zcT,zaU,zaT,unA,zcW,bnd,zds,zae,zR,zdv,dm,dm1,zC,zaj,zdH,zdG,zM,Q0,Q1,Q2,Q3,Q4,Q5,zT,zq,zx,zO,zI,Q6,Q7,Q8,Q9,Q10,Q11,Q12,Q13,Q14,Nat.reduceAdd,Q15,Int.reduceToNat,Q16,Q17,Q18,Q19,Q20,reduceIte,Q21,Q22,zF,rep,zY,zdD,toD,zad,Q23,Q24,Q25,Q26,Q27,Q28,Nat.reduceLeDiff,Q29,Nat.reduceSub,Q30,Q31,Q32,sc,Q33,Q34,Q35,Q36,Q37,Q26,Q38,Q39,zfZ,zfW,zfT,zga,zbR,zfX,zfU,zfY,zfV,zbQ,zbS,zgb,zgc,Bool.not_true,Bool.not_false,List.length_map,he,hw, ← l2,List.length_set] | (with_reducible refine zg ?_) | fail))
    exact zap.next hlt ⟨M.2.2,ps,rfl,m5,hpre2,hE2.app _,t2 _,hps,by omega⟩
   ·(repeat' (first | simp -dsimp only [↓zen, ↓zaw, ↓zba, ↓zeo, ↓zej, ↓zeh, ↓zek, ↓zei, ↓zbf, ↓zbb, ↓zbg, ↓zbc, ↓zel, ↓zaZ, ↓zbh, ↓zbd, ↓zbi, ↓zbe, ↓zeg, ↓zem, ↓zaY, ↓zbj, ↓zee, ↓zed, ↓zef,iN,bT,bF,eN, ↓zcI, ↓unC, ↓zV, ↓zJ, ↓zK, ↓zN, ↓zaa, ↓zas, ↓zbH, ↓zah, ↓zaV, ↓zQ, ↓zp, ↓zo, ↓zbr, ↓zk, ↓zag, ↓zG, ↓zaB, ↓zaF, ↓ze, ↓zE, ↓zr, ↓zw, ↓zam, ↓zcs, ↓zcM, ↓zak, ↓zat, ↓zaE, ↓zaJ, ↓zaP, ↓zu, ↓zai, ↓zL, ↓zA, ↓zab,zcT,zaU,zaT,unA,zcW,bnd,zds,zae,zR,zdv,dm,dm1,zC,zaj,zdH,zdG,zM,Q0,Q1,Q2,Q3,Q4,Q5,zT,zq,zx,zO,zI,Q6,Q7,Q8,Q9,Q10,Q11,Q12,Q13,Q14,Nat.reduceAdd,Q15,Int.reduceToNat,Q16,Q17,Q18,Q19,Q20,reduceIte,Q21,Q22,zF,rep,zY,zdD,toD,zad,Q23,Q24,Q25,Q26,Q27,Q28,Nat.reduceLeDiff,Q29,Nat.reduceSub,Q30,Q31,Q32,sc,Q33,Q34,Q35,Q36,Q37,Q26,Q38,Q39,zfZ,zfW,zfT,zga,zbR,zfX,zfU,zfY,zfV,zbQ,zbS,zgb,zgc,Bool.not_true,Bool.not_false,List.length_map,he,d2, ← l2,List.length_set] | (with_reducible refine zg ?_) | fail))
    refine ziw (p := M.2.1) (l := q.twists) m1.headers m1.path m1.signs (by have := hq.tl; omega) ?_
    (repeat' (first | simp -dsimp only [↓zen, ↓zaw, ↓zba, ↓zeo, ↓zej, ↓zeh, ↓zek, ↓zei, ↓zbf, ↓zbb, ↓zbg, ↓zbc, ↓zel, ↓zaZ, ↓zbh, ↓zbd, ↓zbi, ↓zbe, ↓zeg, ↓zem, ↓zaY, ↓zbj, ↓zee, ↓zed, ↓zef,iN,bT,bF,eN, ↓zcI, ↓unC, ↓zV, ↓zJ, ↓zK, ↓zN, ↓zaa, ↓zas, ↓zbH, ↓zah, ↓zaV, ↓zQ, ↓zp, ↓zo, ↓zbr, ↓zk, ↓zag, ↓zG, ↓zaB, ↓zaF, ↓ze, ↓zE, ↓zr, ↓zw, ↓zam, ↓zcs, ↓zcM, ↓zak, ↓zat, ↓zaE, ↓zaJ, ↓zaP, ↓zu, ↓zai, ↓zL, ↓zA, ↓zab,zcT,zaU,zaT,unA,zcW,bnd,zds,zae,zR,zdv,dm,dm1,zC,zaj,zdH,zdG,zM,Q0,Q1,Q2,Q3,Q4,Q5,zT,zq,zx,zO,zI,Q6,Q7,Q8,Q9,Q10,Q11,Q12,Q13,Q14,Nat.reduceAdd,Q15,Int.reduceToNat,Q16,Q17,Q18,Q19,Q20,reduceIte,Q21,Q22,zF,rep,zY,zdD,toD,zad,Q23,Q24,Q25,Q26,Q27,Q28,Nat.reduceLeDiff,Q29,Nat.reduceSub,Q30,Q31,Q32,sc,Q33,Q34,Q35,Q36,Q37,Q26,Q38,Q39,zfZ,zfW,zfT,zga,zbR,zfX,zfU,zfY,zfV,zbQ,zbS,zgb,zgc,Bool.not_true,Bool.not_false,List.length_map,he,hw,t2,t2',hpe, ← l2,List.length_set] | (with_reducible refine zg ?_) | fail))
    refine zap.next hlt ⟨M.2.2,ps ++ [M.2.1,zgS M.2.1 q.twists],by rw [show zjQ (ps ++ [M.2.1,zgS M.2.1 q.twists]) = zjQ ps ++ zjQ [M.2.1,zgS M.2.1 q.twists] from List.map_append ..]; rfl,m5,hpre2,(hE2.oth (by omega) _).app _, ?_, ?_,by simp; omega⟩
    ·rw [zf (List.getElem?_set_self (zH hT2))]; simp
    ·intro x hx
     rcases List.mem_append.1 hx with hx | hx
     ·exact hps x hx
     ·simp only [List.mem_cons,List.not_mem_nil,or_false] at hx
      rcases hx with rfl | rfl
      ·exact m1
      ·exact tS
 ·have hd : decide ((k : Int) < (s.cs.length : Int)) = false := by simp; omega
  have x1 : S1[ρ.length + 1]? = some (zh.box [.d (.slice (zcy L))]) := hE1.xb
  have etl : (zcy L).length = L.length := List.length_map ..
  have hlen := hL.len
  have hple := hpre.length_le
  clear hw1 hT1
  (repeat' first | refine gq2 (zc hd (zc hcl (zc st1 (zc x1 etl)))) ?_ | with_reducible first | exact ⟨⟩ | refine zg ?_ | fail)
  refine zB (L.length - s.L.length) (fun m vs S => vs = [.d (.int .i64 L.length)] ∧ StE ρ { s with L := L } (L.take (s.L.length + m)) s.G S) ⟨rfl,by rw [Nat.add_zero,List.prefix_iff_eq_take.1 hpre]; rw [List.length_take,Nat.min_eq_left hple]; rw [← List.prefix_iff_eq_take.1 hpre]; exact hE1⟩ ?_
  rintro m vs S2 hm ⟨rfl,hE2⟩
  have st2 : S2[ρ.length + 9]? = _ := hE2.st
  have x2 : S2[ρ.length + 1]? = some (zh.box [.d (.slice (zcy L))]) := hE2.xb
  have htl : (L.take (s.L.length + m)).length = s.L.length + m := by rw [List.length_take]; omega
  (repeat' first | refine gq2 st2 ?_ | with_reducible first | exact ⟨⟩ | refine zg ?_ | fail)
  refine c_tLen hE2.tab ?_
  rw [htl]
  by_cases hlt2 : s.L.length + m < L.length
  ·have hd : decide ((L.length : Int) > ((s.L.length + m : Nat) : Int)) = true := decide_eq_true (by omega)
   have hx : L[s.L.length + m]? = some L[s.L.length + m] := by simp [hlt2]
   have hgx := zU (f := fun b => [D.slice (bcs b)]) hx
   have hxb := hL.each _ (List.getElem_mem hlt2)
   obtain ⟨x,hxe⟩ : ∃ x,L[s.L.length + m] = x := ⟨_,rfl⟩
   rw [hxe] at hx hgx hxb
   (repeat' first | refine gq2 (zc hd (zc st2 x2)) ?_ | with_reducible first | exact ⟨⟩ | refine zg ?_ | fail)
   refine c_tLen hE2.tab ?_
   rw [htl]
   (repeat' first | refine gq2 (zc hd (zc st2 (zc x2 hgx))) ?_ | with_reducible first | exact ⟨⟩ | refine zg ?_ | fail)
   refine zso hE2.tab hxb (by omega) ?_
   rw [zqR hL.nd hL.len hx]
   have hE3 := hE2.putT (L.take (s.L.length + m + 1))
   obtain ⟨S3,hS3⟩ : ∃ S3,putTab S2 (ρ.length + 4) (ρ.length + 3) (ρ.length + 5) (L.take (s.L.length + m + 1)) = S3 := ⟨_,rfl⟩
   rw [hS3] at hE3 ⊢
   have st3 : S3[ρ.length + 9]? = _ := hE3.st
   have x3 : S3[ρ.length + 1]? = some (zh.box [.d (.slice (zcy L))]) := hE3.xb
   (repeat' first | refine gq2 (zc st3 (zc x3 etl)) ?_ | with_reducible first | exact ⟨⟩ | refine zg ?_ | fail)
   exact zap.next (by omega) ⟨rfl,hE3⟩
  ·have hd : decide ((L.length : Int) > ((s.L.length + m : Nat) : Int)) = false := decide_eq_false (by omega)
   have hml : s.L.length + m = L.length := by omega
   rw [hml,List.take_length] at hE2
   (repeat' first | refine gq2 (zc hd st2) ?_ | with_reducible first | exact ⟨⟩ | refine zg ?_ | fail)
   refine c_tLen hE2.tab ?_
   (repeat' first | refine gq2 st2 ?_ | with_reducible first | exact ⟨⟩ | refine zg ?_ | fail)
   refine c_gLen hE2.led ?_
   (repeat' first | refine gq2 hpe ?_ | with_reducible first | exact ⟨⟩ | refine zg ?_ | fail)
   refine zB ps.length (fun k vs S => vs = [.d (.int .i64 k)] ∧ StE ρ { s with L := L } L s.G S) ⟨rfl,hE2⟩ ?_
   rintro j vs S4 hj ⟨rfl,hE4⟩
   have st4 : S4[ρ.length + 9]? = _ := hE4.st
   have st4' : ∀ τ,(S4 ++ τ)[ρ.length + 9]? = _ := fun τ => zf hE4.st
   have d4 : ∀ τ,(S4 ++ τ)[σ.length]? = _ := fun τ => zf (hE4.rest _ _ r0 (fun _ _ _ e => by cases e))
   by_cases hlt3 : j < ps.length
   ·have hd : decide ((j : Int) < (ps.length : Int)) = true := by simp; omega
    have hx1 : ps[j]? = some ps[j] := by simp [hlt3]
    have hx3 := hps _ (List.getElem_mem hlt3)
    have hgx := zU (f := proofD) hx1
    obtain ⟨x,hc⟩ : ∃ x,ps[j] = x := ⟨_,rfl⟩
    rw [hc] at hgx hx3
    have hw : IntKind.i64.wrap ((j : Int) + 1) = ((j + 1 : Nat) : Int) := by rw [zP (by omega) (by omega)]; rfl
    have q1 : ∀ x : Int,(x != x) = false := fun x => by simp
    (repeat' first | refine gq2 (zc hd (zc hgx (zc hpe (zc st4 (zc st4' d4))))) ?_ | with_reducible first | exact ⟨⟩ | refine zg ?_ | fail)
    refine zdZ (p := x) (f := q.f) (hE4.tab.app _) (hE4.led.app _) hL hG hx3 ?_
    (repeat' first | refine gq2 (zc st4' d4) ?_ | with_reducible first | exact ⟨⟩ | refine zg ?_ | fail)
    refine c_r23Verify (p := x) (f := q.f) (L := L) (G := s.G) (zf hE4.xb) (zf hE4.yb) hL.len hG hx3 ?_
    (repeat' first | refine gq2 (zc q1 hw) ?_ | with_reducible first | exact ⟨⟩ | refine zg ?_ | fail)
    exact zap.next hlt3 ⟨rfl,hE4.app _⟩
   ·have hd : decide ((j : Int) < (ps.length : Int)) = false := by simp; omega
    have eq1 : ((L.length : Int) == (L.length : Int)) = true := by simp
    have eq2 : ((s.G.length : Int) == (s.G.length : Int)) = true := by simp
    (repeat' first | refine gq2 (zc hd (zc hpe st4)) ?_ | with_reducible first | exact ⟨⟩ | refine zg ?_ | fail)
    refine c_tLen hE4.tab ?_
    (repeat' first | refine gq2 (zc eq1 st4) ?_ | with_reducible first | exact ⟨⟩ | refine zg ?_ | fail)
    refine c_gLen hE4.led ?_
    (repeat' first | refine gq2 eq2 ?_ | with_reducible first | exact ⟨⟩ | refine zg ?_ | fail)
    refine zrQ (zrj fun j x hx => hE4.rest j x (by rw [← hρ]; exact zf hx) (hσr x (List.mem_of_getElem? hx))) (by simp [zcZ,dmT,dm,dm1,zcf]) hl rfl
end Go.Proofs.YtncpaekiidpchaaGreat

/- ProofVerifies: for every input of bulk at most 1048576 the law answers true and leaves its arguments as they were. No condition beside the given row's. -/
set_option maxRecDepth 100000
namespace Go.Proofs.YtncpaekiidpchaaGreat
open Go.AW Go.ChangeShapes Go.WideShapes Go.ChangeAt Go.RowKit
theorem zne {H : Type} {enc : TypeId × Value → H} {P : Program} {w : World} {sp : Nat → Bool} {held : Bool} {vs : List Value} {ds gs : List (DataW H)} {ps : List MemPlace} {ts : List TypeId} (hl : ts.length = 2)
  (h : DataW.TrodAll enc P w 0 sp held ts vs ds ps) (hg : gs = []) : (Rows.proofVerifiesSpec).fn H (ds ++ gs) = { results := [.lit (.bool true)],args := ds } := by
 subst hg
 have hd : ds.length = 2 := by
  have : ∀ (ts : List TypeId) (vs : List Value) (ds : List (DataW H)) (ps : List MemPlace),DataW.TrodAll enc P w 0 sp held ts vs ds ps → ds.length = ts.length := by
   intro ts
   induction ts with
   | nil => intro vs ds ps h; cases vs <;> cases ds <;> simp [DataW.TrodAll] at h ⊢
   | cons t ts ih =>
    intro vs ds ps h
    obtain ⟨v,vs',d,ds',p,q,rfl,rfl,rfl,h1,h2⟩ := trodAll_cons h
    simp [ih vs' ds' q h2]
  rw [this ts vs ds ps h,hl]
 rw [List.append_nil]
 match ds,hd with
 | [_,_],_ => rfl
theorem zmv (os : Os) (started : os.Started) (H : Type) (enc : TypeId × Value → H) (F : Stop.Interp) :
  ReturnsInHanded {} Tryz.checked os 3 .any ((Rows.OpenSpec.upto Rows.proofVerifiesSpec).pre6 enc Tryz.prog Tryz.f3 Rows.proofVerifiesUptoRow.domain false) (((Rows.OpenSpec.upto Rows.proofVerifiesSpec).at F).post enc Tryz.prog Tryz.f3 false true false false) := by
 refine returnsInHanded_of_cond (C := Tryz.checked) (s := Rows.OpenSpec.upto Rows.proofVerifiesSpec) (k := Rows.uptoSmall) rfl own started (by kernel_rfl) Tryz.func3
  (OpenSpec.witness (enc := enc) (C := Tryz.checked) (s := Rows.OpenSpec.upto Rows.proofVerifiesSpec) (k := Rows.uptoSmall) rfl false ⟨#[], #[(.agg #[(.int .i64 0),(.slice none 0 0),(.int .u16 0),(.slice none 0 0),(.string .empty),(.int .i64 0),(.slice none 0 0)]),(.agg #[(.string .empty),(.int .i64 0),(.slice none 0 0),(.slice none 0 0),(.int .i64 0),(.int .i64 0),(.slice none 0 0),(.int .i64 0),(.int .i64 0),(.slice none 0 0)])], []⟩ 24 (by kernel_rfl) (by kernel_rfl) (by kernel_rfl)
   (x := ([(.agg [(.lit (.int .i64 0)), .nil,(.lit (.int .u16 0)), .nil,(.lit (.string [])),(.lit (.int .i64 0)), .nil]),(.agg [(.lit (.string [])),(.lit (.int .i64 0)), .nil, .nil,(.lit (.int .i64 0)),(.lit (.int .i64 0)), .nil,(.agg [(.lit (.int .i64 0)),(.lit (.int .i64 0)), .nil])])], [], [])) (by kernel_rfl) rfl (by kernel_rfl)) ?_
 intro W base args ds gs before hval hW _ hk _
 have hW0 : DataW.Whole enc Tryz.prog Tryz.f3.params.toList (Rows.proofVerifiesSpec).vars false W args.toList ds gs before := hW
 have hg : gs = [] := by
  obtain ⟨p,q,hA,hV,_⟩ := hW0
  cases gs with
  | nil => rfl
  | cons => simp [Rows.proofVerifiesSpec,DataW.TrodVars] at hV
 refine law_calls isBulk hval hW0 (pars := zig) (by kernel_rfl) rfl (by obtain ⟨p,q,hA,_⟩ := hW0; exact zne (by kernel_rfl) hA hg) laidOut mapsLaid slicesFull (by kernel_rfl) (tb := 4) (by kernel_rfl) (by kernel_rfl) fun xs has => zpx xs _ ?_ has
 have := small hk
 rw [hg,List.append_nil] at this
 exact this
theorem proofVerifies_upto : Rows.ProofVerifiesUptoSaid :=
 OpenClaim.holds_of_cond 3 Tryz.f3 rfl rfl rfl rfl rfl rfl rfl ⟨rfl,rfl,rfl,rfl,rfl⟩ rfl rfl rfl rfl rfl (by kernel_rfl) Tryz.func3 (by kernel_rfl)
  (of_decide_eq_true (by kernel_rfl)) (by unfold Func.isWrapper; first | (rw [if_pos (by decide +kernel)]; kernel_rfl) | (rw [if_neg (by decide +kernel)]; exact ⟨rfl,rfl⟩))
  (fun os started H enc _ F => zmv os started H enc F)
end Go.Proofs.YtncpaekiidpchaaGreat
