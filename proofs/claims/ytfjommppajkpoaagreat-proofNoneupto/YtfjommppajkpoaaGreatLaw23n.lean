/- The law ProofNone, from the contracts. -/
import Derived.Test.YtfjommppajkpoaaGreatLv3
import Derived.Test.YtfjommppajkpoaaGreatBase
set_option linter.all false
set_option maxRecDepth 100000
namespace Go.Proofs.YtfjommppajkpoaaGreat
open Go.AW
def zmc : List (Bool × List Ty) := [(false, [.int .i64]),(true,tyProof)]
theorem gq46 {A P Q : Prop} (a : A) (h : Q) (e : A → Hd Q → P := by intro a h; (repeat' first | simp -dsimp only [↓zgr, ↓zaF, ↓zbL, ↓zgt, ↓zgn, ↓zgl, ↓zgo, ↓zgm, ↓zbR, ↓zbN, ↓zbS, ↓zbO, ↓zgp, ↓zbJ, ↓zbT, ↓zbP, ↓zbU, ↓zbQ, ↓zgj, ↓zgq, ↓zbI, ↓zbX, ↓zgc, ↓zgb, ↓zgi,iN,bT,bF,eN, ↓zdN, ↓unC, ↓zac, ↓zQ, ↓zR, ↓zV, ↓zak, ↓zau, ↓zco, ↓zag, ↓zaJ, ↓zW, ↓zp, ↓zo, ↓zbF, ↓zl, ↓zan, ↓zF, ↓zaM, ↓zaW, ↓ze, ↓zC, ↓zu, ↓zy, ↓zav, ↓zdr, ↓zdU, ↓zat, ↓zaB, ↓zaU, ↓zbk, ↓zbv, ↓zD, ↓zaq, ↓zS, ↓zE, ↓zam,zeb,zbD,zbB,unA,zei,bnd,zeF,zai,zP,zeE,dm,dm1,zB,zal,zfg,zff,zx,Q0,Q1,Q2,Q3,Q4,Q5,zZ,zh,zm,zT,zN,Q6,Q7,Q8,Q9,Q10,Q11,Q12,Q13,Q14,Nat.reduceAdd,Q15,Int.reduceToNat,Q16,Q17,Q18,Q19,Q20,reduceIte,Q21,Q22,zH,rep,zX,zfc,toD,zah,Q23,Q24,Q25,Q26,Q27,Q28,Nat.reduceLeDiff,Q29,Nat.reduceSub,Q30,Q31,Q32,sc,Q33,Q34,Q35,Q36,Q37,Q26,Q38,Q39,zkn,zkk,zkh,zko,zdu,zkl,zki,zkm,zkj,zdt,zdv,zkp,zkq,Bool.not_true,Bool.not_false,List.length_map,noProof,a] | with_reducible refine zkr ?_ | fail); exact h.go) : P := e a ⟨h⟩
set_option maxHeartbeats 800000 in
theorem zuG (xs : List AV) (n : Nat) (hn : n ≤ 1048576) (h : ArgsOk zmc xs n) : zq Tryz.prog zhr xs [] fun r _ => r = .d (.bool true) := by
 obtain ⟨ds,xs1,m1,hf1,hb1,rfl,h⟩ := h
 obtain ⟨d,rfl,h1⟩ := one_of hf1
 obtain ⟨f,rfl,_⟩ := zeW h1
 obtain ⟨ds,xs2,m2,hf2,hb2,rfl,rfl⟩ := h
 obtain ⟨p,rfl,hp⟩ := dec_proof hf2 (by omega)
 show zq Tryz.prog zhr [.d (.int .i64 f),zcp p] [] _
 clear hf1 hf2 hb1 hb2 h1
 obtain ⟨σ,hσ⟩ : ∃ σ : List zg,([] : List zg) = σ := ⟨_,rfl⟩
 have hσr : ∀ x ∈ σ, ∀ g sz cs,x ≠ .row g sz cs := by subst hσ; simp
 rw [hσ]
 refine zga zrC fun hl => ?_
 have fin : ∀ S,AW.Ends σ.length (fun r _ => r = .d (.bool true)) (some [.d (.bool true)]) S := fun S =>
  zrq (by rw [← hσ]; rfl) (by simp [zcO,dmT,dm,dm1,zbY]) hl rfl
 simp only [zlo,iN,bT,bF,eN,zl0]
 refine gq1 ?_
 refine c_live23 (fun y hy => ?_) ?_
 ·rcases List.mem_append.1 hy with hy | hy
  ·exact hσr y hy
  ·simp only [List.mem_cons,List.not_mem_nil,or_false] at hy
   subst hy; intro _ _ _ e; cases e
 obtain ⟨S0,hS0⟩ : ∃ S0, σ ++ [zhe p] = S0 := ⟨_,rfl⟩
 have g0 : ∀ τ,(S0 ++ τ)[σ.length]? = some (zhe p) := fun τ => zf (by rw [← hS0,zm]; rfl)
 have g00 : S0[σ.length]? = some (zhe p) := by have := g0 []; rwa [List.append_nil] at this
 rw [hS0]
 refine gq2 (zc g0 g00) ?_
 refine c_mkNil (c := p.cert) ?_
 refine gq46 (zc g0 (zc g00 (zc (show ((2 : Int) == 2) = true from rfl) (show (true == true) = true from rfl)))) ?_
 refine zbn ?_
 refine gq2 (zc g0 g00) ?_
 refine c_vNilT (p := p) ?_
 refine gq2 (zc g0 (zc g00 (zc (show ((2 : Int) == 2) = true from rfl) (show (true == true) = true from rfl)))) ?_
 obtain ⟨S1,hS1⟩ : ∃ S1,S0 ++ zg.box [AV.d (D.str []),AV.d (D.int IntKind.i64 0),AV.d (D.slice []),AV.d (D.slice []),AV.d (D.int IntKind.i64 0),AV.d (D.int IntKind.i64 0),AV.d (D.slice []),AV.d (D.int IntKind.i64 0),AV.d (D.int IntKind.i64 0),AV.d (D.slice [])] :: ledO (S0.length + 1) [] = S1 := ⟨_,rfl⟩
 have g1 : ∀ τ,(S1 ++ τ)[σ.length]? = some (zhe p) := fun τ => zf (by rw [← hS1]; exact g0 _)
 have g11 : S1[σ.length]? = some (zhe p) := by have := g1 []; rwa [List.append_nil] at this
 rw [hS1]
 refine zeD ?_
 have hT : zcd (S1 ++ zup S1.length []) (S1.length + 1) S1.length (S1.length + 2) [] := ⟨by rw [zh]; rfl,by rw [zm]; rfl,by rw [zh]; rfl⟩
 obtain ⟨R,hR⟩ : ∃ R,S1 ++ zup S1.length [] = R := ⟨_,rfl⟩
 have r0 : ∀ τ,(R ++ τ)[σ.length]? = some (zhe p) := fun τ => zf (by rw [← hR]; exact g1 _)
 have r00 : R[σ.length]? = some (zhe p) := by have := r0 []; rwa [List.append_nil] at this
 rw [hR] at hT ⊢
 refine gq2 (zc r0 (zc r00 g11)) ?_
 refine c_vNilG (p := p) hT ?_
 refine gq2 (zc r0 (zc r00 (zc (show ((2 : Int) == 2) = true from rfl) (show (true == true) = true from rfl)))) ?_
 refine c_pfBlock (p := p) ?_
 refine gq2 (zc r0 (zc r00 (zc (show ((2 : Int) == 2) = true from rfl) (show (true == true) = true from rfl)))) ?_
 refine c_first (p := p) ?_
 refine zbq (zc r0 (zc r00 (zc (show ((2 : Int) == 2) = true from rfl) (show (true == true) = true from rfl)))) ?_
 have hs := hp.small
 refine ⟨?_, ?_⟩
 ·try (refine zbq (zc r0 (zc r00 (show (true == true) = true from rfl))) ?_)
  refine zeD ?_
  try (refine zbq (zc r0 (zc r00 (show (true == true) = true from rfl))) ?_)
  refine ⟨?_, ?_⟩
  ·try (refine zbq (zc r0 (zc r00 (show (true == true) = true from rfl))) ?_)
   refine zbn ?_
   try (refine zbq (zc r0 (zc r00 (show (true == true) = true from rfl))) ?_)
   refine ⟨?_, ?_⟩
   ·try (refine zbq (zc r0 (zc r00 (show (true == true) = true from rfl))) ?_)
    refine zeY (p := p) ?_ ?_ ?_ ?_ ?_ ?_ hs ?_
    iterate 6 (focus (first | (rw [zh]; rfl) | (rw [zm]; rfl) | (rw [Nat.add_assoc,zh]; rfl)))
    try (refine zbq (zc r0 (zc r00 (show (true == true) = true from rfl))) ?_)
    refine ⟨?_, ?_⟩
    ·try (refine zbq (zc r0 (zc r00 (show (true == true) = true from rfl))) ?_)
     refine zcK (p := p) ?_ ?_ ?_ hs fun S => ?_
     iterate 2 (focus (first | (rw [zh]; rfl) | (rw [zm]; rfl) | (rw [Nat.add_assoc,zh]; rfl)))
     (focus omega)
     try (refine zbq (zc r0 (zc r00 (show (true == true) = true from rfl))) ?_)
     exact fin _
    ·try (refine zbq (zc r0 (zc r00 (show (true == true) = true from rfl))) ?_)
     refine zcK (p := p) ?_ ?_ ?_ hs fun S => ?_
     iterate 2 (focus (first | (rw [zh]; rfl) | (rw [zm]; rfl) | (rw [Nat.add_assoc,zh]; rfl)))
     (focus omega)
     try (refine zbq (zc r0 (zc r00 (show (true == true) = true from rfl))) ?_)
     exact fin _
   ·skip
    refine ⟨?_, ?_⟩
    ·try (refine zbq (zc r0 (zc r00 (show (true == true) = true from rfl))) ?_)
     refine ⟨?_, ?_⟩
     ·try (refine zbq (zc r0 (zc r00 (show (true == true) = true from rfl))) ?_)
      refine zeY (p := p) ?_ ?_ ?_ ?_ ?_ ?_ hs ?_
      iterate 6 (focus (first | (rw [zh]; rfl) | (rw [zm]; rfl) | (rw [Nat.add_assoc,zh]; rfl)))
      try (refine zbq (zc r0 (zc r00 (show (true == true) = true from rfl))) ?_)
      refine zcK (p := p) ?_ ?_ ?_ hs fun S => ?_
      iterate 2 (focus (first | (rw [zh]; rfl) | (rw [zm]; rfl) | (rw [Nat.add_assoc,zh]; rfl)))
      (focus omega)
      try (refine zbq (zc r0 (zc r00 (show (true == true) = true from rfl))) ?_)
      exact fin _
     ·try (refine zbq (zc r0 (zc r00 (show (true == true) = true from rfl))) ?_)
      refine zeY (p := p) ?_ ?_ ?_ ?_ ?_ ?_ hs ?_
      iterate 6 (focus (first | (rw [zh]; rfl) | (rw [zm]; rfl) | (rw [Nat.add_assoc,zh]; rfl)))
      try (refine zbq (zc r0 (zc r00 (show (true == true) = true from rfl))) ?_)
      refine zcK (p := p) ?_ ?_ ?_ hs fun S => ?_
      iterate 2 (focus (first | (rw [zh]; rfl) | (rw [zm]; rfl) | (rw [Nat.add_assoc,zh]; rfl)))
      (focus omega)
      try (refine zbq (zc r0 (zc r00 (show (true == true) = true from rfl))) ?_)
      exact fin _
    ·try (refine zbq (zc r0 (zc r00 (show (true == true) = true from rfl))) ?_)
     refine ⟨?_, ?_⟩
     ·try (refine zbq (zc r0 (zc r00 (show (true == true) = true from rfl))) ?_)
      refine zeY (p := p) ?_ ?_ ?_ ?_ ?_ ?_ hs ?_
      iterate 6 (focus (first | (rw [zh]; rfl) | (rw [zm]; rfl) | (rw [Nat.add_assoc,zh]; rfl)))
      try (refine zbq (zc r0 (zc r00 (show (true == true) = true from rfl))) ?_)
      refine zcK (p := p) ?_ ?_ ?_ hs fun S => ?_
      iterate 2 (focus (first | (rw [zh]; rfl) | (rw [zm]; rfl) | (rw [Nat.add_assoc,zh]; rfl)))
      (focus omega)
      try (refine zbq (zc r0 (zc r00 (show (true == true) = true from rfl))) ?_)
      exact fin _
     ·try (refine zbq (zc r0 (zc r00 (show (true == true) = true from rfl))) ?_)
      refine zeY (p := p) ?_ ?_ ?_ ?_ ?_ ?_ hs ?_
      iterate 6 (focus (first | (rw [zh]; rfl) | (rw [zm]; rfl) | (rw [Nat.add_assoc,zh]; rfl)))
      try (refine zbq (zc r0 (zc r00 (show (true == true) = true from rfl))) ?_)
      refine zcK (p := p) ?_ ?_ ?_ hs fun S => ?_
      iterate 2 (focus (first | (rw [zh]; rfl) | (rw [zm]; rfl) | (rw [Nat.add_assoc,zh]; rfl)))
      (focus omega)
      try (refine zbq (zc r0 (zc r00 (show (true == true) = true from rfl))) ?_)
      exact fin _
  ·skip
   refine ⟨?_, ?_⟩
   ·try (refine zbq (zc r0 (zc r00 (show (true == true) = true from rfl))) ?_)
    refine ⟨?_, ?_⟩
    ·try (refine zbq (zc r0 (zc r00 (show (true == true) = true from rfl))) ?_)
     refine zbn ?_
     try (refine zbq (zc r0 (zc r00 (show (true == true) = true from rfl))) ?_)
     refine ⟨?_, ?_⟩
     ·try (refine zbq (zc r0 (zc r00 (show (true == true) = true from rfl))) ?_)
      refine zeY (p := p) ?_ ?_ ?_ ?_ ?_ ?_ hs ?_
      iterate 6 (focus (first | (rw [zh]; rfl) | (rw [zm]; rfl) | (rw [Nat.add_assoc,zh]; rfl)))
      try (refine zbq (zc r0 (zc r00 (show (true == true) = true from rfl))) ?_)
      refine zcK (p := p) ?_ ?_ ?_ hs fun S => ?_
      iterate 2 (focus (first | (rw [zh]; rfl) | (rw [zm]; rfl) | (rw [Nat.add_assoc,zh]; rfl)))
      (focus omega)
      try (refine zbq (zc r0 (zc r00 (show (true == true) = true from rfl))) ?_)
      exact fin _
     ·try (refine zbq (zc r0 (zc r00 (show (true == true) = true from rfl))) ?_)
      refine zeY (p := p) ?_ ?_ ?_ ?_ ?_ ?_ hs ?_
      iterate 6 (focus (first | (rw [zh]; rfl) | (rw [zm]; rfl) | (rw [Nat.add_assoc,zh]; rfl)))
      try (refine zbq (zc r0 (zc r00 (show (true == true) = true from rfl))) ?_)
      refine zcK (p := p) ?_ ?_ ?_ hs fun S => ?_
      iterate 2 (focus (first | (rw [zh]; rfl) | (rw [zm]; rfl) | (rw [Nat.add_assoc,zh]; rfl)))
      (focus omega)
      try (refine zbq (zc r0 (zc r00 (show (true == true) = true from rfl))) ?_)
      exact fin _
    ·try (refine zbq (zc r0 (zc r00 (show (true == true) = true from rfl))) ?_)
     refine zbn ?_
     try (refine zbq (zc r0 (zc r00 (show (true == true) = true from rfl))) ?_)
     refine zeY (p := p) ?_ ?_ ?_ ?_ ?_ ?_ hs ?_
     iterate 6 (focus (first | (rw [zh]; rfl) | (rw [zm]; rfl) | (rw [Nat.add_assoc,zh]; rfl)))
     try (refine zbq (zc r0 (zc r00 (show (true == true) = true from rfl))) ?_)
     refine zcK (p := p) ?_ ?_ ?_ hs fun S => ?_
     iterate 2 (focus (first | (rw [zh]; rfl) | (rw [zm]; rfl) | (rw [Nat.add_assoc,zh]; rfl)))
     (focus omega)
     try (refine zbq (zc r0 (zc r00 (show (true == true) = true from rfl))) ?_)
     exact fin _
   ·try (refine zbq (zc r0 (zc r00 (show (true == true) = true from rfl))) ?_)
    refine ⟨?_, ?_⟩
    ·try (refine zbq (zc r0 (zc r00 (show (true == true) = true from rfl))) ?_)
     refine zbn ?_
     try (refine zbq (zc r0 (zc r00 (show (true == true) = true from rfl))) ?_)
     refine ⟨?_, ?_⟩
     ·try (refine zbq (zc r0 (zc r00 (show (true == true) = true from rfl))) ?_)
      refine zeY (p := p) ?_ ?_ ?_ ?_ ?_ ?_ hs ?_
      iterate 6 (focus (first | (rw [zh]; rfl) | (rw [zm]; rfl) | (rw [Nat.add_assoc,zh]; rfl)))
      try (refine zbq (zc r0 (zc r00 (show (true == true) = true from rfl))) ?_)
      refine zcK (p := p) ?_ ?_ ?_ hs fun S => ?_
      iterate 2 (focus (first | (rw [zh]; rfl) | (rw [zm]; rfl) | (rw [Nat.add_assoc,zh]; rfl)))
      (focus omega)
      try (refine zbq (zc r0 (zc r00 (show (true == true) = true from rfl))) ?_)
      exact fin _
     ·try (refine zbq (zc r0 (zc r00 (show (true == true) = true from rfl))) ?_)
      refine zeY (p := p) ?_ ?_ ?_ ?_ ?_ ?_ hs ?_
      iterate 6 (focus (first | (rw [zh]; rfl) | (rw [zm]; rfl) | (rw [Nat.add_assoc,zh]; rfl)))
      try (refine zbq (zc r0 (zc r00 (show (true == true) = true from rfl))) ?_)
      refine zcK (p := p) ?_ ?_ ?_ hs fun S => ?_
      iterate 2 (focus (first | (rw [zh]; rfl) | (rw [zm]; rfl) | (rw [Nat.add_assoc,zh]; rfl)))
      (focus omega)
      try (refine zbq (zc r0 (zc r00 (show (true == true) = true from rfl))) ?_)
      exact fin _
    ·try (refine zbq (zc r0 (zc r00 (show (true == true) = true from rfl))) ?_)
     refine zbn ?_
     try (refine zbq (zc r0 (zc r00 (show (true == true) = true from rfl))) ?_)
     refine zeY (p := p) ?_ ?_ ?_ ?_ ?_ ?_ hs ?_
     iterate 6 (focus (first | (rw [zh]; rfl) | (rw [zm]; rfl) | (rw [Nat.add_assoc,zh]; rfl)))
     try (refine zbq (zc r0 (zc r00 (show (true == true) = true from rfl))) ?_)
     refine zcK (p := p) ?_ ?_ ?_ hs fun S => ?_
     iterate 2 (focus (first | (rw [zh]; rfl) | (rw [zm]; rfl) | (rw [Nat.add_assoc,zh]; rfl)))
     (focus omega)
     try (refine zbq (zc r0 (zc r00 (show (true == true) = true from rfl))) ?_)
     exact fin _
 ·skip
  refine ⟨?_, ?_⟩
  ·try (refine zbq (zc r0 (zc r00 (show (true == true) = true from rfl))) ?_)
   refine ⟨?_, ?_⟩
   ·try (refine zbq (zc r0 (zc r00 (show (true == true) = true from rfl))) ?_)
    refine zeD ?_
    try (refine zbq (zc r0 (zc r00 (show (true == true) = true from rfl))) ?_)
    refine ⟨?_, ?_⟩
    ·try (refine zbq (zc r0 (zc r00 (show (true == true) = true from rfl))) ?_)
     refine zbn ?_
     try (refine zbq (zc r0 (zc r00 (show (true == true) = true from rfl))) ?_)
     refine ⟨?_, ?_⟩
     ·try (refine zbq (zc r0 (zc r00 (show (true == true) = true from rfl))) ?_)
      refine zeY (p := p) ?_ ?_ ?_ ?_ ?_ ?_ hs ?_
      iterate 6 (focus (first | (rw [zh]; rfl) | (rw [zm]; rfl) | (rw [Nat.add_assoc,zh]; rfl)))
      try (refine zbq (zc r0 (zc r00 (show (true == true) = true from rfl))) ?_)
      refine zcK (p := p) ?_ ?_ ?_ hs fun S => ?_
      iterate 2 (focus (first | (rw [zh]; rfl) | (rw [zm]; rfl) | (rw [Nat.add_assoc,zh]; rfl)))
      (focus omega)
      try (refine zbq (zc r0 (zc r00 (show (true == true) = true from rfl))) ?_)
      exact fin _
     ·try (refine zbq (zc r0 (zc r00 (show (true == true) = true from rfl))) ?_)
      refine zeY (p := p) ?_ ?_ ?_ ?_ ?_ ?_ hs ?_
      iterate 6 (focus (first | (rw [zh]; rfl) | (rw [zm]; rfl) | (rw [Nat.add_assoc,zh]; rfl)))
      try (refine zbq (zc r0 (zc r00 (show (true == true) = true from rfl))) ?_)
      refine zcK (p := p) ?_ ?_ ?_ hs fun S => ?_
      iterate 2 (focus (first | (rw [zh]; rfl) | (rw [zm]; rfl) | (rw [Nat.add_assoc,zh]; rfl)))
      (focus omega)
      try (refine zbq (zc r0 (zc r00 (show (true == true) = true from rfl))) ?_)
      exact fin _
    ·try (refine zbq (zc r0 (zc r00 (show (true == true) = true from rfl))) ?_)
     refine zbn ?_
     try (refine zbq (zc r0 (zc r00 (show (true == true) = true from rfl))) ?_)
     refine zeY (p := p) ?_ ?_ ?_ ?_ ?_ ?_ hs ?_
     iterate 6 (focus (first | (rw [zh]; rfl) | (rw [zm]; rfl) | (rw [Nat.add_assoc,zh]; rfl)))
     try (refine zbq (zc r0 (zc r00 (show (true == true) = true from rfl))) ?_)
     refine zcK (p := p) ?_ ?_ ?_ hs fun S => ?_
     iterate 2 (focus (first | (rw [zh]; rfl) | (rw [zm]; rfl) | (rw [Nat.add_assoc,zh]; rfl)))
     (focus omega)
     try (refine zbq (zc r0 (zc r00 (show (true == true) = true from rfl))) ?_)
     exact fin _
   ·try (refine zbq (zc r0 (zc r00 (show (true == true) = true from rfl))) ?_)
    refine zeD ?_
    try (refine zbq (zc r0 (zc r00 (show (true == true) = true from rfl))) ?_)
    refine zbn ?_
    try (refine zbq (zc r0 (zc r00 (show (true == true) = true from rfl))) ?_)
    refine zeY (p := p) ?_ ?_ ?_ ?_ ?_ ?_ hs ?_
    iterate 6 (focus (first | (rw [zh]; rfl) | (rw [zm]; rfl) | (rw [Nat.add_assoc,zh]; rfl)))
    try (refine zbq (zc r0 (zc r00 (show (true == true) = true from rfl))) ?_)
    refine zcK (p := p) ?_ ?_ ?_ hs fun S => ?_
    iterate 2 (focus (first | (rw [zh]; rfl) | (rw [zm]; rfl) | (rw [Nat.add_assoc,zh]; rfl)))
    (focus omega)
    try (refine zbq (zc r0 (zc r00 (show (true == true) = true from rfl))) ?_)
    exact fin _
  ·try (refine zbq (zc r0 (zc r00 (show (true == true) = true from rfl))) ?_)
   refine ⟨?_, ?_⟩
   ·try (refine zbq (zc r0 (zc r00 (show (true == true) = true from rfl))) ?_)
    refine zeD ?_
    try (refine zbq (zc r0 (zc r00 (show (true == true) = true from rfl))) ?_)
    refine ⟨?_, ?_⟩
    ·try (refine zbq (zc r0 (zc r00 (show (true == true) = true from rfl))) ?_)
     refine zbn ?_
     try (refine zbq (zc r0 (zc r00 (show (true == true) = true from rfl))) ?_)
     refine ⟨?_, ?_⟩
     ·try (refine zbq (zc r0 (zc r00 (show (true == true) = true from rfl))) ?_)
      refine zeY (p := p) ?_ ?_ ?_ ?_ ?_ ?_ hs ?_
      iterate 6 (focus (first | (rw [zh]; rfl) | (rw [zm]; rfl) | (rw [Nat.add_assoc,zh]; rfl)))
      try (refine zbq (zc r0 (zc r00 (show (true == true) = true from rfl))) ?_)
      refine zcK (p := p) ?_ ?_ ?_ hs fun S => ?_
      iterate 2 (focus (first | (rw [zh]; rfl) | (rw [zm]; rfl) | (rw [Nat.add_assoc,zh]; rfl)))
      (focus omega)
      try (refine zbq (zc r0 (zc r00 (show (true == true) = true from rfl))) ?_)
      exact fin _
     ·try (refine zbq (zc r0 (zc r00 (show (true == true) = true from rfl))) ?_)
      refine zeY (p := p) ?_ ?_ ?_ ?_ ?_ ?_ hs ?_
      iterate 6 (focus (first | (rw [zh]; rfl) | (rw [zm]; rfl) | (rw [Nat.add_assoc,zh]; rfl)))
      try (refine zbq (zc r0 (zc r00 (show (true == true) = true from rfl))) ?_)
      refine zcK (p := p) ?_ ?_ ?_ hs fun S => ?_
      iterate 2 (focus (first | (rw [zh]; rfl) | (rw [zm]; rfl) | (rw [Nat.add_assoc,zh]; rfl)))
      (focus omega)
      try (refine zbq (zc r0 (zc r00 (show (true == true) = true from rfl))) ?_)
      exact fin _
    ·try (refine zbq (zc r0 (zc r00 (show (true == true) = true from rfl))) ?_)
     refine zbn ?_
     try (refine zbq (zc r0 (zc r00 (show (true == true) = true from rfl))) ?_)
     refine zeY (p := p) ?_ ?_ ?_ ?_ ?_ ?_ hs ?_
     iterate 6 (focus (first | (rw [zh]; rfl) | (rw [zm]; rfl) | (rw [Nat.add_assoc,zh]; rfl)))
     try (refine zbq (zc r0 (zc r00 (show (true == true) = true from rfl))) ?_)
     refine zcK (p := p) ?_ ?_ ?_ hs fun S => ?_
     iterate 2 (focus (first | (rw [zh]; rfl) | (rw [zm]; rfl) | (rw [Nat.add_assoc,zh]; rfl)))
     (focus omega)
     try (refine zbq (zc r0 (zc r00 (show (true == true) = true from rfl))) ?_)
     exact fin _
   ·try (refine zbq (zc r0 (zc r00 (show (true == true) = true from rfl))) ?_)
    refine zeD ?_
    try (refine zbq (zc r0 (zc r00 (show (true == true) = true from rfl))) ?_)
    refine zbn ?_
    try (refine zbq (zc r0 (zc r00 (show (true == true) = true from rfl))) ?_)
    refine zeY (p := p) ?_ ?_ ?_ ?_ ?_ ?_ hs ?_
    iterate 6 (focus (first | (rw [zh]; rfl) | (rw [zm]; rfl) | (rw [Nat.add_assoc,zh]; rfl)))
    try (refine zbq (zc r0 (zc r00 (show (true == true) = true from rfl))) ?_)
    refine zcK (p := p) ?_ ?_ ?_ hs fun S => ?_
    iterate 2 (focus (first | (rw [zh]; rfl) | (rw [zm]; rfl) | (rw [Nat.add_assoc,zh]; rfl)))
    (focus omega)
    try (refine zbq (zc r0 (zc r00 (show (true == true) = true from rfl))) ?_)
    exact fin _
open Go.AW Go.ChangeShapes Go.WideShapes Go.ChangeAt Go.RowKit
theorem zqL {H : Type} {enc : TypeId × Value → H} {P : Program} {w : World} {sp : Nat → Bool} {held : Bool} {vs : List Value} {ds gs : List (DataW H)} {ps : List MemPlace} {ts : List TypeId} (hl : ts.length = 2)
  (h : DataW.TrodAll enc P w 0 sp held ts vs ds ps) (hg : gs = []) : (Rows.proofNoneSpec).fn H (ds ++ gs) = { results := [.lit (.bool true)],args := ds } := by
 subst hg
 have hd : ds.length = 2 := by
  have : ∀ (ts : List TypeId) (vs : List Value) (ds : List (DataW H)) (ps : List MemPlace),DataW.TrodAll enc P w 0 sp held ts vs ds ps → ds.length = ts.length := by
   intro ts
   induction ts with
   | nil => intro vs ds ps h; cases vs <;> cases ds <;> simp [DataW.TrodAll] at h ⊢
   | cons t ts ih =>
    intro vs ds ps h
    obtain ⟨v,vs',d,ds',p,q,rfl,rfl,rfl,h1,h2⟩ := trodAll_cons h
    simp [ih vs' ds' q h2]
  rw [this ts vs ds ps h,hl]
 rw [List.append_nil]
 match ds,hd with
 | [_,_],_ => rfl
theorem zqa (os : Os) (started : os.Started) (H : Type) (enc : TypeId × Value → H) (F : Stop.Interp) :
  ReturnsInHanded {} Tryz.checked os 3 .any ((Rows.OpenSpec.upto Rows.proofNoneSpec).pre6 enc Tryz.prog Tryz.f3 Rows.proofNoneUptoRow.domain false) (((Rows.OpenSpec.upto Rows.proofNoneSpec).at F).post enc Tryz.prog Tryz.f3 false true false false) := by
 refine returnsInHanded_of_cond (C := Tryz.checked) (s := Rows.OpenSpec.upto Rows.proofNoneSpec) (k := Rows.uptoSmall) rfl own started (by kernel_rfl) Tryz.func3
  (OpenSpec.witness (enc := enc) (C := Tryz.checked) (s := Rows.OpenSpec.upto Rows.proofNoneSpec) (k := Rows.uptoSmall) rfl false ⟨#[], #[(.int .i64 0),(.agg #[(.string .empty),(.int .i64 0),(.slice none 0 0),(.slice none 0 0),(.int .i64 0),(.int .i64 0),(.slice none 0 0),(.int .i64 0),(.int .i64 0),(.slice none 0 0)])], []⟩ 24 (by kernel_rfl) (by kernel_rfl) (by kernel_rfl)
   (x := ([(.lit (.int .i64 0)),(.agg [(.lit (.string [])),(.lit (.int .i64 0)), .nil, .nil,(.lit (.int .i64 0)),(.lit (.int .i64 0)), .nil,(.agg [(.lit (.int .i64 0)),(.lit (.int .i64 0)), .nil])])], [], [])) (by kernel_rfl) rfl (by kernel_rfl)) ?_
 intro W base args ds gs before hval hW _ hk _
 have hW0 : DataW.Whole enc Tryz.prog Tryz.f3.params.toList (Rows.proofNoneSpec).vars false W args.toList ds gs before := hW
 have hg : gs = [] := by
  obtain ⟨p,q,hA,hV,_⟩ := hW0
  cases gs with
  | nil => rfl
  | cons => simp [Rows.proofNoneSpec,DataW.TrodVars] at hV
 refine law_calls isBulk hval hW0 (pars := zmc) (by kernel_rfl) rfl (by obtain ⟨p,q,hA,_⟩ := hW0; exact zqL (by kernel_rfl) hA hg) laidOut mapsLaid slicesFull (by kernel_rfl) (tb := 4) (by kernel_rfl) (by kernel_rfl) fun xs has => zuG xs _ ?_ has
 have := small hk
 rw [hg,List.append_nil] at this
 exact this
theorem proofNone_upto : Rows.ProofNoneUptoSaid :=
 OpenClaim.holds_of_cond 3 Tryz.f3 rfl rfl rfl rfl rfl rfl rfl ⟨rfl,rfl,rfl,rfl,rfl⟩ rfl rfl rfl rfl rfl (by kernel_rfl) Tryz.func3 (by kernel_rfl)
  (of_decide_eq_true (by kernel_rfl)) (by unfold Func.isWrapper; first | (rw [if_pos (by decide +kernel)]; kernel_rfl) | (rw [if_neg (by decide +kernel)]; exact ⟨rfl,rfl⟩))
  (fun os started H enc _ F => zqa os started H enc F)
end Go.Proofs.YtfjommppajkpoaaGreat
