/- Contracts: whether a certificate is valid, the program's. -/
import Derived.Test.YtcappjcojggehaaGreatQu1
set_option linter.all false
set_option maxRecDepth 100000
set_option linter.unusedSimpArgs false
set_option linter.unusedVariables false
namespace Go.Proofs.YtcappjcojggehaaGreat
open Go.AW

structure smallP (p : zcs) : Prop where
  ops : ∀ x ∈ p.batch, zfz x.op ≤ 20971520
  batch : p.batch.length ≤ 1073741824
  signs : p.signs.length ≤ 1073741824

theorem gq60 {A P Q : Prop} (a : A) (h : Q) (e : A → P = Q := by intro a; simp -dsimp only [↓zcI, ↓zai, ↓zaH, ↓zcJ, ↓zcE, ↓zcC, ↓zcF, ↓zcD, ↓zaM, ↓zaI, ↓zaN, ↓zaJ, ↓zcG, ↓zaG, ↓zaO, ↓zaK, ↓zaP, ↓zaL, ↓zcB, ↓zcH, ↓zaF, ↓zaQ, ↓zcy, ↓zcx, ↓zcA, iN, bT, bF, eN, ↓zbL, ↓unC, ↓zH, ↓zw, ↓zx, ↓zB, ↓zK, ↓zaz, ↓zbv, ↓zY, ↓zbh, ↓zP, ↓zr, ↓zp, ↓zbj, ↓zf, ↓zU, ↓zF, ↓zan, ↓zas, ↓zc, ↓zC, ↓zj, ↓zl, ↓zab, ↓zbK, ↓zbJ, ↓zae, ↓zah, ↓zam, ↓zav, ↓zaB, ↓zg, ↓zW, ↓zy, ↓zi, ↓zJ, zbM, zaE, zaD, unA, zbQ, bnd, zcb, zQ, zag, zcd, dm, dm1, zM, zao, zcr, zcq, zS, Q0, Q1, Q2, Q3, Q4, Q5, zG, zh, zn, zq, zt, Q6, Q7, Q8, Q9, Q10, Q11, Q12, Q13, Q14, Nat.reduceAdd, Q15, Int.reduceToNat, Q16, Q17, Q18, Q19, Q20, reduceIte, Q21, Q22, zm, rep, zL, zcz, toD, zac, Q23, Q24, Q25, Q26, Q27, Q28, Nat.reduceLeDiff, Q29, Nat.reduceSub, Q30, Q31, Q32, sc, Q33, Q34, Q35, Q36, Q37, Q26, Q38, Q39, zfa, zeX, zeU, zfb, zbC, zeY, zeV, zeZ, zeW, zbB, zbD, zfd, zfe, Bool.not_true, Bool.not_false, List.length_map, Option.isSome_some, a]; rfl) : P := (e a).mpr h
theorem gq61 {A P Q : Prop} (a : A) (h : Q) (e : A → P = Q := by intro a; simp -dsimp only [↓zcI, ↓zai, ↓zaH, ↓zcJ, ↓zcE, ↓zcC, ↓zcF, ↓zcD, ↓zaM, ↓zaI, ↓zaN, ↓zaJ, ↓zcG, ↓zaG, ↓zaO, ↓zaK, ↓zaP, ↓zaL, ↓zcB, ↓zcH, ↓zaF, ↓zaQ, ↓zcy, ↓zcx, ↓zcA, iN, bT, bF, eN, ↓zbL, ↓unC, ↓zH, ↓zw, ↓zx, ↓zB, ↓zK, ↓zaz, ↓zbv, ↓zY, ↓zbh, ↓zP, ↓zr, ↓zp, ↓zbj, ↓zf, ↓zU, ↓zF, ↓zan, ↓zas, ↓zc, ↓zC, ↓zj, ↓zl, ↓zab, ↓zbK, ↓zbJ, ↓zae, ↓zah, ↓zam, ↓zav, ↓zaB, ↓zg, ↓zW, ↓zy, ↓zi, ↓zJ, zbM, zaE, zaD, unA, zbQ, bnd, zcb, zQ, zag, zcd, dm, dm1, zM, zao, zcr, zcq, zS, Q0, Q1, Q2, Q3, Q4, Q5, zG, zh, zn, zq, zt, Q6, Q7, Q8, Q9, Q10, Q11, Q12, Q13, Q14, Nat.reduceAdd, Q15, Int.reduceToNat, Q16, Q17, Q18, Q19, Q20, reduceIte, Q21, Q22, zm, rep, zL, zcz, toD, zac, Q23, Q24, Q25, Q26, Q27, Q28, Nat.reduceLeDiff, Q29, Nat.reduceSub, Q30, Q31, Q32, sc, Q33, Q34, Q35, Q36, Q37, Q26, Q38, Q39, zfa, zeX, zeU, zfb, zbC, zeY, zeV, zeZ, zeW, zbB, zbD, zfd, zfe, Bool.not_true, Bool.not_false, List.length_map, zia, a]; rfl) : P := (e a).mpr h
theorem zmg {σ : List zb} {id m t id2 m2 t2 : Nat} {L : List (List UInt8)} {G : List zR} {f : Int} {p : zcs} (hT : zcT σ id m t L) (hG : zcU σ id2 m2 t2 G) (hL : TabI L) (hg : G.length ≤ 1073741824) (hp : smallP p)
    {K : AV → List zb → Prop} (hK : K (.d (.bool (zhe L G f p))) σ) : zN Tryz.prog zcn [.box id 0, .box id2 0, .d (.int .i64 f), zkT p] σ K := by
  refine zk zgK.is rfl fun hl _ => zgK.goes ?_
  have fin : ∀ z, zhe L G f p = z → K (.d (.bool z)) σ := fun z h => h ▸ hK
  clear hK
  simp only [zgW, iN, bT, bF, eN, zkT]
  (repeat' first | refine gq1 ?_ | with_reducible first | exact ⟨⟩ | refine zA ?_ | fail)
  refine c_tClone (hT.app _) hL.nd hL.len hL.each ?_
  (repeat' first | refine gq1 ?_ | with_reducible first | exact ⟨⟩ | refine zA ?_ | fail)
  refine c_gClone (hG.app _) hg fun g' => ?_
  (repeat' first | refine gq1 ?_ | with_reducible first | exact ⟨⟩ | refine zA ?_ | fail)
  refine zme ?_
  by_cases h0 : f < 1 ∨ f > 4
  · rw [zdu, if_pos h0]
    (repeat' first | refine gq2 (show ((120 : Int) != 0) = true from rfl) ?_ | with_reducible first | exact ⟨⟩ | refine zA ?_ | fail)
    (first | refine zar hl ?_ | refine zaq hl ?_)
    exact fin _ (by simp [zhe, ziR, zdu, h0])
  have hc0 : zdu f = 0 := if_neg h0
  rw [hc0]
  cases h1 : decide (p.view < 0)
  rotate_left
  · (repeat' first | refine gq2 (zu (show ((0 : Int) != 0) = false from rfl) h1) ?_ | with_reducible first | exact ⟨⟩ | refine zA ?_ | fail)
    (first | refine zar hl ?_ | refine zaq hl ?_)
    exact fin _ (by simp [zhe, ziR, h1])
  cases h2 : decide (p.view > 9007199254740992)
  rotate_left
  · (repeat' first | refine gq2 (zu (show ((0 : Int) != 0) = false from rfl) (zu h1 h2)) ?_ | with_reducible first | exact ⟨⟩ | refine zA ?_ | fail)
    (first | refine zar hl ?_ | refine zaq hl ?_)
    exact fin _ (by simp [zhe, ziR, h2])
  cases h3 : decide (p.seq < 1)
  rotate_left
  · (repeat' first | refine gq2 (zu (show ((0 : Int) != 0) = false from rfl) (zu h1 (zu h2 h3))) ?_ | with_reducible first | exact ⟨⟩ | refine zA ?_ | fail)
    (first | refine zar hl ?_ | refine zaq hl ?_)
    exact fin _ (by simp [zhe, ziR, h3])
  cases h4 : decide (p.seq > 9007199254740992)
  rotate_left
  · (repeat' first | refine gq2 (zu (show ((0 : Int) != 0) = false from rfl) (zu h1 (zu h2 (zu h3 h4)))) ?_ | with_reducible first | exact ⟨⟩ | refine zA ?_ | fail)
    (first | refine zar hl ?_ | refine zaq hl ?_)
    exact fin _ (by simp [zhe, ziR, h4])
  have hok : ziR f p = true := by simp [ziR, hc0, h1, h2, h3, h4]
  have hpf : zhe L G f p = (zhj L G p.batch && prepG L G f p) := by rw [zhe, hok, Bool.true_and]
  (repeat' first | refine gq2 (zu (show ((0 : Int) != 0) = false from rfl) (zu h1 (zu h2 (zu h3 h4)))) ?_ | with_reducible first | exact ⟨⟩ | refine zA ?_ | fail)
  refine zmK (b := p.batch) (hT.app _) (hG.app _) hp.ops hp.batch ?_
  cases h5 : zhj L G p.batch
  · (repeat' first | refine gq1 ?_ | with_reducible first | exact ⟨⟩ | refine zA ?_ | fail)
    (first | refine zar hl ?_ | refine zaq hl ?_)
    exact fin _ (by rw [hpf, h5]; rfl)
  rw [h5, Bool.true_and] at hpf
  have hcb := validB_check h5
  (repeat' first | refine gq1 ?_ | with_reducible first | exact ⟨⟩ | refine zA ?_ | fail)
  refine c_PutBatch (b := []) (by simp) hp.ops hp.batch ?_
  rw [List.nil_append, show zbz p.batch = zei p.batch from if_pos hcb]
  (repeat' first | refine gq1 ?_ | with_reducible first | exact ⟨⟩ | refine zA ?_ | fail)
  refine zou (hT.app _) ?_
  (repeat' first | refine gq1 ?_ | with_reducible first | exact ⟨⟩ | refine zA ?_ | fail)
  refine c_quPrimary ?_
  cases h6 : zck L (zei p.batch) with
  | none =>
    (repeat' first | refine gq7 ?_ | with_reducible first | exact ⟨⟩ | refine zA ?_ | fail)
    (first | refine zar hl ?_ | refine zaq hl ?_)
    exact fin _ (by simp only [hpf, prepG, h6])
  | some i =>
    simp only [prepG, h6] at hpf
    simp only [numOf]
    cases h7 : (((i + 1 : Nat) : Int) == p.dig)
    · have h7' : (((i + 1 : Nat) : Int) != p.dig) = true := by simpa using h7
      (repeat' first | refine gq60 h7' ?_ | with_reducible first | exact ⟨⟩ | refine zA ?_ | fail)
      (first | refine zar hl ?_ | refine zaq hl ?_)
      exact fin _ (by rw [hpf, h7]; rfl)
    have h7' : (((i + 1 : Nat) : Int) != p.dig) = false := by simpa using h7
    have h7e : ((i + 1 : Nat) : Int) = p.dig := by simpa using h7
    simp only [h7, Bool.true_and] at hpf
    rw [h7e] at h7' ⊢
    (repeat' first | refine gq60 h7' ?_ | with_reducible first | exact ⟨⟩ | refine zA ?_ | fail)
    refine zjm (s := ⟨p.fkey, p.fdig⟩) (hT.app _) (hG.app _) hL hg ?_
    cases h8 : zfC L G ⟨p.fkey, p.fdig⟩ (zlt f p.view) 2 p.view p.seq p.dig
    · (repeat' first | refine gq1 ?_ | with_reducible first | exact ⟨⟩ | refine zA ?_ | fail)
      (first | refine zar hl ?_ | refine zaq hl ?_)
      exact fin _ (by rw [hpf, prepH, h8]; rfl)
    rw [prepH, h8, Bool.true_and] at hpf
    have hw2 : IntKind.i64.wrap (2 * f) = 2 * f := zaj (by omega) (by omega)
    have hlen : (zaY p.signs).length = p.signs.length := List.length_map ..
    cases h9 : ((p.signs.length : Int) == 2 * f)
    · have h9' : ((p.signs.length : Int) != 2 * f) = true := by simpa using h9
      (repeat' first | refine gq2 (zu hw2 (zu hlen h9')) ?_ | with_reducible first | exact ⟨⟩ | refine zA ?_ | fail)
      (first | refine zar hl ?_ | refine zaq hl ?_)
      exact fin _ (by rw [hpf, h9]; rfl)
    have h9' : ((p.signs.length : Int) != 2 * f) = false := by simpa using h9
    rw [h9, Bool.true_and] at hpf
    (repeat' first | refine gq2 (zu hw2 (zu hlen h9')) ?_ | with_reducible first | exact ⟨⟩ | refine zA ?_ | fail)
    refine zV p.signs.length (fun k vs s => ∃ last : Int, vs = [.d (.int .i64 last), .d (.int .i64 k)] ∧ (∃ T, s = σ ++ (.box [.d (.int .i64 p.view), .d (.int .i64 p.seq), .d (.int .i64 p.dig), .d (.int .i64 p.fkey), .d (.int .i64 p.fdig), .d (.slice (zaY p.signs)), .d (.slice (zbs p.batch))] :: T)) ∧
      zhe L G f p = zlj L G f (zlt f p.view) p.view p.seq p.dig last (p.signs.drop k)) ⟨-1, rfl, ⟨_, rfl⟩, by simpa using hpf⟩ ?_
    rintro k vs s hk ⟨last, rfl, ⟨T, rfl⟩, hpf⟩
    by_cases hlt : k < p.signs.length
    · have hd : decide ((k : Int) < (p.signs.length : Int)) = true := by simp; omega
      have hx : p.signs[k]? = some p.signs[k] := by simp [hlt]
      have hgx := zaT (f := zia) hx
      obtain ⟨x, hxe⟩ : ∃ x, p.signs[k] = x := ⟨_, rfl⟩
      rw [hxe] at hx hgx
      have hsl := hp.signs
      rw [votes_drop hx] at hpf
      have hw : IntKind.i64.wrap ((k : Int) + 1) = ((k + 1 : Nat) : Int) := by rw [zaj (by omega) (by omega)]; rfl
      cases g1 : decide (x.key ≤ last)
      rotate_left
      · (repeat' first | refine gq61 (zu hd (zu hgx (zu hlen g1))) ?_ | with_reducible first | exact ⟨⟩ | refine zA ?_ | fail)
        (first | refine zar hl ?_ | refine zaq hl ?_)
        exact fin _ (by rw [hpf, g1]; rfl)
      (repeat' first | refine gq61 (zu hd (zu hgx (zu hlen g1))) ?_ | with_reducible first | exact ⟨⟩ | refine zA ?_ | fail)
      refine zmf ?_
      cases g2 : decide (x.key ≥ zcw 3 f)
      rotate_left
      · (repeat' first | refine gq2 g2 ?_ | with_reducible first | exact ⟨⟩ | refine zA ?_ | fail)
        (first | refine zar hl ?_ | refine zaq hl ?_)
        exact fin _ (by rw [hpf, g1, g2]; rfl)
      cases g3 : (x.key == zlt f p.view)
      rotate_left
      · (repeat' first | refine gq2 (zu g2 g3) ?_ | with_reducible first | exact ⟨⟩ | refine zA ?_ | fail)
        (first | refine zar hl ?_ | refine zaq hl ?_)
        exact fin _ (by rw [hpf, g1, g2, g3]; rfl)
      rw [g1, g2, g3] at hpf
      simp only [Bool.not_false, Bool.true_and] at hpf
      (repeat' first | refine gq2 (zu g2 g3) ?_ | with_reducible first | exact ⟨⟩ | refine zA ?_ | fail)
      refine zjm (s := x) (hT.app _) (hG.app _) hL hg ?_
      cases g4 : zfC L G x x.key 3 p.view p.seq p.dig
      · rw [g4] at hpf
        (repeat' first | refine gq1 ?_ | with_reducible first | exact ⟨⟩ | refine zA ?_ | fail)
        (first | refine zar hl ?_ | refine zaq hl ?_)
        exact fin _ hpf
      · rw [g4, Bool.true_and] at hpf
        (repeat' first | refine gq2 hw ?_ | with_reducible first | exact ⟨⟩ | refine zA ?_ | fail)
        exact zaR.next hlt ⟨x.key, rfl, ⟨_, rfl⟩, hpf⟩
    · have hd : decide ((k : Int) < (p.signs.length : Int)) = false := by simp; omega
      rw [List.drop_eq_nil_of_le (by omega)] at hpf
      (repeat' first | refine gq2 (zu hd hlen) ?_ | with_reducible first | exact ⟨⟩ | refine zA ?_ | fail)
      (first | refine zar hl ?_ | refine zaq hl ?_)
      exact fin _ hpf
end Go.Proofs.YtcappjcojggehaaGreat
