/- Contracts: whether a certificate is valid, the program's. -/
import Derived.Test.YtcappjcojggehaaGreatPr1
set_option linter.all false
set_option maxRecDepth 100000
set_option linter.unusedSimpArgs false
set_option linter.unusedVariables false
namespace Go.Proofs.YtcappjcojggehaaGreat
open Go.AW

structure zkG (p : zbN) : Prop where
  ops : ∀ x ∈ p.batch, zfi x.op ≤ 20971520
  batch : p.batch.length ≤ 1073741824
  signs : p.signs.length ≤ 1073741824

theorem gq61 {A P Q : Prop} (a : A) (h : Q) (e : A → P = Q := by intro a; simp -dsimp only [↓zcS, ↓zal, ↓zaI, ↓zcT, ↓zcN, ↓zcL, ↓zcO, ↓zcM, ↓zaN, ↓zaJ, ↓zaO, ↓zaK, ↓zcP, ↓zaH, ↓zaP, ↓zaL, ↓zaQ, ↓zaM, ↓zcK, ↓zcQ, ↓zaG, ↓zaR, ↓zcH, ↓zcG, ↓zcJ, iN, bT, bF, eN, ↓zbI, ↓unC, ↓zJ, ↓zx, ↓zy, ↓zC, ↓zQ, ↓zaA, ↓zbD, ↓zaa, ↓zbg, ↓zU, ↓zl, ↓zu, ↓zba, ↓ze, ↓zY, ↓zH, ↓zap, ↓zaw, ↓zc, ↓zD, ↓zj, ↓zo, ↓zad, ↓zbM, ↓zbX, ↓zaf, ↓zaj, ↓zar, ↓zax, ↓zaC, ↓zh, ↓zZ, ↓zB, ↓zk, ↓zO, zbS, zaF, zaD, unA, zcd, bnd, zcp, zT, zag, zcs, dm, dm1, zN, zaq, zcv, zcu, zL, Q0, Q1, Q2, Q3, Q4, Q5, zI, zg, zr, zt, zw, Q6, Q7, Q8, Q9, Q10, Q11, Q12, Q13, Q14, Nat.reduceAdd, Q15, Int.reduceToNat, Q16, Q17, Q18, Q19, Q20, reduceIte, Q21, Q22, zq, rep, zP, zcI, toD, zae, Q23, Q24, Q25, Q26, Q27, Q28, Nat.reduceLeDiff, Q29, Nat.reduceSub, Q30, Q31, Q32, sc, Q33, Q34, Q35, Q36, Q37, Q26, Q38, Q39, zfN, zfK, zfH, zfO, zbV, zfL, zfI, zfM, zfJ, zbU, zbW, zfQ, zfR, Bool.not_true, Bool.not_false, List.length_map, zhu, a]; rfl) : P := (e a).mpr h
theorem zjC {σ : List zb} {id m t id2 m2 t2 : Nat} {L : List (List UInt8)} {G : List zR} {f : Int} {p : zbN} (hT : zcy σ id m t L) (hG : zcz σ id2 m2 t2 G) (hL : zmy L) (hg : G.length ≤ 1073741824) (hp : zkG p)
    {K : AV → List zb → Prop} (hK : K (.d (.bool (zdB L G f p))) σ) : zK Tryz.prog zbB [.box id 0, .box id2 0, .d (.int .i64 f), zjg p] σ K := by
  refine zi zgR.is rfl fun hl _ => zgR.goes ?_
  have fin : ∀ z, zdB L G f p = z → K (.d (.bool z)) σ := fun z h => h ▸ hK
  clear hK
  simp only [zhf, iN, bT, bF, eN, zjg]
  (repeat' first | refine gq1 ?_ | with_reducible first | exact ⟨⟩ | refine zn ?_ | fail)
  refine c_tClone (hT.app _) hL.nd hL.len hL.each ?_
  (repeat' first | refine gq1 ?_ | with_reducible first | exact ⟨⟩ | refine zn ?_ | fail)
  refine c_gClone (hG.app _) hg fun g' => ?_
  (repeat' first | refine gq1 ?_ | with_reducible first | exact ⟨⟩ | refine zn ?_ | fail)
  refine zms ?_
  by_cases h0 : f < 1 ∨ f > 4
  · rw [zcY, if_pos h0]
    (repeat' first | refine gq2 (show ((120 : Int) != 0) = true from rfl) ?_ | with_reducible first | exact ⟨⟩ | refine zn ?_ | fail)
    (first | refine zai hl ?_ | refine zah hl ?_)
    exact fin _ (by simp [zdB, zel, zcY, h0])
  have hc0 : zcY f = 0 := if_neg h0
  rw [hc0]
  cases h1 : decide (p.view < 0)
  rotate_left
  · (repeat' first | refine gq2 (zp (show ((0 : Int) != 0) = false from rfl) h1) ?_ | with_reducible first | exact ⟨⟩ | refine zn ?_ | fail)
    (first | refine zai hl ?_ | refine zah hl ?_)
    exact fin _ (by simp [zdB, zel, h1])
  cases h2 : decide (p.view > 9007199254740992)
  rotate_left
  · (repeat' first | refine gq2 (zp (show ((0 : Int) != 0) = false from rfl) (zp h1 h2)) ?_ | with_reducible first | exact ⟨⟩ | refine zn ?_ | fail)
    (first | refine zai hl ?_ | refine zah hl ?_)
    exact fin _ (by simp [zdB, zel, h2])
  cases h3 : decide (p.seq < 1)
  rotate_left
  · (repeat' first | refine gq2 (zp (show ((0 : Int) != 0) = false from rfl) (zp h1 (zp h2 h3))) ?_ | with_reducible first | exact ⟨⟩ | refine zn ?_ | fail)
    (first | refine zai hl ?_ | refine zah hl ?_)
    exact fin _ (by simp [zdB, zel, h3])
  cases h4 : decide (p.seq > 9007199254740992)
  rotate_left
  · (repeat' first | refine gq2 (zp (show ((0 : Int) != 0) = false from rfl) (zp h1 (zp h2 (zp h3 h4)))) ?_ | with_reducible first | exact ⟨⟩ | refine zn ?_ | fail)
    (first | refine zai hl ?_ | refine zah hl ?_)
    exact fin _ (by simp [zdB, zel, h4])
  have hok : zel f p = true := by simp [zel, hc0, h1, h2, h3, h4]
  have hpf : zdB L G f p = (zdJ L G p.batch && prepG L G f p) := by rw [zdB, hok, Bool.true_and]
  (repeat' first | refine gq2 (zp (show ((0 : Int) != 0) = false from rfl) (zp h1 (zp h2 (zp h3 h4)))) ?_ | with_reducible first | exact ⟨⟩ | refine zn ?_ | fail)
  refine zna (b := p.batch) (hT.app _) (hG.app _) hp.ops hp.batch ?_
  cases h5 : zdJ L G p.batch
  · (repeat' first | refine gq1 ?_ | with_reducible first | exact ⟨⟩ | refine zn ?_ | fail)
    (first | refine zai hl ?_ | refine zah hl ?_)
    exact fin _ (by rw [hpf, h5]; rfl)
  rw [h5, Bool.true_and] at hpf
  have hcb := zkF h5
  (repeat' first | refine gq1 ?_ | with_reducible first | exact ⟨⟩ | refine zn ?_ | fail)
  refine c_PutBatch (b := []) (by simp) hp.ops hp.batch ?_
  rw [List.nil_append, show zbt p.batch = zdH p.batch from if_pos hcb]
  (repeat' first | refine gq1 ?_ | with_reducible first | exact ⟨⟩ | refine zn ?_ | fail)
  refine zoK (hT.app _) ?_
  (repeat' first | refine gq1 ?_ | with_reducible first | exact ⟨⟩ | refine zn ?_ | fail)
  refine c_quPrimary ?_
  cases h6 : zcX L (zdH p.batch) with
  | none =>
    (repeat' first | refine gq7 ?_ | with_reducible first | exact ⟨⟩ | refine zn ?_ | fail)
    (first | refine zai hl ?_ | refine zah hl ?_)
    exact fin _ (by simp only [hpf, prepG, h6])
  | some i =>
    simp only [prepG, h6] at hpf
    simp only [zmT]
    cases h7 : (((i + 1 : Nat) : Int) == p.dig)
    · have h7' : (((i + 1 : Nat) : Int) != p.dig) = true := by simpa using h7
      (repeat' first | refine gq46 h7' ?_ | with_reducible first | exact ⟨⟩ | refine zn ?_ | fail)
      (first | refine zai hl ?_ | refine zah hl ?_)
      exact fin _ (by rw [hpf, h7]; rfl)
    have h7' : (((i + 1 : Nat) : Int) != p.dig) = false := by simpa using h7
    have h7e : ((i + 1 : Nat) : Int) = p.dig := by simpa using h7
    simp only [h7, Bool.true_and] at hpf
    rw [h7e] at h7' ⊢
    (repeat' first | refine gq46 h7' ?_ | with_reducible first | exact ⟨⟩ | refine zn ?_ | fail)
    refine zjD (s := ⟨p.fkey, p.fdig⟩) (hT.app _) (hG.app _) hL hg ?_
    cases h8 : zfB L G ⟨p.fkey, p.fdig⟩ (zhy f p.view) 2 p.view p.seq p.dig
    · (repeat' first | refine gq1 ?_ | with_reducible first | exact ⟨⟩ | refine zn ?_ | fail)
      (first | refine zai hl ?_ | refine zah hl ?_)
      exact fin _ (by rw [hpf, prepH, h8]; rfl)
    rw [prepH, h8, Bool.true_and] at hpf
    have hw2 : IntKind.i64.wrap (2 * f) = 2 * f := zak (by omega) (by omega)
    have hlen : (zaV p.signs).length = p.signs.length := List.length_map ..
    cases h9 : ((p.signs.length : Int) == 2 * f)
    · have h9' : ((p.signs.length : Int) != 2 * f) = true := by simpa using h9
      (repeat' first | refine gq2 (zp hw2 (zp hlen h9')) ?_ | with_reducible first | exact ⟨⟩ | refine zn ?_ | fail)
      (first | refine zai hl ?_ | refine zah hl ?_)
      exact fin _ (by rw [hpf, h9]; rfl)
    have h9' : ((p.signs.length : Int) != 2 * f) = false := by simpa using h9
    rw [h9, Bool.true_and] at hpf
    (repeat' first | refine gq2 (zp hw2 (zp hlen h9')) ?_ | with_reducible first | exact ⟨⟩ | refine zn ?_ | fail)
    refine zX p.signs.length (fun k vs s => ∃ last : Int, vs = [.d (.int .i64 last), .d (.int .i64 k)] ∧ (∃ T, s = σ ++ (.box [.d (.int .i64 p.view), .d (.int .i64 p.seq), .d (.int .i64 p.dig), .d (.int .i64 p.fkey), .d (.int .i64 p.fdig), .d (.slice (zaV p.signs)), .d (.slice (zbu p.batch))] :: T)) ∧
      zdB L G f p = znd L G f (zhy f p.view) p.view p.seq p.dig last (p.signs.drop k)) ⟨-1, rfl, ⟨_, rfl⟩, by simpa using hpf⟩ ?_
    rintro k vs s hk ⟨last, rfl, ⟨T, rfl⟩, hpf⟩
    by_cases hlt : k < p.signs.length
    · have hd : decide ((k : Int) < (p.signs.length : Int)) = true := by simp; omega
      have hx : p.signs[k]? = some p.signs[k] := by simp [hlt]
      have hgx := zaS (f := zhu) hx
      obtain ⟨x, hxe⟩ : ∃ x, p.signs[k] = x := ⟨_, rfl⟩
      rw [hxe] at hx hgx
      have hsl := hp.signs
      rw [znc hx] at hpf
      have hw : IntKind.i64.wrap ((k : Int) + 1) = ((k + 1 : Nat) : Int) := by rw [zak (by omega) (by omega)]; rfl
      cases g1 : decide (x.key ≤ last)
      rotate_left
      · (repeat' first | refine gq61 (zp hd (zp hgx (zp hlen g1))) ?_ | with_reducible first | exact ⟨⟩ | refine zn ?_ | fail)
        (first | refine zai hl ?_ | refine zah hl ?_)
        exact fin _ (by rw [hpf, g1]; rfl)
      (repeat' first | refine gq61 (zp hd (zp hgx (zp hlen g1))) ?_ | with_reducible first | exact ⟨⟩ | refine zn ?_ | fail)
      refine zmt ?_
      cases g2 : decide (x.key ≥ zfC 3 f)
      rotate_left
      · (repeat' first | refine gq2 g2 ?_ | with_reducible first | exact ⟨⟩ | refine zn ?_ | fail)
        (first | refine zai hl ?_ | refine zah hl ?_)
        exact fin _ (by rw [hpf, g1, g2]; rfl)
      cases g3 : (x.key == zhy f p.view)
      rotate_left
      · (repeat' first | refine gq2 (zp g2 g3) ?_ | with_reducible first | exact ⟨⟩ | refine zn ?_ | fail)
        (first | refine zai hl ?_ | refine zah hl ?_)
        exact fin _ (by rw [hpf, g1, g2, g3]; rfl)
      rw [g1, g2, g3] at hpf
      simp only [Bool.not_false, Bool.true_and] at hpf
      (repeat' first | refine gq2 (zp g2 g3) ?_ | with_reducible first | exact ⟨⟩ | refine zn ?_ | fail)
      refine zjD (s := x) (hT.app _) (hG.app _) hL hg ?_
      cases g4 : zfB L G x x.key 3 p.view p.seq p.dig
      · rw [g4] at hpf
        (repeat' first | refine gq1 ?_ | with_reducible first | exact ⟨⟩ | refine zn ?_ | fail)
        (first | refine zai hl ?_ | refine zah hl ?_)
        exact fin _ hpf
      · rw [g4, Bool.true_and] at hpf
        (repeat' first | refine gq2 hw ?_ | with_reducible first | exact ⟨⟩ | refine zn ?_ | fail)
        exact zbh.next hlt ⟨x.key, rfl, ⟨_, rfl⟩, hpf⟩
    · have hd : decide ((k : Int) < (p.signs.length : Int)) = false := by simp; omega
      rw [List.drop_eq_nil_of_le (by omega)] at hpf
      (repeat' first | refine gq2 (zp hd hlen) ?_ | with_reducible first | exact ⟨⟩ | refine zn ?_ | fail)
      (first | refine zai hl ?_ | refine zah hl ?_)
      exact fin _ hpf
end Go.Proofs.YtcappjcojggehaaGreat
