/- Contracts: whether a certificate is valid, the program's. -/
import Derived.Test.YtjjchfbckfopkaaGreatPp1
set_option linter.all false
set_option maxRecDepth 100000
set_option linter.unusedSimpArgs false
set_option linter.unusedVariables false
namespace Go.Proofs.YtjjchfbckfopkaaGreat
open Go.AW

structure zeL (p : zar) : Prop where
  ops : ∀ x ∈ p.batch, zgb x.op ≤ 20971520
  batch : p.batch.length ≤ 1073741824
  signs : p.signs.length ≤ 1073741824

theorem gq40 {A P Q : Prop} (a : A) (h : Q) (e : A → Hd Q → P := by intro a h; (repeat' first | simp -dsimp only [↓zex, ↓zav, ↓zbj, ↓zey, ↓zer, ↓zep, ↓zes, ↓zeq, ↓zbo, ↓zbk, ↓zbp, ↓zbl, ↓zet, ↓zbh, ↓zbq, ↓zbm, ↓zbr, ↓zbn, ↓zem, ↓zew, ↓zbg, ↓zbt, ↓zeh, ↓zeg, ↓zel, iN, bT, bF, eN, ↓zcm, ↓unC, ↓zU, ↓zE, ↓zF, ↓zK, ↓zab, ↓zaA, ↓zct, ↓zY, ↓zbd, ↓zX, ↓zj, ↓zq, ↓zbI, ↓zf, ↓zac, ↓zJ, ↓zaB, ↓zaK, ↓zd, ↓zD, ↓zn, ↓zr, ↓zal, ↓zcE, ↓zcM, ↓zak, ↓zas, ↓zaG, ↓zaM, ↓zaS, ↓zl, ↓zae, ↓zG, ↓zo, ↓zZ, zcK, zbc, zba, unA, zcS, bnd, zdq, zaa, zai, zdr, dm, dm1, zP, zaC, zdL, zdK, zT, Q0, Q1, Q2, Q3, Q4, Q5, zS, zh, zm, zw, zA, Q6, Q7, Q8, Q9, Q10, Q11, Q12, Q13, Q14, Nat.reduceAdd, Q15, Int.reduceToNat, Q16, Q17, Q18, Q19, Q20, reduceIte, Q21, Q22, zx, rep, zV, zei, toD, zaf, Q23, Q24, Q25, Q26, Q27, Q28, Nat.reduceLeDiff, Q29, Nat.reduceSub, Q30, Q31, Q32, sc, Q33, Q34, Q35, Q36, Q37, Q26, Q38, Q39, zlI, zlF, zlC, zlJ, zeI, zlG, zlD, zlH, zlE, zeH, zeJ, zlL, zlM, Bool.not_true, Bool.not_false, List.length_map, Bool.and_false, Bool.and_self, Bool.false_and, Bool.not_false, Bool.not_true, Bool.true_and, Int.toNat_natCast, Int.toNat_zero, List.drop_zero, List.length_map, List.length_nil, List.nil_append, List.take_length, Nat.sub_zero, Nat.zero_add, Option.isSome_none, Option.isSome_some, Option.map_none, Option.map_some, zaq, beq_self_eq_true, bne_self_eq_false, a] | with_reducible refine zlY ?_ | fail); exact h.go) : P := e a ⟨h⟩
theorem c_prValid {σ : List zb} {id m t id2 m2 t2 : Nat} {L : List (List UInt8)} {G : List zM} {f : Int} {p : zar} (hT : zcW σ id m t L) (hG : zcY σ id2 m2 t2 G) (hL : TabI L) (hg : G.length ≤ 1073741824) (hp : zeL p)
    {K : AV → List zb → Prop} (hK : K (.d (.bool (zlB L G f p))) σ) : zp Tryz.prog zdd [.box id 0, .box id2 0, .d (.int .i64 f), zfd p] σ K := by
  refine acE4 zlU fun hl => ?_
  have fin : ∀ z, zlB L G f p = z → K (.d (.bool z)) σ := fun z h => h ▸ hK
  clear hK
  simp only [zgX, iN, bT, bF, eN, zfd]
  refine gq1 ?_
  refine c_tClone (hT.app _) hL.nd hL.len hL.each ?_
  refine gq1 ?_
  refine c_gClone (hG.app _) hg fun g' => ?_
  refine gq1 ?_
  refine znm ?_
  by_cases h0 : f < 1 ∨ f > 4
  · rw [zhD, if_pos h0]
    refine gq2 (show ((120 : Int) != 0) = true from rfl) ?_
    refine zad hl ?_
    exact fin _ (by simp [zlB, zld, zhD, h0])
  have hc0 : zhD f = 0 := if_neg h0
  rw [hc0]
  cases h1 : decide (p.view < 0)
  rotate_left
  · refine gq2 (zi (show ((0 : Int) != 0) = false from rfl) h1) ?_
    refine zad hl ?_
    exact fin _ (by simp [zlB, zld, h1])
  cases h2 : decide (p.view > 9007199254740992)
  rotate_left
  · refine gq2 (zi (show ((0 : Int) != 0) = false from rfl) (zi h1 h2)) ?_
    refine zad hl ?_
    exact fin _ (by simp [zlB, zld, h2])
  cases h3 : decide (p.seq < 1)
  rotate_left
  · refine gq2 (zi (show ((0 : Int) != 0) = false from rfl) (zi h1 (zi h2 h3))) ?_
    refine zad hl ?_
    exact fin _ (by simp [zlB, zld, h3])
  cases h4 : decide (p.seq > 9007199254740992)
  rotate_left
  · refine gq2 (zi (show ((0 : Int) != 0) = false from rfl) (zi h1 (zi h2 (zi h3 h4)))) ?_
    refine zad hl ?_
    exact fin _ (by simp [zlB, zld, h4])
  have hok : zld f p = true := by simp [zld, hc0, h1, h2, h3, h4]
  have hpf : zlB L G f p = (zhn L G p.batch && prepG L G f p) := by rw [zlB, hok, Bool.true_and]
  refine gq2 (zi (show ((0 : Int) != 0) = false from rfl) (zi h1 (zi h2 (zi h3 h4)))) ?_
  refine znT (b := p.batch) (hT.app _) (hG.app _) hp.ops hp.batch ?_
  cases h5 : zhn L G p.batch
  · refine gq1 ?_
    refine zad hl ?_
    exact fin _ (by rw [hpf, h5]; rfl)
  rw [h5, Bool.true_and] at hpf
  have hcb := validB_check h5
  refine gq1 ?_
  refine c_PutBatch (b := []) (by simp) hp.ops hp.batch ?_
  rw [List.nil_append, show zbG p.batch = zeP p.batch from if_pos hcb]
  refine gq1 ?_
  refine zpL (hT.app _) ?_
  refine gq1 ?_
  refine c_quPrimary ?_
  cases h6 : zdM L (zeP p.batch) with
  | none =>
    refine gq5 ?_
    refine zad hl ?_
    exact fin _ (by simp only [hpf, prepG, h6])
  | some i =>
    simp only [prepG, h6] at hpf
    simp only [zpn]
    cases h7 : (((i + 1 : Nat) : Int) == p.dig)
    · have h7' : (((i + 1 : Nat) : Int) != p.dig) = true := by simpa using h7
      refine gq40 h7' ?_
      refine zad hl ?_
      exact fin _ (by rw [hpf, h7]; rfl)
    have h7' : (((i + 1 : Nat) : Int) != p.dig) = false := by simpa using h7
    have h7e : ((i + 1 : Nat) : Int) = p.dig := by simpa using h7
    simp only [h7, Bool.true_and] at hpf
    rw [h7e] at h7' ⊢
    refine gq40 h7' ?_
    refine zjQ (s := ⟨p.fkey, p.fdig⟩) (hT.app _) (hG.app _) hL hg ?_
    cases h8 : zkU L G ⟨p.fkey, p.fdig⟩ (primF f p.view) 2 p.view p.seq p.dig
    · refine gq1 ?_
      refine zad hl ?_
      exact fin _ (by rw [hpf, prepH, h8]; rfl)
    rw [prepH, h8, Bool.true_and] at hpf
    have hw2 : IntKind.i64.wrap (2 * f) = 2 * f := zan (by omega) (by omega)
    have hlen : (zax p.signs).length = p.signs.length := List.length_map ..
    cases h9 : ((p.signs.length : Int) == 2 * f)
    · have h9' : ((p.signs.length : Int) != 2 * f) = true := by simpa using h9
      refine gq2 (zi hw2 (zi hlen h9')) ?_
      refine zad hl ?_
      exact fin _ (by rw [hpf, h9]; rfl)
    have h9' : ((p.signs.length : Int) != 2 * f) = false := by simpa using h9
    rw [h9, Bool.true_and] at hpf
    refine gq2 (zi hw2 (zi hlen h9')) ?_
    refine zB p.signs.length (fun k vs s => ∃ last : Int, vs = [.d (.int .i64 last), .d (.int .i64 k)] ∧ (∃ T, s = σ ++ (.box [.d (.int .i64 p.view), .d (.int .i64 p.seq), .d (.int .i64 p.dig), .d (.int .i64 p.fkey), .d (.int .i64 p.fdig), .d (.slice (zax p.signs)), .d (.slice (zaE p.batch))] :: T)) ∧
      zlB L G f p = votesF L G f (primF f p.view) p.view p.seq p.dig last (p.signs.drop k)) ⟨-1, rfl, ⟨_, rfl⟩, by simpa using hpf⟩ ?_
    rintro k vs s hk ⟨last, rfl, ⟨T, rfl⟩, hpf⟩
    by_cases hlt : k < p.signs.length
    · have hd : decide ((k : Int) < (p.signs.length : Int)) = true := by simp; omega
      have hx : p.signs[k]? = some p.signs[k] := by simp [hlt]
      have hgx := zau (f := zej) hx
      obtain ⟨x, hxe⟩ : ∃ x, p.signs[k] = x := ⟨_, rfl⟩
      rw [hxe] at hx hgx
      have hsl := hp.signs
      rw [votes_drop hx] at hpf
      have hw : IntKind.i64.wrap ((k : Int) + 1) = ((k + 1 : Nat) : Int) := by rw [zan (by omega) (by omega)]; rfl
      cases g1 : decide (x.key ≤ last)
      rotate_left
      · refine gq8 (zi hd (zi hgx (zi hlen g1))) ?_
        refine zad hl ?_
        exact fin _ (by rw [hpf, g1]; rfl)
      refine gq8 (zi hd (zi hgx (zi hlen g1))) ?_
      refine znn ?_
      cases g2 : decide (x.key ≥ zkV 3 f)
      rotate_left
      · refine gq2 g2 ?_
        refine zad hl ?_
        exact fin _ (by rw [hpf, g1, g2]; rfl)
      cases g3 : (x.key == primF f p.view)
      rotate_left
      · refine gq2 (zi g2 g3) ?_
        refine zad hl ?_
        exact fin _ (by rw [hpf, g1, g2, g3]; rfl)
      rw [g1, g2, g3] at hpf
      simp only [Bool.not_false, Bool.true_and] at hpf
      refine gq2 (zi g2 g3) ?_
      refine zjQ (s := x) (hT.app _) (hG.app _) hL hg ?_
      cases g4 : zkU L G x x.key 3 p.view p.seq p.dig
      · rw [g4] at hpf
        refine gq1 ?_
        refine zad hl ?_
        exact fin _ hpf
      · rw [g4, Bool.true_and] at hpf
        refine gq2 hw ?_
        exact zaP.next hlt ⟨x.key, rfl, ⟨_, rfl⟩, hpf⟩
    · have hd : decide ((k : Int) < (p.signs.length : Int)) = false := by simp; omega
      rw [List.drop_eq_nil_of_le (by omega)] at hpf
      refine gq2 (zi hd hlen) ?_
      refine zad hl ?_
      exact fin _ hpf
end Go.Proofs.YtjjchfbckfopkaaGreat
