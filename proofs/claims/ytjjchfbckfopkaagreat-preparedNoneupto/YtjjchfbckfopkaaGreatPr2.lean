/- Contracts: whether a certificate is valid, the program's. -/
import Derived.Test.YtjjchfbckfopkaaGreatPp1
set_option linter.all false
set_option maxRecDepth 100000
set_option linter.unusedSimpArgs false
set_option linter.unusedVariables false
namespace Go.Proofs.YtjjchfbckfopkaaGreat
open Go.AW

structure smallP (p : zav) : Prop where
  ops : ∀ x ∈ p.batch, zgJ x.op ≤ 20971520
  batch : p.batch.length ≤ 1073741824
  signs : p.signs.length ≤ 1073741824

theorem gq38 {A P Q : Prop} (a : A) (h : Q) (e : A → Hd Q → P := by intro a h; (repeat' first | simp -dsimp only [↓zem, ↓zas, ↓zbe, ↓zen, ↓zeg, ↓zee, ↓zeh, ↓zef, ↓zbj, ↓zbf, ↓zbk, ↓zbg, ↓zei, ↓zbd, ↓zbl, ↓zbh, ↓zbm, ↓zbi, ↓zec, ↓zel, ↓zbc, ↓zbo, ↓zdY, ↓zdX, ↓zeb, iN, bT, bF, eN, ↓zcx, ↓unC, ↓zU, ↓zE, ↓zF, ↓zI, ↓zaa, ↓zaE, ↓zco, ↓zZ, ↓zbw, ↓zQ, ↓zl, ↓zm, ↓zbF, ↓zf, ↓zab, ↓zK, ↓zay, ↓zaD, ↓zc, ↓zy, ↓zi, ↓zr, ↓zai, ↓zcz, ↓zcG, ↓zal, ↓zap, ↓zax, ↓zaG, ↓zaN, ↓zj, ↓zad, ↓zG, ↓zq, ↓zX, zcE, zaZ, zaW, unA, zcH, bnd, zdj, zY, zac, zdk, dm, dm1, zJ, zar, zdD, zdC, zT, Q0, Q1, Q2, Q3, Q4, Q5, zS, zg, zp, zu, zC, Q6, Q7, Q8, Q9, Q10, Q11, Q12, Q13, Q14, Nat.reduceAdd, Q15, Int.reduceToNat, Q16, Q17, Q18, Q19, Q20, reduceIte, Q21, Q22, zA, rep, zV, zdZ, toD, zaj, Q23, Q24, Q25, Q26, Q27, Q28, Nat.reduceLeDiff, Q29, Nat.reduceSub, Q30, Q31, Q32, sc, Q33, Q34, Q35, Q36, Q37, Q26, Q38, Q39, zjL, zjI, zjF, zjM, zdO, zjJ, zjG, zjK, zjH, zdN, zdP, zjT, zjU, Bool.not_true, Bool.not_false, List.length_map, Bool.and_false, Bool.and_self, Bool.false_and, Bool.not_false, Bool.not_true, Bool.true_and, Int.toNat_natCast, Int.toNat_zero, List.drop_zero, List.length_map, List.length_nil, List.nil_append, List.take_length, Nat.sub_zero, Nat.zero_add, Option.isSome_none, Option.isSome_some, Option.map_none, Option.map_some, zaq, beq_self_eq_true, bne_self_eq_false, a] | with_reducible refine zkm ?_ | fail); exact h.go) : P := e a ⟨h⟩
theorem c_prValid {σ : List zb} {id m t id2 m2 t2 : Nat} {L : List (List UInt8)} {G : List zO} {f : Int} {p : zav} (hT : zcF σ id m t L) (hG : zcS σ id2 m2 t2 G) (hL : TabI L) (hg : G.length ≤ 1073741824) (hp : smallP p)
    {K : AV → List zb → Prop} (hK : K (.d (.bool (zkX L G f p))) σ) : zn Tryz.prog zaR [.box id 0, .box id2 0, .d (.int .i64 f), zfw p] σ K := by
  refine acE4 zez fun hl => ?_
  have fin : ∀ z, zkX L G f p = z → K (.d (.bool z)) σ := fun z h => h ▸ hK
  clear hK
  simp only [zcX, iN, bT, bF, eN, zfw]
  refine gq1 ?_
  refine zoD (hT.app _) hL.nd hL.len hL.each ?_
  refine gq1 ?_
  refine c_gClone (hG.app _) hg fun g' => ?_
  refine gq1 ?_
  refine zmq ?_
  by_cases h0 : f < 1 ∨ f > 4
  · rw [zhh, if_pos h0]
    refine gq2 (show ((120 : Int) != 0) = true from rfl) ?_
    refine zam hl ?_
    exact fin _ (by simp [zkX, zky, zhh, h0])
  have hc0 : zhh f = 0 := if_neg h0
  rw [hc0]
  cases h1 : decide (p.view < 0)
  rotate_left
  · refine gq2 (zo (show ((0 : Int) != 0) = false from rfl) h1) ?_
    refine zam hl ?_
    exact fin _ (by simp [zkX, zky, h1])
  cases h2 : decide (p.view > 9007199254740992)
  rotate_left
  · refine gq2 (zo (show ((0 : Int) != 0) = false from rfl) (zo h1 h2)) ?_
    refine zam hl ?_
    exact fin _ (by simp [zkX, zky, h2])
  cases h3 : decide (p.seq < 1)
  rotate_left
  · refine gq2 (zo (show ((0 : Int) != 0) = false from rfl) (zo h1 (zo h2 h3))) ?_
    refine zam hl ?_
    exact fin _ (by simp [zkX, zky, h3])
  cases h4 : decide (p.seq > 9007199254740992)
  rotate_left
  · refine gq2 (zo (show ((0 : Int) != 0) = false from rfl) (zo h1 (zo h2 (zo h3 h4)))) ?_
    refine zam hl ?_
    exact fin _ (by simp [zkX, zky, h4])
  have hok : zky f p = true := by simp [zky, hc0, h1, h2, h3, h4]
  have hpf : zkX L G f p = (zgR L G p.batch && prepG L G f p) := by rw [zkX, hok, Bool.true_and]
  refine gq2 (zo (show ((0 : Int) != 0) = false from rfl) (zo h1 (zo h2 (zo h3 h4)))) ?_
  refine zmW (b := p.batch) (hT.app _) (hG.app _) hp.ops hp.batch ?_
  cases h5 : zgR L G p.batch
  · refine gq1 ?_
    refine zam hl ?_
    exact fin _ (by rw [hpf, h5]; rfl)
  rw [h5, Bool.true_and] at hpf
  have hcb := validB_check h5
  refine gq1 ?_
  refine c_PutBatch (b := []) (by simp) hp.ops hp.batch ?_
  rw [List.nil_append, show zbD p.batch = zeE p.batch from if_pos hcb]
  refine gq1 ?_
  refine zoC (hT.app _) ?_
  refine gq1 ?_
  refine c_quPrimary ?_
  cases h6 : zdE L (zeE p.batch) with
  | none =>
    refine gq5 ?_
    refine zam hl ?_
    exact fin _ (by simp only [hpf, prepG, h6])
  | some i =>
    simp only [prepG, h6] at hpf
    simp only [numOf]
    cases h7 : (((i + 1 : Nat) : Int) == p.dig)
    · have h7' : (((i + 1 : Nat) : Int) != p.dig) = true := by simpa using h7
      refine gq38 h7' ?_
      refine zam hl ?_
      exact fin _ (by rw [hpf, h7]; rfl)
    have h7' : (((i + 1 : Nat) : Int) != p.dig) = false := by simpa using h7
    have h7e : ((i + 1 : Nat) : Int) = p.dig := by simpa using h7
    simp only [h7, Bool.true_and] at hpf
    rw [h7e] at h7' ⊢
    refine gq38 h7' ?_
    refine zjd (s := ⟨p.fkey, p.fdig⟩) (hT.app _) (hG.app _) hL hg ?_
    cases h8 : zko L G ⟨p.fkey, p.fdig⟩ (primF f p.view) 2 p.view p.seq p.dig
    · refine gq1 ?_
      refine zam hl ?_
      exact fin _ (by rw [hpf, prepH, h8]; rfl)
    rw [prepH, h8, Bool.true_and] at hpf
    have hw2 : IntKind.i64.wrap (2 * f) = 2 * f := zao (by omega) (by omega)
    have hlen : (zaL p.signs).length = p.signs.length := List.length_map ..
    cases h9 : ((p.signs.length : Int) == 2 * f)
    · have h9' : ((p.signs.length : Int) != 2 * f) = true := by simpa using h9
      refine gq2 (zo hw2 (zo hlen h9')) ?_
      refine zam hl ?_
      exact fin _ (by rw [hpf, h9]; rfl)
    have h9' : ((p.signs.length : Int) != 2 * f) = false := by simpa using h9
    rw [h9, Bool.true_and] at hpf
    refine gq2 (zo hw2 (zo hlen h9')) ?_
    refine zR p.signs.length (fun k vs s => ∃ last : Int, vs = [.d (.int .i64 last), .d (.int .i64 k)] ∧ (∃ T, s = σ ++ (.box [.d (.int .i64 p.view), .d (.int .i64 p.seq), .d (.int .i64 p.dig), .d (.int .i64 p.fkey), .d (.int .i64 p.fdig), .d (.slice (zaL p.signs)), .d (.slice (zbn p.batch))] :: T)) ∧
      zkX L G f p = votesF L G f (primF f p.view) p.view p.seq p.dig last (p.signs.drop k)) ⟨-1, rfl, ⟨_, rfl⟩, by simpa using hpf⟩ ?_
    rintro k vs s hk ⟨last, rfl, ⟨T, rfl⟩, hpf⟩
    by_cases hlt : k < p.signs.length
    · have hd : decide ((k : Int) < (p.signs.length : Int)) = true := by simp; omega
      have hx : p.signs[k]? = some p.signs[k] := by simp [hlt]
      have hgx := zaT (f := zgb) hx
      obtain ⟨x, hxe⟩ : ∃ x, p.signs[k] = x := ⟨_, rfl⟩
      rw [hxe] at hx hgx
      have hsl := hp.signs
      rw [votes_drop hx] at hpf
      have hw : IntKind.i64.wrap ((k : Int) + 1) = ((k + 1 : Nat) : Int) := by rw [zao (by omega) (by omega)]; rfl
      cases g1 : decide (x.key ≤ last)
      rotate_left
      · refine gq8 (zo hd (zo hgx (zo hlen g1))) ?_
        refine zam hl ?_
        exact fin _ (by rw [hpf, g1]; rfl)
      refine gq8 (zo hd (zo hgx (zo hlen g1))) ?_
      refine zmr ?_
      cases g2 : decide (x.key ≥ zkp 3 f)
      rotate_left
      · refine gq2 g2 ?_
        refine zam hl ?_
        exact fin _ (by rw [hpf, g1, g2]; rfl)
      cases g3 : (x.key == primF f p.view)
      rotate_left
      · refine gq2 (zo g2 g3) ?_
        refine zam hl ?_
        exact fin _ (by rw [hpf, g1, g2, g3]; rfl)
      rw [g1, g2, g3] at hpf
      simp only [Bool.not_false, Bool.true_and] at hpf
      refine gq2 (zo g2 g3) ?_
      refine zjd (s := x) (hT.app _) (hG.app _) hL hg ?_
      cases g4 : zko L G x x.key 3 p.view p.seq p.dig
      · rw [g4] at hpf
        refine gq1 ?_
        refine zam hl ?_
        exact fin _ hpf
      · rw [g4, Bool.true_and] at hpf
        refine gq2 hw ?_
        exact zbq.next hlt ⟨x.key, rfl, ⟨_, rfl⟩, hpf⟩
    · have hd : decide ((k : Int) < (p.signs.length : Int)) = false := by simp; omega
      rw [List.drop_eq_nil_of_le (by omega)] at hpf
      refine gq2 (zo hd hlen) ?_
      refine zam hl ?_
      exact fin _ hpf
end Go.Proofs.YtjjchfbckfopkaaGreat
