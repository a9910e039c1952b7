/- Contracts: certificates that are the same. -/
import Derived.Test.YtjjchfbckfopkaaGreatHe2
import Derived.Test.YtjjchfbckfopkaaGreatMu0
set_option linter.all false
set_option maxRecDepth 100000
set_option linter.unusedSimpArgs false
set_option linter.unusedVariables false
namespace Go.Proofs.YtjjchfbckfopkaaGreat
open Go.AW

section
variable {σ : List zb} {K : AV → List zb → Prop}
theorem ints2 (a b c d : Int) : zbw [AV.d (.int .i64 a), AV.d (.int .i64 b)] [AV.d (.int .i64 c), AV.d (.int .i64 d)] = some ((a == c) && (b == d)) := by simp [zbw]
theorem prep_eq (a b : zar) : decide (a = b) = ((a.view == b.view) && ((a.seq == b.seq) && ((a.dig == b.dig) && (((a.fkey == b.fkey) && (a.fdig == b.fdig)) && (decide (a.signs = b.signs) && decide (a.batch = b.batch)))))) := by
  cases a; cases b
  rw [Bool.eq_iff_iff]
  simp [and_assoc]
theorem c_sgSame {a b : List zM} (ha : a.length ≤ 1073741824) (hb : b.length ≤ 1073741824) (hK : K (.d (.bool (decide (a = b)))) σ) : zp Tryz.prog zfg [.d (.slice (zax a)), .d (.slice (zax b))] σ K := by
  refine zgK znb fun hl => ?_
  have fin : ∀ z, decide (a = b) = z → K (.d (.bool z)) σ := fun z h => h ▸ hK
  clear hK
  have hal : (zax a).length = a.length := List.length_map ..
  have hbl : (zax b).length = b.length := List.length_map ..
  simp only [zhM, iN, bT, bF, eN]
  cases hl0 : ((a.length : Int) != (b.length : Int))
  rotate_left
  · refine gq2 (zi hl0 (zi hal hbl)) ?_
    refine zad hl ?_
    refine fin _ (decide_eq_false fun h => ?_)
    rw [h] at hl0; simp at hl0
  have hl2 : a.length = b.length := by simp at hl0; omega
  refine gq2 (zi hl0 (zi hal hbl)) ?_
  refine zB a.length (fun k vs s => vs = [.d (.int .i64 k)] ∧ s = σ ∧ a.take k = b.take k) ⟨rfl, rfl, by simp⟩ ?_
  rintro k vs s hk ⟨rfl, rfl, htk⟩
  by_cases hlt : k < a.length
  · have hd : decide ((k : Int) < (a.length : Int)) = true := by simp; omega
    have hx : a[k]? = some a[k] := by simp [hlt]
    have hy : b[k]? = some (b[k]'(by omega)) := List.getElem?_eq_getElem _
    have hgx := zau (f := zej) hx
    have hgy := zau (f := zej) hy
    obtain ⟨x, hxe⟩ : ∃ x, a[k] = x := ⟨_, rfl⟩
    obtain ⟨y, hye⟩ : ∃ y, (b[k]'(by omega)) = y := ⟨_, rfl⟩
    rw [hxe] at hx hgx
    rw [hye] at hy hgy
    have hxy := ints2 x.key x.dig y.key y.dig
    cases he : ((x.key == y.key) && (x.dig == y.dig))
    · rw [he] at hxy
      refine gq8 (zi hd (zi hal (zi hgx (zi hgy hxy)))) ?_
      refine zad hl ?_
      refine fin _ (decide_eq_false fun h => ?_)
      subst h
      rw [hx] at hy
      cases Option.some.inj hy
      simp at he
    · rw [he] at hxy
      refine gq8 (zi hd (zi hal (zi hgx (zi hgy (zi hxy (wk1 k (by omega))))))) ?_
      refine zaP.next hlt ⟨rfl, rfl, zcx hx hy htk ?_⟩
      simp only [Bool.and_eq_true, beq_iff_eq] at he
      cases x; cases y
      simp only [zM.mk.injEq]
      exact he
  · have hd : decide ((k : Int) < (a.length : Int)) = false := by simp; omega
    rw [List.take_of_length_le (by omega), List.take_of_length_le (by omega)] at htk
    refine gq2 (zi hd hal) ?_
    refine zad hl ?_
    exact fin _ (decide_eq_true htk)
theorem zpb {p : zar} (h : zeL p) : zjo p.batch := ⟨h.batch, fun s hs => (zpc (h.ops s hs)).2.2⟩
theorem zmh {a b : zar} (ha : zeL a) (hb : zeL b) (hK : K (.d (.bool (decide (a = b)))) σ) : zp Tryz.prog zdz [zfd a, zfd b] σ K := by
  refine zgK znf fun hl => ?_
  simp only [zhR, iN, bT, bF, eN, zfd]
  (
  have fin : ∀ z, decide (a = b) = z → K (.d (.bool z)) σ := fun z h => h ▸ hK
  clear hK
  have hE := prep_eq a b
  have g0 : ∀ A B τ, (σ ++ A :: B :: τ)[σ.length]? = some A := fun A B τ => zm ..
  have hI := ints2 a.fkey a.fdig b.fkey b.fdig
  cases h1 : (a.view == b.view)
  · rw [h1, Bool.false_and] at hE
    refine gq2 h1 ?_
    refine zad hl ?_
    exact fin _ hE
  cases h2 : (a.seq == b.seq)
  · rw [h2, Bool.false_and, Bool.and_false] at hE
    refine gq2 (zi h1 h2) ?_
    refine zad hl ?_
    exact fin _ hE
  cases h3 : (a.dig == b.dig)
  · rw [h3, Bool.false_and, Bool.and_false, Bool.and_false] at hE
    refine gq2 (zi h1 (zi h2 h3)) ?_
    refine zad hl ?_
    exact fin _ hE
  cases h4 : ((a.fkey == b.fkey) && (a.fdig == b.fdig))
  · rw [h4] at hE hI
    rw [Bool.false_and, Bool.and_false, Bool.and_false, Bool.and_false] at hE
    refine gq2 (zi h1 (zi h2 (zi h3 hI))) ?_
    refine zad hl ?_
    exact fin _ hE
  rw [h4] at hI
  rw [h1, h2, h3, h4, Bool.true_and, Bool.true_and, Bool.true_and, Bool.true_and] at hE
  refine gq2 (zi h1 (zi h2 (zi h3 hI))) ?_
  )
  refine c_eqSign ha.signs ?_
  cases h5 : decide (a.signs = b.signs)
  · rw [h5, Bool.false_and] at hE
    refine gq1 ?_
    refine zad hl ?_
    exact fin _ hE
  rw [h5, Bool.true_and] at hE
  refine gq1 ?_
  refine c_rqPSame (zpb ha) (zpb hb) ?_
  refine gq1 ?_
  refine zad hl ?_
  exact fin _ hE
theorem zno {a b : zar} (ha : zeL a) (hb : zeL b) (hK : K (.d (.bool (decide (a = b)))) σ) : zp Tryz.prog zdx [zfd a, zfd b] σ K := by
  refine zgK znc fun hl => ?_
  simp only [zhN, iN, bT, bF, eN, zfd]
  (
  have fin : ∀ z, decide (a = b) = z → K (.d (.bool z)) σ := fun z h => h ▸ hK
  clear hK
  have hE := prep_eq a b
  have g0 : ∀ A B τ, (σ ++ A :: B :: τ)[σ.length]? = some A := fun A B τ => zm ..
  have hI := ints2 a.fkey a.fdig b.fkey b.fdig
  cases h1 : (a.view == b.view)
  · rw [h1, Bool.false_and] at hE
    refine gq2 h1 ?_
    refine zad hl ?_
    exact fin _ hE
  cases h2 : (a.seq == b.seq)
  · rw [h2, Bool.false_and, Bool.and_false] at hE
    refine gq2 (zi h1 h2) ?_
    refine zad hl ?_
    exact fin _ hE
  cases h3 : (a.dig == b.dig)
  · rw [h3, Bool.false_and, Bool.and_false, Bool.and_false] at hE
    refine gq2 (zi h1 (zi h2 h3)) ?_
    refine zad hl ?_
    exact fin _ hE
  cases h4 : ((a.fkey == b.fkey) && (a.fdig == b.fdig))
  · rw [h4] at hE hI
    rw [Bool.false_and, Bool.and_false, Bool.and_false, Bool.and_false] at hE
    refine gq2 (zi h1 (zi h2 (zi h3 hI))) ?_
    refine zad hl ?_
    exact fin _ hE
  rw [h4] at hI
  rw [h1, h2, h3, h4, Bool.true_and, Bool.true_and, Bool.true_and, Bool.true_and] at hE
  refine gq2 (zi h1 (zi h2 (zi h3 hI))) ?_
  )
  refine c_sgSame ha.signs hb.signs ?_
  cases h5 : decide (a.signs = b.signs)
  · rw [h5, Bool.false_and] at hE
    refine gq1 ?_
    refine zad hl ?_
    exact fin _ hE
  rw [h5, Bool.true_and] at hE
  refine gq1 ?_
  refine c_rqSame (zpb ha) (zpb hb) ?_
  refine gq1 ?_
  refine zad hl ?_
  exact fin _ hE
theorem c_sameAll {a b : List zar} (ha0 : a.length ≤ 1000000) (hb0 : b.length ≤ 1000000) (ha : ∀ p ∈ a, zeL p) (hb : ∀ p ∈ b, zeL p) (hK : K (.d (.bool (decide (a = b)))) σ) : zp Tryz.prog zgx [.d (.slice (zcL a)), .d (.slice (zcL b))] σ K := by
  refine zgK zpC fun hl => ?_
  have fin : ∀ z, decide (a = b) = z → K (.d (.bool z)) σ := fun z h => h ▸ hK
  clear hK
  have hal : (zcL a).length = a.length := List.length_map ..
  have hbl : (zcL b).length = b.length := List.length_map ..
  simp only [zjY, iN, bT, bF, eN]
  cases hl0 : ((a.length : Int) != (b.length : Int))
  rotate_left
  · refine gq2 (zi hl0 (zi hal hbl)) ?_
    refine zad hl ?_
    refine fin _ (decide_eq_false fun h => ?_)
    rw [h] at hl0; simp at hl0
  have hl2 : a.length = b.length := by simp at hl0; omega
  refine gq2 (zi hl0 (zi hal hbl)) ?_
  refine zB a.length (fun k vs s => vs = [.d (.int .i64 k)] ∧ s = σ ∧ a.take k = b.take k) ⟨rfl, rfl, by simp⟩ ?_
  rintro k vs s hk ⟨rfl, rfl, htk⟩
  by_cases hlt : k < a.length
  · have hd : decide ((k : Int) < (a.length : Int)) = true := by simp; omega
    have hx : a[k]? = some a[k] := by simp [hlt]
    have hy : b[k]? = some (b[k]'(by omega)) := List.getElem?_eq_getElem _
    have hgx := zau (f := zeU) hx
    have hgy := zau (f := zeU) hy
    have hxs := ha _ (List.getElem_mem hlt)
    have hys := hb _ (List.getElem_mem (show k < b.length by omega))
    obtain ⟨x, hxe⟩ : ∃ x, a[k] = x := ⟨_, rfl⟩
    obtain ⟨y, hye⟩ : ∃ y, (b[k]'(by omega)) = y := ⟨_, rfl⟩
    rw [hxe] at hx hgx hxs
    rw [hye] at hy hgy hys
    refine gq8 (zi hd (zi hal (zi hgx hgy))) ?_
    refine zno (a := x) (b := y) hxs hys ?_
    cases he : decide (x = y)
    · refine gq1 ?_
      refine zad hl ?_
      refine fin _ (decide_eq_false fun h => ?_)
      subst h
      rw [hx] at hy
      cases Option.some.inj hy
      simp at he
    · refine gq2 (wk1 k (by omega)) ?_
      exact zaP.next hlt ⟨rfl, rfl, zcx hx hy htk (by simpa using he)⟩
  · have hd : decide ((k : Int) < (a.length : Int)) = false := by simp; omega
    rw [List.take_of_length_le (by omega), List.take_of_length_le (by omega)] at htk
    refine gq2 (zi hd hal) ?_
    refine zad hl ?_
    exact fin _ (decide_eq_true htk)
end

end Go.Proofs.YtjjchfbckfopkaaGreat
