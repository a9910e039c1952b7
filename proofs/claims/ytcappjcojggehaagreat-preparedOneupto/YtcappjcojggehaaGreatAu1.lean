/- Contracts: votes, on both sides. -/
import Derived.Test.YtcappjcojggehaaGreatRq5
import Derived.Test.YtcappjcojggehaaGreatSpNv
import Derived.Test.YtcappjcojggehaaGreatSpVote
set_option linter.all false
set_option maxRecDepth 100000
set_option linter.unusedSimpArgs false
set_option linter.unusedVariables false
namespace Go.Proofs.YtcappjcojggehaaGreat
open Go.AW

theorem c_auMay {σ : List zb} {a b c d : Int} {K : AV → List zb → Prop} (hK : K (.d (.bool (zjW a b c d))) σ) :
    zN Tryz.prog zjT [.d (.int .i64 a), .d (.int .i64 b), .d (.int .i64 c), .d (.int .i64 d)] σ K := by
  refine zk znC.is rfl fun hl _ => znC.goes ?_
  rw [mayV_all] at hK
  simp only [znY, iN, bT, bF, eN]
  (repeat' first | refine gq1 ?_ | with_reducible first | exact ⟨⟩ | refine zA ?_ | fail)
  have hg : ∀ (k : Nat) x, [a, b, c, d][k]? = some x → [[D.int .i64 a], [D.int .i64 b], [D.int .i64 c], [D.int .i64 d]][k]? = some [D.int .i64 x] := fun k x h => by
    have := zaT (f := fun t => [D.int .i64 t]) h
    simpa using this
  have hl4 : [a, b, c, d].length = 4 := rfl
  obtain ⟨l, hlq⟩ : ∃ l, [a, b, c, d] = l := ⟨_, rfl⟩
  rw [hlq] at hK hl4 hg
  refine zV 4 (fun k vs s => vs = [.d (.int .i64 k)] ∧ (∃ T, s = σ ++ T) ∧ (l.take k).all zev = true) ⟨rfl, ⟨[], (List.append_nil σ).symm⟩, by simp⟩ ?_
  rintro k vs s hk ⟨rfl, ⟨T, rfl⟩, hok⟩
  by_cases hlt : k < 4
  · have hd : decide ((k : Int) < ((4 : Nat) : Int)) = true := by simp; omega
    have hx : l[k]? = some (l[k]'(by omega)) := List.getElem?_eq_getElem _
    have hgx := hg k _ hx
    obtain ⟨x, hxe⟩ : ∃ x, (l[k]'(by omega)) = x := ⟨_, rfl⟩
    rw [hxe] at hx hgx
    have bad : zev x = false → l.all zev = false := fun h => by
      rw [Bool.eq_false_iff]
      intro hall
      have := List.all_eq_true.1 hall x (List.mem_of_getElem? hx)
      rw [h] at this; cases this
    have hx2 : zev x = (decide (0 ≤ x) && decide (x ≤ 9007199254740992)) := by simp [zev]
    cases h1 : decide (x < 0)
    · cases h2 : decide (x > 9007199254740992)
      · (repeat' first | refine gq2 (zu hd (zu hgx (zu h1 (zu h2 (wki k (by omega)))))) ?_ | with_reducible first | exact ⟨⟩ | refine zA ?_ | fail)
        refine zaR.next hlt ⟨rfl, ⟨_, rfl⟩, ?_⟩
        rw [List.take_add_one, hx]
        simp only [List.all_append, hok, Option.toList_some, List.all_cons, List.all_nil, Bool.true_and, Bool.and_true]
        simp at h1 h2
        simp [zev]; omega
      · rw [bad (by simp at h2; simp [zev]; omega)] at hK
        (repeat' first | refine gq2 (zu hd (zu hgx (zu h1 h2))) ?_ | with_reducible first | exact ⟨⟩ | refine zA ?_ | fail)
        (first | refine zar hl ?_ | refine zaq hl ?_)
        exact hK
    · rw [bad (by simp at h1; simp [zev]; omega)] at hK
      (repeat' first | refine gq2 (zu hd (zu hgx h1)) ?_ | with_reducible first | exact ⟨⟩ | refine zA ?_ | fail)
      (first | refine zar hl ?_ | refine zaq hl ?_)
      exact hK
  · have hd : decide ((k : Int) < ((4 : Nat) : Int)) = false := by simp; omega
    rw [List.take_of_length_le (by omega)] at hok
    rw [hok] at hK
    (repeat' first | refine gq2 hd ?_ | with_reducible first | exact ⟨⟩ | refine zA ?_ | fail)
    (first | refine zar hl ?_ | refine zaq hl ?_)
    exact hK
theorem c_auPut {σ : List zb} {b : List UInt8} {l : List Int} (hb : b.length ≤ 1000000) (hl0 : l.length ≤ 1000) (hi : ∀ x ∈ l, 0 ≤ x ∧ x ≤ 9007199254740992) {K : AV → List zb → Prop} (hK : K (.d (.slice (bcs (b ++ zix l)))) σ) :
    zN Tryz.prog zjS [.d (.slice (bcs b)), .d (.slice (zlJ l))] σ K := by
  refine zk znB.is rfl fun hl _ => znB.goes ?_
  simp only [znX, iN, bT, bF, eN]
  (repeat' first | refine gq1 ?_ | with_reducible first | exact ⟨⟩ | refine zA ?_ | fail)
  refine zV l.length (fun k vs s => (∃ x, vs = [x, .d (.int .i64 k)] ∧ (x = .d (.slice (bcs (b ++ zix (l.take k)))) ∨ ∃ t, x = .own t (bcs (b ++ zix (l.take k))))) ∧ ∃ T, s = σ ++ T) ⟨⟨_, rfl, .inl (by simp [zix])⟩, [], by simp⟩ ?_
  rintro k vs s hk ⟨⟨y, rfl, hy⟩, T, rfl⟩
  have hdy : dm y = .d (.slice (bcs (b ++ zix (l.take k)))) := by
    rcases hy with rfl | ⟨t, rfl⟩ <;> rfl
  by_cases hlt : k < l.length
  · have hd : decide ((k : Int) < (l.length : Int)) = true := by simp; omega
    have hx : l[k]? = some l[k] := by simp [hlt]
    have hxi := hi _ (List.getElem_mem hlt)
    have hgx := zaT (f := fun t => [D.int .i64 t]) hx
    obtain ⟨x, hxe⟩ : ∃ x, l[k] = x := ⟨_, rfl⟩
    rw [hxe] at hx hgx hxi
    have hm1 : (if x > 0 then x else 0) = x := by split <;> omega
    have hm2 : (if 0 < x then x else 0) = x := by split <;> omega
    have hw : IntKind.u64.wrap x = ((x.toNat : Nat) : Int) := by
      rw [show x = ((x.toNat : Nat) : Int) by omega, zbV (by omega)]; rfl
    have hln := numsB_len (l := l.take k) (fun y hy => by have := hi y (List.mem_of_mem_take hy); omega)
    have hlk : (l.take k).length = k := by rw [List.length_take]; omega
    have hw2 : IntKind.i64.wrap ((k : Int) + 1) = ((k + 1 : Nat) : Int) := by rw [zaj (by omega) (by omega)]; rfl
    have hbl : (b ++ zix (l.take k)).length ≤ 1073741824 := by rw [List.length_append]; omega
    rcases hy with rfl | ⟨t, rfl⟩
    · (repeat' first | refine gq2 (zu hd (zu hgx (zu hm1 (zu hm2 hw)))) ?_ | with_reducible first | exact ⟨⟩ | refine zA ?_ | fail)
      refine zdN (by omega) hbl ?_
      (repeat' first | refine gq2 hw2 ?_ | with_reducible first | exact ⟨⟩ | refine zA ?_ | fail)
      exact zaR.next hlt ⟨⟨_, rfl, .inr ⟨_, by rw [zmW hx]⟩⟩, _, rfl⟩
    · (repeat' first | refine gq2 (zu hd (zu hgx (zu hm1 (zu hm2 hw)))) ?_ | with_reducible first | exact ⟨⟩ | refine zA ?_ | fail)
      refine zdN (by omega) hbl ?_
      (repeat' first | refine gq2 hw2 ?_ | with_reducible first | exact ⟨⟩ | refine zA ?_ | fail)
      exact zaR.next hlt ⟨⟨_, rfl, .inr ⟨_, by rw [zmW hx]⟩⟩, _, rfl⟩
  · have hd : decide ((k : Int) < (l.length : Int)) = false := by simp; omega
    rw [List.take_of_length_le (by omega)] at hy
    rcases hy with rfl | ⟨t, rfl⟩
    · (repeat' first | refine gq2 hd ?_ | with_reducible first | exact ⟨⟩ | refine zA ?_ | fail)
      (first | refine zar hl ?_ | refine zaq hl ?_)
      exact hK
    · (repeat' first | refine gq2 hd ?_ | with_reducible first | exact ⟨⟩ | refine zA ?_ | fail)
      (first | refine zar hl ?_ | refine zaq hl ?_)
      exact hK
end Go.Proofs.YtcappjcojggehaaGreat
