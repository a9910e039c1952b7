/- Contracts: votes, on both sides. -/
import Derived.Test.YtcappjcojggehaaGreatRq5
import Derived.Test.YtcappjcojggehaaGreatSpNv
import Derived.Test.YtcappjcojggehaaGreatSpVote
set_option linter.all false
set_option maxRecDepth 100000
set_option linter.unusedSimpArgs false
set_option linter.unusedVariables false
namespace Go.Proofs.YtcappjcojggehaaGreat
open Go.AW

theorem c_auMay {σ : List AObj} {a b c d : Int} {K : AV → List AObj → Prop} (hK : K (.d (.bool (mayV a b c d))) σ) :
    ACall Tryz.prog zjr [.d (.int .i64 a), .d (.int .i64 b), .d (.int .i64 c), .d (.int .i64 d)] σ K := by
  refine zo isA_auth_may rfl fun hl _ => s_auth_may ?_
  rw [mayV_all] at hK
  simp only [znA]
  (repeat' (first | (refine gq1 ?_; try with_reducible exact True.intro) | ((with_reducible refine And.intro ?_ ?_); focus (first | omega | rfl | decide | (simp; done)))))
  have hg : ∀ (k : Nat) x, [a, b, c, d][k]? = some x → [[D.int .i64 a], [D.int .i64 b], [D.int .i64 c], [D.int .i64 d]][k]? = some [D.int .i64 x] := fun k x h => by
    have := zas (f := fun t => [D.int .i64 t]) h
    simpa using this
  have hl4 : [a, b, c, d].length = 4 := rfl
  obtain ⟨l, hlq⟩ : ∃ l, [a, b, c, d] = l := ⟨_, rfl⟩
  rw [hlq] at hK hl4 hg
  refine zU 4 (fun k vs s => vs = [.d (.int .i64 k)] ∧ (∃ T, s = σ ++ T) ∧ (l.take k).all numOk = true) ⟨rfl, ⟨[], (List.append_nil σ).symm⟩, by simp⟩ ?_
  rintro k vs s hk ⟨rfl, ⟨T, rfl⟩, hok⟩
  by_cases hlt : k < 4
  · have hd : decide ((k : Int) < ((4 : Nat) : Int)) = true := by simp; omega
    have hx : l[k]? = some (l[k]'(by omega)) := List.getElem?_eq_getElem _
    have hgx := hg k _ hx
    obtain ⟨x, hxe⟩ : ∃ x, (l[k]'(by omega)) = x := ⟨_, rfl⟩
    rw [hxe] at hx hgx
    have bad : numOk x = false → l.all numOk = false := fun h => by
      rw [Bool.eq_false_iff]
      intro hall
      have := List.all_eq_true.1 hall x (List.mem_of_getElem? hx)
      rw [h] at this; cases this
    have hx2 : numOk x = (decide (0 ≤ x) && decide (x ≤ 9007199254740992)) := by simp [numOk]
    cases h1 : decide (x < 0)
    · cases h2 : decide (x > 9007199254740992)
      · (repeat' (first | (refine gq2 (gqc0 hd (gqc0 hgx (gqc0 h1 (gqc0 h2 (wki k (by omega)))))) ?_; try with_reducible exact True.intro) | ((with_reducible refine And.intro ?_ ?_); focus (first | omega | rfl | decide | (simp; done)))))
        refine Again.next hlt ⟨rfl, ⟨_, rfl⟩, ?_⟩
        rw [List.take_add_one, hx]
        simp only [List.all_append, hok, Option.toList_some, List.all_cons, List.all_nil, Bool.true_and, Bool.and_true]
        simp at h1 h2
        simp [numOk]; omega
      · rw [bad (by simp at h2; simp [numOk]; omega)] at hK
        (repeat' (first | (refine gq2 (gqc0 hd (gqc0 hgx (gqc0 h1 h2))) ?_; try with_reducible exact True.intro) | ((with_reducible refine And.intro ?_ ?_); focus (first | omega | rfl | decide | (simp; done)))))
        (first | refine zg (by simp [Low_d, dmT, dm, dm1, pack, zd, ze, zb]) hl ?_ | refine zf (by simp [Low_d, dmT, dm, dm1, pack, zd, ze, zb]) hl ?_)
        exact hK
    · rw [bad (by simp at h1; simp [numOk]; omega)] at hK
      (repeat' (first | (refine gq2 (gqc0 hd (gqc0 hgx h1)) ?_; try with_reducible exact True.intro) | ((with_reducible refine And.intro ?_ ?_); focus (first | omega | rfl | decide | (simp; done)))))
      (first | refine zg (by simp [Low_d, dmT, dm, dm1, pack, zd, ze, zb]) hl ?_ | refine zf (by simp [Low_d, dmT, dm, dm1, pack, zd, ze, zb]) hl ?_)
      exact hK
  · have hd : decide ((k : Int) < ((4 : Nat) : Int)) = false := by simp; omega
    rw [List.take_of_length_le (by omega)] at hok
    rw [hok] at hK
    (repeat' (first | (refine gq2 hd ?_; try with_reducible exact True.intro) | ((with_reducible refine And.intro ?_ ?_); focus (first | omega | rfl | decide | (simp; done)))))
    (first | refine zg (by simp [Low_d, dmT, dm, dm1, pack, zd, ze, zb]) hl ?_ | refine zf (by simp [Low_d, dmT, dm, dm1, pack, zd, ze, zb]) hl ?_)
    exact hK
theorem c_auPut {σ : List AObj} {b : List UInt8} {l : List Int} (hb : b.length ≤ 1000000) (hl0 : l.length ≤ 1000) (hi : ∀ x ∈ l, 0 ≤ x ∧ x ≤ 9007199254740992) {K : AV → List AObj → Prop} (hK : K (.d (.slice (bcs (b ++ numsB l)))) σ) :
    ACall Tryz.prog zjq [.d (.slice (bcs b)), .d (.slice (intsE l))] σ K := by
  refine zo isA_auth_put rfl fun hl _ => s_auth_put ?_
  simp only [znz]
  (repeat' (first | (refine gq1 ?_; try with_reducible exact True.intro) | ((with_reducible refine And.intro ?_ ?_); focus (first | omega | rfl | decide | (simp; done)))))
  refine zU l.length (fun k vs s => (∃ x, vs = [x, .d (.int .i64 k)] ∧ (x = .d (.slice (bcs (b ++ numsB (l.take k)))) ∨ ∃ t, x = .own t (bcs (b ++ numsB (l.take k))))) ∧ ∃ T, s = σ ++ T) ⟨⟨_, rfl, .inl (by simp [numsB])⟩, [], by simp⟩ ?_
  rintro k vs s hk ⟨⟨y, rfl, hy⟩, T, rfl⟩
  have hdy : dm y = .d (.slice (bcs (b ++ numsB (l.take k)))) := by
    rcases hy with rfl | ⟨t, rfl⟩ <;> rfl
  by_cases hlt : k < l.length
  · have hd : decide ((k : Int) < (l.length : Int)) = true := by simp; omega
    have hx : l[k]? = some l[k] := by simp [hlt]
    have hxi := hi _ (List.getElem_mem hlt)
    have hgx := zas (f := fun t => [D.int .i64 t]) hx
    obtain ⟨x, hxe⟩ : ∃ x, l[k] = x := ⟨_, rfl⟩
    rw [hxe] at hx hgx hxi
    have hm1 : (if x > 0 then x else 0) = x := by split <;> omega
    have hm2 : (if 0 < x then x else 0) = x := by split <;> omega
    have hw : IntKind.u64.wrap x = ((x.toNat : Nat) : Int) := by
      rw [show x = ((x.toNat : Nat) : Int) by omega, zbf (by omega)]; rfl
    have hln := numsB_len (l := l.take k) (fun y hy => by have := hi y (List.mem_of_mem_take hy); omega)
    have hlk : (l.take k).length = k := by rw [List.length_take]; omega
    have hw2 : IntKind.i64.wrap ((k : Int) + 1) = ((k + 1 : Nat) : Int) := by rw [zad (by omega) (by omega)]; rfl
    have hbl : (b ++ numsB (l.take k)).length ≤ 1073741824 := by rw [List.length_append]; omega
    rcases hy with rfl | ⟨t, rfl⟩
    · (repeat' (first | (refine gq2 (gqc0 hd (gqc0 hgx (gqc0 hm1 (gqc0 hm2 hw)))) ?_; try with_reducible exact True.intro) | ((with_reducible refine And.intro ?_ ?_); focus (first | omega | rfl | decide | (simp; done)))))
      refine zdb (by omega) hbl ?_
      (repeat' (first | (refine gq2 hw2 ?_; try with_reducible exact True.intro) | ((with_reducible refine And.intro ?_ ?_); focus (first | omega | rfl | decide | (simp; done)))))
      exact Again.next hlt ⟨⟨_, rfl, .inr ⟨_, by rw [zmT hx]⟩⟩, _, rfl⟩
    · (repeat' (first | (refine gq2 (gqc0 hd (gqc0 hgx (gqc0 hm1 (gqc0 hm2 hw)))) ?_; try with_reducible exact True.intro) | ((with_reducible refine And.intro ?_ ?_); focus (first | omega | rfl | decide | (simp; done)))))
      refine zdb (by omega) hbl ?_
      (repeat' (first | (refine gq2 hw2 ?_; try with_reducible exact True.intro) | ((with_reducible refine And.intro ?_ ?_); focus (first | omega | rfl | decide | (simp; done)))))
      exact Again.next hlt ⟨⟨_, rfl, .inr ⟨_, by rw [zmT hx]⟩⟩, _, rfl⟩
  · have hd : decide ((k : Int) < (l.length : Int)) = false := by simp; omega
    rw [List.take_of_length_le (by omega)] at hy
    rcases hy with rfl | ⟨t, rfl⟩
    · (repeat' (first | (refine gq2 hd ?_; try with_reducible exact True.intro) | ((with_reducible refine And.intro ?_ ?_); focus (first | omega | rfl | decide | (simp; done)))))
      (first | refine zg (by simp [Low_d, dmT, dm, dm1, pack, zd, ze, zb]) hl ?_ | refine zf (by simp [Low_d, dmT, dm, dm1, pack, zd, ze, zb]) hl ?_)
      exact hK
    · (repeat' (first | (refine gq2 hd ?_; try with_reducible exact True.intro) | ((with_reducible refine And.intro ?_ ?_); focus (first | omega | rfl | decide | (simp; done)))))
      (first | refine zg (by simp [Low_d, dmT, dm, dm1, pack, zd, ze, zb]) hl ?_ | refine zf (by simp [Low_d, dmT, dm, dm1, pack, zd, ze, zb]) hl ?_)
      exact hK
end Go.Proofs.YtcappjcojggehaaGreat
