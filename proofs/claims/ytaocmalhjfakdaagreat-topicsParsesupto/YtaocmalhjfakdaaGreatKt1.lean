/- Contracts: the document's reader of topics: what was told, a topic. -/
import Derived.Test.YtaocmalhjfakdaaGreatRd1
import Derived.Test.YtaocmalhjfakdaaGreatKs9
import Derived.Test.YtaocmalhjfakdaaGreatSpRqP
set_option linter.all false
set_option maxRecDepth 100000
set_option linter.unusedSimpArgs false
set_option linter.unusedVariables false
namespace Go.Proofs.YtaocmalhjfakdaaGreat
open Go.AW

structure RrA (σ : List zc) (id : Nat) (s : Rd) : Prop where
  at_ : ∃ c, σ[id]? = some (rrO c s.e) ∧ zhQ c s
  len : s.b.length ≤ 1073741824
theorem RrA.lt {σ : List zc} {id : Nat} {s : Rd} (h : RrA σ id s) : id < σ.length := by
  obtain ⟨⟨c, h1, h2⟩, h3⟩ := h
  exact zg h1
theorem RrA.app {σ : List zc} {id : Nat} {s : Rd} (h : RrA σ id s) (τ : List zc) : RrA (σ ++ τ) id s := by
  obtain ⟨⟨c, h1, h2⟩, h3⟩ := h
  exact ⟨⟨c, zf h1, h2⟩, h3⟩
theorem RrA.keep {σ S : List zc} {id : Nat} {s : Rd} (h : RrA σ id s) (hs : S[id]? = σ[id]?) : RrA S id s := by
  obtain ⟨⟨c, h1, h2⟩, h3⟩ := h
  exact ⟨⟨c, hs.trans h1, h2⟩, h3⟩
theorem RrA.set {σ : List zc} {id j : Nat} {s : Rd} (h : RrA σ id s) (hj : j ≠ id) (X : zc) : RrA (σ.set j X) id s := h.keep (List.getElem?_set_ne hj)
section

variable {σ : List zc} {id : Nat} {s : Rd} {K : KT}

theorem zhO {m : Nat} (hm : m < 18446744073709551616) (h : RrA σ id s) (hK : ∀ S, RrA S id (zax true m s).2 → Rst σ S id → K (.d (.int .u64 (zax true m s).1)) S) : zn Tryz.prog zJ [.box id 0, .d (.int .u64 m)] σ K := by
  obtain ⟨⟨c, h1, h2⟩, h3⟩ := h
  have hlt := zg h1
  exact c_rrNum hm h1 h2 h3 fun c' hc' => hK _ ⟨⟨c', List.getElem?_set_self hlt, hc'⟩, by have := zmX true m s; omega⟩ (.set0 _ _ _)
theorem znB {m : Nat} (hm : m < 9223372036854775808) (h : RrA σ id s) (hK : ∀ S, RrA S id (zaJ true m s).2 → Rst σ S id → K (.d (.slice (bcs (zaJ true m s).1))) S) : zn Tryz.prog zbg [.box id 0, .d (.int .i64 m)] σ K := by
  obtain ⟨⟨c, h1, h2⟩, h3⟩ := h
  have hlt := zg h1
  exact c_rrBytes hm h1 h2 h3 fun c' hc' => hK _ ⟨⟨c', List.getElem?_set_self hlt, hc'⟩, by have := bytesP_lenC true m s; omega⟩ (.set0 _ _ _)
def toldL : List Nat := [0, 4, 5, 6, 71, 72, 60, 61, 62]
theorem told_mem (e : Nat) : zdb e = decide (e ∈ toldL) := by
  simp [zdb, toldL]
theorem c_told {e : Nat} (hK : K (.d (.bool (zdb e))) σ) : zn Tryz.prog zje [.d (.int .i64 e)] σ K := by
  refine zmx e_r07_told fun hl => ?_
  simp only [zoC, iN, bT, bF, eN]
  refine zby ?_
  have hch : zao 1 9 [D.int .i64 0, D.int .i64 4, D.int .i64 5, D.int .i64 6, D.int .i64 71, D.int .i64 72, D.int .i64 60, D.int .i64 61, D.int .i64 62] = [[D.int .i64 0], [D.int .i64 4], [D.int .i64 5], [D.int .i64 6], [D.int .i64 71], [D.int .i64 72], [D.int .i64 60], [D.int .i64 61], [D.int .i64 62]] := rfl
  refine zF 9 (fun k vs s => vs = [.d (.int .i64 k)] ∧ s = σ ∧ ∀ x ∈ toldL.take k, x ≠ e) ⟨rfl, rfl, by simp⟩ ?_
  rintro k vs s hk ⟨rfl, rfl, hp⟩
  by_cases hlt : k < 9
  · have hd : decide ((k : Int) < ((9 : Nat) : Int)) = true := by simp; omega
    obtain ⟨x, hx⟩ : ∃ x, toldL[k]? = some x := ⟨_, List.getElem?_eq_getElem (by simpa [toldL] using hlt)⟩
    have hg : ([[D.int .i64 0], [D.int .i64 4], [D.int .i64 5], [D.int .i64 6], [D.int .i64 71], [D.int .i64 72], [D.int .i64 60], [D.int .i64 61], [D.int .i64 62]] : List (List D))[k]? = some [.int .i64 x] := zbo (f := fun (n : Nat) => [D.int .i64 (n : Int)]) hx
    cases h1 : ((x : Int) == (e : Int))
    · refine zt (zb hd (zb hch (zb hg (zb h1 (wkc k (by omega)))))) ?_
      refine zbC.next hlt ⟨rfl, rfl, fun y hy => ?_⟩
      rw [List.take_add_one, hx] at hy
      rcases List.mem_append.1 hy with hy | hy
      · exact hp y hy
      · simp at hy; subst hy
        simp at h1; omega
    · have he : x = e := by simp at h1; omega
      rw [told_mem, decide_eq_true (by rw [← he]; exact List.mem_of_getElem? hx)] at hK
      refine zt (zb hd (zb hch (zb hg h1))) ?_
      refine zdv hl ?_
      exact hK
  · have hd : decide ((k : Int) < ((9 : Nat) : Int)) = false := by simp; omega
    rw [told_mem, decide_eq_false (fun h => by
      rw [List.take_of_length_le (by simp [toldL]; omega)] at hp
      exact hp e h rfl)] at hK
    refine zt hd ?_
    refine zdv hl ?_
    exact hK
end

end Go.Proofs.YtaocmalhjfakdaaGreat
