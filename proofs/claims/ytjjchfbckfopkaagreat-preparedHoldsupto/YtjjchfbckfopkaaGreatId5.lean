/- A ledger's clone, whatever was signed. -/
import Derived.Test.YtjjchfbckfopkaaGreatId3
import Derived.Test.YtjjchfbckfopkaaGreatSpTab
import Derived.Test.YtjjchfbckfopkaaGreatSpRd
import Derived.Test.YtjjchfbckfopkaaGreatRq4
set_option linter.all false
set_option maxRecDepth 100000
set_option linter.unusedSimpArgs false
set_option linter.unusedVariables false
namespace Go.Proofs.YtjjchfbckfopkaaGreat
open Go.AW

theorem c_gClone {σ : List zb} {id m t : Nat} {g : List zP} (hG : zdg σ id m t g) (hg : g.length ≤ 1073741824) {K : AV → List zb → Prop}
    (hK : ∀ g' : List zP, K (.box (σ.length + 1) 0) (σ ++ ledO σ.length g')) : zt Tryz.prog zbZ [.box id 0] σ K := by
  refine zbH zeY.is rfl (fun s => List.range' σ.length 3) fun hl _ => zeY.goes ?_
  have hbx : ∀ τ, (σ ++ τ)[id]? = _ := fun τ => ze hG.box
  have hlen : (zke g).length = g.length := List.length_map ..
  simp only [zfd, iN, bT, bF, eN]
  refine gq1 ?_
  refine c_gNone hG ?_
  refine gq2 hbx ?_
  refine znG ?_
  refine gq2 (zj hbx hlen) ?_
  refine zC g.length (fun k vs s => vs = [.d (.int .i64 k)] ∧ ∃ g' τ, g'.length ≤ k ∧ s = σ ++ (ledO σ.length g' ++ τ)) ⟨rfl, [], [], by simp, by simp [zke, znV]⟩ ?_
  rintro k vs s hk ⟨rfl, g', τ, hg', rfl⟩
  by_cases hlt : k < g.length
  · have hd : decide ((k : Int) < (g.length : Int)) = true := by simp; omega
    have hx : g[k]? = some g[k] := by simp [hlt]
    obtain ⟨x, hxe⟩ : ∃ x, g[k] = x := ⟨_, rfl⟩
    rw [hxe] at hx
    have hgx : (zke g)[k]? = some [D.int .i64 x.key, D.int .i64 x.dig] := by rw [zke]; exact zax hx
    refine gq2 (zj hd (zj hgx hlen)) ?_
    have hL : ∀ τ', zdg (σ ++ (ledO σ.length g' ++ τ')) (σ.length + 1) σ.length (σ.length + 2) g' := fun τ' => ledAt_new σ g' τ'
    refine c_gSign (hL (τ ++ [.box [.d (.int .i64 x.key), .d (.int .i64 x.dig)]])) (by omega) ?_
    have hP := putLed_new σ g' (zfm g' x.key x.dig) (τ ++ [.box [.d (.int .i64 x.key), .d (.int .i64 x.dig)]])
    rw [hP]
    have hw : IntKind.i64.wrap ((k : Int) + 1) = ((k + 1 : Nat) : Int) := by rw [zap (by omega) (by omega)]; rfl
    refine gq2 hw ?_
    refine zaQ.next hlt ⟨rfl, zfm g' x.key x.dig, τ ++ [.box [.d (.int .i64 x.key), .d (.int .i64 x.dig)]], ?_, by simp [ledO]⟩
    unfold zfm znX
    split
    · split
      · omega
      · simp; omega
    · omega
  · have hd : decide ((k : Int) < (g.length : Int)) = false := by simp; omega
    refine gq2 (zj hlen hd) ?_
    exact zhO (σ' := σ) (os := ledO σ.length g') (τ := τ) rfl rfl hl (low_ledO _ _) (.box _ _ (by simp)) (hK g')
end Go.Proofs.YtjjchfbckfopkaaGreat

/- Votes: their bytes, and whether they are signed. No program in sight. -/
set_option linter.unusedSimpArgs false
set_option linter.unusedVariables false
namespace Go.AW

abbrev intsE (l : List Int) : List (List D) := l.map fun t => [D.int .i64 t]
def zfM (x : Int) : Bool := decide (0 ≤ x ∧ x ≤ 9007199254740992)
def znU (a b c d : Int) : Bool := zfM a && (zfM b && (zfM c && zfM d))
def zjO (l : List Int) : List UInt8 := (l.map fun x => zcG x.toNat).flatten
def zhB (a b c d : Int) : List UInt8 := 4 :: zjO [a, b, c, d]
theorem zmT {x : Int} : zfM x = true ↔ 0 ≤ x ∧ x ≤ 9007199254740992 := by simp [zfM]
theorem zoz {l : List Int} {k : Nat} {x : Int} (h : l[k]? = some x) : zjO (l.take (k + 1)) = zjO (l.take k) ++ zcG x.toNat := by
  rw [List.take_add_one, h]; simp [zjO]
theorem numsB_len {l : List Int} (h : ∀ x ∈ l, x < 9223372036854775808) : (zjO l).length ≤ l.length * 10 := by
  induction l with
  | nil => simp [zjO]
  | cons x l ih =>
    have h1 := h x (by simp)
    have h2 := zO (n := x.toNat) (by omega)
    have h3 := ih fun y hy => h y (by simp [hy])
    simp only [zjO, List.map_cons, List.flatten_cons, List.length_append, List.length_cons] at h3 ⊢
    omega
theorem voteB_len {a b c d : Int} (h : znU a b c d = true) : (zhB a b c d).length ≤ 50 := by
  simp only [znU, Bool.and_eq_true, zmT] at h
  have := numsB_len (l := [a, b, c, d]) (by intro x hx; simp at hx; omega)
  simp only [zhB, List.length_cons, List.length_nil] at this ⊢
  omega
theorem mayV_all (a b c d : Int) : znU a b c d = [a, b, c, d].all zfM := by simp [znU]
def zjg (L : List (List UInt8)) (G : List zP) (s : zP) (key : Int) (b : List UInt8) : Bool := match zeb L b with
  | some i => decide (s.key = key ∧ s.dig = ((i + 1 : Nat) : Int)) && decide (s ∈ G)
  | none => false
def zlu (L : List (List UInt8)) (G : List zP) (s : zP) (key a b c d : Int) : Bool := znU a b c d && zjg L G s key (zhB a b c d)
end Go.AW

/- Contracts: votes, on both sides. -/
set_option maxRecDepth 100000
set_option linter.unusedSimpArgs false
set_option linter.unusedVariables false
namespace Go.Proofs.YtjjchfbckfopkaaGreat
open Go.AW

theorem c_auMay {σ : List zb} {a b c d : Int} {K : AV → List zb → Prop} (hK : K (.d (.bool (znU a b c d))) σ) :
    zt Tryz.prog zkW [.d (.int .i64 a), .d (.int .i64 b), .d (.int .i64 c), .d (.int .i64 d)] σ K := by
  refine acE4 e_auth_may fun hl => ?_
  rw [mayV_all] at hK
  simp only [zpl, iN, bT, bF, eN]
  refine gq1 ?_
  have hg : ∀ (k : Nat) x, [a, b, c, d][k]? = some x → [[D.int .i64 a], [D.int .i64 b], [D.int .i64 c], [D.int .i64 d]][k]? = some [D.int .i64 x] := fun k x h => by
    have := zax (f := fun t => [D.int .i64 t]) h
    simpa using this
  have hl4 : [a, b, c, d].length = 4 := rfl
  obtain ⟨l, hlq⟩ : ∃ l, [a, b, c, d] = l := ⟨_, rfl⟩
  rw [hlq] at hK hl4 hg
  refine zC 4 (fun k vs s => vs = [.d (.int .i64 k)] ∧ (∃ T, s = σ ++ T) ∧ (l.take k).all zfM = true) ⟨rfl, ⟨[], (List.append_nil σ).symm⟩, by simp⟩ ?_
  rintro k vs s hk ⟨rfl, ⟨T, rfl⟩, hok⟩
  by_cases hlt : k < 4
  · have hd : decide ((k : Int) < ((4 : Nat) : Int)) = true := by simp; omega
    have hx : l[k]? = some (l[k]'(by omega)) := List.getElem?_eq_getElem _
    have hgx := hg k _ hx
    obtain ⟨x, hxe⟩ : ∃ x, (l[k]'(by omega)) = x := ⟨_, rfl⟩
    rw [hxe] at hx hgx
    have bad : zfM x = false → l.all zfM = false := fun h => by
      rw [Bool.eq_false_iff]
      intro hall
      have := List.all_eq_true.1 hall x (List.mem_of_getElem? hx)
      rw [h] at this; cases this
    have hx2 : zfM x = (decide (0 ≤ x) && decide (x ≤ 9007199254740992)) := by simp [zfM]
    cases h1 : decide (x < 0)
    · cases h2 : decide (x > 9007199254740992)
      · refine gq2 (zj hd (zj hgx (zj h1 (zj h2 (wki k (by omega)))))) ?_
        refine zaQ.next hlt ⟨rfl, ⟨_, rfl⟩, ?_⟩
        rw [List.take_add_one, hx]
        simp only [List.all_append, hok, Option.toList_some, List.all_cons, List.all_nil, Bool.true_and, Bool.and_true]
        simp at h1 h2
        simp [zfM]; omega
      · rw [bad (by simp at h2; simp [zfM]; omega)] at hK
        refine gq2 (zj hd (zj hgx (zj h1 h2))) ?_
        refine zam hl ?_
        exact hK
    · rw [bad (by simp at h1; simp [zfM]; omega)] at hK
      refine gq2 (zj hd (zj hgx h1)) ?_
      refine zam hl ?_
      exact hK
  · have hd : decide ((k : Int) < ((4 : Nat) : Int)) = false := by simp; omega
    rw [List.take_of_length_le (by omega)] at hok
    rw [hok] at hK
    refine gq2 hd ?_
    refine zam hl ?_
    exact hK
theorem c_auPut {σ : List zb} {b : List UInt8} {l : List Int} (hb : b.length ≤ 1000000) (hl0 : l.length ≤ 1000) (hi : ∀ x ∈ l, 0 ≤ x ∧ x ≤ 9007199254740992) {K : AV → List zb → Prop} (hK : K (.d (.slice (bcs (b ++ zjO l)))) σ) :
    zt Tryz.prog zkV [.d (.slice (bcs b)), .d (.slice (intsE l))] σ K := by
  refine zhh e_auth_put fun hl => ?_
  simp only [zpk, iN, bT, bF, eN]
  refine gq1 ?_
  refine zC l.length (fun k vs s => (∃ x, vs = [x, .d (.int .i64 k)] ∧ (x = .d (.slice (bcs (b ++ zjO (l.take k)))) ∨ ∃ t, x = .own t (bcs (b ++ zjO (l.take k))))) ∧ ∃ T, s = σ ++ T) ⟨⟨_, rfl, .inl (by simp [zjO])⟩, [], by simp⟩ ?_
  rintro k vs s hk ⟨⟨y, rfl, hy⟩, T, rfl⟩
  have hdy : dm y = .d (.slice (bcs (b ++ zjO (l.take k)))) := by
    rcases hy with rfl | ⟨t, rfl⟩ <;> rfl
  by_cases hlt : k < l.length
  · have hd : decide ((k : Int) < (l.length : Int)) = true := by simp; omega
    have hx : l[k]? = some l[k] := by simp [hlt]
    have hxi := hi _ (List.getElem_mem hlt)
    have hgx := zax (f := fun t => [D.int .i64 t]) hx
    obtain ⟨x, hxe⟩ : ∃ x, l[k] = x := ⟨_, rfl⟩
    rw [hxe] at hx hgx hxi
    have hm1 : (if x > 0 then x else 0) = x := by split <;> omega
    have hm2 : (if 0 < x then x else 0) = x := by split <;> omega
    have hw : IntKind.u64.wrap x = ((x.toNat : Nat) : Int) := by
      rw [show x = ((x.toNat : Nat) : Int) by omega, zca (by omega)]; rfl
    have hln := numsB_len (l := l.take k) (fun y hy => by have := hi y (List.mem_of_mem_take hy); omega)
    have hlk : (l.take k).length = k := by rw [List.length_take]; omega
    have hw2 : IntKind.i64.wrap ((k : Int) + 1) = ((k + 1 : Nat) : Int) := by rw [zap (by omega) (by omega)]; rfl
    have hbl : (b ++ zjO (l.take k)).length ≤ 1073741824 := by rw [List.length_append]; omega
    rcases hy with rfl | ⟨t, rfl⟩
    · refine gq2 (zj hd (zj hgx (zj hm1 (zj hm2 hw)))) ?_
      refine zeA (by omega) hbl ?_
      refine gq2 hw2 ?_
      exact zaQ.next hlt ⟨⟨_, rfl, .inr ⟨_, by rw [zoz hx]⟩⟩, _, rfl⟩
    · refine gq2 (zj hd (zj hgx (zj hm1 (zj hm2 hw)))) ?_
      refine zeA (by omega) hbl ?_
      refine gq2 hw2 ?_
      exact zaQ.next hlt ⟨⟨_, rfl, .inr ⟨_, by rw [zoz hx]⟩⟩, _, rfl⟩
  · have hd : decide ((k : Int) < (l.length : Int)) = false := by simp; omega
    rw [List.take_of_length_le (by omega)] at hy
    rcases hy with rfl | ⟨t, rfl⟩
    · refine gq2 hd ?_
      refine zam hl ?_
      exact hK
    · refine gq2 hd ?_
      refine zam hl ?_
      exact hK
end Go.Proofs.YtjjchfbckfopkaaGreat
