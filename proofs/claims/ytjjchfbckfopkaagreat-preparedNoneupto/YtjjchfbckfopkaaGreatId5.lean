/- A ledger's clone, whatever was signed. -/
import Derived.Test.YtjjchfbckfopkaaGreatId3
import Derived.Test.YtjjchfbckfopkaaGreatSpTab
import Derived.Test.YtjjchfbckfopkaaGreatSpRd
import Derived.Test.YtjjchfbckfopkaaGreatRq5
set_option linter.all false
set_option maxRecDepth 100000
set_option linter.unusedSimpArgs false
set_option linter.unusedVariables false
namespace Go.Proofs.YtjjchfbckfopkaaGreat
open Go.AW

theorem c_gClone {σ : List zb} {id m t : Nat} {g : List zO} (hG : zcS σ id m t g) (hg : g.length ≤ 1073741824) {K : AV → List zb → Prop}
    (hK : ∀ g' : List zO, K (.box (σ.length + 1) 0) (σ ++ ledO σ.length g')) : zn Tryz.prog zbv [.box id 0] σ K := by
  refine zby zcM.is rfl (fun s => List.range' σ.length 3) fun hl _ => zcM.goes ?_
  have hbx : ∀ τ, (σ ++ τ)[id]? = _ := fun τ => zk hG.box
  have hlen : (ziS g).length = g.length := List.length_map ..
  simp only [zcN, iN, bT, bF, eN]
  refine gq1 ?_
  refine c_gNone hG ?_
  refine gq2 hbx ?_
  refine ziy ?_
  refine gq2 (zo hbx hlen) ?_
  refine zR g.length (fun k vs s => vs = [.d (.int .i64 k)] ∧ ∃ g' τ, g'.length ≤ k ∧ s = σ ++ (ledO σ.length g' ++ τ)) ⟨rfl, [], [], by simp, by simp [ziS, zmI]⟩ ?_
  rintro k vs s hk ⟨rfl, g', τ, hg', rfl⟩
  by_cases hlt : k < g.length
  · have hd : decide ((k : Int) < (g.length : Int)) = true := by simp; omega
    have hx : g[k]? = some g[k] := by simp [hlt]
    obtain ⟨x, hxe⟩ : ∃ x, g[k] = x := ⟨_, rfl⟩
    rw [hxe] at hx
    have hgx : (ziS g)[k]? = some [D.int .i64 x.key, D.int .i64 x.dig] := by rw [ziS]; exact zaT hx
    refine gq2 (zo hd (zo hgx hlen)) ?_
    have hL : ∀ τ', zcS (σ ++ (ledO σ.length g' ++ τ')) (σ.length + 1) σ.length (σ.length + 2) g' := fun τ' => ledAt_new σ g' τ'
    refine c_gSign (hL (τ ++ [.box [.d (.int .i64 x.key), .d (.int .i64 x.dig)]])) (by omega) ?_
    have hP := putLed_new σ g' (zeP g' x.key x.dig) (τ ++ [.box [.d (.int .i64 x.key), .d (.int .i64 x.dig)]])
    rw [hP]
    have hw : IntKind.i64.wrap ((k : Int) + 1) = ((k + 1 : Nat) : Int) := by rw [zao (by omega) (by omega)]; rfl
    refine gq2 hw ?_
    refine zbq.next hlt ⟨rfl, zeP g' x.key x.dig, τ ++ [.box [.d (.int .i64 x.key), .d (.int .i64 x.dig)]], ?_, by simp [ledO]⟩
    unfold zeP zmK
    split
    · split
      · omega
      · simp; omega
    · omega
  · have hd : decide ((k : Int) < (g.length : Int)) = false := by simp; omega
    refine gq2 (zo hlen hd) ?_
    exact zhc (σ' := σ) (os := ledO σ.length g') (τ := τ) rfl rfl hl (low_ledO _ _) (.box _ _ (by simp)) (hK g')
end Go.Proofs.YtjjchfbckfopkaaGreat

/- Votes: their bytes, and whether they are signed. No program in sight. -/
set_option linter.unusedSimpArgs false
set_option linter.unusedVariables false
namespace Go.AW

abbrev intsE (l : List Int) : List (List D) := l.map fun t => [D.int .i64 t]
def zfh (x : Int) : Bool := decide (0 ≤ x ∧ x ≤ 9007199254740992)
def zmH (a b c d : Int) : Bool := zfh a && (zfh b && (zfh c && zfh d))
def ziL (l : List Int) : List UInt8 := (l.map fun x => zcr x.toNat).flatten
def zgQ (a b c d : Int) : List UInt8 := 4 :: ziL [a, b, c, d]
theorem zlJ {x : Int} : zfh x = true ↔ 0 ≤ x ∧ x ≤ 9007199254740992 := by simp [zfh]
theorem zni {l : List Int} {k : Nat} {x : Int} (h : l[k]? = some x) : ziL (l.take (k + 1)) = ziL (l.take k) ++ zcr x.toNat := by
  rw [List.take_add_one, h]; simp [ziL]
theorem numsB_len {l : List Int} (h : ∀ x ∈ l, x < 9223372036854775808) : (ziL l).length ≤ l.length * 10 := by
  induction l with
  | nil => simp [ziL]
  | cons x l ih =>
    have h1 := h x (by simp)
    have h2 := zL (n := x.toNat) (by omega)
    have h3 := ih fun y hy => h y (by simp [hy])
    simp only [ziL, List.map_cons, List.flatten_cons, List.length_append, List.length_cons] at h3 ⊢
    omega
theorem voteB_len {a b c d : Int} (h : zmH a b c d = true) : (zgQ a b c d).length ≤ 50 := by
  simp only [zmH, Bool.and_eq_true, zlJ] at h
  have := numsB_len (l := [a, b, c, d]) (by intro x hx; simp at hx; omega)
  simp only [zgQ, List.length_cons, List.length_nil] at this ⊢
  omega
theorem mayV_all (a b c d : Int) : zmH a b c d = [a, b, c, d].all zfh := by simp [zmH]
def zih (L : List (List UInt8)) (G : List zO) (s : zO) (key : Int) (b : List UInt8) : Bool := match zdE L b with
  | some i => decide (s.key = key ∧ s.dig = ((i + 1 : Nat) : Int)) && decide (s ∈ G)
  | none => false
def zko (L : List (List UInt8)) (G : List zO) (s : zO) (key a b c d : Int) : Bool := zmH a b c d && zih L G s key (zgQ a b c d)
end Go.AW

/- Contracts: votes, on both sides. -/
set_option maxRecDepth 100000
set_option linter.unusedSimpArgs false
set_option linter.unusedVariables false
namespace Go.Proofs.YtjjchfbckfopkaaGreat
open Go.AW

theorem c_auMay {σ : List zb} {a b c d : Int} {K : AV → List zb → Prop} (hK : K (.d (.bool (zmH a b c d))) σ) :
    zn Tryz.prog zjE [.d (.int .i64 a), .d (.int .i64 b), .d (.int .i64 c), .d (.int .i64 d)] σ K := by
  refine acE4 e_auth_may fun hl => ?_
  rw [mayV_all] at hK
  simp only [znQ, iN, bT, bF, eN]
  refine gq1 ?_
  have hg : ∀ (k : Nat) x, [a, b, c, d][k]? = some x → [[D.int .i64 a], [D.int .i64 b], [D.int .i64 c], [D.int .i64 d]][k]? = some [D.int .i64 x] := fun k x h => by
    have := zaT (f := fun t => [D.int .i64 t]) h
    simpa using this
  have hl4 : [a, b, c, d].length = 4 := rfl
  obtain ⟨l, hlq⟩ : ∃ l, [a, b, c, d] = l := ⟨_, rfl⟩
  rw [hlq] at hK hl4 hg
  refine zR 4 (fun k vs s => vs = [.d (.int .i64 k)] ∧ (∃ T, s = σ ++ T) ∧ (l.take k).all zfh = true) ⟨rfl, ⟨[], (List.append_nil σ).symm⟩, by simp⟩ ?_
  rintro k vs s hk ⟨rfl, ⟨T, rfl⟩, hok⟩
  by_cases hlt : k < 4
  · have hd : decide ((k : Int) < ((4 : Nat) : Int)) = true := by simp; omega
    have hx : l[k]? = some (l[k]'(by omega)) := List.getElem?_eq_getElem _
    have hgx := hg k _ hx
    obtain ⟨x, hxe⟩ : ∃ x, (l[k]'(by omega)) = x := ⟨_, rfl⟩
    rw [hxe] at hx hgx
    have bad : zfh x = false → l.all zfh = false := fun h => by
      rw [Bool.eq_false_iff]
      intro hall
      have := List.all_eq_true.1 hall x (List.mem_of_getElem? hx)
      rw [h] at this; cases this
    have hx2 : zfh x = (decide (0 ≤ x) && decide (x ≤ 9007199254740992)) := by simp [zfh]
    cases h1 : decide (x < 0)
    · cases h2 : decide (x > 9007199254740992)
      · refine gq2 (zo hd (zo hgx (zo h1 (zo h2 (wki k (by omega)))))) ?_
        refine zbq.next hlt ⟨rfl, ⟨_, rfl⟩, ?_⟩
        rw [List.take_add_one, hx]
        simp only [List.all_append, hok, Option.toList_some, List.all_cons, List.all_nil, Bool.true_and, Bool.and_true]
        simp at h1 h2
        simp [zfh]; omega
      · rw [bad (by simp at h2; simp [zfh]; omega)] at hK
        refine gq2 (zo hd (zo hgx (zo h1 h2))) ?_
        refine zam hl ?_
        exact hK
    · rw [bad (by simp at h1; simp [zfh]; omega)] at hK
      refine gq2 (zo hd (zo hgx h1)) ?_
      refine zam hl ?_
      exact hK
  · have hd : decide ((k : Int) < ((4 : Nat) : Int)) = false := by simp; omega
    rw [List.take_of_length_le (by omega)] at hok
    rw [hok] at hK
    refine gq2 hd ?_
    refine zam hl ?_
    exact hK
theorem c_auPut {σ : List zb} {b : List UInt8} {l : List Int} (hb : b.length ≤ 1000000) (hl0 : l.length ≤ 1000) (hi : ∀ x ∈ l, 0 ≤ x ∧ x ≤ 9007199254740992) {K : AV → List zb → Prop} (hK : K (.d (.slice (bcs (b ++ ziL l)))) σ) :
    zn Tryz.prog zjD [.d (.slice (bcs b)), .d (.slice (intsE l))] σ K := by
  refine zia e_auth_put fun hl => ?_
  simp only [znP, iN, bT, bF, eN]
  refine gq1 ?_
  refine zR l.length (fun k vs s => (∃ x, vs = [x, .d (.int .i64 k)] ∧ (x = .d (.slice (bcs (b ++ ziL (l.take k)))) ∨ ∃ t, x = .own t (bcs (b ++ ziL (l.take k))))) ∧ ∃ T, s = σ ++ T) ⟨⟨_, rfl, .inl (by simp [ziL])⟩, [], by simp⟩ ?_
  rintro k vs s hk ⟨⟨y, rfl, hy⟩, T, rfl⟩
  have hdy : dm y = .d (.slice (bcs (b ++ ziL (l.take k)))) := by
    rcases hy with rfl | ⟨t, rfl⟩ <;> rfl
  by_cases hlt : k < l.length
  · have hd : decide ((k : Int) < (l.length : Int)) = true := by simp; omega
    have hx : l[k]? = some l[k] := by simp [hlt]
    have hxi := hi _ (List.getElem_mem hlt)
    have hgx := zaT (f := fun t => [D.int .i64 t]) hx
    obtain ⟨x, hxe⟩ : ∃ x, l[k] = x := ⟨_, rfl⟩
    rw [hxe] at hx hgx hxi
    have hm1 : (if x > 0 then x else 0) = x := by split <;> omega
    have hm2 : (if 0 < x then x else 0) = x := by split <;> omega
    have hw : IntKind.u64.wrap x = ((x.toNat : Nat) : Int) := by
      rw [show x = ((x.toNat : Nat) : Int) by omega, zbU (by omega)]; rfl
    have hln := numsB_len (l := l.take k) (fun y hy => by have := hi y (List.mem_of_mem_take hy); omega)
    have hlk : (l.take k).length = k := by rw [List.length_take]; omega
    have hw2 : IntKind.i64.wrap ((k : Int) + 1) = ((k + 1 : Nat) : Int) := by rw [zao (by omega) (by omega)]; rfl
    have hbl : (b ++ ziL (l.take k)).length ≤ 1073741824 := by rw [List.length_append]; omega
    rcases hy with rfl | ⟨t, rfl⟩
    · refine gq2 (zo hd (zo hgx (zo hm1 (zo hm2 hw)))) ?_
      refine zdV (by omega) hbl ?_
      refine gq2 hw2 ?_
      exact zbq.next hlt ⟨⟨_, rfl, .inr ⟨_, by rw [zni hx]⟩⟩, _, rfl⟩
    · refine gq2 (zo hd (zo hgx (zo hm1 (zo hm2 hw)))) ?_
      refine zdV (by omega) hbl ?_
      refine gq2 hw2 ?_
      exact zbq.next hlt ⟨⟨_, rfl, .inr ⟨_, by rw [zni hx]⟩⟩, _, rfl⟩
  · have hd : decide ((k : Int) < (l.length : Int)) = false := by simp; omega
    rw [List.take_of_length_le (by omega)] at hy
    rcases hy with rfl | ⟨t, rfl⟩
    · refine gq2 hd ?_
      refine zam hl ?_
      exact hK
    · refine gq2 hd ?_
      refine zam hl ?_
      exact hK
end Go.Proofs.YtjjchfbckfopkaaGreat
