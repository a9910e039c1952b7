/- Contracts: what the document says of sealed requests. -/
import Derived.Test.YtpgahkdjkanblaaGreatRq3
import Derived.Test.YtpgahkdjkanblaaGreatId3
import Derived.Test.YtpgahkdjkanblaaGreatSpTab
import Derived.Test.YtpgahkdjkanblaaGreatWr4
set_option linter.all false
set_option maxRecDepth 100000
set_option linter.unusedSimpArgs false
set_option linter.unusedVariables false
namespace Go.Proofs.YtpgahkdjkanblaaGreat
open Go.AW

end Go.Proofs.YtpgahkdjkanblaaGreat

/- A ledger's clone, whatever was signed. -/
set_option maxRecDepth 100000
set_option linter.unusedSimpArgs false
set_option linter.unusedVariables false
namespace Go.Proofs.YtpgahkdjkanblaaGreat
open Go.AW

theorem zpA {σ : List zd} {id m t : Nat} {g : List zt} (hG : zdu σ id m t g) (hg : g.length ≤ 1073741824) {K : KT}
    (hK : ∀ g' : List zt, K (.box (σ.length + 1) 0) (σ ++ ledO σ.length g')) : zl Tryz.prog zcl [.box id 0] σ K := by
  refine zcm ziw.is rfl (fun s => List.range' σ.length 3) fun hl _ => ziw.goes ?_
  have hbx : ∀ τ, (σ ++ τ)[id]? = _ := fun τ => zM hG.box
  have hlen : (zsa g).length = g.length := List.length_map ..
  simp only [ziD, iN, bT, bF, eN]
  refine ztG ?_
  refine zvc hG ?_
  refine zjJ hbx ?_
  refine zoH ?_
  refine zjJ (zcs hbx hlen) ?_
  refine zy g.length (fun k vs s => vs = [.d (.int .i64 k)] ∧ ∃ g' τ, g'.length ≤ k ∧ s = σ ++ (ledO σ.length g' ++ τ)) ⟨rfl, [], [], by simp, by simp [zsa, ledM]⟩ ?_
  rintro k vs s hk ⟨rfl, g', τ, hg', rfl⟩
  by_cases hlt : k < g.length
  · have hd : decide ((k : Int) < (g.length : Int)) = true := by simp; omega
    have hx : g[k]? = some g[k] := by simp [hlt]
    obtain ⟨x, hxe⟩ : ∃ x, g[k] = x := ⟨_, rfl⟩
    rw [hxe] at hx
    have hgx : (zsa g)[k]? = some [D.int .i64 x.key, D.int .i64 x.dig] := by rw [zsa]; exact zal hx
    refine zjJ (zcs hd (zcs hgx hlen)) ?_
    have hL : ∀ τ', zdu (σ ++ (ledO σ.length g' ++ τ')) (σ.length + 1) σ.length (σ.length + 2) g' := fun τ' => ledAt_new σ g' τ'
    refine c_gSign (hL (τ ++ [.box [.d (.int .i64 x.key), .d (.int .i64 x.dig)]])) (by omega) ?_
    have hP := putLed_new σ g' (zid g' x.key x.dig) (τ ++ [.box [.d (.int .i64 x.key), .d (.int .i64 x.dig)]])
    rw [hP]
    have hw : IntKind.i64.wrap ((k : Int) + 1) = ((k + 1 : Nat) : Int) := by rw [zbE (by omega) (by omega)]; rfl
    refine zjJ hw ?_
    refine zbp.next hlt ⟨rfl, zid g' x.key x.dig, τ ++ [.box [.d (.int .i64 x.key), .d (.int .i64 x.dig)]], ?_, by simp [ledO]⟩
    unfold zid zsZ
    split
    · split
      · omega
      · simp; omega
    · omega
  · have hd : decide ((k : Int) < (g.length : Int)) = false := by simp; omega
    refine zjJ (zcs hlen hd) ?_
    exact zjR (σ' := σ) (os := ledO σ.length g') (τ := τ) rfl rfl hl (low_ledO _ _) (.box _ _ (by simp)) (hK g')
end Go.Proofs.YtpgahkdjkanblaaGreat

/- Contracts: votes, on both sides. -/
set_option maxRecDepth 100000
set_option linter.unusedSimpArgs false
set_option linter.unusedVariables false
namespace Go.Proofs.YtpgahkdjkanblaaGreat
open Go.AW

theorem c_auMay {σ : List zd} {a b c d : Int} {K : KT} (hK : K (.d (.bool (mayV a b c d))) σ) :
    zl Tryz.prog znC [.d (.int .i64 a), .d (.int .i64 b), .d (.int .i64 c), .d (.int .i64 d)] σ K := by
  refine ze ztY.is rfl fun hl _ => ztY.goes ?_
  rw [mayV_all] at hK
  simp only [zut, iN, bT, bF, eN]
  refine zaF ?_
  have hg : ∀ (k : Nat) x, [a, b, c, d][k]? = some x → [[D.int .i64 a], [D.int .i64 b], [D.int .i64 c], [D.int .i64 d]][k]? = some [D.int .i64 x] := fun k x h => by
    have := zal (f := fun t => [D.int .i64 t]) h
    simpa using this
  have hl4 : [a, b, c, d].length = 4 := rfl
  obtain ⟨l, hlq⟩ : ∃ l, [a, b, c, d] = l := ⟨_, rfl⟩
  rw [hlq] at hK hl4 hg
  refine zy 4 (fun k vs s => vs = [.d (.int .i64 k)] ∧ (∃ T, s = σ ++ T) ∧ (l.take k).all zot = true) ⟨rfl, ⟨[], (List.append_nil σ).symm⟩, by simp⟩ ?_
  rintro k vs s hk ⟨rfl, ⟨T, rfl⟩, hok⟩
  by_cases hlt : k < 4
  · have hd : decide ((k : Int) < ((4 : Nat) : Int)) = true := by simp; omega
    have hx : l[k]? = some (l[k]'(by omega)) := List.getElem?_eq_getElem _
    have hgx := hg k _ hx
    obtain ⟨x, hxe⟩ : ∃ x, (l[k]'(by omega)) = x := ⟨_, rfl⟩
    rw [hxe] at hx hgx
    have bad : zot x = false → l.all zot = false := fun h => by
      rw [Bool.eq_false_iff]
      intro hall
      have := List.all_eq_true.1 hall x (List.mem_of_getElem? hx)
      rw [h] at this; cases this
    have hx2 : zot x = (decide (0 ≤ x) && decide (x ≤ 9007199254740992)) := by simp [zot]
    cases h1 : decide (x < 0)
    · cases h2 : decide (x > 9007199254740992)
      · refine zeB (zq hd (zq hgx (zq h1 (zq h2 (wki k (by omega)))))) ?_
        refine zbp.next hlt ⟨rfl, ⟨_, rfl⟩, ?_⟩
        rw [List.take_add_one, hx]
        simp only [List.all_append, hok, Option.toList_some, List.all_cons, List.all_nil, Bool.true_and, Bool.and_true]
        simp at h1 h2
        simp [zot]; omega
      · rw [bad (by simp at h2; simp [zot]; omega)] at hK
        refine zeB (zq hd (zq hgx (zq h1 h2))) ?_
        refine zV hl ?_
        exact hK
    · rw [bad (by simp at h1; simp [zot]; omega)] at hK
      refine zeB (zq hd (zq hgx h1)) ?_
      refine zV hl ?_
      exact hK
  · have hd : decide ((k : Int) < ((4 : Nat) : Int)) = false := by simp; omega
    rw [List.take_of_length_le (by omega)] at hok
    rw [hok] at hK
    refine zeB hd ?_
    refine zV hl ?_
    exact hK
theorem c_auPut {σ : List zd} {b : List UInt8} {l : List Int} (hb : b.length ≤ 1000000) (hl0 : l.length ≤ 1000) (hi : ∀ x ∈ l, 0 ≤ x ∧ x ≤ 9007199254740992) {K : KT} (hK : K (.d (.slice (bcs (b ++ zcT l)))) σ) :
    zl Tryz.prog znA [.d (.slice (bcs b)), .d (.slice (zse l))] σ K := by
  refine ze ztX.is rfl fun hl _ => ztX.goes ?_
  simp only [zus, iN, bT, bF, eN]
  refine zaF ?_
  refine zy l.length (fun k vs s => (∃ x, vs = [x, .d (.int .i64 k)] ∧ (x = .d (.slice (bcs (b ++ zcT (l.take k)))) ∨ ∃ t, x = .own t (bcs (b ++ zcT (l.take k))))) ∧ ∃ T, s = σ ++ T) ⟨⟨_, rfl, .inl (by simp [zcT])⟩, [], by simp⟩ ?_
  rintro k vs s hk ⟨⟨y, rfl, hy⟩, T, rfl⟩
  have hdy : dm y = .d (.slice (bcs (b ++ zcT (l.take k)))) := by
    rcases hy with rfl | ⟨t, rfl⟩ <;> rfl
  by_cases hlt : k < l.length
  · have hd : decide ((k : Int) < (l.length : Int)) = true := by simp; omega
    have hx : l[k]? = some l[k] := by simp [hlt]
    have hxi := hi _ (List.getElem_mem hlt)
    have hgx := zal (f := fun t => [D.int .i64 t]) hx
    obtain ⟨x, hxe⟩ : ∃ x, l[k] = x := ⟨_, rfl⟩
    rw [hxe] at hx hgx hxi
    have hm1 : (if x > 0 then x else 0) = x := by split <;> omega
    have hm2 : (if 0 < x then x else 0) = x := by split <;> omega
    have hw : IntKind.u64.wrap x = ((x.toNat : Nat) : Int) := by
      rw [show x = ((x.toNat : Nat) : Int) by omega, zgj (by omega)]; rfl
    have hln := zrS (l := l.take k) (fun y hy => by have := hi y (List.mem_of_mem_take hy); omega)
    have hlk : (l.take k).length = k := by rw [List.length_take]; omega
    have hw2 : IntKind.i64.wrap ((k : Int) + 1) = ((k + 1 : Nat) : Int) := by rw [zbE (by omega) (by omega)]; rfl
    have hbl : (b ++ zcT (l.take k)).length ≤ 1073741824 := by rw [List.length_append]; omega
    rcases hy with rfl | ⟨t, rfl⟩
    · refine zeB (zq hd (zq hgx (zq hm1 (zq hm2 hw)))) ?_
      refine zeF (by omega) hbl ?_
      refine zeB hw2 ?_
      exact zbp.next hlt ⟨⟨_, rfl, .inr ⟨_, by rw [ztw hx]⟩⟩, _, rfl⟩
    · refine zeB (zq hd (zq hgx (zq hm1 (zq hm2 hw)))) ?_
      refine zeF (by omega) hbl ?_
      refine zeB hw2 ?_
      exact zbp.next hlt ⟨⟨_, rfl, .inr ⟨_, by rw [ztw hx]⟩⟩, _, rfl⟩
  · have hd : decide ((k : Int) < (l.length : Int)) = false := by simp; omega
    rw [List.take_of_length_le (by omega)] at hy
    rcases hy with rfl | ⟨t, rfl⟩
    · refine zeB hd ?_
      refine zV hl ?_
      exact hK
    · refine zeB hd ?_
      refine zV hl ?_
      exact hK
end Go.Proofs.YtpgahkdjkanblaaGreat

/- Contracts: votes, the program's. -/
set_option maxRecDepth 100000
set_option linter.unusedSimpArgs false
set_option linter.unusedVariables false
namespace Go.Proofs.YtpgahkdjkanblaaGreat
open Go.AW

theorem may_all {a b c d : Int} (h : mayV a b c d = true) : ∀ x ∈ [a, b, c, d], 0 ≤ x ∧ x ≤ 9007199254740992 := by
  rw [mayV_all, List.all_eq_true] at h
  exact fun x hx => numOk_iff.1 (h x hx)
theorem zpB {σ : List zd} {a b c d : Int} (h : mayV a b c d = true) {K : KT} (hK : K (.d (.slice (bcs (zoS a b c d)))) σ) :
    zl Tryz.prog zcV [.d (.int .i64 a), .d (.int .i64 b), .d (.int .i64 c), .d (.int .i64 d)] σ K := by
  refine ze zma.is rfl fun hl _ => zma.goes ?_
  simp only [zmq, iN, bT, bF, eN]
  refine zaF ?_
  refine c_auPut (b := [4]) (l := [a, b, c, d]) (by simp) (by simp) (may_all h) ?_
  refine zaF ?_
  refine zV hl ?_
  exact hK
theorem znH {σ : List zd} {id m t id2 m2 t2 : Nat} {l : List (List UInt8)} {g : List zt} (hT : zdG σ id m t l) (hG : zdu σ id2 m2 t2 g) (hL : zkx l) (hg : g.length ≤ 1073741824) {K : KT}
    (hK : K (.d (.bool true)) σ) : zl Tryz.prog zfV [.box id 0, .box id2 0] σ K := by
  refine ze zsr.is rfl fun hl _ => zsr.goes ?_
  simp only [zsQ, iN, bT, bF, eN]
  refine zaF ?_
  refine zpy hT hL.nd hL.len hL.each ?_
  refine zaF ?_
  refine zpA (hG.app _) hg fun g' => ?_
  refine zaF ?_
  refine zV hl ?_
  exact hK
theorem zqH {σ : List zd} {id m t id2 m2 t2 : Nat} {L : List (List UInt8)} {G : List zt} {s : zt} {key : Int} {b : List UInt8} (hT : zdG σ id m t L) (hG : zdu σ id2 m2 t2 G) {K : KT}
    (hK : K (.d (.bool (zhi L G s key b))) σ) : zl Tryz.prog ziG [.box id 0, .box id2 0, .agg [.d (.int .i64 s.key), .d (.int .i64 s.dig)], .d (.int .i64 key), .d (.slice (bcs b))] σ K := by
  refine ze zpv.is rfl fun hl _ => zpv.goes ?_
  have hT1 := fun τ => hT.app τ
  have hG1 := fun τ => hG.app τ
  simp only [zpQ, iN, bT, bF, eN]
  refine zaF ?_
  refine zqF (hT1 _) ?_
  have fin : ∀ z, zhi L G s key b = z → K (.d (.bool z)) σ := fun z h => h ▸ hK
  clear hK
  cases hlk : zff L b with
  | none =>
    refine gq60 ?_
    refine zV hl ?_
    exact fin _ (by simp [zhi, hlk])
  | some i =>
    simp only [numOf]
    cases h1 : (s.key == key)
    · refine gq62 h1 ?_
      refine zV hl ?_
      exact fin _ (by simp at h1; simp [zhi, hlk, h1])
    · cases h2 : (s.dig == ((i + 1 : Nat) : Int))
      · refine gq62 (zq h1 h2) ?_
        refine zV hl ?_
        exact fin _ (by simp at h1 h2; simp [zhi, hlk, h1]; omega)
      · refine gq62 (zq h1 h2) ?_
        refine c_gSigned (s := s) (hG1 _) ?_
        refine zaF ?_
        refine zV hl ?_
        exact fin _ (by simp at h1 h2; simp [zhi, hlk, h1, h2])
theorem ziI {σ : List zd} {id m t id2 m2 t2 : Nat} {L : List (List UInt8)} {G : List zt} {s : zt} {key a b c d : Int} (hT : zdG σ id m t L) (hG : zdu σ id2 m2 t2 G) (hL : zkx L) (hg : G.length ≤ 1073741824) {K : KT}
    (hK : K (.d (.bool (zgJ L G s key a b c d))) σ) :
    zl Tryz.prog zdJ [.box id 0, .box id2 0, .agg [.d (.int .i64 s.key), .d (.int .i64 s.dig)], .d (.int .i64 key), .d (.int .i64 a), .d (.int .i64 b), .d (.int .i64 c), .d (.int .i64 d)] σ K := by
  refine ze zmb.is rfl fun hl _ => zmb.goes ?_
  simp only [zmr, iN, bT, bF, eN]
  refine zaF ?_
  refine znH (hT.app _) (hG.app _) hL hg ?_
  refine zaF ?_
  refine c_auMay ?_
  cases hm : mayV a b c d
  · rw [zgJ, hm, Bool.false_and] at hK
    refine zaF ?_
    refine zV hl ?_
    exact hK
  · rw [zgJ, hm, Bool.true_and] at hK
    refine zaF ?_
    refine zpB hm ?_
    refine zaF ?_
    refine zqH (s := s) (hT.app _) (hG.app _) ?_
    refine zaF ?_
    refine zV hl ?_
    exact hK
end Go.Proofs.YtpgahkdjkanblaaGreat

/- Contracts: what a message's signature stands over; which messages are signed: the program's: view-changes and new views. -/
set_option maxRecDepth 100000
set_option linter.unusedSimpArgs false
set_option linter.unusedVariables false
namespace Go.Proofs.YtpgahkdjkanblaaGreat
open Go.AW

abbrev uns7 (m : zes) (c : zO) : zes := { m with changes := [{ c with key := 0, dig := 1 }] }
theorem some7 {m : zes} {c : zO} (hk : m.kind = 7) (hc : m.changes = [c]) : zdE m = uns7 m c := by simp [zdE, hk, hc]
theorem uns7_small {m : zes} {c : zO} (h : zcH m) (hc : m.changes = [c]) : zcH (uns7 m c) := by
  obtain ⟨h1, h2, h3, h4, h5, h6, h7, h8, h9, h10⟩ := h
  obtain ⟨⟨a1, a2, a3⟩, ⟨b1, b2, b3⟩⟩ := h5 c (by rw [hc]; simp)
  exact ⟨h1, h2, h3, by simp, by intro x hx; simp at hx; subst hx; exact ⟨⟨a1, a2, a3⟩, ⟨b1, b2, b3⟩⟩, h6, h7, h8, h9, h10⟩
theorem c_mUnsigned7 {σ : List zd} {m : zes} {c : zO} (hm : zcH m) (hk : m.kind = 7) (hc : m.changes = [c]) {K : KT}
    (hK : K (.tup [.d (.slice (bcs (if zcK (zdE m) = 0 then zpS (zdE m) else []))), .d (.int .i64 (zcK (zdE m)))]) σ) : zl Tryz.prog zfg [zlf m] σ K := by
  refine ze zfi.is rfl fun hl _ => zfi.goes ?_
  have hgx : (zaL m.changes)[0]? = some (zbH c) := by rw [hc]; rfl
  have hgl : (zaL m.changes).length = 1 := by rw [hc]; rfl
  have hs := uns7_small hm hc
  rw [some7 hk hc] at hK
  simp only [zgF, iN, bT, bF, eN]
  refine znN (zq (show (m.kind == 1) = false by rw [hk]; rfl) (zq (show (m.kind == 2) = false by rw [hk]; rfl) (zq (show (m.kind == 3) = false by rw [hk]; rfl) (zq (show (m.kind == 4) = false by rw [hk]; rfl) (zq (show (m.kind == 5) = false by rw [hk]; rfl) (zq (show (m.kind == 6) = false by rw [hk]; rfl) (zq (show (m.kind == 7) = true by rw [hk]; rfl) (zq (show (m.kind == 8) = false by rw [hk]; rfl) (zq (show (m.kind == 9) = false by rw [hk]; rfl) (zq (show (m.kind == 10) = false by rw [hk]; rfl) (zq (show (m.kind == 11) = false by rw [hk]; rfl) (zq (show (m.kind == 12) = false by rw [hk]; rfl) (zq hgx hgl))))))))))))) ?_
  refine c_mSome ?_
  refine znN (zq (show (m.kind == 1) = false by rw [hk]; rfl) (zq (show (m.kind == 2) = false by rw [hk]; rfl) (zq (show (m.kind == 3) = false by rw [hk]; rfl) (zq (show (m.kind == 4) = false by rw [hk]; rfl) (zq (show (m.kind == 5) = false by rw [hk]; rfl) (zq (show (m.kind == 6) = false by rw [hk]; rfl) (zq (show (m.kind == 7) = true by rw [hk]; rfl) (zq (show (m.kind == 8) = false by rw [hk]; rfl) (zq (show (m.kind == 9) = false by rw [hk]; rfl) (zq (show (m.kind == 10) = false by rw [hk]; rfl) (zq (show (m.kind == 11) = false by rw [hk]; rfl) (zq (show (m.kind == 12) = false by rw [hk]; rfl) (zq hgx hgl))))))))))))) ?_
  refine c_mBytes7 (m := uns7 m c) hs hk ?_
  by_cases h1 : zcK (uns7 m c) = 0
  · have h1' : (zcK (uns7 m c) != 0) = false := by simp [h1]
    have h2 : zbO (uns7 m c) = 0 := by
      unfold zcK at h1
      split at h1
      · rename_i hh; exact absurd h1 hh
      · rename_i hh; simpa using hh
    obtain ⟨c', hc', he⟩ := check7 (m := uns7 m c) hk h2
    obtain ⟨he1, he2⟩ := zpx he
    refine zay h1' ?_
    refine zl.pre (.dataB (σ.length + 2) 0 [.exact []] (.exact []) [] (by rw [zn]; rfl) rfl rfl (.refl _ _)) ?_
    rw [zF]
    refine c_wUns7 (b := []) (m := uns7 m c) (c := c') (by rw [zn]; rfl) (by simp) hk hc' he1 ?_
    rw [zF]
    refine zaF ?_
    refine zV hl ?_
    rw [if_pos h1, h1] at hK
    exact hK
  · have h1' : (zcK (uns7 m c) != 0) = true := by simp [h1]
    refine zay h1' ?_
    refine zV hl ?_
    rw [if_neg h1] at hK
    exact hK
abbrev uns8 (m : zes) : zes := { m with key := 0, sdig := 1 }
theorem some8 {m : zes} (hk : m.kind = 8) : zdE m = uns8 m := by simp [zdE, hk, show ownK 8 = true from rfl]
theorem uns8_small {m : zes} (h : zcH m) : zcH (uns8 m) := by
  obtain ⟨h1, h2, h3, h4, h5, h6, h7, h8, h9, h10⟩ := h
  exact ⟨h1, h2, h3, h4, h5, h6, h7, h8, h9, h10⟩
theorem c_mUnsigned8 {σ : List zd} {m : zes} (hm : zcH m) (hk : m.kind = 8) {K : KT}
    (hK : K (.tup [.d (.slice (bcs (if zcK (zdE m) = 0 then zpS (zdE m) else []))), .d (.int .i64 (zcK (zdE m)))]) σ) : zl Tryz.prog zfg [zlf m] σ K := by
  refine ze zfi.is rfl fun hl _ => zfi.goes ?_
  have hs := uns8_small hm
  rw [some8 hk] at hK
  simp only [zgF, iN, bT, bF, eN]
  refine zay (zq (show (m.kind == 1) = false by rw [hk]; rfl) (zq (show (m.kind == 2) = false by rw [hk]; rfl) (zq (show (m.kind == 3) = false by rw [hk]; rfl) (zq (show (m.kind == 4) = false by rw [hk]; rfl) (zq (show (m.kind == 5) = false by rw [hk]; rfl) (zq (show (m.kind == 6) = false by rw [hk]; rfl) (zq (show (m.kind == 7) = false by rw [hk]; rfl) (zq (show (m.kind == 8) = true by rw [hk]; rfl) (zq (show (m.kind == 9) = false by rw [hk]; rfl) (zq (show (m.kind == 10) = false by rw [hk]; rfl) (zq (show (m.kind == 11) = false by rw [hk]; rfl) (show (m.kind == 12) = false by rw [hk]; rfl)))))))))))) ?_
  refine zkS ?_
  refine zay (show ownK m.kind = true by rw [hk]; rfl) ?_
  refine c_mSome ?_
  refine zay (zq (show (m.kind == 1) = false by rw [hk]; rfl) (zq (show (m.kind == 2) = false by rw [hk]; rfl) (zq (show (m.kind == 3) = false by rw [hk]; rfl) (zq (show (m.kind == 4) = false by rw [hk]; rfl) (zq (show (m.kind == 5) = false by rw [hk]; rfl) (zq (show (m.kind == 6) = false by rw [hk]; rfl) (zq (show (m.kind == 7) = false by rw [hk]; rfl) (zq (show (m.kind == 8) = true by rw [hk]; rfl) (zq (show (m.kind == 9) = false by rw [hk]; rfl) (zq (show (m.kind == 10) = false by rw [hk]; rfl) (zq (show (m.kind == 11) = false by rw [hk]; rfl) (show (m.kind == 12) = false by rw [hk]; rfl)))))))))))) ?_
  refine c_mBytes8 (m := uns8 m) hs hk ?_
  by_cases h1 : zcK (uns8 m) = 0
  · have h1' : (zcK (uns8 m) != 0) = false := by simp [h1]
    have h2 : zbO (uns8 m) = 0 := by
      unfold zcK at h1
      split at h1
      · rename_i hh; exact absurd h1 hh
      · rename_i hh; simpa using hh
    obtain ⟨he1, he2⟩ := check8 (m := uns8 m) hk h2
    refine zay h1' ?_
    refine zl.pre (.dataB (σ.length + 1) 0 [.exact []] (.exact []) [] (by rw [zn]; rfl) rfl rfl (.refl _ _)) ?_
    rw [zF]
    refine c_wUns8 (b := []) (m := uns8 m) (by rw [zn]; rfl) (by simp) hk he1 ?_
    rw [zF]
    refine zaF ?_
    refine zV hl ?_
    rw [if_pos h1, h1] at hK
    exact hK
  · have h1' : (zcK (uns8 m) != 0) = true := by simp [h1]
    refine zay h1' ?_
    refine zV hl ?_
    rw [if_neg h1] at hK
    exact hK
theorem bcs1 (l : List UInt8) : ∀ e ∈ bcs l, e.length = 1 := by
  intro e he
  simp only [bcs, List.mem_map] at he
  obtain ⟨x, _, rfl⟩ := he
  rfl
theorem uns_len {m : zes} (h : zcK m = 0) : (zpS m).length ≤ 262144 := by
  unfold zcK at h
  split at h
  · rename_i hh; exact absurd h hh
  · split at h
    · cases h
    · rename_i hh; simp only [zru, List.length_append] at hh; omega
theorem c_auContent7 {σ : List zd} {m : zes} {c : zO} (hm : zcH m) (hk : m.kind = 7) (hc : m.changes = [c]) {K : KT}
    (hK : K (.tup [.d (.slice (bcs (zdb m))), .d (.int .i64 (zcK (zdE m)))]) σ) : zl Tryz.prog zfH [zlf m] σ K := by
  refine ze zhB.is rfl fun hl _ => zhB.goes ?_
  simp only [zkv, iN, bT, bF, eN]
  refine zaF ?_
  refine c_mUnsigned7 (m := m) hm hk hc ?_
  by_cases h1 : zcK (zdE m) = 0
  · have h1' : (zcK (zdE m) != 0) = false := by simp [h1]
    have h2 : zdb m = 6 :: zpS (zdE m) := by simp [zdb, h1]
    have hlen := uns_len h1
    rw [if_pos h1]
    refine zay (zq h1' (zq (show (m.kind == 1) = false by rw [hk]; rfl) (zq (show (m.kind == 2) = false by rw [hk]; rfl) (zq (show (m.kind == 3) = false by rw [hk]; rfl) (zq (show (m.kind == 4) = false by rw [hk]; rfl) (zq (show (m.kind == 5) = false by rw [hk]; rfl) (zq (show (m.kind == 6) = false by rw [hk]; rfl) (zq (show (m.kind == 7) = true by rw [hk]; rfl) (zq (show (m.kind == 8) = false by rw [hk]; rfl) (zq (show (m.kind == 9) = false by rw [hk]; rfl) (zq (show (m.kind == 10) = false by rw [hk]; rfl) (zq (show (m.kind == 11) = false by rw [hk]; rfl) (show (m.kind == 12) = false by rw [hk]; rfl))))))))))))) ?_
    refine ⟨bcs1 _, by simp, by omega, ?_⟩
    refine zV hl ?_
    rw [h2, h1] at hK
    exact hK
  · have h1' : (zcK (zdE m) != 0) = true := by simp [h1]
    have h2 : zdb m = [] := by simp [zdb, h1]
    rw [if_neg h1]
    refine zay h1' ?_
    refine zV hl ?_
    rw [h2] at hK
    exact hK
theorem zrk {σ : List zd} {m : zes} (hm : zcH m) (hk : m.kind = 8) {K : KT}
    (hK : K (.tup [.d (.slice (bcs (zdb m))), .d (.int .i64 (zcK (zdE m)))]) σ) : zl Tryz.prog zfH [zlf m] σ K := by
  refine ze zhB.is rfl fun hl _ => zhB.goes ?_
  simp only [zkv, iN, bT, bF, eN]
  refine zaF ?_
  refine c_mUnsigned8 (m := m) hm hk ?_
  by_cases h1 : zcK (zdE m) = 0
  · have h1' : (zcK (zdE m) != 0) = false := by simp [h1]
    have h2 : zdb m = 6 :: zpS (zdE m) := by simp [zdb, h1]
    have hlen := uns_len h1
    rw [if_pos h1]
    refine zay (zq h1' (zq (show (m.kind == 1) = false by rw [hk]; rfl) (zq (show (m.kind == 2) = false by rw [hk]; rfl) (zq (show (m.kind == 3) = false by rw [hk]; rfl) (zq (show (m.kind == 4) = false by rw [hk]; rfl) (zq (show (m.kind == 5) = false by rw [hk]; rfl) (zq (show (m.kind == 6) = false by rw [hk]; rfl) (zq (show (m.kind == 7) = false by rw [hk]; rfl) (zq (show (m.kind == 8) = true by rw [hk]; rfl) (zq (show (m.kind == 9) = false by rw [hk]; rfl) (zq (show (m.kind == 10) = false by rw [hk]; rfl) (zq (show (m.kind == 11) = false by rw [hk]; rfl) (show (m.kind == 12) = false by rw [hk]; rfl))))))))))))) ?_
    refine ⟨bcs1 _, by simp, by omega, ?_⟩
    refine zV hl ?_
    rw [h2, h1] at hK
    exact hK
  · have h1' : (zcK (zdE m) != 0) = true := by simp [h1]
    have h2 : zdb m = [] := by simp [zdb, h1]
    rw [if_neg h1]
    refine zay h1' ?_
    refine zV hl ?_
    rw [h2] at hK
    exact hK
theorem c_auOwn7 {σ : List zd} {m : zes} {c : zO} (hk : m.kind = 7) (hc : m.changes = [c]) {K : KT} (hK : K (.agg [.d (.int .i64 (ownS m).key), .d (.int .i64 (ownS m).dig)]) σ) : zl Tryz.prog znB [zlf m] σ K := by
  refine ze znE.is rfl fun hl _ => znE.goes ?_
  have hgx : (zaL m.changes)[0]? = some (zbH c) := by rw [hc]; rfl
  have hgl : (zaL m.changes).length = 1 := by rw [hc]; rfl
  simp only [zqO, iN, bT, bF, eN]
  refine znN (zq (show (m.kind == 1) = false by rw [hk]; rfl) (zq (show (m.kind == 2) = false by rw [hk]; rfl) (zq (show (m.kind == 3) = false by rw [hk]; rfl) (zq (show (m.kind == 4) = false by rw [hk]; rfl) (zq (show (m.kind == 5) = false by rw [hk]; rfl) (zq (show (m.kind == 6) = false by rw [hk]; rfl) (zq (show (m.kind == 7) = true by rw [hk]; rfl) (zq (show (m.kind == 8) = false by rw [hk]; rfl) (zq (show (m.kind == 9) = false by rw [hk]; rfl) (zq (show (m.kind == 10) = false by rw [hk]; rfl) (zq (show (m.kind == 11) = false by rw [hk]; rfl) (zq (show (m.kind == 12) = false by rw [hk]; rfl) (zq hgx hgl))))))))))))) ?_
  refine zV hl ?_
  simp only [ownS, hk, if_true, hc] at hK
  exact hK
theorem c_auOwn8 {σ : List zd} {m : zes} (hk : m.kind = 8) {K : KT} (hK : K (.agg [.d (.int .i64 (ownS m).key), .d (.int .i64 (ownS m).dig)]) σ) : zl Tryz.prog znB [zlf m] σ K := by
  refine ze znE.is rfl fun hl _ => znE.goes ?_
  simp only [zqO, iN, bT, bF, eN]
  refine zay (zq (show (m.kind == 1) = false by rw [hk]; rfl) (zq (show (m.kind == 2) = false by rw [hk]; rfl) (zq (show (m.kind == 3) = false by rw [hk]; rfl) (zq (show (m.kind == 4) = false by rw [hk]; rfl) (zq (show (m.kind == 5) = false by rw [hk]; rfl) (zq (show (m.kind == 6) = false by rw [hk]; rfl) (zq (show (m.kind == 7) = false by rw [hk]; rfl) (zq (show (m.kind == 8) = true by rw [hk]; rfl) (zq (show (m.kind == 9) = false by rw [hk]; rfl) (zq (show (m.kind == 10) = false by rw [hk]; rfl) (zq (show (m.kind == 11) = false by rw [hk]; rfl) (show (m.kind == 12) = false by rw [hk]; rfl)))))))))))) ?_
  refine zV hl ?_
  rw [show ownS m = ⟨m.key, m.sdig⟩ by simp [ownS, hk]] at hK
  exact hK
theorem c_auChange {σ : List zd} {c : zO} {K : KT} (hK : K (zlf (vcM c)) σ) : zl Tryz.prog zls [.agg (zek c)] σ K := by
  refine ze zpw.is rfl fun hl _ => zpw.goes ?_
  simp only [zpR, iN, bT, bF, eN]
  refine zaF ?_
  refine zV hl ?_
  exact hK
end Go.Proofs.YtpgahkdjkanblaaGreat
