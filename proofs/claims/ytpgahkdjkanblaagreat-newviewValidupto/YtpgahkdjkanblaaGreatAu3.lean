/- Contracts: votes, the document's. -/
import Derived.Test.YtpgahkdjkanblaaGreatRq4
import Derived.Test.YtpgahkdjkanblaaGreatSpTab
import Derived.Test.YtpgahkdjkanblaaGreatSpOp
import Derived.Test.YtpgahkdjkanblaaGreatAu2
import Derived.Test.YtpgahkdjkanblaaGreatQu1
set_option linter.all false
set_option maxRecDepth 100000
set_option linter.unusedSimpArgs false
set_option linter.unusedVariables false
namespace Go.Proofs.YtpgahkdjkanblaaGreat
open Go.AW

theorem zwo {σ : List zf} {x : Int} {K : KT} (hK : K (.d (.bool (zja x))) σ) : zm Tryz.prog zjY [.d (.int .i64 x)] σ K := by
  refine zc e_r11_num.is rfl fun hl _ => e_r11_num.goes ?_
  have fin : ∀ z, zja x = z → K (.d (.bool z)) σ := fun z h => h ▸ hK
  clear hK
  simp only [S_r11_num, iN, bT, bF, eN]
  cases h1 : decide (x ≥ 0)
  · refine zH h1 ?_
    refine zq hl ?_
    exact fin _ (by simp at h1; simp [zja]; omega)
  · refine zH h1 ?_
    refine zq hl ?_
    exact fin _ (by simp at h1; simp [zja]; omega)
theorem c_raMay {σ : List zf} {a b c d : Int} {K : KT} (hK : K (.d (.bool (mayV a b c d))) σ) :
    zm Tryz.prog zsl [.d (.int .i64 a), .d (.int .i64 b), .d (.int .i64 c), .d (.int .i64 d)] σ K := by
  refine zc e_r11_may.is rfl fun hl _ => e_r11_may.goes ?_
  have fin : ∀ z, mayV a b c d = z → K (.d (.bool z)) σ := fun z h => h ▸ hK
  clear hK
  simp only [S_r11_may, iN, bT, bF, eN]
  refine zao ?_
  refine zwo ?_
  cases h1 : zja a
  · refine zao ?_
    refine zq hl ?_
    exact fin _ (by simp [mayV, h1])
  refine zao ?_
  refine zwo ?_
  cases h2 : zja b
  · refine zao ?_
    refine zq hl ?_
    exact fin _ (by simp [mayV, h1, h2])
  refine zao ?_
  refine zwo ?_
  cases h3 : zja c
  · refine zao ?_
    refine zq hl ?_
    exact fin _ (by simp [mayV, h1, h2, h3])
  refine zao ?_
  refine zwo ?_
  refine zao ?_
  refine zq hl ?_
  exact fin _ (by simp [mayV, h1, h2, h3])
theorem zwn {σ : List zf} {b : List UInt8} {x : Int} (hb : b.length ≤ 1000000) (h0 : 0 ≤ x) (h1 : x ≤ 9007199254740992) {K : KT} (hK : K (.d (.slice (bcs (b ++ zcf x.toNat)))) σ) :
    zm Tryz.prog zeD [.d (.slice (bcs b)), .d (.int .i64 x)] σ K := by
  refine zc e_r11_put.is rfl fun hl _ => e_r11_put.goes ?_
  have hm1 : (if 0 > x then 0 else x) = x := by split <;> omega
  have hm2 : (if x < 0 then 0 else x) = x := by split <;> omega
  have hw : IntKind.u64.wrap x = ((x.toNat : Nat) : Int) := by
    rw [show x = ((x.toNat : Nat) : Int) by omega, zcC (by omega)]; rfl
  simp only [S_r11_put, iN, bT, bF, eN]
  refine zH (zi hm1 (zi hm2 hw)) ?_
  refine zeH (by omega) (by omega) ?_
  refine zao ?_
  refine zq hl ?_
  exact hK
theorem zwm {σ : List zf} {a b c d : Int} (h : mayV a b c d = true) {K : KT} (hK : K (.d (.slice (bcs (voteB a b c d)))) σ) :
    zm Tryz.prog zdy [.d (.int .i64 a), .d (.int .i64 b), .d (.int .i64 c), .d (.int .i64 d)] σ K := by
  refine zc zms.is rfl fun hl _ => zms.goes ?_
  simp only [mayV, Bool.and_eq_true, numOk_iff] at h
  obtain ⟨⟨a0, a1⟩, ⟨b0, b1⟩, ⟨c0, c1⟩, ⟨d0, d1⟩⟩ := h
  have l1 := zp (n := a.toNat) (by omega)
  have l2 := zp (n := b.toNat) (by omega)
  have l3 := zp (n := c.toNat) (by omega)
  simp only [zmM, iN, bT, bF, eN]
  refine zao ?_
  refine zwn (b := [4]) (by simp) a0 a1 ?_
  obtain ⟨B1, hB1⟩ : ∃ B, [4] ++ zcf a.toNat = B := ⟨_, rfl⟩
  have n1 : B1.length ≤ 11 := by rw [← hB1]; simp; omega
  rw [hB1]
  refine zao ?_
  refine zwn (by omega) b0 b1 ?_
  obtain ⟨B2, hB2⟩ : ∃ B, B1 ++ zcf b.toNat = B := ⟨_, rfl⟩
  have n2 : B2.length ≤ 21 := by rw [← hB2]; simp; omega
  rw [hB2]
  refine zao ?_
  refine zwn (by omega) c0 c1 ?_
  obtain ⟨B3, hB3⟩ : ∃ B, B2 ++ zcf c.toNat = B := ⟨_, rfl⟩
  have n3 : B3.length ≤ 31 := by rw [← hB3]; simp; omega
  rw [hB3]
  refine zao ?_
  refine zwn (by omega) d0 d1 ?_
  refine zao ?_
  refine zq hl ?_
  rw [show B3 ++ zcf d.toNat = voteB a b c d by rw [← hB3, ← hB2, ← hB1]; simp [voteB, zbq]]
  exact hK
end Go.Proofs.YtpgahkdjkanblaaGreat

/- Certificates: whether they are valid. No program in sight. -/
set_option linter.unusedSimpArgs false
set_option linter.unusedVariables false
namespace Go.Proofs.YtpgahkdjkanblaaGreat
open Go.AW

def zmd (f v : Int) : Int := if (f < 1 ∨ f > 4) ∨ v < 0 ∨ v > 9007199254740992 then -1 else v.tmod (3 * f + 1)
def zuj (L : List (List UInt8)) (G : List zP) (f lead view seq dig : Int) : Int → List zP → Bool
  | _, [] => true
  | last, s :: r => !(decide (s.key ≤ last)) && (!(decide (s.key ≥ zcJ 3 f)) && (!(s.key == lead) && (zfw L G s s.key 3 view seq dig && zuj L G f lead view seq dig s.key r)))
def zhG (f : Int) (p : zbW) : Bool := decide (zbK f = 0) && (!(decide (p.view < 0)) && (!(decide (p.view > 9007199254740992)) && (!(decide (p.seq < 1)) && !(decide (p.seq > 9007199254740992)))))
def prepH (L : List (List UInt8)) (G : List zP) (f : Int) (p : zbW) : Bool :=
  zfw L G ⟨p.fkey, p.fdig⟩ (zmd f p.view) 2 p.view p.seq p.dig && (((p.signs.length : Int) == 2 * f) && zuj L G f (zmd f p.view) p.view p.seq p.dig (-1) p.signs)
def prepG (L : List (List UInt8)) (G : List zP) (f : Int) (p : zbW) : Bool := match zen L (zff p.batch) with
  | some i => (((i + 1 : Nat) : Int) == p.dig) && prepH L G f p
  | none => false
def zhe (L : List (List UInt8)) (G : List zP) (f : Int) (p : zbW) : Bool := zhG f p && (zgD L G p.batch && prepG L G f p)
theorem zqT {L : List (List UInt8)} {G : List zP} {b : List zu} (h : zgD L G b = true) : zy b = 0 := by
  simp [zgD] at h; exact h.1
theorem prim_tmod {f v : Int} (h : ¬ (f < 1 ∨ f > 4)) (h0 : ¬ v < 0) (h1 : ¬ v > 9007199254740992) : 0 ≤ v.tmod (3 * f + 1) ∧ v.tmod (3 * f + 1) ≤ 12 := by
  have := Int.tmod_lt_of_pos v (b := 3 * f + 1) (by omega)
  have h2 := Int.tmod_nonneg (3 * f + 1) (show 0 ≤ v by omega)
  omega
abbrev prepA (p : zbW) : AV := .agg [.d (.int .i64 p.view), .d (.int .i64 p.seq), .d (.int .i64 p.dig), .d (.int .i64 p.fkey), .d (.int .i64 p.fdig), .d (.slice (zas p.signs)), .d (.slice (zbo p.batch))]
theorem zui {L : List (List UInt8)} {G : List zP} {f lead view seq dig last : Int} {l : List zP} {k : Nat} {s : zP} (h : l[k]? = some s) :
    zuj L G f lead view seq dig last (l.drop k) = (!(decide (s.key ≤ last)) && (!(decide (s.key ≥ zcJ 3 f)) && (!(s.key == lead) && (zfw L G s s.key 3 view seq dig && zuj L G f lead view seq dig s.key (l.drop (k + 1)))))) := by
  have hk : k < l.length := (List.getElem?_eq_some_iff.1 h).1
  rw [List.drop_eq_getElem_cons hk, (List.getElem?_eq_some_iff.1 h).2]
  rfl
end Go.Proofs.YtpgahkdjkanblaaGreat

/- Contracts: whether a certificate is valid, the program's. -/
set_option maxRecDepth 100000
set_option linter.unusedSimpArgs false
set_option linter.unusedVariables false
namespace Go.Proofs.YtpgahkdjkanblaaGreat
open Go.AW

theorem c_quView {σ : List zf} {f v : Int} {K : KT} (hK : K (.d (.bool (!decide ((f < 1 ∨ f > 4) ∨ v < 0 ∨ v > 9007199254740992)))) σ) : zm Tryz.prog zkQ [.d (.int .i64 f), .d (.int .i64 v)] σ K := by
  refine zc zpj.is rfl fun hl _ => zpj.goes ?_
  simp only [zpK, iN, bT, bF, eN]
  refine zao ?_
  refine zks ?_
  by_cases h : f < 1 ∨ f > 4
  · rw [decide_eq_true (.inl h)] at hK
    rw [zbK, if_pos h]
    refine zH (show ((120 : Int) == 0) = false from rfl) ?_
    refine zq hl ?_
    exact hK
  · rw [zbK, if_neg h]
    cases h1 : decide (v ≥ 0)
    · rw [decide_eq_true (.inr (.inl (by simpa using h1)))] at hK
      refine zH (zB (show ((0 : Int) == 0) = true from rfl) h1) ?_
      refine zq hl ?_
      exact hK
    · have h0 : ¬ v < 0 := by simp at h1; omega
      refine zH (zB (show ((0 : Int) == 0) = true from rfl) h1) ?_
      refine zq hl ?_
      rw [show decide (v ≤ 9007199254740992) = !decide ((f < 1 ∨ f > 4) ∨ v < 0 ∨ v > 9007199254740992) by
        by_cases h2 : v ≤ 9007199254740992
        · rw [decide_eq_true h2, decide_eq_false (by omega)]; rfl
        · rw [decide_eq_false h2, decide_eq_true (by omega)]; rfl]
      exact hK
theorem c_quPrimary {σ : List zf} {f v : Int} {K : KT} (hK : K (.d (.int .i64 (zmd f v))) σ) : zm Tryz.prog zhz [.d (.int .i64 f), .d (.int .i64 v)] σ K := by
  refine zc zln.is rfl fun hl _ => zln.goes ?_
  simp only [zlF, iN, bT, bF, eN]
  refine zao ?_
  refine c_quView ?_
  by_cases h : (f < 1 ∨ f > 4) ∨ v < 0 ∨ v > 9007199254740992
  · rw [zmd, if_pos h] at hK
    rw [decide_eq_true h]
    refine zao ?_
    refine zq hl ?_
    exact hK
  · rw [zmd, if_neg h] at hK
    rw [decide_eq_false h]
    have hf : ¬ (f < 1 ∨ f > 4) := fun e => h (.inl e)
    refine zao ?_
    refine ziM ?_
    rw [zcJ, if_neg hf]
    have := prim_tmod hf (fun e => h (.inr (.inl e))) (fun e => h (.inr (.inr e)))
    have hw : IntKind.i64.wrap (v.tmod (3 * f + 1)) = v.tmod (3 * f + 1) := zat (by omega) (by omega)
    have hz : (3 * f + 1 == 0) = false := by simp; omega
    refine zH (zB hw hz) ?_
    refine zq hl ?_
    exact hK
end Go.Proofs.YtpgahkdjkanblaaGreat

/- Contracts: whether a certificate is valid, the program's. -/
set_option maxRecDepth 100000
set_option linter.unusedSimpArgs false
set_option linter.unusedVariables false
namespace Go.Proofs.YtpgahkdjkanblaaGreat
open Go.AW

structure smallP (p : zbW) : Prop where
  ops : ∀ x ∈ p.batch, zlX x.op ≤ 20971520
  batch : p.batch.length ≤ 1073741824
  signs : p.signs.length ≤ 1073741824

theorem c_prValid {σ : List zf} {id m t id2 m2 t2 : Nat} {L : List (List UInt8)} {G : List zP} {f : Int} {p : zbW} (hT : zed σ id m t L) (hG : zee σ id2 m2 t2 G) (hL : zwx L) (hg : G.length ≤ 1073741824) (hp : smallP p)
    {K : KT} (hK : K (.d (.bool (zhe L G f p))) σ) : zm Tryz.prog zhA [.box id 0, .box id2 0, .d (.int .i64 f), prepA p] σ K := by
  refine zc zlp.is rfl fun hl _ => zlp.goes ?_
  have fin : ∀ z, zhe L G f p = z → K (.d (.bool z)) σ := fun z h => h ▸ hK
  clear hK
  simp only [zlH, iN, bT, bF, eN, prepA]
  refine zao ?_
  refine zwh (hT.app _) hL.nd hL.len hL.each ?_
  refine zao ?_
  refine zrP (hG.app _) hg fun g' => ?_
  refine zao ?_
  refine zks ?_
  by_cases h0 : f < 1 ∨ f > 4
  · rw [zbK, if_pos h0]
    refine zH (show ((120 : Int) != 0) = true from rfl) ?_
    refine zq hl ?_
    exact fin _ (by simp [zhe, zhG, zbK, h0])
  have hc0 : zbK f = 0 := if_neg h0
  rw [hc0]
  cases h1 : decide (p.view < 0)
  rotate_left
  · refine zH (zB (show ((0 : Int) != 0) = false from rfl) h1) ?_
    refine zq hl ?_
    exact fin _ (by simp [zhe, zhG, h1])
  cases h2 : decide (p.view > 9007199254740992)
  rotate_left
  · refine zH (zB (show ((0 : Int) != 0) = false from rfl) (zB h1 h2)) ?_
    refine zq hl ?_
    exact fin _ (by simp [zhe, zhG, h2])
  cases h3 : decide (p.seq < 1)
  rotate_left
  · refine zH (zB (show ((0 : Int) != 0) = false from rfl) (zB h1 (zB h2 h3))) ?_
    refine zq hl ?_
    exact fin _ (by simp [zhe, zhG, h3])
  cases h4 : decide (p.seq > 9007199254740992)
  rotate_left
  · refine zH (zB (show ((0 : Int) != 0) = false from rfl) (zB h1 (zB h2 (zB h3 h4)))) ?_
    refine zq hl ?_
    exact fin _ (by simp [zhe, zhG, h4])
  have hok : zhG f p = true := by simp [zhG, hc0, h1, h2, h3, h4]
  have hpf : zhe L G f p = (zgD L G p.batch && prepG L G f p) := by rw [zhe, hok, Bool.true_and]
  refine zH (zB (show ((0 : Int) != 0) = false from rfl) (zB h1 (zB h2 (zB h3 h4)))) ?_
  refine zuc (b := p.batch) (hT.app _) (hG.app _) hp.ops hp.batch ?_
  cases h5 : zgD L G p.batch
  · refine zao ?_
    refine zq hl ?_
    exact fin _ (by rw [hpf, h5]; rfl)
  rw [h5, Bool.true_and] at hpf
  have hcb := zqT h5
  refine zao ?_
  refine c_PutBatch (b := []) (by simp) hp.ops hp.batch ?_
  rw [List.nil_append, show zdq p.batch = zff p.batch from if_pos hcb]
  refine zao ?_
  refine ztd (hT.app _) ?_
  refine zao ?_
  refine c_quPrimary ?_
  cases h6 : zen L (zff p.batch) with
  | none =>
    refine gq67 ?_
    refine zq hl ?_
    exact fin _ (by simp only [hpf, prepG, h6])
  | some i =>
    simp only [prepG, h6] at hpf
    simp only [zvT]
    cases h7 : (((i + 1 : Nat) : Int) == p.dig)
    · have h7' : (((i + 1 : Nat) : Int) != p.dig) = true := by simpa using h7
      refine gq70 h7' ?_
      refine zq hl ?_
      exact fin _ (by rw [hpf, h7]; rfl)
    have h7' : (((i + 1 : Nat) : Int) != p.dig) = false := by simpa using h7
    have h7e : ((i + 1 : Nat) : Int) = p.dig := by simpa using h7
    simp only [h7, Bool.true_and] at hpf
    rw [h7e] at h7' ⊢
    refine gq70 h7' ?_
    refine zlf (s := ⟨p.fkey, p.fdig⟩) (hT.app _) (hG.app _) hL hg ?_
    cases h8 : zfw L G ⟨p.fkey, p.fdig⟩ (zmd f p.view) 2 p.view p.seq p.dig
    · refine zao ?_
      refine zq hl ?_
      exact fin _ (by rw [hpf, prepH, h8]; rfl)
    rw [prepH, h8, Bool.true_and] at hpf
    have hw2 : IntKind.i64.wrap (2 * f) = 2 * f := zat (by omega) (by omega)
    have hlen : (zas p.signs).length = p.signs.length := List.length_map ..
    cases h9 : ((p.signs.length : Int) == 2 * f)
    · have h9' : ((p.signs.length : Int) != 2 * f) = true := by simpa using h9
      refine zH (zB hw2 (zB hlen h9')) ?_
      refine zq hl ?_
      exact fin _ (by rw [hpf, h9]; rfl)
    have h9' : ((p.signs.length : Int) != 2 * f) = false := by simpa using h9
    rw [h9, Bool.true_and] at hpf
    refine zH (zB hw2 (zB hlen h9')) ?_
    refine zl p.signs.length (fun k vs s => ∃ last : Int, vs = [.d (.int .i64 last), .d (.int .i64 k)] ∧ (∃ T, s = σ ++ (.box [.d (.int .i64 p.view), .d (.int .i64 p.seq), .d (.int .i64 p.dig), .d (.int .i64 p.fkey), .d (.int .i64 p.fdig), .d (.slice (zas p.signs)), .d (.slice (zbo p.batch))] :: T)) ∧
      zhe L G f p = zuj L G f (zmd f p.view) p.view p.seq p.dig last (p.signs.drop k)) ⟨-1, rfl, ⟨_, rfl⟩, by simpa using hpf⟩ ?_
    rintro k vs s hk ⟨last, rfl, ⟨T, rfl⟩, hpf⟩
    by_cases hlt : k < p.signs.length
    · have hd : decide ((k : Int) < (p.signs.length : Int)) = true := by simp; omega
      have hx : p.signs[k]? = some p.signs[k] := by simp [hlt]
      have hgx := zQ (f := zeS) hx
      obtain ⟨x, hxe⟩ : ∃ x, p.signs[k] = x := ⟨_, rfl⟩
      rw [hxe] at hx hgx
      have hsl := hp.signs
      rw [zui hx] at hpf
      have hw : IntKind.i64.wrap ((k : Int) + 1) = ((k + 1 : Nat) : Int) := by rw [zat (by omega) (by omega)]; rfl
      cases g1 : decide (x.key ≤ last)
      rotate_left
      · refine znj (zB hd (zB hgx (zB hlen g1))) ?_
        refine zq hl ?_
        exact fin _ (by rw [hpf, g1]; rfl)
      refine znj (zB hd (zB hgx (zB hlen g1))) ?_
      refine ziM ?_
      cases g2 : decide (x.key ≥ zcJ 3 f)
      rotate_left
      · refine zH g2 ?_
        refine zq hl ?_
        exact fin _ (by rw [hpf, g1, g2]; rfl)
      cases g3 : (x.key == zmd f p.view)
      rotate_left
      · refine zH (zB g2 g3) ?_
        refine zq hl ?_
        exact fin _ (by rw [hpf, g1, g2, g3]; rfl)
      rw [g1, g2, g3] at hpf
      simp only [Bool.not_false, Bool.true_and] at hpf
      refine zH (zB g2 g3) ?_
      refine zlf (s := x) (hT.app _) (hG.app _) hL hg ?_
      cases g4 : zfw L G x x.key 3 p.view p.seq p.dig
      · rw [g4] at hpf
        refine zao ?_
        refine zq hl ?_
        exact fin _ hpf
      · rw [g4, Bool.true_and] at hpf
        refine zH hw ?_
        exact zaG.next hlt ⟨x.key, rfl, ⟨_, rfl⟩, hpf⟩
    · have hd : decide ((k : Int) < (p.signs.length : Int)) = false := by simp; omega
      rw [List.drop_eq_nil_of_le (by omega)] at hpf
      refine zH (zB hd hlen) ?_
      refine zq hl ?_
      exact fin _ hpf
end Go.Proofs.YtpgahkdjkanblaaGreat
