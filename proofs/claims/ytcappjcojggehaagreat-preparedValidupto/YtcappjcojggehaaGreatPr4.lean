/- Contracts: votes and certificates, the document's. -/
import Derived.Test.YtcappjcojggehaaGreatAu3
import Derived.Test.YtcappjcojggehaaGreatPr2
set_option linter.all false
set_option maxRecDepth 100000
set_option linter.unusedSimpArgs false
set_option linter.unusedVariables false
namespace Go.Proofs.YtcappjcojggehaaGreat
open Go.AW

theorem c_raSigned {σ : List zb} {id id2 : Nat} {L : List (List UInt8)} {G : List zR} {s : zR} {key : Int} {b : List UInt8} (hT : σ[id]? = some (rtO L)) (hG : σ[id2]? = some (rlO G)) (hl0 : L.length ≤ 1048576) (hg : G.length ≤ 1073741824) {K : AV → List zb → Prop}
    (hK : K (.d (.bool (zdK L G s key b))) σ) : zK Tryz.prog zhz [.box id 0, .box id2 0, .agg [.d (.int .i64 s.key), .d (.int .i64 s.dig)], .d (.int .i64 key), .d (.slice (bcs b))] σ K := by
  refine zi zkS.is rfl fun hl _ => zkS.goes ?_
  simp only [zle, iN, bT, bF, eN]
  (repeat' first | refine gq1 ?_ | with_reducible first | exact ⟨⟩ | refine zn ?_ | fail)
  refine zlu (zE hT) hl0 ?_
  have fin : ∀ z, zdK L G s key b = z → K (.d (.bool z)) σ := fun z h => h ▸ hK
  clear hK
  cases hlk : zcX L b with
  | none =>
    (repeat' first | refine gq7 ?_ | with_reducible first | exact ⟨⟩ | refine zn ?_ | fail)
    (first | refine zai hl ?_ | refine zah hl ?_)
    exact fin _ (by simp [zdK, hlk])
  | some i =>
    simp only [zmT]
    cases h1 : (s.key == key)
    · (repeat' first | refine gq46 h1 ?_ | with_reducible first | exact ⟨⟩ | refine zn ?_ | fail)
      (first | refine zai hl ?_ | refine zah hl ?_)
      exact fin _ (by simp at h1; simp [zdK, hlk, h1])
    · cases h2 : (s.dig == ((i + 1 : Nat) : Int))
      · (repeat' first | refine gq46 (zp h1 h2) ?_ | with_reducible first | exact ⟨⟩ | refine zn ?_ | fail)
        (first | refine zai hl ?_ | refine zah hl ?_)
        exact fin _ (by simp at h1 h2; simp [zdK, hlk, h1]; omega)
      · (repeat' first | refine gq46 (zp h1 h2) ?_ | with_reducible first | exact ⟨⟩ | refine zn ?_ | fail)
        refine zky (s := s) (zE hG) hg ?_
        (repeat' first | refine gq1 ?_ | with_reducible first | exact ⟨⟩ | refine zn ?_ | fail)
        (first | refine zai hl ?_ | refine zah hl ?_)
        exact fin _ (by simp at h1 h2; simp [zdK, hlk, h1, h2])
theorem zjB {σ : List zb} {id id2 : Nat} {L : List (List UInt8)} {G : List zR} {s : zR} {key a b c d : Int} (hT : σ[id]? = some (rtO L)) (hG : σ[id2]? = some (rlO G)) (hl0 : L.length ≤ 1048576) (hg : G.length ≤ 1073741824) {K : AV → List zb → Prop}
    (hK : K (.d (.bool (zfB L G s key a b c d))) σ) :
    zK Tryz.prog zdr [.box id 0, .box id2 0, .agg [.d (.int .i64 s.key), .d (.int .i64 s.dig)], .d (.int .i64 key), .d (.int .i64 a), .d (.int .i64 b), .d (.int .i64 c), .d (.int .i64 d)] σ K := by
  refine zi zhL.is rfl fun hl _ => zhL.goes ?_
  simp only [zhY, iN, bT, bF, eN]
  (repeat' first | refine gq1 ?_ | with_reducible first | exact ⟨⟩ | refine zn ?_ | fail)
  refine c_raMay ?_
  cases hm : zlN a b c d
  · rw [zfB, hm, Bool.false_and] at hK
    (repeat' first | refine gq1 ?_ | with_reducible first | exact ⟨⟩ | refine zn ?_ | fail)
    (first | refine zai hl ?_ | refine zah hl ?_)
    exact hK
  · rw [zfB, hm, Bool.true_and] at hK
    (repeat' first | refine gq1 ?_ | with_reducible first | exact ⟨⟩ | refine zn ?_ | fail)
    refine zjA hm ?_
    (repeat' first | refine gq1 ?_ | with_reducible first | exact ⟨⟩ | refine zn ?_ | fail)
    refine c_raSigned (s := s) (zE hT) (zE hG) hl0 hg ?_
    (repeat' first | refine gq1 ?_ | with_reducible first | exact ⟨⟩ | refine zn ?_ | fail)
    (first | refine zai hl ?_ | refine zah hl ?_)
    exact hK
theorem c_rPrimary {σ : List zb} {f v : Int} {K : AV → List zb → Prop} (hK : K (.d (.int .i64 (zhy f v))) σ) : zK Tryz.prog zgt [.d (.int .i64 f), .d (.int .i64 v)] σ K := by
  refine zi zjs.is rfl fun hl _ => zjs.goes ?_
  simp only [zjL, iN, bT, bF, eN]
  (repeat' first | refine gq1 ?_ | with_reducible first | exact ⟨⟩ | refine zn ?_ | fail)
  refine zmr ?_
  have fin : ∀ z, zhy f v = z → K (.d (.int .i64 z)) σ := fun z h => h ▸ hK
  clear hK
  by_cases h : f < 1 ∨ f > 4
  · rw [zcY, if_pos h]
    (repeat' first | refine gq2 (show ((120 : Int) != 0) = true from rfl) ?_ | with_reducible first | exact ⟨⟩ | refine zn ?_ | fail)
    (first | refine zai hl ?_ | refine zah hl ?_)
    exact fin _ (by rw [zhy, if_pos (.inl h)])
  · rw [zcY, if_neg h]
    cases h1 : decide (v < 0)
    rotate_left
    · (repeat' first | refine gq2 (zp (show ((0 : Int) != 0) = false from rfl) h1) ?_ | with_reducible first | exact ⟨⟩ | refine zn ?_ | fail)
      (first | refine zai hl ?_ | refine zah hl ?_)
      exact fin _ (by rw [zhy, if_pos (.inr (.inl (by simpa using h1)))])
    cases h2 : decide (v > 9007199254740992)
    rotate_left
    · (repeat' first | refine gq2 (zp (show ((0 : Int) != 0) = false from rfl) (zp h1 h2)) ?_ | with_reducible first | exact ⟨⟩ | refine zn ?_ | fail)
      (first | refine zai hl ?_ | refine zah hl ?_)
      exact fin _ (by rw [zhy, if_pos (.inr (.inr (by simpa using h2)))])
    simp only [decide_eq_false_iff_not] at h1 h2
    have hz : (3 * f + 1 == 0) = false := by simp; omega
    (repeat' first | refine gq2 (zp (show ((0 : Int) != 0) = false from rfl) (zp (decide_eq_false h1) (decide_eq_false h2))) ?_ | with_reducible first | exact ⟨⟩ | refine zn ?_ | fail)
    refine znQ ?_
    rw [zfC, if_neg h]
    (repeat' first | refine gq2 hz ?_ | with_reducible first | exact ⟨⟩ | refine zn ?_ | fail)
    (first | refine zai hl ?_ | refine zah hl ?_)
    exact fin _ (by rw [zhy, if_neg (by omega)])
theorem znR {σ : List zb} {id id2 : Nat} {L : List (List UInt8)} {G : List zR} {f : Int} {p : zbN} (hT : σ[id]? = some (rtO L)) (hG : σ[id2]? = some (rlO G)) (hL : zmy L) (hg : G.length ≤ 1073741824) (hp : zkG p)
    {K : AV → List zb → Prop} (hK : K (.d (.bool (zdB L G f p))) σ) : zK Tryz.prog zgs [.box id 0, .box id2 0, .d (.int .i64 f), zjg p] σ K := by
  refine zi zmb.is rfl fun hl _ => zmb.goes ?_
  have fin : ∀ z, zdB L G f p = z → K (.d (.bool z)) σ := fun z h => h ▸ hK
  clear hK
  simp only [zmB, iN, bT, bF, eN, zjg]
  (repeat' first | refine gq1 ?_ | with_reducible first | exact ⟨⟩ | refine zn ?_ | fail)
  refine zmr ?_
  by_cases h0 : f < 1 ∨ f > 4
  · rw [zcY, if_pos h0]
    (repeat' first | refine gq2 (show ((120 : Int) != 0) = true from rfl) ?_ | with_reducible first | exact ⟨⟩ | refine zn ?_ | fail)
    (first | refine zai hl ?_ | refine zah hl ?_)
    exact fin _ (by simp [zdB, zel, zcY, h0])
  have hc0 : zcY f = 0 := if_neg h0
  rw [hc0]
  cases h1 : decide (p.view < 0)
  rotate_left
  · (repeat' first | refine gq2 (zp (show ((0 : Int) != 0) = false from rfl) h1) ?_ | with_reducible first | exact ⟨⟩ | refine zn ?_ | fail)
    (first | refine zai hl ?_ | refine zah hl ?_)
    exact fin _ (by simp [zdB, zel, h1])
  cases h2 : decide (p.view > 9007199254740992)
  rotate_left
  · (repeat' first | refine gq2 (zp (show ((0 : Int) != 0) = false from rfl) (zp h1 h2)) ?_ | with_reducible first | exact ⟨⟩ | refine zn ?_ | fail)
    (first | refine zai hl ?_ | refine zah hl ?_)
    exact fin _ (by simp [zdB, zel, h2])
  cases h3 : decide (p.seq < 1)
  rotate_left
  · (repeat' first | refine gq2 (zp (show ((0 : Int) != 0) = false from rfl) (zp h1 (zp h2 h3))) ?_ | with_reducible first | exact ⟨⟩ | refine zn ?_ | fail)
    (first | refine zai hl ?_ | refine zah hl ?_)
    exact fin _ (by simp [zdB, zel, h3])
  cases h4 : decide (p.seq > 9007199254740992)
  rotate_left
  · (repeat' first | refine gq2 (zp (show ((0 : Int) != 0) = false from rfl) (zp h1 (zp h2 (zp h3 h4)))) ?_ | with_reducible first | exact ⟨⟩ | refine zn ?_ | fail)
    (first | refine zai hl ?_ | refine zah hl ?_)
    exact fin _ (by simp [zdB, zel, h4])
  have hok : zel f p = true := by simp [zel, hc0, h1, h2, h3, h4]
  have hpf : zdB L G f p = (zdJ L G p.batch && prepG L G f p) := by rw [zdB, hok, Bool.true_and]
  (repeat' first | refine gq2 (zp (show ((0 : Int) != 0) = false from rfl) (zp h1 (zp h2 (zp h3 h4)))) ?_ | with_reducible first | exact ⟨⟩ | refine zn ?_ | fail)
  refine zmp (b := p.batch) (zE hT) (zE hG) hL hg hp.ops hp.batch ?_
  cases h5 : zdJ L G p.batch
  · (repeat' first | refine gq1 ?_ | with_reducible first | exact ⟨⟩ | refine zn ?_ | fail)
    (first | refine zai hl ?_ | refine zah hl ?_)
    exact fin _ (by rw [hpf, h5]; rfl)
  rw [h5, Bool.true_and] at hpf
  have hcb := zkF h5
  have hw2 : IntKind.i64.wrap (2 * f) = 2 * f := zak (by omega) (by omega)
  have hlen : (zaV p.signs).length = p.signs.length := List.length_map ..
  cases h9 : ((p.signs.length : Int) == 2 * f)
  · have h9' : ((p.signs.length : Int) != 2 * f) = true := by simpa using h9
    (repeat' first | refine gq2 (zp hw2 (zp hlen h9')) ?_ | with_reducible first | exact ⟨⟩ | refine zn ?_ | fail)
    (first | refine zai hl ?_ | refine zah hl ?_)
    refine fin _ ?_
    rw [hpf, prepG]
    split
    · rw [prepH, h9]; simp
    · rfl
  have h9' : ((p.signs.length : Int) != 2 * f) = false := by simpa using h9
  (repeat' first | refine gq2 (zp hw2 (zp hlen h9')) ?_ | with_reducible first | exact ⟨⟩ | refine zn ?_ | fail)
  refine zmq (b := []) (by simp) hp.ops hp.batch ?_
  rw [List.nil_append, show zbt p.batch = zdH p.batch from if_pos hcb]
  (repeat' first | refine gq1 ?_ | with_reducible first | exact ⟨⟩ | refine zn ?_ | fail)
  refine zlu (zE hT) hL.len ?_
  (repeat' first | refine gq1 ?_ | with_reducible first | exact ⟨⟩ | refine zn ?_ | fail)
  refine c_rPrimary ?_
  cases h6 : zcX L (zdH p.batch) with
  | none =>
    (repeat' first | refine gq7 ?_ | with_reducible first | exact ⟨⟩ | refine zn ?_ | fail)
    (first | refine zai hl ?_ | refine zah hl ?_)
    exact fin _ (by simp only [hpf, prepG, h6])
  | some i =>
    simp only [prepG, h6] at hpf
    simp only [zmT]
    cases h7 : (((i + 1 : Nat) : Int) == p.dig)
    · have h7' : (((i + 1 : Nat) : Int) != p.dig) = true := by simpa using h7
      (repeat' first | refine gq46 h7' ?_ | with_reducible first | exact ⟨⟩ | refine zn ?_ | fail)
      (first | refine zai hl ?_ | refine zah hl ?_)
      exact fin _ (by rw [hpf, h7]; rfl)
    have h7' : (((i + 1 : Nat) : Int) != p.dig) = false := by simpa using h7
    have h7e : ((i + 1 : Nat) : Int) = p.dig := by simpa using h7
    simp only [h7, Bool.true_and] at hpf
    rw [h7e] at h7' ⊢
    (repeat' first | refine gq46 h7' ?_ | with_reducible first | exact ⟨⟩ | refine zn ?_ | fail)
    refine zjB (s := ⟨p.fkey, p.fdig⟩) (zE hT) (zE hG) hL.len hg ?_
    cases h8 : zfB L G ⟨p.fkey, p.fdig⟩ (zhy f p.view) 2 p.view p.seq p.dig
    · (repeat' first | refine gq1 ?_ | with_reducible first | exact ⟨⟩ | refine zn ?_ | fail)
      (first | refine zai hl ?_ | refine zah hl ?_)
      exact fin _ (by rw [hpf, prepH, h8]; rfl)
    rw [prepH, h8, Bool.true_and, h9, Bool.true_and] at hpf
    (repeat' first | refine gq1 ?_ | with_reducible first | exact ⟨⟩ | refine zn ?_ | fail)
    refine zX p.signs.length (fun k vs s => ∃ last : Int, vs = [.d (.int .i64 last), .d (.int .i64 k)] ∧ s = σ ++ [.box [.d (.int .i64 p.view), .d (.int .i64 p.seq), .d (.int .i64 p.dig), .d (.int .i64 p.fkey), .d (.int .i64 p.fdig), .d (.slice (zaV p.signs)), .d (.slice (zbu p.batch))]] ∧
      zdB L G f p = znd L G f (zhy f p.view) p.view p.seq p.dig last (p.signs.drop k)) ⟨-1, rfl, rfl, by simpa using hpf⟩ ?_
    rintro k vs s hk ⟨last, rfl, rfl, hpf⟩
    by_cases hlt : k < p.signs.length
    · have hd : decide ((k : Int) < (p.signs.length : Int)) = true := by simp; omega
      have hx : p.signs[k]? = some p.signs[k] := by simp [hlt]
      have hgx := zaS (f := zhu) hx
      obtain ⟨x, hxe⟩ : ∃ x, p.signs[k] = x := ⟨_, rfl⟩
      rw [hxe] at hx hgx
      have hsl := hp.signs
      rw [znc hx] at hpf
      have hw : IntKind.i64.wrap ((k : Int) + 1) = ((k + 1 : Nat) : Int) := by rw [zak (by omega) (by omega)]; rfl
      cases g1 : decide (x.key ≤ last)
      rotate_left
      · (repeat' first | refine gq61 (zp hd (zp hgx (zp hlen g1))) ?_ | with_reducible first | exact ⟨⟩ | refine zn ?_ | fail)
        (first | refine zai hl ?_ | refine zah hl ?_)
        exact fin _ (by rw [hpf, g1]; rfl)
      (repeat' first | refine gq61 (zp hd (zp hgx (zp hlen g1))) ?_ | with_reducible first | exact ⟨⟩ | refine zn ?_ | fail)
      refine znQ ?_
      cases g2 : decide (x.key ≥ zfC 3 f)
      rotate_left
      · (repeat' first | refine gq2 g2 ?_ | with_reducible first | exact ⟨⟩ | refine zn ?_ | fail)
        (first | refine zai hl ?_ | refine zah hl ?_)
        exact fin _ (by rw [hpf, g1, g2]; rfl)
      cases g3 : (x.key == zhy f p.view)
      rotate_left
      · (repeat' first | refine gq2 (zp g2 g3) ?_ | with_reducible first | exact ⟨⟩ | refine zn ?_ | fail)
        (first | refine zai hl ?_ | refine zah hl ?_)
        exact fin _ (by rw [hpf, g1, g2, g3]; rfl)
      rw [g1, g2, g3] at hpf
      simp only [Bool.not_false, Bool.true_and] at hpf
      (repeat' first | refine gq61 (zp g2 (zp g3 hgx)) ?_ | with_reducible first | exact ⟨⟩ | refine zn ?_ | fail)
      refine zjB (s := x) (zE hT) (zE hG) hL.len hg ?_
      cases g4 : zfB L G x x.key 3 p.view p.seq p.dig
      · rw [g4] at hpf
        (repeat' first | refine gq1 ?_ | with_reducible first | exact ⟨⟩ | refine zn ?_ | fail)
        (first | refine zai hl ?_ | refine zah hl ?_)
        exact fin _ hpf
      · rw [g4, Bool.true_and] at hpf
        (repeat' first | refine gq2 hw ?_ | with_reducible first | exact ⟨⟩ | refine zn ?_ | fail)
        exact zbh.next hlt ⟨x.key, rfl, rfl, hpf⟩
    · have hd : decide ((k : Int) < (p.signs.length : Int)) = false := by simp; omega
      rw [List.drop_eq_nil_of_le (by omega)] at hpf
      (repeat' first | refine gq2 (zp hd hlen) ?_ | with_reducible first | exact ⟨⟩ | refine zn ?_ | fail)
      (first | refine zai hl ?_ | refine zah hl ?_)
      exact fin _ hpf
end Go.Proofs.YtcappjcojggehaaGreat
