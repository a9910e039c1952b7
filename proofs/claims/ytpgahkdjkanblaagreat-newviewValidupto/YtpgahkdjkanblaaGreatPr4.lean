/- Contracts: votes and certificates, the document's. -/
import Derived.Test.YtpgahkdjkanblaaGreatAu3
import Derived.Test.YtpgahkdjkanblaaGreatKr4
import Derived.Test.YtpgahkdjkanblaaGreatAu2
set_option linter.all false
set_option maxRecDepth 100000
set_option linter.unusedSimpArgs false
set_option linter.unusedVariables false
namespace Go.Proofs.YtpgahkdjkanblaaGreat
open Go.AW

theorem zvf {σ : List zf} {id id2 : Nat} {L : List (List UInt8)} {G : List zP} {s : zP} {key : Int} {b : List UInt8} (hT : σ[id]? = some (rtO L)) (hG : σ[id2]? = some (rlO G)) (hl0 : L.length ≤ 1048576) (hg : G.length ≤ 1073741824) {K : KT}
    (hK : K (.d (.bool (zfF L G s key b))) σ) : zm Tryz.prog zje [.box id 0, .box id2 0, .agg [.d (.int .i64 s.key), .d (.int .i64 s.dig)], .d (.int .i64 key), .d (.slice (bcs b))] σ K := by
  refine zc zrf.is rfl fun hl _ => zrf.goes ?_
  simp only [zrq, iN, bT, bF, eN]
  refine zao ?_
  refine zwk (zx hT) hl0 ?_
  have fin : ∀ z, zfF L G s key b = z → K (.d (.bool z)) σ := fun z h => h ▸ hK
  clear hK
  cases hlk : zen L b with
  | none =>
    refine gq67 ?_
    refine zq hl ?_
    exact fin _ (by simp [zfF, hlk])
  | some i =>
    simp only [zvT]
    cases h1 : (s.key == key)
    · refine gq70 h1 ?_
      refine zq hl ?_
      exact fin _ (by simp at h1; simp [zfF, hlk, h1])
    · cases h2 : (s.dig == ((i + 1 : Nat) : Int))
      · refine gq70 (zB h1 h2) ?_
        refine zq hl ?_
        exact fin _ (by simp at h1 h2; simp [zfF, hlk, h1]; omega)
      · refine gq70 (zB h1 h2) ?_
        refine zqN (s := s) (zx hG) hg ?_
        refine zao ?_
        refine zq hl ?_
        exact fin _ (by simp at h1 h2; simp [zfF, hlk, h1, h2])
theorem zlc {σ : List zf} {id id2 : Nat} {L : List (List UInt8)} {G : List zP} {s : zP} {key a b c d : Int} (hT : σ[id]? = some (rtO L)) (hG : σ[id2]? = some (rlO G)) (hl0 : L.length ≤ 1048576) (hg : G.length ≤ 1073741824) {K : KT}
    (hK : K (.d (.bool (zfw L G s key a b c d))) σ) :
    zm Tryz.prog zeE [.box id 0, .box id2 0, .agg [.d (.int .i64 s.key), .d (.int .i64 s.dig)], .d (.int .i64 key), .d (.int .i64 a), .d (.int .i64 b), .d (.int .i64 c), .d (.int .i64 d)] σ K := by
  refine zc zmt.is rfl fun hl _ => zmt.goes ?_
  simp only [zmN, iN, bT, bF, eN]
  refine zao ?_
  refine c_raMay ?_
  cases hm : mayV a b c d
  · rw [zfw, hm, Bool.false_and] at hK
    refine zao ?_
    refine zq hl ?_
    exact hK
  · rw [zfw, hm, Bool.true_and] at hK
    refine zao ?_
    refine zwm hm ?_
    refine zao ?_
    refine zvf (s := s) (zx hT) (zx hG) hl0 hg ?_
    refine zao ?_
    refine zq hl ?_
    exact hK
theorem c_rPrimary {σ : List zf} {f v : Int} {K : KT} (hK : K (.d (.int .i64 (zmd f v))) σ) : zm Tryz.prog zkJ [.d (.int .i64 f), .d (.int .i64 v)] σ K := by
  refine zc zpd.is rfl fun hl _ => zpd.goes ?_
  simp only [zpE, iN, bT, bF, eN]
  refine zao ?_
  refine zkr ?_
  have fin : ∀ z, zmd f v = z → K (.d (.int .i64 z)) σ := fun z h => h ▸ hK
  clear hK
  by_cases h : f < 1 ∨ f > 4
  · rw [zbK, if_pos h]
    refine zH (show ((120 : Int) != 0) = true from rfl) ?_
    refine zq hl ?_
    exact fin _ (by rw [zmd, if_pos (.inl h)])
  · rw [zbK, if_neg h]
    cases h1 : decide (v < 0)
    rotate_left
    · refine zH (zB (show ((0 : Int) != 0) = false from rfl) h1) ?_
      refine zq hl ?_
      exact fin _ (by rw [zmd, if_pos (.inr (.inl (by simpa using h1)))])
    cases h2 : decide (v > 9007199254740992)
    rotate_left
    · refine zH (zB (show ((0 : Int) != 0) = false from rfl) (zB h1 h2)) ?_
      refine zq hl ?_
      exact fin _ (by rw [zmd, if_pos (.inr (.inr (by simpa using h2)))])
    simp only [decide_eq_false_iff_not] at h1 h2
    have hz : (3 * f + 1 == 0) = false := by simp; omega
    refine zH (zB (show ((0 : Int) != 0) = false from rfl) (zB (decide_eq_false h1) (decide_eq_false h2))) ?_
    refine znn ?_
    rw [zcJ, if_neg h]
    refine zH hz ?_
    refine zq hl ?_
    exact fin _ (by rw [zmd, if_neg (by omega)])
theorem c_r15Valid {σ : List zf} {id id2 : Nat} {L : List (List UInt8)} {G : List zP} {f : Int} {p : zbW} (hT : σ[id]? = some (rtO L)) (hG : σ[id2]? = some (rlO G)) (hL : zwx L) (hg : G.length ≤ 1073741824) (hp : smallP p)
    {K : KT} (hK : K (.d (.bool (zhe L G f p))) σ) : zm Tryz.prog zoc [.box id 0, .box id2 0, .d (.int .i64 f), prepA p] σ K := by
  refine zc zsD.is rfl fun hl _ => zsD.goes ?_
  have fin : ∀ z, zhe L G f p = z → K (.d (.bool z)) σ := fun z h => h ▸ hK
  clear hK
  simp only [ztt, iN, bT, bF, eN, prepA]
  refine zao ?_
  refine zkr ?_
  by_cases h0 : f < 1 ∨ f > 4
  · rw [zbK, if_pos h0]
    refine zH (show ((120 : Int) != 0) = true from rfl) ?_
    refine zq hl ?_
    exact fin _ (by simp [zhe, zhG, zbK, h0])
  have hc0 : zbK f = 0 := if_neg h0
  rw [hc0]
  cases h1 : decide (p.view < 0)
  rotate_left
  · refine zH (zB (show ((0 : Int) != 0) = false from rfl) h1) ?_
    refine zq hl ?_
    exact fin _ (by simp [zhe, zhG, h1])
  cases h2 : decide (p.view > 9007199254740992)
  rotate_left
  · refine zH (zB (show ((0 : Int) != 0) = false from rfl) (zB h1 h2)) ?_
    refine zq hl ?_
    exact fin _ (by simp [zhe, zhG, h2])
  cases h3 : decide (p.seq < 1)
  rotate_left
  · refine zH (zB (show ((0 : Int) != 0) = false from rfl) (zB h1 (zB h2 h3))) ?_
    refine zq hl ?_
    exact fin _ (by simp [zhe, zhG, h3])
  cases h4 : decide (p.seq > 9007199254740992)
  rotate_left
  · refine zH (zB (show ((0 : Int) != 0) = false from rfl) (zB h1 (zB h2 (zB h3 h4)))) ?_
    refine zq hl ?_
    exact fin _ (by simp [zhe, zhG, h4])
  have hok : zhG f p = true := by simp [zhG, hc0, h1, h2, h3, h4]
  have hpf : zhe L G f p = (zgD L G p.batch && prepG L G f p) := by rw [zhe, hok, Bool.true_and]
  refine zH (zB (show ((0 : Int) != 0) = false from rfl) (zB h1 (zB h2 (zB h3 h4)))) ?_
  refine ztf (b := p.batch) (zx hT) (zx hG) hL hg hp.ops hp.batch ?_
  cases h5 : zgD L G p.batch
  · refine zao ?_
    refine zq hl ?_
    exact fin _ (by rw [hpf, h5]; rfl)
  rw [h5, Bool.true_and] at hpf
  have hcb := zqT h5
  have hw2 : IntKind.i64.wrap (2 * f) = 2 * f := zat (by omega) (by omega)
  have hlen : (zas p.signs).length = p.signs.length := List.length_map ..
  cases h9 : ((p.signs.length : Int) == 2 * f)
  · have h9' : ((p.signs.length : Int) != 2 * f) = true := by simpa using h9
    refine zH (zB hw2 (zB hlen h9')) ?_
    refine zq hl ?_
    refine fin _ ?_
    rw [hpf, prepG]
    split
    · rw [prepH, h9]; simp
    · rfl
  have h9' : ((p.signs.length : Int) != 2 * f) = false := by simpa using h9
  refine zH (zB hw2 (zB hlen h9')) ?_
  refine zti (b := []) (by simp) hp.ops hp.batch ?_
  rw [List.nil_append, show zdq p.batch = zff p.batch from if_pos hcb]
  refine zao ?_
  refine zwk (zx hT) hL.len ?_
  refine zao ?_
  refine c_rPrimary ?_
  cases h6 : zen L (zff p.batch) with
  | none =>
    refine gq67 ?_
    refine zq hl ?_
    exact fin _ (by simp only [hpf, prepG, h6])
  | some i =>
    simp only [prepG, h6] at hpf
    simp only [zvT]
    cases h7 : (((i + 1 : Nat) : Int) == p.dig)
    · have h7' : (((i + 1 : Nat) : Int) != p.dig) = true := by simpa using h7
      refine gq70 h7' ?_
      refine zq hl ?_
      exact fin _ (by rw [hpf, h7]; rfl)
    have h7' : (((i + 1 : Nat) : Int) != p.dig) = false := by simpa using h7
    have h7e : ((i + 1 : Nat) : Int) = p.dig := by simpa using h7
    simp only [h7, Bool.true_and] at hpf
    rw [h7e] at h7' ⊢
    refine gq70 h7' ?_
    refine zlc (s := ⟨p.fkey, p.fdig⟩) (zx hT) (zx hG) hL.len hg ?_
    cases h8 : zfw L G ⟨p.fkey, p.fdig⟩ (zmd f p.view) 2 p.view p.seq p.dig
    · refine zao ?_
      refine zq hl ?_
      exact fin _ (by rw [hpf, prepH, h8]; rfl)
    rw [prepH, h8, Bool.true_and, h9, Bool.true_and] at hpf
    refine zao ?_
    refine zl p.signs.length (fun k vs s => ∃ last : Int, vs = [.d (.int .i64 last), .d (.int .i64 k)] ∧ s = σ ++ [.box [.d (.int .i64 p.view), .d (.int .i64 p.seq), .d (.int .i64 p.dig), .d (.int .i64 p.fkey), .d (.int .i64 p.fdig), .d (.slice (zas p.signs)), .d (.slice (zbo p.batch))]] ∧
      zhe L G f p = zuj L G f (zmd f p.view) p.view p.seq p.dig last (p.signs.drop k)) ⟨-1, rfl, rfl, by simpa using hpf⟩ ?_
    rintro k vs s hk ⟨last, rfl, rfl, hpf⟩
    by_cases hlt : k < p.signs.length
    · have hd : decide ((k : Int) < (p.signs.length : Int)) = true := by simp; omega
      have hx : p.signs[k]? = some p.signs[k] := by simp [hlt]
      have hgx := zQ (f := zeS) hx
      obtain ⟨x, hxe⟩ : ∃ x, p.signs[k] = x := ⟨_, rfl⟩
      rw [hxe] at hx hgx
      have hsl := hp.signs
      rw [zui hx] at hpf
      have hw : IntKind.i64.wrap ((k : Int) + 1) = ((k + 1 : Nat) : Int) := by rw [zat (by omega) (by omega)]; rfl
      cases g1 : decide (x.key ≤ last)
      rotate_left
      · refine znj (zB hd (zB hgx (zB hlen g1))) ?_
        refine zq hl ?_
        exact fin _ (by rw [hpf, g1]; rfl)
      refine znj (zB hd (zB hgx (zB hlen g1))) ?_
      refine znn ?_
      cases g2 : decide (x.key ≥ zcJ 3 f)
      rotate_left
      · refine zH g2 ?_
        refine zq hl ?_
        exact fin _ (by rw [hpf, g1, g2]; rfl)
      cases g3 : (x.key == zmd f p.view)
      rotate_left
      · refine zH (zB g2 g3) ?_
        refine zq hl ?_
        exact fin _ (by rw [hpf, g1, g2, g3]; rfl)
      rw [g1, g2, g3] at hpf
      simp only [Bool.not_false, Bool.true_and] at hpf
      refine znj (zB g2 (zB g3 hgx)) ?_
      refine zlc (s := x) (zx hT) (zx hG) hL.len hg ?_
      cases g4 : zfw L G x x.key 3 p.view p.seq p.dig
      · rw [g4] at hpf
        refine zao ?_
        refine zq hl ?_
        exact fin _ hpf
      · rw [g4, Bool.true_and] at hpf
        refine zH hw ?_
        exact zaG.next hlt ⟨x.key, rfl, rfl, hpf⟩
    · have hd : decide ((k : Int) < (p.signs.length : Int)) = false := by simp; omega
      rw [List.drop_eq_nil_of_le (by omega)] at hpf
      refine zH (zB hd hlen) ?_
      refine zq hl ?_
      exact fin _ hpf
end Go.Proofs.YtpgahkdjkanblaaGreat

/- Contracts: which view-changes and new views are signed, the document's. -/
set_option maxRecDepth 100000
set_option linter.unusedSimpArgs false
set_option linter.unusedVariables false
namespace Go.Proofs.YtpgahkdjkanblaaGreat
open Go.AW

theorem c_kShort {σ : List zf} {b : List UInt8} {K : KT} (hK : K (.tup [.d (.slice (bcs (if b.length > 262144 then [] else b))), .d (.int .i64 (if b.length > 262144 then 3 else 0))]) σ) :
    zm Tryz.prog zog [.d (.slice (bcs b)), .d (.int .i64 0)] σ K := by
  refine zc zsJ.is rfl fun hl _ => zsJ.goes ?_
  simp only [ztz, iN, bT, bF, eN]
  by_cases h : b.length > 262144
  · have hd : decide ((b.length : Int) > 262144) = true := by simp; omega
    rw [if_pos h, if_pos h] at hK
    refine zH hd ?_
    refine zq hl ?_
    exact hK
  · have hd : decide ((b.length : Int) > 262144) = false := by simp; omega
    rw [if_neg h, if_neg h] at hK
    refine zH hd ?_
    refine zq hl ?_
    exact hK
theorem c_kBody7 {σ : List zf} {m : zgs} {c : zaa} (hk : m.kind = 7) (hch : m.changes = [c]) (hc : ∀ e ∈ zdp c, e = 0) {K : KT} (hK : K (.tup [.d (.slice (bcs (zqU m))), .d (.bool true)]) σ) :
    zm Tryz.prog znf [zqx m] σ K := by
  refine zc zuM.is rfl fun hl _ => zuM.goes ?_
  have hgx : (zaP m.changes)[0]? = some (zbm c) := by rw [hch]; rfl
  have hgl : (zaP m.changes).length = 1 := by rw [hch]; rfl
  have n1 := zp (n := m.kind.toNat) (by omega)
  simp only [zvt, iN, bT, bF, eN]
  refine zao ?_
  refine zvg (b := []) (l := [m.kind]) (by simp) (by simp) (by simp; omega) ?_
  refine zjk (zB (show (m.kind == 1) = false by rw [hk]; rfl) (zB (show (m.kind == 2) = false by rw [hk]; rfl) (zB (show (m.kind == 3) = false by rw [hk]; rfl) (zB (show (m.kind == 4) = false by rw [hk]; rfl) (zB (show (m.kind == 5) = false by rw [hk]; rfl) (zB (show (m.kind == 6) = false by rw [hk]; rfl) (zB (show (m.kind == 7) = true by rw [hk]; rfl) (zB (show (m.kind == 8) = false by rw [hk]; rfl) (zB (show (m.kind == 9) = false by rw [hk]; rfl) (zB (show (m.kind == 10) = false by rw [hk]; rfl) (zB (show (m.kind == 11) = false by rw [hk]; rfl) (zB (show (m.kind == 12) = false by rw [hk]; rfl) (zB hgx hgl))))))))))))) ?_
  refine c_kPutBody (c := c) (b := [] ++ zbq [m.kind]) (by simp [zbq]; omega) hc ?_
  refine zao ?_
  refine zq hl ?_
  have fin : ∀ x, x = zqU m → K (dmT (zdF [.d (.slice (bcs x)), .d (.bool true)])) σ := by rintro _ rfl; exact hK
  exact fin _ (by simp [zqU, hk, hch, zbq])
end Go.Proofs.YtpgahkdjkanblaaGreat
