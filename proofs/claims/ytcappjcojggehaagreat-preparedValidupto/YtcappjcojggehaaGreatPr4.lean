/- Contracts: votes and certificates, the document's. -/
import Derived.Test.YtcappjcojggehaaGreatAu3
import Derived.Test.YtcappjcojggehaaGreatPr2
set_option linter.all false
set_option maxRecDepth 100000
set_option linter.unusedSimpArgs false
set_option linter.unusedVariables false
namespace Go.Proofs.YtcappjcojggehaaGreat
open Go.AW

theorem c_raSigned {σ : List AObj} {id id2 : Nat} {L : List (List UInt8)} {G : List TSign} {s : TSign} {key : Int} {b : List UInt8} (hT : σ[id]? = some (rtO L)) (hG : σ[id2]? = some (rlO G)) (hl0 : L.length ≤ 1048576) (hg : G.length ≤ 1073741824) {K : AV → List AObj → Prop}
    (hK : K (.d (.bool (zcM L G s key b))) σ) : ACall Tryz.prog zgb [.box id 0, .box id2 0, .agg [.d (.int .i64 s.key), .d (.int .i64 s.dig)], .d (.int .i64 key), .d (.slice (bcs b))] σ K := by
  refine zo zmB rfl fun hl _ => s_r11_signed ?_
  simp only [zkv]
  (repeat' (first | (refine gq1 ?_; try with_reducible exact True.intro) | ((with_reducible refine And.intro ?_ ?_); focus (first | omega | rfl | decide | (simp; done)))))
  refine zlb (zI hT) hl0 ?_
  have fin : ∀ z, zcM L G s key b = z → K (.d (.bool z)) σ := fun z h => h ▸ hK
  clear hK
  cases hlk : lookF L b with
  | none =>
    (repeat' (first | (refine gq7 ?_; try with_reducible exact True.intro) | ((with_reducible refine And.intro ?_ ?_); focus (first | omega | rfl | decide | (simp; done)))))
    (first | refine zg (by simp [Low_d, dmT, dm, dm1, pack, zd, ze, zb]) hl ?_ | refine zf (by simp [Low_d, dmT, dm, dm1, pack, zd, ze, zb]) hl ?_)
    exact fin _ (by simp [zcM, hlk])
  | some i =>
    simp only [numOf]
    cases h1 : (s.key == key)
    · (repeat' (first | (refine gq46 h1 ?_; try with_reducible exact True.intro) | ((with_reducible refine And.intro ?_ ?_); focus (first | omega | rfl | decide | (simp; done)))))
      (first | refine zg (by simp [Low_d, dmT, dm, dm1, pack, zd, ze, zb]) hl ?_ | refine zf (by simp [Low_d, dmT, dm, dm1, pack, zd, ze, zb]) hl ?_)
      exact fin _ (by simp at h1; simp [zcM, hlk, h1])
    · cases h2 : (s.dig == ((i + 1 : Nat) : Int))
      · (repeat' (first | (refine gq46 (gqc0 h1 h2) ?_; try with_reducible exact True.intro) | ((with_reducible refine And.intro ?_ ?_); focus (first | omega | rfl | decide | (simp; done)))))
        (first | refine zg (by simp [Low_d, dmT, dm, dm1, pack, zd, ze, zb]) hl ?_ | refine zf (by simp [Low_d, dmT, dm, dm1, pack, zd, ze, zb]) hl ?_)
        exact fin _ (by simp at h1 h2; simp [zcM, hlk, h1]; omega)
      · (repeat' (first | (refine gq46 (gqc0 h1 h2) ?_; try with_reducible exact True.intro) | ((with_reducible refine And.intro ?_ ?_); focus (first | omega | rfl | decide | (simp; done)))))
        refine zjO (s := s) (zI hG) hg ?_
        (repeat' (first | (refine gq1 ?_; try with_reducible exact True.intro) | ((with_reducible refine And.intro ?_ ?_); focus (first | omega | rfl | decide | (simp; done)))))
        (first | refine zg (by simp [Low_d, dmT, dm, dm1, pack, zd, ze, zb]) hl ?_ | refine zf (by simp [Low_d, dmT, dm, dm1, pack, zd, ze, zb]) hl ?_)
        exact fin _ (by simp at h1 h2; simp [zcM, hlk, h1, h2])
theorem ziM {σ : List AObj} {id id2 : Nat} {L : List (List UInt8)} {G : List TSign} {s : TSign} {key a b c d : Int} (hT : σ[id]? = some (rtO L)) (hG : σ[id2]? = some (rlO G)) (hl0 : L.length ≤ 1048576) (hg : G.length ≤ 1073741824) {K : AV → List AObj → Prop}
    (hK : K (.d (.bool (zeE L G s key a b c d))) σ) :
    ACall Tryz.prog zcu [.box id 0, .box id2 0, .agg [.d (.int .i64 s.key), .d (.int .i64 s.dig)], .d (.int .i64 key), .d (.int .i64 a), .d (.int .i64 b), .d (.int .i64 c), .d (.int .i64 d)] σ K := by
  refine zo zjG rfl fun hl _ => zlp ?_
  simp only [zgA]
  (repeat' (first | (refine gq1 ?_; try with_reducible exact True.intro) | ((with_reducible refine And.intro ?_ ?_); focus (first | omega | rfl | decide | (simp; done)))))
  refine c_raMay ?_
  cases hm : mayV a b c d
  · rw [zeE, hm, Bool.false_and] at hK
    (repeat' (first | (refine gq1 ?_; try with_reducible exact True.intro) | ((with_reducible refine And.intro ?_ ?_); focus (first | omega | rfl | decide | (simp; done)))))
    (first | refine zg (by simp [Low_d, dmT, dm, dm1, pack, zd, ze, zb]) hl ?_ | refine zf (by simp [Low_d, dmT, dm, dm1, pack, zd, ze, zb]) hl ?_)
    exact hK
  · rw [zeE, hm, Bool.true_and] at hK
    (repeat' (first | (refine gq1 ?_; try with_reducible exact True.intro) | ((with_reducible refine And.intro ?_ ?_); focus (first | omega | rfl | decide | (simp; done)))))
    refine ziL hm ?_
    (repeat' (first | (refine gq1 ?_; try with_reducible exact True.intro) | ((with_reducible refine And.intro ?_ ?_); focus (first | omega | rfl | decide | (simp; done)))))
    refine c_raSigned (s := s) (zI hT) (zI hG) hl0 hg ?_
    (repeat' (first | (refine gq1 ?_; try with_reducible exact True.intro) | ((with_reducible refine And.intro ?_ ?_); focus (first | omega | rfl | decide | (simp; done)))))
    (first | refine zg (by simp [Low_d, dmT, dm, dm1, pack, zd, ze, zb]) hl ?_ | refine zf (by simp [Low_d, dmT, dm, dm1, pack, zd, ze, zb]) hl ?_)
    exact hK
theorem c_rPrimary {σ : List AObj} {f v : Int} {K : AV → List AObj → Prop} (hK : K (.d (.int .i64 (primF f v))) σ) : ACall Tryz.prog zfg [.d (.int .i64 f), .d (.int .i64 v)] σ K := by
  refine zo zlD rfl fun hl _ => znF ?_
  simp only [ziW]
  (repeat' (first | (refine gq1 ?_; try with_reducible exact True.intro) | ((with_reducible refine And.intro ?_ ?_); focus (first | omega | rfl | decide | (simp; done)))))
  refine zlU ?_
  have fin : ∀ z, primF f v = z → K (.d (.int .i64 z)) σ := fun z h => h ▸ hK
  clear hK
  by_cases h : f < 1 ∨ f > 4
  · rw [zbU, if_pos h]
    (repeat' (first | (refine gq2 (show ((120 : Int) != 0) = true from rfl) ?_; try with_reducible exact True.intro) | ((with_reducible refine And.intro ?_ ?_); focus (first | omega | rfl | decide | (simp; done)))))
    (first | refine zg (by simp [Low_d, dmT, dm, dm1, pack, zd, ze, zb]) hl ?_ | refine zf (by simp [Low_d, dmT, dm, dm1, pack, zd, ze, zb]) hl ?_)
    exact fin _ (by rw [primF, if_pos (.inl h)])
  · rw [zbU, if_neg h]
    cases h1 : decide (v < 0)
    rotate_left
    · (repeat' (first | (refine gq2 (gqc0 (show ((0 : Int) != 0) = false from rfl) h1) ?_; try with_reducible exact True.intro) | ((with_reducible refine And.intro ?_ ?_); focus (first | omega | rfl | decide | (simp; done)))))
      (first | refine zg (by simp [Low_d, dmT, dm, dm1, pack, zd, ze, zb]) hl ?_ | refine zf (by simp [Low_d, dmT, dm, dm1, pack, zd, ze, zb]) hl ?_)
      exact fin _ (by rw [primF, if_pos (.inr (.inl (by simpa using h1)))])
    cases h2 : decide (v > 9007199254740992)
    rotate_left
    · (repeat' (first | (refine gq2 (gqc0 (show ((0 : Int) != 0) = false from rfl) (gqc0 h1 h2)) ?_; try with_reducible exact True.intro) | ((with_reducible refine And.intro ?_ ?_); focus (first | omega | rfl | decide | (simp; done)))))
      (first | refine zg (by simp [Low_d, dmT, dm, dm1, pack, zd, ze, zb]) hl ?_ | refine zf (by simp [Low_d, dmT, dm, dm1, pack, zd, ze, zb]) hl ?_)
      exact fin _ (by rw [primF, if_pos (.inr (.inr (by simpa using h2)))])
    simp only [decide_eq_false_iff_not] at h1 h2
    have hz : (3 * f + 1 == 0) = false := by simp; omega
    (repeat' (first | (refine gq2 (gqc0 (show ((0 : Int) != 0) = false from rfl) (gqc0 (decide_eq_false h1) (decide_eq_false h2))) ?_; try with_reducible exact True.intro) | ((with_reducible refine And.intro ?_ ?_); focus (first | omega | rfl | decide | (simp; done)))))
    refine zni ?_
    rw [zeF, if_neg h]
    (repeat' (first | (refine gq2 hz ?_; try with_reducible exact True.intro) | ((with_reducible refine And.intro ?_ ?_); focus (first | omega | rfl | decide | (simp; done)))))
    (first | refine zg (by simp [Low_d, dmT, dm, dm1, pack, zd, ze, zb]) hl ?_ | refine zf (by simp [Low_d, dmT, dm, dm1, pack, zd, ze, zb]) hl ?_)
    exact fin _ (by rw [primF, if_neg (by omega)])
theorem znj {σ : List AObj} {id id2 : Nat} {L : List (List UInt8)} {G : List TSign} {f : Int} {p : TPrep} (hT : σ[id]? = some (rtO L)) (hG : σ[id2]? = some (rlO G)) (hL : TabI L) (hg : G.length ≤ 1073741824) (hp : zkh p)
    {K : AV → List AObj → Prop} (hK : K (.d (.bool (prepF L G f p))) σ) : ACall Tryz.prog zff [.box id 0, .box id2 0, .d (.int .i64 f), prepA p] σ K := by
  refine zo znY rfl fun hl _ => s_r15_Valid ?_
  have fin : ∀ z, prepF L G f p = z → K (.d (.bool z)) σ := fun z h => h ▸ hK
  clear hK
  simp only [zmb, prepA]
  (repeat' (first | (refine gq1 ?_; try with_reducible exact True.intro) | ((with_reducible refine And.intro ?_ ?_); focus (first | omega | rfl | decide | (simp; done)))))
  refine zlU ?_
  by_cases h0 : f < 1 ∨ f > 4
  · rw [zbU, if_pos h0]
    (repeat' (first | (refine gq2 (show ((120 : Int) != 0) = true from rfl) ?_; try with_reducible exact True.intro) | ((with_reducible refine And.intro ?_ ?_); focus (first | omega | rfl | decide | (simp; done)))))
    (first | refine zg (by simp [Low_d, dmT, dm, dm1, pack, zd, ze, zb]) hl ?_ | refine zf (by simp [Low_d, dmT, dm, dm1, pack, zd, ze, zb]) hl ?_)
    exact fin _ (by simp [prepF, zdz, zbU, h0])
  have hc0 : zbU f = 0 := if_neg h0
  rw [hc0]
  cases h1 : decide (p.view < 0)
  rotate_left
  · (repeat' (first | (refine gq2 (gqc0 (show ((0 : Int) != 0) = false from rfl) h1) ?_; try with_reducible exact True.intro) | ((with_reducible refine And.intro ?_ ?_); focus (first | omega | rfl | decide | (simp; done)))))
    (first | refine zg (by simp [Low_d, dmT, dm, dm1, pack, zd, ze, zb]) hl ?_ | refine zf (by simp [Low_d, dmT, dm, dm1, pack, zd, ze, zb]) hl ?_)
    exact fin _ (by simp [prepF, zdz, h1])
  cases h2 : decide (p.view > 9007199254740992)
  rotate_left
  · (repeat' (first | (refine gq2 (gqc0 (show ((0 : Int) != 0) = false from rfl) (gqc0 h1 h2)) ?_; try with_reducible exact True.intro) | ((with_reducible refine And.intro ?_ ?_); focus (first | omega | rfl | decide | (simp; done)))))
    (first | refine zg (by simp [Low_d, dmT, dm, dm1, pack, zd, ze, zb]) hl ?_ | refine zf (by simp [Low_d, dmT, dm, dm1, pack, zd, ze, zb]) hl ?_)
    exact fin _ (by simp [prepF, zdz, h2])
  cases h3 : decide (p.seq < 1)
  rotate_left
  · (repeat' (first | (refine gq2 (gqc0 (show ((0 : Int) != 0) = false from rfl) (gqc0 h1 (gqc0 h2 h3))) ?_; try with_reducible exact True.intro) | ((with_reducible refine And.intro ?_ ?_); focus (first | omega | rfl | decide | (simp; done)))))
    (first | refine zg (by simp [Low_d, dmT, dm, dm1, pack, zd, ze, zb]) hl ?_ | refine zf (by simp [Low_d, dmT, dm, dm1, pack, zd, ze, zb]) hl ?_)
    exact fin _ (by simp [prepF, zdz, h3])
  cases h4 : decide (p.seq > 9007199254740992)
  rotate_left
  · (repeat' (first | (refine gq2 (gqc0 (show ((0 : Int) != 0) = false from rfl) (gqc0 h1 (gqc0 h2 (gqc0 h3 h4)))) ?_; try with_reducible exact True.intro) | ((with_reducible refine And.intro ?_ ?_); focus (first | omega | rfl | decide | (simp; done)))))
    (first | refine zg (by simp [Low_d, dmT, dm, dm1, pack, zd, ze, zb]) hl ?_ | refine zf (by simp [Low_d, dmT, dm, dm1, pack, zd, ze, zb]) hl ?_)
    exact fin _ (by simp [prepF, zdz, h4])
  have hok : zdz f p = true := by simp [zdz, hc0, h1, h2, h3, h4]
  have hpf : prepF L G f p = (zcL L G p.batch && prepG L G f p) := by rw [prepF, hok, Bool.true_and]
  (repeat' (first | (refine gq2 (gqc0 (show ((0 : Int) != 0) = false from rfl) (gqc0 h1 (gqc0 h2 (gqc0 h3 h4)))) ?_; try with_reducible exact True.intro) | ((with_reducible refine And.intro ?_ ?_); focus (first | omega | rfl | decide | (simp; done)))))
  refine zlS (b := p.batch) (zI hT) (zI hG) hL hg hp.ops hp.batch ?_
  cases h5 : zcL L G p.batch
  · (repeat' (first | (refine gq1 ?_; try with_reducible exact True.intro) | ((with_reducible refine And.intro ?_ ?_); focus (first | omega | rfl | decide | (simp; done)))))
    (first | refine zg (by simp [Low_d, dmT, dm, dm1, pack, zd, ze, zb]) hl ?_ | refine zf (by simp [Low_d, dmT, dm, dm1, pack, zd, ze, zb]) hl ?_)
    exact fin _ (by rw [hpf, h5]; rfl)
  rw [h5, Bool.true_and] at hpf
  have hcb := zkg h5
  have hw2 : IntKind.i64.wrap (2 * f) = 2 * f := zad (by omega) (by omega)
  have hlen : (zaw p.signs).length = p.signs.length := List.length_map ..
  cases h9 : ((p.signs.length : Int) == 2 * f)
  · have h9' : ((p.signs.length : Int) != 2 * f) = true := by simpa using h9
    (repeat' (first | (refine gq2 (gqc0 hw2 (gqc0 hlen h9')) ?_; try with_reducible exact True.intro) | ((with_reducible refine And.intro ?_ ?_); focus (first | omega | rfl | decide | (simp; done)))))
    (first | refine zg (by simp [Low_d, dmT, dm, dm1, pack, zd, ze, zb]) hl ?_ | refine zf (by simp [Low_d, dmT, dm, dm1, pack, zd, ze, zb]) hl ?_)
    refine fin _ ?_
    rw [hpf, prepG]
    split
    · rw [prepH, h9]; simp
    · rfl
  have h9' : ((p.signs.length : Int) != 2 * f) = false := by simpa using h9
  (repeat' (first | (refine gq2 (gqc0 hw2 (gqc0 hlen h9')) ?_; try with_reducible exact True.intro) | ((with_reducible refine And.intro ?_ ?_); focus (first | omega | rfl | decide | (simp; done)))))
  refine zlT (b := []) (by simp) hp.ops hp.batch ?_
  rw [List.nil_append, show zaN p.batch = zcJ p.batch from if_pos hcb]
  (repeat' (first | (refine gq1 ?_; try with_reducible exact True.intro) | ((with_reducible refine And.intro ?_ ?_); focus (first | omega | rfl | decide | (simp; done)))))
  refine zlb (zI hT) hL.len ?_
  (repeat' (first | (refine gq1 ?_; try with_reducible exact True.intro) | ((with_reducible refine And.intro ?_ ?_); focus (first | omega | rfl | decide | (simp; done)))))
  refine c_rPrimary ?_
  cases h6 : lookF L (zcJ p.batch) with
  | none =>
    (repeat' (first | (refine gq7 ?_; try with_reducible exact True.intro) | ((with_reducible refine And.intro ?_ ?_); focus (first | omega | rfl | decide | (simp; done)))))
    (first | refine zg (by simp [Low_d, dmT, dm, dm1, pack, zd, ze, zb]) hl ?_ | refine zf (by simp [Low_d, dmT, dm, dm1, pack, zd, ze, zb]) hl ?_)
    exact fin _ (by simp only [hpf, prepG, h6])
  | some i =>
    simp only [prepG, h6] at hpf
    simp only [numOf]
    cases h7 : (((i + 1 : Nat) : Int) == p.dig)
    · have h7' : (((i + 1 : Nat) : Int) != p.dig) = true := by simpa using h7
      (repeat' (first | (refine gq46 h7' ?_; try with_reducible exact True.intro) | ((with_reducible refine And.intro ?_ ?_); focus (first | omega | rfl | decide | (simp; done)))))
      (first | refine zg (by simp [Low_d, dmT, dm, dm1, pack, zd, ze, zb]) hl ?_ | refine zf (by simp [Low_d, dmT, dm, dm1, pack, zd, ze, zb]) hl ?_)
      exact fin _ (by rw [hpf, h7]; rfl)
    have h7' : (((i + 1 : Nat) : Int) != p.dig) = false := by simpa using h7
    have h7e : ((i + 1 : Nat) : Int) = p.dig := by simpa using h7
    simp only [h7, Bool.true_and] at hpf
    rw [h7e] at h7' ⊢
    (repeat' (first | (refine gq46 h7' ?_; try with_reducible exact True.intro) | ((with_reducible refine And.intro ?_ ?_); focus (first | omega | rfl | decide | (simp; done)))))
    refine ziM (s := ⟨p.fkey, p.fdig⟩) (zI hT) (zI hG) hL.len hg ?_
    cases h8 : zeE L G ⟨p.fkey, p.fdig⟩ (primF f p.view) 2 p.view p.seq p.dig
    · (repeat' (first | (refine gq1 ?_; try with_reducible exact True.intro) | ((with_reducible refine And.intro ?_ ?_); focus (first | omega | rfl | decide | (simp; done)))))
      (first | refine zg (by simp [Low_d, dmT, dm, dm1, pack, zd, ze, zb]) hl ?_ | refine zf (by simp [Low_d, dmT, dm, dm1, pack, zd, ze, zb]) hl ?_)
      exact fin _ (by rw [hpf, prepH, h8]; rfl)
    rw [prepH, h8, Bool.true_and, h9, Bool.true_and] at hpf
    (repeat' (first | (refine gq1 ?_; try with_reducible exact True.intro) | ((with_reducible refine And.intro ?_ ?_); focus (first | omega | rfl | decide | (simp; done)))))
    refine zU p.signs.length (fun k vs s => ∃ last : Int, vs = [.d (.int .i64 last), .d (.int .i64 k)] ∧ s = σ ++ [.box [.d (.int .i64 p.view), .d (.int .i64 p.seq), .d (.int .i64 p.dig), .d (.int .i64 p.fkey), .d (.int .i64 p.fdig), .d (.slice (zaw p.signs)), .d (.slice (zaO p.batch))]] ∧
      prepF L G f p = zmL L G f (primF f p.view) p.view p.seq p.dig last (p.signs.drop k)) ⟨-1, rfl, rfl, by simpa using hpf⟩ ?_
    rintro k vs s hk ⟨last, rfl, rfl, hpf⟩
    by_cases hlt : k < p.signs.length
    · have hd : decide ((k : Int) < (p.signs.length : Int)) = true := by simp; omega
      have hx : p.signs[k]? = some p.signs[k] := by simp [hlt]
      have hgx := zas (f := signD) hx
      obtain ⟨x, hxe⟩ : ∃ x, p.signs[k] = x := ⟨_, rfl⟩
      rw [hxe] at hx hgx
      have hsl := hp.signs
      rw [zmK hx] at hpf
      have hw : IntKind.i64.wrap ((k : Int) + 1) = ((k + 1 : Nat) : Int) := by rw [zad (by omega) (by omega)]; rfl
      cases g1 : decide (x.key ≤ last)
      rotate_left
      · (repeat' (first | (refine gq61 (gqc0 hd (gqc0 hgx (gqc0 hlen g1))) ?_; try with_reducible exact True.intro) | ((with_reducible refine And.intro ?_ ?_); focus (first | omega | rfl | decide | (simp; done)))))
        (first | refine zg (by simp [Low_d, dmT, dm, dm1, pack, zd, ze, zb]) hl ?_ | refine zf (by simp [Low_d, dmT, dm, dm1, pack, zd, ze, zb]) hl ?_)
        exact fin _ (by rw [hpf, g1]; rfl)
      (repeat' (first | (refine gq61 (gqc0 hd (gqc0 hgx (gqc0 hlen g1))) ?_; try with_reducible exact True.intro) | ((with_reducible refine And.intro ?_ ?_); focus (first | omega | rfl | decide | (simp; done)))))
      refine zni ?_
      cases g2 : decide (x.key ≥ zeF 3 f)
      rotate_left
      · (repeat' (first | (refine gq2 g2 ?_; try with_reducible exact True.intro) | ((with_reducible refine And.intro ?_ ?_); focus (first | omega | rfl | decide | (simp; done)))))
        (first | refine zg (by simp [Low_d, dmT, dm, dm1, pack, zd, ze, zb]) hl ?_ | refine zf (by simp [Low_d, dmT, dm, dm1, pack, zd, ze, zb]) hl ?_)
        exact fin _ (by rw [hpf, g1, g2]; rfl)
      cases g3 : (x.key == primF f p.view)
      rotate_left
      · (repeat' (first | (refine gq2 (gqc0 g2 g3) ?_; try with_reducible exact True.intro) | ((with_reducible refine And.intro ?_ ?_); focus (first | omega | rfl | decide | (simp; done)))))
        (first | refine zg (by simp [Low_d, dmT, dm, dm1, pack, zd, ze, zb]) hl ?_ | refine zf (by simp [Low_d, dmT, dm, dm1, pack, zd, ze, zb]) hl ?_)
        exact fin _ (by rw [hpf, g1, g2, g3]; rfl)
      rw [g1, g2, g3] at hpf
      simp only [Bool.not_false, Bool.true_and] at hpf
      (repeat' (first | (refine gq61 (gqc0 g2 (gqc0 g3 hgx)) ?_; try with_reducible exact True.intro) | ((with_reducible refine And.intro ?_ ?_); focus (first | omega | rfl | decide | (simp; done)))))
      refine ziM (s := x) (zI hT) (zI hG) hL.len hg ?_
      cases g4 : zeE L G x x.key 3 p.view p.seq p.dig
      · rw [g4] at hpf
        (repeat' (first | (refine gq1 ?_; try with_reducible exact True.intro) | ((with_reducible refine And.intro ?_ ?_); focus (first | omega | rfl | decide | (simp; done)))))
        (first | refine zg (by simp [Low_d, dmT, dm, dm1, pack, zd, ze, zb]) hl ?_ | refine zf (by simp [Low_d, dmT, dm, dm1, pack, zd, ze, zb]) hl ?_)
        exact fin _ hpf
      · rw [g4, Bool.true_and] at hpf
        (repeat' (first | (refine gq2 hw ?_; try with_reducible exact True.intro) | ((with_reducible refine And.intro ?_ ?_); focus (first | omega | rfl | decide | (simp; done)))))
        exact Again.next hlt ⟨x.key, rfl, rfl, hpf⟩
    · have hd : decide ((k : Int) < (p.signs.length : Int)) = false := by simp; omega
      rw [List.drop_eq_nil_of_le (by omega)] at hpf
      (repeat' (first | (refine gq2 (gqc0 hd hlen) ?_; try with_reducible exact True.intro) | ((with_reducible refine And.intro ?_ ?_); focus (first | omega | rfl | decide | (simp; done)))))
      (first | refine zg (by simp [Low_d, dmT, dm, dm1, pack, zd, ze, zb]) hl ?_ | refine zf (by simp [Low_d, dmT, dm, dm1, pack, zd, ze, zb]) hl ?_)
      exact fin _ hpf
end Go.Proofs.YtcappjcojggehaaGreat
