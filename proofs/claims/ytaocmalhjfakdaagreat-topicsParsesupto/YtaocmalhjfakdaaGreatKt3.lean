/- Contract: the document's reader reads a topic, whole. -/
import Derived.Test.YtaocmalhjfakdaaGreatKt2
set_option linter.all false
set_option maxRecDepth 100000
set_option linter.unusedSimpArgs false
set_option linter.unusedVariables false
namespace Go.Proofs.YtaocmalhjfakdaaGreat
open Go.AW

theorem recsD_le {s : Rd} : ∀ k, (zeg k s).R.length ≤ k
  | 0 => Nat.le_refl _
  | k + 1 => by
    have e1 : zeg (k + 1) s = zmV (zeg k s) := rfl
    have := recsD_le (s := s) k
    rw [e1, zmV]
    split
    · simp; omega
    · omega
section

variable {σ : List zc} {id : Nat} {s : Rd} {K : KT}

theorem c_rTopicD (h : RrA σ id s) (hK : ∀ S, RrA S id (zdz s).s → Rst σ S id → K (.tup [.agg [.d (.str (zdz s).x.name), .d (.int .i64 (zdz s).x.base), .d (.slice (zK (zdz s).x.recs)), .d (.slice (zW (zdz s).x.groups))], .d (.bool (zdz s).ok)]) S) : zn Tryz.prog zjK [.box id 0] σ K := by
  refine zaj znq.is rfl fun hl _ => znq.goes ?_
  have hid := h.lt
  have hP : ∀ nm b n r g, zaJ true 1024 s = nm → zax true 9007199254740992 nm.2 = b → zax true 64 b.2 = n → zeg n.1 n.2 = r → zax true 8 r.s = g → zdz s = ⟨⟨nm.1, (b.1 : Int), r.R, (zfZ ((b.1 : Int) + r.R.length) (zaZ nm.1 && decide ((b.1 : Int) + r.R.length ≤ 9007199254740992)) g.1 g.2).G⟩, (zfZ ((b.1 : Int) + r.R.length) (zaZ nm.1 && decide ((b.1 : Int) + r.R.length ≤ 9007199254740992)) g.1 g.2).ok, (zfZ ((b.1 : Int) + r.R.length) (zaZ nm.1 && decide ((b.1 : Int) + r.R.length ≤ 9007199254740992)) g.1 g.2).s⟩ := by
    rintro _ _ _ _ _ rfl rfl rfl rfl rfl; rfl
  simp only [znG, iN, bT, bF, eN]
  refine zby ?_
  refine znB (m := 1024) (by omega) (h.app _) fun S1 hS1 hR1 => ?_
  have hnl := zeY true 1024 s
  obtain ⟨nm, hnm⟩ : ∃ nm, zaJ true 1024 s = nm := ⟨_, rfl⟩
  rw [hnm] at hS1 hnl ⊢
  have a0 : S1[σ.length]? = some (.box [.d (.str []), .d (.int .i64 0), .exact [], .exact []]) := hR1.at_ (by rw [zj]; rfl) (by omega)
  have l0 := zg a0
  refine gq38 ?_
  have hJ1 : TdJ σ id S1.length nm.1 0 (.exact []) (.exact []) nm.2 (S1 ++ [.box [.d (.str nm.1), .d (.int .i64 0), .exact [], .exact []]]) := ⟨hS1.app _, ((Rst.app _ _ _).trans hR1).trans (.app _ _ _), zf a0, by rw [zj]; rfl, by omega, l0⟩
  obtain ⟨eb, heb⟩ : ∃ eb, S1.length = eb := ⟨_, rfl⟩
  rw [heb] at hJ1 ⊢
  refine zhO (m := 9007199254740992) (by omega) hJ1.rd fun S2 hS2 hR2 => ?_
  have hJ2 := hJ1.next hS2 hR2
  have hbl := zaX true 9007199254740992 nm.2
  obtain ⟨b, hb⟩ : ∃ b, zax true 9007199254740992 nm.2 = b := ⟨_, rfl⟩
  rw [hb] at hJ2 hbl ⊢
  have hwb : IntKind.i64.wrap ((b.1 : Nat) : Int) = (b.1 : Int) := zam (by omega) (by omega)
  have e2 := hJ2.e
  refine zt (zb e2 hwb) ?_
  have hJ3 := hJ2.put b.1 (.exact []) (.exact [])
  refine zhO (m := 64) (by omega) hJ3.rd fun S4 hS4 hR4 => ?_
  have hJ4 := hJ3.next hS4 hR4
  have hnl2 := zaX true 64 b.2
  obtain ⟨n, hn⟩ : ∃ n, zax true 64 b.2 = n := ⟨_, rfl⟩
  rw [hn] at hJ4 hnl2 ⊢
  refine zby ?_
  have e4 := hJ4.e
  have l4 := zg e4
  obtain ⟨tk, htk⟩ : ∃ tk, S4.length = tk := ⟨_, rfl⟩
  have hw : zle [.d (.int .u64 0)] S4 [.d (.int .u64 0)] (S4.set eb (.box [.d (.str nm.1), .d (.int .i64 b.1), .own tk [], .exact []]) ++ [.tok 1 0]) := by
    rw [← htk]; exact .tokB eb 2 _ [] 1 e4 rfl (by simp) (.refl _ _)
  have hJ5 := (hJ4.put b.1 (.own tk []) (.exact [])).app [.tok 1 0]
  have ht5 : (S4.set eb (.box [.d (.str nm.1), .d (.int .i64 b.1), .own tk [], .exact []]) ++ [.tok 1 0])[tk]? = some (.tok 1 0) := by
    rw [List.getElem?_append_right (by simp; omega)]; simp [htk]
  have hide : id < eb ∧ σ.length < eb ∧ eb < tk := by have := hJ4.lt; omega
  clear hJ1 hJ2 hJ3 hJ4 hS1 hS2 hS4 hR1 hR2 hR4 e2 e4
  refine zcc n.1 (fun k vs S => vs = [.d (.int .u64 k)] ∧ TdJ σ id eb nm.1 b.1 (.own tk (zK (zeg k n.2).R)) (.exact []) (zeg k n.2).s S ∧ S[tk]? = some (.tok 1 (zeg k n.2).R.length)) hw ⟨rfl, hJ5, ht5⟩ ?_
  rintro k vs S hk ⟨rfl, hJ, ht⟩
  obtain ⟨c, hc⟩ := hJ.rd.cell
  have he := hJ.e
  have hle := recsD_le (s := n.2) k
  have hstep : zeg (k + 1) n.2 = zmV (zeg k n.2) := rfl
  have hstuck : ¬ (zeg k n.2).s.e = 0 → zeg n.1 n.2 = zeg k n.2 := fun h => zji (p := fun d : QSt => d.s.e = 0) (fun d hd => by unfold zmV; rw [if_neg hd]) hk h
  obtain ⟨r, hr⟩ : ∃ r, zeg k n.2 = r := ⟨_, rfl⟩
  rw [hr] at hJ ht hc he hle hstep hstuck
  have hrl := zo r.R
  by_cases hlt : k < n.1
  · have hd : decide ((k : Int) < (n.1 : Int)) = true := by simp; omega
    cases h0 : (r.s.e == 0)
    · have hfin := hstuck (by simpa using h0)
      refine zt (zb hd (zb hc h0)) ?_
      (
      refine zhO (m := 8) (by omega) hJ.rd fun S6 hS6 hR6 => ?_
      have hJ6 := hJ.next hS6 hR6
      have ht6 := hR6.at_ ht (by omega)
      have hgl := zaX true 8 r.s
      obtain ⟨g, hg⟩ : ∃ g, zax true 8 r.s = g := ⟨_, rfl⟩
      rw [hg] at hJ6 hgl ⊢
      have hT := hP nm b n r g hnm hb hn hfin hg
      rw [hT] at hK
      clear hT hP
      obtain ⟨N, hN⟩ : ∃ N : Nat, (b.1 : Int) + (r.R.length : Int) = N := ⟨b.1 + r.R.length, by omega⟩
      have hnx : ∀ G, (zu.mk nm.1 b.1 r.R G).next = (N : Int) := fun G => hN
      rw [hN] at hK
      have e6 := hJ6.e
      refine zt e6 ?_
      refine znA (by omega) ?_
      cases hnf : zaZ nm.1
      · rw [hnf, Bool.false_and] at hK
        refine zt hnf ?_
        exact zoy hbl (by omega) hgl hN hJ6 hK
      · rw [hnf, Bool.true_and] at hK
        refine zt (zb hnf e6) ?_
        refine zev (x := ⟨nm.1, b.1, r.R, []⟩) (by rw [hnx]; omega) ?_
        rw [hnx]
        cases hlq : decide ((N : Int) ≤ 9007199254740992)
        · rw [hlq] at hK
          refine zt (zb hnf hlq) ?_
          exact zoy hbl (by omega) hgl hN hJ6 hK
        · rw [hlq] at hK
          refine zt (zb hnf hlq) ?_
          exact zoy hbl (by omega) hgl hN hJ6 hK)
    · have h0' : r.s.e = 0 := by simpa using h0
      have hqs : ∀ w, zaJ true 64 r.s = w → zmV r = ⟨r.R ++ [w.1], w.2⟩ := by
        rintro _ rfl
        unfold zmV; rw [if_pos h0']
      refine zt (zb hd (zb hc (zb h0 he))) ?_
      refine znB (m := 64) (by omega) hJ.rd fun S6 hS6 hR6 => ?_
      have hJ6 := hJ.next hS6 hR6
      have ht6 := hR6.at_ ht (by omega)
      have hqs := hqs _ rfl
      obtain ⟨w, hw⟩ : ∃ w, zaJ true 64 r.s = w := ⟨_, rfl⟩
      rw [hw] at hJ6 hqs ⊢
      have e6 := hJ6.e
      have e7 : ∀ X, (S6.set tk X)[eb]? = _ := fun X => (List.getElem?_set_ne (by omega)).trans e6
      have hwk := wku k (by omega)
      refine zt (zb he (zb e6 (zb e7 (zb ht6 (zb hrl hwk))))) ?_
      refine zbC.next hlt ⟨rfl, ?_, ?_⟩
      · rw [hstep, hqs]
        have := (hJ6.set (j := tk) (by omega) (by omega) (.tok 1 (r.R.length + 1))).put b.1 (.own tk (zK r.R ++ [[.slice (bcs w.1)]])) (.exact [])
        simpa [zK] using this
      · rw [hstep, hqs, List.getElem?_set_ne (by omega), List.getElem?_set_self (zg ht6)]; simp
  · have hd : decide ((k : Int) < (n.1 : Int)) = false := by simp; omega
    have hfin : zeg n.1 n.2 = r := by rw [← hr, show n.1 = k by omega]
    refine zt hd ?_
    (
      refine zhO (m := 8) (by omega) hJ.rd fun S6 hS6 hR6 => ?_
      have hJ6 := hJ.next hS6 hR6
      have ht6 := hR6.at_ ht (by omega)
      have hgl := zaX true 8 r.s
      obtain ⟨g, hg⟩ : ∃ g, zax true 8 r.s = g := ⟨_, rfl⟩
      rw [hg] at hJ6 hgl ⊢
      have hT := hP nm b n r g hnm hb hn hfin hg
      rw [hT] at hK
      clear hT hP
      obtain ⟨N, hN⟩ : ∃ N : Nat, (b.1 : Int) + (r.R.length : Int) = N := ⟨b.1 + r.R.length, by omega⟩
      have hnx : ∀ G, (zu.mk nm.1 b.1 r.R G).next = (N : Int) := fun G => hN
      rw [hN] at hK
      have e6 := hJ6.e
      refine zt e6 ?_
      refine znA (by omega) ?_
      cases hnf : zaZ nm.1
      · rw [hnf, Bool.false_and] at hK
        refine zt hnf ?_
        exact zoy hbl (by omega) hgl hN hJ6 hK
      · rw [hnf, Bool.true_and] at hK
        refine zt (zb hnf e6) ?_
        refine zev (x := ⟨nm.1, b.1, r.R, []⟩) (by rw [hnx]; omega) ?_
        rw [hnx]
        cases hlq : decide ((N : Int) ≤ 9007199254740992)
        · rw [hlq] at hK
          refine zt (zb hnf hlq) ?_
          exact zoy hbl (by omega) hgl hN hJ6 hK
        · rw [hlq] at hK
          refine zt (zb hnf hlq) ?_
          exact zoy hbl (by omega) hgl hN hJ6 hK)
end

end Go.Proofs.YtaocmalhjfakdaaGreat
