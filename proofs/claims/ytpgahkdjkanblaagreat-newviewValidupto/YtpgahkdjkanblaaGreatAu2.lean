/- Contracts: votes, the program's. -/
import Derived.Test.YtpgahkdjkanblaaGreatRq4
import Derived.Test.YtpgahkdjkanblaaGreatWr2
set_option linter.all false
set_option maxRecDepth 100000
set_option linter.unusedSimpArgs false
set_option linter.unusedVariables false
namespace Go.Proofs.YtpgahkdjkanblaaGreat
open Go.AW

theorem may_all {a b c d : Int} (h : mayV a b c d = true) : ∀ x ∈ [a, b, c, d], 0 ≤ x ∧ x ≤ 9007199254740992 := by
  rw [mayV_all, List.all_eq_true] at h
  exact fun x hx => numOk_iff.1 (h x hx)
theorem zwt {σ : List zf} {a b c d : Int} (h : mayV a b c d = true) {K : KT} (hK : K (.d (.slice (bcs (voteB a b c d)))) σ) :
    zm Tryz.prog zdb [.d (.int .i64 a), .d (.int .i64 b), .d (.int .i64 c), .d (.int .i64 d)] σ K := by
  refine zc zlw.is rfl fun hl _ => zlw.goes ?_
  simp only [zlO, iN, bT, bF, eN]
  refine zao ?_
  refine c_auPut (b := [4]) (l := [a, b, c, d]) (by simp) (by simp) (may_all h) ?_
  refine zao ?_
  refine zq hl ?_
  exact hK
theorem c_auMade {σ : List zf} {id m t id2 m2 t2 : Nat} {l : List (List UInt8)} {g : List zP} (hT : zed σ id m t l) (hG : zee σ id2 m2 t2 g) (hL : zwx l) (hg : g.length ≤ 1073741824) {K : KT}
    (hK : K (.d (.bool true)) σ) : zm Tryz.prog zkX [.box id 0, .box id2 0] σ K := by
  refine zc zsX.is rfl fun hl _ => zsX.goes ?_
  simp only [ztN, iN, bT, bF, eN]
  refine zao ?_
  refine zwh hT hL.nd hL.len hL.each ?_
  refine zao ?_
  refine zrP (hG.app _) hg fun g' => ?_
  refine zao ?_
  refine zq hl ?_
  exact hK
theorem zvh {σ : List zf} {id m t id2 m2 t2 : Nat} {L : List (List UInt8)} {G : List zP} {s : zP} {key : Int} {b : List UInt8} (hT : zed σ id m t L) (hG : zee σ id2 m2 t2 G) {K : KT}
    (hK : K (.d (.bool (zfF L G s key b))) σ) : zm Tryz.prog zie [.box id 0, .box id2 0, .agg [.d (.int .i64 s.key), .d (.int .i64 s.dig)], .d (.int .i64 key), .d (.slice (bcs b))] σ K := by
  refine zc zpo.is rfl fun hl _ => zpo.goes ?_
  have hT1 := fun τ => hT.app τ
  have hG1 := fun τ => hG.app τ
  simp only [zpP, iN, bT, bF, eN]
  refine zao ?_
  refine ztd (hT1 _) ?_
  have fin : ∀ z, zfF L G s key b = z → K (.d (.bool z)) σ := fun z h => h ▸ hK
  clear hK
  cases hlk : zen L b with
  | none =>
    refine gq67 ?_
    refine zq hl ?_
    exact fin _ (by simp [zfF, hlk])
  | some i =>
    simp only [zvT]
    cases h1 : (s.key == key)
    · refine gq69 h1 ?_
      refine zq hl ?_
      exact fin _ (by simp at h1; simp [zfF, hlk, h1])
    · cases h2 : (s.dig == ((i + 1 : Nat) : Int))
      · refine gq69 (zi h1 h2) ?_
        refine zq hl ?_
        exact fin _ (by simp at h1 h2; simp [zfF, hlk, h1]; omega)
      · refine gq69 (zi h1 h2) ?_
        refine c_gSigned (s := s) (hG1 _) ?_
        refine zao ?_
        refine zq hl ?_
        exact fin _ (by simp at h1 h2; simp [zfF, hlk, h1, h2])
theorem zlf {σ : List zf} {id m t id2 m2 t2 : Nat} {L : List (List UInt8)} {G : List zP} {s : zP} {key a b c d : Int} (hT : zed σ id m t L) (hG : zee σ id2 m2 t2 G) (hL : zwx L) (hg : G.length ≤ 1073741824) {K : KT}
    (hK : K (.d (.bool (zfw L G s key a b c d))) σ) :
    zm Tryz.prog zdY [.box id 0, .box id2 0, .agg [.d (.int .i64 s.key), .d (.int .i64 s.dig)], .d (.int .i64 key), .d (.int .i64 a), .d (.int .i64 b), .d (.int .i64 c), .d (.int .i64 d)] σ K := by
  refine zc zlx.is rfl fun hl _ => zlx.goes ?_
  simp only [zlP, iN, bT, bF, eN]
  refine zao ?_
  refine c_auMade (hT.app _) (hG.app _) hL hg ?_
  refine zao ?_
  refine c_auMay ?_
  cases hm : mayV a b c d
  · rw [zfw, hm, Bool.false_and] at hK
    refine zao ?_
    refine zq hl ?_
    exact hK
  · rw [zfw, hm, Bool.true_and] at hK
    refine zao ?_
    refine zwt hm ?_
    refine zao ?_
    refine zvh (s := s) (hT.app _) (hG.app _) ?_
    refine zao ?_
    refine zq hl ?_
    exact hK
end Go.Proofs.YtpgahkdjkanblaaGreat

/- Contracts: what a message's signature stands over; which messages are signed: the program's: view-changes and new views. -/
set_option maxRecDepth 100000
set_option linter.unusedSimpArgs false
set_option linter.unusedVariables false
namespace Go.Proofs.YtpgahkdjkanblaaGreat
open Go.AW

abbrev uns7 (m : zgs) (c : zaa) : zgs := { m with changes := [{ c with key := 0, dig := 1 }] }
theorem some7 {m : zgs} {c : zaa} (hk : m.kind = 7) (hc : m.changes = [c]) : zfE m = uns7 m c := by simp [zfE, hk, hc]
theorem zuk {m : zgs} {c : zaa} (h : zdX m) (hc : m.changes = [c]) : zdX (uns7 m c) := by
  obtain ⟨h1, h2, h3, h4, h5, h6, h7, h8, h9, h10⟩ := h
  obtain ⟨⟨a1, a2, a3⟩, ⟨b1, b2, b3⟩⟩ := h5 c (by rw [hc]; simp)
  exact ⟨h1, h2, h3, by simp, by intro x hx; simp at hx; subst hx; exact ⟨⟨a1, a2, a3⟩, ⟨b1, b2, b3⟩⟩, h6, h7, h8, h9, h10⟩
theorem c_mUnsigned7 {σ : List zf} {m : zgs} {c : zaa} (hm : zdX m) (hk : m.kind = 7) (hc : m.changes = [c]) {K : KT}
    (hK : K (.tup [.d (.slice (bcs (if zdn (zfE m) = 0 then zqU (zfE m) else []))), .d (.int .i64 (zdn (zfE m)))]) σ) : zm Tryz.prog zfR [zqx m] σ K := by
  refine zc zjr.is rfl fun hl _ => zjr.goes ?_
  have hgx : (zaP m.changes)[0]? = some (zbm c) := by rw [hc]; rfl
  have hgl : (zaP m.changes).length = 1 := by rw [hc]; rfl
  have hs := zuk hm hc
  rw [some7 hk hc] at hK
  simp only [zjG, iN, bT, bF, eN]
  refine zjk (zi (show (m.kind == 1) = false by rw [hk]; rfl) (zi (show (m.kind == 2) = false by rw [hk]; rfl) (zi (show (m.kind == 3) = false by rw [hk]; rfl) (zi (show (m.kind == 4) = false by rw [hk]; rfl) (zi (show (m.kind == 5) = false by rw [hk]; rfl) (zi (show (m.kind == 6) = false by rw [hk]; rfl) (zi (show (m.kind == 7) = true by rw [hk]; rfl) (zi (show (m.kind == 8) = false by rw [hk]; rfl) (zi (show (m.kind == 9) = false by rw [hk]; rfl) (zi (show (m.kind == 10) = false by rw [hk]; rfl) (zi (show (m.kind == 11) = false by rw [hk]; rfl) (zi (show (m.kind == 12) = false by rw [hk]; rfl) (zi hgx hgl))))))))))))) ?_
  refine c_mSome ?_
  refine zjk (zi (show (m.kind == 1) = false by rw [hk]; rfl) (zi (show (m.kind == 2) = false by rw [hk]; rfl) (zi (show (m.kind == 3) = false by rw [hk]; rfl) (zi (show (m.kind == 4) = false by rw [hk]; rfl) (zi (show (m.kind == 5) = false by rw [hk]; rfl) (zi (show (m.kind == 6) = false by rw [hk]; rfl) (zi (show (m.kind == 7) = true by rw [hk]; rfl) (zi (show (m.kind == 8) = false by rw [hk]; rfl) (zi (show (m.kind == 9) = false by rw [hk]; rfl) (zi (show (m.kind == 10) = false by rw [hk]; rfl) (zi (show (m.kind == 11) = false by rw [hk]; rfl) (zi (show (m.kind == 12) = false by rw [hk]; rfl) (zi hgx hgl))))))))))))) ?_
  refine c_mBytes7 (m := uns7 m c) hs hk ?_
  by_cases h1 : zdn (uns7 m c) = 0
  · have h1' : (zdn (uns7 m c) != 0) = false := by simp [h1]
    have h2 : zbU (uns7 m c) = 0 := by
      unfold zdn at h1
      split at h1
      · rename_i hh; exact absurd h1 hh
      · rename_i hh; simpa using hh
    obtain ⟨c', hc', he⟩ := check7 (m := uns7 m c) hk h2
    obtain ⟨he1, he2⟩ := zpq he
    refine zH h1' ?_
    refine zm.pre (.dataB (σ.length + 2) 0 [.exact []] (.exact []) [] (by rw [zC]; rfl) rfl rfl (.refl _ _)) ?_
    rw [zN]
    refine c_wUns7 (b := []) (m := uns7 m c) (c := c') (by rw [zC]; rfl) (by simp) hk hc' he1 ?_
    rw [zN]
    refine zao ?_
    refine zq hl ?_
    rw [if_pos h1, h1] at hK
    exact hK
  · have h1' : (zdn (uns7 m c) != 0) = true := by simp [h1]
    refine zH h1' ?_
    refine zq hl ?_
    rw [if_neg h1] at hK
    exact hK
theorem bcs1 (l : List UInt8) : ∀ e ∈ bcs l, e.length = 1 := by
  intro e he
  simp only [bcs, List.mem_map] at he
  obtain ⟨x, _, rfl⟩ := he
  rfl
theorem uns_len {m : zgs} (h : zdn m = 0) : (zqU m).length ≤ 262144 := by
  unfold zdn at h
  split at h
  · rename_i hh; exact absurd h hh
  · split at h
    · cases h
    · rename_i hh; simp only [zua, List.length_append] at hh; omega
theorem c_auContent7 {σ : List zf} {m : zgs} {c : zaa} (hm : zdX m) (hk : m.kind = 7) (hc : m.changes = [c]) {K : KT}
    (hK : K (.tup [.d (.slice (bcs (zot m))), .d (.int .i64 (zdn (zfE m)))]) σ) : zm Tryz.prog zjP [zqx m] σ K := by
  refine zc znL.is rfl fun hl _ => znL.goes ?_
  simp only [znZ, iN, bT, bF, eN]
  refine zao ?_
  refine c_mUnsigned7 (m := m) hm hk hc ?_
  by_cases h1 : zdn (zfE m) = 0
  · have h1' : (zdn (zfE m) != 0) = false := by simp [h1]
    have h2 : zot m = 6 :: zqU (zfE m) := by simp [zot, h1]
    have hlen := uns_len h1
    rw [if_pos h1]
    refine zH (zi h1' (zi (show (m.kind == 1) = false by rw [hk]; rfl) (zi (show (m.kind == 2) = false by rw [hk]; rfl) (zi (show (m.kind == 3) = false by rw [hk]; rfl) (zi (show (m.kind == 4) = false by rw [hk]; rfl) (zi (show (m.kind == 5) = false by rw [hk]; rfl) (zi (show (m.kind == 6) = false by rw [hk]; rfl) (zi (show (m.kind == 7) = true by rw [hk]; rfl) (zi (show (m.kind == 8) = false by rw [hk]; rfl) (zi (show (m.kind == 9) = false by rw [hk]; rfl) (zi (show (m.kind == 10) = false by rw [hk]; rfl) (zi (show (m.kind == 11) = false by rw [hk]; rfl) (show (m.kind == 12) = false by rw [hk]; rfl))))))))))))) ?_
    refine ⟨bcs1 _, by simp, by omega, ?_⟩
    refine zq hl ?_
    rw [h2, h1] at hK
    exact hK
  · have h1' : (zdn (zfE m) != 0) = true := by simp [h1]
    have h2 : zot m = [] := by simp [zot, h1]
    rw [if_neg h1]
    refine zH h1' ?_
    refine zq hl ?_
    rw [h2] at hK
    exact hK
theorem c_auOwn7 {σ : List zf} {m : zgs} {c : zaa} (hk : m.kind = 7) (hc : m.changes = [c]) {K : KT} (hK : K (.agg [.d (.int .i64 (ownS m).key), .d (.int .i64 (ownS m).dig)]) σ) : zm Tryz.prog zqv [zqx m] σ K := by
  refine zc zuY.is rfl fun hl _ => zuY.goes ?_
  have hgx : (zaP m.changes)[0]? = some (zbm c) := by rw [hc]; rfl
  have hgl : (zaP m.changes).length = 1 := by rw [hc]; rfl
  simp only [zvF, iN, bT, bF, eN]
  refine zjk (zi (show (m.kind == 1) = false by rw [hk]; rfl) (zi (show (m.kind == 2) = false by rw [hk]; rfl) (zi (show (m.kind == 3) = false by rw [hk]; rfl) (zi (show (m.kind == 4) = false by rw [hk]; rfl) (zi (show (m.kind == 5) = false by rw [hk]; rfl) (zi (show (m.kind == 6) = false by rw [hk]; rfl) (zi (show (m.kind == 7) = true by rw [hk]; rfl) (zi (show (m.kind == 8) = false by rw [hk]; rfl) (zi (show (m.kind == 9) = false by rw [hk]; rfl) (zi (show (m.kind == 10) = false by rw [hk]; rfl) (zi (show (m.kind == 11) = false by rw [hk]; rfl) (zi (show (m.kind == 12) = false by rw [hk]; rfl) (zi hgx hgl))))))))))))) ?_
  refine zq hl ?_
  simp only [ownS, hk, if_true, hc] at hK
  exact hK
theorem c_auChange {σ : List zf} {c : zaa} {K : KT} (hK : K (zqx (vcM c)) σ) : zm Tryz.prog zkY [.agg (zbV c)] σ K := by
  refine zc zpp.is rfl fun hl _ => zpp.goes ?_
  simp only [zpQ, iN, bT, bF, eN]
  refine zao ?_
  refine zq hl ?_
  exact hK
end Go.Proofs.YtpgahkdjkanblaaGreat
