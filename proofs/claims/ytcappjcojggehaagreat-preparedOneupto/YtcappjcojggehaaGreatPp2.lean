/- Two valid certificates of a view and a number have one digest. No program in sight. -/
import Derived.Test.YtcappjcojggehaaGreatBg3
import Derived.Test.YtcappjcojggehaaGreatSpQuo
set_option linter.all false
set_option linter.unusedSimpArgs false
set_option linter.unusedVariables false
namespace Go.Proofs.YtcappjcojggehaaGreat
open Go.AW

def dofV (ds : List Int) (v : zcv) : Int := ds.getD (v.batch % ds.length) 0
def SigI (B : zio) (votes : List zcv) : Prop := ∀ s ∈ B.G, s.key < 13 → ∃ v ∈ votes, v.key = s.key ∧ zjW v.kind v.view v.seq (dofV B.ds v) = true ∧ ∃ i : Nat, zck B.L (zeT v.kind v.view v.seq (dofV B.ds v)) = some i ∧ s.dig = ((i + 1 : Nat) : Int)
theorem signL_mem {G : List zR} {s x : zR} (h : x ∈ zkR G s) : x ∈ G ∨ x = s := by
  unfold zkR at h
  split at h
  · exact .inl h
  · rcases List.mem_append.1 h with h | h
    · exact .inl h
    · exact .inr (by simpa using h)
theorem signG_mem {G : List zR} {k d : Int} {x : zR} (h : x ∈ zdW G k d) : x ∈ G ∨ (x = ⟨k, d⟩ ∧ zcV k d = 0) := by
  unfold zdW at h
  split at h
  · rename_i e
    rcases signL_mem h with h | h
    · exact .inl h
    · exact .inr ⟨h, e⟩
  · exact .inl h
theorem keyF_sign {c d : Int} (h : zcV (znf c) d = 0) : 13 ≤ znf c := by
  unfold zcV at h
  unfold znf at h ⊢
  split
  · rename_i e; rw [if_pos e] at h; simp at h
  · omega
theorem seR_keys {s : List (List UInt8) × List zR × List zd} {r : zd} (h : ∀ x ∈ s.2.1, 13 ≤ x.key) : ∀ x ∈ (seR s r).2.1, 13 ≤ x.key := by
  intro x hx
  simp only [seR, zmB] at hx
  split at hx
  · exact h x hx
  · rcases signG_mem hx with hx | ⟨rfl, e⟩
    · exact h x hx
    · exact keyF_sign e
theorem zlO : ∀ {l : List zd} {s : List (List UInt8) × List zR × List zd}, (∀ x ∈ s.2.1, 13 ≤ x.key) → ∀ x ∈ (l.foldl seR s).2.1, 13 ≤ x.key
  | [], _, h => h
  | r :: l, s, h => zlO (l := l) (seR_keys h)
theorem zlP : ∀ {l : List (List zd)} {B : zio}, (∀ x ∈ B.G, 13 ≤ x.key) → ∀ x ∈ (l.foldl beB B).G, 13 ≤ x.key
  | [], _, h => h
  | b :: l, B, h => zlP (l := l) (B := beB B b) (zlO (s := (B.L, B.G, [])) h)
theorem sig_first (bats : List (List zd)) : SigI (begB bats) [] := by
  intro s hs hk
  have := zlP (l := [] :: bats) (B := beg0) (by simp [beg0]) s hs
  omega
theorem sig_next {B : zio} {votes : List zcv} (h : SigI B votes) (v : zcv) : SigI (beV B v) (votes ++ [v]) := by
  intro s hs hk
  have hds : (beV B v).ds = B.ds := rfl
  rw [hds]
  have hd : B.ds.getD (v.batch % B.ds.length) 0 = dofV B.ds v := rfl
  simp only [beV, hd] at hs ⊢
  obtain ⟨d, hde⟩ : ∃ d, dofV B.ds v = d := ⟨_, rfl⟩
  rw [hde] at hs ⊢
  have hmore : ∃ m, votL B.L v.kind v.view v.seq d = B.L ++ m := by
    unfold votL
    split
    · exact sumL_more _ _
    · exact ⟨[], by simp⟩
  have old : s ∈ B.G → ∃ w ∈ votes ++ [v], w.key = s.key ∧ zjW w.kind w.view w.seq (dofV B.ds w) = true ∧ ∃ i : Nat, zck (votL B.L v.kind v.view v.seq d) (zeT w.kind w.view w.seq (dofV B.ds w)) = some i ∧ s.dig = ((i + 1 : Nat) : Int) := fun hs => by
    obtain ⟨w, hw, h1, h2, i, h3, h4⟩ := h s hs hk
    obtain ⟨m, hm⟩ := hmore
    exact ⟨w, by simp [hw], h1, h2, i, by rw [hm]; exact look_more h3, h4⟩
  unfold votG at hs
  split at hs
  · rename_i hm
    unfold sgnG at hs
    split at hs
    · exact old hs
    · rename_i hn
      rcases signG_mem hs with hs | ⟨rfl, e⟩
      · exact old hs
      · obtain ⟨i, h1, h2, h3⟩ := sum_pos hn
        refine ⟨v, by simp, rfl, by rw [hde]; exact hm, i, ?_, h1⟩
        rw [hde, votL, if_pos hm]
        exact h2
  · exact old hs
theorem sig_all : ∀ {l done : List zcv} {B : zio}, SigI B done → SigI (l.foldl beV B) (done ++ l)
  | [], done, B, h => by simpa using h
  | v :: l, done, B, h => by
    have := sig_all (l := l) (sig_next h v)
    simpa using this
theorem sig_beg (bats : List (List zd)) (votes : List zcv) : SigI (begF bats votes) votes := by
  have := sig_all (l := votes) (sig_first bats)
  simpa [begF] using this
theorem zmN {L : List (List UInt8)} {G : List zR} {f lead view seq dig : Int} : ∀ {l : List zR} {last : Int}, zlj L G f lead view seq dig last l = true →
    (∀ s ∈ l, last < s.key ∧ s.key < zcw 3 f ∧ s.key ≠ lead ∧ zfC L G s s.key 3 view seq dig = true) ∧ (l.map zR.key).Nodup
  | [], _, _ => by simp
  | s :: l, last, h => by
    simp only [zlj, Bool.and_eq_true, Bool.not_eq_true', decide_eq_false_iff_not, beq_eq_false_iff_ne, ne_eq] at h
    obtain ⟨h1, h2, h3, h4, h5⟩ := h
    obtain ⟨g1, g2⟩ := zmN h5
    refine ⟨fun x hx => ?_, ?_⟩
    · rcases List.mem_cons.1 hx with rfl | hx
      · exact ⟨by omega, by omega, h3, h4⟩
      · have := g1 x hx
        exact ⟨by omega, this.2⟩
    · rw [List.map_cons, List.nodup_cons]
      refine ⟨fun hm => ?_, g2⟩
      obtain ⟨x, hx, e⟩ := List.mem_map.1 hm
      have := (g1 x hx).1
      omega
theorem prep_quo {L : List (List UInt8)} {G : List zR} {f : Int} {p : zcs} (h : zhe L G f p = true) : ∃ A : List Int, A.Nodup ∧ (∀ k ∈ A, 0 ≤ k ∧ k < 3 * f + 1) ∧ (A.length : Int) = 2 * f + 1 ∧ 1 ≤ f ∧ f ≤ 4 ∧
    ∀ k ∈ A, ∃ s kind, (s : zR).key = k ∧ zfC L G s k kind p.view p.seq p.dig = true := by
  simp only [zhe, Bool.and_eq_true] at h
  obtain ⟨h1, _, h2⟩ := h
  simp only [ziR, Bool.and_eq_true, decide_eq_true_eq, Bool.not_eq_true', decide_eq_false_iff_not] at h1
  obtain ⟨hf, v0, v1, _, _⟩ := h1
  have hf2 : ¬ (f < 1 ∨ f > 4) := by unfold zdu at hf; split at hf <;> simp_all
  have ht : zcw 3 f = 3 * f + 1 := by rw [zcw, if_neg hf2]
  have hl := prim_tmod hf2 v0 v1
  have hl2 : p.view.tmod (3 * f + 1) < 3 * f + 1 := Int.tmod_lt_of_pos _ (by omega)
  have hp : zlt f p.view = p.view.tmod (3 * f + 1) := by rw [zlt, if_neg (by omega)]
  unfold prepG at h2
  split at h2
  · simp only [prepH, Bool.and_eq_true, beq_iff_eq] at h2
    obtain ⟨_, h3, h4, h5⟩ := h2
    obtain ⟨g1, g2⟩ := zmN h5
    refine ⟨zlt f p.view :: p.signs.map zR.key, ?_, ?_, ?_, by omega, by omega, ?_⟩
    · rw [List.nodup_cons]
      refine ⟨fun hm => ?_, g2⟩
      obtain ⟨x, hx, e⟩ := List.mem_map.1 hm
      exact (g1 x hx).2.2.1 e
    · intro k hk
      rcases List.mem_cons.1 hk with rfl | hk
      · rw [hp]; omega
      · obtain ⟨x, hx, rfl⟩ := List.mem_map.1 hk
        have := g1 x hx
        rw [ht] at this
        omega
    · simp only [List.length_cons, List.length_map]; omega
    · intro k hk
      rcases List.mem_cons.1 hk with rfl | hk
      · refine ⟨⟨p.fkey, p.fdig⟩, 2, ?_, h3⟩
        simp only [zfC, Bool.and_eq_true, zgh] at h3
        obtain ⟨_, h3⟩ := h3
        split at h3
        · simp at h3; exact h3.1.1
        · cases h3
      · obtain ⟨x, hx, rfl⟩ := List.mem_map.1 hk
        exact ⟨x, 3, rfl, (g1 x hx).2.2.2⟩
  · cases h2
theorem zmO {B : zio} {votes : List zcv} (hI : SigI B votes) {s : zR} {k kind view seq d : Int} (hk : k < 13) (h : zfC B.L B.G s k kind view seq d = true) :
    ∃ v ∈ votes, v.key = k ∧ v.view = view ∧ v.seq = seq ∧ dofV B.ds v = d := by
  simp only [zfC, Bool.and_eq_true, zgh] at h
  obtain ⟨hm, h⟩ := h
  split at h
  · rename_i i hi
    simp only [Bool.and_eq_true, decide_eq_true_eq] at h
    obtain ⟨⟨e1, e2⟩, e3⟩ := h
    obtain ⟨v, hv, g1, g2, j, g3, g4⟩ := hI s e3 (by omega)
    have hij : i = j := by omega
    subst hij
    have := (zlc hi).2.symm.trans (zlc g3).2
    obtain ⟨_, q1, q2, q3⟩ := voteB_inj hm g2 (Option.some.inj this)
    exact ⟨v, hv, by omega, q1.symm, q2.symm, q3.symm⟩
  · cases h
def KeptV (bad : Int → Bool) (votes : List zcv) : Prop := ∀ v ∈ votes, ∀ w ∈ votes, bad v.key = false → v.key = w.key → v.view = w.view → v.seq = w.seq → v.batch = w.batch
theorem one_plain {B : zio} {votes : List zcv} {bad : Int → Bool} {f : Int} (hI : SigI B votes) (hK : KeptV bad votes) (hf : (zdO (3 * f + 1).toNat).countP bad ≤ f.toNat) {a b : zcs}
    (ha : zhe B.L B.G f a = true) (hb : zhe B.L B.G f b = true) (hv : a.view = b.view) (hs : a.seq = b.seq) : a.dig = b.dig := by
  obtain ⟨A1, n1, r1, l1, f0, f4, s1⟩ := prep_quo ha
  obtain ⟨A2, n2, r2, l2, _, _, s2⟩ := prep_quo hb
  obtain ⟨n, rfl⟩ : ∃ n : Nat, f = n := ⟨f.toNat, by omega⟩
  have e : (3 * (n : Int) + 1).toNat = 3 * n + 1 := by omega
  rw [e] at hf
  obtain ⟨k, k1, k2, k3⟩ := quo_meet (f := n) n1 n2 (fun x hx => by have := r1 x hx; omega) (fun x hx => by have := r2 x hx; omega) (by omega) (by omega) (by simpa using hf)
  have hk := r1 k k1
  obtain ⟨s, kd, _, h1⟩ := s1 k k1
  obtain ⟨s', kd', _, h2⟩ := s2 k k2
  obtain ⟨v, v1, v2, v3, v4, v5⟩ := zmO hI (by omega) h1
  obtain ⟨w, w1, w2, w3, w4, w5⟩ := zmO hI (by omega) h2
  have := hK v v1 w w1 (by rw [v2]; exact k3) (by omega) (by omega) (by omega)
  rw [← v5, ← w5, dofV, dofV, this]
end Go.Proofs.YtcappjcojggehaaGreat
