/- What the primary tells is taken by all. No program in sight. -/
import Derived.Test.YtpgahkdjkanblaaGreatMc2
set_option linter.all false
set_option maxRecDepth 100000
set_option linter.unusedSimpArgs false
set_option linter.unusedVariables false
namespace Go.Proofs.YtpgahkdjkanblaaGreat
open Go.AW

structure zgG (L : List (List UInt8)) (G : List zt) (L' : List (List UInt8)) (G' : List zt) : Prop where
  pre : ∃ t, L' = L ++ t
  sub : ∀ s ∈ G, s ∈ G'
theorem zgG.refl (L : List (List UInt8)) (G : List zt) : zgG L G L G := ⟨⟨[], by simp⟩, fun _ h => h⟩
theorem zgG.trans {L L1 L2 : List (List UInt8)} {G G1 G2 : List zt} (h : zgG L G L1 G1) (k : zgG L1 G1 L2 G2) : zgG L G L2 G2 := by
  obtain ⟨⟨t, rfl⟩, h2⟩ := h
  obtain ⟨⟨u, rfl⟩, k2⟩ := k
  exact ⟨⟨t ++ u, by simp⟩, fun s hs => k2 s (h2 s hs)⟩
theorem zgG.sum (L : List (List UInt8)) (G : List zt) (b : List UInt8) : zgG L G (zib L b) G := by
  refine ⟨?_, fun _ h => h⟩
  unfold zib
  split
  · exact ⟨[], by simp⟩
  · split
    · exact ⟨[], by simp⟩
    · exact ⟨[b], rfl⟩
theorem zgG.sign (L : List (List UInt8)) (G : List zt) (k d : Int) : zgG L G L (zid G k d) := by
  refine ⟨⟨[], by simp⟩, fun s hs => ?_⟩
  unfold zid zsZ
  split
  · split
    · exact hs
    · simp [hs]
  · exact hs
theorem zgG.sgn (L : List (List UInt8)) (G : List zt) (k : Int) (b : List UInt8) : zgG L G (zib L b) (zoW L G k b) := by
  unfold zoW
  split
  · exact zgG.sum ..
  · exact (zgG.sum L G b).trans (zgG.sign ..)
theorem zgG.vot (L : List (List UInt8)) (G : List zt) (k a b c d : Int) : zgG L G (votL L a b c d) (votG L G k a b c d) := by
  unfold votL votG
  split
  · exact zgG.sgn ..
  · exact zgG.refl ..
theorem zgG.dig (L : List (List UInt8)) (G : List zt) (b : List zu) : zgG L G (zri L b) G := by
  unfold zri
  split
  · exact zgG.refl ..
  · exact zgG.sum ..
theorem zgG.ent (L : List (List UInt8)) (G : List zt) (key : Int) (x : zaI) : zgG L G (zsW L x) (zsX L G key x) := by
  unfold zsW zsX
  split
  · exact zgG.dig ..
  · exact (zgG.dig L G x.batch).trans (zgG.vot ..)
section

variable {L L' : List (List UInt8)} {G G' : List zt}

theorem zgG.look (h : zgG L G L' G') {b : List UInt8} {i : Nat} (hi : zff L b = some i) : zff L' b = some i := by
  obtain ⟨⟨t, rfl⟩, _⟩ := h
  unfold zff at hi ⊢
  rw [zkD, hi]
theorem zgG.signed (h : zgG L G L' G') {s : zt} {key : Int} {b : List UInt8} (hs : zhi L G s key b = true) : zhi L' G' s key b = true := by
  unfold zhi at hs ⊢
  split at hs
  · rename_i i hi
    rw [h.look hi]
    simp only [Bool.and_eq_true, decide_eq_true_eq] at hs ⊢
    exact ⟨hs.1, h.sub _ hs.2⟩
  · cases hs
theorem zgG.vote (h : zgG L G L' G') {s : zt} {key a b c d : Int} (hs : zgJ L G s key a b c d = true) : zgJ L' G' s key a b c d = true := by
  simp only [zgJ, Bool.and_eq_true] at hs ⊢
  exact ⟨hs.1, h.signed hs.2⟩
theorem zgG.votes (h : zgG L G L' G') {f lead view seq dig : Int} : ∀ {l : List zt} {last : Int}, zqR L G f lead view seq dig last l = true → zqR L' G' f lead view seq dig last l = true
  | [], _, _ => rfl
  | s :: r, last, hs => by
    simp only [zqR, Bool.and_eq_true] at hs ⊢
    exact ⟨hs.1, hs.2.1, hs.2.2.1, h.vote hs.2.2.2.1, h.votes hs.2.2.2.2⟩
theorem zgG.valid (h : zgG L G L' G') {s : zu} (hs : zlC L G s = true) : zlC L' G' s = true := by
  simp only [zlC, Bool.and_eq_true] at hs ⊢
  refine ⟨hs.1, ?_⟩
  have h2 := hs.2
  split at h2
  · rename_i i hi
    rw [h.look hi]
    simp only [Bool.and_eq_true, decide_eq_true_eq] at h2 ⊢
    exact ⟨h2.1, h.sub _ h2.2⟩
  · cases h2
theorem zgG.batch (h : zgG L G L' G') {b : List zu} (hs : ziQ L G b = true) : ziQ L' G' b = true := by
  simp only [ziQ, Bool.and_eq_true, Bool.not_eq_true', List.any_eq_false] at hs ⊢
  refine ⟨hs.1, fun x hx => ?_⟩
  have := hs.2 x hx
  simp only [Bool.not_eq_true', Bool.not_eq_false] at this ⊢
  exact h.valid this
theorem zgG.prep (h : zgG L G L' G') {f : Int} {p : zca} (hs : zmt L G f p = true) : zmt L' G' f p = true := by
  simp only [zmt, Bool.and_eq_true] at hs ⊢
  refine ⟨hs.1, h.batch hs.2.1, ?_⟩
  have h2 := hs.2.2
  unfold prepG at h2 ⊢
  split at h2
  · rename_i i hi
    rw [h.look hi]
    simp only [prepH, Bool.and_eq_true] at h2 ⊢
    exact ⟨h2.1, h.vote h2.2.1, h2.2.2.1, h.votes h2.2.2.2⟩
  · cases h2
theorem zgG.above (h : zgG L G L' G') {f view low : Int} : ∀ {l : List zca} {last : Int}, zne L G f view low last l = true → zne L' G' f view low last l = true
  | [], _, _ => rfl
  | p :: r, last, hs => by
    simp only [zne, Bool.and_eq_true] at hs ⊢
    exact ⟨h.prep hs.1, hs.2.1, hs.2.2.1, hs.2.2.2.1, h.above hs.2.2.2.2⟩
theorem zgG.cert (h : zgG L G L' G') {f : Int} {c : zfB} (hs : zsx L G f c = true) : zsx L' G' f c = true := by
  simp only [zsx, Bool.and_eq_true, List.all_eq_true] at hs ⊢
  exact ⟨hs.1, hs.2.1, fun s hm => h.vote (hs.2.2 s hm)⟩
theorem zgG.msg (h : zgG L G L' G') {m : zes} (hs : zet L G m = true) : zet L' G' m = true := by
  simp only [zet, Bool.and_eq_true] at hs ⊢
  exact ⟨hs.1, hs.2.1, h.signed hs.2.2⟩
theorem zgG.change (h : zgG L G L' G') {f view : Int} {c : zO} (hs : zcF L G f view c = true) : zcF L' G' f view c = true := by
  simp only [zcF, Bool.and_eq_true] at hs ⊢
  exact ⟨hs.1, hs.2.1, hs.2.2.1, hs.2.2.2.1, h.msg hs.2.2.2.2.1, h.cert hs.2.2.2.2.2.1, hs.2.2.2.2.2.2.1, h.above hs.2.2.2.2.2.2.2⟩
theorem zgG.entry (h : zgG L G L' G') {key : Int} {x : zaI} (hs : zgk L G key x = true) : zgk L' G' key x = true := by
  simp only [zgk, Bool.and_eq_true] at hs ⊢
  refine ⟨hs.1, ?_⟩
  have h2 := hs.2
  split at h2
  · rename_i i hi
    rw [h.look hi]
    exact h.vote h2
  · cases h2
end

theorem zuI {L : List (List UInt8)} {b : List UInt8} (h : znL L b ≠ 0) : ∃ i, zff (zib L b) b = some i ∧ znL L b = ((i + 1 : Nat) : Int) := by
  unfold znL zib at *
  cases ho : zff L b with
  | some i => exact ⟨i, ho, rfl⟩
  | none =>
    rw [ho] at h
    simp only at h ⊢
    by_cases hl : L.length ≥ 1048576
    · rw [if_pos hl] at h; exact absurd rfl h
    · rw [if_neg hl, if_neg hl]
      refine ⟨L.length, ?_, rfl⟩
      unfold zff at ho ⊢
      rw [zkD, ho]
      simp [zhL]
theorem sgn_ok {L : List (List UInt8)} {G : List zt} {key : Int} {b : List UInt8} (h : sgnE L key b = 0) : zhi (zib L b) (zoW L G key b) (zsU L key b) key b = true ∧ zsU L key b = ⟨key, znL L b⟩ ∧ znL L b ≠ 0 ∧ zhE key (znL L b) = 0 := by
  unfold sgnE at h
  by_cases h0 : znL L b = 0
  · rw [if_pos h0] at h; cases h
  rw [if_neg h0] at h
  obtain ⟨i, h1, h2⟩ := zuI h0
  have e : zsU L key b = ⟨key, znL L b⟩ := by rw [zsU, if_neg h0, signR, if_pos h]
  refine ⟨?_, e, h0, h⟩
  rw [zhi, h1, e, zoW, if_neg h0, zid, if_pos h, h2]
  simp only [Bool.and_eq_true, decide_eq_true_eq]
  refine ⟨⟨trivial, trivial⟩, ?_⟩
  unfold zsZ
  split
  · assumption
  · simp
theorem vot_ok {L : List (List UInt8)} {G : List zt} {key a b c d : Int} (h : votE L key a b c d = 0) : zgJ (votL L a b c d) (votG L G key a b c d) (votS L key a b c d) key a b c d = true := by
  unfold votE at h
  by_cases hm : mayV a b c d = true
  · rw [if_pos hm] at h
    rw [zgJ, votL, votG, votS, if_pos hm, if_pos hm, if_pos hm, hm, (sgn_ok h).1]; rfl
  · rw [if_neg hm] at h; cases h
theorem ent_ok {L : List (List UInt8)} {G : List zt} {key : Int} {x : zaI} (h : zkI L key x = 0) : zoX (entX L key x) x = true ∧ zgk (zsW L x) (zsX L G key x) key (entX L key x) = true := by
  have h0 := h
  unfold zkI at h
  by_cases hd : digE L x.batch = 0
  rotate_left
  · rw [if_pos hd] at h; exact absurd h hd
  rw [if_neg (by simpa using hd)] at h
  have e : entX L key x = { x with key := (votS (zri L x.batch) key 2 x.view x.seq (zrw L x.batch)).key, dig := (votS (zri L x.batch) key 2 x.view x.seq (zrw L x.batch)).dig } := if_neg (by simpa using h0)
  have hv := vot_ok (G := G) h
  refine ⟨by rw [e]; simp [zoX], ?_⟩
  have hc : zD x.batch = 0 := by
    unfold digE at hd
    split at hd
    · rename_i hh; exact absurd hd hh
    · rename_i hh; simpa using hh
  have hn : znL L (zcP x.batch) ≠ 0 := by
    unfold digE at hd
    rw [if_neg (by simpa using hc)] at hd
    intro hz
    rw [if_pos hz] at hd
    cases hd
  obtain ⟨i, h1, h2⟩ := zuI hn
  have e1 : zri L x.batch = zib L (zcP x.batch) := if_neg (by simpa using hc)
  have e2 : zrw L x.batch = ((i + 1 : Nat) : Int) := by rw [zrw, if_neg (by simpa using hc), h2]
  rw [zsW, zsX, if_neg (by simpa using hd), if_neg (by simpa using hd)]
  rw [e2] at hv ⊢
  have hlk := (zgG.vot (zri L x.batch) G key 2 x.view x.seq ((i + 1 : Nat) : Int)).look (by rw [e1]; exact h1)
  rw [zgk, e]
  simp only
  rw [hlk, decide_eq_true hc, Bool.true_and]
  rw [e2]
  exact hv
theorem loop_ok {key : Int} : ∀ (xs : List zaI) (L : List (List UInt8)) (G : List zt) (out : List zaI), (zaA key xs L G out).e = 0 →
    zgG L G (zaA key xs L G out).L (zaA key xs L G out).G ∧ ∃ ys, (zaA key xs L G out).out = out ++ ys ∧ ys.length = xs.length ∧ zpm (zaA key xs L G out).L (zaA key xs L G out).G key ys xs = true
  | [], L, G, out, _ => ⟨zgG.refl .., [], by simp [zaA], rfl, rfl⟩
  | x :: r, L, G, out, h => by
    rw [zaA] at h ⊢
    by_cases he : zkI L key x = 0
    rotate_left
    · rw [if_pos he] at h; exact absurd h he
    rw [if_neg (by simpa using he)] at h ⊢
    obtain ⟨h1, ys, h2, h3, h4⟩ := loop_ok r _ _ _ h
    obtain ⟨k1, k2⟩ := ent_ok (G := G) he
    refine ⟨(zgG.ent L G key x).trans h1, entX L key x :: ys, by rw [h2]; simp, by simp [h3], ?_⟩
    simp only [zpm, List.zip_cons_cons, List.all_cons, Bool.and_eq_true] at h4 ⊢
    exact ⟨⟨k1, h1.entry k2⟩, h4⟩
theorem newvM_bare (f view : Int) (cs : List zO) (xs : List zaI) (s : zt) : znK (ziE f view cs xs) s = zoK (znK (ziE f view cs xs) s) := by
  simp [zoK, ziE]
theorem seal_ok {L : List (List UInt8)} {G : List zt} {f view : Int} {cs : List zO} {xs : List zaI} (hL : L.length ≤ 1048576) (h : (zhF L G (ziE f view cs xs)).e = 0) :
    zgG L G (zhF L G (ziE f view cs xs)).L (zhF L G (ziE f view cs xs)).G ∧ (∃ s, (zhF L G (ziE f view cs xs)).m = znK (ziE f view cs xs) s) ∧ zet (zhF L G (ziE f view cs xs)).L (zhF L G (ziE f view cs xs)).G (zhF L G (ziE f view cs xs)).m = true := by
  obtain ⟨m, hm⟩ : ∃ m, ziE f view cs xs = m := ⟨_, rfl⟩
  have hk : m.kind = 8 := by rw [← hm]; rfl
  have hbare : ∀ s, znK m s = zoK (znK m s) := fun s => by rw [← hm]; exact newvM_bare ..
  rw [hm] at h ⊢
  by_cases h1 : zcK (zdE m) = 0
  rotate_left
  · rw [zhF, if_pos h1] at h; exact absurd h h1
  have e0 : zhF L G m = if sgnE L m.src (zdb m) ≠ 0 then ⟨zfl, sgnE L m.src (zdb m), zib L (zdb m), zoW L G m.src (zdb m)⟩
      else ⟨znK m (zsU L m.src (zdb m)), 0, zib L (zdb m), zoW L G m.src (zdb m)⟩ := if_neg (by simpa using h1)
  by_cases h2 : sgnE L m.src (zdb m) = 0
  rotate_left
  · rw [e0, if_pos h2] at h; exact absurd h h2
  rw [if_neg (by simpa using h2)] at e0
  rw [e0]
  obtain ⟨s1, s2, s3, s4⟩ := sgn_ok (G := G) h2
  refine ⟨zgG.sgn .., ⟨_, rfl⟩, ?_⟩
  simp only
  have hs8 : ∀ s, zdE (znK m s) = zdE m := fun s => by rw [some8 hk, some8 (m := znK m s) hk]
  have hcb : zdb (znK m (zsU L m.src (zdb m))) = zdb m := by simp only [zdb, hs8]
  have hown : ownS (znK m (zsU L m.src (zdb m))) = zsU L m.src (zdb m) := by simp [ownS, hk]
  rw [zet, hs8, hcb, hown, decide_eq_true h1, Bool.true_and, s1, Bool.and_true, decide_eq_true_eq]
  have hc0 : zbO (zdE m) = 0 := by
    unfold zcK at h1
    split at h1
    · rename_i hh; exact absurd h1 hh
    · rename_i hh; simpa using hh
  rw [some8 hk] at hc0
  obtain ⟨he1, he2⟩ := check8 (m := uns8 m) hk hc0
  obtain ⟨v1, v2, v3, v4, v5, v6⟩ := newv_ok he1
  unfold zbO
  have hz : zec (zjP (znK m (zsU L m.src (zdb m)))) = 0 := by
    refine fstE_zero fun e he => ?_
    have hp : zjP (znK m (zsU L m.src (zdb m))) = zfm (uns8 m) ++ [zag (zsU L m.src (zdb m)).key (zsU L m.src (zdb m)).dig] := by
      simp only [zjP, zny, hk, show ownK 8 = true from rfl, if_true]
      simp [zfm]
    rw [hp] at he
    rcases List.mem_append.1 he with he | he
    · exact he1 e he
    · simp only [List.mem_singleton] at he
      subst he
      rw [s2]
      have hn : 1 ≤ znL L (zdb m) ∧ znL L (zdb m) ≤ 1048576 := by
        obtain ⟨i, hi1, hi2⟩ := zuI s3
        have hlt := (lookF_lt hi1).1
        have hl2 : (zib L (zdb m)).length ≤ 1048576 := by
          unfold zib
          split
          · exact hL
          · split
            · exact hL
            · simp; omega
        omega
      have v1' : 0 ≤ m.src ∧ m.src ≤ 12 := v1
      unfold zag
      rw [if_neg]
      simp only
      omega
  rw [if_neg (by rw [hz]; decide), if_pos (hbare _)]
theorem taken_plain {L : List (List UInt8)} {G : List zt} {f view : Int} {cs : List zO} (hL : zkx L) (hc : ∀ c ∈ cs, zoM c) (h : (zkC L G f view cs).e = 0) :
    ∃ R, zkC L G f view cs = R ∧ chkB R.L R.G f R.m = true ∧ R.m.view = view ∧ R.m.changes = cs.take (zaB 2 f).toNat ∧ zmw f view R.m.changes = 0 ∧ (R.m.changes.length : Int) = zaB 2 f ∧ (R.m.entries.zip (zga f view R.m.changes).2.1).all (fun p => zoX p.1 p.2) = true := by
  by_cases h0 : zmw f view cs = 0
  rotate_left
  · rw [zkC, if_pos h0] at h; exact absurd h h0
  by_cases h1 : cs.all (zcF L G f view) = true
  rotate_left
  · rw [zkC, if_neg (by simpa using h0), if_pos (by simpa using h1)] at h; cases h
  have hmt := mayF_take h0
  obtain ⟨p1, p2, p3, p4⟩ := zqr h0
  have hf := zuW p1
  have ht : zaB 2 f = 2 * f + 1 := by rw [zaB, if_neg (by omega)]
  obtain ⟨b, hb⟩ : ∃ b : Nat, zaB 2 f = (b : Int) := ⟨(zaB 2 f).toNat, by omega⟩
  have hlen : ((cs.take (zaB 2 f).toNat).length : Int) = zaB 2 f := by rw [List.length_take]; omega
  have hct : ∀ c ∈ cs.take (zaB 2 f).toNat, zoM c := fun c hh => hc c (List.mem_of_mem_take hh)
  obtain ⟨hx8, hxs⟩ := znw (f := f) (view := view) hct
  have e0 : zkC L G f view cs = if (zaA (zcA f view) (zga f view (cs.take (zaB 2 f).toNat)).2.1 L G []).e ≠ 0 then
      ⟨zfl, (zaA (zcA f view) (zga f view (cs.take (zaB 2 f).toNat)).2.1 L G []).e, (zaA (zcA f view) (zga f view (cs.take (zaB 2 f).toNat)).2.1 L G []).L, (zaA (zcA f view) (zga f view (cs.take (zaB 2 f).toNat)).2.1 L G []).G⟩
    else zhF (zaA (zcA f view) (zga f view (cs.take (zaB 2 f).toNat)).2.1 L G []).L (zaA (zcA f view) (zga f view (cs.take (zaB 2 f).toNat)).2.1 L G []).G
      (ziE f view (cs.take (zaB 2 f).toNat) (zaA (zcA f view) (zga f view (cs.take (zaB 2 f).toNat)).2.1 L G []).out) := by
    rw [zkC, if_neg (by simpa using h0), if_neg (by rw [h1]; decide)]
  obtain ⟨ds, hds⟩ : ∃ ds, cs.take (zaB 2 f).toNat = ds := ⟨_, rfl⟩
  have hall : ds.all (zcF L G f view) = true := by
    rw [← hds]
    rw [List.all_eq_true] at h1 ⊢
    exact fun c hh => h1 c (List.mem_of_mem_take hh)
  rw [hds] at e0 hmt hlen hxs
  rw [e0] at h
  obtain ⟨xs, hxe⟩ : ∃ xs, (zga f view ds).2.1 = xs := ⟨_, rfl⟩
  rw [hxe] at e0 h hxs
  by_cases h2 : (zaA (zcA f view) xs L G []).e = 0
  rotate_left
  · rw [if_pos h2] at h; exact absurd h h2
  rw [if_neg (by simpa using h2)] at e0 h
  obtain ⟨g1, ys, y1, y2, y3⟩ := loop_ok xs L G [] h2
  have hTI : ∀ (xs : List zaI) (L : List (List UInt8)) (G : List zt) (out : List zaI), zkx L → (∀ x ∈ xs, zpn x) → zkx (zaA (zcA f view) xs L G out).L := by
    intro xs
    induction xs with
    | nil => intro L G out h _; exact h
    | cons x r ih =>
      intro L G out h hx
      rw [zaA]
      have h1 := h.ent (hx x (by simp)).ops
      split
      · exact h1
      · exact ih _ _ _ h1 fun y hy => hx y (by simp [hy])
  have hT := hTI xs L G [] hL hxs
  obtain ⟨LR, hLR⟩ : ∃ r, zaA (zcA f view) xs L G [] = r := ⟨_, rfl⟩
  rw [hLR] at e0 h g1 y1 y3 hT
  rw [List.nil_append] at y1
  rw [y1] at e0 h
  obtain ⟨k1, ⟨s, k2⟩, k3⟩ := seal_ok hT.len h
  obtain ⟨R, hR⟩ : ∃ r, zhF LR.L LR.G (ziE f view ds ys) = r := ⟨_, rfl⟩
  rw [hR] at e0 h k1 k2 k3
  have hm1 : R.m.changes = ds := by rw [k2]; rfl
  have hm2 : R.m.view = view := by rw [k2]; rfl
  have hm3 : R.m.entries = ys := by rw [k2]; rfl
  have hm4 : R.m.src = zcA f view := by rw [k2]; rfl
  have hm5 : R.m.kind = 8 := by rw [k2]; rfl
  have hG := g1.trans k1
  have hen : zpm R.L R.G (zcA f view) ys xs = true := by
    rw [zpm, List.all_eq_true] at y3 ⊢
    intro p hp
    have := y3 p hp
    simp only [Bool.and_eq_true] at this ⊢
    exact ⟨this.1, k1.entry this.2⟩
  refine ⟨R, e0, ?_, hm2, hds ▸ hm1, by rw [hm1]; exact hmt, by rw [hm1]; exact hlen, ?_⟩
  · simp only [chkB, hm1, hm2, hm3, hm4, hm5, p1, hmt, k3, hxe, hen, decide_true, Bool.true_and, Bool.and_true, Bool.and_eq_true, decide_eq_true_eq]
    refine ⟨y2.symm, ?_⟩
    rw [List.all_eq_true] at hall ⊢
    exact fun c hh => hG.change (hall c hh)
  · rw [hm1, hm3, hxe, List.all_eq_true]
    rw [zpm, List.all_eq_true] at y3
    intro p hp
    have := y3 p hp
    simp only [Bool.and_eq_true] at this
    exact this.1
theorem zpo {key : Int} : ∀ (xs : List zaI) (L : List (List UInt8)) (G : List zt) (out : List zaI), zkx L → (∀ x ∈ xs, zpn x) → zkx (zaA key xs L G out).L ∧ (zaA key xs L G out).G.length ≤ G.length + xs.length
  | [], L, G, out, h, _ => ⟨h, by simp [zaA]⟩
  | x :: r, L, G, out, h, hx => by
    rw [zaA]
    have h1 := h.ent (hx x (by simp)).ops
    have h2 := entG_len L G key x
    split
    · exact ⟨h1, by simp; omega⟩
    · obtain ⟨a, b⟩ := zpo (key := key) r (zsW L x) (zsX L G key x) (out ++ [entX L key x]) h1 fun y hy => hx y (by simp [hy])
      exact ⟨a, by simp; omega⟩
theorem sealM_keeps {L : List (List UInt8)} {G : List zt} {m : zes} (h : zkx L) : zkx (zhF L G m).L ∧ (zhF L G m).G.length ≤ G.length + 1 := by
  unfold zhF
  by_cases h1 : zcK (zdE m) = 0
  rotate_left
  · rw [if_pos h1]; exact ⟨h, by simp⟩
  rw [if_neg (by simpa using h1)]
  split
  · exact ⟨h.sum (zuU h1), zux ..⟩
  · exact ⟨h.sum (zuU h1), zux ..⟩
theorem make_keeps {L : List (List UInt8)} {G : List zt} {f view : Int} {cs : List zO} (h : zkx L) (hc : ∀ c ∈ cs, zoM c) : zkx (zkC L G f view cs).L ∧ (zkC L G f view cs).G.length ≤ G.length + 9 := by
  unfold zkC
  split
  · exact ⟨h, by simp⟩
  split
  · exact ⟨h, by simp⟩
  obtain ⟨hx8, hxs⟩ := znw (f := f) (view := view) (cs := cs.take (zaB 2 f).toNat) fun c hh => hc c (List.mem_of_mem_take hh)
  obtain ⟨a, b⟩ := zpo (key := zcA f view) _ L G [] h hxs
  split
  · exact ⟨a, by simp only; omega⟩
  · obtain ⟨c, d⟩ := sealM_keeps (L := (zaA (zcA f view) (zga f view (cs.take (zaB 2 f).toNat)).2.1 L G []).L) (G := (zaA (zcA f view) (zga f view (cs.take (zaB 2 f).toNat)).2.1 L G []).G) (m := ziE f view (cs.take (zaB 2 f).toNat) (zaA (zcA f view) (zga f view (cs.take (zaB 2 f).toNat)).2.1 L G []).out) a
    exact ⟨c, by omega⟩
end Go.Proofs.YtpgahkdjkanblaaGreat
