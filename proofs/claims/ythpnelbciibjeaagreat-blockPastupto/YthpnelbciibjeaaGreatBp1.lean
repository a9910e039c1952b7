/- Runs of batches: what their headers say of a table; one past. No program in sight. -/
import Derived.Test.YthpnelbciibjeaaGreatHi1
import Derived.Test.YthpnelbciibjeaaGreatBk3
import Derived.Test.YthpnelbciibjeaaGreatSpUtf
set_option linter.all false
set_option maxRecDepth 100000
set_option linter.unusedSimpArgs false
set_option linter.unusedVariables false
namespace Go.Proofs.YthpnelbciibjeaaGreat
open Go.AW

structure zkz (L : List (List UInt8)) (T : zad) (h : zbZ) (b : List zf) (h' : zbZ) : Prop where
  dig : zeq L (zdb b) h'.batch
  prev : zeq L (zlX h) h'.prev
  root : zen L ((zm T b).1.map zaH) h'.root
  state : zeq L (zbq (zm T b).2) h'.state
  seq : h'.seq = h.seq + 1
theorem zkz.pre {L L' : List (List UInt8)} {T : zad} {h h' : zbZ} {b : List zf} (s : zkz L T h b h') (hp : L <+: L') : zkz L' T h b h' := ⟨s.dig.pre hp, s.prev.pre hp, s.root.pre hp, s.state.pre hp, s.seq⟩
theorem root_one {L l : List (List UInt8)} {d e : Int} (h : zen L l d) (g : zen L l e) : d = e := by
  have h1 := h.rootF
  rw [g.rootF] at h1
  exact (congrArg Prod.fst h1).symm
theorem zkz.one {L : List (List UInt8)} {T : zad} {h a c : zbZ} {b : List zf} (s : zkz L T h b a) (t : zkz L T h b c) : a = c := by
  have h1 := s.dig.one t.dig
  have h2 := s.prev.one t.prev
  have h3 := root_one s.root t.root
  have h4 := s.state.one t.state
  have h5 : a.seq = c.seq := by rw [s.seq, t.seq]
  cases a; cases c
  simp only [zbZ.mk.injEq]
  exact ⟨h5, h2, h1, h3, h4⟩
structure GenAt (L : List (List UInt8)) (g : zbZ) : Prop where
  seq : g.seq = 0
  prev : g.prev = 0
  batch : g.batch = 0
  root : zen L [] g.root
  state : zeq L (zbq zbb) g.state
theorem GenAt.pre {L L' : List (List UInt8)} {g : zbZ} (s : GenAt L g) (hp : L <+: L') : GenAt L' g := ⟨s.seq, s.prev, s.batch, s.root.pre hp, s.state.pre hp⟩
theorem GenAt.one {L : List (List UInt8)} {a c : zbZ} (s : GenAt L a) (t : GenAt L c) : a = c := by
  have h3 := root_one s.root t.root
  have h4 := s.state.one t.state
  have h5 : a.seq = c.seq := by rw [s.seq, t.seq]
  have h6 : a.prev = c.prev := by rw [s.prev, t.prev]
  have h7 : a.batch = c.batch := by rw [s.batch, t.batch]
  cases a; cases c
  simp only [zbZ.mk.injEq]
  exact ⟨h5, h6, h7, h3, h4⟩
theorem gen_ok {L : List (List UInt8)} (hL : L.length + 600 ≤ 1048576) : (zmg L).2.1 = 0 ∧ GenAt (zmg L).2.2 (zmg L).1 ∧ zgl (zmg L).1 = true ∧ L <+: (zmg L).2.2 ∧ (zmg L).2.2.length ≤ L.length + 2 := by
  obtain ⟨r1, r2, r3, _⟩ := root_at 0 (L := L) (l := []) (Nat.le_refl _) (by simp; omega)
  have n1 := r1.num
  simp only [List.length_nil] at r3
  have hs : zex (rootF L []).2 (zbq zbb) ≠ 0 := zjR (by omega)
  have s1 := zdL (rootF L []).2 (zbq zbb)
  have s2 := zgQ (rootF L []).2 (zbq zbb)
  have hg : zmg L = (⟨0, 0, 0, (rootF L []).1, zex (rootF L []).2 (zbq zbb)⟩, 0, zee (rootF L []).2 (zbq zbb)) := by
    unfold zmg
    dsimp only
    rw [if_neg (by rintro (h | h); omega; exact hs h)]
  rw [hg]
  have g5 := zme (L := (rootF L []).2) (b := zbq zbb) (by omega)
  refine ⟨rfl, ⟨rfl, rfl, rfl, r1.pre s1, zlw hs⟩, ?_, r2.trans s1, by dsimp only; omega⟩
  have k0 : zhO 0 = true := rfl
  have k1 : zhO (rootF L []).1 = true := zeG.2 (by omega)
  have k2 : zhO (zex (rootF L []).2 (zbq zbb)) = true := zeG.2 (by omega)
  simp [zgl, zjM, k0, k1, k2]
theorem step_ok {L : List (List UInt8)} {T : zad} {h : zbZ} {b : List zf} (hT : zcD T) (hL : L.length + 600 ≤ 1048576) (hc : zgl h = true) (hs : h.seq < 9007199254740992) (hb : zh b = 0) :
    ExOk L T h b ∧ zkz (zhs L T h b).L T h b (zhs L T h b).h ∧ zgl (zhs L T h b).h = true ∧ L <+: (zhs L T h b).L ∧ (zhs L T h b).L.length ≤ L.length + 520 := by
  have hc0 : zaQ h = 0 := zdt.2 hc
  obtain ⟨d1, d2⟩ := digL_pre L b
  obtain ⟨d3, d4⟩ := hdigL_pre (zdF L b) h
  have n1 : zex L (zdb b) ≠ 0 := zjR (by omega)
  have n2 : zex (zdF L b) (zlX h) ≠ 0 := zjR (by omega)
  have e1 : digE L b = 0 := by rw [digE, if_neg (by simp [hb]), if_neg n1]
  have p2 := znC b T
  have hb4 := zpL e1
  have hn : ((zm T b).1.map zaH).length ≤ 16 := by rw [List.length_map]; have := p2.2; omega
  obtain ⟨r1, r2, r3, _⟩ := root_at ((zm T b).1.map zaH).length (L := zdh (zdF L b) h) (l := (zm T b).1.map zaH) (Nat.le_refl _) (by omega)
  have n3 := r1.num
  have n4 : zex (rootF (zdh (zdF L b) h) ((zm T b).1.map zaH)).2 (zbq (zm T b).2) ≠ 0 := zjR (by omega)
  have hE : ExOk L T h b := ⟨hc0, by omega, e1, by rw [hdigE, if_neg (by simp [hc0]), if_neg n2], by omega, n4⟩
  obtain ⟨h1, h2, h3⟩ := exec_hist (h := h) (b := b) hT hL
  rw [exec_ok hE] at h1 h2 h3
  obtain ⟨h3, h4⟩ := h3 rfl
  refine ⟨hE, ⟨?_, h4.1, h3.root, zlw n4, h4.2⟩, h3.ok, h1, h2⟩
  have e2 : zoI L b = zex L (zdb b) := by rw [zoI, if_neg (by simp [hb])]
  have e3 : zdF L b = zee L (zdb b) := by rw [zdF, if_neg (by simp [hb])]
  show zeq _ (zdb b) (zoI L b)
  rw [e2]
  have := zlw n1
  rw [← e3] at this
  exact this.pre ((d3.trans r2).trans (zdL ..))
def zdk (l : List (List zf)) (i : Nat) : zad := (l.take i).foldl (fun T b => (zm T b).2) zbb
theorem topsAt_succ {l : List (List zf)} {i : Nat} {b : List zf} (h : l[i]? = some b) : zdk l (i + 1) = (zm (zdk l i) b).2 := by
  unfold zdk
  rw [List.take_add_one, h, List.foldl_append]; rfl
structure zhw (L : List (List UInt8)) (l : List (List zf)) (p : List zbZ) : Prop where
  len : p.length = l.length + 1
  gen : ∃ g, p[0]? = some g ∧ GenAt L g
  ok : ∀ h ∈ p, zgl h = true
  step : ∀ i b, l[i]? = some b → ∃ h h', p[i]? = some h ∧ p[i + 1]? = some h' ∧ zkz L (zdk l i) h b h'
theorem zhw.pre {L L' : List (List UInt8)} {l : List (List zf)} {p : List zbZ} (s : zhw L l p) (hp : L <+: L') : zhw L' l p :=
  ⟨s.len, s.gen.imp fun _ h => ⟨h.1, h.2.pre hp⟩, s.ok, fun i b hb => by
    obtain ⟨h, h', h1, h2, h3⟩ := s.step i b hb
    exact ⟨h, h', h1, h2, h3.pre hp⟩⟩
theorem zhw.snoc {L L' : List (List UInt8)} {l : List (List zf)} {p : List zbZ} {b : List zf} {h h' : zbZ} (s : zhw L l p) (hp : L <+: L') (hl : p[l.length]? = some h) (hs : zkz L' (zdk l l.length) h b h') (hok : zgl h' = true) : zhw L' (l ++ [b]) (p ++ [h']) := by
  have hlen := s.len
  refine ⟨by simp [hlen], ?_, fun x hx => ?_, fun i c hc => ?_⟩
  · obtain ⟨g, h1, h2⟩ := s.gen
    exact ⟨g, by rw [List.getElem?_append_left (by omega)]; exact h1, h2.pre hp⟩
  · rcases List.mem_append.1 hx with hx | hx
    · exact s.ok x hx
    · simp only [List.mem_singleton] at hx; subst hx; exact hok
  · have hi : i < l.length + 1 := by have := (List.getElem?_eq_some_iff.1 hc).1; simpa using this
    by_cases hlt : i < l.length
    · rw [List.getElem?_append_left hlt] at hc
      obtain ⟨q, q', h1, h2, h3⟩ := s.step i c hc
      have e : zdk (l ++ [b]) i = zdk l i := by unfold zdk; rw [List.take_append_of_le_length (by omega)]
      refine ⟨q, q', by rw [List.getElem?_append_left (by omega)]; exact h1, by rw [List.getElem?_append_left (by omega)]; exact h2, ?_⟩
      rw [e]; exact h3.pre hp
    · have e1 : i = l.length := by omega
      subst e1
      rw [List.getElem?_append_right (Nat.le_refl _), Nat.sub_self] at hc
      simp only [List.getElem?_cons_zero, Option.some.injEq] at hc
      subst hc
      have e : zdk (l ++ [b]) l.length = zdk l l.length := by unfold zdk; rw [List.take_append_of_le_length (Nat.le_refl _)]
      refine ⟨h, h', by rw [List.getElem?_append_left (by omega)]; exact hl, by rw [List.getElem?_append_right (by omega), hlen, Nat.sub_self]; rfl, ?_⟩
      rw [e]; exact hs
theorem zhw.seq {L : List (List UInt8)} {l : List (List zf)} {p : List zbZ} (s : zhw L l p) : ∀ (i : Nat) (h : zbZ), p[i]? = some h → h.seq = i
  | 0, h, hi => by
    obtain ⟨g, h1, h2⟩ := s.gen
    rw [hi] at h1; cases h1
    exact h2.seq
  | i + 1, h, hi => by
    have hlt := (List.getElem?_eq_some_iff.1 hi).1
    have hlen := s.len
    obtain ⟨q, q', h1, h2, h3⟩ := s.step i l[i] (List.getElem?_eq_getElem (by omega))
    rw [hi] at h2; cases h2
    rw [h3.seq, s.seq i q h1]; omega
theorem zhw.one {L : List (List UInt8)} {l : List (List zf)} {p q : List zbZ} (s : zhw L l p) (t : zhw L l q) : p = q := by
  have hp := s.len; have hq := t.len
  have : ∀ i : Nat, p[i]? = q[i]? := fun i => by
    induction i with
    | zero =>
      obtain ⟨g, h1, h2⟩ := s.gen
      obtain ⟨g', h3, h4⟩ := t.gen
      rw [h1, h3, h2.one h4]
    | succ i ih =>
      by_cases hi : i < l.length
      · obtain ⟨a, a', h1, h2, h3⟩ := s.step i l[i] (List.getElem?_eq_getElem hi)
        obtain ⟨c, c', h4, h5, h6⟩ := t.step i l[i] (List.getElem?_eq_getElem hi)
        rw [h1, h4] at ih
        cases ih
        rw [h2, h5, h3.one h6]
      · rw [List.getElem?_eq_none (by omega), List.getElem?_eq_none (by omega)]
  exact List.ext_getElem? this
theorem zhw.back {L : List (List UInt8)} {l m : List (List zf)} {p q : List zbZ} (s : zhw L l p) (t : zhw L m q) (hl : ∀ b ∈ l, zh b = 0 ∧ ∀ x ∈ b, zfc x.op ≤ 20971520) (hm : ∀ b ∈ m, zh b = 0 ∧ ∀ x ∈ b, zfc x.op ≤ 20971520)
    (he : p[l.length]? = q[m.length]?) : l = m := by
  have hp := s.len; have hq := t.len
  have hpe : p[l.length]? = some p[l.length] := List.getElem?_eq_getElem (by omega)
  have hn : l.length = m.length := by
    have h1 := s.seq _ _ hpe
    have h2 := t.seq _ _ (he.symm.trans hpe)
    omega
  rw [← hn] at he
  have key : ∀ j, j ≤ l.length → p[l.length - j]? = q[l.length - j]? ∧ ∀ i, l.length - j ≤ i → l[i]? = m[i]? := fun j => by
    induction j with
    | zero => exact fun _ => ⟨he, fun i hi => by rw [List.getElem?_eq_none (by omega), List.getElem?_eq_none (by omega)]⟩
    | succ j ih =>
      intro hj
      obtain ⟨i1, i2⟩ := ih (by omega)
      obtain ⟨k, hk⟩ : ∃ k, l.length - (j + 1) = k := ⟨_, rfl⟩
      have hk1 : l.length - j = k + 1 := by omega
      rw [hk]
      rw [hk1] at i1 i2
      obtain ⟨a, a', h1, h2, h3⟩ := s.step k l[k] (List.getElem?_eq_getElem (by omega))
      obtain ⟨c, c', h4, h5, h6⟩ := t.step k m[k] (List.getElem?_eq_getElem (by omega))
      rw [h2, h5] at i1
      cases i1
      have e1 := h3.dig.inj h6.dig
      have e2 := h3.prev.inj h6.prev
      have b1 := hl _ (List.getElem_mem (show k < l.length by omega))
      have b2 := hm _ (List.getElem_mem (show k < m.length by omega))
      have e3 := batchB_inj b1.1 b2.1 b1.2 b2.2 e1
      have e4 := hdrB_inj (s.ok _ (List.mem_of_getElem? h1)) (t.ok _ (List.mem_of_getElem? h4)) e2
      refine ⟨by rw [h1, h4, e4], fun i hi => ?_⟩
      by_cases hik : i = k
      · subst hik
        rw [List.getElem?_eq_getElem (show i < l.length by omega), List.getElem?_eq_getElem (show i < m.length by omega), e3]
      · exact i2 i (by omega)
  exact List.ext_getElem? fun i => (key l.length (Nat.le_refl _)).2 i (by omega)
theorem chainG_of {L : List (List UInt8)} : ∀ {l : List zbZ} {o : Option zbZ}, (∀ h ∈ l, zgl h = true) → (∀ h, l[0]? = some h → linkF L o h = true) → (∀ i h h', l[i]? = some h → l[i + 1]? = some h' → linkF L (some h) h' = true) → znr L o l = true
  | [], _, _, _, _ => rfl
  | x :: r, o, h1, h2, h3 => by
    have ih := chainG_of (L := L) (l := r) (o := some x) (fun h hh => h1 h (List.mem_cons_of_mem _ hh)) (fun h hh => h3 0 x h rfl (by simpa using hh)) (fun i h h' a b => h3 (i + 1) h h' (by simpa using a) (by simpa using b))
    simp only [znr, h1 x (by simp), h2 x rfl, ih, Bool.and_self]
theorem zhw.chain {L : List (List UInt8)} {l : List (List zf)} {p : List zbZ} (s : zhw L l p) : zoJ L p = true := by
  refine chainG_of s.ok (fun _ _ => rfl) fun i h h' a b => ?_
  have hlt := (List.getElem?_eq_some_iff.1 b).1
  have hlen := s.len
  obtain ⟨q, q', h1, h2, h3⟩ := s.step i l[i] (List.getElem?_eq_getElem (by omega))
  rw [a] at h1; cases h1
  rw [b] at h2; cases h2
  obtain ⟨k, hk, hd⟩ := h3.prev
  simp only [linkF, hk, hd, h3.seq, beq_self_eq_true, Bool.and_self]
end Go.Proofs.YthpnelbciibjeaaGreat
