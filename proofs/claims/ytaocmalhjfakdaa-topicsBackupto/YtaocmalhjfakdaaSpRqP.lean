/- Requests, signatures and batches, as they are read. No program in sight. -/
import Derived.Test.YtaocmalhjfakdaaSpUtf
import Derived.Test.YtaocmalhjfakdaaSpMap
import Derived.Test.YtaocmalhjfakdaaSpParse
import Derived.Test.YtaocmalhjfakdaaSs1
set_option linter.all false
set_option linter.unusedSimpArgs false
set_option linter.unusedVariables false
namespace Go.AW

def nilRq : zJ := ⟨0, 0, noOp, 0, 0⟩
def doneE (s : Rd) : Int := if s.e = 0 ∧ 0 < s.b.length then 12 else s.e
def lateE (e : Int) (t : Nat) : Int := if e = 0 ∧ t = 0 then 80 else e
def pickR (f : Int) (x : zJ) : zJ := if f = 0 then x else nilRq
def signZ (c : Bool) (d : Nat × Rd) : Rd := if d.2.e = 0 ∧ d.1 = 0 then d.2.fail c 81 else d.2
def reqP (c : Bool) (b : List UInt8) : zJ × Int :=
  let k := zaZ c 7 ⟨b, 0⟩
  let t := zaZ c 9007199254740992 k.2
  let o := zjb c zbn t.2
  let f := lateE (doneE o.2) t.1
  (pickR f ⟨k.1, t.1, o.1, 0, 0⟩, f)
def signP (c : Bool) (s : Rd) : (Nat × Nat) × Rd :=
  let k := zaZ c 20 s
  let d := zaZ c 9007199254740992 k.2
  let z := signZ c d
  (if z.e = 0 then (k.1, d.1) else (0, 0), z)
def oneP (c : Bool) (s : Rd) : zJ × Rd :=
  let b := zbj c 1024 s
  let x := reqP c b.1
  let g := signP c (b.2.fail c x.2)
  (⟨x.1.client, x.1.time, x.1.op, g.1.1, g.1.2⟩, g.2)
def zhB (c : Bool) : Nat → Rd → List zJ × Rd
  | 0, s => ([], s)
  | k + 1, s => ((zhB c k s).1 ++ [(oneP c (zhB c k s).2).1], (oneP c (zhB c k s).2).2)
def batchP (c : Bool) (s : Rd) : List zJ × Rd :=
  let n := zaZ c 4 s
  let p := zhB c n.1 n.2
  let z := p.2.fail c (zcP p.1)
  (if z.e = 0 then p.1 else [], z)

theorem Rd.like.refl (s : Rd) : s.like s := ⟨rfl, fun _ => rfl⟩
theorem done_like {s t : Rd} (h : s.like t) : doneE s = doneE t := by
  unfold doneE
  obtain ⟨h1, h2⟩ := h
  by_cases h0 : s.e = 0
  · rw [h2 h0, h1]
  · rw [if_neg (fun g => h0 g.1), if_neg (fun g => h0 (h1 ▸ g.1)), h1]
theorem reqP_like (c d : Bool) (b : List UInt8) : reqP c b = reqP d b := by
  obtain ⟨k1, k2⟩ := (Rd.like.refl ⟨b, 0⟩).num (c := c) (d := d) (m := 7)
  obtain ⟨t1, t2⟩ := k2.num (c := c) (d := d) (m := 9007199254740992)
  obtain ⟨o1, o2⟩ := t2.takeOp (c := c) (d := d) (name := zbn)
  have e := done_like o2
  unfold reqP
  simp only
  rw [e, t1, k1, o1]
theorem Rd.like.sign {s t : Rd} {c d : Bool} (h : s.like t) : (signP c s).1 = (signP d t).1 ∧ (signP c s).2.like (signP d t).2 := by
  obtain ⟨k1, k2⟩ := h.num (c := c) (d := d) (m := 20)
  obtain ⟨t1, t2⟩ := k2.num (c := c) (d := d) (m := 9007199254740992)
  have z := t2.fail (c := c) (d := d) (x := 81)
  have hz : (signZ c (zaZ c 9007199254740992 (zaZ c 20 s).2)).like (signZ d (zaZ d 9007199254740992 (zaZ d 20 t).2)) := by
    unfold signZ
    rw [← t1, ← t2.1]
    split
    · exact z
    · exact t2
  unfold signP
  simp only
  rw [← k1, ← t1, ← hz.1]
  exact ⟨rfl, hz⟩
theorem Rd.like.one {s t : Rd} {c d : Bool} (h : s.like t) : (oneP c s).1 = (oneP d t).1 ∧ (oneP c s).2.like (oneP d t).2 := by
  obtain ⟨b1, b2⟩ := h.bytes (c := c) (d := d) (m := 1024)
  have e := reqP_like c d (zbj c 1024 s).1
  have f := b2.fail (c := c) (d := d) (x := (reqP c (zbj c 1024 s).1).2)
  obtain ⟨g1, g2⟩ := f.sign (c := c) (d := d)
  unfold oneP
  simp only
  rw [← b1, ← e, ← g1]
  exact ⟨rfl, g2⟩
theorem Rd.like.items {s t : Rd} {c d : Bool} (h : s.like t) : ∀ k, (zhB c k s).1 = (zhB d k t).1 ∧ (zhB c k s).2.like (zhB d k t).2
  | 0 => ⟨rfl, h⟩
  | k + 1 => by
    obtain ⟨a, b⟩ := Rd.like.items h (c := c) (d := d) k
    obtain ⟨e1, e2⟩ := b.one (c := c) (d := d)
    exact ⟨by simp only [zhB, a, e1], e2⟩
theorem Rd.like.batch {s t : Rd} {c d : Bool} (h : s.like t) : (batchP c s).1 = (batchP d t).1 ∧ (batchP c s).2.like (batchP d t).2 := by
  obtain ⟨n1, n2⟩ := h.num (c := c) (d := d) (m := 4)
  obtain ⟨p1, p2⟩ := n2.items (c := c) (d := d) (zaZ c 4 s).1
  have z := p2.fail (c := c) (d := d) (x := zcP (zhB c (zaZ c 4 s).1 (zaZ c 4 s).2).1)
  unfold batchP
  simp only
  rw [← n1, ← p1, ← z.1]
  exact ⟨rfl, z⟩

/-! a reader that is stuck stays -/
theorem numP_e {c : Bool} {m : Nat} {s : Rd} (h : (zaZ c m s).2.e ≠ 0) : (zaZ c m s).1 = 0 := by
  unfold zaZ at h ⊢
  split
  · rename_i h0
    rw [if_pos h0] at h
    cases hn : zhU m 0 0 s.b with
    | ok x => rw [hn] at h; exact absurd rfl h
    | error x => rfl
  · rfl

/-! there and back -/

theorem zjs {c : Bool} {s : Rd} {x : Int} (hx : x ≠ 0) : (s.fail c x).e ≠ 0 := by
  unfold Rd.fail
  split
  · exact hx
  · rename_i h
    exact fun h2 => h ⟨h2, hx⟩
theorem ziE {above : List UInt8} {s : Rd} (h : (zcj above s).2.e = 0) : zbn (zcj above s).1 = true ∧ ltN above (zcj above s).1 ∧ s.e = 0 ∧ s.b = zlm (zcj above s).1 ++ (zcj above s).2.b ∧ (zcj above s).1.length ≤ 64 := by
  have h1 := zil false 64 s
  unfold zcj at h ⊢
  dsimp only at h ⊢
  split
  · rename_i hc
    rw [if_pos hc] at h
    obtain ⟨g1, g2⟩ := bytesP_ok h
    exact ⟨hc.1, hc.2, g1, g2, h1⟩
  · rename_i hc
    rw [if_neg hc] at h
    exact absurd h (zjs (by decide))
structure GrpOk (next k : Nat) (s : Rd) (g : GSt) : Prop where
  e : s.e = 0
  b : s.b = zbi g.G ++ g.s.b
  len : g.G.length = k
  srt : zcn Prod.fst g.G
  each : ∀ a ∈ g.G, zbn a.1 = true ∧ a.1.length ≤ 64 ∧ 0 ≤ a.2 ∧ a.2 ≤ next
  abv : ∀ a ∈ g.G, a.1 = g.above ∨ ltN a.1 g.above
theorem zlI {α : Type} {f : α → List UInt8} {l : List α} {x : α} (h : zcn f l) (hx : ∀ a ∈ l, ltN (f a) (f x)) : zcn f (l ++ [x]) := by
  rw [zcn, List.map_append, List.pairwise_append]
  refine ⟨h, by simp, fun a ha b hb => ?_⟩
  simp at hb; subst hb
  obtain ⟨c, hc, rfl⟩ := List.mem_map.1 ha
  exact hx c hc
theorem zhZ {next : Nat} {s : Rd} : ∀ {k : Nat}, (ziH next k s).s.e = 0 → GrpOk next k s (ziH next k s)
  | 0, h => ⟨h, rfl, rfl, by simp [zcn, ziH, ziG], by simp [ziH, ziG], by simp [ziH, ziG]⟩
  | k + 1, h => by
    have e1 : ziH next (k + 1) s = zga next (ziH next k s) := rfl
    rw [e1] at h ⊢
    obtain ⟨g, hg⟩ : ∃ g, ziH next k s = g := ⟨_, rfl⟩
    have ih := zhZ (next := next) (s := s) (k := k)
    rw [hg] at h ih ⊢
    unfold zga at h ⊢
    dsimp only at h ⊢
    have hle := zcK false next (zcj g.above g.s).2
    obtain ⟨h1, h2⟩ := zdG h
    obtain ⟨n1, n2, n3, n4, n5⟩ := ziE h1
    have ih := ih n3
    have habv : ∀ a ∈ g.G, ltN a.1 (zcj g.above g.s).1 := fun a ha => by
      rcases ih.abv a ha with e | e
      · rw [e]; exact n2
      · exact zeR e n2
    refine ⟨ih.e, ?_, by simp [ih.len], zlI ih.srt habv, fun a ha => ?_, fun a ha => ?_⟩
    · rw [ih.b, n4, h2]
      simp [zbi, zkU]
    · rcases List.mem_append.1 ha with ha | ha
      · exact ih.each a ha
      · simp at ha; subst ha
        exact ⟨n1, n5, by simp, by simp only; omega⟩
    · rcases List.mem_append.1 ha with ha | ha
      · exact .inr (habv a ha)
      · simp at ha; subst ha; exact .inl rfl
structure TopW (x : zC) : Prop where
  base : 0 ≤ x.base
  next : x.next ≤ 9007199254740992
  recs : x.recs.length ≤ 64
  each : ∀ r ∈ x.recs, r.length ≤ 64
  groups : x.groups.length ≤ 8
  srt : zcn Prod.fst x.groups
  gs : ∀ a ∈ x.groups, zbn a.1 = true ∧ a.1.length ≤ 64 ∧ 0 ≤ a.2 ∧ a.2 ≤ x.next
def zjc (x : zC) : List UInt8 := zci x.base.toNat ++ (zci x.recs.length ++ (zdE x.recs ++ (zci x.groups.length ++ zbi x.groups)))
theorem zlJ {c : Bool} {s : Rd} : ∀ {k : Nat}, ∀ r ∈ (zcJ c k s).1, r.length ≤ 64
  | 0, r, h => by simp [zcJ] at h
  | k + 1, r, h => by
    simp only [zcJ] at h
    rcases List.mem_append.1 h with h | h
    · exact zlJ r h
    · simp at h; subst h; exact zil _ _ _
theorem topicP_ok {name : List UInt8} {s : Rd} (h : (zel name s).2.e = 0) : s.e = 0 ∧ s.b = zjc (zel name s).1 ++ (zel name s).2.b ∧ TopW (zel name s).1 ∧ (zel name s).1.name = name := by
  unfold zel at h ⊢
  dsimp only at h ⊢
  obtain ⟨b, hb⟩ : ∃ b, zaZ false 9007199254740992 s = b := ⟨_, rfl⟩
  have hb0 := zdG (c := false) (m := 9007199254740992) (s := s)
  have hbl := zcK false 9007199254740992 s
  rw [hb] at h hb0 hbl ⊢
  obtain ⟨n, hn⟩ : ∃ n, zaZ false 64 b.2 = n := ⟨_, rfl⟩
  have hn0 := zdG (c := false) (m := 64) (s := b.2)
  have hnl := zcK false 64 b.2
  rw [hn] at h hn0 hnl ⊢
  have hr0 := recsP_ok (c := false) (k := n.1) (s := n.2)
  have hrl := zkB false n.2 n.1
  have hre := zlJ (c := false) (k := n.1) (s := n.2)
  obtain ⟨r, hr⟩ : ∃ r, zcJ false n.1 n.2 = r := ⟨_, rfl⟩
  rw [hr] at h hr0 hrl hre ⊢
  by_cases hx : b.1 + r.1.length > 9007199254740992
  · rw [if_pos hx] at h
    have h1 := (zhZ h).e
    have h2 := (zdG h1).1
    exact absurd h2 (zjs (by decide))
  · rw [if_neg hx] at h ⊢
    have hG := zhZ h
    obtain ⟨h2, h3⟩ := zdG hG.e
    have hgl := zcK false 8 r.2
    obtain ⟨g, hg⟩ : ∃ g, zaZ false 8 r.2 = g := ⟨_, rfl⟩
    rw [hg] at h hG h3 hgl ⊢
    obtain ⟨r1, r2⟩ := hr0 h2
    obtain ⟨n1, n2⟩ := hn0 r1
    obtain ⟨b1, b2⟩ := hb0 n1
    refine ⟨b1, ?_, ⟨by simp, by simp only [zC.next]; omega, by simp only; omega, hre, by simp only [hG.len]; exact hgl, hG.srt, fun a ha => ?_⟩, rfl⟩
    · rw [b2, n2, r2, h3, hG.b]
      simp only [zjc, Int.toNat_natCast, hG.len, ← hrl, List.append_assoc]
    · obtain ⟨g1, g2, g3, g4⟩ := hG.each a ha
      exact ⟨g1, g2, g3, by simp only [zC.next]; omega⟩
structure AnsW (a : Int × Int × Int) : Prop where
  t : 0 ≤ a.1 ∧ a.1 ≤ 9007199254740992
  e : 0 ≤ a.2.1 ∧ zcI a.2.1.toNat = true
  o : 0 ≤ a.2.2 ∧ a.2.2 ≤ 9007199254740992
  z : a.2.1 = 0 ∨ a.2.2 = 0
  n : a.1 = 0 → a.2.1 = 0 ∧ a.2.2 = 0
theorem lastP_ok {s : Rd} (h : (zaF s).2.e = 0) : s.e = 0 ∧ s.b = zls (zaF s).1 ++ (zaF s).2.b ∧ AnsW (zaF s).1 := by
  unfold zaF at h ⊢
  dsimp only at h ⊢
  obtain ⟨t, ht⟩ : ∃ t, zaZ false 9007199254740992 s = t := ⟨_, rfl⟩
  have t0 := zdG (c := false) (m := 9007199254740992) (s := s)
  have tl := zcK false 9007199254740992 s
  rw [ht] at h t0 tl ⊢
  obtain ⟨e, he⟩ : ∃ e, zaZ false 65536 t.2 = e := ⟨_, rfl⟩
  have e0 := zdG (c := false) (m := 65536) (s := t.2)
  rw [he] at h e0 ⊢
  obtain ⟨o, ho⟩ : ∃ o, zaZ false 9007199254740992 e.2 = o := ⟨_, rfl⟩
  have o0 := zdG (c := false) (m := 9007199254740992) (s := e.2)
  have ol := zcK false 9007199254740992 e.2
  rw [ho] at h o0 ol ⊢
  by_cases h1 : zcI e.1 = true ∧ (e.1 = 0 ∨ o.1 = 0)
  · rw [if_pos h1] at h ⊢
    by_cases h2 : t.1 = 0 ∧ ¬ (e.1 = 0 ∧ o.1 = 0)
    · rw [if_pos h2] at h
      exact absurd h (zjs (by decide))
    · rw [if_neg h2] at h ⊢
      obtain ⟨p1, p2⟩ := o0 h
      obtain ⟨q1, q2⟩ := e0 p1
      obtain ⟨r1, r2⟩ := t0 q1
      refine ⟨r1, ?_, ⟨by omega, by simp only; omega⟩, ⟨by simp, by simpa using h1.1⟩, ⟨by simp, by simp only; omega⟩, ?_, fun h => ?_⟩
      · rw [r2, q2, p2]; simp [zls]
      · simp only; omega
      · simp only at h ⊢
        omega
  · rw [if_neg h1] at h
    split at h
    · exact absurd h (zjs (by decide))
    · exact absurd h (zjs (by decide))
structure TopOk (k : Nat) (s : Rd) (g : TSt) : Prop where
  e : s.e = 0
  b : s.b = zco g.X ++ g.s.b
  len : g.X.length = k
  srt : zcn zC.name g.X
  each : ∀ x ∈ g.X, zbn x.name = true ∧ x.name.length ≤ 64 ∧ TopW x
  abv : ∀ x ∈ g.X, x.name = g.above ∨ ltN x.name g.above
theorem topB_rest (x : zC) : topB x = zlm x.name ++ zjc x := rfl
theorem topN_ok {s : Rd} : ∀ {k : Nat}, (zlD k s).s.e = 0 → TopOk k s (zlD k s)
  | 0, h => ⟨h, rfl, rfl, by simp [zcn, zlD, ziG], by simp [zlD, ziG], by simp [zlD, ziG]⟩
  | k + 1, h => by
    have e1 : zlD (k + 1) s = zhR (zlD k s) := rfl
    rw [e1] at h ⊢
    obtain ⟨g, hg⟩ : ∃ g, zlD k s = g := ⟨_, rfl⟩
    have ih := topN_ok (s := s) (k := k)
    rw [hg] at h ih ⊢
    unfold zhR at h ⊢
    dsimp only at h ⊢
    obtain ⟨h1, h2, h3, h4⟩ := topicP_ok h
    obtain ⟨n1, n2, n3, n4, n5⟩ := ziE h1
    have ih := ih n3
    have habv : ∀ a ∈ g.X, ltN a.name (zcj g.above g.s).1 := fun a ha => by
      rcases ih.abv a ha with e | e
      · rw [e]; exact n2
      · exact zeR e n2
    refine ⟨ih.e, ?_, by simp [ih.len], zlI ih.srt fun a ha => by rw [h4]; exact habv a ha, fun a ha => ?_, fun a ha => ?_⟩
    · rw [ih.b, n4, h2]
      simp [zco, topB_rest, h4]
    · rcases List.mem_append.1 ha with ha | ha
      · exact ih.each a ha
      · simp at ha; subst ha
        rw [h4]
        exact ⟨n1, n5, h3⟩
    · rcases List.mem_append.1 ha with ha | ha
      · exact .inr (habv a ha)
      · simp at ha; subst ha; exact .inl h4
structure LstOk (k : Nat) (s : Rd) (g : LSt) : Prop where
  e : s.e = 0
  b : s.b = zbH g.l ++ g.s.b
  len : g.l.length = k
  each : ∀ a ∈ g.l, AnsW a
theorem lastN_ok {s : Rd} : ∀ {k : Nat}, (zfJ k s).s.e = 0 → LstOk k s (zfJ k s)
  | 0, h => ⟨h, rfl, rfl, by simp [zfJ, ziG]⟩
  | k + 1, h => by
    have e1 : zfJ (k + 1) s = zeC (zfJ k s) := rfl
    rw [e1] at h ⊢
    obtain ⟨g, hg⟩ : ∃ g, zfJ k s = g := ⟨_, rfl⟩
    have ih := lastN_ok (s := s) (k := k)
    rw [hg] at h ih ⊢
    unfold zeC at h ⊢
    dsimp only at h ⊢
    obtain ⟨h1, h2, h3⟩ := lastP_ok h
    have ih := ih h1
    refine ⟨ih.e, ?_, by simp [ih.len], fun a ha => ?_⟩
    · rw [ih.b, h2]; simp [zbH]
    · rcases List.mem_append.1 ha with ha | ha
      · exact ih.each a ha
      · simp at ha; subst ha; exact h3
theorem lastN_len (s : Rd) : ∀ k, (zfJ k s).l.length = k
  | 0 => rfl
  | k + 1 => by
    have e1 : zfJ (k + 1) s = zeC (zfJ k s) := rfl
    rw [e1, zeC]; simp [lastN_len s k]
structure TopsW (T : zO) : Prop where
  len : T.l.length ≤ 8
  srt : zcn zC.name T.l
  each : ∀ x ∈ T.l, zbn x.name = true ∧ x.name.length ≤ 64 ∧ TopW x
  last : T.last.length = 8
  ans : ∀ a ∈ T.last, AnsW a
theorem parsF_ok {b : List UInt8} (h : (zhT b).s.e = 0) : TopsW (parsF b) ∧ b = zeO (parsF b) ++ (zhT b).s.b := by
  have h1 : LstOk 8 (zgv b).s (zhT b) := lastN_ok h
  have h2 : TopOk _ _ (zgv b) := topN_ok h1.e
  obtain ⟨h3, h4⟩ := zdG h2.e
  have h5 := zcK false 8 ⟨b, 0⟩
  refine ⟨⟨by show (zgv b).X.length ≤ 8; rw [h2.len]; exact h5, h2.srt, h2.each, h1.len, h1.each⟩, ?_⟩
  have h6 : b = zci (zaZ false 8 ⟨b, 0⟩).1 ++ (zaZ false 8 ⟨b, 0⟩).2.b := h4
  rw [h2.b, h1.b] at h6
  show b = zci (zgv b).X.length ++ (zco (zgv b).X ++ zbH (zhT b).l) ++ _
  rw [h2.len, List.append_assoc, List.append_assoc]
  exact h6
end Go.AW
