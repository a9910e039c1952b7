/- Requests, signatures and batches, as they are read. No program in sight. -/
import Derived.Test.YtaocmalhjfakdaaGreatSpNum
import Derived.Test.YtaocmalhjfakdaaGreatSpParse
set_option linter.all false
set_option linter.unusedSimpArgs false
set_option linter.unusedVariables false
namespace Go.AW

def nilRq : zag := ⟨0, 0, noOp, 0, 0⟩
def doneE (s : Rd) : Int := if s.e = 0 ∧ 0 < s.b.length then 12 else s.e
def lateE (e : Int) (t : Nat) : Int := if e = 0 ∧ t = 0 then 80 else e
def pickR (f : Int) (x : zag) : zag := if f = 0 then x else nilRq
def signZ (c : Bool) (d : Nat × Rd) : Rd := if d.2.e = 0 ∧ d.1 = 0 then d.2.fail c 81 else d.2
def reqP (c : Bool) (b : List UInt8) : zag × Int :=
  let k := zax c 7 ⟨b, 0⟩
  let t := zax c 9007199254740992 k.2
  let o := zll c zaZ t.2
  let f := lateE (doneE o.2) t.1
  (pickR f ⟨k.1, t.1, o.1, 0, 0⟩, f)
def signP (c : Bool) (s : Rd) : (Nat × Nat) × Rd :=
  let k := zax c 20 s
  let d := zax c 9007199254740992 k.2
  let z := signZ c d
  (if z.e = 0 then (k.1, d.1) else (0, 0), z)
def oneP (c : Bool) (s : Rd) : zag × Rd :=
  let b := zaJ c 1024 s
  let x := reqP c b.1
  let g := signP c (b.2.fail c x.2)
  (⟨x.1.client, x.1.time, x.1.op, g.1.1, g.1.2⟩, g.2)
def zjx (c : Bool) : Nat → Rd → List zag × Rd
  | 0, s => ([], s)
  | k + 1, s => ((zjx c k s).1 ++ [(oneP c (zjx c k s).2).1], (oneP c (zjx c k s).2).2)
def batchP (c : Bool) (s : Rd) : List zag × Rd :=
  let n := zax c 4 s
  let p := zjx c n.1 n.2
  let z := p.2.fail c (zdT p.1)
  (if z.e = 0 then p.1 else [], z)

theorem Rd.like.refl (s : Rd) : s.like s := ⟨rfl, fun _ => rfl⟩
theorem done_like {s t : Rd} (h : s.like t) : doneE s = doneE t := by
  unfold doneE
  obtain ⟨h1, h2⟩ := h
  by_cases h0 : s.e = 0
  · rw [h2 h0, h1]
  · rw [if_neg (fun g => h0 g.1), if_neg (fun g => h0 (h1 ▸ g.1)), h1]
theorem reqP_like (c d : Bool) (b : List UInt8) : reqP c b = reqP d b := by
  obtain ⟨k1, k2⟩ := (Rd.like.refl ⟨b, 0⟩).num (c := c) (d := d) (m := 7)
  obtain ⟨t1, t2⟩ := k2.num (c := c) (d := d) (m := 9007199254740992)
  obtain ⟨o1, o2⟩ := t2.takeOp (c := c) (d := d) (name := zaZ)
  have e := done_like o2
  unfold reqP
  simp only
  rw [e, t1, k1, o1]
theorem Rd.like.sign {s t : Rd} {c d : Bool} (h : s.like t) : (signP c s).1 = (signP d t).1 ∧ (signP c s).2.like (signP d t).2 := by
  obtain ⟨k1, k2⟩ := h.num (c := c) (d := d) (m := 20)
  obtain ⟨t1, t2⟩ := k2.num (c := c) (d := d) (m := 9007199254740992)
  have z := t2.fail (c := c) (d := d) (x := 81)
  have hz : (signZ c (zax c 9007199254740992 (zax c 20 s).2)).like (signZ d (zax d 9007199254740992 (zax d 20 t).2)) := by
    unfold signZ
    rw [← t1, ← t2.1]
    split
    · exact z
    · exact t2
  unfold signP
  simp only
  rw [← k1, ← t1, ← hz.1]
  exact ⟨rfl, hz⟩
theorem Rd.like.one {s t : Rd} {c d : Bool} (h : s.like t) : (oneP c s).1 = (oneP d t).1 ∧ (oneP c s).2.like (oneP d t).2 := by
  obtain ⟨b1, b2⟩ := h.bytes (c := c) (d := d) (m := 1024)
  have e := reqP_like c d (zaJ c 1024 s).1
  have f := b2.fail (c := c) (d := d) (x := (reqP c (zaJ c 1024 s).1).2)
  obtain ⟨g1, g2⟩ := f.sign (c := c) (d := d)
  unfold oneP
  simp only
  rw [← b1, ← e, ← g1]
  exact ⟨rfl, g2⟩
theorem Rd.like.items {s t : Rd} {c d : Bool} (h : s.like t) : ∀ k, (zjx c k s).1 = (zjx d k t).1 ∧ (zjx c k s).2.like (zjx d k t).2
  | 0 => ⟨rfl, h⟩
  | k + 1 => by
    obtain ⟨a, b⟩ := Rd.like.items h (c := c) (d := d) k
    obtain ⟨e1, e2⟩ := b.one (c := c) (d := d)
    exact ⟨by simp only [zjx, a, e1], e2⟩
theorem Rd.like.batch {s t : Rd} {c d : Bool} (h : s.like t) : (batchP c s).1 = (batchP d t).1 ∧ (batchP c s).2.like (batchP d t).2 := by
  obtain ⟨n1, n2⟩ := h.num (c := c) (d := d) (m := 4)
  obtain ⟨p1, p2⟩ := n2.items (c := c) (d := d) (zax c 4 s).1
  have z := p2.fail (c := c) (d := d) (x := zdT (zjx c (zax c 4 s).1 (zax c 4 s).2).1)
  unfold batchP
  simp only
  rw [← n1, ← p1, ← z.1]
  exact ⟨rfl, z⟩

/-! a reader that is stuck zkr -/
theorem numP_e {c : Bool} {m : Nat} {s : Rd} (h : (zax c m s).2.e ≠ 0) : (zax c m s).1 = 0 := by
  unfold zax at h ⊢
  split
  · rename_i h0
    rw [if_pos h0] at h
    cases hn : zhS m 0 0 s.b with
    | ok x => rw [hn] at h; exact absurd rfl h
    | error x => rfl
  · rfl

/-! there and back -/

theorem zlB {c : Bool} {s : Rd} {x : Int} (hx : x ≠ 0) : (s.fail c x).e ≠ 0 := by
  unfold Rd.fail
  split
  · exact hx
  · rename_i h
    exact fun h2 => h ⟨h2, hx⟩
theorem zkF {above : List UInt8} {s : Rd} (h : (zdr above s).2.e = 0) : zaZ (zdr above s).1 = true ∧ ltN above (zdr above s).1 ∧ s.e = 0 ∧ s.b = zjI (zdr above s).1 ++ (zdr above s).2.b ∧ (zdr above s).1.length ≤ 64 := by
  have h1 := zeY false 64 s
  unfold zdr at h ⊢
  dsimp only at h ⊢
  split
  · rename_i hc
    rw [if_pos hc] at h
    obtain ⟨g1, g2⟩ := ziJ h
    exact ⟨hc.1, hc.2, g1, g2, h1⟩
  · rename_i hc
    rw [if_neg hc] at h
    exact absurd h (zlB (by decide))
structure GrpOk (next k : Nat) (s : Rd) (g : GSt) : Prop where
  e : s.e = 0
  b : s.b = zaz g.G ++ g.s.b
  len : g.G.length = k
  srt : zcV Prod.fst g.G
  each : ∀ a ∈ g.G, zaZ a.1 = true ∧ a.1.length ≤ 64 ∧ 0 ≤ a.2 ∧ a.2 ≤ next
  abv : ∀ a ∈ g.G, a.1 = g.above ∨ ltN a.1 g.above
theorem zjb {α : Type} {f : α → List UInt8} {l : List α} {x : α} (h : zcV f l) (hx : ∀ a ∈ l, ltN (f a) (f x)) : zcV f (l ++ [x]) := by
  rw [zcV, List.map_append, List.pairwise_append]
  refine ⟨h, by simp, fun a ha b hb => ?_⟩
  simp at hb; subst hb
  obtain ⟨c, hc, rfl⟩ := List.mem_map.1 ha
  exact hx c hc
theorem zjU {next : Nat} {s : Rd} : ∀ {k : Nat}, (zkH next k s).s.e = 0 → GrpOk next k s (zkH next k s)
  | 0, h => ⟨h, rfl, rfl, by simp [zcV, zkH, zdu], by simp [zkH, zdu], by simp [zkH, zdu]⟩
  | k + 1, h => by
    have e1 : zkH next (k + 1) s = zhJ next (zkH next k s) := rfl
    rw [e1] at h ⊢
    obtain ⟨g, hg⟩ : ∃ g, zkH next k s = g := ⟨_, rfl⟩
    have ih := zjU (next := next) (s := s) (k := k)
    rw [hg] at h ih ⊢
    unfold zhJ at h ⊢
    dsimp only at h ⊢
    have hle := zaX false next (zdr g.above g.s).2
    obtain ⟨h1, h2⟩ := zci h
    obtain ⟨n1, n2, n3, n4, n5⟩ := zkF h1
    have ih := ih n3
    have habv : ∀ a ∈ g.G, ltN a.1 (zdr g.above g.s).1 := fun a ha => by
      rcases ih.abv a ha with e | e
      · rw [e]; exact n2
      · exact zen e n2
    refine ⟨ih.e, ?_, by simp [ih.len], zjb ih.srt habv, fun a ha => ?_, fun a ha => ?_⟩
    · rw [ih.b, n4, h2]
      simp [zaz, ziB]
    · rcases List.mem_append.1 ha with ha | ha
      · exact ih.each a ha
      · simp at ha; subst ha
        exact ⟨n1, n5, by simp, by simp only; omega⟩
    · rcases List.mem_append.1 ha with ha | ha
      · exact .inr (habv a ha)
      · simp at ha; subst ha; exact .inl rfl
structure TopW (x : zu) : Prop where
  base : 0 ≤ x.base
  next : x.next ≤ 9007199254740992
  recs : x.recs.length ≤ 64
  each : ∀ r ∈ x.recs, r.length ≤ 64
  groups : x.groups.length ≤ 8
  srt : zcV Prod.fst x.groups
  gs : ∀ a ∈ x.groups, zaZ a.1 = true ∧ a.1.length ≤ 64 ∧ 0 ≤ a.2 ∧ a.2 ≤ x.next
def zhE (x : zu) : List UInt8 := zbQ x.base.toNat ++ (zbQ x.recs.length ++ (zcg x.recs ++ (zbQ x.groups.length ++ zaz x.groups)))
theorem zod {c : Bool} {s : Rd} : ∀ {k : Nat}, ∀ r ∈ (zdN c k s).1, r.length ≤ 64
  | 0, r, h => by simp [zdN] at h
  | k + 1, r, h => by
    simp only [zdN] at h
    rcases List.mem_append.1 h with h | h
    · exact zod r h
    · simp at h; subst h; exact zeY _ _ _
theorem topicP_ok {name : List UInt8} {s : Rd} (h : (zfs name s).2.e = 0) : s.e = 0 ∧ s.b = zhE (zfs name s).1 ++ (zfs name s).2.b ∧ TopW (zfs name s).1 ∧ (zfs name s).1.name = name := by
  unfold zfs at h ⊢
  dsimp only at h ⊢
  obtain ⟨b, hb⟩ : ∃ b, zax false 9007199254740992 s = b := ⟨_, rfl⟩
  have hb0 := zci (c := false) (m := 9007199254740992) (s := s)
  have hbl := zaX false 9007199254740992 s
  rw [hb] at h hb0 hbl ⊢
  obtain ⟨n, hn⟩ : ∃ n, zax false 64 b.2 = n := ⟨_, rfl⟩
  have hn0 := zci (c := false) (m := 64) (s := b.2)
  have hnl := zaX false 64 b.2
  rw [hn] at h hn0 hnl ⊢
  have hr0 := recsP_ok (c := false) (k := n.1) (s := n.2)
  have hrl := zmU false n.2 n.1
  have hre := zod (c := false) (k := n.1) (s := n.2)
  obtain ⟨r, hr⟩ : ∃ r, zdN false n.1 n.2 = r := ⟨_, rfl⟩
  rw [hr] at h hr0 hrl hre ⊢
  by_cases hx : b.1 + r.1.length > 9007199254740992
  · rw [if_pos hx] at h
    have h1 := (zjU h).e
    have h2 := (zci h1).1
    exact absurd h2 (zlB (by decide))
  · rw [if_neg hx] at h ⊢
    have hG := zjU h
    obtain ⟨h2, h3⟩ := zci hG.e
    have hgl := zaX false 8 r.2
    obtain ⟨g, hg⟩ : ∃ g, zax false 8 r.2 = g := ⟨_, rfl⟩
    rw [hg] at h hG h3 hgl ⊢
    obtain ⟨r1, r2⟩ := hr0 h2
    obtain ⟨n1, n2⟩ := hn0 r1
    obtain ⟨b1, b2⟩ := hb0 n1
    refine ⟨b1, ?_, ⟨by simp, by simp only [zu.next]; omega, by simp only; omega, hre, by simp only [hG.len]; exact hgl, hG.srt, fun a ha => ?_⟩, rfl⟩
    · rw [b2, n2, r2, h3, hG.b]
      simp only [zhE, Int.toNat_natCast, hG.len, ← hrl, List.append_assoc]
    · obtain ⟨g1, g2, g3, g4⟩ := hG.each a ha
      exact ⟨g1, g2, g3, by simp only [zu.next]; omega⟩
structure AnsW (a : Int × Int × Int) : Prop where
  t : 0 ≤ a.1 ∧ a.1 ≤ 9007199254740992
  e : 0 ≤ a.2.1 ∧ zdb a.2.1.toNat = true
  o : 0 ≤ a.2.2 ∧ a.2.2 ≤ 9007199254740992
  z : a.2.1 = 0 ∨ a.2.2 = 0
  n : a.1 = 0 → a.2.1 = 0 ∧ a.2.2 = 0
theorem lastP_ok {s : Rd} (h : (zbh s).2.e = 0) : s.e = 0 ∧ s.b = ziA (zbh s).1 ++ (zbh s).2.b ∧ AnsW (zbh s).1 := by
  unfold zbh at h ⊢
  dsimp only at h ⊢
  obtain ⟨t, ht⟩ : ∃ t, zax false 9007199254740992 s = t := ⟨_, rfl⟩
  have t0 := zci (c := false) (m := 9007199254740992) (s := s)
  have tl := zaX false 9007199254740992 s
  rw [ht] at h t0 tl ⊢
  obtain ⟨e, he⟩ : ∃ e, zax false 65536 t.2 = e := ⟨_, rfl⟩
  have e0 := zci (c := false) (m := 65536) (s := t.2)
  rw [he] at h e0 ⊢
  obtain ⟨o, ho⟩ : ∃ o, zax false 9007199254740992 e.2 = o := ⟨_, rfl⟩
  have o0 := zci (c := false) (m := 9007199254740992) (s := e.2)
  have ol := zaX false 9007199254740992 e.2
  rw [ho] at h o0 ol ⊢
  by_cases h1 : zdb e.1 = true ∧ (e.1 = 0 ∨ o.1 = 0)
  · rw [if_pos h1] at h ⊢
    by_cases h2 : t.1 = 0 ∧ ¬ (e.1 = 0 ∧ o.1 = 0)
    · rw [if_pos h2] at h
      exact absurd h (zlB (by decide))
    · rw [if_neg h2] at h ⊢
      obtain ⟨p1, p2⟩ := o0 h
      obtain ⟨q1, q2⟩ := e0 p1
      obtain ⟨r1, r2⟩ := t0 q1
      refine ⟨r1, ?_, ⟨by omega, by simp only; omega⟩, ⟨by simp, by simpa using h1.1⟩, ⟨by simp, by simp only; omega⟩, ?_, fun h => ?_⟩
      · rw [r2, q2, p2]; simp [ziA]
      · simp only; omega
      · simp only at h ⊢
        omega
  · rw [if_neg h1] at h
    split at h
    · exact absurd h (zlB (by decide))
    · exact absurd h (zlB (by decide))
structure TopOk (k : Nat) (s : Rd) (g : TSt) : Prop where
  e : s.e = 0
  b : s.b = zaR g.X ++ g.s.b
  len : g.X.length = k
  srt : zcV zu.name g.X
  each : ∀ x ∈ g.X, zaZ x.name = true ∧ x.name.length ≤ 64 ∧ TopW x
  abv : ∀ x ∈ g.X, x.name = g.above ∨ ltN x.name g.above
theorem zkp (x : zu) : topB x = zjI x.name ++ zhE x := rfl
theorem topN_ok {s : Rd} : ∀ {k : Nat}, (znY k s).s.e = 0 → TopOk k s (znY k s)
  | 0, h => ⟨h, rfl, rfl, by simp [zcV, znY, zdu], by simp [znY, zdu], by simp [znY, zdu]⟩
  | k + 1, h => by
    have e1 : znY (k + 1) s = zjG (znY k s) := rfl
    rw [e1] at h ⊢
    obtain ⟨g, hg⟩ : ∃ g, znY k s = g := ⟨_, rfl⟩
    have ih := topN_ok (s := s) (k := k)
    rw [hg] at h ih ⊢
    unfold zjG at h ⊢
    dsimp only at h ⊢
    obtain ⟨h1, h2, h3, h4⟩ := topicP_ok h
    obtain ⟨n1, n2, n3, n4, n5⟩ := zkF h1
    have ih := ih n3
    have habv : ∀ a ∈ g.X, ltN a.name (zdr g.above g.s).1 := fun a ha => by
      rcases ih.abv a ha with e | e
      · rw [e]; exact n2
      · exact zen e n2
    refine ⟨ih.e, ?_, by simp [ih.len], zjb ih.srt fun a ha => by rw [h4]; exact habv a ha, fun a ha => ?_, fun a ha => ?_⟩
    · rw [ih.b, n4, h2]
      simp [zaR, zkp, h4]
    · rcases List.mem_append.1 ha with ha | ha
      · exact ih.each a ha
      · simp at ha; subst ha
        rw [h4]
        exact ⟨n1, n5, h3⟩
    · rcases List.mem_append.1 ha with ha | ha
      · exact .inr (habv a ha)
      · simp at ha; subst ha; exact .inl h4
structure LstOk (k : Nat) (s : Rd) (g : LSt) : Prop where
  e : s.e = 0
  b : s.b = zaP g.l ++ g.s.b
  len : g.l.length = k
  each : ∀ a ∈ g.l, AnsW a
theorem lastN_ok {s : Rd} : ∀ {k : Nat}, (zha k s).s.e = 0 → LstOk k s (zha k s)
  | 0, h => ⟨h, rfl, rfl, by simp [zha, zdu]⟩
  | k + 1, h => by
    have e1 : zha (k + 1) s = zfN (zha k s) := rfl
    rw [e1] at h ⊢
    obtain ⟨g, hg⟩ : ∃ g, zha k s = g := ⟨_, rfl⟩
    have ih := lastN_ok (s := s) (k := k)
    rw [hg] at h ih ⊢
    unfold zfN at h ⊢
    dsimp only at h ⊢
    obtain ⟨h1, h2, h3⟩ := lastP_ok h
    have ih := ih h1
    refine ⟨ih.e, ?_, by simp [ih.len], fun a ha => ?_⟩
    · rw [ih.b, h2]; simp [zaP]
    · rcases List.mem_append.1 ha with ha | ha
      · exact ih.each a ha
      · simp at ha; subst ha; exact h3
theorem lastN_len (s : Rd) : ∀ k, (zha k s).l.length = k
  | 0 => rfl
  | k + 1 => by
    have e1 : zha (k + 1) s = zfN (zha k s) := rfl
    rw [e1, zfN]; simp [lastN_len s k]
structure TopsW (T : zak) : Prop where
  len : T.l.length ≤ 8
  srt : zcV zu.name T.l
  each : ∀ x ∈ T.l, zaZ x.name = true ∧ x.name.length ≤ 64 ∧ TopW x
  last : T.last.length = 8
  ans : ∀ a ∈ T.last, AnsW a
theorem parsF_ok {b : List UInt8} (h : (ziq b).s.e = 0) : TopsW (zoV b) ∧ b = zic (zoV b) ++ (ziq b).s.b := by
  have h1 : LstOk 8 (zie b).s (ziq b) := lastN_ok h
  have h2 : TopOk _ _ (zie b) := topN_ok h1.e
  obtain ⟨h3, h4⟩ := zci h2.e
  have h5 := zaX false 8 ⟨b, 0⟩
  refine ⟨⟨by show (zie b).X.length ≤ 8; rw [h2.len]; exact h5, h2.srt, h2.each, h1.len, h1.each⟩, ?_⟩
  have h6 : b = zbQ (zax false 8 ⟨b, 0⟩).1 ++ (zax false 8 ⟨b, 0⟩).2.b := h4
  rw [h2.b, h1.b] at h6
  show b = zbQ (zie b).X.length ++ (zaR (zie b).X ++ zaP (ziq b).l) ++ _
  rw [h2.len, List.append_assoc, List.append_assoc]
  exact h6


theorem nameP_put {above n : List UInt8} (h1 : zaZ n = true) (h2 : ltN above n) (h3 : n.length ≤ 64) (r : List UInt8) : zdr above ⟨zjI n ++ r, 0⟩ = (n, ⟨r, 0⟩) := by
  unfold zdr
  rw [zhi false h3 (by omega)]
  dsimp only
  rw [if_pos ⟨h1, h2⟩]
theorem ltN_nil {n : List UInt8} (h : zaZ n = true) : ltN [] n := by
  cases n with
  | nil => exact absurd h (by decide)
  | cons a r => rfl
def abvK {α : Type} (f : α → List UInt8) (l : List α) (k : Nat) : List UInt8 := match (l.take k).getLast? with
  | some x => f x
  | none => []
theorem ziM {α : Type} {f : α → List UInt8} {l : List α} {k : Nat} {x : α} (hx : l[k]? = some x) : abvK f l (k + 1) = f x := by
  unfold abvK
  rw [List.take_add_one, hx]
  simp
theorem zpx {α : Type} {f : α → List UInt8} {l : List α} (hs : zcV f l) {k : Nat} {x : α} (hx : l[k]? = some x) (hn : zaZ (f x) = true) : ltN (abvK f l k) (f x) := by
  cases k with
  | zero => exact ltN_nil hn
  | succ k =>
    have hl := (List.getElem?_eq_some_iff.1 hx).1
    obtain ⟨y, hy⟩ : ∃ y, l[k]? = some y := ⟨_, List.getElem?_eq_getElem (by omega)⟩
    rw [ziM hy]
    have h1 : (l.map f)[k]? = some (f y) := by rw [List.getElem?_map, hy]; rfl
    have h2 : (l.map f)[k + 1]? = some (f x) := by rw [List.getElem?_map, hx]; rfl
    obtain ⟨g1, g2⟩ := List.getElem?_eq_some_iff.1 h1
    obtain ⟨g3, g4⟩ := List.getElem?_eq_some_iff.1 h2
    have := List.pairwise_iff_getElem.1 hs k (k + 1) g1 g3 (by omega)
    rw [g2, g4] at this
    exact this
theorem grpN_put {next : Nat} {G : List (List UInt8 × Int)} (hn : next < 18446744073709551616) (hs : zcV Prod.fst G) (hg : ∀ a ∈ G, zaZ a.1 = true ∧ a.1.length ≤ 64 ∧ 0 ≤ a.2 ∧ a.2 ≤ next) (r : List UInt8) : ∀ k, k ≤ G.length → zkH next k ⟨zaz G ++ r, 0⟩ = ⟨abvK Prod.fst G k, G.take k, ⟨zaz (G.drop k) ++ r, 0⟩⟩
  | 0, _ => by simp [zkH, zdu, abvK]
  | k + 1, hk => by
    have e1 : zkH next (k + 1) ⟨zaz G ++ r, 0⟩ = zhJ next (zkH next k ⟨zaz G ++ r, 0⟩) := rfl
    rw [e1, grpN_put hn hs hg r k (by omega)]
    obtain ⟨a, ha⟩ : ∃ a, G[k]? = some a := ⟨_, List.getElem?_eq_getElem (by omega)⟩
    have hd : G.drop k = a :: G.drop (k + 1) := by
      rw [List.drop_eq_getElem_cons (by omega)]
      rw [List.getElem?_eq_getElem (by omega)] at ha
      rw [Option.some.inj ha]
    obtain ⟨n1, n2, n3, n4⟩ := hg a (List.mem_of_getElem? ha)
    have hb : zaz (G.drop k) ++ r = zjI a.1 ++ (zbQ a.2.toNat ++ (zaz (G.drop (k + 1)) ++ r)) := by rw [hd]; simp [zaz, ziB]
    unfold zhJ
    dsimp only
    rw [hb, nameP_put n1 (zpx hs ha n1) n2]
    dsimp only
    rw [zbW false (by omega) (by omega), ziM ha, List.take_add_one, ha]
    simp only [Option.toList_some, GSt.mk.injEq, true_and, and_true, List.append_cancel_left_eq, List.cons.injEq]
    obtain ⟨a1, a2⟩ := a
    simp only at n3 ⊢
    rw [Prod.mk.injEq]
    exact ⟨rfl, by omega⟩
theorem topicP_put {x : zu} (h : TopW x) (r : List UInt8) : zfs x.name ⟨zhE x ++ r, 0⟩ = (x, ⟨r, 0⟩) := by
  obtain ⟨name, base, recs, groups⟩ := x
  obtain ⟨h1, h2, h3, h4, h5, h6, h7⟩ := h
  simp only [zu.next] at h2 h7
  simp only at h1 h3 h4 h5 h6 h7
  have hb : zhE ⟨name, base, recs, groups⟩ ++ r = zbQ base.toNat ++ (zbQ recs.length ++ (zcg recs ++ (zbQ groups.length ++ (zaz groups ++ r)))) := by simp [zhE]
  unfold zfs
  dsimp only
  rw [hb, zbW false (by omega) (by omega)]
  dsimp only
  rw [zbW false h3 (by omega)]
  dsimp only
  rw [recsP_put false h4 _ recs.length (Nat.le_refl _), List.take_length, List.drop_length]
  dsimp only
  rw [if_neg (by omega)]
  simp only [zcg, List.map_nil, List.flatten_nil, List.nil_append]
  rw [zbW false h5 (by omega)]
  dsimp only
  rw [grpN_put (by omega) h6 (fun a ha => by
    obtain ⟨n1, n2, n3, n4⟩ := h7 a ha
    exact ⟨n1, n2, n3, by omega⟩) r groups.length (Nat.le_refl _), List.take_length, List.drop_length]
  simp only [zaz, List.map_nil, List.flatten_nil, List.nil_append]
  rw [show ((base.toNat : Nat) : Int) = base by omega]
theorem lastP_put {a : Int × Int × Int} (h : AnsW a) (r : List UInt8) : zbh ⟨ziA a ++ r, 0⟩ = (a, ⟨r, 0⟩) := by
  obtain ⟨t, e, o⟩ := a
  obtain ⟨h1, h2, h3, h4, h5⟩ := h
  simp only at h1 h2 h3 h4 h5
  have hle := h2.2
  have he : e.toNat ≤ 72 := by simp [zdb] at hle; omega
  have hb : ziA (t, e, o) ++ r = zbQ t.toNat ++ (zbQ e.toNat ++ (zbQ o.toNat ++ r)) := by simp [ziA]
  unfold zbh
  dsimp only
  rw [hb, zbW false (by omega) (by omega)]
  dsimp only
  rw [zbW false (by omega) (by omega)]
  dsimp only
  rw [zbW false (by omega) (by omega)]
  dsimp only
  have c1 : ¬ (t.toNat = 0 ∧ ¬ (e.toNat = 0 ∧ o.toNat = 0)) := by omega
  have c2 : zdb e.toNat = true ∧ (e.toNat = 0 ∨ o.toNat = 0) := ⟨h2.2, by omega⟩
  rw [if_neg c1, if_pos c2]
  rw [show ((t.toNat : Nat) : Int) = t by omega, show ((e.toNat : Nat) : Int) = e by omega, show ((o.toNat : Nat) : Int) = o by omega]
theorem topN_put {X : List zu} (hs : zcV zu.name X) (hx : ∀ x ∈ X, zaZ x.name = true ∧ x.name.length ≤ 64 ∧ TopW x) (r : List UInt8) : ∀ k, k ≤ X.length → znY k ⟨zaR X ++ r, 0⟩ = ⟨abvK zu.name X k, X.take k, ⟨zaR (X.drop k) ++ r, 0⟩⟩
  | 0, _ => by simp [znY, zdu, abvK]
  | k + 1, hk => by
    have e1 : znY (k + 1) ⟨zaR X ++ r, 0⟩ = zjG (znY k ⟨zaR X ++ r, 0⟩) := rfl
    rw [e1, topN_put hs hx r k (by omega)]
    obtain ⟨a, ha⟩ : ∃ a, X[k]? = some a := ⟨_, List.getElem?_eq_getElem (by omega)⟩
    have hd : X.drop k = a :: X.drop (k + 1) := by
      rw [List.drop_eq_getElem_cons (by omega)]
      rw [List.getElem?_eq_getElem (by omega)] at ha
      rw [Option.some.inj ha]
    obtain ⟨n1, n2, n3⟩ := hx a (List.mem_of_getElem? ha)
    have hb : zaR (X.drop k) ++ r = zjI a.name ++ (zhE a ++ (zaR (X.drop (k + 1)) ++ r)) := by rw [hd]; simp [zaR, zkp]
    unfold zjG
    dsimp only
    rw [hb, nameP_put n1 (zpx hs ha n1) n2]
    dsimp only
    rw [topicP_put n3, ziM ha, List.take_add_one, ha]
    rfl
theorem lastN_put {l : List (Int × Int × Int)} (h : ∀ a ∈ l, AnsW a) (r : List UInt8) : ∀ k, k ≤ l.length → zha k ⟨zaP l ++ r, 0⟩ = ⟨l.take k, ⟨zaP (l.drop k) ++ r, 0⟩⟩
  | 0, _ => by simp [zha, zdu]
  | k + 1, hk => by
    have e1 : zha (k + 1) ⟨zaP l ++ r, 0⟩ = zfN (zha k ⟨zaP l ++ r, 0⟩) := rfl
    rw [e1, lastN_put h r k (by omega)]
    obtain ⟨a, ha⟩ : ∃ a, l[k]? = some a := ⟨_, List.getElem?_eq_getElem (by omega)⟩
    have hd : l.drop k = a :: l.drop (k + 1) := by
      rw [List.drop_eq_getElem_cons (by omega)]
      rw [List.getElem?_eq_getElem (by omega)] at ha
      rw [Option.some.inj ha]
    have hb : zaP (l.drop k) ++ r = ziA a ++ (zaP (l.drop (k + 1)) ++ r) := by rw [hd]; simp [zaP]
    unfold zfN
    dsimp only
    rw [hb, lastP_put (h a (List.mem_of_getElem? ha)), List.take_add_one, ha]
    rfl
theorem pars_put {T : zak} (h : TopsW T) : (ziq (zic T)).s = ⟨[], 0⟩ ∧ zoV (zic T) = T := by
  obtain ⟨l, last⟩ := T
  obtain ⟨h1, h2, h3, h4, h5⟩ := h
  simp only at h1 h2 h3 h4 h5
  have hb : zic ⟨l, last⟩ = zbQ l.length ++ (zaR l ++ zaP last) := rfl
  have e1 : zax false 8 ⟨zic ⟨l, last⟩, 0⟩ = (l.length, ⟨zaR l ++ zaP last, 0⟩) := by
    rw [hb]; exact zbW false h1 (by omega) _
  have e2 : zie (zic ⟨l, last⟩) = ⟨abvK zu.name l l.length, l, ⟨zaP last, 0⟩⟩ := by
    unfold zie
    rw [e1]
    dsimp only
    rw [topN_put h2 h3 _ l.length (Nat.le_refl _), List.take_length, List.drop_length]
    simp [zaR]
  have e3 : ziq (zic ⟨l, last⟩) = ⟨last, ⟨[], 0⟩⟩ := by
    unfold ziq
    rw [e2]
    dsimp only
    have := lastN_put h5 [] 8 (by omega)
    rw [List.append_nil] at this
    rw [this, ← h4, List.take_length, List.drop_length]
    simp [zaP]
  refine ⟨by rw [e3], ?_⟩
  unfold zoV
  rw [e2, e3]
structure TopsX (T : zak) : Prop where
  names : ∀ x ∈ T.l, zaZ x.name = true ∧ ∀ a ∈ x.groups, zaZ a.1 = true ∧ a.2 ≤ x.next
  ans : ∀ a ∈ T.last, AnsW a
theorem TopsX.none : TopsX zbX := ⟨by simp [zbX], fun a ha => by
  have := List.eq_of_mem_replicate ha
  subst this
  exact ⟨by simp, by simp [zdb], by simp, by simp, by simp⟩⟩

structure QSt where
  R : List (List UInt8)
  s : Rd
def zmV (q : QSt) : QSt := if q.s.e = 0 then ⟨q.R ++ [(zaJ true 64 q.s).1], (zaJ true 64 q.s).2⟩ else q
def zeg (k : Nat) (s : Rd) : QSt := zdu zmV k ⟨[], s⟩
structure DSt where
  last : List UInt8
  ok : Bool
  G : List (List UInt8 × Int)
  s : Rd
def zmv (next : Int) (d : DSt) : DSt :=
  if d.s.e = 0 then
    let a := zaJ true 1024 d.s
    let v := zax true 9007199254740992 a.2
    ⟨a.1, d.ok && zaZ a.1 && Op.bytesLess d.last a.1 && decide ((v.1 : Int) ≤ next), d.G ++ [(a.1, (v.1 : Int))], v.2⟩
  else d
def zfZ (next : Int) (ok : Bool) (k : Nat) (s : Rd) : DSt := zdu (zmv next) k ⟨[], ok, [], s⟩
structure TRd where
  x : zu
  ok : Bool
  s : Rd
def zdz (s : Rd) : TRd :=
  let nm := zaJ true 1024 s
  let b := zax true 9007199254740992 nm.2
  let n := zax true 64 b.2
  let r := zeg n.1 n.2
  let g := zax true 8 r.s
  let G := zfZ ((b.1 : Int) + r.R.length) (zaZ nm.1 && decide ((b.1 : Int) + r.R.length ≤ 9007199254740992)) g.1 g.2
  ⟨⟨nm.1, (b.1 : Int), r.R, G.G⟩, G.ok, G.s⟩
structure UDt where
  ok : Bool
  last : List UInt8
  X : List zu
  s : Rd
def zkn (u : UDt) : UDt :=
  if u.s.e = 0 then
    let t := zdz u.s
    ⟨u.ok && t.ok && Op.bytesLess u.last t.x.name, t.x.name, u.X ++ [t.x], t.s⟩
  else u
def topD' (k : Nat) (s : Rd) : UDt := zdu zkn k ⟨true, [], [], s⟩
def znh (s : Rd) : (Int × Int × Int) × Rd :=
  let t := zax true 9007199254740992 s
  let e := zax true 1024 t.2
  let o := zax true 9007199254740992 e.2
  (((t.1 : Int), (e.1 : Int), (o.1 : Int)), o.2)
def zla (a : Int × Int × Int) : Bool := zdb a.2.1.toNat && (decide (a.2.1 = 0) || decide (a.2.2 = 0)) && (decide (a.1 > 0) || decide (a.2.1 = 0 ∧ a.2.2 = 0))
structure VDt where
  ok : Bool
  l : List (Int × Int × Int)
  s : Rd
def zoK (v : VDt) : VDt := ⟨v.ok && zla (znh v.s).1, v.l ++ [(znh v.s).1], (znh v.s).2⟩
def lastN' (ok : Bool) (k : Nat) (s : Rd) : VDt := zdu zoK k ⟨ok, [], s⟩
def zpn (b : List UInt8) : UDt := topD' (zax true 8 ⟨b, 0⟩).1 (zax true 8 ⟨b, 0⟩).2
def docL (b : List UInt8) : VDt := lastN' (zpn b).ok 8 (zpn b).s
def docF (b : List UInt8) : zak := ⟨(zpn b).X, (docL b).l⟩
def DOk (b : List UInt8) : Prop := (docL b).ok = true ∧ (docL b).s.e = 0 ∧ (docL b).s.b = []
theorem zji {α : Type} {f : α → α} {p : α → Prop} (hf : ∀ a, ¬ p a → f a = a) {x : α} : ∀ {k j : Nat}, j ≤ k → ¬ p (zdu f j x) → zdu f k x = zdu f j x
  | 0, j, h, _ => by rw [show j = 0 by omega]
  | k + 1, j, h, hp => by
    by_cases e : j = k + 1
    · rw [e]
    · have ih := zji hf (x := x) (k := k) (j := j) (by omega) hp
      show f (zdu f k x) = _
      rw [ih]; exact hf _ hp
-- what is taken has those bytes
theorem recsD_ok {s : Rd} : ∀ {k : Nat}, (zeg k s).s.e = 0 → s.e = 0 ∧ s.b = zcg (zeg k s).R ++ (zeg k s).s.b ∧ (zeg k s).R.length = k ∧ ∀ r ∈ (zeg k s).R, r.length ≤ 64
  | 0, h => ⟨h, rfl, rfl, by simp [zeg, zdu]⟩
  | k + 1, h => by
    have e1 : zeg (k + 1) s = zmV (zeg k s) := rfl
    rw [e1] at h ⊢
    have ih := recsD_ok (s := s) (k := k)
    obtain ⟨g, hg⟩ : ∃ g, zeg k s = g := ⟨_, rfl⟩
    rw [hg] at h ih ⊢
    unfold zmV at h ⊢
    by_cases h0 : g.s.e = 0
    · rw [if_pos h0] at h ⊢
      obtain ⟨i1, i2, i3, i4⟩ := ih h0
      dsimp only at h ⊢
      obtain ⟨b1, b2⟩ := ziJ h
      refine ⟨i1, ?_, by simp [i3], fun r hr => ?_⟩
      · rw [i2, b2]; simp [zcg]
      · rcases List.mem_append.1 hr with hr | hr
        · exact i4 r hr
        · simp at hr; subst hr; exact zeY _ _ _
    · rw [if_neg h0] at h; exact absurd h h0
theorem dStep_ok {next : Int} {d : DSt} (h : (zmv next d).ok = true) : d.ok = true := by
  unfold zmv at h
  split at h
  · simp only [Bool.and_eq_true] at h; exact h.1.1.1
  · exact h
theorem grpD_ok {next : Int} {ok : Bool} {s : Rd} (hnx : 0 ≤ next) : ∀ {k : Nat}, (zfZ next ok k s).s.e = 0 → (zfZ next ok k s).ok = true → ok = true ∧ s.e = 0 ∧ s.b = zaz (zfZ next ok k s).G ++ (zfZ next ok k s).s.b ∧ (zfZ next ok k s).G.length = k ∧ zcV Prod.fst (zfZ next ok k s).G ∧
    (∀ a ∈ (zfZ next ok k s).G, zaZ a.1 = true ∧ a.1.length ≤ 64 ∧ 0 ≤ a.2 ∧ a.2 ≤ next) ∧ ∀ a ∈ (zfZ next ok k s).G, a.1 = (zfZ next ok k s).last ∨ ltN a.1 (zfZ next ok k s).last
  | 0, h, h' => ⟨h', h, rfl, rfl, by simp [zcV, zfZ, zdu], by simp [zfZ, zdu], by simp [zfZ, zdu]⟩
  | k + 1, h, h' => by
    have e1 : zfZ next ok (k + 1) s = zmv next (zfZ next ok k s) := rfl
    rw [e1] at h h' ⊢
    have ih := grpD_ok (next := next) (ok := ok) (s := s) hnx (k := k)
    obtain ⟨g, hg⟩ : ∃ g, zfZ next ok k s = g := ⟨_, rfl⟩
    rw [hg] at h h' ih ⊢
    have hok := dStep_ok h'
    unfold zmv at h h' ⊢
    by_cases h0 : g.s.e = 0
    · rw [if_pos h0] at h h' ⊢
      obtain ⟨i1, i2, i3, i4, i5, i6, i7⟩ := ih h0 hok
      dsimp only at h h' ⊢
      simp only [Bool.and_eq_true, decide_eq_true_eq] at h'
      obtain ⟨⟨⟨_, n1⟩, n2⟩, n3⟩ := h'
      obtain ⟨v1, v2⟩ := zci h
      obtain ⟨b1, b2⟩ := ziJ v1
      have n4 := zmC n1
      have habv : ∀ a ∈ g.G, ltN a.1 (zaJ true 1024 g.s).1 := fun a ha => by
        rcases i7 a ha with e | e
        · rw [e]; exact n2
        · exact zen e n2
      refine ⟨i1, i2, ?_, by simp [i4], zjb i5 habv, fun a ha => ?_, fun a ha => ?_⟩
      · rw [i3, b2, v2]; simp [zaz, ziB]
      · rcases List.mem_append.1 ha with ha | ha
        · exact i6 a ha
        · simp at ha; subst ha
          exact ⟨n1, n4, by simp, n3⟩
      · rcases List.mem_append.1 ha with ha | ha
        · exact .inr (habv a ha)
        · simp at ha; subst ha; exact .inl rfl
    · rw [if_neg h0] at h; exact absurd h h0
theorem topicD_ok {s : Rd} (h : (zdz s).s.e = 0) (h' : (zdz s).ok = true) : s.e = 0 ∧ s.b = zjI (zdz s).x.name ++ (zhE (zdz s).x ++ (zdz s).s.b) ∧ TopW (zdz s).x ∧ zaZ (zdz s).x.name = true ∧ (zdz s).x.name.length ≤ 64 := by
  unfold zdz at h h' ⊢
  dsimp only at h h' ⊢
  obtain ⟨nm, hnm⟩ : ∃ nm, zaJ true 1024 s = nm := ⟨_, rfl⟩
  have nm0 := ziJ (c := true) (m := 1024) (s := s)
  rw [hnm] at h h' nm0 ⊢
  obtain ⟨b, hb⟩ : ∃ b, zax true 9007199254740992 nm.2 = b := ⟨_, rfl⟩
  have hb0 := zci (c := true) (m := 9007199254740992) (s := nm.2)
  have hbl := zaX true 9007199254740992 nm.2
  rw [hb] at h h' hb0 hbl ⊢
  obtain ⟨n, hn⟩ : ∃ n, zax true 64 b.2 = n := ⟨_, rfl⟩
  have hn0 := zci (c := true) (m := 64) (s := b.2)
  have hnl := zaX true 64 b.2
  rw [hn] at h h' hn0 hnl ⊢
  have hr0 := recsD_ok (s := n.2) (k := n.1)
  obtain ⟨r, hr⟩ : ∃ r, zeg n.1 n.2 = r := ⟨_, rfl⟩
  rw [hr] at h h' hr0 ⊢
  have hgl := zaX true 8 r.s
  have hg0 := zci (c := true) (m := 8) (s := r.s)
  obtain ⟨g, hg⟩ : ∃ g, zax true 8 r.s = g := ⟨_, rfl⟩
  rw [hg] at h h' hgl hg0 ⊢
  obtain ⟨i1, i2, i3, i4, i5, i6, _⟩ := grpD_ok (by omega) h h'
  simp only [Bool.and_eq_true, decide_eq_true_eq] at i1
  obtain ⟨j1, j2⟩ := hg0 i2
  obtain ⟨r1, r2, r3, r4⟩ := hr0 j1
  obtain ⟨n1, n2⟩ := hn0 r1
  obtain ⟨b1, b2⟩ := hb0 n1
  obtain ⟨m1, m2⟩ := nm0 b1
  refine ⟨m1, ?_, ⟨by simp, by simp only [zu.next]; omega, by simp only; omega, r4, by simp only [i4]; exact hgl, i5, i6⟩, i1.1, zmC i1.1⟩
  rw [m2, b2, n2, r2, j2, i3, ← r3]
  simp only [zhE, Int.toNat_natCast, i4, List.append_assoc]
theorem uStep_ok {u : UDt} (h : (zkn u).ok = true) : u.ok = true := by
  unfold zkn at h
  split at h
  · simp only [Bool.and_eq_true] at h; exact h.1.1
  · exact h
theorem topD_ok' {s : Rd} : ∀ {k : Nat}, (topD' k s).s.e = 0 → (topD' k s).ok = true → s.e = 0 ∧ s.b = zaR (topD' k s).X ++ (topD' k s).s.b ∧ (topD' k s).X.length = k ∧ zcV zu.name (topD' k s).X ∧
    (∀ x ∈ (topD' k s).X, zaZ x.name = true ∧ x.name.length ≤ 64 ∧ TopW x) ∧ ∀ x ∈ (topD' k s).X, x.name = (topD' k s).last ∨ ltN x.name (topD' k s).last
  | 0, h, h' => ⟨h, rfl, rfl, by simp [zcV, topD', zdu], by simp [topD', zdu], by simp [topD', zdu]⟩
  | k + 1, h, h' => by
    have e1 : topD' (k + 1) s = zkn (topD' k s) := rfl
    rw [e1] at h h' ⊢
    have ih := topD_ok' (s := s) (k := k)
    obtain ⟨g, hg⟩ : ∃ g, topD' k s = g := ⟨_, rfl⟩
    rw [hg] at h h' ih ⊢
    have hok := uStep_ok h'
    unfold zkn at h h' ⊢
    by_cases h0 : g.s.e = 0
    · rw [if_pos h0] at h h' ⊢
      obtain ⟨i2, i3, i4, i5, i6, i7⟩ := ih h0 hok
      dsimp only at h h' ⊢
      simp only [Bool.and_eq_true] at h'
      obtain ⟨⟨_, n1⟩, n2⟩ := h'
      obtain ⟨t1, t2, t3, t4, t5⟩ := topicD_ok h n1
      have habv : ∀ a ∈ g.X, ltN a.name (zdz g.s).x.name := fun a ha => by
        rcases i7 a ha with e | e
        · rw [e]; exact n2
        · exact zen e n2
      refine ⟨i2, ?_, by simp [i4], zjb i5 habv, fun a ha => ?_, fun a ha => ?_⟩
      · rw [i3, t2]; simp [zaR, zkp]
      · rcases List.mem_append.1 ha with ha | ha
        · exact i6 a ha
        · simp at ha; subst ha
          exact ⟨t4, t5, t3⟩
      · rcases List.mem_append.1 ha with ha | ha
        · exact .inr (habv a ha)
        · simp at ha; subst ha; exact .inl rfl
    · rw [if_neg h0] at h; exact absurd h h0
theorem lastD_ok {s : Rd} (h : (znh s).2.e = 0) (h' : zla (znh s).1 = true) : s.e = 0 ∧ s.b = ziA (znh s).1 ++ (znh s).2.b ∧ AnsW (znh s).1 := by
  unfold znh at h h' ⊢
  dsimp only at h h' ⊢
  obtain ⟨t, ht⟩ : ∃ t, zax true 9007199254740992 s = t := ⟨_, rfl⟩
  have t0 := zci (c := true) (m := 9007199254740992) (s := s)
  have tl := zaX true 9007199254740992 s
  rw [ht] at h h' t0 tl ⊢
  obtain ⟨e, he⟩ : ∃ e, zax true 1024 t.2 = e := ⟨_, rfl⟩
  have e0 := zci (c := true) (m := 1024) (s := t.2)
  rw [he] at h h' e0 ⊢
  obtain ⟨o, ho⟩ : ∃ o, zax true 9007199254740992 e.2 = o := ⟨_, rfl⟩
  have o0 := zci (c := true) (m := 9007199254740992) (s := e.2)
  have ol := zaX true 9007199254740992 e.2
  rw [ho] at h h' o0 ol ⊢
  obtain ⟨p1, p2⟩ := o0 h
  obtain ⟨q1, q2⟩ := e0 p1
  obtain ⟨r1, r2⟩ := t0 q1
  simp only [zla, Bool.and_eq_true, Bool.or_eq_true, decide_eq_true_eq, Int.toNat_natCast] at h'
  obtain ⟨⟨k1, k2⟩, k3⟩ := h'
  refine ⟨r1, ?_, ⟨by omega, by simp only; omega⟩, ⟨by simp, by simpa using k1⟩, ⟨by simp, by simp only; omega⟩, k2, fun h => ?_⟩
  · rw [r2, q2, p2]; simp [ziA]
  · simp only at h ⊢
    omega
theorem lastN_ok' {ok : Bool} {s : Rd} : ∀ {k : Nat}, (lastN' ok k s).s.e = 0 → (lastN' ok k s).ok = true → ok = true ∧ s.e = 0 ∧ s.b = zaP (lastN' ok k s).l ++ (lastN' ok k s).s.b ∧ (lastN' ok k s).l.length = k ∧ ∀ a ∈ (lastN' ok k s).l, AnsW a
  | 0, h, h' => ⟨h', h, rfl, rfl, by simp [lastN', zdu]⟩
  | k + 1, h, h' => by
    have e1 : lastN' ok (k + 1) s = zoK (lastN' ok k s) := rfl
    rw [e1] at h h' ⊢
    have ih := lastN_ok' (ok := ok) (s := s) (k := k)
    obtain ⟨g, hg⟩ : ∃ g, lastN' ok k s = g := ⟨_, rfl⟩
    rw [hg] at h h' ih ⊢
    unfold zoK at h h' ⊢
    dsimp only at h h' ⊢
    simp only [Bool.and_eq_true] at h'
    obtain ⟨h1, h2, h3⟩ := lastD_ok h h'.2
    obtain ⟨i1, i2, i3, i4, i5⟩ := ih h1 h'.1
    refine ⟨i1, i2, ?_, by simp [i4], fun a ha => ?_⟩
    · rw [i3, h2]; simp [zaP]
    · rcases List.mem_append.1 ha with ha | ha
      · exact i5 a ha
      · simp at ha; subst ha; exact h3
theorem docF_ok {b : List UInt8} (h : DOk b) : TopsW (docF b) ∧ b = zic (docF b) := by
  obtain ⟨h1, h2, h3⟩ := h
  obtain ⟨i1, i2, i3, i4, i5⟩ := lastN_ok' (ok := (zpn b).ok) (s := (zpn b).s) (k := 8) h2 h1
  obtain ⟨j2, j3, j4, j5, j6, _⟩ := topD_ok' i2 i1
  obtain ⟨h5, h6⟩ := zci j2
  have h7 := zaX true 8 ⟨b, 0⟩
  refine ⟨⟨by show (zpn b).X.length ≤ 8; rw [show (zpn b).X.length = _ from j4]; exact h7, j5, j6, i4, i5⟩, ?_⟩
  have h6 : b = zbQ (zax true 8 ⟨b, 0⟩).1 ++ (zax true 8 ⟨b, 0⟩).2.b := h6
  show b = zbQ (zpn b).X.length ++ (zaR (zpn b).X ++ zaP (docL b).l)
  have k1 : (zpn b).s.b = zaP (docL b).l ++ (docL b).s.b := i3
  have k2 : (zax true 8 ⟨b, 0⟩).2.b = zaR (zpn b).X ++ (zpn b).s.b := j3
  have k3 : (zpn b).X.length = (zax true 8 ⟨b, 0⟩).1 := j4
  rw [h3, List.append_nil] at k1
  rw [k3, ← k1, ← k2]
  exact h6
-- what is put is taken
theorem recsD_put {R : List (List UInt8)} (h : ∀ r ∈ R, r.length ≤ 64) (r : List UInt8) : ∀ k, k ≤ R.length → zeg k ⟨zcg R ++ r, 0⟩ = ⟨R.take k, ⟨zcg (R.drop k) ++ r, 0⟩⟩
  | 0, _ => by simp [zeg, zdu]
  | k + 1, hk => by
    have e1 : zeg (k + 1) ⟨zcg R ++ r, 0⟩ = zmV (zeg k ⟨zcg R ++ r, 0⟩) := rfl
    rw [e1, recsD_put h r k (by omega)]
    obtain ⟨a, ha⟩ : ∃ a, R[k]? = some a := ⟨_, List.getElem?_eq_getElem (by omega)⟩
    have hd : R.drop k = a :: R.drop (k + 1) := by
      rw [List.drop_eq_getElem_cons (by omega)]
      rw [List.getElem?_eq_getElem (by omega)] at ha
      rw [Option.some.inj ha]
    have hal := h a (List.mem_of_getElem? ha)
    have hb : zcg (R.drop k) ++ r = zjI a ++ (zcg (R.drop (k + 1)) ++ r) := by rw [hd]; simp [zcg]
    unfold zmV
    dsimp only
    rw [if_pos rfl, hb, zhi true hal (by omega), List.take_add_one, ha]
    rfl
theorem grpD_put {next : Int} {G : List (List UInt8 × Int)} (hn : next ≤ 9007199254740992) (hs : zcV Prod.fst G) (hg : ∀ a ∈ G, zaZ a.1 = true ∧ a.1.length ≤ 64 ∧ 0 ≤ a.2 ∧ a.2 ≤ next) (r : List UInt8) : ∀ k, k ≤ G.length → zfZ next true k ⟨zaz G ++ r, 0⟩ = ⟨abvK Prod.fst G k, true, G.take k, ⟨zaz (G.drop k) ++ r, 0⟩⟩
  | 0, _ => by simp [zfZ, zdu, abvK]
  | k + 1, hk => by
    have e1 : zfZ next true (k + 1) ⟨zaz G ++ r, 0⟩ = zmv next (zfZ next true k ⟨zaz G ++ r, 0⟩) := rfl
    rw [e1, grpD_put hn hs hg r k (by omega)]
    obtain ⟨a, ha⟩ : ∃ a, G[k]? = some a := ⟨_, List.getElem?_eq_getElem (by omega)⟩
    have hd : G.drop k = a :: G.drop (k + 1) := by
      rw [List.drop_eq_getElem_cons (by omega)]
      rw [List.getElem?_eq_getElem (by omega)] at ha
      rw [Option.some.inj ha]
    obtain ⟨n1, n2, n3, n4⟩ := hg a (List.mem_of_getElem? ha)
    have hlt := zpx hs ha n1
    have hb : zaz (G.drop k) ++ r = zjI a.1 ++ (zbQ a.2.toNat ++ (zaz (G.drop (k + 1)) ++ r)) := by rw [hd]; simp [zaz, ziB]
    have hv : ((a.2.toNat : Nat) : Int) = a.2 := by omega
    unfold zmv
    dsimp only
    rw [if_pos rfl, hb, zhi true (by omega) (by omega)]
    dsimp only
    rw [zbW true (by omega) (by omega), ziM ha, List.take_add_one, ha]
    dsimp only
    rw [hv, n1, show Op.bytesLess (abvK Prod.fst G k) a.1 = true from hlt, decide_eq_true n4]
    rfl
theorem topicD_put {x : zu} (h : TopW x) (hn : zaZ x.name = true) (hl : x.name.length ≤ 64) (r : List UInt8) : zdz ⟨zjI x.name ++ (zhE x ++ r), 0⟩ = ⟨x, true, ⟨r, 0⟩⟩ := by
  obtain ⟨name, base, recs, groups⟩ := x
  obtain ⟨h1, h2, h3, h4, h5, h6, h7⟩ := h
  simp only [zu.next] at h2 h7
  simp only at h1 h3 h4 h5 h6 h7 hn hl ⊢
  have hb : zhE ⟨name, base, recs, groups⟩ ++ r = zbQ base.toNat ++ (zbQ recs.length ++ (zcg recs ++ (zbQ groups.length ++ (zaz groups ++ r)))) := by simp [zhE]
  have hv : ((base.toNat : Nat) : Int) = base := by omega
  unfold zdz
  dsimp only
  rw [zhi true (by omega) (by omega)]
  dsimp only
  rw [hb, zbW true (by omega) (by omega)]
  dsimp only
  rw [zbW true h3 (by omega)]
  dsimp only
  rw [recsD_put h4 _ recs.length (Nat.le_refl _), List.take_length, List.drop_length]
  simp only [zcg, List.map_nil, List.flatten_nil, List.nil_append]
  rw [zbW true h5 (by omega)]
  dsimp only
  rw [hv, hn, decide_eq_true h2, Bool.and_true, grpD_put h2 h6 h7 r groups.length (Nat.le_refl _), List.take_length, List.drop_length]
  simp [zaz]
theorem topD_put' {X : List zu} (hs : zcV zu.name X) (hx : ∀ x ∈ X, zaZ x.name = true ∧ x.name.length ≤ 64 ∧ TopW x) (r : List UInt8) : ∀ k, k ≤ X.length → topD' k ⟨zaR X ++ r, 0⟩ = ⟨true, abvK zu.name X k, X.take k, ⟨zaR (X.drop k) ++ r, 0⟩⟩
  | 0, _ => by simp [topD', zdu, abvK]
  | k + 1, hk => by
    have e1 : topD' (k + 1) ⟨zaR X ++ r, 0⟩ = zkn (topD' k ⟨zaR X ++ r, 0⟩) := rfl
    rw [e1, topD_put' hs hx r k (by omega)]
    obtain ⟨a, ha⟩ : ∃ a, X[k]? = some a := ⟨_, List.getElem?_eq_getElem (by omega)⟩
    have hd : X.drop k = a :: X.drop (k + 1) := by
      rw [List.drop_eq_getElem_cons (by omega)]
      rw [List.getElem?_eq_getElem (by omega)] at ha
      rw [Option.some.inj ha]
    obtain ⟨n1, n2, n3⟩ := hx a (List.mem_of_getElem? ha)
    have hb : zaR (X.drop k) ++ r = zjI a.name ++ (zhE a ++ (zaR (X.drop (k + 1)) ++ r)) := by rw [hd]; simp [zaR, zkp]
    unfold zkn
    dsimp only
    rw [if_pos rfl, hb, topicD_put n3 n1 n2]
    dsimp only
    rw [show Op.bytesLess (abvK zu.name X k) a.name = true from zpx hs ha n1, ziM ha, List.take_add_one, ha]
    rfl
theorem told_le' {e : Nat} (h : zdb e = true) : e ≤ 72 := by simp [zdb] at h; omega
theorem lastD_put {a : Int × Int × Int} (h : AnsW a) (r : List UInt8) : znh ⟨ziA a ++ r, 0⟩ = (a, ⟨r, 0⟩) ∧ zla a = true := by
  obtain ⟨t, e, o⟩ := a
  obtain ⟨h1, h2, h3, h4, h5⟩ := h
  simp only at h1 h2 h3 h4 h5
  have hle := h2.2
  have he : e.toNat ≤ 72 := told_le' hle
  have hb : ziA (t, e, o) ++ r = zbQ t.toNat ++ (zbQ e.toNat ++ (zbQ o.toNat ++ r)) := by simp [ziA]
  constructor
  · unfold znh
    dsimp only
    rw [hb, zbW true (by omega) (by omega)]
    dsimp only
    rw [zbW true (by omega) (by omega)]
    dsimp only
    rw [zbW true (by omega) (by omega)]
    dsimp only
    rw [show ((t.toNat : Nat) : Int) = t by omega, show ((e.toNat : Nat) : Int) = e by omega, show ((o.toNat : Nat) : Int) = o by omega]
  · simp only [zla, Bool.and_eq_true, Bool.or_eq_true, decide_eq_true_eq]
    exact ⟨⟨h2.2, h4⟩, by omega⟩
theorem lastN_put' {l : List (Int × Int × Int)} (h : ∀ a ∈ l, AnsW a) (r : List UInt8) : ∀ k, k ≤ l.length → lastN' true k ⟨zaP l ++ r, 0⟩ = ⟨true, l.take k, ⟨zaP (l.drop k) ++ r, 0⟩⟩
  | 0, _ => by simp [lastN', zdu]
  | k + 1, hk => by
    have e1 : lastN' true (k + 1) ⟨zaP l ++ r, 0⟩ = zoK (lastN' true k ⟨zaP l ++ r, 0⟩) := rfl
    rw [e1, lastN_put' h r k (by omega)]
    obtain ⟨a, ha⟩ : ∃ a, l[k]? = some a := ⟨_, List.getElem?_eq_getElem (by omega)⟩
    have hd : l.drop k = a :: l.drop (k + 1) := by
      rw [List.drop_eq_getElem_cons (by omega)]
      rw [List.getElem?_eq_getElem (by omega)] at ha
      rw [Option.some.inj ha]
    have hb : zaP (l.drop k) ++ r = ziA a ++ (zaP (l.drop (k + 1)) ++ r) := by rw [hd]; simp [zaP]
    obtain ⟨h1, h2⟩ := lastD_put (h a (List.mem_of_getElem? ha)) (zaP (l.drop (k + 1)) ++ r)
    unfold zoK
    dsimp only
    rw [hb, h1, h2, List.take_add_one, ha]
    rfl
theorem docs_put {T : zak} (h : TopsW T) : DOk (zic T) ∧ docF (zic T) = T := by
  obtain ⟨l, last⟩ := T
  obtain ⟨h1, h2, h3, h4, h5⟩ := h
  simp only at h1 h2 h3 h4 h5
  have hb : zic ⟨l, last⟩ = zbQ l.length ++ (zaR l ++ zaP last) := rfl
  have e1 : zax true 8 ⟨zic ⟨l, last⟩, 0⟩ = (l.length, ⟨zaR l ++ zaP last, 0⟩) := by
    rw [hb]; exact zbW true h1 (by omega) _
  have e2 : zpn (zic ⟨l, last⟩) = ⟨true, abvK zu.name l l.length, l, ⟨zaP last, 0⟩⟩ := by
    unfold zpn
    rw [e1]
    dsimp only
    rw [topD_put' h2 h3 _ l.length (Nat.le_refl _), List.take_length, List.drop_length]
    simp [zaR]
  have e3 : docL (zic ⟨l, last⟩) = ⟨true, last, ⟨[], 0⟩⟩ := by
    unfold docL
    rw [e2]
    dsimp only
    have := lastN_put' h5 [] 8 (by omega)
    rw [List.append_nil] at this
    rw [this, ← h4, List.take_length, List.drop_length]
    simp [zaP]
  refine ⟨by unfold DOk; rw [e3]; simp, ?_⟩
  unfold docF
  rw [e2, e3]
theorem both_parse (b : List UInt8) : (DOk b ↔ (ziq b).s.e = 0 ∧ (ziq b).s.b = []) ∧ (DOk b → docF b = zoV b ∧ TopsW (zoV b)) := by
  constructor
  · constructor
    · intro h
      obtain ⟨h1, h2⟩ := docF_ok h
      obtain ⟨h3, _⟩ := pars_put h1
      rw [← h2] at h3
      rw [h3]; exact ⟨rfl, rfl⟩
    · rintro ⟨h1, h2⟩
      obtain ⟨h3, h4⟩ := parsF_ok h1
      rw [h2, List.append_nil] at h4
      have := (docs_put h3).1
      rwa [← h4] at this
  · intro h
    obtain ⟨h1, h2⟩ := docF_ok h
    obtain ⟨_, h3⟩ := pars_put h1
    rw [← h2] at h3
    exact ⟨h3.symm, by rw [h3]; exact h1⟩
end Go.AW
