/- Topics are read back from their bytes. No program in sight. -/
import Derived.Test.YtaocmalhjfakdaaSpRqP
import Derived.Test.YtaocmalhjfakdaaKs6
set_option linter.all false
set_option linter.unusedSimpArgs false
set_option linter.unusedVariables false
namespace Go.AW

theorem nameP_put {above n : List UInt8} (h1 : zbn n = true) (h2 : ltN above n) (h3 : n.length ≤ 64) (r : List UInt8) : zcj above ⟨zlm n ++ r, 0⟩ = (n, ⟨r, 0⟩) := by
  unfold zcj
  rw [zmd false h3 (by omega)]
  dsimp only
  rw [if_pos ⟨h1, h2⟩]
theorem ltN_nil {n : List UInt8} (h : zbn n = true) : ltN [] n := by
  cases n with
  | nil => exact absurd h (by decide)
  | cons a r => rfl
def abvK {α : Type} (f : α → List UInt8) (l : List α) (k : Nat) : List UInt8 := match (l.take k).getLast? with
  | some x => f x
  | none => []
theorem zli {α : Type} {f : α → List UInt8} {l : List α} {k : Nat} {x : α} (hx : l[k]? = some x) : abvK f l (k + 1) = f x := by
  unfold abvK
  rw [List.take_add_one, hx]
  simp
theorem abvK_lt {α : Type} {f : α → List UInt8} {l : List α} (hs : zcn f l) {k : Nat} {x : α} (hx : l[k]? = some x) (hn : zbn (f x) = true) : ltN (abvK f l k) (f x) := by
  cases k with
  | zero => exact ltN_nil hn
  | succ k =>
    have hl := (List.getElem?_eq_some_iff.1 hx).1
    obtain ⟨y, hy⟩ : ∃ y, l[k]? = some y := ⟨_, List.getElem?_eq_getElem (by omega)⟩
    rw [zli hy]
    have h1 : (l.map f)[k]? = some (f y) := by rw [List.getElem?_map, hy]; rfl
    have h2 : (l.map f)[k + 1]? = some (f x) := by rw [List.getElem?_map, hx]; rfl
    obtain ⟨g1, g2⟩ := List.getElem?_eq_some_iff.1 h1
    obtain ⟨g3, g4⟩ := List.getElem?_eq_some_iff.1 h2
    have := List.pairwise_iff_getElem.1 hs k (k + 1) g1 g3 (by omega)
    rw [g2, g4] at this
    exact this
theorem grpN_put {next : Nat} {G : List (List UInt8 × Int)} (hn : next < 18446744073709551616) (hs : zcn Prod.fst G) (hg : ∀ a ∈ G, zbn a.1 = true ∧ a.1.length ≤ 64 ∧ 0 ≤ a.2 ∧ a.2 ≤ next) (r : List UInt8) : ∀ k, k ≤ G.length → ziH next k ⟨zbi G ++ r, 0⟩ = ⟨abvK Prod.fst G k, G.take k, ⟨zbi (G.drop k) ++ r, 0⟩⟩
  | 0, _ => by simp [ziH, ziG, abvK]
  | k + 1, hk => by
    have e1 : ziH next (k + 1) ⟨zbi G ++ r, 0⟩ = zga next (ziH next k ⟨zbi G ++ r, 0⟩) := rfl
    rw [e1, grpN_put hn hs hg r k (by omega)]
    obtain ⟨a, ha⟩ : ∃ a, G[k]? = some a := ⟨_, List.getElem?_eq_getElem (by omega)⟩
    have hd : G.drop k = a :: G.drop (k + 1) := by
      rw [List.drop_eq_getElem_cons (by omega)]
      rw [List.getElem?_eq_getElem (by omega)] at ha
      rw [Option.some.inj ha]
    obtain ⟨n1, n2, n3, n4⟩ := hg a (List.mem_of_getElem? ha)
    have hb : zbi (G.drop k) ++ r = zlm a.1 ++ (zci a.2.toNat ++ (zbi (G.drop (k + 1)) ++ r)) := by rw [hd]; simp [zbi, zkU]
    unfold zga
    dsimp only
    rw [hb, nameP_put n1 (abvK_lt hs ha n1) n2]
    dsimp only
    rw [zeA false (by omega) (by omega), zli ha, List.take_add_one, ha]
    simp only [Option.toList_some, GSt.mk.injEq, true_and, and_true, List.append_cancel_left_eq, List.cons.injEq]
    obtain ⟨a1, a2⟩ := a
    simp only at n3 ⊢
    rw [Prod.mk.injEq]
    exact ⟨rfl, by omega⟩
theorem topicP_put {x : zC} (h : TopW x) (r : List UInt8) : zel x.name ⟨zjc x ++ r, 0⟩ = (x, ⟨r, 0⟩) := by
  obtain ⟨name, base, recs, groups⟩ := x
  obtain ⟨h1, h2, h3, h4, h5, h6, h7⟩ := h
  simp only [zC.next] at h2 h7
  simp only at h1 h3 h4 h5 h6 h7
  have hb : zjc ⟨name, base, recs, groups⟩ ++ r = zci base.toNat ++ (zci recs.length ++ (zdE recs ++ (zci groups.length ++ (zbi groups ++ r)))) := by simp [zjc]
  unfold zel
  dsimp only
  rw [hb, zeA false (by omega) (by omega)]
  dsimp only
  rw [zeA false h3 (by omega)]
  dsimp only
  rw [recsP_put false h4 _ recs.length (Nat.le_refl _), List.take_length, List.drop_length]
  dsimp only
  rw [if_neg (by omega)]
  simp only [zdE, List.map_nil, List.flatten_nil, List.nil_append]
  rw [zeA false h5 (by omega)]
  dsimp only
  rw [grpN_put (by omega) h6 (fun a ha => by
    obtain ⟨n1, n2, n3, n4⟩ := h7 a ha
    exact ⟨n1, n2, n3, by omega⟩) r groups.length (Nat.le_refl _), List.take_length, List.drop_length]
  simp only [zbi, List.map_nil, List.flatten_nil, List.nil_append]
  rw [show ((base.toNat : Nat) : Int) = base by omega]
theorem lastP_put {a : Int × Int × Int} (h : AnsW a) (r : List UInt8) : zaF ⟨zls a ++ r, 0⟩ = (a, ⟨r, 0⟩) := by
  obtain ⟨t, e, o⟩ := a
  obtain ⟨h1, h2, h3, h4, h5⟩ := h
  simp only at h1 h2 h3 h4 h5
  have hle := h2.2
  have he : e.toNat ≤ 72 := by simp [zcI] at hle; omega
  have hb : zls (t, e, o) ++ r = zci t.toNat ++ (zci e.toNat ++ (zci o.toNat ++ r)) := by simp [zls]
  unfold zaF
  dsimp only
  rw [hb, zeA false (by omega) (by omega)]
  dsimp only
  rw [zeA false (by omega) (by omega)]
  dsimp only
  rw [zeA false (by omega) (by omega)]
  dsimp only
  have c1 : ¬ (t.toNat = 0 ∧ ¬ (e.toNat = 0 ∧ o.toNat = 0)) := by omega
  have c2 : zcI e.toNat = true ∧ (e.toNat = 0 ∨ o.toNat = 0) := ⟨h2.2, by omega⟩
  rw [if_neg c1, if_pos c2]
  rw [show ((t.toNat : Nat) : Int) = t by omega, show ((e.toNat : Nat) : Int) = e by omega, show ((o.toNat : Nat) : Int) = o by omega]
theorem topN_put {X : List zC} (hs : zcn zC.name X) (hx : ∀ x ∈ X, zbn x.name = true ∧ x.name.length ≤ 64 ∧ TopW x) (r : List UInt8) : ∀ k, k ≤ X.length → zlD k ⟨zco X ++ r, 0⟩ = ⟨abvK zC.name X k, X.take k, ⟨zco (X.drop k) ++ r, 0⟩⟩
  | 0, _ => by simp [zlD, ziG, abvK]
  | k + 1, hk => by
    have e1 : zlD (k + 1) ⟨zco X ++ r, 0⟩ = zhR (zlD k ⟨zco X ++ r, 0⟩) := rfl
    rw [e1, topN_put hs hx r k (by omega)]
    obtain ⟨a, ha⟩ : ∃ a, X[k]? = some a := ⟨_, List.getElem?_eq_getElem (by omega)⟩
    have hd : X.drop k = a :: X.drop (k + 1) := by
      rw [List.drop_eq_getElem_cons (by omega)]
      rw [List.getElem?_eq_getElem (by omega)] at ha
      rw [Option.some.inj ha]
    obtain ⟨n1, n2, n3⟩ := hx a (List.mem_of_getElem? ha)
    have hb : zco (X.drop k) ++ r = zlm a.name ++ (zjc a ++ (zco (X.drop (k + 1)) ++ r)) := by rw [hd]; simp [zco, topB_rest]
    unfold zhR
    dsimp only
    rw [hb, nameP_put n1 (abvK_lt hs ha n1) n2]
    dsimp only
    rw [topicP_put n3, zli ha, List.take_add_one, ha]
    rfl
theorem lastN_put {l : List (Int × Int × Int)} (h : ∀ a ∈ l, AnsW a) (r : List UInt8) : ∀ k, k ≤ l.length → zfJ k ⟨zbH l ++ r, 0⟩ = ⟨l.take k, ⟨zbH (l.drop k) ++ r, 0⟩⟩
  | 0, _ => by simp [zfJ, ziG]
  | k + 1, hk => by
    have e1 : zfJ (k + 1) ⟨zbH l ++ r, 0⟩ = zeC (zfJ k ⟨zbH l ++ r, 0⟩) := rfl
    rw [e1, lastN_put h r k (by omega)]
    obtain ⟨a, ha⟩ : ∃ a, l[k]? = some a := ⟨_, List.getElem?_eq_getElem (by omega)⟩
    have hd : l.drop k = a :: l.drop (k + 1) := by
      rw [List.drop_eq_getElem_cons (by omega)]
      rw [List.getElem?_eq_getElem (by omega)] at ha
      rw [Option.some.inj ha]
    have hb : zbH (l.drop k) ++ r = zls a ++ (zbH (l.drop (k + 1)) ++ r) := by rw [hd]; simp [zbH]
    unfold zeC
    dsimp only
    rw [hb, lastP_put (h a (List.mem_of_getElem? ha)), List.take_add_one, ha]
    rfl
theorem pars_put {T : zO} (h : TopsW T) : (zhT (zeO T)).s = ⟨[], 0⟩ ∧ parsF (zeO T) = T := by
  obtain ⟨l, last⟩ := T
  obtain ⟨h1, h2, h3, h4, h5⟩ := h
  simp only at h1 h2 h3 h4 h5
  have hb : zeO ⟨l, last⟩ = zci l.length ++ (zco l ++ zbH last) := rfl
  have e1 : zaZ false 8 ⟨zeO ⟨l, last⟩, 0⟩ = (l.length, ⟨zco l ++ zbH last, 0⟩) := by
    rw [hb]; exact zeA false h1 (by omega) _
  have e2 : zgv (zeO ⟨l, last⟩) = ⟨abvK zC.name l l.length, l, ⟨zbH last, 0⟩⟩ := by
    unfold zgv
    rw [e1]
    dsimp only
    rw [topN_put h2 h3 _ l.length (Nat.le_refl _), List.take_length, List.drop_length]
    simp [zco]
  have e3 : zhT (zeO ⟨l, last⟩) = ⟨last, ⟨[], 0⟩⟩ := by
    unfold zhT
    rw [e2]
    dsimp only
    have := lastN_put h5 [] 8 (by omega)
    rw [List.append_nil] at this
    rw [this, ← h4, List.take_length, List.drop_length]
    simp [zbH]
  refine ⟨by rw [e3], ?_⟩
  unfold parsF
  rw [e2, e3]
structure TopsX (T : zO) : Prop where
  names : ∀ x ∈ T.l, zbn x.name = true ∧ ∀ a ∈ x.groups, zbn a.1 = true ∧ a.2 ≤ x.next
  ans : ∀ a ∈ T.last, AnsW a
theorem TopsX.none : TopsX zbR := ⟨by simp [zbR], fun a ha => by
  have := List.eq_of_mem_replicate ha
  subst this
  exact ⟨by simp, by simp [zcI], by simp, by simp, by simp⟩⟩
theorem does_told {T : zO} (h : zdn T) (o : TOp) : zcI (zaE T o).1.1.toNat = true ∧ ((zaE T o).1.1 = 0 ∨ (zaE T o).1.2 = 0) := by
  have hz : (zaE T o).1.1 = 0 ∨ (zaE T o).1.1 = 4 ∨ (zaE T o).1.1 = 5 ∨ (zaE T o).1.1 = 6 ∨ (zaE T o).1.1 = 71 ∨ (zaE T o).1.1 = 72 ∨ (zaE T o).1.1 = 60 ∨ (zaE T o).1.1 = 61 ∨ (zaE T o).1.1 = 62 := by
    unfold zaE
    split
    · rename_i hc
      dsimp only
      unfold zar at hc ⊢
      repeat' split
      all_goals simp
    · split
      · simp
      · split
        · unfold zbw
          repeat' split
          all_goals simp
        · split
          · simp
          · split
            · simp
            · split
              · unfold zbZ
                split <;> simp
              · split
                · unfold zbY
                  repeat' split
                  all_goals simp
                · unfold zir
                  split <;> simp
  have ho : (zaE T o).1.1 = 0 ∨ (zaE T o).1.2 = 0 := by
    unfold zaE
    split
    · simp
    · split
      · simp
      · split
        · unfold zbw
          repeat' split
          all_goals simp
        · split
          · simp
          · split
            · simp
            · split
              · unfold zbZ
                split <;> simp
              · split
                · unfold zbY
                  repeat' split
                  all_goals simp
                · unfold zir
                  split <;> simp
  refine ⟨?_, ho⟩
  rcases hz with e | e | e | e | e | e | e | e | e <;> rw [e] <;> rfl
theorem doesX {T : zO} (h : TopsX T) (o : TOp) : ∀ x ∈ (zaE T o).2.2.l, zbn x.name = true ∧ ∀ a ∈ x.groups, zbn a.1 = true ∧ a.2 ≤ x.next := by
  have h := h.names
  unfold zaE
  split
  · exact h
  · rename_i hc
    have hc : zar zbn o = 0 := by simpa using hc
    obtain ⟨q1, q2, q3, q4, q5⟩ := check0 hc
    split
    · exact h
    · rename_i k0
      have hn := q3 k0
      split
      · unfold zbw
        split
        · exact h
        · split
          · exact h
          · intro x hx
            rcases List.mem_append.1 hx with hx | hx
            · exact h x (List.mem_of_mem_take hx)
            · rcases List.mem_cons.1 hx with rfl | hx
              · exact ⟨hn, by simp⟩
              · exact h x (List.mem_of_mem_drop hx)
      · split
        · exact h
        · split
          · exact h
          · rename_i x hx
            have hX := h x (List.mem_of_getElem? hx)
            have e : x.next = x.base + x.recs.length := rfl
            split
            · unfold zbZ
              split
              · exact h
              · intro y hy
                rcases zcS hy with hy | rfl
                · exact h y hy
                · refine ⟨hX.1, fun a ha => ⟨(hX.2 a ha).1, ?_⟩⟩
                  have := (hX.2 a ha).2
                  simp only [zC.next, List.length_append]; omega
            · split
              · rename_i k3
                unfold zbY
                split
                · exact h
                · rename_i h6
                  split
                  · exact h
                  · intro y hy
                    rcases zcS hy with hy | rfl
                    · exact h y hy
                    · refine ⟨hX.1, fun a ha => ?_⟩
                      have hnx : ∀ G, (zC.mk x.name x.base x.recs G).next = x.next := fun G => rfl
                      rw [hnx]
                      rcases List.mem_append.1 ha with ha | ha
                      · exact hX.2 a (List.mem_of_mem_take ha)
                      · rcases List.mem_cons.1 ha with rfl | ha
                        · exact ⟨q4 k3, by simp only; omega⟩
                        · exact hX.2 a (List.mem_of_mem_drop ha)
              · unfold zir
                split
                · exact h
                · rename_i h6
                  intro y hy
                  rcases zcS hy with hy | rfl
                  · exact h y hy
                  · refine ⟨hX.1, fun a ha => ⟨(hX.2 a ha).1, ?_⟩⟩
                    have := (hX.2 a ha).2
                    simp only [zC.next, List.length_drop]; omega
theorem applyX {T : zO} (h : TopsX T) (hI : zdn T) (c tm : Int) (o : TOp) : TopsX (zaB T c tm o).2.2.2 := by
  unfold zaB
  split
  · exact h
  · rename_i h1
    split
    · exact h
    · split
      · exact h
      · refine ⟨doesX h o, fun a ha => ?_⟩
        rcases zcS ha with ha | rfl
        · rw [zhk] at ha; exact h.ans a ha
        · have h2 := does_told hI o
          have h3 := doesR hI o
          exact ⟨by simp only; omega, ⟨h3.1.1, h2.1⟩, h3.2, h2.2, fun h => by simp only at h; omega⟩
theorem topsW_of {T : zO} (hI : zdn T) (hX : TopsX T) (h8 : T.last.length = 8) (hs : zcn zC.name T.l) (hg : ∀ x ∈ T.l, zcn Prod.fst x.groups) : TopsW T :=
  ⟨hI.len, hs, fun x hx => by
    have h1 := hI.tops x hx
    have h2 := hX.names x hx
    exact ⟨h2.1, h1.name, h1.base, h1.next, h1.recs, h1.each, h1.groups, hg x hx, fun a ha => ⟨(h2.2 a ha).1, (h1.gs a ha).1, (h1.gs a ha).2.1, (h2.2 a ha).2⟩⟩, h8, hX.ans⟩
end Go.AW
