/- Requests that wait, in a list by clients: the document's pool. No program in sight. -/
import Derived.Test.YtpgahkdjkanblaaGreatRq3
import Derived.Test.YtpgahkdjkanblaaGreatNr2
import Derived.Test.YtpgahkdjkanblaaGreatSpTab
import Derived.Test.YtpgahkdjkanblaaGreatPt2
import Derived.Test.YtpgahkdjkanblaaGreatWo1
set_option linter.all false
set_option linter.unusedSimpArgs false
set_option linter.unusedVariables false
namespace Go.AW

theorem znt {q : PQ} {n : Nat} {o : Option zu} (h : q[n]? = some o) : zfj q = zfj (q.take n) ++ (o.toList ++ zfj (q.drop (n + 1))) := by
  obtain ⟨hn, rfl⟩ := List.getElem?_eq_some_iff.1 h
  have e : q = q.take n ++ q[n] :: q.drop (n + 1) := by rw [List.getElem_cons_drop]; exact (List.take_append_drop n q).symm
  conv => lhs; rw [e]
  simp only [zfj, List.filterMap_append, List.filterMap_cons, id_eq]
  cases q[n] <;> rfl
theorem zrx {q : PQ} {n : Nat} (o : Option zu) (h : n < q.length) : zfj (q.set n o) = zfj (q.take n) ++ (o.toList ++ zfj (q.drop (n + 1))) := by
  have := znt (q := q.set n o) (n := n) (o := o) (by simp [h])
  rwa [List.take_set_of_le (Nat.le_refl _), List.drop_set_of_lt (by omega)] at this
theorem ziK.before {q : PQ} (hq : ziK q) {n : Nat} {y : zu} (h : y ∈ zfj (q.take n)) : y.client < n := by
  obtain ⟨i, hi⟩ := zoR h
  rw [List.getElem?_take] at hi
  split at hi
  · have := (hq.at_ i y hi).1; omega
  · cases hi
theorem ziK.behind {q : PQ} (hq : ziK q) {n : Nat} {y : zu} (h : y ∈ zfj (q.drop (n + 1))) : (n : Int) < y.client := by
  obtain ⟨i, hi⟩ := zoR h
  rw [List.getElem?_drop] at hi
  have := (hq.at_ _ y hi).1; omega
theorem of_wait {q : PQ} {c : Int} {x : zu} (h : ofF q c = some x) : x ∈ zfj q := by
  obtain ⟨_, _, h⟩ := ofF_some h
  simp only [zfj, List.mem_filterMap, id_eq, exists_eq_right]
  exact List.mem_of_getElem? h
theorem ziK.client {q : PQ} (hq : ziK q) {c : Int} {x : zu} (h : ofF q c = some x) : x.client = c := by
  obtain ⟨h0, h8, hg⟩ := ofF_some h
  have := (hq.at_ _ x hg).1; omega
theorem ziK.of_none {q : PQ} (hq : ziK q) {c : Int} (h : ∀ y ∈ zfj q, y.client ≠ c) : ofF q c = none := by
  cases ho : ofF q c with
  | none => rfl
  | some x => exact absurd (hq.client ho) (h x (of_wait ho))
theorem ztN {α : Type} {l : List α} {p : α → Bool} (h : ∀ x ∈ l, p x = true) : l.filter p = l := List.filter_eq_self.2 h
theorem ziK.without {q : PQ} (hq : ziK q) {c : Int} (h0 : 0 ≤ c) (h8 : c < 8) : (zfj q).filter (fun y => y.client != c) = zfj (q.set c.toNat none) := by
  have hl := hq.len
  have hg := hq.get h0 h8
  rw [znt hg, zrx none (by omega)]
  simp only [List.filter_append, Option.toList_none, List.nil_append]
  rw [ztN (l := zfj (q.take c.toNat)) fun y hy => by have := hq.before hy; simp; omega, ztN (l := zfj (q.drop (c.toNat + 1))) fun y hy => by have := hq.behind hy; simp; omega]
  congr 1
  cases ho : ofF q c with
  | none => rfl
  | some x => simp [hq.client ho]
theorem ziK.place {q : PQ} (hq : ziK q) {c : Int} (h0 : 0 ≤ c) (h8 : c < 8) {k : Nat} (hlo : ∀ y ∈ (zfj (q.set c.toNat none)).take k, y.client < c) (hk : k ≤ (zfj (q.set c.toNat none)).length)
    (hhi : ∀ y, (zfj (q.set c.toNat none))[k]? = some y → ¬ y.client < c) (x : zu) :
    (zfj (q.set c.toNat none)).take k ++ (x :: (zfj (q.set c.toNat none)).drop k) = zfj (q.set c.toNat (some x)) := by
  have hl := hq.len
  have e := zrx (q := q) none (show c.toNat < q.length by omega)
  have e2 := zrx (q := q) (some x) (show c.toNat < q.length by omega)
  simp only [Option.toList_none, List.nil_append, Option.toList_some] at e e2
  obtain ⟨A, hA⟩ : ∃ A, zfj (q.take c.toNat) = A := ⟨_, rfl⟩
  obtain ⟨B, hB⟩ : ∃ B, zfj (q.drop (c.toNat + 1)) = B := ⟨_, rfl⟩
  have hAlt : ∀ y ∈ A, y.client < c := fun y hy => by rw [← hA] at hy; have := hq.before hy; omega
  have hBgt : ∀ y ∈ B, c < y.client := fun y hy => by rw [← hB] at hy; have := hq.behind hy; omega
  rw [hA, hB] at e e2
  rw [e] at hlo hk hhi ⊢
  rw [e2]
  have hkA : k = A.length := by
    rcases Nat.lt_trichotomy k A.length with h | h | h
    · exact absurd (hAlt A[k] (List.getElem_mem h)) (hhi A[k] (by rw [List.getElem?_append_left h]; simp [h]))
    · exact h
    · exfalso
      rw [List.length_append] at hk
      have hb : B[0]? = some (B[0]'(by omega)) := List.getElem?_eq_getElem _
      have hm : B[0]'(by omega) ∈ (A ++ B).take k := by
        refine List.mem_of_getElem? (i := A.length) ?_
        rw [List.getElem?_take, if_pos h, List.getElem?_append_right (Nat.le_refl _), Nat.sub_self]
        exact hb
      have h1 := hlo _ hm
      have h2 := hBgt _ (List.getElem_mem (show 0 < B.length by omega))
      omega
  subst hkA
  simp

def prevC (w : List zu) : Nat → Int
  | 0 => -1
  | k + 1 => match w[k]? with | some x => x.client | none => -1
theorem ziK.push {q : PQ} (hq : ziK q) {x : zu} (hx : zD [x] = 0) (hlt : ∀ y ∈ zfj q, y.client < x.client) : canPut q x = true ∧ zfj (putQ q x) = zfj q ++ [x] := by
  obtain ⟨h0, h8, _⟩ := one_ok hx
  have hl := hq.len
  have hno : ofF q x.client = none := hq.of_none fun y hy => by have := hlt y hy; omega
  have hc : canPut q x = true := by simp [canPut, hx, hno, mayPut]
  refine ⟨hc, ?_⟩
  have hg := hq.get h0 h8
  rw [hno] at hg
  rw [putQ, if_pos hc, zrx _ (by omega), znt hg]
  have hB : zfj (q.drop (x.client.toNat + 1)) = [] := by
    rw [List.eq_nil_iff_forall_not_mem]
    intro y hy
    have h1 := hq.behind hy
    have h2 := hlt y (by rw [znt hg]; simp [hy])
    omega
  rw [hB]; simp
theorem ziK.prev {q : PQ} (hq : ziK q) {k : Nat} {x : zu} (hx : (zfj q)[k]? = some x) : prevC (zfj q) k < x.client := by
  have hxm := List.mem_of_getElem? hx
  obtain ⟨i, hi⟩ := zoR hxm
  have hxc := (hq.at_ i x hi).1
  cases k with
  | zero => simp only [prevC]; omega
  | succ k =>
    have hk := (List.getElem?_eq_some_iff.1 hx).1
    have hy : (zfj q)[k]? = some ((zfj q)[k]'(by omega)) := List.getElem?_eq_getElem _
    simp only [prevC, hy]
    -- the list is rising
    have hp : (zfj q).Pairwise fun a b => a.client < b.client := by
      have key : ∀ (l : PQ) (a : Nat), (∀ (i : Nat) x, l[i]? = some (some x) → x.client = ((a + i : Nat) : Int)) → (l.filterMap id).Pairwise fun a b => a.client < b.client := by
        intro l
        induction l with
        | nil => intro a _; simp
        | cons o l ih =>
          intro a h
          have hr := ih (a + 1) fun i x hi => by have := h (i + 1) x (by simpa using hi); rw [this]; congr 1; omega
          cases o with
          | none => simpa using hr
          | some x =>
            simp only [List.filterMap_cons, id_eq, List.pairwise_cons]
            refine ⟨fun y hy => ?_, hr⟩
            obtain ⟨j, hj⟩ := zoR (q := l) hy
            have h1 := h 0 x rfl
            have h2 := h (j + 1) y (by simpa using hj)
            omega
      exact key q 0 fun i x hi => by have := (hq.at_ i x hi).1; simpa using this
    have := List.pairwise_iff_getElem.1 hp k (k + 1) (by omega) hk (by omega)
    obtain ⟨_, rfl⟩ := List.getElem?_eq_some_iff.1 hx
    exact this
end Go.AW

/- A script of what is done to a pool; what holds little has short names, too. No program in sight. -/
set_option linter.unusedSimpArgs false
set_option linter.unusedVariables false
namespace Go.AW

def okL (l : List (List zu)) : Prop := l.length ≤ 1048576 ∧ ∀ b ∈ l, okB b ∧ b.length ≤ 1048576
theorem okL.len {l : List (List zu)} (h : okL l) : l.length ≤ 1073741824 ∧ ∀ b ∈ l, b.length ≤ 1073741824 := ⟨by have := h.1; omega, fun b hb => (h.2 b hb).1.1⟩
structure TStep where
  what : Int
  s : zu
  client : Int
  time : Int
  opn : List (List zu)
end Go.AW

/- Requests as data, and how much room they take. No program in sight. -/
set_option linter.unusedSimpArgs false
set_option linter.unusedVariables false
namespace Go.AW

theorem signedD_sz {x : zu} {n : Nat} (h : zer (zbl x) ≤ n) (hn : n ≤ 2097152) : zmB x.op ≤ 20971520 := by
  have := opSz_bulk x.op
  simp only [zbl, opD, zer, zhU] at h this
  omega
theorem batch_sz {b : List zu} {n : Nat} (h : zeO (zbD b) ≤ n) (hn : n ≤ 2097152) : (∀ s ∈ b, zmB s.op ≤ 20971520) ∧ b.length ≤ 2097152 := by
  unfold zbD at h
  exact ⟨fun s hs => signedD_sz (Nat.le_trans (zgf (f := zbl) hs) h) hn, Nat.le_trans (zhs (f := zbl) (fun a => by simp only [zbl, zer, zhU]; omega) b) (by omega)⟩
end Go.AW

/- The law NewviewValid, from the contracts. -/
set_option maxRecDepth 100000
set_option linter.unusedSimpArgs false
set_option linter.unusedVariables false
namespace Go.Proofs.YtpgahkdjkanblaaGreat
open Go.AW

def tyWorld : List Ty := [.slice [.slice [.int .u8]], .slice tySign]
theorem dec_world {ds : List D} (h : zfD tyWorld ds) : ∃ (tab : List (List UInt8)) (signs : List zt), ds = [.slice (zkw tab), .slice (zab signs)] := by
  obtain ⟨d1, ds, rfl, h1, h⟩ := zaG h
  obtain ⟨d2, ds, rfl, h2, h⟩ := zaG h
  obtain rfl := zmC h
  obtain ⟨tab, rfl⟩ := dec_recs h1
  obtain ⟨signs, rfl⟩ := zkQ h2 (fun e he => (zuS he).imp fun _ h => h.1)
  exact ⟨tab, signs, rfl⟩
theorem changes_all {cs : List zO} {n : Nat} (h : zeO (zaL cs) ≤ n) (hn : n ≤ 1048576) (hR : ∀ c ∈ cs, zik c) : ∀ c ∈ cs, zoM c := by
  intro c hc
  obtain ⟨_, q2⟩ := leC_bulk h
  obtain ⟨q3, q4, q5⟩ := q2 c hc
  have hb : zer (zbH c) ≤ n := Nat.le_trans (zgf (f := zbH) hc) h
  simp only [zbH, zer, zhU] at hb
  have hp : ∀ p ∈ c.above, (∀ x ∈ p.batch, zmB x.op ≤ 20971520) ∧ p.batch.length ≤ 2097152 ∧ leP n p := by
    intro p hp
    have h1 : zer (zgI p) ≤ n := by
      have := zgf (f := zgI) hp
      unfold zfG at hb
      omega
    have h2 : zeO (zbD p.batch) ≤ n := by simp only [zgI, zer, zhU] at h1; omega
    have h3 := batch_sz h2 (by omega)
    exact ⟨h3.1, h3.2, q5 p hp⟩
  refine ⟨⟨by omega, by omega, fun p hpm => ?_⟩, ⟨by omega, by omega, fun p hpm => ?_⟩, fun p hpm => ?_, (hR c hc).2.2.1⟩
  · obtain ⟨a1, a2, a3⟩ := hp p hpm
    exact ⟨by have := a3.1; omega, by omega, fun x hx => zuw (a1 x hx)⟩
  · obtain ⟨a1, a2, a3⟩ := hp p hpm
    refine ⟨by have := a3.1; omega, by omega, fun x hx => ?_⟩
    obtain ⟨_, b2⟩ := a3.2
    obtain ⟨b3, b4⟩ := b2 x hx
    exact ⟨by omega, fun r hr => by have := b4 r hr; omega⟩
  · obtain ⟨a1, a2, a3⟩ := hp p hpm
    exact ⟨a1, by omega, by have := a3.1; omega⟩
def parsWorld : List (Bool × List Ty) := [(true, tyWorld), (false, [.int .i64]), (false, [.int .i64]), (false, [.slice tyChange])]
theorem args_world {xs : List AV} {n : Nat} (hn : n ≤ 1048576) (h : ArgsOk parsWorld xs n) : ∃ tab signs f view cs, xs = [.agg [.d (.slice (zkw tab)), .d (.slice (zab signs))], .d (.int .i64 f), .d (.int .i64 view), .d (.slice (zaL cs))] ∧
    tab.length ≤ 1048576 ∧ (∀ b ∈ tab, b.length ≤ 1048576) ∧ signs.length ≤ 1048576 ∧ znV f ∧ znV view ∧ cs.length ≤ 1048576 ∧ (∀ c ∈ cs, zoM c) ∧ ∀ c ∈ cs, zik c := by
  obtain ⟨ds, xs1, m1, hf, hb1, rfl, h⟩ := h
  obtain ⟨tab, signs, rfl⟩ := dec_world hf
  obtain ⟨ds, xs2, m2, hf, hb2, rfl, h⟩ := h
  obtain ⟨d, rfl, h1⟩ := one_of hf
  obtain ⟨f, rfl, hfr⟩ := zdR h1
  obtain ⟨ds, xs3, m3, hf, hb3, rfl, h⟩ := h
  obtain ⟨d, rfl, h1⟩ := one_of hf
  obtain ⟨view, rfl, hvr⟩ := zdR h1
  obtain ⟨ds, xs4, m4, hf, hb4, rfl, rfl⟩ := h
  obtain ⟨d, rfl, h1⟩ := one_of hf
  obtain ⟨cs, rfl, hR⟩ := ztZ h1 (fun e he => dec_change he)
  have hb : zeO (zaL cs) ≤ 1048576 := by
    simp only [zer, zhU] at hb1 hb2 hb3 hb4
    unfold zaL
    omega
  simp only [zer, zhU] at hb1
  have ht := zof tab
  have hs := zpZ signs
  have ht' : zeO (zkw tab) ≤ 1048576 := by omega
  refine ⟨tab, signs, f, view, cs, rfl, Nat.le_trans ht.1 ht', fun b hb => Nat.le_trans (ht.2 b hb) ht', by omega, hfr, hvr, (leC_bulk hb).1, changes_all hb (by omega) hR, hR⟩
end Go.Proofs.YtpgahkdjkanblaaGreat
