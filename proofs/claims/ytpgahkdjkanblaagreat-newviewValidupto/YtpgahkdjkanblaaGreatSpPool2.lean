/- Requests that wait, in a list by clients: the document's pool. No program in sight. -/
import Derived.Test.YtpgahkdjkanblaaGreatRq3
import Derived.Test.YtpgahkdjkanblaaGreatNr2
import Derived.Test.YtpgahkdjkanblaaGreatSpTab
import Derived.Test.YtpgahkdjkanblaaGreatPr5
import Derived.Test.YtpgahkdjkanblaaGreatWo2
import Derived.Test.YtpgahkdjkanblaaGreatBase
set_option linter.all false
set_option linter.unusedSimpArgs false
set_option linter.unusedVariables false
namespace Go.AW

theorem znb {q : PQ} {n : Nat} {o : Option zu} (h : q[n]? = some o) : zeA q = zeA (q.take n) ++ (o.toList ++ zeA (q.drop (n + 1))) := by
  obtain ⟨hn, rfl⟩ := List.getElem?_eq_some_iff.1 h
  have e : q = q.take n ++ q[n] :: q.drop (n + 1) := by rw [List.getElem_cons_drop]; exact (List.take_append_drop n q).symm
  conv => lhs; rw [e]
  simp only [zeA, List.filterMap_append, List.filterMap_cons, id_eq]
  cases q[n] <;> rfl
theorem zrK {q : PQ} {n : Nat} (o : Option zu) (h : n < q.length) : zeA (q.set n o) = zeA (q.take n) ++ (o.toList ++ zeA (q.drop (n + 1))) := by
  have := znb (q := q.set n o) (n := n) (o := o) (by simp [h])
  rwa [List.take_set_of_le (Nat.le_refl _), List.drop_set_of_lt (by omega)] at this
theorem zih.before {q : PQ} (hq : zih q) {n : Nat} {y : zu} (h : y ∈ zeA (q.take n)) : y.client < n := by
  obtain ⟨i, hi⟩ := zoH h
  rw [List.getElem?_take] at hi
  split at hi
  · have := (hq.at_ i y hi).1; omega
  · cases hi
theorem zih.behind {q : PQ} (hq : zih q) {n : Nat} {y : zu} (h : y ∈ zeA (q.drop (n + 1))) : (n : Int) < y.client := by
  obtain ⟨i, hi⟩ := zoH h
  rw [List.getElem?_drop] at hi
  have := (hq.at_ _ y hi).1; omega
theorem of_wait {q : PQ} {c : Int} {x : zu} (h : ofF q c = some x) : x ∈ zeA q := by
  obtain ⟨_, _, h⟩ := ofF_some h
  simp only [zeA, List.mem_filterMap, id_eq, exists_eq_right]
  exact List.mem_of_getElem? h
theorem zih.client {q : PQ} (hq : zih q) {c : Int} {x : zu} (h : ofF q c = some x) : x.client = c := by
  obtain ⟨h0, h8, hg⟩ := ofF_some h
  have := (hq.at_ _ x hg).1; omega
theorem zih.of_none {q : PQ} (hq : zih q) {c : Int} (h : ∀ y ∈ zeA q, y.client ≠ c) : ofF q c = none := by
  cases ho : ofF q c with
  | none => rfl
  | some x => exact absurd (hq.client ho) (h x (of_wait ho))
theorem zuH {α : Type} {l : List α} {p : α → Bool} (h : ∀ x ∈ l, p x = true) : l.filter p = l := List.filter_eq_self.2 h
theorem zih.without {q : PQ} (hq : zih q) {c : Int} (h0 : 0 ≤ c) (h8 : c < 8) : (zeA q).filter (fun y => y.client != c) = zeA (q.set c.toNat none) := by
  have hl := hq.len
  have hg := hq.get h0 h8
  rw [znb hg, zrK none (by omega)]
  simp only [List.filter_append, Option.toList_none, List.nil_append]
  rw [zuH (l := zeA (q.take c.toNat)) fun y hy => by have := hq.before hy; simp; omega, zuH (l := zeA (q.drop (c.toNat + 1))) fun y hy => by have := hq.behind hy; simp; omega]
  congr 1
  cases ho : ofF q c with
  | none => rfl
  | some x => simp [hq.client ho]
theorem zih.place {q : PQ} (hq : zih q) {c : Int} (h0 : 0 ≤ c) (h8 : c < 8) {k : Nat} (hlo : ∀ y ∈ (zeA (q.set c.toNat none)).take k, y.client < c) (hk : k ≤ (zeA (q.set c.toNat none)).length)
    (hhi : ∀ y, (zeA (q.set c.toNat none))[k]? = some y → ¬ y.client < c) (x : zu) :
    (zeA (q.set c.toNat none)).take k ++ (x :: (zeA (q.set c.toNat none)).drop k) = zeA (q.set c.toNat (some x)) := by
  have hl := hq.len
  have e := zrK (q := q) none (show c.toNat < q.length by omega)
  have e2 := zrK (q := q) (some x) (show c.toNat < q.length by omega)
  simp only [Option.toList_none, List.nil_append, Option.toList_some] at e e2
  obtain ⟨A, hA⟩ : ∃ A, zeA (q.take c.toNat) = A := ⟨_, rfl⟩
  obtain ⟨B, hB⟩ : ∃ B, zeA (q.drop (c.toNat + 1)) = B := ⟨_, rfl⟩
  have hAlt : ∀ y ∈ A, y.client < c := fun y hy => by rw [← hA] at hy; have := hq.before hy; omega
  have hBgt : ∀ y ∈ B, c < y.client := fun y hy => by rw [← hB] at hy; have := hq.behind hy; omega
  rw [hA, hB] at e e2
  rw [e] at hlo hk hhi ⊢
  rw [e2]
  have hkA : k = A.length := by
    rcases Nat.lt_trichotomy k A.length with h | h | h
    · exact absurd (hAlt A[k] (List.getElem_mem h)) (hhi A[k] (by rw [List.getElem?_append_left h]; simp [h]))
    · exact h
    · exfalso
      rw [List.length_append] at hk
      have hb : B[0]? = some (B[0]'(by omega)) := List.getElem?_eq_getElem _
      have hm : B[0]'(by omega) ∈ (A ++ B).take k := by
        refine List.mem_of_getElem? (i := A.length) ?_
        rw [List.getElem?_take, if_pos h, List.getElem?_append_right (Nat.le_refl _), Nat.sub_self]
        exact hb
      have h1 := hlo _ hm
      have h2 := hBgt _ (List.getElem_mem (show 0 < B.length by omega))
      omega
  subst hkA
  simp

def prevC (w : List zu) : Nat → Int
  | 0 => -1
  | k + 1 => match w[k]? with | some x => x.client | none => -1
theorem zih.push {q : PQ} (hq : zih q) {x : zu} (hx : zy [x] = 0) (hlt : ∀ y ∈ zeA q, y.client < x.client) : canPut q x = true ∧ zeA (putQ q x) = zeA q ++ [x] := by
  obtain ⟨h0, h8, _⟩ := one_ok hx
  have hl := hq.len
  have hno : ofF q x.client = none := hq.of_none fun y hy => by have := hlt y hy; omega
  have hc : canPut q x = true := by simp [canPut, hx, hno, mayPut]
  refine ⟨hc, ?_⟩
  have hg := hq.get h0 h8
  rw [hno] at hg
  rw [putQ, if_pos hc, zrK _ (by omega), znb hg]
  have hB : zeA (q.drop (x.client.toNat + 1)) = [] := by
    rw [List.eq_nil_iff_forall_not_mem]
    intro y hy
    have h1 := hq.behind hy
    have h2 := hlt y (by rw [znb hg]; simp [hy])
    omega
  rw [hB]; simp
theorem zih.prev {q : PQ} (hq : zih q) {k : Nat} {x : zu} (hx : (zeA q)[k]? = some x) : prevC (zeA q) k < x.client := by
  have hxm := List.mem_of_getElem? hx
  obtain ⟨i, hi⟩ := zoH hxm
  have hxc := (hq.at_ i x hi).1
  cases k with
  | zero => simp only [prevC]; omega
  | succ k =>
    have hk := (List.getElem?_eq_some_iff.1 hx).1
    have hy : (zeA q)[k]? = some ((zeA q)[k]'(by omega)) := List.getElem?_eq_getElem _
    simp only [prevC, hy]
    -- the list is rising
    have hp : (zeA q).Pairwise fun a b => a.client < b.client := by
      have key : ∀ (l : PQ) (a : Nat), (∀ (i : Nat) x, l[i]? = some (some x) → x.client = ((a + i : Nat) : Int)) → (l.filterMap id).Pairwise fun a b => a.client < b.client := by
        intro l
        induction l with
        | nil => intro a _; simp
        | cons o l ih =>
          intro a h
          have hr := ih (a + 1) fun i x hi => by have := h (i + 1) x (by simpa using hi); rw [this]; congr 1; omega
          cases o with
          | none => simpa using hr
          | some x =>
            simp only [List.filterMap_cons, id_eq, List.pairwise_cons]
            refine ⟨fun y hy => ?_, hr⟩
            obtain ⟨j, hj⟩ := zoH (q := l) hy
            have h1 := h 0 x rfl
            have h2 := h (j + 1) y (by simpa using hj)
            omega
      exact key q 0 fun i x hi => by have := (hq.at_ i x hi).1; simpa using this
    have := List.pairwise_iff_getElem.1 hp k (k + 1) (by omega) hk (by omega)
    obtain ⟨_, rfl⟩ := List.getElem?_eq_some_iff.1 hx
    exact this
end Go.AW

/- A script of what is done to a pool; what holds little has short names, too. No program in sight. -/
set_option linter.unusedSimpArgs false
set_option linter.unusedVariables false
namespace Go.AW

def okL (l : List (List zu)) : Prop := l.length ≤ 1048576 ∧ ∀ b ∈ l, okB b ∧ b.length ≤ 1048576
theorem okL.len {l : List (List zu)} (h : okL l) : l.length ≤ 1073741824 ∧ ∀ b ∈ l, b.length ≤ 1073741824 := ⟨by have := h.1; omega, fun b hb => (h.2 b hb).1.1⟩
structure TStep where
  what : Int
  s : zu
  client : Int
  time : Int
  opn : List (List zu)
end Go.AW

/- Requests as data, and how much room they take. No program in sight. -/
set_option linter.unusedSimpArgs false
set_option linter.unusedVariables false
namespace Go.AW

theorem signedD_sz {x : zu} {n : Nat} (h : zdH (zaM x) ≤ n) (hn : n ≤ 2097152) : zlX x.op ≤ 20971520 := by
  have := opSz_bulk x.op
  simp only [zaM, opD, zdH, zhp] at h this
  omega
theorem batch_sz {b : List zu} {n : Nat} (h : zec (zbo b) ≤ n) (hn : n ≤ 2097152) : (∀ s ∈ b, zlX s.op ≤ 20971520) ∧ b.length ≤ 2097152 := by
  unfold zbo at h
  exact ⟨fun s hs => signedD_sz (Nat.le_trans (zfB (f := zaM) hs) h) hn, Nat.le_trans (zgR (f := zaM) (fun a => by simp only [zaM, zdH, zhp]; omega) b) (by omega)⟩
end Go.AW

/- The law NewviewValid, from the contracts. -/
set_option maxRecDepth 100000
set_option linter.unusedSimpArgs false
set_option linter.unusedVariables false
namespace Go.Proofs.YtpgahkdjkanblaaGreat
open Go.AW

def tyWorld : List Ty := [.slice [.slice [.int .u8]], .slice tySign]
theorem dec_world {ds : List D} (h : zeR tyWorld ds) : ∃ (tab : List (List UInt8)) (signs : List zP), ds = [.slice (ziZ tab), .slice (zas signs)] := by
  obtain ⟨d1, ds, rfl, h1, h⟩ := zaB h
  obtain ⟨d2, ds, rfl, h2, h⟩ := zaB h
  obtain rfl := zlY h
  obtain ⟨tab, rfl⟩ := dec_recs h1
  obtain ⟨signs, rfl⟩ := zko h2 (fun e he => (zwf he).imp fun _ h => h.1)
  exact ⟨tab, signs, rfl⟩
theorem changes_all {cs : List zaa} {n : Nat} (h : zec (zaP cs) ≤ n) (hn : n ≤ 1048576) (hR : ∀ c ∈ cs, zmE c) : ∀ c ∈ cs, allCh c := by
  intro c hc
  obtain ⟨_, q2⟩ := leC_bulk h
  obtain ⟨q3, q4, q5⟩ := q2 c hc
  have hb : zdH (zbm c) ≤ n := Nat.le_trans (zfB (f := zbm) hc) h
  simp only [zbm, zdH, zhp] at hb
  have hp : ∀ p ∈ c.above, (∀ x ∈ p.batch, zlX x.op ≤ 20971520) ∧ p.batch.length ≤ 2097152 ∧ leP n p := by
    intro p hp
    have h1 : zdH (zeV p) ≤ n := by
      have := zfB (f := zeV) hp
      unfold zfI at hb
      omega
    have h2 : zec (zbo p.batch) ≤ n := by simp only [zeV, zdH, zhp] at h1; omega
    have h3 := batch_sz h2 (by omega)
    exact ⟨h3.1, h3.2, q5 p hp⟩
  refine ⟨⟨by omega, by omega, fun p hpm => ?_⟩, ⟨by omega, by omega, fun p hpm => ?_⟩, fun p hpm => ?_, (hR c hc).2.2.1⟩
  · obtain ⟨a1, a2, a3⟩ := hp p hpm
    exact ⟨by have := a3.1; omega, by omega, fun x hx => sizes (a1 x hx)⟩
  · obtain ⟨a1, a2, a3⟩ := hp p hpm
    refine ⟨by have := a3.1; omega, by omega, fun x hx => ?_⟩
    obtain ⟨_, b2⟩ := a3.2
    obtain ⟨b3, b4⟩ := b2 x hx
    exact ⟨by omega, fun r hr => by have := b4 r hr; omega⟩
  · obtain ⟨a1, a2, a3⟩ := hp p hpm
    exact ⟨a1, by omega, by have := a3.1; omega⟩
def parsWorld : List (Bool × List Ty) := [(true, tyWorld), (false, [.int .i64]), (false, [.int .i64]), (false, [.slice tyChange])]
theorem args_world {xs : List AV} {n : Nat} (hn : n ≤ 1048576) (h : ArgsOk parsWorld xs n) : ∃ tab signs f view cs, xs = [.agg [.d (.slice (ziZ tab)), .d (.slice (zas signs))], .d (.int .i64 f), .d (.int .i64 view), .d (.slice (zaP cs))] ∧
    tab.length ≤ 1048576 ∧ (∀ b ∈ tab, b.length ≤ 1048576) ∧ signs.length ≤ 1048576 ∧ zny f ∧ zny view ∧ cs.length ≤ 1048576 ∧ (∀ c ∈ cs, allCh c) ∧ ∀ c ∈ cs, zmE c := by
  obtain ⟨ds, xs1, m1, hf, hb1, rfl, h⟩ := h
  obtain ⟨tab, signs, rfl⟩ := dec_world hf
  obtain ⟨ds, xs2, m2, hf, hb2, rfl, h⟩ := h
  obtain ⟨d, rfl, h1⟩ := one_of hf
  obtain ⟨f, rfl, hfr⟩ := zdo h1
  obtain ⟨ds, xs3, m3, hf, hb3, rfl, h⟩ := h
  obtain ⟨d, rfl, h1⟩ := one_of hf
  obtain ⟨view, rfl, hvr⟩ := zdo h1
  obtain ⟨ds, xs4, m4, hf, hb4, rfl, rfl⟩ := h
  obtain ⟨d, rfl, h1⟩ := one_of hf
  obtain ⟨cs, rfl, hR⟩ := zva h1 (fun e he => dec_change he)
  have hb : zec (zaP cs) ≤ 1048576 := by
    simp only [zdH, zhp] at hb1 hb2 hb3 hb4
    unfold zaP
    omega
  simp only [zdH, zhp] at hb1
  have ht := znM tab
  have hs := zqi signs
  have ht' : zec (ziZ tab) ≤ 1048576 := by omega
  refine ⟨tab, signs, f, view, cs, rfl, Nat.le_trans ht.1 ht', fun b hb => Nat.le_trans (ht.2 b hb) ht', by omega, hfr, hvr, (leC_bulk hb).1, changes_all hb (by omega) hR, hR⟩
def zjW := parsWorld
theorem zrF (xs : List AV) (n : Nat) (hn : n ≤ 1048576) (h : ArgsOk zjW xs n) : zm Tryz.prog zjj xs [] fun r _ => r = .d (.bool true) := by
  obtain ⟨tab, signs, f, view, cs, rfl, ht, htb, hs, hfr, hvr, hcl, hca, hR⟩ := args_world hn h
  clear h
  refine zc zjs.is rfl fun hl _ => zjs.goes ?_
  have hcs : (zaP cs).length = cs.length := List.length_map ..
  simp only [zjH, iN, bT, bF, eN]
  by_cases hnd : tab.Nodup
  rotate_left
  · refine zao ?_
    refine c_made16N ht (fun b hb => Nat.le_trans (htb b hb) (by omega)) hnd ?_
    refine zao ?_
    refine ztk ?_
    refine zao ?_
    refine ztk ?_
    refine zao ?_
    refine zq hl ?_
    rfl
  refine zao ?_
  refine c_made16 ht (fun b hb => Nat.le_trans (htb b hb) (by omega)) hs hnd fun W hW hI => ?_
  obtain ⟨S, hS⟩ : ∃ S, [zhc tab signs] ++ W = S := ⟨_, rfl⟩
  have hgl : (zgg [] signs).length ≤ 1048576 := by
    have := zqj signs []
    simp only [List.length_nil, Nat.zero_add] at this
    omega
  obtain ⟨G, hG⟩ : ∃ G, zgg [] signs = G := ⟨_, rfl⟩
  rw [hG] at hgl
  rw [hS, hG] at hI
  rw [hS]
  obtain ⟨hI1, hI2, hI3, hI4⟩ := hI
  obtain ⟨n, hn⟩ : ∃ n, ([zhc tab signs] : List zf).length = n := ⟨_, rfl⟩
  rw [hn] at hI1 hI2 hI3 hI4 ⊢
  obtain ⟨n2, hn2⟩ : ∃ i, n + 2 = i := ⟨_, rfl⟩
  obtain ⟨n4, hn4⟩ : ∃ i, n + 4 = i := ⟨_, rfl⟩
  obtain ⟨n6, hn6⟩ : ∃ i, n + 6 = i := ⟨_, rfl⟩
  obtain ⟨n8, hn8⟩ : ∃ i, n + 8 = i := ⟨_, rfl⟩
  rw [hn2] at hI1
  rw [hn4] at hI2
  rw [hn6] at hI3
  rw [hn8] at hI4
  rw [hn2, hn4, hn6, hn8]
  have hTI : zwx tab := ⟨hnd, ht, fun b hb => Nat.le_trans (htb b hb) (by omega)⟩
  refine zao ?_
  refine ztk ?_
  refine zH hcs ?_
  refine zl cs.length (fun k vs s => vs = [.d (.int .i64 k)] ∧ ∃ T, s = S ++ T) ⟨rfl, [], by simp⟩ ?_
  rintro k vs s hk ⟨rfl, T, rfl⟩
  have hT := hI1.app T
  have hGl := hI3.app T
  have hR1 := zx (τ := T) hI2
  have hR2 := zx (τ := T) hI4
  obtain ⟨Q, hQ⟩ : ∃ Q, S ++ T = Q := ⟨_, rfl⟩
  rw [hQ] at hT hGl hR1 hR2 ⊢
  by_cases hlt : k < cs.length
  · have hd : decide ((k : Int) < (cs.length : Int)) = true := by simp; omega
    have hx : cs[k]? = some cs[k] := by simp [hlt]
    have hxa := hca _ (List.getElem_mem hlt)
    have hgx := zQ (f := zbm) hx
    obtain ⟨c, hc⟩ : ∃ c, cs[k] = c := ⟨_, rfl⟩
    rw [hc] at hx hgx hxa
    refine zjk (zB hd (zB hgx hcs)) ?_
    refine c_nvValid (c := c) (hT.app _) (hGl.app _) hTI (by omega) hxa ?_
    refine zao ?_
    refine c_r16Valid (c := c) (zx hR1) (zx hR2) hTI (by omega) hxa ?_
    refine gq53 (wkc k (by omega)) ?_
    exact zaG.next hlt ⟨rfl, T ++ [.box (zbV c)], by rw [← hQ, List.append_assoc]⟩
  · have hd : decide ((k : Int) < (cs.length : Int)) = false := by simp; omega
    have hR1' : Q[n4]? = some (.box [.d (.slice (ziZ tab))]) := hR1
    have hR2' : Q[n8]? = some (.box [.d (.slice (zrE G))]) := hR2
    have htl : (ziZ tab).length = tab.length := List.length_map ..
    have hll : (zrE G).length = G.length := List.length_map ..
    refine zH (zB hd (zB hcs (zB hR1' htl))) ?_
    refine c_tLen hT ?_
    refine gq53 (zB hR2' hll) ?_
    refine c_gLen hGl ?_
    refine gq67 ?_
    exact finP (σ := []) (τ := Q) hl rfl
end Go.Proofs.YtpgahkdjkanblaaGreat

/- NewviewValid: for every input of bulk at most 1048576 the law answers true and leaves its arguments as they were. No condition beside the given row's. -/
set_option maxRecDepth 100000
namespace Go.Proofs.YtpgahkdjkanblaaGreat
open Go.AW Go.ChangeShapes Go.WideShapes Go.ChangeAt Go.RowKit
theorem zoK {H : Type} {enc : TypeId × Value → H} {P : Program} {w : World} {sp : Nat → Bool} {held : Bool} {vs : List Value} {ds gs : List (DataW H)} {ps : List MemPlace} {ts : List TypeId} (hl : ts.length = 4)
    (h : DataW.TrodAll enc P w 0 sp held ts vs ds ps) (hg : gs = []) : (Rows.newviewValidSpec).fn H (ds ++ gs) = { results := [.lit (.bool true)], args := ds } := by
  subst hg
  have hd : ds.length = 4 := by
    have : ∀ (ts : List TypeId) (vs : List Value) (ds : List (DataW H)) (ps : List MemPlace), DataW.TrodAll enc P w 0 sp held ts vs ds ps → ds.length = ts.length := by
      intro ts
      induction ts with
      | nil => intro vs ds ps h; cases vs <;> cases ds <;> simp [DataW.TrodAll] at h ⊢
      | cons t ts ih =>
        intro vs ds ps h
        obtain ⟨v, vs', d, ds', p, q, rfl, rfl, rfl, h1, h2⟩ := trodAll_cons h
        simp [ih vs' ds' q h2]
    rw [this ts vs ds ps h, hl]
  rw [List.append_nil]
  match ds, hd with
  | [_, _, _, _], _ => rfl
theorem zon (os : Os) (started : os.Started) (H : Type) (enc : TypeId × Value → H) (F : Stop.Interp) :
    ReturnsInHanded {} Tryz.checked os 5 .any ((Rows.OpenSpec.upto Rows.newviewValidSpec).pre6 enc Tryz.prog Tryz.f5 Rows.newviewValidUptoRow.domain false) (((Rows.OpenSpec.upto Rows.newviewValidSpec).at F).post enc Tryz.prog Tryz.f5 false true false false) := by
  refine returnsInHanded_of_cond (C := Tryz.checked) (s := Rows.OpenSpec.upto Rows.newviewValidSpec) (k := Rows.uptoSmall) rfl own started (by kernel_rfl) Tryz.func5
    (OpenSpec.witness (enc := enc) (C := Tryz.checked) (s := Rows.OpenSpec.upto Rows.newviewValidSpec) (k := Rows.uptoSmall) rfl false ⟨#[], #[(.agg #[(.slice none 0 0), (.slice none 0 0)]), (.int .i64 0), (.int .i64 0), (.slice none 0 0)], []⟩ 24 (by kernel_rfl) (by kernel_rfl) (by kernel_rfl)
      (x := ([(.agg [.nil, .nil]), (.lit (.int .i64 0)), (.lit (.int .i64 0)), .nil], [], [])) (by kernel_rfl) rfl (by kernel_rfl)) ?_
  intro W base args ds gs before hval hW _ hk _
  have hW0 : DataW.Whole enc Tryz.prog Tryz.f5.params.toList (Rows.newviewValidSpec).vars false W args.toList ds gs before := hW
  have hg : gs = [] := by
    obtain ⟨p, q, hA, hV, _⟩ := hW0
    cases gs with
    | nil => rfl
    | cons => simp [Rows.newviewValidSpec, DataW.TrodVars] at hV
  refine law_calls isBulk hval hW0 (pars := zjW) (by kernel_rfl) rfl (by obtain ⟨p, q, hA, _⟩ := hW0; exact zoK (by kernel_rfl) hA hg) laidOut mapsLaid slicesFull (by kernel_rfl) (tb := 4) (by kernel_rfl) (by kernel_rfl) fun xs has => zrF xs _ ?_ has
  have := small hk
  rw [hg, List.append_nil] at this
  exact this
theorem newviewValid_upto : Rows.NewviewValidUptoSaid :=
  OpenClaim.holds_of_cond 5 Tryz.f5 rfl rfl rfl rfl rfl rfl rfl ⟨rfl, rfl, rfl, rfl, rfl⟩ rfl rfl rfl rfl rfl (by kernel_rfl) Tryz.func5 (by kernel_rfl)
    (of_decide_eq_true (by kernel_rfl)) (by unfold Func.isWrapper; first | (rw [if_pos (by decide +kernel)]; kernel_rfl) | (rw [if_neg (by decide +kernel)]; exact ⟨rfl, rfl⟩))
    (fun os started H enc _ F => zon os started H enc F)
end Go.Proofs.YtpgahkdjkanblaaGreat
