/- Contracts: requests sealed, and whether they are valid; a batch's number. -/
import Derived.Test.YtcappjcojggehaaGreatId4
import Derived.Test.YtcappjcojggehaaGreatRq2
import Derived.Test.YtcappjcojggehaaGreatOpS
import Derived.Test.YtcappjcojggehaaGreatAwFrz
import Derived.Test.YtcappjcojggehaaGreatRc2
set_option linter.all false
set_option maxRecDepth 100000
set_option linter.unusedSimpArgs false
set_option linter.unusedVariables false
namespace Go.Proofs.YtcappjcojggehaaGreat
open Go.AW

theorem TabAt.put {σ : List AObj} {id m t : Nat} {l : List (List UInt8)} (h : TabAt σ id m t l) (l' : List (List UInt8)) : TabAt (putTab σ id m t l') id m t l' := by
  obtain ⟨n1, n2, n3⟩ := h.ne
  have h1 := zgf h.box; have h2 := zgf h.map; have h3 := zgf h.tok
  unfold putTab
  refine ⟨?_, ?_, ?_⟩
  · rw [List.getElem?_set_ne (Ne.symm n1), List.getElem?_set_self (by simpa using h1)]
  · rw [List.getElem?_set_self (by simpa using h2)]
  · rw [List.getElem?_set_ne n3, List.getElem?_set_ne n2, List.getElem?_set_self h3]
theorem LedAt.put {σ : List AObj} {id m t : Nat} {g : List TSign} (h : LedAt σ id m t g) (g' : List TSign) : LedAt (putLed σ id m t g') id m t g' := by
  obtain ⟨n1, n2, n3⟩ := h.ne
  have h1 := zgf h.box; have h2 := zgf h.map; have h3 := zgf h.tok
  unfold putLed
  refine ⟨?_, ?_, ?_⟩
  · rw [List.getElem?_set_self (by simpa using h1)]
  · rw [List.getElem?_set_ne n1, List.getElem?_set_ne (Ne.symm n3), List.getElem?_set_self h2]
  · rw [List.getElem?_set_ne n2, List.getElem?_set_self (by simpa using h3)]
/-- tables and ledgers stand apart -/
theorem apart2 {σ : List AObj} {id m t id2 m2 t2 : Nat} {l : List (List UInt8)} {g : List TSign} (hT : TabAt σ id m t l) (hG : LedAt σ id2 m2 t2 g) (h1 : id ≠ id2) (h2 : m ≠ m2) :
    (id ≠ m2 ∧ id ≠ t2) ∧ (m ≠ id2 ∧ m ≠ t2) ∧ (t ≠ id2 ∧ t ≠ m2 ∧ t ≠ t2) := by
  refine ⟨⟨?_, ?_⟩, ⟨?_, ?_⟩, ⟨?_, ?_, ?_⟩⟩ <;> intro e <;> subst e
  · have := hT.box; rw [hG.map] at this; cases this
  · have := hT.box; rw [hG.tok] at this; cases this
  · have := hT.map; rw [hG.box] at this; cases this
  · have := hT.map; rw [hG.tok] at this; cases this
  · have := hT.tok; rw [hG.box] at this; cases this
  · have := hT.tok; rw [hG.map] at this; cases this
  · have := hT.tok; rw [hG.tok] at this; cases this
theorem LedAt.putTab {σ : List AObj} {id m t id2 m2 t2 : Nat} {l : List (List UInt8)} {g : List TSign} (hT : TabAt σ id m t l) (hG : LedAt σ id2 m2 t2 g) (h1 : id ≠ id2) (h2 : m ≠ m2) (l' : List (List UInt8)) :
    LedAt (putTab σ id m t l') id2 m2 t2 g := by
  obtain ⟨⟨a1, a2⟩, ⟨b1, b2⟩, ⟨c1, c2, c3⟩⟩ := apart2 hT hG h1 h2
  unfold Go.Proofs.YtcappjcojggehaaGreat.putTab
  refine ⟨?_, ?_, ?_⟩
  · rw [List.getElem?_set_ne b1, List.getElem?_set_ne h1, List.getElem?_set_ne c1]; exact hG.box
  · rw [List.getElem?_set_ne h2, List.getElem?_set_ne a1, List.getElem?_set_ne c2]; exact hG.map
  · rw [List.getElem?_set_ne b2, List.getElem?_set_ne a2, List.getElem?_set_ne c3]; exact hG.tok
theorem TabAt.putLed {σ : List AObj} {id m t id2 m2 t2 : Nat} {l : List (List UInt8)} {g : List TSign} (hT : TabAt σ id m t l) (hG : LedAt σ id2 m2 t2 g) (h1 : id ≠ id2) (h2 : m ≠ m2) (g' : List TSign) :
    TabAt (putLed σ id2 m2 t2 g') id m t l := by
  obtain ⟨⟨a1, a2⟩, ⟨b1, b2⟩, ⟨c1, c2, c3⟩⟩ := apart2 hT hG h1 h2
  unfold Go.Proofs.YtcappjcojggehaaGreat.putLed
  refine ⟨?_, ?_, ?_⟩
  · rw [List.getElem?_set_ne (Ne.symm h1), List.getElem?_set_ne (Ne.symm a2), List.getElem?_set_ne (Ne.symm a1)]; exact hT.box
  · rw [List.getElem?_set_ne (Ne.symm b1), List.getElem?_set_ne (Ne.symm b2), List.getElem?_set_ne (Ne.symm h2)]; exact hT.map
  · rw [List.getElem?_set_ne (Ne.symm c1), List.getElem?_set_ne (Ne.symm c3), List.getElem?_set_ne (Ne.symm c2)]; exact hT.tok

def noSg : zk := ⟨0, 0, noOp, 0, 0⟩
def sealE (L : List (List UInt8)) (x : zk) : Int := if zJ x ≠ 0 then zJ x else signF (keyF x.client) (sumN L (reqB x))
def sealS (L : List (List UInt8)) (x : zk) : zk := if sealE L x = 0 then ⟨x.client, x.time, x.op, keyF x.client, sumN L (reqB x)⟩ else noSg
def sealL (L : List (List UInt8)) (x : zk) : List (List UInt8) := if zJ x ≠ 0 then L else sumL L (reqB x)
def sealG (L : List (List UInt8)) (G : List TSign) (x : zk) : List TSign := if zJ x ≠ 0 then G else signG G (keyF x.client) (sumN L (reqB x))
/-- what a table holds -/
structure TabI (L : List (List UInt8)) : Prop where
  nd : L.Nodup
  len : L.length ≤ 1048576
  each : ∀ b ∈ L, b.length ≤ 1073741824
theorem TabI.nil : TabI [] := ⟨.nil, by simp, by simp⟩
theorem TabI.sum {L : List (List UInt8)} (h : TabI L) {b : List UInt8} (hb : b.length ≤ 1073741824) : TabI (sumL L b) := by
  unfold sumL
  cases ho : lookF L b with
  | some k => exact h
  | none =>
    simp only
    split
    · exact h
    · rename_i hl
      have hn : b ∉ L := fun hm => by
        obtain ⟨i, hi⟩ := List.mem_iff_getElem?.1 hm
        exact znX ho hm
      refine ⟨?_, by simp; omega, fun x hx => ?_⟩
      · rw [List.nodup_append]
        refine ⟨h.nd, by simp, fun a ha c hc => ?_⟩
        simp at hc; subst hc
        exact fun e => hn (e ▸ ha)
      · rcases List.mem_append.1 hx with hx | hx
        · exact h.each x hx
        · simp at hx; subst hx; exact hb
end Go.Proofs.YtcappjcojggehaaGreat

/- Requests that wait: of each client at most one. No program in sight. -/
set_option linter.unusedSimpArgs false
set_option linter.unusedVariables false
namespace Go.AW

abbrev PQ := List (Option zk)
structure PoolI (q : PQ) : Prop where
  len : q.length = 8
  at_ : ∀ (i : Nat) x, q[i]? = some (some x) → x.client = i ∧ zA [x] = 0 ∧ okO x.op
def waitF (q : PQ) : List zk := q.filterMap id
def ofF (q : PQ) (c : Int) : Option zk := if 0 ≤ c ∧ c < 8 then (q[c.toNat]?).join else none
def mayPut : Option zk → Int → Bool
  | some y, t => decide (y.time < t)
  | none, _ => true
def mayDone : Option zk → Int → Bool
  | some y, t => decide (y.time ≤ t)
  | none, _ => false
def canPut (q : PQ) (x : zk) : Bool := decide (zA [x] = 0) && mayPut (ofF q x.client) x.time
def putQ (q : PQ) (x : zk) : PQ := if canPut q x = true then q.set x.client.toNat (some x) else q
def canDone (q : PQ) (c t : Int) : Bool := mayDone (ofF q c) t
def doneQ (q : PQ) (c t : Int) : PQ := if canDone q c t = true then q.set c.toNat none else q

theorem one_ok {x : zk} (h : zA [x] = 0) : 0 ≤ x.client ∧ x.client < 8 ∧ 1 ≤ x.time ∧ x.time ≤ 9007199254740992 ∧ zaT nameF x.op = 0 ∧ zJ x = 0 ∧ zag x.key x.dig = 0 := by
  simp only [zA, List.length_singleton, errsF, errF] at h
  have h1 : ¬ (1 > 4) := by omega
  rw [if_neg h1] at h
  by_cases hr : zJ x = 0
  · by_cases hs : zag x.key x.dig = 0
    · unfold zJ at hr
      split at hr
      · cases hr
      · rename_i hc
        have hr' : zJ x = 0 := by unfold zJ; rw [if_neg hc]; exact hr
        exact ⟨by omega, by omega, by omega, by omega, hr, hr', hs⟩
    · exfalso
      simp [hr, hs] at h
  · exfalso
    simp [hr] at h
theorem ofF_some {q : PQ} {c : Int} {x : zk} (h : ofF q c = some x) : 0 ≤ c ∧ c < 8 ∧ q[c.toNat]? = some (some x) := by
  unfold ofF at h
  split at h
  · rename_i hc
    refine ⟨hc.1, hc.2, ?_⟩
    cases hq : q[c.toNat]? with
    | none => rw [hq] at h; cases h
    | some o => rw [hq] at h; simp at h; rw [h]
  · cases h
theorem PoolI.get {q : PQ} (hq : PoolI q) {c : Int} (h0 : 0 ≤ c) (h8 : c < 8) : q[c.toNat]? = some (ofF q c) := by
  have hl := hq.len
  have : q[c.toNat]? = some (q[c.toNat]'(by omega)) := List.getElem?_eq_getElem _
  unfold ofF
  rw [if_pos ⟨h0, h8⟩, this]
  rfl
theorem PoolI.put {q : PQ} (hq : PoolI q) {x : zk} (hx : okO x.op) : PoolI (putQ q x) := by
  unfold putQ
  split
  · rename_i hc
    simp only [canPut, Bool.and_eq_true, decide_eq_true_eq] at hc
    obtain ⟨h0, h8, _⟩ := one_ok hc.1
    refine ⟨by simp [hq.len], fun i y h => ?_⟩
    rw [List.getElem?_set] at h
    split at h
    · rename_i e
      split at h
      · simp at h; subst h
        exact ⟨by omega, hc.1, hx⟩
      · cases h
    · exact hq.at_ i y h
  · exact hq
theorem PoolI.done {q : PQ} (hq : PoolI q) {c t : Int} : PoolI (doneQ q c t) := by
  unfold doneQ
  split
  · refine ⟨by simp [hq.len], fun i y h => ?_⟩
    rw [List.getElem?_set] at h
    split at h
    · split at h
      · simp at h
      · cases h
    · exact hq.at_ i y h
  · exact hq
theorem waitF_mem {q : PQ} {x : zk} (h : x ∈ waitF q) : ∃ i : Nat, q[i]? = some (some x) := by
  simp only [waitF, List.mem_filterMap, id_eq, exists_eq_right] at h
  exact List.mem_iff_getElem?.1 h
end Go.AW

/- Contracts: a pool: made, asked, put into, done. -/
set_option maxRecDepth 100000
set_option linter.unusedSimpArgs false
set_option linter.unusedVariables false
namespace Go.Proofs.YtcappjcojggehaaGreat
open Go.AW

end Go.Proofs.YtcappjcojggehaaGreat

/- Contracts: a pool: what waits. -/
set_option maxRecDepth 100000
set_option linter.unusedSimpArgs false
set_option linter.unusedVariables false
namespace Go.Proofs.YtcappjcojggehaaGreat
open Go.AW

end Go.Proofs.YtcappjcojggehaaGreat

/- Contracts: what comes next out of a pool. -/
set_option maxRecDepth 100000
set_option linter.unusedSimpArgs false
set_option linter.unusedVariables false
namespace Go.Proofs.YtcappjcojggehaaGreat
open Go.AW

theorem any_take {α : Type} {l : List α} {p : α → Bool} {k : Nat} {x : α} (h : l[k]? = some x) (h0 : (l.take k).any p = false) (hx : p x = false) : (l.take (k + 1)).any p = false := by
  rw [List.take_add_one, h]; simp [List.any_append, h0, hx]
theorem any_mem {α : Type} {l : List α} {p : α → Bool} {k : Nat} {x : α} (h : l[k]? = some x) (hx : p x = true) : l.any p = true := List.any_eq_true.2 ⟨x, List.mem_of_getElem? h, hx⟩
/-- slices.IndexFunc over a batch, of a function that tells 'p' -/
theorem ziP {σ : List AObj} {b : List zk} {f : FuncId} {cap : List AV} {p : zk → Bool} (hb : b.length ≤ 1073741824) (hf : ∀ x ∈ b, ∀ K : AV → List AObj → Prop, K (.d (.bool (p x))) σ → ACall Tryz.prog f (zcN x :: cap) σ K)
    {K : AV → List AObj → Prop} (hK : ∀ r : Int, decide (r ≥ 0) = b.any p → K (.d (.int .i64 r)) σ) : ACall Tryz.prog zaq [.d (.slice (zaO b)), .fn (.func f) [] cap] σ K := by
  refine zo zbB rfl fun hl _ => zbF ?_
  simp only [zaK]
  (repeat' (first | (refine gq39 ?_; try with_reducible exact True.intro) | ((with_reducible refine And.intro ?_ ?_); focus (first | omega | rfl | decide | (simp; done)))))
  refine zU b.length (fun k vs s => vs = [.d (.int .i64 k)] ∧ s = σ ∧ (b.take k).any p = false) ⟨rfl, rfl, by simp⟩ ?_
  rintro k vs s hk ⟨rfl, rfl, hno⟩
  by_cases hlt : k < b.length
  · have hd : decide ((k : Int) < (b.length : Int)) = true := by simp; omega
    have hx : b[k]? = some b[k] := by simp [hlt]
    have hfx := hf _ (List.getElem_mem hlt)
    have hgx := zas (f := zaJ) hx
    obtain ⟨x, hxe⟩ : ∃ x, b[k] = x := ⟨_, rfl⟩
    rw [hxe] at hx hgx hfx
    rw [zcN] at hfx
    (repeat' (first | (refine gq41 (gqc1 hd hgx) ?_; try with_reducible exact True.intro) | ((with_reducible refine And.intro ?_ ?_); focus (first | omega | rfl | decide | (simp; done)))))
    refine hfx _ ?_
    cases h1 : p x
    · (repeat' (first | (refine gq40 (wk1 k (by omega)) ?_; try with_reducible exact True.intro) | ((with_reducible refine And.intro ?_ ?_); focus (first | omega | rfl | decide | (simp; done)))))
      exact Again.next hlt ⟨rfl, rfl, any_take hx hno h1⟩
    · (repeat' (first | (refine gq39 ?_; try with_reducible exact True.intro) | ((with_reducible refine And.intro ?_ ?_); focus (first | omega | rfl | decide | (simp; done)))))
      (first | refine zg (by simp [Low_d, dmT, dm, dm1, pack, zd, ze, zb]) hl ?_ | refine zf (by simp [Low_d, dmT, dm, dm1, pack, zd, ze, zb]) hl ?_)
      exact hK _ (by rw [any_mem hx h1]; simp)
  · have hd : decide ((k : Int) < (b.length : Int)) = false := by simp; omega
    (repeat' (first | (refine gq40 hd ?_; try with_reducible exact True.intro) | ((with_reducible refine And.intro ?_ ?_); focus (first | omega | rfl | decide | (simp; done)))))
    (first | refine zg (by simp [Low_d, dmT, dm, dm1, pack, zd, ze, zb]) hl ?_ | refine zf (by simp [Low_d, dmT, dm, dm1, pack, zd, ze, zb]) hl ?_)
    rw [List.take_of_length_le (by omega)] at hno
    exact hK _ (by rw [hno]; rfl)
theorem zgr {σ : List AObj} {b : List zk} {f : FuncId} {cap : List AV} {p : zk → Bool} (hb : b.length ≤ 1073741824) (hf : ∀ x ∈ b, ∀ K : AV → List AObj → Prop, K (.d (.bool (p x))) σ → ACall Tryz.prog f (zcN x :: cap) σ K)
    {K : AV → List AObj → Prop} (hK : K (.d (.bool (b.any p))) σ) : ACall Tryz.prog zam [.d (.slice (zaO b)), .fn (.func f) [] cap] σ K := by
  refine zo zbk rfl fun hl _ => zbu ?_
  simp only [zaC]
  (repeat' (first | (refine gq39 ?_; try with_reducible exact True.intro) | ((with_reducible refine And.intro ?_ ?_); focus (first | omega | rfl | decide | (simp; done)))))
  refine ziP hb hf fun r hr => ?_
  (repeat' (first | (refine gq40 hr ?_; try with_reducible exact True.intro) | ((with_reducible refine And.intro ?_ ?_); focus (first | omega | rfl | decide | (simp; done)))))
  (first | refine zg (by simp [Low_d, dmT, dm, dm1, pack, zd, ze, zb]) hl ?_ | refine zf (by simp [Low_d, dmT, dm, dm1, pack, zd, ze, zb]) hl ?_)
  exact hK
end Go.Proofs.YtcappjcojggehaaGreat
