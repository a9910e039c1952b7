/- Contracts: requests sealed, and whether they are valid; a batch's number. -/
import Derived.Test.YtjjchfbckfopkaaGreatId4
import Derived.Test.YtjjchfbckfopkaaGreatRq2
import Derived.Test.YtjjchfbckfopkaaGreatSpRc
import Derived.Test.YtjjchfbckfopkaaGreatAwFrz
import Derived.Test.YtjjchfbckfopkaaGreatRc2
set_option linter.all false
set_option maxRecDepth 100000
set_option linter.unusedSimpArgs false
set_option linter.unusedVariables false
namespace Go.Proofs.YtjjchfbckfopkaaGreat
open Go.AW

theorem zde.put {σ : List zb} {id m t : Nat} {l : List (List UInt8)} (h : zde σ id m t l) (l' : List (List UInt8)) : zde (putTab σ id m t l') id m t l' := by
  obtain ⟨n1, n2, n3⟩ := h.ne
  have h1 := zaP h.box; have h2 := zaP h.map; have h3 := zaP h.tok
  unfold putTab
  refine ⟨?_, ?_, ?_⟩
  · rw [List.getElem?_set_ne (Ne.symm n1), List.getElem?_set_self (by simpa using h1)]
  · rw [List.getElem?_set_self (by simpa using h2)]
  · rw [List.getElem?_set_ne n3, List.getElem?_set_ne n2, List.getElem?_set_self h3]
theorem zdg.put {σ : List zb} {id m t : Nat} {g : List zP} (h : zdg σ id m t g) (g' : List zP) : zdg (putLed σ id m t g') id m t g' := by
  obtain ⟨n1, n2, n3⟩ := h.ne
  have h1 := zaP h.box; have h2 := zaP h.map; have h3 := zaP h.tok
  unfold putLed
  refine ⟨?_, ?_, ?_⟩
  · rw [List.getElem?_set_self (by simpa using h1)]
  · rw [List.getElem?_set_ne n1, List.getElem?_set_ne (Ne.symm n3), List.getElem?_set_self h2]
  · rw [List.getElem?_set_ne n2, List.getElem?_set_self (by simpa using h3)]
theorem apart2 {σ : List zb} {id m t id2 m2 t2 : Nat} {l : List (List UInt8)} {g : List zP} (hT : zde σ id m t l) (hG : zdg σ id2 m2 t2 g) (h1 : id ≠ id2) (h2 : m ≠ m2) :
    (id ≠ m2 ∧ id ≠ t2) ∧ (m ≠ id2 ∧ m ≠ t2) ∧ (t ≠ id2 ∧ t ≠ m2 ∧ t ≠ t2) := by
  refine ⟨⟨?_, ?_⟩, ⟨?_, ?_⟩, ⟨?_, ?_, ?_⟩⟩ <;> intro e <;> subst e
  · have := hT.box; rw [hG.map] at this; cases this
  · have := hT.box; rw [hG.tok] at this; cases this
  · have := hT.map; rw [hG.box] at this; cases this
  · have := hT.map; rw [hG.tok] at this; cases this
  · have := hT.tok; rw [hG.box] at this; cases this
  · have := hT.tok; rw [hG.map] at this; cases this
  · have := hT.tok; rw [hG.tok] at this; cases this
theorem zdg.putTab {σ : List zb} {id m t id2 m2 t2 : Nat} {l : List (List UInt8)} {g : List zP} (hT : zde σ id m t l) (hG : zdg σ id2 m2 t2 g) (h1 : id ≠ id2) (h2 : m ≠ m2) (l' : List (List UInt8)) :
    zdg (putTab σ id m t l') id2 m2 t2 g := by
  obtain ⟨⟨a1, a2⟩, ⟨b1, b2⟩, ⟨c1, c2, c3⟩⟩ := apart2 hT hG h1 h2
  unfold Go.Proofs.YtjjchfbckfopkaaGreat.putTab
  refine ⟨?_, ?_, ?_⟩
  · rw [List.getElem?_set_ne b1, List.getElem?_set_ne h1, List.getElem?_set_ne c1]; exact hG.box
  · rw [List.getElem?_set_ne h2, List.getElem?_set_ne a1, List.getElem?_set_ne c2]; exact hG.map
  · rw [List.getElem?_set_ne b2, List.getElem?_set_ne a2, List.getElem?_set_ne c3]; exact hG.tok
theorem zde.putLed {σ : List zb} {id m t id2 m2 t2 : Nat} {l : List (List UInt8)} {g : List zP} (hT : zde σ id m t l) (hG : zdg σ id2 m2 t2 g) (h1 : id ≠ id2) (h2 : m ≠ m2) (g' : List zP) :
    zde (putLed σ id2 m2 t2 g') id m t l := by
  obtain ⟨⟨a1, a2⟩, ⟨b1, b2⟩, ⟨c1, c2, c3⟩⟩ := apart2 hT hG h1 h2
  unfold Go.Proofs.YtjjchfbckfopkaaGreat.putLed
  refine ⟨?_, ?_, ?_⟩
  · rw [List.getElem?_set_ne (Ne.symm h1), List.getElem?_set_ne (Ne.symm a2), List.getElem?_set_ne (Ne.symm a1)]; exact hT.box
  · rw [List.getElem?_set_ne (Ne.symm b1), List.getElem?_set_ne (Ne.symm b2), List.getElem?_set_ne (Ne.symm h2)]; exact hT.map
  · rw [List.getElem?_set_ne (Ne.symm c1), List.getElem?_set_ne (Ne.symm c3), List.getElem?_set_ne (Ne.symm c2)]; exact hT.tok

def noSg : zf := ⟨0, 0, noOp, 0, 0⟩
def zmc (L : List (List UInt8)) (x : zf) : Int := if zD x ≠ 0 then zD x else zdC (keyF x.client) (zhz L (zlD x))
def zpr (L : List (List UInt8)) (x : zf) : zf := if zmc L x = 0 then ⟨x.client, x.time, x.op, keyF x.client, zhz L (zlD x)⟩ else noSg
def sealL (L : List (List UInt8)) (x : zf) : List (List UInt8) := if zD x ≠ 0 then L else zjJ L (zlD x)
def zps (L : List (List UInt8)) (G : List zP) (x : zf) : List zP := if zD x ≠ 0 then G else zfm G (keyF x.client) (zhz L (zlD x))
structure TabI (L : List (List UInt8)) : Prop where
  nd : L.Nodup
  len : L.length ≤ 1048576
  each : ∀ b ∈ L, b.length ≤ 1073741824
theorem TabI.nil : TabI [] := ⟨.nil, by simp, by simp⟩
theorem TabI.sum {L : List (List UInt8)} (h : TabI L) {b : List UInt8} (hb : b.length ≤ 1073741824) : TabI (zjJ L b) := by
  unfold zjJ
  cases ho : zeb L b with
  | some k => exact h
  | none =>
    simp only
    split
    · exact h
    · rename_i hl
      have hn : b ∉ L := fun hm => by
        obtain ⟨i, hi⟩ := List.mem_iff_getElem?.1 hm
        exact zpF ho hm
      refine ⟨?_, by simp; omega, fun x hx => ?_⟩
      · rw [List.nodup_append]
        refine ⟨h.nd, by simp, fun a ha c hc => ?_⟩
        simp at hc; subst hc
        exact fun e => hn (e ▸ ha)
      · rcases List.mem_append.1 hx with hx | hx
        · exact h.each x hx
        · simp at hx; subst hx; exact hb
end Go.Proofs.YtjjchfbckfopkaaGreat

/- Requests that wait: of each client at most one. No program in sight. -/
set_option linter.unusedSimpArgs false
set_option linter.unusedVariables false
namespace Go.AW

abbrev PQ := List (Option zf)
structure zfg (q : PQ) : Prop where
  len : q.length = 8
  at_ : ∀ (i : Nat) x, q[i]? = some (some x) → x.client = i ∧ zx [x] = 0 ∧ okO x.op
def zcF (q : PQ) : List zf := q.filterMap id
def ofF (q : PQ) (c : Int) : Option zf := if 0 ≤ c ∧ c < 8 then (q[c.toNat]?).join else none
def mayPut : Option zf → Int → Bool
  | some y, t => decide (y.time < t)
  | none, _ => true
def mayDone : Option zf → Int → Bool
  | some y, t => decide (y.time ≤ t)
  | none, _ => false
def canPut (q : PQ) (x : zf) : Bool := decide (zx [x] = 0) && mayPut (ofF q x.client) x.time
def putQ (q : PQ) (x : zf) : PQ := if canPut q x = true then q.set x.client.toNat (some x) else q
def canDone (q : PQ) (c t : Int) : Bool := mayDone (ofF q c) t
def doneQ (q : PQ) (c t : Int) : PQ := if canDone q c t = true then q.set c.toNat none else q

theorem one_ok {x : zf} (h : zx [x] = 0) : 0 ≤ x.client ∧ x.client < 8 ∧ 1 ≤ x.time ∧ x.time ≤ 9007199254740992 ∧ zbK zhw x.op = 0 ∧ zD x = 0 ∧ zal x.key x.dig = 0 := by
  simp only [zx, List.length_singleton, zhx, zoN] at h
  have h1 : ¬ (1 > 4) := by omega
  rw [if_neg h1] at h
  by_cases hr : zD x = 0
  · by_cases hs : zal x.key x.dig = 0
    · unfold zD at hr
      split at hr
      · cases hr
      · rename_i hc
        have hr' : zD x = 0 := by unfold zD; rw [if_neg hc]; exact hr
        exact ⟨by omega, by omega, by omega, by omega, hr, hr', hs⟩
    · exfalso
      simp [hr, hs] at h
  · exfalso
    simp [hr] at h
theorem ofF_some {q : PQ} {c : Int} {x : zf} (h : ofF q c = some x) : 0 ≤ c ∧ c < 8 ∧ q[c.toNat]? = some (some x) := by
  unfold ofF at h
  split at h
  · rename_i hc
    refine ⟨hc.1, hc.2, ?_⟩
    cases hq : q[c.toNat]? with
    | none => rw [hq] at h; cases h
    | some o => rw [hq] at h; simp at h; rw [h]
  · cases h
theorem zfg.get {q : PQ} (hq : zfg q) {c : Int} (h0 : 0 ≤ c) (h8 : c < 8) : q[c.toNat]? = some (ofF q c) := by
  have hl := hq.len
  have : q[c.toNat]? = some (q[c.toNat]'(by omega)) := List.getElem?_eq_getElem _
  unfold ofF
  rw [if_pos ⟨h0, h8⟩, this]
  rfl
theorem zfg.put {q : PQ} (hq : zfg q) {x : zf} (hx : okO x.op) : zfg (putQ q x) := by
  unfold putQ
  split
  · rename_i hc
    simp only [canPut, Bool.and_eq_true, decide_eq_true_eq] at hc
    obtain ⟨h0, h8, _⟩ := one_ok hc.1
    refine ⟨by simp [hq.len], fun i y h => ?_⟩
    rw [List.getElem?_set] at h
    split at h
    · rename_i e
      split at h
      · simp at h; subst h
        exact ⟨by omega, hc.1, hx⟩
      · cases h
    · exact hq.at_ i y h
  · exact hq
theorem zfg.done {q : PQ} (hq : zfg q) {c t : Int} : zfg (doneQ q c t) := by
  unfold doneQ
  split
  · refine ⟨by simp [hq.len], fun i y h => ?_⟩
    rw [List.getElem?_set] at h
    split at h
    · split at h
      · simp at h
      · cases h
    · exact hq.at_ i y h
  · exact hq
theorem zjH {q : PQ} {x : zf} (h : x ∈ zcF q) : ∃ i : Nat, q[i]? = some (some x) := by
  simp only [zcF, List.mem_filterMap, id_eq, exists_eq_right] at h
  exact List.mem_iff_getElem?.1 h
end Go.AW

/- Contracts: a pool: made, asked, put into, done. -/
set_option maxRecDepth 100000
set_option linter.unusedSimpArgs false
set_option linter.unusedVariables false
namespace Go.Proofs.YtjjchfbckfopkaaGreat
open Go.AW


def z9 : List AV := [.d (.int .i64 0), .d (.int .i64 0), .d (.int .i64 0), .d (.str []), .d (.str []), .d (.int .i64 0), .exact [], .d (.int .i64 0), .d (.int .i64 0)]

theorem any_take {α : Type} {l : List α} {p : α → Bool} {k : Nat} {x : α} (h : l[k]? = some x) (h0 : (l.take k).any p = false) (hx : p x = false) : (l.take (k + 1)).any p = false := by
  rw [List.take_add_one, h]; simp [List.any_append, h0, hx]
theorem any_mem {α : Type} {l : List α} {p : α → Bool} {k : Nat} {x : α} (h : l[k]? = some x) (hx : p x = true) : l.any p = true := List.any_eq_true.2 ⟨x, List.mem_of_getElem? h, hx⟩
theorem zks {σ : List zb} {b : List zf} {f : FuncId} {cap : List AV} {p : zf → Bool} (hb : b.length ≤ 1073741824) (hf : ∀ x ∈ b, ∀ K : AV → List zb → Prop, K (.d (.bool (p x))) σ → zt Tryz.prog f (zeN x :: cap) σ K)
    {K : AV → List zb → Prop} (hK : ∀ r : Int, decide (r ≥ 0) = b.any p → K (.d (.int .i64 r)) σ) : zt Tryz.prog zaK [.d (.slice (zaM b)), .fn (.func f) [] cap] σ K := by
  refine zhh zcM fun hl => ?_
  simp only [zby, iN, bT, bF, eN]
  refine zod ?_
  refine zC b.length (fun k vs s => vs = [.d (.int .i64 k)] ∧ s = σ ∧ (b.take k).any p = false) ⟨rfl, rfl, by simp⟩ ?_
  rintro k vs s hk ⟨rfl, rfl, hno⟩
  by_cases hlt : k < b.length
  · have hd : decide ((k : Int) < (b.length : Int)) = true := by simp; omega
    have hx : b[k]? = some b[k] := by simp [hlt]
    have hfx := hf _ (List.getElem_mem hlt)
    have hgx := zax (f := zas) hx
    obtain ⟨x, hxe⟩ : ∃ x, b[k] = x := ⟨_, rfl⟩
    rw [hxe] at hx hgx hfx
    rw [zeN] at hfx
    refine gq37 (zcr hd hgx) ?_
    refine hfx _ ?_
    cases h1 : p x
    · refine zfN (wk1 k (by omega)) ?_
      exact zaQ.next hlt ⟨rfl, rfl, any_take hx hno h1⟩
    · refine zod ?_
      refine zam hl ?_
      exact hK _ (by rw [any_mem hx h1]; simp)
  · have hd : decide ((k : Int) < (b.length : Int)) = false := by simp; omega
    refine zfN hd ?_
    refine zam hl ?_
    rw [List.take_of_length_le (by omega)] at hno
    exact hK _ (by rw [hno]; rfl)
theorem zhT {σ : List zb} {b : List zf} {f : FuncId} {cap : List AV} {p : zf → Bool} (hb : b.length ≤ 1073741824) (hf : ∀ x ∈ b, ∀ K : AV → List zb → Prop, K (.d (.bool (p x))) σ → zt Tryz.prog f (zeN x :: cap) σ K)
    {K : AV → List zb → Prop} (hK : K (.d (.bool (b.any p))) σ) : zt Tryz.prog zaC [.d (.slice (zaM b)), .fn (.func f) [] cap] σ K := by
  refine zhh zcu fun hl => ?_
  simp only [zbc, iN, bT, bF, eN]
  refine zod ?_
  refine zks hb hf fun r hr => ?_
  refine zfN hr ?_
  refine zam hl ?_
  exact hK
end Go.Proofs.YtjjchfbckfopkaaGreat
