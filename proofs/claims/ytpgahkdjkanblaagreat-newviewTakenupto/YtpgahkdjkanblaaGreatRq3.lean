/- Contracts: requests sealed, and whether they are valid; a batch's number. -/
import Derived.Test.YtpgahkdjkanblaaGreatId3
import Derived.Test.YtpgahkdjkanblaaGreatRq2
import Derived.Test.YtpgahkdjkanblaaGreatSpTab
import Derived.Test.YtpgahkdjkanblaaGreatAwFrz
import Derived.Test.YtpgahkdjkanblaaGreatCk2
set_option linter.all false
set_option maxRecDepth 100000
set_option linter.unusedSimpArgs false
set_option linter.unusedVariables false
namespace Go.Proofs.YtpgahkdjkanblaaGreat
open Go.AW

theorem zdG.put {σ : List zd} {id m t : Nat} {l : List (List UInt8)} (h : zdG σ id m t l) (l' : List (List UInt8)) : zdG (putTab σ id m t l') id m t l' := by
  obtain ⟨n1, n2, n3⟩ := h.ne
  have h1 := zcx h.box; have h2 := zcx h.map; have h3 := zcx h.tok
  unfold putTab
  refine ⟨?_, ?_, ?_⟩
  · rw [List.getElem?_set_ne (Ne.symm n1), List.getElem?_set_self (by simpa using h1)]
  · rw [List.getElem?_set_self (by simpa using h2)]
  · rw [List.getElem?_set_ne n3, List.getElem?_set_ne n2, List.getElem?_set_self h3]
theorem zdu.put {σ : List zd} {id m t : Nat} {g : List zt} (h : zdu σ id m t g) (g' : List zt) : zdu (putLed σ id m t g') id m t g' := by
  obtain ⟨n1, n2, n3⟩ := h.ne
  have h1 := zcx h.box; have h2 := zcx h.map; have h3 := zcx h.tok
  unfold putLed
  refine ⟨?_, ?_, ?_⟩
  · rw [List.getElem?_set_self (by simpa using h1)]
  · rw [List.getElem?_set_ne n1, List.getElem?_set_ne (Ne.symm n3), List.getElem?_set_self h2]
  · rw [List.getElem?_set_ne n2, List.getElem?_set_self (by simpa using h3)]
theorem apart2 {σ : List zd} {id m t id2 m2 t2 : Nat} {l : List (List UInt8)} {g : List zt} (hT : zdG σ id m t l) (hG : zdu σ id2 m2 t2 g) (h1 : id ≠ id2) (h2 : m ≠ m2) :
    (id ≠ m2 ∧ id ≠ t2) ∧ (m ≠ id2 ∧ m ≠ t2) ∧ (t ≠ id2 ∧ t ≠ m2 ∧ t ≠ t2) := by
  refine ⟨⟨?_, ?_⟩, ⟨?_, ?_⟩, ⟨?_, ?_, ?_⟩⟩ <;> intro e <;> subst e
  · have := hT.box; rw [hG.map] at this; cases this
  · have := hT.box; rw [hG.tok] at this; cases this
  · have := hT.map; rw [hG.box] at this; cases this
  · have := hT.map; rw [hG.tok] at this; cases this
  · have := hT.tok; rw [hG.box] at this; cases this
  · have := hT.tok; rw [hG.map] at this; cases this
  · have := hT.tok; rw [hG.tok] at this; cases this
theorem zdu.putTab {σ : List zd} {id m t id2 m2 t2 : Nat} {l : List (List UInt8)} {g : List zt} (hT : zdG σ id m t l) (hG : zdu σ id2 m2 t2 g) (h1 : id ≠ id2) (h2 : m ≠ m2) (l' : List (List UInt8)) :
    zdu (putTab σ id m t l') id2 m2 t2 g := by
  obtain ⟨⟨a1, a2⟩, ⟨b1, b2⟩, ⟨c1, c2, c3⟩⟩ := apart2 hT hG h1 h2
  unfold Go.Proofs.YtpgahkdjkanblaaGreat.putTab
  refine ⟨?_, ?_, ?_⟩
  · rw [List.getElem?_set_ne b1, List.getElem?_set_ne h1, List.getElem?_set_ne c1]; exact hG.box
  · rw [List.getElem?_set_ne h2, List.getElem?_set_ne a1, List.getElem?_set_ne c2]; exact hG.map
  · rw [List.getElem?_set_ne b2, List.getElem?_set_ne a2, List.getElem?_set_ne c3]; exact hG.tok
theorem zdG.putLed {σ : List zd} {id m t id2 m2 t2 : Nat} {l : List (List UInt8)} {g : List zt} (hT : zdG σ id m t l) (hG : zdu σ id2 m2 t2 g) (h1 : id ≠ id2) (h2 : m ≠ m2) (g' : List zt) :
    zdG (putLed σ id2 m2 t2 g') id m t l := by
  obtain ⟨⟨a1, a2⟩, ⟨b1, b2⟩, ⟨c1, c2, c3⟩⟩ := apart2 hT hG h1 h2
  unfold Go.Proofs.YtpgahkdjkanblaaGreat.putLed
  refine ⟨?_, ?_, ?_⟩
  · rw [List.getElem?_set_ne (Ne.symm h1), List.getElem?_set_ne (Ne.symm a2), List.getElem?_set_ne (Ne.symm a1)]; exact hT.box
  · rw [List.getElem?_set_ne (Ne.symm b1), List.getElem?_set_ne (Ne.symm b2), List.getElem?_set_ne (Ne.symm h2)]; exact hT.map
  · rw [List.getElem?_set_ne (Ne.symm c1), List.getElem?_set_ne (Ne.symm c3), List.getElem?_set_ne (Ne.symm c2)]; exact hT.tok

structure zkx (L : List (List UInt8)) : Prop where
  nd : L.Nodup
  len : L.length ≤ 1048576
  each : ∀ b ∈ L, b.length ≤ 1073741824
theorem zkx.nil : zkx [] := ⟨.nil, by simp, by simp⟩
theorem zkx.sum {L : List (List UInt8)} (h : zkx L) {b : List UInt8} (hb : b.length ≤ 1073741824) : zkx (zib L b) := by
  unfold zib
  cases ho : zff L b with
  | some k => exact h
  | none =>
    simp only
    split
    · exact h
    · rename_i hl
      have hn : b ∉ L := fun hm => by
        obtain ⟨i, hi⟩ := List.mem_iff_getElem?.1 hm
        exact zpi ho hm
      refine ⟨?_, by simp; omega, fun x hx => ?_⟩
      · rw [List.nodup_append]
        refine ⟨h.nd, by simp, fun a ha c hc => ?_⟩
        simp at hc; subst hc
        exact fun e => hn (e ▸ ha)
      · rcases List.mem_append.1 hx with hx | hx
        · exact h.each x hx
        · simp at hx; subst hx; exact hb
end Go.Proofs.YtpgahkdjkanblaaGreat

/- Requests that wait: of each client at most one. No program in sight. -/
set_option linter.unusedSimpArgs false
set_option linter.unusedVariables false
namespace Go.AW

abbrev PQ := List (Option zu)
structure ziK (q : PQ) : Prop where
  len : q.length = 8
  at_ : ∀ (i : Nat) x, q[i]? = some (some x) → x.client = i ∧ zD [x] = 0 ∧ okO x.op
def zfj (q : PQ) : List zu := q.filterMap id
def ofF (q : PQ) (c : Int) : Option zu := if 0 ≤ c ∧ c < 8 then (q[c.toNat]?).join else none
def mayPut : Option zu → Int → Bool
  | some y, t => decide (y.time < t)
  | none, _ => true
def mayDone : Option zu → Int → Bool
  | some y, t => decide (y.time ≤ t)
  | none, _ => false
def canPut (q : PQ) (x : zu) : Bool := decide (zD [x] = 0) && mayPut (ofF q x.client) x.time
def putQ (q : PQ) (x : zu) : PQ := if canPut q x = true then q.set x.client.toNat (some x) else q
def canDone (q : PQ) (c t : Int) : Bool := mayDone (ofF q c) t
def doneQ (q : PQ) (c t : Int) : PQ := if canDone q c t = true then q.set c.toNat none else q

theorem one_ok {x : zu} (h : zD [x] = 0) : 0 ≤ x.client ∧ x.client < 8 ∧ 1 ≤ x.time ∧ x.time ≤ 9007199254740992 ∧ zeD zmI x.op = 0 ∧ zaT x = 0 ∧ zag x.key x.dig = 0 := by
  simp only [zD, List.length_singleton, zmO, errF] at h
  have h1 : ¬ (1 > 4) := by omega
  rw [if_neg h1] at h
  by_cases hr : zaT x = 0
  · by_cases hs : zag x.key x.dig = 0
    · unfold zaT at hr
      split at hr
      · cases hr
      · rename_i hc
        have hr' : zaT x = 0 := by unfold zaT; rw [if_neg hc]; exact hr
        exact ⟨by omega, by omega, by omega, by omega, hr, hr', hs⟩
    · exfalso
      simp [hr, hs] at h
  · exfalso
    simp [hr] at h
theorem ofF_some {q : PQ} {c : Int} {x : zu} (h : ofF q c = some x) : 0 ≤ c ∧ c < 8 ∧ q[c.toNat]? = some (some x) := by
  unfold ofF at h
  split at h
  · rename_i hc
    refine ⟨hc.1, hc.2, ?_⟩
    cases hq : q[c.toNat]? with
    | none => rw [hq] at h; cases h
    | some o => rw [hq] at h; simp at h; rw [h]
  · cases h
theorem ziK.get {q : PQ} (hq : ziK q) {c : Int} (h0 : 0 ≤ c) (h8 : c < 8) : q[c.toNat]? = some (ofF q c) := by
  have hl := hq.len
  have : q[c.toNat]? = some (q[c.toNat]'(by omega)) := List.getElem?_eq_getElem _
  unfold ofF
  rw [if_pos ⟨h0, h8⟩, this]
  rfl
theorem ziK.put {q : PQ} (hq : ziK q) {x : zu} (hx : okO x.op) : ziK (putQ q x) := by
  unfold putQ
  split
  · rename_i hc
    simp only [canPut, Bool.and_eq_true, decide_eq_true_eq] at hc
    obtain ⟨h0, h8, _⟩ := one_ok hc.1
    refine ⟨by simp [hq.len], fun i y h => ?_⟩
    rw [List.getElem?_set] at h
    split at h
    · rename_i e
      split at h
      · simp at h; subst h
        exact ⟨by omega, hc.1, hx⟩
      · cases h
    · exact hq.at_ i y h
  · exact hq
theorem ziK.done {q : PQ} (hq : ziK q) {c t : Int} : ziK (doneQ q c t) := by
  unfold doneQ
  split
  · refine ⟨by simp [hq.len], fun i y h => ?_⟩
    rw [List.getElem?_set] at h
    split at h
    · split at h
      · simp at h
      · cases h
    · exact hq.at_ i y h
  · exact hq
theorem zoR {q : PQ} {x : zu} (h : x ∈ zfj q) : ∃ i : Nat, q[i]? = some (some x) := by
  simp only [zfj, List.mem_filterMap, id_eq, exists_eq_right] at h
  exact List.mem_iff_getElem?.1 h
end Go.AW

/- Contracts: a pool: made, asked, put into, done. -/
set_option maxRecDepth 100000
set_option linter.unusedSimpArgs false
set_option linter.unusedVariables false
namespace Go.Proofs.YtpgahkdjkanblaaGreat
open Go.AW

end Go.Proofs.YtpgahkdjkanblaaGreat

/- Contracts: a pool: what waits. -/
set_option maxRecDepth 100000
set_option linter.unusedSimpArgs false
set_option linter.unusedVariables false
namespace Go.Proofs.YtpgahkdjkanblaaGreat
open Go.AW

end Go.Proofs.YtpgahkdjkanblaaGreat

/- Contracts: what comes next out of a pool. -/
set_option maxRecDepth 100000
set_option linter.unusedSimpArgs false
set_option linter.unusedVariables false
namespace Go.Proofs.YtpgahkdjkanblaaGreat
open Go.AW

theorem any_take {α : Type} {l : List α} {p : α → Bool} {k : Nat} {x : α} (h : l[k]? = some x) (h0 : (l.take k).any p = false) (hx : p x = false) : (l.take (k + 1)).any p = false := by
  rw [List.take_add_one, h]; simp [List.any_append, h0, hx]
theorem any_mem {α : Type} {l : List α} {p : α → Bool} {k : Nat} {x : α} (h : l[k]? = some x) (hx : p x = true) : l.any p = true := List.any_eq_true.2 ⟨x, List.mem_of_getElem? h, hx⟩
theorem zpC {σ : List zd} {b : List zu} {f : FuncId} {cap : List AV} {p : zu → Bool} (hb : b.length ≤ 1073741824) (hf : ∀ x ∈ b, ∀ K : AV → List zd → Prop, K (.d (.bool (p x))) σ → zl Tryz.prog f (zic x :: cap) σ K)
    {K : KT} (hK : ∀ r : Int, decide (r ≥ 0) = b.any p → K (.d (.int .i64 r)) σ) : zl Tryz.prog zbK [.d (.slice (zbD b)), .fn (.func f) [] cap] σ K := by
  refine ze zcM.is rfl fun hl _ => zcM.goes ?_
  simp only [zcQ, iN, bT, bF, eN]
  refine zaF ?_
  refine zy b.length (fun k vs s => vs = [.d (.int .i64 k)] ∧ s = σ ∧ (b.take k).any p = false) ⟨rfl, rfl, by simp⟩ ?_
  rintro k vs s hk ⟨rfl, rfl, hno⟩
  by_cases hlt : k < b.length
  · have hd : decide ((k : Int) < (b.length : Int)) = true := by simp; omega
    have hx : b[k]? = some b[k] := by simp [hlt]
    have hfx := hf _ (List.getElem_mem hlt)
    have hgx := zal (f := zbl) hx
    obtain ⟨x, hxe⟩ : ∃ x, b[k] = x := ⟨_, rfl⟩
    rw [hxe] at hx hgx hfx
    rw [zic] at hfx
    refine gq46 (zq hd hgx) ?_
    refine hfx _ ?_
    cases h1 : p x
    · refine zeB (wk1 k (by omega)) ?_
      exact zbp.next hlt ⟨rfl, rfl, any_take hx hno h1⟩
    · refine zaF ?_
      refine zV hl ?_
      exact hK _ (by rw [any_mem hx h1]; simp)
  · have hd : decide ((k : Int) < (b.length : Int)) = false := by simp; omega
    refine zeB hd ?_
    refine zV hl ?_
    rw [List.take_of_length_le (by omega)] at hno
    exact hK _ (by rw [hno]; rfl)
theorem zna {σ : List zd} {b : List zu} {f : FuncId} {cap : List AV} {p : zu → Bool} (hb : b.length ≤ 1073741824) (hf : ∀ x ∈ b, ∀ K : AV → List zd → Prop, K (.d (.bool (p x))) σ → zl Tryz.prog f (zic x :: cap) σ K)
    {K : KT} (hK : K (.d (.bool (b.any p))) σ) : zl Tryz.prog zbq [.d (.slice (zbD b)), .fn (.func f) [] cap] σ K := by
  refine ze zco.is rfl fun hl _ => zco.goes ?_
  simp only [zcp, iN, bT, bF, eN]
  refine zaF ?_
  refine zpC hb hf fun r hr => ?_
  refine zeB hr ?_
  refine zV hl ?_
  exact hK
end Go.Proofs.YtpgahkdjkanblaaGreat

/- Contracts: whether what was sealed is valid; a batch's number. -/
set_option maxRecDepth 100000
set_option linter.unusedSimpArgs false
set_option linter.unusedVariables false
namespace Go.Proofs.YtpgahkdjkanblaaGreat
open Go.AW

def zlC (L : List (List UInt8)) (G : List zt) (s : zu) : Bool := decide (zaT s = 0) && match zff L (reqB s) with
  | some i => decide (s.key = keyF s.client ∧ s.dig = ((i + 1 : Nat) : Int)) && decide ((⟨s.key, s.dig⟩ : zt) ∈ G)
  | none => false
def ziQ (L : List (List UInt8)) (G : List zt) (b : List zu) : Bool := decide (zD b = 0) && !(b.any fun s => !zlC L G s)
def digE (L : List (List UInt8)) (l : List zu) : Int := if zD l ≠ 0 then zD l else if znL L (zcP l) = 0 then 6 else 0
def zrw (L : List (List UInt8)) (l : List zu) : Int := if zD l ≠ 0 then 0 else znL L (zcP l)
def zri (L : List (List UInt8)) (l : List zu) : List (List UInt8) := if zD l ≠ 0 then L else zib L (zcP l)
theorem c_rqValid {σ : List zd} {id m t id2 m2 t2 : Nat} {L : List (List UInt8)} {G : List zt} {s : zu} (hT : zdG σ id m t L) (hG : zdu σ id2 m2 t2 G)
    (hx : zmB s.op ≤ 20971520) {K : KT} (hK : K (.d (.bool (zlC L G s))) σ) : zl Tryz.prog ziW [.box id 0, .box id2 0, zic s] σ K := by
  refine ze zmS.is rfl fun hl _ => zmS.goes ?_
  have fin : ∀ z, zlC L G s = z → K (.d (.bool z)) σ := fun z h => h ▸ hK
  clear hK
  simp only [zng, iN, bT, bF, eN, zic]
  refine zaF ?_
  refine zsz (x := s) hx ?_
  by_cases hc : zaT s = 0
  · have hb : (zaT s != 0) = false := by simpa using hc
    rw [show zcI s = reqB s from if_pos hc]
    refine zeB hb ?_
    refine zqF (hT.app _) ?_
    cases ho : zff L (reqB s) with
    | none =>
      refine gq60 ?_
      refine zV hl ?_
      exact fin _ (by simp [zlC, ho])
    | some i =>
      refine gq60 ?_
      refine c_rqKey ?_
      simp only [numOf]
      cases h1 : (s.key == keyF s.client)
      · refine gq62 h1 ?_
        refine zV hl ?_
        exact fin _ (by simp at h1; simp [zlC, ho, h1])
      · cases h2 : (s.dig == ((i + 1 : Nat) : Int))
        · refine gq62 (zq h1 h2) ?_
          refine zV hl ?_
          exact fin _ (by simp at h1 h2; simp [zlC, ho, h1]; intro _ h; omega)
        · refine gq62 (zq h1 h2) ?_
          refine c_gSigned (s := ⟨s.key, s.dig⟩) (hG.app _) ?_
          refine zaF ?_
          refine zV hl ?_
          exact fin _ (by simp at h1 h2; simp [zlC, ho, hc, h1, h2])
  · have hb : (zaT s != 0) = true := by simpa using hc
    refine zeB hb ?_
    refine zV hl ?_
    exact fin _ (by simp [zlC, hc])
theorem ztf {σ : List zd} {id m t id2 m2 t2 : Nat} {L : List (List UInt8)} {G : List zt} {b : List zu} (hT : zdG σ id m t L) (hG : zdu σ id2 m2 t2 G)
    (hx : ∀ s ∈ b, zmB s.op ≤ 20971520) (hbl : b.length ≤ 1073741824) {K : KT} (hK : K (.d (.bool (ziQ L G b))) σ) : zl Tryz.prog zfE [.box id 0, .box id2 0, .d (.slice (zbD b))] σ K := by
  refine ze ziq.is rfl fun hl _ => ziq.goes ?_
  have hok : okB b := ⟨hbl, fun s hs => zuw (hx s hs)⟩
  simp only [zix, iN, bT, bF, eN]
  refine zaF ?_
  refine zfr hok ?_
  by_cases hc : zD b = 0
  · have hq : (zD b == 0) = true := by simpa using hc
    rw [ziQ, decide_eq_true hc, Bool.true_and] at hK
    refine zeB hq ?_
    have e0 : (σ ++ [zd.box [AV.box id 0], zd.box [AV.box id2 0]])[σ.length]? = some (zd.box [AV.box id 0]) := by rw [zo]; rfl
    have e1 : (σ ++ [zd.box [AV.box id 0], zd.box [AV.box id2 0]])[σ.length + 1]? = some (zd.box [AV.box id2 0]) := by rw [zn]; rfl
    have hT1 := hT.app [zd.box [AV.box id 0], zd.box [AV.box id2 0]]
    have hG1 := hG.app [zd.box [AV.box id 0], zd.box [AV.box id2 0]]
    refine zna (p := fun s => !zlC L G s) hbl (fun s hs K' hK' => ?_) ?_
    · obtain ⟨S, hS⟩ : ∃ S, σ ++ [zd.box [AV.box id 0], zd.box [AV.box id2 0]] = S := ⟨_, rfl⟩
      rw [hS] at e0 e1 hT1 hG1 hK' ⊢
      refine ze zgQ.is rfl fun hl _ => zgQ.goes ?_
      have e0' : ∀ τ, (S ++ τ)[σ.length]? = some (zd.box [AV.box id 0]) := fun τ => zM e0
      have e1' : ∀ τ, (S ++ τ)[σ.length + 1]? = some (zd.box [AV.box id2 0]) := fun τ => zM e1
      simp only [zha, iN, bT, bF, eN, zic]
      refine zeB (zq e0' e1') ?_
      refine c_rqValid (s := s) (hT1.app _) (hG1.app _) (hx s hs) ?_
      refine zaF ?_
      refine zV hl ?_
      exact hK'
    · refine zeB hq ?_
      refine zV hl ?_
      exact hK
  · have hq : (zD b == 0) = false := by simpa using hc
    rw [ziQ, decide_eq_false hc, Bool.false_and] at hK
    refine zeB hq ?_
    refine zV hl ?_
    exact hK
theorem c_rqDigest {σ : List zd} {id m t : Nat} {L : List (List UInt8)} {l : List zu} (hT : zdG σ id m t L) (hL : zkx L)
    (hx : ∀ s ∈ l, zmB s.op ≤ 20971520) (hll : l.length ≤ 1073741824) {K : KT} (hK : K (.tup [.d (.int .i64 (zrw L l)), .d (.int .i64 (digE L l))]) (putTab σ id m t (zri L l))) :
    zl Tryz.prog zif [.box id 0, .d (.slice (zbD l))] σ K := by
  refine ze zlQ.is rfl fun hl _ => zlQ.goes ?_
  have hok : okB l := ⟨hll, fun s hs => zuw (hx s hs)⟩
  simp only [zmg, iN, bT, bF, eN]
  refine zaF ?_
  refine zfr hok ?_
  by_cases hc : zD l = 0
  · have hq : (zD l != 0) = false := by simpa using hc
    have hbl := zog hx
    have hc' : ¬ zD l ≠ 0 := by simpa using hc
    rw [show zrw L l = znL L (zcP l) from if_neg hc', show zri L l = zib L (zcP l) from if_neg hc', show digE L l = if znL L (zcP l) = 0 then 6 else 0 from if_neg hc'] at hK
    refine zeB hq ?_
    refine c_known hT hL.nd hL.len hL.each ?_
    refine zaF ?_
    refine zqI (b := []) (by simp) hx hll ?_
    rw [List.nil_append, show zeG l = zcP l from if_pos hc] at *
    refine zaF ?_
    refine c_tSum hT (by omega) hL.len ?_
    have hl1 := hT.lows hl (zib L (zcP l))
    have hs1 := znx σ id m t (zib L (zcP l))
    by_cases h0 : znL L (zcP l) = 0
    · rw [if_pos h0] at hK
      rw [h0] at hK ⊢
      refine gq60 ?_
      refine ends_all0 hs1 ?_ hl1 ?_
      · simp [zjI, dmT, dm, dm1, zdy, zbL]
      · exact hK
    · rw [if_neg h0] at hK
      have h0' : (znL L (zcP l) == 0) = false := by simpa using h0
      refine zeB h0' ?_
      refine ends_all0 hs1 ?_ hl1 ?_
      · simp [zjI, dmT, dm, dm1, zdy, zbL]
      · exact hK
  · have hq : (zD l != 0) = true := by simpa using hc
    rw [zrw, digE, zri, if_pos hc, if_pos hc, if_pos hc, hT.self] at hK
    refine zeB hq ?_
    refine zV hl ?_
    exact hK
end Go.Proofs.YtpgahkdjkanblaaGreat
