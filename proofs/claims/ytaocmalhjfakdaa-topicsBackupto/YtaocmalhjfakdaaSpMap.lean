/- Maps keyed by integers: what is found after a put. -/
import Derived.Test.YtaocmalhjfakdaaAwEnd
import Derived.Test.YtaocmalhjfakdaaSpUtf
set_option linter.all false
set_option linter.unusedSimpArgs false
namespace Go.AW

abbrev ents (l : List (Int × AV)) : List (AV × AV) := l.map fun e => (.d (.int .i64 e.1), e.2)

structure Rd where
  b : List UInt8
  e : Int
def Rd.fail (cut : Bool) (s : Rd) (x : Int) : Rd := if s.e = 0 ∧ x ≠ 0 then ⟨if cut then [] else s.b, x⟩ else s
def zaZ (cut : Bool) (most : Nat) (s : Rd) : Nat × Rd :=
  if s.e = 0 then (match zhU most 0 0 s.b with | .ok (n, r) => (n, ⟨r, 0⟩) | .error x => (0, s.fail cut x)) else (0, s)
def zed (cut : Bool) (n : Nat) (s : Rd) : List UInt8 × Rd :=
  if s.e = 0 then (if n > s.b.length then ([], s.fail cut 10) else (s.b.take n, ⟨s.b.drop n, 0⟩)) else ([], s)
def zbj (cut : Bool) (most : Nat) (s : Rd) : List UInt8 × Rd := zed cut (zaZ cut most s).1 (zaZ cut most s).2
def zcJ (cut : Bool) : Nat → Rd → List (List UInt8) × Rd
  | 0, s => ([], s)
  | k + 1, s => ((zcJ cut k s).1 ++ [(zbj cut 64 (zcJ cut k s).2).1], (zbj cut 64 (zcJ cut k s).2).2)
def zic (cut : Bool) (k : Nat) (s : Rd) : TOp × Rd :=
  let t := zbj cut 64 s
  if k = 0 then (noOp, s)
  else if k = 2 then (let n := zaZ cut 4 t.2; let r := zcJ cut n.1 n.2; (⟨k, t.1, [], 0, r.1⟩, r.2))
  else if k = 3 then (let g := zbj cut 64 t.2; let f := zaZ cut 9007199254740992 g.2; (⟨k, t.1, g.1, f.1, []⟩, f.2))
  else if k = 4 then (let f := zaZ cut 9007199254740992 t.2; (⟨k, t.1, [], f.1, []⟩, f.2))
  else (⟨k, t.1, [], 0, []⟩, t.2)
def zjb (cut : Bool) (name : List UInt8 → Bool) (s : Rd) : TOp × Rd :=
  let k := zaZ cut 4 s
  let x := zic cut k.1 k.2
  let z := x.2.fail cut (zar name x.1)
  (if z.e = 0 then x.1 else noOp, z)

def Rd.like (s t : Rd) : Prop := s.e = t.e ∧ (s.e = 0 → s.b = t.b)
theorem Rd.like.fail {s t : Rd} {c d : Bool} {x : Int} (h : s.like t) : (s.fail c x).like (t.fail d x) := by
  obtain ⟨h1, h2⟩ := h
  unfold Rd.fail Rd.like
  grind
theorem Rd.like.num {s t : Rd} {c d : Bool} {m : Nat} (h : s.like t) : (zaZ c m s).1 = (zaZ d m t).1 ∧ (zaZ c m s).2.like (zaZ d m t).2 := by
  have hf : ∀ x, (s.fail c x).like (t.fail d x) := fun x => h.fail
  obtain ⟨h1, h2⟩ := h
  unfold zaZ
  by_cases h0 : s.e = 0
  · rw [if_pos h0, if_pos (show t.e = 0 from h1 ▸ h0), h2 h0]
    cases zhU m 0 0 t.b with
    | ok x => exact ⟨rfl, rfl, fun _ => rfl⟩
    | error x => exact ⟨rfl, hf x⟩
  · rw [if_neg h0, if_neg (h1 ▸ h0)]
    exact ⟨rfl, h1, h2⟩
theorem Rd.like.take {s t : Rd} {c d : Bool} {m : Nat} (h : s.like t) : (zed c m s).1 = (zed d m t).1 ∧ (zed c m s).2.like (zed d m t).2 := by
  have hf : ∀ x, (s.fail c x).like (t.fail d x) := fun x => h.fail
  obtain ⟨h1, h2⟩ := h
  unfold zed
  by_cases h0 : s.e = 0
  · rw [if_pos h0, if_pos (show t.e = 0 from h1 ▸ h0), h2 h0]
    split
    · exact ⟨rfl, hf 10⟩
    · exact ⟨rfl, rfl, fun _ => rfl⟩
  · rw [if_neg h0, if_neg (h1 ▸ h0)]
    exact ⟨rfl, h1, h2⟩
theorem Rd.like.bytes {s t : Rd} {c d : Bool} {m : Nat} (h : s.like t) : (zbj c m s).1 = (zbj d m t).1 ∧ (zbj c m s).2.like (zbj d m t).2 := by
  have a := h.num (c := c) (d := d) (m := m)
  have := a.2.take (c := c) (d := d) (m := (zaZ c m s).1)
  unfold zbj
  rw [← a.1]
  exact this
theorem Rd.like.recs {s t : Rd} {c d : Bool} (h : s.like t) : ∀ k, (zcJ c k s).1 = (zcJ d k t).1 ∧ (zcJ c k s).2.like (zcJ d k t).2
  | 0 => ⟨rfl, h⟩
  | k + 1 => by
    obtain ⟨a, b⟩ := Rd.like.recs h (c := c) (d := d) k
    have e := b.bytes (c := c) (d := d) (m := 64)
    exact ⟨by simp only [zcJ, a, e.1], e.2⟩
theorem Rd.like.fields {s t : Rd} {c d : Bool} (h : s.like t) (k : Nat) : (zic c k s).1 = (zic d k t).1 ∧ (zic c k s).2.like (zic d k t).2 := by
  obtain ⟨t1, t2⟩ := h.bytes (c := c) (d := d) (m := 64)
  obtain ⟨n1, n2⟩ := t2.num (c := c) (d := d) (m := 4)
  obtain ⟨r1, r2⟩ := n2.recs (c := c) (d := d) (zaZ c 4 (zbj c 64 s).2).1
  obtain ⟨g1, g2⟩ := t2.bytes (c := c) (d := d) (m := 64)
  obtain ⟨f1, f2⟩ := g2.num (c := c) (d := d) (m := 9007199254740992)
  obtain ⟨e1, e2⟩ := t2.num (c := c) (d := d) (m := 9007199254740992)
  unfold zic
  simp only
  split
  · exact ⟨rfl, h⟩
  · split
    · rw [← n1, ← r1, ← t1]; exact ⟨rfl, r2⟩
    · split
      · rw [← t1, ← g1, ← f1]; exact ⟨rfl, f2⟩
      · split
        · rw [← t1, ← e1]; exact ⟨rfl, e2⟩
        · rw [← t1]; exact ⟨rfl, t2⟩
theorem Rd.like.takeOp {s t : Rd} {c d : Bool} {name : List UInt8 → Bool} (h : s.like t) : (zjb c name s).1 = (zjb d name t).1 ∧ (zjb c name s).2.like (zjb d name t).2 := by
  obtain ⟨k1, k2⟩ := h.num (c := c) (d := d) (m := 4)
  obtain ⟨x1, x2⟩ := k2.fields (c := c) (d := d) (zaZ c 4 s).1
  have z := x2.fail (c := c) (d := d) (x := zar name (zic c (zaZ c 4 s).1 (zaZ c 4 s).2).1)
  unfold zjb
  simp only
  rw [← k1, ← x1, ← z.1]
  exact ⟨rfl, z⟩

theorem zcK (cut : Bool) (m : Nat) (s : Rd) : (zaZ cut m s).1 ≤ m := by
  unfold zaZ
  split
  · cases h : zhU m 0 0 s.b with
    | ok x =>
      obtain ⟨n, r⟩ := x
      obtain ⟨q, h1, h2, h3, _⟩ := zmB m s.b 0 0 n r (by omega) h
      exact h3
    | error x => exact Nat.zero_le _
  · exact Nat.zero_le _
theorem numR_len {m : Nat} {b : List UInt8} {n : Nat} {r : List UInt8} (h : zhU m 0 0 b = .ok (n, r)) : r.length ≤ b.length := by
  obtain ⟨q, h1, h2, _⟩ := zmB m b 0 0 n r (by omega) h
  rw [h2, List.length_append]; omega
theorem zmC (m : Nat) (s : Rd) : (zaZ false m s).2.b.length ≤ s.b.length := by
  unfold zaZ Rd.fail
  split
  · cases h : zhU m 0 0 s.b with
    | ok x => exact numR_len h
    | error x => simp only; split <;> simp
  · exact Nat.le_refl _
theorem takeP_len (n : Nat) (s : Rd) : (zed false n s).2.b.length ≤ s.b.length := by
  unfold zed Rd.fail
  split
  · split
    · simp only; split <;> simp
    · simp
  · exact Nat.le_refl _
theorem takeP_len1 (cut : Bool) (n : Nat) (s : Rd) : (zed cut n s).1.length ≤ n := by
  unfold zed
  split
  · split
    · simp
    · simp; omega
  · simp
theorem bytesP_len (m : Nat) (s : Rd) : (zbj false m s).2.b.length ≤ s.b.length := Nat.le_trans (takeP_len _ _) (zmC m s)
theorem zil (cut : Bool) (m : Nat) (s : Rd) : (zbj cut m s).1.length ≤ m := Nat.le_trans (takeP_len1 _ _ _) (zcK _ _ _)

theorem zkB (c : Bool) (s : Rd) : ∀ k, (zcJ c k s).1.length = k
  | 0 => rfl
  | k + 1 => by simp [zcJ, zkB c s k]

theorem ends_set {σ τ : List zc} {id : Nat} {x : zc} {K : AV → List zc → Prop} {l : List AV} (h1 : Low σ.length (dmT (zcg l))) (hl : zeN σ.length σ) (hx : LowO σ.length x) (h : K (dmT (zcg l)) (σ.set id x)) : Ends σ.length K (some l) (σ.set id x ++ τ) := by
  unfold Ends
  have e : (σ.set id x ++ τ).take σ.length = σ.set id x := by
    have := zfl (σ.set id x) τ
    rwa [List.length_set] at this
  rw [e]
  exact ⟨h1, hl.set hx, h⟩
theorem zeW {σ : List zc} {id : Nat} {x : zc} {K : AV → List zc → Prop} {l : List AV} (h1 : Low σ.length (dmT (zcg l))) (hl : zeN σ.length σ) (hx : LowO σ.length x) (h : K (dmT (zcg l)) (σ.set id x)) : Ends σ.length K (some l) (σ.set id x) := by
  have := ends_set (τ := []) h1 hl hx h
  rwa [List.append_nil] at this
theorem zjK {α : Type} {σ : List α} {id : Nat} {x y : α} (h : σ[id]? = some x) : (σ.set id y)[id]? = some y := by
  rw [List.getElem?_set_self (List.getElem?_eq_some_iff.1 h).1]
theorem zmt {α : Type} {σ : List α} {id : Nat} {x : α} (h : σ[id]? = some x) : σ.set id x = σ := by
  obtain ⟨h1, rfl⟩ := List.getElem?_eq_some_iff.1 h
  exact List.set_getElem_self h1

theorem numR_err {m : Nat} : ∀ {b : List UInt8} {i acc : Nat} {x : Int}, zhU m i acc b = .error x → x ≠ 0
  | [], i, acc, x, h => by simp only [zhU, Except.error.injEq] at h; omega
  | c :: r, i, acc, x, h => by
    simp only [zhU] at h
    split at h
    · simp only [Except.error.injEq] at h; omega
    · split at h
      · split at h
        · simp only [Except.error.injEq] at h; omega
        · cases h
      · exact numR_err h
theorem fail_ne {c : Bool} {s : Rd} {x : Int} (h : s.e = 0) (hx : x ≠ 0) : (s.fail c x).e ≠ 0 := by
  rw [Rd.fail, if_pos ⟨h, hx⟩]; exact hx
theorem zdG {c : Bool} {m : Nat} {s : Rd} (h : (zaZ c m s).2.e = 0) : s.e = 0 ∧ s.b = zci (zaZ c m s).1 ++ (zaZ c m s).2.b := by
  unfold zaZ at h ⊢
  by_cases h0 : s.e = 0
  · rw [if_pos h0] at h ⊢
    refine ⟨h0, ?_⟩
    cases e : zhU m 0 0 s.b with
    | ok x =>
      obtain ⟨n, r⟩ := x
      obtain ⟨q, h1, h2, _⟩ := zmB m s.b 0 0 n r (by omega) e
      simp only [Nat.pow_zero, Nat.mul_one, Nat.zero_add] at h1
      simp only
      rw [h1]; exact h2
    | error x =>
      rw [e] at h
      exact absurd h (fail_ne h0 (numR_err e))
  · rw [if_neg h0] at h; exact absurd h h0
theorem takeP_ok {c : Bool} {n : Nat} {s : Rd} (h : (zed c n s).2.e = 0) : s.e = 0 ∧ s.b = (zed c n s).1 ++ (zed c n s).2.b ∧ (zed c n s).1.length = n := by
  unfold zed at h ⊢
  by_cases h0 : s.e = 0
  · rw [if_pos h0] at h ⊢
    refine ⟨h0, ?_⟩
    split
    · rename_i h1
      rw [if_pos h1] at h
      exact absurd h (fail_ne h0 (by omega))
    · simp; omega
  · rw [if_neg h0] at h; exact absurd h h0
theorem bytesP_ok {c : Bool} {m : Nat} {s : Rd} (h : (zbj c m s).2.e = 0) : s.e = 0 ∧ s.b = zlm (zbj c m s).1 ++ (zbj c m s).2.b := by
  unfold zbj at h ⊢
  obtain ⟨h1, h2, h3⟩ := takeP_ok h
  obtain ⟨g1, g2⟩ := zdG h1
  refine ⟨g1, ?_⟩
  rw [zlm, h3, List.append_assoc, ← h2]
  exact g2
theorem recsB_app (a b : List (List UInt8)) : zdE (a ++ b) = zdE a ++ zdE b := by simp [zdE]
theorem recsP_ok {c : Bool} {s : Rd} : ∀ {k : Nat}, (zcJ c k s).2.e = 0 → s.e = 0 ∧ s.b = zdE (zcJ c k s).1 ++ (zcJ c k s).2.b
  | 0, h => ⟨h, rfl⟩
  | k + 1, h => by
    simp only [zcJ] at h ⊢
    obtain ⟨h1, h2⟩ := bytesP_ok h
    obtain ⟨g1, g2⟩ := recsP_ok (k := k) h1
    refine ⟨g1, ?_⟩
    rw [recsB_app, List.append_assoc]
    rw [g2]
    congr 1
    rw [h2]
    simp [zdE]
theorem zeA (c : Bool) {m n : Nat} (hm : n ≤ m) (hn : n < 18446744073709551616) (r : List UInt8) : zaZ c m ⟨zci n ++ r, 0⟩ = (n, ⟨r, 0⟩) := by
  have := numR_put m n 0 0 r (by omega) (by simp; omega) (by omega) (by simp; omega)
  simp only [Nat.pow_zero, Nat.mul_one, Nat.zero_add] at this
  simp only [zaZ, if_true, this]
theorem zmd (c : Bool) {m : Nat} {x : List UInt8} (hm : x.length ≤ m) (hn : x.length < 18446744073709551616) (r : List UInt8) : zbj c m ⟨zlm x ++ r, 0⟩ = (x, ⟨r, 0⟩) := by
  rw [zbj, zlm, List.append_assoc, zeA c hm hn]
  simp only [zed, if_true, List.length_append]
  rw [if_neg (by omega)]
  simp
theorem recsP_put (c : Bool) {rs : List (List UInt8)} (h : ∀ x ∈ rs, x.length ≤ 64) (r : List UInt8) : ∀ k, k ≤ rs.length → zcJ c k ⟨zdE rs ++ r, 0⟩ = (rs.take k, ⟨zdE (rs.drop k) ++ r, 0⟩)
  | 0, _ => by simp [zcJ]
  | k + 1, hk => by
    have hd : rs.drop k = rs[k] :: rs.drop (k + 1) := List.drop_eq_getElem_cons (by omega)
    have hb : zdE (rs.drop k) ++ r = zlm rs[k] ++ (zdE (rs.drop (k + 1)) ++ r) := by rw [hd]; simp only [zdE, List.map_cons, List.flatten_cons, List.append_assoc]
    have hl := h rs[k] (List.getElem_mem _)
    rw [zcJ, recsP_put c h r k (by omega), hb, zmd c hl (by omega), List.take_add_one]
    simp [List.getElem?_eq_getElem (show k < rs.length by omega)]

theorem zlb : ∀ (f : Nat) (s : List UInt8) (n : Nat), zdx f s = some n → s.length ≤ 4 * n
  | 0, _, _, h => by simp [zdx] at h
  | f + 1, s, n, h => by
    simp only [zdx] at h
    split at h
    · rename_i h0; cases h; simp [h0]
    · split at h
      · cases h
      · simp only [Option.map_eq_some_iff] at h
        obtain ⟨m, hm, rfl⟩ := h
        have := zlb f _ m hm
        have h4 := (zhl s).2.1
        simp only [List.length_drop] at *
        omega
theorem name_len {s : List UInt8} (h : zbn s = true) : s.length ≤ 64 := by
  simp only [zbn, zhv, decide_eq_true_eq] at h
  cases e : zdx (s.length + 1) s with
  | none => simp [e] at h
  | some n =>
    have := zlb _ s n e
    simp only [e] at h
    by_cases h16 : n > 16
    · simp [h16] at h
    · omega
end Go.AW
