/- Contracts: which messages may be, the program's: view-changes and new views. -/
import Derived.Test.YtdgcepphjnoalaaGreatCk4
import Derived.Test.YtdgcepphjnoalaaGreatSpTab
import Derived.Test.YtdgcepphjnoalaaGreatSpUtf
import Derived.Test.YtdgcepphjnoalaaGreatAwEnd
import Derived.Test.YtdgcepphjnoalaaGreatCl1
set_option linter.all false
set_option maxRecDepth 100000
set_option linter.unusedSimpArgs false
set_option linter.unusedVariables false
namespace Go.Proofs.YtdgcepphjnoalaaGreat
open Go.AW

theorem c_intIndex {σ : List zc} {l : List Int} {x : Int} (hl0 : l.length ≤ 1073741824) {K : AV → List zc → Prop} (hK : ∀ i : Int, (0 ≤ i ↔ x ∈ l) → K (.d (.int .i64 i)) σ) :
    zl Tryz.prog zdt [.d (.slice (zlt l)), .d (.int .i64 x)] σ K := by
  refine zjc ziY fun hl => ?_
  simp only [zfe, iN, bT, bF, eN]
  refine zaP ?_
  refine zae l.length (fun k vs s => vs = [.d (.int .i64 k)] ∧ (∃ T, s = σ ++ T) ∧ x ∉ l.take k) ⟨rfl, ⟨[], by simp⟩, by simp⟩ ?_
  rintro k vs s hk ⟨rfl, ⟨T, rfl⟩, htk⟩
  by_cases hlt : k < l.length
  · have hd : decide ((k : Int) < (l.length : Int)) = true := by simp; omega
    have hx : l[k]? = some l[k] := by simp [hlt]
    have hmem := List.getElem_mem hlt
    have hgx := zbZ (f := fun t => [D.int .i64 t]) hx
    obtain ⟨y, hye⟩ : ∃ y, l[k] = y := ⟨_, rfl⟩
    rw [hye] at hx hgx hmem
    cases h : (x == y)
    · refine zbi (zj hd (zj hgx (zj h (wk1 k (by omega))))) ?_
      refine zdE.next hlt ⟨rfl, ⟨_, rfl⟩, ?_⟩
      rw [List.take_add_one, hx]
      simp at h
      simp [htk, h]
    · refine zbi (zj hd (zj hgx h)) ?_
      refine zap hl ?_
      refine hK _ ?_
      simp at h
      simp [h, hmem]
  · have hd : decide ((k : Int) < (l.length : Int)) = false := by simp; omega
    refine zbi hd ?_
    refine zap hl ?_
    refine hK _ ?_
    rw [List.take_of_length_le (by omega)] at htk
    simp [htk]
theorem zrj {σ : List zc} {l : List Int} {x : Int} (hl0 : l.length ≤ 1073741824) {K : AV → List zc → Prop} (hK : K (.d (.bool (decide (x ∈ l)))) σ) :
    zl Tryz.prog zcN [.d (.slice (zlt l)), .d (.int .i64 x)] σ K := by
  refine zjc zhv fun hl => ?_
  simp only [zeo, iN, bT, bF, eN]
  refine zaP ?_
  refine c_intIndex hl0 fun i hi => ?_
  have e : decide (i ≥ 0) = decide (x ∈ l) := by rw [decide_eq_decide, ge_iff_le, hi]
  refine zaP ?_
  rw [e]
  refine zap hl ?_
  exact hK
theorem zlF {σ : List zc} {k : Int} {K : AV → List zc → Prop} (hK : K (.d (.bool (ownK k))) σ) : zl Tryz.prog zcJ [.d (.int .i64 k)] σ K := by
  refine zfT znw fun hl => ?_
  simp only [ziP, iN, bT, bF, eN]
  refine zaP ?_
  refine zrj (l := [2, 3, 4, 5, 6, 8, 9]) (by simp) ?_
  have e : decide (k ∈ [2, 3, 4, 5, 6, 8, 9]) = ownK k := by
    unfold ownK
    rw [decide_eq_decide]
    simp
    omega
  rw [e]
  refine zaP ?_
  refine zap hl ?_
  exact hK
theorem zpa.zero {σ S : List zc} {id : Nat} {B : zc} {P : List Int} (h : zpa σ id B P S) : zpa σ id B (P ++ [0]) S := by
  have e : zhA (P ++ [0]) = zhA P := by
    rw [fstE_app]
    by_cases h : zhA P = 0
    · rw [if_neg (by simpa using h), h]; rfl
    · rw [if_pos h]
  obtain ⟨h1, h2, h3⟩ := h
  exact ⟨by rw [e]; exact h1, h2, by rw [e]; exact h3⟩

section
variable {σ S : List zc} {id n : Nat} {B X : zc} {P : List Int} {K : AV → List zc → Prop} (j : zpa σ id B P S) (hid : id < σ.length) (hne : n ≠ id) (c : S[n]? = some X)
include j hid hne c
end


theorem noPf_small : zqB zmd := ⟨by decide, by decide, by decide, by decide, by decide, by simp [zmd, zkj], by simp [zmd, zkj], by simp [zmd, zkj], by simp [zmd]⟩
theorem znU : zdy zfQ := ⟨⟨by decide, by simp [zfQ]⟩, ⟨by decide, by simp [zfQ]⟩, by decide, by decide, by simp [zfQ], by decide, by simp [zfQ], noPf_small, by decide, by decide⟩
theorem ite_small {c : Prop} [h : Decidable c] {a b : zfc} (ha : zdy a) (hb : zdy b) : zdy (if c then a else b) := by
  cases h
  · rw [if_neg ‹_›]; exact hb
  · rw [if_pos ‹_›]; exact ha
theorem bare_small {m : zfc} (h : zdy m) : zdy (bareF m) := by
  obtain ⟨h1, h2, h3, h4, h5, h6, h7, h8, h9, h10⟩ := h
  obtain ⟨n1, n2, n3, n4, n5, n6, n7, n8, n9, n10⟩ := znU
  unfold bareF
  repeat' refine ite_small ?_ ?_
  all_goals constructor <;> assumption

theorem c_aMsg5 {σ : List zc} {id : Nat} {P : List Int} {m : zfc} (hσ : σ[id]? = some (zoO (zhA P))) (hk : m.kind = 5) {K : AV → List zc → Prop} (hK : K (.tup []) (σ.set id (zoO (zhA (P ++ zof m))))) :
    zl Tryz.prog zdk [.box id 0, znr m] σ K := by
  refine zjc ziu fun hl => ?_
  have hid := zbR hσ
  simp only [zeT, iN, bT, bF, eN, zl5]
  have j := zpa.first hσ (msgO m)
  refine zbi (kk5 hk) ?_
  refine j_broker j hid fun S j => ?_
  have b := j.b
  refine zbi b ?_
  refine j_num j hid fun S j => ?_
  have b := j.b
  refine zbi b ?_
  refine j_in j hid fun S j => ?_
  have b := j.b
  refine zbi b ?_
  refine j_num j hid fun S j => ?_
  have b := j.b
  refine zbi b ?_
  refine j_in j hid fun S j => ?_
  have b := j.b
  refine zbi b ?_
  refine j_num j hid fun S j => ?_
  have b := j.b
  refine zbi (zj b (kk5 hk)) ?_
  refine zlF ?_
  refine zbi (zj (show ownK m.kind = true by rw [hk]; rfl) b) ?_
  refine zlE ?_
  refine zaP ?_
  refine j_says j hid fun S j => ?_
  refine zaP ?_
  exact (j.as (by simp [zof, zqL, hk, show ownK 5 = true from rfl])).done hl hK
theorem c_bare5 {σ : List zc} {m : zfc} (hk : m.kind = 5) {K : AV → List zc → Prop} (hK : K (znr (bareF m)) σ) : zl Tryz.prog zht [znr m] σ K := by
  refine zfT zpu fun hl => ?_
  simp only [zkt, iN, bT, bF, eN, zl3]
  refine zbi (kk5 hk) ?_
  refine zlF ?_
  refine zbi (show ownK m.kind = true by rw [hk]; rfl) ?_
  refine zap hl ?_
  simp only [bareF, hk] at hK
  rw [hk]
  exact hK
theorem c_mCheck5 {σ : List zc} {m : zfc} (hm : zdy m) (hk : m.kind = 5) {K : AV → List zc → Prop} (hK : K (.d (.int .i64 (zaW m))) σ) : zl Tryz.prog zeI [znr m] σ K := by
  refine zfT zoA fun hl => ?_
  have fin : ∀ z, zaW m = z → K (.d (.int .i64 z)) σ := fun z h => h ▸ hK
  clear hK
  simp only [zjD, iN, bT, bF, eN]
  refine zaP ?_
  refine c_aMsg5 (P := []) (m := m) (by rw [List.getElem?_append_right (by omega)]; simp [zoO, zhA]) hk ?_
  cases h1 : (zhA (zof m) == 0)
  · refine gq24 h1 ?_
    refine zap hl ?_
    exact fin _ (by simp at h1; simp [zaW, h1])
  refine gq24 h1 ?_
  refine c_bare5 (m := m) hk ?_
  refine zaP ?_
  refine c_mSame (a := m) (b := bareF m) hm (bare_small hm) ?_
  cases h2 : decide (m = bareF m)
  · refine zaP ?_
    refine zap hl ?_
    exact fin _ (by simp at h1 h2; simp [zaW, h1, h2])
  · refine zbi h1 ?_
    refine zap hl ?_
    exact fin _ (by simp at h1 h2; simp [zaW, h1, ← h2])
end Go.Proofs.YtdgcepphjnoalaaGreat

/- Readers: a reader's bytes and its error; what is taken from them. 'cut': an error drops the bytes. No program in sight. -/
set_option linter.unusedSimpArgs false
namespace Go.AW

structure Rd where
  b : List UInt8
  e : Int
def Rd.fail (cut : Bool) (s : Rd) (x : Int) : Rd := if s.e = 0 ∧ x ≠ 0 then ⟨if cut then [] else s.b, x⟩ else s
def zlU (cut : Bool) (most : Nat) (s : Rd) : Nat × Rd :=
  if s.e = 0 then (match numR most 0 0 s.b with | .ok (n, r) => (n, ⟨r, 0⟩) | .error x => (0, s.fail cut x)) else (0, s)
def takeP (cut : Bool) (n : Nat) (s : Rd) : List UInt8 × Rd :=
  if s.e = 0 then (if n > s.b.length then ([], s.fail cut 10) else (s.b.take n, ⟨s.b.drop n, 0⟩)) else ([], s)
def zhQ (cut : Bool) (most : Nat) (s : Rd) : List UInt8 × Rd := takeP cut (zlU cut most s).1 (zlU cut most s).2
def zqJ (cut : Bool) : Nat → Rd → List (List UInt8) × Rd
  | 0, s => ([], s)
  | k + 1, s => ((zqJ cut k s).1 ++ [(zhQ cut 64 (zqJ cut k s).2).1], (zhQ cut 64 (zqJ cut k s).2).2)
def zkI (cut : Bool) (k : Nat) (s : Rd) : TOp × Rd :=
  let t := zhQ cut 64 s
  if k = 0 then (noOp, s)
  else if k = 2 then (let n := zlU cut 4 t.2; let r := zqJ cut n.1 n.2; (⟨k, t.1, [], 0, r.1⟩, r.2))
  else if k = 3 then (let g := zhQ cut 64 t.2; let f := zlU cut 9007199254740992 g.2; (⟨k, t.1, g.1, f.1, []⟩, f.2))
  else if k = 4 then (let f := zlU cut 9007199254740992 t.2; (⟨k, t.1, [], f.1, []⟩, f.2))
  else (⟨k, t.1, [], 0, []⟩, t.2)
def zlZ (cut : Bool) (name : List UInt8 → Bool) (s : Rd) : TOp × Rd :=
  let k := zlU cut 4 s
  let x := zkI cut k.1 k.2
  let z := x.2.fail cut (zdm name x.1)
  (if z.e = 0 then x.1 else noOp, z)

def Rd.like (s t : Rd) : Prop := s.e = t.e ∧ (s.e = 0 → s.b = t.b)
theorem Rd.like.fail {s t : Rd} {c d : Bool} {x : Int} (h : s.like t) : (s.fail c x).like (t.fail d x) := by
  obtain ⟨h1, h2⟩ := h
  unfold Rd.fail Rd.like
  grind
theorem Rd.like.num {s t : Rd} {c d : Bool} {m : Nat} (h : s.like t) : (zlU c m s).1 = (zlU d m t).1 ∧ (zlU c m s).2.like (zlU d m t).2 := by
  have hf : ∀ x, (s.fail c x).like (t.fail d x) := fun x => h.fail
  obtain ⟨h1, h2⟩ := h
  unfold zlU
  by_cases h0 : s.e = 0
  · rw [if_pos h0, if_pos (show t.e = 0 from h1 ▸ h0), h2 h0]
    cases numR m 0 0 t.b with
    | ok x => exact ⟨rfl, rfl, fun _ => rfl⟩
    | error x => exact ⟨rfl, hf x⟩
  · rw [if_neg h0, if_neg (h1 ▸ h0)]
    exact ⟨rfl, h1, h2⟩
theorem Rd.like.take {s t : Rd} {c d : Bool} {m : Nat} (h : s.like t) : (takeP c m s).1 = (takeP d m t).1 ∧ (takeP c m s).2.like (takeP d m t).2 := by
  have hf : ∀ x, (s.fail c x).like (t.fail d x) := fun x => h.fail
  obtain ⟨h1, h2⟩ := h
  unfold takeP
  by_cases h0 : s.e = 0
  · rw [if_pos h0, if_pos (show t.e = 0 from h1 ▸ h0), h2 h0]
    split
    · exact ⟨rfl, hf 10⟩
    · exact ⟨rfl, rfl, fun _ => rfl⟩
  · rw [if_neg h0, if_neg (h1 ▸ h0)]
    exact ⟨rfl, h1, h2⟩
theorem Rd.like.bytes {s t : Rd} {c d : Bool} {m : Nat} (h : s.like t) : (zhQ c m s).1 = (zhQ d m t).1 ∧ (zhQ c m s).2.like (zhQ d m t).2 := by
  have a := h.num (c := c) (d := d) (m := m)
  have := a.2.take (c := c) (d := d) (m := (zlU c m s).1)
  unfold zhQ
  rw [← a.1]
  exact this
theorem Rd.like.recs {s t : Rd} {c d : Bool} (h : s.like t) : ∀ k, (zqJ c k s).1 = (zqJ d k t).1 ∧ (zqJ c k s).2.like (zqJ d k t).2
  | 0 => ⟨rfl, h⟩
  | k + 1 => by
    obtain ⟨a, b⟩ := Rd.like.recs h (c := c) (d := d) k
    have e := b.bytes (c := c) (d := d) (m := 64)
    exact ⟨by simp only [zqJ, a, e.1], e.2⟩
theorem Rd.like.fields {s t : Rd} {c d : Bool} (h : s.like t) (k : Nat) : (zkI c k s).1 = (zkI d k t).1 ∧ (zkI c k s).2.like (zkI d k t).2 := by
  obtain ⟨t1, t2⟩ := h.bytes (c := c) (d := d) (m := 64)
  obtain ⟨n1, n2⟩ := t2.num (c := c) (d := d) (m := 4)
  obtain ⟨r1, r2⟩ := n2.recs (c := c) (d := d) (zlU c 4 (zhQ c 64 s).2).1
  obtain ⟨g1, g2⟩ := t2.bytes (c := c) (d := d) (m := 64)
  obtain ⟨f1, f2⟩ := g2.num (c := c) (d := d) (m := 9007199254740992)
  obtain ⟨e1, e2⟩ := t2.num (c := c) (d := d) (m := 9007199254740992)
  unfold zkI
  simp only
  split
  · exact ⟨rfl, h⟩
  · split
    · rw [← n1, ← r1, ← t1]; exact ⟨rfl, r2⟩
    · split
      · rw [← t1, ← g1, ← f1]; exact ⟨rfl, f2⟩
      · split
        · rw [← t1, ← e1]; exact ⟨rfl, e2⟩
        · rw [← t1]; exact ⟨rfl, t2⟩
theorem Rd.like.takeOp {s t : Rd} {c d : Bool} {name : List UInt8 → Bool} (h : s.like t) : (zlZ c name s).1 = (zlZ d name t).1 ∧ (zlZ c name s).2.like (zlZ d name t).2 := by
  obtain ⟨k1, k2⟩ := h.num (c := c) (d := d) (m := 4)
  obtain ⟨x1, x2⟩ := k2.fields (c := c) (d := d) (zlU c 4 s).1
  have z := x2.fail (c := c) (d := d) (x := zdm name (zkI c (zlU c 4 s).1 (zlU c 4 s).2).1)
  unfold zlZ
  simp only
  rw [← k1, ← x1, ← z.1]
  exact ⟨rfl, z⟩





open Go


end Go.AW
