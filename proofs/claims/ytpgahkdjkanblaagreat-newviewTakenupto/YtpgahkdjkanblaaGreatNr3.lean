/- Contracts: certificates and entries that are the same. -/
import Derived.Test.YtpgahkdjkanblaaGreatRq1
import Derived.Test.YtpgahkdjkanblaaGreatSpTab
import Derived.Test.YtpgahkdjkanblaaGreatSpOp
import Derived.Test.YtpgahkdjkanblaaGreatSpMap
import Derived.Test.YtpgahkdjkanblaaGreatAwFrz
import Derived.Test.YtpgahkdjkanblaaGreatAwEnd
import Derived.Test.YtpgahkdjkanblaaGreatSh
set_option linter.all false
set_option maxRecDepth 100000
set_option linter.unusedSimpArgs false
set_option linter.unusedVariables false
namespace Go.Proofs.YtpgahkdjkanblaaGreat
open Go.AW

theorem gq16 {A P Q : Prop} (a : A) (h : Q) (e : A → P = Q := by intro a; simp -dsimp only [↓zfa, ↓zat, ↓zbt, ↓zfb, ↓zeW, ↓zeU, ↓zeX, ↓zeV, ↓zby, ↓zbu, ↓zbz, ↓zbv, ↓zeY, ↓zbs, ↓zbA, ↓zbw, ↓zbB, ↓zbx, ↓zeT, ↓zeZ, ↓zbr, ↓zbC, ↓zeQ, ↓zeP, ↓zeS, iN, bT, bF, eN, ↓zcO, ↓unC, ↓zP, ↓zG, ↓zH, ↓zK, ↓zW, ↓zaz, ↓zdn, ↓zau, ↓zbf, ↓zQ, ↓zg, ↓zf, ↓zbY, ↓zb, ↓zae, ↓zL, ↓zaN, ↓zaO, ↓zc, ↓zB, ↓zj, ↓zE, ↓zY, ↓zdz, ↓zdA, ↓zam, ↓zap, ↓zaK, ↓zaV, ↓zbj, ↓zm, ↓zai, ↓zJ, ↓zr, ↓zT, zdD, zbo, zbk, unA, zcZ, bnd, zdZ, zac, zR, zdT, dm, dm1, zI, zan, zeq, zep, zZ, Q0, Q1, Q2, Q3, Q4, Q5, zX, zn, zo, zF, zA, Q6, Q7, Q8, Q9, Q10, Q11, Q12, Q13, Q14, Nat.reduceAdd, Q15, Int.reduceToNat, Q16, Q17, Q18, Q19, Q20, reduceIte, Q21, Q22, zw, rep, zU, zeo, toD, zaa, Q23, Q24, Q25, Q26, Q27, Q28, Nat.reduceLeDiff, Q29, Nat.reduceSub, Q30, Q31, Q32, sc, Q33, Q34, Q35, Bool.not_false, Bool.not_true, zdB, zgH, a]; rfl) : P := (e a).mpr h
theorem c_sameSigns {σ : List zd} {a b : List zt} (ha : a.length ≤ 1073741824) {K : KT} (hK : K (.d (.bool (decide (a = b)))) σ) :
    zl Tryz.prog ziX [.d (.slice (zab a)), .d (.slice (zab b))] σ K := by
  refine ze zmW.is rfl fun hl _ => zmW.goes ?_
  have fin : ∀ z : Bool, decide (a = b) = z → K (.d (.bool z)) σ := fun z hz => by rw [← hz]; exact hK
  clear hK
  simp only [znk, iN, bT, bF, eN]
  (refine gq11 ?_; try with_reducible exact True.intro)
  by_cases hl2 : a.length = b.length
  · have hne : ((a.length : Int) != (b.length : Int)) = false := by simp [hl2]
    (refine gq4 hne ?_; try with_reducible exact True.intro)
    refine zy a.length (fun k vs s => vs = [.d (.int .i64 k)] ∧ s = σ ∧ a.take k = b.take k) ⟨rfl, rfl, by simp⟩ ?_
    rintro k vs s hk ⟨rfl, rfl, htk⟩
    (refine gq11 ?_; try with_reducible exact True.intro)
    refine zaU (fun h => ?_) (fun h => ?_)
    · have hka : k < a.length := by simp at h; omega
      have hx : a[k]? = some a[k] := by simp [hka]
      have hy : b[k]? = some (b[k]'(by omega)) := List.getElem?_eq_getElem _
      have hgx := zal (f := zgH) hx
      have hgy := zal (f := zgH) hy
      obtain ⟨x, hxe⟩ : ∃ x, a[k] = x := ⟨_, rfl⟩
      obtain ⟨y, hye⟩ : ∃ y, b[k]'(by omega) = y := ⟨_, rfl⟩
      rw [hxe] at hgx hx
      rw [hye] at hgy hy
      have hxy : x = y ↔ x.key = y.key ∧ x.dig = y.dig := by cases x; cases y; simp
      cases h2 : (x.key == y.key && x.dig == y.dig)
      · (refine gq16 (zq hgx (zq hgy h2)) ?_; try with_reducible exact True.intro)
        repeat' ((with_reducible refine And.intro ?_ ?_); focus (first | omega | rfl | decide))
        try (refine gq16 (zq hgx (zq hgy h2)) ?_; try with_reducible exact True.intro)
        refine zV hl ?_
        refine fin _ (decide_eq_false (by rintro rfl; rw [hx] at hy; have := hxy.1 (Option.some.inj hy); simp [this.1, this.2] at h2))
      · (refine gq16 (zq hgx (zq hgy h2)) ?_; try with_reducible exact True.intro)
        repeat' ((with_reducible refine And.intro ?_ ?_); focus (first | omega | rfl | decide))
        try (refine gq16 (zq hgx (zq hgy h2)) ?_; try with_reducible exact True.intro)
        simp only [Bool.and_eq_true, beq_iff_eq] at h2
        refine zbp.next hka ⟨?_, rfl, zcG hx hy htk (hxy.2 h2)⟩
        rw [show (k : Int) + 1 = ((k + 1 : Nat) : Int) by omega, zbE (by omega) (by omega)]
    · refine zV hl ?_
      refine fin _ (decide_eq_true (zed hl2 (k := k) (by simp at h; omega) htk))
  · have hne : ((a.length : Int) != (b.length : Int)) = true := by simp; omega
    (refine gq4 hne ?_; try with_reducible exact True.intro)
    refine zV hl ?_
    exact fin _ (decide_eq_false (by rintro rfl; exact hl2 rfl))
theorem c_sameCert {σ : List zd} {a b : zfB} (ha : a.signs.length ≤ 1073741824) {K : KT} (hK : K (.d (.bool (decide (a = b)))) σ) :
    zl Tryz.prog zko [zfX a, zfX b] σ K := by
  refine ze znX.is rfl fun hl _ => znX.goes ?_
  have fin : ∀ z : Bool, decide (a = b) = z → K (.d (.bool z)) σ := fun z hz => by rw [← hz]; exact hK
  clear hK
  have hab : a = b ↔ a.seq = b.seq ∧ a.dig = b.dig ∧ a.signs = b.signs := by cases a; cases b; simp
  simp only [zoj, iN, bT, bF, eN]
  cases h1 : (a.seq == b.seq)
  · (refine gq4 h1 ?_; try with_reducible exact True.intro)
    refine zV hl ?_
    refine fin _ (decide_eq_false fun h => ?_)
    simp [(hab.1 h).1] at h1
  cases h2 : (a.dig == b.dig)
  · (refine gq4 (zq h1 h2) ?_; try with_reducible exact True.intro)
    refine zV hl ?_
    refine fin _ (decide_eq_false fun h => ?_)
    simp [(hab.1 h).2.1] at h2
  (refine gq4 (zq h1 h2) ?_; try with_reducible exact True.intro)
  refine c_sameSigns ha ?_
  (refine gq3 ?_; try with_reducible exact True.intro)
  refine zV hl ?_
  refine fin _ ?_
  simp only [beq_iff_eq] at h1 h2
  by_cases h3 : a.signs = b.signs
  · rw [decide_eq_true h3, decide_eq_true (hab.2 ⟨h1, h2, h3⟩)]
  · rw [decide_eq_false h3, decide_eq_false (fun h => h3 (hab.1 h).2.2)]
end Go.Proofs.YtpgahkdjkanblaaGreat

/- The numbers of a new view's entries fit. No program in sight. -/
set_option linter.unusedSimpArgs false
namespace Go.AW

theorem zlk {cs : List zO} {k : Nat} {p : zca} (h : p ∈ zee cs k) : ∃ c ∈ cs, p ∈ c.above := by
  simp only [zee, List.mem_flatten, List.mem_map] at h
  obtain ⟨_, ⟨c, hc, rfl⟩, hp⟩ := h
  exact ⟨c, List.mem_of_mem_take hc, hp⟩
theorem great_le {cs : List zO} (hR : ∀ c ∈ cs, zik c) (k : Nat) : zdU (zee cs k) ≤ 9223372036854775807 :=
  greatF_lt (by omega) fun p hp => by
    obtain ⟨c, hc, hp⟩ := zlk hp
    exact ((hR c hc).2.2.2.2.1 p hp).2.1.2
theorem best_mem_R {cs : List zO} (hR : ∀ c ∈ cs, zik c) {k : Nat} (hk : k ≤ cs.length) (h : cs ≠ []) : znV (zmx cs k).seq := by
  obtain ⟨c, hc, e⟩ := zpG hk h
  rw [e]
  exact (hR c hc).2.2.1
theorem mayF_ne {f view : Int} {cs : List zO} (h : zmw f view cs = 0) : cs ≠ [] ∧ zci f = 0 := by
  unfold zmw at h
  by_cases h0 : zci f ≠ 0
  · rw [if_pos h0] at h; exact absurd h h0
  · rw [if_neg h0] at h
    have h0 : zci f = 0 := by simpa using h0
    refine ⟨?_, h0⟩
    rintro rfl
    have hf : ¬ (f < 1 ∨ f > 4) := by
      intro hf
      rw [zci, if_pos hf] at h0
      omega
    have ht : zaB 2 f = 2 * f + 1 := by rw [zaB, if_neg hf]
    split at h
    · omega
    · split at h
      · omega
      · rw [ht] at h
        simp only [List.length_nil] at h
        split at h <;> omega
theorem zrZ (g b : Int) : manyF g b ≤ 8 := by unfold manyF; omega
end Go.AW

/- Ends of calls that keep objects told at the end; a result whose rows are let go. -/
set_option linter.unusedSimpArgs false
set_option linter.unusedVariables false
namespace Go.AW
section
variable {P : Program} {σ : List zd}
def EndsX (n : Nat) (K : KT) (out : Option (List AV)) (σ' : List zd) : Prop := ∃ s ks, zpV [] σ' [] s ∧ zoP n ks K out s
theorem acall_keepX {f : FuncId} {F : AF} {na : Nat} (hF : isFn P f F na) {as0 : List AV} (has : as0.length = na) {K : KT}
    (h : zin σ.length σ → (∀ a ∈ as0, Low σ.length a) → awp P F.body (AtEnd fun fr' σ' => EndsX σ.length K (zqc fr' σ' F.res) σ') (ziS 0 as0) σ) : zl P f as0 σ K :=
  zkW hF has _ (fun {L w L' σ' w' fr' ts} S st0 S0 F' hz => by
    obtain ⟨s, ks, hw, hz⟩ := hz
    obtain ⟨L3, st3, S', _⟩ := ziM hw S0 (us := []) ⟨rfl, by simp⟩
    have st := st0.trans st3
    unfold zoP at hz
    split at hz
    · rename_i l hl
      obtain ⟨z0, z1, z2, z3, z4⟩ := hz
      split at z4
      · rename_i os hos
        split at z4
        · rename_i os' r hos' hr
          obtain ⟨L2, k1, k2, k3⟩ := zqx S' z0 z1 z2 z3 hos hos'
          refine ⟨L2, _, l, r, hl, ⟨st.os, st.tape, st.output, st.size, st.blk, st.cell, st.fz, fun b o hb ho => st.own b o hb (k2.own b o ho), by simp; omega, fun id x hx => ?_⟩, k3, fun v hv => (st3.rv hv).ren k2 hr, z4⟩
          have hid := zh hx
          obtain ⟨x', g1, g2, g3, g4, g5⟩ := st.turns id x hx
          refine ⟨x', by rw [List.getElem?_append_left (by simp; omega), List.getElem?_take, if_pos hid]; exact g1, g2, fun hk hk5 => (k1 id hid).trans (g3 hk hk5), fun sz n e => ?_, fun g sz cs e => ?_⟩
          · obtain ⟨n', e1, e2, e3⟩ := g4 sz n e
            exact ⟨n', e1, e2, fun e => (k1 id hid).trans (e3 e)⟩
          · rcases g5 g sz cs e with h | ⟨g', cs', e1, e2, e3⟩
            · exact .inl h
            · exact .inr ⟨g', cs', e1, e2, fun e => ⟨(k1 id hid).trans (e3 e).1, (e3 e).2⟩⟩
        · exact z4.elim
      · exact z4.elim
    · exact hz.elim) h
theorem endsX_of {n : Nat} {ks : List Nat} {K : KT} {out : Option (List AV)} {s : List zd} (h : zoP n ks K out s) : EndsX n K out s := ⟨s, ks, .refl _ _, h⟩
theorem zqC {τ os : List zd} {ks : List Nat} {K : KT} {l : List AV} {r : AV} (hl : zin σ.length σ) (hks : ∀ k ∈ ks, σ.length ≤ k) (hnd : ks.Nodup) (hg : getL (σ ++ τ) ks = some os) (hos : ∀ x ∈ os, zrE σ.length x)
    (hr : zdF (zkn σ.length ks) (zdy l) = some r) (h : K r (σ ++ os)) : EndsX σ.length K (some l) (σ ++ τ) := by
  refine endsX_of (ks := ks) ?_
  simp only [zoP]
  have ht : (σ ++ τ).take σ.length = σ := by simp
  refine ⟨by simp, by rw [ht]; exact hl, hks, hnd, ?_⟩
  rw [hg, ht]
  simp only
  have hro : zqd (zkn σ.length ks) os = some os := zrN (n := σ.length) (fun id h => by simp [zkn, h]) hos
  rw [hro, hr]
  exact h
theorem zl.frz {f : FuncId} {xs : List AV} {K : KT} (m : Nat) (h : zl P f xs σ fun r s => ∃ r', frzT s σ.length m r = some r' ∧ s.take σ.length = σ ∧ K r' σ) : zl P f xs σ K :=
  ⟨h.1, fun L w vs S hv => (h.2 L w vs S hv).mono fun e w' he => by
    cases e with
    | panicked _ => exact he
    | outgrown => exact he
    | returned v =>
      obtain ⟨L', σ', r, st, S', hr, r', hf, ht, hK⟩ := he
      have z2 : zin σ.length (σ'.take σ.length) := by rw [ht]; exact S.lows
      have hS := S'.take z2
      have hst := st.take
      have hv := ztJ S' (L2 := L') (σ2 := σ'.take σ.length) (fun b o => zpc) (fun t x ht hx hk b o hf hown => by
        obtain ⟨id, y, hy, hfy⟩ := hown
        rw [List.getElem?_take] at hy
        split at hy
        · rename_i hid
          exact S'.apart id t y x b o (by omega) hy hx hfy hf
        · cases hy) hr hf
      rw [ht] at hS hst hv
      exact ⟨L', σ, r', hst, hS, hv, hK⟩⟩
end

end Go.AW

/- Readers: a reader's bytes and its error; what is taken from them. 'cut': an error drops the bytes. No program in sight. -/
set_option linter.unusedSimpArgs false
namespace Go.AW

structure Rd where
  b : List UInt8
  e : Int
def Rd.fail (cut : Bool) (s : Rd) (x : Int) : Rd := if s.e = 0 ∧ x ≠ 0 then ⟨if cut then [] else s.b, x⟩ else s
def zpT (cut : Bool) (most : Nat) (s : Rd) : Nat × Rd :=
  if s.e = 0 then (match numR most 0 0 s.b with | .ok (n, r) => (n, ⟨r, 0⟩) | .error x => (0, s.fail cut x)) else (0, s)
def takeP (cut : Bool) (n : Nat) (s : Rd) : List UInt8 × Rd :=
  if s.e = 0 then (if n > s.b.length then ([], s.fail cut 10) else (s.b.take n, ⟨s.b.drop n, 0⟩)) else ([], s)
def zkT (cut : Bool) (most : Nat) (s : Rd) : List UInt8 × Rd := takeP cut (zpT cut most s).1 (zpT cut most s).2
def zuE (cut : Bool) : Nat → Rd → List (List UInt8) × Rd
  | 0, s => ([], s)
  | k + 1, s => ((zuE cut k s).1 ++ [(zkT cut 64 (zuE cut k s).2).1], (zkT cut 64 (zuE cut k s).2).2)
def zoC (cut : Bool) (k : Nat) (s : Rd) : TOp × Rd :=
  let t := zkT cut 64 s
  if k = 0 then (noOp, s)
  else if k = 2 then (let n := zpT cut 4 t.2; let r := zuE cut n.1 n.2; (⟨k, t.1, [], 0, r.1⟩, r.2))
  else if k = 3 then (let g := zkT cut 64 t.2; let f := zpT cut 9007199254740992 g.2; (⟨k, t.1, g.1, f.1, []⟩, f.2))
  else if k = 4 then (let f := zpT cut 9007199254740992 t.2; (⟨k, t.1, [], f.1, []⟩, f.2))
  else (⟨k, t.1, [], 0, []⟩, t.2)
def zpY (cut : Bool) (name : List UInt8 → Bool) (s : Rd) : TOp × Rd :=
  let k := zpT cut 4 s
  let x := zoC cut k.1 k.2
  let z := x.2.fail cut (zeD name x.1)
  (if z.e = 0 then x.1 else noOp, z)

def Rd.like (s t : Rd) : Prop := s.e = t.e ∧ (s.e = 0 → s.b = t.b)
theorem Rd.like.fail {s t : Rd} {c d : Bool} {x : Int} (h : s.like t) : (s.fail c x).like (t.fail d x) := by
  obtain ⟨h1, h2⟩ := h
  unfold Rd.fail Rd.like
  grind
theorem Rd.like.num {s t : Rd} {c d : Bool} {m : Nat} (h : s.like t) : (zpT c m s).1 = (zpT d m t).1 ∧ (zpT c m s).2.like (zpT d m t).2 := by
  have hf : ∀ x, (s.fail c x).like (t.fail d x) := fun x => h.fail
  obtain ⟨h1, h2⟩ := h
  unfold zpT
  by_cases h0 : s.e = 0
  · rw [if_pos h0, if_pos (show t.e = 0 from h1 ▸ h0), h2 h0]
    cases numR m 0 0 t.b with
    | ok x => exact ⟨rfl, rfl, fun _ => rfl⟩
    | error x => exact ⟨rfl, hf x⟩
  · rw [if_neg h0, if_neg (h1 ▸ h0)]
    exact ⟨rfl, h1, h2⟩
theorem Rd.like.take {s t : Rd} {c d : Bool} {m : Nat} (h : s.like t) : (takeP c m s).1 = (takeP d m t).1 ∧ (takeP c m s).2.like (takeP d m t).2 := by
  have hf : ∀ x, (s.fail c x).like (t.fail d x) := fun x => h.fail
  obtain ⟨h1, h2⟩ := h
  unfold takeP
  by_cases h0 : s.e = 0
  · rw [if_pos h0, if_pos (show t.e = 0 from h1 ▸ h0), h2 h0]
    split
    · exact ⟨rfl, hf 10⟩
    · exact ⟨rfl, rfl, fun _ => rfl⟩
  · rw [if_neg h0, if_neg (h1 ▸ h0)]
    exact ⟨rfl, h1, h2⟩
theorem Rd.like.bytes {s t : Rd} {c d : Bool} {m : Nat} (h : s.like t) : (zkT c m s).1 = (zkT d m t).1 ∧ (zkT c m s).2.like (zkT d m t).2 := by
  have a := h.num (c := c) (d := d) (m := m)
  have := a.2.take (c := c) (d := d) (m := (zpT c m s).1)
  unfold zkT
  rw [← a.1]
  exact this
theorem Rd.like.recs {s t : Rd} {c d : Bool} (h : s.like t) : ∀ k, (zuE c k s).1 = (zuE d k t).1 ∧ (zuE c k s).2.like (zuE d k t).2
  | 0 => ⟨rfl, h⟩
  | k + 1 => by
    obtain ⟨a, b⟩ := Rd.like.recs h (c := c) (d := d) k
    have e := b.bytes (c := c) (d := d) (m := 64)
    exact ⟨by simp only [zuE, a, e.1], e.2⟩
theorem Rd.like.fields {s t : Rd} {c d : Bool} (h : s.like t) (k : Nat) : (zoC c k s).1 = (zoC d k t).1 ∧ (zoC c k s).2.like (zoC d k t).2 := by
  obtain ⟨t1, t2⟩ := h.bytes (c := c) (d := d) (m := 64)
  obtain ⟨n1, n2⟩ := t2.num (c := c) (d := d) (m := 4)
  obtain ⟨r1, r2⟩ := n2.recs (c := c) (d := d) (zpT c 4 (zkT c 64 s).2).1
  obtain ⟨g1, g2⟩ := t2.bytes (c := c) (d := d) (m := 64)
  obtain ⟨f1, f2⟩ := g2.num (c := c) (d := d) (m := 9007199254740992)
  obtain ⟨e1, e2⟩ := t2.num (c := c) (d := d) (m := 9007199254740992)
  unfold zoC
  simp only
  split
  · exact ⟨rfl, h⟩
  · split
    · rw [← n1, ← r1, ← t1]; exact ⟨rfl, r2⟩
    · split
      · rw [← t1, ← g1, ← f1]; exact ⟨rfl, f2⟩
      · split
        · rw [← t1, ← e1]; exact ⟨rfl, e2⟩
        · rw [← t1]; exact ⟨rfl, t2⟩
theorem Rd.like.takeOp {s t : Rd} {c d : Bool} {name : List UInt8 → Bool} (h : s.like t) : (zpY c name s).1 = (zpY d name t).1 ∧ (zpY c name s).2.like (zpY d name t).2 := by
  obtain ⟨k1, k2⟩ := h.num (c := c) (d := d) (m := 4)
  obtain ⟨x1, x2⟩ := k2.fields (c := c) (d := d) (zpT c 4 s).1
  have z := x2.fail (c := c) (d := d) (x := zeD name (zoC c (zpT c 4 s).1 (zpT c 4 s).2).1)
  unfold zpY
  simp only
  rw [← k1, ← x1, ← z.1]
  exact ⟨rfl, z⟩
end Go.AW

namespace Go.AW

end Go.AW

namespace Go.AW

end Go.AW

/- Calls that write into an object of their caller's. -/
set_option linter.unusedSimpArgs false

namespace Go.AW

end Go.AW

/- What is taken was put, and what was put is taken. No program in sight. -/
set_option linter.unusedSimpArgs false

namespace Go.AW

end Go.AW

/- A name has at most 64 bytes; an operation that may be is taken as it was put. No program in sight. -/
set_option linter.unusedSimpArgs false

namespace Go.AW

end Go.AW

/- Topics: what the document says of them. No program in sight. -/
set_option linter.unusedSimpArgs false
set_option linter.unusedVariables false
namespace Go.AW

structure TTopic where
  name : List UInt8
  base : Int
  recs : List (List UInt8)
  groups : List (List UInt8 × Int)
structure TTops where
  l : List TTopic
  last : List (Int × Int × Int)
def noTops : TTops := ⟨[], List.replicate 8 (0, 0, 0)⟩
def TTopic.next (x : TTopic) : Int := x.base + x.recs.length
abbrev zbb (es : List (List D)) : List AV := es.flatten.map .d
theorem zgu {sz : Nat} : ∀ {es : List (List D)}, (∀ e ∈ es, e.length = sz) → (zbb es).length = es.length * sz
  | [], _ => by simp [zbb]
  | e :: es, h => by
    have h1 := zgu (es := es) fun x hx => h x (List.mem_cons_of_mem _ hx)
    have h2 := h e List.mem_cons_self
    simp only [zbb, List.length_map] at h1
    simp only [zbb, List.flatten_cons, List.map_append, List.length_append, List.length_map, h1, h2, List.length_cons, Nat.add_mul, Nat.one_mul]
    omega
theorem ztM {sz : Nat} : ∀ {es : List (List D)}, (∀ e ∈ es, e.length = sz) → ∀ k, (zbb es).drop (k * sz) = zbb (es.drop k)
  | [], _, k => by simp [zbb]
  | e :: es, h, k => by
    cases k with
    | zero => simp [zbb]
    | succ k =>
      have h1 := ztM (es := es) (fun x hx => h x (List.mem_cons_of_mem _ hx)) k
      have h2 := h e List.mem_cons_self
      have e1 : zbb (e :: es) = e.map .d ++ zbb es := by simp [zbb]
      rw [e1, List.drop_succ_cons, ← h1, List.drop_append, List.length_map, h2, show (k + 1) * sz - sz = k * sz by rw [Nat.add_mul]; omega, List.drop_of_length_le (by rw [List.length_map, h2, Nat.add_mul]; omega)]
      rfl
theorem zpl {sz : Nat} {es : List (List D)} (h : ∀ e ∈ es, e.length = sz) {k : Nat} {e : List D} (he : es[k]? = some e) : ((zbb es).drop (k * sz)).take sz = e.map .d := by
  have hk : k < es.length := (List.getElem?_eq_some_iff.1 he).1
  have hl := h e (List.mem_of_getElem? he)
  rw [ztM h, List.drop_eq_getElem_cons hk, (List.getElem?_eq_some_iff.1 he).2]
  simp only [zbb, List.flatten_cons, List.map_append]
  rw [List.take_append_of_le_length (by rw [List.length_map, hl]; exact Nat.le_refl _), List.take_of_length_le (by rw [List.length_map, hl]; exact Nat.le_refl _)]
theorem zqA {sz : Nat} {es : List (List D)} (h : ∀ e ∈ es, e.length = sz) {k i : Nat} {e : List D} (he : es[k]? = some e) (hi : i < sz) : (zbb es)[k * sz + i]? = (e[i]?).map .d := by
  have h1 := zpl h he
  have h2 : (((zbb es).drop (k * sz)).take sz)[i]? = (zbb es)[k * sz + i]? := by rw [List.getElem?_take, if_pos hi, List.getElem?_drop]
  rw [← h2, h1, List.getElem?_map]
theorem flatA_set {sz : Nat} {es : List (List D)} (h : ∀ e ∈ es, e.length = sz) {k i : Nat} {e : List D} (he : es[k]? = some e) (hi : i < sz) (x : D) : (zbb es).set (k * sz + i) (.d x) = zbb (es.set k (e.set i x)) := by
  have hk : k < es.length := (List.getElem?_eq_some_iff.1 he).1
  have hl := h e (List.mem_of_getElem? he)
  have e0 : es = es.take k ++ e :: es.drop (k + 1) := by
    rw [← (List.getElem?_eq_some_iff.1 he).2, ← List.drop_eq_getElem_cons hk, List.take_append_drop]
  have e1 : es.set k (e.set i x) = es.take k ++ e.set i x :: es.drop (k + 1) := by rw [List.set_eq_take_append_cons_drop, if_pos hk]
  have hlen : (zbb (es.take k)).length = k * sz := by
    rw [zgu fun y hy => h y (List.mem_of_mem_take hy), List.length_take, Nat.min_eq_left (by omega)]
  have e2 : zbb es = zbb (es.take k) ++ (e.map .d ++ zbb (es.drop (k + 1))) := by
    conv => lhs; rw [e0]
    simp [zbb]
  have e3 : zbb (es.set k (e.set i x)) = zbb (es.take k) ++ ((e.set i x).map .d ++ zbb (es.drop (k + 1))) := by
    rw [e1]; simp [zbb]
  rw [e2, e3, List.set_append_right _ _ (by omega), hlen, Nat.add_sub_cancel_left, List.set_append_left _ _ (by rw [List.length_map]; omega), List.map_set]
structure TopI (x : TTopic) : Prop where
  base : 0 ≤ x.base
  next : x.next ≤ 9007199254740992
  recs : x.recs.length ≤ 64
  groups : x.groups.length ≤ 8
  name : x.name.length ≤ 64
  each : ∀ r ∈ x.recs, r.length ≤ 64
  gs : ∀ g ∈ x.groups, g.1.length ≤ 64 ∧ 0 ≤ g.2 ∧ g.2 ≤ 9007199254740992
structure TopsI (T : TTops) : Prop where
  len : T.l.length ≤ 8
  tops : ∀ x ∈ T.l, TopI x
theorem TopsI.none : TopsI noTops := ⟨by simp [noTops], by simp [noTops]⟩
end Go.AW

/- Rows: what is told of their cells. -/
set_option maxRecDepth 100000
set_option linter.unusedSimpArgs false
set_option linter.unusedVariables false
namespace Go.Proofs.YtpgahkdjkanblaaGreat
open Go.AW

theorem lowO_flat (n g sz : Nat) (es : List (List D)) : zrE n (.row g sz (zbb es)) := zmN _ _
end Go.Proofs.YtpgahkdjkanblaaGreat
