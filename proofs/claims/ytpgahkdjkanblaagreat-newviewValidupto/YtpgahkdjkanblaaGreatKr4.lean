/- Contracts: the bytes of view-changes, the document's. -/
import Derived.Test.YtpgahkdjkanblaaGreatSm5
import Derived.Test.YtpgahkdjkanblaaGreatKr3
import Derived.Test.YtpgahkdjkanblaaGreatRq2
import Derived.Test.YtpgahkdjkanblaaGreatCodec1
import Derived.Test.YtpgahkdjkanblaaGreatSpTab
import Derived.Test.YtpgahkdjkanblaaGreatAwEnd
import Derived.Test.YtpgahkdjkanblaaGreatSh
set_option linter.all false
set_option maxRecDepth 100000
set_option linter.unusedSimpArgs false
set_option linter.unusedVariables false
namespace Go.Proofs.YtpgahkdjkanblaaGreat
open Go.AW

theorem w64k {x : Int} (h0 : 0 ≤ x) (h1 : x ≤ 9007199254740992) : IntKind.u64.wrap x = ((x.toNat : Nat) : Int) := by
  rw [show x = ((x.toNat : Nat) : Int) by omega, zcC (by omega)]; rfl
theorem zvg {σ : List zf} {b : List UInt8} {l : List Int} (hb : b.length ≤ 536870912) (hl0 : l.length ≤ 1000) (hi : ∀ x ∈ l, 0 ≤ x ∧ x ≤ 9007199254740992) {K : KT} (hK : K (.d (.slice (bcs (b ++ zbq l)))) σ) :
    zm Tryz.prog zbR [.d (.slice (bcs b)), .d (.slice (zop l))] σ K := by
  refine zc e_r10_put.is rfl fun hl _ => e_r10_put.goes ?_
  simp only [S_r10_put, iN, bT, bF, eN]
  refine zao ?_
  refine zl l.length (fun k vs s => (∃ x, vs = [x, .d (.int .i64 k)] ∧ (x = .d (.slice (bcs (b ++ zbq (l.take k)))) ∨ ∃ t, x = .own t (bcs (b ++ zbq (l.take k))))) ∧ ∃ T, s = σ ++ T) ⟨⟨_, rfl, .inl (by simp [zbq])⟩, [], by simp⟩ ?_
  rintro k vs s hk ⟨⟨y, rfl, hy⟩, T, rfl⟩
  by_cases hlt : k < l.length
  · have hd : decide ((k : Int) < (l.length : Int)) = true := by simp; omega
    have hx : l[k]? = some l[k] := by simp [hlt]
    have hxi := hi _ (List.getElem_mem hlt)
    have hgx := zQ (f := fun t => [D.int .i64 t]) hx
    obtain ⟨x, hxe⟩ : ∃ x, l[k] = x := ⟨_, rfl⟩
    rw [hxe] at hx hgx hxi
    have hw := w64k hxi.1 hxi.2
    have hln := zsj (l := l.take k) (fun y hy => by have := hi y (List.mem_of_mem_take hy); omega)
    have hlk : (l.take k).length = k := by rw [List.length_take]; omega
    have hbl : (b ++ zbq (l.take k)).length ≤ 1073741824 := by rw [List.length_append]; omega
    have hnx : b ++ zbq (l.take (k + 1)) = b ++ (zbq (l.take k) ++ zcf x.toNat) := by rw [List.take_add_one, hx]; simp [zbq]
    have fin : ∀ t τ, (∃ z, [AV.own t (bcs (b ++ (zbq (l.take k) ++ zcf x.toNat))), .d (.int .i64 (k + 1 : Nat))] = [z, .d (.int .i64 (k + 1 : Nat))] ∧ (z = .d (.slice (bcs (b ++ zbq (l.take (k + 1))))) ∨ ∃ t, z = .own t (bcs (b ++ zbq (l.take (k + 1)))))) ∧ ∃ T', σ ++ T ++ τ = σ ++ T' := fun t τ =>
      ⟨⟨_, rfl, .inr ⟨t, by rw [hnx]⟩⟩, _, List.append_assoc _ _ _⟩
    obtain ⟨S, hS⟩ : ∃ S, σ ++ T = S := ⟨_, rfl⟩
    rw [hS] at fin ⊢
    rcases hy with rfl | ⟨t, rfl⟩
    · refine zH (zi hd (zi hgx hw)) ?_
      refine zeH (by omega) hbl ?_
      refine zH (wkc k (by omega)) ?_
      exact zaG.next hlt (fin _ _)
    · refine zH (zi hd (zi hgx hw)) ?_
      refine zeH (by omega) hbl ?_
      refine zH (wkc k (by omega)) ?_
      exact zaG.next hlt (fin _ _)
  · have hd : decide ((k : Int) < (l.length : Int)) = false := by simp; omega
    rw [List.take_of_length_le (by omega)] at hy
    rcases hy with rfl | ⟨t, rfl⟩
    · refine zH hd ?_
      refine zq hl ?_
      exact hK
    · refine zH hd ?_
      refine zq hl ?_
      exact hK
theorem ztj {σ : List zf} {b : List UInt8} {l : List zP} (hb : b.length ≤ 268435456) (hc : ∀ e ∈ zbX l, e = 0) {K : KT} (hK : K (.d (.slice (bcs (b ++ zsc l)))) σ) :
    zm Tryz.prog zgY [.d (.slice (bcs b)), .d (.slice (zas l))] σ K := by
  refine zc znA.is rfl fun hl _ => znA.goes ?_
  obtain ⟨h13, hs⟩ := zvJ hc
  have hll : (zas l).length = l.length := List.length_map ..
  have n1 := zp (n := l.length) (by omega)
  simp only [znO, iN, bT, bF, eN]
  refine zH hll ?_
  refine zvg (l := [(l.length : Int)]) (by omega) (by simp) (by simp; omega) ?_
  rw [show zbq [(l.length : Int)] = zcf l.length by simp [zbq]]
  refine zH hll ?_
  refine zl l.length (fun k vs s => vs = [.d (.slice (bcs (b ++ (zcf l.length ++ ((l.take k).map fun s => zfD s.key s.dig).flatten)))), .d (.int .i64 k)] ∧ s = σ) ⟨by simp, rfl⟩ ?_
  rintro k vs s hk ⟨rfl, rfl⟩
  by_cases hlt : k < l.length
  · have hd : decide ((k : Int) < (l.length : Int)) = true := by simp; omega
    have hx : l[k]? = some l[k] := by simp [hlt]
    have hxi := hs _ (List.getElem_mem hlt)
    have hgx := zQ (f := zeS) hx
    obtain ⟨x, hxe⟩ : ∃ x, l[k] = x := ⟨_, rfl⟩
    rw [hxe] at hx hgx hxi
    have hlen : (((l.take k).map fun s => zfD s.key s.dig).flatten).length ≤ (l.take k).length * 20 := zgN fun s hm => zfH (hs s (List.mem_of_mem_take hm))
    have hlk : (l.take k).length = k := by rw [List.length_take]; omega
    have hsb : zcy x.key x.dig = zfD x.key x.dig := by simp [zcy, hxi]
    refine zjk (zi hd (zi hgx hll)) ?_
    refine znm (by simp only [List.length_append]; omega) ?_
    rw [hsb]
    refine zH (wkc k (by omega)) ?_
    exact zaG.next hlt ⟨by rw [zhi hx]; try simp, rfl⟩
  · have hd : decide ((k : Int) < (l.length : Int)) = false := by simp; omega
    rw [List.take_of_length_le (by omega)]
    refine zH (zi hd hll) ?_
    refine zq hl ?_
    exact hK
theorem c_kPutCert {σ : List zf} {b : List UInt8} {c : zek} (hb : b.length ≤ 134217728) (hc : ∀ e ∈ zck c, e = 0) {K : KT} (hK : K (.d (.slice (bcs (b ++ ztb c)))) σ) :
    zm Tryz.prog zic [.d (.slice (bcs b)), zgQ c] σ K := by
  refine zc zpg.is rfl fun hl _ => zpg.goes ?_
  obtain ⟨h1, h2, h3⟩ := cert_ok hc
  have n1 := zp (n := c.seq.toNat) (by omega)
  have n2 := zp (n := c.dig.toNat) (by omega)
  simp only [zpH, iN, bT, bF, eN]
  refine zao ?_
  refine zvg (l := [c.seq, c.dig]) (by omega) (by simp) (by simp; omega) ?_
  refine zao ?_
  refine ztj (by simp [zbq]; omega) h3 ?_
  refine zao ?_
  refine zq hl ?_
  have fin : ∀ x, x = b ++ ztb c → K (dmT (zdF [.d (.slice (bcs x))])) σ := by rintro _ rfl; exact hK
  exact fin _ (by simp [ztb, zbq])
theorem c_kPutBody {σ : List zf} {b : List UInt8} {c : zaa} (hb : b.length ≤ 67108864) (hc : ∀ e ∈ zdp c, e = 0) {K : KT} (hK : K (.d (.slice (bcs (b ++ ztl c)))) σ) :
    zm Tryz.prog zkL [.d (.slice (bcs b)), .agg (zbV c)] σ K := by
  refine zc zph.is rfl fun hl _ => zph.goes ?_
  have hpl : (zfI c.above).length = c.above.length := List.length_map ..
  obtain ⟨h1, h2, h3, h4, h5⟩ := body_ok hc
  have n1 := zp (n := c.view.toNat) (by omega)
  have n2 := zp (n := c.src.toNat) (by omega)
  have n3 := zp (n := c.above.length) (by omega)
  have n4 := zta h3
  simp only [zpI, iN, bT, bF, eN]
  refine zao ?_
  refine zvg (l := [c.view, c.src]) (by omega) (by simp) (by simp; omega) ?_
  refine zao ?_
  refine c_kPutCert (c := c.cert) (by simp [zbq]; omega) h3 ?_
  refine zH hpl ?_
  refine zvg (l := [(c.above.length : Int)]) (by simp [zbq]; omega) (by simp) (by simp; omega) ?_
  rw [show zbq [(c.above.length : Int)] = zcf c.above.length by simp [zbq]]
  obtain ⟨Q, hQ⟩ : ∃ Q, b ++ (zbq [c.view, c.src] ++ ztb c.cert) ++ zcf c.above.length = Q := ⟨_, rfl⟩
  have hQl : Q.length ≤ 67108864 + 400 := by rw [← hQ]; simp [zbq]; omega
  rw [hQ]
  refine zH hpl ?_
  refine zl c.above.length (fun k vs s => vs = [.d (.slice (bcs (Q ++ ((c.above.take k).map zrB).flatten))), .d (.int .i64 k)] ∧ ∃ T, s = σ ++ [.box (zbV c)] ++ T) ⟨by simp, [], by simp⟩ ?_
  rintro k vs s hk ⟨rfl, T, rfl⟩
  by_cases hlt : k < c.above.length
  · have hd : decide ((k : Int) < (c.above.length : Int)) = true := by simp; omega
    have hx : c.above[k]? = some c.above[k] := by simp [hlt]
    have hpx := h5 _ (List.getElem_mem hlt)
    have hgx := zQ (f := zeV) hx
    obtain ⟨p, hp⟩ : ∃ p, c.above[k] = p := ⟨_, rfl⟩
    rw [hp] at hx hgx hpx
    have hlen : (((c.above.take k).map zrB).flatten).length ≤ (c.above.take k).length * 4400 := zgN fun s hm => zsg (h5 s (List.mem_of_mem_take hm))
    have hlk : (c.above.take k).length = k := by rw [List.length_take]; omega
    obtain ⟨R, hR⟩ : ∃ R, Q ++ ((c.above.take k).map zrB).flatten = R := ⟨_, rfl⟩
    have hRl : R.length ≤ 67108864 + 36000 := by rw [← hR, List.length_append]; omega
    rw [hR]
    obtain ⟨p1, p2, p3, p4, p5, p6⟩ := prep_ok hpx
    have m1 := zp (n := p.view.toNat) (by omega)
    have m2 := zp (n := p.seq.toNat) (by omega)
    have m3 := zp (n := p.dig.toNat) (by omega)
    have m4 := zfH p4
    have m5 := znd p5
    have hsb : zcy p.fkey p.fdig = zfD p.fkey p.fdig := by simp [zcy, p4]
    have hbb : zdq p.batch = zff p.batch := by simp [zdq, p6]
    have hbx : ∀ τ, (σ ++ [zf.box (zbV c)] ++ T ++ τ)[σ.length]? = some (.box (zbV c)) := fun τ => zx (zx (by rw [zt]; rfl))
    have hbx0 := hbx []
    rw [List.append_nil] at hbx0
    have fin : ∀ τ, ∃ T', σ ++ [zf.box (zbV c)] ++ T ++ τ = σ ++ zf.box (zbV c) :: T' := fun τ => ⟨T ++ τ, by simp⟩
    obtain ⟨S, hS⟩ : ∃ S, σ ++ [zf.box (zbV c)] ++ T = S := ⟨_, rfl⟩
    rw [hS] at hbx hbx0 fin ⊢
    refine zjk (zi hd (zi hgx (zi hpl (zi hbx hbx0)))) ?_
    refine zvg (l := [p.view, p.seq, p.dig]) (by omega) (by simp) (by simp; omega) ?_
    refine zao ?_
    refine znm (by simp [zbq]; omega) ?_
    rw [hsb]
    refine zao ?_
    refine ztj (by simp [zbq]; omega) p5 ?_
    refine zao ?_
    refine zti (by simp [zbq]; omega) (fun x hx => Nat.le_trans ((zoA p6).1 x hx) (by omega)) (by have := (zlg p6).1; omega) ?_
    rw [hbb]
    refine zH (wkc k (by omega)) ?_
    refine zaG.next hlt ⟨?_, fin _⟩
    rw [zhi hx, ← hR]
    simp [zrB, zbq]
  · have hd : decide ((k : Int) < (c.above.length : Int)) = false := by simp; omega
    have hbx0 : (σ ++ [zf.box (zbV c)] ++ T)[σ.length]? = some (.box (zbV c)) := zx (by rw [zt]; rfl)
    rw [show c.above.take k = c.above from List.take_of_length_le (by omega)]
    obtain ⟨S, hS⟩ : ∃ S, [zf.box (zbV c)] ++ T = S := ⟨_, rfl⟩
    rw [List.append_assoc, hS] at hbx0 ⊢
    refine zH (zi hd (zi hpl hbx0)) ?_
    refine zq hl ?_
    rw [← hQ]
    have fin : ∀ x, x = b ++ ztl c → K (dmT (zdF [.d (.slice (bcs x))])) σ := by rintro _ rfl; exact hK
    exact fin _ (by simp [ztl, zbq])
end Go.Proofs.YtpgahkdjkanblaaGreat

/- Readers: a reader's bytes and its error; what is taken from them. 'cut': an error drops the bytes. No program in sight. -/
set_option linter.unusedSimpArgs false
namespace Go.AW

structure Rd where
  b : List UInt8
  e : Int
def Rd.fail (cut : Bool) (s : Rd) (x : Int) : Rd := if s.e = 0 ∧ x ≠ 0 then ⟨if cut then [] else s.b, x⟩ else s
def zpS (cut : Bool) (most : Nat) (s : Rd) : Nat × Rd :=
  if s.e = 0 then (match numR most 0 0 s.b with | .ok (n, r) => (n, ⟨r, 0⟩) | .error x => (0, s.fail cut x)) else (0, s)
def takeP (cut : Bool) (n : Nat) (s : Rd) : List UInt8 × Rd :=
  if s.e = 0 then (if n > s.b.length then ([], s.fail cut 10) else (s.b.take n, ⟨s.b.drop n, 0⟩)) else ([], s)
def zkt (cut : Bool) (most : Nat) (s : Rd) : List UInt8 × Rd := takeP cut (zpS cut most s).1 (zpS cut most s).2
def zvQ (cut : Bool) : Nat → Rd → List (List UInt8) × Rd
  | 0, s => ([], s)
  | k + 1, s => ((zvQ cut k s).1 ++ [(zkt cut 64 (zvQ cut k s).2).1], (zkt cut 64 (zvQ cut k s).2).2)
def zor (cut : Bool) (k : Nat) (s : Rd) : TOp × Rd :=
  let t := zkt cut 64 s
  if k = 0 then (noOp, s)
  else if k = 2 then (let n := zpS cut 4 t.2; let r := zvQ cut n.1 n.2; (⟨k, t.1, [], 0, r.1⟩, r.2))
  else if k = 3 then (let g := zkt cut 64 t.2; let f := zpS cut 9007199254740992 g.2; (⟨k, t.1, g.1, f.1, []⟩, f.2))
  else if k = 4 then (let f := zpS cut 9007199254740992 t.2; (⟨k, t.1, [], f.1, []⟩, f.2))
  else (⟨k, t.1, [], 0, []⟩, t.2)
def zqh (cut : Bool) (name : List UInt8 → Bool) (s : Rd) : TOp × Rd :=
  let k := zpS cut 4 s
  let x := zor cut k.1 k.2
  let z := x.2.fail cut (zcg name x.1)
  (if z.e = 0 then x.1 else noOp, z)

def Rd.like (s t : Rd) : Prop := s.e = t.e ∧ (s.e = 0 → s.b = t.b)
theorem Rd.like.fail {s t : Rd} {c d : Bool} {x : Int} (h : s.like t) : (s.fail c x).like (t.fail d x) := by
  obtain ⟨h1, h2⟩ := h
  unfold Rd.fail Rd.like
  grind
theorem Rd.like.num {s t : Rd} {c d : Bool} {m : Nat} (h : s.like t) : (zpS c m s).1 = (zpS d m t).1 ∧ (zpS c m s).2.like (zpS d m t).2 := by
  have hf : ∀ x, (s.fail c x).like (t.fail d x) := fun x => h.fail
  obtain ⟨h1, h2⟩ := h
  unfold zpS
  by_cases h0 : s.e = 0
  · rw [if_pos h0, if_pos (show t.e = 0 from h1 ▸ h0), h2 h0]
    cases numR m 0 0 t.b with
    | ok x => exact ⟨rfl, rfl, fun _ => rfl⟩
    | error x => exact ⟨rfl, hf x⟩
  · rw [if_neg h0, if_neg (h1 ▸ h0)]
    exact ⟨rfl, h1, h2⟩
theorem Rd.like.take {s t : Rd} {c d : Bool} {m : Nat} (h : s.like t) : (takeP c m s).1 = (takeP d m t).1 ∧ (takeP c m s).2.like (takeP d m t).2 := by
  have hf : ∀ x, (s.fail c x).like (t.fail d x) := fun x => h.fail
  obtain ⟨h1, h2⟩ := h
  unfold takeP
  by_cases h0 : s.e = 0
  · rw [if_pos h0, if_pos (show t.e = 0 from h1 ▸ h0), h2 h0]
    split
    · exact ⟨rfl, hf 10⟩
    · exact ⟨rfl, rfl, fun _ => rfl⟩
  · rw [if_neg h0, if_neg (h1 ▸ h0)]
    exact ⟨rfl, h1, h2⟩
theorem Rd.like.bytes {s t : Rd} {c d : Bool} {m : Nat} (h : s.like t) : (zkt c m s).1 = (zkt d m t).1 ∧ (zkt c m s).2.like (zkt d m t).2 := by
  have a := h.num (c := c) (d := d) (m := m)
  have := a.2.take (c := c) (d := d) (m := (zpS c m s).1)
  unfold zkt
  rw [← a.1]
  exact this
theorem Rd.like.recs {s t : Rd} {c d : Bool} (h : s.like t) : ∀ k, (zvQ c k s).1 = (zvQ d k t).1 ∧ (zvQ c k s).2.like (zvQ d k t).2
  | 0 => ⟨rfl, h⟩
  | k + 1 => by
    obtain ⟨a, b⟩ := Rd.like.recs h (c := c) (d := d) k
    have e := b.bytes (c := c) (d := d) (m := 64)
    exact ⟨by simp only [zvQ, a, e.1], e.2⟩
theorem Rd.like.fields {s t : Rd} {c d : Bool} (h : s.like t) (k : Nat) : (zor c k s).1 = (zor d k t).1 ∧ (zor c k s).2.like (zor d k t).2 := by
  obtain ⟨t1, t2⟩ := h.bytes (c := c) (d := d) (m := 64)
  obtain ⟨n1, n2⟩ := t2.num (c := c) (d := d) (m := 4)
  obtain ⟨r1, r2⟩ := n2.recs (c := c) (d := d) (zpS c 4 (zkt c 64 s).2).1
  obtain ⟨g1, g2⟩ := t2.bytes (c := c) (d := d) (m := 64)
  obtain ⟨f1, f2⟩ := g2.num (c := c) (d := d) (m := 9007199254740992)
  obtain ⟨e1, e2⟩ := t2.num (c := c) (d := d) (m := 9007199254740992)
  unfold zor
  simp only
  split
  · exact ⟨rfl, h⟩
  · split
    · rw [← n1, ← r1, ← t1]; exact ⟨rfl, r2⟩
    · split
      · rw [← t1, ← g1, ← f1]; exact ⟨rfl, f2⟩
      · split
        · rw [← t1, ← e1]; exact ⟨rfl, e2⟩
        · rw [← t1]; exact ⟨rfl, t2⟩
theorem Rd.like.takeOp {s t : Rd} {c d : Bool} {name : List UInt8 → Bool} (h : s.like t) : (zqh c name s).1 = (zqh d name t).1 ∧ (zqh c name s).2.like (zqh d name t).2 := by
  obtain ⟨k1, k2⟩ := h.num (c := c) (d := d) (m := 4)
  obtain ⟨x1, x2⟩ := k2.fields (c := c) (d := d) (zpS c 4 s).1
  have z := x2.fail (c := c) (d := d) (x := zcg name (zor c (zpS c 4 s).1 (zpS c 4 s).2).1)
  unfold zqh
  simp only
  rw [← k1, ← x1, ← z.1]
  exact ⟨rfl, z⟩
end Go.AW

namespace Go.AW

end Go.AW

namespace Go.AW

end Go.AW

/- Calls that write into an object of their caller's. -/
set_option linter.unusedSimpArgs false

namespace Go.AW

end Go.AW

/- What is taken was put, and what was put is taken. No program in sight. -/
set_option linter.unusedSimpArgs false

namespace Go.AW

end Go.AW

/- A name has at most 64 bytes; an operation that may be is taken as it was put. No program in sight. -/
set_option linter.unusedSimpArgs false

namespace Go.AW

end Go.AW

/- One byte of a number, as a loop over at most ten reads it. No program in sight. -/
/- A number's next seven bits. No program in sight. -/
set_option linter.unusedSimpArgs false
namespace Go.AW
open Go

end Go.AW

set_option linter.unusedSimpArgs false

namespace Go.AW

end Go.AW
