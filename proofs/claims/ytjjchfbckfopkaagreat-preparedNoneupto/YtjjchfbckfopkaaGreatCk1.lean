/- Contracts: what is asked of a proof, the program's. -/
import Derived.Test.YtjjchfbckfopkaaGreatOp2
import Derived.Test.YtjjchfbckfopkaaGreatRc1
import Derived.Test.YtjjchfbckfopkaaGreatCodec1
import Derived.Test.YtjjchfbckfopkaaGreatKsI
import Derived.Test.YtjjchfbckfopkaaGreatRq1
import Derived.Test.YtjjchfbckfopkaaGreatSpHdr
set_option linter.all false
set_option maxRecDepth 100000
set_option linter.unusedSimpArgs false
set_option linter.unusedVariables false
namespace Go.Proofs.YtjjchfbckfopkaaGreat
open Go.AW


structure smallPf (p : TProof) : Prop where
  topic : p.topic.length ≤ 16777216
  rec_ : p.rec_.length ≤ 16777216
  headers : p.headers.length ≤ 1073741824
  path : p.path.length ≤ 1073741824
  signs : p.cert.signs.length ≤ 1073741824
  off : i64r p.offset
  index : i64r p.index
  count : i64r p.count
  paths : ∀ x ∈ p.path, i64r x
end Go.Proofs.YtjjchfbckfopkaaGreat

/- Messages: which may be. No program in sight. -/
set_option linter.unusedSimpArgs false
set_option linter.unusedVariables false
namespace Go.AW

structure TMsg where
  kind : Int
  src : Int
  view : Int
  seq : Int
  dig : Int
  client : Int
  time : Int
  rerr : Int
  roff : Int
  batch : List ze
  cert : TCert
  changes : List TChange
  entries : List TEntry
  state : List UInt8
  topic : List UInt8
  offset : Int
  proof : TProof
  key : Int
  sdig : Int
end Go.AW

/- Contracts: parts of messages that are the same, the program's. -/
set_option maxRecDepth 100000
set_option linter.unusedSimpArgs false
set_option linter.unusedVariables false
namespace Go.Proofs.YtjjchfbckfopkaaGreat
open Go.AW

structure smallPr (p : zav) : Prop where
  signs : p.signs.length ≤ 1073741824
  batch : smallB p.batch
structure smallChg (c : TChange) : Prop where
  signs : c.cert.signs.length ≤ 1073741824
  above : c.above.length ≤ 1073741824
  each : ∀ p ∈ c.above, smallPr p

section
variable {σ : List zb} {K : AV → List zb → Prop}
end



abbrev keyed (l : List zav) : List (Int × zav) := l.map fun p => (p.seq, p)
section

variable {σ : List zb} {K : AV → List zb → Prop}

end


def upF (low : Int) (l : List (Int × zav)) : List (Int × zav) := l.filter fun e => !decide (e.1 ≤ low)
theorem zkE {α : Type} {q : α → Bool} : ∀ {l : List α} {i : Nat} {x : α}, l[i]? = some x → q x = false → (l.eraseIdx i).filter q = l.filter q
  | a :: l, 0, x, h, hx => by simp at h; subst h; simp [hx]
  | a :: l, i + 1, x, h, hx => by
    have := zkE (l := l) (i := i) (by simpa using h) hx
    simp only [List.eraseIdx_cons_succ, List.filter_cons, this]
structure DelI (low : Int) (l0 : List (Int × zav)) (bs0 bs : List Nat) (l : List (Int × zav)) (seen : List Nat) : Prop where
  len : bs.length = l.length
  nod : bs.Nodup
  sub : ∀ b ∈ bs, b ∈ bs0
  key : (l.map Prod.fst).Nodup
  up : upF low l = upF low l0
  no : ∀ (i b : Nat) (x : Int × zav), bs[i]? = some b → l[i]? = some x → b ∈ seen → ¬ x.1 ≤ low
  sn : seen.Nodup
  ss : ∀ b ∈ seen, b ∈ bs0
theorem DelI.done {low : Int} {l0 : List (Int × zav)} {bs0 bs : List Nat} {l : List (Int × zav)} {seen : List Nat} (h : DelI low l0 bs0 bs l seen) (ha : ∀ b ∈ bs, b ∈ seen) : l = upF low l0 := by
  rw [← h.up]
  refine (List.filter_eq_self.2 fun e he => ?_).symm
  obtain ⟨i, hi⟩ := List.mem_iff_getElem?.1 he
  have hil := (List.getElem?_eq_some_iff.1 hi).1
  have hb : bs[i]? = some (bs[i]'(by rw [h.len]; exact hil)) := List.getElem?_eq_getElem _
  have := h.no i _ e hb hi (ha _ (List.mem_of_getElem? hb))
  simpa using this
theorem DelI.keep {low : Int} {l0 : List (Int × zav)} {bs0 bs : List Nat} {l : List (Int × zav)} {seen : List Nat} (h : DelI low l0 bs0 bs l seen) {i b : Nat} {x : Int × zav} (hb : bs[i]? = some b) (hx : l[i]? = some x) (hn : b ∉ seen) (hp : ¬ x.1 ≤ low) :
    DelI low l0 bs0 bs l (seen ++ [b]) := by
  refine ⟨h.len, h.nod, h.sub, h.key, h.up, fun j c y hc hy hm => ?_, ?_, fun c hc => ?_⟩
  · rcases List.mem_append.1 hm with hm | hm
    · exact h.no j c y hc hy hm
    · simp at hm; subst hm
      have := zlK h.nod hb hc
      subst this
      rw [hx] at hy; cases hy; exact hp
  · rw [List.nodup_append]
    exact ⟨h.sn, by simp, fun x hx y hy => by simp at hy; subst hy; exact fun e => hn (e ▸ hx)⟩
  · rcases List.mem_append.1 hc with hc | hc
    · exact h.ss c hc
    · simp at hc; subst hc; exact h.sub _ (List.mem_of_getElem? hb)
theorem DelI.drop {low : Int} {l0 : List (Int × zav)} {bs0 bs : List Nat} {l : List (Int × zav)} {seen : List Nat} (h : DelI low l0 bs0 bs l seen) {i b : Nat} {x : Int × zav} (hb : bs[i]? = some b) (hx : l[i]? = some x) (hn : b ∉ seen) (hp : x.1 ≤ low) :
    DelI low l0 bs0 (bs.eraseIdx i) (l.eraseIdx i) (seen ++ [b]) := by
  have hil := (List.getElem?_eq_some_iff.1 hb).1
  refine ⟨?_, h.nod.sublist (List.eraseIdx_sublist _ _), fun c hc => h.sub c ((List.eraseIdx_sublist _ _).mem hc), h.key.sublist ((List.eraseIdx_sublist _ _).map _), ?_, fun j c y hc hy hm => ?_, ?_, fun c hc => ?_⟩
  · rw [List.length_eraseIdx, List.length_eraseIdx, h.len]
  · rw [← h.up]
    exact zkE hx (by simpa using hp)
  · rw [List.getElem?_eraseIdx] at hc hy
    have hcb : c = b → False := fun e => by
      subst e
      split at hc
      · have := zlK h.nod hb hc; omega
      · have := zlK h.nod hb hc; omega
    rcases List.mem_append.1 hm with hm | hm
    · split at hc
      · rename_i hj; rw [if_pos hj] at hy; exact h.no j c y hc hy hm
      · rename_i hj; rw [if_neg hj] at hy; exact h.no (j + 1) c y hc hy hm
    · simp at hm; exact (hcb hm).elim
  · rw [List.nodup_append]
    exact ⟨h.sn, by simp, fun x hx y hy => by simp at hy; subst hy; exact fun e => hn (e ▸ hx)⟩
  · rcases List.mem_append.1 hc with hc | hc
    · exact h.ss c hc
    · simp at hc; subst hc; exact h.sub _ (List.mem_of_getElem? hb)
theorem DelI.lt {low : Int} {l0 : List (Int × zav)} {bs0 bs : List Nat} {l : List (Int × zav)} {seen : List Nat} (h : DelI low l0 bs0 bs l seen) {b : Nat} (hb : b ∈ bs) (hn : b ∉ seen) : seen.length < bs0.length := by
  have := nodup_le (l := b :: seen) (m := bs0) (List.nodup_cons.2 ⟨hn, h.sn⟩) fun x hx => by
    rcases List.mem_cons.1 hx with rfl | hx
    · exact h.sub _ hb
    · exact h.ss x hx
  simp only [List.length_cons] at this
  omega
section

variable {σ : List zb} {h m a : Nat} {l : List (Int × zav)} {R : List zav} {low : Int} {K : AV → List zb → Prop}

end

end Go.Proofs.YtjjchfbckfopkaaGreat
