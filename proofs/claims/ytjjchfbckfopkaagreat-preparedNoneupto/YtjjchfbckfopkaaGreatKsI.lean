/- A map's keys (numbers), sorted. -/
import Derived.Test.YtjjchfbckfopkaaGreatSl
import Derived.Test.YtjjchfbckfopkaaGreatSpHdr
import Derived.Test.YtjjchfbckfopkaaGreatPr3
import Derived.Test.YtjjchfbckfopkaaGreatRc2
import Derived.Test.YtjjchfbckfopkaaGreatRq1
import Derived.Test.YtjjchfbckfopkaaGreatOp2
import Derived.Test.YtjjchfbckfopkaaGreatSpUtf
set_option linter.all false
set_option maxRecDepth 100000
set_option linter.unusedSimpArgs false
set_option linter.unusedVariables false
namespace Go.Proofs.YtjjchfbckfopkaaGreat
open Go.AW

abbrev intsV (l : List Int) : List AV := l.map fun x => .d (.int .i64 x)
inductive KS where
  | start
  | run (c : Nat) (bs : List Nat) (it : Nat) (seen : List Nat) (ys : List Int)
  | fin (ys : List Int)
def KS.ys : KS → List Int
  | .start => []
  | .run _ _ _ _ ys => ys
  | .fin ys => ys
def KS.map (m : Nat) (es : List (AV × AV)) (n : Nat) : KS → List zb → Prop
  | .start, s => s[m]? = some (.map es)
  | .run c bs it seen ys, s => s[m]? = some (.mapr c bs es) ∧ s[it]? = some (.mit (some m) c seen) ∧ n + 1 < it
  | .fin _, s => s[m]? = some (.map es)
structure KJ (B : List zb) (R : zb) (a t m : Nat) (es : List (AV × AV)) (i : KS) (s : List zb) : Prop where
  len : B.length + 1 < s.length
  r : s[B.length + 1]? = some R
  out : ∀ j, j < B.length → j ≠ a → j ≠ t → j ≠ m → s[j]? = B[j]?
  box : ∃ g, s[a]? = some (.box [.rsl t g 1 0 i.ys.length]) ∧ s[t]? = some (.row g 1 (intsV i.ys))
  map : i.map m es B.length s
section

variable {B : List zb} {R : zb} {a t m : Nat} {es : List (AV × AV)} {names : List Int}

end

section

variable {σ : List zb} {t m bx : Nat} {es : List (AV × AV)} {names : List Int} {K : AV → List zb → Prop}

end


structure RelP (l : List (Int × zav)) (R : List zav) : Prop where
  nod : (l.map Prod.fst).Nodup
  key : ∀ e ∈ l, e.2.seq = e.1
  mem : ∀ p, (p.seq, p) ∈ l ↔ p ∈ R
  srt : R.Pairwise fun p q => p.seq < q.seq
  small : ∀ p ∈ R, smallP p
theorem RelP.nil : RelP [] [] := ⟨by simp, by simp, by simp, by simp, by simp⟩
theorem RelP.mem' {l : List (Int × zav)} {R : List zav} (h : RelP l R) {e : Int × zav} (he : e ∈ l) : e.2 ∈ R := by
  have h1 := h.key e he
  refine (h.mem e.2).1 ?_
  rw [h1]; exact he
theorem RelP.seqs {l : List (Int × zav)} {R : List zav} (h : RelP l R) : (R.map zav.seq).Pairwise (· < ·) := List.pairwise_map.2 h.srt
theorem perm_nodup {α : Type} {l m : List α} (h1 : l.Nodup) (h2 : m.Nodup) (h : ∀ a, a ∈ l ↔ a ∈ m) : l.Perm m := (List.perm_ext_iff_of_nodup h1 h2).2 h
theorem RelP.perm {l : List (Int × zav)} {R : List zav} (h : RelP l R) : (l.map Prod.fst).Perm (R.map zav.seq) := by
  refine perm_nodup h.nod (h.seqs.imp fun hab => by omega) fun a => ?_
  constructor
  · intro ha
    obtain ⟨e, he, rfl⟩ := List.mem_map.1 ha
    exact List.mem_map.2 ⟨e.2, h.mem' he, h.key e he⟩
  · intro ha
    obtain ⟨p, hp, rfl⟩ := List.mem_map.1 ha
    exact List.mem_map.2 ⟨_, (h.mem p).2 hp, rfl⟩
theorem RelP.len {l : List (Int × zav)} {R : List zav} (h : RelP l R) : l.length = R.length := by
  have := h.perm.length_eq
  simpa using this
section

variable {σ : List zb} {h m : Nat} {l : List (Int × zav)} {R : List zav} {K : AV → List zb → Prop}

end


theorem zka {σ S : List zb} {K : AV → List zb → Prop} {l : List AV} (h : S.take σ.length = σ) (h1 : Low σ.length (dmT (zcm l))) (hl : zdW σ.length σ) (hK : K (dmT (zcm l)) σ) : AW.Ends σ.length K (some l) S := by
  unfold AW.Ends
  rw [h]
  exact ⟨h1, hl, hK⟩
structure AlJ (B : List zb) (n : Nat) (R : List zav) (i : Nat) (s : List zb) : Prop where
  len : B.length + 1 < s.length
  out : ∀ j, j < B.length → j ≠ n → j ≠ n + 1 → s[j]? = B[j]?
  a : s[n]? = some (.box [.own (n + 1) (prepsE (R.take i))])
  ta : s[n + 1]? = some (.tok 7 i)
section

variable {σ : List zb} {h m : Nat} {l : List (Int × zav)} {R : List zav} {K : AV → List zb → Prop}

end


end Go.Proofs.YtjjchfbckfopkaaGreat

/- Which proofs may be: the first error of all that is asked. No program in sight. -/
set_option linter.unusedSimpArgs false
set_option linter.unusedVariables false
namespace Go.AW

structure TProof where
  topic : List UInt8
  offset : Int
  rec_ : List UInt8
  headers : List THdr
  index : Int
  count : Int
  path : List Int
  cert : TCert
end Go.AW
