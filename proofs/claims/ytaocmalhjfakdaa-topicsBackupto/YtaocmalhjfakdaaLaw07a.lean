/- The law TopicsStays, from the contracts. -/
import Derived.Test.YtaocmalhjfakdaaLv7
import Derived.Test.YtaocmalhjfakdaaSpStay
import Derived.Test.YtaocmalhjfakdaaSh
import Derived.Shelf.SortM.Plain
import Derived.Shelf.SortM.SortNone
import Derived.Ground.SlgmProg
set_option linter.all false
set_option maxRecDepth 100000
set_option linter.unusedSimpArgs false
set_option linter.unusedVariables false
namespace Go.Proofs.Ytaocmalhjfakdaa
open Go.AW

abbrev atM (Y : List AtE) : List (AV × AV) := Y.map fun e => (.d (.str e.n), .own e.t (zbz e.l))
structure zkg (S : List zc) (id am : Nat) (T : zO) (Y : List AtE) (O : Nat → Prop) : Prop where
  top : zda S id T O
  map : S[am]? = some (.map (atM Y))
  tok : ∀ e ∈ Y, S[e.t]? = some (.tok 1 e.l.length)
  sep : ∀ (i j : Nat) (e f : AtE), Y[i]? = some e → Y[j]? = some f → i ≠ j → e.t ≠ f.t
  own : ¬ O am ∧ ∀ e ∈ Y, ¬ O e.t
section

variable {S S' : List zc} {id am : Nat} {T T' : zO} {Y : List AtE} {O : Nat → Prop}

theorem zkg.app (h : zkg S id am T Y O) (τ : List zc) : zkg (S ++ τ) id am T Y O :=
  ⟨h.top.app τ, zf h.map, fun e he => zf (h.tok e he), h.sep, h.own⟩
theorem zkg.after (h : zkg S id am T Y O) (hA : After S id T' O S') : ∃ O', zkg S' id am T' Y O' ∧ StO S S' O ∧ ∀ j, O' j → O j ∨ S.length ≤ j := by
  obtain ⟨O', h1, h2, h3⟩ := hA
  refine ⟨O', ⟨h1, h2.at_ h.map h.own.1, fun e he => h2.at_ (h.tok e he) (h.own.2 e he), h.sep, fun hj => ?_, fun e he hj => ?_⟩, h2, h3⟩
  · have := zg h.map
    exact (h3 _ hj).elim h.own.1 fun h => by omega
  · have := zg (h.tok e he)
    exact (h3 _ hj).elim (h.own.2 e he) fun h => by omega
theorem zkg.more (h : zkg S id am T Y O) {n : List UInt8} {i : Nat} {e : AtE} (hf : findY n Y 0 = some (i, e)) (r : List UInt8) :
    zkg ((S.set e.t (.tok 1 (e.l.length + 1))).set am (.map ((atM Y).set i (.d (.str n), .own e.t (zbz e.l ++ [[.slice (bcs r)]]))))) id am T (Y.set i ⟨n, e.l ++ [r], e.t⟩) O := by
  obtain ⟨j, e1, h1, h2⟩ := zlZ hf
  rw [Nat.zero_add] at e1; subst e1
  have hm := List.mem_of_getElem? h1
  have ht := h.tok e hm
  have lt1 := zg ht
  have lm := zg h.map
  have ne : ∀ f ∈ Y, am ≠ f.t := fun f hf e => by have := h.map; rw [e, h.tok f hf] at this; cases this
  refine ⟨(h.top.set (h.own.2 e hm) _).set h.own.1 _, ?_, fun f hf => ?_, fun a b f g hf hg hab => ?_, h.own.1, fun f hf => ?_⟩
  · rw [List.getElem?_set_self (by simpa using lm)]
    simp [atM, List.map_set, zbz]
  · rcases zch hf with rfl | ⟨k, hk, hf'⟩
    · rw [List.getElem?_set_ne (ne e hm), List.getElem?_set_self lt1]; simp
    · have := h.sep i k e f h1 hf' (Ne.symm hk)
      rw [List.getElem?_set_ne (ne f (List.mem_of_getElem? hf')), List.getElem?_set_ne this]
      exact h.tok f (List.mem_of_getElem? hf')
  · have key : ∀ (c : Nat) (s : AtE), (Y.set i ⟨n, e.l ++ [r], e.t⟩)[c]? = some s → ∃ s', Y[c]? = some s' ∧ s'.t = s.t := fun c s hc => by
      rw [List.getElem?_set] at hc
      split at hc
      · rename_i e2
        subst e2
        split at hc
        · cases hc; exact ⟨e, h1, rfl⟩
        · cases hc
      · exact ⟨s, hc, rfl⟩
    obtain ⟨f', g1, g2⟩ := key a f hf
    obtain ⟨g', g3, g4⟩ := key b g hg
    rw [← g2, ← g4]
    exact h.sep a b f' g' g1 g3 hab
  · rcases zch hf with rfl | ⟨k, hk, hf'⟩
    · exact h.own.2 e hm
    · exact h.own.2 f (List.mem_of_getElem? hf')
theorem zkg.first (h : zkg S id am T Y O) {n : List UInt8} (r : List UInt8) :
    zkg (S.set am (.map (atM Y ++ [(.d (.str n), .own S.length [[.slice (bcs r)]])])) ++ [.tok 1 1]) id am T (Y ++ [⟨n, [r], S.length⟩]) O := by
  have lm := zg h.map
  have ne : ∀ f ∈ Y, am ≠ f.t := fun f hf e => by have := h.map; rw [e, h.tok f hf] at this; cases this
  refine ⟨(h.top.set h.own.1 _).app _, ?_, fun f hf => ?_, fun a b f g hf hg hab => ?_, h.own.1, fun f hf => ?_⟩
  · refine zf ?_
    rw [List.getElem?_set_self lm]; simp [atM, zbz]
  · rcases List.mem_append.1 hf with hf | hf
    · refine zf ?_
      rw [List.getElem?_set_ne (ne f hf)]; exact h.tok f hf
    · simp at hf; subst hf
      rw [List.getElem?_append_right (by simp)]; simp
  · have old : ∀ q ∈ Y, q.t < S.length := fun q hq => zg (h.tok q hq)
    rw [List.getElem?_append] at hf hg
    split at hf
    · split at hg
      · exact h.sep a b f g hf hg hab
      · have h5 := List.mem_of_getElem? hg
        simp at h5; subst h5
        have := old f (List.mem_of_getElem? hf)
        simp only; omega
    · have h4 := List.mem_of_getElem? hf
      have h6 := (List.getElem?_eq_some_iff.1 hf).1
      simp at h4 h6; subst h4
      split at hg
      · have := old g (List.mem_of_getElem? hg)
        simp only; omega
      · have h5 := (List.getElem?_eq_some_iff.1 hg).1
        simp at h5; omega
  · rcases List.mem_append.1 hf with hf | hf
    · exact h.own.2 f hf
    · simp at hf; subst hf
      intro hj
      have := h.top.own_lt hj
      simp at this
end

theorem args_reqs {n : Nat} (hn : n ≤ 1048576) {ds : List D} {m : Nat} (hf : zdo [.slice tyReq] ds) (hb : zdV ds + m ≤ n) : ∃ l : List zJ, ds = [.slice (reqsE l)] ∧ l.length ≤ 2097152 ∧ ∀ x ∈ l, opSz x.op ≤ 20971520 := by
  obtain ⟨d, rfl, h1⟩ := one_of hf
  obtain ⟨l, rfl, _⟩ := dec_reqs h1
  obtain ⟨h2, h3⟩ := reqs_sz (b := l) (n := 1048576) (by simp only [zdV, ziS] at hb; omega) (by omega)
  exact ⟨l, rfl, h3, h2⟩
theorem zlN {o : TOp} (h : opSz o ≤ 20971520) : o.topic.length ≤ 20971520 ∧ o.group.length ≤ 20971520 ∧ o.recs.length ≤ 20971520 ∧ ∀ r ∈ o.recs, r.length ≤ 20971520 := by
  have h1 : ∀ l : List (List UInt8), l.length ≤ (l.map fun r => r.length + 10).sum ∧ ∀ r ∈ l, r.length ≤ (l.map fun r => r.length + 10).sum := by
    intro l
    induction l with
    | nil => simp
    | cons a l ih =>
      simp only [List.map_cons, List.sum_cons, List.length_cons]
      refine ⟨by omega, fun r hr => ?_⟩
      rcases List.mem_cons.1 hr with rfl | hr
      · omega
      · have := ih.2 r hr; omega
  unfold opSz at h
  have h2 := h1 o.recs
  exact ⟨by omega, by omega, by omega, fun r hr => by have := h2.2 r hr; omega⟩
open Go.Shelf Go.Proofs
def sortS_ren : Go.Shelf.Ren := ⟨fun | 6 => 77 | 8 => 99 | 9 => 98 | 19 => 116 | 20 => 117 | 21 => 107 | 22 => 108 | 23 => 109 | 24 => 110 | 25 => 111 | 26 => 112 | 27 => 113 | 28 => 114 | 29 => 115 | 36 => 119 | 31 => 120 | 32 => 121 | 37 => 122 | 38 => 123 | 39 => 124 | 41 => 126 | n => n, fun | 27 => 75 | 29 => 9 | 3 => 3 | 32 => 167 | 26 => 75 | 0 => 0 | 44 => 185 | 46 => 104 | 4 => 4 | 36 => 177 | 35 => 176 | 41 => 182 | 5 => 5 | 9 => 9 | 53 => 189 | 57 => 193 | 63 => 197 | 64 => 187 | n => n, fun | n => n⟩
theorem sortS : Go.Proofs.SlLaysM.n6 Try.prog sortS_ren := {
  mixed := by kernel_rfl
  f6 := ⟨Try.f77.name, by decide, Try.func77.trans (congrArg some (by kernel_rfl))⟩
  f8 := Try.func99.trans (congrArg some (by kernel_rfl))
  f9 := ⟨Try.f98.name, by decide, Try.func98.trans (congrArg some (by kernel_rfl))⟩
  f19 := Try.func116.trans (congrArg some (by kernel_rfl))
  f20 := Try.func117.trans (congrArg some (by kernel_rfl))
  f21 := ⟨Try.f107.name, by decide, Try.func107.trans (congrArg some (by kernel_rfl))⟩
  f22 := ⟨Try.f108.name, by decide, Try.func108.trans (congrArg some (by kernel_rfl))⟩
  f23 := ⟨Try.f109.name, by decide, Try.func109.trans (congrArg some (by kernel_rfl))⟩
  f24 := ⟨Try.f110.name, by decide, Try.func110.trans (congrArg some (by kernel_rfl))⟩
  f25 := ⟨Try.f111.name, by decide, Try.func111.trans (congrArg some (by kernel_rfl))⟩
  f26 := ⟨Try.f112.name, by decide, Try.func112.trans (congrArg some (by kernel_rfl))⟩
  f27 := ⟨Try.f113.name, by decide, Try.func113.trans (congrArg some (by kernel_rfl))⟩
  f28 := ⟨Try.f114.name, by decide, Try.func114.trans (congrArg some (by kernel_rfl))⟩
  f29 := ⟨Try.f115.name, by decide, Try.func115.trans (congrArg some (by kernel_rfl))⟩
  f31 := Try.func120.trans (congrArg some (by kernel_rfl))
  f32 := Try.func121.trans (congrArg some (by kernel_rfl))
  f36 := ⟨Try.f119.name, by decide, Try.func119.trans (congrArg some (by kernel_rfl))⟩
  f37 := ⟨Try.f122.name, by decide, Try.func122.trans (congrArg some (by kernel_rfl))⟩
  f38 := ⟨Try.f123.name, by decide, Try.func123.trans (congrArg some (by kernel_rfl))⟩
  f39 := ⟨Try.f124.name, by decide, Try.func124.trans (congrArg some (by kernel_rfl))⟩
  f41 := ⟨Try.f126.name, by decide, Try.func126.trans (congrArg some (by kernel_rfl))⟩
  t0 := Try.underlying0
  a0 := Try.isAgg0
  z0 := Try.sizeOf0
  v0 := Try.zeroValue0
  t3 := Try.underlying3
  a3 := Try.isAgg3
  z3 := Try.sizeOf3
  v3 := Try.zeroValue3
  t4 := Try.underlying4
  a4 := Try.isAgg4
  z4 := Try.sizeOf4
  v4 := Try.zeroValue4
  t5 := Try.underlying5
  a5 := Try.isAgg5
  z5 := Try.sizeOf5
  v5 := Try.zeroValue5
  t9 := Try.underlying9
  a9 := Try.isAgg9
  z9 := Try.sizeOf9
  v9 := Try.zeroValue9
  t26 := Try.underlying75
  a26 := Try.isAgg75
  z26 := Try.sizeOf75
  v26 := Try.zeroValue75
  t27 := Try.underlying75
  a27 := Try.isAgg75
  z27 := Try.sizeOf75
  v27 := Try.zeroValue75
  t29 := Try.underlying9
  a29 := Try.isAgg9
  z29 := Try.sizeOf9
  v29 := Try.zeroValue9
  t32 := Try.underlying167
  a32 := Try.isAgg167
  z32 := Try.sizeOf167
  v32 := Try.zeroValue167
  t35 := Try.underlying176
  a35 := Try.isAgg176
  z35 := Try.sizeOf176
  v35 := Try.zeroValue176
  t36 := Try.underlying177
  a36 := Try.isAgg177
  z36 := Try.sizeOf177
  v36 := Try.zeroValue177
  t41 := Try.underlying182
  a41 := Try.isAgg182
  z41 := Try.sizeOf182
  v41 := Try.zeroValue182
  t44 := Try.underlying185
  a44 := Try.isAgg185
  z44 := Try.sizeOf185
  v44 := Try.zeroValue185
  t46 := Try.underlying104
  a46 := Try.isAgg104
  z46 := Try.sizeOf104
  v46 := Try.zeroValue104
  t53 := Try.underlying189
  a53 := Try.isAgg189
  z53 := Try.sizeOf189
  v53 := Try.zeroValue189
  t57 := Try.underlying193
  a57 := Try.isAgg193
  z57 := Try.sizeOf193
  v57 := Try.zeroValue193
  t63 := Try.underlying197
  a63 := Try.isAgg197
  z63 := Try.sizeOf197
  v63 := Try.zeroValue197
  t64 := Try.underlying187
  a64 := Try.isAgg187
  z64 := Try.sizeOf187
  v64 := Try.zeroValue187 }
end Go.Proofs.Ytaocmalhjfakdaa
