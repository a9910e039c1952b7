/- Contracts: all records of a topic, by its range; topics that are the same. -/
import Derived.Test.YtaocmalhjfakdaaKs2
import Derived.Test.YtaocmalhjfakdaaKs4
import Derived.Test.YtaocmalhjfakdaaLaw07a
import Derived.Test.YtaocmalhjfakdaaSh
import Derived.Shelf.SlMaps.Clone
import Derived.Ground.SlmcProg
import Derived.Test.YtaocmalhjfakdaaAwFun
import Derived.Test.YtaocmalhjfakdaaAwSndR
import Derived.Test.YtaocmalhjfakdaaSpPrg
import Derived.Test.YtaocmalhjfakdaaSpUtf
import Derived.Test.YtaocmalhjfakdaaCl1
set_option linter.all false
set_option maxRecDepth 100000
set_option linter.unusedSimpArgs false
set_option linter.unusedVariables false
namespace Go.Proofs.Ytaocmalhjfakdaa
open Go.AW

def atsQ (b : Int) (i : Nat) : List Int := (List.range i).map fun (j : Nat) => b + (j : Int)
abbrev atsE (b : Int) (i : Nat) : List (List D) := (atsQ b i).map fun n => [.int .i64 n]
theorem zda.prg {σ : List zc} {id : Nat} {T : zO} {O : Nat → Prop} (h : zda σ id T O) : ∃ m X, zek σ id m X T.last ∧ Rel X T.l := by
  obtain ⟨m, X, h1, h2, _⟩ := h
  exact ⟨m, X, h1, h2⟩
theorem zda.srt {σ : List zc} {id : Nat} {T : zO} {O : Nat → Prop} (h : zda σ id T O) : ∀ x ∈ T.l, zcn Prod.fst x.groups := by
  obtain ⟨m, X, h1, h2⟩ := h.prg
  intro x hx
  obtain ⟨p, _, hr⟩ := h2.bw x hx
  exact hr.gr.sort
structure RcJ (B : List zc) (n : Nat) (b : Int) (l : List (List UInt8)) (i : Nat) (s : List zc) : Prop where
  len : B.length + 1 < s.length
  out : ∀ j, j < B.length → j ≠ n → j ≠ n + 1 → j ≠ n + 2 → j ≠ n + 3 → s[j]? = B[j]?
  a : s[n]? = some (.box [.own (n + 2) (atsE b i)])
  b : s[n + 1]? = some (.box [.own (n + 3) (zbz (l.take i))])
  ta : s[n + 2]? = some (.tok 1 i)
  tb : s[n + 3]? = some (.tok 1 i)
section

variable {σ : List zc} {id : Nat} {T : zO} {O : Nat → Prop} {K : AV → List zc → Prop}

end


structure SmJ (σ : List zc) (A : zc) (tn k : Nat) (S : List zc) : Prop where
  pre : S.take σ.length = σ
  box : S[σ.length]? = some A
  tok : S[tn]? = some (.tok 1 k)
  lt : σ.length < tn
section

variable {σ S : List zc} {A : zc} {tn k : Nat}

theorem SmJ.app (h : SmJ σ A tn k S) (τ : List zc) : SmJ σ A tn k (S ++ τ) := ⟨by rw [List.take_append_of_le_length (by have := zg h.box; omega)]; exact h.pre, zf h.box, zf h.tok, h.lt⟩
theorem SmJ.set (h : SmJ σ A tn k S) {i : Nat} (h1 : σ.length < i) (h2 : i ≠ tn) (Y : zc) : SmJ σ A tn k (S.set i Y) := ⟨by rw [zhS (by omega)]; exact h.pre, (List.getElem?_set_ne (by omega)).trans h.box, (List.getElem?_set_ne h2).trans h.tok, h.lt⟩
theorem SmJ.next (h : SmJ σ A tn k S) : SmJ σ A tn (k + 1) (S.set tn (.tok 1 (k + 1))) := ⟨by rw [zhS (by have := h.lt; omega)]; exact h.pre, (List.getElem?_set_ne (by have := h.lt; omega)).trans h.box, List.getElem?_set_self (zg h.tok), h.lt⟩
theorem SmJ.get (h : SmJ σ A tn k S) {j : Nat} (hj : j < σ.length) : S[j]? = σ[j]? := by
  have := congrArg (·[j]?) h.pre
  simpa [List.getElem?_take, hj] using this
theorem SmJ.top (h : SmJ σ A tn k S) {id : Nat} {T : zO} {O : Nat → Prop} (hT : zda σ id T O) : zda S id T O := hT.keep fun j hj => h.get (hT.own_lt hj)
theorem SmJ.tops (h : SmJ σ A tn k S) {id t g : Nat} {T : zO} (hT : zgo σ id t g T) : zgo S id t g T := ⟨(h.get (zg hT.box)).trans hT.box, (h.get (zg hT.row)).trans hT.row, hT.last⟩
end

open Go.Shelf Go.Proofs
end Go.Proofs.Ytaocmalhjfakdaa

/- A MAP IS CLONED: the kit's contract of maps.Clone, told in the own logic. -/
set_option linter.unusedSimpArgs false
set_option linter.unusedVariables false
namespace Go.AW

end Go.AW

/- Contract: the program's topics are cloned. -/
set_option maxRecDepth 100000
set_option linter.unusedSimpArgs false
set_option linter.unusedVariables false
namespace Go.Proofs.Ytaocmalhjfakdaa
open Go.AW

structure ClJ (σ : List zc) (m c : Nat) (bs : List Nat) (X : List zcG) (L : List (Int × Int × Int)) (seen : List Nat) (Y Z : List zcG) (S : List zc) : Prop where
  out : ∀ j, j < σ.length → j ≠ m → S[j]? = σ[j]?
  map : S[m]? = some (.mapr c bs (topM X))
  it : S[σ.length + 2]? = some (.mit (some m) c seen)
  box : S[σ.length + 1]? = some (.box (.map σ.length :: zbX L))
  new : S[σ.length]? = some (.map (topM Z))
  sn : zfS bs X seen Y
  nod : seen.Nodup
  alike : Z.map zcG.x = Y.map zcG.x
  tops : ∀ z ∈ Z, TopAt S z ∧ σ.length + 2 < z.id ∧ σ.length + 2 < z.g ∧ σ.length + 2 < z.t
  sep : ∀ (i j : Nat) (p q : zcG), Z[i]? = some p → Z[j]? = some q → i ≠ j → p.id ≠ q.id ∧ p.g ≠ q.g ∧ p.t ≠ q.t
section

variable {σ : List zc} {id : Nat} {T : zO} {O : Nat → Prop} {K : AV → List zc → Prop}

end

end Go.Proofs.Ytaocmalhjfakdaa

/- At most once: no program in sight. -/
set_option linter.unusedSimpArgs false
set_option linter.unusedVariables false
namespace Go.AW

end Go.AW

/- The law TopicsOnce, from the contracts. -/
set_option maxRecDepth 100000
set_option linter.unusedSimpArgs false
set_option linter.unusedVariables false
namespace Go.Proofs.Ytaocmalhjfakdaa
open Go.AW

abbrev keyA (k : Int × Int) : AV := .agg [.d (.int .i64 k.1), .d (.int .i64 k.2)]
abbrev doneM (D : List ((Int × Int) × Bool)) : List (AV × AV) := D.map fun e => (keyA e.1, .d (.bool e.2))
theorem lastI_none7 : zlA zbR.last := fun a ha => by
  simp only [zbR, List.mem_replicate] at ha
  rw [ha.2]; simp
structure znd (S : List zc) (id am : Nat) (T : zO) (D : List ((Int × Int) × Bool)) (O : Nat → Prop) : Prop where
  top : zda S id T O
  map : S[am]? = some (.map (doneM D))
  own : ¬ O am
theorem znd.app {S : List zc} {id am : Nat} {T : zO} {D : List ((Int × Int) × Bool)} {O : Nat → Prop} (h : znd S id am T D O) (τ : List zc) : znd (S ++ τ) id am T D O := ⟨h.top.app τ, zf h.map, h.own⟩
theorem znd.after {S S' : List zc} {id am : Nat} {T T' : zO} {D : List ((Int × Int) × Bool)} {O : Nat → Prop} (h : znd S id am T D O) (hA : After S id T' O S') : ∃ O', znd S' id am T' D O' ∧ StO S S' O ∧ ∀ j, O' j → O j ∨ S.length ≤ j := by
  obtain ⟨O', h1, h2, h3⟩ := hA
  refine ⟨O', ⟨h1, h2.at_ h.map h.own, fun hj => ?_⟩, h2, h3⟩
  have := zg h.map
  exact (h3 _ hj).elim h.own fun h => by omega
theorem znd.put {S : List zc} {id am : Nat} {T : zO} {D : List ((Int × Int) × Bool)} {O : Nat → Prop} (h : znd S id am T D O) (D' : List ((Int × Int) × Bool)) : znd (S.set am (.map (doneM D'))) id am T D' O :=
  ⟨h.top.set h.own _, List.getElem?_set_self (zg h.map), h.own⟩

section
variable {σ S : List zc} {id e t g : Nat} {T : zO} {O : Nat → Prop}
theorem zda.norow (h : zda σ id T O) {j : Nat} (hj : O j) : ∃ x, σ[j]? = some x ∧ ∀ g sz cs, x ≠ .row g sz cs := by
  obtain ⟨m, X, h1, h2, h3⟩ := h
  rcases (h3 j).1 hj with rfl | rfl | ⟨p, hp, rfl | rfl | rfl⟩
  · exact ⟨_, h1.box, fun _ _ _ h => by cases h⟩
  · exact ⟨_, h1.map, fun _ _ _ h => by cases h⟩
  · exact ⟨_, (h1.tops p hp).b, fun _ _ _ h => by cases h⟩
  · exact ⟨_, (h1.tops p hp).g, fun _ _ _ h => by cases h⟩
  · exact ⟨_, (h1.tops p hp).t, fun _ _ _ h => by cases h⟩
theorem zda.stays (h : zda σ id T O) (hs : zly σ S e) (he : ¬ O e) : zda S id T O := h.keep fun j hj => by
  obtain ⟨x, hx, hr⟩ := h.norow hj
  rw [hx]
  exact hs.get j x hx (fun e' => he (e' ▸ hj)) hr
theorem zgo.keepO (h : zgo σ e t g T) (hs : StO σ S O) (h1 : ¬ O e) (h2 : ¬ O t) : zgo S e t g T := ⟨hs.at_ h.box h1, hs.at_ h.row h2, h.last⟩
end

structure TwoJ (S : List zc) (h e t g : Nat) (T : zO) (O : Nat → Prop) : Prop where
  prg : zda S h T O
  doc : zgo S e t g T
  no : ¬ O e
  I : zdn T
  L : zlA T.last
section

variable {S : List zc} {h e t g : Nat} {T : zO} {O : Nat → Prop}

theorem TwoJ.app (j : TwoJ S h e t g T O) (τ : List zc) : TwoJ (S ++ τ) h e t g T O := ⟨j.prg.app τ, j.doc.app τ, j.no, j.I, j.L⟩
end

end Go.Proofs.Ytaocmalhjfakdaa

/- One byte of a number, as a loop over at most ten reads it. No program in sight. -/
/- A number's next seven bits. No program in sight. -/
set_option linter.unusedSimpArgs false
namespace Go.AW
open Go

theorem wrap64m (n : Nat) : IntKind.u64.wrap (n : Int) = ((n % 18446744073709551616 : Nat) : Int) := by
  simp [IntKind.wrap, IntKind.signed, IntKind.bits]
theorem ziA (n : Nat) : (BitVec.ofInt IntKind.u64.bits (n : Int)).toNat = n % 18446744073709551616 := by
  rw [BitVec.toNat_ofInt]
  have : ((2 ^ IntKind.u64.bits : Nat) : Int) = 18446744073709551616 := by decide
  rw [this]; omega
theorem zjI (n : Nat) : (BitVec.ofInt IntKind.u8.bits (n : Int)).toNat = n % 256 := by
  rw [BitVec.toNat_ofInt]
  have : ((2 ^ IntKind.u8.bits : Nat) : Int) = 256 := by decide
  rw [this]; omega
theorem andLow (x : Nat) (hx : x < 256) : IntKind.u8.wrap ↑(BitVec.ofInt IntKind.u8.bits (x : Int) &&& BitVec.ofInt IntKind.u8.bits 127).toNat = ((x % 128 : Nat) : Int) := by
  have e : (127 : Int) = ((127 : Nat) : Int) := rfl
  rw [BitVec.toNat_and, zjI, e, zjI, Nat.mod_eq_of_lt hx, show 127 % 256 = 2 ^ 7 - 1 from rfl, Nat.and_two_pow_sub_one_eq_mod]
  rw [zmo (by omega)]
theorem pow128 (k : Nat) : 128 ^ k = 2 ^ (7 * k) := by rw [Nat.pow_mul]
theorem numStep {acc k x : Nat} (hx : x < 256) (hk : k ≤ 9) (ha : acc < 128 ^ k) :
    IntKind.u64.wrap ↑(BitVec.ofInt IntKind.u64.bits (acc : Int) ||| BitVec.ofInt IntKind.u64.bits (IntKind.u64.wrap (IntKind.u64.wrap (IntKind.u8.wrap ↑(BitVec.ofInt IntKind.u8.bits (x : Int) &&& BitVec.ofInt IntKind.u8.bits 127).toNat) * 2 ^ min (IntKind.i64.wrap (7 * (k : Int))).toNat IntKind.u64.bits))).toNat
      = (((acc + x % 128 * 128 ^ k) % 18446744073709551616 : Nat) : Int) := by
  have h63 : 128 ^ k ≤ 128 ^ 9 := Nat.pow_le_pow_right (by omega) hk
  have h63' : (128 : Nat) ^ 9 = 9223372036854775808 := rfl
  have e1 : min (IntKind.i64.wrap (7 * (k : Int))).toNat IntKind.u64.bits = 7 * k := by
    rw [zbJ (by omega) (by omega)]
    have : IntKind.u64.bits = 64 := rfl
    omega
  have e2 : ((x % 128 : Nat) : Int) * 2 ^ (7 * k) = ((x % 128 * 2 ^ (7 * k) : Nat) : Int) := by simp
  rw [andLow x hx, zfU (n := x % 128) (by omega), e1, e2, wrap64m (x % 128 * 2 ^ (7 * k)), BitVec.toNat_or, ziA, ziA, Nat.mod_mod, Nat.mod_eq_of_lt (by omega : acc < 18446744073709551616)]
  rw [pow128 k] at ha ⊢
  have e3 : 18446744073709551616 = 2 ^ (7 * k) * 2 ^ (64 - 7 * k) := by
    rw [← Nat.pow_add, show 7 * k + (64 - 7 * k) = 64 by omega]
  have e4 : x % 128 * 2 ^ (7 * k) % 18446744073709551616 = 2 ^ (7 * k) * (x % 128 % 2 ^ (64 - 7 * k)) := by
    rw [Nat.mul_comm, e3, Nat.mul_mod_mul_left]
  have e5 : acc ||| 2 ^ (7 * k) * (x % 128 % 2 ^ (64 - 7 * k)) = 2 ^ (7 * k) * (x % 128 % 2 ^ (64 - 7 * k)) + acc := by
    rw [Nat.or_comm, Nat.two_pow_add_eq_or_of_lt ha]
  have hr : 2 ^ (7 * k) * (x % 128 % 2 ^ (64 - 7 * k)) + acc < 18446744073709551616 := by
    have hz : x % 128 % 2 ^ (64 - 7 * k) < 2 ^ (64 - 7 * k) := Nat.mod_lt _ (Nat.two_pow_pos _)
    calc 2 ^ (7 * k) * (x % 128 % 2 ^ (64 - 7 * k)) + acc < 2 ^ (7 * k) * (x % 128 % 2 ^ (64 - 7 * k)) + 2 ^ (7 * k) := by omega
      _ = 2 ^ (7 * k) * (x % 128 % 2 ^ (64 - 7 * k) + 1) := by rw [Nat.mul_add, Nat.mul_one]
      _ ≤ 2 ^ (7 * k) * 2 ^ (64 - 7 * k) := Nat.mul_le_mul_left _ hz
      _ = 18446744073709551616 := e3.symm
  rw [e4, e5, zfU hr]
  have e6 : (acc + x % 128 * 2 ^ (7 * k)) % 18446744073709551616 = (acc + x % 128 * 2 ^ (7 * k) % 18446744073709551616) % 18446744073709551616 := by omega
  rw [e6, e4, Nat.add_comm acc, Nat.mod_eq_of_lt hr]

theorem numFit {acc k x : Nat} (hk : k ≤ 9) (ha : acc < 128 ^ k) (h : ¬ (k = 9 ∧ x > 1)) : acc + x % 128 * 128 ^ k < 128 ^ (k + 1) ∧ acc + x % 128 * 128 ^ k < 18446744073709551616 := by
  have h1 : x % 128 * 128 ^ k ≤ 127 * 128 ^ k := Nat.mul_le_mul_right _ (by omega)
  have h2 : 128 ^ (k + 1) = 128 ^ k * 128 := Nat.pow_succ ..
  refine ⟨by omega, ?_⟩
  by_cases h9 : k = 9
  · subst h9
    have h3 : x % 128 * 128 ^ 9 ≤ 1 * 128 ^ 9 := Nat.mul_le_mul_right _ (by omega)
    have h4 : (128 : Nat) ^ 9 = 9223372036854775808 := rfl
    omega
  · have h3 : 128 ^ (k + 1) ≤ 128 ^ 9 := Nat.pow_le_pow_right (by omega) (by omega)
    have h4 : (128 : Nat) ^ 9 = 9223372036854775808 := rfl
    omega
theorem numR_big {m k acc : Nat} {c : UInt8} {r : List UInt8} (hc : c.toNat > 127) (hk : k < 9) : zhU m k acc (c :: r) = zhU m (k + 1) (acc + c.toNat % 128 * 128 ^ k) r := by
  rw [zhU, if_neg (by omega), if_neg (by omega)]
theorem numR_nine {m acc : Nat} {c : UInt8} {r : List UInt8} (hc : c.toNat > 1) : zhU m 9 acc (c :: r) = .error 11 := by
  rw [zhU, if_pos ⟨rfl, hc⟩]
theorem numR_bad {m k acc : Nat} {c : UInt8} {r : List UInt8} (hc : c.toNat < 128) (hk : k ≤ 9) (ha : acc < 128 ^ k) (h : (k > 0 ∧ c.toNat = 0) ∨ (k = 9 ∧ c.toNat > 1) ∨ (acc + c.toNat % 128 * 128 ^ k) % 18446744073709551616 > m) : zhU m k acc (c :: r) = .error 11 := by
  rw [zhU]
  by_cases h1 : k = 9 ∧ c.toNat > 1
  · rw [if_pos h1]
  · have hf := (numFit hk ha h1).2
    rw [Nat.mod_eq_of_lt hf, Nat.mod_eq_of_lt hc] at h
    rw [if_neg h1, if_pos hc, if_pos (by rcases h with h | h | h; exact .inl h; exact absurd h h1; exact .inr h)]
theorem numR_good {m k acc : Nat} {c : UInt8} {r : List UInt8} (hc : c.toNat < 128) (hk : k ≤ 9) (ha : acc < 128 ^ k) (h0 : ¬ (k > 0 ∧ c.toNat = 0)) (h1 : ¬ (k = 9 ∧ c.toNat > 1)) (h : ¬ ((acc + c.toNat % 128 * 128 ^ k) % 18446744073709551616 > m)) : zhU m k acc (c :: r) = .ok ((acc + c.toNat % 128 * 128 ^ k) % 18446744073709551616, r) := by
  have hf := (numFit hk ha h1).2
  rw [Nat.mod_eq_of_lt hf] at h ⊢
  rw [Nat.mod_eq_of_lt hc] at h ⊢
  rw [zhU, if_neg h1, if_pos hc, if_neg (by rintro (h' | h'); exact h0 h'; exact h h')]
end Go.AW
