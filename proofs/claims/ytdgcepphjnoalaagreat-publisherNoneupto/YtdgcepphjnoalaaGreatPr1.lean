/- Contracts: whether a certificate is valid, the program's. -/
import Derived.Test.YtdgcepphjnoalaaGreatSpPool
import Derived.Test.YtdgcepphjnoalaaGreatAu3
import Derived.Test.YtdgcepphjnoalaaGreatAwEnd
import Derived.Test.YtdgcepphjnoalaaGreatSm5
import Derived.Test.YtdgcepphjnoalaaGreatRq1
import Derived.Test.YtdgcepphjnoalaaGreatSpTab
import Derived.Test.YtdgcepphjnoalaaGreatSpOp
set_option linter.all false
set_option maxRecDepth 100000
set_option linter.unusedSimpArgs false
set_option linter.unusedVariables false
namespace Go.Proofs.YtdgcepphjnoalaaGreat
open Go.AW


structure smallP (p : zjy) : Prop where
  ops : ∀ x ∈ p.batch, opSz x.op ≤ 20971520
  batch : p.batch.length ≤ 1073741824
  signs : p.signs.length ≤ 1073741824

end Go.Proofs.YtdgcepphjnoalaaGreat

/- Maps keyed by integers: what is found after a put. -/
set_option linter.unusedSimpArgs false
namespace Go.AW

abbrev ents (l : List (Int × AV)) : List (AV × AV) := l.map fun e => (.d (.int .i64 e.1), e.2)
end Go.AW

/- Contracts: certificates that are kept. -/
set_option maxRecDepth 100000
set_option linter.unusedSimpArgs false
set_option linter.unusedVariables false
namespace Go.Proofs.YtdgcepphjnoalaaGreat
open Go.AW

theorem c_clSign {σ : List zc} {l : List zS} (hn : l.length ≤ 1073741824) {K : AV → List zc → Prop} (hK : K (.d (.slice (zbQ l))) σ) : zl Tryz.prog zaL [.d (.slice (zbQ l))] σ K := by
  refine zfT zeY fun hl => ?_
  have hlen : (zbQ l).length = l.length := List.length_map ..
  have h2 : ∀ e ∈ zbQ l, e.length = 2 := zih (f := ziU) (fun _ => rfl) l
  simp only [zcT, iN, bT, bF, eN, zZ, zdF]
  obtain ⟨es, hes⟩ : ∃ es, zbQ l = es := ⟨_, rfl⟩
  rw [hes] at hlen h2 hK ⊢
  cases es with
  | nil =>
    refine ⟨?_, ?_⟩
    · refine zaP ?_
      refine zap hl ?_
      exact hK
    · refine zaP ?_
      refine zap hl ?_
      exact hK
  | cons e es =>
    simp only [zX, zr, zQ, zac, rep, zn, zfi, zad, zD, zeF]
    refine ⟨h2, by simp, by rw [hlen]; simp; omega, ?_⟩
    refine zap hl ?_
    exact hK
abbrev hE (l : List (Int × zjy)) : List (AV × AV) := ents (l.map fun e => (e.1, prepA e.2))
structure HeldAt (σ : List zc) (h m : Nat) (l : List (Int × zjy)) : Prop where
  box : σ[h]? = some (.box [.map m])
  map : σ[m]? = some (.map (hE l))
theorem HeldAt.app {σ : List zc} {h m : Nat} {l : List (Int × zjy)} (H : HeldAt σ h m l) (τ : List zc) : HeldAt (σ ++ τ) h m l := ⟨zy H.box, zy H.map⟩
end Go.Proofs.YtdgcepphjnoalaaGreat

/- Topics: what the document says of them. No program in sight. -/
set_option linter.unusedSimpArgs false
set_option linter.unusedVariables false
namespace Go.AW

structure zde where
  name : List UInt8
  base : Int
  recs : List (List UInt8)
  groups : List (List UInt8 × Int)
structure zmE where
  l : List zde
  last : List (Int × Int × Int)
def zmM : zmE := ⟨[], List.replicate 8 (0, 0, 0)⟩
abbrev groupD (g : List UInt8 × Int) : List D := [.str g.1, .int .i64 g.2]
abbrev groupsE (l : List (List UInt8 × Int)) : List (List D) := l.map groupD
def zde.next (x : zde) : Int := x.base + x.recs.length
def atF (n : List UInt8) : List zde → Nat → Option Nat
  | [], _ => none
  | x :: r, i => if (x.name == n) = true then some i else atF n r (i + 1)
def lessN (n : List UInt8) : List zde → Nat
  | [] => 0
  | x :: r => if Op.bytesLess x.name n = true then lessN n r + 1 else 0
def lessG (n : List UInt8) : List (List UInt8 × Int) → Nat
  | [] => 0
  | g :: r => if Op.bytesLess g.1 n = true then lessG n r + 1 else 0
def hadG (n : List UInt8) (l : List (List UInt8 × Int)) : Option Int := match l[lessG n l]? with
  | some g => if (g.1 == n) = true then some g.2 else none
  | none => none
abbrev topD (x : zde) : List D := [.str x.name, .int .i64 x.base, .slice (zeE x.recs), .slice (groupsE x.groups)]
abbrev topsE (l : List zde) : List (List D) := l.map topD
abbrev zdw (es : List (List D)) : List AV := es.flatten.map .d
theorem zjr {sz : Nat} : ∀ {es : List (List D)}, (∀ e ∈ es, e.length = sz) → (zdw es).length = es.length * sz
  | [], _ => by simp [zdw]
  | e :: es, h => by
    have h1 := zjr (es := es) fun x hx => h x (List.mem_cons_of_mem _ hx)
    have h2 := h e List.mem_cons_self
    simp only [zdw, List.length_map] at h1
    simp only [zdw, List.flatten_cons, List.map_append, List.length_append, List.length_map, h1, h2, List.length_cons, Nat.add_mul, Nat.one_mul]
    omega
theorem zqb {sz : Nat} : ∀ {es : List (List D)}, (∀ e ∈ es, e.length = sz) → ∀ k, (zdw es).drop (k * sz) = zdw (es.drop k)
  | [], _, k => by simp [zdw]
  | e :: es, h, k => by
    cases k with
    | zero => simp [zdw]
    | succ k =>
      have h1 := zqb (es := es) (fun x hx => h x (List.mem_cons_of_mem _ hx)) k
      have h2 := h e List.mem_cons_self
      have e1 : zdw (e :: es) = e.map .d ++ zdw es := by simp [zdw]
      rw [e1, List.drop_succ_cons, ← h1, List.drop_append, List.length_map, h2, show (k + 1) * sz - sz = k * sz by rw [Nat.add_mul]; omega, List.drop_of_length_le (by rw [List.length_map, h2, Nat.add_mul]; omega)]
      rfl
theorem zos {sz : Nat} {es : List (List D)} (h : ∀ e ∈ es, e.length = sz) {k : Nat} {e : List D} (he : es[k]? = some e) : ((zdw es).drop (k * sz)).take sz = e.map .d := by
  have hk : k < es.length := (List.getElem?_eq_some_iff.1 he).1
  have hl := h e (List.mem_of_getElem? he)
  rw [zqb h, List.drop_eq_getElem_cons hk, (List.getElem?_eq_some_iff.1 he).2]
  simp only [zdw, List.flatten_cons, List.map_append]
  rw [List.take_append_of_le_length (by rw [List.length_map, hl]; exact Nat.le_refl _), List.take_of_length_le (by rw [List.length_map, hl]; exact Nat.le_refl _)]
theorem zmm {sz : Nat} {es : List (List D)} (h : ∀ e ∈ es, e.length = sz) {k i : Nat} {e : List D} (he : es[k]? = some e) (hi : i < sz) : (zdw es)[k * sz + i]? = (e[i]?).map .d := by
  have h1 := zos h he
  have h2 : (((zdw es).drop (k * sz)).take sz)[i]? = (zdw es)[k * sz + i]? := by rw [List.getElem?_take, if_pos hi, List.getElem?_drop]
  rw [← h2, h1, List.getElem?_map]
structure TopI (x : zde) : Prop where
  base : 0 ≤ x.base
  next : x.next ≤ 9007199254740992
  recs : x.recs.length ≤ 64
  groups : x.groups.length ≤ 8
  name : x.name.length ≤ 64
  each : ∀ r ∈ x.recs, r.length ≤ 64
  gs : ∀ g ∈ x.groups, g.1.length ≤ 64 ∧ 0 ≤ g.2 ∧ g.2 ≤ 9007199254740992
structure TopsI (T : zmE) : Prop where
  len : T.l.length ≤ 8
  tops : ∀ x ∈ T.l, TopI x
theorem TopsI.none : TopsI zmM := ⟨by simp [zmM], by simp [zmM]⟩
def groupB (g : List UInt8 × Int) : List UInt8 := putB g.1 ++ zdC g.2.toNat
def groupsB (l : List (List UInt8 × Int)) : List UInt8 := (l.map groupB).flatten
def topB (x : zde) : List UInt8 := putB x.name ++ (zdC x.base.toNat ++ (zdC x.recs.length ++ (znp x.recs ++ (zdC x.groups.length ++ groupsB x.groups))))
def topsBl (l : List zde) : List UInt8 := (l.map topB).flatten
def lastB (a : Int × Int × Int) : List UInt8 := zdC a.1.toNat ++ (zdC a.2.1.toNat ++ zdC a.2.2.toNat)
def lastsB (l : List (Int × Int × Int)) : List UInt8 := (l.map lastB).flatten
def topsB (T : zmE) : List UInt8 := zdC T.l.length ++ (topsBl T.l ++ lastsB T.last)
def LastI (l : List (Int × Int × Int)) : Prop := ∀ a ∈ l, (0 ≤ a.1 ∧ a.1 ≤ 9007199254740992) ∧ (0 ≤ a.2.1 ∧ a.2.1 ≤ 9007199254740992) ∧ (0 ≤ a.2.2 ∧ a.2.2 ≤ 9007199254740992)
def PlI (p : ziD) : Prop := 0 ≤ p.offset ∧ p.offset ≤ 9007199254740992 ∧ p.topic.length ≤ 64 ∧ p.rec_.length ≤ 64
end Go.AW
