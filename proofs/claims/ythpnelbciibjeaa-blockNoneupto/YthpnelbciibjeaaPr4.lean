/- Contracts: votes and certificates, the document's. -/
import Derived.Test.YthpnelbciibjeaaPo1
import Derived.Test.YthpnelbciibjeaaSpUtf
import Derived.Test.YthpnelbciibjeaaMk3
import Derived.Test.YthpnelbciibjeaaOp1
import Derived.Test.YthpnelbciibjeaaHd2
import Derived.Test.YthpnelbciibjeaaAwEnd
import Derived.Test.YthpnelbciibjeaaSpTake
import Derived.Test.YthpnelbciibjeaaOpC
import Derived.Test.YthpnelbciibjeaaAwAll
set_option linter.all false
set_option maxRecDepth 100000
set_option linter.unusedSimpArgs false
set_option linter.unusedVariables false
namespace Go.Proofs.Ythpnelbciibjeaa
open Go.AW

end Go.Proofs.Ythpnelbciibjeaa

/- Checkpoints' certificates: which are valid. No program in sight. -/
set_option linter.unusedSimpArgs false
set_option linter.unusedVariables false
namespace Go.AW

end Go.AW

/- Contracts: checkpoints' certificates, on both sides. -/
set_option maxRecDepth 100000
set_option linter.unusedSimpArgs false
set_option linter.unusedVariables false
namespace Go.Proofs.Ythpnelbciibjeaa
open Go.AW



structure smallPf (p : TProof) : Prop where
  topic : p.topic.length ≤ 16777216
  rec_ : p.rec_.length ≤ 16777216
  headers : p.headers.length ≤ 1073741824
  path : p.path.length ≤ 1073741824
  signs : p.cert.signs.length ≤ 1073741824
  off : i64r p.offset
  index : i64r p.index
  count : i64r p.count
  paths : ∀ x ∈ p.path, i64r x


end Go.Proofs.Ythpnelbciibjeaa

/- Maps keyed by integers: what is found after a put. -/
set_option linter.unusedSimpArgs false
namespace Go.AW

abbrev ents (l : List (Int × AV)) : List (AV × AV) := l.map fun e => (.d (.int .i64 e.1), e.2)
end Go.AW

/- Contracts: certificates that are kept. -/
set_option maxRecDepth 100000
set_option linter.unusedSimpArgs false
set_option linter.unusedVariables false
namespace Go.Proofs.Ythpnelbciibjeaa
open Go.AW

abbrev hE (l : List (Int × TPrep)) : List (AV × AV) := ents (l.map fun e => (e.1, prepA e.2))
structure HeldAt (σ : List zc) (h m : Nat) (l : List (Int × TPrep)) : Prop where
  box : σ[h]? = some (.box [.map m])
  map : σ[m]? = some (.map (hE l))
theorem HeldAt.app {σ : List zc} {h m : Nat} {l : List (Int × TPrep)} (H : HeldAt σ h m l) (τ : List zc) : HeldAt (σ ++ τ) h m l := ⟨zf H.box, zf H.map⟩

theorem zoj {σ : List zc} {l : List UInt8} (hn : l.length ≤ 1073741824) {K : AV → List zc → Prop} (hK : K (.d (.slice (bcs l))) σ) : zj Try.prog zO [.d (.slice (bcs l))] σ K := by
  refine zhr zes fun hl => ?_
  have hlen := zbN l
  have h2 : ∀ e ∈ bcs l, e.length = 1 := zfL
  simp only [zbR, iN, bT, bF, eN, zaI, zfm]
  obtain ⟨es, hes⟩ : ∃ es, bcs l = es := ⟨_, rfl⟩
  rw [hes] at hlen h2 hK ⊢
  cases es with
  | nil =>
    refine ⟨?_, ?_⟩
    · refine gq1 ?_
      refine zbD hl ?_
      exact hK
    · refine gq1 ?_
      refine zbD hl ?_
      exact hK
  | cons e es =>
    simp only [zah, zF, zA, zaw, rep, zq, zgN, zan, zJ, zfQ]
    refine ⟨h2, by simp, by rw [hlen]; simp; omega, ?_⟩
    refine zbD hl ?_
    exact hK


def zcE : List (Int × Int × Int) → List AV
  | [] => []
  | a :: r => .d (.int .i64 a.1) :: .d (.int .i64 a.2.1) :: .d (.int .i64 a.2.2) :: zcE r
structure zmh (σ : List zc) (id t g : Nat) (T : zaq) : Prop where
  box : σ[id]? = some (.box (.rsl t g 4 0 T.l.length :: zcE T.last))
  row : σ[t]? = some (.row g 4 (flatA (topsE T.l)))
  last : T.last.length = 8
structure zop (σ S : List zc) (id : Nat) : Prop where
  len : σ.length ≤ S.length
  get : ∀ (j : Nat) (x : zc), σ[j]? = some x → j ≠ id → (∀ g sz cs, x ≠ .row g sz cs) → S[j]? = some x
theorem zop.app (σ τ : List zc) (id : Nat) : zop σ (σ ++ τ) id := ⟨by simp, fun _ _ h _ _ => zf h⟩
theorem zop.trans {σ S R : List zc} {id : Nat} (h : zop σ S id) (h' : zop S R id) : zop σ R id := ⟨Nat.le_trans h.len h'.len, fun j x hx hj hr => h'.get j x (h.get j x hx hj hr) hj hr⟩
theorem zmh.app {σ : List zc} {id t g : Nat} {T : zaq} (h : zmh σ id t g T) (τ : List zc) : zmh (σ ++ τ) id t g T := ⟨zf h.box, zf h.row, h.last⟩


theorem zmh.setB {σ : List zc} {id t g j : Nat} {T : zaq} {c : List AV} {y : zc} (h : zmh σ id t g T) (hj : σ[j]? = some (.box c)) (hne : j ≠ id) : zmh (σ.set j y) id t g T :=
  ⟨by rw [List.getElem?_set_ne hne]; exact h.box, by rw [List.getElem?_set_ne (fun e => by subst e; have := h.row; rw [hj] at this; cases this)]; exact h.row, h.last⟩
theorem zop.setB {σ τ S : List zc} {id j : Nat} {y : zc} (h : zop (σ ++ τ) S id) (hj : σ.length ≤ j) : zop σ (S.set j y) id :=
  ⟨by have := h.len; simp at this ⊢; omega, fun i x hx hi hr => by
    have := zl hx
    rw [List.getElem?_set_ne (by omega)]
    exact h.get i x (zf hx) hi hr⟩

theorem zhg : ∀ l : List (Int × Int × Int), (zcE l).length = l.length * 3
  | [] => rfl
  | a :: l => by simp [zcE, zhg l]; omega
theorem zlG : ∀ {l : List (Int × Int × Int)} {k : Nat} {a : Int × Int × Int}, l[k]? = some a → ((zcE l).drop (k * 3)).take 3 = [.d (.int .i64 a.1), .d (.int .i64 a.2.1), .d (.int .i64 a.2.2)]
  | [], k, a, h => by simp at h
  | b :: l, 0, a, h => by simp at h; subst h; simp [zcE]
  | b :: l, k + 1, a, h => by
    have := zlG (l := l) (k := k) (a := a) (by simpa using h)
    rw [show (k + 1) * 3 = k * 3 + 1 + 1 + 1 by omega]
    simpa [zcE] using this
theorem lastC_set : ∀ {l : List (Int × Int × Int)} {k : Nat} (a : Int × Int × Int), k < l.length → (zcE l).take (k * 3) ++ (.d (.int .i64 a.1) :: .d (.int .i64 a.2.1) :: .d (.int .i64 a.2.2) :: (zcE l).drop (k * 3 + 3)) = zcE (l.set k a)
  | [], k, a, h => by simp at h
  | b :: l, 0, a, h => by simp [zcE]
  | b :: l, k + 1, a, h => by
    have := lastC_set (l := l) (k := k) a (by simpa using h)
    rw [show (k + 1) * 3 = k * 3 + 1 + 1 + 1 by omega, show k * 3 + 1 + 1 + 1 + 3 = (k * 3 + 3) + 1 + 1 + 1 by omega]
    simpa [zcE] using this
abbrev reqAg (c tm : Int) (o : TOp) : AV := .agg [.d (.int .i64 c), .d (.int .i64 tm), .d (.int .i64 o.kind), .d (.str o.topic), .d (.str o.group), .d (.int .i64 o.offset), .d (.slice (zbK o.recs))]
end Go.Proofs.Ythpnelbciibjeaa
