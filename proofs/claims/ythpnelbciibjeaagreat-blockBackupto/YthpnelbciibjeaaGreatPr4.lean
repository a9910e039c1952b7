/- Contracts: votes and certificates, the document's. -/
import Derived.Test.YthpnelbciibjeaaGreatPo1
import Derived.Test.YthpnelbciibjeaaGreatSpUtf
import Derived.Test.YthpnelbciibjeaaGreatMk3
import Derived.Test.YthpnelbciibjeaaGreatOp1
import Derived.Test.YthpnelbciibjeaaGreatHd2
import Derived.Test.YthpnelbciibjeaaGreatAwEnd
import Derived.Test.YthpnelbciibjeaaGreatSpTake
import Derived.Test.YthpnelbciibjeaaGreatOpC
import Derived.Test.YthpnelbciibjeaaGreatAwAll
set_option linter.all false
set_option maxRecDepth 100000
set_option linter.unusedSimpArgs false
set_option linter.unusedVariables false
namespace Go.Proofs.YthpnelbciibjeaaGreat
open Go.AW

end Go.Proofs.YthpnelbciibjeaaGreat

/- Checkpoints' certificates: which are valid. No program in sight. -/
set_option linter.unusedSimpArgs false
set_option linter.unusedVariables false
namespace Go.AW

end Go.AW

/- Contracts: checkpoints' certificates, on both sides. -/
set_option maxRecDepth 100000
set_option linter.unusedSimpArgs false
set_option linter.unusedVariables false
namespace Go.Proofs.YthpnelbciibjeaaGreat
open Go.AW



structure smallPf (p : TProof) : Prop where
  topic : p.topic.length ≤ 16777216
  rec_ : p.rec_.length ≤ 16777216
  headers : p.headers.length ≤ 1073741824
  path : p.path.length ≤ 1073741824
  signs : p.cert.signs.length ≤ 1073741824
  off : i64r p.offset
  index : i64r p.index
  count : i64r p.count
  paths : ∀ x ∈ p.path, i64r x


end Go.Proofs.YthpnelbciibjeaaGreat

/- Maps keyed by integers: what is found after a put. -/
set_option linter.unusedSimpArgs false
namespace Go.AW

abbrev ents (l : List (Int × AV)) : List (AV × AV) := l.map fun e => (.d (.int .i64 e.1), e.2)
end Go.AW

/- Contracts: certificates that are kept. -/
set_option maxRecDepth 100000
set_option linter.unusedSimpArgs false
set_option linter.unusedVariables false
namespace Go.Proofs.YthpnelbciibjeaaGreat
open Go.AW

abbrev hE (l : List (Int × TPrep)) : List (AV × AV) := ents (l.map fun e => (e.1, prepA e.2))
structure HeldAt (σ : List zc) (h m : Nat) (l : List (Int × TPrep)) : Prop where
  box : σ[h]? = some (.box [.map m])
  map : σ[m]? = some (.map (hE l))
theorem HeldAt.app {σ : List zc} {h m : Nat} {l : List (Int × TPrep)} (H : HeldAt σ h m l) (τ : List zc) : HeldAt (σ ++ τ) h m l := ⟨zf H.box, zf H.map⟩

theorem zoT {σ : List zc} {l : List UInt8} (hn : l.length ≤ 1073741824) {K : AV → List zc → Prop} (hK : K (.d (.slice (bcs l))) σ) : zt Tryz.prog zP [.d (.slice (bcs l))] σ K := by
  refine ziI zes fun hl => ?_
  have hlen := zaN l
  have h2 : ∀ e ∈ bcs l, e.length = 1 := zdo
  simp only [zbO, iN, bT, bF, eN, zay, zeU]
  obtain ⟨es, hes⟩ : ∃ es, bcs l = es := ⟨_, rfl⟩
  rw [hes] at hlen h2 hK ⊢
  cases es with
  | nil =>
    refine ⟨?_, ?_⟩
    · refine gq1 ?_
      refine zcg hl ?_
      exact hK
    · refine gq1 ?_
      refine zcg hl ?_
      exact hK
  | cons e es =>
    simp only [zW, zC, zA, zat, rep, zn, zgz, zae, zI, zfI]
    refine ⟨h2, by simp, by rw [hlen]; simp; omega, ?_⟩
    refine zcg hl ?_
    exact hK


def zcF : List (Int × Int × Int) → List AV
  | [] => []
  | a :: r => .d (.int .i64 a.1) :: .d (.int .i64 a.2.1) :: .d (.int .i64 a.2.2) :: zcF r
structure zmP (σ : List zc) (id t g : Nat) (T : zao) : Prop where
  box : σ[id]? = some (.box (.rsl t g 4 0 T.l.length :: zcF T.last))
  row : σ[t]? = some (.row g 4 (flatA (topsE T.l)))
  last : T.last.length = 8
structure zoY (σ S : List zc) (id : Nat) : Prop where
  len : σ.length ≤ S.length
  get : ∀ (j : Nat) (x : zc), σ[j]? = some x → j ≠ id → (∀ g sz cs, x ≠ .row g sz cs) → S[j]? = some x
theorem zoY.app (σ τ : List zc) (id : Nat) : zoY σ (σ ++ τ) id := ⟨by simp, fun _ _ h _ _ => zf h⟩
theorem zoY.trans {σ S R : List zc} {id : Nat} (h : zoY σ S id) (h' : zoY S R id) : zoY σ R id := ⟨Nat.le_trans h.len h'.len, fun j x hx hj hr => h'.get j x (h.get j x hx hj hr) hj hr⟩
theorem zmP.app {σ : List zc} {id t g : Nat} {T : zao} (h : zmP σ id t g T) (τ : List zc) : zmP (σ ++ τ) id t g T := ⟨zf h.box, zf h.row, h.last⟩


theorem zmP.setB {σ : List zc} {id t g j : Nat} {T : zao} {c : List AV} {y : zc} (h : zmP σ id t g T) (hj : σ[j]? = some (.box c)) (hne : j ≠ id) : zmP (σ.set j y) id t g T :=
  ⟨by rw [List.getElem?_set_ne hne]; exact h.box, by rw [List.getElem?_set_ne (fun e => by subst e; have := h.row; rw [hj] at this; cases this)]; exact h.row, h.last⟩
theorem zoY.setB {σ τ S : List zc} {id j : Nat} {y : zc} (h : zoY (σ ++ τ) S id) (hj : σ.length ≤ j) : zoY σ (S.set j y) id :=
  ⟨by have := h.len; simp at this ⊢; omega, fun i x hx hi hr => by
    have := zl hx
    rw [List.getElem?_set_ne (by omega)]
    exact h.get i x (zf hx) hi hr⟩

theorem zhl : ∀ l : List (Int × Int × Int), (zcF l).length = l.length * 3
  | [] => rfl
  | a :: l => by simp [zcF, zhl l]; omega
theorem zmm : ∀ {l : List (Int × Int × Int)} {k : Nat} {a : Int × Int × Int}, l[k]? = some a → ((zcF l).drop (k * 3)).take 3 = [.d (.int .i64 a.1), .d (.int .i64 a.2.1), .d (.int .i64 a.2.2)]
  | [], k, a, h => by simp at h
  | b :: l, 0, a, h => by simp at h; subst h; simp [zcF]
  | b :: l, k + 1, a, h => by
    have := zmm (l := l) (k := k) (a := a) (by simpa using h)
    rw [show (k + 1) * 3 = k * 3 + 1 + 1 + 1 by omega]
    simpa [zcF] using this
theorem lastC_set : ∀ {l : List (Int × Int × Int)} {k : Nat} (a : Int × Int × Int), k < l.length → (zcF l).take (k * 3) ++ (.d (.int .i64 a.1) :: .d (.int .i64 a.2.1) :: .d (.int .i64 a.2.2) :: (zcF l).drop (k * 3 + 3)) = zcF (l.set k a)
  | [], k, a, h => by simp at h
  | b :: l, 0, a, h => by simp [zcF]
  | b :: l, k + 1, a, h => by
    have := lastC_set (l := l) (k := k) a (by simpa using h)
    rw [show (k + 1) * 3 = k * 3 + 1 + 1 + 1 by omega, show k * 3 + 1 + 1 + 1 + 3 = (k * 3 + 3) + 1 + 1 + 1 by omega]
    simpa [zcF] using this
abbrev reqAg (c tm : Int) (o : TOp) : AV := .agg [.d (.int .i64 c), .d (.int .i64 tm), .d (.int .i64 o.kind), .d (.str o.topic), .d (.str o.group), .d (.int .i64 o.offset), .d (.slice (zbM o.recs))]
end Go.Proofs.YthpnelbciibjeaaGreat
