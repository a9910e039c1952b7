/- Contracts: the document's topics: where one stands; one is made. -/
import Derived.Test.YthpnelbciibjeaaGreatSpMap
import Derived.Test.YthpnelbciibjeaaGreatSpTop
import Derived.Test.YthpnelbciibjeaaGreatOp1
import Derived.Test.YthpnelbciibjeaaGreatSpChk
set_option linter.all false
set_option maxRecDepth 100000
set_option linter.unusedSimpArgs false
set_option linter.unusedVariables false
namespace Go.Proofs.YthpnelbciibjeaaGreat
open Go.AW

def zcZ : List (Int × Int × Int) → List AV
  | [] => []
  | a :: r => .d (.int .i64 a.1) :: .d (.int .i64 a.2.1) :: .d (.int .i64 a.2.2) :: zcZ r
structure znD (σ : List zc) (id t g : Nat) (T : zad) : Prop where
  box : σ[id]? = some (.box (.rsl t g 4 0 T.l.length :: zcZ T.last))
  row : σ[t]? = some (.row g 4 (flatA (topsE T.l)))
  last : T.last.length = 8
structure zpW (σ S : List zc) (id : Nat) : Prop where
  len : σ.length ≤ S.length
  get : ∀ (j : Nat) (x : zc), σ[j]? = some x → j ≠ id → (∀ g sz cs, x ≠ .row g sz cs) → S[j]? = some x
theorem zpW.app (σ τ : List zc) (id : Nat) : zpW σ (σ ++ τ) id := ⟨by simp, fun _ _ h _ _ => zg h⟩
theorem zpW.trans {σ S R : List zc} {id : Nat} (h : zpW σ S id) (h' : zpW S R id) : zpW σ R id := ⟨Nat.le_trans h.len h'.len, fun j x hx hj hr => h'.get j x (h.get j x hx hj hr) hj hr⟩
theorem znD.app {σ : List zc} {id t g : Nat} {T : zad} (h : znD σ id t g T) (τ : List zc) : znD (σ ++ τ) id t g T := ⟨zg h.box, zg h.row, h.last⟩


theorem znD.setB {σ : List zc} {id t g j : Nat} {T : zad} {c : List AV} {y : zc} (h : znD σ id t g T) (hj : σ[j]? = some (.box c)) (hne : j ≠ id) : znD (σ.set j y) id t g T :=
  ⟨by rw [List.getElem?_set_ne hne]; exact h.box, by rw [List.getElem?_set_ne (fun e => by subst e; have := h.row; rw [hj] at this; cases this)]; exact h.row, h.last⟩
theorem zpW.setB {σ τ S : List zc} {id j : Nat} {y : zc} (h : zpW (σ ++ τ) S id) (hj : σ.length ≤ j) : zpW σ (S.set j y) id :=
  ⟨by have := h.len; simp at this ⊢; omega, fun i x hx hi hr => by
    have := zn hx
    rw [List.getElem?_set_ne (by omega)]
    exact h.get i x (zg hx) hi hr⟩

theorem zhV : ∀ l : List (Int × Int × Int), (zcZ l).length = l.length * 3
  | [] => rfl
  | a :: l => by simp [zcZ, zhV l]; omega
theorem zmU : ∀ {l : List (Int × Int × Int)} {k : Nat} {a : Int × Int × Int}, l[k]? = some a → ((zcZ l).drop (k * 3)).take 3 = [.d (.int .i64 a.1), .d (.int .i64 a.2.1), .d (.int .i64 a.2.2)]
  | [], k, a, h => by simp at h
  | b :: l, 0, a, h => by simp at h; subst h; simp [zcZ]
  | b :: l, k + 1, a, h => by
    have := zmU (l := l) (k := k) (a := a) (by simpa using h)
    rw [show (k + 1) * 3 = k * 3 + 1 + 1 + 1 by omega]
    simpa [zcZ] using this
theorem lastC_set : ∀ {l : List (Int × Int × Int)} {k : Nat} (a : Int × Int × Int), k < l.length → (zcZ l).take (k * 3) ++ (.d (.int .i64 a.1) :: .d (.int .i64 a.2.1) :: .d (.int .i64 a.2.2) :: (zcZ l).drop (k * 3 + 3)) = zcZ (l.set k a)
  | [], k, a, h => by simp at h
  | b :: l, 0, a, h => by simp [zcZ]
  | b :: l, k + 1, a, h => by
    have := lastC_set (l := l) (k := k) a (by simpa using h)
    rw [show (k + 1) * 3 = k * 3 + 1 + 1 + 1 by omega, show k * 3 + 1 + 1 + 1 + 3 = (k * 3 + 3) + 1 + 1 + 1 by omega]
    simpa [zcZ] using this
abbrev reqAg (c tm : Int) (o : TOp) : AV := .agg [.d (.int .i64 c), .d (.int .i64 tm), .d (.int .i64 o.kind), .d (.str o.topic), .d (.str o.group), .d (.int .i64 o.offset), .d (.slice (zby o.recs))]


theorem zmt {T : zad} (hI : zcD T) (hL : zgO T.last) (h8 : T.last.length = 8) : (zbq T).length ≤ 1000000 := by
  have h1 := zof hI.tops
  have h2 := zow hL
  have h3 := hI.len
  have h4 := zo (n := T.l.length) (by omega)
  simp only [zbq, List.length_append]
  omega
abbrev zjn : zbZ := ⟨0, 0, 0, 0, 0⟩
def zmg (L : List (List UInt8)) : zbZ × Int × List (List UInt8) :=
  let r := rootF L []
  let L2 := zee r.2 (zbq zbb)
  if r.1 = 0 ∨ zex r.2 (zbq zbb) = 0 then (zjn, 6, L2) else (⟨0, 0, 0, r.1, zex r.2 (zbq zbb)⟩, 0, L2)

structure ExecR where
  e : Int
  h : zbZ
  p : List zcs
  L : List (List UInt8)
  T : zad
def zha (L : List (List UInt8)) (T : zad) (h : zbZ) (b : List zf) : ExecR :=
  if zaQ h ≠ 0 then ⟨zaQ h, zjn, [], L, T⟩
  else if h.seq = 9007199254740992 then ⟨6, zjn, [], L, T⟩
  else if digE L b ≠ 0 then ⟨digE L b, zjn, [], zdF L b, T⟩
  else if hdigE (zdF L b) h ≠ 0 then ⟨hdigE (zdF L b) h, zjn, [], zdh (zdF L b) h, T⟩
  else
    let L2 := zdh (zdF L b) h
    let a := zm T b
    let r := rootF L2 (a.1.map zaH)
    let d := zex r.2 (zbq a.2)
    if r.1 = 0 ∨ d = 0 then ⟨6, zjn, [], zee r.2 (zbq a.2), a.2⟩
    else ⟨0, ⟨h.seq + 1, zmY (zdF L b) h, zoI L b, r.1, d⟩, a.1, zee r.2 (zbq a.2), a.2⟩
structure Stays2 (σ S : List zc) (id tid : Nat) : Prop where
  len : σ.length ≤ S.length
  get : ∀ (j : Nat) (x : zc), σ[j]? = some x → j ≠ id → j ≠ tid → (∀ g sz cs, x ≠ .row g sz cs) → S[j]? = some x
theorem Stays2.app {σ : List zc} {id tid : Nat} (X : zc) (τ : List zc) : Stays2 σ (σ.set id X ++ τ) id tid :=
  ⟨by simp, fun j x hx h1 h2 h3 => zg ((List.getElem?_set_ne (Ne.symm h1)).trans hx)⟩
structure ExJ (σ : List zc) (n tid : Nat) (H P : zc) (A : List zcs × zad) (N : List (List D)) (S : List zc) (t g : Nat) : Prop where
  top : znD S tid t g A.2
  hb : S[n]? = some H
  zb : S[n + 1]? = some (.box [.d (.int .i64 0), .d (.int .i64 0), .d (.int .i64 0), .d (.int .i64 0), .d (.int .i64 0)])
  pb : S[n + 2]? = some P
  m : S[n + 3]? = some (.tok 3 A.1.length)
  k : S[n + 4]? = some (.tok 5 N.length)
  rest : ∀ (j : Nat) (x : zc), σ[j]? = some x → j ≠ tid → (∀ g sz cs, x ≠ .row g sz cs) → S[j]? = some x
theorem zpL {L : List (List UInt8)} {l : List zf} (h : digE L l = 0) : l.length ≤ 4 := by
  unfold digE zh at h
  by_cases hl : l.length > 4
  · rw [if_pos hl] at h; simp at h
  · omega
theorem placedB_len' {p : zcs} (h : PlI p) : (zaH p).length ≤ 1073740000 := by
  have h1 := h.2.2.1; have h2 := h.2.2.2
  have h3 := zo (n := p.offset.toNat) (by have := h.2.1; omega)
  have h4 := zo (n := p.topic.length) (by omega)
  have h5 := zo (n := p.rec_.length) (by omega)
  simp only [zaH, ziU, List.length_append]
  omega
end Go.Proofs.YthpnelbciibjeaaGreat
