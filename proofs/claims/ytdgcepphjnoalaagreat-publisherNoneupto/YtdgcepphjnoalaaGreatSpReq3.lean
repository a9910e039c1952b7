/- Bytes of requests and batches say where they end; who is in a ledger. No program in sight. -/
import Derived.Test.YtdgcepphjnoalaaGreatSpTab
import Derived.Test.YtdgcepphjnoalaaGreatId4
import Derived.Test.YtdgcepphjnoalaaGreatCl1
import Derived.Test.YtdgcepphjnoalaaGreatSpPool
import Derived.Test.YtdgcepphjnoalaaGreatCk1
import Derived.Test.YtdgcepphjnoalaaGreatAu3
import Derived.Test.YtdgcepphjnoalaaGreatCk3
import Derived.Test.YtdgcepphjnoalaaGreatPr1
import Derived.Test.YtdgcepphjnoalaaGreatOp2
set_option linter.all false
set_option linter.unusedSimpArgs false
set_option linter.unusedVariables false
namespace Go.AW


def splitA : Nat → Nat → Nat → Nat
  | 0, k, _ => k
  | f + 1, k, n => if k < n - k then splitA f (k * 2) n else k
def zbv (n : Nat) : Nat := if n < 2 then 0 else splitA n 1 n
theorem splitA_lt : ∀ (f k n : Nat), 1 ≤ k → k < n → 1 ≤ splitA f k n ∧ splitA f k n < n
  | 0, k, n, h1, h2 => ⟨h1, h2⟩
  | f + 1, k, n, h1, h2 => by
    simp only [splitA]
    split
    · exact splitA_lt f (k * 2) n (by omega) (by omega)
    · exact ⟨h1, h2⟩
theorem splitF_lt {n : Nat} (h : 2 ≤ n) : 1 ≤ zbv n ∧ zbv n < n := by
  rw [zbv, if_neg (by omega)]
  exact splitA_lt n 1 n (by omega) (by omega)
def leafB (b : List UInt8) : List UInt8 := 0 :: b
def nodeB (l r : Int) : List UInt8 := 1 :: (zdC l.toNat ++ zdC r.toNat)
def zhp : Nat → List (List UInt8) → List (List UInt8) → Int × List (List UInt8)
  | _, L, [] => (zie L [2], zgt L [2])
  | _, L, [x] => (zie L (leafB x), zgt L (leafB x))
  | 0, L, _ => (0, L)
  | f + 1, L, l =>
    let a := zhp f L (l.take (zbv l.length))
    let b := zhp f a.2 (l.drop (zbv l.length))
    (zie b.2 (nodeB a.1 b.1), zgt b.2 (nodeB a.1 b.1))
def rootF (L l : List (List UInt8)) : Int × List (List UInt8) := zhp l.length L l
theorem zjL : ∀ (f g : Nat) (L l : List (List UInt8)), l.length ≤ f → l.length ≤ g → zhp f L l = zhp g L l
  | f, g, L, [], _, _ => by cases f <;> cases g <;> rfl
  | f, g, L, [x], _, _ => by cases f <;> cases g <;> rfl
  | 0, _, L, x :: y :: r, h, _ => by simp at h
  | _, 0, L, x :: y :: r, _, h => by simp at h
  | f + 1, g + 1, L, x :: y :: r, h1, h2 => by
    have hs := splitF_lt (n := (x :: y :: r).length) (by simp)
    have e := zjL f g L ((x :: y :: r).take (zbv (x :: y :: r).length)) (by rw [List.length_take]; omega) (by rw [List.length_take]; omega)
    simp only [zhp, e]
    rw [zjL f g (zhp g L ((x :: y :: r).take (zbv (x :: y :: r).length))).2 ((x :: y :: r).drop (zbv (x :: y :: r).length)) (by rw [List.length_drop]; omega) (by rw [List.length_drop]; omega)]
theorem rootF_2 {L l : List (List UInt8)} (h : 2 ≤ l.length) : rootF L l = (zie (rootF (rootF L (l.take (zbv l.length))).2 (l.drop (zbv l.length))).2 (nodeB (rootF L (l.take (zbv l.length))).1 (rootF (rootF L (l.take (zbv l.length))).2 (l.drop (zbv l.length))).1),
    zgt (rootF (rootF L (l.take (zbv l.length))).2 (l.drop (zbv l.length))).2 (nodeB (rootF L (l.take (zbv l.length))).1 (rootF (rootF L (l.take (zbv l.length))).2 (l.drop (zbv l.length))).1)) := by
  have hs := splitF_lt h
  have h1 : (l.take (zbv l.length)).length = zbv l.length := by rw [List.length_take]; omega
  have h2 : (l.drop (zbv l.length)).length = l.length - zbv l.length := List.length_drop
  obtain ⟨m, hm⟩ : ∃ m, l.length = m + 1 := ⟨l.length - 1, by omega⟩
  have e : ∀ l : List (List UInt8), 2 ≤ l.length → ∀ m, zhp (m + 1) L l = (zie (zhp m (zhp m L (l.take (zbv l.length))).2 (l.drop (zbv l.length))).2 (nodeB (zhp m L (l.take (zbv l.length))).1 (zhp m (zhp m L (l.take (zbv l.length))).2 (l.drop (zbv l.length))).1), zgt (zhp m (zhp m L (l.take (zbv l.length))).2 (l.drop (zbv l.length))).2 (nodeB (zhp m L (l.take (zbv l.length))).1 (zhp m (zhp m L (l.take (zbv l.length))).2 (l.drop (zbv l.length))).1)) := by
    intro l hl m
    match l, hl with
    | x :: y :: r, _ => simp only [zhp]
  have f1 := zjL m (l.take (zbv l.length)).length L (l.take (zbv l.length)) (by omega) (Nat.le_refl _)
  have f2 := fun L' => zjL m (l.drop (zbv l.length)).length L' (l.drop (zbv l.length)) (by omega) (Nat.le_refl _)
  have f0 : zhp l.length L l = zhp (m + 1) L l := by rw [hm]
  unfold rootF
  rw [f0, e l h m, f1, f2]
theorem rootF_0 (L : List (List UInt8)) : rootF L [] = (zie L [2], zgt L [2]) := rfl
theorem rootF_1 (L : List (List UInt8)) (x : List UInt8) : rootF L [x] = (zie L (leafB x), zgt L (leafB x)) := rfl
end Go.AW

/- Contracts: where a list is parted, how long a proof is, leaves and nodes, on both sides. -/
set_option maxRecDepth 100000
set_option linter.unusedSimpArgs false
set_option linter.unusedVariables false
namespace Go.Proofs.YtdgcepphjnoalaaGreat
open Go.AW






structure smallPl (p : ziD) : Prop where
  off : zkj p.offset
  topic : p.topic.length ≤ 16777216
  rec_ : p.rec_.length ≤ 16777216

end Go.Proofs.YtdgcepphjnoalaaGreat

/- The proof of a record in blocks. No program in sight. -/
set_option linter.unusedSimpArgs false
set_option linter.unusedVariables false
namespace Go.AW

structure ziK where
  header : zpc
  batch : List zt
  placed : List ziD
end Go.AW

/- Contracts: the proof of a record: where it stands, which headers lead to the certificate; on both sides. -/
set_option maxRecDepth 100000
set_option linter.unusedSimpArgs false
set_option linter.unusedVariables false
namespace Go.Proofs.YtdgcepphjnoalaaGreat
open Go.AW

structure smallBk (b : ziK) : Prop where
  seq : zkj b.header.seq
  len : b.placed.length ≤ 1048576
  each : ∀ p ∈ b.placed, smallPl p
end Go.Proofs.YtdgcepphjnoalaaGreat

/- Checkpoints' certificates: which are valid. No program in sight. -/
set_option linter.unusedSimpArgs false
set_option linter.unusedVariables false
namespace Go.AW

end Go.AW

/- Contracts: checkpoints' certificates, on both sides. -/
set_option maxRecDepth 100000
set_option linter.unusedSimpArgs false
set_option linter.unusedVariables false
namespace Go.Proofs.YtdgcepphjnoalaaGreat
open Go.AW






def lastC : List (Int × Int × Int) → List AV
  | [] => []
  | a :: r => .d (.int .i64 a.1) :: .d (.int .i64 a.2.1) :: .d (.int .i64 a.2.2) :: lastC r
structure TopsAt (σ : List zc) (id t g : Nat) (T : zmE) : Prop where
  box : σ[id]? = some (.box (.rsl t g 4 0 T.l.length :: lastC T.last))
  row : σ[t]? = some (.row g 4 (zdw (topsE T.l)))
  last : T.last.length = 8
structure Stays (σ S : List zc) (id : Nat) : Prop where
  len : σ.length ≤ S.length
  get : ∀ (j : Nat) (x : zc), σ[j]? = some x → j ≠ id → (∀ g sz cs, x ≠ .row g sz cs) → S[j]? = some x
theorem Stays.app (σ τ : List zc) (id : Nat) : Stays σ (σ ++ τ) id := ⟨by simp, fun _ _ h _ _ => zy h⟩
theorem Stays.trans {σ S R : List zc} {id : Nat} (h : Stays σ S id) (h' : Stays S R id) : Stays σ R id := ⟨Nat.le_trans h.len h'.len, fun j x hx hj hr => h'.get j x (h.get j x hx hj hr) hj hr⟩
theorem TopsAt.app {σ : List zc} {id t g : Nat} {T : zmE} (h : TopsAt σ id t g T) (τ : List zc) : TopsAt (σ ++ τ) id t g T := ⟨zy h.box, zy h.row, h.last⟩





abbrev zeroH : zpc := ⟨0, 0, 0, 0, 0⟩
def genF (L : List (List UInt8)) : zpc × Int × List (List UInt8) :=
  let r := rootF L []
  let L2 := zgt r.2 (topsB zmM)
  if r.1 = 0 ∨ zie r.2 (topsB zmM) = 0 then (zeroH, 6, L2) else (⟨0, 0, 0, r.1, zie r.2 (topsB zmM)⟩, 0, L2)

structure ExecR where
  e : Int
  h : zpc
  p : List ziD
  L : List (List UInt8)
  T : zmE
structure Stays2 (σ S : List zc) (id tid : Nat) : Prop where
  len : σ.length ≤ S.length
  get : ∀ (j : Nat) (x : zc), σ[j]? = some x → j ≠ id → j ≠ tid → (∀ g sz cs, x ≠ .row g sz cs) → S[j]? = some x
theorem Stays2.app {σ : List zc} {id tid : Nat} (X : zc) (τ : List zc) : Stays2 σ (σ.set id X ++ τ) id tid :=
  ⟨by simp, fun j x hx h1 h2 h3 => zy ((List.getElem?_set_ne (Ne.symm h1)).trans hx)⟩
structure ExJ (σ : List zc) (n tid : Nat) (H P : zc) (A : List ziD × zmE) (N : List (List D)) (S : List zc) (t g : Nat) : Prop where
  top : TopsAt S tid t g A.2
  hb : S[n]? = some H
  zb : S[n + 1]? = some (.box [.d (.int .i64 0), .d (.int .i64 0), .d (.int .i64 0), .d (.int .i64 0), .d (.int .i64 0)])
  pb : S[n + 2]? = some P
  m : S[n + 3]? = some (.tok 3 A.1.length)
  k : S[n + 4]? = some (.tok 5 N.length)
  rest : ∀ (j : Nat) (x : zc), σ[j]? = some x → j ≠ tid → (∀ g sz cs, x ≠ .row g sz cs) → S[j]? = some x
end Go.Proofs.YtdgcepphjnoalaaGreat
