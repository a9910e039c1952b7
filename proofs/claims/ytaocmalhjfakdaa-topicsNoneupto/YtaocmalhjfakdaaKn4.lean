/- Contracts: a request that publishes one record lying in a row. -/
import Derived.Test.YtaocmalhjfakdaaKn3
set_option linter.all false
set_option maxRecDepth 100000
set_option linter.unusedSimpArgs false
set_option linter.unusedVariables false
namespace Go.Proofs.Ytaocmalhjfakdaa
open Go.AW

structure ToldR (S : List zb) (n : List UInt8) (o : Int) (r : List UInt8) (pr gp cr gc : Nat) : Prop where
  ne : pr ≠ cr
  p : S[pr]? = some (.row gp 3 [.d (.str n), .d (.int .i64 o), .rsl cr gc 1 0 r.length])
  c : S[cr]? = some (.row gc 1 (byN r))
abbrev opR (n g : List UInt8) (off : Int) (tr gr : Nat) : List AV := [.d (.int .i64 2), .d (.str n), .d (.str g), .d (.int .i64 off), .rsl tr gr 1 0 1]
def pubT (T : zav) (k : Nat) (y : zV) (r : List UInt8) : zav := { T with l := T.l.set k { y with recs := y.recs ++ [r] } }
theorem frz_d (σ : List zb) (n : Nat) (x : D) : ∀ m, frz σ n m (.d x) = some x
  | 0 => rfl
  | _ + 1 => rfl
section

variable {σ : List zb} {id : Nat} {T : zav} {O : Nat → Prop} {K : AV → List zb → Prop}

theorem c_doesR {n g : List UInt8} {off : Int} {tr gr tm gm k : Nat} {y : zV} {r : List UInt8} (hT : zey σ id T O) (hI : zeH T) (hk : atF n T.l 0 = some k) (hy : T.l[k]? = some y) (hrl : y.recs.length + 1 ≤ 64) (hnx : y.next + 1 ≤ 9007199254740992)
    (h0 : 0 < r.length) (hr : r.length ≤ 64) (hrow : σ[tr]? = some (.row gr 1 [.rsl tm gm 1 0 r.length])) (hrec : σ[tm]? = some (.row gm 1 (byN r)))
    (hc : zaB zdm ⟨2, n, g, off, [r]⟩ = 0) (hn : n.length ≤ 1073741824) (hg : g.length ≤ 1073741824)
    (hK : ∀ S pr gp cr gc, After σ id (pubT T k y r) O S → σ.length ≤ pr → σ.length ≤ cr → ToldR S n y.next r pr gp cr gc → K (.tup [.agg [.d (.int .i64 0), .d (.int .i64 y.next)], .rsl pr gp 3 0 1]) S) :
    zi Try.prog zap [.box id 0, .agg (opR n g off tr gr)] σ K := by
  refine zaC zdb.is rfl fun hl _ => zdb.goes ?_
  simp only [zdg, iN, bT, bF, eN]
  refine gq1 ?_
  refine zi.lend (as' := [opA ⟨2, n, g, off, [r]⟩]) 3 ?_ (c_Check hn hg (by simp) ?_)
  · have hrow' := zf (τ := [zb.box (opR n g off tr gr), .box [.d (.int .i64 0), .d (.int .i64 0)]]) hrow
    have hrec' := zf (τ := [zb.box (opR n g off tr gr), .box [.d (.int .i64 0), .d (.int .i64 0)]]) hrec
    have e := ziN (n₀ := 0) (m := 0) hrec' (Nat.zero_le _)
    have e2 : frz (σ ++ [zb.box (opR n g off tr gr), .box [.d (.int .i64 0), .d (.int .i64 0)]]) 0 3 (.rsl tr gr 1 0 1) = some (.slice [[.slice (bcs r)]]) := by
      rw [frz, hrow']
      simp only [Nat.zero_le, and_self, if_true, Nat.zero_mul, List.drop_zero, Nat.sub_zero, Nat.mul_one, List.take_succ_cons, List.take_zero, List.map_cons, List.map_nil, e, allO, zah, List.drop_succ_cons]
    simp only [List.map_cons, List.map_nil, frz1, e2, frz_d, allO, opA, zbx]
  rw [hc]
  refine ⟨rfl, rfl, ?_⟩
  refine zaZ (zk (show ((0 : Int) == 0) = true from rfl) (zk (show ((2 : Int) == 1) = false from rfl) (show ((2 : Int) == 2) = true from rfl))) ?_
  refine c_pubR (hT.app _) hI hk hy hrl hnx h0 hr (zf hrow) (zf hrec) fun S pr gp cr gc hS h1 h2 h3 h4 h5 => ?_
  have g1 := hS.at_ hT (j := σ.length + 1) (by omega) (by simp)
  rw [zB] at g1
  have g2 : ∀ Y, (S.set (σ.length + 1) Y)[σ.length + 1]? = some Y := fun Y => List.getElem?_set_self (zF g1)
  simp at h1 h2
  refine zaZ (zk g1 (zk g2 (show ((0 : Int) != 0) = false from rfl))) ?_
  exact zaR (hK _ pr gp cr gc (hS.setB hT (j := σ.length + 1) (by omega) (by simp) _) (by omega) (by omega) ⟨h3, (List.getElem?_set_ne (by omega)).trans h4, (List.getElem?_set_ne (by omega)).trans h5⟩)
end

end Go.Proofs.Ytaocmalhjfakdaa
