/- Contracts: a request that publishes one record lying in a row comes to the topics. -/
import Derived.Test.YtaocmalhjfakdaaKn4
set_option linter.all false
set_option maxRecDepth 100000
set_option linter.unusedSimpArgs false
set_option linter.unusedVariables false
namespace Go.Proofs.Ytaocmalhjfakdaa
open Go.AW

section
variable {σ : List zb} {id : Nat} {T : zav} {O : Nat → Prop} {K : AV → List zb → Prop}
theorem c_applyR {n g : List UInt8} {off t1 : Int} {tr gr tm gm k : Nat} {y : zV} {r : List UInt8} {a : Int × Int × Int} (hT : zey σ id T O) (hI : zeH T) (hk : atF n T.l 0 = some k) (hy : T.l[k]? = some y) (hrl : y.recs.length + 1 ≤ 64) (hnx : y.next + 1 ≤ 9007199254740992)
    (h0 : 0 < r.length) (hr : r.length ≤ 64) (hrow : σ[tr]? = some (.row gr 1 [.rsl tm gm 1 0 r.length])) (hrec : σ[tm]? = some (.row gm 1 (byN r)))
    (hc : zaB zdm ⟨2, n, g, off, [r]⟩ = 0) (hn : n.length ≤ 1073741824) (hg : g.length ≤ 1073741824) (ha : T.last[0]? = some a) (ht : a.1 < t1) (ht0 : 1 ≤ t1) (ht1 : t1 ≤ 9007199254740992)
    (hK : ∀ S pr gp cr gc, After σ id { pubT T k y r with last := T.last.set 0 (t1, 0, y.next) } O S → σ.length ≤ pr → σ.length ≤ cr → ToldR S n y.next r pr gp cr gc → K (.tup [.agg [.d (.int .i64 0), .d (.int .i64 y.next)], .rsl pr gp 3 0 1, .d (.bool true)]) S) :
    zi Try.prog zq [.box id 0, .agg (.d (.int .i64 0) :: .d (.int .i64 t1) :: opR n g off tr gr)] σ K := by
  refine zaC zcq.is rfl fun hl _ => zcq.goes ?_
  obtain ⟨m, hb, hlast⟩ := hT.box
  have hid := zF hb
  have xb : ∀ τ, (σ ++ τ)[id]? = _ := fun τ => zf hb
  have hl3 := ziH ha
  have hl4 : ∀ X : AV, List.take 3 (List.drop (1 + 0 * 3) (X :: zbD T.last)) = [.d (.int .i64 a.1), .d (.int .i64 a.2.1), .d (.int .i64 a.2.2)] := fun X => by
    rw [Nat.add_comm, List.drop_succ_cons]; exact hl3
  have hl1 : ∀ X : AV, (X :: zbD T.last)[1]? = some (.d (.int .i64 a.1)) := fun X => by
    have := congrArg (·[0]?) (hl4 X)
    simpa [List.getElem?_take, List.getElem?_drop] using this
  have c2 : decide (t1 < 1) = false := by simp; omega
  have c3 : decide (t1 > 9007199254740992) = false := by simp; omega
  have c4 : (t1 == a.1) = false := by simp; omega
  have c5 : decide (t1 < a.1) = false := by simp; omega
  simp only [zcu, iN, bT, bF, eN]
  refine gq1 ?_
  refine zkF (xb _) ?_
  refine zaZ (zk xb (zk hl1 (zk c2 (zk c3 (zk c4 (zk c5 (zk (show decide ((0 : Int) < 0) = false from rfl) (show decide ((0 : Int) ≥ 8) = false from rfl)))))))) ?_
  refine c_doesR (hT.app _) hI hk hy hrl hnx h0 hr (zf hrow) (zf hrec) hc hn hg fun S pr gp cr gc hS p1 p2 hTold => ?_
  have g0 := hS.at_ hT (j := σ.length) (by omega) (by simp)
  have g1 := hS.at_ hT (j := σ.length + 1) (by omega) (by simp)
  rw [zu] at g0
  rw [zB] at g1
  obtain ⟨O', hT', hSt, hO'⟩ := hS
  obtain ⟨m', hb', hl8⟩ := hT'.box
  have hDl : (pubT T k y r).last = T.last := rfl
  rw [hDl] at hb' hl8
  have hid' := zF hb'
  have hsl := zF g1
  have q0 : ∀ τ, (S ++ τ)[σ.length]? = _ := fun τ => zf g0
  have q1 : ∀ τ, (S ++ τ)[σ.length + 1]? = _ := fun τ => zf g1
  have qb : ∀ τ, (S ++ τ)[id]? = _ := fun τ => zf hb'
  have qs : ∀ Y τ, (S ++ τ).set id Y = S.set id Y ++ τ := fun Y τ => List.set_append_left _ _ hid'
  have qs1 : ∀ Y τ Z, (S.set id Y ++ τ).set (σ.length + 1) Z = (S.set id Y).set (σ.length + 1) Z ++ τ := fun Y τ Z => List.set_append_left _ _ (by simpa using hsl)
  have r1 : ∀ Y τ, (S.set id Y ++ τ)[σ.length + 1]? = _ := fun Y τ => zf ((List.getElem?_set_ne (by omega)).trans g1)
  have rS : ∀ Y a τ, (S.set id Y ++ a :: τ)[S.length]? = some a := fun Y a τ => by rw [List.getElem?_append_right (by simp)]; simp
  have r1' : ∀ Y τ Z, ((S.set id Y).set (σ.length + 1) Z ++ τ)[σ.length + 1]? = some Z := fun Y τ Z => zf (List.getElem?_set_self (by simpa using hsl))
  have hl5 := zgq T.last
  have hcs : .d (.int .i64 t1) :: .d (.int .i64 0) :: .d (.int .i64 y.next) :: List.drop 3 (zbD T.last) = zbD (T.last.set 0 (t1, 0, y.next)) := by
    have := ziG (l := T.last) (k := 0) (t1, 0, y.next) (by omega)
    simpa only [Nat.zero_mul, Nat.zero_add, List.take_zero, List.nil_append] using this
  refine zaZ (zk q0 (zk q1 (zk qb (zk qs (zk qs1 (zk r1 (zk rS r1'))))))) ?_
  rw [hcs]
  simp only [List.length_append, List.length_cons, List.length_nil] at p1 p2
  have nO : ¬ O' (σ.length + 1) := fun h => (hO' _ h).elim (fun h => by have := hT.own_lt h; omega) (fun h => by simp at h)
  have hp := zF hTold.p; have hcl := zF hTold.c
  have far : ∀ Y Z τ j X, S[j]? = some X → σ.length + 2 ≤ j → ((S.set id Y).set (σ.length + 1) Z ++ τ)[j]? = some X := fun Y Z τ j X h h2 => zf ((List.getElem?_set_ne (by omega)).trans ((List.getElem?_set_ne (by omega)).trans h))
  refine zaR (hK _ pr gp cr gc ⟨O', ((hT'.told hb' (T.last.set 0 (t1, 0, y.next)) (by simpa using hl8)).set nO _).app _, ⟨?_, fun j hj hlt => ?_⟩, fun j hj => (hO' j hj).imp_right fun h => by simp at h; omega⟩ (by omega) (by omega) ⟨hTold.ne, far _ _ _ _ _ hTold.p (by omega), far _ _ _ _ _ hTold.c (by omega)⟩)
  · have := hSt.len
    simp at this ⊢; omega
  · rw [List.getElem?_append_left (by have := hSt.len; simp at this ⊢; omega), List.getElem?_set_ne (by omega), List.getElem?_set_ne (fun e => by subst e; exact hj hT.self)]
    exact (hSt.get j hj (by simp; omega)).trans (List.getElem?_append_left hlt)
end

end Go.Proofs.Ytaocmalhjfakdaa
