/- Contracts: the digest of the document's topics; the first header; a batch is executed. -/
import Derived.Test.YtaocmalhjfakdaaGreatTp5
import Derived.Test.YtaocmalhjfakdaaGreatTq8
set_option linter.all false
set_option maxRecDepth 100000
set_option linter.unusedSimpArgs false
set_option linter.unusedVariables false
namespace Go.Proofs.YtaocmalhjfakdaaGreat
open Go.AW


section
variable {σ : List zc} {id t g : Nat} {T : zak} {K : KT}
theorem zko {T : zak} {k : Nat} {x : zu} (hx : T.l[k]? = some x) : (zT (zaE T.l))[k * 4]? = some (.d (.str x.name)) ∧ (zT (zaE T.l))[k * 4 + 1]? = some (.d (.int .i64 x.base)) ∧ (zT (zaE T.l))[k * 4 + 2]? = some (.d (.slice (zK x.recs))) ∧ (zT (zaE T.l))[k * 4 + 3]? = some (.d (.slice (zW x.groups))) ∧
    List.take 4 (List.drop (k * 4) (zT (zaE T.l))) = (topD x).map .d ∧ k * 4 + 4 ≤ (zaE T.l).flatten.length := by
  have f4 := zbL T.l
  have h0 := zeU (i := 0) f4 (zbo hx) (by omega)
  have h1 := zeU (i := 1) f4 (zbo hx) (by omega)
  have h2 := zeU (i := 2) f4 (zbo hx) (by omega)
  have h3 := zeU (i := 3) f4 (zbo hx) (by omega)
  have hlen : (zT (zaE T.l)).length = T.l.length * 4 := by rw [zdp f4, List.length_map]
  have hl := zd hx
  refine ⟨h0, h1, h2, h3, zhc f4 (zbo hx), ?_⟩
  have : (zaE T.l).flatten.length = T.l.length * 4 := by rw [← hlen, zT, List.length_map]
  omega
theorem c_r7Bounds {n : List UInt8} (hT : zbT σ id t g T) (hI : zed T) (hK : K (.tup [.d (.int .i64 (zcT T n).1), .d (.int .i64 (zcT T n).2.1), .d (.int .i64 (zcT T n).2.2)]) σ) : zn Tryz.prog zdQ [.box id 0, .d (.str n)] σ K := by
  refine znT zjZ fun hl => ?_
  have hb := hT.box; have hr := hT.row
  have hn := hI.len
  simp only [zgs, iN, bT, bF, eN]
  refine zby ?_
  refine c_r7at hT (by omega) ?_
  cases ha : atF n T.l 0 with
  | none =>
    rw [zcT, ha] at hK
    dsimp only
    refine zt (show decide ((-1 : Int) < 0) = true from rfl) ?_
    refine zdv hl ?_
    exact hK
  | some k =>
    obtain ⟨j, x, e1, hx, h2⟩ := zjn ha
    rw [Nat.zero_add] at e1; subst e1
    rw [zcT, ha] at hK
    simp only [hx] at hK
    obtain ⟨c0, c1, c2, c3, c4, c5⟩ := zko hx
    have hlt := zd hx
    have hX := hI.tops x (List.mem_of_getElem? hx)
    have hkd : decide ((k : Int) < (T.l.length : Int)) = true := by simp; omega
    have hk0 : decide ((k : Int) < 0) = false := by simp
    dsimp only
    refine zmq (zb hb (zb hr (zb hk0 (zb hkd (zb c1 (zb c4 c5)))))) ?_
    refine zev (next_ok hX) ?_
    refine zt (zb hb hr) ?_
    refine zdv hl ?_
    exact hK
theorem c_r7Get {n : List UInt8} {o : Int} (hT : zbT σ id t g T) (hI : zed T) (hK : K (.tup [.d (.slice (bcs (getF T n o).1)), .d (.int .i64 (getF T n o).2)]) σ) : zn Tryz.prog zdK [.box id 0, .d (.str n), .d (.int .i64 o)] σ K := by
  refine acE3 zms fun hl => ?_
  have hb := hT.box; have hr := hT.row
  have hn := hI.len
  simp only [zhX, iN, bT, bF, eN]
  refine zby ?_
  refine c_r7at hT (by omega) ?_
  cases ha : atF n T.l 0 with
  | none =>
    rw [getF, ha] at hK
    dsimp only
    refine zt (show decide ((-1 : Int) < 0) = true from rfl) ?_
    refine zdv hl ?_
    exact hK
  | some k =>
    obtain ⟨j, x, e1, hx, h2⟩ := zjn ha
    rw [Nat.zero_add] at e1; subst e1
    rw [getF, ha] at hK
    simp only [hx] at hK
    obtain ⟨c0, c1, c2, c3, c4, c5⟩ := zko hx
    have hlt := zd hx
    have hX := hI.tops x (List.mem_of_getElem? hx)
    have z1 := hX.base; have z2 := hX.next
    have hnx : x.next = x.base + x.recs.length := rfl
    have hlen := zo x.recs
    have hk0 : decide ((k : Int) < 0) = false := by simp
    have hkd : decide ((k : Int) < (T.l.length : Int)) = true := by simp; omega
    dsimp only
    cases d0 : decide (o < x.base)
    rotate_left
    · rw [if_pos (.inl (by simpa using d0))] at hK
      refine zmq (zb hb (zb hr (zb hk0 (zb hkd (zb c1 (zb c4 (zb c5 d0))))))) ?_
      refine zdv hl ?_
      exact hK
    refine zmq (zb hb (zb hr (zb hk0 (zb hkd (zb c1 (zb c4 (zb c5 d0))))))) ?_
    refine zev (next_ok hX) ?_
    cases d1 : decide (o ≥ x.next)
    rotate_left
    · rw [if_pos (.inr (by simpa using d1))] at hK
      refine zt d1 ?_
      refine zdv hl ?_
      exact hK
    have e0 : ¬ o < x.base := by simpa using d0
    have e1 : ¬ x.next ≤ o := by simpa using d1
    rw [if_neg (by omega)] at hK
    have hw : IntKind.i64.wrap (o - x.base) = o - x.base := zam (by omega) (by omega)
    obtain ⟨r, hr'⟩ : ∃ r, x.recs[(o - x.base).toNat]? = some r := ⟨_, List.getElem?_eq_getElem (by omega)⟩
    rw [List.getD_eq_getElem?_getD, hr'] at hK
    have hge : decide (o - x.base < (x.recs.length : Int)) = true := by simp; omega
    have hge0 : decide (0 ≤ o - x.base) = true := by simp; omega
    have hgr : (zK x.recs)[(o - x.base).toNat]? = some [.slice (bcs r)] := zbo (f := fun r => [D.slice (bcs r)]) hr'
    refine zmq (zb hb (zb hr (zb hkd (zb c1 (zb c2 (zb c4 (zb c5 (zb d1 (zb hw (zb hlen hgr)))))))))) ?_
    refine zdv hl ?_
    exact hK
theorem zpt {n q : List UInt8} (hT : zbT σ id t g T) (hI : zed T) (hS : ∀ x ∈ T.l, zcV Prod.fst x.groups) (hK : K (.tup [.d (.int .i64 (zdZ T n q).1), .d (.int .i64 (zdZ T n q).2)]) σ) : zn Tryz.prog zdf [.box id 0, .d (.str n), .d (.str q)] σ K := by
  refine acE3 zih fun hl => ?_
  have hb := hT.box; have hr := hT.row
  have hn := hI.len
  simp only [zeM, iN, bT, bF, eN]
  refine zby ?_
  refine c_r7at hT (by omega) ?_
  cases ha : atF n T.l 0 with
  | none =>
    rw [zdZ, zef, ha] at hK
    dsimp only
    refine zt (show decide ((-1 : Int) < 0) = true from rfl) ?_
    refine zdv hl ?_
    exact hK
  | some k =>
    obtain ⟨j, x, e1, hx, h2⟩ := zjn ha
    rw [Nat.zero_add] at e1; subst e1
    rw [zdZ, zef, ha] at hK
    simp only [hx] at hK
    obtain ⟨c0, c1, c2, c3, c4, c5⟩ := zko hx
    have hlt := zd hx
    have hX := hI.tops x (List.mem_of_getElem? hx)
    have hSx := hS x (List.mem_of_getElem? hx)
    have hgl : (zW x.groups).length = x.groups.length := List.length_map ..
    have hgm := hX.groups
    have hk0 : decide ((k : Int) < 0) = false := by simp
    have hkd : decide ((k : Int) < (T.l.length : Int)) = true := by simp; omega
    dsimp only
    refine zt hk0 ?_
    refine zF x.groups.length (fun j vs s => vs = [.d (.int .i64 j)] ∧ s = σ ∧ ∀ a ∈ x.groups.take j, a.1 ≠ q) ⟨rfl, rfl, by simp⟩ ?_
    rintro j vs s hj ⟨rfl, rfl, hpf⟩
    by_cases hlj : j < x.groups.length
    · have hd : decide ((j : Int) < (x.groups.length : Int)) = true := by simp; omega
      obtain ⟨a, hga⟩ : ∃ a, x.groups[j]? = some a := ⟨_, List.getElem?_eq_getElem hlj⟩
      have hge := zbo (f := zjy) hga
      cases h1 : (a.1 == q)
      · refine zmq (zb hb (zb hr (zb hkd (zb hd (zb c3 (zb c5 (zb hgl (zb hge (zb h1 (wkc j (by omega))))))))))) ?_
        refine zbC.next hlj ⟨rfl, rfl, fun b hb' => ?_⟩
        rw [List.take_add_one, hga] at hb'
        rcases List.mem_append.1 hb' with hb' | hb'
        · exact hpf b hb'
        · simp at hb'; subst hb'; simpa using h1
      · have e : a.1 = q := by simpa using h1
        have hh : zpe q x.groups = some a.2 := by
          unfold zpe
          rw [znf, zgZ hSx (List.mem_of_getElem? hga) e]
          simp [h1]
        rw [hh] at hK
        refine zmq (zb hb (zb hr (zb hkd (zb hd (zb c3 (zb c5 (zb hgl (zb hge h1)))))))) ?_
        refine zdv hl ?_
        exact hK
    · have hd : decide ((j : Int) < (x.groups.length : Int)) = false := by simp; omega
      rw [List.take_of_length_le (by omega)] at hpf
      have hh : zpe q x.groups = none := by
        unfold zpe
        split
        · rename_i a hga
          rw [if_neg]
          have := hpf a (List.mem_of_getElem? hga)
          simpa using this
        · rfl
      rw [hh] at hK
      refine zmq (zb hb (zb hr (zb hkd (zb hd (zb c3 (zb c5 hgl)))))) ?_
      refine zdv hl ?_
      exact hK
end

end Go.Proofs.YtaocmalhjfakdaaGreat
