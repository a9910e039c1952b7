/- Contracts: the document's topics: bounds, records, what was committed; placed records that are the same. -/
import Derived.Test.YtaocmalhjfakdaaKs2
import Derived.Test.YtaocmalhjfakdaaTp5
set_option linter.all false
set_option maxRecDepth 100000
set_option linter.unusedSimpArgs false
set_option linter.unusedVariables false
namespace Go.Proofs.Ytaocmalhjfakdaa
open Go.AW

section
variable {σ : List zb} {id t g : Nat} {T : zP} {K : AV → List zb → Prop}
theorem zis {T : zP} {k : Nat} {x : zJ} (hx : T.l[k]? = some x) : (zM (zaw T.l))[k * 4]? = some (.d (.str x.name)) ∧ (zM (zaw T.l))[k * 4 + 1]? = some (.d (.int .i64 x.base)) ∧ (zM (zaw T.l))[k * 4 + 2]? = some (.d (.slice (zQ x.recs))) ∧ (zM (zaw T.l))[k * 4 + 3]? = some (.d (.slice (zaC x.groups))) ∧
    List.take 4 (List.drop (k * 4) (zM (zaw T.l))) = (topD x).map .d ∧ k * 4 + 4 ≤ (zaw T.l).flatten.length := by
  have f4 := zbx T.l
  have h0 := zdQ (i := 0) f4 (zaP hx) (by omega)
  have h1 := zdQ (i := 1) f4 (zaP hx) (by omega)
  have h2 := zdQ (i := 2) f4 (zaP hx) (by omega)
  have h3 := zdQ (i := 3) f4 (zaP hx) (by omega)
  have hlen : (zM (zaw T.l)).length = T.l.length * 4 := by rw [zcU f4, List.length_map]
  have hl := zc hx
  refine ⟨h0, h1, h2, h3, zfH f4 (zaP hx), ?_⟩
  have : (zaw T.l).flatten.length = T.l.length * 4 := by rw [← hlen, zM, List.length_map]
  omega
theorem c_r7Bounds {n : List UInt8} (hT : zbo σ id t g T) (hI : zcF T) (hK : K (.tup [.d (.int .i64 (zbV T n).1), .d (.int .i64 (zbV T n).2.1), .d (.int .i64 (zbV T n).2.2)]) σ) : zu Try.prog zdd [.box id 0, .d (.str n)] σ K := by
  refine acE2 zih fun hl => ?_
  have hb := hT.box; have hr := hT.row
  have hn := hI.len
  simp only [zfm, iN, bT, bF, eN]
  refine zbw ?_
  refine c_r7at hT (by omega) ?_
  cases ha : atF n T.l 0 with
  | none =>
    rw [zbV, ha] at hK
    dsimp only
    refine zV (show decide ((-1 : Int) < 0) = true from rfl) ?_
    refine zde hl ?_
    exact hK
  | some k =>
    obtain ⟨j, x, e1, hx, h2⟩ := zhv ha
    rw [Nat.zero_add] at e1; subst e1
    rw [zbV, ha] at hK
    simp only [hx] at hK
    obtain ⟨c0, c1, c2, c3, c4, c5⟩ := zis hx
    have hlt := zc hx
    have hX := hI.tops x (List.mem_of_getElem? hx)
    have hkd : decide ((k : Int) < (T.l.length : Int)) = true := by simp; omega
    have hk0 : decide ((k : Int) < 0) = false := by simp
    dsimp only
    refine zjB (zd hb (zd hr (zd hk0 (zd hkd (zd c1 (zd c4 c5)))))) ?_
    refine zfu (next_ok hX) ?_
    refine zV (zd hb hr) ?_
    refine zde hl ?_
    exact hK
theorem c_r7Get {n : List UInt8} {o : Int} (hT : zbo σ id t g T) (hI : zcF T) (hK : K (.tup [.d (.slice (bcs (getF T n o).1)), .d (.int .i64 (getF T n o).2)]) σ) : zu Try.prog zcX [.box id 0, .d (.str n), .d (.int .i64 o)] σ K := by
  refine acE3 zjU fun hl => ?_
  have hb := hT.box; have hr := hT.row
  have hn := hI.len
  simp only [zgl, iN, bT, bF, eN]
  refine zbw ?_
  refine c_r7at hT (by omega) ?_
  cases ha : atF n T.l 0 with
  | none =>
    rw [getF, ha] at hK
    dsimp only
    refine zV (show decide ((-1 : Int) < 0) = true from rfl) ?_
    refine zde hl ?_
    exact hK
  | some k =>
    obtain ⟨j, x, e1, hx, h2⟩ := zhv ha
    rw [Nat.zero_add] at e1; subst e1
    rw [getF, ha] at hK
    simp only [hx] at hK
    obtain ⟨c0, c1, c2, c3, c4, c5⟩ := zis hx
    have hlt := zc hx
    have hX := hI.tops x (List.mem_of_getElem? hx)
    have z1 := hX.base; have z2 := hX.next
    have hnx : x.next = x.base + x.recs.length := rfl
    have hlen := zn x.recs
    have hk0 : decide ((k : Int) < 0) = false := by simp
    have hkd : decide ((k : Int) < (T.l.length : Int)) = true := by simp; omega
    dsimp only
    cases d0 : decide (o < x.base)
    rotate_left
    · rw [if_pos (.inl (by simpa using d0))] at hK
      refine zjB (zd hb (zd hr (zd hk0 (zd hkd (zd c1 (zd c4 (zd c5 d0))))))) ?_
      refine zde hl ?_
      exact hK
    refine zjB (zd hb (zd hr (zd hk0 (zd hkd (zd c1 (zd c4 (zd c5 d0))))))) ?_
    refine zfu (next_ok hX) ?_
    cases d1 : decide (o ≥ x.next)
    rotate_left
    · rw [if_pos (.inr (by simpa using d1))] at hK
      refine zV d1 ?_
      refine zde hl ?_
      exact hK
    have e0 : ¬ o < x.base := by simpa using d0
    have e1 : ¬ x.next ≤ o := by simpa using d1
    rw [if_neg (by omega)] at hK
    have hw : IntKind.i64.wrap (o - x.base) = o - x.base := zaO (by omega) (by omega)
    obtain ⟨r, hr'⟩ : ∃ r, x.recs[(o - x.base).toNat]? = some r := ⟨_, List.getElem?_eq_getElem (by omega)⟩
    rw [List.getD_eq_getElem?_getD, hr'] at hK
    have hge : decide (o - x.base < (x.recs.length : Int)) = true := by simp; omega
    have hge0 : decide (0 ≤ o - x.base) = true := by simp; omega
    have hgr : (zQ x.recs)[(o - x.base).toNat]? = some [.slice (bcs r)] := zaP (f := fun r => [D.slice (bcs r)]) hr'
    refine zjB (zd hb (zd hr (zd hkd (zd c1 (zd c2 (zd c4 (zd c5 (zd d1 (zd hw (zd hlen hgr)))))))))) ?_
    refine zde hl ?_
    exact hK
theorem zmI {n q : List UInt8} (hT : zbo σ id t g T) (hI : zcF T) (hS : ∀ x ∈ T.l, zgg Prod.fst x.groups) (hK : K (.tup [.d (.int .i64 (zdk T n q).1), .d (.int .i64 (zdk T n q).2)]) σ) : zu Try.prog zci [.box id 0, .d (.str n), .d (.str q)] σ K := by
  refine acE3 zgy fun hl => ?_
  have hb := hT.box; have hr := hT.row
  have hn := hI.len
  simp only [zdK, iN, bT, bF, eN]
  refine zbw ?_
  refine c_r7at hT (by omega) ?_
  cases ha : atF n T.l 0 with
  | none =>
    rw [zdk, zdo, ha] at hK
    dsimp only
    refine zV (show decide ((-1 : Int) < 0) = true from rfl) ?_
    refine zde hl ?_
    exact hK
  | some k =>
    obtain ⟨j, x, e1, hx, h2⟩ := zhv ha
    rw [Nat.zero_add] at e1; subst e1
    rw [zdk, zdo, ha] at hK
    simp only [hx] at hK
    obtain ⟨c0, c1, c2, c3, c4, c5⟩ := zis hx
    have hlt := zc hx
    have hX := hI.tops x (List.mem_of_getElem? hx)
    have hSx := hS x (List.mem_of_getElem? hx)
    have hgl : (zaC x.groups).length = x.groups.length := List.length_map ..
    have hgm := hX.groups
    have hk0 : decide ((k : Int) < 0) = false := by simp
    have hkd : decide ((k : Int) < (T.l.length : Int)) = true := by simp; omega
    dsimp only
    refine zV hk0 ?_
    refine zI x.groups.length (fun j vs s => vs = [.d (.int .i64 j)] ∧ s = σ ∧ ∀ a ∈ x.groups.take j, a.1 ≠ q) ⟨rfl, rfl, by simp⟩ ?_
    rintro j vs s hj ⟨rfl, rfl, hpf⟩
    by_cases hlj : j < x.groups.length
    · have hd : decide ((j : Int) < (x.groups.length : Int)) = true := by simp; omega
      obtain ⟨a, hga⟩ : ∃ a, x.groups[j]? = some a := ⟨_, List.getElem?_eq_getElem hlj⟩
      have hge := zaP (f := zhK) hga
      cases h1 : (a.1 == q)
      · refine zjB (zd hb (zd hr (zd hkd (zd hd (zd c3 (zd c5 (zd hgl (zd hge (zd h1 (wkc j (by omega))))))))))) ?_
        refine zca.next hlj ⟨rfl, rfl, fun b hb' => ?_⟩
        rw [List.take_add_one, hga] at hb'
        rcases List.mem_append.1 hb' with hb' | hb'
        · exact hpf b hb'
        · simp at hb'; subst hb'; simpa using h1
      · have e : a.1 = q := by simpa using h1
        have hh : zmw q x.groups = some a.2 := by
          unfold zmw
          rw [zkA, zfE hSx (List.mem_of_getElem? hga) e]
          simp [h1]
        rw [hh] at hK
        refine zjB (zd hb (zd hr (zd hkd (zd hd (zd c3 (zd c5 (zd hgl (zd hge h1)))))))) ?_
        refine zde hl ?_
        exact hK
    · have hd : decide ((j : Int) < (x.groups.length : Int)) = false := by simp; omega
      rw [List.take_of_length_le (by omega)] at hpf
      have hh : zmw q x.groups = none := by
        unfold zmw
        split
        · rename_i a hga
          rw [if_neg]
          have := hpf a (List.mem_of_getElem? hga)
          simpa using this
        · rfl
      rw [hh] at hK
      refine zjB (zd hb (zd hr (zd hkd (zd hd (zd c3 (zd c5 hgl)))))) ?_
      refine zde hl ?_
      exact hK
theorem gq28 {A P Q : Prop} (a : A) (h : Q) (e : A → Hd Q → P := by intro a h; (repeat' first | simp -dsimp only [↓zhT, ↓zbn, ↓zcK, ↓zhV, ↓zhN, ↓zhL, ↓zhO, ↓zhM, ↓zcQ, ↓zcM, ↓zcR, ↓zcN, ↓zhP, ↓zcI, ↓zcS, ↓zcO, ↓zcT, ↓zcP, ↓zhJ, ↓zhS, ↓zcH, ↓zcV, ↓zhC, ↓zhB, ↓zhI, iN, bT, bF, eN, ↓zeJ, ↓unC, ↓zap, ↓zR, ↓zS, ↓zY, ↓zaF, ↓zaY, ↓zdC, ↓zax, ↓zcY, ↓zae, ↓zk, ↓zi, ↓zcc, ↓zg, ↓zaq, ↓zt, ↓zbc, ↓zbk, ↓zf, ↓zA, ↓zw, ↓zx, ↓zaL, ↓zeU, ↓zeT, ↓zaM, ↓zbd, ↓zbg, ↓zbF, ↓zcj, ↓zC, ↓zay, ↓zT, ↓zF, ↓zaE, zeP, zcu, zco, unA, zfn, bnd, zfF, zai, zag, zfW, dm, dm1, zj, zaD, zgu, zgt, keepO, Q0, Q1, Q2, Q3, Q4, Q5, zao, zE, zl, zar, zW, Q6, Q7, Q8, Q9, Q10, Q11, Q12, Q13, Q14, Nat.reduceAdd, Q15, Int.reduceToNat, Q16, Q17, Q18, Q19, Q20, reduceIte, Q21, Q22, zn, rep, zX, zhD, toD, zaz, Q23, Q24, Q25, Q26, Q27, Q28, Nat.reduceLeDiff, Q29, Nat.reduceSub, Q30, Q31, Q32, sc, Q33, Q34, Q35, Q36, Q37, Q26, Q38, Q39, n0gt, n1gt, n2gt, n0eq, ziD, n1eq, n2eq, n0ne, n1ne, ziC, ziE, i0ne, i0eq, Bool.not_true, Bool.not_false, List.length_map, zim, zja, a] | with_reducible refine andA ?_ | fail); exact h.go) : P := e a ⟨h⟩
theorem zlp {l : List zen} (hl0 : l.length ≤ 1073741824) (hK : K (.d (.bool true)) σ) : zu Try.prog zek [.d (.slice (zbj l)), .d (.slice (zbj l))] σ K := by
  refine acE2 zjW fun hl => ?_
  have hll : (zbj l).length = l.length := List.length_map ..
  simp only [zgn, iN, bT, bF, eN]
  refine zjB hll ?_
  refine zI l.length (fun k vs s => vs = [.d (.int .i64 k)] ∧ s = σ) ⟨rfl, rfl⟩ ?_
  rintro k vs s hk ⟨rfl, rfl⟩
  by_cases hlt : k < l.length
  · have hd : decide ((k : Int) < (l.length : Int)) = true := by simp; omega
    have hx : l[k]? = some l[k] := by simp [hlt]
    obtain ⟨x, hxe⟩ : ∃ x, l[k] = x := ⟨_, rfl⟩
    rw [hxe] at hx
    have hgx := zaP (f := zja) hx
    have s1 : (x.topic == x.topic) = true := by simp
    have s2 : (x.offset != x.offset) = false := by simp
    have s3 : (x.rec_ == x.rec_) = true := by simp
    refine gq28 (zd hd (zd hll (zd hgx (zd s1 (zd s2 (zd s3 (wkc k (by omega)))))))) ?_
    exact zca.next hlt ⟨rfl, rfl⟩
  · have hd : decide ((k : Int) < (l.length : Int)) = false := by simp; omega
    refine zV (zd hd hll) ?_
    refine zde hl ?_
    exact hK
end

end Go.Proofs.Ytaocmalhjfakdaa
