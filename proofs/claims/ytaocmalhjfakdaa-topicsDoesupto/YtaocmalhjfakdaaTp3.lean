/- Contracts: what an operation does to the document's topics. -/
import Derived.Test.YtaocmalhjfakdaaTp2
set_option linter.all false
set_option maxRecDepth 100000
set_option linter.unusedSimpArgs false
set_option linter.unusedVariables false
namespace Go.Proofs.Ytaocmalhjfakdaa
open Go.AW

theorem zbo.setB {σ : List zb} {id t g j : Nat} {T : zP} {c : List AV} {y : zb} (h : zbo σ id t g T) (hj : σ[j]? = some (.box c)) (hne : j ≠ id) : zbo (σ.set j y) id t g T :=
  ⟨by rw [List.getElem?_set_ne hne]; exact h.box, by rw [List.getElem?_set_ne (fun e => by subst e; have := h.row; rw [hj] at this; cases this)]; exact h.row, h.last⟩
theorem zgz.setB {σ τ S : List zb} {id j : Nat} {y : zb} (h : zgz (σ ++ τ) S id) (hj : σ.length ≤ j) : zgz σ (S.set j y) id :=
  ⟨by have := h.len; simp at this ⊢; omega, fun i x hx hi hr => by
    have := zh hx
    rw [List.getElem?_set_ne (by omega)]
    exact h.get i x (ze hx) hi hr⟩
theorem gq23 {A P Q : Prop} (a : A) (h : Q) (e : A → Hd Q → P := by intro a h; (repeat' first | simp -dsimp only [↓zhT, ↓zbn, ↓zcK, ↓zhV, ↓zhN, ↓zhL, ↓zhO, ↓zhM, ↓zcQ, ↓zcM, ↓zcR, ↓zcN, ↓zhP, ↓zcI, ↓zcS, ↓zcO, ↓zcT, ↓zcP, ↓zhJ, ↓zhS, ↓zcH, ↓zcV, ↓zhC, ↓zhB, ↓zhI, iN, bT, bF, eN, ↓zeJ, ↓unC, ↓zap, ↓zR, ↓zS, ↓zY, ↓zaF, ↓zaY, ↓zdC, ↓zax, ↓zcY, ↓zae, ↓zk, ↓zi, ↓zcc, ↓zg, ↓zaq, ↓zt, ↓zbc, ↓zbk, ↓zf, ↓zA, ↓zw, ↓zx, ↓zaL, ↓zeU, ↓zeT, ↓zaM, ↓zbd, ↓zbg, ↓zbF, ↓zcj, ↓zC, ↓zay, ↓zT, ↓zF, ↓zaE, zeP, zcu, zco, unA, zfn, bnd, zfF, zai, zag, zfW, dm, dm1, zj, zaD, zgu, zgt, keepO, Q0, Q1, Q2, Q3, Q4, Q5, zao, zE, zl, zar, zW, Q6, Q7, Q8, Q9, Q10, Q11, Q12, Q13, Q14, Nat.reduceAdd, Q15, Int.reduceToNat, Q16, Q17, Q18, Q19, Q20, reduceIte, Q21, Q22, zn, rep, zX, zhD, toD, zaz, Q23, Q24, Q25, Q26, Q27, Q28, Nat.reduceLeDiff, Q29, Nat.reduceSub, Q30, Q31, Q32, sc, Q33, Q34, Q35, Q36, Q37, Q26, Q38, Q39, n0gt, n1gt, n2gt, n0eq, ziD, n1eq, n2eq, n0ne, n1ne, ziC, ziE, i0ne, i0eq, Bool.not_true, Bool.not_false, List.length_map, List.length_set, Nat.sub_zero, Nat.zero_add, a] | with_reducible refine andA ?_ | fail); exact h.go) : P := e a ⟨h⟩
theorem c_r7does {σ : List zb} {id t g : Nat} {T : zP} {o : TOp} (hT : zbo σ id t g T) (hn : T.l.length ≤ 8) (hX : ∀ x ∈ T.l, TopI x) (h1 : o.topic.length ≤ 1073741824) (h2 : o.group.length ≤ 1073741824) (ho : o.recs.length ≤ 20971520) (hr : ∀ r ∈ o.recs, r.length ≤ 1073741824) {K : AV → List zb → Prop}
    (hK : ∀ S t' g', zbo S id t' g' (zaA T o).2.2 → zgz σ S id → K (.tup [.agg [.d (.int .i64 (zaA T o).1.1), .d (.int .i64 (zaA T o).1.2)], .d (.slice (zbj (zaA T o).2.1))]) S) : zu Try.prog zdO [.box id 0, opA o] σ K := by
  refine zau zfM.is rfl fun hl _ => zfM.goes ?_
  have hid := zh hT.box
  have done : ∀ z, zaA T o = z → ∀ S t' g', zbo S id t' g' z.2.2 → zgz σ S id → K (.tup [.agg [.d (.int .i64 z.1.1), .d (.int .i64 z.1.2)], .d (.slice (zbj z.2.1))]) S := fun z h => h ▸ hK
  clear hK
  have same : ∀ e τ, zaA T o = ((e, 0), [], T) → zmO K (some [.agg [.d (.int .i64 e), .d (.int .i64 0)], .exact []]) (σ ++ τ) := fun e τ h => zaR (done _ h _ t g (hT.app _) (.app _ _ _))
  -- what a call has left, with the result's box
  have after : ∀ {S : List zb}, zgz (σ ++ [.box [.d (.int .i64 o.kind), .d (.str o.topic), .d (.str o.group), .d (.int .i64 o.offset), .d (.slice (zQ o.recs))], .box [.d (.int .i64 0), .d (.int .i64 0)]]) S id → S[σ.length + 1]? = some (.box [.d (.int .i64 0), .d (.int .i64 0)]) := fun h =>
    h.get _ _ (by rw [zE]; rfl) (by omega) (fun _ _ _ e => by cases e)
  simp only [zfU, iN, bT, bF, eN, opA]
  refine zbw ?_
  refine c_rCheck (o := o) h1 h2 (by omega) ?_
  cases c0 : (zan zda o != 0)
  rotate_left
  · refine zV c0 ?_
    refine zbU ?_
    refine zbw ?_
    exact same _ _ (by rw [zaA, if_pos (by simpa using c0)])
  have d0 : ∀ z, (if o.kind = 0 then ((0, 0), [], T)
    else if o.kind = 1 then ((zaK T o.topic).1, [], (zaK T o.topic).2)
    else match atF o.topic T.l 0 with
      | none => ((4, 0), [], T)
      | some i => match T.l[i]? with
        | none => ((4, 0), [], T)
        | some x => if o.kind = 2 then zbh T i x o
          else if o.kind = 3 then ((zaH T i x o).1, [], (zaH T i x o).2)
          else ((zgq T i x o).1, [], (zgq T i x o).2)) = z → zaA T o = z := fun z h => by
    rw [zaA, if_neg (by simpa using c0)]; exact h
  cases c1 : (o.kind == 0)
  rotate_left
  · refine zV (zd c0 c1) ?_
    exact same _ _ (d0 _ (by rw [if_pos (by simpa using c1)]))
  have k1 : ¬ o.kind = 0 := by simpa using c1
  cases c2 : (o.kind == 1)
  rotate_left
  · refine zV (zd c0 (zd c1 c2)) ?_
    refine c_r7create (hT.app _) hn fun S t' g' hT' hS' => ?_
    have hg := after hS'
    have hgs : ∀ Y, (S.set (σ.length + 1) Y)[σ.length + 1]? = some Y := fun Y => List.getElem?_set_self (zh hg)
    refine zV (zd hg hgs) ?_
    have hF : zaA T o = ((zaK T o.topic).1, [], (zaK T o.topic).2) := d0 _ (by rw [if_neg k1, if_pos (by simpa using c2)])
    exact zaR (done _ hF _ t' g' (hT'.setB hg (by omega)) (hS'.setB (by omega)))
  have k2 : ¬ o.kind = 1 := by simpa using c2
  refine zV (zd c0 (zd c1 c2)) ?_
  refine c_r7at (hT.app _) (by omega) ?_
  cases c3 : atF o.topic T.l 0 with
  | none =>
    refine zV (show decide ((-1 : Int) < 0) = true from rfl) ?_
    refine zbU ?_
    refine zbw ?_
    exact same _ _ (d0 _ (by rw [if_neg k1, if_neg k2, c3]))
  | some i =>
    have hi : i < T.l.length := by have := atF_lt c3; omega
    have hx : T.l[i]? = some T.l[i] := by simp [hi]
    have hXx := hX _ (List.getElem_mem hi)
    obtain ⟨x, hxe⟩ : ∃ x, T.l[i] = x := ⟨_, rfl⟩
    rw [hxe] at hx hXx
    have dd : decide ((i : Int) < 0) = false := by simp
    cases c4 : (o.kind == 2)
    rotate_left
    · refine zV (zd dd c4) ?_
      refine c_r7publish (o := o) (hT.app _) hn hx hXx ho hr fun S hT' hS' => ?_
      have hg := after hS'
      have hgs : ∀ Y, (S.set (σ.length + 1) Y)[σ.length + 1]? = some Y := fun Y => List.getElem?_set_self (zh hg)
      refine zV (zd hg hgs) ?_
      have hF : zaA T o = zbh T i x o := d0 _ (by rw [if_neg k1, if_neg k2, c3]; simp only [hx]; rw [if_pos (by simpa using c4)])
      exact zaR (done _ hF _ t g (hT'.setB hg (by omega)) (hS'.setB (by omega)))
    have k4 : ¬ o.kind = 2 := by simpa using c4
    cases c5 : (o.kind == 3)
    rotate_left
    · refine zV (zd dd (zd c4 c5)) ?_
      refine c_r7commit (o := o) (hT.app _) hn hx hXx fun S hT' hS' => ?_
      have hg := after hS'
      have hgs : ∀ Y, (S.set (σ.length + 1) Y)[σ.length + 1]? = some Y := fun Y => List.getElem?_set_self (zh hg)
      refine zV (zd hg hgs) ?_
      have hF : zaA T o = ((zaH T i x o).1, [], (zaH T i x o).2) := d0 _ (by rw [if_neg k1, if_neg k2, c3]; simp only [hx]; rw [if_neg k4, if_pos (by simpa using c5)])
      exact zaR (done _ hF _ t g (hT'.setB hg (by omega)) (hS'.setB (by omega)))
    have k5 : ¬ o.kind = 3 := by simpa using c5
    have hz : ∀ z, zgq T i x o = z → zaA T o = (z.1, [], z.2) := fun z h => d0 _ (by rw [if_neg k1, if_neg k2, c3]; simp only [hx]; rw [if_neg k4, if_neg k5, h])
    have hb := hT.box
    have hrw := hT.row
    have xb : ∀ τ, (σ ++ τ)[id]? = _ := fun τ => ze hb
    have xr : ∀ τ, (σ ++ τ)[t]? = _ := fun τ => ze hrw
    have f4 := zbx T.l
    have hgt : List.take 4 (List.drop (i * 4) (zM (zaw T.l))) = (topD x).map .d := zfH f4 (zaP hx)
    have hlenA : (zM (zaw T.l)).length = T.l.length * 4 := by rw [zcU f4, List.length_map]
    have hlf : (zaw T.l).flatten.length = T.l.length * 4 := by rw [← hlenA, zM, List.length_map]
    have hi4 : i * 4 + 4 ≤ T.l.length * 4 := by omega
    have n1 := hXx.base; have n2 := hXx.next; have n3 := hXx.recs
    have hnx : x.next = x.base + x.recs.length := rfl
    have n64 : -9223372036854775808 ≤ x.next ∧ x.next ≤ 9223372036854775807 := by omega
    have ht := zh hrw
    have xs : ∀ Y τ, (σ ++ τ).set t Y = σ.set t Y ++ τ := fun Y τ => List.set_append_left _ _ ht
    have gs0 : ∀ Y τ, (σ.set t Y ++ τ)[σ.length]? = τ[0]? := fun Y τ => by rw [List.getElem?_append_right (by simp)]; simp
    have gs1 : ∀ Y τ, (σ.set t Y ++ τ)[σ.length + 1]? = τ[1]? := fun Y τ => by rw [List.getElem?_append_right (by simp)]; simp
    have ss1 : ∀ Y τ b, (σ.set t Y ++ τ).set (σ.length + 1) b = σ.set t Y ++ τ.set 1 b := fun Y τ b => by rw [List.set_append_right _ _ (by simp)]; simp
    cases c6 : decide (o.offset < x.base)
    rotate_left
    · refine zjB (zd dd (zd c4 (zd c5 (zd c6 (zd xb (zd xr (zd hgt (zd hlf hi4)))))))) ?_
      refine zbU ?_
      refine zbw ?_
      exact same _ _ (hz _ (by rw [zgq, if_pos (.inl (by simpa using c6))]))
    refine zjB (zd dd (zd c4 (zd c5 (zd c6 (zd xb (zd xr (zd hgt (zd hlf hi4)))))))) ?_
    refine zfu n64 ?_
    cases c7 : decide (o.offset > x.next)
    rotate_left
    · refine zV c7 ?_
      refine zbU ?_
      refine zbw ?_
      exact same _ _ (hz _ (by rw [zgq, if_pos (.inr (by simpa using c7))]))
    have c6' : ¬ o.offset < x.base := by simpa using c6
    have c7' : ¬ o.offset > x.next := by simpa using c7
    have w1 : IntKind.i64.wrap (o.offset - x.base) = ((o.offset - x.base).toNat : Int) := by rw [zaO (by omega) (by omega)]; omega
    have hrl := zn x.recs
    have hne : id ≠ t := fun e => by subst e; rw [hb] at hrw; cases hrw
    have xb2 : ∀ Y τ, (σ.set t Y ++ τ)[id]? = _ := fun Y τ => ze ((List.getElem?_set_ne (Ne.symm hne)).trans hb)
    have xr2 : ∀ Y τ, (σ.set t Y ++ τ)[t]? = some Y := fun Y τ => ze (List.getElem?_set_self ht)
    have xs2 : ∀ Y τ Z, (σ.set t Y ++ τ).set t Z = σ.set t Z ++ τ := fun Y τ Z => by rw [List.set_append_left _ _ (by simpa using ht), List.set_set]
    have rdr : ∀ n, List.drop n (List.take x.recs.length (zQ x.recs)) = zQ (x.recs.drop n) := fun n => by
      rw [← hrl, List.take_length]; simp only [zQ, List.map_drop]
    have hcut : ∀ X, List.take (i * 4 + 2) (zM (zaw T.l)) ++ X :: List.drop (i * 4 + 3) (zM (zaw T.l)) = (zM (zaw T.l)).set (i * 4 + 2) X := fun X => by
      rw [List.set_eq_take_append_cons_drop, if_pos (by omega)]
    have hcut2 : ∀ Y X, List.take (i * 4 + 1) ((zM (zaw T.l)).set (i * 4 + 2) Y) ++ X :: List.drop (i * 4 + 2) ((zM (zaw T.l)).set (i * 4 + 2) Y) = ((zM (zaw T.l)).set (i * 4 + 2) Y).set (i * 4 + 1) X := fun Y X => by
      rw [List.set_eq_take_append_cons_drop (l := (zM (zaw T.l)).set (i * 4 + 2) Y), if_pos (by rw [List.length_set]; omega)]
    refine gq23 (zd c7 (zd xb (zd xr (zd xs (zd xb2 (zd xr2 (zd xs2 (zd gs0 (zd gs1 (zd ss1 (zd hrl (zd w1 (zd hlf (zd hi4 (zd rdr (zd hcut hcut2)))))))))))))))) ?_
    have hl1 : (List.drop (o.offset - x.base).toNat x.recs).length ≤ 64 := by rw [List.length_drop]; omega
    refine ⟨zfD _, zfD _, by simp, by omega, by omega, by omega, by omega, by omega, by omega, by omega, ?_⟩
    obtain ⟨R, hR⟩ : ∃ R, List.drop (o.offset - x.base).toNat x.recs = R := ⟨_, rfl⟩
    simp only [hR]
    have hF := hz _ (show zgq T i x o = ((0, o.offset), { T with l := T.l.set i { x with recs := R, base := o.offset } }) by rw [zgq, if_neg (by omega), hR])
    have hset : (((zM (zaw T.l)).set (i * 4 + 2) (.own (σ.length + 3) (zQ R))).set (i * 4 + 1) (.d (.int .i64 o.offset))).set (i * 4 + 2) (.d (.slice (zQ R))) = zM (zaw (T.l.set i { x with recs := R, base := o.offset })) := by
      rw [List.set_comm _ _ (show i * 4 + 1 ≠ i * 4 + 2 by omega), List.set_set, ziJ f4 (zaP hx) (by omega)]
      have f4' : ∀ e ∈ (zaw T.l).set i ((topD x).set 2 (.slice (zQ R))), e.length = 4 := fun e he => by
        rcases List.mem_or_eq_of_mem_set he with h | rfl
        · exact f4 e h
        · rfl
      rw [ziJ f4' (k := i) (e := (topD x).set 2 (.slice (zQ R))) (by rw [List.getElem?_set_self (by simp [hi])]) (by omega), List.set_set, zaw, zaw, List.map_set]; rfl
    refine ⟨_, .dataR t (i * 4 + 2) g 4 (((zM (zaw T.l)).set (i * 4 + 2) (.own (σ.length + 3) (zQ R))).set (i * 4 + 1) (.d (.int .i64 o.offset))) (.own (σ.length + 3) (zQ R)) (zQ R) (xr2 _ _) (by rw [List.getElem?_set_ne (by omega), List.getElem?_set_self (by omega)]) rfl (.refl _ _), ?_⟩
    rw [xs2, hset]
    refine done _ hF _ t g ⟨?_, xr2 _ _, hT.last⟩ ⟨by simp, fun j y hy hj hr => ?_⟩
    · rw [xb2]; simp
    · refine ze ?_
      rw [List.getElem?_set_ne (fun e => by subst e; rw [hrw] at hy; cases hy; exact hr _ _ _ rfl)]
      exact hy
end Go.Proofs.Ytaocmalhjfakdaa
