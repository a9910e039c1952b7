/- Contracts: what an operation does to the document's topics. -/
import Derived.Test.YtaocmalhjfakdaaGreatTp2
set_option linter.all false
set_option maxRecDepth 100000
set_option linter.unusedSimpArgs false
set_option linter.unusedVariables false
namespace Go.Proofs.YtaocmalhjfakdaaGreat
open Go.AW

theorem zbT.setB {σ : List zc} {id t g j : Nat} {T : zak} {c : List AV} {y : zc} (h : zbT σ id t g T) (hj : σ[j]? = some (.box c)) (hne : j ≠ id) : zbT (σ.set j y) id t g T :=
  ⟨by rw [List.getElem?_set_ne hne]; exact h.box, by rw [List.getElem?_set_ne (fun e => by subst e; have := h.row; rw [hj] at this; cases this)]; exact h.row, h.last⟩
theorem ziP.setB {σ τ S : List zc} {id j : Nat} {y : zc} (h : ziP (σ ++ τ) S id) (hj : σ.length ≤ j) : ziP σ (S.set j y) id :=
  ⟨by have := h.len; simp at this ⊢; omega, fun i x hx hi hr => by
    have := zg hx
    rw [List.getElem?_set_ne (by omega)]
    exact h.get i x (zf hx) hi hr⟩
theorem gq23 {A P Q : Prop} (a : A) (h : Q) (e : A → Hd Q → P := by intro a h; (repeat' first | simp -dsimp only [↓zhB, ↓zbf, ↓zcv, ↓zhC, ↓zhx, ↓zhv, ↓zhy, ↓zhw, ↓zcA, ↓zcw, ↓zcB, ↓zcx, ↓zhz, ↓zcu, ↓zcC, ↓zcy, ↓zcD, ↓zcz, ↓zhu, ↓zhA, ↓zct, ↓zcE, ↓zhs, ↓zhr, ↓zht, iN, bT, bF, eN, ↓zea, ↓unC, ↓zad, ↓zN, ↓zO, ↓zU, ↓zaw, ↓zbe, ↓zdk, ↓zaa, ↓zcX, ↓zai, ↓zk, ↓zi, ↓zbE, ↓zh, ↓zar, ↓zC, ↓zbb, ↓zbp, ↓ze, ↓zy, ↓zq, ↓zr, ↓zaA, ↓zeC, ↓zeS, ↓zaI, ↓zaT, ↓zbd, ↓zbF, ↓zbU, ↓zx, ↓zav, ↓zL, ↓zA, ↓zau, zeH, zcn, zcf, unA, zeV, bnd, zfP, zah, zX, zft, dm, dm1, zp, zaG, zgx, zgw, zS, Q0, Q1, Q2, Q3, Q4, Q5, zap, zE, zj, zat, zP, Q6, Q7, Q8, Q9, Q10, Q11, Q12, Q13, Q14, Nat.reduceAdd, Q15, Int.reduceToNat, Q16, Q17, Q18, Q19, Q20, reduceIte, Q21, Q22, zo, rep, zab, zgT, toD, zao, Q23, Q24, Q25, Q26, Q27, Q28, Nat.reduceLeDiff, Q29, Nat.reduceSub, Q30, Q31, Q32, sc, Q33, Q34, Q35, Q36, Q37, Q26, Q38, Q39, n0gt, n1gt, n2gt, n0eq, zjQ, n1eq, n2eq, n0ne, n1ne, zjP, zjR, i0ne, i0eq, Bool.not_true, Bool.not_false, List.length_map, List.length_set, Nat.sub_zero, Nat.zero_add, a] | with_reducible refine andA ?_ | fail); exact h.go) : P := e a ⟨h⟩
theorem c_r7does {σ : List zc} {id t g : Nat} {T : zak} {o : TOp} (hT : zbT σ id t g T) (hn : T.l.length ≤ 8) (hX : ∀ x ∈ T.l, TopI x) (h1 : o.topic.length ≤ 1073741824) (h2 : o.group.length ≤ 1073741824) (ho : o.recs.length ≤ 20971520) (hr : ∀ r ∈ o.recs, r.length ≤ 1073741824) {K : KT}
    (hK : ∀ S t' g', zbT S id t' g' (zaU T o).2.2 → ziP σ S id → K (.tup [.agg [.d (.int .i64 (zaU T o).1.1), .d (.int .i64 (zaU T o).1.2)], .d (.slice (zch (zaU T o).2.1))]) S) : zn Tryz.prog zeQ [.box id 0, opA o] σ K := by
  refine zaj zhg.is rfl fun hl _ => zhg.goes ?_
  have hid := zg hT.box
  have done : ∀ z, zaU T o = z → ∀ S t' g', zbT S id t' g' z.2.2 → ziP σ S id → K (.tup [.agg [.d (.int .i64 z.1.1), .d (.int .i64 z.1.2)], .d (.slice (zch z.2.1))]) S := fun z h => h ▸ hK
  clear hK
  have same : ∀ e τ, zaU T o = ((e, 0), [], T) → zli K (some [.agg [.d (.int .i64 e), .d (.int .i64 0)], .exact []]) (σ ++ τ) := fun e τ h => zaO (done _ h _ t g (hT.app _) (.app _ _ _))
  -- what a call has left, with the result's box
  have after : ∀ {S : List zc}, ziP (σ ++ [.box [.d (.int .i64 o.kind), .d (.str o.topic), .d (.str o.group), .d (.int .i64 o.offset), .d (.slice (zK o.recs))], .box [.d (.int .i64 0), .d (.int .i64 0)]]) S id → S[σ.length + 1]? = some (.box [.d (.int .i64 0), .d (.int .i64 0)]) := fun h =>
    h.get _ _ (by rw [zE]; rfl) (by omega) (fun _ _ _ e => by cases e)
  simp only [zhn, iN, bT, bF, eN, opA]
  refine zby ?_
  refine c_rCheck (o := o) h1 h2 (by omega) ?_
  cases c0 : (zaD zaZ o != 0)
  rotate_left
  · refine zt c0 ?_
    refine zcS ?_
    refine zby ?_
    exact same _ _ (by rw [zaU, if_pos (by simpa using c0)])
  have d0 : ∀ z, (if o.kind = 0 then ((0, 0), [], T)
    else if o.kind = 1 then ((zaY T o.topic).1, [], (zaY T o.topic).2)
    else match atF o.topic T.l 0 with
      | none => ((4, 0), [], T)
      | some i => match T.l[i]? with
        | none => ((4, 0), [], T)
        | some x => if o.kind = 2 then zbH T i x o
          else if o.kind = 3 then ((zaV T i x o).1, [], (zaV T i x o).2)
          else ((zib T i x o).1, [], (zib T i x o).2)) = z → zaU T o = z := fun z h => by
    rw [zaU, if_neg (by simpa using c0)]; exact h
  cases c1 : (o.kind == 0)
  rotate_left
  · refine zt (zb c0 c1) ?_
    exact same _ _ (d0 _ (by rw [if_pos (by simpa using c1)]))
  have k1 : ¬ o.kind = 0 := by simpa using c1
  cases c2 : (o.kind == 1)
  rotate_left
  · refine zt (zb c0 (zb c1 c2)) ?_
    refine c_r7create (hT.app _) hn fun S t' g' hT' hS' => ?_
    have hg := after hS'
    have hgs : ∀ Y, (S.set (σ.length + 1) Y)[σ.length + 1]? = some Y := fun Y => List.getElem?_set_self (zg hg)
    refine zt (zb hg hgs) ?_
    have hF : zaU T o = ((zaY T o.topic).1, [], (zaY T o.topic).2) := d0 _ (by rw [if_neg k1, if_pos (by simpa using c2)])
    exact zaO (done _ hF _ t' g' (hT'.setB hg (by omega)) (hS'.setB (by omega)))
  have k2 : ¬ o.kind = 1 := by simpa using c2
  refine zt (zb c0 (zb c1 c2)) ?_
  refine c_r7at (hT.app _) (by omega) ?_
  cases c3 : atF o.topic T.l 0 with
  | none =>
    refine zt (show decide ((-1 : Int) < 0) = true from rfl) ?_
    refine zcS ?_
    refine zby ?_
    exact same _ _ (d0 _ (by rw [if_neg k1, if_neg k2, c3]))
  | some i =>
    have hi : i < T.l.length := by have := atF_lt c3; omega
    have hx : T.l[i]? = some T.l[i] := by simp [hi]
    have hXx := hX _ (List.getElem_mem hi)
    obtain ⟨x, hxe⟩ : ∃ x, T.l[i] = x := ⟨_, rfl⟩
    rw [hxe] at hx hXx
    have dd : decide ((i : Int) < 0) = false := by simp
    cases c4 : (o.kind == 2)
    rotate_left
    · refine zt (zb dd c4) ?_
      refine c_r7publish (o := o) (hT.app _) hn hx hXx ho hr fun S hT' hS' => ?_
      have hg := after hS'
      have hgs : ∀ Y, (S.set (σ.length + 1) Y)[σ.length + 1]? = some Y := fun Y => List.getElem?_set_self (zg hg)
      refine zt (zb hg hgs) ?_
      have hF : zaU T o = zbH T i x o := d0 _ (by rw [if_neg k1, if_neg k2, c3]; simp only [hx]; rw [if_pos (by simpa using c4)])
      exact zaO (done _ hF _ t g (hT'.setB hg (by omega)) (hS'.setB (by omega)))
    have k4 : ¬ o.kind = 2 := by simpa using c4
    cases c5 : (o.kind == 3)
    rotate_left
    · refine zt (zb dd (zb c4 c5)) ?_
      refine c_r7commit (o := o) (hT.app _) hn hx hXx fun S hT' hS' => ?_
      have hg := after hS'
      have hgs : ∀ Y, (S.set (σ.length + 1) Y)[σ.length + 1]? = some Y := fun Y => List.getElem?_set_self (zg hg)
      refine zt (zb hg hgs) ?_
      have hF : zaU T o = ((zaV T i x o).1, [], (zaV T i x o).2) := d0 _ (by rw [if_neg k1, if_neg k2, c3]; simp only [hx]; rw [if_neg k4, if_pos (by simpa using c5)])
      exact zaO (done _ hF _ t g (hT'.setB hg (by omega)) (hS'.setB (by omega)))
    have k5 : ¬ o.kind = 3 := by simpa using c5
    have hz : ∀ z, zib T i x o = z → zaU T o = (z.1, [], z.2) := fun z h => d0 _ (by rw [if_neg k1, if_neg k2, c3]; simp only [hx]; rw [if_neg k4, if_neg k5, h])
    have hb := hT.box
    have hrw := hT.row
    have xb : ∀ τ, (σ ++ τ)[id]? = _ := fun τ => zf hb
    have xr : ∀ τ, (σ ++ τ)[t]? = _ := fun τ => zf hrw
    have f4 := zbL T.l
    have hgt : List.take 4 (List.drop (i * 4) (zT (zaE T.l))) = (topD x).map .d := zhc f4 (zbo hx)
    have hlenA : (zT (zaE T.l)).length = T.l.length * 4 := by rw [zdp f4, List.length_map]
    have hlf : (zaE T.l).flatten.length = T.l.length * 4 := by rw [← hlenA, zT, List.length_map]
    have hi4 : i * 4 + 4 ≤ T.l.length * 4 := by omega
    have n1 := hXx.base; have n2 := hXx.next; have n3 := hXx.recs
    have hnx : x.next = x.base + x.recs.length := rfl
    have n64 : -9223372036854775808 ≤ x.next ∧ x.next ≤ 9223372036854775807 := by omega
    have ht := zg hrw
    have xs : ∀ Y τ, (σ ++ τ).set t Y = σ.set t Y ++ τ := fun Y τ => List.set_append_left _ _ ht
    have gs0 : ∀ Y τ, (σ.set t Y ++ τ)[σ.length]? = τ[0]? := fun Y τ => by rw [List.getElem?_append_right (by simp)]; simp
    have gs1 : ∀ Y τ, (σ.set t Y ++ τ)[σ.length + 1]? = τ[1]? := fun Y τ => by rw [List.getElem?_append_right (by simp)]; simp
    have ss1 : ∀ Y τ b, (σ.set t Y ++ τ).set (σ.length + 1) b = σ.set t Y ++ τ.set 1 b := fun Y τ b => by rw [List.set_append_right _ _ (by simp)]; simp
    cases c6 : decide (o.offset < x.base)
    rotate_left
    · refine zmq (zb dd (zb c4 (zb c5 (zb c6 (zb xb (zb xr (zb hgt (zb hlf hi4)))))))) ?_
      refine zcS ?_
      refine zby ?_
      exact same _ _ (hz _ (by rw [zib, if_pos (.inl (by simpa using c6))]))
    refine zmq (zb dd (zb c4 (zb c5 (zb c6 (zb xb (zb xr (zb hgt (zb hlf hi4)))))))) ?_
    refine zev n64 ?_
    cases c7 : decide (o.offset > x.next)
    rotate_left
    · refine zt c7 ?_
      refine zcS ?_
      refine zby ?_
      exact same _ _ (hz _ (by rw [zib, if_pos (.inr (by simpa using c7))]))
    have c6' : ¬ o.offset < x.base := by simpa using c6
    have c7' : ¬ o.offset > x.next := by simpa using c7
    have w1 : IntKind.i64.wrap (o.offset - x.base) = ((o.offset - x.base).toNat : Int) := by rw [zam (by omega) (by omega)]; omega
    have hrl := zo x.recs
    have hne : id ≠ t := fun e => by subst e; rw [hb] at hrw; cases hrw
    have xb2 : ∀ Y τ, (σ.set t Y ++ τ)[id]? = _ := fun Y τ => zf ((List.getElem?_set_ne (Ne.symm hne)).trans hb)
    have xr2 : ∀ Y τ, (σ.set t Y ++ τ)[t]? = some Y := fun Y τ => zf (List.getElem?_set_self ht)
    have xs2 : ∀ Y τ Z, (σ.set t Y ++ τ).set t Z = σ.set t Z ++ τ := fun Y τ Z => by rw [List.set_append_left _ _ (by simpa using ht), List.set_set]
    have rdr : ∀ n, List.drop n (List.take x.recs.length (zK x.recs)) = zK (x.recs.drop n) := fun n => by
      rw [← hrl, List.take_length]; simp only [zK, List.map_drop]
    have hcut : ∀ X, List.take (i * 4 + 2) (zT (zaE T.l)) ++ X :: List.drop (i * 4 + 3) (zT (zaE T.l)) = (zT (zaE T.l)).set (i * 4 + 2) X := fun X => by
      rw [List.set_eq_take_append_cons_drop, if_pos (by omega)]
    have hcut2 : ∀ Y X, List.take (i * 4 + 1) ((zT (zaE T.l)).set (i * 4 + 2) Y) ++ X :: List.drop (i * 4 + 2) ((zT (zaE T.l)).set (i * 4 + 2) Y) = ((zT (zaE T.l)).set (i * 4 + 2) Y).set (i * 4 + 1) X := fun Y X => by
      rw [List.set_eq_take_append_cons_drop (l := (zT (zaE T.l)).set (i * 4 + 2) Y), if_pos (by rw [List.length_set]; omega)]
    refine gq23 (zb c7 (zb xb (zb xr (zb xs (zb xb2 (zb xr2 (zb xs2 (zb gs0 (zb gs1 (zb ss1 (zb hrl (zb w1 (zb hlf (zb hi4 (zb rdr (zb hcut hcut2)))))))))))))))) ?_
    have hl1 : (List.drop (o.offset - x.base).toNat x.recs).length ≤ 64 := by rw [List.length_drop]; omega
    refine ⟨zgX _, zgX _, by simp, by omega, by omega, by omega, by omega, by omega, by omega, by omega, ?_⟩
    obtain ⟨R, hR⟩ : ∃ R, List.drop (o.offset - x.base).toNat x.recs = R := ⟨_, rfl⟩
    simp only [hR]
    have hF := hz _ (show zib T i x o = ((0, o.offset), { T with l := T.l.set i { x with recs := R, base := o.offset } }) by rw [zib, if_neg (by omega), hR])
    have hset : (((zT (zaE T.l)).set (i * 4 + 2) (.own (σ.length + 3) (zK R))).set (i * 4 + 1) (.d (.int .i64 o.offset))).set (i * 4 + 2) (.d (.slice (zK R))) = zT (zaE (T.l.set i { x with recs := R, base := o.offset })) := by
      rw [List.set_comm _ _ (show i * 4 + 1 ≠ i * 4 + 2 by omega), List.set_set, zkM f4 (zbo hx) (by omega)]
      have f4' : ∀ e ∈ (zaE T.l).set i ((topD x).set 2 (.slice (zK R))), e.length = 4 := fun e he => by
        rcases List.mem_or_eq_of_mem_set he with h | rfl
        · exact f4 e h
        · rfl
      rw [zkM f4' (k := i) (e := (topD x).set 2 (.slice (zK R))) (by rw [List.getElem?_set_self (by simp [hi])]) (by omega), List.set_set, zaE, zaE, List.map_set]; rfl
    refine ⟨_, .dataR t (i * 4 + 2) g 4 (((zT (zaE T.l)).set (i * 4 + 2) (.own (σ.length + 3) (zK R))).set (i * 4 + 1) (.d (.int .i64 o.offset))) (.own (σ.length + 3) (zK R)) (zK R) (xr2 _ _) (by rw [List.getElem?_set_ne (by omega), List.getElem?_set_self (by omega)]) rfl (.refl _ _), ?_⟩
    rw [xs2, hset]
    refine done _ hF _ t g ⟨?_, xr2 _ _, hT.last⟩ ⟨by simp, fun j y hy hj hr => ?_⟩
    · rw [xb2]; simp
    · refine zf ?_
      rw [List.getElem?_set_ne (fun e => by subst e; rw [hrw] at hy; cases hy; exact hr _ _ _ rfl)]
      exact hy
end Go.Proofs.YtaocmalhjfakdaaGreat
