/- A map's keys (numbers), sorted. -/
import Derived.Test.YtjjchfbckfopkaaGreatSs2
import Derived.Test.YtjjchfbckfopkaaGreatAwAll
import Derived.Test.YtjjchfbckfopkaaGreatSpHdr
set_option linter.all false
set_option maxRecDepth 100000
set_option linter.unusedSimpArgs false
set_option linter.unusedVariables false
namespace Go.Proofs.YtjjchfbckfopkaaGreat
open Go.AW

abbrev ziT (l : List Int) : List AV := l.map fun x => .d (.int .i64 x)
inductive KS where
  | start
  | run (c : Nat) (bs : List Nat) (it : Nat) (seen : List Nat) (ys : List Int)
  | fin (ys : List Int)
def KS.ys : KS → List Int
  | .start => []
  | .run _ _ _ _ ys => ys
  | .fin ys => ys
def KS.map (m : Nat) (es : List (AV × AV)) (n : Nat) : KS → List zb → Prop
  | .start, s => s[m]? = some (.map es)
  | .run c bs it seen ys, s => s[m]? = some (.mapr c bs es) ∧ s[it]? = some (.mit (some m) c seen) ∧ n + 1 < it
  | .fin _, s => s[m]? = some (.map es)
structure KJ (B : List zb) (R : zb) (a t m : Nat) (es : List (AV × AV)) (i : KS) (s : List zb) : Prop where
  len : B.length + 1 < s.length
  r : s[B.length + 1]? = some R
  out : ∀ j, j < B.length → j ≠ a → j ≠ t → j ≠ m → s[j]? = B[j]?
  box : ∃ g, s[a]? = some (.box [.rsl t g 1 0 i.ys.length]) ∧ s[t]? = some (.row g 1 (ziT i.ys))
  map : i.map m es B.length s
def KNx (names : List Int) (i : KS) (x : List AV) (i' : KS) : Prop := ∃ c bs it seen ys k, i = .run c bs it seen ys ∧ x = [.d (.int .i64 k)] ∧ ys.length < names.length ∧ i' = .run c bs it seen (ys ++ [k])
def KFin (names : List Int) (i : KS) : Prop := ∃ ys, i = .fin ys ∧ ys.Perm names
def zim (P : Program) (x0 x1 : AV) (σ : LO) (Z : ZT) : Prop :=
 zj false 1 x1 σ fun a s =>
 zhq a s fun b s =>
 zbA [] s fun v s c =>
 zle b s fun d s =>
 zd d 0 s fun e s =>
 zt e (zhy b s fun f s =>
 zd f 0 s fun g s =>
 zak P x0 [dm g] s fun h s =>
 unC .not h s fun i s =>
 zt i (Z (some []) s) (c [] s)) (Z (some []) s)
theorem key_of {es : List (AV × AV)} {names : List Int} (hes : es.map Prod.fst = ziT names) {i : Nat} {e : AV × AV} (h : es[i]? = some e) : ∃ k, names[i]? = some k ∧ e.1 = .d (.int .i64 k) := by
  have h1 : (es.map Prod.fst)[i]? = some e.1 := by rw [List.getElem?_map, h]; rfl
  rw [hes, List.getElem?_map] at h1
  obtain ⟨k, h2, h3⟩ := Option.map_eq_some_iff.1 h1
  exact ⟨k, h2, h3.symm⟩
theorem sort_ints {ys L : List Int} (hp : ys.Perm L) (hs : L.Pairwise (· < ·)) : (ys.mergeSort fun x y => decide (x ≤ y)) = L := by
  have h1 : (ys.mergeSort fun x y => decide (x ≤ y)).Perm L := (List.mergeSort_perm ys _).trans hp
  have h2 := List.pairwise_mergeSort (le := fun x y : Int => decide (x ≤ y)) (fun a b c hab hbc => by simp only [decide_eq_true_eq] at *; omega) (fun a b => by have := Int.le_total a b; simpa using this) ys
  refine List.Perm.eq_of_pairwise (le := fun x y => x ≤ y) (fun a b _ _ h3 h4 => Int.le_antisymm h3 h4) ?_ ?_ h1
  · exact h2.imp fun h => by simpa using h
  · exact hs.imp fun h => Int.le_of_lt h
section

variable {B : List zb} {R : zb} {a t m : Nat} {es : List (AV × AV)} {names : List Int}

theorem gq41 {A P Q : Prop} (a : A) (h : Q) (e : A → Hd Q → P := by intro a h; (repeat' first | simp -dsimp only [↓zex, ↓zav, ↓zbj, ↓zey, ↓zer, ↓zep, ↓zes, ↓zeq, ↓zbo, ↓zbk, ↓zbp, ↓zbl, ↓zet, ↓zbh, ↓zbq, ↓zbm, ↓zbr, ↓zbn, ↓zem, ↓zew, ↓zbg, ↓zbt, ↓zeh, ↓zeg, ↓zel, iN, bT, bF, eN, ↓zcm, ↓unC, ↓zU, ↓zE, ↓zF, ↓zK, ↓zab, ↓zaA, ↓zct, ↓zY, ↓zbd, ↓zX, ↓zj, ↓zq, ↓zbI, ↓zf, ↓zac, ↓zJ, ↓zaB, ↓zaK, ↓zd, ↓zD, ↓zn, ↓zr, ↓zal, ↓zcE, ↓zcM, ↓zak, ↓zas, ↓zaG, ↓zaM, ↓zaS, ↓zl, ↓zae, ↓zG, ↓zo, ↓zZ, zcK, zbc, zba, unA, zcS, bnd, zdq, zaa, zai, zdr, dm, dm1, zP, zaC, zdL, zdK, zT, Q0, Q1, Q2, Q3, Q4, Q5, zS, zh, zm, zw, zA, Q6, Q7, Q8, Q9, Q10, Q11, Q12, Q13, Q14, Nat.reduceAdd, Q15, Int.reduceToNat, Q16, Q17, Q18, Q19, Q20, reduceIte, Q21, Q22, zx, rep, zV, zei, toD, zaf, Q23, Q24, Q25, Q26, Q27, Q28, Nat.reduceLeDiff, Q29, Nat.reduceSub, Q30, Q31, Q32, sc, Q33, Q34, Q35, Q36, Q37, Q26, Q38, Q39, zlI, zlF, zlC, zlJ, zeI, zlG, zlD, zlH, zlE, zeH, zeJ, zlL, zlM, Bool.not_true, Bool.not_false, List.length_map, a] | with_reducible refine zlY ?_ | fail); exact h.go) : P := e a ⟨h⟩
theorem gq42 {P Q : Prop} (h : Q) (e : Hd Q → P := by intro h; (repeat' first | simp -dsimp only [↓zex, ↓zav, ↓zbj, ↓zey, ↓zer, ↓zep, ↓zes, ↓zeq, ↓zbo, ↓zbk, ↓zbp, ↓zbl, ↓zet, ↓zbh, ↓zbq, ↓zbm, ↓zbr, ↓zbn, ↓zem, ↓zew, ↓zbg, ↓zbt, ↓zeh, ↓zeg, ↓zel, iN, bT, bF, eN, ↓zcm, ↓unC, ↓zU, ↓zE, ↓zF, ↓zK, ↓zab, ↓zaA, ↓zct, ↓zY, ↓zbd, ↓zX, ↓zj, ↓zq, ↓zbI, ↓zf, ↓zac, ↓zJ, ↓zaB, ↓zaK, ↓zd, ↓zD, ↓zn, ↓zr, ↓zal, ↓zcE, ↓zcM, ↓zak, ↓zas, ↓zaG, ↓zaM, ↓zaS, ↓zl, ↓zae, ↓zG, ↓zo, ↓zZ, zcK, zbc, zba, unA, zcS, bnd, zdq, zaa, zai, zdr, dm, dm1, zP, zaC, zdL, zdK, zT, Q0, Q1, Q2, Q3, Q4, Q5, zS, zh, zm, zw, zA, Q6, Q7, Q8, Q9, Q10, Q11, Q12, Q13, Q14, Nat.reduceAdd, Q15, Int.reduceToNat, Q16, Q17, Q18, Q19, Q20, reduceIte, Q21, Q22, zx, rep, zV, zei, toD, zaf, Q23, Q24, Q25, Q26, Q27, Q28, Nat.reduceLeDiff, Q29, Nat.reduceSub, Q30, Q31, Q32, sc, Q33, Q34, Q35, Q36, Q37, Q26, Q38, Q39, zlI, zlF, zlC, zlJ, zeI, zlG, zlD, zlH, zlE, zeH, zeJ, zlL, zlM, Bool.not_true, Bool.not_false, List.length_map] | with_reducible refine zlY ?_ | fail); exact h.go) : P := e ⟨h⟩
theorem c_keysRun {f : FuncId} (hf : F2 Tryz.prog f zim) {l bx : Nat} (hes : es.map Prod.fst = ziT names) (hbx : B[bx]? = some (.box [.map m])) (hB : m < B.length ∧ bx ≠ a ∧ bx ≠ t ∧ bx ≠ m ∧ a ≠ m ∧ t ≠ m ∧ a < B.length ∧ t < B.length) {s : List zb} (hJ : KJ B R a t m es .start s)
    (hY : ∀ i x i' s, KNx names i x i' → KJ B R a t m es i s → zpV Tryz.prog l x s fun v s' => v = .d (.bool true) ∧ KJ B R a t m es i' s') :
    zp Tryz.prog f [.fn (.yield l) [] [], .box bx 0] s fun _ s => ∃ i, KFin names i ∧ KJ B R a t m es i s := by
  obtain ⟨b1, b2, b3, b4, b5, b6, b7, b8⟩ := hB
  have hlen : es.length = names.length := by have := congrArg List.length hes; simpa using this
  have hlb := zco hbx
  have h1 : s[bx]? = some (.box [.map m]) := (hJ.out bx hlb b2 b3 b4).trans hbx
  have h2 : s[m]? = some (.map es) := hJ.map
  have hsl := hJ.len
  refine zez hf.is rfl fun hl _ => hf.goes ?_
  simp only [zim]
  refine gq41 h1 ?_
  simp only [zhq, h2]
  intro c bs hbl hbn
  refine zB es.length (fun k vs S => vs = [] ∧ ∃ seen ys, seen.length = k ∧ zgQ bs names seen ys ∧ seen.Nodup ∧ KJ B R a t m es (.run c bs s.length seen ys) S) ⟨rfl, [], [], rfl, .nil, .nil, ?_⟩ ?_
  · obtain ⟨g, h3, h4⟩ := hJ.box
    have hm := zco h2
    refine ⟨by simp; omega, zk ((List.getElem?_set_ne (by omega)).trans hJ.r), fun j hj x1 x2 x3 => ?_, ⟨g, zk ((List.getElem?_set_ne (Ne.symm b5)).trans h3), zk ((List.getElem?_set_ne (Ne.symm b6)).trans h4)⟩, zk (List.getElem?_set_self hm), ?_, by omega⟩
    · rw [List.getElem?_append_left (by simp; omega), List.getElem?_set_ne (Ne.symm x3)]
      exact hJ.out j hj x1 x2 x3
    · rw [List.getElem?_append_right (by simp)]; simp
  rintro k vs S hk ⟨rfl, seen, ys, rfl, hS, hn, hJ'⟩
  obtain ⟨g1, g2, g3⟩ := hJ'.map
  have hml := zco g1
  have hil := zco g2
  obtain ⟨g, g4, g5⟩ := hJ'.box
  have hmi : m ≠ s.length := by omega
  simp only [zle, g1, g2]
  refine ⟨trivial, fun hall => ?_, fun i b e hb he hnb => ?_⟩
  · refine gq42 ?_
    refine zmW ⟨.fin ys, ⟨ys, rfl, hS.perm hn hbn (by omega) hall⟩, ?_, ?_, fun j hj x1 x2 x3 => ?_, ⟨g, ?_, ?_⟩, ?_⟩
    · simpa using hJ'.len
    · exact (List.getElem?_set_ne (by omega)).trans hJ'.r
    · rw [List.getElem?_set_ne (Ne.symm x3)]
      exact hJ'.out j hj x1 x2 x3
    · exact (List.getElem?_set_ne (Ne.symm b5)).trans g4
    · exact (List.getElem?_set_ne (Ne.symm b6)).trans g5
    · exact List.getElem?_set_self hml
  · obtain ⟨nm, hk1, hk2⟩ := key_of hes he
    have hbm := List.mem_of_getElem? hb
    have hlt := hS.lt hn (by omega) hbm hnb
    have hS' := hS.snoc hb hk1
    refine gq42 ?_
    have q1 : (S.set s.length (.mit (some m) c (seen ++ [b])))[m]? = some (.mapr c bs es) := (List.getElem?_set_ne (Ne.symm hmi)).trans g1
    have q2 : (S.set s.length (.mit (some m) c (seen ++ [b])))[s.length]? = some (.mit (some m) c (seen ++ [b])) := List.getElem?_set_self hil
    simp only [zhy, q1, q2]
    refine ⟨trivial, i, b, e, by simp, hb, he, ?_⟩
    refine gq41 hk2 ?_
    have hJ2 : KJ B R a t m es (.run c bs s.length (seen ++ [b]) ys) (S.set s.length (.mit (some m) c (seen ++ [b]))) :=
      ⟨by simpa using hJ'.len, (List.getElem?_set_ne (by omega)).trans hJ'.r, fun j hj x1 x2 x3 => (List.getElem?_set_ne (by omega)).trans (hJ'.out j hj x1 x2 x3), ⟨g, (List.getElem?_set_ne (by omega)).trans g4, (List.getElem?_set_ne (by omega)).trans g5⟩, q1, q2, g3⟩
    refine (hY _ _ _ _ ⟨c, bs, s.length, seen ++ [b], ys, nm, rfl, rfl, hlt, rfl⟩ hJ2).mono ?_
    rintro r s' ⟨rfl, hJ3⟩
    refine gq42 ?_
    have hkl : seen.length < es.length := by rw [hS.1]; omega
    refine zaP.next hkl ⟨rfl, seen ++ [b], ys ++ [nm], by simp, hS', ?_, hJ3⟩
    rw [List.nodup_append]
    exact ⟨hn, by simp, fun x hx y hy => by simp at hy; subst hy; exact fun e => hnb (e ▸ hx)⟩
end

section

variable {σ : List zb} {t m bx : Nat} {es : List (AV × AV)} {names : List Int} {K : AV → List zb → Prop}

theorem gqc5 {A B : Prop} (a : A) (b : B) : A ∧ B := ⟨a, b⟩
theorem gq43 {A P Q : Prop} (a : A) (h : Q) (e : A → Hd Q → P := by intro a h; (repeat' first | simp -dsimp only [↓zex, ↓zav, ↓zbj, ↓zey, ↓zer, ↓zep, ↓zes, ↓zeq, ↓zbo, ↓zbk, ↓zbp, ↓zbl, ↓zet, ↓zbh, ↓zbq, ↓zbm, ↓zbr, ↓zbn, ↓zem, ↓zew, ↓zbg, ↓zbt, ↓zeh, ↓zeg, ↓zel, iN, bT, bF, eN, ↓zcm, ↓unC, ↓zU, ↓zE, ↓zF, ↓zK, ↓zab, ↓zaA, ↓zct, ↓zY, ↓zbd, ↓zX, ↓zj, ↓zq, ↓zbI, ↓zf, ↓zac, ↓zJ, ↓zaB, ↓zaK, ↓zd, ↓zD, ↓zn, ↓zr, ↓zal, ↓zcE, ↓zcM, ↓zak, ↓zas, ↓zaG, ↓zaM, ↓zaS, ↓zl, ↓zae, ↓zG, ↓zo, ↓zZ, zcK, zbc, zba, unA, zcS, bnd, zdq, zaa, zai, zdr, dm, dm1, zP, zaC, zdL, zdK, zT, Q0, Q1, Q2, Q3, Q4, Q5, zS, zh, zm, zw, zA, Q6, Q7, Q8, Q9, Q10, Q11, Q12, Q13, Q14, Nat.reduceAdd, Q15, Int.reduceToNat, Q16, Q17, Q18, Q19, Q20, reduceIte, Q21, Q22, zx, rep, zV, zei, toD, zaf, Q23, Q24, Q25, Q26, Q27, Q28, Nat.reduceLeDiff, Q29, Nat.reduceSub, Q30, Q31, Q32, sc, Q33, Q34, Q35, Q36, Q37, Q26, Q38, Q39, zlI, zlF, zlC, zlJ, zeI, zlG, zlD, zlH, zlE, zeH, zeJ, zlL, zlM, Bool.not_true, Bool.not_false, List.length_map, Nat.sub_zero, zgJ, zmQ, zaO, a] | with_reducible refine zlY ?_ | fail); exact h.go) : P := e a ⟨h⟩
theorem c_appendKeys {f : FuncId} (hf : F2 Tryz.prog f zim) (hes : es.map Prod.fst = ziT names) (hn : names.length ≤ 1000000) (ht : σ[t]? = some (.row 0 1 [])) (hbx : σ[bx]? = some (.box [.map m])) (hm : σ[m]? = some (.map es))
    (hK : ∀ ys g S, ys.Perm names → σ.length ≤ S.length → S[t]? = some (.row g 1 (ziT ys)) → (∀ j, j < σ.length → j ≠ t → S[j]? = σ[j]?) → K (.rsl t g 1 0 ys.length) S) :
    zp Tryz.prog zbi [.rsl t 0 1 0 0, .fn (.func f) [] [.box bx 0]] σ K := by
  refine zez zbZ.is rfl fun hl _ => zbZ.goes ?_
  have l1 := zco ht; have l2 := zco hbx; have l3 := zco hm
  have n1 : bx ≠ t := fun e => by rw [e, ht] at hbx; cases hbx
  have n2 : bx ≠ m := fun e => by rw [e, hm] at hbx; cases hbx
  have n3 : t ≠ m := fun e => by rw [e, hm] at ht; cases ht
  simp only [zcc, iN, bT, bF, eN]
  refine gq42 ?_
  obtain ⟨B, hB⟩ : ∃ B, σ ++ [zb.box [.rsl t 0 1 0 0]] = B := ⟨_, rfl⟩
  have hBl : B.length = σ.length + 1 := by rw [← hB]; simp
  have hBo : ∀ j, j < σ.length → B[j]? = σ[j]? := fun j hj => by rw [← hB]; exact List.getElem?_append_left hj
  have hBa : B[σ.length]? = some (.box [.rsl t 0 1 0 0]) := by rw [← hB, zm]; rfl
  rw [hB]
  simp only [zkk]
  intro l r vs
  refine ⟨KS, KJ B (.lrec l r vs) σ.length t m es, .start, KNx names, KFin names, ?_, ?_, fun i s h => h.r, ?_, ?_, ?_⟩
  · rintro i x i' ⟨c, bs, it, seen, ys, k, rfl, rfl, _, _⟩; rfl
  · refine ⟨by simp, ?_, fun j hj _ _ _ => List.getElem?_append_left hj, ⟨0, zk hBa, zk ((hBo t l1).trans ht)⟩, zk ((hBo m l3).trans hm)⟩
    rw [List.getElem?_append_right (by omega)]; simp
  · intro hY
    refine c_keysRun hf hes ((hBo bx l2).trans hbx) ⟨by omega, by omega, n1, n2, by omega, n3, by omega, by omega⟩ ?_ hY
    refine ⟨by simp, ?_, fun j hj _ _ _ => List.getElem?_append_left hj, ⟨0, zk hBa, zk ((hBo t l1).trans ht)⟩, zk ((hBo m l3).trans hm)⟩
    rw [List.getElem?_append_right (by omega)]; simp
  · rintro i x i' s ⟨c, bs, it, seen, ys, k, rfl, rfl, hlt, rfl⟩ hJ
    obtain ⟨g, g1, g2⟩ := hJ.box
    obtain ⟨g3, g4, g5⟩ := hJ.map
    have e1 := hJ.len
    have e2 := zco g4
    have hr := hJ.r
    obtain ⟨RB, hRB⟩ : ∃ RB, zb.lrec l { r with state := .busy } vs = RB := ⟨_, rfl⟩
    obtain ⟨R, hR⟩ : ∃ R, zb.lrec l r vs = R := ⟨_, rfl⟩
    rw [hR] at hr hJ
    rw [hR, hRB]
    obtain ⟨S, hS⟩ : ∃ S, s.set (B.length + 1) RB = S := ⟨_, rfl⟩
    have hSl : S.length = s.length := by rw [← hS]; simp
    have h1 : ∀ j, j ≠ B.length + 1 → S[j]? = s[j]? := fun j hj => by rw [← hS]; exact List.getElem?_set_ne (Ne.symm hj)
    have ea : S[σ.length]? = some (.box [.rsl t g 1 0 ys.length]) := (h1 _ (by omega)).trans g1
    have et : ∀ τ, (S ++ τ)[t]? = some (.row g 1 (ziT ys)) := fun τ => zk ((h1 _ (by omega)).trans g2)
    have eb : S[B.length + 1]? = some RB := by rw [← hS]; exact List.getElem?_set_self e1
    have ela : ∀ a τ, (S ++ a :: τ)[s.length]? = some a := fun a τ => by rw [← hSl]; exact zm ..
    have es1 : ∀ Y τ, (S ++ τ).set t Y = S.set t Y ++ τ := fun Y τ => List.set_append_left _ _ (by omega)
    have ea2 : ∀ Y τ, (S.set t Y ++ τ)[σ.length]? = some (.box [.rsl t g 1 0 ys.length]) := fun Y τ => zk ((List.getElem?_set_ne (by omega)).trans ea)
    have es2 : ∀ Y Z τ, (S.set t Y ++ τ).set σ.length Z = (S.set t Y).set σ.length Z ++ τ := fun Y Z τ => List.set_append_left _ _ (by simp; omega)
    have eb2 : ∀ Y Z τ, ((S.set t Y).set σ.length Z ++ τ)[B.length + 1]? = some RB := fun Y Z τ => zk ((List.getElem?_set_ne (by omega)).trans ((List.getElem?_set_ne (by omega)).trans eb))
    refine gq43 (gqc5 hr (gqc5 hS (gqc5 hSl (gqc5 ea (gqc5 et (gqc5 ela (gqc5 es1 (gqc5 es2 (gqc5 ea2 eb2))))))))) ?_
    have look : ∀ (j : Nat) (x : zb), j ≠ t → j ≠ σ.length → j ≠ B.length + 1 → s[j]? = some x → ∀ Y Z τ, (((S.set t Y).set σ.length Z ++ τ).set (B.length + 1) R)[j]? = some x := fun j x x1 x2 x3 h Y Z τ => by
      rw [List.getElem?_set_ne (Ne.symm x3)]
      exact zk (by rw [List.getElem?_set_ne (Ne.symm x2), List.getElem?_set_ne (Ne.symm x1)]; exact (h1 j x3).trans h)
    refine ⟨by simp; omega, List.getElem?_set_self (by simp; omega), fun j hj x1 x2 x3 => ?_, ⟨g + 1, ?_, ?_⟩, look _ _ (Ne.symm n3) (by omega) (by omega) g3 _ _ _, look _ _ (by omega) (by omega) (by omega) g4 _ _ _, g5⟩
    · have := hJ.out j hj x1 x2 x3
      rw [List.getElem?_eq_getElem hj] at this ⊢
      exact look _ _ x2 x1 (by omega) this _ _ _
    · rw [List.getElem?_set_ne (by omega), List.getElem?_append_left (by simp; omega), List.getElem?_set_self (by simp; omega)]
      simp [KS.ys]
    · rw [List.getElem?_set_ne (by omega), List.getElem?_append_left (by simp; omega), List.getElem?_set_ne (by omega), List.getElem?_set_self (by omega)]
      simp [KS.ys]
  · rintro i s ⟨ys, rfl, hp⟩ hJ
    obtain ⟨g, g1, g2⟩ := hJ.box
    have g3 : s[m]? = some (.map es) := hJ.map
    have e1 := hJ.len
    obtain ⟨S, hS⟩ : ∃ S, s.set (B.length + 1) (zb.lrec l { r with state := .exhausted } vs) = S := ⟨_, rfl⟩
    rw [hS]
    have hSl : S.length = s.length := by rw [← hS]; simp
    have h1 : ∀ j, j ≠ B.length + 1 → S[j]? = s[j]? := fun j hj => by rw [← hS]; exact List.getElem?_set_ne (Ne.symm hj)
    have ea : S[σ.length]? = some (.box [.rsl t g 1 0 ys.length]) := (h1 _ (by omega)).trans g1
    refine gq41 ea ?_
    refine zmW (hK ys g S hp (by omega) ((h1 _ (by omega)).trans g2) fun j hj hjt => ?_)
    rw [h1 _ (by omega)]
    by_cases e : j = m
    · subst e; exact g3.trans hm.symm
    · exact (hJ.out j (by omega) (by omega) hjt e).trans (hBo j hj)
theorem allO_frzK {σ : List zb} {n m : Nat} : ∀ ds : List D, allO ((ds.map AV.d).map (frz σ n m)) = some ds
  | [] => rfl
  | d :: ds => by
    have : frz σ n m (.d d) = some d := by cases m <;> rfl
    simp only [List.map_cons, this, allO, allO_frzK ds]
theorem znj : ∀ l : List Int, zaf 1 l.length (l.map (D.int .i64)) = l.map fun x => [D.int .i64 x]
  | [] => rfl
  | a :: l => by simp only [List.length_cons, List.map_cons, zaf, List.take_succ_cons, List.take_zero, List.drop_succ_cons, List.drop_zero, znj l]
theorem frz_strs {σ : List zb} {n₀ m t g : Nat} {L : List Int} (ht : σ[t]? = some (.row g 1 (ziT L))) (hn : n₀ ≤ t) : frz σ n₀ (m + 2) (.rsl t g 1 0 L.length) = some (.slice (L.map fun x => [.int .i64 x])) := by
  have e1 : (((ziT L).drop (0 * 1)).take ((L.length - 0) * 1)) = (L.map (D.int .i64)).map AV.d := by
    rw [List.map_map, Nat.zero_mul, List.drop_zero, List.take_of_length_le (by simp)]; rfl
  simp only [frz, ht, hn, true_and, and_self, if_true, e1]
  rw [allO_frzK]
  simp only [Nat.sub_zero, znj]
theorem zpR {f : FuncId} (hf : F2 Tryz.prog f zim) (hes : es.map Prod.fst = ziT names) (hn : names.length ≤ 1000000) (hbx : σ[bx]? = some (.box [.map m])) (hm : σ[m]? = some (.map es))
    (hK : ∀ ys g S, ys.Perm names → σ.length < S.length → S[σ.length]? = some (.row g 1 (ziT ys)) → (∀ j, j < σ.length → S[j]? = σ[j]?) → K (.rsl σ.length g 1 0 ys.length) S) :
    zp Tryz.prog zcs [.fn (.func f) [] [.box bx 0]] σ K := by
  refine zez zdD.is rfl fun hl _ => zdD.goes ?_
  simp only [zdH, iN, bT, bF, eN]
  refine zp.pre (.row 0 1 rfl (by omega) (.refl _ _)) ?_
  simp only [List.set_cons_zero]
  refine c_appendKeys hf hes hn (by rw [zm]; rfl) (zk hbx) (zk hm) fun ys g S hp hl hr ho => ?_
  simp only [List.length_append, List.length_cons, List.length_nil] at hl ho
  refine gq42 ?_
  exact zmW (hK ys g S hp (by omega) hr fun j hj => (ho j (by omega) (by omega)).trans (List.getElem?_append_left hj))
theorem c_sortedKeys {f : FuncId} (hf : F2 Tryz.prog f zim) {L : List Int} (hes : es.map Prod.fst = ziT names) (hn : names.length ≤ 1000000) (hbx : σ[bx]? = some (.box [.map m])) (hm : σ[m]? = some (.map es)) (hp : names.Perm L) (hs : L.Pairwise (· < ·))
    (hK : K (.d (.slice (L.map fun x => [.int .i64 x]))) σ) : zp Tryz.prog zcz [.fn (.func f) [] [.box bx 0]] σ K := by
  refine acall_frz zdR.is rfl 2 fun hl _ => zdR.goes ?_
  simp only [zdS, iN, bT, bF, eN]
  refine zpR hf hes hn hbx hm fun ys g S hy hlS hr ho => ?_
  refine gq42 ?_
  have hyl : ys.length ≤ 1000000 := by rw [hy.length_eq]; exact hn
  refine c_sortI hr (by omega) ?_
  rw [sort_ints (hy.trans hp) hs]
  refine gq42 ?_
  have hlen : ys.length = L.length := (hy.trans hp).length_eq
  have hS : (S.set σ.length (.row g 1 (ziT L))).take σ.length = σ := by
    apply List.ext_getElem?
    intro i
    rw [List.getElem?_take]
    split
    · rename_i hi
      rw [List.getElem?_set_ne (by omega)]; exact ho i hi
    · rw [List.getElem?_eq_none (by omega)]
  rw [hlen]
  obtain ⟨S', hS'⟩ : ∃ S', S.set σ.length (.row g 1 (ziT L)) = S' := ⟨_, rfl⟩
  have hr' : S'[σ.length]? = some (.row g 1 (ziT L)) := by rw [← hS']; exact List.getElem?_set_self hlS
  rw [hS'] at hS ⊢
  simp only [EndsF, zcf, frzT, frz1, frz_strs hr' (Nat.le_refl _), hS]
  exact ⟨hl, hK⟩
end

end Go.Proofs.YtjjchfbckfopkaaGreat
