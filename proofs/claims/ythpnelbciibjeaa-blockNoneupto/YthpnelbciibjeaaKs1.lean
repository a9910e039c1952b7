/- A map's keys, sorted. -/
import Derived.Test.YthpnelbciibjeaaSs1
import Derived.Test.YthpnelbciibjeaaAwAll
import Derived.Test.YthpnelbciibjeaaSpTake
import Derived.Test.YthpnelbciibjeaaTq1
set_option linter.all false
set_option maxRecDepth 100000
set_option linter.unusedSimpArgs false
set_option linter.unusedVariables false
namespace Go.Proofs.Ythpnelbciibjeaa
open Go.AW

abbrev zhT (l : List (List UInt8)) : List AV := l.map fun x => .d (.str x)
inductive KS where
  | start
  | run (c : Nat) (bs : List Nat) (it : Nat) (seen : List Nat) (ys : List (List UInt8))
  | fin (ys : List (List UInt8))
def KS.ys : KS → List (List UInt8)
  | .start => []
  | .run _ _ _ _ ys => ys
  | .fin ys => ys
def KS.map (m : Nat) (es : List (AV × AV)) (n : Nat) : KS → List zc → Prop
  | .start, s => s[m]? = some (.map es)
  | .run c bs it seen ys, s => s[m]? = some (.mapr c bs es) ∧ s[it]? = some (.mit (some m) c seen) ∧ n + 1 < it
  | .fin _, s => s[m]? = some (.map es)
structure KJ (B : List zc) (R : zc) (a t m : Nat) (es : List (AV × AV)) (i : KS) (s : List zc) : Prop where
  len : B.length + 1 < s.length
  r : s[B.length + 1]? = some R
  out : ∀ j, j < B.length → j ≠ a → j ≠ t → j ≠ m → s[j]? = B[j]?
  box : ∃ g, s[a]? = some (.box [.rsl t g 1 0 i.ys.length]) ∧ s[t]? = some (.row g 1 (zhT i.ys))
  map : i.map m es B.length s
def KNx (names : List (List UInt8)) (i : KS) (x : List AV) (i' : KS) : Prop := ∃ c bs it seen ys k, i = .run c bs it seen ys ∧ x = [.d (.str k)] ∧ ys.length < names.length ∧ i' = .run c bs it seen (ys ++ [k])
def KFin (names : List (List UInt8)) (i : KS) : Prop := ∃ ys, i = .fin ys ∧ ys.Perm names
def zgE (P : Program) (x0 x1 : AV) (σ : LO) (Z : ZT) : Prop :=
 zu false 1 x1 σ fun a s =>
 zfe a s fun b s =>
 zcO [] s fun v s c =>
 zgZ b s fun d s =>
 zd d 0 s fun e s =>
 zy e (zfn b s fun f s =>
 zd f 0 s fun g s =>
 zat P x0 [dm g] s fun h s =>
 unC .not h s fun i s =>
 zy i (Z (some []) s) (c [] s)) (Z (some []) s)
theorem key_of {es : List (AV × AV)} {names : List (List UInt8)} (hes : es.map Prod.fst = zhT names) {i : Nat} {e : AV × AV} (h : es[i]? = some e) : ∃ k, names[i]? = some k ∧ e.1 = .d (.str k) := by
  have h1 : (es.map Prod.fst)[i]? = some e.1 := by rw [List.getElem?_map, h]; rfl
  rw [hes, List.getElem?_map] at h1
  obtain ⟨k, h2, h3⟩ := Option.map_eq_some_iff.1 h1
  exact ⟨k, h2, h3.symm⟩
section

variable {B : List zc} {R : zc} {a t m : Nat} {es : List (AV × AV)} {names : List (List UInt8)}

theorem c_keysRun {f : FuncId} (hf : F2 Try.prog f zgE) {l bx : Nat} (hes : es.map Prod.fst = zhT names) (hbx : B[bx]? = some (.box [.map m])) (hB : m < B.length ∧ bx ≠ a ∧ bx ≠ t ∧ bx ≠ m ∧ a ≠ m ∧ t ≠ m ∧ a < B.length ∧ t < B.length) {s : List zc} (hJ : KJ B R a t m es .start s)
    (hY : ∀ i x i' s, KNx names i x i' → KJ B R a t m es i s → zoo Try.prog l x s fun v s' => v = .d (.bool true) ∧ KJ B R a t m es i' s') :
    zj Try.prog f [.fn (.yield l) [] [], .box bx 0] s fun _ s => ∃ i, KFin names i ∧ KJ B R a t m es i s := by
  obtain ⟨b1, b2, b3, b4, b5, b6, b7, b8⟩ := hB
  have hlen : es.length = names.length := by have := congrArg List.length hes; simpa using this
  have hlb := zl hbx
  have h1 : s[bx]? = some (.box [.map m]) := (hJ.out bx hlb b2 b3 b4).trans hbx
  have h2 : s[m]? = some (.map es) := hJ.map
  have hsl := hJ.len
  refine zba hf.is rfl fun hl _ => hf.goes ?_
  simp only [zgE]
  refine gq2 h1 ?_
  simp only [zfe, h2]
  intro c bs hbl hbn
  refine zV es.length (fun k vs S => vs = [] ∧ ∃ seen ys, seen.length = k ∧ zgi bs names seen ys ∧ seen.Nodup ∧ KJ B R a t m es (.run c bs s.length seen ys) S) ⟨rfl, [], [], rfl, .nil, .nil, ?_⟩ ?_
  · obtain ⟨g, h3, h4⟩ := hJ.box
    have hm := zl h2
    refine ⟨by simp; omega, zf ((List.getElem?_set_ne (by omega)).trans hJ.r), fun j hj x1 x2 x3 => ?_, ⟨g, zf ((List.getElem?_set_ne (Ne.symm b5)).trans h3), zf ((List.getElem?_set_ne (Ne.symm b6)).trans h4)⟩, zf (List.getElem?_set_self hm), ?_, by omega⟩
    · rw [List.getElem?_append_left (by simp; omega), List.getElem?_set_ne (Ne.symm x3)]
      exact hJ.out j hj x1 x2 x3
    · rw [List.getElem?_append_right (by simp)]; simp
  rintro k vs S hk ⟨rfl, seen, ys, rfl, hS, hn, hJ'⟩
  obtain ⟨g1, g2, g3⟩ := hJ'.map
  have hml := zl g1
  have hil := zl g2
  obtain ⟨g, g4, g5⟩ := hJ'.box
  have hmi : m ≠ s.length := by omega
  simp only [zgZ, g1, g2]
  refine ⟨trivial, fun hall => ?_, fun i b e hb he hnb => ?_⟩
  · refine gq1 ?_
    refine zbE ⟨.fin ys, ⟨ys, rfl, hS.perm hn hbn (by omega) hall⟩, ?_, ?_, fun j hj x1 x2 x3 => ?_, ⟨g, ?_, ?_⟩, ?_⟩
    · simpa using hJ'.len
    · exact (List.getElem?_set_ne (by omega)).trans hJ'.r
    · rw [List.getElem?_set_ne (Ne.symm x3)]
      exact hJ'.out j hj x1 x2 x3
    · exact (List.getElem?_set_ne (Ne.symm b5)).trans g4
    · exact (List.getElem?_set_ne (Ne.symm b6)).trans g5
    · exact List.getElem?_set_self hml
  · obtain ⟨nm, hk1, hk2⟩ := key_of hes he
    have hbm := List.mem_of_getElem? hb
    have hlt := hS.lt hn (by omega) hbm hnb
    have hS' := hS.snoc hb hk1
    refine gq1 ?_
    have q1 : (S.set s.length (.mit (some m) c (seen ++ [b])))[m]? = some (.mapr c bs es) := (List.getElem?_set_ne (Ne.symm hmi)).trans g1
    have q2 : (S.set s.length (.mit (some m) c (seen ++ [b])))[s.length]? = some (.mit (some m) c (seen ++ [b])) := List.getElem?_set_self hil
    simp only [zfn, q1, q2]
    refine ⟨trivial, i, b, e, by simp, hb, he, ?_⟩
    refine gq2 hk2 ?_
    have hJ2 : KJ B R a t m es (.run c bs s.length (seen ++ [b]) ys) (S.set s.length (.mit (some m) c (seen ++ [b]))) :=
      ⟨by simpa using hJ'.len, (List.getElem?_set_ne (by omega)).trans hJ'.r, fun j hj x1 x2 x3 => (List.getElem?_set_ne (by omega)).trans (hJ'.out j hj x1 x2 x3), ⟨g, (List.getElem?_set_ne (by omega)).trans g4, (List.getElem?_set_ne (by omega)).trans g5⟩, q1, q2, g3⟩
    refine (hY _ _ _ _ ⟨c, bs, s.length, seen ++ [b], ys, nm, rfl, rfl, hlt, rfl⟩ hJ2).mono ?_
    rintro r s' ⟨rfl, hJ3⟩
    refine gq1 ?_
    have hkl : seen.length < es.length := by rw [hS.1]; omega
    refine zcd.next hkl ⟨rfl, seen ++ [b], ys ++ [nm], by simp, hS', ?_, hJ3⟩
    rw [List.nodup_append]
    exact ⟨hn, by simp, fun x hx y hy => by simp at hy; subst hy; exact fun e => hnb (e ▸ hx)⟩
end

section

variable {σ : List zc} {t m bx : Nat} {es : List (AV × AV)} {names : List (List UInt8)} {K : AV → List zc → Prop}

theorem gq26 {A P Q : Prop} (a : A) (h : Q) (e : A → Hd Q → P := by intro a h; (repeat' first | simp -dsimp only [↓ziv, ↓zbi, ↓zcW, ↓zix, ↓zio, ↓zim, ↓ziq, ↓zin, ↓zdb, ↓zcX, ↓zdc, ↓zcY, ↓zir, ↓zcU, ↓zdd, ↓zcZ, ↓zde, ↓zda, ↓zil, ↓ziu, ↓zcS, ↓zdf, ↓zia, ↓zhZ, ↓zij, iN, bT, bF, eN, ↓zeU, ↓unC, ↓zah, ↓zR, ↓zS, ↓zad, ↓zaG, ↓zbl, ↓zea, ↓zaj, ↓zcA, ↓zau, ↓zu, ↓zo, ↓zcT, ↓zi, ↓zax, ↓zac, ↓zbm, ↓zbg, ↓zd, ↓zK, ↓zq, ↓zJ, ↓zaI, ↓zeE, ↓zfi, ↓zat, ↓zaW, ↓zaY, ↓zbC, ↓zck, ↓zG, ↓zaA, ↓zQ, ↓zF, ↓zaE, zfb, zcF, zcr, unA, zfm, bnd, zfY, zap, zaw, zfQ, dm, dm1, zA, zaT, zgP, zgO, zZ, Q0, Q1, Q2, Q3, Q4, Q5, zaD, zI, zr, zav, zW, Q6, Q7, Q8, Q9, Q10, Q11, Q12, Q13, Q14, Nat.reduceAdd, Q15, Int.reduceToNat, Q16, Q17, Q18, Q19, Q20, reduceIte, Q21, Q22, zD, rep, zT, zgN, toD, zan, Q23, Q24, Q25, Q26, Q27, Q28, Nat.reduceLeDiff, Q29, Nat.reduceSub, Q30, Q31, Q32, sc, Q33, Q34, Q35, Q36, Q37, Q26, Q38, Q39, n0gt, n1gt, n2gt, n0eq, zhd, n1eq, n2eq, n0ne, n1ne, zhc, zhe, i0ne, i0eq, Bool.not_true, Bool.not_false, List.length_map, Nat.sub_zero, zgC, zlL, zcc, a] | with_reducible refine andA ?_ | fail); exact h.go) : P := e a ⟨h⟩
theorem c_appendKeys {f : FuncId} (hf : F2 Try.prog f zgE) (hes : es.map Prod.fst = zhT names) (hn : names.length ≤ 1000000) (ht : σ[t]? = some (.row 0 1 [])) (hbx : σ[bx]? = some (.box [.map m])) (hm : σ[m]? = some (.map es))
    (hK : ∀ ys g S, ys.Perm names → σ.length ≤ S.length → S[t]? = some (.row g 1 (zhT ys)) → (∀ j, j < σ.length → j ≠ t → S[j]? = σ[j]?) → K (.rsl t g 1 0 ys.length) S) :
    zj Try.prog zaQ [.rsl t 0 1 0 0, .fn (.func f) [] [.box bx 0]] σ K := by
  refine zba zby.is rfl fun hl _ => zby.goes ?_
  have l1 := zl ht; have l2 := zl hbx; have l3 := zl hm
  have n1 : bx ≠ t := fun e => by rw [e, ht] at hbx; cases hbx
  have n2 : bx ≠ m := fun e => by rw [e, hm] at hbx; cases hbx
  have n3 : t ≠ m := fun e => by rw [e, hm] at ht; cases ht
  simp only [zbA, iN, bT, bF, eN]
  refine gq1 ?_
  obtain ⟨B, hB⟩ : ∃ B, σ ++ [zc.box [.rsl t 0 1 0 0]] = B := ⟨_, rfl⟩
  have hBl : B.length = σ.length + 1 := by rw [← hB]; simp
  have hBo : ∀ j, j < σ.length → B[j]? = σ[j]? := fun j hj => by rw [← hB]; exact List.getElem?_append_left hj
  have hBa : B[σ.length]? = some (.box [.rsl t 0 1 0 0]) := by rw [← hB, zr]; rfl
  rw [hB]
  simp only [zjT]
  intro l r vs
  refine ⟨KS, KJ B (.lrec l r vs) σ.length t m es, .start, KNx names, KFin names, ?_, ?_, fun i s h => h.r, ?_, ?_, ?_⟩
  · rintro i x i' ⟨c, bs, it, seen, ys, k, rfl, rfl, _, _⟩; rfl
  · refine ⟨by simp, ?_, fun j hj _ _ _ => List.getElem?_append_left hj, ⟨0, zf hBa, zf ((hBo t l1).trans ht)⟩, zf ((hBo m l3).trans hm)⟩
    rw [List.getElem?_append_right (by omega)]; simp
  · intro hY
    refine c_keysRun hf hes ((hBo bx l2).trans hbx) ⟨by omega, by omega, n1, n2, by omega, n3, by omega, by omega⟩ ?_ hY
    refine ⟨by simp, ?_, fun j hj _ _ _ => List.getElem?_append_left hj, ⟨0, zf hBa, zf ((hBo t l1).trans ht)⟩, zf ((hBo m l3).trans hm)⟩
    rw [List.getElem?_append_right (by omega)]; simp
  · rintro i x i' s ⟨c, bs, it, seen, ys, k, rfl, rfl, hlt, rfl⟩ hJ
    obtain ⟨g, g1, g2⟩ := hJ.box
    obtain ⟨g3, g4, g5⟩ := hJ.map
    have e1 := hJ.len
    have e2 := zl g4
    have hr := hJ.r
    obtain ⟨RB, hRB⟩ : ∃ RB, zc.lrec l { r with state := .busy } vs = RB := ⟨_, rfl⟩
    obtain ⟨R, hR⟩ : ∃ R, zc.lrec l r vs = R := ⟨_, rfl⟩
    rw [hR] at hr hJ
    rw [hR, hRB]
    obtain ⟨S, hS⟩ : ∃ S, s.set (B.length + 1) RB = S := ⟨_, rfl⟩
    have hSl : S.length = s.length := by rw [← hS]; simp
    have h1 : ∀ j, j ≠ B.length + 1 → S[j]? = s[j]? := fun j hj => by rw [← hS]; exact List.getElem?_set_ne (Ne.symm hj)
    have ea : S[σ.length]? = some (.box [.rsl t g 1 0 ys.length]) := (h1 _ (by omega)).trans g1
    have et : ∀ τ, (S ++ τ)[t]? = some (.row g 1 (zhT ys)) := fun τ => zf ((h1 _ (by omega)).trans g2)
    have eb : S[B.length + 1]? = some RB := by rw [← hS]; exact List.getElem?_set_self e1
    have ela : ∀ a τ, (S ++ a :: τ)[s.length]? = some a := fun a τ => by rw [← hSl]; exact zr ..
    have es1 : ∀ Y τ, (S ++ τ).set t Y = S.set t Y ++ τ := fun Y τ => List.set_append_left _ _ (by omega)
    have ea2 : ∀ Y τ, (S.set t Y ++ τ)[σ.length]? = some (.box [.rsl t g 1 0 ys.length]) := fun Y τ => zf ((List.getElem?_set_ne (by omega)).trans ea)
    have es2 : ∀ Y Z τ, (S.set t Y ++ τ).set σ.length Z = (S.set t Y).set σ.length Z ++ τ := fun Y Z τ => List.set_append_left _ _ (by simp; omega)
    have eb2 : ∀ Y Z τ, ((S.set t Y).set σ.length Z ++ τ)[B.length + 1]? = some RB := fun Y Z τ => zf ((List.getElem?_set_ne (by omega)).trans ((List.getElem?_set_ne (by omega)).trans eb))
    refine gq26 (zg hr (zg hS (zg hSl (zg ea (zg et (zg ela (zg es1 (zg es2 (zg ea2 eb2))))))))) ?_
    have look : ∀ (j : Nat) (x : zc), j ≠ t → j ≠ σ.length → j ≠ B.length + 1 → s[j]? = some x → ∀ Y Z τ, (((S.set t Y).set σ.length Z ++ τ).set (B.length + 1) R)[j]? = some x := fun j x x1 x2 x3 h Y Z τ => by
      rw [List.getElem?_set_ne (Ne.symm x3)]
      exact zf (by rw [List.getElem?_set_ne (Ne.symm x2), List.getElem?_set_ne (Ne.symm x1)]; exact (h1 j x3).trans h)
    refine ⟨by simp; omega, List.getElem?_set_self (by simp; omega), fun j hj x1 x2 x3 => ?_, ⟨g + 1, ?_, ?_⟩, look _ _ (Ne.symm n3) (by omega) (by omega) g3 _ _ _, look _ _ (by omega) (by omega) (by omega) g4 _ _ _, g5⟩
    · have := hJ.out j hj x1 x2 x3
      rw [List.getElem?_eq_getElem hj] at this ⊢
      exact look _ _ x2 x1 (by omega) this _ _ _
    · rw [List.getElem?_set_ne (by omega), List.getElem?_append_left (by simp; omega), List.getElem?_set_self (by simp; omega)]
      simp [KS.ys]
    · rw [List.getElem?_set_ne (by omega), List.getElem?_append_left (by simp; omega), List.getElem?_set_ne (by omega), List.getElem?_set_self (by omega)]
      simp [KS.ys]
  · rintro i s ⟨ys, rfl, hp⟩ hJ
    obtain ⟨g, g1, g2⟩ := hJ.box
    have g3 : s[m]? = some (.map es) := hJ.map
    have e1 := hJ.len
    obtain ⟨S, hS⟩ : ∃ S, s.set (B.length + 1) (zc.lrec l { r with state := .exhausted } vs) = S := ⟨_, rfl⟩
    rw [hS]
    have hSl : S.length = s.length := by rw [← hS]; simp
    have h1 : ∀ j, j ≠ B.length + 1 → S[j]? = s[j]? := fun j hj => by rw [← hS]; exact List.getElem?_set_ne (Ne.symm hj)
    have ea : S[σ.length]? = some (.box [.rsl t g 1 0 ys.length]) := (h1 _ (by omega)).trans g1
    refine gq2 ea ?_
    refine zbE (hK ys g S hp (by omega) ((h1 _ (by omega)).trans g2) fun j hj hjt => ?_)
    rw [h1 _ (by omega)]
    by_cases e : j = m
    · subst e; exact g3.trans hm.symm
    · exact (hJ.out j (by omega) (by omega) hjt e).trans (hBo j hj)
theorem allO_frzK {σ : List zc} {n m : Nat} : ∀ ds : List D, allO ((ds.map AV.d).map (frz σ n m)) = some ds
  | [] => rfl
  | d :: ds => by
    have : frz σ n m (.d d) = some d := by cases m <;> rfl
    simp only [List.map_cons, this, allO, allO_frzK ds]
theorem zlY : ∀ l : List (List UInt8), zan 1 l.length (l.map D.str) = l.map fun x => [D.str x]
  | [] => rfl
  | a :: l => by simp only [List.length_cons, List.map_cons, zan, List.take_succ_cons, List.take_zero, List.drop_succ_cons, List.drop_zero, zlY l]
theorem frz_strs {σ : List zc} {n₀ m t g : Nat} {L : List (List UInt8)} (ht : σ[t]? = some (.row g 1 (zhT L))) (hn : n₀ ≤ t) : frz σ n₀ (m + 2) (.rsl t g 1 0 L.length) = some (.slice (L.map fun x => [.str x])) := by
  have e1 : (((zhT L).drop (0 * 1)).take ((L.length - 0) * 1)) = (L.map D.str).map AV.d := by
    rw [List.map_map, Nat.zero_mul, List.drop_zero, List.take_of_length_le (by simp)]; rfl
  simp only [frz, ht, hn, true_and, and_self, if_true, e1]
  rw [allO_frzK]
  simp only [Nat.sub_zero, zlY]
theorem zoi {f : FuncId} (hf : F2 Try.prog f zgE) (hes : es.map Prod.fst = zhT names) (hn : names.length ≤ 1000000) (hbx : σ[bx]? = some (.box [.map m])) (hm : σ[m]? = some (.map es))
    (hK : ∀ ys g S, ys.Perm names → σ.length < S.length → S[σ.length]? = some (.row g 1 (zhT ys)) → (∀ j, j < σ.length → S[j]? = σ[j]?) → K (.rsl σ.length g 1 0 ys.length) S) :
    zj Try.prog zbT [.fn (.func f) [] [.box bx 0]] σ K := by
  refine zba zdt.is rfl fun hl _ => zdt.goes ?_
  simp only [zdv, iN, bT, bF, eN]
  refine zj.pre (.row 0 1 rfl (by omega) (.refl _ _)) ?_
  simp only [List.set_cons_zero]
  refine c_appendKeys hf hes hn (by rw [zr]; rfl) (zf hbx) (zf hm) fun ys g S hp hl hr ho => ?_
  simp only [List.length_append, List.length_cons, List.length_nil] at hl ho
  refine gq1 ?_
  exact zbE (hK ys g S hp (by omega) hr fun j hj => (ho j (by omega) (by omega)).trans (List.getElem?_append_left hj))
theorem zkE {f : FuncId} (hf : F2 Try.prog f zgE) {L : List (List UInt8)} (hes : es.map Prod.fst = zhT names) (hn : names.length ≤ 1000000) (hbx : σ[bx]? = some (.box [.map m])) (hm : σ[m]? = some (.map es)) (hp : names.Perm L) (hs : L.Pairwise ltN)
    (hK : K (.d (.slice (L.map fun x => [.str x]))) σ) : zj Try.prog zbt [.fn (.func f) [] [.box bx 0]] σ K := by
  refine acall_frz zdF.is rfl 2 fun hl _ => zdF.goes ?_
  simp only [zdK, iN, bT, bF, eN]
  refine zoi hf hes hn hbx hm fun ys g S hy hlS hr ho => ?_
  refine gq1 ?_
  have hyl : ys.length ≤ 1000000 := by rw [hy.length_eq]; exact hn
  refine c_sortS hr (by omega) ?_
  rw [sort_names (hy.trans hp) hs]
  refine gq1 ?_
  have hlen : ys.length = L.length := (hy.trans hp).length_eq
  have hS : (S.set σ.length (.row g 1 (zhT L))).take σ.length = σ := by
    apply List.ext_getElem?
    intro i
    rw [List.getElem?_take]
    split
    · rename_i hi
      rw [List.getElem?_set_ne (by omega)]; exact ho i hi
    · rw [List.getElem?_eq_none (by omega)]
  rw [hlen]
  obtain ⟨S', hS'⟩ : ∃ S', S.set σ.length (.row g 1 (zhT L)) = S' := ⟨_, rfl⟩
  have hr' : S'[σ.length]? = some (.row g 1 (zhT L)) := by rw [← hS']; exact List.getElem?_set_self hlS
  rw [hS'] at hS ⊢
  simp only [EndsF, zdg, frzT, frz1, frz_strs hr' (Nat.le_refl _), hS]
  exact ⟨hl, hK⟩
end

end Go.Proofs.Ythpnelbciibjeaa
