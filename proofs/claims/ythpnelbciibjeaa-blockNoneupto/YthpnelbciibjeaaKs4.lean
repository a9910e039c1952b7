/- Contract: the bytes of the program's topics. -/
import Derived.Test.YthpnelbciibjeaaKs2
set_option linter.all false
set_option maxRecDepth 100000
set_option linter.unusedSimpArgs false
set_option linter.unusedVariables false
namespace Go.Proofs.Ythpnelbciibjeaa
open Go.AW

structure BJ (σ : List zc) (B : List UInt8) (S : List zc) : Prop where
  pre : S.take σ.length = σ
  box : S[σ.length]? = some (.box [.d (.slice (bcs B))])
theorem zlh {S : List zc} {n i : Nat} {y : zc} (h : n ≤ i) : (S.set i y).take n = S.take n := by
  rw [List.take_set, List.set_eq_of_length_le (by rw [List.length_take]; omega)]
theorem wrapU {n : Int} (h0 : 0 ≤ n) (h : n < 18446744073709551616) : IntKind.u64.wrap n = n := by
  have := zcp (n := n.toNat) (by omega)
  rwa [show ((n.toNat : Nat) : Int) = n by omega] at this
section

variable {σ S : List zc} {B : List UInt8}

theorem BJ.get (h : BJ σ B S) {j : Nat} (hj : j < σ.length) : S[j]? = σ[j]? := by
  have := congrArg (·[j]?) h.pre
  simpa [List.getElem?_take, hj] using this
theorem BJ.app (h : BJ σ B S) (τ : List zc) : BJ σ B (S ++ τ) := ⟨by rw [List.take_append_of_le_length (by have := zl h.box; omega)]; exact h.pre, zf h.box⟩
theorem BJ.put (h : BJ σ B S) (B' : List UInt8) : BJ σ B' (S.set σ.length (.box [.d (.slice (bcs B'))])) := ⟨by rw [zlh (Nat.le_refl _)]; exact h.pre, List.getElem?_set_self (zl h.box)⟩
theorem BJ.first (σ : List zc) (B : List UInt8) : BJ σ B (σ ++ [.box [.d (.slice (bcs B))]]) := ⟨by simp, by rw [zr]; rfl⟩
theorem BJ.prg (h : BJ σ B S) {id m : Nat} {X : List zcH} {L : List (Int × Int × Int)} (hP : zez σ id m X L) : zez S id m X L := hP.keep fun j hj => h.get (hP.own_lt hj)
end

section

variable {σ : List zc} {id : Nat} {T : zaq} {O : Nat → Prop} {K : AV → List zc → Prop}

theorem gq28 {A P Q : Prop} (a : A) (h : Q) (e : A → Hd Q → P := by intro a h; (repeat' first | simp -dsimp only [↓ziv, ↓zbi, ↓zcW, ↓zix, ↓zio, ↓zim, ↓ziq, ↓zin, ↓zdb, ↓zcX, ↓zdc, ↓zcY, ↓zir, ↓zcU, ↓zdd, ↓zcZ, ↓zde, ↓zda, ↓zil, ↓ziu, ↓zcS, ↓zdf, ↓zia, ↓zhZ, ↓zij, iN, bT, bF, eN, ↓zeU, ↓unC, ↓zah, ↓zR, ↓zS, ↓zad, ↓zaG, ↓zbl, ↓zea, ↓zaj, ↓zcA, ↓zau, ↓zu, ↓zo, ↓zcT, ↓zi, ↓zax, ↓zac, ↓zbm, ↓zbg, ↓zd, ↓zK, ↓zq, ↓zJ, ↓zaI, ↓zeE, ↓zfi, ↓zat, ↓zaW, ↓zaY, ↓zbC, ↓zck, ↓zG, ↓zaA, ↓zQ, ↓zF, ↓zaE, zfb, zcF, zcr, unA, zfm, bnd, zfY, zap, zaw, zfQ, dm, dm1, zA, zaT, zgP, zgO, zZ, Q0, Q1, Q2, Q3, Q4, Q5, zaD, zI, zr, zav, zW, Q6, Q7, Q8, Q9, Q10, Q11, Q12, Q13, Q14, Nat.reduceAdd, Q15, Int.reduceToNat, Q16, Q17, Q18, Q19, Q20, reduceIte, Q21, Q22, zD, rep, zT, zgN, toD, zan, Q23, Q24, Q25, Q26, Q27, Q28, Nat.reduceLeDiff, Q29, Nat.reduceSub, Q30, Q31, Q32, sc, Q33, Q34, Q35, Q36, Q37, Q26, Q38, Q39, n0gt, n1gt, n2gt, n0eq, zhd, n1eq, n2eq, n0ne, n1ne, zhc, zhe, i0ne, i0eq, Bool.not_true, Bool.not_false, List.length_map, List.set_set, a] | with_reducible refine andA ?_ | fail); exact h.go) : P := e a ⟨h⟩
theorem gq29 {A P Q : Prop} (a : A) (h : Q) (e : A → Hd Q → P := by intro a h; (repeat' first | simp -dsimp only [↓ziv, ↓zbi, ↓zcW, ↓zix, ↓zio, ↓zim, ↓ziq, ↓zin, ↓zdb, ↓zcX, ↓zdc, ↓zcY, ↓zir, ↓zcU, ↓zdd, ↓zcZ, ↓zde, ↓zda, ↓zil, ↓ziu, ↓zcS, ↓zdf, ↓zia, ↓zhZ, ↓zij, iN, bT, bF, eN, ↓zeU, ↓unC, ↓zah, ↓zR, ↓zS, ↓zad, ↓zaG, ↓zbl, ↓zea, ↓zaj, ↓zcA, ↓zau, ↓zu, ↓zo, ↓zcT, ↓zi, ↓zax, ↓zac, ↓zbm, ↓zbg, ↓zd, ↓zK, ↓zq, ↓zJ, ↓zaI, ↓zeE, ↓zfi, ↓zat, ↓zaW, ↓zaY, ↓zbC, ↓zck, ↓zG, ↓zaA, ↓zQ, ↓zF, ↓zaE, zfb, zcF, zcr, unA, zfm, bnd, zfY, zap, zaw, zfQ, dm, dm1, zA, zaT, zgP, zgO, zZ, Q0, Q1, Q2, Q3, Q4, Q5, zaD, zI, zr, zav, zW, Q6, Q7, Q8, Q9, Q10, Q11, Q12, Q13, Q14, Nat.reduceAdd, Q15, Int.reduceToNat, Q16, Q17, Q18, Q19, Q20, reduceIte, Q21, Q22, zD, rep, zT, zgN, toD, zan, Q23, Q24, Q25, Q26, Q27, Q28, Nat.reduceLeDiff, Q29, Nat.reduceSub, Q30, Q31, Q32, sc, Q33, Q34, Q35, Q36, Q37, Q26, Q38, Q39, n0gt, n1gt, n2gt, n0eq, zhd, n1eq, n2eq, n0ne, n1ne, zhc, zhe, i0ne, i0eq, Bool.not_true, Bool.not_false, List.length_map, zcc, a] | with_reducible refine andA ?_ | fail); exact h.go) : P := e a ⟨h⟩
theorem c_tpBytes (h : zeB σ id T O) (hI : zdQ T) (hL : zmn T.last) (hK : K (.d (.slice (bcs (zcQ T)))) σ) : zj Try.prog zcu [.box id 0] σ K := by
  have hT := h
  obtain ⟨m, X, hP, hR, hO⟩ := h
  refine zhr zhk fun hl => ?_
  have hb := hP.box
  have hm := hP.map
  have hXl : (znq X).length = T.l.length := by rw [← hR.len]; simp
  have hn := hI.len
  have hnl := zk (n := T.l.length) (by omega)
  have hw0 : IntKind.u64.wrap (T.l.length : Int) = (T.l.length : Int) := zcp (by omega)
  have hsl : (strsE (T.l.map zX.name)).length = T.l.length := by simp
  simp only [zew, iN, bT, bF, eN]
  refine gq1 ?_
  refine zhO hb ?_
  refine gq2 (zg hb (zg hm (zg hXl hw0))) ?_
  refine zjv (b := []) (by omega) (by simp) ?_
  rw [List.nil_append]
  refine gq1 ?_
  refine c_tpNames (hT.app _) hI ?_
  refine gq2 hsl ?_
  refine zV T.l.length (fun k vs S => vs = [.d (.int .i64 k)] ∧ BJ σ (zbB T.l.length ++ zib (T.l.take k)) S) ⟨rfl, by simpa [zib] using BJ.first σ _⟩ ?_
  rintro k vs S hk ⟨rfl, hJ⟩
  have hbl : (zib (T.l.take k)).length ≤ k * 5600 := by
    have := zmF (l := T.l.take k) fun x hx => hI.tops x (List.mem_of_mem_take hx)
    rw [List.length_take, Nat.min_eq_left hk] at this; exact this
  by_cases hlt : k < T.l.length
  · have hd : decide ((k : Int) < (T.l.length : Int)) = true := by simp; omega
    have hx : T.l[k]? = some T.l[k] := by simp [hlt]
    have hX := hI.tops _ (List.getElem_mem hlt)
    have hmem := List.getElem_mem hlt
    obtain ⟨x, hxe⟩ : ∃ x, T.l[k] = x := ⟨_, rfl⟩
    rw [hxe] at hx hX hmem
    have hg : (strsE (T.l.map zX.name))[k]? = some [.str x.name] := by rw [List.getElem?_map, List.getElem?_map, hx]; rfl
    obtain ⟨i, p, y, h1, h2, h3, h4, h5, h6⟩ := (zlt hR x.name).resolve_left fun h => by
      obtain ⟨p, hp, hr⟩ := hR.bw x hmem
      exact zhJ h.1 p hp hr.name
    have hyx : y = x := zlm hR.sort h5 hmem (h6.name.symm.trans h3)
    subst hyx
    have hpm := List.mem_of_getElem? h2
    have hf := zdr y.name X 0
    rw [h1] at hf
    have hS := hJ.prg hP
    have hSb := hS.box; have hSm := hS.map
    have hSp : S[p.id]? = some (.box [.d (.int .i64 y.base), .own p.t (zbK y.recs), .map p.g]) := by rw [← h6.base, ← h6.recs]; exact (hS.tops p hpm).b
    have hSf := hJ.box
    have hrl := zD y.recs
    have hwb : IntKind.u64.wrap y.base = y.base := by
      have := hX.base; have := hX.next; have : y.next = y.base + y.recs.length := rfl
      exact wrapU (by omega) (by omega)
    obtain ⟨B, hB⟩ : ∃ B, zbB T.l.length ++ zib (T.l.take k) = B := ⟨_, rfl⟩
    have hBl : B.length ≤ 100000 := by rw [← hB]; simp; omega
    rw [hB] at hJ hSf
    refine gq3 (zg hd (zg hg (zg hSb (zg hSm (zg hf (zg hSf (zg hSp hwb))))))) ?_
    simp only [zkN]
    have a1 := hX.base; have a2 := hX.next; have a3 := hX.recs; have a4 := hX.groups; have a5 := hX.name; have a6 := hX.each; have a7 := hX.gs
    have hnx : y.next = y.base + y.recs.length := rfl
    have m1 := zdx (x := y.name) (by omega)
    have m2 := zk (n := y.base.toNat) (by omega)
    have m3 := zk (n := y.recs.length) (by omega)
    have m4 := zk (n := y.groups.length) (by omega)
    have hwr : IntKind.u64.wrap (y.recs.length : Int) = (y.recs.length : Int) := zcp (by omega)
    have hs1 : ∀ Z, (S.set σ.length Z)[σ.length]? = some Z := fun Z => List.getElem?_set_self (zl hSf)
    have hpid : p.id < σ.length := zl (hP.tops p hpm).b
    have hs2 : ∀ Z, (S.set σ.length Z)[p.id]? = _ := fun Z => (List.getElem?_set_ne (by omega)).trans hSp
    refine ziQ (b := B) (x := y.name) (by omega) (by omega) ?_
    refine gq2 (zg hSp hwb) ?_
    refine zho (b := B ++ ziU y.name) a1 (by omega) (by simp; omega) ?_
    obtain ⟨B1, hB1⟩ : ∃ B1, B ++ ziU y.name ++ zbB y.base.toNat = B1 := ⟨_, rfl⟩
    have hB1l : B1.length ≤ 101000 := by rw [← hB1]; simp; omega
    rw [hB1]
    refine gq2 (zg hSf (zg hs1 (zg hs2 (zg hrl hwr)))) ?_
    refine zjv (b := B1) (n := y.recs.length) (by omega) (by omega) ?_
    obtain ⟨B2, hB2⟩ : ∃ B2, B1 ++ zbB y.recs.length = B2 := ⟨_, rfl⟩
    have hB2l : B2.length ≤ 102000 := by rw [← hB2]; simp; omega
    rw [hB2]
    refine gq28 hs1 ?_
    refine c_tpAll ?_
    have hJ2 := (hJ.put B2).app [.box [.box id 0], .box [.d (.str y.name)]]
    have hS2l : (S.set σ.length (.box [.d (.slice (bcs B2))])).length = S.length := by simp
    obtain ⟨S2, hS2⟩ : ∃ S2, S.set σ.length (.box [.d (.slice (bcs B2))]) = S2 := ⟨_, rfl⟩
    rw [hS2] at hJ2 hS2l ⊢
    refine gq1 ?_
    obtain ⟨S3, hS3⟩ : ∃ S3, S2 ++ [zc.box [AV.box id 0], zc.box [AV.d (.str y.name)]] = S3 := ⟨_, rfl⟩
    have hS3l : S3.length = S2.length + 2 := by rw [← hS3]; simp
    have hsS2 : σ.length < S2.length := by rw [hS2l]; exact zl hSf
    have q1 : S3[S2.length]? = some (.box [.box id 0]) := by rw [← hS3, zr]; rfl
    have q2 : S3[S2.length + 1]? = some (.box [.d (.str y.name)]) := by rw [← hS3, zI]; rfl
    have hrq : recsQ T y.name = y.recs := by rw [recsQ, h4]
    rw [hS3] at hJ2 ⊢
    simp only [zjT]
    intro l r vs
    have hsum : ∀ i, (zeC (y.recs.take i)).length ≤ 64 * 74 := fun i => by
      have := ziI (f := ziU) (n := 74) (l := y.recs.take i) fun x hx => by
        have h1 := a6 x (List.mem_of_mem_take hx)
        have h2 := zdx (x := x) (by omega)
        omega
      rw [List.length_take] at this
      simp only [zeC]
      have : min i y.recs.length * 74 ≤ 64 * 74 := Nat.mul_le_mul_right _ (by omega)
      omega
    refine ⟨Nat, fun i s => s[S3.length + 1]? = some (.lrec l r vs) ∧ BJ σ (B2 ++ zeC (y.recs.take i)) s ∧ s[S2.length]? = some (.box [.box id 0]) ∧ s[S2.length + 1]? = some (.box [.d (.str y.name)]), 0, ANx T y.name, AFin T y.name, ?_, ?_, fun i s h => h.1, ?_, ?_, ?_⟩
    · rintro i x i' ⟨r, _, rfl, _⟩; rfl
    · refine ⟨by rw [List.getElem?_append_right (by omega)]; simp, ?_, zf q1, zf q2⟩
      simpa [zeC] using hJ2.app _
    · intro hY
      refine c_allRun (T := T) (n := y.name) hI hR _ (fun i s τ h => ⟨zf h.1, h.2.1.app _, zf h.2.2.1, zf h.2.2.2⟩) (fun i s h => ⟨h.2.1.prg hP, h.2.2.1, h.2.2.2⟩) hY ⟨by rw [List.getElem?_append_right (by omega)]; simp, ?_, zf q1, zf q2⟩
      simpa [zeC] using hJ2.app _
    · rintro i x i' s ⟨w, hw, rfl, rfl⟩ ⟨j1, j2, j3, j4⟩
      rw [hrq] at hw
      have hwl := a6 w (List.mem_of_getElem? hw)
      have jl := zl j1
      obtain ⟨RB, hRB⟩ : ∃ RB, zc.lrec l { r with state := .busy } vs = RB := ⟨_, rfl⟩
      obtain ⟨R, hR'⟩ : ∃ R, zc.lrec l r vs = R := ⟨_, rfl⟩
      rw [hR'] at j1 ⊢
      rw [hRB]
      have f1 : (s.set (S3.length + 1) RB)[σ.length]? = _ := (List.getElem?_set_ne (by omega)).trans j2.box
      have hsi := hsum i
      refine gq29 (zg j1 f1) ?_
      refine ziQ (b := B2 ++ zeC (y.recs.take i)) (x := w) (by omega) (by simp; omega) ?_
      have f2 : ∀ Z, ((s.set (S3.length + 1) RB).set σ.length Z)[S3.length + 1]? = some RB := fun Z => (List.getElem?_set_ne (by omega)).trans (List.getElem?_set_self jl)
      refine gq2 (zg f1 f2) ?_
      have hrs : zeC (y.recs.take (i + 1)) = zeC (y.recs.take i) ++ ziU w := by
        rw [List.take_add_one, hw]; simp [zeC]
      rw [hrs, ← List.append_assoc]
      have look : ∀ (j : Nat) (x : zc), j ≠ σ.length → j ≠ S3.length + 1 → s[j]? = some x → ∀ Z, (((s.set (S3.length + 1) RB).set σ.length Z).set (S3.length + 1) R)[j]? = some x := fun j x x1 x2 h Z => by
        rw [List.getElem?_set_ne (Ne.symm x2), List.getElem?_set_ne (Ne.symm x1), List.getElem?_set_ne (Ne.symm x2)]; exact h
      refine ⟨List.getElem?_set_self (by simpa using jl), ⟨?_, ?_⟩, look _ _ (by omega) (by omega) j3 _, look _ _ (by omega) (by omega) j4 _⟩
      · rw [zlh (by omega), zlh (Nat.le_refl _), zlh (by omega)]; exact j2.pre
      · rw [List.getElem?_set_ne (by omega), List.getElem?_set_self (by simp; omega)]
    · rintro i s hi ⟨j1, j2, j3, j4⟩
      rw [AFin, hrq] at hi
      subst hi
      rw [List.take_length] at j2
      have j5 : BJ σ (B2 ++ zeC y.recs) (s.set (S3.length + 1) (.lrec l { r with state := .exhausted } vs)) := ⟨by rw [zlh (by omega)]; exact j2.pre, (List.getElem?_set_ne (by omega)).trans j2.box⟩
      obtain ⟨S4, hS4⟩ : ∃ S4, s.set (S3.length + 1) (.lrec l { r with state := .exhausted } vs) = S4 := ⟨_, rfl⟩
      rw [hS4] at j5 ⊢
      clear hS4 j1 j2 j3 j4
      obtain ⟨B3, hB3⟩ : ∃ B3, B2 ++ zeC y.recs = B3 := ⟨_, rfl⟩
      have hB3l : B3.length ≤ 110000 := by
        have := hsum y.recs.length
        rw [List.take_length] at this
        rw [← hB3]; simp; omega
      rw [hB3] at j5
      have k1 := j5.box
      have k2 := j5.prg hP
      have k3 : S4[p.id]? = some (.box [.d (.int .i64 y.base), .own p.t (zbK y.recs), .map p.g]) := by rw [← h6.base, ← h6.recs]; exact (k2.tops p hpm).b
      have k4 := (k2.tops p hpm).g
      have hgl : (grpM p.x.groups).length = y.groups.length := by rw [← h6.gr.len]; simp
      have hwg : IntKind.u64.wrap (y.groups.length : Int) = (y.groups.length : Int) := zcp (by omega)
      have hpg : p.g < σ.length := zl (hP.tops p hpm).g
      refine gq2 (zg k1 (zg k3 (zg k4 (zg hgl hwg)))) ?_
      refine zjv (b := B3) (n := y.groups.length) (by omega) (by omega) ?_
      have k5 := j5.put (B3 ++ zbB y.groups.length)
      obtain ⟨B4, hB4⟩ : ∃ B4, B3 ++ zbB y.groups.length = B4 := ⟨_, rfl⟩
      have hB4l : B4.length ≤ 111000 := by rw [← hB4]; simp; omega
      rw [hB4] at k5 ⊢
      refine gq2 k1 ?_
      obtain ⟨S5, hS5⟩ : ∃ S5, S4.set σ.length (.box [.d (.slice (bcs B4))]) = S5 := ⟨_, rfl⟩
      rw [hS5] at k5 ⊢
      have hT5 : zeB S5 id T O := ⟨m, X, k5.prg hP, hR, hO⟩
      refine c_tpGroups hT5 hI ?_
      have hgq : zlM T y.name = y.groups := by rw [zlM, h4]
      have hgn : (strsE (y.groups.map Prod.fst)).length = y.groups.length := by simp
      rw [hgq]
      refine gq2 hgn ?_
      refine zV y.groups.length (fun j vs S => vs = [.d (.int .i64 j)] ∧ BJ σ (B4 ++ zeh (y.groups.take j)) S) ⟨rfl, by simpa [zeh] using k5⟩ ?_
      rintro j vs S6 hj ⟨rfl, hJ6⟩
      have hgb : (zeh (y.groups.take j)).length ≤ j * 84 := by
        have := ziI (f := groupB) (n := 84) (l := y.groups.take j) fun x hx => zmX (a7 x (List.mem_of_mem_take hx))
        rw [List.length_take, Nat.min_eq_left hj] at this
        exact this
      by_cases hlj : j < y.groups.length
      · have hdj : decide ((j : Int) < (y.groups.length : Int)) = true := by simp; omega
        have hgx : y.groups[j]? = some y.groups[j] := by simp [hlj]
        obtain ⟨g, hge⟩ : ∃ g, y.groups[j] = g := ⟨_, rfl⟩
        rw [hge] at hgx
        have hgm := List.mem_of_getElem? hgx
        have g7 := a7 g hgm
        have hgg : (strsE (y.groups.map Prod.fst))[j]? = some [.str g.1] := by rw [List.getElem?_map, List.getElem?_map, hgx]; rfl
        have u1 := hJ6.box
        have u2 := hJ6.prg hP
        have u3 : S6[p.id]? = some (.box [.d (.int .i64 y.base), .own p.t (zbK y.recs), .map p.g]) := by rw [← h6.base, ← h6.recs]; exact (u2.tops p hpm).b
        have u4 := (u2.tops p hpm).g
        have hfa : ∃ q, zhh g.1 p.x.groups 0 = some (q, g.2) := by
          have hG := (h6.gr.mem g).2 hgm
          cases hx : zhh g.1 p.x.groups 0 with
          | none => exact absurd rfl (zhL hx g hG)
          | some q =>
            obtain ⟨q, v⟩ := q
            obtain ⟨j', _, hj'⟩ := zhK hx
            have := zlm h6.gr.sort ((h6.gr.mem _).1 (List.mem_of_getElem? hj')) hgm rfl
            exact ⟨q, by rw [← this]⟩
        obtain ⟨q, hfa⟩ := hfa
        have hfg := zka g.1 p.x.groups 0
        rw [hfa] at hfg
        have hwv : IntKind.u64.wrap g.2 = g.2 := wrapU g7.2.1 (by omega)
        refine gq3 (zg hdj (zg hgg (zg u1 (zg u3 (zg u4 hfg))))) ?_
        refine ziQ (b := B4 ++ zeh (y.groups.take j)) (x := g.1) (by omega) (by simp; omega) ?_
        refine gq2 (zg u3 (zg u4 hwv)) ?_
        refine zho (b := B4 ++ (zeh (y.groups.take j) ++ ziU g.1)) g7.2.1 (by omega) ?_ ?_
        · have := zdx (x := g.1) (by omega)
          simp; omega
        refine gq2 (zg u1 (wkc j (by omega))) ?_
        refine zcd.next hlj ⟨rfl, ?_⟩
        have e : B4 ++ zeh (y.groups.take (j + 1)) = B4 ++ (zeh (y.groups.take j) ++ (ziU g.1 ++ zbB g.2.toNat)) := by
          rw [List.take_add_one, hgx]; simp [zeh, groupB]
        rw [e]
        exact hJ6.put _
      · have hdj : decide ((j : Int) < (y.groups.length : Int)) = false := by simp; omega
        have hjo : y.groups.take j = y.groups := List.take_of_length_le (by omega)
        rw [hjo] at hJ6
        refine gq2 (zg hdj (wkc k (by omega))) ?_
        refine zcd.next hlt ⟨rfl, ?_⟩
        have e : zbB T.l.length ++ zib (T.l.take (k + 1)) = B4 ++ zeh y.groups := by
          rw [List.take_add_one, hx, ← hB4, ← hB3, ← hB2, ← hB1, ← hB]
          simp [zib, topB]
        rw [e]; exact hJ6
  · have hd : decide ((k : Int) < (T.l.length : Int)) = false := by simp; omega
    have hko : T.l.take k = T.l := List.take_of_length_le (by omega)
    rw [hko] at hJ
    have hS := hJ.prg hP
    have hSb := hS.box
    have h8 := hP.last
    have hlc := zhg T.last
    rw [h8] at hlc
    have hla : List.take 24 (List.drop (0 + 1) (AV.map m :: zcE T.last)) = zcE T.last := by
      rw [Nat.zero_add, List.drop_succ_cons, List.drop_zero, List.take_of_length_le (by omega)]
    obtain ⟨B, hB⟩ : ∃ B, zbB T.l.length ++ zib T.l = B := ⟨_, rfl⟩
    have hBl : B.length ≤ 100000 := by
      rw [hko] at hbl
      rw [← hB]; simp; omega
    rw [hB] at hJ
    refine gq2 (zg hd hSb) ?_
    rw [hla]
    refine zV 8 (fun j vs s => vs = [.d (.int .i64 j)] ∧ BJ σ (B ++ zfX (T.last.take j)) s) ⟨rfl, by simpa [zfX] using hJ⟩ ?_
    rintro j vs s hj ⟨rfl, hJ'⟩
    have hjl : (zfX (T.last.take j)).length ≤ j * 30 := by
      have := zmV (l := T.last.take j) fun a ha => hL a (List.mem_of_mem_take ha)
      rw [List.length_take, Nat.min_eq_left (by omega)] at this; exact this
    by_cases hlj : j < 8
    · have hdj : decide ((j : Int) < 8) = true := by simp; omega
      obtain ⟨a, ha⟩ : ∃ a, T.last[j]? = some a := ⟨_, List.getElem?_eq_getElem (by omega)⟩
      have hl3 := zlG ha
      obtain ⟨⟨z1, z2⟩, ⟨z3, z4⟩, ⟨z5, z6⟩⟩ := hL a (List.mem_of_getElem? ha)
      have p1 := zk (n := a.1.toNat) (by omega)
      have p2 := zk (n := a.2.1.toNat) (by omega)
      have w1 : IntKind.u64.wrap a.1 = a.1 := wrapU z1 (by omega)
      have w2 : IntKind.u64.wrap a.2.1 = a.2.1 := wrapU z3 (by omega)
      have w3 : IntKind.u64.wrap a.2.2 = a.2.2 := wrapU z5 (by omega)
      refine gq2 (zg hdj (zg hl3 hlc)) ?_
      have hJ1 := hJ'.app [.box [.d (.int .i64 a.1), .d (.int .i64 a.2.1), .d (.int .i64 a.2.2)]]
      have v1 : (s ++ [zc.box [AV.d (.int .i64 a.1), AV.d (.int .i64 a.2.1), AV.d (.int .i64 a.2.2)]])[s.length]? = some (.box [.d (.int .i64 a.1), .d (.int .i64 a.2.1), .d (.int .i64 a.2.2)]) := by rw [zr]; rfl
      have hsl' := zl hJ'.box
      obtain ⟨S1, hS1⟩ : ∃ S1, s ++ [zc.box [AV.d (.int .i64 a.1), AV.d (.int .i64 a.2.1), AV.d (.int .i64 a.2.2)]] = S1 := ⟨_, rfl⟩
      rw [hS1] at hJ1 v1 ⊢
      have v2 := hJ1.box
      have v3 : ∀ Z, (S1.set σ.length Z)[σ.length]? = some Z := fun Z => List.getElem?_set_self (zl v2)
      have v4 : ∀ Z, (S1.set σ.length Z)[s.length]? = _ := fun Z => (List.getElem?_set_ne (by omega)).trans v1
      refine gq2 (zg v2 w1) ?_
      refine zho (b := B ++ zfX (T.last.take j)) z1 (by omega) (by simp; omega) ?_
      refine gq2 (zg v1 (zg v2 (zg v3 (zg v4 (zg w2 w3))))) ?_
      refine zho (b := B ++ (zfX (T.last.take j) ++ zbB a.1.toNat)) z3 (by omega) (by simp; omega) ?_
      refine gq2 (zg v1 (zg v2 (zg v3 (zg v4 (zg w2 w3))))) ?_
      refine zho (b := B ++ (zfX (T.last.take j) ++ (zbB a.1.toNat ++ zbB a.2.1.toNat))) z5 (by omega) (by simp; omega) ?_
      refine gq28 (zg v1 (zg v2 (zg v3 (zg v4 (wkc j (by omega)))))) ?_
      refine zcd.next hlj ⟨rfl, ?_⟩
      have e : B ++ zfX (T.last.take (j + 1)) = B ++ (zfX (T.last.take j) ++ (zbB a.1.toNat ++ (zbB a.2.1.toNat ++ zbB a.2.2.toNat))) := by
        rw [List.take_add_one, ha]; simp [zfX, lastB]
      rw [e]
      exact hJ1.put _
    · have hdj : decide ((j : Int) < 8) = false := by simp; omega
      have hjo : T.last.take j = T.last := List.take_of_length_le (by omega)
      rw [hjo] at hJ'
      have u1 := hJ'.box
      have e : B ++ zfX T.last = zcQ T := by rw [zcQ, ← hB]; simp
      rw [e] at u1
      refine gq2 (zg hdj u1) ?_
      exact ends_take hJ'.pre (by simp [zfO, dmT, dm, dm1, zdg]) hl hK
end

end Go.Proofs.Ythpnelbciibjeaa
