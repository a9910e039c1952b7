/- A certificate that is put together of what was made ahead. -/
import Derived.Test.YtcappjcojggehaaGreatBg1
set_option linter.all false
set_option maxRecDepth 100000
set_option linter.unusedSimpArgs false
set_option linter.unusedVariables false
namespace Go.Proofs.YtcappjcojggehaaGreat
open Go.AW

structure TSpec where
  view : Int
  seq : Int
  batch : Nat
  dig : Int
  first : Nat
  signs : List UInt8
def specD (p : TSpec) : List D := [.int .i64 p.view, .int .i64 p.seq, .int .u8 p.batch, .int .i64 p.dig, .int .u8 p.first, .slice (bcs p.signs)]
def madeF (bs : List (List zk)) (ds : List Int) (ss : List TSign) (p : TSpec) : TPrep :=
  let k := p.batch % bs.length
  let f := ss.getD (p.first % ss.length) ⟨0, 0⟩
  ⟨p.view, p.seq, if p.dig = 0 then ds.getD k 0 else p.dig, f.key, f.dig, p.signs.map fun g => ss.getD (g.toNat % ss.length) ⟨0, 0⟩, bs.getD k []⟩
theorem get_bs {bs : List (List zk)} {i : Nat} (h : i < bs.length) : (bsE bs)[i]? = some [D.slice (zaO (bs.getD i []))] := by
  have : bs[i]? = some (bs.getD i []) := by simp [List.getD, List.getElem?_eq_getElem h]
  exact zas (f := fun l => [D.slice (zaO l)]) this
theorem get_ss {ss : List TSign} {i : Nat} (h : i < ss.length) : (zaw ss)[i]? = some [D.int .i64 (ss.getD i ⟨0, 0⟩).key, D.int .i64 (ss.getD i ⟨0, 0⟩).dig] := by
  have : ss[i]? = some (ss.getD i ⟨0, 0⟩) := by simp [List.getD, List.getElem?_eq_getElem h]
  exact zas (f := signD) this
theorem zis {a n : Nat} (hn : 0 < n) (hn2 : n ≤ 2147483648) (ha : a < 256) : IntKind.i64.wrap (a : Int) = (a : Int) ∧ ((n : Int) == 0) = false ∧ Int.tmod (a : Int) (n : Int) = ((a % n : Nat) : Int) ∧ IntKind.i64.wrap ((a % n : Nat) : Int) = ((a % n : Nat) : Int) := by
  refine ⟨zad (by omega) (by omega), beq_eq_false_iff_ne.2 (by omega), ?_, ?_⟩
  · rw [Int.tmod_eq_emod_of_nonneg (show (0 : Int) ≤ (a : Int) by omega)]; rfl
  · have h1 := Nat.lt_of_lt_of_le (Nat.mod_lt a hn) hn2
    exact (show ∀ i : Nat, i < 2147483648 → IntKind.i64.wrap (i : Int) = (i : Int) from fun i h => zad (by omega) (by omega)) _ h1

theorem gq54 {A P Q : Prop} (a : A) (h : Q) (e : A → P = Q := by intro a; simp -dsimp only [↓zae, ↓loopL, ↓binC, ↓unC, ↓zL, ↓zD, ↓zE, ↓zF, ↓zP, ↓lenC, ↓slcC, ↓convC, ↓boxC, ↓zH, ↓loadC, ↓zp, ↓nilC, ↓zh, ↓zV, ↓zr, ↓idxSC, ↓idxAC, ↓zi, ↓zG, ↓zl, ↓zt, ↓zZ, ↓maxC, ↓minC, ↓zab, ↓zac, ↓mgetC, ↓msetC, ↓mdelC, ↓zn, ↓zW, ↓zC, ↓zq, ↓zN, binA, intOp, strOp, unA, esOf, bnd, intV, zR, fillV, srcE, dm, dm1, consO, cellA, maxL, minL, keepO, Q0, Q1, Q2, Q3, Q4, Q5, zK, zm, zw, zx, zy, Q6, Q7, Q8, Q9, Q10, Q11, Q12, Q13, Q14, Nat.reduceAdd, Q15, Int.reduceToNat, Q16, Q17, Q18, Q19, Q20, reduceIte, Q21, Q22, zu, rep, zO, toDs, toD, zaa, Q23, Q24, Q25, Q26, Q27, Q28, Nat.reduceLeDiff, Q29, Nat.reduceSub, Q30, Q31, Q32, sc, Q33, Q34, Q35, Q36, Q37, Q26, Q38, Q39, n0gt, n1gt, n2gt, n0eq, n1eq0, n1eq, n2eq, n0ne, n1ne, n1ne0, n0ne1, i0ne, i0eq, Bool.not_true, Bool.not_false, List.length_map, zbj, zay, a]; rfl) : P := (e a).mpr h
theorem gq55 {A P Q : Prop} (a : A) (h : Q) (e : A → P = Q := by intro a; simp -dsimp only [↓zae, ↓loopL, ↓binC, ↓unC, ↓zL, ↓zD, ↓zE, ↓zF, ↓zP, ↓lenC, ↓slcC, ↓convC, ↓boxC, ↓zH, ↓loadC, ↓zp, ↓nilC, ↓zh, ↓zV, ↓zr, ↓idxSC, ↓idxAC, ↓zi, ↓zG, ↓zl, ↓zt, ↓zZ, ↓maxC, ↓minC, ↓zab, ↓zac, ↓mgetC, ↓msetC, ↓mdelC, ↓zn, ↓zW, ↓zC, ↓zq, ↓zN, binA, intOp, strOp, unA, esOf, bnd, intV, zR, fillV, srcE, dm, dm1, consO, cellA, maxL, minL, keepO, Q0, Q1, Q2, Q3, Q4, Q5, zK, zm, zw, zx, zy, Q6, Q7, Q8, Q9, Q10, Q11, Q12, Q13, Q14, Nat.reduceAdd, Q15, Int.reduceToNat, Q16, Q17, Q18, Q19, Q20, reduceIte, Q21, Q22, zu, rep, zO, toDs, toD, zaa, Q23, Q24, Q25, Q26, Q27, Q28, Nat.reduceLeDiff, Q29, Nat.reduceSub, Q30, Q31, Q32, sc, Q33, Q34, Q35, Q36, Q37, Q26, Q38, Q39, n0gt, n1gt, n2gt, n0eq, n1eq0, n1eq, n2eq, n0ne, n1ne, n1ne0, n0ne1, i0ne, i0eq, Bool.not_true, Bool.not_false, List.length_map, zbj, a]; rfl) : P := (e a).mpr h
theorem zor {σ : List AObj} {sid a b c d : Nat} {bs : List (List zk)} {ds : List Int} {ss : List TSign} {p : TSpec}
    (hs : σ[sid]? = some (.box [.box a 0, .box b 0, .box c 0, .box d 0, .d (.slice (bsE bs)), .d (.slice (dsE ds)), .d (.slice (zaw ss))]))
    (hb0 : 0 < bs.length) (hbd : ds.length = bs.length) (hb1 : bs.length ≤ 2147483648) (hs0 : 0 < ss.length) (hs1 : ss.length ≤ 2147483648) (hpb : p.batch < 256) (hpf : p.first < 256) (hpl : p.signs.length ≤ 1073741824)
    {K : AV → List AObj → Prop} (hK : K (prepA (madeF bs ds ss p)) σ) :
    ACall Tryz.prog zbw [.box sid 0, .agg [.d (.int .i64 p.view), .d (.int .i64 p.seq), .d (.int .u8 p.batch), .d (.int .i64 p.dig), .d (.int .u8 p.first), .d (.slice (bcs p.signs))]] σ K := by
  refine zo ziC rfl fun hl _ => zkK ?_
  have f9 : ∀ τ, (σ ++ τ)[sid]? = _ := fun τ => zI hs
  have eb : (bsE bs).length = bs.length := List.length_map ..
  have es : (zaw ss).length = ss.length := List.length_map ..
  have ed : (dsE ds).length = ds.length := List.length_map ..
  obtain ⟨w1, w2, w3, w4⟩ := zis hb0 hb1 hpb
  obtain ⟨v1, v2, v3, v4⟩ := zis hs0 hs1 hpf
  have gb := get_bs (bs := bs) (i := p.batch % bs.length) (Nat.mod_lt _ hb0)
  have gd := get_ds (ds := ds) (i := p.batch % bs.length) (by rw [hbd]; exact Nat.mod_lt _ hb0)
  have gs := get_ss (ss := ss) (i := p.first % ss.length) (Nat.mod_lt _ hs0)
  obtain ⟨M, hM⟩ : ∃ M, madeF bs ds ss p = M := ⟨_, rfl⟩
  have hMs : M.signs = p.signs.map fun g => ss.getD (g.toNat % ss.length) ⟨0, 0⟩ := by rw [← hM]; rfl
  have hMl : M.signs.length = p.signs.length := by rw [hMs, List.length_map]
  have m1 : p.view = M.view := by rw [← hM]; rfl
  have m2 : p.seq = M.seq := by rw [← hM]; rfl
  have m3 : (ss.getD (p.first % ss.length) ⟨0, 0⟩).key = M.fkey := by rw [← hM]; rfl
  have m4 : (ss.getD (p.first % ss.length) ⟨0, 0⟩).dig = M.fdig := by rw [← hM]; rfl
  have m5 : bs.getD (p.batch % bs.length) [] = M.batch := by rw [← hM]; rfl
  rw [hM] at hK
  have body : ∀ (B1 B2 : AObj) (v : Int), v = M.dig → B1 = .box [.d (.int .i64 p.view), .d (.int .i64 p.seq), .d (.int .u8 p.batch), .d (.int .i64 p.dig), .d (.int .u8 p.first), .d (.slice (bcs p.signs))] →
      B2 = .box [.d (.int .i64 0), .d (.int .i64 0), .d (.int .i64 0), .d (.int .i64 0), .d (.int .i64 0), .exact [], .exact []] →
      Weak [.d (.int .i64 0)] (σ ++ [B1, B2, .box [.d (.int .i64 p.view), .d (.int .i64 p.seq), .d (.int .i64 v), .d (.int .i64 (ss.getD (p.first % ss.length) ⟨0, 0⟩).key), .d (.int .i64 (ss.getD (p.first % ss.length) ⟨0, 0⟩).dig), .exact [], .d (.slice (zaO (bs.getD (p.batch % bs.length) [])))]])
        [.d (.int .i64 0)] (σ ++ (B1 :: B2 :: .box [.d (.int .i64 M.view), .d (.int .i64 M.seq), .d (.int .i64 M.dig), .d (.int .i64 M.fkey), .d (.int .i64 M.fdig), .own (σ.length + 3) (zaw (M.signs.take 0)), .d (.slice (zaO M.batch))] :: .tok 2 0 :: [])) := fun B1 B2 v hv _ _ => by
    subst hv
    rw [m1, m2, m3, m4, m5]
    refine .tokB (σ.length + 2) 5 _ [] 2 (by rw [zm]; rfl) rfl (by simp) ?_
    rw [zx, zK, List.append_assoc]
    exact .refl _ _
  simp only [zfM]
  cases hz : (p.dig == 0)
  · have hq : p.dig = M.dig := by rw [← hM]; simp at hz; simp [madeF, hz]
    (repeat' (first | (refine gq2 (gqc0 f9 (gqc0 eb (gqc0 es (gqc0 ed (gqc0 w1 (gqc0 w2 (gqc0 w3 (gqc0 w4 (gqc0 v1 (gqc0 v2 (gqc0 v3 (gqc0 v4 (gqc0 gb (gqc0 gs hz)))))))))))))) ?_; try with_reducible exact True.intro) | ((with_reducible refine And.intro ?_ ?_); focus (first | omega | rfl | decide | (simp; done)))))
    refine zaP p.signs.length (fun j vs s => vs = [.d (.int .i64 j)] ∧ ∃ U, s = σ ++ (_ :: _ :: .box [.d (.int .i64 M.view), .d (.int .i64 M.seq), .d (.int .i64 M.dig), .d (.int .i64 M.fkey), .d (.int .i64 M.fdig), .own (σ.length + 3) (zaw (M.signs.take j)), .d (.slice (zaO M.batch))] :: .tok 2 j :: U)) (body _ _ _ hq rfl rfl) ⟨rfl, [], rfl⟩ ?_
    rintro j vs s hj ⟨rfl, U, rfl⟩
    by_cases hjl : j < p.signs.length
    · have hd : decide ((j : Int) < (p.signs.length : Int)) = true := by simp; omega
      have hr : p.signs[j]? = some p.signs[j] := by simp [hjl]
      have hgr := zas (f := zay) hr
      obtain ⟨x, hx⟩ : ∃ x, p.signs[j] = x := ⟨_, rfl⟩
      rw [hx] at hr hgr
      obtain ⟨x1, _, x3, x4⟩ := zis hs0 hs1 x.toNat_lt
      have gx := get_ss (ss := ss) (i := x.toNat % ss.length) (Nat.mod_lt _ hs0)
      have hmj : M.signs[j]? = some (ss.getD (x.toNat % ss.length) ⟨0, 0⟩) := by rw [hMs, List.getElem?_map, hr]; rfl
      have hw : IntKind.i64.wrap ((j : Int) + 1) = ((j + 1 : Nat) : Int) := by rw [zad (by omega) (by omega)]; rfl
      have hlt2 : (zaw (M.signs.take j)).length = j := by rw [List.length_map, List.length_take]; omega
      (repeat' (first | (refine gq54 (gqc0 hd (gqc0 hgr (gqc0 f9 (gqc0 es (gqc0 x1 (gqc0 v2 (gqc0 x3 (gqc0 x4 (gqc0 gx (gqc0 hlt2 hw)))))))))) ?_; try with_reducible exact True.intro) | ((with_reducible refine And.intro ?_ ?_); focus (first | omega | rfl | decide | (simp; done)))))
      refine Again.next hjl ⟨rfl, U, ?_⟩
      rw [List.take_add_one, hmj]
      simp [signD]
    · have hd : decide ((j : Int) < (p.signs.length : Int)) = false := by simp; omega
      rw [show M.signs.take j = M.signs from List.take_of_length_le (by omega)]
      (repeat' (first | (refine gq55 hd ?_; try with_reducible exact True.intro) | ((with_reducible refine And.intro ?_ ?_); focus (first | omega | rfl | decide | (simp; done)))))
      (first | refine zg (by simp [Low_d, dmT, dm, dm1, pack, zd, ze, zb]) hl ?_ | refine zf (by simp [Low_d, dmT, dm, dm1, pack, zd, ze, zb]) hl ?_)
      exact hK
  · have hq : ds.getD (p.batch % bs.length) 0 = M.dig := by rw [← hM]; simp at hz; simp [madeF, hz]
    (repeat' (first | (refine gq2 (gqc0 f9 (gqc0 eb (gqc0 es (gqc0 ed (gqc0 w1 (gqc0 w2 (gqc0 w3 (gqc0 w4 (gqc0 v1 (gqc0 v2 (gqc0 v3 (gqc0 v4 (gqc0 gb (gqc0 gd (gqc0 gs hz))))))))))))))) ?_; try with_reducible exact True.intro) | ((with_reducible refine And.intro ?_ ?_); focus (first | omega | rfl | decide | (simp; done)))))
    refine zaP p.signs.length (fun j vs s => vs = [.d (.int .i64 j)] ∧ ∃ U, s = σ ++ (_ :: _ :: .box [.d (.int .i64 M.view), .d (.int .i64 M.seq), .d (.int .i64 M.dig), .d (.int .i64 M.fkey), .d (.int .i64 M.fdig), .own (σ.length + 3) (zaw (M.signs.take j)), .d (.slice (zaO M.batch))] :: .tok 2 j :: U)) (body _ _ _ hq rfl rfl) ⟨rfl, [], rfl⟩ ?_
    rintro j vs s hj ⟨rfl, U, rfl⟩
    by_cases hjl : j < p.signs.length
    · have hd : decide ((j : Int) < (p.signs.length : Int)) = true := by simp; omega
      have hr : p.signs[j]? = some p.signs[j] := by simp [hjl]
      have hgr := zas (f := zay) hr
      obtain ⟨x, hx⟩ : ∃ x, p.signs[j] = x := ⟨_, rfl⟩
      rw [hx] at hr hgr
      obtain ⟨x1, _, x3, x4⟩ := zis hs0 hs1 x.toNat_lt
      have gx := get_ss (ss := ss) (i := x.toNat % ss.length) (Nat.mod_lt _ hs0)
      have hmj : M.signs[j]? = some (ss.getD (x.toNat % ss.length) ⟨0, 0⟩) := by rw [hMs, List.getElem?_map, hr]; rfl
      have hw : IntKind.i64.wrap ((j : Int) + 1) = ((j + 1 : Nat) : Int) := by rw [zad (by omega) (by omega)]; rfl
      have hlt2 : (zaw (M.signs.take j)).length = j := by rw [List.length_map, List.length_take]; omega
      (repeat' (first | (refine gq54 (gqc0 hd (gqc0 hgr (gqc0 f9 (gqc0 es (gqc0 x1 (gqc0 v2 (gqc0 x3 (gqc0 x4 (gqc0 gx (gqc0 hlt2 hw)))))))))) ?_; try with_reducible exact True.intro) | ((with_reducible refine And.intro ?_ ?_); focus (first | omega | rfl | decide | (simp; done)))))
      refine Again.next hjl ⟨rfl, U, ?_⟩
      rw [List.take_add_one, hmj]
      simp [signD]
    · have hd : decide ((j : Int) < (p.signs.length : Int)) = false := by simp; omega
      rw [show M.signs.take j = M.signs from List.take_of_length_le (by omega)]
      (repeat' (first | (refine gq55 hd ?_; try with_reducible exact True.intro) | ((with_reducible refine And.intro ?_ ?_); focus (first | omega | rfl | decide | (simp; done)))))
      (first | refine zg (by simp [Low_d, dmT, dm, dm1, pack, zd, ze, zb]) hl ?_ | refine zf (by simp [Low_d, dmT, dm, dm1, pack, zd, ze, zb]) hl ?_)
      exact hK
end Go.Proofs.YtcappjcojggehaaGreat
