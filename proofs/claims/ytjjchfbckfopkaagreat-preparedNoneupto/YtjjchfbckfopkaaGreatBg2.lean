/- A certificate that is put together of what was made ahead. -/
import Derived.Test.YtjjchfbckfopkaaGreatBg1
set_option linter.all false
set_option maxRecDepth 100000
set_option linter.unusedSimpArgs false
set_option linter.unusedVariables false
namespace Go.Proofs.YtjjchfbckfopkaaGreat
open Go.AW

structure TSpec where
  view : Int
  seq : Int
  batch : Nat
  dig : Int
  first : Nat
  signs : List UInt8
def zmN (bs : List (List ze)) (ds : List Int) (ss : List zO) (p : TSpec) : zav :=
  let k := p.batch % bs.length
  let f := ss.getD (p.first % ss.length) ⟨0, 0⟩
  ⟨p.view, p.seq, if p.dig = 0 then ds.getD k 0 else p.dig, f.key, f.dig, p.signs.map fun g => ss.getD (g.toNat % ss.length) ⟨0, 0⟩, bs.getD k []⟩
theorem get_bs {bs : List (List ze)} {i : Nat} (h : i < bs.length) : (bsE bs)[i]? = some [D.slice (zbn (bs.getD i []))] := by
  have : bs[i]? = some (bs.getD i []) := by simp [List.getD, List.getElem?_eq_getElem h]
  exact zaT (f := fun l => [D.slice (zbn l)]) this
theorem get_ss {ss : List zO} {i : Nat} (h : i < ss.length) : (zaL ss)[i]? = some [D.int .i64 (ss.getD i ⟨0, 0⟩).key, D.int .i64 (ss.getD i ⟨0, 0⟩).dig] := by
  have : ss[i]? = some (ss.getD i ⟨0, 0⟩) := by simp [List.getD, List.getElem?_eq_getElem h]
  exact zaT (f := zgb) this
theorem ziP {a n : Nat} (hn : 0 < n) (hn2 : n ≤ 2147483648) (ha : a < 256) : IntKind.i64.wrap (a : Int) = (a : Int) ∧ ((n : Int) == 0) = false ∧ Int.tmod (a : Int) (n : Int) = ((a % n : Nat) : Int) ∧ IntKind.i64.wrap ((a % n : Nat) : Int) = ((a % n : Nat) : Int) := by
  refine ⟨zao (by omega) (by omega), beq_eq_false_iff_ne.2 (by omega), ?_, ?_⟩
  · rw [Int.tmod_eq_emod_of_nonneg (show (0 : Int) ≤ (a : Int) by omega)]; rfl
  · have h1 := Nat.lt_of_lt_of_le (Nat.mod_lt a hn) hn2
    exact (show ∀ i : Nat, i < 2147483648 → IntKind.i64.wrap (i : Int) = (i : Int) from fun i h => zao (by omega) (by omega)) _ h1

theorem gq48 {A P Q : Prop} (a : A) (h : Q) (e : A → Hd Q → P := by intro a h; (repeat' first | simp -dsimp only [↓zem, ↓zas, ↓zbe, ↓zen, ↓zeg, ↓zee, ↓zeh, ↓zef, ↓zbj, ↓zbf, ↓zbk, ↓zbg, ↓zei, ↓zbd, ↓zbl, ↓zbh, ↓zbm, ↓zbi, ↓zec, ↓zel, ↓zbc, ↓zbo, ↓zdY, ↓zdX, ↓zeb, iN, bT, bF, eN, ↓zcx, ↓unC, ↓zU, ↓zE, ↓zF, ↓zI, ↓zaa, ↓zaE, ↓zco, ↓zZ, ↓zbw, ↓zQ, ↓zl, ↓zm, ↓zbF, ↓zf, ↓zab, ↓zK, ↓zay, ↓zaD, ↓zc, ↓zy, ↓zi, ↓zr, ↓zai, ↓zcz, ↓zcG, ↓zal, ↓zap, ↓zax, ↓zaG, ↓zaN, ↓zj, ↓zad, ↓zG, ↓zq, ↓zX, zcE, zaZ, zaW, unA, zcH, bnd, zdj, zY, zac, zdk, dm, dm1, zJ, zar, zdD, zdC, zT, Q0, Q1, Q2, Q3, Q4, Q5, zS, zg, zp, zu, zC, Q6, Q7, Q8, Q9, Q10, Q11, Q12, Q13, Q14, Nat.reduceAdd, Q15, Int.reduceToNat, Q16, Q17, Q18, Q19, Q20, reduceIte, Q21, Q22, zA, rep, zV, zdZ, toD, zaj, Q23, Q24, Q25, Q26, Q27, Q28, Nat.reduceLeDiff, Q29, Nat.reduceSub, Q30, Q31, Q32, sc, Q33, Q34, Q35, Q36, Q37, Q26, Q38, Q39, zjL, zjI, zjF, zjM, zdO, zjJ, zjG, zjK, zjH, zdN, zdP, zjT, zjU, Bool.not_true, Bool.not_false, List.length_map, zaq, zaU, a] | with_reducible refine zkm ?_ | fail); exact h.go) : P := e a ⟨h⟩
theorem gq49 {A P Q : Prop} (a : A) (h : Q) (e : A → Hd Q → P := by intro a h; (repeat' first | simp -dsimp only [↓zem, ↓zas, ↓zbe, ↓zen, ↓zeg, ↓zee, ↓zeh, ↓zef, ↓zbj, ↓zbf, ↓zbk, ↓zbg, ↓zei, ↓zbd, ↓zbl, ↓zbh, ↓zbm, ↓zbi, ↓zec, ↓zel, ↓zbc, ↓zbo, ↓zdY, ↓zdX, ↓zeb, iN, bT, bF, eN, ↓zcx, ↓unC, ↓zU, ↓zE, ↓zF, ↓zI, ↓zaa, ↓zaE, ↓zco, ↓zZ, ↓zbw, ↓zQ, ↓zl, ↓zm, ↓zbF, ↓zf, ↓zab, ↓zK, ↓zay, ↓zaD, ↓zc, ↓zy, ↓zi, ↓zr, ↓zai, ↓zcz, ↓zcG, ↓zal, ↓zap, ↓zax, ↓zaG, ↓zaN, ↓zj, ↓zad, ↓zG, ↓zq, ↓zX, zcE, zaZ, zaW, unA, zcH, bnd, zdj, zY, zac, zdk, dm, dm1, zJ, zar, zdD, zdC, zT, Q0, Q1, Q2, Q3, Q4, Q5, zS, zg, zp, zu, zC, Q6, Q7, Q8, Q9, Q10, Q11, Q12, Q13, Q14, Nat.reduceAdd, Q15, Int.reduceToNat, Q16, Q17, Q18, Q19, Q20, reduceIte, Q21, Q22, zA, rep, zV, zdZ, toD, zaj, Q23, Q24, Q25, Q26, Q27, Q28, Nat.reduceLeDiff, Q29, Nat.reduceSub, Q30, Q31, Q32, sc, Q33, Q34, Q35, Q36, Q37, Q26, Q38, Q39, zjL, zjI, zjF, zjM, zdO, zjJ, zjG, zjK, zjH, zdN, zdP, zjT, zjU, Bool.not_true, Bool.not_false, List.length_map, Bool.and_false, Bool.and_self, Bool.false_and, Bool.not_false, Bool.not_true, Bool.true_and, Int.toNat_natCast, Int.toNat_zero, List.drop_zero, List.length_map, List.length_nil, List.nil_append, List.take_length, Nat.sub_zero, Nat.zero_add, Option.isSome_none, Option.isSome_some, Option.map_none, Option.map_some, zaq, beq_self_eq_true, bne_self_eq_false, a] | with_reducible refine zkm ?_ | fail); exact h.go) : P := e a ⟨h⟩
theorem c_made15 {σ : List zb} {sid a b c d : Nat} {bs : List (List ze)} {ds : List Int} {ss : List zO} {p : TSpec}
    (hs : σ[sid]? = some (.box [.box a 0, .box b 0, .box c 0, .box d 0, .d (.slice (bsE bs)), .d (.slice (dsE ds)), .d (.slice (zaL ss))]))
    (hb0 : 0 < bs.length) (hbd : ds.length = bs.length) (hb1 : bs.length ≤ 2147483648) (hs0 : 0 < ss.length) (hs1 : ss.length ≤ 2147483648) (hpb : p.batch < 256) (hpf : p.first < 256) (hpl : p.signs.length ≤ 1073741824)
    {K : AV → List zb → Prop} (hK : K (zfw (zmN bs ds ss p)) σ) :
    zn Tryz.prog zcV [.box sid 0, .agg [.d (.int .i64 p.view), .d (.int .i64 p.seq), .d (.int .u8 p.batch), .d (.int .i64 p.dig), .d (.int .u8 p.first), .d (.slice (bcs p.signs))]] σ K := by
  refine zia zlf fun hl => ?_
  have f9 : ∀ τ, (σ ++ τ)[sid]? = _ := fun τ => zk hs
  have eb : (bsE bs).length = bs.length := List.length_map ..
  have es : (zaL ss).length = ss.length := List.length_map ..
  have ed : (dsE ds).length = ds.length := List.length_map ..
  obtain ⟨w1, w2, w3, w4⟩ := ziP hb0 hb1 hpb
  obtain ⟨v1, v2, v3, v4⟩ := ziP hs0 hs1 hpf
  have gb := get_bs (bs := bs) (i := p.batch % bs.length) (Nat.mod_lt _ hb0)
  have gd := get_ds (ds := ds) (i := p.batch % bs.length) (by rw [hbd]; exact Nat.mod_lt _ hb0)
  have gs := get_ss (ss := ss) (i := p.first % ss.length) (Nat.mod_lt _ hs0)
  obtain ⟨M, hM⟩ : ∃ M, zmN bs ds ss p = M := ⟨_, rfl⟩
  have hMs : M.signs = p.signs.map fun g => ss.getD (g.toNat % ss.length) ⟨0, 0⟩ := by rw [← hM]; rfl
  have hMl : M.signs.length = p.signs.length := by rw [hMs, List.length_map]
  have m1 : p.view = M.view := by rw [← hM]; rfl
  have m2 : p.seq = M.seq := by rw [← hM]; rfl
  have m3 : (ss.getD (p.first % ss.length) ⟨0, 0⟩).key = M.fkey := by rw [← hM]; rfl
  have m4 : (ss.getD (p.first % ss.length) ⟨0, 0⟩).dig = M.fdig := by rw [← hM]; rfl
  have m5 : bs.getD (p.batch % bs.length) [] = M.batch := by rw [← hM]; rfl
  rw [hM] at hK
  have body : ∀ (B1 B2 : zb) (v : Int), v = M.dig → B1 = .box [.d (.int .i64 p.view), .d (.int .i64 p.seq), .d (.int .u8 p.batch), .d (.int .i64 p.dig), .d (.int .u8 p.first), .d (.slice (bcs p.signs))] →
      B2 = .box [.d (.int .i64 0), .d (.int .i64 0), .d (.int .i64 0), .d (.int .i64 0), .d (.int .i64 0), .exact [], .exact []] →
      zjk [.d (.int .i64 0)] (σ ++ [B1, B2, .box [.d (.int .i64 p.view), .d (.int .i64 p.seq), .d (.int .i64 v), .d (.int .i64 (ss.getD (p.first % ss.length) ⟨0, 0⟩).key), .d (.int .i64 (ss.getD (p.first % ss.length) ⟨0, 0⟩).dig), .exact [], .d (.slice (zbn (bs.getD (p.batch % bs.length) [])))]])
        [.d (.int .i64 0)] (σ ++ (B1 :: B2 :: .box [.d (.int .i64 M.view), .d (.int .i64 M.seq), .d (.int .i64 M.dig), .d (.int .i64 M.fkey), .d (.int .i64 M.fdig), .own (σ.length + 3) (zaL (M.signs.take 0)), .d (.slice (zbn M.batch))] :: .tok 2 0 :: [])) := fun B1 B2 v hv _ _ => by
    subst hv
    rw [m1, m2, m3, m4, m5]
    refine .tokB (σ.length + 2) 5 _ [] 2 (by rw [zg]; rfl) rfl (by simp) ?_
    rw [zu, zS, List.append_assoc]
    exact .refl _ _
  simp only [zgC, iN, bT, bF, eN, zl0]
  cases hz : (p.dig == 0)
  · have hq : p.dig = M.dig := by rw [← hM]; simp at hz; simp [zmN, hz]
    refine gq2 (zo f9 (zo eb (zo es (zo ed (zo w1 (zo w2 (zo w3 (zo w4 (zo v1 (zo v2 (zo v3 (zo v4 (zo gb (zo gs hz)))))))))))))) ?_
    refine zbL p.signs.length (fun j vs s => vs = [.d (.int .i64 j)] ∧ ∃ U, s = σ ++ (_ :: _ :: .box [.d (.int .i64 M.view), .d (.int .i64 M.seq), .d (.int .i64 M.dig), .d (.int .i64 M.fkey), .d (.int .i64 M.fdig), .own (σ.length + 3) (zaL (M.signs.take j)), .d (.slice (zbn M.batch))] :: .tok 2 j :: U)) (body _ _ _ hq rfl rfl) ⟨rfl, [], rfl⟩ ?_
    rintro j vs s hj ⟨rfl, U, rfl⟩
    by_cases hjl : j < p.signs.length
    · have hd : decide ((j : Int) < (p.signs.length : Int)) = true := by simp; omega
      have hr : p.signs[j]? = some p.signs[j] := by simp [hjl]
      have hgr := zaT (f := zaU) hr
      obtain ⟨x, hx⟩ : ∃ x, p.signs[j] = x := ⟨_, rfl⟩
      rw [hx] at hr hgr
      obtain ⟨x1, _, x3, x4⟩ := ziP hs0 hs1 x.toNat_lt
      have gx := get_ss (ss := ss) (i := x.toNat % ss.length) (Nat.mod_lt _ hs0)
      have hmj : M.signs[j]? = some (ss.getD (x.toNat % ss.length) ⟨0, 0⟩) := by rw [hMs, List.getElem?_map, hr]; rfl
      have hw : IntKind.i64.wrap ((j : Int) + 1) = ((j + 1 : Nat) : Int) := by rw [zao (by omega) (by omega)]; rfl
      have hlt2 : (zaL (M.signs.take j)).length = j := by rw [List.length_map, List.length_take]; omega
      refine gq48 (zo hd (zo hgr (zo f9 (zo es (zo x1 (zo v2 (zo x3 (zo x4 (zo gx (zo hlt2 hw)))))))))) ?_
      refine zbq.next hjl ⟨rfl, U, ?_⟩
      rw [List.take_add_one, hmj]
      simp [zgb]
    · have hd : decide ((j : Int) < (p.signs.length : Int)) = false := by simp; omega
      rw [show M.signs.take j = M.signs from List.take_of_length_le (by omega)]
      refine gq49 hd ?_
      refine zam hl ?_
      exact hK
  · have hq : ds.getD (p.batch % bs.length) 0 = M.dig := by rw [← hM]; simp at hz; simp [zmN, hz]
    refine gq2 (zo f9 (zo eb (zo es (zo ed (zo w1 (zo w2 (zo w3 (zo w4 (zo v1 (zo v2 (zo v3 (zo v4 (zo gb (zo gd (zo gs hz))))))))))))))) ?_
    refine zbL p.signs.length (fun j vs s => vs = [.d (.int .i64 j)] ∧ ∃ U, s = σ ++ (_ :: _ :: .box [.d (.int .i64 M.view), .d (.int .i64 M.seq), .d (.int .i64 M.dig), .d (.int .i64 M.fkey), .d (.int .i64 M.fdig), .own (σ.length + 3) (zaL (M.signs.take j)), .d (.slice (zbn M.batch))] :: .tok 2 j :: U)) (body _ _ _ hq rfl rfl) ⟨rfl, [], rfl⟩ ?_
    rintro j vs s hj ⟨rfl, U, rfl⟩
    by_cases hjl : j < p.signs.length
    · have hd : decide ((j : Int) < (p.signs.length : Int)) = true := by simp; omega
      have hr : p.signs[j]? = some p.signs[j] := by simp [hjl]
      have hgr := zaT (f := zaU) hr
      obtain ⟨x, hx⟩ : ∃ x, p.signs[j] = x := ⟨_, rfl⟩
      rw [hx] at hr hgr
      obtain ⟨x1, _, x3, x4⟩ := ziP hs0 hs1 x.toNat_lt
      have gx := get_ss (ss := ss) (i := x.toNat % ss.length) (Nat.mod_lt _ hs0)
      have hmj : M.signs[j]? = some (ss.getD (x.toNat % ss.length) ⟨0, 0⟩) := by rw [hMs, List.getElem?_map, hr]; rfl
      have hw : IntKind.i64.wrap ((j : Int) + 1) = ((j + 1 : Nat) : Int) := by rw [zao (by omega) (by omega)]; rfl
      have hlt2 : (zaL (M.signs.take j)).length = j := by rw [List.length_map, List.length_take]; omega
      refine gq48 (zo hd (zo hgr (zo f9 (zo es (zo x1 (zo v2 (zo x3 (zo x4 (zo gx (zo hlt2 hw)))))))))) ?_
      refine zbq.next hjl ⟨rfl, U, ?_⟩
      rw [List.take_add_one, hmj]
      simp [zgb]
    · have hd : decide ((j : Int) < (p.signs.length : Int)) = false := by simp; omega
      rw [show M.signs.take j = M.signs from List.take_of_length_le (by omega)]
      refine gq49 hd ?_
      refine zam hl ?_
      exact hK
end Go.Proofs.YtjjchfbckfopkaaGreat
