/- A certificate that is put together of what was made ahead. -/
import Derived.Test.YtjjchfbckfopkaaGreatBg1
set_option linter.all false
set_option maxRecDepth 100000
set_option linter.unusedSimpArgs false
set_option linter.unusedVariables false
namespace Go.Proofs.YtjjchfbckfopkaaGreat
open Go.AW

structure TSpec where
  view : Int
  seq : Int
  batch : Nat
  dig : Int
  first : Nat
  signs : List UInt8
def zoa (bs : List (List zf)) (ds : List Int) (ss : List zP) (p : TSpec) : zw :=
  let k := p.batch % bs.length
  let f := ss.getD (p.first % ss.length) ⟨0, 0⟩
  ⟨p.view, p.seq, if p.dig = 0 then ds.getD k 0 else p.dig, f.key, f.dig, p.signs.map fun g => ss.getD (g.toNat % ss.length) ⟨0, 0⟩, bs.getD k []⟩
theorem get_bs {bs : List (List zf)} {i : Nat} (h : i < bs.length) : (bsE bs)[i]? = some [D.slice (zaM (bs.getD i []))] := by
  have : bs[i]? = some (bs.getD i []) := by simp [List.getD, List.getElem?_eq_getElem h]
  exact zax (f := fun l => [D.slice (zaM l)]) this
theorem get_ss {ss : List zP} {i : Nat} (h : i < ss.length) : (zaB ss)[i]? = some [D.int .i64 (ss.getD i ⟨0, 0⟩).key, D.int .i64 (ss.getD i ⟨0, 0⟩).dig] := by
  have : ss[i]? = some (ss.getD i ⟨0, 0⟩) := by simp [List.getD, List.getElem?_eq_getElem h]
  exact zax (f := zfn) this
theorem zkb {a n : Nat} (hn : 0 < n) (hn2 : n ≤ 2147483648) (ha : a < 256) : IntKind.i64.wrap (a : Int) = (a : Int) ∧ ((n : Int) == 0) = false ∧ Int.tmod (a : Int) (n : Int) = ((a % n : Nat) : Int) ∧ IntKind.i64.wrap ((a % n : Nat) : Int) = ((a % n : Nat) : Int) := by
  refine ⟨zap (by omega) (by omega), beq_eq_false_iff_ne.2 (by omega), ?_, ?_⟩
  · rw [Int.tmod_eq_emod_of_nonneg (show (0 : Int) ≤ (a : Int) by omega)]; rfl
  · have h1 := Nat.lt_of_lt_of_le (Nat.mod_lt a hn) hn2
    exact (show ∀ i : Nat, i < 2147483648 → IntKind.i64.wrap (i : Int) = (i : Int) from fun i h => zap (by omega) (by omega)) _ h1

theorem gq54 {A P Q : Prop} (a : A) (h : Q) (e : A → Hd Q → P := by intro a h; (repeat' first | simp -dsimp only [↓zek, ↓zar, ↓zbg, ↓zel, ↓zef, ↓zed, ↓zeg, ↓zee, ↓zbl, ↓zbh, ↓zbm, ↓zbi, ↓zeh, ↓zbe, ↓zbn, ↓zbj, ↓zbo, ↓zbk, ↓zec, ↓zej, ↓zbd, ↓zbp, ↓zdW, ↓zdV, ↓zea, iN, bT, bF, eN, ↓zci, ↓unC, ↓zS, ↓zE, ↓zF, ↓zJ, ↓zZ, ↓zaD, ↓zcj, ↓zab, ↓zbr, ↓zU, ↓zl, ↓zo, ↓zbz, ↓zg, ↓zad, ↓zI, ↓zaz, ↓zaJ, ↓zc, ↓zB, ↓zn, ↓zq, ↓zaj, ↓zcB, ↓zcE, ↓zah, ↓zao, ↓zaA, ↓zaO, ↓zaT, ↓zm, ↓zae, ↓zG, ↓zp, ↓zY, zcD, zaV, zaU, unA, zcK, bnd, zcZ, zaa, zag, zdh, dm, dm1, zM, zau, zdy, zdx, zT, Q0, Q1, Q2, Q3, Q4, Q5, zR, zi, zk, zu, zy, Q6, Q7, Q8, Q9, Q10, Q11, Q12, Q13, Q14, Nat.reduceAdd, Q15, Int.reduceToNat, Q16, Q17, Q18, Q19, Q20, reduceIte, Q21, Q22, zA, rep, zV, zdX, toD, zaf, Q23, Q24, Q25, Q26, Q27, Q28, Nat.reduceLeDiff, Q29, Nat.reduceSub, Q30, Q31, Q32, sc, Q33, Q34, Q35, Q36, Q37, Q26, Q38, Q39, zjZ, zjW, zjT, zka, zdJ, zjX, zjU, zjY, zjV, zdI, zdK, zkf, zkg, Bool.not_true, Bool.not_false, List.length_map, zav, zaW, a] | with_reducible refine zkw ?_ | fail); exact h.go) : P := e a ⟨h⟩
theorem gq55 {A P Q : Prop} (a : A) (h : Q) (e : A → Hd Q → P := by intro a h; (repeat' first | simp -dsimp only [↓zek, ↓zar, ↓zbg, ↓zel, ↓zef, ↓zed, ↓zeg, ↓zee, ↓zbl, ↓zbh, ↓zbm, ↓zbi, ↓zeh, ↓zbe, ↓zbn, ↓zbj, ↓zbo, ↓zbk, ↓zec, ↓zej, ↓zbd, ↓zbp, ↓zdW, ↓zdV, ↓zea, iN, bT, bF, eN, ↓zci, ↓unC, ↓zS, ↓zE, ↓zF, ↓zJ, ↓zZ, ↓zaD, ↓zcj, ↓zab, ↓zbr, ↓zU, ↓zl, ↓zo, ↓zbz, ↓zg, ↓zad, ↓zI, ↓zaz, ↓zaJ, ↓zc, ↓zB, ↓zn, ↓zq, ↓zaj, ↓zcB, ↓zcE, ↓zah, ↓zao, ↓zaA, ↓zaO, ↓zaT, ↓zm, ↓zae, ↓zG, ↓zp, ↓zY, zcD, zaV, zaU, unA, zcK, bnd, zcZ, zaa, zag, zdh, dm, dm1, zM, zau, zdy, zdx, zT, Q0, Q1, Q2, Q3, Q4, Q5, zR, zi, zk, zu, zy, Q6, Q7, Q8, Q9, Q10, Q11, Q12, Q13, Q14, Nat.reduceAdd, Q15, Int.reduceToNat, Q16, Q17, Q18, Q19, Q20, reduceIte, Q21, Q22, zA, rep, zV, zdX, toD, zaf, Q23, Q24, Q25, Q26, Q27, Q28, Nat.reduceLeDiff, Q29, Nat.reduceSub, Q30, Q31, Q32, sc, Q33, Q34, Q35, Q36, Q37, Q26, Q38, Q39, zjZ, zjW, zjT, zka, zdJ, zjX, zjU, zjY, zjV, zdI, zdK, zkf, zkg, Bool.not_true, Bool.not_false, List.length_map, Bool.and_false, Bool.and_self, Bool.false_and, Bool.not_false, Bool.not_true, Bool.true_and, Int.toNat_natCast, Int.toNat_zero, List.drop_zero, List.length_map, List.length_nil, List.nil_append, List.take_length, Nat.sub_zero, Nat.zero_add, Option.isSome_none, Option.isSome_some, Option.map_none, Option.map_some, zav, beq_self_eq_true, bne_self_eq_false, a] | with_reducible refine zkw ?_ | fail); exact h.go) : P := e a ⟨h⟩
theorem c_made15 {σ : List zb} {sid a b c d : Nat} {bs : List (List zf)} {ds : List Int} {ss : List zP} {p : TSpec}
    (hs : σ[sid]? = some (.box [.box a 0, .box b 0, .box c 0, .box d 0, .d (.slice (bsE bs)), .d (.slice (dsE ds)), .d (.slice (zaB ss))]))
    (hb0 : 0 < bs.length) (hbd : ds.length = bs.length) (hb1 : bs.length ≤ 2147483648) (hs0 : 0 < ss.length) (hs1 : ss.length ≤ 2147483648) (hpb : p.batch < 256) (hpf : p.first < 256) (hpl : p.signs.length ≤ 1073741824)
    {K : AV → List zb → Prop} (hK : K (zdZ (zoa bs ds ss p)) σ) :
    zt Tryz.prog zdl [.box sid 0, .agg [.d (.int .i64 p.view), .d (.int .i64 p.seq), .d (.int .u8 p.batch), .d (.int .i64 p.dig), .d (.int .u8 p.first), .d (.slice (bcs p.signs))]] σ K := by
  refine zhh zmn fun hl => ?_
  have f9 : ∀ τ, (σ ++ τ)[sid]? = _ := fun τ => ze hs
  have eb : (bsE bs).length = bs.length := List.length_map ..
  have es : (zaB ss).length = ss.length := List.length_map ..
  have ed : (dsE ds).length = ds.length := List.length_map ..
  obtain ⟨w1, w2, w3, w4⟩ := zkb hb0 hb1 hpb
  obtain ⟨v1, v2, v3, v4⟩ := zkb hs0 hs1 hpf
  have gb := get_bs (bs := bs) (i := p.batch % bs.length) (Nat.mod_lt _ hb0)
  have gd := get_ds (ds := ds) (i := p.batch % bs.length) (by rw [hbd]; exact Nat.mod_lt _ hb0)
  have gs := get_ss (ss := ss) (i := p.first % ss.length) (Nat.mod_lt _ hs0)
  obtain ⟨M, hM⟩ : ∃ M, zoa bs ds ss p = M := ⟨_, rfl⟩
  have hMs : M.signs = p.signs.map fun g => ss.getD (g.toNat % ss.length) ⟨0, 0⟩ := by rw [← hM]; rfl
  have hMl : M.signs.length = p.signs.length := by rw [hMs, List.length_map]
  have m1 : p.view = M.view := by rw [← hM]; rfl
  have m2 : p.seq = M.seq := by rw [← hM]; rfl
  have m3 : (ss.getD (p.first % ss.length) ⟨0, 0⟩).key = M.fkey := by rw [← hM]; rfl
  have m4 : (ss.getD (p.first % ss.length) ⟨0, 0⟩).dig = M.fdig := by rw [← hM]; rfl
  have m5 : bs.getD (p.batch % bs.length) [] = M.batch := by rw [← hM]; rfl
  rw [hM] at hK
  have body : ∀ (B1 B2 : zb) (v : Int), v = M.dig → B1 = .box [.d (.int .i64 p.view), .d (.int .i64 p.seq), .d (.int .u8 p.batch), .d (.int .i64 p.dig), .d (.int .u8 p.first), .d (.slice (bcs p.signs))] →
      B2 = .box [.d (.int .i64 0), .d (.int .i64 0), .d (.int .i64 0), .d (.int .i64 0), .d (.int .i64 0), .exact [], .exact []] →
      ziX [.d (.int .i64 0)] (σ ++ [B1, B2, .box [.d (.int .i64 p.view), .d (.int .i64 p.seq), .d (.int .i64 v), .d (.int .i64 (ss.getD (p.first % ss.length) ⟨0, 0⟩).key), .d (.int .i64 (ss.getD (p.first % ss.length) ⟨0, 0⟩).dig), .exact [], .d (.slice (zaM (bs.getD (p.batch % bs.length) [])))]])
        [.d (.int .i64 0)] (σ ++ (B1 :: B2 :: .box [.d (.int .i64 M.view), .d (.int .i64 M.seq), .d (.int .i64 M.dig), .d (.int .i64 M.fkey), .d (.int .i64 M.fdig), .own (σ.length + 3) (zaB (M.signs.take 0)), .d (.slice (zaM M.batch))] :: .tok 2 0 :: [])) := fun B1 B2 v hv _ _ => by
    subst hv
    rw [m1, m2, m3, m4, m5]
    refine .tokB (σ.length + 2) 5 _ [] 2 (by rw [zi]; rfl) rfl (by simp) ?_
    rw [zu, zR, List.append_assoc]
    exact .refl _ _
  simp only [zhp, iN, bT, bF, eN, zl1]
  cases hz : (p.dig == 0)
  · have hq : p.dig = M.dig := by rw [← hM]; simp at hz; simp [zoa, hz]
    refine gq2 (zj f9 (zj eb (zj es (zj ed (zj w1 (zj w2 (zj w3 (zj w4 (zj v1 (zj v2 (zj v3 (zj v4 (zj gb (zj gs hz)))))))))))))) ?_
    refine zbw p.signs.length (fun j vs s => vs = [.d (.int .i64 j)] ∧ ∃ U, s = σ ++ (_ :: _ :: .box [.d (.int .i64 M.view), .d (.int .i64 M.seq), .d (.int .i64 M.dig), .d (.int .i64 M.fkey), .d (.int .i64 M.fdig), .own (σ.length + 3) (zaB (M.signs.take j)), .d (.slice (zaM M.batch))] :: .tok 2 j :: U)) (body _ _ _ hq rfl rfl) ⟨rfl, [], rfl⟩ ?_
    rintro j vs s hj ⟨rfl, U, rfl⟩
    by_cases hjl : j < p.signs.length
    · have hd : decide ((j : Int) < (p.signs.length : Int)) = true := by simp; omega
      have hr : p.signs[j]? = some p.signs[j] := by simp [hjl]
      have hgr := zax (f := zaW) hr
      obtain ⟨x, hx⟩ : ∃ x, p.signs[j] = x := ⟨_, rfl⟩
      rw [hx] at hr hgr
      obtain ⟨x1, _, x3, x4⟩ := zkb hs0 hs1 x.toNat_lt
      have gx := get_ss (ss := ss) (i := x.toNat % ss.length) (Nat.mod_lt _ hs0)
      have hmj : M.signs[j]? = some (ss.getD (x.toNat % ss.length) ⟨0, 0⟩) := by rw [hMs, List.getElem?_map, hr]; rfl
      have hw : IntKind.i64.wrap ((j : Int) + 1) = ((j + 1 : Nat) : Int) := by rw [zap (by omega) (by omega)]; rfl
      have hlt2 : (zaB (M.signs.take j)).length = j := by rw [List.length_map, List.length_take]; omega
      refine gq54 (zj hd (zj hgr (zj f9 (zj es (zj x1 (zj v2 (zj x3 (zj x4 (zj gx (zj hlt2 hw)))))))))) ?_
      refine zaQ.next hjl ⟨rfl, U, ?_⟩
      rw [List.take_add_one, hmj]
      simp [zfn]
    · have hd : decide ((j : Int) < (p.signs.length : Int)) = false := by simp; omega
      rw [show M.signs.take j = M.signs from List.take_of_length_le (by omega)]
      refine gq55 hd ?_
      refine zam hl ?_
      exact hK
  · have hq : ds.getD (p.batch % bs.length) 0 = M.dig := by rw [← hM]; simp at hz; simp [zoa, hz]
    refine gq2 (zj f9 (zj eb (zj es (zj ed (zj w1 (zj w2 (zj w3 (zj w4 (zj v1 (zj v2 (zj v3 (zj v4 (zj gb (zj gd (zj gs hz))))))))))))))) ?_
    refine zbw p.signs.length (fun j vs s => vs = [.d (.int .i64 j)] ∧ ∃ U, s = σ ++ (_ :: _ :: .box [.d (.int .i64 M.view), .d (.int .i64 M.seq), .d (.int .i64 M.dig), .d (.int .i64 M.fkey), .d (.int .i64 M.fdig), .own (σ.length + 3) (zaB (M.signs.take j)), .d (.slice (zaM M.batch))] :: .tok 2 j :: U)) (body _ _ _ hq rfl rfl) ⟨rfl, [], rfl⟩ ?_
    rintro j vs s hj ⟨rfl, U, rfl⟩
    by_cases hjl : j < p.signs.length
    · have hd : decide ((j : Int) < (p.signs.length : Int)) = true := by simp; omega
      have hr : p.signs[j]? = some p.signs[j] := by simp [hjl]
      have hgr := zax (f := zaW) hr
      obtain ⟨x, hx⟩ : ∃ x, p.signs[j] = x := ⟨_, rfl⟩
      rw [hx] at hr hgr
      obtain ⟨x1, _, x3, x4⟩ := zkb hs0 hs1 x.toNat_lt
      have gx := get_ss (ss := ss) (i := x.toNat % ss.length) (Nat.mod_lt _ hs0)
      have hmj : M.signs[j]? = some (ss.getD (x.toNat % ss.length) ⟨0, 0⟩) := by rw [hMs, List.getElem?_map, hr]; rfl
      have hw : IntKind.i64.wrap ((j : Int) + 1) = ((j + 1 : Nat) : Int) := by rw [zap (by omega) (by omega)]; rfl
      have hlt2 : (zaB (M.signs.take j)).length = j := by rw [List.length_map, List.length_take]; omega
      refine gq54 (zj hd (zj hgr (zj f9 (zj es (zj x1 (zj v2 (zj x3 (zj x4 (zj gx (zj hlt2 hw)))))))))) ?_
      refine zaQ.next hjl ⟨rfl, U, ?_⟩
      rw [List.take_add_one, hmj]
      simp [zfn]
    · have hd : decide ((j : Int) < (p.signs.length : Int)) = false := by simp; omega
      rw [show M.signs.take j = M.signs from List.take_of_length_le (by omega)]
      refine gq55 hd ?_
      refine zam hl ?_
      exact hK
end Go.Proofs.YtjjchfbckfopkaaGreat
