/- What chapter 15 begins with: batches and signatures made ahead. -/
import Derived.Test.YtjjchfbckfopkaaGreatHe6
import Derived.Test.YtjjchfbckfopkaaGreatPp1
import Derived.Test.YtjjchfbckfopkaaGreatId5
import Derived.Test.YtjjchfbckfopkaaGreatSpBulk
import Derived.Test.YtjjchfbckfopkaaGreatBg0
set_option linter.all false
set_option maxRecDepth 100000
set_option linter.unusedSimpArgs false
set_option linter.unusedVariables false
namespace Go.Proofs.YtjjchfbckfopkaaGreat
open Go.AW

structure zoM where
  key : Int
  kind : Int
  view : Int
  seq : Int
  batch : Nat
abbrev voteD (v : zoM) : List D := [.int .i64 v.key, .int .i64 v.kind, .int .i64 v.view, .int .i64 v.seq, .int .u8 v.batch]
structure zkN where
  L : List (List UInt8)
  G : List zO
  bs : List (List ze)
  ds : List Int
  ss : List zO
def beB (s : zkN) (reqs : List ze) : zkN :=
  let t := reqs.foldl seR (s.L, s.G, [])
  { s with L := digL t.1 t.2.2, G := t.2.1, bs := s.bs ++ [t.2.2], ds := s.ds ++ [digD t.1 t.2.2] }
def beV (s : zkN) (v : zoM) : zkN :=
  let d := s.ds.getD (v.batch % s.ds.length) 0
  { s with L := votL s.L v.kind v.view v.seq d, G := votG s.L s.G v.key v.kind v.view v.seq d, ss := s.ss ++ [votS s.L v.key v.kind v.view v.seq d] }
def beg0 : zkN := ⟨[], [], [], [], [⟨0, 0⟩]⟩
def begB (bats : List (List ze)) : zkN := ([] :: bats).foldl beB beg0
def begF (bats : List (List ze)) (votes : List zoM) : zkN := votes.foldl beV (begB bats)

abbrev bsE (bs : List (List ze)) : List (List D) := bs.map fun l => [D.slice (zbn l)]
abbrev dsE (ds : List Int) : List (List D) := ds.map fun d => [D.int .i64 d]
def zkL (n : Nat) (C : zb) (N : Nat) (L : List (List UInt8)) (G : List zO) (bs : List (List ze)) (ds : List Int) : List zb :=
  [C, .map (tabM []), .box [.own (n + 3) [], .map (n + 1)], .tok 1 0, .map (zmI []), .box [.own (n + 6) [], .map (n + 4)], .tok 2 0, rtO L, rlO G,
   .box [.box (n + 2) 0, .box (n + 5) 0, .box (n + 7) 0, .box (n + 8) 0, .own (n + 11) (bsE bs), .own (n + 12) (dsE ds), .exact []], .tok 1 N, .tok 1 bs.length, .tok 1 ds.length]
theorem begO_set {σ : List zb} {C : zb} {N : Nat} {L L' : List (List UInt8)} {G G' : List zO} {bs : List (List ze)} {ds : List Int} (X : List zb) :
    ((σ ++ (zkL σ.length C N L G bs ds ++ X)).set (σ.length + 7) (rtO L')).set (σ.length + 8) (rlO G') = σ ++ (zkL σ.length C N L' G' bs ds ++ X) := by
  simp [zkL, zu]
def endO (n : Nat) (C : zb) (B : zkN) : List zb :=
  [C, .map (tabM B.L), .box [.own (n + 3) (zkV B.L), .map (n + 1)], .tok 1 B.L.length, .map (zmI B.G), .box [.own (n + 6) (ziS B.G), .map (n + 4)], .tok 2 B.G.length, rtO B.L, rlO B.G,
   .box [.box (n + 2) 0, .box (n + 5) 0, .box (n + 7) 0, .box (n + 8) 0, .d (.slice (bsE B.bs)), .d (.slice (dsE B.ds)), .d (.slice (zaL B.ss))]]
structure BeI (k tot rest : Nat) (B : zkN) : Prop where
  tab : TabI B.L
  led : B.G.length + rest ≤ tot
  bl : B.bs.length = k
  dl : B.ds.length = k
  sz : ∀ b ∈ B.bs, (∀ x ∈ b, zgJ x.op ≤ 20971520) ∧ b.length ≤ 536870912
theorem beI {k tot rest : Nat} {B : zkN} {l : List ze} (h : BeI k tot (l.length + rest) B) (hl : ∀ x ∈ l, zgJ x.op ≤ 20971520) (ht : tot ≤ 536870912) : BeI (k + 1) tot rest (beB B l) := by
  have hf := foldSe (n := B.G.length) (m := 0) (s := (B.L, B.G, [])) (l := l) ⟨h.tab, Nat.le_refl _, by simp, by simp⟩ hl
  have h2 := h.led
  refine ⟨tab_dig hf.tab hf.sz, ?_, ?_, ?_, fun b hb => ?_⟩
  · have := hf.led
    simp only [beB]; omega
  · simp [beB, h.bl]
  · simp [beB, h.dl]
  · simp only [beB] at hb
    rcases List.mem_append.1 hb with hb | hb
    · exact h.sz b hb
    · simp only [List.mem_singleton] at hb
      subst hb
      exact ⟨hf.sz, by have := hf.len; omega⟩
theorem zlp (n : Nat) (C : zb) (N : Nat) (L : List (List UInt8)) (G : List zO) (bs : List (List ze)) (ds : List Int) : (zkL n C N L G bs ds).length = 13 := rfl
theorem bg_far {σ : List zb} {C : zb} {N : Nat} {L : List (List UInt8)} {G : List zO} {bs : List (List ze)} {ds : List Int} (T : List zb) (x : zb) (U : List zb) :
    (σ ++ (zkL σ.length C N L G bs ds ++ (T ++ (x :: U))))[σ.length + (T.length + 13)]? = some x := by
  rw [zg, List.getElem?_append_right (by rw [zlp]; omega), zlp, show T.length + 13 - 13 = T.length by omega, zp]; rfl
theorem bg_farset {σ : List zb} {C : zb} {N : Nat} {L : List (List UInt8)} {G : List zO} {bs : List (List ze)} {ds : List Int} (T : List zb) (x y : zb) (U : List zb) :
    (σ ++ (zkL σ.length C N L G bs ds ++ (T ++ (x :: U)))).set (σ.length + (T.length + 13)) y = σ ++ (zkL σ.length C N L G bs ds ++ (T ++ (y :: U))) := by
  rw [zu, List.set_append_right _ _ (by rw [zlp]; omega), zlp, show T.length + 13 - 13 = T.length by omega, zC]; rfl
def midO (n : Nat) (C : zb) (N a b : Nat) (L : List (List UInt8)) (G : List zO) (bs : List (List ze)) (ds : List Int) (t : Nat) (ss : List (List D)) : List zb :=
  [C, .map (tabM []), .box [.own (n + 3) [], .map (n + 1)], .tok 1 0, .map (zmI []), .box [.own (n + 6) [], .map (n + 4)], .tok 2 0, rtO L, rlO G,
   .box [.box (n + 2) 0, .box (n + 5) 0, .box (n + 7) 0, .box (n + 8) 0, .d (.slice (bsE bs)), .d (.slice (dsE ds)), .own t ss], .tok 1 N, .tok 1 a, .tok 1 b]
section

variable {σ : List zb} {C : zb} {N a b t : Nat} {L L' : List (List UInt8)} {G G' : List zO} {bs : List (List ze)} {ds : List Int} {ss : List (List D)}

theorem zlm : (midO σ.length C N a b L G bs ds t ss).length = 13 := rfl
theorem midO_set (X : List zb) : ((σ ++ (midO σ.length C N a b L G bs ds t ss ++ X)).set (σ.length + 7) (rtO L')).set (σ.length + 8) (rlO G') = σ ++ (midO σ.length C N a b L' G' bs ds t ss ++ X) := by
  simp [midO, zu]
theorem mid_far (T : List zb) (x : zb) (U : List zb) : (σ ++ (midO σ.length C N a b L G bs ds t ss ++ (T ++ (x :: U))))[σ.length + (T.length + 13)]? = some x := by
  rw [zg, List.getElem?_append_right (by rw [zlm]; omega), zlm, show T.length + 13 - 13 = T.length by omega, zp]; rfl
theorem mid_farset (T : List zb) (x y : zb) (U : List zb) : (σ ++ (midO σ.length C N a b L G bs ds t ss ++ (T ++ (x :: U)))).set (σ.length + (T.length + 13)) y = σ ++ (midO σ.length C N a b L G bs ds t ss ++ (T ++ (y :: U))) := by
  rw [zu, List.set_append_right _ _ (by rw [zlm]; omega), zlm, show T.length + 13 - 13 = T.length by omega, zC]; rfl
theorem mid_st (X : List zb) : (σ ++ (midO σ.length C N a b L G bs ds t ss ++ X))[σ.length + 9]? = some (.box [.box (σ.length + 2) 0, .box (σ.length + 5) 0, .box (σ.length + 7) 0, .box (σ.length + 8) 0, .d (.slice (bsE bs)), .d (.slice (dsE ds)), .own t ss]) := by
  rw [zg]; rfl
theorem mid_stset (X : List zb) (ss' : List (List D)) : (σ ++ (midO σ.length C N a b L G bs ds t ss ++ X)).set (σ.length + 9) (.box [.box (σ.length + 2) 0, .box (σ.length + 5) 0, .box (σ.length + 7) 0, .box (σ.length + 8) 0, .d (.slice (bsE bs)), .d (.slice (dsE ds)), .own t ss']) = σ ++ (midO σ.length C N a b L G bs ds t ss' ++ X) := by
  rw [zu]; rfl
theorem mid_weak (vs : List AV) (T : List zb) : zjk vs (σ ++ (zkL σ.length C N L G bs ds ++ T).set 9 (.box [.box (σ.length + 2) 0, .box (σ.length + 5) 0, .box (σ.length + 7) 0, .box (σ.length + 8) 0, .own (σ.length + 11) (bsE bs), .own (σ.length + 12) (dsE ds), .exact [[.int .i64 0, .int .i64 0]]])) vs
    (σ ++ (midO σ.length C N bs.length ds.length L G bs ds (σ.length + (T.length + 13)) [[.int .i64 0, .int .i64 0]] ++ (T ++ [.tok 2 1]))) := by
  refine .dataB (σ.length + 9) 4 _ (.own (σ.length + 11) (bsE bs)) (bsE bs) (by rw [zg]; rfl) rfl rfl ?_
  rw [zu]
  refine .dataB (σ.length + 9) 5 _ (.own (σ.length + 12) (dsE ds)) (dsE ds) (by rw [zg]; rfl) rfl rfl ?_
  rw [zu]
  refine .tokB (σ.length + 9) 6 _ [[.int .i64 0, .int .i64 0]] 2 (by rw [zg]; rfl) rfl (by simp) ?_
  rw [zu, zS, List.append_assoc]
  have e : ∀ x y z : zb, ((((zkL σ.length C N L G bs ds ++ T).set 9 x).set 9 y).set 9 z).length = T.length + 13 := fun x y z => by
    simp [zkL]
  rw [e]
  exact .refl _ _
end

def finO (n : Nat) (C : zb) (N a b : Nat) (L0 : List (List UInt8)) (G0 : List zO) (L : List (List UInt8)) (G : List zO) (bs : List (List ze)) (ds : List Int) (ss : List (List D)) : List zb :=
  [C, .map (tabM L0), .box [.own (n + 3) (zkV L0), .map (n + 1)], .tok 1 L0.length, .map (zmI G0), .box [.own (n + 6) (ziS G0), .map (n + 4)], .tok 2 G0.length, rtO L, rlO G,
   .box [.box (n + 2) 0, .box (n + 5) 0, .box (n + 7) 0, .box (n + 8) 0, .d (.slice (bsE bs)), .d (.slice (dsE ds)), .d (.slice ss)], .tok 1 N, .tok 1 a, .tok 1 b]
section

variable {σ : List zb} {C : zb} {N a b t : Nat} {L0 L0' L : List (List UInt8)} {G0 G0' G : List zO} {bs : List (List ze)} {ds : List Int} {ss : List (List D)}

theorem fin_weak (vs : List AV) (X : List zb) : zjk vs (σ ++ (midO σ.length C N a b L G bs ds t ss ++ X)) vs (σ ++ (finO σ.length C N a b [] [] L G bs ds ss ++ X)) := by
  refine .dataB (σ.length + 9) 6 _ (.own t ss) ss (by rw [zg]; rfl) rfl rfl ?_
  rw [zu]
  exact .refl _ _
theorem fin_tab (X : List zb) : zcF (σ ++ (finO σ.length C N a b L0 G0 L G bs ds ss ++ X)) (σ.length + 2) (σ.length + 1) (σ.length + 3) L0 :=
  ⟨by rw [zg]; rfl, by rw [zg]; rfl, by rw [zg]; rfl⟩
theorem fin_led (X : List zb) : zcS (σ ++ (finO σ.length C N a b L0 G0 L G bs ds ss ++ X)) (σ.length + 5) (σ.length + 4) (σ.length + 6) G0 :=
  ⟨by rw [zg]; rfl, by rw [zg]; rfl, by rw [zg]; rfl⟩
theorem fin_putTab (X : List zb) : putTab (σ ++ (finO σ.length C N a b L0 G0 L G bs ds ss ++ X)) (σ.length + 2) (σ.length + 1) (σ.length + 3) L0' = σ ++ (finO σ.length C N a b L0' G0 L G bs ds ss ++ X) := by
  unfold putTab
  rw [zu, zu, zu]; rfl
theorem fin_putLed (X : List zb) : putLed (σ ++ (finO σ.length C N a b L0 G0 L G bs ds ss ++ X)) (σ.length + 5) (σ.length + 4) (σ.length + 6) G0' = σ ++ (finO σ.length C N a b L0 G0' L G bs ds ss ++ X) := by
  unfold putLed
  rw [zu, zu, zu]; rfl
theorem fin_x (X : List zb) : (σ ++ (finO σ.length C N a b L0 G0 L G bs ds ss ++ X))[σ.length + 7]? = some (rtO L) := by rw [zg]; rfl
theorem fin_y (X : List zb) : (σ ++ (finO σ.length C N a b L0 G0 L G bs ds ss ++ X))[σ.length + 8]? = some (rlO G) := by rw [zg]; rfl
theorem fin_st (X : List zb) : (σ ++ (finO σ.length C N a b L0 G0 L G bs ds ss ++ X))[σ.length + 9]? = some (.box [.box (σ.length + 2) 0, .box (σ.length + 5) 0, .box (σ.length + 7) 0, .box (σ.length + 8) 0, .d (.slice (bsE bs)), .d (.slice (dsE ds)), .d (.slice ss)]) := by
  rw [zg]; rfl
theorem led_begB {l : List (List ze)} {B : zkN} (h : LedI B.G) : LedI (l.foldl beB B).G := by
  induction l generalizing B with
  | nil => exact h
  | cons r l ih =>
    refine ih ?_
    simp only [beB]
    have key : ∀ (r : List ze) (s : List (List UInt8) × List zO × List ze), LedI s.2.1 → LedI (r.foldl seR s).2.1 := fun r => by
      induction r with
      | nil => intro s h; exact h
      | cons x r ih =>
        intro s h
        refine ih _ ?_
        simp only [seR, znW]
        split
        · exact h
        · exact h.sign _ _
    exact key r _ h
theorem led_begV {l : List zoM} {B : zkN} (h : LedI B.G) : LedI (l.foldl beV B).G := by
  induction l generalizing B with
  | nil => exact h
  | cons v l ih =>
    refine ih ?_
    simp only [beV, votG, sgnG]
    split
    · split
      · exact h
      · exact h.sign _ _
    · exact h
end

theorem get_ds {ds : List Int} {i : Nat} (h : i < ds.length) : (dsE ds)[i]? = some [D.int .i64 (ds.getD i 0)] := by
  have : ds[i]? = some (ds.getD i 0) := by simp [List.getD, List.getElem?_eq_getElem h]
  exact zaT (f := fun d => [D.int .i64 d]) this
structure BvI (tot rest : Nat) (B0 B : zkN) : Prop where
  tab : TabI B.L
  led : B.G.length + rest ≤ tot
  bs : B.bs = B0.bs
  ds : B.ds = B0.ds
theorem bvI {tot rest : Nat} {B0 B : zkN} {v : zoM} (h : BvI tot (rest + 1) B0 B) : BvI tot rest B0 (beV B v) := by
  have h2 := h.led
  refine ⟨?_, ?_, h.bs, h.ds⟩
  · simp only [beV, votL]
    split
    · rename_i hm
      have := voteB_len hm
      exact h.tab.sum (by omega)
    · exact h.tab
  · simp only [beV, votG, sgnG, zeP, zmK]
    split
    · split
      · omega
      · split
        · split
          · omega
          · simp; omega
        · omega
    · omega
theorem beg_weak {σ : List zb} {C : zb} {N : Nat} (vs : List AV) : zjk vs (σ ++ [C, .map (tabM []), .box [.own (σ.length + 3) [], .map (σ.length + 1)], .tok 1 0, .map (zmI []), .box [.own (σ.length + 6) [], .map (σ.length + 4)], .tok 2 0, .box [.exact []], .box [.exact []],
    .box [.box (σ.length + 2) 0, .box (σ.length + 5) 0, .box (σ.length + 7) 0, .box (σ.length + 8) 0, .exact [], .exact [], .exact []], .tok 1 N]) vs (σ ++ (zkL σ.length C N [] [] [] [] ++ [])) := by
  refine .dataB (σ.length + 7) 0 [.exact []] (.exact []) [] (by rw [zg]; rfl) rfl rfl ?_
  rw [zu]
  refine .dataB (σ.length + 8) 0 [.exact []] (.exact []) [] (by rw [zg]; rfl) rfl rfl ?_
  rw [zu]
  refine .tokB (σ.length + 9) 4 [.box (σ.length + 2) 0, .box (σ.length + 5) 0, .box (σ.length + 7) 0, .box (σ.length + 8) 0, .exact [], .exact [], .exact []] [] 1 (by rw [zg]; rfl) rfl (by simp) ?_
  rw [zu, zS, List.append_assoc]
  refine .tokB (σ.length + 9) 5 [.box (σ.length + 2) 0, .box (σ.length + 5) 0, .box (σ.length + 7) 0, .box (σ.length + 8) 0, .own (σ.length + 11) [], .exact [], .exact []] [] 1 (by rw [zg]; rfl) rfl (by simp) ?_
  rw [zu, zS, List.append_assoc]
  exact .refl _ _
theorem gq42 {A P Q : Prop} (a : A) (h : Q) (e : A → Hd Q → P := by intro a h; (repeat' first | simp -dsimp only [↓zem, ↓zas, ↓zbe, ↓zen, ↓zeg, ↓zee, ↓zeh, ↓zef, ↓zbj, ↓zbf, ↓zbk, ↓zbg, ↓zei, ↓zbd, ↓zbl, ↓zbh, ↓zbm, ↓zbi, ↓zec, ↓zel, ↓zbc, ↓zbo, ↓zdY, ↓zdX, ↓zeb, iN, bT, bF, eN, ↓zcx, ↓unC, ↓zU, ↓zE, ↓zF, ↓zI, ↓zaa, ↓zaE, ↓zco, ↓zZ, ↓zbw, ↓zQ, ↓zl, ↓zm, ↓zbF, ↓zf, ↓zab, ↓zK, ↓zay, ↓zaD, ↓zc, ↓zy, ↓zi, ↓zr, ↓zai, ↓zcz, ↓zcG, ↓zal, ↓zap, ↓zax, ↓zaG, ↓zaN, ↓zj, ↓zad, ↓zG, ↓zq, ↓zX, zcE, zaZ, zaW, unA, zcH, bnd, zdj, zY, zac, zdk, dm, dm1, zJ, zar, zdD, zdC, zT, Q0, Q1, Q2, Q3, Q4, Q5, zS, zg, zp, zu, zC, Q6, Q7, Q8, Q9, Q10, Q11, Q12, Q13, Q14, Nat.reduceAdd, Q15, Int.reduceToNat, Q16, Q17, Q18, Q19, Q20, reduceIte, Q21, Q22, zA, rep, zV, zdZ, toD, zaj, Q23, Q24, Q25, Q26, Q27, Q28, Nat.reduceLeDiff, Q29, Nat.reduceSub, Q30, Q31, Q32, sc, Q33, Q34, Q35, Q36, Q37, Q26, Q38, Q39, zjL, zjI, zjF, zjM, zdO, zjJ, zjG, zjK, zjH, zdN, zdP, zjT, zjU, Bool.not_true, Bool.not_false, List.length_map, List.length_cons, a] | with_reducible refine zkm ?_ | fail); exact h.go) : P := e a ⟨h⟩
theorem gq43 {A P Q : Prop} (a : A) (h : Q) (e : A → Hd Q → P := by intro a h; (repeat' first | simp -dsimp only [↓zem, ↓zas, ↓zbe, ↓zen, ↓zeg, ↓zee, ↓zeh, ↓zef, ↓zbj, ↓zbf, ↓zbk, ↓zbg, ↓zei, ↓zbd, ↓zbl, ↓zbh, ↓zbm, ↓zbi, ↓zec, ↓zel, ↓zbc, ↓zbo, ↓zdY, ↓zdX, ↓zeb, iN, bT, bF, eN, ↓zcx, ↓unC, ↓zU, ↓zE, ↓zF, ↓zI, ↓zaa, ↓zaE, ↓zco, ↓zZ, ↓zbw, ↓zQ, ↓zl, ↓zm, ↓zbF, ↓zf, ↓zab, ↓zK, ↓zay, ↓zaD, ↓zc, ↓zy, ↓zi, ↓zr, ↓zai, ↓zcz, ↓zcG, ↓zal, ↓zap, ↓zax, ↓zaG, ↓zaN, ↓zj, ↓zad, ↓zG, ↓zq, ↓zX, zcE, zaZ, zaW, unA, zcH, bnd, zdj, zY, zac, zdk, dm, dm1, zJ, zar, zdD, zdC, zT, Q0, Q1, Q2, Q3, Q4, Q5, zS, zg, zp, zu, zC, Q6, Q7, Q8, Q9, Q10, Q11, Q12, Q13, Q14, Nat.reduceAdd, Q15, Int.reduceToNat, Q16, Q17, Q18, Q19, Q20, reduceIte, Q21, Q22, zA, rep, zV, zdZ, toD, zaj, Q23, Q24, Q25, Q26, Q27, Q28, Nat.reduceLeDiff, Q29, Nat.reduceSub, Q30, Q31, Q32, sc, Q33, Q34, Q35, Q36, Q37, Q26, Q38, Q39, zjL, zjI, zjF, zjM, zdO, zjJ, zjG, zjK, zjH, zdN, zdP, zjT, zjU, Bool.not_true, Bool.not_false, List.length_map, reqD, a] | with_reducible refine zkm ?_ | fail); exact h.go) : P := e a ⟨h⟩
theorem gq44 {A P Q : Prop} (a : A) (h : Q) (e : A → Hd Q → P := by intro a h; (repeat' first | simp -dsimp only [↓zem, ↓zas, ↓zbe, ↓zen, ↓zeg, ↓zee, ↓zeh, ↓zef, ↓zbj, ↓zbf, ↓zbk, ↓zbg, ↓zei, ↓zbd, ↓zbl, ↓zbh, ↓zbm, ↓zbi, ↓zec, ↓zel, ↓zbc, ↓zbo, ↓zdY, ↓zdX, ↓zeb, iN, bT, bF, eN, ↓zcx, ↓unC, ↓zU, ↓zE, ↓zF, ↓zI, ↓zaa, ↓zaE, ↓zco, ↓zZ, ↓zbw, ↓zQ, ↓zl, ↓zm, ↓zbF, ↓zf, ↓zab, ↓zK, ↓zay, ↓zaD, ↓zc, ↓zy, ↓zi, ↓zr, ↓zai, ↓zcz, ↓zcG, ↓zal, ↓zap, ↓zax, ↓zaG, ↓zaN, ↓zj, ↓zad, ↓zG, ↓zq, ↓zX, zcE, zaZ, zaW, unA, zcH, bnd, zdj, zY, zac, zdk, dm, dm1, zJ, zar, zdD, zdC, zT, Q0, Q1, Q2, Q3, Q4, Q5, zS, zg, zp, zu, zC, Q6, Q7, Q8, Q9, Q10, Q11, Q12, Q13, Q14, Nat.reduceAdd, Q15, Int.reduceToNat, Q16, Q17, Q18, Q19, Q20, reduceIte, Q21, Q22, zA, rep, zV, zdZ, toD, zaj, Q23, Q24, Q25, Q26, Q27, Q28, Nat.reduceLeDiff, Q29, Nat.reduceSub, Q30, Q31, Q32, sc, Q33, Q34, Q35, Q36, Q37, Q26, Q38, Q39, zjL, zjI, zjF, zjM, zdO, zjJ, zjG, zjK, zjH, zdN, zdP, zjT, zjU, Bool.not_true, Bool.not_false, List.length_map, List.length_set, a] | with_reducible refine zkm ?_ | fail); exact h.go) : P := e a ⟨h⟩
theorem gq45 {A P Q : Prop} (a : A) (h : Q) (e : A → Hd Q → P := by intro a h; (repeat' first | simp -dsimp only [↓zem, ↓zas, ↓zbe, ↓zen, ↓zeg, ↓zee, ↓zeh, ↓zef, ↓zbj, ↓zbf, ↓zbk, ↓zbg, ↓zei, ↓zbd, ↓zbl, ↓zbh, ↓zbm, ↓zbi, ↓zec, ↓zel, ↓zbc, ↓zbo, ↓zdY, ↓zdX, ↓zeb, iN, bT, bF, eN, ↓zcx, ↓unC, ↓zU, ↓zE, ↓zF, ↓zI, ↓zaa, ↓zaE, ↓zco, ↓zZ, ↓zbw, ↓zQ, ↓zl, ↓zm, ↓zbF, ↓zf, ↓zab, ↓zK, ↓zay, ↓zaD, ↓zc, ↓zy, ↓zi, ↓zr, ↓zai, ↓zcz, ↓zcG, ↓zal, ↓zap, ↓zax, ↓zaG, ↓zaN, ↓zj, ↓zad, ↓zG, ↓zq, ↓zX, zcE, zaZ, zaW, unA, zcH, bnd, zdj, zY, zac, zdk, dm, dm1, zJ, zar, zdD, zdC, zT, Q0, Q1, Q2, Q3, Q4, Q5, zS, zg, zp, zu, zC, Q6, Q7, Q8, Q9, Q10, Q11, Q12, Q13, Q14, Nat.reduceAdd, Q15, Int.reduceToNat, Q16, Q17, Q18, Q19, Q20, reduceIte, Q21, Q22, zA, rep, zV, zdZ, toD, zaj, Q23, Q24, Q25, Q26, Q27, Q28, Nat.reduceLeDiff, Q29, Nat.reduceSub, Q30, Q31, Q32, sc, Q33, Q34, Q35, Q36, Q37, Q26, Q38, Q39, zjL, zjI, zjF, zjM, zdO, zjJ, zjG, zjK, zjH, zdN, zdP, zjT, zjU, Bool.not_true, Bool.not_false, List.length_map, zkL, a] | with_reducible refine zkm ?_ | fail); exact h.go) : P := e a ⟨h⟩
theorem gq46 {A P Q : Prop} (a : A) (h : Q) (e : A → Hd Q → P := by intro a h; (repeat' first | simp -dsimp only [↓zem, ↓zas, ↓zbe, ↓zen, ↓zeg, ↓zee, ↓zeh, ↓zef, ↓zbj, ↓zbf, ↓zbk, ↓zbg, ↓zei, ↓zbd, ↓zbl, ↓zbh, ↓zbm, ↓zbi, ↓zec, ↓zel, ↓zbc, ↓zbo, ↓zdY, ↓zdX, ↓zeb, iN, bT, bF, eN, ↓zcx, ↓unC, ↓zU, ↓zE, ↓zF, ↓zI, ↓zaa, ↓zaE, ↓zco, ↓zZ, ↓zbw, ↓zQ, ↓zl, ↓zm, ↓zbF, ↓zf, ↓zab, ↓zK, ↓zay, ↓zaD, ↓zc, ↓zy, ↓zi, ↓zr, ↓zai, ↓zcz, ↓zcG, ↓zal, ↓zap, ↓zax, ↓zaG, ↓zaN, ↓zj, ↓zad, ↓zG, ↓zq, ↓zX, zcE, zaZ, zaW, unA, zcH, bnd, zdj, zY, zac, zdk, dm, dm1, zJ, zar, zdD, zdC, zT, Q0, Q1, Q2, Q3, Q4, Q5, zS, zg, zp, zu, zC, Q6, Q7, Q8, Q9, Q10, Q11, Q12, Q13, Q14, Nat.reduceAdd, Q15, Int.reduceToNat, Q16, Q17, Q18, Q19, Q20, reduceIte, Q21, Q22, zA, rep, zV, zdZ, toD, zaj, Q23, Q24, Q25, Q26, Q27, Q28, Nat.reduceLeDiff, Q29, Nat.reduceSub, Q30, Q31, Q32, sc, Q33, Q34, Q35, Q36, Q37, Q26, Q38, Q39, zjL, zjI, zjF, zjM, zdO, zjJ, zjG, zjK, zjH, zdN, zdP, zjT, zjU, Bool.not_true, Bool.not_false, List.length_map, List.length_cons, zkL, a] | with_reducible refine zkm ?_ | fail); exact h.go) : P := e a ⟨h⟩
theorem gq47 {A P Q : Prop} (a : A) (h : Q) (e : A → Hd Q → P := by intro a h; (repeat' first | simp -dsimp only [↓zem, ↓zas, ↓zbe, ↓zen, ↓zeg, ↓zee, ↓zeh, ↓zef, ↓zbj, ↓zbf, ↓zbk, ↓zbg, ↓zei, ↓zbd, ↓zbl, ↓zbh, ↓zbm, ↓zbi, ↓zec, ↓zel, ↓zbc, ↓zbo, ↓zdY, ↓zdX, ↓zeb, iN, bT, bF, eN, ↓zcx, ↓unC, ↓zU, ↓zE, ↓zF, ↓zI, ↓zaa, ↓zaE, ↓zco, ↓zZ, ↓zbw, ↓zQ, ↓zl, ↓zm, ↓zbF, ↓zf, ↓zab, ↓zK, ↓zay, ↓zaD, ↓zc, ↓zy, ↓zi, ↓zr, ↓zai, ↓zcz, ↓zcG, ↓zal, ↓zap, ↓zax, ↓zaG, ↓zaN, ↓zj, ↓zad, ↓zG, ↓zq, ↓zX, zcE, zaZ, zaW, unA, zcH, bnd, zdj, zY, zac, zdk, dm, dm1, zJ, zar, zdD, zdC, zT, Q0, Q1, Q2, Q3, Q4, Q5, zS, zg, zp, zu, zC, Q6, Q7, Q8, Q9, Q10, Q11, Q12, Q13, Q14, Nat.reduceAdd, Q15, Int.reduceToNat, Q16, Q17, Q18, Q19, Q20, reduceIte, Q21, Q22, zA, rep, zV, zdZ, toD, zaj, Q23, Q24, Q25, Q26, Q27, Q28, Nat.reduceLeDiff, Q29, Nat.reduceSub, Q30, Q31, Q32, sc, Q33, Q34, Q35, Q36, Q37, Q26, Q38, Q39, zjL, zjI, zjF, zjM, zdO, zjJ, zjG, zjK, zjH, zdN, zdP, zjT, zjU, Bool.not_true, Bool.not_false, List.length_map, voteD, a] | with_reducible refine zkm ?_ | fail); exact h.go) : P := e a ⟨h⟩
theorem c_begun {σ : List zb} {f view low : Int} {bats : List (List ze)} {votes : List zoM} {specs : List (List D)}
    (hb : ∀ l ∈ bats, ∀ x ∈ l, zgJ x.op ≤ 20971520) (hbl : bats.length ≤ 1073741824) (hbr : ∀ l ∈ bats, l.length ≤ 1073741824)
    {K : AV → List zb → Prop}
    (hsum : (bats.map List.length).sum + votes.length ≤ 536870912) (hvb : ∀ v ∈ votes, v.batch < 256)
    (hK : ∀ C, K (.box (σ.length + 9) 0) (σ ++ endO σ.length C (begF bats votes))) :
    zn Tryz.prog zex [.agg [.d (.int .i64 f), .d (.slice (bats.map fun l => [.slice (reqsE l)])), .d (.slice (votes.map voteD)), .d (.slice specs), .d (.int .i64 view), .d (.int .i64 low)]] σ K := by
  refine zby zgt.is rfl (fun s => List.range' σ.length 10) fun hl _ => zgt.goes ?_
  have hlb : (bats.map fun l => [D.slice (reqsE l)]).length = bats.length := List.length_map ..
  simp only [zgD, iN, bT, bF, eN, zl1, zl2]
  refine gq1 ?_
  refine zki ?_
  refine gq1 ?_
  refine ziy ?_
  refine gq2 hlb ?_
  obtain ⟨C, hC⟩ : ∃ C : zb, C = .box [.d (.int .i64 f), .d (.slice (bats.map fun l => [.slice (reqsE l)])), .d (.slice (votes.map voteD)), .d (.slice specs), .d (.int .i64 view), .d (.int .i64 low)] := ⟨_, rfl⟩
  have hw := beg_weak (σ := σ) (C := C) (N := 1 + bats.length) [.d (.int .i64 0)]
  rw [hC] at hw
  refine zbL (bats.length + 1) (fun k vs s => vs = [.d (.int .i64 k)] ∧ ∃ B : zkN, B = (([] :: bats).take k).foldl beB beg0 ∧ BeI k (bats.map List.length).sum (((([] :: bats).drop k).map List.length).sum) B ∧ ∃ T, s = σ ++ (zkL σ.length C (1 + bats.length) B.L B.G B.bs B.ds ++ T)) hw
    ⟨rfl, beg0, rfl, ⟨TabI.nil, by simp [beg0], rfl, rfl, by simp [beg0]⟩, [], by rw [hC]; rfl⟩ ?_
  rintro k vs s hk ⟨rfl, B, hB, hBI, T, rfl⟩
  by_cases hlt : k < bats.length + 1
  · obtain ⟨l, hlq⟩ : ∃ l, ([] :: bats)[k]? = some l := ⟨_, List.getElem?_eq_getElem (by simpa using hlt)⟩
    have hgx : ([D.slice []] :: List.map (fun l => [D.slice (reqsE l)]) bats)[k]? = some [D.slice (reqsE l)] := by
      have := zaT (f := fun l : List ze => [D.slice (reqsE l)]) hlq
      simpa using this
    have hlm : l ∈ [] :: bats := List.mem_of_getElem? hlq
    have hlx : ∀ x ∈ l, zgJ x.op ≤ 20971520 := by
      rcases List.mem_cons.1 hlm with rfl | h
      · simp
      · exact hb l h
    have hll : l.length ≤ 1073741824 := by
      rcases List.mem_cons.1 hlm with rfl | h
      · simp
      · exact hbr l h
    have hd : decide ((k : Int) < ((bats.length + 1 : Nat) : Int)) = true := by simp; omega
    have hlr : (reqsE l).length = l.length := List.length_map ..
    have hdrop : ([] :: bats).drop k = l :: ([] :: bats).drop (k + 1) := by
      have h1 := List.getElem?_eq_some_iff.1 hlq
      rw [List.drop_eq_getElem_cons h1.1, h1.2]
    rw [hdrop, List.map_cons, List.sum_cons] at hBI
    have hled := hBI.led
    refine gq42 (zo hd (zo hgx (zo hlr hlb))) ?_
    have hS : (σ ++ (zkL σ.length C (1 + bats.length) B.L B.G B.bs B.ds ++ T)).length = σ.length + (T.length + 13) := by simp [zkL]
    have hw2 : zjk [.exact [], .d (.int .i64 0)] (σ ++ (zkL σ.length C (1 + bats.length) B.L B.G B.bs B.ds ++ T)) [.own (σ.length + (T.length + 13)) (zbn []), .d (.int .i64 0)] (σ ++ (zkL σ.length C (1 + bats.length) B.L B.G B.bs B.ds ++ (T ++ [.tok 9 0]))) := by
      refine .tok 0 [] 9 rfl (by simp) ?_
      rw [hS, List.append_assoc, List.append_assoc]
      exact .refl _ _
    refine zbL l.length (fun j vs s => ∃ p : List (List UInt8) × List zO × List ze, p = (l.take j).foldl seR (B.L, B.G, []) ∧ vs = [.own (σ.length + (T.length + 13)) (zbn p.2.2), .d (.int .i64 j)] ∧ ∃ U, s = σ ++ (zkL σ.length C (1 + bats.length) p.1 p.2.1 B.bs B.ds ++ (T ++ (.tok 9 p.2.2.length :: U)))) hw2
      ⟨_, rfl, rfl, [], rfl⟩ ?_
    rintro j vs s hj ⟨p, hp, rfl, U, rfl⟩
    by_cases hjl : j < l.length
    · have hd : decide ((j : Int) < (l.length : Int)) = true := by simp; omega
      have hr : l[j]? = some l[j] := by simp [hjl]
      have hgr := zaT (f := reqD) hr
      have hrx := hlx _ (List.getElem_mem hjl)
      obtain ⟨r, hre⟩ : ∃ r, l[j] = r := ⟨_, rfl⟩
      rw [hre] at hr hgr hrx
      have hpI : SeI (B.G.length + j) j p := by
        have := foldSe (n := B.G.length) (m := 0) (s := (B.L, B.G, [])) (l := l.take j) ⟨hBI.tab, by simp, by simp, by simp⟩ fun x hx => hlx x (List.mem_of_mem_take hx)
        rw [← hp] at this
        have e : (l.take j).length = j := by rw [List.length_take]; omega
        rw [e] at this
        simpa using this
      have hw : IntKind.i64.wrap ((j : Int) + 1) = ((j + 1 : Nat) : Int) := by rw [zao (by omega) (by omega)]; rfl
      have hbe : (zbn p.2.2).length = p.2.2.length := List.length_map ..
      obtain ⟨S, hSq⟩ : ∃ S, σ ++ (zkL σ.length C (1 + bats.length) p.1 p.2.1 B.bs B.ds ++ (T ++ (.tok 9 p.2.2.length :: U))) = S := ⟨_, rfl⟩
      obtain ⟨S', hSq'⟩ : ∃ S', σ ++ (zkL σ.length C (1 + bats.length) (sealL p.1 r) (znW p.1 p.2.1 r) B.bs B.ds ++ (T ++ (.tok 9 p.2.2.length :: U))) = S' := ⟨_, rfl⟩
      have f7 : ∀ τ, (S ++ τ)[σ.length + 7]? = some (rtO p.1) := fun τ => zk (by rw [← hSq, zg]; rfl)
      have f8 : ∀ τ, (S ++ τ)[σ.length + 8]? = some (rlO p.2.1) := fun τ => zk (by rw [← hSq, zg]; rfl)
      have f9 : ∀ τ, (S ++ τ)[σ.length + 9]? = some (.box [.box (σ.length + 2) 0, .box (σ.length + 5) 0, .box (σ.length + 7) 0, .box (σ.length + 8) 0, .own (σ.length + 11) (bsE B.bs), .own (σ.length + 12) (dsE B.ds), .exact []]) := fun τ => zk (by rw [← hSq, zg]; rfl)
      have fs : ∀ τ, ((S ++ τ).set (σ.length + 7) (rtO (sealL p.1 r))).set (σ.length + 8) (rlO (znW p.1 p.2.1 r)) = S' ++ τ := fun τ => by
        rw [← hSq, ← hSq', List.append_assoc, List.append_assoc, begO_set]
        simp
      have ft : ∀ τ, (S' ++ τ)[σ.length + (T.length + 13)]? = some (.tok 9 p.2.2.length) := fun τ => zk (by rw [← hSq']; exact bg_far ..)
      have ftt : ∀ τ v, (S' ++ τ).set (σ.length + (T.length + 13)) v = σ ++ (zkL σ.length C (1 + bats.length) (sealL p.1 r) (znW p.1 p.2.1 r) B.bs B.ds ++ (T ++ (v :: (U ++ τ)))) := fun τ v => by
        rw [← hSq', show ∀ (A B : List zb) (x : zb), σ ++ (A ++ (B ++ x :: U)) ++ τ = σ ++ (A ++ (B ++ (x :: (U ++ τ)))) from fun A B x => by simp]
        exact bg_farset ..
      have r1 : S.length = S'.length := by rw [← hSq, ← hSq']; simp [zkL]
      have hn : ∀ V, σ ++ (zkL σ.length C (1 + bats.length) p.1 p.2.1 B.bs B.ds ++ (T ++ (.tok 9 p.2.2.length :: U))) ++ V = σ ++ (zkL σ.length C (1 + bats.length) p.1 p.2.1 B.bs B.ds ++ (T ++ (.tok 9 p.2.2.length :: (U ++ V)))) := fun V => by simp
      have rn := zmb (f := seR) (s := (B.L, B.G, [])) hr
      rw [← hp] at rn
      rw [hSq]
      have f9' := f9 []
      rw [List.append_nil] at f9'
      refine gq43 (zo hd (zo hgr (zo hlr (zo f9 f9')))) ?_
      refine ⟨?_, ?_⟩
      · refine gq1 ?_
        refine c_rqrSeal (x := r) (f7 _) (f8 _) (by omega) hpI.tab (by have := hpI.led; omega) hrx ?_
        rw [fs]
        cases he : (zkW p.1 r == 0)
        · have he' : ¬ zkW p.1 r = 0 := by simpa using he
          simp only [zet]
          refine gq2 (zo r1 (zo ft (zo he hw))) ?_
          refine zbq.next hjl ⟨_, rn.symm, ?_, ?_⟩
          · simp only [seR, if_neg he']
          · simp only [seR, if_neg he']
            exact ⟨_, by rw [← hSq']; simp only [List.append_assoc, List.cons_append]; rfl⟩
        · have he' : zkW p.1 r = 0 := by simpa using he
          simp only [zet]
          refine gq2 (zo r1 (zo ft (zo he (zo hw (zo hbe ftt))))) ?_
          refine ⟨by have := hpI.len; omega, zbq.next hjl ⟨_, rn.symm, ?_, ?_⟩⟩
          · simp only [seR, if_pos he']; simp [zbn, zaK]
          · simp only [seR, if_pos he']
            exact ⟨_, by rw [List.length_append]; rfl⟩
      · refine gq2 (zo f9 f9') ?_
        refine c_rqrSeal (x := r) (f7 _) (f8 _) (by omega) hpI.tab (by have := hpI.led; omega) hrx ?_
        rw [fs]
        cases he : (zkW p.1 r == 0)
        · have he' : ¬ zkW p.1 r = 0 := by simpa using he
          simp only [zet]
          refine gq44 (zo r1 (zo ft (zo he hw))) ?_
          refine zbq.next hjl ⟨_, rn.symm, ?_, ?_⟩
          · simp only [seR, if_neg he']
          · simp only [seR, if_neg he']
            exact ⟨_, by rw [← hSq']; simp only [List.append_assoc, List.cons_append]; rfl⟩
        · have he' : zkW p.1 r = 0 := by simpa using he
          simp only [zet]
          refine gq44 (zo r1 (zo ft (zo he (zo hw (zo hbe ftt))))) ?_
          refine ⟨by have := hpI.len; omega, zbq.next hjl ⟨_, rn.symm, ?_, ?_⟩⟩
          · simp only [seR, if_pos he']; simp [zbn, zaK]
          · simp only [seR, if_pos he']
            exact ⟨_, by rw [List.length_append]; rfl⟩
    · have hd : decide ((j : Int) < (l.length : Int)) = false := by simp; omega
      rw [show l.take j = l from List.take_of_length_le (by omega)] at hp
      have hpI : SeI (B.G.length + l.length) l.length p := by
        have := foldSe (n := B.G.length) (m := 0) (s := (B.L, B.G, [])) (l := l) ⟨hBI.tab, by simp, by simp, by simp⟩ hlx
        rw [← hp] at this
        simpa using this
      have rn := zmb (f := beB) (s := beg0) hlq
      rw [← hB] at rn
      have hbB : beB B l = ⟨digL p.1 p.2.2, p.2.1, B.bs ++ [p.2.2], B.ds ++ [digD p.1 p.2.2], B.ss⟩ := by rw [beB, ← hp]
      have hpl := hpI.len
      have hkb := hBI.bl
      have hkd := hBI.dl
      have hw : IntKind.i64.wrap ((k : Int) + 1) = ((k + 1 : Nat) : Int) := by rw [zao (by omega) (by omega)]; rfl
      have eb : (bsE B.bs).length = B.bs.length := List.length_map ..
      have ed : (dsE B.ds).length = B.ds.length := List.length_map ..
      obtain ⟨X, hX⟩ : ∃ X, T ++ (.tok 9 p.2.2.length :: U) = X := ⟨_, rfl⟩
      rw [hX]
      refine gq45 (zo hd hlr) ?_
      refine c_rqrDigest (l := p.2.2) (by rw [zg]; rfl) hpI.tab hpI.sz (by omega) ?_
      refine gq2 (zo eb (zo ed hw)) ?_
      refine zbq.next hlt ⟨rfl, beB B l, rn.symm, beI hBI hlx (by omega), X, ?_⟩
      rw [hbB]
      simp [zkL]
  · have hd : decide ((k : Int) < ((bats.length + 1 : Nat) : Int)) = false := by simp; omega
    have hvl : (votes.map voteD).length = votes.length := List.length_map ..
    rw [show ([] :: bats).take k = [] :: bats from List.take_of_length_le (by simp; omega)] at hB
    rw [show ([] :: bats).drop k = [] from List.drop_eq_nil_of_le (by simp; omega)] at hBI
    have hCv : ∀ τ, (σ ++ (C :: τ))[σ.length]? = some (.box [.d (.int .i64 f), .d (.slice (bats.map fun l => [.slice (reqsE l)])), .d (.slice (votes.map voteD)), .d (.slice specs), .d (.int .i64 view), .d (.int .i64 low)]) := fun τ => by rw [zp, hC]; rfl
    refine gq46 (zo hd (zo hlb (zo hCv hvl))) ?_
    have hw2 := mid_weak (σ := σ) (C := C) (N := 1 + bats.length) (L := B.L) (G := B.G) (bs := B.bs) (ds := B.ds) [.d (.int .i64 0)] T
    have hss : B.ss = [⟨0, 0⟩] := by
      rw [hB]
      have : ∀ (l : List (List ze)) (s : zkN), (l.foldl beB s).ss = s.ss := fun l => by
        induction l with
        | nil => intro s; rfl
        | cons x l ih => intro s; rw [List.foldl_cons, ih]; rfl
      rw [this]; rfl
    refine zbL votes.length (fun k vs s => vs = [.d (.int .i64 k)] ∧ ∃ V : zkN, V = (votes.take k).foldl beV B ∧ V.ss.length = k + 1 ∧ BvI 536870912 (votes.length - k) B V ∧
      ∃ U, s = σ ++ (midO σ.length C (1 + bats.length) B.bs.length B.ds.length V.L V.G V.bs V.ds (σ.length + (T.length + 13)) (zaL V.ss) ++ (T ++ (.tok 2 V.ss.length :: U)))) hw2
      ⟨rfl, B, rfl, by rw [hss]; rfl, ⟨hBI.tab, by have := hBI.led; omega, rfl, rfl⟩, [], by rw [hss]; rfl⟩ ?_
    rintro j vs s hj ⟨rfl, V, hV, hVl, hVI, U, rfl⟩
    have hkd := hBI.dl
    by_cases hjl : j < votes.length
    · have hd : decide ((j : Int) < (votes.length : Int)) = true := by simp; omega
      have hr : votes[j]? = some votes[j] := by simp [hjl]
      have hgr := zaT (f := voteD) hr
      have hrb := hvb _ (List.getElem_mem hjl)
      obtain ⟨v, hre⟩ : ∃ v, votes[j] = v := ⟨_, rfl⟩
      rw [hre] at hr hgr hrb
      rw [show votes.length - j = votes.length - (j + 1) + 1 by omega] at hVI
      have rn := zmb (f := beV) (s := B) hr
      rw [← hV] at rn
      have hVb := hVI.bs
      have hVd := hVI.ds
      have hvled := hVI.led
      have hdl : V.ds.length ≠ 0 := by rw [hVd, hkd]; omega
      have hdl2 : V.ds.length ≤ 2147483648 := by rw [hVd, hkd]; omega
      have ed : (dsE V.ds).length = V.ds.length := List.length_map ..
      have hgd := get_ds (ds := V.ds) (i := v.batch % V.ds.length) (Nat.mod_lt _ (by omega))
      obtain ⟨d, hdq⟩ : ∃ d, V.ds.getD (v.batch % V.ds.length) 0 = d := ⟨_, rfl⟩
      rw [hdq] at hgd
      have hbv : beV V v = ⟨votL V.L v.kind v.view v.seq d, votG V.L V.G v.key v.kind v.view v.seq d, V.bs, V.ds, V.ss ++ [votS V.L v.key v.kind v.view v.seq d]⟩ := by rw [beV, hdq]
      have hw : IntKind.i64.wrap ((j : Int) + 1) = ((j + 1 : Nat) : Int) := by rw [zao (by omega) (by omega)]; rfl
      have hwb : IntKind.i64.wrap (v.batch : Int) = (v.batch : Int) := zao (by omega) (by omega)
      have hz : ((V.ds.length : Int) == 0) = false := beq_eq_false_iff_ne.2 (by omega)
      have hmod : Int.tmod (v.batch : Int) (V.ds.length : Int) = ((v.batch % V.ds.length : Nat) : Int) := by
        rw [Int.tmod_eq_emod_of_nonneg (show (0 : Int) ≤ (v.batch : Int) by omega)]; rfl
      have hmw : IntKind.i64.wrap ((v.batch % V.ds.length : Nat) : Int) = ((v.batch % V.ds.length : Nat) : Int) := by
        have h1 := Nat.lt_of_lt_of_le (Nat.mod_lt v.batch (show 0 < V.ds.length by omega)) hdl2
        exact (show ∀ i : Nat, i < 2147483648 → IntKind.i64.wrap (i : Int) = (i : Int) from fun i h => zao (by omega) (by omega)) _ h1
      have es : (zaL V.ss).length = V.ss.length := List.length_map ..
      obtain ⟨S, hSq⟩ : ∃ S, σ ++ (midO σ.length C (1 + bats.length) B.bs.length B.ds.length V.L V.G V.bs V.ds (σ.length + (T.length + 13)) (zaL V.ss) ++ (T ++ (.tok 2 V.ss.length :: U))) = S := ⟨_, rfl⟩
      have f7 : ∀ τ, (S ++ τ)[σ.length + 7]? = some (rtO V.L) := fun τ => zk (by rw [← hSq, zg]; rfl)
      have f8 : ∀ τ, (S ++ τ)[σ.length + 8]? = some (rlO V.G) := fun τ => zk (by rw [← hSq, zg]; rfl)
      have f9 : ∀ τ, (S ++ τ)[σ.length + 9]? = _ := fun τ => zk (by rw [← hSq]; exact mid_st _)
      have f9' := f9 []
      rw [List.append_nil] at f9'
      rw [hSq]
      obtain ⟨L', hL'⟩ : ∃ L', votL V.L v.kind v.view v.seq d = L' := ⟨_, rfl⟩
      obtain ⟨G', hG'⟩ : ∃ G', votG V.L V.G v.key v.kind v.view v.seq d = G' := ⟨_, rfl⟩
      obtain ⟨x, hx⟩ : ∃ x, votS V.L v.key v.kind v.view v.seq d = x := ⟨_, rfl⟩
      rw [hL', hG', hx] at hbv
      obtain ⟨S', hSq'⟩ : ∃ S', σ ++ (midO σ.length C (1 + bats.length) B.bs.length B.ds.length L' G' V.bs V.ds (σ.length + (T.length + 13)) (zaL V.ss) ++ (T ++ (.tok 2 V.ss.length :: U))) = S' := ⟨_, rfl⟩
      have fs : ∀ τ, ((S ++ τ).set (σ.length + 7) (rtO L')).set (σ.length + 8) (rlO G') = S' ++ τ := fun τ => by
        rw [← hSq, ← hSq', List.append_assoc, List.append_assoc, midO_set]
        simp
      have g9 : ∀ τ, (S' ++ τ)[σ.length + 9]? = _ := fun τ => zk (by rw [← hSq']; exact mid_st _)
      have ft : ∀ τ, (S' ++ τ)[σ.length + (T.length + 13)]? = some (.tok 2 V.ss.length) := fun τ => zk (by rw [← hSq']; exact mid_far ..)
      have ftt : ∀ τ z, (S' ++ τ).set (σ.length + (T.length + 13)) z = σ ++ (midO σ.length C (1 + bats.length) B.bs.length B.ds.length L' G' V.bs V.ds (σ.length + (T.length + 13)) (zaL V.ss) ++ (T ++ (z :: (U ++ τ)))) := fun τ z => by
        rw [← hSq', show ∀ (A B : List zb) (x : zb), σ ++ (A ++ (B ++ x :: U)) ++ τ = σ ++ (A ++ (B ++ (x :: (U ++ τ)))) from fun A B x => by simp]
        exact mid_farset ..
      have m9 := fun X => mid_st (σ := σ) (C := C) (N := 1 + bats.length) (a := B.bs.length) (b := B.ds.length) (L := L') (G := G') (bs := V.bs) (ds := V.ds) (t := σ.length + (T.length + 13)) (ss := zaL V.ss) X
      have m9s := fun X ss' => mid_stset (σ := σ) (C := C) (N := 1 + bats.length) (a := B.bs.length) (b := B.ds.length) (L := L') (G := G') (bs := V.bs) (ds := V.ds) (t := σ.length + (T.length + 13)) (ss := zaL V.ss) X ss'
      have r1 : S.length = S'.length := by rw [← hSq, ← hSq']; simp [midO]
      refine gq47 (zo hd (zo hvl (zo hgr (zo f9 (zo f9' (zo hwb (zo ed (zo hz (zo hmod (zo hmw hgd)))))))))) ?_
      refine ⟨?_, ?_⟩
      · refine gq1 ?_
        refine c_raVote (f7 _) (f8 _) (by omega) hVI.tab.len (by omega) ?_
        rw [hL', hG', hx, fs]
        simp only [zly]
        refine gq44 (zo r1 (zo ft (zo hw (zo es (zo ftt (zo g9 (zo m9 m9s))))))) ?_
        refine zbq.next hjl ⟨rfl, beV V v, rn.symm, ?_, bvI hVI, U ++ [.box [.d (.int .i64 v.key), .d (.int .i64 v.kind), .d (.int .i64 v.view), .d (.int .i64 v.seq), .d (.int .u8 v.batch)], .box [.d (.int .i64 x.key), .d (.int .i64 x.dig)]], ?_⟩
        · rw [hbv]; simp [hVl]
        · rw [hbv]; simp [zgb]
      · refine gq2 (zo f9 f9') ?_
        refine c_raVote (f7 _) (f8 _) (by omega) hVI.tab.len (by omega) ?_
        rw [hL', hG', hx, fs]
        simp only [zly]
        refine gq44 (zo r1 (zo ft (zo hw (zo es (zo ftt (zo g9 (zo m9 m9s))))))) ?_
        refine zbq.next hjl ⟨rfl, beV V v, rn.symm, ?_, bvI hVI, U ++ [.box [.d (.int .i64 v.key), .d (.int .i64 v.kind), .d (.int .i64 v.view), .d (.int .i64 v.seq), .d (.int .u8 v.batch)], .box [.d (.int .i64 x.key), .d (.int .i64 x.dig)]], ?_⟩
        · rw [hbv]; simp [hVl]
        · rw [hbv]; simp [zgb]
    · have hd : decide ((j : Int) < (votes.length : Int)) = false := by simp; omega
      rw [show votes.take j = votes from List.take_of_length_le (by omega)] at hV
      have hVB : V = begF bats votes := by rw [hV, hB]; rfl
      have hLG : LedI V.G := by rw [hV, hB]; exact led_begV (led_begB ⟨.nil, by simp [beg0]⟩)
      have hti := hVI.tab
      have hvled := hVI.led
      obtain ⟨X, hX⟩ : ∃ X, T ++ (.tok 2 V.ss.length :: U) = X := ⟨_, rfl⟩
      rw [hX]
      have m7 : ∀ X, (σ ++ (midO σ.length C (1 + bats.length) B.bs.length B.ds.length V.L V.G V.bs V.ds (σ.length + (T.length + 13)) (zaL V.ss) ++ X))[σ.length + 7]? = some (.box [.d (.slice (zkV V.L))]) := fun X => by rw [zg]; rfl
      have m9 := fun X => mid_st (σ := σ) (C := C) (N := 1 + bats.length) (a := B.bs.length) (b := B.ds.length) (L := V.L) (G := V.G) (bs := V.bs) (ds := V.ds) (t := σ.length + (T.length + 13)) (ss := zaL V.ss) X
      have etl : (zkV V.L).length = V.L.length := List.length_map ..
      refine gq2 (zo hd (zo hvl (zo m7 (zo m9 etl)))) ?_
      have q7 := fun (L0 : List (List UInt8)) (G0 : List zO) (X : List zb) => fin_x (σ := σ) (C := C) (N := 1 + bats.length) (a := B.bs.length) (b := B.ds.length) (L0 := L0) (G0 := G0) (L := V.L) (G := V.G) (bs := V.bs) (ds := V.ds) (ss := zaL V.ss) X
      have q8 := fun (L0 : List (List UInt8)) (G0 : List zO) (X : List zb) => fin_y (σ := σ) (C := C) (N := 1 + bats.length) (a := B.bs.length) (b := B.ds.length) (L0 := L0) (G0 := G0) (L := V.L) (G := V.G) (bs := V.bs) (ds := V.ds) (ss := zaL V.ss) X
      have q9 := fun (L0 : List (List UInt8)) (G0 : List zO) (X : List zb) => fin_st (σ := σ) (C := C) (N := 1 + bats.length) (a := B.bs.length) (b := B.ds.length) (L0 := L0) (G0 := G0) (L := V.L) (G := V.G) (bs := V.bs) (ds := V.ds) (ss := zaL V.ss) X
      have q8' : ∀ L0 G0 X, _ = some (zb.box [.d (.slice (ziS V.G))]) := q8
      have egl : (ziS V.G).length = V.G.length := List.length_map ..
      refine zbL V.L.length (fun k vs s => vs = [.d (.int .i64 k)] ∧ s = σ ++ (finO σ.length C (1 + bats.length) B.bs.length B.ds.length (V.L.take k) [] V.L V.G V.bs V.ds (zaL V.ss) ++ X)) (fin_weak _ X) ⟨rfl, rfl⟩ ?_
      rintro u vs s hu ⟨rfl, rfl⟩
      by_cases hul : u < V.L.length
      · have hd : decide ((u : Int) < (V.L.length : Int)) = true := by simp; omega
        have hx : V.L[u]? = some V.L[u] := by simp [hul]
        have hgx := zaT (f := fun b => [D.slice (bcs b)]) hx
        have hxb := hti.each _ (List.getElem_mem hul)
        obtain ⟨x, hxe⟩ : ∃ x, V.L[u] = x := ⟨_, rfl⟩
        rw [hxe] at hx hgx hxb
        have hlen := hti.len
        have hw : IntKind.i64.wrap ((u : Int) + 1) = ((u + 1 : Nat) : Int) := by rw [zao (by omega) (by omega)]; rfl
        refine gq2 (zo hd (zo hgx (zo etl q9))) ?_
        refine c_tSum (fin_tab X) hxb (by rw [List.length_take]; omega) ?_
        rw [fin_putTab, znS hti.nd hti.len hx]
        refine gq2 hw ?_
        exact zbq.next hul ⟨rfl, rfl⟩
      · have hd : decide ((u : Int) < (V.L.length : Int)) = false := by simp; omega
        rw [show V.L.take u = V.L from List.take_of_length_le (by omega)]
        refine gq2 (zo hd (zo etl (zo q9 (zo q8' egl)))) ?_
        refine zR V.G.length (fun k vs s => vs = [.d (.int .i64 k)] ∧ ∃ X, s = σ ++ (finO σ.length C (1 + bats.length) B.bs.length B.ds.length V.L (V.G.take k) V.L V.G V.bs V.ds (zaL V.ss) ++ X)) ⟨rfl, X, rfl⟩ ?_
        rintro u vs s hu ⟨rfl, X, rfl⟩
        by_cases hul : u < V.G.length
        · have hd : decide ((u : Int) < (V.G.length : Int)) = true := by simp; omega
          have hx : V.G[u]? = some V.G[u] := by simp [hul]
          obtain ⟨x, hxe⟩ : ∃ x, V.G[u] = x := ⟨_, rfl⟩
          rw [hxe] at hx
          have hgx : (ziS V.G)[u]? = some [D.int .i64 x.key, D.int .i64 x.dig] := by rw [ziS]; exact zaT hx
          have hw : IntKind.i64.wrap ((u : Int) + 1) = ((u + 1 : Nat) : Int) := by rw [zao (by omega) (by omega)]; rfl
          refine gq2 (zo hd (zo hgx (zo egl q9))) ?_
          have hgl0 : (V.G.take u).length ≤ 1073741824 := by rw [List.length_take]; omega
          refine c_gSign (fin_led (X ++ [.box [.d (.int .i64 x.key), .d (.int .i64 x.dig)]])) hgl0 ?_
          rw [fin_putLed, sign_take hLG hx]
          refine gq2 hw ?_
          exact zbq.next hul ⟨rfl, _, rfl⟩
        · have hd : decide ((u : Int) < (V.G.length : Int)) = false := by simp; omega
          rw [show V.G.take u = V.G from List.take_of_length_le (by omega)]
          refine gq2 (zo hd egl) ?_
          rw [← hVB] at hK
          refine zhc (σ' := σ) (os := endO σ.length C V) (τ := .tok 1 (1 + bats.length) :: .tok 1 B.bs.length :: .tok 1 B.ds.length :: X) rfl rfl hl ?_ (.box _ _ (by simp [endO])) (hK C)
          intro y hy
          simp only [endO, List.mem_cons, List.not_mem_nil, or_false] at hy
          rcases hy with rfl | rfl | rfl | rfl | rfl | rfl | rfl | rfl | rfl | rfl
          · rw [hC]
            intro c hc
            simp only [List.mem_cons, List.not_mem_nil, or_false] at hc
            rcases hc with rfl | rfl | rfl | rfl | rfl | rfl <;> exact .d _
          · exact zjO _
          · exact znp (show σ.length + 3 < σ.length + 10 by omega) (show σ.length + 1 < σ.length + 10 by omega)
          · trivial
          · exact zjP _
          · exact znp (show σ.length + 6 < σ.length + 10 by omega) (show σ.length + 4 < σ.length + 10 by omega)
          · trivial
          · exact zlz _ _
          · exact zoa _ _
          · intro c hc
            simp only [List.mem_cons, List.not_mem_nil, or_false] at hc
            rcases hc with rfl | rfl | rfl | rfl | rfl | rfl | rfl
            · exact .box _ _ (show σ.length + 2 < σ.length + 10 by omega)
            · exact .box _ _ (show σ.length + 5 < σ.length + 10 by omega)
            · exact .box _ _ (show σ.length + 7 < σ.length + 10 by omega)
            · exact .box _ _ (show σ.length + 8 < σ.length + 10 by omega)
            all_goals exact .d _
end Go.Proofs.YtjjchfbckfopkaaGreat
