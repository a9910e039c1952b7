/- Contracts: the program's tables and ledgers. -/
import Derived.Test.YthpnelbciibjeaaGreatSpTab
set_option linter.all false
set_option maxRecDepth 100000
set_option linter.unusedSimpArgs false
set_option linter.unusedVariables false
namespace Go.Proofs.YthpnelbciibjeaaGreat
open Go.AW

theorem gq1 {P Q : Prop} (h : Q) (e : Hd Q → P := by intro h; (repeat' first | simp -dsimp only [↓zhH, ↓zbh, ↓zcI, ↓zhI, ↓zhD, ↓zhB, ↓zhE, ↓zhC, ↓zcN, ↓zcJ, ↓zcO, ↓zcK, ↓zhF, ↓zcH, ↓zcP, ↓zcL, ↓zcQ, ↓zcM, ↓zhA, ↓zhG, ↓zcG, ↓zcS, ↓zhy, ↓zhx, ↓zhz, iN, bT, bF, eN, ↓zei, ↓unC, ↓zal, ↓zZ, ↓zaa, ↓zah, ↓zaE, ↓zaO, ↓zdI, ↓zak, ↓zcu, ↓zaF, ↓zr, ↓zA, ↓zde, ↓zj, ↓zau, ↓zT, ↓zaW, ↓zbl, ↓zd, ↓zU, ↓zq, ↓zJ, ↓zaI, ↓zez, ↓zeX, ↓zaq, ↓zaS, ↓zaV, ↓zbA, ↓zbV, ↓zG, ↓zay, ↓zX, ↓zH, ↓zaC, zeY, zcw, zcg, unA, zfb, bnd, zfU, zan, zaG, zfT, dm, dm1, zC, zaT, zgx, zgw, zao, Q0, Q1, Q2, Q3, Q4, Q5, zaB, zP, zp, zas, zac, Q6, Q7, Q8, Q9, Q10, Q11, Q12, Q13, Q14, Nat.reduceAdd, Q15, Int.reduceToNat, Q16, Q17, Q18, Q19, Q20, reduceIte, Q21, Q22, zE, rep, zag, zgP, toD, zap, Q23, Q24, Q25, Q26, Q27, Q28, Nat.reduceLeDiff, Q29, Nat.reduceSub, Q30, Q31, Q32, sc, Q33, Q34, Q35, Q36, Q37, Q26, Q38, Q39, n0gt, n1gt, n2gt, n0eq, zjv, n1eq, n2eq, n0ne, n1ne, zju, zjw, i0ne, i0eq, Bool.not_true, Bool.not_false, List.length_map] | with_reducible refine andA ?_ | fail); exact h.go) : P := e ⟨h⟩
theorem zlp {σ : List zc} {K : AV → List zc → Prop} (hK : K (.box (σ.length + 1) 0) (σ ++ tabO σ.length [])) : zt Tryz.prog zcv [] σ K := by
  refine zt.weaken ?_
  refine zdG zhi.is rfl (fun s => List.range' σ.length 2) fun hl _ => zhi.goes ?_
  simp only [zhp, iN, bT, bF, eN]
  refine gq1 ?_
  refine zhc (σ' := σ) (os := [.map [], .box [.exact [], .map σ.length]]) rfl rfl hl ?_ (.box _ _ (by simp)) ?_
  · intro x hx
    simp only [List.mem_cons, List.not_mem_nil, or_false] at hx
    rcases hx with rfl | rfl
    · intro e he; cases he
    · intro c hc
      simp only [List.mem_cons, List.not_mem_nil, or_false] at hc
      rcases hc with rfl | rfl
      · exact .exact _
      · exact .map _ (by simp)
  · refine ⟨.box (σ.length + 1) 0, σ ++ tabO σ.length [], ?_, hK⟩
    refine .tokB (σ.length + 1) 0 [.exact [], .map σ.length] [] 1 (by rw [zP]; rfl) rfl (by simp) ?_
    have e : (σ ++ [zc.map [], zc.box [AV.exact [], AV.map σ.length]]).set (σ.length + 1) (.box ([AV.exact [], AV.map σ.length].set 0 (.own (σ ++ [zc.map [], zc.box [AV.exact [], AV.map σ.length]]).length []))) ++ [.tok 1 0] = σ ++ tabO σ.length [] := by
      rw [zas]; simp [tabO]; rfl
    rw [List.length_nil, e]
    exact .refl _ _
theorem gq2 {A P Q : Prop} (a : A) (h : Q) (e : A → Hd Q → P := by intro a h; (repeat' first | simp -dsimp only [↓zhH, ↓zbh, ↓zcI, ↓zhI, ↓zhD, ↓zhB, ↓zhE, ↓zhC, ↓zcN, ↓zcJ, ↓zcO, ↓zcK, ↓zhF, ↓zcH, ↓zcP, ↓zcL, ↓zcQ, ↓zcM, ↓zhA, ↓zhG, ↓zcG, ↓zcS, ↓zhy, ↓zhx, ↓zhz, iN, bT, bF, eN, ↓zei, ↓unC, ↓zal, ↓zZ, ↓zaa, ↓zah, ↓zaE, ↓zaO, ↓zdI, ↓zak, ↓zcu, ↓zaF, ↓zr, ↓zA, ↓zde, ↓zj, ↓zau, ↓zT, ↓zaW, ↓zbl, ↓zd, ↓zU, ↓zq, ↓zJ, ↓zaI, ↓zez, ↓zeX, ↓zaq, ↓zaS, ↓zaV, ↓zbA, ↓zbV, ↓zG, ↓zay, ↓zX, ↓zH, ↓zaC, zeY, zcw, zcg, unA, zfb, bnd, zfU, zan, zaG, zfT, dm, dm1, zC, zaT, zgx, zgw, zao, Q0, Q1, Q2, Q3, Q4, Q5, zaB, zP, zp, zas, zac, Q6, Q7, Q8, Q9, Q10, Q11, Q12, Q13, Q14, Nat.reduceAdd, Q15, Int.reduceToNat, Q16, Q17, Q18, Q19, Q20, reduceIte, Q21, Q22, zE, rep, zag, zgP, toD, zap, Q23, Q24, Q25, Q26, Q27, Q28, Nat.reduceLeDiff, Q29, Nat.reduceSub, Q30, Q31, Q32, sc, Q33, Q34, Q35, Q36, Q37, Q26, Q38, Q39, n0gt, n1gt, n2gt, n0eq, zjv, n1eq, n2eq, n0ne, n1ne, zju, zjw, i0ne, i0eq, Bool.not_true, Bool.not_false, List.length_map, a] | with_reducible refine andA ?_ | fail); exact h.go) : P := e a ⟨h⟩
theorem zpN {σ : List zc} {id m t : Nat} {l : List (List UInt8)} (hT : zbC σ id m t l) {K : AV → List zc → Prop} (hK : K (.d (.bool false)) σ) : zt Tryz.prog zbo [.box id 0] σ K := by
  refine zhl zkj fun hl => ?_
  have hb := hT.box
  simp only [zgd, iN, bT, bF, eN]
  refine gq2 hb ?_
  refine zbj hl ?_
  exact hK
theorem zi {A B : Prop} (a : A) (b : B) : A ∧ B := ⟨a, b⟩
theorem gq3 {A P Q : Prop} (a : A) (h : Q) (e : A → Hd Q → P := by intro a h; (repeat' first | simp -dsimp only [↓zhH, ↓zbh, ↓zcI, ↓zhI, ↓zhD, ↓zhB, ↓zhE, ↓zhC, ↓zcN, ↓zcJ, ↓zcO, ↓zcK, ↓zhF, ↓zcH, ↓zcP, ↓zcL, ↓zcQ, ↓zcM, ↓zhA, ↓zhG, ↓zcG, ↓zcS, ↓zhy, ↓zhx, ↓zhz, iN, bT, bF, eN, ↓zei, ↓unC, ↓zal, ↓zZ, ↓zaa, ↓zah, ↓zaE, ↓zaO, ↓zdI, ↓zak, ↓zcu, ↓zaF, ↓zr, ↓zA, ↓zde, ↓zj, ↓zau, ↓zT, ↓zaW, ↓zbl, ↓zd, ↓zU, ↓zq, ↓zJ, ↓zaI, ↓zez, ↓zeX, ↓zaq, ↓zaS, ↓zaV, ↓zbA, ↓zbV, ↓zG, ↓zay, ↓zX, ↓zH, ↓zaC, zeY, zcw, zcg, unA, zfb, bnd, zfU, zan, zaG, zfT, dm, dm1, zC, zaT, zgx, zgw, zao, Q0, Q1, Q2, Q3, Q4, Q5, zaB, zP, zp, zas, zac, Q6, Q7, Q8, Q9, Q10, Q11, Q12, Q13, Q14, Nat.reduceAdd, Q15, Int.reduceToNat, Q16, Q17, Q18, Q19, Q20, reduceIte, Q21, Q22, zE, rep, zag, zgP, toD, zap, Q23, Q24, Q25, Q26, Q27, Q28, Nat.reduceLeDiff, Q29, Nat.reduceSub, Q30, Q31, Q32, sc, Q33, Q34, Q35, Q36, Q37, Q26, Q38, Q39, n0gt, n1gt, n2gt, n0eq, zjv, n1eq, n2eq, n0ne, n1ne, zju, zjw, i0ne, i0eq, Bool.not_true, Bool.not_false, List.length_map, Bool.and_false, Bool.and_self, Bool.false_and, Bool.not_false, Bool.not_true, Bool.true_and, Int.toNat_natCast, Int.toNat_zero, List.drop_zero, List.length_map, List.length_nil, List.nil_append, List.take_length, Nat.sub_zero, Nat.zero_add, Option.isSome_none, Option.isSome_some, Option.map_none, Option.map_some, zbp, beq_self_eq_true, bne_self_eq_false, zjJ, zdU, zef, zaV, zla, zbA, a] | with_reducible refine andA ?_ | fail); exact h.go) : P := e a ⟨h⟩
theorem c_tLook {σ : List zc} {id m t : Nat} {l : List (List UInt8)} {b : List UInt8} (hT : zbC σ id m t l) {K : AV → List zc → Prop} (hK : K (.tup [.d (.int .i64 (numOf (zgk l b))), .d (.bool (zgk l b).isSome)]) σ) :
    zt Tryz.prog zcF [.box id 0, .d (.slice (bcs b))] σ K := by
  refine zlO zkk fun hl => ?_
  have hb := hT.box
  have hm := hT.map
  have hf := mfind_tab l b
  simp only [zge, iN, bT, bF, eN]
  refine gq1 ?_
  refine zpN hT ?_
  cases ho : zgk l b with
  | none =>
    rw [ho] at hf hK
    simp only [Option.map_none] at hf
    refine gq3 (zi hb (zi hm hf)) ?_
    refine zbj hl ?_
    exact hK
  | some k =>
    rw [ho] at hf hK
    simp only [Option.map_some] at hf
    refine gq3 (zi hb (zi hm hf)) ?_
    refine zbj hl ?_
    exact hK
theorem c_tLen {σ : List zc} {id m t : Nat} {l : List (List UInt8)} (hT : zbC σ id m t l) {K : AV → List zc → Prop} (hK : K (.d (.int .i64 l.length)) σ) : zt Tryz.prog zet [.box id 0] σ K := by
  refine zhl zlk fun hl => ?_
  have hb := hT.box
  simp only [zgM, iN, bT, bF, eN]
  refine gq1 ?_
  refine zpN hT ?_
  refine gq2 hb ?_
  refine zbj hl ?_
  exact hK
theorem zlL {σ : List zc} {id m t : Nat} {l : List (List UInt8)} {b : List UInt8} (hT : zbC σ id m t l) (hbl : b.length ≤ 1073741824) (hll : l.length ≤ 1048576) {K : AV → List zc → Prop}
    (hK : K (.d (.int .i64 (zex l b))) (putTab σ id m t (zee l b))) : zt Tryz.prog zaL [.box id 0, .d (.slice (bcs b))] σ K := by
  refine zlO zlj fun hl => ?_
  have hb := hT.box
  have hm := hT.map
  have ht := hT.tok
  have hf := mfind_tab l b
  obtain ⟨n1, n2, n3⟩ := hT.ne
  have hlen : (zkL l).length = l.length := List.length_map ..
  simp only [zgL, iN, bT, bF, eN]
  refine gq1 ?_
  refine zpN hT ?_
  cases ho : zgk l b with
  | some k =>
    rw [ho] at hf
    simp only [zex, zee, ho] at hK
    rw [hT.self] at hK
    simp only [Option.map_some] at hf
    refine gq3 (zi hb (zi hm hf)) ?_
    refine zbj hl ?_
    exact hK
  | none =>
    rw [ho] at hf
    simp only [zex, zee, ho] at hK
    simp only [Option.map_none] at hf
    by_cases hfull : l.length ≥ 1048576
    · rw [if_pos hfull, if_pos hfull, hT.self] at hK
      have hd : decide ((l.length : Int) ≥ 1048576) = true := by simp; omega
      refine gq3 (zi hb (zi hm (zi hf (zi hlen hd)))) ?_
      refine zbj hl ?_
      exact hK
    · rw [if_neg hfull, if_neg hfull] at hK
      have hd : decide ((l.length : Int) ≥ 1048576) = false := by simp; omega
      have g1 : ∀ τ, (σ ++ τ)[id]? = some (.box [.own t (zkL l), .map m]) := fun τ => zg hb
      have g2 : ∀ τ, (σ ++ τ)[t]? = some (.tok 1 l.length) := fun τ => zg ht
      have s1 : ∀ X τ, (σ ++ τ).set t X = σ.set t X ++ τ := fun X τ => zpe ht
      have hb' : ∀ X, (σ.set t X)[id]? = some (.box [.own t (zkL l), .map m]) := fun X => by rw [List.getElem?_set_ne (Ne.symm n2)]; exact hb
      have g3 : ∀ X τ, (σ.set t X ++ τ)[id]? = some (.box [.own t (zkL l), .map m]) := fun X τ => zg (hb' X)
      have s2 : ∀ X Y τ, (σ.set t X ++ τ).set id Y = (σ.set t X).set id Y ++ τ := fun X Y τ => zpe (hb' X)
      have g4 : ∀ X Y τ, ((σ.set t X).set id Y ++ τ)[id]? = some Y := fun X Y τ => zg (get_set_same (hb' X))
      have hm' : ∀ X Y, ((σ.set t X).set id Y)[m]? = some (.map (tabM l)) := fun X Y => by rw [List.getElem?_set_ne n1, List.getElem?_set_ne (Ne.symm n3)]; exact hm
      have g5 : ∀ X Y τ, ((σ.set t X).set id Y ++ τ)[m]? = some (.map (tabM l)) := fun X Y τ => zg (hm' X Y)
      have s3 : ∀ X Y Z τ, ((σ.set t X).set id Y ++ τ).set m Z = ((σ.set t X).set id Y).set m Z ++ τ := fun X Y Z τ => zpe (hm' X Y)
      refine gq3 (zi hb (zi hm (zi hf (zi hlen hd)))) ?_
      refine zfq zgm (by rw [zbp]; omega) ?_
      refine gq3 (zi g1 (zi g2 (zi s1 (zi g3 (zi s2 (zi g4 (zi g5 (zi s3 (zi hf hlen))))))))) ?_
      refine ⟨hb.symm, by simp, by omega, ?_⟩
      have e : putTab σ id m t (l ++ [b]) = ((σ.set t (zc.tok 1 (l.length + 1))).set id (zc.box [AV.own t (zkL l ++ [[D.slice (bcs b)]]), AV.map m])).set m (zc.map (tabM l ++ [(AV.d (D.str b), AV.d (D.int IntKind.i64 ((l.length + 1 : Nat) : Int)))])) := by
        simp [putTab, tabM_add, zkL]
        rw [← tabM_add]; simp
      rw [← e]
      exact zmh (zaR ..) (by simp [zgo, dmT, dm, dm1, zcE]) (hT.lows hl _) hK

def signG (g : List zcb) (k d : Int) : List zcb := if signF k d = 0 then signL g ⟨k, d⟩ else g
theorem gq4 {P Q : Prop} (h : Q) (e : Hd Q → P := by intro h; (repeat' first | simp -dsimp only [↓zhH, ↓zbh, ↓zcI, ↓zhI, ↓zhD, ↓zhB, ↓zhE, ↓zhC, ↓zcN, ↓zcJ, ↓zcO, ↓zcK, ↓zhF, ↓zcH, ↓zcP, ↓zcL, ↓zcQ, ↓zcM, ↓zhA, ↓zhG, ↓zcG, ↓zcS, ↓zhy, ↓zhx, ↓zhz, iN, bT, bF, eN, ↓zei, ↓unC, ↓zal, ↓zZ, ↓zaa, ↓zah, ↓zaE, ↓zaO, ↓zdI, ↓zak, ↓zcu, ↓zaF, ↓zr, ↓zA, ↓zde, ↓zj, ↓zau, ↓zT, ↓zaW, ↓zbl, ↓zd, ↓zU, ↓zq, ↓zJ, ↓zaI, ↓zez, ↓zeX, ↓zaq, ↓zaS, ↓zaV, ↓zbA, ↓zbV, ↓zG, ↓zay, ↓zX, ↓zH, ↓zaC, zeY, zcw, zcg, unA, zfb, bnd, zfU, zan, zaG, zfT, dm, dm1, zC, zaT, zgx, zgw, zao, Q0, Q1, Q2, Q3, Q4, Q5, zaB, zP, zp, zas, zac, Q6, Q7, Q8, Q9, Q10, Q11, Q12, Q13, Q14, Nat.reduceAdd, Q15, Int.reduceToNat, Q16, Q17, Q18, Q19, Q20, reduceIte, Q21, Q22, zE, rep, zag, zgP, toD, zap, Q23, Q24, Q25, Q26, Q27, Q28, Nat.reduceLeDiff, Q29, Nat.reduceSub, Q30, Q31, Q32, sc, Q33, Q34, Q35, Q36, Q37, Q26, Q38, Q39, n0gt, n1gt, n2gt, n0eq, zjv, n1eq, n2eq, n0ne, n1ne, zju, zjw, i0ne, i0eq, Bool.not_true, Bool.not_false, List.length_map, Bool.and_false, Bool.and_self, Bool.false_and, Bool.not_false, Bool.not_true, Bool.true_and, Int.toNat_natCast, Int.toNat_zero, List.drop_zero, List.length_map, List.length_nil, List.nil_append, List.take_length, Nat.sub_zero, Nat.zero_add, Option.isSome_none, Option.isSome_some, Option.map_none, Option.map_some, zbp, beq_self_eq_true, bne_self_eq_false] | with_reducible refine andA ?_ | fail); exact h.go) : P := e ⟨h⟩
theorem c_From {σ : List zc} {l : List (List UInt8)} (hn : l.Nodup) (hl0 : l.length ≤ 1048576) (hb : ∀ b ∈ l, b.length ≤ 1073741824) {K : AV → List zc → Prop}
    (hK : K (.tup [.box (σ.length + 1) 0, .d (.int .i64 0)]) (σ ++ tabO σ.length l)) : zt Tryz.prog zhS [.d (.slice (zkL l))] σ K := by
  refine zdG zlI.is rfl (fun s => List.range' σ.length 3) fun hl _ => zlI.goes ?_
  have hlen : (zkL l).length = l.length := List.length_map ..
  have hd : decide ((l.length : Int) > 1048576) = false := by simp; omega
  simp only [zlS, iN, bT, bF, eN]
  refine gq2 (zi hlen hd) ?_
  refine zlp ?_
  refine gq1 ?_
  refine zN l.length (fun k vs s => vs = [.d (.int .i64 k)] ∧ s = σ ++ tabO σ.length (l.take k)) ⟨rfl, rfl⟩ ?_
  rintro k vs s hk ⟨rfl, rfl⟩
  by_cases hlt : k < l.length
  · have hd : decide ((k : Int) < (l.length : Int)) = true := by simp; omega
    have hx : l[k]? = some l[k] := by simp [hlt]
    have hgx := zbr (f := fun b => [D.slice (bcs b)]) hx
    have hxb := hb _ (List.getElem_mem hlt)
    have hnot : l[k] ∉ l.take k := fun hm => by
      obtain ⟨i, hi, he⟩ := List.mem_take_iff_getElem.1 hm
      have := (List.getElem_inj hn).1 he
      omega
    obtain ⟨x, hxe⟩ : ∃ x, l[k] = x := ⟨_, rfl⟩
    rw [hxe] at hx hgx hxb hnot
    have hno := zou hnot
    have hT : zbC (σ ++ tabO σ.length (l.take k)) (σ.length + 1) σ.length (σ.length + 2) (l.take k) := by simpa using zjQ σ (l.take k) []
    have hP : ∀ l', putTab (σ ++ tabO σ.length (l.take k)) (σ.length + 1) σ.length (σ.length + 2) l' = σ ++ tabO σ.length l' := fun l' => by simpa using zol σ (l.take k) l' []
    refine gq2 (zi hlen (zi hd hgx)) ?_
    refine c_tLook hT ?_
    rw [hno]
    refine gq4 ?_
    refine zlL hT hxb (by rw [List.length_take]; omega) ?_
    rw [hP]
    have e : zee (l.take k) x = l.take (k + 1) := by
      have h1 : (l.take k).length = k := by rw [List.length_take]; omega
      rw [zee, hno]
      simp only [h1]
      rw [if_neg (by omega), List.take_add_one, hx]; rfl
    rw [e]
    have hw : IntKind.i64.wrap ((k : Int) + 1) = ((k + 1 : Nat) : Int) := by rw [zaD (by omega) (by omega)]; rfl
    refine gq2 hw ?_
    exact zbJ.next hlt ⟨rfl, rfl⟩
  · have hd : decide ((k : Int) < (l.length : Int)) = false := by simp; omega
    rw [List.take_of_length_le (by omega)]
    refine gq2 (zi hlen hd) ?_
    refine zhc (σ' := σ) (os := tabO σ.length l) rfl rfl hl (low_tabO _ _) ?_ hK
    exact .tup _ (by simp [zgo]; exact .box _ _ (by simp))
theorem c_tClone {σ : List zc} {id m t : Nat} {l : List (List UInt8)} (hT : zbC σ id m t l) (hn : l.Nodup) (hl0 : l.length ≤ 1048576) (hb : ∀ b ∈ l, b.length ≤ 1073741824) {K : AV → List zc → Prop}
    (hK : K (.box (σ.length + 1) 0) (σ ++ tabO σ.length l)) : zt Tryz.prog zcn [.box id 0] σ K := by
  refine zdG zfM.is rfl (fun s => List.range' σ.length 3) fun hl _ => zfM.goes ?_
  have hbx := hT.box
  simp only [zfS, iN, bT, bF, eN]
  refine gq1 ?_
  refine zpN hT ?_
  refine gq2 hbx ?_
  refine c_From hn hl0 hb ?_
  refine gq1 ?_
  exact zhc (σ' := σ) (os := tabO σ.length l) rfl rfl hl (low_tabO _ _) (.box _ _ (by simp)) hK
theorem c_known {σ : List zc} {id m t : Nat} {l : List (List UInt8)} (hT : zbC σ id m t l) (hn : l.Nodup) (hl0 : l.length ≤ 1048576) (hb : ∀ b ∈ l, b.length ≤ 1073741824) {K : AV → List zc → Prop}
    (hK : K (.d (.bool true)) σ) : zt Tryz.prog zfB [.box id 0] σ K := by
  refine zhl znh fun hl => ?_
  simp only [zih, iN, bT, bF, eN]
  refine gq1 ?_
  refine c_tLen hT ?_
  cases h : decide ((l.length : Int) > 0)
  · refine gq2 h ?_
    refine c_tClone hT hn hl0 hb ?_
    refine gq2 h ?_
    refine zbj hl ?_
    exact hK
  · refine gq2 h ?_
    refine zbj hl ?_
    exact hK

theorem wki (k : Nat) (h : k ≤ 1073741824) : IntKind.i64.wrap ((k : Int) + 1) = ((k + 1 : Nat) : Int) := by rw [zaD (by omega) (by omega)]; rfl
end Go.Proofs.YthpnelbciibjeaaGreat
