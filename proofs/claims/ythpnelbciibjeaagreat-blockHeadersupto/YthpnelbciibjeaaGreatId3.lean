/- Contracts: a ledger signs; a table's clone; whether both were made. -/
import Derived.Test.YthpnelbciibjeaaGreatId2
set_option linter.all false
set_option maxRecDepth 100000
set_option linter.unusedSimpArgs false
set_option linter.unusedVariables false
namespace Go.Proofs.YthpnelbciibjeaaGreat
open Go.AW

theorem gq4 {P Q : Prop} (h : Q) (e : Hd Q → P := by intro h; (repeat' first | simp -dsimp only [↓zgX, ↓zaP, ↓zca, ↓zgZ, ↓zgR, ↓zgP, ↓zgS, ↓zgQ, ↓zcf, ↓zcb, ↓zcg, ↓zcc, ↓zgT, ↓zbX, ↓zch, ↓zcd, ↓zci, ↓zce, ↓zgN, ↓zgW, ↓zbW, ↓zcm, ↓zgC, ↓zgB, ↓zgL, iN, bT, bF, eN, ↓zdH, ↓unC, ↓zR, ↓zN, ↓zO, ↓zP, ↓zan, ↓zba, ↓zcY, ↓zS, ↓zcj, ↓zao, ↓zt, ↓zj, ↓zbI, ↓zg, ↓zah, ↓zX, ↓zaZ, ↓zaU, ↓zd, ↓zH, ↓zl, ↓zy, ↓zar, ↓zdS, ↓zeg, ↓zZ, ↓zaH, ↓zaO, ↓zbn, ↓zbC, ↓zw, ↓zam, ↓zL, ↓zu, ↓zaj, zee, zbN, zbH, unA, zed, bnd, zeY, zad, zag, zeQ, dm, dm1, zE, zaI, zgc, zgb, zaf, Q0, Q1, Q2, Q3, Q4, Q5, zai, zp, zm, zac, zM, Q6, Q7, Q8, Q9, Q10, Q11, Q12, Q13, Q14, Nat.reduceAdd, Q15, Int.reduceToNat, Q16, Q17, Q18, Q19, Q20, reduceIte, Q21, Q22, zC, rep, zT, zfz, toD, zab, Q23, Q24, Q25, Q26, Q27, Q28, Nat.reduceLeDiff, Q29, Nat.reduceSub, Q30, Q31, Q32, sc, Q33, Q34, Q35, Q36, Q37, Q26, Q38, Q39, zpD, zpA, zpx, zpE, zhv, zpB, zpy, zpC, zpz, zhu, zhw, zpJ, zpK, Bool.not_true, Bool.not_false, List.length_map, Bool.and_false, Bool.and_self, Bool.false_and, Bool.not_false, Bool.not_true, Bool.true_and, Int.toNat_natCast, Int.toNat_zero, List.drop_zero, List.length_map, List.length_nil, List.nil_append, List.take_length, Nat.sub_zero, Nat.zero_add, Option.isSome_none, Option.isSome_some, Option.map_none, Option.map_some, zat, beq_self_eq_true, bne_self_eq_false] | with_reducible refine zqn ?_ | fail); exact h.go) : P := e ⟨h⟩
theorem c_From {σ : List zc} {l : List (List UInt8)} (hn : l.Nodup) (hl0 : l.length ≤ 1048576) (hb : ∀ b ∈ l, b.length ≤ 1073741824) {K : AV → List zc → Prop}
    (hK : K (.tup [.box (σ.length + 1) 0, .d (.int .i64 0)]) (σ ++ zpg σ.length l)) : zo Tryz.prog zig [.d (.slice (zhF l))] σ K := by
  refine zbG zlY.is rfl (fun s => List.range' σ.length 3) fun hl _ => zlY.goes ?_
  have hlen : (zhF l).length = l.length := List.length_map ..
  have hd : decide ((l.length : Int) > 1048576) = false := by simp; omega
  simp only [zmk, iN, bT, bF, eN]
  refine gq2 (zh hlen hd) ?_
  refine zlF ?_
  refine gq1 ?_
  refine zV l.length (fun k vs s => vs = [.d (.int .i64 k)] ∧ s = σ ++ zpg σ.length (l.take k)) ⟨rfl, rfl⟩ ?_
  rintro k vs s hk ⟨rfl, rfl⟩
  by_cases hlt : k < l.length
  · have hd : decide ((k : Int) < (l.length : Int)) = true := by simp; omega
    have hx : l[k]? = some l[k] := by simp [hlt]
    have hgx := zdu (f := fun b => [D.slice (bcs b)]) hx
    have hxb := hb _ (List.getElem_mem hlt)
    have hnot : l[k] ∉ l.take k := fun hm => by
      obtain ⟨i, hi, he⟩ := List.mem_take_iff_getElem.1 hm
      have := (List.getElem_inj hn).1 he
      omega
    obtain ⟨x, hxe⟩ : ∃ x, l[k] = x := ⟨_, rfl⟩
    rw [hxe] at hx hgx hxb hnot
    have hno := look_notin hnot
    have hT : zbO (σ ++ zpg σ.length (l.take k)) (σ.length + 1) σ.length (σ.length + 2) (l.take k) := by simpa using zke σ (l.take k) []
    have hP : ∀ l', putTab (σ ++ zpg σ.length (l.take k)) (σ.length + 1) σ.length (σ.length + 2) l' = σ ++ zpg σ.length l' := fun l' => by simpa using zli σ (l.take k) l' []
    refine gq2 (zh hlen (zh hd hgx)) ?_
    refine c_tLook hT ?_
    rw [hno]
    refine gq4 ?_
    refine zmc hT hxb (by rw [List.length_take]; omega) ?_
    rw [hP]
    have e : zfA (l.take k) x = l.take (k + 1) := by
      have h1 : (l.take k).length = k := by rw [List.length_take]; omega
      rw [zfA, hno]
      simp only [h1]
      rw [if_neg (by omega), List.take_add_one, hx]; rfl
    rw [e]
    have hw : IntKind.i64.wrap ((k : Int) + 1) = ((k + 1 : Nat) : Int) := by rw [zaK (by omega) (by omega)]; rfl
    refine gq2 hw ?_
    exact zcE.next hlt ⟨rfl, rfl⟩
  · have hd : decide ((k : Int) < (l.length : Int)) = false := by simp; omega
    rw [List.take_of_length_le (by omega)]
    refine gq2 (zh hlen hd) ?_
    refine zhy (σ' := σ) (os := zpg σ.length l) rfl rfl hl (low_tabO _ _) ?_ hK
    exact .tup _ (by simp [zbM]; exact .box _ _ (by simp))
theorem c_tClone {σ : List zc} {id m t : Nat} {l : List (List UInt8)} (hT : zbO σ id m t l) (hn : l.Nodup) (hl0 : l.length ≤ 1048576) (hb : ∀ b ∈ l, b.length ≤ 1073741824) {K : AV → List zc → Prop}
    (hK : K (.box (σ.length + 1) 0) (σ ++ zpg σ.length l)) : zo Tryz.prog zcw [.box id 0] σ K := by
  refine zbG zfR.is rfl (fun s => List.range' σ.length 3) fun hl _ => zfR.goes ?_
  have hbx := hT.box
  simp only [zfX, iN, bT, bF, eN]
  refine gq1 ?_
  refine zqg hT ?_
  refine gq2 hbx ?_
  refine c_From hn hl0 hb ?_
  refine gq1 ?_
  exact zhy (σ' := σ) (os := zpg σ.length l) rfl rfl hl (low_tabO _ _) (.box _ _ (by simp)) hK
theorem c_known {σ : List zc} {id m t : Nat} {l : List (List UInt8)} (hT : zbO σ id m t l) (hn : l.Nodup) (hl0 : l.length ≤ 1048576) (hb : ∀ b ∈ l, b.length ≤ 1073741824) {K : AV → List zc → Prop}
    (hK : K (.d (.bool true)) σ) : zo Tryz.prog zfF [.box id 0] σ K := by
  refine zhS znt fun hl => ?_
  simp only [ziB, iN, bT, bF, eN]
  refine gq1 ?_
  refine c_tLen hT ?_
  cases h : decide ((l.length : Int) > 0)
  · refine gq2 h ?_
    refine c_tClone hT hn hl0 hb ?_
    refine gq2 h ?_
    refine zbx hl ?_
    exact hK
  · refine gq2 h ?_
    refine zbx hl ?_
    exact hK

end Go.Proofs.YthpnelbciibjeaaGreat
