/- Contracts: a ledger signs; a table's clone; whether both were made. -/
import Derived.Test.YthpnelbciibjeaaId2
set_option linter.all false
set_option maxRecDepth 100000
set_option linter.unusedSimpArgs false
set_option linter.unusedVariables false
namespace Go.Proofs.Ythpnelbciibjeaa
open Go.AW

theorem gq4 {P Q : Prop} (h : Q) (e : Hd Q → P := by intro h; (repeat' first | simp -dsimp only [↓ziv, ↓zbi, ↓zcW, ↓zix, ↓zio, ↓zim, ↓ziq, ↓zin, ↓zdb, ↓zcX, ↓zdc, ↓zcY, ↓zir, ↓zcU, ↓zdd, ↓zcZ, ↓zde, ↓zda, ↓zil, ↓ziu, ↓zcS, ↓zdf, ↓zia, ↓zhZ, ↓zij, iN, bT, bF, eN, ↓zeU, ↓unC, ↓zah, ↓zR, ↓zS, ↓zad, ↓zaG, ↓zbl, ↓zea, ↓zaj, ↓zcA, ↓zau, ↓zu, ↓zo, ↓zcT, ↓zi, ↓zax, ↓zac, ↓zbm, ↓zbg, ↓zd, ↓zK, ↓zq, ↓zJ, ↓zaI, ↓zeE, ↓zfi, ↓zat, ↓zaW, ↓zaY, ↓zbC, ↓zck, ↓zG, ↓zaA, ↓zQ, ↓zF, ↓zaE, zfb, zcF, zcr, unA, zfm, bnd, zfY, zap, zaw, zfQ, dm, dm1, zA, zaT, zgP, zgO, zZ, Q0, Q1, Q2, Q3, Q4, Q5, zaD, zI, zr, zav, zW, Q6, Q7, Q8, Q9, Q10, Q11, Q12, Q13, Q14, Nat.reduceAdd, Q15, Int.reduceToNat, Q16, Q17, Q18, Q19, Q20, reduceIte, Q21, Q22, zD, rep, zT, zgN, toD, zan, Q23, Q24, Q25, Q26, Q27, Q28, Nat.reduceLeDiff, Q29, Nat.reduceSub, Q30, Q31, Q32, sc, Q33, Q34, Q35, Q36, Q37, Q26, Q38, Q39, n0gt, n1gt, n2gt, n0eq, zhd, n1eq, n2eq, n0ne, n1ne, zhc, zhe, i0ne, i0eq, Bool.not_true, Bool.not_false, List.length_map, Bool.and_false, Bool.and_self, Bool.false_and, Bool.not_false, Bool.not_true, Bool.true_and, Int.toNat_natCast, Int.toNat_zero, List.drop_zero, List.length_map, List.length_nil, List.nil_append, List.take_length, Nat.sub_zero, Nat.zero_add, Option.isSome_none, Option.isSome_some, Option.map_none, Option.map_some, zbN, beq_self_eq_true, bne_self_eq_false] | with_reducible refine andA ?_ | fail); exact h.go) : P := e ⟨h⟩
theorem c_From {σ : List zc} {l : List (List UInt8)} (hn : l.Nodup) (hl0 : l.length ≤ 1048576) (hb : ∀ b ∈ l, b.length ≤ 1073741824) {K : AV → List zc → Prop}
    (hK : K (.tup [.box (σ.length + 1) 0, .d (.int .i64 0)]) (σ ++ zns σ.length l)) : zj Try.prog zha [.d (.slice (zjL l))] σ K := by
  refine zdu zkA.is rfl (fun s => List.range' σ.length 3) fun hl _ => zkA.goes ?_
  have hlen : (zjL l).length = l.length := List.length_map ..
  have hd : decide ((l.length : Int) > 1048576) = false := by simp; omega
  simp only [zkK, iN, bT, bF, eN]
  refine gq2 (zg hlen hd) ?_
  refine zhQ ?_
  refine gq1 ?_
  refine zV l.length (fun k vs s => vs = [.d (.int .i64 k)] ∧ s = σ ++ zns σ.length (l.take k)) ⟨rfl, rfl⟩ ?_
  rintro k vs s hk ⟨rfl, rfl⟩
  by_cases hlt : k < l.length
  · have hd : decide ((k : Int) < (l.length : Int)) = true := by simp; omega
    have hx : l[k]? = some l[k] := by simp [hlt]
    have hgx := zef (f := fun b => [D.slice (bcs b)]) hx
    have hxb := hb _ (List.getElem_mem hlt)
    have hnot : l[k] ∉ l.take k := fun hm => by
      obtain ⟨i, hi, he⟩ := List.mem_take_iff_getElem.1 hm
      have := (List.getElem_inj hn).1 he
      omega
    obtain ⟨x, hxe⟩ : ∃ x, l[k] = x := ⟨_, rfl⟩
    rw [hxe] at hx hgx hxb hnot
    have hno := look_notin hnot
    have hT : zbr (σ ++ zns σ.length (l.take k)) (σ.length + 1) σ.length (σ.length + 2) (l.take k) := by simpa using zli σ (l.take k) []
    have hP : ∀ l', putTab (σ ++ zns σ.length (l.take k)) (σ.length + 1) σ.length (σ.length + 2) l' = σ ++ zns σ.length l' := fun l' => by simpa using zmM σ (l.take k) l' []
    refine gq2 (zg hlen (zg hd hgx)) ?_
    refine c_tLook hT ?_
    rw [hno]
    refine gq4 ?_
    refine zkD hT hxb (by rw [List.length_take]; omega) ?_
    rw [hP]
    have e : zfP (l.take k) x = l.take (k + 1) := by
      have h1 : (l.take k).length = k := by rw [List.length_take]; omega
      rw [zfP, hno]
      simp only [h1]
      rw [if_neg (by omega), List.take_add_one, hx]; rfl
    rw [e]
    have hw : IntKind.i64.wrap ((k : Int) + 1) = ((k + 1 : Nat) : Int) := by rw [zbJ (by omega) (by omega)]; rfl
    refine gq2 hw ?_
    exact zcd.next hlt ⟨rfl, rfl⟩
  · have hd : decide ((k : Int) < (l.length : Int)) = false := by simp; omega
    rw [List.take_of_length_le (by omega)]
    refine gq2 (zg hlen hd) ?_
    refine zgz (σ' := σ) (os := zns σ.length l) rfl rfl hl (low_tabO _ _) ?_ hK
    exact .tup _ (by simp [zfO]; exact .box _ _ (by simp))
theorem zog {σ : List zc} {id m t : Nat} {l : List (List UInt8)} (hT : zbr σ id m t l) (hn : l.Nodup) (hl0 : l.length ≤ 1048576) (hb : ∀ b ∈ l, b.length ≤ 1073741824) {K : AV → List zc → Prop}
    (hK : K (.box (σ.length + 1) 0) (σ ++ zns σ.length l)) : zj Try.prog zbo [.box id 0] σ K := by
  refine zdu zdl.is rfl (fun s => List.range' σ.length 3) fun hl _ => zdl.goes ?_
  have hbx := hT.box
  simp only [zdo, iN, bT, bF, eN]
  refine gq1 ?_
  refine zof hT ?_
  refine gq2 hbx ?_
  refine c_From hn hl0 hb ?_
  refine gq1 ?_
  exact zgz (σ' := σ) (os := zns σ.length l) rfl rfl hl (low_tabO _ _) (.box _ _ (by simp)) hK
theorem c_known {σ : List zc} {id m t : Nat} {l : List (List UInt8)} (hT : zbr σ id m t l) (hn : l.Nodup) (hl0 : l.length ≤ 1048576) (hb : ∀ b ∈ l, b.length ≤ 1073741824) {K : AV → List zc → Prop}
    (hK : K (.d (.bool true)) σ) : zj Try.prog zff [.box id 0] σ K := by
  refine zhr zlQ fun hl => ?_
  simp only [zhs, iN, bT, bF, eN]
  refine gq1 ?_
  refine c_tLen hT ?_
  cases h : decide ((l.length : Int) > 0)
  · refine gq2 h ?_
    refine zog hT hn hl0 hb ?_
    refine gq2 h ?_
    refine zbD hl ?_
    exact hK
  · refine gq2 h ?_
    refine zbD hl ?_
    exact hK


theorem wki (k : Nat) (h : k ≤ 1073741824) : IntKind.i64.wrap ((k : Int) + 1) = ((k + 1 : Nat) : Int) := by rw [zbJ (by omega) (by omega)]; rfl
end Go.Proofs.Ythpnelbciibjeaa
