/- Contracts: a ledger signs; a table's clone; whether both were made. -/
import Derived.Test.YtdgcepphjnoalaaGreatId2
set_option linter.all false
set_option maxRecDepth 100000
set_option linter.unusedSimpArgs false
set_option linter.unusedVariables false
namespace Go.Proofs.YtdgcepphjnoalaaGreat
open Go.AW

def signA (s : zS) : AV := .agg [.d (.int .i64 s.key), .d (.int .i64 s.dig)]
def signR (k d : Int) : zS := if ziT k d = 0 then ⟨k, d⟩ else ⟨0, 0⟩
def zje (g : List zS) (k d : Int) : List zS := if ziT k d = 0 then signL g ⟨k, d⟩ else g
theorem c_gSign {σ : List zc} {id m t : Nat} {g : List zS} {k d : Int} (hG : zdp σ id m t g) (hgl : g.length ≤ 1073741824) {K : AV → List zc → Prop}
    (hK : K (.tup [signA (signR k d), .d (.int .i64 (ziT k d))]) (putLed σ id m t (zje g k d))) : zl Tryz.prog zcv [.box id 0, .d (.int .i64 k), .d (.int .i64 d)] σ K := by
  refine acE3 zkO fun hl => ?_
  have hb : ∀ τ, (σ ++ τ)[id]? = some (.box [.own t (ledE g), .map m]) := fun τ => zy hG.box
  have hm : ∀ τ, (σ ++ τ)[m]? = some (.map (zpV g)) := fun τ => zy hG.map
  obtain ⟨n1, n2, n3⟩ := hG.ne
  have hlen : (ledE g).length = g.length := List.length_map ..
  have bad : ziT k d ≠ 0 → K (.tup [.agg [.d (.int .i64 0), .d (.int .i64 0)], .d (.int .i64 (ziT k d))]) σ := fun h => by
    rw [signR, zje, if_neg h, if_neg h, hG.self] at hK
    exact hK
  simp only [zgR, iN, bT, bF, eN]
  refine gq28 ?_
  refine zoM (hG.app _) ?_
  cases h1 : decide (k < 0)
  · cases h2 : decide (k ≥ 21)
    · have hk : ¬ (k < 0 ∨ k ≥ 21) := by simp at h1 h2; omega
      cases h3 : decide (d < 1)
      · have he : ziT k d = 0 := by rw [ziT, if_neg hk, if_neg (by simpa using h3)]
        rw [he, signR, zje, if_pos he, if_pos he] at hK
        by_cases hs : (⟨k, d⟩ : zS) ∈ g
        · obtain ⟨j, hf⟩ := zlq hs
          simp only at hf
          rw [signL, if_pos hs, hG.self] at hK
          refine gq31 (zeL h1 (zeL h2 (zeL h3 (zeL hb (zeL hm hf))))) ?_
          refine zap hl ?_
          exact hK
        · have hf := zmW hs
          simp only at hf
          rw [signL, if_neg hs] at hK
          have hmm : σ[m]? = some (.map (zpV g)) := hG.map
          have s1 : ∀ X τ, (σ ++ τ).set m X = σ.set m X ++ τ := fun X τ => zig hG.map
          have hb' : ∀ X, (σ.set m X)[id]? = some (.box [.own t (ledE g), .map m]) := fun X => by rw [List.getElem?_set_ne (Ne.symm n1)]; exact hG.box
          have ht' : ∀ X, (σ.set m X)[t]? = some (.tok 2 g.length) := fun X => by rw [List.getElem?_set_ne n3]; exact hG.tok
          have g3 : ∀ X τ, (σ.set m X ++ τ)[id]? = some (.box [.own t (ledE g), .map m]) := fun X τ => zy (hb' X)
          have g4 : ∀ X τ, (σ.set m X ++ τ)[t]? = some (.tok 2 g.length) := fun X τ => zy (ht' X)
          have s2 : ∀ X Y τ, (σ.set m X ++ τ).set t Y = (σ.set m X).set t Y ++ τ := fun X Y τ => zig (ht' X)
          have hb2 : ∀ X Y, ((σ.set m X).set t Y)[id]? = some (.box [.own t (ledE g), .map m]) := fun X Y => by rw [List.getElem?_set_ne (Ne.symm n2)]; exact hb' X
          have s3 : ∀ X Y Z τ, ((σ.set m X).set t Y ++ τ).set id Z = ((σ.set m X).set t Y).set id Z ++ τ := fun X Y Z τ => zig (hb2 X Y)
          have g5 : ∀ X Y τ, ((σ.set m X).set t Y ++ τ)[id]? = some (.box [.own t (ledE g), .map m]) := fun X Y τ => zy (hb2 X Y)
          have L1 : ∀ X : zc, σ.length = (σ.set m X).length := fun X => by simp
          have L2 : ∀ X Y : zc, σ.length = ((σ.set m X).set t Y).length := fun X Y => by simp
          have L3 : ∀ X Y Z : zc, σ.length = (((σ.set m X).set t Y).set id Z).length := fun X Y Z => by simp
          have e1 : ∀ X τ n, (σ.set m X ++ τ)[σ.length + n]? = τ[n]? := fun X τ n => by rw [L1 X]; exact zw ..
          have e2 : ∀ X Y Z τ n, (((σ.set m X).set t Y).set id Z ++ τ)[σ.length + n]? = τ[n]? := fun X Y Z τ n => by rw [L3 X Y Z]; exact zw ..
          have e3 : ∀ X Y Z τ W, (((σ.set m X).set t Y).set id Z ++ τ).set σ.length W = ((σ.set m X).set t Y).set id Z ++ τ.set 0 W := fun X Y Z τ W => by rw [L3 X Y Z]; exact zG ..
          have e4 : ∀ X Y Z τ, (((σ.set m X).set t Y).set id Z ++ τ)[σ.length]? = τ[0]? := fun X Y Z τ => by rw [L3 X Y Z]; exact zu ..
          refine gq31 (zeL h1 (zeL h2 (zeL h3 (zeL hb (zeL hm (zeL hf (zeL s1 (zeL g3 (zeL g4 (zeL s2 (zeL s3 (zeL g5 (zeL e1 (zeL e2 (zeL e3 (zeL e4 hlen)))))))))))))))) ?_
          have e : putLed σ id m t (g ++ [⟨k, d⟩]) = (((σ.set m (zc.map (zpV g ++ [(AV.agg [AV.d (D.int IntKind.i64 k), AV.d (D.int IntKind.i64 d)], AV.d (D.bool true))]))).set t (zc.tok 2 (g.length + 1))).set id (zc.box [AV.own t (ledE g ++ [[D.int IntKind.i64 k, D.int IntKind.i64 d]]), AV.map m])) := by
            rw [ledM_add g ⟨k, d⟩]
            simp [putLed, ledE, ziU]
          rw [← e]
          exact zhc (zpG ..) (by simp [zhZ, dmT, dm, dm1, zdg, zda, zhz]) (hG.lows hl _) hK
      · have he : ziT k d = 1 := by rw [ziT, if_neg hk, if_pos (by simpa using h3)]
        have := bad (by rw [he]; decide)
        rw [he] at this
        refine zns (zeL h1 (zeL h2 h3)) ?_
        refine zap hl ?_
        exact this
    · have he : ziT k d = 20 := by rw [ziT, if_pos (by simp at h2; omega)]
      have := bad (by rw [he]; decide)
      rw [he] at this
      refine zns (zeL h1 h2) ?_
      refine zap hl ?_
      exact this
  · have he : ziT k d = 20 := by rw [ziT, if_pos (by simp at h1; omega)]
    have := bad (by rw [he]; decide)
    rw [he] at this
    refine zns h1 ?_
    refine zap hl ?_
    exact this
theorem gq32 {P Q : Prop} (h : Q) (e : Hd Q → P := by intro h; (repeat' first | simp -dsimp only [↓zgn, ↓zaG, ↓zca, ↓zgo, ↓zgh, ↓zgf, ↓zgi, ↓zgg, ↓zcf, ↓zcb, ↓zcg, ↓zcc, ↓zgj, ↓zbW, ↓zch, ↓zcd, ↓zci, ↓zce, ↓zge, ↓zgl, ↓zbV, ↓zck, ↓zgb, ↓zga, ↓zgd, iN, bT, bF, eN, ↓zds, ↓unC, ↓zX, ↓zJ, ↓zK, ↓zM, ↓zal, ↓zaV, ↓zdU, ↓zay, ↓zbD, ↓zR, ↓zi, ↓zg, ↓zbr, ↓zd, ↓zan, ↓zO, ↓zbf, ↓zbg, ↓zf, ↓zB, ↓zn, ↓zD, ↓zZ, ↓zeb, ↓zes, ↓zaq, ↓zaC, ↓zbe, ↓zbl, ↓zbG, ↓zp, ↓zao, ↓zL, ↓zr, ↓zaj, zen, zbP, zbL, unA, zdF, bnd, zeV, zaf, zac, zeF, dm, dm1, zQ, zaz, zfy, zfx, zI, Q0, Q1, Q2, Q3, Q4, Q5, zam, zw, zu, zN, zG, Q6, Q7, Q8, Q9, Q10, Q11, Q12, Q13, Q14, Nat.reduceAdd, Q15, Int.reduceToNat, Q16, Q17, Q18, Q19, Q20, reduceIte, Q21, Q22, zC, rep, zV, zfi, toD, zad, Q23, Q24, Q25, Q26, Q27, Q28, Nat.reduceLeDiff, Q29, Nat.reduceSub, Q30, Q31, Q32, sc, Q33, Q34, Q35, Q36, Q37, Q26, Q38, Q39, zmU, zmR, zmO, zmV, zfD, zmS, zmP, zmT, zmQ, zfC, zfE, zmY, zmZ, Bool.not_true, Bool.not_false, List.length_map, Bool.and_false, Bool.and_self, Bool.false_and, Bool.not_false, Bool.not_true, Bool.true_and, Int.toNat_natCast, Int.toNat_zero, List.drop_zero, List.length_map, List.length_nil, List.nil_append, List.take_length, Nat.sub_zero, Nat.zero_add, Option.isSome_none, Option.isSome_some, Option.map_none, Option.map_some, zaJ, beq_self_eq_true, bne_self_eq_false] | with_reducible refine zni ?_ | fail); exact h.go) : P := e ⟨h⟩
theorem c_From {σ : List zc} {l : List (List UInt8)} (hn : l.Nodup) (hl0 : l.length ≤ 1048576) (hb : ∀ b ∈ l, b.length ≤ 1073741824) {K : AV → List zc → Prop}
    (hK : K (.tup [.box (σ.length + 1) 0, .d (.int .i64 0)]) (σ ++ tabO σ.length l)) : zl Tryz.prog zjo [.d (.slice (tabE l))] σ K := by
  refine zbN znf.is rfl (fun s => List.range' σ.length 3) fun hl _ => znf.goes ?_
  have hlen : (tabE l).length = l.length := List.length_map ..
  have hd : decide ((l.length : Int) > 1048576) = false := by simp; omega
  simp only [znk, iN, bT, bF, eN]
  refine zns (zeL hlen hd) ?_
  refine zmA ?_
  refine gq28 ?_
  refine zae l.length (fun k vs s => vs = [.d (.int .i64 k)] ∧ s = σ ++ tabO σ.length (l.take k)) ⟨rfl, rfl⟩ ?_
  rintro k vs s hk ⟨rfl, rfl⟩
  by_cases hlt : k < l.length
  · have hd : decide ((k : Int) < (l.length : Int)) = true := by simp; omega
    have hx : l[k]? = some l[k] := by simp [hlt]
    have hgx := zbZ (f := fun b => [D.slice (bcs b)]) hx
    have hxb := hb _ (List.getElem_mem hlt)
    have hnot : l[k] ∉ l.take k := fun hm => by
      obtain ⟨i, hi, he⟩ := List.mem_take_iff_getElem.1 hm
      have := (List.getElem_inj hn).1 he
      omega
    obtain ⟨x, hxe⟩ : ∃ x, l[k] = x := ⟨_, rfl⟩
    rw [hxe] at hx hgx hxb hnot
    have hno := zpS hnot
    have hT : zdT (σ ++ tabO σ.length (l.take k)) (σ.length + 1) σ.length (σ.length + 2) (l.take k) := by simpa using tabAt_new σ (l.take k) []
    have hP : ∀ l', putTab (σ ++ tabO σ.length (l.take k)) (σ.length + 1) σ.length (σ.length + 2) l' = σ ++ tabO σ.length l' := fun l' => by simpa using putTab_new σ (l.take k) l' []
    refine zns (zeL hlen (zeL hd hgx)) ?_
    refine c_tLook hT ?_
    rw [hno]
    refine gq32 ?_
    refine c_tSum hT hxb (by rw [List.length_take]; omega) ?_
    rw [hP]
    have e : zgt (l.take k) x = l.take (k + 1) := by
      have h1 : (l.take k).length = k := by rw [List.length_take]; omega
      rw [zgt, hno]
      simp only [h1]
      rw [if_neg (by omega), List.take_add_one, hx]; rfl
    rw [e]
    have hw : IntKind.i64.wrap ((k : Int) + 1) = ((k + 1 : Nat) : Int) := by rw [zdf (by omega) (by omega)]; rfl
    refine zns hw ?_
    exact zdE.next hlt ⟨rfl, rfl⟩
  · have hd : decide ((k : Int) < (l.length : Int)) = false := by simp; omega
    rw [List.take_of_length_le (by omega)]
    refine zns (zeL hlen hd) ?_
    refine zcL (σ' := σ) (os := tabO σ.length l) rfl rfl hl (low_tabO _ _) ?_ hK
    exact .tup _ (by simp [zhZ]; exact .box _ _ (by simp))
theorem znI {σ : List zc} {id m t : Nat} {l : List (List UInt8)} (hT : zdT σ id m t l) (hn : l.Nodup) (hl0 : l.length ≤ 1048576) (hb : ∀ b ∈ l, b.length ≤ 1073741824) {K : AV → List zc → Prop}
    (hK : K (.box (σ.length + 1) 0) (σ ++ tabO σ.length l)) : zl Tryz.prog zbA [.box id 0] σ K := by
  refine zbN zey.is rfl (fun s => List.range' σ.length 3) fun hl _ => zey.goes ?_
  have hbx := hT.box
  simp only [zez, iN, bT, bF, eN]
  refine gq28 ?_
  refine zre hT ?_
  refine zns hbx ?_
  refine c_From hn hl0 hb ?_
  refine gq28 ?_
  exact zcL (σ' := σ) (os := tabO σ.length l) rfl rfl hl (low_tabO _ _) (.box _ _ (by simp)) hK
theorem c_known {σ : List zc} {id m t : Nat} {l : List (List UInt8)} (hT : zdT σ id m t l) (hn : l.Nodup) (hl0 : l.length ≤ 1048576) (hb : ∀ b ∈ l, b.length ≤ 1073741824) {K : AV → List zc → Prop}
    (hK : K (.d (.bool true)) σ) : zl Tryz.prog zgz [.box id 0] σ K := by
  refine zfT zow fun hl => ?_
  simp only [zjz, iN, bT, bF, eN]
  refine gq28 ?_
  refine c_tLen hT ?_
  cases h : decide ((l.length : Int) > 0)
  · refine zns h ?_
    refine znI hT hn hl0 hb ?_
    refine zns h ?_
    refine zap hl ?_
    exact hK
  · refine zns h ?_
    refine zap hl ?_
    exact hK
theorem gq33 {A P Q : Prop} (a : A) (h : Q) (e : A → Hd Q → P := by intro a h; (repeat' first | simp -dsimp only [↓zgn, ↓zaG, ↓zca, ↓zgo, ↓zgh, ↓zgf, ↓zgi, ↓zgg, ↓zcf, ↓zcb, ↓zcg, ↓zcc, ↓zgj, ↓zbW, ↓zch, ↓zcd, ↓zci, ↓zce, ↓zge, ↓zgl, ↓zbV, ↓zck, ↓zgb, ↓zga, ↓zgd, iN, bT, bF, eN, ↓zds, ↓unC, ↓zX, ↓zJ, ↓zK, ↓zM, ↓zal, ↓zaV, ↓zdU, ↓zay, ↓zbD, ↓zR, ↓zi, ↓zg, ↓zbr, ↓zd, ↓zan, ↓zO, ↓zbf, ↓zbg, ↓zf, ↓zB, ↓zn, ↓zD, ↓zZ, ↓zeb, ↓zes, ↓zaq, ↓zaC, ↓zbe, ↓zbl, ↓zbG, ↓zp, ↓zao, ↓zL, ↓zr, ↓zaj, zen, zbP, zbL, unA, zdF, bnd, zeV, zaf, zac, zeF, dm, dm1, zQ, zaz, zfy, zfx, zI, Q0, Q1, Q2, Q3, Q4, Q5, zam, zw, zu, zN, zG, Q6, Q7, Q8, Q9, Q10, Q11, Q12, Q13, Q14, Nat.reduceAdd, Q15, Int.reduceToNat, Q16, Q17, Q18, Q19, Q20, reduceIte, Q21, Q22, zC, rep, zV, zfi, toD, zad, Q23, Q24, Q25, Q26, Q27, Q28, Nat.reduceLeDiff, Q29, Nat.reduceSub, Q30, Q31, Q32, sc, Q33, Q34, Q35, Q36, Q37, Q26, Q38, Q39, zmU, zmR, zmO, zmV, zfD, zmS, zmP, zmT, zmQ, zfC, zfE, zmY, zmZ, Bool.not_true, Bool.not_false, List.length_map, ledE, zbQ, a] | with_reducible refine zni ?_ | fail); exact h.go) : P := e a ⟨h⟩
theorem c_gClone0 {σ : List zc} {id m t : Nat} (hG : zdp σ id m t []) {K : AV → List zc → Prop} (hK : K (.box (σ.length + 1) 0) (σ ++ ledO σ.length [])) : zl Tryz.prog zaU [.box id 0] σ K := by
  refine zbN zbT.is rfl (fun s => List.range' σ.length 3) fun hl _ => zbT.goes ?_
  have hbx : ∀ τ, (σ ++ τ)[id]? = _ := fun τ => zy hG.box
  simp only [zcV, iN, bT, bF, eN]
  refine gq28 ?_
  refine zoM hG ?_
  refine zns hbx ?_
  refine ziA ?_
  refine zns hbx ?_
  refine zae 0 (fun k vs s => vs = [.d (.int .i64 0)] ∧ s = σ ++ ledO σ.length []) ⟨rfl, rfl⟩ ?_
  rintro k vs s hk ⟨rfl, rfl⟩
  have hd : decide ((0 : Int) < ((0 : Nat) : Int)) = false := rfl
  refine gq33 hd ?_
  exact zcL (σ' := σ) (os := ledO σ.length []) rfl rfl hl (low_ledO _ _) (.box _ _ (by simp)) hK
theorem c_made {σ : List zc} {id m t id2 m2 t2 : Nat} {l : List (List UInt8)} {g : List zS} (hT : zdT σ id m t l) (hG : zdp σ id2 m2 t2 g) (hn : l.Nodup) (hl0 : l.length ≤ 1048576) (hb : ∀ b ∈ l, b.length ≤ 1073741824) {K : AV → List zc → Prop}
    (hK : K (.d (.bool true)) σ) : zl Tryz.prog zhq [.box id 0, .box id2 0] σ K := by
  refine zjc zpm fun hl => ?_
  simp only [zkl, iN, bT, bF, eN]
  refine gq28 ?_
  refine c_known hT hn hl0 hb ?_
  refine gq28 ?_
  refine c_gLen hG ?_
  cases h : decide ((g.length : Int) > 0)
  · have hg : g = [] := by simpa using h
    subst hg
    refine zns h ?_
    refine c_gClone0 hG ?_
    refine zns h ?_
    refine zap hl ?_
    exact hK
  · refine zns h ?_
    refine zap hl ?_
    exact hK
end Go.Proofs.YtdgcepphjnoalaaGreat
