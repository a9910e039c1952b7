/- Contracts: a ledger signs; a table's clone; whether both were made. -/
import Derived.Test.YtpgahkdjkanblaaGreatId2
set_option linter.all false
set_option maxRecDepth 100000
set_option linter.unusedSimpArgs false
set_option linter.unusedVariables false
namespace Go.Proofs.YtpgahkdjkanblaaGreat
open Go.AW

def signA (s : zP) : AV := .agg [.d (.int .i64 s.key), .d (.int .i64 s.dig)]
def signR (k d : Int) : zP := if zia k d = 0 then ⟨k, d⟩ else ⟨0, 0⟩
def znq (g : List zP) (k d : Int) : List zP := if zia k d = 0 then signL g ⟨k, d⟩ else g
theorem c_gSign {σ : List zf} {id m t : Nat} {g : List zP} {k d : Int} (hG : zee σ id m t g) (hgl : g.length ≤ 1073741824) {K : KT}
    (hK : K (.tup [signA (signR k d), .d (.int .i64 (zia k d))]) (putLed σ id m t (znq g k d))) : zm Tryz.prog zdO [.box id 0, .d (.int .i64 k), .d (.int .i64 d)] σ K := by
  refine zc ziK.is rfl fun hl _ => ziK.goes ?_
  have hb : ∀ τ, (σ ++ τ)[id]? = some (.box [.own t (zrE g), .map m]) := fun τ => zx hG.box
  have hm : ∀ τ, (σ ++ τ)[m]? = some (.map (ledM g)) := fun τ => zx hG.map
  obtain ⟨n1, n2, n3⟩ := hG.ne
  have hlen : (zrE g).length = g.length := List.length_map ..
  have bad : zia k d ≠ 0 → K (.tup [.agg [.d (.int .i64 0), .d (.int .i64 0)], .d (.int .i64 (zia k d))]) σ := fun h => by
    rw [signR, znq, if_neg h, if_neg h, hG.self] at hK
    exact hK
  simp only [ziY, iN, bT, bF, eN]
  refine zwa ?_
  refine zws (hG.app _) ?_
  cases h1 : decide (k < 0)
  · cases h2 : decide (k ≥ 21)
    · have hk : ¬ (k < 0 ∨ k ≥ 21) := by simp at h1 h2; omega
      cases h3 : decide (d < 1)
      · have he : zia k d = 0 := by rw [zia, if_neg hk, if_neg (by simpa using h3)]
        rw [he, signR, znq, if_pos he, if_pos he] at hK
        by_cases hs : (⟨k, d⟩ : zP) ∈ g
        · obtain ⟨j, hf⟩ := zoT hs
          simp only at hf
          rw [signL, if_pos hs, hG.self] at hK
          refine gq65 (zcc h1 (zcc h2 (zcc h3 (zcc hb (zcc hm hf))))) ?_
          refine zq hl ?_
          exact hK
        · have hf := zrb hs
          simp only at hf
          rw [signL, if_neg hs] at hK
          have hmm : σ[m]? = some (.map (ledM g)) := hG.map
          have s1 : ∀ X τ, (σ ++ τ).set m X = σ.set m X ++ τ := fun X τ => zfi hG.map
          have hb' : ∀ X, (σ.set m X)[id]? = some (.box [.own t (zrE g), .map m]) := fun X => by rw [List.getElem?_set_ne (Ne.symm n1)]; exact hG.box
          have ht' : ∀ X, (σ.set m X)[t]? = some (.tok 2 g.length) := fun X => by rw [List.getElem?_set_ne n3]; exact hG.tok
          have g3 : ∀ X τ, (σ.set m X ++ τ)[id]? = some (.box [.own t (zrE g), .map m]) := fun X τ => zx (hb' X)
          have g4 : ∀ X τ, (σ.set m X ++ τ)[t]? = some (.tok 2 g.length) := fun X τ => zx (ht' X)
          have s2 : ∀ X Y τ, (σ.set m X ++ τ).set t Y = (σ.set m X).set t Y ++ τ := fun X Y τ => zfi (ht' X)
          have hb2 : ∀ X Y, ((σ.set m X).set t Y)[id]? = some (.box [.own t (zrE g), .map m]) := fun X Y => by rw [List.getElem?_set_ne (Ne.symm n2)]; exact hb' X
          have s3 : ∀ X Y Z τ, ((σ.set m X).set t Y ++ τ).set id Z = ((σ.set m X).set t Y).set id Z ++ τ := fun X Y Z τ => zfi (hb2 X Y)
          have g5 : ∀ X Y τ, ((σ.set m X).set t Y ++ τ)[id]? = some (.box [.own t (zrE g), .map m]) := fun X Y τ => zx (hb2 X Y)
          have L1 : ∀ X : zf, σ.length = (σ.set m X).length := fun X => by simp
          have L2 : ∀ X Y : zf, σ.length = ((σ.set m X).set t Y).length := fun X Y => by simp
          have L3 : ∀ X Y Z : zf, σ.length = (((σ.set m X).set t Y).set id Z).length := fun X Y Z => by simp
          have e1 : ∀ X τ n, (σ.set m X ++ τ)[σ.length + n]? = τ[n]? := fun X τ n => by rw [L1 X]; exact zC ..
          have e2 : ∀ X Y Z τ n, (((σ.set m X).set t Y).set id Z ++ τ)[σ.length + n]? = τ[n]? := fun X Y Z τ n => by rw [L3 X Y Z]; exact zC ..
          have e3 : ∀ X Y Z τ W, (((σ.set m X).set t Y).set id Z ++ τ).set σ.length W = ((σ.set m X).set t Y).set id Z ++ τ.set 0 W := fun X Y Z τ W => by rw [L3 X Y Z]; exact zE ..
          have e4 : ∀ X Y Z τ, (((σ.set m X).set t Y).set id Z ++ τ)[σ.length]? = τ[0]? := fun X Y Z τ => by rw [L3 X Y Z]; exact zt ..
          refine gq65 (zcc h1 (zcc h2 (zcc h3 (zcc hb (zcc hm (zcc hf (zcc s1 (zcc g3 (zcc g4 (zcc s2 (zcc s3 (zcc g5 (zcc e1 (zcc e2 (zcc e3 (zcc e4 hlen)))))))))))))))) ?_
          have e : putLed σ id m t (g ++ [⟨k, d⟩]) = (((σ.set m (zf.map (ledM g ++ [(AV.agg [AV.d (D.int IntKind.i64 k), AV.d (D.int IntKind.i64 d)], AV.d (D.bool true))]))).set t (zf.tok 2 (g.length + 1))).set id (zf.box [AV.own t (zrE g ++ [[D.int IntKind.i64 k, D.int IntKind.i64 d]]), AV.map m])) := by
            rw [ledM_add g ⟨k, d⟩]
            simp [putLed, zrE, zeS]
          rw [← e]
          exact ends_all (zur ..) (by simp [ztP, dmT, dm, dm1, zdF, zcV, ztQ]) (hG.lows hl _) hK
      · have he : zia k d = 1 := by rw [zia, if_neg hk, if_pos (by simpa using h3)]
        have := bad (by rw [he]; decide)
        rw [he] at this
        refine ziy (zcc h1 (zcc h2 h3)) ?_
        refine zq hl ?_
        exact this
    · have he : zia k d = 20 := by rw [zia, if_pos (by simp at h2; omega)]
      have := bad (by rw [he]; decide)
      rw [he] at this
      refine ziy (zcc h1 h2) ?_
      refine zq hl ?_
      exact this
  · have he : zia k d = 20 := by rw [zia, if_pos (by simp at h1; omega)]
    have := bad (by rw [he]; decide)
    rw [he] at this
    refine ziy h1 ?_
    refine zq hl ?_
    exact this
theorem gq67 {P Q : Prop} (h : Q) (e : Hd Q → P := by intro h; (repeat' first | simp -dsimp only [↓zey, ↓zay, ↓zbs, ↓zez, ↓zeu, ↓zes, ↓zev, ↓zet, ↓zbx, ↓zbt, ↓zby, ↓zbu, ↓zew, ↓zbr, ↓zbz, ↓zbv, ↓zbA, ↓zbw, ↓zer, ↓zex, ↓zbp, ↓zbB, ↓zep, ↓zeo, ↓zeq, iN, bT, bF, eN, ↓zcv, ↓unC, ↓zU, ↓zI, ↓zJ, ↓zM, ↓zX, ↓zal, ↓zcX, ↓zai, ↓zaJ, ↓zW, ↓zg, ↓zn, ↓zbP, ↓zb, ↓zaf, ↓zD, ↓zaI, ↓zaQ, ↓zd, ↓zF, ↓zj, ↓zG, ↓zam, ↓zdc, ↓zdj, ↓zak, ↓zau, ↓zaL, ↓zaY, ↓zbh, ↓zo, ↓zaj, ↓zK, ↓zr, ↓zV, zdk, zbn, zbk, unA, zdu, bnd, zdG, zae, zO, zdW, dm, dm1, zR, zaF, zea, zdZ, zw, Q0, Q1, Q2, Q3, Q4, Q5, zY, zC, zt, zN, zE, Q6, Q7, Q8, Q9, Q10, Q11, Q12, Q13, Q14, Nat.reduceAdd, Q15, Int.reduceToNat, Q16, Q17, Q18, Q19, Q20, reduceIte, Q21, Q22, zA, rep, zZ, zeB, toD, zap, Q23, Q24, Q25, Q26, Q27, Q28, Nat.reduceLeDiff, Q29, Nat.reduceSub, Q30, Q31, Q32, sc, Q33, Q34, Q35, Q36, Q37, Q26, Q38, Q39, zpZ, zpW, zpT, zqa, zgd, zpX, zpU, zpY, zpV, zgc, zge, zqb, zqc, Bool.not_true, Bool.not_false, List.length_map, Bool.and_false, Bool.and_self, Bool.false_and, Bool.true_and, Option.isSome_none, Option.isSome_some, Option.map_none, Option.map_some, beq_self_eq_true, bne_self_eq_false] | with_reducible refine zqd ?_ | fail); exact h.go) : P := e ⟨h⟩
theorem c_From {σ : List zf} {l : List (List UInt8)} (hn : l.Nodup) (hl0 : l.length ≤ 1048576) (hb : ∀ b ∈ l, b.length ≤ 1073741824) {K : KT}
    (hK : K (.tup [.box (σ.length + 1) 0, .d (.int .i64 0)]) (σ ++ zrV σ.length l)) : zm Tryz.prog zhf [.d (.slice (ziZ l))] σ K := by
  refine zcl zjw.is rfl (fun s => List.range' σ.length 3) fun hl _ => zjw.goes ?_
  have hlen : (ziZ l).length = l.length := List.length_map ..
  have hd : decide ((l.length : Int) > 1048576) = false := by simp; omega
  simp only [zmX, iN, bT, bF, eN]
  refine ziy (zcc hlen hd) ?_
  refine zvk ?_
  refine zwa ?_
  refine zl l.length (fun k vs s => vs = [.d (.int .i64 k)] ∧ s = σ ++ zrV σ.length (l.take k)) ⟨rfl, rfl⟩ ?_
  rintro k vs s hk ⟨rfl, rfl⟩
  by_cases hlt : k < l.length
  · have hd : decide ((k : Int) < (l.length : Int)) = true := by simp; omega
    have hx : l[k]? = some l[k] := by simp [hlt]
    have hgx := zQ (f := fun b => [D.slice (bcs b)]) hx
    have hxb := hb _ (List.getElem_mem hlt)
    have hnot : l[k] ∉ l.take k := fun hm => by
      obtain ⟨i, hi, he⟩ := List.mem_take_iff_getElem.1 hm
      have := (List.getElem_inj hn).1 he
      omega
    obtain ⟨x, hxe⟩ : ∃ x, l[k] = x := ⟨_, rfl⟩
    rw [hxe] at hx hgx hxb hnot
    have hno := zqD hnot
    have hT : zed (σ ++ zrV σ.length (l.take k)) (σ.length + 1) σ.length (σ.length + 2) (l.take k) := by simpa using tabAt_new σ (l.take k) []
    have hP : ∀ l', putTab (σ ++ zrV σ.length (l.take k)) (σ.length + 1) σ.length (σ.length + 2) l' = σ ++ zrV σ.length l' := fun l' => by simpa using zuq σ (l.take k) l' []
    refine ziy (zcc hlen (zcc hd hgx)) ?_
    refine ztd hT ?_
    rw [hno]
    refine gq67 ?_
    refine c_tSum hT hxb (by rw [List.length_take]; omega) ?_
    rw [hP]
    have e : sumL (l.take k) x = l.take (k + 1) := by
      have h1 : (l.take k).length = k := by rw [List.length_take]; omega
      rw [sumL, hno]
      simp only [h1]
      rw [if_neg (by omega), List.take_add_one, hx]; rfl
    rw [e]
    have hw : IntKind.i64.wrap ((k : Int) + 1) = ((k + 1 : Nat) : Int) := by rw [zat (by omega) (by omega)]; rfl
    refine ziy hw ?_
    exact zaG.next hlt ⟨rfl, rfl⟩
  · have hd : decide ((k : Int) < (l.length : Int)) = false := by simp; omega
    rw [List.take_of_length_le (by omega)]
    refine ziy (zcc hlen hd) ?_
    refine zfW (σ' := σ) (os := zrV σ.length l) rfl rfl hl (low_tabO _ _) ?_ hK
    exact .tup _ (by simp [ztP]; exact .box _ _ (by simp))
theorem zwh {σ : List zf} {id m t : Nat} {l : List (List UInt8)} (hT : zed σ id m t l) (hn : l.Nodup) (hl0 : l.length ≤ 1048576) (hb : ∀ b ∈ l, b.length ≤ 1073741824) {K : KT}
    (hK : K (.box (σ.length + 1) 0) (σ ++ zrV σ.length l)) : zm Tryz.prog zcT [.box id 0] σ K := by
  refine zcl ziI.is rfl (fun s => List.range' σ.length 3) fun hl _ => ziI.goes ?_
  have hbx := hT.box
  simp only [ziW, iN, bT, bF, eN]
  refine zwa ?_
  refine zwg hT ?_
  refine ziy hbx ?_
  refine c_From hn hl0 hb ?_
  refine zwa ?_
  exact zfW (σ' := σ) (os := zrV σ.length l) rfl rfl hl (low_tabO _ _) (.box _ _ (by simp)) hK
end Go.Proofs.YtpgahkdjkanblaaGreat

/- Contracts: the document's tables and ledgers. -/
set_option maxRecDepth 100000
set_option linter.unusedSimpArgs false
set_option linter.unusedVariables false
namespace Go.Proofs.YtpgahkdjkanblaaGreat
open Go.AW

def rtO (l : List (List UInt8)) : zf := .box [.d (.slice (ziZ l))]
def rlO (g : List zP) : zf := .box [.d (.slice (zrE g))]
theorem rtO_low (n : Nat) (l : List (List UInt8)) : ztT n (rtO l) := by
  intro c hc
  simp only [List.mem_cons, List.not_mem_nil, or_false] at hc
  subst hc; exact .d _
theorem rlO_low (n : Nat) (g : List zP) : ztT n (rlO g) := by
  intro c hc
  simp only [List.mem_cons, List.not_mem_nil, or_false] at hc
  subst hc; exact .d _
theorem wki (k : Nat) (h : k ≤ 1073741824) : IntKind.i64.wrap ((k : Int) + 1) = ((k + 1 : Nat) : Int) := by rw [zat (by omega) (by omega)]; rfl
theorem gq68 {P Q : Prop} (h : Q) (e : Hd Q → P := by intro h; (repeat' first | simp -dsimp only [↓zey, ↓zay, ↓zbs, ↓zez, ↓zeu, ↓zes, ↓zev, ↓zet, ↓zbx, ↓zbt, ↓zby, ↓zbu, ↓zew, ↓zbr, ↓zbz, ↓zbv, ↓zbA, ↓zbw, ↓zer, ↓zex, ↓zbp, ↓zbB, ↓zep, ↓zeo, ↓zeq, iN, bT, bF, eN, ↓zcv, ↓unC, ↓zU, ↓zI, ↓zJ, ↓zM, ↓zX, ↓zal, ↓zcX, ↓zai, ↓zaJ, ↓zW, ↓zg, ↓zn, ↓zbP, ↓zb, ↓zaf, ↓zD, ↓zaI, ↓zaQ, ↓zd, ↓zF, ↓zj, ↓zG, ↓zam, ↓zdc, ↓zdj, ↓zak, ↓zau, ↓zaL, ↓zaY, ↓zbh, ↓zo, ↓zaj, ↓zK, ↓zr, ↓zV, zdk, zbn, zbk, unA, zdu, bnd, zdG, zae, zO, zdW, dm, dm1, zR, zaF, zea, zdZ, zw, Q0, Q1, Q2, Q3, Q4, Q5, zY, zC, zt, zN, zE, Q6, Q7, Q8, Q9, Q10, Q11, Q12, Q13, Q14, Nat.reduceAdd, Q15, Int.reduceToNat, Q16, Q17, Q18, Q19, Q20, reduceIte, Q21, Q22, zA, rep, zZ, zeB, toD, zap, Q23, Q24, Q25, Q26, Q27, Q28, Nat.reduceLeDiff, Q29, Nat.reduceSub, Q30, Q31, Q32, sc, Q33, Q34, Q35, Q36, Q37, Q26, Q38, Q39, zpZ, zpW, zpT, zqa, zgd, zpX, zpU, zpY, zpV, zgc, zge, zqb, zqc, Bool.not_true, Bool.not_false, List.length_map, zfu, zdC, zcU, zeG, zaL, zvY, zaY] | with_reducible refine zqd ?_ | fail); exact h.go) : P := e ⟨h⟩
theorem c_rtSame {σ : List zf} {a b : List UInt8} {K : KT} (hK : K (.d (.bool (a == b))) σ) : zm Tryz.prog zqs [.d (.slice (bcs a)), .d (.slice (bcs b))] σ K := by
  refine zc zuS.is rfl fun hl _ => zuS.goes ?_
  simp only [zvz, iN, bT, bF, eN]
  refine gq68 ?_
  refine zq hl ?_
  exact hK
theorem zwk {σ : List zf} {id : Nat} {l : List (List UInt8)} {b : List UInt8} (hT : σ[id]? = some (rtO l)) (hl0 : l.length ≤ 1048576) {K : KT}
    (hK : K (.tup [.d (.int .i64 (zvT (zen l b))), .d (.bool (zen l b).isSome)]) σ) : zm Tryz.prog zcF [.box id 0, .d (.slice (bcs b))] σ K := by
  refine zc zfn.is rfl fun hl _ => zfn.goes ?_
  have hlen : (ziZ l).length = l.length := List.length_map ..
  have hb : σ[id]? = some (.box [.d (.slice (ziZ l))]) := hT
  simp only [zhD, iN, bT, bF, eN]
  refine zl l.length (fun k vs s => vs = [.d (.int .i64 k)] ∧ s = σ ∧ zen (l.take k) b = none) ⟨rfl, rfl, rfl⟩ ?_
  rintro k vs s hk ⟨rfl, rfl, hno⟩
  by_cases hlt : k < l.length
  · have hd : decide ((k : Int) < (l.length : Int)) = true := by simp; omega
    have hx : l[k]? = some l[k] := by simp [hlt]
    have hgx := zQ (f := fun b => [D.slice (bcs b)]) hx
    obtain ⟨x, hxe⟩ : ∃ x, l[k] = x := ⟨_, rfl⟩
    rw [hxe] at hx hgx
    refine ziy (zcc hlen (zcc hd (zcc hb hgx))) ?_
    refine c_rtSame ?_
    cases he : (x == b)
    · refine ziy (wki k (by omega)) ?_
      exact zaG.next hlt ⟨rfl, rfl, look_next hx hno he⟩
    · rw [look_hit hx hno he] at hK
      refine ziy (wki k (by omega)) ?_
      refine zq hl ?_
      exact hK
  · have hd : decide ((k : Int) < (l.length : Int)) = false := by simp; omega
    rw [List.take_of_length_le (by omega)] at hno
    rw [hno] at hK
    refine ziy (zcc hlen (zcc hd hb)) ?_
    refine zq hl ?_
    exact hK
theorem gq69 {A P Q : Prop} (a : A) (h : Q) (e : A → Hd Q → P := by intro a h; (repeat' first | simp -dsimp only [↓zey, ↓zay, ↓zbs, ↓zez, ↓zeu, ↓zes, ↓zev, ↓zet, ↓zbx, ↓zbt, ↓zby, ↓zbu, ↓zew, ↓zbr, ↓zbz, ↓zbv, ↓zbA, ↓zbw, ↓zer, ↓zex, ↓zbp, ↓zbB, ↓zep, ↓zeo, ↓zeq, iN, bT, bF, eN, ↓zcv, ↓unC, ↓zU, ↓zI, ↓zJ, ↓zM, ↓zX, ↓zal, ↓zcX, ↓zai, ↓zaJ, ↓zW, ↓zg, ↓zn, ↓zbP, ↓zb, ↓zaf, ↓zD, ↓zaI, ↓zaQ, ↓zd, ↓zF, ↓zj, ↓zG, ↓zam, ↓zdc, ↓zdj, ↓zak, ↓zau, ↓zaL, ↓zaY, ↓zbh, ↓zo, ↓zaj, ↓zK, ↓zr, ↓zV, zdk, zbn, zbk, unA, zdu, bnd, zdG, zae, zO, zdW, dm, dm1, zR, zaF, zea, zdZ, zw, Q0, Q1, Q2, Q3, Q4, Q5, zY, zC, zt, zN, zE, Q6, Q7, Q8, Q9, Q10, Q11, Q12, Q13, Q14, Nat.reduceAdd, Q15, Int.reduceToNat, Q16, Q17, Q18, Q19, Q20, reduceIte, Q21, Q22, zA, rep, zZ, zeB, toD, zap, Q23, Q24, Q25, Q26, Q27, Q28, Nat.reduceLeDiff, Q29, Nat.reduceSub, Q30, Q31, Q32, sc, Q33, Q34, Q35, Q36, Q37, Q26, Q38, Q39, zpZ, zpW, zpT, zqa, zgd, zpX, zpU, zpY, zpV, zgc, zge, zqb, zqc, Bool.not_true, Bool.not_false, List.length_map, Bool.and_false, Bool.and_self, Bool.false_and, Bool.true_and, Option.isSome_none, Option.isSome_some, Option.map_none, Option.map_some, beq_self_eq_true, bne_self_eq_false, zbm, zhJ, zcU, opA, zeV, zeS, zaM, a] | with_reducible refine zqd ?_ | fail); exact h.go) : P := e a ⟨h⟩
theorem zqN {σ : List zf} {id : Nat} {g : List zP} {s : zP} (hG : σ[id]? = some (rlO g)) (hg0 : g.length ≤ 1073741824) {K : KT} (hK : K (.d (.bool (decide (s ∈ g)))) σ) :
    zm Tryz.prog zcS [.box id 0, .agg [.d (.int .i64 s.key), .d (.int .i64 s.dig)]] σ K := by
  refine zc ziC.is rfl fun hl _ => ziC.goes ?_
  have hlen : (zrE g).length = g.length := List.length_map ..
  have hb : ∀ τ, (σ ++ τ)[id]? = some (.box [.d (.slice (zrE g))]) := fun τ => zx hG
  simp only [ziQ, iN, bT, bF, eN]
  refine zwa ?_
  refine zl g.length (fun k vs q => vs = [.d (.int .i64 k)] ∧ q = σ ++ [.box [.d (.int .i64 s.key), .d (.int .i64 s.dig)]] ∧ s ∉ g.take k) ⟨rfl, rfl, by simp⟩ ?_
  rintro k vs q hk ⟨rfl, rfl, hno⟩
  by_cases hlt : k < g.length
  · have hd : decide ((k : Int) < (g.length : Int)) = true := by simp; omega
    have hx : g[k]? = some g[k] := by simp [hlt]
    have hgx := zQ (f := zeS) hx
    obtain ⟨x, hxe⟩ : ∃ x, g[k] = x := ⟨_, rfl⟩
    rw [hxe] at hx hgx
    by_cases he : x = s
    · subst he
      rw [decide_eq_true (List.mem_of_getElem? hx)] at hK
      refine gq69 (zcc hlen (zcc hd (zcc hb hgx))) ?_
      refine zq hl ?_
      exact hK
    · have hn2 : s ∉ g.take (k + 1) := by
        rw [List.take_add_one, hx]; simp
        exact ⟨hno, fun h => he h.symm⟩
      have e : x = s ↔ x.key = s.key ∧ x.dig = s.dig := by cases s; cases x; simp
      cases h1 : (x.key == s.key)
      · refine gq69 (zcc hlen (zcc hd (zcc hb (zcc hgx (zcc h1 (wki k (by omega))))))) ?_
        exact zaG.next hlt ⟨rfl, rfl, hn2⟩
      · have h2 : (x.dig == s.dig) = false := by
          have : ¬ x.dig = s.dig := fun h => he (e.2 ⟨by simpa using h1, h⟩)
          simpa using this
        refine gq69 (zcc hlen (zcc hd (zcc hb (zcc hgx (zcc h1 (zcc h2 (wki k (by omega)))))))) ?_
        exact zaG.next hlt ⟨rfl, rfl, hn2⟩
  · have hd : decide ((k : Int) < (g.length : Int)) = false := by simp; omega
    rw [List.take_of_length_le (by omega)] at hno
    rw [decide_eq_false hno] at hK
    refine ziy (zcc hlen (zcc hd hb)) ?_
    refine zq hl ?_
    exact hK
theorem c_rgSign {σ : List zf} {id : Nat} {g : List zP} {k d : Int} (hG : σ[id]? = some (rlO g)) (hgl : g.length ≤ 1073741824) {K : KT}
    (hK : K (.tup [signA (signR k d), .d (.int .i64 (zia k d))]) (σ.set id (rlO (znq g k d)))) : zm Tryz.prog zgK [.box id 0, .d (.int .i64 k), .d (.int .i64 d)] σ K := by
  refine zpB zkk.is rfl fun hl _ => zkk.goes ?_
  have hb : ∀ τ, (σ ++ τ)[id]? = some (.box [.d (.slice (zrE g))]) := fun τ => zx hG
  have hlen : (zrE g).length = g.length := List.length_map ..
  have bad : zia k d ≠ 0 → K (.tup [.agg [.d (.int .i64 0), .d (.int .i64 0)], .d (.int .i64 (zia k d))]) σ := fun h => by
    rw [signR, znq, if_neg h, if_neg h, zeI hG] at hK
    exact hK
  simp only [zkz, iN, bT, bF, eN]
  refine zwa ?_
  cases h1 : decide (k < 0)
  · cases h2 : decide (k ≥ 21)
    · have hk : ¬ (k < 0 ∨ k ≥ 21) := by simp at h1 h2; omega
      cases h3 : decide (d < 1)
      · have he : zia k d = 0 := by rw [zia, if_neg hk, if_neg (by simpa using h3)]
        rw [he, signR, znq, if_pos he, if_pos he] at hK
        refine ziy (zcc h1 (zcc h2 h3)) ?_
        refine zqN (s := ⟨k, d⟩) (zx hG) hgl ?_
        by_cases hs : (⟨k, d⟩ : zP) ∈ g
        · rw [decide_eq_true hs]
          rw [signL, if_pos hs, zeI hG] at hK
          refine ziy hb ?_
          refine zpb ?_
          refine zq hl ?_
          exact hK
        · rw [decide_eq_false hs]
          rw [signL, if_neg hs] at hK
          have s1 : ∀ X τ, (σ ++ τ).set id X = σ.set id X ++ τ := fun X τ => zfi hG
          have L1 : ∀ X : zf, σ.length = (σ.set id X).length := fun X => by simp
          have e1 : ∀ X τ n, (σ.set id X ++ τ)[σ.length + n]? = τ[n]? := fun X τ n => by rw [L1 X]; exact zC ..
          have e3 : ∀ X τ W, (σ.set id X ++ τ).set σ.length W = σ.set id X ++ τ.set 0 W := fun X τ W => by rw [L1 X]; exact zE ..
          have e4 : ∀ X τ, (σ.set id X ++ τ)[σ.length]? = τ[0]? := fun X τ => by rw [L1 X]; exact zt ..
          refine ziy (zcc hb (zcc hlen (zcc s1 (zcc e1 (zcc e3 e4))))) ?_
          have e : zrE g ++ [[D.int .i64 k, D.int .i64 d]] = zrE (g ++ [⟨k, d⟩]) := by simp [zrE, zas, zeS]
          refine ⟨zvS (f := zeS) (fun _ => rfl) g, by simp, by omega, by simp, by omega, ?_⟩
          rw [e]
          exact znl hG (by simp [ztP, dmT, dm, dm1, zdF, zcV, ztQ]) hl hK
      · have he : zia k d = 1 := by rw [zia, if_neg hk, if_pos (by simpa using h3)]
        have := bad (by rw [he]; decide)
        rw [he] at this
        refine ziy (zcc h1 (zcc h2 h3)) ?_
        refine zpb ?_
        refine zq hl ?_
        exact this
    · have he : zia k d = 20 := by rw [zia, if_pos (by simp at h2; omega)]
      have := bad (by rw [he]; decide)
      rw [he] at this
      refine ziy (zcc h1 h2) ?_
      refine zpb ?_
      refine zq hl ?_
      exact this
  · have he : zia k d = 20 := by rw [zia, if_pos (by simp at h1; omega)]
    have := bad (by rw [he]; decide)
    rw [he] at this
    refine ziy h1 ?_
    refine zpb ?_
    refine zq hl ?_
    exact this
end Go.Proofs.YtpgahkdjkanblaaGreat
