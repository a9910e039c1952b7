/- Contracts: a ledger signs; a table's clone; whether both were made. -/
import Derived.Test.YtpgahkdjkanblaaGreatId2
set_option linter.all false
set_option maxRecDepth 100000
set_option linter.unusedSimpArgs false
set_option linter.unusedVariables false
namespace Go.Proofs.YtpgahkdjkanblaaGreat
open Go.AW

def zta (s : zt) : AV := .agg [.d (.int .i64 s.key), .d (.int .i64 s.dig)]
def signR (k d : Int) : zt := if zhE k d = 0 then ⟨k, d⟩ else ⟨0, 0⟩
def zid (g : List zt) (k d : Int) : List zt := if zhE k d = 0 then zsZ g ⟨k, d⟩ else g
theorem c_gSign {σ : List zd} {id m t : Nat} {g : List zt} {k d : Int} (hG : zdu σ id m t g) (hgl : g.length ≤ 1073741824) {K : KT}
    (hK : K (.tup [zta (signR k d), .d (.int .i64 (zhE k d))]) (putLed σ id m t (zid g k d))) : zl Tryz.prog zdq [.box id 0, .d (.int .i64 k), .d (.int .i64 d)] σ K := by
  refine ze zjp.is rfl fun hl _ => zjp.goes ?_
  have hb : ∀ τ, (σ ++ τ)[id]? = some (.box [.own t (zsa g), .map m]) := fun τ => zM hG.box
  have hm : ∀ τ, (σ ++ τ)[m]? = some (.map (ledM g)) := fun τ => zM hG.map
  obtain ⟨n1, n2, n3⟩ := hG.ne
  have hlen : (zsa g).length = g.length := List.length_map ..
  have bad : zhE k d ≠ 0 → K (.tup [.agg [.d (.int .i64 0), .d (.int .i64 0)], .d (.int .i64 (zhE k d))]) σ := fun h => by
    rw [signR, zid, if_neg h, if_neg h, hG.self] at hK
    exact hK
  simp only [zjH, iN, bT, bF, eN]
  refine ztG ?_
  refine zvc (hG.app _) ?_
  cases h1 : decide (k < 0)
  · cases h2 : decide (k ≥ 21)
    · have hk : ¬ (k < 0 ∨ k ≥ 21) := by simp at h1 h2; omega
      cases h3 : decide (d < 1)
      · have he : zhE k d = 0 := by rw [zhE, if_neg hk, if_neg (by simpa using h3)]
        rw [he, signR, zid, if_pos he, if_pos he] at hK
        by_cases hs : (⟨k, d⟩ : zt) ∈ g
        · obtain ⟨j, hf⟩ := zpg hs
          simp only at hf
          rw [zsZ, if_pos hs, hG.self] at hK
          refine gq58 (zcs h1 (zcs h2 (zcs h3 (zcs hb (zcs hm hf))))) ?_
          refine zV hl ?_
          exact hK
        · have hf := zqY hs
          simp only at hf
          rw [zsZ, if_neg hs] at hK
          have hmm : σ[m]? = some (.map (ledM g)) := hG.map
          have s1 : ∀ X τ, (σ ++ τ).set m X = σ.set m X ++ τ := fun X τ => zea hG.map
          have hb' : ∀ X, (σ.set m X)[id]? = some (.box [.own t (zsa g), .map m]) := fun X => by rw [List.getElem?_set_ne (Ne.symm n1)]; exact hG.box
          have ht' : ∀ X, (σ.set m X)[t]? = some (.tok 2 g.length) := fun X => by rw [List.getElem?_set_ne n3]; exact hG.tok
          have g3 : ∀ X τ, (σ.set m X ++ τ)[id]? = some (.box [.own t (zsa g), .map m]) := fun X τ => zM (hb' X)
          have g4 : ∀ X τ, (σ.set m X ++ τ)[t]? = some (.tok 2 g.length) := fun X τ => zM (ht' X)
          have s2 : ∀ X Y τ, (σ.set m X ++ τ).set t Y = (σ.set m X).set t Y ++ τ := fun X Y τ => zea (ht' X)
          have hb2 : ∀ X Y, ((σ.set m X).set t Y)[id]? = some (.box [.own t (zsa g), .map m]) := fun X Y => by rw [List.getElem?_set_ne (Ne.symm n2)]; exact hb' X
          have s3 : ∀ X Y Z τ, ((σ.set m X).set t Y ++ τ).set id Z = ((σ.set m X).set t Y).set id Z ++ τ := fun X Y Z τ => zea (hb2 X Y)
          have g5 : ∀ X Y τ, ((σ.set m X).set t Y ++ τ)[id]? = some (.box [.own t (zsa g), .map m]) := fun X Y τ => zM (hb2 X Y)
          have L1 : ∀ X : zd, σ.length = (σ.set m X).length := fun X => by simp
          have L2 : ∀ X Y : zd, σ.length = ((σ.set m X).set t Y).length := fun X Y => by simp
          have L3 : ∀ X Y Z : zd, σ.length = (((σ.set m X).set t Y).set id Z).length := fun X Y Z => by simp
          have e1 : ∀ X τ n, (σ.set m X ++ τ)[σ.length + n]? = τ[n]? := fun X τ n => by rw [L1 X]; exact zn ..
          have e2 : ∀ X Y Z τ n, (((σ.set m X).set t Y).set id Z ++ τ)[σ.length + n]? = τ[n]? := fun X Y Z τ n => by rw [L3 X Y Z]; exact zn ..
          have e3 : ∀ X Y Z τ W, (((σ.set m X).set t Y).set id Z ++ τ).set σ.length W = ((σ.set m X).set t Y).set id Z ++ τ.set 0 W := fun X Y Z τ W => by rw [L3 X Y Z]; exact zA ..
          have e4 : ∀ X Y Z τ, (((σ.set m X).set t Y).set id Z ++ τ)[σ.length]? = τ[0]? := fun X Y Z τ => by rw [L3 X Y Z]; exact zo ..
          refine gq58 (zcs h1 (zcs h2 (zcs h3 (zcs hb (zcs hm (zcs hf (zcs s1 (zcs g3 (zcs g4 (zcs s2 (zcs s3 (zcs g5 (zcs e1 (zcs e2 (zcs e3 (zcs e4 hlen)))))))))))))))) ?_
          have e : putLed σ id m t (g ++ [⟨k, d⟩]) = (((σ.set m (zd.map (ledM g ++ [(AV.agg [AV.d (D.int IntKind.i64 k), AV.d (D.int IntKind.i64 d)], AV.d (D.bool true))]))).set t (zd.tok 2 (g.length + 1))).set id (zd.box [AV.own t (zsa g ++ [[D.int IntKind.i64 k, D.int IntKind.i64 d]]), AV.map m])) := by
            rw [ledM_add g ⟨k, d⟩]
            simp [putLed, zsa, zgH]
          rw [← e]
          exact zfx (ztt ..) (by simp [zjI, dmT, dm, dm1, zdy, zbL, zfZ]) (hG.lows hl _) hK
      · have he : zhE k d = 1 := by rw [zhE, if_neg hk, if_pos (by simpa using h3)]
        have := bad (by rw [he]; decide)
        rw [he] at this
        refine zjJ (zcs h1 (zcs h2 h3)) ?_
        refine zV hl ?_
        exact this
    · have he : zhE k d = 20 := by rw [zhE, if_pos (by simp at h2; omega)]
      have := bad (by rw [he]; decide)
      rw [he] at this
      refine zjJ (zcs h1 h2) ?_
      refine zV hl ?_
      exact this
  · have he : zhE k d = 20 := by rw [zhE, if_pos (by simp at h1; omega)]
    have := bad (by rw [he]; decide)
    rw [he] at this
    refine zjJ h1 ?_
    refine zV hl ?_
    exact this
theorem gq60 {P Q : Prop} (h : Q) (e : Hd Q → P := by intro h; (repeat' first | simp -dsimp only [↓zfa, ↓zat, ↓zbt, ↓zfb, ↓zeW, ↓zeU, ↓zeX, ↓zeV, ↓zby, ↓zbu, ↓zbz, ↓zbv, ↓zeY, ↓zbs, ↓zbA, ↓zbw, ↓zbB, ↓zbx, ↓zeT, ↓zeZ, ↓zbr, ↓zbC, ↓zeQ, ↓zeP, ↓zeS, iN, bT, bF, eN, ↓zcO, ↓unC, ↓zP, ↓zG, ↓zH, ↓zK, ↓zW, ↓zaz, ↓zdn, ↓zau, ↓zbf, ↓zQ, ↓zg, ↓zf, ↓zbY, ↓zb, ↓zae, ↓zL, ↓zaN, ↓zaO, ↓zc, ↓zB, ↓zj, ↓zE, ↓zY, ↓zdz, ↓zdA, ↓zam, ↓zap, ↓zaK, ↓zaV, ↓zbj, ↓zm, ↓zai, ↓zJ, ↓zr, ↓zT, zdD, zbo, zbk, unA, zcZ, bnd, zdZ, zac, zR, zdT, dm, dm1, zI, zan, zeq, zep, zZ, Q0, Q1, Q2, Q3, Q4, Q5, zX, zn, zo, zF, zA, Q6, Q7, Q8, Q9, Q10, Q11, Q12, Q13, Q14, Nat.reduceAdd, Q15, Int.reduceToNat, Q16, Q17, Q18, Q19, Q20, reduceIte, Q21, Q22, zw, rep, zU, zeo, toD, zaa, Q23, Q24, Q25, Q26, Q27, Q28, Nat.reduceLeDiff, Q29, Nat.reduceSub, Q30, Q31, Q32, sc, Q33, Q34, Q35, Q36, Q37, Q26, Q38, Q39, zlJ, zlG, zlD, zlK, zeM, zlH, zlE, zlI, zlF, zeL, zeN, zlL, zlM, Bool.not_true, Bool.not_false, List.length_map, Bool.and_false, Bool.and_self, Bool.false_and, Bool.true_and, Option.isSome_none, Option.isSome_some, Option.map_none, Option.map_some, beq_self_eq_true, bne_self_eq_false] | with_reducible refine zmc ?_ | fail); exact h.go) : P := e ⟨h⟩
theorem c_From {σ : List zd} {l : List (List UInt8)} (hn : l.Nodup) (hl0 : l.length ≤ 1048576) (hb : ∀ b ∈ l, b.length ≤ 1073741824) {K : KT}
    (hK : K (.tup [.box (σ.length + 1) 0, .d (.int .i64 0)]) (σ ++ zrH σ.length l)) : zl Tryz.prog zhJ [.d (.slice (zkw l))] σ K := by
  refine zcm zka.is rfl (fun s => List.range' σ.length 3) fun hl _ => zka.goes ?_
  have hlen : (zkw l).length = l.length := List.length_map ..
  have hd : decide ((l.length : Int) > 1048576) = false := by simp; omega
  simp only [znn, iN, bT, bF, eN]
  refine zjJ (zcs hlen hd) ?_
  refine zue ?_
  refine ztG ?_
  refine zy l.length (fun k vs s => vs = [.d (.int .i64 k)] ∧ s = σ ++ zrH σ.length (l.take k)) ⟨rfl, rfl⟩ ?_
  rintro k vs s hk ⟨rfl, rfl⟩
  by_cases hlt : k < l.length
  · have hd : decide ((k : Int) < (l.length : Int)) = true := by simp; omega
    have hx : l[k]? = some l[k] := by simp [hlt]
    have hgx := zal (f := fun b => [D.slice (bcs b)]) hx
    have hxb := hb _ (List.getElem_mem hlt)
    have hnot : l[k] ∉ l.take k := fun hm => by
      obtain ⟨i, hi, he⟩ := List.mem_take_iff_getElem.1 hm
      have := (List.getElem_inj hn).1 he
      omega
    obtain ⟨x, hxe⟩ : ∃ x, l[k] = x := ⟨_, rfl⟩
    rw [hxe] at hx hgx hxb hnot
    have hno := zqu hnot
    have hT : zdG (σ ++ zrH σ.length (l.take k)) (σ.length + 1) σ.length (σ.length + 2) (l.take k) := by simpa using tabAt_new σ (l.take k) []
    have hP : ∀ l', putTab (σ ++ zrH σ.length (l.take k)) (σ.length + 1) σ.length (σ.length + 2) l' = σ ++ zrH σ.length l' := fun l' => by simpa using zts σ (l.take k) l' []
    refine zjJ (zcs hlen (zcs hd hgx)) ?_
    refine zqF hT ?_
    rw [hno]
    refine gq60 ?_
    refine c_tSum hT hxb (by rw [List.length_take]; omega) ?_
    rw [hP]
    have e : zib (l.take k) x = l.take (k + 1) := by
      have h1 : (l.take k).length = k := by rw [List.length_take]; omega
      rw [zib, hno]
      simp only [h1]
      rw [if_neg (by omega), List.take_add_one, hx]; rfl
    rw [e]
    have hw : IntKind.i64.wrap ((k : Int) + 1) = ((k + 1 : Nat) : Int) := by rw [zbE (by omega) (by omega)]; rfl
    refine zjJ hw ?_
    exact zbp.next hlt ⟨rfl, rfl⟩
  · have hd : decide ((k : Int) < (l.length : Int)) = false := by simp; omega
    rw [List.take_of_length_le (by omega)]
    refine zjJ (zcs hlen hd) ?_
    refine zdN (σ' := σ) (os := zrH σ.length l) rfl rfl hl (low_tabO _ _) ?_ hK
    exact .tup _ (by simp [zjI]; exact .box _ _ (by simp))
theorem zpy {σ : List zd} {id m t : Nat} {l : List (List UInt8)} (hT : zdG σ id m t l) (hn : l.Nodup) (hl0 : l.length ≤ 1048576) (hb : ∀ b ∈ l, b.length ≤ 1073741824) {K : KT}
    (hK : K (.box (σ.length + 1) 0) (σ ++ zrH σ.length l)) : zl Tryz.prog zcc [.box id 0] σ K := by
  refine zcm zjn.is rfl (fun s => List.range' σ.length 3) fun hl _ => zjn.goes ?_
  have hbx := hT.box
  simp only [zjF, iN, bT, bF, eN]
  refine ztG ?_
  refine zuY hT ?_
  refine zjJ hbx ?_
  refine c_From hn hl0 hb ?_
  refine ztG ?_
  exact zdN (σ' := σ) (os := zrH σ.length l) rfl rfl hl (low_tabO _ _) (.box _ _ (by simp)) hK
theorem c_known {σ : List zd} {id m t : Nat} {l : List (List UInt8)} (hT : zdG σ id m t l) (hn : l.Nodup) (hl0 : l.length ≤ 1048576) (hb : ∀ b ∈ l, b.length ≤ 1073741824) {K : KT}
    (hK : K (.d (.bool true)) σ) : zl Tryz.prog ziV [.box id 0] σ K := by
  refine ze zmR.is rfl fun hl _ => zmR.goes ?_
  simp only [znf, iN, bT, bF, eN]
  refine ztG ?_
  refine c_tLen hT ?_
  cases h : decide ((l.length : Int) > 0)
  · refine zjJ h ?_
    refine zpy hT hn hl0 hb ?_
    refine zjJ h ?_
    refine zV hl ?_
    exact hK
  · refine zjJ h ?_
    refine zV hl ?_
    exact hK
end Go.Proofs.YtpgahkdjkanblaaGreat

/- Contracts: the document's tables and ledgers. -/
set_option maxRecDepth 100000
set_option linter.unusedSimpArgs false
set_option linter.unusedVariables false
namespace Go.Proofs.YtpgahkdjkanblaaGreat
open Go.AW

def rtO (l : List (List UInt8)) : zd := .box [.d (.slice (zkw l))]
def rlO (g : List zt) : zd := .box [.d (.slice (zsa g))]
theorem rtO_low (n : Nat) (l : List (List UInt8)) : zrE n (rtO l) := by
  intro c hc
  simp only [List.mem_cons, List.not_mem_nil, or_false] at hc
  subst hc; exact .d _
theorem rlO_low (n : Nat) (g : List zt) : zrE n (rlO g) := by
  intro c hc
  simp only [List.mem_cons, List.not_mem_nil, or_false] at hc
  subst hc; exact .d _
theorem wki (k : Nat) (h : k ≤ 1073741824) : IntKind.i64.wrap ((k : Int) + 1) = ((k + 1 : Nat) : Int) := by rw [zbE (by omega) (by omega)]; rfl
theorem gq61 {P Q : Prop} (h : Q) (e : Hd Q → P := by intro h; (repeat' first | simp -dsimp only [↓zfa, ↓zat, ↓zbt, ↓zfb, ↓zeW, ↓zeU, ↓zeX, ↓zeV, ↓zby, ↓zbu, ↓zbz, ↓zbv, ↓zeY, ↓zbs, ↓zbA, ↓zbw, ↓zbB, ↓zbx, ↓zeT, ↓zeZ, ↓zbr, ↓zbC, ↓zeQ, ↓zeP, ↓zeS, iN, bT, bF, eN, ↓zcO, ↓unC, ↓zP, ↓zG, ↓zH, ↓zK, ↓zW, ↓zaz, ↓zdn, ↓zau, ↓zbf, ↓zQ, ↓zg, ↓zf, ↓zbY, ↓zb, ↓zae, ↓zL, ↓zaN, ↓zaO, ↓zc, ↓zB, ↓zj, ↓zE, ↓zY, ↓zdz, ↓zdA, ↓zam, ↓zap, ↓zaK, ↓zaV, ↓zbj, ↓zm, ↓zai, ↓zJ, ↓zr, ↓zT, zdD, zbo, zbk, unA, zcZ, bnd, zdZ, zac, zR, zdT, dm, dm1, zI, zan, zeq, zep, zZ, Q0, Q1, Q2, Q3, Q4, Q5, zX, zn, zo, zF, zA, Q6, Q7, Q8, Q9, Q10, Q11, Q12, Q13, Q14, Nat.reduceAdd, Q15, Int.reduceToNat, Q16, Q17, Q18, Q19, Q20, reduceIte, Q21, Q22, zw, rep, zU, zeo, toD, zaa, Q23, Q24, Q25, Q26, Q27, Q28, Nat.reduceLeDiff, Q29, Nat.reduceSub, Q30, Q31, Q32, sc, Q33, Q34, Q35, Q36, Q37, Q26, Q38, Q39, zlJ, zlG, zlD, zlK, zeM, zlH, zlE, zlI, zlF, zeL, zeN, zlL, zlM, Bool.not_true, Bool.not_false, List.length_map, zhr, zej, zdB, zfp, zaK, zuH, zaV] | with_reducible refine zmc ?_ | fail); exact h.go) : P := e ⟨h⟩
theorem c_rtSame {σ : List zd} {a b : List UInt8} {K : KT} (hK : K (.d (.bool (a == b))) σ) : zl Tryz.prog zql [.d (.slice (bcs a)), .d (.slice (bcs b))] σ K := by
  refine ze ztS.is rfl fun hl _ => ztS.goes ?_
  simp only [zun, iN, bT, bF, eN]
  refine gq61 ?_
  refine zV hl ?_
  exact hK
theorem gq62 {A P Q : Prop} (a : A) (h : Q) (e : A → Hd Q → P := by intro a h; (repeat' first | simp -dsimp only [↓zfa, ↓zat, ↓zbt, ↓zfb, ↓zeW, ↓zeU, ↓zeX, ↓zeV, ↓zby, ↓zbu, ↓zbz, ↓zbv, ↓zeY, ↓zbs, ↓zbA, ↓zbw, ↓zbB, ↓zbx, ↓zeT, ↓zeZ, ↓zbr, ↓zbC, ↓zeQ, ↓zeP, ↓zeS, iN, bT, bF, eN, ↓zcO, ↓unC, ↓zP, ↓zG, ↓zH, ↓zK, ↓zW, ↓zaz, ↓zdn, ↓zau, ↓zbf, ↓zQ, ↓zg, ↓zf, ↓zbY, ↓zb, ↓zae, ↓zL, ↓zaN, ↓zaO, ↓zc, ↓zB, ↓zj, ↓zE, ↓zY, ↓zdz, ↓zdA, ↓zam, ↓zap, ↓zaK, ↓zaV, ↓zbj, ↓zm, ↓zai, ↓zJ, ↓zr, ↓zT, zdD, zbo, zbk, unA, zcZ, bnd, zdZ, zac, zR, zdT, dm, dm1, zI, zan, zeq, zep, zZ, Q0, Q1, Q2, Q3, Q4, Q5, zX, zn, zo, zF, zA, Q6, Q7, Q8, Q9, Q10, Q11, Q12, Q13, Q14, Nat.reduceAdd, Q15, Int.reduceToNat, Q16, Q17, Q18, Q19, Q20, reduceIte, Q21, Q22, zw, rep, zU, zeo, toD, zaa, Q23, Q24, Q25, Q26, Q27, Q28, Nat.reduceLeDiff, Q29, Nat.reduceSub, Q30, Q31, Q32, sc, Q33, Q34, Q35, Q36, Q37, Q26, Q38, Q39, zlJ, zlG, zlD, zlK, zeM, zlH, zlE, zlI, zlF, zeL, zeN, zlL, zlM, Bool.not_true, Bool.not_false, List.length_map, Bool.and_false, Bool.and_self, Bool.false_and, Bool.true_and, Option.isSome_none, Option.isSome_some, Option.map_none, Option.map_some, beq_self_eq_true, bne_self_eq_false, zbH, zdC, zdB, opA, zgI, zgH, zbl, a] | with_reducible refine zmc ?_ | fail); exact h.go) : P := e a ⟨h⟩
theorem c_rgSigned {σ : List zd} {id : Nat} {g : List zt} {s : zt} (hG : σ[id]? = some (rlO g)) (hg0 : g.length ≤ 1073741824) {K : KT} (hK : K (.d (.bool (decide (s ∈ g)))) σ) :
    zl Tryz.prog zfT [.box id 0, .agg [.d (.int .i64 s.key), .d (.int .i64 s.dig)]] σ K := by
  refine ze zjg.is rfl fun hl _ => zjg.goes ?_
  have hlen : (zsa g).length = g.length := List.length_map ..
  have hb : ∀ τ, (σ ++ τ)[id]? = some (.box [.d (.slice (zsa g))]) := fun τ => zM hG
  simp only [zjw, iN, bT, bF, eN]
  refine ztG ?_
  refine zy g.length (fun k vs q => vs = [.d (.int .i64 k)] ∧ q = σ ++ [.box [.d (.int .i64 s.key), .d (.int .i64 s.dig)]] ∧ s ∉ g.take k) ⟨rfl, rfl, by simp⟩ ?_
  rintro k vs q hk ⟨rfl, rfl, hno⟩
  by_cases hlt : k < g.length
  · have hd : decide ((k : Int) < (g.length : Int)) = true := by simp; omega
    have hx : g[k]? = some g[k] := by simp [hlt]
    have hgx := zal (f := zgH) hx
    obtain ⟨x, hxe⟩ : ∃ x, g[k] = x := ⟨_, rfl⟩
    rw [hxe] at hx hgx
    by_cases he : x = s
    · subst he
      rw [decide_eq_true (List.mem_of_getElem? hx)] at hK
      refine gq62 (zcs hlen (zcs hd (zcs hb hgx))) ?_
      refine zV hl ?_
      exact hK
    · have hn2 : s ∉ g.take (k + 1) := by
        rw [List.take_add_one, hx]; simp
        exact ⟨hno, fun h => he h.symm⟩
      have e : x = s ↔ x.key = s.key ∧ x.dig = s.dig := by cases s; cases x; simp
      cases h1 : (x.key == s.key)
      · refine gq62 (zcs hlen (zcs hd (zcs hb (zcs hgx (zcs h1 (wki k (by omega))))))) ?_
        exact zbp.next hlt ⟨rfl, rfl, hn2⟩
      · have h2 : (x.dig == s.dig) = false := by
          have : ¬ x.dig = s.dig := fun h => he (e.2 ⟨by simpa using h1, h⟩)
          simpa using this
        refine gq62 (zcs hlen (zcs hd (zcs hb (zcs hgx (zcs h1 (zcs h2 (wki k (by omega)))))))) ?_
        exact zbp.next hlt ⟨rfl, rfl, hn2⟩
  · have hd : decide ((k : Int) < (g.length : Int)) = false := by simp; omega
    rw [List.take_of_length_le (by omega)] at hno
    rw [decide_eq_false hno] at hK
    refine zjJ (zcs hlen (zcs hd hb)) ?_
    refine zV hl ?_
    exact hK
theorem c_rgSign {σ : List zd} {id : Nat} {g : List zt} {k d : Int} (hG : σ[id]? = some (rlO g)) (hgl : g.length ≤ 1073741824) {K : KT}
    (hK : K (.tup [zta (signR k d), .d (.int .i64 (zhE k d))]) (σ.set id (rlO (zid g k d)))) : zl Tryz.prog zhm [.box id 0, .d (.int .i64 k), .d (.int .i64 d)] σ K := by
  refine zpK zkL.is rfl fun hl _ => zkL.goes ?_
  have hb : ∀ τ, (σ ++ τ)[id]? = some (.box [.d (.slice (zsa g))]) := fun τ => zM hG
  have hlen : (zsa g).length = g.length := List.length_map ..
  have bad : zhE k d ≠ 0 → K (.tup [.agg [.d (.int .i64 0), .d (.int .i64 0)], .d (.int .i64 (zhE k d))]) σ := fun h => by
    rw [signR, zid, if_neg h, if_neg h, zeu hG] at hK
    exact hK
  simp only [zkZ, iN, bT, bF, eN]
  refine ztG ?_
  cases h1 : decide (k < 0)
  · cases h2 : decide (k ≥ 21)
    · have hk : ¬ (k < 0 ∨ k ≥ 21) := by simp at h1 h2; omega
      cases h3 : decide (d < 1)
      · have he : zhE k d = 0 := by rw [zhE, if_neg hk, if_neg (by simpa using h3)]
        rw [he, signR, zid, if_pos he, if_pos he] at hK
        refine zjJ (zcs h1 (zcs h2 h3)) ?_
        refine c_rgSigned (s := ⟨k, d⟩) (zM hG) hgl ?_
        by_cases hs : (⟨k, d⟩ : zt) ∈ g
        · rw [decide_eq_true hs]
          rw [zsZ, if_pos hs, zeu hG] at hK
          refine zjJ hb ?_
          refine zpp ?_
          refine zV hl ?_
          exact hK
        · rw [decide_eq_false hs]
          rw [zsZ, if_neg hs] at hK
          have s1 : ∀ X τ, (σ ++ τ).set id X = σ.set id X ++ τ := fun X τ => zea hG
          have L1 : ∀ X : zd, σ.length = (σ.set id X).length := fun X => by simp
          have e1 : ∀ X τ n, (σ.set id X ++ τ)[σ.length + n]? = τ[n]? := fun X τ n => by rw [L1 X]; exact zn ..
          have e3 : ∀ X τ W, (σ.set id X ++ τ).set σ.length W = σ.set id X ++ τ.set 0 W := fun X τ W => by rw [L1 X]; exact zA ..
          have e4 : ∀ X τ, (σ.set id X ++ τ)[σ.length]? = τ[0]? := fun X τ => by rw [L1 X]; exact zo ..
          refine zjJ (zcs hb (zcs hlen (zcs s1 (zcs e1 (zcs e3 e4))))) ?_
          have e : zsa g ++ [[D.int .i64 k, D.int .i64 d]] = zsa (g ++ [⟨k, d⟩]) := by simp [zsa, zab, zgH]
          refine ⟨zfS (f := zgH) (fun _ => rfl) g, by simp, by omega, by simp, by omega, ?_⟩
          rw [e]
          exact znD hG (by simp [zjI, dmT, dm, dm1, zdy, zbL, zfZ]) hl hK
      · have he : zhE k d = 1 := by rw [zhE, if_neg hk, if_pos (by simpa using h3)]
        have := bad (by rw [he]; decide)
        rw [he] at this
        refine zjJ (zcs h1 (zcs h2 h3)) ?_
        refine zpp ?_
        refine zV hl ?_
        exact this
    · have he : zhE k d = 20 := by rw [zhE, if_pos (by simp at h2; omega)]
      have := bad (by rw [he]; decide)
      rw [he] at this
      refine zjJ (zcs h1 h2) ?_
      refine zpp ?_
      refine zV hl ?_
      exact this
  · have he : zhE k d = 20 := by rw [zhE, if_pos (by simp at h1; omega)]
    have := bad (by rw [he]; decide)
    rw [he] at this
    refine zjJ h1 ?_
    refine zpp ?_
    refine zV hl ?_
    exact this
end Go.Proofs.YtpgahkdjkanblaaGreat
