/- Contracts: whether a proof may be, the program's. -/
import Derived.Test.YtpgahkdjkanblaaGreatRc1
import Derived.Test.YtpgahkdjkanblaaGreatCodec1
set_option linter.all false
set_option maxRecDepth 100000
set_option linter.unusedSimpArgs false
set_option linter.unusedVariables false
namespace Go.Proofs.YtpgahkdjkanblaaGreat
open Go.AW

structure smallPf (p : zoh) : Prop where
  topic : p.topic.length ≤ 16777216
  rec_ : p.rec_.length ≤ 16777216
  headers : p.headers.length ≤ 1073741824
  path : p.path.length ≤ 1073741824
  signs : p.cert.signs.length ≤ 1073741824
  off : znV p.offset
  index : znV p.index
  count : znV p.count
  paths : ∀ x ∈ p.path, znV x
theorem thnE_app (e : Int) (a b : List Int) : zmA (zmA e (zec a)) (zec b) = zmA e (zec (a ++ b)) := by
  rw [zuM]
  unfold zmA
  by_cases h : e = 0
  · by_cases h2 : zec a = 0
    · simp [h, h2]
    · simp [h, h2]
  · simp [h]
theorem thnE_app1 (e : Int) (a : List Int) (x : Int) : zmA (zmA e (zec a)) x = zmA e (zec (a ++ [x])) := by
  have : x = zec [x] := by simp only [zec]; split <;> simp_all
  conv => lhs; rw [this]
  exact thnE_app e a [x]
theorem thnE_z (x : Int) : zmA 0 x = x := by simp [zmA]
theorem zoT (l : List Int) (x : Int) : zmA (zec l) x = zec (l ++ [x]) := by rw [← thnE_z (zec l), thnE_app1, thnE_z]
end Go.Proofs.YtpgahkdjkanblaaGreat

/- Contracts: whether a proof may be, the document's. -/
set_option maxRecDepth 100000
set_option linter.unusedSimpArgs false
set_option linter.unusedVariables false
namespace Go.Proofs.YtpgahkdjkanblaaGreat
open Go.AW

end Go.Proofs.YtpgahkdjkanblaaGreat

/- Contracts: what is asked, as a list of errors that grows. -/
set_option maxRecDepth 100000
set_option linter.unusedSimpArgs false
set_option linter.unusedVariables false
namespace Go.Proofs.YtpgahkdjkanblaaGreat
open Go.AW

theorem thn_apps (P l : List Int) : zmA (zec P) (zec l) = zec (P ++ l) := by rw [← thnE_z (zec P), thnE_app, thnE_z]
section

variable {σ : List zd} {id : Nat} {P : List Int} {K : KT}

theorem c_aSays {x : Int} (hσ : σ[id]? = some (zgi (zec P))) (hK : K (.tup []) (σ.set id (zgi (zec (P ++ [x]))))) : zl Tryz.prog zN [.box id 0, .d (.int .i64 x)] σ K := c_says hσ (by rw [zoT]; exact hK)
theorem c_aIn {n lo hi : Int} (hσ : σ[id]? = some (zgi (zec P))) (hK : K (.tup []) (σ.set id (zgi (zec (P ++ [inE n lo hi]))))) : zl Tryz.prog zaC [.box id 0, .d (.int .i64 n), .d (.int .i64 lo), .d (.int .i64 hi)] σ K := zve hσ (by rw [zoT]; exact hK)
theorem c_aNum {n : Int} (hσ : σ[id]? = some (zgi (zec P))) (hK : K (.tup []) (σ.set id (zgi (zec (P ++ [zpU n]))))) : zl Tryz.prog zaq [.box id 0, .d (.int .i64 n)] σ K := zvd hσ (by rw [zoT]; exact hK)
theorem c_aPos {n : Int} (hσ : σ[id]? = some (zgi (zec P))) (hK : K (.tup []) (σ.set id (zgi (zec (P ++ [posE n]))))) : zl Tryz.prog zaE [.box id 0, .d (.int .i64 n)] σ K := c_askPos hσ (by rw [zoT]; exact hK)
theorem c_aMany {n hi : Int} (hσ : σ[id]? = some (zgi (zec P))) (hK : K (.tup []) (σ.set id (zgi (zec (P ++ [inE n 0 hi]))))) : zl Tryz.prog zbe [.box id 0, .d (.int .i64 n), .d (.int .i64 hi)] σ K := c_askMany hσ (by rw [zoT]; exact hK)
theorem c_aSigns {l : List zt} (hσ : σ[id]? = some (zgi (zec P))) (hl0 : l.length ≤ 1073741824) (hK : K (.tup []) (σ.set id (zgi (zec (P ++ zfs l))))) : zl Tryz.prog zaS [.box id 0, .d (.slice (zab l))] σ K := zuc hσ hl0 (by rw [thn_apps]; exact hK)
theorem c_aCert {c : zfB} (hσ : σ[id]? = some (zgi (zec P))) (hl0 : c.signs.length ≤ 1073741824) (hK : K (.tup []) (σ.set id (zgi (zec (P ++ zfq c))))) : zl Tryz.prog zck [.box id 0, zfX c] σ K := c_askCert hσ hl0 (by rw [thn_apps]; exact hK)
end

end Go.Proofs.YtpgahkdjkanblaaGreat

/- Contracts: what is wrong with batches, on both sides. -/
set_option maxRecDepth 100000
set_option linter.unusedSimpArgs false
set_option linter.unusedVariables false
namespace Go.Proofs.YtpgahkdjkanblaaGreat
open Go.AW

theorem wk1 (k : Nat) (h : k ≤ 1073741824) : IntKind.i64.wrap ((k : Int) + 1) = ((k + 1 : Nat) : Int) := by rw [zbE (by omega) (by omega)]; rfl
theorem zeB {A P Q : Prop} (a : A) (h : Q) (e : A → Hd Q → P := by intro a h; (repeat' first | simp -dsimp only [↓zfa, ↓zat, ↓zbt, ↓zfb, ↓zeW, ↓zeU, ↓zeX, ↓zeV, ↓zby, ↓zbu, ↓zbz, ↓zbv, ↓zeY, ↓zbs, ↓zbA, ↓zbw, ↓zbB, ↓zbx, ↓zeT, ↓zeZ, ↓zbr, ↓zbC, ↓zeQ, ↓zeP, ↓zeS, iN, bT, bF, eN, ↓zcO, ↓unC, ↓zP, ↓zG, ↓zH, ↓zK, ↓zW, ↓zaz, ↓zdn, ↓zau, ↓zbf, ↓zQ, ↓zg, ↓zf, ↓zbY, ↓zb, ↓zae, ↓zL, ↓zaN, ↓zaO, ↓zc, ↓zB, ↓zj, ↓zE, ↓zY, ↓zdz, ↓zdA, ↓zam, ↓zap, ↓zaK, ↓zaV, ↓zbj, ↓zm, ↓zai, ↓zJ, ↓zr, ↓zT, zdD, zbo, zbk, unA, zcZ, bnd, zdZ, zac, zR, zdT, dm, dm1, zI, zan, zeq, zep, zZ, Q0, Q1, Q2, Q3, Q4, Q5, zX, zn, zo, zF, zA, Q6, Q7, Q8, Q9, Q10, Q11, Q12, Q13, Q14, Nat.reduceAdd, Q15, Int.reduceToNat, Q16, Q17, Q18, Q19, Q20, reduceIte, Q21, Q22, zw, rep, zU, zeo, toD, zaa, Q23, Q24, Q25, Q26, Q27, Q28, Nat.reduceLeDiff, Q29, Nat.reduceSub, Q30, Q31, Q32, sc, Q33, Q34, Q35, Q36, Q37, Q26, Q38, Q39, zlJ, zlG, zlD, zlK, zeM, zlH, zlE, zlI, zlF, zeL, zeN, zlL, zlM, Bool.not_true, Bool.not_false, List.length_map, a] | with_reducible refine zmc ?_ | fail); exact h.go) : P := e a ⟨h⟩
theorem gq46 {A P Q : Prop} (a : A) (h : Q) (e : A → Hd Q → P := by intro a h; (repeat' first | simp -dsimp only [↓zfa, ↓zat, ↓zbt, ↓zfb, ↓zeW, ↓zeU, ↓zeX, ↓zeV, ↓zby, ↓zbu, ↓zbz, ↓zbv, ↓zeY, ↓zbs, ↓zbA, ↓zbw, ↓zbB, ↓zbx, ↓zeT, ↓zeZ, ↓zbr, ↓zbC, ↓zeQ, ↓zeP, ↓zeS, iN, bT, bF, eN, ↓zcO, ↓unC, ↓zP, ↓zG, ↓zH, ↓zK, ↓zW, ↓zaz, ↓zdn, ↓zau, ↓zbf, ↓zQ, ↓zg, ↓zf, ↓zbY, ↓zb, ↓zae, ↓zL, ↓zaN, ↓zaO, ↓zc, ↓zB, ↓zj, ↓zE, ↓zY, ↓zdz, ↓zdA, ↓zam, ↓zap, ↓zaK, ↓zaV, ↓zbj, ↓zm, ↓zai, ↓zJ, ↓zr, ↓zT, zdD, zbo, zbk, unA, zcZ, bnd, zdZ, zac, zR, zdT, dm, dm1, zI, zan, zeq, zep, zZ, Q0, Q1, Q2, Q3, Q4, Q5, zX, zn, zo, zF, zA, Q6, Q7, Q8, Q9, Q10, Q11, Q12, Q13, Q14, Nat.reduceAdd, Q15, Int.reduceToNat, Q16, Q17, Q18, Q19, Q20, reduceIte, Q21, Q22, zw, rep, zU, zeo, toD, zaa, Q23, Q24, Q25, Q26, Q27, Q28, Nat.reduceLeDiff, Q29, Nat.reduceSub, Q30, Q31, Q32, sc, Q33, Q34, Q35, Q36, Q37, Q26, Q38, Q39, zlJ, zlG, zlD, zlK, zeM, zlH, zlE, zlI, zlF, zeL, zeN, zlL, zlM, Bool.not_true, Bool.not_false, List.length_map, zbH, zdC, zdB, opA, zgI, zgH, zic, zbl, a] | with_reducible refine zmc ?_ | fail); exact h.go) : P := e a ⟨h⟩
theorem zfr {σ : List zd} {b : List zu} (hb : okB b) {K : KT} (hK : K (.d (.int .i64 (zD b))) σ) : zl Tryz.prog zaM [.d (.slice (zbD b))] σ K := by
  refine ze zir.is rfl fun hl _ => zir.goes ?_
  have fin : ∀ z, zD b = z → K (.d (.int .i64 z)) σ := fun z h => h ▸ hK
  clear hK
  obtain ⟨hb1, hb2⟩ := hb
  simp only [ziy, iN, bT, bF, eN]
  cases h4 : decide ((b.length : Int) > 4)
  rotate_left
  · refine zeB h4 ?_
    refine zV hl ?_
    exact fin _ (by rw [zD, if_pos (by simp at h4; omega)])
  have h4' : ¬ b.length > 4 := by simp at h4; omega
  refine zeB h4 ?_
  refine zy b.length (fun k vs s => vs = [.d (.int .i64 k)] ∧ (∃ T, s = σ ++ T) ∧ zmO (b.take k) = 0) ⟨rfl, ⟨[], by simp⟩, rfl⟩ ?_
  rintro k vs s hk ⟨rfl, ⟨T, rfl⟩, he⟩
  by_cases hlt : k < b.length
  · have hd : decide ((k : Int) < (b.length : Int)) = true := by simp; omega
    have hx : b[k]? = some b[k] := by simp [hlt]
    have hbx := hb2 _ (List.getElem_mem hlt)
    have hgx := zal (f := zbl) hx
    obtain ⟨x, hxe⟩ : ∃ x, b[k] = x := ⟨_, rfl⟩
    rw [hxe] at hx hgx hbx
    have bad : errF x ≠ 0 → K (.d (.int .i64 (errF x))) σ := fun h => fin _ (by rw [zD, if_neg h4', if_pos (by rw [ztO hx he h]; exact h)]; exact ztO hx he h)
    refine gq46 (zq hd hgx) ?_
    refine c_rqCheck (x := x) hbx ?_
    cases h1 : (zaT x != 0)
    rotate_left
    · have h1' : zaT x ≠ 0 := by simpa using h1
      refine zeB h1 ?_
      refine zV hl ?_
      have e : errF x = zaT x := by rw [errF, if_pos h1']
      rw [e] at bad
      exact bad h1'
    refine zeB h1 ?_
    have h1' : ¬ zaT x ≠ 0 := by simpa using h1
    have e : errF x = zag x.key x.dig := by rw [errF, if_neg h1']
    refine zdO ?_
    cases h2 : (zag x.key x.dig != 0)
    rotate_left
    · refine zeB h2 ?_
      refine zV hl ?_
      rw [e] at bad
      exact bad (by simpa using h2)
    refine zeB (zq h2 (wk1 k (by omega))) ?_
    exact zbp.next hlt ⟨rfl, ⟨_, rfl⟩, errsF_snoc hx he (by rw [e]; simpa using h2)⟩
  · have hn : k = b.length := by omega
    subst hn
    rw [List.take_length] at he
    have hd : decide ((b.length : Int) < (b.length : Int)) = false := by simp
    refine zeB hd ?_
    refine zy b.length (fun k vs s => vs = [.d (.int .i64 k)] ∧ (∃ T, s = σ ++ T) ∧ (b.take k).Pairwise ndup) ⟨rfl, ⟨T, rfl⟩, by simp⟩ ?_
    rintro k vs s hk' ⟨rfl, ⟨T, rfl⟩, hp⟩
    by_cases hlt : k < b.length
    · have hd : decide ((k : Int) < (b.length : Int)) = true := by simp; omega
      have hx : b[k]? = some b[k] := by simp [hlt]
      have hgx := zal (f := zbl) hx
      obtain ⟨x, hxe⟩ : ∃ x, b[k] = x := ⟨_, rfl⟩
      rw [hxe] at hx hgx
      have htk : List.take k (List.map zbl b) = List.map zbl (b.take k) := by rw [List.map_take]
      have hlk : (b.take k).length = k := by rw [List.length_take]; omega
      refine gq46 (zq hd (zq hgx (zq htk hlk))) ?_
      refine ⟨batch_nine b, ?_⟩
      refine gq46 (zq hd (zq hgx (zq htk hlk))) ?_
      refine zy k (fun j vs s => vs = [.d (.int .i64 j)] ∧ (∃ T', s = σ ++ (T ++ .box [.d (.int .i64 x.client), .d (.int .i64 x.time), .d (.int .i64 x.op.kind), .d (.str x.op.topic), .d (.str x.op.group), .d (.int .i64 x.op.offset), .d (.slice (zgh x.op.recs)), .d (.int .i64 x.key), .d (.int .i64 x.dig)] :: T')) ∧ ∀ y ∈ b.take j, ¬ (x.client = y.client ∧ x.time = y.time)) ⟨rfl, ⟨[], by simp⟩, by simp⟩ ?_
      rintro j vs s hj ⟨rfl, ⟨T', rfl⟩, hno⟩
      by_cases hjk : j < k
      · have hd : decide ((j : Int) < (k : Int)) = true := by simp; omega
        have hy : b[j]? = some (b[j]'(by omega)) := List.getElem?_eq_getElem _
        have hy' : (b.take k)[j]? = some (b[j]'(by omega)) := by rw [List.getElem?_take, if_pos hjk]; exact hy
        have hgy := zal (f := zbl) hy'
        obtain ⟨y, hye⟩ : ∃ y, b[j]'(by omega) = y := ⟨_, rfl⟩
        rw [hye] at hy hgy hy'
        have hyt : b.take (j + 1) = b.take j ++ [y] := by rw [List.take_add_one, hy]; rfl
        have next : ¬ (x.client = y.client ∧ x.time = y.time) → ∀ z ∈ b.take (j + 1), ¬ (x.client = z.client ∧ x.time = z.time) := fun h z hz => by
          rw [hyt] at hz
          rcases List.mem_append.1 hz with hz | hz
          · exact hno z hz
          · simp at hz; subst hz; exact h
        cases h1 : (x.client == y.client)
        · refine gq46 (zq hd (zq htk (zq hlk (zq hgy (zq h1 (wk1 j (by omega))))))) ?_
          exact zbp.next hjk ⟨rfl, ⟨_, rfl⟩, next (by simp at h1; exact fun h => h1 h.1)⟩
        cases h2 : (x.time == y.time)
        · refine gq46 (zq hd (zq htk (zq hlk (zq hgy (zq h1 (zq h2 (wk1 j (by omega)))))))) ?_
          exact zbp.next hjk ⟨rfl, ⟨_, rfl⟩, next (by simp at h2; exact fun h => h2 h.2)⟩
        · refine gq46 (zq hd (zq htk (zq hlk (zq hgy (zq h1 h2))))) ?_
          refine zV hl ?_
          have hnp := pairs_not hx hy hjk ⟨by simpa using h1, by simpa using h2⟩
          exact fin _ (by rw [zD, if_neg h4', if_neg (by simpa using he), if_neg hnp])
      · have hd : decide ((j : Int) < (k : Int)) = false := by simp; omega
        have hn : j = k := by omega
        subst hn
        refine zeB (zq hd (zq htk (zq hlk (wk1 j (by omega))))) ?_
        exact zbp.next hlt ⟨rfl, ⟨_, rfl⟩, pairs_snoc hx hp hno⟩
    · have hd : decide ((k : Int) < (b.length : Int)) = false := by simp; omega
      refine zeB hd ?_
      refine zV hl ?_
      have hn : k = b.length := by omega
      subst hn
      rw [List.take_length] at hp
      exact fin _ (by rw [zD, if_neg h4', if_neg (by simpa using he), if_pos hp])
end Go.Proofs.YtpgahkdjkanblaaGreat
