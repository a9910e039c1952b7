/- Contracts: messages that are the same, the document's. -/
import Derived.Test.YtpgahkdjkanblaaGreatNr3
import Derived.Test.YtpgahkdjkanblaaGreatSm4
set_option linter.all false
set_option maxRecDepth 100000
set_option linter.unusedSimpArgs false
set_option linter.unusedVariables false
namespace Go.Proofs.YtpgahkdjkanblaaGreat
open Go.AW

theorem c_kSamePrep {σ : List zf} {a b : zbW} (ha : zoa a) (hb : zoa b) {K : KT} (hK : K (.d (.bool (decide (a = b)))) σ) : zm Tryz.prog zfN [.agg [.d (.int .i64 a.view), .d (.int .i64 a.seq), .d (.int .i64 a.dig), .d (.int .i64 a.fkey), .d (.int .i64 a.fdig), .d (.slice (zas a.signs)), .d (.slice (zbo a.batch))], .agg [.d (.int .i64 b.view), .d (.int .i64 b.seq), .d (.int .i64 b.dig), .d (.int .i64 b.fkey), .d (.int .i64 b.fdig), .d (.slice (zas b.signs)), .d (.slice (zbo b.batch))]] σ K := by
  refine zc zjm.is rfl fun hl _ => zjm.goes ?_
  have fin : ∀ z, decide (a = b) = z → K (.d (.bool z)) σ := fun z h => h ▸ hK
  clear hK
  simp only [zjB, iN, bT, bF, eN]
  cases h1 : (a.view == b.view)
  · refine zH h1 ?_
    refine zq hl ?_
    exact fin _ (decide_eq_false fun h => by subst h; simp at h1)
  cases h2 : (a.seq == b.seq)
  · refine zH (zi h1 h2) ?_
    refine zq hl ?_
    exact fin _ (decide_eq_false fun h => by subst h; simp at h2)
  cases h3 : (a.dig == b.dig)
  · refine zH (zi h1 (zi h2 h3)) ?_
    refine zq hl ?_
    exact fin _ (decide_eq_false fun h => by subst h; simp at h3)
  cases h4 : (a.fkey == b.fkey && a.fdig == b.fdig)
  · refine zjk (zi h1 (zi h2 (zi h3 h4))) ?_
    refine zq hl ?_
    exact fin _ (decide_eq_false fun h => by subst h; simp at h4)
  refine gq50 (zi h1 (zi h2 (zi h3 h4))) ?_
  refine zte ha.signs ?_
  cases h5 : decide (a.signs = b.signs)
  · refine zH h5 ?_
    refine zq hl ?_
    exact fin _ (decide_eq_false fun h => by subst h; simp at h5)
  refine gq53 h5 ?_
  refine zwl ha.batch hb.batch ?_
  cases h6 : decide (a.batch = b.batch)
  · refine zH h6 ?_
    refine zq hl ?_
    exact fin _ (decide_eq_false fun h => by subst h; simp at h6)
  refine zH h6 ?_
  refine zq hl ?_
  exact fin _ (decide_eq_true (by cases a; cases b; simp_all))
theorem gq57 {A P Q : Prop} (a : A) (h : Q) (e : A → Hd Q → P := by intro a h; (repeat' first | simp -dsimp only [↓zey, ↓zay, ↓zbs, ↓zez, ↓zeu, ↓zes, ↓zev, ↓zet, ↓zbx, ↓zbt, ↓zby, ↓zbu, ↓zew, ↓zbr, ↓zbz, ↓zbv, ↓zbA, ↓zbw, ↓zer, ↓zex, ↓zbp, ↓zbB, ↓zep, ↓zeo, ↓zeq, iN, bT, bF, eN, ↓zcv, ↓unC, ↓zU, ↓zI, ↓zJ, ↓zM, ↓zX, ↓zal, ↓zcX, ↓zai, ↓zaJ, ↓zW, ↓zg, ↓zn, ↓zbP, ↓zb, ↓zaf, ↓zD, ↓zaI, ↓zaQ, ↓zd, ↓zF, ↓zj, ↓zG, ↓zam, ↓zdc, ↓zdj, ↓zak, ↓zau, ↓zaL, ↓zaY, ↓zbh, ↓zo, ↓zaj, ↓zK, ↓zr, ↓zV, zdk, zbn, zbk, unA, zdu, bnd, zdG, zae, zO, zdW, dm, dm1, zR, zaF, zea, zdZ, zw, Q0, Q1, Q2, Q3, Q4, Q5, zY, zC, zt, zN, zE, Q6, Q7, Q8, Q9, Q10, Q11, Q12, Q13, Q14, Nat.reduceAdd, Q15, Int.reduceToNat, Q16, Q17, Q18, Q19, Q20, reduceIte, Q21, Q22, zA, rep, zZ, zeB, toD, zap, Q23, Q24, Q25, Q26, Q27, Q28, Nat.reduceLeDiff, Q29, Nat.reduceSub, Q30, Q31, Q32, sc, Q33, Q34, Q35, Q36, Q37, Q26, Q38, Q39, zpZ, zpW, zpT, zqa, zgd, zpX, zpU, zpY, zpV, zgc, zge, zqb, zqc, Bool.not_true, Bool.not_false, List.length_map, bne, a] | with_reducible refine zqd ?_ | fail); exact h.go) : P := e a ⟨h⟩
theorem gq58 {A P Q : Prop} (a : A) (h : Q) (e : A → Hd Q → P := by intro a h; (repeat' first | simp -dsimp only [↓zey, ↓zay, ↓zbs, ↓zez, ↓zeu, ↓zes, ↓zev, ↓zet, ↓zbx, ↓zbt, ↓zby, ↓zbu, ↓zew, ↓zbr, ↓zbz, ↓zbv, ↓zbA, ↓zbw, ↓zer, ↓zex, ↓zbp, ↓zbB, ↓zep, ↓zeo, ↓zeq, iN, bT, bF, eN, ↓zcv, ↓unC, ↓zU, ↓zI, ↓zJ, ↓zM, ↓zX, ↓zal, ↓zcX, ↓zai, ↓zaJ, ↓zW, ↓zg, ↓zn, ↓zbP, ↓zb, ↓zaf, ↓zD, ↓zaI, ↓zaQ, ↓zd, ↓zF, ↓zj, ↓zG, ↓zam, ↓zdc, ↓zdj, ↓zak, ↓zau, ↓zaL, ↓zaY, ↓zbh, ↓zo, ↓zaj, ↓zK, ↓zr, ↓zV, zdk, zbn, zbk, unA, zdu, bnd, zdG, zae, zO, zdW, dm, dm1, zR, zaF, zea, zdZ, zw, Q0, Q1, Q2, Q3, Q4, Q5, zY, zC, zt, zN, zE, Q6, Q7, Q8, Q9, Q10, Q11, Q12, Q13, Q14, Nat.reduceAdd, Q15, Int.reduceToNat, Q16, Q17, Q18, Q19, Q20, reduceIte, Q21, Q22, zA, rep, zZ, zeB, toD, zap, Q23, Q24, Q25, Q26, Q27, Q28, Nat.reduceLeDiff, Q29, Nat.reduceSub, Q30, Q31, Q32, sc, Q33, Q34, Q35, Q36, Q37, Q26, Q38, Q39, zpZ, zpW, zpT, zqa, zgd, zpX, zpU, zpY, zpV, zgc, zge, zqb, zqc, Bool.not_true, Bool.not_false, List.length_map, beq_self_eq_true, bne, a] | with_reducible refine zqd ?_ | fail); exact h.go) : P := e a ⟨h⟩
theorem zwq {σ : List zf} {a b : zaa} (ha : zjd a) (hb : zjd b) {K : KT} (hK : K (.d (.bool (decide (a = b)))) σ) : zm Tryz.prog zhx [.agg [.d (.int .i64 a.view), .d (.int .i64 a.src), .d (.int .i64 a.cert.seq), .d (.int .i64 a.cert.dig), .d (.slice (zas a.cert.signs)), .d (.slice (zfI a.above)), .d (.int .i64 a.key), .d (.int .i64 a.dig)], .agg [.d (.int .i64 b.view), .d (.int .i64 b.src), .d (.int .i64 b.cert.seq), .d (.int .i64 b.cert.dig), .d (.slice (zas b.cert.signs)), .d (.slice (zfI b.above)), .d (.int .i64 b.key), .d (.int .i64 b.dig)]] σ K := by
  refine zc zlk.is rfl fun hl _ => zlk.goes ?_
  have fin : ∀ z, decide (a = b) = z → K (.d (.bool z)) σ := fun z h => h ▸ hK
  clear hK
  simp only [zlC, iN, bT, bF, eN]
  have hla : ((a.above.map zeV).length) = a.above.length := List.length_map ..
  have hlb : ((b.above.map zeV).length) = b.above.length := List.length_map ..
  have hal := ha.above
  cases h1 : (a.view == b.view)
  · refine gq57 h1 ?_
    refine zq hl ?_
    exact fin _ (decide_eq_false fun h => by subst h; simp at h1)
  cases h2 : (a.src == b.src)
  · refine gq57 (zi h1 h2) ?_
    refine zq hl ?_
    exact fin _ (decide_eq_false fun h => by subst h; simp at h2)
  refine gq58 (zi h1 h2) ?_
  refine zqM (a := a.cert) (b := b.cert) ha.signs ?_
  cases h3 : decide (a.cert = b.cert)
  · refine zH h3 ?_
    refine zq hl ?_
    exact fin _ (decide_eq_false fun h => by subst h; simp at h3)
  cases h4 : (a.key == b.key && a.dig == b.dig)
  · refine zjk (zi h3 h4) ?_
    refine zq hl ?_
    exact fin _ (decide_eq_false fun h => by subst h; simp at h4)
  cases h5 : ((a.above.length : Int) == (b.above.length : Int))
  · refine gq52 (zi h3 (zi h4 (zi hla (zi hlb h5)))) ?_
    refine zq hl ?_
    exact fin _ (decide_eq_false fun h => by subst h; simp at h5)
  have hl2 : a.above.length = b.above.length := by simp at h5; omega
  have hla : ((a.above.map zeV).length) = a.above.length := List.length_map ..
  have hlb : ((b.above.map zeV).length) = b.above.length := List.length_map ..
  refine gq52 (zi h3 (zi h4 (zi hla (zi hlb (zi h5 (zi hla hlb)))))) ?_
  refine zl a.above.length (fun k vs s => vs = [.d (.int .i64 k)] ∧ s = σ ++ [.box (zbV a), .box (zbV b)] ∧ a.above.take k = b.above.take k) ⟨rfl, rfl, by simp⟩ ?_
  rintro k vs s hk ⟨rfl, rfl, htk⟩
  by_cases hlt : k < a.above.length
  · have hd : decide ((k : Int) < (a.above.length : Int)) = true := by simp; omega
    have hx : a.above[k]? = some a.above[k] := by simp [hlt]
    have hy : b.above[k]? = some (b.above[k]'(by omega)) := List.getElem?_eq_getElem _
    have hgx := zQ (f := zeV) hx
    have hgy := zQ (f := zeV) hy
    have hxs := ha.each _ (List.getElem_mem hlt)
    have hys := hb.each _ (List.getElem_mem (show k < b.above.length by omega))
    obtain ⟨x, hxe⟩ : ∃ x, a.above[k] = x := ⟨_, rfl⟩
    obtain ⟨y, hye⟩ : ∃ y, (b.above[k]'(by omega)) = y := ⟨_, rfl⟩
    rw [hxe] at hx hgx hxs
    rw [hye] at hy hgy hys
    refine zjk (zi hd (zi hgx (zi hgy (zi hla hlb)))) ?_
    refine c_kSamePrep (a := x) (b := y) hxs hys ?_
    cases he : decide (x = y)
    · refine zao ?_
      refine zq hl ?_
      refine fin _ (decide_eq_false fun h => ?_)
      subst h
      rw [hx] at hy
      have := Option.some.inj hy
      simp [this] at he
    · refine zH (wkc k (by omega)) ?_
      exact zaG.next hlt ⟨rfl, rfl, zbi hx hy htk (by simpa using he)⟩
  have hd : decide ((k : Int) < (a.above.length : Int)) = false := by simp; omega
  have heq_above : a.above = b.above := zca hl2 (k := k) (by omega) htk
  refine zH (zi hd (zi hla hlb)) ?_
  refine zq hl ?_
  exact fin _ (decide_eq_true (by cases a; cases b; simp_all))
theorem gq59 {A P Q : Prop} (a : A) (h : Q) (e : A → Hd Q → P := by intro a h; (repeat' first | simp -dsimp only [↓zey, ↓zay, ↓zbs, ↓zez, ↓zeu, ↓zes, ↓zev, ↓zet, ↓zbx, ↓zbt, ↓zby, ↓zbu, ↓zew, ↓zbr, ↓zbz, ↓zbv, ↓zbA, ↓zbw, ↓zer, ↓zex, ↓zbp, ↓zbB, ↓zep, ↓zeo, ↓zeq, iN, bT, bF, eN, ↓zcv, ↓unC, ↓zU, ↓zI, ↓zJ, ↓zM, ↓zX, ↓zal, ↓zcX, ↓zai, ↓zaJ, ↓zW, ↓zg, ↓zn, ↓zbP, ↓zb, ↓zaf, ↓zD, ↓zaI, ↓zaQ, ↓zd, ↓zF, ↓zj, ↓zG, ↓zam, ↓zdc, ↓zdj, ↓zak, ↓zau, ↓zaL, ↓zaY, ↓zbh, ↓zo, ↓zaj, ↓zK, ↓zr, ↓zV, zdk, zbn, zbk, unA, zdu, bnd, zdG, zae, zO, zdW, dm, dm1, zR, zaF, zea, zdZ, zw, Q0, Q1, Q2, Q3, Q4, Q5, zY, zC, zt, zN, zE, Q6, Q7, Q8, Q9, Q10, Q11, Q12, Q13, Q14, Nat.reduceAdd, Q15, Int.reduceToNat, Q16, Q17, Q18, Q19, Q20, reduceIte, Q21, Q22, zA, rep, zZ, zeB, toD, zap, Q23, Q24, Q25, Q26, Q27, Q28, Nat.reduceLeDiff, Q29, Nat.reduceSub, Q30, Q31, Q32, sc, Q33, Q34, Q35, Q36, Q37, Q26, Q38, Q39, zpZ, zpW, zpT, zqa, zgd, zpX, zpU, zpY, zpV, zgc, zge, zqb, zqc, Bool.not_true, Bool.not_false, List.length_map, bne, zfu, a] | with_reducible refine zqd ?_ | fail); exact h.go) : P := e a ⟨h⟩
theorem gq60 {A P Q : Prop} (a : A) (h : Q) (e : A → Hd Q → P := by intro a h; (repeat' first | simp -dsimp only [↓zey, ↓zay, ↓zbs, ↓zez, ↓zeu, ↓zes, ↓zev, ↓zet, ↓zbx, ↓zbt, ↓zby, ↓zbu, ↓zew, ↓zbr, ↓zbz, ↓zbv, ↓zbA, ↓zbw, ↓zer, ↓zex, ↓zbp, ↓zbB, ↓zep, ↓zeo, ↓zeq, iN, bT, bF, eN, ↓zcv, ↓unC, ↓zU, ↓zI, ↓zJ, ↓zM, ↓zX, ↓zal, ↓zcX, ↓zai, ↓zaJ, ↓zW, ↓zg, ↓zn, ↓zbP, ↓zb, ↓zaf, ↓zD, ↓zaI, ↓zaQ, ↓zd, ↓zF, ↓zj, ↓zG, ↓zam, ↓zdc, ↓zdj, ↓zak, ↓zau, ↓zaL, ↓zaY, ↓zbh, ↓zo, ↓zaj, ↓zK, ↓zr, ↓zV, zdk, zbn, zbk, unA, zdu, bnd, zdG, zae, zO, zdW, dm, dm1, zR, zaF, zea, zdZ, zw, Q0, Q1, Q2, Q3, Q4, Q5, zY, zC, zt, zN, zE, Q6, Q7, Q8, Q9, Q10, Q11, Q12, Q13, Q14, Nat.reduceAdd, Q15, Int.reduceToNat, Q16, Q17, Q18, Q19, Q20, reduceIte, Q21, Q22, zA, rep, zZ, zeB, toD, zap, Q23, Q24, Q25, Q26, Q27, Q28, Nat.reduceLeDiff, Q29, Nat.reduceSub, Q30, Q31, Q32, sc, Q33, Q34, Q35, Q36, Q37, Q26, Q38, Q39, zpZ, zpW, zpT, zqa, zgd, zpX, zpU, zpY, zpV, zgc, zge, zqb, zqc, Bool.not_true, Bool.not_false, List.length_map, beq_self_eq_true, bne, zfu, a] | with_reducible refine zqd ?_ | fail); exact h.go) : P := e a ⟨h⟩
theorem c_kSameProof {σ : List zf} {a b : zlz} (ha : zvI a) {K : KT} (hK : K (.d (.bool (decide (a = b)))) σ) : zm Tryz.prog zis [proofA a, proofA b] σ K := by
  refine zc zmw.is rfl fun hl _ => zmw.goes ?_
  have fin : ∀ z, decide (a = b) = z → K (.d (.bool z)) σ := fun z h => h ▸ hK
  clear hK
  simp only [zmQ, iN, bT, bF, eN]
  have hla1 : ((hdrsE a.headers).length) = a.headers.length := List.length_map ..
  have hlb1 : ((hdrsE b.headers).length) = b.headers.length := List.length_map ..
  have hla2 : ((zop a.path).length) = a.path.length := List.length_map ..
  have hlb2 : ((zop b.path).length) = b.path.length := List.length_map ..
  have hal1 := ha.headers
  have hal2 := ha.path
  cases h1 : (a.topic == b.topic)
  · refine gq57 h1 ?_
    refine zq hl ?_
    exact fin _ (decide_eq_false fun h => by subst h; simp at h1)
  cases h2 : (a.offset == b.offset)
  · refine gq57 (zi h1 h2) ?_
    refine zq hl ?_
    exact fin _ (decide_eq_false fun h => by subst h; simp at h2)
  cases h3 : (a.rec_ == b.rec_)
  · refine gq59 (zi h1 (zi h2 h3)) ?_
    refine zq hl ?_
    exact fin _ (decide_eq_false fun h => by subst h; simp at h3)
  cases h4 : (a.index == b.index)
  · refine gq59 (zi h1 (zi h2 (zi h3 h4))) ?_
    refine zq hl ?_
    exact fin _ (decide_eq_false fun h => by subst h; simp at h4)
  cases h5 : (a.count == b.count)
  · refine gq59 (zi h1 (zi h2 (zi h3 (zi h4 h5)))) ?_
    refine zq hl ?_
    exact fin _ (decide_eq_false fun h => by subst h; simp at h5)
  refine gq60 (zi h1 (zi h2 (zi h3 (zi h4 h5)))) ?_
  refine zqM (a := a.cert) (b := b.cert) ha.signs ?_
  cases h6 : decide (a.cert = b.cert)
  · refine zH h6 ?_
    refine zq hl ?_
    exact fin _ (decide_eq_false fun h => by subst h; simp at h6)
  cases h7 : ((a.headers.length : Int) == (b.headers.length : Int))
  · refine gq57 (zi h6 (zi hla1 (zi hlb1 h7))) ?_
    refine zq hl ?_
    exact fin _ (decide_eq_false fun h => by subst h; simp at h7)
  cases h8 : ((a.path.length : Int) == (b.path.length : Int))
  · refine gq57 (zi h6 (zi hla1 (zi hlb1 (zi h7 (zi hla2 (zi hlb2 h8)))))) ?_
    refine zq hl ?_
    exact fin _ (decide_eq_false fun h => by subst h; simp at h8)
  have hl2 : a.headers.length = b.headers.length := by simp at h7; omega
  have hl3 : a.path.length = b.path.length := by simp at h8; omega
  have hla : ((a.headers.map hdrD).length) = a.headers.length := List.length_map ..
  have hlb : ((b.headers.map hdrD).length) = b.headers.length := List.length_map ..
  refine gq57 (zi h6 (zi hla1 (zi hlb1 (zi h7 (zi hla2 (zi hlb2 (zi h8 (zi hla hlb)))))))) ?_
  refine zl a.headers.length (fun k vs s => vs = [.d (.int .i64 k)] ∧ s = σ ++ [proofO a, proofO b] ∧ a.headers.take k = b.headers.take k) ⟨rfl, rfl, by simp⟩ ?_
  rintro k vs s hk ⟨rfl, rfl, htk⟩
  by_cases hlt : k < a.headers.length
  · have hd : decide ((k : Int) < (a.headers.length : Int)) = true := by simp; omega
    have hx : a.headers[k]? = some a.headers[k] := by simp [hlt]
    have hy : b.headers[k]? = some (b.headers[k]'(by omega)) := List.getElem?_eq_getElem _
    have hgx := zQ (f := hdrD) hx
    have hgy := zQ (f := hdrD) hy
    obtain ⟨x, hxe⟩ : ∃ x, a.headers[k] = x := ⟨_, rfl⟩
    obtain ⟨y, hye⟩ : ∃ y, (b.headers[k]'(by omega)) = y := ⟨_, rfl⟩
    rw [hxe] at hx hgx
    rw [hye] at hy hgy
    have hxy : x = y ↔ ((x.seq == y.seq && (x.prev == y.prev && (x.batch == y.batch && (x.root == y.root && x.state == y.state))))) = true := by cases x; cases y; simp
    cases he2 : ((x.seq == y.seq && (x.prev == y.prev && (x.batch == y.batch && (x.root == y.root && x.state == y.state)))))
    · refine gq52 (zi hd (zi hgx (zi hgy (zi hla (zi hlb he2))))) ?_
      refine zq hl ?_
      refine fin _ (decide_eq_false fun h => ?_)
      subst h
      rw [hx] at hy
      rw [hxy.1 (Option.some.inj hy)] at he2; cases he2
    · refine gq52 (zi hd (zi hgx (zi hgy (zi hla (zi hlb (zi he2 (wkc k (by omega)))))))) ?_
      exact zaG.next hlt ⟨rfl, rfl, zbi hx hy htk (hxy.2 he2)⟩
  have hd : decide ((k : Int) < (a.headers.length : Int)) = false := by simp; omega
  have heq_headers : a.headers = b.headers := zca hl2 (k := k) (by omega) htk
  refine zH (zi hd (zi hla1 (zi hlb1 (zi hla2 hlb2)))) ?_
  have hla : ((a.path.map (fun t => [D.int .i64 t])).length) = a.path.length := List.length_map ..
  have hlb : ((b.path.map (fun t => [D.int .i64 t])).length) = b.path.length := List.length_map ..
  refine gq57 (zi h6 (zi hla1 (zi hlb1 (zi h7 (zi hla2 (zi hlb2 (zi h8 (zi hla hlb)))))))) ?_
  refine zl a.path.length (fun k vs s => vs = [.d (.int .i64 k)] ∧ s = σ ++ [proofO a, proofO b] ∧ a.path.take k = b.path.take k) ⟨rfl, rfl, by simp⟩ ?_
  rintro k vs s hk ⟨rfl, rfl, htk⟩
  by_cases hlt : k < a.path.length
  · have hd : decide ((k : Int) < (a.path.length : Int)) = true := by simp; omega
    have hx : a.path[k]? = some a.path[k] := by simp [hlt]
    have hy : b.path[k]? = some (b.path[k]'(by omega)) := List.getElem?_eq_getElem _
    have hgx := zQ (f := (fun t => [D.int .i64 t])) hx
    have hgy := zQ (f := (fun t => [D.int .i64 t])) hy
    obtain ⟨x, hxe⟩ : ∃ x, a.path[k] = x := ⟨_, rfl⟩
    obtain ⟨y, hye⟩ : ∃ y, (b.path[k]'(by omega)) = y := ⟨_, rfl⟩
    rw [hxe] at hx hgx
    rw [hye] at hy hgy
    have hxy : x = y ↔ (x == y) = true := by simp
    cases he2 : (x == y)
    · refine gq52 (zi hd (zi hgx (zi hgy (zi hla (zi hlb he2))))) ?_
      refine zq hl ?_
      refine fin _ (decide_eq_false fun h => ?_)
      subst h
      rw [hx] at hy
      rw [hxy.1 (Option.some.inj hy)] at he2; cases he2
    · refine gq52 (zi hd (zi hgx (zi hgy (zi hla (zi hlb (zi he2 (wkc k (by omega)))))))) ?_
      exact zaG.next hlt ⟨rfl, rfl, zbi hx hy htk (hxy.2 he2)⟩
  have hd : decide ((k : Int) < (a.path.length : Int)) = false := by simp; omega
  have heq_path : a.path = b.path := zca hl3 (k := k) (by omega) htk
  refine zH (zi hd (zi hla hlb)) ?_
  refine zq hl ?_
  exact fin _ (decide_eq_true (by cases a; cases b; simp_all))
theorem gq61 {A P Q : Prop} (a : A) (h : Q) (e : A → Hd Q → P := by intro a h; (repeat' first | simp -dsimp only [↓zey, ↓zay, ↓zbs, ↓zez, ↓zeu, ↓zes, ↓zev, ↓zet, ↓zbx, ↓zbt, ↓zby, ↓zbu, ↓zew, ↓zbr, ↓zbz, ↓zbv, ↓zbA, ↓zbw, ↓zer, ↓zex, ↓zbp, ↓zbB, ↓zep, ↓zeo, ↓zeq, iN, bT, bF, eN, ↓zcv, ↓unC, ↓zU, ↓zI, ↓zJ, ↓zM, ↓zX, ↓zal, ↓zcX, ↓zai, ↓zaJ, ↓zW, ↓zg, ↓zn, ↓zbP, ↓zb, ↓zaf, ↓zD, ↓zaI, ↓zaQ, ↓zd, ↓zF, ↓zj, ↓zG, ↓zam, ↓zdc, ↓zdj, ↓zak, ↓zau, ↓zaL, ↓zaY, ↓zbh, ↓zo, ↓zaj, ↓zK, ↓zr, ↓zV, zdk, zbn, zbk, unA, zdu, bnd, zdG, zae, zO, zdW, dm, dm1, zR, zaF, zea, zdZ, zw, Q0, Q1, Q2, Q3, Q4, Q5, zY, zC, zt, zN, zE, Q6, Q7, Q8, Q9, Q10, Q11, Q12, Q13, Q14, Nat.reduceAdd, Q15, Int.reduceToNat, Q16, Q17, Q18, Q19, Q20, reduceIte, Q21, Q22, zA, rep, zZ, zeB, toD, zap, Q23, Q24, Q25, Q26, Q27, Q28, Nat.reduceLeDiff, Q29, Nat.reduceSub, Q30, Q31, Q32, sc, Q33, Q34, Q35, Q36, Q37, Q26, Q38, Q39, zpZ, zpW, zpT, zqa, zgd, zpX, zpU, zpY, zpV, zgc, zge, zqb, zqc, Bool.not_true, Bool.not_false, List.length_map, beq_self_eq_true, bne, zcU, a] | with_reducible refine zqd ?_ | fail); exact h.go) : P := e a ⟨h⟩
theorem c_kSame {σ : List zf} {a b : zgs} (ha : zdX a) (hb : zdX b) {K : KT} (hK : K (.d (.bool (decide (a = b)))) σ) : zm Tryz.prog zqp [zqx a, zqx b] σ K := by
  refine zc zuN.is rfl fun hl _ => zuN.goes ?_
  have fin : ∀ z, decide (a = b) = z → K (.d (.bool z)) σ := fun z h => h ▸ hK
  clear hK
  simp only [zvu, iN, bT, bF, eN]
  have hla : ((zaP a.changes).length) = a.changes.length := List.length_map ..
  have hlb : ((zaP b.changes).length) = b.changes.length := List.length_map ..
  have hal := ha.changes
  cases h1 : (a.kind == b.kind)
  · refine gq57 h1 ?_
    refine zq hl ?_
    exact fin _ (decide_eq_false fun h => by subst h; simp at h1)
  cases h2 : (a.src == b.src)
  · refine gq57 (zi h1 h2) ?_
    refine zq hl ?_
    exact fin _ (decide_eq_false fun h => by subst h; simp at h2)
  cases h3 : (a.view == b.view)
  · refine gq57 (zi h1 (zi h2 h3)) ?_
    refine zq hl ?_
    exact fin _ (decide_eq_false fun h => by subst h; simp at h3)
  cases h4 : (a.seq == b.seq)
  · refine gq57 (zi h1 (zi h2 (zi h3 h4))) ?_
    refine zq hl ?_
    exact fin _ (decide_eq_false fun h => by subst h; simp at h4)
  cases h5 : (a.dig == b.dig)
  · refine gq57 (zi h1 (zi h2 (zi h3 (zi h4 h5)))) ?_
    refine zq hl ?_
    exact fin _ (decide_eq_false fun h => by subst h; simp at h5)
  cases h6 : (a.client == b.client)
  · refine gq57 (zi h1 (zi h2 (zi h3 (zi h4 (zi h5 h6))))) ?_
    refine zq hl ?_
    exact fin _ (decide_eq_false fun h => by subst h; simp at h6)
  cases h7 : (a.time == b.time)
  · refine gq57 (zi h1 (zi h2 (zi h3 (zi h4 (zi h5 (zi h6 h7)))))) ?_
    refine zq hl ?_
    exact fin _ (decide_eq_false fun h => by subst h; simp at h7)
  cases h8 : (a.rerr == b.rerr && a.roff == b.roff)
  · refine gq52 (zi h1 (zi h2 (zi h3 (zi h4 (zi h5 (zi h6 (zi h7 h8))))))) ?_
    refine zq hl ?_
    exact fin _ (decide_eq_false fun h => by subst h; simp at h8)
  cases h9 : (a.topic == b.topic)
  · refine gq52 (zi h1 (zi h2 (zi h3 (zi h4 (zi h5 (zi h6 (zi h7 (zi h8 h9)))))))) ?_
    refine zq hl ?_
    exact fin _ (decide_eq_false fun h => by subst h; simp at h9)
  cases h10 : (a.offset == b.offset)
  · refine gq52 (zi h1 (zi h2 (zi h3 (zi h4 (zi h5 (zi h6 (zi h7 (zi h8 (zi h9 h10))))))))) ?_
    refine zq hl ?_
    exact fin _ (decide_eq_false fun h => by subst h; simp at h10)
  cases h11 : (a.key == b.key && a.sdig == b.sdig)
  · refine gq52 (zi h1 (zi h2 (zi h3 (zi h4 (zi h5 (zi h6 (zi h7 (zi h8 (zi h9 (zi h10 h11)))))))))) ?_
    refine zq hl ?_
    exact fin _ (decide_eq_false fun h => by subst h; simp at h11)
  refine gq61 (zi h1 (zi h2 (zi h3 (zi h4 (zi h5 (zi h6 (zi h7 (zi h8 (zi h9 (zi h10 h11)))))))))) ?_
  refine zwl ha.batchS hb.batchS ?_
  cases h12 : decide (a.batch = b.batch)
  · refine zH h12 ?_
    refine zq hl ?_
    exact fin _ (decide_eq_false fun h => by subst h; simp at h12)
  refine gq53 h12 ?_
  refine zqM (a := a.cert) (b := b.cert) ha.signs ?_
  cases h13 : decide (a.cert = b.cert)
  · refine zH h13 ?_
    refine zq hl ?_
    exact fin _ (decide_eq_false fun h => by subst h; simp at h13)
  refine gq53 h13 ?_
  refine zwj ha.entries (fun x hx => (ha.entry x hx).2) (fun x hx => (hb.entry x hx).2) ?_
  cases h14 : decide (a.entries = b.entries)
  · refine zH h14 ?_
    refine zq hl ?_
    exact fin _ (decide_eq_false fun h => by subst h; simp at h14)
  cases h15 : (a.state == b.state)
  · refine gq59 (zi h14 h15) ?_
    refine zq hl ?_
    exact fin _ (decide_eq_false fun h => by subst h; simp at h15)
  refine gq60 (zi h14 h15) ?_
  refine c_kSameProof (a := a.proof) (b := b.proof) ha.proof ?_
  cases h16 : decide (a.proof = b.proof)
  · refine zH h16 ?_
    refine zq hl ?_
    exact fin _ (decide_eq_false fun h => by subst h; simp at h16)
  cases h17 : ((a.changes.length : Int) == (b.changes.length : Int))
  · refine gq57 (zi h16 (zi hla (zi hlb h17))) ?_
    refine zq hl ?_
    exact fin _ (decide_eq_false fun h => by subst h; simp at h17)
  have hl2 : a.changes.length = b.changes.length := by simp at h17; omega
  have hla : ((a.changes.map zbm).length) = a.changes.length := List.length_map ..
  have hlb : ((b.changes.map zbm).length) = b.changes.length := List.length_map ..
  refine gq57 (zi h16 (zi hla (zi hlb (zi h17 (zi hla hlb))))) ?_
  refine zl a.changes.length (fun k vs s => vs = [.d (.int .i64 k)] ∧ s = σ ++ [msgO a, msgO b] ∧ a.changes.take k = b.changes.take k) ⟨rfl, rfl, by simp⟩ ?_
  rintro k vs s hk ⟨rfl, rfl, htk⟩
  by_cases hlt : k < a.changes.length
  · have hd : decide ((k : Int) < (a.changes.length : Int)) = true := by simp; omega
    have hx : a.changes[k]? = some a.changes[k] := by simp [hlt]
    have hy : b.changes[k]? = some (b.changes[k]'(by omega)) := List.getElem?_eq_getElem _
    have hgx := zQ (f := zbm) hx
    have hgy := zQ (f := zbm) hy
    have hxs := (ha.change _ (List.getElem_mem hlt)).2
    have hys := (hb.change _ (List.getElem_mem (show k < b.changes.length by omega))).2
    obtain ⟨x, hxe⟩ : ∃ x, a.changes[k] = x := ⟨_, rfl⟩
    obtain ⟨y, hye⟩ : ∃ y, (b.changes[k]'(by omega)) = y := ⟨_, rfl⟩
    rw [hxe] at hx hgx hxs
    rw [hye] at hy hgy hys
    refine zjk (zi hd (zi hgx (zi hgy (zi hla hlb)))) ?_
    refine zwq (a := x) (b := y) hxs hys ?_
    cases he : decide (x = y)
    · refine zao ?_
      refine zq hl ?_
      refine fin _ (decide_eq_false fun h => ?_)
      subst h
      rw [hx] at hy
      have := Option.some.inj hy
      simp [this] at he
    · refine zH (wkc k (by omega)) ?_
      exact zaG.next hlt ⟨rfl, rfl, zbi hx hy htk (by simpa using he)⟩
  have hd : decide ((k : Int) < (a.changes.length : Int)) = false := by simp; omega
  have heq_changes : a.changes = b.changes := zca hl2 (k := k) (by omega) htk
  refine zH (zi hd (zi hla hlb)) ?_
  refine zq hl ?_
  exact fin _ (decide_eq_true (by cases a; cases b; simp_all))
end Go.Proofs.YtpgahkdjkanblaaGreat
