/- Contracts: what a new view goes on with, by the reference. -/
import Derived.Test.YtpgahkdjkanblaaGreatNv2
import Derived.Test.YtpgahkdjkanblaaGreatSpOp
set_option linter.all false
set_option maxRecDepth 100000
set_option linter.unusedSimpArgs false
set_option linter.unusedVariables false
namespace Go.Proofs.YtpgahkdjkanblaaGreat
open Go.AW

end Go.Proofs.YtpgahkdjkanblaaGreat

/- What holds little has short lists. No program in sight. -/
set_option linter.unusedSimpArgs false
namespace Go.AW

theorem zhs {α : Type} {f : α → List D} (h : ∀ a, 1 ≤ zer (f a)) : ∀ (l : List α), l.length ≤ zeO (l.map f)
  | [] => Nat.zero_le _
  | a :: l => by have := h a; have := zhs h l; simp only [List.map_cons, List.length_cons, zeO]; omega
theorem zgf {α : Type} {f : α → List D} {a : α} : ∀ {l : List α}, a ∈ l → zer (f a) ≤ zeO (l.map f)
  | b :: l, h => by
    simp only [List.map_cons, zeO]
    rcases List.mem_cons.1 h with rfl | h
    · omega
    · have := zgf (f := f) h; omega
theorem zof (rs : List (List UInt8)) : rs.length ≤ zeO (zgh rs) ∧ ∀ r ∈ rs, r.length ≤ zeO (zgh rs) := by
  refine ⟨zhs (f := fun r => [D.slice (bcs r)]) (fun r => by simp only [zer, zhU]; omega) rs, fun r hr => ?_⟩
  have := zgf (f := fun r => [D.slice (bcs r)]) hr
  simp only [zer, zhU, bulk_bcs] at this
  unfold zgh
  omega
def leB (n : Nat) (b : List zu) : Prop := b.length ≤ n ∧ ∀ x ∈ b, x.op.recs.length ≤ n ∧ ∀ r ∈ x.op.recs, r.length ≤ n
theorem leB_bulk {b : List zu} {n : Nat} (h : zeO (zbD b) ≤ n) : leB n b := by
  unfold zbD at h
  refine ⟨Nat.le_trans (zhs (f := zbl) (fun a => by simp only [zbl, zer, zhU]; omega) b) h, fun x hx => ?_⟩
  have := zgf (f := zbl) hx
  simp only [zbl, zer, zhU] at this
  have h2 := zof x.op.recs
  refine ⟨by omega, fun r hr => ?_⟩
  have := h2.2 r hr
  omega
def leP (n : Nat) (p : zca) : Prop := p.signs.length ≤ n ∧ leB n p.batch
theorem zpZ (l : List zt) : l.length ≤ zeO (zab l) := zhs (f := zgH) (fun a => by simp only [zgH, zer, zhU]; omega) l
theorem leP_bulk {p : zca} {n : Nat} (h : zer (zgI p) ≤ n) : leP n p := by
  simp only [zgI, zer, zhU] at h
  have := zpZ p.signs
  exact ⟨by omega, leB_bulk (by omega)⟩
theorem leC_bulk {cs : List zO} {n : Nat} (h : zeO (zaL cs) ≤ n) : cs.length ≤ n ∧ ∀ c ∈ cs, c.cert.signs.length ≤ n ∧ c.above.length ≤ n ∧ ∀ p ∈ c.above, leP n p := by
  unfold zaL at h
  refine ⟨Nat.le_trans (zhs (f := zbH) (fun a => by simp only [zbH, zer, zhU]; omega) cs) h, fun c hc => ?_⟩
  have := zgf (f := zbH) hc
  simp only [zbH, zer, zhU] at this
  have h1 := zpZ c.cert.signs
  have h2 := zhs (f := zgI) (fun a => by simp only [zgI, zer, zhU]; omega) c.above
  refine ⟨by omega, by unfold zfG at this; omega, fun p hp => leP_bulk ?_⟩
  have := zgf (f := zgI) hp
  unfold zfG at *
  omega
end Go.AW

/- The laws NewviewSelects and NewviewGaps, from the contracts. -/
set_option maxRecDepth 100000
set_option linter.unusedSimpArgs false
set_option linter.unusedVariables false
namespace Go.Proofs.YtpgahkdjkanblaaGreat
open Go.AW

def one16 : List zu := [⟨1, 1, noOp, 14, 1⟩]
def l16 : List zO := [⟨0, 0, ziU, [⟨0, 1, 0, 0, 0, [], one16⟩, ⟨0, 3, 0, 0, 0, [], []⟩], 0, 0⟩, ⟨0, 1, ziU, [], 0, 0⟩, ⟨0, 3, ziU, [⟨1, 3, 0, 0, 0, [], one16⟩], 0, 0⟩]
theorem sel16 : zga 1 2 l16 = (ziU, [⟨2, 1, one16, 0, 0⟩, ⟨2, 2, [], 0, 0⟩, ⟨2, 3, one16, 0, 0⟩], 0) := by decide +kernel
theorem small16 : ztp l16 := by simp [ztp, l16, ziR, one16, ziU, noOp]
theorem range16 : ∀ c ∈ l16, zik c := by simp [l16, zik, prepR, znV, ziU]
theorem gq25 {P Q : Prop} (h : Q) (e : P = Q := by simp -dsimp only [↓zfa, ↓zat, ↓zbt, ↓zfb, ↓zeW, ↓zeU, ↓zeX, ↓zeV, ↓zby, ↓zbu, ↓zbz, ↓zbv, ↓zeY, ↓zbs, ↓zbA, ↓zbw, ↓zbB, ↓zbx, ↓zeT, ↓zeZ, ↓zbr, ↓zbC, ↓zeQ, ↓zeP, ↓zeS, iN, bT, bF, eN, ↓zcO, ↓unC, ↓zP, ↓zG, ↓zH, ↓zK, ↓zW, ↓zaz, ↓zdn, ↓zau, ↓zbf, ↓zQ, ↓zg, ↓zf, ↓zbY, ↓zb, ↓zae, ↓zL, ↓zaN, ↓zaO, ↓zc, ↓zB, ↓zj, ↓zE, ↓zY, ↓zdz, ↓zdA, ↓zam, ↓zap, ↓zaK, ↓zaV, ↓zbj, ↓zm, ↓zai, ↓zJ, ↓zr, ↓zT, zdD, zbo, zbk, unA, zcZ, bnd, zdZ, zac, zR, zdT, dm, dm1, zI, zan, zeq, zep, zZ, Q0, Q1, Q2, Q3, Q4, Q5, zX, zn, zo, zF, zA, Q6, Q7, Q8, Q9, Q10, Q11, Q12, Q13, Q14, Nat.reduceAdd, Q15, Int.reduceToNat, Q16, Q17, Q18, Q19, Q20, reduceIte, Q21, Q22, zw, rep, zU, zeo, toD, zaa, Q23, Q24, Q25, Q26, Q27, Q28, Nat.reduceLeDiff, Q29, Nat.reduceSub, Q30, Q31, Q32, sc, Q33, Q34, Q35, beq_self_eq_true, Bool.not_false, Bool.not_true, bne_self_eq_false]; rfl) : P := e.mpr h
theorem gq26 {A P Q : Prop} (a : A) (h : Q) (e : A → P = Q := by intro a; simp -dsimp only [↓zfa, ↓zat, ↓zbt, ↓zfb, ↓zeW, ↓zeU, ↓zeX, ↓zeV, ↓zby, ↓zbu, ↓zbz, ↓zbv, ↓zeY, ↓zbs, ↓zbA, ↓zbw, ↓zbB, ↓zbx, ↓zeT, ↓zeZ, ↓zbr, ↓zbC, ↓zeQ, ↓zeP, ↓zeS, iN, bT, bF, eN, ↓zcO, ↓unC, ↓zP, ↓zG, ↓zH, ↓zK, ↓zW, ↓zaz, ↓zdn, ↓zau, ↓zbf, ↓zQ, ↓zg, ↓zf, ↓zbY, ↓zb, ↓zae, ↓zL, ↓zaN, ↓zaO, ↓zc, ↓zB, ↓zj, ↓zE, ↓zY, ↓zdz, ↓zdA, ↓zam, ↓zap, ↓zaK, ↓zaV, ↓zbj, ↓zm, ↓zai, ↓zJ, ↓zr, ↓zT, zdD, zbo, zbk, unA, zcZ, bnd, zdZ, zac, zR, zdT, dm, dm1, zI, zan, zeq, zep, zZ, Q0, Q1, Q2, Q3, Q4, Q5, zX, zn, zo, zF, zA, Q6, Q7, Q8, Q9, Q10, Q11, Q12, Q13, Q14, Nat.reduceAdd, Q15, Int.reduceToNat, Q16, Q17, Q18, Q19, Q20, reduceIte, Q21, Q22, zw, rep, zU, zeo, toD, zaa, Q23, Q24, Q25, Q26, Q27, Q28, Nat.reduceLeDiff, Q29, Nat.reduceSub, Q30, Q31, Q32, sc, Q33, Q34, Q35, beq_self_eq_true, Bool.not_false, Bool.not_true, bne_self_eq_false, a]; rfl) : P := (e a).mpr h
theorem zsD {σ : List zd} {K : KT} (hK : K (.d (.bool true)) σ) : zl Tryz.prog zlp [] σ K := by
  refine ze zso.is rfl fun hl _ => zso.goes ?_
  simp only [zsN, iN, bT, bF, eN]
  (refine gq25 ?_; try with_reducible exact True.intro)
  have key : ∃ B1 : List (List D), B1.length = 1 ∧ ∀ (σ : List zd) (K : KT), K (.tup [.agg [.d (.int .i64 0), .d (.int .i64 0), .d (.slice [])], .d (.slice [[.int .i64 2, .int .i64 1, .slice B1, .int .i64 0, .int .i64 0], [.int .i64 2, .int .i64 2, .slice [], .int .i64 0, .int .i64 0], [.int .i64 2, .int .i64 3, .slice B1, .int .i64 0, .int .i64 0]]), .d (.int .i64 0)]) σ → zl Tryz.prog zcn [.d (.int .i64 1), .d (.int .i64 2), .d (.slice (zaL l16))] σ K := by
    refine ⟨zbD one16, rfl, fun σ K hK => ?_⟩
    refine zqG small16 range16 ?_
    rw [sel16]
    exact hK
  obtain ⟨B1, hB1, key⟩ := key
  refine key _ _ ?_
  clear key
  have hB2 : ((B1.length : Int) == 1) = true := by rw [hB1]; rfl
  have e3 : (((3 : Nat) : Int) == 3) = true := rfl
  have e0 : (((0 : Nat) : Int) == 0) = true := rfl
  (refine gq26 (zS e3 (zS e0 hB2)) ?_; try with_reducible exact True.intro)
  refine ⟨by omega, by omega, by omega, by omega, by omega, ?_⟩
  refine zV hl ?_
  exact hK
theorem selF_small {f view : Int} {cs : List zO} (hs : ztp cs) : (zga f view cs).1.signs.length ≤ 1073741824 ∧ (zga f view cs).2.1.length ≤ 8 ∧ ∀ x ∈ (zga f view cs).2.1, ziR x.batch := by
  obtain ⟨hs1, hs2⟩ := hs
  have nil : (ziU, ([] : List zaI), zmw f view cs).1.signs.length ≤ 1073741824 := by simp [ziU]
  unfold zga
  split
  · exact ⟨by simp [ziU], by simp, by simp⟩
  · rename_i h0
    obtain ⟨hne, _⟩ := mayF_ne (by simpa using h0)
    obtain ⟨c0, hc0, hcb⟩ := zpG (cs := cs) (Nat.le_refl _) hne
    have hb := (hs2 c0 hc0).1
    rw [← hcb] at hb
    simp only
    split
    · exact ⟨hb, by simp, by simp⟩
    · refine ⟨hb, ?_, ?_⟩
      · have := zrZ (zdU (zee cs cs.length)) (zmx cs cs.length).seq
        simpa [zks] using this
      · intro x hx
        simp only [zks, List.mem_map, List.mem_range] at hx
        obtain ⟨n, _, rfl⟩ := hx
        simp only [entAt]
        cases ho : zuK (zee cs cs.length) ((zmx cs cs.length).seq + n + 1) with
        | none => exact ⟨by simp [zqM], by simp [zqM]⟩
        | some p =>
          obtain ⟨c, hc, hp⟩ := zlk (zuJ ho).2
          exact (hs2 c hc).2.2 p hp
end Go.Proofs.YtpgahkdjkanblaaGreat
