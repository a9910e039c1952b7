/- Contracts: publishers ask, and take replies. -/
import Derived.Test.YtdgcepphjnoalaaGreatPq2
import Derived.Test.YtdgcepphjnoalaaGreatOpC
set_option linter.all false
set_option maxRecDepth 100000
set_option linter.unusedSimpArgs false
set_option linter.unusedVariables false
namespace Go.Proofs.YtdgcepphjnoalaaGreat
open Go.AW

def fsay (k : Int) : List (Int × Int × Int) → Nat → Option (Nat × (Int × Int))
  | [], _ => none
  | e :: r, i => if k = e.1 then some (i, e.2) else fsay k r (i + 1)
theorem zpO (s : Int) : ∀ (l : List (Int × Int × Int)) (i : Nat), zjq .int (.d (.int .i64 s)) (zeW l) i = some ((fsay s l i).map fun q => (q.1, .agg [.d (.int .i64 q.2.1), .d (.int .i64 q.2.2)]))
  | [], _ => rfl
  | e :: r, i => by
    simp only [zeW, List.map_cons, zjq, zfn, if_true, fsay]
    by_cases h : s = e.1
    · simp [h]
    · have : (s == e.1) = false := by simpa using h
      simp only [this, if_neg h]
      exact zpO s r (i + 1)
def zfB (l : List (Int × Int × Int)) (k a b : Int) : List (Int × Int × Int) := match fsay k l 0 with
  | some q => l.set q.1 (k, a, b)
  | none => l ++ [(k, a, b)]
theorem says_set (l : List (Int × Int × Int)) (i : Nat) (k a b : Int) : (zeW l).set i (.d (.int .i64 k), .agg [.d (.int .i64 a), .d (.int .i64 b)]) = zeW (l.set i (k, a, b)) := by
  simp only [zeW, List.map_set]
theorem says_add (l : List (Int × Int × Int)) (k a b : Int) : zeW l ++ [(.d (.int .i64 k), .agg [.d (.int .i64 a), .d (.int .i64 b)])] = zeW (l ++ [(k, a, b)]) := by simp
theorem lowSays (n : Nat) (l : List (Int × Int × Int)) : zqv n (.map (zeW l)) := by
  intro e he
  obtain ⟨x, _, rfl⟩ := List.mem_map.1 he
  refine ⟨.d _, .agg _ fun c hc => ?_⟩
  simp only [List.mem_cons, List.not_mem_nil, or_false] at hc
  rcases hc with rfl | rfl <;> exact .d _
abbrev ansD (s : zt) (a b : Int) : List D := [.int .i64 s.client, .int .i64 s.time, .int .i64 s.op.kind, .str s.op.topic, .str s.op.group, .int .i64 s.op.offset, .slice (zeE s.op.recs), .int .i64 a, .int .i64 b]
theorem ends_take2 {n : Nat} {σ' S : List zc} {K : AV → List zc → Prop} {l : List AV} (h : S.take n = σ') (h1 : Low n (dmT (zdg l))) (hl : zfz n σ') (hK : K (dmT (zdg l)) σ') : AW.Ends n K (some l) S := by
  unfold AW.Ends
  rw [h]
  exact ⟨h1, hl, hK⟩
section

variable {σ : List zc} {K : AV → List zc → Prop}

theorem c_quSmall {f : Int} (hK : K (.d (.int .i64 (zlc 1 f))) σ) : zl Tryz.prog zhr [.d (.int .i64 f)] σ K := by
  refine zfT zpq fun hl => ?_
  simp only [zkp, iN, bT, bF, eN]
  refine zaP ?_
  refine c_times (by omega) ?_
  refine zaP ?_
  refine zap hl ?_
  exact hK
theorem gq39 {A P Q : Prop} (a : A) (h : Q) (e : A → Hd Q → P := by intro a h; (repeat' first | simp -dsimp only [↓zgn, ↓zaG, ↓zca, ↓zgo, ↓zgh, ↓zgf, ↓zgi, ↓zgg, ↓zcf, ↓zcb, ↓zcg, ↓zcc, ↓zgj, ↓zbW, ↓zch, ↓zcd, ↓zci, ↓zce, ↓zge, ↓zgl, ↓zbV, ↓zck, ↓zgb, ↓zga, ↓zgd, iN, bT, bF, eN, ↓zds, ↓unC, ↓zX, ↓zJ, ↓zK, ↓zM, ↓zal, ↓zaV, ↓zdU, ↓zay, ↓zbD, ↓zR, ↓zi, ↓zg, ↓zbr, ↓zd, ↓zan, ↓zO, ↓zbf, ↓zbg, ↓zf, ↓zB, ↓zn, ↓zD, ↓zZ, ↓zeb, ↓zes, ↓zaq, ↓zaC, ↓zbe, ↓zbl, ↓zbG, ↓zp, ↓zao, ↓zL, ↓zr, ↓zaj, zen, zbP, zbL, unA, zdF, bnd, zeV, zaf, zac, zeF, dm, dm1, zQ, zaz, zfy, zfx, zI, Q0, Q1, Q2, Q3, Q4, Q5, zam, zw, zu, zN, zG, Q6, Q7, Q8, Q9, Q10, Q11, Q12, Q13, Q14, Nat.reduceAdd, Q15, Int.reduceToNat, Q16, Q17, Q18, Q19, Q20, reduceIte, Q21, Q22, zC, rep, zV, zfi, toD, zad, Q23, Q24, Q25, Q26, Q27, Q28, Nat.reduceLeDiff, Q29, Nat.reduceSub, Q30, Q31, Q32, sc, Q33, Q34, Q35, Q36, Q37, Q26, Q38, Q39, zmU, zmR, zmO, zmV, zfD, zmS, zmP, zmT, zmQ, zfC, zfE, zmY, zmZ, Bool.not_true, Bool.not_false, List.length_map, List.length_cons, List.length_nil, a] | with_reducible refine zni ?_ | fail); exact h.go) : P := e a ⟨h⟩
theorem gq40 {A P Q : Prop} (a : A) (h : Q) (e : A → Hd Q → P := by intro a h; (repeat' first | simp -dsimp only [↓zgn, ↓zaG, ↓zca, ↓zgo, ↓zgh, ↓zgf, ↓zgi, ↓zgg, ↓zcf, ↓zcb, ↓zcg, ↓zcc, ↓zgj, ↓zbW, ↓zch, ↓zcd, ↓zci, ↓zce, ↓zge, ↓zgl, ↓zbV, ↓zck, ↓zgb, ↓zga, ↓zgd, iN, bT, bF, eN, ↓zds, ↓unC, ↓zX, ↓zJ, ↓zK, ↓zM, ↓zal, ↓zaV, ↓zdU, ↓zay, ↓zbD, ↓zR, ↓zi, ↓zg, ↓zbr, ↓zd, ↓zan, ↓zO, ↓zbf, ↓zbg, ↓zf, ↓zB, ↓zn, ↓zD, ↓zZ, ↓zeb, ↓zes, ↓zaq, ↓zaC, ↓zbe, ↓zbl, ↓zbG, ↓zp, ↓zao, ↓zL, ↓zr, ↓zaj, zen, zbP, zbL, unA, zdF, bnd, zeV, zaf, zac, zeF, dm, dm1, zQ, zaz, zfy, zfx, zI, Q0, Q1, Q2, Q3, Q4, Q5, zam, zw, zu, zN, zG, Q6, Q7, Q8, Q9, Q10, Q11, Q12, Q13, Q14, Nat.reduceAdd, Q15, Int.reduceToNat, Q16, Q17, Q18, Q19, Q20, reduceIte, Q21, Q22, zC, rep, zV, zfi, toD, zad, Q23, Q24, Q25, Q26, Q27, Q28, Nat.reduceLeDiff, Q29, Nat.reduceSub, Q30, Q31, Q32, sc, Q33, Q34, Q35, Q36, Q37, Q26, Q38, Q39, zmU, zmR, zmO, zmV, zfD, zmS, zmP, zmT, zmQ, zfC, zfE, zmY, zmZ, Bool.not_true, Bool.not_false, List.length_map, Option.map_none, zeh, zbl, says_add, a] | with_reducible refine zni ?_ | fail); exact h.go) : P := e a ⟨h⟩
theorem gq41 {A P Q : Prop} (a : A) (h : Q) (e : A → Hd Q → P := by intro a h; (repeat' first | simp -dsimp only [↓zgn, ↓zaG, ↓zca, ↓zgo, ↓zgh, ↓zgf, ↓zgi, ↓zgg, ↓zcf, ↓zcb, ↓zcg, ↓zcc, ↓zgj, ↓zbW, ↓zch, ↓zcd, ↓zci, ↓zce, ↓zge, ↓zgl, ↓zbV, ↓zck, ↓zgb, ↓zga, ↓zgd, iN, bT, bF, eN, ↓zds, ↓unC, ↓zX, ↓zJ, ↓zK, ↓zM, ↓zal, ↓zaV, ↓zdU, ↓zay, ↓zbD, ↓zR, ↓zi, ↓zg, ↓zbr, ↓zd, ↓zan, ↓zO, ↓zbf, ↓zbg, ↓zf, ↓zB, ↓zn, ↓zD, ↓zZ, ↓zeb, ↓zes, ↓zaq, ↓zaC, ↓zbe, ↓zbl, ↓zbG, ↓zp, ↓zao, ↓zL, ↓zr, ↓zaj, zen, zbP, zbL, unA, zdF, bnd, zeV, zaf, zac, zeF, dm, dm1, zQ, zaz, zfy, zfx, zI, Q0, Q1, Q2, Q3, Q4, Q5, zam, zw, zu, zN, zG, Q6, Q7, Q8, Q9, Q10, Q11, Q12, Q13, Q14, Nat.reduceAdd, Q15, Int.reduceToNat, Q16, Q17, Q18, Q19, Q20, reduceIte, Q21, Q22, zC, rep, zV, zfi, toD, zad, Q23, Q24, Q25, Q26, Q27, Q28, Nat.reduceLeDiff, Q29, Nat.reduceSub, Q30, Q31, Q32, sc, Q33, Q34, Q35, Q36, Q37, Q26, Q38, Q39, zmU, zmR, zmO, zmV, zfD, zmS, zmP, zmT, zmQ, zfC, zfE, zmY, zmZ, Bool.not_true, Bool.not_false, List.length_map, says_add, a] | with_reducible refine zni ?_ | fail); exact h.go) : P := e a ⟨h⟩
theorem gq42 {A P Q : Prop} (a : A) (h : Q) (e : A → Hd Q → P := by intro a h; (repeat' first | simp -dsimp only [↓zgn, ↓zaG, ↓zca, ↓zgo, ↓zgh, ↓zgf, ↓zgi, ↓zgg, ↓zcf, ↓zcb, ↓zcg, ↓zcc, ↓zgj, ↓zbW, ↓zch, ↓zcd, ↓zci, ↓zce, ↓zge, ↓zgl, ↓zbV, ↓zck, ↓zgb, ↓zga, ↓zgd, iN, bT, bF, eN, ↓zds, ↓unC, ↓zX, ↓zJ, ↓zK, ↓zM, ↓zal, ↓zaV, ↓zdU, ↓zay, ↓zbD, ↓zR, ↓zi, ↓zg, ↓zbr, ↓zd, ↓zan, ↓zO, ↓zbf, ↓zbg, ↓zf, ↓zB, ↓zn, ↓zD, ↓zZ, ↓zeb, ↓zes, ↓zaq, ↓zaC, ↓zbe, ↓zbl, ↓zbG, ↓zp, ↓zao, ↓zL, ↓zr, ↓zaj, zen, zbP, zbL, unA, zdF, bnd, zeV, zaf, zac, zeF, dm, dm1, zQ, zaz, zfy, zfx, zI, Q0, Q1, Q2, Q3, Q4, Q5, zam, zw, zu, zN, zG, Q6, Q7, Q8, Q9, Q10, Q11, Q12, Q13, Q14, Nat.reduceAdd, Q15, Int.reduceToNat, Q16, Q17, Q18, Q19, Q20, reduceIte, Q21, Q22, zC, rep, zV, zfi, toD, zad, Q23, Q24, Q25, Q26, Q27, Q28, Nat.reduceLeDiff, Q29, Nat.reduceSub, Q30, Q31, Q32, sc, Q33, Q34, Q35, Q36, Q37, Q26, Q38, Q39, zmU, zmR, zmO, zmV, zfD, zmS, zmP, zmT, zmQ, zfC, zfE, zmY, zmZ, Bool.not_true, Bool.not_false, List.length_map, List.length_cons, List.length_nil, List.set_set, zaH, a] | with_reducible refine zni ?_ | fail); exact h.go) : P := e a ⟨h⟩
theorem gq43 {A P Q : Prop} (a : A) (h : Q) (e : A → Hd Q → P := by intro a h; (repeat' first | simp -dsimp only [↓zgn, ↓zaG, ↓zca, ↓zgo, ↓zgh, ↓zgf, ↓zgi, ↓zgg, ↓zcf, ↓zcb, ↓zcg, ↓zcc, ↓zgj, ↓zbW, ↓zch, ↓zcd, ↓zci, ↓zce, ↓zge, ↓zgl, ↓zbV, ↓zck, ↓zgb, ↓zga, ↓zgd, iN, bT, bF, eN, ↓zds, ↓unC, ↓zX, ↓zJ, ↓zK, ↓zM, ↓zal, ↓zaV, ↓zdU, ↓zay, ↓zbD, ↓zR, ↓zi, ↓zg, ↓zbr, ↓zd, ↓zan, ↓zO, ↓zbf, ↓zbg, ↓zf, ↓zB, ↓zn, ↓zD, ↓zZ, ↓zeb, ↓zes, ↓zaq, ↓zaC, ↓zbe, ↓zbl, ↓zbG, ↓zp, ↓zao, ↓zL, ↓zr, ↓zaj, zen, zbP, zbL, unA, zdF, bnd, zeV, zaf, zac, zeF, dm, dm1, zQ, zaz, zfy, zfx, zI, Q0, Q1, Q2, Q3, Q4, Q5, zam, zw, zu, zN, zG, Q6, Q7, Q8, Q9, Q10, Q11, Q12, Q13, Q14, Nat.reduceAdd, Q15, Int.reduceToNat, Q16, Q17, Q18, Q19, Q20, reduceIte, Q21, Q22, zC, rep, zV, zfi, toD, zad, Q23, Q24, Q25, Q26, Q27, Q28, Nat.reduceLeDiff, Q29, Nat.reduceSub, Q30, Q31, Q32, sc, Q33, Q34, Q35, Q36, Q37, Q26, Q38, Q39, zmU, zmR, zmO, zmV, zfD, zmS, zmP, zmT, zmQ, zfC, zfE, zmY, zmZ, Bool.not_true, Bool.not_false, List.length_map, Option.map_some, zeh, zbl, says_set, a] | with_reducible refine zni ?_ | fail); exact h.go) : P := e a ⟨h⟩
theorem gq44 {A P Q : Prop} (a : A) (h : Q) (e : A → Hd Q → P := by intro a h; (repeat' first | simp -dsimp only [↓zgn, ↓zaG, ↓zca, ↓zgo, ↓zgh, ↓zgf, ↓zgi, ↓zgg, ↓zcf, ↓zcb, ↓zcg, ↓zcc, ↓zgj, ↓zbW, ↓zch, ↓zcd, ↓zci, ↓zce, ↓zge, ↓zgl, ↓zbV, ↓zck, ↓zgb, ↓zga, ↓zgd, iN, bT, bF, eN, ↓zds, ↓unC, ↓zX, ↓zJ, ↓zK, ↓zM, ↓zal, ↓zaV, ↓zdU, ↓zay, ↓zbD, ↓zR, ↓zi, ↓zg, ↓zbr, ↓zd, ↓zan, ↓zO, ↓zbf, ↓zbg, ↓zf, ↓zB, ↓zn, ↓zD, ↓zZ, ↓zeb, ↓zes, ↓zaq, ↓zaC, ↓zbe, ↓zbl, ↓zbG, ↓zp, ↓zao, ↓zL, ↓zr, ↓zaj, zen, zbP, zbL, unA, zdF, bnd, zeV, zaf, zac, zeF, dm, dm1, zQ, zaz, zfy, zfx, zI, Q0, Q1, Q2, Q3, Q4, Q5, zam, zw, zu, zN, zG, Q6, Q7, Q8, Q9, Q10, Q11, Q12, Q13, Q14, Nat.reduceAdd, Q15, Int.reduceToNat, Q16, Q17, Q18, Q19, Q20, reduceIte, Q21, Q22, zC, rep, zV, zfi, toD, zad, Q23, Q24, Q25, Q26, Q27, Q28, Nat.reduceLeDiff, Q29, Nat.reduceSub, Q30, Q31, Q32, sc, Q33, Q34, Q35, Q36, Q37, Q26, Q38, Q39, zmU, zmR, zmO, zmV, zfD, zmS, zmP, zmT, zmQ, zfC, zfE, zmY, zmZ, Bool.not_true, Bool.not_false, List.length_map, says_set, a] | with_reducible refine zni ?_ | fail); exact h.go) : P := e a ⟨h⟩
theorem c_pTake {f cl : Int} {q t l n : Nat} {time : Int} {s : zt} {ticks : Int} {la : List (List D)} {many : Int} {sy : List (Int × Int × Int)} {m : zfc}
    (h : σ[q]? = some (.box (zlT f cl t l time [s] (.map n) ticks la many))) (hn : σ[n]? = some (.map (zeW sy))) (hb : sy.length ≤ 900000)
    (hv : ∀ τ (K : AV → List zc → Prop), K (.d (.bool true)) (σ ++ τ) → zl Tryz.prog zgZ [.box t 0, .box l 0, znr m] (σ ++ τ) K)
    (hk : m.kind = 5) (hcl : m.client = cl) (htm : m.time = time) (hf : 1 ≤ f ∧ f ≤ 4) (hsr : m.src < 3 * f + 1) (hmn : 0 ≤ many ∧ many ≤ 1000000)
    (hK0 : (zqD (zfB sy m.src m.rerr m.roff) m.rerr m.roff : Int) < f + 1 → K (.d (.bool false)) (σ.set n (.map (zeW (zfB sy m.src m.rerr m.roff)))))
    (hK1 : ¬ (zqD (zfB sy m.src m.rerr m.roff) m.rerr m.roff : Int) < f + 1 → K (.d (.bool true)) ((σ.set n (.map (zeW (zfB sy m.src m.rerr m.roff)))).set q (.box (zlT f cl t l time [] (.d .nilmap) ticks [ansD s m.rerr m.roff] (many + 1))))) :
    zl Tryz.prog zaR [.box q 0, znr m] σ K := by
  refine zoQ zcC.is rfl fun hl _ => zcC.goes ?_
  have hq : ∀ τ, (σ ++ τ)[q]? = some (.box (zlT f cl t l time [s] (.map n) ticks la many)) := fun τ => zy h
  have hn' : ∀ τ, (σ ++ τ)[n]? = some (.map (zeW sy)) := fun τ => zy hn
  have hnl := zbR hn
  have hql := zbR h
  have hqn : q ≠ n := fun e => by rw [e, hn] at h; cases h
  have hmf := zpO m.src sy 0
  simp only [zcG, iN, bT, bF, eN, zl0]
  refine zaP ?_
  refine zmz (hq _) ?_
  refine gq39 (zj hq (show ((1 : Int) == 0) = false from rfl)) ?_
  refine hv _ _ ?_
  have e1 : (m.kind != 5) = false := by rw [hk]; rfl
  have e2 : (m.client != cl) = false := by rw [hcl]; simp
  have e3 : (m.time != time) = false := by rw [htm]; simp
  have e4 : zlc 3 f = 3 * f + 1 := by rw [zlc, if_neg (by omega)]
  have e5 : zlc 1 f = f + 1 := by rw [zlc, if_neg (by omega), Int.one_mul]
  have e6 : decide (m.src ≥ 3 * f + 1) = false := by simp; omega
  refine zbi (zj hq (zj e1 (zj e2 (zj e3 (show (false == false) = true from rfl))))) ?_
  refine c_quBrokers ?_
  rw [e4]
  obtain ⟨sy2, hsy2⟩ : ∃ s, zfB sy m.src m.rerr m.roff = s := ⟨_, rfl⟩
  rw [hsy2] at hK0 hK1
  have hlen2 : sy2.length ≤ 1000000 := by
    rw [← hsy2]; unfold zfB
    split <;> simp <;> omega
  obtain ⟨X, hX⟩ : ∃ X, zc.box (msgL m) = X := ⟨_, rfl⟩
  obtain ⟨S, hS⟩ : ∃ S, (σ ++ [X]).set n (.map (zeW sy2)) = S := ⟨_, rfl⟩
  have hx0 : ∀ τ, (σ ++ X :: τ)[σ.length]? = some (.box (msgL m)) := fun τ => by rw [hX, zu]; rfl
  have s1 : S[q]? = some (.box (zlT f cl t l time [s] (.map n) ticks la many)) := by rw [← hS, List.getElem?_set_ne (Ne.symm hqn)]; exact hq _
  have s2 : S[n]? = some (.map (zeW sy2)) := by rw [← hS]; exact List.getElem?_set_self (by simp; omega)
  have s3 : S[σ.length]? = some (.box (msgL m)) := by rw [← hS, List.getElem?_set_ne (by omega)]; exact hx0 _
  rw [hX]
  have zs : ∀ Y, (S.set q Y)[q]? = some Y := fun Y => List.getElem?_set_self (zbR s1)
  have hmw : IntKind.i64.wrap (many + 1) = many + 1 := zdf (by omega) (by omega)
  have fin1 : K (.d (.bool true)) ((σ.set n (.map (zeW sy2))).set q (.box (zlT f cl t l time [] (.d .nilmap) ticks [ansD s m.rerr m.roff] (many + 1)))) →
      EndsW σ.length K (some [.d (.bool true)]) (S.set q (.box [.d (.bool true), .d (.int .i64 f), .d (.int .i64 cl), .box t 0, .box l 0, .d (.int .i64 time), .exact [], .d .nilmap, .d (.int .i64 ticks), .exact [ansD s m.rerr m.roff], .d (.int .i64 (many + 1))])) := fun hK => by
    refine ⟨S.set q (.box (zlT f cl t l time [] (.d .nilmap) ticks [ansD s m.rerr m.roff] (many + 1))), ?_, ?_⟩
    · refine .dataB q 6 _ (.exact []) [] (zs _) rfl rfl ?_
      rw [List.set_set]
      refine .dataB q 9 _ (.exact [ansD s m.rerr m.roff]) [ansD s m.rerr m.roff] (zs _) rfl rfl ?_
      rw [List.set_set]
      exact .refl _ _
    · have hS' : S = σ.set n (.map (zeW sy2)) ++ [X] := by rw [← hS, List.set_append_left _ _ hnl]
      rw [hS', List.set_append_left _ _ (by simpa using hql)]
      refine ends_take2 (by rw [List.take_append_of_le_length (by simp), List.take_of_length_le (by simp)]) (by simp [zhZ, dmT, dm, dm1, zdg]) ((hl.setO (lowSays _ _)).setO ?_) hK
      intro c hc
      have hb := hl q _ h c
      simp only [List.mem_cons, List.not_mem_nil, or_false] at hc
      rcases hc with rfl | rfl | rfl | rfl | rfl | rfl | rfl | rfl | rfl | rfl | rfl
      all_goals first
        | exact .d _
        | exact hb (by simp)
  unfold zfB at hsy2
  cases hfs : fsay m.src sy 0 with
  | none =>
    rw [hfs] at hmf hsy2
    simp only at hsy2
    refine gq40 (zj hq (zj e6 (zj hn' (zj hx0 (zj hmf (zj hsy2 (zj hS (zj s1 (zj s2 s3))))))))) ?_
    refine c_pVotes s1 s2 hlen2 ?_
    refine gq41 (zj hq (zj hx0 (zj hsy2 (zj hS (zj s1 (zj s2 s3)))))) ?_
    refine c_quSmall ?_
    rw [e5]
    cases hlt : decide ((zqD sy2 m.rerr m.roff : Int) < f + 1)
    · refine gq42 (zj hlt (zj s1 (zj s3 (zj zs hmw)))) ?_
      exact fin1 (hK1 (by simpa using hlt))
    · refine zbi hlt ?_
      refine zqW ?_
      rw [← hS, List.set_append_left _ _ hnl]
      exact zfp (by simp [zhZ, dmT, dm, dm1, zdg]) hl (lowSays _ _) (hK0 (by simpa using hlt))
  | some o =>
    rw [hfs] at hmf hsy2
    simp only at hsy2
    refine gq43 (zj hq (zj e6 (zj hn' (zj hx0 (zj hmf (zj hsy2 (zj hS (zj s1 (zj s2 s3))))))))) ?_
    refine c_pVotes s1 s2 hlen2 ?_
    refine gq44 (zj hq (zj hx0 (zj hsy2 (zj hS (zj s1 (zj s2 s3)))))) ?_
    refine c_quSmall ?_
    rw [e5]
    cases hlt : decide ((zqD sy2 m.rerr m.roff : Int) < f + 1)
    · refine gq42 (zj hlt (zj s1 (zj s3 (zj zs hmw)))) ?_
      exact fin1 (hK1 (by simpa using hlt))
    · refine zbi hlt ?_
      refine zqW ?_
      rw [← hS, List.set_append_left _ _ hnl]
      exact zfp (by simp [zhZ, dmT, dm, dm1, zdg]) hl (lowSays _ _) (hK0 (by simpa using hlt))
end

end Go.Proofs.YtdgcepphjnoalaaGreat
