/- Contracts: publishers ask; what they zpd. -/
import Derived.Test.YtdgcepphjnoalaaGreatPq3
import Derived.Test.YtdgcepphjnoalaaGreatId4
set_option linter.all false
set_option maxRecDepth 100000
set_option linter.unusedSimpArgs false
set_option linter.unusedVariables false
namespace Go.Proofs.YtdgcepphjnoalaaGreat
open Go.AW

section
variable {σ : List zc} {K : AV → List zc → Prop} {f cl : Int} {q t l : Nat} {time : Int} {w : List zt} {sy : AV} {ticks : Int} {la : List (List D)} {many : Int}
theorem c_pTime (h : σ[q]? = some (.box (zlT f cl t l time w sy ticks la many))) (hK : K (.d (.int .i64 time)) σ) : zl Tryz.prog zaQ [.box q 0] σ K := by
  refine zfT zdW fun hl => ?_
  simp only [zcF, iN, bT, bF, eN]
  refine zaP ?_
  refine zmz h ?_
  refine zbi h ?_
  refine zap hl ?_
  exact hK
theorem c_pMany (h : σ[q]? = some (.box (zlT f cl t l time w sy ticks la many))) (hK : K (.d (.int .i64 many)) σ) : zl Tryz.prog zaS [.box q 0] σ K := by
  refine zfT zdX fun hl => ?_
  simp only [zcH, iN, bT, bF, eN]
  refine zaP ?_
  refine zmz h ?_
  refine zbi h ?_
  refine zap hl ?_
  exact hK
abbrev ansA (s : zt) (a b : Int) : AV := .agg [.d (.int .i64 s.client), .d (.int .i64 s.time), .d (.int .i64 s.op.kind), .d (.str s.op.topic), .d (.str s.op.group), .d (.int .i64 s.op.offset), .d (.slice (zeE s.op.recs)), .d (.int .i64 a), .d (.int .i64 b)]
theorem gq45 {P Q : Prop} (h : Q) (e : Hd Q → P := by intro h; (repeat' first | simp -dsimp only [↓zgn, ↓zaG, ↓zca, ↓zgo, ↓zgh, ↓zgf, ↓zgi, ↓zgg, ↓zcf, ↓zcb, ↓zcg, ↓zcc, ↓zgj, ↓zbW, ↓zch, ↓zcd, ↓zci, ↓zce, ↓zge, ↓zgl, ↓zbV, ↓zck, ↓zgb, ↓zga, ↓zgd, iN, bT, bF, eN, ↓zds, ↓unC, ↓zX, ↓zJ, ↓zK, ↓zM, ↓zal, ↓zaV, ↓zdU, ↓zay, ↓zbD, ↓zR, ↓zi, ↓zg, ↓zbr, ↓zd, ↓zan, ↓zO, ↓zbf, ↓zbg, ↓zf, ↓zB, ↓zn, ↓zD, ↓zZ, ↓zeb, ↓zes, ↓zaq, ↓zaC, ↓zbe, ↓zbl, ↓zbG, ↓zp, ↓zao, ↓zL, ↓zr, ↓zaj, zen, zbP, zbL, unA, zdF, bnd, zeV, zaf, zac, zeF, dm, dm1, zQ, zaz, zfy, zfx, zI, Q0, Q1, Q2, Q3, Q4, Q5, zam, zw, zu, zN, zG, Q6, Q7, Q8, Q9, Q10, Q11, Q12, Q13, Q14, Nat.reduceAdd, Q15, Int.reduceToNat, Q16, Q17, Q18, Q19, Q20, reduceIte, Q21, Q22, zC, rep, zV, zfi, toD, zad, Q23, Q24, Q25, Q26, Q27, Q28, Nat.reduceLeDiff, Q29, Nat.reduceSub, Q30, Q31, Q32, sc, Q33, Q34, Q35, Q36, Q37, Q26, Q38, Q39, zmU, zmR, zmO, zmV, zfD, zmS, zmP, zmT, zmQ, zfC, zfE, zmY, zmZ, Bool.not_true, Bool.not_false, List.length_map, Bool.and_false, Bool.and_self, Bool.false_and, Bool.not_false, Bool.not_true, Bool.true_and, Int.toNat_natCast, Int.toNat_zero, List.drop_zero, List.length_map, List.length_nil, List.nil_append, List.take_length, Nat.sub_zero, Nat.zero_add, Option.isSome_none, Option.isSome_some, Option.map_none, Option.map_some, zaJ, beq_self_eq_true, bne_self_eq_false, bytesE, zbK, certA, zcD, zei, hdrD, zbM, numOf, opA, zhG, ziU, zfO, zaH] | with_reducible refine zni ?_ | fail); exact h.go) : P := e ⟨h⟩
theorem c_pLast {s : zt} {a b : Int} (h : σ[q]? = some (.box (zlT f cl t l time w sy ticks [ansD s a b] many))) (hr : s.op.recs.length ≤ 1073741824) (hb : ∀ r ∈ s.op.recs, r.length ≤ 1073741824) (hK : K (.tup [ansA s a b, .d (.bool true)]) σ) : zl Tryz.prog zaT [.box q 0] σ K := by
  refine zfT zdY fun hl => ?_
  simp only [zcI, iN, bT, bF, eN, zl0]
  have h' : ∀ τ, (σ ++ τ)[q]? = some (.box (zlT f cl t l time w sy ticks [ansD s a b] many)) := fun τ => zy h
  refine zaP ?_
  refine zmz (h' _) ?_
  refine gq39 (zj h' (show ((1 : Int) == 0) = false from rfl)) ?_
  refine zhP (o := s.op) hr hb ?_
  refine gq45 ?_
  refine zap hl ?_
  exact hK
theorem zrh (h : σ[q]? = some (.box (zlT f cl t l time w sy ticks la many))) (hw : ziF w) (hK : ∀ r : List D, r.length = 30 → K (.d (.slice [.int .i64 (-1) :: r])) σ) : zl Tryz.prog zbn [.box q 0] σ K := by
  refine zfT zgI fun hl => ?_
  simp only [zdM, iN, bT, bF, eN, zl3, zl4]
  refine zbi h ?_
  refine zlD hw ?_
  refine zaP ?_
  refine zap hl ?_
  exact hK _ rfl
theorem gq46 {A P Q : Prop} (a : A) (h : Q) (e : A → Hd Q → P := by intro a h; (repeat' first | simp -dsimp only [↓zgn, ↓zaG, ↓zca, ↓zgo, ↓zgh, ↓zgf, ↓zgi, ↓zgg, ↓zcf, ↓zcb, ↓zcg, ↓zcc, ↓zgj, ↓zbW, ↓zch, ↓zcd, ↓zci, ↓zce, ↓zge, ↓zgl, ↓zbV, ↓zck, ↓zgb, ↓zga, ↓zgd, iN, bT, bF, eN, ↓zds, ↓unC, ↓zX, ↓zJ, ↓zK, ↓zM, ↓zal, ↓zaV, ↓zdU, ↓zay, ↓zbD, ↓zR, ↓zi, ↓zg, ↓zbr, ↓zd, ↓zan, ↓zO, ↓zbf, ↓zbg, ↓zf, ↓zB, ↓zn, ↓zD, ↓zZ, ↓zeb, ↓zes, ↓zaq, ↓zaC, ↓zbe, ↓zbl, ↓zbG, ↓zp, ↓zao, ↓zL, ↓zr, ↓zaj, zen, zbP, zbL, unA, zdF, bnd, zeV, zaf, zac, zeF, dm, dm1, zQ, zaz, zfy, zfx, zI, Q0, Q1, Q2, Q3, Q4, Q5, zam, zw, zu, zN, zG, Q6, Q7, Q8, Q9, Q10, Q11, Q12, Q13, Q14, Nat.reduceAdd, Q15, Int.reduceToNat, Q16, Q17, Q18, Q19, Q20, reduceIte, Q21, Q22, zC, rep, zV, zfi, toD, zad, Q23, Q24, Q25, Q26, Q27, Q28, Nat.reduceLeDiff, Q29, Nat.reduceSub, Q30, Q31, Q32, sc, Q33, Q34, Q35, Q36, Q37, Q26, Q38, Q39, zmU, zmR, zmO, zmV, zfD, zmS, zmP, zmT, zmQ, zfC, zfE, zmY, zmZ, Bool.not_true, Bool.not_false, List.length_map, List.length_set, zfO, a] | with_reducible refine zni ?_ | fail); exact h.go) : P := e a ⟨h⟩
theorem c_pAsk {i : TGi} {L : List (List UInt8)} {G : List zS} {o : TOp} (h : TG i σ L G) (hL : znL L) (hg : G.length ≤ 1073741824) (hq : σ[q]? = some (.box (zlT f cl i.id i.id2 time [] sy ticks la many))) (hqk : q ≠ i.id ∧ q ≠ i.m ∧ q ≠ i.t ∧ q ≠ i.id2 ∧ q ≠ i.m2 ∧ q ≠ i.t2) (hos : opSz o ≤ 20971520) (ho : okO o) (hc : zdm zjk o = 0) (ht0 : 0 ≤ time ∧ time ≤ 1000000)
    (hx : sealE L ⟨cl, time + 1, o, 0, 0⟩ = 0) {K : AV → List zc → Prop}
    (hK : ∀ (S : List zc) (n : Nat) (r : List D), r.length = 30 → S[q]? = some (.box (zlT f cl i.id i.id2 (time + 1) [zle L ⟨cl, time + 1, o, 0, 0⟩] (.map n) 0 la many)) → S[n]? = some (.map (zeW [])) → TG i S (sealL L ⟨cl, time + 1, o, 0, 0⟩) (sealG L G ⟨cl, time + 1, o, 0, 0⟩) → n ≠ q → σ.length ≤ n →
      (∀ (j : Nat) (y : zc), j ≠ q → j ≠ i.id → j ≠ i.m → j ≠ i.t → j ≠ i.id2 → j ≠ i.m2 → j ≠ i.t2 → σ[j]? = some y → S[j]? = some y) → K (.tup [.d (.slice [.int .i64 (-1) :: r]), .d (.int .i64 0)]) S) :
    zl Tryz.prog zbd [.box q 0, opA o] σ K := by
  refine zl.weaken ?_
  refine zoR zcP.is rfl fun hl _ => zcP.goes ?_
  simp only [zcQ, iN, bT, bF, eN, zl0, zl2, opA]
  have hq' : ∀ τ, (σ ++ τ)[q]? = some (.box (zlT f cl i.id i.id2 time [] sy ticks la many)) := fun τ => zy hq
  have hw1 : IntKind.i64.wrap (time + 1) = time + 1 := zdf (by omega) (by omega)
  refine zaP ?_
  refine zmz (hq' _) ?_
  refine gq24 (zj hq' (show decide ((0 : Int) > 0) = false from rfl)) ?_
  refine c_Check (o := o) ho.1 ho.2.1 ho.2.2.1 ?_
  rw [hc]
  refine zbi (zj hq' (zj hw1 (show ((0 : Int) != 0) = false from rfl))) ?_
  obtain ⟨x, hxe⟩ : ∃ x : zt, (⟨cl, time + 1, o, 0, 0⟩ : zt) = x := ⟨_, rfl⟩
  have hxo : x.op = o := by rw [← hxe]
  rw [hxe] at hx hK
  have hsm : ziF [zle L x] := by
    refine ⟨by simp, fun s hs => ?_⟩
    simp only [List.mem_singleton] at hs
    subst hs
    have : (zle L x).op = o := by rw [zle, if_pos hx]; exact hxo
    rw [this]; exact ⟨ho.2.2.1, ho.2.2.2⟩
  obtain ⟨sg, hsg⟩ : ∃ s, zle L x = s := ⟨_, rfl⟩
  obtain ⟨L', hL'⟩ : ∃ s, sealL L x = s := ⟨_, rfl⟩
  obtain ⟨G', hG'⟩ : ∃ s, sealG L G x = s := ⟨_, rfl⟩
  obtain ⟨P, hP⟩ : ∃ P, zfP i σ L' G' = P := ⟨_, rfl⟩
  have hPl : P.length = σ.length := by rw [← hP]; exact zlj ..
  have hPs : σ.length = P.length := hPl.symm
  have hql := zbR hq
  have hPq : P[q]? = some (.box (zlT f cl i.id i.id2 time [] sy ticks la many)) := by rw [← hP, TG.other hqk]; exact hq
  have hPT : TG i P L' G' := by rw [← hP]; exact h.put L' G'
  have hPk : ∀ (j : Nat) (y : zc), j ≠ i.id → j ≠ i.m → j ≠ i.t → j ≠ i.id2 → j ≠ i.m2 → j ≠ i.t2 → σ[j]? = some y → P[j]? = some y := fun j y a1 a2 a3 a4 a5 a6 hy => by rw [← hP, TG.other ⟨a1, a2, a3, a4, a5, a6⟩]; exact hy
  have hput : ∀ τ, putLed (putTab (σ ++ τ) i.id i.m i.t L') i.id2 i.m2 i.t2 G' = P ++ τ := fun τ => by rw [← hP]; exact h.put_app L' G' τ
  have hPq' : ∀ τ, (P ++ τ)[q]? = some (.box (zlT f cl i.id i.id2 time [] sy ticks la many)) := fun τ => zy hPq
  have sq : ∀ τ Z, (P ++ τ).set q Z = P.set q Z ++ τ := fun τ Z => List.set_append_left _ _ (by omega)
  have sq2 : ∀ τ Y Z, (P.set q Y ++ τ).set q Z = P.set q Z ++ τ := fun τ Y Z => by rw [List.set_append_left _ _ (by rw [List.length_set]; omega), List.set_set]
  have zq : ∀ Z τ, (P.set q Z ++ τ)[q]? = some Z := fun Z τ => zy (List.getElem?_set_self (by omega))
  have gq : ∀ Z k τ, (P.set q Z ++ τ)[P.length + k]? = τ[k]? := fun Z k τ => by
    have := zw (P.set q Z) τ k
    rwa [List.length_set] at this
  have gq0 : ∀ Z τ, (P.set q Z ++ τ)[P.length]? = τ[0]? := fun Z τ => by
    have := zu (P.set q Z) τ
    rw [List.length_set] at this
    exact this
  rw [hsg, hL', hG'] at hK
  rw [hsg] at hsm
  have done : ∀ (n : Nat) (B1 B2 : zc) (r : List D), r.length = 30 → n = P.length + 2 → EndsA (fun r s => ∃ r' s', zlV [r] s [r'] s' ∧ K r' s') (some [.d (.slice [.int .i64 (-1) :: r]), .d (.int .i64 0)]) (P.set q (.box (zlT f cl i.id i.id2 (time + 1) [sg] (.map n) 0 la many)) ++ [B1, B2, .map []]) := fun n B1 B2 r hr hn => by
    subst hn
    have nes := h.ne
    refine endsA ⟨_, _, .refl _ _, hK (P.set q (.box (zlT f cl i.id i.id2 (time + 1) [sg] (.map (P.length + 2)) 0 la many)) ++ [B1, B2, .map []]) (P.length + 2) r hr (zq _ _) (by rw [gq]; rfl) ?_ (by omega) (by omega) fun j y b0 b1 b2 b3 b4 b5 b6 hy => zy (by rw [List.getElem?_set_ne (Ne.symm b0)]; exact hPk j y b1 b2 b3 b4 b5 b6 hy)⟩
    refine TG.app ⟨⟨?_, ?_, ?_⟩, ⟨?_, ?_, ?_⟩, h.n1, h.n2⟩ _
    · rw [List.getElem?_set_ne hqk.1]; exact hPT.tab.box
    · rw [List.getElem?_set_ne hqk.2.1]; exact hPT.tab.map
    · rw [List.getElem?_set_ne hqk.2.2.1]; exact hPT.tab.tok
    · rw [List.getElem?_set_ne hqk.2.2.2.1]; exact hPT.led.box
    · rw [List.getElem?_set_ne hqk.2.2.2.2.1]; exact hPT.led.map
    · rw [List.getElem?_set_ne hqk.2.2.2.2.2]; exact hPT.led.tok
  have hsz : opSz x.op ≤ 20971520 := by rw [hxo]; exact hos
  have hreq : reqA x = .agg [.d (.int .i64 cl), .d (.int .i64 (time + 1)), .d (.int .i64 o.kind), .d (.str o.topic), .d (.str o.group), .d (.int .i64 o.offset), .d (.slice (zeE o.recs))] := by rw [← hxe]; rfl
  refine ⟨?_, ?_⟩
  · refine zhP (o := o) ho.2.2.1 ho.2.2.2 ?_
    refine zpb (zj hq' hw1) ?_
    refine ⟨?_, ?_⟩
    · rw [← hreq]
      refine zrg (x := x) (h.tab.app _) (h.led.app _) h.n1 h.n2 hL hg hsz ?_
      rw [hL', hG', hput, hx, hsg]
      refine gq46 (zj hPq' (zj sq (zj sq2 (zj zq (zj gq (zj gq0 (zj hw1 (zj hPs (show ((0 : Int) != 0) = false from rfl))))))))) ?_
      refine zl.pre (.dataB q 6 _ (.exact [zaH sg]) [zaH sg] (zq _ _) rfl rfl (.refl _ _)) ?_
      rw [sq2]
      refine zrh (zq _ _) hsm fun r hr => ?_
      refine zaP ?_
      exact done _ _ _ r hr rfl
    · refine zpb (zj hq' hw1) ?_
      rw [← hreq]
      refine zrg (x := x) (h.tab.app _) (h.led.app _) h.n1 h.n2 hL hg hsz ?_
      rw [hL', hG', hput, hx, hsg]
      refine gq46 (zj hPq' (zj sq (zj sq2 (zj zq (zj gq (zj gq0 (zj hw1 (zj hPs (show ((0 : Int) != 0) = false from rfl))))))))) ?_
      refine zl.pre (.dataB q 6 _ (.exact [zaH sg]) [zaH sg] (zq _ _) rfl rfl (.refl _ _)) ?_
      rw [sq2]
      refine zrh (zq _ _) hsm fun r hr => ?_
      refine zaP ?_
      exact done _ _ _ r hr rfl
  · refine zpb (zj hq' hw1) ?_
    refine zhP (o := o) ho.2.2.1 ho.2.2.2 ?_
    refine zpb (zj hq' hw1) ?_
    · rw [← hreq]
      refine zrg (x := x) (h.tab.app _) (h.led.app _) h.n1 h.n2 hL hg hsz ?_
      rw [hL', hG', hput, hx, hsg]
      refine gq46 (zj hPq' (zj sq (zj sq2 (zj zq (zj gq (zj gq0 (zj hw1 (zj hPs (show ((0 : Int) != 0) = false from rfl))))))))) ?_
      refine zl.pre (.dataB q 6 _ (.exact [zaH sg]) [zaH sg] (zq _ _) rfl rfl (.refl _ _)) ?_
      rw [sq2]
      refine zrh (zq _ _) hsm fun r hr => ?_
      refine zaP ?_
      exact done _ _ _ r hr rfl
end

end Go.Proofs.YtdgcepphjnoalaaGreat
