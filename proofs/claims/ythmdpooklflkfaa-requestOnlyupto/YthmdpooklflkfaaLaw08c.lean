/- The law RequestOnly, from the contracts. -/
import Derived.Test.YthmdpooklflkfaaLaw08b
import Derived.Test.YthmdpooklflkfaaSpReq3
set_option linter.all false
set_option maxRecDepth 100000
set_option linter.unusedSimpArgs false
set_option linter.unusedVariables false
namespace Go.Proofs.Ythmdpooklflkfaa
open Go.AW

/-- who was sealed, in a table and a ledger -/
structure OnlyI (L : List (List UInt8)) (G : List TSign) (Ds : List TSigned) : Prop where
  in_ : ∀ y ∈ Ds, checkReqF y = 0 ∧ y.key = keyF y.client ∧ (∃ i : Nat, lookF L (reqB y) = some i ∧ y.dig = ((i + 1 : Nat) : Int)) ∧ (⟨y.key, y.dig⟩ : TSign) ∈ G ∧ opSz y.op ≤ 20971520
  of_ : ∀ g ∈ G, ∃ y ∈ Ds, (⟨y.key, y.dig⟩ : TSign) = g
theorem OnlyI.valid {L : List (List UInt8)} {G : List TSign} {Ds : List TSigned} (h : OnlyI L G Ds) {s : TSigned} (hs : opSz s.op ≤ 20971520) : validF L G s = decide (s ∈ Ds) := by
  rw [Bool.eq_iff_iff, decide_eq_true_eq]
  constructor
  · intro hv
    simp only [validF, Bool.and_eq_true, decide_eq_true_eq] at hv
    obtain ⟨h1, h2⟩ := hv
    cases ho : lookF L (reqB s) with
    | none => rw [ho] at h2; cases h2
    | some i =>
      rw [ho] at h2
      simp only [Bool.and_eq_true, decide_eq_true_eq] at h2
      obtain ⟨⟨h3, h4⟩, h5⟩ := h2
      obtain ⟨y, hy, he⟩ := h.of_ _ h5
      obtain ⟨y1, y2, ⟨j, y3, y4⟩, y5, y6⟩ := h.in_ y hy
      simp only [TSign.mk.injEq] at he
      have hij : j = i := by have := he.2; rw [y4, h4] at this; omega
      subst hij
      have hb := (lookF_lt ho).2
      rw [(lookF_lt y3).2] at hb
      have hb := Option.some.inj hb
      obtain ⟨⟨e1, e2, e3⟩, _⟩ := reqB_pre (s := []) (t := []) y1 h1 y6 hs (by rw [hb])
      have : y = s := by
        obtain ⟨e4, e5⟩ := he
        cases y; cases s; simp_all
      exact this ▸ hy
  · intro hm
    obtain ⟨y1, y2, ⟨i, y3, y4⟩, y5, y6⟩ := h.in_ s hm
    simp only [validF, y3, decide_eq_true y1, decide_eq_true y5, Bool.true_and, Bool.and_true, decide_eq_true_eq]
    exact ⟨y2, y4⟩
theorem seal_ok {L : List (List UInt8)} {x : TSigned} (h : sealE L x = 0) : checkReqF x = 0 ∧ signF (keyF x.client) (sumN L (reqB x)) = 0 ∧ sealS L x = ⟨x.client, x.time, x.op, keyF x.client, sumN L (reqB x)⟩ := by
  have hs : sealS L x = ⟨x.client, x.time, x.op, keyF x.client, sumN L (reqB x)⟩ := if_pos h
  unfold sealE at h
  split at h
  · rename_i hc; exact absurd h hc
  · rename_i hc; exact ⟨by simpa using hc, h, hs⟩
theorem sealL_more (L : List (List UInt8)) (x : TSigned) : ∃ m, sealL L x = L ++ m := by
  unfold sealL
  split
  · exact ⟨[], by simp⟩
  · exact sumL_more L _
theorem OnlyI.same {L : List (List UInt8)} {G : List TSign} {Ds : List TSigned} (h : OnlyI L G Ds) {m : List (List UInt8)} : OnlyI (L ++ m) G Ds :=
  ⟨fun y hy => by
    obtain ⟨y1, y2, ⟨i, y3, y4⟩, y5, y6⟩ := h.in_ y hy
    exact ⟨y1, y2, ⟨i, look_more y3, y4⟩, y5, y6⟩, h.of_⟩
theorem OnlyI.bad {L : List (List UInt8)} {G : List TSign} {Ds : List TSigned} (h : OnlyI L G Ds) {x : TSigned} (he : sealE L x ≠ 0) : OnlyI (sealL L x) (sealG L G x) Ds := by
  have hg : sealG L G x = G := by
    unfold sealG
    split
    · rfl
    · rename_i hc
      unfold sealE at he
      rw [if_neg hc] at he
      exact if_neg he
  obtain ⟨m, hm⟩ := sealL_more L x
  rw [hg, hm]
  exact h.same
theorem OnlyI.good {L : List (List UInt8)} {G : List TSign} {Ds : List TSigned} (h : OnlyI L G Ds) {x : TSigned} (hx : opSz x.op ≤ 20971520) (he : sealE L x = 0) : OnlyI (sealL L x) (sealG L G x) (Ds ++ [sealS L x]) := by
  obtain ⟨hc, hs, hS⟩ := seal_ok he
  have hg : sealG L G x = signL G ⟨keyF x.client, sumN L (reqB x)⟩ := by
    unfold sealG; rw [if_neg (by simpa using hc)]; exact if_pos hs
  have hl : sealL L x = sumL L (reqB x) := if_neg (by simpa using hc)
  have hmem : ∀ g, g ∈ sealG L G x ↔ g ∈ G ∨ g = ⟨keyF x.client, sumN L (reqB x)⟩ := fun g => by
    rw [hg, signL]
    split
    · rename_i hin
      constructor
      · exact .inl
      · rintro (h | h)
        · exact h
        · rw [h]; exact hin
    · simp
  obtain ⟨m, hm⟩ := sealL_more L x
  have hn : sumN L (reqB x) ≠ 0 := by
    intro h0
    rw [h0] at hs
    unfold signF at hs
    split at hs
    · cases hs
    · simp at hs
  obtain ⟨i, e1, e2, e3⟩ := sum_pos hn
  refine ⟨fun y hy => ?_, fun g hgm => ?_⟩
  · rcases List.mem_append.1 hy with hy | hy
    · obtain ⟨y1, y2, ⟨j, y3, y4⟩, y5, y6⟩ := h.in_ y hy
      exact ⟨y1, y2, ⟨j, by rw [hm]; exact look_more y3, y4⟩, (hmem _).2 (.inl y5), y6⟩
    · simp only [List.mem_singleton] at hy
      subst hy
      rw [hS]
      refine ⟨hc, rfl, ⟨i, ?_, e1⟩, (hmem _).2 (.inr rfl), hx⟩
      rw [hl]; exact e2
  · rcases (hmem g).1 hgm with h1 | h1
    · obtain ⟨y, hy, he⟩ := h.of_ g h1
      exact ⟨y, by simp [hy], he⟩
    · exact ⟨sealS L x, by simp, by rw [hS, h1]⟩
theorem dig_same {L : List (List UInt8)} {a b : List TSigned} (za : ∀ x ∈ a, opSz x.op ≤ 20971520) (zb : ∀ x ∈ b, opSz x.op ≤ 20971520) (ha : digE L a = 0) (hb : digE (digL L a) b = 0) : digD L a = digD (digL L a) b ↔ a = b := by
  unfold digE at ha hb
  split at ha
  · rename_i h; exact absurd ha h
  · rename_i ca
    split at hb
    · rename_i h; exact absurd hb h
    · rename_i cb
      split at ha
      · cases ha
      · rename_i na
        split at hb
        · cases hb
        · rename_i nb
          rw [show digL L a = sumL L (batchB a) from if_neg ca] at nb ⊢
          rw [show digD L a = sumN L (batchB a) from if_neg ca, show digD (sumL L (batchB a)) b = sumN (sumL L (batchB a)) (batchB b) from if_neg cb]
          rw [sum_same na nb]
          exact ⟨fun h => batchB_inj (by simpa using ca) (by simpa using cb) za zb h, fun h => by rw [h]⟩
def box9A (x : TSigned) : AObj := .box [.d (.int .i64 x.client), .d (.int .i64 x.time), .d (.int .i64 x.op.kind), .d (.str x.op.topic), .d (.str x.op.group), .d (.int .i64 x.op.offset), .d (.slice (recsE x.op.recs)), .d (.int .i64 x.key), .d (.int .i64 x.dig)]
def pars_RequestOnly : List (Bool × List Ty) := [(false, [.slice tyReq]), (true, tySigned), (false, [.slice tySigned]), (false, [.slice tySigned])]
theorem law_RequestOnly (xs : List AV) (n : Nat) (hn : n ≤ 1048576) (h : ArgsOk pars_RequestOnly xs n) : ACall Try.prog n_l08_RequestOnly xs [] fun r _ => r = .d (.bool true) := by
  obtain ⟨ds, xs1, m1, hf, hb1, rfl, h⟩ := h
  obtain ⟨d, rfl, h1⟩ := one_of hf
  obtain ⟨l, rfl, _⟩ := dec_reqs h1
  obtain ⟨ds, xs2, m2, hf, hb2, rfl, h⟩ := h
  obtain ⟨s0, rfl, _⟩ := dec_signed hf
  obtain ⟨ds, xs3, m3, hf, hb3, rfl, h⟩ := h
  obtain ⟨d, rfl, h1⟩ := one_of hf
  obtain ⟨ba, rfl⟩ := dec_batch h1
  obtain ⟨ds, xs4, m4, hf, hb4, rfl, rfl⟩ := h
  obtain ⟨d, rfl, h1⟩ := one_of hf
  obtain ⟨bb, rfl⟩ := dec_batch h1
  obtain ⟨hlz, hll⟩ := reqs_sz (b := l) (n := 1048576) (by simp only [bulkL, bulkD] at hb1; omega) (by omega)
  obtain ⟨haz, hal⟩ := batch_sz (b := ba) (n := 1048576) (by simp only [bulkL, bulkD] at hb3; omega) (by omega)
  obtain ⟨hbz, hbl⟩ := batch_sz (b := bb) (n := 1048576) (by simp only [bulkL, bulkD] at hb4; omega) (by omega)
  have hsz := signedD_sz (x := s0) (n := 1048576) (by omega) (by omega)
  show ACall Try.prog n_l08_RequestOnly [.d (.slice (reqsE l)), signedA s0, .d (.slice (batchE ba)), .d (.slice (batchE bb))] [] _
  clear hb1 hb2 hb3 hb4 hf h1
  generalize ([] : List AObj) = σ
  refine acall_of isA_l08_RequestOnly rfl fun hl _ => s_l08_RequestOnly ?_
  simp only [S_l08_RequestOnly, signedA]
  (repeat' (first | simp -dsimp only [↓acallL, ↓loopL, ↓binC, ↓unC, ↓condC_b, ↓guardC_T, ↓guardC_F, ↓guardC_0, ↓pickC_b, ↓lenC, ↓slcC, ↓convC, ↓boxC, ↓allocC, ↓loadC, ↓storeC, ↓nilC, ↓faddrC, ↓fieldC, ↓iaddrC, ↓idxSC, ↓idxAC, ↓extractC, ↓buildC, ↓mksliceC, ↓appendC, ↓isnilC, ↓maxC, ↓minC, ↓callvC, ↓mkmapC, ↓mgetC, ↓msetC, ↓mdelC, ↓headC_cons, ↓rangeC, ↓BBL_true, ↓BBL_false, ↓BBL_not, binA, intOp, strOp, unA, esOf, bnd, intV, cellsA, fillV, srcE, dm, dm1, consO, cellA, maxL, minL, keepO, Q0, Q1, Q2, Q3, Q4, Q5, len_app, get_app, get_app0, set_app, set_app0, Q6, Q7, Q8, Q9, Q10, Q11, Q12, Q13, Q14, Nat.reduceAdd, Q15, Int.reduceToNat, Q16, Q17, Q18, Q19, Q20, reduceIte, Q21, Q22, recsE_len, rep, splice, toDs, toD, chunks, Q23, Q24, Q25, Q26, Q27, Q28, Nat.reduceLeDiff, Q29, Nat.reduceSub, Q30, Q31, Q32, sc, Q33, Q34, Q35, Q36, Q37, Q26, Q38, Q39, n0gt, n1gt, n2gt, n0eq, n1eq0, n1eq, n2eq, n0ne, n1ne, n1ne0, n0ne1, i0ne, i0eq, Bool.not_true, Bool.not_false, List.length_map] | ((with_reducible refine And.intro ?_ ?_); focus (first | omega | rfl | decide | (simp; done)))))
  rw [show σ ++ [AObj.box [AV.d (D.int IntKind.i64 s0.client), AV.d (D.int IntKind.i64 s0.time), AV.d (D.int IntKind.i64 s0.op.kind), AV.d (D.str s0.op.topic), AV.d (D.str s0.op.group), AV.d (D.int IntKind.i64 s0.op.offset), AV.d (D.slice (recsE s0.op.recs)), AV.d (D.int IntKind.i64 s0.key), AV.d (D.int IntKind.i64 s0.dig)]] = σ ++ [box9A s0] from rfl]
  refine c_newTL fun T hT6 hTL => ?_
  have hsl : (σ ++ [box9A s0]).length = σ.length + 1 := by simp
  obtain ⟨a, ha⟩ : ∃ a, a = σ.length + 1 := ⟨_, rfl⟩
  rw [hsl, ← ha] at hTL ⊢
  have hpre : ∃ T', σ ++ [box9A s0] ++ T = σ ++ T' := ⟨_, List.append_assoc ..⟩
  have hbx : (σ ++ [box9A s0] ++ T)[σ.length]? = some (box9A s0) := by
    rw [List.append_assoc, get_app0]; rfl
  obtain ⟨S, hS⟩ : ∃ S, σ ++ [box9A s0] ++ T = S := ⟨_, rfl⟩
  rw [hS] at hTL hpre hbx ⊢
  clear hS hsl
  refine c_begun8 ?_
  (repeat' (first | simp -dsimp only [↓acallL, ↓loopL, ↓binC, ↓unC, ↓condC_b, ↓guardC_T, ↓guardC_F, ↓guardC_0, ↓pickC_b, ↓lenC, ↓slcC, ↓convC, ↓boxC, ↓allocC, ↓loadC, ↓storeC, ↓nilC, ↓faddrC, ↓fieldC, ↓iaddrC, ↓idxSC, ↓idxAC, ↓extractC, ↓buildC, ↓mksliceC, ↓appendC, ↓isnilC, ↓maxC, ↓minC, ↓callvC, ↓mkmapC, ↓mgetC, ↓msetC, ↓mdelC, ↓headC_cons, ↓rangeC, ↓BBL_true, ↓BBL_false, ↓BBL_not, binA, intOp, strOp, unA, esOf, bnd, intV, cellsA, fillV, srcE, dm, dm1, consO, cellA, maxL, minL, keepO, Q0, Q1, Q2, Q3, Q4, Q5, len_app, get_app, get_app0, set_app, set_app0, Q6, Q7, Q8, Q9, Q10, Q11, Q12, Q13, Q14, Nat.reduceAdd, Q15, Int.reduceToNat, Q16, Q17, Q18, Q19, Q20, reduceIte, Q21, Q22, recsE_len, rep, splice, toDs, toD, chunks, Q23, Q24, Q25, Q26, Q27, Q28, Nat.reduceLeDiff, Q29, Nat.reduceSub, Q30, Q31, Q32, sc, Q33, Q34, Q35, Q36, Q37, Q26, Q38, Q39, n0gt, n1gt, n2gt, n0eq, n1eq0, n1eq, n2eq, n0ne, n1ne, n1ne0, n0ne1, i0ne, i0eq, Bool.not_true, Bool.not_false, List.length_map] | ((with_reducible refine And.intro ?_ ?_); focus (first | omega | rfl | decide | (simp; done)))))
  refine loopC_count l.length (fun k vs s => ∃ L G Ds, vs = [.d (.bool (decide (s0 ∈ Ds))), .d (.int .i64 k)] ∧ TLs a s L G ∧ s[σ.length]? = some (box9A s0) ∧ (∃ T, s = σ ++ T) ∧ TabI L ∧ G.length ≤ k ∧ OnlyI L G Ds)
    ⟨[], [], [], by simp, hTL, hbx, hpre, .nil, by simp, ⟨by simp, by simp⟩⟩ ?_
  clear hTL hpre hbx
  rintro k vs s hk ⟨L, G, Ds, rfl, hTL, hbx, hpre, hL, hGl, hO⟩
  by_cases hlt : k < l.length
  · have hd : decide ((k : Int) < (l.length : Int)) = true := by simp; omega
    have hx : l[k]? = some l[k] := by simp [hlt]
    have hgx := map_get (f := reqD) hx
    have hxz := hlz _ (List.getElem_mem hlt)
    obtain ⟨x, hxe⟩ : ∃ x, l[k] = x := ⟨_, rfl⟩
    rw [hxe] at hx hgx hxz
    (repeat' (first | simp -dsimp only [↓acallL, ↓loopL, ↓binC, ↓unC, ↓condC_b, ↓guardC_T, ↓guardC_F, ↓guardC_0, ↓pickC_b, ↓lenC, ↓slcC, ↓convC, ↓boxC, ↓allocC, ↓loadC, ↓storeC, ↓nilC, ↓faddrC, ↓fieldC, ↓iaddrC, ↓idxSC, ↓idxAC, ↓extractC, ↓buildC, ↓mksliceC, ↓appendC, ↓isnilC, ↓maxC, ↓minC, ↓callvC, ↓mkmapC, ↓mgetC, ↓msetC, ↓mdelC, ↓headC_cons, ↓rangeC, ↓BBL_true, ↓BBL_false, ↓BBL_not, binA, intOp, strOp, unA, esOf, bnd, intV, cellsA, fillV, srcE, dm, dm1, consO, cellA, maxL, minL, keepO, Q0, Q1, Q2, Q3, Q4, Q5, len_app, get_app, get_app0, set_app, set_app0, Q6, Q7, Q8, Q9, Q10, Q11, Q12, Q13, Q14, Nat.reduceAdd, Q15, Int.reduceToNat, Q16, Q17, Q18, Q19, Q20, reduceIte, Q21, Q22, recsE_len, rep, splice, toDs, toD, chunks, Q23, Q24, Q25, Q26, Q27, Q28, Nat.reduceLeDiff, Q29, Nat.reduceSub, Q30, Q31, Q32, sc, Q33, Q34, Q35, Q36, Q37, Q26, Q38, Q39, n0gt, n1gt, n2gt, n0eq, n1eq0, n1eq, n2eq, n0ne, n1ne, n1ne0, n0ne1, i0ne, i0eq, Bool.not_true, Bool.not_false, List.length_map, hd, hgx, reqD] | ((with_reducible refine And.intro ?_ ?_); focus (first | omega | rfl | decide | (simp; done)))))
    refine c_sealTL (x := x) hTL hL (by omega) hxz fun s1 e1 hTL1 hs1 => ?_
    have hbx1 : s1[σ.length]? = some (box9A s0) := by rw [hs1, putTL_ne (by omega)]; exact hbx
    have hbx2 : ∀ τ, (s1 ++ τ)[σ.length]? = some (.box [.d (.int .i64 s0.client), .d (.int .i64 s0.time), .d (.int .i64 s0.op.kind), .d (.str s0.op.topic), .d (.str s0.op.group), .d (.int .i64 s0.op.offset), .d (.slice (recsE s0.op.recs)), .d (.int .i64 s0.key), .d (.int .i64 s0.dig)]) := fun τ => get_left hbx1
    have hpre1 : ∃ T, s1 = σ ++ T := by
      obtain ⟨T0, hT0⟩ := hpre
      have := putTL_pre (a := a) (σ := σ) (T := T0) (by omega) (sealL L x) (sealG L G x)
      rw [← hT0, ← hs1] at this
      exact this
    have hpre2 : ∀ τ, ∃ T, s1 ++ τ = σ ++ T := fun τ => by obtain ⟨T, hT⟩ := hpre1; exact ⟨T ++ τ, by rw [hT, List.append_assoc]⟩
    have hG1 := sealG_len L G x
    have hL1 := hL.seal hxz
    have hyz := seal_sz (L := L) hxz
    simp only [signedA]
    cases hz : (sealE L x == 0)
    · have hO1 := hO.bad (x := x) (by simpa using hz)
      obtain ⟨z, hzz⟩ : ∃ z, decide (s0 ∈ Ds) = z := ⟨_, rfl⟩
      have nx : ∀ τ, Again l.length (fun k vs s => ∃ L G Ds, vs = [.d (.bool (decide (s0 ∈ Ds))), .d (.int .i64 k)] ∧ TLs a s L G ∧ s[σ.length]? = some (box9A s0) ∧ (∃ T, s = σ ++ T) ∧ TabI L ∧ G.length ≤ k ∧ OnlyI L G Ds) k [.d (.bool z), .d (.int .i64 (k + 1 : Nat))] (s1 ++ τ) := fun τ =>
        Again.next hlt ⟨_, _, Ds, by rw [hzz], hTL1.app _, get_left hbx1, hpre2 _, hL1, by omega, hO1⟩
      rw [hzz]
      cases z
      · (repeat' (first | simp -dsimp only [↓acallL, ↓loopL, ↓binC, ↓unC, ↓condC_b, ↓guardC_T, ↓guardC_F, ↓guardC_0, ↓pickC_b, ↓lenC, ↓slcC, ↓convC, ↓boxC, ↓allocC, ↓loadC, ↓storeC, ↓nilC, ↓faddrC, ↓fieldC, ↓iaddrC, ↓idxSC, ↓idxAC, ↓extractC, ↓buildC, ↓mksliceC, ↓appendC, ↓isnilC, ↓maxC, ↓minC, ↓callvC, ↓mkmapC, ↓mgetC, ↓msetC, ↓mdelC, ↓headC_cons, ↓rangeC, ↓BBL_true, ↓BBL_false, ↓BBL_not, binA, intOp, strOp, unA, esOf, bnd, intV, cellsA, fillV, srcE, dm, dm1, consO, cellA, maxL, minL, keepO, Q0, Q1, Q2, Q3, Q4, Q5, len_app, get_app, get_app0, set_app, set_app0, Q6, Q7, Q8, Q9, Q10, Q11, Q12, Q13, Q14, Nat.reduceAdd, Q15, Int.reduceToNat, Q16, Q17, Q18, Q19, Q20, reduceIte, Q21, Q22, recsE_len, rep, splice, toDs, toD, chunks, Q23, Q24, Q25, Q26, Q27, Q28, Nat.reduceLeDiff, Q29, Nat.reduceSub, Q30, Q31, Q32, sc, Q33, Q34, Q35, Q36, Q37, Q26, Q38, Q39, n0gt, n1gt, n2gt, n0eq, n1eq0, n1eq, n2eq, n0ne, n1ne, n1ne0, n0ne1, i0ne, i0eq, Bool.not_true, Bool.not_false, List.length_map, e1.symm, hz, wk1 k (by omega)] | ((with_reducible refine And.intro ?_ ?_); focus (first | omega | rfl | decide | (simp; done)))))
        exact nx _
      · (repeat' (first | simp -dsimp only [↓acallL, ↓loopL, ↓binC, ↓unC, ↓condC_b, ↓guardC_T, ↓guardC_F, ↓guardC_0, ↓pickC_b, ↓lenC, ↓slcC, ↓convC, ↓boxC, ↓allocC, ↓loadC, ↓storeC, ↓nilC, ↓faddrC, ↓fieldC, ↓iaddrC, ↓idxSC, ↓idxAC, ↓extractC, ↓buildC, ↓mksliceC, ↓appendC, ↓isnilC, ↓maxC, ↓minC, ↓callvC, ↓mkmapC, ↓mgetC, ↓msetC, ↓mdelC, ↓headC_cons, ↓rangeC, ↓BBL_true, ↓BBL_false, ↓BBL_not, binA, intOp, strOp, unA, esOf, bnd, intV, cellsA, fillV, srcE, dm, dm1, consO, cellA, maxL, minL, keepO, Q0, Q1, Q2, Q3, Q4, Q5, len_app, get_app, get_app0, set_app, set_app0, Q6, Q7, Q8, Q9, Q10, Q11, Q12, Q13, Q14, Nat.reduceAdd, Q15, Int.reduceToNat, Q16, Q17, Q18, Q19, Q20, reduceIte, Q21, Q22, recsE_len, rep, splice, toDs, toD, chunks, Q23, Q24, Q25, Q26, Q27, Q28, Nat.reduceLeDiff, Q29, Nat.reduceSub, Q30, Q31, Q32, sc, Q33, Q34, Q35, Q36, Q37, Q26, Q38, Q39, n0gt, n1gt, n2gt, n0eq, n1eq0, n1eq, n2eq, n0ne, n1ne, n1ne0, n0ne1, i0ne, i0eq, Bool.not_true, Bool.not_false, List.length_map, e1.symm, hz, wk1 k (by omega)] | ((with_reducible refine And.intro ?_ ?_); focus (first | omega | rfl | decide | (simp; done)))))
        exact nx _
    · have hz' : sealE L x = 0 := by simpa using hz
      have hO1 := hO.good hxz hz'
      have hv := hO1.valid hyz
      rw [decide_eq_true (by simp)] at hv
      obtain ⟨z, hzz⟩ : ∃ z, decide (s0 ∈ Ds) = z := ⟨_, rfl⟩
      have nx : ∀ τ z', z' = (z || decide (sealS L x = s0)) → Again l.length (fun k vs s => ∃ L G Ds, vs = [.d (.bool (decide (s0 ∈ Ds))), .d (.int .i64 k)] ∧ TLs a s L G ∧ s[σ.length]? = some (box9A s0) ∧ (∃ T, s = σ ++ T) ∧ TabI L ∧ G.length ≤ k ∧ OnlyI L G Ds) k [.d (.bool z'), .d (.int .i64 (k + 1 : Nat))] (s1 ++ τ) := fun τ z' h =>
        Again.next hlt ⟨_, _, Ds ++ [sealS L x], by rw [h, ← hzz]; simp [eq_comm], hTL1.app _, get_left hbx1, hpre2 _, hL1, by omega, hO1⟩
      (repeat' (first | simp -dsimp only [↓acallL, ↓loopL, ↓binC, ↓unC, ↓condC_b, ↓guardC_T, ↓guardC_F, ↓guardC_0, ↓pickC_b, ↓lenC, ↓slcC, ↓convC, ↓boxC, ↓allocC, ↓loadC, ↓storeC, ↓nilC, ↓faddrC, ↓fieldC, ↓iaddrC, ↓idxSC, ↓idxAC, ↓extractC, ↓buildC, ↓mksliceC, ↓appendC, ↓isnilC, ↓maxC, ↓minC, ↓callvC, ↓mkmapC, ↓mgetC, ↓msetC, ↓mdelC, ↓headC_cons, ↓rangeC, ↓BBL_true, ↓BBL_false, ↓BBL_not, binA, intOp, strOp, unA, esOf, bnd, intV, cellsA, fillV, srcE, dm, dm1, consO, cellA, maxL, minL, keepO, Q0, Q1, Q2, Q3, Q4, Q5, len_app, get_app, get_app0, set_app, set_app0, Q6, Q7, Q8, Q9, Q10, Q11, Q12, Q13, Q14, Nat.reduceAdd, Q15, Int.reduceToNat, Q16, Q17, Q18, Q19, Q20, reduceIte, Q21, Q22, recsE_len, rep, splice, toDs, toD, chunks, Q23, Q24, Q25, Q26, Q27, Q28, Nat.reduceLeDiff, Q29, Nat.reduceSub, Q30, Q31, Q32, sc, Q33, Q34, Q35, Q36, Q37, Q26, Q38, Q39, n0gt, n1gt, n2gt, n0eq, n1eq0, n1eq, n2eq, n0ne, n1ne, n1ne0, n0ne1, i0ne, i0eq, Bool.not_true, Bool.not_false, List.length_map, e1.symm, hz] | ((with_reducible refine And.intro ?_ ?_); focus (first | omega | rfl | decide | (simp; done)))))
      refine c_rqValid (s := sealS L x) (hTL1.tab.app _) (hTL1.led.app _) hyz ?_
      rw [hv, hzz]
      cases z
      · (repeat' (first | simp -dsimp only [↓acallL, ↓loopL, ↓binC, ↓unC, ↓condC_b, ↓guardC_T, ↓guardC_F, ↓guardC_0, ↓pickC_b, ↓lenC, ↓slcC, ↓convC, ↓boxC, ↓allocC, ↓loadC, ↓storeC, ↓nilC, ↓faddrC, ↓fieldC, ↓iaddrC, ↓idxSC, ↓idxAC, ↓extractC, ↓buildC, ↓mksliceC, ↓appendC, ↓isnilC, ↓maxC, ↓minC, ↓callvC, ↓mkmapC, ↓mgetC, ↓msetC, ↓mdelC, ↓headC_cons, ↓rangeC, ↓BBL_true, ↓BBL_false, ↓BBL_not, binA, intOp, strOp, unA, esOf, bnd, intV, cellsA, fillV, srcE, dm, dm1, consO, cellA, maxL, minL, keepO, Q0, Q1, Q2, Q3, Q4, Q5, len_app, get_app, get_app0, set_app, set_app0, Q6, Q7, Q8, Q9, Q10, Q11, Q12, Q13, Q14, Nat.reduceAdd, Q15, Int.reduceToNat, Q16, Q17, Q18, Q19, Q20, reduceIte, Q21, Q22, recsE_len, rep, splice, toDs, toD, chunks, Q23, Q24, Q25, Q26, Q27, Q28, Nat.reduceLeDiff, Q29, Nat.reduceSub, Q30, Q31, Q32, sc, Q33, Q34, Q35, Q36, Q37, Q26, Q38, Q39, n0gt, n1gt, n2gt, n0eq, n1eq0, n1eq, n2eq, n0ne, n1ne, n1ne0, n0ne1, i0ne, i0eq, Bool.not_true, Bool.not_false, List.length_map, e1.symm, hz, hbx2] | ((with_reducible refine And.intro ?_ ?_); focus (first | omega | rfl | decide | (simp; done)))))
        refine c_rqSame (a := [sealS L x]) (b := [s0]) (small1 hyz) (small1 hsz) ?_
        (repeat' (first | simp -dsimp only [↓acallL, ↓loopL, ↓binC, ↓unC, ↓condC_b, ↓guardC_T, ↓guardC_F, ↓guardC_0, ↓pickC_b, ↓lenC, ↓slcC, ↓convC, ↓boxC, ↓allocC, ↓loadC, ↓storeC, ↓nilC, ↓faddrC, ↓fieldC, ↓iaddrC, ↓idxSC, ↓idxAC, ↓extractC, ↓buildC, ↓mksliceC, ↓appendC, ↓isnilC, ↓maxC, ↓minC, ↓callvC, ↓mkmapC, ↓mgetC, ↓msetC, ↓mdelC, ↓headC_cons, ↓rangeC, ↓BBL_true, ↓BBL_false, ↓BBL_not, binA, intOp, strOp, unA, esOf, bnd, intV, cellsA, fillV, srcE, dm, dm1, consO, cellA, maxL, minL, keepO, Q0, Q1, Q2, Q3, Q4, Q5, len_app, get_app, get_app0, set_app, set_app0, Q6, Q7, Q8, Q9, Q10, Q11, Q12, Q13, Q14, Nat.reduceAdd, Q15, Int.reduceToNat, Q16, Q17, Q18, Q19, Q20, reduceIte, Q21, Q22, recsE_len, rep, splice, toDs, toD, chunks, Q23, Q24, Q25, Q26, Q27, Q28, Nat.reduceLeDiff, Q29, Nat.reduceSub, Q30, Q31, Q32, sc, Q33, Q34, Q35, Q36, Q37, Q26, Q38, Q39, n0gt, n1gt, n2gt, n0eq, n1eq0, n1eq, n2eq, n0ne, n1ne, n1ne0, n0ne1, i0ne, i0eq, Bool.not_true, Bool.not_false, List.length_map, wk1 k (by omega)] | ((with_reducible refine And.intro ?_ ?_); focus (first | omega | rfl | decide | (simp; done)))))
        exact nx _ _ (by simp)
      · (repeat' (first | simp -dsimp only [↓acallL, ↓loopL, ↓binC, ↓unC, ↓condC_b, ↓guardC_T, ↓guardC_F, ↓guardC_0, ↓pickC_b, ↓lenC, ↓slcC, ↓convC, ↓boxC, ↓allocC, ↓loadC, ↓storeC, ↓nilC, ↓faddrC, ↓fieldC, ↓iaddrC, ↓idxSC, ↓idxAC, ↓extractC, ↓buildC, ↓mksliceC, ↓appendC, ↓isnilC, ↓maxC, ↓minC, ↓callvC, ↓mkmapC, ↓mgetC, ↓msetC, ↓mdelC, ↓headC_cons, ↓rangeC, ↓BBL_true, ↓BBL_false, ↓BBL_not, binA, intOp, strOp, unA, esOf, bnd, intV, cellsA, fillV, srcE, dm, dm1, consO, cellA, maxL, minL, keepO, Q0, Q1, Q2, Q3, Q4, Q5, len_app, get_app, get_app0, set_app, set_app0, Q6, Q7, Q8, Q9, Q10, Q11, Q12, Q13, Q14, Nat.reduceAdd, Q15, Int.reduceToNat, Q16, Q17, Q18, Q19, Q20, reduceIte, Q21, Q22, recsE_len, rep, splice, toDs, toD, chunks, Q23, Q24, Q25, Q26, Q27, Q28, Nat.reduceLeDiff, Q29, Nat.reduceSub, Q30, Q31, Q32, sc, Q33, Q34, Q35, Q36, Q37, Q26, Q38, Q39, n0gt, n1gt, n2gt, n0eq, n1eq0, n1eq, n2eq, n0ne, n1ne, n1ne0, n0ne1, i0ne, i0eq, Bool.not_true, Bool.not_false, List.length_map, e1.symm, hz, wk1 k (by omega)] | ((with_reducible refine And.intro ?_ ?_); focus (first | omega | rfl | decide | (simp; done)))))
        exact nx _ _ (by simp)
  · have hd : decide ((k : Int) < (l.length : Int)) = false := by simp; omega
    have hbx' : s[σ.length]? = some (.box [.d (.int .i64 s0.client), .d (.int .i64 s0.time), .d (.int .i64 s0.op.kind), .d (.str s0.op.topic), .d (.str s0.op.group), .d (.int .i64 s0.op.offset), .d (.slice (recsE s0.op.recs)), .d (.int .i64 s0.key), .d (.int .i64 s0.dig)]) := hbx
    (repeat' (first | simp -dsimp only [↓acallL, ↓loopL, ↓binC, ↓unC, ↓condC_b, ↓guardC_T, ↓guardC_F, ↓guardC_0, ↓pickC_b, ↓lenC, ↓slcC, ↓convC, ↓boxC, ↓allocC, ↓loadC, ↓storeC, ↓nilC, ↓faddrC, ↓fieldC, ↓iaddrC, ↓idxSC, ↓idxAC, ↓extractC, ↓buildC, ↓mksliceC, ↓appendC, ↓isnilC, ↓maxC, ↓minC, ↓callvC, ↓mkmapC, ↓mgetC, ↓msetC, ↓mdelC, ↓headC_cons, ↓rangeC, ↓BBL_true, ↓BBL_false, ↓BBL_not, binA, intOp, strOp, unA, esOf, bnd, intV, cellsA, fillV, srcE, dm, dm1, consO, cellA, maxL, minL, keepO, Q0, Q1, Q2, Q3, Q4, Q5, len_app, get_app, get_app0, set_app, set_app0, Q6, Q7, Q8, Q9, Q10, Q11, Q12, Q13, Q14, Nat.reduceAdd, Q15, Int.reduceToNat, Q16, Q17, Q18, Q19, Q20, reduceIte, Q21, Q22, recsE_len, rep, splice, toDs, toD, chunks, Q23, Q24, Q25, Q26, Q27, Q28, Nat.reduceLeDiff, Q29, Nat.reduceSub, Q30, Q31, Q32, sc, Q33, Q34, Q35, Q36, Q37, Q26, Q38, Q39, n0gt, n1gt, n2gt, n0eq, n1eq0, n1eq, n2eq, n0ne, n1ne, n1ne0, n0ne1, i0ne, i0eq, Bool.not_true, Bool.not_false, List.length_map, hd, hbx'] | ((with_reducible refine And.intro ?_ ?_); focus (first | omega | rfl | decide | (simp; done)))))
    refine c_rqValid (s := s0) hTL.tab hTL.led hsz ?_
    rw [hO.valid hsz]
    (repeat' (first | simp -dsimp only [↓acallL, ↓loopL, ↓binC, ↓unC, ↓condC_b, ↓guardC_T, ↓guardC_F, ↓guardC_0, ↓pickC_b, ↓lenC, ↓slcC, ↓convC, ↓boxC, ↓allocC, ↓loadC, ↓storeC, ↓nilC, ↓faddrC, ↓fieldC, ↓iaddrC, ↓idxSC, ↓idxAC, ↓extractC, ↓buildC, ↓mksliceC, ↓appendC, ↓isnilC, ↓maxC, ↓minC, ↓callvC, ↓mkmapC, ↓mgetC, ↓msetC, ↓mdelC, ↓headC_cons, ↓rangeC, ↓BBL_true, ↓BBL_false, ↓BBL_not, binA, intOp, strOp, unA, esOf, bnd, intV, cellsA, fillV, srcE, dm, dm1, consO, cellA, maxL, minL, keepO, Q0, Q1, Q2, Q3, Q4, Q5, len_app, get_app, get_app0, set_app, set_app0, Q6, Q7, Q8, Q9, Q10, Q11, Q12, Q13, Q14, Nat.reduceAdd, Q15, Int.reduceToNat, Q16, Q17, Q18, Q19, Q20, reduceIte, Q21, Q22, recsE_len, rep, splice, toDs, toD, chunks, Q23, Q24, Q25, Q26, Q27, Q28, Nat.reduceLeDiff, Q29, Nat.reduceSub, Q30, Q31, Q32, sc, Q33, Q34, Q35, Q36, Q37, Q26, Q38, Q39, n0gt, n1gt, n2gt, n0eq, n1eq0, n1eq, n2eq, n0ne, n1ne, n1ne0, n0ne1, i0ne, i0eq, Bool.not_true, Bool.not_false, List.length_map, beq_self_eq_true, Bool.not_true] | ((with_reducible refine And.intro ?_ ?_); focus (first | omega | rfl | decide | (simp; done)))))
    obtain ⟨T0, hT0⟩ := hpre
    rw [show s = s ++ [] from (List.append_nil s).symm]
    refine c_digTL (τ := []) hTL hL haz (by omega) fun s1 e1 hTL1 hs1 => ?_
    obtain ⟨T1, hT1⟩ := putTL_pre (a := a) (σ := σ) (T := T0) (by omega) (digL L ba) G
    rw [← hT0, ← hs1] at hT1
    (repeat' (first | simp -dsimp only [↓acallL, ↓loopL, ↓binC, ↓unC, ↓condC_b, ↓guardC_T, ↓guardC_F, ↓guardC_0, ↓pickC_b, ↓lenC, ↓slcC, ↓convC, ↓boxC, ↓allocC, ↓loadC, ↓storeC, ↓nilC, ↓faddrC, ↓fieldC, ↓iaddrC, ↓idxSC, ↓idxAC, ↓extractC, ↓buildC, ↓mksliceC, ↓appendC, ↓isnilC, ↓maxC, ↓minC, ↓callvC, ↓mkmapC, ↓mgetC, ↓msetC, ↓mdelC, ↓headC_cons, ↓rangeC, ↓BBL_true, ↓BBL_false, ↓BBL_not, binA, intOp, strOp, unA, esOf, bnd, intV, cellsA, fillV, srcE, dm, dm1, consO, cellA, maxL, minL, keepO, Q0, Q1, Q2, Q3, Q4, Q5, len_app, get_app, get_app0, set_app, set_app0, Q6, Q7, Q8, Q9, Q10, Q11, Q12, Q13, Q14, Nat.reduceAdd, Q15, Int.reduceToNat, Q16, Q17, Q18, Q19, Q20, reduceIte, Q21, Q22, recsE_len, rep, splice, toDs, toD, chunks, Q23, Q24, Q25, Q26, Q27, Q28, Nat.reduceLeDiff, Q29, Nat.reduceSub, Q30, Q31, Q32, sc, Q33, Q34, Q35, Q36, Q37, Q26, Q38, Q39, n0gt, n1gt, n2gt, n0eq, n1eq0, n1eq, n2eq, n0ne, n1ne, n1ne0, n0ne1, i0ne, i0eq, Bool.not_true, Bool.not_false, List.length_map] | ((with_reducible refine And.intro ?_ ?_); focus (first | omega | rfl | decide | (simp; done)))))
    rw [show s1 = s1 ++ [] from (List.append_nil s1).symm]
    refine c_digTL (τ := []) hTL1 (hL.dig haz) hbz (by omega) fun s2 e2 hTL2 hs2 => ?_
    obtain ⟨T2, hT2⟩ := putTL_pre (a := a) (σ := σ) (T := T1) (by omega) (digL (digL L ba) bb) G
    rw [← hT1, ← hs2] at hT2
    rw [hT2, List.append_nil]
    cases h1 : (digE L ba != 0)
    · cases h2 : (digE (digL L ba) bb != 0)
      · have hs := dig_same haz hbz (by simpa using h1) (by simpa using h2)
        (repeat' (first | simp -dsimp only [↓acallL, ↓loopL, ↓binC, ↓unC, ↓condC_b, ↓guardC_T, ↓guardC_F, ↓guardC_0, ↓pickC_b, ↓lenC, ↓slcC, ↓convC, ↓boxC, ↓allocC, ↓loadC, ↓storeC, ↓nilC, ↓faddrC, ↓fieldC, ↓iaddrC, ↓idxSC, ↓idxAC, ↓extractC, ↓buildC, ↓mksliceC, ↓appendC, ↓isnilC, ↓maxC, ↓minC, ↓callvC, ↓mkmapC, ↓mgetC, ↓msetC, ↓mdelC, ↓headC_cons, ↓rangeC, ↓BBL_true, ↓BBL_false, ↓BBL_not, binA, intOp, strOp, unA, esOf, bnd, intV, cellsA, fillV, srcE, dm, dm1, consO, cellA, maxL, minL, keepO, Q0, Q1, Q2, Q3, Q4, Q5, len_app, get_app, get_app0, set_app, set_app0, Q6, Q7, Q8, Q9, Q10, Q11, Q12, Q13, Q14, Nat.reduceAdd, Q15, Int.reduceToNat, Q16, Q17, Q18, Q19, Q20, reduceIte, Q21, Q22, recsE_len, rep, splice, toDs, toD, chunks, Q23, Q24, Q25, Q26, Q27, Q28, Nat.reduceLeDiff, Q29, Nat.reduceSub, Q30, Q31, Q32, sc, Q33, Q34, Q35, Q36, Q37, Q26, Q38, Q39, n0gt, n1gt, n2gt, n0eq, n1eq0, n1eq, n2eq, n0ne, n1ne, n1ne0, n0ne1, i0ne, i0eq, Bool.not_true, Bool.not_false, List.length_map, h1, h2] | ((with_reducible refine And.intro ?_ ?_); focus (first | omega | rfl | decide | (simp; done)))))
        refine c_rqSame (smallB_of ⟨by omega, fun x hx => sizes (haz x hx)⟩) (smallB_of ⟨by omega, fun x hx => sizes (hbz x hx)⟩) ?_
        have hq : (digD L ba == digD (digL L ba) bb) = decide (ba = bb) := by
          rw [Bool.eq_iff_iff, beq_iff_eq, decide_eq_true_eq]; exact hs
        rw [hq]
        (repeat' (first | simp -dsimp only [↓acallL, ↓loopL, ↓binC, ↓unC, ↓condC_b, ↓guardC_T, ↓guardC_F, ↓guardC_0, ↓pickC_b, ↓lenC, ↓slcC, ↓convC, ↓boxC, ↓allocC, ↓loadC, ↓storeC, ↓nilC, ↓faddrC, ↓fieldC, ↓iaddrC, ↓idxSC, ↓idxAC, ↓extractC, ↓buildC, ↓mksliceC, ↓appendC, ↓isnilC, ↓maxC, ↓minC, ↓callvC, ↓mkmapC, ↓mgetC, ↓msetC, ↓mdelC, ↓headC_cons, ↓rangeC, ↓BBL_true, ↓BBL_false, ↓BBL_not, binA, intOp, strOp, unA, esOf, bnd, intV, cellsA, fillV, srcE, dm, dm1, consO, cellA, maxL, minL, keepO, Q0, Q1, Q2, Q3, Q4, Q5, len_app, get_app, get_app0, set_app, set_app0, Q6, Q7, Q8, Q9, Q10, Q11, Q12, Q13, Q14, Nat.reduceAdd, Q15, Int.reduceToNat, Q16, Q17, Q18, Q19, Q20, reduceIte, Q21, Q22, recsE_len, rep, splice, toDs, toD, chunks, Q23, Q24, Q25, Q26, Q27, Q28, Nat.reduceLeDiff, Q29, Nat.reduceSub, Q30, Q31, Q32, sc, Q33, Q34, Q35, Q36, Q37, Q26, Q38, Q39, n0gt, n1gt, n2gt, n0eq, n1eq0, n1eq, n2eq, n0ne, n1ne, n1ne0, n0ne1, i0ne, i0eq, Bool.not_true, Bool.not_false, List.length_map, h1, h2, beq_self_eq_true] | ((with_reducible refine And.intro ?_ ?_); focus (first | omega | rfl | decide | (simp; done)))))
        (first | refine ends_plain (by simp [Low_d, dmT, dm, dm1, pack, Low_tup, Low_agg, Low_exact]) hl ?_ | refine ends_plain0 (by simp [Low_d, dmT, dm, dm1, pack, Low_tup, Low_agg, Low_exact]) hl ?_)
        rfl
      · (repeat' (first | simp -dsimp only [↓acallL, ↓loopL, ↓binC, ↓unC, ↓condC_b, ↓guardC_T, ↓guardC_F, ↓guardC_0, ↓pickC_b, ↓lenC, ↓slcC, ↓convC, ↓boxC, ↓allocC, ↓loadC, ↓storeC, ↓nilC, ↓faddrC, ↓fieldC, ↓iaddrC, ↓idxSC, ↓idxAC, ↓extractC, ↓buildC, ↓mksliceC, ↓appendC, ↓isnilC, ↓maxC, ↓minC, ↓callvC, ↓mkmapC, ↓mgetC, ↓msetC, ↓mdelC, ↓headC_cons, ↓rangeC, ↓BBL_true, ↓BBL_false, ↓BBL_not, binA, intOp, strOp, unA, esOf, bnd, intV, cellsA, fillV, srcE, dm, dm1, consO, cellA, maxL, minL, keepO, Q0, Q1, Q2, Q3, Q4, Q5, len_app, get_app, get_app0, set_app, set_app0, Q6, Q7, Q8, Q9, Q10, Q11, Q12, Q13, Q14, Nat.reduceAdd, Q15, Int.reduceToNat, Q16, Q17, Q18, Q19, Q20, reduceIte, Q21, Q22, recsE_len, rep, splice, toDs, toD, chunks, Q23, Q24, Q25, Q26, Q27, Q28, Nat.reduceLeDiff, Q29, Nat.reduceSub, Q30, Q31, Q32, sc, Q33, Q34, Q35, Q36, Q37, Q26, Q38, Q39, n0gt, n1gt, n2gt, n0eq, n1eq0, n1eq, n2eq, n0ne, n1ne, n1ne0, n0ne1, i0ne, i0eq, Bool.not_true, Bool.not_false, List.length_map, h1, h2] | ((with_reducible refine And.intro ?_ ?_); focus (first | omega | rfl | decide | (simp; done)))))
        (first | refine ends_plain (by simp [Low_d, dmT, dm, dm1, pack, Low_tup, Low_agg, Low_exact]) hl ?_ | refine ends_plain0 (by simp [Low_d, dmT, dm, dm1, pack, Low_tup, Low_agg, Low_exact]) hl ?_)
        rfl
    · (repeat' (first | simp -dsimp only [↓acallL, ↓loopL, ↓binC, ↓unC, ↓condC_b, ↓guardC_T, ↓guardC_F, ↓guardC_0, ↓pickC_b, ↓lenC, ↓slcC, ↓convC, ↓boxC, ↓allocC, ↓loadC, ↓storeC, ↓nilC, ↓faddrC, ↓fieldC, ↓iaddrC, ↓idxSC, ↓idxAC, ↓extractC, ↓buildC, ↓mksliceC, ↓appendC, ↓isnilC, ↓maxC, ↓minC, ↓callvC, ↓mkmapC, ↓mgetC, ↓msetC, ↓mdelC, ↓headC_cons, ↓rangeC, ↓BBL_true, ↓BBL_false, ↓BBL_not, binA, intOp, strOp, unA, esOf, bnd, intV, cellsA, fillV, srcE, dm, dm1, consO, cellA, maxL, minL, keepO, Q0, Q1, Q2, Q3, Q4, Q5, len_app, get_app, get_app0, set_app, set_app0, Q6, Q7, Q8, Q9, Q10, Q11, Q12, Q13, Q14, Nat.reduceAdd, Q15, Int.reduceToNat, Q16, Q17, Q18, Q19, Q20, reduceIte, Q21, Q22, recsE_len, rep, splice, toDs, toD, chunks, Q23, Q24, Q25, Q26, Q27, Q28, Nat.reduceLeDiff, Q29, Nat.reduceSub, Q30, Q31, Q32, sc, Q33, Q34, Q35, Q36, Q37, Q26, Q38, Q39, n0gt, n1gt, n2gt, n0eq, n1eq0, n1eq, n2eq, n0ne, n1ne, n1ne0, n0ne1, i0ne, i0eq, Bool.not_true, Bool.not_false, List.length_map, h1] | ((with_reducible refine And.intro ?_ ?_); focus (first | omega | rfl | decide | (simp; done)))))
      (first | refine ends_plain (by simp [Low_d, dmT, dm, dm1, pack, Low_tup, Low_agg, Low_exact]) hl ?_ | refine ends_plain0 (by simp [Low_d, dmT, dm, dm1, pack, Low_tup, Low_agg, Low_exact]) hl ?_)
      rfl
end Go.Proofs.Ythmdpooklflkfaa
