/- Contracts: headers, and records at their places, on both sides. -/
import Derived.Test.YthpnelbciibjeaaGreatMk2
import Derived.Test.YthpnelbciibjeaaGreatId2
import Derived.Test.YthpnelbciibjeaaGreatCodec1
set_option linter.all false
set_option maxRecDepth 100000
set_option linter.unusedSimpArgs false
set_option linter.unusedVariables false
namespace Go.Proofs.YthpnelbciibjeaaGreat
open Go.AW

theorem znv {σ : List zc} {h : zbZ} {K : AV → List zc → Prop} (hK : K (.d (.int .i64 (zaQ h))) σ) : zt Tryz.prog zdS [hdrA h] σ K := by
  refine zhl zpH fun hl => ?_
  have fin : ∀ z, zgl h = z → K (.d (.int .i64 (if z = true then 0 else 90))) σ := fun z e => by subst e; exact hK
  clear hK
  simp only [zkH, iN, bT, bF, eN, hdrA]
  refine gq1 ?_
  have hg : ∀ (k : Nat) x, (zjM h)[k]? = some x → [[D.int .i64 h.seq], [D.int .i64 h.prev], [D.int .i64 h.batch], [D.int .i64 h.root], [D.int .i64 h.state]][k]? = some [D.int .i64 x] := fun k x hx => by
    have := zbr (f := fun t => [D.int .i64 t]) hx
    simpa [zjM] using this
  have hl5 : (zjM h).length = 5 := rfl
  unfold zgl at fin
  obtain ⟨l, hlq⟩ : ∃ l, zjM h = l := ⟨_, rfl⟩
  rw [hlq] at fin hl5 hg
  refine zN 5 (fun k vs s => vs = [.d (.int .i64 k)] ∧ (∃ T, s = σ ++ T) ∧ (l.take k).all zhO = true) ⟨rfl, ⟨_, rfl⟩, by simp⟩ ?_
  rintro k vs s hk ⟨rfl, ⟨T, rfl⟩, hok⟩
  by_cases hlt : k < 5
  · have hd : decide ((k : Int) < ((5 : Nat) : Int)) = true := by simp; omega
    have hx : l[k]? = some (l[k]'(by omega)) := List.getElem?_eq_getElem _
    have hgx := hg k _ hx
    obtain ⟨x, hxe⟩ : ∃ x, (l[k]'(by omega)) = x := ⟨_, rfl⟩
    rw [hxe] at hx hgx
    have bad : zhO x = false → l.all zhO = false := fun h => by
      rw [Bool.eq_false_iff]
      intro hall
      have := List.all_eq_true.1 hall x (List.mem_of_getElem? hx)
      rw [h] at this; cases this
    cases h1 : decide (x < 0)
    · cases h2 : decide (x > 9007199254740992)
      · refine gq2 (zi hd (zi hgx (zi h1 (zi h2 (wki k (by omega)))))) ?_
        refine zbJ.next hlt ⟨rfl, ⟨_, rfl⟩, ?_⟩
        rw [List.take_add_one, hx]
        simp only [List.all_append, hok, Option.toList_some, List.all_cons, List.all_nil, Bool.true_and, Bool.and_true]
        simp at h1 h2
        simp [zhO]; omega
      · refine gq2 (zi hd (zi hgx (zi h1 h2))) ?_
        refine zbj hl ?_
        exact fin false (bad (by simp at h2; simp [zhO]; omega))
    · refine gq2 (zi hd (zi hgx h1)) ?_
      refine zbj hl ?_
      exact fin false (bad (by simp at h1; simp [zhO]; omega))
  · have hd : decide ((k : Int) < ((5 : Nat) : Int)) = false := by simp; omega
    rw [List.take_of_length_le (by omega)] at hok
    refine gq2 hd ?_
    refine zbj hl ?_
    exact fin true hok
theorem c_blBytes {σ : List zc} {h : zbZ} {K : AV → List zc → Prop} (hK : K (.tup [.d (.slice (bcs (hdrBF h))), .d (.int .i64 (zaQ h))]) σ) : zt Tryz.prog zfn [hdrA h] σ K := by
  refine zhl zpJ fun hl => ?_
  simp only [zkJ, iN, bT, bF, eN, hdrA]
  refine gq1 ?_
  refine znv (h := h) ?_
  cases hk : (zaQ h == 0)
  · have hk' : (zaQ h != 0) = true := by simpa using hk
    have hk0 : ¬ zaQ h = 0 := by simpa using hk
    refine gq2 hk' ?_
    refine zbj hl ?_
    rw [hdrBF, if_neg hk0] at hK
    exact hK
  have hk0 : zaQ h = 0 := by simpa using hk
  have hr := zeI (zdt.1 hk0)
  rw [hdrBF, if_pos hk0, hk0] at hK
  rw [hk0]
  refine gq2 (show ((0 : Int) != 0) = false from rfl) ?_
  have hg : ∀ (k : Nat) x, (zjM h)[k]? = some x → [[D.int .i64 h.seq], [D.int .i64 h.prev], [D.int .i64 h.batch], [D.int .i64 h.root], [D.int .i64 h.state]][k]? = some [D.int .i64 x] := fun k x hx => by
    have := zbr (f := fun t => [D.int .i64 t]) hx
    simpa [zjM] using this
  have hl5 : (zjM h).length = 5 := rfl
  unfold zlX at hK
  obtain ⟨l, hlq⟩ : ∃ l, zjM h = l := ⟨_, rfl⟩
  rw [hlq] at hK hl5 hg hr
  refine zN 5 (fun k vs s => (∃ x, vs = [x, .d (.int .i64 k)] ∧ (x = .exact (bcs (3 :: zkV (l.take k))) ∨ ∃ t, x = .own t (bcs (3 :: zkV (l.take k))))) ∧ ∃ T, s = σ ++ T) ⟨⟨_, rfl, .inl rfl⟩, _, rfl⟩ ?_
  rintro k vs s hk ⟨⟨y, rfl, hy⟩, T, rfl⟩
  by_cases hlt : k < 5
  · have hd : decide ((k : Int) < ((5 : Nat) : Int)) = true := by simp; omega
    have hx : l[k]? = some (l[k]'(by omega)) := List.getElem?_eq_getElem _
    have hgx := hg k _ hx
    obtain ⟨x, hxe⟩ : ∃ x, (l[k]'(by omega)) = x := ⟨_, rfl⟩
    rw [hxe] at hx hgx
    have hxr := hr x (List.mem_of_getElem? hx)
    have hw : IntKind.u64.wrap x = ((x.toNat : Nat) : Int) := by
      rw [show x = ((x.toNat : Nat) : Int) by omega, zcT (by omega)]; rfl
    have hln := numsB_len (l := l.take k) (fun y hy => by have := hr y (List.mem_of_mem_take hy); omega)
    have hlk : (l.take k).length = k := by rw [List.length_take]; omega
    have hbl : (3 :: zkV (l.take k)).length ≤ 1073741824 := by rw [List.length_cons]; omega
    rcases hy with rfl | ⟨t, rfl⟩
    all_goals
      refine gq2 (zi hd (zi hgx hw)) ?_
      refine zdi (b := 3 :: zkV (l.take k)) (by omega) hbl ?_
      refine gq2 (wki k (by omega)) ?_
      exact zbJ.next hlt ⟨⟨_, rfl, .inr ⟨_, by rw [numsB_snoc hx]⟩⟩, _, rfl⟩
  · have hd : decide ((k : Int) < ((5 : Nat) : Int)) = false := by simp; omega
    rw [List.take_of_length_le (by omega)] at hy
    rcases hy with rfl | ⟨t, rfl⟩
    all_goals
      refine gq2 hd ?_
      refine zbj hl ?_
      exact hK
theorem max0 (x : Int) : (if 0 > x then 0 else x) = ((x.toNat : Nat) : Int) ∧ (if x > 0 then x else 0) = ((x.toNat : Nat) : Int) := by
  constructor <;> split <;> omega
structure zmA (p : zcs) : Prop where
  off : i64r p.offset
  topic : p.topic.length ≤ 16777216
  rec_ : p.rec_.length ≤ 16777216
theorem gq30 {A P Q : Prop} (a : A) (h : Q) (e : A → Hd Q → P := by intro a h; (repeat' first | simp -dsimp only [↓zhH, ↓zbh, ↓zcI, ↓zhI, ↓zhD, ↓zhB, ↓zhE, ↓zhC, ↓zcN, ↓zcJ, ↓zcO, ↓zcK, ↓zhF, ↓zcH, ↓zcP, ↓zcL, ↓zcQ, ↓zcM, ↓zhA, ↓zhG, ↓zcG, ↓zcS, ↓zhy, ↓zhx, ↓zhz, iN, bT, bF, eN, ↓zei, ↓unC, ↓zal, ↓zZ, ↓zaa, ↓zah, ↓zaE, ↓zaO, ↓zdI, ↓zak, ↓zcu, ↓zaF, ↓zr, ↓zA, ↓zde, ↓zj, ↓zau, ↓zT, ↓zaW, ↓zbl, ↓zd, ↓zU, ↓zq, ↓zJ, ↓zaI, ↓zez, ↓zeX, ↓zaq, ↓zaS, ↓zaV, ↓zbA, ↓zbV, ↓zG, ↓zay, ↓zX, ↓zH, ↓zaC, zeY, zcw, zcg, unA, zfb, bnd, zfU, zan, zaG, zfT, dm, dm1, zC, zaT, zgx, zgw, zao, Q0, Q1, Q2, Q3, Q4, Q5, zaB, zP, zp, zas, zac, Q6, Q7, Q8, Q9, Q10, Q11, Q12, Q13, Q14, Nat.reduceAdd, Q15, Int.reduceToNat, Q16, Q17, Q18, Q19, Q20, reduceIte, Q21, Q22, zE, rep, zag, zgP, toD, zap, Q23, Q24, Q25, Q26, Q27, Q28, Nat.reduceLeDiff, Q29, Nat.reduceSub, Q30, Q31, Q32, sc, Q33, Q34, Q35, Q36, Q37, Q26, Q38, Q39, n0gt, n1gt, n2gt, n0eq, zjv, n1eq, n2eq, n0ne, n1ne, zju, zjw, i0ne, i0eq, Bool.not_true, Bool.not_false, List.length_map, List.nil_append, m1, a] | with_reducible refine andA ?_ | fail); exact h.go) : P := e a ⟨h⟩
theorem c_toPlaced {σ : List zc} {p : zcs} (hp : zmA p) {K : AV → List zc → Prop} (hK : K (.d (.slice (bcs (zaH p)))) σ) : zt Tryz.prog zdp [.agg [.d (.str p.topic), .d (.int .i64 p.offset), .d (.slice (bcs p.rec_))]] σ K := by
  refine zhl ziW fun hl => ?_
  have ht := hp.topic; have hr := hp.rec_; have ho := hp.off
  have hlt := zo (n := p.topic.length) (by omega)
  have hon : p.offset.toNat < 9223372036854775808 := by have := ho.2; omega
  have hlo := zo (n := p.offset.toNat) (by omega)
  obtain ⟨m1, m2⟩ := max0 p.offset
  have m3 : (if p.offset > 0 then p.offset else 0) = ((p.offset.toNat : Nat) : Int) := m2
  have hw : IntKind.u64.wrap ((p.offset.toNat : Nat) : Int) = ((p.offset.toNat : Nat) : Int) := zcT (by omega)
  simp only [zfk, iN, bT, bF, eN]
  refine gq1 ?_
  refine zfx (b := []) (x := p.topic) (by omega) (by simp) ?_
  refine gq30 (zi m2 hw) ?_
  refine zdi (b := zbG p.topic.length ++ p.topic) (by omega) (by simp; omega) ?_
  refine gq1 ?_
  refine zfx (by omega) (by simp; omega) ?_
  refine gq1 ?_
  refine zbj hl ?_
  simp only [zaH, ziU, List.append_assoc] at hK ⊢
  exact hK
end Go.Proofs.YthpnelbciibjeaaGreat
