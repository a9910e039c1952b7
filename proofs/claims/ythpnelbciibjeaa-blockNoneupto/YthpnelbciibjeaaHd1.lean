/- Contracts: headers, and records at their places, on both sides. -/
import Derived.Test.YthpnelbciibjeaaId3
import Derived.Test.YthpnelbciibjeaaCodec1
import Derived.Test.YthpnelbciibjeaaSpUtf
set_option linter.all false
set_option maxRecDepth 100000
set_option linter.unusedSimpArgs false
set_option linter.unusedVariables false
namespace Go.Proofs.Ythpnelbciibjeaa
open Go.AW

theorem zma {σ : List zc} {h : zfc} {K : AV → List zc → Prop} (hK : K (.d (.int .i64 (zbd h))) σ) : zj Try.prog zdC [hdrA h] σ K := by
  refine zhr znX fun hl => ?_
  have fin : ∀ z, zmx h = z → K (.d (.int .i64 (if z = true then 0 else 90))) σ := fun z e => by subst e; exact hK
  clear hK
  simp only [zjI, iN, bT, bF, eN, hdrA]
  refine gq1 ?_
  have hg : ∀ (k : Nat) x, (hdrL h)[k]? = some x → [[D.int .i64 h.seq], [D.int .i64 h.prev], [D.int .i64 h.batch], [D.int .i64 h.root], [D.int .i64 h.state]][k]? = some [D.int .i64 x] := fun k x hx => by
    have := zef (f := fun t => [D.int .i64 t]) hx
    simpa [hdrL] using this
  have hl5 : (hdrL h).length = 5 := rfl
  unfold zmx at fin
  obtain ⟨l, hlq⟩ : ∃ l, hdrL h = l := ⟨_, rfl⟩
  rw [hlq] at fin hl5 hg
  refine zV 5 (fun k vs s => vs = [.d (.int .i64 k)] ∧ (∃ T, s = σ ++ T) ∧ (l.take k).all znG = true) ⟨rfl, ⟨_, rfl⟩, by simp⟩ ?_
  rintro k vs s hk ⟨rfl, ⟨T, rfl⟩, hok⟩
  by_cases hlt : k < 5
  · have hd : decide ((k : Int) < ((5 : Nat) : Int)) = true := by simp; omega
    have hx : l[k]? = some (l[k]'(by omega)) := List.getElem?_eq_getElem _
    have hgx := hg k _ hx
    obtain ⟨x, hxe⟩ : ∃ x, (l[k]'(by omega)) = x := ⟨_, rfl⟩
    rw [hxe] at hx hgx
    have bad : znG x = false → l.all znG = false := fun h => by
      rw [Bool.eq_false_iff]
      intro hall
      have := List.all_eq_true.1 hall x (List.mem_of_getElem? hx)
      rw [h] at this; cases this
    cases h1 : decide (x < 0)
    · cases h2 : decide (x > 9007199254740992)
      · refine gq2 (zg hd (zg hgx (zg h1 (zg h2 (wki k (by omega)))))) ?_
        refine zcd.next hlt ⟨rfl, ⟨_, rfl⟩, ?_⟩
        rw [List.take_add_one, hx]
        simp only [List.all_append, hok, Option.toList_some, List.all_cons, List.all_nil, Bool.true_and, Bool.and_true]
        simp at h1 h2
        simp [znG]; omega
      · refine gq2 (zg hd (zg hgx (zg h1 h2))) ?_
        refine zbD hl ?_
        exact fin false (bad (by simp at h2; simp [znG]; omega))
    · refine gq2 (zg hd (zg hgx h1)) ?_
      refine zbD hl ?_
      exact fin false (bad (by simp at h1; simp [znG]; omega))
  · have hd : decide ((k : Int) < ((5 : Nat) : Int)) = false := by simp; omega
    rw [List.take_of_length_le (by omega)] at hok
    refine gq2 hd ?_
    refine zbD hl ?_
    exact fin true hok
theorem c_blBytes {σ : List zc} {h : zfc} {K : AV → List zc → Prop} (hK : K (.tup [.d (.slice (bcs (hdrBF h))), .d (.int .i64 (zbd h))]) σ) : zj Try.prog zeQ [hdrA h] σ K := by
  refine zhr znY fun hl => ?_
  simp only [zjJ, iN, bT, bF, eN, hdrA]
  refine gq1 ?_
  refine zma (h := h) ?_
  cases hk : (zbd h == 0)
  · have hk' : (zbd h != 0) = true := by simpa using hk
    have hk0 : ¬ zbd h = 0 := by simpa using hk
    refine gq2 hk' ?_
    refine zbD hl ?_
    rw [hdrBF, if_neg hk0] at hK
    exact hK
  have hk0 : zbd h = 0 := by simpa using hk
  have hr := zjm (zgd.1 hk0)
  rw [hdrBF, if_pos hk0, hk0] at hK
  rw [hk0]
  refine gq2 (show ((0 : Int) != 0) = false from rfl) ?_
  have hg : ∀ (k : Nat) x, (hdrL h)[k]? = some x → [[D.int .i64 h.seq], [D.int .i64 h.prev], [D.int .i64 h.batch], [D.int .i64 h.root], [D.int .i64 h.state]][k]? = some [D.int .i64 x] := fun k x hx => by
    have := zef (f := fun t => [D.int .i64 t]) hx
    simpa [hdrL] using this
  have hl5 : (hdrL h).length = 5 := rfl
  unfold hdrB at hK
  obtain ⟨l, hlq⟩ : ∃ l, hdrL h = l := ⟨_, rfl⟩
  rw [hlq] at hK hl5 hg hr
  refine zV 5 (fun k vs s => (∃ x, vs = [x, .d (.int .i64 k)] ∧ (x = .exact (bcs (3 :: zly (l.take k))) ∨ ∃ t, x = .own t (bcs (3 :: zly (l.take k))))) ∧ ∃ T, s = σ ++ T) ⟨⟨_, rfl, .inl rfl⟩, _, rfl⟩ ?_
  rintro k vs s hk ⟨⟨y, rfl, hy⟩, T, rfl⟩
  by_cases hlt : k < 5
  · have hd : decide ((k : Int) < ((5 : Nat) : Int)) = true := by simp; omega
    have hx : l[k]? = some (l[k]'(by omega)) := List.getElem?_eq_getElem _
    have hgx := hg k _ hx
    obtain ⟨x, hxe⟩ : ∃ x, (l[k]'(by omega)) = x := ⟨_, rfl⟩
    rw [hxe] at hx hgx
    have hxr := hr x (List.mem_of_getElem? hx)
    have hw : IntKind.u64.wrap x = ((x.toNat : Nat) : Int) := by
      rw [show x = ((x.toNat : Nat) : Int) by omega, zcp (by omega)]; rfl
    have hln := numsB_len (l := l.take k) (fun y hy => by have := hr y (List.mem_of_mem_take hy); omega)
    have hlk : (l.take k).length = k := by rw [List.length_take]; omega
    have hbl : (3 :: zly (l.take k)).length ≤ 1073741824 := by rw [List.length_cons]; omega
    rcases hy with rfl | ⟨t, rfl⟩
    all_goals
      refine gq2 (zg hd (zg hgx hw)) ?_
      refine zcG (b := 3 :: zly (l.take k)) (by omega) hbl ?_
      refine gq2 (wki k (by omega)) ?_
      exact zcd.next hlt ⟨⟨_, rfl, .inr ⟨_, by rw [numsB_snoc hx]⟩⟩, _, rfl⟩
  · have hd : decide ((k : Int) < ((5 : Nat) : Int)) = false := by simp; omega
    rw [List.take_of_length_le (by omega)] at hy
    rcases hy with rfl | ⟨t, rfl⟩
    all_goals
      refine gq2 hd ?_
      refine zbD hl ?_
      exact hK
theorem max0 (x : Int) : (if 0 > x then 0 else x) = ((x.toNat : Nat) : Int) ∧ (if x > 0 then x else 0) = ((x.toNat : Nat) : Int) := by
  constructor <;> split <;> omega
structure znw (p : zcy) : Prop where
  off : i64r p.offset
  topic : p.topic.length ≤ 16777216
  rec_ : p.rec_.length ≤ 16777216
theorem gq8 {A P Q : Prop} (a : A) (h : Q) (e : A → Hd Q → P := by intro a h; (repeat' first | simp -dsimp only [↓ziv, ↓zbi, ↓zcW, ↓zix, ↓zio, ↓zim, ↓ziq, ↓zin, ↓zdb, ↓zcX, ↓zdc, ↓zcY, ↓zir, ↓zcU, ↓zdd, ↓zcZ, ↓zde, ↓zda, ↓zil, ↓ziu, ↓zcS, ↓zdf, ↓zia, ↓zhZ, ↓zij, iN, bT, bF, eN, ↓zeU, ↓unC, ↓zah, ↓zR, ↓zS, ↓zad, ↓zaG, ↓zbl, ↓zea, ↓zaj, ↓zcA, ↓zau, ↓zu, ↓zo, ↓zcT, ↓zi, ↓zax, ↓zac, ↓zbm, ↓zbg, ↓zd, ↓zK, ↓zq, ↓zJ, ↓zaI, ↓zeE, ↓zfi, ↓zat, ↓zaW, ↓zaY, ↓zbC, ↓zck, ↓zG, ↓zaA, ↓zQ, ↓zF, ↓zaE, zfb, zcF, zcr, unA, zfm, bnd, zfY, zap, zaw, zfQ, dm, dm1, zA, zaT, zgP, zgO, zZ, Q0, Q1, Q2, Q3, Q4, Q5, zaD, zI, zr, zav, zW, Q6, Q7, Q8, Q9, Q10, Q11, Q12, Q13, Q14, Nat.reduceAdd, Q15, Int.reduceToNat, Q16, Q17, Q18, Q19, Q20, reduceIte, Q21, Q22, zD, rep, zT, zgN, toD, zan, Q23, Q24, Q25, Q26, Q27, Q28, Nat.reduceLeDiff, Q29, Nat.reduceSub, Q30, Q31, Q32, sc, Q33, Q34, Q35, Q36, Q37, Q26, Q38, Q39, n0gt, n1gt, n2gt, n0eq, zhd, n1eq, n2eq, n0ne, n1ne, zhc, zhe, i0ne, i0eq, Bool.not_true, Bool.not_false, List.length_map, List.nil_append, m1, a] | with_reducible refine andA ?_ | fail); exact h.go) : P := e a ⟨h⟩
theorem c_toPlaced {σ : List zc} {p : zcy} (hp : znw p) {K : AV → List zc → Prop} (hK : K (.d (.slice (bcs (zcg p)))) σ) : zj Try.prog zcN [.agg [.d (.str p.topic), .d (.int .i64 p.offset), .d (.slice (bcs p.rec_))]] σ K := by
  refine zhr zhW fun hl => ?_
  have ht := hp.topic; have hr := hp.rec_; have ho := hp.off
  have hlt := zk (n := p.topic.length) (by omega)
  have hon : p.offset.toNat < 9223372036854775808 := by have := ho.2; omega
  have hlo := zk (n := p.offset.toNat) (by omega)
  obtain ⟨m1, m2⟩ := max0 p.offset
  have m3 : (if p.offset > 0 then p.offset else 0) = ((p.offset.toNat : Nat) : Int) := m2
  have hw : IntKind.u64.wrap ((p.offset.toNat : Nat) : Int) = ((p.offset.toNat : Nat) : Int) := zcp (by omega)
  simp only [zeM, iN, bT, bF, eN]
  refine gq1 ?_
  refine zfa (b := []) (x := p.topic) (by omega) (by simp) ?_
  refine gq8 (zg m2 hw) ?_
  refine zcG (b := zbB p.topic.length ++ p.topic) (by omega) (by simp; omega) ?_
  refine gq1 ?_
  refine zfa (by omega) (by simp; omega) ?_
  refine gq1 ?_
  refine zbD hl ?_
  simp only [zcg, ziU, List.append_assoc] at hK ⊢
  exact hK
end Go.Proofs.Ythpnelbciibjeaa
