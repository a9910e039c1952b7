/- Contracts: headers, and records at their places, on both sides. -/
import Derived.Test.YthpnelbciibjeaaGreatId3
import Derived.Test.YthpnelbciibjeaaGreatCodec1
import Derived.Test.YthpnelbciibjeaaGreatSpUtf
set_option linter.all false
set_option maxRecDepth 100000
set_option linter.unusedSimpArgs false
set_option linter.unusedVariables false
namespace Go.Proofs.YthpnelbciibjeaaGreat
open Go.AW

theorem zmJ {σ : List zc} {h : zfg} {K : AV → List zc → Prop} (hK : K (.d (.int .i64 (zaJ h))) σ) : zt Tryz.prog zdI [hdrA h] σ K := by
  refine ziI zoK fun hl => ?_
  have fin : ∀ z, znc h = z → K (.d (.int .i64 (if z = true then 0 else 90))) σ := fun z e => by subst e; exact hK
  clear hK
  simp only [zki, iN, bT, bF, eN, hdrA]
  refine gq1 ?_
  have hg : ∀ (k : Nat) x, (zmq h)[k]? = some x → [[D.int .i64 h.seq], [D.int .i64 h.prev], [D.int .i64 h.batch], [D.int .i64 h.root], [D.int .i64 h.state]][k]? = some [D.int .i64 x] := fun k x hx => by
    have := zef (f := fun t => [D.int .i64 t]) hx
    simpa [zmq] using this
  have hl5 : (zmq h).length = 5 := rfl
  unfold znc at fin
  obtain ⟨l, hlq⟩ : ∃ l, zmq h = l := ⟨_, rfl⟩
  rw [hlq] at fin hl5 hg
  refine zaa 5 (fun k vs s => vs = [.d (.int .i64 k)] ∧ (∃ T, s = σ ++ T) ∧ (l.take k).all zoq = true) ⟨rfl, ⟨_, rfl⟩, by simp⟩ ?_
  rintro k vs s hk ⟨rfl, ⟨T, rfl⟩, hok⟩
  by_cases hlt : k < 5
  · have hd : decide ((k : Int) < ((5 : Nat) : Int)) = true := by simp; omega
    have hx : l[k]? = some (l[k]'(by omega)) := List.getElem?_eq_getElem _
    have hgx := hg k _ hx
    obtain ⟨x, hxe⟩ : ∃ x, (l[k]'(by omega)) = x := ⟨_, rfl⟩
    rw [hxe] at hx hgx
    have bad : zoq x = false → l.all zoq = false := fun h => by
      rw [Bool.eq_false_iff]
      intro hall
      have := List.all_eq_true.1 hall x (List.mem_of_getElem? hx)
      rw [h] at this; cases this
    cases h1 : decide (x < 0)
    · cases h2 : decide (x > 9007199254740992)
      · refine gq2 (zg hd (zg hgx (zg h1 (zg h2 (wki k (by omega)))))) ?_
        refine zdb.next hlt ⟨rfl, ⟨_, rfl⟩, ?_⟩
        rw [List.take_add_one, hx]
        simp only [List.all_append, hok, Option.toList_some, List.all_cons, List.all_nil, Bool.true_and, Bool.and_true]
        simp at h1 h2
        simp [zoq]; omega
      · refine gq2 (zg hd (zg hgx (zg h1 h2))) ?_
        refine zcg hl ?_
        exact fin false (bad (by simp at h2; simp [zoq]; omega))
    · refine gq2 (zg hd (zg hgx h1)) ?_
      refine zcg hl ?_
      exact fin false (bad (by simp at h1; simp [zoq]; omega))
  · have hd : decide ((k : Int) < ((5 : Nat) : Int)) = false := by simp; omega
    rw [List.take_of_length_le (by omega)] at hok
    refine gq2 hd ?_
    refine zcg hl ?_
    exact fin true hok
theorem zjR {σ : List zc} {h : zfg} {K : AV → List zc → Prop} (hK : K (.tup [.d (.slice (bcs (hdrBF h))), .d (.int .i64 (zaJ h))]) σ) : zt Tryz.prog zbX [hdrA h] σ K := by
  refine ziI zoM fun hl => ?_
  simp only [zkk, iN, bT, bF, eN, hdrA]
  refine gq1 ?_
  refine zmJ (h := h) ?_
  cases hk : (zaJ h == 0)
  · have hk' : (zaJ h != 0) = true := by simpa using hk
    have hk0 : ¬ zaJ h = 0 := by simpa using hk
    refine gq2 hk' ?_
    refine zcg hl ?_
    rw [hdrBF, if_neg hk0] at hK
    exact hK
  have hk0 : zaJ h = 0 := by simpa using hk
  have hr := zhm (zdO.1 hk0)
  rw [hdrBF, if_pos hk0, hk0] at hK
  rw [hk0]
  refine gq2 (show ((0 : Int) != 0) = false from rfl) ?_
  have hg : ∀ (k : Nat) x, (zmq h)[k]? = some x → [[D.int .i64 h.seq], [D.int .i64 h.prev], [D.int .i64 h.batch], [D.int .i64 h.root], [D.int .i64 h.state]][k]? = some [D.int .i64 x] := fun k x hx => by
    have := zef (f := fun t => [D.int .i64 t]) hx
    simpa [zmq] using this
  have hl5 : (zmq h).length = 5 := rfl
  unfold znd at hK
  obtain ⟨l, hlq⟩ : ∃ l, zmq h = l := ⟨_, rfl⟩
  rw [hlq] at hK hl5 hg hr
  refine zaa 5 (fun k vs s => (∃ x, vs = [x, .d (.int .i64 k)] ∧ (x = .exact (bcs (3 :: zkw (l.take k))) ∨ ∃ t, x = .own t (bcs (3 :: zkw (l.take k))))) ∧ ∃ T, s = σ ++ T) ⟨⟨_, rfl, .inl rfl⟩, _, rfl⟩ ?_
  rintro k vs s hk ⟨⟨y, rfl, hy⟩, T, rfl⟩
  by_cases hlt : k < 5
  · have hd : decide ((k : Int) < ((5 : Nat) : Int)) = true := by simp; omega
    have hx : l[k]? = some (l[k]'(by omega)) := List.getElem?_eq_getElem _
    have hgx := hg k _ hx
    obtain ⟨x, hxe⟩ : ∃ x, (l[k]'(by omega)) = x := ⟨_, rfl⟩
    rw [hxe] at hx hgx
    have hxr := hr x (List.mem_of_getElem? hx)
    have hw : IntKind.u64.wrap x = ((x.toNat : Nat) : Int) := by
      rw [show x = ((x.toNat : Nat) : Int) by omega, zbP (by omega)]; rfl
    have hln := numsB_len (l := l.take k) (fun y hy => by have := hr y (List.mem_of_mem_take hy); omega)
    have hlk : (l.take k).length = k := by rw [List.length_take]; omega
    have hbl : (3 :: zkw (l.take k)).length ≤ 1073741824 := by rw [List.length_cons]; omega
    rcases hy with rfl | ⟨t, rfl⟩
    all_goals
      refine gq2 (zg hd (zg hgx hw)) ?_
      refine zcG (b := 3 :: zkw (l.take k)) (by omega) hbl ?_
      refine gq2 (wki k (by omega)) ?_
      exact zdb.next hlt ⟨⟨_, rfl, .inr ⟨_, by rw [numsB_snoc hx]⟩⟩, _, rfl⟩
  · have hd : decide ((k : Int) < ((5 : Nat) : Int)) = false := by simp; omega
    rw [List.take_of_length_le (by omega)] at hy
    rcases hy with rfl | ⟨t, rfl⟩
    all_goals
      refine gq2 hd ?_
      refine zcg hl ?_
      exact hK
theorem max0 (x : Int) : (if 0 > x then 0 else x) = ((x.toNat : Nat) : Int) ∧ (if x > 0 then x else 0) = ((x.toNat : Nat) : Int) := by
  constructor <;> split <;> omega
structure zof (p : zcA) : Prop where
  off : i64r p.offset
  topic : p.topic.length ≤ 16777216
  rec_ : p.rec_.length ≤ 16777216
theorem gq8 {A P Q : Prop} (a : A) (h : Q) (e : A → Hd Q → P := by intro a h; (repeat' first | simp -dsimp only [↓zit, ↓zbj, ↓zcR, ↓ziu, ↓zik, ↓zii, ↓zil, ↓zij, ↓zcW, ↓zcS, ↓zcX, ↓zcT, ↓zim, ↓zcN, ↓zcY, ↓zcU, ↓zcZ, ↓zcV, ↓zig, ↓zis, ↓zcL, ↓zda, ↓zic, ↓zib, ↓zif, iN, bT, bF, eN, ↓zet, ↓unC, ↓zW, ↓zR, ↓zS, ↓zY, ↓zaD, ↓zbk, ↓zdA, ↓zac, ↓zcB, ↓zaz, ↓zr, ↓zm, ↓zcr, ↓zh, ↓zau, ↓zab, ↓zbl, ↓zbi, ↓zd, ↓zK, ↓zn, ↓zI, ↓zay, ↓zeF, ↓zfd, ↓zaf, ↓zaT, ↓zba, ↓zbx, ↓zcd, ↓zG, ↓zav, ↓zO, ↓zC, ↓zaC, zeX, zcz, zcq, unA, zeU, bnd, zgc, zaj, zat, zfI, dm, dm1, zA, zaQ, zgP, zgO, zal, Q0, Q1, Q2, Q3, Q4, Q5, zaB, zy, zq, zar, zU, Q6, Q7, Q8, Q9, Q10, Q11, Q12, Q13, Q14, Nat.reduceAdd, Q15, Int.reduceToNat, Q16, Q17, Q18, Q19, Q20, reduceIte, Q21, Q22, zE, rep, zT, zgz, toD, zae, Q23, Q24, Q25, Q26, Q27, Q28, Nat.reduceLeDiff, Q29, Nat.reduceSub, Q30, Q31, Q32, sc, Q33, Q34, Q35, Q36, Q37, Q26, Q38, Q39, n0gt, n1gt, n2gt, n0eq, ziS, n1eq, n2eq, n0ne, n1ne, ziR, ziT, i0ne, i0eq, Bool.not_true, Bool.not_false, List.length_map, List.nil_append, m1, a] | with_reducible refine andA ?_ | fail); exact h.go) : P := e a ⟨h⟩
theorem c_toPlaced {σ : List zc} {p : zcA} (hp : zof p) {K : AV → List zc → Prop} (hK : K (.d (.slice (bcs (zcj p)))) σ) : zt Tryz.prog zcQ [.agg [.d (.str p.topic), .d (.int .i64 p.offset), .d (.slice (bcs p.rec_))]] σ K := by
  refine ziI zio fun hl => ?_
  have ht := hp.topic; have hr := hp.rec_; have ho := hp.off
  have hlt := zk (n := p.topic.length) (by omega)
  have hon : p.offset.toNat < 9223372036854775808 := by have := ho.2; omega
  have hlo := zk (n := p.offset.toNat) (by omega)
  obtain ⟨m1, m2⟩ := max0 p.offset
  have m3 : (if p.offset > 0 then p.offset else 0) = ((p.offset.toNat : Nat) : Int) := m2
  have hw : IntKind.u64.wrap ((p.offset.toNat : Nat) : Int) = ((p.offset.toNat : Nat) : Int) := zbP (by omega)
  simp only [zeO, iN, bT, bF, eN]
  refine gq1 ?_
  refine zff (b := []) (x := p.topic) (by omega) (by simp) ?_
  refine gq8 (zg m2 hw) ?_
  refine zcG (b := zbc p.topic.length ++ p.topic) (by omega) (by simp; omega) ?_
  refine gq1 ?_
  refine zff (by omega) (by simp; omega) ?_
  refine gq1 ?_
  refine zcg hl ?_
  simp only [zcj, zjl, List.append_assoc] at hK ⊢
  exact hK
end Go.Proofs.YthpnelbciibjeaaGreat
