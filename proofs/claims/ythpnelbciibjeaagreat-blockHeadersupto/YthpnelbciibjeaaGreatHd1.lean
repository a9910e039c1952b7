/- Contracts: headers, and records at their places, on both sides. -/
import Derived.Test.YthpnelbciibjeaaGreatId3
import Derived.Test.YthpnelbciibjeaaGreatId4
import Derived.Test.YthpnelbciibjeaaGreatCodec1
import Derived.Test.YthpnelbciibjeaaGreatSpUtf
set_option linter.all false
set_option maxRecDepth 100000
set_option linter.unusedSimpArgs false
set_option linter.unusedVariables false
namespace Go.Proofs.YthpnelbciibjeaaGreat
open Go.AW

theorem znH {σ : List zc} {x : Int} {K : AV → List zc → Prop} (hK : K (.d (.bool (zhP x))) σ) : zo Tryz.prog zfH [.d (.int .i64 x)] σ K := by
  refine zhS e_r09_num fun hl => ?_
  have fin : ∀ z, zhP x = z → K (.d (.bool z)) σ := fun z h => h ▸ hK
  clear hK
  simp only [S_r09_num, iN, bT, bF, eN]
  cases h1 : decide (x ≥ 0)
  · refine gq2 h1 ?_
    refine zbx hl ?_
    exact fin _ (by simp at h1; simp [zhP]; omega)
  · refine gq2 h1 ?_
    refine zbx hl ?_
    exact fin _ (by simp at h1; simp [zhP]; omega)
theorem c_hrCheck {σ : List zc} {h : zfs} {K : AV → List zc → Prop} (hK : K (.d (.int .i64 (zaE h))) σ) : zo Tryz.prog zhm [znn h] σ K := by
  refine zhS e_r09_Check fun hl => ?_
  have fin : ∀ z, zim h = z → K (.d (.int .i64 (if z = true then 0 else 90))) σ := fun z e => by subst e; exact hK
  clear hK
  simp only [znQ, iN, bT, bF, eN, znn]
  refine gq1 ?_
  refine znH ?_
  cases h1 : zhP h.seq
  · refine gq1 ?_
    refine zbx hl ?_
    exact fin false (by simp [zim, zmB, h1])
  refine gq1 ?_
  refine znH ?_
  cases h2 : zhP h.prev
  · refine gq1 ?_
    refine zbx hl ?_
    exact fin false (by simp [zim, zmB, h2])
  refine gq1 ?_
  refine znH ?_
  cases h3 : zhP h.batch
  · refine gq1 ?_
    refine zbx hl ?_
    exact fin false (by simp [zim, zmB, h3])
  refine gq1 ?_
  refine znH ?_
  cases h4 : zhP h.root
  · refine gq1 ?_
    refine zbx hl ?_
    exact fin false (by simp [zim, zmB, h4])
  refine gq1 ?_
  refine znH ?_
  cases h5 : zhP h.state
  · refine gq1 ?_
    refine zbx hl ?_
    exact fin false (by simp [zim, zmB, h5])
  refine gq1 ?_
  refine zbx hl ?_
  exact fin true (by simp [zim, zmB, h1, h2, h3, h4, h5])
theorem zkG {σ : List zc} {h : zfs} {K : AV → List zc → Prop} (hK : K (.d (.int .i64 (zaE h))) σ) : zo Tryz.prog zdc [znn h] σ K := by
  refine zhS zqa fun hl => ?_
  have fin : ∀ z, zim h = z → K (.d (.int .i64 (if z = true then 0 else 90))) σ := fun z e => by subst e; exact hK
  clear hK
  simp only [zkW, iN, bT, bF, eN, znn]
  refine gq1 ?_
  have hg : ∀ (k : Nat) x, (zmB h)[k]? = some x → [[D.int .i64 h.seq], [D.int .i64 h.prev], [D.int .i64 h.batch], [D.int .i64 h.root], [D.int .i64 h.state]][k]? = some [D.int .i64 x] := fun k x hx => by
    have := zdu (f := fun t => [D.int .i64 t]) hx
    simpa [zmB] using this
  have hl5 : (zmB h).length = 5 := rfl
  unfold zim at fin
  obtain ⟨l, hlq⟩ : ∃ l, zmB h = l := ⟨_, rfl⟩
  rw [hlq] at fin hl5 hg
  refine zV 5 (fun k vs s => vs = [.d (.int .i64 k)] ∧ (∃ T, s = σ ++ T) ∧ (l.take k).all zhP = true) ⟨rfl, ⟨_, rfl⟩, by simp⟩ ?_
  rintro k vs s hk ⟨rfl, ⟨T, rfl⟩, hok⟩
  by_cases hlt : k < 5
  · have hd : decide ((k : Int) < ((5 : Nat) : Int)) = true := by simp; omega
    have hx : l[k]? = some (l[k]'(by omega)) := List.getElem?_eq_getElem _
    have hgx := hg k _ hx
    obtain ⟨x, hxe⟩ : ∃ x, (l[k]'(by omega)) = x := ⟨_, rfl⟩
    rw [hxe] at hx hgx
    have bad : zhP x = false → l.all zhP = false := fun h => by
      rw [Bool.eq_false_iff]
      intro hall
      have := List.all_eq_true.1 hall x (List.mem_of_getElem? hx)
      rw [h] at this; cases this
    cases h1 : decide (x < 0)
    · cases h2 : decide (x > 9007199254740992)
      · refine gq2 (zh hd (zh hgx (zh h1 (zh h2 (wki k (by omega)))))) ?_
        refine zcE.next hlt ⟨rfl, ⟨_, rfl⟩, ?_⟩
        rw [List.take_add_one, hx]
        simp only [List.all_append, hok, Option.toList_some, List.all_cons, List.all_nil, Bool.true_and, Bool.and_true]
        simp at h1 h2
        simp [zhP]; omega
      · refine gq2 (zh hd (zh hgx (zh h1 h2))) ?_
        refine zbx hl ?_
        exact fin false (bad (by simp at h2; simp [zhP]; omega))
    · refine gq2 (zh hd (zh hgx h1)) ?_
      refine zbx hl ?_
      exact fin false (bad (by simp at h1; simp [zhP]; omega))
  · have hd : decide ((k : Int) < ((5 : Nat) : Int)) = false := by simp; omega
    rw [List.take_of_length_le (by omega)] at hok
    refine gq2 hd ?_
    refine zbx hl ?_
    exact fin true hok
theorem znI {σ : List zc} {h : zfs} {K : AV → List zc → Prop} (hK : K (.tup [.d (.slice (bcs (hdrBF h))), .d (.int .i64 (zaE h))]) σ) : zo Tryz.prog zdR [znn h] σ K := by
  refine zhS zqc fun hl => ?_
  simp only [zkY, iN, bT, bF, eN, znn]
  refine gq1 ?_
  refine zkG (h := h) ?_
  cases hk : (zaE h == 0)
  · have hk' : (zaE h != 0) = true := by simpa using hk
    have hk0 : ¬ zaE h = 0 := by simpa using hk
    refine gq2 hk' ?_
    refine zbx hl ?_
    rw [hdrBF, if_neg hk0] at hK
    exact hK
  have hk0 : zaE h = 0 := by simpa using hk
  have hr := zil (zeH.1 hk0)
  rw [hdrBF, if_pos hk0, hk0] at hK
  rw [hk0]
  refine gq2 (show ((0 : Int) != 0) = false from rfl) ?_
  have hg : ∀ (k : Nat) x, (zmB h)[k]? = some x → [[D.int .i64 h.seq], [D.int .i64 h.prev], [D.int .i64 h.batch], [D.int .i64 h.root], [D.int .i64 h.state]][k]? = some [D.int .i64 x] := fun k x hx => by
    have := zdu (f := fun t => [D.int .i64 t]) hx
    simpa [zmB] using this
  have hl5 : (zmB h).length = 5 := rfl
  unfold zoD at hK
  obtain ⟨l, hlq⟩ : ∃ l, zmB h = l := ⟨_, rfl⟩
  rw [hlq] at hK hl5 hg hr
  refine zV 5 (fun k vs s => (∃ x, vs = [x, .d (.int .i64 k)] ∧ (x = .exact (bcs (3 :: zjg (l.take k))) ∨ ∃ t, x = .own t (bcs (3 :: zjg (l.take k))))) ∧ ∃ T, s = σ ++ T) ⟨⟨_, rfl, .inl rfl⟩, _, rfl⟩ ?_
  rintro k vs s hk ⟨⟨y, rfl, hy⟩, T, rfl⟩
  by_cases hlt : k < 5
  · have hd : decide ((k : Int) < ((5 : Nat) : Int)) = true := by simp; omega
    have hx : l[k]? = some (l[k]'(by omega)) := List.getElem?_eq_getElem _
    have hgx := hg k _ hx
    obtain ⟨x, hxe⟩ : ∃ x, (l[k]'(by omega)) = x := ⟨_, rfl⟩
    rw [hxe] at hx hgx
    have hxr := hr x (List.mem_of_getElem? hx)
    have hw : IntKind.u64.wrap x = ((x.toNat : Nat) : Int) := by
      rw [show x = ((x.toNat : Nat) : Int) by omega, zbe (by omega)]; rfl
    have hln := znb (l := l.take k) (fun y hy => by have := hr y (List.mem_of_mem_take hy); omega)
    have hlk : (l.take k).length = k := by rw [List.length_take]; omega
    have hbl : (3 :: zjg (l.take k)).length ≤ 1073741824 := by rw [List.length_cons]; omega
    rcases hy with rfl | ⟨t, rfl⟩
    all_goals
      refine gq2 (zh hd (zh hgx hw)) ?_
      refine zde (b := 3 :: zjg (l.take k)) (by omega) hbl ?_
      refine gq2 (wki k (by omega)) ?_
      exact zcE.next hlt ⟨⟨_, rfl, .inr ⟨_, by rw [zov hx]⟩⟩, _, rfl⟩
  · have hd : decide ((k : Int) < ((5 : Nat) : Int)) = false := by simp; omega
    rw [List.take_of_length_le (by omega)] at hy
    rcases hy with rfl | ⟨t, rfl⟩
    all_goals
      refine gq2 hd ?_
      refine zbx hl ?_
      exact hK
theorem c_hrBytes {σ : List zc} {h : zfs} {K : AV → List zc → Prop} (hK : K (.tup [.d (.slice (bcs (hdrBF h))), .d (.int .i64 (zaE h))]) σ) : zo Tryz.prog zhn [znn h] σ K := by
  refine zhS e_r09_Bytes fun hl => ?_
  simp only [znR, iN, bT, bF, eN, znn]
  refine gq1 ?_
  refine c_hrCheck (h := h) ?_
  cases hk : (zaE h == 0)
  · have hk' : (zaE h != 0) = true := by simpa using hk
    have hk0 : ¬ zaE h = 0 := by simpa using hk
    refine gq2 hk' ?_
    refine zbx hl ?_
    rw [hdrBF, if_neg hk0] at hK
    exact hK
  have hk0 : zaE h = 0 := by simpa using hk
  have hr := zil (zeH.1 hk0)
  rw [hdrBF, if_pos hk0, hk0] at hK
  rw [hk0]
  have h0 := hr h.seq (by simp [zmB])
  have hw0 : IntKind.u64.wrap h.seq = ((h.seq.toNat : Nat) : Int) := by
    rw [show h.seq = ((h.seq.toNat : Nat) : Int) by omega, zbe (by omega)]; rfl
  refine gq2 (zh (show ((0 : Int) != 0) = false from rfl) hw0) ?_
  refine c_rPutNum (b := [3]) (by omega) (by simp) ?_
  refine gq1 ?_
  have hg : ∀ (k : Nat) x, [h.prev, h.batch, h.root, h.state][k]? = some x → [[D.int .i64 h.prev], [D.int .i64 h.batch], [D.int .i64 h.root], [D.int .i64 h.state]][k]? = some [D.int .i64 x] := fun k x hx => by
    have := zdu (f := fun t => [D.int .i64 t]) hx
    simpa using this
  have hB : zoD h = [3] ++ zbs h.seq.toNat ++ zjg [h.prev, h.batch, h.root, h.state] := by simp [zoD, zmB, zjg]
  rw [hB] at hK
  have hr4 : ∀ x ∈ [h.prev, h.batch, h.root, h.state], 0 ≤ x ∧ x ≤ 9007199254740992 := fun x hx => hr x (by rw [zmB]; exact List.mem_cons_of_mem _ hx)
  have hl4 : [h.prev, h.batch, h.root, h.state].length = 4 := rfl
  have hb0 : ([3] ++ zbs h.seq.toNat).length ≤ 11 := by
    have := zn (n := h.seq.toNat) (by omega)
    simp; omega
  obtain ⟨l, hlq⟩ : ∃ l, [h.prev, h.batch, h.root, h.state] = l := ⟨_, rfl⟩
  rw [hlq] at hK hl4 hg hr4
  obtain ⟨b, hbe⟩ : ∃ b, [3] ++ zbs h.seq.toNat = b := ⟨_, rfl⟩
  have hbc : zaQ 3 :: bcs (zbs h.seq.toNat) = bcs b := by rw [← hbe]; rfl
  rw [hbe] at hK hb0
  rw [hbc]
  refine zV 4 (fun k vs s => (∃ t, vs = [.own t (bcs (b ++ zjg (l.take k))), .d (.int .i64 k)]) ∧ ∃ T, s = σ ++ T) ⟨⟨_, by simp [zjg]; rfl⟩, _, rfl⟩ ?_
  rintro k vs s hk ⟨⟨t, rfl⟩, T, rfl⟩
  by_cases hlt : k < 4
  · have hd : decide ((k : Int) < ((4 : Nat) : Int)) = true := by simp; omega
    have hx : l[k]? = some (l[k]'(by omega)) := List.getElem?_eq_getElem _
    have hgx := hg k _ hx
    obtain ⟨x, hxe⟩ : ∃ x, (l[k]'(by omega)) = x := ⟨_, rfl⟩
    rw [hxe] at hx hgx
    have hxr := hr4 x (List.mem_of_getElem? hx)
    have hw : IntKind.u64.wrap x = ((x.toNat : Nat) : Int) := by
      rw [show x = ((x.toNat : Nat) : Int) by omega, zbe (by omega)]; rfl
    have hln := znb (l := l.take k) (fun y hy => by have := hr4 y (List.mem_of_mem_take hy); omega)
    have hlk : (l.take k).length = k := by rw [List.length_take]; omega
    have hbl : (b ++ zjg (l.take k)).length ≤ 1073741824 := by rw [List.length_append]; omega
    refine gq2 (zh hd (zh hgx hw)) ?_
    refine c_rPutNum (by omega) hbl ?_
    refine gq2 (wki k (by omega)) ?_
    exact zcE.next hlt ⟨⟨_, by rw [zov hx]⟩, _, rfl⟩
  · have hd : decide ((k : Int) < ((4 : Nat) : Int)) = false := by simp; omega
    rw [List.take_of_length_le (by omega)]
    refine gq2 hd ?_
    refine zbx hl ?_
    exact hK
theorem max0 (x : Int) : (if 0 > x then 0 else x) = ((x.toNat : Nat) : Int) ∧ (if x > 0 then x else 0) = ((x.toNat : Nat) : Int) := by
  constructor <;> split <;> omega
structure zpk (p : zcX) : Prop where
  off : i64r p.offset
  topic : p.topic.length ≤ 16777216
  rec_ : p.rec_.length ≤ 16777216
theorem gq13 {A P Q : Prop} (a : A) (h : Q) (e : A → Hd Q → P := by intro a h; (repeat' first | simp -dsimp only [↓zgX, ↓zaP, ↓zca, ↓zgZ, ↓zgR, ↓zgP, ↓zgS, ↓zgQ, ↓zcf, ↓zcb, ↓zcg, ↓zcc, ↓zgT, ↓zbX, ↓zch, ↓zcd, ↓zci, ↓zce, ↓zgN, ↓zgW, ↓zbW, ↓zcm, ↓zgC, ↓zgB, ↓zgL, iN, bT, bF, eN, ↓zdH, ↓unC, ↓zR, ↓zN, ↓zO, ↓zP, ↓zan, ↓zba, ↓zcY, ↓zS, ↓zcj, ↓zao, ↓zt, ↓zj, ↓zbI, ↓zg, ↓zah, ↓zX, ↓zaZ, ↓zaU, ↓zd, ↓zH, ↓zl, ↓zy, ↓zar, ↓zdS, ↓zeg, ↓zZ, ↓zaH, ↓zaO, ↓zbn, ↓zbC, ↓zw, ↓zam, ↓zL, ↓zu, ↓zaj, zee, zbN, zbH, unA, zed, bnd, zeY, zad, zag, zeQ, dm, dm1, zE, zaI, zgc, zgb, zaf, Q0, Q1, Q2, Q3, Q4, Q5, zai, zp, zm, zac, zM, Q6, Q7, Q8, Q9, Q10, Q11, Q12, Q13, Q14, Nat.reduceAdd, Q15, Int.reduceToNat, Q16, Q17, Q18, Q19, Q20, reduceIte, Q21, Q22, zC, rep, zT, zfz, toD, zab, Q23, Q24, Q25, Q26, Q27, Q28, Nat.reduceLeDiff, Q29, Nat.reduceSub, Q30, Q31, Q32, sc, Q33, Q34, Q35, Q36, Q37, Q26, Q38, Q39, zpD, zpA, zpx, zpE, zhv, zpB, zpy, zpC, zpz, zhu, zhw, zpJ, zpK, Bool.not_true, Bool.not_false, List.length_map, List.nil_append, m1, a] | with_reducible refine zqn ?_ | fail); exact h.go) : P := e a ⟨h⟩
theorem c_toPlaced {σ : List zc} {p : zcX} (hp : zpk p) {K : AV → List zc → Prop} (hK : K (.d (.slice (bcs (zcH p)))) σ) : zo Tryz.prog zdl [.agg [.d (.str p.topic), .d (.int .i64 p.offset), .d (.slice (bcs p.rec_))]] σ K := by
  refine zhS zji fun hl => ?_
  have ht := hp.topic; have hr := hp.rec_; have ho := hp.off
  have hlt := zn (n := p.topic.length) (by omega)
  have hon : p.offset.toNat < 9223372036854775808 := by have := ho.2; omega
  have hlo := zn (n := p.offset.toNat) (by omega)
  obtain ⟨m1, m2⟩ := max0 p.offset
  have m3 : (if p.offset > 0 then p.offset else 0) = ((p.offset.toNat : Nat) : Int) := m2
  have hw : IntKind.u64.wrap ((p.offset.toNat : Nat) : Int) = ((p.offset.toNat : Nat) : Int) := zbe (by omega)
  simp only [zfh, iN, bT, bF, eN]
  refine gq1 ?_
  refine zfy (b := []) (x := p.topic) (by omega) (by simp) ?_
  refine gq13 (zh m2 hw) ?_
  refine zde (b := zbs p.topic.length ++ p.topic) (by omega) (by simp; omega) ?_
  refine gq1 ?_
  refine zfy (by omega) (by simp; omega) ?_
  refine gq1 ?_
  refine zbx hl ?_
  simp only [zcH, zka, List.append_assoc] at hK ⊢
  exact hK
end Go.Proofs.YthpnelbciibjeaaGreat
