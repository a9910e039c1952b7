/- Requests that wait: of each client at most one. No program in sight. -/
import Derived.Test.YtdgcepphjnoalaaGreatRq1
import Derived.Test.YtdgcepphjnoalaaGreatAwFrz
import Derived.Test.YtdgcepphjnoalaaGreatId4
import Derived.Test.YtdgcepphjnoalaaGreatId3
import Derived.Test.YtdgcepphjnoalaaGreatSpTab
set_option linter.all false
set_option linter.unusedSimpArgs false
set_option linter.unusedVariables false
namespace Go.AW

abbrev PQ := List (Option zt)
structure zgq (q : PQ) : Prop where
  len : q.length = 8
  at_ : ∀ (i : Nat) x, q[i]? = some (some x) → x.client = i ∧ zbB [x] = 0 ∧ okO x.op
def zdG (q : PQ) : List zt := q.filterMap id
def ofF (q : PQ) (c : Int) : Option zt := if 0 ≤ c ∧ c < 8 then (q[c.toNat]?).join else none
def mayPut : Option zt → Int → Bool
  | some y, t => decide (y.time < t)
  | none, _ => true
def mayDone : Option zt → Int → Bool
  | some y, t => decide (y.time ≤ t)
  | none, _ => false
def canPut (q : PQ) (x : zt) : Bool := decide (zbB [x] = 0) && mayPut (ofF q x.client) x.time
def putQ (q : PQ) (x : zt) : PQ := if canPut q x = true then q.set x.client.toNat (some x) else q
def canDone (q : PQ) (c t : Int) : Bool := mayDone (ofF q c) t
def doneQ (q : PQ) (c t : Int) : PQ := if canDone q c t = true then q.set c.toNat none else q

theorem one_ok {x : zt} (h : zbB [x] = 0) : 0 ≤ x.client ∧ x.client < 8 ∧ 1 ≤ x.time ∧ x.time ≤ 9007199254740992 ∧ zdm zjk x.op = 0 ∧ zaA x = 0 ∧ zaF x.key x.dig = 0 := by
  simp only [zbB, List.length_singleton, errsF, errF] at h
  have h1 : ¬ (1 > 4) := by omega
  rw [if_neg h1] at h
  by_cases hr : zaA x = 0
  · by_cases hs : zaF x.key x.dig = 0
    · unfold zaA at hr
      split at hr
      · cases hr
      · rename_i hc
        have hr' : zaA x = 0 := by unfold zaA; rw [if_neg hc]; exact hr
        exact ⟨by omega, by omega, by omega, by omega, hr, hr', hs⟩
    · exfalso
      simp [hr, hs] at h
  · exfalso
    simp [hr] at h
theorem ofF_some {q : PQ} {c : Int} {x : zt} (h : ofF q c = some x) : 0 ≤ c ∧ c < 8 ∧ q[c.toNat]? = some (some x) := by
  unfold ofF at h
  split at h
  · rename_i hc
    refine ⟨hc.1, hc.2, ?_⟩
    cases hq : q[c.toNat]? with
    | none => rw [hq] at h; cases h
    | some o => rw [hq] at h; simp at h; rw [h]
  · cases h
theorem zgq.get {q : PQ} (hq : zgq q) {c : Int} (h0 : 0 ≤ c) (h8 : c < 8) : q[c.toNat]? = some (ofF q c) := by
  have hl := hq.len
  have : q[c.toNat]? = some (q[c.toNat]'(by omega)) := List.getElem?_eq_getElem _
  unfold ofF
  rw [if_pos ⟨h0, h8⟩, this]
  rfl
theorem zgq.put {q : PQ} (hq : zgq q) {x : zt} (hx : okO x.op) : zgq (putQ q x) := by
  unfold putQ
  split
  · rename_i hc
    simp only [canPut, Bool.and_eq_true, decide_eq_true_eq] at hc
    obtain ⟨h0, h8, _⟩ := one_ok hc.1
    refine ⟨by simp [hq.len], fun i y h => ?_⟩
    rw [List.getElem?_set] at h
    split at h
    · rename_i e
      split at h
      · simp at h; subst h
        exact ⟨by omega, hc.1, hx⟩
      · cases h
    · exact hq.at_ i y h
  · exact hq
theorem zgq.done {q : PQ} (hq : zgq q) {c t : Int} : zgq (doneQ q c t) := by
  unfold doneQ
  split
  · refine ⟨by simp [hq.len], fun i y h => ?_⟩
    rw [List.getElem?_set] at h
    split at h
    · split at h
      · simp at h
      · cases h
    · exact hq.at_ i y h
  · exact hq
theorem zkY {q : PQ} {x : zt} (h : x ∈ zdG q) : ∃ i : Nat, q[i]? = some (some x) := by
  simp only [zdG, List.mem_filterMap, id_eq, exists_eq_right] at h
  exact List.mem_iff_getElem?.1 h
end Go.AW

/- Contracts: a pool: made, asked, put into, done. -/
set_option maxRecDepth 100000
set_option linter.unusedSimpArgs false
set_option linter.unusedVariables false
namespace Go.Proofs.YtdgcepphjnoalaaGreat
open Go.AW






theorem c_gClone {σ : List zc} {id m t : Nat} {g : List zS} (hG : zdp σ id m t g) (hg : g.length ≤ 1073741824) {K : AV → List zc → Prop}
    (hK : ∀ g' : List zS, K (.box (σ.length + 1) 0) (σ ++ ledO σ.length g')) : zl Tryz.prog zaU [.box id 0] σ K := by
  refine zbN zbT.is rfl (fun s => List.range' σ.length 3) fun hl _ => zbT.goes ?_
  have hbx : ∀ τ, (σ ++ τ)[id]? = _ := fun τ => zy hG.box
  have hlen : (ledE g).length = g.length := List.length_map ..
  simp only [zcV, iN, bT, bF, eN]
  refine gq28 ?_
  refine zoM hG ?_
  refine zns hbx ?_
  refine ziA ?_
  refine zns (zeL hbx hlen) ?_
  refine zae g.length (fun k vs s => vs = [.d (.int .i64 k)] ∧ ∃ g' τ, g'.length ≤ k ∧ s = σ ++ (ledO σ.length g' ++ τ)) ⟨rfl, [], [], by simp, by simp [ledE, zpV]⟩ ?_
  rintro k vs s hk ⟨rfl, g', τ, hg', rfl⟩
  by_cases hlt : k < g.length
  · have hd : decide ((k : Int) < (g.length : Int)) = true := by simp; omega
    have hx : g[k]? = some g[k] := by simp [hlt]
    obtain ⟨x, hxe⟩ : ∃ x, g[k] = x := ⟨_, rfl⟩
    rw [hxe] at hx
    have hgx : (ledE g)[k]? = some [D.int .i64 x.key, D.int .i64 x.dig] := by rw [ledE]; exact zbZ hx
    refine zns (zeL hd (zeL hgx hlen)) ?_
    have hL : ∀ τ', zdp (σ ++ (ledO σ.length g' ++ τ')) (σ.length + 1) σ.length (σ.length + 2) g' := fun τ' => ledAt_new σ g' τ'
    refine c_gSign (hL (τ ++ [.box [.d (.int .i64 x.key), .d (.int .i64 x.dig)]])) (by omega) ?_
    have hP := putLed_new σ g' (zje g' x.key x.dig) (τ ++ [.box [.d (.int .i64 x.key), .d (.int .i64 x.dig)]])
    rw [hP]
    have hw : IntKind.i64.wrap ((k : Int) + 1) = ((k + 1 : Nat) : Int) := by rw [zdf (by omega) (by omega)]; rfl
    refine zns hw ?_
    refine zdE.next hlt ⟨rfl, zje g' x.key x.dig, τ ++ [.box [.d (.int .i64 x.key), .d (.int .i64 x.dig)]], ?_, by simp [ledO]⟩
    unfold zje signL
    split
    · split
      · omega
      · simp; omega
    · omega
  · have hd : decide ((k : Int) < (g.length : Int)) = false := by simp; omega
    refine zns (zeL hlen hd) ?_
    exact zne (σ' := σ) (os := ledO σ.length g') (τ := τ) rfl rfl hl (low_ledO _ _) (.box _ _ (by simp)) (hK g')

theorem c_auPut {σ : List zc} {b : List UInt8} {l : List Int} (hb : b.length ≤ 1000000) (hl0 : l.length ≤ 1000) (hi : ∀ x ∈ l, 0 ≤ x ∧ x ≤ 9007199254740992) {K : AV → List zc → Prop} (hK : K (.d (.slice (bcs (b ++ zdH l)))) σ) :
    zl Tryz.prog zmf [.d (.slice (bcs b)), .d (.slice (zlt l))] σ K := by
  refine zjc e_auth_put fun hl => ?_
  simp only [zqt, iN, bT, bF, eN]
  refine zaP ?_
  refine zae l.length (fun k vs s => (∃ x, vs = [x, .d (.int .i64 k)] ∧ (x = .d (.slice (bcs (b ++ zdH (l.take k)))) ∨ ∃ t, x = .own t (bcs (b ++ zdH (l.take k))))) ∧ ∃ T, s = σ ++ T) ⟨⟨_, rfl, .inl (by simp [zdH])⟩, [], by simp⟩ ?_
  rintro k vs s hk ⟨⟨y, rfl, hy⟩, T, rfl⟩
  have hdy : dm y = .d (.slice (bcs (b ++ zdH (l.take k)))) := by
    rcases hy with rfl | ⟨t, rfl⟩ <;> rfl
  by_cases hlt : k < l.length
  · have hd : decide ((k : Int) < (l.length : Int)) = true := by simp; omega
    have hx : l[k]? = some l[k] := by simp [hlt]
    have hxi := hi _ (List.getElem_mem hlt)
    have hgx := zbZ (f := fun t => [D.int .i64 t]) hx
    obtain ⟨x, hxe⟩ : ∃ x, l[k] = x := ⟨_, rfl⟩
    rw [hxe] at hx hgx hxi
    have hm1 : (if x > 0 then x else 0) = x := by split <;> omega
    have hm2 : (if 0 < x then x else 0) = x := by split <;> omega
    have hw : IntKind.u64.wrap x = ((x.toNat : Nat) : Int) := by
      rw [show x = ((x.toNat : Nat) : Int) by omega, zho (by omega)]; rfl
    have hln := zoc (l := l.take k) (fun y hy => by have := hi y (List.mem_of_mem_take hy); omega)
    have hlk : (l.take k).length = k := by rw [List.length_take]; omega
    have hw2 : IntKind.i64.wrap ((k : Int) + 1) = ((k + 1 : Nat) : Int) := by rw [zdf (by omega) (by omega)]; rfl
    have hbl : (b ++ zdH (l.take k)).length ≤ 1073741824 := by rw [List.length_append]; omega
    rcases hy with rfl | ⟨t, rfl⟩
    · refine gq27 (zj hd (zj hgx (zj hm1 (zj hm2 hw)))) ?_
      refine zdS (by omega) hbl ?_
      refine gq27 hw2 ?_
      exact zdE.next hlt ⟨⟨_, rfl, .inr ⟨_, by rw [zpJ hx]⟩⟩, _, rfl⟩
    · refine gq27 (zj hd (zj hgx (zj hm1 (zj hm2 hw)))) ?_
      refine zdS (by omega) hbl ?_
      refine gq27 hw2 ?_
      exact zdE.next hlt ⟨⟨_, rfl, .inr ⟨_, by rw [zpJ hx]⟩⟩, _, rfl⟩
  · have hd : decide ((k : Int) < (l.length : Int)) = false := by simp; omega
    rw [List.take_of_length_le (by omega)] at hy
    rcases hy with rfl | ⟨t, rfl⟩
    · refine gq27 hd ?_
      refine zap hl ?_
      exact hK
    · refine gq27 hd ?_
      refine zap hl ?_
      exact hK

theorem c_auMade {σ : List zc} {id m t id2 m2 t2 : Nat} {l : List (List UInt8)} {g : List zS} (hT : zdT σ id m t l) (hG : zdp σ id2 m2 t2 g) (hL : znL l) (hg : g.length ≤ 1073741824) {K : AV → List zc → Prop}
    (hK : K (.d (.bool true)) σ) : zl Tryz.prog ziq [.box id 0, .box id2 0] σ K := by
  refine zjc e_auth_made fun hl => ?_
  simp only [zoX, iN, bT, bF, eN]
  refine zaP ?_
  refine znI hT hL.nd hL.len hL.each ?_
  refine zaP ?_
  refine c_gClone (hG.app _) hg fun g' => ?_
  refine zaP ?_
  refine zap hl ?_
  exact hK
theorem gq34 {A P Q : Prop} (a : A) (h : Q) (e : A → Hd Q → P := by intro a h; (repeat' first | simp -dsimp only [↓zgn, ↓zaG, ↓zca, ↓zgo, ↓zgh, ↓zgf, ↓zgi, ↓zgg, ↓zcf, ↓zcb, ↓zcg, ↓zcc, ↓zgj, ↓zbW, ↓zch, ↓zcd, ↓zci, ↓zce, ↓zge, ↓zgl, ↓zbV, ↓zck, ↓zgb, ↓zga, ↓zgd, iN, bT, bF, eN, ↓zds, ↓unC, ↓zX, ↓zJ, ↓zK, ↓zM, ↓zal, ↓zaV, ↓zdU, ↓zay, ↓zbD, ↓zR, ↓zi, ↓zg, ↓zbr, ↓zd, ↓zan, ↓zO, ↓zbf, ↓zbg, ↓zf, ↓zB, ↓zn, ↓zD, ↓zZ, ↓zeb, ↓zes, ↓zaq, ↓zaC, ↓zbe, ↓zbl, ↓zbG, ↓zp, ↓zao, ↓zL, ↓zr, ↓zaj, zen, zbP, zbL, unA, zdF, bnd, zeV, zaf, zac, zeF, dm, dm1, zQ, zaz, zfy, zfx, zI, Q0, Q1, Q2, Q3, Q4, Q5, zam, zw, zu, zN, zG, Q6, Q7, Q8, Q9, Q10, Q11, Q12, Q13, Q14, Nat.reduceAdd, Q15, Int.reduceToNat, Q16, Q17, Q18, Q19, Q20, reduceIte, Q21, Q22, zC, rep, zV, zfi, toD, zad, Q23, Q24, Q25, Q26, Q27, Q28, Nat.reduceLeDiff, Q29, Nat.reduceSub, Q30, Q31, Q32, sc, Q33, Q34, Q35, Q36, Q37, Q26, Q38, Q39, zmU, zmR, zmO, zmV, zfD, zmS, zmP, zmT, zmQ, zfC, zfE, zmY, zmZ, Bool.not_true, Bool.not_false, List.length_map, Bool.and_false, Bool.and_self, Bool.false_and, Bool.not_false, Bool.not_true, Bool.true_and, Int.toNat_natCast, Int.toNat_zero, List.drop_zero, List.length_map, List.length_nil, List.nil_append, List.take_length, Nat.sub_zero, Nat.zero_add, Option.isSome_none, Option.isSome_some, Option.map_none, Option.map_some, zaJ, beq_self_eq_true, bne_self_eq_false, bytesE, zbK, zcD, zei, zbM, numOf, opA, zhG, ziU, zfO, zaH, a] | with_reducible refine zni ?_ | fail); exact h.go) : P := e a ⟨h⟩
theorem c_auSigned {σ : List zc} {id m t id2 m2 t2 : Nat} {L : List (List UInt8)} {G : List zS} {s : zS} {key : Int} {b : List UInt8} (hT : zdT σ id m t L) (hG : zdp σ id2 m2 t2 G) {K : AV → List zc → Prop}
    (hK : K (.d (.bool (zkx L G s key b))) σ) : zl Tryz.prog zio [.box id 0, .box id2 0, .agg [.d (.int .i64 s.key), .d (.int .i64 s.dig)], .d (.int .i64 key), .d (.slice (bcs b))] σ K := by
  refine acE5 zqZ fun hl => ?_
  have hT1 := fun τ => hT.app τ
  have hG1 := fun τ => hG.app τ
  simp only [zlP, iN, bT, bF, eN]
  refine zaP ?_
  refine c_tLook (hT1 _) ?_
  have fin : ∀ z, zkx L G s key b = z → K (.d (.bool z)) σ := fun z h => h ▸ hK
  clear hK
  cases hlk : ziX L b with
  | none =>
    refine gq32 ?_
    refine zap hl ?_
    exact fin _ (by simp [zkx, hlk])
  | some i =>
    simp only [numOf]
    cases h1 : (s.key == key)
    · refine gq34 h1 ?_
      refine zap hl ?_
      exact fin _ (by simp at h1; simp [zkx, hlk, h1])
    · cases h2 : (s.dig == ((i + 1 : Nat) : Int))
      · refine gq34 (zj h1 h2) ?_
        refine zap hl ?_
        exact fin _ (by simp at h1 h2; simp [zkx, hlk, h1]; omega)
      · refine gq34 (zj h1 h2) ?_
        refine c_gSigned (s := s) (hG1 _) ?_
        refine zaP ?_
        refine zap hl ?_
        exact fin _ (by simp at h1 h2; simp [zkx, hlk, h1, h2])
end Go.Proofs.YtdgcepphjnoalaaGreat
