/- Contracts: the bytes of requests, signatures and batches. -/
import Derived.Test.YtjjchfbckfopkaaGreatOp2
import Derived.Test.YtjjchfbckfopkaaGreatRc2
import Derived.Test.YtjjchfbckfopkaaGreatSpRd
set_option linter.all false
set_option maxRecDepth 100000
set_option linter.unusedSimpArgs false
set_option linter.unusedVariables false
namespace Go.Proofs.YtjjchfbckfopkaaGreat
open Go.AW

def keyF (c : Int) : Int := if c < 0 ∨ c ≥ 8 then -1 else 13 + c
theorem c_rqKey {σ : List zb} {c : Int} {K : AV → List zb → Prop} (hK : K (.d (.int .i64 (keyF c))) σ) : zn Tryz.prog zge [.d (.int .i64 c)] σ K := by
  refine zfz zou fun hl => ?_
  simp only [zjl, iN, bT, bF, eN]
  (repeat' (first | (refine zkB ?_; try with_reducible exact True.intro) | (refine zM (fun h => ?_) (fun h => ?_) <;> (try rw [h])) | ((with_reducible refine And.intro ?_ ?_); focus (first | omega | rfl | decide))))
  all_goals (
    refine zam hl ?_
    (try simp only [decide_eq_true_eq, decide_eq_false_iff_not, beq_iff_eq, beq_eq_false_iff_ne, bne_iff_ne, ne_eq, Bool.not_eq_true', Bool.not_eq_false', bne_eq_false_iff_eq] at *)
    unfold keyF at hK)
  · rw [if_pos (by omega)] at hK; exact hK
  · rw [if_pos (by omega)] at hK; exact hK
  · rw [if_neg (by omega)] at hK; rw [zao (by omega) (by omega)]; exact hK
theorem sizes {x : ze} (h : zgJ x.op ≤ 20971520) : okO x.op := by
  have h0 := h
  unfold zgJ at h
  refine ⟨by omega, by omega, ?_, fun r hr => ?_⟩
  · have := zgc x.op.recs; omega
  · have := rec_le hr; omega
theorem c_rqBytes {σ : List zb} {x : ze} (hx : zgJ x.op ≤ 20971520) {K : AV → List zb → Prop} (hK : K (.tup [.d (.slice (bcs (zbI x))), .d (.int .i64 (zB x))]) σ) : zn Tryz.prog zdq [reqA x] σ K := by
  refine zfz zmi fun hl => ?_
  have hsz := sizes hx
  simp only [zhp, iN, bT, bF, eN, reqA]
  refine zmQ ?_
  refine c_rqCheck (x := x) hsz ?_
  by_cases hc : zB x = 0
  · obtain ⟨c0, c8, t1, t2, ho⟩ := req_ok hc
    have hb : (zB x != 0) = false := by simpa using hc
    have n1 := zL (n := x.client.toNat) (by omega)
    have n2 := zL (n := x.time.toNat) (by omega)
    have w1 : IntKind.u64.wrap x.client = ((x.client.toNat : Nat) : Int) := by
      rw [show x.client = ((x.client.toNat : Nat) : Int) by omega, zbU (by omega)]; rfl
    have w2 : IntKind.u64.wrap x.time = ((x.time.toNat : Nat) : Int) := by
      rw [show x.time = ((x.time.toNat : Nat) : Int) by omega, zbU (by omega)]; rfl
    rw [hc, zbI, if_pos hc] at hK
    refine zfi (zce hb (zce w1 w2)) ?_
    refine zdV (b := []) (by omega) (by simp) ?_
    refine zfi (zce w1 w2) ?_
    refine zdV (by omega) (by first | omega | (simp; omega)) ?_
    refine zfi (zce w1 w2) ?_
    refine c_Put (o := x.op) (by first | omega | (simp; omega)) (by omega) ?_
    refine zmQ ?_
    refine zam hl ?_
    rw [if_pos ho]
    exact hK
  · have hb : (zB x != 0) = true := by simpa using hc
    rw [zbI, if_neg hc] at hK
    refine zfi hb ?_
    refine zam hl ?_
    exact hK
theorem znA {σ : List zb} {x : ze} (hx : zgJ x.op ≤ 20971520) {K : AV → List zb → Prop} (hK : K (.tup [.d (.slice (bcs (zbI x))), .d (.int .i64 (zB x))]) σ) : zn Tryz.prog zgh [reqA x] σ K := by
  refine zfz e_r08_Bytes fun hl => ?_
  have hsz := sizes hx
  simp only [zmy, iN, bT, bF, eN, reqA]
  refine zmQ ?_
  refine znz (x := x) hsz ?_
  by_cases hc : zB x = 0
  · obtain ⟨c0, c8, t1, t2, ho⟩ := req_ok hc
    have hb : (zB x != 0) = false := by simpa using hc
    have n1 := zL (n := x.client.toNat) (by omega)
    have n2 := zL (n := x.time.toNat) (by omega)
    have w1 : IntKind.u64.wrap x.client = ((x.client.toNat : Nat) : Int) := by
      rw [show x.client = ((x.client.toNat : Nat) : Int) by omega, zbU (by omega)]; rfl
    have w2 : IntKind.u64.wrap x.time = ((x.time.toNat : Nat) : Int) := by
      rw [show x.time = ((x.time.toNat : Nat) : Int) by omega, zbU (by omega)]; rfl
    rw [hc, zbI, if_pos hc] at hK
    refine zfi (zce hb (zce w1 w2)) ?_
    refine zdy (b := []) (by omega) (by simp) ?_
    refine zfi (zce w1 w2) ?_
    refine zdy (by omega) (by first | omega | (simp; omega)) ?_
    refine zfi (zce w1 w2) ?_
    refine c_rPut (o := x.op) (by first | omega | (simp; omega)) (by omega) ?_
    refine zmQ ?_
    refine zam hl ?_
    rw [if_pos ho]
    exact hK
  · have hb : (zB x != 0) = true := by simpa using hc
    rw [zbI, if_neg hc] at hK
    refine zfi hb ?_
    refine zam hl ?_
    exact hK
theorem c_PutSign {σ : List zb} {b : List UInt8} {k d : Int} (hb : b.length ≤ 1073741700) {K : AV → List zb → Prop} (hK : K (.d (.slice (bcs (b ++ zdg k d)))) σ) :
    zn Tryz.prog zdM [.d (.slice (bcs b)), .agg [.d (.int .i64 k), .d (.int .i64 d)]] σ K := by
  refine zia zkc fun hl => ?_
  simp only [zfW, iN, bT, bF, eN]
  refine zmQ ?_
  refine zjb ?_
  by_cases hc : zah k d = 0
  · obtain ⟨k0, k1, d0, d1⟩ := sign_ok hc
    have hq : (zah k d != 0) = false := by simpa using hc
    have n1 := zL (n := k.toNat) (by omega)
    have w1 : IntKind.u64.wrap k = ((k.toNat : Nat) : Int) := by
      rw [show k = ((k.toNat : Nat) : Int) by omega, zbU (by omega)]; rfl
    have w2 : IntKind.u64.wrap d = ((d.toNat : Nat) : Int) := by
      rw [show d = ((d.toNat : Nat) : Int) by omega, zbU (by omega)]; rfl
    rw [zdg, if_pos hc] at hK
    refine zfi (zce hq (zce w1 w2)) ?_
    refine zdV (by omega) (by omega) ?_
    refine zfi (zce w1 w2) ?_
    refine zdV (by omega) (by first | omega | (simp; omega)) ?_
    refine zmQ ?_
    refine zam hl ?_
    exact hK
  · have hq : (zah k d != 0) = true := by simpa using hc
    rw [zdg, if_neg hc, List.append_nil] at hK
    refine zfi hq ?_
    refine zcD zdR (by rw [zaq]; omega) ?_
    refine zmQ ?_
    refine zam hl ?_
    exact hK
theorem c_rPutSign {σ : List zb} {b : List UInt8} {k d : Int} (hb : b.length ≤ 1073741700) {K : AV → List zb → Prop} (hK : K (.d (.slice (bcs (b ++ zdg k d)))) σ) :
    zn Tryz.prog zgf [.d (.slice (bcs b)), .agg [.d (.int .i64 k), .d (.int .i64 d)]] σ K := by
  refine zia zov fun hl => ?_
  simp only [zjm, iN, bT, bF, eN]
  refine zmQ ?_
  refine zhX ?_
  by_cases hc : zah k d = 0
  · obtain ⟨k0, k1, d0, d1⟩ := sign_ok hc
    have hq : (zah k d != 0) = false := by simpa using hc
    have n1 := zL (n := k.toNat) (by omega)
    have w1 : IntKind.u64.wrap k = ((k.toNat : Nat) : Int) := by
      rw [show k = ((k.toNat : Nat) : Int) by omega, zbU (by omega)]; rfl
    have w2 : IntKind.u64.wrap d = ((d.toNat : Nat) : Int) := by
      rw [show d = ((d.toNat : Nat) : Int) by omega, zbU (by omega)]; rfl
    rw [zdg, if_pos hc] at hK
    refine zfi (zce hq (zce w1 w2)) ?_
    refine zdy (by omega) (by omega) ?_
    refine zfi (zce w1 w2) ?_
    refine zdy (by omega) (by first | omega | (simp; omega)) ?_
    refine zmQ ?_
    refine zam hl ?_
    exact hK
  · have hq : (zah k d != 0) = true := by simpa using hc
    rw [zdg, if_neg hc, List.append_nil] at hK
    refine zfi hq ?_
    refine zam hl ?_
    exact hK
theorem c_partsPut {σ : List zb} {b : List UInt8} {l : List ze} (hb : b.length ≤ 268435456) (hs : ∀ x ∈ l, zgJ x.op ≤ 20971520) (hc : zw l = 0) {K : AV → List zb → Prop} (hK : K (.d (.slice (bcs (b ++ zeE l)))) σ) :
    zn Tryz.prog zcZ [.d (.slice (zbn l)), .d (.slice (bcs b))] σ K := by
  refine zia ziq fun hl => ?_
  obtain ⟨h4, hm, _⟩ := zlq hc
  have n1 := zL (n := l.length) (by omega)
  have w1 : IntKind.u64.wrap (l.length : Int) = (l.length : Int) := zbU (by omega)
  simp only [zfb, iN, bT, bF, eN, zl2]
  refine zfi w1 ?_
  refine zdV (by omega) (by omega) ?_
  refine zmQ ?_
  refine zbL l.length (fun k vs s => (∃ T, s = σ ++ T) ∧ vs = [.d (.slice (bcs (b ++ (zcr l.length ++ zeA (l.take k))))), .d (.int .i64 k)])
    (.data 0 _ _ rfl rfl (.refl _ _)) ⟨⟨_, rfl⟩, by simp [zeA]⟩ ?_
  rintro k vs s hk ⟨⟨T, rfl⟩, rfl⟩
  by_cases hlt : k < l.length
  · have hd : decide ((k : Int) < (l.length : Int)) = true := by simp; omega
    have hx : l[k]? = some l[k] := by simp [hlt]
    have hgx := zaT (f := zaK) hx
    have hxs := hs _ (List.getElem_mem hlt)
    have hxm := hm _ (List.getElem_mem hlt)
    obtain ⟨x, hxe⟩ : ∃ x, l[k] = x := ⟨_, rfl⟩
    rw [hxe] at hx hgx hxs hxm
    have hbl := ziB hs hc k
    have hrl := zkw hxs
    have hpl := zfl (x := zbI x) (by omega)
    obtain ⟨S, hS⟩ : ∃ S, σ ++ T = S := ⟨_, rfl⟩
    rw [hS]
    refine gq35 (zce hd hgx) ?_
    refine c_rqBytes (x := x) hxs ?_
    refine gq35 (zce hd hgx) ?_
    refine zkh (by omega) (by simp; omega) ?_
    refine gq35 (zce hd hgx) ?_
    refine c_PutSign (by simp only [zlG, List.length_append] at hpl ⊢; omega) ?_
    refine zfi (wk1 k (by omega)) ?_
    refine zbq.next hlt ⟨⟨_, by rw [← hS, List.append_assoc]⟩, ?_⟩
    rw [zkM hx]
    simp [oneB, zlG, zbI, zdg, hxm.1, hxm.2]
  · have hd : decide ((k : Int) < (l.length : Int)) = false := by simp; omega
    rw [List.take_of_length_le (by omega)]
    refine zfi hd ?_
    refine zam hl ?_
    exact hK
theorem c_PutBatch {σ : List zb} {b : List UInt8} {l : List ze} (hb : b.length ≤ 268435456) (hs : ∀ x ∈ l, zgJ x.op ≤ 20971520) (hl0 : l.length ≤ 1073741824) {K : AV → List zb → Prop} (hK : K (.d (.slice (bcs (b ++ zbD l)))) σ) :
    zn Tryz.prog zdn [.d (.slice (bcs b)), .d (.slice (zbn l))] σ K := by
  refine zia ziX fun hl => ?_
  have hok : okB l := ⟨hl0, fun x hx => sizes (hs x hx)⟩
  simp only [zft, iN, bT, bF, eN]
  refine zmQ ?_
  refine zkK hok ?_
  by_cases hc : zw l = 0
  · have hq : (zw l != 0) = false := by simpa using hc
    rw [zbD, if_pos hc] at hK
    refine zfi hq ?_
    refine c_partsPut hb hs hc ?_
    refine zmQ ?_
    refine zam hl ?_
    exact hK
  · have hq : (zw l != 0) = true := by simpa using hc
    rw [zbD, if_neg hc, List.append_nil] at hK
    refine zfi hq ?_
    refine zcD zdR (by rw [zaq]; omega) ?_
    refine zmQ ?_
    refine zam hl ?_
    exact hK
theorem c_rPutBatch {σ : List zb} {b : List UInt8} {l : List ze} (hb : b.length ≤ 268435456) (hs : ∀ x ∈ l, zgJ x.op ≤ 20971520) (hl0 : l.length ≤ 1073741824) {K : AV → List zb → Prop} (hK : K (.d (.slice (bcs (b ++ zbD l)))) σ) :
    zn Tryz.prog zfx [.d (.slice (bcs b)), .d (.slice (zbn l))] σ K := by
  refine zia zmT fun hl => ?_
  have hok : okB l := ⟨hl0, fun x hx => sizes (hs x hx)⟩
  simp only [zib, iN, bT, bF, eN]
  refine zmQ ?_
  refine zjc hok ?_
  by_cases hc : zw l = 0
  · have hq : (zw l != 0) = false := by simpa using hc
    obtain ⟨h4, hm, _⟩ := zlq hc
    have n1 := zL (n := l.length) (by omega)
    have w1 : IntKind.u64.wrap (l.length : Int) = (l.length : Int) := zbU (by omega)
    rw [zbD, if_pos hc] at hK
    refine zfi (zce hq w1) ?_
    refine zdy (by omega) (by omega) ?_
    refine zmQ ?_
    refine zbL l.length (fun k vs s => (∃ T, s = σ ++ T) ∧ vs = [.d (.slice (bcs (b ++ (zcr l.length ++ zeA (l.take k))))), .d (.int .i64 k)])
      (.data 0 _ _ rfl rfl (.refl _ _)) ⟨⟨_, rfl⟩, by simp [zeA]⟩ ?_
    rintro k vs s hk ⟨⟨T, rfl⟩, rfl⟩
    by_cases hlt : k < l.length
    · have hd : decide ((k : Int) < (l.length : Int)) = true := by simp; omega
      have hx : l[k]? = some l[k] := by simp [hlt]
      have hgx := zaT (f := zaK) hx
      have hxs := hs _ (List.getElem_mem hlt)
      have hxm := hm _ (List.getElem_mem hlt)
      obtain ⟨x, hxe⟩ : ∃ x, l[k] = x := ⟨_, rfl⟩
      rw [hxe] at hx hgx hxs hxm
      have hbl := ziB hs hc k
      have hrl := zkw hxs
      have hpl := zfl (x := zbI x) (by omega)
      obtain ⟨S, hS⟩ : ∃ S, σ ++ T = S := ⟨_, rfl⟩
      rw [hS]
      refine gq35 (zce hd hgx) ?_
      refine znA (x := x) hxs ?_
      refine gq35 (zce hd hgx) ?_
      refine zix (by omega) (by simp; omega) ?_
      refine gq35 (zce hd hgx) ?_
      refine c_rPutSign (by simp only [zlG, List.length_append] at hpl ⊢; omega) ?_
      refine zfi (wk1 k (by omega)) ?_
      refine zbq.next hlt ⟨⟨_, by rw [← hS, List.append_assoc]⟩, ?_⟩
      rw [zkM hx]
      simp [oneB, zlG, zbI, zdg, hxm.1, hxm.2]
    · have hd : decide ((k : Int) < (l.length : Int)) = false := by simp; omega
      rw [List.take_of_length_le (by omega)]
      refine zfi hd ?_
      refine zam hl ?_
      exact hK
  · have hq : (zw l != 0) = true := by simpa using hc
    rw [zbD, if_neg hc, List.append_nil] at hK
    refine zfi hq ?_
    refine zam hl ?_
    exact hK
end Go.Proofs.YtjjchfbckfopkaaGreat
