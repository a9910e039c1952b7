/- Contracts: the bytes of requests, signatures and batches. -/
import Derived.Test.YtcappjcojggehaaOp2
import Derived.Test.YtcappjcojggehaaRc2
import Derived.Test.YtcappjcojggehaaSpRd
set_option linter.all false
set_option maxRecDepth 100000
set_option linter.unusedSimpArgs false
set_option linter.unusedVariables false
namespace Go.Proofs.Ytcappjcojggehaa
open Go.AW

def keyF (c : Int) : Int := if c < 0 ∨ c ≥ 8 then -1 else 13 + c
theorem c_rqKey {σ : List AObj} {c : Int} {K : AV → List AObj → Prop} (hK : K (.d (.int .i64 (keyF c))) σ) : ACall Try.prog zeK [.d (.int .i64 c)] σ K := by
  refine zu zkK rfl fun hl _ => zmy ?_
  simp only [zil]
  (repeat' (first | (refine gq20 ?_; try with_reducible exact True.intro) | (refine zV (fun h => ?_) (fun h => ?_) <;> (try rw [h])) | ((with_reducible refine And.intro ?_ ?_); focus (first | omega | rfl | decide))))
  all_goals (
    (first | refine zg (by simp [Low_d, dmT, dm, dm1, pack, zc, zd, zb]) hl ?_ | refine ze (by simp [Low_d, dmT, dm, dm1, pack, zc, zd, zb]) hl ?_)
    (try simp only [decide_eq_true_eq, decide_eq_false_iff_not, beq_iff_eq, beq_eq_false_iff_ne, bne_iff_ne, ne_eq, Bool.not_eq_true', Bool.not_eq_false', bne_eq_false_iff_eq] at *)
    unfold keyF at hK)
  · rw [if_pos (by omega)] at hK; exact hK
  · rw [if_pos (by omega)] at hK; exact hK
  · rw [if_neg (by omega)] at hK; rw [zai (by omega) (by omega)]; exact hK
theorem sizes {x : zk} (h : opSz x.op ≤ 20971520) : okO x.op := by
  have h0 := h
  unfold opSz at h
  refine ⟨by omega, by omega, ?_, fun r hr => ?_⟩
  · have := zeJ x.op.recs; omega
  · have := rec_le hr; omega
theorem c_rqBytes {σ : List AObj} {x : zk} (hx : opSz x.op ≤ 20971520) {K : AV → List AObj → Prop} (hK : K (.tup [.d (.slice (bcs (zaV x))), .d (.int .i64 (zI x))]) σ) : ACall Try.prog zct [reqA x] σ K := by
  refine zu ziP rfl fun hl _ => zkv ?_
  have hsz := sizes hx
  simp only [zgb, reqA]
  (repeat' (first | (refine gq39 ?_; try with_reducible exact True.intro) | ((with_reducible refine And.intro ?_ ?_); focus (first | omega | rfl | decide | (simp; done)))))
  refine c_rqCheck (x := x) hsz ?_
  by_cases hc : zI x = 0
  · obtain ⟨c0, c8, t1, t2, ho⟩ := req_ok hc
    have hb : (zI x != 0) = false := by simpa using hc
    have n1 := zT (n := x.client.toNat) (by omega)
    have n2 := zT (n := x.time.toNat) (by omega)
    have w1 : IntKind.u64.wrap x.client = ((x.client.toNat : Nat) : Int) := by
      rw [show x.client = ((x.client.toNat : Nat) : Int) by omega, zbe (by omega)]; rfl
    have w2 : IntKind.u64.wrap x.time = ((x.time.toNat : Nat) : Int) := by
      rw [show x.time = ((x.time.toNat : Nat) : Int) by omega, zbe (by omega)]; rfl
    rw [hc, zaV, if_pos hc] at hK
    (repeat' (first | (refine gq40 (gqc1 hb (gqc1 w1 w2)) ?_; try with_reducible exact True.intro) | ((with_reducible refine And.intro ?_ ?_); focus (first | omega | rfl | decide | (simp; done)))))
    refine zcQ (b := []) (by omega) (by simp) ?_
    (repeat' (first | (refine gq40 (gqc1 w1 w2) ?_; try with_reducible exact True.intro) | ((with_reducible refine And.intro ?_ ?_); focus (first | omega | rfl | decide | (simp; done)))))
    refine zcQ (by omega) (by first | omega | (simp; omega)) ?_
    (repeat' (first | (refine gq40 (gqc1 w1 w2) ?_; try with_reducible exact True.intro) | ((with_reducible refine And.intro ?_ ?_); focus (first | omega | rfl | decide | (simp; done)))))
    refine c_Put (o := x.op) (by first | omega | (simp; omega)) (by omega) ?_
    (repeat' (first | (refine gq39 ?_; try with_reducible exact True.intro) | ((with_reducible refine And.intro ?_ ?_); focus (first | omega | rfl | decide | (simp; done)))))
    (first | refine zg (by simp [Low_d, dmT, dm, dm1, pack, zc, zd, zb]) hl ?_ | refine ze (by simp [Low_d, dmT, dm, dm1, pack, zc, zd, zb]) hl ?_)
    rw [if_pos ho]
    exact hK
  · have hb : (zI x != 0) = true := by simpa using hc
    rw [zaV, if_neg hc] at hK
    (repeat' (first | (refine gq40 hb ?_; try with_reducible exact True.intro) | ((with_reducible refine And.intro ?_ ?_); focus (first | omega | rfl | decide | (simp; done)))))
    (first | refine zg (by simp [Low_d, dmT, dm, dm1, pack, zc, zd, zb]) hl ?_ | refine ze (by simp [Low_d, dmT, dm, dm1, pack, zc, zd, zb]) hl ?_)
    exact hK
theorem zmf {σ : List AObj} {x : zk} (hx : opSz x.op ≤ 20971520) {K : AV → List AObj → Prop} (hK : K (.tup [.d (.slice (bcs (zaV x))), .d (.int .i64 (zI x))]) σ) : ACall Try.prog zeN [reqA x] σ K := by
  refine zu zmT rfl fun hl _ => s_r08_Bytes ?_
  have hsz := sizes hx
  simp only [zlf, reqA]
  (repeat' (first | (refine gq39 ?_; try with_reducible exact True.intro) | ((with_reducible refine And.intro ?_ ?_); focus (first | omega | rfl | decide | (simp; done)))))
  refine zme (x := x) hsz ?_
  by_cases hc : zI x = 0
  · obtain ⟨c0, c8, t1, t2, ho⟩ := req_ok hc
    have hb : (zI x != 0) = false := by simpa using hc
    have n1 := zT (n := x.client.toNat) (by omega)
    have n2 := zT (n := x.time.toNat) (by omega)
    have w1 : IntKind.u64.wrap x.client = ((x.client.toNat : Nat) : Int) := by
      rw [show x.client = ((x.client.toNat : Nat) : Int) by omega, zbe (by omega)]; rfl
    have w2 : IntKind.u64.wrap x.time = ((x.time.toNat : Nat) : Int) := by
      rw [show x.time = ((x.time.toNat : Nat) : Int) by omega, zbe (by omega)]; rfl
    rw [hc, zaV, if_pos hc] at hK
    (repeat' (first | (refine gq40 (gqc1 hb (gqc1 w1 w2)) ?_; try with_reducible exact True.intro) | ((with_reducible refine And.intro ?_ ?_); focus (first | omega | rfl | decide | (simp; done)))))
    refine zcw (b := []) (by omega) (by simp) ?_
    (repeat' (first | (refine gq40 (gqc1 w1 w2) ?_; try with_reducible exact True.intro) | ((with_reducible refine And.intro ?_ ?_); focus (first | omega | rfl | decide | (simp; done)))))
    refine zcw (by omega) (by first | omega | (simp; omega)) ?_
    (repeat' (first | (refine gq40 (gqc1 w1 w2) ?_; try with_reducible exact True.intro) | ((with_reducible refine And.intro ?_ ?_); focus (first | omega | rfl | decide | (simp; done)))))
    refine c_rPut (o := x.op) (by first | omega | (simp; omega)) (by omega) ?_
    (repeat' (first | (refine gq39 ?_; try with_reducible exact True.intro) | ((with_reducible refine And.intro ?_ ?_); focus (first | omega | rfl | decide | (simp; done)))))
    (first | refine zg (by simp [Low_d, dmT, dm, dm1, pack, zc, zd, zb]) hl ?_ | refine ze (by simp [Low_d, dmT, dm, dm1, pack, zc, zd, zb]) hl ?_)
    rw [if_pos ho]
    exact hK
  · have hb : (zI x != 0) = true := by simpa using hc
    rw [zaV, if_neg hc] at hK
    (repeat' (first | (refine gq40 hb ?_; try with_reducible exact True.intro) | ((with_reducible refine And.intro ?_ ?_); focus (first | omega | rfl | decide | (simp; done)))))
    (first | refine zg (by simp [Low_d, dmT, dm, dm1, pack, zc, zd, zb]) hl ?_ | refine ze (by simp [Low_d, dmT, dm, dm1, pack, zc, zd, zb]) hl ?_)
    exact hK
theorem c_PutSign {σ : List AObj} {b : List UInt8} {k d : Int} (hb : b.length ≤ 1073741700) {K : AV → List AObj → Prop} (hK : K (.d (.slice (bcs (b ++ zcn k d)))) σ) :
    ACall Try.prog zcF [.d (.slice (bcs b)), .agg [.d (.int .i64 k), .d (.int .i64 d)]] σ K := by
  refine zu zhj rfl fun hl _ => zit ?_
  simp only [zeB]
  (repeat' (first | (refine gq39 ?_; try with_reducible exact True.intro) | ((with_reducible refine And.intro ?_ ?_); focus (first | omega | rfl | decide | (simp; done)))))
  refine zib ?_
  by_cases hc : zaf k d = 0
  · obtain ⟨k0, k1, d0, d1⟩ := sign_ok hc
    have hq : (zaf k d != 0) = false := by simpa using hc
    have n1 := zT (n := k.toNat) (by omega)
    have w1 : IntKind.u64.wrap k = ((k.toNat : Nat) : Int) := by
      rw [show k = ((k.toNat : Nat) : Int) by omega, zbe (by omega)]; rfl
    have w2 : IntKind.u64.wrap d = ((d.toNat : Nat) : Int) := by
      rw [show d = ((d.toNat : Nat) : Int) by omega, zbe (by omega)]; rfl
    rw [zcn, if_pos hc] at hK
    (repeat' (first | (refine gq40 (gqc1 hq (gqc1 w1 w2)) ?_; try with_reducible exact True.intro) | ((with_reducible refine And.intro ?_ ?_); focus (first | omega | rfl | decide | (simp; done)))))
    refine zcQ (by omega) (by omega) ?_
    (repeat' (first | (refine gq40 (gqc1 w1 w2) ?_; try with_reducible exact True.intro) | ((with_reducible refine And.intro ?_ ?_); focus (first | omega | rfl | decide | (simp; done)))))
    refine zcQ (by omega) (by first | omega | (simp; omega)) ?_
    (repeat' (first | (refine gq39 ?_; try with_reducible exact True.intro) | ((with_reducible refine And.intro ?_ ?_); focus (first | omega | rfl | decide | (simp; done)))))
    (first | refine zg (by simp [Low_d, dmT, dm, dm1, pack, zc, zd, zb]) hl ?_ | refine ze (by simp [Low_d, dmT, dm, dm1, pack, zc, zd, zb]) hl ?_)
    exact hK
  · have hq : (zaf k d != 0) = true := by simpa using hc
    rw [zcn, if_neg hc, List.append_nil] at hK
    (repeat' (first | (refine gq40 hq ?_; try with_reducible exact True.intro) | ((with_reducible refine And.intro ?_ ?_); focus (first | omega | rfl | decide | (simp; done)))))
    refine zbH zcI (by rw [zbj]; omega) ?_
    (repeat' (first | (refine gq39 ?_; try with_reducible exact True.intro) | ((with_reducible refine And.intro ?_ ?_); focus (first | omega | rfl | decide | (simp; done)))))
    (first | refine zg (by simp [Low_d, dmT, dm, dm1, pack, zc, zd, zb]) hl ?_ | refine ze (by simp [Low_d, dmT, dm, dm1, pack, zc, zd, zb]) hl ?_)
    exact hK
theorem c_rPutSign {σ : List AObj} {b : List UInt8} {k d : Int} (hb : b.length ≤ 1073741700) {K : AV → List AObj → Prop} (hK : K (.d (.slice (bcs (b ++ zcn k d)))) σ) :
    ACall Try.prog zeL [.d (.slice (bcs b)), .agg [.d (.int .i64 k), .d (.int .i64 d)]] σ K := by
  refine zu zkL rfl fun hl _ => zmz ?_
  simp only [zim]
  (repeat' (first | (refine gq39 ?_; try with_reducible exact True.intro) | ((with_reducible refine And.intro ?_ ?_); focus (first | omega | rfl | decide | (simp; done)))))
  refine zgM ?_
  by_cases hc : zaf k d = 0
  · obtain ⟨k0, k1, d0, d1⟩ := sign_ok hc
    have hq : (zaf k d != 0) = false := by simpa using hc
    have n1 := zT (n := k.toNat) (by omega)
    have w1 : IntKind.u64.wrap k = ((k.toNat : Nat) : Int) := by
      rw [show k = ((k.toNat : Nat) : Int) by omega, zbe (by omega)]; rfl
    have w2 : IntKind.u64.wrap d = ((d.toNat : Nat) : Int) := by
      rw [show d = ((d.toNat : Nat) : Int) by omega, zbe (by omega)]; rfl
    rw [zcn, if_pos hc] at hK
    (repeat' (first | (refine gq40 (gqc1 hq (gqc1 w1 w2)) ?_; try with_reducible exact True.intro) | ((with_reducible refine And.intro ?_ ?_); focus (first | omega | rfl | decide | (simp; done)))))
    refine zcw (by omega) (by omega) ?_
    (repeat' (first | (refine gq40 (gqc1 w1 w2) ?_; try with_reducible exact True.intro) | ((with_reducible refine And.intro ?_ ?_); focus (first | omega | rfl | decide | (simp; done)))))
    refine zcw (by omega) (by first | omega | (simp; omega)) ?_
    (repeat' (first | (refine gq39 ?_; try with_reducible exact True.intro) | ((with_reducible refine And.intro ?_ ?_); focus (first | omega | rfl | decide | (simp; done)))))
    (first | refine zg (by simp [Low_d, dmT, dm, dm1, pack, zc, zd, zb]) hl ?_ | refine ze (by simp [Low_d, dmT, dm, dm1, pack, zc, zd, zb]) hl ?_)
    exact hK
  · have hq : (zaf k d != 0) = true := by simpa using hc
    rw [zcn, if_neg hc, List.append_nil] at hK
    (repeat' (first | (refine gq40 hq ?_; try with_reducible exact True.intro) | ((with_reducible refine And.intro ?_ ?_); focus (first | omega | rfl | decide | (simp; done)))))
    (first | refine zg (by simp [Low_d, dmT, dm, dm1, pack, zc, zd, zb]) hl ?_ | refine ze (by simp [Low_d, dmT, dm, dm1, pack, zc, zd, zb]) hl ?_)
    exact hK
theorem c_partsPut {σ : List AObj} {b : List UInt8} {l : List zk} (hb : b.length ≤ 268435456) (hs : ∀ x ∈ l, opSz x.op ≤ 20971520) (hc : zG l = 0) {K : AV → List AObj → Prop} (hK : K (.d (.slice (bcs (b ++ zdm l)))) σ) :
    ACall Try.prog zcb [.d (.slice (zaJ l)), .d (.slice (bcs b))] σ K := by
  refine zu zfJ rfl fun hl _ => zgW ?_
  obtain ⟨h4, hm, _⟩ := zkk hc
  have n1 := zT (n := l.length) (by omega)
  have w1 : IntKind.u64.wrap (l.length : Int) = (l.length : Int) := zbe (by omega)
  simp only [zdF]
  (repeat' (first | (refine gq40 w1 ?_; try with_reducible exact True.intro) | ((with_reducible refine And.intro ?_ ?_); focus (first | omega | rfl | decide | (simp; done)))))
  refine zcQ (by omega) (by omega) ?_
  (repeat' (first | (refine gq39 ?_; try with_reducible exact True.intro) | ((with_reducible refine And.intro ?_ ?_); focus (first | omega | rfl | decide | (simp; done)))))
  refine zaY l.length (fun k vs s => (∃ T, s = σ ++ T) ∧ vs = [.d (.slice (bcs (b ++ (numB l.length ++ zcX (l.take k))))), .d (.int .i64 k)])
    (.data 0 _ _ rfl rfl (.refl _ _)) ⟨⟨_, rfl⟩, by simp [zcX]⟩ ?_
  rintro k vs s hk ⟨⟨T, rfl⟩, rfl⟩
  by_cases hlt : k < l.length
  · have hd : decide ((k : Int) < (l.length : Int)) = true := by simp; omega
    have hx : l[k]? = some l[k] := by simp [hlt]
    have hgx := zax (f := zap) hx
    have hxs := hs _ (List.getElem_mem hlt)
    have hxm := hm _ (List.getElem_mem hlt)
    obtain ⟨x, hxe⟩ : ∃ x, l[k] = x := ⟨_, rfl⟩
    rw [hxe] at hx hgx hxs hxm
    have hbl := zhr hs hc k
    have hrl := zjw hxs
    have hpl := zdV (x := zaV x) (by omega)
    obtain ⟨S, hS⟩ : ∃ S, σ ++ T = S := ⟨_, rfl⟩
    rw [hS]
    (repeat' (first | (refine gq41 (gqc1 hd hgx) ?_; try with_reducible exact True.intro) | ((with_reducible refine And.intro ?_ ?_); focus (first | omega | rfl | decide | (simp; done)))))
    refine c_rqBytes (x := x) hxs ?_
    (repeat' (first | (refine gq41 (gqc1 hd hgx) ?_; try with_reducible exact True.intro) | ((with_reducible refine And.intro ?_ ?_); focus (first | omega | rfl | decide | (simp; done)))))
    refine ziX (by omega) (by simp; omega) ?_
    (repeat' (first | (refine gq41 (gqc1 hd hgx) ?_; try with_reducible exact True.intro) | ((with_reducible refine And.intro ?_ ?_); focus (first | omega | rfl | decide | (simp; done)))))
    refine c_PutSign (by simp only [putB, List.length_append] at hpl ⊢; omega) ?_
    (repeat' (first | (refine gq40 (wk1 k (by omega)) ?_; try with_reducible exact True.intro) | ((with_reducible refine And.intro ?_ ?_); focus (first | omega | rfl | decide | (simp; done)))))
    refine Again.next hlt ⟨⟨_, by rw [← hS, List.append_assoc]⟩, ?_⟩
    rw [zjE hx]
    simp [oneB, putB, zaV, zcn, hxm.1, hxm.2]
  · have hd : decide ((k : Int) < (l.length : Int)) = false := by simp; omega
    rw [List.take_of_length_le (by omega)]
    (repeat' (first | (refine gq40 hd ?_; try with_reducible exact True.intro) | ((with_reducible refine And.intro ?_ ?_); focus (first | omega | rfl | decide | (simp; done)))))
    (first | refine zg (by simp [Low_d, dmT, dm, dm1, pack, zc, zd, zb]) hl ?_ | refine ze (by simp [Low_d, dmT, dm, dm1, pack, zc, zd, zb]) hl ?_)
    exact hK
theorem c_PutBatch {σ : List AObj} {b : List UInt8} {l : List zk} (hb : b.length ≤ 268435456) (hs : ∀ x ∈ l, opSz x.op ≤ 20971520) (hl0 : l.length ≤ 1073741824) {K : AV → List AObj → Prop} (hK : K (.d (.slice (bcs (b ++ zaR l)))) σ) :
    ACall Try.prog zcr [.d (.slice (bcs b)), .d (.slice (zaJ l))] σ K := by
  refine zu zgF rfl fun hl _ => zhC ?_
  have hok : okB l := ⟨hl0, fun x hx => sizes (hs x hx)⟩
  simp only [zeb]
  (repeat' (first | (refine gq39 ?_; try with_reducible exact True.intro) | ((with_reducible refine And.intro ?_ ?_); focus (first | omega | rfl | decide | (simp; done)))))
  refine zjD hok ?_
  by_cases hc : zG l = 0
  · have hq : (zG l != 0) = false := by simpa using hc
    rw [zaR, if_pos hc] at hK
    (repeat' (first | (refine gq40 hq ?_; try with_reducible exact True.intro) | ((with_reducible refine And.intro ?_ ?_); focus (first | omega | rfl | decide | (simp; done)))))
    refine c_partsPut hb hs hc ?_
    (repeat' (first | (refine gq39 ?_; try with_reducible exact True.intro) | ((with_reducible refine And.intro ?_ ?_); focus (first | omega | rfl | decide | (simp; done)))))
    (first | refine zg (by simp [Low_d, dmT, dm, dm1, pack, zc, zd, zb]) hl ?_ | refine ze (by simp [Low_d, dmT, dm, dm1, pack, zc, zd, zb]) hl ?_)
    exact hK
  · have hq : (zG l != 0) = true := by simpa using hc
    rw [zaR, if_neg hc, List.append_nil] at hK
    (repeat' (first | (refine gq40 hq ?_; try with_reducible exact True.intro) | ((with_reducible refine And.intro ?_ ?_); focus (first | omega | rfl | decide | (simp; done)))))
    refine zbH zcI (by rw [zbj]; omega) ?_
    (repeat' (first | (refine gq39 ?_; try with_reducible exact True.intro) | ((with_reducible refine And.intro ?_ ?_); focus (first | omega | rfl | decide | (simp; done)))))
    (first | refine zg (by simp [Low_d, dmT, dm, dm1, pack, zc, zd, zb]) hl ?_ | refine ze (by simp [Low_d, dmT, dm, dm1, pack, zc, zd, zb]) hl ?_)
    exact hK
theorem c_rPutBatch {σ : List AObj} {b : List UInt8} {l : List zk} (hb : b.length ≤ 268435456) (hs : ∀ x ∈ l, opSz x.op ≤ 20971520) (hl0 : l.length ≤ 1073741824) {K : AV → List AObj → Prop} (hK : K (.d (.slice (bcs (b ++ zaR l)))) σ) :
    ACall Try.prog zef [.d (.slice (bcs b)), .d (.slice (zaJ l))] σ K := by
  refine zu zjY rfl fun hl _ => zlt ?_
  have hok : okB l := ⟨hl0, fun x hx => sizes (hs x hx)⟩
  simp only [zgP]
  (repeat' (first | (refine gq39 ?_; try with_reducible exact True.intro) | ((with_reducible refine And.intro ?_ ?_); focus (first | omega | rfl | decide | (simp; done)))))
  refine zic hok ?_
  by_cases hc : zG l = 0
  · have hq : (zG l != 0) = false := by simpa using hc
    obtain ⟨h4, hm, _⟩ := zkk hc
    have n1 := zT (n := l.length) (by omega)
    have w1 : IntKind.u64.wrap (l.length : Int) = (l.length : Int) := zbe (by omega)
    rw [zaR, if_pos hc] at hK
    (repeat' (first | (refine gq40 (gqc1 hq w1) ?_; try with_reducible exact True.intro) | ((with_reducible refine And.intro ?_ ?_); focus (first | omega | rfl | decide | (simp; done)))))
    refine zcw (by omega) (by omega) ?_
    (repeat' (first | (refine gq39 ?_; try with_reducible exact True.intro) | ((with_reducible refine And.intro ?_ ?_); focus (first | omega | rfl | decide | (simp; done)))))
    refine zaY l.length (fun k vs s => (∃ T, s = σ ++ T) ∧ vs = [.d (.slice (bcs (b ++ (numB l.length ++ zcX (l.take k))))), .d (.int .i64 k)])
      (.data 0 _ _ rfl rfl (.refl _ _)) ⟨⟨_, rfl⟩, by simp [zcX]⟩ ?_
    rintro k vs s hk ⟨⟨T, rfl⟩, rfl⟩
    by_cases hlt : k < l.length
    · have hd : decide ((k : Int) < (l.length : Int)) = true := by simp; omega
      have hx : l[k]? = some l[k] := by simp [hlt]
      have hgx := zax (f := zap) hx
      have hxs := hs _ (List.getElem_mem hlt)
      have hxm := hm _ (List.getElem_mem hlt)
      obtain ⟨x, hxe⟩ : ∃ x, l[k] = x := ⟨_, rfl⟩
      rw [hxe] at hx hgx hxs hxm
      have hbl := zhr hs hc k
      have hrl := zjw hxs
      have hpl := zdV (x := zaV x) (by omega)
      obtain ⟨S, hS⟩ : ∃ S, σ ++ T = S := ⟨_, rfl⟩
      rw [hS]
      (repeat' (first | (refine gq41 (gqc1 hd hgx) ?_; try with_reducible exact True.intro) | ((with_reducible refine And.intro ?_ ?_); focus (first | omega | rfl | decide | (simp; done)))))
      refine zmf (x := x) hxs ?_
      (repeat' (first | (refine gq41 (gqc1 hd hgx) ?_; try with_reducible exact True.intro) | ((with_reducible refine And.intro ?_ ?_); focus (first | omega | rfl | decide | (simp; done)))))
      refine zhp (by omega) (by simp; omega) ?_
      (repeat' (first | (refine gq41 (gqc1 hd hgx) ?_; try with_reducible exact True.intro) | ((with_reducible refine And.intro ?_ ?_); focus (first | omega | rfl | decide | (simp; done)))))
      refine c_rPutSign (by simp only [putB, List.length_append] at hpl ⊢; omega) ?_
      (repeat' (first | (refine gq40 (wk1 k (by omega)) ?_; try with_reducible exact True.intro) | ((with_reducible refine And.intro ?_ ?_); focus (first | omega | rfl | decide | (simp; done)))))
      refine Again.next hlt ⟨⟨_, by rw [← hS, List.append_assoc]⟩, ?_⟩
      rw [zjE hx]
      simp [oneB, putB, zaV, zcn, hxm.1, hxm.2]
    · have hd : decide ((k : Int) < (l.length : Int)) = false := by simp; omega
      rw [List.take_of_length_le (by omega)]
      (repeat' (first | (refine gq40 hd ?_; try with_reducible exact True.intro) | ((with_reducible refine And.intro ?_ ?_); focus (first | omega | rfl | decide | (simp; done)))))
      (first | refine zg (by simp [Low_d, dmT, dm, dm1, pack, zc, zd, zb]) hl ?_ | refine ze (by simp [Low_d, dmT, dm, dm1, pack, zc, zd, zb]) hl ?_)
      exact hK
  · have hq : (zG l != 0) = true := by simpa using hc
    rw [zaR, if_neg hc, List.append_nil] at hK
    (repeat' (first | (refine gq40 hq ?_; try with_reducible exact True.intro) | ((with_reducible refine And.intro ?_ ?_); focus (first | omega | rfl | decide | (simp; done)))))
    (first | refine zg (by simp [Low_d, dmT, dm, dm1, pack, zc, zd, zb]) hl ?_ | refine ze (by simp [Low_d, dmT, dm, dm1, pack, zc, zd, zb]) hl ?_)
    exact hK
end Go.Proofs.Ytcappjcojggehaa
