/- Contracts: the bytes of requests, signatures and batches. -/
import Derived.Test.YthmdpooklflkfaaOp2
import Derived.Test.YthmdpooklflkfaaRc2
import Derived.Test.YthmdpooklflkfaaSpRd
set_option linter.all false
set_option maxRecDepth 100000
set_option linter.unusedSimpArgs false
set_option linter.unusedVariables false
namespace Go.Proofs.Ythmdpooklflkfaa
open Go.AW

def keyF (c : Int) : Int := if c < 0 ∨ c ≥ 8 then -1 else 13 + c
theorem c_rqKey {σ : List AObj} {c : Int} {K : AV → List AObj → Prop} (hK : K (.d (.int .i64 (keyF c))) σ) : ACall Try.prog n_request_Key [.d (.int .i64 c)] σ K := by
  refine acall_of isA_request_Key rfl fun hl _ => s_request_Key ?_
  simp only [S_request_Key]
  (repeat' (first | (refine gq12 ?_; try with_reducible exact True.intro) | (refine BBL_intro (fun h => ?_) (fun h => ?_) <;> (try rw [h])) | ((with_reducible refine And.intro ?_ ?_); focus (first | omega | rfl | decide))))
  all_goals (
    (first | refine ends_plain (by simp [Low_d, dmT, dm, dm1, pack, Low_tup, Low_agg, Low_exact]) hl ?_ | refine ends_plain0 (by simp [Low_d, dmT, dm, dm1, pack, Low_tup, Low_agg, Low_exact]) hl ?_)
    (try simp only [decide_eq_true_eq, decide_eq_false_iff_not, beq_iff_eq, beq_eq_false_iff_ne, bne_iff_ne, ne_eq, Bool.not_eq_true', Bool.not_eq_false', bne_eq_false_iff_eq] at *)
    unfold keyF at hK)
  · rw [if_pos (by omega)] at hK; exact hK
  · rw [if_pos (by omega)] at hK; exact hK
  · rw [if_neg (by omega)] at hK; rw [wrap64i (by omega) (by omega)]; exact hK
theorem sizes {x : TSigned} (h : opSz x.op ≤ 20971520) : okO x.op := by
  have h0 := h
  unfold opSz at h
  refine ⟨by omega, by omega, ?_, fun r hr => ?_⟩
  · have := recs_len_le x.op.recs; omega
  · have := rec_le hr; omega
theorem c_rqBytes {σ : List AObj} {x : TSigned} (hx : opSz x.op ≤ 20971520) {K : AV → List AObj → Prop} (hK : K (.tup [.d (.slice (bcs (reqBytesF x))), .d (.int .i64 (checkReqF x))]) σ) : ACall Try.prog n_request_Bytes [reqA x] σ K := by
  refine acall_of isA_request_Bytes rfl fun hl _ => s_request_Bytes ?_
  have hsz := sizes hx
  simp only [S_request_Bytes, reqA]
  (repeat' (first | (refine gq34 ?_; try with_reducible exact True.intro) | ((with_reducible refine And.intro ?_ ?_); focus (first | omega | rfl | decide | (simp; done)))))
  refine c_rqCheck (x := x) hsz ?_
  by_cases hc : checkReqF x = 0
  · obtain ⟨c0, c8, t1, t2, ho⟩ := req_ok hc
    have hb : (checkReqF x != 0) = false := by simpa using hc
    have n1 := numB_len10 (n := x.client.toNat) (by omega)
    have n2 := numB_len10 (n := x.time.toNat) (by omega)
    have w1 : IntKind.u64.wrap x.client = ((x.client.toNat : Nat) : Int) := by
      rw [show x.client = ((x.client.toNat : Nat) : Int) by omega, wrap64u (by omega)]; rfl
    have w2 : IntKind.u64.wrap x.time = ((x.time.toNat : Nat) : Int) := by
      rw [show x.time = ((x.time.toNat : Nat) : Int) by omega, wrap64u (by omega)]; rfl
    rw [hc, reqBytesF, if_pos hc] at hK
    (repeat' (first | (refine gq35 (gqc1 hb (gqc1 w1 w2)) ?_; try with_reducible exact True.intro) | ((with_reducible refine And.intro ?_ ?_); focus (first | omega | rfl | decide | (simp; done)))))
    refine c_PutNum (b := []) (by omega) (by simp) ?_
    (repeat' (first | (refine gq35 (gqc1 w1 w2) ?_; try with_reducible exact True.intro) | ((with_reducible refine And.intro ?_ ?_); focus (first | omega | rfl | decide | (simp; done)))))
    refine c_PutNum (by omega) (by first | omega | (simp; omega)) ?_
    (repeat' (first | (refine gq35 (gqc1 w1 w2) ?_; try with_reducible exact True.intro) | ((with_reducible refine And.intro ?_ ?_); focus (first | omega | rfl | decide | (simp; done)))))
    refine c_Put (o := x.op) (by first | omega | (simp; omega)) (by omega) ?_
    (repeat' (first | (refine gq34 ?_; try with_reducible exact True.intro) | ((with_reducible refine And.intro ?_ ?_); focus (first | omega | rfl | decide | (simp; done)))))
    (first | refine ends_plain (by simp [Low_d, dmT, dm, dm1, pack, Low_tup, Low_agg, Low_exact]) hl ?_ | refine ends_plain0 (by simp [Low_d, dmT, dm, dm1, pack, Low_tup, Low_agg, Low_exact]) hl ?_)
    rw [if_pos ho]
    exact hK
  · have hb : (checkReqF x != 0) = true := by simpa using hc
    rw [reqBytesF, if_neg hc] at hK
    (repeat' (first | (refine gq35 hb ?_; try with_reducible exact True.intro) | ((with_reducible refine And.intro ?_ ?_); focus (first | omega | rfl | decide | (simp; done)))))
    (first | refine ends_plain (by simp [Low_d, dmT, dm, dm1, pack, Low_tup, Low_agg, Low_exact]) hl ?_ | refine ends_plain0 (by simp [Low_d, dmT, dm, dm1, pack, Low_tup, Low_agg, Low_exact]) hl ?_)
    exact hK
theorem c_PutSign {σ : List AObj} {b : List UInt8} {k d : Int} (hb : b.length ≤ 1073741700) {K : AV → List AObj → Prop} (hK : K (.d (.slice (bcs (b ++ signBytesF k d)))) σ) :
    ACall Try.prog n_request_PutSign [.d (.slice (bcs b)), .agg [.d (.int .i64 k), .d (.int .i64 d)]] σ K := by
  refine acall_of isA_request_PutSign rfl fun hl _ => s_request_PutSign ?_
  simp only [S_request_PutSign]
  (repeat' (first | (refine gq34 ?_; try with_reducible exact True.intro) | ((with_reducible refine And.intro ?_ ?_); focus (first | omega | rfl | decide | (simp; done)))))
  refine c_rqCheckSign ?_
  by_cases hc : checkSignF k d = 0
  · obtain ⟨k0, k1, d0, d1⟩ := sign_ok hc
    have hq : (checkSignF k d != 0) = false := by simpa using hc
    have n1 := numB_len10 (n := k.toNat) (by omega)
    have w1 : IntKind.u64.wrap k = ((k.toNat : Nat) : Int) := by
      rw [show k = ((k.toNat : Nat) : Int) by omega, wrap64u (by omega)]; rfl
    have w2 : IntKind.u64.wrap d = ((d.toNat : Nat) : Int) := by
      rw [show d = ((d.toNat : Nat) : Int) by omega, wrap64u (by omega)]; rfl
    rw [signBytesF, if_pos hc] at hK
    (repeat' (first | (refine gq35 (gqc1 hq (gqc1 w1 w2)) ?_; try with_reducible exact True.intro) | ((with_reducible refine And.intro ?_ ?_); focus (first | omega | rfl | decide | (simp; done)))))
    refine c_PutNum (by omega) (by omega) ?_
    (repeat' (first | (refine gq35 (gqc1 w1 w2) ?_; try with_reducible exact True.intro) | ((with_reducible refine And.intro ?_ ?_); focus (first | omega | rfl | decide | (simp; done)))))
    refine c_PutNum (by omega) (by first | omega | (simp; omega)) ?_
    (repeat' (first | (refine gq34 ?_; try with_reducible exact True.intro) | ((with_reducible refine And.intro ?_ ?_); focus (first | omega | rfl | decide | (simp; done)))))
    (first | refine ends_plain (by simp [Low_d, dmT, dm, dm1, pack, Low_tup, Low_agg, Low_exact]) hl ?_ | refine ends_plain0 (by simp [Low_d, dmT, dm, dm1, pack, Low_tup, Low_agg, Low_exact]) hl ?_)
    exact hK
  · have hq : (checkSignF k d != 0) = true := by simpa using hc
    rw [signBytesF, if_neg hc, List.append_nil] at hK
    (repeat' (first | (refine gq35 hq ?_; try with_reducible exact True.intro) | ((with_reducible refine And.intro ?_ ?_); focus (first | omega | rfl | decide | (simp; done)))))
    refine c_bytes_Clone bcs_one (by rw [bcs_length]; omega) ?_
    (repeat' (first | (refine gq34 ?_; try with_reducible exact True.intro) | ((with_reducible refine And.intro ?_ ?_); focus (first | omega | rfl | decide | (simp; done)))))
    (first | refine ends_plain (by simp [Low_d, dmT, dm, dm1, pack, Low_tup, Low_agg, Low_exact]) hl ?_ | refine ends_plain0 (by simp [Low_d, dmT, dm, dm1, pack, Low_tup, Low_agg, Low_exact]) hl ?_)
    exact hK
theorem c_partsPut {σ : List AObj} {b : List UInt8} {l : List TSigned} (hb : b.length ≤ 268435456) (hs : ∀ x ∈ l, opSz x.op ≤ 20971520) (hc : checkBatchF l = 0) {K : AV → List AObj → Prop} (hK : K (.d (.slice (bcs (b ++ batchB l)))) σ) :
    ACall Try.prog n_request_parts_put [.d (.slice (batchE l)), .d (.slice (bcs b))] σ K := by
  refine acall_of isA_request_parts_put rfl fun hl _ => s_request_parts_put ?_
  obtain ⟨h4, hm, _⟩ := batch_ok hc
  have n1 := numB_len10 (n := l.length) (by omega)
  have w1 : IntKind.u64.wrap (l.length : Int) = (l.length : Int) := wrap64u (by omega)
  simp only [S_request_parts_put]
  (repeat' (first | (refine gq35 w1 ?_; try with_reducible exact True.intro) | ((with_reducible refine And.intro ?_ ?_); focus (first | omega | rfl | decide | (simp; done)))))
  refine c_PutNum (by omega) (by omega) ?_
  (repeat' (first | (refine gq34 ?_; try with_reducible exact True.intro) | ((with_reducible refine And.intro ?_ ?_); focus (first | omega | rfl | decide | (simp; done)))))
  refine loopC_countW l.length (fun k vs s => (∃ T, s = σ ++ T) ∧ vs = [.d (.slice (bcs (b ++ (numB l.length ++ batchBs (l.take k))))), .d (.int .i64 k)])
    (.data 0 _ _ rfl rfl (.refl _ _)) ⟨⟨_, rfl⟩, by simp [batchBs]⟩ ?_
  rintro k vs s hk ⟨⟨T, rfl⟩, rfl⟩
  by_cases hlt : k < l.length
  · have hd : decide ((k : Int) < (l.length : Int)) = true := by simp; omega
    have hx : l[k]? = some l[k] := by simp [hlt]
    have hgx := map_get (f := signedD) hx
    have hxs := hs _ (List.getElem_mem hlt)
    have hxm := hm _ (List.getElem_mem hlt)
    obtain ⟨x, hxe⟩ : ∃ x, l[k] = x := ⟨_, rfl⟩
    rw [hxe] at hx hgx hxs hxm
    have hbl := batchBs_len hs hc k
    have hrl := reqBytes_len hxs
    have hpl := putB_len (x := reqBytesF x) (by omega)
    obtain ⟨S, hS⟩ : ∃ S, σ ++ T = S := ⟨_, rfl⟩
    rw [hS]
    (repeat' (first | (refine gq36 (gqc1 hd hgx) ?_; try with_reducible exact True.intro) | ((with_reducible refine And.intro ?_ ?_); focus (first | omega | rfl | decide | (simp; done)))))
    refine c_rqBytes (x := x) hxs ?_
    (repeat' (first | (refine gq36 (gqc1 hd hgx) ?_; try with_reducible exact True.intro) | ((with_reducible refine And.intro ?_ ?_); focus (first | omega | rfl | decide | (simp; done)))))
    refine c_PutBytes (by omega) (by simp; omega) ?_
    (repeat' (first | (refine gq36 (gqc1 hd hgx) ?_; try with_reducible exact True.intro) | ((with_reducible refine And.intro ?_ ?_); focus (first | omega | rfl | decide | (simp; done)))))
    refine c_PutSign (by simp only [putB, List.length_append] at hpl ⊢; omega) ?_
    (repeat' (first | (refine gq35 (wk1 k (by omega)) ?_; try with_reducible exact True.intro) | ((with_reducible refine And.intro ?_ ?_); focus (first | omega | rfl | decide | (simp; done)))))
    refine Again.next hlt ⟨⟨_, by rw [← hS, List.append_assoc]⟩, ?_⟩
    rw [batchBs_snoc hx]
    simp [oneB, putB, reqBytesF, signBytesF, hxm.1, hxm.2]
  · have hd : decide ((k : Int) < (l.length : Int)) = false := by simp; omega
    rw [List.take_of_length_le (by omega)]
    (repeat' (first | (refine gq35 hd ?_; try with_reducible exact True.intro) | ((with_reducible refine And.intro ?_ ?_); focus (first | omega | rfl | decide | (simp; done)))))
    (first | refine ends_plain (by simp [Low_d, dmT, dm, dm1, pack, Low_tup, Low_agg, Low_exact]) hl ?_ | refine ends_plain0 (by simp [Low_d, dmT, dm, dm1, pack, Low_tup, Low_agg, Low_exact]) hl ?_)
    exact hK
theorem c_PutBatch {σ : List AObj} {b : List UInt8} {l : List TSigned} (hb : b.length ≤ 268435456) (hs : ∀ x ∈ l, opSz x.op ≤ 20971520) (hl0 : l.length ≤ 1073741824) {K : AV → List AObj → Prop} (hK : K (.d (.slice (bcs (b ++ batchBytesF l)))) σ) :
    ACall Try.prog n_request_PutBatch [.d (.slice (bcs b)), .d (.slice (batchE l))] σ K := by
  refine acall_of isA_request_PutBatch rfl fun hl _ => s_request_PutBatch ?_
  have hok : okB l := ⟨hl0, fun x hx => sizes (hs x hx)⟩
  simp only [S_request_PutBatch]
  (repeat' (first | (refine gq34 ?_; try with_reducible exact True.intro) | ((with_reducible refine And.intro ?_ ?_); focus (first | omega | rfl | decide | (simp; done)))))
  refine c_CheckBatch hok ?_
  by_cases hc : checkBatchF l = 0
  · have hq : (checkBatchF l != 0) = false := by simpa using hc
    rw [batchBytesF, if_pos hc] at hK
    (repeat' (first | (refine gq35 hq ?_; try with_reducible exact True.intro) | ((with_reducible refine And.intro ?_ ?_); focus (first | omega | rfl | decide | (simp; done)))))
    refine c_partsPut hb hs hc ?_
    (repeat' (first | (refine gq34 ?_; try with_reducible exact True.intro) | ((with_reducible refine And.intro ?_ ?_); focus (first | omega | rfl | decide | (simp; done)))))
    (first | refine ends_plain (by simp [Low_d, dmT, dm, dm1, pack, Low_tup, Low_agg, Low_exact]) hl ?_ | refine ends_plain0 (by simp [Low_d, dmT, dm, dm1, pack, Low_tup, Low_agg, Low_exact]) hl ?_)
    exact hK
  · have hq : (checkBatchF l != 0) = true := by simpa using hc
    rw [batchBytesF, if_neg hc, List.append_nil] at hK
    (repeat' (first | (refine gq35 hq ?_; try with_reducible exact True.intro) | ((with_reducible refine And.intro ?_ ?_); focus (first | omega | rfl | decide | (simp; done)))))
    refine c_bytes_Clone bcs_one (by rw [bcs_length]; omega) ?_
    (repeat' (first | (refine gq34 ?_; try with_reducible exact True.intro) | ((with_reducible refine And.intro ?_ ?_); focus (first | omega | rfl | decide | (simp; done)))))
    (first | refine ends_plain (by simp [Low_d, dmT, dm, dm1, pack, Low_tup, Low_agg, Low_exact]) hl ?_ | refine ends_plain0 (by simp [Low_d, dmT, dm, dm1, pack, Low_tup, Low_agg, Low_exact]) hl ?_)
    exact hK
end Go.Proofs.Ythmdpooklflkfaa
