/- Contracts: the bytes of a batch, in a row that may grow. -/
import Derived.Test.YthmdpooklflkfaaRq7
set_option linter.all false
set_option maxRecDepth 100000
set_option linter.unusedSimpArgs false
set_option linter.unusedVariables false
namespace Go.Proofs.Ythmdpooklflkfaa
open Go.AW

theorem c_PutSignO {σ : List AObj} {b : List UInt8} {k d : Int} (hb : b.length ≤ 1073741700) (hc : checkSignF k d = 0) {K : AV → List AObj → Prop} (hK : K (.own σ.length (bcs (b ++ signB k d))) (σ ++ [.tok 1 (b ++ signB k d).length])) :
    ACall Try.prog n_request_PutSign [.d (.slice (bcs b)), .agg [.d (.int .i64 k), .d (.int .i64 d)]] σ K := by
  refine acall_keep isA_request_PutSign rfl (fun s => [s.length - 1]) fun hl _ => s_request_PutSign ?_
  obtain ⟨k0, k1, d0, d1⟩ := sign_ok hc
  have hq : (checkSignF k d != 0) = false := by simpa using hc
  have n1 := numB_len10 (n := k.toNat) (by omega)
  have w1 : IntKind.u64.wrap k = ((k.toNat : Nat) : Int) := by
    rw [show k = ((k.toNat : Nat) : Int) by omega, wrap64u (by omega)]; rfl
  have w2 : IntKind.u64.wrap d = ((d.toNat : Nat) : Int) := by
    rw [show d = ((d.toNat : Nat) : Int) by omega, wrap64u (by omega)]; rfl
  simp only [S_request_PutSign]
  (repeat' (first | (refine gq34 ?_; try with_reducible exact True.intro) | ((with_reducible refine And.intro ?_ ?_); focus (first | omega | rfl | decide | (simp; done)))))
  refine c_rqCheckSign ?_
  (repeat' (first | (refine gq35 (gqc1 hq (gqc1 w1 w2)) ?_; try with_reducible exact True.intro) | ((with_reducible refine And.intro ?_ ?_); focus (first | omega | rfl | decide | (simp; done)))))
  refine c_PutNum (by omega) (by omega) ?_
  (repeat' (first | (refine gq35 (gqc1 w1 w2) ?_; try with_reducible exact True.intro) | ((with_reducible refine And.intro ?_ ?_); focus (first | omega | rfl | decide | (simp; done)))))
  refine c_PutNum (by omega) (by simp; omega) ?_
  (repeat' (first | (refine gq34 ?_; try with_reducible exact True.intro) | ((with_reducible refine And.intro ?_ ?_); focus (first | omega | rfl | decide | (simp; done)))))
  refine endsK_own (t := σ.length + 2) (sz := 1) (n := (b ++ signB k d).length) (by simp) hl (by omega) ?_ ?_
  · rw [get_app]; simp [signB, Nat.add_assoc]
  · exact hK
theorem c_partsPutO {σ : List AObj} {b : List UInt8} {l : List TSigned} (hb : b.length ≤ 268435456) (hs : ∀ x ∈ l, opSz x.op ≤ 20971520) (hc : checkBatchF l = 0) {K : AV → List AObj → Prop} (hK : K (.own σ.length (bcs (b ++ batchB l))) (σ ++ [.tok 1 (b ++ batchB l).length])) :
    ACall Try.prog n_request_parts_put [.d (.slice (batchE l)), .d (.slice (bcs b))] σ K := by
  refine acall_keep isA_request_parts_put rfl (fun s => [s.length - 1]) fun hl _ => s_request_parts_put ?_
  obtain ⟨h4, hm, _⟩ := batch_ok hc
  have n1 := numB_len10 (n := l.length) (by omega)
  have w1 : IntKind.u64.wrap (l.length : Int) = (l.length : Int) := wrap64u (by omega)
  simp only [S_request_parts_put]
  (repeat' (first | (refine gq35 w1 ?_; try with_reducible exact True.intro) | ((with_reducible refine And.intro ?_ ?_); focus (first | omega | rfl | decide | (simp; done)))))
  refine c_PutNum (by omega) (by omega) ?_
  (repeat' (first | (refine gq34 ?_; try with_reducible exact True.intro) | ((with_reducible refine And.intro ?_ ?_); focus (first | omega | rfl | decide | (simp; done)))))
  refine loopC_count l.length (fun k vs s => ∃ T, s = σ ++ T ++ [.tok 1 (b ++ (numB l.length ++ batchBs (l.take k))).length] ∧ vs = [.own (σ ++ T).length (bcs (b ++ (numB l.length ++ batchBs (l.take k)))), .d (.int .i64 k)])
    ⟨[], by simp [batchBs], by simp [batchBs]⟩ ?_
  rintro k vs s hk ⟨T, rfl, rfl⟩
  by_cases hlt : k < l.length
  · have hd : decide ((k : Int) < (l.length : Int)) = true := by simp; omega
    have hx : l[k]? = some l[k] := by simp [hlt]
    have hgx := map_get (f := signedD) hx
    have hxs := hs _ (List.getElem_mem hlt)
    have hxm := hm _ (List.getElem_mem hlt)
    obtain ⟨x, hxe⟩ : ∃ x, l[k] = x := ⟨_, rfl⟩
    rw [hxe] at hx hgx hxs hxm
    have hbl := batchBs_len hs hc k
    have hrl := reqBytes_len hxs
    have hpl := putB_len (x := reqBytesF x) (by omega)
    obtain ⟨t, ht⟩ : ∃ t, (σ ++ T).length = t := ⟨_, rfl⟩
    obtain ⟨S, hS⟩ : ∃ S, σ ++ T ++ [AObj.tok 1 (b ++ (numB l.length ++ batchBs (l.take k))).length] = S := ⟨_, rfl⟩
    have hS2 : S = σ ++ (T ++ [AObj.tok 1 (b ++ (numB l.length ++ batchBs (l.take k))).length]) := by rw [← hS, List.append_assoc]
    rw [ht, hS]
    (repeat' (first | (refine gq36 (gqc1 hd hgx) ?_; try with_reducible exact True.intro) | ((with_reducible refine And.intro ?_ ?_); focus (first | omega | rfl | decide | (simp; done)))))
    refine c_rqBytes (x := x) hxs ?_
    (repeat' (first | (refine gq36 (gqc1 hd hgx) ?_; try with_reducible exact True.intro) | ((with_reducible refine And.intro ?_ ?_); focus (first | omega | rfl | decide | (simp; done)))))
    refine c_PutBytes (by omega) (by simp; omega) ?_
    (repeat' (first | (refine gq36 (gqc1 hd hgx) ?_; try with_reducible exact True.intro) | ((with_reducible refine And.intro ?_ ?_); focus (first | omega | rfl | decide | (simp; done)))))
    refine c_PutSignO (by simp only [putB, List.length_append] at hpl ⊢; omega) hxm.2 ?_
    (repeat' (first | (refine gq35 (wk1 k (by omega)) ?_; try with_reducible exact True.intro) | ((with_reducible refine And.intro ?_ ?_); focus (first | omega | rfl | decide | (simp; done)))))
    have hwl : (batchBs (l.take (k + 1))).length = (batchBs (l.take k)).length + ((numB (reqBytesF x).length).length + ((reqBytesF x).length + (signB x.key x.dig).length)) := by
      rw [batchBs_snoc hx]; simp [oneB, putB, reqBytesF, hxm.1, Nat.add_assoc]
    have hw : b ++ (numB l.length ++ batchBs (l.take (k + 1))) = b ++ (numB l.length ++ (batchBs (l.take k) ++ (numB (reqBytesF x).length ++ (reqBytesF x ++ signB x.key x.dig)))) := by
      rw [batchBs_snoc hx]
      simp [oneB, putB, reqBytesF, hxm.1]
    refine Again.next hlt ⟨T ++ [AObj.tok 1 (b ++ (numB l.length ++ batchBs (l.take k))).length] ++ [AObj.box [.d (.int .i64 x.client), .d (.int .i64 x.time), .d (.int .i64 x.op.kind), .d (.str x.op.topic), .d (.str x.op.group), .d (.int .i64 x.op.offset), .d (.slice (recsE x.op.recs)), .d (.int .i64 x.key), .d (.int .i64 x.dig)], .tok 1 (b ++ (numB l.length ++ (batchBs (l.take k) ++ (numB (reqBytesF x).length ++ reqBytesF x)))).length], ?_, ?_⟩
    · simp only [hw, hS2]; simp [Nat.add_assoc, hwl]
    · simp only [hw, hS2]; simp [Nat.add_assoc]
  · have hd : decide ((k : Int) < (l.length : Int)) = false := by simp; omega
    rw [List.take_of_length_le (by omega)]
    simp only [List.append_assoc]
    (repeat' (first | (refine gq35 hd ?_; try with_reducible exact True.intro) | ((with_reducible refine And.intro ?_ ?_); focus (first | omega | rfl | decide | (simp; done)))))
    refine endsK_own (t := σ.length + T.length) (sz := 1) (n := (b ++ batchB l).length) ?_ hl (by omega) ?_ ?_
    · simp only [List.length_append, List.length_cons, List.length_nil]; congr 1
    · rw [get_app, get_app0]; simp [batchB]
    · exact hK
theorem c_PutBatchO {σ : List AObj} {b : List UInt8} {l : List TSigned} (hb : b.length ≤ 268435456) (hs : ∀ x ∈ l, opSz x.op ≤ 20971520) (hc : checkBatchF l = 0) {K : AV → List AObj → Prop} (hK : K (.own σ.length (bcs (b ++ batchB l))) (σ ++ [.tok 1 (b ++ batchB l).length])) :
    ACall Try.prog n_request_PutBatch [.d (.slice (bcs b)), .d (.slice (batchE l))] σ K := by
  refine acall_keep isA_request_PutBatch rfl (fun s => [s.length - 1]) fun hl _ => s_request_PutBatch ?_
  have h4 := (batch_ok hc).1
  have hok : okB l := ⟨by omega, fun x hx => sizes (hs x hx)⟩
  have hq : (checkBatchF l != 0) = false := by simpa using hc
  simp only [S_request_PutBatch]
  (repeat' (first | (refine gq34 ?_; try with_reducible exact True.intro) | ((with_reducible refine And.intro ?_ ?_); focus (first | omega | rfl | decide | (simp; done)))))
  refine c_CheckBatch hok ?_
  (repeat' (first | (refine gq35 hq ?_; try with_reducible exact True.intro) | ((with_reducible refine And.intro ?_ ?_); focus (first | omega | rfl | decide | (simp; done)))))
  refine c_partsPutO hb hs hc ?_
  (repeat' (first | (refine gq34 ?_; try with_reducible exact True.intro) | ((with_reducible refine And.intro ?_ ?_); focus (first | omega | rfl | decide | (simp; done)))))
  refine endsK_own (t := σ.length) (sz := 1) (n := (b ++ batchB l).length) (by simp) hl (by omega) ?_ ?_
  · rw [get_app0]; simp
  · exact hK
end Go.Proofs.Ythmdpooklflkfaa
