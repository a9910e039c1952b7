/- Contracts: the bytes of requests, signatures and batches. -/
import Derived.Test.YtcappjcojggehaaGreatOp2
import Derived.Test.YtcappjcojggehaaGreatRc2
import Derived.Test.YtcappjcojggehaaGreatSpRd
set_option linter.all false
set_option maxRecDepth 100000
set_option linter.unusedSimpArgs false
set_option linter.unusedVariables false
namespace Go.Proofs.YtcappjcojggehaaGreat
open Go.AW

def keyF (c : Int) : Int := if c < 0 ∨ c ≥ 8 then -1 else 13 + c
theorem c_rqKey {σ : List AObj} {c : Int} {K : AV → List AObj → Prop} (hK : K (.d (.int .i64 (keyF c))) σ) : ACall Tryz.prog zfe [.d (.int .i64 c)] σ K := by
  refine zo zlC rfl fun hl _ => znE ?_
  simp only [ziV]
  (repeat' (first | (refine gq20 ?_; try with_reducible exact True.intro) | (refine zT (fun h => ?_) (fun h => ?_) <;> (try rw [h])) | ((with_reducible refine And.intro ?_ ?_); focus (first | omega | rfl | decide))))
  all_goals (
    (first | refine zg (by simp [Low_d, dmT, dm, dm1, pack, zd, ze, zb]) hl ?_ | refine zf (by simp [Low_d, dmT, dm, dm1, pack, zd, ze, zb]) hl ?_)
    (try simp only [decide_eq_true_eq, decide_eq_false_iff_not, beq_iff_eq, beq_eq_false_iff_ne, bne_iff_ne, ne_eq, Bool.not_eq_true', Bool.not_eq_false', bne_eq_false_iff_eq] at *)
    unfold keyF at hK)
  · rw [if_pos (by omega)] at hK; exact hK
  · rw [if_pos (by omega)] at hK; exact hK
  · rw [if_neg (by omega)] at hK; rw [zad (by omega) (by omega)]; exact hK
theorem sizes {x : zk} (h : opSz x.op ≤ 20971520) : okO x.op := by
  have h0 := h
  unfold opSz at h
  refine ⟨by omega, by omega, ?_, fun r hr => ?_⟩
  · have := zfd x.op.recs; omega
  · have := rec_le hr; omega
theorem c_rqBytes {σ : List AObj} {x : zk} (hx : opSz x.op ≤ 20971520) {K : AV → List AObj → Prop} (hK : K (.tup [.d (.slice (bcs (zaR x))), .d (.int .i64 (zJ x))]) σ) : ACall Tryz.prog zcs [reqA x] σ K := by
  refine zo zjE rfl fun hl _ => zln ?_
  have hsz := sizes hx
  simp only [zgy, reqA]
  (repeat' (first | (refine gq39 ?_; try with_reducible exact True.intro) | ((with_reducible refine And.intro ?_ ?_); focus (first | omega | rfl | decide | (simp; done)))))
  refine c_rqCheck (x := x) hsz ?_
  by_cases hc : zJ x = 0
  · obtain ⟨c0, c8, t1, t2, ho⟩ := req_ok hc
    have hb : (zJ x != 0) = false := by simpa using hc
    have n1 := zS (n := x.client.toNat) (by omega)
    have n2 := zS (n := x.time.toNat) (by omega)
    have w1 : IntKind.u64.wrap x.client = ((x.client.toNat : Nat) : Int) := by
      rw [show x.client = ((x.client.toNat : Nat) : Int) by omega, zbf (by omega)]; rfl
    have w2 : IntKind.u64.wrap x.time = ((x.time.toNat : Nat) : Int) := by
      rw [show x.time = ((x.time.toNat : Nat) : Int) by omega, zbf (by omega)]; rfl
    rw [hc, zaR, if_pos hc] at hK
    (repeat' (first | (refine gq40 (gqc1 hb (gqc1 w1 w2)) ?_; try with_reducible exact True.intro) | ((with_reducible refine And.intro ?_ ?_); focus (first | omega | rfl | decide | (simp; done)))))
    refine zdb (b := []) (by omega) (by simp) ?_
    (repeat' (first | (refine gq40 (gqc1 w1 w2) ?_; try with_reducible exact True.intro) | ((with_reducible refine And.intro ?_ ?_); focus (first | omega | rfl | decide | (simp; done)))))
    refine zdb (by omega) (by first | omega | (simp; omega)) ?_
    (repeat' (first | (refine gq40 (gqc1 w1 w2) ?_; try with_reducible exact True.intro) | ((with_reducible refine And.intro ?_ ?_); focus (first | omega | rfl | decide | (simp; done)))))
    refine c_Put (o := x.op) (by first | omega | (simp; omega)) (by omega) ?_
    (repeat' (first | (refine gq39 ?_; try with_reducible exact True.intro) | ((with_reducible refine And.intro ?_ ?_); focus (first | omega | rfl | decide | (simp; done)))))
    (first | refine zg (by simp [Low_d, dmT, dm, dm1, pack, zd, ze, zb]) hl ?_ | refine zf (by simp [Low_d, dmT, dm, dm1, pack, zd, ze, zb]) hl ?_)
    rw [if_pos ho]
    exact hK
  · have hb : (zJ x != 0) = true := by simpa using hc
    rw [zaR, if_neg hc] at hK
    (repeat' (first | (refine gq40 hb ?_; try with_reducible exact True.intro) | ((with_reducible refine And.intro ?_ ?_); focus (first | omega | rfl | decide | (simp; done)))))
    (first | refine zg (by simp [Low_d, dmT, dm, dm1, pack, zd, ze, zb]) hl ?_ | refine zf (by simp [Low_d, dmT, dm, dm1, pack, zd, ze, zb]) hl ?_)
    exact hK
theorem zjN {σ : List AObj} {x : zk} (hx : opSz x.op ≤ 20971520) {K : AV → List AObj → Prop} (hK : K (.tup [.d (.slice (bcs (zaR x))), .d (.int .i64 (zJ x))]) σ) : ACall Tryz.prog zdN [reqA x] σ K := by
  refine zo zod rfl fun hl _ => s_r08_Bytes ?_
  have hsz := sizes hx
  simp only [zmg, reqA]
  (repeat' (first | (refine gq39 ?_; try with_reducible exact True.intro) | ((with_reducible refine And.intro ?_ ?_); focus (first | omega | rfl | decide | (simp; done)))))
  refine znh (x := x) hsz ?_
  by_cases hc : zJ x = 0
  · obtain ⟨c0, c8, t1, t2, ho⟩ := req_ok hc
    have hb : (zJ x != 0) = false := by simpa using hc
    have n1 := zS (n := x.client.toNat) (by omega)
    have n2 := zS (n := x.time.toNat) (by omega)
    have w1 : IntKind.u64.wrap x.client = ((x.client.toNat : Nat) : Int) := by
      rw [show x.client = ((x.client.toNat : Nat) : Int) by omega, zbf (by omega)]; rfl
    have w2 : IntKind.u64.wrap x.time = ((x.time.toNat : Nat) : Int) := by
      rw [show x.time = ((x.time.toNat : Nat) : Int) by omega, zbf (by omega)]; rfl
    rw [hc, zaR, if_pos hc] at hK
    (repeat' (first | (refine gq40 (gqc1 hb (gqc1 w1 w2)) ?_; try with_reducible exact True.intro) | ((with_reducible refine And.intro ?_ ?_); focus (first | omega | rfl | decide | (simp; done)))))
    refine zcz (b := []) (by omega) (by simp) ?_
    (repeat' (first | (refine gq40 (gqc1 w1 w2) ?_; try with_reducible exact True.intro) | ((with_reducible refine And.intro ?_ ?_); focus (first | omega | rfl | decide | (simp; done)))))
    refine zcz (by omega) (by first | omega | (simp; omega)) ?_
    (repeat' (first | (refine gq40 (gqc1 w1 w2) ?_; try with_reducible exact True.intro) | ((with_reducible refine And.intro ?_ ?_); focus (first | omega | rfl | decide | (simp; done)))))
    refine c_rPut (o := x.op) (by first | omega | (simp; omega)) (by omega) ?_
    (repeat' (first | (refine gq39 ?_; try with_reducible exact True.intro) | ((with_reducible refine And.intro ?_ ?_); focus (first | omega | rfl | decide | (simp; done)))))
    (first | refine zg (by simp [Low_d, dmT, dm, dm1, pack, zd, ze, zb]) hl ?_ | refine zf (by simp [Low_d, dmT, dm, dm1, pack, zd, ze, zb]) hl ?_)
    rw [if_pos ho]
    exact hK
  · have hb : (zJ x != 0) = true := by simpa using hc
    rw [zaR, if_neg hc] at hK
    (repeat' (first | (refine gq40 hb ?_; try with_reducible exact True.intro) | ((with_reducible refine And.intro ?_ ?_); focus (first | omega | rfl | decide | (simp; done)))))
    (first | refine zg (by simp [Low_d, dmT, dm, dm1, pack, zd, ze, zb]) hl ?_ | refine zf (by simp [Low_d, dmT, dm, dm1, pack, zd, ze, zb]) hl ?_)
    exact hK
theorem c_PutSign {σ : List AObj} {b : List UInt8} {k d : Int} (hb : b.length ≤ 1073741700) {K : AV → List AObj → Prop} (hK : K (.d (.slice (bcs (b ++ zcm k d)))) σ) :
    ACall Tryz.prog zcP [.d (.slice (bcs b)), .agg [.d (.int .i64 k), .d (.int .i64 d)]] σ K := by
  refine zo zhK rfl fun hl _ => zje ?_
  simp only [zeU]
  (repeat' (first | (refine gq39 ?_; try with_reducible exact True.intro) | ((with_reducible refine And.intro ?_ ?_); focus (first | omega | rfl | decide | (simp; done)))))
  refine ziK ?_
  by_cases hc : zag k d = 0
  · obtain ⟨k0, k1, d0, d1⟩ := sign_ok hc
    have hq : (zag k d != 0) = false := by simpa using hc
    have n1 := zS (n := k.toNat) (by omega)
    have w1 : IntKind.u64.wrap k = ((k.toNat : Nat) : Int) := by
      rw [show k = ((k.toNat : Nat) : Int) by omega, zbf (by omega)]; rfl
    have w2 : IntKind.u64.wrap d = ((d.toNat : Nat) : Int) := by
      rw [show d = ((d.toNat : Nat) : Int) by omega, zbf (by omega)]; rfl
    rw [zcm, if_pos hc] at hK
    (repeat' (first | (refine gq40 (gqc1 hq (gqc1 w1 w2)) ?_; try with_reducible exact True.intro) | ((with_reducible refine And.intro ?_ ?_); focus (first | omega | rfl | decide | (simp; done)))))
    refine zdb (by omega) (by omega) ?_
    (repeat' (first | (refine gq40 (gqc1 w1 w2) ?_; try with_reducible exact True.intro) | ((with_reducible refine And.intro ?_ ?_); focus (first | omega | rfl | decide | (simp; done)))))
    refine zdb (by omega) (by first | omega | (simp; omega)) ?_
    (repeat' (first | (refine gq39 ?_; try with_reducible exact True.intro) | ((with_reducible refine And.intro ?_ ?_); focus (first | omega | rfl | decide | (simp; done)))))
    (first | refine zg (by simp [Low_d, dmT, dm, dm1, pack, zd, ze, zb]) hl ?_ | refine zf (by simp [Low_d, dmT, dm, dm1, pack, zd, ze, zb]) hl ?_)
    exact hK
  · have hq : (zag k d != 0) = true := by simpa using hc
    rw [zcm, if_neg hc, List.append_nil] at hK
    (repeat' (first | (refine gq40 hq ?_; try with_reducible exact True.intro) | ((with_reducible refine And.intro ?_ ?_); focus (first | omega | rfl | decide | (simp; done)))))
    refine zbM zcS (by rw [zbj]; omega) ?_
    (repeat' (first | (refine gq39 ?_; try with_reducible exact True.intro) | ((with_reducible refine And.intro ?_ ?_); focus (first | omega | rfl | decide | (simp; done)))))
    (first | refine zg (by simp [Low_d, dmT, dm, dm1, pack, zd, ze, zb]) hl ?_ | refine zf (by simp [Low_d, dmT, dm, dm1, pack, zd, ze, zb]) hl ?_)
    exact hK
theorem c_rPutSign {σ : List AObj} {b : List UInt8} {k d : Int} (hb : b.length ≤ 1073741700) {K : AV → List AObj → Prop} (hK : K (.d (.slice (bcs (b ++ zcm k d)))) σ) :
    ACall Tryz.prog zfh [.d (.slice (bcs b)), .agg [.d (.int .i64 k), .d (.int .i64 d)]] σ K := by
  refine zo zlF rfl fun hl _ => znH ?_
  simp only [ziY]
  (repeat' (first | (refine gq39 ?_; try with_reducible exact True.intro) | ((with_reducible refine And.intro ?_ ?_); focus (first | omega | rfl | decide | (simp; done)))))
  refine zhl ?_
  by_cases hc : zag k d = 0
  · obtain ⟨k0, k1, d0, d1⟩ := sign_ok hc
    have hq : (zag k d != 0) = false := by simpa using hc
    have n1 := zS (n := k.toNat) (by omega)
    have w1 : IntKind.u64.wrap k = ((k.toNat : Nat) : Int) := by
      rw [show k = ((k.toNat : Nat) : Int) by omega, zbf (by omega)]; rfl
    have w2 : IntKind.u64.wrap d = ((d.toNat : Nat) : Int) := by
      rw [show d = ((d.toNat : Nat) : Int) by omega, zbf (by omega)]; rfl
    rw [zcm, if_pos hc] at hK
    (repeat' (first | (refine gq40 (gqc1 hq (gqc1 w1 w2)) ?_; try with_reducible exact True.intro) | ((with_reducible refine And.intro ?_ ?_); focus (first | omega | rfl | decide | (simp; done)))))
    refine zcz (by omega) (by omega) ?_
    (repeat' (first | (refine gq40 (gqc1 w1 w2) ?_; try with_reducible exact True.intro) | ((with_reducible refine And.intro ?_ ?_); focus (first | omega | rfl | decide | (simp; done)))))
    refine zcz (by omega) (by first | omega | (simp; omega)) ?_
    (repeat' (first | (refine gq39 ?_; try with_reducible exact True.intro) | ((with_reducible refine And.intro ?_ ?_); focus (first | omega | rfl | decide | (simp; done)))))
    (first | refine zg (by simp [Low_d, dmT, dm, dm1, pack, zd, ze, zb]) hl ?_ | refine zf (by simp [Low_d, dmT, dm, dm1, pack, zd, ze, zb]) hl ?_)
    exact hK
  · have hq : (zag k d != 0) = true := by simpa using hc
    rw [zcm, if_neg hc, List.append_nil] at hK
    (repeat' (first | (refine gq40 hq ?_; try with_reducible exact True.intro) | ((with_reducible refine And.intro ?_ ?_); focus (first | omega | rfl | decide | (simp; done)))))
    (first | refine zg (by simp [Low_d, dmT, dm, dm1, pack, zd, ze, zb]) hl ?_ | refine zf (by simp [Low_d, dmT, dm, dm1, pack, zd, ze, zb]) hl ?_)
    exact hK
theorem c_partsPut {σ : List AObj} {b : List UInt8} {l : List zk} (hb : b.length ≤ 268435456) (hs : ∀ x ∈ l, opSz x.op ≤ 20971520) (hc : zA l = 0) {K : AV → List AObj → Prop} (hK : K (.d (.slice (bcs (b ++ zcJ l)))) σ) :
    ACall Tryz.prog zca [.d (.slice (zaO l)), .d (.slice (bcs b))] σ K := by
  refine zo zgg rfl fun hl _ => zhv ?_
  obtain ⟨h4, hm, _⟩ := zld hc
  have n1 := zS (n := l.length) (by omega)
  have w1 : IntKind.u64.wrap (l.length : Int) = (l.length : Int) := zbf (by omega)
  simp only [zdS]
  (repeat' (first | (refine gq40 w1 ?_; try with_reducible exact True.intro) | ((with_reducible refine And.intro ?_ ?_); focus (first | omega | rfl | decide | (simp; done)))))
  refine zdb (by omega) (by omega) ?_
  (repeat' (first | (refine gq39 ?_; try with_reducible exact True.intro) | ((with_reducible refine And.intro ?_ ?_); focus (first | omega | rfl | decide | (simp; done)))))
  refine zaP l.length (fun k vs s => (∃ T, s = σ ++ T) ∧ vs = [.d (.slice (bcs (b ++ (numB l.length ++ zdj (l.take k))))), .d (.int .i64 k)])
    (.data 0 _ _ rfl rfl (.refl _ _)) ⟨⟨_, rfl⟩, by simp [zdj]⟩ ?_
  rintro k vs s hk ⟨⟨T, rfl⟩, rfl⟩
  by_cases hlt : k < l.length
  · have hd : decide ((k : Int) < (l.length : Int)) = true := by simp; omega
    have hx : l[k]? = some l[k] := by simp [hlt]
    have hgx := zas (f := zaJ) hx
    have hxs := hs _ (List.getElem_mem hlt)
    have hxm := hm _ (List.getElem_mem hlt)
    obtain ⟨x, hxe⟩ : ∃ x, l[k] = x := ⟨_, rfl⟩
    rw [hxe] at hx hgx hxs hxm
    have hbl := zhT hs hc k
    have hrl := zkn hxs
    have hpl := zej (x := zaR x) (by omega)
    obtain ⟨S, hS⟩ : ∃ S, σ ++ T = S := ⟨_, rfl⟩
    rw [hS]
    (repeat' (first | (refine gq41 (gqc1 hd hgx) ?_; try with_reducible exact True.intro) | ((with_reducible refine And.intro ?_ ?_); focus (first | omega | rfl | decide | (simp; done)))))
    refine c_rqBytes (x := x) hxs ?_
    (repeat' (first | (refine gq41 (gqc1 hd hgx) ?_; try with_reducible exact True.intro) | ((with_reducible refine And.intro ?_ ?_); focus (first | omega | rfl | decide | (simp; done)))))
    refine zjP (by omega) (by simp; omega) ?_
    (repeat' (first | (refine gq41 (gqc1 hd hgx) ?_; try with_reducible exact True.intro) | ((with_reducible refine And.intro ?_ ?_); focus (first | omega | rfl | decide | (simp; done)))))
    refine c_PutSign (by simp only [putB, List.length_append] at hpl ⊢; omega) ?_
    (repeat' (first | (refine gq40 (wk1 k (by omega)) ?_; try with_reducible exact True.intro) | ((with_reducible refine And.intro ?_ ?_); focus (first | omega | rfl | decide | (simp; done)))))
    refine Again.next hlt ⟨⟨_, by rw [← hS, List.append_assoc]⟩, ?_⟩
    rw [zku hx]
    simp [oneB, putB, zaR, zcm, hxm.1, hxm.2]
  · have hd : decide ((k : Int) < (l.length : Int)) = false := by simp; omega
    rw [List.take_of_length_le (by omega)]
    (repeat' (first | (refine gq40 hd ?_; try with_reducible exact True.intro) | ((with_reducible refine And.intro ?_ ?_); focus (first | omega | rfl | decide | (simp; done)))))
    (first | refine zg (by simp [Low_d, dmT, dm, dm1, pack, zd, ze, zb]) hl ?_ | refine zf (by simp [Low_d, dmT, dm, dm1, pack, zd, ze, zb]) hl ?_)
    exact hK
theorem c_PutBatch {σ : List AObj} {b : List UInt8} {l : List zk} (hb : b.length ≤ 268435456) (hs : ∀ x ∈ l, opSz x.op ≤ 20971520) (hl0 : l.length ≤ 1073741824) {K : AV → List AObj → Prop} (hK : K (.d (.slice (bcs (b ++ zaN l)))) σ) :
    ACall Tryz.prog zcq [.d (.slice (bcs b)), .d (.slice (zaO l))] σ K := by
  refine zo zhd rfl fun hl _ => zii ?_
  have hok : okB l := ⟨hl0, fun x hx => sizes (hs x hx)⟩
  simp only [zeq]
  (repeat' (first | (refine gq39 ?_; try with_reducible exact True.intro) | ((with_reducible refine And.intro ?_ ?_); focus (first | omega | rfl | decide | (simp; done)))))
  refine zkt hok ?_
  by_cases hc : zA l = 0
  · have hq : (zA l != 0) = false := by simpa using hc
    rw [zaN, if_pos hc] at hK
    (repeat' (first | (refine gq40 hq ?_; try with_reducible exact True.intro) | ((with_reducible refine And.intro ?_ ?_); focus (first | omega | rfl | decide | (simp; done)))))
    refine c_partsPut hb hs hc ?_
    (repeat' (first | (refine gq39 ?_; try with_reducible exact True.intro) | ((with_reducible refine And.intro ?_ ?_); focus (first | omega | rfl | decide | (simp; done)))))
    (first | refine zg (by simp [Low_d, dmT, dm, dm1, pack, zd, ze, zb]) hl ?_ | refine zf (by simp [Low_d, dmT, dm, dm1, pack, zd, ze, zb]) hl ?_)
    exact hK
  · have hq : (zA l != 0) = true := by simpa using hc
    rw [zaN, if_neg hc, List.append_nil] at hK
    (repeat' (first | (refine gq40 hq ?_; try with_reducible exact True.intro) | ((with_reducible refine And.intro ?_ ?_); focus (first | omega | rfl | decide | (simp; done)))))
    refine zbM zcS (by rw [zbj]; omega) ?_
    (repeat' (first | (refine gq39 ?_; try with_reducible exact True.intro) | ((with_reducible refine And.intro ?_ ?_); focus (first | omega | rfl | decide | (simp; done)))))
    (first | refine zg (by simp [Low_d, dmT, dm, dm1, pack, zd, ze, zb]) hl ?_ | refine zf (by simp [Low_d, dmT, dm, dm1, pack, zd, ze, zb]) hl ?_)
    exact hK
theorem zlT {σ : List AObj} {b : List UInt8} {l : List zk} (hb : b.length ≤ 268435456) (hs : ∀ x ∈ l, opSz x.op ≤ 20971520) (hl0 : l.length ≤ 1073741824) {K : AV → List AObj → Prop} (hK : K (.d (.slice (bcs (b ++ zaN l)))) σ) :
    ACall Tryz.prog zda [.d (.slice (bcs b)), .d (.slice (zaO l))] σ K := by
  refine zo zkQ rfl fun hl _ => zmu ?_
  have hok : okB l := ⟨hl0, fun x hx => sizes (hs x hx)⟩
  simp only [zho]
  (repeat' (first | (refine gq39 ?_; try with_reducible exact True.intro) | ((with_reducible refine And.intro ?_ ?_); focus (first | omega | rfl | decide | (simp; done)))))
  refine zfs hok ?_
  by_cases hc : zA l = 0
  · have hq : (zA l != 0) = false := by simpa using hc
    obtain ⟨h4, hm, _⟩ := zld hc
    have n1 := zS (n := l.length) (by omega)
    have w1 : IntKind.u64.wrap (l.length : Int) = (l.length : Int) := zbf (by omega)
    rw [zaN, if_pos hc] at hK
    (repeat' (first | (refine gq40 (gqc1 hq w1) ?_; try with_reducible exact True.intro) | ((with_reducible refine And.intro ?_ ?_); focus (first | omega | rfl | decide | (simp; done)))))
    refine zcz (by omega) (by omega) ?_
    (repeat' (first | (refine gq39 ?_; try with_reducible exact True.intro) | ((with_reducible refine And.intro ?_ ?_); focus (first | omega | rfl | decide | (simp; done)))))
    refine zaP l.length (fun k vs s => (∃ T, s = σ ++ T) ∧ vs = [.d (.slice (bcs (b ++ (numB l.length ++ zdj (l.take k))))), .d (.int .i64 k)])
      (.data 0 _ _ rfl rfl (.refl _ _)) ⟨⟨_, rfl⟩, by simp [zdj]⟩ ?_
    rintro k vs s hk ⟨⟨T, rfl⟩, rfl⟩
    by_cases hlt : k < l.length
    · have hd : decide ((k : Int) < (l.length : Int)) = true := by simp; omega
      have hx : l[k]? = some l[k] := by simp [hlt]
      have hgx := zas (f := zaJ) hx
      have hxs := hs _ (List.getElem_mem hlt)
      have hxm := hm _ (List.getElem_mem hlt)
      obtain ⟨x, hxe⟩ : ∃ x, l[k] = x := ⟨_, rfl⟩
      rw [hxe] at hx hgx hxs hxm
      have hbl := zhT hs hc k
      have hrl := zkn hxs
      have hpl := zej (x := zaR x) (by omega)
      obtain ⟨S, hS⟩ : ∃ S, σ ++ T = S := ⟨_, rfl⟩
      rw [hS]
      (repeat' (first | (refine gq41 (gqc1 hd hgx) ?_; try with_reducible exact True.intro) | ((with_reducible refine And.intro ?_ ?_); focus (first | omega | rfl | decide | (simp; done)))))
      refine zjN (x := x) hxs ?_
      (repeat' (first | (refine gq41 (gqc1 hd hgx) ?_; try with_reducible exact True.intro) | ((with_reducible refine And.intro ?_ ?_); focus (first | omega | rfl | decide | (simp; done)))))
      refine zhR (by omega) (by simp; omega) ?_
      (repeat' (first | (refine gq41 (gqc1 hd hgx) ?_; try with_reducible exact True.intro) | ((with_reducible refine And.intro ?_ ?_); focus (first | omega | rfl | decide | (simp; done)))))
      refine c_rPutSign (by simp only [putB, List.length_append] at hpl ⊢; omega) ?_
      (repeat' (first | (refine gq40 (wk1 k (by omega)) ?_; try with_reducible exact True.intro) | ((with_reducible refine And.intro ?_ ?_); focus (first | omega | rfl | decide | (simp; done)))))
      refine Again.next hlt ⟨⟨_, by rw [← hS, List.append_assoc]⟩, ?_⟩
      rw [zku hx]
      simp [oneB, putB, zaR, zcm, hxm.1, hxm.2]
    · have hd : decide ((k : Int) < (l.length : Int)) = false := by simp; omega
      rw [List.take_of_length_le (by omega)]
      (repeat' (first | (refine gq40 hd ?_; try with_reducible exact True.intro) | ((with_reducible refine And.intro ?_ ?_); focus (first | omega | rfl | decide | (simp; done)))))
      (first | refine zg (by simp [Low_d, dmT, dm, dm1, pack, zd, ze, zb]) hl ?_ | refine zf (by simp [Low_d, dmT, dm, dm1, pack, zd, ze, zb]) hl ?_)
      exact hK
  · have hq : (zA l != 0) = true := by simpa using hc
    rw [zaN, if_neg hc, List.append_nil] at hK
    (repeat' (first | (refine gq40 hq ?_; try with_reducible exact True.intro) | ((with_reducible refine And.intro ?_ ?_); focus (first | omega | rfl | decide | (simp; done)))))
    (first | refine zg (by simp [Low_d, dmT, dm, dm1, pack, zd, ze, zb]) hl ?_ | refine zf (by simp [Low_d, dmT, dm, dm1, pack, zd, ze, zb]) hl ?_)
    exact hK
end Go.Proofs.YtcappjcojggehaaGreat
