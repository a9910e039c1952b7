/- Contracts: the bytes of requests, signatures and batches. -/
import Derived.Test.YtcappjcojggehaaGreatOp2
import Derived.Test.YtcappjcojggehaaGreatRc2
import Derived.Test.YtcappjcojggehaaGreatSpRd
set_option linter.all false
set_option maxRecDepth 100000
set_option linter.unusedSimpArgs false
set_option linter.unusedVariables false
namespace Go.Proofs.YtcappjcojggehaaGreat
open Go.AW

def znf (c : Int) : Int := if c < 0 ∨ c ≥ 8 then -1 else 13 + c
theorem c_rqKey {σ : List zb} {c : Int} {K : AV → List zb → Prop} (hK : K (.d (.int .i64 (znf c))) σ) : zN Tryz.prog zgl [.d (.int .i64 c)] σ K := by
  refine zk zjd.is rfl fun hl _ => zjd.goes ?_
  simp only [zjt, iN, bT, bF, eN]
  (repeat' (first | (refine zkv ?_; try with_reducible exact True.intro) | (refine zZ (fun h => ?_) (fun h => ?_) <;> (try rw [h])) | ((with_reducible refine And.intro ?_ ?_); focus (first | omega | rfl | decide))))
  all_goals (
    (first | refine zar hl ?_ | refine zaq hl ?_)
    (try simp only [decide_eq_true_eq, decide_eq_false_iff_not, beq_iff_eq, beq_eq_false_iff_ne, bne_iff_ne, ne_eq, Bool.not_eq_true', Bool.not_eq_false', bne_eq_false_iff_eq] at *)
    unfold znf at hK)
  · rw [if_pos (by omega)] at hK; exact hK
  · rw [if_pos (by omega)] at hK; exact hK
  · rw [if_neg (by omega)] at hK; rw [zaj (by omega) (by omega)]; exact hK
theorem sizes {x : zd} (h : zfz x.op ≤ 20971520) : okO x.op := by
  have h0 := h
  unfold zfz at h
  refine ⟨by omega, by omega, ?_, fun r hr => ?_⟩
  · have := zgk x.op.recs; omega
  · have := rec_le hr; omega
theorem c_rqBytes {σ : List zb} {x : zd} (hx : zfz x.op ≤ 20971520) {K : AV → List zb → Prop} (hK : K (.tup [.d (.slice (bcs (zbG x))), .d (.int .i64 (zI x))]) σ) : zN Tryz.prog zdp [reqA x] σ K := by
  refine zk zhx.is rfl fun hl _ => zhx.goes ?_
  have hsz := sizes hx
  simp only [zhI, iN, bT, bF, eN, reqA]
  (repeat' first | refine zmI ?_ | with_reducible first | exact ⟨⟩ | refine zA ?_ | fail)
  refine c_rqCheck (x := x) hsz ?_
  by_cases hc : zI x = 0
  · obtain ⟨c0, c8, t1, t2, ho⟩ := req_ok hc
    have hb : (zI x != 0) = false := by simpa using hc
    have n1 := zX (n := x.client.toNat) (by omega)
    have n2 := zX (n := x.time.toNat) (by omega)
    have w1 : IntKind.u64.wrap x.client = ((x.client.toNat : Nat) : Int) := by
      rw [show x.client = ((x.client.toNat : Nat) : Int) by omega, zbV (by omega)]; rfl
    have w2 : IntKind.u64.wrap x.time = ((x.time.toNat : Nat) : Int) := by
      rw [show x.time = ((x.time.toNat : Nat) : Int) by omega, zbV (by omega)]; rfl
    rw [hc, zbG, if_pos hc] at hK
    (repeat' first | refine zff (zcl hb (zcl w1 w2)) ?_ | with_reducible first | exact ⟨⟩ | refine zA ?_ | fail)
    refine zdN (b := []) (by omega) (by simp) ?_
    (repeat' first | refine zff (zcl w1 w2) ?_ | with_reducible first | exact ⟨⟩ | refine zA ?_ | fail)
    refine zdN (by omega) (by first | omega | (simp; omega)) ?_
    (repeat' first | refine zff (zcl w1 w2) ?_ | with_reducible first | exact ⟨⟩ | refine zA ?_ | fail)
    refine c_Put (o := x.op) (by first | omega | (simp; omega)) (by omega) ?_
    (repeat' first | refine zmI ?_ | with_reducible first | exact ⟨⟩ | refine zA ?_ | fail)
    (first | refine zar hl ?_ | refine zaq hl ?_)
    rw [if_pos ho]
    exact hK
  · have hb : (zI x != 0) = true := by simpa using hc
    rw [zbG, if_neg hc] at hK
    (repeat' first | refine zff hb ?_ | with_reducible first | exact ⟨⟩ | refine zA ?_ | fail)
    (first | refine zar hl ?_ | refine zaq hl ?_)
    exact hK
theorem znF {σ : List zb} {x : zd} (hx : zfz x.op ≤ 20971520) {K : AV → List zb → Prop} (hK : K (.tup [.d (.slice (bcs (zbG x))), .d (.int .i64 (zI x))]) σ) : zN Tryz.prog zgq [reqA x] σ K := by
  refine zk zlV.is rfl fun hl _ => zlV.goes ?_
  have hsz := sizes hx
  simp only [zmq, iN, bT, bF, eN, reqA]
  (repeat' first | refine zmI ?_ | with_reducible first | exact ⟨⟩ | refine zA ?_ | fail)
  refine znE (x := x) hsz ?_
  by_cases hc : zI x = 0
  · obtain ⟨c0, c8, t1, t2, ho⟩ := req_ok hc
    have hb : (zI x != 0) = false := by simpa using hc
    have n1 := zX (n := x.client.toNat) (by omega)
    have n2 := zX (n := x.time.toNat) (by omega)
    have w1 : IntKind.u64.wrap x.client = ((x.client.toNat : Nat) : Int) := by
      rw [show x.client = ((x.client.toNat : Nat) : Int) by omega, zbV (by omega)]; rfl
    have w2 : IntKind.u64.wrap x.time = ((x.time.toNat : Nat) : Int) := by
      rw [show x.time = ((x.time.toNat : Nat) : Int) by omega, zbV (by omega)]; rfl
    rw [hc, zbG, if_pos hc] at hK
    (repeat' first | refine zff (zcl hb (zcl w1 w2)) ?_ | with_reducible first | exact ⟨⟩ | refine zA ?_ | fail)
    refine zdv (b := []) (by omega) (by simp) ?_
    (repeat' first | refine zff (zcl w1 w2) ?_ | with_reducible first | exact ⟨⟩ | refine zA ?_ | fail)
    refine zdv (by omega) (by first | omega | (simp; omega)) ?_
    (repeat' first | refine zff (zcl w1 w2) ?_ | with_reducible first | exact ⟨⟩ | refine zA ?_ | fail)
    refine c_rPut (o := x.op) (by first | omega | (simp; omega)) (by omega) ?_
    (repeat' first | refine zmI ?_ | with_reducible first | exact ⟨⟩ | refine zA ?_ | fail)
    (first | refine zar hl ?_ | refine zaq hl ?_)
    rw [if_pos ho]
    exact hK
  · have hb : (zI x != 0) = true := by simpa using hc
    rw [zbG, if_neg hc] at hK
    (repeat' first | refine zff hb ?_ | with_reducible first | exact ⟨⟩ | refine zA ?_ | fail)
    (first | refine zar hl ?_ | refine zaq hl ?_)
    exact hK
theorem c_PutSign {σ : List zb} {b : List UInt8} {k d : Int} (hb : b.length ≤ 1073741700) {K : AV → List zb → Prop} (hK : K (.d (.slice (bcs (b ++ zdh k d)))) σ) :
    zN Tryz.prog zdG [.d (.slice (bcs b)), .agg [.d (.int .i64 k), .d (.int .i64 d)]] σ K := by
  refine zk zfO.is rfl fun hl _ => zfO.goes ?_
  simp only [zfZ, iN, bT, bF, eN]
  (repeat' first | refine zmI ?_ | with_reducible first | exact ⟨⟩ | refine zA ?_ | fail)
  refine zjk ?_
  by_cases hc : zal k d = 0
  · obtain ⟨k0, k1, d0, d1⟩ := sign_ok hc
    have hq : (zal k d != 0) = false := by simpa using hc
    have n1 := zX (n := k.toNat) (by omega)
    have w1 : IntKind.u64.wrap k = ((k.toNat : Nat) : Int) := by
      rw [show k = ((k.toNat : Nat) : Int) by omega, zbV (by omega)]; rfl
    have w2 : IntKind.u64.wrap d = ((d.toNat : Nat) : Int) := by
      rw [show d = ((d.toNat : Nat) : Int) by omega, zbV (by omega)]; rfl
    rw [zdh, if_pos hc] at hK
    (repeat' first | refine zff (zcl hq (zcl w1 w2)) ?_ | with_reducible first | exact ⟨⟩ | refine zA ?_ | fail)
    refine zdN (by omega) (by omega) ?_
    (repeat' first | refine zff (zcl w1 w2) ?_ | with_reducible first | exact ⟨⟩ | refine zA ?_ | fail)
    refine zdN (by omega) (by first | omega | (simp; omega)) ?_
    (repeat' first | refine zmI ?_ | with_reducible first | exact ⟨⟩ | refine zA ?_ | fail)
    (first | refine zar hl ?_ | refine zaq hl ?_)
    exact hK
  · have hq : (zal k d != 0) = true := by simpa using hc
    rw [zdh, if_neg hc, List.append_nil] at hK
    (repeat' first | refine zff hq ?_ | with_reducible first | exact ⟨⟩ | refine zA ?_ | fail)
    refine zcP zdK (by rw [zbY]; omega) ?_
    (repeat' first | refine zmI ?_ | with_reducible first | exact ⟨⟩ | refine zA ?_ | fail)
    (first | refine zar hl ?_ | refine zaq hl ?_)
    exact hK
theorem c_rPutSign {σ : List zb} {b : List UInt8} {k d : Int} (hb : b.length ≤ 1073741700) {K : AV → List zb → Prop} (hK : K (.d (.slice (bcs (b ++ zdh k d)))) σ) :
    zN Tryz.prog zgo [.d (.slice (bcs b)), .agg [.d (.int .i64 k), .d (.int .i64 d)]] σ K := by
  refine zk zjf.is rfl fun hl _ => zjf.goes ?_
  simp only [zjv, iN, bT, bF, eN]
  (repeat' first | refine zmI ?_ | with_reducible first | exact ⟨⟩ | refine zA ?_ | fail)
  refine zil ?_
  by_cases hc : zal k d = 0
  · obtain ⟨k0, k1, d0, d1⟩ := sign_ok hc
    have hq : (zal k d != 0) = false := by simpa using hc
    have n1 := zX (n := k.toNat) (by omega)
    have w1 : IntKind.u64.wrap k = ((k.toNat : Nat) : Int) := by
      rw [show k = ((k.toNat : Nat) : Int) by omega, zbV (by omega)]; rfl
    have w2 : IntKind.u64.wrap d = ((d.toNat : Nat) : Int) := by
      rw [show d = ((d.toNat : Nat) : Int) by omega, zbV (by omega)]; rfl
    rw [zdh, if_pos hc] at hK
    (repeat' first | refine zff (zcl hq (zcl w1 w2)) ?_ | with_reducible first | exact ⟨⟩ | refine zA ?_ | fail)
    refine zdv (by omega) (by omega) ?_
    (repeat' first | refine zff (zcl w1 w2) ?_ | with_reducible first | exact ⟨⟩ | refine zA ?_ | fail)
    refine zdv (by omega) (by first | omega | (simp; omega)) ?_
    (repeat' first | refine zmI ?_ | with_reducible first | exact ⟨⟩ | refine zA ?_ | fail)
    (first | refine zar hl ?_ | refine zaq hl ?_)
    exact hK
  · have hq : (zal k d != 0) = true := by simpa using hc
    rw [zdh, if_neg hc, List.append_nil] at hK
    (repeat' first | refine zff hq ?_ | with_reducible first | exact ⟨⟩ | refine zA ?_ | fail)
    (first | refine zar hl ?_ | refine zaq hl ?_)
    exact hK
theorem c_partsPut {σ : List zb} {b : List UInt8} {l : List zd} (hb : b.length ≤ 268435456) (hs : ∀ x ∈ l, zfz x.op ≤ 20971520) (hc : zD l = 0) {K : AV → List zb → Prop} (hK : K (.d (.slice (bcs (b ++ zei l)))) σ) :
    zN Tryz.prog zde [.d (.slice (zbs l)), .d (.slice (bcs b))] σ K := by
  refine zk zeC.is rfl fun hl _ => zeC.goes ?_
  obtain ⟨h4, hm, _⟩ := zlf hc
  have n1 := zX (n := l.length) (by omega)
  have w1 : IntKind.u64.wrap (l.length : Int) = (l.length : Int) := zbV (by omega)
  simp only [zeL, iN, bT, bF, eN]
  (repeat' first | refine zff w1 ?_ | with_reducible first | exact ⟨⟩ | refine zA ?_ | fail)
  refine zdN (by omega) (by omega) ?_
  (repeat' first | refine zmI ?_ | with_reducible first | exact ⟨⟩ | refine zA ?_ | fail)
  refine zaW l.length (fun k vs s => (∃ T, s = σ ++ T) ∧ vs = [.d (.slice (bcs (b ++ (zct l.length ++ zeb (l.take k))))), .d (.int .i64 k)])
    (.data 0 _ _ rfl rfl (.refl _ _)) ⟨⟨_, rfl⟩, by simp [zeb]⟩ ?_
  rintro k vs s hk ⟨⟨T, rfl⟩, rfl⟩
  by_cases hlt : k < l.length
  · have hd : decide ((k : Int) < (l.length : Int)) = true := by simp; omega
    have hx : l[k]? = some l[k] := by simp [hlt]
    have hgx := zaT (f := zbr) hx
    have hxs := hs _ (List.getElem_mem hlt)
    have hxm := hm _ (List.getElem_mem hlt)
    obtain ⟨x, hxe⟩ : ∃ x, l[k] = x := ⟨_, rfl⟩
    rw [hxe] at hx hgx hxs hxm
    have hbl := ziH hs hc k
    have hrl := zks hxs
    have hpl := zfi (x := zbG x) (by omega)
    obtain ⟨S, hS⟩ : ∃ S, σ ++ T = S := ⟨_, rfl⟩
    rw [hS]
    (repeat' first | refine gq41 (zcl hd hgx) ?_ | with_reducible first | exact ⟨⟩ | refine zA ?_ | fail)
    refine c_rqBytes (x := x) hxs ?_
    (repeat' first | refine gq41 (zcl hd hgx) ?_ | with_reducible first | exact ⟨⟩ | refine zA ?_ | fail)
    refine zkh (by omega) (by simp; omega) ?_
    (repeat' first | refine gq41 (zcl hd hgx) ?_ | with_reducible first | exact ⟨⟩ | refine zA ?_ | fail)
    refine c_PutSign (by simp only [zls, List.length_append] at hpl ⊢; omega) ?_
    (repeat' first | refine zff (wk1 k (by omega)) ?_ | with_reducible first | exact ⟨⟩ | refine zA ?_ | fail)
    refine zaR.next hlt ⟨⟨_, by rw [← hS, List.append_assoc]⟩, ?_⟩
    rw [zkI hx]
    simp [oneB, zls, zbG, zdh, hxm.1, hxm.2]
  · have hd : decide ((k : Int) < (l.length : Int)) = false := by simp; omega
    rw [List.take_of_length_le (by omega)]
    (repeat' first | refine zff hd ?_ | with_reducible first | exact ⟨⟩ | refine zA ?_ | fail)
    (first | refine zar hl ?_ | refine zaq hl ?_)
    exact hK
theorem c_PutBatch {σ : List zb} {b : List UInt8} {l : List zd} (hb : b.length ≤ 268435456) (hs : ∀ x ∈ l, zfz x.op ≤ 20971520) (hl0 : l.length ≤ 1073741824) {K : AV → List zb → Prop} (hK : K (.d (.slice (bcs (b ++ zbz l)))) σ) :
    zN Tryz.prog zdn [.d (.slice (bcs b)), .d (.slice (zbs l))] σ K := by
  refine zk zfn.is rfl fun hl _ => zfn.goes ?_
  have hok : okB l := ⟨hl0, fun x hx => sizes (hs x hx)⟩
  simp only [zfr, iN, bT, bF, eN]
  (repeat' first | refine zmI ?_ | with_reducible first | exact ⟨⟩ | refine zA ?_ | fail)
  refine zkG hok ?_
  by_cases hc : zD l = 0
  · have hq : (zD l != 0) = false := by simpa using hc
    rw [zbz, if_pos hc] at hK
    (repeat' first | refine zff hq ?_ | with_reducible first | exact ⟨⟩ | refine zA ?_ | fail)
    refine c_partsPut hb hs hc ?_
    (repeat' first | refine zmI ?_ | with_reducible first | exact ⟨⟩ | refine zA ?_ | fail)
    (first | refine zar hl ?_ | refine zaq hl ?_)
    exact hK
  · have hq : (zD l != 0) = true := by simpa using hc
    rw [zbz, if_neg hc, List.append_nil] at hK
    (repeat' first | refine zff hq ?_ | with_reducible first | exact ⟨⟩ | refine zA ?_ | fail)
    refine zcP zdK (by rw [zbY]; omega) ?_
    (repeat' first | refine zmI ?_ | with_reducible first | exact ⟨⟩ | refine zA ?_ | fail)
    (first | refine zar hl ?_ | refine zaq hl ?_)
    exact hK
theorem c_rPutBatch {σ : List zb} {b : List UInt8} {l : List zd} (hb : b.length ≤ 268435456) (hs : ∀ x ∈ l, zfz x.op ≤ 20971520) (hl0 : l.length ≤ 1073741824) {K : AV → List zb → Prop} (hK : K (.d (.slice (bcs (b ++ zbz l)))) σ) :
    zN Tryz.prog zfv [.d (.slice (bcs b)), .d (.slice (zbs l))] σ K := by
  refine zk zif.is rfl fun hl _ => zif.goes ?_
  have hok : okB l := ⟨hl0, fun x hx => sizes (hs x hx)⟩
  simp only [ziq, iN, bT, bF, eN]
  (repeat' first | refine zmI ?_ | with_reducible first | exact ⟨⟩ | refine zA ?_ | fail)
  refine zjl hok ?_
  by_cases hc : zD l = 0
  · have hq : (zD l != 0) = false := by simpa using hc
    obtain ⟨h4, hm, _⟩ := zlf hc
    have n1 := zX (n := l.length) (by omega)
    have w1 : IntKind.u64.wrap (l.length : Int) = (l.length : Int) := zbV (by omega)
    rw [zbz, if_pos hc] at hK
    (repeat' first | refine zff (zcl hq w1) ?_ | with_reducible first | exact ⟨⟩ | refine zA ?_ | fail)
    refine zdv (by omega) (by omega) ?_
    (repeat' first | refine zmI ?_ | with_reducible first | exact ⟨⟩ | refine zA ?_ | fail)
    refine zaW l.length (fun k vs s => (∃ T, s = σ ++ T) ∧ vs = [.d (.slice (bcs (b ++ (zct l.length ++ zeb (l.take k))))), .d (.int .i64 k)])
      (.data 0 _ _ rfl rfl (.refl _ _)) ⟨⟨_, rfl⟩, by simp [zeb]⟩ ?_
    rintro k vs s hk ⟨⟨T, rfl⟩, rfl⟩
    by_cases hlt : k < l.length
    · have hd : decide ((k : Int) < (l.length : Int)) = true := by simp; omega
      have hx : l[k]? = some l[k] := by simp [hlt]
      have hgx := zaT (f := zbr) hx
      have hxs := hs _ (List.getElem_mem hlt)
      have hxm := hm _ (List.getElem_mem hlt)
      obtain ⟨x, hxe⟩ : ∃ x, l[k] = x := ⟨_, rfl⟩
      rw [hxe] at hx hgx hxs hxm
      have hbl := ziH hs hc k
      have hrl := zks hxs
      have hpl := zfi (x := zbG x) (by omega)
      obtain ⟨S, hS⟩ : ∃ S, σ ++ T = S := ⟨_, rfl⟩
      rw [hS]
      (repeat' first | refine gq41 (zcl hd hgx) ?_ | with_reducible first | exact ⟨⟩ | refine zA ?_ | fail)
      refine znF (x := x) hxs ?_
      (repeat' first | refine gq41 (zcl hd hgx) ?_ | with_reducible first | exact ⟨⟩ | refine zA ?_ | fail)
      refine ziF (by omega) (by simp; omega) ?_
      (repeat' first | refine gq41 (zcl hd hgx) ?_ | with_reducible first | exact ⟨⟩ | refine zA ?_ | fail)
      refine c_rPutSign (by simp only [zls, List.length_append] at hpl ⊢; omega) ?_
      (repeat' first | refine zff (wk1 k (by omega)) ?_ | with_reducible first | exact ⟨⟩ | refine zA ?_ | fail)
      refine zaR.next hlt ⟨⟨_, by rw [← hS, List.append_assoc]⟩, ?_⟩
      rw [zkI hx]
      simp [oneB, zls, zbG, zdh, hxm.1, hxm.2]
    · have hd : decide ((k : Int) < (l.length : Int)) = false := by simp; omega
      rw [List.take_of_length_le (by omega)]
      (repeat' first | refine zff hd ?_ | with_reducible first | exact ⟨⟩ | refine zA ?_ | fail)
      (first | refine zar hl ?_ | refine zaq hl ?_)
      exact hK
  · have hq : (zD l != 0) = true := by simpa using hc
    rw [zbz, if_neg hc, List.append_nil] at hK
    (repeat' first | refine zff hq ?_ | with_reducible first | exact ⟨⟩ | refine zA ?_ | fail)
    (first | refine zar hl ?_ | refine zaq hl ?_)
    exact hK
end Go.Proofs.YtcappjcojggehaaGreat
