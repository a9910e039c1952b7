/- Contracts: the bytes of requests, signatures and batches. -/
import Derived.Test.YtcappjcojggehaaGreatOp2
import Derived.Test.YtcappjcojggehaaGreatRc2
import Derived.Test.YtcappjcojggehaaGreatSpRd
set_option linter.all false
set_option maxRecDepth 100000
set_option linter.unusedSimpArgs false
set_option linter.unusedVariables false
namespace Go.Proofs.YtcappjcojggehaaGreat
open Go.AW

def znu (c : Int) : Int := if c < 0 ∨ c ≥ 8 then -1 else 13 + c
theorem c_rqKey {σ : List zb} {c : Int} {K : AV → List zb → Prop} (hK : K (.d (.int .i64 (znu c))) σ) : zK Tryz.prog zgr [.d (.int .i64 c)] σ K := by
  refine zi zjr.is rfl fun hl _ => zjr.goes ?_
  simp only [zjK, iN, bT, bF, eN]
  (repeat' (first | (refine zkO ?_; try with_reducible exact True.intro) | (refine zW (fun h => ?_) (fun h => ?_) <;> (try rw [h])) | ((with_reducible refine And.intro ?_ ?_); focus (first | omega | rfl | decide))))
  all_goals (
    (first | refine zai hl ?_ | refine zah hl ?_)
    (try simp only [decide_eq_true_eq, decide_eq_false_iff_not, beq_iff_eq, beq_eq_false_iff_ne, bne_iff_ne, ne_eq, Bool.not_eq_true', Bool.not_eq_false', bne_eq_false_iff_eq] at *)
    unfold znu at hK)
  · rw [if_pos (by omega)] at hK; exact hK
  · rw [if_pos (by omega)] at hK; exact hK
  · rw [if_neg (by omega)] at hK; rw [zak (by omega) (by omega)]; exact hK
theorem zom {x : zf} (h : zfi x.op ≤ 20971520) : okO x.op := by
  have h0 := h
  unfold zfi at h
  refine ⟨by omega, by omega, ?_, fun r hr => ?_⟩
  · have := zgq x.op.recs; omega
  · have := rec_le hr; omega
theorem c_rqBytes {σ : List zb} {x : zf} (hx : zfi x.op ≤ 20971520) {K : AV → List zb → Prop} (hK : K (.tup [.d (.slice (bcs (zbx x))), .d (.int .i64 (zG x))]) σ) : zK Tryz.prog zdp [reqA x] σ K := by
  refine zi zhJ.is rfl fun hl _ => zhJ.goes ?_
  have hsz := zom hx
  simp only [zhW, iN, bT, bF, eN, reqA]
  (repeat' first | refine zmY ?_ | with_reducible first | exact ⟨⟩ | refine zn ?_ | fail)
  refine c_rqCheck (x := x) hsz ?_
  by_cases hc : zG x = 0
  · obtain ⟨c0, c8, t1, t2, ho⟩ := req_ok hc
    have hb : (zG x != 0) = false := by simpa using hc
    have n1 := zV (n := x.client.toNat) (by omega)
    have n2 := zV (n := x.time.toNat) (by omega)
    have w1 : IntKind.u64.wrap x.client = ((x.client.toNat : Nat) : Int) := by
      rw [show x.client = ((x.client.toNat : Nat) : Int) by omega, zbT (by omega)]; rfl
    have w2 : IntKind.u64.wrap x.time = ((x.time.toNat : Nat) : Int) := by
      rw [show x.time = ((x.time.toNat : Nat) : Int) by omega, zbT (by omega)]; rfl
    rw [hc, zbx, if_pos hc] at hK
    (repeat' first | refine zfd (zck hb (zck w1 w2)) ?_ | with_reducible first | exact ⟨⟩ | refine zn ?_ | fail)
    refine zdX (b := []) (by omega) (by simp) ?_
    (repeat' first | refine zfd (zck w1 w2) ?_ | with_reducible first | exact ⟨⟩ | refine zn ?_ | fail)
    refine zdX (by omega) (by first | omega | (simp; omega)) ?_
    (repeat' first | refine zfd (zck w1 w2) ?_ | with_reducible first | exact ⟨⟩ | refine zn ?_ | fail)
    refine c_Put (o := x.op) (by first | omega | (simp; omega)) (by omega) ?_
    (repeat' first | refine zmY ?_ | with_reducible first | exact ⟨⟩ | refine zn ?_ | fail)
    (first | refine zai hl ?_ | refine zah hl ?_)
    rw [if_pos ho]
    exact hK
  · have hb : (zG x != 0) = true := by simpa using hc
    rw [zbx, if_neg hc] at hK
    (repeat' first | refine zfd hb ?_ | with_reducible first | exact ⟨⟩ | refine zn ?_ | fail)
    (first | refine zai hl ?_ | refine zah hl ?_)
    exact hK
theorem zkx {σ : List zb} {x : zf} (hx : zfi x.op ≤ 20971520) {K : AV → List zb → Prop} (hK : K (.tup [.d (.slice (bcs (zbx x))), .d (.int .i64 (zG x))]) σ) : zK Tryz.prog zeF [reqA x] σ K := by
  refine zi zmg.is rfl fun hl _ => zmg.goes ?_
  have hsz := zom hx
  simp only [zmG, iN, bT, bF, eN, reqA]
  (repeat' first | refine zmY ?_ | with_reducible first | exact ⟨⟩ | refine zn ?_ | fail)
  refine znP (x := x) hsz ?_
  by_cases hc : zG x = 0
  · obtain ⟨c0, c8, t1, t2, ho⟩ := req_ok hc
    have hb : (zG x != 0) = false := by simpa using hc
    have n1 := zV (n := x.client.toNat) (by omega)
    have n2 := zV (n := x.time.toNat) (by omega)
    have w1 : IntKind.u64.wrap x.client = ((x.client.toNat : Nat) : Int) := by
      rw [show x.client = ((x.client.toNat : Nat) : Int) by omega, zbT (by omega)]; rfl
    have w2 : IntKind.u64.wrap x.time = ((x.time.toNat : Nat) : Int) := by
      rw [show x.time = ((x.time.toNat : Nat) : Int) by omega, zbT (by omega)]; rfl
    rw [hc, zbx, if_pos hc] at hK
    (repeat' first | refine zfd (zck hb (zck w1 w2)) ?_ | with_reducible first | exact ⟨⟩ | refine zn ?_ | fail)
    refine zdx (b := []) (by omega) (by simp) ?_
    (repeat' first | refine zfd (zck w1 w2) ?_ | with_reducible first | exact ⟨⟩ | refine zn ?_ | fail)
    refine zdx (by omega) (by first | omega | (simp; omega)) ?_
    (repeat' first | refine zfd (zck w1 w2) ?_ | with_reducible first | exact ⟨⟩ | refine zn ?_ | fail)
    refine c_rPut (o := x.op) (by first | omega | (simp; omega)) (by omega) ?_
    (repeat' first | refine zmY ?_ | with_reducible first | exact ⟨⟩ | refine zn ?_ | fail)
    (first | refine zai hl ?_ | refine zah hl ?_)
    rw [if_pos ho]
    exact hK
  · have hb : (zG x != 0) = true := by simpa using hc
    rw [zbx, if_neg hc] at hK
    (repeat' first | refine zfd hb ?_ | with_reducible first | exact ⟨⟩ | refine zn ?_ | fail)
    (first | refine zai hl ?_ | refine zah hl ?_)
    exact hK
theorem c_PutSign {σ : List zb} {b : List UInt8} {k d : Int} (hb : b.length ≤ 1073741700) {K : AV → List zb → Prop} (hK : K (.d (.slice (bcs (b ++ zdh k d)))) σ) :
    zK Tryz.prog zdP [.d (.slice (bcs b)), .agg [.d (.int .i64 k), .d (.int .i64 d)]] σ K := by
  refine zi zfX.is rfl fun hl _ => zfX.goes ?_
  simp only [zgh, iN, bT, bF, eN]
  (repeat' first | refine zmY ?_ | with_reducible first | exact ⟨⟩ | refine zn ?_ | fail)
  refine zjz ?_
  by_cases hc : zan k d = 0
  · obtain ⟨k0, k1, d0, d1⟩ := sign_ok hc
    have hq : (zan k d != 0) = false := by simpa using hc
    have n1 := zV (n := k.toNat) (by omega)
    have w1 : IntKind.u64.wrap k = ((k.toNat : Nat) : Int) := by
      rw [show k = ((k.toNat : Nat) : Int) by omega, zbT (by omega)]; rfl
    have w2 : IntKind.u64.wrap d = ((d.toNat : Nat) : Int) := by
      rw [show d = ((d.toNat : Nat) : Int) by omega, zbT (by omega)]; rfl
    rw [zdh, if_pos hc] at hK
    (repeat' first | refine zfd (zck hq (zck w1 w2)) ?_ | with_reducible first | exact ⟨⟩ | refine zn ?_ | fail)
    refine zdX (by omega) (by omega) ?_
    (repeat' first | refine zfd (zck w1 w2) ?_ | with_reducible first | exact ⟨⟩ | refine zn ?_ | fail)
    refine zdX (by omega) (by first | omega | (simp; omega)) ?_
    (repeat' first | refine zmY ?_ | with_reducible first | exact ⟨⟩ | refine zn ?_ | fail)
    (first | refine zai hl ?_ | refine zah hl ?_)
    exact hK
  · have hq : (zan k d != 0) = true := by simpa using hc
    rw [zdh, if_neg hc, List.append_nil] at hK
    (repeat' first | refine zfd hq ?_ | with_reducible first | exact ⟨⟩ | refine zn ?_ | fail)
    refine zcE zdT (by rw [zca]; omega) ?_
    (repeat' first | refine zmY ?_ | with_reducible first | exact ⟨⟩ | refine zn ?_ | fail)
    (first | refine zai hl ?_ | refine zah hl ?_)
    exact hK
theorem c_rPutSign {σ : List zb} {b : List UInt8} {k d : Int} (hb : b.length ≤ 1073741700) {K : AV → List zb → Prop} (hK : K (.d (.slice (bcs (b ++ zdh k d)))) σ) :
    zK Tryz.prog zgu [.d (.slice (bcs b)), .agg [.d (.int .i64 k), .d (.int .i64 d)]] σ K := by
  refine zi zju.is rfl fun hl _ => zju.goes ?_
  simp only [zjN, iN, bT, bF, eN]
  (repeat' first | refine zmY ?_ | with_reducible first | exact ⟨⟩ | refine zn ?_ | fail)
  refine ziB ?_
  by_cases hc : zan k d = 0
  · obtain ⟨k0, k1, d0, d1⟩ := sign_ok hc
    have hq : (zan k d != 0) = false := by simpa using hc
    have n1 := zV (n := k.toNat) (by omega)
    have w1 : IntKind.u64.wrap k = ((k.toNat : Nat) : Int) := by
      rw [show k = ((k.toNat : Nat) : Int) by omega, zbT (by omega)]; rfl
    have w2 : IntKind.u64.wrap d = ((d.toNat : Nat) : Int) := by
      rw [show d = ((d.toNat : Nat) : Int) by omega, zbT (by omega)]; rfl
    rw [zdh, if_pos hc] at hK
    (repeat' first | refine zfd (zck hq (zck w1 w2)) ?_ | with_reducible first | exact ⟨⟩ | refine zn ?_ | fail)
    refine zdx (by omega) (by omega) ?_
    (repeat' first | refine zfd (zck w1 w2) ?_ | with_reducible first | exact ⟨⟩ | refine zn ?_ | fail)
    refine zdx (by omega) (by first | omega | (simp; omega)) ?_
    (repeat' first | refine zmY ?_ | with_reducible first | exact ⟨⟩ | refine zn ?_ | fail)
    (first | refine zai hl ?_ | refine zah hl ?_)
    exact hK
  · have hq : (zan k d != 0) = true := by simpa using hc
    rw [zdh, if_neg hc, List.append_nil] at hK
    (repeat' first | refine zfd hq ?_ | with_reducible first | exact ⟨⟩ | refine zn ?_ | fail)
    (first | refine zai hl ?_ | refine zah hl ?_)
    exact hK
theorem c_partsPut {σ : List zb} {b : List UInt8} {l : List zf} (hb : b.length ≤ 268435456) (hs : ∀ x ∈ l, zfi x.op ≤ 20971520) (hc : zA l = 0) {K : AV → List zb → Prop} (hK : K (.d (.slice (bcs (b ++ zdH l)))) σ) :
    zK Tryz.prog zde [.d (.slice (zbu l)), .d (.slice (bcs b))] σ K := by
  refine zi zeJ.is rfl fun hl _ => zeJ.goes ?_
  obtain ⟨h4, hm, _⟩ := zlw hc
  have n1 := zV (n := l.length) (by omega)
  have w1 : IntKind.u64.wrap (l.length : Int) = (l.length : Int) := zbT (by omega)
  simp only [zeT, iN, bT, bF, eN]
  (repeat' first | refine zfd w1 ?_ | with_reducible first | exact ⟨⟩ | refine zn ?_ | fail)
  refine zdX (by omega) (by omega) ?_
  (repeat' first | refine zmY ?_ | with_reducible first | exact ⟨⟩ | refine zn ?_ | fail)
  refine zbv l.length (fun k vs s => (∃ T, s = σ ++ T) ∧ vs = [.d (.slice (bcs (b ++ (zcw l.length ++ zei (l.take k))))), .d (.int .i64 k)])
    (.data 0 _ _ rfl rfl (.refl _ _)) ⟨⟨_, rfl⟩, by simp [zei]⟩ ?_
  rintro k vs s hk ⟨⟨T, rfl⟩, rfl⟩
  by_cases hlt : k < l.length
  · have hd : decide ((k : Int) < (l.length : Int)) = true := by simp; omega
    have hx : l[k]? = some l[k] := by simp [hlt]
    have hgx := zaS (f := zbo) hx
    have hxs := hs _ (List.getElem_mem hlt)
    have hxm := hm _ (List.getElem_mem hlt)
    obtain ⟨x, hxe⟩ : ∃ x, l[k] = x := ⟨_, rfl⟩
    rw [hxe] at hx hgx hxs hxm
    have hbl := ziX hs hc k
    have hrl := zkM hxs
    have hpl := zfg (x := zbx x) (by omega)
    obtain ⟨S, hS⟩ : ∃ S, σ ++ T = S := ⟨_, rfl⟩
    rw [hS]
    (repeat' first | refine zoE (zck hd hgx) ?_ | with_reducible first | exact ⟨⟩ | refine zn ?_ | fail)
    refine c_rqBytes (x := x) hxs ?_
    (repeat' first | refine zoE (zck hd hgx) ?_ | with_reducible first | exact ⟨⟩ | refine zn ?_ | fail)
    refine zkz (by omega) (by simp; omega) ?_
    (repeat' first | refine zoE (zck hd hgx) ?_ | with_reducible first | exact ⟨⟩ | refine zn ?_ | fail)
    refine c_PutSign (by simp only [zlH, List.length_append] at hpl ⊢; omega) ?_
    (repeat' first | refine zfd (wk1 k (by omega)) ?_ | with_reducible first | exact ⟨⟩ | refine zn ?_ | fail)
    refine zbh.next hlt ⟨⟨_, by rw [← hS, List.append_assoc]⟩, ?_⟩
    rw [zlc hx]
    simp [oneB, zlH, zbx, zdh, hxm.1, hxm.2]
  · have hd : decide ((k : Int) < (l.length : Int)) = false := by simp; omega
    rw [List.take_of_length_le (by omega)]
    (repeat' first | refine zfd hd ?_ | with_reducible first | exact ⟨⟩ | refine zn ?_ | fail)
    (first | refine zai hl ?_ | refine zah hl ?_)
    exact hK
theorem c_PutBatch {σ : List zb} {b : List UInt8} {l : List zf} (hb : b.length ≤ 268435456) (hs : ∀ x ∈ l, zfi x.op ≤ 20971520) (hl0 : l.length ≤ 1073741824) {K : AV → List zb → Prop} (hK : K (.d (.slice (bcs (b ++ zbt l)))) σ) :
    zK Tryz.prog zdn [.d (.slice (bcs b)), .d (.slice (zbu l))] σ K := by
  refine zi zfn.is rfl fun hl _ => zfn.goes ?_
  have hok : okB l := ⟨hl0, fun x hx => zom (hs x hx)⟩
  simp only [zfs, iN, bT, bF, eN]
  (repeat' first | refine zmY ?_ | with_reducible first | exact ⟨⟩ | refine zn ?_ | fail)
  refine zla hok ?_
  by_cases hc : zA l = 0
  · have hq : (zA l != 0) = false := by simpa using hc
    rw [zbt, if_pos hc] at hK
    (repeat' first | refine zfd hq ?_ | with_reducible first | exact ⟨⟩ | refine zn ?_ | fail)
    refine c_partsPut hb hs hc ?_
    (repeat' first | refine zmY ?_ | with_reducible first | exact ⟨⟩ | refine zn ?_ | fail)
    (first | refine zai hl ?_ | refine zah hl ?_)
    exact hK
  · have hq : (zA l != 0) = true := by simpa using hc
    rw [zbt, if_neg hc, List.append_nil] at hK
    (repeat' first | refine zfd hq ?_ | with_reducible first | exact ⟨⟩ | refine zn ?_ | fail)
    refine zcE zdT (by rw [zca]; omega) ?_
    (repeat' first | refine zmY ?_ | with_reducible first | exact ⟨⟩ | refine zn ?_ | fail)
    (first | refine zai hl ?_ | refine zah hl ?_)
    exact hK
theorem zmq {σ : List zb} {b : List UInt8} {l : List zf} (hb : b.length ≤ 268435456) (hs : ∀ x ∈ l, zfi x.op ≤ 20971520) (hl0 : l.length ≤ 1073741824) {K : AV → List zb → Prop} (hK : K (.d (.slice (bcs (b ++ zbt l)))) σ) :
    zK Tryz.prog zdW [.d (.slice (bcs b)), .d (.slice (zbu l))] σ K := by
  refine zi ziv.is rfl fun hl _ => ziv.goes ?_
  have hok : okB l := ⟨hl0, fun x hx => zom (hs x hx)⟩
  simp only [ziE, iN, bT, bF, eN]
  (repeat' first | refine zmY ?_ | with_reducible first | exact ⟨⟩ | refine zn ?_ | fail)
  refine zgE hok ?_
  by_cases hc : zA l = 0
  · have hq : (zA l != 0) = false := by simpa using hc
    obtain ⟨h4, hm, _⟩ := zlw hc
    have n1 := zV (n := l.length) (by omega)
    have w1 : IntKind.u64.wrap (l.length : Int) = (l.length : Int) := zbT (by omega)
    rw [zbt, if_pos hc] at hK
    (repeat' first | refine zfd (zck hq w1) ?_ | with_reducible first | exact ⟨⟩ | refine zn ?_ | fail)
    refine zdx (by omega) (by omega) ?_
    (repeat' first | refine zmY ?_ | with_reducible first | exact ⟨⟩ | refine zn ?_ | fail)
    refine zbv l.length (fun k vs s => (∃ T, s = σ ++ T) ∧ vs = [.d (.slice (bcs (b ++ (zcw l.length ++ zei (l.take k))))), .d (.int .i64 k)])
      (.data 0 _ _ rfl rfl (.refl _ _)) ⟨⟨_, rfl⟩, by simp [zei]⟩ ?_
    rintro k vs s hk ⟨⟨T, rfl⟩, rfl⟩
    by_cases hlt : k < l.length
    · have hd : decide ((k : Int) < (l.length : Int)) = true := by simp; omega
      have hx : l[k]? = some l[k] := by simp [hlt]
      have hgx := zaS (f := zbo) hx
      have hxs := hs _ (List.getElem_mem hlt)
      have hxm := hm _ (List.getElem_mem hlt)
      obtain ⟨x, hxe⟩ : ∃ x, l[k] = x := ⟨_, rfl⟩
      rw [hxe] at hx hgx hxs hxm
      have hbl := ziX hs hc k
      have hrl := zkM hxs
      have hpl := zfg (x := zbx x) (by omega)
      obtain ⟨S, hS⟩ : ∃ S, σ ++ T = S := ⟨_, rfl⟩
      rw [hS]
      (repeat' first | refine zoE (zck hd hgx) ?_ | with_reducible first | exact ⟨⟩ | refine zn ?_ | fail)
      refine zkx (x := x) hxs ?_
      (repeat' first | refine zoE (zck hd hgx) ?_ | with_reducible first | exact ⟨⟩ | refine zn ?_ | fail)
      refine ziV (by omega) (by simp; omega) ?_
      (repeat' first | refine zoE (zck hd hgx) ?_ | with_reducible first | exact ⟨⟩ | refine zn ?_ | fail)
      refine c_rPutSign (by simp only [zlH, List.length_append] at hpl ⊢; omega) ?_
      (repeat' first | refine zfd (wk1 k (by omega)) ?_ | with_reducible first | exact ⟨⟩ | refine zn ?_ | fail)
      refine zbh.next hlt ⟨⟨_, by rw [← hS, List.append_assoc]⟩, ?_⟩
      rw [zlc hx]
      simp [oneB, zlH, zbx, zdh, hxm.1, hxm.2]
    · have hd : decide ((k : Int) < (l.length : Int)) = false := by simp; omega
      rw [List.take_of_length_le (by omega)]
      (repeat' first | refine zfd hd ?_ | with_reducible first | exact ⟨⟩ | refine zn ?_ | fail)
      (first | refine zai hl ?_ | refine zah hl ?_)
      exact hK
  · have hq : (zA l != 0) = true := by simpa using hc
    rw [zbt, if_neg hc, List.append_nil] at hK
    (repeat' first | refine zfd hq ?_ | with_reducible first | exact ⟨⟩ | refine zn ?_ | fail)
    (first | refine zai hl ?_ | refine zah hl ?_)
    exact hK
end Go.Proofs.YtcappjcojggehaaGreat
