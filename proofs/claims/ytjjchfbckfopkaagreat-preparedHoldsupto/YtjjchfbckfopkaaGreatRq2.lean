/- Contracts: the bytes of requests, signatures and batches. -/
import Derived.Test.YtjjchfbckfopkaaGreatOp2
import Derived.Test.YtjjchfbckfopkaaGreatRc2
import Derived.Test.YtjjchfbckfopkaaGreatSpRd
set_option linter.all false
set_option maxRecDepth 100000
set_option linter.unusedSimpArgs false
set_option linter.unusedVariables false
namespace Go.Proofs.YtjjchfbckfopkaaGreat
open Go.AW

def keyF (c : Int) : Int := if c < 0 ∨ c ≥ 8 then -1 else 13 + c
theorem c_rqKey {σ : List zb} {c : Int} {K : AV → List zb → Prop} (hK : K (.d (.int .i64 (keyF c))) σ) : zt Tryz.prog zgL [.d (.int .i64 c)] σ K := by
  refine ziC zpO fun hl => ?_
  simp only [zky, iN, bT, bF, eN]
  (repeat' (first | (refine zlH ?_; try with_reducible exact True.intro) | (refine zL (fun h => ?_) (fun h => ?_) <;> (try rw [h])) | ((with_reducible refine And.intro ?_ ?_); focus (first | omega | rfl | decide))))
  all_goals (
    refine zam hl ?_
    (try simp only [decide_eq_true_eq, decide_eq_false_iff_not, beq_iff_eq, beq_eq_false_iff_ne, bne_iff_ne, ne_eq, Bool.not_eq_true', Bool.not_eq_false', bne_eq_false_iff_eq] at *)
    unfold keyF at hK)
  · rw [if_pos (by omega)] at hK; exact hK
  · rw [if_pos (by omega)] at hK; exact hK
  · rw [if_neg (by omega)] at hK; rw [zap (by omega) (by omega)]; exact hK
theorem zpq {x : zf} (h : zgo x.op ≤ 20971520) : okO x.op := by
  have h0 := h
  unfold zgo at h
  refine ⟨by omega, by omega, ?_, fun r hr => ?_⟩
  · have := zgJ x.op.recs; omega
  · have := rec_le hr; omega
theorem c_rqBytes {σ : List zb} {x : zf} (hx : zgo x.op ≤ 20971520) {K : AV → List zb → Prop} (hK : K (.tup [.d (.slice (bcs (zbO x))), .d (.int .i64 (zD x))]) σ) : zt Tryz.prog zdF [reqA x] σ K := by
  refine ziC znt fun hl => ?_
  have hsz := zpq hx
  simp only [zia, iN, bT, bF, eN, reqA]
  refine zod ?_
  refine c_rqCheck (x := x) hsz ?_
  by_cases hc : zD x = 0
  · obtain ⟨c0, c8, t1, t2, ho⟩ := req_ok hc
    have hb : (zD x != 0) = false := by simpa using hc
    have n1 := zO (n := x.client.toNat) (by omega)
    have n2 := zO (n := x.time.toNat) (by omega)
    have w1 : IntKind.u64.wrap x.client = ((x.client.toNat : Nat) : Int) := by
      rw [show x.client = ((x.client.toNat : Nat) : Int) by omega, zca (by omega)]; rfl
    have w2 : IntKind.u64.wrap x.time = ((x.time.toNat : Nat) : Int) := by
      rw [show x.time = ((x.time.toNat : Nat) : Int) by omega, zca (by omega)]; rfl
    rw [hc, zbO, if_pos hc] at hK
    refine zfN (zcr hb (zcr w1 w2)) ?_
    refine zeA (b := []) (by omega) (by simp) ?_
    refine zfN (zcr w1 w2) ?_
    refine zeA (by omega) (by first | omega | (simp; omega)) ?_
    refine zfN (zcr w1 w2) ?_
    refine c_Put (o := x.op) (by first | omega | (simp; omega)) (by omega) ?_
    refine zod ?_
    refine zam hl ?_
    rw [if_pos ho]
    exact hK
  · have hb : (zD x != 0) = true := by simpa using hc
    rw [zbO, if_neg hc] at hK
    refine zfN hb ?_
    refine zam hl ?_
    exact hK
theorem zoS {σ : List zb} {x : zf} (hx : zgo x.op ≤ 20971520) {K : AV → List zb → Prop} (hK : K (.tup [.d (.slice (bcs (zbO x))), .d (.int .i64 (zD x))]) σ) : zt Tryz.prog zgO [reqA x] σ K := by
  refine ziC e_r08_Bytes fun hl => ?_
  have hsz := zpq hx
  simp only [znM, iN, bT, bF, eN, reqA]
  refine zod ?_
  refine zoR (x := x) hsz ?_
  by_cases hc : zD x = 0
  · obtain ⟨c0, c8, t1, t2, ho⟩ := req_ok hc
    have hb : (zD x != 0) = false := by simpa using hc
    have n1 := zO (n := x.client.toNat) (by omega)
    have n2 := zO (n := x.time.toNat) (by omega)
    have w1 : IntKind.u64.wrap x.client = ((x.client.toNat : Nat) : Int) := by
      rw [show x.client = ((x.client.toNat : Nat) : Int) by omega, zca (by omega)]; rfl
    have w2 : IntKind.u64.wrap x.time = ((x.time.toNat : Nat) : Int) := by
      rw [show x.time = ((x.time.toNat : Nat) : Int) by omega, zca (by omega)]; rfl
    rw [hc, zbO, if_pos hc] at hK
    refine zfN (zcr hb (zcr w1 w2)) ?_
    refine zdP (b := []) (by omega) (by simp) ?_
    refine zfN (zcr w1 w2) ?_
    refine zdP (by omega) (by first | omega | (simp; omega)) ?_
    refine zfN (zcr w1 w2) ?_
    refine c_rPut (o := x.op) (by first | omega | (simp; omega)) (by omega) ?_
    refine zod ?_
    refine zam hl ?_
    rw [if_pos ho]
    exact hK
  · have hb : (zD x != 0) = true := by simpa using hc
    rw [zbO, if_neg hc] at hK
    refine zfN hb ?_
    refine zam hl ?_
    exact hK
theorem c_PutSign {σ : List zb} {b : List UInt8} {k d : Int} (hb : b.length ≤ 1073741700) {K : AV → List zb → Prop} (hK : K (.d (.slice (bcs (b ++ zdv k d)))) σ) :
    zt Tryz.prog zet [.d (.slice (bcs b)), .agg [.d (.int .i64 k), .d (.int .i64 d)]] σ K := by
  refine zhh zlj fun hl => ?_
  simp only [zgD, iN, bT, bF, eN]
  refine zod ?_
  refine zkp ?_
  by_cases hc : zal k d = 0
  · obtain ⟨k0, k1, d0, d1⟩ := sign_ok hc
    have hq : (zal k d != 0) = false := by simpa using hc
    have n1 := zO (n := k.toNat) (by omega)
    have w1 : IntKind.u64.wrap k = ((k.toNat : Nat) : Int) := by
      rw [show k = ((k.toNat : Nat) : Int) by omega, zca (by omega)]; rfl
    have w2 : IntKind.u64.wrap d = ((d.toNat : Nat) : Int) := by
      rw [show d = ((d.toNat : Nat) : Int) by omega, zca (by omega)]; rfl
    rw [zdv, if_pos hc] at hK
    refine zfN (zcr hq (zcr w1 w2)) ?_
    refine zeA (by omega) (by omega) ?_
    refine zfN (zcr w1 w2) ?_
    refine zeA (by omega) (by first | omega | (simp; omega)) ?_
    refine zod ?_
    refine zam hl ?_
    exact hK
  · have hq : (zal k d != 0) = true := by simpa using hc
    rw [zdv, if_neg hc, List.append_nil] at hK
    refine zfN hq ?_
    refine zcT zex (by rw [zav]; omega) ?_
    refine zod ?_
    refine zam hl ?_
    exact hK
theorem c_rPutSign {σ : List zb} {b : List UInt8} {k d : Int} (hb : b.length ≤ 1073741700) {K : AV → List zb → Prop} (hK : K (.d (.slice (bcs (b ++ zdv k d)))) σ) :
    zt Tryz.prog zgM [.d (.slice (bcs b)), .agg [.d (.int .i64 k), .d (.int .i64 d)]] σ K := by
  refine zhh zpQ fun hl => ?_
  simp only [zkA, iN, bT, bF, eN]
  refine zod ?_
  refine ziU ?_
  by_cases hc : zal k d = 0
  · obtain ⟨k0, k1, d0, d1⟩ := sign_ok hc
    have hq : (zal k d != 0) = false := by simpa using hc
    have n1 := zO (n := k.toNat) (by omega)
    have w1 : IntKind.u64.wrap k = ((k.toNat : Nat) : Int) := by
      rw [show k = ((k.toNat : Nat) : Int) by omega, zca (by omega)]; rfl
    have w2 : IntKind.u64.wrap d = ((d.toNat : Nat) : Int) := by
      rw [show d = ((d.toNat : Nat) : Int) by omega, zca (by omega)]; rfl
    rw [zdv, if_pos hc] at hK
    refine zfN (zcr hq (zcr w1 w2)) ?_
    refine zdP (by omega) (by omega) ?_
    refine zfN (zcr w1 w2) ?_
    refine zdP (by omega) (by first | omega | (simp; omega)) ?_
    refine zod ?_
    refine zam hl ?_
    exact hK
  · have hq : (zal k d != 0) = true := by simpa using hc
    rw [zdv, if_neg hc, List.append_nil] at hK
    refine zfN hq ?_
    refine zam hl ?_
    exact hK
theorem c_partsPut {σ : List zb} {b : List UInt8} {l : List zf} (hb : b.length ≤ 268435456) (hs : ∀ x ∈ l, zgo x.op ≤ 20971520) (hc : zx l = 0) {K : AV → List zb → Prop} (hK : K (.d (.slice (bcs (b ++ zeZ l)))) σ) :
    zt Tryz.prog zdp [.d (.slice (zaM l)), .d (.slice (bcs b))] σ K := by
  refine zhh zjq fun hl => ?_
  obtain ⟨h4, hm, _⟩ := zmA hc
  have n1 := zO (n := l.length) (by omega)
  have w1 : IntKind.u64.wrap (l.length : Int) = (l.length : Int) := zca (by omega)
  simp only [zfB, iN, bT, bF, eN, zl3]
  refine zfN w1 ?_
  refine zeA (by omega) (by omega) ?_
  refine zod ?_
  refine zbw l.length (fun k vs s => (∃ T, s = σ ++ T) ∧ vs = [.d (.slice (bcs (b ++ (zcG l.length ++ zeV (l.take k))))), .d (.int .i64 k)])
    (.data 0 _ _ rfl rfl (.refl _ _)) ⟨⟨_, rfl⟩, by simp [zeV]⟩ ?_
  rintro k vs s hk ⟨⟨T, rfl⟩, rfl⟩
  by_cases hlt : k < l.length
  · have hd : decide ((k : Int) < (l.length : Int)) = true := by simp; omega
    have hx : l[k]? = some l[k] := by simp [hlt]
    have hgx := zax (f := zas) hx
    have hxs := hs _ (List.getElem_mem hlt)
    have hxm := hm _ (List.getElem_mem hlt)
    obtain ⟨x, hxe⟩ : ∃ x, l[k] = x := ⟨_, rfl⟩
    rw [hxe] at hx hgx hxs hxm
    have hbl := zjE hs hc k
    have hrl := zlC hxs
    have hpl := zfQ (x := zbO x) (by omega)
    obtain ⟨S, hS⟩ : ∃ S, σ ++ T = S := ⟨_, rfl⟩
    rw [hS]
    refine gq37 (zcr hd hgx) ?_
    refine c_rqBytes (x := x) hxs ?_
    refine gq37 (zcr hd hgx) ?_
    refine zlp (by omega) (by simp; omega) ?_
    refine gq37 (zcr hd hgx) ?_
    refine c_PutSign (by simp only [zmQ, List.length_append] at hpl ⊢; omega) ?_
    refine zfN (wk1 k (by omega)) ?_
    refine zaQ.next hlt ⟨⟨_, by rw [← hS, List.append_assoc]⟩, ?_⟩
    rw [zlS hx]
    simp [oneB, zmQ, zbO, zdv, hxm.1, hxm.2]
  · have hd : decide ((k : Int) < (l.length : Int)) = false := by simp; omega
    rw [List.take_of_length_le (by omega)]
    refine zfN hd ?_
    refine zam hl ?_
    exact hK
theorem c_PutBatch {σ : List zb} {b : List UInt8} {l : List zf} (hb : b.length ≤ 268435456) (hs : ∀ x ∈ l, zgo x.op ≤ 20971520) (hl0 : l.length ≤ 1073741824) {K : AV → List zb → Prop} (hK : K (.d (.slice (bcs (b ++ zbJ l)))) σ) :
    zt Tryz.prog zdD [.d (.slice (bcs b)), .d (.slice (zaM l))] σ K := by
  refine zhh zkl fun hl => ?_
  have hok : okB l := ⟨hl0, fun x hx => zpq (hs x hx)⟩
  simp only [zga, iN, bT, bF, eN]
  refine zod ?_
  refine zlQ hok ?_
  by_cases hc : zx l = 0
  · have hq : (zx l != 0) = false := by simpa using hc
    rw [zbJ, if_pos hc] at hK
    refine zfN hq ?_
    refine c_partsPut hb hs hc ?_
    refine zod ?_
    refine zam hl ?_
    exact hK
  · have hq : (zx l != 0) = true := by simpa using hc
    rw [zbJ, if_neg hc, List.append_nil] at hK
    refine zfN hq ?_
    refine zcT zex (by rw [zav]; omega) ?_
    refine zod ?_
    refine zam hl ?_
    exact hK
theorem c_rPutBatch {σ : List zb} {b : List UInt8} {l : List zf} (hb : b.length ≤ 268435456) (hs : ∀ x ∈ l, zgo x.op ≤ 20971520) (hl0 : l.length ≤ 1073741824) {K : AV → List zb → Prop} (hK : K (.d (.slice (bcs (b ++ zbJ l)))) σ) :
    zt Tryz.prog zgg [.d (.slice (bcs b)), .d (.slice (zaM l))] σ K := by
  refine zhh zoh fun hl => ?_
  have hok : okB l := ⟨hl0, fun x hx => zpq (hs x hx)⟩
  simp only [zja, iN, bT, bF, eN]
  refine zod ?_
  refine zkq hok ?_
  by_cases hc : zx l = 0
  · have hq : (zx l != 0) = false := by simpa using hc
    obtain ⟨h4, hm, _⟩ := zmA hc
    have n1 := zO (n := l.length) (by omega)
    have w1 : IntKind.u64.wrap (l.length : Int) = (l.length : Int) := zca (by omega)
    rw [zbJ, if_pos hc] at hK
    refine zfN (zcr hq w1) ?_
    refine zdP (by omega) (by omega) ?_
    refine zod ?_
    refine zbw l.length (fun k vs s => (∃ T, s = σ ++ T) ∧ vs = [.d (.slice (bcs (b ++ (zcG l.length ++ zeV (l.take k))))), .d (.int .i64 k)])
      (.data 0 _ _ rfl rfl (.refl _ _)) ⟨⟨_, rfl⟩, by simp [zeV]⟩ ?_
    rintro k vs s hk ⟨⟨T, rfl⟩, rfl⟩
    by_cases hlt : k < l.length
    · have hd : decide ((k : Int) < (l.length : Int)) = true := by simp; omega
      have hx : l[k]? = some l[k] := by simp [hlt]
      have hgx := zax (f := zas) hx
      have hxs := hs _ (List.getElem_mem hlt)
      have hxm := hm _ (List.getElem_mem hlt)
      obtain ⟨x, hxe⟩ : ∃ x, l[k] = x := ⟨_, rfl⟩
      rw [hxe] at hx hgx hxs hxm
      have hbl := zjE hs hc k
      have hrl := zlC hxs
      have hpl := zfQ (x := zbO x) (by omega)
      obtain ⟨S, hS⟩ : ∃ S, σ ++ T = S := ⟨_, rfl⟩
      rw [hS]
      refine gq37 (zcr hd hgx) ?_
      refine zoS (x := x) hxs ?_
      refine gq37 (zcr hd hgx) ?_
      refine zjC (by omega) (by simp; omega) ?_
      refine gq37 (zcr hd hgx) ?_
      refine c_rPutSign (by simp only [zmQ, List.length_append] at hpl ⊢; omega) ?_
      refine zfN (wk1 k (by omega)) ?_
      refine zaQ.next hlt ⟨⟨_, by rw [← hS, List.append_assoc]⟩, ?_⟩
      rw [zlS hx]
      simp [oneB, zmQ, zbO, zdv, hxm.1, hxm.2]
    · have hd : decide ((k : Int) < (l.length : Int)) = false := by simp; omega
      rw [List.take_of_length_le (by omega)]
      refine zfN hd ?_
      refine zam hl ?_
      exact hK
  · have hq : (zx l != 0) = true := by simpa using hc
    rw [zbJ, if_neg hc, List.append_nil] at hK
    refine zfN hq ?_
    refine zam hl ?_
    exact hK
end Go.Proofs.YtjjchfbckfopkaaGreat
