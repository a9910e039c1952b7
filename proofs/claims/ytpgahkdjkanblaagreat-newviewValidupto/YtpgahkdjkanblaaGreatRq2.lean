/- Contracts: the bytes of requests, signatures and batches. -/
import Derived.Test.YtpgahkdjkanblaaGreatOp6
import Derived.Test.YtpgahkdjkanblaaGreatRc2
import Derived.Test.YtpgahkdjkanblaaGreatSpTab
set_option linter.all false
set_option maxRecDepth 100000
set_option linter.unusedSimpArgs false
set_option linter.unusedVariables false
namespace Go.Proofs.YtpgahkdjkanblaaGreat
open Go.AW

def keyF (c : Int) : Int := if c < 0 ∨ c ≥ 8 then -1 else 13 + c
theorem c_rqKey {σ : List zf} {c : Int} {K : KT} (hK : K (.d (.int .i64 (keyF c))) σ) : zm Tryz.prog zkI [.d (.int .i64 c)] σ K := by
  refine zc zpc.is rfl fun hl _ => zpc.goes ?_
  simp only [zpD, iN, bT, bF, eN]
  (repeat' (first | (refine gq3 ?_; try with_reducible exact True.intro) | (refine zS (fun h => ?_) (fun h => ?_) <;> (try rw [h])) | ((with_reducible refine And.intro ?_ ?_); focus (first | omega | rfl | decide))))
  all_goals (
    refine zq hl ?_
    (try simp only [decide_eq_true_eq, decide_eq_false_iff_not, beq_iff_eq, beq_eq_false_iff_ne, bne_iff_ne, ne_eq, Bool.not_eq_true', Bool.not_eq_false', bne_eq_false_iff_eq] at *)
    unfold keyF at hK)
  · rw [if_pos (by omega)] at hK; exact hK
  · rw [if_pos (by omega)] at hK; exact hK
  · rw [if_neg (by omega)] at hK; rw [zat (by omega) (by omega)]; exact hK
theorem sizes {x : zu} (h : zlX x.op ≤ 20971520) : okO x.op := by
  have h0 := h
  unfold zlX at h
  refine ⟨by omega, by omega, ?_, fun r hr => ?_⟩
  · have := zkH x.op.recs; omega
  · have := rec_le hr; omega
theorem zth {σ : List zf} {x : zu} (hx : zlX x.op ≤ 20971520) {K : KT} (hK : K (.tup [.d (.slice (bcs (zbD x))), .d (.int .i64 (zad x))]) σ) : zm Tryz.prog zfL [reqA x] σ K := by
  refine zc zmr.is rfl fun hl _ => zmr.goes ?_
  have hsz := sizes hx
  simp only [zmL, iN, bT, bF, eN, reqA]
  refine zao ?_
  refine c_rqCheck (x := x) hsz ?_
  by_cases hc : zad x = 0
  · obtain ⟨c0, c8, t1, t2, ho⟩ := req_ok hc
    have hb : (zad x != 0) = false := by simpa using hc
    have n1 := zp (n := x.client.toNat) (by omega)
    have n2 := zp (n := x.time.toNat) (by omega)
    have w1 : IntKind.u64.wrap x.client = ((x.client.toNat : Nat) : Int) := by
      rw [show x.client = ((x.client.toNat : Nat) : Int) by omega, zcC (by omega)]; rfl
    have w2 : IntKind.u64.wrap x.time = ((x.time.toNat : Nat) : Int) := by
      rw [show x.time = ((x.time.toNat : Nat) : Int) by omega, zcC (by omega)]; rfl
    rw [hc, zbD, if_pos hc] at hK
    refine zH (zi hb (zi w1 w2)) ?_
    refine zdU (b := []) (by omega) (by simp) ?_
    refine zH (zi w1 w2) ?_
    refine zdU (by omega) (by first | omega | (simp; omega)) ?_
    refine zH (zi w1 w2) ?_
    refine c_Put (o := x.op) (by first | omega | (simp; omega)) (by omega) ?_
    refine zao ?_
    refine zq hl ?_
    rw [if_pos ho]
    exact hK
  · have hb : (zad x != 0) = true := by simpa using hc
    rw [zbD, if_neg hc] at hK
    refine zH hb ?_
    refine zq hl ?_
    exact hK
theorem zve {σ : List zf} {x : zu} (hx : zlX x.op ≤ 20971520) {K : KT} (hK : K (.tup [.d (.slice (bcs (zbD x))), .d (.int .i64 (zad x))]) σ) : zm Tryz.prog zkO [reqA x] σ K := by
  refine zc zsQ.is rfl fun hl _ => zsQ.goes ?_
  have hsz := sizes hx
  simp only [ztG, iN, bT, bF, eN, reqA]
  refine zao ?_
  refine zvd (x := x) hsz ?_
  by_cases hc : zad x = 0
  · obtain ⟨c0, c8, t1, t2, ho⟩ := req_ok hc
    have hb : (zad x != 0) = false := by simpa using hc
    have n1 := zp (n := x.client.toNat) (by omega)
    have n2 := zp (n := x.time.toNat) (by omega)
    have w1 : IntKind.u64.wrap x.client = ((x.client.toNat : Nat) : Int) := by
      rw [show x.client = ((x.client.toNat : Nat) : Int) by omega, zcC (by omega)]; rfl
    have w2 : IntKind.u64.wrap x.time = ((x.time.toNat : Nat) : Int) := by
      rw [show x.time = ((x.time.toNat : Nat) : Int) by omega, zcC (by omega)]; rfl
    rw [hc, zbD, if_pos hc] at hK
    refine zH (zi hb (zi w1 w2)) ?_
    refine zeH (b := []) (by omega) (by simp) ?_
    refine zH (zi w1 w2) ?_
    refine zeH (by omega) (by first | omega | (simp; omega)) ?_
    refine zH (zi w1 w2) ?_
    refine c_rPut (o := x.op) (by first | omega | (simp; omega)) (by omega) ?_
    refine zao ?_
    refine zq hl ?_
    rw [if_pos ho]
    exact hK
  · have hb : (zad x != 0) = true := by simpa using hc
    rw [zbD, if_neg hc] at hK
    refine zH hb ?_
    refine zq hl ?_
    exact hK
theorem c_PutSign {σ : List zf} {b : List UInt8} {k d : Int} (hb : b.length ≤ 1073741700) {K : KT} (hK : K (.d (.slice (bcs (b ++ zcy k d)))) σ) :
    zm Tryz.prog zdx [.d (.slice (bcs b)), .agg [.d (.int .i64 k), .d (.int .i64 d)]] σ K := by
  refine zc zeN.is rfl fun hl _ => zeN.goes ?_
  simp only [zgU, iN, bT, bF, eN]
  refine zao ?_
  refine zeO ?_
  by_cases hc : zL k d = 0
  · obtain ⟨k0, k1, d0, d1⟩ := zvK hc
    have hq : (zL k d != 0) = false := by simpa using hc
    have n1 := zp (n := k.toNat) (by omega)
    have w1 : IntKind.u64.wrap k = ((k.toNat : Nat) : Int) := by
      rw [show k = ((k.toNat : Nat) : Int) by omega, zcC (by omega)]; rfl
    have w2 : IntKind.u64.wrap d = ((d.toNat : Nat) : Int) := by
      rw [show d = ((d.toNat : Nat) : Int) by omega, zcC (by omega)]; rfl
    rw [zcy, if_pos hc] at hK
    refine zH (zi hq (zi w1 w2)) ?_
    refine zdU (by omega) (by omega) ?_
    refine zH (zi w1 w2) ?_
    refine zdU (by omega) (by first | omega | (simp; omega)) ?_
    refine zao ?_
    refine zq hl ?_
    exact hK
  · have hq : (zL k d != 0) = true := by simpa using hc
    rw [zcy, if_neg hc, List.append_nil] at hK
    refine zH hq ?_
    refine zeP zgS (by rw [zeQ]; omega) ?_
    refine zao ?_
    refine zq hl ?_
    exact hK
theorem znm {σ : List zf} {b : List UInt8} {k d : Int} (hb : b.length ≤ 1073741700) {K : KT} (hK : K (.d (.slice (bcs (b ++ zcy k d)))) σ) :
    zm Tryz.prog zde [.d (.slice (bcs b)), .agg [.d (.int .i64 k), .d (.int .i64 d)]] σ K := by
  refine zc zpi.is rfl fun hl _ => zpi.goes ?_
  simp only [zpJ, iN, bT, bF, eN]
  refine zao ?_
  refine zef ?_
  by_cases hc : zL k d = 0
  · obtain ⟨k0, k1, d0, d1⟩ := zvK hc
    have hq : (zL k d != 0) = false := by simpa using hc
    have n1 := zp (n := k.toNat) (by omega)
    have w1 : IntKind.u64.wrap k = ((k.toNat : Nat) : Int) := by
      rw [show k = ((k.toNat : Nat) : Int) by omega, zcC (by omega)]; rfl
    have w2 : IntKind.u64.wrap d = ((d.toNat : Nat) : Int) := by
      rw [show d = ((d.toNat : Nat) : Int) by omega, zcC (by omega)]; rfl
    rw [zcy, if_pos hc] at hK
    refine zH (zi hq (zi w1 w2)) ?_
    refine zeH (by omega) (by omega) ?_
    refine zH (zi w1 w2) ?_
    refine zeH (by omega) (by first | omega | (simp; omega)) ?_
    refine zao ?_
    refine zq hl ?_
    exact hK
  · have hq : (zL k d != 0) = true := by simpa using hc
    rw [zcy, if_neg hc, List.append_nil] at hK
    refine zH hq ?_
    refine zq hl ?_
    exact hK
theorem c_partsPut {σ : List zf} {b : List UInt8} {l : List zu} (hb : b.length ≤ 268435456) (hs : ∀ x ∈ l, zlX x.op ≤ 20971520) (hc : zy l = 0) {K : KT} (hK : K (.d (.slice (bcs (b ++ zff l)))) σ) :
    zm Tryz.prog zdL [.d (.slice (zbo l)), .d (.slice (bcs b))] σ K := by
  refine zc zdR.is rfl fun hl _ => zdR.goes ?_
  obtain ⟨h4, hm, _⟩ := zlg hc
  have n1 := zp (n := l.length) (by omega)
  have w1 : IntKind.u64.wrap (l.length : Int) = (l.length : Int) := zcC (by omega)
  simp only [zfv, iN, bT, bF, eN]
  refine zH w1 ?_
  refine zdU (by omega) (by omega) ?_
  refine zao ?_
  refine zhg l.length (fun k vs s => (∃ T, s = σ ++ T) ∧ vs = [.d (.slice (bcs (b ++ (zcf l.length ++ zcH (l.take k))))), .d (.int .i64 k)])
    (.data 0 _ _ rfl rfl (.refl _ _)) ⟨⟨_, rfl⟩, by simp [zcH]⟩ ?_
  rintro k vs s hk ⟨⟨T, rfl⟩, rfl⟩
  by_cases hlt : k < l.length
  · have hd : decide ((k : Int) < (l.length : Int)) = true := by simp; omega
    have hx : l[k]? = some l[k] := by simp [hlt]
    have hgx := zQ (f := zaM) hx
    have hxs := hs _ (List.getElem_mem hlt)
    have hxm := hm _ (List.getElem_mem hlt)
    obtain ⟨x, hxe⟩ : ∃ x, l[k] = x := ⟨_, rfl⟩
    rw [hxe] at hx hgx hxs hxm
    have hbl := zoB hs hc k
    have hrl := zmb hxs
    have hpl := zgW (x := zbD x) (by omega)
    obtain ⟨S, hS⟩ : ∃ S, σ ++ T = S := ⟨_, rfl⟩
    rw [hS]
    refine znj (zi hd hgx) ?_
    refine zth (x := x) hxs ?_
    refine znj (zi hd hgx) ?_
    refine zno (by omega) (by simp; omega) ?_
    refine znj (zi hd hgx) ?_
    refine c_PutSign (by simp only [zra, List.length_append] at hpl ⊢; omega) ?_
    refine zH (wk1 k (by omega)) ?_
    refine zaG.next hlt ⟨⟨_, by rw [← hS, List.append_assoc]⟩, ?_⟩
    rw [zjz hx]
    simp [oneB, zra, zbD, zcy, hxm.1, hxm.2]
  · have hd : decide ((k : Int) < (l.length : Int)) = false := by simp; omega
    rw [List.take_of_length_le (by omega)]
    refine zH hd ?_
    refine zq hl ?_
    exact hK
theorem c_PutBatch {σ : List zf} {b : List UInt8} {l : List zu} (hb : b.length ≤ 268435456) (hs : ∀ x ∈ l, zlX x.op ≤ 20971520) (hl0 : l.length ≤ 1073741824) {K : KT} (hK : K (.d (.slice (bcs (b ++ zdq l)))) σ) :
    zm Tryz.prog zdd [.d (.slice (bcs b)), .d (.slice (zbo l))] σ K := by
  refine zc zem.is rfl fun hl _ => zem.goes ?_
  have hok : okB l := ⟨hl0, fun x hx => sizes (hs x hx)⟩
  simp only [zga, iN, bT, bF, eN]
  refine zao ?_
  refine zjy hok ?_
  by_cases hc : zy l = 0
  · have hq : (zy l != 0) = false := by simpa using hc
    rw [zdq, if_pos hc] at hK
    refine zH hq ?_
    refine c_partsPut hb hs hc ?_
    refine zao ?_
    refine zq hl ?_
    exact hK
  · have hq : (zy l != 0) = true := by simpa using hc
    rw [zdq, if_neg hc, List.append_nil] at hK
    refine zH hq ?_
    refine zeP zgS (by rw [zeQ]; omega) ?_
    refine zao ?_
    refine zq hl ?_
    exact hK
theorem zti {σ : List zf} {b : List UInt8} {l : List zu} (hb : b.length ≤ 268435456) (hs : ∀ x ∈ l, zlX x.op ≤ 20971520) (hl0 : l.length ≤ 1073741824) {K : KT} (hK : K (.d (.slice (bcs (b ++ zdq l)))) σ) :
    zm Tryz.prog zdm [.d (.slice (bcs b)), .d (.slice (zbo l))] σ K := by
  refine zc znD.is rfl fun hl _ => znD.goes ?_
  have hok : okB l := ⟨hl0, fun x hx => sizes (hs x hx)⟩
  simp only [znR, iN, bT, bF, eN]
  refine zao ?_
  refine zld hok ?_
  by_cases hc : zy l = 0
  · have hq : (zy l != 0) = false := by simpa using hc
    obtain ⟨h4, hm, _⟩ := zlg hc
    have n1 := zp (n := l.length) (by omega)
    have w1 : IntKind.u64.wrap (l.length : Int) = (l.length : Int) := zcC (by omega)
    rw [zdq, if_pos hc] at hK
    refine zH (zi hq w1) ?_
    refine zeH (by omega) (by omega) ?_
    refine zao ?_
    refine zhg l.length (fun k vs s => (∃ T, s = σ ++ T) ∧ vs = [.d (.slice (bcs (b ++ (zcf l.length ++ zcH (l.take k))))), .d (.int .i64 k)])
      (.data 0 _ _ rfl rfl (.refl _ _)) ⟨⟨_, rfl⟩, by simp [zcH]⟩ ?_
    rintro k vs s hk ⟨⟨T, rfl⟩, rfl⟩
    by_cases hlt : k < l.length
    · have hd : decide ((k : Int) < (l.length : Int)) = true := by simp; omega
      have hx : l[k]? = some l[k] := by simp [hlt]
      have hgx := zQ (f := zaM) hx
      have hxs := hs _ (List.getElem_mem hlt)
      have hxm := hm _ (List.getElem_mem hlt)
      obtain ⟨x, hxe⟩ : ∃ x, l[k] = x := ⟨_, rfl⟩
      rw [hxe] at hx hgx hxs hxm
      have hbl := zoB hs hc k
      have hrl := zmb hxs
      have hpl := zgW (x := zbD x) (by omega)
      obtain ⟨S, hS⟩ : ∃ S, σ ++ T = S := ⟨_, rfl⟩
      rw [hS]
      refine znj (zi hd hgx) ?_
      refine zve (x := x) hxs ?_
      refine znj (zi hd hgx) ?_
      refine zow (by omega) (by simp; omega) ?_
      refine znj (zi hd hgx) ?_
      refine znm (by simp only [zra, List.length_append] at hpl ⊢; omega) ?_
      refine zH (wk1 k (by omega)) ?_
      refine zaG.next hlt ⟨⟨_, by rw [← hS, List.append_assoc]⟩, ?_⟩
      rw [zjz hx]
      simp [oneB, zra, zbD, zcy, hxm.1, hxm.2]
    · have hd : decide ((k : Int) < (l.length : Int)) = false := by simp; omega
      rw [List.take_of_length_le (by omega)]
      refine zH hd ?_
      refine zq hl ?_
      exact hK
  · have hq : (zy l != 0) = true := by simpa using hc
    rw [zdq, if_neg hc, List.append_nil] at hK
    refine zH hq ?_
    refine zq hl ?_
    exact hK
end Go.Proofs.YtpgahkdjkanblaaGreat
