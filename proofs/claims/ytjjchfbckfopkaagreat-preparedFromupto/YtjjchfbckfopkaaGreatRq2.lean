/- Contracts: the bytes of requests, signatures and batches. -/
import Derived.Test.YtjjchfbckfopkaaGreatOp2
import Derived.Test.YtjjchfbckfopkaaGreatRc2
import Derived.Test.YtjjchfbckfopkaaGreatSpRd
set_option linter.all false
set_option maxRecDepth 100000
set_option linter.unusedSimpArgs false
set_option linter.unusedVariables false
namespace Go.Proofs.YtjjchfbckfopkaaGreat
open Go.AW

def keyF (c : Int) : Int := if c < 0 ∨ c ≥ 8 then -1 else 13 + c
theorem c_rqKey {σ : List zb} {c : Int} {K : AV → List zb → Prop} (hK : K (.d (.int .i64 (keyF c))) σ) : zp Tryz.prog zgw [.d (.int .i64 c)] σ K := by
  refine zil zpB fun hl => ?_
  simp only [zjX, iN, bT, bF, eN]
  (repeat' (first | (refine zlh ?_; try with_reducible exact True.intro) | (refine zI (fun h => ?_) (fun h => ?_) <;> (try rw [h])) | ((with_reducible refine And.intro ?_ ?_); focus (first | omega | rfl | decide))))
  all_goals (
    refine zad hl ?_
    (try simp only [decide_eq_true_eq, decide_eq_false_iff_not, beq_iff_eq, beq_eq_false_iff_ne, bne_iff_ne, ne_eq, Bool.not_eq_true', Bool.not_eq_false', bne_eq_false_iff_eq] at *)
    unfold keyF at hK)
  · rw [if_pos (by omega)] at hK; exact hK
  · rw [if_pos (by omega)] at hK; exact hK
  · rw [if_neg (by omega)] at hK; rw [zan (by omega) (by omega)]; exact hK
theorem zpc {x : ze} (h : zgb x.op ≤ 20971520) : okO x.op := by
  have h0 := h
  unfold zgb at h
  refine ⟨by omega, by omega, ?_, fun r hr => ?_⟩
  · have := zgv x.op.recs; omega
  · have := rec_le hr; omega
theorem c_rqBytes {σ : List zb} {x : ze} (hx : zgb x.op ≤ 20971520) {K : AV → List zb → Prop} (hK : K (.tup [.d (.slice (bcs (zbL x))), .d (.int .i64 (zy x))]) σ) : zp Tryz.prog zdw [reqA x] σ K := by
  refine zil zna fun hl => ?_
  have hsz := zpc hx
  simp only [zhL, iN, bT, bF, eN, reqA]
  refine zmf ?_
  refine c_rqCheck (x := x) hsz ?_
  by_cases hc : zy x = 0
  · obtain ⟨c0, c8, t1, t2, ho⟩ := req_ok hc
    have hb : (zy x != 0) = false := by simpa using hc
    have n1 := zN (n := x.client.toNat) (by omega)
    have n2 := zN (n := x.time.toNat) (by omega)
    have w1 : IntKind.u64.wrap x.client = ((x.client.toNat : Nat) : Int) := by
      rw [show x.client = ((x.client.toNat : Nat) : Int) by omega, zbX (by omega)]; rfl
    have w2 : IntKind.u64.wrap x.time = ((x.time.toNat : Nat) : Int) := by
      rw [show x.time = ((x.time.toNat : Nat) : Int) by omega, zbX (by omega)]; rfl
    rw [hc, zbL, if_pos hc] at hK
    refine zeo (zbC hb (zbC w1 w2)) ?_
    refine zef (b := []) (by omega) (by simp) ?_
    refine zeo (zbC w1 w2) ?_
    refine zef (by omega) (by first | omega | (simp; omega)) ?_
    refine zeo (zbC w1 w2) ?_
    refine c_Put (o := x.op) (by first | omega | (simp; omega)) (by omega) ?_
    refine zmf ?_
    refine zad hl ?_
    rw [if_pos ho]
    exact hK
  · have hb : (zy x != 0) = true := by simpa using hc
    rw [zbL, if_neg hc] at hK
    refine zeo hb ?_
    refine zad hl ?_
    exact hK
theorem zoD {σ : List zb} {x : ze} (hx : zgb x.op ≤ 20971520) {K : AV → List zb → Prop} (hK : K (.tup [.d (.slice (bcs (zbL x))), .d (.int .i64 (zy x))]) σ) : zp Tryz.prog zgA [reqA x] σ K := by
  refine zil e_r08_Bytes fun hl => ?_
  have hsz := zpc hx
  simp only [znw, iN, bT, bF, eN, reqA]
  refine zmf ?_
  refine zoC (x := x) hsz ?_
  by_cases hc : zy x = 0
  · obtain ⟨c0, c8, t1, t2, ho⟩ := req_ok hc
    have hb : (zy x != 0) = false := by simpa using hc
    have n1 := zN (n := x.client.toNat) (by omega)
    have n2 := zN (n := x.time.toNat) (by omega)
    have w1 : IntKind.u64.wrap x.client = ((x.client.toNat : Nat) : Int) := by
      rw [show x.client = ((x.client.toNat : Nat) : Int) by omega, zbX (by omega)]; rfl
    have w2 : IntKind.u64.wrap x.time = ((x.time.toNat : Nat) : Int) := by
      rw [show x.time = ((x.time.toNat : Nat) : Int) by omega, zbX (by omega)]; rfl
    rw [hc, zbL, if_pos hc] at hK
    refine zeo (zbC hb (zbC w1 w2)) ?_
    refine zdF (b := []) (by omega) (by simp) ?_
    refine zeo (zbC w1 w2) ?_
    refine zdF (by omega) (by first | omega | (simp; omega)) ?_
    refine zeo (zbC w1 w2) ?_
    refine c_rPut (o := x.op) (by first | omega | (simp; omega)) (by omega) ?_
    refine zmf ?_
    refine zad hl ?_
    rw [if_pos ho]
    exact hK
  · have hb : (zy x != 0) = true := by simpa using hc
    rw [zbL, if_neg hc] at hK
    refine zeo hb ?_
    refine zad hl ?_
    exact hK
theorem c_PutSign {σ : List zb} {b : List UInt8} {k d : Int} (hb : b.length ≤ 1073741700) {K : AV → List zb → Prop} (hK : K (.d (.slice (bcs (b ++ zdm k d)))) σ) :
    zp Tryz.prog zdW [.d (.slice (bcs b)), .agg [.d (.int .i64 k), .d (.int .i64 d)]] σ K := by
  refine zgK zkK fun hl => ?_
  simp only [zgo, iN, bT, bF, eN]
  refine zmf ?_
  refine zjO ?_
  by_cases hc : zaj k d = 0
  · obtain ⟨k0, k1, d0, d1⟩ := sign_ok hc
    have hq : (zaj k d != 0) = false := by simpa using hc
    have n1 := zN (n := k.toNat) (by omega)
    have w1 : IntKind.u64.wrap k = ((k.toNat : Nat) : Int) := by
      rw [show k = ((k.toNat : Nat) : Int) by omega, zbX (by omega)]; rfl
    have w2 : IntKind.u64.wrap d = ((d.toNat : Nat) : Int) := by
      rw [show d = ((d.toNat : Nat) : Int) by omega, zbX (by omega)]; rfl
    rw [zdm, if_pos hc] at hK
    refine zeo (zbC hq (zbC w1 w2)) ?_
    refine zef (by omega) (by omega) ?_
    refine zeo (zbC w1 w2) ?_
    refine zef (by omega) (by first | omega | (simp; omega)) ?_
    refine zmf ?_
    refine zad hl ?_
    exact hK
  · have hq : (zaj k d != 0) = true := by simpa using hc
    rw [zdm, if_neg hc, List.append_nil] at hK
    refine zeo hq ?_
    refine zcJ zeb (by rw [zaq]; omega) ?_
    refine zmf ?_
    refine zad hl ?_
    exact hK
theorem c_rPutSign {σ : List zb} {b : List UInt8} {k d : Int} (hb : b.length ≤ 1073741700) {K : AV → List zb → Prop} (hK : K (.d (.slice (bcs (b ++ zdm k d)))) σ) :
    zp Tryz.prog zgy [.d (.slice (bcs b)), .agg [.d (.int .i64 k), .d (.int .i64 d)]] σ K := by
  refine zgK zpD fun hl => ?_
  simp only [zjZ, iN, bT, bF, eN]
  refine zmf ?_
  refine ziC ?_
  by_cases hc : zaj k d = 0
  · obtain ⟨k0, k1, d0, d1⟩ := sign_ok hc
    have hq : (zaj k d != 0) = false := by simpa using hc
    have n1 := zN (n := k.toNat) (by omega)
    have w1 : IntKind.u64.wrap k = ((k.toNat : Nat) : Int) := by
      rw [show k = ((k.toNat : Nat) : Int) by omega, zbX (by omega)]; rfl
    have w2 : IntKind.u64.wrap d = ((d.toNat : Nat) : Int) := by
      rw [show d = ((d.toNat : Nat) : Int) by omega, zbX (by omega)]; rfl
    rw [zdm, if_pos hc] at hK
    refine zeo (zbC hq (zbC w1 w2)) ?_
    refine zdF (by omega) (by omega) ?_
    refine zeo (zbC w1 w2) ?_
    refine zdF (by omega) (by first | omega | (simp; omega)) ?_
    refine zmf ?_
    refine zad hl ?_
    exact hK
  · have hq : (zaj k d != 0) = true := by simpa using hc
    rw [zdm, if_neg hc, List.append_nil] at hK
    refine zeo hq ?_
    refine zad hl ?_
    exact hK
theorem c_partsPut {σ : List zb} {b : List UInt8} {l : List ze} (hb : b.length ≤ 268435456) (hs : ∀ x ∈ l, zgb x.op ≤ 20971520) (hc : zu l = 0) {K : AV → List zb → Prop} (hK : K (.d (.slice (bcs (b ++ zeP l)))) σ) :
    zp Tryz.prog zdi [.d (.slice (zaE l)), .d (.slice (bcs b))] σ K := by
  refine zgK ziV fun hl => ?_
  obtain ⟨h4, hm, _⟩ := zmj hc
  have n1 := zN (n := l.length) (by omega)
  have w1 : IntKind.u64.wrap (l.length : Int) = (l.length : Int) := zbX (by omega)
  simp only [zfq, iN, bT, bF, eN, zl2]
  refine zeo w1 ?_
  refine zef (by omega) (by omega) ?_
  refine zmf ?_
  refine zbP l.length (fun k vs s => (∃ T, s = σ ++ T) ∧ vs = [.d (.slice (bcs (b ++ (zcy l.length ++ zeK (l.take k))))), .d (.int .i64 k)])
    (.data 0 _ _ rfl rfl (.refl _ _)) ⟨⟨_, rfl⟩, by simp [zeK]⟩ ?_
  rintro k vs s hk ⟨⟨T, rfl⟩, rfl⟩
  by_cases hlt : k < l.length
  · have hd : decide ((k : Int) < (l.length : Int)) = true := by simp; omega
    have hx : l[k]? = some l[k] := by simp [hlt]
    have hgx := zau (f := zao) hx
    have hxs := hs _ (List.getElem_mem hlt)
    have hxm := hm _ (List.getElem_mem hlt)
    obtain ⟨x, hxe⟩ : ∃ x, l[k] = x := ⟨_, rfl⟩
    rw [hxe] at hx hgx hxs hxm
    have hbl := zjh hs hc k
    have hrl := zlb hxs
    have hpl := zfD (x := zbL x) (by omega)
    obtain ⟨S, hS⟩ : ∃ S, σ ++ T = S := ⟨_, rfl⟩
    rw [hS]
    refine zme (zbC hd hgx) ?_
    refine c_rqBytes (x := x) hxs ?_
    refine zme (zbC hd hgx) ?_
    refine zkP (by omega) (by simp; omega) ?_
    refine zme (zbC hd hgx) ?_
    refine c_PutSign (by simp only [zmz, List.length_append] at hpl ⊢; omega) ?_
    refine zeo (wk1 k (by omega)) ?_
    refine zaP.next hlt ⟨⟨_, by rw [← hS, List.append_assoc]⟩, ?_⟩
    rw [zlq hx]
    simp [oneB, zmz, zbL, zdm, hxm.1, hxm.2]
  · have hd : decide ((k : Int) < (l.length : Int)) = false := by simp; omega
    rw [List.take_of_length_le (by omega)]
    refine zeo hd ?_
    refine zad hl ?_
    exact hK
theorem c_PutBatch {σ : List zb} {b : List UInt8} {l : List ze} (hb : b.length ≤ 268435456) (hs : ∀ x ∈ l, zgb x.op ≤ 20971520) (hl0 : l.length ≤ 1073741824) {K : AV → List zb → Prop} (hK : K (.d (.slice (bcs (b ++ zbG l)))) σ) :
    zp Tryz.prog zdu [.d (.slice (bcs b)), .d (.slice (zaE l))] σ K := by
  refine zgK zjI fun hl => ?_
  have hok : okB l := ⟨hl0, fun x hx => zpc (hs x hx)⟩
  simp only [zfL, iN, bT, bF, eN]
  refine zmf ?_
  refine zlo hok ?_
  by_cases hc : zu l = 0
  · have hq : (zu l != 0) = false := by simpa using hc
    rw [zbG, if_pos hc] at hK
    refine zeo hq ?_
    refine c_partsPut hb hs hc ?_
    refine zmf ?_
    refine zad hl ?_
    exact hK
  · have hq : (zu l != 0) = true := by simpa using hc
    rw [zbG, if_neg hc, List.append_nil] at hK
    refine zeo hq ?_
    refine zcJ zeb (by rw [zaq]; omega) ?_
    refine zmf ?_
    refine zad hl ?_
    exact hK
theorem c_rPutBatch {σ : List zb} {b : List UInt8} {l : List ze} (hb : b.length ≤ 268435456) (hs : ∀ x ∈ l, zgb x.op ≤ 20971520) (hl0 : l.length ≤ 1073741824) {K : AV → List zb → Prop} (hK : K (.d (.slice (bcs (b ++ zbG l)))) σ) :
    zp Tryz.prog zfR [.d (.slice (bcs b)), .d (.slice (zaE l))] σ K := by
  refine zgK znQ fun hl => ?_
  have hok : okB l := ⟨hl0, fun x hx => zpc (hs x hx)⟩
  simp only [ziG, iN, bT, bF, eN]
  refine zmf ?_
  refine zjP hok ?_
  by_cases hc : zu l = 0
  · have hq : (zu l != 0) = false := by simpa using hc
    obtain ⟨h4, hm, _⟩ := zmj hc
    have n1 := zN (n := l.length) (by omega)
    have w1 : IntKind.u64.wrap (l.length : Int) = (l.length : Int) := zbX (by omega)
    rw [zbG, if_pos hc] at hK
    refine zeo (zbC hq w1) ?_
    refine zdF (by omega) (by omega) ?_
    refine zmf ?_
    refine zbP l.length (fun k vs s => (∃ T, s = σ ++ T) ∧ vs = [.d (.slice (bcs (b ++ (zcy l.length ++ zeK (l.take k))))), .d (.int .i64 k)])
      (.data 0 _ _ rfl rfl (.refl _ _)) ⟨⟨_, rfl⟩, by simp [zeK]⟩ ?_
    rintro k vs s hk ⟨⟨T, rfl⟩, rfl⟩
    by_cases hlt : k < l.length
    · have hd : decide ((k : Int) < (l.length : Int)) = true := by simp; omega
      have hx : l[k]? = some l[k] := by simp [hlt]
      have hgx := zau (f := zao) hx
      have hxs := hs _ (List.getElem_mem hlt)
      have hxm := hm _ (List.getElem_mem hlt)
      obtain ⟨x, hxe⟩ : ∃ x, l[k] = x := ⟨_, rfl⟩
      rw [hxe] at hx hgx hxs hxm
      have hbl := zjh hs hc k
      have hrl := zlb hxs
      have hpl := zfD (x := zbL x) (by omega)
      obtain ⟨S, hS⟩ : ∃ S, σ ++ T = S := ⟨_, rfl⟩
      rw [hS]
      refine zme (zbC hd hgx) ?_
      refine zoD (x := x) hxs ?_
      refine zme (zbC hd hgx) ?_
      refine zjf (by omega) (by simp; omega) ?_
      refine zme (zbC hd hgx) ?_
      refine c_rPutSign (by simp only [zmz, List.length_append] at hpl ⊢; omega) ?_
      refine zeo (wk1 k (by omega)) ?_
      refine zaP.next hlt ⟨⟨_, by rw [← hS, List.append_assoc]⟩, ?_⟩
      rw [zlq hx]
      simp [oneB, zmz, zbL, zdm, hxm.1, hxm.2]
    · have hd : decide ((k : Int) < (l.length : Int)) = false := by simp; omega
      rw [List.take_of_length_le (by omega)]
      refine zeo hd ?_
      refine zad hl ?_
      exact hK
  · have hq : (zu l != 0) = true := by simpa using hc
    rw [zbG, if_neg hc, List.append_nil] at hK
    refine zeo hq ?_
    refine zad hl ?_
    exact hK
end Go.Proofs.YtjjchfbckfopkaaGreat
