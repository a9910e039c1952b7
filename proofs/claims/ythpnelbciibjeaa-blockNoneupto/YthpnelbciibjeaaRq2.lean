/- Contracts: the bytes of requests, signatures and batches. -/
import Derived.Test.YthpnelbciibjeaaOp1
import Derived.Test.YthpnelbciibjeaaRc2
import Derived.Test.YthpnelbciibjeaaSpUtf
import Derived.Test.YthpnelbciibjeaaId3
set_option linter.all false
set_option maxRecDepth 100000
set_option linter.unusedSimpArgs false
set_option linter.unusedVariables false
namespace Go.Proofs.Ythpnelbciibjeaa
open Go.AW

theorem sizes {x : zh} (h : zlx x.op ≤ 20971520) : okO x.op := by
  have h0 := h
  unfold zlx at h
  refine ⟨by omega, by omega, ?_, fun r hr => ?_⟩
  · have := ziE x.op.recs; omega
  · have := rec_le hr; omega
theorem c_rqBytes {σ : List zc} {x : zh} (hx : zlx x.op ≤ 20971520) {K : AV → List zc → Prop} (hK : K (.tup [.d (.slice (bcs (zfd x))), .d (.int .i64 (zao x))]) σ) : zj Try.prog zfg [reqA x] σ K := by
  refine zhr zlS fun hl => ?_
  have hsz := sizes hx
  simp only [zhu, iN, bT, bF, eN, reqA]
  refine gq21 ?_
  refine c_rqCheck (x := x) hsz ?_
  by_cases hc : zao x = 0
  · obtain ⟨c0, c8, t1, t2, ho⟩ := req_ok hc
    have hb : (zao x != 0) = false := by simpa using hc
    have n1 := zk (n := x.client.toNat) (by omega)
    have n2 := zk (n := x.time.toNat) (by omega)
    have w1 : IntKind.u64.wrap x.client = ((x.client.toNat : Nat) : Int) := by
      rw [show x.client = ((x.client.toNat : Nat) : Int) by omega, zcp (by omega)]; rfl
    have w2 : IntKind.u64.wrap x.time = ((x.time.toNat : Nat) : Int) := by
      rw [show x.time = ((x.time.toNat : Nat) : Int) by omega, zcp (by omega)]; rfl
    rw [hc, zfd, if_pos hc] at hK
    refine zmy (zgp hb (zgp w1 w2)) ?_
    refine zcG (b := []) (by omega) (by simp) ?_
    refine zmy (zgp w1 w2) ?_
    refine zcG (by omega) (by first | omega | (simp; omega)) ?_
    refine zmy (zgp w1 w2) ?_
    refine c_Put (o := x.op) (by first | omega | (simp; omega)) (by omega) ?_
    refine gq21 ?_
    refine zbD hl ?_
    rw [if_pos ho]
    exact hK
  · have hb : (zao x != 0) = true := by simpa using hc
    rw [zfd, if_neg hc] at hK
    refine zmy hb ?_
    refine zbD hl ?_
    exact hK
theorem c_PutSign {σ : List zc} {b : List UInt8} {k d : Int} (hb : b.length ≤ 1073741700) {K : AV → List zc → Prop} (hK : K (.d (.slice (bcs (b ++ zhC k d)))) σ) :
    zj Try.prog zed [.d (.slice (bcs b)), .agg [.d (.int .i64 k), .d (.int .i64 d)]] σ K := by
  refine zla zkf fun hl => ?_
  simp only [zgj, iN, bT, bF, eN]
  refine gq21 ?_
  refine zju ?_
  by_cases hc : zaF k d = 0
  · obtain ⟨k0, k1, d0, d1⟩ := sign_ok hc
    have hq : (zaF k d != 0) = false := by simpa using hc
    have n1 := zk (n := k.toNat) (by omega)
    have w1 : IntKind.u64.wrap k = ((k.toNat : Nat) : Int) := by
      rw [show k = ((k.toNat : Nat) : Int) by omega, zcp (by omega)]; rfl
    have w2 : IntKind.u64.wrap d = ((d.toNat : Nat) : Int) := by
      rw [show d = ((d.toNat : Nat) : Int) by omega, zcp (by omega)]; rfl
    rw [zhC, if_pos hc] at hK
    refine zmy (zgp hq (zgp w1 w2)) ?_
    refine zcG (by omega) (by omega) ?_
    refine zmy (zgp w1 w2) ?_
    refine zcG (by omega) (by first | omega | (simp; omega)) ?_
    refine gq21 ?_
    refine zbD hl ?_
    exact hK
  · have hq : (zaF k d != 0) = true := by simpa using hc
    rw [zhC, if_neg hc, List.append_nil] at hK
    refine zmy hq ?_
    refine zeT zfL (by rw [zbN]; omega) ?_
    refine gq21 ?_
    refine zbD hl ?_
    exact hK
theorem c_partsPut {σ : List zc} {b : List UInt8} {l : List zh} (hb : b.length ≤ 268435456) (hs : ∀ x ∈ l, zlx x.op ≤ 20971520) (hc : zC l = 0) {K : AV → List zc → Prop} (hK : K (.d (.slice (bcs (b ++ zfD l)))) σ) :
    zj Try.prog zdk [.d (.slice (zkG l)), .d (.slice (bcs b))] σ K := by
  refine zla ziM fun hl => ?_
  obtain ⟨h4, hm, _⟩ := zol hc
  have n1 := zk (n := l.length) (by omega)
  have w1 : IntKind.u64.wrap (l.length : Int) = (l.length : Int) := zcp (by omega)
  simp only [zft, iN, bT, bF, eN, zl0]
  refine zmy w1 ?_
  refine zcG (by omega) (by omega) ?_
  refine gq21 ?_
  refine zds l.length (fun k vs s => (∃ T, s = σ ++ T) ∧ vs = [.d (.slice (bcs (b ++ (zbB l.length ++ zfM (l.take k))))), .d (.int .i64 k)])
    (.data 0 _ _ rfl rfl (.refl _ _)) ⟨⟨_, rfl⟩, by simp [zfM]⟩ ?_
  rintro k vs s hk ⟨⟨T, rfl⟩, rfl⟩
  by_cases hlt : k < l.length
  · have hd : decide ((k : Int) < (l.length : Int)) = true := by simp; omega
    have hx : l[k]? = some l[k] := by simp [hlt]
    have hgx := zef (f := zeb) hx
    have hxs := hs _ (List.getElem_mem hlt)
    have hxm := hm _ (List.getElem_mem hlt)
    obtain ⟨x, hxe⟩ : ∃ x, l[k] = x := ⟨_, rfl⟩
    rw [hxe] at hx hgx hxs hxm
    have hbl := zmd hs hc k
    have hrl := reqBytes_len hxs
    have hpl := zdx (x := zfd x) (by omega)
    obtain ⟨S, hS⟩ : ∃ S, σ ++ T = S := ⟨_, rfl⟩
    rw [hS]
    refine gq23 (zgp hd hgx) ?_
    refine c_rqBytes (x := x) hxs ?_
    refine gq23 (zgp hd hgx) ?_
    refine zfa (by omega) (by simp; omega) ?_
    refine gq23 (zgp hd hgx) ?_
    refine c_PutSign (by simp only [ziU, List.length_append] at hpl ⊢; omega) ?_
    refine zmy (wk1 k (by omega)) ?_
    refine zcd.next hlt ⟨⟨_, by rw [← hS, List.append_assoc]⟩, ?_⟩
    rw [batchBs_snoc hx]
    simp [oneB, ziU, zfd, zhC, hxm.1, hxm.2]
  · have hd : decide ((k : Int) < (l.length : Int)) = false := by simp; omega
    rw [List.take_of_length_le (by omega)]
    refine zmy hd ?_
    refine zbD hl ?_
    exact hK
theorem c_PutBatch {σ : List zc} {b : List UInt8} {l : List zh} (hb : b.length ≤ 268435456) (hs : ∀ x ∈ l, zlx x.op ≤ 20971520) (hl0 : l.length ≤ 1073741824) {K : AV → List zc → Prop} (hK : K (.d (.slice (bcs (b ++ zdn l)))) σ) :
    zj Try.prog zdA [.d (.slice (bcs b)), .d (.slice (zkG l))] σ K := by
  refine zla zjq fun hl => ?_
  have hok : okB l := ⟨hl0, fun x hx => sizes (hs x hx)⟩
  simp only [zfF, iN, bT, bF, eN]
  refine gq21 ?_
  refine zkF hok ?_
  by_cases hc : zC l = 0
  · have hq : (zC l != 0) = false := by simpa using hc
    rw [zdn, if_pos hc] at hK
    refine zmy hq ?_
    refine c_partsPut hb hs hc ?_
    refine gq21 ?_
    refine zbD hl ?_
    exact hK
  · have hq : (zC l != 0) = true := by simpa using hc
    rw [zdn, if_neg hc, List.append_nil] at hK
    refine zmy hq ?_
    refine zeT zfL (by rw [zbN]; omega) ?_
    refine gq21 ?_
    refine zbD hl ?_
    exact hK

theorem zbr.put {σ : List zc} {id m t : Nat} {l : List (List UInt8)} (h : zbr σ id m t l) (l' : List (List UInt8)) : zbr (putTab σ id m t l') id m t l' := by
  obtain ⟨n1, n2, n3⟩ := h.ne
  have h1 := zl h.box; have h2 := zl h.map; have h3 := zl h.tok
  unfold putTab
  refine ⟨?_, ?_, ?_⟩
  · rw [List.getElem?_set_ne (Ne.symm n1), List.getElem?_set_self (by simpa using h1)]
  · rw [List.getElem?_set_self (by simpa using h2)]
  · rw [List.getElem?_set_ne n3, List.getElem?_set_ne n2, List.getElem?_set_self h3]
theorem zgo.put {σ : List zc} {id m t : Nat} {g : List zeu} (h : zgo σ id m t g) (g' : List zeu) : zgo (putLed σ id m t g') id m t g' := by
  obtain ⟨n1, n2, n3⟩ := h.ne
  have h1 := zl h.box; have h2 := zl h.map; have h3 := zl h.tok
  unfold putLed
  refine ⟨?_, ?_, ?_⟩
  · rw [List.getElem?_set_self (by simpa using h1)]
  · rw [List.getElem?_set_ne n1, List.getElem?_set_ne (Ne.symm n3), List.getElem?_set_self h2]
  · rw [List.getElem?_set_ne n2, List.getElem?_set_self (by simpa using h3)]
theorem apart2 {σ : List zc} {id m t id2 m2 t2 : Nat} {l : List (List UInt8)} {g : List zeu} (hT : zbr σ id m t l) (hG : zgo σ id2 m2 t2 g) (h1 : id ≠ id2) (h2 : m ≠ m2) :
    (id ≠ m2 ∧ id ≠ t2) ∧ (m ≠ id2 ∧ m ≠ t2) ∧ (t ≠ id2 ∧ t ≠ m2 ∧ t ≠ t2) := by
  refine ⟨⟨?_, ?_⟩, ⟨?_, ?_⟩, ⟨?_, ?_, ?_⟩⟩ <;> intro e <;> subst e
  · have := hT.box; rw [hG.map] at this; cases this
  · have := hT.box; rw [hG.tok] at this; cases this
  · have := hT.map; rw [hG.box] at this; cases this
  · have := hT.map; rw [hG.tok] at this; cases this
  · have := hT.tok; rw [hG.box] at this; cases this
  · have := hT.tok; rw [hG.map] at this; cases this
  · have := hT.tok; rw [hG.tok] at this; cases this
theorem zgo.putTab {σ : List zc} {id m t id2 m2 t2 : Nat} {l : List (List UInt8)} {g : List zeu} (hT : zbr σ id m t l) (hG : zgo σ id2 m2 t2 g) (h1 : id ≠ id2) (h2 : m ≠ m2) (l' : List (List UInt8)) :
    zgo (putTab σ id m t l') id2 m2 t2 g := by
  obtain ⟨⟨a1, a2⟩, ⟨b1, b2⟩, ⟨c1, c2, c3⟩⟩ := apart2 hT hG h1 h2
  unfold Go.Proofs.Ythpnelbciibjeaa.putTab
  refine ⟨?_, ?_, ?_⟩
  · rw [List.getElem?_set_ne b1, List.getElem?_set_ne h1, List.getElem?_set_ne c1]; exact hG.box
  · rw [List.getElem?_set_ne h2, List.getElem?_set_ne a1, List.getElem?_set_ne c2]; exact hG.map
  · rw [List.getElem?_set_ne b2, List.getElem?_set_ne a2, List.getElem?_set_ne c3]; exact hG.tok
theorem zbr.putLed {σ : List zc} {id m t id2 m2 t2 : Nat} {l : List (List UInt8)} {g : List zeu} (hT : zbr σ id m t l) (hG : zgo σ id2 m2 t2 g) (h1 : id ≠ id2) (h2 : m ≠ m2) (g' : List zeu) :
    zbr (putLed σ id2 m2 t2 g') id m t l := by
  obtain ⟨⟨a1, a2⟩, ⟨b1, b2⟩, ⟨c1, c2, c3⟩⟩ := apart2 hT hG h1 h2
  unfold Go.Proofs.Ythpnelbciibjeaa.putLed
  refine ⟨?_, ?_, ?_⟩
  · rw [List.getElem?_set_ne (Ne.symm h1), List.getElem?_set_ne (Ne.symm a2), List.getElem?_set_ne (Ne.symm a1)]; exact hT.box
  · rw [List.getElem?_set_ne (Ne.symm b1), List.getElem?_set_ne (Ne.symm b2), List.getElem?_set_ne (Ne.symm h2)]; exact hT.map
  · rw [List.getElem?_set_ne (Ne.symm c1), List.getElem?_set_ne (Ne.symm c3), List.getElem?_set_ne (Ne.symm c2)]; exact hT.tok

structure TabI (L : List (List UInt8)) : Prop where
  nd : L.Nodup
  len : L.length ≤ 1048576
  each : ∀ b ∈ L, b.length ≤ 1073741824
theorem TabI.nil : TabI [] := ⟨.nil, by simp, by simp⟩
theorem TabI.sum {L : List (List UInt8)} (h : TabI L) {b : List UInt8} (hb : b.length ≤ 1073741824) : TabI (zfP L b) := by
  unfold zfP
  cases ho : zjk L b with
  | some k => exact h
  | none =>
    simp only
    split
    · exact h
    · rename_i hl
      have hn : b ∉ L := fun hm => by
        obtain ⟨i, hi⟩ := List.mem_iff_getElem?.1 hm
        exact znK ho hm
      refine ⟨?_, by simp; omega, fun x hx => ?_⟩
      · rw [List.nodup_append]
        refine ⟨h.nd, by simp, fun a ha c hc => ?_⟩
        simp at hc; subst hc
        exact fun e => hn (e ▸ ha)
      · rcases List.mem_append.1 hx with hx | hx
        · exact h.each x hx
        · simp at hx; subst hx; exact hb
end Go.Proofs.Ythpnelbciibjeaa
