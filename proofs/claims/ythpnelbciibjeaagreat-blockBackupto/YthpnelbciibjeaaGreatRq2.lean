/- Contracts: the bytes of requests, signatures and batches. -/
import Derived.Test.YthpnelbciibjeaaGreatOp1
import Derived.Test.YthpnelbciibjeaaGreatRc2
import Derived.Test.YthpnelbciibjeaaGreatSpUtf
import Derived.Test.YthpnelbciibjeaaGreatId3
set_option linter.all false
set_option maxRecDepth 100000
set_option linter.unusedSimpArgs false
set_option linter.unusedVariables false
namespace Go.Proofs.YthpnelbciibjeaaGreat
open Go.AW

theorem sizes {x : zi} (h : zme x.op ≤ 20971520) : okO x.op := by
  have h0 := h
  unfold zme at h
  refine ⟨by omega, by omega, ?_, fun r hr => ?_⟩
  · have := ziP x.op.recs; omega
  · have := rec_le hr; omega
theorem c_rqBytes {σ : List zc} {x : zi} (hx : zme x.op ≤ 20971520) {K : AV → List zc → Prop} (hK : K (.tup [.d (.slice (bcs (zfh x))), .d (.int .i64 (zan x))]) σ) : zt Tryz.prog zfk [reqA x] σ K := by
  refine ziI zmy fun hl => ?_
  have hsz := sizes hx
  simp only [zhz, iN, bT, bF, eN, reqA]
  refine gq21 ?_
  refine c_rqCheck (x := x) hsz ?_
  by_cases hc : zan x = 0
  · obtain ⟨c0, c8, t1, t2, ho⟩ := req_ok hc
    have hb : (zan x != 0) = false := by simpa using hc
    have n1 := zk (n := x.client.toNat) (by omega)
    have n2 := zk (n := x.time.toNat) (by omega)
    have w1 : IntKind.u64.wrap x.client = ((x.client.toNat : Nat) : Int) := by
      rw [show x.client = ((x.client.toNat : Nat) : Int) by omega, zbP (by omega)]; rfl
    have w2 : IntKind.u64.wrap x.time = ((x.time.toNat : Nat) : Int) := by
      rw [show x.time = ((x.time.toNat : Nat) : Int) by omega, zbP (by omega)]; rfl
    rw [hc, zfh, if_pos hc] at hK
    refine zne (zgA hb (zgA w1 w2)) ?_
    refine zcG (b := []) (by omega) (by simp) ?_
    refine zne (zgA w1 w2) ?_
    refine zcG (by omega) (by first | omega | (simp; omega)) ?_
    refine zne (zgA w1 w2) ?_
    refine c_Put (o := x.op) (by first | omega | (simp; omega)) (by omega) ?_
    refine gq21 ?_
    refine zcg hl ?_
    rw [if_pos ho]
    exact hK
  · have hb : (zan x != 0) = true := by simpa using hc
    rw [zfh, if_neg hc] at hK
    refine zne hb ?_
    refine zcg hl ?_
    exact hK
theorem c_PutSign {σ : List zc} {b : List UInt8} {k d : Int} (hb : b.length ≤ 1073741700) {K : AV → List zc → Prop} (hK : K (.d (.slice (bcs (b ++ zhL k d)))) σ) :
    zt Tryz.prog zed [.d (.slice (bcs b)), .agg [.d (.int .i64 k), .d (.int .i64 d)]] σ K := by
  refine zlh zkE fun hl => ?_
  simp only [zgv, iN, bT, bF, eN]
  refine gq21 ?_
  refine zjQ ?_
  by_cases hc : zaE k d = 0
  · obtain ⟨k0, k1, d0, d1⟩ := sign_ok hc
    have hq : (zaE k d != 0) = false := by simpa using hc
    have n1 := zk (n := k.toNat) (by omega)
    have w1 : IntKind.u64.wrap k = ((k.toNat : Nat) : Int) := by
      rw [show k = ((k.toNat : Nat) : Int) by omega, zbP (by omega)]; rfl
    have w2 : IntKind.u64.wrap d = ((d.toNat : Nat) : Int) := by
      rw [show d = ((d.toNat : Nat) : Int) by omega, zbP (by omega)]; rfl
    rw [zhL, if_pos hc] at hK
    refine zne (zgA hq (zgA w1 w2)) ?_
    refine zcG (by omega) (by omega) ?_
    refine zne (zgA w1 w2) ?_
    refine zcG (by omega) (by first | omega | (simp; omega)) ?_
    refine gq21 ?_
    refine zcg hl ?_
    exact hK
  · have hq : (zaE k d != 0) = true := by simpa using hc
    rw [zhL, if_neg hc, List.append_nil] at hK
    refine zne hq ?_
    refine zeW zdo (by rw [zaN]; omega) ?_
    refine gq21 ?_
    refine zcg hl ?_
    exact hK
theorem c_partsPut {σ : List zc} {b : List UInt8} {l : List zi} (hb : b.length ≤ 268435456) (hs : ∀ x ∈ l, zme x.op ≤ 20971520) (hc : zF l = 0) {K : AV → List zc → Prop} (hK : K (.d (.slice (bcs (b ++ zfP l)))) σ) :
    zt Tryz.prog zdk [.d (.slice (zlg l)), .d (.slice (bcs b))] σ K := by
  refine zlh zja fun hl => ?_
  obtain ⟨h4, hm, _⟩ := zoU hc
  have n1 := zk (n := l.length) (by omega)
  have w1 : IntKind.u64.wrap (l.length : Int) = (l.length : Int) := zbP (by omega)
  simp only [zfz, iN, bT, bF, eN, zl0]
  refine zne w1 ?_
  refine zcG (by omega) (by omega) ?_
  refine gq21 ?_
  refine zdu l.length (fun k vs s => (∃ T, s = σ ++ T) ∧ vs = [.d (.slice (bcs (b ++ (zbc l.length ++ zgb (l.take k))))), .d (.int .i64 k)])
    (.data 0 _ _ rfl rfl (.refl _ _)) ⟨⟨_, rfl⟩, by simp [zgb]⟩ ?_
  rintro k vs s hk ⟨⟨T, rfl⟩, rfl⟩
  by_cases hlt : k < l.length
  · have hd : decide ((k : Int) < (l.length : Int)) = true := by simp; omega
    have hx : l[k]? = some l[k] := by simp [hlt]
    have hgx := zef (f := zfW) hx
    have hxs := hs _ (List.getElem_mem hlt)
    have hxm := hm _ (List.getElem_mem hlt)
    obtain ⟨x, hxe⟩ : ∃ x, l[k] = x := ⟨_, rfl⟩
    rw [hxe] at hx hgx hxs hxm
    have hbl := zmL hs hc k
    have hrl := reqBytes_len hxs
    have hpl := zdB (x := zfh x) (by omega)
    obtain ⟨S, hS⟩ : ∃ S, σ ++ T = S := ⟨_, rfl⟩
    rw [hS]
    refine gq23 (zgA hd hgx) ?_
    refine c_rqBytes (x := x) hxs ?_
    refine gq23 (zgA hd hgx) ?_
    refine zff (by omega) (by simp; omega) ?_
    refine gq23 (zgA hd hgx) ?_
    refine c_PutSign (by simp only [zjl, List.length_append] at hpl ⊢; omega) ?_
    refine zne (wk1 k (by omega)) ?_
    refine zdb.next hlt ⟨⟨_, by rw [← hS, List.append_assoc]⟩, ?_⟩
    rw [batchBs_snoc hx]
    simp [oneB, zjl, zfh, zhL, hxm.1, hxm.2]
  · have hd : decide ((k : Int) < (l.length : Int)) = false := by simp; omega
    rw [List.take_of_length_le (by omega)]
    refine zne hd ?_
    refine zcg hl ?_
    exact hK
theorem c_PutBatch {σ : List zc} {b : List UInt8} {l : List zi} (hb : b.length ≤ 268435456) (hs : ∀ x ∈ l, zme x.op ≤ 20971520) (hl0 : l.length ≤ 1073741824) {K : AV → List zc → Prop} (hK : K (.d (.slice (bcs (b ++ zdp l)))) σ) :
    zt Tryz.prog zdE [.d (.slice (bcs b)), .d (.slice (zlg l))] σ K := by
  refine zlh zjJ fun hl => ?_
  have hok : okB l := ⟨hl0, fun x hx => sizes (hs x hx)⟩
  simp only [zfR, iN, bT, bF, eN]
  refine gq21 ?_
  refine zlf hok ?_
  by_cases hc : zF l = 0
  · have hq : (zF l != 0) = false := by simpa using hc
    rw [zdp, if_pos hc] at hK
    refine zne hq ?_
    refine c_partsPut hb hs hc ?_
    refine gq21 ?_
    refine zcg hl ?_
    exact hK
  · have hq : (zF l != 0) = true := by simpa using hc
    rw [zdp, if_neg hc, List.append_nil] at hK
    refine zne hq ?_
    refine zeW zdo (by rw [zaN]; omega) ?_
    refine gq21 ?_
    refine zcg hl ?_
    exact hK

theorem zby.put {σ : List zc} {id m t : Nat} {l : List (List UInt8)} (h : zby σ id m t l) (l' : List (List UInt8)) : zby (putTab σ id m t l') id m t l' := by
  obtain ⟨n1, n2, n3⟩ := h.ne
  have h1 := zl h.box; have h2 := zl h.map; have h3 := zl h.tok
  unfold putTab
  refine ⟨?_, ?_, ?_⟩
  · rw [List.getElem?_set_ne (Ne.symm n1), List.getElem?_set_self (by simpa using h1)]
  · rw [List.getElem?_set_self (by simpa using h2)]
  · rw [List.getElem?_set_ne n3, List.getElem?_set_ne n2, List.getElem?_set_self h3]
theorem zgy.put {σ : List zc} {id m t : Nat} {g : List zeu} (h : zgy σ id m t g) (g' : List zeu) : zgy (putLed σ id m t g') id m t g' := by
  obtain ⟨n1, n2, n3⟩ := h.ne
  have h1 := zl h.box; have h2 := zl h.map; have h3 := zl h.tok
  unfold putLed
  refine ⟨?_, ?_, ?_⟩
  · rw [List.getElem?_set_self (by simpa using h1)]
  · rw [List.getElem?_set_ne n1, List.getElem?_set_ne (Ne.symm n3), List.getElem?_set_self h2]
  · rw [List.getElem?_set_ne n2, List.getElem?_set_self (by simpa using h3)]
theorem apart2 {σ : List zc} {id m t id2 m2 t2 : Nat} {l : List (List UInt8)} {g : List zeu} (hT : zby σ id m t l) (hG : zgy σ id2 m2 t2 g) (h1 : id ≠ id2) (h2 : m ≠ m2) :
    (id ≠ m2 ∧ id ≠ t2) ∧ (m ≠ id2 ∧ m ≠ t2) ∧ (t ≠ id2 ∧ t ≠ m2 ∧ t ≠ t2) := by
  refine ⟨⟨?_, ?_⟩, ⟨?_, ?_⟩, ⟨?_, ?_, ?_⟩⟩ <;> intro e <;> subst e
  · have := hT.box; rw [hG.map] at this; cases this
  · have := hT.box; rw [hG.tok] at this; cases this
  · have := hT.map; rw [hG.box] at this; cases this
  · have := hT.map; rw [hG.tok] at this; cases this
  · have := hT.tok; rw [hG.box] at this; cases this
  · have := hT.tok; rw [hG.map] at this; cases this
  · have := hT.tok; rw [hG.tok] at this; cases this
theorem zgy.putTab {σ : List zc} {id m t id2 m2 t2 : Nat} {l : List (List UInt8)} {g : List zeu} (hT : zby σ id m t l) (hG : zgy σ id2 m2 t2 g) (h1 : id ≠ id2) (h2 : m ≠ m2) (l' : List (List UInt8)) :
    zgy (putTab σ id m t l') id2 m2 t2 g := by
  obtain ⟨⟨a1, a2⟩, ⟨b1, b2⟩, ⟨c1, c2, c3⟩⟩ := apart2 hT hG h1 h2
  unfold Go.Proofs.YthpnelbciibjeaaGreat.putTab
  refine ⟨?_, ?_, ?_⟩
  · rw [List.getElem?_set_ne b1, List.getElem?_set_ne h1, List.getElem?_set_ne c1]; exact hG.box
  · rw [List.getElem?_set_ne h2, List.getElem?_set_ne a1, List.getElem?_set_ne c2]; exact hG.map
  · rw [List.getElem?_set_ne b2, List.getElem?_set_ne a2, List.getElem?_set_ne c3]; exact hG.tok
theorem zby.putLed {σ : List zc} {id m t id2 m2 t2 : Nat} {l : List (List UInt8)} {g : List zeu} (hT : zby σ id m t l) (hG : zgy σ id2 m2 t2 g) (h1 : id ≠ id2) (h2 : m ≠ m2) (g' : List zeu) :
    zby (putLed σ id2 m2 t2 g') id m t l := by
  obtain ⟨⟨a1, a2⟩, ⟨b1, b2⟩, ⟨c1, c2, c3⟩⟩ := apart2 hT hG h1 h2
  unfold Go.Proofs.YthpnelbciibjeaaGreat.putLed
  refine ⟨?_, ?_, ?_⟩
  · rw [List.getElem?_set_ne (Ne.symm h1), List.getElem?_set_ne (Ne.symm a2), List.getElem?_set_ne (Ne.symm a1)]; exact hT.box
  · rw [List.getElem?_set_ne (Ne.symm b1), List.getElem?_set_ne (Ne.symm b2), List.getElem?_set_ne (Ne.symm h2)]; exact hT.map
  · rw [List.getElem?_set_ne (Ne.symm c1), List.getElem?_set_ne (Ne.symm c3), List.getElem?_set_ne (Ne.symm c2)]; exact hT.tok

structure TabI (L : List (List UInt8)) : Prop where
  nd : L.Nodup
  len : L.length ≤ 1048576
  each : ∀ b ∈ L, b.length ≤ 1073741824
theorem TabI.nil : TabI [] := ⟨.nil, by simp, by simp⟩
theorem TabI.sum {L : List (List UInt8)} (h : TabI L) {b : List UInt8} (hb : b.length ≤ 1073741824) : TabI (zge L b) := by
  unfold zge
  cases ho : zjE L b with
  | some k => exact h
  | none =>
    simp only
    split
    · exact h
    · rename_i hl
      have hn : b ∉ L := fun hm => by
        obtain ⟨i, hi⟩ := List.mem_iff_getElem?.1 hm
        exact zou ho hm
      refine ⟨?_, by simp; omega, fun x hx => ?_⟩
      · rw [List.nodup_append]
        refine ⟨h.nd, by simp, fun a ha c hc => ?_⟩
        simp at hc; subst hc
        exact fun e => hn (e ▸ ha)
      · rcases List.mem_append.1 hx with hx | hx
        · exact h.each x hx
        · simp at hx; subst hx; exact hb
end Go.Proofs.YthpnelbciibjeaaGreat
