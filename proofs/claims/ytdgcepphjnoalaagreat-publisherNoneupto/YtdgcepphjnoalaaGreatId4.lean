/- Contracts: the document's tables and ledgers. -/
import Derived.Test.YtdgcepphjnoalaaGreatId3
import Derived.Test.YtdgcepphjnoalaaGreatRq2
set_option linter.all false
set_option maxRecDepth 100000
set_option linter.unusedSimpArgs false
set_option linter.unusedVariables false
namespace Go.Proofs.YtdgcepphjnoalaaGreat
open Go.AW

theorem wki (k : Nat) (h : k ≤ 1073741824) : IntKind.i64.wrap ((k : Int) + 1) = ((k + 1 : Nat) : Int) := by rw [zdf (by omega) (by omega)]; rfl

theorem zdT.put {σ : List zc} {id m t : Nat} {l : List (List UInt8)} (h : zdT σ id m t l) (l' : List (List UInt8)) : zdT (putTab σ id m t l') id m t l' := by
  obtain ⟨n1, n2, n3⟩ := h.ne
  have h1 := zbR h.box; have h2 := zbR h.map; have h3 := zbR h.tok
  unfold putTab
  refine ⟨?_, ?_, ?_⟩
  · rw [List.getElem?_set_ne (Ne.symm n1), List.getElem?_set_self (by simpa using h1)]
  · rw [List.getElem?_set_self (by simpa using h2)]
  · rw [List.getElem?_set_ne n3, List.getElem?_set_ne n2, List.getElem?_set_self h3]
theorem zdp.put {σ : List zc} {id m t : Nat} {g : List zS} (h : zdp σ id m t g) (g' : List zS) : zdp (putLed σ id m t g') id m t g' := by
  obtain ⟨n1, n2, n3⟩ := h.ne
  have h1 := zbR h.box; have h2 := zbR h.map; have h3 := zbR h.tok
  unfold putLed
  refine ⟨?_, ?_, ?_⟩
  · rw [List.getElem?_set_self (by simpa using h1)]
  · rw [List.getElem?_set_ne n1, List.getElem?_set_ne (Ne.symm n3), List.getElem?_set_self h2]
  · rw [List.getElem?_set_ne n2, List.getElem?_set_self (by simpa using h3)]
theorem apart2 {σ : List zc} {id m t id2 m2 t2 : Nat} {l : List (List UInt8)} {g : List zS} (hT : zdT σ id m t l) (hG : zdp σ id2 m2 t2 g) (h1 : id ≠ id2) (h2 : m ≠ m2) :
    (id ≠ m2 ∧ id ≠ t2) ∧ (m ≠ id2 ∧ m ≠ t2) ∧ (t ≠ id2 ∧ t ≠ m2 ∧ t ≠ t2) := by
  refine ⟨⟨?_, ?_⟩, ⟨?_, ?_⟩, ⟨?_, ?_, ?_⟩⟩ <;> intro e <;> subst e
  · have := hT.box; rw [hG.map] at this; cases this
  · have := hT.box; rw [hG.tok] at this; cases this
  · have := hT.map; rw [hG.box] at this; cases this
  · have := hT.map; rw [hG.tok] at this; cases this
  · have := hT.tok; rw [hG.box] at this; cases this
  · have := hT.tok; rw [hG.map] at this; cases this
  · have := hT.tok; rw [hG.tok] at this; cases this
theorem zdp.putTab {σ : List zc} {id m t id2 m2 t2 : Nat} {l : List (List UInt8)} {g : List zS} (hT : zdT σ id m t l) (hG : zdp σ id2 m2 t2 g) (h1 : id ≠ id2) (h2 : m ≠ m2) (l' : List (List UInt8)) :
    zdp (putTab σ id m t l') id2 m2 t2 g := by
  obtain ⟨⟨a1, a2⟩, ⟨b1, b2⟩, ⟨c1, c2, c3⟩⟩ := apart2 hT hG h1 h2
  unfold Go.Proofs.YtdgcepphjnoalaaGreat.putTab
  refine ⟨?_, ?_, ?_⟩
  · rw [List.getElem?_set_ne b1, List.getElem?_set_ne h1, List.getElem?_set_ne c1]; exact hG.box
  · rw [List.getElem?_set_ne h2, List.getElem?_set_ne a1, List.getElem?_set_ne c2]; exact hG.map
  · rw [List.getElem?_set_ne b2, List.getElem?_set_ne a2, List.getElem?_set_ne c3]; exact hG.tok
theorem zdT.putLed {σ : List zc} {id m t id2 m2 t2 : Nat} {l : List (List UInt8)} {g : List zS} (hT : zdT σ id m t l) (hG : zdp σ id2 m2 t2 g) (h1 : id ≠ id2) (h2 : m ≠ m2) (g' : List zS) :
    zdT (putLed σ id2 m2 t2 g') id m t l := by
  obtain ⟨⟨a1, a2⟩, ⟨b1, b2⟩, ⟨c1, c2, c3⟩⟩ := apart2 hT hG h1 h2
  unfold Go.Proofs.YtdgcepphjnoalaaGreat.putLed
  refine ⟨?_, ?_, ?_⟩
  · rw [List.getElem?_set_ne (Ne.symm h1), List.getElem?_set_ne (Ne.symm a2), List.getElem?_set_ne (Ne.symm a1)]; exact hT.box
  · rw [List.getElem?_set_ne (Ne.symm b1), List.getElem?_set_ne (Ne.symm b2), List.getElem?_set_ne (Ne.symm h2)]; exact hT.map
  · rw [List.getElem?_set_ne (Ne.symm c1), List.getElem?_set_ne (Ne.symm c3), List.getElem?_set_ne (Ne.symm c2)]; exact hT.tok

def noSg : zt := ⟨0, 0, noOp, 0, 0⟩
def sealE (L : List (List UInt8)) (x : zt) : Int := if zaA x ≠ 0 then zaA x else ziT (keyF x.client) (zie L (zpf x))
def zle (L : List (List UInt8)) (x : zt) : zt := if sealE L x = 0 then ⟨x.client, x.time, x.op, keyF x.client, zie L (zpf x)⟩ else noSg
def sealL (L : List (List UInt8)) (x : zt) : List (List UInt8) := if zaA x ≠ 0 then L else zgt L (zpf x)
def sealG (L : List (List UInt8)) (G : List zS) (x : zt) : List zS := if zaA x ≠ 0 then G else zje G (keyF x.client) (zie L (zpf x))
structure znL (L : List (List UInt8)) : Prop where
  nd : L.Nodup
  len : L.length ≤ 1048576
  each : ∀ b ∈ L, b.length ≤ 1073741824
theorem znL.nil : znL [] := ⟨.nil, by simp, by simp⟩
theorem znL.sum {L : List (List UInt8)} (h : znL L) {b : List UInt8} (hb : b.length ≤ 1073741824) : znL (zgt L b) := by
  unfold zgt
  cases ho : ziX L b with
  | some k => exact h
  | none =>
    simp only
    split
    · exact h
    · rename_i hl
      have hn : b ∉ L := fun hm => by
        obtain ⟨i, hi⟩ := List.mem_iff_getElem?.1 hm
        exact zqP ho hm
      refine ⟨?_, by simp; omega, fun x hx => ?_⟩
      · rw [List.nodup_append]
        refine ⟨h.nd, by simp, fun a ha c hc => ?_⟩
        simp at hc; subst hc
        exact fun e => hn (e ▸ ha)
      · rcases List.mem_append.1 hx with hx | hx
        · exact h.each x hx
        · simp at hx; subst hx; exact hb
theorem zrg {σ : List zc} {id m t id2 m2 t2 : Nat} {L : List (List UInt8)} {G : List zS} {x : zt} (hT : zdT σ id m t L) (hG : zdp σ id2 m2 t2 G) (h1 : id ≠ id2) (h2 : m ≠ m2) (hL : znL L) (hGl : G.length ≤ 1073741824)
    (hx : opSz x.op ≤ 20971520) {K : AV → List zc → Prop}
    (hK : K (.tup [zfO (zle L x), .d (.int .i64 (sealE L x))]) (putLed (putTab σ id m t (sealL L x)) id2 m2 t2 (sealG L G x))) : zl Tryz.prog zef [.box id 0, .box id2 0, reqA x] σ K := by
  refine acE3 zpn fun hl => ?_
  have hsz := sizes hx
  simp only [zkm, iN, bT, bF, eN, zl0, reqA]
  refine zaP ?_
  refine c_rqBytes (x := x) hx ?_
  by_cases hc : zaA x = 0
  · have hb : (zaA x != 0) = false := by simpa using hc
    have hrl := reqB_len (x := x) (by omega) hc
    refine gq27 hb ?_
    refine c_made (hT.app _) (hG.app _) hL.nd hL.len hL.each ?_
    refine zaP ?_
    refine c_rqKey ?_
    rw [show zlh x = zpf x from if_pos hc]
    refine zaP ?_
    refine c_tSum (hT.app _) (by omega) hL.len ?_
    rw [zma hT]
    simp only [sealL, sealG, hc, ne_eq, not_true_eq_false, if_false] at hK
    have e1 : sealE L x = ziT (keyF x.client) (zie L (zpf x)) := by rw [sealE, if_neg (by simpa using hc)]
    rw [e1] at hK
    have hG1 := zdp.putTab hT hG h1 h2 (zgt L (zpf x))
    have hl1 := hT.lows hl (zgt L (zpf x))
    have hs1 := zjM σ id m t (zgt L (zpf x))
    obtain ⟨S1, hS1⟩ : ∃ S1, putTab σ id m t (zgt L (zpf x)) = S1 := ⟨_, rfl⟩
    rw [hS1] at hK hG1 hs1 hl1 ⊢
    rw [← hs1] at hl1
    have r1 : σ.length = S1.length := hs1.symm
    refine gq27 r1 ?_
    refine c_gSign (hG1.app _) hGl ?_
    rw [zmb hG1]
    obtain ⟨N, hN⟩ : ∃ N, ziT (keyF x.client) (zie L (zpf x)) = N := ⟨_, rfl⟩
    have hl2 := hG1.lows hl1 (zje G (keyF x.client) (zie L (zpf x)))
    have hs2 := zpG S1 id2 m2 t2 (zje G (keyF x.client) (zie L (zpf x)))
    obtain ⟨S2, hS2⟩ : ∃ S2, putLed S1 id2 m2 t2 (zje G (keyF x.client) (zie L (zpf x))) = S2 := ⟨_, rfl⟩
    rw [hS2] at hK hs2 hl2 ⊢
    rw [← hs2] at hl2
    have r2 : σ.length = S2.length := by rw [r1]; exact hs2.symm
    have r3 : S1.length = S2.length := hs2.symm
    rw [hN] at hK ⊢
    simp only [signA]
    by_cases hN0 : N = 0
    · have hq : (N != 0) = false := by simpa using hN0
      have e2 : zle L x = ⟨x.client, x.time, x.op, keyF x.client, zie L (zpf x)⟩ := by rw [zle, if_pos (by rw [e1, hN, hN0])]
      have e3 : signR (keyF x.client) (zie L (zpf x)) = ⟨keyF x.client, zie L (zpf x)⟩ := by rw [signR, if_pos (by rw [hN, hN0])]
      rw [e2] at hK
      rw [e3]
      refine gq27 (zj hq (zj r2 r3)) ?_
      refine zhP (o := x.op) hsz.2.2.1 hsz.2.2.2 ?_
      simp only [opA]
      refine gq27 (zj hq (zj r2 r3)) ?_
      rw [hN0] at hK
      refine zhc rfl ?_ hl2 ?_
      · simp [zhZ, dmT, dm, dm1, zdg, zda, zhz]
      · exact hK
    · have hq : (N != 0) = true := by simpa using hN0
      have e2 : zle L x = noSg := by rw [zle, if_neg (by rw [e1, hN]; exact hN0)]
      rw [e2] at hK
      rw [show signR (keyF x.client) (zie L (zpf x)) = ⟨0, 0⟩ from by rw [signR, if_neg (by rw [hN]; exact hN0)]]
      refine gq27 (zj hq (zj r2 r3)) ?_
      refine zhc rfl ?_ hl2 ?_
      · simp [zhZ, dmT, dm, dm1, zdg, zda, zhz]
      · exact hK
  · have hb : (zaA x != 0) = true := by simpa using hc
    have e1 : sealE L x = zaA x := if_pos hc
    have e2 : zle L x = noSg := by rw [zle, if_neg (by rw [e1]; exact hc)]
    rw [e1, e2, sealL, sealG, if_pos hc, if_pos hc, hT.self, hG.self] at hK
    refine gq27 hb ?_
    refine zap hl ?_
    exact hK
end Go.Proofs.YtdgcepphjnoalaaGreat
