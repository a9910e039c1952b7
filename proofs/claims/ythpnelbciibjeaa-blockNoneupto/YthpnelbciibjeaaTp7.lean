/- Contracts: a batch is executed, as the document does. -/
import Derived.Test.YthpnelbciibjeaaKs2
import Derived.Test.YthpnelbciibjeaaPo1
set_option linter.all false
set_option maxRecDepth 100000
set_option linter.unusedSimpArgs false
set_option linter.unusedVariables false
namespace Go.Proofs.Ythpnelbciibjeaa
open Go.AW

structure ExecR where
  e : Int
  h : zfc
  p : List zcy
  L : List (List UInt8)
  T : zaq
structure Stays2 (σ S : List zc) (id tid : Nat) : Prop where
  len : σ.length ≤ S.length
  get : ∀ (j : Nat) (x : zc), σ[j]? = some x → j ≠ id → j ≠ tid → (∀ g sz cs, x ≠ .row g sz cs) → S[j]? = some x
theorem Stays2.app {σ : List zc} {id tid : Nat} (X : zc) (τ : List zc) : Stays2 σ (σ.set id X ++ τ) id tid :=
  ⟨by simp, fun j x hx h1 h2 h3 => zf ((List.getElem?_set_ne (Ne.symm h1)).trans hx)⟩
structure ExJ (σ : List zc) (n tid : Nat) (H P : zc) (A : List zcy × zaq) (N : List (List D)) (S : List zc) (t g : Nat) : Prop where
  top : zmh S tid t g A.2
  hb : S[n]? = some H
  zb : S[n + 1]? = some (.box [.d (.int .i64 0), .d (.int .i64 0), .d (.int .i64 0), .d (.int .i64 0), .d (.int .i64 0)])
  pb : S[n + 2]? = some P
  m : S[n + 3]? = some (.tok 3 A.1.length)
  k : S[n + 4]? = some (.tok 5 N.length)
  rest : ∀ (j : Nat) (x : zc), σ[j]? = some x → j ≠ tid → (∀ g sz cs, x ≠ .row g sz cs) → S[j]? = some x
theorem dig_len {L : List (List UInt8)} {l : List zh} (h : digE L l = 0) : l.length ≤ 4 := by
  unfold digE zC at h
  by_cases hl : l.length > 4
  · rw [if_pos hl] at h; simp at h
  · omega
theorem placedB_len' {p : zcy} (h : PlI p) : (zcg p).length ≤ 1073740000 := by
  have h1 := h.2.2.1; have h2 := h.2.2.2
  have h3 := zk (n := p.offset.toNat) (by have := h.2.1; omega)
  have h4 := zk (n := p.topic.length) (by omega)
  have h5 := zk (n := p.rec_.length) (by omega)
  simp only [zcg, ziU, List.length_append]
  omega

structure TLs (a : Nat) (S : List zc) (L : List (List UInt8)) (G : List zeu) : Prop where
  tab : zbr S (a + 1) a (a + 2) L
  led : zgo S (a + 4) (a + 3) (a + 5) G
theorem TLs.app {a : Nat} {S : List zc} {L : List (List UInt8)} {G : List zeu} (h : TLs a S L G) (τ : List zc) : TLs a (S ++ τ) L G := ⟨h.tab.app τ, h.led.app τ⟩
def putTL (a : Nat) (S : List zc) (L : List (List UInt8)) (G : List zeu) : List zc := putLed (putTab S (a + 1) a (a + 2) L) (a + 4) (a + 3) (a + 5) G
theorem TLs.put {a : Nat} {S : List zc} {L : List (List UInt8)} {G : List zeu} (h : TLs a S L G) (L' : List (List UInt8)) (G' : List zeu) : TLs a (putTL a S L' G') L' G' :=
  ⟨(h.tab.put L').putLed (zgo.putTab h.tab h.led (by omega) (by omega) L') (by omega) (by omega) G', (zgo.putTab h.tab h.led (by omega) (by omega) L').put G'⟩
theorem TLs.self {a : Nat} {S : List zc} {L : List (List UInt8)} {G : List zeu} (h : TLs a S L G) : putTL a S L G = S := by
  unfold putTL; rw [h.tab.self, h.led.self]
theorem TabI.dig {L : List (List UInt8)} (h : TabI L) {l : List zh} (hx : ∀ s ∈ l, zlx s.op ≤ 20971520) : TabI (zjN L l) := by
  unfold zjN
  split
  · exact h
  · rename_i hc
    have := ziw hx
    rw [zdn, if_pos (by simpa using hc)] at this
    exact h.sum (by omega)
end Go.Proofs.Ythpnelbciibjeaa
