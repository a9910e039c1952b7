/- A table and a ledger of the law's own. -/
import Derived.Test.YthpnelbciibjeaaGreatSpChk
set_option linter.all false
set_option maxRecDepth 100000
set_option linter.unusedSimpArgs false
set_option linter.unusedVariables false
namespace Go.Proofs.YthpnelbciibjeaaGreat
open Go.AW

structure TLs (a : Nat) (S : List zc) (L : List (List UInt8)) (G : List zcb) : Prop where
  tab : zbC S (a + 1) a (a + 2) L
  led : zgN S (a + 4) (a + 3) (a + 5) G
theorem TLs.app {a : Nat} {S : List zc} {L : List (List UInt8)} {G : List zcb} (h : TLs a S L G) (τ : List zc) : TLs a (S ++ τ) L G := ⟨h.tab.app τ, h.led.app τ⟩
def putTL (a : Nat) (S : List zc) (L : List (List UInt8)) (G : List zcb) : List zc := putLed (putTab S (a + 1) a (a + 2) L) (a + 4) (a + 3) (a + 5) G
theorem TLs.put {a : Nat} {S : List zc} {L : List (List UInt8)} {G : List zcb} (h : TLs a S L G) (L' : List (List UInt8)) (G' : List zcb) : TLs a (putTL a S L' G') L' G' :=
  ⟨(h.tab.put L').putLed (zgN.putTab h.tab h.led (by omega) (by omega) L') (by omega) (by omega) G', (zgN.putTab h.tab h.led (by omega) (by omega) L').put G'⟩
theorem TLs.self {a : Nat} {S : List zc} {L : List (List UInt8)} {G : List zcb} (h : TLs a S L G) : putTL a S L G = S := by
  unfold putTL; rw [h.tab.self, h.led.self]
theorem zhJ.dig {L : List (List UInt8)} (h : zhJ L) {l : List zf} (hx : ∀ s ∈ l, zfc s.op ≤ 20971520) : zhJ (zdF L l) := by
  unfold zdF
  split
  · exact h
  · rename_i hc
    have := zgn hx
    rw [zda, if_pos (by simpa using hc)] at this
    exact h.sum (by omega)
end Go.Proofs.YthpnelbciibjeaaGreat
