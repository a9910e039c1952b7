/- A table and a ledger of the law's own. -/
import Derived.Test.YthmdpooklflkfaaRq5
set_option linter.all false
set_option maxRecDepth 100000
set_option linter.unusedSimpArgs false
set_option linter.unusedVariables false
namespace Go.Proofs.Ythmdpooklflkfaa
open Go.AW

/-- a table and a ledger, made one after the other behind a -/
structure TLs (a : Nat) (S : List AObj) (L : List (List UInt8)) (G : List TSign) : Prop where
  tab : TabAt S (a + 1) a (a + 2) L
  led : LedAt S (a + 4) (a + 3) (a + 5) G
theorem TLs.app {a : Nat} {S : List AObj} {L : List (List UInt8)} {G : List TSign} (h : TLs a S L G) (τ : List AObj) : TLs a (S ++ τ) L G := ⟨h.tab.app τ, h.led.app τ⟩
def putTL (a : Nat) (S : List AObj) (L : List (List UInt8)) (G : List TSign) : List AObj := putLed (putTab S (a + 1) a (a + 2) L) (a + 4) (a + 3) (a + 5) G
theorem TLs.put {a : Nat} {S : List AObj} {L : List (List UInt8)} {G : List TSign} (h : TLs a S L G) (L' : List (List UInt8)) (G' : List TSign) : TLs a (putTL a S L' G') L' G' :=
  ⟨(h.tab.put L').putLed (LedAt.putTab h.tab h.led (by omega) (by omega) L') (by omega) (by omega) G', (LedAt.putTab h.tab h.led (by omega) (by omega) L').put G'⟩
theorem TLs.put_app {a : Nat} {S : List AObj} {L : List (List UInt8)} {G : List TSign} (h : TLs a S L G) (L' : List (List UInt8)) (G' : List TSign) (τ : List AObj) : putTL a (S ++ τ) L' G' = putTL a S L' G' ++ τ := by
  unfold putTL
  rw [putTab_app h.tab, putLed_app (LedAt.putTab h.tab h.led (by omega) (by omega) L')]
theorem putTL_len (a : Nat) (S : List AObj) (L : List (List UInt8)) (G : List TSign) : (putTL a S L G).length = S.length := by simp [putTL, putTab, putLed]
theorem putTL_pre {a : Nat} {σ T : List AObj} (h : σ.length ≤ a) (L : List (List UInt8)) (G : List TSign) : ∃ T', putTL a (σ ++ T) L G = σ ++ T' := by
  unfold putTL putTab putLed
  repeat rw [List.set_append_right _ _ (by omega)]
  exact ⟨_, rfl⟩
theorem TLs.self {a : Nat} {S : List AObj} {L : List (List UInt8)} {G : List TSign} (h : TLs a S L G) : putTL a S L G = S := by
  unfold putTL; rw [h.tab.self, h.led.self]
theorem c_newTL {σ : List AObj} {K : AV → AV → List AObj → Prop} (hK : ∀ T, T.length = 6 → TLs σ.length (σ ++ T) [] [] → K (.box (σ.length + 1) 0) (.box (σ.length + 4) 0) (σ ++ T)) :
    ACall Try.prog n_ideal_NewTable [] σ fun v1 s2 => ACall Try.prog n_ideal_NewLedger [] s2 fun v3 s4 => K v1 v3 s4 := by
  refine c_NewTable (c_NewLedger ?_)
  have hl : (σ ++ tabO σ.length []).length = σ.length + 3 := by simp
  have h1 := (tabAt_new σ [] []).app (ledO (σ ++ tabO σ.length []).length [])
  have h2 := ledAt_new (σ ++ tabO σ.length []) [] []
  rw [List.append_nil] at h1 h2
  rw [hl] at h1 h2 ⊢
  have := hK (tabO σ.length [] ++ ledO (σ.length + 3) []) rfl
  rw [← List.append_assoc] at this
  exact this ⟨h1, h2⟩
/-- Seal, Valid and Digest among a table and a ledger of the law's own -/
theorem c_sealTL {a : Nat} {S τ : List AObj} {L : List (List UInt8)} {G : List TSign} {x : TSigned} (h : TLs a S L G) (hL : TabI L) (hGl : G.length ≤ 1073741824) (hx : opSz x.op ≤ 20971520) {K : AV → List AObj → Prop}
    (hK : ∀ S', S'.length = S.length → TLs a S' (sealL L x) (sealG L G x) → S' = putTL a S (sealL L x) (sealG L G x) → K (.tup [signedA (sealS L x), .d (.int .i64 (sealE L x))]) (S' ++ τ)) :
    ACall Try.prog n_request_Seal [.box (a + 1) 0, .box (a + 4) 0, reqA x] (S ++ τ) K := by
  refine c_rqSeal (h.tab.app τ) (h.led.app τ) (by omega) (by omega) hL hGl hx ?_
  have := h.put_app (sealL L x) (sealG L G x) τ
  unfold putTL at this
  rw [this]
  exact hK _ (putTL_len ..) (h.put _ _) rfl
theorem TabI.dig {L : List (List UInt8)} (h : TabI L) {l : List TSigned} (hx : ∀ s ∈ l, opSz s.op ≤ 20971520) : TabI (digL L l) := by
  unfold digL
  split
  · exact h
  · rename_i hc
    have := batchBytes_len hx
    rw [batchBytesF, if_pos (by simpa using hc)] at this
    exact h.sum (by omega)
end Go.Proofs.Ythmdpooklflkfaa
