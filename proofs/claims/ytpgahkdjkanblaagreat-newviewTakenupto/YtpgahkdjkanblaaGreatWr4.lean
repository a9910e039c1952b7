/- Contracts: the bytes of messages with and without their signature, the program's: view-changes and new views. -/
import Derived.Test.YtpgahkdjkanblaaGreatWr2
import Derived.Test.YtpgahkdjkanblaaGreatQu1
import Derived.Test.YtpgahkdjkanblaaGreatSpTab
set_option linter.all false
set_option maxRecDepth 100000
set_option linter.unusedSimpArgs false
set_option linter.unusedVariables false
namespace Go.Proofs.YtpgahkdjkanblaaGreat
open Go.AW

theorem c_mBytes7 {σ : List zd} {m : zes} (hm : zcH m) (hk : m.kind = 7) {K : KT} (hK : K (.tup [.d (.slice (bcs (zqq m))), .d (.int .i64 (zcK m))]) σ) :
    zl Tryz.prog zgr [zlf m] σ K := by
  refine ze zgA.is rfl fun hl _ => zgA.goes ?_
  have fin : ∀ x z, zqq m = x → zcK m = z → K (.tup [.d (.slice (bcs x)), .d (.int .i64 z)]) σ := fun x z h h' => h ▸ h' ▸ hK
  clear hK
  simp only [zjE, iN, bT, bF, eN]
  refine zaF ?_
  refine c_mCheck7 (m := m) hm hk ?_
  cases h1 : (zbO m != 0)
  rotate_left
  · have h1' : zbO m ≠ 0 := by simpa using h1
    have e1 : zcK m = zbO m := by simp [zcK, h1']
    have e2 : zqq m = [] := by simp [zqq, e1, h1']
    refine zay h1 ?_
    refine zV hl ?_
    exact fin _ _ e2 e1
  have h1' : zbO m = 0 := by simpa using h1
  obtain ⟨c, hc, he⟩ := check7 hk h1'
  obtain ⟨he1, he2⟩ := zpx he
  have hgx : (zaL m.changes)[0]? = some (zbH c) := by rw [hc]; rfl
  have hgl : (zaL m.changes).length = 1 := by rw [hc]; rfl
  have n0 := zC (n := m.kind.toNat) (by omega)
  have n1 := zsE he1
  have n2 := zfF he2
  have hu : zpS m = zdv m.kind.toNat ++ zvf c := by simp [zpS, hk, hc]
  have hf : zru m = zpS m ++ zie c.key c.dig := by simp [zru, ownS, hk, hc]
  refine zay h1 ?_
  refine zl.pre (.dataB (σ.length + 1) 0 [.exact []] (.exact []) [] (by simp) rfl rfl (.refl _ _)) ?_
  have hW : ((σ ++ [msgO m, .box [.exact []]]).set (σ.length + 1) (.box (([AV.exact []] : List AV).set 0 (.d (.slice []))))) = σ ++ [msgO m, wO []] := by rw [zF]; rfl
  rw [hW]
  refine c_wUns7 (b := []) (m := m) (c := c) (by rw [zn]; rfl) (by simp) hk hc he1 ?_
  rw [zF]
  refine znN (zq (show (m.kind == 1) = false by rw [hk]; rfl) (zq (show (m.kind == 2) = false by rw [hk]; rfl) (zq (show (m.kind == 3) = false by rw [hk]; rfl) (zq (show (m.kind == 4) = false by rw [hk]; rfl) (zq (show (m.kind == 5) = false by rw [hk]; rfl) (zq (show (m.kind == 6) = false by rw [hk]; rfl) (zq (show (m.kind == 7) = true by rw [hk]; rfl) (zq (show (m.kind == 8) = false by rw [hk]; rfl) (zq (show (m.kind == 9) = false by rw [hk]; rfl) (zq (show (m.kind == 10) = false by rw [hk]; rfl) (zq (show (m.kind == 11) = false by rw [hk]; rfl) (zq (show (m.kind == 12) = false by rw [hk]; rfl) (zq hgx hgl))))))))))))) ?_
  refine zuX (b := zpS m) (by rw [zn]; rfl) (by rw [hu]; simp only [List.length_append]; omega) he2 ?_
  rw [zF]
  refine zaF ?_
  refine c_wShort (b := zpS m ++ zie c.key c.dig) (by rw [zn]; rfl) ?_
  have hlen : ¬ (zpS m ++ zie c.key c.dig).length > 262144 := by rw [hu]; simp only [List.length_append]; omega
  rw [if_neg hlen, if_neg hlen]
  refine zaF ?_
  refine zV hl ?_
  have e1 : zcK m = 0 := by simp only [zcK, h1', ne_eq, not_true, if_false, hf, hlen]
  refine fin _ _ ?_ e1
  simp [zqq, e1, hf]
theorem c_mBytes8 {σ : List zd} {m : zes} (hm : zcH m) (hk : m.kind = 8) {K : KT} (hK : K (.tup [.d (.slice (bcs (zqq m))), .d (.int .i64 (zcK m))]) σ) :
    zl Tryz.prog zgr [zlf m] σ K := by
  refine ze zgA.is rfl fun hl _ => zgA.goes ?_
  have fin : ∀ x z, zqq m = x → zcK m = z → K (.tup [.d (.slice (bcs x)), .d (.int .i64 z)]) σ := fun x z h h' => h ▸ h' ▸ hK
  clear hK
  simp only [zjE, iN, bT, bF, eN]
  refine zaF ?_
  refine c_mCheck8 (m := m) hm hk ?_
  cases h1 : (zbO m != 0)
  rotate_left
  · have h1' : zbO m ≠ 0 := by simpa using h1
    have e1 : zcK m = zbO m := by simp [zcK, h1']
    have e2 : zqq m = [] := by simp [zqq, e1, h1']
    refine zay h1 ?_
    refine zV hl ?_
    exact fin _ _ e2 e1
  have h1' : zbO m = 0 := by simpa using h1
  obtain ⟨he1, he2⟩ := check8 hk h1'
  have n0 := zC (n := m.kind.toNat) (by omega)
  have n1 := newvB_len he1
  have n2 := zfF he2
  have hu : zpS m = zdv m.kind.toNat ++ newvB m := by simp [zpS, hk]
  have hf : zru m = zpS m ++ zie m.key m.sdig := by simp [zru, ownS, hk]
  refine zay h1 ?_
  refine zl.pre (.dataB (σ.length + 1) 0 [.exact []] (.exact []) [] (by simp) rfl rfl (.refl _ _)) ?_
  have hW : ((σ ++ [msgO m, .box [.exact []]]).set (σ.length + 1) (.box (([AV.exact []] : List AV).set 0 (.d (.slice []))))) = σ ++ [msgO m, wO []] := by rw [zF]; rfl
  rw [hW]
  refine c_wUns8 (b := []) (m := m) (by rw [zn]; rfl) (by simp) hk he1 ?_
  rw [zF]
  refine zay (zq (show (m.kind == 1) = false by rw [hk]; rfl) (zq (show (m.kind == 2) = false by rw [hk]; rfl) (zq (show (m.kind == 3) = false by rw [hk]; rfl) (zq (show (m.kind == 4) = false by rw [hk]; rfl) (zq (show (m.kind == 5) = false by rw [hk]; rfl) (zq (show (m.kind == 6) = false by rw [hk]; rfl) (zq (show (m.kind == 7) = false by rw [hk]; rfl) (zq (show (m.kind == 8) = true by rw [hk]; rfl) (zq (show (m.kind == 9) = false by rw [hk]; rfl) (zq (show (m.kind == 10) = false by rw [hk]; rfl) (zq (show (m.kind == 11) = false by rw [hk]; rfl) (show (m.kind == 12) = false by rw [hk]; rfl)))))))))))) ?_
  refine zkS ?_
  refine zay (show ownK m.kind = true by rw [hk]; rfl) ?_
  refine zuX (b := zpS m) (by rw [zn]; rfl) (by rw [hu]; simp only [List.length_append]; omega) he2 ?_
  rw [zF]
  refine zaF ?_
  rw [← hf]
  have hS : (σ ++ List.set [msgO m, wO (zpS m)] 1 (wO (zru m)))[σ.length + 1]? = some (wO (zru m)) := by rw [zn]; rfl
  refine c_wShort (b := zru m) hS ?_
  by_cases hlen : (zru m).length > 262144
  · have e1 : zcK m = 3 := by simp only [zcK, h1', ne_eq, not_true, if_false, hlen, if_true]
    have e2 : zqq m = [] := by simp [zqq, e1]
    rw [if_pos hlen, if_pos hlen]
    refine zaF ?_
    refine zV hl ?_
    exact fin _ _ e2 e1
  · have e1 : zcK m = 0 := by simp only [zcK, h1', ne_eq, not_true, if_false, hlen]
    have e2 : zqq m = zru m := by simp [zqq, e1]
    rw [if_neg hlen, if_neg hlen]
    refine zaF ?_
    refine zV hl ?_
    exact fin _ _ e2 e1
theorem c_mSome {σ : List zd} {K : KT} (hK : K (.agg [.d (.int .i64 0), .d (.int .i64 1)]) σ) : zl Tryz.prog zhx [] σ K := by
  refine ze zoc.is rfl fun hl _ => zoc.goes ?_
  simp only [zoo, iN, bT, bF, eN]
  refine zaF ?_
  refine zV hl ?_
  exact hK
end Go.Proofs.YtpgahkdjkanblaaGreat

/- Contracts: tables of byte strings and ledgers of signatures, as the program keeps them. -/
set_option maxRecDepth 100000
set_option linter.unusedSimpArgs false
set_option linter.unusedVariables false
namespace Go.Proofs.YtpgahkdjkanblaaGreat
open Go.AW

structure zdG (σ : List zd) (id m t : Nat) (l : List (List UInt8)) : Prop where
  box : σ[id]? = some (.box [.own t (zkw l), .map m])
  map : σ[m]? = some (.map (tabM l))
  tok : σ[t]? = some (.tok 1 l.length)
structure zdu (σ : List zd) (id m t : Nat) (g : List zt) : Prop where
  box : σ[id]? = some (.box [.own t (zsa g), .map m])
  map : σ[m]? = some (.map (ledM g))
  tok : σ[t]? = some (.tok 2 g.length)
def putTab (σ : List zd) (id m t : Nat) (l : List (List UInt8)) : List zd := ((σ.set t (.tok 1 l.length)).set id (.box [.own t (zkw l), .map m])).set m (.map (tabM l))
def putLed (σ : List zd) (id m t : Nat) (g : List zt) : List zd := ((σ.set m (.map (ledM g))).set t (.tok 2 g.length)).set id (.box [.own t (zsa g), .map m])
abbrev zrH (n : Nat) (l : List (List UInt8)) : List zd := [.map (tabM l), .box [.own (n + 2) (zkw l), .map n], .tok 1 l.length]
abbrev ledO (n : Nat) (g : List zt) : List zd := [.map (ledM g), .box [.own (n + 2) (zsa g), .map n], .tok 2 g.length]
theorem zdG.ne {σ : List zd} {id m t : Nat} {l : List (List UInt8)} (h : zdG σ id m t l) : id ≠ m ∧ id ≠ t ∧ m ≠ t := by
  refine ⟨fun e => ?_, fun e => ?_, fun e => ?_⟩ <;> subst e
  · have := h.box; rw [h.map] at this; cases this
  · have := h.box; rw [h.tok] at this; cases this
  · have := h.map; rw [h.tok] at this; cases this
theorem zdu.ne {σ : List zd} {id m t : Nat} {g : List zt} (h : zdu σ id m t g) : id ≠ m ∧ id ≠ t ∧ m ≠ t := by
  refine ⟨fun e => ?_, fun e => ?_, fun e => ?_⟩ <;> subst e
  · have := h.box; rw [h.map] at this; cases this
  · have := h.box; rw [h.tok] at this; cases this
  · have := h.map; rw [h.tok] at this; cases this
theorem zdG.self {σ : List zd} {id m t : Nat} {l : List (List UInt8)} (h : zdG σ id m t l) : putTab σ id m t l = σ := by
  unfold putTab
  rw [zeu h.tok, zeu h.box, zeu h.map]
theorem zdu.self {σ : List zd} {id m t : Nat} {g : List zt} (h : zdu σ id m t g) : putLed σ id m t g = σ := by
  unfold putLed
  rw [zeu h.map, zeu h.tok, zeu h.box]
theorem zdG.app {σ : List zd} {id m t : Nat} {l : List (List UInt8)} (h : zdG σ id m t l) (τ : List zd) : zdG (σ ++ τ) id m t l := ⟨zM h.box, zM h.map, zM h.tok⟩
theorem zdu.app {σ : List zd} {id m t : Nat} {g : List zt} (h : zdu σ id m t g) (τ : List zd) : zdu (σ ++ τ) id m t g := ⟨zM h.box, zM h.map, zM h.tok⟩
theorem tabAt_new (σ : List zd) (l : List (List UInt8)) (τ : List zd) : zdG (σ ++ (zrH σ.length l ++ τ)) (σ.length + 1) σ.length (σ.length + 2) l :=
  ⟨by rw [zn]; rfl, by rw [zo]; rfl, by rw [zn]; rfl⟩
theorem ledAt_new (σ : List zd) (g : List zt) (τ : List zd) : zdu (σ ++ (ledO σ.length g ++ τ)) (σ.length + 1) σ.length (σ.length + 2) g :=
  ⟨by rw [zn]; rfl, by rw [zo]; rfl, by rw [zn]; rfl⟩
theorem zts (σ : List zd) (l l' : List (List UInt8)) (τ : List zd) : putTab (σ ++ (zrH σ.length l ++ τ)) (σ.length + 1) σ.length (σ.length + 2) l' = σ ++ (zrH σ.length l' ++ τ) := by
  unfold putTab
  rw [zF, zF, zA]; rfl
theorem putLed_new (σ : List zd) (g g' : List zt) (τ : List zd) : putLed (σ ++ (ledO σ.length g ++ τ)) (σ.length + 1) σ.length (σ.length + 2) g' = σ ++ (ledO σ.length g' ++ τ) := by
  unfold putLed
  rw [zA, zF, zF]; rfl
theorem zqe {σ : List zd} {id m t : Nat} {l : List (List UInt8)} (h : zdG σ id m t l) (l' : List (List UInt8)) (τ : List zd) : putTab (σ ++ τ) id m t l' = putTab σ id m t l' ++ τ := by
  have h1 := zcx h.box; have h2 := zcx h.map; have h3 := zcx h.tok
  unfold putTab
  rw [List.set_append_left _ _ h3, List.set_append_left _ _ (by simpa using h1), List.set_append_left _ _ (by simpa using h2)]
theorem zqg {σ : List zd} {id m t : Nat} {g : List zt} (h : zdu σ id m t g) (g' : List zt) (τ : List zd) : putLed (σ ++ τ) id m t g' = putLed σ id m t g' ++ τ := by
  have h1 := zcx h.box; have h2 := zcx h.map; have h3 := zcx h.tok
  unfold putLed
  rw [List.set_append_left _ _ h2, List.set_append_left _ _ (by simpa using h3), List.set_append_left _ _ (by simpa using h1)]
theorem znx (σ : List zd) (id m t : Nat) (l : List (List UInt8)) : (putTab σ id m t l).length = σ.length := by simp [putTab]
theorem ztt (σ : List zd) (id m t : Nat) (g : List zt) : (putLed σ id m t g).length = σ.length := by simp [putLed]
theorem zqs {n : Nat} (l : List (List UInt8)) : zrE n (.map (tabM l)) := by
  have key : ∀ (l : List (List UInt8)) (i : Nat), ∀ e ∈ zsY l i, Low n e.1 ∧ Low n e.2 := by
    intro l
    induction l with
    | nil => intro i e h; cases h
    | cons x r ih =>
      intro i e h
      simp only [zsY, List.mem_cons] at h
      rcases h with rfl | h
      · exact ⟨.d _, .d _⟩
      · exact ih _ e h
  exact fun e he => key l 0 e he
theorem zqt {n : Nat} (g : List zt) : zrE n (.map (ledM g)) := by
  intro e he
  simp only [ledM, List.mem_map] at he
  obtain ⟨s, _, rfl⟩ := he
  exact ⟨.agg _ (by simp [zjI]), .d _⟩
theorem ztC {n t m : Nat} {es : List (List D)} (ht : t < n) (hm : m < n) : zrE n (.box [.own t es, .map m]) := by
  intro c hc
  simp only [List.mem_cons, List.not_mem_nil, or_false] at hc
  rcases hc with rfl | rfl
  · exact .own _ _ ht
  · exact .map _ hm
theorem zdG.lows {σ : List zd} {id m t : Nat} {l : List (List UInt8)} (h : zdG σ id m t l) (hl : zin σ.length σ) (l' : List (List UInt8)) : zin σ.length (putTab σ id m t l') :=
  ((hl.setO (show zrE _ (.tok 1 l'.length) from trivial)).setO (ztC (zcx h.tok) (zcx h.map))).setO (zqs l')
theorem zdu.lows {σ : List zd} {id m t : Nat} {g : List zt} (h : zdu σ id m t g) (hl : zin σ.length σ) (g' : List zt) : zin σ.length (putLed σ id m t g') :=
  ((hl.setO (zqt g')).setO (show zrE _ (.tok 2 g'.length) from trivial)).setO (ztC (zcx h.tok) (zcx h.map))
theorem low_tabO (n : Nat) (l : List (List UInt8)) : ∀ x ∈ zrH n l, zrE (n + (zrH n l).length) x := by
  intro x hx
  simp only [List.mem_cons, List.not_mem_nil, or_false] at hx
  rcases hx with rfl | rfl | rfl
  · exact zqs l
  · exact ztC (by simp) (by simp)
  · trivial
theorem low_ledO (n : Nat) (g : List zt) : ∀ x ∈ ledO n g, zrE (n + (ledO n g).length) x := by
  intro x hx
  simp only [List.mem_cons, List.not_mem_nil, or_false] at hx
  rcases hx with rfl | rfl | rfl
  · exact zqt g
  · exact ztC (by simp) (by simp)
  · trivial
end Go.Proofs.YtpgahkdjkanblaaGreat
