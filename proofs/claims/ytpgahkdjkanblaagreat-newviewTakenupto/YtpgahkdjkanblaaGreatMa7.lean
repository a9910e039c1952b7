/- Contract: the new view that its primary tells, the document's. -/
import Derived.Test.YtpgahkdjkanblaaGreatMa6
import Derived.Test.YtpgahkdjkanblaaGreatNr2
import Derived.Test.YtpgahkdjkanblaaGreatSpPool2
import Derived.Test.YtpgahkdjkanblaaGreatSm7
set_option linter.all false
set_option maxRecDepth 100000
set_option linter.unusedSimpArgs false
set_option linter.unusedVariables false
namespace Go.Proofs.YtpgahkdjkanblaaGreat
open Go.AW

structure RR (id id2 : Nat) (σ : List zd) (L : List (List UInt8)) (G : List zt) : Prop where
  tab : σ[id]? = some (rtO L)
  led : σ[id2]? = some (rlO G)
  ne : id ≠ id2
def zqf (id id2 : Nat) (σ : List zd) (L : List (List UInt8)) (G : List zt) : List zd := (σ.set id (rtO L)).set id2 (rlO G)
section

variable {id id2 : Nat} {σ : List zd} {L : List (List UInt8)} {G : List zt}

theorem RR.app (h : RR id id2 σ L G) (τ : List zd) : RR id id2 (σ ++ τ) L G := ⟨zM h.tab, zM h.led, h.ne⟩
theorem RR.put (h : RR id id2 σ L G) (L' : List (List UInt8)) (G' : List zt) : RR id id2 (zqf id id2 σ L' G') L' G' :=
  ⟨by unfold zqf; rw [List.getElem?_set_ne (Ne.symm h.ne)]; exact zcL h.tab, by unfold zqf; exact zcL (x := rlO G) (by rw [List.getElem?_set_ne h.ne]; exact h.led), h.ne⟩
theorem RR.put_app (h : RR id id2 σ L G) (L' : List (List UInt8)) (G' : List zt) (τ : List zd) : zqf id id2 (σ ++ τ) L' G' = zqf id id2 σ L' G' ++ τ := by
  unfold zqf
  rw [zea h.tab, zea (x := rlO G) (by rw [List.getElem?_set_ne h.ne]; exact h.led)]
theorem RR.self (h : RR id id2 σ L G) : zqf id id2 σ L G = σ := by unfold zqf; rw [zeu h.tab, zeu h.led]
theorem RR.lows (h : RR id id2 σ L G) (hl : zin σ.length σ) (L' : List (List UInt8)) (G' : List zt) : zin σ.length (zqf id id2 σ L' G') := (hl.setO (rtO_low _ _)).setO (rlO_low _ _)
theorem RR.put_put (h : RR id id2 σ L G) (L1 L2 : List (List UInt8)) (G1 G2 : List zt) : zqf id id2 (zqf id id2 σ L1 G1) L2 G2 = zqf id id2 σ L2 G2 := by
  unfold zqf
  rw [setc _ _ _ (Ne.symm h.ne), set2, set2]
end

end Go.Proofs.YtpgahkdjkanblaaGreat

/- The law NewviewMakes, from the contracts. -/
set_option maxRecDepth 100000
set_option linter.unusedSimpArgs false
set_option linter.unusedVariables false
namespace Go.Proofs.YtpgahkdjkanblaaGreat
open Go.AW

theorem loop_out {key : Int} : ∀ (xs : List zaI) (L : List (List UInt8)) (G : List zt) (out : List zaI), (∀ x ∈ xs, zpn x) → (∀ x ∈ out, zpn x) → (zaA key xs L G out).out.length ≤ out.length + xs.length ∧ ∀ x ∈ (zaA key xs L G out).out, zpn x
  | [], L, G, out, _, h => ⟨by simp [zaA], h⟩
  | x :: r, L, G, out, h1, h2 => by
    rw [zaA]
    split
    · exact ⟨by simp, h2⟩
    · obtain ⟨a, b⟩ := loop_out (key := key) r (zsW L x) (zsX L G key x) (out ++ [entX L key x]) (fun y hy => h1 y (by simp [hy])) (fun y hy => by
        rcases List.mem_append.1 hy with hy | hy
        · exact h2 y hy
        · simp only [List.mem_singleton] at hy; subst hy; exact entX_ok (h1 x (by simp)))
      exact ⟨by simp only [List.length_append, List.length_cons, List.length_nil] at a ⊢; omega, b⟩
theorem seal_small {L : List (List UInt8)} {G : List zt} {m : zes} (h : zcH m) : zcH (zhF L G m).m := by
  unfold zhF
  split
  · exact zfk
  · split
    · exact zfk
    · obtain ⟨h1, h2, h3, h4, h5, h6, h7, h8, h9, h10⟩ := h
      exact ⟨h1, h2, h3, h4, h5, h6, h7, h8, h9, h10⟩
theorem make_small {L : List (List UInt8)} {G : List zt} {f view : Int} {cs : List zO} (h1 : cs.length ≤ 1048576) (h2 : ∀ c ∈ cs, zoM c) : zcH (zkC L G f view cs).m := by
  unfold zkC
  split
  · exact zfk
  split
  · exact zfk
  split
  · exact zfk
  have hc : ∀ c ∈ cs.take (zaB 2 f).toNat, zoM c := fun c hc => h2 c (List.mem_of_mem_take hc)
  obtain ⟨a, b⟩ := znw (f := f) (view := view) hc
  obtain ⟨c, d⟩ := loop_out (key := zcA f view) _ L G [] b (by simp)
  exact seal_small (zrU (by rw [List.length_take]; omega) hc (by simp only [List.length_nil] at c; omega) d)
end Go.Proofs.YtpgahkdjkanblaaGreat

/- Contracts: whether an entry is signed, and as it must be, both sides. -/
set_option maxRecDepth 100000
set_option linter.unusedSimpArgs false
set_option linter.unusedVariables false
namespace Go.Proofs.YtpgahkdjkanblaaGreat
open Go.AW

def zgk (L : List (List UInt8)) (G : List zt) (key : Int) (x : zaI) : Bool := decide (zD x.batch = 0) && match zff L (zcP x.batch) with
  | some i => zgJ L G ⟨x.key, x.dig⟩ key 2 x.view x.seq ((i + 1 : Nat) : Int)
  | none => false
def zoX (a b : zaI) : Bool := decide (a.view = b.view) && (decide (a.seq = b.seq) && decide (a.batch = b.batch))
theorem c_nvSame {σ : List zd} {a b : zaI} (ha : zmE a) (hb : zmE b) {K : KT} (hK : K (.d (.bool (zoX a b))) σ) : zl Tryz.prog zkp [zsj a, zsj b] σ K := by
  refine ze zoa.is rfl fun hl _ => zoa.goes ?_
  have fin : ∀ z, zoX a b = z → K (.d (.bool z)) σ := fun z h => h ▸ hK
  clear hK
  simp only [zom, iN, bT, bF, eN]
  cases h1 : (a.view == b.view)
  · refine zlu h1 ?_
    refine zV hl ?_
    exact fin _ (by simp at h1; simp [zoX, h1])
  cases h2 : (a.seq == b.seq)
  · refine zlu (zS h1 h2) ?_
    refine zV hl ?_
    exact fin _ (by simp at h1 h2; simp [zoX, h1, h2])
  refine zlu (zS h1 h2) ?_
  refine zpz ha hb ?_
  refine zaF ?_
  refine zV hl ?_
  exact fin _ (by simp at h1 h2; simp [zoX, h1, h2])
theorem zth {σ : List zd} {id m t id2 m2 t2 : Nat} {L : List (List UInt8)} {G : List zt} {key : Int} {x : zaI} (hT : zdG σ id m t L) (hG : zdu σ id2 m2 t2 G) (hL : zkx L) (hg : G.length ≤ 1073741824) (hx : okB x.batch) {K : KT}
    (hK : K (.d (.bool (zgk L G key x))) σ) : zl Tryz.prog zhn [.box id 0, .box id2 0, .d (.int .i64 key), zsj x] σ K := by
  refine ze zkP.is rfl fun hl _ => zkP.goes ?_
  have fin : ∀ z, zgk L G key x = z → K (.d (.bool z)) σ := fun z h => h ▸ hK
  clear hK
  simp only [zld, iN, bT, bF, eN]
  refine zaF ?_
  refine zfr hx ?_
  by_cases h1 : zD x.batch = 0
  rotate_left
  · have h1' : (zD x.batch != 0) = true := by simpa using h1
    refine zlu h1' ?_
    refine zV hl ?_
    exact fin _ (by simp [zgk, h1])
  have h1' : (zD x.batch != 0) = false := by simpa using h1
  refine zlu h1' ?_
  refine zqI (b := []) (by simp) (fun s hs => Nat.le_trans ((zju h1).1 s hs) (by omega)) hx.1 ?_
  rw [List.nil_append, show zeG x.batch = zcP x.batch from if_pos h1]
  refine zaF ?_
  refine zqF (hT.app _) ?_
  cases h2 : zff L (zcP x.batch) with
  | none =>
    simp only [numOf]
    refine gq60 ?_
    refine zV hl ?_
    exact fin _ (by simp [zgk, h2])
  | some i =>
    simp only [numOf]
    refine gq60 ?_
    refine ziI (s := ⟨x.key, x.dig⟩) (hT.app _) (hG.app _) hL hg ?_
    refine zaF ?_
    refine zV hl ?_
    exact fin _ (by simp [zgk, h1, h2])
end Go.Proofs.YtpgahkdjkanblaaGreat
