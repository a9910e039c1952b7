/- Contracts: votes and certificates, the document's. -/
import Derived.Test.YtpgahkdjkanblaaGreatAu3
import Derived.Test.YtpgahkdjkanblaaGreatRq2
import Derived.Test.YtpgahkdjkanblaaGreatRq5
import Derived.Test.YtpgahkdjkanblaaGreatSpTab
import Derived.Test.YtpgahkdjkanblaaGreatSpOp
import Derived.Test.YtpgahkdjkanblaaGreatQu1
import Derived.Test.YtpgahkdjkanblaaGreatRc1
set_option linter.all false
set_option maxRecDepth 100000
set_option linter.unusedSimpArgs false
set_option linter.unusedVariables false
namespace Go.Proofs.YtpgahkdjkanblaaGreat
open Go.AW

end Go.Proofs.YtpgahkdjkanblaaGreat

/- Contracts: which view-changes and new views are signed, the document's. -/
set_option maxRecDepth 100000
set_option linter.unusedSimpArgs false
set_option linter.unusedVariables false
namespace Go.Proofs.YtpgahkdjkanblaaGreat
open Go.AW

end Go.Proofs.YtpgahkdjkanblaaGreat

/- Contracts: which view-changes and new views are signed, the document's. -/
set_option maxRecDepth 100000
set_option linter.unusedSimpArgs false
set_option linter.unusedVariables false
namespace Go.Proofs.YtpgahkdjkanblaaGreat
open Go.AW

end Go.Proofs.YtpgahkdjkanblaaGreat

/- Contracts: which view-changes and new views are signed, the program's. -/
set_option maxRecDepth 100000
set_option linter.unusedSimpArgs false
set_option linter.unusedVariables false
namespace Go.Proofs.YtpgahkdjkanblaaGreat
open Go.AW

theorem c_auValid7 {σ : List zd} {id m t id2 m2 t2 : Nat} {L : List (List UInt8)} {G : List zt} {M : zes} {c : zO} (hT : zdG σ id m t L) (hG : zdu σ id2 m2 t2 G) (hL : zkx L) (hg : G.length ≤ 1073741824) (hm : zcH M) (hk : M.kind = 7) (hc : M.changes = [c]) {K : KT}
    (hK : K (.d (.bool (zet L G M))) σ) : zl Tryz.prog zhK [.box id 0, .box id2 0, zlf M] σ K := by
  refine ze zkb.is rfl fun hl _ => zkb.goes ?_
  have fin : ∀ z, zet L G M = z → K (.d (.bool z)) σ := fun z h => h ▸ hK
  clear hK
  have hT1 := fun τ => hT.app τ
  have hG1 := fun τ => hG.app τ
  simp only [zno, iN, bT, bF, eN]
  refine zaF ?_
  refine znH (hT1 _) (hG1 _) hL hg ?_
  refine zaF ?_
  refine c_mCheck7 (m := M) hm hk ?_
  cases h1 : (zbO M != 0)
  rotate_left
  · refine zay h1 ?_
    refine zV hl ?_
    exact fin _ (by simp at h1; simp [zet, h1])
  have h1' : zbO M = 0 := by simpa using h1
  refine zay h1 ?_
  refine c_auContent7 (m := M) hm hk hc ?_
  cases h2 : (zcK (zdE M) == 0)
  · refine zay h2 ?_
    refine zV hl ?_
    exact fin _ (by simp at h2; simp [zet, h2])
  have h2' : zcK (zdE M) = 0 := by simpa using h2
  have hcb : zdb M = 6 :: zpS (zdE M) := by simp [zdb, h2']
  rw [hcb]
  refine zay h2 ?_
  refine c_auOwn7 (m := M) hk hc ?_
  refine zaF ?_
  refine zqH (s := ownS M) (key := M.src) (b := 6 :: zpS (zdE M)) (hT1 _) (hG1 _) ?_
  refine zaF ?_
  refine zV hl ?_
  refine fin _ ?_
  simp [zet, h1', h2', hcb]
theorem c_auValid8 {σ : List zd} {id m t id2 m2 t2 : Nat} {L : List (List UInt8)} {G : List zt} {M : zes} (hT : zdG σ id m t L) (hG : zdu σ id2 m2 t2 G) (hL : zkx L) (hg : G.length ≤ 1073741824) (hm : zcH M) (hk : M.kind = 8) {K : KT}
    (hK : K (.d (.bool (zet L G M))) σ) : zl Tryz.prog zhK [.box id 0, .box id2 0, zlf M] σ K := by
  refine ze zkb.is rfl fun hl _ => zkb.goes ?_
  have fin : ∀ z, zet L G M = z → K (.d (.bool z)) σ := fun z h => h ▸ hK
  clear hK
  have hT1 := fun τ => hT.app τ
  have hG1 := fun τ => hG.app τ
  simp only [zno, iN, bT, bF, eN]
  refine zaF ?_
  refine znH (hT1 _) (hG1 _) hL hg ?_
  refine zaF ?_
  refine c_mCheck8 (m := M) hm hk ?_
  cases h1 : (zbO M != 0)
  rotate_left
  · refine zay h1 ?_
    refine zV hl ?_
    exact fin _ (by simp at h1; simp [zet, h1])
  have h1' : zbO M = 0 := by simpa using h1
  refine zay h1 ?_
  refine zrk (m := M) hm hk ?_
  cases h2 : (zcK (zdE M) == 0)
  · refine zay h2 ?_
    refine zV hl ?_
    exact fin _ (by simp at h2; simp [zet, h2])
  have h2' : zcK (zdE M) = 0 := by simpa using h2
  have hcb : zdb M = 6 :: zpS (zdE M) := by simp [zdb, h2']
  rw [hcb]
  refine zay h2 ?_
  refine c_auOwn8 (m := M) hk ?_
  refine zaF ?_
  refine zqH (s := ownS M) (key := M.src) (b := 6 :: zpS (zdE M)) (hT1 _) (hG1 _) ?_
  refine zaF ?_
  refine zV hl ?_
  refine fin _ ?_
  simp [zet, h1', h2', hcb]
end Go.Proofs.YtpgahkdjkanblaaGreat

/- Checkpoints' certificates: which are valid. No program in sight. -/
set_option linter.unusedSimpArgs false
set_option linter.unusedVariables false
namespace Go.AW

def zrr (f seq d key : Int) : Bool := decide (seq ≥ 1) && (decide (seq ≤ 9007199254740992) && ((seq.tmod 4 == 0) && (decide (d ≥ 1) && (decide (d ≤ 9007199254740992) && (decide (key ≥ 0) && decide (key < zaB 3 f))))))
def zeroC (c : zfB) : Bool := (c.seq == 0) && ((c.dig == 0) && ((c.signs.length : Int) == 0))
def mayCs (f seq d : Int) : Option zt → List zt → Bool
  | _, [] => true
  | p, s :: r => zrr f seq d s.key && ((match p with | some q => !(decide (s.key ≤ q.key)) | none => true) && mayCs f seq d (some s) r)
def zjQ (f : Int) (c : zfB) : Bool := zeroC c || (decide ((c.signs.length : Int) ≥ zaB 2 f) && mayCs f c.seq c.dig none c.signs)
def zsx (L : List (List UInt8)) (G : List zt) (f : Int) (c : zfB) : Bool := decide (zci f = 0) && (zjQ f c && c.signs.all fun s => zgJ L G s s.key 6 0 c.seq c.dig)
theorem mayCs_drop {f seq d : Int} {p : Option zt} {l : List zt} {k : Nat} {s : zt} (h : l[k]? = some s) : mayCs f seq d p (l.drop k) = (zrr f seq d s.key && ((match p with | some q => !(decide (s.key ≤ q.key)) | none => true) && mayCs f seq d (some s) (l.drop (k + 1)))) := by
  have hk : k < l.length := (List.getElem?_eq_some_iff.1 h).1
  rw [List.drop_eq_getElem_cons hk, (List.getElem?_eq_some_iff.1 h).2]
  rfl
def aheadS (l : List zt) : Nat → Option zt
  | 0 => none
  | k + 1 => l[k]?
end Go.AW

/- Contracts: checkpoints' certificates, on both sides. -/
set_option maxRecDepth 100000
set_option linter.unusedSimpArgs false
set_option linter.unusedVariables false
namespace Go.Proofs.YtpgahkdjkanblaaGreat
open Go.AW

theorem c_ptZero {σ : List zd} {c : zfB} {K : KT} (hK : K (.d (.bool (zeroC c))) σ) : zl Tryz.prog zmJ [zfX c] σ K := by
  refine ze zre.is rfl fun hl _ => zre.goes ?_
  have hlen : (zab c.signs).length = c.signs.length := List.length_map ..
  have fin : ∀ z, zeroC c = z → K (.d (.bool z)) σ := fun z h => h ▸ hK
  clear hK
  simp only [zrm, iN, bT, bF, eN, zfX]
  cases h1 : (c.seq == 0)
  · refine zay h1 ?_
    refine zV hl ?_
    exact fin _ (by simp [zeroC, h1])
  cases h2 : (c.dig == 0)
  · refine zay (zS h1 h2) ?_
    refine zV hl ?_
    exact fin _ (by simp [zeroC, h1, h2])
  refine zay (zS h1 (zS h2 hlen)) ?_
  refine zV hl ?_
  exact fin _ (by simp [zeroC, h1, h2])
theorem c_ptMay {σ : List zd} {id : Nat} {f seq d key : Int} {cs : List AV} (hσ : σ[id]? = some (.box (.d (.int .i64 f) :: cs))) {K : KT} (hK : K (.d (.bool (zrr f seq d key))) σ) :
    zl Tryz.prog zgp [.box id 0, .d (.int .i64 seq), .d (.int .i64 d), .d (.int .i64 key)] σ K := by
  refine ze zjS.is rfl fun hl _ => zjS.goes ?_
  have fin : ∀ z, zrr f seq d key = z → K (.d (.bool z)) σ := fun z h => h ▸ hK
  clear hK
  have e4 : ((4 : Int) == 0) = false := rfl
  simp only [zkf, iN, bT, bF, eN]
  cases h1 : decide (seq ≥ 1)
  · refine zay h1 ?_
    refine zV hl ?_
    exact fin _ (by rw [zrr, h1]; rfl)
  cases h2 : decide (seq ≤ 9007199254740992)
  · refine zay (zS h1 h2) ?_
    refine zV hl ?_
    exact fin _ (by rw [zrr, h1, h2]; rfl)
  cases h3 : (seq.tmod 4 == 0)
  · refine zay (zS h1 (zS h2 (zS e4 h3))) ?_
    refine zV hl ?_
    exact fin _ (by rw [zrr, h1, h2, h3]; rfl)
  cases h4 : decide (d ≥ 1)
  · refine zay (zS h1 (zS h2 (zS e4 (zS h3 h4)))) ?_
    refine zV hl ?_
    exact fin _ (by rw [zrr, h1, h2, h3, h4]; rfl)
  cases h5 : decide (d ≤ 9007199254740992)
  · refine zay (zS h1 (zS h2 (zS e4 (zS h3 (zS h4 h5))))) ?_
    refine zV hl ?_
    exact fin _ (by rw [zrr, h1, h2, h3, h4, h5]; rfl)
  cases h6 : decide (key ≥ 0)
  · refine zay (zS h1 (zS h2 (zS e4 (zS h3 (zS h4 (zS h5 h6)))))) ?_
    refine zV hl ?_
    exact fin _ (by rw [zrr, h1, h2, h3, h4, h5, h6]; rfl)
  refine zay (zS h1 (zS h2 (zS e4 (zS h3 (zS h4 (zS h5 (zS h6 hσ))))))) ?_
  refine zjt ?_
  refine zaF ?_
  refine zV hl ?_
  exact fin _ (by rw [zrr, h1, h2, h3, h4, h5, h6]; rfl)
theorem zoN {l : List zt} {k : Nat} {s : zt} (h : l[k]? = some s) : aheadS l (k + 1) = some s := h
abbrev certO (c : zfB) : zd := .box [.d (.int .i64 c.seq), .d (.int .i64 c.dig), .d (.slice (zab c.signs))]
theorem c_ptMayCert {σ : List zd} {id : Nat} {f : Int} {c : zfB} {cs : List AV} (hσ : σ[id]? = some (.box (.d (.int .i64 f) :: cs))) (hl0 : c.signs.length ≤ 1073741824) {K : KT} (hK : K (.d (.bool (zjQ f c))) σ) :
    zl Tryz.prog zfd [.box id 0, zfX c] σ K := by
  refine ze zgR.is rfl fun hl _ => zgR.goes ?_
  have fin : ∀ z, zjQ f c = z → K (.d (.bool z)) σ := fun z h => h ▸ hK
  clear hK
  have hlen : (zab c.signs).length = c.signs.length := List.length_map ..
  have hS : ∀ τ, (σ ++ τ)[id]? = some (.box (.d (.int .i64 f) :: cs)) := fun τ => zM hσ
  simp only [zhb, iN, bT, bF, eN, zfX]
  refine zaF ?_
  refine c_ptZero (c := c) ?_
  cases hz : zeroC c
  rotate_left
  · refine zaF ?_
    refine zV hl ?_
    exact fin _ (by rw [zjQ, hz]; rfl)
  refine zay hlen ?_
  refine zy c.signs.length (fun k vs s => vs = [.d (.int .i64 k)] ∧ (∃ T, s = σ ++ certO c :: T) ∧ mayCs f c.seq c.dig none c.signs = mayCs f c.seq c.dig (aheadS c.signs k) (c.signs.drop k)) ⟨rfl, ⟨[], rfl⟩, rfl⟩ ?_
  rintro k vs s hk ⟨rfl, ⟨T, rfl⟩, hpf⟩
  have no : mayCs f c.seq c.dig none c.signs = false → zjQ f c = false := fun h => by rw [zjQ, hz, h, Bool.and_false]; rfl
  by_cases hlt : k < c.signs.length
  · have hd : decide ((k : Int) < (c.signs.length : Int)) = true := by simp; omega
    have hx : c.signs[k]? = some c.signs[k] := by simp [hlt]
    have hgx := zal (f := zgH) hx
    obtain ⟨x, hxe⟩ : ∃ x, c.signs[k] = x := ⟨_, rfl⟩
    rw [hxe] at hx hgx
    rw [mayCs_drop hx] at hpf
    refine znN (zS hd hgx) ?_
    refine c_ptMay (hS _) ?_
    cases h1 : zrr f c.seq c.dig x.key
    · refine zaF ?_
      refine zV hl ?_
      exact fin _ (no (by rw [hpf, h1]; rfl))
    rw [h1, Bool.true_and] at hpf
    cases k with
    | zero =>
      refine zay (zS (show decide (((0 : Nat) : Int) > 0) = false from rfl) (wkc 0 (by omega))) ?_
      exact zbp.next hlt ⟨rfl, ⟨_, rfl⟩, by rw [hpf, zoN hx]; rfl⟩
    | succ j =>
      have hz1 : decide (((j + 1 : Nat) : Int) > 0) = true := decide_eq_true (by omega)
      have hw1 : IntKind.i64.wrap (((j + 1 : Nat) : Int) - 1) = (j : Int) := by rw [zbE (by omega) (by omega)]; omega
      have hy : c.signs[j]? = some c.signs[j] := by simp [show j < c.signs.length by omega]
      have hgy := zal (f := zgH) hy
      obtain ⟨y, hye⟩ : ∃ y, c.signs[j] = y := ⟨_, rfl⟩
      rw [hye] at hy hgy
      rw [zoN hy] at hpf
      simp only at hpf
      cases h2 : decide (x.key ≤ y.key)
      · refine znN (zS hz1 (zS hw1 (zS hgx (zS hgy (zS h2 (wkc (j + 1) (by omega))))))) ?_
        exact zbp.next hlt ⟨rfl, ⟨_, rfl⟩, by rw [hpf, h2, zoN hx]; simp⟩
      · refine znN (zS hz1 (zS hw1 (zS hgx (zS hgy h2)))) ?_
        refine zV hl ?_
        exact fin _ (no (by rw [hpf, h2]; rfl))
  · have hd : decide ((k : Int) < (c.signs.length : Int)) = false := by simp; omega
    rw [List.drop_eq_nil_of_le (by omega)] at hpf
    refine zay (zS hd (zS hlen hS)) ?_
    refine c_quBig ?_
    refine zaF ?_
    refine zV hl ?_
    exact fin _ (by rw [zjQ, hz, hpf]; simp [mayCs])
theorem c_ptNew {σ : List zd} {f : Int} {K : KT} (hN : zci f ≠ 0 → K (.tup [.d .nilp, .d (.int .i64 (zci f))]) σ)
    (hY : zci f = 0 → K (.tup [.box (σ.length + 1) 0, .d (.int .i64 0)]) (σ ++ [.map [], .box [.d (.int .i64 f), .d (.int .i64 0), .d (.int .i64 0), .exact [], .map σ.length, .exact []]])) : zl Tryz.prog zov [.d (.int .i64 f)] σ K := by
  refine zcm zsm.is rfl (fun s => if s.length = σ.length then [] else List.range' σ.length 2) fun hl _ => zsm.goes ?_
  simp only [zsL, iN, bT, bF, eN]
  refine zaF ?_
  refine zjs ?_
  cases h : (zci f != 0)
  · have h0 : zci f = 0 := by simpa using h
    refine zay h ?_
    refine zdN (os := [.map [], .box [.d (.int .i64 f), .d (.int .i64 0), .d (.int .i64 0), .exact [], .map σ.length, .exact []]]) rfl (by simp) hl ?_ ?_ (hY h0)
    · intro x hx
      simp only [List.mem_cons, List.not_mem_nil, or_false] at hx
      rcases hx with rfl | rfl
      · intro e he; simp at he
      · intro c hc
        simp only [List.mem_cons, List.not_mem_nil, or_false] at hc
        rcases hc with rfl | rfl | rfl | rfl | rfl | rfl
        · exact .d _
        · exact .d _
        · exact .d _
        · exact .exact _
        · exact .map _ (by simp)
        · exact .exact _
    · simp [zdy, zbL, Low_box, zjI]
  · refine zay h ?_
    exact zje (by simp) hl (by simp [zdy, zdF, ziT]) (hN (by simpa using h))
end Go.Proofs.YtpgahkdjkanblaaGreat
