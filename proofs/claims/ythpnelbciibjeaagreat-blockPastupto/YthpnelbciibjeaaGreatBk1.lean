/- Contracts: blocks: digests of headers and topics; the first header. -/
import Derived.Test.YthpnelbciibjeaaGreatHd2
import Derived.Test.YthpnelbciibjeaaGreatKs4
import Derived.Test.YthpnelbciibjeaaGreatTp1
import Derived.Test.YthpnelbciibjeaaGreatMk2
import Derived.Test.YthpnelbciibjeaaGreatSh
import Derived.Shelf.SlMaps.Clone
import Derived.Ground.SlmcProg
import Derived.Test.YthpnelbciibjeaaGreatAwFun
import Derived.Test.YthpnelbciibjeaaGreatAwSndR
import Derived.Test.YthpnelbciibjeaaGreatKs2
import Derived.Test.YthpnelbciibjeaaGreatSpPrg
set_option linter.all false
set_option maxRecDepth 100000
set_option linter.unusedSimpArgs false
set_option linter.unusedVariables false
namespace Go.Proofs.YthpnelbciibjeaaGreat
open Go.AW

section
variable {σ : List zc} {id m t : Nat} {L : List (List UInt8)} {K : AV → List zc → Prop}
def givE (d : Int) : Int := if d = 0 then 6 else 0
theorem zia {d : Int} (hK : K (.tup [.d (.int .i64 d), .d (.int .i64 (givE d))]) σ) : zt Tryz.prog zco [.d (.int .i64 d)] σ K := by
  refine zhl zpG fun hl => ?_
  simp only [zkG, iN, bT, bF, eN]
  cases h : (d == 0)
  · have h0 : ¬ d = 0 := by simpa using h
    rw [givE, if_neg h0] at hK
    refine gq2 h ?_
    refine zbj hl ?_
    exact hK
  · have h0 : d = 0 := by simpa using h
    subst h0
    rw [givE, if_pos rfl] at hK
    refine gq2 h ?_
    refine zbj hl ?_
    exact hK
theorem c_blDigest {h : zbZ} (hT : zbC σ id m t L) (hI : zhJ L) (hK : K (.tup [.d (.int .i64 (zmY L h)), .d (.int .i64 (hdigE L h))]) (putTab σ id m t (zdh L h))) : zt Tryz.prog zgj [.box id 0, hdrA h] σ K := by
  refine zlO znY fun hl => ?_
  simp only [zjm, iN, bT, bF, eN, hdrA]
  refine gq1 ?_
  refine zmk (hT.app _) hI ?_
  refine gq1 ?_
  refine c_blBytes (h := h) ?_
  cases hc : (zaQ h == 0)
  · have hc' : (zaQ h != 0) = true := by simpa using hc
    have hc0 : zaQ h ≠ 0 := by simpa using hc
    simp only [hdigE, zmY, zdh, if_pos hc0] at hK
    rw [hT.self] at hK
    refine gq2 hc' ?_
    refine zbj hl ?_
    exact hK
  have hc0 : zaQ h = 0 := by simpa using hc
  have hbl := zpv (zdt.1 hc0)
  simp only [hdigE, zmY, zdh, hc0, ne_eq, not_true_eq_false, if_false] at hK
  rw [hdrBF_ok hc0, hc0]
  refine gq2 (show ((0 : Int) != 0) = false from rfl) ?_
  refine zlL (hT.app _) (by omega) hI.len ?_
  rw [zgu hT]
  have hl1 := hT.lows hl (zee L (zlX h))
  have hs1 := zaR σ id m t (zee L (zlX h))
  obtain ⟨S1, hS1⟩ : ∃ S1, putTab σ id m t (zee L (zlX h)) = S1 := ⟨_, rfl⟩
  rw [hS1] at hK hs1 hl1 ⊢
  refine gq1 ?_
  refine zia ?_
  refine gq1 ?_
  refine zmh hs1 ?_ hl1 hK
  simp [zgo, dmT, dm, dm1, zcE, zio, znM]
theorem zoL {h : Nat} {T : zad} {O : Nat → Prop} (hT : zbC σ id m t L) (hI : L.length ≤ 1048576) (hP : zeA σ h T O) (hTI : zcD T) (hL : zgO T.last)
    (hK : K (.d (.int .i64 (zex L (zbq T)))) (putTab σ id m t (zee L (zbq T)))) : zt Tryz.prog zbD [.box h 0, .box id 0] σ K := by
  refine zlO zhv fun hl => ?_
  obtain ⟨mm, hb, h8⟩ := hP.box
  have := zmt hTI hL h8
  simp only [zem, iN, bT, bF, eN]
  refine gq1 ?_
  refine ziP hb ?_
  refine gq1 ?_
  refine c_tpBytes hP hTI hL ?_
  refine gq1 ?_
  refine zlL hT (by omega) hI ?_
  refine gq1 ?_
  exact zdV (zaR ..) (by simp [zgo, dmT, dm, dm1, zcE]) (hT.lows hl _) hK
theorem znt (hT : zbC σ id m t L) (hI : zhJ L) (hK : K (.tup [hdrA (zmg L).1, .d (.int .i64 (zmg L).2.1)]) (putTab σ id m t (zmg L).2.2)) : zt Tryz.prog zdQ [.box id 0] σ K := by
  refine zhl znm fun hl => ?_
  simp only [zim, iN, bT, bF, eN]
  refine gq1 ?_
  refine zmk (hT.app _) hI ?_
  refine gq1 ?_
  refine c_mkRoot (l := []) (hT.app _) hI.len (by simp) (by simp) ?_
  rw [zgu hT]
  obtain ⟨r, hr⟩ : ∃ r, rootF L [] = r := ⟨_, rfl⟩
  rw [hr]
  have hr2 : r.2.length ≤ 1048576 := by rw [← hr]; exact (zeD 0 (Nat.le_refl _) hI.len).1
  have hT1 := hT.put r.2
  have hs1 := zaR σ id m t r.2
  have hpp : ∀ l', putTab (putTab σ id m t r.2) id m t l' = putTab σ id m t l' := fun l' => zkT hT ..
  obtain ⟨S, hS⟩ : ∃ S, putTab σ id m t r.2 = S := ⟨_, rfl⟩
  rw [hS] at hT1 hs1 hpp ⊢
  refine gq1 ?_
  refine zia ?_
  refine gq1 ?_
  refine c_tpNew fun hP => ?_
  have e2 : ∀ A : zc, (S ++ [A]).length = S.length + 1 := fun A => by simp
  rw [e2] at hP
  rw [List.append_assoc] at hP
  refine gq1 ?_
  have hLast : zgO zbb.last := fun a ha => by
    have := List.eq_of_mem_replicate ha
    subst this
    simp
  have hg : zmg L = if r.1 = 0 ∨ zex r.2 (zbq zbb) = 0 then (zjn, 6, zee r.2 (zbq zbb)) else (⟨0, 0, 0, r.1, zex r.2 (zbq zbb)⟩, 0, zee r.2 (zbq zbb)) := by rw [zmg, hr]
  refine zoL (hT1.app _) hr2 hP .none hLast ?_
  rw [zgu hT1, hpp]
  have hl1 := hT.lows hl (zee r.2 (zbq zbb))
  have hs2 := zaR σ id m t (zee r.2 (zbq zbb))
  obtain ⟨d, hd⟩ : ∃ d, zex r.2 (zbq zbb) = d := ⟨_, rfl⟩
  obtain ⟨L2, hL2⟩ : ∃ L2, zee r.2 (zbq zbb) = L2 := ⟨_, rfl⟩
  rw [hd, hL2] at hg
  rw [hL2] at hl1 hs2 ⊢
  rw [hd]
  obtain ⟨S2, hS2⟩ : ∃ S2, putTab σ id m t L2 = S2 := ⟨_, rfl⟩
  rw [hS2] at hl1 hs2 ⊢
  have fin : ∀ z, zmg L = z → z.2.2 = L2 → ∀ τ, AW.Ends σ.length K (some [hdrA z.1, .d (.int .i64 z.2.1)]) (S2 ++ τ) := fun z h h2 τ => by
    rw [h, h2, hS2] at hK
    exact zmh hs2 (by simp [zgo, dmT, dm, dm1, zcE, zio, znM]) hl1 hK
  have x0 : ∀ a τ, (S2 ++ a :: τ)[σ.length]? = some a := fun a τ => by rw [← hs2]; exact zp ..
  have x1 : ∀ a τ Y, (S2 ++ a :: τ).set σ.length Y = S2 ++ Y :: τ := fun a τ Y => by rw [← hs2]; exact zac ..
  refine gq1 ?_
  refine zia ?_
  by_cases c1 : r.1 = 0
  · rw [if_pos (.inl c1)] at hg
    have k1 : (givE r.1 != 0) = true := by rw [givE, if_pos c1]; rfl
    refine gq2 (zi k1 (zi x0 x1)) ?_
    exact fin _ hg rfl _
  have k1 : (givE r.1 != 0) = false := by rw [givE, if_neg c1]; rfl
  by_cases c2 : d = 0
  · rw [if_pos (.inr c2)] at hg
    have k2 : (givE d != 0) = true := by rw [givE, if_pos c2]; rfl
    refine gq2 (zi k1 (zi k2 (zi x0 x1))) ?_
    exact fin _ hg rfl _
  · rw [if_neg (by rintro (h | h); exact c1 h; exact c2 h)] at hg
    have k2 : (givE d != 0) = false := by rw [givE, if_neg c2]; rfl
    refine gq2 (zi k1 (zi k2 (zi x0 x1))) ?_
    exact fin _ hg rfl _
end

open Go.Shelf Go.Proofs
def cloneM_ren : Go.Shelf.Ren := ⟨fun | 5 => 70 | 7 => 87 | n => n, fun | 23 => 128 | 25 => 9 | 3 => 2 | 4 => 4 | 20 => 20 | n => n, fun | n => n⟩
theorem cloneM : Go.Proofs.SlLaysW.n5 Tryz.prog cloneM_ren := {
  mixed := by kernel_rfl
  f5 := ⟨Tryz.f70.name, by decide, Tryz.func70.trans (congrArg some (by kernel_rfl))⟩
  f7 := Tryz.func87.trans (congrArg some (by kernel_rfl))
  t4 := Tryz.underlying4
  a4 := Tryz.isAgg4
  z4 := Tryz.sizeOf4
  v4 := Tryz.zeroValue4
  t20 := Tryz.underlying20
  a20 := Tryz.isAgg20
  z20 := Tryz.sizeOf20
  v20 := Tryz.zeroValue20
  t23 := Tryz.underlying128
  a23 := Tryz.isAgg128
  z23 := Tryz.sizeOf128
  v23 := Tryz.zeroValue128 }
end Go.Proofs.YthpnelbciibjeaaGreat

/- A MAP IS CLONED: the kit's contract of maps.Clone, told in the own logic. -/
set_option linter.unusedSimpArgs false
set_option linter.unusedVariables false
namespace Go.AW

def CloneC (P : Program) (f : FuncId) : Prop := ∀ (b : Nat) (es : Array MapEntry) (clock : Nat) (w : World), w.heap[b]? = some (.map es clock) →
  Calls P f #[.map (some b)] w fun e w' => e = .returned (.map (some w.heap.size)) ∧ w' = w.alloc (.map es clock)
theorem zoc {P : Program} {f : FuncId} (hok : zlK P f = true) (hc : CloneC P f) {σ : List zc} {id : Nat} {es : List (AV × AV)} (hσ : σ[id]? = some (.map es)) {K : AV → List zc → Prop}
    (hK : K (.map σ.length) (σ ++ [.map es])) : zt P f [.map id] σ K := by
  refine ⟨hok, fun L w vs S hv => ?_⟩
  obtain ⟨hv1, hv2⟩ := hv
  obtain ⟨v, rfl⟩ : ∃ v, vs = [v] := by
    match vs, hv1 with
    | [v], _ => exact ⟨v, rfl⟩
  have hv3 := hv2 0 _ _ rfl rfl
  obtain ⟨rfl, _⟩ := hv3.map_inv
  obtain ⟨ms, clock, h1, h2, h3, h4⟩ := map_block' S hσ
  refine (hc _ ms clock w h1).mono ?_
  rintro e w' ⟨rfl, rfl⟩
  have hf : ∀ b c, zbS { a := ⟨w.heap.size, 0, none⟩ } (.map es) b c → b = w.heap.size := fun b c h => h
  have st := zbB L σ (.map ms clock) { a := ⟨w.heap.size, 0, none⟩ } (.map es) hf
  have S' := zcy S (.map ms clock) { a := ⟨w.heap.size, 0, none⟩ } (.map es) hf ⟨ms, clock, by
    show (w.heap.push _)[w.heap.size]? = _
    simp, by simpa using h2, fun j e m he hm => (h3 j e m he (by simpa using hm)).mono st, h4⟩
  refine ⟨_, _, .map σ.length, st, S', ?_, hK⟩
  have := RV.map (w := w.alloc (.map ms clock)) (L := zfm L σ.length { a := ⟨w.heap.size, 0, none⟩ }) (σ := σ ++ [.map es]) σ.length ⟨.map es, by simp, by simp [zc.kind]⟩
  rw [zD] at this
  exact this
end Go.AW

/- Contracts: the document's topics: bounds, records, what was committed; placed records that are the same. -/
set_option maxRecDepth 100000
set_option linter.unusedSimpArgs false
set_option linter.unusedVariables false
namespace Go.Proofs.YthpnelbciibjeaaGreat
open Go.AW

section
variable {σ : List zc} {id t g : Nat} {T : zad} {K : AV → List zc → Prop}
end

end Go.Proofs.YthpnelbciibjeaaGreat

/- A record stands at its offset until it is trimmed. No program in sight. -/
set_option linter.unusedSimpArgs false
set_option linter.unusedVariables false
namespace Go.AW

structure AtE where
  n : List UInt8
  l : List (List UInt8)
  t : Nat
def findY (n : List UInt8) : List AtE → Nat → Option (Nat × AtE)
  | [], _ => none
  | e :: r, i => if n = e.n then some (i, e) else findY n r (i + 1)
theorem zoC {n : List UInt8} : ∀ {l : List AtE} {i k : Nat} {e : AtE}, findY n l i = some (k, e) → ∃ j, k = i + j ∧ l[j]? = some e ∧ e.n = n
  | [], _, _, _, h => by simp [findY] at h
  | g :: r, i, k, v, h => by
    simp only [findY] at h
    split at h
    · rename_i e; cases h; exact ⟨0, rfl, rfl, e.symm⟩
    · obtain ⟨j, h1, h2, h3⟩ := zoC h
      exact ⟨j + 1, by omega, by simpa using h2, h3⟩
end Go.AW
