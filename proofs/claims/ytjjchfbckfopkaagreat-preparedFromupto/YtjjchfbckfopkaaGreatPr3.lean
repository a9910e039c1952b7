/- Contracts: certificates that are kept. -/
import Derived.Test.YtjjchfbckfopkaaGreatPr2
import Derived.Test.YtjjchfbckfopkaaGreatSpMap
import Derived.Test.YtjjchfbckfopkaaGreatRq1
import Derived.Test.YtjjchfbckfopkaaGreatSh
import Derived.Shelf.SortM.Plain
import Derived.Shelf.SortM.SortNone
import Derived.Ground.SlgmProg
set_option linter.all false
set_option maxRecDepth 100000
set_option linter.unusedSimpArgs false
set_option linter.unusedVariables false
namespace Go.Proofs.YtjjchfbckfopkaaGreat
open Go.AW

theorem c_clSign {σ : List zb} {l : List zM} (hn : l.length ≤ 1073741824) {K : AV → List zb → Prop} (hK : K (.d (.slice (zax l))) σ) : zp Tryz.prog zaY [.d (.slice (zax l))] σ K := by
  refine zil zdO fun hl => ?_
  have hlen : (zax l).length = l.length := List.length_map ..
  have h2 : ∀ e ∈ zax l, e.length = 2 := zmB (f := zej) (fun _ => rfl) l
  simp only [zbT, iN, bT, bF, eN, zal, zcS]
  obtain ⟨es, hes⟩ : ∃ es, zax l = es := ⟨_, rfl⟩
  rw [hes] at hlen h2 hK ⊢
  cases es with
  | nil =>
    refine ⟨?_, ?_⟩
    · refine gq1 ?_
      refine zad hl ?_
      exact hK
    · refine gq1 ?_
      refine zad hl ?_
      exact hK
  | cons e es =>
    simp only [zU, zo, zP, zai, rep, zn, zei, zaf, zr, zdr]
    refine ⟨h2, by simp, by rw [hlen]; simp; omega, ?_⟩
    refine zad hl ?_
    exact hK
theorem znp {σ : List zb} {p : zar} (hp : zeL p) {K : AV → List zb → Prop} (hK : K (zfd p) σ) : zp Tryz.prog zdc [zfd p] σ K := by
  refine zil zlT fun hl => ?_
  simp only [zgW, iN, bT, bF, eN, zl0, zfd]
  refine gq1 ?_
  refine c_clSign hp.signs ?_
  refine gq1 ?_
  refine c_rqClone (b := p.batch) ⟨hp.batch, fun s hs => (zpc (hp.ops s hs)).2.2⟩ ?_
  refine gq1 ?_
  refine zad hl ?_
  exact hK
def zkG (s : Int) : List (Int × zar) → Nat → Option (Nat × zar)
  | [], _ => none
  | e :: r, i => if s = e.1 then some (i, e.2) else zkG s r (i + 1)
abbrev hE (l : List (Int × zar)) : List (AV × AV) := ents (l.map fun e => (e.1, zfd e.2))
theorem zpr (s : Int) : ∀ (l : List (Int × zar)) (i : Nat), zio .int (.d (.int .i64 s)) (hE l) i = some ((zkG s l i).map fun q => (q.1, zfd q.2))
  | [], _ => rfl
  | e :: r, i => by
    simp only [hE, ents, List.map_cons, zio, zdY, if_true, zkG]
    by_cases h : s = e.1
    · simp [h]
    · have : (s == e.1) = false := by simpa using h
      simp only [this, if_neg h]
      exact zpr s r (i + 1)
structure zhe (σ : List zb) (h m : Nat) (l : List (Int × zar)) : Prop where
  box : σ[h]? = some (.box [.map m])
  map : σ[m]? = some (.map (hE l))
theorem zhe.app {σ : List zb} {h m : Nat} {l : List (Int × zar)} (H : zhe σ h m l) (τ : List zb) : zhe (σ ++ τ) h m l := ⟨zk H.box, zk H.map⟩
def inR (p : zar) : Bool := !(decide (p.seq < 1)) && !(decide (p.seq > 9007199254740992))
def hOk (l : List (Int × zar)) (p : zar) : Bool := match zkG p.seq l 0 with
  | some q => !(decide (q.2.view ≥ p.view))
  | none => true
def hPut (l : List (Int × zar)) (p : zar) : List (Int × zar) := match zkG p.seq l 0 with
  | some q => if q.2.view ≥ p.view then l else l.set q.1 (p.seq, p)
  | none => l ++ [(p.seq, p)]
theorem zpQ {σ : List zb} {h m : Nat} {l : List (Int × zar)} (H : zhe σ h m l) {K : AV → List zb → Prop} (hK : K (.d (.bool false)) σ) : zp Tryz.prog zbz [.box h 0] σ K := by
  refine zil zis fun hl => ?_
  have hb := H.box
  simp only [zeS, iN, bT, bF, eN]
  refine gq2 hb ?_
  refine zad hl ?_
  exact hK
theorem c_heLen {σ : List zb} {h m : Nat} {l : List (Int × zar)} (H : zhe σ h m l) {K : AV → List zb → Prop} (hK : K (.d (.int .i64 l.length)) σ) : zp Tryz.prog zdk [.box h 0] σ K := by
  refine zil ziZ fun hl => ?_
  have hb := H.box
  have hm := H.map
  have hlen : (hE l).length = l.length := by simp [hE, ents]
  simp only [zfu, iN, bT, bF, eN]
  refine gq1 ?_
  refine zpQ H ?_
  refine gq2 (zi hb (zi hm hlen)) ?_
  refine zad hl ?_
  exact hK
theorem c_heNew {σ : List zb} {K : AV → List zb → Prop} (hK : K (.box (σ.length + 1) 0) (σ ++ [.map (hE []), .box [.map σ.length]])) : zp Tryz.prog zee [] σ K := by
  refine zbD ziA.is rfl (fun s => List.range' σ.length 2) fun hl _ => ziA.goes ?_
  simp only [ziK, iN, bT, bF, eN]
  refine gq1 ?_
  refine zdC (σ' := σ) (os := [.map (hE []), .box [.map σ.length]]) rfl rfl hl ?_ (.box _ _ (by simp)) hK
  intro x hx
  simp only [List.mem_cons, List.not_mem_nil, or_false] at hx
  rcases hx with rfl | rfl
  · intro e he
    simp [hE, ents] at he
  · intro c hc
    simp only [List.mem_cons, List.not_mem_nil, or_false] at hc
    subst hc
    exact .map _ (by simp)
theorem hE_set (l : List (Int × zar)) (i : Nat) (p : zar) : (hE l).set i (.d (.int .i64 p.seq), zfd p) = hE (l.set i (p.seq, p)) := by
  simp only [hE, ents, List.map_set]
theorem hE_add (l : List (Int × zar)) (p : zar) : hE l ++ [(.d (.int .i64 p.seq), zfd p)] = hE (l ++ [(p.seq, p)]) := by simp [hE, ents]
theorem lowHE (n : Nat) (l : List (Int × zar)) : zpY n (.map (hE l)) := by
  intro e he
  simp only [hE, ents, List.map_map, List.mem_map] at he
  obtain ⟨x, _, rfl⟩ := he
  refine ⟨.d _, .agg _ fun c hc => ?_⟩
  simp only [List.mem_cons, List.not_mem_nil, or_false] at hc
  rcases hc with rfl | rfl | rfl | rfl | rfl | rfl | rfl <;> exact .d _
theorem c_hePut {σ : List zb} {h m : Nat} {l : List (Int × zar)} {p : zar} (H : zhe σ h m l) (hp : zeL p) {K : AV → List zb → Prop}
    (hK : K (.d (.bool (inR p && hOk l p))) (σ.set m (.map (hE (if inR p = true then hPut l p else l))))) :
    zp Tryz.prog zbE [.box h 0, zfd p] σ K := by
  refine zgK ziY fun hl => ?_
  have hb : ∀ τ, (σ ++ τ)[h]? = some (.box [.map m]) := fun τ => zk H.box
  have hm : ∀ τ, (σ ++ τ)[m]? = some (.map (hE l)) := fun τ => zk H.map
  have hsm : ∀ τ X, (σ ++ τ).set m X = σ.set m X ++ τ := fun τ X => zbU H.map
  have hf := zpr p.seq l 0
  have hsame : σ.set m (.map (hE l)) = σ := zbK H.map
  simp only [zft, iN, bT, bF, eN, zl0, zfd]
  refine gq1 ?_
  refine zpQ (H.app _) ?_
  cases h1 : decide (p.seq < 1)
  rotate_left
  · simp only [inR, h1, Bool.not_true, Bool.false_and, Bool.false_eq_true, if_false, hsame] at hK
    refine gq2 h1 ?_
    refine zad hl ?_
    exact hK
  cases h2 : decide (p.seq > 9007199254740992)
  rotate_left
  · simp only [inR, h2, Bool.not_true, Bool.and_false, Bool.false_and, Bool.false_eq_true, if_false, hsame] at hK
    refine gq2 (zi h1 h2) ?_
    refine zad hl ?_
    exact hK
  simp only [inR, h1, h2, Bool.not_false, Bool.true_and, if_true] at hK
  cases hq : zkG p.seq l 0 with
  | none =>
    rw [hq] at hf
    simp only [hOk, hPut, hq] at hK
    refine gq3 (zi h1 (zi h2 (zi hb (zi hm hf)))) ?_
    refine znp (p := p) hp ?_
    refine gq3 (zi hb (zi hm (zi hf hsm))) ?_
    rw [hE_add]
    exact ends_set (by simp [zfT, dmT, dm, dm1, zcf]) hl (lowHE _ _) hK
  | some q =>
    rw [hq] at hf
    simp only [hOk, hPut, hq] at hK
    cases h3 : decide (q.2.view ≥ p.view)
    · rw [h3, if_neg (by simpa using h3)] at hK
      refine gq3 (zi h1 (zi h2 (zi hb (zi hm (zi hf h3))))) ?_
      refine znp (p := p) hp ?_
      refine gq3 (zi hb (zi hm (zi hf hsm))) ?_
      rw [hE_set]
      exact ends_set (by simp [zfT, dmT, dm, dm1, zcf]) hl (lowHE _ _) hK
    · rw [h3, if_pos (by simpa using h3), hsame] at hK
      refine gq3 (zi h1 (zi h2 (zi hb (zi hm (zi hf h3))))) ?_
      refine zad hl ?_
      exact hK
open Go.Shelf Go.Proofs
def sortI_ren : Go.Shelf.Ren := ⟨fun | 5 => 85 | 8 => 113 | 7 => 112 | 19 => 130 | 20 => 131 | 10 => 121 | 11 => 122 | 12 => 123 | 13 => 124 | 14 => 125 | 15 => 126 | 16 => 127 | 17 => 128 | 18 => 129 | 30 => 137 | 31 => 138 | 32 => 139 | 33 => 140 | 34 => 141 | 35 => 142 | 40 => 146 | n => n, fun | 23 => 129 | 25 => 2 | 3 => 3 | 32 => 176 | 22 => 129 | 0 => 0 | 44 => 193 | 46 => 163 | 4 => 4 | 36 => 185 | 35 => 184 | 41 => 190 | 5 => 5 | 9 => 9 | 53 => 200 | 57 => 204 | 63 => 208 | 64 => 209 | n => n, fun | n => n⟩
theorem sortI : Go.Proofs.SlLaysM.n5 Tryz.prog sortI_ren := {
  mixed := by kernel_rfl
  f5 := ⟨Tryz.f85.name, by decide, Tryz.func85.trans (congrArg some (by kernel_rfl))⟩
  f7 := ⟨Tryz.f112.name, by decide, Tryz.func112.trans (congrArg some (by kernel_rfl))⟩
  f8 := Tryz.func113.trans (congrArg some (by kernel_rfl))
  f10 := ⟨Tryz.f121.name, by decide, Tryz.func121.trans (congrArg some (by kernel_rfl))⟩
  f11 := ⟨Tryz.f122.name, by decide, Tryz.func122.trans (congrArg some (by kernel_rfl))⟩
  f12 := ⟨Tryz.f123.name, by decide, Tryz.func123.trans (congrArg some (by kernel_rfl))⟩
  f13 := ⟨Tryz.f124.name, by decide, Tryz.func124.trans (congrArg some (by kernel_rfl))⟩
  f14 := ⟨Tryz.f125.name, by decide, Tryz.func125.trans (congrArg some (by kernel_rfl))⟩
  f15 := ⟨Tryz.f126.name, by decide, Tryz.func126.trans (congrArg some (by kernel_rfl))⟩
  f16 := ⟨Tryz.f127.name, by decide, Tryz.func127.trans (congrArg some (by kernel_rfl))⟩
  f17 := ⟨Tryz.f128.name, by decide, Tryz.func128.trans (congrArg some (by kernel_rfl))⟩
  f18 := ⟨Tryz.f129.name, by decide, Tryz.func129.trans (congrArg some (by kernel_rfl))⟩
  f19 := Tryz.func130.trans (congrArg some (by kernel_rfl))
  f20 := Tryz.func131.trans (congrArg some (by kernel_rfl))
  f30 := ⟨Tryz.f137.name, by decide, Tryz.func137.trans (congrArg some (by kernel_rfl))⟩
  f31 := Tryz.func138.trans (congrArg some (by kernel_rfl))
  f32 := Tryz.func139.trans (congrArg some (by kernel_rfl))
  f33 := ⟨Tryz.f140.name, by decide, Tryz.func140.trans (congrArg some (by kernel_rfl))⟩
  f34 := ⟨Tryz.f141.name, by decide, Tryz.func141.trans (congrArg some (by kernel_rfl))⟩
  f35 := ⟨Tryz.f142.name, by decide, Tryz.func142.trans (congrArg some (by kernel_rfl))⟩
  f40 := ⟨Tryz.f146.name, by decide, Tryz.func146.trans (congrArg some (by kernel_rfl))⟩
  t0 := Tryz.underlying0
  a0 := Tryz.isAgg0
  z0 := Tryz.sizeOf0
  v0 := Tryz.zeroValue0
  t3 := Tryz.underlying3
  a3 := Tryz.isAgg3
  z3 := Tryz.sizeOf3
  v3 := Tryz.zeroValue3
  t4 := Tryz.underlying4
  a4 := Tryz.isAgg4
  z4 := Tryz.sizeOf4
  v4 := Tryz.zeroValue4
  t5 := Tryz.underlying5
  a5 := Tryz.isAgg5
  z5 := Tryz.sizeOf5
  v5 := Tryz.zeroValue5
  t9 := Tryz.underlying9
  a9 := Tryz.isAgg9
  z9 := Tryz.sizeOf9
  v9 := Tryz.zeroValue9
  t22 := Tryz.underlying129
  a22 := Tryz.isAgg129
  z22 := Tryz.sizeOf129
  v22 := Tryz.zeroValue129
  t23 := Tryz.underlying129
  a23 := Tryz.isAgg129
  z23 := Tryz.sizeOf129
  v23 := Tryz.zeroValue129
  t25 := Tryz.underlying2
  a25 := Tryz.isAgg2
  z25 := Tryz.sizeOf2
  v25 := Tryz.zeroValue2
  t32 := Tryz.underlying176
  a32 := Tryz.isAgg176
  z32 := Tryz.sizeOf176
  v32 := Tryz.zeroValue176
  t35 := Tryz.underlying184
  a35 := Tryz.isAgg184
  z35 := Tryz.sizeOf184
  v35 := Tryz.zeroValue184
  t36 := Tryz.underlying185
  a36 := Tryz.isAgg185
  z36 := Tryz.sizeOf185
  v36 := Tryz.zeroValue185
  t41 := Tryz.underlying190
  a41 := Tryz.isAgg190
  z41 := Tryz.sizeOf190
  v41 := Tryz.zeroValue190
  t44 := Tryz.underlying193
  a44 := Tryz.isAgg193
  z44 := Tryz.sizeOf193
  v44 := Tryz.zeroValue193
  t46 := Tryz.underlying163
  a46 := Tryz.isAgg163
  z46 := Tryz.sizeOf163
  v46 := Tryz.zeroValue163
  t53 := Tryz.underlying200
  a53 := Tryz.isAgg200
  z53 := Tryz.sizeOf200
  v53 := Tryz.zeroValue200
  t57 := Tryz.underlying204
  a57 := Tryz.isAgg204
  z57 := Tryz.sizeOf204
  v57 := Tryz.zeroValue204
  t63 := Tryz.underlying208
  a63 := Tryz.isAgg208
  z63 := Tryz.sizeOf208
  v63 := Tryz.zeroValue208
  t64 := Tryz.underlying209
  a64 := Tryz.isAgg209
  z64 := Tryz.sizeOf209
  v64 := Tryz.zeroValue209 }
end Go.Proofs.YtjjchfbckfopkaaGreat
