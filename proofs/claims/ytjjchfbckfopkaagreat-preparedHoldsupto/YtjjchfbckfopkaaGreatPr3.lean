/- Contracts: certificates that are kept. -/
import Derived.Test.YtjjchfbckfopkaaGreatPp1
import Derived.Test.YtjjchfbckfopkaaGreatSpMap
import Derived.Test.YtjjchfbckfopkaaGreatRq1
import Derived.Test.YtjjchfbckfopkaaGreatSh
import Derived.Shelf.SortM.Plain
import Derived.Shelf.SortM.SortNone
import Derived.Ground.SlgmProg
set_option linter.all false
set_option maxRecDepth 100000
set_option linter.unusedSimpArgs false
set_option linter.unusedVariables false
namespace Go.Proofs.YtjjchfbckfopkaaGreat
open Go.AW

theorem c_clSign {σ : List zb} {l : List zP} (hn : l.length ≤ 1073741824) {K : AV → List zb → Prop} (hK : K (.d (.slice (zaB l))) σ) : zt Tryz.prog zbf [.d (.slice (zaB l))] σ K := by
  refine ziC zei fun hl => ?_
  have hlen : (zaB l).length = l.length := List.length_map ..
  have h2 : ∀ e ∈ zaB l, e.length = 2 := zmS (f := zfn) (fun _ => rfl) l
  simp only [zbW, iN, bT, bF, eN, zaj, zcK]
  obtain ⟨es, hes⟩ : ∃ es, zaB l = es := ⟨_, rfl⟩
  rw [hes] at hlen h2 hK ⊢
  cases es with
  | nil =>
    refine ⟨?_, ?_⟩
    · refine gq1 ?_
      refine zam hl ?_
      exact hK
    · refine gq1 ?_
      refine zam hl ?_
      exact hK
  | cons e es =>
    simp only [zS, zp, zM, zag, rep, zn, zdX, zaf, zq, zdh]
    refine ⟨h2, by simp, by rw [hlen]; simp; omega, ?_⟩
    refine zam hl ?_
    exact hK
theorem zgx {σ : List zb} {p : zw} (hp : zdb p) {K : AV → List zb → Prop} (hK : K (zdZ p) σ) : zt Tryz.prog zbL [zdZ p] σ K := by
  refine ziC zml fun hl => ?_
  simp only [zhn, iN, bT, bF, eN, zl1, zdZ]
  refine gq1 ?_
  refine c_clSign hp.signs ?_
  refine gq1 ?_
  refine c_rqClone (b := p.batch) ⟨hp.batch, fun s hs => (zpq (hp.ops s hs)).2.2⟩ ?_
  refine gq1 ?_
  refine zam hl ?_
  exact hK
def zcR (s : Int) : List (Int × zw) → Nat → Option (Nat × zw)
  | [], _ => none
  | e :: r, i => if s = e.1 then some (i, e.2) else zcR s r (i + 1)
abbrev hE (l : List (Int × zw)) : List (AV × AV) := ents (l.map fun e => (e.1, zdZ e.2))
theorem zit (s : Int) : ∀ (l : List (Int × zw)) (i : Nat), zhM .int (.d (.int .i64 s)) (hE l) i = some ((zcR s l i).map fun q => (q.1, zdZ q.2))
  | [], _ => rfl
  | e :: r, i => by
    simp only [hE, ents, List.map_cons, zhM, zev, if_true, zcR]
    by_cases h : s = e.1
    · simp [h]
    · have : (s == e.1) = false := by simpa using h
      simp only [this, if_neg h]
      exact zit s r (i + 1)
structure zdA (σ : List zb) (h m : Nat) (l : List (Int × zw)) : Prop where
  box : σ[h]? = some (.box [.map m])
  map : σ[m]? = some (.map (hE l))
theorem zdA.app {σ : List zb} {h m : Nat} {l : List (Int × zw)} (H : zdA σ h m l) (τ : List zb) : zdA (σ ++ τ) h m l := ⟨ze H.box, ze H.map⟩
def inR (p : zw) : Bool := !(decide (p.seq < 1)) && !(decide (p.seq > 9007199254740992))
def hOk (l : List (Int × zw)) (p : zw) : Bool := match zcR p.seq l 0 with
  | some q => !(decide (q.2.view ≥ p.view))
  | none => true
def hPut (l : List (Int × zw)) (p : zw) : List (Int × zw) := match zcR p.seq l 0 with
  | some q => if q.2.view ≥ p.view then l else l.set q.1 (p.seq, p)
  | none => l ++ [(p.seq, p)]
def hGet (l : List (Int × zw)) (s : Int) : zw := match zcR s l 0 with
  | some q => q.2
  | none => ⟨0, 0, 0, 0, 0, [], []⟩
theorem znk {s : Int} : ∀ {l : List (Int × zw)} {i : Nat} {q : Nat × zw}, zcR s l i = some q → ∃ e ∈ l, e.2 = q.2
  | [], _, _, h => by simp [zcR] at h
  | e :: r, i, q, h => by
    simp only [zcR] at h
    split at h
    · cases h; exact ⟨e, by simp, rfl⟩
    · obtain ⟨e', h1, h2⟩ := znk h
      exact ⟨e', by simp [h1], h2⟩
theorem ziA {σ : List zb} {h m : Nat} {l : List (Int × zw)} (H : zdA σ h m l) {K : AV → List zb → Prop} (hK : K (.d (.bool false)) σ) : zt Tryz.prog zaG [.box h 0] σ K := by
  refine ziC ziI fun hl => ?_
  have hb := H.box
  simp only [zfc, iN, bT, bF, eN]
  refine gq2 hb ?_
  refine zam hl ?_
  exact hK
theorem c_heLen {σ : List zb} {h m : Nat} {l : List (Int × zw)} (H : zdA σ h m l) {K : AV → List zb → Prop} (hK : K (.d (.int .i64 l.length)) σ) : zt Tryz.prog zcn [.box h 0] σ K := by
  refine ziC zju fun hl => ?_
  have hb := H.box
  have hm := H.map
  have hlen : (hE l).length = l.length := by simp [hE, ents]
  simp only [zfF, iN, bT, bF, eN]
  refine gq1 ?_
  refine ziA H ?_
  refine gq2 (zj hb (zj hm hlen)) ?_
  refine zam hl ?_
  exact hK
theorem zqd {σ : List zb} {K : AV → List zb → Prop} (hK : K (.box (σ.length + 1) 0) (σ ++ [.map (hE []), .box [.map σ.length]])) : zt Tryz.prog zcy [] σ K := by
  refine zbH ziS.is rfl (fun s => List.range' σ.length 2) fun hl _ => ziS.goes ?_
  simp only [zje, iN, bT, bF, eN]
  refine gq1 ?_
  refine zdM (σ' := σ) (os := [.map (hE []), .box [.map σ.length]]) rfl rfl hl ?_ (.box _ _ (by simp)) hK
  intro x hx
  simp only [List.mem_cons, List.not_mem_nil, or_false] at hx
  rcases hx with rfl | rfl
  · intro e he
    simp [hE, ents] at he
  · intro c hc
    simp only [List.mem_cons, List.not_mem_nil, or_false] at hc
    subst hc
    exact .map _ (by simp)
theorem c_heGet {σ : List zb} {h m : Nat} {l : List (Int × zw)} {s : Int} (H : zdA σ h m l) (hl0 : ∀ e ∈ l, zdb e.2) {K : AV → List zb → Prop} (hK : K (.tup [zdZ (hGet l s), .d (.bool (zcR s l 0).isSome)]) σ) :
    zt Tryz.prog zdr [.box h 0, .d (.int .i64 s)] σ K := by
  refine zhh zjv fun hl => ?_
  have hb : ∀ τ, (σ ++ τ)[h]? = some (.box [.map m]) := fun τ => ze H.box
  have hm : ∀ τ, (σ ++ τ)[m]? = some (.map (hE l)) := fun τ => ze H.map
  have hf := zit s l 0
  simp only [zfG, iN, bT, bF, eN, zl1]
  refine gq1 ?_
  refine ziA (H.app _) ?_
  cases hq : zcR s l 0 with
  | none =>
    rw [hq] at hf
    rw [hGet, hq] at hK
    refine gq3 (zj hb (zj hm hf)) ?_
    refine zgx (p := ⟨0, 0, 0, 0, 0, [], []⟩) ⟨by simp, by simp, by simp⟩ ?_
    refine gq1 ?_
    refine zam hl ?_
    exact hK
  | some q =>
    rw [hq] at hf
    rw [hGet, hq] at hK
    refine gq3 (zj hb (zj hm hf)) ?_
    obtain ⟨e, he, heq⟩ := znk hq
    refine zgx (p := q.2) (heq ▸ hl0 e he) ?_
    refine gq1 ?_
    refine zam hl ?_
    exact hK
theorem hE_set (l : List (Int × zw)) (i : Nat) (p : zw) : (hE l).set i (.d (.int .i64 p.seq), zdZ p) = hE (l.set i (p.seq, p)) := by
  simp only [hE, ents, List.map_set]
theorem hE_add (l : List (Int × zw)) (p : zw) : hE l ++ [(.d (.int .i64 p.seq), zdZ p)] = hE (l ++ [(p.seq, p)]) := by simp [hE, ents]
theorem lowHE (n : Nat) (l : List (Int × zw)) : zql n (.map (hE l)) := by
  intro e he
  simp only [hE, ents, List.map_map, List.mem_map] at he
  obtain ⟨x, _, rfl⟩ := he
  refine ⟨.d _, .agg _ fun c hc => ?_⟩
  simp only [List.mem_cons, List.not_mem_nil, or_false] at hc
  rcases hc with rfl | rfl | rfl | rfl | rfl | rfl | rfl <;> exact .d _
theorem zqc {σ : List zb} {h m : Nat} {l : List (Int × zw)} {p : zw} (H : zdA σ h m l) (hp : zdb p) {K : AV → List zb → Prop}
    (hK : K (.d (.bool (inR p && hOk l p))) (σ.set m (.map (hE (if inR p = true then hPut l p else l))))) :
    zt Tryz.prog zbs [.box h 0, zdZ p] σ K := by
  refine zhh zjt fun hl => ?_
  have hb : ∀ τ, (σ ++ τ)[h]? = some (.box [.map m]) := fun τ => ze H.box
  have hm : ∀ τ, (σ ++ τ)[m]? = some (.map (hE l)) := fun τ => ze H.map
  have hsm : ∀ τ X, (σ ++ τ).set m X = σ.set m X ++ τ := fun τ X => zbX H.map
  have hf := zit p.seq l 0
  have hsame : σ.set m (.map (hE l)) = σ := zbN H.map
  simp only [zfE, iN, bT, bF, eN, zl1, zdZ]
  refine gq1 ?_
  refine ziA (H.app _) ?_
  cases h1 : decide (p.seq < 1)
  rotate_left
  · simp only [inR, h1, Bool.not_true, Bool.false_and, Bool.false_eq_true, if_false, hsame] at hK
    refine gq2 h1 ?_
    refine zam hl ?_
    exact hK
  cases h2 : decide (p.seq > 9007199254740992)
  rotate_left
  · simp only [inR, h2, Bool.not_true, Bool.and_false, Bool.false_and, Bool.false_eq_true, if_false, hsame] at hK
    refine gq2 (zj h1 h2) ?_
    refine zam hl ?_
    exact hK
  simp only [inR, h1, h2, Bool.not_false, Bool.true_and, if_true] at hK
  cases hq : zcR p.seq l 0 with
  | none =>
    rw [hq] at hf
    simp only [hOk, hPut, hq] at hK
    refine gq3 (zj h1 (zj h2 (zj hb (zj hm hf)))) ?_
    refine zgx (p := p) hp ?_
    refine gq3 (zj hb (zj hm (zj hf hsm))) ?_
    rw [hE_add]
    exact ends_set (by simp [zgi, dmT, dm, dm1, zck]) hl (lowHE _ _) hK
  | some q =>
    rw [hq] at hf
    simp only [hOk, hPut, hq] at hK
    cases h3 : decide (q.2.view ≥ p.view)
    · rw [h3, if_neg (by simpa using h3)] at hK
      refine gq3 (zj h1 (zj h2 (zj hb (zj hm (zj hf h3))))) ?_
      refine zgx (p := p) hp ?_
      refine gq3 (zj hb (zj hm (zj hf hsm))) ?_
      rw [hE_set]
      exact ends_set (by simp [zgi, dmT, dm, dm1, zck]) hl (lowHE _ _) hK
    · rw [h3, if_pos (by simpa using h3), hsame] at hK
      refine gq3 (zj h1 (zj h2 (zj hb (zj hm (zj hf h3))))) ?_
      refine zam hl ?_
      exact hK
open Go.Shelf Go.Proofs
def sortI_ren : Go.Shelf.Ren := ⟨fun | 5 => 85 | 8 => 113 | 7 => 112 | 19 => 130 | 20 => 131 | 10 => 121 | 11 => 122 | 12 => 123 | 13 => 124 | 14 => 125 | 15 => 126 | 16 => 127 | 17 => 128 | 18 => 129 | 30 => 137 | 31 => 138 | 32 => 139 | 33 => 140 | 34 => 141 | 35 => 142 | 40 => 146 | n => n, fun | 23 => 129 | 25 => 2 | 3 => 3 | 32 => 176 | 22 => 129 | 0 => 0 | 44 => 193 | 46 => 163 | 4 => 4 | 36 => 185 | 35 => 184 | 41 => 190 | 5 => 5 | 9 => 9 | 53 => 200 | 57 => 204 | 63 => 208 | 64 => 209 | n => n, fun | n => n⟩
theorem sortI : Go.Proofs.SlLaysM.n5 Tryz.prog sortI_ren := {
  mixed := by kernel_rfl
  f5 := ⟨Tryz.f85.name, by decide, Tryz.func85.trans (congrArg some (by kernel_rfl))⟩
  f7 := ⟨Tryz.f112.name, by decide, Tryz.func112.trans (congrArg some (by kernel_rfl))⟩
  f8 := Tryz.func113.trans (congrArg some (by kernel_rfl))
  f10 := ⟨Tryz.f121.name, by decide, Tryz.func121.trans (congrArg some (by kernel_rfl))⟩
  f11 := ⟨Tryz.f122.name, by decide, Tryz.func122.trans (congrArg some (by kernel_rfl))⟩
  f12 := ⟨Tryz.f123.name, by decide, Tryz.func123.trans (congrArg some (by kernel_rfl))⟩
  f13 := ⟨Tryz.f124.name, by decide, Tryz.func124.trans (congrArg some (by kernel_rfl))⟩
  f14 := ⟨Tryz.f125.name, by decide, Tryz.func125.trans (congrArg some (by kernel_rfl))⟩
  f15 := ⟨Tryz.f126.name, by decide, Tryz.func126.trans (congrArg some (by kernel_rfl))⟩
  f16 := ⟨Tryz.f127.name, by decide, Tryz.func127.trans (congrArg some (by kernel_rfl))⟩
  f17 := ⟨Tryz.f128.name, by decide, Tryz.func128.trans (congrArg some (by kernel_rfl))⟩
  f18 := ⟨Tryz.f129.name, by decide, Tryz.func129.trans (congrArg some (by kernel_rfl))⟩
  f19 := Tryz.func130.trans (congrArg some (by kernel_rfl))
  f20 := Tryz.func131.trans (congrArg some (by kernel_rfl))
  f30 := ⟨Tryz.f137.name, by decide, Tryz.func137.trans (congrArg some (by kernel_rfl))⟩
  f31 := Tryz.func138.trans (congrArg some (by kernel_rfl))
  f32 := Tryz.func139.trans (congrArg some (by kernel_rfl))
  f33 := ⟨Tryz.f140.name, by decide, Tryz.func140.trans (congrArg some (by kernel_rfl))⟩
  f34 := ⟨Tryz.f141.name, by decide, Tryz.func141.trans (congrArg some (by kernel_rfl))⟩
  f35 := ⟨Tryz.f142.name, by decide, Tryz.func142.trans (congrArg some (by kernel_rfl))⟩
  f40 := ⟨Tryz.f146.name, by decide, Tryz.func146.trans (congrArg some (by kernel_rfl))⟩
  t0 := Tryz.underlying0
  a0 := Tryz.isAgg0
  z0 := Tryz.sizeOf0
  v0 := Tryz.zeroValue0
  t3 := Tryz.underlying3
  a3 := Tryz.isAgg3
  z3 := Tryz.sizeOf3
  v3 := Tryz.zeroValue3
  t4 := Tryz.underlying4
  a4 := Tryz.isAgg4
  z4 := Tryz.sizeOf4
  v4 := Tryz.zeroValue4
  t5 := Tryz.underlying5
  a5 := Tryz.isAgg5
  z5 := Tryz.sizeOf5
  v5 := Tryz.zeroValue5
  t9 := Tryz.underlying9
  a9 := Tryz.isAgg9
  z9 := Tryz.sizeOf9
  v9 := Tryz.zeroValue9
  t22 := Tryz.underlying129
  a22 := Tryz.isAgg129
  z22 := Tryz.sizeOf129
  v22 := Tryz.zeroValue129
  t23 := Tryz.underlying129
  a23 := Tryz.isAgg129
  z23 := Tryz.sizeOf129
  v23 := Tryz.zeroValue129
  t25 := Tryz.underlying2
  a25 := Tryz.isAgg2
  z25 := Tryz.sizeOf2
  v25 := Tryz.zeroValue2
  t32 := Tryz.underlying176
  a32 := Tryz.isAgg176
  z32 := Tryz.sizeOf176
  v32 := Tryz.zeroValue176
  t35 := Tryz.underlying184
  a35 := Tryz.isAgg184
  z35 := Tryz.sizeOf184
  v35 := Tryz.zeroValue184
  t36 := Tryz.underlying185
  a36 := Tryz.isAgg185
  z36 := Tryz.sizeOf185
  v36 := Tryz.zeroValue185
  t41 := Tryz.underlying190
  a41 := Tryz.isAgg190
  z41 := Tryz.sizeOf190
  v41 := Tryz.zeroValue190
  t44 := Tryz.underlying193
  a44 := Tryz.isAgg193
  z44 := Tryz.sizeOf193
  v44 := Tryz.zeroValue193
  t46 := Tryz.underlying163
  a46 := Tryz.isAgg163
  z46 := Tryz.sizeOf163
  v46 := Tryz.zeroValue163
  t53 := Tryz.underlying200
  a53 := Tryz.isAgg200
  z53 := Tryz.sizeOf200
  v53 := Tryz.zeroValue200
  t57 := Tryz.underlying204
  a57 := Tryz.isAgg204
  z57 := Tryz.sizeOf204
  v57 := Tryz.zeroValue204
  t63 := Tryz.underlying208
  a63 := Tryz.isAgg208
  z63 := Tryz.sizeOf208
  v63 := Tryz.zeroValue208
  t64 := Tryz.underlying209
  a64 := Tryz.isAgg209
  z64 := Tryz.sizeOf209
  v64 := Tryz.zeroValue209 }
end Go.Proofs.YtjjchfbckfopkaaGreat
