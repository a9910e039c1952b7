/- Contracts: chains of headers, leaves, a header's digest, on both sides. -/
import Derived.Test.YthpnelbciibjeaaHd1
import Derived.Test.YthpnelbciibjeaaRq2
set_option linter.all false
set_option maxRecDepth 100000
set_option linter.unusedSimpArgs false
set_option linter.unusedVariables false
namespace Go.Proofs.Ythpnelbciibjeaa
open Go.AW

theorem hdr_seq {h : zfc} (hk : zbd h = 0) : 0 ≤ h.seq ∧ h.seq ≤ 9007199254740992 := zjm (zgd.1 hk) h.seq (by simp [hdrL])
theorem checkHF_ne {h : zfc} (hk : (zbd h == 0) = false) : zmx h = false := by
  cases e : zmx h with
  | false => rfl
  | true => rw [zgd.2 e] at hk; cases hk
def aheadF (l : List zfc) : Nat → Option zfc
  | 0 => none
  | k + 1 => l[k]?
theorem zgf {l : List zfc} {k : Nat} {h : zfc} (hx : l[k]? = some h) : aheadF l (k + 1) = some h := hx
theorem hdrBF_ok {h : zfc} (hk : zbd h = 0) : hdrBF h = hdrB h := if_pos hk
theorem zkX {σ : List zc} {id m t : Nat} {L : List (List UInt8)} (hT : zbr σ id m t L) (hL : TabI L) {K : AV → List zc → Prop} (hK : K (.d (.bool true)) σ) : zj Try.prog zbQ [.box id 0] σ K := by
  refine zhr zhl fun hl => ?_
  simp only [zfH, iN, bT, bF, eN]
  refine gq1 ?_
  refine zog hT hL.nd hL.len hL.each ?_
  refine gq1 ?_
  refine zbD hl ?_
  exact hK
theorem gq24 {A P Q : Prop} (a : A) (h : Q) (e : A → Hd Q → P := by intro a h; (repeat' first | simp -dsimp only [↓ziv, ↓zbi, ↓zcW, ↓zix, ↓zio, ↓zim, ↓ziq, ↓zin, ↓zdb, ↓zcX, ↓zdc, ↓zcY, ↓zir, ↓zcU, ↓zdd, ↓zcZ, ↓zde, ↓zda, ↓zil, ↓ziu, ↓zcS, ↓zdf, ↓zia, ↓zhZ, ↓zij, iN, bT, bF, eN, ↓zeU, ↓unC, ↓zah, ↓zR, ↓zS, ↓zad, ↓zaG, ↓zbl, ↓zea, ↓zaj, ↓zcA, ↓zau, ↓zu, ↓zo, ↓zcT, ↓zi, ↓zax, ↓zac, ↓zbm, ↓zbg, ↓zd, ↓zK, ↓zq, ↓zJ, ↓zaI, ↓zeE, ↓zfi, ↓zat, ↓zaW, ↓zaY, ↓zbC, ↓zck, ↓zG, ↓zaA, ↓zQ, ↓zF, ↓zaE, zfb, zcF, zcr, unA, zfm, bnd, zfY, zap, zaw, zfQ, dm, dm1, zA, zaT, zgP, zgO, zZ, Q0, Q1, Q2, Q3, Q4, Q5, zaD, zI, zr, zav, zW, Q6, Q7, Q8, Q9, Q10, Q11, Q12, Q13, Q14, Nat.reduceAdd, Q15, Int.reduceToNat, Q16, Q17, Q18, Q19, Q20, reduceIte, Q21, Q22, zD, rep, zT, zgN, toD, zan, Q23, Q24, Q25, Q26, Q27, Q28, Nat.reduceLeDiff, Q29, Nat.reduceSub, Q30, Q31, Q32, sc, Q33, Q34, Q35, Q36, Q37, Q26, Q38, Q39, n0gt, n1gt, n2gt, n0eq, zhd, n1eq, n2eq, n0ne, n1ne, zhc, zhe, i0ne, i0eq, Bool.not_true, Bool.not_false, List.length_map, Bool.and_false, Bool.and_self, Bool.false_and, Bool.not_false, Bool.not_true, Bool.true_and, Int.toNat_natCast, Int.toNat_zero, List.drop_zero, List.length_map, List.length_nil, List.nil_append, List.take_length, Nat.sub_zero, Nat.zero_add, Option.isSome_none, Option.isSome_some, Option.map_none, Option.map_some, zbN, beq_self_eq_true, bne_self_eq_false, a] | with_reducible refine andA ?_ | fail); exact h.go) : P := e a ⟨h⟩
theorem c_blChain {σ : List zc} {id m t : Nat} {L : List (List UInt8)} {l : List zfc} (hT : zbr σ id m t L) (hL : TabI L) (hl0 : l.length ≤ 1073741824) {K : AV → List zc → Prop} (hK : K (.d (.bool (chainF L l))) σ) :
    zj Try.prog zcD [.box id 0, .d (.slice (hdrsE l))] σ K := by
  refine zla zjt fun hl => ?_
  have fin : ∀ z, chainF L l = z → K (.d (.bool z)) σ := fun z h => h ▸ hK
  clear hK
  have hlen : (hdrsE l).length = l.length := List.length_map ..
  simp only [zgD, iN, bT, bF, eN]
  refine gq1 ?_
  refine zkX hT hL ?_
  refine gq2 hlen ?_
  refine zV l.length (fun k vs s => vs = [.d (.int .i64 k)] ∧ (∃ T, s = σ ++ T) ∧ chainF L l = chainG L (aheadF l k) (l.drop k) ∧ ∀ q, aheadF l k = some q → zbd q = 0) ⟨rfl, ⟨[], by simp⟩, rfl, by simp [aheadF]⟩ ?_
  rintro k vs s hk ⟨rfl, ⟨T, rfl⟩, hpf, hq⟩
  by_cases hlt : k < l.length
  · have hd : decide ((k : Int) < (l.length : Int)) = true := by simp; omega
    have hx : l[k]? = some l[k] := by simp [hlt]
    have hgx := zef (f := hdrD) hx
    obtain ⟨h, hhe⟩ : ∃ h, l[k] = h := ⟨_, rfl⟩
    rw [hhe] at hx hgx
    rw [chain_drop hx] at hpf
    refine gq2 (zg hd (zg hgx hlen)) ?_
    refine zma (h := h) ?_
    cases hc : (zbd h == 0)
    · have hc' : (zbd h != 0) = true := by simpa using hc
      refine gq2 hc' ?_
      refine zbD hl ?_
      exact fin _ (by rw [hpf, checkHF_ne hc]; rfl)
    have hc0 : zbd h = 0 := by simpa using hc
    have hhs := hdr_seq hc0
    rw [zgd.1 hc0, Bool.true_and] at hpf
    rw [hc0]
    cases k with
    | zero =>
      refine gq2 (zg (show ((0 : Int) != 0) = false from rfl) (zg (show (((0 : Nat) : Int) == 0) = true from rfl) (wki 0 (by omega)))) ?_
      refine zcd.next hlt ⟨rfl, ⟨_, rfl⟩, ?_, ?_⟩
      · rw [hpf]; simp [aheadF, linkF, hx]
      · intro q hq2
        rw [zgf hx] at hq2
        cases hq2; exact hc0
    | succ j =>
      have hz : (((j + 1 : Nat) : Int) == 0) = false := by simp; omega
      have hy : l[j]? = some l[j] := by simp [show j < l.length by omega]
      have hgy := zef (f := hdrD) hy
      obtain ⟨q, hqe⟩ : ∃ q, l[j] = q := ⟨_, rfl⟩
      rw [hqe] at hy hgy
      have hqc := hq q (zgf hy)
      have hqs := hdr_seq hqc
      have hw1 : IntKind.i64.wrap (((j + 1 : Nat) : Int) - 1) = (j : Int) := by rw [zbJ (by omega) (by omega)]; omega
      have hw2 : IntKind.i64.wrap (h.seq - 1) = h.seq - 1 := zbJ (by omega) (by omega)
      have hw3 := wki (j + 1) (by omega)
      rw [zgf hy] at hpf
      refine gq2 (zg (show ((0 : Int) != 0) = false from rfl) (zg hz (zg hw1 (zg hgy hlen)))) ?_
      refine c_blBytes (h := q) ?_
      rw [hdrBF_ok hqc, hqc]
      refine gq1 ?_
      refine c_tLook (hT.app _) ?_
      cases hlk : zjk L (hdrB q) with
      | none =>
        refine gq4 ?_
        refine zbD hl ?_
        exact fin _ (by rw [hpf]; simp [linkF, hlk])
      | some i =>
        simp only [linkF, hlk] at hpf
        simp only [numOf]
        cases h1 : (h.prev == ((i + 1 : Nat) : Int))
        · have h1' : (h.prev != ((i + 1 : Nat) : Int)) = true := by simpa using h1
          refine gq24 (zg hgx h1') ?_
          refine zbD hl ?_
          exact fin _ (by rw [hpf, h1]; rfl)
        have h1' : (h.prev != ((i + 1 : Nat) : Int)) = false := by simpa using h1
        have e2 : (h.seq - 1 != q.seq) = !(h.seq == q.seq + 1) := by
          rw [Bool.eq_iff_iff]
          simp only [bne_iff_ne, Bool.not_eq_true', beq_eq_false_iff_ne, ne_eq]
          omega
        cases h2 : (h.seq == q.seq + 1)
        · rw [h2] at e2
          refine gq24 (zg hgx (zg hgy (zg hw1 (zg hw2 (zg h1' e2))))) ?_
          refine zbD hl ?_
          exact fin _ (by rw [hpf, h1, h2]; rfl)
        rw [h2] at e2
        refine gq24 (zg hgx (zg hgy (zg hw1 (zg hw2 (zg h1' (zg e2 hw3)))))) ?_
        refine zcd.next hlt ⟨rfl, ⟨_, rfl⟩, ?_, ?_⟩
        · rw [hpf, h1, h2, zgf hx]; rfl
        · intro q2 hq2
          rw [zgf hx] at hq2
          cases hq2; exact hc0
  · have hd : decide ((k : Int) < (l.length : Int)) = false := by simp; omega
    rw [List.drop_eq_nil_of_le (by omega)] at hpf
    refine gq2 (zg hd hlen) ?_
    refine zbD hl ?_
    exact fin _ hpf
theorem c_blLeaves {σ : List zc} {l : List zcy} (hl0 : l.length ≤ 1073741824) (hp : ∀ p ∈ l, znw p) {K : AV → List zc → Prop} (hK : K (.d (.slice (zjL (l.map zcg)))) σ) : zj Try.prog zfK [.d (.slice (zcK l))] σ K := by
  refine zhr zmB fun hl => ?_
  have hlen : (zcK l).length = l.length := List.length_map ..
  simp only [ziA, iN, bT, bF, eN]
  refine gq2 hlen ?_
  refine zds l.length (fun k vs s => vs = [.own σ.length (zjL ((l.take k).map zcg)), .d (.int .i64 k)] ∧ ∃ T, s = σ ++ (.tok 1 k :: T)) (.tok 0 [] 1 rfl (by simp) (.refl _ _)) ⟨by simp, [], rfl⟩ ?_
  rintro k vs s hk ⟨rfl, T, rfl⟩
  by_cases hlt : k < l.length
  · have hd : decide ((k : Int) < (l.length : Int)) = true := by simp; omega
    have hx : l[k]? = some l[k] := by simp [hlt]
    have hpx := hp _ (List.getElem_mem hlt)
    have hgx := zef (f := placedD) hx
    obtain ⟨p, hpe⟩ : ∃ p, l[k] = p := ⟨_, rfl⟩
    rw [hpe] at hx hgx hpx
    have hnx : zjL ((l.take k).map zcg) ++ [[D.slice (bcs (zcg p))]] = zjL ((l.take (k + 1)).map zcg) := by
      rw [List.take_add_one, hx]; simp
    have hk2 : (zjL ((l.take k).map zcg)).length = k := by simp; omega
    refine gq2 (zg hd (zg hgx hlen)) ?_
    refine c_toPlaced hpx ?_
    refine gq2 (zg hk2 (zg hnx (wki k (by omega)))) ?_
    exact zcd.next hlt ⟨rfl, _, rfl⟩
  · have hd : decide ((k : Int) < (l.length : Int)) = false := by simp; omega
    rw [List.take_of_length_le (by omega)]
    refine gq2 (zg hd hlen) ?_
    refine zbD hl ?_
    exact hK
def hdigE (L : List (List UInt8)) (h : zfc) : Int := if zbd h ≠ 0 then zbd h else if ziB L (hdrB h) = 0 then 6 else 0
def hdigD (L : List (List UInt8)) (h : zfc) : Int := if zbd h ≠ 0 then 0 else ziB L (hdrB h)
def zhV (L : List (List UInt8)) (h : zfc) : List (List UInt8) := if zbd h ≠ 0 then L else zfP L (hdrB h)
end Go.Proofs.Ythpnelbciibjeaa
