/- Contracts: chains of headers, leaves, a header's digest, on both sides. -/
import Derived.Test.YthpnelbciibjeaaGreatHd1
import Derived.Test.YthpnelbciibjeaaGreatRq2
set_option linter.all false
set_option maxRecDepth 100000
set_option linter.unusedSimpArgs false
set_option linter.unusedVariables false
namespace Go.Proofs.YthpnelbciibjeaaGreat
open Go.AW

theorem hdr_seq {h : zbZ} (hk : zaQ h = 0) : 0 ≤ h.seq ∧ h.seq ≤ 9007199254740992 := zeI (zdt.1 hk) h.seq (by simp [zjM])
theorem checkHF_ne {h : zbZ} (hk : (zaQ h == 0) = false) : zgl h = false := by
  cases e : zgl h with
  | false => rfl
  | true => rw [zdt.2 e] at hk; cases hk
def aheadF (l : List zbZ) : Nat → Option zbZ
  | 0 => none
  | k + 1 => l[k]?
theorem zgF {l : List zbZ} {k : Nat} {h : zbZ} (hx : l[k]? = some h) : aheadF l (k + 1) = some h := hx
theorem hdrBF_ok {h : zbZ} (hk : zaQ h = 0) : hdrBF h = zlX h := if_pos hk
theorem zmk {σ : List zc} {id m t : Nat} {L : List (List UInt8)} (hT : zbC σ id m t L) (hL : zhJ L) {K : AV → List zc → Prop} (hK : K (.d (.bool true)) σ) : zt Tryz.prog zdB [.box id 0] σ K := by
  refine zhl e_block_made fun hl => ?_
  simp only [zlU, iN, bT, bF, eN]
  refine gq1 ?_
  refine c_tClone hT hL.nd hL.len hL.each ?_
  refine gq1 ?_
  refine zbj hl ?_
  exact hK
theorem gq31 {A P Q : Prop} (a : A) (h : Q) (e : A → Hd Q → P := by intro a h; (repeat' first | simp -dsimp only [↓zhH, ↓zbh, ↓zcI, ↓zhI, ↓zhD, ↓zhB, ↓zhE, ↓zhC, ↓zcN, ↓zcJ, ↓zcO, ↓zcK, ↓zhF, ↓zcH, ↓zcP, ↓zcL, ↓zcQ, ↓zcM, ↓zhA, ↓zhG, ↓zcG, ↓zcS, ↓zhy, ↓zhx, ↓zhz, iN, bT, bF, eN, ↓zei, ↓unC, ↓zal, ↓zZ, ↓zaa, ↓zah, ↓zaE, ↓zaO, ↓zdI, ↓zak, ↓zcu, ↓zaF, ↓zr, ↓zA, ↓zde, ↓zj, ↓zau, ↓zT, ↓zaW, ↓zbl, ↓zd, ↓zU, ↓zq, ↓zJ, ↓zaI, ↓zez, ↓zeX, ↓zaq, ↓zaS, ↓zaV, ↓zbA, ↓zbV, ↓zG, ↓zay, ↓zX, ↓zH, ↓zaC, zeY, zcw, zcg, unA, zfb, bnd, zfU, zan, zaG, zfT, dm, dm1, zC, zaT, zgx, zgw, zao, Q0, Q1, Q2, Q3, Q4, Q5, zaB, zP, zp, zas, zac, Q6, Q7, Q8, Q9, Q10, Q11, Q12, Q13, Q14, Nat.reduceAdd, Q15, Int.reduceToNat, Q16, Q17, Q18, Q19, Q20, reduceIte, Q21, Q22, zE, rep, zag, zgP, toD, zap, Q23, Q24, Q25, Q26, Q27, Q28, Nat.reduceLeDiff, Q29, Nat.reduceSub, Q30, Q31, Q32, sc, Q33, Q34, Q35, Q36, Q37, Q26, Q38, Q39, n0gt, n1gt, n2gt, n0eq, zjv, n1eq, n2eq, n0ne, n1ne, zju, zjw, i0ne, i0eq, Bool.not_true, Bool.not_false, List.length_map, Bool.and_false, Bool.and_self, Bool.false_and, Bool.not_false, Bool.not_true, Bool.true_and, Int.toNat_natCast, Int.toNat_zero, List.drop_zero, List.length_map, List.length_nil, List.nil_append, List.take_length, Nat.sub_zero, Nat.zero_add, Option.isSome_none, Option.isSome_some, Option.map_none, Option.map_some, zbp, beq_self_eq_true, bne_self_eq_false, a] | with_reducible refine andA ?_ | fail); exact h.go) : P := e a ⟨h⟩
theorem zko {σ : List zc} {id m t : Nat} {L : List (List UInt8)} {l : List zbZ} (hT : zbC σ id m t L) (hL : zhJ L) (hl0 : l.length ≤ 1073741824) {K : AV → List zc → Prop} (hK : K (.d (.bool (zoJ L l))) σ) :
    zt Tryz.prog zdg [.box id 0, .d (.slice (zpu l))] σ K := by
  refine zlO zpI fun hl => ?_
  have fin : ∀ z, zoJ L l = z → K (.d (.bool z)) σ := fun z h => h ▸ hK
  clear hK
  have hlen : (zpu l).length = l.length := List.length_map ..
  simp only [zkI, iN, bT, bF, eN]
  refine gq1 ?_
  refine zmk hT hL ?_
  refine gq2 hlen ?_
  refine zN l.length (fun k vs s => vs = [.d (.int .i64 k)] ∧ (∃ T, s = σ ++ T) ∧ zoJ L l = znr L (aheadF l k) (l.drop k) ∧ ∀ q, aheadF l k = some q → zaQ q = 0) ⟨rfl, ⟨[], by simp⟩, rfl, by simp [aheadF]⟩ ?_
  rintro k vs s hk ⟨rfl, ⟨T, rfl⟩, hpf, hq⟩
  by_cases hlt : k < l.length
  · have hd : decide ((k : Int) < (l.length : Int)) = true := by simp; omega
    have hx : l[k]? = some l[k] := by simp [hlt]
    have hgx := zbr (f := hdrD) hx
    obtain ⟨h, hhe⟩ : ∃ h, l[k] = h := ⟨_, rfl⟩
    rw [hhe] at hx hgx
    rw [chain_drop hx] at hpf
    refine gq2 (zi hd (zi hgx hlen)) ?_
    refine znv (h := h) ?_
    cases hc : (zaQ h == 0)
    · have hc' : (zaQ h != 0) = true := by simpa using hc
      refine gq2 hc' ?_
      refine zbj hl ?_
      exact fin _ (by rw [hpf, checkHF_ne hc]; rfl)
    have hc0 : zaQ h = 0 := by simpa using hc
    have hhs := hdr_seq hc0
    rw [zdt.1 hc0, Bool.true_and] at hpf
    rw [hc0]
    cases k with
    | zero =>
      refine gq2 (zi (show ((0 : Int) != 0) = false from rfl) (zi (show (((0 : Nat) : Int) == 0) = true from rfl) (wki 0 (by omega)))) ?_
      refine zbJ.next hlt ⟨rfl, ⟨_, rfl⟩, ?_, ?_⟩
      · rw [hpf]; simp [aheadF, linkF, hx]
      · intro q hq2
        rw [zgF hx] at hq2
        cases hq2; exact hc0
    | succ j =>
      have hz : (((j + 1 : Nat) : Int) == 0) = false := by simp; omega
      have hy : l[j]? = some l[j] := by simp [show j < l.length by omega]
      have hgy := zbr (f := hdrD) hy
      obtain ⟨q, hqe⟩ : ∃ q, l[j] = q := ⟨_, rfl⟩
      rw [hqe] at hy hgy
      have hqc := hq q (zgF hy)
      have hqs := hdr_seq hqc
      have hw1 : IntKind.i64.wrap (((j + 1 : Nat) : Int) - 1) = (j : Int) := by rw [zaD (by omega) (by omega)]; omega
      have hw2 : IntKind.i64.wrap (h.seq - 1) = h.seq - 1 := zaD (by omega) (by omega)
      have hw3 := wki (j + 1) (by omega)
      rw [zgF hy] at hpf
      refine gq2 (zi (show ((0 : Int) != 0) = false from rfl) (zi hz (zi hw1 (zi hgy hlen)))) ?_
      refine c_blBytes (h := q) ?_
      rw [hdrBF_ok hqc, hqc]
      refine gq1 ?_
      refine c_tLook (hT.app _) ?_
      cases hlk : zgk L (zlX q) with
      | none =>
        refine gq4 ?_
        refine zbj hl ?_
        exact fin _ (by rw [hpf]; simp [linkF, hlk])
      | some i =>
        simp only [linkF, hlk] at hpf
        simp only [numOf]
        cases h1 : (h.prev == ((i + 1 : Nat) : Int))
        · have h1' : (h.prev != ((i + 1 : Nat) : Int)) = true := by simpa using h1
          refine gq31 (zi hgx h1') ?_
          refine zbj hl ?_
          exact fin _ (by rw [hpf, h1]; rfl)
        have h1' : (h.prev != ((i + 1 : Nat) : Int)) = false := by simpa using h1
        have e2 : (h.seq - 1 != q.seq) = !(h.seq == q.seq + 1) := by
          rw [Bool.eq_iff_iff]
          simp only [bne_iff_ne, Bool.not_eq_true', beq_eq_false_iff_ne, ne_eq]
          omega
        cases h2 : (h.seq == q.seq + 1)
        · rw [h2] at e2
          refine gq31 (zi hgx (zi hgy (zi hw1 (zi hw2 (zi h1' e2))))) ?_
          refine zbj hl ?_
          exact fin _ (by rw [hpf, h1, h2]; rfl)
        rw [h2] at e2
        refine gq31 (zi hgx (zi hgy (zi hw1 (zi hw2 (zi h1' (zi e2 hw3)))))) ?_
        refine zbJ.next hlt ⟨rfl, ⟨_, rfl⟩, ?_, ?_⟩
        · rw [hpf, h1, h2, zgF hx]; rfl
        · intro q2 hq2
          rw [zgF hx] at hq2
          cases hq2; exact hc0
  · have hd : decide ((k : Int) < (l.length : Int)) = false := by simp; omega
    rw [List.drop_eq_nil_of_le (by omega)] at hpf
    refine gq2 (zi hd hlen) ?_
    refine zbj hl ?_
    exact fin _ hpf
theorem c_blLeaves {σ : List zc} {l : List zcs} (hl0 : l.length ≤ 1073741824) (hp : ∀ p ∈ l, zmA p) {K : AV → List zc → Prop} (hK : K (.d (.slice (zkL (l.map zaH)))) σ) : zt Tryz.prog zgi [.d (.slice (zdm l))] σ K := by
  refine zhl znX fun hl => ?_
  have hlen : (zdm l).length = l.length := List.length_map ..
  simp only [zjl, iN, bT, bF, eN]
  refine gq2 hlen ?_
  refine zcc l.length (fun k vs s => vs = [.own σ.length (zkL ((l.take k).map zaH)), .d (.int .i64 k)] ∧ ∃ T, s = σ ++ (.tok 1 k :: T)) (.tok 0 [] 1 rfl (by simp) (.refl _ _)) ⟨by simp, [], rfl⟩ ?_
  rintro k vs s hk ⟨rfl, T, rfl⟩
  by_cases hlt : k < l.length
  · have hd : decide ((k : Int) < (l.length : Int)) = true := by simp; omega
    have hx : l[k]? = some l[k] := by simp [hlt]
    have hpx := hp _ (List.getElem_mem hlt)
    have hgx := zbr (f := placedD) hx
    obtain ⟨p, hpe⟩ : ∃ p, l[k] = p := ⟨_, rfl⟩
    rw [hpe] at hx hgx hpx
    have hnx : zkL ((l.take k).map zaH) ++ [[D.slice (bcs (zaH p))]] = zkL ((l.take (k + 1)).map zaH) := by
      rw [List.take_add_one, hx]; simp
    have hk2 : (zkL ((l.take k).map zaH)).length = k := by simp; omega
    refine gq2 (zi hd (zi hgx hlen)) ?_
    refine c_toPlaced hpx ?_
    refine gq2 (zi hk2 (zi hnx (wki k (by omega)))) ?_
    exact zbJ.next hlt ⟨rfl, _, rfl⟩
  · have hd : decide ((k : Int) < (l.length : Int)) = false := by simp; omega
    rw [List.take_of_length_le (by omega)]
    refine gq2 (zi hd hlen) ?_
    refine zbj hl ?_
    exact hK
def hdigE (L : List (List UInt8)) (h : zbZ) : Int := if zaQ h ≠ 0 then zaQ h else if zex L (zlX h) = 0 then 6 else 0
def zmY (L : List (List UInt8)) (h : zbZ) : Int := if zaQ h ≠ 0 then 0 else zex L (zlX h)
def zdh (L : List (List UInt8)) (h : zbZ) : List (List UInt8) := if zaQ h ≠ 0 then L else zee L (zlX h)
end Go.Proofs.YthpnelbciibjeaaGreat
