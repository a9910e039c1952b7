/- Contracts: chains of headers, leaves, a header's digest, on both sides. -/
import Derived.Test.YthpnelbciibjeaaGreatHd1
import Derived.Test.YthpnelbciibjeaaGreatRq2
set_option linter.all false
set_option maxRecDepth 100000
set_option linter.unusedSimpArgs false
set_option linter.unusedVariables false
namespace Go.Proofs.YthpnelbciibjeaaGreat
open Go.AW

theorem hdr_seq {h : zfs} (hk : zaE h = 0) : 0 ≤ h.seq ∧ h.seq ≤ 9007199254740992 := zil (zeH.1 hk) h.seq (by simp [zmB])
theorem checkHF_ne {h : zfs} (hk : (zaE h == 0) = false) : zim h = false := by
  cases e : zim h with
  | false => rfl
  | true => rw [zeH.2 e] at hk; cases hk
def aheadF (l : List zfs) : Nat → Option zfs
  | 0 => none
  | k + 1 => l[k]?
theorem zha {l : List zfs} {k : Nat} {h : zfs} (hx : l[k]? = some h) : aheadF l (k + 1) = some h := hx
theorem zpM {h : zfs} (hk : zaE h = 0) : hdrBF h = zoD h := if_pos hk
theorem zmD {σ : List zc} {id m t : Nat} {L : List (List UInt8)} (hT : zbO σ id m t L) (hL : TabI L) {K : AV → List zc → Prop} (hK : K (.d (.bool true)) σ) : zo Tryz.prog zdz [.box id 0] σ K := by
  refine zhS e_block_made fun hl => ?_
  simp only [zmn, iN, bT, bF, eN]
  refine gq1 ?_
  refine c_tClone hT hL.nd hL.len hL.each ?_
  refine gq1 ?_
  refine zbx hl ?_
  exact hK
theorem gq29 {A P Q : Prop} (a : A) (h : Q) (e : A → Hd Q → P := by intro a h; (repeat' first | simp -dsimp only [↓zgX, ↓zaP, ↓zca, ↓zgZ, ↓zgR, ↓zgP, ↓zgS, ↓zgQ, ↓zcf, ↓zcb, ↓zcg, ↓zcc, ↓zgT, ↓zbX, ↓zch, ↓zcd, ↓zci, ↓zce, ↓zgN, ↓zgW, ↓zbW, ↓zcm, ↓zgC, ↓zgB, ↓zgL, iN, bT, bF, eN, ↓zdH, ↓unC, ↓zR, ↓zN, ↓zO, ↓zP, ↓zan, ↓zba, ↓zcY, ↓zS, ↓zcj, ↓zao, ↓zt, ↓zj, ↓zbI, ↓zg, ↓zah, ↓zX, ↓zaZ, ↓zaU, ↓zd, ↓zH, ↓zl, ↓zy, ↓zar, ↓zdS, ↓zeg, ↓zZ, ↓zaH, ↓zaO, ↓zbn, ↓zbC, ↓zw, ↓zam, ↓zL, ↓zu, ↓zaj, zee, zbN, zbH, unA, zed, bnd, zeY, zad, zag, zeQ, dm, dm1, zE, zaI, zgc, zgb, zaf, Q0, Q1, Q2, Q3, Q4, Q5, zai, zp, zm, zac, zM, Q6, Q7, Q8, Q9, Q10, Q11, Q12, Q13, Q14, Nat.reduceAdd, Q15, Int.reduceToNat, Q16, Q17, Q18, Q19, Q20, reduceIte, Q21, Q22, zC, rep, zT, zfz, toD, zab, Q23, Q24, Q25, Q26, Q27, Q28, Nat.reduceLeDiff, Q29, Nat.reduceSub, Q30, Q31, Q32, sc, Q33, Q34, Q35, Q36, Q37, Q26, Q38, Q39, zpD, zpA, zpx, zpE, zhv, zpB, zpy, zpC, zpz, zhu, zhw, zpJ, zpK, Bool.not_true, Bool.not_false, List.length_map, Bool.and_false, Bool.and_self, Bool.false_and, Bool.not_false, Bool.not_true, Bool.true_and, Int.toNat_natCast, Int.toNat_zero, List.drop_zero, List.length_map, List.length_nil, List.nil_append, List.take_length, Nat.sub_zero, Nat.zero_add, Option.isSome_none, Option.isSome_some, Option.map_none, Option.map_some, zat, beq_self_eq_true, bne_self_eq_false, a] | with_reducible refine zqn ?_ | fail); exact h.go) : P := e a ⟨h⟩
theorem c_blChain {σ : List zc} {id m t : Nat} {L : List (List UInt8)} {l : List zfs} (hT : zbO σ id m t L) (hL : TabI L) (hl0 : l.length ≤ 1073741824) {K : AV → List zc → Prop} (hK : K (.d (.bool (chainF L l))) σ) :
    zo Tryz.prog zfn [.box id 0, .d (.slice (hdrsE l))] σ K := by
  refine zjy zqb fun hl => ?_
  have fin : ∀ z, chainF L l = z → K (.d (.bool z)) σ := fun z h => h ▸ hK
  clear hK
  have hlen : (hdrsE l).length = l.length := List.length_map ..
  simp only [zkX, iN, bT, bF, eN]
  refine gq1 ?_
  refine zmD hT hL ?_
  refine gq2 hlen ?_
  refine zV l.length (fun k vs s => vs = [.d (.int .i64 k)] ∧ (∃ T, s = σ ++ T) ∧ chainF L l = chainG L (aheadF l k) (l.drop k) ∧ ∀ q, aheadF l k = some q → zaE q = 0) ⟨rfl, ⟨[], by simp⟩, rfl, by simp [aheadF]⟩ ?_
  rintro k vs s hk ⟨rfl, ⟨T, rfl⟩, hpf, hq⟩
  by_cases hlt : k < l.length
  · have hd : decide ((k : Int) < (l.length : Int)) = true := by simp; omega
    have hx : l[k]? = some l[k] := by simp [hlt]
    have hgx := zdu (f := hdrD) hx
    obtain ⟨h, hhe⟩ : ∃ h, l[k] = h := ⟨_, rfl⟩
    rw [hhe] at hx hgx
    rw [chain_drop hx] at hpf
    refine gq2 (zh hd (zh hgx hlen)) ?_
    refine zkG (h := h) ?_
    cases hc : (zaE h == 0)
    · have hc' : (zaE h != 0) = true := by simpa using hc
      refine gq2 hc' ?_
      refine zbx hl ?_
      exact fin _ (by rw [hpf, checkHF_ne hc]; rfl)
    have hc0 : zaE h = 0 := by simpa using hc
    have hhs := hdr_seq hc0
    rw [zeH.1 hc0, Bool.true_and] at hpf
    rw [hc0]
    cases k with
    | zero =>
      refine gq2 (zh (show ((0 : Int) != 0) = false from rfl) (zh (show (((0 : Nat) : Int) == 0) = true from rfl) (wki 0 (by omega)))) ?_
      refine zcE.next hlt ⟨rfl, ⟨_, rfl⟩, ?_, ?_⟩
      · rw [hpf]; simp [aheadF, linkF, hx]
      · intro q hq2
        rw [zha hx] at hq2
        cases hq2; exact hc0
    | succ j =>
      have hz : (((j + 1 : Nat) : Int) == 0) = false := by simp; omega
      have hy : l[j]? = some l[j] := by simp [show j < l.length by omega]
      have hgy := zdu (f := hdrD) hy
      obtain ⟨q, hqe⟩ : ∃ q, l[j] = q := ⟨_, rfl⟩
      rw [hqe] at hy hgy
      have hqc := hq q (zha hy)
      have hqs := hdr_seq hqc
      have hw1 : IntKind.i64.wrap (((j + 1 : Nat) : Int) - 1) = (j : Int) := by rw [zaK (by omega) (by omega)]; omega
      have hw2 : IntKind.i64.wrap (h.seq - 1) = h.seq - 1 := zaK (by omega) (by omega)
      have hw3 := wki (j + 1) (by omega)
      rw [zha hy] at hpf
      refine gq2 (zh (show ((0 : Int) != 0) = false from rfl) (zh hz (zh hw1 (zh hgy hlen)))) ?_
      refine znI (h := q) ?_
      rw [zpM hqc, hqc]
      refine gq1 ?_
      refine c_tLook (hT.app _) ?_
      cases hlk : zfo L (zoD q) with
      | none =>
        refine gq4 ?_
        refine zbx hl ?_
        exact fin _ (by rw [hpf]; simp [linkF, hlk])
      | some i =>
        simp only [linkF, hlk] at hpf
        simp only [numOf]
        cases h1 : (h.prev == ((i + 1 : Nat) : Int))
        · have h1' : (h.prev != ((i + 1 : Nat) : Int)) = true := by simpa using h1
          refine gq29 (zh hgx h1') ?_
          refine zbx hl ?_
          exact fin _ (by rw [hpf, h1]; rfl)
        have h1' : (h.prev != ((i + 1 : Nat) : Int)) = false := by simpa using h1
        have e2 : (h.seq - 1 != q.seq) = !(h.seq == q.seq + 1) := by
          rw [Bool.eq_iff_iff]
          simp only [bne_iff_ne, Bool.not_eq_true', beq_eq_false_iff_ne, ne_eq]
          omega
        cases h2 : (h.seq == q.seq + 1)
        · rw [h2] at e2
          refine gq29 (zh hgx (zh hgy (zh hw1 (zh hw2 (zh h1' e2))))) ?_
          refine zbx hl ?_
          exact fin _ (by rw [hpf, h1, h2]; rfl)
        rw [h2] at e2
        refine gq29 (zh hgx (zh hgy (zh hw1 (zh hw2 (zh h1' (zh e2 hw3)))))) ?_
        refine zcE.next hlt ⟨rfl, ⟨_, rfl⟩, ?_, ?_⟩
        · rw [hpf, h1, h2, zha hx]; rfl
        · intro q2 hq2
          rw [zha hx] at hq2
          cases hq2; exact hc0
  · have hd : decide ((k : Int) < (l.length : Int)) = false := by simp; omega
    rw [List.drop_eq_nil_of_le (by omega)] at hpf
    refine gq2 (zh hd hlen) ?_
    refine zbx hl ?_
    exact fin _ hpf
theorem c_blLeaves {σ : List zc} {l : List zcX} (hl0 : l.length ≤ 1073741824) (hp : ∀ p ∈ l, zpk p) {K : AV → List zc → Prop} (hK : K (.d (.slice (zhF (l.map zcH)))) σ) : zo Tryz.prog zgx [.d (.slice (zdi l))] σ K := by
  refine zhS zoh fun hl => ?_
  have hlen : (zdi l).length = l.length := List.length_map ..
  simp only [zjB, iN, bT, bF, eN]
  refine gq2 hlen ?_
  refine zdB l.length (fun k vs s => vs = [.own σ.length (zhF ((l.take k).map zcH)), .d (.int .i64 k)] ∧ ∃ T, s = σ ++ (.tok 1 k :: T)) (.tok 0 [] 1 rfl (by simp) (.refl _ _)) ⟨by simp, [], rfl⟩ ?_
  rintro k vs s hk ⟨rfl, T, rfl⟩
  by_cases hlt : k < l.length
  · have hd : decide ((k : Int) < (l.length : Int)) = true := by simp; omega
    have hx : l[k]? = some l[k] := by simp [hlt]
    have hpx := hp _ (List.getElem_mem hlt)
    have hgx := zdu (f := placedD) hx
    obtain ⟨p, hpe⟩ : ∃ p, l[k] = p := ⟨_, rfl⟩
    rw [hpe] at hx hgx hpx
    have hnx : zhF ((l.take k).map zcH) ++ [[D.slice (bcs (zcH p))]] = zhF ((l.take (k + 1)).map zcH) := by
      rw [List.take_add_one, hx]; simp
    have hk2 : (zhF ((l.take k).map zcH)).length = k := by simp; omega
    refine gq2 (zh hd (zh hgx hlen)) ?_
    refine c_toPlaced hpx ?_
    refine gq2 (zh hk2 (zh hnx (wki k (by omega)))) ?_
    exact zcE.next hlt ⟨rfl, _, rfl⟩
  · have hd : decide ((k : Int) < (l.length : Int)) = false := by simp; omega
    rw [List.take_of_length_le (by omega)]
    refine gq2 (zh hd hlen) ?_
    refine zbx hl ?_
    exact hK
def hdigE (L : List (List UInt8)) (h : zfs) : Int := if zaE h ≠ 0 then zaE h else if zhT L (zoD h) = 0 then 6 else 0
def hdigD (L : List (List UInt8)) (h : zfs) : Int := if zaE h ≠ 0 then 0 else zhT L (zoD h)
def zgy (L : List (List UInt8)) (h : zfs) : List (List UInt8) := if zaE h ≠ 0 then L else zfA L (zoD h)
theorem c_hrDigest {σ : List zc} {id : Nat} {L : List (List UInt8)} {h : zfs} (hT : σ[id]? = some (rtO L)) (hL : L.length ≤ 1048576) {K : AV → List zc → Prop}
    (hK : K (.tup [.d (.int .i64 (hdigD L h)), .d (.int .i64 (hdigE L h))]) (σ.set id (rtO (zgy L h)))) : zo Tryz.prog zif [.box id 0, znn h] σ K := by
  refine zjy e_r09_Digest fun hl => ?_
  simp only [zmh, iN, bT, bF, eN, znn]
  refine gq1 ?_
  refine c_hrBytes (h := h) ?_
  cases hc : (zaE h == 0)
  · have hc' : (zaE h != 0) = true := by simpa using hc
    have hc0 : zaE h ≠ 0 := by simpa using hc
    simp only [hdigE, hdigD, zgy, if_pos hc0] at hK
    rw [zfm hT] at hK
    refine gq2 hc' ?_
    refine zbx hl ?_
    exact hK
  have hc0 : zaE h = 0 := by simpa using hc
  have hbl := zpL (zeH.1 hc0)
  simp only [hdigE, hdigD, zgy, hc0, ne_eq, not_true_eq_false, if_false] at hK
  rw [zpM hc0, hc0]
  refine gq2 (show ((0 : Int) != 0) = false from rfl) ?_
  refine c_rtSum (zf hT) (by omega) hL ?_
  rw [zgg hT]
  have hl1 : zeS σ.length (σ.set id (rtO (zfA L (zoD h)))) := hl.setO (rtO_low _ _)
  have hs1 : (σ.set id (rtO (zfA L (zoD h)))).length = σ.length := by simp
  obtain ⟨S1, hS1⟩ : ∃ S1, σ.set id (rtO (zfA L (zoD h))) = S1 := ⟨_, rfl⟩
  rw [hS1] at hK hs1 hl1 ⊢
  by_cases hz : zhT L (zoD h) = 0
  · rw [if_pos hz, hz] at hK
    rw [hz]
    refine gq2 (show ((0 : Int) == 0) = true from rfl) ?_
    refine ziY hs1 ?_ hl1 ?_
    · simp [zbM, dmT, dm, dm1, zbo, zdx, zhD]
    · exact hK
  · have hq : (zhT L (zoD h) == 0) = false := by simpa using hz
    rw [if_neg hz] at hK
    refine gq2 hq ?_
    refine ziY hs1 ?_ hl1 ?_
    · simp [zbM, dmT, dm, dm1, zbo, zdx, zhD]
    · exact hK
end Go.Proofs.YthpnelbciibjeaaGreat
