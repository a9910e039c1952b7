/- Contracts: what is kept, in its order. -/
import Derived.Test.YtjjchfbckfopkaaGreatPr3
import Derived.Test.YtjjchfbckfopkaaGreatKsI
set_option linter.all false
set_option maxRecDepth 100000
set_option linter.unusedSimpArgs false
set_option linter.unusedVariables false
namespace Go.Proofs.YtjjchfbckfopkaaGreat
open Go.AW

structure zma (l : List (Int × zw)) (R : List zw) : Prop where
  nod : (l.map Prod.fst).Nodup
  key : ∀ e ∈ l, e.2.seq = e.1
  mem : ∀ p, (p.seq, p) ∈ l ↔ p ∈ R
  srt : R.Pairwise fun p q => p.seq < q.seq
  small : ∀ p ∈ R, zdb p
theorem zma.nil : zma [] [] := ⟨by simp, by simp, by simp, by simp, by simp⟩
theorem zma.mem' {l : List (Int × zw)} {R : List zw} (h : zma l R) {e : Int × zw} (he : e ∈ l) : e.2 ∈ R := by
  have h1 := h.key e he
  refine (h.mem e.2).1 ?_
  rw [h1]; exact he
theorem zma.sm {l : List (Int × zw)} {R : List zw} (h : zma l R) : ∀ e ∈ l, zdb e.2 := fun e he => h.small _ (h.mem' he)
theorem zma.seqs {l : List (Int × zw)} {R : List zw} (h : zma l R) : (R.map zw.seq).Pairwise (· < ·) := List.pairwise_map.2 h.srt
theorem perm_nodup {α : Type} {l m : List α} (h1 : l.Nodup) (h2 : m.Nodup) (h : ∀ a, a ∈ l ↔ a ∈ m) : l.Perm m := (List.perm_ext_iff_of_nodup h1 h2).2 h
theorem zma.perm {l : List (Int × zw)} {R : List zw} (h : zma l R) : (l.map Prod.fst).Perm (R.map zw.seq) := by
  refine perm_nodup h.nod (h.seqs.imp fun hab => by omega) fun a => ?_
  constructor
  · intro ha
    obtain ⟨e, he, rfl⟩ := List.mem_map.1 ha
    exact List.mem_map.2 ⟨e.2, h.mem' he, h.key e he⟩
  · intro ha
    obtain ⟨p, hp, rfl⟩ := List.mem_map.1 ha
    exact List.mem_map.2 ⟨_, (h.mem p).2 hp, rfl⟩
theorem zma.len {l : List (Int × zw)} {R : List zw} (h : zma l R) : l.length = R.length := by
  have := h.perm.length_eq
  simpa using this
theorem findP_key' {s : Int} : ∀ {l : List (Int × zw)} {i : Nat} {q : Nat × zw}, zcR s l i = some q → (s, q.2) ∈ l
  | [], _, _, h => by simp [zcR] at h
  | e :: r, i, q, h => by
    simp only [zcR] at h
    split at h
    · rename_i h1
      cases h
      rw [h1]; exact List.mem_cons_self
    · exact List.mem_cons_of_mem _ (findP_key' h)
theorem znm {s : Int} {p : zw} : ∀ {l : List (Int × zw)} {i : Nat}, (s, p) ∈ l → (l.map Prod.fst).Nodup → ∃ k, zcR s l i = some (k, p)
  | e :: r, i, hm, hn => by
    simp only [List.map_cons, List.nodup_cons] at hn
    simp only [zcR]
    rcases List.mem_cons.1 hm with rfl | hm
    · exact ⟨i, by simp⟩
    · have hne : s ≠ e.1 := fun e' => hn.1 (by rw [← e']; exact List.mem_map.2 ⟨_, hm, rfl⟩)
      rw [if_neg hne]
      exact znm hm hn.2
theorem zma.find {l : List (Int × zw)} {R : List zw} (h : zma l R) {p : zw} (hp : p ∈ R) : ∃ k, zcR p.seq l 0 = some (k, p) := znm ((h.mem p).2 hp) h.nod
def PNx (R : List zw) (i : Nat) (x : List AV) (i' : Nat) : Prop := ∃ p, R[i]? = some p ∧ x = [zdZ p] ∧ i' = i + 1
def PFin (R : List zw) (i : Nat) : Prop := i = R.length
section

variable {σ : List zb} {h m : Nat} {l : List (Int × zw)} {R : List zw} {K : AV → List zb → Prop}

theorem c_KeysP (hK : K (.fn (.func zN) [] [.box σ.length 0]) (σ ++ [.box [.map m]])) : zt Tryz.prog zak [.map m] σ K := by
  refine zcv zaH.is rfl fun hl _ => zaH.goes ?_
  simp only [zaI, iN, bT, bF, eN]
  refine gq1 ?_
  exact zjp hK
theorem hf_P : F2 Tryz.prog zN ziD := zbB
theorem c_heAll (hK : K (.fn (.func zbQ) [] [.box σ.length 0]) (σ ++ [.box [.box h 0]])) : zt Tryz.prog zds [.box h 0] σ K := by
  refine zcv zfw.is rfl fun hl _ => zfw.goes ?_
  simp only [zfH, iN, bT, bF, eN]
  refine gq1 ?_
  exact zjp hK
theorem ents_fst (l : List (Int × zw)) : (hE l).map Prod.fst = zjn (l.map Prod.fst) := by simp [hE, ents]
theorem c_heRun {yl ba : Nat} (hR : zma l R) (hn : R.length ≤ 1000000) (J : Nat → List zb → Prop) (happ : ∀ i s τ, J i s → J i (s ++ τ)) (hT : ∀ i s, J i s → zdA s h m l ∧ s[ba]? = some (.box [.box h 0]))
    (hY : ∀ i x i' s, PNx R i x i' → J i s → zqi Tryz.prog yl x s fun v s' => v = .d (.bool true) ∧ J i' s') (h0 : J 0 σ) :
    zt Tryz.prog zbQ [.fn (.yield yl) [] [], .box ba 0] σ fun _ s => ∃ i, PFin R i ∧ J i s := by
  obtain ⟨hH, g1⟩ := hT 0 σ h0
  refine zcv zeH.is rfl fun hl _ => zeH.goes ?_
  simp only [zeK, iN, bT, bF, eN, zl1]
  have hb := hH.box
  refine gq2 g1 ?_
  refine ziA hH ?_
  refine gq2 (zj g1 hb) ?_
  refine c_KeysP ?_
  refine gq1 ?_
  refine c_sortedKeys hf_P (ents_fst l) (by rw [List.length_map, hR.len]; exact hn) (by rw [zk]; rfl) (ze hH.map) hR.perm hR.seqs ?_
  have hlen : (List.map (fun x => [D.int .i64 x]) (R.map zw.seq)).length = R.length := by simp
  refine gq2 hlen ?_
  refine zC R.length (fun k vs s => vs = [.d (.int .i64 k)] ∧ J k s) ⟨rfl, happ _ _ _ h0⟩ ?_
  rintro k vs s hk ⟨rfl, hJ⟩
  obtain ⟨hHs, g1s⟩ := hT k s hJ
  have hbs := hHs.box; have hms := hHs.map
  by_cases hlt : k < R.length
  · have hd : decide ((k : Int) < (R.length : Int)) = true := by simp; omega
    have hx : R[k]? = some R[k] := by simp [hlt]
    obtain ⟨p, hp⟩ : ∃ p, R[k] = p := ⟨_, rfl⟩
    rw [hp] at hx
    have hg : (List.map (fun x => [D.int .i64 x]) (R.map zw.seq))[k]? = some [.int .i64 p.seq] := by simp [hx]
    have hpm := List.mem_of_getElem? hx
    obtain ⟨j, hj⟩ := hR.find hpm
    have hf := zit p.seq l 0
    rw [hj] at hf
    refine gq3 (zj hd (zj hg (zj g1s (zj hbs (zj hms hf))))) ?_
    refine zgx (hR.small p hpm) ?_
    refine gq1 ?_
    have hN : PNx R k [zdZ p] (k + 1) := ⟨p, hx, rfl, rfl⟩
    refine (hY k _ (k + 1) s hN hJ).mono ?_
    rintro v s' ⟨rfl, hJ'⟩
    refine gq2 (wk1 k (by omega)) ?_
    exact zaQ.next hlt ⟨rfl, hJ'⟩
  · have hd : decide ((k : Int) < (R.length : Int)) = false := by simp; omega
    have hko : k = R.length := by omega
    refine gq2 (zj hd hlen) ?_
    exact zjp ⟨k, hko, hJ⟩
end


theorem zoO {σ S : List zb} {K : AV → List zb → Prop} {l : List AV} (h : S.take σ.length = σ) (h1 : Low σ.length (dmT (zck l))) (hl : zem σ.length σ) (hK : K (dmT (zck l)) σ) : AW.Ends σ.length K (some l) S := by
  unfold AW.Ends
  rw [h]
  exact ⟨h1, hl, hK⟩
theorem al_weak {σ : List zb} (vs : List AV) : ziX vs (σ ++ [zb.box [AV.exact []]]) vs (σ ++ [zb.box [.own (σ.length + 1) []], .tok 7 0]) := by
  refine .tokB σ.length 0 _ [] 7 (by rw [zk]; rfl) rfl (by simp) ?_
  rw [zy, zR]
  simp only [List.set_cons_succ, List.set_cons_zero, List.length_cons, List.length_nil, List.append_assoc, List.cons_append, List.nil_append]
  exact .refl _ _
structure AlJ (B : List zb) (n : Nat) (R : List zw) (i : Nat) (s : List zb) : Prop where
  len : B.length + 1 < s.length
  out : ∀ j, j < B.length → j ≠ n → j ≠ n + 1 → s[j]? = B[j]?
  a : s[n]? = some (.box [.own (n + 1) (zba (R.take i))])
  ta : s[n + 1]? = some (.tok 7 i)
section

variable {σ : List zb} {h m : Nat} {l : List (Int × zw)} {R : List zw} {K : AV → List zb → Prop}

theorem gq44 {A P Q : Prop} (a : A) (h : Q) (e : A → Hd Q → P := by intro a h; (repeat' first | simp -dsimp only [↓zek, ↓zar, ↓zbg, ↓zel, ↓zef, ↓zed, ↓zeg, ↓zee, ↓zbl, ↓zbh, ↓zbm, ↓zbi, ↓zeh, ↓zbe, ↓zbn, ↓zbj, ↓zbo, ↓zbk, ↓zec, ↓zej, ↓zbd, ↓zbp, ↓zdW, ↓zdV, ↓zea, iN, bT, bF, eN, ↓zci, ↓unC, ↓zS, ↓zE, ↓zF, ↓zJ, ↓zZ, ↓zaD, ↓zcj, ↓zab, ↓zbr, ↓zU, ↓zl, ↓zo, ↓zbz, ↓zg, ↓zad, ↓zI, ↓zaz, ↓zaJ, ↓zc, ↓zB, ↓zn, ↓zq, ↓zaj, ↓zcB, ↓zcE, ↓zah, ↓zao, ↓zaA, ↓zaO, ↓zaT, ↓zm, ↓zae, ↓zG, ↓zp, ↓zY, zcD, zaV, zaU, unA, zcK, bnd, zcZ, zaa, zag, zdh, dm, dm1, zM, zau, zdy, zdx, zT, Q0, Q1, Q2, Q3, Q4, Q5, zR, zi, zk, zu, zy, Q6, Q7, Q8, Q9, Q10, Q11, Q12, Q13, Q14, Nat.reduceAdd, Q15, Int.reduceToNat, Q16, Q17, Q18, Q19, Q20, reduceIte, Q21, Q22, zA, rep, zV, zdX, toD, zaf, Q23, Q24, Q25, Q26, Q27, Q28, Nat.reduceLeDiff, Q29, Nat.reduceSub, Q30, Q31, Q32, sc, Q33, Q34, Q35, Q36, Q37, Q26, Q38, Q39, zjZ, zjW, zjT, zka, zdJ, zjX, zjU, zjY, zjV, zdI, zdK, zkf, zkg, Bool.not_true, Bool.not_false, List.length_map, zaR, zdZ, a] | with_reducible refine zkw ?_ | fail); exact h.go) : P := e a ⟨h⟩
theorem c_all (hH : zdA σ h m l) (hR : zma l R) (hn : R.length ≤ 1000000) (hK : K (.d (.slice (zba R))) σ) : zt Tryz.prog zhJ [.box h 0] σ K := by
  refine ziC e_l15_all fun hl => ?_
  simp only [S_l15_all, iN, bT, bF, eN, zl1]
  have lh := zaP hH.box; have lm := zaP hH.map
  refine gq1 ?_
  refine zt.pre (al_weak _) ?_
  refine c_heAll ?_
  obtain ⟨B0, hB0⟩ : ∃ B0, σ ++ [zb.box [.own (σ.length + 1) []], .tok 7 0] = B0 := ⟨_, rfl⟩
  have l0 : B0.length = σ.length + 2 := by rw [← hB0]; simp
  have g0 : B0[σ.length]? = some (.box [.own (σ.length + 1) []]) := by rw [← hB0, zk]; rfl
  have g1 : B0[σ.length + 1]? = some (.tok 7 0) := by rw [← hB0, zi]; rfl
  have go : ∀ j, j < σ.length → B0[j]? = σ[j]? := fun j hj => by rw [← hB0]; exact List.getElem?_append_left hj
  rw [hB0]
  obtain ⟨B, hB⟩ : ∃ B, B0 ++ [zb.box [.box h 0]] = B := ⟨_, rfl⟩
  have lB : B.length = σ.length + 3 := by rw [← hB]; simp; omega
  have hBo : ∀ j, j < B0.length → B[j]? = B0[j]? := fun j hj => by rw [← hB]; exact List.getElem?_append_left hj
  have b1 : B[B0.length]? = some (.box [.box h 0]) := by rw [← hB, zk]; rfl
  refine gq1 ?_
  rw [hB]
  simp only [zkL]
  intro yl r vs
  have hJ0 : AlJ B σ.length R 0 (B ++ [zb.dead, .lrec yl r vs]) := ⟨by simp, fun j hj _ _ => List.getElem?_append_left hj, ze ((hBo _ (by omega)).trans g0), ze ((hBo _ (by omega)).trans g1)⟩
  have hJp : ∀ i s, AlJ B σ.length R i s → zdA s h m l ∧ s[B0.length]? = some (.box [.box h 0]) := fun i s hJ =>
    ⟨⟨((hJ.out h (by omega) (by omega) (by omega)).trans (hBo h (by omega))).trans ((go h lh).trans hH.box), ((hJ.out m (by omega) (by omega) (by omega)).trans (hBo m (by omega))).trans ((go m lm).trans hH.map)⟩, (hJ.out _ (by omega) (by omega) (by omega)).trans b1⟩
  refine ⟨Nat, fun i s => s[B.length + 1]? = some (.lrec yl r vs) ∧ AlJ B σ.length R i s, 0, PNx R, PFin R, ?_, ⟨?_, hJ0⟩, fun i s h => h.1, ?_, ?_, ?_⟩
  · rintro i x i' ⟨p, _, rfl, _⟩; rfl
  · rw [List.getElem?_append_right (by omega)]; simp
  · intro hY
    refine c_heRun hR hn _ (fun i s τ h => ⟨ze h.1, ⟨by have := h.2.len; simp; omega, fun j hj x1 x2 => (List.getElem?_append_left (by have := h.2.len; omega)).trans (h.2.out j hj x1 x2), ze h.2.a, ze h.2.ta⟩⟩) (fun i s h => hJp i s h.2) hY ⟨by rw [List.getElem?_append_right (by omega)]; simp, hJ0⟩
  · rintro i x i' s ⟨p, hp, rfl, rfl⟩ ⟨j1, hJ⟩
    have hil := zd hp
    have jl := zaP j1
    obtain ⟨RB, hRB⟩ : ∃ RB, zb.lrec yl { r with state := .busy } vs = RB := ⟨_, rfl⟩
    obtain ⟨Q, hQ⟩ : ∃ Q, zb.lrec yl r vs = Q := ⟨_, rfl⟩
    rw [hQ] at j1 ⊢
    rw [hRB]
    have hlS := hJ.len
    have fj : ∀ τ, (s ++ τ)[B.length + 1]? = some Q := fun τ => ze j1
    obtain ⟨S, hS⟩ : ∃ S, (s ++ [zb.box [.d (.int .i64 p.view), .d (.int .i64 p.seq), .d (.int .i64 p.dig), .d (.int .i64 p.fkey), .d (.int .i64 p.fdig), .d (.slice (zaB p.signs)), .d (.slice (zaM p.batch))]]).set (B.length + 1) RB = S := ⟨_, rfl⟩
    have hSl : S.length = s.length + 1 := by rw [← hS]; simp
    have h1 : ∀ j, j ≠ B.length + 1 → j < s.length → S[j]? = s[j]? := fun j hj hl => by rw [← hS, List.getElem?_set_ne (Ne.symm hj), List.getElem?_append_left hl]
    have f0 : S[σ.length]? = some (.box [.own (σ.length + 1) (zba (R.take i))]) := (h1 _ (by omega) (by omega)).trans hJ.a
    have f1 : S[σ.length + 1]? = some (.tok 7 i) := (h1 _ (by omega) (by omega)).trans hJ.ta
    have f2 : S[s.length]? = some (.box [.d (.int .i64 p.view), .d (.int .i64 p.seq), .d (.int .i64 p.dig), .d (.int .i64 p.fkey), .d (.int .i64 p.fdig), .d (.slice (zaB p.signs)), .d (.slice (zaM p.batch))]) := by
      rw [← hS, List.getElem?_set_ne (by omega), zk]; rfl
    have f3 : S[B.length + 1]? = some RB := by rw [← hS]; exact List.getElem?_set_self (by simp; omega)
    have f4 : ∀ Y, (S.set (σ.length + 1) Y)[σ.length]? = some (.box [.own (σ.length + 1) (zba (R.take i))]) := fun Y => (List.getElem?_set_ne (by omega)).trans f0
    have f5 : ∀ Y Z, ((S.set (σ.length + 1) Y).set σ.length Z)[B.length + 1]? = some RB := fun Y Z => (List.getElem?_set_ne (by omega)).trans ((List.getElem?_set_ne (by omega)).trans f3)
    have k1 : (zba (R.take i)).length = i := by rw [List.length_map, List.length_take]; omega
    refine gq44 (zj fj (zj hS (zj f0 (zj f1 (zj f2 (zj f4 (zj f5 k1))))))) ?_
    have e2 : zba (R.take (i + 1)) = zba (R.take i) ++ [zdY p] := by rw [List.take_add_one, hp]; simp
    refine ⟨List.getElem?_set_self (by simp; omega), ⟨by simp; omega, fun j hj x0 x1 => ?_, ?_, ?_⟩⟩
    · rw [List.getElem?_set_ne (by omega), List.getElem?_set_ne (Ne.symm x0), List.getElem?_set_ne (Ne.symm x1), h1 j (by omega) (by omega)]
      exact hJ.out j hj x0 x1
    · rw [List.getElem?_set_ne (by omega), List.getElem?_set_self (by simp; omega), e2]; rfl
    · rw [List.getElem?_set_ne (by omega), List.getElem?_set_ne (by omega), List.getElem?_set_self (by omega)]
  · rintro i s hi ⟨j1, hJ⟩
    rw [PFin] at hi
    subst hi
    have h1 : ∀ R j, j ≠ B.length + 1 → (s.set (B.length + 1) R)[j]? = s[j]? := fun R j hj => List.getElem?_set_ne (Ne.symm hj)
    have g0 : ∀ R, (s.set (B.length + 1) R)[σ.length]? = _ := fun R => (h1 R _ (by omega)).trans hJ.a
    rw [List.take_length] at g0
    have hpre : ∀ R, (s.set (B.length + 1) R).take σ.length = σ := fun R => by
      apply List.ext_getElem?
      intro j
      rw [List.getElem?_take]
      split
      · rename_i hj
        exact ((h1 R j (by omega)).trans (hJ.out j (by omega) (by omega) (by omega))).trans ((hBo j (by omega)).trans (go j hj))
      · rw [List.getElem?_eq_none (by omega)]
    refine gq2 g0 ?_
    exact zoO (hpre _) (by simp [zgi, zdU, dmT, dm, dm1, zck]) hl hK
end

end Go.Proofs.YtjjchfbckfopkaaGreat
