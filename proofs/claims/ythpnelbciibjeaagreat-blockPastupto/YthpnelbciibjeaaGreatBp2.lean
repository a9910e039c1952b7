/- Contracts: the batches that may be; runs. -/
import Derived.Test.YthpnelbciibjeaaGreatBp1
set_option linter.all false
set_option maxRecDepth 100000
set_option linter.unusedSimpArgs false
set_option linter.unusedVariables false
namespace Go.Proofs.YthpnelbciibjeaaGreat
open Go.AW

abbrev zfr (l : List (List zf)) : List (List D) := l.map fun b => [D.slice (zce b)]
def zja (l : List (List zf)) : List (List zf) := (l.take 30).filter fun b => zh b == 0
section

variable {σ : List zc} {K : AV → List zc → Prop}

theorem c_sound {l : List (List zf)} (hl0 : l.length ≤ 1073741824) (hx : ∀ b ∈ l, okB b) (hK : K (.d (.slice (zfr (zja l)))) σ) : zt Tryz.prog zgY [.d (.slice (zfr l))] σ K := by
  refine zhl e_l09_sound fun hl => ?_
  have hll : (zfr l).length = l.length := List.length_map ..
  have hmin : (if (30 : Int) < (l.length : Int) then 30 else (l.length : Int)) = ((min l.length 30 : Nat) : Int) := by split <;> omega
  simp only [znK, iN, bT, bF, eN]
  refine gq2 (zi hll hmin) ?_
  obtain ⟨m, hm⟩ : ∃ m, l.take 30 = m := ⟨_, rfl⟩
  have hm0 : List.take (min l.length 30) (zfr l) = zfr m := by
    rw [← hm, zfr, zfr, ← List.map_take]
    by_cases h : l.length ≤ 30
    · rw [Nat.min_eq_left h, List.take_of_length_le (Nat.le_refl _), List.take_of_length_le h]
    · rw [Nat.min_eq_right (by omega)]
  have hm1 : List.drop (((0 : Nat) : Int)).toNat (List.take (((min l.length 30 : Nat) : Int)).toNat (zfr l)) = zfr m := hm0
  have hml : (zfr m).length = m.length := List.length_map ..
  have hm30 : m.length ≤ 30 := by rw [← hm, List.length_take]; omega
  have hmx : ∀ b ∈ m, okB b := fun b hb => hx b (by rw [← hm] at hb; exact List.mem_of_mem_take hb)
  rw [show zja l = m.filter fun b => zh b == 0 by rw [← hm]; rfl] at hK
  first | rw [hm1, hm0] | rw [hm0]
  rw [hml]
  obtain ⟨F, hF⟩ : ∃ F : List (List zf) → List (List zf), (fun q => q.filter fun b => zh b == 0) = F := ⟨_, rfl⟩
  have hFs : ∀ k b, m[k]? = some b → F (m.take (k + 1)) = F (m.take k) ++ if zh b == 0 then [b] else [] := fun k b h => by
    rw [List.take_add_one, h, ← hF]
    simp only [Option.toList_some, List.filter_append]
    congr 1
    cases hc : (zh b == 0) <;> simp [List.filter, hc]
  have hFl : ∀ k, (F (m.take k)).length ≤ 30 := fun k => by
    rw [← hF]
    exact Nat.le_trans (List.length_filter_le _ _) (by rw [List.length_take]; omega)
  have hFn : F [] = [] := by rw [← hF]; rfl
  rw [show (m.filter fun b => zh b == 0) = F m by rw [← hF]] at hK
  clear hF
  refine zcc m.length (fun k vs S => vs = [.own σ.length (zfr (F (m.take k))), .d (.int .i64 k)] ∧ S = σ ++ [.tok 1 (F (m.take k)).length]) (.tok 0 [] 1 rfl (by simp) (.refl _ _)) ⟨by rw [List.take_zero, hFn]; rfl, by rw [List.take_zero, hFn]; rfl⟩ ?_
  rintro k vs S hk ⟨rfl, rfl⟩
  have hl1 : (zfr (F (m.take k))).length = (F (m.take k)).length := List.length_map ..
  have hl2 := hFl k
  by_cases hlt : k < m.length
  · have hd : decide ((k : Int) < (m.length : Int)) = true := by simp; omega
    have hy : m[k]? = some m[k] := by simp [hlt]
    have hgy := zbr (f := fun b => [D.slice (zce b)]) hy
    have hbx := hmx _ (List.getElem_mem hlt)
    have hs := hFs k _ hy
    obtain ⟨b, hb⟩ : ∃ b, m[k] = b := ⟨_, rfl⟩
    rw [hb] at hgy hbx hs
    refine gq2 (zi hd hgy) ?_
    refine zpP hbx ?_
    cases c0 : (zh b == 0)
    · rw [c0] at hs
      simp only [Bool.false_eq_true, if_false, List.append_nil] at hs
      refine gq2 (zi c0 (wkc k (by omega))) ?_
      exact zbJ.next hlt ⟨by rw [hs], by rw [hs]⟩
    · rw [c0, if_pos rfl] at hs
      refine gq2 (zi c0 (zi (wkc k (by omega)) hl1)) ?_
      exact zbJ.next hlt ⟨by rw [hs]; simp [zfr], by rw [hs]; simp⟩
  · have hd : decide ((k : Int) < (m.length : Int)) = false := by simp; omega
    rw [List.take_of_length_le (by omega)] at hl1 ⊢
    refine gq2 hd ?_
    refine zbj hl ?_
    exact hK
theorem tops_fold : ∀ (l : List (List zf)) {T : zad}, zcD T → zgO T.last → T.last.length = 8 → zcD (l.foldl (fun T b => (zm T b).2) T) ∧ zgO (l.foldl (fun T b => (zm T b).2) T).last ∧ (l.foldl (fun T b => (zm T b).2) T).last.length = 8
  | [], _, h1, h2, h3 => ⟨h1, h2, h3⟩
  | b :: r, T, h1, h2, h3 => by
    have hall : ∀ (b : List zf) {T : zad}, T.last.length = 8 → (zm T b).2.last.length = 8 := fun b => by
      induction b with
      | nil => intro T h; exact h
      | cons x b ih => intro T h; exact ih (by rw [znB]; exact h)
    exact tops_fold r (zkv b h1) (zku b h1 h2) (hall b h3)
theorem tops_I (l : List (List zf)) (i : Nat) : zcD (zdk l i) ∧ zgO (zdk l i).last ∧ (zdk l i).last.length = 8 :=
  tops_fold (l.take i) .none (fun a ha => by have := List.eq_of_mem_replicate ha; subst this; simp) rfl
theorem exec0_I {L : List (List UInt8)} {T : zad} {h : zbZ} {b : List zf} (he : ExOk L T h b) (hL : zhJ L) (hT : zcD T) (hA : zgO T.last) (h8 : T.last.length = 8) (hx : ∀ s ∈ b, zfc s.op ≤ 20971520) : zhJ (zhs L T h b).L := by
  have := (execI (h := h) hL hT hA h8 hx).1
  rwa [exec_ok he] at this
theorem gen_I {L : List (List UInt8)} (hL : zhJ L) : zhJ (zmg L).2.2 := by
  have h1 := rootF_tab 0 (L := L) (l := []) (Nat.le_refl _) hL (by simp)
  have h2 : (zbq zbb).length ≤ 1073741824 := by
    have := zmt .none (fun a ha => by have := List.eq_of_mem_replicate ha; subst this; simp) (show zbb.last.length = 8 from rfl); omega
  unfold zmg
  dsimp only
  split <;> exact h1.sum h2
structure RuJ (σ : List zc) (L : List (List UInt8)) (l : List (List zf)) (id m t : Nat) (k : Nat) (p : List zbZ) (Lk : List (List UInt8)) (S : List zc) : Prop where
  tok : S[σ.length + 3]? = some (.tok 5 p.length)
  tab : zbC S id m t Lk
  I : zhJ Lk
  pre : L <+: Lk
  len : Lk.length ≤ L.length + 2 + 520 * k
  prg : ∃ O, zeA S (σ.length + 2) (zdk l k) O ∧ ∀ j, O j → σ.length + 1 ≤ j ∧ j ≠ σ.length + 3
  run : zhw Lk (l.take k) p
  rest : ∀ (j : Nat) (x : zc), σ[j]? = some x → j ≠ id → j ≠ m → j ≠ t → S[j]? = some x
section

variable {id m t : Nat} {L : List (List UInt8)}

theorem c_runs {l : List (List zf)} (hT : zbC σ id m t L) (hI : zhJ L) (hl30 : l.length ≤ 30) (hL : L.length + 600 * (l.length + 1) ≤ 1048576) (hx : ∀ b ∈ l, zh b = 0 ∧ (∀ x ∈ b, zfc x.op ≤ 20971520) ∧ b.length ≤ 1073741824)
    (hK : ∀ S p L', zbC S id m t L' → zhJ L' → L <+: L' → L'.length ≤ L.length + 600 * (l.length + 1) → zhw L' l p → (∀ (j : Nat) (x : zc), σ[j]? = some x → j ≠ id → j ≠ m → j ≠ t → S[j]? = some x) → K (.tup [.d (.slice (zpu p)), .d (.bool true)]) S) :
    zt Tryz.prog ziF [.box id 0, .d (.slice (zfr l))] σ K := by
  refine zbd zoH.is rfl fun hl _ => zoH.goes ?_
  have hll : (zfr l).length = l.length := List.length_map ..
  simp only [zoW, iN, bT, bF, eN]
  refine gq1 ?_
  refine znt hT hI ?_
  obtain ⟨g1, g2, g3, g4, g5⟩ := gen_ok (L := L) (by omega)
  have g6 := gen_I hI
  rw [g1]
  obtain ⟨g, hg⟩ : ∃ g, (zmg L).1 = g := ⟨_, rfl⟩
  obtain ⟨L1, hL1⟩ : ∃ L1, (zmg L).2.2 = L1 := ⟨_, rfl⟩
  rw [hg, hL1] at g2
  rw [hg] at g3 ⊢
  rw [hL1] at g4 g5 g6 ⊢
  have hT1 := hT.put L1
  have hs1 := zaR σ id m t L1
  have hr1 : ∀ (j : Nat) (x : zc), σ[j]? = some x → j ≠ id → j ≠ m → j ≠ t → (putTab σ id m t L1)[j]? = some x := fun j x h a1 a2 a3 => (zbT _ a1 a2 a3).trans h
  obtain ⟨S1, hS1⟩ : ∃ S1, putTab σ id m t L1 = S1 := ⟨_, rfl⟩
  rw [hS1] at hT1 hs1 hr1 ⊢
  have x1 : ∀ a τ, (S1 ++ a :: τ)[S1.length]? = some a := fun a τ => zp ..
  refine gq2 x1 ?_
  refine c_tpNew fun hP => ?_
  have el : ∀ X : zc, (S1 ++ [X]).length = S1.length + 1 := fun X => by simp
  rw [el] at hP ⊢
  rw [List.append_assoc] at hP
  refine gq2 (zi (show ((0 : Int) != 0) = false from rfl) hll) ?_
  rw [hll]
  obtain ⟨S2, hS2⟩ : ∃ S2, S1 ++ [zc.box [.d (.int .i64 g.seq), .d (.int .i64 g.prev), .d (.int .i64 g.batch), .d (.int .i64 g.root), .d (.int .i64 g.state)], .map [], .box (.map (S1.length + 1) :: zcZ zbb.last)] = S2 := ⟨_, rfl⟩
  have hl2 : S2.length = σ.length + 3 := by rw [← hS2, ← hs1]; simp
  have hP2 : zeA S2 (σ.length + 2) zbb (fun j => j = S1.length + 1 + 1 ∨ j = S1.length + 1) := by rw [← hS2, ← hs1]; exact hP
  have hT2 : zbC S2 id m t L1 := by rw [← hS2]; exact hT1.app _
  have hr2 : ∀ (j : Nat) (x : zc), σ[j]? = some x → j ≠ id → j ≠ m → j ≠ t → S2[j]? = some x := fun j x h a1 a2 a3 => by rw [← hS2]; exact zg (hr1 j x h a1 a2 a3)
  rw [hS2]
  have li := zn hT.box; have lm := zn hT.map; have lt' := zn hT.tok
  have hid : ∀ a : Nat, S1.length + 1 + 1 = a → a = σ.length + 2 := fun a h => by omega
  rw [hs1] at hP2 ⊢
  have hw : zlv [.exact [hdrD g], .d (.int .i64 0)] S2 [.own (σ.length + 3) (zpu [g]), .d (.int .i64 0)] (S2 ++ [.tok 5 1]) := by
    rw [← hl2]
    exact .tok 0 [hdrD g] 5 rfl (by simp) (.refl _ _)
  refine zcc l.length (fun k vs S => ∃ p Lk, vs = [.own (σ.length + 3) (zpu p), .d (.int .i64 k)] ∧ RuJ σ L l id m t k p Lk S) hw
    ⟨[g], L1, rfl, ⟨by rw [← hl2]; exact zp .., hT2.app _, g6, g4, by omega, ⟨_, hP2.app _, fun j hj => by omega⟩, ⟨by simp, ⟨g, rfl, g2⟩, fun h hh => by simp only [List.mem_singleton] at hh; subst hh; exact g3, fun i b hb => by simp at hb⟩, fun j x h a1 a2 a3 => zg (hr2 j x h a1 a2 a3)⟩⟩ ?_
  clear hw hr2 hT2 hP2 hl2 hS2 hT1 hr1
  rintro k vs S hk ⟨p, Lk, rfl, hJ⟩
  have hlen := hJ.run.len
  rw [List.length_take, Nat.min_eq_left hk] at hlen
  have hpl : (zpu p).length = p.length := List.length_map ..
  by_cases hlt : k < l.length
  · have hd : decide ((k : Int) < (l.length : Int)) = true := by simp; omega
    have hy : l[k]? = some l[k] := by simp [hlt]
    have hyx := hx _ (List.getElem_mem hlt)
    have htk : l.take (k + 1) = l.take k ++ [l[k]] := by rw [List.take_add_one, hy]; rfl
    have htop := topsAt_succ hy
    have hgy := zbr (f := fun b => [D.slice (zce b)]) hy
    obtain ⟨b, hb⟩ : ∃ b, l[k] = b := ⟨_, rfl⟩
    rw [hb] at hyx hgy htk htop
    obtain ⟨hc, hbx, hbl⟩ := hyx
    have hpk : p[k]? = some (p[k]'(by omega)) := List.getElem?_eq_getElem (by omega)
    have hok := hJ.run.ok _ (List.getElem_mem (show k < p.length by omega))
    have hsq := hJ.run.seq k _ hpk
    have hgp := zbr (f := hdrD) hpk
    obtain ⟨h, hh⟩ : ∃ h, p[k]'(by omega) = h := ⟨_, rfl⟩
    rw [hh] at hpk hok hsq hgp
    have w1 : IntKind.i64.wrap (((k + 1 : Nat) : Int) - 1) = (k : Int) := by rw [zaD (by omega) (by omega)]; omega
    obtain ⟨O, hPk, hOk⟩ := hJ.prg
    obtain ⟨i1, i2, i3⟩ := tops_I l k
    obtain ⟨s1, s2, s3, s4, s5⟩ := step_ok (L := Lk) (h := h) (b := b) i1 (by have := hJ.len; omega) hok (by omega) hc
    refine gq31 (zi hd (zi hgy (zi hpl (zi hlen (zi w1 hgp))))) ?_
    refine znu (h := h) (b := b) hJ.tab hJ.I hPk i1 i2 (fun h => by have := hOk _ h; omega) (fun h => by have := hOk _ h; omega) (fun h => by have := hOk _ h; omega) hbx hbl s1 fun S' O' N hP' hT' hO' hlS hrest hN => ?_
    have hI' := exec0_I s1 hJ.I i1 i2 i3 hbx
    have hXT : (zhs Lk (zdk l k) h b).T = (zm (zdk l k) b).2 := rfl
    rw [hXT, ← htop] at hP'
    obtain ⟨X, hX⟩ : ∃ X, (zhs Lk (zdk l k) h b).h = X := ⟨_, rfl⟩
    obtain ⟨LX, hLX⟩ : ∃ LX, (zhs Lk (zdk l k) h b).L = LX := ⟨_, rfl⟩
    rw [hX, hLX] at s2
    rw [hX] at s3 ⊢
    rw [hLX] at s4 s5 hT' hI'
    have ltk := zn hJ.tok
    have e1 := hrest _ _ hJ.tok (by omega) (by omega) (by omega) (fun h => by have := hOk _ h; omega)
    have l1 := zn e1
    have xS : ∀ a τ, (S' ++ a :: τ)[S'.length]? = some a := fun a τ => zp ..
    have xt : ∀ τ, (S' ++ τ)[σ.length + 3]? = _ := fun τ => zg e1
    have xs : ∀ τ Y, (S' ++ τ).set (σ.length + 3) Y = S'.set (σ.length + 3) Y ++ τ := fun τ Y => List.set_append_left _ _ l1
    refine gq2 (zi xS (zi xt (zi xs (zi hpl (zi hlen (zi (show ((0 : Int) != 0) = false from rfl) (wkc k (by omega)))))))) ?_
    refine zbJ.next hlt ⟨p ++ [X], LX, by simp [zpu], ⟨?_, ⟨?_, ?_, ?_⟩, hI', hJ.pre.trans s4, by have := hJ.len; omega, ⟨O', ?_, fun j hj => ?_⟩, ?_, fun j x h a1 a2 a3 => ?_⟩⟩
    · rw [List.getElem?_append_left (by simpa using l1), List.getElem?_set_self l1]; simp [hlen]
    · exact zg ((List.getElem?_set_ne (by omega)).trans hT'.box)
    · exact zg ((List.getElem?_set_ne (by omega)).trans hT'.map)
    · exact zg ((List.getElem?_set_ne (by omega)).trans hT'.tok)
    · exact (hP'.set (fun h => by rcases hO' _ h with h | h; (have := hOk _ h; omega); omega) _).app _
    · rcases hO' j hj with h | h
      · exact hOk j h
      · omega
    · rw [htk]
      have hkl : (l.take k).length = k := by rw [List.length_take]; omega
      have htt : zdk (l.take k) (l.take k).length = zdk l k := by
        unfold zdk
        rw [List.take_of_length_le (Nat.le_refl _)]
      refine hJ.run.snoc s4 (h := h) (by rw [hkl]; exact hpk) (by rw [htt]; exact s2) s3
    · have hj := zn h
      refine zg ((List.getElem?_set_ne (by omega)).trans (hrest j x (hJ.rest j x h a1 a2 a3) a1 a2 a3 (fun h => by have := hOk _ h; omega)))
  · have hd : decide ((k : Int) < (l.length : Int)) = false := by simp; omega
    have hrun := hJ.run
    rw [List.take_of_length_le (by omega)] at hrun
    refine gq2 hd ?_
    exact zbN (hK _ _ _ hJ.tab hJ.I hJ.pre (by have := hJ.len; omega) hrun hJ.rest)
end

end

end Go.Proofs.YthpnelbciibjeaaGreat
