/- Contracts: what is kept, in its order. -/
import Derived.Test.YtjjchfbckfopkaaGreatPr3
import Derived.Test.YtjjchfbckfopkaaGreatKsI
set_option linter.all false
set_option maxRecDepth 100000
set_option linter.unusedSimpArgs false
set_option linter.unusedVariables false
namespace Go.Proofs.YtjjchfbckfopkaaGreat
open Go.AW

structure RelP (l : List (Int × zar)) (R : List zar) : Prop where
  nod : (l.map Prod.fst).Nodup
  key : ∀ e ∈ l, e.2.seq = e.1
  mem : ∀ p, (p.seq, p) ∈ l ↔ p ∈ R
  srt : R.Pairwise fun p q => p.seq < q.seq
  small : ∀ p ∈ R, zeL p
theorem RelP.nil : RelP [] [] := ⟨by simp, by simp, by simp, by simp, by simp⟩
theorem RelP.mem' {l : List (Int × zar)} {R : List zar} (h : RelP l R) {e : Int × zar} (he : e ∈ l) : e.2 ∈ R := by
  have h1 := h.key e he
  refine (h.mem e.2).1 ?_
  rw [h1]; exact he
theorem RelP.seqs {l : List (Int × zar)} {R : List zar} (h : RelP l R) : (R.map zar.seq).Pairwise (· < ·) := List.pairwise_map.2 h.srt
theorem perm_nodup {α : Type} {l m : List α} (h1 : l.Nodup) (h2 : m.Nodup) (h : ∀ a, a ∈ l ↔ a ∈ m) : l.Perm m := (List.perm_ext_iff_of_nodup h1 h2).2 h
theorem RelP.perm {l : List (Int × zar)} {R : List zar} (h : RelP l R) : (l.map Prod.fst).Perm (R.map zar.seq) := by
  refine perm_nodup h.nod (h.seqs.imp fun hab => by omega) fun a => ?_
  constructor
  · intro ha
    obtain ⟨e, he, rfl⟩ := List.mem_map.1 ha
    exact List.mem_map.2 ⟨e.2, h.mem' he, h.key e he⟩
  · intro ha
    obtain ⟨p, hp, rfl⟩ := List.mem_map.1 ha
    exact List.mem_map.2 ⟨_, (h.mem p).2 hp, rfl⟩
theorem RelP.len {l : List (Int × zar)} {R : List zar} (h : RelP l R) : l.length = R.length := by
  have := h.perm.length_eq
  simpa using this
theorem findP_has {s : Int} {p : zar} : ∀ {l : List (Int × zar)} {i : Nat}, (s, p) ∈ l → (l.map Prod.fst).Nodup → ∃ k, zkG s l i = some (k, p)
  | e :: r, i, hm, hn => by
    simp only [List.map_cons, List.nodup_cons] at hn
    simp only [zkG]
    rcases List.mem_cons.1 hm with rfl | hm
    · exact ⟨i, by simp⟩
    · have hne : s ≠ e.1 := fun e' => hn.1 (by rw [← e']; exact List.mem_map.2 ⟨_, hm, rfl⟩)
      rw [if_neg hne]
      exact findP_has hm hn.2
theorem RelP.find {l : List (Int × zar)} {R : List zar} (h : RelP l R) {p : zar} (hp : p ∈ R) : ∃ k, zkG p.seq l 0 = some (k, p) := findP_has ((h.mem p).2 hp) h.nod
def PNx (R : List zar) (i : Nat) (x : List AV) (i' : Nat) : Prop := ∃ p, R[i]? = some p ∧ x = [zfd p] ∧ i' = i + 1
def PFin (R : List zar) (i : Nat) : Prop := i = R.length
section

variable {σ : List zb} {h m : Nat} {l : List (Int × zar)} {R : List zar} {K : AV → List zb → Prop}

theorem c_KeysP (hK : K (.fn (.func zL) [] [.box σ.length 0]) (σ ++ [.box [.map m]])) : zp Tryz.prog zag [.map m] σ K := by
  refine zez zaD.is rfl fun hl _ => zaD.goes ?_
  simp only [zaF, iN, bT, bF, eN]
  refine gq1 ?_
  exact zmW hK
theorem hf_P : F2 Tryz.prog zL zim := zbx
theorem c_heAll (hK : K (.fn (.func zbM) [] [.box σ.length 0]) (σ ++ [.box [.box h 0]])) : zp Tryz.prog zdl [.box h 0] σ K := by
  refine zez zfm.is rfl fun hl _ => zfm.goes ?_
  simp only [zfv, iN, bT, bF, eN]
  refine gq1 ?_
  exact zmW hK
theorem ents_fst (l : List (Int × zar)) : (hE l).map Prod.fst = ziT (l.map Prod.fst) := by simp [hE, ents]
theorem c_heRun {yl ba : Nat} (hR : RelP l R) (hn : R.length ≤ 1000000) (J : Nat → List zb → Prop) (happ : ∀ i s τ, J i s → J i (s ++ τ)) (hT : ∀ i s, J i s → zhe s h m l ∧ s[ba]? = some (.box [.box h 0]))
    (hY : ∀ i x i' s, PNx R i x i' → J i s → zpV Tryz.prog yl x s fun v s' => v = .d (.bool true) ∧ J i' s') (h0 : J 0 σ) :
    zp Tryz.prog zbM [.fn (.yield yl) [] [], .box ba 0] σ fun _ s => ∃ i, PFin R i ∧ J i s := by
  obtain ⟨hH, g1⟩ := hT 0 σ h0
  refine zez zev.is rfl fun hl _ => zev.goes ?_
  simp only [zeA, iN, bT, bF, eN, zl0]
  have hb := hH.box
  refine gq2 g1 ?_
  refine zpQ hH ?_
  refine gq2 (zi g1 hb) ?_
  refine c_KeysP ?_
  refine gq1 ?_
  refine c_sortedKeys hf_P (ents_fst l) (by rw [List.length_map, hR.len]; exact hn) (by rw [zm]; rfl) (zk hH.map) hR.perm hR.seqs ?_
  have hlen : (List.map (fun x => [D.int .i64 x]) (R.map zar.seq)).length = R.length := by simp
  refine gq2 hlen ?_
  refine zB R.length (fun k vs s => vs = [.d (.int .i64 k)] ∧ J k s) ⟨rfl, happ _ _ _ h0⟩ ?_
  rintro k vs s hk ⟨rfl, hJ⟩
  obtain ⟨hHs, g1s⟩ := hT k s hJ
  have hbs := hHs.box; have hms := hHs.map
  by_cases hlt : k < R.length
  · have hd : decide ((k : Int) < (R.length : Int)) = true := by simp; omega
    have hx : R[k]? = some R[k] := by simp [hlt]
    obtain ⟨p, hp⟩ : ∃ p, R[k] = p := ⟨_, rfl⟩
    rw [hp] at hx
    have hg : (List.map (fun x => [D.int .i64 x]) (R.map zar.seq))[k]? = some [.int .i64 p.seq] := by simp [hx]
    have hpm := List.mem_of_getElem? hx
    obtain ⟨j, hj⟩ := hR.find hpm
    have hf := zpr p.seq l 0
    rw [hj] at hf
    refine gq3 (zi hd (zi hg (zi g1s (zi hbs (zi hms hf))))) ?_
    refine znp (hR.small p hpm) ?_
    refine gq1 ?_
    have hN : PNx R k [zfd p] (k + 1) := ⟨p, hx, rfl, rfl⟩
    refine (hY k _ (k + 1) s hN hJ).mono ?_
    rintro v s' ⟨rfl, hJ'⟩
    refine gq2 (wk1 k (by omega)) ?_
    exact zaP.next hlt ⟨rfl, hJ'⟩
  · have hd : decide ((k : Int) < (R.length : Int)) = false := by simp; omega
    have hko : k = R.length := by omega
    refine gq2 (zi hd hlen) ?_
    exact zmW ⟨k, hko, hJ⟩
end

end Go.Proofs.YtjjchfbckfopkaaGreat
