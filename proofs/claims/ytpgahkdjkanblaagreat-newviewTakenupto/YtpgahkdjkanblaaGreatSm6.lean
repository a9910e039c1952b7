/- Contracts: which view-changes and new views may be, as messages: the program's. -/
import Derived.Test.YtpgahkdjkanblaaGreatSm4
set_option linter.all false
set_option maxRecDepth 100000
set_option linter.unusedSimpArgs false
set_option linter.unusedVariables false
namespace Go.Proofs.YtpgahkdjkanblaaGreat
open Go.AW

section
variable {σ S : List zd} {id n : Nat} {B X : zd} {P : List Int} {K : KT} (j : zms σ id B P S) (hid : id < σ.length) (hne : n ≠ id) (c : S[n]? = some X)
include j hid hne c
theorem jx_says {x : Int} (hK : ∀ S, zms σ id B (P ++ [x]) S → S[n]? = some X → K (.tup []) S) : zl Tryz.prog zN [.box id 0, .d (.int .i64 x)] S K := c_aSays j.a (hK _ (j.set hid _) ((List.getElem?_set_ne hne.symm).trans c))
theorem jx_num {x : Int} (hK : ∀ S, zms σ id B (P ++ [zpU x]) S → S[n]? = some X → K (.tup []) S) : zl Tryz.prog zaq [.box id 0, .d (.int .i64 x)] S K := c_aNum j.a (hK _ (j.set hid _) ((List.getElem?_set_ne hne.symm).trans c))
theorem jx_pos {x : Int} (hK : ∀ S, zms σ id B (P ++ [posE x]) S → S[n]? = some X → K (.tup []) S) : zl Tryz.prog zaE [.box id 0, .d (.int .i64 x)] S K := c_aPos j.a (hK _ (j.set hid _) ((List.getElem?_set_ne hne.symm).trans c))
end

theorem c_aNewView {σ : List zd} {id : Nat} {P : List Int} {m : zes} (hσ : σ[id]? = some (zgi (zec P))) (hm : zcH m) {K : KT} (hK : K (.tup []) (σ.set id (zgi (zec (P ++ zfm m))))) :
    zl Tryz.prog zeA [.box id 0, zlf m] σ K := by
  refine ze zgy.is rfl fun hl _ => zgy.goes ?_
  have hid := zcx hσ
  have hcl : (zaL m.changes).length = m.changes.length := List.length_map ..
  have hel : (zah m.entries).length = m.entries.length := List.length_map ..
  have hc := hm.changes
  have he := hm.entries
  simp only [zgE, iN, bT, bF, eN]
  have j := zms.first hσ (msgO m)
  refine zaF ?_
  refine j_broker j hid fun S j => ?_
  have b := j.b
  refine zay b ?_
  refine j_pos j hid fun S j => ?_
  have b := j.b
  refine zay (zq b hcl) ?_
  refine j_many j hid fun S j => ?_
  have b := j.b
  obtain ⟨Q, hQ⟩ : ∃ Q, P ++ [brkE m.src] ++ [posE m.view] ++ [inE m.changes.length 0 13] = Q := ⟨_, rfl⟩
  rw [hQ] at j
  refine zay (zq b hcl) ?_
  refine zy m.changes.length (fun k vs S => vs = [.d (.int .i64 k)] ∧ zms σ id (msgO m) (Q ++ ((m.changes.take k).map zbN).flatten) S) ⟨rfl, by simpa using j⟩ ?_
  rintro k vs S hk ⟨rfl, j⟩
  by_cases hlt : k < m.changes.length
  · have hd : decide ((k : Int) < (m.changes.length : Int)) = true := by simp; omega
    have hx : m.changes[k]? = some m.changes[k] := by simp [hlt]
    have hpx := hm.change _ (List.getElem_mem hlt)
    have hgx := zal (f := zbH) hx
    obtain ⟨p, hp⟩ : ∃ p, m.changes[k] = p := ⟨_, rfl⟩
    rw [hp] at hx hgx hpx
    refine znN (zq hd (zq hgx hcl)) ?_
    refine c_aChange (c := p) (zM j.a) hpx.1 ?_
    have j2 := (j.app [.box (zek p)]).set hid (Q ++ ((m.changes.take k).map zbN).flatten ++ zbN p)
    refine zay (wkc k (by omega)) ?_
    refine zbp.next hlt ⟨rfl, ?_⟩
    rw [zfI hx, ← List.append_assoc]
    exact j2
  · have hd : decide ((k : Int) < (m.changes.length : Int)) = false := by simp; omega
    rw [show m.changes.take k = m.changes from List.take_of_length_le (by omega)] at j
    have b := j.b
    refine zay (zq hd (zq hcl (zq b hel))) ?_
    refine j_many j hid fun S j => ?_
    have b := j.b
    obtain ⟨R, hR⟩ : ∃ R, Q ++ (m.changes.map zbN).flatten ++ [inE m.entries.length 0 8] = R := ⟨_, rfl⟩
    rw [hR] at j
    refine zay (zq b hel) ?_
    refine zy m.entries.length (fun k vs S => vs = [.d (.int .i64 k)] ∧ zms σ id (msgO m) (R ++ ((m.entries.take k).map zhz).flatten) S) ⟨rfl, by simpa using j⟩ ?_
    rintro k vs S hk ⟨rfl, j⟩
    by_cases hlt : k < m.entries.length
    · have hd : decide ((k : Int) < (m.entries.length : Int)) = true := by simp; omega
      have hx : m.entries[k]? = some m.entries[k] := by simp [hlt]
      have hpx := hm.entry _ (List.getElem_mem hlt)
      have hgx := zal (f := zdC) hx
      obtain ⟨x, hp⟩ : ∃ x, m.entries[k] = x := ⟨_, rfl⟩
      rw [hp] at hx hgx hpx
      obtain ⟨X, hX⟩ : ∃ X, zd.box [.d (.int .i64 x.view), .d (.int .i64 x.seq), .d (.slice (zbD x.batch)), .d (.int .i64 x.key), .d (.int .i64 x.dig)] = X := ⟨_, rfl⟩
      have c : (S ++ [X])[S.length]? = some X := by rw [zo]; rfl
      have hne : S.length ≠ id := by obtain ⟨τ, h1⟩ := j.pre; rw [h1]; simp; omega
      have j := j.app [X]
      subst hX
      refine znN (zq hd (zq hgx hel)) ?_
      obtain ⟨n, hn⟩ : ∃ n, S.length = n := ⟨_, rfl⟩
      obtain ⟨S0, hS0⟩ : ∃ S0, S ++ [zd.box [.d (.int .i64 x.view), .d (.int .i64 x.seq), .d (.slice (zbD x.batch)), .d (.int .i64 x.key), .d (.int .i64 x.dig)]] = S0 := ⟨_, rfl⟩
      rw [hn] at c hne
      rw [hS0] at c j
      rw [hn, hS0]
      refine jx_num j hid hne c fun S j c => ?_
      refine zay c ?_
      refine jx_pos j hid hne c fun S j c => ?_
      refine zay c ?_
      refine zfr hpx.1 ?_
      refine zaF ?_
      refine jx_says j hid hne c fun S j c => ?_
      refine zay c ?_
      refine zdO ?_
      refine zaF ?_
      refine jx_says j hid hne c fun S j c => ?_
      refine zay (wkc k (by omega)) ?_
      exact zbp.next hlt ⟨rfl, j.as (by rw [zfI hx]; simp [zhz])⟩
    · have hd : decide ((k : Int) < (m.entries.length : Int)) = false := by simp; omega
      rw [show m.entries.take k = m.entries from List.take_of_length_le (by omega)] at j
      refine zay (zq hd hel) ?_
      exact (j.as (by rw [← hR, ← hQ]; simp [zfm])).done hl hK
theorem c_aMsg7 {σ : List zd} {id : Nat} {P : List Int} {m : zes} (hσ : σ[id]? = some (zgi (zec P))) (hm : zcH m) (hk : m.kind = 7) {K : KT} (hK : K (.tup []) (σ.set id (zgi (zec (P ++ zjP m))))) :
    zl Tryz.prog zcY [.box id 0, zlf m] σ K := by
  refine ze zda.is rfl fun hl _ => zda.goes ?_
  have hid := zcx hσ
  have hcl : (zaL m.changes).length = m.changes.length := List.length_map ..
  have hc := hm.changes
  simp only [zeI, iN, bT, bF, eN]
  have j := zms.first hσ (msgO m)
  refine zay (zq (show (m.kind == 1) = false by rw [hk]; rfl) (zq (show (m.kind == 2) = false by rw [hk]; rfl) (zq (show (m.kind == 3) = false by rw [hk]; rfl) (zq (show (m.kind == 4) = false by rw [hk]; rfl) (zq (show (m.kind == 5) = false by rw [hk]; rfl) (zq (show (m.kind == 6) = false by rw [hk]; rfl) (zq (show (m.kind == 7) = true by rw [hk]; rfl) (zq (show (m.kind == 8) = false by rw [hk]; rfl) (zq (show (m.kind == 9) = false by rw [hk]; rfl) (zq (show (m.kind == 10) = false by rw [hk]; rfl) (zq (show (m.kind == 11) = false by rw [hk]; rfl) (zq (show (m.kind == 12) = false by rw [hk]; rfl) hcl)))))))))))) ?_
  refine j_in j hid fun S j => ?_
  have b := j.b
  obtain ⟨Q, hQ⟩ : ∃ Q, P ++ [inE m.changes.length 1 1] = Q := ⟨_, rfl⟩
  rw [hQ] at j
  refine zay (zq b (zq hcl (zq (show (m.kind == 1) = false by rw [hk]; rfl) (zq (show (m.kind == 2) = false by rw [hk]; rfl) (zq (show (m.kind == 3) = false by rw [hk]; rfl) (zq (show (m.kind == 4) = false by rw [hk]; rfl) (zq (show (m.kind == 5) = false by rw [hk]; rfl) (zq (show (m.kind == 6) = false by rw [hk]; rfl) (zq (show (m.kind == 7) = true by rw [hk]; rfl) (zq (show (m.kind == 8) = false by rw [hk]; rfl) (zq (show (m.kind == 9) = false by rw [hk]; rfl) (zq (show (m.kind == 10) = false by rw [hk]; rfl) (zq (show (m.kind == 11) = false by rw [hk]; rfl) (show (m.kind == 12) = false by rw [hk]; rfl)))))))))))))) ?_
  refine zy m.changes.length (fun k vs S => vs = [.d (.int .i64 k)] ∧ zms σ id (msgO m) (Q ++ ((m.changes.take k).map fun c => zbN c ++ [if c.src ≠ m.src ∨ c.view ≠ m.view then 100 else 0]).flatten) S) ⟨rfl, by simpa using j⟩ ?_
  rintro k vs S hk0 ⟨rfl, j⟩
  by_cases hlt : k < m.changes.length
  · have hd : decide ((k : Int) < (m.changes.length : Int)) = true := by simp; omega
    have hx : m.changes[k]? = some m.changes[k] := by simp [hlt]
    have hpx := hm.change _ (List.getElem_mem hlt)
    have hgx := zal (f := zbH) hx
    obtain ⟨p, hp⟩ : ∃ p, m.changes[k] = p := ⟨_, rfl⟩
    rw [hp] at hx hgx hpx
    have c : (S ++ [.box (zek p)])[S.length]? = some (.box (zek p)) := by rw [zo]; rfl
    have hne : S.length ≠ id := by obtain ⟨τ, h1⟩ := j.pre; rw [h1]; simp; omega
    have j := j.app [.box (zek p)]
    refine znN (zq hd (zq hgx hcl)) ?_
    obtain ⟨n, hn⟩ : ∃ n, S.length = n := ⟨_, rfl⟩
    obtain ⟨S0, hS0⟩ : ∃ S0, S ++ [zd.box (zek p)] = S0 := ⟨_, rfl⟩
    rw [hn] at c hne
    rw [hS0] at c j
    rw [hn, hS0]
    refine c_aChange (c := p) j.a hpx.1 ?_
    have j := j.set hid (Q ++ ((m.changes.take k).map fun c => zbN c ++ [if c.src ≠ m.src ∨ c.view ≠ m.view then 100 else 0]).flatten ++ zbN p)
    have c := (List.getElem?_set_ne (a := zgi (zec (Q ++ ((m.changes.take k).map fun c => zbN c ++ [if c.src ≠ m.src ∨ c.view ≠ m.view then 100 else 0]).flatten ++ zbN p))) hne.symm).trans c
    obtain ⟨S1, hS1⟩ : ∃ S1, S0.set id (zgi (zec (Q ++ ((m.changes.take k).map fun c => zbN c ++ [if c.src ≠ m.src ∨ c.view ≠ m.view then 100 else 0]).flatten ++ zbN p))) = S1 := ⟨_, rfl⟩
    rw [hS1] at c j ⊢
    have b := j.b
    cases h1 : (p.src != m.src)
    · cases h2 : (p.view != m.view)
      · refine zay (zq b (zq c (zq h1 (zq h2 (zq (show (m.kind == 1) = false by rw [hk]; rfl) (zq (show (m.kind == 2) = false by rw [hk]; rfl) (zq (show (m.kind == 3) = false by rw [hk]; rfl) (zq (show (m.kind == 4) = false by rw [hk]; rfl) (zq (show (m.kind == 5) = false by rw [hk]; rfl) (zq (show (m.kind == 6) = false by rw [hk]; rfl) (zq (show (m.kind == 7) = true by rw [hk]; rfl) (zq (show (m.kind == 8) = false by rw [hk]; rfl) (zq (show (m.kind == 9) = false by rw [hk]; rfl) (zq (show (m.kind == 10) = false by rw [hk]; rfl) (zq (show (m.kind == 11) = false by rw [hk]; rfl) (zq (show (m.kind == 12) = false by rw [hk]; rfl) (wkc k (by omega)))))))))))))))))) ?_
        refine zbp.next hlt ⟨rfl, ?_⟩
        rw [zfI hx, ← List.append_assoc, ← List.append_assoc, if_neg (by simp at h1 h2; simp [h1, h2])]
        exact j.zero
      · refine zay (zq b (zq c (zq h1 (zq h2 (zq (show (m.kind == 1) = false by rw [hk]; rfl) (zq (show (m.kind == 2) = false by rw [hk]; rfl) (zq (show (m.kind == 3) = false by rw [hk]; rfl) (zq (show (m.kind == 4) = false by rw [hk]; rfl) (zq (show (m.kind == 5) = false by rw [hk]; rfl) (zq (show (m.kind == 6) = false by rw [hk]; rfl) (zq (show (m.kind == 7) = true by rw [hk]; rfl) (zq (show (m.kind == 8) = false by rw [hk]; rfl) (zq (show (m.kind == 9) = false by rw [hk]; rfl) (zq (show (m.kind == 10) = false by rw [hk]; rfl) (zq (show (m.kind == 11) = false by rw [hk]; rfl) (zq (show (m.kind == 12) = false by rw [hk]; rfl) (wkc k (by omega)))))))))))))))))) ?_
        refine ztF j hid fun S j => ?_
        refine zay (wkc k (by omega)) ?_
        refine zbp.next hlt ⟨rfl, ?_⟩
        rw [zfI hx, ← List.append_assoc, ← List.append_assoc, if_pos (by simp at h1 h2; simp [h2])]
        exact j
    · refine zay (zq b (zq c (zq h1 (zq (show (m.kind == 1) = false by rw [hk]; rfl) (zq (show (m.kind == 2) = false by rw [hk]; rfl) (zq (show (m.kind == 3) = false by rw [hk]; rfl) (zq (show (m.kind == 4) = false by rw [hk]; rfl) (zq (show (m.kind == 5) = false by rw [hk]; rfl) (zq (show (m.kind == 6) = false by rw [hk]; rfl) (zq (show (m.kind == 7) = true by rw [hk]; rfl) (zq (show (m.kind == 8) = false by rw [hk]; rfl) (zq (show (m.kind == 9) = false by rw [hk]; rfl) (zq (show (m.kind == 10) = false by rw [hk]; rfl) (zq (show (m.kind == 11) = false by rw [hk]; rfl) (zq (show (m.kind == 12) = false by rw [hk]; rfl) (wkc k (by omega))))))))))))))))) ?_
      refine ztF j hid fun S j => ?_
      refine zay (wkc k (by omega)) ?_
      refine zbp.next hlt ⟨rfl, ?_⟩
      rw [zfI hx, ← List.append_assoc, ← List.append_assoc, if_pos (by simp at h1; simp [h1])]
      exact j
  · have hd : decide ((k : Int) < (m.changes.length : Int)) = false := by simp; omega
    rw [show m.changes.take k = m.changes from List.take_of_length_le (by omega)] at j
    have b := j.b
    refine zay (zq hd (zq hcl (zq b (zq (show (m.kind == 1) = false by rw [hk]; rfl) (zq (show (m.kind == 2) = false by rw [hk]; rfl) (zq (show (m.kind == 3) = false by rw [hk]; rfl) (zq (show (m.kind == 4) = false by rw [hk]; rfl) (zq (show (m.kind == 5) = false by rw [hk]; rfl) (zq (show (m.kind == 6) = false by rw [hk]; rfl) (zq (show (m.kind == 7) = true by rw [hk]; rfl) (zq (show (m.kind == 8) = false by rw [hk]; rfl) (zq (show (m.kind == 9) = false by rw [hk]; rfl) (zq (show (m.kind == 10) = false by rw [hk]; rfl) (zq (show (m.kind == 11) = false by rw [hk]; rfl) (show (m.kind == 12) = false by rw [hk]; rfl))))))))))))))) ?_
    refine zkS ?_
    refine zay (show ownK m.kind = false by rw [hk]; rfl) ?_
    exact (j.as (by rw [← hQ]; simp [zjP, zny, hk, show ownK 7 = false from rfl])).done hl hK
theorem c_aMsg8 {σ : List zd} {id : Nat} {P : List Int} {m : zes} (hσ : σ[id]? = some (zgi (zec P))) (hm : zcH m) (hk : m.kind = 8) {K : KT} (hK : K (.tup []) (σ.set id (zgi (zec (P ++ zjP m))))) :
    zl Tryz.prog zcY [.box id 0, zlf m] σ K := by
  refine ze zda.is rfl fun hl _ => zda.goes ?_
  have hid := zcx hσ
  simp only [zeI, iN, bT, bF, eN]
  have j := zms.first hσ (msgO m)
  refine zay (zq (show (m.kind == 1) = false by rw [hk]; rfl) (zq (show (m.kind == 2) = false by rw [hk]; rfl) (zq (show (m.kind == 3) = false by rw [hk]; rfl) (zq (show (m.kind == 4) = false by rw [hk]; rfl) (zq (show (m.kind == 5) = false by rw [hk]; rfl) (zq (show (m.kind == 6) = false by rw [hk]; rfl) (zq (show (m.kind == 7) = false by rw [hk]; rfl) (zq (show (m.kind == 8) = true by rw [hk]; rfl) (zq (show (m.kind == 9) = false by rw [hk]; rfl) (zq (show (m.kind == 10) = false by rw [hk]; rfl) (zq (show (m.kind == 11) = false by rw [hk]; rfl) (show (m.kind == 12) = false by rw [hk]; rfl)))))))))))) ?_
  refine c_aNewView (m := m) j.a hm ?_
  have j := j.set hid (P ++ zfm m)
  obtain ⟨S1, hS1⟩ : ∃ S1, (σ ++ [msgO m]).set id (zgi (zec (P ++ zfm m))) = S1 := ⟨_, rfl⟩
  rw [hS1] at j
  have b := j.b
  refine zay (zq hS1 (zq b (zq (show (m.kind == 1) = false by rw [hk]; rfl) (zq (show (m.kind == 2) = false by rw [hk]; rfl) (zq (show (m.kind == 3) = false by rw [hk]; rfl) (zq (show (m.kind == 4) = false by rw [hk]; rfl) (zq (show (m.kind == 5) = false by rw [hk]; rfl) (zq (show (m.kind == 6) = false by rw [hk]; rfl) (zq (show (m.kind == 7) = false by rw [hk]; rfl) (zq (show (m.kind == 8) = true by rw [hk]; rfl) (zq (show (m.kind == 9) = false by rw [hk]; rfl) (zq (show (m.kind == 10) = false by rw [hk]; rfl) (zq (show (m.kind == 11) = false by rw [hk]; rfl) (show (m.kind == 12) = false by rw [hk]; rfl)))))))))))))) ?_
  refine zkS ?_
  refine zay (zq (show ownK m.kind = true by rw [hk]; rfl) b) ?_
  refine zdO ?_
  refine zaF ?_
  refine ztF j hid fun S j => ?_
  refine zaF ?_
  exact (j.as (by simp [zjP, zny, hk, show ownK 8 = true from rfl])).done hl hK
end Go.Proofs.YtpgahkdjkanblaaGreat
