/- Contracts: the document's puts, gets and slides. -/
import Derived.Test.YtjjchfbckfopkaaGreatHe5
import Derived.Test.YtjjchfbckfopkaaGreatHe7
set_option linter.all false
set_option maxRecDepth 100000
set_option linter.unusedSimpArgs false
set_option linter.unusedVariables false
namespace Go.Proofs.YtjjchfbckfopkaaGreat
open Go.AW

def getP (R : List zw) (s : Int) : Option zw := R.find? fun q => q.seq == s
def optP : Option zw → zw
  | some p => p
  | none => ⟨0, 0, 0, 0, 0, [], []⟩
def slF (low : Int) (R : List zw) : List zw := R.filter fun p => decide (p.seq > low)
theorem take_snoc {α : Type} {R : List α} {k : Nat} {p : α} (h : R[k]? = some p) : R.take (k + 1) = R.take k ++ [p] := by rw [List.take_add_one, h]; rfl
section

variable {σ : List zb} {d : Nat} {R : List zw} {K : AV → List zb → Prop}

theorem c_frGet {s : Int} (hd : σ[d]? = some (docO R)) (hn : R.length ≤ 1073741824) (hK : K (.tup [zdZ (optP (getP R s)), .d (.bool (getP R s).isSome)]) σ) :
    zt Tryz.prog zgf [.box d 0, .d (.int .i64 s)] σ K := by
  refine zhh zog fun hl => ?_
  simp only [ziZ, iN, bT, bF, eN, zl1]
  have hb : ∀ τ, (σ ++ τ)[d]? = some (docO R) := fun τ => ze hd
  have hll : (zba R).length = R.length := List.length_map ..
  refine gq1 ?_
  refine zC R.length (fun k vs S => vs = [.d (.int .i64 k)] ∧ (∃ T, S = σ ++ .box [.d (.int .i64 0), .d (.int .i64 0), .d (.int .i64 0), .d (.int .i64 0), .d (.int .i64 0), .exact [], .exact []] :: T) ∧ ∀ q ∈ R.take k, (q.seq == s) = false) ⟨rfl, ⟨[], rfl⟩, by simp⟩ ?_
  rintro k vs S hk ⟨rfl, ⟨T, rfl⟩, hno⟩
  by_cases hlt : k < R.length
  · have hd : decide ((k : Int) < (R.length : Int)) = true := by simp; omega
    have hx : R[k]? = some R[k] := by simp [hlt]
    have hgx := zax (f := zdY) hx
    obtain ⟨p, hpe⟩ : ∃ p, R[k] = p := ⟨_, rfl⟩
    rw [hpe] at hx hgx
    cases h1 : (p.seq == s)
    · refine gq8 (zj hb (zj hd (zj hll (zj hgx (zj h1 (wk1 k (by omega))))))) ?_
      refine zaQ.next hlt ⟨rfl, ⟨T, rfl⟩, fun q hq => ?_⟩
      rw [take_snoc hx] at hq
      rcases List.mem_append.1 hq with hq | hq
      · exact hno q hq
      · simp at hq; subst hq; exact h1
    · have hg : getP R s = some p := by
        rw [getP, List.find?_eq_some_iff_getElem]
        refine ⟨h1, k, hlt, hpe, fun j hj => ?_⟩
        have := hno R[j] (List.mem_iff_getElem?.2 ⟨j, by rw [List.getElem?_take, if_pos hj]; exact List.getElem?_eq_getElem _⟩)
        simpa using this
      rw [hg] at hK
      refine gq8 (zj hb (zj hd (zj hll (zj hgx h1)))) ?_
      refine zam hl ?_
      exact hK
  · have hd : decide ((k : Int) < (R.length : Int)) = false := by simp; omega
    have hg : getP R s = none := by
      rw [getP, List.find?_eq_none]
      intro q hq
      rw [List.take_of_length_le (by omega)] at hno
      have := hno q hq
      simpa using this
    rw [hg] at hK
    refine gq2 (zj hb (zj hd hll)) ?_
    refine zam hl ?_
    exact hK
theorem c_frSlide {low : Int} (hd : σ[d]? = some (docO R)) (hn : R.length ≤ 1073741824) (hK : ∀ S, S[d]? = some (docO (slF low R)) → (∀ (j : Nat) (x : zb), j ≠ d → σ[j]? = some x → S[j]? = some x) → K (.tup []) S) :
    zt Tryz.prog zeP [.box d 0, .d (.int .i64 low)] σ K := by
  refine zt.weaken ?_
  refine zcv zhc.is rfl fun hl _ => zhc.goes ?_
  simp only [zhi, iN, bT, bF, eN, zl1]
  have hb : ∀ τ, (σ ++ τ)[d]? = some (docO R) := fun τ => ze hd
  have hdl := zaP hd
  have hll : (zba R).length = R.length := List.length_map ..
  refine zbw R.length (fun k vs S => vs = [.own σ.length (zba (slF low (R.take k))), .d (.int .i64 k)] ∧ S = σ ++ [.tok 7 (slF low (R.take k)).length]) (.tok 0 [] 7 rfl (by simp) (.refl _ _)) ⟨by simp [slF], by simp [slF]⟩ ?_
  rintro k vs S hk ⟨rfl, rfl⟩
  have hpl : (zba (slF low (R.take k))).length = (slF low (R.take k)).length := List.length_map ..
  have hfl : (slF low (R.take k)).length ≤ k := Nat.le_trans (List.length_filter_le _ _) (by simp; omega)
  by_cases hlt : k < R.length
  · have hd : decide ((k : Int) < (R.length : Int)) = true := by simp; omega
    have hx : R[k]? = some R[k] := by simp [hlt]
    have hgx := zax (f := zdY) hx
    obtain ⟨p, hpe⟩ : ∃ p, R[k] = p := ⟨_, rfl⟩
    rw [hpe] at hx hgx
    have htk : slF low (R.take (k + 1)) = slF low (R.take k) ++ slF low [p] := by rw [take_snoc hx, slF, slF, slF, List.filter_append]
    cases h1 : decide (p.seq > low)
    · have e1 : slF low [p] = [] := by simp only [slF, List.filter_cons, h1, List.filter_nil]; rfl
      rw [e1, List.append_nil] at htk
      refine gq8 (zj hb (zj hd (zj hll (zj hgx (zj h1 (wk1 k (by omega))))))) ?_
      exact zaQ.next hlt ⟨by rw [htk], by rw [htk]⟩
    · have e1 : slF low [p] = [p] := by simp only [slF, List.filter_cons, h1, List.filter_nil]; rfl
      rw [e1] at htk
      refine gq8 (zj hb (zj hd (zj hll (zj hgx (zj h1 (zj hpl (wk1 k (by omega)))))))) ?_
      exact zaQ.next hlt ⟨by rw [htk]; simp [zdY], by rw [htk]; simp⟩
  · have hd : decide ((k : Int) < (R.length : Int)) = false := by simp; omega
    have hkn : k = R.length := by omega
    rw [List.take_of_length_le (by omega)] at hpl ⊢
    refine gq2 (zj hb (zj hd hll)) ?_
    have sdl : ∀ X τ, (σ ++ τ).set d X = σ.set d X ++ τ := fun X τ => List.set_append_left _ _ hdl
    rw [sdl]
    refine zjp ⟨.tup [], σ.set d (docO (slF low R)) ++ [.tok 7 (slF low R).length], ?_, hK _ ?_ fun j x hj hx => ?_⟩
    · refine .dataB d 0 [.own σ.length (zba (slF low R))] (.own σ.length (zba (slF low R))) (zba (slF low R)) (ze (List.getElem?_set_self hdl)) rfl rfl ?_
      rw [List.set_append_left _ _ (by simpa using hdl), List.set_set]
      exact .refl _ _
    · exact ze (List.getElem?_set_self hdl)
    · exact ze (by rw [List.getElem?_set_ne (Ne.symm hj)]; exact hx)
theorem c_frPut {p : zw} (hd : σ[d]? = some (docO R)) (hn : R.length ≤ 1000000) (hp : zdb p)
    (hK : ∀ S, S[d]? = some (docO (if inR p = true then (dPut R p).2 else R)) → (∀ (j : Nat) (x : zb), j ≠ d → σ[j]? = some x → S[j]? = some x) → K (.d (.bool (inR p && (dPut R p).1))) S) :
    zt Tryz.prog zge [.box d 0, zdZ p] σ K := by
  refine zt.weaken ?_
  refine zcv ziQ.is rfl fun hl _ => ziQ.goes ?_
  simp only [ziY, iN, bT, bF, eN, zl1, zdZ]
  have hb : ∀ τ, (σ ++ τ)[d]? = some (docO R) := fun τ => ze hd
  have hdl := zaP hd
  have hll : (zba R).length = R.length := List.length_map ..
  have same : K (.d (.bool false)) (σ ++ [.box [.d (.int .i64 p.view), .d (.int .i64 p.seq), .d (.int .i64 p.dig), .d (.int .i64 p.fkey), .d (.int .i64 p.fdig), .d (.slice (zaB p.signs)), .d (.slice (zaM p.batch))]]) ∨ (inR p && (dPut R p).1) = true := by
    by_cases h : (inR p && (dPut R p).1) = true
    · exact .inr h
    · left
      have e : (if inR p = true then (dPut R p).2 else R) = R := by
        by_cases h1 : inR p = true
        · rw [if_pos h1]
          rw [h1, Bool.true_and] at h
          unfold dPut at h ⊢
          split
          · rename_i q hq
            simp only [hq] at h
            split
            · rename_i h2
              rw [if_pos h2] at h
              split
              · rfl
              · rename_i h3; simp [if_neg h3] at h
            · rename_i h2; simp [if_neg h2] at h
          · rename_i hq; simp only [hq] at h; exact absurd trivial h
        · rw [if_neg h1]
      have := hK (σ ++ [.box [.d (.int .i64 p.view), .d (.int .i64 p.seq), .d (.int .i64 p.dig), .d (.int .i64 p.fkey), .d (.int .i64 p.fdig), .d (.slice (zaB p.signs)), .d (.slice (zaM p.batch))]]) (by rw [e]; exact hb _) fun j x _ hx => ze hx
      rwa [Bool.eq_false_iff.2 h] at this
  have bad : (inR p && (dPut R p).1) = false → EndsA (fun r s => ∃ r' s', ziX [r] s [r'] s' ∧ K r' s') (some [.d (.bool false)]) (σ ++ [.box [.d (.int .i64 p.view), .d (.int .i64 p.seq), .d (.int .i64 p.dig), .d (.int .i64 p.fkey), .d (.int .i64 p.fdig), .d (.slice (zaB p.signs)), .d (.slice (zaM p.batch))]]) := fun h =>
    zjp ⟨_, _, .refl _ _, same.resolve_right (by rw [h]; simp)⟩
  clear same
  cases h1 : decide (p.seq < 1)
  rotate_left
  · refine gq2 h1 ?_
    exact bad (by simp [inR, h1])
  cases h2 : decide (p.seq > 9007199254740992)
  rotate_left
  · refine gq2 (zj h1 h2) ?_
    exact bad (by simp [inR, h1, h2])
  have hin : inR p = true := by simp [inR, h1, h2]
  rw [hin, Bool.true_and] at bad hK
  rw [if_pos rfl] at hK
  refine gq2 (zj h1 h2) ?_
  refine zC (zbU p.seq R) (fun k vs S => vs = [.d (.int .i64 k)] ∧ S = σ ++ [.box [.d (.int .i64 p.view), .d (.int .i64 p.seq), .d (.int .i64 p.dig), .d (.int .i64 p.fkey), .d (.int .i64 p.fdig), .d (.slice (zaB p.signs)), .d (.slice (zaM p.batch))]]) ⟨rfl, rfl⟩ ?_
  rintro k vs S hk ⟨rfl, rfl⟩
  have hle := zmw p.seq R
  have hbx : ∀ X τ, (σ ++ X :: τ)[σ.length]? = some X := fun X τ => by rw [zk]; rfl
  by_cases hlt : k < zbU p.seq R
  · have hx : R[k]? = some (R[k]'(by omega)) := List.getElem?_eq_getElem _
    have hgx := zax (f := zdY) hx
    have hlo := zmv hlt hx
    obtain ⟨q, hqe⟩ : ∃ q, R[k]'(by omega) = q := ⟨_, rfl⟩
    rw [hqe] at hx hgx hlo
    have hd1 : decide ((k : Int) < (R.length : Int)) = true := by simp; omega
    have hd2 : decide (q.seq < p.seq) = true := by simpa using hlo
    refine gq8 (zj hb (zj hd1 (zj hll (zj hgx (zj hd2 (wk1 k (by omega))))))) ?_
    exact zaQ.next hlt ⟨rfl, rfl⟩
  · have hkn : k = zbU p.seq R := by omega
    have done : ∀ (R2 : List zw) (n : Nat) (es : List (List D)), es = zba R2 → (∀ S, S[d]? = some (docO R2) → (∀ (j : Nat) (x : zb), j ≠ d → σ[j]? = some x → S[j]? = some x) → K (.d (.bool true)) S) →
        ∀ X, EndsA (fun r s => ∃ r' s', ziX [r] s [r'] s' ∧ K r' s') (some [.d (.bool true)]) ((σ ++ [X, zb.tok 7 n]).set d (zb.box [.own (σ.length + 1) es])) := fun R2 n es he hK2 X => by
      subst he
      rw [List.set_append_left _ _ hdl]
      refine zjp ⟨.d (.bool true), σ.set d (docO R2) ++ [X, zb.tok 7 n], ?_, hK2 _ (ze (List.getElem?_set_self hdl)) fun j x hj hx => ze (by rw [List.getElem?_set_ne (Ne.symm hj)]; exact hx)⟩
      refine .dataB d 0 [.own (σ.length + 1) (zba R2)] (.own (σ.length + 1) (zba R2)) (zba R2) (ze (List.getElem?_set_self hdl)) rfl rfl ?_
      rw [List.set_append_left _ _ (by simpa using hdl), List.set_set]
      exact .refl _ _
    have h7 : ∀ (L : List zw), ∀ e ∈ zba L, e.length = 7 := fun L => zmS (f := zdY) (fun _ => rfl) L
    have htk : List.take k (zba R) = zba (R.take k) := (List.map_take ..).symm
    have htR : List.take R.length (zba R) = zba R := List.take_of_length_le (by rw [hll]; exact Nat.le_refl _)
    have hdr : ∀ j, List.drop j (zba R) = zba (R.drop j) := fun j => (List.map_drop ..).symm
    have hlm : ∀ L : List zw, (zba L).length = L.length := fun L => List.length_map ..
    have hpp : [D.int .i64 p.view, .int .i64 p.seq, .int .i64 p.dig, .int .i64 p.fkey, .int .i64 p.fdig, .slice (zaB p.signs), .slice (zaM p.batch)] = zdY p := rfl
    have hka : ∀ j, zba (R.take k) ++ zdY p :: zba (R.drop j) = zba (R.take k ++ p :: R.drop j) := fun j => by simp
    by_cases hkR : k < R.length
    · have hx : R[k]? = some (R[k]'hkR) := List.getElem?_eq_getElem _
      have hgx := zax (f := zdY) hx
      have hat : p.seq ≤ (R[k]'hkR).seq := zmx (s := p.seq) (R := R) (by rw [← hkn]; exact hx)
      obtain ⟨q, hqe⟩ : ∃ q, R[k]'hkR = q := ⟨_, rfl⟩
      rw [hqe] at hx hgx hat
      have hd1 : decide ((k : Int) < (R.length : Int)) = true := by simp; omega
      have hd2 : decide (q.seq < p.seq) = false := by simpa using hat
      unfold dPut at hK bad
      rw [← hkn] at hK bad
      simp only [hx] at hK bad
      cases h3 : (q.seq == p.seq)
      · have h3' : ¬ q.seq = p.seq := by simpa using h3
        rw [if_neg h3'] at hK
        refine gq8 (zj hb (zj hd1 (zj hll (zj hgx (zj hd2 (zj hbx (zj h3 (zj htk (zj htR (zj hdr hlm)))))))))) ?_
        refine ⟨h7 _, h7 _, by simp, by simp; omega, by simp, by simp; omega, by omega, by omega, by omega, h7 _, h7 _, by simp; omega, done _ _ _ (hka k) hK _⟩
      · have h3' : q.seq = p.seq := by simpa using h3
        rw [if_pos h3'] at hK bad
        cases h4 : decide (q.view ≥ p.view)
        · have h4' : ¬ q.view ≥ p.view := by simpa using h4
          rw [if_neg h4'] at hK
          refine gq8 (zj hb (zj hd1 (zj hll (zj hgx (zj hd2 (zj hbx (zj h3 (zj h4 (zj htk (zj htR (zj hdr (zj hlm (wk1 k (by omega)))))))))))))) ?_
          refine ⟨h7 _, h7 _, by simp, by simp; omega, by simp, by simp; omega, by omega, by omega, by omega, h7 _, h7 _, by simp; omega, done _ _ _ (hka (k + 1)) hK _⟩
        · have h4' : q.view ≥ p.view := by simpa using h4
          rw [if_pos h4'] at bad
          refine gq8 (zj hb (zj hd1 (zj hll (zj hgx (zj hd2 (zj hbx (zj h3 h4))))))) ?_
          exact bad rfl
    · have hd1 : decide ((k : Int) < (R.length : Int)) = false := by simp; omega
      have hx : R[k]? = none := List.getElem?_eq_none (by omega)
      unfold dPut at hK
      rw [← hkn] at hK
      simp only [hx] at hK
      refine gq2 (zj hb (zj hd1 (zj hll (zj hbx (zj htk (zj htR (zj hdr hlm))))))) ?_
      refine ⟨h7 _, h7 _, by simp, by simp; omega, by simp, by simp; omega, by omega, by omega, by omega, h7 _, h7 _, by simp; omega, done _ _ _ (hka k) hK _⟩
end

end Go.Proofs.YtjjchfbckfopkaaGreat
