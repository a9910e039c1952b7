/- Contracts: certificates such as a view-change may tell. -/
import Derived.Test.YtcappjcojggehaaGreatPr4
set_option linter.all false
set_option maxRecDepth 100000
set_option linter.unusedSimpArgs false
set_option linter.unusedVariables false
namespace Go.Proofs.YtcappjcojggehaaGreat
open Go.AW

def zhS (L : List (List UInt8)) (G : List zR) (f view low : Int) : Int → List zbN → Bool
  | _, [] => true
  | last, p :: r => zdB L G f p && (!(decide (p.view ≥ view)) && (!(decide (p.seq ≤ last)) && (!(decide (p.seq - 8 > low)) && zhS L G f view low p.seq r)))
theorem znV {L : List (List UInt8)} {G : List zR} {f view low last : Int} {l : List zbN} {k : Nat} {p : zbN} (h : l[k]? = some p) :
    zhS L G f view low last (l.drop k) = (zdB L G f p && (!(decide (p.view ≥ view)) && (!(decide (p.seq ≤ last)) && (!(decide (p.seq - 8 > low)) && zhS L G f view low p.seq (l.drop (k + 1)))))) := by
  have hk : k < l.length := (List.getElem?_eq_some_iff.1 h).1
  rw [List.drop_eq_getElem_cons hk, (List.getElem?_eq_some_iff.1 h).2]
  rfl
theorem prepF_seq {L : List (List UInt8)} {G : List zR} {f : Int} {p : zbN} (h : zdB L G f p = true) : 1 ≤ p.seq ∧ p.seq ≤ 9007199254740992 := by
  simp [zdB, zel] at h
  omega
theorem gq66 {A P Q : Prop} (a : A) (h : Q) (e : A → P = Q := by intro a; simp -dsimp only [↓zcS, ↓zal, ↓zaI, ↓zcT, ↓zcN, ↓zcL, ↓zcO, ↓zcM, ↓zaN, ↓zaJ, ↓zaO, ↓zaK, ↓zcP, ↓zaH, ↓zaP, ↓zaL, ↓zaQ, ↓zaM, ↓zcK, ↓zcQ, ↓zaG, ↓zaR, ↓zcH, ↓zcG, ↓zcJ, iN, bT, bF, eN, ↓zbI, ↓unC, ↓zJ, ↓zx, ↓zy, ↓zC, ↓zQ, ↓zaA, ↓zbD, ↓zaa, ↓zbg, ↓zU, ↓zl, ↓zu, ↓zba, ↓ze, ↓zY, ↓zH, ↓zap, ↓zaw, ↓zc, ↓zD, ↓zj, ↓zo, ↓zad, ↓zbM, ↓zbX, ↓zaf, ↓zaj, ↓zar, ↓zax, ↓zaC, ↓zh, ↓zZ, ↓zB, ↓zk, ↓zO, zbS, zaF, zaD, unA, zcd, bnd, zcp, zT, zag, zcs, dm, dm1, zN, zaq, zcv, zcu, zL, Q0, Q1, Q2, Q3, Q4, Q5, zI, zg, zr, zt, zw, Q6, Q7, Q8, Q9, Q10, Q11, Q12, Q13, Q14, Nat.reduceAdd, Q15, Int.reduceToNat, Q16, Q17, Q18, Q19, Q20, reduceIte, Q21, Q22, zq, rep, zP, zcI, toD, zae, Q23, Q24, Q25, Q26, Q27, Q28, Nat.reduceLeDiff, Q29, Nat.reduceSub, Q30, Q31, Q32, sc, Q33, Q34, Q35, Q36, Q37, Q26, Q38, Q39, zfN, zfK, zfH, zfO, zbV, zfL, zfI, zfM, zfJ, zbU, zbW, zfQ, zfR, Bool.not_true, Bool.not_false, List.length_map, prepD, a]; rfl) : P := (e a).mpr h
theorem c_prAbove {σ : List zb} {id m t id2 m2 t2 : Nat} {L : List (List UInt8)} {G : List zR} {f view low : Int} {l : List zbN} (hT : zcy σ id m t L) (hG : zcz σ id2 m2 t2 G) (hL : zmy L) (hg : G.length ≤ 1073741824) (hp : ∀ p ∈ l, zkG p) (hl0 : l.length ≤ 1073741824) (hlow : zmW low)
    {K : AV → List zb → Prop} (hK : K (.d (.bool (zhS L G f view low low l))) σ) : zK Tryz.prog zeg [.box id 0, .box id2 0, .d (.int .i64 f), .d (.int .i64 view), .d (.int .i64 low), .d (.slice (znj l))] σ K := by
  refine zi zgS.is rfl fun hl _ => zgS.goes ?_
  have fin : ∀ z, zhS L G f view low low l = z → K (.d (.bool z)) σ := fun z h => h ▸ hK
  clear hK
  have hlen : (znj l).length = l.length := List.length_map ..
  simp only [zhg, iN, bT, bF, eN]
  (repeat' first | refine gq2 hlen ?_ | with_reducible first | exact ⟨⟩ | refine zn ?_ | fail)
  refine zX l.length (fun k vs s => ∃ last : Int, vs = [.d (.int .i64 last), .d (.int .i64 k)] ∧ (∃ T, s = σ ++ T) ∧ low ≤ last ∧
      zhS L G f view low low l = zhS L G f view low last (l.drop k)) ⟨low, rfl, ⟨[], by simp⟩, Int.le_refl _, by simp⟩ ?_
  rintro k vs s hk ⟨last, rfl, ⟨T, rfl⟩, hlast, hpf⟩
  by_cases hlt : k < l.length
  · have hd : decide ((k : Int) < (l.length : Int)) = true := by simp; omega
    have hx : l[k]? = some l[k] := by simp [hlt]
    have hxs := hp _ (List.getElem_mem hlt)
    have hgx := zaS (f := prepD) hx
    obtain ⟨p, hpe⟩ : ∃ p, l[k] = p := ⟨_, rfl⟩
    rw [hpe] at hx hgx hxs
    rw [znV hx] at hpf
    have hw : IntKind.i64.wrap ((k : Int) + 1) = ((k + 1 : Nat) : Int) := by rw [zak (by omega) (by omega)]; rfl
    (repeat' first | refine gq66 (zp hd (zp hgx hlen)) ?_ | with_reducible first | exact ⟨⟩ | refine zn ?_ | fail)
    refine zjC (p := p) (hT.app _) (hG.app _) hL hg hxs ?_
    cases g1 : zdB L G f p
    · (repeat' first | refine gq1 ?_ | with_reducible first | exact ⟨⟩ | refine zn ?_ | fail)
      (first | refine zai hl ?_ | refine zah hl ?_)
      exact fin _ (by rw [hpf, g1]; rfl)
    have hsq := prepF_seq g1
    rw [g1, Bool.true_and] at hpf
    cases g2 : decide (p.view ≥ view)
    rotate_left
    · (repeat' first | refine gq2 g2 ?_ | with_reducible first | exact ⟨⟩ | refine zn ?_ | fail)
      (first | refine zai hl ?_ | refine zah hl ?_)
      exact fin _ (by rw [hpf, g2]; rfl)
    cases g3 : decide (p.seq ≤ last)
    rotate_left
    · (repeat' first | refine gq2 (zp g2 g3) ?_ | with_reducible first | exact ⟨⟩ | refine zn ?_ | fail)
      (first | refine zai hl ?_ | refine zah hl ?_)
      exact fin _ (by rw [hpf, g2, g3]; rfl)
    rw [g2, g3] at hpf
    simp only [Bool.not_false, Bool.true_and] at hpf
    have g3' : ¬ p.seq ≤ last := by simpa using g3
    cases g4 : decide (low < 0)
    · have g4' : decide (low ≥ 0) = true := by simp at g4 ⊢; omega
      have g4'' : 0 ≤ low := by simpa using g4'
      have hws : IntKind.i64.wrap (p.seq - low) = p.seq - low := zak (by omega) (by omega)
      cases g5 : decide (p.seq - low > 8)
      · have e : decide (p.seq - 8 > low) = false := by simp at g5 ⊢; omega
        rw [e, Bool.not_false, Bool.true_and] at hpf
        (repeat' first | refine gq2 (zp g2 (zp g3 (zp g4 (zp g4' (zp hws (zp g5 hw)))))) ?_ | with_reducible first | exact ⟨⟩ | refine zn ?_ | fail)
        exact zbh.next hlt ⟨p.seq, rfl, ⟨_, rfl⟩, by omega, hpf⟩
      · have e : decide (p.seq - 8 > low) = true := by simp at g5 ⊢; omega
        rw [e] at hpf
        (repeat' first | refine gq2 (zp g2 (zp g3 (zp g4 (zp g4' (zp hws (zp g5 hw)))))) ?_ | with_reducible first | exact ⟨⟩ | refine zn ?_ | fail)
        (first | refine zai hl ?_ | refine zah hl ?_)
        exact fin _ hpf
    · have g4' : decide (low ≥ 0) = false := by simp at g4 ⊢; omega
      have g4'' : low < 0 := by simpa using g4
      have hlo := hlow.1
      have hws : IntKind.i64.wrap (8 + low) = 8 + low := zak (by omega) (by omega)
      cases g5 : decide (p.seq > 8 + low)
      · have e : decide (p.seq - 8 > low) = false := by simp at g5 ⊢; omega
        rw [e, Bool.not_false, Bool.true_and] at hpf
        (repeat' first | refine gq2 (zp g2 (zp g3 (zp g4 (zp g4' (zp hws (zp g5 hw)))))) ?_ | with_reducible first | exact ⟨⟩ | refine zn ?_ | fail)
        exact zbh.next hlt ⟨p.seq, rfl, ⟨_, rfl⟩, by omega, hpf⟩
      · have e : decide (p.seq - 8 > low) = true := by simp at g5 ⊢; omega
        rw [e] at hpf
        (repeat' first | refine gq2 (zp g2 (zp g3 (zp g4 (zp g4' (zp hws (zp g5 hw)))))) ?_ | with_reducible first | exact ⟨⟩ | refine zn ?_ | fail)
        (first | refine zai hl ?_ | refine zah hl ?_)
        exact fin _ hpf
  · have hd : decide ((k : Int) < (l.length : Int)) = false := by simp; omega
    rw [List.drop_eq_nil_of_le (by omega)] at hpf
    (repeat' first | refine gq2 (zp hd hlen) ?_ | with_reducible first | exact ⟨⟩ | refine zn ?_ | fail)
    (first | refine zai hl ?_ | refine zah hl ?_)
    exact fin _ hpf
theorem c_r15Above {σ : List zb} {id id2 : Nat} {L : List (List UInt8)} {G : List zR} {f view low : Int} {l : List zbN} (hT : σ[id]? = some (rtO L)) (hG : σ[id2]? = some (rlO G)) (hL : zmy L) (hg : G.length ≤ 1073741824) (hp : ∀ p ∈ l, zkG p) (hl0 : l.length ≤ 1073741824)
    {K : AV → List zb → Prop} (hK : K (.d (.bool (zhS L G f view low low l))) σ) : zK Tryz.prog ziM [.box id 0, .box id2 0, .d (.int .i64 f), .d (.int .i64 view), .d (.int .i64 low), .d (.slice (znj l))] σ K := by
  refine zi zmc.is rfl fun hl _ => zmc.goes ?_
  have fin : ∀ z, zhS L G f view low low l = z → K (.d (.bool z)) σ := fun z h => h ▸ hK
  clear hK
  have hlen : (znj l).length = l.length := List.length_map ..
  simp only [zmC, iN, bT, bF, eN]
  (repeat' first | refine gq2 hlen ?_ | with_reducible first | exact ⟨⟩ | refine zn ?_ | fail)
  refine zX l.length (fun k vs s => ∃ last : Int, vs = [.d (.int .i64 last), .d (.int .i64 k)] ∧ s = σ ∧ low ≤ last ∧
      zhS L G f view low low l = zhS L G f view low last (l.drop k)) ⟨low, rfl, rfl, Int.le_refl _, by simp⟩ ?_
  rintro k vs s hk ⟨last, rfl, rfl, hlast, hpf⟩
  by_cases hlt : k < l.length
  · have hd : decide ((k : Int) < (l.length : Int)) = true := by simp; omega
    have hx : l[k]? = some l[k] := by simp [hlt]
    have hxs := hp _ (List.getElem_mem hlt)
    have hgx := zaS (f := prepD) hx
    obtain ⟨p, hpe⟩ : ∃ p, l[k] = p := ⟨_, rfl⟩
    rw [hpe] at hx hgx hxs
    rw [znV hx] at hpf
    have hw : IntKind.i64.wrap ((k : Int) + 1) = ((k + 1 : Nat) : Int) := by rw [zak (by omega) (by omega)]; rfl
    (repeat' first | refine gq66 (zp hd (zp hgx hlen)) ?_ | with_reducible first | exact ⟨⟩ | refine zn ?_ | fail)
    refine znR (p := p) hT hG hL hg hxs ?_
    cases g1 : zdB L G f p
    · (repeat' first | refine gq1 ?_ | with_reducible first | exact ⟨⟩ | refine zn ?_ | fail)
      (first | refine zai hl ?_ | refine zah hl ?_)
      exact fin _ (by rw [hpf, g1]; rfl)
    have hsq := prepF_seq g1
    rw [g1, Bool.true_and] at hpf
    cases g2 : decide (p.view ≥ view)
    rotate_left
    · (repeat' first | refine gq66 (zp g2 hgx) ?_ | with_reducible first | exact ⟨⟩ | refine zn ?_ | fail)
      (first | refine zai hl ?_ | refine zah hl ?_)
      exact fin _ (by rw [hpf, g2]; rfl)
    cases g3 : decide (p.seq ≤ last)
    rotate_left
    · (repeat' first | refine gq66 (zp g2 (zp g3 hgx)) ?_ | with_reducible first | exact ⟨⟩ | refine zn ?_ | fail)
      (first | refine zai hl ?_ | refine zah hl ?_)
      exact fin _ (by rw [hpf, g2, g3]; rfl)
    rw [g2, g3] at hpf
    simp only [Bool.not_false, Bool.true_and] at hpf
    have g3' : ¬ p.seq ≤ last := by simpa using g3
    have g4 : decide (p.seq ≤ low) = false := by simp; omega
    have hws : IntKind.i64.wrap (p.seq - 8) = p.seq - 8 := zak (by omega) (by omega)
    cases g5 : decide (p.seq - 8 > low)
    · rw [g5, Bool.not_false, Bool.true_and] at hpf
      (repeat' first | refine gq66 (zp g2 (zp g3 (zp g4 (zp hws (zp g5 (zp hw hgx)))))) ?_ | with_reducible first | exact ⟨⟩ | refine zn ?_ | fail)
      exact zbh.next hlt ⟨p.seq, rfl, rfl, by omega, hpf⟩
    · rw [g5] at hpf
      (repeat' first | refine gq66 (zp g2 (zp g3 (zp g4 (zp hws (zp g5 (zp hw hgx)))))) ?_ | with_reducible first | exact ⟨⟩ | refine zn ?_ | fail)
      (first | refine zai hl ?_ | refine zah hl ?_)
      exact fin _ hpf
  · have hd : decide ((k : Int) < (l.length : Int)) = false := by simp; omega
    rw [List.drop_eq_nil_of_le (by omega)] at hpf
    (repeat' first | refine gq2 (zp hd hlen) ?_ | with_reducible first | exact ⟨⟩ | refine zn ?_ | fail)
    (first | refine zai hl ?_ | refine zah hl ?_)
    exact fin _ hpf
end Go.Proofs.YtcappjcojggehaaGreat
