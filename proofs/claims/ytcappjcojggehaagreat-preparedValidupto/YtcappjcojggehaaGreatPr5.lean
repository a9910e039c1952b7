/- Contracts: certificates such as a view-change may tell. -/
import Derived.Test.YtcappjcojggehaaGreatPr4
set_option linter.all false
set_option maxRecDepth 100000
set_option linter.unusedSimpArgs false
set_option linter.unusedVariables false
namespace Go.Proofs.YtcappjcojggehaaGreat
open Go.AW

def zgu (L : List (List UInt8)) (G : List TSign) (f view low : Int) : Int → List TPrep → Bool
  | _, [] => true
  | last, p :: r => prepF L G f p && (!(decide (p.view ≥ view)) && (!(decide (p.seq ≤ last)) && (!(decide (p.seq - 8 > low)) && zgu L G f view low p.seq r)))
theorem znn {L : List (List UInt8)} {G : List TSign} {f view low last : Int} {l : List TPrep} {k : Nat} {p : TPrep} (h : l[k]? = some p) :
    zgu L G f view low last (l.drop k) = (prepF L G f p && (!(decide (p.view ≥ view)) && (!(decide (p.seq ≤ last)) && (!(decide (p.seq - 8 > low)) && zgu L G f view low p.seq (l.drop (k + 1)))))) := by
  have hk : k < l.length := (List.getElem?_eq_some_iff.1 h).1
  rw [List.drop_eq_getElem_cons hk, (List.getElem?_eq_some_iff.1 h).2]
  rfl
theorem prepF_seq {L : List (List UInt8)} {G : List TSign} {f : Int} {p : TPrep} (h : prepF L G f p = true) : 1 ≤ p.seq ∧ p.seq ≤ 9007199254740992 := by
  simp [prepF, zdz] at h
  omega
theorem gq66 {A P Q : Prop} (a : A) (h : Q) (e : A → P = Q := by intro a; simp -dsimp only [↓zae, ↓loopL, ↓binC, ↓unC, ↓zL, ↓zD, ↓zE, ↓zF, ↓zP, ↓lenC, ↓slcC, ↓convC, ↓boxC, ↓zH, ↓loadC, ↓zp, ↓nilC, ↓zh, ↓zV, ↓zr, ↓idxSC, ↓idxAC, ↓zi, ↓zG, ↓zl, ↓zt, ↓zZ, ↓maxC, ↓minC, ↓zab, ↓zac, ↓mgetC, ↓msetC, ↓mdelC, ↓zn, ↓zW, ↓zC, ↓zq, ↓zN, binA, intOp, strOp, unA, esOf, bnd, intV, zR, fillV, srcE, dm, dm1, consO, cellA, maxL, minL, keepO, Q0, Q1, Q2, Q3, Q4, Q5, zK, zm, zw, zx, zy, Q6, Q7, Q8, Q9, Q10, Q11, Q12, Q13, Q14, Nat.reduceAdd, Q15, Int.reduceToNat, Q16, Q17, Q18, Q19, Q20, reduceIte, Q21, Q22, zu, rep, zO, toDs, toD, zaa, Q23, Q24, Q25, Q26, Q27, Q28, Nat.reduceLeDiff, Q29, Nat.reduceSub, Q30, Q31, Q32, sc, Q33, Q34, Q35, Q36, Q37, Q26, Q38, Q39, n0gt, n1gt, n2gt, n0eq, n1eq0, n1eq, n2eq, n0ne, n1ne, n1ne0, n0ne1, i0ne, i0eq, Bool.not_true, Bool.not_false, List.length_map, prepD, a]; rfl) : P := (e a).mpr h
theorem c_prAbove {σ : List AObj} {id m t id2 m2 t2 : Nat} {L : List (List UInt8)} {G : List TSign} {f view low : Int} {l : List TPrep} (hT : TabAt σ id m t L) (hG : LedAt σ id2 m2 t2 G) (hL : TabI L) (hg : G.length ≤ 1073741824) (hp : ∀ p ∈ l, zkh p) (hl0 : l.length ≤ 1073741824) (hlow : i64r low)
    {K : AV → List AObj → Prop} (hK : K (.d (.bool (zgu L G f view low low l))) σ) : ACall Tryz.prog zdh [.box id 0, .box id2 0, .d (.int .i64 f), .d (.int .i64 view), .d (.int .i64 low), .d (.slice (zmR l))] σ K := by
  refine zo ziB rfl fun hl _ => zkJ ?_
  have fin : ∀ z, zgu L G f view low low l = z → K (.d (.bool z)) σ := fun z h => h ▸ hK
  clear hK
  have hlen : (zmR l).length = l.length := List.length_map ..
  simp only [zfL]
  (repeat' (first | (refine gq2 hlen ?_; try with_reducible exact True.intro) | ((with_reducible refine And.intro ?_ ?_); focus (first | omega | rfl | decide | (simp; done)))))
  refine zU l.length (fun k vs s => ∃ last : Int, vs = [.d (.int .i64 last), .d (.int .i64 k)] ∧ (∃ T, s = σ ++ T) ∧ low ≤ last ∧
      zgu L G f view low low l = zgu L G f view low last (l.drop k)) ⟨low, rfl, ⟨[], by simp⟩, Int.le_refl _, by simp⟩ ?_
  rintro k vs s hk ⟨last, rfl, ⟨T, rfl⟩, hlast, hpf⟩
  by_cases hlt : k < l.length
  · have hd : decide ((k : Int) < (l.length : Int)) = true := by simp; omega
    have hx : l[k]? = some l[k] := by simp [hlt]
    have hxs := hp _ (List.getElem_mem hlt)
    have hgx := zas (f := prepD) hx
    obtain ⟨p, hpe⟩ : ∃ p, l[k] = p := ⟨_, rfl⟩
    rw [hpe] at hx hgx hxs
    rw [znn hx] at hpf
    have hw : IntKind.i64.wrap ((k : Int) + 1) = ((k + 1 : Nat) : Int) := by rw [zad (by omega) (by omega)]; rfl
    (repeat' (first | (refine gq66 (gqc0 hd (gqc0 hgx hlen)) ?_; try with_reducible exact True.intro) | ((with_reducible refine And.intro ?_ ?_); focus (first | omega | rfl | decide | (simp; done)))))
    refine ziN (p := p) (hT.app _) (hG.app _) hL hg hxs ?_
    cases g1 : prepF L G f p
    · (repeat' (first | (refine gq1 ?_; try with_reducible exact True.intro) | ((with_reducible refine And.intro ?_ ?_); focus (first | omega | rfl | decide | (simp; done)))))
      (first | refine zg (by simp [Low_d, dmT, dm, dm1, pack, zd, ze, zb]) hl ?_ | refine zf (by simp [Low_d, dmT, dm, dm1, pack, zd, ze, zb]) hl ?_)
      exact fin _ (by rw [hpf, g1]; rfl)
    have hsq := prepF_seq g1
    rw [g1, Bool.true_and] at hpf
    cases g2 : decide (p.view ≥ view)
    rotate_left
    · (repeat' (first | (refine gq2 g2 ?_; try with_reducible exact True.intro) | ((with_reducible refine And.intro ?_ ?_); focus (first | omega | rfl | decide | (simp; done)))))
      (first | refine zg (by simp [Low_d, dmT, dm, dm1, pack, zd, ze, zb]) hl ?_ | refine zf (by simp [Low_d, dmT, dm, dm1, pack, zd, ze, zb]) hl ?_)
      exact fin _ (by rw [hpf, g2]; rfl)
    cases g3 : decide (p.seq ≤ last)
    rotate_left
    · (repeat' (first | (refine gq2 (gqc0 g2 g3) ?_; try with_reducible exact True.intro) | ((with_reducible refine And.intro ?_ ?_); focus (first | omega | rfl | decide | (simp; done)))))
      (first | refine zg (by simp [Low_d, dmT, dm, dm1, pack, zd, ze, zb]) hl ?_ | refine zf (by simp [Low_d, dmT, dm, dm1, pack, zd, ze, zb]) hl ?_)
      exact fin _ (by rw [hpf, g2, g3]; rfl)
    rw [g2, g3] at hpf
    simp only [Bool.not_false, Bool.true_and] at hpf
    have g3' : ¬ p.seq ≤ last := by simpa using g3
    cases g4 : decide (low < 0)
    · have g4' : decide (low ≥ 0) = true := by simp at g4 ⊢; omega
      have g4'' : 0 ≤ low := by simpa using g4'
      have hws : IntKind.i64.wrap (p.seq - low) = p.seq - low := zad (by omega) (by omega)
      cases g5 : decide (p.seq - low > 8)
      · have e : decide (p.seq - 8 > low) = false := by simp at g5 ⊢; omega
        rw [e, Bool.not_false, Bool.true_and] at hpf
        (repeat' (first | (refine gq2 (gqc0 g2 (gqc0 g3 (gqc0 g4 (gqc0 g4' (gqc0 hws (gqc0 g5 hw)))))) ?_; try with_reducible exact True.intro) | ((with_reducible refine And.intro ?_ ?_); focus (first | omega | rfl | decide | (simp; done)))))
        exact Again.next hlt ⟨p.seq, rfl, ⟨_, rfl⟩, by omega, hpf⟩
      · have e : decide (p.seq - 8 > low) = true := by simp at g5 ⊢; omega
        rw [e] at hpf
        (repeat' (first | (refine gq2 (gqc0 g2 (gqc0 g3 (gqc0 g4 (gqc0 g4' (gqc0 hws (gqc0 g5 hw)))))) ?_; try with_reducible exact True.intro) | ((with_reducible refine And.intro ?_ ?_); focus (first | omega | rfl | decide | (simp; done)))))
        (first | refine zg (by simp [Low_d, dmT, dm, dm1, pack, zd, ze, zb]) hl ?_ | refine zf (by simp [Low_d, dmT, dm, dm1, pack, zd, ze, zb]) hl ?_)
        exact fin _ hpf
    · have g4' : decide (low ≥ 0) = false := by simp at g4 ⊢; omega
      have g4'' : low < 0 := by simpa using g4
      have hlo := hlow.1
      have hws : IntKind.i64.wrap (8 + low) = 8 + low := zad (by omega) (by omega)
      cases g5 : decide (p.seq > 8 + low)
      · have e : decide (p.seq - 8 > low) = false := by simp at g5 ⊢; omega
        rw [e, Bool.not_false, Bool.true_and] at hpf
        (repeat' (first | (refine gq2 (gqc0 g2 (gqc0 g3 (gqc0 g4 (gqc0 g4' (gqc0 hws (gqc0 g5 hw)))))) ?_; try with_reducible exact True.intro) | ((with_reducible refine And.intro ?_ ?_); focus (first | omega | rfl | decide | (simp; done)))))
        exact Again.next hlt ⟨p.seq, rfl, ⟨_, rfl⟩, by omega, hpf⟩
      · have e : decide (p.seq - 8 > low) = true := by simp at g5 ⊢; omega
        rw [e] at hpf
        (repeat' (first | (refine gq2 (gqc0 g2 (gqc0 g3 (gqc0 g4 (gqc0 g4' (gqc0 hws (gqc0 g5 hw)))))) ?_; try with_reducible exact True.intro) | ((with_reducible refine And.intro ?_ ?_); focus (first | omega | rfl | decide | (simp; done)))))
        (first | refine zg (by simp [Low_d, dmT, dm, dm1, pack, zd, ze, zb]) hl ?_ | refine zf (by simp [Low_d, dmT, dm, dm1, pack, zd, ze, zb]) hl ?_)
        exact fin _ hpf
  · have hd : decide ((k : Int) < (l.length : Int)) = false := by simp; omega
    rw [List.drop_eq_nil_of_le (by omega)] at hpf
    (repeat' (first | (refine gq2 (gqc0 hd hlen) ?_; try with_reducible exact True.intro) | ((with_reducible refine And.intro ?_ ?_); focus (first | omega | rfl | decide | (simp; done)))))
    (first | refine zg (by simp [Low_d, dmT, dm, dm1, pack, zd, ze, zb]) hl ?_ | refine zf (by simp [Low_d, dmT, dm, dm1, pack, zd, ze, zb]) hl ?_)
    exact fin _ hpf
theorem c_r15Above {σ : List AObj} {id id2 : Nat} {L : List (List UInt8)} {G : List TSign} {f view low : Int} {l : List TPrep} (hT : σ[id]? = some (rtO L)) (hG : σ[id2]? = some (rlO G)) (hL : TabI L) (hg : G.length ≤ 1073741824) (hp : ∀ p ∈ l, zkh p) (hl0 : l.length ≤ 1073741824)
    {K : AV → List AObj → Prop} (hK : K (.d (.bool (zgu L G f view low low l))) σ) : ACall Tryz.prog zhE [.box id 0, .box id2 0, .d (.int .i64 f), .d (.int .i64 view), .d (.int .i64 low), .d (.slice (zmR l))] σ K := by
  refine zo znZ rfl fun hl _ => s_r15_Above ?_
  have fin : ∀ z, zgu L G f view low low l = z → K (.d (.bool z)) σ := fun z h => h ▸ hK
  clear hK
  have hlen : (zmR l).length = l.length := List.length_map ..
  simp only [zmc]
  (repeat' (first | (refine gq2 hlen ?_; try with_reducible exact True.intro) | ((with_reducible refine And.intro ?_ ?_); focus (first | omega | rfl | decide | (simp; done)))))
  refine zU l.length (fun k vs s => ∃ last : Int, vs = [.d (.int .i64 last), .d (.int .i64 k)] ∧ s = σ ∧ low ≤ last ∧
      zgu L G f view low low l = zgu L G f view low last (l.drop k)) ⟨low, rfl, rfl, Int.le_refl _, by simp⟩ ?_
  rintro k vs s hk ⟨last, rfl, rfl, hlast, hpf⟩
  by_cases hlt : k < l.length
  · have hd : decide ((k : Int) < (l.length : Int)) = true := by simp; omega
    have hx : l[k]? = some l[k] := by simp [hlt]
    have hxs := hp _ (List.getElem_mem hlt)
    have hgx := zas (f := prepD) hx
    obtain ⟨p, hpe⟩ : ∃ p, l[k] = p := ⟨_, rfl⟩
    rw [hpe] at hx hgx hxs
    rw [znn hx] at hpf
    have hw : IntKind.i64.wrap ((k : Int) + 1) = ((k + 1 : Nat) : Int) := by rw [zad (by omega) (by omega)]; rfl
    (repeat' (first | (refine gq66 (gqc0 hd (gqc0 hgx hlen)) ?_; try with_reducible exact True.intro) | ((with_reducible refine And.intro ?_ ?_); focus (first | omega | rfl | decide | (simp; done)))))
    refine znj (p := p) hT hG hL hg hxs ?_
    cases g1 : prepF L G f p
    · (repeat' (first | (refine gq1 ?_; try with_reducible exact True.intro) | ((with_reducible refine And.intro ?_ ?_); focus (first | omega | rfl | decide | (simp; done)))))
      (first | refine zg (by simp [Low_d, dmT, dm, dm1, pack, zd, ze, zb]) hl ?_ | refine zf (by simp [Low_d, dmT, dm, dm1, pack, zd, ze, zb]) hl ?_)
      exact fin _ (by rw [hpf, g1]; rfl)
    have hsq := prepF_seq g1
    rw [g1, Bool.true_and] at hpf
    cases g2 : decide (p.view ≥ view)
    rotate_left
    · (repeat' (first | (refine gq66 (gqc0 g2 hgx) ?_; try with_reducible exact True.intro) | ((with_reducible refine And.intro ?_ ?_); focus (first | omega | rfl | decide | (simp; done)))))
      (first | refine zg (by simp [Low_d, dmT, dm, dm1, pack, zd, ze, zb]) hl ?_ | refine zf (by simp [Low_d, dmT, dm, dm1, pack, zd, ze, zb]) hl ?_)
      exact fin _ (by rw [hpf, g2]; rfl)
    cases g3 : decide (p.seq ≤ last)
    rotate_left
    · (repeat' (first | (refine gq66 (gqc0 g2 (gqc0 g3 hgx)) ?_; try with_reducible exact True.intro) | ((with_reducible refine And.intro ?_ ?_); focus (first | omega | rfl | decide | (simp; done)))))
      (first | refine zg (by simp [Low_d, dmT, dm, dm1, pack, zd, ze, zb]) hl ?_ | refine zf (by simp [Low_d, dmT, dm, dm1, pack, zd, ze, zb]) hl ?_)
      exact fin _ (by rw [hpf, g2, g3]; rfl)
    rw [g2, g3] at hpf
    simp only [Bool.not_false, Bool.true_and] at hpf
    have g3' : ¬ p.seq ≤ last := by simpa using g3
    have g4 : decide (p.seq ≤ low) = false := by simp; omega
    have hws : IntKind.i64.wrap (p.seq - 8) = p.seq - 8 := zad (by omega) (by omega)
    cases g5 : decide (p.seq - 8 > low)
    · rw [g5, Bool.not_false, Bool.true_and] at hpf
      (repeat' (first | (refine gq66 (gqc0 g2 (gqc0 g3 (gqc0 g4 (gqc0 hws (gqc0 g5 (gqc0 hw hgx)))))) ?_; try with_reducible exact True.intro) | ((with_reducible refine And.intro ?_ ?_); focus (first | omega | rfl | decide | (simp; done)))))
      exact Again.next hlt ⟨p.seq, rfl, rfl, by omega, hpf⟩
    · rw [g5] at hpf
      (repeat' (first | (refine gq66 (gqc0 g2 (gqc0 g3 (gqc0 g4 (gqc0 hws (gqc0 g5 (gqc0 hw hgx)))))) ?_; try with_reducible exact True.intro) | ((with_reducible refine And.intro ?_ ?_); focus (first | omega | rfl | decide | (simp; done)))))
      (first | refine zg (by simp [Low_d, dmT, dm, dm1, pack, zd, ze, zb]) hl ?_ | refine zf (by simp [Low_d, dmT, dm, dm1, pack, zd, ze, zb]) hl ?_)
      exact fin _ hpf
  · have hd : decide ((k : Int) < (l.length : Int)) = false := by simp; omega
    rw [List.drop_eq_nil_of_le (by omega)] at hpf
    (repeat' (first | (refine gq2 (gqc0 hd hlen) ?_; try with_reducible exact True.intro) | ((with_reducible refine And.intro ?_ ?_); focus (first | omega | rfl | decide | (simp; done)))))
    (first | refine zg (by simp [Low_d, dmT, dm, dm1, pack, zd, ze, zb]) hl ?_ | refine zf (by simp [Low_d, dmT, dm, dm1, pack, zd, ze, zb]) hl ?_)
    exact fin _ hpf
end Go.Proofs.YtcappjcojggehaaGreat
