/- Contracts: certificates that are kept. -/
import Derived.Test.YtcappjcojggehaaPr2
import Derived.Test.YtcappjcojggehaaSpMap
import Derived.Test.YtcappjcojggehaaOpS
set_option linter.all false
set_option maxRecDepth 100000
set_option linter.unusedSimpArgs false
set_option linter.unusedVariables false
namespace Go.Proofs.Ytcappjcojggehaa
open Go.AW

theorem c_clSign {σ : List AObj} {l : List TSign} (hn : l.length ≤ 1073741824) {K : AV → List AObj → Prop} (hK : K (.d (.slice (zaG l))) σ) : ACall Try.prog zaD [.d (.slice (zaG l))] σ K := by
  refine zu zcq rfl fun hl _ => zcB ?_
  have hlen : (zaG l).length = l.length := List.length_map ..
  have h2 : ∀ e ∈ zaG l, e.length = 2 := zmL (f := signD) (fun _ => rfl) l
  simp only [zba, zW, esOf]
  obtain ⟨es, hes⟩ : ∃ es, zaG l = es := ⟨_, rfl⟩
  rw [hes] at hlen h2 hK ⊢
  cases es with
  | nil =>
    refine ⟨?_, ?_⟩
    · (repeat' (first | (refine gq1 ?_; try with_reducible exact True.intro) | ((with_reducible refine And.intro ?_ ?_); focus (first | omega | rfl | decide | (simp; done)))))
      (first | refine zg (by simp [Low_d, dmT, dm, dm1, pack, zc, zd, zb]) hl ?_ | refine ze (by simp [Low_d, dmT, dm, dm1, pack, zc, zd, zb]) hl ?_)
      exact hK
    · (repeat' (first | (refine gq1 ?_; try with_reducible exact True.intro) | ((with_reducible refine And.intro ?_ ?_); focus (first | omega | rfl | decide | (simp; done)))))
      (first | refine zg (by simp [Low_d, dmT, dm, dm1, pack, zc, zd, zb]) hl ?_ | refine ze (by simp [Low_d, dmT, dm, dm1, pack, zc, zd, zb]) hl ?_)
      exact hK
  | cons e es =>
    simp only [zK, zp, consO, fillV, rep, zl, toDs, zX, zt, srcE]
    refine ⟨h2, by simp, by rw [hlen]; simp; omega, ?_⟩
    (first | refine zg (by simp [Low_d, dmT, dm, dm1, pack, zc, zd, zb]) hl ?_ | refine ze (by simp [Low_d, dmT, dm, dm1, pack, zc, zd, zb]) hl ?_)
    exact hK
theorem zid {σ : List AObj} {p : TPrep} (hp : zjq p) {K : AV → List AObj → Prop} (hK : K (prepA p) σ) : ACall Try.prog zbV [prepA p] σ K := by
  refine zu zhQ rfl fun hl _ => zjQ ?_
  simp only [zfk, prepA]
  (repeat' (first | (refine gq1 ?_; try with_reducible exact True.intro) | ((with_reducible refine And.intro ?_ ?_); focus (first | omega | rfl | decide | (simp; done)))))
  refine c_clSign hp.signs ?_
  (repeat' (first | (refine gq1 ?_; try with_reducible exact True.intro) | ((with_reducible refine And.intro ?_ ?_); focus (first | omega | rfl | decide | (simp; done)))))
  refine c_rqClone (b := p.batch) ⟨hp.batch, fun s hs => (sizes (hp.ops s hs)).2.2⟩ ?_
  (repeat' (first | (refine gq1 ?_; try with_reducible exact True.intro) | ((with_reducible refine And.intro ?_ ?_); focus (first | omega | rfl | decide | (simp; done)))))
  (first | refine zg (by simp [Low_d, dmT, dm, dm1, pack, zc, zd, zb]) hl ?_ | refine ze (by simp [Low_d, dmT, dm, dm1, pack, zc, zd, zb]) hl ?_)
  exact hK
/-- what is kept: of each number a certificate -/
def findP (s : Int) : List (Int × TPrep) → Nat → Option (Nat × TPrep)
  | [], _ => none
  | e :: r, i => if s = e.1 then some (i, e.2) else findP s r (i + 1)
abbrev hE (l : List (Int × TPrep)) : List (AV × AV) := ents (l.map fun e => (e.1, prepA e.2))
theorem zmQ (s : Int) : ∀ (l : List (Int × TPrep)) (i : Nat), mfind .int (.d (.int .i64 s)) (hE l) i = some ((findP s l i).map fun q => (q.1, prepA q.2))
  | [], _ => rfl
  | e :: r, i => by
    simp only [hE, ents, List.map_cons, mfind, keyEq, if_true, findP]
    by_cases h : s = e.1
    · simp [h]
    · have : (s == e.1) = false := by simpa using h
      simp only [this, if_neg h]
      exact zmQ s r (i + 1)
structure zjL (σ : List AObj) (h m : Nat) (l : List (Int × TPrep)) : Prop where
  box : σ[h]? = some (.box [.map m])
  map : σ[m]? = some (.map (hE l))
theorem zjL.app {σ : List AObj} {h m : Nat} {l : List (Int × TPrep)} (H : zjL σ h m l) (τ : List AObj) : zjL (σ ++ τ) h m l := ⟨zO H.box, zO H.map⟩
def inR (p : TPrep) : Bool := !(decide (p.seq < 1)) && !(decide (p.seq > 9007199254740992))
def hOk (l : List (Int × TPrep)) (p : TPrep) : Bool := match findP p.seq l 0 with
  | some q => !(decide (q.2.view ≥ p.view))
  | none => true
def hPut (l : List (Int × TPrep)) (p : TPrep) : List (Int × TPrep) := match findP p.seq l 0 with
  | some q => if q.2.view ≥ p.view then l else l.set q.1 (p.seq, p)
  | none => l ++ [(p.seq, p)]
def hGet (l : List (Int × TPrep)) (s : Int) : TPrep := match findP s l 0 with
  | some q => q.2
  | none => ⟨0, 0, 0, 0, 0, [], []⟩
theorem findP_mem {s : Int} : ∀ {l : List (Int × TPrep)} {i : Nat} {q : Nat × TPrep}, findP s l i = some q → ∃ e ∈ l, e.2 = q.2
  | [], _, _, h => by simp [findP] at h
  | e :: r, i, q, h => by
    simp only [findP] at h
    split at h
    · cases h; exact ⟨e, by simp, rfl⟩
    · obtain ⟨e', h1, h2⟩ := findP_mem h
      exact ⟨e', by simp [h1], h2⟩
theorem znh {σ : List AObj} {h m : Nat} {l : List (Int × TPrep)} (H : zjL σ h m l) {K : AV → List AObj → Prop} (hK : K (.d (.bool false)) σ) : ACall Try.prog zaM [.box h 0] σ K := by
  refine zu zfv rfl fun hl _ => zgC ?_
  have hb := H.box
  simp only [zdp]
  (repeat' (first | (refine gq2 hb ?_; try with_reducible exact True.intro) | ((with_reducible refine And.intro ?_ ?_); focus (first | omega | rfl | decide | (simp; done)))))
  (first | refine zg (by simp [Low_d, dmT, dm, dm1, pack, zc, zd, zb]) hl ?_ | refine ze (by simp [Low_d, dmT, dm, dm1, pack, zc, zd, zb]) hl ?_)
  exact hK
theorem c_heLen {σ : List AObj} {h m : Nat} {l : List (Int × TPrep)} (H : zjL σ h m l) {K : AV → List AObj → Prop} (hK : K (.d (.int .i64 l.length)) σ) : ACall Try.prog zbo [.box h 0] σ K := by
  refine zu zfN rfl fun hl _ => zha ?_
  have hb := H.box
  have hm := H.map
  have hlen : (hE l).length = l.length := by simp [hE, ents]
  simp only [zdJ]
  (repeat' (first | (refine gq1 ?_; try with_reducible exact True.intro) | ((with_reducible refine And.intro ?_ ?_); focus (first | omega | rfl | decide | (simp; done)))))
  refine znh H ?_
  (repeat' (first | (refine gq2 (gqc0 hb (gqc0 hm hlen)) ?_; try with_reducible exact True.intro) | ((with_reducible refine And.intro ?_ ?_); focus (first | omega | rfl | decide | (simp; done)))))
  (first | refine zg (by simp [Low_d, dmT, dm, dm1, pack, zc, zd, zb]) hl ?_ | refine ze (by simp [Low_d, dmT, dm, dm1, pack, zc, zd, zb]) hl ?_)
  exact hK
theorem c_heNew {σ : List AObj} {K : AV → List AObj → Prop} (hK : K (.box (σ.length + 1) 0) (σ ++ [.map (hE []), .box [.map σ.length]])) : ACall Try.prog zcP [] σ K := by
  refine zaN zkc rfl (fun s => List.range' σ.length 2) fun hl _ => zlx ?_
  simp only [zgT]
  (repeat' (first | (refine gq1 ?_; try with_reducible exact True.intro) | ((with_reducible refine And.intro ?_ ?_); focus (first | omega | rfl | decide | (simp; done)))))
  refine zcv (σ' := σ) (os := [.map (hE []), .box [.map σ.length]]) rfl rfl hl ?_ (.box _ _ (by simp)) hK
  intro x hx
  simp only [List.mem_cons, List.not_mem_nil, or_false] at hx
  rcases hx with rfl | rfl
  · intro e he
    simp [hE, ents] at he
  · intro c hc
    simp only [List.mem_cons, List.not_mem_nil, or_false] at hc
    subst hc
    exact .map _ (by simp)
theorem gq62 {A P Q : Prop} (a : A) (h : Q) (e : A → P = Q := by intro a; simp -dsimp only [↓zad, ↓loopL, ↓binC, ↓unC, ↓zK, ↓zB, ↓zC, ↓zD, ↓zM, ↓lenC, ↓slcC, ↓convC, ↓boxC, ↓zF, ↓loadC, ↓zo, ↓nilC, ↓zh, ↓zS, ↓zy, ↓idxSC, ↓idxAC, ↓zi, ↓zE, ↓zl, ↓zt, ↓zW, ↓maxC, ↓minC, ↓zY, ↓zac, ↓mgetC, ↓msetC, ↓mdelC, ↓zn, ↓zU, ↓zA, ↓zp, ↓zL, binA, intOp, strOp, unA, esOf, bnd, intV, zQ, fillV, srcE, dm, dm1, consO, cellA, maxL, minL, keepO, Q0, Q1, Q2, Q3, Q4, Q5, zJ, zm, zq, zw, zx, Q6, Q7, Q8, Q9, Q10, Q11, Q12, Q13, Q14, Nat.reduceAdd, Q15, Int.reduceToNat, Q16, Q17, Q18, Q19, Q20, reduceIte, Q21, Q22, zr, rep, zN, toDs, toD, zX, Q23, Q24, Q25, Q26, Q27, Q28, Nat.reduceLeDiff, Q29, Nat.reduceSub, Q30, Q31, Q32, sc, Q33, Q34, Q35, Q36, Q37, Q26, Q38, Q39, n0gt, n1gt, n2gt, n0eq, n1eq0, n1eq, n2eq, n0ne, n1ne, n1ne0, n0ne1, i0ne, i0eq, Bool.not_true, Bool.not_false, List.length_map, Option.map_none, zaQ, zbg, mgetC, mgetR, a]; rfl) : P := (e a).mpr h
theorem gq63 {A P Q : Prop} (a : A) (h : Q) (e : A → P = Q := by intro a; simp -dsimp only [↓zad, ↓loopL, ↓binC, ↓unC, ↓zK, ↓zB, ↓zC, ↓zD, ↓zM, ↓lenC, ↓slcC, ↓convC, ↓boxC, ↓zF, ↓loadC, ↓zo, ↓nilC, ↓zh, ↓zS, ↓zy, ↓idxSC, ↓idxAC, ↓zi, ↓zE, ↓zl, ↓zt, ↓zW, ↓maxC, ↓minC, ↓zY, ↓zac, ↓mgetC, ↓msetC, ↓mdelC, ↓zn, ↓zU, ↓zA, ↓zp, ↓zL, binA, intOp, strOp, unA, esOf, bnd, intV, zQ, fillV, srcE, dm, dm1, consO, cellA, maxL, minL, keepO, Q0, Q1, Q2, Q3, Q4, Q5, zJ, zm, zq, zw, zx, Q6, Q7, Q8, Q9, Q10, Q11, Q12, Q13, Q14, Nat.reduceAdd, Q15, Int.reduceToNat, Q16, Q17, Q18, Q19, Q20, reduceIte, Q21, Q22, zr, rep, zN, toDs, toD, zX, Q23, Q24, Q25, Q26, Q27, Q28, Nat.reduceLeDiff, Q29, Nat.reduceSub, Q30, Q31, Q32, sc, Q33, Q34, Q35, Q36, Q37, Q26, Q38, Q39, n0gt, n1gt, n2gt, n0eq, n1eq0, n1eq, n2eq, n0ne, n1ne, n1ne0, n0ne1, i0ne, i0eq, Bool.not_true, Bool.not_false, List.length_map, Option.map_some, zaQ, zbg, mgetC, mgetR, a]; rfl) : P := (e a).mpr h
theorem zkZ {σ : List AObj} {h m : Nat} {l : List (Int × TPrep)} {s : Int} (H : zjL σ h m l) (hl0 : ∀ e ∈ l, zjq e.2) {K : AV → List AObj → Prop} (hK : K (.tup [prepA (hGet l s), .d (.bool (findP s l 0).isSome)]) σ) :
    ACall Try.prog zcd [.box h 0, .d (.int .i64 s)] σ K := by
  refine zu zfO rfl fun hl _ => zhb ?_
  have hb : ∀ τ, (σ ++ τ)[h]? = some (.box [.map m]) := fun τ => zO H.box
  have hm : ∀ τ, (σ ++ τ)[m]? = some (.map (hE l)) := fun τ => zO H.map
  have hf := zmQ s l 0
  simp only [zdK]
  (repeat' (first | (refine gq1 ?_; try with_reducible exact True.intro) | ((with_reducible refine And.intro ?_ ?_); focus (first | omega | rfl | decide | (simp; done)))))
  refine znh (H.app _) ?_
  cases hq : findP s l 0 with
  | none =>
    rw [hq] at hf
    rw [hGet, hq] at hK
    (repeat' (first | (refine gq62 (gqc0 hb (gqc0 hm hf)) ?_; try with_reducible exact True.intro) | ((with_reducible refine And.intro ?_ ?_); focus (first | omega | rfl | decide | (simp; done)))))
    refine zid (p := ⟨0, 0, 0, 0, 0, [], []⟩) ⟨by simp, by simp, by simp⟩ ?_
    (repeat' (first | (refine gq1 ?_; try with_reducible exact True.intro) | ((with_reducible refine And.intro ?_ ?_); focus (first | omega | rfl | decide | (simp; done)))))
    (first | refine zg (by simp [Low_d, dmT, dm, dm1, pack, zc, zd, zb]) hl ?_ | refine ze (by simp [Low_d, dmT, dm, dm1, pack, zc, zd, zb]) hl ?_)
    exact hK
  | some q =>
    rw [hq] at hf
    rw [hGet, hq] at hK
    (repeat' (first | (refine gq63 (gqc0 hb (gqc0 hm hf)) ?_; try with_reducible exact True.intro) | ((with_reducible refine And.intro ?_ ?_); focus (first | omega | rfl | decide | (simp; done)))))
    obtain ⟨e, he, heq⟩ := findP_mem hq
    refine zid (p := q.2) (heq ▸ hl0 e he) ?_
    (repeat' (first | (refine gq1 ?_; try with_reducible exact True.intro) | ((with_reducible refine And.intro ?_ ?_); focus (first | omega | rfl | decide | (simp; done)))))
    (first | refine zg (by simp [Low_d, dmT, dm, dm1, pack, zc, zd, zb]) hl ?_ | refine ze (by simp [Low_d, dmT, dm, dm1, pack, zc, zd, zb]) hl ?_)
    exact hK
theorem hE_set (l : List (Int × TPrep)) (i : Nat) (p : TPrep) : (hE l).set i (.d (.int .i64 p.seq), prepA p) = hE (l.set i (p.seq, p)) := by
  simp only [hE, ents, List.map_set]
theorem hE_add (l : List (Int × TPrep)) (p : TPrep) : hE l ++ [(.d (.int .i64 p.seq), prepA p)] = hE (l ++ [(p.seq, p)]) := by simp [hE, ents]
theorem lowHE (n : Nat) (l : List (Int × TPrep)) : LowO n (.map (hE l)) := by
  intro e he
  simp only [hE, ents, List.map_map, List.mem_map] at he
  obtain ⟨x, _, rfl⟩ := he
  refine ⟨.d _, .agg _ fun c hc => ?_⟩
  simp only [List.mem_cons, List.not_mem_nil, or_false] at hc
  rcases hc with rfl | rfl | rfl | rfl | rfl | rfl | rfl <;> exact .d _
theorem gq64 {A P Q : Prop} (a : A) (h : Q) (e : A → P = Q := by intro a; simp -dsimp only [↓zad, ↓loopL, ↓binC, ↓unC, ↓zK, ↓zB, ↓zC, ↓zD, ↓zM, ↓lenC, ↓slcC, ↓convC, ↓boxC, ↓zF, ↓loadC, ↓zo, ↓nilC, ↓zh, ↓zS, ↓zy, ↓idxSC, ↓idxAC, ↓zi, ↓zE, ↓zl, ↓zt, ↓zW, ↓maxC, ↓minC, ↓zY, ↓zac, ↓mgetC, ↓msetC, ↓mdelC, ↓zn, ↓zU, ↓zA, ↓zp, ↓zL, binA, intOp, strOp, unA, esOf, bnd, intV, zQ, fillV, srcE, dm, dm1, consO, cellA, maxL, minL, keepO, Q0, Q1, Q2, Q3, Q4, Q5, zJ, zm, zq, zw, zx, Q6, Q7, Q8, Q9, Q10, Q11, Q12, Q13, Q14, Nat.reduceAdd, Q15, Int.reduceToNat, Q16, Q17, Q18, Q19, Q20, reduceIte, Q21, Q22, zr, rep, zN, toDs, toD, zX, Q23, Q24, Q25, Q26, Q27, Q28, Nat.reduceLeDiff, Q29, Nat.reduceSub, Q30, Q31, Q32, sc, Q33, Q34, Q35, Q36, Q37, Q26, Q38, Q39, n0gt, n1gt, n2gt, n0eq, n1eq0, n1eq, n2eq, n0ne, n1ne, n1ne0, n0ne1, i0ne, i0eq, Bool.not_true, Bool.not_false, List.length_map, Option.map_none, zbg, msetC, a]; rfl) : P := (e a).mpr h
theorem gq65 {A P Q : Prop} (a : A) (h : Q) (e : A → P = Q := by intro a; simp -dsimp only [↓zad, ↓loopL, ↓binC, ↓unC, ↓zK, ↓zB, ↓zC, ↓zD, ↓zM, ↓lenC, ↓slcC, ↓convC, ↓boxC, ↓zF, ↓loadC, ↓zo, ↓nilC, ↓zh, ↓zS, ↓zy, ↓idxSC, ↓idxAC, ↓zi, ↓zE, ↓zl, ↓zt, ↓zW, ↓maxC, ↓minC, ↓zY, ↓zac, ↓mgetC, ↓msetC, ↓mdelC, ↓zn, ↓zU, ↓zA, ↓zp, ↓zL, binA, intOp, strOp, unA, esOf, bnd, intV, zQ, fillV, srcE, dm, dm1, consO, cellA, maxL, minL, keepO, Q0, Q1, Q2, Q3, Q4, Q5, zJ, zm, zq, zw, zx, Q6, Q7, Q8, Q9, Q10, Q11, Q12, Q13, Q14, Nat.reduceAdd, Q15, Int.reduceToNat, Q16, Q17, Q18, Q19, Q20, reduceIte, Q21, Q22, zr, rep, zN, toDs, toD, zX, Q23, Q24, Q25, Q26, Q27, Q28, Nat.reduceLeDiff, Q29, Nat.reduceSub, Q30, Q31, Q32, sc, Q33, Q34, Q35, Q36, Q37, Q26, Q38, Q39, n0gt, n1gt, n2gt, n0eq, n1eq0, n1eq, n2eq, n0ne, n1ne, n1ne0, n0ne1, i0ne, i0eq, Bool.not_true, Bool.not_false, List.length_map, Option.map_some, zbg, msetC, a]; rfl) : P := (e a).mpr h
theorem c_hePut {σ : List AObj} {h m : Nat} {l : List (Int × TPrep)} {p : TPrep} (H : zjL σ h m l) (hp : zjq p) {K : AV → List AObj → Prop}
    (hK : K (.d (.bool (inR p && hOk l p))) (σ.set m (.map (hE (if inR p = true then hPut l p else l))))) :
    ACall Try.prog zaO [.box h 0, prepA p] σ K := by
  refine zu zfM rfl fun hl _ => zgZ ?_
  have hb : ∀ τ, (σ ++ τ)[h]? = some (.box [.map m]) := fun τ => zO H.box
  have hm : ∀ τ, (σ ++ τ)[m]? = some (.map (hE l)) := fun τ => zO H.map
  have hsm : ∀ τ X, (σ ++ τ).set m X = σ.set m X ++ τ := fun τ X => zbb H.map
  have hf := zmQ p.seq l 0
  have hsame : σ.set m (.map (hE l)) = σ := zaU H.map
  simp only [zdI, prepA]
  (repeat' (first | (refine gq1 ?_; try with_reducible exact True.intro) | ((with_reducible refine And.intro ?_ ?_); focus (first | omega | rfl | decide | (simp; done)))))
  refine znh (H.app _) ?_
  cases h1 : decide (p.seq < 1)
  rotate_left
  · simp only [inR, h1, Bool.not_true, Bool.false_and, Bool.false_eq_true, if_false, hsame] at hK
    (repeat' (first | (refine gq2 h1 ?_; try with_reducible exact True.intro) | ((with_reducible refine And.intro ?_ ?_); focus (first | omega | rfl | decide | (simp; done)))))
    (first | refine zg (by simp [Low_d, dmT, dm, dm1, pack, zc, zd, zb]) hl ?_ | refine ze (by simp [Low_d, dmT, dm, dm1, pack, zc, zd, zb]) hl ?_)
    exact hK
  cases h2 : decide (p.seq > 9007199254740992)
  rotate_left
  · simp only [inR, h2, Bool.not_true, Bool.and_false, Bool.false_and, Bool.false_eq_true, if_false, hsame] at hK
    (repeat' (first | (refine gq2 (gqc0 h1 h2) ?_; try with_reducible exact True.intro) | ((with_reducible refine And.intro ?_ ?_); focus (first | omega | rfl | decide | (simp; done)))))
    (first | refine zg (by simp [Low_d, dmT, dm, dm1, pack, zc, zd, zb]) hl ?_ | refine ze (by simp [Low_d, dmT, dm, dm1, pack, zc, zd, zb]) hl ?_)
    exact hK
  simp only [inR, h1, h2, Bool.not_false, Bool.true_and, if_true] at hK
  cases hq : findP p.seq l 0 with
  | none =>
    rw [hq] at hf
    simp only [hOk, hPut, hq] at hK
    (repeat' (first | (refine gq62 (gqc0 h1 (gqc0 h2 (gqc0 hb (gqc0 hm hf)))) ?_; try with_reducible exact True.intro) | ((with_reducible refine And.intro ?_ ?_); focus (first | omega | rfl | decide | (simp; done)))))
    refine zid (p := p) hp ?_
    (repeat' (first | (refine gq64 (gqc0 hb (gqc0 hm (gqc0 hf hsm))) ?_; try with_reducible exact True.intro) | ((with_reducible refine And.intro ?_ ?_); focus (first | omega | rfl | decide | (simp; done)))))
    rw [hE_add]
    exact ends_set (by simp [Low_d, dmT, dm, dm1, pack]) hl (lowHE _ _) hK
  | some q =>
    rw [hq] at hf
    simp only [hOk, hPut, hq] at hK
    cases h3 : decide (q.2.view ≥ p.view)
    · rw [h3, if_neg (by simpa using h3)] at hK
      (repeat' (first | (refine gq63 (gqc0 h1 (gqc0 h2 (gqc0 hb (gqc0 hm (gqc0 hf h3))))) ?_; try with_reducible exact True.intro) | ((with_reducible refine And.intro ?_ ?_); focus (first | omega | rfl | decide | (simp; done)))))
      refine zid (p := p) hp ?_
      (repeat' (first | (refine gq65 (gqc0 hb (gqc0 hm (gqc0 hf hsm))) ?_; try with_reducible exact True.intro) | ((with_reducible refine And.intro ?_ ?_); focus (first | omega | rfl | decide | (simp; done)))))
      rw [hE_set]
      exact ends_set (by simp [Low_d, dmT, dm, dm1, pack]) hl (lowHE _ _) hK
    · rw [h3, if_pos (by simpa using h3), hsame] at hK
      (repeat' (first | (refine gq63 (gqc0 h1 (gqc0 h2 (gqc0 hb (gqc0 hm (gqc0 hf h3))))) ?_; try with_reducible exact True.intro) | ((with_reducible refine And.intro ?_ ?_); focus (first | omega | rfl | decide | (simp; done)))))
      (first | refine zg (by simp [Low_d, dmT, dm, dm1, pack, zc, zd, zb]) hl ?_ | refine ze (by simp [Low_d, dmT, dm, dm1, pack, zc, zd, zb]) hl ?_)
      exact hK
end Go.Proofs.Ytcappjcojggehaa
