/- Operations: what the document says of them. No program in sight. -/
import Derived.Test.YtdgcepphjnoalaaGreatCl1
import Derived.Test.YtdgcepphjnoalaaGreatAwEnd
set_option linter.all false
namespace Go.AW

structure TOp where
  kind : Int
  topic : List UInt8
  group : List UInt8
  offset : Int
  recs : List (List UInt8)
deriving DecidableEq

def zeE (rs : List (List UInt8)) : List (List D) := rs.map fun r => [D.slice (bcs r)]
def opA (o : TOp) : AV := .agg [.d (.int .i64 o.kind), .d (.str o.topic), .d (.str o.group), .d (.int .i64 o.offset), .d (.slice (zeE o.recs))]
def noOp : TOp := ⟨0, [], [], 0, []⟩

theorem zC (rs : List (List UInt8)) : (zeE rs).length = rs.length := by simp [zeE]
theorem zhF {rs : List (List UInt8)} {k : Nat} {r : List UInt8} (h : rs[k]? = some r) : (zeE rs)[k]? = some [D.slice (bcs r)] := by simp [zeE, h]

def onlyF (o : TOp) : TOp :=
  if o.kind = 1 then { noOp with kind := o.kind, topic := o.topic }
  else if o.kind = 2 then { noOp with kind := o.kind, topic := o.topic, recs := o.recs }
  else if o.kind = 3 then { noOp with kind := o.kind, topic := o.topic, group := o.group, offset := o.offset }
  else if o.kind = 4 then { noOp with kind := o.kind, topic := o.topic, offset := o.offset }
  else { noOp with kind := o.kind }
def znD (o : TOp) : Bool := decide (0 ≤ o.kind ∧ o.kind ≤ 4)
def zdm (name : List UInt8 → Bool) (o : TOp) : Int :=
  if znD o = false ∨ o ≠ onlyF o then 60
  else if o.kind ≠ 0 ∧ name o.topic = false then 61
  else if o.kind = 3 ∧ name o.group = false then 61
  else if o.kind = 2 ∧ (o.recs.length < 1 ∨ o.recs.length > 4 ∨ o.recs.any (fun r => decide (r.length > 64)) = true) then 62
  else if o.offset < 0 ∨ o.offset > 9007199254740992 then 60
  else 0

def putB (x : List UInt8) : List UInt8 := zdC x.length ++ x
def znp (rs : List (List UInt8)) : List UInt8 := (rs.map putB).flatten
def opB (o : TOp) : List UInt8 :=
  zdC o.kind.toNat ++ ((if o.kind ≠ 0 then putB o.topic else []) ++
    (if o.kind = 2 then zdC o.recs.length ++ znp o.recs else if o.kind = 3 then putB o.group ++ zdC o.offset.toNat else if o.kind = 4 then zdC o.offset.toNat else []))
theorem opB_0 {o : TOp} (h : o.kind = 0) : opB o = zdC o.kind.toNat := by simp [opB, h]
theorem opB_1 {o : TOp} (h : o.kind = 1) : opB o = zdC o.kind.toNat ++ (zdC o.topic.length ++ o.topic) := by simp [opB, h, putB]
theorem opB_2 {o : TOp} (h : o.kind = 2) : opB o = zdC o.kind.toNat ++ (zdC o.topic.length ++ (o.topic ++ (zdC o.recs.length ++ znp o.recs))) := by simp [opB, h, putB]
theorem opB_3 {o : TOp} (h : o.kind = 3) : opB o = zdC o.kind.toNat ++ (zdC o.topic.length ++ (o.topic ++ (zdC o.group.length ++ (o.group ++ zdC o.offset.toNat)))) := by simp [opB, h, putB]
theorem opB_4 {o : TOp} (h : o.kind = 4) : opB o = zdC o.kind.toNat ++ (zdC o.topic.length ++ (o.topic ++ zdC o.offset.toNat)) := by simp [opB, h, putB]
def opSz (o : TOp) : Nat := o.topic.length + o.group.length + (o.recs.map fun r => r.length + 10).sum
theorem zqK {x : List UInt8} (h : x.length < 18446744073709551616) : (putB x).length ≤ x.length + 10 := by
  have := zP h
  simp only [putB, List.length_append]; omega
theorem zkh (rs : List (List UInt8)) (h : (rs.map fun r => r.length + 10).sum ≤ 1073741824) : ∀ k, (znp (rs.take k)).length ≤ (rs.map fun r => r.length + 10).sum := by
  have key : ∀ l : List (List UInt8), (l.map fun r => r.length + 10).sum ≤ 1073741824 → (znp l).length ≤ (l.map fun r => r.length + 10).sum := by
    intro l
    induction l with
    | nil => simp [znp]
    | cons r l ih =>
      intro h
      simp only [List.map_cons, List.sum_cons] at h ⊢
      have h1 := ih (by omega)
      have h2 := zqK (x := r) (by omega)
      simp only [znp, List.map_cons, List.flatten_cons, List.length_append] at h1 ⊢
      omega
  have sum_take : ∀ (l : List (List UInt8)) k, ((l.take k).map fun r => r.length + 10).sum ≤ (l.map fun r => r.length + 10).sum := by
    intro l
    induction l with
    | nil => simp
    | cons r l ih =>
      intro k
      cases k with
      | zero => simp
      | succ k => simp only [List.take_succ_cons, List.map_cons, List.sum_cons]; have := ih k; omega
  intro k
  have h1 := sum_take rs k
  have := key (rs.take k) (by omega)
  omega
theorem recsB_snoc {rs : List (List UInt8)} {k : Nat} {r : List UInt8} (h : rs[k]? = some r) : znp (rs.take (k + 1)) = znp (rs.take k) ++ putB r := by
  rw [List.take_add_one, h]; simp [znp]
theorem zkA (rs : List (List UInt8)) : rs.length ≤ (rs.map fun r => r.length + 10).sum := by
  induction rs with
  | nil => simp
  | cons r l ih => simp only [List.map_cons, List.sum_cons, List.length_cons]; omega
theorem rec_le {rs : List (List UInt8)} {r : List UInt8} (h : r ∈ rs) : r.length ≤ (rs.map fun r => r.length + 10).sum := by
  induction rs with
  | nil => cases h
  | cons x l ih =>
    simp only [List.map_cons, List.sum_cons]
    rcases List.mem_cons.1 h with rfl | h
    · omega
    · have := ih h; omega
theorem check_ok {name : List UInt8 → Bool} {o : TOp} (h : zdm name o = 0) : 0 ≤ o.kind ∧ o.kind ≤ 4 ∧ 0 ≤ o.offset ∧ o.offset ≤ 9007199254740992 ∧ o = onlyF o := by
  unfold zdm znD at h
  grind
theorem zeB {α : Type} {a b : List α} (hl : a.length = b.length) {k : Nat} (hk : k = a.length) (h : a.take k = b.take k) : a = b := by
  rw [hk, List.take_length, hl, List.take_length] at h
  exact h
theorem zdc {α : Type} {a b : List α} {k : Nat} {x y : α} (ha : a[k]? = some x) (hb : b[k]? = some y) (h : a.take k = b.take k) (e : x = y) : a.take (k + 1) = b.take (k + 1) := by
  rw [List.take_add_one, List.take_add_one, ha, hb, h, e]
end Go.AW

/- Contracts of operations: which are the same. -/
set_option maxRecDepth 100000
set_option linter.unusedSimpArgs false
namespace Go.Proofs.YtdgcepphjnoalaaGreat
open Go.AW

theorem gq4 {P Q : Prop} (h : Q) (e : P = Q := by simp -dsimp only [↓zgn, ↓zaG, ↓zca, ↓zgo, ↓zgh, ↓zgf, ↓zgi, ↓zgg, ↓zcf, ↓zcb, ↓zcg, ↓zcc, ↓zgj, ↓zbW, ↓zch, ↓zcd, ↓zci, ↓zce, ↓zge, ↓zgl, ↓zbV, ↓zck, ↓zgb, ↓zga, ↓zgd, iN, bT, bF, eN, ↓zds, ↓unC, ↓zX, ↓zJ, ↓zK, ↓zM, ↓zal, ↓zaV, ↓zdU, ↓zay, ↓zbD, ↓zR, ↓zi, ↓zg, ↓zbr, ↓zd, ↓zan, ↓zO, ↓zbf, ↓zbg, ↓zf, ↓zB, ↓zn, ↓zD, ↓zZ, ↓zeb, ↓zes, ↓zaq, ↓zaC, ↓zbe, ↓zbl, ↓zbG, ↓zp, ↓zao, ↓zL, ↓zr, ↓zaj, zen, zbP, zbL, unA, zdF, bnd, zeV, zaf, zac, zeF, dm, dm1, zQ, zaz, zfy, zfx, zI, Q0, Q1, Q2, Q3, Q4, Q5, zam, zw, zu, zN, zG, Q6, Q7, Q8, Q9, Q10, Q11, Q12, Q13, Q14, Nat.reduceAdd, Q15, Int.reduceToNat, Q16, Q17, Q18, Q19, Q20, reduceIte, Q21, Q22, zC, rep, zV, zfi, toD, zad, Q23, Q24, Q25, Q26, Q27, Q28, Nat.reduceLeDiff, Q29, Nat.reduceSub, Q30, Q31, Q32, sc, Q33, Q34, Q35]; rfl) : P := e.mpr h
theorem c_only {σ : List zc} {o : TOp} {K : AV → List zc → Prop} (hK : K (.tup [opA (onlyF o), .d (.bool (znD o))]) σ) : zl Tryz.prog zoe [opA o] σ K := by
  refine zfT e_op_only fun hl => ?_
  simp only [S_op_only, iN, bT, bF, eN, zl1, opA]
  (repeat' (first | (refine gq4 ?_; try with_reducible exact True.intro) | (refine zbh (fun h => ?_) (fun h => ?_) <;> (try rw [h])) | ((with_reducible refine And.intro ?_ ?_); focus (first | omega | rfl | decide))))

  all_goals refine zap hl ?_
  all_goals simp only [beq_iff_eq, beq_eq_false_iff_ne, ne_eq] at *
  all_goals simp_all [zdg, dmT, dm, dm1, onlyF, noOp, opA, znD, zeE]
  have e : (decide (0 ≤ o.kind) && decide (o.kind ≤ 4)) = false := by simp; omega
  rw [e] at hK
  exact hK
theorem gq5 {P Q : Prop} (h : Q) (e : P = Q := by simp -dsimp only [↓zgn, ↓zaG, ↓zca, ↓zgo, ↓zgh, ↓zgf, ↓zgi, ↓zgg, ↓zcf, ↓zcb, ↓zcg, ↓zcc, ↓zgj, ↓zbW, ↓zch, ↓zcd, ↓zci, ↓zce, ↓zge, ↓zgl, ↓zbV, ↓zck, ↓zgb, ↓zga, ↓zgd, iN, bT, bF, eN, ↓zds, ↓unC, ↓zX, ↓zJ, ↓zK, ↓zM, ↓zal, ↓zaV, ↓zdU, ↓zay, ↓zbD, ↓zR, ↓zi, ↓zg, ↓zbr, ↓zd, ↓zan, ↓zO, ↓zbf, ↓zbg, ↓zf, ↓zB, ↓zn, ↓zD, ↓zZ, ↓zeb, ↓zes, ↓zaq, ↓zaC, ↓zbe, ↓zbl, ↓zbG, ↓zp, ↓zao, ↓zL, ↓zr, ↓zaj, zen, zbP, zbL, unA, zdF, bnd, zeV, zaf, zac, zeF, dm, dm1, zQ, zaz, zfy, zfx, zI, Q0, Q1, Q2, Q3, Q4, Q5, zam, zw, zu, zN, zG, Q6, Q7, Q8, Q9, Q10, Q11, Q12, Q13, Q14, Nat.reduceAdd, Q15, Int.reduceToNat, Q16, Q17, Q18, Q19, Q20, reduceIte, Q21, Q22, zoT, zC]; rfl) : P := e.mpr h
theorem c_Same_1 {σ : List zc} {a b : List UInt8} {K : AV → List zc → Prop} (hK : K (.d (.bool (a == b))) σ) : zl Tryz.prog zik [.d (.slice (bcs a)), .d (.slice (bcs b))] σ K := by
  refine zjc e_op_Same_1 fun hl => ?_
  (refine gq5 ?_; try with_reducible exact True.intro)
  refine ziz ?_
  refine zap hl ?_
  exact hK
theorem zj {A B : Prop} (a : A) (b : B) : A ∧ B := ⟨a, b⟩
theorem gq6 {P Q : Prop} (h : Q) (e : P = Q := by simp -dsimp only [↓zgn, ↓zaG, ↓zca, ↓zgo, ↓zgh, ↓zgf, ↓zgi, ↓zgg, ↓zcf, ↓zcb, ↓zcg, ↓zcc, ↓zgj, ↓zbW, ↓zch, ↓zcd, ↓zci, ↓zce, ↓zge, ↓zgl, ↓zbV, ↓zck, ↓zgb, ↓zga, ↓zgd, iN, bT, bF, eN, ↓zds, ↓unC, ↓zX, ↓zJ, ↓zK, ↓zM, ↓zal, ↓zaV, ↓zdU, ↓zay, ↓zbD, ↓zR, ↓zi, ↓zg, ↓zbr, ↓zd, ↓zan, ↓zO, ↓zbf, ↓zbg, ↓zf, ↓zB, ↓zn, ↓zD, ↓zZ, ↓zeb, ↓zes, ↓zaq, ↓zaC, ↓zbe, ↓zbl, ↓zbG, ↓zp, ↓zao, ↓zL, ↓zr, ↓zaj, zen, zbP, zbL, unA, zdF, bnd, zeV, zaf, zac, zeF, dm, dm1, zQ, zaz, zfy, zfx, zI, Q0, Q1, Q2, Q3, Q4, Q5, zam, zw, zu, zN, zG, Q6, Q7, Q8, Q9, Q10, Q11, Q12, Q13, Q14, Nat.reduceAdd, Q15, Int.reduceToNat, Q16, Q17, Q18, Q19, Q20, reduceIte, Q21, Q22, zat, zC]; rfl) : P := e.mpr h
theorem gq7 {A P Q : Prop} (a : A) (h : Q) (e : A → P = Q := by intro a; simp -dsimp only [↓zgn, ↓zaG, ↓zca, ↓zgo, ↓zgh, ↓zgf, ↓zgi, ↓zgg, ↓zcf, ↓zcb, ↓zcg, ↓zcc, ↓zgj, ↓zbW, ↓zch, ↓zcd, ↓zci, ↓zce, ↓zge, ↓zgl, ↓zbV, ↓zck, ↓zgb, ↓zga, ↓zgd, iN, bT, bF, eN, ↓zds, ↓unC, ↓zX, ↓zJ, ↓zK, ↓zM, ↓zal, ↓zaV, ↓zdU, ↓zay, ↓zbD, ↓zR, ↓zi, ↓zg, ↓zbr, ↓zd, ↓zan, ↓zO, ↓zbf, ↓zbg, ↓zf, ↓zB, ↓zn, ↓zD, ↓zZ, ↓zeb, ↓zes, ↓zaq, ↓zaC, ↓zbe, ↓zbl, ↓zbG, ↓zp, ↓zao, ↓zL, ↓zr, ↓zaj, zen, zbP, zbL, unA, zdF, bnd, zeV, zaf, zac, zeF, dm, dm1, zQ, zaz, zfy, zfx, zI, Q0, Q1, Q2, Q3, Q4, Q5, zam, zw, zu, zN, zG, Q6, Q7, Q8, Q9, Q10, Q11, Q12, Q13, Q14, Nat.reduceAdd, Q15, Int.reduceToNat, Q16, Q17, Q18, Q19, Q20, reduceIte, Q21, Q22, zC, a]; rfl) : P := (e a).mpr h
theorem gq8 {P Q : Prop} (h : Q) (e : P = Q := by simp -dsimp only [↓zgn, ↓zaG, ↓zca, ↓zgo, ↓zgh, ↓zgf, ↓zgi, ↓zgg, ↓zcf, ↓zcb, ↓zcg, ↓zcc, ↓zgj, ↓zbW, ↓zch, ↓zcd, ↓zci, ↓zce, ↓zge, ↓zgl, ↓zbV, ↓zck, ↓zgb, ↓zga, ↓zgd, iN, bT, bF, eN, ↓zds, ↓unC, ↓zX, ↓zJ, ↓zK, ↓zM, ↓zal, ↓zaV, ↓zdU, ↓zay, ↓zbD, ↓zR, ↓zi, ↓zg, ↓zbr, ↓zd, ↓zan, ↓zO, ↓zbf, ↓zbg, ↓zf, ↓zB, ↓zn, ↓zD, ↓zZ, ↓zeb, ↓zes, ↓zaq, ↓zaC, ↓zbe, ↓zbl, ↓zbG, ↓zp, ↓zao, ↓zL, ↓zr, ↓zaj, zen, zbP, zbL, unA, zdF, bnd, zeV, zaf, zac, zeF, dm, dm1, zQ, zaz, zfy, zfx, zI, Q0, Q1, Q2, Q3, Q4, Q5, zam, zw, zu, zN, zG, Q6, Q7, Q8, Q9, Q10, Q11, Q12, Q13, Q14, Nat.reduceAdd, Q15, Int.reduceToNat, Q16, Q17, Q18, Q19, Q20, reduceIte, Q21, Q22, zC]; rfl) : P := e.mpr h
theorem gq9 {A P Q : Prop} (a : A) (h : Q) (e : A → P = Q := by intro a; simp -dsimp only [↓zgn, ↓zaG, ↓zca, ↓zgo, ↓zgh, ↓zgf, ↓zgi, ↓zgg, ↓zcf, ↓zcb, ↓zcg, ↓zcc, ↓zgj, ↓zbW, ↓zch, ↓zcd, ↓zci, ↓zce, ↓zge, ↓zgl, ↓zbV, ↓zck, ↓zgb, ↓zga, ↓zgd, iN, bT, bF, eN, ↓zds, ↓unC, ↓zX, ↓zJ, ↓zK, ↓zM, ↓zal, ↓zaV, ↓zdU, ↓zay, ↓zbD, ↓zR, ↓zi, ↓zg, ↓zbr, ↓zd, ↓zan, ↓zO, ↓zbf, ↓zbg, ↓zf, ↓zB, ↓zn, ↓zD, ↓zZ, ↓zeb, ↓zes, ↓zaq, ↓zaC, ↓zbe, ↓zbl, ↓zbG, ↓zp, ↓zao, ↓zL, ↓zr, ↓zaj, zen, zbP, zbL, unA, zdF, bnd, zeV, zaf, zac, zeF, dm, dm1, zQ, zaz, zfy, zfx, zI, Q0, Q1, Q2, Q3, Q4, Q5, zam, zw, zu, zN, zG, Q6, Q7, Q8, Q9, Q10, Q11, Q12, Q13, Q14, Nat.reduceAdd, Q15, Int.reduceToNat, Q16, Q17, Q18, Q19, Q20, reduceIte, Q21, Q22, Int.toNat_natCast, zC, a]; rfl) : P := (e a).mpr h
theorem gq10 {P Q : Prop} (h : Q) (e : P = Q := by simp -dsimp only [↓zgn, ↓zaG, ↓zca, ↓zgo, ↓zgh, ↓zgf, ↓zgi, ↓zgg, ↓zcf, ↓zcb, ↓zcg, ↓zcc, ↓zgj, ↓zbW, ↓zch, ↓zcd, ↓zci, ↓zce, ↓zge, ↓zgl, ↓zbV, ↓zck, ↓zgb, ↓zga, ↓zgd, iN, bT, bF, eN, ↓zds, ↓unC, ↓zX, ↓zJ, ↓zK, ↓zM, ↓zal, ↓zaV, ↓zdU, ↓zay, ↓zbD, ↓zR, ↓zi, ↓zg, ↓zbr, ↓zd, ↓zan, ↓zO, ↓zbf, ↓zbg, ↓zf, ↓zB, ↓zn, ↓zD, ↓zZ, ↓zeb, ↓zes, ↓zaq, ↓zaC, ↓zbe, ↓zbl, ↓zbG, ↓zp, ↓zao, ↓zL, ↓zr, ↓zaj, zen, zbP, zbL, unA, zdF, bnd, zeV, zaf, zac, zeF, dm, dm1, zQ, zaz, zfy, zfx, zI, Q0, Q1, Q2, Q3, Q4, Q5, zam, zw, zu, zN, zG, Q6, Q7, Q8, Q9, Q10, Q11, Q12, Q13, Q14, Nat.reduceAdd, Q15, Int.reduceToNat, Q16, Q17, Q18, Q19, Q20, reduceIte, Q21, Q22, zaj, zC]; rfl) : P := e.mpr h
theorem zlH {σ : List zc} {a b : List (List UInt8)} (ha : a.length ≤ 1073741824) (hb : b.length ≤ 1073741824) {K : AV → List zc → Prop} (hK : K (.d (.bool (a == b))) σ) :
    zl Tryz.prog zT [.d (.slice (zeE a)), .d (.slice (zeE b)), .fn (.func zik) [] []] σ K := by
  refine acE3 zbs fun hl => ?_
  (refine gq6 ?_; try with_reducible exact True.intro)
  refine zbh (fun h => ?_) (fun h => ?_)
  all_goals (try (refine gq7 h ?_; try with_reducible exact True.intro))
  · refine zap hl ?_
    have : (a == b) = false := by
      rw [beq_eq_false_iff_ne]
      rintro rfl
      simp at h
    rw [this] at hK; exact hK
  have hl2 : a.length = b.length := by simp at h; omega
  refine zae a.length (fun k vs s => vs = [.d (.int .i64 k)] ∧ s = σ ∧ a.take k = b.take k) ⟨rfl, rfl, by simp⟩ ?_
  rintro k vs s hk ⟨rfl, rfl, htk⟩
  (refine gq8 ?_; try with_reducible exact True.intro)
  refine zbh (fun h => ?_) (fun h => ?_)
  all_goals (try (refine gq7 h ?_; try with_reducible exact True.intro))
  · have hka : k < a.length := by simp at h; omega
    have hx : a[k]? = some a[k] := by simp [hka]
    have hy : b[k]? = some (b[k]'(by omega)) := List.getElem?_eq_getElem _
    (refine gq9 (zj (zhF hx) (zhF hy)) ?_; try with_reducible exact True.intro)
    refine ⟨by omega, by omega, c_Same_1 ?_⟩
    (refine gq10 ?_; try with_reducible exact True.intro)
    refine zbh (fun h => ?_) (fun h => ?_)
    all_goals (try (refine gq7 h ?_; try with_reducible exact True.intro))
    · refine zdE.next hka ⟨?_, rfl, zdc hx hy htk (by simpa using h)⟩
      rw [zdf (by omega) (by omega)]; rfl
    · refine zap hl ?_
      have : (a == b) = false := by
        rw [beq_eq_false_iff_ne]
        rintro rfl
        simp at h
      rw [this] at hK; exact hK
  · refine zap hl ?_
    have : (a == b) = true := by
      rw [beq_iff_eq]
      exact zeB hl2 (k := k) (by simp at h; omega) htk
    rw [this] at hK; exact hK
theorem c_Same {σ : List zc} {a b : TOp} (ha : a.recs.length ≤ 1073741824) (hb : b.recs.length ≤ 1073741824) {K : AV → List zc → Prop} (hK : K (.d (.bool (decide (a = b)))) σ) : zl Tryz.prog zlo [opA a, opA b] σ K := by
  refine zjc e_op_Same fun hl => ?_
  simp only [S_op_Same, iN, bT, bF, eN, opA]
  repeat' first
    | (refine gq4 ?_; try with_reducible exact True.intro)
    | (refine zbh (fun h => ?_) (fun h => ?_) <;> (try rw [h]))
    | refine zlH ha hb ?_
  all_goals refine zap hl ?_
  all_goals simp only [beq_iff_eq, beq_eq_false_iff_ne, ne_eq] at *
  · have e : decide (a = b) = (a.recs == b.recs) := by
      rw [Bool.eq_iff_iff]
      cases a; cases b
      simp_all
    rw [e] at hK; exact hK
  all_goals
    have e : decide (a = b) = false := by
      cases a; cases b
      simp_all
    rw [e] at hK; exact hK
end Go.Proofs.YtdgcepphjnoalaaGreat
