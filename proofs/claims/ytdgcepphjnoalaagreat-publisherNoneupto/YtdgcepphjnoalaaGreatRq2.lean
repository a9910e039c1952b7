/- Contracts: the bytes of requests, signatures and batches. -/
import Derived.Test.YtdgcepphjnoalaaGreatRd1
import Derived.Test.YtdgcepphjnoalaaGreatRq1
import Derived.Test.YtdgcepphjnoalaaGreatSpTab
import Derived.Test.YtdgcepphjnoalaaGreatSm5
import Derived.Test.YtdgcepphjnoalaaGreatCk1
set_option linter.all false
set_option maxRecDepth 100000
set_option linter.unusedSimpArgs false
set_option linter.unusedVariables false
namespace Go.Proofs.YtdgcepphjnoalaaGreat
open Go.AW

def keyF (c : Int) : Int := if c < 0 ∨ c ≥ 8 then -1 else 13 + c
theorem c_rqKey {σ : List zc} {c : Int} {K : AV → List zc → Prop} (hK : K (.d (.int .i64 (keyF c))) σ) : zl Tryz.prog zij [.d (.int .i64 c)] σ K := by
  refine zfT zqX fun hl => ?_
  simp only [zlM, iN, bT, bF, eN]
  (repeat' (first | (refine gq4 ?_; try with_reducible exact True.intro) | (refine zbh (fun h => ?_) (fun h => ?_) <;> (try rw [h])) | ((with_reducible refine And.intro ?_ ?_); focus (first | omega | rfl | decide))))
  all_goals (
    refine zap hl ?_
    (try simp only [decide_eq_true_eq, decide_eq_false_iff_not, beq_iff_eq, beq_eq_false_iff_ne, bne_iff_ne, ne_eq, Bool.not_eq_true', Bool.not_eq_false', bne_eq_false_iff_eq] at *)
    unfold keyF at hK)
  · rw [if_pos (by omega)] at hK; exact hK
  · rw [if_pos (by omega)] at hK; exact hK
  · rw [if_neg (by omega)] at hK; rw [zdf (by omega) (by omega)]; exact hK
theorem sizes {x : zt} (h : opSz x.op ≤ 20971520) : okO x.op := by
  have h0 := h
  unfold opSz at h
  refine ⟨by omega, by omega, ?_, fun r hr => ?_⟩
  · have := zkA x.op.recs; omega
  · have := rec_le hr; omega
theorem gq27 {A P Q : Prop} (a : A) (h : Q) (e : A → Hd Q → P := by intro a h; (repeat' first | simp -dsimp only [↓zgn, ↓zaG, ↓zca, ↓zgo, ↓zgh, ↓zgf, ↓zgi, ↓zgg, ↓zcf, ↓zcb, ↓zcg, ↓zcc, ↓zgj, ↓zbW, ↓zch, ↓zcd, ↓zci, ↓zce, ↓zge, ↓zgl, ↓zbV, ↓zck, ↓zgb, ↓zga, ↓zgd, iN, bT, bF, eN, ↓zds, ↓unC, ↓zX, ↓zJ, ↓zK, ↓zM, ↓zal, ↓zaV, ↓zdU, ↓zay, ↓zbD, ↓zR, ↓zi, ↓zg, ↓zbr, ↓zd, ↓zan, ↓zO, ↓zbf, ↓zbg, ↓zf, ↓zB, ↓zn, ↓zD, ↓zZ, ↓zeb, ↓zes, ↓zaq, ↓zaC, ↓zbe, ↓zbl, ↓zbG, ↓zp, ↓zao, ↓zL, ↓zr, ↓zaj, zen, zbP, zbL, unA, zdF, bnd, zeV, zaf, zac, zeF, dm, dm1, zQ, zaz, zfy, zfx, zI, Q0, Q1, Q2, Q3, Q4, Q5, zam, zw, zu, zN, zG, Q6, Q7, Q8, Q9, Q10, Q11, Q12, Q13, Q14, Nat.reduceAdd, Q15, Int.reduceToNat, Q16, Q17, Q18, Q19, Q20, reduceIte, Q21, Q22, zC, rep, zV, zfi, toD, zad, Q23, Q24, Q25, Q26, Q27, Q28, Nat.reduceLeDiff, Q29, Nat.reduceSub, Q30, Q31, Q32, sc, Q33, Q34, Q35, Q36, Q37, Q26, Q38, Q39, zmU, zmR, zmO, zmV, zfD, zmS, zmP, zmT, zmQ, zfC, zfE, zmY, zmZ, Bool.not_true, Bool.not_false, List.length_map, a] | with_reducible refine zni ?_ | fail); exact h.go) : P := e a ⟨h⟩
theorem c_rqBytes {σ : List zc} {x : zt} (hx : opSz x.op ≤ 20971520) {K : AV → List zc → Prop} (hK : K (.tup [.d (.slice (bcs (zlh x))), .d (.int .i64 (zaA x))]) σ) : zl Tryz.prog zgB [reqA x] σ K := by
  refine zfT zoz fun hl => ?_
  have hsz := sizes hx
  simp only [zjC, iN, bT, bF, eN, reqA]
  refine zaP ?_
  refine c_rqCheck (x := x) hsz ?_
  by_cases hc : zaA x = 0
  · obtain ⟨c0, c8, t1, t2, ho⟩ := req_ok hc
    have hb : (zaA x != 0) = false := by simpa using hc
    have n1 := zP (n := x.client.toNat) (by omega)
    have n2 := zP (n := x.time.toNat) (by omega)
    have w1 : IntKind.u64.wrap x.client = ((x.client.toNat : Nat) : Int) := by
      rw [show x.client = ((x.client.toNat : Nat) : Int) by omega, zho (by omega)]; rfl
    have w2 : IntKind.u64.wrap x.time = ((x.time.toNat : Nat) : Int) := by
      rw [show x.time = ((x.time.toNat : Nat) : Int) by omega, zho (by omega)]; rfl
    rw [hc, zlh, if_pos hc] at hK
    refine gq27 (zj hb (zj w1 w2)) ?_
    refine zdS (b := []) (by omega) (by simp) ?_
    refine gq27 (zj w1 w2) ?_
    refine zdS (by omega) (by first | omega | (simp; omega)) ?_
    refine gq27 (zj w1 w2) ?_
    refine c_Put (o := x.op) (by first | omega | (simp; omega)) (by omega) ?_
    refine zaP ?_
    refine zap hl ?_
    rw [if_pos ho]
    exact hK
  · have hb : (zaA x != 0) = true := by simpa using hc
    rw [zlh, if_neg hc] at hK
    refine gq27 hb ?_
    refine zap hl ?_
    exact hK
end Go.Proofs.YtdgcepphjnoalaaGreat

/- Requests, signatures and batches, as they are read. No program in sight. -/
set_option linter.unusedSimpArgs false
set_option linter.unusedVariables false
namespace Go.AW

def nilRq : zt := ⟨0, 0, noOp, 0, 0⟩
def doneE (s : Rd) : Int := if s.e = 0 ∧ 0 < s.b.length then 12 else s.e
def lateE (e : Int) (t : Nat) : Int := if e = 0 ∧ t = 0 then 80 else e
def pickR (f : Int) (x : zt) : zt := if f = 0 then x else nilRq
def signZ (c : Bool) (d : Nat × Rd) : Rd := if d.2.e = 0 ∧ d.1 = 0 then d.2.fail c 81 else d.2
def reqP (c : Bool) (b : List UInt8) : zt × Int :=
  let k := zlU c 7 ⟨b, 0⟩
  let t := zlU c 9007199254740992 k.2
  let o := zlZ c zjk t.2
  let f := lateE (doneE o.2) t.1
  (pickR f ⟨k.1, t.1, o.1, 0, 0⟩, f)
def signP (c : Bool) (s : Rd) : (Nat × Nat) × Rd :=
  let k := zlU c 20 s
  let d := zlU c 9007199254740992 k.2
  let z := signZ c d
  (if z.e = 0 then (k.1, d.1) else (0, 0), z)
def oneP (c : Bool) (s : Rd) : zt × Rd :=
  let b := zhQ c 1024 s
  let x := reqP c b.1
  let g := signP c (b.2.fail c x.2)
  (⟨x.1.client, x.1.time, x.1.op, g.1.1, g.1.2⟩, g.2)
def zki (c : Bool) : Nat → Rd → List zt × Rd
  | 0, s => ([], s)
  | k + 1, s => ((zki c k s).1 ++ [(oneP c (zki c k s).2).1], (oneP c (zki c k s).2).2)
def batchP (c : Bool) (s : Rd) : List zt × Rd :=
  let n := zlU c 4 s
  let p := zki c n.1 n.2
  let z := p.2.fail c (zbB p.1)
  (if z.e = 0 then p.1 else [], z)

theorem Rd.like.refl (s : Rd) : s.like s := ⟨rfl, fun _ => rfl⟩
theorem done_like {s t : Rd} (h : s.like t) : doneE s = doneE t := by
  unfold doneE
  obtain ⟨h1, h2⟩ := h
  by_cases h0 : s.e = 0
  · rw [h2 h0, h1]
  · rw [if_neg (fun g => h0 g.1), if_neg (fun g => h0 (h1 ▸ g.1)), h1]
theorem reqP_like (c d : Bool) (b : List UInt8) : reqP c b = reqP d b := by
  obtain ⟨k1, k2⟩ := (Rd.like.refl ⟨b, 0⟩).num (c := c) (d := d) (m := 7)
  obtain ⟨t1, t2⟩ := k2.num (c := c) (d := d) (m := 9007199254740992)
  obtain ⟨o1, o2⟩ := t2.takeOp (c := c) (d := d) (name := zjk)
  have e := done_like o2
  unfold reqP
  simp only
  rw [e, t1, k1, o1]
theorem Rd.like.sign {s t : Rd} {c d : Bool} (h : s.like t) : (signP c s).1 = (signP d t).1 ∧ (signP c s).2.like (signP d t).2 := by
  obtain ⟨k1, k2⟩ := h.num (c := c) (d := d) (m := 20)
  obtain ⟨t1, t2⟩ := k2.num (c := c) (d := d) (m := 9007199254740992)
  have z := t2.fail (c := c) (d := d) (x := 81)
  have hz : (signZ c (zlU c 9007199254740992 (zlU c 20 s).2)).like (signZ d (zlU d 9007199254740992 (zlU d 20 t).2)) := by
    unfold signZ
    rw [← t1, ← t2.1]
    split
    · exact z
    · exact t2
  unfold signP
  simp only
  rw [← k1, ← t1, ← hz.1]
  exact ⟨rfl, hz⟩
theorem Rd.like.one {s t : Rd} {c d : Bool} (h : s.like t) : (oneP c s).1 = (oneP d t).1 ∧ (oneP c s).2.like (oneP d t).2 := by
  obtain ⟨b1, b2⟩ := h.bytes (c := c) (d := d) (m := 1024)
  have e := reqP_like c d (zhQ c 1024 s).1
  have f := b2.fail (c := c) (d := d) (x := (reqP c (zhQ c 1024 s).1).2)
  obtain ⟨g1, g2⟩ := f.sign (c := c) (d := d)
  unfold oneP
  simp only
  rw [← b1, ← e, ← g1]
  exact ⟨rfl, g2⟩
theorem Rd.like.items {s t : Rd} {c d : Bool} (h : s.like t) : ∀ k, (zki c k s).1 = (zki d k t).1 ∧ (zki c k s).2.like (zki d k t).2
  | 0 => ⟨rfl, h⟩
  | k + 1 => by
    obtain ⟨a, b⟩ := Rd.like.items h (c := c) (d := d) k
    obtain ⟨e1, e2⟩ := b.one (c := c) (d := d)
    exact ⟨by simp only [zki, a, e1], e2⟩
theorem Rd.like.batch {s t : Rd} {c d : Bool} (h : s.like t) : (batchP c s).1 = (batchP d t).1 ∧ (batchP c s).2.like (batchP d t).2 := by
  obtain ⟨n1, n2⟩ := h.num (c := c) (d := d) (m := 4)
  obtain ⟨p1, p2⟩ := n2.items (c := c) (d := d) (zlU c 4 s).1
  have z := p2.fail (c := c) (d := d) (x := zbB (zki c (zlU c 4 s).1 (zlU c 4 s).2).1)
  unfold batchP
  simp only
  rw [← n1, ← p1, ← z.1]
  exact ⟨rfl, z⟩

/-! a reader that is stuck zld -/
end Go.AW

/- Contracts: requests, signatures and batches are read. -/
set_option maxRecDepth 100000
set_option linter.unusedSimpArgs false
set_option linter.unusedVariables false
namespace Go.Proofs.YtdgcepphjnoalaaGreat
open Go.AW


theorem c_PutSignO {σ : List zc} {b : List UInt8} {k d : Int} (hb : b.length ≤ 1073741700) (hc : zaF k d = 0) {K : AV → List zc → Prop} (hK : K (.own σ.length (bcs (b ++ signB k d))) (σ ++ [.tok 1 (b ++ signB k d).length])) :
    zl Tryz.prog zfk [.d (.slice (bcs b)), .agg [.d (.int .i64 k), .d (.int .i64 d)]] σ K := by
  refine zbN zhM.is rfl (fun s => [s.length - 1]) fun hl _ => zhM.goes ?_
  obtain ⟨k0, k1, d0, d1⟩ := sign_ok hc
  have hq : (zaF k d != 0) = false := by simpa using hc
  have n1 := zP (n := k.toNat) (by omega)
  have w1 : IntKind.u64.wrap k = ((k.toNat : Nat) : Int) := by
    rw [show k = ((k.toNat : Nat) : Int) by omega, zho (by omega)]; rfl
  have w2 : IntKind.u64.wrap d = ((d.toNat : Nat) : Int) := by
    rw [show d = ((d.toNat : Nat) : Int) by omega, zho (by omega)]; rfl
  simp only [zhU, iN, bT, bF, eN]
  refine zaP ?_
  refine zlE ?_
  refine gq27 (zj hq (zj w1 w2)) ?_
  refine zdS (by omega) (by omega) ?_
  refine gq27 (zj w1 w2) ?_
  refine zdS (by omega) (by simp; omega) ?_
  refine zaP ?_
  refine zov (t := σ.length + 2) (sz := 1) (n := (b ++ signB k d).length) (by simp) hl (by omega) ?_ ?_
  · rw [zw]; simp [signB, Nat.add_assoc]
  · exact hK
end Go.Proofs.YtdgcepphjnoalaaGreat

/- The bytes of view-changes and new views, and how many they are at most. No program in sight. -/
set_option linter.unusedSimpArgs false
set_option linter.unusedVariables false
namespace Go.AW

theorem fstE_mem {l : List Int} (h : zhA l = 0) : ∀ e ∈ l, e = 0 := by
  induction l with
  | nil => simp
  | cons x l ih =>
    unfold zhA at h
    split at h
    · rename_i hx; exact absurd h hx
    · rename_i hx
      intro e he
      rcases List.mem_cons.1 he with rfl | he
      · simpa using hx
      · exact ih h e he
structure prepOkE (p : zjy) : Prop where
  view : 0 ≤ p.view ∧ p.view ≤ 9007199254740992
  seq : 1 ≤ p.seq ∧ p.seq ≤ 9007199254740992
  dig : 1 ≤ p.dig ∧ p.dig ≤ 9007199254740992
  first : zaF p.fkey p.fdig = 0
  signs : ∀ e ∈ zqC p.signs, e = 0
  batch : zbB p.batch = 0
structure bodyOkE (c : zdx) : Prop where
  view : 1 ≤ c.view ∧ c.view ≤ 9007199254740992
  src : 0 ≤ c.src ∧ c.src ≤ 12
  cert : ∀ e ∈ zrc c.cert, e = 0
  many : c.above.length ≤ 8
  above : ∀ p ∈ c.above, ∀ e ∈ prepErr p, e = 0
structure entryOkE (x : zhh) : Prop where
  view : 0 ≤ x.view ∧ x.view ≤ 9007199254740992
  seq : 1 ≤ x.seq ∧ x.seq ≤ 9007199254740992
  batch : zbB x.batch = 0
  sign : zaF x.key x.dig = 0
structure newvOkE (m : zfc) : Prop where
  src : 0 ≤ m.src ∧ m.src ≤ 12
  view : 1 ≤ m.view ∧ m.view ≤ 9007199254740992
  manyC : m.changes.length ≤ 13
  change : ∀ c ∈ m.changes, ∀ e ∈ zoI c, e = 0
  manyE : m.entries.length ≤ 8
  entry : ∀ x ∈ m.entries, ∀ e ∈ entryErr x, e = 0
theorem check_all {m : zfc} (h : zaW m = 0) : (∀ e ∈ zof m, e = 0) ∧ m = bareF m := by
  unfold zaW at h
  split at h
  · rename_i h1; exact absurd h h1
  · rename_i h1
    split at h
    · rename_i h2; exact ⟨fstE_mem (by simpa using h1), h2⟩
    · cases h
end Go.AW
