/- Contracts: what is asked of a proof, the program's. -/
import Derived.Test.YtdgcepphjnoalaaGreatOp2
import Derived.Test.YtdgcepphjnoalaaGreatRq1
import Derived.Test.YtdgcepphjnoalaaGreatCl1
import Derived.Test.YtdgcepphjnoalaaGreatSpTab
set_option linter.all false
set_option maxRecDepth 100000
set_option linter.unusedSimpArgs false
set_option linter.unusedVariables false
namespace Go.Proofs.YtdgcepphjnoalaaGreat
open Go.AW

abbrev zoO (e : Int) : zc := .box [.d (.int .i64 e)]
theorem zlJ (n : Nat) (e : Int) : zqv n (zoO e) := by
  intro c hc
  simp only [List.mem_cons, List.not_mem_nil, or_false] at hc
  subst hc; exact .d _
theorem gq22 {A P Q : Prop} (a : A) (h : Q) (e : A → Hd Q → P := by intro a h; (repeat' first | simp -dsimp only [↓zgn, ↓zaG, ↓zca, ↓zgo, ↓zgh, ↓zgf, ↓zgi, ↓zgg, ↓zcf, ↓zcb, ↓zcg, ↓zcc, ↓zgj, ↓zbW, ↓zch, ↓zcd, ↓zci, ↓zce, ↓zge, ↓zgl, ↓zbV, ↓zck, ↓zgb, ↓zga, ↓zgd, iN, bT, bF, eN, ↓zds, ↓unC, ↓zX, ↓zJ, ↓zK, ↓zM, ↓zal, ↓zaV, ↓zdU, ↓zay, ↓zbD, ↓zR, ↓zi, ↓zg, ↓zbr, ↓zd, ↓zan, ↓zO, ↓zbf, ↓zbg, ↓zf, ↓zB, ↓zn, ↓zD, ↓zZ, ↓zeb, ↓zes, ↓zaq, ↓zaC, ↓zbe, ↓zbl, ↓zbG, ↓zp, ↓zao, ↓zL, ↓zr, ↓zaj, zen, zbP, zbL, unA, zdF, bnd, zeV, zaf, zac, zeF, dm, dm1, zQ, zaz, zfy, zfx, zI, Q0, Q1, Q2, Q3, Q4, Q5, zam, zw, zu, zN, zG, Q6, Q7, Q8, Q9, Q10, Q11, Q12, Q13, Q14, Nat.reduceAdd, Q15, Int.reduceToNat, Q16, Q17, Q18, Q19, Q20, reduceIte, Q21, Q22, zC, rep, zV, zfi, toD, zad, Q23, Q24, Q25, Q26, Q27, Q28, Nat.reduceLeDiff, Q29, Nat.reduceSub, Q30, Q31, Q32, sc, Q33, Q34, Q35, Q36, Q37, Q26, Q38, Q39, zmU, zmR, zmO, zmV, zfD, zmS, zmP, zmT, zmQ, zfC, zfE, zmY, zmZ, Bool.not_true, Bool.not_false, List.length_map, a] | with_reducible refine zni ?_ | fail); exact h.go) : P := e a ⟨h⟩
theorem c_says {σ : List zc} {id : Nat} {e x : Int} (hσ : σ[id]? = some (zoO e)) {K : AV → List zc → Prop} (hK : K (.tup []) (σ.set id (zoO (thnE e x)))) : zl Tryz.prog zag [.box id 0, .d (.int .i64 x)] σ K := by
  refine zjc zjZ fun hl => ?_
  simp only [zfZ, iN, bT, bF, eN]
  cases h : (e == 0)
  · rw [thnE, if_pos (by simpa using h), zdP hσ] at hK
    refine gq22 (zj hσ h) ?_
    refine zap hl ?_
    exact hK
  · rw [thnE, if_neg (by simpa using h)] at hK
    refine gq22 (zj hσ h) ?_
    exact zis (by simp [zdg, dmT, zda]) hl (zlJ _ _) hK
theorem thn_0 (e : Int) : thnE e 0 = e := by
  unfold thnE; split
  · rfl
  · rename_i h; simp at h; exact h.symm
theorem c_askIn {σ : List zc} {id : Nat} {e n lo hi : Int} (hσ : σ[id]? = some (zoO e)) {K : AV → List zc → Prop} (hK : K (.tup []) (σ.set id (zoO (thnE e (inE n lo hi))))) :
    zl Tryz.prog zas [.box id 0, .d (.int .i64 n), .d (.int .i64 lo), .d (.int .i64 hi)] σ K := by
  refine acE4 zly fun hl => ?_
  simp only [zhk, iN, bT, bF, eN]
  have bad : (n < lo ∨ n > hi) → zl Tryz.prog zag [.box id 0, .d (.int .i64 100)] σ fun _ s => AW.Ends σ.length K (some []) s := fun h => by
    rw [inE, if_pos h] at hK
    refine c_says hσ ?_
    exact zis (by simp [zdg, dmT, zda]) hl (zlJ _ _) hK
  cases h1 : decide (n < lo)
  · cases h2 : decide (n > hi)
    · rw [inE, if_neg (by simp at h1 h2; omega), thn_0, zdP hσ] at hK
      refine gq22 (zj h1 h2) ?_
      refine zap hl ?_
      exact hK
    · refine gq22 (zj h1 h2) ?_
      exact bad (.inr (by simpa using h2))
  · refine gq22 h1 ?_
    exact bad (.inl (by simpa using h1))
theorem c_askNum {σ : List zc} {id : Nat} {e n : Int} (hσ : σ[id]? = some (zoO e)) {K : AV → List zc → Prop} (hK : K (.tup []) (σ.set id (zoO (thnE e (zod n))))) :
    zl Tryz.prog zaE [.box id 0, .d (.int .i64 n)] σ K := by
  refine zjc zkN fun hl => ?_
  simp only [zgQ, iN, bT, bF, eN]
  refine zaP ?_
  refine c_askIn hσ ?_
  exact zis (by simp [zdg, dmT, zda]) hl (zlJ _ _) hK
theorem wkc (k : Nat) (h : k ≤ 1073741824) : IntKind.i64.wrap ((k : Int) + 1) = ((k + 1 : Nat) : Int) := by rw [zdf (by omega) (by omega)]; rfl

structure zqB (p : zhR) : Prop where
  topic : p.topic.length ≤ 16777216
  rec_ : p.rec_.length ≤ 16777216
  headers : p.headers.length ≤ 1073741824
  path : p.path.length ≤ 1073741824
  signs : p.cert.signs.length ≤ 1073741824
  off : zkj p.offset
  index : zkj p.index
  count : zkj p.count
  paths : ∀ x ∈ p.path, zkj x
theorem thnE_app (e : Int) (a b : List Int) : thnE (thnE e (zhA a)) (zhA b) = thnE e (zhA (a ++ b)) := by
  rw [fstE_app]
  unfold thnE
  by_cases h : e = 0
  · by_cases h2 : zhA a = 0
    · simp [h, h2]
    · simp [h, h2]
  · simp [h]
theorem thnE_app1 (e : Int) (a : List Int) (x : Int) : thnE (thnE e (zhA a)) x = thnE e (zhA (a ++ [x])) := by
  have : x = zhA [x] := by simp only [zhA]; split <;> simp_all
  conv => lhs; rw [this]
  exact thnE_app e a [x]
theorem thnE_z (x : Int) : thnE 0 x = x := by simp [thnE]
theorem zqx (l : List Int) (x : Int) : thnE (zhA l) x = zhA (l ++ [x]) := by rw [← thnE_z (zhA l), thnE_app1, thnE_z]
end Go.Proofs.YtdgcepphjnoalaaGreat

/- Messages: which may be. No program in sight. -/
set_option linter.unusedSimpArgs false
set_option linter.unusedVariables false
namespace Go.AW

structure zfc where
  kind : Int
  src : Int
  view : Int
  seq : Int
  dig : Int
  client : Int
  time : Int
  rerr : Int
  roff : Int
  batch : List zt
  cert : zlL
  changes : List zdx
  entries : List zhh
  state : List UInt8
  topic : List UInt8
  offset : Int
  proof : zhR
  key : Int
  sdig : Int
def zCert : zlL := ⟨0, 0, []⟩
def zmd : zhR := ⟨[], 0, [], [], 0, 0, [], zCert⟩
def zfQ : zfc := ⟨0, 0, 0, 0, 0, 0, 0, 0, 0, [], zCert, [], [], [], [], 0, zmd, 0, 0⟩
abbrev msgL (m : zfc) : List AV :=
  [.d (.int .i64 m.kind), .d (.int .i64 m.src), .d (.int .i64 m.view), .d (.int .i64 m.seq), .d (.int .i64 m.dig), .d (.int .i64 m.client), .d (.int .i64 m.time), .d (.int .i64 m.rerr), .d (.int .i64 m.roff), .d (.slice (zcR m.batch)),
    .d (.int .i64 m.cert.seq), .d (.int .i64 m.cert.dig), .d (.slice (zbQ m.cert.signs)), .d (.slice (zeu m.changes)), .d (.slice (zet m.entries)), .d (.slice (bcs m.state)), .d (.str m.topic), .d (.int .i64 m.offset),
    .d (.str m.proof.topic), .d (.int .i64 m.proof.offset), .d (.slice (bcs m.proof.rec_)), .d (.slice (zqR m.proof.headers)), .d (.int .i64 m.proof.index), .d (.int .i64 m.proof.count), .d (.slice (zlt m.proof.path)), .d (.int .i64 m.proof.cert.seq), .d (.int .i64 m.proof.cert.dig), .d (.slice (zbQ m.proof.cert.signs)), .d (.int .i64 m.key), .d (.int .i64 m.sdig)]
abbrev znr (m : zfc) : AV := .agg (msgL m)
abbrev msgO (m : zfc) : zc := .box (msgL m)
def brkE (n : Int) : Int := inE n 0 12
def prepErr (p : zjy) : List Int := zod p.view :: posE p.seq :: posE p.dig :: zaF p.fkey p.fdig :: (zqC p.signs ++ [zbB p.batch])
def bodyErr (c : zdx) : List Int := posE c.view :: brkE c.src :: (zrc c.cert ++ (inE c.above.length 0 8 :: (c.above.map prepErr).flatten))
def zoI (c : zdx) : List Int := bodyErr c ++ [zaF c.key c.dig]
def entryErr (x : zhh) : List Int := [zod x.view, posE x.seq, zbB x.batch, zaF x.key x.dig]
def voteErr (m : zfc) : List Int := [brkE m.src, zod m.view, posE m.seq, posE m.dig]
def newvErr (m : zfc) : List Int := brkE m.src :: posE m.view :: inE m.changes.length 0 13 :: ((m.changes.map zoI).flatten ++ (inE m.entries.length 0 8 :: (m.entries.map entryErr).flatten))
def ownK (k : Int) : Bool := decide (2 ≤ k ∧ k ≤ 9 ∧ k ≠ 7)
def zqL (m : zfc) : List Int :=
  if m.kind = 1 then [inE m.batch.length 1 1, zbB m.batch]
  else if m.kind = 2 then voteErr m ++ [zbB m.batch]
  else if m.kind = 3 ∨ m.kind = 4 then voteErr m
  else if m.kind = 5 then [brkE m.src, zod m.view, inE m.client 0 7, zod m.time, inE m.rerr 0 65536, zod m.roff]
  else if m.kind = 6 then [brkE m.src, posE m.seq, posE m.dig]
  else if m.kind = 7 then inE m.changes.length 1 1 :: (m.changes.map fun c => zoI c ++ [if c.src ≠ m.src ∨ c.view ≠ m.view then 100 else 0]).flatten
  else if m.kind = 8 then newvErr m
  else if m.kind = 9 then [brkE m.src, zod m.seq]
  else if m.kind = 10 then brkE m.src :: (zrc m.cert ++ [inE m.state.length 0 262144])
  else if m.kind = 11 then [inE m.client 0 7, nameE m.topic, zod m.offset]
  else if m.kind = 12 then brkE m.src :: proofErr m.proof
  else [100]
def zof (m : zfc) : List Int := zqL m ++ (if ownK m.kind = true then [zaF m.key m.sdig] else [])
def bareF (m : zfc) : zfc :=
  if m.kind = 1 then { zfQ with kind := m.kind, batch := m.batch }
  else if m.kind = 2 then { zfQ with kind := m.kind, src := m.src, view := m.view, seq := m.seq, dig := m.dig, batch := m.batch, key := m.key, sdig := m.sdig }
  else if m.kind = 3 ∨ m.kind = 4 then { zfQ with kind := m.kind, src := m.src, view := m.view, seq := m.seq, dig := m.dig, key := m.key, sdig := m.sdig }
  else if m.kind = 5 then { zfQ with kind := m.kind, src := m.src, view := m.view, client := m.client, time := m.time, rerr := m.rerr, roff := m.roff, key := m.key, sdig := m.sdig }
  else if m.kind = 6 then { zfQ with kind := m.kind, src := m.src, seq := m.seq, dig := m.dig, key := m.key, sdig := m.sdig }
  else if m.kind = 7 then { zfQ with kind := m.kind, src := m.src, view := m.view, changes := m.changes }
  else if m.kind = 8 then { zfQ with kind := m.kind, src := m.src, view := m.view, changes := m.changes, entries := m.entries, key := m.key, sdig := m.sdig }
  else if m.kind = 9 then { zfQ with kind := m.kind, src := m.src, seq := m.seq, key := m.key, sdig := m.sdig }
  else if m.kind = 10 then { zfQ with kind := m.kind, src := m.src, cert := m.cert, state := m.state }
  else if m.kind = 11 then { zfQ with kind := m.kind, client := m.client, topic := m.topic, offset := m.offset }
  else if m.kind = 12 then { zfQ with kind := m.kind, src := m.src, proof := m.proof }
  else { zfQ with kind := m.kind, src := m.src }
deriving instance DecidableEq for zhR
deriving instance DecidableEq for zfc
def zaW (m : zfc) : Int := if zhA (zof m) ≠ 0 then zhA (zof m) else if m = bareF m then 0 else 100
end Go.AW
