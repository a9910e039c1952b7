/- Contracts: batches that are the same, the program's. -/
import Derived.Test.YtjjchfbckfopkaaGreatRc2
import Derived.Test.YtjjchfbckfopkaaGreatRq1
import Derived.Test.YtjjchfbckfopkaaGreatOp2
import Derived.Test.YtjjchfbckfopkaaGreatSpHdr
import Derived.Test.YtjjchfbckfopkaaGreatSpRc
import Derived.Test.YtjjchfbckfopkaaGreatSpUtf
import Derived.Test.YtjjchfbckfopkaaGreatCodec1
set_option linter.all false
set_option maxRecDepth 100000
set_option linter.unusedSimpArgs false
set_option linter.unusedVariables false
namespace Go.Proofs.YtjjchfbckfopkaaGreat
open Go.AW

theorem c_Same1 {σ : List zb} {a b : ze} (ha : a.op.recs.length ≤ 1073741824) (hb : b.op.recs.length ≤ 1073741824) {K : AV → List zb → Prop} (hK : K (.d (.bool (decide (a = b)))) σ) : zp Tryz.prog zcZ [zcO a, zcO b] σ K := by
  refine zgK zlO fun hl => ?_
  have e : a = b ↔ a.key = b.key ∧ a.dig = b.dig ∧ a.client = b.client ∧ a.time = b.time ∧ a.op = b.op := by cases a; cases b; simp; constructor <;> (intro h; simp_all)
  have fin : ∀ z, decide (a = b) = z → K (.d (.bool z)) σ := fun z h => h ▸ hK
  clear hK
  simp only [zgR, iN, bT, bF, eN, zcO]
  cases h1 : (a.key == b.key)
  · refine zme h1 ?_
    refine zad hl ?_
    refine fin _ (decide_eq_false fun h => ?_)
    have := (e.1 h).1; simp [this] at h1
  cases h2 : (a.dig == b.dig)
  · refine zme (zbC h1 h2) ?_
    refine zad hl ?_
    refine fin _ (decide_eq_false fun h => ?_)
    have := (e.1 h).2.1; simp [this] at h2
  cases h3 : (a.client == b.client)
  · refine zme (zbC h1 (zbC h2 h3)) ?_
    refine zad hl ?_
    refine fin _ (decide_eq_false fun h => ?_)
    have := (e.1 h).2.2.1; simp [this] at h3
  cases h4 : (a.time == b.time)
  · refine zme (zbC h1 (zbC h2 (zbC h3 h4))) ?_
    refine zad hl ?_
    refine fin _ (decide_eq_false fun h => ?_)
    have := (e.1 h).2.2.2.1; simp [this] at h4
  refine zme (zbC h1 (zbC h2 (zbC h3 h4))) ?_
  refine c_Same (a := a.op) (b := b.op) ha hb ?_
  refine zmf ?_
  refine zad hl ?_
  refine fin _ ?_
  rw [Bool.eq_iff_iff, decide_eq_true_eq, decide_eq_true_eq, e]
  simp only [beq_iff_eq] at h1 h2 h3 h4
  simp [h1, h2, h3, h4]
theorem zjS {σ : List zb} {a b : List ze} (ha : zjo a) (hb : zjo b) {K : AV → List zb → Prop} (hK : K (.d (.bool (decide (a = b)))) σ) :
    zp Tryz.prog zW [.d (.slice (zaE a)), .d (.slice (zaE b)), .fn (.func zcZ) [] []] σ K := by
  refine acE3 zbb fun hl => ?_
  have fin : ∀ z, decide (a = b) = z → K (.d (.bool z)) σ := fun z h => h ▸ hK
  clear hK
  obtain ⟨ha1, ha2⟩ := ha
  obtain ⟨hb1, hb2⟩ := hb
  simp only [zat, iN, bT, bF, eN, zl2]
  cases hl0 : ((a.length : Int) != (b.length : Int))
  rotate_left
  · refine zeo hl0 ?_
    refine zad hl ?_
    refine fin _ (decide_eq_false fun h => ?_)
    rw [h] at hl0; simp at hl0
  have hl2 : a.length = b.length := by simp at hl0; omega
  refine zeo hl0 ?_
  refine zB a.length (fun k vs s => vs = [.d (.int .i64 k)] ∧ (∃ T, s = σ ++ T) ∧ a.take k = b.take k) ⟨rfl, ⟨[], by simp⟩, by simp⟩ ?_
  rintro k vs s hk ⟨rfl, ⟨T, rfl⟩, htk⟩
  by_cases hlt : k < a.length
  · have hd : decide ((k : Int) < (a.length : Int)) = true := by simp; omega
    have hx : a[k]? = some a[k] := by simp [hlt]
    have hy : b[k]? = some (b[k]'(by omega)) := List.getElem?_eq_getElem _
    have hgx := zau (f := zao) hx
    have hgy := zau (f := zao) hy
    have hxs := (ha2 _ (List.getElem_mem hlt)).1
    have hys := (hb2 _ (List.getElem_mem (show k < b.length by omega))).1
    obtain ⟨x, hxe⟩ : ∃ x, a[k] = x := ⟨_, rfl⟩
    obtain ⟨y, hye⟩ : ∃ y, (b[k]'(by omega)) = y := ⟨_, rfl⟩
    rw [hxe] at hx hgx hxs
    rw [hye] at hy hgy hys
    obtain ⟨S, hS⟩ : ∃ S, σ ++ T = S := ⟨_, rfl⟩
    rw [hS]
    refine zme (zbC hd (zbC hgx hgy)) ?_
    refine c_Same1 (a := x) (b := y) hxs hys ?_
    cases he : decide (x = y)
    · refine zeo hd ?_
      rw [← hS, List.append_assoc]
      refine zad hl ?_
      refine fin _ (decide_eq_false fun h => ?_)
      subst h
      rw [hx] at hy
      have := Option.some.inj hy
      simp [this] at he
    · refine zeo (wk1 k (by omega)) ?_
      exact zaP.next hlt ⟨rfl, ⟨_, by rw [← hS, List.append_assoc]⟩, zcx hx hy htk (by simpa using he)⟩
  · have hd : decide ((k : Int) < (a.length : Int)) = false := by simp; omega
    refine zeo hd ?_
    refine zad hl ?_
    exact fin _ (decide_eq_true (zfX hl2 (k := k) (by omega) htk))
theorem c_rqPSame {σ : List zb} {a b : List ze} (ha : zjo a) (hb : zjo b) {K : AV → List zb → Prop} (hK : K (.d (.bool (decide (a = b)))) σ) : zp Tryz.prog zfQ [.d (.slice (zaE a)), .d (.slice (zaE b))] σ K := by
  refine zgK znP fun hl => ?_
  simp only [ziF, iN, bT, bF, eN]
  refine zmf ?_
  refine zjS ha hb ?_
  refine zmf ?_
  refine zad hl ?_
  exact hK

end Go.Proofs.YtjjchfbckfopkaaGreat

/- Which proofs may be: the first error of all that is asked. No program in sight. -/
set_option linter.unusedSimpArgs false
set_option linter.unusedVariables false
namespace Go.AW

structure TProof where
  topic : List UInt8
  offset : Int
  rec_ : List UInt8
  headers : List THdr
  index : Int
  count : Int
  path : List Int
  cert : TCert
end Go.AW

/- Contracts: what is asked of a proof, the program's. -/
set_option maxRecDepth 100000
set_option linter.unusedSimpArgs false
set_option linter.unusedVariables false
namespace Go.Proofs.YtjjchfbckfopkaaGreat
open Go.AW


structure smallPf (p : TProof) : Prop where
  topic : p.topic.length ≤ 16777216
  rec_ : p.rec_.length ≤ 16777216
  headers : p.headers.length ≤ 1073741824
  path : p.path.length ≤ 1073741824
  signs : p.cert.signs.length ≤ 1073741824
  off : i64r p.offset
  index : i64r p.index
  count : i64r p.count
  paths : ∀ x ∈ p.path, i64r x
end Go.Proofs.YtjjchfbckfopkaaGreat

/- Messages: which may be. No program in sight. -/
set_option linter.unusedSimpArgs false
set_option linter.unusedVariables false
namespace Go.AW

structure TMsg where
  kind : Int
  src : Int
  view : Int
  seq : Int
  dig : Int
  client : Int
  time : Int
  rerr : Int
  roff : Int
  batch : List ze
  cert : TCert
  changes : List TChange
  entries : List TEntry
  state : List UInt8
  topic : List UInt8
  offset : Int
  proof : TProof
  key : Int
  sdig : Int
end Go.AW

/- Contracts: parts of messages that are the same, the program's. -/
set_option maxRecDepth 100000
set_option linter.unusedSimpArgs false
set_option linter.unusedVariables false
namespace Go.Proofs.YtjjchfbckfopkaaGreat
open Go.AW

theorem gq45 {A P Q : Prop} (a : A) (h : Q) (e : A → Hd Q → P := by intro a h; (repeat' first | simp -dsimp only [↓zex, ↓zav, ↓zbj, ↓zey, ↓zer, ↓zep, ↓zes, ↓zeq, ↓zbo, ↓zbk, ↓zbp, ↓zbl, ↓zet, ↓zbh, ↓zbq, ↓zbm, ↓zbr, ↓zbn, ↓zem, ↓zew, ↓zbg, ↓zbt, ↓zeh, ↓zeg, ↓zel, iN, bT, bF, eN, ↓zcm, ↓unC, ↓zU, ↓zE, ↓zF, ↓zK, ↓zab, ↓zaA, ↓zct, ↓zY, ↓zbd, ↓zX, ↓zj, ↓zq, ↓zbI, ↓zf, ↓zac, ↓zJ, ↓zaB, ↓zaK, ↓zd, ↓zD, ↓zn, ↓zr, ↓zal, ↓zcE, ↓zcM, ↓zak, ↓zas, ↓zaG, ↓zaM, ↓zaS, ↓zl, ↓zae, ↓zG, ↓zo, ↓zZ, zcK, zbc, zba, unA, zcS, bnd, zdq, zaa, zai, zdr, dm, dm1, zP, zaC, zdL, zdK, zT, Q0, Q1, Q2, Q3, Q4, Q5, zS, zh, zm, zw, zA, Q6, Q7, Q8, Q9, Q10, Q11, Q12, Q13, Q14, Nat.reduceAdd, Q15, Int.reduceToNat, Q16, Q17, Q18, Q19, Q20, reduceIte, Q21, Q22, zx, rep, zV, zei, toD, zaf, Q23, Q24, Q25, Q26, Q27, Q28, Nat.reduceLeDiff, Q29, Nat.reduceSub, Q30, Q31, Q32, sc, Q33, Q34, Q35, Q36, Q37, Q26, Q38, Q39, zlI, zlF, zlC, zlJ, zeI, zlG, zlD, zlH, zlE, zeH, zeJ, zlL, zlM, Bool.not_true, Bool.not_false, List.length_map, Bool.and_false, Bool.and_self, Bool.false_and, Bool.not_false, Bool.not_true, Bool.true_and, Int.toNat_natCast, Int.toNat_zero, List.drop_zero, List.length_map, List.length_nil, List.nil_append, List.take_length, Nat.sub_zero, Nat.zero_add, Option.isSome_none, Option.isSome_some, Option.map_none, Option.map_some, zaq, beq_self_eq_true, bne, bne_self_eq_false, zbs, zbw, zpn, opA, zeU, zej, zcO, zao, a] | with_reducible refine zlY ?_ | fail); exact h.go) : P := e a ⟨h⟩
theorem c_eqSign {σ : List zb} {a b : List zM} (ha1 : a.length ≤ 1073741824) {K : AV → List zb → Prop} (hK : K (.d (.bool (decide (a = b)))) σ) :
    zp Tryz.prog zaX [.d (.slice (zax a)), .d (.slice (zax b))] σ K := by
  refine zgK zdN fun hl => ?_
  have fin : ∀ z, decide (a = b) = z → K (.d (.bool z)) σ := fun z h => h ▸ hK
  clear hK
  simp only [zbS, iN, bT, bF, eN]
  cases hl0 : ((a.length : Int) != (b.length : Int))
  rotate_left
  · refine zeo hl0 ?_
    refine zad hl ?_
    refine fin _ (decide_eq_false fun h => ?_)
    rw [h] at hl0; simp at hl0
  have hl2 : a.length = b.length := by simp at hl0; omega
  refine zeo hl0 ?_
  refine zB a.length (fun k vs s => vs = [.d (.int .i64 k)] ∧ (∃ T, s = σ ++ T) ∧ a.take k = b.take k) ⟨rfl, ⟨[], by simp⟩, by simp⟩ ?_
  rintro k vs s hk ⟨rfl, ⟨T, rfl⟩, htk⟩
  by_cases hlt : k < a.length
  · have hd : decide ((k : Int) < (a.length : Int)) = true := by simp; omega
    have hx : a[k]? = some a[k] := by simp [hlt]
    have hy : b[k]? = some (b[k]'(by omega)) := List.getElem?_eq_getElem _
    have hgx := zau (f := zej) hx
    have hgy := zau (f := zej) hy
    obtain ⟨x, hxe⟩ : ∃ x, a[k] = x := ⟨_, rfl⟩
    obtain ⟨y, hye⟩ : ∃ y, (b[k]'(by omega)) = y := ⟨_, rfl⟩
    rw [hxe] at hx hgx
    rw [hye] at hy hgy
    obtain ⟨S, hS⟩ : ∃ S, σ ++ T = S := ⟨_, rfl⟩
    rw [hS]
    have hxy : x = y ↔ ((x.key == y.key && x.dig == y.dig)) = true := by cases x; cases y; simp
    cases h2 : ((x.key == y.key && x.dig == y.dig))
    · refine gq45 (zbC hd (zbC hgx (zbC hgy h2))) ?_
      rw [← hS]
      refine zad hl ?_
      refine fin _ (decide_eq_false fun h => ?_)
      subst h
      rw [hx] at hy
      rw [hxy.1 (Option.some.inj hy)] at h2; cases h2
    · refine gq45 (zbC hd (zbC hgx (zbC hgy (zbC h2 (wk1 k (by omega)))))) ?_
      exact zaP.next hlt ⟨rfl, ⟨_, hS.symm⟩, zcx hx hy htk (hxy.2 h2)⟩
  · have hd : decide ((k : Int) < (a.length : Int)) = false := by simp; omega
    refine zeo hd ?_
    refine zad hl ?_
    exact fin _ (decide_eq_true (zfX hl2 (k := k) (by omega) htk))
structure smallPr (p : zar) : Prop where
  signs : p.signs.length ≤ 1073741824
  batch : zjo p.batch
structure smallChg (c : TChange) : Prop where
  signs : c.cert.signs.length ≤ 1073741824
  above : c.above.length ≤ 1073741824
  each : ∀ p ∈ c.above, smallPr p
end Go.Proofs.YtjjchfbckfopkaaGreat
