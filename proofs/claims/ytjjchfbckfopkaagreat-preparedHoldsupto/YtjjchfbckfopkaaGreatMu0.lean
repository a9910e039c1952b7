/- Contracts: batches that are the same, the program's. -/
import Derived.Test.YtjjchfbckfopkaaGreatRc2
import Derived.Test.YtjjchfbckfopkaaGreatRq1
import Derived.Test.YtjjchfbckfopkaaGreatOp2
import Derived.Test.YtjjchfbckfopkaaGreatSpHdr
import Derived.Test.YtjjchfbckfopkaaGreatSpRc
import Derived.Test.YtjjchfbckfopkaaGreatSpUtf
import Derived.Test.YtjjchfbckfopkaaGreatCodec1
import Derived.Test.YtjjchfbckfopkaaGreatHe1
set_option linter.all false
set_option maxRecDepth 100000
set_option linter.unusedSimpArgs false
set_option linter.unusedVariables false
namespace Go.Proofs.YtjjchfbckfopkaaGreat
open Go.AW

end Go.Proofs.YtjjchfbckfopkaaGreat

/- Which proofs may be: the first error of all that is asked. No program in sight. -/
set_option linter.unusedSimpArgs false
set_option linter.unusedVariables false
namespace Go.AW

structure TProof where
  topic : List UInt8
  offset : Int
  rec_ : List UInt8
  headers : List THdr
  index : Int
  count : Int
  path : List Int
  cert : TCert
end Go.AW

/- Contracts: what is asked of a proof, the program's. -/
set_option maxRecDepth 100000
set_option linter.unusedSimpArgs false
set_option linter.unusedVariables false
namespace Go.Proofs.YtjjchfbckfopkaaGreat
open Go.AW


structure smallPf (p : TProof) : Prop where
  topic : p.topic.length ≤ 16777216
  rec_ : p.rec_.length ≤ 16777216
  headers : p.headers.length ≤ 1073741824
  path : p.path.length ≤ 1073741824
  signs : p.cert.signs.length ≤ 1073741824
  off : i64r p.offset
  index : i64r p.index
  count : i64r p.count
  paths : ∀ x ∈ p.path, i64r x
end Go.Proofs.YtjjchfbckfopkaaGreat

/- Messages: which may be. No program in sight. -/
set_option linter.unusedSimpArgs false
set_option linter.unusedVariables false
namespace Go.AW

structure TMsg where
  kind : Int
  src : Int
  view : Int
  seq : Int
  dig : Int
  client : Int
  time : Int
  rerr : Int
  roff : Int
  batch : List zf
  cert : TCert
  changes : List TChange
  entries : List TEntry
  state : List UInt8
  topic : List UInt8
  offset : Int
  proof : TProof
  key : Int
  sdig : Int
end Go.AW

/- Contracts: parts of messages that are the same, the program's. -/
set_option maxRecDepth 100000
set_option linter.unusedSimpArgs false
set_option linter.unusedVariables false
namespace Go.Proofs.YtjjchfbckfopkaaGreat
open Go.AW

structure smallPr (p : zw) : Prop where
  signs : p.signs.length ≤ 1073741824
  batch : smallB p.batch
structure smallChg (c : TChange) : Prop where
  signs : c.cert.signs.length ≤ 1073741824
  above : c.above.length ≤ 1073741824
  each : ∀ p ∈ c.above, smallPr p

section
variable {σ : List zb} {K : AV → List zb → Prop}
theorem ints2 (a b c d : Int) : zbE [AV.d (.int .i64 a), AV.d (.int .i64 b)] [AV.d (.int .i64 c), AV.d (.int .i64 d)] = some ((a == c) && (b == d)) := by simp [zbE]
theorem prep_eq (a b : zw) : decide (a = b) = ((a.view == b.view) && ((a.seq == b.seq) && ((a.dig == b.dig) && (((a.fkey == b.fkey) && (a.fdig == b.fdig)) && (decide (a.signs = b.signs) && decide (a.batch = b.batch)))))) := by
  cases a; cases b
  rw [Bool.eq_iff_iff]
  simp [and_assoc]
theorem c_sgSame {a b : List zP} (ha : a.length ≤ 1073741824) (hb : b.length ≤ 1073741824) (hK : K (.d (.bool (decide (a = b)))) σ) : zt Tryz.prog zfq [.d (.slice (zaB a)), .d (.slice (zaB b))] σ K := by
  refine zhh znu fun hl => ?_
  have fin : ∀ z, decide (a = b) = z → K (.d (.bool z)) σ := fun z h => h ▸ hK
  clear hK
  have hal : (zaB a).length = a.length := List.length_map ..
  have hbl : (zaB b).length = b.length := List.length_map ..
  simp only [zib, iN, bT, bF, eN]
  cases hl0 : ((a.length : Int) != (b.length : Int))
  rotate_left
  · refine gq2 (zj hl0 (zj hal hbl)) ?_
    refine zam hl ?_
    refine fin _ (decide_eq_false fun h => ?_)
    rw [h] at hl0; simp at hl0
  have hl2 : a.length = b.length := by simp at hl0; omega
  refine gq2 (zj hl0 (zj hal hbl)) ?_
  refine zC a.length (fun k vs s => vs = [.d (.int .i64 k)] ∧ s = σ ∧ a.take k = b.take k) ⟨rfl, rfl, by simp⟩ ?_
  rintro k vs s hk ⟨rfl, rfl, htk⟩
  by_cases hlt : k < a.length
  · have hd : decide ((k : Int) < (a.length : Int)) = true := by simp; omega
    have hx : a[k]? = some a[k] := by simp [hlt]
    have hy : b[k]? = some (b[k]'(by omega)) := List.getElem?_eq_getElem _
    have hgx := zax (f := zfn) hx
    have hgy := zax (f := zfn) hy
    obtain ⟨x, hxe⟩ : ∃ x, a[k] = x := ⟨_, rfl⟩
    obtain ⟨y, hye⟩ : ∃ y, (b[k]'(by omega)) = y := ⟨_, rfl⟩
    rw [hxe] at hx hgx
    rw [hye] at hy hgy
    have hxy := ints2 x.key x.dig y.key y.dig
    cases he : ((x.key == y.key) && (x.dig == y.dig))
    · rw [he] at hxy
      refine gq8 (zj hd (zj hal (zj hgx (zj hgy hxy)))) ?_
      refine zam hl ?_
      refine fin _ (decide_eq_false fun h => ?_)
      subst h
      rw [hx] at hy
      cases Option.some.inj hy
      simp at he
    · rw [he] at hxy
      refine gq8 (zj hd (zj hal (zj hgx (zj hgy (zj hxy (wk1 k (by omega))))))) ?_
      refine zaQ.next hlt ⟨rfl, rfl, zeB hx hy htk ?_⟩
      simp only [Bool.and_eq_true, beq_iff_eq] at he
      cases x; cases y
      simp only [zP.mk.injEq]
      exact he
  · have hd : decide ((k : Int) < (a.length : Int)) = false := by simp; omega
    rw [List.take_of_length_le (by omega), List.take_of_length_le (by omega)] at htk
    refine gq2 (zj hd hal) ?_
    refine zam hl ?_
    exact fin _ (decide_eq_true htk)
theorem smallPB {p : zw} (h : zdb p) : smallB p.batch := ⟨h.batch, fun s hs => (zpq (h.ops s hs)).2.2⟩
theorem c_prSameR {a b : zw} (ha : zdb a) (hb : zdb b) (hK : K (.d (.bool (decide (a = b)))) σ) : zt Tryz.prog zdG [zdZ a, zdZ b] σ K := by
  refine zhh znv fun hl => ?_
  simp only [zic, iN, bT, bF, eN, zdZ]
  (
  have fin : ∀ z, decide (a = b) = z → K (.d (.bool z)) σ := fun z h => h ▸ hK
  clear hK
  have hE := prep_eq a b
  have g0 : ∀ A B τ, (σ ++ A :: B :: τ)[σ.length]? = some A := fun A B τ => zk ..
  have hI := ints2 a.fkey a.fdig b.fkey b.fdig
  cases h1 : (a.view == b.view)
  · rw [h1, Bool.false_and] at hE
    refine gq2 h1 ?_
    refine zam hl ?_
    exact fin _ hE
  cases h2 : (a.seq == b.seq)
  · rw [h2, Bool.false_and, Bool.and_false] at hE
    refine gq2 (zj h1 h2) ?_
    refine zam hl ?_
    exact fin _ hE
  cases h3 : (a.dig == b.dig)
  · rw [h3, Bool.false_and, Bool.and_false, Bool.and_false] at hE
    refine gq2 (zj h1 (zj h2 h3)) ?_
    refine zam hl ?_
    exact fin _ hE
  cases h4 : ((a.fkey == b.fkey) && (a.fdig == b.fdig))
  · rw [h4] at hE hI
    rw [Bool.false_and, Bool.and_false, Bool.and_false, Bool.and_false] at hE
    refine gq2 (zj h1 (zj h2 (zj h3 hI))) ?_
    refine zam hl ?_
    exact fin _ hE
  rw [h4] at hI
  rw [h1, h2, h3, h4, Bool.true_and, Bool.true_and, Bool.true_and, Bool.true_and] at hE
  refine gq2 (zj h1 (zj h2 (zj h3 hI))) ?_
  )
  refine c_sgSame ha.signs hb.signs ?_
  cases h5 : decide (a.signs = b.signs)
  · rw [h5, Bool.false_and] at hE
    refine gq1 ?_
    refine zam hl ?_
    exact fin _ hE
  rw [h5, Bool.true_and] at hE
  refine gq1 ?_
  refine c_rqSame (smallPB ha) (smallPB hb) ?_
  refine gq1 ?_
  refine zam hl ?_
  exact fin _ hE
theorem c_sameAll {a b : List zw} (ha0 : a.length ≤ 1000000) (hb0 : b.length ≤ 1000000) (ha : ∀ p ∈ a, zdb p) (hb : ∀ p ∈ b, zdb p) (hK : K (.d (.bool (decide (a = b)))) σ) : zt Tryz.prog zff [.d (.slice (zba a)), .d (.slice (zba b))] σ K := by
  refine zhh zpP fun hl => ?_
  have fin : ∀ z, decide (a = b) = z → K (.d (.bool z)) σ := fun z h => h ▸ hK
  clear hK
  have hal : (zba a).length = a.length := List.length_map ..
  have hbl : (zba b).length = b.length := List.length_map ..
  simp only [zkz, iN, bT, bF, eN]
  cases hl0 : ((a.length : Int) != (b.length : Int))
  rotate_left
  · refine gq2 (zj hl0 (zj hal hbl)) ?_
    refine zam hl ?_
    refine fin _ (decide_eq_false fun h => ?_)
    rw [h] at hl0; simp at hl0
  have hl2 : a.length = b.length := by simp at hl0; omega
  refine gq2 (zj hl0 (zj hal hbl)) ?_
  refine zC a.length (fun k vs s => vs = [.d (.int .i64 k)] ∧ s = σ ∧ a.take k = b.take k) ⟨rfl, rfl, by simp⟩ ?_
  rintro k vs s hk ⟨rfl, rfl, htk⟩
  by_cases hlt : k < a.length
  · have hd : decide ((k : Int) < (a.length : Int)) = true := by simp; omega
    have hx : a[k]? = some a[k] := by simp [hlt]
    have hy : b[k]? = some (b[k]'(by omega)) := List.getElem?_eq_getElem _
    have hgx := zax (f := zdY) hx
    have hgy := zax (f := zdY) hy
    have hxs := ha _ (List.getElem_mem hlt)
    have hys := hb _ (List.getElem_mem (show k < b.length by omega))
    obtain ⟨x, hxe⟩ : ∃ x, a[k] = x := ⟨_, rfl⟩
    obtain ⟨y, hye⟩ : ∃ y, (b[k]'(by omega)) = y := ⟨_, rfl⟩
    rw [hxe] at hx hgx hxs
    rw [hye] at hy hgy hys
    refine gq8 (zj hd (zj hal (zj hgx hgy))) ?_
    refine c_prSameR (a := x) (b := y) hxs hys ?_
    cases he : decide (x = y)
    · refine gq1 ?_
      refine zam hl ?_
      refine fin _ (decide_eq_false fun h => ?_)
      subst h
      rw [hx] at hy
      cases Option.some.inj hy
      simp at he
    · refine gq2 (wk1 k (by omega)) ?_
      exact zaQ.next hlt ⟨rfl, rfl, zeB hx hy htk (by simpa using he)⟩
  · have hd : decide ((k : Int) < (a.length : Int)) = false := by simp; omega
    rw [List.take_of_length_le (by omega), List.take_of_length_le (by omega)] at htk
    refine gq2 (zj hd hal) ?_
    refine zam hl ?_
    exact fin _ (decide_eq_true htk)
end

end Go.Proofs.YtjjchfbckfopkaaGreat
