/- Contracts: a pool: made, asked, put into, done. -/
import Derived.Test.YthpnelbciibjeaaRc2
import Derived.Test.YthpnelbciibjeaaMk3
import Derived.Test.YthpnelbciibjeaaRq2
import Derived.Test.YthpnelbciibjeaaId3
import Derived.Test.YthpnelbciibjeaaSpUtf
import Derived.Test.YthpnelbciibjeaaSpNum
import Derived.Test.YthpnelbciibjeaaSh
import Derived.Test.YthpnelbciibjeaaAwEnd
set_option linter.all false
set_option maxRecDepth 100000
set_option linter.unusedSimpArgs false
set_option linter.unusedVariables false
namespace Go.Proofs.Ythpnelbciibjeaa
open Go.AW


def z9 : List AV := [.d (.int .i64 0), .d (.int .i64 0), .d (.int .i64 0), .d (.str []), .d (.str []), .d (.int .i64 0), .exact [], .d (.int .i64 0), .d (.int .i64 0)]


def digE (L : List (List UInt8)) (l : List zh) : Int := if zC l ≠ 0 then zC l else if ziB L (zfD l) = 0 then 6 else 0
def digD (L : List (List UInt8)) (l : List zh) : Int := if zC l ≠ 0 then 0 else ziB L (zfD l)
def zjN (L : List (List UInt8)) (l : List zh) : List (List UInt8) := if zC l ≠ 0 then L else zfP L (zfD l)
theorem c_rqDigest {σ : List zc} {id m t : Nat} {L : List (List UInt8)} {l : List zh} (hT : zbr σ id m t L) (hL : TabI L)
    (hx : ∀ s ∈ l, zlx s.op ≤ 20971520) (hll : l.length ≤ 1073741824) {K : AV → List zc → Prop} (hK : K (.tup [.d (.int .i64 (digD L l)), .d (.int .i64 (digE L l))]) (putTab σ id m t (zjN L l))) :
    zj Try.prog zeD [.box id 0, .d (.slice (zkG l))] σ K := by
  refine zla zkQ fun hl => ?_
  have hok : okB l := ⟨hll, fun s hs => sizes (hx s hs)⟩
  simp only [zgK, iN, bT, bF, eN]
  refine gq1 ?_
  refine zkF hok ?_
  by_cases hc : zC l = 0
  · have hq : (zC l != 0) = false := by simpa using hc
    have hbl := ziw hx
    have hc' : ¬ zC l ≠ 0 := by simpa using hc
    rw [show digD L l = ziB L (zfD l) from if_neg hc', show zjN L l = zfP L (zfD l) from if_neg hc', show digE L l = if ziB L (zfD l) = 0 then 6 else 0 from if_neg hc'] at hK
    refine gq2 hq ?_
    refine c_known hT hL.nd hL.len hL.each ?_
    refine gq1 ?_
    refine c_PutBatch (b := []) (by simp) hx hll ?_
    rw [List.nil_append, show zdn l = zfD l from if_pos hc] at *
    refine gq1 ?_
    refine zkD hT (by omega) hL.len ?_
    have hl1 := hT.lows hl (zfP L (zfD l))
    have hs1 := zaN σ id m t (zfP L (zfD l))
    by_cases h0 : ziB L (zfD l) = 0
    · rw [if_pos h0] at hK
      rw [h0] at hK ⊢
      refine gq4 ?_
      refine zdE hs1 ?_ hl1 ?_
      · simp [zfO, dmT, dm, dm1, zdg, zhv]
      · exact hK
    · rw [if_neg h0] at hK
      have h0' : (ziB L (zfD l) == 0) = false := by simpa using h0
      refine gq2 h0' ?_
      refine zdE hs1 ?_ hl1 ?_
      · simp [zfO, dmT, dm, dm1, zdg, zhv]
      · exact hK
  · have hq : (zC l != 0) = true := by simpa using hc
    rw [digD, digE, zjN, if_pos hc, if_pos hc, if_pos hc, hT.self] at hK
    refine gq2 hq ?_
    refine zbD hl ?_
    exact hK



end Go.Proofs.Ythpnelbciibjeaa

/- What a new view goes on with. No program in sight. -/
set_option linter.unusedSimpArgs false
namespace Go.AW

end Go.AW

/- Contracts: how many brokers there are, and a quorum has. -/
set_option maxRecDepth 100000
set_option linter.unusedSimpArgs false
namespace Go.Proofs.Ythpnelbciibjeaa
open Go.AW



abbrev prepA (p : TPrep) : AV := .agg [.d (.int .i64 p.view), .d (.int .i64 p.seq), .d (.int .i64 p.dig), .d (.int .i64 p.fkey), .d (.int .i64 p.fdig), .d (.slice (signsE p.signs)), .d (.slice (zkG p.batch))]


structure smallP (p : TPrep) : Prop where
  ops : ∀ x ∈ p.batch, zlx x.op ≤ 20971520
  batch : p.batch.length ≤ 1073741824
  signs : p.signs.length ≤ 1073741824

end Go.Proofs.Ythpnelbciibjeaa
