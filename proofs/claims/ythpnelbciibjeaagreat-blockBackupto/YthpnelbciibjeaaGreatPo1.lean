/- Contracts: a pool: made, asked, put into, done. -/
import Derived.Test.YthpnelbciibjeaaGreatRc2
import Derived.Test.YthpnelbciibjeaaGreatMk3
import Derived.Test.YthpnelbciibjeaaGreatRq2
import Derived.Test.YthpnelbciibjeaaGreatId3
import Derived.Test.YthpnelbciibjeaaGreatSpUtf
import Derived.Test.YthpnelbciibjeaaGreatSpNum
import Derived.Test.YthpnelbciibjeaaGreatSh
import Derived.Test.YthpnelbciibjeaaGreatAwEnd
set_option linter.all false
set_option maxRecDepth 100000
set_option linter.unusedSimpArgs false
set_option linter.unusedVariables false
namespace Go.Proofs.YthpnelbciibjeaaGreat
open Go.AW


def z9 : List AV := [.d (.int .i64 0), .d (.int .i64 0), .d (.int .i64 0), .d (.str []), .d (.str []), .d (.int .i64 0), .exact [], .d (.int .i64 0), .d (.int .i64 0)]


def digE (L : List (List UInt8)) (l : List zi) : Int := if zF l ≠ 0 then zF l else if ziN L (zfP l) = 0 then 6 else 0
def digD (L : List (List UInt8)) (l : List zi) : Int := if zF l ≠ 0 then 0 else ziN L (zfP l)
def zkn (L : List (List UInt8)) (l : List zi) : List (List UInt8) := if zF l ≠ 0 then L else zge L (zfP l)
theorem c_rqDigest {σ : List zc} {id m t : Nat} {L : List (List UInt8)} {l : List zi} (hT : zby σ id m t L) (hL : TabI L)
    (hx : ∀ s ∈ l, zme s.op ≤ 20971520) (hll : l.length ≤ 1073741824) {K : AV → List zc → Prop} (hK : K (.tup [.d (.int .i64 (digD L l)), .d (.int .i64 (digE L l))]) (putTab σ id m t (zkn L l))) :
    zt Tryz.prog zeE [.box id 0, .d (.slice (zlg l))] σ K := by
  refine zlh zlu fun hl => ?_
  have hok : okB l := ⟨hll, fun s hs => sizes (hx s hs)⟩
  simp only [zgU, iN, bT, bF, eN]
  refine gq1 ?_
  refine zlf hok ?_
  by_cases hc : zF l = 0
  · have hq : (zF l != 0) = false := by simpa using hc
    have hbl := ziH hx
    have hc' : ¬ zF l ≠ 0 := by simpa using hc
    rw [show digD L l = ziN L (zfP l) from if_neg hc', show zkn L l = zge L (zfP l) from if_neg hc', show digE L l = if ziN L (zfP l) = 0 then 6 else 0 from if_neg hc'] at hK
    refine gq2 hq ?_
    refine c_known hT hL.nd hL.len hL.each ?_
    refine gq1 ?_
    refine c_PutBatch (b := []) (by simp) hx hll ?_
    rw [List.nil_append, show zdp l = zfP l from if_pos hc] at *
    refine gq1 ?_
    refine zld hT (by omega) hL.len ?_
    have hl1 := hT.lows hl (zge L (zfP l))
    have hs1 := zaL σ id m t (zge L (zfP l))
    by_cases h0 : ziN L (zfP l) = 0
    · rw [if_pos h0] at hK
      rw [h0] at hK ⊢
      refine gq4 ?_
      refine zdK hs1 ?_ hl1 ?_
      · simp [zdq, dmT, dm, dm1, zbz, zfF]
      · exact hK
    · rw [if_neg h0] at hK
      have h0' : (ziN L (zfP l) == 0) = false := by simpa using h0
      refine gq2 h0' ?_
      refine zdK hs1 ?_ hl1 ?_
      · simp [zdq, dmT, dm, dm1, zbz, zfF]
      · exact hK
  · have hq : (zF l != 0) = true := by simpa using hc
    rw [digD, digE, zkn, if_pos hc, if_pos hc, if_pos hc, hT.self] at hK
    refine gq2 hq ?_
    refine zcg hl ?_
    exact hK



end Go.Proofs.YthpnelbciibjeaaGreat

/- What a new view goes on with. No program in sight. -/
set_option linter.unusedSimpArgs false
namespace Go.AW

end Go.AW

/- Contracts: how many brokers there are, and a quorum has. -/
set_option maxRecDepth 100000
set_option linter.unusedSimpArgs false
namespace Go.Proofs.YthpnelbciibjeaaGreat
open Go.AW



abbrev prepA (p : TPrep) : AV := .agg [.d (.int .i64 p.view), .d (.int .i64 p.seq), .d (.int .i64 p.dig), .d (.int .i64 p.fkey), .d (.int .i64 p.fdig), .d (.slice (signsE p.signs)), .d (.slice (zlg p.batch))]


structure smallP (p : TPrep) : Prop where
  ops : ∀ x ∈ p.batch, zme x.op ≤ 20971520
  batch : p.batch.length ≤ 1073741824
  signs : p.signs.length ≤ 1073741824

end Go.Proofs.YthpnelbciibjeaaGreat
