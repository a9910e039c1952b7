/- Contracts: a pool: made, asked, put into, done. -/
import Derived.Test.YthpnelbciibjeaaGreatRc2
import Derived.Test.YthpnelbciibjeaaGreatMk3
import Derived.Test.YthpnelbciibjeaaGreatRq2
import Derived.Test.YthpnelbciibjeaaGreatId3
import Derived.Test.YthpnelbciibjeaaGreatSpUtf
import Derived.Test.YthpnelbciibjeaaGreatCl1
import Derived.Test.YthpnelbciibjeaaGreatSh
import Derived.Test.YthpnelbciibjeaaGreatAwEnd
set_option linter.all false
set_option maxRecDepth 100000
set_option linter.unusedSimpArgs false
set_option linter.unusedVariables false
namespace Go.Proofs.YthpnelbciibjeaaGreat
open Go.AW


def z9 : List AV := [.d (.int .i64 0), .d (.int .i64 0), .d (.int .i64 0), .d (.str []), .d (.str []), .d (.int .i64 0), .exact [], .d (.int .i64 0), .d (.int .i64 0)]


def digE (L : List (List UInt8)) (l : List zk) : Int := if zI l ≠ 0 then zI l else if zhT L (zgn l) = 0 then 6 else 0
def digD (L : List (List UInt8)) (l : List zk) : Int := if zI l ≠ 0 then 0 else zhT L (zgn l)
def zla (L : List (List UInt8)) (l : List zk) : List (List UInt8) := if zI l ≠ 0 then L else zfA L (zgn l)
theorem c_rqDigest {σ : List zc} {id m t : Nat} {L : List (List UInt8)} {l : List zk} (hT : zbO σ id m t L) (hL : TabI L)
    (hx : ∀ s ∈ l, zna s.op ≤ 20971520) (hll : l.length ≤ 1073741824) {K : AV → List zc → Prop} (hK : K (.tup [.d (.int .i64 (digD L l)), .d (.int .i64 (digE L l))]) (putTab σ id m t (zla L l))) :
    zo Tryz.prog zeV [.box id 0, .d (.slice (zmf l))] σ K := by
  refine zjy zms fun hl => ?_
  have hok : okB l := ⟨hll, fun s hs => sizes (hx s hs)⟩
  simp only [zhK, iN, bT, bF, eN]
  refine gq1 ?_
  refine zme hok ?_
  by_cases hc : zI l = 0
  · have hq : (zI l != 0) = false := by simpa using hc
    have hbl := zjx hx
    have hc' : ¬ zI l ≠ 0 := by simpa using hc
    rw [show digD L l = zhT L (zgn l) from if_neg hc', show zla L l = zfA L (zgn l) from if_neg hc', show digE L l = if zhT L (zgn l) = 0 then 6 else 0 from if_neg hc'] at hK
    refine gq2 hq ?_
    refine c_known hT hL.nd hL.len hL.each ?_
    refine gq1 ?_
    refine c_PutBatch (b := []) (by simp) hx hll ?_
    rw [List.nil_append, show zdw l = zgn l from if_pos hc] at *
    refine gq1 ?_
    refine zmc hT (by omega) hL.len ?_
    have hl1 := hT.lows hl (zfA L (zgn l))
    have hs1 := zaS σ id m t (zfA L (zgn l))
    by_cases h0 : zhT L (zgn l) = 0
    · rw [if_pos h0] at hK
      rw [h0] at hK ⊢
      refine gq4 ?_
      refine zdV hs1 ?_ hl1 ?_
      · simp [zbM, dmT, dm, dm1, zbo, zdx]
      · exact hK
    · rw [if_neg h0] at hK
      have h0' : (zhT L (zgn l) == 0) = false := by simpa using h0
      refine gq2 h0' ?_
      refine zdV hs1 ?_ hl1 ?_
      · simp [zbM, dmT, dm, dm1, zbo, zdx]
      · exact hK
  · have hq : (zI l != 0) = true := by simpa using hc
    rw [digD, digE, zla, if_pos hc, if_pos hc, if_pos hc, hT.self] at hK
    refine gq2 hq ?_
    refine zbx hl ?_
    exact hK



end Go.Proofs.YthpnelbciibjeaaGreat

/- What a new view goes on with. No program in sight. -/
set_option linter.unusedSimpArgs false
namespace Go.AW

end Go.AW

/- Contracts: how many brokers there are, and a quorum has. -/
set_option maxRecDepth 100000
set_option linter.unusedSimpArgs false
namespace Go.Proofs.YthpnelbciibjeaaGreat
open Go.AW



abbrev prepA (p : TPrep) : AV := .agg [.d (.int .i64 p.view), .d (.int .i64 p.seq), .d (.int .i64 p.dig), .d (.int .i64 p.fkey), .d (.int .i64 p.fdig), .d (.slice (signsE p.signs)), .d (.slice (zmf p.batch))]


structure smallP (p : TPrep) : Prop where
  ops : ∀ x ∈ p.batch, zna x.op ≤ 20971520
  batch : p.batch.length ≤ 1073741824
  signs : p.signs.length ≤ 1073741824

end Go.Proofs.YthpnelbciibjeaaGreat
