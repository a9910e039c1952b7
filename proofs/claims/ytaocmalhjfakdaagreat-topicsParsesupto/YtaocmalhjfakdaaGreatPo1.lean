/- Contracts: a pool: made, asked, put into, done. -/
import Derived.Test.YtaocmalhjfakdaaGreatOpC
import Derived.Test.YtaocmalhjfakdaaGreatMk2
import Derived.Test.YtaocmalhjfakdaaGreatSpNum
import Derived.Test.YtaocmalhjfakdaaGreatSh
import Derived.Test.YtaocmalhjfakdaaGreatAwEnd
import Derived.Test.YtaocmalhjfakdaaGreatOp1
set_option linter.all false
set_option maxRecDepth 100000
set_option linter.unusedSimpArgs false
set_option linter.unusedVariables false
namespace Go.Proofs.YtaocmalhjfakdaaGreat
open Go.AW


def z9 : List AV := [.d (.int .i64 0), .d (.int .i64 0), .d (.int .i64 0), .d (.str []), .d (.str []), .d (.int .i64 0), .exact [], .d (.int .i64 0), .d (.int .i64 0)]





end Go.Proofs.YtaocmalhjfakdaaGreat

/- What a new view goes on with. No program in sight. -/
set_option linter.unusedSimpArgs false
namespace Go.AW

end Go.AW

/- Contracts: how many brokers there are, and a quorum has. -/
set_option maxRecDepth 100000
set_option linter.unusedSimpArgs false
namespace Go.Proofs.YtaocmalhjfakdaaGreat
open Go.AW



abbrev prepA (p : TPrep) : AV := .agg [.d (.int .i64 p.view), .d (.int .i64 p.seq), .d (.int .i64 p.dig), .d (.int .i64 p.fkey), .d (.int .i64 p.fdig), .d (.slice (signsE p.signs)), .d (.slice (batchE p.batch))]


structure smallP (p : TPrep) : Prop where
  ops : ∀ x ∈ p.batch, opSz x.op ≤ 20971520
  batch : p.batch.length ≤ 1073741824
  signs : p.signs.length ≤ 1073741824


end Go.Proofs.YtaocmalhjfakdaaGreat

/- Checkpoints' certificates: which are valid. No program in sight. -/
set_option linter.unusedSimpArgs false
set_option linter.unusedVariables false
namespace Go.AW

end Go.AW

/- Contracts: checkpoints' certificates, on both sides. -/
set_option maxRecDepth 100000
set_option linter.unusedSimpArgs false
set_option linter.unusedVariables false
namespace Go.Proofs.YtaocmalhjfakdaaGreat
open Go.AW



structure smallPf (p : TProof) : Prop where
  topic : p.topic.length ≤ 16777216
  rec_ : p.rec_.length ≤ 16777216
  headers : p.headers.length ≤ 1073741824
  path : p.path.length ≤ 1073741824
  signs : p.cert.signs.length ≤ 1073741824
  off : i64r p.offset
  index : i64r p.index
  count : i64r p.count
  paths : ∀ x ∈ p.path, i64r x


end Go.Proofs.YtaocmalhjfakdaaGreat

/- Maps keyed by integers: what is found after a put. -/
set_option linter.unusedSimpArgs false
namespace Go.AW

abbrev ents (l : List (Int × AV)) : List (AV × AV) := l.map fun e => (.d (.int .i64 e.1), e.2)
end Go.AW

/- Contracts: certificates that are kept. -/
set_option maxRecDepth 100000
set_option linter.unusedSimpArgs false
set_option linter.unusedVariables false
namespace Go.Proofs.YtaocmalhjfakdaaGreat
open Go.AW

abbrev hE (l : List (Int × TPrep)) : List (AV × AV) := ents (l.map fun e => (e.1, prepA e.2))
structure HeldAt (σ : List zc) (h m : Nat) (l : List (Int × TPrep)) : Prop where
  box : σ[h]? = some (.box [.map m])
  map : σ[m]? = some (.map (hE l))
theorem HeldAt.app {σ : List zc} {h m : Nat} {l : List (Int × TPrep)} (H : HeldAt σ h m l) (τ : List zc) : HeldAt (σ ++ τ) h m l := ⟨zf H.box, zf H.map⟩

theorem zpv {σ : List zc} {l : List UInt8} (hn : l.length ≤ 1073741824) {K : KT} (hK : K (.d (.slice (bcs l))) σ) : zn Tryz.prog zae [.d (.slice (bcs l))] σ K := by
  refine zmx zfi fun hl => ?_
  have hlen := zbM l
  have h2 : ∀ e ∈ bcs l, e.length = 1 := zdh
  simp only [zcG, iN, bT, bF, eN, zaA, zeV]
  obtain ⟨es, hes⟩ : ∃ es, bcs l = es := ⟨_, rfl⟩
  rw [hes] at hlen h2 hK ⊢
  cases es with
  | nil =>
    refine ⟨?_, ?_⟩
    · refine zby ?_
      refine zdv hl ?_
      exact hK
    · refine zby ?_
      refine zdv hl ?_
      exact hK
  | cons e es =>
    simp only [zad, zA, zp, zX, rep, zq, zgT, zao, zr, zft]
    refine ⟨h2, by simp, by rw [hlen]; simp; omega, ?_⟩
    refine zdv hl ?_
    exact hK

end Go.Proofs.YtaocmalhjfakdaaGreat
