/- Contracts: topics that no call made. -/
import Derived.Test.YtaocmalhjfakdaaKs2
set_option linter.all false
set_option maxRecDepth 100000
set_option linter.unusedSimpArgs false
set_option linter.unusedVariables false
namespace Go.Proofs.Ytaocmalhjfakdaa
open Go.AW

inductive NoT (σ : List zb) : AV → Prop where
  | nil : NoT σ (.d .nilp)
  | box (id : Nat) (cs : List AV) : σ[id]? = some (.box (.d .nilmap :: cs)) → NoT σ (.box id 0)
theorem NoT.app {σ : List zb} {a : AV} (h : NoT σ a) (τ : List zb) : NoT (σ ++ τ) a := by
  cases h with
  | nil => exact .nil
  | box id cs h => exact .box id cs (zf h)
section

variable {σ : List zb} {a : AV} {K : AV → List zb → Prop}

theorem zed (h : NoT σ a) (hK : K (.d (.bool true)) σ) : zi Try.prog zy [a] σ K := by
  refine acE1 zdr fun hl => ?_
  simp only [zbP, iN, bT, bF, eN]
  cases h with
  | nil =>
    refine gq1 ?_
    refine zdG hl ?_
    exact hK
  | box id cs hb =>
    refine zaZ hb ?_
    refine zdG hl ?_
    exact hK
theorem zcV {n : List UInt8} (h : NoT σ a) (hK : K (.tup [.d .nilp, .d (.int .i64 2)]) σ) : zi Try.prog zM [a, .d (.str n)] σ K := by
  refine acE2 zbO fun hl => ?_
  simp only [zbQ, iN, bT, bF, eN]
  cases h with
  | nil =>
    refine gq1 ?_
    refine zed .nil ?_
    refine gq1 ?_
    refine zdG hl ?_
    exact hK
  | box id cs hb =>
    refine gq1 ?_
    refine zed (.box id cs hb) ?_
    refine gq1 ?_
    refine zdG hl ?_
    exact hK
theorem zjR {n : List UInt8} (h : NoT σ a) (hK : K (.tup [.d (.int .i64 0), .d (.int .i64 0), .d (.int .i64 2)]) σ) : zi Try.prog zbt [a, .d (.str n)] σ K := by
  refine acE2 zeT fun hl => ?_
  simp only [zcz, iN, bT, bF, eN]
  cases h with
  | nil =>
    refine gq1 ?_
    refine zcV .nil ?_
    refine zaZ (show ((2 : Int) != 0) = true from rfl) ?_
    refine zdG hl ?_
    exact hK
  | box id cs hb =>
    refine gq1 ?_
    refine zcV (.box id cs hb) ?_
    refine zaZ (show ((2 : Int) != 0) = true from rfl) ?_
    refine zdG hl ?_
    exact hK
theorem c_noGet {n : List UInt8} {o : Int} (h : NoT σ a) (hK : K (.tup [.d (.slice []), .d (.int .i64 2)]) σ) : zi Try.prog zN [a, .d (.str n), .d (.int .i64 o)] σ K := by
  refine acE3 zbX fun hl => ?_
  simp only [zbY, iN, bT, bF, eN]
  cases h with
  | nil =>
    refine gq1 ?_
    refine zcV .nil ?_
    refine zaZ (show ((2 : Int) != 0) = true from rfl) ?_
    refine zdG hl ?_
    exact hK
  | box id cs hb =>
    refine gq1 ?_
    refine zcV (.box id cs hb) ?_
    refine zaZ (show ((2 : Int) != 0) = true from rfl) ?_
    refine zdG hl ?_
    exact hK
theorem zgw {n g : List UInt8} (h : NoT σ a) (hK : K (.tup [.d (.int .i64 0), .d (.int .i64 2)]) σ) : zi Try.prog zaW [a, .d (.str n), .d (.str g)] σ K := by
  refine acE3 zef fun hl => ?_
  simp only [zbT, iN, bT, bF, eN]
  cases h with
  | nil =>
    refine gq1 ?_
    refine zcV .nil ?_
    refine zaZ (show ((2 : Int) != 0) = true from rfl) ?_
    refine zdG hl ?_
    exact hK
  | box id cs hb =>
    refine gq1 ?_
    refine zcV (.box id cs hb) ?_
    refine zaZ (show ((2 : Int) != 0) = true from rfl) ?_
    refine zdG hl ?_
    exact hK
theorem zjP {n : List UInt8} (h : NoT σ a) (hK : K (.d (.slice [])) σ) : zi Try.prog zaQ [a, .d (.str n)] σ K := by
  refine acE2 zeR fun hl => ?_
  simp only [zcx, iN, bT, bF, eN]
  cases h with
  | nil =>
    refine gq1 ?_
    refine zcV .nil ?_
    refine zaZ (show ((2 : Int) != 0) = true from rfl) ?_
    refine zdG hl ?_
    exact hK
  | box id cs hb =>
    refine gq1 ?_
    refine zcV (.box id cs hb) ?_
    refine zaZ (show ((2 : Int) != 0) = true from rfl) ?_
    refine zdG hl ?_
    exact hK
theorem c_noNames (h : NoT σ a) (hK : K (.d (.slice [])) σ) : zi Try.prog zaS [a] σ K := by
  refine acE1 zfd fun hl => ?_
  simp only [zdh, iN, bT, bF, eN]
  cases h with
  | nil =>
    refine gq1 ?_
    refine zed .nil ?_
    refine gq1 ?_
    refine zdG hl ?_
    exact hK
  | box id cs hb =>
    refine gq1 ?_
    refine zed (.box id cs hb) ?_
    refine gq1 ?_
    refine zdG hl ?_
    exact hK
theorem c_noBytes (h : NoT σ a) (hK : K (.d (.slice [])) σ) : zi Try.prog zaT [a] σ K := by
  refine acE1 zff fun hl => ?_
  simp only [zdj, iN, bT, bF, eN]
  cases h with
  | nil =>
    refine gq1 ?_
    refine zed .nil ?_
    refine gq1 ?_
    refine zdG hl ?_
    exact hK
  | box id cs hb =>
    refine gq1 ?_
    refine zed (.box id cs hb) ?_
    refine gq1 ?_
    refine zdG hl ?_
    exact hK
theorem zjQ {x : AV} (h : NoT σ a) (hK : K (.d (.int .i64 0)) σ) : zi Try.prog zbs [a, x] σ K := by
  refine acE2 zeS fun hl => ?_
  simp only [zcy, iN, bT, bF, eN]
  cases h with
  | nil =>
    refine gq1 ?_
    refine zed .nil ?_
    refine gq1 ?_
    refine zdG hl ?_
    exact hK
  | box id cs hb =>
    refine gq1 ?_
    refine zed (.box id cs hb) ?_
    refine gq1 ?_
    refine zdG hl ?_
    exact hK
theorem c_noClone (h : NoT σ a) (hK : K (.d .nilp) σ) : zi Try.prog zbC [a] σ K := by
  refine acE1 zfe fun hl => ?_
  simp only [zdi, iN, bT, bF, eN]
  cases h with
  | nil =>
    refine gq1 ?_
    refine zed .nil ?_
    refine gq1 ?_
    refine zdG hl ?_
    exact hK
  | box id cs hb =>
    refine gq1 ?_
    refine zed (.box id cs hb) ?_
    refine gq1 ?_
    refine zdG hl ?_
    exact hK
theorem c_noLast {c : Int} (h : NoT σ a) (hK : K (.tup [.d (.int .i64 0), .agg [.d (.int .i64 0), .d (.int .i64 0)]]) σ) : zi Try.prog zbM [a, .d (.int .i64 c)] σ K := by
  refine acE2 zfF fun hl => ?_
  simp only [zdw, iN, bT, bF, eN]
  have h' := h.app [.box [.d (.int .i64 0), .d (.int .i64 0)]]
  cases h with
  | nil =>
    refine gq1 ?_
    refine zed h' ?_
    refine gq1 ?_
    refine zdG hl ?_
    exact hK
  | box id cs hb =>
    refine gq1 ?_
    refine zed h' ?_
    refine gq1 ?_
    refine zdG hl ?_
    exact hK
theorem c_noApply {c tm : Int} {o : TOp} (h : NoT σ a) (hK : K (.tup [.agg [.d (.int .i64 2), .d (.int .i64 0)], .d (.slice []), .d (.bool false)]) σ) : zi Try.prog zq [a, reqAg c tm o] σ K := by
  refine acE2 zbE fun hl => ?_
  simp only [zbG, iN, bT, bF, eN, reqAg]
  have h' := fun τ => h.app τ
  cases h with
  | nil =>
    refine gq1 ?_
    refine zed (h' _) ?_
    refine gq1 ?_
    refine zdG hl ?_
    exact hK
  | box id cs hb =>
    refine gq1 ?_
    refine zed (h' _) ?_
    refine gq1 ?_
    refine zdG hl ?_
    exact hK
end

end Go.Proofs.Ytaocmalhjfakdaa
