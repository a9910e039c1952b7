/- The conditions of each function, its slots as variables, and that the logic's conditions are these. Printed by program. -/
import Derived.Test.YtcappjcojggehaaAf2
set_option linter.all false
set_option maxRecDepth 100000
set_option linter.unusedVariables false
namespace Go.Proofs.Ytcappjcojggehaa
open Go.AW
/-- bulla/bullaref08.Digest -/
def zjF (P : Program) (x0 x1 : AV) (σ : List AObj) (Z : Option (List AV) → List AObj → Prop) : Prop :=
  ACall P zbT [dm x1] σ fun v1 s2 =>
  binC .neq .plain v1 (.d (.int .i64 0)) s2 fun v3 s4 =>
  condC v3 (Z (consO (some (.d (.int .i64 0))) (consO (some v1) (some []))) s4) (ACall P zef [dm (.exact []), dm x1] s4 fun v5 s6 =>
  ACall P zbB [dm x0, dm v5] s6 fun v7 s8 =>
  binC .eql .plain v7 (.d (.int .i64 0)) s8 fun v9 s10 =>
  condC v9 (Z (consO (some (.d (.int .i64 0))) (consO (some (.d (.int .i64 6))) (some []))) s10) (Z (consO (some v7) (consO (some (.d (.int .i64 0))) (some []))) s10))
theorem s_r08_Digest {P : Program} {x0 x1 : AV} {σ : List AObj} {Z : Option (List AV) → List AObj → Prop} (h : zjF P x0 x1 σ Z) : awp P zgh.body (AtEnd fun fr s => Z (resAs fr s zgh.res) s) (zH 0 [x0, x1]) σ :=
  cast (by kernel_rfl) h
/-- bulla/bullaref11.Vote -/
def zml (P : Program) (x0 x1 x2 x3 x4 x5 x6 : AV) (σ : List AObj) (Z : Option (List AV) → List AObj → Prop) : Prop :=
  zF [(.d (.int .i64 0)), (.d (.int .i64 0))] σ fun v1 s2 =>
  ACall P zkD [dm x3, dm x4, dm x5, dm x6] s2 fun v3 s4 =>
  unC .not v3 s4 fun v5 s6 =>
  condC v5 (zE (fillV [(.d (.int .i64 0)), (.d (.int .i64 0))] []) s6 fun v7 s8 =>
  zo 2 v1 v7 s8 fun _ s10 =>
  Z (consO (cellA v1 s10 true 2) (consO (some (.d (.int .i64 1))) (some []))) s10) (ACall P zdA [dm x3, dm x4, dm x5, dm x6] s6 fun v11 s12 =>
  ACall P zix [dm x0, dm x1, dm x2, dm v11] s12 fun v13 s14 =>
  zi v13 0 s14 fun v15 s16 =>
  zi v13 1 s16 fun v17 s18 =>
  zo 2 v1 v15 s18 fun _ s20 =>
  Z (consO (cellA v1 s20 true 2) (consO (some v17) (some []))) s20)
theorem s_r11_Vote {P : Program} {x0 x1 x2 x3 x4 x5 x6 : AV} {σ : List AObj} {Z : Option (List AV) → List AObj → Prop} (h : zml P x0 x1 x2 x3 x4 x5 x6 σ Z) : awp P zjd.body (AtEnd fun fr s => Z (resAs fr s zjd.res) s) (zH 0 [x0, x1, x2, x3, x4, x5, x6]) σ :=
  cast (by kernel_rfl) h
/-- (*bulla/ideal.Table).Sum -/
def zeD (P : Program) (x0 x1 : AV) (σ : List AObj) (Z : Option (List AV) → List AObj → Prop) : Prop :=
  ACall P zaW [dm x0] σ fun v1 s2 =>
  condC v1 (Z (consO (some (.d (.int .i64 0))) (some [])) s2) (nilC x0 s2 fun v3 s4 =>
  zh 1 v3 s4 fun v5 s6 =>
  loadC false 1 v5 s6 fun v7 s8 =>
  convC .toStr x1 s8 fun v9 s10 =>
  mgetC .str true (.d (.int .i64 0)) v7 v9 s10 fun v11 s12 =>
  zi v11 0 s12 fun v13 s14 =>
  zi v11 1 s14 fun v15 s16 =>
  condC v15 (Z (consO (some v13) (some [])) s16) (nilC x0 s16 fun v17 s18 =>
  zh 0 v17 s18 fun v19 s20 =>
  loadC false 1 v19 s20 fun v21 s22 =>
  lenC .sl v21 s22 fun v23 s24 =>
  binC .geq .plain v23 (.d (.int .i64 1048576)) s24 fun v25 s26 =>
  condC v25 (Z (consO (some (.d (.int .i64 0))) (some [])) s26) (nilC x0 s26 fun v27 s28 =>
  zh 0 v27 s28 fun v29 s30 =>
  loadC false 1 v29 s30 fun v31 s32 =>
  ACall P zbr [dm x1] s32 fun v33 s34 =>
  keepO v29 s32 s34 ∧ (zl false 1 1 (fillV (rep [(.exact [])] 1) [(0, 1, v33)]) s34 fun v35 s36 =>
  zt 1 24 v31 v35 s36 fun v37 s38 =>
  nilC x0 s38 fun v39 s40 =>
  zh 0 v39 s40 fun v41 s42 =>
  zo 1 v41 v37 s42 fun _ s44 =>
  nilC x0 s44 fun v45 s46 =>
  zh 0 v45 s46 fun v47 s48 =>
  loadC false 1 v47 s48 fun v49 s50 =>
  lenC .sl v49 s50 fun v51 s52 =>
  nilC x0 s52 fun v53 s54 =>
  zh 1 v53 s54 fun v55 s56 =>
  loadC false 1 v55 s56 fun v57 s58 =>
  convC .toStr x1 s58 fun v59 s60 =>
  msetC .str v57 v59 v51 s60 fun _ s62 =>
  Z (consO (some v51) (some [])) s62))))
theorem ziv {P : Program} {x0 x1 : AV} {σ : List AObj} {Z : Option (List AV) → List AObj → Prop} (h : zeD P x0 x1 σ Z) : awp P zcL.body (AtEnd fun fr s => Z (resAs fr s zcL.res) s) (zH 0 [x0, x1]) σ :=
  cast (by kernel_rfl) h
/-- (*bulla/ideal.Ledger).Sign -/
def zdN (P : Program) (x0 x1 x2 : AV) (σ : List AObj) (Z : Option (List AV) → List AObj → Prop) : Prop :=
  zF [(.d (.int .i64 0)), (.d (.int .i64 0))] σ fun v1 s2 =>
  ACall P zaP [dm x0] s2 fun v3 s4 =>
  condC v3 (zE (fillV [(.d (.int .i64 0)), (.d (.int .i64 0))] []) s4 fun v5 s6 =>
  zo 2 v1 v5 s6 fun _ s8 =>
  Z (consO (cellA v1 s8 true 2) (consO (some (.d (.int .i64 2))) (some []))) s8) (binC .lss .plain x1 (.d (.int .i64 0)) s4 fun v9 s10 =>
  zf v9 false (fun k => k x1 s10) s10 (fun v11 s12 =>
  zf v9 false (fun k => binC .geq .plain v11 (.d (.int .i64 21)) s12 k) s12 (fun v13 s14 =>
  pickC v9 (.d (.bool true)) v13 s14 fun v15 s16 =>
  condC v15 (zE (fillV [(.d (.int .i64 0)), (.d (.int .i64 0))] []) s16 fun v17 s18 =>
  zo 2 v1 v17 s18 fun _ s20 =>
  Z (consO (cellA v1 s20 true 2) (consO (some (.d (.int .i64 20))) (some []))) s20) (binC .lss .plain x2 (.d (.int .i64 1)) s16 fun v21 s22 =>
  condC v21 (zE (fillV [(.d (.int .i64 0)), (.d (.int .i64 0))] []) s22 fun v23 s24 =>
  zo 2 v1 v23 s24 fun _ s26 =>
  Z (consO (cellA v1 s26 true 2) (consO (some (.d (.int .i64 1))) (some []))) s26) (zE (fillV [(.d (.int .i64 0)), (.d (.int .i64 0))] [(0, 1, x1), (1, 1, x2)]) s22 fun v27 s28 =>
  zF [(.d (.int .i64 0)), (.d (.int .i64 0))] s28 fun v29 s30 =>
  zo 2 v29 v27 s30 fun _ s32 =>
  (fun (k33 : List AObj → Prop) => nilC x0 s32 fun v39 s40 =>
  zh 1 v39 s40 fun v41 s42 =>
  loadC false 1 v41 s42 fun v43 s44 =>
  loadC true 2 v29 s44 fun v45 s46 =>
  mgetC (.ints 2) false (.d (.bool false)) v43 v45 s46 fun v47 s48 =>
  unC .not v47 s48 fun v49 s50 =>
  condC v49 (nilC x0 s50 fun v51 s52 =>
  zh 1 v51 s52 fun v53 s54 =>
  loadC false 1 v53 s54 fun v55 s56 =>
  loadC true 2 v29 s56 fun v57 s58 =>
  msetC (.ints 2) v55 v57 (.d (.bool true)) s58 fun _ s60 =>
  nilC x0 s60 fun v61 s62 =>
  zh 0 v61 s62 fun v63 s64 =>
  loadC false 1 v63 s64 fun v65 s66 =>
  loadC true 2 v29 s66 fun v67 s68 =>
  zl false 2 1 (fillV (rep [(.d (.int .i64 0)), (.d (.int .i64 0))] 1) [(0, 2, v67)]) s68 fun v69 s70 =>
  zt 2 16 v65 v69 s70 fun v71 s72 =>
  nilC x0 s72 fun v73 s74 =>
  zh 0 v73 s74 fun v75 s76 =>
  zo 1 v75 v71 s76 fun _ s78 =>
  k33 s78) (k33 s50))
  (fun  s34 => loadC true 2 v29 s34 fun v35 s36 =>
  zo 2 v1 v35 s36 fun _ s38 =>
  Z (consO (cellA v1 s38 true 2) (consO (some (.d (.int .i64 0))) (some []))) s38))))))
theorem zhe {P : Program} {x0 x1 x2 : AV} {σ : List AObj} {Z : Option (List AV) → List AObj → Prop} (h : zdN P x0 x1 x2 σ Z) : awp P zcm.body (AtEnd fun fr s => Z (resAs fr s zcm.res) s) (zH 0 [x0, x1, x2]) σ :=
  cast (by kernel_rfl) h
/-- (*bulla/ideal.Table).Clone -/
def zdL (P : Program) (x0 : AV) (σ : List AObj) (Z : Option (List AV) → List AObj → Prop) : Prop :=
  ACall P zaW [dm x0] σ fun v1 s2 =>
  condC v1 (Z (consO (some (.d .nilp)) (some [])) s2) (nilC x0 s2 fun v3 s4 =>
  zh 0 v3 s4 fun v5 s6 =>
  loadC false 1 v5 s6 fun v7 s8 =>
  ACall P zfF [dm v7] s8 fun v9 s10 =>
  zi v9 0 s10 fun v11 s12 =>
  zi v9 1 s12 fun v13 s14 =>
  Z (consO (some v11) (some [])) s14)
theorem zhc {P : Program} {x0 : AV} {σ : List AObj} {Z : Option (List AV) → List AObj → Prop} (h : zdL P x0 σ Z) : awp P zck.body (AtEnd fun fr s => Z (resAs fr s zck.res) s) (zH 0 [x0]) σ :=
  cast (by kernel_rfl) h
/-- (*bulla/ideal.Ledger).Clone -/
def zdr (P : Program) (x0 : AV) (σ : List AObj) (Z : Option (List AV) → List AObj → Prop) : Prop :=
  ACall P zaP [dm x0] σ fun v1 s2 =>
  condC v1 (Z (consO (some (.d .nilp)) (some [])) s2) (ACall P zbG [] s2 fun v3 s4 =>
  nilC x0 s4 fun v5 s6 =>
  zh 0 v5 s6 fun v7 s8 =>
  loadC false 1 v7 s8 fun v9 s10 =>
  lenC .sl v9 s10 fun v11 s12 =>
  loopC [(.d (.int .i64 0))] s12 fun vs13 s14 again15 =>
  headC vs13 fun v16 vs17 =>
  binC .lss .plain v16 v11 s14 fun v18 s19 =>
  condC v18 (zy none 2 v9 v16 s19 fun v20 s21 =>
  loadC true 2 v20 s21 fun v22 s23 =>
  zF [(.d (.int .i64 0)), (.d (.int .i64 0))] s23 fun v24 s25 =>
  zo 2 v24 v22 s25 fun _ s27 =>
  zh 0 v24 s27 fun v28 s29 =>
  loadC false 1 v28 s29 fun v30 s31 =>
  zh 1 v24 s31 fun v32 s33 =>
  loadC false 1 v32 s33 fun v34 s35 =>
  ACall P zbq [dm v3, dm v30, dm v34] s35 fun v36 s37 =>
  binC .add .plain v16 (.d (.int .i64 1)) s37 fun v38 s39 =>
  again15 [v38] s39) (Z (consO (some v3) (some [])) s19))
theorem zgE {P : Program} {x0 : AV} {σ : List AObj} {Z : Option (List AV) → List AObj → Prop} (h : zdr P x0 σ Z) : awp P zbP.body (AtEnd fun fr s => Z (resAs fr s zbP.res) s) (zH 0 [x0]) σ :=
  cast (by kernel_rfl) h
/-- bulla/quorum.Check -/
def zgS (P : Program) (x0 : AV) (σ : List AObj) (Z : Option (List AV) → List AObj → Prop) : Prop :=
  binC .lss .plain x0 (.d (.int .i64 1)) σ fun v1 s2 =>
  zf v1 false (fun k => k x0 s2) s2 (fun v3 s4 =>
  zf v1 false (fun k => binC .gtr .plain v3 (.d (.int .i64 4)) s4 k) s4 (fun v5 s6 =>
  pickC v1 (.d (.bool true)) v5 s6 fun v7 s8 =>
  condC v7 (Z (consO (some (.d (.int .i64 120))) (some [])) s8) (Z (consO (some (.d (.int .i64 0))) (some [])) s8)))
theorem zlw {P : Program} {x0 : AV} {σ : List AObj} {Z : Option (List AV) → List AObj → Prop} (h : zgS P x0 σ Z) : awp P zel.body (AtEnd fun fr s => Z (resAs fr s zel.res) s) (zH 0 [x0]) σ :=
  cast (by kernel_rfl) h
/-- bulla/request.ValidBatch -/
def zdn (P : Program) (x0 x1 x2 : AV) (σ : List AObj) (Z : Option (List AV) → List AObj → Prop) : Prop :=
  boxC x0 σ fun v1 s2 =>
  boxC x1 s2 fun v3 s4 =>
  ACall P zbc [dm x2] s4 fun v5 s6 =>
  binC .eql .plain v5 (.d (.int .i64 0)) s6 fun v7 s8 =>
  zf v7 true (fun k => k x2 s8) s8 (fun v9 s10 =>
  zf v7 true (fun k => k (.fn (.func zcC) [] [v1, v3]) s10) s10 (fun v11 s12 =>
  zf v7 true (fun k => ACall P zal [dm v9, dm v11] s12 k) s12 (fun v13 s14 =>
  zf v7 true (fun k => unC .not v13 s14 k) s14 (fun v15 s16 =>
  pickC v7 v15 (.d (.bool false)) s16 fun v17 s18 =>
  Z (consO (some v17) (some [])) s18))))
theorem zgA {P : Program} {x0 x1 x2 : AV} {σ : List AObj} {Z : Option (List AV) → List AObj → Prop} (h : zdn P x0 x1 x2 σ Z) : awp P zbL.body (AtEnd fun fr s => Z (resAs fr s zbL.res) s) (zH 0 [x0, x1, x2]) σ :=
  cast (by kernel_rfl) h
/-- (*bulla/ideal.Table).Look -/
def zed (P : Program) (x0 x1 : AV) (σ : List AObj) (Z : Option (List AV) → List AObj → Prop) : Prop :=
  ACall P zaW [dm x0] σ fun v1 s2 =>
  condC v1 (Z (consO (some (.d (.int .i64 0))) (consO (some (.d (.bool false))) (some []))) s2) (nilC x0 s2 fun v3 s4 =>
  zh 1 v3 s4 fun v5 s6 =>
  loadC false 1 v5 s6 fun v7 s8 =>
  convC .toStr x1 s8 fun v9 s10 =>
  mgetC .str true (.d (.int .i64 0)) v7 v9 s10 fun v11 s12 =>
  zi v11 0 s12 fun v13 s14 =>
  zi v11 1 s14 fun v15 s16 =>
  Z (consO (some v13) (consO (some v15) (some []))) s16)
theorem zhE {P : Program} {x0 x1 : AV} {σ : List AObj} {Z : Option (List AV) → List AObj → Prop} (h : zed P x0 x1 σ Z) : awp P zcA.body (AtEnd fun fr s => Z (resAs fr s zcA.res) s) (zH 0 [x0, x1]) σ :=
  cast (by kernel_rfl) h
/-- bulla/request.PutBatch -/
def zeb (P : Program) (x0 x1 : AV) (σ : List AObj) (Z : Option (List AV) → List AObj → Prop) : Prop :=
  ACall P zbc [dm x1] σ fun v1 s2 =>
  binC .neq .plain v1 (.d (.int .i64 0)) s2 fun v3 s4 =>
  condC v3 (ACall P zbr [dm x0] s4 fun v5 s6 =>
  Z (consO (some v5) (some [])) s6) (zY P (.fn (.func zcb) [x1] []) [dm x0] s4 fun v7 s8 =>
  Z (consO (some v7) (some [])) s8)
theorem zhC {P : Program} {x0 x1 : AV} {σ : List AObj} {Z : Option (List AV) → List AObj → Prop} (h : zeb P x0 x1 σ Z) : awp P zcy.body (AtEnd fun fr s => Z (resAs fr s zcy.res) s) (zH 0 [x0, x1]) σ :=
  cast (by kernel_rfl) h
/-- bulla/quorum.Primary -/
def zfi (P : Program) (x0 x1 : AV) (σ : List AObj) (Z : Option (List AV) → List AObj → Prop) : Prop :=
  ACall P zeP [dm x0, dm x1] σ fun v1 s2 =>
  unC .not v1 s2 fun v3 s4 =>
  condC v3 (Z (consO (some (.d (.int .i64 (-1)))) (some [])) s4) (ACall P zbU [dm x0] s4 fun v5 s6 =>
  binC .rem .plain x1 v5 s6 fun v7 s8 =>
  Z (consO (some v7) (some [])) s8)
theorem zjO {P : Program} {x0 x1 : AV} {σ : List AObj} {Z : Option (List AV) → List AObj → Prop} (h : zfi P x0 x1 σ Z) : awp P zda.body (AtEnd fun fr s => Z (resAs fr s zda.res) s) (zH 0 [x0, x1]) σ :=
  cast (by kernel_rfl) h
/-- bulla/auth.ValidVote -/
def zfr (P : Program) (x0 x1 x2 x3 x4 x5 x6 x7 : AV) (σ : List AObj) (Z : Option (List AV) → List AObj → Prop) : Prop :=
  boxC x2 σ fun v1 s2 =>
  ACall P zhh [dm x0, dm x1] s2 fun v3 s4 =>
  zf v3 true (fun k => k x4 s4) s4 (fun v5 s6 =>
  zf v3 true (fun k => k x5 s6) s6 (fun v7 s8 =>
  zf v3 true (fun k => k x6 s8) s8 (fun v9 s10 =>
  zf v3 true (fun k => k x7 s10) s10 (fun v11 s12 =>
  zf v3 true (fun k => ACall P ziE [dm v5, dm v7, dm v9, dm v11] s12 k) s12 (fun v13 s14 =>
  pickC v3 v13 (.d (.bool false)) s14 fun v15 s16 =>
  zf v15 true (fun k => k x0 s16) s16 (fun v17 s18 =>
  zf v15 true (fun k => k x1 s18) s18 (fun v19 s20 =>
  zf v15 true (fun k => loadC true 2 v1 s20 k) s20 (fun v21 s22 =>
  zf v15 true (fun k => k x3 s22) s22 (fun v23 s24 =>
  zf v15 true (fun k => k x4 s24) s24 (fun v25 s26 =>
  zf v15 true (fun k => k x5 s26) s26 (fun v27 s28 =>
  zf v15 true (fun k => k x6 s28) s28 (fun v29 s30 =>
  zf v15 true (fun k => k x7 s30) s30 (fun v31 s32 =>
  zf v15 true (fun k => ACall P zcW [dm v25, dm v27, dm v29, dm v31] s32 k) s32 (fun v33 s34 =>
  keepO v1 s32 s34 ∧ (zf v15 true (fun k => ACall P zeS [dm v17, dm v19, dm v21, dm v23, dm v33] s34 k) s34 (fun v35 s36 =>
  pickC v15 v35 (.d (.bool false)) s36 fun v37 s38 =>
  Z (consO (some v37) (some [])) s38))))))))))))))))
theorem zjX {P : Program} {x0 x1 x2 x3 x4 x5 x6 x7 : AV} {σ : List AObj} {Z : Option (List AV) → List AObj → Prop} (h : zfr P x0 x1 x2 x3 x4 x5 x6 x7 σ Z) : awp P zdj.body (AtEnd fun fr s => Z (resAs fr s zdj.res) s) (zH 0 [x0, x1, x2, x3, x4, x5, x6, x7]) σ :=
  cast (by kernel_rfl) h
/-- bulla/quorum.Brokers -/
def zfj (P : Program) (x0 : AV) (σ : List AObj) (Z : Option (List AV) → List AObj → Prop) : Prop :=
  ACall P zeg [dm (.d (.int .i64 3)), dm x0] σ fun v1 s2 =>
  Z (consO (some v1) (some [])) s2
theorem zjP {P : Program} {x0 : AV} {σ : List AObj} {Z : Option (List AV) → List AObj → Prop} (h : zfj P x0 σ Z) : awp P zdb.body (AtEnd fun fr s => Z (resAs fr s zdb.res) s) (zH 0 [x0]) σ :=
  cast (by kernel_rfl) h
/-- slices.Clone[[]bulla/api.Sign,bulla/api.Sign] -/
def zba (P : Program) (x0 : AV) (σ : List AObj) (Z : Option (List AV) → List AObj → Prop) : Prop :=
  zW false x0 σ fun v1 s2 =>
  condC v1 (Z (consO (some (.exact [])) (some [])) s2) (zl false 2 0 (fillV (rep [(.d (.int .i64 0)), (.d (.int .i64 0))] 0) []) s2 fun v3 s4 =>
  zt 2 16 v3 x0 s4 fun v5 s6 =>
  Z (consO (some v5) (some [])) s6)
theorem zcB {P : Program} {x0 : AV} {σ : List AObj} {Z : Option (List AV) → List AObj → Prop} (h : zba P x0 σ Z) : awp P zaE.body (AtEnd fun fr s => Z (resAs fr s zaE.res) s) (zH 0 [x0]) σ :=
  cast (by kernel_rfl) h
/-- bulla/request.Clone -/
def zfZ (P : Program) (x0 : AV) (σ : List AObj) (Z : Option (List AV) → List AObj → Prop) : Prop :=
  lenC .sl x0 σ fun v1 s2 =>
  loopC [(.exact []), (.d (.int .i64 0))] s2 fun vs3 s4 again5 =>
  headC vs3 fun v6 vs7 =>
  headC vs7 fun v8 vs9 =>
  binC .lss .plain v8 v1 s4 fun v10 s11 =>
  condC v10 (zy none 9 x0 v8 s11 fun v12 s13 =>
  loadC true 9 v12 s13 fun v14 s15 =>
  zF [(.d (.int .i64 0)), (.d (.int .i64 0)), (.d (.int .i64 0)), (.d (.str [])), (.d (.str [])), (.d (.int .i64 0)), (.exact []), (.d (.int .i64 0)), (.d (.int .i64 0))] s15 fun v16 s17 =>
  zo 9 v16 v14 s17 fun _ s19 =>
  zh 0 v16 s19 fun v20 s21 =>
  zh 2 v20 s21 fun v22 s23 =>
  loadC true 5 v22 s23 fun v24 s25 =>
  ACall P ziB [dm v24] s25 fun v26 s27 =>
  zh 0 v16 s27 fun v28 s29 =>
  zh 2 v28 s29 fun v30 s31 =>
  zo 5 v30 v26 s31 fun _ s33 =>
  loadC true 9 v16 s33 fun v34 s35 =>
  zl false 9 1 (fillV (rep [(.d (.int .i64 0)), (.d (.int .i64 0)), (.d (.int .i64 0)), (.d (.str [])), (.d (.str [])), (.d (.int .i64 0)), (.exact []), (.d (.int .i64 0)), (.d (.int .i64 0))] 1) [(0, 9, v34)]) s35 fun v36 s37 =>
  zt 9 104 v6 v36 s37 fun v38 s39 =>
  binC .add .plain v8 (.d (.int .i64 1)) s39 fun v40 s41 =>
  again5 [v38, v40] s41) (Z (consO (some v6) (some [])) s11)
theorem zkt {P : Program} {x0 : AV} {σ : List AObj} {Z : Option (List AV) → List AObj → Prop} (h : zfZ P x0 σ Z) : awp P zdP.body (AtEnd fun fr s => Z (resAs fr s zdP.res) s) (zH 0 [x0]) σ :=
  cast (by kernel_rfl) h
/-- bulla/bullaref08.Bytes -/
def zlf (P : Program) (x0 : AV) (σ : List AObj) (Z : Option (List AV) → List AObj → Prop) : Prop :=
  boxC x0 σ fun v1 s2 =>
  loadC true 7 v1 s2 fun v3 s4 =>
  ACall P zeM [dm v3] s4 fun v5 s6 =>
  binC .neq .plain v5 (.d (.int .i64 0)) s6 fun v7 s8 =>
  condC v7 (Z (consO (some (.exact [])) (consO (some v5) (some []))) s8) (zh 0 v1 s8 fun v9 s10 =>
  loadC false 1 v9 s10 fun v11 s12 =>
  convC (.int .u64) v11 s12 fun v13 s14 =>
  ACall P zaB [dm (.exact []), dm v13] s14 fun v15 s16 =>
  zh 1 v1 s16 fun v17 s18 =>
  loadC false 1 v17 s18 fun v19 s20 =>
  convC (.int .u64) v19 s20 fun v21 s22 =>
  ACall P zaB [dm v15, dm v21] s22 fun v23 s24 =>
  zh 2 v1 s24 fun v25 s26 =>
  loadC true 5 v25 s26 fun v27 s28 =>
  ACall P zkE [dm v23, dm v27] s28 fun v29 s30 =>
  Z (consO (some v29) (consO (some (.d (.int .i64 0))) (some []))) s30)
theorem s_r08_Bytes {P : Program} {x0 : AV} {σ : List AObj} {Z : Option (List AV) → List AObj → Prop} (h : zlf P x0 σ Z) : awp P zhu.body (AtEnd fun fr s => Z (resAs fr s zhu.res) s) (zH 0 [x0]) σ :=
  cast (by kernel_rfl) h
/-- (*bulla/bullaref02.Ledger).Sign -/
def zeC (P : Program) (x0 x1 x2 : AV) (σ : List AObj) (Z : Option (List AV) → List AObj → Prop) : Prop :=
  zF [(.d (.int .i64 0)), (.d (.int .i64 0))] σ fun v1 s2 =>
  binC .lss .plain x1 (.d (.int .i64 0)) s2 fun v3 s4 =>
  zf v3 false (fun k => k x1 s4) s4 (fun v5 s6 =>
  zf v3 false (fun k => binC .geq .plain v5 (.d (.int .i64 21)) s6 k) s6 (fun v7 s8 =>
  pickC v3 (.d (.bool true)) v7 s8 fun v9 s10 =>
  condC v9 (zE (fillV [(.d (.int .i64 0)), (.d (.int .i64 0))] []) s10 fun v11 s12 =>
  zo 2 v1 v11 s12 fun _ s14 =>
  Z (consO (cellA v1 s14 true 2) (consO (some (.d (.int .i64 20))) (some []))) s14) (binC .lss .plain x2 (.d (.int .i64 1)) s10 fun v15 s16 =>
  condC v15 (zE (fillV [(.d (.int .i64 0)), (.d (.int .i64 0))] []) s16 fun v17 s18 =>
  zo 2 v1 v17 s18 fun _ s20 =>
  Z (consO (cellA v1 s20 true 2) (consO (some (.d (.int .i64 1))) (some []))) s20) (zE (fillV [(.d (.int .i64 0)), (.d (.int .i64 0))] [(0, 1, x1), (1, 1, x2)]) s16 fun v21 s22 =>
  zF [(.d (.int .i64 0)), (.d (.int .i64 0))] s22 fun v23 s24 =>
  zo 2 v23 v21 s24 fun _ s26 =>
  (fun (k27 : List AObj → Prop) => loadC true 2 v23 s26 fun v33 s34 =>
  ACall P zcc [dm x0, dm v33] s34 fun v35 s36 =>
  unC .not v35 s36 fun v37 s38 =>
  condC v37 (nilC x0 s38 fun v39 s40 =>
  zh 0 v39 s40 fun v41 s42 =>
  loadC false 1 v41 s42 fun v43 s44 =>
  loadC true 2 v23 s44 fun v45 s46 =>
  zl false 2 1 (fillV (rep [(.d (.int .i64 0)), (.d (.int .i64 0))] 1) [(0, 2, v45)]) s46 fun v47 s48 =>
  zt 2 16 (.exact []) v43 s48 fun v49 s50 =>
  keepO v23 s48 s50 ∧ (zt 2 16 v49 v47 s50 fun v51 s52 =>
  nilC x0 s52 fun v53 s54 =>
  zh 0 v53 s54 fun v55 s56 =>
  zo 1 v55 v51 s56 fun _ s58 =>
  k27 s58)) (k27 s38))
  (fun  s28 => loadC true 2 v23 s28 fun v29 s30 =>
  zo 2 v1 v29 s30 fun _ s32 =>
  Z (consO (cellA v1 s32 true 2) (consO (some (.d (.int .i64 0))) (some []))) s32)))))
theorem ziu {P : Program} {x0 x1 x2 : AV} {σ : List AObj} {Z : Option (List AV) → List AObj → Prop} (h : zeC P x0 x1 x2 σ Z) : awp P zcK.body (AtEnd fun fr s => Z (resAs fr s zcK.res) s) (zH 0 [x0, x1, x2]) σ :=
  cast (by kernel_rfl) h
/-- bulla/bullaref08.Key -/
def S_r08_Key (P : Program) (x0 : AV) (σ : List AObj) (Z : Option (List AV) → List AObj → Prop) : Prop :=
  binC .lss .plain x0 (.d (.int .i64 0)) σ fun v1 s2 =>
  zf v1 false (fun k => k x0 s2) s2 (fun v3 s4 =>
  zf v1 false (fun k => binC .geq .plain v3 (.d (.int .i64 8)) s4 k) s4 (fun v5 s6 =>
  pickC v1 (.d (.bool true)) v5 s6 fun v7 s8 =>
  condC v7 (Z (consO (some (.d (.int .i64 (-1)))) (some [])) s8) (binC .add .plain (.d (.int .i64 13)) x0 s8 fun v9 s10 =>
  Z (consO (some v9) (some [])) s10)))
theorem s_r08_Key {P : Program} {x0 : AV} {σ : List AObj} {Z : Option (List AV) → List AObj → Prop} (h : S_r08_Key P x0 σ Z) : awp P zlo.body (AtEnd fun fr s => Z (resAs fr s zlo.res) s) (zH 0 [x0]) σ :=
  cast (by kernel_rfl) h
/-- (*bulla/bullaref02.Table).Sum -/
def zge (P : Program) (x0 x1 : AV) (σ : List AObj) (Z : Option (List AV) → List AObj → Prop) : Prop :=
  ACall P zcT [dm x0, dm x1] σ fun v1 s2 =>
  zi v1 0 s2 fun v3 s4 =>
  zi v1 1 s4 fun v5 s6 =>
  condC v5 (Z (consO (some v3) (some [])) s6) (nilC x0 s6 fun v7 s8 =>
  zh 0 v7 s8 fun v9 s10 =>
  loadC false 1 v9 s10 fun v11 s12 =>
  lenC .sl v11 s12 fun v13 s14 =>
  binC .geq .plain v13 (.d (.int .i64 1048576)) s14 fun v15 s16 =>
  condC v15 (Z (consO (some (.d (.int .i64 0))) (some [])) s16) (nilC x0 s16 fun v17 s18 =>
  zh 0 v17 s18 fun v19 s20 =>
  loadC false 1 v19 s20 fun v21 s22 =>
  zt 1 24 (.exact []) v21 s22 fun v23 s24 =>
  zt 1 1 (.exact []) x1 s24 fun v25 s26 =>
  zl false 1 1 (fillV (rep [(.exact [])] 1) [(0, 1, v25)]) s26 fun v27 s28 =>
  zt 1 24 v23 v27 s28 fun v29 s30 =>
  nilC x0 s30 fun v31 s32 =>
  zh 0 v31 s32 fun v33 s34 =>
  zo 1 v33 v29 s34 fun _ s36 =>
  nilC x0 s36 fun v37 s38 =>
  zh 0 v37 s38 fun v39 s40 =>
  loadC false 1 v39 s40 fun v41 s42 =>
  lenC .sl v41 s42 fun v43 s44 =>
  Z (consO (some v43) (some [])) s44))
theorem zky {P : Program} {x0 x1 : AV} {σ : List AObj} {Z : Option (List AV) → List AObj → Prop} (h : zge P x0 x1 σ Z) : awp P zdU.body (AtEnd fun fr s => Z (resAs fr s zdU.res) s) (zH 0 [x0, x1]) σ :=
  cast (by kernel_rfl) h
/-- bulla/bullaref08.CheckBatch -/
def zfg (P : Program) (x0 : AV) (σ : List AObj) (Z : Option (List AV) → List AObj → Prop) : Prop :=
  lenC .sl x0 σ fun v1 s2 =>
  binC .gtr .plain v1 (.d (.int .i64 4)) s2 fun v3 s4 =>
  condC v3 (Z (consO (some (.d (.int .i64 3))) (some [])) s4) (loopC [(.d (.int .i64 0))] s4 fun vs5 s6 again7 =>
  headC vs5 fun v8 vs9 =>
  lenC .sl x0 s6 fun v10 s11 =>
  binC .lss .plain v8 v10 s11 fun v12 s13 =>
  condC v12 (zy none 9 x0 v8 s13 fun v14 s15 =>
  zh 0 v14 s15 fun v16 s17 =>
  loadC true 7 v16 s17 fun v18 s19 =>
  ACall P zeM [dm v18] s19 fun v20 s21 =>
  binC .neq .plain v20 (.d (.int .i64 0)) s21 fun v22 s23 =>
  condC v22 (Z (consO (some v20) (some [])) s23) (zy none 9 x0 v8 s23 fun v24 s25 =>
  zh 7 v24 s25 fun v26 s27 =>
  loadC true 2 v26 s27 fun v28 s29 =>
  ACall P zcu [dm v28] s29 fun v30 s31 =>
  binC .neq .plain v30 (.d (.int .i64 0)) s31 fun v32 s33 =>
  condC v32 (Z (consO (some v30) (some [])) s33) (binC .add .plain v8 (.d (.int .i64 1)) s33 fun v34 s35 =>
  again7 [v34] s35))) (loopC [(.d (.int .i64 0))] s13 fun vs36 s37 again38 =>
  headC vs36 fun v39 vs40 =>
  lenC .sl x0 s37 fun v41 s42 =>
  binC .lss .plain v39 v41 s42 fun v43 s44 =>
  condC v43 (loopC [(.d (.int .i64 0))] s44 fun vs45 s46 again47 =>
  headC vs45 fun v48 vs49 =>
  binC .lss .plain v48 v39 s46 fun v50 s51 =>
  condC v50 (zy none 9 x0 v39 s51 fun v52 s53 =>
  zh 0 v52 s53 fun v54 s55 =>
  zh 0 v54 s55 fun v56 s57 =>
  loadC false 1 v56 s57 fun v58 s59 =>
  zy none 9 x0 v48 s59 fun v60 s61 =>
  zh 0 v60 s61 fun v62 s63 =>
  zh 0 v62 s63 fun v64 s65 =>
  loadC false 1 v64 s65 fun v66 s67 =>
  binC .eql .plain v58 v66 s67 fun v68 s69 =>
  zf v68 true (fun k => k x0 s69) s69 (fun v70 s71 =>
  zf v68 true (fun k => k v39 s71) s71 (fun v72 s73 =>
  zf v68 true (fun k => zy none 9 v70 v72 s73 k) s73 (fun v74 s75 =>
  zf v68 true (fun k => zh 0 v74 s75 k) s75 (fun v76 s77 =>
  zf v68 true (fun k => zh 1 v76 s77 k) s77 (fun v78 s79 =>
  zf v68 true (fun k => loadC false 1 v78 s79 k) s79 (fun v80 s81 =>
  zf v68 true (fun k => k x0 s81) s81 (fun v82 s83 =>
  zf v68 true (fun k => k v48 s83) s83 (fun v84 s85 =>
  zf v68 true (fun k => zy none 9 v82 v84 s85 k) s85 (fun v86 s87 =>
  zf v68 true (fun k => zh 0 v86 s87 k) s87 (fun v88 s89 =>
  zf v68 true (fun k => zh 1 v88 s89 k) s89 (fun v90 s91 =>
  zf v68 true (fun k => loadC false 1 v90 s91 k) s91 (fun v92 s93 =>
  zf v68 true (fun k => binC .eql .plain v80 v92 s93 k) s93 (fun v94 s95 =>
  pickC v68 v94 (.d (.bool false)) s95 fun v96 s97 =>
  condC v96 (Z (consO (some (.d (.int .i64 5))) (some [])) s97) (binC .add .plain v48 (.d (.int .i64 1)) s97 fun v98 s99 =>
  again47 [v98] s99))))))))))))))) (binC .add .plain v39 (.d (.int .i64 1)) s51 fun v100 s101 =>
  again38 [v100] s101)) (Z (consO (some (.d (.int .i64 0))) (some [])) s44)))
theorem zjM {P : Program} {x0 : AV} {σ : List AObj} {Z : Option (List AV) → List AObj → Prop} (h : zfg P x0 σ Z) : awp P zcY.body (AtEnd fun fr s => Z (resAs fr s zcY.res) s) (zH 0 [x0]) σ :=
  cast (by kernel_rfl) h
/-- bulla/bullaref08.PutBatch -/
def zgP (P : Program) (x0 x1 : AV) (σ : List AObj) (Z : Option (List AV) → List AObj → Prop) : Prop :=
  ACall P zbT [dm x1] σ fun v1 s2 =>
  binC .neq .plain v1 (.d (.int .i64 0)) s2 fun v3 s4 =>
  condC v3 (Z (consO (some x0) (some [])) s4) (lenC .sl x1 s4 fun v5 s6 =>
  convC (.int .u64) v5 s6 fun v7 s8 =>
  ACall P zaB [dm x0, dm v7] s8 fun v9 s10 =>
  loopC [v9, (.d (.int .i64 0))] s10 fun vs11 s12 again13 =>
  headC vs11 fun v14 vs15 =>
  headC vs15 fun v16 vs17 =>
  lenC .sl x1 s12 fun v18 s19 =>
  binC .lss .plain v16 v18 s19 fun v20 s21 =>
  condC v20 (zy none 9 x1 v16 s21 fun v22 s23 =>
  zh 0 v22 s23 fun v24 s25 =>
  loadC true 7 v24 s25 fun v26 s27 =>
  ACall P zeN [dm v26] s27 fun v28 s29 =>
  zi v28 0 s29 fun v30 s31 =>
  zi v28 1 s31 fun v32 s33 =>
  zy none 9 x1 v16 s33 fun v34 s35 =>
  zh 7 v34 s35 fun v36 s37 =>
  loadC true 2 v36 s37 fun v38 s39 =>
  ACall P zbw [dm v14, dm v30] s39 fun v40 s41 =>
  keepO v36 s39 s41 ∧ (ACall P zeL [dm v40, dm v38] s41 fun v42 s43 =>
  binC .add .plain v16 (.d (.int .i64 1)) s43 fun v44 s45 =>
  again13 [v42, v44] s45)) (Z (consO (some v14) (some [])) s21))
theorem zlt {P : Program} {x0 x1 : AV} {σ : List AObj} {Z : Option (List AV) → List AObj → Prop} (h : zgP P x0 x1 σ Z) : awp P zei.body (AtEnd fun fr s => Z (resAs fr s zei.res) s) (zH 0 [x0, x1]) σ :=
  cast (by kernel_rfl) h
/-- bulla/bullaref11.may -/
def S_r11_may (P : Program) (x0 x1 x2 x3 : AV) (σ : List AObj) (Z : Option (List AV) → List AObj → Prop) : Prop :=
  ACall P zeq [dm x0] σ fun v1 s2 =>
  zf v1 true (fun k => k x1 s2) s2 (fun v3 s4 =>
  zf v1 true (fun k => ACall P zeq [dm v3] s4 k) s4 (fun v5 s6 =>
  pickC v1 v5 (.d (.bool false)) s6 fun v7 s8 =>
  zf v7 true (fun k => k x2 s8) s8 (fun v9 s10 =>
  zf v7 true (fun k => ACall P zeq [dm v9] s10 k) s10 (fun v11 s12 =>
  pickC v7 v11 (.d (.bool false)) s12 fun v13 s14 =>
  zf v13 true (fun k => k x3 s14) s14 (fun v15 s16 =>
  zf v13 true (fun k => ACall P zeq [dm v15] s16 k) s16 (fun v17 s18 =>
  pickC v13 v17 (.d (.bool false)) s18 fun v19 s20 =>
  Z (consO (some v19) (some [])) s20))))))
theorem s_r11_may {P : Program} {x0 x1 x2 x3 : AV} {σ : List AObj} {Z : Option (List AV) → List AObj → Prop} (h : S_r11_may P x0 x1 x2 x3 σ Z) : awp P zln.body (AtEnd fun fr s => Z (resAs fr s zln.res) s) (zH 0 [x0, x1, x2, x3]) σ :=
  cast (by kernel_rfl) h
/-- bulla/bullaref11.sign -/
def zmk (P : Program) (x0 x1 x2 x3 : AV) (σ : List AObj) (Z : Option (List AV) → List AObj → Prop) : Prop :=
  zF [(.d (.int .i64 0)), (.d (.int .i64 0))] σ fun v1 s2 =>
  ACall P zbB [dm x0, dm x3] s2 fun v3 s4 =>
  binC .eql .plain v3 (.d (.int .i64 0)) s4 fun v5 s6 =>
  condC v5 (zE (fillV [(.d (.int .i64 0)), (.d (.int .i64 0))] []) s6 fun v7 s8 =>
  zo 2 v1 v7 s8 fun _ s10 =>
  Z (consO (cellA v1 s10 true 2) (consO (some (.d (.int .i64 6))) (some []))) s10) (ACall P zbE [dm x1, dm x2, dm v3] s6 fun v11 s12 =>
  zi v11 0 s12 fun v13 s14 =>
  zi v11 1 s14 fun v15 s16 =>
  zo 2 v1 v13 s16 fun _ s18 =>
  Z (consO (cellA v1 s18 true 2) (consO (some v15) (some []))) s18)
theorem s_r11_sign {P : Program} {x0 x1 x2 x3 : AV} {σ : List AObj} {Z : Option (List AV) → List AObj → Prop} (h : zmk P x0 x1 x2 x3 σ Z) : awp P zjc.body (AtEnd fun fr s => Z (resAs fr s zjc.res) s) (zH 0 [x0, x1, x2, x3]) σ :=
  cast (by kernel_rfl) h
/-- bulla/bullaref11.VoteBytes -/
def zgc (P : Program) (x0 x1 x2 x3 : AV) (σ : List AObj) (Z : Option (List AV) → List AObj → Prop) : Prop :=
  zl false 1 1 (fillV (rep [(.d (.int .u8 0))] 1) [(0, 1, (.d (.int .u8 4)))]) σ fun v1 s2 =>
  ACall P zep [dm v1, dm x0] s2 fun v3 s4 =>
  ACall P zep [dm v3, dm x1] s4 fun v5 s6 =>
  ACall P zep [dm v5, dm x2] s6 fun v7 s8 =>
  ACall P zep [dm v7, dm x3] s8 fun v9 s10 =>
  Z (consO (some v9) (some [])) s10
theorem zkw {P : Program} {x0 x1 x2 x3 : AV} {σ : List AObj} {Z : Option (List AV) → List AObj → Prop} (h : zgc P x0 x1 x2 x3 σ Z) : awp P zdS.body (AtEnd fun fr s => Z (resAs fr s zdS.res) s) (zH 0 [x0, x1, x2, x3]) σ :=
  cast (by kernel_rfl) h
/-- (*bulla/ideal.Table).none -/
def zec (P : Program) (x0 : AV) (σ : List AObj) (Z : Option (List AV) → List AObj → Prop) : Prop :=
  binC .eql .ptr x0 (.d .nilp) σ fun v1 s2 =>
  zf v1 false (fun k => k x0 s2) s2 (fun v3 s4 =>
  zf v1 false (fun k => nilC v3 s4 k) s4 (fun v5 s6 =>
  zf v1 false (fun k => zh 1 v5 s6 k) s6 (fun v7 s8 =>
  zf v1 false (fun k => loadC false 1 v7 s8 k) s8 (fun v9 s10 =>
  zf v1 false (fun k => binC .eql .map v9 (.d .nilmap) s10 k) s10 (fun v11 s12 =>
  pickC v1 (.d (.bool true)) v11 s12 fun v13 s14 =>
  Z (consO (some v13) (some [])) s14)))))
theorem zhD {P : Program} {x0 : AV} {σ : List AObj} {Z : Option (List AV) → List AObj → Prop} (h : zec P x0 σ Z) : awp P zcz.body (AtEnd fun fr s => Z (resAs fr s zcz.res) s) (zH 0 [x0]) σ :=
  cast (by kernel_rfl) h
/-- bytes.Clone -/
def ziq (P : Program) (x0 : AV) (σ : List AObj) (Z : Option (List AV) → List AObj → Prop) : Prop :=
  zW false x0 σ fun v1 s2 =>
  condC v1 (Z (consO (some (.exact [])) (some [])) s2) (zl false 1 0 (fillV (rep [(.d (.int .u8 0))] 0) []) s2 fun v3 s4 =>
  zt 1 1 v3 x0 s4 fun v5 s6 =>
  Z (consO (some v5) (some [])) s6)
theorem zmC {P : Program} {x0 : AV} {σ : List AObj} {Z : Option (List AV) → List AObj → Prop} (h : ziq P x0 σ Z) : awp P zfd.body (AtEnd fun fr s => Z (resAs fr s zfd.res) s) (zH 0 [x0]) σ :=
  cast (by kernel_rfl) h
/-- (*bulla/ideal.Ledger).none -/
def zdM (P : Program) (x0 : AV) (σ : List AObj) (Z : Option (List AV) → List AObj → Prop) : Prop :=
  binC .eql .ptr x0 (.d .nilp) σ fun v1 s2 =>
  zf v1 false (fun k => k x0 s2) s2 (fun v3 s4 =>
  zf v1 false (fun k => nilC v3 s4 k) s4 (fun v5 s6 =>
  zf v1 false (fun k => zh 1 v5 s6 k) s6 (fun v7 s8 =>
  zf v1 false (fun k => loadC false 1 v7 s8 k) s8 (fun v9 s10 =>
  zf v1 false (fun k => binC .eql .map v9 (.d .nilmap) s10 k) s10 (fun v11 s12 =>
  pickC v1 (.d (.bool true)) v11 s12 fun v13 s14 =>
  Z (consO (some v13) (some [])) s14)))))
theorem zhd {P : Program} {x0 : AV} {σ : List AObj} {Z : Option (List AV) → List AObj → Prop} (h : zdM P x0 σ Z) : awp P zcl.body (AtEnd fun fr s => Z (resAs fr s zcl.res) s) (zH 0 [x0]) σ :=
  cast (by kernel_rfl) h
/-- bulla/ideal.From -/
def zjJ (P : Program) (x0 : AV) (σ : List AObj) (Z : Option (List AV) → List AObj → Prop) : Prop :=
  lenC .sl x0 σ fun v1 s2 =>
  binC .gtr .plain v1 (.d (.int .i64 1048576)) s2 fun v3 s4 =>
  condC v3 (Z (consO (some (.d .nilp)) (consO (some (.d (.int .i64 3))) (some []))) s4) (ACall P zbY [] s4 fun v5 s6 =>
  lenC .sl x0 s6 fun v7 s8 =>
  loopC [(.d (.int .i64 0))] s8 fun vs9 s10 again11 =>
  headC vs9 fun v12 vs13 =>
  binC .lss .plain v12 v7 s10 fun v14 s15 =>
  condC v14 (zy none 1 x0 v12 s15 fun v16 s17 =>
  loadC false 1 v16 s17 fun v18 s19 =>
  ACall P zaL [dm v5, dm v18] s19 fun v20 s21 =>
  zi v20 0 s21 fun v22 s23 =>
  zi v20 1 s23 fun v24 s25 =>
  condC v24 (Z (consO (some (.d .nilp)) (consO (some (.d (.int .i64 5))) (some []))) s25) (ACall P zbF [dm v5, dm v18] s25 fun v26 s27 =>
  binC .add .plain v12 (.d (.int .i64 1)) s27 fun v28 s29 =>
  again11 [v28] s29)) (Z (consO (some v5) (consO (some (.d (.int .i64 0))) (some []))) s15))
theorem s_ideal_From {P : Program} {x0 : AV} {σ : List AObj} {Z : Option (List AV) → List AObj → Prop} (h : zjJ P x0 σ Z) : awp P zgl.body (AtEnd fun fr s => Z (resAs fr s zgl.res) s) (zH 0 [x0]) σ :=
  cast (by kernel_rfl) h
/-- bulla/request.CheckBatch -/
def zdo (P : Program) (x0 : AV) (σ : List AObj) (Z : Option (List AV) → List AObj → Prop) : Prop :=
  lenC .sl x0 σ fun v1 s2 =>
  binC .gtr .plain v1 (.d (.int .i64 4)) s2 fun v3 s4 =>
  condC v3 (Z (consO (some (.d (.int .i64 3))) (some [])) s4) (lenC .sl x0 s4 fun v5 s6 =>
  loopC [(.d (.int .i64 0))] s6 fun vs7 s8 again9 =>
  headC vs7 fun v10 vs11 =>
  binC .lss .plain v10 v5 s8 fun v12 s13 =>
  condC v12 (zy none 9 x0 v10 s13 fun v14 s15 =>
  loadC true 9 v14 s15 fun v16 s17 =>
  zF [(.d (.int .i64 0)), (.d (.int .i64 0)), (.d (.int .i64 0)), (.d (.str [])), (.d (.str [])), (.d (.int .i64 0)), (.exact []), (.d (.int .i64 0)), (.d (.int .i64 0))] s17 fun v18 s19 =>
  zo 9 v18 v16 s19 fun _ s21 =>
  zh 0 v18 s21 fun v22 s23 =>
  loadC true 7 v22 s23 fun v24 s25 =>
  ACall P zcs [dm v24] s25 fun v26 s27 =>
  binC .neq .plain v26 (.d (.int .i64 0)) s27 fun v28 s29 =>
  condC v28 (Z (consO (some v26) (some [])) s29) (zh 7 v18 s29 fun v30 s31 =>
  loadC true 2 v30 s31 fun v32 s33 =>
  ACall P zbn [dm v32] s33 fun v34 s35 =>
  binC .neq .plain v34 (.d (.int .i64 0)) s35 fun v36 s37 =>
  condC v36 (Z (consO (some v34) (some [])) s37) (binC .add .plain v10 (.d (.int .i64 1)) s37 fun v38 s39 =>
  again9 [v38] s39))) (lenC .sl x0 s13 fun v40 s41 =>
  loopC [(.d (.int .i64 0))] s41 fun vs42 s43 again44 =>
  headC vs42 fun v45 vs46 =>
  binC .lss .plain v45 v40 s43 fun v47 s48 =>
  condC v47 (zy none 9 x0 v45 s48 fun v49 s50 =>
  loadC true 9 v49 s50 fun v51 s52 =>
  zF [(.d (.int .i64 0)), (.d (.int .i64 0)), (.d (.int .i64 0)), (.d (.str [])), (.d (.str [])), (.d (.int .i64 0)), (.exact []), (.d (.int .i64 0)), (.d (.int .i64 0))] s52 fun v53 s54 =>
  zo 9 v53 v51 s54 fun _ s56 =>
  slcC (.sl 9) x0 none (some v45) none s56 fun v57 s58 =>
  lenC .sl v57 s58 fun v59 s60 =>
  loopC [(.d (.int .i64 0))] s60 fun vs61 s62 again63 =>
  headC vs61 fun v64 vs65 =>
  binC .lss .plain v64 v59 s62 fun v66 s67 =>
  condC v66 (zy none 9 v57 v64 s67 fun v68 s69 =>
  loadC true 9 v68 s69 fun v70 s71 =>
  zF [(.d (.int .i64 0)), (.d (.int .i64 0)), (.d (.int .i64 0)), (.d (.str [])), (.d (.str [])), (.d (.int .i64 0)), (.exact []), (.d (.int .i64 0)), (.d (.int .i64 0))] s71 fun v72 s73 =>
  zo 9 v72 v70 s73 fun _ s75 =>
  zh 0 v53 s75 fun v76 s77 =>
  zh 0 v76 s77 fun v78 s79 =>
  loadC false 1 v78 s79 fun v80 s81 =>
  zh 0 v72 s81 fun v82 s83 =>
  zh 0 v82 s83 fun v84 s85 =>
  loadC false 1 v84 s85 fun v86 s87 =>
  binC .eql .plain v80 v86 s87 fun v88 s89 =>
  zf v88 true (fun k => zh 0 v53 s89 k) s89 (fun v90 s91 =>
  zf v88 true (fun k => zh 1 v90 s91 k) s91 (fun v92 s93 =>
  zf v88 true (fun k => loadC false 1 v92 s93 k) s93 (fun v94 s95 =>
  zf v88 true (fun k => zh 0 v72 s95 k) s95 (fun v96 s97 =>
  zf v88 true (fun k => zh 1 v96 s97 k) s97 (fun v98 s99 =>
  zf v88 true (fun k => loadC false 1 v98 s99 k) s99 (fun v100 s101 =>
  zf v88 true (fun k => binC .eql .plain v94 v100 s101 k) s101 (fun v102 s103 =>
  pickC v88 v102 (.d (.bool false)) s103 fun v104 s105 =>
  condC v104 (Z (consO (some (.d (.int .i64 5))) (some [])) s105) (binC .add .plain v64 (.d (.int .i64 1)) s105 fun v106 s107 =>
  again63 [v106] s107))))))))) (binC .add .plain v45 (.d (.int .i64 1)) s67 fun v108 s109 =>
  again44 [v108] s109)) (Z (consO (some (.d (.int .i64 0))) (some [])) s48)))
theorem zgB {P : Program} {x0 : AV} {σ : List AObj} {Z : Option (List AV) → List AObj → Prop} (h : zdo P x0 σ Z) : awp P zbM.body (AtEnd fun fr s => Z (resAs fr s zbM.res) s) (zH 0 [x0]) σ :=
  cast (by kernel_rfl) h
/-- slices.ContainsFunc[bulla/api.Batch,bulla/api.Signed] -/
def zaC (P : Program) (x0 x1 : AV) (σ : List AObj) (Z : Option (List AV) → List AObj → Prop) : Prop :=
  ACall P zaq [dm x0, dm x1] σ fun v1 s2 =>
  binC .geq .plain v1 (.d (.int .i64 0)) s2 fun v3 s4 =>
  Z (consO (some v3) (some [])) s4
theorem zbu {P : Program} {x0 x1 : AV} {σ : List AObj} {Z : Option (List AV) → List AObj → Prop} (h : zaC P x0 x1 σ Z) : awp P zam.body (AtEnd fun fr s => Z (resAs fr s zam.res) s) (zH 0 [x0, x1]) σ :=
  cast (by kernel_rfl) h
/-- bulla/request.ValidBatch$1 -/
def zcD (P : Program) (x0 x1 x2 : AV) (σ : List AObj) (Z : Option (List AV) → List AObj → Prop) : Prop :=
  boxC x0 σ fun v1 s2 =>
  loadC false 1 x1 s2 fun v3 s4 =>
  loadC false 1 x2 s4 fun v5 s6 =>
  loadC true 9 v1 s6 fun v7 s8 =>
  ACall P zdy [dm v3, dm v5, dm v7] s8 fun v9 s10 =>
  unC .not v9 s10 fun v11 s12 =>
  Z (consO (some v11) (some [])) s12
theorem zfs {P : Program} {x0 x1 x2 : AV} {σ : List AObj} {Z : Option (List AV) → List AObj → Prop} (h : zcD P x0 x1 x2 σ Z) : awp P zby.body (AtEnd fun fr s => Z (resAs fr s zby.res) s) (zH 0 [x0, x1, x2]) σ :=
  cast (by kernel_rfl) h
end Go.Proofs.Ytcappjcojggehaa
