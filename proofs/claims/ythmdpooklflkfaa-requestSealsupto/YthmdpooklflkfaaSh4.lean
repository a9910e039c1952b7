/- The conditions of each function, its slots as variables, and that the logic's conditions are these. Printed by program. -/
import Derived.Test.YthmdpooklflkfaaAf4
set_option linter.all false
set_option maxRecDepth 100000
set_option linter.unusedVariables false
namespace Go.Proofs.Ythmdpooklflkfaa
open Go.AW
/-- bulla/request.known -/
def zfc (P : Program) (x0 : AV) (σ : List AObj) (Z : Option (List AV) → List AObj → Prop) : Prop :=
  ACall P zcv [dm x0] σ fun v1 s2 =>
  binC .gtr .plain v1 (.d (.int .i64 0)) s2 fun v3 s4 =>
  zI v3 false (fun k => k x0 s4) s4 (fun v5 s6 =>
  zI v3 false (fun k => ACall P zbQ [dm v5] s6 k) s6 (fun v7 s8 =>
  zI v3 false (fun k => binC .neq .ptr v7 (.d .nilp) s8 k) s8 (fun v9 s10 =>
  pickC v3 (.d (.bool true)) v9 s10 fun v11 s12 =>
  Z (consO (some v11) (some [])) s12)))
theorem ziV {P : Program} {x0 : AV} {σ : List AObj} {Z : Option (List AV) → List AObj → Prop} (h : zfc P x0 σ Z) : awp P zdi.body (AtEnd fun fr s => Z (resAs fr s zdi.res) s) (zW 0 [x0]) σ :=
  cast (by kernel_rfl) h
/-- (*bulla/bullaref02.Ledger).Sign -/
def zdX (P : Program) (x0 x1 x2 : AV) (σ : List AObj) (Z : Option (List AV) → List AObj → Prop) : Prop :=
  zC [(.d (.int .i64 0)), (.d (.int .i64 0))] σ fun v1 s2 =>
  binC .lss .plain x1 (.d (.int .i64 0)) s2 fun v3 s4 =>
  zI v3 false (fun k => k x1 s4) s4 (fun v5 s6 =>
  zI v3 false (fun k => binC .geq .plain v5 (.d (.int .i64 21)) s6 k) s6 (fun v7 s8 =>
  pickC v3 (.d (.bool true)) v7 s8 fun v9 s10 =>
  condC v9 (zA (fillV [(.d (.int .i64 0)), (.d (.int .i64 0))] []) s10 fun v11 s12 =>
  zx 2 v1 v11 s12 fun _ s14 =>
  Z (consO (cellA v1 s14 true 2) (consO (some (.d (.int .i64 20))) (some []))) s14) (binC .lss .plain x2 (.d (.int .i64 1)) s10 fun v15 s16 =>
  condC v15 (zA (fillV [(.d (.int .i64 0)), (.d (.int .i64 0))] []) s16 fun v17 s18 =>
  zx 2 v1 v17 s18 fun _ s20 =>
  Z (consO (cellA v1 s20 true 2) (consO (some (.d (.int .i64 1))) (some []))) s20) (zA (fillV [(.d (.int .i64 0)), (.d (.int .i64 0))] [(0, 1, x1), (1, 1, x2)]) s16 fun v21 s22 =>
  zC [(.d (.int .i64 0)), (.d (.int .i64 0))] s22 fun v23 s24 =>
  zx 2 v23 v21 s24 fun _ s26 =>
  (fun (k27 : List AObj → Prop) => loadC true 2 v23 s26 fun v33 s34 =>
  ACall P zbb [dm x0, dm v33] s34 fun v35 s36 =>
  unC .not v35 s36 fun v37 s38 =>
  condC v37 (nilC x0 s38 fun v39 s40 =>
  zm 0 v39 s40 fun v41 s42 =>
  loadC false 1 v41 s42 fun v43 s44 =>
  loadC true 2 v23 s44 fun v45 s46 =>
  zf false 2 1 (fillV (rep [(.d (.int .i64 0)), (.d (.int .i64 0))] 1) [(0, 2, v45)]) s46 fun v47 s48 =>
  zo 2 16 (.exact []) v43 s48 fun v49 s50 =>
  keepO v23 s48 s50 ∧ (zo 2 16 v49 v47 s50 fun v51 s52 =>
  nilC x0 s52 fun v53 s54 =>
  zm 0 v53 s54 fun v55 s56 =>
  zx 1 v55 v51 s56 fun _ s58 =>
  k27 s58)) (k27 s38))
  (fun  s28 => loadC true 2 v23 s28 fun v29 s30 =>
  zx 2 v1 v29 s30 fun _ s32 =>
  Z (consO (cellA v1 s32 true 2) (consO (some (.d (.int .i64 0))) (some []))) s32)))))
theorem zho {P : Program} {x0 x1 x2 : AV} {σ : List AObj} {Z : Option (List AV) → List AObj → Prop} (h : zdX P x0 x1 x2 σ Z) : awp P zcA.body (AtEnd fun fr s => Z (resAs fr s zcA.res) s) (zW 0 [x0, x1, x2]) σ :=
  cast (by kernel_rfl) h
/-- (*bulla/bullaref02.Table).Sum -/
def zfh (P : Program) (x0 x1 : AV) (σ : List AObj) (Z : Option (List AV) → List AObj → Prop) : Prop :=
  ACall P zbN [dm x0, dm x1] σ fun v1 s2 =>
  zd v1 0 s2 fun v3 s4 =>
  zd v1 1 s4 fun v5 s6 =>
  condC v5 (Z (consO (some v3) (some [])) s6) (nilC x0 s6 fun v7 s8 =>
  zm 0 v7 s8 fun v9 s10 =>
  loadC false 1 v9 s10 fun v11 s12 =>
  lenC .sl v11 s12 fun v13 s14 =>
  binC .geq .plain v13 (.d (.int .i64 1048576)) s14 fun v15 s16 =>
  condC v15 (Z (consO (some (.d (.int .i64 0))) (some [])) s16) (nilC x0 s16 fun v17 s18 =>
  zm 0 v17 s18 fun v19 s20 =>
  loadC false 1 v19 s20 fun v21 s22 =>
  zo 1 24 (.exact []) v21 s22 fun v23 s24 =>
  zo 1 1 (.exact []) x1 s24 fun v25 s26 =>
  zf false 1 1 (fillV (rep [(.exact [])] 1) [(0, 1, v25)]) s26 fun v27 s28 =>
  zo 1 24 v23 v27 s28 fun v29 s30 =>
  nilC x0 s30 fun v31 s32 =>
  zm 0 v31 s32 fun v33 s34 =>
  zx 1 v33 v29 s34 fun _ s36 =>
  nilC x0 s36 fun v37 s38 =>
  zm 0 v37 s38 fun v39 s40 =>
  loadC false 1 v39 s40 fun v41 s42 =>
  lenC .sl v41 s42 fun v43 s44 =>
  Z (consO (some v43) (some [])) s44))
theorem zja {P : Program} {x0 x1 : AV} {σ : List AObj} {Z : Option (List AV) → List AObj → Prop} (h : zfh P x0 x1 σ Z) : awp P zdn.body (AtEnd fun fr s => Z (resAs fr s zdn.res) s) (zW 0 [x0, x1]) σ :=
  cast (by kernel_rfl) h
/-- (*bulla/bullaref02.Table).Look -/
def zez (P : Program) (x0 x1 : AV) (σ : List AObj) (Z : Option (List AV) → List AObj → Prop) : Prop :=
  loopC [(.d (.int .i64 0))] σ fun vs1 s2 again3 =>
  headC vs1 fun v4 vs5 =>
  nilC x0 s2 fun v6 s7 =>
  zm 0 v6 s7 fun v8 s9 =>
  loadC false 1 v8 s9 fun v10 s11 =>
  lenC .sl v10 s11 fun v12 s13 =>
  binC .lss .plain v4 v12 s13 fun v14 s15 =>
  condC v14 (nilC x0 s15 fun v16 s17 =>
  zm 0 v16 s17 fun v18 s19 =>
  loadC false 1 v18 s19 fun v20 s21 =>
  zy none 1 v20 v4 s21 fun v22 s23 =>
  loadC false 1 v22 s23 fun v24 s25 =>
  ACall P zhy [dm v24, dm x1] s25 fun v26 s27 =>
  condC v26 (binC .add .plain v4 (.d (.int .i64 1)) s27 fun v28 s29 =>
  Z (consO (some v28) (consO (some (.d (.bool true))) (some []))) s29) (binC .add .plain v4 (.d (.int .i64 1)) s27 fun v30 s31 =>
  again3 [v30] s31)) (Z (consO (some (.d (.int .i64 0))) (consO (some (.d (.bool false))) (some []))) s15)
theorem ziC {P : Program} {x0 x1 : AV} {σ : List AObj} {Z : Option (List AV) → List AObj → Prop} (h : zez P x0 x1 σ Z) : awp P zcP.body (AtEnd fun fr s => Z (resAs fr s zcP.res) s) (zW 0 [x0, x1]) σ :=
  cast (by kernel_rfl) h
/-- (*bulla/bullaref02.Ledger).Signed -/
def zde (P : Program) (x0 x1 : AV) (σ : List AObj) (Z : Option (List AV) → List AObj → Prop) : Prop :=
  boxC x1 σ fun v1 s2 =>
  loopC [(.d (.int .i64 0))] s2 fun vs3 s4 again5 =>
  headC vs3 fun v6 vs7 =>
  nilC x0 s4 fun v8 s9 =>
  zm 0 v8 s9 fun v10 s11 =>
  loadC false 1 v10 s11 fun v12 s13 =>
  lenC .sl v12 s13 fun v14 s15 =>
  binC .lss .plain v6 v14 s15 fun v16 s17 =>
  condC v16 (nilC x0 s17 fun v18 s19 =>
  zm 0 v18 s19 fun v20 s21 =>
  loadC false 1 v20 s21 fun v22 s23 =>
  zy none 2 v22 v6 s23 fun v24 s25 =>
  loadC true 2 v24 s25 fun v26 s27 =>
  loadC true 2 v1 s27 fun v28 s29 =>
  binC .eql (.ints 2) v26 v28 s29 fun v30 s31 =>
  condC v30 (Z (consO (some (.d (.bool true))) (some [])) s31) (binC .add .plain v6 (.d (.int .i64 1)) s31 fun v32 s33 =>
  again5 [v32] s33)) (Z (consO (some (.d (.bool false))) (some [])) s17)
theorem zfX {P : Program} {x0 x1 : AV} {σ : List AObj} {Z : Option (List AV) → List AObj → Prop} (h : zde P x0 x1 σ Z) : awp P zbT.body (AtEnd fun fr s => Z (resAs fr s zbT.res) s) (zW 0 [x0, x1]) σ :=
  cast (by kernel_rfl) h
/-- slices.ContainsFunc[bulla/api.Batch,bulla/api.Signed] -/
def zay (P : Program) (x0 x1 : AV) (σ : List AObj) (Z : Option (List AV) → List AObj → Prop) : Prop :=
  ACall P zao [dm x0, dm x1] σ fun v1 s2 =>
  binC .geq .plain v1 (.d (.int .i64 0)) s2 fun v3 s4 =>
  Z (consO (some v3) (some [])) s4
theorem zbg {P : Program} {x0 x1 : AV} {σ : List AObj} {Z : Option (List AV) → List AObj → Prop} (h : zay P x0 x1 σ Z) : awp P zam.body (AtEnd fun fr s => Z (resAs fr s zam.res) s) (zW 0 [x0, x1]) σ :=
  cast (by kernel_rfl) h
/-- bulla/request.ValidBatch$1 -/
def zcq (P : Program) (x0 x1 x2 : AV) (σ : List AObj) (Z : Option (List AV) → List AObj → Prop) : Prop :=
  boxC x0 σ fun v1 s2 =>
  loadC false 1 x1 s2 fun v3 s4 =>
  loadC false 1 x2 s4 fun v5 s6 =>
  loadC true 9 v1 s6 fun v7 s8 =>
  ACall P zaR [dm v3, dm v5, dm v7] s8 fun v9 s10 =>
  unC .not v9 s10 fun v11 s12 =>
  Z (consO (some v11) (some [])) s12
theorem zeC {P : Program} {x0 x1 x2 : AV} {σ : List AObj} {Z : Option (List AV) → List AObj → Prop} (h : zcq P x0 x1 x2 σ Z) : awp P zbn.body (AtEnd fun fr s => Z (resAs fr s zbn.res) s) (zW 0 [x0, x1, x2]) σ :=
  cast (by kernel_rfl) h
/-- bulla/bullaref06.Same -/
def zkM (P : Program) (x0 x1 : AV) (σ : List AObj) (Z : Option (List AV) → List AObj → Prop) : Prop :=
  boxC x0 σ fun v1 s2 =>
  boxC x1 s2 fun v3 s4 =>
  zm 0 v1 s4 fun v5 s6 =>
  loadC false 1 v5 s6 fun v7 s8 =>
  zm 0 v3 s8 fun v9 s10 =>
  loadC false 1 v9 s10 fun v11 s12 =>
  binC .neq .plain v7 v11 s12 fun v13 s14 =>
  zI v13 false (fun k => zm 1 v1 s14 k) s14 (fun v15 s16 =>
  zI v13 false (fun k => loadC false 1 v15 s16 k) s16 (fun v17 s18 =>
  zI v13 false (fun k => zm 1 v3 s18 k) s18 (fun v19 s20 =>
  zI v13 false (fun k => loadC false 1 v19 s20 k) s20 (fun v21 s22 =>
  zI v13 false (fun k => binC .neq .plain v17 v21 s22 k) s22 (fun v23 s24 =>
  pickC v13 (.d (.bool true)) v23 s24 fun v25 s26 =>
  zI v25 false (fun k => zm 2 v1 s26 k) s26 (fun v27 s28 =>
  zI v25 false (fun k => loadC false 1 v27 s28 k) s28 (fun v29 s30 =>
  zI v25 false (fun k => zm 2 v3 s30 k) s30 (fun v31 s32 =>
  zI v25 false (fun k => loadC false 1 v31 s32 k) s32 (fun v33 s34 =>
  zI v25 false (fun k => binC .neq .plain v29 v33 s34 k) s34 (fun v35 s36 =>
  pickC v25 (.d (.bool true)) v35 s36 fun v37 s38 =>
  zI v37 false (fun k => zm 3 v1 s38 k) s38 (fun v39 s40 =>
  zI v37 false (fun k => loadC false 1 v39 s40 k) s40 (fun v41 s42 =>
  zI v37 false (fun k => zm 3 v3 s42 k) s42 (fun v43 s44 =>
  zI v37 false (fun k => loadC false 1 v43 s44 k) s44 (fun v45 s46 =>
  zI v37 false (fun k => binC .neq .plain v41 v45 s46 k) s46 (fun v47 s48 =>
  pickC v37 (.d (.bool true)) v47 s48 fun v49 s50 =>
  zI v49 false (fun k => zm 4 v1 s50 k) s50 (fun v51 s52 =>
  zI v49 false (fun k => loadC false 1 v51 s52 k) s52 (fun v53 s54 =>
  zI v49 false (fun k => lenC .sl v53 s54 k) s54 (fun v55 s56 =>
  zI v49 false (fun k => zm 4 v3 s56 k) s56 (fun v57 s58 =>
  zI v49 false (fun k => loadC false 1 v57 s58 k) s58 (fun v59 s60 =>
  zI v49 false (fun k => lenC .sl v59 s60 k) s60 (fun v61 s62 =>
  zI v49 false (fun k => binC .neq .plain v55 v61 s62 k) s62 (fun v63 s64 =>
  pickC v49 (.d (.bool true)) v63 s64 fun v65 s66 =>
  condC v65 (Z (consO (some (.d (.bool false))) (some [])) s66) (loopC [(.d (.int .i64 0))] s66 fun vs67 s68 again69 =>
  headC vs67 fun v70 vs71 =>
  zm 4 v1 s68 fun v72 s73 =>
  loadC false 1 v72 s73 fun v74 s75 =>
  lenC .sl v74 s75 fun v76 s77 =>
  binC .lss .plain v70 v76 s77 fun v78 s79 =>
  condC v78 (zm 4 v1 s79 fun v80 s81 =>
  loadC false 1 v80 s81 fun v82 s83 =>
  zy none 1 v82 v70 s83 fun v84 s85 =>
  loadC false 1 v84 s85 fun v86 s87 =>
  convC .toStr v86 s87 fun v88 s89 =>
  zm 4 v3 s89 fun v90 s91 =>
  loadC false 1 v90 s91 fun v92 s93 =>
  zy none 1 v92 v70 s93 fun v94 s95 =>
  loadC false 1 v94 s95 fun v96 s97 =>
  convC .toStr v96 s97 fun v98 s99 =>
  binC .neq .plain v88 v98 s99 fun v100 s101 =>
  condC v100 (Z (consO (some (.d (.bool false))) (some [])) s101) (binC .add .plain v70 (.d (.int .i64 1)) s101 fun v102 s103 =>
  again69 [v102] s103)) (Z (consO (some (.d (.bool true))) (some [])) s79))))))))))))))))))))))))
theorem s_r06_Same {P : Program} {x0 x1 : AV} {σ : List AObj} {Z : Option (List AV) → List AObj → Prop} (h : zkM P x0 x1 σ Z) : awp P zhZ.body (AtEnd fun fr s => Z (resAs fr s zhZ.res) s) (zW 0 [x0, x1]) σ :=
  cast (by kernel_rfl) h
/-- bulla/op.only -/
def S_op_only (P : Program) (x0 : AV) (σ : List AObj) (Z : Option (List AV) → List AObj → Prop) : Prop :=
  boxC x0 σ fun v1 s2 =>
  zC [(.d (.int .i64 0)), (.d (.str [])), (.d (.str [])), (.d (.int .i64 0)), (.exact [])] s2 fun v3 s4 =>
  zm 0 v1 s4 fun v5 s6 =>
  loadC false 1 v5 s6 fun v7 s8 =>
  zA (fillV [(.d (.int .i64 0)), (.d (.str [])), (.d (.str [])), (.d (.int .i64 0)), (.exact [])] [(0, 1, v7)]) s8 fun v9 s10 =>
  zC [(.d (.int .i64 0)), (.d (.str [])), (.d (.str [])), (.d (.int .i64 0)), (.exact [])] s10 fun v11 s12 =>
  zx 5 v11 v9 s12 fun _ s14 =>
  (fun (k15 : List AObj → Prop) => zm 0 v1 s14 fun v21 s22 =>
  loadC false 1 v21 s22 fun v23 s24 =>
  binC .eql .plain v23 (.d (.int .i64 0)) s24 fun v25 s26 =>
  condC v25 (k15 s26) (binC .eql .plain v23 (.d (.int .i64 1)) s26 fun v27 s28 =>
  condC v27 (zm 1 v1 s28 fun v29 s30 =>
  loadC false 1 v29 s30 fun v31 s32 =>
  zm 1 v11 s32 fun v33 s34 =>
  zx 1 v33 v31 s34 fun _ s36 =>
  k15 s36) (binC .eql .plain v23 (.d (.int .i64 2)) s28 fun v37 s38 =>
  condC v37 (zm 1 v1 s38 fun v39 s40 =>
  loadC false 1 v39 s40 fun v41 s42 =>
  zm 4 v1 s42 fun v43 s44 =>
  loadC false 1 v43 s44 fun v45 s46 =>
  zm 1 v11 s46 fun v47 s48 =>
  zx 1 v47 v41 s48 fun _ s50 =>
  keepO v43 s48 s50 ∧ (zm 4 v11 s50 fun v51 s52 =>
  zx 1 v51 v45 s52 fun _ s54 =>
  k15 s54)) (binC .eql .plain v23 (.d (.int .i64 3)) s38 fun v55 s56 =>
  condC v55 (zm 1 v1 s56 fun v57 s58 =>
  loadC false 1 v57 s58 fun v59 s60 =>
  zm 2 v1 s60 fun v61 s62 =>
  loadC false 1 v61 s62 fun v63 s64 =>
  zm 3 v1 s64 fun v65 s66 =>
  loadC false 1 v65 s66 fun v67 s68 =>
  zm 1 v11 s68 fun v69 s70 =>
  zx 1 v69 v59 s70 fun _ s72 =>
  keepO v61 s70 s72 ∧ (keepO v65 s70 s72 ∧ (zm 2 v11 s72 fun v73 s74 =>
  zx 1 v73 v63 s74 fun _ s76 =>
  keepO v65 s74 s76 ∧ (zm 3 v11 s76 fun v77 s78 =>
  zx 1 v77 v67 s78 fun _ s80 =>
  k15 s80)))) (binC .eql .plain v23 (.d (.int .i64 4)) s56 fun v81 s82 =>
  condC v81 (zm 1 v1 s82 fun v83 s84 =>
  loadC false 1 v83 s84 fun v85 s86 =>
  zm 3 v1 s86 fun v87 s88 =>
  loadC false 1 v87 s88 fun v89 s90 =>
  zm 1 v11 s90 fun v91 s92 =>
  zx 1 v91 v85 s92 fun _ s94 =>
  keepO v87 s92 s94 ∧ (zm 3 v11 s94 fun v95 s96 =>
  zx 1 v95 v89 s96 fun _ s98 =>
  k15 s98)) (loadC true 5 v11 s82 fun v99 s100 =>
  zx 5 v3 v99 s100 fun _ s102 =>
  Z (consO (cellA v3 s102 true 5) (consO (some (.d (.bool false))) (some []))) s102))))))
  (fun  s16 => loadC true 5 v11 s16 fun v17 s18 =>
  zx 5 v3 v17 s18 fun _ s20 =>
  Z (consO (cellA v3 s20 true 5) (consO (some (.d (.bool true))) (some []))) s20)
theorem s_op_only {P : Program} {x0 : AV} {σ : List AObj} {Z : Option (List AV) → List AObj → Prop} (h : S_op_only P x0 σ Z) : awp P zjL.body (AtEnd fun fr s => Z (resAs fr s zjL.res) s) (zW 0 [x0]) σ :=
  cast (by kernel_rfl) h
/-- bulla/op.Check$1 -/
def ziv (P : Program) (x0 : AV) (σ : List AObj) (Z : Option (List AV) → List AObj → Prop) : Prop :=
  lenC .sl x0 σ fun v1 s2 =>
  binC .gtr .plain v1 (.d (.int .i64 64)) s2 fun v3 s4 =>
  Z (consO (some v3) (some [])) s4
theorem s_op_Check_1 {P : Program} {x0 : AV} {σ : List AObj} {Z : Option (List AV) → List AObj → Prop} (h : ziv P x0 σ Z) : awp P zfm.body (AtEnd fun fr s => Z (resAs fr s zfm.res) s) (zW 0 [x0]) σ :=
  cast (by kernel_rfl) h
/-- bulla/op.Name -/
def S_op_Name (P : Program) (x0 : AV) (σ : List AObj) (Z : Option (List AV) → List AObj → Prop) : Prop :=
  ACall P zhz [dm x0] σ fun v1 s2 =>
  binC .gtr .plain v1 (.d (.int .i64 0)) s2 fun v3 s4 =>
  Z (consO (some v3) (some [])) s4
theorem s_op_Name {P : Program} {x0 : AV} {σ : List AObj} {Z : Option (List AV) → List AObj → Prop} (h : S_op_Name P x0 σ Z) : awp P zjN.body (AtEnd fun fr s => Z (resAs fr s zjN.res) s) (zW 0 [x0]) σ :=
  cast (by kernel_rfl) h
/-- slices.ContainsFunc[[]bulla/api.Record,bulla/api.Record] -/
def zav (P : Program) (x0 x1 : AV) (σ : List AObj) (Z : Option (List AV) → List AObj → Prop) : Prop :=
  ACall P zaB [dm x0, dm x1] σ fun v1 s2 =>
  binC .geq .plain v1 (.d (.int .i64 0)) s2 fun v3 s4 =>
  Z (consO (some v3) (some [])) s4
theorem zaY {P : Program} {x0 x1 : AV} {σ : List AObj} {Z : Option (List AV) → List AObj → Prop} (h : zav P x0 x1 σ Z) : awp P zak.body (AtEnd fun fr s => Z (resAs fr s zak.res) s) (zW 0 [x0, x1]) σ :=
  cast (by kernel_rfl) h
/-- bulla/bullaref06.fields -/
def zit (P : Program) (x0 : AV) (σ : List AObj) (Z : Option (List AV) → List AObj → Prop) : Prop :=
  binC .eql .plain x0 (.d (.int .i64 1)) σ fun v1 s2 =>
  condC v1 (Z (consO (some (.d (.bool true))) (consO (some (.d (.bool false))) (consO (some (.d (.bool false))) (consO (some (.d (.bool false))) (some []))))) s2) (binC .eql .plain x0 (.d (.int .i64 2)) s2 fun v3 s4 =>
  condC v3 (Z (consO (some (.d (.bool true))) (consO (some (.d (.bool false))) (consO (some (.d (.bool false))) (consO (some (.d (.bool true))) (some []))))) s4) (binC .eql .plain x0 (.d (.int .i64 3)) s4 fun v5 s6 =>
  condC v5 (Z (consO (some (.d (.bool true))) (consO (some (.d (.bool true))) (consO (some (.d (.bool true))) (consO (some (.d (.bool false))) (some []))))) s6) (binC .eql .plain x0 (.d (.int .i64 4)) s6 fun v7 s8 =>
  condC v7 (Z (consO (some (.d (.bool true))) (consO (some (.d (.bool false))) (consO (some (.d (.bool true))) (consO (some (.d (.bool false))) (some []))))) s8) (Z (consO (some (.d (.bool false))) (consO (some (.d (.bool false))) (consO (some (.d (.bool false))) (consO (some (.d (.bool false))) (some []))))) s8))))
theorem s_r06_fields {P : Program} {x0 : AV} {σ : List AObj} {Z : Option (List AV) → List AObj → Prop} (h : zit P x0 σ Z) : awp P zfk.body (AtEnd fun fr s => Z (resAs fr s zfk.res) s) (zW 0 [x0]) σ :=
  cast (by kernel_rfl) h
/-- bulla/bullaref06.Name -/
def zkN (P : Program) (x0 : AV) (σ : List AObj) (Z : Option (List AV) → List AObj → Prop) : Prop :=
  ACall P zgc [dm x0] σ fun v1 s2 =>
  binC .gtr .plain v1 (.d (.int .i64 0)) s2 fun v3 s4 =>
  Z (consO (some v3) (some [])) s4
theorem s_r06_Name {P : Program} {x0 : AV} {σ : List AObj} {Z : Option (List AV) → List AObj → Prop} (h : zkN P x0 σ Z) : awp P zia.body (AtEnd fun fr s => Z (resAs fr s zia.res) s) (zW 0 [x0]) σ :=
  cast (by kernel_rfl) h
/-- slices.EqualFunc[[]bulla/api.Record,[]bulla/api.Record,bulla/api.Record,bulla/api.Record] -/
def zai (P : Program) (x0 x1 x2 : AV) (σ : List AObj) (Z : Option (List AV) → List AObj → Prop) : Prop :=
  lenC .sl x0 σ fun v1 s2 =>
  lenC .sl x1 s2 fun v3 s4 =>
  binC .neq .plain v1 v3 s4 fun v5 s6 =>
  condC v5 (Z (consO (some (.d (.bool false))) (some [])) s6) (lenC .sl x0 s6 fun v7 s8 =>
  loopC [(.d (.int .i64 0))] s8 fun vs9 s10 again11 =>
  headC vs9 fun v12 vs13 =>
  binC .lss .plain v12 v7 s10 fun v14 s15 =>
  condC v14 (zy none 1 x0 v12 s15 fun v16 s17 =>
  loadC false 1 v16 s17 fun v18 s19 =>
  zy none 1 x1 v12 s19 fun v20 s21 =>
  loadC false 1 v20 s21 fun v22 s23 =>
  zK P x2 [dm v18, dm v22] s23 fun v24 s25 =>
  unC .not v24 s25 fun v26 s27 =>
  condC v26 (Z (consO (some (.d (.bool false))) (some [])) s27) (binC .add .plain v12 (.d (.int .i64 1)) s27 fun v28 s29 =>
  again11 [v28] s29)) (Z (consO (some (.d (.bool true))) (some [])) s15))
theorem zax {P : Program} {x0 x1 x2 : AV} {σ : List AObj} {Z : Option (List AV) → List AObj → Prop} (h : zai P x0 x1 x2 σ Z) : awp P zaa.body (AtEnd fun fr s => Z (resAs fr s zaa.res) s) (zW 0 [x0, x1, x2]) σ :=
  cast (by kernel_rfl) h
/-- bulla/op.Same$1 -/
def zjH (P : Program) (x0 x1 : AV) (σ : List AObj) (Z : Option (List AV) → List AObj → Prop) : Prop :=
  ACall P zek [dm x0, dm x1] σ fun v1 s2 =>
  Z (consO (some v1) (some [])) s2
theorem s_op_Same_1 {P : Program} {x0 x1 : AV} {σ : List AObj} {Z : Option (List AV) → List AObj → Prop} (h : zjH P x0 x1 σ Z) : awp P zgy.body (AtEnd fun fr s => Z (resAs fr s zgy.res) s) (zW 0 [x0, x1]) σ :=
  cast (by kernel_rfl) h
/-- bulla/codec.PutBytes -/
def zeB (P : Program) (x0 x1 : AV) (σ : List AObj) (Z : Option (List AV) → List AObj → Prop) : Prop :=
  lenC .sl x1 σ fun v1 s2 =>
  convC (.int .u64) v1 s2 fun v3 s4 =>
  ACall P zaq [dm x0, dm v3] s4 fun v5 s6 =>
  zo 1 1 v5 x1 s6 fun v7 s8 =>
  Z (consO (some v7) (some [])) s8
theorem ziE {P : Program} {x0 x1 : AV} {σ : List AObj} {Z : Option (List AV) → List AObj → Prop} (h : zeB P x0 x1 σ Z) : awp P zcR.body (AtEnd fun fr s => Z (resAs fr s zcR.res) s) (zW 0 [x0, x1]) σ :=
  cast (by kernel_rfl) h
/-- bulla/codec.form -/
def ziy (P : Program) (x0 : AV) (σ : List AObj) (Z : Option (List AV) → List AObj → Prop) : Prop :=
  zC [(.d (.int .u8 0)), (.d (.int .u8 0)), (.d (.int .u8 0)), (.d (.int .u8 0)), (.d (.int .u8 0)), (.d (.int .u8 0)), (.d (.int .u8 0)), (.d (.int .u8 0)), (.d (.int .u8 0)), (.d (.int .u8 0))] σ fun v1 s2 =>
  zC [(.d (.int .u8 0)), (.d (.int .u8 0)), (.d (.int .u8 0)), (.d (.int .u8 0)), (.d (.int .u8 0)), (.d (.int .u8 0)), (.d (.int .u8 0)), (.d (.int .u8 0)), (.d (.int .u8 0)), (.d (.int .u8 0))] s2 fun v3 s4 =>
  loopC [x0, (.d (.int .i64 0))] s4 fun vs5 s6 again7 =>
  headC vs5 fun v8 vs9 =>
  headC vs9 fun v10 vs11 =>
  binC .gtr .plain v8 (.d (.int .u64 127)) s6 fun v12 s13 =>
  condC v12 (convC (.int .u8) v8 s13 fun v14 s15 =>
  binC .or .plain v14 (.d (.int .u8 128)) s15 fun v16 s17 =>
  zy (some 10) 1 v3 v10 s17 fun v18 s19 =>
  zx 1 v18 v16 s19 fun _ s21 =>
  binC .shr .plain v8 (.d (.int .u64 7)) s21 fun v22 s23 =>
  binC .add .plain v10 (.d (.int .i64 1)) s23 fun v24 s25 =>
  again7 [v22, v24] s25) (convC (.int .u8) v8 s13 fun v26 s27 =>
  zy (some 10) 1 v3 v10 s27 fun v28 s29 =>
  zx 1 v28 v26 s29 fun _ s31 =>
  loadC true 10 v3 s31 fun v32 s33 =>
  binC .add .plain v10 (.d (.int .i64 1)) s33 fun v34 s35 =>
  zx 10 v1 v32 s35 fun _ s37 =>
  Z (consO (cellA v1 s37 true 10) (consO (some v34) (some []))) s37)
theorem s_codec_form {P : Program} {x0 : AV} {σ : List AObj} {Z : Option (List AV) → List AObj → Prop} (h : ziy P x0 σ Z) : awp P zfp.body (AtEnd fun fr s => Z (resAs fr s zfp.res) s) (zW 0 [x0]) σ :=
  cast (by kernel_rfl) h
/-- slices.Clip[[]byte,byte] -/
def zcj (P : Program) (x0 : AV) (σ : List AObj) (Z : Option (List AV) → List AObj → Prop) : Prop :=
  lenC .sl x0 σ fun v1 s2 =>
  lenC .sl x0 s2 fun v3 s4 =>
  slcC (.sl 1) x0 none (some v1) (some v3) s4 fun v5 s6 =>
  Z (consO (some v5) (some [])) s6
theorem zeb {P : Program} {x0 : AV} {σ : List AObj} {Z : Option (List AV) → List AObj → Prop} (h : zcj P x0 σ Z) : awp P zbf.body (AtEnd fun fr s => Z (resAs fr s zbf.res) s) (zW 0 [x0]) σ :=
  cast (by kernel_rfl) h
/-- (*bulla/ideal.Ledger).Len -/
def zdz (P : Program) (x0 : AV) (σ : List AObj) (Z : Option (List AV) → List AObj → Prop) : Prop :=
  ACall P zaA [dm x0] σ fun v1 s2 =>
  condC v1 (Z (consO (some (.d (.int .i64 0))) (some [])) s2) (nilC x0 s2 fun v3 s4 =>
  zm 0 v3 s4 fun v5 s6 =>
  loadC false 1 v5 s6 fun v7 s8 =>
  lenC .sl v7 s8 fun v9 s10 =>
  Z (consO (some v9) (some [])) s10)
theorem zgG {P : Program} {x0 : AV} {σ : List AObj} {Z : Option (List AV) → List AObj → Prop} (h : zdz P x0 σ Z) : awp P zco.body (AtEnd fun fr s => Z (resAs fr s zco.res) s) (zW 0 [x0]) σ :=
  cast (by kernel_rfl) h
end Go.Proofs.Ythmdpooklflkfaa
