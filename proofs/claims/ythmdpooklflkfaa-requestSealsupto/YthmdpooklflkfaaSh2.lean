/- The conditions of each function, its slots as variables, and that the logic's conditions are these. Printed by program. -/
import Derived.Test.YthmdpooklflkfaaAf2
set_option linter.all false
set_option maxRecDepth 100000
set_option linter.unusedVariables false
namespace Go.Proofs.Ythmdpooklflkfaa
open Go.AW
/-- bulla/bullaref08.Same -/
def zkK (P : Program) (x0 x1 : AV) (σ : List AObj) (Z : Option (List AV) → List AObj → Prop) : Prop :=
  lenC .sl x0 σ fun v1 s2 =>
  lenC .sl x1 s2 fun v3 s4 =>
  binC .neq .plain v1 v3 s4 fun v5 s6 =>
  condC v5 (Z (consO (some (.d (.bool false))) (some [])) s6) (loopC [(.d (.int .i64 0))] s6 fun vs7 s8 again9 =>
  headC vs7 fun v10 vs11 =>
  lenC .sl x0 s8 fun v12 s13 =>
  binC .lss .plain v10 v12 s13 fun v14 s15 =>
  condC v14 (zy none 9 x0 v10 s15 fun v16 s17 =>
  zm 7 v16 s17 fun v18 s19 =>
  loadC true 2 v18 s19 fun v20 s21 =>
  zy none 9 x1 v10 s21 fun v22 s23 =>
  zm 7 v22 s23 fun v24 s25 =>
  loadC true 2 v24 s25 fun v26 s27 =>
  binC .neq (.ints 2) v20 v26 s27 fun v28 s29 =>
  zI v28 false (fun k => k x0 s29) s29 (fun v30 s31 =>
  zI v28 false (fun k => k v10 s31) s31 (fun v32 s33 =>
  zI v28 false (fun k => zy none 9 v30 v32 s33 k) s33 (fun v34 s35 =>
  zI v28 false (fun k => zm 0 v34 s35 k) s35 (fun v36 s37 =>
  zI v28 false (fun k => loadC true 7 v36 s37 k) s37 (fun v38 s39 =>
  zI v28 false (fun k => k x1 s39) s39 (fun v40 s41 =>
  zI v28 false (fun k => k v10 s41) s41 (fun v42 s43 =>
  zI v28 false (fun k => zy none 9 v40 v42 s43 k) s43 (fun v44 s45 =>
  zI v28 false (fun k => zm 0 v44 s45 k) s45 (fun v46 s47 =>
  zI v28 false (fun k => loadC true 7 v46 s47 k) s47 (fun v48 s49 =>
  zI v28 false (fun k => ACall P zct [dm v38, dm v48] s49 k) s49 (fun v50 s51 =>
  zI v28 false (fun k => unC .not v50 s51 k) s51 (fun v52 s53 =>
  pickC v28 (.d (.bool true)) v52 s53 fun v54 s55 =>
  condC v54 (Z (consO (some (.d (.bool false))) (some [])) s55) (binC .add .plain v10 (.d (.int .i64 1)) s55 fun v56 s57 =>
  again9 [v56] s57)))))))))))))) (Z (consO (some (.d (.bool true))) (some [])) s15))
theorem s_r08_Same {P : Program} {x0 x1 : AV} {σ : List AObj} {Z : Option (List AV) → List AObj → Prop} (h : zkK P x0 x1 σ Z) : awp P zhX.body (AtEnd fun fr s => Z (resAs fr s zhX.res) s) (zW 0 [x0, x1]) σ :=
  cast (by kernel_rfl) h
/-- bulla/request.Bytes -/
def zff (P : Program) (x0 : AV) (σ : List AObj) (Z : Option (List AV) → List AObj → Prop) : Prop :=
  boxC x0 σ fun v1 s2 =>
  loadC true 7 v1 s2 fun v3 s4 =>
  ACall P zcc [dm v3] s4 fun v5 s6 =>
  binC .neq .plain v5 (.d (.int .i64 0)) s6 fun v7 s8 =>
  condC v7 (Z (consO (some (.exact [])) (consO (some v5) (some []))) s8) (zm 0 v1 s8 fun v9 s10 =>
  loadC false 1 v9 s10 fun v11 s12 =>
  convC (.int .u64) v11 s12 fun v13 s14 =>
  zm 1 v1 s14 fun v15 s16 =>
  loadC false 1 v15 s16 fun v17 s18 =>
  convC (.int .u64) v17 s18 fun v19 s20 =>
  zm 2 v1 s20 fun v21 s22 =>
  loadC true 5 v21 s22 fun v23 s24 =>
  ACall P zaq [dm (.exact []), dm v13] s24 fun v25 s26 =>
  keepO v15 s24 s26 ∧ (keepO v21 s24 s26 ∧ (ACall P zaq [dm v25, dm v19] s26 fun v27 s28 =>
  keepO v21 s26 s28 ∧ (ACall P zle [dm v27, dm v23] s28 fun v29 s30 =>
  Z (consO (some v29) (consO (some (.d (.int .i64 0))) (some []))) s30))))
theorem ziY {P : Program} {x0 : AV} {σ : List AObj} {Z : Option (List AV) → List AObj → Prop} (h : zff P x0 σ Z) : awp P zdl.body (AtEnd fun fr s => Z (resAs fr s zdl.res) s) (zW 0 [x0]) σ :=
  cast (by kernel_rfl) h
/-- bulla/bullaref08.Bytes -/
def zjD (P : Program) (x0 : AV) (σ : List AObj) (Z : Option (List AV) → List AObj → Prop) : Prop :=
  boxC x0 σ fun v1 s2 =>
  loadC true 7 v1 s2 fun v3 s4 =>
  ACall P zeh [dm v3] s4 fun v5 s6 =>
  binC .neq .plain v5 (.d (.int .i64 0)) s6 fun v7 s8 =>
  condC v7 (Z (consO (some (.exact [])) (consO (some v5) (some []))) s8) (zm 0 v1 s8 fun v9 s10 =>
  loadC false 1 v9 s10 fun v11 s12 =>
  convC (.int .u64) v11 s12 fun v13 s14 =>
  ACall P zaD [dm (.exact []), dm v13] s14 fun v15 s16 =>
  zm 1 v1 s16 fun v17 s18 =>
  loadC false 1 v17 s18 fun v19 s20 =>
  convC (.int .u64) v19 s20 fun v21 s22 =>
  ACall P zaD [dm v15, dm v21] s22 fun v23 s24 =>
  zm 2 v1 s24 fun v25 s26 =>
  loadC true 5 v25 s26 fun v27 s28 =>
  ACall P zjf [dm v23, dm v27] s28 fun v29 s30 =>
  Z (consO (some v29) (consO (some (.d (.int .i64 0))) (some []))) s30)
theorem s_r08_Bytes {P : Program} {x0 : AV} {σ : List AObj} {Z : Option (List AV) → List AObj → Prop} (h : zjD P x0 σ Z) : awp P zgu.body (AtEnd fun fr s => Z (resAs fr s zgu.res) s) (zW 0 [x0]) σ :=
  cast (by kernel_rfl) h
/-- bytes.Equal -/
def zhh (P : Program) (x0 x1 : AV) (σ : List AObj) (Z : Option (List AV) → List AObj → Prop) : Prop :=
  convC .toStr x0 σ fun v1 s2 =>
  convC .toStr x1 s2 fun v3 s4 =>
  binC .eql .plain v1 v3 s4 fun v5 s6 =>
  Z (consO (some v5) (some [])) s6
theorem zkV {P : Program} {x0 x1 : AV} {σ : List AObj} {Z : Option (List AV) → List AObj → Prop} (h : zhh P x0 x1 σ Z) : awp P zet.body (AtEnd fun fr s => Z (resAs fr s zet.res) s) (zW 0 [x0, x1]) σ :=
  cast (by kernel_rfl) h
/-- bulla/request.PutSign -/
def zdV (P : Program) (x0 x1 : AV) (σ : List AObj) (Z : Option (List AV) → List AObj → Prop) : Prop :=
  boxC x1 σ fun v1 s2 =>
  loadC true 2 v1 s2 fun v3 s4 =>
  ACall P zba [dm v3] s4 fun v5 s6 =>
  binC .neq .plain v5 (.d (.int .i64 0)) s6 fun v7 s8 =>
  condC v7 (ACall P zbd [dm x0] s8 fun v9 s10 =>
  Z (consO (some v9) (some [])) s10) (zm 0 v1 s8 fun v11 s12 =>
  loadC false 1 v11 s12 fun v13 s14 =>
  convC (.int .u64) v13 s14 fun v15 s16 =>
  zm 1 v1 s16 fun v17 s18 =>
  loadC false 1 v17 s18 fun v19 s20 =>
  convC (.int .u64) v19 s20 fun v21 s22 =>
  ACall P zaq [dm x0, dm v15] s22 fun v23 s24 =>
  keepO v17 s22 s24 ∧ (ACall P zaq [dm v23, dm v21] s24 fun v25 s26 =>
  Z (consO (some v25) (some [])) s26))
theorem zhm {P : Program} {x0 x1 : AV} {σ : List AObj} {Z : Option (List AV) → List AObj → Prop} (h : zdV P x0 x1 σ Z) : awp P zcy.body (AtEnd fun fr s => Z (resAs fr s zcy.res) s) (zW 0 [x0, x1]) σ :=
  cast (by kernel_rfl) h
/-- bulla/bullaref08.PutSign -/
def zhg (P : Program) (x0 x1 : AV) (σ : List AObj) (Z : Option (List AV) → List AObj → Prop) : Prop :=
  boxC x1 σ fun v1 s2 =>
  loadC true 2 v1 s2 fun v3 s4 =>
  ACall P zcd [dm v3] s4 fun v5 s6 =>
  binC .neq .plain v5 (.d (.int .i64 0)) s6 fun v7 s8 =>
  condC v7 (Z (consO (some x0) (some [])) s8) (zm 0 v1 s8 fun v9 s10 =>
  loadC false 1 v9 s10 fun v11 s12 =>
  convC (.int .u64) v11 s12 fun v13 s14 =>
  zm 1 v1 s14 fun v15 s16 =>
  loadC false 1 v15 s16 fun v17 s18 =>
  convC (.int .u64) v17 s18 fun v19 s20 =>
  ACall P zaD [dm x0, dm v13] s20 fun v21 s22 =>
  keepO v15 s20 s22 ∧ (ACall P zaD [dm v21, dm v19] s22 fun v23 s24 =>
  Z (consO (some v23) (some [])) s24))
theorem zkU {P : Program} {x0 x1 : AV} {σ : List AObj} {Z : Option (List AV) → List AObj → Prop} (h : zhg P x0 x1 σ Z) : awp P zes.body (AtEnd fun fr s => Z (resAs fr s zes.res) s) (zW 0 [x0, x1]) σ :=
  cast (by kernel_rfl) h
/-- bulla/request.PutBatch -/
def zdv (P : Program) (x0 x1 : AV) (σ : List AObj) (Z : Option (List AV) → List AObj → Prop) : Prop :=
  ACall P zaK [dm x1] σ fun v1 s2 =>
  binC .neq .plain v1 (.d (.int .i64 0)) s2 fun v3 s4 =>
  condC v3 (ACall P zbd [dm x0] s4 fun v5 s6 =>
  Z (consO (some v5) (some [])) s6) (zK P (.fn (.func zbP) [x1] []) [dm x0] s4 fun v7 s8 =>
  Z (consO (some v7) (some [])) s8)
theorem zgC {P : Program} {x0 x1 : AV} {σ : List AObj} {Z : Option (List AV) → List AObj → Prop} (h : zdv P x0 x1 σ Z) : awp P zck.body (AtEnd fun fr s => Z (resAs fr s zck.res) s) (zW 0 [x0, x1]) σ :=
  cast (by kernel_rfl) h
/-- bulla/bullaref08.PutBatch -/
def zfS (P : Program) (x0 x1 : AV) (σ : List AObj) (Z : Option (List AV) → List AObj → Prop) : Prop :=
  ACall P zbh [dm x1] σ fun v1 s2 =>
  binC .neq .plain v1 (.d (.int .i64 0)) s2 fun v3 s4 =>
  condC v3 (Z (consO (some x0) (some [])) s4) (lenC .sl x1 s4 fun v5 s6 =>
  convC (.int .u64) v5 s6 fun v7 s8 =>
  ACall P zaD [dm x0, dm v7] s8 fun v9 s10 =>
  loopC [v9, (.d (.int .i64 0))] s10 fun vs11 s12 again13 =>
  headC vs11 fun v14 vs15 =>
  headC vs15 fun v16 vs17 =>
  lenC .sl x1 s12 fun v18 s19 =>
  binC .lss .plain v16 v18 s19 fun v20 s21 =>
  condC v20 (zy none 9 x1 v16 s21 fun v22 s23 =>
  zm 0 v22 s23 fun v24 s25 =>
  loadC true 7 v24 s25 fun v26 s27 =>
  ACall P zda [dm v26] s27 fun v28 s29 =>
  zd v28 0 s29 fun v30 s31 =>
  zd v28 1 s31 fun v32 s33 =>
  zy none 9 x1 v16 s33 fun v34 s35 =>
  zm 7 v34 s35 fun v36 s37 =>
  loadC true 2 v36 s37 fun v38 s39 =>
  ACall P zbj [dm v14, dm v30] s39 fun v40 s41 =>
  keepO v36 s39 s41 ∧ (ACall P zeg [dm v40, dm v38] s41 fun v42 s43 =>
  binC .add .plain v16 (.d (.int .i64 1)) s43 fun v44 s45 =>
  again13 [v42, v44] s45)) (Z (consO (some v14) (some [])) s21))
theorem zjQ {P : Program} {x0 x1 : AV} {σ : List AObj} {Z : Option (List AV) → List AObj → Prop} (h : zfS P x0 x1 σ Z) : awp P zdI.body (AtEnd fun fr s => Z (resAs fr s zdI.res) s) (zW 0 [x0, x1]) σ :=
  cast (by kernel_rfl) h
/-- bulla/ideal.NewTable -/
def zeA (P : Program) (σ : List AObj) (Z : Option (List AV) → List AObj → Prop) : Prop :=
  zL σ fun v1 s2 =>
  zA (fillV [(.exact []), (.d .nilmap)] [(1, 1, v1)]) s2 fun v3 s4 =>
  boxC v3 s4 fun v5 s6 =>
  Z (consO (some v5) (some [])) s6
theorem ziD {P : Program} {σ : List AObj} {Z : Option (List AV) → List AObj → Prop} (h : zeA P  σ Z) : awp P zcQ.body (AtEnd fun fr s => Z (resAs fr s zcQ.res) s) (zW 0 []) σ :=
  cast (by kernel_rfl) h
/-- bulla/ideal.NewLedger -/
def zea (P : Program) (σ : List AObj) (Z : Option (List AV) → List AObj → Prop) : Prop :=
  zL σ fun v1 s2 =>
  zA (fillV [(.exact []), (.d .nilmap)] [(1, 1, v1)]) s2 fun v3 s4 =>
  boxC v3 s4 fun v5 s6 =>
  Z (consO (some v5) (some [])) s6
theorem zhr {P : Program} {σ : List AObj} {Z : Option (List AV) → List AObj → Prop} (h : zea P  σ Z) : awp P zcD.body (AtEnd fun fr s => Z (resAs fr s zcD.res) s) (zW 0 []) σ :=
  cast (by kernel_rfl) h
/-- bulla/request.Seal -/
def zfR (P : Program) (x0 x1 x2 : AV) (σ : List AObj) (Z : Option (List AV) → List AObj → Prop) : Prop :=
  boxC x2 σ fun v1 s2 =>
  zC [(.d (.int .i64 0)), (.d (.int .i64 0)), (.d (.int .i64 0)), (.d (.str [])), (.d (.str [])), (.d (.int .i64 0)), (.exact []), (.d (.int .i64 0)), (.d (.int .i64 0))] s2 fun v3 s4 =>
  loadC true 7 v1 s4 fun v5 s6 =>
  ACall P zbt [dm v5] s6 fun v7 s8 =>
  zd v7 0 s8 fun v9 s10 =>
  zd v7 1 s10 fun v11 s12 =>
  binC .neq .plain v11 (.d (.int .i64 0)) s12 fun v13 s14 =>
  condC v13 (zA (fillV [(.d (.int .i64 0)), (.d (.int .i64 0)), (.d (.int .i64 0)), (.d (.str [])), (.d (.str [])), (.d (.int .i64 0)), (.exact []), (.d (.int .i64 0)), (.d (.int .i64 0))] []) s14 fun v15 s16 =>
  zx 9 v3 v15 s16 fun _ s18 =>
  Z (consO (cellA v3 s18 true 9) (consO (some v11) (some []))) s18) (ACall P zdB [dm x0, dm x1] s14 fun v19 s20 =>
  unC .not v19 s20 fun v21 s22 =>
  condC v21 (zA (fillV [(.d (.int .i64 0)), (.d (.int .i64 0)), (.d (.int .i64 0)), (.d (.str [])), (.d (.str [])), (.d (.int .i64 0)), (.exact []), (.d (.int .i64 0)), (.d (.int .i64 0))] []) s22 fun v23 s24 =>
  zx 9 v3 v23 s24 fun _ s26 =>
  Z (consO (cellA v3 s26 true 9) (consO (some (.d (.int .i64 2))) (some []))) s26) (zm 0 v1 s22 fun v27 s28 =>
  loadC false 1 v27 s28 fun v29 s30 =>
  ACall P zcW [dm v29] s30 fun v31 s32 =>
  ACall P zaS [dm x0, dm v9] s32 fun v33 s34 =>
  ACall P zbc [dm x1, dm v31, dm v33] s34 fun v35 s36 =>
  zd v35 0 s36 fun v37 s38 =>
  zd v35 1 s38 fun v39 s40 =>
  zC [(.d (.int .i64 0)), (.d (.int .i64 0))] s40 fun v41 s42 =>
  zx 2 v41 v37 s42 fun _ s44 =>
  binC .neq .plain v39 (.d (.int .i64 0)) s44 fun v45 s46 =>
  condC v45 (zA (fillV [(.d (.int .i64 0)), (.d (.int .i64 0)), (.d (.int .i64 0)), (.d (.str [])), (.d (.str [])), (.d (.int .i64 0)), (.exact []), (.d (.int .i64 0)), (.d (.int .i64 0))] []) s46 fun v47 s48 =>
  zx 9 v3 v47 s48 fun _ s50 =>
  Z (consO (cellA v3 s50 true 9) (consO (some v39) (some []))) s50) (zm 2 v1 s46 fun v51 s52 =>
  loadC true 5 v51 s52 fun v53 s54 =>
  ACall P zhA [dm v53] s54 fun v55 s56 =>
  zm 2 v1 s56 fun v57 s58 =>
  zx 5 v57 v55 s58 fun _ s60 =>
  loadC true 7 v1 s60 fun v61 s62 =>
  loadC true 2 v41 s62 fun v63 s64 =>
  zA (fillV [(.d (.int .i64 0)), (.d (.int .i64 0)), (.d (.int .i64 0)), (.d (.str [])), (.d (.str [])), (.d (.int .i64 0)), (.exact []), (.d (.int .i64 0)), (.d (.int .i64 0))] [(0, 7, v61), (7, 2, v63)]) s64 fun v65 s66 =>
  zx 9 v3 v65 s66 fun _ s68 =>
  Z (consO (cellA v3 s68 true 9) (consO (some (.d (.int .i64 0))) (some []))) s68)))
theorem zjP {P : Program} {x0 x1 x2 : AV} {σ : List AObj} {Z : Option (List AV) → List AObj → Prop} (h : zfR P x0 x1 x2 σ Z) : awp P zdH.body (AtEnd fun fr s => Z (resAs fr s zdH.res) s) (zW 0 [x0, x1, x2]) σ :=
  cast (by kernel_rfl) h
/-- bulla/request.Valid -/
def zfd (P : Program) (x0 x1 x2 : AV) (σ : List AObj) (Z : Option (List AV) → List AObj → Prop) : Prop :=
  boxC x2 σ fun v1 s2 =>
  zm 0 v1 s2 fun v3 s4 =>
  loadC true 7 v3 s4 fun v5 s6 =>
  ACall P zbt [dm v5] s6 fun v7 s8 =>
  zd v7 0 s8 fun v9 s10 =>
  zd v7 1 s10 fun v11 s12 =>
  binC .neq .plain v11 (.d (.int .i64 0)) s12 fun v13 s14 =>
  condC v13 (Z (consO (some (.d (.bool false))) (some [])) s14) (ACall P zbp [dm x0, dm v9] s14 fun v15 s16 =>
  zd v15 0 s16 fun v17 s18 =>
  zd v15 1 s18 fun v19 s20 =>
  zI v19 true (fun k => zm 7 v1 s20 k) s20 (fun v21 s22 =>
  zI v19 true (fun k => loadC true 2 v21 s22 k) s22 (fun v23 s24 =>
  zI v19 true (fun k => zm 0 v1 s24 k) s24 (fun v25 s26 =>
  zI v19 true (fun k => zm 0 v25 s26 k) s26 (fun v27 s28 =>
  zI v19 true (fun k => loadC false 1 v27 s28 k) s28 (fun v29 s30 =>
  zI v19 true (fun k => k v17 s30) s30 (fun v31 s32 =>
  zI v19 true (fun k => ACall P zcW [dm v29] s32 k) s32 (fun v33 s34 =>
  keepO v21 s32 s34 ∧ (zI v19 true (fun k => zA (fillV [(.d (.int .i64 0)), (.d (.int .i64 0))] [(0, 1, v33), (1, 1, v31)]) s34 k) s34 (fun v35 s36 =>
  zI v19 true (fun k => binC .eql (.ints 2) v23 v35 s36 k) s36 (fun v37 s38 =>
  pickC v19 v37 (.d (.bool false)) s38 fun v39 s40 =>
  zI v39 true (fun k => k x1 s40) s40 (fun v41 s42 =>
  zI v39 true (fun k => zm 7 v1 s42 k) s42 (fun v43 s44 =>
  zI v39 true (fun k => loadC true 2 v43 s44 k) s44 (fun v45 s46 =>
  zI v39 true (fun k => ACall P zbu [dm v41, dm v45] s46 k) s46 (fun v47 s48 =>
  pickC v39 v47 (.d (.bool false)) s48 fun v49 s50 =>
  Z (consO (some v49) (some [])) s50)))))))))))))))
theorem ziW {P : Program} {x0 x1 x2 : AV} {σ : List AObj} {Z : Option (List AV) → List AObj → Prop} (h : zfd P x0 x1 x2 σ Z) : awp P zdj.body (AtEnd fun fr s => Z (resAs fr s zdj.res) s) (zW 0 [x0, x1, x2]) σ :=
  cast (by kernel_rfl) h
/-- bulla/request.Digest -/
def zew (P : Program) (x0 x1 : AV) (σ : List AObj) (Z : Option (List AV) → List AObj → Prop) : Prop :=
  ACall P zaK [dm x1] σ fun v1 s2 =>
  binC .neq .plain v1 (.d (.int .i64 0)) s2 fun v3 s4 =>
  condC v3 (Z (consO (some (.d (.int .i64 0))) (consO (some v1) (some []))) s4) (ACall P zca [dm x0] s4 fun v5 s6 =>
  unC .not v5 s6 fun v7 s8 =>
  condC v7 (Z (consO (some (.d (.int .i64 0))) (consO (some (.d (.int .i64 2))) (some []))) s8) (ACall P zcb [dm (.exact []), dm x1] s8 fun v9 s10 =>
  ACall P zaS [dm x0, dm v9] s10 fun v11 s12 =>
  binC .eql .plain v11 (.d (.int .i64 0)) s12 fun v13 s14 =>
  condC v13 (Z (consO (some (.d (.int .i64 0))) (consO (some (.d (.int .i64 6))) (some []))) s14) (Z (consO (some v11) (consO (some (.d (.int .i64 0))) (some []))) s14)))
theorem ziz {P : Program} {x0 x1 : AV} {σ : List AObj} {Z : Option (List AV) → List AObj → Prop} (h : zew P x0 x1 σ Z) : awp P zcM.body (AtEnd fun fr s => Z (resAs fr s zcM.res) s) (zW 0 [x0, x1]) σ :=
  cast (by kernel_rfl) h
/-- bulla/bullaref08.Seal -/
def zkJ (P : Program) (x0 x1 x2 : AV) (σ : List AObj) (Z : Option (List AV) → List AObj → Prop) : Prop :=
  boxC x2 σ fun v1 s2 =>
  zC [(.d (.int .i64 0)), (.d (.int .i64 0)), (.d (.int .i64 0)), (.d (.str [])), (.d (.str [])), (.d (.int .i64 0)), (.exact []), (.d (.int .i64 0)), (.d (.int .i64 0))] s2 fun v3 s4 =>
  loadC true 7 v1 s4 fun v5 s6 =>
  ACall P zda [dm v5] s6 fun v7 s8 =>
  zd v7 0 s8 fun v9 s10 =>
  zd v7 1 s10 fun v11 s12 =>
  binC .neq .plain v11 (.d (.int .i64 0)) s12 fun v13 s14 =>
  condC v13 (zA (fillV [(.d (.int .i64 0)), (.d (.int .i64 0)), (.d (.int .i64 0)), (.d (.str [])), (.d (.str [])), (.d (.int .i64 0)), (.exact []), (.d (.int .i64 0)), (.d (.int .i64 0))] []) s14 fun v15 s16 =>
  zx 9 v3 v15 s16 fun _ s18 =>
  Z (consO (cellA v3 s18 true 9) (consO (some v11) (some []))) s18) (zm 0 v1 s14 fun v19 s20 =>
  loadC false 1 v19 s20 fun v21 s22 =>
  ACall P zdN [dm v21] s22 fun v23 s24 =>
  ACall P zce [dm x0, dm v9] s24 fun v25 s26 =>
  ACall P zcu [dm x1, dm v23, dm v25] s26 fun v27 s28 =>
  zd v27 0 s28 fun v29 s30 =>
  zd v27 1 s30 fun v31 s32 =>
  zC [(.d (.int .i64 0)), (.d (.int .i64 0))] s32 fun v33 s34 =>
  zx 2 v33 v29 s34 fun _ s36 =>
  binC .neq .plain v31 (.d (.int .i64 0)) s36 fun v37 s38 =>
  condC v37 (zA (fillV [(.d (.int .i64 0)), (.d (.int .i64 0)), (.d (.int .i64 0)), (.d (.str [])), (.d (.str [])), (.d (.int .i64 0)), (.exact []), (.d (.int .i64 0)), (.d (.int .i64 0))] []) s38 fun v39 s40 =>
  zx 9 v3 v39 s40 fun _ s42 =>
  Z (consO (cellA v3 s42 true 9) (consO (some v31) (some []))) s42) (loadC true 7 v1 s38 fun v43 s44 =>
  loadC true 2 v33 s44 fun v45 s46 =>
  zA (fillV [(.d (.int .i64 0)), (.d (.int .i64 0)), (.d (.int .i64 0)), (.d (.str [])), (.d (.str [])), (.d (.int .i64 0)), (.exact []), (.d (.int .i64 0)), (.d (.int .i64 0))] [(0, 7, v43), (7, 2, v45)]) s46 fun v47 s48 =>
  zx 9 v3 v47 s48 fun _ s50 =>
  Z (consO (cellA v3 s50 true 9) (consO (some (.d (.int .i64 0))) (some []))) s50))
theorem s_r08_Seal {P : Program} {x0 x1 x2 : AV} {σ : List AObj} {Z : Option (List AV) → List AObj → Prop} (h : zkJ P x0 x1 x2 σ Z) : awp P zhW.body (AtEnd fun fr s => Z (resAs fr s zhW.res) s) (zW 0 [x0, x1, x2]) σ :=
  cast (by kernel_rfl) h
/-- bulla/bullaref08.Valid -/
def zjB (P : Program) (x0 x1 x2 : AV) (σ : List AObj) (Z : Option (List AV) → List AObj → Prop) : Prop :=
  boxC x2 σ fun v1 s2 =>
  zm 0 v1 s2 fun v3 s4 =>
  loadC true 7 v3 s4 fun v5 s6 =>
  ACall P zda [dm v5] s6 fun v7 s8 =>
  zd v7 0 s8 fun v9 s10 =>
  zd v7 1 s10 fun v11 s12 =>
  binC .neq .plain v11 (.d (.int .i64 0)) s12 fun v13 s14 =>
  zI v13 false (fun k => zm 7 v1 s14 k) s14 (fun v15 s16 =>
  zI v13 false (fun k => zm 0 v15 s16 k) s16 (fun v17 s18 =>
  zI v13 false (fun k => loadC false 1 v17 s18 k) s18 (fun v19 s20 =>
  zI v13 false (fun k => zm 0 v1 s20 k) s20 (fun v21 s22 =>
  zI v13 false (fun k => zm 0 v21 s22 k) s22 (fun v23 s24 =>
  zI v13 false (fun k => loadC false 1 v23 s24 k) s24 (fun v25 s26 =>
  zI v13 false (fun k => ACall P zdN [dm v25] s26 k) s26 (fun v27 s28 =>
  keepO v17 s26 s28 ∧ (zI v13 false (fun k => binC .neq .plain v19 v27 s28 k) s28 (fun v29 s30 =>
  pickC v13 (.d (.bool true)) v29 s30 fun v31 s32 =>
  condC v31 (Z (consO (some (.d (.bool false))) (some [])) s32) (ACall P zbN [dm x0, dm v9] s32 fun v33 s34 =>
  zd v33 0 s34 fun v35 s36 =>
  zd v33 1 s36 fun v37 s38 =>
  zI v37 true (fun k => k v35 s38) s38 (fun v39 s40 =>
  zI v37 true (fun k => zm 7 v1 s40 k) s40 (fun v41 s42 =>
  zI v37 true (fun k => zm 1 v41 s42 k) s42 (fun v43 s44 =>
  zI v37 true (fun k => loadC false 1 v43 s44 k) s44 (fun v45 s46 =>
  zI v37 true (fun k => binC .eql .plain v39 v45 s46 k) s46 (fun v47 s48 =>
  pickC v37 v47 (.d (.bool false)) s48 fun v49 s50 =>
  zI v49 true (fun k => k x1 s50) s50 (fun v51 s52 =>
  zI v49 true (fun k => zm 7 v1 s52 k) s52 (fun v53 s54 =>
  zI v49 true (fun k => loadC true 2 v53 s54 k) s54 (fun v55 s56 =>
  zI v49 true (fun k => ACall P zbb [dm v51, dm v55] s56 k) s56 (fun v57 s58 =>
  pickC v49 v57 (.d (.bool false)) s58 fun v59 s60 =>
  Z (consO (some v59) (some [])) s60)))))))))))))))))))
theorem s_r08_Valid {P : Program} {x0 x1 x2 : AV} {σ : List AObj} {Z : Option (List AV) → List AObj → Prop} (h : zjB P x0 x1 x2 σ Z) : awp P zgs.body (AtEnd fun fr s => Z (resAs fr s zgs.res) s) (zW 0 [x0, x1, x2]) σ :=
  cast (by kernel_rfl) h
/-- bulla/request.ValidBatch -/
def zcT (P : Program) (x0 x1 x2 : AV) (σ : List AObj) (Z : Option (List AV) → List AObj → Prop) : Prop :=
  boxC x0 σ fun v1 s2 =>
  boxC x1 s2 fun v3 s4 =>
  ACall P zaK [dm x2] s4 fun v5 s6 =>
  binC .eql .plain v5 (.d (.int .i64 0)) s6 fun v7 s8 =>
  zI v7 true (fun k => k x2 s8) s8 (fun v9 s10 =>
  zI v7 true (fun k => k (.fn (.func zcp) [] [v1, v3]) s10) s10 (fun v11 s12 =>
  zI v7 true (fun k => ACall P zal [dm v9, dm v11] s12 k) s12 (fun v13 s14 =>
  zI v7 true (fun k => unC .not v13 s14 k) s14 (fun v15 s16 =>
  pickC v7 v15 (.d (.bool false)) s16 fun v17 s18 =>
  Z (consO (some v17) (some [])) s18))))
theorem zfB {P : Program} {x0 x1 x2 : AV} {σ : List AObj} {Z : Option (List AV) → List AObj → Prop} (h : zcT P x0 x1 x2 σ Z) : awp P zbG.body (AtEnd fun fr s => Z (resAs fr s zbG.res) s) (zW 0 [x0, x1, x2]) σ :=
  cast (by kernel_rfl) h
/-- bulla/bullaref08.ValidBatch -/
def zex (P : Program) (x0 x1 x2 : AV) (σ : List AObj) (Z : Option (List AV) → List AObj → Prop) : Prop :=
  ACall P zbh [dm x2] σ fun v1 s2 =>
  binC .neq .plain v1 (.d (.int .i64 0)) s2 fun v3 s4 =>
  condC v3 (Z (consO (some (.d (.bool false))) (some [])) s4) (loopC [(.d (.int .i64 0))] s4 fun vs5 s6 again7 =>
  headC vs5 fun v8 vs9 =>
  lenC .sl x2 s6 fun v10 s11 =>
  binC .lss .plain v8 v10 s11 fun v12 s13 =>
  condC v12 (zy none 9 x2 v8 s13 fun v14 s15 =>
  loadC true 9 v14 s15 fun v16 s17 =>
  ACall P zef [dm x0, dm x1, dm v16] s17 fun v18 s19 =>
  unC .not v18 s19 fun v20 s21 =>
  condC v20 (Z (consO (some (.d (.bool false))) (some [])) s21) (binC .add .plain v8 (.d (.int .i64 1)) s21 fun v22 s23 =>
  again7 [v22] s23)) (Z (consO (some (.d (.bool true))) (some [])) s13))
theorem ziA {P : Program} {x0 x1 x2 : AV} {σ : List AObj} {Z : Option (List AV) → List AObj → Prop} (h : zex P x0 x1 x2 σ Z) : awp P zcN.body (AtEnd fun fr s => Z (resAs fr s zcN.res) s) (zW 0 [x0, x1, x2]) σ :=
  cast (by kernel_rfl) h
/-- bulla/bullaref08.Digest -/
def zis (P : Program) (x0 x1 : AV) (σ : List AObj) (Z : Option (List AV) → List AObj → Prop) : Prop :=
  ACall P zbh [dm x1] σ fun v1 s2 =>
  binC .neq .plain v1 (.d (.int .i64 0)) s2 fun v3 s4 =>
  condC v3 (Z (consO (some (.d (.int .i64 0))) (consO (some v1) (some []))) s4) (ACall P zdC [dm (.exact []), dm x1] s4 fun v5 s6 =>
  ACall P zce [dm x0, dm v5] s6 fun v7 s8 =>
  binC .eql .plain v7 (.d (.int .i64 0)) s8 fun v9 s10 =>
  condC v9 (Z (consO (some (.d (.int .i64 0))) (consO (some (.d (.int .i64 6))) (some []))) s10) (Z (consO (some v7) (consO (some (.d (.int .i64 0))) (some []))) s10))
theorem s_r08_Digest {P : Program} {x0 x1 : AV} {σ : List AObj} {Z : Option (List AV) → List AObj → Prop} (h : zis P x0 x1 σ Z) : awp P zfj.body (AtEnd fun fr s => Z (resAs fr s zfj.res) s) (zW 0 [x0, x1]) σ :=
  cast (by kernel_rfl) h
/-- bulla/bullaref08.SameRequest -/
def zdW (P : Program) (x0 x1 : AV) (σ : List AObj) (Z : Option (List AV) → List AObj → Prop) : Prop :=
  boxC x0 σ fun v1 s2 =>
  boxC x1 s2 fun v3 s4 =>
  zm 0 v1 s4 fun v5 s6 =>
  loadC false 1 v5 s6 fun v7 s8 =>
  zm 0 v3 s8 fun v9 s10 =>
  loadC false 1 v9 s10 fun v11 s12 =>
  binC .eql .plain v7 v11 s12 fun v13 s14 =>
  zI v13 true (fun k => zm 1 v1 s14 k) s14 (fun v15 s16 =>
  zI v13 true (fun k => loadC false 1 v15 s16 k) s16 (fun v17 s18 =>
  zI v13 true (fun k => zm 1 v3 s18 k) s18 (fun v19 s20 =>
  zI v13 true (fun k => loadC false 1 v19 s20 k) s20 (fun v21 s22 =>
  zI v13 true (fun k => binC .eql .plain v17 v21 s22 k) s22 (fun v23 s24 =>
  pickC v13 v23 (.d (.bool false)) s24 fun v25 s26 =>
  zI v25 true (fun k => zm 2 v1 s26 k) s26 (fun v27 s28 =>
  zI v25 true (fun k => loadC true 5 v27 s28 k) s28 (fun v29 s30 =>
  zI v25 true (fun k => zm 2 v3 s30 k) s30 (fun v31 s32 =>
  zI v25 true (fun k => loadC true 5 v31 s32 k) s32 (fun v33 s34 =>
  zI v25 true (fun k => ACall P zhx [dm v29, dm v33] s34 k) s34 (fun v35 s36 =>
  pickC v25 v35 (.d (.bool false)) s36 fun v37 s38 =>
  Z (consO (some v37) (some [])) s38))))))))))
theorem zhn {P : Program} {x0 x1 : AV} {σ : List AObj} {Z : Option (List AV) → List AObj → Prop} (h : zdW P x0 x1 σ Z) : awp P zcz.body (AtEnd fun fr s => Z (resAs fr s zcz.res) s) (zW 0 [x0, x1]) σ :=
  cast (by kernel_rfl) h
end Go.Proofs.Ythmdpooklflkfaa
