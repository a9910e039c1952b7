/- The conditions of each function, its slots as variables, and that the logic's conditions are these. Printed by program. -/
import Derived.Test.YtcappjcojggehaaGreatAf4
set_option linter.all false
set_option maxRecDepth 100000
set_option linter.unusedVariables false
namespace Go.Proofs.YtcappjcojggehaaGreat
open Go.AW
/-- bulla/quorum.times -/
def zhq (P : Program) (x0 x1 : AV) (σ : List AObj) (Z : Option (List AV) → List AObj → Prop) : Prop :=
  ACall P zbT [dm x1] σ fun v1 s2 =>
  binC .neq .plain v1 (.d (.int .i64 0)) s2 fun v3 s4 =>
  condC v3 (Z (consO (some (.d (.int .i64 0))) (some [])) s4) (binC .mul .plain x0 x1 s4 fun v5 s6 =>
  binC .add .plain v5 (.d (.int .i64 1)) s6 fun v7 s8 =>
  Z (consO (some v7) (some [])) s8)
theorem zmw {P : Program} {x0 x1 : AV} {σ : List AObj} {Z : Option (List AV) → List AObj → Prop} (h : zhq P x0 x1 σ Z) : awp P zeA.body (AtEnd fun fr s => Z (resAs fr s zeA.res) s) (zB 0 [x0, x1]) σ :=
  cast (by kernel_rfl) h
/-- bulla/bullaref08.Valid -/
def zme (P : Program) (x0 x1 x2 : AV) (σ : List AObj) (Z : Option (List AV) → List AObj → Prop) : Prop :=
  boxC x2 σ fun v1 s2 =>
  zh 0 v1 s2 fun v3 s4 =>
  loadC true 7 v3 s4 fun v5 s6 =>
  ACall P zdN [dm v5] s6 fun v7 s8 =>
  zi v7 0 s8 fun v9 s10 =>
  zi v7 1 s10 fun v11 s12 =>
  binC .neq .plain v11 (.d (.int .i64 0)) s12 fun v13 s14 =>
  zc v13 false (fun k => zh 7 v1 s14 k) s14 (fun v15 s16 =>
  zc v13 false (fun k => zh 0 v15 s16 k) s16 (fun v17 s18 =>
  zc v13 false (fun k => loadC false 1 v17 s18 k) s18 (fun v19 s20 =>
  zc v13 false (fun k => zh 0 v1 s20 k) s20 (fun v21 s22 =>
  zc v13 false (fun k => zh 0 v21 s22 k) s22 (fun v23 s24 =>
  zc v13 false (fun k => loadC false 1 v23 s24 k) s24 (fun v25 s26 =>
  zc v13 false (fun k => ACall P zeJ [dm v25] s26 k) s26 (fun v27 s28 =>
  keepO v17 s26 s28 ∧ (zc v13 false (fun k => binC .neq .plain v19 v27 s28 k) s28 (fun v29 s30 =>
  pickC v13 (.d (.bool true)) v29 s30 fun v31 s32 =>
  condC v31 (Z (consO (some (.d (.bool false))) (some [])) s32) (ACall P zaU [dm x0, dm v9] s32 fun v33 s34 =>
  zi v33 0 s34 fun v35 s36 =>
  zi v33 1 s36 fun v37 s38 =>
  zc v37 true (fun k => k v35 s38) s38 (fun v39 s40 =>
  zc v37 true (fun k => zh 7 v1 s40 k) s40 (fun v41 s42 =>
  zc v37 true (fun k => zh 1 v41 s42 k) s42 (fun v43 s44 =>
  zc v37 true (fun k => loadC false 1 v43 s44 k) s44 (fun v45 s46 =>
  zc v37 true (fun k => binC .eql .plain v39 v45 s46 k) s46 (fun v47 s48 =>
  pickC v37 v47 (.d (.bool false)) s48 fun v49 s50 =>
  zc v49 true (fun k => k x1 s50) s50 (fun v51 s52 =>
  zc v49 true (fun k => zh 7 v1 s52 k) s52 (fun v53 s54 =>
  zc v49 true (fun k => loadC true 2 v53 s54 k) s54 (fun v55 s56 =>
  zc v49 true (fun k => ACall P zaS [dm v51, dm v55] s56 k) s56 (fun v57 s58 =>
  pickC v49 v57 (.d (.bool false)) s58 fun v59 s60 =>
  Z (consO (some v59) (some [])) s60)))))))))))))))))))
theorem s_r08_Valid {P : Program} {x0 x1 x2 : AV} {σ : List AObj} {Z : Option (List AV) → List AObj → Prop} (h : zme P x0 x1 x2 σ Z) : awp P zhY.body (AtEnd fun fr s => Z (resAs fr s zhY.res) s) (zB 0 [x0, x1, x2]) σ :=
  cast (by kernel_rfl) h
/-- bulla/bullaref02.Same -/
def znu (P : Program) (x0 x1 : AV) (σ : List AObj) (Z : Option (List AV) → List AObj → Prop) : Prop :=
  convC .toStr x0 σ fun v1 s2 =>
  convC .toStr x1 s2 fun v3 s4 =>
  binC .eql .plain v1 v3 s4 fun v5 s6 =>
  Z (consO (some v5) (some [])) s6
theorem s_r02_Same {P : Program} {x0 x1 : AV} {σ : List AObj} {Z : Option (List AV) → List AObj → Prop} (h : znu P x0 x1 σ Z) : awp P zjZ.body (AtEnd fun fr s => Z (resAs fr s zjZ.res) s) (zB 0 [x0, x1]) σ :=
  cast (by kernel_rfl) h
/-- bulla/bullaref01.PutNum -/
def zky (P : Program) (x0 x1 : AV) (σ : List AObj) (Z : Option (List AV) → List AObj → Prop) : Prop :=
  zt 1 1 (.exact []) x0 σ fun v1 s2 =>
  loopC [x1, v1] s2 fun vs3 s4 again5 =>
  headC vs3 fun v6 vs7 =>
  headC vs7 fun v8 vs9 =>
  binC .geq .plain v6 (.d (.int .u64 128)) s4 fun v10 s11 =>
  condC v10 (binC .rem .plain v6 (.d (.int .u64 128)) s11 fun v12 s13 =>
  convC (.int .u8) v12 s13 fun v14 s15 =>
  binC .add .plain v14 (.d (.int .u8 128)) s15 fun v16 s17 =>
  zl false 1 1 (fillV (rep [(.d (.int .u8 0))] 1) [(0, 1, v16)]) s17 fun v18 s19 =>
  zt 1 1 v8 v18 s19 fun v20 s21 =>
  binC .quo .plain v6 (.d (.int .u64 128)) s21 fun v22 s23 =>
  again5 [v22, v20] s23) (convC (.int .u8) v6 s11 fun v24 s25 =>
  zl false 1 1 (fillV (rep [(.d (.int .u8 0))] 1) [(0, 1, v24)]) s25 fun v26 s27 =>
  zt 1 1 v8 v26 s27 fun v28 s29 =>
  Z (consO (some v28) (some [])) s29)
theorem s_r01_PutNum {P : Program} {x0 x1 : AV} {σ : List AObj} {Z : Option (List AV) → List AObj → Prop} (h : zky P x0 x1 σ Z) : awp P zgI.body (AtEnd fun fr s => Z (resAs fr s zgI.res) s) (zB 0 [x0, x1]) σ :=
  cast (by kernel_rfl) h
/-- bulla/bullaref08.PutSign -/
def ziY (P : Program) (x0 x1 : AV) (σ : List AObj) (Z : Option (List AV) → List AObj → Prop) : Prop :=
  boxC x1 σ fun v1 s2 =>
  loadC true 2 v1 s2 fun v3 s4 =>
  ACall P zcv [dm v3] s4 fun v5 s6 =>
  binC .neq .plain v5 (.d (.int .i64 0)) s6 fun v7 s8 =>
  condC v7 (Z (consO (some x0) (some [])) s8) (zh 0 v1 s8 fun v9 s10 =>
  loadC false 1 v9 s10 fun v11 s12 =>
  convC (.int .u64) v11 s12 fun v13 s14 =>
  zh 1 v1 s14 fun v15 s16 =>
  loadC false 1 v15 s16 fun v17 s18 =>
  convC (.int .u64) v17 s18 fun v19 s20 =>
  ACall P zaB [dm x0, dm v13] s20 fun v21 s22 =>
  keepO v15 s20 s22 ∧ (ACall P zaB [dm v21, dm v19] s22 fun v23 s24 =>
  Z (consO (some v23) (some [])) s24))
theorem znH {P : Program} {x0 x1 : AV} {σ : List AObj} {Z : Option (List AV) → List AObj → Prop} (h : ziY P x0 x1 σ Z) : awp P zfy.body (AtEnd fun fr s => Z (resAs fr s zfy.res) s) (zB 0 [x0, x1]) σ :=
  cast (by kernel_rfl) h
/-- bulla/bullaref01.PutBytes -/
def zhp (P : Program) (x0 x1 : AV) (σ : List AObj) (Z : Option (List AV) → List AObj → Prop) : Prop :=
  lenC .sl x1 σ fun v1 s2 =>
  convC (.int .u64) v1 s2 fun v3 s4 =>
  ACall P zaB [dm x0, dm v3] s4 fun v5 s6 =>
  zt 1 1 v5 x1 s6 fun v7 s8 =>
  Z (consO (some v7) (some [])) s8
theorem zmv {P : Program} {x0 x1 : AV} {σ : List AObj} {Z : Option (List AV) → List AObj → Prop} (h : zhp P x0 x1 σ Z) : awp P zez.body (AtEnd fun fr s => Z (resAs fr s zez.res) s) (zB 0 [x0, x1]) σ :=
  cast (by kernel_rfl) h
/-- bulla/bullaref11.signed -/
def zkv (P : Program) (x0 x1 x2 x3 x4 : AV) (σ : List AObj) (Z : Option (List AV) → List AObj → Prop) : Prop :=
  boxC x2 σ fun v1 s2 =>
  ACall P zaU [dm x0, dm x4] s2 fun v3 s4 =>
  zi v3 0 s4 fun v5 s6 =>
  zi v3 1 s6 fun v7 s8 =>
  zc v7 true (fun k => zh 0 v1 s8 k) s8 (fun v9 s10 =>
  zc v7 true (fun k => loadC false 1 v9 s10 k) s10 (fun v11 s12 =>
  zc v7 true (fun k => k x3 s12) s12 (fun v13 s14 =>
  zc v7 true (fun k => binC .eql .plain v11 v13 s14 k) s14 (fun v15 s16 =>
  pickC v7 v15 (.d (.bool false)) s16 fun v17 s18 =>
  zc v17 true (fun k => zh 1 v1 s18 k) s18 (fun v19 s20 =>
  zc v17 true (fun k => loadC false 1 v19 s20 k) s20 (fun v21 s22 =>
  zc v17 true (fun k => k v5 s22) s22 (fun v23 s24 =>
  zc v17 true (fun k => binC .eql .plain v21 v23 s24 k) s24 (fun v25 s26 =>
  pickC v17 v25 (.d (.bool false)) s26 fun v27 s28 =>
  zc v27 true (fun k => k x1 s28) s28 (fun v29 s30 =>
  zc v27 true (fun k => loadC true 2 v1 s30 k) s30 (fun v31 s32 =>
  zc v27 true (fun k => ACall P zaS [dm v29, dm v31] s32 k) s32 (fun v33 s34 =>
  pickC v27 v33 (.d (.bool false)) s34 fun v35 s36 =>
  Z (consO (some v35) (some [])) s36)))))))))))
theorem s_r11_signed {P : Program} {x0 x1 x2 x3 x4 : AV} {σ : List AObj} {Z : Option (List AV) → List AObj → Prop} (h : zkv P x0 x1 x2 x3 x4 σ Z) : awp P zgF.body (AtEnd fun fr s => Z (resAs fr s zgF.res) s) (zB 0 [x0, x1, x2, x3, x4]) σ :=
  cast (by kernel_rfl) h
/-- slices.Clone[[]bulla/api.Sign,bulla/api.Sign] -/
def zba (P : Program) (x0 : AV) (σ : List AObj) (Z : Option (List AV) → List AObj → Prop) : Prop :=
  zZ false x0 σ fun v1 s2 =>
  condC v1 (Z (consO (some (.exact [])) (some [])) s2) (zl false 2 0 (fillV (rep [(.d (.int .i64 0)), (.d (.int .i64 0))] 0) []) s2 fun v3 s4 =>
  zt 2 16 v3 x0 s4 fun v5 s6 =>
  Z (consO (some v5) (some [])) s6)
theorem zcG {P : Program} {x0 : AV} {σ : List AObj} {Z : Option (List AV) → List AObj → Prop} (h : zba P x0 σ Z) : awp P zaE.body (AtEnd fun fr s => Z (resAs fr s zaE.res) s) (zB 0 [x0]) σ :=
  cast (by kernel_rfl) h
/-- bulla/request.Clone -/
def zgw (P : Program) (x0 : AV) (σ : List AObj) (Z : Option (List AV) → List AObj → Prop) : Prop :=
  lenC .sl x0 σ fun v1 s2 =>
  loopC [(.exact []), (.d (.int .i64 0))] s2 fun vs3 s4 again5 =>
  headC vs3 fun v6 vs7 =>
  headC vs7 fun v8 vs9 =>
  binC .lss .plain v8 v1 s4 fun v10 s11 =>
  condC v10 (zr none 9 x0 v8 s11 fun v12 s13 =>
  loadC true 9 v12 s13 fun v14 s15 =>
  zH [(.d (.int .i64 0)), (.d (.int .i64 0)), (.d (.int .i64 0)), (.d (.str [])), (.d (.str [])), (.d (.int .i64 0)), (.exact []), (.d (.int .i64 0)), (.d (.int .i64 0))] s15 fun v16 s17 =>
  zp 9 v16 v14 s17 fun _ s19 =>
  zh 0 v16 s19 fun v20 s21 =>
  zh 2 v20 s21 fun v22 s23 =>
  loadC true 5 v22 s23 fun v24 s25 =>
  ACall P zjo [dm v24] s25 fun v26 s27 =>
  zh 0 v16 s27 fun v28 s29 =>
  zh 2 v28 s29 fun v30 s31 =>
  zp 5 v30 v26 s31 fun _ s33 =>
  loadC true 9 v16 s33 fun v34 s35 =>
  zl false 9 1 (fillV (rep [(.d (.int .i64 0)), (.d (.int .i64 0)), (.d (.int .i64 0)), (.d (.str [])), (.d (.str [])), (.d (.int .i64 0)), (.exact []), (.d (.int .i64 0)), (.d (.int .i64 0))] 1) [(0, 9, v34)]) s35 fun v36 s37 =>
  zt 9 104 v6 v36 s37 fun v38 s39 =>
  binC .add .plain v8 (.d (.int .i64 1)) s39 fun v40 s41 =>
  again5 [v38, v40] s41) (Z (consO (some v6) (some [])) s11)
theorem zll {P : Program} {x0 : AV} {σ : List AObj} {Z : Option (List AV) → List AObj → Prop} (h : zgw P x0 σ Z) : awp P zec.body (AtEnd fun fr s => Z (resAs fr s zec.res) s) (zB 0 [x0]) σ :=
  cast (by kernel_rfl) h
/-- bulla/op.Same -/
def S_op_Same (P : Program) (x0 x1 : AV) (σ : List AObj) (Z : Option (List AV) → List AObj → Prop) : Prop :=
  boxC x0 σ fun v1 s2 =>
  boxC x1 s2 fun v3 s4 =>
  zh 0 v1 s4 fun v5 s6 =>
  loadC false 1 v5 s6 fun v7 s8 =>
  zh 0 v3 s8 fun v9 s10 =>
  loadC false 1 v9 s10 fun v11 s12 =>
  binC .eql .plain v7 v11 s12 fun v13 s14 =>
  zc v13 true (fun k => zh 1 v1 s14 k) s14 (fun v15 s16 =>
  zc v13 true (fun k => loadC false 1 v15 s16 k) s16 (fun v17 s18 =>
  zc v13 true (fun k => zh 1 v3 s18 k) s18 (fun v19 s20 =>
  zc v13 true (fun k => loadC false 1 v19 s20 k) s20 (fun v21 s22 =>
  zc v13 true (fun k => binC .eql .plain v17 v21 s22 k) s22 (fun v23 s24 =>
  pickC v13 v23 (.d (.bool false)) s24 fun v25 s26 =>
  zc v25 true (fun k => zh 2 v1 s26 k) s26 (fun v27 s28 =>
  zc v25 true (fun k => loadC false 1 v27 s28 k) s28 (fun v29 s30 =>
  zc v25 true (fun k => zh 2 v3 s30 k) s30 (fun v31 s32 =>
  zc v25 true (fun k => loadC false 1 v31 s32 k) s32 (fun v33 s34 =>
  zc v25 true (fun k => binC .eql .plain v29 v33 s34 k) s34 (fun v35 s36 =>
  pickC v25 v35 (.d (.bool false)) s36 fun v37 s38 =>
  zc v37 true (fun k => zh 3 v1 s38 k) s38 (fun v39 s40 =>
  zc v37 true (fun k => loadC false 1 v39 s40 k) s40 (fun v41 s42 =>
  zc v37 true (fun k => zh 3 v3 s42 k) s42 (fun v43 s44 =>
  zc v37 true (fun k => loadC false 1 v43 s44 k) s44 (fun v45 s46 =>
  zc v37 true (fun k => binC .eql .plain v41 v45 s46 k) s46 (fun v47 s48 =>
  pickC v37 v47 (.d (.bool false)) s48 fun v49 s50 =>
  zc v49 true (fun k => zh 4 v1 s50 k) s50 (fun v51 s52 =>
  zc v49 true (fun k => loadC false 1 v51 s52 k) s52 (fun v53 s54 =>
  zc v49 true (fun k => zh 4 v3 s54 k) s54 (fun v55 s56 =>
  zc v49 true (fun k => loadC false 1 v55 s56 k) s56 (fun v57 s58 =>
  zc v49 true (fun k => ACall P zX [dm v53, dm v57, dm (.fn (.func zfl) [] [])] s58 k) s58 (fun v59 s60 =>
  pickC v49 v59 (.d (.bool false)) s60 fun v61 s62 =>
  Z (consO (some v61) (some [])) s62))))))))))))))))))))
theorem s_op_Same {P : Program} {x0 x1 : AV} {σ : List AObj} {Z : Option (List AV) → List AObj → Prop} (h : S_op_Same P x0 x1 σ Z) : awp P zms.body (AtEnd fun fr s => Z (resAs fr s zms.res) s) (zB 0 [x0, x1]) σ :=
  cast (by kernel_rfl) h
/-- bulla/bullaref08.Check -/
def zmf (P : Program) (x0 : AV) (σ : List AObj) (Z : Option (List AV) → List AObj → Prop) : Prop :=
  boxC x0 σ fun v1 s2 =>
  zh 0 v1 s2 fun v3 s4 =>
  loadC false 1 v3 s4 fun v5 s6 =>
  ACall P zeJ [dm v5] s6 fun v7 s8 =>
  binC .lss .plain v7 (.d (.int .i64 0)) s8 fun v9 s10 =>
  zc v9 false (fun k => zh 1 v1 s10 k) s10 (fun v11 s12 =>
  zc v9 false (fun k => loadC false 1 v11 s12 k) s12 (fun v13 s14 =>
  zc v9 false (fun k => binC .lss .plain v13 (.d (.int .i64 1)) s14 k) s14 (fun v15 s16 =>
  pickC v9 (.d (.bool true)) v15 s16 fun v17 s18 =>
  zc v17 false (fun k => zh 1 v1 s18 k) s18 (fun v19 s20 =>
  zc v17 false (fun k => loadC false 1 v19 s20 k) s20 (fun v21 s22 =>
  zc v17 false (fun k => binC .gtr .plain v21 (.d (.int .i64 9007199254740992)) s22 k) s22 (fun v23 s24 =>
  pickC v17 (.d (.bool true)) v23 s24 fun v25 s26 =>
  condC v25 (Z (consO (some (.d (.int .i64 80))) (some [])) s26) (zh 2 v1 s26 fun v27 s28 =>
  loadC true 5 v27 s28 fun v29 s30 =>
  ACall P zfj [dm v29] s30 fun v31 s32 =>
  Z (consO (some v31) (some [])) s32)))))))
theorem s_r08_Check {P : Program} {x0 : AV} {σ : List AObj} {Z : Option (List AV) → List AObj → Prop} (h : zmf P x0 σ Z) : awp P zhZ.body (AtEnd fun fr s => Z (resAs fr s zhZ.res) s) (zB 0 [x0]) σ :=
  cast (by kernel_rfl) h
/-- bulla/bullaref06.Put -/
def S_r06_Put (P : Program) (x0 x1 : AV) (σ : List AObj) (Z : Option (List AV) → List AObj → Prop) : Prop :=
  boxC x1 σ fun v1 s2 =>
  loadC true 5 v1 s2 fun v3 s4 =>
  ACall P zfj [dm v3] s4 fun v5 s6 =>
  binC .neq .plain v5 (.d (.int .i64 0)) s6 fun v7 s8 =>
  condC v7 (Z (consO (some x0) (some [])) s8) (zh 0 v1 s8 fun v9 s10 =>
  loadC false 1 v9 s10 fun v11 s12 =>
  ACall P zel [dm v11] s12 fun v13 s14 =>
  zi v13 0 s14 fun v15 s16 =>
  zi v13 1 s16 fun v17 s18 =>
  zi v13 2 s18 fun v19 s20 =>
  zi v13 3 s20 fun v21 s22 =>
  zh 0 v1 s22 fun v23 s24 =>
  loadC false 1 v23 s24 fun v25 s26 =>
  convC (.int .u64) v25 s26 fun v27 s28 =>
  ACall P zaB [dm x0, dm v27] s28 fun v29 s30 =>
  (fun (k31 : AV → List AObj → Prop) => condC v15 (zh 1 v1 s30 fun v96 s97 =>
  loadC false 1 v96 s97 fun v98 s99 =>
  convC .toBytes v98 s99 fun v100 s101 =>
  ACall P zbA [dm v29, dm v100] s101 fun v102 s103 =>
  k31 v102 s103) (k31 v29 s30))
  (fun v32 s33 => (fun (k34 : AV → List AObj → Prop) => condC v17 (zh 2 v1 s33 fun v88 s89 =>
  loadC false 1 v88 s89 fun v90 s91 =>
  convC .toBytes v90 s91 fun v92 s93 =>
  ACall P zbA [dm v32, dm v92] s93 fun v94 s95 =>
  k34 v94 s95) (k34 v32 s33))
  (fun v35 s36 => (fun (k37 : AV → List AObj → Prop) => condC v19 (zh 3 v1 s36 fun v80 s81 =>
  loadC false 1 v80 s81 fun v82 s83 =>
  convC (.int .u64) v82 s83 fun v84 s85 =>
  ACall P zaB [dm v35, dm v84] s85 fun v86 s87 =>
  k37 v86 s87) (k37 v35 s36))
  (fun v38 s39 => (fun (k40 : AV → List AObj → Prop) => condC v21 (zh 4 v1 s39 fun v43 s44 =>
  loadC false 1 v43 s44 fun v45 s46 =>
  lenC .sl v45 s46 fun v47 s48 =>
  convC (.int .u64) v47 s48 fun v49 s50 =>
  ACall P zaB [dm v38, dm v49] s50 fun v51 s52 =>
  loopC [v51, (.d (.int .i64 0))] s52 fun vs53 s54 again55 =>
  headC vs53 fun v56 vs57 =>
  headC vs57 fun v58 vs59 =>
  zh 4 v1 s54 fun v60 s61 =>
  loadC false 1 v60 s61 fun v62 s63 =>
  lenC .sl v62 s63 fun v64 s65 =>
  binC .lss .plain v58 v64 s65 fun v66 s67 =>
  condC v66 (zh 4 v1 s67 fun v68 s69 =>
  loadC false 1 v68 s69 fun v70 s71 =>
  zr none 1 v70 v58 s71 fun v72 s73 =>
  loadC false 1 v72 s73 fun v74 s75 =>
  ACall P zbA [dm v56, dm v74] s75 fun v76 s77 =>
  binC .add .plain v58 (.d (.int .i64 1)) s77 fun v78 s79 =>
  again55 [v76, v78] s79) (k40 v56 s67)) (k40 v38 s39))
  (fun v41 s42 => Z (consO (some v41) (some [])) s42)))))
theorem s_r06_Put {P : Program} {x0 x1 : AV} {σ : List AObj} {Z : Option (List AV) → List AObj → Prop} (h : S_r06_Put P x0 x1 σ Z) : awp P zmq.body (AtEnd fun fr s => Z (resAs fr s zmq.res) s) (zB 0 [x0, x1]) σ :=
  cast (by kernel_rfl) h
/-- (*bulla/bullaref02.Ledger).Signed -/
def zdU (P : Program) (x0 x1 : AV) (σ : List AObj) (Z : Option (List AV) → List AObj → Prop) : Prop :=
  boxC x1 σ fun v1 s2 =>
  loopC [(.d (.int .i64 0))] s2 fun vs3 s4 again5 =>
  headC vs3 fun v6 vs7 =>
  nilC x0 s4 fun v8 s9 =>
  zh 0 v8 s9 fun v10 s11 =>
  loadC false 1 v10 s11 fun v12 s13 =>
  lenC .sl v12 s13 fun v14 s15 =>
  binC .lss .plain v6 v14 s15 fun v16 s17 =>
  condC v16 (nilC x0 s17 fun v18 s19 =>
  zh 0 v18 s19 fun v20 s21 =>
  loadC false 1 v20 s21 fun v22 s23 =>
  zr none 2 v22 v6 s23 fun v24 s25 =>
  loadC true 2 v24 s25 fun v26 s27 =>
  loadC true 2 v1 s27 fun v28 s29 =>
  binC .eql (.ints 2) v26 v28 s29 fun v30 s31 =>
  condC v30 (Z (consO (some (.d (.bool true))) (some [])) s31) (binC .add .plain v6 (.d (.int .i64 1)) s31 fun v32 s33 =>
  again5 [v32] s33)) (Z (consO (some (.d (.bool false))) (some [])) s17)
theorem zhx {P : Program} {x0 x1 : AV} {σ : List AObj} {Z : Option (List AV) → List AObj → Prop} (h : zdU P x0 x1 σ Z) : awp P zcf.body (AtEnd fun fr s => Z (resAs fr s zcf.res) s) (zB 0 [x0, x1]) σ :=
  cast (by kernel_rfl) h
/-- bulla/bullaref08.CheckSign -/
def zgB (P : Program) (x0 : AV) (σ : List AObj) (Z : Option (List AV) → List AObj → Prop) : Prop :=
  boxC x0 σ fun v1 s2 =>
  zh 0 v1 s2 fun v3 s4 =>
  loadC false 1 v3 s4 fun v5 s6 =>
  binC .lss .plain v5 (.d (.int .i64 0)) s6 fun v7 s8 =>
  zc v7 false (fun k => zh 0 v1 s8 k) s8 (fun v9 s10 =>
  zc v7 false (fun k => loadC false 1 v9 s10 k) s10 (fun v11 s12 =>
  zc v7 false (fun k => binC .geq .plain v11 (.d (.int .i64 21)) s12 k) s12 (fun v13 s14 =>
  pickC v7 (.d (.bool true)) v13 s14 fun v15 s16 =>
  zc v15 false (fun k => zh 1 v1 s16 k) s16 (fun v17 s18 =>
  zc v15 false (fun k => loadC false 1 v17 s18 k) s18 (fun v19 s20 =>
  zc v15 false (fun k => binC .lss .plain v19 (.d (.int .i64 1)) s20 k) s20 (fun v21 s22 =>
  pickC v15 (.d (.bool true)) v21 s22 fun v23 s24 =>
  zc v23 false (fun k => zh 1 v1 s24 k) s24 (fun v25 s26 =>
  zc v23 false (fun k => loadC false 1 v25 s26 k) s26 (fun v27 s28 =>
  zc v23 false (fun k => binC .gtr .plain v27 (.d (.int .i64 9007199254740992)) s28 k) s28 (fun v29 s30 =>
  pickC v23 (.d (.bool true)) v29 s30 fun v31 s32 =>
  condC v31 (Z (consO (some (.d (.int .i64 81))) (some [])) s32) (Z (consO (some (.d (.int .i64 0))) (some [])) s32))))))))))
theorem zlq {P : Program} {x0 : AV} {σ : List AObj} {Z : Option (List AV) → List AObj → Prop} (h : zgB P x0 σ Z) : awp P zeh.body (AtEnd fun fr s => Z (resAs fr s zeh.res) s) (zB 0 [x0]) σ :=
  cast (by kernel_rfl) h
/-- bulla/bullaref11.num -/
def S_r11_num (P : Program) (x0 : AV) (σ : List AObj) (Z : Option (List AV) → List AObj → Prop) : Prop :=
  binC .geq .plain x0 (.d (.int .i64 0)) σ fun v1 s2 =>
  zc v1 true (fun k => k x0 s2) s2 (fun v3 s4 =>
  zc v1 true (fun k => binC .leq .plain v3 (.d (.int .i64 9007199254740992)) s4 k) s4 (fun v5 s6 =>
  pickC v1 v5 (.d (.bool false)) s6 fun v7 s8 =>
  Z (consO (some v7) (some [])) s8))
theorem s_r11_num {P : Program} {x0 : AV} {σ : List AObj} {Z : Option (List AV) → List AObj → Prop} (h : S_r11_num P x0 σ Z) : awp P zmn.body (AtEnd fun fr s => Z (resAs fr s zmn.res) s) (zB 0 [x0]) σ :=
  cast (by kernel_rfl) h
/-- bulla/bullaref11.put -/
def S_r11_put (P : Program) (x0 x1 : AV) (σ : List AObj) (Z : Option (List AV) → List AObj → Prop) : Prop :=
  maxC [x1, (.d (.int .i64 0))] σ fun v1 s2 =>
  convC (.int .u64) v1 s2 fun v3 s4 =>
  ACall P zaB [dm x0, dm v3] s4 fun v5 s6 =>
  Z (consO (some v5) (some [])) s6
theorem s_r11_put {P : Program} {x0 x1 : AV} {σ : List AObj} {Z : Option (List AV) → List AObj → Prop} (h : S_r11_put P x0 x1 σ Z) : awp P zmm.body (AtEnd fun fr s => Z (resAs fr s zmm.res) s) (zB 0 [x0, x1]) σ :=
  cast (by kernel_rfl) h
/-- bulla/request.Check -/
def zgx (P : Program) (x0 : AV) (σ : List AObj) (Z : Option (List AV) → List AObj → Prop) : Prop :=
  boxC x0 σ fun v1 s2 =>
  zh 0 v1 s2 fun v3 s4 =>
  loadC false 1 v3 s4 fun v5 s6 =>
  binC .lss .plain v5 (.d (.int .i64 0)) s6 fun v7 s8 =>
  zc v7 false (fun k => zh 0 v1 s8 k) s8 (fun v9 s10 =>
  zc v7 false (fun k => loadC false 1 v9 s10 k) s10 (fun v11 s12 =>
  zc v7 false (fun k => binC .geq .plain v11 (.d (.int .i64 8)) s12 k) s12 (fun v13 s14 =>
  pickC v7 (.d (.bool true)) v13 s14 fun v15 s16 =>
  zc v15 false (fun k => zh 1 v1 s16 k) s16 (fun v17 s18 =>
  zc v15 false (fun k => loadC false 1 v17 s18 k) s18 (fun v19 s20 =>
  zc v15 false (fun k => binC .lss .plain v19 (.d (.int .i64 1)) s20 k) s20 (fun v21 s22 =>
  pickC v15 (.d (.bool true)) v21 s22 fun v23 s24 =>
  zc v23 false (fun k => zh 1 v1 s24 k) s24 (fun v25 s26 =>
  zc v23 false (fun k => loadC false 1 v25 s26 k) s26 (fun v27 s28 =>
  zc v23 false (fun k => binC .gtr .plain v27 (.d (.int .i64 9007199254740992)) s28 k) s28 (fun v29 s30 =>
  pickC v23 (.d (.bool true)) v29 s30 fun v31 s32 =>
  condC v31 (Z (consO (some (.d (.int .i64 80))) (some [])) s32) (zh 2 v1 s32 fun v33 s34 =>
  loadC true 5 v33 s34 fun v35 s36 =>
  ACall P zgT [dm v35] s36 fun v37 s38 =>
  Z (consO (some v37) (some [])) s38))))))))))
theorem zlm {P : Program} {x0 : AV} {σ : List AObj} {Z : Option (List AV) → List AObj → Prop} (h : zgx P x0 σ Z) : awp P zed.body (AtEnd fun fr s => Z (resAs fr s zed.res) s) (zB 0 [x0]) σ :=
  cast (by kernel_rfl) h
/-- bulla/request.CheckSign -/
def zdT (P : Program) (x0 : AV) (σ : List AObj) (Z : Option (List AV) → List AObj → Prop) : Prop :=
  boxC x0 σ fun v1 s2 =>
  zh 0 v1 s2 fun v3 s4 =>
  loadC false 1 v3 s4 fun v5 s6 =>
  binC .lss .plain v5 (.d (.int .i64 0)) s6 fun v7 s8 =>
  zc v7 false (fun k => zh 0 v1 s8 k) s8 (fun v9 s10 =>
  zc v7 false (fun k => loadC false 1 v9 s10 k) s10 (fun v11 s12 =>
  zc v7 false (fun k => binC .geq .plain v11 (.d (.int .i64 21)) s12 k) s12 (fun v13 s14 =>
  pickC v7 (.d (.bool true)) v13 s14 fun v15 s16 =>
  zc v15 false (fun k => zh 1 v1 s16 k) s16 (fun v17 s18 =>
  zc v15 false (fun k => loadC false 1 v17 s18 k) s18 (fun v19 s20 =>
  zc v15 false (fun k => binC .lss .plain v19 (.d (.int .i64 1)) s20 k) s20 (fun v21 s22 =>
  pickC v15 (.d (.bool true)) v21 s22 fun v23 s24 =>
  zc v23 false (fun k => zh 1 v1 s24 k) s24 (fun v25 s26 =>
  zc v23 false (fun k => loadC false 1 v25 s26 k) s26 (fun v27 s28 =>
  zc v23 false (fun k => binC .gtr .plain v27 (.d (.int .i64 9007199254740992)) s28 k) s28 (fun v29 s30 =>
  pickC v23 (.d (.bool true)) v29 s30 fun v31 s32 =>
  condC v31 (Z (consO (some (.d (.int .i64 81))) (some [])) s32) (Z (consO (some (.d (.int .i64 0))) (some [])) s32))))))))))
theorem zhw {P : Program} {x0 : AV} {σ : List AObj} {Z : Option (List AV) → List AObj → Prop} (h : zdT P x0 σ Z) : awp P zce.body (AtEnd fun fr s => Z (resAs fr s zce.res) s) (zB 0 [x0]) σ :=
  cast (by kernel_rfl) h
/-- slices.IndexFunc[bulla/api.Batch,bulla/api.Signed] -/
def zaK (P : Program) (x0 x1 : AV) (σ : List AObj) (Z : Option (List AV) → List AObj → Prop) : Prop :=
  lenC .sl x0 σ fun v1 s2 =>
  loopC [(.d (.int .i64 0))] s2 fun vs3 s4 again5 =>
  headC vs3 fun v6 vs7 =>
  binC .lss .plain v6 v1 s4 fun v8 s9 =>
  condC v8 (zr none 9 x0 v6 s9 fun v10 s11 =>
  loadC true 9 v10 s11 fun v12 s13 =>
  zab P x1 [dm v12] s13 fun v14 s15 =>
  condC v14 (Z (consO (some v6) (some [])) s15) (binC .add .plain v6 (.d (.int .i64 1)) s15 fun v16 s17 =>
  again5 [v16] s17)) (Z (consO (some (.d (.int .i64 (-1)))) (some [])) s9)
theorem zbF {P : Program} {x0 x1 : AV} {σ : List AObj} {Z : Option (List AV) → List AObj → Prop} (h : zaK P x0 x1 σ Z) : awp P zar.body (AtEnd fun fr s => Z (resAs fr s zar.res) s) (zB 0 [x0, x1]) σ :=
  cast (by kernel_rfl) h
/-- bulla/request.Bytes -/
def zgy (P : Program) (x0 : AV) (σ : List AObj) (Z : Option (List AV) → List AObj → Prop) : Prop :=
  boxC x0 σ fun v1 s2 =>
  loadC true 7 v1 s2 fun v3 s4 =>
  ACall P zcr [dm v3] s4 fun v5 s6 =>
  binC .neq .plain v5 (.d (.int .i64 0)) s6 fun v7 s8 =>
  condC v7 (Z (consO (some (.exact [])) (consO (some v5) (some []))) s8) (zh 0 v1 s8 fun v9 s10 =>
  loadC false 1 v9 s10 fun v11 s12 =>
  convC (.int .u64) v11 s12 fun v13 s14 =>
  zh 1 v1 s14 fun v15 s16 =>
  loadC false 1 v15 s16 fun v17 s18 =>
  convC (.int .u64) v17 s18 fun v19 s20 =>
  zh 2 v1 s20 fun v21 s22 =>
  loadC true 5 v21 s22 fun v23 s24 =>
  ACall P zao [dm (.exact []), dm v13] s24 fun v25 s26 =>
  keepO v15 s24 s26 ∧ (keepO v21 s24 s26 ∧ (ACall P zao [dm v25, dm v19] s26 fun v27 s28 =>
  keepO v21 s26 s28 ∧ (ACall P znV [dm v27, dm v23] s28 fun v29 s30 =>
  Z (consO (some v29) (consO (some (.d (.int .i64 0))) (some []))) s30))))
theorem zln {P : Program} {x0 : AV} {σ : List AObj} {Z : Option (List AV) → List AObj → Prop} (h : zgy P x0 σ Z) : awp P zee.body (AtEnd fun fr s => Z (resAs fr s zee.res) s) (zB 0 [x0]) σ :=
  cast (by kernel_rfl) h
/-- bulla/request.Key -/
def ziV (P : Program) (x0 : AV) (σ : List AObj) (Z : Option (List AV) → List AObj → Prop) : Prop :=
  binC .lss .plain x0 (.d (.int .i64 0)) σ fun v1 s2 =>
  zc v1 false (fun k => k x0 s2) s2 (fun v3 s4 =>
  zc v1 false (fun k => binC .geq .plain v3 (.d (.int .i64 8)) s4 k) s4 (fun v5 s6 =>
  pickC v1 (.d (.bool true)) v5 s6 fun v7 s8 =>
  condC v7 (Z (consO (some (.d (.int .i64 (-1)))) (some [])) s8) (binC .add .plain (.d (.int .i64 13)) x0 s8 fun v9 s10 =>
  Z (consO (some v9) (some [])) s10)))
theorem znE {P : Program} {x0 : AV} {σ : List AObj} {Z : Option (List AV) → List AObj → Prop} (h : ziV P x0 σ Z) : awp P zfv.body (AtEnd fun fr s => Z (resAs fr s zfv.res) s) (zB 0 [x0]) σ :=
  cast (by kernel_rfl) h
/-- (*bulla/ideal.Ledger).Signed -/
def zdd (P : Program) (x0 x1 : AV) (σ : List AObj) (Z : Option (List AV) → List AObj → Prop) : Prop :=
  boxC x1 σ fun v1 s2 =>
  ACall P zaG [dm x0] s2 fun v3 s4 =>
  unC .not v3 s4 fun v5 s6 =>
  zc v5 true (fun k => k x0 s6) s6 (fun v7 s8 =>
  zc v5 true (fun k => nilC v7 s8 k) s8 (fun v9 s10 =>
  zc v5 true (fun k => zh 1 v9 s10 k) s10 (fun v11 s12 =>
  zc v5 true (fun k => loadC false 1 v11 s12 k) s12 (fun v13 s14 =>
  zc v5 true (fun k => loadC true 2 v1 s14 k) s14 (fun v15 s16 =>
  zc v5 true (fun k => mgetC (.ints 2) false (.d (.bool false)) v13 v15 s16 k) s16 (fun v17 s18 =>
  pickC v5 v17 (.d (.bool false)) s18 fun v19 s20 =>
  Z (consO (some v19) (some [])) s20))))))
theorem zfX {P : Program} {x0 x1 : AV} {σ : List AObj} {Z : Option (List AV) → List AObj → Prop} (h : zdd P x0 x1 σ Z) : awp P zbH.body (AtEnd fun fr s => Z (resAs fr s zbH.res) s) (zB 0 [x0, x1]) σ :=
  cast (by kernel_rfl) h
/-- bulla/codec.PutNum -/
def zht (P : Program) (x0 x1 : AV) (σ : List AObj) (Z : Option (List AV) → List AObj → Prop) : Prop :=
  ACall P zge [dm x1] σ fun v1 s2 =>
  zi v1 0 s2 fun v3 s4 =>
  zi v1 1 s4 fun v5 s6 =>
  zH [(.d (.int .u8 0)), (.d (.int .u8 0)), (.d (.int .u8 0)), (.d (.int .u8 0)), (.d (.int .u8 0)), (.d (.int .u8 0)), (.d (.int .u8 0)), (.d (.int .u8 0)), (.d (.int .u8 0)), (.d (.int .u8 0))] s6 fun v7 s8 =>
  zp 10 v7 v3 s8 fun _ s10 =>
  slcC (.arr 10 1) v7 none (some v5) none s10 fun v11 s12 =>
  ACall P zbm [dm x0] s12 fun v13 s14 =>
  zt 1 1 v13 v11 s14 fun v15 s16 =>
  Z (consO (some v15) (some [])) s16
theorem zmz {P : Program} {x0 x1 : AV} {σ : List AObj} {Z : Option (List AV) → List AObj → Prop} (h : zht P x0 x1 σ Z) : awp P zeD.body (AtEnd fun fr s => Z (resAs fr s zeD.res) s) (zB 0 [x0, x1]) σ :=
  cast (by kernel_rfl) h
/-- bulla/request.PutSign -/
def zeU (P : Program) (x0 x1 : AV) (σ : List AObj) (Z : Option (List AV) → List AObj → Prop) : Prop :=
  boxC x1 σ fun v1 s2 =>
  loadC true 2 v1 s2 fun v3 s4 =>
  ACall P zbn [dm v3] s4 fun v5 s6 =>
  binC .neq .plain v5 (.d (.int .i64 0)) s6 fun v7 s8 =>
  condC v7 (ACall P zbr [dm x0] s8 fun v9 s10 =>
  Z (consO (some v9) (some [])) s10) (zh 0 v1 s8 fun v11 s12 =>
  loadC false 1 v11 s12 fun v13 s14 =>
  convC (.int .u64) v13 s14 fun v15 s16 =>
  zh 1 v1 s16 fun v17 s18 =>
  loadC false 1 v17 s18 fun v19 s20 =>
  convC (.int .u64) v19 s20 fun v21 s22 =>
  ACall P zao [dm x0, dm v15] s22 fun v23 s24 =>
  keepO v17 s22 s24 ∧ (ACall P zao [dm v23, dm v21] s24 fun v25 s26 =>
  Z (consO (some v25) (some [])) s26))
theorem zje {P : Program} {x0 x1 : AV} {σ : List AObj} {Z : Option (List AV) → List AObj → Prop} (h : zeU P x0 x1 σ Z) : awp P zcT.body (AtEnd fun fr s => Z (resAs fr s zcT.res) s) (zB 0 [x0, x1]) σ :=
  cast (by kernel_rfl) h
/-- bulla/codec.PutBytes -/
def zfP (P : Program) (x0 x1 : AV) (σ : List AObj) (Z : Option (List AV) → List AObj → Prop) : Prop :=
  lenC .sl x1 σ fun v1 s2 =>
  convC (.int .u64) v1 s2 fun v3 s4 =>
  ACall P zao [dm x0, dm v3] s4 fun v5 s6 =>
  zt 1 1 v5 x1 s6 fun v7 s8 =>
  Z (consO (some v7) (some [])) s8
theorem zkN {P : Program} {x0 x1 : AV} {σ : List AObj} {Z : Option (List AV) → List AObj → Prop} (h : zfP P x0 x1 σ Z) : awp P zdv.body (AtEnd fun fr s => Z (resAs fr s zdv.res) s) (zB 0 [x0, x1]) σ :=
  cast (by kernel_rfl) h
/-- bulla/auth.put -/
def znz (P : Program) (x0 x1 : AV) (σ : List AObj) (Z : Option (List AV) → List AObj → Prop) : Prop :=
  lenC .sl x1 σ fun v1 s2 =>
  loopC [x0, (.d (.int .i64 0))] s2 fun vs3 s4 again5 =>
  headC vs3 fun v6 vs7 =>
  headC vs7 fun v8 vs9 =>
  binC .lss .plain v8 v1 s4 fun v10 s11 =>
  condC v10 (zr none 1 x1 v8 s11 fun v12 s13 =>
  loadC false 1 v12 s13 fun v14 s15 =>
  maxC [(.d (.int .i64 0)), v14] s15 fun v16 s17 =>
  convC (.int .u64) v16 s17 fun v18 s19 =>
  ACall P zao [dm v6, dm v18] s19 fun v20 s21 =>
  binC .add .plain v8 (.d (.int .i64 1)) s21 fun v22 s23 =>
  again5 [v20, v22] s23) (Z (consO (some v6) (some [])) s11)
theorem s_auth_put {P : Program} {x0 x1 : AV} {σ : List AObj} {Z : Option (List AV) → List AObj → Prop} (h : znz P x0 x1 σ Z) : awp P zke.body (AtEnd fun fr s => Z (resAs fr s zke.res) s) (zB 0 [x0, x1]) σ :=
  cast (by kernel_rfl) h
/-- bulla/op.Clone -/
def znw (P : Program) (x0 : AV) (σ : List AObj) (Z : Option (List AV) → List AObj → Prop) : Prop :=
  boxC x0 σ fun v1 s2 =>
  zH [(.d (.int .i64 0)), (.d (.str [])), (.d (.str [])), (.d (.int .i64 0)), (.exact [])] s2 fun v3 s4 =>
  zh 4 v1 s4 fun v5 s6 =>
  loadC false 1 v5 s6 fun v7 s8 =>
  lenC .sl v7 s8 fun v9 s10 =>
  loopC [(.exact []), (.d (.int .i64 0))] s10 fun vs11 s12 again13 =>
  headC vs11 fun v14 vs15 =>
  headC vs15 fun v16 vs17 =>
  binC .lss .plain v16 v9 s12 fun v18 s19 =>
  condC v18 (zr none 1 v7 v16 s19 fun v20 s21 =>
  loadC false 1 v20 s21 fun v22 s23 =>
  ACall P zbr [dm v22] s23 fun v24 s25 =>
  zl false 1 1 (fillV (rep [(.exact [])] 1) [(0, 1, v24)]) s25 fun v26 s27 =>
  zt 1 24 v14 v26 s27 fun v28 s29 =>
  binC .add .plain v16 (.d (.int .i64 1)) s29 fun v30 s31 =>
  again13 [v28, v30] s31) (zh 4 v1 s19 fun v32 s33 =>
  zp 1 v32 v14 s33 fun _ s35 =>
  loadC true 5 v1 s35 fun v36 s37 =>
  zp 5 v3 v36 s37 fun _ s39 =>
  Z (consO (cellA v3 s39 true 5) (some [])) s39)
theorem s_op_Clone {P : Program} {x0 : AV} {σ : List AObj} {Z : Option (List AV) → List AObj → Prop} (h : znw P x0 σ Z) : awp P zkb.body (AtEnd fun fr s => Z (resAs fr s zkb.res) s) (zB 0 [x0]) σ :=
  cast (by kernel_rfl) h
/-- slices.EqualFunc[[]bulla/api.Record,[]bulla/api.Record,bulla/api.Record,bulla/api.Record] -/
def zai (P : Program) (x0 x1 x2 : AV) (σ : List AObj) (Z : Option (List AV) → List AObj → Prop) : Prop :=
  lenC .sl x0 σ fun v1 s2 =>
  lenC .sl x1 s2 fun v3 s4 =>
  binC .neq .plain v1 v3 s4 fun v5 s6 =>
  condC v5 (Z (consO (some (.d (.bool false))) (some [])) s6) (lenC .sl x0 s6 fun v7 s8 =>
  loopC [(.d (.int .i64 0))] s8 fun vs9 s10 again11 =>
  headC vs9 fun v12 vs13 =>
  binC .lss .plain v12 v7 s10 fun v14 s15 =>
  condC v14 (zr none 1 x0 v12 s15 fun v16 s17 =>
  loadC false 1 v16 s17 fun v18 s19 =>
  zr none 1 x1 v12 s19 fun v20 s21 =>
  loadC false 1 v20 s21 fun v22 s23 =>
  zab P x2 [dm v18, dm v22] s23 fun v24 s25 =>
  unC .not v24 s25 fun v26 s27 =>
  condC v26 (Z (consO (some (.d (.bool false))) (some [])) s27) (binC .add .plain v12 (.d (.int .i64 1)) s27 fun v28 s29 =>
  again11 [v28] s29)) (Z (consO (some (.d (.bool true))) (some [])) s15))
theorem zaA {P : Program} {x0 x1 x2 : AV} {σ : List AObj} {Z : Option (List AV) → List AObj → Prop} (h : zai P x0 x1 x2 σ Z) : awp P zY.body (AtEnd fun fr s => Z (resAs fr s zY.res) s) (zB 0 [x0, x1, x2]) σ :=
  cast (by kernel_rfl) h
/-- bulla/op.Same$1 -/
def zmk (P : Program) (x0 x1 : AV) (σ : List AObj) (Z : Option (List AV) → List AObj → Prop) : Prop :=
  ACall P zfm [dm x0, dm x1] σ fun v1 s2 =>
  Z (consO (some v1) (some [])) s2
theorem s_op_Same_1 {P : Program} {x0 x1 : AV} {σ : List AObj} {Z : Option (List AV) → List AObj → Prop} (h : zmk P x0 x1 σ Z) : awp P zie.body (AtEnd fun fr s => Z (resAs fr s zie.res) s) (zB 0 [x0, x1]) σ :=
  cast (by kernel_rfl) h
/-- bytes.Equal -/
def zja (P : Program) (x0 x1 : AV) (σ : List AObj) (Z : Option (List AV) → List AObj → Prop) : Prop :=
  convC .toStr x0 σ fun v1 s2 =>
  convC .toStr x1 s2 fun v3 s4 =>
  binC .eql .plain v1 v3 s4 fun v5 s6 =>
  Z (consO (some v5) (some [])) s6
theorem znJ {P : Program} {x0 x1 : AV} {σ : List AObj} {Z : Option (List AV) → List AObj → Prop} (h : zja P x0 x1 σ Z) : awp P zfA.body (AtEnd fun fr s => Z (resAs fr s zfA.res) s) (zB 0 [x0, x1]) σ :=
  cast (by kernel_rfl) h
/-- bulla/bullaref06.Check -/
def zmj (P : Program) (x0 : AV) (σ : List AObj) (Z : Option (List AV) → List AObj → Prop) : Prop :=
  boxC x0 σ fun v1 s2 =>
  zh 0 v1 s2 fun v3 s4 =>
  loadC false 1 v3 s4 fun v5 s6 =>
  ACall P zel [dm v5] s6 fun v7 s8 =>
  zi v7 0 s8 fun v9 s10 =>
  zi v7 1 s10 fun v11 s12 =>
  zi v7 2 s12 fun v13 s14 =>
  zi v7 3 s14 fun v15 s16 =>
  zh 0 v1 s16 fun v17 s18 =>
  loadC false 1 v17 s18 fun v19 s20 =>
  binC .lss .plain v19 (.d (.int .i64 0)) s20 fun v21 s22 =>
  zc v21 false (fun k => zh 0 v1 s22 k) s22 (fun v23 s24 =>
  zc v21 false (fun k => loadC false 1 v23 s24 k) s24 (fun v25 s26 =>
  zc v21 false (fun k => binC .gtr .plain v25 (.d (.int .i64 4)) s26 k) s26 (fun v27 s28 =>
  pickC v21 (.d (.bool true)) v27 s28 fun v29 s30 =>
  zc v29 false (fun k => k v9 s30) s30 (fun v31 s32 =>
  zc v29 false (fun k => unC .not v31 s32 k) s32 (fun v33 s34 =>
  zc v29 false (fun k => k v33 s34) s34 (fun v35 s36 =>
  zc v35 true (fun k => zh 1 v1 s36 k) s36 (fun v37 s38 =>
  zc v35 true (fun k => loadC false 1 v37 s38 k) s38 (fun v39 s40 =>
  zc v35 true (fun k => binC .neq .plain v39 (.d (.str [])) s40 k) s40 (fun v41 s42 =>
  zc v29 false (fun k => pickC v35 v41 (.d (.bool false)) s42 k) s42 (fun v43 s44 =>
  pickC v29 (.d (.bool true)) v43 s44 fun v45 s46 =>
  zc v45 false (fun k => k v11 s46) s46 (fun v47 s48 =>
  zc v45 false (fun k => unC .not v47 s48 k) s48 (fun v49 s50 =>
  zc v45 false (fun k => k v49 s50) s50 (fun v51 s52 =>
  zc v51 true (fun k => zh 2 v1 s52 k) s52 (fun v53 s54 =>
  zc v51 true (fun k => loadC false 1 v53 s54 k) s54 (fun v55 s56 =>
  zc v51 true (fun k => binC .neq .plain v55 (.d (.str [])) s56 k) s56 (fun v57 s58 =>
  zc v45 false (fun k => pickC v51 v57 (.d (.bool false)) s58 k) s58 (fun v59 s60 =>
  pickC v45 (.d (.bool true)) v59 s60 fun v61 s62 =>
  zc v61 false (fun k => k v13 s62) s62 (fun v63 s64 =>
  zc v61 false (fun k => unC .not v63 s64 k) s64 (fun v65 s66 =>
  zc v61 false (fun k => k v65 s66) s66 (fun v67 s68 =>
  zc v67 true (fun k => zh 3 v1 s68 k) s68 (fun v69 s70 =>
  zc v67 true (fun k => loadC false 1 v69 s70 k) s70 (fun v71 s72 =>
  zc v67 true (fun k => binC .neq .plain v71 (.d (.int .i64 0)) s72 k) s72 (fun v73 s74 =>
  zc v61 false (fun k => pickC v67 v73 (.d (.bool false)) s74 k) s74 (fun v75 s76 =>
  pickC v61 (.d (.bool true)) v75 s76 fun v77 s78 =>
  zc v77 false (fun k => k v15 s78) s78 (fun v79 s80 =>
  zc v77 false (fun k => unC .not v79 s80 k) s80 (fun v81 s82 =>
  zc v77 false (fun k => k v81 s82) s82 (fun v83 s84 =>
  zc v83 true (fun k => zh 4 v1 s84 k) s84 (fun v85 s86 =>
  zc v83 true (fun k => loadC false 1 v85 s86 k) s86 (fun v87 s88 =>
  zc v83 true (fun k => lenC .sl v87 s88 k) s88 (fun v89 s90 =>
  zc v83 true (fun k => binC .gtr .plain v89 (.d (.int .i64 0)) s90 k) s90 (fun v91 s92 =>
  zc v77 false (fun k => pickC v83 v91 (.d (.bool false)) s92 k) s92 (fun v93 s94 =>
  pickC v77 (.d (.bool true)) v93 s94 fun v95 s96 =>
  condC v95 (Z (consO (some (.d (.int .i64 60))) (some [])) s96) (zc v9 true (fun k => zh 1 v1 s96 k) s96 (fun v97 s98 =>
  zc v9 true (fun k => loadC false 1 v97 s98 k) s98 (fun v99 s100 =>
  zc v9 true (fun k => ACall P zgS [dm v99] s100 k) s100 (fun v101 s102 =>
  zc v9 true (fun k => unC .not v101 s102 k) s102 (fun v103 s104 =>
  pickC v9 v103 (.d (.bool false)) s104 fun v105 s106 =>
  zc v105 false (fun k => k v11 s106) s106 (fun v107 s108 =>
  zc v105 false (fun k => k v107 s108) s108 (fun v109 s110 =>
  zc v109 true (fun k => zh 2 v1 s110 k) s110 (fun v111 s112 =>
  zc v109 true (fun k => loadC false 1 v111 s112 k) s112 (fun v113 s114 =>
  zc v109 true (fun k => ACall P zgS [dm v113] s114 k) s114 (fun v115 s116 =>
  zc v109 true (fun k => unC .not v115 s116 k) s116 (fun v117 s118 =>
  zc v105 false (fun k => pickC v109 v117 (.d (.bool false)) s118 k) s118 (fun v119 s120 =>
  pickC v105 (.d (.bool true)) v119 s120 fun v121 s122 =>
  condC v121 (Z (consO (some (.d (.int .i64 61))) (some [])) s122) (zc v15 true (fun k => zh 4 v1 s122 k) s122 (fun v123 s124 =>
  zc v15 true (fun k => loadC false 1 v123 s124 k) s124 (fun v125 s126 =>
  zc v15 true (fun k => lenC .sl v125 s126 k) s126 (fun v127 s128 =>
  zc v15 true (fun k => binC .lss .plain v127 (.d (.int .i64 1)) s128 k) s128 (fun v129 s130 =>
  zc v15 true (fun k => k v129 s130) s130 (fun v131 s132 =>
  zc v131 false (fun k => zh 4 v1 s132 k) s132 (fun v133 s134 =>
  zc v131 false (fun k => loadC false 1 v133 s134 k) s134 (fun v135 s136 =>
  zc v131 false (fun k => lenC .sl v135 s136 k) s136 (fun v137 s138 =>
  zc v131 false (fun k => binC .gtr .plain v137 (.d (.int .i64 4)) s138 k) s138 (fun v139 s140 =>
  zc v15 true (fun k => pickC v131 (.d (.bool true)) v139 s140 k) s140 (fun v141 s142 =>
  pickC v15 v141 (.d (.bool false)) s142 fun v143 s144 =>
  condC v143 (Z (consO (some (.d (.int .i64 62))) (some [])) s144) (loopC [(.d (.int .i64 0))] s144 fun vs145 s146 again147 =>
  headC vs145 fun v148 vs149 =>
  zh 4 v1 s146 fun v150 s151 =>
  loadC false 1 v150 s151 fun v152 s153 =>
  lenC .sl v152 s153 fun v154 s155 =>
  binC .lss .plain v148 v154 s155 fun v156 s157 =>
  condC v156 (zh 4 v1 s157 fun v158 s159 =>
  loadC false 1 v158 s159 fun v160 s161 =>
  zr none 1 v160 v148 s161 fun v162 s163 =>
  loadC false 1 v162 s163 fun v164 s165 =>
  lenC .sl v164 s165 fun v166 s167 =>
  binC .gtr .plain v166 (.d (.int .i64 64)) s167 fun v168 s169 =>
  condC v168 (Z (consO (some (.d (.int .i64 62))) (some [])) s169) (binC .add .plain v148 (.d (.int .i64 1)) s169 fun v170 s171 =>
  again147 [v170] s171)) (zh 3 v1 s157 fun v172 s173 =>
  loadC false 1 v172 s173 fun v174 s175 =>
  binC .lss .plain v174 (.d (.int .i64 0)) s175 fun v176 s177 =>
  zc v176 false (fun k => zh 3 v1 s177 k) s177 (fun v178 s179 =>
  zc v176 false (fun k => loadC false 1 v178 s179 k) s179 (fun v180 s181 =>
  zc v176 false (fun k => binC .gtr .plain v180 (.d (.int .i64 9007199254740992)) s181 k) s181 (fun v182 s183 =>
  pickC v176 (.d (.bool true)) v182 s183 fun v184 s185 =>
  condC v184 (Z (consO (some (.d (.int .i64 60))) (some [])) s185) (Z (consO (some (.d (.int .i64 0))) (some [])) s185)))))))))))))))))))))))))))))))))))))))))))))))))))))))))))))
theorem s_r06_Check {P : Program} {x0 : AV} {σ : List AObj} {Z : Option (List AV) → List AObj → Prop} (h : zmj P x0 σ Z) : awp P zid.body (AtEnd fun fr s => Z (resAs fr s zid.res) s) (zB 0 [x0]) σ :=
  cast (by kernel_rfl) h
/-- bulla/bullaref06.fields -/
def zkx (P : Program) (x0 : AV) (σ : List AObj) (Z : Option (List AV) → List AObj → Prop) : Prop :=
  binC .eql .plain x0 (.d (.int .i64 1)) σ fun v1 s2 =>
  condC v1 (Z (consO (some (.d (.bool true))) (consO (some (.d (.bool false))) (consO (some (.d (.bool false))) (consO (some (.d (.bool false))) (some []))))) s2) (binC .eql .plain x0 (.d (.int .i64 2)) s2 fun v3 s4 =>
  condC v3 (Z (consO (some (.d (.bool true))) (consO (some (.d (.bool false))) (consO (some (.d (.bool false))) (consO (some (.d (.bool true))) (some []))))) s4) (binC .eql .plain x0 (.d (.int .i64 3)) s4 fun v5 s6 =>
  condC v5 (Z (consO (some (.d (.bool true))) (consO (some (.d (.bool true))) (consO (some (.d (.bool true))) (consO (some (.d (.bool false))) (some []))))) s6) (binC .eql .plain x0 (.d (.int .i64 4)) s6 fun v7 s8 =>
  condC v7 (Z (consO (some (.d (.bool true))) (consO (some (.d (.bool false))) (consO (some (.d (.bool true))) (consO (some (.d (.bool false))) (some []))))) s8) (Z (consO (some (.d (.bool false))) (consO (some (.d (.bool false))) (consO (some (.d (.bool false))) (consO (some (.d (.bool false))) (some []))))) s8))))
theorem s_r06_fields {P : Program} {x0 : AV} {σ : List AObj} {Z : Option (List AV) → List AObj → Prop} (h : zkx P x0 σ Z) : awp P zgH.body (AtEnd fun fr s => Z (resAs fr s zgH.res) s) (zB 0 [x0]) σ :=
  cast (by kernel_rfl) h
end Go.Proofs.YtcappjcojggehaaGreat
