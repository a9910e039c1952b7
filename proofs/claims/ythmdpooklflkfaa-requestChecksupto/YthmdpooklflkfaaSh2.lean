/- The conditions of each function, its slots as variables, and that the logic's conditions are these. Printed by program. -/
import Derived.Test.YthmdpooklflkfaaAf2
set_option linter.all false
set_option maxRecDepth 100000
set_option linter.unusedVariables false
namespace Go.Proofs.Ythmdpooklflkfaa
open Go.AW
/-- bulla/bullaref08.CheckBatch -/
def S_r08_CheckBatch (P : Program) (x0 : AV) (σ : List AObj) (Z : Option (List AV) → List AObj → Prop) : Prop :=
  lenC .sl x0 σ fun v1 s2 =>
  binC .gtr .plain v1 (.d (.int .i64 4)) s2 fun v3 s4 =>
  condC v3 (Z (consO (some (.d (.int .i64 3))) (some [])) s4) (loopC [(.d (.int .i64 0))] s4 fun vs5 s6 again7 =>
  headC vs5 fun v8 vs9 =>
  lenC .sl x0 s6 fun v10 s11 =>
  binC .lss .plain v8 v10 s11 fun v12 s13 =>
  condC v12 (iaddrC none 9 x0 v8 s13 fun v14 s15 =>
  faddrC 0 v14 s15 fun v16 s17 =>
  loadC true 7 v16 s17 fun v18 s19 =>
  ACall P n_r08_Check [dm v18] s19 fun v20 s21 =>
  binC .neq .plain v20 (.d (.int .i64 0)) s21 fun v22 s23 =>
  condC v22 (Z (consO (some v20) (some [])) s23) (iaddrC none 9 x0 v8 s23 fun v24 s25 =>
  faddrC 7 v24 s25 fun v26 s27 =>
  loadC true 2 v26 s27 fun v28 s29 =>
  ACall P n_r08_CheckSign [dm v28] s29 fun v30 s31 =>
  binC .neq .plain v30 (.d (.int .i64 0)) s31 fun v32 s33 =>
  condC v32 (Z (consO (some v30) (some [])) s33) (binC .add .plain v8 (.d (.int .i64 1)) s33 fun v34 s35 =>
  again7 [v34] s35))) (loopC [(.d (.int .i64 0))] s13 fun vs36 s37 again38 =>
  headC vs36 fun v39 vs40 =>
  lenC .sl x0 s37 fun v41 s42 =>
  binC .lss .plain v39 v41 s42 fun v43 s44 =>
  condC v43 (loopC [(.d (.int .i64 0))] s44 fun vs45 s46 again47 =>
  headC vs45 fun v48 vs49 =>
  binC .lss .plain v48 v39 s46 fun v50 s51 =>
  condC v50 (iaddrC none 9 x0 v39 s51 fun v52 s53 =>
  faddrC 0 v52 s53 fun v54 s55 =>
  faddrC 0 v54 s55 fun v56 s57 =>
  loadC false 1 v56 s57 fun v58 s59 =>
  iaddrC none 9 x0 v48 s59 fun v60 s61 =>
  faddrC 0 v60 s61 fun v62 s63 =>
  faddrC 0 v62 s63 fun v64 s65 =>
  loadC false 1 v64 s65 fun v66 s67 =>
  binC .eql .plain v58 v66 s67 fun v68 s69 =>
  guardC v68 true (fun k => k x0 s69) s69 (fun v70 s71 =>
  guardC v68 true (fun k => k v39 s71) s71 (fun v72 s73 =>
  guardC v68 true (fun k => iaddrC none 9 v70 v72 s73 k) s73 (fun v74 s75 =>
  guardC v68 true (fun k => faddrC 0 v74 s75 k) s75 (fun v76 s77 =>
  guardC v68 true (fun k => faddrC 1 v76 s77 k) s77 (fun v78 s79 =>
  guardC v68 true (fun k => loadC false 1 v78 s79 k) s79 (fun v80 s81 =>
  guardC v68 true (fun k => k x0 s81) s81 (fun v82 s83 =>
  guardC v68 true (fun k => k v48 s83) s83 (fun v84 s85 =>
  guardC v68 true (fun k => iaddrC none 9 v82 v84 s85 k) s85 (fun v86 s87 =>
  guardC v68 true (fun k => faddrC 0 v86 s87 k) s87 (fun v88 s89 =>
  guardC v68 true (fun k => faddrC 1 v88 s89 k) s89 (fun v90 s91 =>
  guardC v68 true (fun k => loadC false 1 v90 s91 k) s91 (fun v92 s93 =>
  guardC v68 true (fun k => binC .eql .plain v80 v92 s93 k) s93 (fun v94 s95 =>
  pickC v68 v94 (.d (.bool false)) s95 fun v96 s97 =>
  condC v96 (Z (consO (some (.d (.int .i64 5))) (some [])) s97) (binC .add .plain v48 (.d (.int .i64 1)) s97 fun v98 s99 =>
  again47 [v98] s99))))))))))))))) (binC .add .plain v39 (.d (.int .i64 1)) s51 fun v100 s101 =>
  again38 [v100] s101)) (Z (consO (some (.d (.int .i64 0))) (some [])) s44)))
theorem s_r08_CheckBatch {P : Program} {x0 : AV} {σ : List AObj} {Z : Option (List AV) → List AObj → Prop} (h : S_r08_CheckBatch P x0 σ Z) : awp P A_r08_CheckBatch.body (AtEnd fun fr s => Z (resAs fr s A_r08_CheckBatch.res) s) (slots0 0 [x0]) σ :=
  cast (by kernel_rfl) h
/-- bulla/request.Key -/
def S_request_Key (P : Program) (x0 : AV) (σ : List AObj) (Z : Option (List AV) → List AObj → Prop) : Prop :=
  binC .lss .plain x0 (.d (.int .i64 0)) σ fun v1 s2 =>
  guardC v1 false (fun k => k x0 s2) s2 (fun v3 s4 =>
  guardC v1 false (fun k => binC .geq .plain v3 (.d (.int .i64 8)) s4 k) s4 (fun v5 s6 =>
  pickC v1 (.d (.bool true)) v5 s6 fun v7 s8 =>
  condC v7 (Z (consO (some (.d (.int .i64 (-1)))) (some [])) s8) (binC .add .plain (.d (.int .i64 13)) x0 s8 fun v9 s10 =>
  Z (consO (some v9) (some [])) s10)))
theorem s_request_Key {P : Program} {x0 : AV} {σ : List AObj} {Z : Option (List AV) → List AObj → Prop} (h : S_request_Key P x0 σ Z) : awp P A_request_Key.body (AtEnd fun fr s => Z (resAs fr s A_request_Key.res) s) (slots0 0 [x0]) σ :=
  cast (by kernel_rfl) h
/-- bulla/bullaref08.Key -/
def S_r08_Key (P : Program) (x0 : AV) (σ : List AObj) (Z : Option (List AV) → List AObj → Prop) : Prop :=
  binC .lss .plain x0 (.d (.int .i64 0)) σ fun v1 s2 =>
  guardC v1 false (fun k => k x0 s2) s2 (fun v3 s4 =>
  guardC v1 false (fun k => binC .geq .plain v3 (.d (.int .i64 8)) s4 k) s4 (fun v5 s6 =>
  pickC v1 (.d (.bool true)) v5 s6 fun v7 s8 =>
  condC v7 (Z (consO (some (.d (.int .i64 (-1)))) (some [])) s8) (binC .add .plain (.d (.int .i64 13)) x0 s8 fun v9 s10 =>
  Z (consO (some v9) (some [])) s10)))
theorem s_r08_Key {P : Program} {x0 : AV} {σ : List AObj} {Z : Option (List AV) → List AObj → Prop} (h : S_r08_Key P x0 σ Z) : awp P A_r08_Key.body (AtEnd fun fr s => Z (resAs fr s A_r08_Key.res) s) (slots0 0 [x0]) σ :=
  cast (by kernel_rfl) h
/-- bulla/request.Same -/
def S_request_Same (P : Program) (x0 x1 : AV) (σ : List AObj) (Z : Option (List AV) → List AObj → Prop) : Prop :=
  ACall P n_slices_EqualFunc_api_Batch_api_Batch_api_Signed_api_Signed [dm x0, dm x1, dm (.fn (.func n_request_Same_1) [] [])] σ fun v1 s2 =>
  Z (consO (some v1) (some [])) s2
theorem s_request_Same {P : Program} {x0 x1 : AV} {σ : List AObj} {Z : Option (List AV) → List AObj → Prop} (h : S_request_Same P x0 x1 σ Z) : awp P A_request_Same.body (AtEnd fun fr s => Z (resAs fr s A_request_Same.res) s) (slots0 0 [x0, x1]) σ :=
  cast (by kernel_rfl) h
/-- bulla/bullaref08.Same -/
def S_r08_Same (P : Program) (x0 x1 : AV) (σ : List AObj) (Z : Option (List AV) → List AObj → Prop) : Prop :=
  lenC .sl x0 σ fun v1 s2 =>
  lenC .sl x1 s2 fun v3 s4 =>
  binC .neq .plain v1 v3 s4 fun v5 s6 =>
  condC v5 (Z (consO (some (.d (.bool false))) (some [])) s6) (loopC [(.d (.int .i64 0))] s6 fun vs7 s8 again9 =>
  headC vs7 fun v10 vs11 =>
  lenC .sl x0 s8 fun v12 s13 =>
  binC .lss .plain v10 v12 s13 fun v14 s15 =>
  condC v14 (iaddrC none 9 x0 v10 s15 fun v16 s17 =>
  faddrC 7 v16 s17 fun v18 s19 =>
  loadC true 2 v18 s19 fun v20 s21 =>
  iaddrC none 9 x1 v10 s21 fun v22 s23 =>
  faddrC 7 v22 s23 fun v24 s25 =>
  loadC true 2 v24 s25 fun v26 s27 =>
  binC .neq (.ints 2) v20 v26 s27 fun v28 s29 =>
  guardC v28 false (fun k => k x0 s29) s29 (fun v30 s31 =>
  guardC v28 false (fun k => k v10 s31) s31 (fun v32 s33 =>
  guardC v28 false (fun k => iaddrC none 9 v30 v32 s33 k) s33 (fun v34 s35 =>
  guardC v28 false (fun k => faddrC 0 v34 s35 k) s35 (fun v36 s37 =>
  guardC v28 false (fun k => loadC true 7 v36 s37 k) s37 (fun v38 s39 =>
  guardC v28 false (fun k => k x1 s39) s39 (fun v40 s41 =>
  guardC v28 false (fun k => k v10 s41) s41 (fun v42 s43 =>
  guardC v28 false (fun k => iaddrC none 9 v40 v42 s43 k) s43 (fun v44 s45 =>
  guardC v28 false (fun k => faddrC 0 v44 s45 k) s45 (fun v46 s47 =>
  guardC v28 false (fun k => loadC true 7 v46 s47 k) s47 (fun v48 s49 =>
  guardC v28 false (fun k => ACall P n_r08_SameRequest [dm v38, dm v48] s49 k) s49 (fun v50 s51 =>
  guardC v28 false (fun k => unC .not v50 s51 k) s51 (fun v52 s53 =>
  pickC v28 (.d (.bool true)) v52 s53 fun v54 s55 =>
  condC v54 (Z (consO (some (.d (.bool false))) (some [])) s55) (binC .add .plain v10 (.d (.int .i64 1)) s55 fun v56 s57 =>
  again9 [v56] s57)))))))))))))) (Z (consO (some (.d (.bool true))) (some [])) s15))
theorem s_r08_Same {P : Program} {x0 x1 : AV} {σ : List AObj} {Z : Option (List AV) → List AObj → Prop} (h : S_r08_Same P x0 x1 σ Z) : awp P A_r08_Same.body (AtEnd fun fr s => Z (resAs fr s A_r08_Same.res) s) (slots0 0 [x0, x1]) σ :=
  cast (by kernel_rfl) h
/-- bulla/request.Clone -/
def Sm_request_Clone (P : Program) (x0 : AV) (σ : List AObj) (Z : Option (List AV) → List AObj → Prop) : Prop :=
  lenC .sl x0 σ fun v1 s2 =>
  loopC [(.exact []), (.d (.int .i64 0))] s2 fun vs3 s4 again5 =>
  headC vs3 fun v6 vs7 =>
  headC vs7 fun v8 vs9 =>
  binC .lss .plain v8 v1 s4 fun v10 s11 =>
  condC v10 (iaddrC none 9 x0 v8 s11 fun v12 s13 =>
  loadC true 9 v12 s13 fun v14 s15 =>
  allocC [(.d (.int .i64 0)), (.d (.int .i64 0)), (.d (.int .i64 0)), (.d (.str [])), (.d (.str [])), (.d (.int .i64 0)), (.exact []), (.d (.int .i64 0)), (.d (.int .i64 0))] s15 fun v16 s17 =>
  storeC 9 v16 v14 s17 fun _ s19 =>
  faddrC 0 v16 s19 fun v20 s21 =>
  faddrC 2 v20 s21 fun v22 s23 =>
  loadC true 5 v22 s23 fun v24 s25 =>
  ACall P n_op_Clone [v24] s25 fun v26 s27 =>
  faddrC 0 v16 s27 fun v28 s29 =>
  faddrC 2 v28 s29 fun v30 s31 =>
  storeC 5 v30 v26 s31 fun _ s33 =>
  loadC true 9 v16 s33 fun v34 s35 =>
  mksliceC true 9 1 (fillV (rep [(.d (.int .i64 0)), (.d (.int .i64 0)), (.d (.int .i64 0)), (.d (.str [])), (.d (.str [])), (.d (.int .i64 0)), (.exact []), (.d (.int .i64 0)), (.d (.int .i64 0))] 1) [(0, 9, v34)]) s35 fun v36 s37 =>
  appendRC 9 104 v6 v36 s37 fun v38 s39 =>
  binC .add .plain v8 (.d (.int .i64 1)) s39 fun v40 s41 =>
  again5 [v38, v40] s41) (Z (consO (some v6) (some [])) s11)
theorem sm_request_Clone {P : Program} {x0 : AV} {σ : List AObj} {Z : Option (List AV) → List AObj → Prop} (h : Sm_request_Clone P x0 σ Z) : awp P Am_request_Clone.body (AtEnd fun fr s => Z (resAs fr s Am_request_Clone.res) s) (slots0 0 [x0]) σ :=
  cast (by kernel_rfl) h
/-- bulla/request.Bytes -/
def S_request_Bytes (P : Program) (x0 : AV) (σ : List AObj) (Z : Option (List AV) → List AObj → Prop) : Prop :=
  boxC x0 σ fun v1 s2 =>
  loadC true 7 v1 s2 fun v3 s4 =>
  ACall P n_request_Check [dm v3] s4 fun v5 s6 =>
  binC .neq .plain v5 (.d (.int .i64 0)) s6 fun v7 s8 =>
  condC v7 (Z (consO (some (.exact [])) (consO (some v5) (some []))) s8) (faddrC 0 v1 s8 fun v9 s10 =>
  loadC false 1 v9 s10 fun v11 s12 =>
  convC (.int .u64) v11 s12 fun v13 s14 =>
  faddrC 1 v1 s14 fun v15 s16 =>
  loadC false 1 v15 s16 fun v17 s18 =>
  convC (.int .u64) v17 s18 fun v19 s20 =>
  faddrC 2 v1 s20 fun v21 s22 =>
  loadC true 5 v21 s22 fun v23 s24 =>
  ACall P n_codec_PutNum [dm (.exact []), dm v13] s24 fun v25 s26 =>
  keepO v15 s24 s26 ∧ (keepO v21 s24 s26 ∧ (ACall P n_codec_PutNum [dm v25, dm v19] s26 fun v27 s28 =>
  keepO v21 s26 s28 ∧ (ACall P n_op_Put [dm v27, dm v23] s28 fun v29 s30 =>
  Z (consO (some v29) (consO (some (.d (.int .i64 0))) (some []))) s30))))
theorem s_request_Bytes {P : Program} {x0 : AV} {σ : List AObj} {Z : Option (List AV) → List AObj → Prop} (h : S_request_Bytes P x0 σ Z) : awp P A_request_Bytes.body (AtEnd fun fr s => Z (resAs fr s A_request_Bytes.res) s) (slots0 0 [x0]) σ :=
  cast (by kernel_rfl) h
/-- bytes.Equal -/
def S_bytes_Equal (P : Program) (x0 x1 : AV) (σ : List AObj) (Z : Option (List AV) → List AObj → Prop) : Prop :=
  convC .toStr x0 σ fun v1 s2 =>
  convC .toStr x1 s2 fun v3 s4 =>
  binC .eql .plain v1 v3 s4 fun v5 s6 =>
  Z (consO (some v5) (some [])) s6
theorem s_bytes_Equal {P : Program} {x0 x1 : AV} {σ : List AObj} {Z : Option (List AV) → List AObj → Prop} (h : S_bytes_Equal P x0 x1 σ Z) : awp P A_bytes_Equal.body (AtEnd fun fr s => Z (resAs fr s A_bytes_Equal.res) s) (slots0 0 [x0, x1]) σ :=
  cast (by kernel_rfl) h
/-- bulla/ideal.NewTable -/
def S_ideal_NewTable (P : Program) (σ : List AObj) (Z : Option (List AV) → List AObj → Prop) : Prop :=
  mkmapC σ fun v1 s2 =>
  buildC (fillV [(.exact []), (.d .nilmap)] [(1, 1, v1)]) s2 fun v3 s4 =>
  boxC v3 s4 fun v5 s6 =>
  Z (consO (some v5) (some [])) s6
theorem s_ideal_NewTable {P : Program} {σ : List AObj} {Z : Option (List AV) → List AObj → Prop} (h : S_ideal_NewTable P  σ Z) : awp P A_ideal_NewTable.body (AtEnd fun fr s => Z (resAs fr s A_ideal_NewTable.res) s) (slots0 0 []) σ :=
  cast (by kernel_rfl) h
/-- bulla/ideal.NewLedger -/
def S_ideal_NewLedger (P : Program) (σ : List AObj) (Z : Option (List AV) → List AObj → Prop) : Prop :=
  mkmapC σ fun v1 s2 =>
  buildC (fillV [(.exact []), (.d .nilmap)] [(1, 1, v1)]) s2 fun v3 s4 =>
  boxC v3 s4 fun v5 s6 =>
  Z (consO (some v5) (some [])) s6
theorem s_ideal_NewLedger {P : Program} {σ : List AObj} {Z : Option (List AV) → List AObj → Prop} (h : S_ideal_NewLedger P  σ Z) : awp P A_ideal_NewLedger.body (AtEnd fun fr s => Z (resAs fr s A_ideal_NewLedger.res) s) (slots0 0 []) σ :=
  cast (by kernel_rfl) h
/-- bulla/request.Seal -/
def S_request_Seal (P : Program) (x0 x1 x2 : AV) (σ : List AObj) (Z : Option (List AV) → List AObj → Prop) : Prop :=
  boxC x2 σ fun v1 s2 =>
  allocC [(.d (.int .i64 0)), (.d (.int .i64 0)), (.d (.int .i64 0)), (.d (.str [])), (.d (.str [])), (.d (.int .i64 0)), (.exact []), (.d (.int .i64 0)), (.d (.int .i64 0))] s2 fun v3 s4 =>
  loadC true 7 v1 s4 fun v5 s6 =>
  ACall P n_request_Bytes [dm v5] s6 fun v7 s8 =>
  extractC v7 0 s8 fun v9 s10 =>
  extractC v7 1 s10 fun v11 s12 =>
  binC .neq .plain v11 (.d (.int .i64 0)) s12 fun v13 s14 =>
  condC v13 (buildC (fillV [(.d (.int .i64 0)), (.d (.int .i64 0)), (.d (.int .i64 0)), (.d (.str [])), (.d (.str [])), (.d (.int .i64 0)), (.exact []), (.d (.int .i64 0)), (.d (.int .i64 0))] []) s14 fun v15 s16 =>
  storeC 9 v3 v15 s16 fun _ s18 =>
  Z (consO (cellA v3 s18 true 9) (consO (some v11) (some []))) s18) (ACall P n_request_made [dm x0, dm x1] s14 fun v19 s20 =>
  unC .not v19 s20 fun v21 s22 =>
  condC v21 (buildC (fillV [(.d (.int .i64 0)), (.d (.int .i64 0)), (.d (.int .i64 0)), (.d (.str [])), (.d (.str [])), (.d (.int .i64 0)), (.exact []), (.d (.int .i64 0)), (.d (.int .i64 0))] []) s22 fun v23 s24 =>
  storeC 9 v3 v23 s24 fun _ s26 =>
  Z (consO (cellA v3 s26 true 9) (consO (some (.d (.int .i64 2))) (some []))) s26) (faddrC 0 v1 s22 fun v27 s28 =>
  loadC false 1 v27 s28 fun v29 s30 =>
  ACall P n_request_Key [dm v29] s30 fun v31 s32 =>
  ACall P n_ideal_Table_Sum [dm x0, dm v9] s32 fun v33 s34 =>
  ACall P n_ideal_Ledger_Sign [dm x1, dm v31, dm v33] s34 fun v35 s36 =>
  extractC v35 0 s36 fun v37 s38 =>
  extractC v35 1 s38 fun v39 s40 =>
  allocC [(.d (.int .i64 0)), (.d (.int .i64 0))] s40 fun v41 s42 =>
  storeC 2 v41 v37 s42 fun _ s44 =>
  binC .neq .plain v39 (.d (.int .i64 0)) s44 fun v45 s46 =>
  condC v45 (buildC (fillV [(.d (.int .i64 0)), (.d (.int .i64 0)), (.d (.int .i64 0)), (.d (.str [])), (.d (.str [])), (.d (.int .i64 0)), (.exact []), (.d (.int .i64 0)), (.d (.int .i64 0))] []) s46 fun v47 s48 =>
  storeC 9 v3 v47 s48 fun _ s50 =>
  Z (consO (cellA v3 s50 true 9) (consO (some v39) (some []))) s50) (faddrC 2 v1 s46 fun v51 s52 =>
  loadC true 5 v51 s52 fun v53 s54 =>
  ACall P n_op_Clone [dm v53] s54 fun v55 s56 =>
  faddrC 2 v1 s56 fun v57 s58 =>
  storeC 5 v57 v55 s58 fun _ s60 =>
  loadC true 7 v1 s60 fun v61 s62 =>
  loadC true 2 v41 s62 fun v63 s64 =>
  buildC (fillV [(.d (.int .i64 0)), (.d (.int .i64 0)), (.d (.int .i64 0)), (.d (.str [])), (.d (.str [])), (.d (.int .i64 0)), (.exact []), (.d (.int .i64 0)), (.d (.int .i64 0))] [(0, 7, v61), (7, 2, v63)]) s64 fun v65 s66 =>
  storeC 9 v3 v65 s66 fun _ s68 =>
  Z (consO (cellA v3 s68 true 9) (consO (some (.d (.int .i64 0))) (some []))) s68)))
theorem s_request_Seal {P : Program} {x0 x1 x2 : AV} {σ : List AObj} {Z : Option (List AV) → List AObj → Prop} (h : S_request_Seal P x0 x1 x2 σ Z) : awp P A_request_Seal.body (AtEnd fun fr s => Z (resAs fr s A_request_Seal.res) s) (slots0 0 [x0, x1, x2]) σ :=
  cast (by kernel_rfl) h
/-- bulla/request.Valid -/
def S_request_Valid (P : Program) (x0 x1 x2 : AV) (σ : List AObj) (Z : Option (List AV) → List AObj → Prop) : Prop :=
  boxC x2 σ fun v1 s2 =>
  faddrC 0 v1 s2 fun v3 s4 =>
  loadC true 7 v3 s4 fun v5 s6 =>
  ACall P n_request_Bytes [dm v5] s6 fun v7 s8 =>
  extractC v7 0 s8 fun v9 s10 =>
  extractC v7 1 s10 fun v11 s12 =>
  binC .neq .plain v11 (.d (.int .i64 0)) s12 fun v13 s14 =>
  condC v13 (Z (consO (some (.d (.bool false))) (some [])) s14) (ACall P n_ideal_Table_Look [dm x0, dm v9] s14 fun v15 s16 =>
  extractC v15 0 s16 fun v17 s18 =>
  extractC v15 1 s18 fun v19 s20 =>
  guardC v19 true (fun k => faddrC 7 v1 s20 k) s20 (fun v21 s22 =>
  guardC v19 true (fun k => loadC true 2 v21 s22 k) s22 (fun v23 s24 =>
  guardC v19 true (fun k => faddrC 0 v1 s24 k) s24 (fun v25 s26 =>
  guardC v19 true (fun k => faddrC 0 v25 s26 k) s26 (fun v27 s28 =>
  guardC v19 true (fun k => loadC false 1 v27 s28 k) s28 (fun v29 s30 =>
  guardC v19 true (fun k => k v17 s30) s30 (fun v31 s32 =>
  guardC v19 true (fun k => ACall P n_request_Key [dm v29] s32 k) s32 (fun v33 s34 =>
  keepO v21 s32 s34 ∧ (guardC v19 true (fun k => buildC (fillV [(.d (.int .i64 0)), (.d (.int .i64 0))] [(0, 1, v33), (1, 1, v31)]) s34 k) s34 (fun v35 s36 =>
  guardC v19 true (fun k => binC .eql (.ints 2) v23 v35 s36 k) s36 (fun v37 s38 =>
  pickC v19 v37 (.d (.bool false)) s38 fun v39 s40 =>
  guardC v39 true (fun k => k x1 s40) s40 (fun v41 s42 =>
  guardC v39 true (fun k => faddrC 7 v1 s42 k) s42 (fun v43 s44 =>
  guardC v39 true (fun k => loadC true 2 v43 s44 k) s44 (fun v45 s46 =>
  guardC v39 true (fun k => ACall P n_ideal_Ledger_Signed [dm v41, dm v45] s46 k) s46 (fun v47 s48 =>
  pickC v39 v47 (.d (.bool false)) s48 fun v49 s50 =>
  Z (consO (some v49) (some [])) s50)))))))))))))))
theorem s_request_Valid {P : Program} {x0 x1 x2 : AV} {σ : List AObj} {Z : Option (List AV) → List AObj → Prop} (h : S_request_Valid P x0 x1 x2 σ Z) : awp P A_request_Valid.body (AtEnd fun fr s => Z (resAs fr s A_request_Valid.res) s) (slots0 0 [x0, x1, x2]) σ :=
  cast (by kernel_rfl) h
/-- bulla/bullaref08.SameRequest -/
def S_r08_SameRequest (P : Program) (x0 x1 : AV) (σ : List AObj) (Z : Option (List AV) → List AObj → Prop) : Prop :=
  boxC x0 σ fun v1 s2 =>
  boxC x1 s2 fun v3 s4 =>
  faddrC 0 v1 s4 fun v5 s6 =>
  loadC false 1 v5 s6 fun v7 s8 =>
  faddrC 0 v3 s8 fun v9 s10 =>
  loadC false 1 v9 s10 fun v11 s12 =>
  binC .eql .plain v7 v11 s12 fun v13 s14 =>
  guardC v13 true (fun k => faddrC 1 v1 s14 k) s14 (fun v15 s16 =>
  guardC v13 true (fun k => loadC false 1 v15 s16 k) s16 (fun v17 s18 =>
  guardC v13 true (fun k => faddrC 1 v3 s18 k) s18 (fun v19 s20 =>
  guardC v13 true (fun k => loadC false 1 v19 s20 k) s20 (fun v21 s22 =>
  guardC v13 true (fun k => binC .eql .plain v17 v21 s22 k) s22 (fun v23 s24 =>
  pickC v13 v23 (.d (.bool false)) s24 fun v25 s26 =>
  guardC v25 true (fun k => faddrC 2 v1 s26 k) s26 (fun v27 s28 =>
  guardC v25 true (fun k => loadC true 5 v27 s28 k) s28 (fun v29 s30 =>
  guardC v25 true (fun k => faddrC 2 v3 s30 k) s30 (fun v31 s32 =>
  guardC v25 true (fun k => loadC true 5 v31 s32 k) s32 (fun v33 s34 =>
  guardC v25 true (fun k => ACall P n_r06_Same [dm v29, dm v33] s34 k) s34 (fun v35 s36 =>
  pickC v25 v35 (.d (.bool false)) s36 fun v37 s38 =>
  Z (consO (some v37) (some [])) s38))))))))))
theorem s_r08_SameRequest {P : Program} {x0 x1 : AV} {σ : List AObj} {Z : Option (List AV) → List AObj → Prop} (h : S_r08_SameRequest P x0 x1 σ Z) : awp P A_r08_SameRequest.body (AtEnd fun fr s => Z (resAs fr s A_r08_SameRequest.res) s) (slots0 0 [x0, x1]) σ :=
  cast (by kernel_rfl) h
end Go.Proofs.Ythmdpooklflkfaa
