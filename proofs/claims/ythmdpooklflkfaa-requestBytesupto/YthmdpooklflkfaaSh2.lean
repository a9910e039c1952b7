/- The conditions of each function, its slots as variables, and that the logic's conditions are these. Printed by program. -/
import Derived.Test.YthmdpooklflkfaaAf2
set_option linter.all false
set_option maxRecDepth 100000
set_option linter.unusedVariables false
namespace Go.Proofs.Ythmdpooklflkfaa
open Go.AW
/-- bulla/request.Bytes -/
def S_request_Bytes (P : Program) (x0 : AV) (σ : List AObj) (Z : Option (List AV) → List AObj → Prop) : Prop :=
  boxC x0 σ fun v1 s2 =>
  loadC true 7 v1 s2 fun v3 s4 =>
  ACall P n_request_Check [dm v3] s4 fun v5 s6 =>
  binC .neq .plain v5 (.d (.int .i64 0)) s6 fun v7 s8 =>
  condC v7 (Z (consO (some (.exact [])) (consO (some v5) (some []))) s8) (faddrC 0 v1 s8 fun v9 s10 =>
  loadC false 1 v9 s10 fun v11 s12 =>
  convC (.int .u64) v11 s12 fun v13 s14 =>
  faddrC 1 v1 s14 fun v15 s16 =>
  loadC false 1 v15 s16 fun v17 s18 =>
  convC (.int .u64) v17 s18 fun v19 s20 =>
  faddrC 2 v1 s20 fun v21 s22 =>
  loadC true 5 v21 s22 fun v23 s24 =>
  ACall P n_codec_PutNum [dm (.exact []), dm v13] s24 fun v25 s26 =>
  keepO v15 s24 s26 ∧ (keepO v21 s24 s26 ∧ (ACall P n_codec_PutNum [dm v25, dm v19] s26 fun v27 s28 =>
  keepO v21 s26 s28 ∧ (ACall P n_op_Put [dm v27, dm v23] s28 fun v29 s30 =>
  Z (consO (some v29) (consO (some (.d (.int .i64 0))) (some []))) s30))))
theorem s_request_Bytes {P : Program} {x0 : AV} {σ : List AObj} {Z : Option (List AV) → List AObj → Prop} (h : S_request_Bytes P x0 σ Z) : awp P A_request_Bytes.body (AtEnd fun fr s => Z (resAs fr s A_request_Bytes.res) s) (slots0 0 [x0]) σ :=
  cast (by kernel_rfl) h
/-- bulla/bullaref08.Bytes -/
def S_r08_Bytes (P : Program) (x0 : AV) (σ : List AObj) (Z : Option (List AV) → List AObj → Prop) : Prop :=
  boxC x0 σ fun v1 s2 =>
  loadC true 7 v1 s2 fun v3 s4 =>
  ACall P n_r08_Check [dm v3] s4 fun v5 s6 =>
  binC .neq .plain v5 (.d (.int .i64 0)) s6 fun v7 s8 =>
  condC v7 (Z (consO (some (.exact [])) (consO (some v5) (some []))) s8) (faddrC 0 v1 s8 fun v9 s10 =>
  loadC false 1 v9 s10 fun v11 s12 =>
  convC (.int .u64) v11 s12 fun v13 s14 =>
  ACall P n_r01_PutNum [dm (.exact []), dm v13] s14 fun v15 s16 =>
  faddrC 1 v1 s16 fun v17 s18 =>
  loadC false 1 v17 s18 fun v19 s20 =>
  convC (.int .u64) v19 s20 fun v21 s22 =>
  ACall P n_r01_PutNum [dm v15, dm v21] s22 fun v23 s24 =>
  faddrC 2 v1 s24 fun v25 s26 =>
  loadC true 5 v25 s26 fun v27 s28 =>
  ACall P n_r06_Put [dm v23, dm v27] s28 fun v29 s30 =>
  Z (consO (some v29) (consO (some (.d (.int .i64 0))) (some []))) s30)
theorem s_r08_Bytes {P : Program} {x0 : AV} {σ : List AObj} {Z : Option (List AV) → List AObj → Prop} (h : S_r08_Bytes P x0 σ Z) : awp P A_r08_Bytes.body (AtEnd fun fr s => Z (resAs fr s A_r08_Bytes.res) s) (slots0 0 [x0]) σ :=
  cast (by kernel_rfl) h
/-- slices.Clone[[]byte,byte] -/
def S_slices_Clone_byte_byte (P : Program) (x0 : AV) (σ : List AObj) (Z : Option (List AV) → List AObj → Prop) : Prop :=
  isnilC false x0 σ fun v1 s2 =>
  condC v1 (Z (consO (some (.exact [])) (some [])) s2) (mksliceC false 1 0 (fillV (rep [(.d (.int .u8 0))] 0) []) s2 fun v3 s4 =>
  appendC 1 1 v3 x0 s4 fun v5 s6 =>
  Z (consO (some v5) (some [])) s6)
theorem s_slices_Clone_byte_byte {P : Program} {x0 : AV} {σ : List AObj} {Z : Option (List AV) → List AObj → Prop} (h : S_slices_Clone_byte_byte P x0 σ Z) : awp P A_slices_Clone_byte_byte.body (AtEnd fun fr s => Z (resAs fr s A_slices_Clone_byte_byte.res) s) (slots0 0 [x0]) σ :=
  cast (by kernel_rfl) h
/-- bytes.Equal -/
def S_bytes_Equal (P : Program) (x0 x1 : AV) (σ : List AObj) (Z : Option (List AV) → List AObj → Prop) : Prop :=
  convC .toStr x0 σ fun v1 s2 =>
  convC .toStr x1 s2 fun v3 s4 =>
  binC .eql .plain v1 v3 s4 fun v5 s6 =>
  Z (consO (some v5) (some [])) s6
theorem s_bytes_Equal {P : Program} {x0 x1 : AV} {σ : List AObj} {Z : Option (List AV) → List AObj → Prop} (h : S_bytes_Equal P x0 x1 σ Z) : awp P A_bytes_Equal.body (AtEnd fun fr s => Z (resAs fr s A_bytes_Equal.res) s) (slots0 0 [x0, x1]) σ :=
  cast (by kernel_rfl) h
/-- bulla/request.PutSign -/
def S_request_PutSign (P : Program) (x0 x1 : AV) (σ : List AObj) (Z : Option (List AV) → List AObj → Prop) : Prop :=
  boxC x1 σ fun v1 s2 =>
  loadC true 2 v1 s2 fun v3 s4 =>
  ACall P n_request_CheckSign [dm v3] s4 fun v5 s6 =>
  binC .neq .plain v5 (.d (.int .i64 0)) s6 fun v7 s8 =>
  condC v7 (ACall P n_bytes_Clone [dm x0] s8 fun v9 s10 =>
  Z (consO (some v9) (some [])) s10) (faddrC 0 v1 s8 fun v11 s12 =>
  loadC false 1 v11 s12 fun v13 s14 =>
  convC (.int .u64) v13 s14 fun v15 s16 =>
  faddrC 1 v1 s16 fun v17 s18 =>
  loadC false 1 v17 s18 fun v19 s20 =>
  convC (.int .u64) v19 s20 fun v21 s22 =>
  ACall P n_codec_PutNum [dm x0, dm v15] s22 fun v23 s24 =>
  keepO v17 s22 s24 ∧ (ACall P n_codec_PutNum [dm v23, dm v21] s24 fun v25 s26 =>
  Z (consO (some v25) (some [])) s26))
theorem s_request_PutSign {P : Program} {x0 x1 : AV} {σ : List AObj} {Z : Option (List AV) → List AObj → Prop} (h : S_request_PutSign P x0 x1 σ Z) : awp P A_request_PutSign.body (AtEnd fun fr s => Z (resAs fr s A_request_PutSign.res) s) (slots0 0 [x0, x1]) σ :=
  cast (by kernel_rfl) h
/-- bulla/bullaref08.PutSign -/
def S_r08_PutSign (P : Program) (x0 x1 : AV) (σ : List AObj) (Z : Option (List AV) → List AObj → Prop) : Prop :=
  boxC x1 σ fun v1 s2 =>
  loadC true 2 v1 s2 fun v3 s4 =>
  ACall P n_r08_CheckSign [dm v3] s4 fun v5 s6 =>
  binC .neq .plain v5 (.d (.int .i64 0)) s6 fun v7 s8 =>
  condC v7 (Z (consO (some x0) (some [])) s8) (faddrC 0 v1 s8 fun v9 s10 =>
  loadC false 1 v9 s10 fun v11 s12 =>
  convC (.int .u64) v11 s12 fun v13 s14 =>
  faddrC 1 v1 s14 fun v15 s16 =>
  loadC false 1 v15 s16 fun v17 s18 =>
  convC (.int .u64) v17 s18 fun v19 s20 =>
  ACall P n_r01_PutNum [dm x0, dm v13] s20 fun v21 s22 =>
  keepO v15 s20 s22 ∧ (ACall P n_r01_PutNum [dm v21, dm v19] s22 fun v23 s24 =>
  Z (consO (some v23) (some [])) s24))
theorem s_r08_PutSign {P : Program} {x0 x1 : AV} {σ : List AObj} {Z : Option (List AV) → List AObj → Prop} (h : S_r08_PutSign P x0 x1 σ Z) : awp P A_r08_PutSign.body (AtEnd fun fr s => Z (resAs fr s A_r08_PutSign.res) s) (slots0 0 [x0, x1]) σ :=
  cast (by kernel_rfl) h
/-- bulla/request.PutBatch -/
def S_request_PutBatch (P : Program) (x0 x1 : AV) (σ : List AObj) (Z : Option (List AV) → List AObj → Prop) : Prop :=
  ACall P n_request_CheckBatch [dm x1] σ fun v1 s2 =>
  binC .neq .plain v1 (.d (.int .i64 0)) s2 fun v3 s4 =>
  condC v3 (ACall P n_bytes_Clone [dm x0] s4 fun v5 s6 =>
  Z (consO (some v5) (some [])) s6) (callvC P (.fn (.func n_request_parts_put) [x1] []) [dm x0] s4 fun v7 s8 =>
  Z (consO (some v7) (some [])) s8)
theorem s_request_PutBatch {P : Program} {x0 x1 : AV} {σ : List AObj} {Z : Option (List AV) → List AObj → Prop} (h : S_request_PutBatch P x0 x1 σ Z) : awp P A_request_PutBatch.body (AtEnd fun fr s => Z (resAs fr s A_request_PutBatch.res) s) (slots0 0 [x0, x1]) σ :=
  cast (by kernel_rfl) h
/-- bulla/bullaref08.PutBatch -/
def S_r08_PutBatch (P : Program) (x0 x1 : AV) (σ : List AObj) (Z : Option (List AV) → List AObj → Prop) : Prop :=
  ACall P n_r08_CheckBatch [dm x1] σ fun v1 s2 =>
  binC .neq .plain v1 (.d (.int .i64 0)) s2 fun v3 s4 =>
  condC v3 (Z (consO (some x0) (some [])) s4) (lenC .sl x1 s4 fun v5 s6 =>
  convC (.int .u64) v5 s6 fun v7 s8 =>
  ACall P n_r01_PutNum [dm x0, dm v7] s8 fun v9 s10 =>
  loopC [v9, (.d (.int .i64 0))] s10 fun vs11 s12 again13 =>
  headC vs11 fun v14 vs15 =>
  headC vs15 fun v16 vs17 =>
  lenC .sl x1 s12 fun v18 s19 =>
  binC .lss .plain v16 v18 s19 fun v20 s21 =>
  condC v20 (iaddrC none 9 x1 v16 s21 fun v22 s23 =>
  faddrC 0 v22 s23 fun v24 s25 =>
  loadC true 7 v24 s25 fun v26 s27 =>
  ACall P n_r08_Bytes [dm v26] s27 fun v28 s29 =>
  extractC v28 0 s29 fun v30 s31 =>
  extractC v28 1 s31 fun v32 s33 =>
  iaddrC none 9 x1 v16 s33 fun v34 s35 =>
  faddrC 7 v34 s35 fun v36 s37 =>
  loadC true 2 v36 s37 fun v38 s39 =>
  ACall P n_r01_PutBytes [dm v14, dm v30] s39 fun v40 s41 =>
  keepO v36 s39 s41 ∧ (ACall P n_r08_PutSign [dm v40, dm v38] s41 fun v42 s43 =>
  binC .add .plain v16 (.d (.int .i64 1)) s43 fun v44 s45 =>
  again13 [v42, v44] s45)) (Z (consO (some v14) (some [])) s21))
theorem s_r08_PutBatch {P : Program} {x0 x1 : AV} {σ : List AObj} {Z : Option (List AV) → List AObj → Prop} (h : S_r08_PutBatch P x0 x1 σ Z) : awp P A_r08_PutBatch.body (AtEnd fun fr s => Z (resAs fr s A_r08_PutBatch.res) s) (slots0 0 [x0, x1]) σ :=
  cast (by kernel_rfl) h
/-- bulla/ideal.NewTable -/
def S_ideal_NewTable (P : Program) (σ : List AObj) (Z : Option (List AV) → List AObj → Prop) : Prop :=
  mkmapC σ fun v1 s2 =>
  buildC (fillV [(.exact []), (.d .nilmap)] [(1, 1, v1)]) s2 fun v3 s4 =>
  boxC v3 s4 fun v5 s6 =>
  Z (consO (some v5) (some [])) s6
theorem s_ideal_NewTable {P : Program} {σ : List AObj} {Z : Option (List AV) → List AObj → Prop} (h : S_ideal_NewTable P  σ Z) : awp P A_ideal_NewTable.body (AtEnd fun fr s => Z (resAs fr s A_ideal_NewTable.res) s) (slots0 0 []) σ :=
  cast (by kernel_rfl) h
/-- bulla/ideal.NewLedger -/
def S_ideal_NewLedger (P : Program) (σ : List AObj) (Z : Option (List AV) → List AObj → Prop) : Prop :=
  mkmapC σ fun v1 s2 =>
  buildC (fillV [(.exact []), (.d .nilmap)] [(1, 1, v1)]) s2 fun v3 s4 =>
  boxC v3 s4 fun v5 s6 =>
  Z (consO (some v5) (some [])) s6
theorem s_ideal_NewLedger {P : Program} {σ : List AObj} {Z : Option (List AV) → List AObj → Prop} (h : S_ideal_NewLedger P  σ Z) : awp P A_ideal_NewLedger.body (AtEnd fun fr s => Z (resAs fr s A_ideal_NewLedger.res) s) (slots0 0 []) σ :=
  cast (by kernel_rfl) h
/-- bulla/request.Seal -/
def S_request_Seal (P : Program) (x0 x1 x2 : AV) (σ : List AObj) (Z : Option (List AV) → List AObj → Prop) : Prop :=
  boxC x2 σ fun v1 s2 =>
  allocC [(.d (.int .i64 0)), (.d (.int .i64 0)), (.d (.int .i64 0)), (.d (.str [])), (.d (.str [])), (.d (.int .i64 0)), (.exact []), (.d (.int .i64 0)), (.d (.int .i64 0))] s2 fun v3 s4 =>
  loadC true 7 v1 s4 fun v5 s6 =>
  ACall P n_request_Bytes [dm v5] s6 fun v7 s8 =>
  extractC v7 0 s8 fun v9 s10 =>
  extractC v7 1 s10 fun v11 s12 =>
  binC .neq .plain v11 (.d (.int .i64 0)) s12 fun v13 s14 =>
  condC v13 (buildC (fillV [(.d (.int .i64 0)), (.d (.int .i64 0)), (.d (.int .i64 0)), (.d (.str [])), (.d (.str [])), (.d (.int .i64 0)), (.exact []), (.d (.int .i64 0)), (.d (.int .i64 0))] []) s14 fun v15 s16 =>
  storeC 9 v3 v15 s16 fun _ s18 =>
  Z (consO (cellA v3 s18 true 9) (consO (some v11) (some []))) s18) (ACall P n_request_made [dm x0, dm x1] s14 fun v19 s20 =>
  unC .not v19 s20 fun v21 s22 =>
  condC v21 (buildC (fillV [(.d (.int .i64 0)), (.d (.int .i64 0)), (.d (.int .i64 0)), (.d (.str [])), (.d (.str [])), (.d (.int .i64 0)), (.exact []), (.d (.int .i64 0)), (.d (.int .i64 0))] []) s22 fun v23 s24 =>
  storeC 9 v3 v23 s24 fun _ s26 =>
  Z (consO (cellA v3 s26 true 9) (consO (some (.d (.int .i64 2))) (some []))) s26) (faddrC 0 v1 s22 fun v27 s28 =>
  loadC false 1 v27 s28 fun v29 s30 =>
  ACall P n_request_Key [dm v29] s30 fun v31 s32 =>
  ACall P n_ideal_Table_Sum [dm x0, dm v9] s32 fun v33 s34 =>
  ACall P n_ideal_Ledger_Sign [dm x1, dm v31, dm v33] s34 fun v35 s36 =>
  extractC v35 0 s36 fun v37 s38 =>
  extractC v35 1 s38 fun v39 s40 =>
  allocC [(.d (.int .i64 0)), (.d (.int .i64 0))] s40 fun v41 s42 =>
  storeC 2 v41 v37 s42 fun _ s44 =>
  binC .neq .plain v39 (.d (.int .i64 0)) s44 fun v45 s46 =>
  condC v45 (buildC (fillV [(.d (.int .i64 0)), (.d (.int .i64 0)), (.d (.int .i64 0)), (.d (.str [])), (.d (.str [])), (.d (.int .i64 0)), (.exact []), (.d (.int .i64 0)), (.d (.int .i64 0))] []) s46 fun v47 s48 =>
  storeC 9 v3 v47 s48 fun _ s50 =>
  Z (consO (cellA v3 s50 true 9) (consO (some v39) (some []))) s50) (faddrC 2 v1 s46 fun v51 s52 =>
  loadC true 5 v51 s52 fun v53 s54 =>
  ACall P n_op_Clone [dm v53] s54 fun v55 s56 =>
  faddrC 2 v1 s56 fun v57 s58 =>
  storeC 5 v57 v55 s58 fun _ s60 =>
  loadC true 7 v1 s60 fun v61 s62 =>
  loadC true 2 v41 s62 fun v63 s64 =>
  buildC (fillV [(.d (.int .i64 0)), (.d (.int .i64 0)), (.d (.int .i64 0)), (.d (.str [])), (.d (.str [])), (.d (.int .i64 0)), (.exact []), (.d (.int .i64 0)), (.d (.int .i64 0))] [(0, 7, v61), (7, 2, v63)]) s64 fun v65 s66 =>
  storeC 9 v3 v65 s66 fun _ s68 =>
  Z (consO (cellA v3 s68 true 9) (consO (some (.d (.int .i64 0))) (some []))) s68)))
theorem s_request_Seal {P : Program} {x0 x1 x2 : AV} {σ : List AObj} {Z : Option (List AV) → List AObj → Prop} (h : S_request_Seal P x0 x1 x2 σ Z) : awp P A_request_Seal.body (AtEnd fun fr s => Z (resAs fr s A_request_Seal.res) s) (slots0 0 [x0, x1, x2]) σ :=
  cast (by kernel_rfl) h
/-- bulla/request.Valid -/
def S_request_Valid (P : Program) (x0 x1 x2 : AV) (σ : List AObj) (Z : Option (List AV) → List AObj → Prop) : Prop :=
  boxC x2 σ fun v1 s2 =>
  faddrC 0 v1 s2 fun v3 s4 =>
  loadC true 7 v3 s4 fun v5 s6 =>
  ACall P n_request_Bytes [dm v5] s6 fun v7 s8 =>
  extractC v7 0 s8 fun v9 s10 =>
  extractC v7 1 s10 fun v11 s12 =>
  binC .neq .plain v11 (.d (.int .i64 0)) s12 fun v13 s14 =>
  condC v13 (Z (consO (some (.d (.bool false))) (some [])) s14) (ACall P n_ideal_Table_Look [dm x0, dm v9] s14 fun v15 s16 =>
  extractC v15 0 s16 fun v17 s18 =>
  extractC v15 1 s18 fun v19 s20 =>
  guardC v19 true (fun k => faddrC 7 v1 s20 k) s20 (fun v21 s22 =>
  guardC v19 true (fun k => loadC true 2 v21 s22 k) s22 (fun v23 s24 =>
  guardC v19 true (fun k => faddrC 0 v1 s24 k) s24 (fun v25 s26 =>
  guardC v19 true (fun k => faddrC 0 v25 s26 k) s26 (fun v27 s28 =>
  guardC v19 true (fun k => loadC false 1 v27 s28 k) s28 (fun v29 s30 =>
  guardC v19 true (fun k => k v17 s30) s30 (fun v31 s32 =>
  guardC v19 true (fun k => ACall P n_request_Key [dm v29] s32 k) s32 (fun v33 s34 =>
  keepO v21 s32 s34 ∧ (guardC v19 true (fun k => buildC (fillV [(.d (.int .i64 0)), (.d (.int .i64 0))] [(0, 1, v33), (1, 1, v31)]) s34 k) s34 (fun v35 s36 =>
  guardC v19 true (fun k => binC .eql (.ints 2) v23 v35 s36 k) s36 (fun v37 s38 =>
  pickC v19 v37 (.d (.bool false)) s38 fun v39 s40 =>
  guardC v39 true (fun k => k x1 s40) s40 (fun v41 s42 =>
  guardC v39 true (fun k => faddrC 7 v1 s42 k) s42 (fun v43 s44 =>
  guardC v39 true (fun k => loadC true 2 v43 s44 k) s44 (fun v45 s46 =>
  guardC v39 true (fun k => ACall P n_ideal_Ledger_Signed [dm v41, dm v45] s46 k) s46 (fun v47 s48 =>
  pickC v39 v47 (.d (.bool false)) s48 fun v49 s50 =>
  Z (consO (some v49) (some [])) s50)))))))))))))))
theorem s_request_Valid {P : Program} {x0 x1 x2 : AV} {σ : List AObj} {Z : Option (List AV) → List AObj → Prop} (h : S_request_Valid P x0 x1 x2 σ Z) : awp P A_request_Valid.body (AtEnd fun fr s => Z (resAs fr s A_request_Valid.res) s) (slots0 0 [x0, x1, x2]) σ :=
  cast (by kernel_rfl) h
end Go.Proofs.Ythmdpooklflkfaa
