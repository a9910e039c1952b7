/- The conditions of each function, its slots as variables, and that the logic's conditions are these. Printed by program. -/
import Derived.Test.YthmdpooklflkfaaAf2
set_option linter.all false
set_option maxRecDepth 100000
set_option linter.unusedVariables false
namespace Go.Proofs.Ythmdpooklflkfaa
open Go.AW
/-- bulla/bullaref08.Same -/
def S_r08_Same (P : Program) (x0 x1 : AV) (σ : List AObj) (Z : Option (List AV) → List AObj → Prop) : Prop :=
  lenC .sl x0 σ fun v1 s2 =>
  lenC .sl x1 s2 fun v3 s4 =>
  binC .neq .plain v1 v3 s4 fun v5 s6 =>
  condC v5 (Z (consO (some (.d (.bool false))) (some [])) s6) (loopC [(.d (.int .i64 0))] s6 fun vs7 s8 again9 =>
  headC vs7 fun v10 vs11 =>
  lenC .sl x0 s8 fun v12 s13 =>
  binC .lss .plain v10 v12 s13 fun v14 s15 =>
  condC v14 (iaddrC none 9 x0 v10 s15 fun v16 s17 =>
  faddrC 7 v16 s17 fun v18 s19 =>
  loadC true 2 v18 s19 fun v20 s21 =>
  iaddrC none 9 x1 v10 s21 fun v22 s23 =>
  faddrC 7 v22 s23 fun v24 s25 =>
  loadC true 2 v24 s25 fun v26 s27 =>
  binC .neq (.ints 2) v20 v26 s27 fun v28 s29 =>
  guardC v28 false (fun k => k x0 s29) s29 (fun v30 s31 =>
  guardC v28 false (fun k => k v10 s31) s31 (fun v32 s33 =>
  guardC v28 false (fun k => iaddrC none 9 v30 v32 s33 k) s33 (fun v34 s35 =>
  guardC v28 false (fun k => faddrC 0 v34 s35 k) s35 (fun v36 s37 =>
  guardC v28 false (fun k => loadC true 7 v36 s37 k) s37 (fun v38 s39 =>
  guardC v28 false (fun k => k x1 s39) s39 (fun v40 s41 =>
  guardC v28 false (fun k => k v10 s41) s41 (fun v42 s43 =>
  guardC v28 false (fun k => iaddrC none 9 v40 v42 s43 k) s43 (fun v44 s45 =>
  guardC v28 false (fun k => faddrC 0 v44 s45 k) s45 (fun v46 s47 =>
  guardC v28 false (fun k => loadC true 7 v46 s47 k) s47 (fun v48 s49 =>
  guardC v28 false (fun k => ACall P n_r08_SameRequest [dm v38, dm v48] s49 k) s49 (fun v50 s51 =>
  guardC v28 false (fun k => unC .not v50 s51 k) s51 (fun v52 s53 =>
  pickC v28 (.d (.bool true)) v52 s53 fun v54 s55 =>
  condC v54 (Z (consO (some (.d (.bool false))) (some [])) s55) (binC .add .plain v10 (.d (.int .i64 1)) s55 fun v56 s57 =>
  again9 [v56] s57)))))))))))))) (Z (consO (some (.d (.bool true))) (some [])) s15))
theorem s_r08_Same {P : Program} {x0 x1 : AV} {σ : List AObj} {Z : Option (List AV) → List AObj → Prop} (h : S_r08_Same P x0 x1 σ Z) : awp P A_r08_Same.body (AtEnd fun fr s => Z (resAs fr s A_r08_Same.res) s) (slots0 0 [x0, x1]) σ :=
  cast (by kernel_rfl) h
/-- bulla/request.Bytes -/
def S_request_Bytes (P : Program) (x0 : AV) (σ : List AObj) (Z : Option (List AV) → List AObj → Prop) : Prop :=
  boxC x0 σ fun v1 s2 =>
  loadC true 7 v1 s2 fun v3 s4 =>
  ACall P n_request_Check [dm v3] s4 fun v5 s6 =>
  binC .neq .plain v5 (.d (.int .i64 0)) s6 fun v7 s8 =>
  condC v7 (Z (consO (some (.exact [])) (consO (some v5) (some []))) s8) (faddrC 0 v1 s8 fun v9 s10 =>
  loadC false 1 v9 s10 fun v11 s12 =>
  convC (.int .u64) v11 s12 fun v13 s14 =>
  faddrC 1 v1 s14 fun v15 s16 =>
  loadC false 1 v15 s16 fun v17 s18 =>
  convC (.int .u64) v17 s18 fun v19 s20 =>
  faddrC 2 v1 s20 fun v21 s22 =>
  loadC true 5 v21 s22 fun v23 s24 =>
  ACall P n_codec_PutNum [dm (.exact []), dm v13] s24 fun v25 s26 =>
  keepO v15 s24 s26 ∧ (keepO v21 s24 s26 ∧ (ACall P n_codec_PutNum [dm v25, dm v19] s26 fun v27 s28 =>
  keepO v21 s26 s28 ∧ (ACall P n_op_Put [dm v27, dm v23] s28 fun v29 s30 =>
  Z (consO (some v29) (consO (some (.d (.int .i64 0))) (some []))) s30))))
theorem s_request_Bytes {P : Program} {x0 : AV} {σ : List AObj} {Z : Option (List AV) → List AObj → Prop} (h : S_request_Bytes P x0 σ Z) : awp P A_request_Bytes.body (AtEnd fun fr s => Z (resAs fr s A_request_Bytes.res) s) (slots0 0 [x0]) σ :=
  cast (by kernel_rfl) h
/-- slices.Clone[[]byte,byte] -/
def S_slices_Clone_byte_byte (P : Program) (x0 : AV) (σ : List AObj) (Z : Option (List AV) → List AObj → Prop) : Prop :=
  isnilC false x0 σ fun v1 s2 =>
  condC v1 (Z (consO (some (.exact [])) (some [])) s2) (mksliceC false 1 0 (fillV (rep [(.d (.int .u8 0))] 0) []) s2 fun v3 s4 =>
  appendC 1 1 v3 x0 s4 fun v5 s6 =>
  Z (consO (some v5) (some [])) s6)
theorem s_slices_Clone_byte_byte {P : Program} {x0 : AV} {σ : List AObj} {Z : Option (List AV) → List AObj → Prop} (h : S_slices_Clone_byte_byte P x0 σ Z) : awp P A_slices_Clone_byte_byte.body (AtEnd fun fr s => Z (resAs fr s A_slices_Clone_byte_byte.res) s) (slots0 0 [x0]) σ :=
  cast (by kernel_rfl) h
/-- bytes.Equal -/
def S_bytes_Equal (P : Program) (x0 x1 : AV) (σ : List AObj) (Z : Option (List AV) → List AObj → Prop) : Prop :=
  convC .toStr x0 σ fun v1 s2 =>
  convC .toStr x1 s2 fun v3 s4 =>
  binC .eql .plain v1 v3 s4 fun v5 s6 =>
  Z (consO (some v5) (some [])) s6
theorem s_bytes_Equal {P : Program} {x0 x1 : AV} {σ : List AObj} {Z : Option (List AV) → List AObj → Prop} (h : S_bytes_Equal P x0 x1 σ Z) : awp P A_bytes_Equal.body (AtEnd fun fr s => Z (resAs fr s A_bytes_Equal.res) s) (slots0 0 [x0, x1]) σ :=
  cast (by kernel_rfl) h
/-- bulla/request.PutSign -/
def S_request_PutSign (P : Program) (x0 x1 : AV) (σ : List AObj) (Z : Option (List AV) → List AObj → Prop) : Prop :=
  boxC x1 σ fun v1 s2 =>
  loadC true 2 v1 s2 fun v3 s4 =>
  ACall P n_request_CheckSign [dm v3] s4 fun v5 s6 =>
  binC .neq .plain v5 (.d (.int .i64 0)) s6 fun v7 s8 =>
  condC v7 (ACall P n_bytes_Clone [dm x0] s8 fun v9 s10 =>
  Z (consO (some v9) (some [])) s10) (faddrC 0 v1 s8 fun v11 s12 =>
  loadC false 1 v11 s12 fun v13 s14 =>
  convC (.int .u64) v13 s14 fun v15 s16 =>
  faddrC 1 v1 s16 fun v17 s18 =>
  loadC false 1 v17 s18 fun v19 s20 =>
  convC (.int .u64) v19 s20 fun v21 s22 =>
  ACall P n_codec_PutNum [dm x0, dm v15] s22 fun v23 s24 =>
  keepO v17 s22 s24 ∧ (ACall P n_codec_PutNum [dm v23, dm v21] s24 fun v25 s26 =>
  Z (consO (some v25) (some [])) s26))
theorem s_request_PutSign {P : Program} {x0 x1 : AV} {σ : List AObj} {Z : Option (List AV) → List AObj → Prop} (h : S_request_PutSign P x0 x1 σ Z) : awp P A_request_PutSign.body (AtEnd fun fr s => Z (resAs fr s A_request_PutSign.res) s) (slots0 0 [x0, x1]) σ :=
  cast (by kernel_rfl) h
/-- bulla/request.PutBatch -/
def S_request_PutBatch (P : Program) (x0 x1 : AV) (σ : List AObj) (Z : Option (List AV) → List AObj → Prop) : Prop :=
  ACall P n_request_CheckBatch [dm x1] σ fun v1 s2 =>
  binC .neq .plain v1 (.d (.int .i64 0)) s2 fun v3 s4 =>
  condC v3 (ACall P n_bytes_Clone [dm x0] s4 fun v5 s6 =>
  Z (consO (some v5) (some [])) s6) (callvC P (.fn (.func n_request_parts_put) [x1] []) [dm x0] s4 fun v7 s8 =>
  Z (consO (some v7) (some [])) s8)
theorem s_request_PutBatch {P : Program} {x0 x1 : AV} {σ : List AObj} {Z : Option (List AV) → List AObj → Prop} (h : S_request_PutBatch P x0 x1 σ Z) : awp P A_request_PutBatch.body (AtEnd fun fr s => Z (resAs fr s A_request_PutBatch.res) s) (slots0 0 [x0, x1]) σ :=
  cast (by kernel_rfl) h
/-- bulla/ideal.NewTable -/
def S_ideal_NewTable (P : Program) (σ : List AObj) (Z : Option (List AV) → List AObj → Prop) : Prop :=
  mkmapC σ fun v1 s2 =>
  buildC (fillV [(.exact []), (.d .nilmap)] [(1, 1, v1)]) s2 fun v3 s4 =>
  boxC v3 s4 fun v5 s6 =>
  Z (consO (some v5) (some [])) s6
theorem s_ideal_NewTable {P : Program} {σ : List AObj} {Z : Option (List AV) → List AObj → Prop} (h : S_ideal_NewTable P  σ Z) : awp P A_ideal_NewTable.body (AtEnd fun fr s => Z (resAs fr s A_ideal_NewTable.res) s) (slots0 0 []) σ :=
  cast (by kernel_rfl) h
/-- bulla/ideal.NewLedger -/
def S_ideal_NewLedger (P : Program) (σ : List AObj) (Z : Option (List AV) → List AObj → Prop) : Prop :=
  mkmapC σ fun v1 s2 =>
  buildC (fillV [(.exact []), (.d .nilmap)] [(1, 1, v1)]) s2 fun v3 s4 =>
  boxC v3 s4 fun v5 s6 =>
  Z (consO (some v5) (some [])) s6
theorem s_ideal_NewLedger {P : Program} {σ : List AObj} {Z : Option (List AV) → List AObj → Prop} (h : S_ideal_NewLedger P  σ Z) : awp P A_ideal_NewLedger.body (AtEnd fun fr s => Z (resAs fr s A_ideal_NewLedger.res) s) (slots0 0 []) σ :=
  cast (by kernel_rfl) h
/-- bulla/request.Seal -/
def S_request_Seal (P : Program) (x0 x1 x2 : AV) (σ : List AObj) (Z : Option (List AV) → List AObj → Prop) : Prop :=
  boxC x2 σ fun v1 s2 =>
  allocC [(.d (.int .i64 0)), (.d (.int .i64 0)), (.d (.int .i64 0)), (.d (.str [])), (.d (.str [])), (.d (.int .i64 0)), (.exact []), (.d (.int .i64 0)), (.d (.int .i64 0))] s2 fun v3 s4 =>
  loadC true 7 v1 s4 fun v5 s6 =>
  ACall P n_request_Bytes [dm v5] s6 fun v7 s8 =>
  extractC v7 0 s8 fun v9 s10 =>
  extractC v7 1 s10 fun v11 s12 =>
  binC .neq .plain v11 (.d (.int .i64 0)) s12 fun v13 s14 =>
  condC v13 (buildC (fillV [(.d (.int .i64 0)), (.d (.int .i64 0)), (.d (.int .i64 0)), (.d (.str [])), (.d (.str [])), (.d (.int .i64 0)), (.exact []), (.d (.int .i64 0)), (.d (.int .i64 0))] []) s14 fun v15 s16 =>
  storeC 9 v3 v15 s16 fun _ s18 =>
  Z (consO (cellA v3 s18 true 9) (consO (some v11) (some []))) s18) (ACall P n_request_made [dm x0, dm x1] s14 fun v19 s20 =>
  unC .not v19 s20 fun v21 s22 =>
  condC v21 (buildC (fillV [(.d (.int .i64 0)), (.d (.int .i64 0)), (.d (.int .i64 0)), (.d (.str [])), (.d (.str [])), (.d (.int .i64 0)), (.exact []), (.d (.int .i64 0)), (.d (.int .i64 0))] []) s22 fun v23 s24 =>
  storeC 9 v3 v23 s24 fun _ s26 =>
  Z (consO (cellA v3 s26 true 9) (consO (some (.d (.int .i64 2))) (some []))) s26) (faddrC 0 v1 s22 fun v27 s28 =>
  loadC false 1 v27 s28 fun v29 s30 =>
  ACall P n_request_Key [dm v29] s30 fun v31 s32 =>
  ACall P n_ideal_Table_Sum [dm x0, dm v9] s32 fun v33 s34 =>
  ACall P n_ideal_Ledger_Sign [dm x1, dm v31, dm v33] s34 fun v35 s36 =>
  extractC v35 0 s36 fun v37 s38 =>
  extractC v35 1 s38 fun v39 s40 =>
  allocC [(.d (.int .i64 0)), (.d (.int .i64 0))] s40 fun v41 s42 =>
  storeC 2 v41 v37 s42 fun _ s44 =>
  binC .neq .plain v39 (.d (.int .i64 0)) s44 fun v45 s46 =>
  condC v45 (buildC (fillV [(.d (.int .i64 0)), (.d (.int .i64 0)), (.d (.int .i64 0)), (.d (.str [])), (.d (.str [])), (.d (.int .i64 0)), (.exact []), (.d (.int .i64 0)), (.d (.int .i64 0))] []) s46 fun v47 s48 =>
  storeC 9 v3 v47 s48 fun _ s50 =>
  Z (consO (cellA v3 s50 true 9) (consO (some v39) (some []))) s50) (faddrC 2 v1 s46 fun v51 s52 =>
  loadC true 5 v51 s52 fun v53 s54 =>
  ACall P n_op_Clone [dm v53] s54 fun v55 s56 =>
  faddrC 2 v1 s56 fun v57 s58 =>
  storeC 5 v57 v55 s58 fun _ s60 =>
  loadC true 7 v1 s60 fun v61 s62 =>
  loadC true 2 v41 s62 fun v63 s64 =>
  buildC (fillV [(.d (.int .i64 0)), (.d (.int .i64 0)), (.d (.int .i64 0)), (.d (.str [])), (.d (.str [])), (.d (.int .i64 0)), (.exact []), (.d (.int .i64 0)), (.d (.int .i64 0))] [(0, 7, v61), (7, 2, v63)]) s64 fun v65 s66 =>
  storeC 9 v3 v65 s66 fun _ s68 =>
  Z (consO (cellA v3 s68 true 9) (consO (some (.d (.int .i64 0))) (some []))) s68)))
theorem s_request_Seal {P : Program} {x0 x1 x2 : AV} {σ : List AObj} {Z : Option (List AV) → List AObj → Prop} (h : S_request_Seal P x0 x1 x2 σ Z) : awp P A_request_Seal.body (AtEnd fun fr s => Z (resAs fr s A_request_Seal.res) s) (slots0 0 [x0, x1, x2]) σ :=
  cast (by kernel_rfl) h
/-- bulla/request.Valid -/
def S_request_Valid (P : Program) (x0 x1 x2 : AV) (σ : List AObj) (Z : Option (List AV) → List AObj → Prop) : Prop :=
  boxC x2 σ fun v1 s2 =>
  faddrC 0 v1 s2 fun v3 s4 =>
  loadC true 7 v3 s4 fun v5 s6 =>
  ACall P n_request_Bytes [dm v5] s6 fun v7 s8 =>
  extractC v7 0 s8 fun v9 s10 =>
  extractC v7 1 s10 fun v11 s12 =>
  binC .neq .plain v11 (.d (.int .i64 0)) s12 fun v13 s14 =>
  condC v13 (Z (consO (some (.d (.bool false))) (some [])) s14) (ACall P n_ideal_Table_Look [dm x0, dm v9] s14 fun v15 s16 =>
  extractC v15 0 s16 fun v17 s18 =>
  extractC v15 1 s18 fun v19 s20 =>
  guardC v19 true (fun k => faddrC 7 v1 s20 k) s20 (fun v21 s22 =>
  guardC v19 true (fun k => loadC true 2 v21 s22 k) s22 (fun v23 s24 =>
  guardC v19 true (fun k => faddrC 0 v1 s24 k) s24 (fun v25 s26 =>
  guardC v19 true (fun k => faddrC 0 v25 s26 k) s26 (fun v27 s28 =>
  guardC v19 true (fun k => loadC false 1 v27 s28 k) s28 (fun v29 s30 =>
  guardC v19 true (fun k => k v17 s30) s30 (fun v31 s32 =>
  guardC v19 true (fun k => ACall P n_request_Key [dm v29] s32 k) s32 (fun v33 s34 =>
  keepO v21 s32 s34 ∧ (guardC v19 true (fun k => buildC (fillV [(.d (.int .i64 0)), (.d (.int .i64 0))] [(0, 1, v33), (1, 1, v31)]) s34 k) s34 (fun v35 s36 =>
  guardC v19 true (fun k => binC .eql (.ints 2) v23 v35 s36 k) s36 (fun v37 s38 =>
  pickC v19 v37 (.d (.bool false)) s38 fun v39 s40 =>
  guardC v39 true (fun k => k x1 s40) s40 (fun v41 s42 =>
  guardC v39 true (fun k => faddrC 7 v1 s42 k) s42 (fun v43 s44 =>
  guardC v39 true (fun k => loadC true 2 v43 s44 k) s44 (fun v45 s46 =>
  guardC v39 true (fun k => ACall P n_ideal_Ledger_Signed [dm v41, dm v45] s46 k) s46 (fun v47 s48 =>
  pickC v39 v47 (.d (.bool false)) s48 fun v49 s50 =>
  Z (consO (some v49) (some [])) s50)))))))))))))))
theorem s_request_Valid {P : Program} {x0 x1 x2 : AV} {σ : List AObj} {Z : Option (List AV) → List AObj → Prop} (h : S_request_Valid P x0 x1 x2 σ Z) : awp P A_request_Valid.body (AtEnd fun fr s => Z (resAs fr s A_request_Valid.res) s) (slots0 0 [x0, x1, x2]) σ :=
  cast (by kernel_rfl) h
/-- bulla/request.Parse -/
def S_request_Parse (P : Program) (x0 : AV) (σ : List AObj) (Z : Option (List AV) → List AObj → Prop) : Prop :=
  allocC [(.d (.int .i64 0)), (.d (.int .i64 0)), (.d (.int .i64 0)), (.d (.str [])), (.d (.str [])), (.d (.int .i64 0)), (.exact [])] σ fun v1 s2 =>
  ACall P n_codec_Read [dm x0] s2 fun v3 s4 =>
  ACall P n_codec_Reader_Num [dm v3, dm (.d (.int .u64 7))] s4 fun v5 s6 =>
  convC (.int .i64) v5 s6 fun v7 s8 =>
  buildC (fillV [(.d (.int .i64 0)), (.d (.int .i64 0)), (.d (.int .i64 0)), (.d (.str [])), (.d (.str [])), (.d (.int .i64 0)), (.exact [])] [(0, 1, v7)]) s8 fun v9 s10 =>
  allocC [(.d (.int .i64 0)), (.d (.int .i64 0)), (.d (.int .i64 0)), (.d (.str [])), (.d (.str [])), (.d (.int .i64 0)), (.exact [])] s10 fun v11 s12 =>
  storeC 7 v11 v9 s12 fun _ s14 =>
  ACall P n_codec_Reader_Num [dm v3, dm (.d (.int .u64 9007199254740992))] s14 fun v15 s16 =>
  convC (.int .i64) v15 s16 fun v17 s18 =>
  faddrC 1 v11 s18 fun v19 s20 =>
  storeC 1 v19 v17 s20 fun _ s22 =>
  ACall P n_op_Take [dm v3] s22 fun v23 s24 =>
  faddrC 2 v11 s24 fun v25 s26 =>
  storeC 5 v25 v23 s26 fun _ s28 =>
  ACall P n_codec_Reader_Done [dm v3] s28 fun v29 s30 =>
  binC .neq .plain v29 (.d (.int .i64 0)) s30 fun v31 s32 =>
  condC v31 (buildC (fillV [(.d (.int .i64 0)), (.d (.int .i64 0)), (.d (.int .i64 0)), (.d (.str [])), (.d (.str [])), (.d (.int .i64 0)), (.exact [])] []) s32 fun v33 s34 =>
  storeC 7 v1 v33 s34 fun _ s36 =>
  Z (consO (cellA v1 s36 true 7) (consO (some v29) (some []))) s36) (faddrC 1 v11 s32 fun v37 s38 =>
  loadC false 1 v37 s38 fun v39 s40 =>
  binC .eql .plain v39 (.d (.int .i64 0)) s40 fun v41 s42 =>
  condC v41 (buildC (fillV [(.d (.int .i64 0)), (.d (.int .i64 0)), (.d (.int .i64 0)), (.d (.str [])), (.d (.str [])), (.d (.int .i64 0)), (.exact [])] []) s42 fun v43 s44 =>
  storeC 7 v1 v43 s44 fun _ s46 =>
  Z (consO (cellA v1 s46 true 7) (consO (some (.d (.int .i64 80))) (some []))) s46) (loadC true 7 v11 s42 fun v47 s48 =>
  storeC 7 v1 v47 s48 fun _ s50 =>
  Z (consO (cellA v1 s50 true 7) (consO (some (.d (.int .i64 0))) (some []))) s50))
theorem s_request_Parse {P : Program} {x0 : AV} {σ : List AObj} {Z : Option (List AV) → List AObj → Prop} (h : S_request_Parse P x0 σ Z) : awp P A_request_Parse.body (AtEnd fun fr s => Z (resAs fr s A_request_Parse.res) s) (slots0 0 [x0]) σ :=
  cast (by kernel_rfl) h
/-- bulla/bullaref08.SameRequest -/
def S_r08_SameRequest (P : Program) (x0 x1 : AV) (σ : List AObj) (Z : Option (List AV) → List AObj → Prop) : Prop :=
  boxC x0 σ fun v1 s2 =>
  boxC x1 s2 fun v3 s4 =>
  faddrC 0 v1 s4 fun v5 s6 =>
  loadC false 1 v5 s6 fun v7 s8 =>
  faddrC 0 v3 s8 fun v9 s10 =>
  loadC false 1 v9 s10 fun v11 s12 =>
  binC .eql .plain v7 v11 s12 fun v13 s14 =>
  guardC v13 true (fun k => faddrC 1 v1 s14 k) s14 (fun v15 s16 =>
  guardC v13 true (fun k => loadC false 1 v15 s16 k) s16 (fun v17 s18 =>
  guardC v13 true (fun k => faddrC 1 v3 s18 k) s18 (fun v19 s20 =>
  guardC v13 true (fun k => loadC false 1 v19 s20 k) s20 (fun v21 s22 =>
  guardC v13 true (fun k => binC .eql .plain v17 v21 s22 k) s22 (fun v23 s24 =>
  pickC v13 v23 (.d (.bool false)) s24 fun v25 s26 =>
  guardC v25 true (fun k => faddrC 2 v1 s26 k) s26 (fun v27 s28 =>
  guardC v25 true (fun k => loadC true 5 v27 s28 k) s28 (fun v29 s30 =>
  guardC v25 true (fun k => faddrC 2 v3 s30 k) s30 (fun v31 s32 =>
  guardC v25 true (fun k => loadC true 5 v31 s32 k) s32 (fun v33 s34 =>
  guardC v25 true (fun k => ACall P n_r06_Same [dm v29, dm v33] s34 k) s34 (fun v35 s36 =>
  pickC v25 v35 (.d (.bool false)) s36 fun v37 s38 =>
  Z (consO (some v37) (some [])) s38))))))))))
theorem s_r08_SameRequest {P : Program} {x0 x1 : AV} {σ : List AObj} {Z : Option (List AV) → List AObj → Prop} (h : S_r08_SameRequest P x0 x1 σ Z) : awp P A_r08_SameRequest.body (AtEnd fun fr s => Z (resAs fr s A_r08_SameRequest.res) s) (slots0 0 [x0, x1]) σ :=
  cast (by kernel_rfl) h
/-- bulla/codec.Read -/
def S_codec_Read (P : Program) (x0 : AV) (σ : List AObj) (Z : Option (List AV) → List AObj → Prop) : Prop :=
  ACall P n_slices_Clone_byte_byte [dm x0] σ fun v1 s2 =>
  buildC (fillV [(.exact []), (.d (.int .i64 0)), (.d (.bool false))] [(0, 1, v1), (2, 1, (.d (.bool true)))]) s2 fun v3 s4 =>
  boxC v3 s4 fun v5 s6 =>
  Z (consO (some v5) (some [])) s6
theorem s_codec_Read {P : Program} {x0 : AV} {σ : List AObj} {Z : Option (List AV) → List AObj → Prop} (h : S_codec_Read P x0 σ Z) : awp P A_codec_Read.body (AtEnd fun fr s => Z (resAs fr s A_codec_Read.res) s) (slots0 0 [x0]) σ :=
  cast (by kernel_rfl) h
/-- bulla/request.TakeBatch -/
def S_request_TakeBatch (P : Program) (x0 : AV) (σ : List AObj) (Z : Option (List AV) → List AObj → Prop) : Prop :=
  ACall P n_codec_Reader_Num [dm x0, dm (.d (.int .u64 4))] σ fun v1 s2 =>
  loopC [(.exact []), (.d (.int .u64 0))] s2 fun vs3 s4 again5 =>
  headC vs3 fun v6 vs7 =>
  headC vs7 fun v8 vs9 =>
  binC .lss .plain v8 v1 s4 fun v10 s11 =>
  condC v10 (ACall P n_codec_Reader_Bytes [dm x0, dm (.d (.int .i64 1024))] s11 fun v12 s13 =>
  ACall P n_codec_Reader_Err [dm x0] s13 fun v14 s15 =>
  binC .neq .plain v14 (.d (.int .i64 0)) s15 fun v16 s17 =>
  condC v16 (Z (consO (some (.exact [])) (some [])) s17) (ACall P n_request_Parse [dm v12] s17 fun v18 s19 =>
  extractC v18 0 s19 fun v20 s21 =>
  extractC v18 1 s21 fun v22 s23 =>
  allocC [(.d (.int .i64 0)), (.d (.int .i64 0)), (.d (.int .i64 0)), (.d (.str [])), (.d (.str [])), (.d (.int .i64 0)), (.exact [])] s23 fun v24 s25 =>
  storeC 7 v24 v20 s25 fun _ s27 =>
  ACall P n_codec_Reader_Fail [dm x0, dm v22] s27 fun v28 s29 =>
  loadC true 7 v24 s29 fun v30 s31 =>
  ACall P n_request_TakeSign [dm x0] s31 fun v32 s33 =>
  keepO v24 s31 s33 ∧ (buildC (fillV [(.d (.int .i64 0)), (.d (.int .i64 0)), (.d (.int .i64 0)), (.d (.str [])), (.d (.str [])), (.d (.int .i64 0)), (.exact []), (.d (.int .i64 0)), (.d (.int .i64 0))] [(0, 7, v30), (7, 2, v32)]) s33 fun v34 s35 =>
  mksliceC false 9 1 (fillV (rep [(.d (.int .i64 0)), (.d (.int .i64 0)), (.d (.int .i64 0)), (.d (.str [])), (.d (.str [])), (.d (.int .i64 0)), (.exact []), (.d (.int .i64 0)), (.d (.int .i64 0))] 1) [(0, 9, v34)]) s35 fun v36 s37 =>
  appendC 9 104 v6 v36 s37 fun v38 s39 =>
  binC .add .plain v8 (.d (.int .u64 1)) s39 fun v40 s41 =>
  again5 [v38, v40] s41))) ((fun (k42 : List AObj → Prop) => ACall P n_codec_Reader_Err [dm x0] s11 fun v48 s49 =>
  binC .eql .plain v48 (.d (.int .i64 0)) s49 fun v50 s51 =>
  condC v50 (ACall P n_request_CheckBatch [dm v6] s51 fun v52 s53 =>
  ACall P n_codec_Reader_Fail [dm x0, dm v52] s53 fun v54 s55 =>
  k42 s55) (k42 s51))
  (fun  s43 => ACall P n_codec_Reader_Err [dm x0] s43 fun v44 s45 =>
  binC .neq .plain v44 (.d (.int .i64 0)) s45 fun v46 s47 =>
  condC v46 (Z (consO (some (.exact [])) (some [])) s47) (Z (consO (some v6) (some [])) s47)))
theorem s_request_TakeBatch {P : Program} {x0 : AV} {σ : List AObj} {Z : Option (List AV) → List AObj → Prop} (h : S_request_TakeBatch P x0 σ Z) : awp P A_request_TakeBatch.body (AtEnd fun fr s => Z (resAs fr s A_request_TakeBatch.res) s) (slots0 0 [x0]) σ :=
  cast (by kernel_rfl) h
/-- (*bulla/codec.Reader).Err -/
def S_codec_Reader_Err (P : Program) (x0 : AV) (σ : List AObj) (Z : Option (List AV) → List AObj → Prop) : Prop :=
  binC .eql .ptr x0 (.d .nilp) σ fun v1 s2 =>
  guardC v1 false (fun k => k x0 s2) s2 (fun v3 s4 =>
  guardC v1 false (fun k => nilC v3 s4 k) s4 (fun v5 s6 =>
  guardC v1 false (fun k => faddrC 2 v5 s6 k) s6 (fun v7 s8 =>
  guardC v1 false (fun k => loadC false 1 v7 s8 k) s8 (fun v9 s10 =>
  guardC v1 false (fun k => unC .not v9 s10 k) s10 (fun v11 s12 =>
  pickC v1 (.d (.bool true)) v11 s12 fun v13 s14 =>
  condC v13 (Z (consO (some (.d (.int .i64 2))) (some [])) s14) (nilC x0 s14 fun v15 s16 =>
  faddrC 1 v15 s16 fun v17 s18 =>
  loadC false 1 v17 s18 fun v19 s20 =>
  Z (consO (some v19) (some [])) s20))))))
theorem s_codec_Reader_Err {P : Program} {x0 : AV} {σ : List AObj} {Z : Option (List AV) → List AObj → Prop} (h : S_codec_Reader_Err P x0 σ Z) : awp P A_codec_Reader_Err.body (AtEnd fun fr s => Z (resAs fr s A_codec_Reader_Err.res) s) (slots0 0 [x0]) σ :=
  cast (by kernel_rfl) h
end Go.Proofs.Ythmdpooklflkfaa
