/- The conditions of each function, its slots as variables, and that the logic's conditions are these. Printed by program. -/
import Derived.Test.YtahbjkanmagndaaAf2
set_option linter.all false
set_option maxRecDepth 100000
set_option linter.unusedVariables false
namespace Go.Proofs.Ytahbjkanmagndaa
open Go.AW
/-- bulla/op.Same -/
def S_op_Same (P : Program) (x0 x1 : AV) (σ : List AObj) (Z : Option (List AV) → List AObj → Prop) : Prop :=
  boxC x0 σ fun v1 s2 =>
  boxC x1 s2 fun v3 s4 =>
  faddrC 0 v1 s4 fun v5 s6 =>
  loadC false 1 v5 s6 fun v7 s8 =>
  faddrC 0 v3 s8 fun v9 s10 =>
  loadC false 1 v9 s10 fun v11 s12 =>
  binC .eql .plain v7 v11 s12 fun v13 s14 =>
  guardC v13 true (fun k => faddrC 1 v1 s14 k) s14 (fun v15 s16 =>
  guardC v13 true (fun k => loadC false 1 v15 s16 k) s16 (fun v17 s18 =>
  guardC v13 true (fun k => faddrC 1 v3 s18 k) s18 (fun v19 s20 =>
  guardC v13 true (fun k => loadC false 1 v19 s20 k) s20 (fun v21 s22 =>
  guardC v13 true (fun k => binC .eql .plain v17 v21 s22 k) s22 (fun v23 s24 =>
  pickC v13 v23 (.d (.bool false)) s24 fun v25 s26 =>
  guardC v25 true (fun k => faddrC 2 v1 s26 k) s26 (fun v27 s28 =>
  guardC v25 true (fun k => loadC false 1 v27 s28 k) s28 (fun v29 s30 =>
  guardC v25 true (fun k => faddrC 2 v3 s30 k) s30 (fun v31 s32 =>
  guardC v25 true (fun k => loadC false 1 v31 s32 k) s32 (fun v33 s34 =>
  guardC v25 true (fun k => binC .eql .plain v29 v33 s34 k) s34 (fun v35 s36 =>
  pickC v25 v35 (.d (.bool false)) s36 fun v37 s38 =>
  guardC v37 true (fun k => faddrC 3 v1 s38 k) s38 (fun v39 s40 =>
  guardC v37 true (fun k => loadC false 1 v39 s40 k) s40 (fun v41 s42 =>
  guardC v37 true (fun k => faddrC 3 v3 s42 k) s42 (fun v43 s44 =>
  guardC v37 true (fun k => loadC false 1 v43 s44 k) s44 (fun v45 s46 =>
  guardC v37 true (fun k => binC .eql .plain v41 v45 s46 k) s46 (fun v47 s48 =>
  pickC v37 v47 (.d (.bool false)) s48 fun v49 s50 =>
  guardC v49 true (fun k => faddrC 4 v1 s50 k) s50 (fun v51 s52 =>
  guardC v49 true (fun k => loadC false 1 v51 s52 k) s52 (fun v53 s54 =>
  guardC v49 true (fun k => faddrC 4 v3 s54 k) s54 (fun v55 s56 =>
  guardC v49 true (fun k => loadC false 1 v55 s56 k) s56 (fun v57 s58 =>
  guardC v49 true (fun k => ACall P n_slices_EqualFunc_api_Record_api_Record_api_Record_api_Record [dm v53, dm v57, dm (.fn (.func n_op_Same_1) [] [])] s58 k) s58 (fun v59 s60 =>
  pickC v49 v59 (.d (.bool false)) s60 fun v61 s62 =>
  Z (consO (some v61) (some [])) s62))))))))))))))))))))
theorem s_op_Same {P : Program} {x0 x1 : AV} {σ : List AObj} {Z : Option (List AV) → List AObj → Prop} (h : S_op_Same P x0 x1 σ Z) : awp P A_op_Same.body (AtEnd fun fr s => Z (resAs fr s A_op_Same.res) s) (slots0 0 [x0, x1]) σ :=
  cast (by kernel_rfl) h
/-- bulla/op.Clone -/
def Sm_op_Clone (P : Program) (x0 : AV) (σ : List AObj) (Z : Option (List AV) → List AObj → Prop) : Prop :=
  boxC x0 σ fun v1 s2 =>
  allocC [(.d (.int .i64 0)), (.d (.str [])), (.d (.str [])), (.d (.int .i64 0)), (.exact [])] s2 fun v3 s4 =>
  faddrC 4 v1 s4 fun v5 s6 =>
  loadC false 1 v5 s6 fun v7 s8 =>
  lenC .sl v7 s8 fun v9 s10 =>
  loopC [(.exact []), (.d (.int .i64 0))] s10 fun vs11 s12 again13 =>
  headC vs11 fun v14 vs15 =>
  headC vs15 fun v16 vs17 =>
  binC .lss .plain v16 v9 s12 fun v18 s19 =>
  condC v18 (iaddrC none 1 v7 v16 s19 fun v20 s21 =>
  loadC false 1 v20 s21 fun v22 s23 =>
  ACall P n_bytes_Clone [v22] s23 fun v24 s25 =>
  mksliceC true 1 1 (fillV (rep [(.exact [])] 1) [(0, 1, v24)]) s25 fun v26 s27 =>
  appendRC 1 24 v14 v26 s27 fun v28 s29 =>
  binC .add .plain v16 (.d (.int .i64 1)) s29 fun v30 s31 =>
  again13 [v28, v30] s31) (faddrC 4 v1 s19 fun v32 s33 =>
  storeC 1 v32 v14 s33 fun _ s35 =>
  loadC true 5 v1 s35 fun v36 s37 =>
  storeC 5 v3 v36 s37 fun _ s39 =>
  Z (consO (cellA v3 s39 true 5) (some [])) s39)
theorem sm_op_Clone {P : Program} {x0 : AV} {σ : List AObj} {Z : Option (List AV) → List AObj → Prop} (h : Sm_op_Clone P x0 σ Z) : awp P Am_op_Clone.body (AtEnd fun fr s => Z (resAs fr s Am_op_Clone.res) s) (slots0 0 [x0]) σ :=
  cast (by kernel_rfl) h
/-- bytes.Equal -/
def S_bytes_Equal (P : Program) (x0 x1 : AV) (σ : List AObj) (Z : Option (List AV) → List AObj → Prop) : Prop :=
  convC .toStr x0 σ fun v1 s2 =>
  convC .toStr x1 s2 fun v3 s4 =>
  binC .eql .plain v1 v3 s4 fun v5 s6 =>
  Z (consO (some v5) (some [])) s6
theorem s_bytes_Equal {P : Program} {x0 x1 : AV} {σ : List AObj} {Z : Option (List AV) → List AObj → Prop} (h : S_bytes_Equal P x0 x1 σ Z) : awp P A_bytes_Equal.body (AtEnd fun fr s => Z (resAs fr s A_bytes_Equal.res) s) (slots0 0 [x0, x1]) σ :=
  cast (by kernel_rfl) h
/-- bulla/op.Put -/
def S_op_Put (P : Program) (x0 x1 : AV) (σ : List AObj) (Z : Option (List AV) → List AObj → Prop) : Prop :=
  boxC x1 σ fun v1 s2 =>
  ACall P n_bytes_Clone [dm x0] s2 fun v3 s4 =>
  loadC true 5 v1 s4 fun v5 s6 =>
  ACall P n_op_Check [dm v5] s6 fun v7 s8 =>
  binC .neq .plain v7 (.d (.int .i64 0)) s8 fun v9 s10 =>
  condC v9 (Z (consO (some v3) (some [])) s10) (faddrC 0 v1 s10 fun v11 s12 =>
  loadC false 1 v11 s12 fun v13 s14 =>
  convC (.int .u64) v13 s14 fun v15 s16 =>
  ACall P n_codec_PutNum [dm v3, dm v15] s16 fun v17 s18 =>
  (fun (k19 : AV → List AObj → Prop) => faddrC 0 v1 s18 fun v92 s93 =>
  loadC false 1 v92 s93 fun v94 s95 =>
  binC .neq .plain v94 (.d (.int .i64 0)) s95 fun v96 s97 =>
  condC v96 (faddrC 1 v1 s97 fun v98 s99 =>
  loadC false 1 v98 s99 fun v100 s101 =>
  convC .toBytes v100 s101 fun v102 s103 =>
  ACall P n_codec_PutBytes [dm v17, dm v102] s103 fun v104 s105 =>
  k19 v104 s105) (k19 v17 s97))
  (fun v20 s21 => (fun (k22 : AV → List AObj → Prop) => faddrC 0 v1 s21 fun v25 s26 =>
  loadC false 1 v25 s26 fun v27 s28 =>
  binC .eql .plain v27 (.d (.int .i64 2)) s28 fun v29 s30 =>
  condC v29 (faddrC 4 v1 s30 fun v31 s32 =>
  loadC false 1 v31 s32 fun v33 s34 =>
  lenC .sl v33 s34 fun v35 s36 =>
  convC (.int .u64) v35 s36 fun v37 s38 =>
  ACall P n_codec_PutNum [dm v20, dm v37] s38 fun v39 s40 =>
  faddrC 4 v1 s40 fun v41 s42 =>
  loadC false 1 v41 s42 fun v43 s44 =>
  lenC .sl v43 s44 fun v45 s46 =>
  loopC [v39, (.d (.int .i64 0))] s46 fun vs47 s48 again49 =>
  headC vs47 fun v50 vs51 =>
  headC vs51 fun v52 vs53 =>
  binC .lss .plain v52 v45 s48 fun v54 s55 =>
  condC v54 (iaddrC none 1 v43 v52 s55 fun v56 s57 =>
  loadC false 1 v56 s57 fun v58 s59 =>
  ACall P n_codec_PutBytes [dm v50, dm v58] s59 fun v60 s61 =>
  binC .add .plain v52 (.d (.int .i64 1)) s61 fun v62 s63 =>
  again49 [v60, v62] s63) (k22 v50 s55)) (binC .eql .plain v27 (.d (.int .i64 3)) s30 fun v64 s65 =>
  condC v64 (faddrC 2 v1 s65 fun v66 s67 =>
  loadC false 1 v66 s67 fun v68 s69 =>
  convC .toBytes v68 s69 fun v70 s71 =>
  faddrC 3 v1 s71 fun v72 s73 =>
  loadC false 1 v72 s73 fun v74 s75 =>
  convC (.int .u64) v74 s75 fun v76 s77 =>
  ACall P n_codec_PutBytes [dm v20, dm v70] s77 fun v78 s79 =>
  keepO v72 s77 s79 ∧ (ACall P n_codec_PutNum [dm v78, dm v76] s79 fun v80 s81 =>
  k22 v80 s81)) (binC .eql .plain v27 (.d (.int .i64 4)) s65 fun v82 s83 =>
  condC v82 (faddrC 3 v1 s83 fun v84 s85 =>
  loadC false 1 v84 s85 fun v86 s87 =>
  convC (.int .u64) v86 s87 fun v88 s89 =>
  ACall P n_codec_PutNum [dm v20, dm v88] s89 fun v90 s91 =>
  k22 v90 s91) (k22 v20 s83))))
  (fun v23 s24 => Z (consO (some v23) (some [])) s24)))
theorem s_op_Put {P : Program} {x0 x1 : AV} {σ : List AObj} {Z : Option (List AV) → List AObj → Prop} (h : S_op_Put P x0 x1 σ Z) : awp P A_op_Put.body (AtEnd fun fr s => Z (resAs fr s A_op_Put.res) s) (slots0 0 [x0, x1]) σ :=
  cast (by kernel_rfl) h
/-- bulla/bullaref06.rune1 -/
def S_r06_rune1 (P : Program) (x0 : AV) (σ : List AObj) (Z : Option (List AV) → List AObj → Prop) : Prop :=
  idxSC x0 (.d (.int .i64 0)) σ fun v1 s2 =>
  ACall P n_r06_size [dm v1] s2 fun v3 s4 =>
  binC .eql .plain v3 (.d (.int .i64 0)) s4 fun v5 s6 =>
  guardC v5 false (fun k => k v3 s6) s6 (fun v7 s8 =>
  guardC v5 false (fun k => k x0 s8) s8 (fun v9 s10 =>
  guardC v5 false (fun k => lenC .str v9 s10 k) s10 (fun v11 s12 =>
  guardC v5 false (fun k => binC .gtr .plain v7 v11 s12 k) s12 (fun v13 s14 =>
  pickC v5 (.d (.bool true)) v13 s14 fun v15 s16 =>
  condC v15 (Z (consO (some (.d (.int .i64 0))) (consO (some (.d (.int .i64 0))) (some []))) s16) (binC .eql .plain v3 (.d (.int .i64 1)) s16 fun v17 s18 =>
  condC v17 (idxSC x0 (.d (.int .i64 0)) s18 fun v19 s20 =>
  convC (.int .i64) v19 s20 fun v21 s22 =>
  Z (consO (some v21) (consO (some (.d (.int .i64 1))) (some []))) s22) (idxSC x0 (.d (.int .i64 0)) s18 fun v23 s24 =>
  convC (.int .i64) v23 s24 fun v25 s26 =>
  binC .sub .plain (.d (.int .i64 7)) v3 s26 fun v27 s28 =>
  binC .shl .plain (.d (.int .i64 1)) v27 s28 fun v29 s30 =>
  binC .sub .plain v29 (.d (.int .i64 1)) s30 fun v31 s32 =>
  binC .and .plain v25 v31 s32 fun v33 s34 =>
  loopC [v33, (.d (.int .i64 1))] s34 fun vs35 s36 again37 =>
  headC vs35 fun v38 vs39 =>
  headC vs39 fun v40 vs41 =>
  binC .lss .plain v40 v3 s36 fun v42 s43 =>
  condC v42 (idxSC x0 v40 s43 fun v44 s45 =>
  binC .lss .plain v44 (.d (.int .u8 128)) s45 fun v46 s47 =>
  guardC v46 false (fun k => k x0 s47) s47 (fun v48 s49 =>
  guardC v46 false (fun k => k v40 s49) s49 (fun v50 s51 =>
  guardC v46 false (fun k => idxSC v48 v50 s51 k) s51 (fun v52 s53 =>
  guardC v46 false (fun k => binC .geq .plain v52 (.d (.int .u8 192)) s53 k) s53 (fun v54 s55 =>
  pickC v46 (.d (.bool true)) v54 s55 fun v56 s57 =>
  condC v56 (Z (consO (some (.d (.int .i64 0))) (consO (some (.d (.int .i64 0))) (some []))) s57) (binC .mul .plain v38 (.d (.int .i64 64)) s57 fun v58 s59 =>
  idxSC x0 v40 s59 fun v60 s61 =>
  convC (.int .i64) v60 s61 fun v62 s63 =>
  binC .rem .plain v62 (.d (.int .i64 64)) s63 fun v64 s65 =>
  binC .add .plain v58 v64 s65 fun v66 s67 =>
  binC .add .plain v40 (.d (.int .i64 1)) s67 fun v68 s69 =>
  again37 [v66, v68] s69)))))) (mksliceC false 1 5 (fillV (rep [(.d (.int .i64 0))] 5) [(0, 1, (.d (.int .i64 0))), (1, 1, (.d (.int .i64 0))), (2, 1, (.d (.int .i64 128))), (3, 1, (.d (.int .i64 2048))), (4, 1, (.d (.int .i64 65536)))]) s43 fun v70 s71 =>
  iaddrC none 1 v70 v3 s71 fun v72 s73 =>
  loadC false 1 v72 s73 fun v74 s75 =>
  binC .lss .plain v38 v74 s75 fun v76 s77 =>
  guardC v76 false (fun k => k v38 s77) s77 (fun v78 s79 =>
  guardC v76 false (fun k => binC .gtr .plain v78 (.d (.int .i64 1114111)) s79 k) s79 (fun v80 s81 =>
  pickC v76 (.d (.bool true)) v80 s81 fun v82 s83 =>
  guardC v82 false (fun k => k v38 s83) s83 (fun v84 s85 =>
  guardC v82 false (fun k => binC .geq .plain v84 (.d (.int .i64 55296)) s85 k) s85 (fun v86 s87 =>
  guardC v82 false (fun k => k v86 s87) s87 (fun v88 s89 =>
  guardC v88 true (fun k => k v38 s89) s89 (fun v90 s91 =>
  guardC v88 true (fun k => binC .lss .plain v90 (.d (.int .i64 57344)) s91 k) s91 (fun v92 s93 =>
  guardC v82 false (fun k => pickC v88 v92 (.d (.bool false)) s93 k) s93 (fun v94 s95 =>
  pickC v82 (.d (.bool true)) v94 s95 fun v96 s97 =>
  condC v96 (Z (consO (some (.d (.int .i64 0))) (consO (some (.d (.int .i64 0))) (some []))) s97) (Z (consO (some v38) (consO (some v3) (some []))) s97))))))))))))))))
theorem s_r06_rune1 {P : Program} {x0 : AV} {σ : List AObj} {Z : Option (List AV) → List AObj → Prop} (h : S_r06_rune1 P x0 σ Z) : awp P A_r06_rune1.body (AtEnd fun fr s => Z (resAs fr s A_r06_rune1.res) s) (slots0 0 [x0]) σ :=
  cast (by kernel_rfl) h
/-- bulla/op.only -/
def S_op_only (P : Program) (x0 : AV) (σ : List AObj) (Z : Option (List AV) → List AObj → Prop) : Prop :=
  boxC x0 σ fun v1 s2 =>
  allocC [(.d (.int .i64 0)), (.d (.str [])), (.d (.str [])), (.d (.int .i64 0)), (.exact [])] s2 fun v3 s4 =>
  faddrC 0 v1 s4 fun v5 s6 =>
  loadC false 1 v5 s6 fun v7 s8 =>
  buildC (fillV [(.d (.int .i64 0)), (.d (.str [])), (.d (.str [])), (.d (.int .i64 0)), (.exact [])] [(0, 1, v7)]) s8 fun v9 s10 =>
  allocC [(.d (.int .i64 0)), (.d (.str [])), (.d (.str [])), (.d (.int .i64 0)), (.exact [])] s10 fun v11 s12 =>
  storeC 5 v11 v9 s12 fun _ s14 =>
  (fun (k15 : List AObj → Prop) => faddrC 0 v1 s14 fun v21 s22 =>
  loadC false 1 v21 s22 fun v23 s24 =>
  binC .eql .plain v23 (.d (.int .i64 0)) s24 fun v25 s26 =>
  condC v25 (k15 s26) (binC .eql .plain v23 (.d (.int .i64 1)) s26 fun v27 s28 =>
  condC v27 (faddrC 1 v1 s28 fun v29 s30 =>
  loadC false 1 v29 s30 fun v31 s32 =>
  faddrC 1 v11 s32 fun v33 s34 =>
  storeC 1 v33 v31 s34 fun _ s36 =>
  k15 s36) (binC .eql .plain v23 (.d (.int .i64 2)) s28 fun v37 s38 =>
  condC v37 (faddrC 1 v1 s38 fun v39 s40 =>
  loadC false 1 v39 s40 fun v41 s42 =>
  faddrC 4 v1 s42 fun v43 s44 =>
  loadC false 1 v43 s44 fun v45 s46 =>
  faddrC 1 v11 s46 fun v47 s48 =>
  storeC 1 v47 v41 s48 fun _ s50 =>
  keepO v43 s48 s50 ∧ (faddrC 4 v11 s50 fun v51 s52 =>
  storeC 1 v51 v45 s52 fun _ s54 =>
  k15 s54)) (binC .eql .plain v23 (.d (.int .i64 3)) s38 fun v55 s56 =>
  condC v55 (faddrC 1 v1 s56 fun v57 s58 =>
  loadC false 1 v57 s58 fun v59 s60 =>
  faddrC 2 v1 s60 fun v61 s62 =>
  loadC false 1 v61 s62 fun v63 s64 =>
  faddrC 3 v1 s64 fun v65 s66 =>
  loadC false 1 v65 s66 fun v67 s68 =>
  faddrC 1 v11 s68 fun v69 s70 =>
  storeC 1 v69 v59 s70 fun _ s72 =>
  keepO v61 s70 s72 ∧ (keepO v65 s70 s72 ∧ (faddrC 2 v11 s72 fun v73 s74 =>
  storeC 1 v73 v63 s74 fun _ s76 =>
  keepO v65 s74 s76 ∧ (faddrC 3 v11 s76 fun v77 s78 =>
  storeC 1 v77 v67 s78 fun _ s80 =>
  k15 s80)))) (binC .eql .plain v23 (.d (.int .i64 4)) s56 fun v81 s82 =>
  condC v81 (faddrC 1 v1 s82 fun v83 s84 =>
  loadC false 1 v83 s84 fun v85 s86 =>
  faddrC 3 v1 s86 fun v87 s88 =>
  loadC false 1 v87 s88 fun v89 s90 =>
  faddrC 1 v11 s90 fun v91 s92 =>
  storeC 1 v91 v85 s92 fun _ s94 =>
  keepO v87 s92 s94 ∧ (faddrC 3 v11 s94 fun v95 s96 =>
  storeC 1 v95 v89 s96 fun _ s98 =>
  k15 s98)) (loadC true 5 v11 s82 fun v99 s100 =>
  storeC 5 v3 v99 s100 fun _ s102 =>
  Z (consO (cellA v3 s102 true 5) (consO (some (.d (.bool false))) (some []))) s102))))))
  (fun  s16 => loadC true 5 v11 s16 fun v17 s18 =>
  storeC 5 v3 v17 s18 fun _ s20 =>
  Z (consO (cellA v3 s20 true 5) (consO (some (.d (.bool true))) (some []))) s20)
theorem s_op_only {P : Program} {x0 : AV} {σ : List AObj} {Z : Option (List AV) → List AObj → Prop} (h : S_op_only P x0 σ Z) : awp P A_op_only.body (AtEnd fun fr s => Z (resAs fr s A_op_only.res) s) (slots0 0 [x0]) σ :=
  cast (by kernel_rfl) h
/-- bulla/op.Check$1 -/
def S_op_Check_1 (P : Program) (x0 : AV) (σ : List AObj) (Z : Option (List AV) → List AObj → Prop) : Prop :=
  lenC .sl x0 σ fun v1 s2 =>
  binC .gtr .plain v1 (.d (.int .i64 64)) s2 fun v3 s4 =>
  Z (consO (some v3) (some [])) s4
theorem s_op_Check_1 {P : Program} {x0 : AV} {σ : List AObj} {Z : Option (List AV) → List AObj → Prop} (h : S_op_Check_1 P x0 σ Z) : awp P A_op_Check_1.body (AtEnd fun fr s => Z (resAs fr s A_op_Check_1.res) s) (slots0 0 [x0]) σ :=
  cast (by kernel_rfl) h
/-- slices.ContainsFunc[[]bulla/api.Record,bulla/api.Record] -/
def S_slices_ContainsFunc_api_Record_api_Record (P : Program) (x0 x1 : AV) (σ : List AObj) (Z : Option (List AV) → List AObj → Prop) : Prop :=
  ACall P n_slices_IndexFunc_api_Record_api_Record [dm x0, dm x1] σ fun v1 s2 =>
  binC .geq .plain v1 (.d (.int .i64 0)) s2 fun v3 s4 =>
  Z (consO (some v3) (some [])) s4
theorem s_slices_ContainsFunc_api_Record_api_Record {P : Program} {x0 x1 : AV} {σ : List AObj} {Z : Option (List AV) → List AObj → Prop} (h : S_slices_ContainsFunc_api_Record_api_Record P x0 x1 σ Z) : awp P A_slices_ContainsFunc_api_Record_api_Record.body (AtEnd fun fr s => Z (resAs fr s A_slices_ContainsFunc_api_Record_api_Record.res) s) (slots0 0 [x0, x1]) σ :=
  cast (by kernel_rfl) h
/-- bulla/bullaref06.fields -/
def S_r06_fields (P : Program) (x0 : AV) (σ : List AObj) (Z : Option (List AV) → List AObj → Prop) : Prop :=
  binC .eql .plain x0 (.d (.int .i64 1)) σ fun v1 s2 =>
  condC v1 (Z (consO (some (.d (.bool true))) (consO (some (.d (.bool false))) (consO (some (.d (.bool false))) (consO (some (.d (.bool false))) (some []))))) s2) (binC .eql .plain x0 (.d (.int .i64 2)) s2 fun v3 s4 =>
  condC v3 (Z (consO (some (.d (.bool true))) (consO (some (.d (.bool false))) (consO (some (.d (.bool false))) (consO (some (.d (.bool true))) (some []))))) s4) (binC .eql .plain x0 (.d (.int .i64 3)) s4 fun v5 s6 =>
  condC v5 (Z (consO (some (.d (.bool true))) (consO (some (.d (.bool true))) (consO (some (.d (.bool true))) (consO (some (.d (.bool false))) (some []))))) s6) (binC .eql .plain x0 (.d (.int .i64 4)) s6 fun v7 s8 =>
  condC v7 (Z (consO (some (.d (.bool true))) (consO (some (.d (.bool false))) (consO (some (.d (.bool true))) (consO (some (.d (.bool false))) (some []))))) s8) (Z (consO (some (.d (.bool false))) (consO (some (.d (.bool false))) (consO (some (.d (.bool false))) (consO (some (.d (.bool false))) (some []))))) s8))))
theorem s_r06_fields {P : Program} {x0 : AV} {σ : List AObj} {Z : Option (List AV) → List AObj → Prop} (h : S_r06_fields P x0 σ Z) : awp P A_r06_fields.body (AtEnd fun fr s => Z (resAs fr s A_r06_fields.res) s) (slots0 0 [x0]) σ :=
  cast (by kernel_rfl) h
/-- slices.EqualFunc[[]bulla/api.Record,[]bulla/api.Record,bulla/api.Record,bulla/api.Record] -/
def S_slices_EqualFunc_api_Record_api_Record_api_Record_api_Record (P : Program) (x0 x1 x2 : AV) (σ : List AObj) (Z : Option (List AV) → List AObj → Prop) : Prop :=
  lenC .sl x0 σ fun v1 s2 =>
  lenC .sl x1 s2 fun v3 s4 =>
  binC .neq .plain v1 v3 s4 fun v5 s6 =>
  condC v5 (Z (consO (some (.d (.bool false))) (some [])) s6) (lenC .sl x0 s6 fun v7 s8 =>
  loopC [(.d (.int .i64 0))] s8 fun vs9 s10 again11 =>
  headC vs9 fun v12 vs13 =>
  binC .lss .plain v12 v7 s10 fun v14 s15 =>
  condC v14 (iaddrC none 1 x0 v12 s15 fun v16 s17 =>
  loadC false 1 v16 s17 fun v18 s19 =>
  iaddrC none 1 x1 v12 s19 fun v20 s21 =>
  loadC false 1 v20 s21 fun v22 s23 =>
  callvC P x2 [dm v18, dm v22] s23 fun v24 s25 =>
  unC .not v24 s25 fun v26 s27 =>
  condC v26 (Z (consO (some (.d (.bool false))) (some [])) s27) (binC .add .plain v12 (.d (.int .i64 1)) s27 fun v28 s29 =>
  again11 [v28] s29)) (Z (consO (some (.d (.bool true))) (some [])) s15))
theorem s_slices_EqualFunc_api_Record_api_Record_api_Record_api_Record {P : Program} {x0 x1 x2 : AV} {σ : List AObj} {Z : Option (List AV) → List AObj → Prop} (h : S_slices_EqualFunc_api_Record_api_Record_api_Record_api_Record P x0 x1 x2 σ Z) : awp P A_slices_EqualFunc_api_Record_api_Record_api_Record_api_Record.body (AtEnd fun fr s => Z (resAs fr s A_slices_EqualFunc_api_Record_api_Record_api_Record_api_Record.res) s) (slots0 0 [x0, x1, x2]) σ :=
  cast (by kernel_rfl) h
/-- bulla/op.Same$1 -/
def S_op_Same_1 (P : Program) (x0 x1 : AV) (σ : List AObj) (Z : Option (List AV) → List AObj → Prop) : Prop :=
  ACall P n_bytes_Equal [dm x0, dm x1] σ fun v1 s2 =>
  Z (consO (some v1) (some [])) s2
theorem s_op_Same_1 {P : Program} {x0 x1 : AV} {σ : List AObj} {Z : Option (List AV) → List AObj → Prop} (h : S_op_Same_1 P x0 x1 σ Z) : awp P A_op_Same_1.body (AtEnd fun fr s => Z (resAs fr s A_op_Same_1.res) s) (slots0 0 [x0, x1]) σ :=
  cast (by kernel_rfl) h
/-- bytes.Clone -/
def S_bytes_Clone (P : Program) (x0 : AV) (σ : List AObj) (Z : Option (List AV) → List AObj → Prop) : Prop :=
  isnilC false x0 σ fun v1 s2 =>
  condC v1 (Z (consO (some (.exact [])) (some [])) s2) (mksliceC false 1 0 (fillV (rep [(.d (.int .u8 0))] 0) []) s2 fun v3 s4 =>
  appendC 1 1 v3 x0 s4 fun v5 s6 =>
  Z (consO (some v5) (some [])) s6)
theorem s_bytes_Clone {P : Program} {x0 : AV} {σ : List AObj} {Z : Option (List AV) → List AObj → Prop} (h : S_bytes_Clone P x0 σ Z) : awp P A_bytes_Clone.body (AtEnd fun fr s => Z (resAs fr s A_bytes_Clone.res) s) (slots0 0 [x0]) σ :=
  cast (by kernel_rfl) h
/-- bytes.Clone -/
def Sm_bytes_Clone (P : Program) (x0 : AV) (σ : List AObj) (Z : Option (List AV) → List AObj → Prop) : Prop :=
  isnilC false x0 σ fun v1 s2 =>
  condC v1 (Z (consO (some (.exact [])) (some [])) s2) (mksliceC true 1 0 (fillV (rep [(.d (.int .u8 0))] 0) []) s2 fun v3 s4 =>
  appendRC 1 1 v3 x0 s4 fun v5 s6 =>
  Z (consO (some v5) (some [])) s6)
theorem sm_bytes_Clone {P : Program} {x0 : AV} {σ : List AObj} {Z : Option (List AV) → List AObj → Prop} (h : Sm_bytes_Clone P x0 σ Z) : awp P Am_bytes_Clone.body (AtEnd fun fr s => Z (resAs fr s Am_bytes_Clone.res) s) (slots0 0 [x0]) σ :=
  cast (by kernel_rfl) h
/-- bulla/codec.PutNum -/
def S_codec_PutNum (P : Program) (x0 x1 : AV) (σ : List AObj) (Z : Option (List AV) → List AObj → Prop) : Prop :=
  ACall P n_codec_form [dm x1] σ fun v1 s2 =>
  extractC v1 0 s2 fun v3 s4 =>
  extractC v1 1 s4 fun v5 s6 =>
  allocC [(.d (.int .u8 0)), (.d (.int .u8 0)), (.d (.int .u8 0)), (.d (.int .u8 0)), (.d (.int .u8 0)), (.d (.int .u8 0)), (.d (.int .u8 0)), (.d (.int .u8 0)), (.d (.int .u8 0)), (.d (.int .u8 0))] s6 fun v7 s8 =>
  storeC 10 v7 v3 s8 fun _ s10 =>
  slcC (.arr 10 1) v7 none (some v5) none s10 fun v11 s12 =>
  ACall P n_slices_Clip_byte_byte [dm x0] s12 fun v13 s14 =>
  appendC 1 1 v13 v11 s14 fun v15 s16 =>
  Z (consO (some v15) (some [])) s16
theorem s_codec_PutNum {P : Program} {x0 x1 : AV} {σ : List AObj} {Z : Option (List AV) → List AObj → Prop} (h : S_codec_PutNum P x0 x1 σ Z) : awp P A_codec_PutNum.body (AtEnd fun fr s => Z (resAs fr s A_codec_PutNum.res) s) (slots0 0 [x0, x1]) σ :=
  cast (by kernel_rfl) h
/-- bulla/codec.PutBytes -/
def S_codec_PutBytes (P : Program) (x0 x1 : AV) (σ : List AObj) (Z : Option (List AV) → List AObj → Prop) : Prop :=
  lenC .sl x1 σ fun v1 s2 =>
  convC (.int .u64) v1 s2 fun v3 s4 =>
  ACall P n_codec_PutNum [dm x0, dm v3] s4 fun v5 s6 =>
  appendC 1 1 v5 x1 s6 fun v7 s8 =>
  Z (consO (some v7) (some [])) s8
theorem s_codec_PutBytes {P : Program} {x0 x1 : AV} {σ : List AObj} {Z : Option (List AV) → List AObj → Prop} (h : S_codec_PutBytes P x0 x1 σ Z) : awp P A_codec_PutBytes.body (AtEnd fun fr s => Z (resAs fr s A_codec_PutBytes.res) s) (slots0 0 [x0, x1]) σ :=
  cast (by kernel_rfl) h
end Go.Proofs.Ytahbjkanmagndaa
