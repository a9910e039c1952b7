/- The conditions of each function, its slots as variables, and that the logic's conditions are these. Printed by program. -/
import Derived.Test.YthmdpooklflkfaaAf1
set_option linter.all false
set_option maxRecDepth 100000
set_option linter.unusedVariables false
namespace Go.Proofs.Ythmdpooklflkfaa
open Go.AW
/-- bulla/bullalaw08.RequestChecks -/
def Sm_l08_RequestChecks (P : Program) (x0 x1 x2 x3 : AV) (σ : List AObj) (Z : Option (List AV) → List AObj → Prop) : Prop :=
  boxC x0 σ fun v1 s2 =>
  boxC x1 s2 fun v3 s4 =>
  ACall P n_l08_begun [] s4 fun v5 s6 =>
  unC .not v5 s6 fun v7 s8 =>
  guardC v7 false (fun k => loadC true 7 v1 s8 k) s8 (fun v9 s10 =>
  guardC v7 false (fun k => loadC true 7 v1 s10 k) s10 (fun v11 s12 =>
  guardC v7 false (fun k => ACall P n_request_Check [v9] s12 k) s12 (fun v13 s14 =>
  keepO v1 s12 s14 ∧ (guardC v7 false (fun k => ACall P n_r08_Check [v11] s14 k) s14 (fun v15 s16 =>
  guardC v7 false (fun k => binC .neq .plain v13 v15 s16 k) s16 (fun v17 s18 =>
  pickC v7 (.d (.bool true)) v17 s18 fun v19 s20 =>
  guardC v19 false (fun k => loadC true 2 v3 s20 k) s20 (fun v21 s22 =>
  guardC v19 false (fun k => loadC true 2 v3 s22 k) s22 (fun v23 s24 =>
  guardC v19 false (fun k => ACall P n_request_CheckSign [v21] s24 k) s24 (fun v25 s26 =>
  keepO v3 s24 s26 ∧ (guardC v19 false (fun k => ACall P n_r08_CheckSign [v23] s26 k) s26 (fun v27 s28 =>
  guardC v19 false (fun k => binC .neq .plain v25 v27 s28 k) s28 (fun v29 s30 =>
  pickC v19 (.d (.bool true)) v29 s30 fun v31 s32 =>
  guardC v31 false (fun k => k x2 s32) s32 (fun v33 s34 =>
  guardC v31 false (fun k => k x2 s34) s34 (fun v35 s36 =>
  guardC v31 false (fun k => ACall P n_request_CheckBatch [v33] s36 k) s36 (fun v37 s38 =>
  guardC v31 false (fun k => ACall P n_r08_CheckBatch [v35] s38 k) s38 (fun v39 s40 =>
  guardC v31 false (fun k => binC .neq .plain v37 v39 s40 k) s40 (fun v41 s42 =>
  pickC v31 (.d (.bool true)) v41 s42 fun v43 s44 =>
  guardC v43 false (fun k => faddrC 0 v1 s44 k) s44 (fun v45 s46 =>
  guardC v43 false (fun k => loadC false 1 v45 s46 k) s46 (fun v47 s48 =>
  guardC v43 false (fun k => faddrC 0 v1 s48 k) s48 (fun v49 s50 =>
  guardC v43 false (fun k => loadC false 1 v49 s50 k) s50 (fun v51 s52 =>
  guardC v43 false (fun k => ACall P n_request_Key [v47] s52 k) s52 (fun v53 s54 =>
  keepO v49 s52 s54 ∧ (guardC v43 false (fun k => ACall P n_r08_Key [v51] s54 k) s54 (fun v55 s56 =>
  guardC v43 false (fun k => binC .neq .plain v53 v55 s56 k) s56 (fun v57 s58 =>
  pickC v43 (.d (.bool true)) v57 s58 fun v59 s60 =>
  condC v59 (Z (consO (some (.d (.bool false))) (some [])) s60) (ACall P n_request_Same [x2, x3] s60 fun v61 s62 =>
  ACall P n_r08_Same [x2, x3] s62 fun v63 s64 =>
  binC .neq .bool v61 v63 s64 fun v65 s66 =>
  guardC v65 false (fun k => k x2 s66) s66 (fun v67 s68 =>
  guardC v65 false (fun k => k x2 s68) s68 (fun v69 s70 =>
  guardC v65 false (fun k => ACall P n_request_Same [v67, v69] s70 k) s70 (fun v71 s72 =>
  guardC v65 false (fun k => unC .not v71 s72 k) s72 (fun v73 s74 =>
  pickC v65 (.d (.bool true)) v73 s74 fun v75 s76 =>
  condC v75 (Z (consO (some (.d (.bool false))) (some [])) s76) (ACall P n_request_Clone [x2] s76 fun v77 s78 =>
  ACall P n_r08_Same [x2, v77] s78 fun v79 s80 =>
  unC .not v79 s80 fun v81 s82 =>
  condC v81 (Z (consO (some (.d (.bool false))) (some [])) s82) (lenC .sl v77 s82 fun v83 s84 =>
  loopC [(.d (.int .i64 0))] s84 fun vs85 s86 again87 =>
  headC vs85 fun v88 vs89 =>
  binC .lss .plain v88 v83 s86 fun v90 s91 =>
  condC v90 (iaddrC none 9 v77 v88 s91 fun v92 s93 =>
  faddrC 0 v92 s93 fun v94 s95 =>
  faddrC 2 v94 s95 fun v96 s97 =>
  faddrC 4 v96 s97 fun v98 s99 =>
  loadC false 1 v98 s99 fun v100 s101 =>
  lenC .sl v100 s101 fun v102 s103 =>
  loopC [(.d (.int .i64 0))] s103 fun vs104 s105 again106 =>
  headC vs104 fun v107 vs108 =>
  binC .lss .plain v107 v102 s105 fun v109 s110 =>
  condC v109 (iaddrC none 1 v100 v107 s110 fun v111 s112 =>
  loadC false 1 v111 s112 fun v113 s114 =>
  lenC .sl v113 s114 fun v115 s116 =>
  loopC [(.d (.int .i64 0))] s116 fun vs117 s118 again119 =>
  headC vs117 fun v120 vs121 =>
  binC .lss .plain v120 v115 s118 fun v122 s123 =>
  condC v122 (iaddrC none 1 v113 v120 s123 fun v124 s125 =>
  loadC false 1 v124 s125 fun v126 s127 =>
  binC .add .plain v126 (.d (.int .u8 1)) s127 fun v128 s129 =>
  iaddrC none 1 v113 v120 s129 fun v130 s131 =>
  storeC 1 v130 v128 s131 fun _ s133 =>
  binC .add .plain v120 (.d (.int .i64 1)) s133 fun v134 s135 =>
  again119 [v134] s135) (binC .add .plain v107 (.d (.int .i64 1)) s123 fun v136 s137 =>
  again106 [v136] s137)) (iaddrC none 9 v77 v88 s110 fun v138 s139 =>
  faddrC 0 v138 s139 fun v140 s141 =>
  faddrC 1 v140 s141 fun v142 s143 =>
  loadC false 1 v142 s143 fun v144 s145 =>
  binC .add .plain v144 (.d (.int .i64 1)) s145 fun v146 s147 =>
  iaddrC none 9 v77 v88 s147 fun v148 s149 =>
  faddrC 0 v148 s149 fun v150 s151 =>
  faddrC 1 v150 s151 fun v152 s153 =>
  storeC 1 v152 v146 s153 fun _ s155 =>
  binC .add .plain v88 (.d (.int .i64 1)) s155 fun v156 s157 =>
  again87 [v156] s157)) (ACall P n_request_Clone [x2] s91 fun v158 s159 =>
  ACall P n_r08_Same [x2, v158] s159 fun v160 s161 =>
  Z (consO (some v160) (some [])) s161)))))))))))))))))))))))))))))))))
theorem sm_l08_RequestChecks {P : Program} {x0 x1 x2 x3 : AV} {σ : List AObj} {Z : Option (List AV) → List AObj → Prop} (h : Sm_l08_RequestChecks P x0 x1 x2 x3 σ Z) : awp P Am_l08_RequestChecks.body (AtEnd fun fr s => Z (resAs fr s Am_l08_RequestChecks.res) s) (slots0 0 [x0, x1, x2, x3]) σ :=
  cast (by kernel_rfl) h
/-- bulla/bullalaw08.begun -/
def S_l08_begun (P : Program) (σ : List AObj) (Z : Option (List AV) → List AObj → Prop) : Prop :=
  ACall P n_ideal_NewTable [] σ fun v1 s2 =>
  ACall P n_ideal_NewLedger [] s2 fun v3 s4 =>
  ACall P n_l08_create [] s4 fun v5 s6 =>
  ACall P n_request_Seal [dm v1, dm v3, dm v5] s6 fun v7 s8 =>
  extractC v7 0 s8 fun v9 s10 =>
  extractC v7 1 s10 fun v11 s12 =>
  allocC [(.d (.int .i64 0)), (.d (.int .i64 0)), (.d (.int .i64 0)), (.d (.str [])), (.d (.str [])), (.d (.int .i64 0)), (.exact []), (.d (.int .i64 0)), (.d (.int .i64 0))] s12 fun v13 s14 =>
  storeC 9 v13 v9 s14 fun _ s16 =>
  loadC true 9 v13 s16 fun v17 s18 =>
  allocC [(.d (.int .i64 0)), (.d (.int .i64 0)), (.d (.int .i64 0)), (.d (.str [])), (.d (.str [])), (.d (.int .i64 0)), (.exact []), (.d (.int .i64 0)), (.d (.int .i64 0))] s18 fun v19 s20 =>
  storeC 9 v19 v17 s20 fun _ s22 =>
  faddrC 0 v19 s22 fun v23 s24 =>
  faddrC 0 v23 s24 fun v25 s26 =>
  storeC 1 v25 (.d (.int .i64 3)) s26 fun _ s28 =>
  binC .eql .plain v11 (.d (.int .i64 0)) s28 fun v29 s30 =>
  guardC v29 true (fun k => faddrC 7 v13 s30 k) s30 (fun v31 s32 =>
  guardC v29 true (fun k => loadC true 2 v31 s32 k) s32 (fun v33 s34 =>
  guardC v29 true (fun k => buildC (fillV [(.d (.int .i64 0)), (.d (.int .i64 0))] [(0, 1, (.d (.int .i64 15))), (1, 1, (.d (.int .i64 1)))]) s34 k) s34 (fun v35 s36 =>
  guardC v29 true (fun k => binC .eql (.ints 2) v33 v35 s36 k) s36 (fun v37 s38 =>
  pickC v29 v37 (.d (.bool false)) s38 fun v39 s40 =>
  guardC v39 true (fun k => k v1 s40) s40 (fun v41 s42 =>
  guardC v39 true (fun k => k v3 s42) s42 (fun v43 s44 =>
  guardC v39 true (fun k => loadC true 9 v13 s44 k) s44 (fun v45 s46 =>
  guardC v39 true (fun k => ACall P n_request_Valid [dm v41, dm v43, dm v45] s46 k) s46 (fun v47 s48 =>
  pickC v39 v47 (.d (.bool false)) s48 fun v49 s50 =>
  guardC v49 true (fun k => k v1 s50) s50 (fun v51 s52 =>
  guardC v49 true (fun k => k v3 s52) s52 (fun v53 s54 =>
  guardC v49 true (fun k => loadC true 9 v19 s54 k) s54 (fun v55 s56 =>
  guardC v49 true (fun k => ACall P n_request_Valid [dm v51, dm v53, dm v55] s56 k) s56 (fun v57 s58 =>
  guardC v49 true (fun k => unC .not v57 s58 k) s58 (fun v59 s60 =>
  pickC v49 v59 (.d (.bool false)) s60 fun v61 s62 =>
  Z (consO (some v61) (some [])) s62)))))))))))))
theorem s_l08_begun {P : Program} {σ : List AObj} {Z : Option (List AV) → List AObj → Prop} (h : S_l08_begun P  σ Z) : awp P A_l08_begun.body (AtEnd fun fr s => Z (resAs fr s A_l08_begun.res) s) (slots0 0 []) σ :=
  cast (by kernel_rfl) h
/-- bulla/request.Check -/
def S_request_Check (P : Program) (x0 : AV) (σ : List AObj) (Z : Option (List AV) → List AObj → Prop) : Prop :=
  boxC x0 σ fun v1 s2 =>
  faddrC 0 v1 s2 fun v3 s4 =>
  loadC false 1 v3 s4 fun v5 s6 =>
  binC .lss .plain v5 (.d (.int .i64 0)) s6 fun v7 s8 =>
  guardC v7 false (fun k => faddrC 0 v1 s8 k) s8 (fun v9 s10 =>
  guardC v7 false (fun k => loadC false 1 v9 s10 k) s10 (fun v11 s12 =>
  guardC v7 false (fun k => binC .geq .plain v11 (.d (.int .i64 8)) s12 k) s12 (fun v13 s14 =>
  pickC v7 (.d (.bool true)) v13 s14 fun v15 s16 =>
  guardC v15 false (fun k => faddrC 1 v1 s16 k) s16 (fun v17 s18 =>
  guardC v15 false (fun k => loadC false 1 v17 s18 k) s18 (fun v19 s20 =>
  guardC v15 false (fun k => binC .lss .plain v19 (.d (.int .i64 1)) s20 k) s20 (fun v21 s22 =>
  pickC v15 (.d (.bool true)) v21 s22 fun v23 s24 =>
  guardC v23 false (fun k => faddrC 1 v1 s24 k) s24 (fun v25 s26 =>
  guardC v23 false (fun k => loadC false 1 v25 s26 k) s26 (fun v27 s28 =>
  guardC v23 false (fun k => binC .gtr .plain v27 (.d (.int .i64 9007199254740992)) s28 k) s28 (fun v29 s30 =>
  pickC v23 (.d (.bool true)) v29 s30 fun v31 s32 =>
  condC v31 (Z (consO (some (.d (.int .i64 80))) (some [])) s32) (faddrC 2 v1 s32 fun v33 s34 =>
  loadC true 5 v33 s34 fun v35 s36 =>
  ACall P n_op_Check [dm v35] s36 fun v37 s38 =>
  Z (consO (some v37) (some [])) s38))))))))))
theorem s_request_Check {P : Program} {x0 : AV} {σ : List AObj} {Z : Option (List AV) → List AObj → Prop} (h : S_request_Check P x0 σ Z) : awp P A_request_Check.body (AtEnd fun fr s => Z (resAs fr s A_request_Check.res) s) (slots0 0 [x0]) σ :=
  cast (by kernel_rfl) h
/-- bulla/bullaref08.Check -/
def S_r08_Check (P : Program) (x0 : AV) (σ : List AObj) (Z : Option (List AV) → List AObj → Prop) : Prop :=
  boxC x0 σ fun v1 s2 =>
  faddrC 0 v1 s2 fun v3 s4 =>
  loadC false 1 v3 s4 fun v5 s6 =>
  ACall P n_r08_Key [dm v5] s6 fun v7 s8 =>
  binC .lss .plain v7 (.d (.int .i64 0)) s8 fun v9 s10 =>
  guardC v9 false (fun k => faddrC 1 v1 s10 k) s10 (fun v11 s12 =>
  guardC v9 false (fun k => loadC false 1 v11 s12 k) s12 (fun v13 s14 =>
  guardC v9 false (fun k => binC .lss .plain v13 (.d (.int .i64 1)) s14 k) s14 (fun v15 s16 =>
  pickC v9 (.d (.bool true)) v15 s16 fun v17 s18 =>
  guardC v17 false (fun k => faddrC 1 v1 s18 k) s18 (fun v19 s20 =>
  guardC v17 false (fun k => loadC false 1 v19 s20 k) s20 (fun v21 s22 =>
  guardC v17 false (fun k => binC .gtr .plain v21 (.d (.int .i64 9007199254740992)) s22 k) s22 (fun v23 s24 =>
  pickC v17 (.d (.bool true)) v23 s24 fun v25 s26 =>
  condC v25 (Z (consO (some (.d (.int .i64 80))) (some [])) s26) (faddrC 2 v1 s26 fun v27 s28 =>
  loadC true 5 v27 s28 fun v29 s30 =>
  ACall P n_r06_Check [dm v29] s30 fun v31 s32 =>
  Z (consO (some v31) (some [])) s32)))))))
theorem s_r08_Check {P : Program} {x0 : AV} {σ : List AObj} {Z : Option (List AV) → List AObj → Prop} (h : S_r08_Check P x0 σ Z) : awp P A_r08_Check.body (AtEnd fun fr s => Z (resAs fr s A_r08_Check.res) s) (slots0 0 [x0]) σ :=
  cast (by kernel_rfl) h
/-- bulla/request.CheckSign -/
def S_request_CheckSign (P : Program) (x0 : AV) (σ : List AObj) (Z : Option (List AV) → List AObj → Prop) : Prop :=
  boxC x0 σ fun v1 s2 =>
  faddrC 0 v1 s2 fun v3 s4 =>
  loadC false 1 v3 s4 fun v5 s6 =>
  binC .lss .plain v5 (.d (.int .i64 0)) s6 fun v7 s8 =>
  guardC v7 false (fun k => faddrC 0 v1 s8 k) s8 (fun v9 s10 =>
  guardC v7 false (fun k => loadC false 1 v9 s10 k) s10 (fun v11 s12 =>
  guardC v7 false (fun k => binC .geq .plain v11 (.d (.int .i64 21)) s12 k) s12 (fun v13 s14 =>
  pickC v7 (.d (.bool true)) v13 s14 fun v15 s16 =>
  guardC v15 false (fun k => faddrC 1 v1 s16 k) s16 (fun v17 s18 =>
  guardC v15 false (fun k => loadC false 1 v17 s18 k) s18 (fun v19 s20 =>
  guardC v15 false (fun k => binC .lss .plain v19 (.d (.int .i64 1)) s20 k) s20 (fun v21 s22 =>
  pickC v15 (.d (.bool true)) v21 s22 fun v23 s24 =>
  guardC v23 false (fun k => faddrC 1 v1 s24 k) s24 (fun v25 s26 =>
  guardC v23 false (fun k => loadC false 1 v25 s26 k) s26 (fun v27 s28 =>
  guardC v23 false (fun k => binC .gtr .plain v27 (.d (.int .i64 9007199254740992)) s28 k) s28 (fun v29 s30 =>
  pickC v23 (.d (.bool true)) v29 s30 fun v31 s32 =>
  condC v31 (Z (consO (some (.d (.int .i64 81))) (some [])) s32) (Z (consO (some (.d (.int .i64 0))) (some [])) s32))))))))))
theorem s_request_CheckSign {P : Program} {x0 : AV} {σ : List AObj} {Z : Option (List AV) → List AObj → Prop} (h : S_request_CheckSign P x0 σ Z) : awp P A_request_CheckSign.body (AtEnd fun fr s => Z (resAs fr s A_request_CheckSign.res) s) (slots0 0 [x0]) σ :=
  cast (by kernel_rfl) h
/-- bulla/bullaref08.CheckSign -/
def S_r08_CheckSign (P : Program) (x0 : AV) (σ : List AObj) (Z : Option (List AV) → List AObj → Prop) : Prop :=
  boxC x0 σ fun v1 s2 =>
  faddrC 0 v1 s2 fun v3 s4 =>
  loadC false 1 v3 s4 fun v5 s6 =>
  binC .lss .plain v5 (.d (.int .i64 0)) s6 fun v7 s8 =>
  guardC v7 false (fun k => faddrC 0 v1 s8 k) s8 (fun v9 s10 =>
  guardC v7 false (fun k => loadC false 1 v9 s10 k) s10 (fun v11 s12 =>
  guardC v7 false (fun k => binC .geq .plain v11 (.d (.int .i64 21)) s12 k) s12 (fun v13 s14 =>
  pickC v7 (.d (.bool true)) v13 s14 fun v15 s16 =>
  guardC v15 false (fun k => faddrC 1 v1 s16 k) s16 (fun v17 s18 =>
  guardC v15 false (fun k => loadC false 1 v17 s18 k) s18 (fun v19 s20 =>
  guardC v15 false (fun k => binC .lss .plain v19 (.d (.int .i64 1)) s20 k) s20 (fun v21 s22 =>
  pickC v15 (.d (.bool true)) v21 s22 fun v23 s24 =>
  guardC v23 false (fun k => faddrC 1 v1 s24 k) s24 (fun v25 s26 =>
  guardC v23 false (fun k => loadC false 1 v25 s26 k) s26 (fun v27 s28 =>
  guardC v23 false (fun k => binC .gtr .plain v27 (.d (.int .i64 9007199254740992)) s28 k) s28 (fun v29 s30 =>
  pickC v23 (.d (.bool true)) v29 s30 fun v31 s32 =>
  condC v31 (Z (consO (some (.d (.int .i64 81))) (some [])) s32) (Z (consO (some (.d (.int .i64 0))) (some [])) s32))))))))))
theorem s_r08_CheckSign {P : Program} {x0 : AV} {σ : List AObj} {Z : Option (List AV) → List AObj → Prop} (h : S_r08_CheckSign P x0 σ Z) : awp P A_r08_CheckSign.body (AtEnd fun fr s => Z (resAs fr s A_r08_CheckSign.res) s) (slots0 0 [x0]) σ :=
  cast (by kernel_rfl) h
/-- bulla/request.CheckBatch -/
def S_request_CheckBatch (P : Program) (x0 : AV) (σ : List AObj) (Z : Option (List AV) → List AObj → Prop) : Prop :=
  lenC .sl x0 σ fun v1 s2 =>
  binC .gtr .plain v1 (.d (.int .i64 4)) s2 fun v3 s4 =>
  condC v3 (Z (consO (some (.d (.int .i64 3))) (some [])) s4) (lenC .sl x0 s4 fun v5 s6 =>
  loopC [(.d (.int .i64 0))] s6 fun vs7 s8 again9 =>
  headC vs7 fun v10 vs11 =>
  binC .lss .plain v10 v5 s8 fun v12 s13 =>
  condC v12 (iaddrC none 9 x0 v10 s13 fun v14 s15 =>
  loadC true 9 v14 s15 fun v16 s17 =>
  allocC [(.d (.int .i64 0)), (.d (.int .i64 0)), (.d (.int .i64 0)), (.d (.str [])), (.d (.str [])), (.d (.int .i64 0)), (.exact []), (.d (.int .i64 0)), (.d (.int .i64 0))] s17 fun v18 s19 =>
  storeC 9 v18 v16 s19 fun _ s21 =>
  faddrC 0 v18 s21 fun v22 s23 =>
  loadC true 7 v22 s23 fun v24 s25 =>
  ACall P n_request_Check [dm v24] s25 fun v26 s27 =>
  binC .neq .plain v26 (.d (.int .i64 0)) s27 fun v28 s29 =>
  condC v28 (Z (consO (some v26) (some [])) s29) (faddrC 7 v18 s29 fun v30 s31 =>
  loadC true 2 v30 s31 fun v32 s33 =>
  ACall P n_request_CheckSign [dm v32] s33 fun v34 s35 =>
  binC .neq .plain v34 (.d (.int .i64 0)) s35 fun v36 s37 =>
  condC v36 (Z (consO (some v34) (some [])) s37) (binC .add .plain v10 (.d (.int .i64 1)) s37 fun v38 s39 =>
  again9 [v38] s39))) (lenC .sl x0 s13 fun v40 s41 =>
  loopC [(.d (.int .i64 0))] s41 fun vs42 s43 again44 =>
  headC vs42 fun v45 vs46 =>
  binC .lss .plain v45 v40 s43 fun v47 s48 =>
  condC v47 (iaddrC none 9 x0 v45 s48 fun v49 s50 =>
  loadC true 9 v49 s50 fun v51 s52 =>
  allocC [(.d (.int .i64 0)), (.d (.int .i64 0)), (.d (.int .i64 0)), (.d (.str [])), (.d (.str [])), (.d (.int .i64 0)), (.exact []), (.d (.int .i64 0)), (.d (.int .i64 0))] s52 fun v53 s54 =>
  storeC 9 v53 v51 s54 fun _ s56 =>
  slcC (.sl 9) x0 none (some v45) none s56 fun v57 s58 =>
  lenC .sl v57 s58 fun v59 s60 =>
  loopC [(.d (.int .i64 0))] s60 fun vs61 s62 again63 =>
  headC vs61 fun v64 vs65 =>
  binC .lss .plain v64 v59 s62 fun v66 s67 =>
  condC v66 (iaddrC none 9 v57 v64 s67 fun v68 s69 =>
  loadC true 9 v68 s69 fun v70 s71 =>
  allocC [(.d (.int .i64 0)), (.d (.int .i64 0)), (.d (.int .i64 0)), (.d (.str [])), (.d (.str [])), (.d (.int .i64 0)), (.exact []), (.d (.int .i64 0)), (.d (.int .i64 0))] s71 fun v72 s73 =>
  storeC 9 v72 v70 s73 fun _ s75 =>
  faddrC 0 v53 s75 fun v76 s77 =>
  faddrC 0 v76 s77 fun v78 s79 =>
  loadC false 1 v78 s79 fun v80 s81 =>
  faddrC 0 v72 s81 fun v82 s83 =>
  faddrC 0 v82 s83 fun v84 s85 =>
  loadC false 1 v84 s85 fun v86 s87 =>
  binC .eql .plain v80 v86 s87 fun v88 s89 =>
  guardC v88 true (fun k => faddrC 0 v53 s89 k) s89 (fun v90 s91 =>
  guardC v88 true (fun k => faddrC 1 v90 s91 k) s91 (fun v92 s93 =>
  guardC v88 true (fun k => loadC false 1 v92 s93 k) s93 (fun v94 s95 =>
  guardC v88 true (fun k => faddrC 0 v72 s95 k) s95 (fun v96 s97 =>
  guardC v88 true (fun k => faddrC 1 v96 s97 k) s97 (fun v98 s99 =>
  guardC v88 true (fun k => loadC false 1 v98 s99 k) s99 (fun v100 s101 =>
  guardC v88 true (fun k => binC .eql .plain v94 v100 s101 k) s101 (fun v102 s103 =>
  pickC v88 v102 (.d (.bool false)) s103 fun v104 s105 =>
  condC v104 (Z (consO (some (.d (.int .i64 5))) (some [])) s105) (binC .add .plain v64 (.d (.int .i64 1)) s105 fun v106 s107 =>
  again63 [v106] s107))))))))) (binC .add .plain v45 (.d (.int .i64 1)) s67 fun v108 s109 =>
  again44 [v108] s109)) (Z (consO (some (.d (.int .i64 0))) (some [])) s48)))
theorem s_request_CheckBatch {P : Program} {x0 : AV} {σ : List AObj} {Z : Option (List AV) → List AObj → Prop} (h : S_request_CheckBatch P x0 σ Z) : awp P A_request_CheckBatch.body (AtEnd fun fr s => Z (resAs fr s A_request_CheckBatch.res) s) (slots0 0 [x0]) σ :=
  cast (by kernel_rfl) h
end Go.Proofs.Ythmdpooklflkfaa
