/- The conditions of each function, its slots as variables, and that the logic's conditions are these. Printed by program. -/
import Derived.Test.YtfnnejokhikefaaAf2
set_option linter.all false
set_option maxRecDepth 100000
set_option linter.unusedVariables false
namespace Go.Proofs.Ytfnnejokhikefaa
open Go.AW
/-- (*bulla/pool.Pool).Pick -/
def S_pool_Pool_Pick (P : Program) (x0 x1 : AV) (σ : List AObj) (Z : Option (List AV) → List AObj → Prop) : Prop :=
  ACall P n_pool_Pool_Waiting [dm x0] σ fun v1 s2 =>
  lenC .sl v1 s2 fun v3 s4 =>
  loopC [(.exact []), (.d (.int .i64 0))] s4 fun vs5 s6 again7 =>
  headC vs5 fun v8 vs9 =>
  headC vs9 fun v10 vs11 =>
  binC .lss .plain v10 v3 s6 fun v12 s13 =>
  condC v12 ((fun (k14 : AV → List AObj → Prop) => iaddrC none 9 v1 v10 s13 fun v19 s20 =>
  loadC true 9 v19 s20 fun v21 s22 =>
  allocC [(.d (.int .i64 0)), (.d (.int .i64 0)), (.d (.int .i64 0)), (.d (.str [])), (.d (.str [])), (.d (.int .i64 0)), (.exact []), (.d (.int .i64 0)), (.d (.int .i64 0))] s22 fun v23 s24 =>
  storeC 9 v23 v21 s24 fun _ s26 =>
  lenC .sl v8 s26 fun v27 s28 =>
  binC .lss .plain v27 (.d (.int .i64 4)) s28 fun v29 s30 =>
  guardC v29 true (fun k => k x1 s30) s30 (fun v31 s32 =>
  guardC v29 true (fun k => k (.fn (.func n_pool_Pool_Pick_1) [] [v23]) s32) s32 (fun v33 s34 =>
  guardC v29 true (fun k => ACall P n_slices_ContainsFunc_api_Batch_api_Batch [dm v31, dm v33] s34 k) s34 (fun v35 s36 =>
  guardC v29 true (fun k => unC .not v35 s36 k) s36 (fun v37 s38 =>
  pickC v29 v37 (.d (.bool false)) s38 fun v39 s40 =>
  condC v39 (loadC true 9 v23 s40 fun v41 s42 =>
  mksliceC false 9 1 (fillV (rep [(.d (.int .i64 0)), (.d (.int .i64 0)), (.d (.int .i64 0)), (.d (.str [])), (.d (.str [])), (.d (.int .i64 0)), (.exact []), (.d (.int .i64 0)), (.d (.int .i64 0))] 1) [(0, 9, v41)]) s42 fun v43 s44 =>
  appendC 9 104 v8 v43 s44 fun v45 s46 =>
  k14 v45 s46) (k14 v8 s40))))))
  (fun v15 s16 => binC .add .plain v10 (.d (.int .i64 1)) s16 fun v17 s18 =>
  again7 [v15, v17] s18)) (Z (consO (some v8) (some [])) s13)
theorem s_pool_Pool_Pick {P : Program} {x0 x1 : AV} {σ : List AObj} {Z : Option (List AV) → List AObj → Prop} (h : S_pool_Pool_Pick P x0 x1 σ Z) : awp P A_pool_Pool_Pick.body (AtEnd fun fr s => Z (resAs fr s A_pool_Pool_Pick.res) s) (slots0 0 [x0, x1]) σ :=
  cast (by kernel_rfl) h
/-- bulla/bullaref08.CheckBatch -/
def S_r08_CheckBatch (P : Program) (x0 : AV) (σ : List AObj) (Z : Option (List AV) → List AObj → Prop) : Prop :=
  lenC .sl x0 σ fun v1 s2 =>
  binC .gtr .plain v1 (.d (.int .i64 4)) s2 fun v3 s4 =>
  condC v3 (Z (consO (some (.d (.int .i64 3))) (some [])) s4) (loopC [(.d (.int .i64 0))] s4 fun vs5 s6 again7 =>
  headC vs5 fun v8 vs9 =>
  lenC .sl x0 s6 fun v10 s11 =>
  binC .lss .plain v8 v10 s11 fun v12 s13 =>
  condC v12 (iaddrC none 9 x0 v8 s13 fun v14 s15 =>
  faddrC 0 v14 s15 fun v16 s17 =>
  loadC true 7 v16 s17 fun v18 s19 =>
  ACall P n_r08_Check [dm v18] s19 fun v20 s21 =>
  binC .neq .plain v20 (.d (.int .i64 0)) s21 fun v22 s23 =>
  condC v22 (Z (consO (some v20) (some [])) s23) (iaddrC none 9 x0 v8 s23 fun v24 s25 =>
  faddrC 7 v24 s25 fun v26 s27 =>
  loadC true 2 v26 s27 fun v28 s29 =>
  ACall P n_r08_CheckSign [dm v28] s29 fun v30 s31 =>
  binC .neq .plain v30 (.d (.int .i64 0)) s31 fun v32 s33 =>
  condC v32 (Z (consO (some v30) (some [])) s33) (binC .add .plain v8 (.d (.int .i64 1)) s33 fun v34 s35 =>
  again7 [v34] s35))) (loopC [(.d (.int .i64 0))] s13 fun vs36 s37 again38 =>
  headC vs36 fun v39 vs40 =>
  lenC .sl x0 s37 fun v41 s42 =>
  binC .lss .plain v39 v41 s42 fun v43 s44 =>
  condC v43 (loopC [(.d (.int .i64 0))] s44 fun vs45 s46 again47 =>
  headC vs45 fun v48 vs49 =>
  binC .lss .plain v48 v39 s46 fun v50 s51 =>
  condC v50 (iaddrC none 9 x0 v39 s51 fun v52 s53 =>
  faddrC 0 v52 s53 fun v54 s55 =>
  faddrC 0 v54 s55 fun v56 s57 =>
  loadC false 1 v56 s57 fun v58 s59 =>
  iaddrC none 9 x0 v48 s59 fun v60 s61 =>
  faddrC 0 v60 s61 fun v62 s63 =>
  faddrC 0 v62 s63 fun v64 s65 =>
  loadC false 1 v64 s65 fun v66 s67 =>
  binC .eql .plain v58 v66 s67 fun v68 s69 =>
  guardC v68 true (fun k => k x0 s69) s69 (fun v70 s71 =>
  guardC v68 true (fun k => k v39 s71) s71 (fun v72 s73 =>
  guardC v68 true (fun k => iaddrC none 9 v70 v72 s73 k) s73 (fun v74 s75 =>
  guardC v68 true (fun k => faddrC 0 v74 s75 k) s75 (fun v76 s77 =>
  guardC v68 true (fun k => faddrC 1 v76 s77 k) s77 (fun v78 s79 =>
  guardC v68 true (fun k => loadC false 1 v78 s79 k) s79 (fun v80 s81 =>
  guardC v68 true (fun k => k x0 s81) s81 (fun v82 s83 =>
  guardC v68 true (fun k => k v48 s83) s83 (fun v84 s85 =>
  guardC v68 true (fun k => iaddrC none 9 v82 v84 s85 k) s85 (fun v86 s87 =>
  guardC v68 true (fun k => faddrC 0 v86 s87 k) s87 (fun v88 s89 =>
  guardC v68 true (fun k => faddrC 1 v88 s89 k) s89 (fun v90 s91 =>
  guardC v68 true (fun k => loadC false 1 v90 s91 k) s91 (fun v92 s93 =>
  guardC v68 true (fun k => binC .eql .plain v80 v92 s93 k) s93 (fun v94 s95 =>
  pickC v68 v94 (.d (.bool false)) s95 fun v96 s97 =>
  condC v96 (Z (consO (some (.d (.int .i64 5))) (some [])) s97) (binC .add .plain v48 (.d (.int .i64 1)) s97 fun v98 s99 =>
  again47 [v98] s99))))))))))))))) (binC .add .plain v39 (.d (.int .i64 1)) s51 fun v100 s101 =>
  again38 [v100] s101)) (Z (consO (some (.d (.int .i64 0))) (some [])) s44)))
theorem s_r08_CheckBatch {P : Program} {x0 : AV} {σ : List AObj} {Z : Option (List AV) → List AObj → Prop} (h : S_r08_CheckBatch P x0 σ Z) : awp P A_r08_CheckBatch.body (AtEnd fun fr s => Z (resAs fr s A_r08_CheckBatch.res) s) (slots0 0 [x0]) σ :=
  cast (by kernel_rfl) h
/-- (*bulla/pool.Pool).Waiting -/
def S_pool_Pool_Waiting (P : Program) (x0 : AV) (σ : List AObj) (Z : Option (List AV) → List AObj → Prop) : Prop :=
  ACall P n_pool_Pool_none [dm x0] σ fun v1 s2 =>
  condC v1 (Z (consO (some (.exact [])) (some [])) s2) (nilC x0 s2 fun v3 s4 =>
  faddrC 1 v3 s4 fun v5 s6 =>
  slcC (.arr 8 1) v5 none none none s6 fun v7 s8 =>
  ACall P n_slices_Concat_api_Batch_api_Signed [dm v7] s8 fun v9 s10 =>
  ACall P n_request_Clone [dm v9] s10 fun v11 s12 =>
  Z (consO (some v11) (some [])) s12)
theorem s_pool_Pool_Waiting {P : Program} {x0 : AV} {σ : List AObj} {Z : Option (List AV) → List AObj → Prop} (h : S_pool_Pool_Waiting P x0 σ Z) : awp P A_pool_Pool_Waiting.body (AtEnd fun fr s => Z (resAs fr s A_pool_Pool_Waiting.res) s) (slots0 0 [x0]) σ :=
  cast (by kernel_rfl) h
/-- (*bulla/pool.Pool).Done -/
def S_pool_Pool_Done (P : Program) (x0 x1 x2 : AV) (σ : List AObj) (Z : Option (List AV) → List AObj → Prop) : Prop :=
  ACall P n_pool_Pool_none [dm x0] σ fun v1 s2 =>
  guardC v1 false (fun k => k x1 s2) s2 (fun v3 s4 =>
  guardC v1 false (fun k => ACall P n_pool_is [dm v3] s4 k) s4 (fun v5 s6 =>
  guardC v1 false (fun k => unC .not v5 s6 k) s6 (fun v7 s8 =>
  pickC v1 (.d (.bool true)) v7 s8 fun v9 s10 =>
  guardC v9 false (fun k => k x0 s10) s10 (fun v11 s12 =>
  guardC v9 false (fun k => k x1 s12) s12 (fun v13 s14 =>
  guardC v9 false (fun k => nilC v11 s14 k) s14 (fun v15 s16 =>
  guardC v9 false (fun k => faddrC 1 v15 s16 k) s16 (fun v17 s18 =>
  guardC v9 false (fun k => iaddrC (some 8) 1 v17 v13 s18 k) s18 (fun v19 s20 =>
  guardC v9 false (fun k => loadC false 1 v19 s20 k) s20 (fun v21 s22 =>
  guardC v9 false (fun k => lenC .sl v21 s22 k) s22 (fun v23 s24 =>
  guardC v9 false (fun k => binC .eql .plain v23 (.d (.int .i64 0)) s24 k) s24 (fun v25 s26 =>
  pickC v9 (.d (.bool true)) v25 s26 fun v27 s28 =>
  guardC v27 false (fun k => k x0 s28) s28 (fun v29 s30 =>
  guardC v27 false (fun k => k x1 s30) s30 (fun v31 s32 =>
  guardC v27 false (fun k => nilC v29 s32 k) s32 (fun v33 s34 =>
  guardC v27 false (fun k => faddrC 1 v33 s34 k) s34 (fun v35 s36 =>
  guardC v27 false (fun k => iaddrC (some 8) 1 v35 v31 s36 k) s36 (fun v37 s38 =>
  guardC v27 false (fun k => loadC false 1 v37 s38 k) s38 (fun v39 s40 =>
  guardC v27 false (fun k => iaddrC none 9 v39 (.d (.int .i64 0)) s40 k) s40 (fun v41 s42 =>
  guardC v27 false (fun k => faddrC 0 v41 s42 k) s42 (fun v43 s44 =>
  guardC v27 false (fun k => faddrC 1 v43 s44 k) s44 (fun v45 s46 =>
  guardC v27 false (fun k => loadC false 1 v45 s46 k) s46 (fun v47 s48 =>
  guardC v27 false (fun k => k x2 s48) s48 (fun v49 s50 =>
  guardC v27 false (fun k => binC .gtr .plain v47 v49 s50 k) s50 (fun v51 s52 =>
  pickC v27 (.d (.bool true)) v51 s52 fun v53 s54 =>
  condC v53 (Z (consO (some (.d (.bool false))) (some [])) s54) (nilC x0 s54 fun v55 s56 =>
  faddrC 1 v55 s56 fun v57 s58 =>
  iaddrC (some 8) 1 v57 x1 s58 fun v59 s60 =>
  storeC 1 v59 (.exact []) s60 fun _ s62 =>
  Z (consO (some (.d (.bool true))) (some [])) s62))))))))))))))))))))))))
theorem s_pool_Pool_Done {P : Program} {x0 x1 x2 : AV} {σ : List AObj} {Z : Option (List AV) → List AObj → Prop} (h : S_pool_Pool_Done P x0 x1 x2 σ Z) : awp P A_pool_Pool_Done.body (AtEnd fun fr s => Z (resAs fr s A_pool_Pool_Done.res) s) (slots0 0 [x0, x1, x2]) σ :=
  cast (by kernel_rfl) h
/-- (*bulla/pool.Pool).Of -/
def S_pool_Pool_Of (P : Program) (x0 x1 : AV) (σ : List AObj) (Z : Option (List AV) → List AObj → Prop) : Prop :=
  allocC [(.d (.int .i64 0)), (.d (.int .i64 0)), (.d (.int .i64 0)), (.d (.str [])), (.d (.str [])), (.d (.int .i64 0)), (.exact []), (.d (.int .i64 0)), (.d (.int .i64 0))] σ fun v1 s2 =>
  ACall P n_pool_Pool_none [dm x0] s2 fun v3 s4 =>
  guardC v3 false (fun k => k x1 s4) s4 (fun v5 s6 =>
  guardC v3 false (fun k => ACall P n_pool_is [dm v5] s6 k) s6 (fun v7 s8 =>
  guardC v3 false (fun k => unC .not v7 s8 k) s8 (fun v9 s10 =>
  pickC v3 (.d (.bool true)) v9 s10 fun v11 s12 =>
  guardC v11 false (fun k => k x0 s12) s12 (fun v13 s14 =>
  guardC v11 false (fun k => k x1 s14) s14 (fun v15 s16 =>
  guardC v11 false (fun k => nilC v13 s16 k) s16 (fun v17 s18 =>
  guardC v11 false (fun k => faddrC 1 v17 s18 k) s18 (fun v19 s20 =>
  guardC v11 false (fun k => iaddrC (some 8) 1 v19 v15 s20 k) s20 (fun v21 s22 =>
  guardC v11 false (fun k => loadC false 1 v21 s22 k) s22 (fun v23 s24 =>
  guardC v11 false (fun k => lenC .sl v23 s24 k) s24 (fun v25 s26 =>
  guardC v11 false (fun k => binC .eql .plain v25 (.d (.int .i64 0)) s26 k) s26 (fun v27 s28 =>
  pickC v11 (.d (.bool true)) v27 s28 fun v29 s30 =>
  condC v29 (buildC (fillV [(.d (.int .i64 0)), (.d (.int .i64 0)), (.d (.int .i64 0)), (.d (.str [])), (.d (.str [])), (.d (.int .i64 0)), (.exact []), (.d (.int .i64 0)), (.d (.int .i64 0))] []) s30 fun v31 s32 =>
  storeC 9 v1 v31 s32 fun _ s34 =>
  Z (consO (cellA v1 s34 true 9) (consO (some (.d (.bool false))) (some []))) s34) (nilC x0 s30 fun v35 s36 =>
  faddrC 1 v35 s36 fun v37 s38 =>
  iaddrC (some 8) 1 v37 x1 s38 fun v39 s40 =>
  loadC false 1 v39 s40 fun v41 s42 =>
  ACall P n_request_Clone [dm v41] s42 fun v43 s44 =>
  iaddrC none 9 v43 (.d (.int .i64 0)) s44 fun v45 s46 =>
  loadC true 9 v45 s46 fun v47 s48 =>
  storeC 9 v1 v47 s48 fun _ s50 =>
  Z (consO (cellA v1 s50 true 9) (consO (some (.d (.bool true))) (some []))) s50))))))))))))
theorem s_pool_Pool_Of {P : Program} {x0 x1 : AV} {σ : List AObj} {Z : Option (List AV) → List AObj → Prop} (h : S_pool_Pool_Of P x0 x1 σ Z) : awp P A_pool_Pool_Of.body (AtEnd fun fr s => Z (resAs fr s A_pool_Pool_Of.res) s) (slots0 0 [x0, x1]) σ :=
  cast (by kernel_rfl) h
/-- (*bulla/pool.Pool).Len -/
def S_pool_Pool_Len (P : Program) (x0 : AV) (σ : List AObj) (Z : Option (List AV) → List AObj → Prop) : Prop :=
  ACall P n_pool_Pool_Waiting [dm x0] σ fun v1 s2 =>
  lenC .sl v1 s2 fun v3 s4 =>
  Z (consO (some v3) (some [])) s4
theorem s_pool_Pool_Len {P : Program} {x0 : AV} {σ : List AObj} {Z : Option (List AV) → List AObj → Prop} (h : S_pool_Pool_Len P x0 σ Z) : awp P A_pool_Pool_Len.body (AtEnd fun fr s => Z (resAs fr s A_pool_Pool_Len.res) s) (slots0 0 [x0]) σ :=
  cast (by kernel_rfl) h
/-- bulla/bullalaw18.signed -/
def S_l18_signed (P : Program) (x0 x1 : AV) (σ : List AObj) (Z : Option (List AV) → List AObj → Prop) : Prop :=
  allocC [(.d (.int .i64 0)), (.d (.int .i64 0)), (.d (.int .i64 0)), (.d (.str [])), (.d (.str [])), (.d (.int .i64 0)), (.exact []), (.d (.int .i64 0)), (.d (.int .i64 0))] σ fun v1 s2 =>
  buildC (fillV [(.d (.int .i64 0)), (.d (.int .i64 0)), (.d (.int .i64 0)), (.d (.str [])), (.d (.str [])), (.d (.int .i64 0)), (.exact [])] [(0, 1, x0), (1, 1, x1)]) s2 fun v3 s4 =>
  buildC (fillV [(.d (.int .i64 0)), (.d (.int .i64 0))] [(0, 1, (.d (.int .i64 1))), (1, 1, (.d (.int .i64 1)))]) s4 fun v5 s6 =>
  buildC (fillV [(.d (.int .i64 0)), (.d (.int .i64 0)), (.d (.int .i64 0)), (.d (.str [])), (.d (.str [])), (.d (.int .i64 0)), (.exact []), (.d (.int .i64 0)), (.d (.int .i64 0))] [(0, 7, v3), (7, 2, v5)]) s6 fun v7 s8 =>
  storeC 9 v1 v7 s8 fun _ s10 =>
  Z (consO (cellA v1 s10 true 9) (some [])) s10
theorem s_l18_signed {P : Program} {x0 x1 : AV} {σ : List AObj} {Z : Option (List AV) → List AObj → Prop} (h : S_l18_signed P x0 x1 σ Z) : awp P A_l18_signed.body (AtEnd fun fr s => Z (resAs fr s A_l18_signed.res) s) (slots0 0 [x0, x1]) σ :=
  cast (by kernel_rfl) h
/-- (*bulla/pool.Pool).none -/
def S_pool_Pool_none (P : Program) (x0 : AV) (σ : List AObj) (Z : Option (List AV) → List AObj → Prop) : Prop :=
  binC .eql .ptr x0 (.d .nilp) σ fun v1 s2 =>
  guardC v1 false (fun k => k x0 s2) s2 (fun v3 s4 =>
  guardC v1 false (fun k => nilC v3 s4 k) s4 (fun v5 s6 =>
  guardC v1 false (fun k => faddrC 0 v5 s6 k) s6 (fun v7 s8 =>
  guardC v1 false (fun k => loadC false 1 v7 s8 k) s8 (fun v9 s10 =>
  guardC v1 false (fun k => unC .not v9 s10 k) s10 (fun v11 s12 =>
  pickC v1 (.d (.bool true)) v11 s12 fun v13 s14 =>
  Z (consO (some v13) (some [])) s14)))))
theorem s_pool_Pool_none {P : Program} {x0 : AV} {σ : List AObj} {Z : Option (List AV) → List AObj → Prop} (h : S_pool_Pool_none P x0 σ Z) : awp P A_pool_Pool_none.body (AtEnd fun fr s => Z (resAs fr s A_pool_Pool_none.res) s) (slots0 0 [x0]) σ :=
  cast (by kernel_rfl) h
/-- bulla/request.CheckBatch -/
def S_request_CheckBatch (P : Program) (x0 : AV) (σ : List AObj) (Z : Option (List AV) → List AObj → Prop) : Prop :=
  lenC .sl x0 σ fun v1 s2 =>
  binC .gtr .plain v1 (.d (.int .i64 4)) s2 fun v3 s4 =>
  condC v3 (Z (consO (some (.d (.int .i64 3))) (some [])) s4) (lenC .sl x0 s4 fun v5 s6 =>
  loopC [(.d (.int .i64 0))] s6 fun vs7 s8 again9 =>
  headC vs7 fun v10 vs11 =>
  binC .lss .plain v10 v5 s8 fun v12 s13 =>
  condC v12 (iaddrC none 9 x0 v10 s13 fun v14 s15 =>
  loadC true 9 v14 s15 fun v16 s17 =>
  allocC [(.d (.int .i64 0)), (.d (.int .i64 0)), (.d (.int .i64 0)), (.d (.str [])), (.d (.str [])), (.d (.int .i64 0)), (.exact []), (.d (.int .i64 0)), (.d (.int .i64 0))] s17 fun v18 s19 =>
  storeC 9 v18 v16 s19 fun _ s21 =>
  faddrC 0 v18 s21 fun v22 s23 =>
  loadC true 7 v22 s23 fun v24 s25 =>
  ACall P n_request_Check [dm v24] s25 fun v26 s27 =>
  binC .neq .plain v26 (.d (.int .i64 0)) s27 fun v28 s29 =>
  condC v28 (Z (consO (some v26) (some [])) s29) (faddrC 7 v18 s29 fun v30 s31 =>
  loadC true 2 v30 s31 fun v32 s33 =>
  ACall P n_request_CheckSign [dm v32] s33 fun v34 s35 =>
  binC .neq .plain v34 (.d (.int .i64 0)) s35 fun v36 s37 =>
  condC v36 (Z (consO (some v34) (some [])) s37) (binC .add .plain v10 (.d (.int .i64 1)) s37 fun v38 s39 =>
  again9 [v38] s39))) (lenC .sl x0 s13 fun v40 s41 =>
  loopC [(.d (.int .i64 0))] s41 fun vs42 s43 again44 =>
  headC vs42 fun v45 vs46 =>
  binC .lss .plain v45 v40 s43 fun v47 s48 =>
  condC v47 (iaddrC none 9 x0 v45 s48 fun v49 s50 =>
  loadC true 9 v49 s50 fun v51 s52 =>
  allocC [(.d (.int .i64 0)), (.d (.int .i64 0)), (.d (.int .i64 0)), (.d (.str [])), (.d (.str [])), (.d (.int .i64 0)), (.exact []), (.d (.int .i64 0)), (.d (.int .i64 0))] s52 fun v53 s54 =>
  storeC 9 v53 v51 s54 fun _ s56 =>
  slcC (.sl 9) x0 none (some v45) none s56 fun v57 s58 =>
  lenC .sl v57 s58 fun v59 s60 =>
  loopC [(.d (.int .i64 0))] s60 fun vs61 s62 again63 =>
  headC vs61 fun v64 vs65 =>
  binC .lss .plain v64 v59 s62 fun v66 s67 =>
  condC v66 (iaddrC none 9 v57 v64 s67 fun v68 s69 =>
  loadC true 9 v68 s69 fun v70 s71 =>
  allocC [(.d (.int .i64 0)), (.d (.int .i64 0)), (.d (.int .i64 0)), (.d (.str [])), (.d (.str [])), (.d (.int .i64 0)), (.exact []), (.d (.int .i64 0)), (.d (.int .i64 0))] s71 fun v72 s73 =>
  storeC 9 v72 v70 s73 fun _ s75 =>
  faddrC 0 v53 s75 fun v76 s77 =>
  faddrC 0 v76 s77 fun v78 s79 =>
  loadC false 1 v78 s79 fun v80 s81 =>
  faddrC 0 v72 s81 fun v82 s83 =>
  faddrC 0 v82 s83 fun v84 s85 =>
  loadC false 1 v84 s85 fun v86 s87 =>
  binC .eql .plain v80 v86 s87 fun v88 s89 =>
  guardC v88 true (fun k => faddrC 0 v53 s89 k) s89 (fun v90 s91 =>
  guardC v88 true (fun k => faddrC 1 v90 s91 k) s91 (fun v92 s93 =>
  guardC v88 true (fun k => loadC false 1 v92 s93 k) s93 (fun v94 s95 =>
  guardC v88 true (fun k => faddrC 0 v72 s95 k) s95 (fun v96 s97 =>
  guardC v88 true (fun k => faddrC 1 v96 s97 k) s97 (fun v98 s99 =>
  guardC v88 true (fun k => loadC false 1 v98 s99 k) s99 (fun v100 s101 =>
  guardC v88 true (fun k => binC .eql .plain v94 v100 s101 k) s101 (fun v102 s103 =>
  pickC v88 v102 (.d (.bool false)) s103 fun v104 s105 =>
  condC v104 (Z (consO (some (.d (.int .i64 5))) (some [])) s105) (binC .add .plain v64 (.d (.int .i64 1)) s105 fun v106 s107 =>
  again63 [v106] s107))))))))) (binC .add .plain v45 (.d (.int .i64 1)) s67 fun v108 s109 =>
  again44 [v108] s109)) (Z (consO (some (.d (.int .i64 0))) (some [])) s48)))
theorem s_request_CheckBatch {P : Program} {x0 : AV} {σ : List AObj} {Z : Option (List AV) → List AObj → Prop} (h : S_request_CheckBatch P x0 σ Z) : awp P A_request_CheckBatch.body (AtEnd fun fr s => Z (resAs fr s A_request_CheckBatch.res) s) (slots0 0 [x0]) σ :=
  cast (by kernel_rfl) h
/-- bulla/request.Clone -/
def S_request_Clone (P : Program) (x0 : AV) (σ : List AObj) (Z : Option (List AV) → List AObj → Prop) : Prop :=
  lenC .sl x0 σ fun v1 s2 =>
  loopC [(.exact []), (.d (.int .i64 0))] s2 fun vs3 s4 again5 =>
  headC vs3 fun v6 vs7 =>
  headC vs7 fun v8 vs9 =>
  binC .lss .plain v8 v1 s4 fun v10 s11 =>
  condC v10 (iaddrC none 9 x0 v8 s11 fun v12 s13 =>
  loadC true 9 v12 s13 fun v14 s15 =>
  allocC [(.d (.int .i64 0)), (.d (.int .i64 0)), (.d (.int .i64 0)), (.d (.str [])), (.d (.str [])), (.d (.int .i64 0)), (.exact []), (.d (.int .i64 0)), (.d (.int .i64 0))] s15 fun v16 s17 =>
  storeC 9 v16 v14 s17 fun _ s19 =>
  faddrC 0 v16 s19 fun v20 s21 =>
  faddrC 2 v20 s21 fun v22 s23 =>
  loadC true 5 v22 s23 fun v24 s25 =>
  ACall P n_op_Clone [dm v24] s25 fun v26 s27 =>
  faddrC 0 v16 s27 fun v28 s29 =>
  faddrC 2 v28 s29 fun v30 s31 =>
  storeC 5 v30 v26 s31 fun _ s33 =>
  loadC true 9 v16 s33 fun v34 s35 =>
  mksliceC false 9 1 (fillV (rep [(.d (.int .i64 0)), (.d (.int .i64 0)), (.d (.int .i64 0)), (.d (.str [])), (.d (.str [])), (.d (.int .i64 0)), (.exact []), (.d (.int .i64 0)), (.d (.int .i64 0))] 1) [(0, 9, v34)]) s35 fun v36 s37 =>
  appendC 9 104 v6 v36 s37 fun v38 s39 =>
  binC .add .plain v8 (.d (.int .i64 1)) s39 fun v40 s41 =>
  again5 [v38, v40] s41) (Z (consO (some v6) (some [])) s11)
theorem s_request_Clone {P : Program} {x0 : AV} {σ : List AObj} {Z : Option (List AV) → List AObj → Prop} (h : S_request_Clone P x0 σ Z) : awp P A_request_Clone.body (AtEnd fun fr s => Z (resAs fr s A_request_Clone.res) s) (slots0 0 [x0]) σ :=
  cast (by kernel_rfl) h
/-- (*bulla/pool.Pool).Pick$1 -/
def S_pool_Pool_Pick_1 (P : Program) (x0 x1 : AV) (σ : List AObj) (Z : Option (List AV) → List AObj → Prop) : Prop :=
  ACall P n_slices_ContainsFunc_api_Batch_api_Signed [dm x0, dm (.fn (.func n_pool_Pool_Pick_1_1) [] [x1])] σ fun v1 s2 =>
  Z (consO (some v1) (some [])) s2
theorem s_pool_Pool_Pick_1 {P : Program} {x0 x1 : AV} {σ : List AObj} {Z : Option (List AV) → List AObj → Prop} (h : S_pool_Pool_Pick_1 P x0 x1 σ Z) : awp P A_pool_Pool_Pick_1.body (AtEnd fun fr s => Z (resAs fr s A_pool_Pool_Pick_1.res) s) (slots0 0 [x0, x1]) σ :=
  cast (by kernel_rfl) h
/-- slices.ContainsFunc[bulla/api.Batch,bulla/api.Signed] -/
def S_slices_ContainsFunc_api_Batch_api_Signed (P : Program) (x0 x1 : AV) (σ : List AObj) (Z : Option (List AV) → List AObj → Prop) : Prop :=
  ACall P n_slices_IndexFunc_api_Batch_api_Signed [dm x0, dm x1] σ fun v1 s2 =>
  binC .geq .plain v1 (.d (.int .i64 0)) s2 fun v3 s4 =>
  Z (consO (some v3) (some [])) s4
theorem s_slices_ContainsFunc_api_Batch_api_Signed {P : Program} {x0 x1 : AV} {σ : List AObj} {Z : Option (List AV) → List AObj → Prop} (h : S_slices_ContainsFunc_api_Batch_api_Signed P x0 x1 σ Z) : awp P A_slices_ContainsFunc_api_Batch_api_Signed.body (AtEnd fun fr s => Z (resAs fr s A_slices_ContainsFunc_api_Batch_api_Signed.res) s) (slots0 0 [x0, x1]) σ :=
  cast (by kernel_rfl) h
/-- (*bulla/pool.Pool).Pick$1$1 -/
def S_pool_Pool_Pick_1_1 (P : Program) (x0 x1 : AV) (σ : List AObj) (Z : Option (List AV) → List AObj → Prop) : Prop :=
  boxC x0 σ fun v1 s2 =>
  faddrC 0 v1 s2 fun v3 s4 =>
  faddrC 0 v3 s4 fun v5 s6 =>
  loadC false 1 v5 s6 fun v7 s8 =>
  faddrC 0 x1 s8 fun v9 s10 =>
  faddrC 0 v9 s10 fun v11 s12 =>
  loadC false 1 v11 s12 fun v13 s14 =>
  binC .eql .plain v7 v13 s14 fun v15 s16 =>
  guardC v15 true (fun k => faddrC 0 v1 s16 k) s16 (fun v17 s18 =>
  guardC v15 true (fun k => faddrC 1 v17 s18 k) s18 (fun v19 s20 =>
  guardC v15 true (fun k => loadC false 1 v19 s20 k) s20 (fun v21 s22 =>
  guardC v15 true (fun k => faddrC 0 x1 s22 k) s22 (fun v23 s24 =>
  guardC v15 true (fun k => faddrC 1 v23 s24 k) s24 (fun v25 s26 =>
  guardC v15 true (fun k => loadC false 1 v25 s26 k) s26 (fun v27 s28 =>
  guardC v15 true (fun k => binC .eql .plain v21 v27 s28 k) s28 (fun v29 s30 =>
  pickC v15 v29 (.d (.bool false)) s30 fun v31 s32 =>
  Z (consO (some v31) (some [])) s32)))))))
theorem s_pool_Pool_Pick_1_1 {P : Program} {x0 x1 : AV} {σ : List AObj} {Z : Option (List AV) → List AObj → Prop} (h : S_pool_Pool_Pick_1_1 P x0 x1 σ Z) : awp P A_pool_Pool_Pick_1_1.body (AtEnd fun fr s => Z (resAs fr s A_pool_Pool_Pick_1_1.res) s) (slots0 0 [x0, x1]) σ :=
  cast (by kernel_rfl) h
/-- slices.ContainsFunc[[]bulla/api.Batch,bulla/api.Batch] -/
def S_slices_ContainsFunc_api_Batch_api_Batch (P : Program) (x0 x1 : AV) (σ : List AObj) (Z : Option (List AV) → List AObj → Prop) : Prop :=
  ACall P n_slices_IndexFunc_api_Batch_api_Batch [dm x0, dm x1] σ fun v1 s2 =>
  binC .geq .plain v1 (.d (.int .i64 0)) s2 fun v3 s4 =>
  Z (consO (some v3) (some [])) s4
theorem s_slices_ContainsFunc_api_Batch_api_Batch {P : Program} {x0 x1 : AV} {σ : List AObj} {Z : Option (List AV) → List AObj → Prop} (h : S_slices_ContainsFunc_api_Batch_api_Batch P x0 x1 σ Z) : awp P A_slices_ContainsFunc_api_Batch_api_Batch.body (AtEnd fun fr s => Z (resAs fr s A_slices_ContainsFunc_api_Batch_api_Batch.res) s) (slots0 0 [x0, x1]) σ :=
  cast (by kernel_rfl) h
/-- bulla/bullaref08.Check -/
def S_r08_Check (P : Program) (x0 : AV) (σ : List AObj) (Z : Option (List AV) → List AObj → Prop) : Prop :=
  boxC x0 σ fun v1 s2 =>
  faddrC 0 v1 s2 fun v3 s4 =>
  loadC false 1 v3 s4 fun v5 s6 =>
  ACall P n_r08_Key [dm v5] s6 fun v7 s8 =>
  binC .lss .plain v7 (.d (.int .i64 0)) s8 fun v9 s10 =>
  guardC v9 false (fun k => faddrC 1 v1 s10 k) s10 (fun v11 s12 =>
  guardC v9 false (fun k => loadC false 1 v11 s12 k) s12 (fun v13 s14 =>
  guardC v9 false (fun k => binC .lss .plain v13 (.d (.int .i64 1)) s14 k) s14 (fun v15 s16 =>
  pickC v9 (.d (.bool true)) v15 s16 fun v17 s18 =>
  guardC v17 false (fun k => faddrC 1 v1 s18 k) s18 (fun v19 s20 =>
  guardC v17 false (fun k => loadC false 1 v19 s20 k) s20 (fun v21 s22 =>
  guardC v17 false (fun k => binC .gtr .plain v21 (.d (.int .i64 9007199254740992)) s22 k) s22 (fun v23 s24 =>
  pickC v17 (.d (.bool true)) v23 s24 fun v25 s26 =>
  condC v25 (Z (consO (some (.d (.int .i64 80))) (some [])) s26) (faddrC 2 v1 s26 fun v27 s28 =>
  loadC true 5 v27 s28 fun v29 s30 =>
  ACall P n_r06_Check [dm v29] s30 fun v31 s32 =>
  Z (consO (some v31) (some [])) s32)))))))
theorem s_r08_Check {P : Program} {x0 : AV} {σ : List AObj} {Z : Option (List AV) → List AObj → Prop} (h : S_r08_Check P x0 σ Z) : awp P A_r08_Check.body (AtEnd fun fr s => Z (resAs fr s A_r08_Check.res) s) (slots0 0 [x0]) σ :=
  cast (by kernel_rfl) h
/-- bulla/bullaref08.CheckSign -/
def S_r08_CheckSign (P : Program) (x0 : AV) (σ : List AObj) (Z : Option (List AV) → List AObj → Prop) : Prop :=
  boxC x0 σ fun v1 s2 =>
  faddrC 0 v1 s2 fun v3 s4 =>
  loadC false 1 v3 s4 fun v5 s6 =>
  binC .lss .plain v5 (.d (.int .i64 0)) s6 fun v7 s8 =>
  guardC v7 false (fun k => faddrC 0 v1 s8 k) s8 (fun v9 s10 =>
  guardC v7 false (fun k => loadC false 1 v9 s10 k) s10 (fun v11 s12 =>
  guardC v7 false (fun k => binC .geq .plain v11 (.d (.int .i64 21)) s12 k) s12 (fun v13 s14 =>
  pickC v7 (.d (.bool true)) v13 s14 fun v15 s16 =>
  guardC v15 false (fun k => faddrC 1 v1 s16 k) s16 (fun v17 s18 =>
  guardC v15 false (fun k => loadC false 1 v17 s18 k) s18 (fun v19 s20 =>
  guardC v15 false (fun k => binC .lss .plain v19 (.d (.int .i64 1)) s20 k) s20 (fun v21 s22 =>
  pickC v15 (.d (.bool true)) v21 s22 fun v23 s24 =>
  guardC v23 false (fun k => faddrC 1 v1 s24 k) s24 (fun v25 s26 =>
  guardC v23 false (fun k => loadC false 1 v25 s26 k) s26 (fun v27 s28 =>
  guardC v23 false (fun k => binC .gtr .plain v27 (.d (.int .i64 9007199254740992)) s28 k) s28 (fun v29 s30 =>
  pickC v23 (.d (.bool true)) v29 s30 fun v31 s32 =>
  condC v31 (Z (consO (some (.d (.int .i64 81))) (some [])) s32) (Z (consO (some (.d (.int .i64 0))) (some [])) s32))))))))))
theorem s_r08_CheckSign {P : Program} {x0 : AV} {σ : List AObj} {Z : Option (List AV) → List AObj → Prop} (h : S_r08_CheckSign P x0 σ Z) : awp P A_r08_CheckSign.body (AtEnd fun fr s => Z (resAs fr s A_r08_CheckSign.res) s) (slots0 0 [x0]) σ :=
  cast (by kernel_rfl) h
end Go.Proofs.Ytfnnejokhikefaa
