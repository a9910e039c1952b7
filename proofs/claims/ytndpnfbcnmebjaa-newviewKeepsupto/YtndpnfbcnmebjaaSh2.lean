/- The conditions of each function, its slots as variables, and that the logic's conditions are these. Printed by program. -/
import Derived.Test.YtndpnfbcnmebjaaAf2
set_option linter.all false
set_option maxRecDepth 100000
set_option linter.unusedVariables false
namespace Go.Proofs.Ytndpnfbcnmebjaa
open Go.AW
/-- bulla/bullaref08.Same -/
def S_r08_Same (P : Program) (x0 x1 : AV) (σ : List AObj) (Z : Option (List AV) → List AObj → Prop) : Prop :=
  lenC .sl x0 σ fun v1 s2 =>
  lenC .sl x1 s2 fun v3 s4 =>
  binC .neq .plain v1 v3 s4 fun v5 s6 =>
  condC v5 (Z (consO (some (.d (.bool false))) (some [])) s6) (loopC [(.d (.int .i64 0))] s6 fun vs7 s8 again9 =>
  headC vs7 fun v10 vs11 =>
  lenC .sl x0 s8 fun v12 s13 =>
  binC .lss .plain v10 v12 s13 fun v14 s15 =>
  condC v14 (iaddrC none 9 x0 v10 s15 fun v16 s17 =>
  faddrC 7 v16 s17 fun v18 s19 =>
  loadC true 2 v18 s19 fun v20 s21 =>
  iaddrC none 9 x1 v10 s21 fun v22 s23 =>
  faddrC 7 v22 s23 fun v24 s25 =>
  loadC true 2 v24 s25 fun v26 s27 =>
  binC .neq (.ints 2) v20 v26 s27 fun v28 s29 =>
  guardC v28 false (fun k => k x0 s29) s29 (fun v30 s31 =>
  guardC v28 false (fun k => k v10 s31) s31 (fun v32 s33 =>
  guardC v28 false (fun k => iaddrC none 9 v30 v32 s33 k) s33 (fun v34 s35 =>
  guardC v28 false (fun k => faddrC 0 v34 s35 k) s35 (fun v36 s37 =>
  guardC v28 false (fun k => loadC true 7 v36 s37 k) s37 (fun v38 s39 =>
  guardC v28 false (fun k => k x1 s39) s39 (fun v40 s41 =>
  guardC v28 false (fun k => k v10 s41) s41 (fun v42 s43 =>
  guardC v28 false (fun k => iaddrC none 9 v40 v42 s43 k) s43 (fun v44 s45 =>
  guardC v28 false (fun k => faddrC 0 v44 s45 k) s45 (fun v46 s47 =>
  guardC v28 false (fun k => loadC true 7 v46 s47 k) s47 (fun v48 s49 =>
  guardC v28 false (fun k => ACall P n_r08_SameRequest [dm v38, dm v48] s49 k) s49 (fun v50 s51 =>
  guardC v28 false (fun k => unC .not v50 s51 k) s51 (fun v52 s53 =>
  pickC v28 (.d (.bool true)) v52 s53 fun v54 s55 =>
  condC v54 (Z (consO (some (.d (.bool false))) (some [])) s55) (binC .add .plain v10 (.d (.int .i64 1)) s55 fun v56 s57 =>
  again9 [v56] s57)))))))))))))) (Z (consO (some (.d (.bool true))) (some [])) s15))
theorem s_r08_Same {P : Program} {x0 x1 : AV} {σ : List AObj} {Z : Option (List AV) → List AObj → Prop} (h : S_r08_Same P x0 x1 σ Z) : awp P A_r08_Same.body (AtEnd fun fr s => Z (resAs fr s A_r08_Same.res) s) (slots0 0 [x0, x1]) σ :=
  cast (by kernel_rfl) h
/-- bulla/bullaref12.Has -/
def S_r12_Has (P : Program) (x0 x1 : AV) (σ : List AObj) (Z : Option (List AV) → List AObj → Prop) : Prop :=
  loopC [x0, (.d (.int .i64 0))] σ fun vs1 s2 again3 =>
  headC vs1 fun v4 vs5 =>
  headC vs5 fun v6 vs7 =>
  binC .lss .plain v6 (.d (.int .i64 13)) s2 fun v8 s9 =>
  condC v8 (binC .eql .plain v6 x1 s9 fun v10 s11 =>
  guardC v10 true (fun k => k v4 s11) s11 (fun v12 s13 =>
  guardC v10 true (fun k => binC .rem .plain v12 (.d (.int .u16 2)) s13 k) s13 (fun v14 s15 =>
  guardC v10 true (fun k => binC .eql .plain v14 (.d (.int .u16 1)) s15 k) s15 (fun v16 s17 =>
  pickC v10 v16 (.d (.bool false)) s17 fun v18 s19 =>
  condC v18 (Z (consO (some (.d (.bool true))) (some [])) s19) (binC .quo .plain v4 (.d (.int .u16 2)) s19 fun v20 s21 =>
  binC .add .plain v6 (.d (.int .i64 1)) s21 fun v22 s23 =>
  again3 [v20, v22] s23))))) (Z (consO (some (.d (.bool false))) (some [])) s9)
theorem s_r12_Has {P : Program} {x0 x1 : AV} {σ : List AObj} {Z : Option (List AV) → List AObj → Prop} (h : S_r12_Has P x0 x1 σ Z) : awp P A_r12_Has.body (AtEnd fun fr s => Z (resAs fr s A_r12_Has.res) s) (slots0 0 [x0, x1]) σ :=
  cast (by kernel_rfl) h
/-- bulla/bullalaw16.tells -/
def S_l16_tells (P : Program) (x0 x1 : AV) (σ : List AObj) (Z : Option (List AV) → List AObj → Prop) : Prop :=
  boxC x0 σ fun v1 s2 =>
  allocC [(.d (.int .i64 0)), (.d (.int .i64 0)), (.d (.int .i64 0)), (.d (.int .i64 0)), (.d (.int .i64 0)), (.exact []), (.exact [])] s2 fun v3 s4 =>
  allocC [(.d (.int .i64 0)), (.d (.int .i64 0)), (.d (.int .i64 0)), (.d (.int .i64 0)), (.d (.int .i64 0)), (.exact []), (.exact [])] s4 fun v5 s6 =>
  faddrC 5 v1 s6 fun v7 s8 =>
  loadC false 1 v7 s8 fun v9 s10 =>
  lenC .sl v9 s10 fun v11 s12 =>
  loopC [(.d (.bool false)), (.d (.int .i64 0))] s12 fun vs13 s14 again15 =>
  headC vs13 fun v16 vs17 =>
  headC vs17 fun v18 vs19 =>
  binC .lss .plain v18 v11 s14 fun v20 s21 =>
  condC v20 ((fun (k22 : AV → List AObj → Prop) => iaddrC none 7 v9 v18 s21 fun v27 s28 =>
  loadC true 7 v27 s28 fun v29 s30 =>
  allocC [(.d (.int .i64 0)), (.d (.int .i64 0)), (.d (.int .i64 0)), (.d (.int .i64 0)), (.d (.int .i64 0)), (.exact []), (.exact [])] s30 fun v31 s32 =>
  storeC 7 v31 v29 s32 fun _ s34 =>
  faddrC 1 v31 s34 fun v35 s36 =>
  loadC false 1 v35 s36 fun v37 s38 =>
  binC .eql .plain v37 x1 s38 fun v39 s40 =>
  guardC v39 true (fun k => k v16 s40) s40 (fun v41 s42 =>
  guardC v39 true (fun k => unC .not v41 s42 k) s42 (fun v43 s44 =>
  guardC v39 true (fun k => k v43 s44) s44 (fun v45 s46 =>
  guardC v45 false (fun k => faddrC 0 v31 s46 k) s46 (fun v47 s48 =>
  guardC v45 false (fun k => loadC false 1 v47 s48 k) s48 (fun v49 s50 =>
  guardC v45 false (fun k => faddrC 0 v5 s50 k) s50 (fun v51 s52 =>
  guardC v45 false (fun k => loadC false 1 v51 s52 k) s52 (fun v53 s54 =>
  guardC v45 false (fun k => binC .gtr .plain v49 v53 s54 k) s54 (fun v55 s56 =>
  guardC v39 true (fun k => pickC v45 (.d (.bool true)) v55 s56 k) s56 (fun v57 s58 =>
  pickC v39 v57 (.d (.bool false)) s58 fun v59 s60 =>
  condC v59 (loadC true 7 v31 s60 fun v61 s62 =>
  storeC 7 v5 v61 s62 fun _ s64 =>
  k22 (.d (.bool true)) s64) (k22 v16 s60)))))))))))
  (fun v23 s24 => binC .add .plain v18 (.d (.int .i64 1)) s24 fun v25 s26 =>
  again15 [v23, v25] s26)) (loadC true 7 v5 s21 fun v65 s66 =>
  storeC 7 v3 v65 s66 fun _ s68 =>
  Z (consO (cellA v3 s68 true 7) (consO (some v16) (some []))) s68)
theorem s_l16_tells {P : Program} {x0 x1 : AV} {σ : List AObj} {Z : Option (List AV) → List AObj → Prop} (h : S_l16_tells P x0 x1 σ Z) : awp P A_l16_tells.body (AtEnd fun fr s => Z (resAs fr s A_l16_tells.res) s) (slots0 0 [x0, x1]) σ :=
  cast (by kernel_rfl) h
/-- bulla/bullaref12.Small -/
def S_r12_Small (P : Program) (x0 : AV) (σ : List AObj) (Z : Option (List AV) → List AObj → Prop) : Prop :=
  ACall P n_r12_Check [dm x0] σ fun v1 s2 =>
  binC .neq .plain v1 (.d (.int .i64 0)) s2 fun v3 s4 =>
  condC v3 (Z (consO (some (.d (.int .i64 0))) (some [])) s4) (binC .add .plain x0 (.d (.int .i64 1)) s4 fun v5 s6 =>
  Z (consO (some v5) (some [])) s6)
theorem s_r12_Small {P : Program} {x0 : AV} {σ : List AObj} {Z : Option (List AV) → List AObj → Prop} (h : S_r12_Small P x0 σ Z) : awp P A_r12_Small.body (AtEnd fun fr s => Z (resAs fr s A_r12_Small.res) s) (slots0 0 [x0]) σ :=
  cast (by kernel_rfl) h
/-- bulla/bullaref12.Big -/
def S_r12_Big (P : Program) (x0 : AV) (σ : List AObj) (Z : Option (List AV) → List AObj → Prop) : Prop :=
  ACall P n_r12_Check [dm x0] σ fun v1 s2 =>
  binC .neq .plain v1 (.d (.int .i64 0)) s2 fun v3 s4 =>
  condC v3 (Z (consO (some (.d (.int .i64 0))) (some [])) s4) (binC .mul .plain (.d (.int .i64 2)) x0 s4 fun v5 s6 =>
  binC .add .plain v5 (.d (.int .i64 1)) s6 fun v7 s8 =>
  Z (consO (some v7) (some [])) s8)
theorem s_r12_Big {P : Program} {x0 : AV} {σ : List AObj} {Z : Option (List AV) → List AObj → Prop} (h : S_r12_Big P x0 σ Z) : awp P A_r12_Big.body (AtEnd fun fr s => Z (resAs fr s A_r12_Big.res) s) (slots0 0 [x0]) σ :=
  cast (by kernel_rfl) h
/-- slices.IndexFunc[[]bulla/api.Entry,bulla/api.Entry] -/
def S_slices_IndexFunc_api_Entry_api_Entry (P : Program) (x0 x1 : AV) (σ : List AObj) (Z : Option (List AV) → List AObj → Prop) : Prop :=
  lenC .sl x0 σ fun v1 s2 =>
  loopC [(.d (.int .i64 0))] s2 fun vs3 s4 again5 =>
  headC vs3 fun v6 vs7 =>
  binC .lss .plain v6 v1 s4 fun v8 s9 =>
  condC v8 (iaddrC none 5 x0 v6 s9 fun v10 s11 =>
  loadC true 5 v10 s11 fun v12 s13 =>
  callvC P x1 [dm v12] s13 fun v14 s15 =>
  condC v14 (Z (consO (some v6) (some [])) s15) (binC .add .plain v6 (.d (.int .i64 1)) s15 fun v16 s17 =>
  again5 [v16] s17)) (Z (consO (some (.d (.int .i64 (-1)))) (some [])) s9)
theorem s_slices_IndexFunc_api_Entry_api_Entry {P : Program} {x0 x1 : AV} {σ : List AObj} {Z : Option (List AV) → List AObj → Prop} (h : S_slices_IndexFunc_api_Entry_api_Entry P x0 x1 σ Z) : awp P A_slices_IndexFunc_api_Entry_api_Entry.body (AtEnd fun fr s => Z (resAs fr s A_slices_IndexFunc_api_Entry_api_Entry.res) s) (slots0 0 [x0, x1]) σ :=
  cast (by kernel_rfl) h
/-- bulla/bullalaw16.NewviewKeeps$1 -/
def S_l16_NewviewKeeps_1 (P : Program) (x0 x1 : AV) (σ : List AObj) (Z : Option (List AV) → List AObj → Prop) : Prop :=
  boxC x0 σ fun v1 s2 =>
  faddrC 1 v1 s2 fun v3 s4 =>
  loadC false 1 v3 s4 fun v5 s6 =>
  faddrC 1 x1 s6 fun v7 s8 =>
  loadC false 1 v7 s8 fun v9 s10 =>
  binC .eql .plain v5 v9 s10 fun v11 s12 =>
  Z (consO (some v11) (some [])) s12
theorem s_l16_NewviewKeeps_1 {P : Program} {x0 x1 : AV} {σ : List AObj} {Z : Option (List AV) → List AObj → Prop} (h : S_l16_NewviewKeeps_1 P x0 x1 σ Z) : awp P A_l16_NewviewKeeps_1.body (AtEnd fun fr s => Z (resAs fr s A_l16_NewviewKeeps_1.res) s) (slots0 0 [x0, x1]) σ :=
  cast (by kernel_rfl) h
/-- bulla/newview.may -/
def S_newview_may (P : Program) (x0 x1 x2 : AV) (σ : List AObj) (Z : Option (List AV) → List AObj → Prop) : Prop :=
  ACall P n_quorum_Check [dm x0] σ fun v1 s2 =>
  binC .neq .plain v1 (.d (.int .i64 0)) s2 fun v3 s4 =>
  condC v3 (Z (consO (some v1) (some [])) s4) (binC .lss .plain x1 (.d (.int .i64 1)) s4 fun v5 s6 =>
  guardC v5 false (fun k => k x1 s6) s6 (fun v7 s8 =>
  guardC v5 false (fun k => binC .gtr .plain v7 (.d (.int .i64 9007199254740992)) s8 k) s8 (fun v9 s10 =>
  pickC v5 (.d (.bool true)) v9 s10 fun v11 s12 =>
  condC v11 (Z (consO (some (.d (.int .i64 1))) (some [])) s12) (lenC .sl x2 s12 fun v13 s14 =>
  loopC [(.d (.int .i64 (-1))), (.d (.int .i64 0))] s14 fun vs15 s16 again17 =>
  headC vs15 fun v18 vs19 =>
  headC vs19 fun v20 vs21 =>
  binC .lss .plain v20 v13 s16 fun v22 s23 =>
  condC v22 (iaddrC none 8 x2 v20 s23 fun v24 s25 =>
  loadC true 8 v24 s25 fun v26 s27 =>
  allocC [(.d (.int .i64 0)), (.d (.int .i64 0)), (.d (.int .i64 0)), (.d (.int .i64 0)), (.exact []), (.exact []), (.d (.int .i64 0)), (.d (.int .i64 0))] s27 fun v28 s29 =>
  storeC 8 v28 v26 s29 fun _ s31 =>
  faddrC 1 v28 s31 fun v32 s33 =>
  loadC false 1 v32 s33 fun v34 s35 =>
  binC .leq .plain v34 v18 s35 fun v36 s37 =>
  guardC v36 false (fun k => faddrC 1 v28 s37 k) s37 (fun v38 s39 =>
  guardC v36 false (fun k => loadC false 1 v38 s39 k) s39 (fun v40 s41 =>
  guardC v36 false (fun k => k x0 s41) s41 (fun v42 s43 =>
  guardC v36 false (fun k => ACall P n_quorum_Brokers [dm v42] s43 k) s43 (fun v44 s45 =>
  keepO v38 s43 s45 ∧ (guardC v36 false (fun k => binC .geq .plain v40 v44 s45 k) s45 (fun v46 s47 =>
  pickC v36 (.d (.bool true)) v46 s47 fun v48 s49 =>
  condC v48 (Z (consO (some (.d (.int .i64 1))) (some [])) s49) (faddrC 1 v28 s49 fun v50 s51 =>
  loadC false 1 v50 s51 fun v52 s53 =>
  binC .add .plain v20 (.d (.int .i64 1)) s53 fun v54 s55 =>
  again17 [v52, v54] s55)))))))) (lenC .sl x2 s23 fun v56 s57 =>
  ACall P n_quorum_Big [dm x0] s57 fun v58 s59 =>
  binC .lss .plain v56 v58 s59 fun v60 s61 =>
  condC v60 (Z (consO (some (.d (.int .i64 160))) (some [])) s61) (Z (consO (some (.d (.int .i64 0))) (some [])) s61))))))
theorem s_newview_may {P : Program} {x0 x1 x2 : AV} {σ : List AObj} {Z : Option (List AV) → List AObj → Prop} (h : S_newview_may P x0 x1 x2 σ Z) : awp P A_newview_may.body (AtEnd fun fr s => Z (resAs fr s A_newview_may.res) s) (slots0 0 [x0, x1, x2]) σ :=
  cast (by kernel_rfl) h
/-- bulla/request.Clone -/
def S_request_Clone (P : Program) (x0 : AV) (σ : List AObj) (Z : Option (List AV) → List AObj → Prop) : Prop :=
  lenC .sl x0 σ fun v1 s2 =>
  loopC [(.exact []), (.d (.int .i64 0))] s2 fun vs3 s4 again5 =>
  headC vs3 fun v6 vs7 =>
  headC vs7 fun v8 vs9 =>
  binC .lss .plain v8 v1 s4 fun v10 s11 =>
  condC v10 (iaddrC none 9 x0 v8 s11 fun v12 s13 =>
  loadC true 9 v12 s13 fun v14 s15 =>
  allocC [(.d (.int .i64 0)), (.d (.int .i64 0)), (.d (.int .i64 0)), (.d (.str [])), (.d (.str [])), (.d (.int .i64 0)), (.exact []), (.d (.int .i64 0)), (.d (.int .i64 0))] s15 fun v16 s17 =>
  storeC 9 v16 v14 s17 fun _ s19 =>
  faddrC 0 v16 s19 fun v20 s21 =>
  faddrC 2 v20 s21 fun v22 s23 =>
  loadC true 5 v22 s23 fun v24 s25 =>
  ACall P n_op_Clone [dm v24] s25 fun v26 s27 =>
  faddrC 0 v16 s27 fun v28 s29 =>
  faddrC 2 v28 s29 fun v30 s31 =>
  storeC 5 v30 v26 s31 fun _ s33 =>
  loadC true 9 v16 s33 fun v34 s35 =>
  mksliceC false 9 1 (fillV (rep [(.d (.int .i64 0)), (.d (.int .i64 0)), (.d (.int .i64 0)), (.d (.str [])), (.d (.str [])), (.d (.int .i64 0)), (.exact []), (.d (.int .i64 0)), (.d (.int .i64 0))] 1) [(0, 9, v34)]) s35 fun v36 s37 =>
  appendC 9 104 v6 v36 s37 fun v38 s39 =>
  binC .add .plain v8 (.d (.int .i64 1)) s39 fun v40 s41 =>
  again5 [v38, v40] s41) (Z (consO (some v6) (some [])) s11)
theorem s_request_Clone {P : Program} {x0 : AV} {σ : List AObj} {Z : Option (List AV) → List AObj → Prop} (h : S_request_Clone P x0 σ Z) : awp P A_request_Clone.body (AtEnd fun fr s => Z (resAs fr s A_request_Clone.res) s) (slots0 0 [x0]) σ :=
  cast (by kernel_rfl) h
/-- bulla/bullaref16.latest -/
def S_r16_latest (P : Program) (x0 x1 : AV) (σ : List AObj) (Z : Option (List AV) → List AObj → Prop) : Prop :=
  allocC [(.d (.int .i64 0)), (.d (.int .i64 0)), (.d (.int .i64 0)), (.d (.int .i64 0)), (.d (.int .i64 0)), (.exact []), (.exact [])] σ fun v1 s2 =>
  loopC [(.d (.bool false)), (.d (.int .i64 0))] s2 fun vs3 s4 again5 =>
  headC vs3 fun v6 vs7 =>
  headC vs7 fun v8 vs9 =>
  lenC .sl x0 s4 fun v10 s11 =>
  binC .lss .plain v8 v10 s11 fun v12 s13 =>
  condC v12 (loopC [v6, (.d (.int .i64 0))] s13 fun vs14 s15 again16 =>
  headC vs14 fun v17 vs18 =>
  headC vs18 fun v19 vs20 =>
  iaddrC none 8 x0 v8 s15 fun v21 s22 =>
  faddrC 5 v21 s22 fun v23 s24 =>
  loadC false 1 v23 s24 fun v25 s26 =>
  lenC .sl v25 s26 fun v27 s28 =>
  binC .lss .plain v19 v27 s28 fun v29 s30 =>
  condC v29 ((fun (k31 : AV → List AObj → Prop) => iaddrC none 8 x0 v8 s30 fun v36 s37 =>
  faddrC 5 v36 s37 fun v38 s39 =>
  loadC false 1 v38 s39 fun v40 s41 =>
  iaddrC none 7 v40 v19 s41 fun v42 s43 =>
  loadC true 7 v42 s43 fun v44 s45 =>
  allocC [(.d (.int .i64 0)), (.d (.int .i64 0)), (.d (.int .i64 0)), (.d (.int .i64 0)), (.d (.int .i64 0)), (.exact []), (.exact [])] s45 fun v46 s47 =>
  storeC 7 v46 v44 s47 fun _ s49 =>
  faddrC 1 v46 s49 fun v50 s51 =>
  loadC false 1 v50 s51 fun v52 s53 =>
  binC .eql .plain v52 x1 s53 fun v54 s55 =>
  guardC v54 true (fun k => k v17 s55) s55 (fun v56 s57 =>
  guardC v54 true (fun k => unC .not v56 s57 k) s57 (fun v58 s59 =>
  guardC v54 true (fun k => k v58 s59) s59 (fun v60 s61 =>
  guardC v60 false (fun k => faddrC 0 v46 s61 k) s61 (fun v62 s63 =>
  guardC v60 false (fun k => loadC false 1 v62 s63 k) s63 (fun v64 s65 =>
  guardC v60 false (fun k => faddrC 0 v1 s65 k) s65 (fun v66 s67 =>
  guardC v60 false (fun k => loadC false 1 v66 s67 k) s67 (fun v68 s69 =>
  guardC v60 false (fun k => binC .gtr .plain v64 v68 s69 k) s69 (fun v70 s71 =>
  guardC v54 true (fun k => pickC v60 (.d (.bool true)) v70 s71 k) s71 (fun v72 s73 =>
  pickC v54 v72 (.d (.bool false)) s73 fun v74 s75 =>
  condC v74 (loadC true 7 v46 s75 fun v76 s77 =>
  storeC 7 v1 v76 s77 fun _ s79 =>
  k31 (.d (.bool true)) s79) (k31 v17 s75)))))))))))
  (fun v32 s33 => binC .add .plain v19 (.d (.int .i64 1)) s33 fun v34 s35 =>
  again16 [v32, v34] s35)) (binC .add .plain v8 (.d (.int .i64 1)) s30 fun v80 s81 =>
  again5 [v17, v80] s81)) (faddrC 6 v1 s13 fun v82 s83 =>
  loadC false 1 v82 s83 fun v84 s85 =>
  Z (consO (some v84) (some [])) s85)
theorem s_r16_latest {P : Program} {x0 x1 : AV} {σ : List AObj} {Z : Option (List AV) → List AObj → Prop} (h : S_r16_latest P x0 x1 σ Z) : awp P A_r16_latest.body (AtEnd fun fr s => Z (resAs fr s A_r16_latest.res) s) (slots0 0 [x0, x1]) σ :=
  cast (by kernel_rfl) h
/-- bulla/bullaref10.sameSigns -/
def S_r10_sameSigns (P : Program) (x0 x1 : AV) (σ : List AObj) (Z : Option (List AV) → List AObj → Prop) : Prop :=
  lenC .sl x0 σ fun v1 s2 =>
  lenC .sl x1 s2 fun v3 s4 =>
  binC .neq .plain v1 v3 s4 fun v5 s6 =>
  condC v5 (Z (consO (some (.d (.bool false))) (some [])) s6) (loopC [(.d (.int .i64 0))] s6 fun vs7 s8 again9 =>
  headC vs7 fun v10 vs11 =>
  lenC .sl x0 s8 fun v12 s13 =>
  binC .lss .plain v10 v12 s13 fun v14 s15 =>
  condC v14 (iaddrC none 2 x0 v10 s15 fun v16 s17 =>
  loadC true 2 v16 s17 fun v18 s19 =>
  iaddrC none 2 x1 v10 s19 fun v20 s21 =>
  loadC true 2 v20 s21 fun v22 s23 =>
  binC .neq (.ints 2) v18 v22 s23 fun v24 s25 =>
  condC v24 (Z (consO (some (.d (.bool false))) (some [])) s25) (binC .add .plain v10 (.d (.int .i64 1)) s25 fun v26 s27 =>
  again9 [v26] s27)) (Z (consO (some (.d (.bool true))) (some [])) s15))
theorem s_r10_sameSigns {P : Program} {x0 x1 : AV} {σ : List AObj} {Z : Option (List AV) → List AObj → Prop} (h : S_r10_sameSigns P x0 x1 σ Z) : awp P A_r10_sameSigns.body (AtEnd fun fr s => Z (resAs fr s A_r10_sameSigns.res) s) (slots0 0 [x0, x1]) σ :=
  cast (by kernel_rfl) h
/-- bulla/bullaref12.List -/
def S_r12_List (P : Program) (x0 : AV) (σ : List AObj) (Z : Option (List AV) → List AObj → Prop) : Prop :=
  loopC [(.exact []), (.d (.int .i64 0))] σ fun vs1 s2 again3 =>
  headC vs1 fun v4 vs5 =>
  headC vs5 fun v6 vs7 =>
  binC .lss .plain v6 (.d (.int .i64 13)) s2 fun v8 s9 =>
  condC v8 ((fun (k10 : AV → List AObj → Prop) => ACall P n_r12_Has [dm x0, dm v6] s9 fun v15 s16 =>
  condC v15 (mksliceC false 1 1 (fillV (rep [(.d (.int .i64 0))] 1) [(0, 1, v6)]) s16 fun v17 s18 =>
  appendC 1 8 v4 v17 s18 fun v19 s20 =>
  k10 v19 s20) (k10 v4 s16))
  (fun v11 s12 => binC .add .plain v6 (.d (.int .i64 1)) s12 fun v13 s14 =>
  again3 [v11, v13] s14)) (Z (consO (some v4) (some [])) s9)
theorem s_r12_List {P : Program} {x0 : AV} {σ : List AObj} {Z : Option (List AV) → List AObj → Prop} (h : S_r12_List P x0 σ Z) : awp P A_r12_List.body (AtEnd fun fr s => Z (resAs fr s A_r12_List.res) s) (slots0 0 [x0]) σ :=
  cast (by kernel_rfl) h
/-- bulla/bullaref08.SameRequest -/
def S_r08_SameRequest (P : Program) (x0 x1 : AV) (σ : List AObj) (Z : Option (List AV) → List AObj → Prop) : Prop :=
  boxC x0 σ fun v1 s2 =>
  boxC x1 s2 fun v3 s4 =>
  faddrC 0 v1 s4 fun v5 s6 =>
  loadC false 1 v5 s6 fun v7 s8 =>
  faddrC 0 v3 s8 fun v9 s10 =>
  loadC false 1 v9 s10 fun v11 s12 =>
  binC .eql .plain v7 v11 s12 fun v13 s14 =>
  guardC v13 true (fun k => faddrC 1 v1 s14 k) s14 (fun v15 s16 =>
  guardC v13 true (fun k => loadC false 1 v15 s16 k) s16 (fun v17 s18 =>
  guardC v13 true (fun k => faddrC 1 v3 s18 k) s18 (fun v19 s20 =>
  guardC v13 true (fun k => loadC false 1 v19 s20 k) s20 (fun v21 s22 =>
  guardC v13 true (fun k => binC .eql .plain v17 v21 s22 k) s22 (fun v23 s24 =>
  pickC v13 v23 (.d (.bool false)) s24 fun v25 s26 =>
  guardC v25 true (fun k => faddrC 2 v1 s26 k) s26 (fun v27 s28 =>
  guardC v25 true (fun k => loadC true 5 v27 s28 k) s28 (fun v29 s30 =>
  guardC v25 true (fun k => faddrC 2 v3 s30 k) s30 (fun v31 s32 =>
  guardC v25 true (fun k => loadC true 5 v31 s32 k) s32 (fun v33 s34 =>
  guardC v25 true (fun k => ACall P n_r06_Same [dm v29, dm v33] s34 k) s34 (fun v35 s36 =>
  pickC v25 v35 (.d (.bool false)) s36 fun v37 s38 =>
  Z (consO (some v37) (some [])) s38))))))))))
theorem s_r08_SameRequest {P : Program} {x0 x1 : AV} {σ : List AObj} {Z : Option (List AV) → List AObj → Prop} (h : S_r08_SameRequest P x0 x1 σ Z) : awp P A_r08_SameRequest.body (AtEnd fun fr s => Z (resAs fr s A_r08_SameRequest.res) s) (slots0 0 [x0, x1]) σ :=
  cast (by kernel_rfl) h
/-- bulla/quorum.Check -/
def S_quorum_Check (P : Program) (x0 : AV) (σ : List AObj) (Z : Option (List AV) → List AObj → Prop) : Prop :=
  binC .lss .plain x0 (.d (.int .i64 1)) σ fun v1 s2 =>
  guardC v1 false (fun k => k x0 s2) s2 (fun v3 s4 =>
  guardC v1 false (fun k => binC .gtr .plain v3 (.d (.int .i64 4)) s4 k) s4 (fun v5 s6 =>
  pickC v1 (.d (.bool true)) v5 s6 fun v7 s8 =>
  condC v7 (Z (consO (some (.d (.int .i64 120))) (some [])) s8) (Z (consO (some (.d (.int .i64 0))) (some [])) s8)))
theorem s_quorum_Check {P : Program} {x0 : AV} {σ : List AObj} {Z : Option (List AV) → List AObj → Prop} (h : S_quorum_Check P x0 σ Z) : awp P A_quorum_Check.body (AtEnd fun fr s => Z (resAs fr s A_quorum_Check.res) s) (slots0 0 [x0]) σ :=
  cast (by kernel_rfl) h
/-- bulla/quorum.Brokers -/
def S_quorum_Brokers (P : Program) (x0 : AV) (σ : List AObj) (Z : Option (List AV) → List AObj → Prop) : Prop :=
  ACall P n_quorum_times [dm (.d (.int .i64 3)), dm x0] σ fun v1 s2 =>
  Z (consO (some v1) (some [])) s2
theorem s_quorum_Brokers {P : Program} {x0 : AV} {σ : List AObj} {Z : Option (List AV) → List AObj → Prop} (h : S_quorum_Brokers P x0 σ Z) : awp P A_quorum_Brokers.body (AtEnd fun fr s => Z (resAs fr s A_quorum_Brokers.res) s) (slots0 0 [x0]) σ :=
  cast (by kernel_rfl) h
/-- bulla/quorum.Big -/
def S_quorum_Big (P : Program) (x0 : AV) (σ : List AObj) (Z : Option (List AV) → List AObj → Prop) : Prop :=
  ACall P n_quorum_times [dm (.d (.int .i64 2)), dm x0] σ fun v1 s2 =>
  Z (consO (some v1) (some [])) s2
theorem s_quorum_Big {P : Program} {x0 : AV} {σ : List AObj} {Z : Option (List AV) → List AObj → Prop} (h : S_quorum_Big P x0 σ Z) : awp P A_quorum_Big.body (AtEnd fun fr s => Z (resAs fr s A_quorum_Big.res) s) (slots0 0 [x0]) σ :=
  cast (by kernel_rfl) h
/-- bulla/op.Clone -/
def S_op_Clone (P : Program) (x0 : AV) (σ : List AObj) (Z : Option (List AV) → List AObj → Prop) : Prop :=
  boxC x0 σ fun v1 s2 =>
  allocC [(.d (.int .i64 0)), (.d (.str [])), (.d (.str [])), (.d (.int .i64 0)), (.exact [])] s2 fun v3 s4 =>
  faddrC 4 v1 s4 fun v5 s6 =>
  loadC false 1 v5 s6 fun v7 s8 =>
  lenC .sl v7 s8 fun v9 s10 =>
  loopC [(.exact []), (.d (.int .i64 0))] s10 fun vs11 s12 again13 =>
  headC vs11 fun v14 vs15 =>
  headC vs15 fun v16 vs17 =>
  binC .lss .plain v16 v9 s12 fun v18 s19 =>
  condC v18 (iaddrC none 1 v7 v16 s19 fun v20 s21 =>
  loadC false 1 v20 s21 fun v22 s23 =>
  ACall P n_bytes_Clone [dm v22] s23 fun v24 s25 =>
  mksliceC false 1 1 (fillV (rep [(.exact [])] 1) [(0, 1, v24)]) s25 fun v26 s27 =>
  appendC 1 24 v14 v26 s27 fun v28 s29 =>
  binC .add .plain v16 (.d (.int .i64 1)) s29 fun v30 s31 =>
  again13 [v28, v30] s31) (faddrC 4 v1 s19 fun v32 s33 =>
  storeC 1 v32 v14 s33 fun _ s35 =>
  loadC true 5 v1 s35 fun v36 s37 =>
  storeC 5 v3 v36 s37 fun _ s39 =>
  Z (consO (cellA v3 s39 true 5) (some [])) s39)
theorem s_op_Clone {P : Program} {x0 : AV} {σ : List AObj} {Z : Option (List AV) → List AObj → Prop} (h : S_op_Clone P x0 σ Z) : awp P A_op_Clone.body (AtEnd fun fr s => Z (resAs fr s A_op_Clone.res) s) (slots0 0 [x0]) σ :=
  cast (by kernel_rfl) h
/-- bulla/bullaref06.Same -/
def S_r06_Same (P : Program) (x0 x1 : AV) (σ : List AObj) (Z : Option (List AV) → List AObj → Prop) : Prop :=
  boxC x0 σ fun v1 s2 =>
  boxC x1 s2 fun v3 s4 =>
  faddrC 0 v1 s4 fun v5 s6 =>
  loadC false 1 v5 s6 fun v7 s8 =>
  faddrC 0 v3 s8 fun v9 s10 =>
  loadC false 1 v9 s10 fun v11 s12 =>
  binC .neq .plain v7 v11 s12 fun v13 s14 =>
  guardC v13 false (fun k => faddrC 1 v1 s14 k) s14 (fun v15 s16 =>
  guardC v13 false (fun k => loadC false 1 v15 s16 k) s16 (fun v17 s18 =>
  guardC v13 false (fun k => faddrC 1 v3 s18 k) s18 (fun v19 s20 =>
  guardC v13 false (fun k => loadC false 1 v19 s20 k) s20 (fun v21 s22 =>
  guardC v13 false (fun k => binC .neq .plain v17 v21 s22 k) s22 (fun v23 s24 =>
  pickC v13 (.d (.bool true)) v23 s24 fun v25 s26 =>
  guardC v25 false (fun k => faddrC 2 v1 s26 k) s26 (fun v27 s28 =>
  guardC v25 false (fun k => loadC false 1 v27 s28 k) s28 (fun v29 s30 =>
  guardC v25 false (fun k => faddrC 2 v3 s30 k) s30 (fun v31 s32 =>
  guardC v25 false (fun k => loadC false 1 v31 s32 k) s32 (fun v33 s34 =>
  guardC v25 false (fun k => binC .neq .plain v29 v33 s34 k) s34 (fun v35 s36 =>
  pickC v25 (.d (.bool true)) v35 s36 fun v37 s38 =>
  guardC v37 false (fun k => faddrC 3 v1 s38 k) s38 (fun v39 s40 =>
  guardC v37 false (fun k => loadC false 1 v39 s40 k) s40 (fun v41 s42 =>
  guardC v37 false (fun k => faddrC 3 v3 s42 k) s42 (fun v43 s44 =>
  guardC v37 false (fun k => loadC false 1 v43 s44 k) s44 (fun v45 s46 =>
  guardC v37 false (fun k => binC .neq .plain v41 v45 s46 k) s46 (fun v47 s48 =>
  pickC v37 (.d (.bool true)) v47 s48 fun v49 s50 =>
  guardC v49 false (fun k => faddrC 4 v1 s50 k) s50 (fun v51 s52 =>
  guardC v49 false (fun k => loadC false 1 v51 s52 k) s52 (fun v53 s54 =>
  guardC v49 false (fun k => lenC .sl v53 s54 k) s54 (fun v55 s56 =>
  guardC v49 false (fun k => faddrC 4 v3 s56 k) s56 (fun v57 s58 =>
  guardC v49 false (fun k => loadC false 1 v57 s58 k) s58 (fun v59 s60 =>
  guardC v49 false (fun k => lenC .sl v59 s60 k) s60 (fun v61 s62 =>
  guardC v49 false (fun k => binC .neq .plain v55 v61 s62 k) s62 (fun v63 s64 =>
  pickC v49 (.d (.bool true)) v63 s64 fun v65 s66 =>
  condC v65 (Z (consO (some (.d (.bool false))) (some [])) s66) (loopC [(.d (.int .i64 0))] s66 fun vs67 s68 again69 =>
  headC vs67 fun v70 vs71 =>
  faddrC 4 v1 s68 fun v72 s73 =>
  loadC false 1 v72 s73 fun v74 s75 =>
  lenC .sl v74 s75 fun v76 s77 =>
  binC .lss .plain v70 v76 s77 fun v78 s79 =>
  condC v78 (faddrC 4 v1 s79 fun v80 s81 =>
  loadC false 1 v80 s81 fun v82 s83 =>
  iaddrC none 1 v82 v70 s83 fun v84 s85 =>
  loadC false 1 v84 s85 fun v86 s87 =>
  convC .toStr v86 s87 fun v88 s89 =>
  faddrC 4 v3 s89 fun v90 s91 =>
  loadC false 1 v90 s91 fun v92 s93 =>
  iaddrC none 1 v92 v70 s93 fun v94 s95 =>
  loadC false 1 v94 s95 fun v96 s97 =>
  convC .toStr v96 s97 fun v98 s99 =>
  binC .neq .plain v88 v98 s99 fun v100 s101 =>
  condC v100 (Z (consO (some (.d (.bool false))) (some [])) s101) (binC .add .plain v70 (.d (.int .i64 1)) s101 fun v102 s103 =>
  again69 [v102] s103)) (Z (consO (some (.d (.bool true))) (some [])) s79))))))))))))))))))))))))
theorem s_r06_Same {P : Program} {x0 x1 : AV} {σ : List AObj} {Z : Option (List AV) → List AObj → Prop} (h : S_r06_Same P x0 x1 σ Z) : awp P A_r06_Same.body (AtEnd fun fr s => Z (resAs fr s A_r06_Same.res) s) (slots0 0 [x0, x1]) σ :=
  cast (by kernel_rfl) h
/-- bulla/quorum.times -/
def S_quorum_times (P : Program) (x0 x1 : AV) (σ : List AObj) (Z : Option (List AV) → List AObj → Prop) : Prop :=
  ACall P n_quorum_Check [dm x1] σ fun v1 s2 =>
  binC .neq .plain v1 (.d (.int .i64 0)) s2 fun v3 s4 =>
  condC v3 (Z (consO (some (.d (.int .i64 0))) (some [])) s4) (binC .mul .plain x0 x1 s4 fun v5 s6 =>
  binC .add .plain v5 (.d (.int .i64 1)) s6 fun v7 s8 =>
  Z (consO (some v7) (some [])) s8)
theorem s_quorum_times {P : Program} {x0 x1 : AV} {σ : List AObj} {Z : Option (List AV) → List AObj → Prop} (h : S_quorum_times P x0 x1 σ Z) : awp P A_quorum_times.body (AtEnd fun fr s => Z (resAs fr s A_quorum_times.res) s) (slots0 0 [x0, x1]) σ :=
  cast (by kernel_rfl) h
/-- bytes.Clone -/
def S_bytes_Clone (P : Program) (x0 : AV) (σ : List AObj) (Z : Option (List AV) → List AObj → Prop) : Prop :=
  isnilC false x0 σ fun v1 s2 =>
  condC v1 (Z (consO (some (.exact [])) (some [])) s2) (mksliceC false 1 0 (fillV (rep [(.d (.int .u8 0))] 0) []) s2 fun v3 s4 =>
  appendC 1 1 v3 x0 s4 fun v5 s6 =>
  Z (consO (some v5) (some [])) s6)
theorem s_bytes_Clone {P : Program} {x0 : AV} {σ : List AObj} {Z : Option (List AV) → List AObj → Prop} (h : S_bytes_Clone P x0 σ Z) : awp P A_bytes_Clone.body (AtEnd fun fr s => Z (resAs fr s A_bytes_Clone.res) s) (slots0 0 [x0]) σ :=
  cast (by kernel_rfl) h
end Go.Proofs.Ytndpnfbcnmebjaa
