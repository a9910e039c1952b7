/- The conditions of each function, its slots as variables, and that the logic's conditions are these. Printed by program. -/
import Derived.Test.YtahbjkanmagndaaAf1
set_option linter.all false
set_option maxRecDepth 100000
set_option linter.unusedVariables false
namespace Go.Proofs.Ytahbjkanmagndaa
open Go.AW
/-- bulla/bullalaw06.OpChecks -/
def Sm_l06_OpChecks (P : Program) (x0 x1 : AV) (σ : List AObj) (Z : Option (List AV) → List AObj → Prop) : Prop :=
  boxC x0 σ fun v1 s2 =>
  boxC x1 s2 fun v3 s4 =>
  ACall P n_l06_begun [] s4 fun v5 s6 =>
  unC .not v5 s6 fun v7 s8 =>
  guardC v7 false (fun k => loadC true 5 v1 s8 k) s8 (fun v9 s10 =>
  guardC v7 false (fun k => loadC true 5 v1 s10 k) s10 (fun v11 s12 =>
  guardC v7 false (fun k => ACall P n_op_Check [v9] s12 k) s12 (fun v13 s14 =>
  keepO v1 s12 s14 ∧ (guardC v7 false (fun k => ACall P n_r06_Check [v11] s14 k) s14 (fun v15 s16 =>
  guardC v7 false (fun k => binC .neq .plain v13 v15 s16 k) s16 (fun v17 s18 =>
  pickC v7 (.d (.bool true)) v17 s18 fun v19 s20 =>
  guardC v19 false (fun k => loadC true 5 v1 s20 k) s20 (fun v21 s22 =>
  guardC v19 false (fun k => loadC true 5 v3 s22 k) s22 (fun v23 s24 =>
  guardC v19 false (fun k => loadC true 5 v1 s24 k) s24 (fun v25 s26 =>
  guardC v19 false (fun k => loadC true 5 v3 s26 k) s26 (fun v27 s28 =>
  guardC v19 false (fun k => ACall P n_op_Same [v21, v23] s28 k) s28 (fun v29 s30 =>
  keepO v1 s28 s30 ∧ (keepO v3 s28 s30 ∧ (guardC v19 false (fun k => ACall P n_r06_Same [v25, v27] s30 k) s30 (fun v31 s32 =>
  guardC v19 false (fun k => binC .neq .bool v29 v31 s32 k) s32 (fun v33 s34 =>
  pickC v19 (.d (.bool true)) v33 s34 fun v35 s36 =>
  guardC v35 false (fun k => loadC true 5 v1 s36 k) s36 (fun v37 s38 =>
  guardC v35 false (fun k => loadC true 5 v1 s38 k) s38 (fun v39 s40 =>
  guardC v35 false (fun k => ACall P n_op_Same [v37, v39] s40 k) s40 (fun v41 s42 =>
  guardC v35 false (fun k => unC .not v41 s42 k) s42 (fun v43 s44 =>
  pickC v35 (.d (.bool true)) v43 s44 fun v45 s46 =>
  condC v45 (Z (consO (some (.d (.bool false))) (some [])) s46) (loadC true 5 v1 s46 fun v47 s48 =>
  ACall P n_op_Clone [v47] s48 fun v49 s50 =>
  allocC [(.d (.int .i64 0)), (.d (.str [])), (.d (.str [])), (.d (.int .i64 0)), (.exact [])] s50 fun v51 s52 =>
  storeC 5 v51 v49 s52 fun _ s54 =>
  loadC true 5 v1 s54 fun v55 s56 =>
  loadC true 5 v51 s56 fun v57 s58 =>
  ACall P n_r06_Same [v55, v57] s58 fun v59 s60 =>
  unC .not v59 s60 fun v61 s62 =>
  condC v61 (Z (consO (some (.d (.bool false))) (some [])) s62) (faddrC 4 v51 s62 fun v63 s64 =>
  loadC false 1 v63 s64 fun v65 s66 =>
  lenC .sl v65 s66 fun v67 s68 =>
  loopC [(.d (.int .i64 0))] s68 fun vs69 s70 again71 =>
  headC vs69 fun v72 vs73 =>
  binC .lss .plain v72 v67 s70 fun v74 s75 =>
  condC v74 (faddrC 4 v51 s75 fun v76 s77 =>
  loadC false 1 v76 s77 fun v78 s79 =>
  iaddrC none 1 v78 v72 s79 fun v80 s81 =>
  loadC false 1 v80 s81 fun v82 s83 =>
  lenC .sl v82 s83 fun v84 s85 =>
  loopC [(.d (.int .i64 0))] s85 fun vs86 s87 again88 =>
  headC vs86 fun v89 vs90 =>
  binC .lss .plain v89 v84 s87 fun v91 s92 =>
  condC v91 (faddrC 4 v51 s92 fun v93 s94 =>
  loadC false 1 v93 s94 fun v95 s96 =>
  iaddrC none 1 v95 v72 s96 fun v97 s98 =>
  loadC false 1 v97 s98 fun v99 s100 =>
  iaddrC none 1 v99 v89 s100 fun v101 s102 =>
  loadC false 1 v101 s102 fun v103 s104 =>
  binC .add .plain v103 (.d (.int .u8 1)) s104 fun v105 s106 =>
  iaddrC none 1 v99 v89 s106 fun v107 s108 =>
  storeC 1 v107 v105 s108 fun _ s110 =>
  binC .add .plain v89 (.d (.int .i64 1)) s110 fun v111 s112 =>
  again88 [v111] s112) (binC .add .plain v72 (.d (.int .i64 1)) s92 fun v113 s114 =>
  again71 [v113] s114)) (loadC true 5 v1 s75 fun v115 s116 =>
  ACall P n_op_Clone [v115] s116 fun v117 s118 =>
  allocC [(.d (.int .i64 0)), (.d (.str [])), (.d (.str [])), (.d (.int .i64 0)), (.exact [])] s118 fun v119 s120 =>
  storeC 5 v119 v117 s120 fun _ s122 =>
  loadC true 5 v1 s122 fun v123 s124 =>
  loadC true 5 v119 s124 fun v125 s126 =>
  ACall P n_r06_Same [v123, v125] s126 fun v127 s128 =>
  Z (consO (some v127) (some [])) s128))))))))))))))))))))))
theorem sm_l06_OpChecks {P : Program} {x0 x1 : AV} {σ : List AObj} {Z : Option (List AV) → List AObj → Prop} (h : Sm_l06_OpChecks P x0 x1 σ Z) : awp P Am_l06_OpChecks.body (AtEnd fun fr s => Z (resAs fr s Am_l06_OpChecks.res) s) (slots0 0 [x0, x1]) σ :=
  cast (by kernel_rfl) h
/-- bulla/bullalaw06.begun -/
def S_l06_begun (P : Program) (σ : List AObj) (Z : Option (List AV) → List AObj → Prop) : Prop :=
  mksliceC false 1 1 (fillV (rep [(.d (.int .u8 0))] 1) [(0, 1, (.d (.int .u8 9)))]) σ fun v1 s2 =>
  mksliceC false 1 1 (fillV (rep [(.exact [])] 1) [(0, 1, v1)]) s2 fun v3 s4 =>
  buildC (fillV [(.d (.int .i64 0)), (.d (.str [])), (.d (.str [])), (.d (.int .i64 0)), (.exact [])] [(0, 1, (.d (.int .i64 2))), (1, 1, (.d (.str [116]))), (4, 1, v3)]) s4 fun v5 s6 =>
  ACall P n_op_Bytes [dm v5] s6 fun v7 s8 =>
  extractC v7 0 s8 fun v9 s10 =>
  extractC v7 1 s10 fun v11 s12 =>
  binC .eql .plain v11 (.d (.int .i64 0)) s12 fun v13 s14 =>
  guardC v13 true (fun k => k v9 s14) s14 (fun v15 s16 =>
  guardC v13 true (fun k => mksliceC false 1 6 (fillV (rep [(.d (.int .u8 0))] 6) [(0, 1, (.d (.int .u8 2))), (1, 1, (.d (.int .u8 1))), (2, 1, (.d (.int .u8 116))), (3, 1, (.d (.int .u8 1))), (4, 1, (.d (.int .u8 1))), (5, 1, (.d (.int .u8 9)))]) s16 k) s16 (fun v17 s18 =>
  guardC v13 true (fun k => ACall P n_bytes_Equal [dm v15, dm v17] s18 k) s18 (fun v19 s20 =>
  pickC v13 v19 (.d (.bool false)) s20 fun v21 s22 =>
  guardC v21 true (fun k => ACall P n_op_Runes [dm (.d (.str [103, 114, 195, 182, 195, 159, 101]))] s22 k) s22 (fun v23 s24 =>
  guardC v21 true (fun k => binC .eql .plain v23 (.d (.int .i64 5)) s24 k) s24 (fun v25 s26 =>
  pickC v21 v25 (.d (.bool false)) s26 fun v27 s28 =>
  guardC v27 true (fun k => ACall P n_op_Name [dm (.d (.str [97, 32, 98]))] s28 k) s28 (fun v29 s30 =>
  guardC v27 true (fun k => unC .not v29 s30 k) s30 (fun v31 s32 =>
  pickC v27 v31 (.d (.bool false)) s32 fun v33 s34 =>
  Z (consO (some v33) (some [])) s34)))))))
theorem s_l06_begun {P : Program} {σ : List AObj} {Z : Option (List AV) → List AObj → Prop} (h : S_l06_begun P  σ Z) : awp P A_l06_begun.body (AtEnd fun fr s => Z (resAs fr s A_l06_begun.res) s) (slots0 0 []) σ :=
  cast (by kernel_rfl) h
/-- bulla/op.Name -/
def S_op_Name (P : Program) (x0 : AV) (σ : List AObj) (Z : Option (List AV) → List AObj → Prop) : Prop :=
  ACall P n_op_Runes [dm x0] σ fun v1 s2 =>
  binC .gtr .plain v1 (.d (.int .i64 0)) s2 fun v3 s4 =>
  Z (consO (some v3) (some [])) s4
theorem s_op_Name {P : Program} {x0 : AV} {σ : List AObj} {Z : Option (List AV) → List AObj → Prop} (h : S_op_Name P x0 σ Z) : awp P A_op_Name.body (AtEnd fun fr s => Z (resAs fr s A_op_Name.res) s) (slots0 0 [x0]) σ :=
  cast (by kernel_rfl) h
/-- bulla/bullaref06.Name -/
def S_r06_Name (P : Program) (x0 : AV) (σ : List AObj) (Z : Option (List AV) → List AObj → Prop) : Prop :=
  ACall P n_r06_Runes [dm x0] σ fun v1 s2 =>
  binC .gtr .plain v1 (.d (.int .i64 0)) s2 fun v3 s4 =>
  Z (consO (some v3) (some [])) s4
theorem s_r06_Name {P : Program} {x0 : AV} {σ : List AObj} {Z : Option (List AV) → List AObj → Prop} (h : S_r06_Name P x0 σ Z) : awp P A_r06_Name.body (AtEnd fun fr s => Z (resAs fr s A_r06_Name.res) s) (slots0 0 [x0]) σ :=
  cast (by kernel_rfl) h
/-- bulla/op.Runes -/
def S_op_Runes (P : Program) (x0 : AV) (σ : List AObj) (Z : Option (List AV) → List AObj → Prop) : Prop :=
  rangeC x0 σ fun v1 s2 =>
  loopC [(.d (.int .i64 0))] s2 fun vs3 s4 again5 =>
  headC vs3 fun v6 vs7 =>
  nextC v1 s4 fun v8 s9 =>
  extractC v8 0 s9 fun v10 s11 =>
  condC v10 (extractC v8 2 s11 fun v12 s13 =>
  binC .lss .plain v12 (.d (.int .i32 33)) s13 fun v14 s15 =>
  guardC v14 false (fun k => k v12 s15) s15 (fun v16 s17 =>
  guardC v14 false (fun k => binC .geq .plain v16 (.d (.int .i32 127)) s17 k) s17 (fun v18 s19 =>
  guardC v14 false (fun k => k v18 s19) s19 (fun v20 s21 =>
  guardC v20 true (fun k => k v12 s21) s21 (fun v22 s23 =>
  guardC v20 true (fun k => binC .leq .plain v22 (.d (.int .i32 159)) s23 k) s23 (fun v24 s25 =>
  guardC v14 false (fun k => pickC v20 v24 (.d (.bool false)) s25 k) s25 (fun v26 s27 =>
  pickC v14 (.d (.bool true)) v26 s27 fun v28 s29 =>
  guardC v28 false (fun k => k v12 s29) s29 (fun v30 s31 =>
  guardC v28 false (fun k => binC .eql .plain v30 (.d (.int .i32 47)) s31 k) s31 (fun v32 s33 =>
  pickC v28 (.d (.bool true)) v32 s33 fun v34 s35 =>
  guardC v34 false (fun k => k v12 s35) s35 (fun v36 s37 =>
  guardC v34 false (fun k => binC .eql .plain v36 (.d (.int .i32 65533)) s37 k) s37 (fun v38 s39 =>
  pickC v34 (.d (.bool true)) v38 s39 fun v40 s41 =>
  condC v40 (Z (consO (some (.d (.int .i64 0))) (some [])) s41) (binC .add .plain v6 (.d (.int .i64 1)) s41 fun v42 s43 =>
  again5 [v42] s43)))))))))))) (binC .gtr .plain v6 (.d (.int .i64 16)) s11 fun v44 s45 =>
  condC v44 (Z (consO (some (.d (.int .i64 0))) (some [])) s45) (Z (consO (some v6) (some [])) s45))
theorem s_op_Runes {P : Program} {x0 : AV} {σ : List AObj} {Z : Option (List AV) → List AObj → Prop} (h : S_op_Runes P x0 σ Z) : awp P A_op_Runes.body (AtEnd fun fr s => Z (resAs fr s A_op_Runes.res) s) (slots0 0 [x0]) σ :=
  cast (by kernel_rfl) h
/-- bulla/bullaref06.Runes -/
def S_r06_Runes (P : Program) (x0 : AV) (σ : List AObj) (Z : Option (List AV) → List AObj → Prop) : Prop :=
  loopC [x0, (.d (.int .i64 0))] σ fun vs1 s2 again3 =>
  headC vs1 fun v4 vs5 =>
  headC vs5 fun v6 vs7 =>
  lenC .str v4 s2 fun v8 s9 =>
  binC .gtr .plain v8 (.d (.int .i64 0)) s9 fun v10 s11 =>
  condC v10 (ACall P n_r06_rune1 [dm v4] s11 fun v12 s13 =>
  extractC v12 0 s13 fun v14 s15 =>
  extractC v12 1 s15 fun v16 s17 =>
  binC .eql .plain v16 (.d (.int .i64 0)) s17 fun v18 s19 =>
  guardC v18 false (fun k => k v14 s19) s19 (fun v20 s21 =>
  guardC v18 false (fun k => binC .lss .plain v20 (.d (.int .i64 33)) s21 k) s21 (fun v22 s23 =>
  pickC v18 (.d (.bool true)) v22 s23 fun v24 s25 =>
  guardC v24 false (fun k => k v14 s25) s25 (fun v26 s27 =>
  guardC v24 false (fun k => binC .geq .plain v26 (.d (.int .i64 127)) s27 k) s27 (fun v28 s29 =>
  guardC v24 false (fun k => k v28 s29) s29 (fun v30 s31 =>
  guardC v30 true (fun k => k v14 s31) s31 (fun v32 s33 =>
  guardC v30 true (fun k => binC .lss .plain v32 (.d (.int .i64 160)) s33 k) s33 (fun v34 s35 =>
  guardC v24 false (fun k => pickC v30 v34 (.d (.bool false)) s35 k) s35 (fun v36 s37 =>
  pickC v24 (.d (.bool true)) v36 s37 fun v38 s39 =>
  guardC v38 false (fun k => k v14 s39) s39 (fun v40 s41 =>
  guardC v38 false (fun k => binC .eql .plain v40 (.d (.int .i64 47)) s41 k) s41 (fun v42 s43 =>
  pickC v38 (.d (.bool true)) v42 s43 fun v44 s45 =>
  guardC v44 false (fun k => k v14 s45) s45 (fun v46 s47 =>
  guardC v44 false (fun k => binC .eql .plain v46 (.d (.int .i64 65533)) s47 k) s47 (fun v48 s49 =>
  pickC v44 (.d (.bool true)) v48 s49 fun v50 s51 =>
  guardC v50 false (fun k => k v6 s51) s51 (fun v52 s53 =>
  guardC v50 false (fun k => binC .geq .plain v52 (.d (.int .i64 16)) s53 k) s53 (fun v54 s55 =>
  pickC v50 (.d (.bool true)) v54 s55 fun v56 s57 =>
  condC v56 (Z (consO (some (.d (.int .i64 0))) (some [])) s57) (binC .add .plain v6 (.d (.int .i64 1)) s57 fun v58 s59 =>
  slcC .str v4 (some v16) none none s59 fun v60 s61 =>
  again3 [v60, v58] s61)))))))))))))))) (Z (consO (some v6) (some [])) s11)
theorem s_r06_Runes {P : Program} {x0 : AV} {σ : List AObj} {Z : Option (List AV) → List AObj → Prop} (h : S_r06_Runes P x0 σ Z) : awp P A_r06_Runes.body (AtEnd fun fr s => Z (resAs fr s A_r06_Runes.res) s) (slots0 0 [x0]) σ :=
  cast (by kernel_rfl) h
/-- bulla/op.Bytes -/
def S_op_Bytes (P : Program) (x0 : AV) (σ : List AObj) (Z : Option (List AV) → List AObj → Prop) : Prop :=
  boxC x0 σ fun v1 s2 =>
  loadC true 5 v1 s2 fun v3 s4 =>
  ACall P n_op_Check [dm v3] s4 fun v5 s6 =>
  binC .neq .plain v5 (.d (.int .i64 0)) s6 fun v7 s8 =>
  condC v7 (Z (consO (some (.exact [])) (consO (some v5) (some []))) s8) (loadC true 5 v1 s8 fun v9 s10 =>
  ACall P n_op_Put [dm (.exact []), dm v9] s10 fun v11 s12 =>
  Z (consO (some v11) (consO (some (.d (.int .i64 0))) (some []))) s12)
theorem s_op_Bytes {P : Program} {x0 : AV} {σ : List AObj} {Z : Option (List AV) → List AObj → Prop} (h : S_op_Bytes P x0 σ Z) : awp P A_op_Bytes.body (AtEnd fun fr s => Z (resAs fr s A_op_Bytes.res) s) (slots0 0 [x0]) σ :=
  cast (by kernel_rfl) h
/-- bulla/bullaref06.Same -/
def S_r06_Same (P : Program) (x0 x1 : AV) (σ : List AObj) (Z : Option (List AV) → List AObj → Prop) : Prop :=
  boxC x0 σ fun v1 s2 =>
  boxC x1 s2 fun v3 s4 =>
  faddrC 0 v1 s4 fun v5 s6 =>
  loadC false 1 v5 s6 fun v7 s8 =>
  faddrC 0 v3 s8 fun v9 s10 =>
  loadC false 1 v9 s10 fun v11 s12 =>
  binC .neq .plain v7 v11 s12 fun v13 s14 =>
  guardC v13 false (fun k => faddrC 1 v1 s14 k) s14 (fun v15 s16 =>
  guardC v13 false (fun k => loadC false 1 v15 s16 k) s16 (fun v17 s18 =>
  guardC v13 false (fun k => faddrC 1 v3 s18 k) s18 (fun v19 s20 =>
  guardC v13 false (fun k => loadC false 1 v19 s20 k) s20 (fun v21 s22 =>
  guardC v13 false (fun k => binC .neq .plain v17 v21 s22 k) s22 (fun v23 s24 =>
  pickC v13 (.d (.bool true)) v23 s24 fun v25 s26 =>
  guardC v25 false (fun k => faddrC 2 v1 s26 k) s26 (fun v27 s28 =>
  guardC v25 false (fun k => loadC false 1 v27 s28 k) s28 (fun v29 s30 =>
  guardC v25 false (fun k => faddrC 2 v3 s30 k) s30 (fun v31 s32 =>
  guardC v25 false (fun k => loadC false 1 v31 s32 k) s32 (fun v33 s34 =>
  guardC v25 false (fun k => binC .neq .plain v29 v33 s34 k) s34 (fun v35 s36 =>
  pickC v25 (.d (.bool true)) v35 s36 fun v37 s38 =>
  guardC v37 false (fun k => faddrC 3 v1 s38 k) s38 (fun v39 s40 =>
  guardC v37 false (fun k => loadC false 1 v39 s40 k) s40 (fun v41 s42 =>
  guardC v37 false (fun k => faddrC 3 v3 s42 k) s42 (fun v43 s44 =>
  guardC v37 false (fun k => loadC false 1 v43 s44 k) s44 (fun v45 s46 =>
  guardC v37 false (fun k => binC .neq .plain v41 v45 s46 k) s46 (fun v47 s48 =>
  pickC v37 (.d (.bool true)) v47 s48 fun v49 s50 =>
  guardC v49 false (fun k => faddrC 4 v1 s50 k) s50 (fun v51 s52 =>
  guardC v49 false (fun k => loadC false 1 v51 s52 k) s52 (fun v53 s54 =>
  guardC v49 false (fun k => lenC .sl v53 s54 k) s54 (fun v55 s56 =>
  guardC v49 false (fun k => faddrC 4 v3 s56 k) s56 (fun v57 s58 =>
  guardC v49 false (fun k => loadC false 1 v57 s58 k) s58 (fun v59 s60 =>
  guardC v49 false (fun k => lenC .sl v59 s60 k) s60 (fun v61 s62 =>
  guardC v49 false (fun k => binC .neq .plain v55 v61 s62 k) s62 (fun v63 s64 =>
  pickC v49 (.d (.bool true)) v63 s64 fun v65 s66 =>
  condC v65 (Z (consO (some (.d (.bool false))) (some [])) s66) (loopC [(.d (.int .i64 0))] s66 fun vs67 s68 again69 =>
  headC vs67 fun v70 vs71 =>
  faddrC 4 v1 s68 fun v72 s73 =>
  loadC false 1 v72 s73 fun v74 s75 =>
  lenC .sl v74 s75 fun v76 s77 =>
  binC .lss .plain v70 v76 s77 fun v78 s79 =>
  condC v78 (faddrC 4 v1 s79 fun v80 s81 =>
  loadC false 1 v80 s81 fun v82 s83 =>
  iaddrC none 1 v82 v70 s83 fun v84 s85 =>
  loadC false 1 v84 s85 fun v86 s87 =>
  convC .toStr v86 s87 fun v88 s89 =>
  faddrC 4 v3 s89 fun v90 s91 =>
  loadC false 1 v90 s91 fun v92 s93 =>
  iaddrC none 1 v92 v70 s93 fun v94 s95 =>
  loadC false 1 v94 s95 fun v96 s97 =>
  convC .toStr v96 s97 fun v98 s99 =>
  binC .neq .plain v88 v98 s99 fun v100 s101 =>
  condC v100 (Z (consO (some (.d (.bool false))) (some [])) s101) (binC .add .plain v70 (.d (.int .i64 1)) s101 fun v102 s103 =>
  again69 [v102] s103)) (Z (consO (some (.d (.bool true))) (some [])) s79))))))))))))))))))))))))
theorem s_r06_Same {P : Program} {x0 x1 : AV} {σ : List AObj} {Z : Option (List AV) → List AObj → Prop} (h : S_r06_Same P x0 x1 σ Z) : awp P A_r06_Same.body (AtEnd fun fr s => Z (resAs fr s A_r06_Same.res) s) (slots0 0 [x0, x1]) σ :=
  cast (by kernel_rfl) h
/-- bulla/op.Check -/
def S_op_Check (P : Program) (x0 : AV) (σ : List AObj) (Z : Option (List AV) → List AObj → Prop) : Prop :=
  boxC x0 σ fun v1 s2 =>
  loadC true 5 v1 s2 fun v3 s4 =>
  ACall P n_op_only [dm v3] s4 fun v5 s6 =>
  extractC v5 0 s6 fun v7 s8 =>
  extractC v5 1 s8 fun v9 s10 =>
  allocC [(.d (.int .i64 0)), (.d (.str [])), (.d (.str [])), (.d (.int .i64 0)), (.exact [])] s10 fun v11 s12 =>
  storeC 5 v11 v7 s12 fun _ s14 =>
  unC .not v9 s14 fun v15 s16 =>
  guardC v15 false (fun k => loadC true 5 v1 s16 k) s16 (fun v17 s18 =>
  guardC v15 false (fun k => loadC true 5 v11 s18 k) s18 (fun v19 s20 =>
  guardC v15 false (fun k => ACall P n_op_Same [dm v17, dm v19] s20 k) s20 (fun v21 s22 =>
  guardC v15 false (fun k => unC .not v21 s22 k) s22 (fun v23 s24 =>
  pickC v15 (.d (.bool true)) v23 s24 fun v25 s26 =>
  condC v25 (Z (consO (some (.d (.int .i64 60))) (some [])) s26) (faddrC 0 v1 s26 fun v27 s28 =>
  loadC false 1 v27 s28 fun v29 s30 =>
  binC .neq .plain v29 (.d (.int .i64 0)) s30 fun v31 s32 =>
  guardC v31 true (fun k => faddrC 1 v1 s32 k) s32 (fun v33 s34 =>
  guardC v31 true (fun k => loadC false 1 v33 s34 k) s34 (fun v35 s36 =>
  guardC v31 true (fun k => ACall P n_op_Name [dm v35] s36 k) s36 (fun v37 s38 =>
  guardC v31 true (fun k => unC .not v37 s38 k) s38 (fun v39 s40 =>
  pickC v31 v39 (.d (.bool false)) s40 fun v41 s42 =>
  condC v41 (Z (consO (some (.d (.int .i64 61))) (some [])) s42) (faddrC 0 v1 s42 fun v43 s44 =>
  loadC false 1 v43 s44 fun v45 s46 =>
  binC .eql .plain v45 (.d (.int .i64 3)) s46 fun v47 s48 =>
  guardC v47 true (fun k => faddrC 2 v1 s48 k) s48 (fun v49 s50 =>
  guardC v47 true (fun k => loadC false 1 v49 s50 k) s50 (fun v51 s52 =>
  guardC v47 true (fun k => ACall P n_op_Name [dm v51] s52 k) s52 (fun v53 s54 =>
  guardC v47 true (fun k => unC .not v53 s54 k) s54 (fun v55 s56 =>
  pickC v47 v55 (.d (.bool false)) s56 fun v57 s58 =>
  condC v57 (Z (consO (some (.d (.int .i64 61))) (some [])) s58) (faddrC 0 v1 s58 fun v59 s60 =>
  loadC false 1 v59 s60 fun v61 s62 =>
  binC .eql .plain v61 (.d (.int .i64 2)) s62 fun v63 s64 =>
  guardC v63 true (fun k => faddrC 4 v1 s64 k) s64 (fun v65 s66 =>
  guardC v63 true (fun k => loadC false 1 v65 s66 k) s66 (fun v67 s68 =>
  guardC v63 true (fun k => lenC .sl v67 s68 k) s68 (fun v69 s70 =>
  guardC v63 true (fun k => binC .lss .plain v69 (.d (.int .i64 1)) s70 k) s70 (fun v71 s72 =>
  guardC v63 true (fun k => k v71 s72) s72 (fun v73 s74 =>
  guardC v73 false (fun k => faddrC 4 v1 s74 k) s74 (fun v75 s76 =>
  guardC v73 false (fun k => loadC false 1 v75 s76 k) s76 (fun v77 s78 =>
  guardC v73 false (fun k => lenC .sl v77 s78 k) s78 (fun v79 s80 =>
  guardC v73 false (fun k => binC .gtr .plain v79 (.d (.int .i64 4)) s80 k) s80 (fun v81 s82 =>
  guardC v63 true (fun k => pickC v73 (.d (.bool true)) v81 s82 k) s82 (fun v83 s84 =>
  guardC v63 true (fun k => k v83 s84) s84 (fun v85 s86 =>
  guardC v85 false (fun k => faddrC 4 v1 s86 k) s86 (fun v87 s88 =>
  guardC v85 false (fun k => loadC false 1 v87 s88 k) s88 (fun v89 s90 =>
  guardC v85 false (fun k => k (.fn (.func n_op_Check_1) [] []) s90) s90 (fun v91 s92 =>
  guardC v85 false (fun k => ACall P n_slices_ContainsFunc_api_Record_api_Record [dm v89, dm v91] s92 k) s92 (fun v93 s94 =>
  guardC v63 true (fun k => pickC v85 (.d (.bool true)) v93 s94 k) s94 (fun v95 s96 =>
  pickC v63 v95 (.d (.bool false)) s96 fun v97 s98 =>
  condC v97 (Z (consO (some (.d (.int .i64 62))) (some [])) s98) (faddrC 3 v1 s98 fun v99 s100 =>
  loadC false 1 v99 s100 fun v101 s102 =>
  binC .lss .plain v101 (.d (.int .i64 0)) s102 fun v103 s104 =>
  guardC v103 false (fun k => faddrC 3 v1 s104 k) s104 (fun v105 s106 =>
  guardC v103 false (fun k => loadC false 1 v105 s106 k) s106 (fun v107 s108 =>
  guardC v103 false (fun k => binC .gtr .plain v107 (.d (.int .i64 9007199254740992)) s108 k) s108 (fun v109 s110 =>
  pickC v103 (.d (.bool true)) v109 s110 fun v111 s112 =>
  condC v111 (Z (consO (some (.d (.int .i64 60))) (some [])) s112) (Z (consO (some (.d (.int .i64 0))) (some [])) s112))))))))))))))))))))))))))))))))))))
theorem s_op_Check {P : Program} {x0 : AV} {σ : List AObj} {Z : Option (List AV) → List AObj → Prop} (h : S_op_Check P x0 σ Z) : awp P A_op_Check.body (AtEnd fun fr s => Z (resAs fr s A_op_Check.res) s) (slots0 0 [x0]) σ :=
  cast (by kernel_rfl) h
/-- bulla/bullaref06.Check -/
def S_r06_Check (P : Program) (x0 : AV) (σ : List AObj) (Z : Option (List AV) → List AObj → Prop) : Prop :=
  boxC x0 σ fun v1 s2 =>
  faddrC 0 v1 s2 fun v3 s4 =>
  loadC false 1 v3 s4 fun v5 s6 =>
  ACall P n_r06_fields [dm v5] s6 fun v7 s8 =>
  extractC v7 0 s8 fun v9 s10 =>
  extractC v7 1 s10 fun v11 s12 =>
  extractC v7 2 s12 fun v13 s14 =>
  extractC v7 3 s14 fun v15 s16 =>
  faddrC 0 v1 s16 fun v17 s18 =>
  loadC false 1 v17 s18 fun v19 s20 =>
  binC .lss .plain v19 (.d (.int .i64 0)) s20 fun v21 s22 =>
  guardC v21 false (fun k => faddrC 0 v1 s22 k) s22 (fun v23 s24 =>
  guardC v21 false (fun k => loadC false 1 v23 s24 k) s24 (fun v25 s26 =>
  guardC v21 false (fun k => binC .gtr .plain v25 (.d (.int .i64 4)) s26 k) s26 (fun v27 s28 =>
  pickC v21 (.d (.bool true)) v27 s28 fun v29 s30 =>
  guardC v29 false (fun k => k v9 s30) s30 (fun v31 s32 =>
  guardC v29 false (fun k => unC .not v31 s32 k) s32 (fun v33 s34 =>
  guardC v29 false (fun k => k v33 s34) s34 (fun v35 s36 =>
  guardC v35 true (fun k => faddrC 1 v1 s36 k) s36 (fun v37 s38 =>
  guardC v35 true (fun k => loadC false 1 v37 s38 k) s38 (fun v39 s40 =>
  guardC v35 true (fun k => binC .neq .plain v39 (.d (.str [])) s40 k) s40 (fun v41 s42 =>
  guardC v29 false (fun k => pickC v35 v41 (.d (.bool false)) s42 k) s42 (fun v43 s44 =>
  pickC v29 (.d (.bool true)) v43 s44 fun v45 s46 =>
  guardC v45 false (fun k => k v11 s46) s46 (fun v47 s48 =>
  guardC v45 false (fun k => unC .not v47 s48 k) s48 (fun v49 s50 =>
  guardC v45 false (fun k => k v49 s50) s50 (fun v51 s52 =>
  guardC v51 true (fun k => faddrC 2 v1 s52 k) s52 (fun v53 s54 =>
  guardC v51 true (fun k => loadC false 1 v53 s54 k) s54 (fun v55 s56 =>
  guardC v51 true (fun k => binC .neq .plain v55 (.d (.str [])) s56 k) s56 (fun v57 s58 =>
  guardC v45 false (fun k => pickC v51 v57 (.d (.bool false)) s58 k) s58 (fun v59 s60 =>
  pickC v45 (.d (.bool true)) v59 s60 fun v61 s62 =>
  guardC v61 false (fun k => k v13 s62) s62 (fun v63 s64 =>
  guardC v61 false (fun k => unC .not v63 s64 k) s64 (fun v65 s66 =>
  guardC v61 false (fun k => k v65 s66) s66 (fun v67 s68 =>
  guardC v67 true (fun k => faddrC 3 v1 s68 k) s68 (fun v69 s70 =>
  guardC v67 true (fun k => loadC false 1 v69 s70 k) s70 (fun v71 s72 =>
  guardC v67 true (fun k => binC .neq .plain v71 (.d (.int .i64 0)) s72 k) s72 (fun v73 s74 =>
  guardC v61 false (fun k => pickC v67 v73 (.d (.bool false)) s74 k) s74 (fun v75 s76 =>
  pickC v61 (.d (.bool true)) v75 s76 fun v77 s78 =>
  guardC v77 false (fun k => k v15 s78) s78 (fun v79 s80 =>
  guardC v77 false (fun k => unC .not v79 s80 k) s80 (fun v81 s82 =>
  guardC v77 false (fun k => k v81 s82) s82 (fun v83 s84 =>
  guardC v83 true (fun k => faddrC 4 v1 s84 k) s84 (fun v85 s86 =>
  guardC v83 true (fun k => loadC false 1 v85 s86 k) s86 (fun v87 s88 =>
  guardC v83 true (fun k => lenC .sl v87 s88 k) s88 (fun v89 s90 =>
  guardC v83 true (fun k => binC .gtr .plain v89 (.d (.int .i64 0)) s90 k) s90 (fun v91 s92 =>
  guardC v77 false (fun k => pickC v83 v91 (.d (.bool false)) s92 k) s92 (fun v93 s94 =>
  pickC v77 (.d (.bool true)) v93 s94 fun v95 s96 =>
  condC v95 (Z (consO (some (.d (.int .i64 60))) (some [])) s96) (guardC v9 true (fun k => faddrC 1 v1 s96 k) s96 (fun v97 s98 =>
  guardC v9 true (fun k => loadC false 1 v97 s98 k) s98 (fun v99 s100 =>
  guardC v9 true (fun k => ACall P n_r06_Name [dm v99] s100 k) s100 (fun v101 s102 =>
  guardC v9 true (fun k => unC .not v101 s102 k) s102 (fun v103 s104 =>
  pickC v9 v103 (.d (.bool false)) s104 fun v105 s106 =>
  guardC v105 false (fun k => k v11 s106) s106 (fun v107 s108 =>
  guardC v105 false (fun k => k v107 s108) s108 (fun v109 s110 =>
  guardC v109 true (fun k => faddrC 2 v1 s110 k) s110 (fun v111 s112 =>
  guardC v109 true (fun k => loadC false 1 v111 s112 k) s112 (fun v113 s114 =>
  guardC v109 true (fun k => ACall P n_r06_Name [dm v113] s114 k) s114 (fun v115 s116 =>
  guardC v109 true (fun k => unC .not v115 s116 k) s116 (fun v117 s118 =>
  guardC v105 false (fun k => pickC v109 v117 (.d (.bool false)) s118 k) s118 (fun v119 s120 =>
  pickC v105 (.d (.bool true)) v119 s120 fun v121 s122 =>
  condC v121 (Z (consO (some (.d (.int .i64 61))) (some [])) s122) (guardC v15 true (fun k => faddrC 4 v1 s122 k) s122 (fun v123 s124 =>
  guardC v15 true (fun k => loadC false 1 v123 s124 k) s124 (fun v125 s126 =>
  guardC v15 true (fun k => lenC .sl v125 s126 k) s126 (fun v127 s128 =>
  guardC v15 true (fun k => binC .lss .plain v127 (.d (.int .i64 1)) s128 k) s128 (fun v129 s130 =>
  guardC v15 true (fun k => k v129 s130) s130 (fun v131 s132 =>
  guardC v131 false (fun k => faddrC 4 v1 s132 k) s132 (fun v133 s134 =>
  guardC v131 false (fun k => loadC false 1 v133 s134 k) s134 (fun v135 s136 =>
  guardC v131 false (fun k => lenC .sl v135 s136 k) s136 (fun v137 s138 =>
  guardC v131 false (fun k => binC .gtr .plain v137 (.d (.int .i64 4)) s138 k) s138 (fun v139 s140 =>
  guardC v15 true (fun k => pickC v131 (.d (.bool true)) v139 s140 k) s140 (fun v141 s142 =>
  pickC v15 v141 (.d (.bool false)) s142 fun v143 s144 =>
  condC v143 (Z (consO (some (.d (.int .i64 62))) (some [])) s144) (loopC [(.d (.int .i64 0))] s144 fun vs145 s146 again147 =>
  headC vs145 fun v148 vs149 =>
  faddrC 4 v1 s146 fun v150 s151 =>
  loadC false 1 v150 s151 fun v152 s153 =>
  lenC .sl v152 s153 fun v154 s155 =>
  binC .lss .plain v148 v154 s155 fun v156 s157 =>
  condC v156 (faddrC 4 v1 s157 fun v158 s159 =>
  loadC false 1 v158 s159 fun v160 s161 =>
  iaddrC none 1 v160 v148 s161 fun v162 s163 =>
  loadC false 1 v162 s163 fun v164 s165 =>
  lenC .sl v164 s165 fun v166 s167 =>
  binC .gtr .plain v166 (.d (.int .i64 64)) s167 fun v168 s169 =>
  condC v168 (Z (consO (some (.d (.int .i64 62))) (some [])) s169) (binC .add .plain v148 (.d (.int .i64 1)) s169 fun v170 s171 =>
  again147 [v170] s171)) (faddrC 3 v1 s157 fun v172 s173 =>
  loadC false 1 v172 s173 fun v174 s175 =>
  binC .lss .plain v174 (.d (.int .i64 0)) s175 fun v176 s177 =>
  guardC v176 false (fun k => faddrC 3 v1 s177 k) s177 (fun v178 s179 =>
  guardC v176 false (fun k => loadC false 1 v178 s179 k) s179 (fun v180 s181 =>
  guardC v176 false (fun k => binC .gtr .plain v180 (.d (.int .i64 9007199254740992)) s181 k) s181 (fun v182 s183 =>
  pickC v176 (.d (.bool true)) v182 s183 fun v184 s185 =>
  condC v184 (Z (consO (some (.d (.int .i64 60))) (some [])) s185) (Z (consO (some (.d (.int .i64 0))) (some [])) s185)))))))))))))))))))))))))))))))))))))))))))))))))))))))))))))
theorem s_r06_Check {P : Program} {x0 : AV} {σ : List AObj} {Z : Option (List AV) → List AObj → Prop} (h : S_r06_Check P x0 σ Z) : awp P A_r06_Check.body (AtEnd fun fr s => Z (resAs fr s A_r06_Check.res) s) (slots0 0 [x0]) σ :=
  cast (by kernel_rfl) h
end Go.Proofs.Ytahbjkanmagndaa
