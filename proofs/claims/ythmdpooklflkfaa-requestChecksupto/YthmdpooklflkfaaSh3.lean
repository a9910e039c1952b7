/- The conditions of each function, its slots as variables, and that the logic's conditions are these. Printed by program. -/
import Derived.Test.YthmdpooklflkfaaAf3
set_option linter.all false
set_option maxRecDepth 100000
set_option linter.unusedVariables false
namespace Go.Proofs.Ythmdpooklflkfaa
open Go.AW
/-- bulla/bullalaw08.create -/
def S_l08_create (P : Program) (σ : List AObj) (Z : Option (List AV) → List AObj → Prop) : Prop :=
  allocC [(.d (.int .i64 0)), (.d (.int .i64 0)), (.d (.int .i64 0)), (.d (.str [])), (.d (.str [])), (.d (.int .i64 0)), (.exact [])] σ fun v1 s2 =>
  buildC (fillV [(.d (.int .i64 0)), (.d (.str [])), (.d (.str [])), (.d (.int .i64 0)), (.exact [])] [(0, 1, (.d (.int .i64 1))), (1, 1, (.d (.str [116])))]) s2 fun v3 s4 =>
  buildC (fillV [(.d (.int .i64 0)), (.d (.int .i64 0)), (.d (.int .i64 0)), (.d (.str [])), (.d (.str [])), (.d (.int .i64 0)), (.exact [])] [(0, 1, (.d (.int .i64 2))), (1, 1, (.d (.int .i64 7))), (2, 5, v3)]) s4 fun v5 s6 =>
  storeC 7 v1 v5 s6 fun _ s8 =>
  Z (consO (cellA v1 s8 true 7) (some [])) s8
theorem s_l08_create {P : Program} {σ : List AObj} {Z : Option (List AV) → List AObj → Prop} (h : S_l08_create P  σ Z) : awp P A_l08_create.body (AtEnd fun fr s => Z (resAs fr s A_l08_create.res) s) (slots0 0 []) σ :=
  cast (by kernel_rfl) h
/-- bulla/op.Check -/
def S_op_Check (P : Program) (x0 : AV) (σ : List AObj) (Z : Option (List AV) → List AObj → Prop) : Prop :=
  boxC x0 σ fun v1 s2 =>
  loadC true 5 v1 s2 fun v3 s4 =>
  ACall P n_op_only [dm v3] s4 fun v5 s6 =>
  extractC v5 0 s6 fun v7 s8 =>
  extractC v5 1 s8 fun v9 s10 =>
  allocC [(.d (.int .i64 0)), (.d (.str [])), (.d (.str [])), (.d (.int .i64 0)), (.exact [])] s10 fun v11 s12 =>
  storeC 5 v11 v7 s12 fun _ s14 =>
  unC .not v9 s14 fun v15 s16 =>
  guardC v15 false (fun k => loadC true 5 v1 s16 k) s16 (fun v17 s18 =>
  guardC v15 false (fun k => loadC true 5 v11 s18 k) s18 (fun v19 s20 =>
  guardC v15 false (fun k => ACall P n_op_Same [dm v17, dm v19] s20 k) s20 (fun v21 s22 =>
  guardC v15 false (fun k => unC .not v21 s22 k) s22 (fun v23 s24 =>
  pickC v15 (.d (.bool true)) v23 s24 fun v25 s26 =>
  condC v25 (Z (consO (some (.d (.int .i64 60))) (some [])) s26) (faddrC 0 v1 s26 fun v27 s28 =>
  loadC false 1 v27 s28 fun v29 s30 =>
  binC .neq .plain v29 (.d (.int .i64 0)) s30 fun v31 s32 =>
  guardC v31 true (fun k => faddrC 1 v1 s32 k) s32 (fun v33 s34 =>
  guardC v31 true (fun k => loadC false 1 v33 s34 k) s34 (fun v35 s36 =>
  guardC v31 true (fun k => ACall P n_op_Name [dm v35] s36 k) s36 (fun v37 s38 =>
  guardC v31 true (fun k => unC .not v37 s38 k) s38 (fun v39 s40 =>
  pickC v31 v39 (.d (.bool false)) s40 fun v41 s42 =>
  condC v41 (Z (consO (some (.d (.int .i64 61))) (some [])) s42) (faddrC 0 v1 s42 fun v43 s44 =>
  loadC false 1 v43 s44 fun v45 s46 =>
  binC .eql .plain v45 (.d (.int .i64 3)) s46 fun v47 s48 =>
  guardC v47 true (fun k => faddrC 2 v1 s48 k) s48 (fun v49 s50 =>
  guardC v47 true (fun k => loadC false 1 v49 s50 k) s50 (fun v51 s52 =>
  guardC v47 true (fun k => ACall P n_op_Name [dm v51] s52 k) s52 (fun v53 s54 =>
  guardC v47 true (fun k => unC .not v53 s54 k) s54 (fun v55 s56 =>
  pickC v47 v55 (.d (.bool false)) s56 fun v57 s58 =>
  condC v57 (Z (consO (some (.d (.int .i64 61))) (some [])) s58) (faddrC 0 v1 s58 fun v59 s60 =>
  loadC false 1 v59 s60 fun v61 s62 =>
  binC .eql .plain v61 (.d (.int .i64 2)) s62 fun v63 s64 =>
  guardC v63 true (fun k => faddrC 4 v1 s64 k) s64 (fun v65 s66 =>
  guardC v63 true (fun k => loadC false 1 v65 s66 k) s66 (fun v67 s68 =>
  guardC v63 true (fun k => lenC .sl v67 s68 k) s68 (fun v69 s70 =>
  guardC v63 true (fun k => binC .lss .plain v69 (.d (.int .i64 1)) s70 k) s70 (fun v71 s72 =>
  guardC v63 true (fun k => k v71 s72) s72 (fun v73 s74 =>
  guardC v73 false (fun k => faddrC 4 v1 s74 k) s74 (fun v75 s76 =>
  guardC v73 false (fun k => loadC false 1 v75 s76 k) s76 (fun v77 s78 =>
  guardC v73 false (fun k => lenC .sl v77 s78 k) s78 (fun v79 s80 =>
  guardC v73 false (fun k => binC .gtr .plain v79 (.d (.int .i64 4)) s80 k) s80 (fun v81 s82 =>
  guardC v63 true (fun k => pickC v73 (.d (.bool true)) v81 s82 k) s82 (fun v83 s84 =>
  guardC v63 true (fun k => k v83 s84) s84 (fun v85 s86 =>
  guardC v85 false (fun k => faddrC 4 v1 s86 k) s86 (fun v87 s88 =>
  guardC v85 false (fun k => loadC false 1 v87 s88 k) s88 (fun v89 s90 =>
  guardC v85 false (fun k => k (.fn (.func n_op_Check_1) [] []) s90) s90 (fun v91 s92 =>
  guardC v85 false (fun k => ACall P n_slices_ContainsFunc_api_Record_api_Record [dm v89, dm v91] s92 k) s92 (fun v93 s94 =>
  guardC v63 true (fun k => pickC v85 (.d (.bool true)) v93 s94 k) s94 (fun v95 s96 =>
  pickC v63 v95 (.d (.bool false)) s96 fun v97 s98 =>
  condC v97 (Z (consO (some (.d (.int .i64 62))) (some [])) s98) (faddrC 3 v1 s98 fun v99 s100 =>
  loadC false 1 v99 s100 fun v101 s102 =>
  binC .lss .plain v101 (.d (.int .i64 0)) s102 fun v103 s104 =>
  guardC v103 false (fun k => faddrC 3 v1 s104 k) s104 (fun v105 s106 =>
  guardC v103 false (fun k => loadC false 1 v105 s106 k) s106 (fun v107 s108 =>
  guardC v103 false (fun k => binC .gtr .plain v107 (.d (.int .i64 9007199254740992)) s108 k) s108 (fun v109 s110 =>
  pickC v103 (.d (.bool true)) v109 s110 fun v111 s112 =>
  condC v111 (Z (consO (some (.d (.int .i64 60))) (some [])) s112) (Z (consO (some (.d (.int .i64 0))) (some [])) s112))))))))))))))))))))))))))))))))))))
theorem s_op_Check {P : Program} {x0 : AV} {σ : List AObj} {Z : Option (List AV) → List AObj → Prop} (h : S_op_Check P x0 σ Z) : awp P A_op_Check.body (AtEnd fun fr s => Z (resAs fr s A_op_Check.res) s) (slots0 0 [x0]) σ :=
  cast (by kernel_rfl) h
/-- bulla/bullaref06.Check -/
def S_r06_Check (P : Program) (x0 : AV) (σ : List AObj) (Z : Option (List AV) → List AObj → Prop) : Prop :=
  boxC x0 σ fun v1 s2 =>
  faddrC 0 v1 s2 fun v3 s4 =>
  loadC false 1 v3 s4 fun v5 s6 =>
  ACall P n_r06_fields [dm v5] s6 fun v7 s8 =>
  extractC v7 0 s8 fun v9 s10 =>
  extractC v7 1 s10 fun v11 s12 =>
  extractC v7 2 s12 fun v13 s14 =>
  extractC v7 3 s14 fun v15 s16 =>
  faddrC 0 v1 s16 fun v17 s18 =>
  loadC false 1 v17 s18 fun v19 s20 =>
  binC .lss .plain v19 (.d (.int .i64 0)) s20 fun v21 s22 =>
  guardC v21 false (fun k => faddrC 0 v1 s22 k) s22 (fun v23 s24 =>
  guardC v21 false (fun k => loadC false 1 v23 s24 k) s24 (fun v25 s26 =>
  guardC v21 false (fun k => binC .gtr .plain v25 (.d (.int .i64 4)) s26 k) s26 (fun v27 s28 =>
  pickC v21 (.d (.bool true)) v27 s28 fun v29 s30 =>
  guardC v29 false (fun k => k v9 s30) s30 (fun v31 s32 =>
  guardC v29 false (fun k => unC .not v31 s32 k) s32 (fun v33 s34 =>
  guardC v29 false (fun k => k v33 s34) s34 (fun v35 s36 =>
  guardC v35 true (fun k => faddrC 1 v1 s36 k) s36 (fun v37 s38 =>
  guardC v35 true (fun k => loadC false 1 v37 s38 k) s38 (fun v39 s40 =>
  guardC v35 true (fun k => binC .neq .plain v39 (.d (.str [])) s40 k) s40 (fun v41 s42 =>
  guardC v29 false (fun k => pickC v35 v41 (.d (.bool false)) s42 k) s42 (fun v43 s44 =>
  pickC v29 (.d (.bool true)) v43 s44 fun v45 s46 =>
  guardC v45 false (fun k => k v11 s46) s46 (fun v47 s48 =>
  guardC v45 false (fun k => unC .not v47 s48 k) s48 (fun v49 s50 =>
  guardC v45 false (fun k => k v49 s50) s50 (fun v51 s52 =>
  guardC v51 true (fun k => faddrC 2 v1 s52 k) s52 (fun v53 s54 =>
  guardC v51 true (fun k => loadC false 1 v53 s54 k) s54 (fun v55 s56 =>
  guardC v51 true (fun k => binC .neq .plain v55 (.d (.str [])) s56 k) s56 (fun v57 s58 =>
  guardC v45 false (fun k => pickC v51 v57 (.d (.bool false)) s58 k) s58 (fun v59 s60 =>
  pickC v45 (.d (.bool true)) v59 s60 fun v61 s62 =>
  guardC v61 false (fun k => k v13 s62) s62 (fun v63 s64 =>
  guardC v61 false (fun k => unC .not v63 s64 k) s64 (fun v65 s66 =>
  guardC v61 false (fun k => k v65 s66) s66 (fun v67 s68 =>
  guardC v67 true (fun k => faddrC 3 v1 s68 k) s68 (fun v69 s70 =>
  guardC v67 true (fun k => loadC false 1 v69 s70 k) s70 (fun v71 s72 =>
  guardC v67 true (fun k => binC .neq .plain v71 (.d (.int .i64 0)) s72 k) s72 (fun v73 s74 =>
  guardC v61 false (fun k => pickC v67 v73 (.d (.bool false)) s74 k) s74 (fun v75 s76 =>
  pickC v61 (.d (.bool true)) v75 s76 fun v77 s78 =>
  guardC v77 false (fun k => k v15 s78) s78 (fun v79 s80 =>
  guardC v77 false (fun k => unC .not v79 s80 k) s80 (fun v81 s82 =>
  guardC v77 false (fun k => k v81 s82) s82 (fun v83 s84 =>
  guardC v83 true (fun k => faddrC 4 v1 s84 k) s84 (fun v85 s86 =>
  guardC v83 true (fun k => loadC false 1 v85 s86 k) s86 (fun v87 s88 =>
  guardC v83 true (fun k => lenC .sl v87 s88 k) s88 (fun v89 s90 =>
  guardC v83 true (fun k => binC .gtr .plain v89 (.d (.int .i64 0)) s90 k) s90 (fun v91 s92 =>
  guardC v77 false (fun k => pickC v83 v91 (.d (.bool false)) s92 k) s92 (fun v93 s94 =>
  pickC v77 (.d (.bool true)) v93 s94 fun v95 s96 =>
  condC v95 (Z (consO (some (.d (.int .i64 60))) (some [])) s96) (guardC v9 true (fun k => faddrC 1 v1 s96 k) s96 (fun v97 s98 =>
  guardC v9 true (fun k => loadC false 1 v97 s98 k) s98 (fun v99 s100 =>
  guardC v9 true (fun k => ACall P n_r06_Name [dm v99] s100 k) s100 (fun v101 s102 =>
  guardC v9 true (fun k => unC .not v101 s102 k) s102 (fun v103 s104 =>
  pickC v9 v103 (.d (.bool false)) s104 fun v105 s106 =>
  guardC v105 false (fun k => k v11 s106) s106 (fun v107 s108 =>
  guardC v105 false (fun k => k v107 s108) s108 (fun v109 s110 =>
  guardC v109 true (fun k => faddrC 2 v1 s110 k) s110 (fun v111 s112 =>
  guardC v109 true (fun k => loadC false 1 v111 s112 k) s112 (fun v113 s114 =>
  guardC v109 true (fun k => ACall P n_r06_Name [dm v113] s114 k) s114 (fun v115 s116 =>
  guardC v109 true (fun k => unC .not v115 s116 k) s116 (fun v117 s118 =>
  guardC v105 false (fun k => pickC v109 v117 (.d (.bool false)) s118 k) s118 (fun v119 s120 =>
  pickC v105 (.d (.bool true)) v119 s120 fun v121 s122 =>
  condC v121 (Z (consO (some (.d (.int .i64 61))) (some [])) s122) (guardC v15 true (fun k => faddrC 4 v1 s122 k) s122 (fun v123 s124 =>
  guardC v15 true (fun k => loadC false 1 v123 s124 k) s124 (fun v125 s126 =>
  guardC v15 true (fun k => lenC .sl v125 s126 k) s126 (fun v127 s128 =>
  guardC v15 true (fun k => binC .lss .plain v127 (.d (.int .i64 1)) s128 k) s128 (fun v129 s130 =>
  guardC v15 true (fun k => k v129 s130) s130 (fun v131 s132 =>
  guardC v131 false (fun k => faddrC 4 v1 s132 k) s132 (fun v133 s134 =>
  guardC v131 false (fun k => loadC false 1 v133 s134 k) s134 (fun v135 s136 =>
  guardC v131 false (fun k => lenC .sl v135 s136 k) s136 (fun v137 s138 =>
  guardC v131 false (fun k => binC .gtr .plain v137 (.d (.int .i64 4)) s138 k) s138 (fun v139 s140 =>
  guardC v15 true (fun k => pickC v131 (.d (.bool true)) v139 s140 k) s140 (fun v141 s142 =>
  pickC v15 v141 (.d (.bool false)) s142 fun v143 s144 =>
  condC v143 (Z (consO (some (.d (.int .i64 62))) (some [])) s144) (loopC [(.d (.int .i64 0))] s144 fun vs145 s146 again147 =>
  headC vs145 fun v148 vs149 =>
  faddrC 4 v1 s146 fun v150 s151 =>
  loadC false 1 v150 s151 fun v152 s153 =>
  lenC .sl v152 s153 fun v154 s155 =>
  binC .lss .plain v148 v154 s155 fun v156 s157 =>
  condC v156 (faddrC 4 v1 s157 fun v158 s159 =>
  loadC false 1 v158 s159 fun v160 s161 =>
  iaddrC none 1 v160 v148 s161 fun v162 s163 =>
  loadC false 1 v162 s163 fun v164 s165 =>
  lenC .sl v164 s165 fun v166 s167 =>
  binC .gtr .plain v166 (.d (.int .i64 64)) s167 fun v168 s169 =>
  condC v168 (Z (consO (some (.d (.int .i64 62))) (some [])) s169) (binC .add .plain v148 (.d (.int .i64 1)) s169 fun v170 s171 =>
  again147 [v170] s171)) (faddrC 3 v1 s157 fun v172 s173 =>
  loadC false 1 v172 s173 fun v174 s175 =>
  binC .lss .plain v174 (.d (.int .i64 0)) s175 fun v176 s177 =>
  guardC v176 false (fun k => faddrC 3 v1 s177 k) s177 (fun v178 s179 =>
  guardC v176 false (fun k => loadC false 1 v178 s179 k) s179 (fun v180 s181 =>
  guardC v176 false (fun k => binC .gtr .plain v180 (.d (.int .i64 9007199254740992)) s181 k) s181 (fun v182 s183 =>
  pickC v176 (.d (.bool true)) v182 s183 fun v184 s185 =>
  condC v184 (Z (consO (some (.d (.int .i64 60))) (some [])) s185) (Z (consO (some (.d (.int .i64 0))) (some [])) s185)))))))))))))))))))))))))))))))))))))))))))))))))))))))))))))
theorem s_r06_Check {P : Program} {x0 : AV} {σ : List AObj} {Z : Option (List AV) → List AObj → Prop} (h : S_r06_Check P x0 σ Z) : awp P A_r06_Check.body (AtEnd fun fr s => Z (resAs fr s A_r06_Check.res) s) (slots0 0 [x0]) σ :=
  cast (by kernel_rfl) h
/-- slices.EqualFunc[bulla/api.Batch,bulla/api.Batch,bulla/api.Signed,bulla/api.Signed] -/
def S_slices_EqualFunc_api_Batch_api_Batch_api_Signed_api_Signed (P : Program) (x0 x1 x2 : AV) (σ : List AObj) (Z : Option (List AV) → List AObj → Prop) : Prop :=
  lenC .sl x0 σ fun v1 s2 =>
  lenC .sl x1 s2 fun v3 s4 =>
  binC .neq .plain v1 v3 s4 fun v5 s6 =>
  condC v5 (Z (consO (some (.d (.bool false))) (some [])) s6) (lenC .sl x0 s6 fun v7 s8 =>
  loopC [(.d (.int .i64 0))] s8 fun vs9 s10 again11 =>
  headC vs9 fun v12 vs13 =>
  binC .lss .plain v12 v7 s10 fun v14 s15 =>
  condC v14 (iaddrC none 9 x0 v12 s15 fun v16 s17 =>
  loadC true 9 v16 s17 fun v18 s19 =>
  allocC [(.d (.int .i64 0)), (.d (.int .i64 0)), (.d (.int .i64 0)), (.d (.str [])), (.d (.str [])), (.d (.int .i64 0)), (.exact []), (.d (.int .i64 0)), (.d (.int .i64 0))] s19 fun v20 s21 =>
  storeC 9 v20 v18 s21 fun _ s23 =>
  iaddrC none 9 x1 v12 s23 fun v24 s25 =>
  loadC true 9 v24 s25 fun v26 s27 =>
  allocC [(.d (.int .i64 0)), (.d (.int .i64 0)), (.d (.int .i64 0)), (.d (.str [])), (.d (.str [])), (.d (.int .i64 0)), (.exact []), (.d (.int .i64 0)), (.d (.int .i64 0))] s27 fun v28 s29 =>
  storeC 9 v28 v26 s29 fun _ s31 =>
  loadC true 9 v20 s31 fun v32 s33 =>
  loadC true 9 v28 s33 fun v34 s35 =>
  callvC P x2 [dm v32, dm v34] s35 fun v36 s37 =>
  unC .not v36 s37 fun v38 s39 =>
  condC v38 (Z (consO (some (.d (.bool false))) (some [])) s39) (binC .add .plain v12 (.d (.int .i64 1)) s39 fun v40 s41 =>
  again11 [v40] s41)) (Z (consO (some (.d (.bool true))) (some [])) s15))
theorem s_slices_EqualFunc_api_Batch_api_Batch_api_Signed_api_Signed {P : Program} {x0 x1 x2 : AV} {σ : List AObj} {Z : Option (List AV) → List AObj → Prop} (h : S_slices_EqualFunc_api_Batch_api_Batch_api_Signed_api_Signed P x0 x1 x2 σ Z) : awp P A_slices_EqualFunc_api_Batch_api_Batch_api_Signed_api_Signed.body (AtEnd fun fr s => Z (resAs fr s A_slices_EqualFunc_api_Batch_api_Batch_api_Signed_api_Signed.res) s) (slots0 0 [x0, x1, x2]) σ :=
  cast (by kernel_rfl) h
/-- bulla/request.Same$1 -/
def S_request_Same_1 (P : Program) (x0 x1 : AV) (σ : List AObj) (Z : Option (List AV) → List AObj → Prop) : Prop :=
  boxC x0 σ fun v1 s2 =>
  boxC x1 s2 fun v3 s4 =>
  faddrC 7 v1 s4 fun v5 s6 =>
  loadC true 2 v5 s6 fun v7 s8 =>
  faddrC 7 v3 s8 fun v9 s10 =>
  loadC true 2 v9 s10 fun v11 s12 =>
  binC .eql (.ints 2) v7 v11 s12 fun v13 s14 =>
  guardC v13 true (fun k => faddrC 0 v1 s14 k) s14 (fun v15 s16 =>
  guardC v13 true (fun k => faddrC 0 v15 s16 k) s16 (fun v17 s18 =>
  guardC v13 true (fun k => loadC false 1 v17 s18 k) s18 (fun v19 s20 =>
  guardC v13 true (fun k => faddrC 0 v3 s20 k) s20 (fun v21 s22 =>
  guardC v13 true (fun k => faddrC 0 v21 s22 k) s22 (fun v23 s24 =>
  guardC v13 true (fun k => loadC false 1 v23 s24 k) s24 (fun v25 s26 =>
  guardC v13 true (fun k => binC .eql .plain v19 v25 s26 k) s26 (fun v27 s28 =>
  pickC v13 v27 (.d (.bool false)) s28 fun v29 s30 =>
  guardC v29 true (fun k => faddrC 0 v1 s30 k) s30 (fun v31 s32 =>
  guardC v29 true (fun k => faddrC 1 v31 s32 k) s32 (fun v33 s34 =>
  guardC v29 true (fun k => loadC false 1 v33 s34 k) s34 (fun v35 s36 =>
  guardC v29 true (fun k => faddrC 0 v3 s36 k) s36 (fun v37 s38 =>
  guardC v29 true (fun k => faddrC 1 v37 s38 k) s38 (fun v39 s40 =>
  guardC v29 true (fun k => loadC false 1 v39 s40 k) s40 (fun v41 s42 =>
  guardC v29 true (fun k => binC .eql .plain v35 v41 s42 k) s42 (fun v43 s44 =>
  pickC v29 v43 (.d (.bool false)) s44 fun v45 s46 =>
  guardC v45 true (fun k => faddrC 0 v1 s46 k) s46 (fun v47 s48 =>
  guardC v45 true (fun k => faddrC 2 v47 s48 k) s48 (fun v49 s50 =>
  guardC v45 true (fun k => loadC true 5 v49 s50 k) s50 (fun v51 s52 =>
  guardC v45 true (fun k => faddrC 0 v3 s52 k) s52 (fun v53 s54 =>
  guardC v45 true (fun k => faddrC 2 v53 s54 k) s54 (fun v55 s56 =>
  guardC v45 true (fun k => loadC true 5 v55 s56 k) s56 (fun v57 s58 =>
  guardC v45 true (fun k => ACall P n_op_Same [dm v51, dm v57] s58 k) s58 (fun v59 s60 =>
  pickC v45 v59 (.d (.bool false)) s60 fun v61 s62 =>
  Z (consO (some v61) (some [])) s62)))))))))))))))))))))
theorem s_request_Same_1 {P : Program} {x0 x1 : AV} {σ : List AObj} {Z : Option (List AV) → List AObj → Prop} (h : S_request_Same_1 P x0 x1 σ Z) : awp P A_request_Same_1.body (AtEnd fun fr s => Z (resAs fr s A_request_Same_1.res) s) (slots0 0 [x0, x1]) σ :=
  cast (by kernel_rfl) h
/-- bulla/op.Same -/
def S_op_Same (P : Program) (x0 x1 : AV) (σ : List AObj) (Z : Option (List AV) → List AObj → Prop) : Prop :=
  boxC x0 σ fun v1 s2 =>
  boxC x1 s2 fun v3 s4 =>
  faddrC 0 v1 s4 fun v5 s6 =>
  loadC false 1 v5 s6 fun v7 s8 =>
  faddrC 0 v3 s8 fun v9 s10 =>
  loadC false 1 v9 s10 fun v11 s12 =>
  binC .eql .plain v7 v11 s12 fun v13 s14 =>
  guardC v13 true (fun k => faddrC 1 v1 s14 k) s14 (fun v15 s16 =>
  guardC v13 true (fun k => loadC false 1 v15 s16 k) s16 (fun v17 s18 =>
  guardC v13 true (fun k => faddrC 1 v3 s18 k) s18 (fun v19 s20 =>
  guardC v13 true (fun k => loadC false 1 v19 s20 k) s20 (fun v21 s22 =>
  guardC v13 true (fun k => binC .eql .plain v17 v21 s22 k) s22 (fun v23 s24 =>
  pickC v13 v23 (.d (.bool false)) s24 fun v25 s26 =>
  guardC v25 true (fun k => faddrC 2 v1 s26 k) s26 (fun v27 s28 =>
  guardC v25 true (fun k => loadC false 1 v27 s28 k) s28 (fun v29 s30 =>
  guardC v25 true (fun k => faddrC 2 v3 s30 k) s30 (fun v31 s32 =>
  guardC v25 true (fun k => loadC false 1 v31 s32 k) s32 (fun v33 s34 =>
  guardC v25 true (fun k => binC .eql .plain v29 v33 s34 k) s34 (fun v35 s36 =>
  pickC v25 v35 (.d (.bool false)) s36 fun v37 s38 =>
  guardC v37 true (fun k => faddrC 3 v1 s38 k) s38 (fun v39 s40 =>
  guardC v37 true (fun k => loadC false 1 v39 s40 k) s40 (fun v41 s42 =>
  guardC v37 true (fun k => faddrC 3 v3 s42 k) s42 (fun v43 s44 =>
  guardC v37 true (fun k => loadC false 1 v43 s44 k) s44 (fun v45 s46 =>
  guardC v37 true (fun k => binC .eql .plain v41 v45 s46 k) s46 (fun v47 s48 =>
  pickC v37 v47 (.d (.bool false)) s48 fun v49 s50 =>
  guardC v49 true (fun k => faddrC 4 v1 s50 k) s50 (fun v51 s52 =>
  guardC v49 true (fun k => loadC false 1 v51 s52 k) s52 (fun v53 s54 =>
  guardC v49 true (fun k => faddrC 4 v3 s54 k) s54 (fun v55 s56 =>
  guardC v49 true (fun k => loadC false 1 v55 s56 k) s56 (fun v57 s58 =>
  guardC v49 true (fun k => ACall P n_slices_EqualFunc_api_Record_api_Record_api_Record_api_Record [dm v53, dm v57, dm (.fn (.func n_op_Same_1) [] [])] s58 k) s58 (fun v59 s60 =>
  pickC v49 v59 (.d (.bool false)) s60 fun v61 s62 =>
  Z (consO (some v61) (some [])) s62))))))))))))))))))))
theorem s_op_Same {P : Program} {x0 x1 : AV} {σ : List AObj} {Z : Option (List AV) → List AObj → Prop} (h : S_op_Same P x0 x1 σ Z) : awp P A_op_Same.body (AtEnd fun fr s => Z (resAs fr s A_op_Same.res) s) (slots0 0 [x0, x1]) σ :=
  cast (by kernel_rfl) h
/-- bulla/op.Clone -/
def S_op_Clone (P : Program) (x0 : AV) (σ : List AObj) (Z : Option (List AV) → List AObj → Prop) : Prop :=
  boxC x0 σ fun v1 s2 =>
  allocC [(.d (.int .i64 0)), (.d (.str [])), (.d (.str [])), (.d (.int .i64 0)), (.exact [])] s2 fun v3 s4 =>
  faddrC 4 v1 s4 fun v5 s6 =>
  loadC false 1 v5 s6 fun v7 s8 =>
  lenC .sl v7 s8 fun v9 s10 =>
  loopC [(.exact []), (.d (.int .i64 0))] s10 fun vs11 s12 again13 =>
  headC vs11 fun v14 vs15 =>
  headC vs15 fun v16 vs17 =>
  binC .lss .plain v16 v9 s12 fun v18 s19 =>
  condC v18 (iaddrC none 1 v7 v16 s19 fun v20 s21 =>
  loadC false 1 v20 s21 fun v22 s23 =>
  ACall P n_bytes_Clone [dm v22] s23 fun v24 s25 =>
  mksliceC false 1 1 (fillV (rep [(.exact [])] 1) [(0, 1, v24)]) s25 fun v26 s27 =>
  appendC 1 24 v14 v26 s27 fun v28 s29 =>
  binC .add .plain v16 (.d (.int .i64 1)) s29 fun v30 s31 =>
  again13 [v28, v30] s31) (faddrC 4 v1 s19 fun v32 s33 =>
  storeC 1 v32 v14 s33 fun _ s35 =>
  loadC true 5 v1 s35 fun v36 s37 =>
  storeC 5 v3 v36 s37 fun _ s39 =>
  Z (consO (cellA v3 s39 true 5) (some [])) s39)
theorem s_op_Clone {P : Program} {x0 : AV} {σ : List AObj} {Z : Option (List AV) → List AObj → Prop} (h : S_op_Clone P x0 σ Z) : awp P A_op_Clone.body (AtEnd fun fr s => Z (resAs fr s A_op_Clone.res) s) (slots0 0 [x0]) σ :=
  cast (by kernel_rfl) h
/-- bulla/op.Clone -/
def Sm_op_Clone (P : Program) (x0 : AV) (σ : List AObj) (Z : Option (List AV) → List AObj → Prop) : Prop :=
  boxC x0 σ fun v1 s2 =>
  allocC [(.d (.int .i64 0)), (.d (.str [])), (.d (.str [])), (.d (.int .i64 0)), (.exact [])] s2 fun v3 s4 =>
  faddrC 4 v1 s4 fun v5 s6 =>
  loadC false 1 v5 s6 fun v7 s8 =>
  lenC .sl v7 s8 fun v9 s10 =>
  loopC [(.exact []), (.d (.int .i64 0))] s10 fun vs11 s12 again13 =>
  headC vs11 fun v14 vs15 =>
  headC vs15 fun v16 vs17 =>
  binC .lss .plain v16 v9 s12 fun v18 s19 =>
  condC v18 (iaddrC none 1 v7 v16 s19 fun v20 s21 =>
  loadC false 1 v20 s21 fun v22 s23 =>
  ACall P n_bytes_Clone [v22] s23 fun v24 s25 =>
  mksliceC true 1 1 (fillV (rep [(.exact [])] 1) [(0, 1, v24)]) s25 fun v26 s27 =>
  appendRC 1 24 v14 v26 s27 fun v28 s29 =>
  binC .add .plain v16 (.d (.int .i64 1)) s29 fun v30 s31 =>
  again13 [v28, v30] s31) (faddrC 4 v1 s19 fun v32 s33 =>
  storeC 1 v32 v14 s33 fun _ s35 =>
  loadC true 5 v1 s35 fun v36 s37 =>
  storeC 5 v3 v36 s37 fun _ s39 =>
  Z (consO (cellA v3 s39 true 5) (some [])) s39)
theorem sm_op_Clone {P : Program} {x0 : AV} {σ : List AObj} {Z : Option (List AV) → List AObj → Prop} (h : Sm_op_Clone P x0 σ Z) : awp P Am_op_Clone.body (AtEnd fun fr s => Z (resAs fr s Am_op_Clone.res) s) (slots0 0 [x0]) σ :=
  cast (by kernel_rfl) h
/-- bulla/op.Put -/
def S_op_Put (P : Program) (x0 x1 : AV) (σ : List AObj) (Z : Option (List AV) → List AObj → Prop) : Prop :=
  boxC x1 σ fun v1 s2 =>
  ACall P n_bytes_Clone [dm x0] s2 fun v3 s4 =>
  loadC true 5 v1 s4 fun v5 s6 =>
  ACall P n_op_Check [dm v5] s6 fun v7 s8 =>
  binC .neq .plain v7 (.d (.int .i64 0)) s8 fun v9 s10 =>
  condC v9 (Z (consO (some v3) (some [])) s10) (faddrC 0 v1 s10 fun v11 s12 =>
  loadC false 1 v11 s12 fun v13 s14 =>
  convC (.int .u64) v13 s14 fun v15 s16 =>
  ACall P n_codec_PutNum [dm v3, dm v15] s16 fun v17 s18 =>
  (fun (k19 : AV → List AObj → Prop) => faddrC 0 v1 s18 fun v92 s93 =>
  loadC false 1 v92 s93 fun v94 s95 =>
  binC .neq .plain v94 (.d (.int .i64 0)) s95 fun v96 s97 =>
  condC v96 (faddrC 1 v1 s97 fun v98 s99 =>
  loadC false 1 v98 s99 fun v100 s101 =>
  convC .toBytes v100 s101 fun v102 s103 =>
  ACall P n_codec_PutBytes [dm v17, dm v102] s103 fun v104 s105 =>
  k19 v104 s105) (k19 v17 s97))
  (fun v20 s21 => (fun (k22 : AV → List AObj → Prop) => faddrC 0 v1 s21 fun v25 s26 =>
  loadC false 1 v25 s26 fun v27 s28 =>
  binC .eql .plain v27 (.d (.int .i64 2)) s28 fun v29 s30 =>
  condC v29 (faddrC 4 v1 s30 fun v31 s32 =>
  loadC false 1 v31 s32 fun v33 s34 =>
  lenC .sl v33 s34 fun v35 s36 =>
  convC (.int .u64) v35 s36 fun v37 s38 =>
  ACall P n_codec_PutNum [dm v20, dm v37] s38 fun v39 s40 =>
  faddrC 4 v1 s40 fun v41 s42 =>
  loadC false 1 v41 s42 fun v43 s44 =>
  lenC .sl v43 s44 fun v45 s46 =>
  loopC [v39, (.d (.int .i64 0))] s46 fun vs47 s48 again49 =>
  headC vs47 fun v50 vs51 =>
  headC vs51 fun v52 vs53 =>
  binC .lss .plain v52 v45 s48 fun v54 s55 =>
  condC v54 (iaddrC none 1 v43 v52 s55 fun v56 s57 =>
  loadC false 1 v56 s57 fun v58 s59 =>
  ACall P n_codec_PutBytes [dm v50, dm v58] s59 fun v60 s61 =>
  binC .add .plain v52 (.d (.int .i64 1)) s61 fun v62 s63 =>
  again49 [v60, v62] s63) (k22 v50 s55)) (binC .eql .plain v27 (.d (.int .i64 3)) s30 fun v64 s65 =>
  condC v64 (faddrC 2 v1 s65 fun v66 s67 =>
  loadC false 1 v66 s67 fun v68 s69 =>
  convC .toBytes v68 s69 fun v70 s71 =>
  faddrC 3 v1 s71 fun v72 s73 =>
  loadC false 1 v72 s73 fun v74 s75 =>
  convC (.int .u64) v74 s75 fun v76 s77 =>
  ACall P n_codec_PutBytes [dm v20, dm v70] s77 fun v78 s79 =>
  keepO v72 s77 s79 ∧ (ACall P n_codec_PutNum [dm v78, dm v76] s79 fun v80 s81 =>
  k22 v80 s81)) (binC .eql .plain v27 (.d (.int .i64 4)) s65 fun v82 s83 =>
  condC v82 (faddrC 3 v1 s83 fun v84 s85 =>
  loadC false 1 v84 s85 fun v86 s87 =>
  convC (.int .u64) v86 s87 fun v88 s89 =>
  ACall P n_codec_PutNum [dm v20, dm v88] s89 fun v90 s91 =>
  k22 v90 s91) (k22 v20 s83))))
  (fun v23 s24 => Z (consO (some v23) (some [])) s24)))
theorem s_op_Put {P : Program} {x0 x1 : AV} {σ : List AObj} {Z : Option (List AV) → List AObj → Prop} (h : S_op_Put P x0 x1 σ Z) : awp P A_op_Put.body (AtEnd fun fr s => Z (resAs fr s A_op_Put.res) s) (slots0 0 [x0, x1]) σ :=
  cast (by kernel_rfl) h
/-- bulla/codec.PutNum -/
def S_codec_PutNum (P : Program) (x0 x1 : AV) (σ : List AObj) (Z : Option (List AV) → List AObj → Prop) : Prop :=
  ACall P n_codec_form [dm x1] σ fun v1 s2 =>
  extractC v1 0 s2 fun v3 s4 =>
  extractC v1 1 s4 fun v5 s6 =>
  allocC [(.d (.int .u8 0)), (.d (.int .u8 0)), (.d (.int .u8 0)), (.d (.int .u8 0)), (.d (.int .u8 0)), (.d (.int .u8 0)), (.d (.int .u8 0)), (.d (.int .u8 0)), (.d (.int .u8 0)), (.d (.int .u8 0))] s6 fun v7 s8 =>
  storeC 10 v7 v3 s8 fun _ s10 =>
  slcC (.arr 10 1) v7 none (some v5) none s10 fun v11 s12 =>
  ACall P n_slices_Clip_byte_byte [dm x0] s12 fun v13 s14 =>
  appendC 1 1 v13 v11 s14 fun v15 s16 =>
  Z (consO (some v15) (some [])) s16
theorem s_codec_PutNum {P : Program} {x0 x1 : AV} {σ : List AObj} {Z : Option (List AV) → List AObj → Prop} (h : S_codec_PutNum P x0 x1 σ Z) : awp P A_codec_PutNum.body (AtEnd fun fr s => Z (resAs fr s A_codec_PutNum.res) s) (slots0 0 [x0, x1]) σ :=
  cast (by kernel_rfl) h
/-- bytes.Clone -/
def S_bytes_Clone (P : Program) (x0 : AV) (σ : List AObj) (Z : Option (List AV) → List AObj → Prop) : Prop :=
  isnilC false x0 σ fun v1 s2 =>
  condC v1 (Z (consO (some (.exact [])) (some [])) s2) (mksliceC false 1 0 (fillV (rep [(.d (.int .u8 0))] 0) []) s2 fun v3 s4 =>
  appendC 1 1 v3 x0 s4 fun v5 s6 =>
  Z (consO (some v5) (some [])) s6)
theorem s_bytes_Clone {P : Program} {x0 : AV} {σ : List AObj} {Z : Option (List AV) → List AObj → Prop} (h : S_bytes_Clone P x0 σ Z) : awp P A_bytes_Clone.body (AtEnd fun fr s => Z (resAs fr s A_bytes_Clone.res) s) (slots0 0 [x0]) σ :=
  cast (by kernel_rfl) h
/-- bytes.Clone -/
def Sm_bytes_Clone (P : Program) (x0 : AV) (σ : List AObj) (Z : Option (List AV) → List AObj → Prop) : Prop :=
  isnilC false x0 σ fun v1 s2 =>
  condC v1 (Z (consO (some (.exact [])) (some [])) s2) (mksliceC true 1 0 (fillV (rep [(.d (.int .u8 0))] 0) []) s2 fun v3 s4 =>
  appendRC 1 1 v3 x0 s4 fun v5 s6 =>
  Z (consO (some v5) (some [])) s6)
theorem sm_bytes_Clone {P : Program} {x0 : AV} {σ : List AObj} {Z : Option (List AV) → List AObj → Prop} (h : Sm_bytes_Clone P x0 σ Z) : awp P Am_bytes_Clone.body (AtEnd fun fr s => Z (resAs fr s Am_bytes_Clone.res) s) (slots0 0 [x0]) σ :=
  cast (by kernel_rfl) h
/-- bulla/request.made -/
def S_request_made (P : Program) (x0 x1 : AV) (σ : List AObj) (Z : Option (List AV) → List AObj → Prop) : Prop :=
  ACall P n_request_known [dm x0] σ fun v1 s2 =>
  guardC v1 true (fun k => k x1 s2) s2 (fun v3 s4 =>
  guardC v1 true (fun k => ACall P n_ideal_Ledger_Len [dm v3] s4 k) s4 (fun v5 s6 =>
  guardC v1 true (fun k => binC .gtr .plain v5 (.d (.int .i64 0)) s6 k) s6 (fun v7 s8 =>
  guardC v1 true (fun k => k v7 s8) s8 (fun v9 s10 =>
  guardC v9 false (fun k => k x1 s10) s10 (fun v11 s12 =>
  guardC v9 false (fun k => ACall P n_ideal_Ledger_Clone [dm v11] s12 k) s12 (fun v13 s14 =>
  guardC v9 false (fun k => binC .neq .ptr v13 (.d .nilp) s14 k) s14 (fun v15 s16 =>
  guardC v1 true (fun k => pickC v9 (.d (.bool true)) v15 s16 k) s16 (fun v17 s18 =>
  pickC v1 v17 (.d (.bool false)) s18 fun v19 s20 =>
  Z (consO (some v19) (some [])) s20))))))))
theorem s_request_made {P : Program} {x0 x1 : AV} {σ : List AObj} {Z : Option (List AV) → List AObj → Prop} (h : S_request_made P x0 x1 σ Z) : awp P A_request_made.body (AtEnd fun fr s => Z (resAs fr s A_request_made.res) s) (slots0 0 [x0, x1]) σ :=
  cast (by kernel_rfl) h
end Go.Proofs.Ythmdpooklflkfaa
