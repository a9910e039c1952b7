/- The conditions of each function, its slots as variables, and that the logic's conditions are these. Printed by program. -/
import Derived.Test.YtfnnejokhikefaaAf1
set_option linter.all false
set_option maxRecDepth 100000
set_option linter.unusedVariables false
namespace Go.Proofs.Ytfnnejokhikefaa
open Go.AW
/-- bulla/bullalaw18.PoolOnce -/
def S_l18_PoolOnce (P : Program) (x0 x1 : AV) (σ : List AObj) (Z : Option (List AV) → List AObj → Prop) : Prop :=
  ACall P n_pool_New [] σ fun v1 s2 =>
  ACall P n_l18_begun [] s2 fun v3 s4 =>
  unC .not v3 s4 fun v5 s6 =>
  guardC v5 false (fun k => k v1 s6) s6 (fun v7 s8 =>
  guardC v5 false (fun k => binC .eql .ptr v7 (.d .nilp) s8 k) s8 (fun v9 s10 =>
  pickC v5 (.d (.bool true)) v9 s10 fun v11 s12 =>
  condC v11 (Z (consO (some (.d (.bool false))) (some [])) s12) (lenC .sl x0 s12 fun v13 s14 =>
  loopC [(.d (.int .i64 0))] s14 fun vs15 s16 again17 =>
  headC vs15 fun v18 vs19 =>
  binC .lss .plain v18 v13 s16 fun v20 s21 =>
  condC v20 (iaddrC none 13 x0 v18 s21 fun v22 s23 =>
  loadC true 13 v22 s23 fun v24 s25 =>
  allocC [(.d (.int .i64 0)), (.d (.int .i64 0)), (.d (.int .i64 0)), (.d (.int .i64 0)), (.d (.str [])), (.d (.str [])), (.d (.int .i64 0)), (.exact []), (.d (.int .i64 0)), (.d (.int .i64 0)), (.d (.int .i64 0)), (.d (.int .i64 0)), (.exact [])] s25 fun v26 s27 =>
  storeC 13 v26 v24 s27 fun _ s29 =>
  faddrC 1 v26 s29 fun v30 s31 =>
  loadC true 9 v30 s31 fun v32 s33 =>
  ACall P n_pool_Pool_Put [dm v1, dm v32] s33 fun v34 s35 =>
  binC .add .plain v18 (.d (.int .i64 1)) s35 fun v36 s37 =>
  again17 [v36] s37) (ACall P n_pool_Pool_Pick [dm v1, dm x1] s21 fun v38 s39 =>
  ACall P n_r08_CheckBatch [dm v38] s39 fun v40 s41 =>
  binC .neq .plain v40 (.d (.int .i64 0)) s41 fun v42 s43 =>
  condC v42 (Z (consO (some (.d (.bool false))) (some [])) s43) (lenC .sl v38 s43 fun v44 s45 =>
  loopC [(.d (.int .i64 (-1))), (.d (.int .i64 0))] s45 fun vs46 s47 again48 =>
  headC vs46 fun v49 vs50 =>
  headC vs50 fun v51 vs52 =>
  binC .lss .plain v51 v44 s47 fun v53 s54 =>
  condC v53 (iaddrC none 9 v38 v51 s54 fun v55 s56 =>
  loadC true 9 v55 s56 fun v57 s58 =>
  allocC [(.d (.int .i64 0)), (.d (.int .i64 0)), (.d (.int .i64 0)), (.d (.str [])), (.d (.str [])), (.d (.int .i64 0)), (.exact []), (.d (.int .i64 0)), (.d (.int .i64 0))] s58 fun v59 s60 =>
  storeC 9 v59 v57 s60 fun _ s62 =>
  faddrC 0 v59 s62 fun v63 s64 =>
  faddrC 0 v63 s64 fun v65 s66 =>
  loadC false 1 v65 s66 fun v67 s68 =>
  binC .leq .plain v67 v49 s68 fun v69 s70 =>
  condC v69 (Z (consO (some (.d (.bool false))) (some [])) s70) (faddrC 0 v59 s70 fun v71 s72 =>
  faddrC 0 v71 s72 fun v73 s74 =>
  loadC false 1 v73 s74 fun v75 s76 =>
  binC .add .plain v51 (.d (.int .i64 1)) s76 fun v77 s78 =>
  again48 [v75, v77] s78)) (ACall P n_pool_Pool_Waiting [dm v1] s54 fun v79 s80 =>
  lenC .sl v79 s80 fun v81 s82 =>
  loopC [(.d (.int .i64 0))] s82 fun vs83 s84 again85 =>
  headC vs83 fun v86 vs87 =>
  binC .lss .plain v86 v81 s84 fun v88 s89 =>
  condC v88 (iaddrC none 9 v79 v86 s89 fun v90 s91 =>
  loadC true 9 v90 s91 fun v92 s93 =>
  allocC [(.d (.int .i64 0)), (.d (.int .i64 0)), (.d (.int .i64 0)), (.d (.str [])), (.d (.str [])), (.d (.int .i64 0)), (.exact []), (.d (.int .i64 0)), (.d (.int .i64 0))] s93 fun v94 s95 =>
  storeC 9 v94 v92 s95 fun _ s97 =>
  lenC .sl x1 s97 fun v98 s99 =>
  loopC [(.d (.bool false)), (.d (.int .i64 0))] s99 fun vs100 s101 again102 =>
  headC vs100 fun v103 vs104 =>
  headC vs104 fun v105 vs106 =>
  binC .lss .plain v105 v98 s101 fun v107 s108 =>
  condC v107 (iaddrC none 1 x1 v105 s108 fun v109 s110 =>
  loadC false 1 v109 s110 fun v111 s112 =>
  lenC .sl v111 s112 fun v113 s114 =>
  loopC [v103, (.d (.int .i64 0))] s114 fun vs115 s116 again117 =>
  headC vs115 fun v118 vs119 =>
  headC vs119 fun v120 vs121 =>
  binC .lss .plain v120 v113 s116 fun v122 s123 =>
  condC v122 (iaddrC none 9 v111 v120 s123 fun v124 s125 =>
  loadC true 9 v124 s125 fun v126 s127 =>
  allocC [(.d (.int .i64 0)), (.d (.int .i64 0)), (.d (.int .i64 0)), (.d (.str [])), (.d (.str [])), (.d (.int .i64 0)), (.exact []), (.d (.int .i64 0)), (.d (.int .i64 0))] s127 fun v128 s129 =>
  storeC 9 v128 v126 s129 fun _ s131 =>
  guardC v118 false (fun k => faddrC 0 v128 s131 k) s131 (fun v132 s133 =>
  guardC v118 false (fun k => faddrC 0 v132 s133 k) s133 (fun v134 s135 =>
  guardC v118 false (fun k => loadC false 1 v134 s135 k) s135 (fun v136 s137 =>
  guardC v118 false (fun k => faddrC 0 v94 s137 k) s137 (fun v138 s139 =>
  guardC v118 false (fun k => faddrC 0 v138 s139 k) s139 (fun v140 s141 =>
  guardC v118 false (fun k => loadC false 1 v140 s141 k) s141 (fun v142 s143 =>
  guardC v118 false (fun k => binC .eql .plain v136 v142 s143 k) s143 (fun v144 s145 =>
  guardC v118 false (fun k => k v144 s145) s145 (fun v146 s147 =>
  guardC v146 true (fun k => faddrC 0 v128 s147 k) s147 (fun v148 s149 =>
  guardC v146 true (fun k => faddrC 1 v148 s149 k) s149 (fun v150 s151 =>
  guardC v146 true (fun k => loadC false 1 v150 s151 k) s151 (fun v152 s153 =>
  guardC v146 true (fun k => faddrC 0 v94 s153 k) s153 (fun v154 s155 =>
  guardC v146 true (fun k => faddrC 1 v154 s155 k) s155 (fun v156 s157 =>
  guardC v146 true (fun k => loadC false 1 v156 s157 k) s157 (fun v158 s159 =>
  guardC v146 true (fun k => binC .eql .plain v152 v158 s159 k) s159 (fun v160 s161 =>
  guardC v118 false (fun k => pickC v146 v160 (.d (.bool false)) s161 k) s161 (fun v162 s163 =>
  pickC v118 (.d (.bool true)) v162 s163 fun v164 s165 =>
  binC .add .plain v120 (.d (.int .i64 1)) s165 fun v166 s167 =>
  again117 [v164, v166] s167))))))))))))))))) (binC .add .plain v105 (.d (.int .i64 1)) s123 fun v168 s169 =>
  again102 [v118, v168] s169)) (lenC .sl v38 s108 fun v170 s171 =>
  loopC [(.d (.bool false)), (.d (.int .i64 0))] s171 fun vs172 s173 again174 =>
  headC vs172 fun v175 vs176 =>
  headC vs176 fun v177 vs178 =>
  binC .lss .plain v177 v170 s173 fun v179 s180 =>
  condC v179 (iaddrC none 9 v38 v177 s180 fun v181 s182 =>
  loadC true 9 v181 s182 fun v183 s184 =>
  allocC [(.d (.int .i64 0)), (.d (.int .i64 0)), (.d (.int .i64 0)), (.d (.str [])), (.d (.str [])), (.d (.int .i64 0)), (.exact []), (.d (.int .i64 0)), (.d (.int .i64 0))] s184 fun v185 s186 =>
  storeC 9 v185 v183 s186 fun _ s188 =>
  guardC v175 false (fun k => loadC true 9 v185 s188 k) s188 (fun v189 s190 =>
  guardC v175 false (fun k => mksliceC false 9 1 (fillV (rep [(.d (.int .i64 0)), (.d (.int .i64 0)), (.d (.int .i64 0)), (.d (.str [])), (.d (.str [])), (.d (.int .i64 0)), (.exact []), (.d (.int .i64 0)), (.d (.int .i64 0))] 1) [(0, 9, v189)]) s190 k) s190 (fun v191 s192 =>
  guardC v175 false (fun k => loadC true 9 v94 s192 k) s192 (fun v193 s194 =>
  guardC v175 false (fun k => mksliceC false 9 1 (fillV (rep [(.d (.int .i64 0)), (.d (.int .i64 0)), (.d (.int .i64 0)), (.d (.str [])), (.d (.str [])), (.d (.int .i64 0)), (.exact []), (.d (.int .i64 0)), (.d (.int .i64 0))] 1) [(0, 9, v193)]) s194 k) s194 (fun v195 s196 =>
  guardC v175 false (fun k => ACall P n_r08_Same [dm v191, dm v195] s196 k) s196 (fun v197 s198 =>
  pickC v175 (.d (.bool true)) v197 s198 fun v199 s200 =>
  binC .add .plain v177 (.d (.int .i64 1)) s200 fun v201 s202 =>
  again174 [v199, v201] s202)))))) (guardC v103 true (fun k => k v175 s180) s180 (fun v203 s204 =>
  pickC v103 v203 (.d (.bool false)) s204 fun v205 s206 =>
  guardC v205 false (fun k => k v103 s206) s206 (fun v207 s208 =>
  guardC v205 false (fun k => unC .not v207 s208 k) s208 (fun v209 s210 =>
  guardC v205 false (fun k => k v209 s210) s210 (fun v211 s212 =>
  guardC v211 true (fun k => k v175 s212) s212 (fun v213 s214 =>
  guardC v211 true (fun k => unC .not v213 s214 k) s214 (fun v215 s216 =>
  guardC v205 false (fun k => pickC v211 v215 (.d (.bool false)) s216 k) s216 (fun v217 s218 =>
  guardC v205 false (fun k => k v217 s218) s218 (fun v219 s220 =>
  guardC v219 true (fun k => k v38 s220) s220 (fun v221 s222 =>
  guardC v219 true (fun k => lenC .sl v221 s222 k) s222 (fun v223 s224 =>
  guardC v219 true (fun k => binC .lss .plain v223 (.d (.int .i64 4)) s224 k) s224 (fun v225 s226 =>
  guardC v219 true (fun k => k v225 s226) s226 (fun v227 s228 =>
  guardC v227 false (fun k => faddrC 0 v94 s228 k) s228 (fun v229 s230 =>
  guardC v227 false (fun k => faddrC 0 v229 s230 k) s230 (fun v231 s232 =>
  guardC v227 false (fun k => loadC false 1 v231 s232 k) s232 (fun v233 s234 =>
  guardC v227 false (fun k => k v49 s234) s234 (fun v235 s236 =>
  guardC v227 false (fun k => binC .lss .plain v233 v235 s236 k) s236 (fun v237 s238 =>
  guardC v219 true (fun k => pickC v227 (.d (.bool true)) v237 s238 k) s238 (fun v239 s240 =>
  guardC v205 false (fun k => pickC v219 v239 (.d (.bool false)) s240 k) s240 (fun v241 s242 =>
  pickC v205 (.d (.bool true)) v241 s242 fun v243 s244 =>
  condC v243 (Z (consO (some (.d (.bool false))) (some [])) s244) (binC .add .plain v86 (.d (.int .i64 1)) s244 fun v245 s246 =>
  again85 [v245] s246))))))))))))))))))))))) (Z (consO (some (.d (.bool true))) (some [])) s89)))))))
theorem s_l18_PoolOnce {P : Program} {x0 x1 : AV} {σ : List AObj} {Z : Option (List AV) → List AObj → Prop} (h : S_l18_PoolOnce P x0 x1 σ Z) : awp P A_l18_PoolOnce.body (AtEnd fun fr s => Z (resAs fr s A_l18_PoolOnce.res) s) (slots0 0 [x0, x1]) σ :=
  cast (by kernel_rfl) h
/-- bulla/pool.New -/
def S_pool_New (P : Program) (σ : List AObj) (Z : Option (List AV) → List AObj → Prop) : Prop :=
  buildC (fillV [(.d (.bool false)), (.exact []), (.exact []), (.exact []), (.exact []), (.exact []), (.exact []), (.exact []), (.exact [])] [(0, 1, (.d (.bool true)))]) σ fun v1 s2 =>
  boxC v1 s2 fun v3 s4 =>
  Z (consO (some v3) (some [])) s4
theorem s_pool_New {P : Program} {σ : List AObj} {Z : Option (List AV) → List AObj → Prop} (h : S_pool_New P  σ Z) : awp P A_pool_New.body (AtEnd fun fr s => Z (resAs fr s A_pool_New.res) s) (slots0 0 []) σ :=
  cast (by kernel_rfl) h
/-- bulla/bullalaw18.begun -/
def S_l18_begun (P : Program) (σ : List AObj) (Z : Option (List AV) → List AObj → Prop) : Prop :=
  ACall P n_pool_New [] σ fun v1 s2 =>
  binC .neq .ptr v1 (.d .nilp) s2 fun v3 s4 =>
  guardC v3 true (fun k => k v1 s4) s4 (fun v5 s6 =>
  guardC v3 true (fun k => ACall P n_l18_signed [dm (.d (.int .i64 2)), dm (.d (.int .i64 5))] s6 k) s6 (fun v7 s8 =>
  guardC v3 true (fun k => ACall P n_pool_Pool_Put [dm v5, dm v7] s8 k) s8 (fun v9 s10 =>
  pickC v3 v9 (.d (.bool false)) s10 fun v11 s12 =>
  guardC v11 true (fun k => k v1 s12) s12 (fun v13 s14 =>
  guardC v11 true (fun k => ACall P n_l18_signed [dm (.d (.int .i64 2)), dm (.d (.int .i64 4))] s14 k) s14 (fun v15 s16 =>
  guardC v11 true (fun k => ACall P n_pool_Pool_Put [dm v13, dm v15] s16 k) s16 (fun v17 s18 =>
  guardC v11 true (fun k => unC .not v17 s18 k) s18 (fun v19 s20 =>
  pickC v11 v19 (.d (.bool false)) s20 fun v21 s22 =>
  guardC v21 true (fun k => k v1 s22) s22 (fun v23 s24 =>
  guardC v21 true (fun k => ACall P n_l18_signed [dm (.d (.int .i64 2)), dm (.d (.int .i64 7))] s24 k) s24 (fun v25 s26 =>
  guardC v21 true (fun k => ACall P n_pool_Pool_Put [dm v23, dm v25] s26 k) s26 (fun v27 s28 =>
  pickC v21 v27 (.d (.bool false)) s28 fun v29 s30 =>
  guardC v29 true (fun k => k v1 s30) s30 (fun v31 s32 =>
  guardC v29 true (fun k => ACall P n_pool_Pool_Len [dm v31] s32 k) s32 (fun v33 s34 =>
  guardC v29 true (fun k => binC .eql .plain v33 (.d (.int .i64 1)) s34 k) s34 (fun v35 s36 =>
  pickC v29 v35 (.d (.bool false)) s36 fun v37 s38 =>
  guardC v37 true (fun k => k v1 s38) s38 (fun v39 s40 =>
  guardC v37 true (fun k => ACall P n_pool_Pool_Pick [dm v39, dm (.exact [])] s40 k) s40 (fun v41 s42 =>
  guardC v37 true (fun k => lenC .sl v41 s42 k) s42 (fun v43 s44 =>
  guardC v37 true (fun k => binC .eql .plain v43 (.d (.int .i64 1)) s44 k) s44 (fun v45 s46 =>
  pickC v37 v45 (.d (.bool false)) s46 fun v47 s48 =>
  guardC v47 true (fun k => k v1 s48) s48 (fun v49 s50 =>
  guardC v47 true (fun k => ACall P n_l18_signed [dm (.d (.int .i64 2)), dm (.d (.int .i64 7))] s50 k) s50 (fun v51 s52 =>
  guardC v47 true (fun k => mksliceC false 9 1 (fillV (rep [(.d (.int .i64 0)), (.d (.int .i64 0)), (.d (.int .i64 0)), (.d (.str [])), (.d (.str [])), (.d (.int .i64 0)), (.exact []), (.d (.int .i64 0)), (.d (.int .i64 0))] 1) [(0, 9, v51)]) s52 k) s52 (fun v53 s54 =>
  guardC v47 true (fun k => mksliceC false 1 1 (fillV (rep [(.exact [])] 1) [(0, 1, v53)]) s54 k) s54 (fun v55 s56 =>
  guardC v47 true (fun k => ACall P n_pool_Pool_Pick [dm v49, dm v55] s56 k) s56 (fun v57 s58 =>
  guardC v47 true (fun k => lenC .sl v57 s58 k) s58 (fun v59 s60 =>
  guardC v47 true (fun k => binC .eql .plain v59 (.d (.int .i64 0)) s60 k) s60 (fun v61 s62 =>
  pickC v47 v61 (.d (.bool false)) s62 fun v63 s64 =>
  guardC v63 true (fun k => k v1 s64) s64 (fun v65 s66 =>
  guardC v63 true (fun k => ACall P n_pool_Pool_Done [dm v65, dm (.d (.int .i64 2)), dm (.d (.int .i64 6))] s66 k) s66 (fun v67 s68 =>
  guardC v63 true (fun k => unC .not v67 s68 k) s68 (fun v69 s70 =>
  pickC v63 v69 (.d (.bool false)) s70 fun v71 s72 =>
  guardC v71 true (fun k => k v1 s72) s72 (fun v73 s74 =>
  guardC v71 true (fun k => ACall P n_pool_Pool_Done [dm v73, dm (.d (.int .i64 2)), dm (.d (.int .i64 7))] s74 k) s74 (fun v75 s76 =>
  pickC v71 v75 (.d (.bool false)) s76 fun v77 s78 =>
  guardC v77 true (fun k => k v1 s78) s78 (fun v79 s80 =>
  guardC v77 true (fun k => ACall P n_pool_Pool_Len [dm v79] s80 k) s80 (fun v81 s82 =>
  guardC v77 true (fun k => binC .eql .plain v81 (.d (.int .i64 0)) s82 k) s82 (fun v83 s84 =>
  pickC v77 v83 (.d (.bool false)) s84 fun v85 s86 =>
  Z (consO (some v85) (some [])) s86))))))))))))))))))))))))))))))))
theorem s_l18_begun {P : Program} {σ : List AObj} {Z : Option (List AV) → List AObj → Prop} (h : S_l18_begun P  σ Z) : awp P A_l18_begun.body (AtEnd fun fr s => Z (resAs fr s A_l18_begun.res) s) (slots0 0 []) σ :=
  cast (by kernel_rfl) h
/-- (*bulla/pool.Pool).Put -/
def S_pool_Pool_Put (P : Program) (x0 x1 : AV) (σ : List AObj) (Z : Option (List AV) → List AObj → Prop) : Prop :=
  boxC x1 σ fun v1 s2 =>
  ACall P n_pool_Pool_none [dm x0] s2 fun v3 s4 =>
  guardC v3 false (fun k => loadC true 9 v1 s4 k) s4 (fun v5 s6 =>
  guardC v3 false (fun k => mksliceC false 9 1 (fillV (rep [(.d (.int .i64 0)), (.d (.int .i64 0)), (.d (.int .i64 0)), (.d (.str [])), (.d (.str [])), (.d (.int .i64 0)), (.exact []), (.d (.int .i64 0)), (.d (.int .i64 0))] 1) [(0, 9, v5)]) s6 k) s6 (fun v7 s8 =>
  guardC v3 false (fun k => ACall P n_request_CheckBatch [dm v7] s8 k) s8 (fun v9 s10 =>
  guardC v3 false (fun k => binC .neq .plain v9 (.d (.int .i64 0)) s10 k) s10 (fun v11 s12 =>
  pickC v3 (.d (.bool true)) v11 s12 fun v13 s14 =>
  condC v13 (Z (consO (some (.d (.bool false))) (some [])) s14) (faddrC 0 v1 s14 fun v15 s16 =>
  faddrC 0 v15 s16 fun v17 s18 =>
  loadC false 1 v17 s18 fun v19 s20 =>
  nilC x0 s20 fun v21 s22 =>
  faddrC 1 v21 s22 fun v23 s24 =>
  iaddrC (some 8) 1 v23 v19 s24 fun v25 s26 =>
  nilC v25 s26 fun v27 s28 =>
  loadC false 1 v27 s28 fun v29 s30 =>
  lenC .sl v29 s30 fun v31 s32 =>
  binC .gtr .plain v31 (.d (.int .i64 0)) s32 fun v33 s34 =>
  guardC v33 true (fun k => k v25 s34) s34 (fun v35 s36 =>
  guardC v33 true (fun k => nilC v35 s36 k) s36 (fun v37 s38 =>
  guardC v33 true (fun k => loadC false 1 v37 s38 k) s38 (fun v39 s40 =>
  guardC v33 true (fun k => iaddrC none 9 v39 (.d (.int .i64 0)) s40 k) s40 (fun v41 s42 =>
  guardC v33 true (fun k => faddrC 0 v41 s42 k) s42 (fun v43 s44 =>
  guardC v33 true (fun k => faddrC 1 v43 s44 k) s44 (fun v45 s46 =>
  guardC v33 true (fun k => loadC false 1 v45 s46 k) s46 (fun v47 s48 =>
  guardC v33 true (fun k => faddrC 0 v1 s48 k) s48 (fun v49 s50 =>
  guardC v33 true (fun k => faddrC 1 v49 s50 k) s50 (fun v51 s52 =>
  guardC v33 true (fun k => loadC false 1 v51 s52 k) s52 (fun v53 s54 =>
  guardC v33 true (fun k => binC .geq .plain v47 v53 s54 k) s54 (fun v55 s56 =>
  pickC v33 v55 (.d (.bool false)) s56 fun v57 s58 =>
  condC v57 (Z (consO (some (.d (.bool false))) (some [])) s58) (loadC true 9 v1 s58 fun v59 s60 =>
  mksliceC false 9 1 (fillV (rep [(.d (.int .i64 0)), (.d (.int .i64 0)), (.d (.int .i64 0)), (.d (.str [])), (.d (.str [])), (.d (.int .i64 0)), (.exact []), (.d (.int .i64 0)), (.d (.int .i64 0))] 1) [(0, 9, v59)]) s60 fun v61 s62 =>
  ACall P n_request_Clone [dm v61] s62 fun v63 s64 =>
  nilC v25 s64 fun v65 s66 =>
  storeC 1 v65 v63 s66 fun _ s68 =>
  Z (consO (some (.d (.bool true))) (some [])) s68)))))))))))))))))
theorem s_pool_Pool_Put {P : Program} {x0 x1 : AV} {σ : List AObj} {Z : Option (List AV) → List AObj → Prop} (h : S_pool_Pool_Put P x0 x1 σ Z) : awp P A_pool_Pool_Put.body (AtEnd fun fr s => Z (resAs fr s A_pool_Pool_Put.res) s) (slots0 0 [x0, x1]) σ :=
  cast (by kernel_rfl) h
end Go.Proofs.Ytfnnejokhikefaa
