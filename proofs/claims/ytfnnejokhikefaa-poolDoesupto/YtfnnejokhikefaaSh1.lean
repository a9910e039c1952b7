/- The conditions of each function, its slots as variables, and that the logic's conditions are these. Printed by program. -/
import Derived.Test.YtfnnejokhikefaaAf1
set_option linter.all false
set_option maxRecDepth 100000
set_option linter.unusedVariables false
namespace Go.Proofs.Ytfnnejokhikefaa
open Go.AW
/-- bulla/bullalaw18.PoolDoes -/
def S_l18_PoolDoes (P : Program) (x0 : AV) (σ : List AObj) (Z : Option (List AV) → List AObj → Prop) : Prop :=
  ACall P n_pool_New [] σ fun v1 s2 =>
  buildC (fillV [(.exact [])] []) s2 fun v3 s4 =>
  boxC v3 s4 fun v5 s6 =>
  ACall P n_l18_begun [] s6 fun v7 s8 =>
  unC .not v7 s8 fun v9 s10 =>
  guardC v9 false (fun k => k v1 s10) s10 (fun v11 s12 =>
  guardC v9 false (fun k => binC .eql .ptr v11 (.d .nilp) s12 k) s12 (fun v13 s14 =>
  pickC v9 (.d (.bool true)) v13 s14 fun v15 s16 =>
  condC v15 (Z (consO (some (.d (.bool false))) (some [])) s16) (lenC .sl x0 s16 fun v17 s18 =>
  loopC [v1, (.d (.int .i64 0))] s18 fun vs19 s20 again21 =>
  headC vs19 fun v22 vs23 =>
  headC vs23 fun v24 vs25 =>
  binC .lss .plain v24 v17 s20 fun v26 s27 =>
  condC v26 (iaddrC none 13 x0 v24 s27 fun v28 s29 =>
  loadC true 13 v28 s29 fun v30 s31 =>
  allocC [(.d (.int .i64 0)), (.d (.int .i64 0)), (.d (.int .i64 0)), (.d (.int .i64 0)), (.d (.str [])), (.d (.str [])), (.d (.int .i64 0)), (.exact []), (.d (.int .i64 0)), (.d (.int .i64 0)), (.d (.int .i64 0)), (.d (.int .i64 0)), (.exact [])] s31 fun v32 s33 =>
  storeC 13 v32 v30 s33 fun _ s35 =>
  (fun (k36 : AV → List AObj → Prop) => faddrC 0 v32 s35 fun v143 s144 =>
  loadC false 1 v143 s144 fun v145 s146 =>
  binC .eql .plain v145 (.d (.int .i64 0)) s146 fun v147 s148 =>
  condC v147 (faddrC 1 v32 s148 fun v149 s150 =>
  loadC true 9 v149 s150 fun v151 s152 =>
  faddrC 1 v32 s152 fun v153 s154 =>
  loadC true 9 v153 s154 fun v155 s156 =>
  ACall P n_pool_Pool_Put [dm v22, dm v151] s156 fun v157 s158 =>
  keepO v153 s156 s158 ∧ (ACall P n_r18_Pool_Put [dm v5, dm v155] s158 fun v159 s160 =>
  binC .neq .bool v157 v159 s160 fun v161 s162 =>
  condC v161 (Z (consO (some (.d (.bool false))) (some [])) s162) (k36 v22 s162))) (binC .eql .plain v145 (.d (.int .i64 1)) s148 fun v163 s164 =>
  condC v163 (faddrC 10 v32 s164 fun v165 s166 =>
  loadC false 1 v165 s166 fun v167 s168 =>
  faddrC 11 v32 s168 fun v169 s170 =>
  loadC false 1 v169 s170 fun v171 s172 =>
  faddrC 10 v32 s172 fun v173 s174 =>
  loadC false 1 v173 s174 fun v175 s176 =>
  faddrC 11 v32 s176 fun v177 s178 =>
  loadC false 1 v177 s178 fun v179 s180 =>
  ACall P n_pool_Pool_Done [dm v22, dm v167, dm v171] s180 fun v181 s182 =>
  keepO v173 s180 s182 ∧ (keepO v177 s180 s182 ∧ (ACall P n_r18_Pool_Done [dm v5, dm v175, dm v179] s182 fun v183 s184 =>
  binC .neq .bool v181 v183 s184 fun v185 s186 =>
  condC v185 (Z (consO (some (.d (.bool false))) (some [])) s186) (k36 v22 s186)))) (binC .eql .plain v145 (.d (.int .i64 2)) s164 fun v187 s188 =>
  condC v187 (ACall P n_pool_Pool_Clone [dm v22] s188 fun v189 s190 =>
  binC .eql .ptr v189 (.d .nilp) s190 fun v191 s192 =>
  condC v191 (Z (consO (some (.d (.bool false))) (some [])) s192) (faddrC 1 v32 s192 fun v193 s194 =>
  loadC true 9 v193 s194 fun v195 s196 =>
  ACall P n_pool_Pool_Put [dm v22, dm v195] s196 fun v197 s198 =>
  faddrC 10 v32 s198 fun v199 s200 =>
  loadC false 1 v199 s200 fun v201 s202 =>
  faddrC 11 v32 s202 fun v203 s204 =>
  loadC false 1 v203 s204 fun v205 s206 =>
  ACall P n_pool_Pool_Done [dm v22, dm v201, dm v205] s206 fun v207 s208 =>
  k36 v189 s208)) (ACall P n_pool_Pool_Plain [dm v22] s188 fun v209 s210 =>
  ACall P n_pool_From [dm v209] s210 fun v211 s212 =>
  extractC v211 0 s212 fun v213 s214 =>
  extractC v211 1 s214 fun v215 s216 =>
  binC .eql .ptr v213 (.d .nilp) s216 fun v217 s218 =>
  guardC v217 false (fun k => k v215 s218) s218 (fun v219 s220 =>
  guardC v217 false (fun k => binC .neq .plain v219 (.d (.int .i64 0)) s220 k) s220 (fun v221 s222 =>
  pickC v217 (.d (.bool true)) v221 s222 fun v223 s224 =>
  condC v223 (Z (consO (some (.d (.bool false))) (some [])) s224) (k36 v213 s224)))))))
  (fun v37 s38 => faddrC 10 v32 s38 fun v39 s40 =>
  loadC false 1 v39 s40 fun v41 s42 =>
  ACall P n_pool_Pool_Of [dm v37, dm v41] s42 fun v43 s44 =>
  extractC v43 0 s44 fun v45 s46 =>
  extractC v43 1 s46 fun v47 s48 =>
  allocC [(.d (.int .i64 0)), (.d (.int .i64 0)), (.d (.int .i64 0)), (.d (.str [])), (.d (.str [])), (.d (.int .i64 0)), (.exact []), (.d (.int .i64 0)), (.d (.int .i64 0))] s48 fun v49 s50 =>
  storeC 9 v49 v45 s50 fun _ s52 =>
  faddrC 10 v32 s52 fun v53 s54 =>
  loadC false 1 v53 s54 fun v55 s56 =>
  ACall P n_r18_Pool_Of [dm v5, dm v55] s56 fun v57 s58 =>
  extractC v57 0 s58 fun v59 s60 =>
  extractC v57 1 s60 fun v61 s62 =>
  allocC [(.d (.int .i64 0)), (.d (.int .i64 0)), (.d (.int .i64 0)), (.d (.str [])), (.d (.str [])), (.d (.int .i64 0)), (.exact []), (.d (.int .i64 0)), (.d (.int .i64 0))] s62 fun v63 s64 =>
  storeC 9 v63 v59 s64 fun _ s66 =>
  binC .neq .bool v47 v61 s66 fun v67 s68 =>
  guardC v67 false (fun k => loadC true 9 v49 s68 k) s68 (fun v69 s70 =>
  guardC v67 false (fun k => mksliceC false 9 1 (fillV (rep [(.d (.int .i64 0)), (.d (.int .i64 0)), (.d (.int .i64 0)), (.d (.str [])), (.d (.str [])), (.d (.int .i64 0)), (.exact []), (.d (.int .i64 0)), (.d (.int .i64 0))] 1) [(0, 9, v69)]) s70 k) s70 (fun v71 s72 =>
  guardC v67 false (fun k => loadC true 9 v63 s72 k) s72 (fun v73 s74 =>
  guardC v67 false (fun k => mksliceC false 9 1 (fillV (rep [(.d (.int .i64 0)), (.d (.int .i64 0)), (.d (.int .i64 0)), (.d (.str [])), (.d (.str [])), (.d (.int .i64 0)), (.exact []), (.d (.int .i64 0)), (.d (.int .i64 0))] 1) [(0, 9, v73)]) s74 k) s74 (fun v75 s76 =>
  guardC v67 false (fun k => ACall P n_r08_Same [dm v71, dm v75] s76 k) s76 (fun v77 s78 =>
  guardC v67 false (fun k => unC .not v77 s78 k) s78 (fun v79 s80 =>
  pickC v67 (.d (.bool true)) v79 s80 fun v81 s82 =>
  guardC v81 false (fun k => k v37 s82) s82 (fun v83 s84 =>
  guardC v81 false (fun k => k v5 s84) s84 (fun v85 s86 =>
  guardC v81 false (fun k => nilC v85 s86 k) s86 (fun v87 s88 =>
  guardC v81 false (fun k => faddrC 0 v87 s88 k) s88 (fun v89 s90 =>
  guardC v81 false (fun k => loadC false 1 v89 s90 k) s90 (fun v91 s92 =>
  guardC v81 false (fun k => lenC .sl v91 s92 k) s92 (fun v93 s94 =>
  guardC v81 false (fun k => ACall P n_pool_Pool_Len [dm v83] s94 k) s94 (fun v95 s96 =>
  keepO v89 s94 s96 ∧ (guardC v81 false (fun k => binC .neq .plain v95 v93 s96 k) s96 (fun v97 s98 =>
  pickC v81 (.d (.bool true)) v97 s98 fun v99 s100 =>
  guardC v99 false (fun k => k v37 s100) s100 (fun v101 s102 =>
  guardC v99 false (fun k => k v5 s102) s102 (fun v103 s104 =>
  guardC v99 false (fun k => nilC v103 s104 k) s104 (fun v105 s106 =>
  guardC v99 false (fun k => faddrC 0 v105 s106 k) s106 (fun v107 s108 =>
  guardC v99 false (fun k => loadC false 1 v107 s108 k) s108 (fun v109 s110 =>
  guardC v99 false (fun k => ACall P n_pool_Pool_Waiting [dm v101] s110 k) s110 (fun v111 s112 =>
  keepO v107 s110 s112 ∧ (guardC v99 false (fun k => ACall P n_r08_Same [dm v111, dm v109] s112 k) s112 (fun v113 s114 =>
  guardC v99 false (fun k => unC .not v113 s114 k) s114 (fun v115 s116 =>
  pickC v99 (.d (.bool true)) v115 s116 fun v117 s118 =>
  guardC v117 false (fun k => k v37 s118) s118 (fun v119 s120 =>
  guardC v117 false (fun k => faddrC 12 v32 s120 k) s120 (fun v121 s122 =>
  guardC v117 false (fun k => loadC false 1 v121 s122 k) s122 (fun v123 s124 =>
  guardC v117 false (fun k => k v5 s124) s124 (fun v125 s126 =>
  guardC v117 false (fun k => faddrC 12 v32 s126 k) s126 (fun v127 s128 =>
  guardC v117 false (fun k => loadC false 1 v127 s128 k) s128 (fun v129 s130 =>
  guardC v117 false (fun k => ACall P n_pool_Pool_Pick [dm v119, dm v123] s130 k) s130 (fun v131 s132 =>
  keepO v127 s130 s132 ∧ (guardC v117 false (fun k => ACall P n_r18_Pool_Pick [dm v125, dm v129] s132 k) s132 (fun v133 s134 =>
  guardC v117 false (fun k => ACall P n_r08_Same [dm v131, dm v133] s134 k) s134 (fun v135 s136 =>
  guardC v117 false (fun k => unC .not v135 s136 k) s136 (fun v137 s138 =>
  pickC v117 (.d (.bool true)) v137 s138 fun v139 s140 =>
  condC v139 (Z (consO (some (.d (.bool false))) (some [])) s140) (binC .add .plain v24 (.d (.int .i64 1)) s140 fun v141 s142 =>
  again21 [v37, v141] s142)))))))))))))))))))))))))))))))))))))) (nilC v5 s27 fun v225 s226 =>
  faddrC 0 v225 s226 fun v227 s228 =>
  loadC false 1 v227 s228 fun v229 s230 =>
  ACall P n_pool_Pool_Plain [dm v22] s230 fun v231 s232 =>
  keepO v227 s230 s232 ∧ (fieldC false 0 1 v231 s232 fun v233 s234 =>
  ACall P n_r08_Same [dm v233, dm v229] s234 fun v235 s236 =>
  Z (consO (some v235) (some [])) s236)))))
theorem s_l18_PoolDoes {P : Program} {x0 : AV} {σ : List AObj} {Z : Option (List AV) → List AObj → Prop} (h : S_l18_PoolDoes P x0 σ Z) : awp P A_l18_PoolDoes.body (AtEnd fun fr s => Z (resAs fr s A_l18_PoolDoes.res) s) (slots0 0 [x0]) σ :=
  cast (by kernel_rfl) h
/-- bulla/pool.New -/
def S_pool_New (P : Program) (σ : List AObj) (Z : Option (List AV) → List AObj → Prop) : Prop :=
  buildC (fillV [(.d (.bool false)), (.exact []), (.exact []), (.exact []), (.exact []), (.exact []), (.exact []), (.exact []), (.exact [])] [(0, 1, (.d (.bool true)))]) σ fun v1 s2 =>
  boxC v1 s2 fun v3 s4 =>
  Z (consO (some v3) (some [])) s4
theorem s_pool_New {P : Program} {σ : List AObj} {Z : Option (List AV) → List AObj → Prop} (h : S_pool_New P  σ Z) : awp P A_pool_New.body (AtEnd fun fr s => Z (resAs fr s A_pool_New.res) s) (slots0 0 []) σ :=
  cast (by kernel_rfl) h
/-- bulla/bullalaw18.begun -/
def S_l18_begun (P : Program) (σ : List AObj) (Z : Option (List AV) → List AObj → Prop) : Prop :=
  ACall P n_pool_New [] σ fun v1 s2 =>
  binC .neq .ptr v1 (.d .nilp) s2 fun v3 s4 =>
  guardC v3 true (fun k => k v1 s4) s4 (fun v5 s6 =>
  guardC v3 true (fun k => ACall P n_l18_signed [dm (.d (.int .i64 2)), dm (.d (.int .i64 5))] s6 k) s6 (fun v7 s8 =>
  guardC v3 true (fun k => ACall P n_pool_Pool_Put [dm v5, dm v7] s8 k) s8 (fun v9 s10 =>
  pickC v3 v9 (.d (.bool false)) s10 fun v11 s12 =>
  guardC v11 true (fun k => k v1 s12) s12 (fun v13 s14 =>
  guardC v11 true (fun k => ACall P n_l18_signed [dm (.d (.int .i64 2)), dm (.d (.int .i64 4))] s14 k) s14 (fun v15 s16 =>
  guardC v11 true (fun k => ACall P n_pool_Pool_Put [dm v13, dm v15] s16 k) s16 (fun v17 s18 =>
  guardC v11 true (fun k => unC .not v17 s18 k) s18 (fun v19 s20 =>
  pickC v11 v19 (.d (.bool false)) s20 fun v21 s22 =>
  guardC v21 true (fun k => k v1 s22) s22 (fun v23 s24 =>
  guardC v21 true (fun k => ACall P n_l18_signed [dm (.d (.int .i64 2)), dm (.d (.int .i64 7))] s24 k) s24 (fun v25 s26 =>
  guardC v21 true (fun k => ACall P n_pool_Pool_Put [dm v23, dm v25] s26 k) s26 (fun v27 s28 =>
  pickC v21 v27 (.d (.bool false)) s28 fun v29 s30 =>
  guardC v29 true (fun k => k v1 s30) s30 (fun v31 s32 =>
  guardC v29 true (fun k => ACall P n_pool_Pool_Len [dm v31] s32 k) s32 (fun v33 s34 =>
  guardC v29 true (fun k => binC .eql .plain v33 (.d (.int .i64 1)) s34 k) s34 (fun v35 s36 =>
  pickC v29 v35 (.d (.bool false)) s36 fun v37 s38 =>
  guardC v37 true (fun k => k v1 s38) s38 (fun v39 s40 =>
  guardC v37 true (fun k => ACall P n_pool_Pool_Pick [dm v39, dm (.exact [])] s40 k) s40 (fun v41 s42 =>
  guardC v37 true (fun k => lenC .sl v41 s42 k) s42 (fun v43 s44 =>
  guardC v37 true (fun k => binC .eql .plain v43 (.d (.int .i64 1)) s44 k) s44 (fun v45 s46 =>
  pickC v37 v45 (.d (.bool false)) s46 fun v47 s48 =>
  guardC v47 true (fun k => k v1 s48) s48 (fun v49 s50 =>
  guardC v47 true (fun k => ACall P n_l18_signed [dm (.d (.int .i64 2)), dm (.d (.int .i64 7))] s50 k) s50 (fun v51 s52 =>
  guardC v47 true (fun k => mksliceC false 9 1 (fillV (rep [(.d (.int .i64 0)), (.d (.int .i64 0)), (.d (.int .i64 0)), (.d (.str [])), (.d (.str [])), (.d (.int .i64 0)), (.exact []), (.d (.int .i64 0)), (.d (.int .i64 0))] 1) [(0, 9, v51)]) s52 k) s52 (fun v53 s54 =>
  guardC v47 true (fun k => mksliceC false 1 1 (fillV (rep [(.exact [])] 1) [(0, 1, v53)]) s54 k) s54 (fun v55 s56 =>
  guardC v47 true (fun k => ACall P n_pool_Pool_Pick [dm v49, dm v55] s56 k) s56 (fun v57 s58 =>
  guardC v47 true (fun k => lenC .sl v57 s58 k) s58 (fun v59 s60 =>
  guardC v47 true (fun k => binC .eql .plain v59 (.d (.int .i64 0)) s60 k) s60 (fun v61 s62 =>
  pickC v47 v61 (.d (.bool false)) s62 fun v63 s64 =>
  guardC v63 true (fun k => k v1 s64) s64 (fun v65 s66 =>
  guardC v63 true (fun k => ACall P n_pool_Pool_Done [dm v65, dm (.d (.int .i64 2)), dm (.d (.int .i64 6))] s66 k) s66 (fun v67 s68 =>
  guardC v63 true (fun k => unC .not v67 s68 k) s68 (fun v69 s70 =>
  pickC v63 v69 (.d (.bool false)) s70 fun v71 s72 =>
  guardC v71 true (fun k => k v1 s72) s72 (fun v73 s74 =>
  guardC v71 true (fun k => ACall P n_pool_Pool_Done [dm v73, dm (.d (.int .i64 2)), dm (.d (.int .i64 7))] s74 k) s74 (fun v75 s76 =>
  pickC v71 v75 (.d (.bool false)) s76 fun v77 s78 =>
  guardC v77 true (fun k => k v1 s78) s78 (fun v79 s80 =>
  guardC v77 true (fun k => ACall P n_pool_Pool_Len [dm v79] s80 k) s80 (fun v81 s82 =>
  guardC v77 true (fun k => binC .eql .plain v81 (.d (.int .i64 0)) s82 k) s82 (fun v83 s84 =>
  pickC v77 v83 (.d (.bool false)) s84 fun v85 s86 =>
  Z (consO (some v85) (some [])) s86))))))))))))))))))))))))))))))))
theorem s_l18_begun {P : Program} {σ : List AObj} {Z : Option (List AV) → List AObj → Prop} (h : S_l18_begun P  σ Z) : awp P A_l18_begun.body (AtEnd fun fr s => Z (resAs fr s A_l18_begun.res) s) (slots0 0 []) σ :=
  cast (by kernel_rfl) h
/-- (*bulla/pool.Pool).Put -/
def S_pool_Pool_Put (P : Program) (x0 x1 : AV) (σ : List AObj) (Z : Option (List AV) → List AObj → Prop) : Prop :=
  boxC x1 σ fun v1 s2 =>
  ACall P n_pool_Pool_none [dm x0] s2 fun v3 s4 =>
  guardC v3 false (fun k => loadC true 9 v1 s4 k) s4 (fun v5 s6 =>
  guardC v3 false (fun k => mksliceC false 9 1 (fillV (rep [(.d (.int .i64 0)), (.d (.int .i64 0)), (.d (.int .i64 0)), (.d (.str [])), (.d (.str [])), (.d (.int .i64 0)), (.exact []), (.d (.int .i64 0)), (.d (.int .i64 0))] 1) [(0, 9, v5)]) s6 k) s6 (fun v7 s8 =>
  guardC v3 false (fun k => ACall P n_request_CheckBatch [dm v7] s8 k) s8 (fun v9 s10 =>
  guardC v3 false (fun k => binC .neq .plain v9 (.d (.int .i64 0)) s10 k) s10 (fun v11 s12 =>
  pickC v3 (.d (.bool true)) v11 s12 fun v13 s14 =>
  condC v13 (Z (consO (some (.d (.bool false))) (some [])) s14) (faddrC 0 v1 s14 fun v15 s16 =>
  faddrC 0 v15 s16 fun v17 s18 =>
  loadC false 1 v17 s18 fun v19 s20 =>
  nilC x0 s20 fun v21 s22 =>
  faddrC 1 v21 s22 fun v23 s24 =>
  iaddrC (some 8) 1 v23 v19 s24 fun v25 s26 =>
  nilC v25 s26 fun v27 s28 =>
  loadC false 1 v27 s28 fun v29 s30 =>
  lenC .sl v29 s30 fun v31 s32 =>
  binC .gtr .plain v31 (.d (.int .i64 0)) s32 fun v33 s34 =>
  guardC v33 true (fun k => k v25 s34) s34 (fun v35 s36 =>
  guardC v33 true (fun k => nilC v35 s36 k) s36 (fun v37 s38 =>
  guardC v33 true (fun k => loadC false 1 v37 s38 k) s38 (fun v39 s40 =>
  guardC v33 true (fun k => iaddrC none 9 v39 (.d (.int .i64 0)) s40 k) s40 (fun v41 s42 =>
  guardC v33 true (fun k => faddrC 0 v41 s42 k) s42 (fun v43 s44 =>
  guardC v33 true (fun k => faddrC 1 v43 s44 k) s44 (fun v45 s46 =>
  guardC v33 true (fun k => loadC false 1 v45 s46 k) s46 (fun v47 s48 =>
  guardC v33 true (fun k => faddrC 0 v1 s48 k) s48 (fun v49 s50 =>
  guardC v33 true (fun k => faddrC 1 v49 s50 k) s50 (fun v51 s52 =>
  guardC v33 true (fun k => loadC false 1 v51 s52 k) s52 (fun v53 s54 =>
  guardC v33 true (fun k => binC .geq .plain v47 v53 s54 k) s54 (fun v55 s56 =>
  pickC v33 v55 (.d (.bool false)) s56 fun v57 s58 =>
  condC v57 (Z (consO (some (.d (.bool false))) (some [])) s58) (loadC true 9 v1 s58 fun v59 s60 =>
  mksliceC false 9 1 (fillV (rep [(.d (.int .i64 0)), (.d (.int .i64 0)), (.d (.int .i64 0)), (.d (.str [])), (.d (.str [])), (.d (.int .i64 0)), (.exact []), (.d (.int .i64 0)), (.d (.int .i64 0))] 1) [(0, 9, v59)]) s60 fun v61 s62 =>
  ACall P n_request_Clone [dm v61] s62 fun v63 s64 =>
  nilC v25 s64 fun v65 s66 =>
  storeC 1 v65 v63 s66 fun _ s68 =>
  Z (consO (some (.d (.bool true))) (some [])) s68)))))))))))))))))
theorem s_pool_Pool_Put {P : Program} {x0 x1 : AV} {σ : List AObj} {Z : Option (List AV) → List AObj → Prop} (h : S_pool_Pool_Put P x0 x1 σ Z) : awp P A_pool_Pool_Put.body (AtEnd fun fr s => Z (resAs fr s A_pool_Pool_Put.res) s) (slots0 0 [x0, x1]) σ :=
  cast (by kernel_rfl) h
end Go.Proofs.Ytfnnejokhikefaa
