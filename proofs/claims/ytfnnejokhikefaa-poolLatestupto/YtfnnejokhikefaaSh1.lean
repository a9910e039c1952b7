/- The conditions of each function, its slots as variables, and that the logic's conditions are these. Printed by program. -/
import Derived.Test.YtfnnejokhikefaaAf1
set_option linter.all false
set_option maxRecDepth 100000
set_option linter.unusedVariables false
namespace Go.Proofs.Ytfnnejokhikefaa
open Go.AW
/-- bulla/bullalaw18.PoolLatest -/
def S_l18_PoolLatest (P : Program) (x0 : AV) (σ : List AObj) (Z : Option (List AV) → List AObj → Prop) : Prop :=
  ACall P n_pool_New [] σ fun v1 s2 =>
  ACall P n_l18_begun [] s2 fun v3 s4 =>
  unC .not v3 s4 fun v5 s6 =>
  guardC v5 false (fun k => k v1 s6) s6 (fun v7 s8 =>
  guardC v5 false (fun k => binC .eql .ptr v7 (.d .nilp) s8 k) s8 (fun v9 s10 =>
  pickC v5 (.d (.bool true)) v9 s10 fun v11 s12 =>
  condC v11 (Z (consO (some (.d (.bool false))) (some [])) s12) (allocC [(.d (.int .i64 0)), (.d (.int .i64 0)), (.d (.int .i64 0)), (.d (.int .i64 0)), (.d (.int .i64 0)), (.d (.int .i64 0)), (.d (.int .i64 0)), (.d (.int .i64 0))] s12 fun v13 s14 =>
  allocC [(.d (.int .i64 0)), (.d (.int .i64 0)), (.d (.int .i64 0)), (.d (.int .i64 0)), (.d (.int .i64 0)), (.d (.int .i64 0)), (.d (.int .i64 0)), (.d (.int .i64 0))] s14 fun v15 s16 =>
  lenC .sl x0 s16 fun v17 s18 =>
  loopC [(.d (.int .i64 0))] s18 fun vs19 s20 again21 =>
  headC vs19 fun v22 vs23 =>
  binC .lss .plain v22 v17 s20 fun v24 s25 =>
  condC v24 ((fun (k26 : List AObj → Prop) => iaddrC none 13 x0 v22 s25 fun v30 s31 =>
  loadC true 13 v30 s31 fun v32 s33 =>
  allocC [(.d (.int .i64 0)), (.d (.int .i64 0)), (.d (.int .i64 0)), (.d (.int .i64 0)), (.d (.str [])), (.d (.str [])), (.d (.int .i64 0)), (.exact []), (.d (.int .i64 0)), (.d (.int .i64 0)), (.d (.int .i64 0)), (.d (.int .i64 0)), (.exact [])] s33 fun v34 s35 =>
  storeC 13 v34 v32 s35 fun _ s37 =>
  faddrC 0 v34 s37 fun v38 s39 =>
  loadC false 1 v38 s39 fun v40 s41 =>
  binC .eql .plain v40 (.d (.int .i64 1)) s41 fun v42 s43 =>
  condC v42 (faddrC 10 v34 s43 fun v44 s45 =>
  loadC false 1 v44 s45 fun v46 s47 =>
  faddrC 11 v34 s47 fun v48 s49 =>
  loadC false 1 v48 s49 fun v50 s51 =>
  ACall P n_pool_Pool_Done [dm v1, dm v46, dm v50] s51 fun v52 s53 =>
  (fun (k54 : List AObj → Prop) => faddrC 10 v34 s53 fun v56 s57 =>
  loadC false 1 v56 s57 fun v58 s59 =>
  binC .geq .plain v58 (.d (.int .i64 0)) s59 fun v60 s61 =>
  guardC v60 true (fun k => faddrC 10 v34 s61 k) s61 (fun v62 s63 =>
  guardC v60 true (fun k => loadC false 1 v62 s63 k) s63 (fun v64 s65 =>
  guardC v60 true (fun k => binC .lss .plain v64 (.d (.int .i64 8)) s65 k) s65 (fun v66 s67 =>
  pickC v60 v66 (.d (.bool false)) s67 fun v68 s69 =>
  guardC v68 true (fun k => faddrC 10 v34 s69 k) s69 (fun v70 s71 =>
  guardC v68 true (fun k => loadC false 1 v70 s71 k) s71 (fun v72 s73 =>
  guardC v68 true (fun k => iaddrC (some 8) 1 v13 v72 s73 k) s73 (fun v74 s75 =>
  guardC v68 true (fun k => loadC false 1 v74 s75 k) s75 (fun v76 s77 =>
  guardC v68 true (fun k => faddrC 11 v34 s77 k) s77 (fun v78 s79 =>
  guardC v68 true (fun k => loadC false 1 v78 s79 k) s79 (fun v80 s81 =>
  guardC v68 true (fun k => binC .leq .plain v76 v80 s81 k) s81 (fun v82 s83 =>
  pickC v68 v82 (.d (.bool false)) s83 fun v84 s85 =>
  condC v84 (faddrC 10 v34 s85 fun v86 s87 =>
  loadC false 1 v86 s87 fun v88 s89 =>
  faddrC 10 v34 s89 fun v90 s91 =>
  loadC false 1 v90 s91 fun v92 s93 =>
  iaddrC (some 8) 1 v13 v92 s93 fun v94 s95 =>
  loadC false 1 v94 s95 fun v96 s97 =>
  iaddrC (some 8) 1 v15 v88 s97 fun v98 s99 =>
  storeC 1 v98 v96 s99 fun _ s101 =>
  k54 s101) (k54 s85))))))))))))
  (fun  s55 => k26 s55)) (faddrC 1 v34 s43 fun v102 s103 =>
  loadC true 9 v102 s103 fun v104 s105 =>
  mksliceC false 9 1 (fillV (rep [(.d (.int .i64 0)), (.d (.int .i64 0)), (.d (.int .i64 0)), (.d (.str [])), (.d (.str [])), (.d (.int .i64 0)), (.exact []), (.d (.int .i64 0)), (.d (.int .i64 0))] 1) [(0, 9, v104)]) s105 fun v106 s107 =>
  ACall P n_r08_CheckBatch [dm v106] s107 fun v108 s109 =>
  binC .neq .plain v108 (.d (.int .i64 0)) s109 fun v110 s111 =>
  condC v110 (faddrC 1 v34 s111 fun v112 s113 =>
  loadC true 9 v112 s113 fun v114 s115 =>
  ACall P n_pool_Pool_Put [dm v1, dm v114] s115 fun v116 s117 =>
  condC v116 (Z (consO (some (.d (.bool false))) (some [])) s117) (k26 s117)) (faddrC 1 v34 s111 fun v118 s119 =>
  faddrC 0 v118 s119 fun v120 s121 =>
  faddrC 0 v120 s121 fun v122 s123 =>
  loadC false 1 v122 s123 fun v124 s125 =>
  faddrC 1 v34 s125 fun v126 s127 =>
  loadC true 9 v126 s127 fun v128 s129 =>
  ACall P n_pool_Pool_Put [dm v1, dm v128] s129 fun v130 s131 =>
  iaddrC (some 8) 1 v15 v124 s131 fun v132 s133 =>
  loadC false 1 v132 s133 fun v134 s135 =>
  iaddrC (some 8) 1 v13 v124 s135 fun v136 s137 =>
  loadC false 1 v136 s137 fun v138 s139 =>
  binC .eql .plain v134 v138 s139 fun v140 s141 =>
  guardC v140 false (fun k => faddrC 1 v34 s141 k) s141 (fun v142 s143 =>
  guardC v140 false (fun k => faddrC 0 v142 s143 k) s143 (fun v144 s145 =>
  guardC v140 false (fun k => faddrC 1 v144 s145 k) s145 (fun v146 s147 =>
  guardC v140 false (fun k => loadC false 1 v146 s147 k) s147 (fun v148 s149 =>
  guardC v140 false (fun k => k v124 s149) s149 (fun v150 s151 =>
  guardC v140 false (fun k => iaddrC (some 8) 1 v13 v150 s151 k) s151 (fun v152 s153 =>
  guardC v140 false (fun k => loadC false 1 v152 s153 k) s153 (fun v154 s155 =>
  guardC v140 false (fun k => binC .gtr .plain v148 v154 s155 k) s155 (fun v156 s157 =>
  pickC v140 (.d (.bool true)) v156 s157 fun v158 s159 =>
  condC v158 (unC .not v130 s159 fun v160 s161 =>
  condC v160 (Z (consO (some (.d (.bool false))) (some [])) s161) (faddrC 1 v34 s161 fun v162 s163 =>
  faddrC 0 v162 s163 fun v164 s165 =>
  faddrC 1 v164 s165 fun v166 s167 =>
  loadC false 1 v166 s167 fun v168 s169 =>
  iaddrC (some 8) 1 v13 v124 s169 fun v170 s171 =>
  storeC 1 v170 v168 s171 fun _ s173 =>
  iaddrC (some 8) 1 v15 v124 s173 fun v174 s175 =>
  storeC 1 v174 (.d (.int .i64 0)) s175 fun _ s177 =>
  k26 s177)) (condC v130 (Z (consO (some (.d (.bool false))) (some [])) s159) (k26 s159)))))))))))))
  (fun  s27 => binC .add .plain v22 (.d (.int .i64 1)) s27 fun v28 s29 =>
  again21 [v28] s29)) (loopC [(.d (.int .i64 0))] s25 fun vs178 s179 again180 =>
  headC vs178 fun v181 vs182 =>
  binC .lss .plain v181 (.d (.int .i64 8)) s179 fun v183 s184 =>
  condC v183 (ACall P n_pool_Pool_Of [dm v1, dm v181] s184 fun v185 s186 =>
  extractC v185 0 s186 fun v187 s188 =>
  extractC v185 1 s188 fun v189 s190 =>
  allocC [(.d (.int .i64 0)), (.d (.int .i64 0)), (.d (.int .i64 0)), (.d (.str [])), (.d (.str [])), (.d (.int .i64 0)), (.exact []), (.d (.int .i64 0)), (.d (.int .i64 0))] s190 fun v191 s192 =>
  storeC 9 v191 v187 s192 fun _ s194 =>
  iaddrC (some 8) 1 v13 v181 s194 fun v195 s196 =>
  loadC false 1 v195 s196 fun v197 s198 =>
  iaddrC (some 8) 1 v15 v181 s198 fun v199 s200 =>
  loadC false 1 v199 s200 fun v201 s202 =>
  binC .neq .plain v197 v201 s202 fun v203 s204 =>
  binC .neq .bool v189 v203 s204 fun v205 s206 =>
  guardC v205 false (fun k => k v189 s206) s206 (fun v207 s208 =>
  guardC v205 false (fun k => k v207 s208) s208 (fun v209 s210 =>
  guardC v209 true (fun k => faddrC 0 v191 s210 k) s210 (fun v211 s212 =>
  guardC v209 true (fun k => faddrC 1 v211 s212 k) s212 (fun v213 s214 =>
  guardC v209 true (fun k => loadC false 1 v213 s214 k) s214 (fun v215 s216 =>
  guardC v209 true (fun k => k v181 s216) s216 (fun v217 s218 =>
  guardC v209 true (fun k => iaddrC (some 8) 1 v13 v217 s218 k) s218 (fun v219 s220 =>
  guardC v209 true (fun k => loadC false 1 v219 s220 k) s220 (fun v221 s222 =>
  guardC v209 true (fun k => binC .neq .plain v215 v221 s222 k) s222 (fun v223 s224 =>
  guardC v205 false (fun k => pickC v209 v223 (.d (.bool false)) s224 k) s224 (fun v225 s226 =>
  pickC v205 (.d (.bool true)) v225 s226 fun v227 s228 =>
  condC v227 (Z (consO (some (.d (.bool false))) (some [])) s228) (binC .add .plain v181 (.d (.int .i64 1)) s228 fun v229 s230 =>
  again180 [v229] s230)))))))))))) (Z (consO (some (.d (.bool true))) (some [])) s184)))))
theorem s_l18_PoolLatest {P : Program} {x0 : AV} {σ : List AObj} {Z : Option (List AV) → List AObj → Prop} (h : S_l18_PoolLatest P x0 σ Z) : awp P A_l18_PoolLatest.body (AtEnd fun fr s => Z (resAs fr s A_l18_PoolLatest.res) s) (slots0 0 [x0]) σ :=
  cast (by kernel_rfl) h
/-- bulla/pool.New -/
def S_pool_New (P : Program) (σ : List AObj) (Z : Option (List AV) → List AObj → Prop) : Prop :=
  buildC (fillV [(.d (.bool false)), (.exact []), (.exact []), (.exact []), (.exact []), (.exact []), (.exact []), (.exact []), (.exact [])] [(0, 1, (.d (.bool true)))]) σ fun v1 s2 =>
  boxC v1 s2 fun v3 s4 =>
  Z (consO (some v3) (some [])) s4
theorem s_pool_New {P : Program} {σ : List AObj} {Z : Option (List AV) → List AObj → Prop} (h : S_pool_New P  σ Z) : awp P A_pool_New.body (AtEnd fun fr s => Z (resAs fr s A_pool_New.res) s) (slots0 0 []) σ :=
  cast (by kernel_rfl) h
/-- bulla/bullalaw18.begun -/
def S_l18_begun (P : Program) (σ : List AObj) (Z : Option (List AV) → List AObj → Prop) : Prop :=
  ACall P n_pool_New [] σ fun v1 s2 =>
  binC .neq .ptr v1 (.d .nilp) s2 fun v3 s4 =>
  guardC v3 true (fun k => k v1 s4) s4 (fun v5 s6 =>
  guardC v3 true (fun k => ACall P n_l18_signed [dm (.d (.int .i64 2)), dm (.d (.int .i64 5))] s6 k) s6 (fun v7 s8 =>
  guardC v3 true (fun k => ACall P n_pool_Pool_Put [dm v5, dm v7] s8 k) s8 (fun v9 s10 =>
  pickC v3 v9 (.d (.bool false)) s10 fun v11 s12 =>
  guardC v11 true (fun k => k v1 s12) s12 (fun v13 s14 =>
  guardC v11 true (fun k => ACall P n_l18_signed [dm (.d (.int .i64 2)), dm (.d (.int .i64 4))] s14 k) s14 (fun v15 s16 =>
  guardC v11 true (fun k => ACall P n_pool_Pool_Put [dm v13, dm v15] s16 k) s16 (fun v17 s18 =>
  guardC v11 true (fun k => unC .not v17 s18 k) s18 (fun v19 s20 =>
  pickC v11 v19 (.d (.bool false)) s20 fun v21 s22 =>
  guardC v21 true (fun k => k v1 s22) s22 (fun v23 s24 =>
  guardC v21 true (fun k => ACall P n_l18_signed [dm (.d (.int .i64 2)), dm (.d (.int .i64 7))] s24 k) s24 (fun v25 s26 =>
  guardC v21 true (fun k => ACall P n_pool_Pool_Put [dm v23, dm v25] s26 k) s26 (fun v27 s28 =>
  pickC v21 v27 (.d (.bool false)) s28 fun v29 s30 =>
  guardC v29 true (fun k => k v1 s30) s30 (fun v31 s32 =>
  guardC v29 true (fun k => ACall P n_pool_Pool_Len [dm v31] s32 k) s32 (fun v33 s34 =>
  guardC v29 true (fun k => binC .eql .plain v33 (.d (.int .i64 1)) s34 k) s34 (fun v35 s36 =>
  pickC v29 v35 (.d (.bool false)) s36 fun v37 s38 =>
  guardC v37 true (fun k => k v1 s38) s38 (fun v39 s40 =>
  guardC v37 true (fun k => ACall P n_pool_Pool_Pick [dm v39, dm (.exact [])] s40 k) s40 (fun v41 s42 =>
  guardC v37 true (fun k => lenC .sl v41 s42 k) s42 (fun v43 s44 =>
  guardC v37 true (fun k => binC .eql .plain v43 (.d (.int .i64 1)) s44 k) s44 (fun v45 s46 =>
  pickC v37 v45 (.d (.bool false)) s46 fun v47 s48 =>
  guardC v47 true (fun k => k v1 s48) s48 (fun v49 s50 =>
  guardC v47 true (fun k => ACall P n_l18_signed [dm (.d (.int .i64 2)), dm (.d (.int .i64 7))] s50 k) s50 (fun v51 s52 =>
  guardC v47 true (fun k => mksliceC false 9 1 (fillV (rep [(.d (.int .i64 0)), (.d (.int .i64 0)), (.d (.int .i64 0)), (.d (.str [])), (.d (.str [])), (.d (.int .i64 0)), (.exact []), (.d (.int .i64 0)), (.d (.int .i64 0))] 1) [(0, 9, v51)]) s52 k) s52 (fun v53 s54 =>
  guardC v47 true (fun k => mksliceC false 1 1 (fillV (rep [(.exact [])] 1) [(0, 1, v53)]) s54 k) s54 (fun v55 s56 =>
  guardC v47 true (fun k => ACall P n_pool_Pool_Pick [dm v49, dm v55] s56 k) s56 (fun v57 s58 =>
  guardC v47 true (fun k => lenC .sl v57 s58 k) s58 (fun v59 s60 =>
  guardC v47 true (fun k => binC .eql .plain v59 (.d (.int .i64 0)) s60 k) s60 (fun v61 s62 =>
  pickC v47 v61 (.d (.bool false)) s62 fun v63 s64 =>
  guardC v63 true (fun k => k v1 s64) s64 (fun v65 s66 =>
  guardC v63 true (fun k => ACall P n_pool_Pool_Done [dm v65, dm (.d (.int .i64 2)), dm (.d (.int .i64 6))] s66 k) s66 (fun v67 s68 =>
  guardC v63 true (fun k => unC .not v67 s68 k) s68 (fun v69 s70 =>
  pickC v63 v69 (.d (.bool false)) s70 fun v71 s72 =>
  guardC v71 true (fun k => k v1 s72) s72 (fun v73 s74 =>
  guardC v71 true (fun k => ACall P n_pool_Pool_Done [dm v73, dm (.d (.int .i64 2)), dm (.d (.int .i64 7))] s74 k) s74 (fun v75 s76 =>
  pickC v71 v75 (.d (.bool false)) s76 fun v77 s78 =>
  guardC v77 true (fun k => k v1 s78) s78 (fun v79 s80 =>
  guardC v77 true (fun k => ACall P n_pool_Pool_Len [dm v79] s80 k) s80 (fun v81 s82 =>
  guardC v77 true (fun k => binC .eql .plain v81 (.d (.int .i64 0)) s82 k) s82 (fun v83 s84 =>
  pickC v77 v83 (.d (.bool false)) s84 fun v85 s86 =>
  Z (consO (some v85) (some [])) s86))))))))))))))))))))))))))))))))
theorem s_l18_begun {P : Program} {σ : List AObj} {Z : Option (List AV) → List AObj → Prop} (h : S_l18_begun P  σ Z) : awp P A_l18_begun.body (AtEnd fun fr s => Z (resAs fr s A_l18_begun.res) s) (slots0 0 []) σ :=
  cast (by kernel_rfl) h
/-- (*bulla/pool.Pool).Put -/
def S_pool_Pool_Put (P : Program) (x0 x1 : AV) (σ : List AObj) (Z : Option (List AV) → List AObj → Prop) : Prop :=
  boxC x1 σ fun v1 s2 =>
  ACall P n_pool_Pool_none [dm x0] s2 fun v3 s4 =>
  guardC v3 false (fun k => loadC true 9 v1 s4 k) s4 (fun v5 s6 =>
  guardC v3 false (fun k => mksliceC false 9 1 (fillV (rep [(.d (.int .i64 0)), (.d (.int .i64 0)), (.d (.int .i64 0)), (.d (.str [])), (.d (.str [])), (.d (.int .i64 0)), (.exact []), (.d (.int .i64 0)), (.d (.int .i64 0))] 1) [(0, 9, v5)]) s6 k) s6 (fun v7 s8 =>
  guardC v3 false (fun k => ACall P n_request_CheckBatch [dm v7] s8 k) s8 (fun v9 s10 =>
  guardC v3 false (fun k => binC .neq .plain v9 (.d (.int .i64 0)) s10 k) s10 (fun v11 s12 =>
  pickC v3 (.d (.bool true)) v11 s12 fun v13 s14 =>
  condC v13 (Z (consO (some (.d (.bool false))) (some [])) s14) (faddrC 0 v1 s14 fun v15 s16 =>
  faddrC 0 v15 s16 fun v17 s18 =>
  loadC false 1 v17 s18 fun v19 s20 =>
  nilC x0 s20 fun v21 s22 =>
  faddrC 1 v21 s22 fun v23 s24 =>
  iaddrC (some 8) 1 v23 v19 s24 fun v25 s26 =>
  nilC v25 s26 fun v27 s28 =>
  loadC false 1 v27 s28 fun v29 s30 =>
  lenC .sl v29 s30 fun v31 s32 =>
  binC .gtr .plain v31 (.d (.int .i64 0)) s32 fun v33 s34 =>
  guardC v33 true (fun k => k v25 s34) s34 (fun v35 s36 =>
  guardC v33 true (fun k => nilC v35 s36 k) s36 (fun v37 s38 =>
  guardC v33 true (fun k => loadC false 1 v37 s38 k) s38 (fun v39 s40 =>
  guardC v33 true (fun k => iaddrC none 9 v39 (.d (.int .i64 0)) s40 k) s40 (fun v41 s42 =>
  guardC v33 true (fun k => faddrC 0 v41 s42 k) s42 (fun v43 s44 =>
  guardC v33 true (fun k => faddrC 1 v43 s44 k) s44 (fun v45 s46 =>
  guardC v33 true (fun k => loadC false 1 v45 s46 k) s46 (fun v47 s48 =>
  guardC v33 true (fun k => faddrC 0 v1 s48 k) s48 (fun v49 s50 =>
  guardC v33 true (fun k => faddrC 1 v49 s50 k) s50 (fun v51 s52 =>
  guardC v33 true (fun k => loadC false 1 v51 s52 k) s52 (fun v53 s54 =>
  guardC v33 true (fun k => binC .geq .plain v47 v53 s54 k) s54 (fun v55 s56 =>
  pickC v33 v55 (.d (.bool false)) s56 fun v57 s58 =>
  condC v57 (Z (consO (some (.d (.bool false))) (some [])) s58) (loadC true 9 v1 s58 fun v59 s60 =>
  mksliceC false 9 1 (fillV (rep [(.d (.int .i64 0)), (.d (.int .i64 0)), (.d (.int .i64 0)), (.d (.str [])), (.d (.str [])), (.d (.int .i64 0)), (.exact []), (.d (.int .i64 0)), (.d (.int .i64 0))] 1) [(0, 9, v59)]) s60 fun v61 s62 =>
  ACall P n_request_Clone [dm v61] s62 fun v63 s64 =>
  nilC v25 s64 fun v65 s66 =>
  storeC 1 v65 v63 s66 fun _ s68 =>
  Z (consO (some (.d (.bool true))) (some [])) s68)))))))))))))))))
theorem s_pool_Pool_Put {P : Program} {x0 x1 : AV} {σ : List AObj} {Z : Option (List AV) → List AObj → Prop} (h : S_pool_Pool_Put P x0 x1 σ Z) : awp P A_pool_Pool_Put.body (AtEnd fun fr s => Z (resAs fr s A_pool_Pool_Put.res) s) (slots0 0 [x0, x1]) σ :=
  cast (by kernel_rfl) h
end Go.Proofs.Ytfnnejokhikefaa
