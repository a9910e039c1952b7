/- The conditions of each function, its slots as variables, and that the logic's conditions are these. Printed by program. -/
import Derived.Test.YtcappjcojggehaaGreatAf2
set_option linter.all false
set_option maxRecDepth 100000
set_option linter.unusedVariables false
namespace Go.Proofs.YtcappjcojggehaaGreat
open Go.AW
/-- bulla/prepared.Valid -/
def zfK (P : Program) (x0 x1 x2 x3 : AV) (σ : List AObj) (Z : Option (List AV) → List AObj → Prop) : Prop :=
  boxC x3 σ fun v1 s2 =>
  ACall P zbp [dm x0] s2 fun v3 s4 =>
  binC .eql .ptr v3 (.d .nilp) s4 fun v5 s6 =>
  zc v5 false (fun k => k x1 s6) s6 (fun v7 s8 =>
  zc v5 false (fun k => ACall P zbe [dm v7] s8 k) s8 (fun v9 s10 =>
  zc v5 false (fun k => binC .eql .ptr v9 (.d .nilp) s10 k) s10 (fun v11 s12 =>
  pickC v5 (.d (.bool true)) v11 s12 fun v13 s14 =>
  zc v13 false (fun k => k x2 s14) s14 (fun v15 s16 =>
  zc v13 false (fun k => ACall P zbT [dm v15] s16 k) s16 (fun v17 s18 =>
  zc v13 false (fun k => binC .neq .plain v17 (.d (.int .i64 0)) s18 k) s18 (fun v19 s20 =>
  pickC v13 (.d (.bool true)) v19 s20 fun v21 s22 =>
  zc v21 false (fun k => zh 0 v1 s22 k) s22 (fun v23 s24 =>
  zc v21 false (fun k => loadC false 1 v23 s24 k) s24 (fun v25 s26 =>
  zc v21 false (fun k => binC .lss .plain v25 (.d (.int .i64 0)) s26 k) s26 (fun v27 s28 =>
  pickC v21 (.d (.bool true)) v27 s28 fun v29 s30 =>
  zc v29 false (fun k => zh 0 v1 s30 k) s30 (fun v31 s32 =>
  zc v29 false (fun k => loadC false 1 v31 s32 k) s32 (fun v33 s34 =>
  zc v29 false (fun k => binC .gtr .plain v33 (.d (.int .i64 9007199254740992)) s34 k) s34 (fun v35 s36 =>
  pickC v29 (.d (.bool true)) v35 s36 fun v37 s38 =>
  zc v37 false (fun k => zh 1 v1 s38 k) s38 (fun v39 s40 =>
  zc v37 false (fun k => loadC false 1 v39 s40 k) s40 (fun v41 s42 =>
  zc v37 false (fun k => binC .lss .plain v41 (.d (.int .i64 1)) s42 k) s42 (fun v43 s44 =>
  pickC v37 (.d (.bool true)) v43 s44 fun v45 s46 =>
  zc v45 false (fun k => zh 1 v1 s46 k) s46 (fun v47 s48 =>
  zc v45 false (fun k => loadC false 1 v47 s48 k) s48 (fun v49 s50 =>
  zc v45 false (fun k => binC .gtr .plain v49 (.d (.int .i64 9007199254740992)) s50 k) s50 (fun v51 s52 =>
  pickC v45 (.d (.bool true)) v51 s52 fun v53 s54 =>
  zc v53 false (fun k => k x0 s54) s54 (fun v55 s56 =>
  zc v53 false (fun k => k x1 s56) s56 (fun v57 s58 =>
  zc v53 false (fun k => zh 6 v1 s58 k) s58 (fun v59 s60 =>
  zc v53 false (fun k => loadC false 1 v59 s60 k) s60 (fun v61 s62 =>
  zc v53 false (fun k => ACall P zbO [dm v55, dm v57, dm v61] s62 k) s62 (fun v63 s64 =>
  zc v53 false (fun k => unC .not v63 s64 k) s64 (fun v65 s66 =>
  pickC v53 (.d (.bool true)) v65 s66 fun v67 s68 =>
  condC v67 (Z (consO (some (.d (.bool false))) (some [])) s68) (zh 6 v1 s68 fun v69 s70 =>
  loadC false 1 v69 s70 fun v71 s72 =>
  ACall P zcq [dm (.exact []), dm v71] s72 fun v73 s74 =>
  ACall P zaM [dm x0, dm v73] s74 fun v75 s76 =>
  zi v75 0 s76 fun v77 s78 =>
  zi v75 1 s78 fun v79 s80 =>
  zh 0 v1 s80 fun v81 s82 =>
  loadC false 1 v81 s82 fun v83 s84 =>
  ACall P zdf [dm x2, dm v83] s84 fun v85 s86 =>
  unC .not v79 s86 fun v87 s88 =>
  zc v87 false (fun k => k v77 s88) s88 (fun v89 s90 =>
  zc v87 false (fun k => zh 2 v1 s90 k) s90 (fun v91 s92 =>
  zc v87 false (fun k => loadC false 1 v91 s92 k) s92 (fun v93 s94 =>
  zc v87 false (fun k => binC .neq .plain v89 v93 s94 k) s94 (fun v95 s96 =>
  pickC v87 (.d (.bool true)) v95 s96 fun v97 s98 =>
  zc v97 false (fun k => k x0 s98) s98 (fun v99 s100 =>
  zc v97 false (fun k => k x1 s100) s100 (fun v101 s102 =>
  zc v97 false (fun k => zh 3 v1 s102 k) s102 (fun v103 s104 =>
  zc v97 false (fun k => loadC true 2 v103 s104 k) s104 (fun v105 s106 =>
  zc v97 false (fun k => k v85 s106) s106 (fun v107 s108 =>
  zc v97 false (fun k => zh 0 v1 s108 k) s108 (fun v109 s110 =>
  zc v97 false (fun k => loadC false 1 v109 s110 k) s110 (fun v111 s112 =>
  zc v97 false (fun k => zh 1 v1 s112 k) s112 (fun v113 s114 =>
  zc v97 false (fun k => loadC false 1 v113 s114 k) s114 (fun v115 s116 =>
  zc v97 false (fun k => k v77 s116) s116 (fun v117 s118 =>
  zc v97 false (fun k => ACall P zbY [dm v99, dm v101, dm v105, dm v107, dm (.d (.int .i64 2)), dm v111, dm v115, dm v117] s118 k) s118 (fun v119 s120 =>
  zc v97 false (fun k => unC .not v119 s120 k) s120 (fun v121 s122 =>
  pickC v97 (.d (.bool true)) v121 s122 fun v123 s124 =>
  zc v123 false (fun k => zh 5 v1 s124 k) s124 (fun v125 s126 =>
  zc v123 false (fun k => loadC false 1 v125 s126 k) s126 (fun v127 s128 =>
  zc v123 false (fun k => lenC .sl v127 s128 k) s128 (fun v129 s130 =>
  zc v123 false (fun k => k x2 s130) s130 (fun v131 s132 =>
  zc v123 false (fun k => binC .mul .plain (.d (.int .i64 2)) v131 s132 k) s132 (fun v133 s134 =>
  zc v123 false (fun k => binC .neq .plain v129 v133 s134 k) s134 (fun v135 s136 =>
  pickC v123 (.d (.bool true)) v135 s136 fun v137 s138 =>
  condC v137 (Z (consO (some (.d (.bool false))) (some [])) s138) (zh 5 v1 s138 fun v139 s140 =>
  loadC false 1 v139 s140 fun v141 s142 =>
  lenC .sl v141 s142 fun v143 s144 =>
  loopC [(.d (.int .i64 (-1))), (.d (.int .i64 0))] s144 fun vs145 s146 again147 =>
  headC vs145 fun v148 vs149 =>
  headC vs149 fun v150 vs151 =>
  binC .lss .plain v150 v143 s146 fun v152 s153 =>
  condC v152 (zr none 2 v141 v150 s153 fun v154 s155 =>
  loadC true 2 v154 s155 fun v156 s157 =>
  zH [(.d (.int .i64 0)), (.d (.int .i64 0))] s157 fun v158 s159 =>
  zp 2 v158 v156 s159 fun _ s161 =>
  zh 0 v158 s161 fun v162 s163 =>
  loadC false 1 v162 s163 fun v164 s165 =>
  binC .leq .plain v164 v148 s165 fun v166 s167 =>
  zc v166 false (fun k => zh 0 v158 s167 k) s167 (fun v168 s169 =>
  zc v166 false (fun k => loadC false 1 v168 s169 k) s169 (fun v170 s171 =>
  zc v166 false (fun k => k x2 s171) s171 (fun v172 s173 =>
  zc v166 false (fun k => ACall P zbW [dm v172] s173 k) s173 (fun v174 s175 =>
  keepO v168 s173 s175 ∧ (zc v166 false (fun k => binC .geq .plain v170 v174 s175 k) s175 (fun v176 s177 =>
  pickC v166 (.d (.bool true)) v176 s177 fun v178 s179 =>
  zc v178 false (fun k => zh 0 v158 s179 k) s179 (fun v180 s181 =>
  zc v178 false (fun k => loadC false 1 v180 s181 k) s181 (fun v182 s183 =>
  zc v178 false (fun k => k v85 s183) s183 (fun v184 s185 =>
  zc v178 false (fun k => binC .eql .plain v182 v184 s185 k) s185 (fun v186 s187 =>
  pickC v178 (.d (.bool true)) v186 s187 fun v188 s189 =>
  zc v188 false (fun k => k x0 s189) s189 (fun v190 s191 =>
  zc v188 false (fun k => k x1 s191) s191 (fun v192 s193 =>
  zc v188 false (fun k => loadC true 2 v158 s193 k) s193 (fun v194 s195 =>
  zc v188 false (fun k => zh 0 v158 s195 k) s195 (fun v196 s197 =>
  zc v188 false (fun k => loadC false 1 v196 s197 k) s197 (fun v198 s199 =>
  zc v188 false (fun k => zh 0 v1 s199 k) s199 (fun v200 s201 =>
  zc v188 false (fun k => loadC false 1 v200 s201 k) s201 (fun v202 s203 =>
  zc v188 false (fun k => zh 1 v1 s203 k) s203 (fun v204 s205 =>
  zc v188 false (fun k => loadC false 1 v204 s205 k) s205 (fun v206 s207 =>
  zc v188 false (fun k => k v77 s207) s207 (fun v208 s209 =>
  zc v188 false (fun k => ACall P zbY [dm v190, dm v192, dm v194, dm v198, dm (.d (.int .i64 3)), dm v202, dm v206, dm v208] s209 k) s209 (fun v210 s211 =>
  zc v188 false (fun k => unC .not v210 s211 k) s211 (fun v212 s213 =>
  pickC v188 (.d (.bool true)) v212 s213 fun v214 s215 =>
  condC v214 (Z (consO (some (.d (.bool false))) (some [])) s215) (zh 0 v158 s215 fun v216 s217 =>
  loadC false 1 v216 s217 fun v218 s219 =>
  binC .add .plain v150 (.d (.int .i64 1)) s219 fun v220 s221 =>
  again147 [v218, v220] s221)))))))))))))))))))))))) (Z (consO (some (.d (.bool true))) (some [])) s153)))))))))))))))))))))))))))))))))))))))))))))))))
theorem zkI {P : Program} {x0 x1 x2 x3 : AV} {σ : List AObj} {Z : Option (List AV) → List AObj → Prop} (h : zfK P x0 x1 x2 x3 σ Z) : awp P zdq.body (AtEnd fun fr s => Z (resAs fr s zdq.res) s) (zB 0 [x0, x1, x2, x3]) σ :=
  cast (by kernel_rfl) h
/-- bulla/bullaref15.Valid -/
def zmb (P : Program) (x0 x1 x2 x3 : AV) (σ : List AObj) (Z : Option (List AV) → List AObj → Prop) : Prop :=
  boxC x3 σ fun v1 s2 =>
  ACall P zdM [dm x2] s2 fun v3 s4 =>
  binC .neq .plain v3 (.d (.int .i64 0)) s4 fun v5 s6 =>
  zc v5 false (fun k => zh 0 v1 s6 k) s6 (fun v7 s8 =>
  zc v5 false (fun k => loadC false 1 v7 s8 k) s8 (fun v9 s10 =>
  zc v5 false (fun k => binC .lss .plain v9 (.d (.int .i64 0)) s10 k) s10 (fun v11 s12 =>
  pickC v5 (.d (.bool true)) v11 s12 fun v13 s14 =>
  zc v13 false (fun k => zh 0 v1 s14 k) s14 (fun v15 s16 =>
  zc v13 false (fun k => loadC false 1 v15 s16 k) s16 (fun v17 s18 =>
  zc v13 false (fun k => binC .gtr .plain v17 (.d (.int .i64 9007199254740992)) s18 k) s18 (fun v19 s20 =>
  pickC v13 (.d (.bool true)) v19 s20 fun v21 s22 =>
  zc v21 false (fun k => zh 1 v1 s22 k) s22 (fun v23 s24 =>
  zc v21 false (fun k => loadC false 1 v23 s24 k) s24 (fun v25 s26 =>
  zc v21 false (fun k => binC .lss .plain v25 (.d (.int .i64 1)) s26 k) s26 (fun v27 s28 =>
  pickC v21 (.d (.bool true)) v27 s28 fun v29 s30 =>
  zc v29 false (fun k => zh 1 v1 s30 k) s30 (fun v31 s32 =>
  zc v29 false (fun k => loadC false 1 v31 s32 k) s32 (fun v33 s34 =>
  zc v29 false (fun k => binC .gtr .plain v33 (.d (.int .i64 9007199254740992)) s34 k) s34 (fun v35 s36 =>
  pickC v29 (.d (.bool true)) v35 s36 fun v37 s38 =>
  zc v37 false (fun k => k x0 s38) s38 (fun v39 s40 =>
  zc v37 false (fun k => k x1 s40) s40 (fun v41 s42 =>
  zc v37 false (fun k => zh 6 v1 s42 k) s42 (fun v43 s44 =>
  zc v37 false (fun k => loadC false 1 v43 s44 k) s44 (fun v45 s46 =>
  zc v37 false (fun k => ACall P zde [dm v39, dm v41, dm v45] s46 k) s46 (fun v47 s48 =>
  zc v37 false (fun k => unC .not v47 s48 k) s48 (fun v49 s50 =>
  pickC v37 (.d (.bool true)) v49 s50 fun v51 s52 =>
  zc v51 false (fun k => zh 5 v1 s52 k) s52 (fun v53 s54 =>
  zc v51 false (fun k => loadC false 1 v53 s54 k) s54 (fun v55 s56 =>
  zc v51 false (fun k => lenC .sl v55 s56 k) s56 (fun v57 s58 =>
  zc v51 false (fun k => k x2 s58) s58 (fun v59 s60 =>
  zc v51 false (fun k => binC .mul .plain (.d (.int .i64 2)) v59 s60 k) s60 (fun v61 s62 =>
  zc v51 false (fun k => binC .neq .plain v57 v61 s62 k) s62 (fun v63 s64 =>
  pickC v51 (.d (.bool true)) v63 s64 fun v65 s66 =>
  condC v65 (Z (consO (some (.d (.bool false))) (some [])) s66) (zh 6 v1 s66 fun v67 s68 =>
  loadC false 1 v67 s68 fun v69 s70 =>
  ACall P zda [dm (.exact []), dm v69] s70 fun v71 s72 =>
  ACall P zaU [dm x0, dm v71] s72 fun v73 s74 =>
  zi v73 0 s74 fun v75 s76 =>
  zi v73 1 s76 fun v77 s78 =>
  zh 0 v1 s78 fun v79 s80 =>
  loadC false 1 v79 s80 fun v81 s82 =>
  ACall P zfg [dm x2, dm v81] s82 fun v83 s84 =>
  unC .not v77 s84 fun v85 s86 =>
  zc v85 false (fun k => k v75 s86) s86 (fun v87 s88 =>
  zc v85 false (fun k => zh 2 v1 s88 k) s88 (fun v89 s90 =>
  zc v85 false (fun k => loadC false 1 v89 s90 k) s90 (fun v91 s92 =>
  zc v85 false (fun k => binC .neq .plain v87 v91 s92 k) s92 (fun v93 s94 =>
  pickC v85 (.d (.bool true)) v93 s94 fun v95 s96 =>
  zc v95 false (fun k => k x0 s96) s96 (fun v97 s98 =>
  zc v95 false (fun k => k x1 s98) s98 (fun v99 s100 =>
  zc v95 false (fun k => zh 3 v1 s100 k) s100 (fun v101 s102 =>
  zc v95 false (fun k => loadC true 2 v101 s102 k) s102 (fun v103 s104 =>
  zc v95 false (fun k => k v83 s104) s104 (fun v105 s106 =>
  zc v95 false (fun k => zh 0 v1 s106 k) s106 (fun v107 s108 =>
  zc v95 false (fun k => loadC false 1 v107 s108 k) s108 (fun v109 s110 =>
  zc v95 false (fun k => zh 1 v1 s110 k) s110 (fun v111 s112 =>
  zc v95 false (fun k => loadC false 1 v111 s112 k) s112 (fun v113 s114 =>
  zc v95 false (fun k => k v75 s114) s114 (fun v115 s116 =>
  zc v95 false (fun k => ACall P zcu [dm v97, dm v99, dm v103, dm v105, dm (.d (.int .i64 2)), dm v109, dm v113, dm v115] s116 k) s116 (fun v117 s118 =>
  zc v95 false (fun k => unC .not v117 s118 k) s118 (fun v119 s120 =>
  pickC v95 (.d (.bool true)) v119 s120 fun v121 s122 =>
  condC v121 (Z (consO (some (.d (.bool false))) (some [])) s122) (loopC [(.d (.int .i64 (-1))), (.d (.int .i64 0))] s122 fun vs123 s124 again125 =>
  headC vs123 fun v126 vs127 =>
  headC vs127 fun v128 vs129 =>
  zh 5 v1 s124 fun v130 s131 =>
  loadC false 1 v130 s131 fun v132 s133 =>
  lenC .sl v132 s133 fun v134 s135 =>
  binC .lss .plain v128 v134 s135 fun v136 s137 =>
  condC v136 (zh 5 v1 s137 fun v138 s139 =>
  loadC false 1 v138 s139 fun v140 s141 =>
  zr none 2 v140 v128 s141 fun v142 s143 =>
  zh 0 v142 s143 fun v144 s145 =>
  loadC false 1 v144 s145 fun v146 s147 =>
  binC .leq .plain v146 v126 s147 fun v148 s149 =>
  zc v148 false (fun k => k v146 s149) s149 (fun v150 s151 =>
  zc v148 false (fun k => k x2 s151) s151 (fun v152 s153 =>
  zc v148 false (fun k => ACall P zdF [dm v152] s153 k) s153 (fun v154 s155 =>
  zc v148 false (fun k => binC .geq .plain v150 v154 s155 k) s155 (fun v156 s157 =>
  pickC v148 (.d (.bool true)) v156 s157 fun v158 s159 =>
  zc v158 false (fun k => k v146 s159) s159 (fun v160 s161 =>
  zc v158 false (fun k => k v83 s161) s161 (fun v162 s163 =>
  zc v158 false (fun k => binC .eql .plain v160 v162 s163 k) s163 (fun v164 s165 =>
  pickC v158 (.d (.bool true)) v164 s165 fun v166 s167 =>
  zc v166 false (fun k => k x0 s167) s167 (fun v168 s169 =>
  zc v166 false (fun k => k x1 s169) s169 (fun v170 s171 =>
  zc v166 false (fun k => zh 5 v1 s171 k) s171 (fun v172 s173 =>
  zc v166 false (fun k => loadC false 1 v172 s173 k) s173 (fun v174 s175 =>
  zc v166 false (fun k => k v128 s175) s175 (fun v176 s177 =>
  zc v166 false (fun k => zr none 2 v174 v176 s177 k) s177 (fun v178 s179 =>
  zc v166 false (fun k => loadC true 2 v178 s179 k) s179 (fun v180 s181 =>
  zc v166 false (fun k => k v146 s181) s181 (fun v182 s183 =>
  zc v166 false (fun k => zh 0 v1 s183 k) s183 (fun v184 s185 =>
  zc v166 false (fun k => loadC false 1 v184 s185 k) s185 (fun v186 s187 =>
  zc v166 false (fun k => zh 1 v1 s187 k) s187 (fun v188 s189 =>
  zc v166 false (fun k => loadC false 1 v188 s189 k) s189 (fun v190 s191 =>
  zc v166 false (fun k => k v75 s191) s191 (fun v192 s193 =>
  zc v166 false (fun k => ACall P zcu [dm v168, dm v170, dm v180, dm v182, dm (.d (.int .i64 3)), dm v186, dm v190, dm v192] s193 k) s193 (fun v194 s195 =>
  zc v166 false (fun k => unC .not v194 s195 k) s195 (fun v196 s197 =>
  pickC v166 (.d (.bool true)) v196 s197 fun v198 s199 =>
  condC v198 (Z (consO (some (.d (.bool false))) (some [])) s199) (binC .add .plain v128 (.d (.int .i64 1)) s199 fun v200 s201 =>
  again125 [v146, v200] s201)))))))))))))))))))))))) (Z (consO (some (.d (.bool true))) (some [])) s137)))))))))))))))))))))))))))))))))))))))))))
theorem s_r15_Valid {P : Program} {x0 x1 x2 x3 : AV} {σ : List AObj} {Z : Option (List AV) → List AObj → Prop} (h : zmb P x0 x1 x2 x3 σ Z) : awp P zhV.body (AtEnd fun fr s => Z (resAs fr s zhV.res) s) (zB 0 [x0, x1, x2, x3]) σ :=
  cast (by kernel_rfl) h
/-- bulla/prepared.Above -/
def zfL (P : Program) (x0 x1 x2 x3 x4 x5 : AV) (σ : List AObj) (Z : Option (List AV) → List AObj → Prop) : Prop :=
  lenC .sl x5 σ fun v1 s2 =>
  loopC [x4, (.d (.int .i64 0))] s2 fun vs3 s4 again5 =>
  headC vs3 fun v6 vs7 =>
  headC vs7 fun v8 vs9 =>
  binC .lss .plain v8 v1 s4 fun v10 s11 =>
  condC v10 (zr none 7 x5 v8 s11 fun v12 s13 =>
  loadC true 7 v12 s13 fun v14 s15 =>
  zH [(.d (.int .i64 0)), (.d (.int .i64 0)), (.d (.int .i64 0)), (.d (.int .i64 0)), (.d (.int .i64 0)), (.exact []), (.exact [])] s15 fun v16 s17 =>
  zp 7 v16 v14 s17 fun _ s19 =>
  loadC true 7 v16 s19 fun v20 s21 =>
  ACall P zaV [dm x0, dm x1, dm x2, dm v20] s21 fun v22 s23 =>
  unC .not v22 s23 fun v24 s25 =>
  zc v24 false (fun k => zh 0 v16 s25 k) s25 (fun v26 s27 =>
  zc v24 false (fun k => loadC false 1 v26 s27 k) s27 (fun v28 s29 =>
  zc v24 false (fun k => k x3 s29) s29 (fun v30 s31 =>
  zc v24 false (fun k => binC .geq .plain v28 v30 s31 k) s31 (fun v32 s33 =>
  pickC v24 (.d (.bool true)) v32 s33 fun v34 s35 =>
  zc v34 false (fun k => zh 1 v16 s35 k) s35 (fun v36 s37 =>
  zc v34 false (fun k => loadC false 1 v36 s37 k) s37 (fun v38 s39 =>
  zc v34 false (fun k => k v6 s39) s39 (fun v40 s41 =>
  zc v34 false (fun k => binC .leq .plain v38 v40 s41 k) s41 (fun v42 s43 =>
  pickC v34 (.d (.bool true)) v42 s43 fun v44 s45 =>
  zc v44 false (fun k => k x4 s45) s45 (fun v46 s47 =>
  zc v44 false (fun k => binC .lss .plain v46 (.d (.int .i64 0)) s47 k) s47 (fun v48 s49 =>
  zc v44 false (fun k => k v48 s49) s49 (fun v50 s51 =>
  zc v50 true (fun k => zh 1 v16 s51 k) s51 (fun v52 s53 =>
  zc v50 true (fun k => loadC false 1 v52 s53 k) s53 (fun v54 s55 =>
  zc v50 true (fun k => k x4 s55) s55 (fun v56 s57 =>
  zc v50 true (fun k => binC .add .plain (.d (.int .i64 8)) v56 s57 k) s57 (fun v58 s59 =>
  zc v50 true (fun k => binC .gtr .plain v54 v58 s59 k) s59 (fun v60 s61 =>
  zc v44 false (fun k => pickC v50 v60 (.d (.bool false)) s61 k) s61 (fun v62 s63 =>
  pickC v44 (.d (.bool true)) v62 s63 fun v64 s65 =>
  zc v64 false (fun k => k x4 s65) s65 (fun v66 s67 =>
  zc v64 false (fun k => binC .geq .plain v66 (.d (.int .i64 0)) s67 k) s67 (fun v68 s69 =>
  zc v64 false (fun k => k v68 s69) s69 (fun v70 s71 =>
  zc v70 true (fun k => zh 1 v16 s71 k) s71 (fun v72 s73 =>
  zc v70 true (fun k => loadC false 1 v72 s73 k) s73 (fun v74 s75 =>
  zc v70 true (fun k => k x4 s75) s75 (fun v76 s77 =>
  zc v70 true (fun k => binC .sub .plain v74 v76 s77 k) s77 (fun v78 s79 =>
  zc v70 true (fun k => binC .gtr .plain v78 (.d (.int .i64 8)) s79 k) s79 (fun v80 s81 =>
  zc v64 false (fun k => pickC v70 v80 (.d (.bool false)) s81 k) s81 (fun v82 s83 =>
  pickC v64 (.d (.bool true)) v82 s83 fun v84 s85 =>
  condC v84 (Z (consO (some (.d (.bool false))) (some [])) s85) (zh 1 v16 s85 fun v86 s87 =>
  loadC false 1 v86 s87 fun v88 s89 =>
  binC .add .plain v8 (.d (.int .i64 1)) s89 fun v90 s91 =>
  again5 [v88, v90] s91)))))))))))))))))))))))))))) (Z (consO (some (.d (.bool true))) (some [])) s11)
theorem zkJ {P : Program} {x0 x1 x2 x3 x4 x5 : AV} {σ : List AObj} {Z : Option (List AV) → List AObj → Prop} (h : zfL P x0 x1 x2 x3 x4 x5 σ Z) : awp P zdr.body (AtEnd fun fr s => Z (resAs fr s zdr.res) s) (zB 0 [x0, x1, x2, x3, x4, x5]) σ :=
  cast (by kernel_rfl) h
/-- bulla/bullaref15.Above -/
def zmc (P : Program) (x0 x1 x2 x3 x4 x5 : AV) (σ : List AObj) (Z : Option (List AV) → List AObj → Prop) : Prop :=
  loopC [x4, (.d (.int .i64 0))] σ fun vs1 s2 again3 =>
  headC vs1 fun v4 vs5 =>
  headC vs5 fun v6 vs7 =>
  lenC .sl x5 s2 fun v8 s9 =>
  binC .lss .plain v6 v8 s9 fun v10 s11 =>
  condC v10 (zr none 7 x5 v6 s11 fun v12 s13 =>
  loadC true 7 v12 s13 fun v14 s15 =>
  ACall P zff [dm x0, dm x1, dm x2, dm v14] s15 fun v16 s17 =>
  unC .not v16 s17 fun v18 s19 =>
  zc v18 false (fun k => k x5 s19) s19 (fun v20 s21 =>
  zc v18 false (fun k => k v6 s21) s21 (fun v22 s23 =>
  zc v18 false (fun k => zr none 7 v20 v22 s23 k) s23 (fun v24 s25 =>
  zc v18 false (fun k => zh 0 v24 s25 k) s25 (fun v26 s27 =>
  zc v18 false (fun k => loadC false 1 v26 s27 k) s27 (fun v28 s29 =>
  zc v18 false (fun k => k x3 s29) s29 (fun v30 s31 =>
  zc v18 false (fun k => binC .geq .plain v28 v30 s31 k) s31 (fun v32 s33 =>
  pickC v18 (.d (.bool true)) v32 s33 fun v34 s35 =>
  zc v34 false (fun k => k x5 s35) s35 (fun v36 s37 =>
  zc v34 false (fun k => k v6 s37) s37 (fun v38 s39 =>
  zc v34 false (fun k => zr none 7 v36 v38 s39 k) s39 (fun v40 s41 =>
  zc v34 false (fun k => zh 1 v40 s41 k) s41 (fun v42 s43 =>
  zc v34 false (fun k => loadC false 1 v42 s43 k) s43 (fun v44 s45 =>
  zc v34 false (fun k => k v4 s45) s45 (fun v46 s47 =>
  zc v34 false (fun k => binC .leq .plain v44 v46 s47 k) s47 (fun v48 s49 =>
  pickC v34 (.d (.bool true)) v48 s49 fun v50 s51 =>
  zc v50 false (fun k => k x5 s51) s51 (fun v52 s53 =>
  zc v50 false (fun k => k v6 s53) s53 (fun v54 s55 =>
  zc v50 false (fun k => zr none 7 v52 v54 s55 k) s55 (fun v56 s57 =>
  zc v50 false (fun k => zh 1 v56 s57 k) s57 (fun v58 s59 =>
  zc v50 false (fun k => loadC false 1 v58 s59 k) s59 (fun v60 s61 =>
  zc v50 false (fun k => k x4 s61) s61 (fun v62 s63 =>
  zc v50 false (fun k => binC .leq .plain v60 v62 s63 k) s63 (fun v64 s65 =>
  pickC v50 (.d (.bool true)) v64 s65 fun v66 s67 =>
  zc v66 false (fun k => k x5 s67) s67 (fun v68 s69 =>
  zc v66 false (fun k => k v6 s69) s69 (fun v70 s71 =>
  zc v66 false (fun k => zr none 7 v68 v70 s71 k) s71 (fun v72 s73 =>
  zc v66 false (fun k => zh 1 v72 s73 k) s73 (fun v74 s75 =>
  zc v66 false (fun k => loadC false 1 v74 s75 k) s75 (fun v76 s77 =>
  zc v66 false (fun k => binC .sub .plain v76 (.d (.int .i64 8)) s77 k) s77 (fun v78 s79 =>
  zc v66 false (fun k => k x4 s79) s79 (fun v80 s81 =>
  zc v66 false (fun k => binC .gtr .plain v78 v80 s81 k) s81 (fun v82 s83 =>
  pickC v66 (.d (.bool true)) v82 s83 fun v84 s85 =>
  condC v84 (Z (consO (some (.d (.bool false))) (some [])) s85) (zr none 7 x5 v6 s85 fun v86 s87 =>
  zh 1 v86 s87 fun v88 s89 =>
  loadC false 1 v88 s89 fun v90 s91 =>
  binC .add .plain v6 (.d (.int .i64 1)) s91 fun v92 s93 =>
  again3 [v90, v92] s93))))))))))))))))))))))))))))))) (Z (consO (some (.d (.bool true))) (some [])) s11)
theorem s_r15_Above {P : Program} {x0 x1 x2 x3 x4 x5 : AV} {σ : List AObj} {Z : Option (List AV) → List AObj → Prop} (h : zmc P x0 x1 x2 x3 x4 x5 σ Z) : awp P zhW.body (AtEnd fun fr s => Z (resAs fr s zhW.res) s) (zB 0 [x0, x1, x2, x3, x4, x5]) σ :=
  cast (by kernel_rfl) h
/-- (*bulla/ideal.Table).Len -/
def zeX (P : Program) (x0 : AV) (σ : List AObj) (Z : Option (List AV) → List AObj → Prop) : Prop :=
  ACall P zaL [dm x0] σ fun v1 s2 =>
  condC v1 (Z (consO (some (.d (.int .i64 0))) (some [])) s2) (nilC x0 s2 fun v3 s4 =>
  zh 0 v3 s4 fun v5 s6 =>
  loadC false 1 v5 s6 fun v7 s8 =>
  lenC .sl v7 s8 fun v9 s10 =>
  Z (consO (some v9) (some [])) s10)
theorem zjh {P : Program} {x0 : AV} {σ : List AObj} {Z : Option (List AV) → List AObj → Prop} (h : zeX P x0 σ Z) : awp P zcW.body (AtEnd fun fr s => Z (resAs fr s zcW.res) s) (zB 0 [x0]) σ :=
  cast (by kernel_rfl) h
/-- (*bulla/ideal.Ledger).Len -/
def zet (P : Program) (x0 : AV) (σ : List AObj) (Z : Option (List AV) → List AObj → Prop) : Prop :=
  ACall P zaG [dm x0] σ fun v1 s2 =>
  condC v1 (Z (consO (some (.d (.int .i64 0))) (some [])) s2) (nilC x0 s2 fun v3 s4 =>
  zh 0 v3 s4 fun v5 s6 =>
  loadC false 1 v5 s6 fun v7 s8 =>
  lenC .sl v7 s8 fun v9 s10 =>
  Z (consO (some v9) (some [])) s10)
theorem zil {P : Program} {x0 : AV} {σ : List AObj} {Z : Option (List AV) → List AObj → Prop} (h : zet P x0 σ Z) : awp P zcF.body (AtEnd fun fr s => Z (resAs fr s zcF.res) s) (zB 0 [x0]) σ :=
  cast (by kernel_rfl) h
/-- (*bulla/prepared.Held).Put -/
def zdV (P : Program) (x0 x1 : AV) (σ : List AObj) (Z : Option (List AV) → List AObj → Prop) : Prop :=
  boxC x1 σ fun v1 s2 =>
  ACall P zbd [dm x0] s2 fun v3 s4 =>
  zc v3 false (fun k => zh 1 v1 s4 k) s4 (fun v5 s6 =>
  zc v3 false (fun k => loadC false 1 v5 s6 k) s6 (fun v7 s8 =>
  zc v3 false (fun k => binC .lss .plain v7 (.d (.int .i64 1)) s8 k) s8 (fun v9 s10 =>
  pickC v3 (.d (.bool true)) v9 s10 fun v11 s12 =>
  zc v11 false (fun k => zh 1 v1 s12 k) s12 (fun v13 s14 =>
  zc v11 false (fun k => loadC false 1 v13 s14 k) s14 (fun v15 s16 =>
  zc v11 false (fun k => binC .gtr .plain v15 (.d (.int .i64 9007199254740992)) s16 k) s16 (fun v17 s18 =>
  pickC v11 (.d (.bool true)) v17 s18 fun v19 s20 =>
  condC v19 (Z (consO (some (.d (.bool false))) (some [])) s20) (nilC x0 s20 fun v21 s22 =>
  zh 0 v21 s22 fun v23 s24 =>
  loadC false 1 v23 s24 fun v25 s26 =>
  zh 1 v1 s26 fun v27 s28 =>
  loadC false 1 v27 s28 fun v29 s30 =>
  mgetC .int true (.agg [(.d (.int .i64 0)), (.d (.int .i64 0)), (.d (.int .i64 0)), (.d (.int .i64 0)), (.d (.int .i64 0)), (.exact []), (.exact [])]) v25 v29 s30 fun v31 s32 =>
  zi v31 0 s32 fun v33 s34 =>
  zi v31 1 s34 fun v35 s36 =>
  zH [(.d (.int .i64 0)), (.d (.int .i64 0)), (.d (.int .i64 0)), (.d (.int .i64 0)), (.d (.int .i64 0)), (.exact []), (.exact [])] s36 fun v37 s38 =>
  keepO v23 s36 s38 ∧ (keepO v27 s36 s38 ∧ (keepO v25 s36 s38 ∧ (zp 7 v37 v33 s38 fun _ s40 =>
  zc v35 true (fun k => zh 0 v37 s40 k) s40 (fun v41 s42 =>
  zc v35 true (fun k => loadC false 1 v41 s42 k) s42 (fun v43 s44 =>
  zc v35 true (fun k => zh 0 v1 s44 k) s44 (fun v45 s46 =>
  zc v35 true (fun k => loadC false 1 v45 s46 k) s46 (fun v47 s48 =>
  zc v35 true (fun k => binC .geq .plain v43 v47 s48 k) s48 (fun v49 s50 =>
  pickC v35 v49 (.d (.bool false)) s50 fun v51 s52 =>
  condC v51 (Z (consO (some (.d (.bool false))) (some [])) s52) (nilC x0 s52 fun v53 s54 =>
  zh 0 v53 s54 fun v55 s56 =>
  loadC false 1 v55 s56 fun v57 s58 =>
  zh 1 v1 s58 fun v59 s60 =>
  loadC false 1 v59 s60 fun v61 s62 =>
  loadC true 7 v1 s62 fun v63 s64 =>
  ACall P zdg [dm v63] s64 fun v65 s66 =>
  keepO v55 s64 s66 ∧ (keepO v59 s64 s66 ∧ (msetC .int v57 v61 v65 s66 fun _ s68 =>
  Z (consO (some (.d (.bool true))) (some [])) s68))))))))))))))))))
theorem zhy {P : Program} {x0 x1 : AV} {σ : List AObj} {Z : Option (List AV) → List AObj → Prop} (h : zdV P x0 x1 σ Z) : awp P zcg.body (AtEnd fun fr s => Z (resAs fr s zcg.res) s) (zB 0 [x0, x1]) σ :=
  cast (by kernel_rfl) h
/-- (*bulla/prepared.Held).Len -/
def zdW (P : Program) (x0 : AV) (σ : List AObj) (Z : Option (List AV) → List AObj → Prop) : Prop :=
  ACall P zbd [dm x0] σ fun v1 s2 =>
  condC v1 (Z (consO (some (.d (.int .i64 0))) (some [])) s2) (nilC x0 s2 fun v3 s4 =>
  zh 0 v3 s4 fun v5 s6 =>
  loadC false 1 v5 s6 fun v7 s8 =>
  lenC .map v7 s8 fun v9 s10 =>
  Z (consO (some v9) (some [])) s10)
theorem zhz {P : Program} {x0 : AV} {σ : List AObj} {Z : Option (List AV) → List AObj → Prop} (h : zdW P x0 σ Z) : awp P zch.body (AtEnd fun fr s => Z (resAs fr s zch.res) s) (zB 0 [x0]) σ :=
  cast (by kernel_rfl) h
/-- bulla/ideal.NewLedger -/
def zeY (P : Program) (σ : List AObj) (Z : Option (List AV) → List AObj → Prop) : Prop :=
  zac σ fun v1 s2 =>
  zG (fillV [(.exact []), (.d .nilmap)] [(1, 1, v1)]) s2 fun v3 s4 =>
  boxC v3 s4 fun v5 s6 =>
  Z (consO (some v5) (some [])) s6
theorem zji {P : Program} {σ : List AObj} {Z : Option (List AV) → List AObj → Prop} (h : zeY P  σ Z) : awp P zcX.body (AtEnd fun fr s => Z (resAs fr s zcX.res) s) (zB 0 []) σ :=
  cast (by kernel_rfl) h
/-- bulla/ideal.NewTable -/
def zfO (P : Program) (σ : List AObj) (Z : Option (List AV) → List AObj → Prop) : Prop :=
  zac σ fun v1 s2 =>
  zG (fillV [(.exact []), (.d .nilmap)] [(1, 1, v1)]) s2 fun v3 s4 =>
  boxC v3 s4 fun v5 s6 =>
  Z (consO (some v5) (some [])) s6
theorem zkM {P : Program} {σ : List AObj} {Z : Option (List AV) → List AObj → Prop} (h : zfO P  σ Z) : awp P zdu.body (AtEnd fun fr s => Z (resAs fr s zdu.res) s) (zB 0 []) σ :=
  cast (by kernel_rfl) h
/-- bulla/prepared.New -/
def zhs (P : Program) (σ : List AObj) (Z : Option (List AV) → List AObj → Prop) : Prop :=
  zac σ fun v1 s2 =>
  zG (fillV [(.d .nilmap)] [(0, 1, v1)]) s2 fun v3 s4 =>
  boxC v3 s4 fun v5 s6 =>
  Z (consO (some v5) (some [])) s6
theorem zmy {P : Program} {σ : List AObj} {Z : Option (List AV) → List AObj → Prop} (h : zhs P  σ Z) : awp P zeC.body (AtEnd fun fr s => Z (resAs fr s zeC.res) s) (zB 0 []) σ :=
  cast (by kernel_rfl) h
/-- bulla/bullaref12.Brokers -/
def ziX (P : Program) (x0 : AV) (σ : List AObj) (Z : Option (List AV) → List AObj → Prop) : Prop :=
  ACall P zdM [dm x0] σ fun v1 s2 =>
  binC .neq .plain v1 (.d (.int .i64 0)) s2 fun v3 s4 =>
  condC v3 (Z (consO (some (.d (.int .i64 0))) (some [])) s4) (binC .mul .plain (.d (.int .i64 3)) x0 s4 fun v5 s6 =>
  binC .add .plain v5 (.d (.int .i64 1)) s6 fun v7 s8 =>
  Z (consO (some v7) (some [])) s8)
theorem znG {P : Program} {x0 : AV} {σ : List AObj} {Z : Option (List AV) → List AObj → Prop} (h : ziX P x0 σ Z) : awp P zfx.body (AtEnd fun fr s => Z (resAs fr s zfx.res) s) (zB 0 [x0]) σ :=
  cast (by kernel_rfl) h
/-- bulla/bullaref08.Seal -/
def znr (P : Program) (x0 x1 x2 : AV) (σ : List AObj) (Z : Option (List AV) → List AObj → Prop) : Prop :=
  boxC x2 σ fun v1 s2 =>
  zH [(.d (.int .i64 0)), (.d (.int .i64 0)), (.d (.int .i64 0)), (.d (.str [])), (.d (.str [])), (.d (.int .i64 0)), (.exact []), (.d (.int .i64 0)), (.d (.int .i64 0))] s2 fun v3 s4 =>
  loadC true 7 v1 s4 fun v5 s6 =>
  ACall P zdN [dm v5] s6 fun v7 s8 =>
  zi v7 0 s8 fun v9 s10 =>
  zi v7 1 s10 fun v11 s12 =>
  binC .neq .plain v11 (.d (.int .i64 0)) s12 fun v13 s14 =>
  condC v13 (zG (fillV [(.d (.int .i64 0)), (.d (.int .i64 0)), (.d (.int .i64 0)), (.d (.str [])), (.d (.str [])), (.d (.int .i64 0)), (.exact []), (.d (.int .i64 0)), (.d (.int .i64 0))] []) s14 fun v15 s16 =>
  zp 9 v3 v15 s16 fun _ s18 =>
  Z (consO (cellA v3 s18 true 9) (consO (some v11) (some []))) s18) (zh 0 v1 s14 fun v19 s20 =>
  loadC false 1 v19 s20 fun v21 s22 =>
  ACall P zeJ [dm v21] s22 fun v23 s24 =>
  ACall P zbG [dm x0, dm v9] s24 fun v25 s26 =>
  ACall P zbJ [dm x1, dm v23, dm v25] s26 fun v27 s28 =>
  zi v27 0 s28 fun v29 s30 =>
  zi v27 1 s30 fun v31 s32 =>
  zH [(.d (.int .i64 0)), (.d (.int .i64 0))] s32 fun v33 s34 =>
  zp 2 v33 v29 s34 fun _ s36 =>
  binC .neq .plain v31 (.d (.int .i64 0)) s36 fun v37 s38 =>
  condC v37 (zG (fillV [(.d (.int .i64 0)), (.d (.int .i64 0)), (.d (.int .i64 0)), (.d (.str [])), (.d (.str [])), (.d (.int .i64 0)), (.exact []), (.d (.int .i64 0)), (.d (.int .i64 0))] []) s38 fun v39 s40 =>
  zp 9 v3 v39 s40 fun _ s42 =>
  Z (consO (cellA v3 s42 true 9) (consO (some v31) (some []))) s42) (loadC true 7 v1 s38 fun v43 s44 =>
  loadC true 2 v33 s44 fun v45 s46 =>
  zG (fillV [(.d (.int .i64 0)), (.d (.int .i64 0)), (.d (.int .i64 0)), (.d (.str [])), (.d (.str [])), (.d (.int .i64 0)), (.exact []), (.d (.int .i64 0)), (.d (.int .i64 0))] [(0, 7, v43), (7, 2, v45)]) s46 fun v47 s48 =>
  zp 9 v3 v47 s48 fun _ s50 =>
  Z (consO (cellA v3 s50 true 9) (consO (some (.d (.int .i64 0))) (some []))) s50))
theorem s_r08_Seal {P : Program} {x0 x1 x2 : AV} {σ : List AObj} {Z : Option (List AV) → List AObj → Prop} (h : znr P x0 x1 x2 σ Z) : awp P zjW.body (AtEnd fun fr s => Z (resAs fr s zjW.res) s) (zB 0 [x0, x1, x2]) σ :=
  cast (by kernel_rfl) h
/-- bulla/bullaref08.Digest -/
def zkw (P : Program) (x0 x1 : AV) (σ : List AObj) (Z : Option (List AV) → List AObj → Prop) : Prop :=
  ACall P zbv [dm x1] σ fun v1 s2 =>
  binC .neq .plain v1 (.d (.int .i64 0)) s2 fun v3 s4 =>
  condC v3 (Z (consO (some (.d (.int .i64 0))) (consO (some v1) (some []))) s4) (ACall P zda [dm (.exact []), dm x1] s4 fun v5 s6 =>
  ACall P zbG [dm x0, dm v5] s6 fun v7 s8 =>
  binC .eql .plain v7 (.d (.int .i64 0)) s8 fun v9 s10 =>
  condC v9 (Z (consO (some (.d (.int .i64 0))) (consO (some (.d (.int .i64 6))) (some []))) s10) (Z (consO (some v7) (consO (some (.d (.int .i64 0))) (some []))) s10))
theorem s_r08_Digest {P : Program} {x0 x1 : AV} {σ : List AObj} {Z : Option (List AV) → List AObj → Prop} (h : zkw P x0 x1 σ Z) : awp P zgG.body (AtEnd fun fr s => Z (resAs fr s zgG.res) s) (zB 0 [x0, x1]) σ :=
  cast (by kernel_rfl) h
/-- bulla/bullaref11.Vote -/
def znq (P : Program) (x0 x1 x2 x3 x4 x5 x6 : AV) (σ : List AObj) (Z : Option (List AV) → List AObj → Prop) : Prop :=
  zH [(.d (.int .i64 0)), (.d (.int .i64 0))] σ fun v1 s2 =>
  ACall P ziq [dm x3, dm x4, dm x5, dm x6] s2 fun v3 s4 =>
  unC .not v3 s4 fun v5 s6 =>
  condC v5 (zG (fillV [(.d (.int .i64 0)), (.d (.int .i64 0))] []) s6 fun v7 s8 =>
  zp 2 v1 v7 s8 fun _ s10 =>
  Z (consO (cellA v1 s10 true 2) (consO (some (.d (.int .i64 1))) (some []))) s10) (ACall P zct [dm x3, dm x4, dm x5, dm x6] s6 fun v11 s12 =>
  ACall P zjk [dm x0, dm x1, dm x2, dm v11] s12 fun v13 s14 =>
  zi v13 0 s14 fun v15 s16 =>
  zi v13 1 s16 fun v17 s18 =>
  zp 2 v1 v15 s18 fun _ s20 =>
  Z (consO (cellA v1 s20 true 2) (consO (some v17) (some []))) s20)
theorem s_r11_Vote {P : Program} {x0 x1 x2 x3 x4 x5 x6 : AV} {σ : List AObj} {Z : Option (List AV) → List AObj → Prop} (h : znq P x0 x1 x2 x3 x4 x5 x6 σ Z) : awp P zjV.body (AtEnd fun fr s => Z (resAs fr s zjV.res) s) (zB 0 [x0, x1, x2, x3, x4, x5, x6]) σ :=
  cast (by kernel_rfl) h
/-- (*bulla/ideal.Table).Sum -/
def zeW (P : Program) (x0 x1 : AV) (σ : List AObj) (Z : Option (List AV) → List AObj → Prop) : Prop :=
  ACall P zaL [dm x0] σ fun v1 s2 =>
  condC v1 (Z (consO (some (.d (.int .i64 0))) (some [])) s2) (nilC x0 s2 fun v3 s4 =>
  zh 1 v3 s4 fun v5 s6 =>
  loadC false 1 v5 s6 fun v7 s8 =>
  convC .toStr x1 s8 fun v9 s10 =>
  mgetC .str true (.d (.int .i64 0)) v7 v9 s10 fun v11 s12 =>
  zi v11 0 s12 fun v13 s14 =>
  zi v11 1 s14 fun v15 s16 =>
  condC v15 (Z (consO (some v13) (some [])) s16) (nilC x0 s16 fun v17 s18 =>
  zh 0 v17 s18 fun v19 s20 =>
  loadC false 1 v19 s20 fun v21 s22 =>
  lenC .sl v21 s22 fun v23 s24 =>
  binC .geq .plain v23 (.d (.int .i64 1048576)) s24 fun v25 s26 =>
  condC v25 (Z (consO (some (.d (.int .i64 0))) (some [])) s26) (nilC x0 s26 fun v27 s28 =>
  zh 0 v27 s28 fun v29 s30 =>
  loadC false 1 v29 s30 fun v31 s32 =>
  ACall P zbr [dm x1] s32 fun v33 s34 =>
  keepO v29 s32 s34 ∧ (zl false 1 1 (fillV (rep [(.exact [])] 1) [(0, 1, v33)]) s34 fun v35 s36 =>
  zt 1 24 v31 v35 s36 fun v37 s38 =>
  nilC x0 s38 fun v39 s40 =>
  zh 0 v39 s40 fun v41 s42 =>
  zp 1 v41 v37 s42 fun _ s44 =>
  nilC x0 s44 fun v45 s46 =>
  zh 0 v45 s46 fun v47 s48 =>
  loadC false 1 v47 s48 fun v49 s50 =>
  lenC .sl v49 s50 fun v51 s52 =>
  nilC x0 s52 fun v53 s54 =>
  zh 1 v53 s54 fun v55 s56 =>
  loadC false 1 v55 s56 fun v57 s58 =>
  convC .toStr x1 s58 fun v59 s60 =>
  msetC .str v57 v59 v51 s60 fun _ s62 =>
  Z (consO (some v51) (some [])) s62))))
theorem zjg {P : Program} {x0 x1 : AV} {σ : List AObj} {Z : Option (List AV) → List AObj → Prop} (h : zeW P x0 x1 σ Z) : awp P zcV.body (AtEnd fun fr s => Z (resAs fr s zcV.res) s) (zB 0 [x0, x1]) σ :=
  cast (by kernel_rfl) h
/-- (*bulla/ideal.Ledger).Sign -/
def zea (P : Program) (x0 x1 x2 : AV) (σ : List AObj) (Z : Option (List AV) → List AObj → Prop) : Prop :=
  zH [(.d (.int .i64 0)), (.d (.int .i64 0))] σ fun v1 s2 =>
  ACall P zaG [dm x0] s2 fun v3 s4 =>
  condC v3 (zG (fillV [(.d (.int .i64 0)), (.d (.int .i64 0))] []) s4 fun v5 s6 =>
  zp 2 v1 v5 s6 fun _ s8 =>
  Z (consO (cellA v1 s8 true 2) (consO (some (.d (.int .i64 2))) (some []))) s8) (binC .lss .plain x1 (.d (.int .i64 0)) s4 fun v9 s10 =>
  zc v9 false (fun k => k x1 s10) s10 (fun v11 s12 =>
  zc v9 false (fun k => binC .geq .plain v11 (.d (.int .i64 21)) s12 k) s12 (fun v13 s14 =>
  pickC v9 (.d (.bool true)) v13 s14 fun v15 s16 =>
  condC v15 (zG (fillV [(.d (.int .i64 0)), (.d (.int .i64 0))] []) s16 fun v17 s18 =>
  zp 2 v1 v17 s18 fun _ s20 =>
  Z (consO (cellA v1 s20 true 2) (consO (some (.d (.int .i64 20))) (some []))) s20) (binC .lss .plain x2 (.d (.int .i64 1)) s16 fun v21 s22 =>
  condC v21 (zG (fillV [(.d (.int .i64 0)), (.d (.int .i64 0))] []) s22 fun v23 s24 =>
  zp 2 v1 v23 s24 fun _ s26 =>
  Z (consO (cellA v1 s26 true 2) (consO (some (.d (.int .i64 1))) (some []))) s26) (zG (fillV [(.d (.int .i64 0)), (.d (.int .i64 0))] [(0, 1, x1), (1, 1, x2)]) s22 fun v27 s28 =>
  zH [(.d (.int .i64 0)), (.d (.int .i64 0))] s28 fun v29 s30 =>
  zp 2 v29 v27 s30 fun _ s32 =>
  (fun (k33 : List AObj → Prop) => nilC x0 s32 fun v39 s40 =>
  zh 1 v39 s40 fun v41 s42 =>
  loadC false 1 v41 s42 fun v43 s44 =>
  loadC true 2 v29 s44 fun v45 s46 =>
  mgetC (.ints 2) false (.d (.bool false)) v43 v45 s46 fun v47 s48 =>
  unC .not v47 s48 fun v49 s50 =>
  condC v49 (nilC x0 s50 fun v51 s52 =>
  zh 1 v51 s52 fun v53 s54 =>
  loadC false 1 v53 s54 fun v55 s56 =>
  loadC true 2 v29 s56 fun v57 s58 =>
  msetC (.ints 2) v55 v57 (.d (.bool true)) s58 fun _ s60 =>
  nilC x0 s60 fun v61 s62 =>
  zh 0 v61 s62 fun v63 s64 =>
  loadC false 1 v63 s64 fun v65 s66 =>
  loadC true 2 v29 s66 fun v67 s68 =>
  zl false 2 1 (fillV (rep [(.d (.int .i64 0)), (.d (.int .i64 0))] 1) [(0, 2, v67)]) s68 fun v69 s70 =>
  zt 2 16 v65 v69 s70 fun v71 s72 =>
  nilC x0 s72 fun v73 s74 =>
  zh 0 v73 s74 fun v75 s76 =>
  zp 1 v75 v71 s76 fun _ s78 =>
  k33 s78) (k33 s50))
  (fun  s34 => loadC true 2 v29 s34 fun v35 s36 =>
  zp 2 v1 v35 s36 fun _ s38 =>
  Z (consO (cellA v1 s38 true 2) (consO (some (.d (.int .i64 0))) (some []))) s38))))))
theorem zhD {P : Program} {x0 x1 x2 : AV} {σ : List AObj} {Z : Option (List AV) → List AObj → Prop} (h : zea P x0 x1 x2 σ Z) : awp P zcl.body (AtEnd fun fr s => Z (resAs fr s zcl.res) s) (zB 0 [x0, x1, x2]) σ :=
  cast (by kernel_rfl) h
/-- (*bulla/ideal.Table).Clone -/
def zdY (P : Program) (x0 : AV) (σ : List AObj) (Z : Option (List AV) → List AObj → Prop) : Prop :=
  ACall P zaL [dm x0] σ fun v1 s2 =>
  condC v1 (Z (consO (some (.d .nilp)) (some [])) s2) (nilC x0 s2 fun v3 s4 =>
  zh 0 v3 s4 fun v5 s6 =>
  loadC false 1 v5 s6 fun v7 s8 =>
  ACall P zgd [dm v7] s8 fun v9 s10 =>
  zi v9 0 s10 fun v11 s12 =>
  zi v9 1 s12 fun v13 s14 =>
  Z (consO (some v11) (some [])) s14)
theorem zhB {P : Program} {x0 : AV} {σ : List AObj} {Z : Option (List AV) → List AObj → Prop} (h : zdY P x0 σ Z) : awp P zcj.body (AtEnd fun fr s => Z (resAs fr s zcj.res) s) (zB 0 [x0]) σ :=
  cast (by kernel_rfl) h
/-- (*bulla/ideal.Ledger).Clone -/
def zdE (P : Program) (x0 : AV) (σ : List AObj) (Z : Option (List AV) → List AObj → Prop) : Prop :=
  ACall P zaG [dm x0] σ fun v1 s2 =>
  condC v1 (Z (consO (some (.d .nilp)) (some [])) s2) (ACall P zbL [] s2 fun v3 s4 =>
  nilC x0 s4 fun v5 s6 =>
  zh 0 v5 s6 fun v7 s8 =>
  loadC false 1 v7 s8 fun v9 s10 =>
  lenC .sl v9 s10 fun v11 s12 =>
  loopC [(.d (.int .i64 0))] s12 fun vs13 s14 again15 =>
  headC vs13 fun v16 vs17 =>
  binC .lss .plain v16 v11 s14 fun v18 s19 =>
  condC v18 (zr none 2 v9 v16 s19 fun v20 s21 =>
  loadC true 2 v20 s21 fun v22 s23 =>
  zH [(.d (.int .i64 0)), (.d (.int .i64 0))] s23 fun v24 s25 =>
  zp 2 v24 v22 s25 fun _ s27 =>
  zh 0 v24 s27 fun v28 s29 =>
  loadC false 1 v28 s29 fun v30 s31 =>
  zh 1 v24 s31 fun v32 s33 =>
  loadC false 1 v32 s33 fun v34 s35 =>
  ACall P zbq [dm v3, dm v30, dm v34] s35 fun v36 s37 =>
  binC .add .plain v16 (.d (.int .i64 1)) s37 fun v38 s39 =>
  again15 [v38] s39) (Z (consO (some v3) (some [])) s19))
theorem zhb {P : Program} {x0 : AV} {σ : List AObj} {Z : Option (List AV) → List AObj → Prop} (h : zdE P x0 σ Z) : awp P zbS.body (AtEnd fun fr s => Z (resAs fr s zbS.res) s) (zB 0 [x0]) σ :=
  cast (by kernel_rfl) h
/-- bulla/quorum.Check -/
def zhr (P : Program) (x0 : AV) (σ : List AObj) (Z : Option (List AV) → List AObj → Prop) : Prop :=
  binC .lss .plain x0 (.d (.int .i64 1)) σ fun v1 s2 =>
  zc v1 false (fun k => k x0 s2) s2 (fun v3 s4 =>
  zc v1 false (fun k => binC .gtr .plain v3 (.d (.int .i64 4)) s4 k) s4 (fun v5 s6 =>
  pickC v1 (.d (.bool true)) v5 s6 fun v7 s8 =>
  condC v7 (Z (consO (some (.d (.int .i64 120))) (some [])) s8) (Z (consO (some (.d (.int .i64 0))) (some [])) s8)))
theorem zmx {P : Program} {x0 : AV} {σ : List AObj} {Z : Option (List AV) → List AObj → Prop} (h : zhr P x0 σ Z) : awp P zeB.body (AtEnd fun fr s => Z (resAs fr s zeB.res) s) (zB 0 [x0]) σ :=
  cast (by kernel_rfl) h
/-- bulla/request.ValidBatch -/
def zdB (P : Program) (x0 x1 x2 : AV) (σ : List AObj) (Z : Option (List AV) → List AObj → Prop) : Prop :=
  boxC x0 σ fun v1 s2 =>
  boxC x1 s2 fun v3 s4 =>
  ACall P zbc [dm x2] s4 fun v5 s6 =>
  binC .eql .plain v5 (.d (.int .i64 0)) s6 fun v7 s8 =>
  zc v7 true (fun k => k x2 s8) s8 (fun v9 s10 =>
  zc v7 true (fun k => k (.fn (.func zcI) [] [v1, v3]) s10) s10 (fun v11 s12 =>
  zc v7 true (fun k => ACall P zam [dm v9, dm v11] s12 k) s12 (fun v13 s14 =>
  zc v7 true (fun k => unC .not v13 s14 k) s14 (fun v15 s16 =>
  pickC v7 v15 (.d (.bool false)) s16 fun v17 s18 =>
  Z (consO (some v17) (some [])) s18))))
theorem zgY {P : Program} {x0 x1 x2 : AV} {σ : List AObj} {Z : Option (List AV) → List AObj → Prop} (h : zdB P x0 x1 x2 σ Z) : awp P zbP.body (AtEnd fun fr s => Z (resAs fr s zbP.res) s) (zB 0 [x0, x1, x2]) σ :=
  cast (by kernel_rfl) h
end Go.Proofs.YtcappjcojggehaaGreat
