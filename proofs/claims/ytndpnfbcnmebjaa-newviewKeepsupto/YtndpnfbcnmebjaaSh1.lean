/- The conditions of each function, its slots as variables, and that the logic's conditions are these. Printed by program. -/
import Derived.Test.YtndpnfbcnmebjaaAf1
set_option linter.all false
set_option maxRecDepth 100000
set_option linter.unusedVariables false
namespace Go.Proofs.Ytndpnfbcnmebjaa
open Go.AW
/-- bulla/bullalaw16.NewviewSelects -/
def S_l16_NewviewSelects (P : Program) (x0 x1 x2 : AV) (σ : List AObj) (Z : Option (List AV) → List AObj → Prop) : Prop :=
  ACall P n_newview_Select [dm x0, dm x1, dm x2] σ fun v1 s2 =>
  extractC v1 0 s2 fun v3 s4 =>
  extractC v1 1 s4 fun v5 s6 =>
  extractC v1 2 s6 fun v7 s8 =>
  allocC [(.d (.int .i64 0)), (.d (.int .i64 0)), (.exact [])] s8 fun v9 s10 =>
  storeC 3 v9 v3 s10 fun _ s12 =>
  ACall P n_r16_Select [dm x0, dm x1, dm x2] s12 fun v13 s14 =>
  extractC v13 0 s14 fun v15 s16 =>
  extractC v13 1 s16 fun v17 s18 =>
  extractC v13 2 s18 fun v19 s20 =>
  allocC [(.d (.int .i64 0)), (.d (.int .i64 0)), (.exact [])] s20 fun v21 s22 =>
  storeC 3 v21 v15 s22 fun _ s24 =>
  ACall P n_l16_begun [] s24 fun v25 s26 =>
  guardC v25 true (fun k => loadC true 3 v9 s26 k) s26 (fun v27 s28 =>
  guardC v25 true (fun k => loadC true 3 v21 s28 k) s28 (fun v29 s30 =>
  guardC v25 true (fun k => ACall P n_r10_SameCert [dm v27, dm v29] s30 k) s30 (fun v31 s32 =>
  pickC v25 v31 (.d (.bool false)) s32 fun v33 s34 =>
  guardC v33 true (fun k => k v5 s34) s34 (fun v35 s36 =>
  guardC v33 true (fun k => k v17 s36) s36 (fun v37 s38 =>
  guardC v33 true (fun k => ACall P n_r10_SameEntries [dm v35, dm v37] s38 k) s38 (fun v39 s40 =>
  pickC v33 v39 (.d (.bool false)) s40 fun v41 s42 =>
  guardC v41 true (fun k => k v7 s42) s42 (fun v43 s44 =>
  guardC v41 true (fun k => k v19 s44) s44 (fun v45 s46 =>
  guardC v41 true (fun k => binC .eql .plain v43 v45 s46 k) s46 (fun v47 s48 =>
  pickC v41 v47 (.d (.bool false)) s48 fun v49 s50 =>
  Z (consO (some v49) (some [])) s50)))))))))
theorem s_l16_NewviewSelects {P : Program} {x0 x1 x2 : AV} {σ : List AObj} {Z : Option (List AV) → List AObj → Prop} (h : S_l16_NewviewSelects P x0 x1 x2 σ Z) : awp P A_l16_NewviewSelects.body (AtEnd fun fr s => Z (resAs fr s A_l16_NewviewSelects.res) s) (slots0 0 [x0, x1, x2]) σ :=
  cast (by kernel_rfl) h
/-- bulla/bullalaw16.NewviewGaps -/
def S_l16_NewviewGaps (P : Program) (x0 x1 x2 : AV) (σ : List AObj) (Z : Option (List AV) → List AObj → Prop) : Prop :=
  ACall P n_newview_Select [dm x0, dm x1, dm x2] σ fun v1 s2 =>
  extractC v1 0 s2 fun v3 s4 =>
  extractC v1 1 s4 fun v5 s6 =>
  extractC v1 2 s6 fun v7 s8 =>
  allocC [(.d (.int .i64 0)), (.d (.int .i64 0)), (.exact [])] s8 fun v9 s10 =>
  storeC 3 v9 v3 s10 fun _ s12 =>
  ACall P n_l16_begun [] s12 fun v13 s14 =>
  unC .not v13 s14 fun v15 s16 =>
  guardC v15 false (fun k => k v7 s16) s16 (fun v17 s18 =>
  guardC v15 false (fun k => binC .neq .plain v17 (.d (.int .i64 0)) s18 k) s18 (fun v19 s20 =>
  pickC v15 (.d (.bool true)) v19 s20 fun v21 s22 =>
  condC v21 (ACall P n_l16_begun [] s22 fun v23 s24 =>
  Z (consO (some v23) (some [])) s24) (lenC .sl v5 s22 fun v25 s26 =>
  loopC [(.d (.int .i64 0))] s26 fun vs27 s28 again29 =>
  headC vs27 fun v30 vs31 =>
  binC .lss .plain v30 v25 s28 fun v32 s33 =>
  condC v32 (iaddrC none 5 v5 v30 s33 fun v34 s35 =>
  loadC true 5 v34 s35 fun v36 s37 =>
  allocC [(.d (.int .i64 0)), (.d (.int .i64 0)), (.exact []), (.d (.int .i64 0)), (.d (.int .i64 0))] s37 fun v38 s39 =>
  storeC 5 v38 v36 s39 fun _ s41 =>
  faddrC 1 v38 s41 fun v42 s43 =>
  loadC false 1 v42 s43 fun v44 s45 =>
  faddrC 0 v9 s45 fun v46 s47 =>
  loadC false 1 v46 s47 fun v48 s49 =>
  binC .sub .plain v44 v48 s49 fun v50 s51 =>
  binC .add .plain v30 (.d (.int .i64 1)) s51 fun v52 s53 =>
  binC .neq .plain v50 v52 s53 fun v54 s55 =>
  guardC v54 false (fun k => faddrC 0 v38 s55 k) s55 (fun v56 s57 =>
  guardC v54 false (fun k => loadC false 1 v56 s57 k) s57 (fun v58 s59 =>
  guardC v54 false (fun k => k x1 s59) s59 (fun v60 s61 =>
  guardC v54 false (fun k => binC .neq .plain v58 v60 s61 k) s61 (fun v62 s63 =>
  pickC v54 (.d (.bool true)) v62 s63 fun v64 s65 =>
  guardC v64 false (fun k => faddrC 3 v38 s65 k) s65 (fun v66 s67 =>
  guardC v64 false (fun k => loadC true 2 v66 s67 k) s67 (fun v68 s69 =>
  guardC v64 false (fun k => buildC (fillV [(.d (.int .i64 0)), (.d (.int .i64 0))] []) s69 k) s69 (fun v70 s71 =>
  guardC v64 false (fun k => binC .neq (.ints 2) v68 v70 s71 k) s71 (fun v72 s73 =>
  pickC v64 (.d (.bool true)) v72 s73 fun v74 s75 =>
  condC v74 (Z (consO (some (.d (.bool false))) (some [])) s75) (binC .add .plain v30 (.d (.int .i64 1)) s75 fun v76 s77 =>
  again29 [v76] s77)))))))))) (lenC .sl v5 s33 fun v78 s79 =>
  binC .leq .plain v78 (.d (.int .i64 8)) s79 fun v80 s81 =>
  Z (consO (some v80) (some [])) s81))))
theorem s_l16_NewviewGaps {P : Program} {x0 x1 x2 : AV} {σ : List AObj} {Z : Option (List AV) → List AObj → Prop} (h : S_l16_NewviewGaps P x0 x1 x2 σ Z) : awp P A_l16_NewviewGaps.body (AtEnd fun fr s => Z (resAs fr s A_l16_NewviewGaps.res) s) (slots0 0 [x0, x1, x2]) σ :=
  cast (by kernel_rfl) h
/-- bulla/bullalaw16.NewviewKeeps -/
def S_l16_NewviewKeeps (P : Program) (x0 x1 x2 x3 x4 x5 : AV) (σ : List AObj) (Z : Option (List AV) → List AObj → Prop) : Prop :=
  boxC x5 σ fun v1 s2 =>
  ACall P n_l16_begun [] s2 fun v3 s4 =>
  unC .not v3 s4 fun v5 s6 =>
  guardC v5 false (fun k => k x0 s6) s6 (fun v7 s8 =>
  guardC v5 false (fun k => ACall P n_r12_Check [dm v7] s8 k) s8 (fun v9 s10 =>
  guardC v5 false (fun k => binC .neq .plain v9 (.d (.int .i64 0)) s10 k) s10 (fun v11 s12 =>
  pickC v5 (.d (.bool true)) v11 s12 fun v13 s14 =>
  guardC v13 false (fun k => k x3 s14) s14 (fun v15 s16 =>
  guardC v13 false (fun k => ACall P n_r12_Many [dm v15] s16 k) s16 (fun v17 s18 =>
  guardC v13 false (fun k => k x0 s18) s18 (fun v19 s20 =>
  guardC v13 false (fun k => binC .gtr .plain v17 v19 s20 k) s20 (fun v21 s22 =>
  pickC v13 (.d (.bool true)) v21 s22 fun v23 s24 =>
  guardC v23 false (fun k => k x2 s24) s24 (fun v25 s26 =>
  guardC v23 false (fun k => lenC .sl v25 s26 k) s26 (fun v27 s28 =>
  guardC v23 false (fun k => k x0 s28) s28 (fun v29 s30 =>
  guardC v23 false (fun k => ACall P n_r12_Brokers [dm v29] s30 k) s30 (fun v31 s32 =>
  guardC v23 false (fun k => binC .gtr .plain v27 v31 s32 k) s32 (fun v33 s34 =>
  pickC v23 (.d (.bool true)) v33 s34 fun v35 s36 =>
  condC v35 (ACall P n_l16_begun [] s36 fun v37 s38 =>
  Z (consO (some v37) (some [])) s38) (lenC .sl x2 s36 fun v39 s40 =>
  loopC [(.d (.int .i64 0)), (.d (.int .i64 0))] s40 fun vs41 s42 again43 =>
  headC vs41 fun v44 vs45 =>
  headC vs45 fun v46 vs47 =>
  binC .lss .plain v46 v39 s42 fun v48 s49 =>
  condC v48 ((fun (k50 : AV → List AObj → Prop) => iaddrC none 8 x2 v46 s49 fun v55 s56 =>
  loadC true 8 v55 s56 fun v57 s58 =>
  allocC [(.d (.int .i64 0)), (.d (.int .i64 0)), (.d (.int .i64 0)), (.d (.int .i64 0)), (.exact []), (.exact []), (.d (.int .i64 0)), (.d (.int .i64 0))] s58 fun v59 s60 =>
  storeC 8 v59 v57 s60 fun _ s62 =>
  faddrC 5 v59 s62 fun v63 s64 =>
  loadC false 1 v63 s64 fun v65 s66 =>
  lenC .sl v65 s66 fun v67 s68 =>
  loopC [(.d (.int .i64 0))] s68 fun vs69 s70 again71 =>
  headC vs69 fun v72 vs73 =>
  binC .lss .plain v72 v67 s70 fun v74 s75 =>
  condC v74 ((fun (k76 : List AObj → Prop) => iaddrC none 7 v65 v72 s75 fun v80 s81 =>
  loadC true 7 v80 s81 fun v82 s83 =>
  allocC [(.d (.int .i64 0)), (.d (.int .i64 0)), (.d (.int .i64 0)), (.d (.int .i64 0)), (.d (.int .i64 0)), (.exact []), (.exact [])] s83 fun v84 s85 =>
  storeC 7 v84 v82 s85 fun _ s87 =>
  faddrC 6 v1 s87 fun v88 s89 =>
  loadC false 1 v88 s89 fun v90 s91 =>
  faddrC 6 v84 s91 fun v92 s93 =>
  loadC false 1 v92 s93 fun v94 s95 =>
  ACall P n_r08_Same [dm v90, dm v94] s95 fun v96 s97 =>
  faddrC 1 v59 s97 fun v98 s99 =>
  loadC false 1 v98 s99 fun v100 s101 =>
  ACall P n_r12_Has [dm x3, dm v100] s101 fun v102 s103 =>
  condC v102 (faddrC 1 v84 s103 fun v104 s105 =>
  loadC false 1 v104 s105 fun v106 s107 =>
  faddrC 1 v1 s107 fun v108 s109 =>
  loadC false 1 v108 s109 fun v110 s111 =>
  binC .eql .plain v106 v110 s111 fun v112 s113 =>
  guardC v112 true (fun k => faddrC 0 v84 s113 k) s113 (fun v114 s115 =>
  guardC v112 true (fun k => loadC false 1 v114 s115 k) s115 (fun v116 s117 =>
  guardC v112 true (fun k => faddrC 0 v1 s117 k) s117 (fun v118 s119 =>
  guardC v112 true (fun k => loadC false 1 v118 s119 k) s119 (fun v120 s121 =>
  guardC v112 true (fun k => binC .gtr .plain v116 v120 s121 k) s121 (fun v122 s123 =>
  guardC v112 true (fun k => k v122 s123) s123 (fun v124 s125 =>
  guardC v124 false (fun k => faddrC 0 v84 s125 k) s125 (fun v126 s127 =>
  guardC v124 false (fun k => loadC false 1 v126 s127 k) s127 (fun v128 s129 =>
  guardC v124 false (fun k => faddrC 0 v1 s129 k) s129 (fun v130 s131 =>
  guardC v124 false (fun k => loadC false 1 v130 s131 k) s131 (fun v132 s133 =>
  guardC v124 false (fun k => binC .eql .plain v128 v132 s133 k) s133 (fun v134 s135 =>
  guardC v124 false (fun k => k v134 s135) s135 (fun v136 s137 =>
  guardC v136 true (fun k => k v96 s137) s137 (fun v138 s139 =>
  guardC v136 true (fun k => unC .not v138 s139 k) s139 (fun v140 s141 =>
  guardC v124 false (fun k => pickC v136 v140 (.d (.bool false)) s141 k) s141 (fun v142 s143 =>
  guardC v112 true (fun k => pickC v124 (.d (.bool true)) v142 s143 k) s143 (fun v144 s145 =>
  pickC v112 v144 (.d (.bool false)) s145 fun v146 s147 =>
  condC v146 (Z (consO (some (.d (.bool true))) (some [])) s147) (k76 s147)))))))))))))))))) (faddrC 1 v84 s103 fun v148 s149 =>
  loadC false 1 v148 s149 fun v150 s151 =>
  faddrC 1 v1 s151 fun v152 s153 =>
  loadC false 1 v152 s153 fun v154 s155 =>
  binC .eql .plain v150 v154 s155 fun v156 s157 =>
  guardC v156 true (fun k => faddrC 0 v84 s157 k) s157 (fun v158 s159 =>
  guardC v156 true (fun k => loadC false 1 v158 s159 k) s159 (fun v160 s161 =>
  guardC v156 true (fun k => faddrC 0 v1 s161 k) s161 (fun v162 s163 =>
  guardC v156 true (fun k => loadC false 1 v162 s163 k) s163 (fun v164 s165 =>
  guardC v156 true (fun k => binC .geq .plain v160 v164 s165 k) s165 (fun v166 s167 =>
  pickC v156 v166 (.d (.bool false)) s167 fun v168 s169 =>
  guardC v168 true (fun k => k v96 s169) s169 (fun v170 s171 =>
  guardC v168 true (fun k => unC .not v170 s171 k) s171 (fun v172 s173 =>
  pickC v168 v172 (.d (.bool false)) s173 fun v174 s175 =>
  condC v174 (Z (consO (some (.d (.bool true))) (some [])) s175) (k76 s175))))))))))
  (fun  s77 => binC .add .plain v72 (.d (.int .i64 1)) s77 fun v78 s79 =>
  again71 [v78] s79)) (loadC true 8 v59 s75 fun v176 s177 =>
  faddrC 1 v1 s177 fun v178 s179 =>
  loadC false 1 v178 s179 fun v180 s181 =>
  ACall P n_l16_tells [dm v176, dm v180] s181 fun v182 s183 =>
  extractC v182 0 s183 fun v184 s185 =>
  extractC v182 1 s185 fun v186 s187 =>
  allocC [(.d (.int .i64 0)), (.d (.int .i64 0)), (.d (.int .i64 0)), (.d (.int .i64 0)), (.d (.int .i64 0)), (.exact []), (.exact [])] s187 fun v188 s189 =>
  storeC 7 v188 v184 s189 fun _ s191 =>
  guardC v186 true (fun k => k x3 s191) s191 (fun v192 s193 =>
  guardC v186 true (fun k => faddrC 1 v59 s193 k) s193 (fun v194 s195 =>
  guardC v186 true (fun k => loadC false 1 v194 s195 k) s195 (fun v196 s197 =>
  guardC v186 true (fun k => ACall P n_r12_Has [dm v192, dm v196] s197 k) s197 (fun v198 s199 =>
  guardC v186 true (fun k => unC .not v198 s199 k) s199 (fun v200 s201 =>
  pickC v186 v200 (.d (.bool false)) s201 fun v202 s203 =>
  guardC v202 true (fun k => faddrC 0 v188 s203 k) s203 (fun v204 s205 =>
  guardC v202 true (fun k => loadC false 1 v204 s205 k) s205 (fun v206 s207 =>
  guardC v202 true (fun k => faddrC 0 v1 s207 k) s207 (fun v208 s209 =>
  guardC v202 true (fun k => loadC false 1 v208 s209 k) s209 (fun v210 s211 =>
  guardC v202 true (fun k => binC .geq .plain v206 v210 s211 k) s211 (fun v212 s213 =>
  pickC v202 v212 (.d (.bool false)) s213 fun v214 s215 =>
  condC v214 (binC .add .plain v44 (.d (.int .i64 1)) s215 fun v216 s217 =>
  k50 v216 s217) (k50 v44 s215)))))))))))))
  (fun v51 s52 => binC .add .plain v46 (.d (.int .i64 1)) s52 fun v53 s54 =>
  again43 [v51, v53] s54)) (ACall P n_r12_Small [dm x0] s49 fun v218 s219 =>
  binC .lss .plain v44 v218 s219 fun v220 s221 =>
  guardC v220 false (fun k => k x2 s221) s221 (fun v222 s223 =>
  guardC v220 false (fun k => lenC .sl v222 s223 k) s223 (fun v224 s225 =>
  guardC v220 false (fun k => k v44 s225) s225 (fun v226 s227 =>
  guardC v220 false (fun k => binC .sub .plain v224 v226 s227 k) s227 (fun v228 s229 =>
  guardC v220 false (fun k => k x0 s229) s229 (fun v230 s231 =>
  guardC v220 false (fun k => ACall P n_r12_Big [dm v230] s231 k) s231 (fun v232 s233 =>
  guardC v220 false (fun k => binC .geq .plain v228 v232 s233 k) s233 (fun v234 s235 =>
  pickC v220 (.d (.bool true)) v234 s235 fun v236 s237 =>
  condC v236 (Z (consO (some (.d (.bool true))) (some [])) s237) (lenC .sl x2 s237 fun v238 s239 =>
  loopC [(.exact []), (.d (.int .i64 0))] s239 fun vs240 s241 again242 =>
  headC vs240 fun v243 vs244 =>
  headC vs244 fun v245 vs246 =>
  binC .lss .plain v245 v238 s241 fun v247 s248 =>
  condC v247 ((fun (k249 : AV → List AObj → Prop) => iaddrC none 8 x2 v245 s248 fun v254 s255 =>
  loadC true 8 v254 s255 fun v256 s257 =>
  allocC [(.d (.int .i64 0)), (.d (.int .i64 0)), (.d (.int .i64 0)), (.d (.int .i64 0)), (.exact []), (.exact []), (.d (.int .i64 0)), (.d (.int .i64 0))] s257 fun v258 s259 =>
  storeC 8 v258 v256 s259 fun _ s261 =>
  faddrC 1 v258 s261 fun v262 s263 =>
  loadC false 1 v262 s263 fun v264 s265 =>
  ACall P n_r12_Has [dm x4, dm v264] s265 fun v266 s267 =>
  condC v266 (loadC true 8 v258 s267 fun v268 s269 =>
  mksliceC false 8 1 (fillV (rep [(.d (.int .i64 0)), (.d (.int .i64 0)), (.d (.int .i64 0)), (.d (.int .i64 0)), (.exact []), (.exact []), (.d (.int .i64 0)), (.d (.int .i64 0))] 1) [(0, 8, v268)]) s269 fun v270 s271 =>
  appendC 8 96 v243 v270 s271 fun v272 s273 =>
  k249 v272 s273) (k249 v243 s267))
  (fun v250 s251 => binC .add .plain v245 (.d (.int .i64 1)) s251 fun v252 s253 =>
  again242 [v250, v252] s253)) (ACall P n_newview_Select [dm x0, dm x1, dm v243] s248 fun v274 s275 =>
  extractC v274 0 s275 fun v276 s277 =>
  extractC v274 1 s277 fun v278 s279 =>
  extractC v274 2 s279 fun v280 s281 =>
  allocC [(.d (.int .i64 0)), (.d (.int .i64 0)), (.exact [])] s281 fun v282 s283 =>
  storeC 3 v282 v276 s283 fun _ s285 =>
  binC .neq .plain v280 (.d (.int .i64 0)) s285 fun v286 s287 =>
  guardC v286 false (fun k => faddrC 0 v282 s287 k) s287 (fun v288 s289 =>
  guardC v286 false (fun k => loadC false 1 v288 s289 k) s289 (fun v290 s291 =>
  guardC v286 false (fun k => binC .lss .plain v290 (.d (.int .i64 0)) s291 k) s291 (fun v292 s293 =>
  pickC v286 (.d (.bool true)) v292 s293 fun v294 s295 =>
  guardC v294 false (fun k => faddrC 0 v282 s295 k) s295 (fun v296 s297 =>
  guardC v294 false (fun k => loadC false 1 v296 s297 k) s297 (fun v298 s299 =>
  guardC v294 false (fun k => faddrC 1 v1 s299 k) s299 (fun v300 s301 =>
  guardC v294 false (fun k => loadC false 1 v300 s301 k) s301 (fun v302 s303 =>
  guardC v294 false (fun k => binC .geq .plain v298 v302 s303 k) s303 (fun v304 s305 =>
  pickC v294 (.d (.bool true)) v304 s305 fun v306 s307 =>
  guardC v306 false (fun k => faddrC 1 v1 s307 k) s307 (fun v308 s309 =>
  guardC v306 false (fun k => loadC false 1 v308 s309 k) s309 (fun v310 s311 =>
  guardC v306 false (fun k => faddrC 0 v282 s311 k) s311 (fun v312 s313 =>
  guardC v306 false (fun k => loadC false 1 v312 s313 k) s313 (fun v314 s315 =>
  guardC v306 false (fun k => binC .sub .plain v310 v314 s315 k) s315 (fun v316 s317 =>
  guardC v306 false (fun k => binC .gtr .plain v316 (.d (.int .i64 8)) s317 k) s317 (fun v318 s319 =>
  pickC v306 (.d (.bool true)) v318 s319 fun v320 s321 =>
  condC v320 (Z (consO (some (.d (.bool true))) (some [])) s321) (ACall P n_slices_IndexFunc_api_Entry_api_Entry [dm v278, dm (.fn (.func n_l16_NewviewKeeps_1) [] [v1])] s321 fun v322 s323 =>
  binC .geq .plain v322 (.d (.int .i64 0)) s323 fun v324 s325 =>
  guardC v324 true (fun k => k v278 s325) s325 (fun v326 s327 =>
  guardC v324 true (fun k => k v322 s327) s327 (fun v328 s329 =>
  guardC v324 true (fun k => iaddrC none 5 v326 v328 s329 k) s329 (fun v330 s331 =>
  guardC v324 true (fun k => faddrC 2 v330 s331 k) s331 (fun v332 s333 =>
  guardC v324 true (fun k => loadC false 1 v332 s333 k) s333 (fun v334 s335 =>
  guardC v324 true (fun k => faddrC 6 v1 s335 k) s335 (fun v336 s337 =>
  guardC v324 true (fun k => loadC false 1 v336 s337 k) s337 (fun v338 s339 =>
  guardC v324 true (fun k => ACall P n_r08_Same [dm v334, dm v338] s339 k) s339 (fun v340 s341 =>
  pickC v324 v340 (.d (.bool false)) s341 fun v342 s343 =>
  Z (consO (some v342) (some [])) s343))))))))))))))))))))))))))))))))))))))))))))))
theorem s_l16_NewviewKeeps {P : Program} {x0 x1 x2 x3 x4 x5 : AV} {σ : List AObj} {Z : Option (List AV) → List AObj → Prop} (h : S_l16_NewviewKeeps P x0 x1 x2 x3 x4 x5 σ Z) : awp P A_l16_NewviewKeeps.body (AtEnd fun fr s => Z (resAs fr s A_l16_NewviewKeeps.res) s) (slots0 0 [x0, x1, x2, x3, x4, x5]) σ :=
  cast (by kernel_rfl) h
/-- bulla/newview.Select -/
def S_newview_Select (P : Program) (x0 x1 x2 : AV) (σ : List AObj) (Z : Option (List AV) → List AObj → Prop) : Prop :=
  allocC [(.d (.int .i64 0)), (.d (.int .i64 0)), (.exact [])] σ fun v1 s2 =>
  ACall P n_newview_may [dm x0, dm x1, dm x2] s2 fun v3 s4 =>
  binC .neq .plain v3 (.d (.int .i64 0)) s4 fun v5 s6 =>
  condC v5 (buildC (fillV [(.d (.int .i64 0)), (.d (.int .i64 0)), (.exact [])] []) s6 fun v7 s8 =>
  storeC 3 v1 v7 s8 fun _ s10 =>
  Z (consO (cellA v1 s10 true 3) (consO (some (.exact [])) (consO (some v3) (some [])))) s10) (iaddrC none 8 x2 (.d (.int .i64 0)) s6 fun v11 s12 =>
  faddrC 2 v11 s12 fun v13 s14 =>
  loadC true 3 v13 s14 fun v15 s16 =>
  allocC [(.d (.int .i64 0)), (.d (.int .i64 0)), (.exact [])] s16 fun v17 s18 =>
  storeC 3 v17 v15 s18 fun _ s20 =>
  mkmapC s20 fun v21 s22 =>
  lenC .sl x2 s22 fun v23 s24 =>
  loopC [(.d (.int .i64 0)), (.d (.int .i64 0))] s24 fun vs25 s26 again27 =>
  headC vs25 fun v28 vs29 =>
  headC vs29 fun v30 vs31 =>
  binC .lss .plain v30 v23 s26 fun v32 s33 =>
  condC v32 (iaddrC none 8 x2 v30 s33 fun v34 s35 =>
  loadC true 8 v34 s35 fun v36 s37 =>
  allocC [(.d (.int .i64 0)), (.d (.int .i64 0)), (.d (.int .i64 0)), (.d (.int .i64 0)), (.exact []), (.exact []), (.d (.int .i64 0)), (.d (.int .i64 0))] s37 fun v38 s39 =>
  storeC 8 v38 v36 s39 fun _ s41 =>
  (fun (k42 : List AObj → Prop) => faddrC 2 v38 s41 fun v115 s116 =>
  faddrC 0 v115 s116 fun v117 s118 =>
  loadC false 1 v117 s118 fun v119 s120 =>
  faddrC 0 v17 s120 fun v121 s122 =>
  loadC false 1 v121 s122 fun v123 s124 =>
  binC .gtr .plain v119 v123 s124 fun v125 s126 =>
  condC v125 (faddrC 2 v38 s126 fun v127 s128 =>
  loadC true 3 v127 s128 fun v129 s130 =>
  storeC 3 v17 v129 s130 fun _ s132 =>
  k42 s132) (k42 s126))
  (fun  s43 => faddrC 5 v38 s43 fun v44 s45 =>
  loadC false 1 v44 s45 fun v46 s47 =>
  lenC .sl v46 s47 fun v48 s49 =>
  loopC [v28, (.d (.int .i64 0))] s49 fun vs50 s51 again52 =>
  headC vs50 fun v53 vs54 =>
  headC vs54 fun v55 vs56 =>
  binC .lss .plain v55 v48 s51 fun v57 s58 =>
  condC v57 (iaddrC none 7 v46 v55 s58 fun v59 s60 =>
  loadC true 7 v59 s60 fun v61 s62 =>
  allocC [(.d (.int .i64 0)), (.d (.int .i64 0)), (.d (.int .i64 0)), (.d (.int .i64 0)), (.d (.int .i64 0)), (.exact []), (.exact [])] s62 fun v63 s64 =>
  storeC 7 v63 v61 s64 fun _ s66 =>
  (fun (k67 : List AObj → Prop) => faddrC 1 v63 s66 fun v77 s78 =>
  loadC false 1 v77 s78 fun v79 s80 =>
  mgetC .int true (.agg [(.d (.int .i64 0)), (.d (.int .i64 0)), (.d (.int .i64 0)), (.d (.int .i64 0)), (.d (.int .i64 0)), (.exact []), (.exact [])]) v21 v79 s80 fun v81 s82 =>
  extractC v81 0 s82 fun v83 s84 =>
  extractC v81 1 s84 fun v85 s86 =>
  allocC [(.d (.int .i64 0)), (.d (.int .i64 0)), (.d (.int .i64 0)), (.d (.int .i64 0)), (.d (.int .i64 0)), (.exact []), (.exact [])] s86 fun v87 s88 =>
  storeC 7 v87 v83 s88 fun _ s90 =>
  unC .not v85 s90 fun v91 s92 =>
  guardC v91 false (fun k => faddrC 0 v63 s92 k) s92 (fun v93 s94 =>
  guardC v91 false (fun k => loadC false 1 v93 s94 k) s94 (fun v95 s96 =>
  guardC v91 false (fun k => faddrC 0 v87 s96 k) s96 (fun v97 s98 =>
  guardC v91 false (fun k => loadC false 1 v97 s98 k) s98 (fun v99 s100 =>
  guardC v91 false (fun k => binC .gtr .plain v95 v99 s100 k) s100 (fun v101 s102 =>
  pickC v91 (.d (.bool true)) v101 s102 fun v103 s104 =>
  condC v103 (faddrC 1 v63 s104 fun v105 s106 =>
  loadC false 1 v105 s106 fun v107 s108 =>
  loadC true 7 v63 s108 fun v109 s110 =>
  msetC .int v21 v107 v109 s110 fun _ s112 =>
  k67 s112) (k67 s104)))))))
  (fun  s68 => faddrC 1 v63 s68 fun v69 s70 =>
  loadC false 1 v69 s70 fun v71 s72 =>
  maxC [v53, v71] s72 fun v73 s74 =>
  binC .add .plain v55 (.d (.int .i64 1)) s74 fun v75 s76 =>
  again52 [v73, v75] s76)) (binC .add .plain v30 (.d (.int .i64 1)) s58 fun v113 s114 =>
  again27 [v53, v113] s114))) (faddrC 2 v17 s33 fun v133 s134 =>
  loadC false 1 v133 s134 fun v135 s136 =>
  appendC 2 16 (.exact []) v135 s136 fun v137 s138 =>
  faddrC 2 v17 s138 fun v139 s140 =>
  storeC 1 v139 v137 s140 fun _ s142 =>
  faddrC 0 v17 s142 fun v143 s144 =>
  loadC false 1 v143 s144 fun v145 s146 =>
  binC .lss .plain v145 (.d (.int .i64 0)) s146 fun v147 s148 =>
  guardC v147 false (fun k => k v28 s148) s148 (fun v149 s150 =>
  guardC v147 false (fun k => faddrC 0 v17 s150 k) s150 (fun v151 s152 =>
  guardC v147 false (fun k => loadC false 1 v151 s152 k) s152 (fun v153 s154 =>
  guardC v147 false (fun k => binC .leq .plain v149 v153 s154 k) s154 (fun v155 s156 =>
  pickC v147 (.d (.bool true)) v155 s156 fun v157 s158 =>
  condC v157 (loadC true 3 v17 s158 fun v159 s160 =>
  storeC 3 v1 v159 s160 fun _ s162 =>
  Z (consO (cellA v1 s162 true 3) (consO (some (.exact [])) (consO (some (.d (.int .i64 0))) (some [])))) s162) (faddrC 0 v17 s158 fun v163 s164 =>
  loadC false 1 v163 s164 fun v165 s166 =>
  binC .sub .plain v28 v165 s166 fun v167 s168 =>
  minC [v167, (.d (.int .i64 8))] s168 fun v169 s170 =>
  loopC [(.exact []), (.d (.int .i64 0))] s170 fun vs171 s172 again173 =>
  headC vs171 fun v174 vs175 =>
  headC vs175 fun v176 vs177 =>
  binC .lss .plain v176 v169 s172 fun v178 s179 =>
  condC v178 (faddrC 0 v17 s179 fun v180 s181 =>
  loadC false 1 v180 s181 fun v182 s183 =>
  binC .add .plain v182 v176 s183 fun v184 s185 =>
  binC .add .plain v184 (.d (.int .i64 1)) s185 fun v186 s187 =>
  mgetC .int false (.agg [(.d (.int .i64 0)), (.d (.int .i64 0)), (.d (.int .i64 0)), (.d (.int .i64 0)), (.d (.int .i64 0)), (.exact []), (.exact [])]) v21 v186 s187 fun v188 s189 =>
  fieldC false 6 1 v188 s189 fun v190 s191 =>
  ACall P n_request_Clone [dm v190] s191 fun v192 s193 =>
  buildC (fillV [(.d (.int .i64 0)), (.d (.int .i64 0)), (.exact []), (.d (.int .i64 0)), (.d (.int .i64 0))] [(0, 1, x1), (1, 1, v186), (2, 1, v192)]) s193 fun v194 s195 =>
  mksliceC false 5 1 (fillV (rep [(.d (.int .i64 0)), (.d (.int .i64 0)), (.exact []), (.d (.int .i64 0)), (.d (.int .i64 0))] 1) [(0, 5, v194)]) s195 fun v196 s197 =>
  appendC 5 56 v174 v196 s197 fun v198 s199 =>
  binC .add .plain v176 (.d (.int .i64 1)) s199 fun v200 s201 =>
  again173 [v198, v200] s201) (loadC true 3 v17 s179 fun v202 s203 =>
  storeC 3 v1 v202 s203 fun _ s205 =>
  Z (consO (cellA v1 s205 true 3) (consO (some v174) (consO (some (.d (.int .i64 0))) (some [])))) s205))))))))
theorem s_newview_Select {P : Program} {x0 x1 x2 : AV} {σ : List AObj} {Z : Option (List AV) → List AObj → Prop} (h : S_newview_Select P x0 x1 x2 σ Z) : awp P A_newview_Select.body (AtEnd fun fr s => Z (resAs fr s A_newview_Select.res) s) (slots0 0 [x0, x1, x2]) σ :=
  cast (by kernel_rfl) h
/-- bulla/bullaref16.Select -/
def S_r16_Select (P : Program) (x0 x1 x2 : AV) (σ : List AObj) (Z : Option (List AV) → List AObj → Prop) : Prop :=
  allocC [(.d (.int .i64 0)), (.d (.int .i64 0)), (.exact [])] σ fun v1 s2 =>
  ACall P n_r12_Check [dm x0] s2 fun v3 s4 =>
  binC .neq .plain v3 (.d (.int .i64 0)) s4 fun v5 s6 =>
  condC v5 (buildC (fillV [(.d (.int .i64 0)), (.d (.int .i64 0)), (.exact [])] []) s6 fun v7 s8 =>
  storeC 3 v1 v7 s8 fun _ s10 =>
  Z (consO (cellA v1 s10 true 3) (consO (some (.exact [])) (consO (some v3) (some [])))) s10) (binC .lss .plain x1 (.d (.int .i64 1)) s6 fun v11 s12 =>
  guardC v11 false (fun k => k x1 s12) s12 (fun v13 s14 =>
  guardC v11 false (fun k => binC .gtr .plain v13 (.d (.int .i64 9007199254740992)) s14 k) s14 (fun v15 s16 =>
  pickC v11 (.d (.bool true)) v15 s16 fun v17 s18 =>
  condC v17 (buildC (fillV [(.d (.int .i64 0)), (.d (.int .i64 0)), (.exact [])] []) s18 fun v19 s20 =>
  storeC 3 v1 v19 s20 fun _ s22 =>
  Z (consO (cellA v1 s22 true 3) (consO (some (.exact [])) (consO (some (.d (.int .i64 1))) (some [])))) s22) (loopC [(.d (.int .i64 0))] s18 fun vs23 s24 again25 =>
  headC vs23 fun v26 vs27 =>
  lenC .sl x2 s24 fun v28 s29 =>
  binC .lss .plain v26 v28 s29 fun v30 s31 =>
  condC v30 (iaddrC none 8 x2 v26 s31 fun v32 s33 =>
  faddrC 1 v32 s33 fun v34 s35 =>
  loadC false 1 v34 s35 fun v36 s37 =>
  binC .lss .plain v36 (.d (.int .i64 0)) s37 fun v38 s39 =>
  guardC v38 false (fun k => k x2 s39) s39 (fun v40 s41 =>
  guardC v38 false (fun k => k v26 s41) s41 (fun v42 s43 =>
  guardC v38 false (fun k => iaddrC none 8 v40 v42 s43 k) s43 (fun v44 s45 =>
  guardC v38 false (fun k => faddrC 1 v44 s45 k) s45 (fun v46 s47 =>
  guardC v38 false (fun k => loadC false 1 v46 s47 k) s47 (fun v48 s49 =>
  guardC v38 false (fun k => k x0 s49) s49 (fun v50 s51 =>
  guardC v38 false (fun k => ACall P n_r12_Brokers [dm v50] s51 k) s51 (fun v52 s53 =>
  keepO v46 s51 s53 ∧ (guardC v38 false (fun k => binC .geq .plain v48 v52 s53 k) s53 (fun v54 s55 =>
  pickC v38 (.d (.bool true)) v54 s55 fun v56 s57 =>
  guardC v56 false (fun k => k v26 s57) s57 (fun v58 s59 =>
  guardC v56 false (fun k => binC .gtr .plain v58 (.d (.int .i64 0)) s59 k) s59 (fun v60 s61 =>
  guardC v56 false (fun k => k v60 s61) s61 (fun v62 s63 =>
  guardC v62 true (fun k => k x2 s63) s63 (fun v64 s65 =>
  guardC v62 true (fun k => k v26 s65) s65 (fun v66 s67 =>
  guardC v62 true (fun k => iaddrC none 8 v64 v66 s67 k) s67 (fun v68 s69 =>
  guardC v62 true (fun k => faddrC 1 v68 s69 k) s69 (fun v70 s71 =>
  guardC v62 true (fun k => loadC false 1 v70 s71 k) s71 (fun v72 s73 =>
  guardC v62 true (fun k => k x2 s73) s73 (fun v74 s75 =>
  guardC v62 true (fun k => k v26 s75) s75 (fun v76 s77 =>
  guardC v62 true (fun k => binC .sub .plain v76 (.d (.int .i64 1)) s77 k) s77 (fun v78 s79 =>
  guardC v62 true (fun k => iaddrC none 8 v74 v78 s79 k) s79 (fun v80 s81 =>
  guardC v62 true (fun k => faddrC 1 v80 s81 k) s81 (fun v82 s83 =>
  guardC v62 true (fun k => loadC false 1 v82 s83 k) s83 (fun v84 s85 =>
  guardC v62 true (fun k => binC .leq .plain v72 v84 s85 k) s85 (fun v86 s87 =>
  guardC v56 false (fun k => pickC v62 v86 (.d (.bool false)) s87 k) s87 (fun v88 s89 =>
  pickC v56 (.d (.bool true)) v88 s89 fun v90 s91 =>
  condC v90 (buildC (fillV [(.d (.int .i64 0)), (.d (.int .i64 0)), (.exact [])] []) s91 fun v92 s93 =>
  storeC 3 v1 v92 s93 fun _ s95 =>
  Z (consO (cellA v1 s95 true 3) (consO (some (.exact [])) (consO (some (.d (.int .i64 1))) (some [])))) s95) (binC .add .plain v26 (.d (.int .i64 1)) s91 fun v96 s97 =>
  again25 [v96] s97))))))))))))))))))))))))))) (lenC .sl x2 s31 fun v98 s99 =>
  ACall P n_r12_Big [dm x0] s99 fun v100 s101 =>
  binC .lss .plain v98 v100 s101 fun v102 s103 =>
  condC v102 (buildC (fillV [(.d (.int .i64 0)), (.d (.int .i64 0)), (.exact [])] []) s103 fun v104 s105 =>
  storeC 3 v1 v104 s105 fun _ s107 =>
  Z (consO (cellA v1 s107 true 3) (consO (some (.exact [])) (consO (some (.d (.int .i64 160))) (some [])))) s107) (iaddrC none 8 x2 (.d (.int .i64 0)) s103 fun v108 s109 =>
  faddrC 2 v108 s109 fun v110 s111 =>
  loadC true 3 v110 s111 fun v112 s113 =>
  allocC [(.d (.int .i64 0)), (.d (.int .i64 0)), (.exact [])] s113 fun v114 s115 =>
  storeC 3 v114 v112 s115 fun _ s117 =>
  loopC [(.d (.int .i64 0)), (.d (.int .i64 0))] s117 fun vs118 s119 again120 =>
  headC vs118 fun v121 vs122 =>
  headC vs122 fun v123 vs124 =>
  lenC .sl x2 s119 fun v125 s126 =>
  binC .lss .plain v123 v125 s126 fun v127 s128 =>
  condC v127 ((fun (k129 : List AObj → Prop) => iaddrC none 8 x2 v123 s128 fun v166 s167 =>
  faddrC 2 v166 s167 fun v168 s169 =>
  faddrC 0 v168 s169 fun v170 s171 =>
  loadC false 1 v170 s171 fun v172 s173 =>
  faddrC 0 v114 s173 fun v174 s175 =>
  loadC false 1 v174 s175 fun v176 s177 =>
  binC .gtr .plain v172 v176 s177 fun v178 s179 =>
  condC v178 (iaddrC none 8 x2 v123 s179 fun v180 s181 =>
  faddrC 2 v180 s181 fun v182 s183 =>
  loadC true 3 v182 s183 fun v184 s185 =>
  storeC 3 v114 v184 s185 fun _ s187 =>
  k129 s187) (k129 s179))
  (fun  s130 => loopC [v121, (.d (.int .i64 0))] s130 fun vs131 s132 again133 =>
  headC vs131 fun v134 vs135 =>
  headC vs135 fun v136 vs137 =>
  iaddrC none 8 x2 v123 s132 fun v138 s139 =>
  faddrC 5 v138 s139 fun v140 s141 =>
  loadC false 1 v140 s141 fun v142 s143 =>
  lenC .sl v142 s143 fun v144 s145 =>
  binC .lss .plain v136 v144 s145 fun v146 s147 =>
  condC v146 (iaddrC none 8 x2 v123 s147 fun v148 s149 =>
  faddrC 5 v148 s149 fun v150 s151 =>
  loadC false 1 v150 s151 fun v152 s153 =>
  iaddrC none 7 v152 v136 s153 fun v154 s155 =>
  faddrC 1 v154 s155 fun v156 s157 =>
  loadC false 1 v156 s157 fun v158 s159 =>
  maxC [v134, v158] s159 fun v160 s161 =>
  binC .add .plain v136 (.d (.int .i64 1)) s161 fun v162 s163 =>
  again133 [v160, v162] s163) (binC .add .plain v123 (.d (.int .i64 1)) s147 fun v164 s165 =>
  again120 [v134, v164] s165))) (faddrC 0 v114 s128 fun v188 s189 =>
  loadC false 1 v188 s189 fun v190 s191 =>
  binC .lss .plain v190 (.d (.int .i64 0)) s191 fun v192 s193 =>
  guardC v192 false (fun k => k v121 s193) s193 (fun v194 s195 =>
  guardC v192 false (fun k => faddrC 0 v114 s195 k) s195 (fun v196 s197 =>
  guardC v192 false (fun k => loadC false 1 v196 s197 k) s197 (fun v198 s199 =>
  guardC v192 false (fun k => binC .leq .plain v194 v198 s199 k) s199 (fun v200 s201 =>
  pickC v192 (.d (.bool true)) v200 s201 fun v202 s203 =>
  condC v202 (loadC true 3 v114 s203 fun v204 s205 =>
  storeC 3 v1 v204 s205 fun _ s207 =>
  Z (consO (cellA v1 s207 true 3) (consO (some (.exact [])) (consO (some (.d (.int .i64 0))) (some [])))) s207) (loopC [(.exact []), (.d (.int .i64 0))] s203 fun vs208 s209 again210 =>
  headC vs208 fun v211 vs212 =>
  headC vs212 fun v213 vs214 =>
  binC .lss .plain v213 (.d (.int .i64 8)) s209 fun v215 s216 =>
  guardC v215 true (fun k => k v213 s216) s216 (fun v217 s218 =>
  guardC v215 true (fun k => k v121 s218) s218 (fun v219 s220 =>
  guardC v215 true (fun k => faddrC 0 v114 s220 k) s220 (fun v221 s222 =>
  guardC v215 true (fun k => loadC false 1 v221 s222 k) s222 (fun v223 s224 =>
  guardC v215 true (fun k => binC .sub .plain v219 v223 s224 k) s224 (fun v225 s226 =>
  guardC v215 true (fun k => binC .lss .plain v217 v225 s226 k) s226 (fun v227 s228 =>
  pickC v215 v227 (.d (.bool false)) s228 fun v229 s230 =>
  condC v229 (faddrC 0 v114 s230 fun v231 s232 =>
  loadC false 1 v231 s232 fun v233 s234 =>
  binC .add .plain v233 v213 s234 fun v235 s236 =>
  binC .add .plain v235 (.d (.int .i64 1)) s236 fun v237 s238 =>
  ACall P n_r16_latest [dm x2, dm v237] s238 fun v239 s240 =>
  buildC (fillV [(.d (.int .i64 0)), (.d (.int .i64 0)), (.exact []), (.d (.int .i64 0)), (.d (.int .i64 0))] [(0, 1, x1), (1, 1, v237), (2, 1, v239)]) s240 fun v241 s242 =>
  mksliceC false 5 1 (fillV (rep [(.d (.int .i64 0)), (.d (.int .i64 0)), (.exact []), (.d (.int .i64 0)), (.d (.int .i64 0))] 1) [(0, 5, v241)]) s242 fun v243 s244 =>
  appendC 5 56 v211 v243 s244 fun v245 s246 =>
  binC .add .plain v213 (.d (.int .i64 1)) s246 fun v247 s248 =>
  again210 [v245, v247] s248) (loadC true 3 v114 s230 fun v249 s250 =>
  storeC 3 v1 v249 s250 fun _ s252 =>
  Z (consO (cellA v1 s252 true 3) (consO (some v211) (consO (some (.d (.int .i64 0))) (some [])))) s252)))))))))))))))))))
theorem s_r16_Select {P : Program} {x0 x1 x2 : AV} {σ : List AObj} {Z : Option (List AV) → List AObj → Prop} (h : S_r16_Select P x0 x1 x2 σ Z) : awp P A_r16_Select.body (AtEnd fun fr s => Z (resAs fr s A_r16_Select.res) s) (slots0 0 [x0, x1, x2]) σ :=
  cast (by kernel_rfl) h
/-- bulla/bullalaw16.begun -/
def S_l16_begun (P : Program) (σ : List AObj) (Z : Option (List AV) → List AObj → Prop) : Prop :=
  buildC (fillV [(.d (.int .i64 0)), (.d (.int .i64 0)), (.d (.int .i64 0)), (.d (.str [])), (.d (.str [])), (.d (.int .i64 0)), (.exact [])] [(0, 1, (.d (.int .i64 1))), (1, 1, (.d (.int .i64 1)))]) σ fun v1 s2 =>
  buildC (fillV [(.d (.int .i64 0)), (.d (.int .i64 0))] [(0, 1, (.d (.int .i64 14))), (1, 1, (.d (.int .i64 1)))]) s2 fun v3 s4 =>
  buildC (fillV [(.d (.int .i64 0)), (.d (.int .i64 0)), (.d (.int .i64 0)), (.d (.str [])), (.d (.str [])), (.d (.int .i64 0)), (.exact []), (.d (.int .i64 0)), (.d (.int .i64 0))] [(0, 7, v1), (7, 2, v3)]) s4 fun v5 s6 =>
  mksliceC false 9 1 (fillV (rep [(.d (.int .i64 0)), (.d (.int .i64 0)), (.d (.int .i64 0)), (.d (.str [])), (.d (.str [])), (.d (.int .i64 0)), (.exact []), (.d (.int .i64 0)), (.d (.int .i64 0))] 1) [(0, 9, v5)]) s6 fun v7 s8 =>
  buildC (fillV [(.d (.int .i64 0)), (.d (.int .i64 0)), (.d (.int .i64 0)), (.d (.int .i64 0)), (.d (.int .i64 0)), (.exact []), (.exact [])] [(1, 1, (.d (.int .i64 1))), (6, 1, v7)]) s8 fun v9 s10 =>
  buildC (fillV [(.d (.int .i64 0)), (.d (.int .i64 0)), (.d (.int .i64 0)), (.d (.int .i64 0)), (.d (.int .i64 0)), (.exact []), (.exact [])] [(1, 1, (.d (.int .i64 3)))]) s10 fun v11 s12 =>
  mksliceC false 7 2 (fillV (rep [(.d (.int .i64 0)), (.d (.int .i64 0)), (.d (.int .i64 0)), (.d (.int .i64 0)), (.d (.int .i64 0)), (.exact []), (.exact [])] 2) [(0, 7, v9), (7, 7, v11)]) s12 fun v13 s14 =>
  buildC (fillV [(.d (.int .i64 0)), (.d (.int .i64 0)), (.d (.int .i64 0)), (.d (.int .i64 0)), (.exact []), (.exact []), (.d (.int .i64 0)), (.d (.int .i64 0))] [(1, 1, (.d (.int .i64 0))), (5, 1, v13)]) s14 fun v15 s16 =>
  buildC (fillV [(.d (.int .i64 0)), (.d (.int .i64 0)), (.d (.int .i64 0)), (.d (.int .i64 0)), (.exact []), (.exact []), (.d (.int .i64 0)), (.d (.int .i64 0))] [(1, 1, (.d (.int .i64 1)))]) s16 fun v17 s18 =>
  buildC (fillV [(.d (.int .i64 0)), (.d (.int .i64 0)), (.d (.int .i64 0)), (.d (.int .i64 0)), (.d (.int .i64 0)), (.exact []), (.exact [])] [(0, 1, (.d (.int .i64 1))), (1, 1, (.d (.int .i64 3))), (6, 1, v7)]) s18 fun v19 s20 =>
  mksliceC false 7 1 (fillV (rep [(.d (.int .i64 0)), (.d (.int .i64 0)), (.d (.int .i64 0)), (.d (.int .i64 0)), (.d (.int .i64 0)), (.exact []), (.exact [])] 1) [(0, 7, v19)]) s20 fun v21 s22 =>
  buildC (fillV [(.d (.int .i64 0)), (.d (.int .i64 0)), (.d (.int .i64 0)), (.d (.int .i64 0)), (.exact []), (.exact []), (.d (.int .i64 0)), (.d (.int .i64 0))] [(1, 1, (.d (.int .i64 3))), (5, 1, v21)]) s22 fun v23 s24 =>
  mksliceC false 8 3 (fillV (rep [(.d (.int .i64 0)), (.d (.int .i64 0)), (.d (.int .i64 0)), (.d (.int .i64 0)), (.exact []), (.exact []), (.d (.int .i64 0)), (.d (.int .i64 0))] 3) [(0, 8, v15), (8, 8, v17), (16, 8, v23)]) s24 fun v25 s26 =>
  ACall P n_newview_Select [dm (.d (.int .i64 1)), dm (.d (.int .i64 2)), dm v25] s26 fun v27 s28 =>
  extractC v27 0 s28 fun v29 s30 =>
  extractC v27 1 s30 fun v31 s32 =>
  extractC v27 2 s32 fun v33 s34 =>
  allocC [(.d (.int .i64 0)), (.d (.int .i64 0)), (.exact [])] s34 fun v35 s36 =>
  storeC 3 v35 v29 s36 fun _ s38 =>
  binC .eql .plain v33 (.d (.int .i64 0)) s38 fun v39 s40 =>
  guardC v39 true (fun k => k v31 s40) s40 (fun v41 s42 =>
  guardC v39 true (fun k => lenC .sl v41 s42 k) s42 (fun v43 s44 =>
  guardC v39 true (fun k => binC .eql .plain v43 (.d (.int .i64 3)) s44 k) s44 (fun v45 s46 =>
  pickC v39 v45 (.d (.bool false)) s46 fun v47 s48 =>
  guardC v47 true (fun k => k v31 s48) s48 (fun v49 s50 =>
  guardC v47 true (fun k => iaddrC none 5 v49 (.d (.int .i64 0)) s50 k) s50 (fun v51 s52 =>
  guardC v47 true (fun k => faddrC 2 v51 s52 k) s52 (fun v53 s54 =>
  guardC v47 true (fun k => loadC false 1 v53 s54 k) s54 (fun v55 s56 =>
  guardC v47 true (fun k => lenC .sl v55 s56 k) s56 (fun v57 s58 =>
  guardC v47 true (fun k => binC .eql .plain v57 (.d (.int .i64 1)) s58 k) s58 (fun v59 s60 =>
  pickC v47 v59 (.d (.bool false)) s60 fun v61 s62 =>
  guardC v61 true (fun k => k v31 s62) s62 (fun v63 s64 =>
  guardC v61 true (fun k => iaddrC none 5 v63 (.d (.int .i64 1)) s64 k) s64 (fun v65 s66 =>
  guardC v61 true (fun k => faddrC 2 v65 s66 k) s66 (fun v67 s68 =>
  guardC v61 true (fun k => loadC false 1 v67 s68 k) s68 (fun v69 s70 =>
  guardC v61 true (fun k => lenC .sl v69 s70 k) s70 (fun v71 s72 =>
  guardC v61 true (fun k => binC .eql .plain v71 (.d (.int .i64 0)) s72 k) s72 (fun v73 s74 =>
  pickC v61 v73 (.d (.bool false)) s74 fun v75 s76 =>
  guardC v75 true (fun k => k v31 s76) s76 (fun v77 s78 =>
  guardC v75 true (fun k => iaddrC none 5 v77 (.d (.int .i64 2)) s78 k) s78 (fun v79 s80 =>
  guardC v75 true (fun k => faddrC 2 v79 s80 k) s80 (fun v81 s82 =>
  guardC v75 true (fun k => loadC false 1 v81 s82 k) s82 (fun v83 s84 =>
  guardC v75 true (fun k => lenC .sl v83 s84 k) s84 (fun v85 s86 =>
  guardC v75 true (fun k => binC .eql .plain v85 (.d (.int .i64 1)) s86 k) s86 (fun v87 s88 =>
  pickC v75 v87 (.d (.bool false)) s88 fun v89 s90 =>
  guardC v89 true (fun k => k v31 s90) s90 (fun v91 s92 =>
  guardC v89 true (fun k => iaddrC none 5 v91 (.d (.int .i64 2)) s92 k) s92 (fun v93 s94 =>
  guardC v89 true (fun k => faddrC 1 v93 s94 k) s94 (fun v95 s96 =>
  guardC v89 true (fun k => loadC false 1 v95 s96 k) s96 (fun v97 s98 =>
  guardC v89 true (fun k => binC .eql .plain v97 (.d (.int .i64 3)) s98 k) s98 (fun v99 s100 =>
  pickC v89 v99 (.d (.bool false)) s100 fun v101 s102 =>
  guardC v101 true (fun k => k v31 s102) s102 (fun v103 s104 =>
  guardC v101 true (fun k => iaddrC none 5 v103 (.d (.int .i64 2)) s104 k) s104 (fun v105 s106 =>
  guardC v101 true (fun k => faddrC 0 v105 s106 k) s106 (fun v107 s108 =>
  guardC v101 true (fun k => loadC false 1 v107 s108 k) s108 (fun v109 s110 =>
  guardC v101 true (fun k => binC .eql .plain v109 (.d (.int .i64 2)) s110 k) s110 (fun v111 s112 =>
  pickC v101 v111 (.d (.bool false)) s112 fun v113 s114 =>
  Z (consO (some v113) (some [])) s114)))))))))))))))))))))))))))))))
theorem s_l16_begun {P : Program} {σ : List AObj} {Z : Option (List AV) → List AObj → Prop} (h : S_l16_begun P  σ Z) : awp P A_l16_begun.body (AtEnd fun fr s => Z (resAs fr s A_l16_begun.res) s) (slots0 0 []) σ :=
  cast (by kernel_rfl) h
/-- bulla/bullaref10.SameCert -/
def S_r10_SameCert (P : Program) (x0 x1 : AV) (σ : List AObj) (Z : Option (List AV) → List AObj → Prop) : Prop :=
  boxC x0 σ fun v1 s2 =>
  boxC x1 s2 fun v3 s4 =>
  faddrC 0 v1 s4 fun v5 s6 =>
  loadC false 1 v5 s6 fun v7 s8 =>
  faddrC 0 v3 s8 fun v9 s10 =>
  loadC false 1 v9 s10 fun v11 s12 =>
  binC .eql .plain v7 v11 s12 fun v13 s14 =>
  guardC v13 true (fun k => faddrC 1 v1 s14 k) s14 (fun v15 s16 =>
  guardC v13 true (fun k => loadC false 1 v15 s16 k) s16 (fun v17 s18 =>
  guardC v13 true (fun k => faddrC 1 v3 s18 k) s18 (fun v19 s20 =>
  guardC v13 true (fun k => loadC false 1 v19 s20 k) s20 (fun v21 s22 =>
  guardC v13 true (fun k => binC .eql .plain v17 v21 s22 k) s22 (fun v23 s24 =>
  pickC v13 v23 (.d (.bool false)) s24 fun v25 s26 =>
  guardC v25 true (fun k => faddrC 2 v1 s26 k) s26 (fun v27 s28 =>
  guardC v25 true (fun k => loadC false 1 v27 s28 k) s28 (fun v29 s30 =>
  guardC v25 true (fun k => faddrC 2 v3 s30 k) s30 (fun v31 s32 =>
  guardC v25 true (fun k => loadC false 1 v31 s32 k) s32 (fun v33 s34 =>
  guardC v25 true (fun k => ACall P n_r10_sameSigns [dm v29, dm v33] s34 k) s34 (fun v35 s36 =>
  pickC v25 v35 (.d (.bool false)) s36 fun v37 s38 =>
  Z (consO (some v37) (some [])) s38))))))))))
theorem s_r10_SameCert {P : Program} {x0 x1 : AV} {σ : List AObj} {Z : Option (List AV) → List AObj → Prop} (h : S_r10_SameCert P x0 x1 σ Z) : awp P A_r10_SameCert.body (AtEnd fun fr s => Z (resAs fr s A_r10_SameCert.res) s) (slots0 0 [x0, x1]) σ :=
  cast (by kernel_rfl) h
/-- bulla/bullaref10.SameEntries -/
def S_r10_SameEntries (P : Program) (x0 x1 : AV) (σ : List AObj) (Z : Option (List AV) → List AObj → Prop) : Prop :=
  lenC .sl x0 σ fun v1 s2 =>
  lenC .sl x1 s2 fun v3 s4 =>
  binC .neq .plain v1 v3 s4 fun v5 s6 =>
  condC v5 (Z (consO (some (.d (.bool false))) (some [])) s6) (loopC [(.d (.int .i64 0))] s6 fun vs7 s8 again9 =>
  headC vs7 fun v10 vs11 =>
  lenC .sl x0 s8 fun v12 s13 =>
  binC .lss .plain v10 v12 s13 fun v14 s15 =>
  condC v14 (iaddrC none 5 x0 v10 s15 fun v16 s17 =>
  faddrC 0 v16 s17 fun v18 s19 =>
  loadC false 1 v18 s19 fun v20 s21 =>
  iaddrC none 5 x1 v10 s21 fun v22 s23 =>
  faddrC 0 v22 s23 fun v24 s25 =>
  loadC false 1 v24 s25 fun v26 s27 =>
  binC .neq .plain v20 v26 s27 fun v28 s29 =>
  guardC v28 false (fun k => k x0 s29) s29 (fun v30 s31 =>
  guardC v28 false (fun k => k v10 s31) s31 (fun v32 s33 =>
  guardC v28 false (fun k => iaddrC none 5 v30 v32 s33 k) s33 (fun v34 s35 =>
  guardC v28 false (fun k => faddrC 1 v34 s35 k) s35 (fun v36 s37 =>
  guardC v28 false (fun k => loadC false 1 v36 s37 k) s37 (fun v38 s39 =>
  guardC v28 false (fun k => k x1 s39) s39 (fun v40 s41 =>
  guardC v28 false (fun k => k v10 s41) s41 (fun v42 s43 =>
  guardC v28 false (fun k => iaddrC none 5 v40 v42 s43 k) s43 (fun v44 s45 =>
  guardC v28 false (fun k => faddrC 1 v44 s45 k) s45 (fun v46 s47 =>
  guardC v28 false (fun k => loadC false 1 v46 s47 k) s47 (fun v48 s49 =>
  guardC v28 false (fun k => binC .neq .plain v38 v48 s49 k) s49 (fun v50 s51 =>
  pickC v28 (.d (.bool true)) v50 s51 fun v52 s53 =>
  guardC v52 false (fun k => k x0 s53) s53 (fun v54 s55 =>
  guardC v52 false (fun k => k v10 s55) s55 (fun v56 s57 =>
  guardC v52 false (fun k => iaddrC none 5 v54 v56 s57 k) s57 (fun v58 s59 =>
  guardC v52 false (fun k => faddrC 3 v58 s59 k) s59 (fun v60 s61 =>
  guardC v52 false (fun k => loadC true 2 v60 s61 k) s61 (fun v62 s63 =>
  guardC v52 false (fun k => k x1 s63) s63 (fun v64 s65 =>
  guardC v52 false (fun k => k v10 s65) s65 (fun v66 s67 =>
  guardC v52 false (fun k => iaddrC none 5 v64 v66 s67 k) s67 (fun v68 s69 =>
  guardC v52 false (fun k => faddrC 3 v68 s69 k) s69 (fun v70 s71 =>
  guardC v52 false (fun k => loadC true 2 v70 s71 k) s71 (fun v72 s73 =>
  guardC v52 false (fun k => binC .neq (.ints 2) v62 v72 s73 k) s73 (fun v74 s75 =>
  pickC v52 (.d (.bool true)) v74 s75 fun v76 s77 =>
  guardC v76 false (fun k => k x0 s77) s77 (fun v78 s79 =>
  guardC v76 false (fun k => k v10 s79) s79 (fun v80 s81 =>
  guardC v76 false (fun k => iaddrC none 5 v78 v80 s81 k) s81 (fun v82 s83 =>
  guardC v76 false (fun k => faddrC 2 v82 s83 k) s83 (fun v84 s85 =>
  guardC v76 false (fun k => loadC false 1 v84 s85 k) s85 (fun v86 s87 =>
  guardC v76 false (fun k => k x1 s87) s87 (fun v88 s89 =>
  guardC v76 false (fun k => k v10 s89) s89 (fun v90 s91 =>
  guardC v76 false (fun k => iaddrC none 5 v88 v90 s91 k) s91 (fun v92 s93 =>
  guardC v76 false (fun k => faddrC 2 v92 s93 k) s93 (fun v94 s95 =>
  guardC v76 false (fun k => loadC false 1 v94 s95 k) s95 (fun v96 s97 =>
  guardC v76 false (fun k => ACall P n_r08_Same [dm v86, dm v96] s97 k) s97 (fun v98 s99 =>
  guardC v76 false (fun k => unC .not v98 s99 k) s99 (fun v100 s101 =>
  pickC v76 (.d (.bool true)) v100 s101 fun v102 s103 =>
  condC v102 (Z (consO (some (.d (.bool false))) (some [])) s103) (binC .add .plain v10 (.d (.int .i64 1)) s103 fun v104 s105 =>
  again9 [v104] s105)))))))))))))))))))))))))))))))))))) (Z (consO (some (.d (.bool true))) (some [])) s15))
theorem s_r10_SameEntries {P : Program} {x0 x1 : AV} {σ : List AObj} {Z : Option (List AV) → List AObj → Prop} (h : S_r10_SameEntries P x0 x1 σ Z) : awp P A_r10_SameEntries.body (AtEnd fun fr s => Z (resAs fr s A_r10_SameEntries.res) s) (slots0 0 [x0, x1]) σ :=
  cast (by kernel_rfl) h
/-- bulla/bullaref12.Check -/
def S_r12_Check (P : Program) (x0 : AV) (σ : List AObj) (Z : Option (List AV) → List AObj → Prop) : Prop :=
  binC .lss .plain x0 (.d (.int .i64 1)) σ fun v1 s2 =>
  guardC v1 false (fun k => k x0 s2) s2 (fun v3 s4 =>
  guardC v1 false (fun k => binC .gtr .plain v3 (.d (.int .i64 4)) s4 k) s4 (fun v5 s6 =>
  pickC v1 (.d (.bool true)) v5 s6 fun v7 s8 =>
  condC v7 (Z (consO (some (.d (.int .i64 120))) (some [])) s8) (Z (consO (some (.d (.int .i64 0))) (some [])) s8)))
theorem s_r12_Check {P : Program} {x0 : AV} {σ : List AObj} {Z : Option (List AV) → List AObj → Prop} (h : S_r12_Check P x0 σ Z) : awp P A_r12_Check.body (AtEnd fun fr s => Z (resAs fr s A_r12_Check.res) s) (slots0 0 [x0]) σ :=
  cast (by kernel_rfl) h
/-- bulla/bullaref12.Many -/
def S_r12_Many (P : Program) (x0 : AV) (σ : List AObj) (Z : Option (List AV) → List AObj → Prop) : Prop :=
  ACall P n_r12_List [dm x0] σ fun v1 s2 =>
  lenC .sl v1 s2 fun v3 s4 =>
  Z (consO (some v3) (some [])) s4
theorem s_r12_Many {P : Program} {x0 : AV} {σ : List AObj} {Z : Option (List AV) → List AObj → Prop} (h : S_r12_Many P x0 σ Z) : awp P A_r12_Many.body (AtEnd fun fr s => Z (resAs fr s A_r12_Many.res) s) (slots0 0 [x0]) σ :=
  cast (by kernel_rfl) h
/-- bulla/bullaref12.Brokers -/
def S_r12_Brokers (P : Program) (x0 : AV) (σ : List AObj) (Z : Option (List AV) → List AObj → Prop) : Prop :=
  ACall P n_r12_Check [dm x0] σ fun v1 s2 =>
  binC .neq .plain v1 (.d (.int .i64 0)) s2 fun v3 s4 =>
  condC v3 (Z (consO (some (.d (.int .i64 0))) (some [])) s4) (binC .mul .plain (.d (.int .i64 3)) x0 s4 fun v5 s6 =>
  binC .add .plain v5 (.d (.int .i64 1)) s6 fun v7 s8 =>
  Z (consO (some v7) (some [])) s8)
theorem s_r12_Brokers {P : Program} {x0 : AV} {σ : List AObj} {Z : Option (List AV) → List AObj → Prop} (h : S_r12_Brokers P x0 σ Z) : awp P A_r12_Brokers.body (AtEnd fun fr s => Z (resAs fr s A_r12_Brokers.res) s) (slots0 0 [x0]) σ :=
  cast (by kernel_rfl) h
end Go.Proofs.Ytndpnfbcnmebjaa
