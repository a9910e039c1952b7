/- The conditions of each function, its slots as variables, and that the logic's conditions are these. Printed by program. -/
import Derived.Test.YtcappjcojggehaaGreatAf1
set_option linter.all false
set_option maxRecDepth 100000
set_option linter.unusedVariables false
namespace Go.Proofs.YtcappjcojggehaaGreat
open Go.AW
/-- bulla/bullalaw15.PreparedValid -/
def zdX (P : Program) (x0 : AV) (σ : List AObj) (Z : Option (List AV) → List AObj → Prop) : Prop :=
  boxC x0 σ fun v1 s2 =>
  ACall P zjp [] s2 fun v3 s4 =>
  unC .not v3 s4 fun v5 s6 =>
  condC v5 (Z (consO (some (.d (.bool false))) (some [])) s6) (loadC true 6 v1 s6 fun v7 s8 =>
  ACall P zbx [dm v7] s8 fun v9 s10 =>
  zh 3 v1 s10 fun v11 s12 =>
  loadC false 1 v11 s12 fun v13 s14 =>
  lenC .sl v13 s14 fun v15 s16 =>
  loopC [(.exact []), (.d (.int .i64 0))] s16 fun vs17 s18 again19 =>
  headC vs17 fun v20 vs21 =>
  headC vs21 fun v22 vs23 =>
  binC .lss .plain v22 v15 s18 fun v24 s25 =>
  condC v24 (zr none 6 v13 v22 s25 fun v26 s27 =>
  loadC true 6 v26 s27 fun v28 s29 =>
  zH [(.d (.int .i64 0)), (.d (.int .i64 0)), (.d (.int .u8 0)), (.d (.int .i64 0)), (.d (.int .u8 0)), (.exact [])] s29 fun v30 s31 =>
  zp 6 v30 v28 s31 fun _ s33 =>
  loadC true 6 v30 s33 fun v34 s35 =>
  ACall P zbw [dm v9, dm v34] s35 fun v36 s37 =>
  zH [(.d (.int .i64 0)), (.d (.int .i64 0)), (.d (.int .i64 0)), (.d (.int .i64 0)), (.d (.int .i64 0)), (.exact []), (.exact [])] s37 fun v38 s39 =>
  zp 7 v38 v36 s39 fun _ s41 =>
  loadC true 7 v38 s41 fun v42 s43 =>
  zl false 7 1 (fillV (rep [(.d (.int .i64 0)), (.d (.int .i64 0)), (.d (.int .i64 0)), (.d (.int .i64 0)), (.d (.int .i64 0)), (.exact []), (.exact [])] 1) [(0, 7, v42)]) s43 fun v44 s45 =>
  zt 7 88 v20 v44 s45 fun v46 s47 =>
  nilC v9 s47 fun v48 s49 =>
  zh 0 v48 s49 fun v50 s51 =>
  loadC false 1 v50 s51 fun v52 s53 =>
  nilC v9 s53 fun v54 s55 =>
  zh 1 v54 s55 fun v56 s57 =>
  loadC false 1 v56 s57 fun v58 s59 =>
  zh 0 v1 s59 fun v60 s61 =>
  loadC false 1 v60 s61 fun v62 s63 =>
  loadC true 7 v38 s63 fun v64 s65 =>
  nilC v9 s65 fun v66 s67 =>
  zh 2 v66 s67 fun v68 s69 =>
  loadC false 1 v68 s69 fun v70 s71 =>
  nilC v9 s71 fun v72 s73 =>
  zh 3 v72 s73 fun v74 s75 =>
  loadC false 1 v74 s75 fun v76 s77 =>
  zh 0 v1 s77 fun v78 s79 =>
  loadC false 1 v78 s79 fun v80 s81 =>
  loadC true 7 v38 s81 fun v82 s83 =>
  ACall P zaV [dm v52, dm v58, dm v62, dm v64] s83 fun v84 s85 =>
  keepO v68 s83 s85 ∧ (keepO v74 s83 s85 ∧ (keepO v78 s83 s85 ∧ (keepO v38 s83 s85 ∧ (ACall P zff [dm v70, dm v76, dm v80, dm v82] s85 fun v86 s87 =>
  binC .neq .bool v84 v86 s87 fun v88 s89 =>
  condC v88 (Z (consO (some (.d (.bool false))) (some [])) s89) (binC .add .plain v22 (.d (.int .i64 1)) s89 fun v90 s91 =>
  again19 [v46, v90] s91)))))) (nilC v9 s25 fun v92 s93 =>
  zh 0 v92 s93 fun v94 s95 =>
  loadC false 1 v94 s95 fun v96 s97 =>
  nilC v9 s97 fun v98 s99 =>
  zh 1 v98 s99 fun v100 s101 =>
  loadC false 1 v100 s101 fun v102 s103 =>
  zh 0 v1 s103 fun v104 s105 =>
  loadC false 1 v104 s105 fun v106 s107 =>
  zh 4 v1 s107 fun v108 s109 =>
  loadC false 1 v108 s109 fun v110 s111 =>
  zh 5 v1 s111 fun v112 s113 =>
  loadC false 1 v112 s113 fun v114 s115 =>
  nilC v9 s115 fun v116 s117 =>
  zh 2 v116 s117 fun v118 s119 =>
  loadC false 1 v118 s119 fun v120 s121 =>
  nilC v9 s121 fun v122 s123 =>
  zh 3 v122 s123 fun v124 s125 =>
  loadC false 1 v124 s125 fun v126 s127 =>
  zh 0 v1 s127 fun v128 s129 =>
  loadC false 1 v128 s129 fun v130 s131 =>
  zh 4 v1 s131 fun v132 s133 =>
  loadC false 1 v132 s133 fun v134 s135 =>
  zh 5 v1 s135 fun v136 s137 =>
  loadC false 1 v136 s137 fun v138 s139 =>
  ACall P zdh [dm v96, dm v102, dm v106, dm v110, dm v114, dm v20] s139 fun v140 s141 =>
  keepO v118 s139 s141 ∧ (keepO v124 s139 s141 ∧ (keepO v128 s139 s141 ∧ (keepO v132 s139 s141 ∧ (keepO v136 s139 s141 ∧ (ACall P zhE [dm v120, dm v126, dm v130, dm v134, dm v138, dm v20] s141 fun v142 s143 =>
  binC .eql .bool v140 v142 s143 fun v144 s145 =>
  zc v144 true (fun k => k v9 s145) s145 (fun v146 s147 =>
  zc v144 true (fun k => nilC v146 s147 k) s147 (fun v148 s149 =>
  zc v144 true (fun k => zh 0 v148 s149 k) s149 (fun v150 s151 =>
  zc v144 true (fun k => loadC false 1 v150 s151 k) s151 (fun v152 s153 =>
  zc v144 true (fun k => k v9 s153) s153 (fun v154 s155 =>
  zc v144 true (fun k => nilC v154 s155 k) s155 (fun v156 s157 =>
  zc v144 true (fun k => zh 2 v156 s157 k) s157 (fun v158 s159 =>
  zc v144 true (fun k => loadC false 1 v158 s159 k) s159 (fun v160 s161 =>
  zc v144 true (fun k => nilC v160 s161 k) s161 (fun v162 s163 =>
  zc v144 true (fun k => zh 0 v162 s163 k) s163 (fun v164 s165 =>
  zc v144 true (fun k => loadC false 1 v164 s165 k) s165 (fun v166 s167 =>
  zc v144 true (fun k => lenC .sl v166 s167 k) s167 (fun v168 s169 =>
  zc v144 true (fun k => ACall P zcQ [dm v152] s169 k) s169 (fun v170 s171 =>
  keepO v158 s169 s171 ∧ (keepO v164 s169 s171 ∧ (zc v144 true (fun k => binC .eql .plain v170 v168 s171 k) s171 (fun v172 s173 =>
  pickC v144 v172 (.d (.bool false)) s173 fun v174 s175 =>
  zc v174 true (fun k => k v9 s175) s175 (fun v176 s177 =>
  zc v174 true (fun k => nilC v176 s177 k) s177 (fun v178 s179 =>
  zc v174 true (fun k => zh 1 v178 s179 k) s179 (fun v180 s181 =>
  zc v174 true (fun k => loadC false 1 v180 s181 k) s181 (fun v182 s183 =>
  zc v174 true (fun k => k v9 s183) s183 (fun v184 s185 =>
  zc v174 true (fun k => nilC v184 s185 k) s185 (fun v186 s187 =>
  zc v174 true (fun k => zh 3 v186 s187 k) s187 (fun v188 s189 =>
  zc v174 true (fun k => loadC false 1 v188 s189 k) s189 (fun v190 s191 =>
  zc v174 true (fun k => nilC v190 s191 k) s191 (fun v192 s193 =>
  zc v174 true (fun k => zh 0 v192 s193 k) s193 (fun v194 s195 =>
  zc v174 true (fun k => loadC false 1 v194 s195 k) s195 (fun v196 s197 =>
  zc v174 true (fun k => lenC .sl v196 s197 k) s197 (fun v198 s199 =>
  zc v174 true (fun k => ACall P zcw [dm v182] s199 k) s199 (fun v200 s201 =>
  keepO v188 s199 s201 ∧ (keepO v194 s199 s201 ∧ (zc v174 true (fun k => binC .eql .plain v200 v198 s201 k) s201 (fun v202 s203 =>
  pickC v174 v202 (.d (.bool false)) s203 fun v204 s205 =>
  Z (consO (some v204) (some [])) s205)))))))))))))))))))))))))))))))))))))))
theorem zhA {P : Program} {x0 : AV} {σ : List AObj} {Z : Option (List AV) → List AObj → Prop} (h : zdX P x0 σ Z) : awp P zci.body (AtEnd fun fr s => Z (resAs fr s zci.res) s) (zB 0 [x0]) σ :=
  cast (by kernel_rfl) h
/-- bulla/bullalaw15.live -/
def zny (P : Program) (σ : List AObj) (Z : Option (List AV) → List AObj → Prop) : Prop :=
  zG (fillV [(.d (.int .i64 0)), (.d (.int .i64 0)), (.d (.int .i64 0)), (.d (.int .i64 0)), (.d (.int .u8 0))] [(0, 1, (.d (.int .i64 0))), (1, 1, (.d (.int .i64 2))), (3, 1, (.d (.int .i64 1)))]) σ fun v1 s2 =>
  zG (fillV [(.d (.int .i64 0)), (.d (.int .i64 0)), (.d (.int .i64 0)), (.d (.int .i64 0)), (.d (.int .u8 0))] [(0, 1, (.d (.int .i64 1))), (1, 1, (.d (.int .i64 3))), (3, 1, (.d (.int .i64 1)))]) s2 fun v3 s4 =>
  zG (fillV [(.d (.int .i64 0)), (.d (.int .i64 0)), (.d (.int .i64 0)), (.d (.int .i64 0)), (.d (.int .u8 0))] [(0, 1, (.d (.int .i64 3))), (1, 1, (.d (.int .i64 3))), (3, 1, (.d (.int .i64 1)))]) s4 fun v5 s6 =>
  zl false 5 3 (fillV (rep [(.d (.int .i64 0)), (.d (.int .i64 0)), (.d (.int .i64 0)), (.d (.int .i64 0)), (.d (.int .u8 0))] 3) [(0, 5, v1), (5, 5, v3), (10, 5, v5)]) s6 fun v7 s8 =>
  zG (fillV [(.d (.int .i64 0)), (.exact []), (.exact []), (.exact []), (.d (.int .i64 0)), (.d (.int .i64 0))] [(0, 1, (.d (.int .i64 1))), (2, 1, v7)]) s8 fun v9 s10 =>
  zH [(.d (.int .i64 0)), (.exact []), (.exact []), (.exact []), (.d (.int .i64 0)), (.d (.int .i64 0))] s10 fun v11 s12 =>
  zp 6 v11 v9 s12 fun _ s14 =>
  loadC true 6 v11 s14 fun v15 s16 =>
  ACall P zbx [dm v15] s16 fun v17 s18 =>
  zl false 1 2 (fillV (rep [(.d (.int .u8 0))] 2) [(0, 1, (.d (.int .u8 2))), (1, 1, (.d (.int .u8 3)))]) s18 fun v19 s20 =>
  zG (fillV [(.d (.int .i64 0)), (.d (.int .i64 0)), (.d (.int .u8 0)), (.d (.int .i64 0)), (.d (.int .u8 0)), (.exact [])] [(1, 1, (.d (.int .i64 1))), (4, 1, (.d (.int .u8 1))), (5, 1, v19)]) s20 fun v21 s22 =>
  ACall P zbw [dm v17, dm v21] s22 fun v23 s24 =>
  zH [(.d (.int .i64 0)), (.d (.int .i64 0)), (.d (.int .i64 0)), (.d (.int .i64 0)), (.d (.int .i64 0)), (.exact []), (.exact [])] s24 fun v25 s26 =>
  zp 7 v25 v23 s26 fun _ s28 =>
  zl false 1 1 (fillV (rep [(.d (.int .u8 0))] 1) [(0, 1, (.d (.int .u8 2)))]) s28 fun v29 s30 =>
  zG (fillV [(.d (.int .i64 0)), (.d (.int .i64 0)), (.d (.int .u8 0)), (.d (.int .i64 0)), (.d (.int .u8 0)), (.exact [])] [(1, 1, (.d (.int .i64 1))), (4, 1, (.d (.int .u8 1))), (5, 1, v29)]) s30 fun v31 s32 =>
  ACall P zbw [dm v17, dm v31] s32 fun v33 s34 =>
  zH [(.d (.int .i64 0)), (.d (.int .i64 0)), (.d (.int .i64 0)), (.d (.int .i64 0)), (.d (.int .i64 0)), (.exact []), (.exact [])] s34 fun v35 s36 =>
  zp 7 v35 v33 s36 fun _ s38 =>
  ACall P zew [] s38 fun v39 s40 =>
  nilC v17 s40 fun v41 s42 =>
  zh 0 v41 s42 fun v43 s44 =>
  loadC false 1 v43 s44 fun v45 s46 =>
  nilC v17 s46 fun v47 s48 =>
  zh 1 v47 s48 fun v49 s50 =>
  loadC false 1 v49 s50 fun v51 s52 =>
  loadC true 7 v25 s52 fun v53 s54 =>
  ACall P zaV [dm v45, dm v51, dm (.d (.int .i64 1)), dm v53] s54 fun v55 s56 =>
  zc v55 true (fun k => k v17 s56) s56 (fun v57 s58 =>
  zc v55 true (fun k => nilC v57 s58 k) s58 (fun v59 s60 =>
  zc v55 true (fun k => zh 0 v59 s60 k) s60 (fun v61 s62 =>
  zc v55 true (fun k => loadC false 1 v61 s62 k) s62 (fun v63 s64 =>
  zc v55 true (fun k => k v17 s64) s64 (fun v65 s66 =>
  zc v55 true (fun k => nilC v65 s66 k) s66 (fun v67 s68 =>
  zc v55 true (fun k => zh 1 v67 s68 k) s68 (fun v69 s70 =>
  zc v55 true (fun k => loadC false 1 v69 s70 k) s70 (fun v71 s72 =>
  zc v55 true (fun k => loadC true 7 v35 s72 k) s72 (fun v73 s74 =>
  zc v55 true (fun k => ACall P zaV [dm v63, dm v71, dm (.d (.int .i64 1)), dm v73] s74 k) s74 (fun v75 s76 =>
  zc v55 true (fun k => unC .not v75 s76 k) s76 (fun v77 s78 =>
  pickC v55 v77 (.d (.bool false)) s78 fun v79 s80 =>
  zc v79 true (fun k => k v39 s80) s80 (fun v81 s82 =>
  zc v79 true (fun k => binC .neq .ptr v81 (.d .nilp) s82 k) s82 (fun v83 s84 =>
  pickC v79 v83 (.d (.bool false)) s84 fun v85 s86 =>
  zc v85 true (fun k => k v39 s86) s86 (fun v87 s88 =>
  zc v85 true (fun k => loadC true 7 v25 s88 k) s88 (fun v89 s90 =>
  zc v85 true (fun k => ACall P zbo [dm v87, dm v89] s90 k) s90 (fun v91 s92 =>
  pickC v85 v91 (.d (.bool false)) s92 fun v93 s94 =>
  zc v93 true (fun k => k v39 s94) s94 (fun v95 s96 =>
  zc v93 true (fun k => loadC true 7 v25 s96 k) s96 (fun v97 s98 =>
  zc v93 true (fun k => ACall P zbo [dm v95, dm v97] s98 k) s98 (fun v99 s100 =>
  zc v93 true (fun k => unC .not v99 s100 k) s100 (fun v101 s102 =>
  pickC v93 v101 (.d (.bool false)) s102 fun v103 s104 =>
  zc v103 true (fun k => k v39 s104) s104 (fun v105 s106 =>
  zc v103 true (fun k => ACall P zcb [dm v105] s106 k) s106 (fun v107 s108 =>
  zc v103 true (fun k => binC .eql .plain v107 (.d (.int .i64 1)) s108 k) s108 (fun v109 s110 =>
  pickC v103 v109 (.d (.bool false)) s110 fun v111 s112 =>
  Z (consO (some v111) (some [])) s112)))))))))))))))))))))))
theorem s_l15_live {P : Program} {σ : List AObj} {Z : Option (List AV) → List AObj → Prop} (h : zny P  σ Z) : awp P zkd.body (AtEnd fun fr s => Z (resAs fr s zkd.res) s) (zB 0 []) σ :=
  cast (by kernel_rfl) h
/-- bulla/bullaref12.Check -/
def zmd (P : Program) (x0 : AV) (σ : List AObj) (Z : Option (List AV) → List AObj → Prop) : Prop :=
  binC .lss .plain x0 (.d (.int .i64 1)) σ fun v1 s2 =>
  zc v1 false (fun k => k x0 s2) s2 (fun v3 s4 =>
  zc v1 false (fun k => binC .gtr .plain v3 (.d (.int .i64 4)) s4 k) s4 (fun v5 s6 =>
  pickC v1 (.d (.bool true)) v5 s6 fun v7 s8 =>
  condC v7 (Z (consO (some (.d (.int .i64 120))) (some [])) s8) (Z (consO (some (.d (.int .i64 0))) (some [])) s8)))
theorem s_r12_Check {P : Program} {x0 : AV} {σ : List AObj} {Z : Option (List AV) → List AObj → Prop} (h : zmd P x0 σ Z) : awp P zhX.body (AtEnd fun fr s => Z (resAs fr s zhX.res) s) (zB 0 [x0]) σ :=
  cast (by kernel_rfl) h
/-- (bulla/bullalaw15.Case).begun -/
def zfN (P : Program) (x0 : AV) (σ : List AObj) (Z : Option (List AV) → List AObj → Prop) : Prop :=
  boxC x0 σ fun v1 s2 =>
  ACall P zbX [] s2 fun v3 s4 =>
  ACall P zbL [] s4 fun v5 s6 =>
  zG (fillV [(.exact [])] []) s6 fun v7 s8 =>
  boxC v7 s8 fun v9 s10 =>
  zG (fillV [(.exact [])] []) s10 fun v11 s12 =>
  boxC v11 s12 fun v13 s14 =>
  zG (fillV [(.d .nilp), (.d .nilp), (.d .nilp), (.d .nilp), (.exact []), (.exact []), (.exact [])] [(0, 1, v3), (1, 1, v5), (2, 1, v9), (3, 1, v13)]) s14 fun v15 s16 =>
  boxC v15 s16 fun v17 s18 =>
  zl false 1 1 (fillV (rep [(.exact [])] 1) [(0, 1, (.exact []))]) s18 fun v19 s20 =>
  zh 1 v1 s20 fun v21 s22 =>
  loadC false 1 v21 s22 fun v23 s24 =>
  zt 1 24 v19 v23 s24 fun v25 s26 =>
  lenC .sl v25 s26 fun v27 s28 =>
  loopC [(.d (.int .i64 0))] s28 fun vs29 s30 again31 =>
  headC vs29 fun v32 vs33 =>
  binC .lss .plain v32 v27 s30 fun v34 s35 =>
  condC v34 (zr none 1 v25 v32 s35 fun v36 s37 =>
  loadC false 1 v36 s37 fun v38 s39 =>
  lenC .sl v38 s39 fun v40 s41 =>
  loopC [(.exact []), (.d (.int .i64 0))] s41 fun vs42 s43 again44 =>
  headC vs42 fun v45 vs46 =>
  headC vs46 fun v47 vs48 =>
  binC .lss .plain v47 v40 s43 fun v49 s50 =>
  condC v49 ((fun (k51 : AV → List AObj → Prop) => zr none 7 v38 v47 s50 fun v56 s57 =>
  loadC true 7 v56 s57 fun v58 s59 =>
  zH [(.d (.int .i64 0)), (.d (.int .i64 0)), (.d (.int .i64 0)), (.d (.str [])), (.d (.str [])), (.d (.int .i64 0)), (.exact [])] s59 fun v60 s61 =>
  zp 7 v60 v58 s61 fun _ s63 =>
  nilC v17 s63 fun v64 s65 =>
  zh 2 v64 s65 fun v66 s67 =>
  loadC false 1 v66 s67 fun v68 s69 =>
  nilC v17 s69 fun v70 s71 =>
  zh 3 v70 s71 fun v72 s73 =>
  loadC false 1 v72 s73 fun v74 s75 =>
  loadC true 7 v60 s75 fun v76 s77 =>
  (fun (k78 : AV → AV → List AObj → Prop) => (ACall P zgR [dm v68, dm v74, dm v76] s77 fun v90 s91 =>
  zi v90 0 s91 fun v92 s93 =>
  zi v90 1 s93 fun v94 s95 =>
  zH [(.d (.int .i64 0)), (.d (.int .i64 0)), (.d (.int .i64 0)), (.d (.str [])), (.d (.str [])), (.d (.int .i64 0)), (.exact []), (.d (.int .i64 0)), (.d (.int .i64 0))] s95 fun v96 s97 =>
  zp 9 v96 v92 s97 fun _ s99 =>
  k78 v96 v94 s99) ∧
  (zH [(.d (.int .i64 0)), (.d (.int .i64 0)), (.d (.int .i64 0)), (.d (.str [])), (.d (.str [])), (.d (.int .i64 0)), (.exact []), (.d (.int .i64 0)), (.d (.int .i64 0))] s77 fun v100 s101 =>
  keepO v66 s77 s101 ∧ (keepO v72 s77 s101 ∧ (keepO v60 s77 s101 ∧ (ACall P zgR [dm v68, dm v74, dm v76] s101 fun v102 s103 =>
  zi v102 0 s103 fun v104 s105 =>
  zi v102 1 s105 fun v106 s107 =>
  zp 9 v100 v104 s107 fun _ s109 =>
  k78 v100 v106 s109)))))
  (fun v79 v80 s81 => binC .eql .plain v80 (.d (.int .i64 0)) s81 fun v82 s83 =>
  condC v82 (loadC true 9 v79 s83 fun v84 s85 =>
  zl false 9 1 (fillV (rep [(.d (.int .i64 0)), (.d (.int .i64 0)), (.d (.int .i64 0)), (.d (.str [])), (.d (.str [])), (.d (.int .i64 0)), (.exact []), (.d (.int .i64 0)), (.d (.int .i64 0))] 1) [(0, 9, v84)]) s85 fun v86 s87 =>
  zt 9 104 v45 v86 s87 fun v88 s89 =>
  k51 v88 s89) (k51 v45 s83)))
  (fun v52 s53 => binC .add .plain v47 (.d (.int .i64 1)) s53 fun v54 s55 =>
  again44 [v52, v54] s55)) (nilC v17 s50 fun v110 s111 =>
  zh 2 v110 s111 fun v112 s113 =>
  loadC false 1 v112 s113 fun v114 s115 =>
  ACall P zgc [dm v114, dm v45] s115 fun v116 s117 =>
  zi v116 0 s117 fun v118 s119 =>
  zi v116 1 s119 fun v120 s121 =>
  nilC v17 s121 fun v122 s123 =>
  zh 4 v122 s123 fun v124 s125 =>
  loadC false 1 v124 s125 fun v126 s127 =>
  zl false 1 1 (fillV (rep [(.exact [])] 1) [(0, 1, v45)]) s127 fun v128 s129 =>
  nilC v17 s129 fun v130 s131 =>
  zh 5 v130 s131 fun v132 s133 =>
  loadC false 1 v132 s133 fun v134 s135 =>
  zl false 1 1 (fillV (rep [(.d (.int .i64 0))] 1) [(0, 1, v118)]) s135 fun v136 s137 =>
  zt 1 24 v126 v128 s137 fun v138 s139 =>
  keepO v132 s137 s139 ∧ (zt 1 8 v134 v136 s139 fun v140 s141 =>
  nilC v17 s141 fun v142 s143 =>
  zh 4 v142 s143 fun v144 s145 =>
  zp 1 v144 v138 s145 fun _ s147 =>
  nilC v17 s147 fun v148 s149 =>
  zh 5 v148 s149 fun v150 s151 =>
  zp 1 v150 v140 s151 fun _ s153 =>
  binC .add .plain v32 (.d (.int .i64 1)) s153 fun v154 s155 =>
  again31 [v154] s155))) (zG (fillV [(.d (.int .i64 0)), (.d (.int .i64 0))] []) s35 fun v156 s157 =>
  zl false 2 1 (fillV (rep [(.d (.int .i64 0)), (.d (.int .i64 0))] 1) [(0, 2, v156)]) s157 fun v158 s159 =>
  nilC v17 s159 fun v160 s161 =>
  zh 6 v160 s161 fun v162 s163 =>
  zp 1 v162 v158 s163 fun _ s165 =>
  zh 2 v1 s165 fun v166 s167 =>
  loadC false 1 v166 s167 fun v168 s169 =>
  lenC .sl v168 s169 fun v170 s171 =>
  loopC [(.d (.int .i64 0))] s171 fun vs172 s173 again174 =>
  headC vs172 fun v175 vs176 =>
  binC .lss .plain v175 v170 s173 fun v177 s178 =>
  condC v177 (zr none 5 v168 v175 s178 fun v179 s180 =>
  loadC true 5 v179 s180 fun v181 s182 =>
  zH [(.d (.int .i64 0)), (.d (.int .i64 0)), (.d (.int .i64 0)), (.d (.int .i64 0)), (.d (.int .u8 0))] s182 fun v183 s184 =>
  zp 5 v183 v181 s184 fun _ s186 =>
  nilC v17 s186 fun v187 s188 =>
  zh 5 v187 s188 fun v189 s190 =>
  loadC false 1 v189 s190 fun v191 s192 =>
  zh 4 v183 s192 fun v193 s194 =>
  loadC false 1 v193 s194 fun v195 s196 =>
  convC (.int .i64) v195 s196 fun v197 s198 =>
  nilC v17 s198 fun v199 s200 =>
  zh 5 v199 s200 fun v201 s202 =>
  loadC false 1 v201 s202 fun v203 s204 =>
  lenC .sl v203 s204 fun v205 s206 =>
  binC .rem .plain v197 v205 s206 fun v207 s208 =>
  zr none 1 v191 v207 s208 fun v209 s210 =>
  loadC false 1 v209 s210 fun v211 s212 =>
  nilC v17 s212 fun v213 s214 =>
  zh 2 v213 s214 fun v215 s216 =>
  loadC false 1 v215 s216 fun v217 s218 =>
  nilC v17 s218 fun v219 s220 =>
  zh 3 v219 s220 fun v221 s222 =>
  loadC false 1 v221 s222 fun v223 s224 =>
  zh 0 v183 s224 fun v225 s226 =>
  loadC false 1 v225 s226 fun v227 s228 =>
  zh 1 v183 s228 fun v229 s230 =>
  loadC false 1 v229 s230 fun v231 s232 =>
  zh 2 v183 s232 fun v233 s234 =>
  loadC false 1 v233 s234 fun v235 s236 =>
  zh 3 v183 s236 fun v237 s238 =>
  loadC false 1 v237 s238 fun v239 s240 =>
  (fun (k241 : AV → List AObj → Prop) => (ACall P zgQ [dm v217, dm v223, dm v227, dm v231, dm v235, dm v239, dm v211] s240 fun v264 s265 =>
  zi v264 0 s265 fun v266 s267 =>
  zi v264 1 s267 fun v268 s269 =>
  zH [(.d (.int .i64 0)), (.d (.int .i64 0))] s269 fun v270 s271 =>
  zp 2 v270 v266 s271 fun _ s273 =>
  k241 v270 s273) ∧
  (zH [(.d (.int .i64 0)), (.d (.int .i64 0))] s240 fun v274 s275 =>
  keepO v215 s240 s275 ∧ (keepO v221 s240 s275 ∧ (keepO v225 s240 s275 ∧ (keepO v229 s240 s275 ∧ (keepO v233 s240 s275 ∧ (keepO v237 s240 s275 ∧ (ACall P zgQ [dm v217, dm v223, dm v227, dm v231, dm v235, dm v239, dm v211] s275 fun v276 s277 =>
  zi v276 0 s277 fun v278 s279 =>
  zi v276 1 s279 fun v280 s281 =>
  zp 2 v274 v278 s281 fun _ s283 =>
  k241 v274 s283))))))))
  (fun v242 s243 => nilC v17 s243 fun v244 s245 =>
  zh 6 v244 s245 fun v246 s247 =>
  loadC false 1 v246 s247 fun v248 s249 =>
  loadC true 2 v242 s249 fun v250 s251 =>
  zl false 2 1 (fillV (rep [(.d (.int .i64 0)), (.d (.int .i64 0))] 1) [(0, 2, v250)]) s251 fun v252 s253 =>
  zt 2 16 v248 v252 s253 fun v254 s255 =>
  nilC v17 s255 fun v256 s257 =>
  zh 6 v256 s257 fun v258 s259 =>
  zp 1 v258 v254 s259 fun _ s261 =>
  binC .add .plain v175 (.d (.int .i64 1)) s261 fun v262 s263 =>
  again174 [v262] s263)) (nilC v17 s178 fun v284 s285 =>
  zh 2 v284 s285 fun v286 s287 =>
  loadC false 1 v286 s287 fun v288 s289 =>
  nilC v288 s289 fun v290 s291 =>
  zh 0 v290 s291 fun v292 s293 =>
  loadC false 1 v292 s293 fun v294 s295 =>
  lenC .sl v294 s295 fun v296 s297 =>
  loopC [(.d (.int .i64 0))] s297 fun vs298 s299 again300 =>
  headC vs298 fun v301 vs302 =>
  binC .lss .plain v301 v296 s299 fun v303 s304 =>
  condC v303 (zr none 1 v294 v301 s304 fun v305 s306 =>
  loadC false 1 v305 s306 fun v307 s308 =>
  nilC v17 s308 fun v309 s310 =>
  zh 0 v309 s310 fun v311 s312 =>
  loadC false 1 v311 s312 fun v313 s314 =>
  ACall P zbK [dm v313, dm v307] s314 fun v315 s316 =>
  binC .add .plain v301 (.d (.int .i64 1)) s316 fun v317 s318 =>
  again300 [v317] s318) (nilC v17 s304 fun v319 s320 =>
  zh 3 v319 s320 fun v321 s322 =>
  loadC false 1 v321 s322 fun v323 s324 =>
  nilC v323 s324 fun v325 s326 =>
  zh 0 v325 s326 fun v327 s328 =>
  loadC false 1 v327 s328 fun v329 s330 =>
  lenC .sl v329 s330 fun v331 s332 =>
  loopC [(.d (.int .i64 0))] s332 fun vs333 s334 again335 =>
  headC vs333 fun v336 vs337 =>
  binC .lss .plain v336 v331 s334 fun v338 s339 =>
  condC v338 (zr none 2 v329 v336 s339 fun v340 s341 =>
  loadC true 2 v340 s341 fun v342 s343 =>
  zH [(.d (.int .i64 0)), (.d (.int .i64 0))] s343 fun v344 s345 =>
  zp 2 v344 v342 s345 fun _ s347 =>
  nilC v17 s347 fun v348 s349 =>
  zh 1 v348 s349 fun v350 s351 =>
  loadC false 1 v350 s351 fun v352 s353 =>
  zh 0 v344 s353 fun v354 s355 =>
  loadC false 1 v354 s355 fun v356 s357 =>
  zh 1 v344 s357 fun v358 s359 =>
  loadC false 1 v358 s359 fun v360 s361 =>
  ACall P zbq [dm v352, dm v356, dm v360] s361 fun v362 s363 =>
  binC .add .plain v336 (.d (.int .i64 1)) s363 fun v364 s365 =>
  again335 [v364] s365) (Z (consO (some v17) (some [])) s339))))
theorem zkL {P : Program} {x0 : AV} {σ : List AObj} {Z : Option (List AV) → List AObj → Prop} (h : zfN P x0 σ Z) : awp P zdt.body (AtEnd fun fr s => Z (resAs fr s zdt.res) s) (zB 0 [x0]) σ :=
  cast (by kernel_rfl) h
/-- (*bulla/bullalaw15.stage).made -/
def zfM (P : Program) (x0 x1 : AV) (σ : List AObj) (Z : Option (List AV) → List AObj → Prop) : Prop :=
  boxC x1 σ fun v1 s2 =>
  zH [(.d (.int .i64 0)), (.d (.int .i64 0)), (.d (.int .i64 0)), (.d (.int .i64 0)), (.d (.int .i64 0)), (.exact []), (.exact [])] s2 fun v3 s4 =>
  zh 2 v1 s4 fun v5 s6 =>
  loadC false 1 v5 s6 fun v7 s8 =>
  convC (.int .i64) v7 s8 fun v9 s10 =>
  nilC x0 s10 fun v11 s12 =>
  zh 4 v11 s12 fun v13 s14 =>
  loadC false 1 v13 s14 fun v15 s16 =>
  lenC .sl v15 s16 fun v17 s18 =>
  binC .rem .plain v9 v17 s18 fun v19 s20 =>
  zh 0 v1 s20 fun v21 s22 =>
  loadC false 1 v21 s22 fun v23 s24 =>
  zh 1 v1 s24 fun v25 s26 =>
  loadC false 1 v25 s26 fun v27 s28 =>
  zh 3 v1 s28 fun v29 s30 =>
  loadC false 1 v29 s30 fun v31 s32 =>
  nilC x0 s32 fun v33 s34 =>
  zh 4 v33 s34 fun v35 s36 =>
  loadC false 1 v35 s36 fun v37 s38 =>
  zr none 1 v37 v19 s38 fun v39 s40 =>
  loadC false 1 v39 s40 fun v41 s42 =>
  nilC x0 s42 fun v43 s44 =>
  zh 6 v43 s44 fun v45 s46 =>
  loadC false 1 v45 s46 fun v47 s48 =>
  zh 4 v1 s48 fun v49 s50 =>
  loadC false 1 v49 s50 fun v51 s52 =>
  convC (.int .i64) v51 s52 fun v53 s54 =>
  nilC x0 s54 fun v55 s56 =>
  zh 6 v55 s56 fun v57 s58 =>
  loadC false 1 v57 s58 fun v59 s60 =>
  lenC .sl v59 s60 fun v61 s62 =>
  binC .rem .plain v53 v61 s62 fun v63 s64 =>
  zr none 2 v47 v63 s64 fun v65 s66 =>
  loadC true 2 v65 s66 fun v67 s68 =>
  zG (fillV [(.d (.int .i64 0)), (.d (.int .i64 0)), (.d (.int .i64 0)), (.d (.int .i64 0)), (.d (.int .i64 0)), (.exact []), (.exact [])] [(0, 1, v23), (1, 1, v27), (2, 1, v31), (6, 1, v41), (3, 2, v67)]) s68 fun v69 s70 =>
  zH [(.d (.int .i64 0)), (.d (.int .i64 0)), (.d (.int .i64 0)), (.d (.int .i64 0)), (.d (.int .i64 0)), (.exact []), (.exact [])] s70 fun v71 s72 =>
  keepO v21 s70 s72 ∧ (keepO v25 s70 s72 ∧ (keepO v29 s70 s72 ∧ (keepO v35 s70 s72 ∧ (keepO v39 s70 s72 ∧ (keepO v45 s70 s72 ∧ (keepO v49 s70 s72 ∧ (keepO v57 s70 s72 ∧ (keepO v65 s70 s72 ∧ (zp 7 v71 v69 s72 fun _ s74 =>
  (fun (k75 : List AObj → Prop) => zh 2 v71 s74 fun v134 s135 =>
  loadC false 1 v134 s135 fun v136 s137 =>
  binC .eql .plain v136 (.d (.int .i64 0)) s137 fun v138 s139 =>
  condC v138 (nilC x0 s139 fun v140 s141 =>
  zh 5 v140 s141 fun v142 s143 =>
  loadC false 1 v142 s143 fun v144 s145 =>
  zr none 1 v144 v19 s145 fun v146 s147 =>
  loadC false 1 v146 s147 fun v148 s149 =>
  zh 2 v71 s149 fun v150 s151 =>
  zp 1 v150 v148 s151 fun _ s153 =>
  k75 s153) (k75 s139))
  (fun  s76 => zh 5 v1 s76 fun v77 s78 =>
  loadC false 1 v77 s78 fun v79 s80 =>
  lenC .sl v79 s80 fun v81 s82 =>
  loopC [(.d (.int .i64 0))] s82 fun vs83 s84 again85 =>
  headC vs83 fun v86 vs87 =>
  binC .lss .plain v86 v81 s84 fun v88 s89 =>
  condC v88 (zr none 1 v79 v86 s89 fun v90 s91 =>
  loadC false 1 v90 s91 fun v92 s93 =>
  zh 5 v71 s93 fun v94 s95 =>
  loadC false 1 v94 s95 fun v96 s97 =>
  nilC x0 s97 fun v98 s99 =>
  zh 6 v98 s99 fun v100 s101 =>
  loadC false 1 v100 s101 fun v102 s103 =>
  convC (.int .i64) v92 s103 fun v104 s105 =>
  nilC x0 s105 fun v106 s107 =>
  zh 6 v106 s107 fun v108 s109 =>
  loadC false 1 v108 s109 fun v110 s111 =>
  lenC .sl v110 s111 fun v112 s113 =>
  binC .rem .plain v104 v112 s113 fun v114 s115 =>
  zr none 2 v102 v114 s115 fun v116 s117 =>
  loadC true 2 v116 s117 fun v118 s119 =>
  zl false 2 1 (fillV (rep [(.d (.int .i64 0)), (.d (.int .i64 0))] 1) [(0, 2, v118)]) s119 fun v120 s121 =>
  zt 2 16 v96 v120 s121 fun v122 s123 =>
  zh 5 v71 s123 fun v124 s125 =>
  zp 1 v124 v122 s125 fun _ s127 =>
  binC .add .plain v86 (.d (.int .i64 1)) s127 fun v128 s129 =>
  again85 [v128] s129) (loadC true 7 v71 s89 fun v130 s131 =>
  zp 7 v3 v130 s131 fun _ s133 =>
  Z (consO (cellA v3 s133 true 7) (some [])) s133)))))))))))
theorem zkK {P : Program} {x0 x1 : AV} {σ : List AObj} {Z : Option (List AV) → List AObj → Prop} (h : zfM P x0 x1 σ Z) : awp P zds.body (AtEnd fun fr s => Z (resAs fr s zds.res) s) (zB 0 [x0, x1]) σ :=
  cast (by kernel_rfl) h
end Go.Proofs.YtcappjcojggehaaGreat
