/- The conditions of each function, its slots as variables, and that the logic's conditions are these. Printed by program. -/
import Derived.Test.YthmdpooklflkfaaAf1
set_option linter.all false
set_option maxRecDepth 100000
set_option linter.unusedVariables false
namespace Go.Proofs.Ythmdpooklflkfaa
open Go.AW
/-- bulla/bullalaw08.RequestSeals -/
def zdw (P : Program) (x0 x1 x2 : AV) (σ : List AObj) (Z : Option (List AV) → List AObj → Prop) : Prop :=
  boxC x1 σ fun v1 s2 =>
  ACall P zaP [] s2 fun v3 s4 =>
  ACall P zaM [] s4 fun v5 s6 =>
  zA (fillV [(.exact [])] []) s6 fun v7 s8 =>
  boxC v7 s8 fun v9 s10 =>
  zA (fillV [(.exact [])] []) s10 fun v11 s12 =>
  boxC v11 s12 fun v13 s14 =>
  ACall P zgd [] s14 fun v15 s16 =>
  unC .not v15 s16 fun v17 s18 =>
  condC v17 (Z (consO (some (.d (.bool false))) (some [])) s18) (lenC .sl x0 s18 fun v19 s20 =>
  loopC [(.exact []), (.d (.int .i64 0))] s20 fun vs21 s22 again23 =>
  headC vs21 fun v24 vs25 =>
  headC vs25 fun v26 vs27 =>
  binC .lss .plain v26 v19 s22 fun v28 s29 =>
  condC v28 ((fun (k30 : AV → List AObj → Prop) => zy none 7 x0 v26 s29 fun v35 s36 =>
  loadC true 7 v35 s36 fun v37 s38 =>
  zC [(.d (.int .i64 0)), (.d (.int .i64 0)), (.d (.int .i64 0)), (.d (.str [])), (.d (.str [])), (.d (.int .i64 0)), (.exact [])] s38 fun v39 s40 =>
  zx 7 v39 v37 s40 fun _ s42 =>
  loadC true 7 v39 s42 fun v43 s44 =>
  ACall P zbK [dm v3, dm v5, dm v43] s44 fun v45 s46 =>
  zd v45 0 s46 fun v47 s48 =>
  zd v45 1 s48 fun v49 s50 =>
  zC [(.d (.int .i64 0)), (.d (.int .i64 0)), (.d (.int .i64 0)), (.d (.str [])), (.d (.str [])), (.d (.int .i64 0)), (.exact []), (.d (.int .i64 0)), (.d (.int .i64 0))] s50 fun v51 s52 =>
  zx 9 v51 v47 s52 fun _ s54 =>
  loadC true 7 v39 s54 fun v55 s56 =>
  ACall P zhu [dm v9, dm v13, dm v55] s56 fun v57 s58 =>
  zd v57 0 s58 fun v59 s60 =>
  zd v57 1 s60 fun v61 s62 =>
  zC [(.d (.int .i64 0)), (.d (.int .i64 0)), (.d (.int .i64 0)), (.d (.str [])), (.d (.str [])), (.d (.int .i64 0)), (.exact []), (.d (.int .i64 0)), (.d (.int .i64 0))] s62 fun v63 s64 =>
  zx 9 v63 v59 s64 fun _ s66 =>
  binC .neq .plain v49 v61 s66 fun v67 s68 =>
  zI v67 false (fun k => loadC true 9 v51 s68 k) s68 (fun v69 s70 =>
  zI v67 false (fun k => zf false 9 1 (fillV (rep [(.d (.int .i64 0)), (.d (.int .i64 0)), (.d (.int .i64 0)), (.d (.str [])), (.d (.str [])), (.d (.int .i64 0)), (.exact []), (.d (.int .i64 0)), (.d (.int .i64 0))] 1) [(0, 9, v69)]) s70 k) s70 (fun v71 s72 =>
  zI v67 false (fun k => loadC true 9 v63 s72 k) s72 (fun v73 s74 =>
  zI v67 false (fun k => zf false 9 1 (fillV (rep [(.d (.int .i64 0)), (.d (.int .i64 0)), (.d (.int .i64 0)), (.d (.str [])), (.d (.str [])), (.d (.int .i64 0)), (.exact []), (.d (.int .i64 0)), (.d (.int .i64 0))] 1) [(0, 9, v73)]) s74 k) s74 (fun v75 s76 =>
  zI v67 false (fun k => ACall P zhv [dm v71, dm v75] s76 k) s76 (fun v77 s78 =>
  zI v67 false (fun k => unC .not v77 s78 k) s78 (fun v79 s80 =>
  pickC v67 (.d (.bool true)) v79 s80 fun v81 s82 =>
  condC v81 (Z (consO (some (.d (.bool false))) (some [])) s82) (binC .eql .plain v49 (.d (.int .i64 0)) s82 fun v83 s84 =>
  condC v83 (loadC true 9 v51 s84 fun v85 s86 =>
  zf false 9 1 (fillV (rep [(.d (.int .i64 0)), (.d (.int .i64 0)), (.d (.int .i64 0)), (.d (.str [])), (.d (.str [])), (.d (.int .i64 0)), (.exact []), (.d (.int .i64 0)), (.d (.int .i64 0))] 1) [(0, 9, v85)]) s86 fun v87 s88 =>
  zo 9 104 v24 v87 s88 fun v89 s90 =>
  k30 v89 s90) (k30 v24 s84)))))))))
  (fun v31 s32 => binC .add .plain v26 (.d (.int .i64 1)) s32 fun v33 s34 =>
  again23 [v31, v33] s34)) ((fun (k91 : AV → List AObj → Prop) => lenC .sl x2 s29 fun v146 s147 =>
  binC .eql .plain v146 (.d (.int .i64 0)) s147 fun v148 s149 =>
  condC v148 (lenC .sl v24 s149 fun v150 s151 =>
  minC [v150, (.d (.int .i64 4))] s151 fun v152 s153 =>
  slcC (.sl 9) v24 none (some v152) none s153 fun v154 s155 =>
  k91 v154 s155) (k91 x2 s149))
  (fun v92 s93 => loadC true 9 v1 s93 fun v94 s95 =>
  loadC true 9 v1 s95 fun v96 s97 =>
  ACall P zaR [dm v3, dm v5, dm v94] s97 fun v98 s99 =>
  keepO v1 s97 s99 ∧ (ACall P zef [dm v9, dm v13, dm v96] s99 fun v100 s101 =>
  binC .neq .bool v98 v100 s101 fun v102 s103 =>
  zI v102 false (fun k => k v3 s103) s103 (fun v104 s105 =>
  zI v102 false (fun k => k v5 s105) s105 (fun v106 s107 =>
  zI v102 false (fun k => k v92 s107) s107 (fun v108 s109 =>
  zI v102 false (fun k => k v9 s109) s109 (fun v110 s111 =>
  zI v102 false (fun k => k v13 s111) s111 (fun v112 s113 =>
  zI v102 false (fun k => k v92 s113) s113 (fun v114 s115 =>
  zI v102 false (fun k => ACall P zbD [dm v104, dm v106, dm v108] s115 k) s115 (fun v116 s117 =>
  zI v102 false (fun k => ACall P zcK [dm v110, dm v112, dm v114] s117 k) s117 (fun v118 s119 =>
  zI v102 false (fun k => binC .neq .bool v116 v118 s119 k) s119 (fun v120 s121 =>
  pickC v102 (.d (.bool true)) v120 s121 fun v122 s123 =>
  condC v122 (Z (consO (some (.d (.bool false))) (some [])) s123) (ACall P zbM [dm v3, dm v92] s123 fun v124 s125 =>
  zd v124 0 s125 fun v126 s127 =>
  zd v124 1 s127 fun v128 s129 =>
  ACall P zeL [dm v9, dm v92] s129 fun v130 s131 =>
  zd v130 0 s131 fun v132 s133 =>
  zd v130 1 s133 fun v134 s135 =>
  binC .eql .plain v126 v132 s135 fun v136 s137 =>
  zI v136 true (fun k => k v128 s137) s137 (fun v138 s139 =>
  zI v136 true (fun k => k v134 s139) s139 (fun v140 s141 =>
  zI v136 true (fun k => binC .eql .plain v138 v140 s141 k) s141 (fun v142 s143 =>
  pickC v136 v142 (.d (.bool false)) s143 fun v144 s145 =>
  Z (consO (some v144) (some [])) s145)))))))))))))))))
theorem zgD {P : Program} {x0 x1 x2 : AV} {σ : List AObj} {Z : Option (List AV) → List AObj → Prop} (h : zdw P x0 x1 x2 σ Z) : awp P zcl.body (AtEnd fun fr s => Z (resAs fr s zcl.res) s) (zW 0 [x0, x1, x2]) σ :=
  cast (by kernel_rfl) h
/-- bulla/bullalaw08.begun -/
def zjI (P : Program) (σ : List AObj) (Z : Option (List AV) → List AObj → Prop) : Prop :=
  ACall P zaP [] σ fun v1 s2 =>
  ACall P zaM [] s2 fun v3 s4 =>
  ACall P zeM [] s4 fun v5 s6 =>
  ACall P zbK [dm v1, dm v3, dm v5] s6 fun v7 s8 =>
  zd v7 0 s8 fun v9 s10 =>
  zd v7 1 s10 fun v11 s12 =>
  zC [(.d (.int .i64 0)), (.d (.int .i64 0)), (.d (.int .i64 0)), (.d (.str [])), (.d (.str [])), (.d (.int .i64 0)), (.exact []), (.d (.int .i64 0)), (.d (.int .i64 0))] s12 fun v13 s14 =>
  zx 9 v13 v9 s14 fun _ s16 =>
  loadC true 9 v13 s16 fun v17 s18 =>
  zC [(.d (.int .i64 0)), (.d (.int .i64 0)), (.d (.int .i64 0)), (.d (.str [])), (.d (.str [])), (.d (.int .i64 0)), (.exact []), (.d (.int .i64 0)), (.d (.int .i64 0))] s18 fun v19 s20 =>
  zx 9 v19 v17 s20 fun _ s22 =>
  zm 0 v19 s22 fun v23 s24 =>
  zm 0 v23 s24 fun v25 s26 =>
  zx 1 v25 (.d (.int .i64 3)) s26 fun _ s28 =>
  binC .eql .plain v11 (.d (.int .i64 0)) s28 fun v29 s30 =>
  zI v29 true (fun k => zm 7 v13 s30 k) s30 (fun v31 s32 =>
  zI v29 true (fun k => loadC true 2 v31 s32 k) s32 (fun v33 s34 =>
  zI v29 true (fun k => zA (fillV [(.d (.int .i64 0)), (.d (.int .i64 0))] [(0, 1, (.d (.int .i64 15))), (1, 1, (.d (.int .i64 1)))]) s34 k) s34 (fun v35 s36 =>
  zI v29 true (fun k => binC .eql (.ints 2) v33 v35 s36 k) s36 (fun v37 s38 =>
  pickC v29 v37 (.d (.bool false)) s38 fun v39 s40 =>
  zI v39 true (fun k => k v1 s40) s40 (fun v41 s42 =>
  zI v39 true (fun k => k v3 s42) s42 (fun v43 s44 =>
  zI v39 true (fun k => loadC true 9 v13 s44 k) s44 (fun v45 s46 =>
  zI v39 true (fun k => ACall P zaR [dm v41, dm v43, dm v45] s46 k) s46 (fun v47 s48 =>
  pickC v39 v47 (.d (.bool false)) s48 fun v49 s50 =>
  zI v49 true (fun k => k v1 s50) s50 (fun v51 s52 =>
  zI v49 true (fun k => k v3 s52) s52 (fun v53 s54 =>
  zI v49 true (fun k => loadC true 9 v19 s54 k) s54 (fun v55 s56 =>
  zI v49 true (fun k => ACall P zaR [dm v51, dm v53, dm v55] s56 k) s56 (fun v57 s58 =>
  zI v49 true (fun k => unC .not v57 s58 k) s58 (fun v59 s60 =>
  pickC v49 v59 (.d (.bool false)) s60 fun v61 s62 =>
  Z (consO (some v61) (some [])) s62)))))))))))))
theorem s_l08_begun {P : Program} {σ : List AObj} {Z : Option (List AV) → List AObj → Prop} (h : zjI P  σ Z) : awp P zgz.body (AtEnd fun fr s => Z (resAs fr s zgz.res) s) (zW 0 []) σ :=
  cast (by kernel_rfl) h
/-- bulla/request.Check -/
def zfe (P : Program) (x0 : AV) (σ : List AObj) (Z : Option (List AV) → List AObj → Prop) : Prop :=
  boxC x0 σ fun v1 s2 =>
  zm 0 v1 s2 fun v3 s4 =>
  loadC false 1 v3 s4 fun v5 s6 =>
  binC .lss .plain v5 (.d (.int .i64 0)) s6 fun v7 s8 =>
  zI v7 false (fun k => zm 0 v1 s8 k) s8 (fun v9 s10 =>
  zI v7 false (fun k => loadC false 1 v9 s10 k) s10 (fun v11 s12 =>
  zI v7 false (fun k => binC .geq .plain v11 (.d (.int .i64 8)) s12 k) s12 (fun v13 s14 =>
  pickC v7 (.d (.bool true)) v13 s14 fun v15 s16 =>
  zI v15 false (fun k => zm 1 v1 s16 k) s16 (fun v17 s18 =>
  zI v15 false (fun k => loadC false 1 v17 s18 k) s18 (fun v19 s20 =>
  zI v15 false (fun k => binC .lss .plain v19 (.d (.int .i64 1)) s20 k) s20 (fun v21 s22 =>
  pickC v15 (.d (.bool true)) v21 s22 fun v23 s24 =>
  zI v23 false (fun k => zm 1 v1 s24 k) s24 (fun v25 s26 =>
  zI v23 false (fun k => loadC false 1 v25 s26 k) s26 (fun v27 s28 =>
  zI v23 false (fun k => binC .gtr .plain v27 (.d (.int .i64 9007199254740992)) s28 k) s28 (fun v29 s30 =>
  pickC v23 (.d (.bool true)) v29 s30 fun v31 s32 =>
  condC v31 (Z (consO (some (.d (.int .i64 80))) (some [])) s32) (zm 2 v1 s32 fun v33 s34 =>
  loadC true 5 v33 s34 fun v35 s36 =>
  ACall P zfw [dm v35] s36 fun v37 s38 =>
  Z (consO (some v37) (some [])) s38))))))))))
theorem ziX {P : Program} {x0 : AV} {σ : List AObj} {Z : Option (List AV) → List AObj → Prop} (h : zfe P x0 σ Z) : awp P zdk.body (AtEnd fun fr s => Z (resAs fr s zdk.res) s) (zW 0 [x0]) σ :=
  cast (by kernel_rfl) h
/-- bulla/bullaref08.Check -/
def zjC (P : Program) (x0 : AV) (σ : List AObj) (Z : Option (List AV) → List AObj → Prop) : Prop :=
  boxC x0 σ fun v1 s2 =>
  zm 0 v1 s2 fun v3 s4 =>
  loadC false 1 v3 s4 fun v5 s6 =>
  ACall P zdN [dm v5] s6 fun v7 s8 =>
  binC .lss .plain v7 (.d (.int .i64 0)) s8 fun v9 s10 =>
  zI v9 false (fun k => zm 1 v1 s10 k) s10 (fun v11 s12 =>
  zI v9 false (fun k => loadC false 1 v11 s12 k) s12 (fun v13 s14 =>
  zI v9 false (fun k => binC .lss .plain v13 (.d (.int .i64 1)) s14 k) s14 (fun v15 s16 =>
  pickC v9 (.d (.bool true)) v15 s16 fun v17 s18 =>
  zI v17 false (fun k => zm 1 v1 s18 k) s18 (fun v19 s20 =>
  zI v17 false (fun k => loadC false 1 v19 s20 k) s20 (fun v21 s22 =>
  zI v17 false (fun k => binC .gtr .plain v21 (.d (.int .i64 9007199254740992)) s22 k) s22 (fun v23 s24 =>
  pickC v17 (.d (.bool true)) v23 s24 fun v25 s26 =>
  condC v25 (Z (consO (some (.d (.int .i64 80))) (some [])) s26) (zm 2 v1 s26 fun v27 s28 =>
  loadC true 5 v27 s28 fun v29 s30 =>
  ACall P zei [dm v29] s30 fun v31 s32 =>
  Z (consO (some v31) (some [])) s32)))))))
theorem s_r08_Check {P : Program} {x0 : AV} {σ : List AObj} {Z : Option (List AV) → List AObj → Prop} (h : zjC P x0 σ Z) : awp P zgt.body (AtEnd fun fr s => Z (resAs fr s zgt.res) s) (zW 0 [x0]) σ :=
  cast (by kernel_rfl) h
/-- bulla/request.CheckSign -/
def zdd (P : Program) (x0 : AV) (σ : List AObj) (Z : Option (List AV) → List AObj → Prop) : Prop :=
  boxC x0 σ fun v1 s2 =>
  zm 0 v1 s2 fun v3 s4 =>
  loadC false 1 v3 s4 fun v5 s6 =>
  binC .lss .plain v5 (.d (.int .i64 0)) s6 fun v7 s8 =>
  zI v7 false (fun k => zm 0 v1 s8 k) s8 (fun v9 s10 =>
  zI v7 false (fun k => loadC false 1 v9 s10 k) s10 (fun v11 s12 =>
  zI v7 false (fun k => binC .geq .plain v11 (.d (.int .i64 21)) s12 k) s12 (fun v13 s14 =>
  pickC v7 (.d (.bool true)) v13 s14 fun v15 s16 =>
  zI v15 false (fun k => zm 1 v1 s16 k) s16 (fun v17 s18 =>
  zI v15 false (fun k => loadC false 1 v17 s18 k) s18 (fun v19 s20 =>
  zI v15 false (fun k => binC .lss .plain v19 (.d (.int .i64 1)) s20 k) s20 (fun v21 s22 =>
  pickC v15 (.d (.bool true)) v21 s22 fun v23 s24 =>
  zI v23 false (fun k => zm 1 v1 s24 k) s24 (fun v25 s26 =>
  zI v23 false (fun k => loadC false 1 v25 s26 k) s26 (fun v27 s28 =>
  zI v23 false (fun k => binC .gtr .plain v27 (.d (.int .i64 9007199254740992)) s28 k) s28 (fun v29 s30 =>
  pickC v23 (.d (.bool true)) v29 s30 fun v31 s32 =>
  condC v31 (Z (consO (some (.d (.int .i64 81))) (some [])) s32) (Z (consO (some (.d (.int .i64 0))) (some [])) s32))))))))))
theorem zfW {P : Program} {x0 : AV} {σ : List AObj} {Z : Option (List AV) → List AObj → Prop} (h : zdd P x0 σ Z) : awp P zbS.body (AtEnd fun fr s => Z (resAs fr s zbS.res) s) (zW 0 [x0]) σ :=
  cast (by kernel_rfl) h
/-- bulla/bullaref08.CheckSign -/
def zfg (P : Program) (x0 : AV) (σ : List AObj) (Z : Option (List AV) → List AObj → Prop) : Prop :=
  boxC x0 σ fun v1 s2 =>
  zm 0 v1 s2 fun v3 s4 =>
  loadC false 1 v3 s4 fun v5 s6 =>
  binC .lss .plain v5 (.d (.int .i64 0)) s6 fun v7 s8 =>
  zI v7 false (fun k => zm 0 v1 s8 k) s8 (fun v9 s10 =>
  zI v7 false (fun k => loadC false 1 v9 s10 k) s10 (fun v11 s12 =>
  zI v7 false (fun k => binC .geq .plain v11 (.d (.int .i64 21)) s12 k) s12 (fun v13 s14 =>
  pickC v7 (.d (.bool true)) v13 s14 fun v15 s16 =>
  zI v15 false (fun k => zm 1 v1 s16 k) s16 (fun v17 s18 =>
  zI v15 false (fun k => loadC false 1 v17 s18 k) s18 (fun v19 s20 =>
  zI v15 false (fun k => binC .lss .plain v19 (.d (.int .i64 1)) s20 k) s20 (fun v21 s22 =>
  pickC v15 (.d (.bool true)) v21 s22 fun v23 s24 =>
  zI v23 false (fun k => zm 1 v1 s24 k) s24 (fun v25 s26 =>
  zI v23 false (fun k => loadC false 1 v25 s26 k) s26 (fun v27 s28 =>
  zI v23 false (fun k => binC .gtr .plain v27 (.d (.int .i64 9007199254740992)) s28 k) s28 (fun v29 s30 =>
  pickC v23 (.d (.bool true)) v29 s30 fun v31 s32 =>
  condC v31 (Z (consO (some (.d (.int .i64 81))) (some [])) s32) (Z (consO (some (.d (.int .i64 0))) (some [])) s32))))))))))
theorem ziZ {P : Program} {x0 : AV} {σ : List AObj} {Z : Option (List AV) → List AObj → Prop} (h : zfg P x0 σ Z) : awp P zdm.body (AtEnd fun fr s => Z (resAs fr s zdm.res) s) (zW 0 [x0]) σ :=
  cast (by kernel_rfl) h
/-- bulla/request.CheckBatch -/
def zcU (P : Program) (x0 : AV) (σ : List AObj) (Z : Option (List AV) → List AObj → Prop) : Prop :=
  lenC .sl x0 σ fun v1 s2 =>
  binC .gtr .plain v1 (.d (.int .i64 4)) s2 fun v3 s4 =>
  condC v3 (Z (consO (some (.d (.int .i64 3))) (some [])) s4) (lenC .sl x0 s4 fun v5 s6 =>
  loopC [(.d (.int .i64 0))] s6 fun vs7 s8 again9 =>
  headC vs7 fun v10 vs11 =>
  binC .lss .plain v10 v5 s8 fun v12 s13 =>
  condC v12 (zy none 9 x0 v10 s13 fun v14 s15 =>
  loadC true 9 v14 s15 fun v16 s17 =>
  zC [(.d (.int .i64 0)), (.d (.int .i64 0)), (.d (.int .i64 0)), (.d (.str [])), (.d (.str [])), (.d (.int .i64 0)), (.exact []), (.d (.int .i64 0)), (.d (.int .i64 0))] s17 fun v18 s19 =>
  zx 9 v18 v16 s19 fun _ s21 =>
  zm 0 v18 s21 fun v22 s23 =>
  loadC true 7 v22 s23 fun v24 s25 =>
  ACall P zcc [dm v24] s25 fun v26 s27 =>
  binC .neq .plain v26 (.d (.int .i64 0)) s27 fun v28 s29 =>
  condC v28 (Z (consO (some v26) (some [])) s29) (zm 7 v18 s29 fun v30 s31 =>
  loadC true 2 v30 s31 fun v32 s33 =>
  ACall P zba [dm v32] s33 fun v34 s35 =>
  binC .neq .plain v34 (.d (.int .i64 0)) s35 fun v36 s37 =>
  condC v36 (Z (consO (some v34) (some [])) s37) (binC .add .plain v10 (.d (.int .i64 1)) s37 fun v38 s39 =>
  again9 [v38] s39))) (lenC .sl x0 s13 fun v40 s41 =>
  loopC [(.d (.int .i64 0))] s41 fun vs42 s43 again44 =>
  headC vs42 fun v45 vs46 =>
  binC .lss .plain v45 v40 s43 fun v47 s48 =>
  condC v47 (zy none 9 x0 v45 s48 fun v49 s50 =>
  loadC true 9 v49 s50 fun v51 s52 =>
  zC [(.d (.int .i64 0)), (.d (.int .i64 0)), (.d (.int .i64 0)), (.d (.str [])), (.d (.str [])), (.d (.int .i64 0)), (.exact []), (.d (.int .i64 0)), (.d (.int .i64 0))] s52 fun v53 s54 =>
  zx 9 v53 v51 s54 fun _ s56 =>
  slcC (.sl 9) x0 none (some v45) none s56 fun v57 s58 =>
  lenC .sl v57 s58 fun v59 s60 =>
  loopC [(.d (.int .i64 0))] s60 fun vs61 s62 again63 =>
  headC vs61 fun v64 vs65 =>
  binC .lss .plain v64 v59 s62 fun v66 s67 =>
  condC v66 (zy none 9 v57 v64 s67 fun v68 s69 =>
  loadC true 9 v68 s69 fun v70 s71 =>
  zC [(.d (.int .i64 0)), (.d (.int .i64 0)), (.d (.int .i64 0)), (.d (.str [])), (.d (.str [])), (.d (.int .i64 0)), (.exact []), (.d (.int .i64 0)), (.d (.int .i64 0))] s71 fun v72 s73 =>
  zx 9 v72 v70 s73 fun _ s75 =>
  zm 0 v53 s75 fun v76 s77 =>
  zm 0 v76 s77 fun v78 s79 =>
  loadC false 1 v78 s79 fun v80 s81 =>
  zm 0 v72 s81 fun v82 s83 =>
  zm 0 v82 s83 fun v84 s85 =>
  loadC false 1 v84 s85 fun v86 s87 =>
  binC .eql .plain v80 v86 s87 fun v88 s89 =>
  zI v88 true (fun k => zm 0 v53 s89 k) s89 (fun v90 s91 =>
  zI v88 true (fun k => zm 1 v90 s91 k) s91 (fun v92 s93 =>
  zI v88 true (fun k => loadC false 1 v92 s93 k) s93 (fun v94 s95 =>
  zI v88 true (fun k => zm 0 v72 s95 k) s95 (fun v96 s97 =>
  zI v88 true (fun k => zm 1 v96 s97 k) s97 (fun v98 s99 =>
  zI v88 true (fun k => loadC false 1 v98 s99 k) s99 (fun v100 s101 =>
  zI v88 true (fun k => binC .eql .plain v94 v100 s101 k) s101 (fun v102 s103 =>
  pickC v88 v102 (.d (.bool false)) s103 fun v104 s105 =>
  condC v104 (Z (consO (some (.d (.int .i64 5))) (some [])) s105) (binC .add .plain v64 (.d (.int .i64 1)) s105 fun v106 s107 =>
  again63 [v106] s107))))))))) (binC .add .plain v45 (.d (.int .i64 1)) s67 fun v108 s109 =>
  again44 [v108] s109)) (Z (consO (some (.d (.int .i64 0))) (some [])) s48)))
theorem zfC {P : Program} {x0 : AV} {σ : List AObj} {Z : Option (List AV) → List AObj → Prop} (h : zcU P x0 σ Z) : awp P zbH.body (AtEnd fun fr s => Z (resAs fr s zbH.res) s) (zW 0 [x0]) σ :=
  cast (by kernel_rfl) h
/-- bulla/bullaref08.CheckBatch -/
def zey (P : Program) (x0 : AV) (σ : List AObj) (Z : Option (List AV) → List AObj → Prop) : Prop :=
  lenC .sl x0 σ fun v1 s2 =>
  binC .gtr .plain v1 (.d (.int .i64 4)) s2 fun v3 s4 =>
  condC v3 (Z (consO (some (.d (.int .i64 3))) (some [])) s4) (loopC [(.d (.int .i64 0))] s4 fun vs5 s6 again7 =>
  headC vs5 fun v8 vs9 =>
  lenC .sl x0 s6 fun v10 s11 =>
  binC .lss .plain v8 v10 s11 fun v12 s13 =>
  condC v12 (zy none 9 x0 v8 s13 fun v14 s15 =>
  zm 0 v14 s15 fun v16 s17 =>
  loadC true 7 v16 s17 fun v18 s19 =>
  ACall P zeh [dm v18] s19 fun v20 s21 =>
  binC .neq .plain v20 (.d (.int .i64 0)) s21 fun v22 s23 =>
  condC v22 (Z (consO (some v20) (some [])) s23) (zy none 9 x0 v8 s23 fun v24 s25 =>
  zm 7 v24 s25 fun v26 s27 =>
  loadC true 2 v26 s27 fun v28 s29 =>
  ACall P zcd [dm v28] s29 fun v30 s31 =>
  binC .neq .plain v30 (.d (.int .i64 0)) s31 fun v32 s33 =>
  condC v32 (Z (consO (some v30) (some [])) s33) (binC .add .plain v8 (.d (.int .i64 1)) s33 fun v34 s35 =>
  again7 [v34] s35))) (loopC [(.d (.int .i64 0))] s13 fun vs36 s37 again38 =>
  headC vs36 fun v39 vs40 =>
  lenC .sl x0 s37 fun v41 s42 =>
  binC .lss .plain v39 v41 s42 fun v43 s44 =>
  condC v43 (loopC [(.d (.int .i64 0))] s44 fun vs45 s46 again47 =>
  headC vs45 fun v48 vs49 =>
  binC .lss .plain v48 v39 s46 fun v50 s51 =>
  condC v50 (zy none 9 x0 v39 s51 fun v52 s53 =>
  zm 0 v52 s53 fun v54 s55 =>
  zm 0 v54 s55 fun v56 s57 =>
  loadC false 1 v56 s57 fun v58 s59 =>
  zy none 9 x0 v48 s59 fun v60 s61 =>
  zm 0 v60 s61 fun v62 s63 =>
  zm 0 v62 s63 fun v64 s65 =>
  loadC false 1 v64 s65 fun v66 s67 =>
  binC .eql .plain v58 v66 s67 fun v68 s69 =>
  zI v68 true (fun k => k x0 s69) s69 (fun v70 s71 =>
  zI v68 true (fun k => k v39 s71) s71 (fun v72 s73 =>
  zI v68 true (fun k => zy none 9 v70 v72 s73 k) s73 (fun v74 s75 =>
  zI v68 true (fun k => zm 0 v74 s75 k) s75 (fun v76 s77 =>
  zI v68 true (fun k => zm 1 v76 s77 k) s77 (fun v78 s79 =>
  zI v68 true (fun k => loadC false 1 v78 s79 k) s79 (fun v80 s81 =>
  zI v68 true (fun k => k x0 s81) s81 (fun v82 s83 =>
  zI v68 true (fun k => k v48 s83) s83 (fun v84 s85 =>
  zI v68 true (fun k => zy none 9 v82 v84 s85 k) s85 (fun v86 s87 =>
  zI v68 true (fun k => zm 0 v86 s87 k) s87 (fun v88 s89 =>
  zI v68 true (fun k => zm 1 v88 s89 k) s89 (fun v90 s91 =>
  zI v68 true (fun k => loadC false 1 v90 s91 k) s91 (fun v92 s93 =>
  zI v68 true (fun k => binC .eql .plain v80 v92 s93 k) s93 (fun v94 s95 =>
  pickC v68 v94 (.d (.bool false)) s95 fun v96 s97 =>
  condC v96 (Z (consO (some (.d (.int .i64 5))) (some [])) s97) (binC .add .plain v48 (.d (.int .i64 1)) s97 fun v98 s99 =>
  again47 [v98] s99))))))))))))))) (binC .add .plain v39 (.d (.int .i64 1)) s51 fun v100 s101 =>
  again38 [v100] s101)) (Z (consO (some (.d (.int .i64 0))) (some [])) s44)))
theorem ziB {P : Program} {x0 : AV} {σ : List AObj} {Z : Option (List AV) → List AObj → Prop} (h : zey P x0 σ Z) : awp P zcO.body (AtEnd fun fr s => Z (resAs fr s zcO.res) s) (zW 0 [x0]) σ :=
  cast (by kernel_rfl) h
/-- bulla/request.Key -/
def zhf (P : Program) (x0 : AV) (σ : List AObj) (Z : Option (List AV) → List AObj → Prop) : Prop :=
  binC .lss .plain x0 (.d (.int .i64 0)) σ fun v1 s2 =>
  zI v1 false (fun k => k x0 s2) s2 (fun v3 s4 =>
  zI v1 false (fun k => binC .geq .plain v3 (.d (.int .i64 8)) s4 k) s4 (fun v5 s6 =>
  pickC v1 (.d (.bool true)) v5 s6 fun v7 s8 =>
  condC v7 (Z (consO (some (.d (.int .i64 (-1)))) (some [])) s8) (binC .add .plain (.d (.int .i64 13)) x0 s8 fun v9 s10 =>
  Z (consO (some v9) (some [])) s10)))
theorem zkT {P : Program} {x0 : AV} {σ : List AObj} {Z : Option (List AV) → List AObj → Prop} (h : zhf P x0 σ Z) : awp P zer.body (AtEnd fun fr s => Z (resAs fr s zer.res) s) (zW 0 [x0]) σ :=
  cast (by kernel_rfl) h
/-- bulla/bullaref08.Key -/
def S_r08_Key (P : Program) (x0 : AV) (σ : List AObj) (Z : Option (List AV) → List AObj → Prop) : Prop :=
  binC .lss .plain x0 (.d (.int .i64 0)) σ fun v1 s2 =>
  zI v1 false (fun k => k x0 s2) s2 (fun v3 s4 =>
  zI v1 false (fun k => binC .geq .plain v3 (.d (.int .i64 8)) s4 k) s4 (fun v5 s6 =>
  pickC v1 (.d (.bool true)) v5 s6 fun v7 s8 =>
  condC v7 (Z (consO (some (.d (.int .i64 (-1)))) (some [])) s8) (binC .add .plain (.d (.int .i64 13)) x0 s8 fun v9 s10 =>
  Z (consO (some v9) (some [])) s10)))
theorem s_r08_Key {P : Program} {x0 : AV} {σ : List AObj} {Z : Option (List AV) → List AObj → Prop} (h : S_r08_Key P x0 σ Z) : awp P zjJ.body (AtEnd fun fr s => Z (resAs fr s zjJ.res) s) (zW 0 [x0]) σ :=
  cast (by kernel_rfl) h
end Go.Proofs.Ythmdpooklflkfaa
