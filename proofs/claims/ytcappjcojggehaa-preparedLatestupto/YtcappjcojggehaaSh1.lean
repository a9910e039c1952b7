/- The conditions of each function, its slots as variables, and that the logic's conditions are these. Printed by program. -/
import Derived.Test.YtcappjcojggehaaAf1
set_option linter.all false
set_option maxRecDepth 100000
set_option linter.unusedVariables false
namespace Go.Proofs.Ytcappjcojggehaa
open Go.AW
/-- bulla/bullalaw15.PreparedLatest -/
def zdq (P : Program) (x0 : AV) (σ : List AObj) (Z : Option (List AV) → List AObj → Prop) : Prop :=
  ACall P ziC [] σ fun v1 s2 =>
  unC .not v1 s2 fun v3 s4 =>
  condC v3 (Z (consO (some (.d (.bool false))) (some [])) s4) (ACall P zcP [] s4 fun v5 s6 =>
  zac s6 fun v7 s8 =>
  lenC .sl x0 s8 fun v9 s10 =>
  loopC [(.d (.int .i64 0))] s10 fun vs11 s12 again13 =>
  headC vs11 fun v14 vs15 =>
  binC .lss .plain v14 v9 s12 fun v16 s17 =>
  condC v16 (zy none 7 x0 v14 s17 fun v18 s19 =>
  loadC true 7 v18 s19 fun v20 s21 =>
  zF [(.d (.int .i64 0)), (.d (.int .i64 0)), (.d (.int .i64 0)), (.d (.int .i64 0)), (.d (.int .i64 0)), (.exact []), (.exact [])] s21 fun v22 s23 =>
  zo 7 v22 v20 s23 fun _ s25 =>
  loadC true 7 v22 s25 fun v26 s27 =>
  ACall P zaO [dm v5, dm v26] s27 fun v28 s29 =>
  (fun (k30 : List AObj → Prop) => zh 1 v22 s29 fun v86 s87 =>
  loadC false 1 v86 s87 fun v88 s89 =>
  mgetC .int true (.d (.int .i64 0)) v7 v88 s89 fun v90 s91 =>
  zi v90 0 s91 fun v92 s93 =>
  zi v90 1 s93 fun v94 s95 =>
  zh 1 v22 s95 fun v96 s97 =>
  loadC false 1 v96 s97 fun v98 s99 =>
  binC .geq .plain v98 (.d (.int .i64 1)) s99 fun v100 s101 =>
  zf v100 true (fun k => zh 1 v22 s101 k) s101 (fun v102 s103 =>
  zf v100 true (fun k => loadC false 1 v102 s103 k) s103 (fun v104 s105 =>
  zf v100 true (fun k => binC .leq .plain v104 (.d (.int .i64 9007199254740992)) s105 k) s105 (fun v106 s107 =>
  pickC v100 v106 (.d (.bool false)) s107 fun v108 s109 =>
  zf v108 true (fun k => k v94 s109) s109 (fun v110 s111 =>
  zf v108 true (fun k => unC .not v110 s111 k) s111 (fun v112 s113 =>
  zf v108 true (fun k => k v112 s113) s113 (fun v114 s115 =>
  zf v114 false (fun k => zh 0 v22 s115 k) s115 (fun v116 s117 =>
  zf v114 false (fun k => loadC false 1 v116 s117 k) s117 (fun v118 s119 =>
  zf v114 false (fun k => k v92 s119) s119 (fun v120 s121 =>
  zf v114 false (fun k => binC .gtr .plain v118 v120 s121 k) s121 (fun v122 s123 =>
  zf v108 true (fun k => pickC v114 (.d (.bool true)) v122 s123 k) s123 (fun v124 s125 =>
  pickC v108 v124 (.d (.bool false)) s125 fun v126 s127 =>
  condC v126 (zh 1 v22 s127 fun v128 s129 =>
  loadC false 1 v128 s129 fun v130 s131 =>
  zh 0 v22 s131 fun v132 s133 =>
  loadC false 1 v132 s133 fun v134 s135 =>
  msetC .int v7 v130 v134 s135 fun _ s137 =>
  k30 s137) (k30 s127)))))))))))))
  (fun  s31 => zh 1 v22 s31 fun v32 s33 =>
  loadC false 1 v32 s33 fun v34 s35 =>
  ACall P zcd [dm v5, dm v34] s35 fun v36 s37 =>
  zi v36 0 s37 fun v38 s39 =>
  zi v36 1 s39 fun v40 s41 =>
  zF [(.d (.int .i64 0)), (.d (.int .i64 0)), (.d (.int .i64 0)), (.d (.int .i64 0)), (.d (.int .i64 0)), (.exact []), (.exact [])] s41 fun v42 s43 =>
  zo 7 v42 v38 s43 fun _ s45 =>
  zh 1 v22 s45 fun v46 s47 =>
  loadC false 1 v46 s47 fun v48 s49 =>
  binC .geq .plain v48 (.d (.int .i64 1)) s49 fun v50 s51 =>
  zf v50 true (fun k => zh 1 v22 s51 k) s51 (fun v52 s53 =>
  zf v50 true (fun k => loadC false 1 v52 s53 k) s53 (fun v54 s55 =>
  zf v50 true (fun k => binC .leq .plain v54 (.d (.int .i64 9007199254740992)) s55 k) s55 (fun v56 s57 =>
  pickC v50 v56 (.d (.bool false)) s57 fun v58 s59 =>
  binC .neq .bool v40 v58 s59 fun v60 s61 =>
  zf v60 false (fun k => k v40 s61) s61 (fun v62 s63 =>
  zf v60 false (fun k => k v62 s63) s63 (fun v64 s65 =>
  zf v64 true (fun k => zh 0 v42 s65 k) s65 (fun v66 s67 =>
  zf v64 true (fun k => loadC false 1 v66 s67 k) s67 (fun v68 s69 =>
  zf v64 true (fun k => k v7 s69) s69 (fun v70 s71 =>
  zf v64 true (fun k => zh 1 v22 s71 k) s71 (fun v72 s73 =>
  zf v64 true (fun k => loadC false 1 v72 s73 k) s73 (fun v74 s75 =>
  zf v64 true (fun k => mgetC .int false (.d (.int .i64 0)) v70 v74 s75 k) s75 (fun v76 s77 =>
  zf v64 true (fun k => binC .neq .plain v68 v76 s77 k) s77 (fun v78 s79 =>
  zf v60 false (fun k => pickC v64 v78 (.d (.bool false)) s79 k) s79 (fun v80 s81 =>
  pickC v60 (.d (.bool true)) v80 s81 fun v82 s83 =>
  condC v82 (Z (consO (some (.d (.bool false))) (some [])) s83) (binC .add .plain v14 (.d (.int .i64 1)) s83 fun v84 s85 =>
  again13 [v84] s85)))))))))))))))) (ACall P zbo [dm v5] s17 fun v138 s139 =>
  lenC .map v7 s139 fun v140 s141 =>
  binC .eql .plain v138 v140 s141 fun v142 s143 =>
  Z (consO (some v142) (some [])) s143))
theorem zgD {P : Program} {x0 : AV} {σ : List AObj} {Z : Option (List AV) → List AObj → Prop} (h : zdq P x0 σ Z) : awp P zbO.body (AtEnd fun fr s => Z (resAs fr s zbO.res) s) (zH 0 [x0]) σ :=
  cast (by kernel_rfl) h
/-- bulla/bullalaw15.live -/
def zmt (P : Program) (σ : List AObj) (Z : Option (List AV) → List AObj → Prop) : Prop :=
  zE (fillV [(.d (.int .i64 0)), (.d (.int .i64 0)), (.d (.int .i64 0)), (.d (.int .i64 0)), (.d (.int .u8 0))] [(0, 1, (.d (.int .i64 0))), (1, 1, (.d (.int .i64 2))), (3, 1, (.d (.int .i64 1)))]) σ fun v1 s2 =>
  zE (fillV [(.d (.int .i64 0)), (.d (.int .i64 0)), (.d (.int .i64 0)), (.d (.int .i64 0)), (.d (.int .u8 0))] [(0, 1, (.d (.int .i64 1))), (1, 1, (.d (.int .i64 3))), (3, 1, (.d (.int .i64 1)))]) s2 fun v3 s4 =>
  zE (fillV [(.d (.int .i64 0)), (.d (.int .i64 0)), (.d (.int .i64 0)), (.d (.int .i64 0)), (.d (.int .u8 0))] [(0, 1, (.d (.int .i64 3))), (1, 1, (.d (.int .i64 3))), (3, 1, (.d (.int .i64 1)))]) s4 fun v5 s6 =>
  zl false 5 3 (fillV (rep [(.d (.int .i64 0)), (.d (.int .i64 0)), (.d (.int .i64 0)), (.d (.int .i64 0)), (.d (.int .u8 0))] 3) [(0, 5, v1), (5, 5, v3), (10, 5, v5)]) s6 fun v7 s8 =>
  zE (fillV [(.d (.int .i64 0)), (.exact []), (.exact []), (.exact []), (.d (.int .i64 0)), (.d (.int .i64 0))] [(0, 1, (.d (.int .i64 1))), (2, 1, v7)]) s8 fun v9 s10 =>
  zF [(.d (.int .i64 0)), (.exact []), (.exact []), (.exact []), (.d (.int .i64 0)), (.d (.int .i64 0))] s10 fun v11 s12 =>
  zo 6 v11 v9 s12 fun _ s14 =>
  loadC true 6 v11 s14 fun v15 s16 =>
  ACall P zcV [dm v15] s16 fun v17 s18 =>
  zl false 1 2 (fillV (rep [(.d (.int .u8 0))] 2) [(0, 1, (.d (.int .u8 2))), (1, 1, (.d (.int .u8 3)))]) s18 fun v19 s20 =>
  zE (fillV [(.d (.int .i64 0)), (.d (.int .i64 0)), (.d (.int .u8 0)), (.d (.int .i64 0)), (.d (.int .u8 0)), (.exact [])] [(1, 1, (.d (.int .i64 1))), (4, 1, (.d (.int .u8 1))), (5, 1, v19)]) s20 fun v21 s22 =>
  ACall P zbX [dm v17, dm v21] s22 fun v23 s24 =>
  zF [(.d (.int .i64 0)), (.d (.int .i64 0)), (.d (.int .i64 0)), (.d (.int .i64 0)), (.d (.int .i64 0)), (.exact []), (.exact [])] s24 fun v25 s26 =>
  zo 7 v25 v23 s26 fun _ s28 =>
  zl false 1 1 (fillV (rep [(.d (.int .u8 0))] 1) [(0, 1, (.d (.int .u8 2)))]) s28 fun v29 s30 =>
  zE (fillV [(.d (.int .i64 0)), (.d (.int .i64 0)), (.d (.int .u8 0)), (.d (.int .i64 0)), (.d (.int .u8 0)), (.exact [])] [(1, 1, (.d (.int .i64 1))), (4, 1, (.d (.int .u8 1))), (5, 1, v29)]) s30 fun v31 s32 =>
  ACall P zbX [dm v17, dm v31] s32 fun v33 s34 =>
  zF [(.d (.int .i64 0)), (.d (.int .i64 0)), (.d (.int .i64 0)), (.d (.int .i64 0)), (.d (.int .i64 0)), (.exact []), (.exact [])] s34 fun v35 s36 =>
  zo 7 v35 v33 s36 fun _ s38 =>
  ACall P zcP [] s38 fun v39 s40 =>
  nilC v17 s40 fun v41 s42 =>
  zh 0 v41 s42 fun v43 s44 =>
  loadC false 1 v43 s44 fun v45 s46 =>
  nilC v17 s46 fun v47 s48 =>
  zh 1 v47 s48 fun v49 s50 =>
  loadC false 1 v49 s50 fun v51 s52 =>
  loadC true 7 v25 s52 fun v53 s54 =>
  ACall P zbW [dm v45, dm v51, dm (.d (.int .i64 1)), dm v53] s54 fun v55 s56 =>
  zf v55 true (fun k => k v17 s56) s56 (fun v57 s58 =>
  zf v55 true (fun k => nilC v57 s58 k) s58 (fun v59 s60 =>
  zf v55 true (fun k => zh 0 v59 s60 k) s60 (fun v61 s62 =>
  zf v55 true (fun k => loadC false 1 v61 s62 k) s62 (fun v63 s64 =>
  zf v55 true (fun k => k v17 s64) s64 (fun v65 s66 =>
  zf v55 true (fun k => nilC v65 s66 k) s66 (fun v67 s68 =>
  zf v55 true (fun k => zh 1 v67 s68 k) s68 (fun v69 s70 =>
  zf v55 true (fun k => loadC false 1 v69 s70 k) s70 (fun v71 s72 =>
  zf v55 true (fun k => loadC true 7 v35 s72 k) s72 (fun v73 s74 =>
  zf v55 true (fun k => ACall P zbW [dm v63, dm v71, dm (.d (.int .i64 1)), dm v73] s74 k) s74 (fun v75 s76 =>
  zf v55 true (fun k => unC .not v75 s76 k) s76 (fun v77 s78 =>
  pickC v55 v77 (.d (.bool false)) s78 fun v79 s80 =>
  zf v79 true (fun k => k v39 s80) s80 (fun v81 s82 =>
  zf v79 true (fun k => binC .neq .ptr v81 (.d .nilp) s82 k) s82 (fun v83 s84 =>
  pickC v79 v83 (.d (.bool false)) s84 fun v85 s86 =>
  zf v85 true (fun k => k v39 s86) s86 (fun v87 s88 =>
  zf v85 true (fun k => loadC true 7 v25 s88 k) s88 (fun v89 s90 =>
  zf v85 true (fun k => ACall P zaO [dm v87, dm v89] s90 k) s90 (fun v91 s92 =>
  pickC v85 v91 (.d (.bool false)) s92 fun v93 s94 =>
  zf v93 true (fun k => k v39 s94) s94 (fun v95 s96 =>
  zf v93 true (fun k => loadC true 7 v25 s96 k) s96 (fun v97 s98 =>
  zf v93 true (fun k => ACall P zaO [dm v95, dm v97] s98 k) s98 (fun v99 s100 =>
  zf v93 true (fun k => unC .not v99 s100 k) s100 (fun v101 s102 =>
  pickC v93 v101 (.d (.bool false)) s102 fun v103 s104 =>
  zf v103 true (fun k => k v39 s104) s104 (fun v105 s106 =>
  zf v103 true (fun k => ACall P zbo [dm v105] s106 k) s106 (fun v107 s108 =>
  zf v103 true (fun k => binC .eql .plain v107 (.d (.int .i64 1)) s108 k) s108 (fun v109 s110 =>
  pickC v103 v109 (.d (.bool false)) s110 fun v111 s112 =>
  Z (consO (some v111) (some [])) s112)))))))))))))))))))))))
theorem s_l15_live {P : Program} {σ : List AObj} {Z : Option (List AV) → List AObj → Prop} (h : zmt P  σ Z) : awp P zjl.body (AtEnd fun fr s => Z (resAs fr s zjl.res) s) (zH 0 []) σ :=
  cast (by kernel_rfl) h
/-- bulla/prepared.New -/
def zgT (P : Program) (σ : List AObj) (Z : Option (List AV) → List AObj → Prop) : Prop :=
  zac σ fun v1 s2 =>
  zE (fillV [(.d .nilmap)] [(0, 1, v1)]) s2 fun v3 s4 =>
  boxC v3 s4 fun v5 s6 =>
  Z (consO (some v5) (some [])) s6
theorem zlx {P : Program} {σ : List AObj} {Z : Option (List AV) → List AObj → Prop} (h : zgT P  σ Z) : awp P zem.body (AtEnd fun fr s => Z (resAs fr s zem.res) s) (zH 0 []) σ :=
  cast (by kernel_rfl) h
/-- (*bulla/prepared.Held).Put -/
def zdI (P : Program) (x0 x1 : AV) (σ : List AObj) (Z : Option (List AV) → List AObj → Prop) : Prop :=
  boxC x1 σ fun v1 s2 =>
  ACall P zaM [dm x0] s2 fun v3 s4 =>
  zf v3 false (fun k => zh 1 v1 s4 k) s4 (fun v5 s6 =>
  zf v3 false (fun k => loadC false 1 v5 s6 k) s6 (fun v7 s8 =>
  zf v3 false (fun k => binC .lss .plain v7 (.d (.int .i64 1)) s8 k) s8 (fun v9 s10 =>
  pickC v3 (.d (.bool true)) v9 s10 fun v11 s12 =>
  zf v11 false (fun k => zh 1 v1 s12 k) s12 (fun v13 s14 =>
  zf v11 false (fun k => loadC false 1 v13 s14 k) s14 (fun v15 s16 =>
  zf v11 false (fun k => binC .gtr .plain v15 (.d (.int .i64 9007199254740992)) s16 k) s16 (fun v17 s18 =>
  pickC v11 (.d (.bool true)) v17 s18 fun v19 s20 =>
  condC v19 (Z (consO (some (.d (.bool false))) (some [])) s20) (nilC x0 s20 fun v21 s22 =>
  zh 0 v21 s22 fun v23 s24 =>
  loadC false 1 v23 s24 fun v25 s26 =>
  zh 1 v1 s26 fun v27 s28 =>
  loadC false 1 v27 s28 fun v29 s30 =>
  mgetC .int true (.agg [(.d (.int .i64 0)), (.d (.int .i64 0)), (.d (.int .i64 0)), (.d (.int .i64 0)), (.d (.int .i64 0)), (.exact []), (.exact [])]) v25 v29 s30 fun v31 s32 =>
  zi v31 0 s32 fun v33 s34 =>
  zi v31 1 s34 fun v35 s36 =>
  zF [(.d (.int .i64 0)), (.d (.int .i64 0)), (.d (.int .i64 0)), (.d (.int .i64 0)), (.d (.int .i64 0)), (.exact []), (.exact [])] s36 fun v37 s38 =>
  keepO v23 s36 s38 ∧ (keepO v27 s36 s38 ∧ (keepO v25 s36 s38 ∧ (zo 7 v37 v33 s38 fun _ s40 =>
  zf v35 true (fun k => zh 0 v37 s40 k) s40 (fun v41 s42 =>
  zf v35 true (fun k => loadC false 1 v41 s42 k) s42 (fun v43 s44 =>
  zf v35 true (fun k => zh 0 v1 s44 k) s44 (fun v45 s46 =>
  zf v35 true (fun k => loadC false 1 v45 s46 k) s46 (fun v47 s48 =>
  zf v35 true (fun k => binC .geq .plain v43 v47 s48 k) s48 (fun v49 s50 =>
  pickC v35 v49 (.d (.bool false)) s50 fun v51 s52 =>
  condC v51 (Z (consO (some (.d (.bool false))) (some [])) s52) (nilC x0 s52 fun v53 s54 =>
  zh 0 v53 s54 fun v55 s56 =>
  loadC false 1 v55 s56 fun v57 s58 =>
  zh 1 v1 s58 fun v59 s60 =>
  loadC false 1 v59 s60 fun v61 s62 =>
  loadC true 7 v1 s62 fun v63 s64 =>
  ACall P zbV [dm v63] s64 fun v65 s66 =>
  keepO v55 s64 s66 ∧ (keepO v59 s64 s66 ∧ (msetC .int v57 v61 v65 s66 fun _ s68 =>
  Z (consO (some (.d (.bool true))) (some [])) s68))))))))))))))))))
theorem zgZ {P : Program} {x0 x1 : AV} {σ : List AObj} {Z : Option (List AV) → List AObj → Prop} (h : zdI P x0 x1 σ Z) : awp P zch.body (AtEnd fun fr s => Z (resAs fr s zch.res) s) (zH 0 [x0, x1]) σ :=
  cast (by kernel_rfl) h
/-- (*bulla/prepared.Held).Get -/
def zdK (P : Program) (x0 x1 : AV) (σ : List AObj) (Z : Option (List AV) → List AObj → Prop) : Prop :=
  zF [(.d (.int .i64 0)), (.d (.int .i64 0)), (.d (.int .i64 0)), (.d (.int .i64 0)), (.d (.int .i64 0)), (.exact []), (.exact [])] σ fun v1 s2 =>
  ACall P zaM [dm x0] s2 fun v3 s4 =>
  condC v3 (zE (fillV [(.d (.int .i64 0)), (.d (.int .i64 0)), (.d (.int .i64 0)), (.d (.int .i64 0)), (.d (.int .i64 0)), (.exact []), (.exact [])] []) s4 fun v5 s6 =>
  zo 7 v1 v5 s6 fun _ s8 =>
  Z (consO (cellA v1 s8 true 7) (consO (some (.d (.bool false))) (some []))) s8) (nilC x0 s4 fun v9 s10 =>
  zh 0 v9 s10 fun v11 s12 =>
  loadC false 1 v11 s12 fun v13 s14 =>
  mgetC .int true (.agg [(.d (.int .i64 0)), (.d (.int .i64 0)), (.d (.int .i64 0)), (.d (.int .i64 0)), (.d (.int .i64 0)), (.exact []), (.exact [])]) v13 x1 s14 fun v15 s16 =>
  zi v15 0 s16 fun v17 s18 =>
  zi v15 1 s18 fun v19 s20 =>
  zF [(.d (.int .i64 0)), (.d (.int .i64 0)), (.d (.int .i64 0)), (.d (.int .i64 0)), (.d (.int .i64 0)), (.exact []), (.exact [])] s20 fun v21 s22 =>
  zo 7 v21 v17 s22 fun _ s24 =>
  loadC true 7 v21 s24 fun v25 s26 =>
  ACall P zbV [dm v25] s26 fun v27 s28 =>
  zo 7 v1 v27 s28 fun _ s30 =>
  Z (consO (cellA v1 s30 true 7) (consO (some v19) (some []))) s30)
theorem zhb {P : Program} {x0 x1 : AV} {σ : List AObj} {Z : Option (List AV) → List AObj → Prop} (h : zdK P x0 x1 σ Z) : awp P zcj.body (AtEnd fun fr s => Z (resAs fr s zcj.res) s) (zH 0 [x0, x1]) σ :=
  cast (by kernel_rfl) h
/-- (*bulla/prepared.Held).Len -/
def zdJ (P : Program) (x0 : AV) (σ : List AObj) (Z : Option (List AV) → List AObj → Prop) : Prop :=
  ACall P zaM [dm x0] σ fun v1 s2 =>
  condC v1 (Z (consO (some (.d (.int .i64 0))) (some [])) s2) (nilC x0 s2 fun v3 s4 =>
  zh 0 v3 s4 fun v5 s6 =>
  loadC false 1 v5 s6 fun v7 s8 =>
  lenC .map v7 s8 fun v9 s10 =>
  Z (consO (some v9) (some [])) s10)
theorem zha {P : Program} {x0 : AV} {σ : List AObj} {Z : Option (List AV) → List AObj → Prop} (h : zdJ P x0 σ Z) : awp P zci.body (AtEnd fun fr s => Z (resAs fr s zci.res) s) (zH 0 [x0]) σ :=
  cast (by kernel_rfl) h
/-- (bulla/bullalaw15.Case).begun -/
def zfn (P : Program) (x0 : AV) (σ : List AObj) (Z : Option (List AV) → List AObj → Prop) : Prop :=
  boxC x0 σ fun v1 s2 =>
  ACall P zbY [] s2 fun v3 s4 =>
  ACall P zbG [] s4 fun v5 s6 =>
  zE (fillV [(.exact [])] []) s6 fun v7 s8 =>
  boxC v7 s8 fun v9 s10 =>
  zE (fillV [(.exact [])] []) s10 fun v11 s12 =>
  boxC v11 s12 fun v13 s14 =>
  zE (fillV [(.d .nilp), (.d .nilp), (.d .nilp), (.d .nilp), (.exact []), (.exact []), (.exact [])] [(0, 1, v3), (1, 1, v5), (2, 1, v9), (3, 1, v13)]) s14 fun v15 s16 =>
  boxC v15 s16 fun v17 s18 =>
  zl false 1 1 (fillV (rep [(.exact [])] 1) [(0, 1, (.exact []))]) s18 fun v19 s20 =>
  zh 1 v1 s20 fun v21 s22 =>
  loadC false 1 v21 s22 fun v23 s24 =>
  zt 1 24 v19 v23 s24 fun v25 s26 =>
  lenC .sl v25 s26 fun v27 s28 =>
  loopC [(.d (.int .i64 0))] s28 fun vs29 s30 again31 =>
  headC vs29 fun v32 vs33 =>
  binC .lss .plain v32 v27 s30 fun v34 s35 =>
  condC v34 (zy none 1 v25 v32 s35 fun v36 s37 =>
  loadC false 1 v36 s37 fun v38 s39 =>
  lenC .sl v38 s39 fun v40 s41 =>
  loopC [(.exact []), (.d (.int .i64 0))] s41 fun vs42 s43 again44 =>
  headC vs42 fun v45 vs46 =>
  headC vs46 fun v47 vs48 =>
  binC .lss .plain v47 v40 s43 fun v49 s50 =>
  condC v49 ((fun (k51 : AV → List AObj → Prop) => zy none 7 v38 v47 s50 fun v56 s57 =>
  loadC true 7 v56 s57 fun v58 s59 =>
  zF [(.d (.int .i64 0)), (.d (.int .i64 0)), (.d (.int .i64 0)), (.d (.str [])), (.d (.str [])), (.d (.int .i64 0)), (.exact [])] s59 fun v60 s61 =>
  zo 7 v60 v58 s61 fun _ s63 =>
  nilC v17 s63 fun v64 s65 =>
  zh 2 v64 s65 fun v66 s67 =>
  loadC false 1 v66 s67 fun v68 s69 =>
  nilC v17 s69 fun v70 s71 =>
  zh 3 v70 s71 fun v72 s73 =>
  loadC false 1 v72 s73 fun v74 s75 =>
  loadC true 7 v60 s75 fun v76 s77 =>
  (fun (k78 : AV → AV → List AObj → Prop) => (ACall P zgs [dm v68, dm v74, dm v76] s77 fun v90 s91 =>
  zi v90 0 s91 fun v92 s93 =>
  zi v90 1 s93 fun v94 s95 =>
  zF [(.d (.int .i64 0)), (.d (.int .i64 0)), (.d (.int .i64 0)), (.d (.str [])), (.d (.str [])), (.d (.int .i64 0)), (.exact []), (.d (.int .i64 0)), (.d (.int .i64 0))] s95 fun v96 s97 =>
  zo 9 v96 v92 s97 fun _ s99 =>
  k78 v96 v94 s99) ∧
  (zF [(.d (.int .i64 0)), (.d (.int .i64 0)), (.d (.int .i64 0)), (.d (.str [])), (.d (.str [])), (.d (.int .i64 0)), (.exact []), (.d (.int .i64 0)), (.d (.int .i64 0))] s77 fun v100 s101 =>
  keepO v66 s77 s101 ∧ (keepO v72 s77 s101 ∧ (keepO v60 s77 s101 ∧ (ACall P zgs [dm v68, dm v74, dm v76] s101 fun v102 s103 =>
  zi v102 0 s103 fun v104 s105 =>
  zi v102 1 s105 fun v106 s107 =>
  zo 9 v100 v104 s107 fun _ s109 =>
  k78 v100 v106 s109)))))
  (fun v79 v80 s81 => binC .eql .plain v80 (.d (.int .i64 0)) s81 fun v82 s83 =>
  condC v82 (loadC true 9 v79 s83 fun v84 s85 =>
  zl false 9 1 (fillV (rep [(.d (.int .i64 0)), (.d (.int .i64 0)), (.d (.int .i64 0)), (.d (.str [])), (.d (.str [])), (.d (.int .i64 0)), (.exact []), (.d (.int .i64 0)), (.d (.int .i64 0))] 1) [(0, 9, v84)]) s85 fun v86 s87 =>
  zt 9 104 v45 v86 s87 fun v88 s89 =>
  k51 v88 s89) (k51 v45 s83)))
  (fun v52 s53 => binC .add .plain v47 (.d (.int .i64 1)) s53 fun v54 s55 =>
  again44 [v52, v54] s55)) (nilC v17 s50 fun v110 s111 =>
  zh 2 v110 s111 fun v112 s113 =>
  loadC false 1 v112 s113 fun v114 s115 =>
  ACall P zfE [dm v114, dm v45] s115 fun v116 s117 =>
  zi v116 0 s117 fun v118 s119 =>
  zi v116 1 s119 fun v120 s121 =>
  nilC v17 s121 fun v122 s123 =>
  zh 4 v122 s123 fun v124 s125 =>
  loadC false 1 v124 s125 fun v126 s127 =>
  zl false 1 1 (fillV (rep [(.exact [])] 1) [(0, 1, v45)]) s127 fun v128 s129 =>
  nilC v17 s129 fun v130 s131 =>
  zh 5 v130 s131 fun v132 s133 =>
  loadC false 1 v132 s133 fun v134 s135 =>
  zl false 1 1 (fillV (rep [(.d (.int .i64 0))] 1) [(0, 1, v118)]) s135 fun v136 s137 =>
  zt 1 24 v126 v128 s137 fun v138 s139 =>
  keepO v132 s137 s139 ∧ (zt 1 8 v134 v136 s139 fun v140 s141 =>
  nilC v17 s141 fun v142 s143 =>
  zh 4 v142 s143 fun v144 s145 =>
  zo 1 v144 v138 s145 fun _ s147 =>
  nilC v17 s147 fun v148 s149 =>
  zh 5 v148 s149 fun v150 s151 =>
  zo 1 v150 v140 s151 fun _ s153 =>
  binC .add .plain v32 (.d (.int .i64 1)) s153 fun v154 s155 =>
  again31 [v154] s155))) (zE (fillV [(.d (.int .i64 0)), (.d (.int .i64 0))] []) s35 fun v156 s157 =>
  zl false 2 1 (fillV (rep [(.d (.int .i64 0)), (.d (.int .i64 0))] 1) [(0, 2, v156)]) s157 fun v158 s159 =>
  nilC v17 s159 fun v160 s161 =>
  zh 6 v160 s161 fun v162 s163 =>
  zo 1 v162 v158 s163 fun _ s165 =>
  zh 2 v1 s165 fun v166 s167 =>
  loadC false 1 v166 s167 fun v168 s169 =>
  lenC .sl v168 s169 fun v170 s171 =>
  loopC [(.d (.int .i64 0))] s171 fun vs172 s173 again174 =>
  headC vs172 fun v175 vs176 =>
  binC .lss .plain v175 v170 s173 fun v177 s178 =>
  condC v177 (zy none 5 v168 v175 s178 fun v179 s180 =>
  loadC true 5 v179 s180 fun v181 s182 =>
  zF [(.d (.int .i64 0)), (.d (.int .i64 0)), (.d (.int .i64 0)), (.d (.int .i64 0)), (.d (.int .u8 0))] s182 fun v183 s184 =>
  zo 5 v183 v181 s184 fun _ s186 =>
  nilC v17 s186 fun v187 s188 =>
  zh 5 v187 s188 fun v189 s190 =>
  loadC false 1 v189 s190 fun v191 s192 =>
  zh 4 v183 s192 fun v193 s194 =>
  loadC false 1 v193 s194 fun v195 s196 =>
  convC (.int .i64) v195 s196 fun v197 s198 =>
  nilC v17 s198 fun v199 s200 =>
  zh 5 v199 s200 fun v201 s202 =>
  loadC false 1 v201 s202 fun v203 s204 =>
  lenC .sl v203 s204 fun v205 s206 =>
  binC .rem .plain v197 v205 s206 fun v207 s208 =>
  zy none 1 v191 v207 s208 fun v209 s210 =>
  loadC false 1 v209 s210 fun v211 s212 =>
  nilC v17 s212 fun v213 s214 =>
  zh 2 v213 s214 fun v215 s216 =>
  loadC false 1 v215 s216 fun v217 s218 =>
  nilC v17 s218 fun v219 s220 =>
  zh 3 v219 s220 fun v221 s222 =>
  loadC false 1 v221 s222 fun v223 s224 =>
  zh 0 v183 s224 fun v225 s226 =>
  loadC false 1 v225 s226 fun v227 s228 =>
  zh 1 v183 s228 fun v229 s230 =>
  loadC false 1 v229 s230 fun v231 s232 =>
  zh 2 v183 s232 fun v233 s234 =>
  loadC false 1 v233 s234 fun v235 s236 =>
  zh 3 v183 s236 fun v237 s238 =>
  loadC false 1 v237 s238 fun v239 s240 =>
  (fun (k241 : AV → List AObj → Prop) => (ACall P zgr [dm v217, dm v223, dm v227, dm v231, dm v235, dm v239, dm v211] s240 fun v264 s265 =>
  zi v264 0 s265 fun v266 s267 =>
  zi v264 1 s267 fun v268 s269 =>
  zF [(.d (.int .i64 0)), (.d (.int .i64 0))] s269 fun v270 s271 =>
  zo 2 v270 v266 s271 fun _ s273 =>
  k241 v270 s273) ∧
  (zF [(.d (.int .i64 0)), (.d (.int .i64 0))] s240 fun v274 s275 =>
  keepO v215 s240 s275 ∧ (keepO v221 s240 s275 ∧ (keepO v225 s240 s275 ∧ (keepO v229 s240 s275 ∧ (keepO v233 s240 s275 ∧ (keepO v237 s240 s275 ∧ (ACall P zgr [dm v217, dm v223, dm v227, dm v231, dm v235, dm v239, dm v211] s275 fun v276 s277 =>
  zi v276 0 s277 fun v278 s279 =>
  zi v276 1 s279 fun v280 s281 =>
  zo 2 v274 v278 s281 fun _ s283 =>
  k241 v274 s283))))))))
  (fun v242 s243 => nilC v17 s243 fun v244 s245 =>
  zh 6 v244 s245 fun v246 s247 =>
  loadC false 1 v246 s247 fun v248 s249 =>
  loadC true 2 v242 s249 fun v250 s251 =>
  zl false 2 1 (fillV (rep [(.d (.int .i64 0)), (.d (.int .i64 0))] 1) [(0, 2, v250)]) s251 fun v252 s253 =>
  zt 2 16 v248 v252 s253 fun v254 s255 =>
  nilC v17 s255 fun v256 s257 =>
  zh 6 v256 s257 fun v258 s259 =>
  zo 1 v258 v254 s259 fun _ s261 =>
  binC .add .plain v175 (.d (.int .i64 1)) s261 fun v262 s263 =>
  again174 [v262] s263)) (nilC v17 s178 fun v284 s285 =>
  zh 2 v284 s285 fun v286 s287 =>
  loadC false 1 v286 s287 fun v288 s289 =>
  nilC v288 s289 fun v290 s291 =>
  zh 0 v290 s291 fun v292 s293 =>
  loadC false 1 v292 s293 fun v294 s295 =>
  lenC .sl v294 s295 fun v296 s297 =>
  loopC [(.d (.int .i64 0))] s297 fun vs298 s299 again300 =>
  headC vs298 fun v301 vs302 =>
  binC .lss .plain v301 v296 s299 fun v303 s304 =>
  condC v303 (zy none 1 v294 v301 s304 fun v305 s306 =>
  loadC false 1 v305 s306 fun v307 s308 =>
  nilC v17 s308 fun v309 s310 =>
  zh 0 v309 s310 fun v311 s312 =>
  loadC false 1 v311 s312 fun v313 s314 =>
  ACall P zbF [dm v313, dm v307] s314 fun v315 s316 =>
  binC .add .plain v301 (.d (.int .i64 1)) s316 fun v317 s318 =>
  again300 [v317] s318) (nilC v17 s304 fun v319 s320 =>
  zh 3 v319 s320 fun v321 s322 =>
  loadC false 1 v321 s322 fun v323 s324 =>
  nilC v323 s324 fun v325 s326 =>
  zh 0 v325 s326 fun v327 s328 =>
  loadC false 1 v327 s328 fun v329 s330 =>
  lenC .sl v329 s330 fun v331 s332 =>
  loopC [(.d (.int .i64 0))] s332 fun vs333 s334 again335 =>
  headC vs333 fun v336 vs337 =>
  binC .lss .plain v336 v331 s334 fun v338 s339 =>
  condC v338 (zy none 2 v329 v336 s339 fun v340 s341 =>
  loadC true 2 v340 s341 fun v342 s343 =>
  zF [(.d (.int .i64 0)), (.d (.int .i64 0))] s343 fun v344 s345 =>
  zo 2 v344 v342 s345 fun _ s347 =>
  nilC v17 s347 fun v348 s349 =>
  zh 1 v348 s349 fun v350 s351 =>
  loadC false 1 v350 s351 fun v352 s353 =>
  zh 0 v344 s353 fun v354 s355 =>
  loadC false 1 v354 s355 fun v356 s357 =>
  zh 1 v344 s357 fun v358 s359 =>
  loadC false 1 v358 s359 fun v360 s361 =>
  ACall P zbq [dm v352, dm v356, dm v360] s361 fun v362 s363 =>
  binC .add .plain v336 (.d (.int .i64 1)) s363 fun v364 s365 =>
  again335 [v364] s365) (Z (consO (some v17) (some [])) s339))))
theorem zjT {P : Program} {x0 : AV} {σ : List AObj} {Z : Option (List AV) → List AObj → Prop} (h : zfn P x0 σ Z) : awp P zdf.body (AtEnd fun fr s => Z (resAs fr s zdf.res) s) (zH 0 [x0]) σ :=
  cast (by kernel_rfl) h
/-- (*bulla/bullalaw15.stage).made -/
def zfm (P : Program) (x0 x1 : AV) (σ : List AObj) (Z : Option (List AV) → List AObj → Prop) : Prop :=
  boxC x1 σ fun v1 s2 =>
  zF [(.d (.int .i64 0)), (.d (.int .i64 0)), (.d (.int .i64 0)), (.d (.int .i64 0)), (.d (.int .i64 0)), (.exact []), (.exact [])] s2 fun v3 s4 =>
  zh 2 v1 s4 fun v5 s6 =>
  loadC false 1 v5 s6 fun v7 s8 =>
  convC (.int .i64) v7 s8 fun v9 s10 =>
  nilC x0 s10 fun v11 s12 =>
  zh 4 v11 s12 fun v13 s14 =>
  loadC false 1 v13 s14 fun v15 s16 =>
  lenC .sl v15 s16 fun v17 s18 =>
  binC .rem .plain v9 v17 s18 fun v19 s20 =>
  zh 0 v1 s20 fun v21 s22 =>
  loadC false 1 v21 s22 fun v23 s24 =>
  zh 1 v1 s24 fun v25 s26 =>
  loadC false 1 v25 s26 fun v27 s28 =>
  zh 3 v1 s28 fun v29 s30 =>
  loadC false 1 v29 s30 fun v31 s32 =>
  nilC x0 s32 fun v33 s34 =>
  zh 4 v33 s34 fun v35 s36 =>
  loadC false 1 v35 s36 fun v37 s38 =>
  zy none 1 v37 v19 s38 fun v39 s40 =>
  loadC false 1 v39 s40 fun v41 s42 =>
  nilC x0 s42 fun v43 s44 =>
  zh 6 v43 s44 fun v45 s46 =>
  loadC false 1 v45 s46 fun v47 s48 =>
  zh 4 v1 s48 fun v49 s50 =>
  loadC false 1 v49 s50 fun v51 s52 =>
  convC (.int .i64) v51 s52 fun v53 s54 =>
  nilC x0 s54 fun v55 s56 =>
  zh 6 v55 s56 fun v57 s58 =>
  loadC false 1 v57 s58 fun v59 s60 =>
  lenC .sl v59 s60 fun v61 s62 =>
  binC .rem .plain v53 v61 s62 fun v63 s64 =>
  zy none 2 v47 v63 s64 fun v65 s66 =>
  loadC true 2 v65 s66 fun v67 s68 =>
  zE (fillV [(.d (.int .i64 0)), (.d (.int .i64 0)), (.d (.int .i64 0)), (.d (.int .i64 0)), (.d (.int .i64 0)), (.exact []), (.exact [])] [(0, 1, v23), (1, 1, v27), (2, 1, v31), (6, 1, v41), (3, 2, v67)]) s68 fun v69 s70 =>
  zF [(.d (.int .i64 0)), (.d (.int .i64 0)), (.d (.int .i64 0)), (.d (.int .i64 0)), (.d (.int .i64 0)), (.exact []), (.exact [])] s70 fun v71 s72 =>
  keepO v21 s70 s72 ∧ (keepO v25 s70 s72 ∧ (keepO v29 s70 s72 ∧ (keepO v35 s70 s72 ∧ (keepO v39 s70 s72 ∧ (keepO v45 s70 s72 ∧ (keepO v49 s70 s72 ∧ (keepO v57 s70 s72 ∧ (keepO v65 s70 s72 ∧ (zo 7 v71 v69 s72 fun _ s74 =>
  (fun (k75 : List AObj → Prop) => zh 2 v71 s74 fun v134 s135 =>
  loadC false 1 v134 s135 fun v136 s137 =>
  binC .eql .plain v136 (.d (.int .i64 0)) s137 fun v138 s139 =>
  condC v138 (nilC x0 s139 fun v140 s141 =>
  zh 5 v140 s141 fun v142 s143 =>
  loadC false 1 v142 s143 fun v144 s145 =>
  zy none 1 v144 v19 s145 fun v146 s147 =>
  loadC false 1 v146 s147 fun v148 s149 =>
  zh 2 v71 s149 fun v150 s151 =>
  zo 1 v150 v148 s151 fun _ s153 =>
  k75 s153) (k75 s139))
  (fun  s76 => zh 5 v1 s76 fun v77 s78 =>
  loadC false 1 v77 s78 fun v79 s80 =>
  lenC .sl v79 s80 fun v81 s82 =>
  loopC [(.d (.int .i64 0))] s82 fun vs83 s84 again85 =>
  headC vs83 fun v86 vs87 =>
  binC .lss .plain v86 v81 s84 fun v88 s89 =>
  condC v88 (zy none 1 v79 v86 s89 fun v90 s91 =>
  loadC false 1 v90 s91 fun v92 s93 =>
  zh 5 v71 s93 fun v94 s95 =>
  loadC false 1 v94 s95 fun v96 s97 =>
  nilC x0 s97 fun v98 s99 =>
  zh 6 v98 s99 fun v100 s101 =>
  loadC false 1 v100 s101 fun v102 s103 =>
  convC (.int .i64) v92 s103 fun v104 s105 =>
  nilC x0 s105 fun v106 s107 =>
  zh 6 v106 s107 fun v108 s109 =>
  loadC false 1 v108 s109 fun v110 s111 =>
  lenC .sl v110 s111 fun v112 s113 =>
  binC .rem .plain v104 v112 s113 fun v114 s115 =>
  zy none 2 v102 v114 s115 fun v116 s117 =>
  loadC true 2 v116 s117 fun v118 s119 =>
  zl false 2 1 (fillV (rep [(.d (.int .i64 0)), (.d (.int .i64 0))] 1) [(0, 2, v118)]) s119 fun v120 s121 =>
  zt 2 16 v96 v120 s121 fun v122 s123 =>
  zh 5 v71 s123 fun v124 s125 =>
  zo 1 v124 v122 s125 fun _ s127 =>
  binC .add .plain v86 (.d (.int .i64 1)) s127 fun v128 s129 =>
  again85 [v128] s129) (loadC true 7 v71 s89 fun v130 s131 =>
  zo 7 v3 v130 s131 fun _ s133 =>
  Z (consO (cellA v3 s133 true 7) (some [])) s133)))))))))))
theorem zjS {P : Program} {x0 x1 : AV} {σ : List AObj} {Z : Option (List AV) → List AObj → Prop} (h : zfm P x0 x1 σ Z) : awp P zde.body (AtEnd fun fr s => Z (resAs fr s zde.res) s) (zH 0 [x0, x1]) σ :=
  cast (by kernel_rfl) h
/-- bulla/prepared.Valid -/
def zfl (P : Program) (x0 x1 x2 x3 : AV) (σ : List AObj) (Z : Option (List AV) → List AObj → Prop) : Prop :=
  boxC x3 σ fun v1 s2 =>
  ACall P zbp [dm x0] s2 fun v3 s4 =>
  binC .eql .ptr v3 (.d .nilp) s4 fun v5 s6 =>
  zf v5 false (fun k => k x1 s6) s6 (fun v7 s8 =>
  zf v5 false (fun k => ACall P zbd [dm v7] s8 k) s8 (fun v9 s10 =>
  zf v5 false (fun k => binC .eql .ptr v9 (.d .nilp) s10 k) s10 (fun v11 s12 =>
  pickC v5 (.d (.bool true)) v11 s12 fun v13 s14 =>
  zf v13 false (fun k => k x2 s14) s14 (fun v15 s16 =>
  zf v13 false (fun k => ACall P zbQ [dm v15] s16 k) s16 (fun v17 s18 =>
  zf v13 false (fun k => binC .neq .plain v17 (.d (.int .i64 0)) s18 k) s18 (fun v19 s20 =>
  pickC v13 (.d (.bool true)) v19 s20 fun v21 s22 =>
  zf v21 false (fun k => zh 0 v1 s22 k) s22 (fun v23 s24 =>
  zf v21 false (fun k => loadC false 1 v23 s24 k) s24 (fun v25 s26 =>
  zf v21 false (fun k => binC .lss .plain v25 (.d (.int .i64 0)) s26 k) s26 (fun v27 s28 =>
  pickC v21 (.d (.bool true)) v27 s28 fun v29 s30 =>
  zf v29 false (fun k => zh 0 v1 s30 k) s30 (fun v31 s32 =>
  zf v29 false (fun k => loadC false 1 v31 s32 k) s32 (fun v33 s34 =>
  zf v29 false (fun k => binC .gtr .plain v33 (.d (.int .i64 9007199254740992)) s34 k) s34 (fun v35 s36 =>
  pickC v29 (.d (.bool true)) v35 s36 fun v37 s38 =>
  zf v37 false (fun k => zh 1 v1 s38 k) s38 (fun v39 s40 =>
  zf v37 false (fun k => loadC false 1 v39 s40 k) s40 (fun v41 s42 =>
  zf v37 false (fun k => binC .lss .plain v41 (.d (.int .i64 1)) s42 k) s42 (fun v43 s44 =>
  pickC v37 (.d (.bool true)) v43 s44 fun v45 s46 =>
  zf v45 false (fun k => zh 1 v1 s46 k) s46 (fun v47 s48 =>
  zf v45 false (fun k => loadC false 1 v47 s48 k) s48 (fun v49 s50 =>
  zf v45 false (fun k => binC .gtr .plain v49 (.d (.int .i64 9007199254740992)) s50 k) s50 (fun v51 s52 =>
  pickC v45 (.d (.bool true)) v51 s52 fun v53 s54 =>
  zf v53 false (fun k => k x0 s54) s54 (fun v55 s56 =>
  zf v53 false (fun k => k x1 s56) s56 (fun v57 s58 =>
  zf v53 false (fun k => zh 6 v1 s58 k) s58 (fun v59 s60 =>
  zf v53 false (fun k => loadC false 1 v59 s60 k) s60 (fun v61 s62 =>
  zf v53 false (fun k => ACall P zbJ [dm v55, dm v57, dm v61] s62 k) s62 (fun v63 s64 =>
  zf v53 false (fun k => unC .not v63 s64 k) s64 (fun v65 s66 =>
  pickC v53 (.d (.bool true)) v65 s66 fun v67 s68 =>
  condC v67 (Z (consO (some (.d (.bool false))) (some [])) s68) (zh 6 v1 s68 fun v69 s70 =>
  loadC false 1 v69 s70 fun v71 s72 =>
  ACall P zcr [dm (.exact []), dm v71] s72 fun v73 s74 =>
  ACall P zaL [dm x0, dm v73] s74 fun v75 s76 =>
  zi v75 0 s76 fun v77 s78 =>
  zi v75 1 s78 fun v79 s80 =>
  zh 0 v1 s80 fun v81 s82 =>
  loadC false 1 v81 s82 fun v83 s84 =>
  ACall P zcU [dm x2, dm v83] s84 fun v85 s86 =>
  unC .not v79 s86 fun v87 s88 =>
  zf v87 false (fun k => k v77 s88) s88 (fun v89 s90 =>
  zf v87 false (fun k => zh 2 v1 s90 k) s90 (fun v91 s92 =>
  zf v87 false (fun k => loadC false 1 v91 s92 k) s92 (fun v93 s94 =>
  zf v87 false (fun k => binC .neq .plain v89 v93 s94 k) s94 (fun v95 s96 =>
  pickC v87 (.d (.bool true)) v95 s96 fun v97 s98 =>
  zf v97 false (fun k => k x0 s98) s98 (fun v99 s100 =>
  zf v97 false (fun k => k x1 s100) s100 (fun v101 s102 =>
  zf v97 false (fun k => zh 3 v1 s102 k) s102 (fun v103 s104 =>
  zf v97 false (fun k => loadC true 2 v103 s104 k) s104 (fun v105 s106 =>
  zf v97 false (fun k => k v85 s106) s106 (fun v107 s108 =>
  zf v97 false (fun k => zh 0 v1 s108 k) s108 (fun v109 s110 =>
  zf v97 false (fun k => loadC false 1 v109 s110 k) s110 (fun v111 s112 =>
  zf v97 false (fun k => zh 1 v1 s112 k) s112 (fun v113 s114 =>
  zf v97 false (fun k => loadC false 1 v113 s114 k) s114 (fun v115 s116 =>
  zf v97 false (fun k => k v77 s116) s116 (fun v117 s118 =>
  zf v97 false (fun k => ACall P zbZ [dm v99, dm v101, dm v105, dm v107, dm (.d (.int .i64 2)), dm v111, dm v115, dm v117] s118 k) s118 (fun v119 s120 =>
  zf v97 false (fun k => unC .not v119 s120 k) s120 (fun v121 s122 =>
  pickC v97 (.d (.bool true)) v121 s122 fun v123 s124 =>
  zf v123 false (fun k => zh 5 v1 s124 k) s124 (fun v125 s126 =>
  zf v123 false (fun k => loadC false 1 v125 s126 k) s126 (fun v127 s128 =>
  zf v123 false (fun k => lenC .sl v127 s128 k) s128 (fun v129 s130 =>
  zf v123 false (fun k => k x2 s130) s130 (fun v131 s132 =>
  zf v123 false (fun k => binC .mul .plain (.d (.int .i64 2)) v131 s132 k) s132 (fun v133 s134 =>
  zf v123 false (fun k => binC .neq .plain v129 v133 s134 k) s134 (fun v135 s136 =>
  pickC v123 (.d (.bool true)) v135 s136 fun v137 s138 =>
  condC v137 (Z (consO (some (.d (.bool false))) (some [])) s138) (zh 5 v1 s138 fun v139 s140 =>
  loadC false 1 v139 s140 fun v141 s142 =>
  lenC .sl v141 s142 fun v143 s144 =>
  loopC [(.d (.int .i64 (-1))), (.d (.int .i64 0))] s144 fun vs145 s146 again147 =>
  headC vs145 fun v148 vs149 =>
  headC vs149 fun v150 vs151 =>
  binC .lss .plain v150 v143 s146 fun v152 s153 =>
  condC v152 (zy none 2 v141 v150 s153 fun v154 s155 =>
  loadC true 2 v154 s155 fun v156 s157 =>
  zF [(.d (.int .i64 0)), (.d (.int .i64 0))] s157 fun v158 s159 =>
  zo 2 v158 v156 s159 fun _ s161 =>
  zh 0 v158 s161 fun v162 s163 =>
  loadC false 1 v162 s163 fun v164 s165 =>
  binC .leq .plain v164 v148 s165 fun v166 s167 =>
  zf v166 false (fun k => zh 0 v158 s167 k) s167 (fun v168 s169 =>
  zf v166 false (fun k => loadC false 1 v168 s169 k) s169 (fun v170 s171 =>
  zf v166 false (fun k => k x2 s171) s171 (fun v172 s173 =>
  zf v166 false (fun k => ACall P zbU [dm v172] s173 k) s173 (fun v174 s175 =>
  keepO v168 s173 s175 ∧ (zf v166 false (fun k => binC .geq .plain v170 v174 s175 k) s175 (fun v176 s177 =>
  pickC v166 (.d (.bool true)) v176 s177 fun v178 s179 =>
  zf v178 false (fun k => zh 0 v158 s179 k) s179 (fun v180 s181 =>
  zf v178 false (fun k => loadC false 1 v180 s181 k) s181 (fun v182 s183 =>
  zf v178 false (fun k => k v85 s183) s183 (fun v184 s185 =>
  zf v178 false (fun k => binC .eql .plain v182 v184 s185 k) s185 (fun v186 s187 =>
  pickC v178 (.d (.bool true)) v186 s187 fun v188 s189 =>
  zf v188 false (fun k => k x0 s189) s189 (fun v190 s191 =>
  zf v188 false (fun k => k x1 s191) s191 (fun v192 s193 =>
  zf v188 false (fun k => loadC true 2 v158 s193 k) s193 (fun v194 s195 =>
  zf v188 false (fun k => zh 0 v158 s195 k) s195 (fun v196 s197 =>
  zf v188 false (fun k => loadC false 1 v196 s197 k) s197 (fun v198 s199 =>
  zf v188 false (fun k => zh 0 v1 s199 k) s199 (fun v200 s201 =>
  zf v188 false (fun k => loadC false 1 v200 s201 k) s201 (fun v202 s203 =>
  zf v188 false (fun k => zh 1 v1 s203 k) s203 (fun v204 s205 =>
  zf v188 false (fun k => loadC false 1 v204 s205 k) s205 (fun v206 s207 =>
  zf v188 false (fun k => k v77 s207) s207 (fun v208 s209 =>
  zf v188 false (fun k => ACall P zbZ [dm v190, dm v192, dm v194, dm v198, dm (.d (.int .i64 3)), dm v202, dm v206, dm v208] s209 k) s209 (fun v210 s211 =>
  zf v188 false (fun k => unC .not v210 s211 k) s211 (fun v212 s213 =>
  pickC v188 (.d (.bool true)) v212 s213 fun v214 s215 =>
  condC v214 (Z (consO (some (.d (.bool false))) (some [])) s215) (zh 0 v158 s215 fun v216 s217 =>
  loadC false 1 v216 s217 fun v218 s219 =>
  binC .add .plain v150 (.d (.int .i64 1)) s219 fun v220 s221 =>
  again147 [v218, v220] s221)))))))))))))))))))))))) (Z (consO (some (.d (.bool true))) (some [])) s153)))))))))))))))))))))))))))))))))))))))))))))))))
theorem zjR {P : Program} {x0 x1 x2 x3 : AV} {σ : List AObj} {Z : Option (List AV) → List AObj → Prop} (h : zfl P x0 x1 x2 x3 σ Z) : awp P zdd.body (AtEnd fun fr s => Z (resAs fr s zdd.res) s) (zH 0 [x0, x1, x2, x3]) σ :=
  cast (by kernel_rfl) h
/-- (*bulla/prepared.Held).none -/
def zdp (P : Program) (x0 : AV) (σ : List AObj) (Z : Option (List AV) → List AObj → Prop) : Prop :=
  binC .eql .ptr x0 (.d .nilp) σ fun v1 s2 =>
  zf v1 false (fun k => k x0 s2) s2 (fun v3 s4 =>
  zf v1 false (fun k => nilC v3 s4 k) s4 (fun v5 s6 =>
  zf v1 false (fun k => zh 0 v5 s6 k) s6 (fun v7 s8 =>
  zf v1 false (fun k => loadC false 1 v7 s8 k) s8 (fun v9 s10 =>
  zf v1 false (fun k => binC .eql .map v9 (.d .nilmap) s10 k) s10 (fun v11 s12 =>
  pickC v1 (.d (.bool true)) v11 s12 fun v13 s14 =>
  Z (consO (some v13) (some [])) s14)))))
theorem zgC {P : Program} {x0 : AV} {σ : List AObj} {Z : Option (List AV) → List AObj → Prop} (h : zdp P x0 σ Z) : awp P zbN.body (AtEnd fun fr s => Z (resAs fr s zbN.res) s) (zH 0 [x0]) σ :=
  cast (by kernel_rfl) h
/-- bulla/prepared.clone -/
def zfk (P : Program) (x0 : AV) (σ : List AObj) (Z : Option (List AV) → List AObj → Prop) : Prop :=
  boxC x0 σ fun v1 s2 =>
  zF [(.d (.int .i64 0)), (.d (.int .i64 0)), (.d (.int .i64 0)), (.d (.int .i64 0)), (.d (.int .i64 0)), (.exact []), (.exact [])] s2 fun v3 s4 =>
  zh 5 v1 s4 fun v5 s6 =>
  loadC false 1 v5 s6 fun v7 s8 =>
  ACall P zaD [dm v7] s8 fun v9 s10 =>
  zh 5 v1 s10 fun v11 s12 =>
  zo 1 v11 v9 s12 fun _ s14 =>
  zh 6 v1 s14 fun v15 s16 =>
  loadC false 1 v15 s16 fun v17 s18 =>
  ACall P zdz [dm v17] s18 fun v19 s20 =>
  zh 6 v1 s20 fun v21 s22 =>
  zo 1 v21 v19 s22 fun _ s24 =>
  loadC true 7 v1 s24 fun v25 s26 =>
  zo 7 v3 v25 s26 fun _ s28 =>
  Z (consO (cellA v3 s28 true 7) (some [])) s28
theorem zjQ {P : Program} {x0 : AV} {σ : List AObj} {Z : Option (List AV) → List AObj → Prop} (h : zfk P x0 σ Z) : awp P zdc.body (AtEnd fun fr s => Z (resAs fr s zdc.res) s) (zH 0 [x0]) σ :=
  cast (by kernel_rfl) h
/-- bulla/ideal.NewTable -/
def zfo (P : Program) (σ : List AObj) (Z : Option (List AV) → List AObj → Prop) : Prop :=
  zac σ fun v1 s2 =>
  zE (fillV [(.exact []), (.d .nilmap)] [(1, 1, v1)]) s2 fun v3 s4 =>
  boxC v3 s4 fun v5 s6 =>
  Z (consO (some v5) (some [])) s6
theorem zjU {P : Program} {σ : List AObj} {Z : Option (List AV) → List AObj → Prop} (h : zfo P  σ Z) : awp P zdg.body (AtEnd fun fr s => Z (resAs fr s zdg.res) s) (zH 0 []) σ :=
  cast (by kernel_rfl) h
/-- bulla/ideal.NewLedger -/
def zeE (P : Program) (σ : List AObj) (Z : Option (List AV) → List AObj → Prop) : Prop :=
  zac σ fun v1 s2 =>
  zE (fillV [(.exact []), (.d .nilmap)] [(1, 1, v1)]) s2 fun v3 s4 =>
  boxC v3 s4 fun v5 s6 =>
  Z (consO (some v5) (some [])) s6
theorem ziw {P : Program} {σ : List AObj} {Z : Option (List AV) → List AObj → Prop} (h : zeE P  σ Z) : awp P zcM.body (AtEnd fun fr s => Z (resAs fr s zcM.res) s) (zH 0 []) σ :=
  cast (by kernel_rfl) h
/-- bulla/bullaref08.Seal -/
def zmm (P : Program) (x0 x1 x2 : AV) (σ : List AObj) (Z : Option (List AV) → List AObj → Prop) : Prop :=
  boxC x2 σ fun v1 s2 =>
  zF [(.d (.int .i64 0)), (.d (.int .i64 0)), (.d (.int .i64 0)), (.d (.str [])), (.d (.str [])), (.d (.int .i64 0)), (.exact []), (.d (.int .i64 0)), (.d (.int .i64 0))] s2 fun v3 s4 =>
  loadC true 7 v1 s4 fun v5 s6 =>
  ACall P zeN [dm v5] s6 fun v7 s8 =>
  zi v7 0 s8 fun v9 s10 =>
  zi v7 1 s10 fun v11 s12 =>
  binC .neq .plain v11 (.d (.int .i64 0)) s12 fun v13 s14 =>
  condC v13 (zE (fillV [(.d (.int .i64 0)), (.d (.int .i64 0)), (.d (.int .i64 0)), (.d (.str [])), (.d (.str [])), (.d (.int .i64 0)), (.exact []), (.d (.int .i64 0)), (.d (.int .i64 0))] []) s14 fun v15 s16 =>
  zo 9 v3 v15 s16 fun _ s18 =>
  Z (consO (cellA v3 s18 true 9) (consO (some v11) (some []))) s18) (zh 0 v1 s14 fun v19 s20 =>
  loadC false 1 v19 s20 fun v21 s22 =>
  ACall P zfD [dm v21] s22 fun v23 s24 =>
  ACall P zbB [dm x0, dm v9] s24 fun v25 s26 =>
  ACall P zbE [dm x1, dm v23, dm v25] s26 fun v27 s28 =>
  zi v27 0 s28 fun v29 s30 =>
  zi v27 1 s30 fun v31 s32 =>
  zF [(.d (.int .i64 0)), (.d (.int .i64 0))] s32 fun v33 s34 =>
  zo 2 v33 v29 s34 fun _ s36 =>
  binC .neq .plain v31 (.d (.int .i64 0)) s36 fun v37 s38 =>
  condC v37 (zE (fillV [(.d (.int .i64 0)), (.d (.int .i64 0)), (.d (.int .i64 0)), (.d (.str [])), (.d (.str [])), (.d (.int .i64 0)), (.exact []), (.d (.int .i64 0)), (.d (.int .i64 0))] []) s38 fun v39 s40 =>
  zo 9 v3 v39 s40 fun _ s42 =>
  Z (consO (cellA v3 s42 true 9) (consO (some v31) (some []))) s42) (loadC true 7 v1 s38 fun v43 s44 =>
  loadC true 2 v33 s44 fun v45 s46 =>
  zE (fillV [(.d (.int .i64 0)), (.d (.int .i64 0)), (.d (.int .i64 0)), (.d (.str [])), (.d (.str [])), (.d (.int .i64 0)), (.exact []), (.d (.int .i64 0)), (.d (.int .i64 0))] [(0, 7, v43), (7, 2, v45)]) s46 fun v47 s48 =>
  zo 9 v3 v47 s48 fun _ s50 =>
  Z (consO (cellA v3 s50 true 9) (consO (some (.d (.int .i64 0))) (some []))) s50))
theorem s_r08_Seal {P : Program} {x0 x1 x2 : AV} {σ : List AObj} {Z : Option (List AV) → List AObj → Prop} (h : zmm P x0 x1 x2 σ Z) : awp P zje.body (AtEnd fun fr s => Z (resAs fr s zje.res) s) (zH 0 [x0, x1, x2]) σ :=
  cast (by kernel_rfl) h
end Go.Proofs.Ytcappjcojggehaa
