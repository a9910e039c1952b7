/- The conditions of each function, its slots as variables, and that the logic's conditions are these. Printed by program. -/
import Derived.Test.YtcappjcojggehaaAf4
set_option linter.all false
set_option maxRecDepth 100000
set_option linter.unusedVariables false
namespace Go.Proofs.Ytcappjcojggehaa
open Go.AW
/-- bulla/op.Check -/
def zms (P : Program) (x0 : AV) (σ : List AObj) (Z : Option (List AV) → List AObj → Prop) : Prop :=
  boxC x0 σ fun v1 s2 =>
  loadC true 5 v1 s2 fun v3 s4 =>
  ACall P zkF [dm v3] s4 fun v5 s6 =>
  zi v5 0 s6 fun v7 s8 =>
  zi v5 1 s8 fun v9 s10 =>
  zF [(.d (.int .i64 0)), (.d (.str [])), (.d (.str [])), (.d (.int .i64 0)), (.exact [])] s10 fun v11 s12 =>
  zo 5 v11 v7 s12 fun _ s14 =>
  unC .not v9 s14 fun v15 s16 =>
  zf v15 false (fun k => loadC true 5 v1 s16 k) s16 (fun v17 s18 =>
  zf v15 false (fun k => loadC true 5 v11 s18 k) s18 (fun v19 s20 =>
  zf v15 false (fun k => ACall P zkG [dm v17, dm v19] s20 k) s20 (fun v21 s22 =>
  zf v15 false (fun k => unC .not v21 s22 k) s22 (fun v23 s24 =>
  pickC v15 (.d (.bool true)) v23 s24 fun v25 s26 =>
  condC v25 (Z (consO (some (.d (.int .i64 60))) (some [])) s26) (zh 0 v1 s26 fun v27 s28 =>
  loadC false 1 v27 s28 fun v29 s30 =>
  binC .neq .plain v29 (.d (.int .i64 0)) s30 fun v31 s32 =>
  zf v31 true (fun k => zh 1 v1 s32 k) s32 (fun v33 s34 =>
  zf v31 true (fun k => loadC false 1 v33 s34 k) s34 (fun v35 s36 =>
  zf v31 true (fun k => ACall P zhI [dm v35] s36 k) s36 (fun v37 s38 =>
  zf v31 true (fun k => unC .not v37 s38 k) s38 (fun v39 s40 =>
  pickC v31 v39 (.d (.bool false)) s40 fun v41 s42 =>
  condC v41 (Z (consO (some (.d (.int .i64 61))) (some [])) s42) (zh 0 v1 s42 fun v43 s44 =>
  loadC false 1 v43 s44 fun v45 s46 =>
  binC .eql .plain v45 (.d (.int .i64 3)) s46 fun v47 s48 =>
  zf v47 true (fun k => zh 2 v1 s48 k) s48 (fun v49 s50 =>
  zf v47 true (fun k => loadC false 1 v49 s50 k) s50 (fun v51 s52 =>
  zf v47 true (fun k => ACall P zhI [dm v51] s52 k) s52 (fun v53 s54 =>
  zf v47 true (fun k => unC .not v53 s54 k) s54 (fun v55 s56 =>
  pickC v47 v55 (.d (.bool false)) s56 fun v57 s58 =>
  condC v57 (Z (consO (some (.d (.int .i64 61))) (some [])) s58) (zh 0 v1 s58 fun v59 s60 =>
  loadC false 1 v59 s60 fun v61 s62 =>
  binC .eql .plain v61 (.d (.int .i64 2)) s62 fun v63 s64 =>
  zf v63 true (fun k => zh 4 v1 s64 k) s64 (fun v65 s66 =>
  zf v63 true (fun k => loadC false 1 v65 s66 k) s66 (fun v67 s68 =>
  zf v63 true (fun k => lenC .sl v67 s68 k) s68 (fun v69 s70 =>
  zf v63 true (fun k => binC .lss .plain v69 (.d (.int .i64 1)) s70 k) s70 (fun v71 s72 =>
  zf v63 true (fun k => k v71 s72) s72 (fun v73 s74 =>
  zf v73 false (fun k => zh 4 v1 s74 k) s74 (fun v75 s76 =>
  zf v73 false (fun k => loadC false 1 v75 s76 k) s76 (fun v77 s78 =>
  zf v73 false (fun k => lenC .sl v77 s78 k) s78 (fun v79 s80 =>
  zf v73 false (fun k => binC .gtr .plain v79 (.d (.int .i64 4)) s80 k) s80 (fun v81 s82 =>
  zf v63 true (fun k => pickC v73 (.d (.bool true)) v81 s82 k) s82 (fun v83 s84 =>
  zf v63 true (fun k => k v83 s84) s84 (fun v85 s86 =>
  zf v85 false (fun k => zh 4 v1 s86 k) s86 (fun v87 s88 =>
  zf v85 false (fun k => loadC false 1 v87 s88 k) s88 (fun v89 s90 =>
  zf v85 false (fun k => k (.fn (.func zdX) [] []) s90) s90 (fun v91 s92 =>
  zf v85 false (fun k => ACall P zaj [dm v89, dm v91] s92 k) s92 (fun v93 s94 =>
  zf v63 true (fun k => pickC v85 (.d (.bool true)) v93 s94 k) s94 (fun v95 s96 =>
  pickC v63 v95 (.d (.bool false)) s96 fun v97 s98 =>
  condC v97 (Z (consO (some (.d (.int .i64 62))) (some [])) s98) (zh 3 v1 s98 fun v99 s100 =>
  loadC false 1 v99 s100 fun v101 s102 =>
  binC .lss .plain v101 (.d (.int .i64 0)) s102 fun v103 s104 =>
  zf v103 false (fun k => zh 3 v1 s104 k) s104 (fun v105 s106 =>
  zf v103 false (fun k => loadC false 1 v105 s106 k) s106 (fun v107 s108 =>
  zf v103 false (fun k => binC .gtr .plain v107 (.d (.int .i64 9007199254740992)) s108 k) s108 (fun v109 s110 =>
  pickC v103 (.d (.bool true)) v109 s110 fun v111 s112 =>
  condC v111 (Z (consO (some (.d (.int .i64 60))) (some [])) s112) (Z (consO (some (.d (.int .i64 0))) (some [])) s112))))))))))))))))))))))))))))))))))))
theorem s_op_Check {P : Program} {x0 : AV} {σ : List AObj} {Z : Option (List AV) → List AObj → Prop} (h : zms P x0 σ Z) : awp P zjk.body (AtEnd fun fr s => Z (resAs fr s zjk.res) s) (zH 0 [x0]) σ :=
  cast (by kernel_rfl) h
/-- bulla/op.Put -/
def S_op_Put (P : Program) (x0 x1 : AV) (σ : List AObj) (Z : Option (List AV) → List AObj → Prop) : Prop :=
  boxC x1 σ fun v1 s2 =>
  ACall P zbr [dm x0] s2 fun v3 s4 =>
  loadC true 5 v1 s4 fun v5 s6 =>
  ACall P zgu [dm v5] s6 fun v7 s8 =>
  binC .neq .plain v7 (.d (.int .i64 0)) s8 fun v9 s10 =>
  condC v9 (Z (consO (some v3) (some [])) s10) (zh 0 v1 s10 fun v11 s12 =>
  loadC false 1 v11 s12 fun v13 s14 =>
  convC (.int .u64) v13 s14 fun v15 s16 =>
  ACall P zan [dm v3, dm v15] s16 fun v17 s18 =>
  (fun (k19 : AV → List AObj → Prop) => zh 0 v1 s18 fun v92 s93 =>
  loadC false 1 v92 s93 fun v94 s95 =>
  binC .neq .plain v94 (.d (.int .i64 0)) s95 fun v96 s97 =>
  condC v96 (zh 1 v1 s97 fun v98 s99 =>
  loadC false 1 v98 s99 fun v100 s101 =>
  convC .toBytes v100 s101 fun v102 s103 =>
  ACall P zaT [dm v17, dm v102] s103 fun v104 s105 =>
  k19 v104 s105) (k19 v17 s97))
  (fun v20 s21 => (fun (k22 : AV → List AObj → Prop) => zh 0 v1 s21 fun v25 s26 =>
  loadC false 1 v25 s26 fun v27 s28 =>
  binC .eql .plain v27 (.d (.int .i64 2)) s28 fun v29 s30 =>
  condC v29 (zh 4 v1 s30 fun v31 s32 =>
  loadC false 1 v31 s32 fun v33 s34 =>
  lenC .sl v33 s34 fun v35 s36 =>
  convC (.int .u64) v35 s36 fun v37 s38 =>
  ACall P zan [dm v20, dm v37] s38 fun v39 s40 =>
  zh 4 v1 s40 fun v41 s42 =>
  loadC false 1 v41 s42 fun v43 s44 =>
  lenC .sl v43 s44 fun v45 s46 =>
  loopC [v39, (.d (.int .i64 0))] s46 fun vs47 s48 again49 =>
  headC vs47 fun v50 vs51 =>
  headC vs51 fun v52 vs53 =>
  binC .lss .plain v52 v45 s48 fun v54 s55 =>
  condC v54 (zy none 1 v43 v52 s55 fun v56 s57 =>
  loadC false 1 v56 s57 fun v58 s59 =>
  ACall P zaT [dm v50, dm v58] s59 fun v60 s61 =>
  binC .add .plain v52 (.d (.int .i64 1)) s61 fun v62 s63 =>
  again49 [v60, v62] s63) (k22 v50 s55)) (binC .eql .plain v27 (.d (.int .i64 3)) s30 fun v64 s65 =>
  condC v64 (zh 2 v1 s65 fun v66 s67 =>
  loadC false 1 v66 s67 fun v68 s69 =>
  convC .toBytes v68 s69 fun v70 s71 =>
  zh 3 v1 s71 fun v72 s73 =>
  loadC false 1 v72 s73 fun v74 s75 =>
  convC (.int .u64) v74 s75 fun v76 s77 =>
  ACall P zaT [dm v20, dm v70] s77 fun v78 s79 =>
  keepO v72 s77 s79 ∧ (ACall P zan [dm v78, dm v76] s79 fun v80 s81 =>
  k22 v80 s81)) (binC .eql .plain v27 (.d (.int .i64 4)) s65 fun v82 s83 =>
  condC v82 (zh 3 v1 s83 fun v84 s85 =>
  loadC false 1 v84 s85 fun v86 s87 =>
  convC (.int .u64) v86 s87 fun v88 s89 =>
  ACall P zan [dm v20, dm v88] s89 fun v90 s91 =>
  k22 v90 s91) (k22 v20 s83))))
  (fun v23 s24 => Z (consO (some v23) (some [])) s24)))
theorem s_op_Put {P : Program} {x0 x1 : AV} {σ : List AObj} {Z : Option (List AV) → List AObj → Prop} (h : S_op_Put P x0 x1 σ Z) : awp P znn.body (AtEnd fun fr s => Z (resAs fr s znn.res) s) (zH 0 [x0, x1]) σ :=
  cast (by kernel_rfl) h
/-- bulla/codec.form -/
def zjK (P : Program) (x0 : AV) (σ : List AObj) (Z : Option (List AV) → List AObj → Prop) : Prop :=
  zF [(.d (.int .u8 0)), (.d (.int .u8 0)), (.d (.int .u8 0)), (.d (.int .u8 0)), (.d (.int .u8 0)), (.d (.int .u8 0)), (.d (.int .u8 0)), (.d (.int .u8 0)), (.d (.int .u8 0)), (.d (.int .u8 0))] σ fun v1 s2 =>
  zF [(.d (.int .u8 0)), (.d (.int .u8 0)), (.d (.int .u8 0)), (.d (.int .u8 0)), (.d (.int .u8 0)), (.d (.int .u8 0)), (.d (.int .u8 0)), (.d (.int .u8 0)), (.d (.int .u8 0)), (.d (.int .u8 0))] s2 fun v3 s4 =>
  loopC [x0, (.d (.int .i64 0))] s4 fun vs5 s6 again7 =>
  headC vs5 fun v8 vs9 =>
  headC vs9 fun v10 vs11 =>
  binC .gtr .plain v8 (.d (.int .u64 127)) s6 fun v12 s13 =>
  condC v12 (convC (.int .u8) v8 s13 fun v14 s15 =>
  binC .or .plain v14 (.d (.int .u8 128)) s15 fun v16 s17 =>
  zy (some 10) 1 v3 v10 s17 fun v18 s19 =>
  zo 1 v18 v16 s19 fun _ s21 =>
  binC .shr .plain v8 (.d (.int .u64 7)) s21 fun v22 s23 =>
  binC .add .plain v10 (.d (.int .i64 1)) s23 fun v24 s25 =>
  again7 [v22, v24] s25) (convC (.int .u8) v8 s13 fun v26 s27 =>
  zy (some 10) 1 v3 v10 s27 fun v28 s29 =>
  zo 1 v28 v26 s29 fun _ s31 =>
  loadC true 10 v3 s31 fun v32 s33 =>
  binC .add .plain v10 (.d (.int .i64 1)) s33 fun v34 s35 =>
  zo 10 v1 v32 s35 fun _ s37 =>
  Z (consO (cellA v1 s37 true 10) (consO (some v34) (some []))) s37)
theorem s_codec_form {P : Program} {x0 : AV} {σ : List AObj} {Z : Option (List AV) → List AObj → Prop} (h : zjK P x0 σ Z) : awp P zgm.body (AtEnd fun fr s => Z (resAs fr s zgm.res) s) (zH 0 [x0]) σ :=
  cast (by kernel_rfl) h
/-- slices.Clip[[]byte,byte] -/
def zcx (P : Program) (x0 : AV) (σ : List AObj) (Z : Option (List AV) → List AObj → Prop) : Prop :=
  lenC .sl x0 σ fun v1 s2 =>
  lenC .sl x0 s2 fun v3 s4 =>
  slcC (.sl 1) x0 none (some v1) (some v3) s4 fun v5 s6 =>
  Z (consO (some v5) (some [])) s6
theorem zeG {P : Program} {x0 : AV} {σ : List AObj} {Z : Option (List AV) → List AObj → Prop} (h : zcx P x0 σ Z) : awp P zbt.body (AtEnd fun fr s => Z (resAs fr s zbt.res) s) (zH 0 [x0]) σ :=
  cast (by kernel_rfl) h
/-- bulla/bullaref06.Name -/
def zmo (P : Program) (x0 : AV) (σ : List AObj) (Z : Option (List AV) → List AObj → Prop) : Prop :=
  ACall P zhg [dm x0] σ fun v1 s2 =>
  binC .gtr .plain v1 (.d (.int .i64 0)) s2 fun v3 s4 =>
  Z (consO (some v3) (some [])) s4
theorem s_r06_Name {P : Program} {x0 : AV} {σ : List AObj} {Z : Option (List AV) → List AObj → Prop} (h : zmo P x0 σ Z) : awp P zjg.body (AtEnd fun fr s => Z (resAs fr s zjg.res) s) (zH 0 [x0]) σ :=
  cast (by kernel_rfl) h
/-- bulla/op.only -/
def S_op_only (P : Program) (x0 : AV) (σ : List AObj) (Z : Option (List AV) → List AObj → Prop) : Prop :=
  boxC x0 σ fun v1 s2 =>
  zF [(.d (.int .i64 0)), (.d (.str [])), (.d (.str [])), (.d (.int .i64 0)), (.exact [])] s2 fun v3 s4 =>
  zh 0 v1 s4 fun v5 s6 =>
  loadC false 1 v5 s6 fun v7 s8 =>
  zE (fillV [(.d (.int .i64 0)), (.d (.str [])), (.d (.str [])), (.d (.int .i64 0)), (.exact [])] [(0, 1, v7)]) s8 fun v9 s10 =>
  zF [(.d (.int .i64 0)), (.d (.str [])), (.d (.str [])), (.d (.int .i64 0)), (.exact [])] s10 fun v11 s12 =>
  zo 5 v11 v9 s12 fun _ s14 =>
  (fun (k15 : List AObj → Prop) => zh 0 v1 s14 fun v21 s22 =>
  loadC false 1 v21 s22 fun v23 s24 =>
  binC .eql .plain v23 (.d (.int .i64 0)) s24 fun v25 s26 =>
  condC v25 (k15 s26) (binC .eql .plain v23 (.d (.int .i64 1)) s26 fun v27 s28 =>
  condC v27 (zh 1 v1 s28 fun v29 s30 =>
  loadC false 1 v29 s30 fun v31 s32 =>
  zh 1 v11 s32 fun v33 s34 =>
  zo 1 v33 v31 s34 fun _ s36 =>
  k15 s36) (binC .eql .plain v23 (.d (.int .i64 2)) s28 fun v37 s38 =>
  condC v37 (zh 1 v1 s38 fun v39 s40 =>
  loadC false 1 v39 s40 fun v41 s42 =>
  zh 4 v1 s42 fun v43 s44 =>
  loadC false 1 v43 s44 fun v45 s46 =>
  zh 1 v11 s46 fun v47 s48 =>
  zo 1 v47 v41 s48 fun _ s50 =>
  keepO v43 s48 s50 ∧ (zh 4 v11 s50 fun v51 s52 =>
  zo 1 v51 v45 s52 fun _ s54 =>
  k15 s54)) (binC .eql .plain v23 (.d (.int .i64 3)) s38 fun v55 s56 =>
  condC v55 (zh 1 v1 s56 fun v57 s58 =>
  loadC false 1 v57 s58 fun v59 s60 =>
  zh 2 v1 s60 fun v61 s62 =>
  loadC false 1 v61 s62 fun v63 s64 =>
  zh 3 v1 s64 fun v65 s66 =>
  loadC false 1 v65 s66 fun v67 s68 =>
  zh 1 v11 s68 fun v69 s70 =>
  zo 1 v69 v59 s70 fun _ s72 =>
  keepO v61 s70 s72 ∧ (keepO v65 s70 s72 ∧ (zh 2 v11 s72 fun v73 s74 =>
  zo 1 v73 v63 s74 fun _ s76 =>
  keepO v65 s74 s76 ∧ (zh 3 v11 s76 fun v77 s78 =>
  zo 1 v77 v67 s78 fun _ s80 =>
  k15 s80)))) (binC .eql .plain v23 (.d (.int .i64 4)) s56 fun v81 s82 =>
  condC v81 (zh 1 v1 s82 fun v83 s84 =>
  loadC false 1 v83 s84 fun v85 s86 =>
  zh 3 v1 s86 fun v87 s88 =>
  loadC false 1 v87 s88 fun v89 s90 =>
  zh 1 v11 s90 fun v91 s92 =>
  zo 1 v91 v85 s92 fun _ s94 =>
  keepO v87 s92 s94 ∧ (zh 3 v11 s94 fun v95 s96 =>
  zo 1 v95 v89 s96 fun _ s98 =>
  k15 s98)) (loadC true 5 v11 s82 fun v99 s100 =>
  zo 5 v3 v99 s100 fun _ s102 =>
  Z (consO (cellA v3 s102 true 5) (consO (some (.d (.bool false))) (some []))) s102))))))
  (fun  s16 => loadC true 5 v11 s16 fun v17 s18 =>
  zo 5 v3 v17 s18 fun _ s20 =>
  Z (consO (cellA v3 s20 true 5) (consO (some (.d (.bool true))) (some []))) s20)
theorem s_op_only {P : Program} {x0 : AV} {σ : List AObj} {Z : Option (List AV) → List AObj → Prop} (h : S_op_only P x0 σ Z) : awp P zlq.body (AtEnd fun fr s => Z (resAs fr s zlq.res) s) (zH 0 [x0]) σ :=
  cast (by kernel_rfl) h
/-- bulla/op.Check$1 -/
def zjI (P : Program) (x0 : AV) (σ : List AObj) (Z : Option (List AV) → List AObj → Prop) : Prop :=
  lenC .sl x0 σ fun v1 s2 =>
  binC .gtr .plain v1 (.d (.int .i64 64)) s2 fun v3 s4 =>
  Z (consO (some v3) (some [])) s4
theorem s_op_Check_1 {P : Program} {x0 : AV} {σ : List AObj} {Z : Option (List AV) → List AObj → Prop} (h : zjI P x0 σ Z) : awp P zgk.body (AtEnd fun fr s => Z (resAs fr s zgk.res) s) (zH 0 [x0]) σ :=
  cast (by kernel_rfl) h
/-- bulla/op.Same -/
def S_op_Same (P : Program) (x0 x1 : AV) (σ : List AObj) (Z : Option (List AV) → List AObj → Prop) : Prop :=
  boxC x0 σ fun v1 s2 =>
  boxC x1 s2 fun v3 s4 =>
  zh 0 v1 s4 fun v5 s6 =>
  loadC false 1 v5 s6 fun v7 s8 =>
  zh 0 v3 s8 fun v9 s10 =>
  loadC false 1 v9 s10 fun v11 s12 =>
  binC .eql .plain v7 v11 s12 fun v13 s14 =>
  zf v13 true (fun k => zh 1 v1 s14 k) s14 (fun v15 s16 =>
  zf v13 true (fun k => loadC false 1 v15 s16 k) s16 (fun v17 s18 =>
  zf v13 true (fun k => zh 1 v3 s18 k) s18 (fun v19 s20 =>
  zf v13 true (fun k => loadC false 1 v19 s20 k) s20 (fun v21 s22 =>
  zf v13 true (fun k => binC .eql .plain v17 v21 s22 k) s22 (fun v23 s24 =>
  pickC v13 v23 (.d (.bool false)) s24 fun v25 s26 =>
  zf v25 true (fun k => zh 2 v1 s26 k) s26 (fun v27 s28 =>
  zf v25 true (fun k => loadC false 1 v27 s28 k) s28 (fun v29 s30 =>
  zf v25 true (fun k => zh 2 v3 s30 k) s30 (fun v31 s32 =>
  zf v25 true (fun k => loadC false 1 v31 s32 k) s32 (fun v33 s34 =>
  zf v25 true (fun k => binC .eql .plain v29 v33 s34 k) s34 (fun v35 s36 =>
  pickC v25 v35 (.d (.bool false)) s36 fun v37 s38 =>
  zf v37 true (fun k => zh 3 v1 s38 k) s38 (fun v39 s40 =>
  zf v37 true (fun k => loadC false 1 v39 s40 k) s40 (fun v41 s42 =>
  zf v37 true (fun k => zh 3 v3 s42 k) s42 (fun v43 s44 =>
  zf v37 true (fun k => loadC false 1 v43 s44 k) s44 (fun v45 s46 =>
  zf v37 true (fun k => binC .eql .plain v41 v45 s46 k) s46 (fun v47 s48 =>
  pickC v37 v47 (.d (.bool false)) s48 fun v49 s50 =>
  zf v49 true (fun k => zh 4 v1 s50 k) s50 (fun v51 s52 =>
  zf v49 true (fun k => loadC false 1 v51 s52 k) s52 (fun v53 s54 =>
  zf v49 true (fun k => zh 4 v3 s54 k) s54 (fun v55 s56 =>
  zf v49 true (fun k => loadC false 1 v55 s56 k) s56 (fun v57 s58 =>
  zf v49 true (fun k => ACall P zZ [dm v53, dm v57, dm (.fn (.func zeQ) [] [])] s58 k) s58 (fun v59 s60 =>
  pickC v49 v59 (.d (.bool false)) s60 fun v61 s62 =>
  Z (consO (some v61) (some [])) s62))))))))))))))))))))
theorem s_op_Same {P : Program} {x0 x1 : AV} {σ : List AObj} {Z : Option (List AV) → List AObj → Prop} (h : S_op_Same P x0 x1 σ Z) : awp P zlr.body (AtEnd fun fr s => Z (resAs fr s zlr.res) s) (zH 0 [x0, x1]) σ :=
  cast (by kernel_rfl) h
/-- bulla/op.Name -/
def S_op_Name (P : Program) (x0 : AV) (σ : List AObj) (Z : Option (List AV) → List AObj → Prop) : Prop :=
  ACall P ziA [dm x0] σ fun v1 s2 =>
  binC .gtr .plain v1 (.d (.int .i64 0)) s2 fun v3 s4 =>
  Z (consO (some v3) (some [])) s4
theorem s_op_Name {P : Program} {x0 : AV} {σ : List AObj} {Z : Option (List AV) → List AObj → Prop} (h : S_op_Name P x0 σ Z) : awp P zls.body (AtEnd fun fr s => Z (resAs fr s zls.res) s) (zH 0 [x0]) σ :=
  cast (by kernel_rfl) h
/-- slices.ContainsFunc[[]bulla/api.Record,bulla/api.Record] -/
def zaz (P : Program) (x0 x1 : AV) (σ : List AObj) (Z : Option (List AV) → List AObj → Prop) : Prop :=
  ACall P zaH [dm x0, dm x1] σ fun v1 s2 =>
  binC .geq .plain v1 (.d (.int .i64 0)) s2 fun v3 s4 =>
  Z (consO (some v3) (some [])) s4
theorem zbl {P : Program} {x0 x1 : AV} {σ : List AObj} {Z : Option (List AV) → List AObj → Prop} (h : zaz P x0 x1 σ Z) : awp P zak.body (AtEnd fun fr s => Z (resAs fr s zak.res) s) (zH 0 [x0, x1]) σ :=
  cast (by kernel_rfl) h
/-- bulla/bullaref06.Runes -/
def zlh (P : Program) (x0 : AV) (σ : List AObj) (Z : Option (List AV) → List AObj → Prop) : Prop :=
  loopC [x0, (.d (.int .i64 0))] σ fun vs1 s2 again3 =>
  headC vs1 fun v4 vs5 =>
  headC vs5 fun v6 vs7 =>
  lenC .str v4 s2 fun v8 s9 =>
  binC .gtr .plain v8 (.d (.int .i64 0)) s9 fun v10 s11 =>
  condC v10 (ACall P zhf [dm v4] s11 fun v12 s13 =>
  zi v12 0 s13 fun v14 s15 =>
  zi v12 1 s15 fun v16 s17 =>
  binC .eql .plain v16 (.d (.int .i64 0)) s17 fun v18 s19 =>
  zf v18 false (fun k => k v14 s19) s19 (fun v20 s21 =>
  zf v18 false (fun k => binC .lss .plain v20 (.d (.int .i64 33)) s21 k) s21 (fun v22 s23 =>
  pickC v18 (.d (.bool true)) v22 s23 fun v24 s25 =>
  zf v24 false (fun k => k v14 s25) s25 (fun v26 s27 =>
  zf v24 false (fun k => binC .geq .plain v26 (.d (.int .i64 127)) s27 k) s27 (fun v28 s29 =>
  zf v24 false (fun k => k v28 s29) s29 (fun v30 s31 =>
  zf v30 true (fun k => k v14 s31) s31 (fun v32 s33 =>
  zf v30 true (fun k => binC .lss .plain v32 (.d (.int .i64 160)) s33 k) s33 (fun v34 s35 =>
  zf v24 false (fun k => pickC v30 v34 (.d (.bool false)) s35 k) s35 (fun v36 s37 =>
  pickC v24 (.d (.bool true)) v36 s37 fun v38 s39 =>
  zf v38 false (fun k => k v14 s39) s39 (fun v40 s41 =>
  zf v38 false (fun k => binC .eql .plain v40 (.d (.int .i64 47)) s41 k) s41 (fun v42 s43 =>
  pickC v38 (.d (.bool true)) v42 s43 fun v44 s45 =>
  zf v44 false (fun k => k v14 s45) s45 (fun v46 s47 =>
  zf v44 false (fun k => binC .eql .plain v46 (.d (.int .i64 65533)) s47 k) s47 (fun v48 s49 =>
  pickC v44 (.d (.bool true)) v48 s49 fun v50 s51 =>
  zf v50 false (fun k => k v6 s51) s51 (fun v52 s53 =>
  zf v50 false (fun k => binC .geq .plain v52 (.d (.int .i64 16)) s53 k) s53 (fun v54 s55 =>
  pickC v50 (.d (.bool true)) v54 s55 fun v56 s57 =>
  condC v56 (Z (consO (some (.d (.int .i64 0))) (some [])) s57) (binC .add .plain v6 (.d (.int .i64 1)) s57 fun v58 s59 =>
  slcC .str v4 (some v16) none none s59 fun v60 s61 =>
  again3 [v60, v58] s61)))))))))))))))) (Z (consO (some v6) (some [])) s11)
theorem s_r06_Runes {P : Program} {x0 : AV} {σ : List AObj} {Z : Option (List AV) → List AObj → Prop} (h : zlh P x0 σ Z) : awp P zhw.body (AtEnd fun fr s => Z (resAs fr s zhw.res) s) (zH 0 [x0]) σ :=
  cast (by kernel_rfl) h
/-- slices.EqualFunc[[]bulla/api.Record,[]bulla/api.Record,bulla/api.Record,bulla/api.Record] -/
def zah (P : Program) (x0 x1 x2 : AV) (σ : List AObj) (Z : Option (List AV) → List AObj → Prop) : Prop :=
  lenC .sl x0 σ fun v1 s2 =>
  lenC .sl x1 s2 fun v3 s4 =>
  binC .neq .plain v1 v3 s4 fun v5 s6 =>
  condC v5 (Z (consO (some (.d (.bool false))) (some [])) s6) (lenC .sl x0 s6 fun v7 s8 =>
  loopC [(.d (.int .i64 0))] s8 fun vs9 s10 again11 =>
  headC vs9 fun v12 vs13 =>
  binC .lss .plain v12 v7 s10 fun v14 s15 =>
  condC v14 (zy none 1 x0 v12 s15 fun v16 s17 =>
  loadC false 1 v16 s17 fun v18 s19 =>
  zy none 1 x1 v12 s19 fun v20 s21 =>
  loadC false 1 v20 s21 fun v22 s23 =>
  zY P x2 [dm v18, dm v22] s23 fun v24 s25 =>
  unC .not v24 s25 fun v26 s27 =>
  condC v26 (Z (consO (some (.d (.bool false))) (some [])) s27) (binC .add .plain v12 (.d (.int .i64 1)) s27 fun v28 s29 =>
  again11 [v28] s29)) (Z (consO (some (.d (.bool true))) (some [])) s15))
theorem zaA {P : Program} {x0 x1 x2 : AV} {σ : List AObj} {Z : Option (List AV) → List AObj → Prop} (h : zah P x0 x1 x2 σ Z) : awp P zaa.body (AtEnd fun fr s => Z (resAs fr s zaa.res) s) (zH 0 [x0, x1, x2]) σ :=
  cast (by kernel_rfl) h
/-- bulla/op.Same$1 -/
def zlj (P : Program) (x0 x1 : AV) (σ : List AObj) (Z : Option (List AV) → List AObj → Prop) : Prop :=
  ACall P zeR [dm x0, dm x1] σ fun v1 s2 =>
  Z (consO (some v1) (some [])) s2
theorem s_op_Same_1 {P : Program} {x0 x1 : AV} {σ : List AObj} {Z : Option (List AV) → List AObj → Prop} (h : zlj P x0 x1 σ Z) : awp P zhy.body (AtEnd fun fr s => Z (resAs fr s zhy.res) s) (zH 0 [x0, x1]) σ :=
  cast (by kernel_rfl) h
/-- bytes.Equal -/
def zio (P : Program) (x0 x1 : AV) (σ : List AObj) (Z : Option (List AV) → List AObj → Prop) : Prop :=
  convC .toStr x0 σ fun v1 s2 =>
  convC .toStr x1 s2 fun v3 s4 =>
  binC .eql .plain v1 v3 s4 fun v5 s6 =>
  Z (consO (some v5) (some [])) s6
theorem zmB {P : Program} {x0 x1 : AV} {σ : List AObj} {Z : Option (List AV) → List AObj → Prop} (h : zio P x0 x1 σ Z) : awp P zfc.body (AtEnd fun fr s => Z (resAs fr s zfc.res) s) (zH 0 [x0, x1]) σ :=
  cast (by kernel_rfl) h
/-- bulla/op.Runes -/
def zmq (P : Program) (x0 : AV) (σ : List AObj) (Z : Option (List AV) → List AObj → Prop) : Prop :=
  zU x0 σ fun v1 s2 =>
  loopC [(.d (.int .i64 0))] s2 fun vs3 s4 again5 =>
  headC vs3 fun v6 vs7 =>
  nextC v1 s4 fun v8 s9 =>
  zi v8 0 s9 fun v10 s11 =>
  condC v10 (zi v8 2 s11 fun v12 s13 =>
  binC .lss .plain v12 (.d (.int .i32 33)) s13 fun v14 s15 =>
  zf v14 false (fun k => k v12 s15) s15 (fun v16 s17 =>
  zf v14 false (fun k => binC .geq .plain v16 (.d (.int .i32 127)) s17 k) s17 (fun v18 s19 =>
  zf v14 false (fun k => k v18 s19) s19 (fun v20 s21 =>
  zf v20 true (fun k => k v12 s21) s21 (fun v22 s23 =>
  zf v20 true (fun k => binC .leq .plain v22 (.d (.int .i32 159)) s23 k) s23 (fun v24 s25 =>
  zf v14 false (fun k => pickC v20 v24 (.d (.bool false)) s25 k) s25 (fun v26 s27 =>
  pickC v14 (.d (.bool true)) v26 s27 fun v28 s29 =>
  zf v28 false (fun k => k v12 s29) s29 (fun v30 s31 =>
  zf v28 false (fun k => binC .eql .plain v30 (.d (.int .i32 47)) s31 k) s31 (fun v32 s33 =>
  pickC v28 (.d (.bool true)) v32 s33 fun v34 s35 =>
  zf v34 false (fun k => k v12 s35) s35 (fun v36 s37 =>
  zf v34 false (fun k => binC .eql .plain v36 (.d (.int .i32 65533)) s37 k) s37 (fun v38 s39 =>
  pickC v34 (.d (.bool true)) v38 s39 fun v40 s41 =>
  condC v40 (Z (consO (some (.d (.int .i64 0))) (some [])) s41) (binC .add .plain v6 (.d (.int .i64 1)) s41 fun v42 s43 =>
  again5 [v42] s43)))))))))))) (binC .gtr .plain v6 (.d (.int .i64 16)) s11 fun v44 s45 =>
  condC v44 (Z (consO (some (.d (.int .i64 0))) (some [])) s45) (Z (consO (some v6) (some [])) s45))
theorem s_op_Runes {P : Program} {x0 : AV} {σ : List AObj} {Z : Option (List AV) → List AObj → Prop} (h : zmq P x0 σ Z) : awp P zji.body (AtEnd fun fr s => Z (resAs fr s zji.res) s) (zH 0 [x0]) σ :=
  cast (by kernel_rfl) h
/-- slices.IndexFunc[[]bulla/api.Record,bulla/api.Record] -/
def zaI (P : Program) (x0 x1 : AV) (σ : List AObj) (Z : Option (List AV) → List AObj → Prop) : Prop :=
  lenC .sl x0 σ fun v1 s2 =>
  loopC [(.d (.int .i64 0))] s2 fun vs3 s4 again5 =>
  headC vs3 fun v6 vs7 =>
  binC .lss .plain v6 v1 s4 fun v8 s9 =>
  condC v8 (zy none 1 x0 v6 s9 fun v10 s11 =>
  loadC false 1 v10 s11 fun v12 s13 =>
  zY P x1 [dm v12] s13 fun v14 s15 =>
  condC v14 (Z (consO (some v6) (some [])) s15) (binC .add .plain v6 (.d (.int .i64 1)) s15 fun v16 s17 =>
  again5 [v16] s17)) (Z (consO (some (.d (.int .i64 (-1)))) (some [])) s9)
theorem zbz {P : Program} {x0 x1 : AV} {σ : List AObj} {Z : Option (List AV) → List AObj → Prop} (h : zaI P x0 x1 σ Z) : awp P zao.body (AtEnd fun fr s => Z (resAs fr s zao.res) s) (zH 0 [x0, x1]) σ :=
  cast (by kernel_rfl) h
/-- bulla/bullaref06.rune1 -/
def zlg (P : Program) (x0 : AV) (σ : List AObj) (Z : Option (List AV) → List AObj → Prop) : Prop :=
  idxSC x0 (.d (.int .i64 0)) σ fun v1 s2 =>
  ACall P ziy [dm v1] s2 fun v3 s4 =>
  binC .eql .plain v3 (.d (.int .i64 0)) s4 fun v5 s6 =>
  zf v5 false (fun k => k v3 s6) s6 (fun v7 s8 =>
  zf v5 false (fun k => k x0 s8) s8 (fun v9 s10 =>
  zf v5 false (fun k => lenC .str v9 s10 k) s10 (fun v11 s12 =>
  zf v5 false (fun k => binC .gtr .plain v7 v11 s12 k) s12 (fun v13 s14 =>
  pickC v5 (.d (.bool true)) v13 s14 fun v15 s16 =>
  condC v15 (Z (consO (some (.d (.int .i64 0))) (consO (some (.d (.int .i64 0))) (some []))) s16) (binC .eql .plain v3 (.d (.int .i64 1)) s16 fun v17 s18 =>
  condC v17 (idxSC x0 (.d (.int .i64 0)) s18 fun v19 s20 =>
  convC (.int .i64) v19 s20 fun v21 s22 =>
  Z (consO (some v21) (consO (some (.d (.int .i64 1))) (some []))) s22) (idxSC x0 (.d (.int .i64 0)) s18 fun v23 s24 =>
  convC (.int .i64) v23 s24 fun v25 s26 =>
  binC .sub .plain (.d (.int .i64 7)) v3 s26 fun v27 s28 =>
  binC .shl .plain (.d (.int .i64 1)) v27 s28 fun v29 s30 =>
  binC .sub .plain v29 (.d (.int .i64 1)) s30 fun v31 s32 =>
  binC .and .plain v25 v31 s32 fun v33 s34 =>
  loopC [v33, (.d (.int .i64 1))] s34 fun vs35 s36 again37 =>
  headC vs35 fun v38 vs39 =>
  headC vs39 fun v40 vs41 =>
  binC .lss .plain v40 v3 s36 fun v42 s43 =>
  condC v42 (idxSC x0 v40 s43 fun v44 s45 =>
  binC .lss .plain v44 (.d (.int .u8 128)) s45 fun v46 s47 =>
  zf v46 false (fun k => k x0 s47) s47 (fun v48 s49 =>
  zf v46 false (fun k => k v40 s49) s49 (fun v50 s51 =>
  zf v46 false (fun k => idxSC v48 v50 s51 k) s51 (fun v52 s53 =>
  zf v46 false (fun k => binC .geq .plain v52 (.d (.int .u8 192)) s53 k) s53 (fun v54 s55 =>
  pickC v46 (.d (.bool true)) v54 s55 fun v56 s57 =>
  condC v56 (Z (consO (some (.d (.int .i64 0))) (consO (some (.d (.int .i64 0))) (some []))) s57) (binC .mul .plain v38 (.d (.int .i64 64)) s57 fun v58 s59 =>
  idxSC x0 v40 s59 fun v60 s61 =>
  convC (.int .i64) v60 s61 fun v62 s63 =>
  binC .rem .plain v62 (.d (.int .i64 64)) s63 fun v64 s65 =>
  binC .add .plain v58 v64 s65 fun v66 s67 =>
  binC .add .plain v40 (.d (.int .i64 1)) s67 fun v68 s69 =>
  again37 [v66, v68] s69)))))) (zl false 1 5 (fillV (rep [(.d (.int .i64 0))] 5) [(0, 1, (.d (.int .i64 0))), (1, 1, (.d (.int .i64 0))), (2, 1, (.d (.int .i64 128))), (3, 1, (.d (.int .i64 2048))), (4, 1, (.d (.int .i64 65536)))]) s43 fun v70 s71 =>
  zy none 1 v70 v3 s71 fun v72 s73 =>
  loadC false 1 v72 s73 fun v74 s75 =>
  binC .lss .plain v38 v74 s75 fun v76 s77 =>
  zf v76 false (fun k => k v38 s77) s77 (fun v78 s79 =>
  zf v76 false (fun k => binC .gtr .plain v78 (.d (.int .i64 1114111)) s79 k) s79 (fun v80 s81 =>
  pickC v76 (.d (.bool true)) v80 s81 fun v82 s83 =>
  zf v82 false (fun k => k v38 s83) s83 (fun v84 s85 =>
  zf v82 false (fun k => binC .geq .plain v84 (.d (.int .i64 55296)) s85 k) s85 (fun v86 s87 =>
  zf v82 false (fun k => k v86 s87) s87 (fun v88 s89 =>
  zf v88 true (fun k => k v38 s89) s89 (fun v90 s91 =>
  zf v88 true (fun k => binC .lss .plain v90 (.d (.int .i64 57344)) s91 k) s91 (fun v92 s93 =>
  zf v82 false (fun k => pickC v88 v92 (.d (.bool false)) s93 k) s93 (fun v94 s95 =>
  pickC v82 (.d (.bool true)) v94 s95 fun v96 s97 =>
  condC v96 (Z (consO (some (.d (.int .i64 0))) (consO (some (.d (.int .i64 0))) (some []))) s97) (Z (consO (some v38) (consO (some v3) (some []))) s97))))))))))))))))
theorem s_r06_rune1 {P : Program} {x0 : AV} {σ : List AObj} {Z : Option (List AV) → List AObj → Prop} (h : zlg P x0 σ Z) : awp P zhv.body (AtEnd fun fr s => Z (resAs fr s zhv.res) s) (zH 0 [x0]) σ :=
  cast (by kernel_rfl) h
/-- bulla/bullaref06.size -/
def zmn (P : Program) (x0 : AV) (σ : List AObj) (Z : Option (List AV) → List AObj → Prop) : Prop :=
  binC .lss .plain x0 (.d (.int .u8 128)) σ fun v1 s2 =>
  condC v1 (Z (consO (some (.d (.int .i64 1))) (some [])) s2) (binC .geq .plain x0 (.d (.int .u8 194)) s2 fun v3 s4 =>
  zf v3 true (fun k => k x0 s4) s4 (fun v5 s6 =>
  zf v3 true (fun k => binC .lss .plain v5 (.d (.int .u8 224)) s6 k) s6 (fun v7 s8 =>
  pickC v3 v7 (.d (.bool false)) s8 fun v9 s10 =>
  condC v9 (Z (consO (some (.d (.int .i64 2))) (some [])) s10) (binC .geq .plain x0 (.d (.int .u8 224)) s10 fun v11 s12 =>
  zf v11 true (fun k => k x0 s12) s12 (fun v13 s14 =>
  zf v11 true (fun k => binC .lss .plain v13 (.d (.int .u8 240)) s14 k) s14 (fun v15 s16 =>
  pickC v11 v15 (.d (.bool false)) s16 fun v17 s18 =>
  condC v17 (Z (consO (some (.d (.int .i64 3))) (some [])) s18) (binC .geq .plain x0 (.d (.int .u8 240)) s18 fun v19 s20 =>
  zf v19 true (fun k => k x0 s20) s20 (fun v21 s22 =>
  zf v19 true (fun k => binC .lss .plain v21 (.d (.int .u8 245)) s22 k) s22 (fun v23 s24 =>
  pickC v19 v23 (.d (.bool false)) s24 fun v25 s26 =>
  condC v25 (Z (consO (some (.d (.int .i64 4))) (some [])) s26) (Z (consO (some (.d (.int .i64 0))) (some [])) s26))))))))))
theorem s_r06_size {P : Program} {x0 : AV} {σ : List AObj} {Z : Option (List AV) → List AObj → Prop} (h : zmn P x0 σ Z) : awp P zjf.body (AtEnd fun fr s => Z (resAs fr s zjf.res) s) (zH 0 [x0]) σ :=
  cast (by kernel_rfl) h
end Go.Proofs.Ytcappjcojggehaa
