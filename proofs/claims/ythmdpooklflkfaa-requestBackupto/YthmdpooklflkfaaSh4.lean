/- The conditions of each function, its slots as variables, and that the logic's conditions are these. Printed by program. -/
import Derived.Test.YthmdpooklflkfaaAf4
set_option linter.all false
set_option maxRecDepth 100000
set_option linter.unusedVariables false
namespace Go.Proofs.Ythmdpooklflkfaa
open Go.AW
/-- bulla/request.known -/
def S_request_known (P : Program) (x0 : AV) (σ : List AObj) (Z : Option (List AV) → List AObj → Prop) : Prop :=
  ACall P n_ideal_Table_Len [dm x0] σ fun v1 s2 =>
  binC .gtr .plain v1 (.d (.int .i64 0)) s2 fun v3 s4 =>
  guardC v3 false (fun k => k x0 s4) s4 (fun v5 s6 =>
  guardC v3 false (fun k => ACall P n_ideal_Table_Clone [dm v5] s6 k) s6 (fun v7 s8 =>
  guardC v3 false (fun k => binC .neq .ptr v7 (.d .nilp) s8 k) s8 (fun v9 s10 =>
  pickC v3 (.d (.bool true)) v9 s10 fun v11 s12 =>
  Z (consO (some v11) (some [])) s12)))
theorem s_request_known {P : Program} {x0 : AV} {σ : List AObj} {Z : Option (List AV) → List AObj → Prop} (h : S_request_known P x0 σ Z) : awp P A_request_known.body (AtEnd fun fr s => Z (resAs fr s A_request_known.res) s) (slots0 0 [x0]) σ :=
  cast (by kernel_rfl) h
/-- (*bulla/codec.Reader).Num -/
def S_codec_Reader_Num (P : Program) (x0 x1 : AV) (σ : List AObj) (Z : Option (List AV) → List AObj → Prop) : Prop :=
  ACall P n_codec_Reader_stuck [dm x0] σ fun v1 s2 =>
  condC v1 (Z (consO (some (.d (.int .u64 0))) (some [])) s2) ((fun (k3 : List AObj → Prop) => loopC [(.d (.int .u64 0)), (.d (.int .i64 0))] s2 fun vs7 s8 again9 =>
  headC vs7 fun v10 vs11 =>
  headC vs11 fun v12 vs13 =>
  binC .lss .plain v12 (.d (.int .i64 10)) s8 fun v14 s15 =>
  condC v14 (nilC x0 s15 fun v16 s17 =>
  faddrC 0 v16 s17 fun v18 s19 =>
  loadC false 1 v18 s19 fun v20 s21 =>
  lenC .sl v20 s21 fun v22 s23 =>
  binC .geq .plain v12 v22 s23 fun v24 s25 =>
  condC v24 (ACall P n_codec_Reader_Fail [dm x0, dm (.d (.int .i64 10))] s25 fun v26 s27 =>
  Z (consO (some (.d (.int .u64 0))) (some [])) s27) (nilC x0 s25 fun v28 s29 =>
  faddrC 0 v28 s29 fun v30 s31 =>
  loadC false 1 v30 s31 fun v32 s33 =>
  iaddrC none 1 v32 v12 s33 fun v34 s35 =>
  loadC false 1 v34 s35 fun v36 s37 =>
  binC .and .plain v36 (.d (.int .u8 127)) s37 fun v38 s39 =>
  convC (.int .u64) v38 s39 fun v40 s41 =>
  binC .mul .plain (.d (.int .i64 7)) v12 s41 fun v42 s43 =>
  binC .shl .plain v40 v42 s43 fun v44 s45 =>
  binC .or .plain v10 v44 s45 fun v46 s47 =>
  binC .gtr .plain v36 (.d (.int .u8 127)) s47 fun v48 s49 =>
  condC v48 (binC .add .plain v12 (.d (.int .i64 1)) s49 fun v50 s51 =>
  again9 [v46, v50] s51) (binC .gtr .plain v12 (.d (.int .i64 0)) s49 fun v52 s53 =>
  guardC v52 true (fun k => k v36 s53) s53 (fun v54 s55 =>
  guardC v52 true (fun k => binC .eql .plain v54 (.d (.int .u8 0)) s55 k) s55 (fun v56 s57 =>
  pickC v52 v56 (.d (.bool false)) s57 fun v58 s59 =>
  guardC v58 false (fun k => k v12 s59) s59 (fun v60 s61 =>
  guardC v58 false (fun k => binC .eql .plain v60 (.d (.int .i64 9)) s61 k) s61 (fun v62 s63 =>
  guardC v58 false (fun k => k v62 s63) s63 (fun v64 s65 =>
  guardC v64 true (fun k => k v36 s65) s65 (fun v66 s67 =>
  guardC v64 true (fun k => binC .gtr .plain v66 (.d (.int .u8 1)) s67 k) s67 (fun v68 s69 =>
  guardC v58 false (fun k => pickC v64 v68 (.d (.bool false)) s69 k) s69 (fun v70 s71 =>
  pickC v58 (.d (.bool true)) v70 s71 fun v72 s73 =>
  guardC v72 false (fun k => k v46 s73) s73 (fun v74 s75 =>
  guardC v72 false (fun k => k x1 s75) s75 (fun v76 s77 =>
  guardC v72 false (fun k => binC .gtr .plain v74 v76 s77 k) s77 (fun v78 s79 =>
  pickC v72 (.d (.bool true)) v78 s79 fun v80 s81 =>
  condC v80 (k3 s81) (nilC x0 s81 fun v82 s83 =>
  faddrC 0 v82 s83 fun v84 s85 =>
  loadC false 1 v84 s85 fun v86 s87 =>
  binC .add .plain v12 (.d (.int .i64 1)) s87 fun v88 s89 =>
  slcC (.sl 1) v86 (some v88) none none s89 fun v90 s91 =>
  nilC x0 s91 fun v92 s93 =>
  faddrC 0 v92 s93 fun v94 s95 =>
  storeC 1 v94 v90 s95 fun _ s97 =>
  Z (consO (some v46) (some [])) s97))))))))))))))) (k3 s15))
  (fun  s4 => ACall P n_codec_Reader_Fail [dm x0, dm (.d (.int .i64 11))] s4 fun v5 s6 =>
  Z (consO (some (.d (.int .u64 0))) (some [])) s6))
theorem s_codec_Reader_Num {P : Program} {x0 x1 : AV} {σ : List AObj} {Z : Option (List AV) → List AObj → Prop} (h : S_codec_Reader_Num P x0 x1 σ Z) : awp P A_codec_Reader_Num.body (AtEnd fun fr s => Z (resAs fr s A_codec_Reader_Num.res) s) (slots0 0 [x0, x1]) σ :=
  cast (by kernel_rfl) h
/-- bulla/op.Take -/
def S_op_Take (P : Program) (x0 : AV) (σ : List AObj) (Z : Option (List AV) → List AObj → Prop) : Prop :=
  allocC [(.d (.int .i64 0)), (.d (.str [])), (.d (.str [])), (.d (.int .i64 0)), (.exact [])] σ fun v1 s2 =>
  ACall P n_codec_Reader_Num [dm x0, dm (.d (.int .u64 4))] s2 fun v3 s4 =>
  convC (.int .i64) v3 s4 fun v5 s6 =>
  buildC (fillV [(.d (.int .i64 0)), (.d (.str [])), (.d (.str [])), (.d (.int .i64 0)), (.exact [])] [(0, 1, v5)]) s6 fun v7 s8 =>
  allocC [(.d (.int .i64 0)), (.d (.str [])), (.d (.str [])), (.d (.int .i64 0)), (.exact [])] s8 fun v9 s10 =>
  storeC 5 v9 v7 s10 fun _ s12 =>
  (fun (k13 : List AObj → Prop) => faddrC 0 v9 s12 fun v100 s101 =>
  loadC false 1 v100 s101 fun v102 s103 =>
  binC .neq .plain v102 (.d (.int .i64 0)) s103 fun v104 s105 =>
  condC v104 (ACall P n_codec_Reader_Bytes [dm x0, dm (.d (.int .i64 64))] s105 fun v106 s107 =>
  convC .toStr v106 s107 fun v108 s109 =>
  faddrC 1 v9 s109 fun v110 s111 =>
  storeC 1 v110 v108 s111 fun _ s113 =>
  k13 s113) (k13 s105))
  (fun  s14 => (fun (k15 : List AObj → Prop) => faddrC 0 v9 s14 fun v41 s42 =>
  loadC false 1 v41 s42 fun v43 s44 =>
  binC .eql .plain v43 (.d (.int .i64 2)) s44 fun v45 s46 =>
  condC v45 (ACall P n_codec_Reader_Num [dm x0, dm (.d (.int .u64 4))] s46 fun v47 s48 =>
  loopC [(.d (.int .u64 0))] s48 fun vs49 s50 again51 =>
  headC vs49 fun v52 vs53 =>
  binC .lss .plain v52 v47 s50 fun v54 s55 =>
  condC v54 (faddrC 4 v9 s55 fun v56 s57 =>
  loadC false 1 v56 s57 fun v58 s59 =>
  ACall P n_codec_Reader_Bytes [dm x0, dm (.d (.int .i64 64))] s59 fun v60 s61 =>
  keepO v56 s59 s61 ∧ (mksliceC false 1 1 (fillV (rep [(.exact [])] 1) [(0, 1, v60)]) s61 fun v62 s63 =>
  appendC 1 24 v58 v62 s63 fun v64 s65 =>
  faddrC 4 v9 s65 fun v66 s67 =>
  storeC 1 v66 v64 s67 fun _ s69 =>
  binC .add .plain v52 (.d (.int .u64 1)) s69 fun v70 s71 =>
  again51 [v70] s71)) (k15 s55)) (binC .eql .plain v43 (.d (.int .i64 3)) s46 fun v72 s73 =>
  condC v72 (ACall P n_codec_Reader_Bytes [dm x0, dm (.d (.int .i64 64))] s73 fun v74 s75 =>
  convC .toStr v74 s75 fun v76 s77 =>
  faddrC 2 v9 s77 fun v78 s79 =>
  storeC 1 v78 v76 s79 fun _ s81 =>
  ACall P n_codec_Reader_Num [dm x0, dm (.d (.int .u64 9007199254740992))] s81 fun v82 s83 =>
  convC (.int .i64) v82 s83 fun v84 s85 =>
  faddrC 3 v9 s85 fun v86 s87 =>
  storeC 1 v86 v84 s87 fun _ s89 =>
  k15 s89) (binC .eql .plain v43 (.d (.int .i64 4)) s73 fun v90 s91 =>
  condC v90 (ACall P n_codec_Reader_Num [dm x0, dm (.d (.int .u64 9007199254740992))] s91 fun v92 s93 =>
  convC (.int .i64) v92 s93 fun v94 s95 =>
  faddrC 3 v9 s95 fun v96 s97 =>
  storeC 1 v96 v94 s97 fun _ s99 =>
  k15 s99) (k15 s91))))
  (fun  s16 => (fun (k17 : List AObj → Prop) => ACall P n_codec_Reader_Err [dm x0] s16 fun v31 s32 =>
  binC .eql .plain v31 (.d (.int .i64 0)) s32 fun v33 s34 =>
  condC v33 (loadC true 5 v9 s34 fun v35 s36 =>
  ACall P n_op_Check [dm v35] s36 fun v37 s38 =>
  ACall P n_codec_Reader_Fail [dm x0, dm v37] s38 fun v39 s40 =>
  k17 s40) (k17 s34))
  (fun  s18 => ACall P n_codec_Reader_Err [dm x0] s18 fun v19 s20 =>
  binC .neq .plain v19 (.d (.int .i64 0)) s20 fun v21 s22 =>
  condC v21 (buildC (fillV [(.d (.int .i64 0)), (.d (.str [])), (.d (.str [])), (.d (.int .i64 0)), (.exact [])] []) s22 fun v23 s24 =>
  storeC 5 v1 v23 s24 fun _ s26 =>
  Z (consO (cellA v1 s26 true 5) (some [])) s26) (loadC true 5 v9 s22 fun v27 s28 =>
  storeC 5 v1 v27 s28 fun _ s30 =>
  Z (consO (cellA v1 s30 true 5) (some [])) s30))))
theorem s_op_Take {P : Program} {x0 : AV} {σ : List AObj} {Z : Option (List AV) → List AObj → Prop} (h : S_op_Take P x0 σ Z) : awp P A_op_Take.body (AtEnd fun fr s => Z (resAs fr s A_op_Take.res) s) (slots0 0 [x0]) σ :=
  cast (by kernel_rfl) h
/-- bulla/bullaref06.Same -/
def S_r06_Same (P : Program) (x0 x1 : AV) (σ : List AObj) (Z : Option (List AV) → List AObj → Prop) : Prop :=
  boxC x0 σ fun v1 s2 =>
  boxC x1 s2 fun v3 s4 =>
  faddrC 0 v1 s4 fun v5 s6 =>
  loadC false 1 v5 s6 fun v7 s8 =>
  faddrC 0 v3 s8 fun v9 s10 =>
  loadC false 1 v9 s10 fun v11 s12 =>
  binC .neq .plain v7 v11 s12 fun v13 s14 =>
  guardC v13 false (fun k => faddrC 1 v1 s14 k) s14 (fun v15 s16 =>
  guardC v13 false (fun k => loadC false 1 v15 s16 k) s16 (fun v17 s18 =>
  guardC v13 false (fun k => faddrC 1 v3 s18 k) s18 (fun v19 s20 =>
  guardC v13 false (fun k => loadC false 1 v19 s20 k) s20 (fun v21 s22 =>
  guardC v13 false (fun k => binC .neq .plain v17 v21 s22 k) s22 (fun v23 s24 =>
  pickC v13 (.d (.bool true)) v23 s24 fun v25 s26 =>
  guardC v25 false (fun k => faddrC 2 v1 s26 k) s26 (fun v27 s28 =>
  guardC v25 false (fun k => loadC false 1 v27 s28 k) s28 (fun v29 s30 =>
  guardC v25 false (fun k => faddrC 2 v3 s30 k) s30 (fun v31 s32 =>
  guardC v25 false (fun k => loadC false 1 v31 s32 k) s32 (fun v33 s34 =>
  guardC v25 false (fun k => binC .neq .plain v29 v33 s34 k) s34 (fun v35 s36 =>
  pickC v25 (.d (.bool true)) v35 s36 fun v37 s38 =>
  guardC v37 false (fun k => faddrC 3 v1 s38 k) s38 (fun v39 s40 =>
  guardC v37 false (fun k => loadC false 1 v39 s40 k) s40 (fun v41 s42 =>
  guardC v37 false (fun k => faddrC 3 v3 s42 k) s42 (fun v43 s44 =>
  guardC v37 false (fun k => loadC false 1 v43 s44 k) s44 (fun v45 s46 =>
  guardC v37 false (fun k => binC .neq .plain v41 v45 s46 k) s46 (fun v47 s48 =>
  pickC v37 (.d (.bool true)) v47 s48 fun v49 s50 =>
  guardC v49 false (fun k => faddrC 4 v1 s50 k) s50 (fun v51 s52 =>
  guardC v49 false (fun k => loadC false 1 v51 s52 k) s52 (fun v53 s54 =>
  guardC v49 false (fun k => lenC .sl v53 s54 k) s54 (fun v55 s56 =>
  guardC v49 false (fun k => faddrC 4 v3 s56 k) s56 (fun v57 s58 =>
  guardC v49 false (fun k => loadC false 1 v57 s58 k) s58 (fun v59 s60 =>
  guardC v49 false (fun k => lenC .sl v59 s60 k) s60 (fun v61 s62 =>
  guardC v49 false (fun k => binC .neq .plain v55 v61 s62 k) s62 (fun v63 s64 =>
  pickC v49 (.d (.bool true)) v63 s64 fun v65 s66 =>
  condC v65 (Z (consO (some (.d (.bool false))) (some [])) s66) (loopC [(.d (.int .i64 0))] s66 fun vs67 s68 again69 =>
  headC vs67 fun v70 vs71 =>
  faddrC 4 v1 s68 fun v72 s73 =>
  loadC false 1 v72 s73 fun v74 s75 =>
  lenC .sl v74 s75 fun v76 s77 =>
  binC .lss .plain v70 v76 s77 fun v78 s79 =>
  condC v78 (faddrC 4 v1 s79 fun v80 s81 =>
  loadC false 1 v80 s81 fun v82 s83 =>
  iaddrC none 1 v82 v70 s83 fun v84 s85 =>
  loadC false 1 v84 s85 fun v86 s87 =>
  convC .toStr v86 s87 fun v88 s89 =>
  faddrC 4 v3 s89 fun v90 s91 =>
  loadC false 1 v90 s91 fun v92 s93 =>
  iaddrC none 1 v92 v70 s93 fun v94 s95 =>
  loadC false 1 v94 s95 fun v96 s97 =>
  convC .toStr v96 s97 fun v98 s99 =>
  binC .neq .plain v88 v98 s99 fun v100 s101 =>
  condC v100 (Z (consO (some (.d (.bool false))) (some [])) s101) (binC .add .plain v70 (.d (.int .i64 1)) s101 fun v102 s103 =>
  again69 [v102] s103)) (Z (consO (some (.d (.bool true))) (some [])) s79))))))))))))))))))))))))
theorem s_r06_Same {P : Program} {x0 x1 : AV} {σ : List AObj} {Z : Option (List AV) → List AObj → Prop} (h : S_r06_Same P x0 x1 σ Z) : awp P A_r06_Same.body (AtEnd fun fr s => Z (resAs fr s A_r06_Same.res) s) (slots0 0 [x0, x1]) σ :=
  cast (by kernel_rfl) h
/-- (*bulla/codec.Reader).Bytes -/
def S_codec_Reader_Bytes (P : Program) (x0 x1 : AV) (σ : List AObj) (Z : Option (List AV) → List AObj → Prop) : Prop :=
  maxC [(.d (.int .i64 0)), x1] σ fun v1 s2 =>
  convC (.int .u64) v1 s2 fun v3 s4 =>
  ACall P n_codec_Reader_Num [dm x0, dm v3] s4 fun v5 s6 =>
  convC (.int .i64) v5 s6 fun v7 s8 =>
  ACall P n_codec_Reader_Take [dm x0, dm v7] s8 fun v9 s10 =>
  Z (consO (some v9) (some [])) s10
theorem s_codec_Reader_Bytes {P : Program} {x0 x1 : AV} {σ : List AObj} {Z : Option (List AV) → List AObj → Prop} (h : S_codec_Reader_Bytes P x0 x1 σ Z) : awp P A_codec_Reader_Bytes.body (AtEnd fun fr s => Z (resAs fr s A_codec_Reader_Bytes.res) s) (slots0 0 [x0, x1]) σ :=
  cast (by kernel_rfl) h
/-- (*bulla/codec.Reader).Fail -/
def S_codec_Reader_Fail (P : Program) (x0 x1 : AV) (σ : List AObj) (Z : Option (List AV) → List AObj → Prop) : Prop :=
  ACall P n_codec_Reader_stuck [dm x0] σ fun v1 s2 =>
  unC .not v1 s2 fun v3 s4 =>
  condC v3 (nilC x0 s4 fun v5 s6 =>
  faddrC 1 v5 s6 fun v7 s8 =>
  storeC 1 v7 x1 s8 fun _ s10 =>
  Z (some []) s10) (Z (some []) s4)
theorem s_codec_Reader_Fail {P : Program} {x0 x1 : AV} {σ : List AObj} {Z : Option (List AV) → List AObj → Prop} (h : S_codec_Reader_Fail P x0 x1 σ Z) : awp P A_codec_Reader_Fail.body (AtEnd fun fr s => Z (resAs fr s A_codec_Reader_Fail.res) s) (slots0 0 [x0, x1]) σ :=
  cast (by kernel_rfl) h
/-- (*bulla/codec.Reader).stuck -/
def S_codec_Reader_stuck (P : Program) (x0 : AV) (σ : List AObj) (Z : Option (List AV) → List AObj → Prop) : Prop :=
  binC .eql .ptr x0 (.d .nilp) σ fun v1 s2 =>
  guardC v1 false (fun k => k x0 s2) s2 (fun v3 s4 =>
  guardC v1 false (fun k => nilC v3 s4 k) s4 (fun v5 s6 =>
  guardC v1 false (fun k => faddrC 2 v5 s6 k) s6 (fun v7 s8 =>
  guardC v1 false (fun k => loadC false 1 v7 s8 k) s8 (fun v9 s10 =>
  guardC v1 false (fun k => unC .not v9 s10 k) s10 (fun v11 s12 =>
  pickC v1 (.d (.bool true)) v11 s12 fun v13 s14 =>
  guardC v13 false (fun k => k x0 s14) s14 (fun v15 s16 =>
  guardC v13 false (fun k => nilC v15 s16 k) s16 (fun v17 s18 =>
  guardC v13 false (fun k => faddrC 1 v17 s18 k) s18 (fun v19 s20 =>
  guardC v13 false (fun k => loadC false 1 v19 s20 k) s20 (fun v21 s22 =>
  guardC v13 false (fun k => binC .neq .plain v21 (.d (.int .i64 0)) s22 k) s22 (fun v23 s24 =>
  pickC v13 (.d (.bool true)) v23 s24 fun v25 s26 =>
  Z (consO (some v25) (some [])) s26))))))))))
theorem s_codec_Reader_stuck {P : Program} {x0 : AV} {σ : List AObj} {Z : Option (List AV) → List AObj → Prop} (h : S_codec_Reader_stuck P x0 σ Z) : awp P A_codec_Reader_stuck.body (AtEnd fun fr s => Z (resAs fr s A_codec_Reader_stuck.res) s) (slots0 0 [x0]) σ :=
  cast (by kernel_rfl) h
/-- bulla/op.only -/
def S_op_only (P : Program) (x0 : AV) (σ : List AObj) (Z : Option (List AV) → List AObj → Prop) : Prop :=
  boxC x0 σ fun v1 s2 =>
  allocC [(.d (.int .i64 0)), (.d (.str [])), (.d (.str [])), (.d (.int .i64 0)), (.exact [])] s2 fun v3 s4 =>
  faddrC 0 v1 s4 fun v5 s6 =>
  loadC false 1 v5 s6 fun v7 s8 =>
  buildC (fillV [(.d (.int .i64 0)), (.d (.str [])), (.d (.str [])), (.d (.int .i64 0)), (.exact [])] [(0, 1, v7)]) s8 fun v9 s10 =>
  allocC [(.d (.int .i64 0)), (.d (.str [])), (.d (.str [])), (.d (.int .i64 0)), (.exact [])] s10 fun v11 s12 =>
  storeC 5 v11 v9 s12 fun _ s14 =>
  (fun (k15 : List AObj → Prop) => faddrC 0 v1 s14 fun v21 s22 =>
  loadC false 1 v21 s22 fun v23 s24 =>
  binC .eql .plain v23 (.d (.int .i64 0)) s24 fun v25 s26 =>
  condC v25 (k15 s26) (binC .eql .plain v23 (.d (.int .i64 1)) s26 fun v27 s28 =>
  condC v27 (faddrC 1 v1 s28 fun v29 s30 =>
  loadC false 1 v29 s30 fun v31 s32 =>
  faddrC 1 v11 s32 fun v33 s34 =>
  storeC 1 v33 v31 s34 fun _ s36 =>
  k15 s36) (binC .eql .plain v23 (.d (.int .i64 2)) s28 fun v37 s38 =>
  condC v37 (faddrC 1 v1 s38 fun v39 s40 =>
  loadC false 1 v39 s40 fun v41 s42 =>
  faddrC 4 v1 s42 fun v43 s44 =>
  loadC false 1 v43 s44 fun v45 s46 =>
  faddrC 1 v11 s46 fun v47 s48 =>
  storeC 1 v47 v41 s48 fun _ s50 =>
  keepO v43 s48 s50 ∧ (faddrC 4 v11 s50 fun v51 s52 =>
  storeC 1 v51 v45 s52 fun _ s54 =>
  k15 s54)) (binC .eql .plain v23 (.d (.int .i64 3)) s38 fun v55 s56 =>
  condC v55 (faddrC 1 v1 s56 fun v57 s58 =>
  loadC false 1 v57 s58 fun v59 s60 =>
  faddrC 2 v1 s60 fun v61 s62 =>
  loadC false 1 v61 s62 fun v63 s64 =>
  faddrC 3 v1 s64 fun v65 s66 =>
  loadC false 1 v65 s66 fun v67 s68 =>
  faddrC 1 v11 s68 fun v69 s70 =>
  storeC 1 v69 v59 s70 fun _ s72 =>
  keepO v61 s70 s72 ∧ (keepO v65 s70 s72 ∧ (faddrC 2 v11 s72 fun v73 s74 =>
  storeC 1 v73 v63 s74 fun _ s76 =>
  keepO v65 s74 s76 ∧ (faddrC 3 v11 s76 fun v77 s78 =>
  storeC 1 v77 v67 s78 fun _ s80 =>
  k15 s80)))) (binC .eql .plain v23 (.d (.int .i64 4)) s56 fun v81 s82 =>
  condC v81 (faddrC 1 v1 s82 fun v83 s84 =>
  loadC false 1 v83 s84 fun v85 s86 =>
  faddrC 3 v1 s86 fun v87 s88 =>
  loadC false 1 v87 s88 fun v89 s90 =>
  faddrC 1 v11 s90 fun v91 s92 =>
  storeC 1 v91 v85 s92 fun _ s94 =>
  keepO v87 s92 s94 ∧ (faddrC 3 v11 s94 fun v95 s96 =>
  storeC 1 v95 v89 s96 fun _ s98 =>
  k15 s98)) (loadC true 5 v11 s82 fun v99 s100 =>
  storeC 5 v3 v99 s100 fun _ s102 =>
  Z (consO (cellA v3 s102 true 5) (consO (some (.d (.bool false))) (some []))) s102))))))
  (fun  s16 => loadC true 5 v11 s16 fun v17 s18 =>
  storeC 5 v3 v17 s18 fun _ s20 =>
  Z (consO (cellA v3 s20 true 5) (consO (some (.d (.bool true))) (some []))) s20)
theorem s_op_only {P : Program} {x0 : AV} {σ : List AObj} {Z : Option (List AV) → List AObj → Prop} (h : S_op_only P x0 σ Z) : awp P A_op_only.body (AtEnd fun fr s => Z (resAs fr s A_op_only.res) s) (slots0 0 [x0]) σ :=
  cast (by kernel_rfl) h
/-- bulla/op.Check$1 -/
def S_op_Check_1 (P : Program) (x0 : AV) (σ : List AObj) (Z : Option (List AV) → List AObj → Prop) : Prop :=
  lenC .sl x0 σ fun v1 s2 =>
  binC .gtr .plain v1 (.d (.int .i64 64)) s2 fun v3 s4 =>
  Z (consO (some v3) (some [])) s4
theorem s_op_Check_1 {P : Program} {x0 : AV} {σ : List AObj} {Z : Option (List AV) → List AObj → Prop} (h : S_op_Check_1 P x0 σ Z) : awp P A_op_Check_1.body (AtEnd fun fr s => Z (resAs fr s A_op_Check_1.res) s) (slots0 0 [x0]) σ :=
  cast (by kernel_rfl) h
/-- bulla/op.Name -/
def S_op_Name (P : Program) (x0 : AV) (σ : List AObj) (Z : Option (List AV) → List AObj → Prop) : Prop :=
  ACall P n_op_Runes [dm x0] σ fun v1 s2 =>
  binC .gtr .plain v1 (.d (.int .i64 0)) s2 fun v3 s4 =>
  Z (consO (some v3) (some [])) s4
theorem s_op_Name {P : Program} {x0 : AV} {σ : List AObj} {Z : Option (List AV) → List AObj → Prop} (h : S_op_Name P x0 σ Z) : awp P A_op_Name.body (AtEnd fun fr s => Z (resAs fr s A_op_Name.res) s) (slots0 0 [x0]) σ :=
  cast (by kernel_rfl) h
/-- slices.ContainsFunc[[]bulla/api.Record,bulla/api.Record] -/
def S_slices_ContainsFunc_api_Record_api_Record (P : Program) (x0 x1 : AV) (σ : List AObj) (Z : Option (List AV) → List AObj → Prop) : Prop :=
  ACall P n_slices_IndexFunc_api_Record_api_Record [dm x0, dm x1] σ fun v1 s2 =>
  binC .geq .plain v1 (.d (.int .i64 0)) s2 fun v3 s4 =>
  Z (consO (some v3) (some [])) s4
theorem s_slices_ContainsFunc_api_Record_api_Record {P : Program} {x0 x1 : AV} {σ : List AObj} {Z : Option (List AV) → List AObj → Prop} (h : S_slices_ContainsFunc_api_Record_api_Record P x0 x1 σ Z) : awp P A_slices_ContainsFunc_api_Record_api_Record.body (AtEnd fun fr s => Z (resAs fr s A_slices_ContainsFunc_api_Record_api_Record.res) s) (slots0 0 [x0, x1]) σ :=
  cast (by kernel_rfl) h
/-- bulla/bullaref06.fields -/
def S_r06_fields (P : Program) (x0 : AV) (σ : List AObj) (Z : Option (List AV) → List AObj → Prop) : Prop :=
  binC .eql .plain x0 (.d (.int .i64 1)) σ fun v1 s2 =>
  condC v1 (Z (consO (some (.d (.bool true))) (consO (some (.d (.bool false))) (consO (some (.d (.bool false))) (consO (some (.d (.bool false))) (some []))))) s2) (binC .eql .plain x0 (.d (.int .i64 2)) s2 fun v3 s4 =>
  condC v3 (Z (consO (some (.d (.bool true))) (consO (some (.d (.bool false))) (consO (some (.d (.bool false))) (consO (some (.d (.bool true))) (some []))))) s4) (binC .eql .plain x0 (.d (.int .i64 3)) s4 fun v5 s6 =>
  condC v5 (Z (consO (some (.d (.bool true))) (consO (some (.d (.bool true))) (consO (some (.d (.bool true))) (consO (some (.d (.bool false))) (some []))))) s6) (binC .eql .plain x0 (.d (.int .i64 4)) s6 fun v7 s8 =>
  condC v7 (Z (consO (some (.d (.bool true))) (consO (some (.d (.bool false))) (consO (some (.d (.bool true))) (consO (some (.d (.bool false))) (some []))))) s8) (Z (consO (some (.d (.bool false))) (consO (some (.d (.bool false))) (consO (some (.d (.bool false))) (consO (some (.d (.bool false))) (some []))))) s8))))
theorem s_r06_fields {P : Program} {x0 : AV} {σ : List AObj} {Z : Option (List AV) → List AObj → Prop} (h : S_r06_fields P x0 σ Z) : awp P A_r06_fields.body (AtEnd fun fr s => Z (resAs fr s A_r06_fields.res) s) (slots0 0 [x0]) σ :=
  cast (by kernel_rfl) h
/-- bulla/bullaref06.Name -/
def S_r06_Name (P : Program) (x0 : AV) (σ : List AObj) (Z : Option (List AV) → List AObj → Prop) : Prop :=
  ACall P n_r06_Runes [dm x0] σ fun v1 s2 =>
  binC .gtr .plain v1 (.d (.int .i64 0)) s2 fun v3 s4 =>
  Z (consO (some v3) (some [])) s4
theorem s_r06_Name {P : Program} {x0 : AV} {σ : List AObj} {Z : Option (List AV) → List AObj → Prop} (h : S_r06_Name P x0 σ Z) : awp P A_r06_Name.body (AtEnd fun fr s => Z (resAs fr s A_r06_Name.res) s) (slots0 0 [x0]) σ :=
  cast (by kernel_rfl) h
/-- slices.EqualFunc[[]bulla/api.Record,[]bulla/api.Record,bulla/api.Record,bulla/api.Record] -/
def S_slices_EqualFunc_api_Record_api_Record_api_Record_api_Record (P : Program) (x0 x1 x2 : AV) (σ : List AObj) (Z : Option (List AV) → List AObj → Prop) : Prop :=
  lenC .sl x0 σ fun v1 s2 =>
  lenC .sl x1 s2 fun v3 s4 =>
  binC .neq .plain v1 v3 s4 fun v5 s6 =>
  condC v5 (Z (consO (some (.d (.bool false))) (some [])) s6) (lenC .sl x0 s6 fun v7 s8 =>
  loopC [(.d (.int .i64 0))] s8 fun vs9 s10 again11 =>
  headC vs9 fun v12 vs13 =>
  binC .lss .plain v12 v7 s10 fun v14 s15 =>
  condC v14 (iaddrC none 1 x0 v12 s15 fun v16 s17 =>
  loadC false 1 v16 s17 fun v18 s19 =>
  iaddrC none 1 x1 v12 s19 fun v20 s21 =>
  loadC false 1 v20 s21 fun v22 s23 =>
  callvC P x2 [dm v18, dm v22] s23 fun v24 s25 =>
  unC .not v24 s25 fun v26 s27 =>
  condC v26 (Z (consO (some (.d (.bool false))) (some [])) s27) (binC .add .plain v12 (.d (.int .i64 1)) s27 fun v28 s29 =>
  again11 [v28] s29)) (Z (consO (some (.d (.bool true))) (some [])) s15))
theorem s_slices_EqualFunc_api_Record_api_Record_api_Record_api_Record {P : Program} {x0 x1 x2 : AV} {σ : List AObj} {Z : Option (List AV) → List AObj → Prop} (h : S_slices_EqualFunc_api_Record_api_Record_api_Record_api_Record P x0 x1 x2 σ Z) : awp P A_slices_EqualFunc_api_Record_api_Record_api_Record_api_Record.body (AtEnd fun fr s => Z (resAs fr s A_slices_EqualFunc_api_Record_api_Record_api_Record_api_Record.res) s) (slots0 0 [x0, x1, x2]) σ :=
  cast (by kernel_rfl) h
/-- bulla/op.Same$1 -/
def S_op_Same_1 (P : Program) (x0 x1 : AV) (σ : List AObj) (Z : Option (List AV) → List AObj → Prop) : Prop :=
  ACall P n_bytes_Equal [dm x0, dm x1] σ fun v1 s2 =>
  Z (consO (some v1) (some [])) s2
theorem s_op_Same_1 {P : Program} {x0 x1 : AV} {σ : List AObj} {Z : Option (List AV) → List AObj → Prop} (h : S_op_Same_1 P x0 x1 σ Z) : awp P A_op_Same_1.body (AtEnd fun fr s => Z (resAs fr s A_op_Same_1.res) s) (slots0 0 [x0, x1]) σ :=
  cast (by kernel_rfl) h
/-- bulla/codec.PutBytes -/
def S_codec_PutBytes (P : Program) (x0 x1 : AV) (σ : List AObj) (Z : Option (List AV) → List AObj → Prop) : Prop :=
  lenC .sl x1 σ fun v1 s2 =>
  convC (.int .u64) v1 s2 fun v3 s4 =>
  ACall P n_codec_PutNum [dm x0, dm v3] s4 fun v5 s6 =>
  appendC 1 1 v5 x1 s6 fun v7 s8 =>
  Z (consO (some v7) (some [])) s8
theorem s_codec_PutBytes {P : Program} {x0 x1 : AV} {σ : List AObj} {Z : Option (List AV) → List AObj → Prop} (h : S_codec_PutBytes P x0 x1 σ Z) : awp P A_codec_PutBytes.body (AtEnd fun fr s => Z (resAs fr s A_codec_PutBytes.res) s) (slots0 0 [x0, x1]) σ :=
  cast (by kernel_rfl) h
/-- bulla/codec.form -/
def S_codec_form (P : Program) (x0 : AV) (σ : List AObj) (Z : Option (List AV) → List AObj → Prop) : Prop :=
  allocC [(.d (.int .u8 0)), (.d (.int .u8 0)), (.d (.int .u8 0)), (.d (.int .u8 0)), (.d (.int .u8 0)), (.d (.int .u8 0)), (.d (.int .u8 0)), (.d (.int .u8 0)), (.d (.int .u8 0)), (.d (.int .u8 0))] σ fun v1 s2 =>
  allocC [(.d (.int .u8 0)), (.d (.int .u8 0)), (.d (.int .u8 0)), (.d (.int .u8 0)), (.d (.int .u8 0)), (.d (.int .u8 0)), (.d (.int .u8 0)), (.d (.int .u8 0)), (.d (.int .u8 0)), (.d (.int .u8 0))] s2 fun v3 s4 =>
  loopC [x0, (.d (.int .i64 0))] s4 fun vs5 s6 again7 =>
  headC vs5 fun v8 vs9 =>
  headC vs9 fun v10 vs11 =>
  binC .gtr .plain v8 (.d (.int .u64 127)) s6 fun v12 s13 =>
  condC v12 (convC (.int .u8) v8 s13 fun v14 s15 =>
  binC .or .plain v14 (.d (.int .u8 128)) s15 fun v16 s17 =>
  iaddrC (some 10) 1 v3 v10 s17 fun v18 s19 =>
  storeC 1 v18 v16 s19 fun _ s21 =>
  binC .shr .plain v8 (.d (.int .u64 7)) s21 fun v22 s23 =>
  binC .add .plain v10 (.d (.int .i64 1)) s23 fun v24 s25 =>
  again7 [v22, v24] s25) (convC (.int .u8) v8 s13 fun v26 s27 =>
  iaddrC (some 10) 1 v3 v10 s27 fun v28 s29 =>
  storeC 1 v28 v26 s29 fun _ s31 =>
  loadC true 10 v3 s31 fun v32 s33 =>
  binC .add .plain v10 (.d (.int .i64 1)) s33 fun v34 s35 =>
  storeC 10 v1 v32 s35 fun _ s37 =>
  Z (consO (cellA v1 s37 true 10) (consO (some v34) (some []))) s37)
theorem s_codec_form {P : Program} {x0 : AV} {σ : List AObj} {Z : Option (List AV) → List AObj → Prop} (h : S_codec_form P x0 σ Z) : awp P A_codec_form.body (AtEnd fun fr s => Z (resAs fr s A_codec_form.res) s) (slots0 0 [x0]) σ :=
  cast (by kernel_rfl) h
/-- slices.Clip[[]byte,byte] -/
def S_slices_Clip_byte_byte (P : Program) (x0 : AV) (σ : List AObj) (Z : Option (List AV) → List AObj → Prop) : Prop :=
  lenC .sl x0 σ fun v1 s2 =>
  lenC .sl x0 s2 fun v3 s4 =>
  slcC (.sl 1) x0 none (some v1) (some v3) s4 fun v5 s6 =>
  Z (consO (some v5) (some [])) s6
theorem s_slices_Clip_byte_byte {P : Program} {x0 : AV} {σ : List AObj} {Z : Option (List AV) → List AObj → Prop} (h : S_slices_Clip_byte_byte P x0 σ Z) : awp P A_slices_Clip_byte_byte.body (AtEnd fun fr s => Z (resAs fr s A_slices_Clip_byte_byte.res) s) (slots0 0 [x0]) σ :=
  cast (by kernel_rfl) h
/-- (*bulla/ideal.Ledger).Len -/
def S_ideal_Ledger_Len (P : Program) (x0 : AV) (σ : List AObj) (Z : Option (List AV) → List AObj → Prop) : Prop :=
  ACall P n_ideal_Ledger_none [dm x0] σ fun v1 s2 =>
  condC v1 (Z (consO (some (.d (.int .i64 0))) (some [])) s2) (nilC x0 s2 fun v3 s4 =>
  faddrC 0 v3 s4 fun v5 s6 =>
  loadC false 1 v5 s6 fun v7 s8 =>
  lenC .sl v7 s8 fun v9 s10 =>
  Z (consO (some v9) (some [])) s10)
theorem s_ideal_Ledger_Len {P : Program} {x0 : AV} {σ : List AObj} {Z : Option (List AV) → List AObj → Prop} (h : S_ideal_Ledger_Len P x0 σ Z) : awp P A_ideal_Ledger_Len.body (AtEnd fun fr s => Z (resAs fr s A_ideal_Ledger_Len.res) s) (slots0 0 [x0]) σ :=
  cast (by kernel_rfl) h
end Go.Proofs.Ythmdpooklflkfaa
