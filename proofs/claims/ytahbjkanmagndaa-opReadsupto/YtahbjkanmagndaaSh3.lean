/- The conditions of each function, its slots as variables, and that the logic's conditions are these. Printed by program. -/
import Derived.Test.YtahbjkanmagndaaAf3
set_option linter.all false
set_option maxRecDepth 100000
set_option linter.unusedVariables false
namespace Go.Proofs.Ytahbjkanmagndaa
open Go.AW
/-- (*bulla/codec.Reader).stuck -/
def S_codec_Reader_stuck (P : Program) (x0 : AV) (σ : List AObj) (Z : Option (List AV) → List AObj → Prop) : Prop :=
  binC .eql .ptr x0 (.d .nilp) σ fun v1 s2 =>
  guardC v1 false (fun k => k x0 s2) s2 (fun v3 s4 =>
  guardC v1 false (fun k => nilC v3 s4 k) s4 (fun v5 s6 =>
  guardC v1 false (fun k => faddrC 2 v5 s6 k) s6 (fun v7 s8 =>
  guardC v1 false (fun k => loadC false 1 v7 s8 k) s8 (fun v9 s10 =>
  guardC v1 false (fun k => unC .not v9 s10 k) s10 (fun v11 s12 =>
  pickC v1 (.d (.bool true)) v11 s12 fun v13 s14 =>
  guardC v13 false (fun k => k x0 s14) s14 (fun v15 s16 =>
  guardC v13 false (fun k => nilC v15 s16 k) s16 (fun v17 s18 =>
  guardC v13 false (fun k => faddrC 1 v17 s18 k) s18 (fun v19 s20 =>
  guardC v13 false (fun k => loadC false 1 v19 s20 k) s20 (fun v21 s22 =>
  guardC v13 false (fun k => binC .neq .plain v21 (.d (.int .i64 0)) s22 k) s22 (fun v23 s24 =>
  pickC v13 (.d (.bool true)) v23 s24 fun v25 s26 =>
  Z (consO (some v25) (some [])) s26))))))))))
theorem s_codec_Reader_stuck {P : Program} {x0 : AV} {σ : List AObj} {Z : Option (List AV) → List AObj → Prop} (h : S_codec_Reader_stuck P x0 σ Z) : awp P A_codec_Reader_stuck.body (AtEnd fun fr s => Z (resAs fr s A_codec_Reader_stuck.res) s) (slots0 0 [x0]) σ :=
  cast (by kernel_rfl) h
/-- (*bulla/bullaref01.Reader).Done -/
def S_r01_Reader_Done (P : Program) (x0 : AV) (σ : List AObj) (Z : Option (List AV) → List AObj → Prop) : Prop :=
  nilC x0 σ fun v1 s2 =>
  faddrC 1 v1 s2 fun v3 s4 =>
  loadC false 1 v3 s4 fun v5 s6 =>
  binC .eql .plain v5 (.d (.int .i64 0)) s6 fun v7 s8 =>
  guardC v7 true (fun k => k x0 s8) s8 (fun v9 s10 =>
  guardC v7 true (fun k => nilC v9 s10 k) s10 (fun v11 s12 =>
  guardC v7 true (fun k => faddrC 0 v11 s12 k) s12 (fun v13 s14 =>
  guardC v7 true (fun k => loadC false 1 v13 s14 k) s14 (fun v15 s16 =>
  guardC v7 true (fun k => lenC .sl v15 s16 k) s16 (fun v17 s18 =>
  guardC v7 true (fun k => binC .gtr .plain v17 (.d (.int .i64 0)) s18 k) s18 (fun v19 s20 =>
  pickC v7 v19 (.d (.bool false)) s20 fun v21 s22 =>
  condC v21 (Z (consO (some (.d (.int .i64 12))) (some [])) s22) (nilC x0 s22 fun v23 s24 =>
  faddrC 1 v23 s24 fun v25 s26 =>
  loadC false 1 v25 s26 fun v27 s28 =>
  Z (consO (some v27) (some [])) s28)))))))
theorem s_r01_Reader_Done {P : Program} {x0 : AV} {σ : List AObj} {Z : Option (List AV) → List AObj → Prop} (h : S_r01_Reader_Done P x0 σ Z) : awp P A_r01_Reader_Done.body (AtEnd fun fr s => Z (resAs fr s A_r01_Reader_Done.res) s) (slots0 0 [x0]) σ :=
  cast (by kernel_rfl) h
/-- (*bulla/bullaref01.Reader).Num -/
def S_r01_Reader_Num (P : Program) (x0 x1 : AV) (σ : List AObj) (Z : Option (List AV) → List AObj → Prop) : Prop :=
  loopC [(.d (.int .u64 0)), (.d (.int .u64 1)), (.d (.int .i64 0))] σ fun vs1 s2 again3 =>
  headC vs1 fun v4 vs5 =>
  headC vs5 fun v6 vs7 =>
  headC vs7 fun v8 vs9 =>
  (fun (k10 : List AObj → Prop) => nilC x0 s2 fun v88 s89 =>
  faddrC 0 v88 s89 fun v90 s91 =>
  loadC false 1 v90 s91 fun v92 s93 =>
  lenC .sl v92 s93 fun v94 s95 =>
  binC .eql .plain v8 v94 s95 fun v96 s97 =>
  condC v96 (ACall P n_r01_Reader_Fail [dm x0, dm (.d (.int .i64 10))] s97 fun v98 s99 =>
  k10 s99) (binC .eql .plain v8 (.d (.int .i64 9)) s97 fun v100 s101 =>
  guardC v100 true (fun k => k x0 s101) s101 (fun v102 s103 =>
  guardC v100 true (fun k => nilC v102 s103 k) s103 (fun v104 s105 =>
  guardC v100 true (fun k => faddrC 0 v104 s105 k) s105 (fun v106 s107 =>
  guardC v100 true (fun k => loadC false 1 v106 s107 k) s107 (fun v108 s109 =>
  guardC v100 true (fun k => k v8 s109) s109 (fun v110 s111 =>
  guardC v100 true (fun k => iaddrC none 1 v108 v110 s111 k) s111 (fun v112 s113 =>
  guardC v100 true (fun k => loadC false 1 v112 s113 k) s113 (fun v114 s115 =>
  guardC v100 true (fun k => binC .gtr .plain v114 (.d (.int .u8 1)) s115 k) s115 (fun v116 s117 =>
  pickC v100 v116 (.d (.bool false)) s117 fun v118 s119 =>
  condC v118 (ACall P n_r01_Reader_Fail [dm x0, dm (.d (.int .i64 11))] s119 fun v120 s121 =>
  k10 s121) (k10 s119)))))))))))
  (fun  s11 => nilC x0 s11 fun v12 s13 =>
  faddrC 1 v12 s13 fun v14 s15 =>
  loadC false 1 v14 s15 fun v16 s17 =>
  binC .neq .plain v16 (.d (.int .i64 0)) s17 fun v18 s19 =>
  condC v18 (Z (consO (some (.d (.int .u64 0))) (some [])) s19) (nilC x0 s19 fun v20 s21 =>
  faddrC 0 v20 s21 fun v22 s23 =>
  loadC false 1 v22 s23 fun v24 s25 =>
  iaddrC none 1 v24 v8 s25 fun v26 s27 =>
  loadC false 1 v26 s27 fun v28 s29 =>
  binC .rem .plain v28 (.d (.int .u8 128)) s29 fun v30 s31 =>
  convC (.int .u64) v30 s31 fun v32 s33 =>
  binC .mul .plain v32 v6 s33 fun v34 s35 =>
  binC .add .plain v4 v34 s35 fun v36 s37 =>
  binC .mul .plain v6 (.d (.int .u64 128)) s37 fun v38 s39 =>
  nilC x0 s39 fun v40 s41 =>
  faddrC 0 v40 s41 fun v42 s43 =>
  loadC false 1 v42 s43 fun v44 s45 =>
  iaddrC none 1 v44 v8 s45 fun v46 s47 =>
  loadC false 1 v46 s47 fun v48 s49 =>
  binC .lss .plain v48 (.d (.int .u8 128)) s49 fun v50 s51 =>
  condC v50 (binC .gtr .plain v8 (.d (.int .i64 0)) s51 fun v52 s53 =>
  guardC v52 true (fun k => k v32 s53) s53 (fun v54 s55 =>
  guardC v52 true (fun k => binC .eql .plain v54 (.d (.int .u64 0)) s55 k) s55 (fun v56 s57 =>
  pickC v52 v56 (.d (.bool false)) s57 fun v58 s59 =>
  guardC v58 false (fun k => k v36 s59) s59 (fun v60 s61 =>
  guardC v58 false (fun k => k x1 s61) s61 (fun v62 s63 =>
  guardC v58 false (fun k => binC .gtr .plain v60 v62 s63 k) s63 (fun v64 s65 =>
  pickC v58 (.d (.bool true)) v64 s65 fun v66 s67 =>
  condC v66 (ACall P n_r01_Reader_Fail [dm x0, dm (.d (.int .i64 11))] s67 fun v68 s69 =>
  Z (consO (some (.d (.int .u64 0))) (some [])) s69) (nilC x0 s67 fun v70 s71 =>
  faddrC 0 v70 s71 fun v72 s73 =>
  loadC false 1 v72 s73 fun v74 s75 =>
  binC .add .plain v8 (.d (.int .i64 1)) s75 fun v76 s77 =>
  slcC (.sl 1) v74 (some v76) none none s77 fun v78 s79 =>
  nilC x0 s79 fun v80 s81 =>
  faddrC 0 v80 s81 fun v82 s83 =>
  storeC 1 v82 v78 s83 fun _ s85 =>
  Z (consO (some v36) (some [])) s85))))))) (binC .add .plain v8 (.d (.int .i64 1)) s51 fun v86 s87 =>
  again3 [v36, v38, v86] s87)))
theorem s_r01_Reader_Num {P : Program} {x0 x1 : AV} {σ : List AObj} {Z : Option (List AV) → List AObj → Prop} (h : S_r01_Reader_Num P x0 x1 σ Z) : awp P A_r01_Reader_Num.body (AtEnd fun fr s => Z (resAs fr s A_r01_Reader_Num.res) s) (slots0 0 [x0, x1]) σ :=
  cast (by kernel_rfl) h
/-- (*bulla/bullaref01.Reader).Bytes -/
def S_r01_Reader_Bytes (P : Program) (x0 x1 : AV) (σ : List AObj) (Z : Option (List AV) → List AObj → Prop) : Prop :=
  maxC [x1, (.d (.int .i64 0))] σ fun v1 s2 =>
  convC (.int .u64) v1 s2 fun v3 s4 =>
  ACall P n_r01_Reader_Num [dm x0, dm v3] s4 fun v5 s6 =>
  convC (.int .i64) v5 s6 fun v7 s8 =>
  ACall P n_r01_Reader_Take [dm x0, dm v7] s8 fun v9 s10 =>
  Z (consO (some v9) (some [])) s10
theorem s_r01_Reader_Bytes {P : Program} {x0 x1 : AV} {σ : List AObj} {Z : Option (List AV) → List AObj → Prop} (h : S_r01_Reader_Bytes P x0 x1 σ Z) : awp P A_r01_Reader_Bytes.body (AtEnd fun fr s => Z (resAs fr s A_r01_Reader_Bytes.res) s) (slots0 0 [x0, x1]) σ :=
  cast (by kernel_rfl) h
/-- (*bulla/bullaref01.Reader).Fail -/
def S_r01_Reader_Fail (P : Program) (x0 x1 : AV) (σ : List AObj) (Z : Option (List AV) → List AObj → Prop) : Prop :=
  (fun (k1 : List AObj → Prop) => nilC x0 σ fun v17 s18 =>
  faddrC 1 v17 s18 fun v19 s20 =>
  loadC false 1 v19 s20 fun v21 s22 =>
  binC .eql .plain v21 (.d (.int .i64 0)) s22 fun v23 s24 =>
  condC v23 (nilC x0 s24 fun v25 s26 =>
  faddrC 1 v25 s26 fun v27 s28 =>
  storeC 1 v27 x1 s28 fun _ s30 =>
  k1 s30) (k1 s24))
  (fun  s2 => nilC x0 s2 fun v3 s4 =>
  faddrC 1 v3 s4 fun v5 s6 =>
  loadC false 1 v5 s6 fun v7 s8 =>
  binC .neq .plain v7 (.d (.int .i64 0)) s8 fun v9 s10 =>
  condC v9 (nilC x0 s10 fun v11 s12 =>
  faddrC 0 v11 s12 fun v13 s14 =>
  storeC 1 v13 (.exact []) s14 fun _ s16 =>
  Z (some []) s16) (Z (some []) s10))
theorem s_r01_Reader_Fail {P : Program} {x0 x1 : AV} {σ : List AObj} {Z : Option (List AV) → List AObj → Prop} (h : S_r01_Reader_Fail P x0 x1 σ Z) : awp P A_r01_Reader_Fail.body (AtEnd fun fr s => Z (resAs fr s A_r01_Reader_Fail.res) s) (slots0 0 [x0, x1]) σ :=
  cast (by kernel_rfl) h
/-- bulla/bullaref06.size -/
def S_r06_size (P : Program) (x0 : AV) (σ : List AObj) (Z : Option (List AV) → List AObj → Prop) : Prop :=
  binC .lss .plain x0 (.d (.int .u8 128)) σ fun v1 s2 =>
  condC v1 (Z (consO (some (.d (.int .i64 1))) (some [])) s2) (binC .geq .plain x0 (.d (.int .u8 194)) s2 fun v3 s4 =>
  guardC v3 true (fun k => k x0 s4) s4 (fun v5 s6 =>
  guardC v3 true (fun k => binC .lss .plain v5 (.d (.int .u8 224)) s6 k) s6 (fun v7 s8 =>
  pickC v3 v7 (.d (.bool false)) s8 fun v9 s10 =>
  condC v9 (Z (consO (some (.d (.int .i64 2))) (some [])) s10) (binC .geq .plain x0 (.d (.int .u8 224)) s10 fun v11 s12 =>
  guardC v11 true (fun k => k x0 s12) s12 (fun v13 s14 =>
  guardC v11 true (fun k => binC .lss .plain v13 (.d (.int .u8 240)) s14 k) s14 (fun v15 s16 =>
  pickC v11 v15 (.d (.bool false)) s16 fun v17 s18 =>
  condC v17 (Z (consO (some (.d (.int .i64 3))) (some [])) s18) (binC .geq .plain x0 (.d (.int .u8 240)) s18 fun v19 s20 =>
  guardC v19 true (fun k => k x0 s20) s20 (fun v21 s22 =>
  guardC v19 true (fun k => binC .lss .plain v21 (.d (.int .u8 245)) s22 k) s22 (fun v23 s24 =>
  pickC v19 v23 (.d (.bool false)) s24 fun v25 s26 =>
  condC v25 (Z (consO (some (.d (.int .i64 4))) (some [])) s26) (Z (consO (some (.d (.int .i64 0))) (some [])) s26))))))))))
theorem s_r06_size {P : Program} {x0 : AV} {σ : List AObj} {Z : Option (List AV) → List AObj → Prop} (h : S_r06_size P x0 σ Z) : awp P A_r06_size.body (AtEnd fun fr s => Z (resAs fr s A_r06_size.res) s) (slots0 0 [x0]) σ :=
  cast (by kernel_rfl) h
/-- slices.IndexFunc[[]bulla/api.Record,bulla/api.Record] -/
def S_slices_IndexFunc_api_Record_api_Record (P : Program) (x0 x1 : AV) (σ : List AObj) (Z : Option (List AV) → List AObj → Prop) : Prop :=
  lenC .sl x0 σ fun v1 s2 =>
  loopC [(.d (.int .i64 0))] s2 fun vs3 s4 again5 =>
  headC vs3 fun v6 vs7 =>
  binC .lss .plain v6 v1 s4 fun v8 s9 =>
  condC v8 (iaddrC none 1 x0 v6 s9 fun v10 s11 =>
  loadC false 1 v10 s11 fun v12 s13 =>
  callvC P x1 [dm v12] s13 fun v14 s15 =>
  condC v14 (Z (consO (some v6) (some [])) s15) (binC .add .plain v6 (.d (.int .i64 1)) s15 fun v16 s17 =>
  again5 [v16] s17)) (Z (consO (some (.d (.int .i64 (-1)))) (some [])) s9)
theorem s_slices_IndexFunc_api_Record_api_Record {P : Program} {x0 x1 : AV} {σ : List AObj} {Z : Option (List AV) → List AObj → Prop} (h : S_slices_IndexFunc_api_Record_api_Record P x0 x1 σ Z) : awp P A_slices_IndexFunc_api_Record_api_Record.body (AtEnd fun fr s => Z (resAs fr s A_slices_IndexFunc_api_Record_api_Record.res) s) (slots0 0 [x0, x1]) σ :=
  cast (by kernel_rfl) h
/-- bulla/codec.form -/
def S_codec_form (P : Program) (x0 : AV) (σ : List AObj) (Z : Option (List AV) → List AObj → Prop) : Prop :=
  allocC [(.d (.int .u8 0)), (.d (.int .u8 0)), (.d (.int .u8 0)), (.d (.int .u8 0)), (.d (.int .u8 0)), (.d (.int .u8 0)), (.d (.int .u8 0)), (.d (.int .u8 0)), (.d (.int .u8 0)), (.d (.int .u8 0))] σ fun v1 s2 =>
  allocC [(.d (.int .u8 0)), (.d (.int .u8 0)), (.d (.int .u8 0)), (.d (.int .u8 0)), (.d (.int .u8 0)), (.d (.int .u8 0)), (.d (.int .u8 0)), (.d (.int .u8 0)), (.d (.int .u8 0)), (.d (.int .u8 0))] s2 fun v3 s4 =>
  loopC [x0, (.d (.int .i64 0))] s4 fun vs5 s6 again7 =>
  headC vs5 fun v8 vs9 =>
  headC vs9 fun v10 vs11 =>
  binC .gtr .plain v8 (.d (.int .u64 127)) s6 fun v12 s13 =>
  condC v12 (convC (.int .u8) v8 s13 fun v14 s15 =>
  binC .or .plain v14 (.d (.int .u8 128)) s15 fun v16 s17 =>
  iaddrC (some 10) 1 v3 v10 s17 fun v18 s19 =>
  storeC 1 v18 v16 s19 fun _ s21 =>
  binC .shr .plain v8 (.d (.int .u64 7)) s21 fun v22 s23 =>
  binC .add .plain v10 (.d (.int .i64 1)) s23 fun v24 s25 =>
  again7 [v22, v24] s25) (convC (.int .u8) v8 s13 fun v26 s27 =>
  iaddrC (some 10) 1 v3 v10 s27 fun v28 s29 =>
  storeC 1 v28 v26 s29 fun _ s31 =>
  loadC true 10 v3 s31 fun v32 s33 =>
  binC .add .plain v10 (.d (.int .i64 1)) s33 fun v34 s35 =>
  storeC 10 v1 v32 s35 fun _ s37 =>
  Z (consO (cellA v1 s37 true 10) (consO (some v34) (some []))) s37)
theorem s_codec_form {P : Program} {x0 : AV} {σ : List AObj} {Z : Option (List AV) → List AObj → Prop} (h : S_codec_form P x0 σ Z) : awp P A_codec_form.body (AtEnd fun fr s => Z (resAs fr s A_codec_form.res) s) (slots0 0 [x0]) σ :=
  cast (by kernel_rfl) h
/-- slices.Clip[[]byte,byte] -/
def S_slices_Clip_byte_byte (P : Program) (x0 : AV) (σ : List AObj) (Z : Option (List AV) → List AObj → Prop) : Prop :=
  lenC .sl x0 σ fun v1 s2 =>
  lenC .sl x0 s2 fun v3 s4 =>
  slcC (.sl 1) x0 none (some v1) (some v3) s4 fun v5 s6 =>
  Z (consO (some v5) (some [])) s6
theorem s_slices_Clip_byte_byte {P : Program} {x0 : AV} {σ : List AObj} {Z : Option (List AV) → List AObj → Prop} (h : S_slices_Clip_byte_byte P x0 σ Z) : awp P A_slices_Clip_byte_byte.body (AtEnd fun fr s => Z (resAs fr s A_slices_Clip_byte_byte.res) s) (slots0 0 [x0]) σ :=
  cast (by kernel_rfl) h
/-- (*bulla/codec.Reader).Take -/
def S_codec_Reader_Take (P : Program) (x0 x1 : AV) (σ : List AObj) (Z : Option (List AV) → List AObj → Prop) : Prop :=
  (fun (k1 : List AObj → Prop) => binC .lss .plain x1 (.d (.int .i64 0)) σ fun v53 s54 =>
  condC v53 (ACall P n_codec_Reader_Fail [dm x0, dm (.d (.int .i64 1))] s54 fun v55 s56 =>
  k1 s56) (k1 s54))
  (fun  s2 => (fun (k3 : List AObj → Prop) => ACall P n_codec_Reader_stuck [dm x0] s2 fun v31 s32 =>
  unC .not v31 s32 fun v33 s34 =>
  guardC v33 true (fun k => k x1 s34) s34 (fun v35 s36 =>
  guardC v33 true (fun k => k x0 s36) s36 (fun v37 s38 =>
  guardC v33 true (fun k => nilC v37 s38 k) s38 (fun v39 s40 =>
  guardC v33 true (fun k => faddrC 0 v39 s40 k) s40 (fun v41 s42 =>
  guardC v33 true (fun k => loadC false 1 v41 s42 k) s42 (fun v43 s44 =>
  guardC v33 true (fun k => lenC .sl v43 s44 k) s44 (fun v45 s46 =>
  guardC v33 true (fun k => binC .gtr .plain v35 v45 s46 k) s46 (fun v47 s48 =>
  pickC v33 v47 (.d (.bool false)) s48 fun v49 s50 =>
  condC v49 (ACall P n_codec_Reader_Fail [dm x0, dm (.d (.int .i64 10))] s50 fun v51 s52 =>
  k3 s52) (k3 s50)))))))))
  (fun  s4 => ACall P n_codec_Reader_stuck [dm x0] s4 fun v5 s6 =>
  condC v5 (Z (consO (some (.exact [])) (some [])) s6) (nilC x0 s6 fun v7 s8 =>
  faddrC 0 v7 s8 fun v9 s10 =>
  loadC false 1 v9 s10 fun v11 s12 =>
  slcC (.sl 1) v11 none (some x1) none s12 fun v13 s14 =>
  ACall P n_slices_Clone_byte_byte [dm v13] s14 fun v15 s16 =>
  nilC x0 s16 fun v17 s18 =>
  faddrC 0 v17 s18 fun v19 s20 =>
  loadC false 1 v19 s20 fun v21 s22 =>
  slcC (.sl 1) v21 (some x1) none none s22 fun v23 s24 =>
  nilC x0 s24 fun v25 s26 =>
  faddrC 0 v25 s26 fun v27 s28 =>
  storeC 1 v27 v23 s28 fun _ s30 =>
  Z (consO (some v15) (some [])) s30)))
theorem s_codec_Reader_Take {P : Program} {x0 x1 : AV} {σ : List AObj} {Z : Option (List AV) → List AObj → Prop} (h : S_codec_Reader_Take P x0 x1 σ Z) : awp P A_codec_Reader_Take.body (AtEnd fun fr s => Z (resAs fr s A_codec_Reader_Take.res) s) (slots0 0 [x0, x1]) σ :=
  cast (by kernel_rfl) h
/-- (*bulla/bullaref01.Reader).Take -/
def S_r01_Reader_Take (P : Program) (x0 x1 : AV) (σ : List AObj) (Z : Option (List AV) → List AObj → Prop) : Prop :=
  (fun (k1 : List AObj → Prop) => binC .lss .plain x1 (.d (.int .i64 0)) σ fun v63 s64 =>
  condC v63 (ACall P n_r01_Reader_Fail [dm x0, dm (.d (.int .i64 1))] s64 fun v65 s66 =>
  k1 s66) (k1 s64))
  (fun  s2 => (fun (k3 : List AObj → Prop) => nilC x0 s2 fun v37 s38 =>
  faddrC 1 v37 s38 fun v39 s40 =>
  loadC false 1 v39 s40 fun v41 s42 =>
  binC .eql .plain v41 (.d (.int .i64 0)) s42 fun v43 s44 =>
  guardC v43 true (fun k => k x1 s44) s44 (fun v45 s46 =>
  guardC v43 true (fun k => k x0 s46) s46 (fun v47 s48 =>
  guardC v43 true (fun k => nilC v47 s48 k) s48 (fun v49 s50 =>
  guardC v43 true (fun k => faddrC 0 v49 s50 k) s50 (fun v51 s52 =>
  guardC v43 true (fun k => loadC false 1 v51 s52 k) s52 (fun v53 s54 =>
  guardC v43 true (fun k => lenC .sl v53 s54 k) s54 (fun v55 s56 =>
  guardC v43 true (fun k => binC .gtr .plain v45 v55 s56 k) s56 (fun v57 s58 =>
  pickC v43 v57 (.d (.bool false)) s58 fun v59 s60 =>
  condC v59 (ACall P n_r01_Reader_Fail [dm x0, dm (.d (.int .i64 10))] s60 fun v61 s62 =>
  k3 s62) (k3 s60)))))))))
  (fun  s4 => nilC x0 s4 fun v5 s6 =>
  faddrC 1 v5 s6 fun v7 s8 =>
  loadC false 1 v7 s8 fun v9 s10 =>
  binC .neq .plain v9 (.d (.int .i64 0)) s10 fun v11 s12 =>
  condC v11 (Z (consO (some (.exact [])) (some [])) s12) (nilC x0 s12 fun v13 s14 =>
  faddrC 0 v13 s14 fun v15 s16 =>
  loadC false 1 v15 s16 fun v17 s18 =>
  slcC (.sl 1) v17 none (some x1) none s18 fun v19 s20 =>
  appendC 1 1 (.exact []) v19 s20 fun v21 s22 =>
  nilC x0 s22 fun v23 s24 =>
  faddrC 0 v23 s24 fun v25 s26 =>
  loadC false 1 v25 s26 fun v27 s28 =>
  slcC (.sl 1) v27 (some x1) none none s28 fun v29 s30 =>
  nilC x0 s30 fun v31 s32 =>
  faddrC 0 v31 s32 fun v33 s34 =>
  storeC 1 v33 v29 s34 fun _ s36 =>
  Z (consO (some v21) (some [])) s36)))
theorem s_r01_Reader_Take {P : Program} {x0 x1 : AV} {σ : List AObj} {Z : Option (List AV) → List AObj → Prop} (h : S_r01_Reader_Take P x0 x1 σ Z) : awp P A_r01_Reader_Take.body (AtEnd fun fr s => Z (resAs fr s A_r01_Reader_Take.res) s) (slots0 0 [x0, x1]) σ :=
  cast (by kernel_rfl) h
end Go.Proofs.Ytahbjkanmagndaa
