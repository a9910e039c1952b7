/- The conditions of each function, its slots as variables, and that the logic's conditions are these. Printed by program. -/
import Derived.Test.YtahbjkanmagndaaAf2
set_option linter.all false
set_option maxRecDepth 100000
set_option linter.unusedVariables false
namespace Go.Proofs.Ytahbjkanmagndaa
open Go.AW
/-- bulla/op.Put -/
def S_op_Put (P : Program) (x0 x1 : AV) (σ : List AObj) (Z : Option (List AV) → List AObj → Prop) : Prop :=
  boxC x1 σ fun v1 s2 =>
  ACall P n_bytes_Clone [dm x0] s2 fun v3 s4 =>
  loadC true 5 v1 s4 fun v5 s6 =>
  ACall P n_op_Check [dm v5] s6 fun v7 s8 =>
  binC .neq .plain v7 (.d (.int .i64 0)) s8 fun v9 s10 =>
  condC v9 (Z (consO (some v3) (some [])) s10) (faddrC 0 v1 s10 fun v11 s12 =>
  loadC false 1 v11 s12 fun v13 s14 =>
  convC (.int .u64) v13 s14 fun v15 s16 =>
  ACall P n_codec_PutNum [dm v3, dm v15] s16 fun v17 s18 =>
  (fun (k19 : AV → List AObj → Prop) => faddrC 0 v1 s18 fun v92 s93 =>
  loadC false 1 v92 s93 fun v94 s95 =>
  binC .neq .plain v94 (.d (.int .i64 0)) s95 fun v96 s97 =>
  condC v96 (faddrC 1 v1 s97 fun v98 s99 =>
  loadC false 1 v98 s99 fun v100 s101 =>
  convC .toBytes v100 s101 fun v102 s103 =>
  ACall P n_codec_PutBytes [dm v17, dm v102] s103 fun v104 s105 =>
  k19 v104 s105) (k19 v17 s97))
  (fun v20 s21 => (fun (k22 : AV → List AObj → Prop) => faddrC 0 v1 s21 fun v25 s26 =>
  loadC false 1 v25 s26 fun v27 s28 =>
  binC .eql .plain v27 (.d (.int .i64 2)) s28 fun v29 s30 =>
  condC v29 (faddrC 4 v1 s30 fun v31 s32 =>
  loadC false 1 v31 s32 fun v33 s34 =>
  lenC .sl v33 s34 fun v35 s36 =>
  convC (.int .u64) v35 s36 fun v37 s38 =>
  ACall P n_codec_PutNum [dm v20, dm v37] s38 fun v39 s40 =>
  faddrC 4 v1 s40 fun v41 s42 =>
  loadC false 1 v41 s42 fun v43 s44 =>
  lenC .sl v43 s44 fun v45 s46 =>
  loopC [v39, (.d (.int .i64 0))] s46 fun vs47 s48 again49 =>
  headC vs47 fun v50 vs51 =>
  headC vs51 fun v52 vs53 =>
  binC .lss .plain v52 v45 s48 fun v54 s55 =>
  condC v54 (iaddrC none 1 v43 v52 s55 fun v56 s57 =>
  loadC false 1 v56 s57 fun v58 s59 =>
  ACall P n_codec_PutBytes [dm v50, dm v58] s59 fun v60 s61 =>
  binC .add .plain v52 (.d (.int .i64 1)) s61 fun v62 s63 =>
  again49 [v60, v62] s63) (k22 v50 s55)) (binC .eql .plain v27 (.d (.int .i64 3)) s30 fun v64 s65 =>
  condC v64 (faddrC 2 v1 s65 fun v66 s67 =>
  loadC false 1 v66 s67 fun v68 s69 =>
  convC .toBytes v68 s69 fun v70 s71 =>
  faddrC 3 v1 s71 fun v72 s73 =>
  loadC false 1 v72 s73 fun v74 s75 =>
  convC (.int .u64) v74 s75 fun v76 s77 =>
  ACall P n_codec_PutBytes [dm v20, dm v70] s77 fun v78 s79 =>
  keepO v72 s77 s79 ∧ (ACall P n_codec_PutNum [dm v78, dm v76] s79 fun v80 s81 =>
  k22 v80 s81)) (binC .eql .plain v27 (.d (.int .i64 4)) s65 fun v82 s83 =>
  condC v82 (faddrC 3 v1 s83 fun v84 s85 =>
  loadC false 1 v84 s85 fun v86 s87 =>
  convC (.int .u64) v86 s87 fun v88 s89 =>
  ACall P n_codec_PutNum [dm v20, dm v88] s89 fun v90 s91 =>
  k22 v90 s91) (k22 v20 s83))))
  (fun v23 s24 => Z (consO (some v23) (some [])) s24)))
theorem s_op_Put {P : Program} {x0 x1 : AV} {σ : List AObj} {Z : Option (List AV) → List AObj → Prop} (h : S_op_Put P x0 x1 σ Z) : awp P A_op_Put.body (AtEnd fun fr s => Z (resAs fr s A_op_Put.res) s) (slots0 0 [x0, x1]) σ :=
  cast (by kernel_rfl) h
/-- bulla/bullaref06.Put -/
def S_r06_Put (P : Program) (x0 x1 : AV) (σ : List AObj) (Z : Option (List AV) → List AObj → Prop) : Prop :=
  boxC x1 σ fun v1 s2 =>
  loadC true 5 v1 s2 fun v3 s4 =>
  ACall P n_r06_Check [dm v3] s4 fun v5 s6 =>
  binC .neq .plain v5 (.d (.int .i64 0)) s6 fun v7 s8 =>
  condC v7 (Z (consO (some x0) (some [])) s8) (faddrC 0 v1 s8 fun v9 s10 =>
  loadC false 1 v9 s10 fun v11 s12 =>
  ACall P n_r06_fields [dm v11] s12 fun v13 s14 =>
  extractC v13 0 s14 fun v15 s16 =>
  extractC v13 1 s16 fun v17 s18 =>
  extractC v13 2 s18 fun v19 s20 =>
  extractC v13 3 s20 fun v21 s22 =>
  faddrC 0 v1 s22 fun v23 s24 =>
  loadC false 1 v23 s24 fun v25 s26 =>
  convC (.int .u64) v25 s26 fun v27 s28 =>
  ACall P n_r01_PutNum [dm x0, dm v27] s28 fun v29 s30 =>
  (fun (k31 : AV → List AObj → Prop) => condC v15 (faddrC 1 v1 s30 fun v96 s97 =>
  loadC false 1 v96 s97 fun v98 s99 =>
  convC .toBytes v98 s99 fun v100 s101 =>
  ACall P n_r01_PutBytes [dm v29, dm v100] s101 fun v102 s103 =>
  k31 v102 s103) (k31 v29 s30))
  (fun v32 s33 => (fun (k34 : AV → List AObj → Prop) => condC v17 (faddrC 2 v1 s33 fun v88 s89 =>
  loadC false 1 v88 s89 fun v90 s91 =>
  convC .toBytes v90 s91 fun v92 s93 =>
  ACall P n_r01_PutBytes [dm v32, dm v92] s93 fun v94 s95 =>
  k34 v94 s95) (k34 v32 s33))
  (fun v35 s36 => (fun (k37 : AV → List AObj → Prop) => condC v19 (faddrC 3 v1 s36 fun v80 s81 =>
  loadC false 1 v80 s81 fun v82 s83 =>
  convC (.int .u64) v82 s83 fun v84 s85 =>
  ACall P n_r01_PutNum [dm v35, dm v84] s85 fun v86 s87 =>
  k37 v86 s87) (k37 v35 s36))
  (fun v38 s39 => (fun (k40 : AV → List AObj → Prop) => condC v21 (faddrC 4 v1 s39 fun v43 s44 =>
  loadC false 1 v43 s44 fun v45 s46 =>
  lenC .sl v45 s46 fun v47 s48 =>
  convC (.int .u64) v47 s48 fun v49 s50 =>
  ACall P n_r01_PutNum [dm v38, dm v49] s50 fun v51 s52 =>
  loopC [v51, (.d (.int .i64 0))] s52 fun vs53 s54 again55 =>
  headC vs53 fun v56 vs57 =>
  headC vs57 fun v58 vs59 =>
  faddrC 4 v1 s54 fun v60 s61 =>
  loadC false 1 v60 s61 fun v62 s63 =>
  lenC .sl v62 s63 fun v64 s65 =>
  binC .lss .plain v58 v64 s65 fun v66 s67 =>
  condC v66 (faddrC 4 v1 s67 fun v68 s69 =>
  loadC false 1 v68 s69 fun v70 s71 =>
  iaddrC none 1 v70 v58 s71 fun v72 s73 =>
  loadC false 1 v72 s73 fun v74 s75 =>
  ACall P n_r01_PutBytes [dm v56, dm v74] s75 fun v76 s77 =>
  binC .add .plain v58 (.d (.int .i64 1)) s77 fun v78 s79 =>
  again55 [v76, v78] s79) (k40 v56 s67)) (k40 v38 s39))
  (fun v41 s42 => Z (consO (some v41) (some [])) s42)))))
theorem s_r06_Put {P : Program} {x0 x1 : AV} {σ : List AObj} {Z : Option (List AV) → List AObj → Prop} (h : S_r06_Put P x0 x1 σ Z) : awp P A_r06_Put.body (AtEnd fun fr s => Z (resAs fr s A_r06_Put.res) s) (slots0 0 [x0, x1]) σ :=
  cast (by kernel_rfl) h
/-- bulla/op.PutResult -/
def S_op_PutResult (P : Program) (x0 x1 : AV) (σ : List AObj) (Z : Option (List AV) → List AObj → Prop) : Prop :=
  boxC x1 σ fun v1 s2 =>
  faddrC 0 v1 s2 fun v3 s4 =>
  loadC false 1 v3 s4 fun v5 s6 =>
  maxC [v5, (.d (.int .i64 0))] s6 fun v7 s8 =>
  convC (.int .u64) v7 s8 fun v9 s10 =>
  faddrC 1 v1 s10 fun v11 s12 =>
  loadC false 1 v11 s12 fun v13 s14 =>
  maxC [v13, (.d (.int .i64 0))] s14 fun v15 s16 =>
  convC (.int .u64) v15 s16 fun v17 s18 =>
  ACall P n_codec_PutNum [dm x0, dm v9] s18 fun v19 s20 =>
  keepO v11 s18 s20 ∧ (ACall P n_codec_PutNum [dm v19, dm v17] s20 fun v21 s22 =>
  Z (consO (some v21) (some [])) s22)
theorem s_op_PutResult {P : Program} {x0 x1 : AV} {σ : List AObj} {Z : Option (List AV) → List AObj → Prop} (h : S_op_PutResult P x0 x1 σ Z) : awp P A_op_PutResult.body (AtEnd fun fr s => Z (resAs fr s A_op_PutResult.res) s) (slots0 0 [x0, x1]) σ :=
  cast (by kernel_rfl) h
/-- bulla/bullaref06.PutResult -/
def S_r06_PutResult (P : Program) (x0 x1 : AV) (σ : List AObj) (Z : Option (List AV) → List AObj → Prop) : Prop :=
  boxC x1 σ fun v1 s2 =>
  faddrC 0 v1 s2 fun v3 s4 =>
  loadC false 1 v3 s4 fun v5 s6 =>
  maxC [(.d (.int .i64 0)), v5] s6 fun v7 s8 =>
  convC (.int .u64) v7 s8 fun v9 s10 =>
  faddrC 1 v1 s10 fun v11 s12 =>
  loadC false 1 v11 s12 fun v13 s14 =>
  maxC [(.d (.int .i64 0)), v13] s14 fun v15 s16 =>
  convC (.int .u64) v15 s16 fun v17 s18 =>
  ACall P n_r01_PutNum [dm x0, dm v9] s18 fun v19 s20 =>
  keepO v11 s18 s20 ∧ (ACall P n_r01_PutNum [dm v19, dm v17] s20 fun v21 s22 =>
  Z (consO (some v21) (some [])) s22)
theorem s_r06_PutResult {P : Program} {x0 x1 : AV} {σ : List AObj} {Z : Option (List AV) → List AObj → Prop} (h : S_r06_PutResult P x0 x1 σ Z) : awp P A_r06_PutResult.body (AtEnd fun fr s => Z (resAs fr s A_r06_PutResult.res) s) (slots0 0 [x0, x1]) σ :=
  cast (by kernel_rfl) h
/-- bulla/op.Parse -/
def S_op_Parse (P : Program) (x0 : AV) (σ : List AObj) (Z : Option (List AV) → List AObj → Prop) : Prop :=
  allocC [(.d (.int .i64 0)), (.d (.str [])), (.d (.str [])), (.d (.int .i64 0)), (.exact [])] σ fun v1 s2 =>
  ACall P n_codec_Read [dm x0] s2 fun v3 s4 =>
  ACall P n_op_Take [dm v3] s4 fun v5 s6 =>
  allocC [(.d (.int .i64 0)), (.d (.str [])), (.d (.str [])), (.d (.int .i64 0)), (.exact [])] s6 fun v7 s8 =>
  storeC 5 v7 v5 s8 fun _ s10 =>
  ACall P n_codec_Reader_Done [dm v3] s10 fun v11 s12 =>
  binC .neq .plain v11 (.d (.int .i64 0)) s12 fun v13 s14 =>
  condC v13 (buildC (fillV [(.d (.int .i64 0)), (.d (.str [])), (.d (.str [])), (.d (.int .i64 0)), (.exact [])] []) s14 fun v15 s16 =>
  storeC 5 v1 v15 s16 fun _ s18 =>
  Z (consO (cellA v1 s18 true 5) (consO (some v11) (some []))) s18) (loadC true 5 v7 s14 fun v19 s20 =>
  storeC 5 v1 v19 s20 fun _ s22 =>
  Z (consO (cellA v1 s22 true 5) (consO (some (.d (.int .i64 0))) (some []))) s22)
theorem s_op_Parse {P : Program} {x0 : AV} {σ : List AObj} {Z : Option (List AV) → List AObj → Prop} (h : S_op_Parse P x0 σ Z) : awp P A_op_Parse.body (AtEnd fun fr s => Z (resAs fr s A_op_Parse.res) s) (slots0 0 [x0]) σ :=
  cast (by kernel_rfl) h
/-- bulla/codec.Read -/
def S_codec_Read (P : Program) (x0 : AV) (σ : List AObj) (Z : Option (List AV) → List AObj → Prop) : Prop :=
  ACall P n_slices_Clone_byte_byte [dm x0] σ fun v1 s2 =>
  buildC (fillV [(.exact []), (.d (.int .i64 0)), (.d (.bool false))] [(0, 1, v1), (2, 1, (.d (.bool true)))]) s2 fun v3 s4 =>
  boxC v3 s4 fun v5 s6 =>
  Z (consO (some v5) (some [])) s6
theorem s_codec_Read {P : Program} {x0 : AV} {σ : List AObj} {Z : Option (List AV) → List AObj → Prop} (h : S_codec_Read P x0 σ Z) : awp P A_codec_Read.body (AtEnd fun fr s => Z (resAs fr s A_codec_Read.res) s) (slots0 0 [x0]) σ :=
  cast (by kernel_rfl) h
/-- bulla/op.Take -/
def S_op_Take (P : Program) (x0 : AV) (σ : List AObj) (Z : Option (List AV) → List AObj → Prop) : Prop :=
  allocC [(.d (.int .i64 0)), (.d (.str [])), (.d (.str [])), (.d (.int .i64 0)), (.exact [])] σ fun v1 s2 =>
  ACall P n_codec_Reader_Num [dm x0, dm (.d (.int .u64 4))] s2 fun v3 s4 =>
  convC (.int .i64) v3 s4 fun v5 s6 =>
  buildC (fillV [(.d (.int .i64 0)), (.d (.str [])), (.d (.str [])), (.d (.int .i64 0)), (.exact [])] [(0, 1, v5)]) s6 fun v7 s8 =>
  allocC [(.d (.int .i64 0)), (.d (.str [])), (.d (.str [])), (.d (.int .i64 0)), (.exact [])] s8 fun v9 s10 =>
  storeC 5 v9 v7 s10 fun _ s12 =>
  (fun (k13 : List AObj → Prop) => faddrC 0 v9 s12 fun v100 s101 =>
  loadC false 1 v100 s101 fun v102 s103 =>
  binC .neq .plain v102 (.d (.int .i64 0)) s103 fun v104 s105 =>
  condC v104 (ACall P n_codec_Reader_Bytes [dm x0, dm (.d (.int .i64 64))] s105 fun v106 s107 =>
  convC .toStr v106 s107 fun v108 s109 =>
  faddrC 1 v9 s109 fun v110 s111 =>
  storeC 1 v110 v108 s111 fun _ s113 =>
  k13 s113) (k13 s105))
  (fun  s14 => (fun (k15 : List AObj → Prop) => faddrC 0 v9 s14 fun v41 s42 =>
  loadC false 1 v41 s42 fun v43 s44 =>
  binC .eql .plain v43 (.d (.int .i64 2)) s44 fun v45 s46 =>
  condC v45 (ACall P n_codec_Reader_Num [dm x0, dm (.d (.int .u64 4))] s46 fun v47 s48 =>
  loopC [(.d (.int .u64 0))] s48 fun vs49 s50 again51 =>
  headC vs49 fun v52 vs53 =>
  binC .lss .plain v52 v47 s50 fun v54 s55 =>
  condC v54 (faddrC 4 v9 s55 fun v56 s57 =>
  loadC false 1 v56 s57 fun v58 s59 =>
  ACall P n_codec_Reader_Bytes [dm x0, dm (.d (.int .i64 64))] s59 fun v60 s61 =>
  keepO v56 s59 s61 ∧ (mksliceC false 1 1 (fillV (rep [(.exact [])] 1) [(0, 1, v60)]) s61 fun v62 s63 =>
  appendC 1 24 v58 v62 s63 fun v64 s65 =>
  faddrC 4 v9 s65 fun v66 s67 =>
  storeC 1 v66 v64 s67 fun _ s69 =>
  binC .add .plain v52 (.d (.int .u64 1)) s69 fun v70 s71 =>
  again51 [v70] s71)) (k15 s55)) (binC .eql .plain v43 (.d (.int .i64 3)) s46 fun v72 s73 =>
  condC v72 (ACall P n_codec_Reader_Bytes [dm x0, dm (.d (.int .i64 64))] s73 fun v74 s75 =>
  convC .toStr v74 s75 fun v76 s77 =>
  faddrC 2 v9 s77 fun v78 s79 =>
  storeC 1 v78 v76 s79 fun _ s81 =>
  ACall P n_codec_Reader_Num [dm x0, dm (.d (.int .u64 9007199254740992))] s81 fun v82 s83 =>
  convC (.int .i64) v82 s83 fun v84 s85 =>
  faddrC 3 v9 s85 fun v86 s87 =>
  storeC 1 v86 v84 s87 fun _ s89 =>
  k15 s89) (binC .eql .plain v43 (.d (.int .i64 4)) s73 fun v90 s91 =>
  condC v90 (ACall P n_codec_Reader_Num [dm x0, dm (.d (.int .u64 9007199254740992))] s91 fun v92 s93 =>
  convC (.int .i64) v92 s93 fun v94 s95 =>
  faddrC 3 v9 s95 fun v96 s97 =>
  storeC 1 v96 v94 s97 fun _ s99 =>
  k15 s99) (k15 s91))))
  (fun  s16 => (fun (k17 : List AObj → Prop) => ACall P n_codec_Reader_Err [dm x0] s16 fun v31 s32 =>
  binC .eql .plain v31 (.d (.int .i64 0)) s32 fun v33 s34 =>
  condC v33 (loadC true 5 v9 s34 fun v35 s36 =>
  ACall P n_op_Check [dm v35] s36 fun v37 s38 =>
  ACall P n_codec_Reader_Fail [dm x0, dm v37] s38 fun v39 s40 =>
  k17 s40) (k17 s34))
  (fun  s18 => ACall P n_codec_Reader_Err [dm x0] s18 fun v19 s20 =>
  binC .neq .plain v19 (.d (.int .i64 0)) s20 fun v21 s22 =>
  condC v21 (buildC (fillV [(.d (.int .i64 0)), (.d (.str [])), (.d (.str [])), (.d (.int .i64 0)), (.exact [])] []) s22 fun v23 s24 =>
  storeC 5 v1 v23 s24 fun _ s26 =>
  Z (consO (cellA v1 s26 true 5) (some [])) s26) (loadC true 5 v9 s22 fun v27 s28 =>
  storeC 5 v1 v27 s28 fun _ s30 =>
  Z (consO (cellA v1 s30 true 5) (some [])) s30))))
theorem s_op_Take {P : Program} {x0 : AV} {σ : List AObj} {Z : Option (List AV) → List AObj → Prop} (h : S_op_Take P x0 σ Z) : awp P A_op_Take.body (AtEnd fun fr s => Z (resAs fr s A_op_Take.res) s) (slots0 0 [x0]) σ :=
  cast (by kernel_rfl) h
/-- (*bulla/codec.Reader).Err -/
def S_codec_Reader_Err (P : Program) (x0 : AV) (σ : List AObj) (Z : Option (List AV) → List AObj → Prop) : Prop :=
  binC .eql .ptr x0 (.d .nilp) σ fun v1 s2 =>
  guardC v1 false (fun k => k x0 s2) s2 (fun v3 s4 =>
  guardC v1 false (fun k => nilC v3 s4 k) s4 (fun v5 s6 =>
  guardC v1 false (fun k => faddrC 2 v5 s6 k) s6 (fun v7 s8 =>
  guardC v1 false (fun k => loadC false 1 v7 s8 k) s8 (fun v9 s10 =>
  guardC v1 false (fun k => unC .not v9 s10 k) s10 (fun v11 s12 =>
  pickC v1 (.d (.bool true)) v11 s12 fun v13 s14 =>
  condC v13 (Z (consO (some (.d (.int .i64 2))) (some [])) s14) (nilC x0 s14 fun v15 s16 =>
  faddrC 1 v15 s16 fun v17 s18 =>
  loadC false 1 v17 s18 fun v19 s20 =>
  Z (consO (some v19) (some [])) s20))))))
theorem s_codec_Reader_Err {P : Program} {x0 : AV} {σ : List AObj} {Z : Option (List AV) → List AObj → Prop} (h : S_codec_Reader_Err P x0 σ Z) : awp P A_codec_Reader_Err.body (AtEnd fun fr s => Z (resAs fr s A_codec_Reader_Err.res) s) (slots0 0 [x0]) σ :=
  cast (by kernel_rfl) h
/-- (*bulla/codec.Reader).Left -/
def S_codec_Reader_Left (P : Program) (x0 : AV) (σ : List AObj) (Z : Option (List AV) → List AObj → Prop) : Prop :=
  ACall P n_codec_Reader_stuck [dm x0] σ fun v1 s2 =>
  condC v1 (Z (consO (some (.d (.int .i64 0))) (some [])) s2) (nilC x0 s2 fun v3 s4 =>
  faddrC 0 v3 s4 fun v5 s6 =>
  loadC false 1 v5 s6 fun v7 s8 =>
  lenC .sl v7 s8 fun v9 s10 =>
  Z (consO (some v9) (some [])) s10)
theorem s_codec_Reader_Left {P : Program} {x0 : AV} {σ : List AObj} {Z : Option (List AV) → List AObj → Prop} (h : S_codec_Reader_Left P x0 σ Z) : awp P A_codec_Reader_Left.body (AtEnd fun fr s => Z (resAs fr s A_codec_Reader_Left.res) s) (slots0 0 [x0]) σ :=
  cast (by kernel_rfl) h
/-- bulla/bullaref06.Parse -/
def S_r06_Parse (P : Program) (x0 : AV) (σ : List AObj) (Z : Option (List AV) → List AObj → Prop) : Prop :=
  allocC [(.d (.int .i64 0)), (.d (.str [])), (.d (.str [])), (.d (.int .i64 0)), (.exact [])] σ fun v1 s2 =>
  ACall P n_r01_Read [dm x0] s2 fun v3 s4 =>
  ACall P n_r06_Take [dm v3] s4 fun v5 s6 =>
  allocC [(.d (.int .i64 0)), (.d (.str [])), (.d (.str [])), (.d (.int .i64 0)), (.exact [])] s6 fun v7 s8 =>
  storeC 5 v7 v5 s8 fun _ s10 =>
  ACall P n_r01_Reader_Done [dm v3] s10 fun v11 s12 =>
  binC .neq .plain v11 (.d (.int .i64 0)) s12 fun v13 s14 =>
  condC v13 (buildC (fillV [(.d (.int .i64 0)), (.d (.str [])), (.d (.str [])), (.d (.int .i64 0)), (.exact [])] []) s14 fun v15 s16 =>
  storeC 5 v1 v15 s16 fun _ s18 =>
  Z (consO (cellA v1 s18 true 5) (consO (some v11) (some []))) s18) (loadC true 5 v7 s14 fun v19 s20 =>
  storeC 5 v1 v19 s20 fun _ s22 =>
  Z (consO (cellA v1 s22 true 5) (consO (some (.d (.int .i64 0))) (some []))) s22)
theorem s_r06_Parse {P : Program} {x0 : AV} {σ : List AObj} {Z : Option (List AV) → List AObj → Prop} (h : S_r06_Parse P x0 σ Z) : awp P A_r06_Parse.body (AtEnd fun fr s => Z (resAs fr s A_r06_Parse.res) s) (slots0 0 [x0]) σ :=
  cast (by kernel_rfl) h
/-- bulla/bullaref01.Read -/
def S_r01_Read (P : Program) (x0 : AV) (σ : List AObj) (Z : Option (List AV) → List AObj → Prop) : Prop :=
  buildC (fillV [(.exact []), (.d (.int .i64 0))] [(0, 1, x0)]) σ fun v1 s2 =>
  boxC v1 s2 fun v3 s4 =>
  Z (consO (some v3) (some [])) s4
theorem s_r01_Read {P : Program} {x0 : AV} {σ : List AObj} {Z : Option (List AV) → List AObj → Prop} (h : S_r01_Read P x0 σ Z) : awp P A_r01_Read.body (AtEnd fun fr s => Z (resAs fr s A_r01_Read.res) s) (slots0 0 [x0]) σ :=
  cast (by kernel_rfl) h
/-- bulla/bullaref06.Take -/
def S_r06_Take (P : Program) (x0 : AV) (σ : List AObj) (Z : Option (List AV) → List AObj → Prop) : Prop :=
  allocC [(.d (.int .i64 0)), (.d (.str [])), (.d (.str [])), (.d (.int .i64 0)), (.exact [])] σ fun v1 s2 =>
  ACall P n_r01_Reader_Num [dm x0, dm (.d (.int .u64 4))] s2 fun v3 s4 =>
  convC (.int .i64) v3 s4 fun v5 s6 =>
  buildC (fillV [(.d (.int .i64 0)), (.d (.str [])), (.d (.str [])), (.d (.int .i64 0)), (.exact [])] [(0, 1, v5)]) s6 fun v7 s8 =>
  allocC [(.d (.int .i64 0)), (.d (.str [])), (.d (.str [])), (.d (.int .i64 0)), (.exact [])] s8 fun v9 s10 =>
  storeC 5 v9 v7 s10 fun _ s12 =>
  faddrC 0 v9 s12 fun v13 s14 =>
  loadC false 1 v13 s14 fun v15 s16 =>
  ACall P n_r06_fields [dm v15] s16 fun v17 s18 =>
  extractC v17 0 s18 fun v19 s20 =>
  extractC v17 1 s20 fun v21 s22 =>
  extractC v17 2 s22 fun v23 s24 =>
  extractC v17 3 s24 fun v25 s26 =>
  (fun (k27 : List AObj → Prop) => condC v19 (ACall P n_r01_Reader_Bytes [dm x0, dm (.d (.int .i64 64))] s26 fun v112 s113 =>
  convC .toStr v112 s113 fun v114 s115 =>
  faddrC 1 v9 s115 fun v116 s117 =>
  storeC 1 v116 v114 s117 fun _ s119 =>
  k27 s119) (k27 s26))
  (fun  s28 => (fun (k29 : List AObj → Prop) => condC v21 (ACall P n_r01_Reader_Bytes [dm x0, dm (.d (.int .i64 64))] s28 fun v104 s105 =>
  convC .toStr v104 s105 fun v106 s107 =>
  faddrC 2 v9 s107 fun v108 s109 =>
  storeC 1 v108 v106 s109 fun _ s111 =>
  k29 s111) (k29 s28))
  (fun  s30 => (fun (k31 : List AObj → Prop) => condC v23 (ACall P n_r01_Reader_Num [dm x0, dm (.d (.int .u64 9007199254740992))] s30 fun v96 s97 =>
  convC (.int .i64) v96 s97 fun v98 s99 =>
  faddrC 3 v9 s99 fun v100 s101 =>
  storeC 1 v100 v98 s101 fun _ s103 =>
  k31 s103) (k31 s30))
  (fun  s32 => (fun (k33 : List AObj → Prop) => condC v25 (ACall P n_r01_Reader_Num [dm x0, dm (.d (.int .u64 4))] s32 fun v67 s68 =>
  convC (.int .i64) v67 s68 fun v69 s70 =>
  loopC [(.d (.int .i64 0))] s70 fun vs71 s72 again73 =>
  headC vs71 fun v74 vs75 =>
  binC .lss .plain v74 v69 s72 fun v76 s77 =>
  condC v76 (faddrC 4 v9 s77 fun v78 s79 =>
  loadC false 1 v78 s79 fun v80 s81 =>
  ACall P n_r01_Reader_Bytes [dm x0, dm (.d (.int .i64 64))] s81 fun v82 s83 =>
  keepO v78 s81 s83 ∧ (appendC 1 1 (.exact []) v82 s83 fun v84 s85 =>
  keepO v78 s83 s85 ∧ (mksliceC false 1 1 (fillV (rep [(.exact [])] 1) [(0, 1, v84)]) s85 fun v86 s87 =>
  appendC 1 24 v80 v86 s87 fun v88 s89 =>
  faddrC 4 v9 s89 fun v90 s91 =>
  storeC 1 v90 v88 s91 fun _ s93 =>
  binC .add .plain v74 (.d (.int .i64 1)) s93 fun v94 s95 =>
  again73 [v94] s95))) (k33 s77)) (k33 s32))
  (fun  s34 => (fun (k35 : List AObj → Prop) => nilC x0 s34 fun v53 s54 =>
  faddrC 1 v53 s54 fun v55 s56 =>
  loadC false 1 v55 s56 fun v57 s58 =>
  binC .eql .plain v57 (.d (.int .i64 0)) s58 fun v59 s60 =>
  condC v59 (loadC true 5 v9 s60 fun v61 s62 =>
  ACall P n_r06_Check [dm v61] s62 fun v63 s64 =>
  ACall P n_r01_Reader_Fail [dm x0, dm v63] s64 fun v65 s66 =>
  k35 s66) (k35 s60))
  (fun  s36 => nilC x0 s36 fun v37 s38 =>
  faddrC 1 v37 s38 fun v39 s40 =>
  loadC false 1 v39 s40 fun v41 s42 =>
  binC .neq .plain v41 (.d (.int .i64 0)) s42 fun v43 s44 =>
  condC v43 (buildC (fillV [(.d (.int .i64 0)), (.d (.str [])), (.d (.str [])), (.d (.int .i64 0)), (.exact [])] []) s44 fun v45 s46 =>
  storeC 5 v1 v45 s46 fun _ s48 =>
  Z (consO (cellA v1 s48 true 5) (some [])) s48) (loadC true 5 v9 s44 fun v49 s50 =>
  storeC 5 v1 v49 s50 fun _ s52 =>
  Z (consO (cellA v1 s52 true 5) (some [])) s52))))))
theorem s_r06_Take {P : Program} {x0 : AV} {σ : List AObj} {Z : Option (List AV) → List AObj → Prop} (h : S_r06_Take P x0 σ Z) : awp P A_r06_Take.body (AtEnd fun fr s => Z (resAs fr s A_r06_Take.res) s) (slots0 0 [x0]) σ :=
  cast (by kernel_rfl) h
/-- bulla/op.TakeResult -/
def S_op_TakeResult (P : Program) (x0 : AV) (σ : List AObj) (Z : Option (List AV) → List AObj → Prop) : Prop :=
  allocC [(.d (.int .i64 0)), (.d (.int .i64 0))] σ fun v1 s2 =>
  ACall P n_codec_Reader_Num [dm x0, dm (.d (.int .u64 65536))] s2 fun v3 s4 =>
  convC (.int .i64) v3 s4 fun v5 s6 =>
  buildC (fillV [(.d (.int .i64 0)), (.d (.int .i64 0))] [(0, 1, v5)]) s6 fun v7 s8 =>
  allocC [(.d (.int .i64 0)), (.d (.int .i64 0))] s8 fun v9 s10 =>
  storeC 2 v9 v7 s10 fun _ s12 =>
  ACall P n_codec_Reader_Num [dm x0, dm (.d (.int .u64 9007199254740992))] s12 fun v13 s14 =>
  convC (.int .i64) v13 s14 fun v15 s16 =>
  faddrC 1 v9 s16 fun v17 s18 =>
  storeC 1 v17 v15 s18 fun _ s20 =>
  ACall P n_codec_Reader_Err [dm x0] s20 fun v21 s22 =>
  binC .neq .plain v21 (.d (.int .i64 0)) s22 fun v23 s24 =>
  condC v23 (buildC (fillV [(.d (.int .i64 0)), (.d (.int .i64 0))] []) s24 fun v25 s26 =>
  storeC 2 v1 v25 s26 fun _ s28 =>
  Z (consO (cellA v1 s28 true 2) (some [])) s28) (loadC true 2 v9 s24 fun v29 s30 =>
  storeC 2 v1 v29 s30 fun _ s32 =>
  Z (consO (cellA v1 s32 true 2) (some [])) s32)
theorem s_op_TakeResult {P : Program} {x0 : AV} {σ : List AObj} {Z : Option (List AV) → List AObj → Prop} (h : S_op_TakeResult P x0 σ Z) : awp P A_op_TakeResult.body (AtEnd fun fr s => Z (resAs fr s A_op_TakeResult.res) s) (slots0 0 [x0]) σ :=
  cast (by kernel_rfl) h
/-- bulla/bullaref06.TakeResult -/
def S_r06_TakeResult (P : Program) (x0 : AV) (σ : List AObj) (Z : Option (List AV) → List AObj → Prop) : Prop :=
  allocC [(.d (.int .i64 0)), (.d (.int .i64 0))] σ fun v1 s2 =>
  ACall P n_r01_Reader_Num [dm x0, dm (.d (.int .u64 65536))] s2 fun v3 s4 =>
  convC (.int .i64) v3 s4 fun v5 s6 =>
  ACall P n_r01_Reader_Num [dm x0, dm (.d (.int .u64 9007199254740992))] s6 fun v7 s8 =>
  convC (.int .i64) v7 s8 fun v9 s10 =>
  buildC (fillV [(.d (.int .i64 0)), (.d (.int .i64 0))] [(0, 1, v5), (1, 1, v9)]) s10 fun v11 s12 =>
  allocC [(.d (.int .i64 0)), (.d (.int .i64 0))] s12 fun v13 s14 =>
  storeC 2 v13 v11 s14 fun _ s16 =>
  nilC x0 s16 fun v17 s18 =>
  faddrC 1 v17 s18 fun v19 s20 =>
  loadC false 1 v19 s20 fun v21 s22 =>
  binC .neq .plain v21 (.d (.int .i64 0)) s22 fun v23 s24 =>
  condC v23 (buildC (fillV [(.d (.int .i64 0)), (.d (.int .i64 0))] []) s24 fun v25 s26 =>
  storeC 2 v1 v25 s26 fun _ s28 =>
  Z (consO (cellA v1 s28 true 2) (some [])) s28) (loadC true 2 v13 s24 fun v29 s30 =>
  storeC 2 v1 v29 s30 fun _ s32 =>
  Z (consO (cellA v1 s32 true 2) (some [])) s32)
theorem s_r06_TakeResult {P : Program} {x0 : AV} {σ : List AObj} {Z : Option (List AV) → List AObj → Prop} (h : S_r06_TakeResult P x0 σ Z) : awp P A_r06_TakeResult.body (AtEnd fun fr s => Z (resAs fr s A_r06_TakeResult.res) s) (slots0 0 [x0]) σ :=
  cast (by kernel_rfl) h
/-- bulla/bullaref06.rune1 -/
def S_r06_rune1 (P : Program) (x0 : AV) (σ : List AObj) (Z : Option (List AV) → List AObj → Prop) : Prop :=
  idxSC x0 (.d (.int .i64 0)) σ fun v1 s2 =>
  ACall P n_r06_size [dm v1] s2 fun v3 s4 =>
  binC .eql .plain v3 (.d (.int .i64 0)) s4 fun v5 s6 =>
  guardC v5 false (fun k => k v3 s6) s6 (fun v7 s8 =>
  guardC v5 false (fun k => k x0 s8) s8 (fun v9 s10 =>
  guardC v5 false (fun k => lenC .str v9 s10 k) s10 (fun v11 s12 =>
  guardC v5 false (fun k => binC .gtr .plain v7 v11 s12 k) s12 (fun v13 s14 =>
  pickC v5 (.d (.bool true)) v13 s14 fun v15 s16 =>
  condC v15 (Z (consO (some (.d (.int .i64 0))) (consO (some (.d (.int .i64 0))) (some []))) s16) (binC .eql .plain v3 (.d (.int .i64 1)) s16 fun v17 s18 =>
  condC v17 (idxSC x0 (.d (.int .i64 0)) s18 fun v19 s20 =>
  convC (.int .i64) v19 s20 fun v21 s22 =>
  Z (consO (some v21) (consO (some (.d (.int .i64 1))) (some []))) s22) (idxSC x0 (.d (.int .i64 0)) s18 fun v23 s24 =>
  convC (.int .i64) v23 s24 fun v25 s26 =>
  binC .sub .plain (.d (.int .i64 7)) v3 s26 fun v27 s28 =>
  binC .shl .plain (.d (.int .i64 1)) v27 s28 fun v29 s30 =>
  binC .sub .plain v29 (.d (.int .i64 1)) s30 fun v31 s32 =>
  binC .and .plain v25 v31 s32 fun v33 s34 =>
  loopC [v33, (.d (.int .i64 1))] s34 fun vs35 s36 again37 =>
  headC vs35 fun v38 vs39 =>
  headC vs39 fun v40 vs41 =>
  binC .lss .plain v40 v3 s36 fun v42 s43 =>
  condC v42 (idxSC x0 v40 s43 fun v44 s45 =>
  binC .lss .plain v44 (.d (.int .u8 128)) s45 fun v46 s47 =>
  guardC v46 false (fun k => k x0 s47) s47 (fun v48 s49 =>
  guardC v46 false (fun k => k v40 s49) s49 (fun v50 s51 =>
  guardC v46 false (fun k => idxSC v48 v50 s51 k) s51 (fun v52 s53 =>
  guardC v46 false (fun k => binC .geq .plain v52 (.d (.int .u8 192)) s53 k) s53 (fun v54 s55 =>
  pickC v46 (.d (.bool true)) v54 s55 fun v56 s57 =>
  condC v56 (Z (consO (some (.d (.int .i64 0))) (consO (some (.d (.int .i64 0))) (some []))) s57) (binC .mul .plain v38 (.d (.int .i64 64)) s57 fun v58 s59 =>
  idxSC x0 v40 s59 fun v60 s61 =>
  convC (.int .i64) v60 s61 fun v62 s63 =>
  binC .rem .plain v62 (.d (.int .i64 64)) s63 fun v64 s65 =>
  binC .add .plain v58 v64 s65 fun v66 s67 =>
  binC .add .plain v40 (.d (.int .i64 1)) s67 fun v68 s69 =>
  again37 [v66, v68] s69)))))) (mksliceC false 1 5 (fillV (rep [(.d (.int .i64 0))] 5) [(0, 1, (.d (.int .i64 0))), (1, 1, (.d (.int .i64 0))), (2, 1, (.d (.int .i64 128))), (3, 1, (.d (.int .i64 2048))), (4, 1, (.d (.int .i64 65536)))]) s43 fun v70 s71 =>
  iaddrC none 1 v70 v3 s71 fun v72 s73 =>
  loadC false 1 v72 s73 fun v74 s75 =>
  binC .lss .plain v38 v74 s75 fun v76 s77 =>
  guardC v76 false (fun k => k v38 s77) s77 (fun v78 s79 =>
  guardC v76 false (fun k => binC .gtr .plain v78 (.d (.int .i64 1114111)) s79 k) s79 (fun v80 s81 =>
  pickC v76 (.d (.bool true)) v80 s81 fun v82 s83 =>
  guardC v82 false (fun k => k v38 s83) s83 (fun v84 s85 =>
  guardC v82 false (fun k => binC .geq .plain v84 (.d (.int .i64 55296)) s85 k) s85 (fun v86 s87 =>
  guardC v82 false (fun k => k v86 s87) s87 (fun v88 s89 =>
  guardC v88 true (fun k => k v38 s89) s89 (fun v90 s91 =>
  guardC v88 true (fun k => binC .lss .plain v90 (.d (.int .i64 57344)) s91 k) s91 (fun v92 s93 =>
  guardC v82 false (fun k => pickC v88 v92 (.d (.bool false)) s93 k) s93 (fun v94 s95 =>
  pickC v82 (.d (.bool true)) v94 s95 fun v96 s97 =>
  condC v96 (Z (consO (some (.d (.int .i64 0))) (consO (some (.d (.int .i64 0))) (some []))) s97) (Z (consO (some v38) (consO (some v3) (some []))) s97))))))))))))))))
theorem s_r06_rune1 {P : Program} {x0 : AV} {σ : List AObj} {Z : Option (List AV) → List AObj → Prop} (h : S_r06_rune1 P x0 σ Z) : awp P A_r06_rune1.body (AtEnd fun fr s => Z (resAs fr s A_r06_rune1.res) s) (slots0 0 [x0]) σ :=
  cast (by kernel_rfl) h
/-- bulla/op.only -/
def S_op_only (P : Program) (x0 : AV) (σ : List AObj) (Z : Option (List AV) → List AObj → Prop) : Prop :=
  boxC x0 σ fun v1 s2 =>
  allocC [(.d (.int .i64 0)), (.d (.str [])), (.d (.str [])), (.d (.int .i64 0)), (.exact [])] s2 fun v3 s4 =>
  faddrC 0 v1 s4 fun v5 s6 =>
  loadC false 1 v5 s6 fun v7 s8 =>
  buildC (fillV [(.d (.int .i64 0)), (.d (.str [])), (.d (.str [])), (.d (.int .i64 0)), (.exact [])] [(0, 1, v7)]) s8 fun v9 s10 =>
  allocC [(.d (.int .i64 0)), (.d (.str [])), (.d (.str [])), (.d (.int .i64 0)), (.exact [])] s10 fun v11 s12 =>
  storeC 5 v11 v9 s12 fun _ s14 =>
  (fun (k15 : List AObj → Prop) => faddrC 0 v1 s14 fun v21 s22 =>
  loadC false 1 v21 s22 fun v23 s24 =>
  binC .eql .plain v23 (.d (.int .i64 0)) s24 fun v25 s26 =>
  condC v25 (k15 s26) (binC .eql .plain v23 (.d (.int .i64 1)) s26 fun v27 s28 =>
  condC v27 (faddrC 1 v1 s28 fun v29 s30 =>
  loadC false 1 v29 s30 fun v31 s32 =>
  faddrC 1 v11 s32 fun v33 s34 =>
  storeC 1 v33 v31 s34 fun _ s36 =>
  k15 s36) (binC .eql .plain v23 (.d (.int .i64 2)) s28 fun v37 s38 =>
  condC v37 (faddrC 1 v1 s38 fun v39 s40 =>
  loadC false 1 v39 s40 fun v41 s42 =>
  faddrC 4 v1 s42 fun v43 s44 =>
  loadC false 1 v43 s44 fun v45 s46 =>
  faddrC 1 v11 s46 fun v47 s48 =>
  storeC 1 v47 v41 s48 fun _ s50 =>
  keepO v43 s48 s50 ∧ (faddrC 4 v11 s50 fun v51 s52 =>
  storeC 1 v51 v45 s52 fun _ s54 =>
  k15 s54)) (binC .eql .plain v23 (.d (.int .i64 3)) s38 fun v55 s56 =>
  condC v55 (faddrC 1 v1 s56 fun v57 s58 =>
  loadC false 1 v57 s58 fun v59 s60 =>
  faddrC 2 v1 s60 fun v61 s62 =>
  loadC false 1 v61 s62 fun v63 s64 =>
  faddrC 3 v1 s64 fun v65 s66 =>
  loadC false 1 v65 s66 fun v67 s68 =>
  faddrC 1 v11 s68 fun v69 s70 =>
  storeC 1 v69 v59 s70 fun _ s72 =>
  keepO v61 s70 s72 ∧ (keepO v65 s70 s72 ∧ (faddrC 2 v11 s72 fun v73 s74 =>
  storeC 1 v73 v63 s74 fun _ s76 =>
  keepO v65 s74 s76 ∧ (faddrC 3 v11 s76 fun v77 s78 =>
  storeC 1 v77 v67 s78 fun _ s80 =>
  k15 s80)))) (binC .eql .plain v23 (.d (.int .i64 4)) s56 fun v81 s82 =>
  condC v81 (faddrC 1 v1 s82 fun v83 s84 =>
  loadC false 1 v83 s84 fun v85 s86 =>
  faddrC 3 v1 s86 fun v87 s88 =>
  loadC false 1 v87 s88 fun v89 s90 =>
  faddrC 1 v11 s90 fun v91 s92 =>
  storeC 1 v91 v85 s92 fun _ s94 =>
  keepO v87 s92 s94 ∧ (faddrC 3 v11 s94 fun v95 s96 =>
  storeC 1 v95 v89 s96 fun _ s98 =>
  k15 s98)) (loadC true 5 v11 s82 fun v99 s100 =>
  storeC 5 v3 v99 s100 fun _ s102 =>
  Z (consO (cellA v3 s102 true 5) (consO (some (.d (.bool false))) (some []))) s102))))))
  (fun  s16 => loadC true 5 v11 s16 fun v17 s18 =>
  storeC 5 v3 v17 s18 fun _ s20 =>
  Z (consO (cellA v3 s20 true 5) (consO (some (.d (.bool true))) (some []))) s20)
theorem s_op_only {P : Program} {x0 : AV} {σ : List AObj} {Z : Option (List AV) → List AObj → Prop} (h : S_op_only P x0 σ Z) : awp P A_op_only.body (AtEnd fun fr s => Z (resAs fr s A_op_only.res) s) (slots0 0 [x0]) σ :=
  cast (by kernel_rfl) h
/-- bulla/op.Check$1 -/
def S_op_Check_1 (P : Program) (x0 : AV) (σ : List AObj) (Z : Option (List AV) → List AObj → Prop) : Prop :=
  lenC .sl x0 σ fun v1 s2 =>
  binC .gtr .plain v1 (.d (.int .i64 64)) s2 fun v3 s4 =>
  Z (consO (some v3) (some [])) s4
theorem s_op_Check_1 {P : Program} {x0 : AV} {σ : List AObj} {Z : Option (List AV) → List AObj → Prop} (h : S_op_Check_1 P x0 σ Z) : awp P A_op_Check_1.body (AtEnd fun fr s => Z (resAs fr s A_op_Check_1.res) s) (slots0 0 [x0]) σ :=
  cast (by kernel_rfl) h
/-- slices.ContainsFunc[[]bulla/api.Record,bulla/api.Record] -/
def S_slices_ContainsFunc_api_Record_api_Record (P : Program) (x0 x1 : AV) (σ : List AObj) (Z : Option (List AV) → List AObj → Prop) : Prop :=
  ACall P n_slices_IndexFunc_api_Record_api_Record [dm x0, dm x1] σ fun v1 s2 =>
  binC .geq .plain v1 (.d (.int .i64 0)) s2 fun v3 s4 =>
  Z (consO (some v3) (some [])) s4
theorem s_slices_ContainsFunc_api_Record_api_Record {P : Program} {x0 x1 : AV} {σ : List AObj} {Z : Option (List AV) → List AObj → Prop} (h : S_slices_ContainsFunc_api_Record_api_Record P x0 x1 σ Z) : awp P A_slices_ContainsFunc_api_Record_api_Record.body (AtEnd fun fr s => Z (resAs fr s A_slices_ContainsFunc_api_Record_api_Record.res) s) (slots0 0 [x0, x1]) σ :=
  cast (by kernel_rfl) h
/-- bulla/bullaref06.fields -/
def S_r06_fields (P : Program) (x0 : AV) (σ : List AObj) (Z : Option (List AV) → List AObj → Prop) : Prop :=
  binC .eql .plain x0 (.d (.int .i64 1)) σ fun v1 s2 =>
  condC v1 (Z (consO (some (.d (.bool true))) (consO (some (.d (.bool false))) (consO (some (.d (.bool false))) (consO (some (.d (.bool false))) (some []))))) s2) (binC .eql .plain x0 (.d (.int .i64 2)) s2 fun v3 s4 =>
  condC v3 (Z (consO (some (.d (.bool true))) (consO (some (.d (.bool false))) (consO (some (.d (.bool false))) (consO (some (.d (.bool true))) (some []))))) s4) (binC .eql .plain x0 (.d (.int .i64 3)) s4 fun v5 s6 =>
  condC v5 (Z (consO (some (.d (.bool true))) (consO (some (.d (.bool true))) (consO (some (.d (.bool true))) (consO (some (.d (.bool false))) (some []))))) s6) (binC .eql .plain x0 (.d (.int .i64 4)) s6 fun v7 s8 =>
  condC v7 (Z (consO (some (.d (.bool true))) (consO (some (.d (.bool false))) (consO (some (.d (.bool true))) (consO (some (.d (.bool false))) (some []))))) s8) (Z (consO (some (.d (.bool false))) (consO (some (.d (.bool false))) (consO (some (.d (.bool false))) (consO (some (.d (.bool false))) (some []))))) s8))))
theorem s_r06_fields {P : Program} {x0 : AV} {σ : List AObj} {Z : Option (List AV) → List AObj → Prop} (h : S_r06_fields P x0 σ Z) : awp P A_r06_fields.body (AtEnd fun fr s => Z (resAs fr s A_r06_fields.res) s) (slots0 0 [x0]) σ :=
  cast (by kernel_rfl) h
/-- slices.EqualFunc[[]bulla/api.Record,[]bulla/api.Record,bulla/api.Record,bulla/api.Record] -/
def S_slices_EqualFunc_api_Record_api_Record_api_Record_api_Record (P : Program) (x0 x1 x2 : AV) (σ : List AObj) (Z : Option (List AV) → List AObj → Prop) : Prop :=
  lenC .sl x0 σ fun v1 s2 =>
  lenC .sl x1 s2 fun v3 s4 =>
  binC .neq .plain v1 v3 s4 fun v5 s6 =>
  condC v5 (Z (consO (some (.d (.bool false))) (some [])) s6) (lenC .sl x0 s6 fun v7 s8 =>
  loopC [(.d (.int .i64 0))] s8 fun vs9 s10 again11 =>
  headC vs9 fun v12 vs13 =>
  binC .lss .plain v12 v7 s10 fun v14 s15 =>
  condC v14 (iaddrC none 1 x0 v12 s15 fun v16 s17 =>
  loadC false 1 v16 s17 fun v18 s19 =>
  iaddrC none 1 x1 v12 s19 fun v20 s21 =>
  loadC false 1 v20 s21 fun v22 s23 =>
  callvC P x2 [dm v18, dm v22] s23 fun v24 s25 =>
  unC .not v24 s25 fun v26 s27 =>
  condC v26 (Z (consO (some (.d (.bool false))) (some [])) s27) (binC .add .plain v12 (.d (.int .i64 1)) s27 fun v28 s29 =>
  again11 [v28] s29)) (Z (consO (some (.d (.bool true))) (some [])) s15))
theorem s_slices_EqualFunc_api_Record_api_Record_api_Record_api_Record {P : Program} {x0 x1 x2 : AV} {σ : List AObj} {Z : Option (List AV) → List AObj → Prop} (h : S_slices_EqualFunc_api_Record_api_Record_api_Record_api_Record P x0 x1 x2 σ Z) : awp P A_slices_EqualFunc_api_Record_api_Record_api_Record_api_Record.body (AtEnd fun fr s => Z (resAs fr s A_slices_EqualFunc_api_Record_api_Record_api_Record_api_Record.res) s) (slots0 0 [x0, x1, x2]) σ :=
  cast (by kernel_rfl) h
/-- bulla/op.Same$1 -/
def S_op_Same_1 (P : Program) (x0 x1 : AV) (σ : List AObj) (Z : Option (List AV) → List AObj → Prop) : Prop :=
  ACall P n_bytes_Equal [dm x0, dm x1] σ fun v1 s2 =>
  Z (consO (some v1) (some [])) s2
theorem s_op_Same_1 {P : Program} {x0 x1 : AV} {σ : List AObj} {Z : Option (List AV) → List AObj → Prop} (h : S_op_Same_1 P x0 x1 σ Z) : awp P A_op_Same_1.body (AtEnd fun fr s => Z (resAs fr s A_op_Same_1.res) s) (slots0 0 [x0, x1]) σ :=
  cast (by kernel_rfl) h
/-- bytes.Clone -/
def S_bytes_Clone (P : Program) (x0 : AV) (σ : List AObj) (Z : Option (List AV) → List AObj → Prop) : Prop :=
  isnilC false x0 σ fun v1 s2 =>
  condC v1 (Z (consO (some (.exact [])) (some [])) s2) (mksliceC false 1 0 (fillV (rep [(.d (.int .u8 0))] 0) []) s2 fun v3 s4 =>
  appendC 1 1 v3 x0 s4 fun v5 s6 =>
  Z (consO (some v5) (some [])) s6)
theorem s_bytes_Clone {P : Program} {x0 : AV} {σ : List AObj} {Z : Option (List AV) → List AObj → Prop} (h : S_bytes_Clone P x0 σ Z) : awp P A_bytes_Clone.body (AtEnd fun fr s => Z (resAs fr s A_bytes_Clone.res) s) (slots0 0 [x0]) σ :=
  cast (by kernel_rfl) h
/-- bulla/codec.PutNum -/
def S_codec_PutNum (P : Program) (x0 x1 : AV) (σ : List AObj) (Z : Option (List AV) → List AObj → Prop) : Prop :=
  ACall P n_codec_form [dm x1] σ fun v1 s2 =>
  extractC v1 0 s2 fun v3 s4 =>
  extractC v1 1 s4 fun v5 s6 =>
  allocC [(.d (.int .u8 0)), (.d (.int .u8 0)), (.d (.int .u8 0)), (.d (.int .u8 0)), (.d (.int .u8 0)), (.d (.int .u8 0)), (.d (.int .u8 0)), (.d (.int .u8 0)), (.d (.int .u8 0)), (.d (.int .u8 0))] s6 fun v7 s8 =>
  storeC 10 v7 v3 s8 fun _ s10 =>
  slcC (.arr 10 1) v7 none (some v5) none s10 fun v11 s12 =>
  ACall P n_slices_Clip_byte_byte [dm x0] s12 fun v13 s14 =>
  appendC 1 1 v13 v11 s14 fun v15 s16 =>
  Z (consO (some v15) (some [])) s16
theorem s_codec_PutNum {P : Program} {x0 x1 : AV} {σ : List AObj} {Z : Option (List AV) → List AObj → Prop} (h : S_codec_PutNum P x0 x1 σ Z) : awp P A_codec_PutNum.body (AtEnd fun fr s => Z (resAs fr s A_codec_PutNum.res) s) (slots0 0 [x0, x1]) σ :=
  cast (by kernel_rfl) h
/-- bulla/codec.PutBytes -/
def S_codec_PutBytes (P : Program) (x0 x1 : AV) (σ : List AObj) (Z : Option (List AV) → List AObj → Prop) : Prop :=
  lenC .sl x1 σ fun v1 s2 =>
  convC (.int .u64) v1 s2 fun v3 s4 =>
  ACall P n_codec_PutNum [dm x0, dm v3] s4 fun v5 s6 =>
  appendC 1 1 v5 x1 s6 fun v7 s8 =>
  Z (consO (some v7) (some [])) s8
theorem s_codec_PutBytes {P : Program} {x0 x1 : AV} {σ : List AObj} {Z : Option (List AV) → List AObj → Prop} (h : S_codec_PutBytes P x0 x1 σ Z) : awp P A_codec_PutBytes.body (AtEnd fun fr s => Z (resAs fr s A_codec_PutBytes.res) s) (slots0 0 [x0, x1]) σ :=
  cast (by kernel_rfl) h
/-- bulla/bullaref01.PutNum -/
def S_r01_PutNum (P : Program) (x0 x1 : AV) (σ : List AObj) (Z : Option (List AV) → List AObj → Prop) : Prop :=
  appendC 1 1 (.exact []) x0 σ fun v1 s2 =>
  loopC [x1, v1] s2 fun vs3 s4 again5 =>
  headC vs3 fun v6 vs7 =>
  headC vs7 fun v8 vs9 =>
  binC .geq .plain v6 (.d (.int .u64 128)) s4 fun v10 s11 =>
  condC v10 (binC .rem .plain v6 (.d (.int .u64 128)) s11 fun v12 s13 =>
  convC (.int .u8) v12 s13 fun v14 s15 =>
  binC .add .plain v14 (.d (.int .u8 128)) s15 fun v16 s17 =>
  mksliceC false 1 1 (fillV (rep [(.d (.int .u8 0))] 1) [(0, 1, v16)]) s17 fun v18 s19 =>
  appendC 1 1 v8 v18 s19 fun v20 s21 =>
  binC .quo .plain v6 (.d (.int .u64 128)) s21 fun v22 s23 =>
  again5 [v22, v20] s23) (convC (.int .u8) v6 s11 fun v24 s25 =>
  mksliceC false 1 1 (fillV (rep [(.d (.int .u8 0))] 1) [(0, 1, v24)]) s25 fun v26 s27 =>
  appendC 1 1 v8 v26 s27 fun v28 s29 =>
  Z (consO (some v28) (some [])) s29)
theorem s_r01_PutNum {P : Program} {x0 x1 : AV} {σ : List AObj} {Z : Option (List AV) → List AObj → Prop} (h : S_r01_PutNum P x0 x1 σ Z) : awp P A_r01_PutNum.body (AtEnd fun fr s => Z (resAs fr s A_r01_PutNum.res) s) (slots0 0 [x0, x1]) σ :=
  cast (by kernel_rfl) h
/-- bulla/bullaref01.PutBytes -/
def S_r01_PutBytes (P : Program) (x0 x1 : AV) (σ : List AObj) (Z : Option (List AV) → List AObj → Prop) : Prop :=
  lenC .sl x1 σ fun v1 s2 =>
  convC (.int .u64) v1 s2 fun v3 s4 =>
  ACall P n_r01_PutNum [dm x0, dm v3] s4 fun v5 s6 =>
  appendC 1 1 v5 x1 s6 fun v7 s8 =>
  Z (consO (some v7) (some [])) s8
theorem s_r01_PutBytes {P : Program} {x0 x1 : AV} {σ : List AObj} {Z : Option (List AV) → List AObj → Prop} (h : S_r01_PutBytes P x0 x1 σ Z) : awp P A_r01_PutBytes.body (AtEnd fun fr s => Z (resAs fr s A_r01_PutBytes.res) s) (slots0 0 [x0, x1]) σ :=
  cast (by kernel_rfl) h
/-- (*bulla/codec.Reader).Done -/
def S_codec_Reader_Done (P : Program) (x0 : AV) (σ : List AObj) (Z : Option (List AV) → List AObj → Prop) : Prop :=
  ACall P n_codec_Reader_Err [dm x0] σ fun v1 s2 =>
  binC .neq .plain v1 (.d (.int .i64 0)) s2 fun v3 s4 =>
  condC v3 (Z (consO (some v1) (some [])) s4) (nilC x0 s4 fun v5 s6 =>
  faddrC 0 v5 s6 fun v7 s8 =>
  loadC false 1 v7 s8 fun v9 s10 =>
  lenC .sl v9 s10 fun v11 s12 =>
  binC .gtr .plain v11 (.d (.int .i64 0)) s12 fun v13 s14 =>
  condC v13 (Z (consO (some (.d (.int .i64 12))) (some [])) s14) (Z (consO (some (.d (.int .i64 0))) (some [])) s14))
theorem s_codec_Reader_Done {P : Program} {x0 : AV} {σ : List AObj} {Z : Option (List AV) → List AObj → Prop} (h : S_codec_Reader_Done P x0 σ Z) : awp P A_codec_Reader_Done.body (AtEnd fun fr s => Z (resAs fr s A_codec_Reader_Done.res) s) (slots0 0 [x0]) σ :=
  cast (by kernel_rfl) h
/-- (*bulla/codec.Reader).Num -/
def S_codec_Reader_Num (P : Program) (x0 x1 : AV) (σ : List AObj) (Z : Option (List AV) → List AObj → Prop) : Prop :=
  ACall P n_codec_Reader_stuck [dm x0] σ fun v1 s2 =>
  condC v1 (Z (consO (some (.d (.int .u64 0))) (some [])) s2) ((fun (k3 : List AObj → Prop) => loopC [(.d (.int .u64 0)), (.d (.int .i64 0))] s2 fun vs7 s8 again9 =>
  headC vs7 fun v10 vs11 =>
  headC vs11 fun v12 vs13 =>
  binC .lss .plain v12 (.d (.int .i64 10)) s8 fun v14 s15 =>
  condC v14 (nilC x0 s15 fun v16 s17 =>
  faddrC 0 v16 s17 fun v18 s19 =>
  loadC false 1 v18 s19 fun v20 s21 =>
  lenC .sl v20 s21 fun v22 s23 =>
  binC .geq .plain v12 v22 s23 fun v24 s25 =>
  condC v24 (ACall P n_codec_Reader_Fail [dm x0, dm (.d (.int .i64 10))] s25 fun v26 s27 =>
  Z (consO (some (.d (.int .u64 0))) (some [])) s27) (nilC x0 s25 fun v28 s29 =>
  faddrC 0 v28 s29 fun v30 s31 =>
  loadC false 1 v30 s31 fun v32 s33 =>
  iaddrC none 1 v32 v12 s33 fun v34 s35 =>
  loadC false 1 v34 s35 fun v36 s37 =>
  binC .and .plain v36 (.d (.int .u8 127)) s37 fun v38 s39 =>
  convC (.int .u64) v38 s39 fun v40 s41 =>
  binC .mul .plain (.d (.int .i64 7)) v12 s41 fun v42 s43 =>
  binC .shl .plain v40 v42 s43 fun v44 s45 =>
  binC .or .plain v10 v44 s45 fun v46 s47 =>
  binC .gtr .plain v36 (.d (.int .u8 127)) s47 fun v48 s49 =>
  condC v48 (binC .add .plain v12 (.d (.int .i64 1)) s49 fun v50 s51 =>
  again9 [v46, v50] s51) (binC .gtr .plain v12 (.d (.int .i64 0)) s49 fun v52 s53 =>
  guardC v52 true (fun k => k v36 s53) s53 (fun v54 s55 =>
  guardC v52 true (fun k => binC .eql .plain v54 (.d (.int .u8 0)) s55 k) s55 (fun v56 s57 =>
  pickC v52 v56 (.d (.bool false)) s57 fun v58 s59 =>
  guardC v58 false (fun k => k v12 s59) s59 (fun v60 s61 =>
  guardC v58 false (fun k => binC .eql .plain v60 (.d (.int .i64 9)) s61 k) s61 (fun v62 s63 =>
  guardC v58 false (fun k => k v62 s63) s63 (fun v64 s65 =>
  guardC v64 true (fun k => k v36 s65) s65 (fun v66 s67 =>
  guardC v64 true (fun k => binC .gtr .plain v66 (.d (.int .u8 1)) s67 k) s67 (fun v68 s69 =>
  guardC v58 false (fun k => pickC v64 v68 (.d (.bool false)) s69 k) s69 (fun v70 s71 =>
  pickC v58 (.d (.bool true)) v70 s71 fun v72 s73 =>
  guardC v72 false (fun k => k v46 s73) s73 (fun v74 s75 =>
  guardC v72 false (fun k => k x1 s75) s75 (fun v76 s77 =>
  guardC v72 false (fun k => binC .gtr .plain v74 v76 s77 k) s77 (fun v78 s79 =>
  pickC v72 (.d (.bool true)) v78 s79 fun v80 s81 =>
  condC v80 (k3 s81) (nilC x0 s81 fun v82 s83 =>
  faddrC 0 v82 s83 fun v84 s85 =>
  loadC false 1 v84 s85 fun v86 s87 =>
  binC .add .plain v12 (.d (.int .i64 1)) s87 fun v88 s89 =>
  slcC (.sl 1) v86 (some v88) none none s89 fun v90 s91 =>
  nilC x0 s91 fun v92 s93 =>
  faddrC 0 v92 s93 fun v94 s95 =>
  storeC 1 v94 v90 s95 fun _ s97 =>
  Z (consO (some v46) (some [])) s97))))))))))))))) (k3 s15))
  (fun  s4 => ACall P n_codec_Reader_Fail [dm x0, dm (.d (.int .i64 11))] s4 fun v5 s6 =>
  Z (consO (some (.d (.int .u64 0))) (some [])) s6))
theorem s_codec_Reader_Num {P : Program} {x0 x1 : AV} {σ : List AObj} {Z : Option (List AV) → List AObj → Prop} (h : S_codec_Reader_Num P x0 x1 σ Z) : awp P A_codec_Reader_Num.body (AtEnd fun fr s => Z (resAs fr s A_codec_Reader_Num.res) s) (slots0 0 [x0, x1]) σ :=
  cast (by kernel_rfl) h
/-- (*bulla/codec.Reader).Bytes -/
def S_codec_Reader_Bytes (P : Program) (x0 x1 : AV) (σ : List AObj) (Z : Option (List AV) → List AObj → Prop) : Prop :=
  maxC [(.d (.int .i64 0)), x1] σ fun v1 s2 =>
  convC (.int .u64) v1 s2 fun v3 s4 =>
  ACall P n_codec_Reader_Num [dm x0, dm v3] s4 fun v5 s6 =>
  convC (.int .i64) v5 s6 fun v7 s8 =>
  ACall P n_codec_Reader_Take [dm x0, dm v7] s8 fun v9 s10 =>
  Z (consO (some v9) (some [])) s10
theorem s_codec_Reader_Bytes {P : Program} {x0 x1 : AV} {σ : List AObj} {Z : Option (List AV) → List AObj → Prop} (h : S_codec_Reader_Bytes P x0 x1 σ Z) : awp P A_codec_Reader_Bytes.body (AtEnd fun fr s => Z (resAs fr s A_codec_Reader_Bytes.res) s) (slots0 0 [x0, x1]) σ :=
  cast (by kernel_rfl) h
/-- (*bulla/codec.Reader).Fail -/
def S_codec_Reader_Fail (P : Program) (x0 x1 : AV) (σ : List AObj) (Z : Option (List AV) → List AObj → Prop) : Prop :=
  ACall P n_codec_Reader_stuck [dm x0] σ fun v1 s2 =>
  unC .not v1 s2 fun v3 s4 =>
  condC v3 (nilC x0 s4 fun v5 s6 =>
  faddrC 1 v5 s6 fun v7 s8 =>
  storeC 1 v7 x1 s8 fun _ s10 =>
  Z (some []) s10) (Z (some []) s4)
theorem s_codec_Reader_Fail {P : Program} {x0 x1 : AV} {σ : List AObj} {Z : Option (List AV) → List AObj → Prop} (h : S_codec_Reader_Fail P x0 x1 σ Z) : awp P A_codec_Reader_Fail.body (AtEnd fun fr s => Z (resAs fr s A_codec_Reader_Fail.res) s) (slots0 0 [x0, x1]) σ :=
  cast (by kernel_rfl) h
end Go.Proofs.Ytahbjkanmagndaa
