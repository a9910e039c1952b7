/- The conditions of each function, its slots as variables, and that the logic's conditions are these. Printed by program. -/
import Derived.Test.YthmdpooklflkfaaAf5
set_option linter.all false
set_option maxRecDepth 100000
set_option linter.unusedVariables false
namespace Go.Proofs.Ythmdpooklflkfaa
open Go.AW
/-- slices.ContainsFunc[[]bulla/api.Record,bulla/api.Record] -/
def S_slices_ContainsFunc_api_Record_api_Record (P : Program) (x0 x1 : AV) (σ : List AObj) (Z : Option (List AV) → List AObj → Prop) : Prop :=
  ACall P n_slices_IndexFunc_api_Record_api_Record [dm x0, dm x1] σ fun v1 s2 =>
  binC .geq .plain v1 (.d (.int .i64 0)) s2 fun v3 s4 =>
  Z (consO (some v3) (some [])) s4
theorem s_slices_ContainsFunc_api_Record_api_Record {P : Program} {x0 x1 : AV} {σ : List AObj} {Z : Option (List AV) → List AObj → Prop} (h : S_slices_ContainsFunc_api_Record_api_Record P x0 x1 σ Z) : awp P A_slices_ContainsFunc_api_Record_api_Record.body (AtEnd fun fr s => Z (resAs fr s A_slices_ContainsFunc_api_Record_api_Record.res) s) (slots0 0 [x0, x1]) σ :=
  cast (by kernel_rfl) h
/-- bulla/bullaref06.fields -/
def S_r06_fields (P : Program) (x0 : AV) (σ : List AObj) (Z : Option (List AV) → List AObj → Prop) : Prop :=
  binC .eql .plain x0 (.d (.int .i64 1)) σ fun v1 s2 =>
  condC v1 (Z (consO (some (.d (.bool true))) (consO (some (.d (.bool false))) (consO (some (.d (.bool false))) (consO (some (.d (.bool false))) (some []))))) s2) (binC .eql .plain x0 (.d (.int .i64 2)) s2 fun v3 s4 =>
  condC v3 (Z (consO (some (.d (.bool true))) (consO (some (.d (.bool false))) (consO (some (.d (.bool false))) (consO (some (.d (.bool true))) (some []))))) s4) (binC .eql .plain x0 (.d (.int .i64 3)) s4 fun v5 s6 =>
  condC v5 (Z (consO (some (.d (.bool true))) (consO (some (.d (.bool true))) (consO (some (.d (.bool true))) (consO (some (.d (.bool false))) (some []))))) s6) (binC .eql .plain x0 (.d (.int .i64 4)) s6 fun v7 s8 =>
  condC v7 (Z (consO (some (.d (.bool true))) (consO (some (.d (.bool false))) (consO (some (.d (.bool true))) (consO (some (.d (.bool false))) (some []))))) s8) (Z (consO (some (.d (.bool false))) (consO (some (.d (.bool false))) (consO (some (.d (.bool false))) (consO (some (.d (.bool false))) (some []))))) s8))))
theorem s_r06_fields {P : Program} {x0 : AV} {σ : List AObj} {Z : Option (List AV) → List AObj → Prop} (h : S_r06_fields P x0 σ Z) : awp P A_r06_fields.body (AtEnd fun fr s => Z (resAs fr s A_r06_fields.res) s) (slots0 0 [x0]) σ :=
  cast (by kernel_rfl) h
/-- bulla/bullaref06.Name -/
def S_r06_Name (P : Program) (x0 : AV) (σ : List AObj) (Z : Option (List AV) → List AObj → Prop) : Prop :=
  ACall P n_r06_Runes [dm x0] σ fun v1 s2 =>
  binC .gtr .plain v1 (.d (.int .i64 0)) s2 fun v3 s4 =>
  Z (consO (some v3) (some [])) s4
theorem s_r06_Name {P : Program} {x0 : AV} {σ : List AObj} {Z : Option (List AV) → List AObj → Prop} (h : S_r06_Name P x0 σ Z) : awp P A_r06_Name.body (AtEnd fun fr s => Z (resAs fr s A_r06_Name.res) s) (slots0 0 [x0]) σ :=
  cast (by kernel_rfl) h
/-- slices.EqualFunc[[]bulla/api.Record,[]bulla/api.Record,bulla/api.Record,bulla/api.Record] -/
def S_slices_EqualFunc_api_Record_api_Record_api_Record_api_Record (P : Program) (x0 x1 x2 : AV) (σ : List AObj) (Z : Option (List AV) → List AObj → Prop) : Prop :=
  lenC .sl x0 σ fun v1 s2 =>
  lenC .sl x1 s2 fun v3 s4 =>
  binC .neq .plain v1 v3 s4 fun v5 s6 =>
  condC v5 (Z (consO (some (.d (.bool false))) (some [])) s6) (lenC .sl x0 s6 fun v7 s8 =>
  loopC [(.d (.int .i64 0))] s8 fun vs9 s10 again11 =>
  headC vs9 fun v12 vs13 =>
  binC .lss .plain v12 v7 s10 fun v14 s15 =>
  condC v14 (iaddrC none 1 x0 v12 s15 fun v16 s17 =>
  loadC false 1 v16 s17 fun v18 s19 =>
  iaddrC none 1 x1 v12 s19 fun v20 s21 =>
  loadC false 1 v20 s21 fun v22 s23 =>
  callvC P x2 [dm v18, dm v22] s23 fun v24 s25 =>
  unC .not v24 s25 fun v26 s27 =>
  condC v26 (Z (consO (some (.d (.bool false))) (some [])) s27) (binC .add .plain v12 (.d (.int .i64 1)) s27 fun v28 s29 =>
  again11 [v28] s29)) (Z (consO (some (.d (.bool true))) (some [])) s15))
theorem s_slices_EqualFunc_api_Record_api_Record_api_Record_api_Record {P : Program} {x0 x1 x2 : AV} {σ : List AObj} {Z : Option (List AV) → List AObj → Prop} (h : S_slices_EqualFunc_api_Record_api_Record_api_Record_api_Record P x0 x1 x2 σ Z) : awp P A_slices_EqualFunc_api_Record_api_Record_api_Record_api_Record.body (AtEnd fun fr s => Z (resAs fr s A_slices_EqualFunc_api_Record_api_Record_api_Record_api_Record.res) s) (slots0 0 [x0, x1, x2]) σ :=
  cast (by kernel_rfl) h
/-- bulla/op.Same$1 -/
def S_op_Same_1 (P : Program) (x0 x1 : AV) (σ : List AObj) (Z : Option (List AV) → List AObj → Prop) : Prop :=
  ACall P n_bytes_Equal [dm x0, dm x1] σ fun v1 s2 =>
  Z (consO (some v1) (some [])) s2
theorem s_op_Same_1 {P : Program} {x0 x1 : AV} {σ : List AObj} {Z : Option (List AV) → List AObj → Prop} (h : S_op_Same_1 P x0 x1 σ Z) : awp P A_op_Same_1.body (AtEnd fun fr s => Z (resAs fr s A_op_Same_1.res) s) (slots0 0 [x0, x1]) σ :=
  cast (by kernel_rfl) h
/-- bulla/codec.PutBytes -/
def S_codec_PutBytes (P : Program) (x0 x1 : AV) (σ : List AObj) (Z : Option (List AV) → List AObj → Prop) : Prop :=
  lenC .sl x1 σ fun v1 s2 =>
  convC (.int .u64) v1 s2 fun v3 s4 =>
  ACall P n_codec_PutNum [dm x0, dm v3] s4 fun v5 s6 =>
  appendC 1 1 v5 x1 s6 fun v7 s8 =>
  Z (consO (some v7) (some [])) s8
theorem s_codec_PutBytes {P : Program} {x0 x1 : AV} {σ : List AObj} {Z : Option (List AV) → List AObj → Prop} (h : S_codec_PutBytes P x0 x1 σ Z) : awp P A_codec_PutBytes.body (AtEnd fun fr s => Z (resAs fr s A_codec_PutBytes.res) s) (slots0 0 [x0, x1]) σ :=
  cast (by kernel_rfl) h
/-- bulla/codec.form -/
def S_codec_form (P : Program) (x0 : AV) (σ : List AObj) (Z : Option (List AV) → List AObj → Prop) : Prop :=
  allocC [(.d (.int .u8 0)), (.d (.int .u8 0)), (.d (.int .u8 0)), (.d (.int .u8 0)), (.d (.int .u8 0)), (.d (.int .u8 0)), (.d (.int .u8 0)), (.d (.int .u8 0)), (.d (.int .u8 0)), (.d (.int .u8 0))] σ fun v1 s2 =>
  allocC [(.d (.int .u8 0)), (.d (.int .u8 0)), (.d (.int .u8 0)), (.d (.int .u8 0)), (.d (.int .u8 0)), (.d (.int .u8 0)), (.d (.int .u8 0)), (.d (.int .u8 0)), (.d (.int .u8 0)), (.d (.int .u8 0))] s2 fun v3 s4 =>
  loopC [x0, (.d (.int .i64 0))] s4 fun vs5 s6 again7 =>
  headC vs5 fun v8 vs9 =>
  headC vs9 fun v10 vs11 =>
  binC .gtr .plain v8 (.d (.int .u64 127)) s6 fun v12 s13 =>
  condC v12 (convC (.int .u8) v8 s13 fun v14 s15 =>
  binC .or .plain v14 (.d (.int .u8 128)) s15 fun v16 s17 =>
  iaddrC (some 10) 1 v3 v10 s17 fun v18 s19 =>
  storeC 1 v18 v16 s19 fun _ s21 =>
  binC .shr .plain v8 (.d (.int .u64 7)) s21 fun v22 s23 =>
  binC .add .plain v10 (.d (.int .i64 1)) s23 fun v24 s25 =>
  again7 [v22, v24] s25) (convC (.int .u8) v8 s13 fun v26 s27 =>
  iaddrC (some 10) 1 v3 v10 s27 fun v28 s29 =>
  storeC 1 v28 v26 s29 fun _ s31 =>
  loadC true 10 v3 s31 fun v32 s33 =>
  binC .add .plain v10 (.d (.int .i64 1)) s33 fun v34 s35 =>
  storeC 10 v1 v32 s35 fun _ s37 =>
  Z (consO (cellA v1 s37 true 10) (consO (some v34) (some []))) s37)
theorem s_codec_form {P : Program} {x0 : AV} {σ : List AObj} {Z : Option (List AV) → List AObj → Prop} (h : S_codec_form P x0 σ Z) : awp P A_codec_form.body (AtEnd fun fr s => Z (resAs fr s A_codec_form.res) s) (slots0 0 [x0]) σ :=
  cast (by kernel_rfl) h
/-- slices.Clip[[]byte,byte] -/
def S_slices_Clip_byte_byte (P : Program) (x0 : AV) (σ : List AObj) (Z : Option (List AV) → List AObj → Prop) : Prop :=
  lenC .sl x0 σ fun v1 s2 =>
  lenC .sl x0 s2 fun v3 s4 =>
  slcC (.sl 1) x0 none (some v1) (some v3) s4 fun v5 s6 =>
  Z (consO (some v5) (some [])) s6
theorem s_slices_Clip_byte_byte {P : Program} {x0 : AV} {σ : List AObj} {Z : Option (List AV) → List AObj → Prop} (h : S_slices_Clip_byte_byte P x0 σ Z) : awp P A_slices_Clip_byte_byte.body (AtEnd fun fr s => Z (resAs fr s A_slices_Clip_byte_byte.res) s) (slots0 0 [x0]) σ :=
  cast (by kernel_rfl) h
/-- (*bulla/ideal.Ledger).Len -/
def S_ideal_Ledger_Len (P : Program) (x0 : AV) (σ : List AObj) (Z : Option (List AV) → List AObj → Prop) : Prop :=
  ACall P n_ideal_Ledger_none [dm x0] σ fun v1 s2 =>
  condC v1 (Z (consO (some (.d (.int .i64 0))) (some [])) s2) (nilC x0 s2 fun v3 s4 =>
  faddrC 0 v3 s4 fun v5 s6 =>
  loadC false 1 v5 s6 fun v7 s8 =>
  lenC .sl v7 s8 fun v9 s10 =>
  Z (consO (some v9) (some [])) s10)
theorem s_ideal_Ledger_Len {P : Program} {x0 : AV} {σ : List AObj} {Z : Option (List AV) → List AObj → Prop} (h : S_ideal_Ledger_Len P x0 σ Z) : awp P A_ideal_Ledger_Len.body (AtEnd fun fr s => Z (resAs fr s A_ideal_Ledger_Len.res) s) (slots0 0 [x0]) σ :=
  cast (by kernel_rfl) h
/-- (*bulla/ideal.Ledger).Clone -/
def S_ideal_Ledger_Clone (P : Program) (x0 : AV) (σ : List AObj) (Z : Option (List AV) → List AObj → Prop) : Prop :=
  ACall P n_ideal_Ledger_none [dm x0] σ fun v1 s2 =>
  condC v1 (Z (consO (some (.d .nilp)) (some [])) s2) (ACall P n_ideal_NewLedger [] s2 fun v3 s4 =>
  nilC x0 s4 fun v5 s6 =>
  faddrC 0 v5 s6 fun v7 s8 =>
  loadC false 1 v7 s8 fun v9 s10 =>
  lenC .sl v9 s10 fun v11 s12 =>
  loopC [(.d (.int .i64 0))] s12 fun vs13 s14 again15 =>
  headC vs13 fun v16 vs17 =>
  binC .lss .plain v16 v11 s14 fun v18 s19 =>
  condC v18 (iaddrC none 2 v9 v16 s19 fun v20 s21 =>
  loadC true 2 v20 s21 fun v22 s23 =>
  allocC [(.d (.int .i64 0)), (.d (.int .i64 0))] s23 fun v24 s25 =>
  storeC 2 v24 v22 s25 fun _ s27 =>
  faddrC 0 v24 s27 fun v28 s29 =>
  loadC false 1 v28 s29 fun v30 s31 =>
  faddrC 1 v24 s31 fun v32 s33 =>
  loadC false 1 v32 s33 fun v34 s35 =>
  ACall P n_ideal_Ledger_Sign [dm v3, dm v30, dm v34] s35 fun v36 s37 =>
  binC .add .plain v16 (.d (.int .i64 1)) s37 fun v38 s39 =>
  again15 [v38] s39) (Z (consO (some v3) (some [])) s19))
theorem s_ideal_Ledger_Clone {P : Program} {x0 : AV} {σ : List AObj} {Z : Option (List AV) → List AObj → Prop} (h : S_ideal_Ledger_Clone P x0 σ Z) : awp P A_ideal_Ledger_Clone.body (AtEnd fun fr s => Z (resAs fr s A_ideal_Ledger_Clone.res) s) (slots0 0 [x0]) σ :=
  cast (by kernel_rfl) h
/-- (*bulla/ideal.Ledger).none -/
def S_ideal_Ledger_none (P : Program) (x0 : AV) (σ : List AObj) (Z : Option (List AV) → List AObj → Prop) : Prop :=
  binC .eql .ptr x0 (.d .nilp) σ fun v1 s2 =>
  guardC v1 false (fun k => k x0 s2) s2 (fun v3 s4 =>
  guardC v1 false (fun k => nilC v3 s4 k) s4 (fun v5 s6 =>
  guardC v1 false (fun k => faddrC 1 v5 s6 k) s6 (fun v7 s8 =>
  guardC v1 false (fun k => loadC false 1 v7 s8 k) s8 (fun v9 s10 =>
  guardC v1 false (fun k => binC .eql .map v9 (.d .nilmap) s10 k) s10 (fun v11 s12 =>
  pickC v1 (.d (.bool true)) v11 s12 fun v13 s14 =>
  Z (consO (some v13) (some [])) s14)))))
theorem s_ideal_Ledger_none {P : Program} {x0 : AV} {σ : List AObj} {Z : Option (List AV) → List AObj → Prop} (h : S_ideal_Ledger_none P x0 σ Z) : awp P A_ideal_Ledger_none.body (AtEnd fun fr s => Z (resAs fr s A_ideal_Ledger_none.res) s) (slots0 0 [x0]) σ :=
  cast (by kernel_rfl) h
/-- (*bulla/ideal.Table).none -/
def S_ideal_Table_none (P : Program) (x0 : AV) (σ : List AObj) (Z : Option (List AV) → List AObj → Prop) : Prop :=
  binC .eql .ptr x0 (.d .nilp) σ fun v1 s2 =>
  guardC v1 false (fun k => k x0 s2) s2 (fun v3 s4 =>
  guardC v1 false (fun k => nilC v3 s4 k) s4 (fun v5 s6 =>
  guardC v1 false (fun k => faddrC 1 v5 s6 k) s6 (fun v7 s8 =>
  guardC v1 false (fun k => loadC false 1 v7 s8 k) s8 (fun v9 s10 =>
  guardC v1 false (fun k => binC .eql .map v9 (.d .nilmap) s10 k) s10 (fun v11 s12 =>
  pickC v1 (.d (.bool true)) v11 s12 fun v13 s14 =>
  Z (consO (some v13) (some [])) s14)))))
theorem s_ideal_Table_none {P : Program} {x0 : AV} {σ : List AObj} {Z : Option (List AV) → List AObj → Prop} (h : S_ideal_Table_none P x0 σ Z) : awp P A_ideal_Table_none.body (AtEnd fun fr s => Z (resAs fr s A_ideal_Table_none.res) s) (slots0 0 [x0]) σ :=
  cast (by kernel_rfl) h
/-- (*bulla/ideal.Table).Len -/
def S_ideal_Table_Len (P : Program) (x0 : AV) (σ : List AObj) (Z : Option (List AV) → List AObj → Prop) : Prop :=
  ACall P n_ideal_Table_none [dm x0] σ fun v1 s2 =>
  condC v1 (Z (consO (some (.d (.int .i64 0))) (some [])) s2) (nilC x0 s2 fun v3 s4 =>
  faddrC 0 v3 s4 fun v5 s6 =>
  loadC false 1 v5 s6 fun v7 s8 =>
  lenC .sl v7 s8 fun v9 s10 =>
  Z (consO (some v9) (some [])) s10)
theorem s_ideal_Table_Len {P : Program} {x0 : AV} {σ : List AObj} {Z : Option (List AV) → List AObj → Prop} (h : S_ideal_Table_Len P x0 σ Z) : awp P A_ideal_Table_Len.body (AtEnd fun fr s => Z (resAs fr s A_ideal_Table_Len.res) s) (slots0 0 [x0]) σ :=
  cast (by kernel_rfl) h
/-- (*bulla/ideal.Table).Clone -/
def S_ideal_Table_Clone (P : Program) (x0 : AV) (σ : List AObj) (Z : Option (List AV) → List AObj → Prop) : Prop :=
  ACall P n_ideal_Table_none [dm x0] σ fun v1 s2 =>
  condC v1 (Z (consO (some (.d .nilp)) (some [])) s2) (nilC x0 s2 fun v3 s4 =>
  faddrC 0 v3 s4 fun v5 s6 =>
  loadC false 1 v5 s6 fun v7 s8 =>
  ACall P n_ideal_From [dm v7] s8 fun v9 s10 =>
  extractC v9 0 s10 fun v11 s12 =>
  extractC v9 1 s12 fun v13 s14 =>
  Z (consO (some v11) (some [])) s14)
theorem s_ideal_Table_Clone {P : Program} {x0 : AV} {σ : List AObj} {Z : Option (List AV) → List AObj → Prop} (h : S_ideal_Table_Clone P x0 σ Z) : awp P A_ideal_Table_Clone.body (AtEnd fun fr s => Z (resAs fr s A_ideal_Table_Clone.res) s) (slots0 0 [x0]) σ :=
  cast (by kernel_rfl) h
/-- bulla/op.Runes -/
def S_op_Runes (P : Program) (x0 : AV) (σ : List AObj) (Z : Option (List AV) → List AObj → Prop) : Prop :=
  rangeC x0 σ fun v1 s2 =>
  loopC [(.d (.int .i64 0))] s2 fun vs3 s4 again5 =>
  headC vs3 fun v6 vs7 =>
  nextC v1 s4 fun v8 s9 =>
  extractC v8 0 s9 fun v10 s11 =>
  condC v10 (extractC v8 2 s11 fun v12 s13 =>
  binC .lss .plain v12 (.d (.int .i32 33)) s13 fun v14 s15 =>
  guardC v14 false (fun k => k v12 s15) s15 (fun v16 s17 =>
  guardC v14 false (fun k => binC .geq .plain v16 (.d (.int .i32 127)) s17 k) s17 (fun v18 s19 =>
  guardC v14 false (fun k => k v18 s19) s19 (fun v20 s21 =>
  guardC v20 true (fun k => k v12 s21) s21 (fun v22 s23 =>
  guardC v20 true (fun k => binC .leq .plain v22 (.d (.int .i32 159)) s23 k) s23 (fun v24 s25 =>
  guardC v14 false (fun k => pickC v20 v24 (.d (.bool false)) s25 k) s25 (fun v26 s27 =>
  pickC v14 (.d (.bool true)) v26 s27 fun v28 s29 =>
  guardC v28 false (fun k => k v12 s29) s29 (fun v30 s31 =>
  guardC v28 false (fun k => binC .eql .plain v30 (.d (.int .i32 47)) s31 k) s31 (fun v32 s33 =>
  pickC v28 (.d (.bool true)) v32 s33 fun v34 s35 =>
  guardC v34 false (fun k => k v12 s35) s35 (fun v36 s37 =>
  guardC v34 false (fun k => binC .eql .plain v36 (.d (.int .i32 65533)) s37 k) s37 (fun v38 s39 =>
  pickC v34 (.d (.bool true)) v38 s39 fun v40 s41 =>
  condC v40 (Z (consO (some (.d (.int .i64 0))) (some [])) s41) (binC .add .plain v6 (.d (.int .i64 1)) s41 fun v42 s43 =>
  again5 [v42] s43)))))))))))) (binC .gtr .plain v6 (.d (.int .i64 16)) s11 fun v44 s45 =>
  condC v44 (Z (consO (some (.d (.int .i64 0))) (some [])) s45) (Z (consO (some v6) (some [])) s45))
theorem s_op_Runes {P : Program} {x0 : AV} {σ : List AObj} {Z : Option (List AV) → List AObj → Prop} (h : S_op_Runes P x0 σ Z) : awp P A_op_Runes.body (AtEnd fun fr s => Z (resAs fr s A_op_Runes.res) s) (slots0 0 [x0]) σ :=
  cast (by kernel_rfl) h
/-- slices.IndexFunc[[]bulla/api.Record,bulla/api.Record] -/
def S_slices_IndexFunc_api_Record_api_Record (P : Program) (x0 x1 : AV) (σ : List AObj) (Z : Option (List AV) → List AObj → Prop) : Prop :=
  lenC .sl x0 σ fun v1 s2 =>
  loopC [(.d (.int .i64 0))] s2 fun vs3 s4 again5 =>
  headC vs3 fun v6 vs7 =>
  binC .lss .plain v6 v1 s4 fun v8 s9 =>
  condC v8 (iaddrC none 1 x0 v6 s9 fun v10 s11 =>
  loadC false 1 v10 s11 fun v12 s13 =>
  callvC P x1 [dm v12] s13 fun v14 s15 =>
  condC v14 (Z (consO (some v6) (some [])) s15) (binC .add .plain v6 (.d (.int .i64 1)) s15 fun v16 s17 =>
  again5 [v16] s17)) (Z (consO (some (.d (.int .i64 (-1)))) (some [])) s9)
theorem s_slices_IndexFunc_api_Record_api_Record {P : Program} {x0 x1 : AV} {σ : List AObj} {Z : Option (List AV) → List AObj → Prop} (h : S_slices_IndexFunc_api_Record_api_Record P x0 x1 σ Z) : awp P A_slices_IndexFunc_api_Record_api_Record.body (AtEnd fun fr s => Z (resAs fr s A_slices_IndexFunc_api_Record_api_Record.res) s) (slots0 0 [x0, x1]) σ :=
  cast (by kernel_rfl) h
/-- bulla/bullaref06.Runes -/
def S_r06_Runes (P : Program) (x0 : AV) (σ : List AObj) (Z : Option (List AV) → List AObj → Prop) : Prop :=
  loopC [x0, (.d (.int .i64 0))] σ fun vs1 s2 again3 =>
  headC vs1 fun v4 vs5 =>
  headC vs5 fun v6 vs7 =>
  lenC .str v4 s2 fun v8 s9 =>
  binC .gtr .plain v8 (.d (.int .i64 0)) s9 fun v10 s11 =>
  condC v10 (ACall P n_r06_rune1 [dm v4] s11 fun v12 s13 =>
  extractC v12 0 s13 fun v14 s15 =>
  extractC v12 1 s15 fun v16 s17 =>
  binC .eql .plain v16 (.d (.int .i64 0)) s17 fun v18 s19 =>
  guardC v18 false (fun k => k v14 s19) s19 (fun v20 s21 =>
  guardC v18 false (fun k => binC .lss .plain v20 (.d (.int .i64 33)) s21 k) s21 (fun v22 s23 =>
  pickC v18 (.d (.bool true)) v22 s23 fun v24 s25 =>
  guardC v24 false (fun k => k v14 s25) s25 (fun v26 s27 =>
  guardC v24 false (fun k => binC .geq .plain v26 (.d (.int .i64 127)) s27 k) s27 (fun v28 s29 =>
  guardC v24 false (fun k => k v28 s29) s29 (fun v30 s31 =>
  guardC v30 true (fun k => k v14 s31) s31 (fun v32 s33 =>
  guardC v30 true (fun k => binC .lss .plain v32 (.d (.int .i64 160)) s33 k) s33 (fun v34 s35 =>
  guardC v24 false (fun k => pickC v30 v34 (.d (.bool false)) s35 k) s35 (fun v36 s37 =>
  pickC v24 (.d (.bool true)) v36 s37 fun v38 s39 =>
  guardC v38 false (fun k => k v14 s39) s39 (fun v40 s41 =>
  guardC v38 false (fun k => binC .eql .plain v40 (.d (.int .i64 47)) s41 k) s41 (fun v42 s43 =>
  pickC v38 (.d (.bool true)) v42 s43 fun v44 s45 =>
  guardC v44 false (fun k => k v14 s45) s45 (fun v46 s47 =>
  guardC v44 false (fun k => binC .eql .plain v46 (.d (.int .i64 65533)) s47 k) s47 (fun v48 s49 =>
  pickC v44 (.d (.bool true)) v48 s49 fun v50 s51 =>
  guardC v50 false (fun k => k v6 s51) s51 (fun v52 s53 =>
  guardC v50 false (fun k => binC .geq .plain v52 (.d (.int .i64 16)) s53 k) s53 (fun v54 s55 =>
  pickC v50 (.d (.bool true)) v54 s55 fun v56 s57 =>
  condC v56 (Z (consO (some (.d (.int .i64 0))) (some [])) s57) (binC .add .plain v6 (.d (.int .i64 1)) s57 fun v58 s59 =>
  slcC .str v4 (some v16) none none s59 fun v60 s61 =>
  again3 [v60, v58] s61)))))))))))))))) (Z (consO (some v6) (some [])) s11)
theorem s_r06_Runes {P : Program} {x0 : AV} {σ : List AObj} {Z : Option (List AV) → List AObj → Prop} (h : S_r06_Runes P x0 σ Z) : awp P A_r06_Runes.body (AtEnd fun fr s => Z (resAs fr s A_r06_Runes.res) s) (slots0 0 [x0]) σ :=
  cast (by kernel_rfl) h
/-- bulla/ideal.From -/
def S_ideal_From (P : Program) (x0 : AV) (σ : List AObj) (Z : Option (List AV) → List AObj → Prop) : Prop :=
  lenC .sl x0 σ fun v1 s2 =>
  binC .gtr .plain v1 (.d (.int .i64 1048576)) s2 fun v3 s4 =>
  condC v3 (Z (consO (some (.d .nilp)) (consO (some (.d (.int .i64 3))) (some []))) s4) (ACall P n_ideal_NewTable [] s4 fun v5 s6 =>
  lenC .sl x0 s6 fun v7 s8 =>
  loopC [(.d (.int .i64 0))] s8 fun vs9 s10 again11 =>
  headC vs9 fun v12 vs13 =>
  binC .lss .plain v12 v7 s10 fun v14 s15 =>
  condC v14 (iaddrC none 1 x0 v12 s15 fun v16 s17 =>
  loadC false 1 v16 s17 fun v18 s19 =>
  ACall P n_ideal_Table_Look [dm v5, dm v18] s19 fun v20 s21 =>
  extractC v20 0 s21 fun v22 s23 =>
  extractC v20 1 s23 fun v24 s25 =>
  condC v24 (Z (consO (some (.d .nilp)) (consO (some (.d (.int .i64 5))) (some []))) s25) (ACall P n_ideal_Table_Sum [dm v5, dm v18] s25 fun v26 s27 =>
  binC .add .plain v12 (.d (.int .i64 1)) s27 fun v28 s29 =>
  again11 [v28] s29)) (Z (consO (some v5) (consO (some (.d (.int .i64 0))) (some []))) s15))
theorem s_ideal_From {P : Program} {x0 : AV} {σ : List AObj} {Z : Option (List AV) → List AObj → Prop} (h : S_ideal_From P x0 σ Z) : awp P A_ideal_From.body (AtEnd fun fr s => Z (resAs fr s A_ideal_From.res) s) (slots0 0 [x0]) σ :=
  cast (by kernel_rfl) h
/-- bulla/bullaref06.rune1 -/
def S_r06_rune1 (P : Program) (x0 : AV) (σ : List AObj) (Z : Option (List AV) → List AObj → Prop) : Prop :=
  idxSC x0 (.d (.int .i64 0)) σ fun v1 s2 =>
  ACall P n_r06_size [dm v1] s2 fun v3 s4 =>
  binC .eql .plain v3 (.d (.int .i64 0)) s4 fun v5 s6 =>
  guardC v5 false (fun k => k v3 s6) s6 (fun v7 s8 =>
  guardC v5 false (fun k => k x0 s8) s8 (fun v9 s10 =>
  guardC v5 false (fun k => lenC .str v9 s10 k) s10 (fun v11 s12 =>
  guardC v5 false (fun k => binC .gtr .plain v7 v11 s12 k) s12 (fun v13 s14 =>
  pickC v5 (.d (.bool true)) v13 s14 fun v15 s16 =>
  condC v15 (Z (consO (some (.d (.int .i64 0))) (consO (some (.d (.int .i64 0))) (some []))) s16) (binC .eql .plain v3 (.d (.int .i64 1)) s16 fun v17 s18 =>
  condC v17 (idxSC x0 (.d (.int .i64 0)) s18 fun v19 s20 =>
  convC (.int .i64) v19 s20 fun v21 s22 =>
  Z (consO (some v21) (consO (some (.d (.int .i64 1))) (some []))) s22) (idxSC x0 (.d (.int .i64 0)) s18 fun v23 s24 =>
  convC (.int .i64) v23 s24 fun v25 s26 =>
  binC .sub .plain (.d (.int .i64 7)) v3 s26 fun v27 s28 =>
  binC .shl .plain (.d (.int .i64 1)) v27 s28 fun v29 s30 =>
  binC .sub .plain v29 (.d (.int .i64 1)) s30 fun v31 s32 =>
  binC .and .plain v25 v31 s32 fun v33 s34 =>
  loopC [v33, (.d (.int .i64 1))] s34 fun vs35 s36 again37 =>
  headC vs35 fun v38 vs39 =>
  headC vs39 fun v40 vs41 =>
  binC .lss .plain v40 v3 s36 fun v42 s43 =>
  condC v42 (idxSC x0 v40 s43 fun v44 s45 =>
  binC .lss .plain v44 (.d (.int .u8 128)) s45 fun v46 s47 =>
  guardC v46 false (fun k => k x0 s47) s47 (fun v48 s49 =>
  guardC v46 false (fun k => k v40 s49) s49 (fun v50 s51 =>
  guardC v46 false (fun k => idxSC v48 v50 s51 k) s51 (fun v52 s53 =>
  guardC v46 false (fun k => binC .geq .plain v52 (.d (.int .u8 192)) s53 k) s53 (fun v54 s55 =>
  pickC v46 (.d (.bool true)) v54 s55 fun v56 s57 =>
  condC v56 (Z (consO (some (.d (.int .i64 0))) (consO (some (.d (.int .i64 0))) (some []))) s57) (binC .mul .plain v38 (.d (.int .i64 64)) s57 fun v58 s59 =>
  idxSC x0 v40 s59 fun v60 s61 =>
  convC (.int .i64) v60 s61 fun v62 s63 =>
  binC .rem .plain v62 (.d (.int .i64 64)) s63 fun v64 s65 =>
  binC .add .plain v58 v64 s65 fun v66 s67 =>
  binC .add .plain v40 (.d (.int .i64 1)) s67 fun v68 s69 =>
  again37 [v66, v68] s69)))))) (mksliceC false 1 5 (fillV (rep [(.d (.int .i64 0))] 5) [(0, 1, (.d (.int .i64 0))), (1, 1, (.d (.int .i64 0))), (2, 1, (.d (.int .i64 128))), (3, 1, (.d (.int .i64 2048))), (4, 1, (.d (.int .i64 65536)))]) s43 fun v70 s71 =>
  iaddrC none 1 v70 v3 s71 fun v72 s73 =>
  loadC false 1 v72 s73 fun v74 s75 =>
  binC .lss .plain v38 v74 s75 fun v76 s77 =>
  guardC v76 false (fun k => k v38 s77) s77 (fun v78 s79 =>
  guardC v76 false (fun k => binC .gtr .plain v78 (.d (.int .i64 1114111)) s79 k) s79 (fun v80 s81 =>
  pickC v76 (.d (.bool true)) v80 s81 fun v82 s83 =>
  guardC v82 false (fun k => k v38 s83) s83 (fun v84 s85 =>
  guardC v82 false (fun k => binC .geq .plain v84 (.d (.int .i64 55296)) s85 k) s85 (fun v86 s87 =>
  guardC v82 false (fun k => k v86 s87) s87 (fun v88 s89 =>
  guardC v88 true (fun k => k v38 s89) s89 (fun v90 s91 =>
  guardC v88 true (fun k => binC .lss .plain v90 (.d (.int .i64 57344)) s91 k) s91 (fun v92 s93 =>
  guardC v82 false (fun k => pickC v88 v92 (.d (.bool false)) s93 k) s93 (fun v94 s95 =>
  pickC v82 (.d (.bool true)) v94 s95 fun v96 s97 =>
  condC v96 (Z (consO (some (.d (.int .i64 0))) (consO (some (.d (.int .i64 0))) (some []))) s97) (Z (consO (some v38) (consO (some v3) (some []))) s97))))))))))))))))
theorem s_r06_rune1 {P : Program} {x0 : AV} {σ : List AObj} {Z : Option (List AV) → List AObj → Prop} (h : S_r06_rune1 P x0 σ Z) : awp P A_r06_rune1.body (AtEnd fun fr s => Z (resAs fr s A_r06_rune1.res) s) (slots0 0 [x0]) σ :=
  cast (by kernel_rfl) h
/-- bulla/bullaref06.size -/
def S_r06_size (P : Program) (x0 : AV) (σ : List AObj) (Z : Option (List AV) → List AObj → Prop) : Prop :=
  binC .lss .plain x0 (.d (.int .u8 128)) σ fun v1 s2 =>
  condC v1 (Z (consO (some (.d (.int .i64 1))) (some [])) s2) (binC .geq .plain x0 (.d (.int .u8 194)) s2 fun v3 s4 =>
  guardC v3 true (fun k => k x0 s4) s4 (fun v5 s6 =>
  guardC v3 true (fun k => binC .lss .plain v5 (.d (.int .u8 224)) s6 k) s6 (fun v7 s8 =>
  pickC v3 v7 (.d (.bool false)) s8 fun v9 s10 =>
  condC v9 (Z (consO (some (.d (.int .i64 2))) (some [])) s10) (binC .geq .plain x0 (.d (.int .u8 224)) s10 fun v11 s12 =>
  guardC v11 true (fun k => k x0 s12) s12 (fun v13 s14 =>
  guardC v11 true (fun k => binC .lss .plain v13 (.d (.int .u8 240)) s14 k) s14 (fun v15 s16 =>
  pickC v11 v15 (.d (.bool false)) s16 fun v17 s18 =>
  condC v17 (Z (consO (some (.d (.int .i64 3))) (some [])) s18) (binC .geq .plain x0 (.d (.int .u8 240)) s18 fun v19 s20 =>
  guardC v19 true (fun k => k x0 s20) s20 (fun v21 s22 =>
  guardC v19 true (fun k => binC .lss .plain v21 (.d (.int .u8 245)) s22 k) s22 (fun v23 s24 =>
  pickC v19 v23 (.d (.bool false)) s24 fun v25 s26 =>
  condC v25 (Z (consO (some (.d (.int .i64 4))) (some [])) s26) (Z (consO (some (.d (.int .i64 0))) (some [])) s26))))))))))
theorem s_r06_size {P : Program} {x0 : AV} {σ : List AObj} {Z : Option (List AV) → List AObj → Prop} (h : S_r06_size P x0 σ Z) : awp P A_r06_size.body (AtEnd fun fr s => Z (resAs fr s A_r06_size.res) s) (slots0 0 [x0]) σ :=
  cast (by kernel_rfl) h
end Go.Proofs.Ythmdpooklflkfaa
