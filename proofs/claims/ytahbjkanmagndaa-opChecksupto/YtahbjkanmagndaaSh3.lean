/- The conditions of each function, its slots as variables, and that the logic's conditions are these. Printed by program. -/
import Derived.Test.YtahbjkanmagndaaAf3
set_option linter.all false
set_option maxRecDepth 100000
set_option linter.unusedVariables false
namespace Go.Proofs.Ytahbjkanmagndaa
open Go.AW
/-- bulla/bullaref06.size -/
def S_r06_size (P : Program) (x0 : AV) (σ : List AObj) (Z : Option (List AV) → List AObj → Prop) : Prop :=
  binC .lss .plain x0 (.d (.int .u8 128)) σ fun v1 s2 =>
  condC v1 (Z (consO (some (.d (.int .i64 1))) (some [])) s2) (binC .geq .plain x0 (.d (.int .u8 194)) s2 fun v3 s4 =>
  guardC v3 true (fun k => k x0 s4) s4 (fun v5 s6 =>
  guardC v3 true (fun k => binC .lss .plain v5 (.d (.int .u8 224)) s6 k) s6 (fun v7 s8 =>
  pickC v3 v7 (.d (.bool false)) s8 fun v9 s10 =>
  condC v9 (Z (consO (some (.d (.int .i64 2))) (some [])) s10) (binC .geq .plain x0 (.d (.int .u8 224)) s10 fun v11 s12 =>
  guardC v11 true (fun k => k x0 s12) s12 (fun v13 s14 =>
  guardC v11 true (fun k => binC .lss .plain v13 (.d (.int .u8 240)) s14 k) s14 (fun v15 s16 =>
  pickC v11 v15 (.d (.bool false)) s16 fun v17 s18 =>
  condC v17 (Z (consO (some (.d (.int .i64 3))) (some [])) s18) (binC .geq .plain x0 (.d (.int .u8 240)) s18 fun v19 s20 =>
  guardC v19 true (fun k => k x0 s20) s20 (fun v21 s22 =>
  guardC v19 true (fun k => binC .lss .plain v21 (.d (.int .u8 245)) s22 k) s22 (fun v23 s24 =>
  pickC v19 v23 (.d (.bool false)) s24 fun v25 s26 =>
  condC v25 (Z (consO (some (.d (.int .i64 4))) (some [])) s26) (Z (consO (some (.d (.int .i64 0))) (some [])) s26))))))))))
theorem s_r06_size {P : Program} {x0 : AV} {σ : List AObj} {Z : Option (List AV) → List AObj → Prop} (h : S_r06_size P x0 σ Z) : awp P A_r06_size.body (AtEnd fun fr s => Z (resAs fr s A_r06_size.res) s) (slots0 0 [x0]) σ :=
  cast (by kernel_rfl) h
/-- slices.IndexFunc[[]bulla/api.Record,bulla/api.Record] -/
def S_slices_IndexFunc_api_Record_api_Record (P : Program) (x0 x1 : AV) (σ : List AObj) (Z : Option (List AV) → List AObj → Prop) : Prop :=
  lenC .sl x0 σ fun v1 s2 =>
  loopC [(.d (.int .i64 0))] s2 fun vs3 s4 again5 =>
  headC vs3 fun v6 vs7 =>
  binC .lss .plain v6 v1 s4 fun v8 s9 =>
  condC v8 (iaddrC none 1 x0 v6 s9 fun v10 s11 =>
  loadC false 1 v10 s11 fun v12 s13 =>
  callvC P x1 [dm v12] s13 fun v14 s15 =>
  condC v14 (Z (consO (some v6) (some [])) s15) (binC .add .plain v6 (.d (.int .i64 1)) s15 fun v16 s17 =>
  again5 [v16] s17)) (Z (consO (some (.d (.int .i64 (-1)))) (some [])) s9)
theorem s_slices_IndexFunc_api_Record_api_Record {P : Program} {x0 x1 : AV} {σ : List AObj} {Z : Option (List AV) → List AObj → Prop} (h : S_slices_IndexFunc_api_Record_api_Record P x0 x1 σ Z) : awp P A_slices_IndexFunc_api_Record_api_Record.body (AtEnd fun fr s => Z (resAs fr s A_slices_IndexFunc_api_Record_api_Record.res) s) (slots0 0 [x0, x1]) σ :=
  cast (by kernel_rfl) h
/-- bulla/codec.form -/
def S_codec_form (P : Program) (x0 : AV) (σ : List AObj) (Z : Option (List AV) → List AObj → Prop) : Prop :=
  allocC [(.d (.int .u8 0)), (.d (.int .u8 0)), (.d (.int .u8 0)), (.d (.int .u8 0)), (.d (.int .u8 0)), (.d (.int .u8 0)), (.d (.int .u8 0)), (.d (.int .u8 0)), (.d (.int .u8 0)), (.d (.int .u8 0))] σ fun v1 s2 =>
  allocC [(.d (.int .u8 0)), (.d (.int .u8 0)), (.d (.int .u8 0)), (.d (.int .u8 0)), (.d (.int .u8 0)), (.d (.int .u8 0)), (.d (.int .u8 0)), (.d (.int .u8 0)), (.d (.int .u8 0)), (.d (.int .u8 0))] s2 fun v3 s4 =>
  loopC [x0, (.d (.int .i64 0))] s4 fun vs5 s6 again7 =>
  headC vs5 fun v8 vs9 =>
  headC vs9 fun v10 vs11 =>
  binC .gtr .plain v8 (.d (.int .u64 127)) s6 fun v12 s13 =>
  condC v12 (convC (.int .u8) v8 s13 fun v14 s15 =>
  binC .or .plain v14 (.d (.int .u8 128)) s15 fun v16 s17 =>
  iaddrC (some 10) 1 v3 v10 s17 fun v18 s19 =>
  storeC 1 v18 v16 s19 fun _ s21 =>
  binC .shr .plain v8 (.d (.int .u64 7)) s21 fun v22 s23 =>
  binC .add .plain v10 (.d (.int .i64 1)) s23 fun v24 s25 =>
  again7 [v22, v24] s25) (convC (.int .u8) v8 s13 fun v26 s27 =>
  iaddrC (some 10) 1 v3 v10 s27 fun v28 s29 =>
  storeC 1 v28 v26 s29 fun _ s31 =>
  loadC true 10 v3 s31 fun v32 s33 =>
  binC .add .plain v10 (.d (.int .i64 1)) s33 fun v34 s35 =>
  storeC 10 v1 v32 s35 fun _ s37 =>
  Z (consO (cellA v1 s37 true 10) (consO (some v34) (some []))) s37)
theorem s_codec_form {P : Program} {x0 : AV} {σ : List AObj} {Z : Option (List AV) → List AObj → Prop} (h : S_codec_form P x0 σ Z) : awp P A_codec_form.body (AtEnd fun fr s => Z (resAs fr s A_codec_form.res) s) (slots0 0 [x0]) σ :=
  cast (by kernel_rfl) h
/-- slices.Clip[[]byte,byte] -/
def S_slices_Clip_byte_byte (P : Program) (x0 : AV) (σ : List AObj) (Z : Option (List AV) → List AObj → Prop) : Prop :=
  lenC .sl x0 σ fun v1 s2 =>
  lenC .sl x0 s2 fun v3 s4 =>
  slcC (.sl 1) x0 none (some v1) (some v3) s4 fun v5 s6 =>
  Z (consO (some v5) (some [])) s6
theorem s_slices_Clip_byte_byte {P : Program} {x0 : AV} {σ : List AObj} {Z : Option (List AV) → List AObj → Prop} (h : S_slices_Clip_byte_byte P x0 σ Z) : awp P A_slices_Clip_byte_byte.body (AtEnd fun fr s => Z (resAs fr s A_slices_Clip_byte_byte.res) s) (slots0 0 [x0]) σ :=
  cast (by kernel_rfl) h
end Go.Proofs.Ytahbjkanmagndaa
