/- The conditions of each function, its slots as variables, and that the logic's conditions are these. Printed by program. -/
import Derived.Test.YtcappjcojggehaaGreatAf3
set_option linter.all false
set_option maxRecDepth 100000
set_option linter.unusedVariables false
namespace Go.Proofs.YtcappjcojggehaaGreat
open Go.AW
/-- (*bulla/ideal.Table).Look -/
def zes (P : Program) (x0 x1 : AV) (σ : List AObj) (Z : Option (List AV) → List AObj → Prop) : Prop :=
  ACall P zaL [dm x0] σ fun v1 s2 =>
  condC v1 (Z (consO (some (.d (.int .i64 0))) (consO (some (.d (.bool false))) (some []))) s2) (nilC x0 s2 fun v3 s4 =>
  zh 1 v3 s4 fun v5 s6 =>
  loadC false 1 v5 s6 fun v7 s8 =>
  convC .toStr x1 s8 fun v9 s10 =>
  mgetC .str true (.d (.int .i64 0)) v7 v9 s10 fun v11 s12 =>
  zi v11 0 s12 fun v13 s14 =>
  zi v11 1 s14 fun v15 s16 =>
  Z (consO (some v13) (consO (some v15) (some []))) s16)
theorem zik {P : Program} {x0 x1 : AV} {σ : List AObj} {Z : Option (List AV) → List AObj → Prop} (h : zes P x0 x1 σ Z) : awp P zcE.body (AtEnd fun fr s => Z (resAs fr s zcE.res) s) (zB 0 [x0, x1]) σ :=
  cast (by kernel_rfl) h
/-- bulla/request.PutBatch -/
def zeq (P : Program) (x0 x1 : AV) (σ : List AObj) (Z : Option (List AV) → List AObj → Prop) : Prop :=
  ACall P zbc [dm x1] σ fun v1 s2 =>
  binC .neq .plain v1 (.d (.int .i64 0)) s2 fun v3 s4 =>
  condC v3 (ACall P zbr [dm x0] s4 fun v5 s6 =>
  Z (consO (some v5) (some [])) s6) (zab P (.fn (.func zca) [x1] []) [dm x0] s4 fun v7 s8 =>
  Z (consO (some v7) (some [])) s8)
theorem zii {P : Program} {x0 x1 : AV} {σ : List AObj} {Z : Option (List AV) → List AObj → Prop} (h : zeq P x0 x1 σ Z) : awp P zcC.body (AtEnd fun fr s => Z (resAs fr s zcC.res) s) (zB 0 [x0, x1]) σ :=
  cast (by kernel_rfl) h
/-- bulla/quorum.Primary -/
def zfH (P : Program) (x0 x1 : AV) (σ : List AObj) (Z : Option (List AV) → List AObj → Prop) : Prop :=
  ACall P zfk [dm x0, dm x1] σ fun v1 s2 =>
  unC .not v1 s2 fun v3 s4 =>
  condC v3 (Z (consO (some (.d (.int .i64 (-1)))) (some [])) s4) (ACall P zbW [dm x0] s4 fun v5 s6 =>
  binC .rem .plain x1 v5 s6 fun v7 s8 =>
  Z (consO (some v7) (some [])) s8)
theorem zkF {P : Program} {x0 x1 : AV} {σ : List AObj} {Z : Option (List AV) → List AObj → Prop} (h : zfH P x0 x1 σ Z) : awp P zdn.body (AtEnd fun fr s => Z (resAs fr s zdn.res) s) (zB 0 [x0, x1]) σ :=
  cast (by kernel_rfl) h
/-- bulla/auth.ValidVote -/
def zfR (P : Program) (x0 x1 x2 x3 x4 x5 x6 x7 : AV) (σ : List AObj) (Z : Option (List AV) → List AObj → Prop) : Prop :=
  boxC x2 σ fun v1 s2 =>
  ACall P zhI [dm x0, dm x1] s2 fun v3 s4 =>
  zc v3 true (fun k => k x4 s4) s4 (fun v5 s6 =>
  zc v3 true (fun k => k x5 s6) s6 (fun v7 s8 =>
  zc v3 true (fun k => k x6 s8) s8 (fun v9 s10 =>
  zc v3 true (fun k => k x7 s10) s10 (fun v11 s12 =>
  zc v3 true (fun k => ACall P zjr [dm v5, dm v7, dm v9, dm v11] s12 k) s12 (fun v13 s14 =>
  pickC v3 v13 (.d (.bool false)) s14 fun v15 s16 =>
  zc v15 true (fun k => k x0 s16) s16 (fun v17 s18 =>
  zc v15 true (fun k => k x1 s18) s18 (fun v19 s20 =>
  zc v15 true (fun k => loadC true 2 v1 s20 k) s20 (fun v21 s22 =>
  zc v15 true (fun k => k x3 s22) s22 (fun v23 s24 =>
  zc v15 true (fun k => k x4 s24) s24 (fun v25 s26 =>
  zc v15 true (fun k => k x5 s26) s26 (fun v27 s28 =>
  zc v15 true (fun k => k x6 s28) s28 (fun v29 s30 =>
  zc v15 true (fun k => k x7 s30) s30 (fun v31 s32 =>
  zc v15 true (fun k => ACall P zdi [dm v25, dm v27, dm v29, dm v31] s32 k) s32 (fun v33 s34 =>
  keepO v1 s32 s34 ∧ (zc v15 true (fun k => ACall P zfn [dm v17, dm v19, dm v21, dm v23, dm v33] s34 k) s34 (fun v35 s36 =>
  pickC v15 v35 (.d (.bool false)) s36 fun v37 s38 =>
  Z (consO (some v37) (some [])) s38))))))))))))))))
theorem zkP {P : Program} {x0 x1 x2 x3 x4 x5 x6 x7 : AV} {σ : List AObj} {Z : Option (List AV) → List AObj → Prop} (h : zfR P x0 x1 x2 x3 x4 x5 x6 x7 σ Z) : awp P zdx.body (AtEnd fun fr s => Z (resAs fr s zdx.res) s) (zB 0 [x0, x1, x2, x3, x4, x5, x6, x7]) σ :=
  cast (by kernel_rfl) h
/-- bulla/quorum.Brokers -/
def zfI (P : Program) (x0 : AV) (σ : List AObj) (Z : Option (List AV) → List AObj → Prop) : Prop :=
  ACall P zev [dm (.d (.int .i64 3)), dm x0] σ fun v1 s2 =>
  Z (consO (some v1) (some [])) s2
theorem zkG {P : Program} {x0 : AV} {σ : List AObj} {Z : Option (List AV) → List AObj → Prop} (h : zfI P x0 σ Z) : awp P zdo.body (AtEnd fun fr s => Z (resAs fr s zdo.res) s) (zB 0 [x0]) σ :=
  cast (by kernel_rfl) h
/-- bulla/bullaref08.ValidBatch -/
def zfE (P : Program) (x0 x1 x2 : AV) (σ : List AObj) (Z : Option (List AV) → List AObj → Prop) : Prop :=
  ACall P zbv [dm x2] σ fun v1 s2 =>
  binC .neq .plain v1 (.d (.int .i64 0)) s2 fun v3 s4 =>
  condC v3 (Z (consO (some (.d (.bool false))) (some [])) s4) (loopC [(.d (.int .i64 0))] s4 fun vs5 s6 again7 =>
  headC vs5 fun v8 vs9 =>
  lenC .sl x2 s6 fun v10 s11 =>
  binC .lss .plain v8 v10 s11 fun v12 s13 =>
  condC v12 (zr none 9 x2 v8 s13 fun v14 s15 =>
  loadC true 9 v14 s15 fun v16 s17 =>
  ACall P zhF [dm x0, dm x1, dm v16] s17 fun v18 s19 =>
  unC .not v18 s19 fun v20 s21 =>
  condC v20 (Z (consO (some (.d (.bool false))) (some [])) s21) (binC .add .plain v8 (.d (.int .i64 1)) s21 fun v22 s23 =>
  again7 [v22] s23)) (Z (consO (some (.d (.bool true))) (some [])) s13))
theorem zkC {P : Program} {x0 x1 x2 : AV} {σ : List AObj} {Z : Option (List AV) → List AObj → Prop} (h : zfE P x0 x1 x2 σ Z) : awp P zdk.body (AtEnd fun fr s => Z (resAs fr s zdk.res) s) (zB 0 [x0, x1, x2]) σ :=
  cast (by kernel_rfl) h
/-- (*bulla/bullaref02.Table).Look -/
def zfG (P : Program) (x0 x1 : AV) (σ : List AObj) (Z : Option (List AV) → List AObj → Prop) : Prop :=
  loopC [(.d (.int .i64 0))] σ fun vs1 s2 again3 =>
  headC vs1 fun v4 vs5 =>
  nilC x0 s2 fun v6 s7 =>
  zh 0 v6 s7 fun v8 s9 =>
  loadC false 1 v8 s9 fun v10 s11 =>
  lenC .sl v10 s11 fun v12 s13 =>
  binC .lss .plain v4 v12 s13 fun v14 s15 =>
  condC v14 (nilC x0 s15 fun v16 s17 =>
  zh 0 v16 s17 fun v18 s19 =>
  loadC false 1 v18 s19 fun v20 s21 =>
  zr none 1 v20 v4 s21 fun v22 s23 =>
  loadC false 1 v22 s23 fun v24 s25 =>
  ACall P zjm [dm v24, dm x1] s25 fun v26 s27 =>
  condC v26 (binC .add .plain v4 (.d (.int .i64 1)) s27 fun v28 s29 =>
  Z (consO (some v28) (consO (some (.d (.bool true))) (some []))) s29) (binC .add .plain v4 (.d (.int .i64 1)) s27 fun v30 s31 =>
  again3 [v30] s31)) (Z (consO (some (.d (.int .i64 0))) (consO (some (.d (.bool false))) (some []))) s15)
theorem zkE {P : Program} {x0 x1 : AV} {σ : List AObj} {Z : Option (List AV) → List AObj → Prop} (h : zfG P x0 x1 σ Z) : awp P zdm.body (AtEnd fun fr s => Z (resAs fr s zdm.res) s) (zB 0 [x0, x1]) σ :=
  cast (by kernel_rfl) h
/-- bulla/bullaref08.PutBatch -/
def zho (P : Program) (x0 x1 : AV) (σ : List AObj) (Z : Option (List AV) → List AObj → Prop) : Prop :=
  ACall P zbv [dm x1] σ fun v1 s2 =>
  binC .neq .plain v1 (.d (.int .i64 0)) s2 fun v3 s4 =>
  condC v3 (Z (consO (some x0) (some [])) s4) (lenC .sl x1 s4 fun v5 s6 =>
  convC (.int .u64) v5 s6 fun v7 s8 =>
  ACall P zaB [dm x0, dm v7] s8 fun v9 s10 =>
  loopC [v9, (.d (.int .i64 0))] s10 fun vs11 s12 again13 =>
  headC vs11 fun v14 vs15 =>
  headC vs15 fun v16 vs17 =>
  lenC .sl x1 s12 fun v18 s19 =>
  binC .lss .plain v16 v18 s19 fun v20 s21 =>
  condC v20 (zr none 9 x1 v16 s21 fun v22 s23 =>
  zh 0 v22 s23 fun v24 s25 =>
  loadC true 7 v24 s25 fun v26 s27 =>
  ACall P zdN [dm v26] s27 fun v28 s29 =>
  zi v28 0 s29 fun v30 s31 =>
  zi v28 1 s31 fun v32 s33 =>
  zr none 9 x1 v16 s33 fun v34 s35 =>
  zh 7 v34 s35 fun v36 s37 =>
  loadC true 2 v36 s37 fun v38 s39 =>
  ACall P zbA [dm v14, dm v30] s39 fun v40 s41 =>
  keepO v36 s39 s41 ∧ (ACall P zfh [dm v40, dm v38] s41 fun v42 s43 =>
  binC .add .plain v16 (.d (.int .i64 1)) s43 fun v44 s45 =>
  again13 [v42, v44] s45)) (Z (consO (some v14) (some [])) s21))
theorem zmu {P : Program} {x0 x1 : AV} {σ : List AObj} {Z : Option (List AV) → List AObj → Prop} (h : zho P x0 x1 σ Z) : awp P zey.body (AtEnd fun fr s => Z (resAs fr s zey.res) s) (zB 0 [x0, x1]) σ :=
  cast (by kernel_rfl) h
/-- bulla/bullaref12.Primary -/
def ziW (P : Program) (x0 x1 : AV) (σ : List AObj) (Z : Option (List AV) → List AObj → Prop) : Prop :=
  ACall P zdM [dm x0] σ fun v1 s2 =>
  binC .neq .plain v1 (.d (.int .i64 0)) s2 fun v3 s4 =>
  zc v3 false (fun k => k x1 s4) s4 (fun v5 s6 =>
  zc v3 false (fun k => binC .lss .plain v5 (.d (.int .i64 0)) s6 k) s6 (fun v7 s8 =>
  pickC v3 (.d (.bool true)) v7 s8 fun v9 s10 =>
  zc v9 false (fun k => k x1 s10) s10 (fun v11 s12 =>
  zc v9 false (fun k => binC .gtr .plain v11 (.d (.int .i64 9007199254740992)) s12 k) s12 (fun v13 s14 =>
  pickC v9 (.d (.bool true)) v13 s14 fun v15 s16 =>
  condC v15 (Z (consO (some (.d (.int .i64 (-1)))) (some [])) s16) (ACall P zdF [dm x0] s16 fun v17 s18 =>
  binC .rem .plain x1 v17 s18 fun v19 s20 =>
  Z (consO (some v19) (some [])) s20)))))
theorem znF {P : Program} {x0 x1 : AV} {σ : List AObj} {Z : Option (List AV) → List AObj → Prop} (h : ziW P x0 x1 σ Z) : awp P zfw.body (AtEnd fun fr s => Z (resAs fr s zfw.res) s) (zB 0 [x0, x1]) σ :=
  cast (by kernel_rfl) h
/-- bulla/bullaref11.ValidVote -/
def zgA (P : Program) (x0 x1 x2 x3 x4 x5 x6 x7 : AV) (σ : List AObj) (Z : Option (List AV) → List AObj → Prop) : Prop :=
  boxC x2 σ fun v1 s2 =>
  ACall P ziq [dm x4, dm x5, dm x6, dm x7] s2 fun v3 s4 =>
  zc v3 true (fun k => k x0 s4) s4 (fun v5 s6 =>
  zc v3 true (fun k => k x1 s6) s6 (fun v7 s8 =>
  zc v3 true (fun k => loadC true 2 v1 s8 k) s8 (fun v9 s10 =>
  zc v3 true (fun k => k x3 s10) s10 (fun v11 s12 =>
  zc v3 true (fun k => k x4 s12) s12 (fun v13 s14 =>
  zc v3 true (fun k => k x5 s14) s14 (fun v15 s16 =>
  zc v3 true (fun k => k x6 s16) s16 (fun v17 s18 =>
  zc v3 true (fun k => k x7 s18) s18 (fun v19 s20 =>
  zc v3 true (fun k => ACall P zct [dm v13, dm v15, dm v17, dm v19] s20 k) s20 (fun v21 s22 =>
  keepO v1 s20 s22 ∧ (zc v3 true (fun k => ACall P zgb [dm v5, dm v7, dm v9, dm v11, dm v21] s22 k) s22 (fun v23 s24 =>
  pickC v3 v23 (.d (.bool false)) s24 fun v25 s26 =>
  Z (consO (some v25) (some [])) s26)))))))))))
theorem zlp {P : Program} {x0 x1 x2 x3 x4 x5 x6 x7 : AV} {σ : List AObj} {Z : Option (List AV) → List AObj → Prop} (h : zgA P x0 x1 x2 x3 x4 x5 x6 x7 σ Z) : awp P zeg.body (AtEnd fun fr s => Z (resAs fr s zeg.res) s) (zB 0 [x0, x1, x2, x3, x4, x5, x6, x7]) σ :=
  cast (by kernel_rfl) h
/-- (*bulla/ideal.Table).none -/
def zer (P : Program) (x0 : AV) (σ : List AObj) (Z : Option (List AV) → List AObj → Prop) : Prop :=
  binC .eql .ptr x0 (.d .nilp) σ fun v1 s2 =>
  zc v1 false (fun k => k x0 s2) s2 (fun v3 s4 =>
  zc v1 false (fun k => nilC v3 s4 k) s4 (fun v5 s6 =>
  zc v1 false (fun k => zh 1 v5 s6 k) s6 (fun v7 s8 =>
  zc v1 false (fun k => loadC false 1 v7 s8 k) s8 (fun v9 s10 =>
  zc v1 false (fun k => binC .eql .map v9 (.d .nilmap) s10 k) s10 (fun v11 s12 =>
  pickC v1 (.d (.bool true)) v11 s12 fun v13 s14 =>
  Z (consO (some v13) (some [])) s14)))))
theorem zij {P : Program} {x0 : AV} {σ : List AObj} {Z : Option (List AV) → List AObj → Prop} (h : zer P x0 σ Z) : awp P zcD.body (AtEnd fun fr s => Z (resAs fr s zcD.res) s) (zB 0 [x0]) σ :=
  cast (by kernel_rfl) h
/-- (*bulla/ideal.Ledger).none -/
def zdZ (P : Program) (x0 : AV) (σ : List AObj) (Z : Option (List AV) → List AObj → Prop) : Prop :=
  binC .eql .ptr x0 (.d .nilp) σ fun v1 s2 =>
  zc v1 false (fun k => k x0 s2) s2 (fun v3 s4 =>
  zc v1 false (fun k => nilC v3 s4 k) s4 (fun v5 s6 =>
  zc v1 false (fun k => zh 1 v5 s6 k) s6 (fun v7 s8 =>
  zc v1 false (fun k => loadC false 1 v7 s8 k) s8 (fun v9 s10 =>
  zc v1 false (fun k => binC .eql .map v9 (.d .nilmap) s10 k) s10 (fun v11 s12 =>
  pickC v1 (.d (.bool true)) v11 s12 fun v13 s14 =>
  Z (consO (some v13) (some [])) s14)))))
theorem zhC {P : Program} {x0 : AV} {σ : List AObj} {Z : Option (List AV) → List AObj → Prop} (h : zdZ P x0 σ Z) : awp P zck.body (AtEnd fun fr s => Z (resAs fr s zck.res) s) (zB 0 [x0]) σ :=
  cast (by kernel_rfl) h
/-- (*bulla/prepared.Held).none -/
def zdD (P : Program) (x0 : AV) (σ : List AObj) (Z : Option (List AV) → List AObj → Prop) : Prop :=
  binC .eql .ptr x0 (.d .nilp) σ fun v1 s2 =>
  zc v1 false (fun k => k x0 s2) s2 (fun v3 s4 =>
  zc v1 false (fun k => nilC v3 s4 k) s4 (fun v5 s6 =>
  zc v1 false (fun k => zh 0 v5 s6 k) s6 (fun v7 s8 =>
  zc v1 false (fun k => loadC false 1 v7 s8 k) s8 (fun v9 s10 =>
  zc v1 false (fun k => binC .eql .map v9 (.d .nilmap) s10 k) s10 (fun v11 s12 =>
  pickC v1 (.d (.bool true)) v11 s12 fun v13 s14 =>
  Z (consO (some v13) (some [])) s14)))))
theorem zha {P : Program} {x0 : AV} {σ : List AObj} {Z : Option (List AV) → List AObj → Prop} (h : zdD P x0 σ Z) : awp P zbR.body (AtEnd fun fr s => Z (resAs fr s zbR.res) s) (zB 0 [x0]) σ :=
  cast (by kernel_rfl) h
/-- bulla/prepared.clone -/
def zfJ (P : Program) (x0 : AV) (σ : List AObj) (Z : Option (List AV) → List AObj → Prop) : Prop :=
  boxC x0 σ fun v1 s2 =>
  zH [(.d (.int .i64 0)), (.d (.int .i64 0)), (.d (.int .i64 0)), (.d (.int .i64 0)), (.d (.int .i64 0)), (.exact []), (.exact [])] s2 fun v3 s4 =>
  zh 5 v1 s4 fun v5 s6 =>
  loadC false 1 v5 s6 fun v7 s8 =>
  ACall P zaD [dm v7] s8 fun v9 s10 =>
  zh 5 v1 s10 fun v11 s12 =>
  zp 1 v11 v9 s12 fun _ s14 =>
  zh 6 v1 s14 fun v15 s16 =>
  loadC false 1 v15 s16 fun v17 s18 =>
  ACall P zdL [dm v17] s18 fun v19 s20 =>
  zh 6 v1 s20 fun v21 s22 =>
  zp 1 v21 v19 s22 fun _ s24 =>
  loadC true 7 v1 s24 fun v25 s26 =>
  zp 7 v3 v25 s26 fun _ s28 =>
  Z (consO (cellA v3 s28 true 7) (some [])) s28
theorem zkH {P : Program} {x0 : AV} {σ : List AObj} {Z : Option (List AV) → List AObj → Prop} (h : zfJ P x0 σ Z) : awp P zdp.body (AtEnd fun fr s => Z (resAs fr s zdp.res) s) (zB 0 [x0]) σ :=
  cast (by kernel_rfl) h
/-- bulla/bullaref08.Bytes -/
def zmg (P : Program) (x0 : AV) (σ : List AObj) (Z : Option (List AV) → List AObj → Prop) : Prop :=
  boxC x0 σ fun v1 s2 =>
  loadC true 7 v1 s2 fun v3 s4 =>
  ACall P zfi [dm v3] s4 fun v5 s6 =>
  binC .neq .plain v5 (.d (.int .i64 0)) s6 fun v7 s8 =>
  condC v7 (Z (consO (some (.exact [])) (consO (some v5) (some []))) s8) (zh 0 v1 s8 fun v9 s10 =>
  loadC false 1 v9 s10 fun v11 s12 =>
  convC (.int .u64) v11 s12 fun v13 s14 =>
  ACall P zaB [dm (.exact []), dm v13] s14 fun v15 s16 =>
  zh 1 v1 s16 fun v17 s18 =>
  loadC false 1 v17 s18 fun v19 s20 =>
  convC (.int .u64) v19 s20 fun v21 s22 =>
  ACall P zaB [dm v15, dm v21] s22 fun v23 s24 =>
  zh 2 v1 s24 fun v25 s26 =>
  loadC true 5 v25 s26 fun v27 s28 =>
  ACall P zlw [dm v23, dm v27] s28 fun v29 s30 =>
  Z (consO (some v29) (consO (some (.d (.int .i64 0))) (some []))) s30)
theorem s_r08_Bytes {P : Program} {x0 : AV} {σ : List AObj} {Z : Option (List AV) → List AObj → Prop} (h : zmg P x0 σ Z) : awp P zia.body (AtEnd fun fr s => Z (resAs fr s zia.res) s) (zB 0 [x0]) σ :=
  cast (by kernel_rfl) h
/-- (*bulla/bullaref02.Ledger).Sign -/
def zeV (P : Program) (x0 x1 x2 : AV) (σ : List AObj) (Z : Option (List AV) → List AObj → Prop) : Prop :=
  zH [(.d (.int .i64 0)), (.d (.int .i64 0))] σ fun v1 s2 =>
  binC .lss .plain x1 (.d (.int .i64 0)) s2 fun v3 s4 =>
  zc v3 false (fun k => k x1 s4) s4 (fun v5 s6 =>
  zc v3 false (fun k => binC .geq .plain v5 (.d (.int .i64 21)) s6 k) s6 (fun v7 s8 =>
  pickC v3 (.d (.bool true)) v7 s8 fun v9 s10 =>
  condC v9 (zG (fillV [(.d (.int .i64 0)), (.d (.int .i64 0))] []) s10 fun v11 s12 =>
  zp 2 v1 v11 s12 fun _ s14 =>
  Z (consO (cellA v1 s14 true 2) (consO (some (.d (.int .i64 20))) (some []))) s14) (binC .lss .plain x2 (.d (.int .i64 1)) s10 fun v15 s16 =>
  condC v15 (zG (fillV [(.d (.int .i64 0)), (.d (.int .i64 0))] []) s16 fun v17 s18 =>
  zp 2 v1 v17 s18 fun _ s20 =>
  Z (consO (cellA v1 s20 true 2) (consO (some (.d (.int .i64 1))) (some []))) s20) (zG (fillV [(.d (.int .i64 0)), (.d (.int .i64 0))] [(0, 1, x1), (1, 1, x2)]) s16 fun v21 s22 =>
  zH [(.d (.int .i64 0)), (.d (.int .i64 0))] s22 fun v23 s24 =>
  zp 2 v23 v21 s24 fun _ s26 =>
  (fun (k27 : List AObj → Prop) => loadC true 2 v23 s26 fun v33 s34 =>
  ACall P zaS [dm x0, dm v33] s34 fun v35 s36 =>
  unC .not v35 s36 fun v37 s38 =>
  condC v37 (nilC x0 s38 fun v39 s40 =>
  zh 0 v39 s40 fun v41 s42 =>
  loadC false 1 v41 s42 fun v43 s44 =>
  loadC true 2 v23 s44 fun v45 s46 =>
  zl false 2 1 (fillV (rep [(.d (.int .i64 0)), (.d (.int .i64 0))] 1) [(0, 2, v45)]) s46 fun v47 s48 =>
  zt 2 16 (.exact []) v43 s48 fun v49 s50 =>
  keepO v23 s48 s50 ∧ (zt 2 16 v49 v47 s50 fun v51 s52 =>
  nilC x0 s52 fun v53 s54 =>
  zh 0 v53 s54 fun v55 s56 =>
  zp 1 v55 v51 s56 fun _ s58 =>
  k27 s58)) (k27 s38))
  (fun  s28 => loadC true 2 v23 s28 fun v29 s30 =>
  zp 2 v1 v29 s30 fun _ s32 =>
  Z (consO (cellA v1 s32 true 2) (consO (some (.d (.int .i64 0))) (some []))) s32)))))
theorem zjf {P : Program} {x0 x1 x2 : AV} {σ : List AObj} {Z : Option (List AV) → List AObj → Prop} (h : zeV P x0 x1 x2 σ Z) : awp P zcU.body (AtEnd fun fr s => Z (resAs fr s zcU.res) s) (zB 0 [x0, x1, x2]) σ :=
  cast (by kernel_rfl) h
/-- bulla/bullaref08.Key -/
def S_r08_Key (P : Program) (x0 : AV) (σ : List AObj) (Z : Option (List AV) → List AObj → Prop) : Prop :=
  binC .lss .plain x0 (.d (.int .i64 0)) σ fun v1 s2 =>
  zc v1 false (fun k => k x0 s2) s2 (fun v3 s4 =>
  zc v1 false (fun k => binC .geq .plain v3 (.d (.int .i64 8)) s4 k) s4 (fun v5 s6 =>
  pickC v1 (.d (.bool true)) v5 s6 fun v7 s8 =>
  condC v7 (Z (consO (some (.d (.int .i64 (-1)))) (some [])) s8) (binC .add .plain (.d (.int .i64 13)) x0 s8 fun v9 s10 =>
  Z (consO (some v9) (some [])) s10)))
theorem s_r08_Key {P : Program} {x0 : AV} {σ : List AObj} {Z : Option (List AV) → List AObj → Prop} (h : S_r08_Key P x0 σ Z) : awp P zmp.body (AtEnd fun fr s => Z (resAs fr s zmp.res) s) (zB 0 [x0]) σ :=
  cast (by kernel_rfl) h
/-- (*bulla/bullaref02.Table).Sum -/
def zgC (P : Program) (x0 x1 : AV) (σ : List AObj) (Z : Option (List AV) → List AObj → Prop) : Prop :=
  ACall P zaU [dm x0, dm x1] σ fun v1 s2 =>
  zi v1 0 s2 fun v3 s4 =>
  zi v1 1 s4 fun v5 s6 =>
  condC v5 (Z (consO (some v3) (some [])) s6) (nilC x0 s6 fun v7 s8 =>
  zh 0 v7 s8 fun v9 s10 =>
  loadC false 1 v9 s10 fun v11 s12 =>
  lenC .sl v11 s12 fun v13 s14 =>
  binC .geq .plain v13 (.d (.int .i64 1048576)) s14 fun v15 s16 =>
  condC v15 (Z (consO (some (.d (.int .i64 0))) (some [])) s16) (nilC x0 s16 fun v17 s18 =>
  zh 0 v17 s18 fun v19 s20 =>
  loadC false 1 v19 s20 fun v21 s22 =>
  zt 1 24 (.exact []) v21 s22 fun v23 s24 =>
  zt 1 1 (.exact []) x1 s24 fun v25 s26 =>
  zl false 1 1 (fillV (rep [(.exact [])] 1) [(0, 1, v25)]) s26 fun v27 s28 =>
  zt 1 24 v23 v27 s28 fun v29 s30 =>
  nilC x0 s30 fun v31 s32 =>
  zh 0 v31 s32 fun v33 s34 =>
  zp 1 v33 v29 s34 fun _ s36 =>
  nilC x0 s36 fun v37 s38 =>
  zh 0 v37 s38 fun v39 s40 =>
  loadC false 1 v39 s40 fun v41 s42 =>
  lenC .sl v41 s42 fun v43 s44 =>
  Z (consO (some v43) (some [])) s44))
theorem zlr {P : Program} {x0 x1 : AV} {σ : List AObj} {Z : Option (List AV) → List AObj → Prop} (h : zgC P x0 x1 σ Z) : awp P zei.body (AtEnd fun fr s => Z (resAs fr s zei.res) s) (zB 0 [x0, x1]) σ :=
  cast (by kernel_rfl) h
/-- bulla/bullaref08.CheckBatch -/
def zfF (P : Program) (x0 : AV) (σ : List AObj) (Z : Option (List AV) → List AObj → Prop) : Prop :=
  lenC .sl x0 σ fun v1 s2 =>
  binC .gtr .plain v1 (.d (.int .i64 4)) s2 fun v3 s4 =>
  condC v3 (Z (consO (some (.d (.int .i64 3))) (some [])) s4) (loopC [(.d (.int .i64 0))] s4 fun vs5 s6 again7 =>
  headC vs5 fun v8 vs9 =>
  lenC .sl x0 s6 fun v10 s11 =>
  binC .lss .plain v8 v10 s11 fun v12 s13 =>
  condC v12 (zr none 9 x0 v8 s13 fun v14 s15 =>
  zh 0 v14 s15 fun v16 s17 =>
  loadC true 7 v16 s17 fun v18 s19 =>
  ACall P zfi [dm v18] s19 fun v20 s21 =>
  binC .neq .plain v20 (.d (.int .i64 0)) s21 fun v22 s23 =>
  condC v22 (Z (consO (some v20) (some [])) s23) (zr none 9 x0 v8 s23 fun v24 s25 =>
  zh 7 v24 s25 fun v26 s27 =>
  loadC true 2 v26 s27 fun v28 s29 =>
  ACall P zcv [dm v28] s29 fun v30 s31 =>
  binC .neq .plain v30 (.d (.int .i64 0)) s31 fun v32 s33 =>
  condC v32 (Z (consO (some v30) (some [])) s33) (binC .add .plain v8 (.d (.int .i64 1)) s33 fun v34 s35 =>
  again7 [v34] s35))) (loopC [(.d (.int .i64 0))] s13 fun vs36 s37 again38 =>
  headC vs36 fun v39 vs40 =>
  lenC .sl x0 s37 fun v41 s42 =>
  binC .lss .plain v39 v41 s42 fun v43 s44 =>
  condC v43 (loopC [(.d (.int .i64 0))] s44 fun vs45 s46 again47 =>
  headC vs45 fun v48 vs49 =>
  binC .lss .plain v48 v39 s46 fun v50 s51 =>
  condC v50 (zr none 9 x0 v39 s51 fun v52 s53 =>
  zh 0 v52 s53 fun v54 s55 =>
  zh 0 v54 s55 fun v56 s57 =>
  loadC false 1 v56 s57 fun v58 s59 =>
  zr none 9 x0 v48 s59 fun v60 s61 =>
  zh 0 v60 s61 fun v62 s63 =>
  zh 0 v62 s63 fun v64 s65 =>
  loadC false 1 v64 s65 fun v66 s67 =>
  binC .eql .plain v58 v66 s67 fun v68 s69 =>
  zc v68 true (fun k => k x0 s69) s69 (fun v70 s71 =>
  zc v68 true (fun k => k v39 s71) s71 (fun v72 s73 =>
  zc v68 true (fun k => zr none 9 v70 v72 s73 k) s73 (fun v74 s75 =>
  zc v68 true (fun k => zh 0 v74 s75 k) s75 (fun v76 s77 =>
  zc v68 true (fun k => zh 1 v76 s77 k) s77 (fun v78 s79 =>
  zc v68 true (fun k => loadC false 1 v78 s79 k) s79 (fun v80 s81 =>
  zc v68 true (fun k => k x0 s81) s81 (fun v82 s83 =>
  zc v68 true (fun k => k v48 s83) s83 (fun v84 s85 =>
  zc v68 true (fun k => zr none 9 v82 v84 s85 k) s85 (fun v86 s87 =>
  zc v68 true (fun k => zh 0 v86 s87 k) s87 (fun v88 s89 =>
  zc v68 true (fun k => zh 1 v88 s89 k) s89 (fun v90 s91 =>
  zc v68 true (fun k => loadC false 1 v90 s91 k) s91 (fun v92 s93 =>
  zc v68 true (fun k => binC .eql .plain v80 v92 s93 k) s93 (fun v94 s95 =>
  pickC v68 v94 (.d (.bool false)) s95 fun v96 s97 =>
  condC v96 (Z (consO (some (.d (.int .i64 5))) (some [])) s97) (binC .add .plain v48 (.d (.int .i64 1)) s97 fun v98 s99 =>
  again47 [v98] s99))))))))))))))) (binC .add .plain v39 (.d (.int .i64 1)) s51 fun v100 s101 =>
  again38 [v100] s101)) (Z (consO (some (.d (.int .i64 0))) (some [])) s44)))
theorem zkD {P : Program} {x0 : AV} {σ : List AObj} {Z : Option (List AV) → List AObj → Prop} (h : zfF P x0 σ Z) : awp P zdl.body (AtEnd fun fr s => Z (resAs fr s zdl.res) s) (zB 0 [x0]) σ :=
  cast (by kernel_rfl) h
/-- bulla/bullaref11.may -/
def S_r11_may (P : Program) (x0 x1 x2 x3 : AV) (σ : List AObj) (Z : Option (List AV) → List AObj → Prop) : Prop :=
  ACall P zeI [dm x0] σ fun v1 s2 =>
  zc v1 true (fun k => k x1 s2) s2 (fun v3 s4 =>
  zc v1 true (fun k => ACall P zeI [dm v3] s4 k) s4 (fun v5 s6 =>
  pickC v1 v5 (.d (.bool false)) s6 fun v7 s8 =>
  zc v7 true (fun k => k x2 s8) s8 (fun v9 s10 =>
  zc v7 true (fun k => ACall P zeI [dm v9] s10 k) s10 (fun v11 s12 =>
  pickC v7 v11 (.d (.bool false)) s12 fun v13 s14 =>
  zc v13 true (fun k => k x3 s14) s14 (fun v15 s16 =>
  zc v13 true (fun k => ACall P zeI [dm v15] s16 k) s16 (fun v17 s18 =>
  pickC v13 v17 (.d (.bool false)) s18 fun v19 s20 =>
  Z (consO (some v19) (some [])) s20))))))
theorem s_r11_may {P : Program} {x0 x1 x2 x3 : AV} {σ : List AObj} {Z : Option (List AV) → List AObj → Prop} (h : S_r11_may P x0 x1 x2 x3 σ Z) : awp P zmo.body (AtEnd fun fr s => Z (resAs fr s zmo.res) s) (zB 0 [x0, x1, x2, x3]) σ :=
  cast (by kernel_rfl) h
/-- bulla/bullaref11.sign -/
def znp (P : Program) (x0 x1 x2 x3 : AV) (σ : List AObj) (Z : Option (List AV) → List AObj → Prop) : Prop :=
  zH [(.d (.int .i64 0)), (.d (.int .i64 0))] σ fun v1 s2 =>
  ACall P zbG [dm x0, dm x3] s2 fun v3 s4 =>
  binC .eql .plain v3 (.d (.int .i64 0)) s4 fun v5 s6 =>
  condC v5 (zG (fillV [(.d (.int .i64 0)), (.d (.int .i64 0))] []) s6 fun v7 s8 =>
  zp 2 v1 v7 s8 fun _ s10 =>
  Z (consO (cellA v1 s10 true 2) (consO (some (.d (.int .i64 6))) (some []))) s10) (ACall P zbJ [dm x1, dm x2, dm v3] s6 fun v11 s12 =>
  zi v11 0 s12 fun v13 s14 =>
  zi v11 1 s14 fun v15 s16 =>
  zp 2 v1 v13 s16 fun _ s18 =>
  Z (consO (cellA v1 s18 true 2) (consO (some v15) (some []))) s18)
theorem s_r11_sign {P : Program} {x0 x1 x2 x3 : AV} {σ : List AObj} {Z : Option (List AV) → List AObj → Prop} (h : znp P x0 x1 x2 x3 σ Z) : awp P zjU.body (AtEnd fun fr s => Z (resAs fr s zjU.res) s) (zB 0 [x0, x1, x2, x3]) σ :=
  cast (by kernel_rfl) h
/-- bulla/bullaref11.VoteBytes -/
def zgz (P : Program) (x0 x1 x2 x3 : AV) (σ : List AObj) (Z : Option (List AV) → List AObj → Prop) : Prop :=
  zl false 1 1 (fillV (rep [(.d (.int .u8 0))] 1) [(0, 1, (.d (.int .u8 4)))]) σ fun v1 s2 =>
  ACall P zeH [dm v1, dm x0] s2 fun v3 s4 =>
  ACall P zeH [dm v3, dm x1] s4 fun v5 s6 =>
  ACall P zeH [dm v5, dm x2] s6 fun v7 s8 =>
  ACall P zeH [dm v7, dm x3] s8 fun v9 s10 =>
  Z (consO (some v9) (some [])) s10
theorem zlo {P : Program} {x0 x1 x2 x3 : AV} {σ : List AObj} {Z : Option (List AV) → List AObj → Prop} (h : zgz P x0 x1 x2 x3 σ Z) : awp P zef.body (AtEnd fun fr s => Z (resAs fr s zef.res) s) (zB 0 [x0, x1, x2, x3]) σ :=
  cast (by kernel_rfl) h
/-- bytes.Clone -/
def zjb (P : Program) (x0 : AV) (σ : List AObj) (Z : Option (List AV) → List AObj → Prop) : Prop :=
  zZ false x0 σ fun v1 s2 =>
  condC v1 (Z (consO (some (.exact [])) (some [])) s2) (zl false 1 0 (fillV (rep [(.d (.int .u8 0))] 0) []) s2 fun v3 s4 =>
  zt 1 1 v3 x0 s4 fun v5 s6 =>
  Z (consO (some v5) (some [])) s6)
theorem znK {P : Program} {x0 : AV} {σ : List AObj} {Z : Option (List AV) → List AObj → Prop} (h : zjb P x0 σ Z) : awp P zfB.body (AtEnd fun fr s => Z (resAs fr s zfB.res) s) (zB 0 [x0]) σ :=
  cast (by kernel_rfl) h
/-- bulla/ideal.From -/
def zkA (P : Program) (x0 : AV) (σ : List AObj) (Z : Option (List AV) → List AObj → Prop) : Prop :=
  lenC .sl x0 σ fun v1 s2 =>
  binC .gtr .plain v1 (.d (.int .i64 1048576)) s2 fun v3 s4 =>
  condC v3 (Z (consO (some (.d .nilp)) (consO (some (.d (.int .i64 3))) (some []))) s4) (ACall P zbX [] s4 fun v5 s6 =>
  lenC .sl x0 s6 fun v7 s8 =>
  loopC [(.d (.int .i64 0))] s8 fun vs9 s10 again11 =>
  headC vs9 fun v12 vs13 =>
  binC .lss .plain v12 v7 s10 fun v14 s15 =>
  condC v14 (zr none 1 x0 v12 s15 fun v16 s17 =>
  loadC false 1 v16 s17 fun v18 s19 =>
  ACall P zaM [dm v5, dm v18] s19 fun v20 s21 =>
  zi v20 0 s21 fun v22 s23 =>
  zi v20 1 s23 fun v24 s25 =>
  condC v24 (Z (consO (some (.d .nilp)) (consO (some (.d (.int .i64 5))) (some []))) s25) (ACall P zbK [dm v5, dm v18] s25 fun v26 s27 =>
  binC .add .plain v12 (.d (.int .i64 1)) s27 fun v28 s29 =>
  again11 [v28] s29)) (Z (consO (some v5) (consO (some (.d (.int .i64 0))) (some []))) s15))
theorem s_ideal_From {P : Program} {x0 : AV} {σ : List AObj} {Z : Option (List AV) → List AObj → Prop} (h : zkA P x0 σ Z) : awp P zgK.body (AtEnd fun fr s => Z (resAs fr s zgK.res) s) (zB 0 [x0]) σ :=
  cast (by kernel_rfl) h
/-- bulla/request.CheckBatch -/
def zdC (P : Program) (x0 : AV) (σ : List AObj) (Z : Option (List AV) → List AObj → Prop) : Prop :=
  lenC .sl x0 σ fun v1 s2 =>
  binC .gtr .plain v1 (.d (.int .i64 4)) s2 fun v3 s4 =>
  condC v3 (Z (consO (some (.d (.int .i64 3))) (some [])) s4) (lenC .sl x0 s4 fun v5 s6 =>
  loopC [(.d (.int .i64 0))] s6 fun vs7 s8 again9 =>
  headC vs7 fun v10 vs11 =>
  binC .lss .plain v10 v5 s8 fun v12 s13 =>
  condC v12 (zr none 9 x0 v10 s13 fun v14 s15 =>
  loadC true 9 v14 s15 fun v16 s17 =>
  zH [(.d (.int .i64 0)), (.d (.int .i64 0)), (.d (.int .i64 0)), (.d (.str [])), (.d (.str [])), (.d (.int .i64 0)), (.exact []), (.d (.int .i64 0)), (.d (.int .i64 0))] s17 fun v18 s19 =>
  zp 9 v18 v16 s19 fun _ s21 =>
  zh 0 v18 s21 fun v22 s23 =>
  loadC true 7 v22 s23 fun v24 s25 =>
  ACall P zcr [dm v24] s25 fun v26 s27 =>
  binC .neq .plain v26 (.d (.int .i64 0)) s27 fun v28 s29 =>
  condC v28 (Z (consO (some v26) (some [])) s29) (zh 7 v18 s29 fun v30 s31 =>
  loadC true 2 v30 s31 fun v32 s33 =>
  ACall P zbn [dm v32] s33 fun v34 s35 =>
  binC .neq .plain v34 (.d (.int .i64 0)) s35 fun v36 s37 =>
  condC v36 (Z (consO (some v34) (some [])) s37) (binC .add .plain v10 (.d (.int .i64 1)) s37 fun v38 s39 =>
  again9 [v38] s39))) (lenC .sl x0 s13 fun v40 s41 =>
  loopC [(.d (.int .i64 0))] s41 fun vs42 s43 again44 =>
  headC vs42 fun v45 vs46 =>
  binC .lss .plain v45 v40 s43 fun v47 s48 =>
  condC v47 (zr none 9 x0 v45 s48 fun v49 s50 =>
  loadC true 9 v49 s50 fun v51 s52 =>
  zH [(.d (.int .i64 0)), (.d (.int .i64 0)), (.d (.int .i64 0)), (.d (.str [])), (.d (.str [])), (.d (.int .i64 0)), (.exact []), (.d (.int .i64 0)), (.d (.int .i64 0))] s52 fun v53 s54 =>
  zp 9 v53 v51 s54 fun _ s56 =>
  slcC (.sl 9) x0 none (some v45) none s56 fun v57 s58 =>
  lenC .sl v57 s58 fun v59 s60 =>
  loopC [(.d (.int .i64 0))] s60 fun vs61 s62 again63 =>
  headC vs61 fun v64 vs65 =>
  binC .lss .plain v64 v59 s62 fun v66 s67 =>
  condC v66 (zr none 9 v57 v64 s67 fun v68 s69 =>
  loadC true 9 v68 s69 fun v70 s71 =>
  zH [(.d (.int .i64 0)), (.d (.int .i64 0)), (.d (.int .i64 0)), (.d (.str [])), (.d (.str [])), (.d (.int .i64 0)), (.exact []), (.d (.int .i64 0)), (.d (.int .i64 0))] s71 fun v72 s73 =>
  zp 9 v72 v70 s73 fun _ s75 =>
  zh 0 v53 s75 fun v76 s77 =>
  zh 0 v76 s77 fun v78 s79 =>
  loadC false 1 v78 s79 fun v80 s81 =>
  zh 0 v72 s81 fun v82 s83 =>
  zh 0 v82 s83 fun v84 s85 =>
  loadC false 1 v84 s85 fun v86 s87 =>
  binC .eql .plain v80 v86 s87 fun v88 s89 =>
  zc v88 true (fun k => zh 0 v53 s89 k) s89 (fun v90 s91 =>
  zc v88 true (fun k => zh 1 v90 s91 k) s91 (fun v92 s93 =>
  zc v88 true (fun k => loadC false 1 v92 s93 k) s93 (fun v94 s95 =>
  zc v88 true (fun k => zh 0 v72 s95 k) s95 (fun v96 s97 =>
  zc v88 true (fun k => zh 1 v96 s97 k) s97 (fun v98 s99 =>
  zc v88 true (fun k => loadC false 1 v98 s99 k) s99 (fun v100 s101 =>
  zc v88 true (fun k => binC .eql .plain v94 v100 s101 k) s101 (fun v102 s103 =>
  pickC v88 v102 (.d (.bool false)) s103 fun v104 s105 =>
  condC v104 (Z (consO (some (.d (.int .i64 5))) (some [])) s105) (binC .add .plain v64 (.d (.int .i64 1)) s105 fun v106 s107 =>
  again63 [v106] s107))))))))) (binC .add .plain v45 (.d (.int .i64 1)) s67 fun v108 s109 =>
  again44 [v108] s109)) (Z (consO (some (.d (.int .i64 0))) (some [])) s48)))
theorem zgZ {P : Program} {x0 : AV} {σ : List AObj} {Z : Option (List AV) → List AObj → Prop} (h : zdC P x0 σ Z) : awp P zbQ.body (AtEnd fun fr s => Z (resAs fr s zbQ.res) s) (zB 0 [x0]) σ :=
  cast (by kernel_rfl) h
/-- slices.ContainsFunc[bulla/api.Batch,bulla/api.Signed] -/
def zaC (P : Program) (x0 x1 : AV) (σ : List AObj) (Z : Option (List AV) → List AObj → Prop) : Prop :=
  ACall P zaq [dm x0, dm x1] σ fun v1 s2 =>
  binC .geq .plain v1 (.d (.int .i64 0)) s2 fun v3 s4 =>
  Z (consO (some v3) (some [])) s4
theorem zbu {P : Program} {x0 x1 : AV} {σ : List AObj} {Z : Option (List AV) → List AObj → Prop} (h : zaC P x0 x1 σ Z) : awp P zan.body (AtEnd fun fr s => Z (resAs fr s zan.res) s) (zB 0 [x0, x1]) σ :=
  cast (by kernel_rfl) h
/-- bulla/request.ValidBatch$1 -/
def zcK (P : Program) (x0 x1 x2 : AV) (σ : List AObj) (Z : Option (List AV) → List AObj → Prop) : Prop :=
  boxC x0 σ fun v1 s2 =>
  loadC false 1 x1 s2 fun v3 s4 =>
  loadC false 1 x2 s4 fun v5 s6 =>
  loadC true 9 v1 s6 fun v7 s8 =>
  ACall P zdK [dm v3, dm v5, dm v7] s8 fun v9 s10 =>
  unC .not v9 s10 fun v11 s12 =>
  Z (consO (some v11) (some [])) s12
theorem zfS {P : Program} {x0 x1 x2 : AV} {σ : List AObj} {Z : Option (List AV) → List AObj → Prop} (h : zcK P x0 x1 x2 σ Z) : awp P zbC.body (AtEnd fun fr s => Z (resAs fr s zbC.res) s) (zB 0 [x0, x1, x2]) σ :=
  cast (by kernel_rfl) h
/-- bulla/request.Valid -/
def zgv (P : Program) (x0 x1 x2 : AV) (σ : List AObj) (Z : Option (List AV) → List AObj → Prop) : Prop :=
  boxC x2 σ fun v1 s2 =>
  zh 0 v1 s2 fun v3 s4 =>
  loadC true 7 v3 s4 fun v5 s6 =>
  ACall P zcs [dm v5] s6 fun v7 s8 =>
  zi v7 0 s8 fun v9 s10 =>
  zi v7 1 s10 fun v11 s12 =>
  binC .neq .plain v11 (.d (.int .i64 0)) s12 fun v13 s14 =>
  condC v13 (Z (consO (some (.d (.bool false))) (some [])) s14) (ACall P zaM [dm x0, dm v9] s14 fun v15 s16 =>
  zi v15 0 s16 fun v17 s18 =>
  zi v15 1 s18 fun v19 s20 =>
  zc v19 true (fun k => zh 7 v1 s20 k) s20 (fun v21 s22 =>
  zc v19 true (fun k => loadC true 2 v21 s22 k) s22 (fun v23 s24 =>
  zc v19 true (fun k => zh 0 v1 s24 k) s24 (fun v25 s26 =>
  zc v19 true (fun k => zh 0 v25 s26 k) s26 (fun v27 s28 =>
  zc v19 true (fun k => loadC false 1 v27 s28 k) s28 (fun v29 s30 =>
  zc v19 true (fun k => k v17 s30) s30 (fun v31 s32 =>
  zc v19 true (fun k => ACall P zfe [dm v29] s32 k) s32 (fun v33 s34 =>
  keepO v21 s32 s34 ∧ (zc v19 true (fun k => zG (fillV [(.d (.int .i64 0)), (.d (.int .i64 0))] [(0, 1, v33), (1, 1, v31)]) s34 k) s34 (fun v35 s36 =>
  zc v19 true (fun k => binC .eql (.ints 2) v23 v35 s36 k) s36 (fun v37 s38 =>
  pickC v19 v37 (.d (.bool false)) s38 fun v39 s40 =>
  zc v39 true (fun k => k x1 s40) s40 (fun v41 s42 =>
  zc v39 true (fun k => zh 7 v1 s42 k) s42 (fun v43 s44 =>
  zc v39 true (fun k => loadC true 2 v43 s44 k) s44 (fun v45 s46 =>
  zc v39 true (fun k => ACall P zaY [dm v41, dm v45] s46 k) s46 (fun v47 s48 =>
  pickC v39 v47 (.d (.bool false)) s48 fun v49 s50 =>
  Z (consO (some v49) (some [])) s50)))))))))))))))
theorem zlk {P : Program} {x0 x1 x2 : AV} {σ : List AObj} {Z : Option (List AV) → List AObj → Prop} (h : zgv P x0 x1 x2 σ Z) : awp P zeb.body (AtEnd fun fr s => Z (resAs fr s zeb.res) s) (zB 0 [x0, x1, x2]) σ :=
  cast (by kernel_rfl) h
/-- (bulla/request.parts).put -/
def zdS (P : Program) (x0 x1 : AV) (σ : List AObj) (Z : Option (List AV) → List AObj → Prop) : Prop :=
  lenC .sl x0 σ fun v1 s2 =>
  convC (.int .u64) v1 s2 fun v3 s4 =>
  ACall P zao [dm x1, dm v3] s4 fun v5 s6 =>
  lenC .sl x0 s6 fun v7 s8 =>
  loopC [v5, (.d (.int .i64 0))] s8 fun vs9 s10 again11 =>
  headC vs9 fun v12 vs13 =>
  headC vs13 fun v14 vs15 =>
  binC .lss .plain v14 v7 s10 fun v16 s17 =>
  condC v16 (zr none 9 x0 v14 s17 fun v18 s19 =>
  loadC true 9 v18 s19 fun v20 s21 =>
  zH [(.d (.int .i64 0)), (.d (.int .i64 0)), (.d (.int .i64 0)), (.d (.str [])), (.d (.str [])), (.d (.int .i64 0)), (.exact []), (.d (.int .i64 0)), (.d (.int .i64 0))] s21 fun v22 s23 =>
  zp 9 v22 v20 s23 fun _ s25 =>
  zh 0 v22 s25 fun v26 s27 =>
  loadC true 7 v26 s27 fun v28 s29 =>
  ACall P zcs [dm v28] s29 fun v30 s31 =>
  zi v30 0 s31 fun v32 s33 =>
  zi v30 1 s33 fun v34 s35 =>
  zh 7 v22 s35 fun v36 s37 =>
  loadC true 2 v36 s37 fun v38 s39 =>
  ACall P zaW [dm v12, dm v32] s39 fun v40 s41 =>
  keepO v36 s39 s41 ∧ (ACall P zcP [dm v40, dm v38] s41 fun v42 s43 =>
  binC .add .plain v14 (.d (.int .i64 1)) s43 fun v44 s45 =>
  again11 [v42, v44] s45)) (Z (consO (some v12) (some [])) s17)
theorem zhv {P : Program} {x0 x1 : AV} {σ : List AObj} {Z : Option (List AV) → List AObj → Prop} (h : zdS P x0 x1 σ Z) : awp P zcd.body (AtEnd fun fr s => Z (resAs fr s zcd.res) s) (zB 0 [x0, x1]) σ :=
  cast (by kernel_rfl) h
/-- bulla/quorum.view -/
def ziZ (P : Program) (x0 x1 : AV) (σ : List AObj) (Z : Option (List AV) → List AObj → Prop) : Prop :=
  ACall P zbT [dm x0] σ fun v1 s2 =>
  binC .eql .plain v1 (.d (.int .i64 0)) s2 fun v3 s4 =>
  zc v3 true (fun k => k x1 s4) s4 (fun v5 s6 =>
  zc v3 true (fun k => binC .geq .plain v5 (.d (.int .i64 0)) s6 k) s6 (fun v7 s8 =>
  pickC v3 v7 (.d (.bool false)) s8 fun v9 s10 =>
  zc v9 true (fun k => k x1 s10) s10 (fun v11 s12 =>
  zc v9 true (fun k => binC .leq .plain v11 (.d (.int .i64 9007199254740992)) s12 k) s12 (fun v13 s14 =>
  pickC v9 v13 (.d (.bool false)) s14 fun v15 s16 =>
  Z (consO (some v15) (some [])) s16))))
theorem znI {P : Program} {x0 x1 : AV} {σ : List AObj} {Z : Option (List AV) → List AObj → Prop} (h : ziZ P x0 x1 σ Z) : awp P zfz.body (AtEnd fun fr s => Z (resAs fr s zfz.res) s) (zB 0 [x0, x1]) σ :=
  cast (by kernel_rfl) h
/-- bulla/auth.made -/
def zml (P : Program) (x0 x1 : AV) (σ : List AObj) (Z : Option (List AV) → List AObj → Prop) : Prop :=
  ACall P zbp [dm x0] σ fun v1 s2 =>
  binC .neq .ptr v1 (.d .nilp) s2 fun v3 s4 =>
  zc v3 true (fun k => k x1 s4) s4 (fun v5 s6 =>
  zc v3 true (fun k => ACall P zbe [dm v5] s6 k) s6 (fun v7 s8 =>
  zc v3 true (fun k => binC .neq .ptr v7 (.d .nilp) s8 k) s8 (fun v9 s10 =>
  pickC v3 v9 (.d (.bool false)) s10 fun v11 s12 =>
  Z (consO (some v11) (some [])) s12)))
theorem s_auth_made {P : Program} {x0 x1 : AV} {σ : List AObj} {Z : Option (List AV) → List AObj → Prop} (h : zml P x0 x1 σ Z) : awp P zif.body (AtEnd fun fr s => Z (resAs fr s zif.res) s) (zB 0 [x0, x1]) σ :=
  cast (by kernel_rfl) h
/-- bulla/auth.may -/
def znA (P : Program) (x0 x1 x2 x3 : AV) (σ : List AObj) (Z : Option (List AV) → List AObj → Prop) : Prop :=
  zl false 1 4 (fillV (rep [(.d (.int .i64 0))] 4) [(0, 1, x0), (1, 1, x1), (2, 1, x2), (3, 1, x3)]) σ fun v1 s2 =>
  lenC .sl v1 s2 fun v3 s4 =>
  loopC [(.d (.int .i64 0))] s4 fun vs5 s6 again7 =>
  headC vs5 fun v8 vs9 =>
  binC .lss .plain v8 v3 s6 fun v10 s11 =>
  condC v10 (zr none 1 v1 v8 s11 fun v12 s13 =>
  loadC false 1 v12 s13 fun v14 s15 =>
  binC .lss .plain v14 (.d (.int .i64 0)) s15 fun v16 s17 =>
  zc v16 false (fun k => k v14 s17) s17 (fun v18 s19 =>
  zc v16 false (fun k => binC .gtr .plain v18 (.d (.int .i64 9007199254740992)) s19 k) s19 (fun v20 s21 =>
  pickC v16 (.d (.bool true)) v20 s21 fun v22 s23 =>
  condC v22 (Z (consO (some (.d (.bool false))) (some [])) s23) (binC .add .plain v8 (.d (.int .i64 1)) s23 fun v24 s25 =>
  again7 [v24] s25)))) (Z (consO (some (.d (.bool true))) (some [])) s11)
theorem s_auth_may {P : Program} {x0 x1 x2 x3 : AV} {σ : List AObj} {Z : Option (List AV) → List AObj → Prop} (h : znA P x0 x1 x2 x3 σ Z) : awp P zkf.body (AtEnd fun fr s => Z (resAs fr s zkf.res) s) (zB 0 [x0, x1, x2, x3]) σ :=
  cast (by kernel_rfl) h
/-- bulla/auth.signed -/
def zjc (P : Program) (x0 x1 x2 x3 x4 : AV) (σ : List AObj) (Z : Option (List AV) → List AObj → Prop) : Prop :=
  boxC x2 σ fun v1 s2 =>
  ACall P zaM [dm x0, dm x4] s2 fun v3 s4 =>
  zi v3 0 s4 fun v5 s6 =>
  zi v3 1 s6 fun v7 s8 =>
  zc v7 true (fun k => loadC true 2 v1 s8 k) s8 (fun v9 s10 =>
  zc v7 true (fun k => k x3 s10) s10 (fun v11 s12 =>
  zc v7 true (fun k => k v5 s12) s12 (fun v13 s14 =>
  zc v7 true (fun k => zG (fillV [(.d (.int .i64 0)), (.d (.int .i64 0))] [(0, 1, v11), (1, 1, v13)]) s14 k) s14 (fun v15 s16 =>
  zc v7 true (fun k => binC .eql (.ints 2) v9 v15 s16 k) s16 (fun v17 s18 =>
  pickC v7 v17 (.d (.bool false)) s18 fun v19 s20 =>
  zc v19 true (fun k => k x1 s20) s20 (fun v21 s22 =>
  zc v19 true (fun k => loadC true 2 v1 s22 k) s22 (fun v23 s24 =>
  zc v19 true (fun k => ACall P zaY [dm v21, dm v23] s24 k) s24 (fun v25 s26 =>
  pickC v19 v25 (.d (.bool false)) s26 fun v27 s28 =>
  Z (consO (some v27) (some [])) s28))))))))
theorem znL {P : Program} {x0 x1 x2 x3 x4 : AV} {σ : List AObj} {Z : Option (List AV) → List AObj → Prop} (h : zjc P x0 x1 x2 x3 x4 σ Z) : awp P zfC.body (AtEnd fun fr s => Z (resAs fr s zfC.res) s) (zB 0 [x0, x1, x2, x3, x4]) σ :=
  cast (by kernel_rfl) h
/-- bulla/auth.VoteBytes -/
def zfQ (P : Program) (x0 x1 x2 x3 : AV) (σ : List AObj) (Z : Option (List AV) → List AObj → Prop) : Prop :=
  zl false 1 1 (fillV (rep [(.d (.int .u8 0))] 1) [(0, 1, (.d (.int .u8 4)))]) σ fun v1 s2 =>
  zl false 1 4 (fillV (rep [(.d (.int .i64 0))] 4) [(0, 1, x0), (1, 1, x1), (2, 1, x2), (3, 1, x3)]) s2 fun v3 s4 =>
  ACall P zjq [dm v1, dm v3] s4 fun v5 s6 =>
  Z (consO (some v5) (some [])) s6
theorem zkO {P : Program} {x0 x1 x2 x3 : AV} {σ : List AObj} {Z : Option (List AV) → List AObj → Prop} (h : zfQ P x0 x1 x2 x3 σ Z) : awp P zdw.body (AtEnd fun fr s => Z (resAs fr s zdw.res) s) (zB 0 [x0, x1, x2, x3]) σ :=
  cast (by kernel_rfl) h
end Go.Proofs.YtcappjcojggehaaGreat
