/- The conditions of each function, its slots as variables, and that the logic's conditions are these. Printed by program. -/
import Derived.Test.YtcappjcojggehaaAf3
set_option linter.all false
set_option maxRecDepth 100000
set_option linter.unusedVariables false
namespace Go.Proofs.Ytcappjcojggehaa
open Go.AW
/-- bulla/request.Valid -/
def zfY (P : Program) (x0 x1 x2 : AV) (σ : List AObj) (Z : Option (List AV) → List AObj → Prop) : Prop :=
  boxC x2 σ fun v1 s2 =>
  zh 0 v1 s2 fun v3 s4 =>
  loadC true 7 v3 s4 fun v5 s6 =>
  ACall P zct [dm v5] s6 fun v7 s8 =>
  zi v7 0 s8 fun v9 s10 =>
  zi v7 1 s10 fun v11 s12 =>
  binC .neq .plain v11 (.d (.int .i64 0)) s12 fun v13 s14 =>
  condC v13 (Z (consO (some (.d (.bool false))) (some [])) s14) (ACall P zaL [dm x0, dm v9] s14 fun v15 s16 =>
  zi v15 0 s16 fun v17 s18 =>
  zi v15 1 s18 fun v19 s20 =>
  zf v19 true (fun k => zh 7 v1 s20 k) s20 (fun v21 s22 =>
  zf v19 true (fun k => loadC true 2 v21 s22 k) s22 (fun v23 s24 =>
  zf v19 true (fun k => zh 0 v1 s24 k) s24 (fun v25 s26 =>
  zf v19 true (fun k => zh 0 v25 s26 k) s26 (fun v27 s28 =>
  zf v19 true (fun k => loadC false 1 v27 s28 k) s28 (fun v29 s30 =>
  zf v19 true (fun k => k v17 s30) s30 (fun v31 s32 =>
  zf v19 true (fun k => ACall P zeK [dm v29] s32 k) s32 (fun v33 s34 =>
  keepO v21 s32 s34 ∧ (zf v19 true (fun k => zE (fillV [(.d (.int .i64 0)), (.d (.int .i64 0))] [(0, 1, v33), (1, 1, v31)]) s34 k) s34 (fun v35 s36 =>
  zf v19 true (fun k => binC .eql (.ints 2) v23 v35 s36 k) s36 (fun v37 s38 =>
  pickC v19 v37 (.d (.bool false)) s38 fun v39 s40 =>
  zf v39 true (fun k => k x1 s40) s40 (fun v41 s42 =>
  zf v39 true (fun k => zh 7 v1 s42 k) s42 (fun v43 s44 =>
  zf v39 true (fun k => loadC true 2 v43 s44 k) s44 (fun v45 s46 =>
  zf v39 true (fun k => ACall P zaX [dm v41, dm v45] s46 k) s46 (fun v47 s48 =>
  pickC v39 v47 (.d (.bool false)) s48 fun v49 s50 =>
  Z (consO (some v49) (some [])) s50)))))))))))))))
theorem zks {P : Program} {x0 x1 x2 : AV} {σ : List AObj} {Z : Option (List AV) → List AObj → Prop} (h : zfY P x0 x1 x2 σ Z) : awp P zdO.body (AtEnd fun fr s => Z (resAs fr s zdO.res) s) (zH 0 [x0, x1, x2]) σ :=
  cast (by kernel_rfl) h
/-- (bulla/request.parts).put -/
def zdF (P : Program) (x0 x1 : AV) (σ : List AObj) (Z : Option (List AV) → List AObj → Prop) : Prop :=
  lenC .sl x0 σ fun v1 s2 =>
  convC (.int .u64) v1 s2 fun v3 s4 =>
  ACall P zan [dm x1, dm v3] s4 fun v5 s6 =>
  lenC .sl x0 s6 fun v7 s8 =>
  loopC [v5, (.d (.int .i64 0))] s8 fun vs9 s10 again11 =>
  headC vs9 fun v12 vs13 =>
  headC vs13 fun v14 vs15 =>
  binC .lss .plain v14 v7 s10 fun v16 s17 =>
  condC v16 (zy none 9 x0 v14 s17 fun v18 s19 =>
  loadC true 9 v18 s19 fun v20 s21 =>
  zF [(.d (.int .i64 0)), (.d (.int .i64 0)), (.d (.int .i64 0)), (.d (.str [])), (.d (.str [])), (.d (.int .i64 0)), (.exact []), (.d (.int .i64 0)), (.d (.int .i64 0))] s21 fun v22 s23 =>
  zo 9 v22 v20 s23 fun _ s25 =>
  zh 0 v22 s25 fun v26 s27 =>
  loadC true 7 v26 s27 fun v28 s29 =>
  ACall P zct [dm v28] s29 fun v30 s31 =>
  zi v30 0 s31 fun v32 s33 =>
  zi v30 1 s33 fun v34 s35 =>
  zh 7 v22 s35 fun v36 s37 =>
  loadC true 2 v36 s37 fun v38 s39 =>
  ACall P zaT [dm v12, dm v32] s39 fun v40 s41 =>
  keepO v36 s39 s41 ∧ (ACall P zcF [dm v40, dm v38] s41 fun v42 s43 =>
  binC .add .plain v14 (.d (.int .i64 1)) s43 fun v44 s45 =>
  again11 [v42, v44] s45)) (Z (consO (some v12) (some [])) s17)
theorem zgW {P : Program} {x0 x1 : AV} {σ : List AObj} {Z : Option (List AV) → List AObj → Prop} (h : zdF P x0 x1 σ Z) : awp P zce.body (AtEnd fun fr s => Z (resAs fr s zce.res) s) (zH 0 [x0, x1]) σ :=
  cast (by kernel_rfl) h
/-- bulla/quorum.view -/
def zin (P : Program) (x0 x1 : AV) (σ : List AObj) (Z : Option (List AV) → List AObj → Prop) : Prop :=
  ACall P zbQ [dm x0] σ fun v1 s2 =>
  binC .eql .plain v1 (.d (.int .i64 0)) s2 fun v3 s4 =>
  zf v3 true (fun k => k x1 s4) s4 (fun v5 s6 =>
  zf v3 true (fun k => binC .geq .plain v5 (.d (.int .i64 0)) s6 k) s6 (fun v7 s8 =>
  pickC v3 v7 (.d (.bool false)) s8 fun v9 s10 =>
  zf v9 true (fun k => k x1 s10) s10 (fun v11 s12 =>
  zf v9 true (fun k => binC .leq .plain v11 (.d (.int .i64 9007199254740992)) s12 k) s12 (fun v13 s14 =>
  pickC v9 v13 (.d (.bool false)) s14 fun v15 s16 =>
  Z (consO (some v15) (some [])) s16))))
theorem zmA {P : Program} {x0 x1 : AV} {σ : List AObj} {Z : Option (List AV) → List AObj → Prop} (h : zin P x0 x1 σ Z) : awp P zfb.body (AtEnd fun fr s => Z (resAs fr s zfb.res) s) (zH 0 [x0, x1]) σ :=
  cast (by kernel_rfl) h
/-- bulla/auth.made -/
def zlk (P : Program) (x0 x1 : AV) (σ : List AObj) (Z : Option (List AV) → List AObj → Prop) : Prop :=
  ACall P zbp [dm x0] σ fun v1 s2 =>
  binC .neq .ptr v1 (.d .nilp) s2 fun v3 s4 =>
  zf v3 true (fun k => k x1 s4) s4 (fun v5 s6 =>
  zf v3 true (fun k => ACall P zbd [dm v5] s6 k) s6 (fun v7 s8 =>
  zf v3 true (fun k => binC .neq .ptr v7 (.d .nilp) s8 k) s8 (fun v9 s10 =>
  pickC v3 v9 (.d (.bool false)) s10 fun v11 s12 =>
  Z (consO (some v11) (some [])) s12)))
theorem s_auth_made {P : Program} {x0 x1 : AV} {σ : List AObj} {Z : Option (List AV) → List AObj → Prop} (h : zlk P x0 x1 σ Z) : awp P zhz.body (AtEnd fun fr s => Z (resAs fr s zhz.res) s) (zH 0 [x0, x1]) σ :=
  cast (by kernel_rfl) h
/-- bulla/auth.may -/
def zmv (P : Program) (x0 x1 x2 x3 : AV) (σ : List AObj) (Z : Option (List AV) → List AObj → Prop) : Prop :=
  zl false 1 4 (fillV (rep [(.d (.int .i64 0))] 4) [(0, 1, x0), (1, 1, x1), (2, 1, x2), (3, 1, x3)]) σ fun v1 s2 =>
  lenC .sl v1 s2 fun v3 s4 =>
  loopC [(.d (.int .i64 0))] s4 fun vs5 s6 again7 =>
  headC vs5 fun v8 vs9 =>
  binC .lss .plain v8 v3 s6 fun v10 s11 =>
  condC v10 (zy none 1 v1 v8 s11 fun v12 s13 =>
  loadC false 1 v12 s13 fun v14 s15 =>
  binC .lss .plain v14 (.d (.int .i64 0)) s15 fun v16 s17 =>
  zf v16 false (fun k => k v14 s17) s17 (fun v18 s19 =>
  zf v16 false (fun k => binC .gtr .plain v18 (.d (.int .i64 9007199254740992)) s19 k) s19 (fun v20 s21 =>
  pickC v16 (.d (.bool true)) v20 s21 fun v22 s23 =>
  condC v22 (Z (consO (some (.d (.bool false))) (some [])) s23) (binC .add .plain v8 (.d (.int .i64 1)) s23 fun v24 s25 =>
  again7 [v24] s25)))) (Z (consO (some (.d (.bool true))) (some [])) s11)
theorem s_auth_may {P : Program} {x0 x1 x2 x3 : AV} {σ : List AObj} {Z : Option (List AV) → List AObj → Prop} (h : zmv P x0 x1 x2 x3 σ Z) : awp P zjn.body (AtEnd fun fr s => Z (resAs fr s zjn.res) s) (zH 0 [x0, x1, x2, x3]) σ :=
  cast (by kernel_rfl) h
/-- bulla/auth.signed -/
def zir (P : Program) (x0 x1 x2 x3 x4 : AV) (σ : List AObj) (Z : Option (List AV) → List AObj → Prop) : Prop :=
  boxC x2 σ fun v1 s2 =>
  ACall P zaL [dm x0, dm x4] s2 fun v3 s4 =>
  zi v3 0 s4 fun v5 s6 =>
  zi v3 1 s6 fun v7 s8 =>
  zf v7 true (fun k => loadC true 2 v1 s8 k) s8 (fun v9 s10 =>
  zf v7 true (fun k => k x3 s10) s10 (fun v11 s12 =>
  zf v7 true (fun k => k v5 s12) s12 (fun v13 s14 =>
  zf v7 true (fun k => zE (fillV [(.d (.int .i64 0)), (.d (.int .i64 0))] [(0, 1, v11), (1, 1, v13)]) s14 k) s14 (fun v15 s16 =>
  zf v7 true (fun k => binC .eql (.ints 2) v9 v15 s16 k) s16 (fun v17 s18 =>
  pickC v7 v17 (.d (.bool false)) s18 fun v19 s20 =>
  zf v19 true (fun k => k x1 s20) s20 (fun v21 s22 =>
  zf v19 true (fun k => loadC true 2 v1 s22 k) s22 (fun v23 s24 =>
  zf v19 true (fun k => ACall P zaX [dm v21, dm v23] s24 k) s24 (fun v25 s26 =>
  pickC v19 v25 (.d (.bool false)) s26 fun v27 s28 =>
  Z (consO (some v27) (some [])) s28))))))))
theorem zmD {P : Program} {x0 x1 x2 x3 x4 : AV} {σ : List AObj} {Z : Option (List AV) → List AObj → Prop} (h : zir P x0 x1 x2 x3 x4 σ Z) : awp P zfe.body (AtEnd fun fr s => Z (resAs fr s zfe.res) s) (zH 0 [x0, x1, x2, x3, x4]) σ :=
  cast (by kernel_rfl) h
/-- bulla/auth.VoteBytes -/
def zfq (P : Program) (x0 x1 x2 x3 : AV) (σ : List AObj) (Z : Option (List AV) → List AObj → Prop) : Prop :=
  zl false 1 1 (fillV (rep [(.d (.int .u8 0))] 1) [(0, 1, (.d (.int .u8 4)))]) σ fun v1 s2 =>
  zl false 1 4 (fillV (rep [(.d (.int .i64 0))] 4) [(0, 1, x0), (1, 1, x1), (2, 1, x2), (3, 1, x3)]) s2 fun v3 s4 =>
  ACall P ziD [dm v1, dm v3] s4 fun v5 s6 =>
  Z (consO (some v5) (some [])) s6
theorem zjW {P : Program} {x0 x1 x2 x3 : AV} {σ : List AObj} {Z : Option (List AV) → List AObj → Prop} (h : zfq P x0 x1 x2 x3 σ Z) : awp P zdi.body (AtEnd fun fr s => Z (resAs fr s zdi.res) s) (zH 0 [x0, x1, x2, x3]) σ :=
  cast (by kernel_rfl) h
/-- bulla/quorum.times -/
def zgR (P : Program) (x0 x1 : AV) (σ : List AObj) (Z : Option (List AV) → List AObj → Prop) : Prop :=
  ACall P zbQ [dm x1] σ fun v1 s2 =>
  binC .neq .plain v1 (.d (.int .i64 0)) s2 fun v3 s4 =>
  condC v3 (Z (consO (some (.d (.int .i64 0))) (some [])) s4) (binC .mul .plain x0 x1 s4 fun v5 s6 =>
  binC .add .plain v5 (.d (.int .i64 1)) s6 fun v7 s8 =>
  Z (consO (some v7) (some [])) s8)
theorem zlv {P : Program} {x0 x1 : AV} {σ : List AObj} {Z : Option (List AV) → List AObj → Prop} (h : zgR P x0 x1 σ Z) : awp P zek.body (AtEnd fun fr s => Z (resAs fr s zek.res) s) (zH 0 [x0, x1]) σ :=
  cast (by kernel_rfl) h
/-- bulla/op.Clone -/
def zmr (P : Program) (x0 : AV) (σ : List AObj) (Z : Option (List AV) → List AObj → Prop) : Prop :=
  boxC x0 σ fun v1 s2 =>
  zF [(.d (.int .i64 0)), (.d (.str [])), (.d (.str [])), (.d (.int .i64 0)), (.exact [])] s2 fun v3 s4 =>
  zh 4 v1 s4 fun v5 s6 =>
  loadC false 1 v5 s6 fun v7 s8 =>
  lenC .sl v7 s8 fun v9 s10 =>
  loopC [(.exact []), (.d (.int .i64 0))] s10 fun vs11 s12 again13 =>
  headC vs11 fun v14 vs15 =>
  headC vs15 fun v16 vs17 =>
  binC .lss .plain v16 v9 s12 fun v18 s19 =>
  condC v18 (zy none 1 v7 v16 s19 fun v20 s21 =>
  loadC false 1 v20 s21 fun v22 s23 =>
  ACall P zbr [dm v22] s23 fun v24 s25 =>
  zl false 1 1 (fillV (rep [(.exact [])] 1) [(0, 1, v24)]) s25 fun v26 s27 =>
  zt 1 24 v14 v26 s27 fun v28 s29 =>
  binC .add .plain v16 (.d (.int .i64 1)) s29 fun v30 s31 =>
  again13 [v28, v30] s31) (zh 4 v1 s19 fun v32 s33 =>
  zo 1 v32 v14 s33 fun _ s35 =>
  loadC true 5 v1 s35 fun v36 s37 =>
  zo 5 v3 v36 s37 fun _ s39 =>
  Z (consO (cellA v3 s39 true 5) (some [])) s39)
theorem s_op_Clone {P : Program} {x0 : AV} {σ : List AObj} {Z : Option (List AV) → List AObj → Prop} (h : zmr P x0 σ Z) : awp P zjj.body (AtEnd fun fr s => Z (resAs fr s zjj.res) s) (zH 0 [x0]) σ :=
  cast (by kernel_rfl) h
/-- bulla/bullaref08.Check -/
def zle (P : Program) (x0 : AV) (σ : List AObj) (Z : Option (List AV) → List AObj → Prop) : Prop :=
  boxC x0 σ fun v1 s2 =>
  zh 0 v1 s2 fun v3 s4 =>
  loadC false 1 v3 s4 fun v5 s6 =>
  ACall P zfD [dm v5] s6 fun v7 s8 =>
  binC .lss .plain v7 (.d (.int .i64 0)) s8 fun v9 s10 =>
  zf v9 false (fun k => zh 1 v1 s10 k) s10 (fun v11 s12 =>
  zf v9 false (fun k => loadC false 1 v11 s12 k) s12 (fun v13 s14 =>
  zf v9 false (fun k => binC .lss .plain v13 (.d (.int .i64 1)) s14 k) s14 (fun v15 s16 =>
  pickC v9 (.d (.bool true)) v15 s16 fun v17 s18 =>
  zf v17 false (fun k => zh 1 v1 s18 k) s18 (fun v19 s20 =>
  zf v17 false (fun k => loadC false 1 v19 s20 k) s20 (fun v21 s22 =>
  zf v17 false (fun k => binC .gtr .plain v21 (.d (.int .i64 9007199254740992)) s22 k) s22 (fun v23 s24 =>
  pickC v17 (.d (.bool true)) v23 s24 fun v25 s26 =>
  condC v25 (Z (consO (some (.d (.int .i64 80))) (some [])) s26) (zh 2 v1 s26 fun v27 s28 =>
  loadC true 5 v27 s28 fun v29 s30 =>
  ACall P zeO [dm v29] s30 fun v31 s32 =>
  Z (consO (some v31) (some [])) s32)))))))
theorem s_r08_Check {P : Program} {x0 : AV} {σ : List AObj} {Z : Option (List AV) → List AObj → Prop} (h : zle P x0 σ Z) : awp P zht.body (AtEnd fun fr s => Z (resAs fr s zht.res) s) (zH 0 [x0]) σ :=
  cast (by kernel_rfl) h
/-- bulla/bullaref01.PutNum -/
def zjH (P : Program) (x0 x1 : AV) (σ : List AObj) (Z : Option (List AV) → List AObj → Prop) : Prop :=
  zt 1 1 (.exact []) x0 σ fun v1 s2 =>
  loopC [x1, v1] s2 fun vs3 s4 again5 =>
  headC vs3 fun v6 vs7 =>
  headC vs7 fun v8 vs9 =>
  binC .geq .plain v6 (.d (.int .u64 128)) s4 fun v10 s11 =>
  condC v10 (binC .rem .plain v6 (.d (.int .u64 128)) s11 fun v12 s13 =>
  convC (.int .u8) v12 s13 fun v14 s15 =>
  binC .add .plain v14 (.d (.int .u8 128)) s15 fun v16 s17 =>
  zl false 1 1 (fillV (rep [(.d (.int .u8 0))] 1) [(0, 1, v16)]) s17 fun v18 s19 =>
  zt 1 1 v8 v18 s19 fun v20 s21 =>
  binC .quo .plain v6 (.d (.int .u64 128)) s21 fun v22 s23 =>
  again5 [v22, v20] s23) (convC (.int .u8) v6 s11 fun v24 s25 =>
  zl false 1 1 (fillV (rep [(.d (.int .u8 0))] 1) [(0, 1, v24)]) s25 fun v26 s27 =>
  zt 1 1 v8 v26 s27 fun v28 s29 =>
  Z (consO (some v28) (some [])) s29)
theorem s_r01_PutNum {P : Program} {x0 x1 : AV} {σ : List AObj} {Z : Option (List AV) → List AObj → Prop} (h : zjH P x0 x1 σ Z) : awp P zgj.body (AtEnd fun fr s => Z (resAs fr s zgj.res) s) (zH 0 [x0, x1]) σ :=
  cast (by kernel_rfl) h
/-- bulla/bullaref06.Put -/
def S_r06_Put (P : Program) (x0 x1 : AV) (σ : List AObj) (Z : Option (List AV) → List AObj → Prop) : Prop :=
  boxC x1 σ fun v1 s2 =>
  loadC true 5 v1 s2 fun v3 s4 =>
  ACall P zeO [dm v3] s4 fun v5 s6 =>
  binC .neq .plain v5 (.d (.int .i64 0)) s6 fun v7 s8 =>
  condC v7 (Z (consO (some x0) (some [])) s8) (zh 0 v1 s8 fun v9 s10 =>
  loadC false 1 v9 s10 fun v11 s12 =>
  ACall P zdW [dm v11] s12 fun v13 s14 =>
  zi v13 0 s14 fun v15 s16 =>
  zi v13 1 s16 fun v17 s18 =>
  zi v13 2 s18 fun v19 s20 =>
  zi v13 3 s20 fun v21 s22 =>
  zh 0 v1 s22 fun v23 s24 =>
  loadC false 1 v23 s24 fun v25 s26 =>
  convC (.int .u64) v25 s26 fun v27 s28 =>
  ACall P zaB [dm x0, dm v27] s28 fun v29 s30 =>
  (fun (k31 : AV → List AObj → Prop) => condC v15 (zh 1 v1 s30 fun v96 s97 =>
  loadC false 1 v96 s97 fun v98 s99 =>
  convC .toBytes v98 s99 fun v100 s101 =>
  ACall P zbw [dm v29, dm v100] s101 fun v102 s103 =>
  k31 v102 s103) (k31 v29 s30))
  (fun v32 s33 => (fun (k34 : AV → List AObj → Prop) => condC v17 (zh 2 v1 s33 fun v88 s89 =>
  loadC false 1 v88 s89 fun v90 s91 =>
  convC .toBytes v90 s91 fun v92 s93 =>
  ACall P zbw [dm v32, dm v92] s93 fun v94 s95 =>
  k34 v94 s95) (k34 v32 s33))
  (fun v35 s36 => (fun (k37 : AV → List AObj → Prop) => condC v19 (zh 3 v1 s36 fun v80 s81 =>
  loadC false 1 v80 s81 fun v82 s83 =>
  convC (.int .u64) v82 s83 fun v84 s85 =>
  ACall P zaB [dm v35, dm v84] s85 fun v86 s87 =>
  k37 v86 s87) (k37 v35 s36))
  (fun v38 s39 => (fun (k40 : AV → List AObj → Prop) => condC v21 (zh 4 v1 s39 fun v43 s44 =>
  loadC false 1 v43 s44 fun v45 s46 =>
  lenC .sl v45 s46 fun v47 s48 =>
  convC (.int .u64) v47 s48 fun v49 s50 =>
  ACall P zaB [dm v38, dm v49] s50 fun v51 s52 =>
  loopC [v51, (.d (.int .i64 0))] s52 fun vs53 s54 again55 =>
  headC vs53 fun v56 vs57 =>
  headC vs57 fun v58 vs59 =>
  zh 4 v1 s54 fun v60 s61 =>
  loadC false 1 v60 s61 fun v62 s63 =>
  lenC .sl v62 s63 fun v64 s65 =>
  binC .lss .plain v58 v64 s65 fun v66 s67 =>
  condC v66 (zh 4 v1 s67 fun v68 s69 =>
  loadC false 1 v68 s69 fun v70 s71 =>
  zy none 1 v70 v58 s71 fun v72 s73 =>
  loadC false 1 v72 s73 fun v74 s75 =>
  ACall P zbw [dm v56, dm v74] s75 fun v76 s77 =>
  binC .add .plain v58 (.d (.int .i64 1)) s77 fun v78 s79 =>
  again55 [v76, v78] s79) (k40 v56 s67)) (k40 v38 s39))
  (fun v41 s42 => Z (consO (some v41) (some [])) s42)))))
theorem s_r06_Put {P : Program} {x0 x1 : AV} {σ : List AObj} {Z : Option (List AV) → List AObj → Prop} (h : S_r06_Put P x0 x1 σ Z) : awp P zlp.body (AtEnd fun fr s => Z (resAs fr s zlp.res) s) (zH 0 [x0, x1]) σ :=
  cast (by kernel_rfl) h
/-- (*bulla/bullaref02.Ledger).Signed -/
def zdH (P : Program) (x0 x1 : AV) (σ : List AObj) (Z : Option (List AV) → List AObj → Prop) : Prop :=
  boxC x1 σ fun v1 s2 =>
  loopC [(.d (.int .i64 0))] s2 fun vs3 s4 again5 =>
  headC vs3 fun v6 vs7 =>
  nilC x0 s4 fun v8 s9 =>
  zh 0 v8 s9 fun v10 s11 =>
  loadC false 1 v10 s11 fun v12 s13 =>
  lenC .sl v12 s13 fun v14 s15 =>
  binC .lss .plain v6 v14 s15 fun v16 s17 =>
  condC v16 (nilC x0 s17 fun v18 s19 =>
  zh 0 v18 s19 fun v20 s21 =>
  loadC false 1 v20 s21 fun v22 s23 =>
  zy none 2 v22 v6 s23 fun v24 s25 =>
  loadC true 2 v24 s25 fun v26 s27 =>
  loadC true 2 v1 s27 fun v28 s29 =>
  binC .eql (.ints 2) v26 v28 s29 fun v30 s31 =>
  condC v30 (Z (consO (some (.d (.bool true))) (some [])) s31) (binC .add .plain v6 (.d (.int .i64 1)) s31 fun v32 s33 =>
  again5 [v32] s33)) (Z (consO (some (.d (.bool false))) (some [])) s17)
theorem zgY {P : Program} {x0 x1 : AV} {σ : List AObj} {Z : Option (List AV) → List AObj → Prop} (h : zdH P x0 x1 σ Z) : awp P zcg.body (AtEnd fun fr s => Z (resAs fr s zcg.res) s) (zH 0 [x0, x1]) σ :=
  cast (by kernel_rfl) h
/-- (*bulla/bullaref02.Table).Look -/
def zfh (P : Program) (x0 x1 : AV) (σ : List AObj) (Z : Option (List AV) → List AObj → Prop) : Prop :=
  loopC [(.d (.int .i64 0))] σ fun vs1 s2 again3 =>
  headC vs1 fun v4 vs5 =>
  nilC x0 s2 fun v6 s7 =>
  zh 0 v6 s7 fun v8 s9 =>
  loadC false 1 v8 s9 fun v10 s11 =>
  lenC .sl v10 s11 fun v12 s13 =>
  binC .lss .plain v4 v12 s13 fun v14 s15 =>
  condC v14 (nilC x0 s15 fun v16 s17 =>
  zh 0 v16 s17 fun v18 s19 =>
  loadC false 1 v18 s19 fun v20 s21 =>
  zy none 1 v20 v4 s21 fun v22 s23 =>
  loadC false 1 v22 s23 fun v24 s25 =>
  ACall P ziz [dm v24, dm x1] s25 fun v26 s27 =>
  condC v26 (binC .add .plain v4 (.d (.int .i64 1)) s27 fun v28 s29 =>
  Z (consO (some v28) (consO (some (.d (.bool true))) (some []))) s29) (binC .add .plain v4 (.d (.int .i64 1)) s27 fun v30 s31 =>
  again3 [v30] s31)) (Z (consO (some (.d (.int .i64 0))) (consO (some (.d (.bool false))) (some []))) s15)
theorem zjN {P : Program} {x0 x1 : AV} {σ : List AObj} {Z : Option (List AV) → List AObj → Prop} (h : zfh P x0 x1 σ Z) : awp P zcZ.body (AtEnd fun fr s => Z (resAs fr s zcZ.res) s) (zH 0 [x0, x1]) σ :=
  cast (by kernel_rfl) h
/-- bulla/bullaref08.CheckSign -/
def zgd (P : Program) (x0 : AV) (σ : List AObj) (Z : Option (List AV) → List AObj → Prop) : Prop :=
  boxC x0 σ fun v1 s2 =>
  zh 0 v1 s2 fun v3 s4 =>
  loadC false 1 v3 s4 fun v5 s6 =>
  binC .lss .plain v5 (.d (.int .i64 0)) s6 fun v7 s8 =>
  zf v7 false (fun k => zh 0 v1 s8 k) s8 (fun v9 s10 =>
  zf v7 false (fun k => loadC false 1 v9 s10 k) s10 (fun v11 s12 =>
  zf v7 false (fun k => binC .geq .plain v11 (.d (.int .i64 21)) s12 k) s12 (fun v13 s14 =>
  pickC v7 (.d (.bool true)) v13 s14 fun v15 s16 =>
  zf v15 false (fun k => zh 1 v1 s16 k) s16 (fun v17 s18 =>
  zf v15 false (fun k => loadC false 1 v17 s18 k) s18 (fun v19 s20 =>
  zf v15 false (fun k => binC .lss .plain v19 (.d (.int .i64 1)) s20 k) s20 (fun v21 s22 =>
  pickC v15 (.d (.bool true)) v21 s22 fun v23 s24 =>
  zf v23 false (fun k => zh 1 v1 s24 k) s24 (fun v25 s26 =>
  zf v23 false (fun k => loadC false 1 v25 s26 k) s26 (fun v27 s28 =>
  zf v23 false (fun k => binC .gtr .plain v27 (.d (.int .i64 9007199254740992)) s28 k) s28 (fun v29 s30 =>
  pickC v23 (.d (.bool true)) v29 s30 fun v31 s32 =>
  condC v31 (Z (consO (some (.d (.int .i64 81))) (some [])) s32) (Z (consO (some (.d (.int .i64 0))) (some [])) s32))))))))))
theorem zkx {P : Program} {x0 : AV} {σ : List AObj} {Z : Option (List AV) → List AObj → Prop} (h : zgd P x0 σ Z) : awp P zdT.body (AtEnd fun fr s => Z (resAs fr s zdT.res) s) (zH 0 [x0]) σ :=
  cast (by kernel_rfl) h
/-- bulla/bullaref08.PutSign -/
def zim (P : Program) (x0 x1 : AV) (σ : List AObj) (Z : Option (List AV) → List AObj → Prop) : Prop :=
  boxC x1 σ fun v1 s2 =>
  loadC true 2 v1 s2 fun v3 s4 =>
  ACall P zcu [dm v3] s4 fun v5 s6 =>
  binC .neq .plain v5 (.d (.int .i64 0)) s6 fun v7 s8 =>
  condC v7 (Z (consO (some x0) (some [])) s8) (zh 0 v1 s8 fun v9 s10 =>
  loadC false 1 v9 s10 fun v11 s12 =>
  convC (.int .u64) v11 s12 fun v13 s14 =>
  zh 1 v1 s14 fun v15 s16 =>
  loadC false 1 v15 s16 fun v17 s18 =>
  convC (.int .u64) v17 s18 fun v19 s20 =>
  ACall P zaB [dm x0, dm v13] s20 fun v21 s22 =>
  keepO v15 s20 s22 ∧ (ACall P zaB [dm v21, dm v19] s22 fun v23 s24 =>
  Z (consO (some v23) (some [])) s24))
theorem zmz {P : Program} {x0 x1 : AV} {σ : List AObj} {Z : Option (List AV) → List AObj → Prop} (h : zim P x0 x1 σ Z) : awp P zfa.body (AtEnd fun fr s => Z (resAs fr s zfa.res) s) (zH 0 [x0, x1]) σ :=
  cast (by kernel_rfl) h
/-- bulla/bullaref01.PutBytes -/
def zgQ (P : Program) (x0 x1 : AV) (σ : List AObj) (Z : Option (List AV) → List AObj → Prop) : Prop :=
  lenC .sl x1 σ fun v1 s2 =>
  convC (.int .u64) v1 s2 fun v3 s4 =>
  ACall P zaB [dm x0, dm v3] s4 fun v5 s6 =>
  zt 1 1 v5 x1 s6 fun v7 s8 =>
  Z (consO (some v7) (some [])) s8
theorem zlu {P : Program} {x0 x1 : AV} {σ : List AObj} {Z : Option (List AV) → List AObj → Prop} (h : zgQ P x0 x1 σ Z) : awp P zej.body (AtEnd fun fr s => Z (resAs fr s zej.res) s) (zH 0 [x0, x1]) σ :=
  cast (by kernel_rfl) h
/-- bulla/bullaref11.num -/
def S_r11_num (P : Program) (x0 : AV) (σ : List AObj) (Z : Option (List AV) → List AObj → Prop) : Prop :=
  binC .geq .plain x0 (.d (.int .i64 0)) σ fun v1 s2 =>
  zf v1 true (fun k => k x0 s2) s2 (fun v3 s4 =>
  zf v1 true (fun k => binC .leq .plain v3 (.d (.int .i64 9007199254740992)) s4 k) s4 (fun v5 s6 =>
  pickC v1 v5 (.d (.bool false)) s6 fun v7 s8 =>
  Z (consO (some v7) (some [])) s8))
theorem s_r11_num {P : Program} {x0 : AV} {σ : List AObj} {Z : Option (List AV) → List AObj → Prop} (h : S_r11_num P x0 σ Z) : awp P zlm.body (AtEnd fun fr s => Z (resAs fr s zlm.res) s) (zH 0 [x0]) σ :=
  cast (by kernel_rfl) h
/-- bulla/bullaref11.put -/
def S_r11_put (P : Program) (x0 x1 : AV) (σ : List AObj) (Z : Option (List AV) → List AObj → Prop) : Prop :=
  maxC [x1, (.d (.int .i64 0))] σ fun v1 s2 =>
  convC (.int .u64) v1 s2 fun v3 s4 =>
  ACall P zaB [dm x0, dm v3] s4 fun v5 s6 =>
  Z (consO (some v5) (some [])) s6
theorem s_r11_put {P : Program} {x0 x1 : AV} {σ : List AObj} {Z : Option (List AV) → List AObj → Prop} (h : S_r11_put P x0 x1 σ Z) : awp P zll.body (AtEnd fun fr s => Z (resAs fr s zll.res) s) (zH 0 [x0, x1]) σ :=
  cast (by kernel_rfl) h
/-- bulla/request.Check -/
def zga (P : Program) (x0 : AV) (σ : List AObj) (Z : Option (List AV) → List AObj → Prop) : Prop :=
  boxC x0 σ fun v1 s2 =>
  zh 0 v1 s2 fun v3 s4 =>
  loadC false 1 v3 s4 fun v5 s6 =>
  binC .lss .plain v5 (.d (.int .i64 0)) s6 fun v7 s8 =>
  zf v7 false (fun k => zh 0 v1 s8 k) s8 (fun v9 s10 =>
  zf v7 false (fun k => loadC false 1 v9 s10 k) s10 (fun v11 s12 =>
  zf v7 false (fun k => binC .geq .plain v11 (.d (.int .i64 8)) s12 k) s12 (fun v13 s14 =>
  pickC v7 (.d (.bool true)) v13 s14 fun v15 s16 =>
  zf v15 false (fun k => zh 1 v1 s16 k) s16 (fun v17 s18 =>
  zf v15 false (fun k => loadC false 1 v17 s18 k) s18 (fun v19 s20 =>
  zf v15 false (fun k => binC .lss .plain v19 (.d (.int .i64 1)) s20 k) s20 (fun v21 s22 =>
  pickC v15 (.d (.bool true)) v21 s22 fun v23 s24 =>
  zf v23 false (fun k => zh 1 v1 s24 k) s24 (fun v25 s26 =>
  zf v23 false (fun k => loadC false 1 v25 s26 k) s26 (fun v27 s28 =>
  zf v23 false (fun k => binC .gtr .plain v27 (.d (.int .i64 9007199254740992)) s28 k) s28 (fun v29 s30 =>
  pickC v23 (.d (.bool true)) v29 s30 fun v31 s32 =>
  condC v31 (Z (consO (some (.d (.int .i64 80))) (some [])) s32) (zh 2 v1 s32 fun v33 s34 =>
  loadC true 5 v33 s34 fun v35 s36 =>
  ACall P zgu [dm v35] s36 fun v37 s38 =>
  Z (consO (some v37) (some [])) s38))))))))))
theorem zku {P : Program} {x0 : AV} {σ : List AObj} {Z : Option (List AV) → List AObj → Prop} (h : zga P x0 σ Z) : awp P zdQ.body (AtEnd fun fr s => Z (resAs fr s zdQ.res) s) (zH 0 [x0]) σ :=
  cast (by kernel_rfl) h
/-- bulla/request.CheckSign -/
def zdG (P : Program) (x0 : AV) (σ : List AObj) (Z : Option (List AV) → List AObj → Prop) : Prop :=
  boxC x0 σ fun v1 s2 =>
  zh 0 v1 s2 fun v3 s4 =>
  loadC false 1 v3 s4 fun v5 s6 =>
  binC .lss .plain v5 (.d (.int .i64 0)) s6 fun v7 s8 =>
  zf v7 false (fun k => zh 0 v1 s8 k) s8 (fun v9 s10 =>
  zf v7 false (fun k => loadC false 1 v9 s10 k) s10 (fun v11 s12 =>
  zf v7 false (fun k => binC .geq .plain v11 (.d (.int .i64 21)) s12 k) s12 (fun v13 s14 =>
  pickC v7 (.d (.bool true)) v13 s14 fun v15 s16 =>
  zf v15 false (fun k => zh 1 v1 s16 k) s16 (fun v17 s18 =>
  zf v15 false (fun k => loadC false 1 v17 s18 k) s18 (fun v19 s20 =>
  zf v15 false (fun k => binC .lss .plain v19 (.d (.int .i64 1)) s20 k) s20 (fun v21 s22 =>
  pickC v15 (.d (.bool true)) v21 s22 fun v23 s24 =>
  zf v23 false (fun k => zh 1 v1 s24 k) s24 (fun v25 s26 =>
  zf v23 false (fun k => loadC false 1 v25 s26 k) s26 (fun v27 s28 =>
  zf v23 false (fun k => binC .gtr .plain v27 (.d (.int .i64 9007199254740992)) s28 k) s28 (fun v29 s30 =>
  pickC v23 (.d (.bool true)) v29 s30 fun v31 s32 =>
  condC v31 (Z (consO (some (.d (.int .i64 81))) (some [])) s32) (Z (consO (some (.d (.int .i64 0))) (some [])) s32))))))))))
theorem zgX {P : Program} {x0 : AV} {σ : List AObj} {Z : Option (List AV) → List AObj → Prop} (h : zdG P x0 σ Z) : awp P zcf.body (AtEnd fun fr s => Z (resAs fr s zcf.res) s) (zH 0 [x0]) σ :=
  cast (by kernel_rfl) h
/-- slices.IndexFunc[bulla/api.Batch,bulla/api.Signed] -/
def zaK (P : Program) (x0 x1 : AV) (σ : List AObj) (Z : Option (List AV) → List AObj → Prop) : Prop :=
  lenC .sl x0 σ fun v1 s2 =>
  loopC [(.d (.int .i64 0))] s2 fun vs3 s4 again5 =>
  headC vs3 fun v6 vs7 =>
  binC .lss .plain v6 v1 s4 fun v8 s9 =>
  condC v8 (zy none 9 x0 v6 s9 fun v10 s11 =>
  loadC true 9 v10 s11 fun v12 s13 =>
  zY P x1 [dm v12] s13 fun v14 s15 =>
  condC v14 (Z (consO (some v6) (some [])) s15) (binC .add .plain v6 (.d (.int .i64 1)) s15 fun v16 s17 =>
  again5 [v16] s17)) (Z (consO (some (.d (.int .i64 (-1)))) (some [])) s9)
theorem zbA {P : Program} {x0 x1 : AV} {σ : List AObj} {Z : Option (List AV) → List AObj → Prop} (h : zaK P x0 x1 σ Z) : awp P zar.body (AtEnd fun fr s => Z (resAs fr s zar.res) s) (zH 0 [x0, x1]) σ :=
  cast (by kernel_rfl) h
/-- bulla/request.Bytes -/
def zgb (P : Program) (x0 : AV) (σ : List AObj) (Z : Option (List AV) → List AObj → Prop) : Prop :=
  boxC x0 σ fun v1 s2 =>
  loadC true 7 v1 s2 fun v3 s4 =>
  ACall P zcs [dm v3] s4 fun v5 s6 =>
  binC .neq .plain v5 (.d (.int .i64 0)) s6 fun v7 s8 =>
  condC v7 (Z (consO (some (.exact [])) (consO (some v5) (some []))) s8) (zh 0 v1 s8 fun v9 s10 =>
  loadC false 1 v9 s10 fun v11 s12 =>
  convC (.int .u64) v11 s12 fun v13 s14 =>
  zh 1 v1 s14 fun v15 s16 =>
  loadC false 1 v15 s16 fun v17 s18 =>
  convC (.int .u64) v17 s18 fun v19 s20 =>
  zh 2 v1 s20 fun v21 s22 =>
  loadC true 5 v21 s22 fun v23 s24 =>
  ACall P zan [dm (.exact []), dm v13] s24 fun v25 s26 =>
  keepO v15 s24 s26 ∧ (keepO v21 s24 s26 ∧ (ACall P zan [dm v25, dm v19] s26 fun v27 s28 =>
  keepO v21 s26 s28 ∧ (ACall P zmN [dm v27, dm v23] s28 fun v29 s30 =>
  Z (consO (some v29) (consO (some (.d (.int .i64 0))) (some []))) s30))))
theorem zkv {P : Program} {x0 : AV} {σ : List AObj} {Z : Option (List AV) → List AObj → Prop} (h : zgb P x0 σ Z) : awp P zdR.body (AtEnd fun fr s => Z (resAs fr s zdR.res) s) (zH 0 [x0]) σ :=
  cast (by kernel_rfl) h
/-- bulla/request.Key -/
def zil (P : Program) (x0 : AV) (σ : List AObj) (Z : Option (List AV) → List AObj → Prop) : Prop :=
  binC .lss .plain x0 (.d (.int .i64 0)) σ fun v1 s2 =>
  zf v1 false (fun k => k x0 s2) s2 (fun v3 s4 =>
  zf v1 false (fun k => binC .geq .plain v3 (.d (.int .i64 8)) s4 k) s4 (fun v5 s6 =>
  pickC v1 (.d (.bool true)) v5 s6 fun v7 s8 =>
  condC v7 (Z (consO (some (.d (.int .i64 (-1)))) (some [])) s8) (binC .add .plain (.d (.int .i64 13)) x0 s8 fun v9 s10 =>
  Z (consO (some v9) (some [])) s10)))
theorem zmy {P : Program} {x0 : AV} {σ : List AObj} {Z : Option (List AV) → List AObj → Prop} (h : zil P x0 σ Z) : awp P zeZ.body (AtEnd fun fr s => Z (resAs fr s zeZ.res) s) (zH 0 [x0]) σ :=
  cast (by kernel_rfl) h
/-- (*bulla/ideal.Ledger).Signed -/
def zcS (P : Program) (x0 x1 : AV) (σ : List AObj) (Z : Option (List AV) → List AObj → Prop) : Prop :=
  boxC x1 σ fun v1 s2 =>
  ACall P zaP [dm x0] s2 fun v3 s4 =>
  unC .not v3 s4 fun v5 s6 =>
  zf v5 true (fun k => k x0 s6) s6 (fun v7 s8 =>
  zf v5 true (fun k => nilC v7 s8 k) s8 (fun v9 s10 =>
  zf v5 true (fun k => zh 1 v9 s10 k) s10 (fun v11 s12 =>
  zf v5 true (fun k => loadC false 1 v11 s12 k) s12 (fun v13 s14 =>
  zf v5 true (fun k => loadC true 2 v1 s14 k) s14 (fun v15 s16 =>
  zf v5 true (fun k => mgetC (.ints 2) false (.d (.bool false)) v13 v15 s16 k) s16 (fun v17 s18 =>
  pickC v5 v17 (.d (.bool false)) s18 fun v19 s20 =>
  Z (consO (some v19) (some [])) s20))))))
theorem zfz {P : Program} {x0 x1 : AV} {σ : List AObj} {Z : Option (List AV) → List AObj → Prop} (h : zcS P x0 x1 σ Z) : awp P zbC.body (AtEnd fun fr s => Z (resAs fr s zbC.res) s) (zH 0 [x0, x1]) σ :=
  cast (by kernel_rfl) h
/-- bulla/codec.PutNum -/
def zgU (P : Program) (x0 x1 : AV) (σ : List AObj) (Z : Option (List AV) → List AObj → Prop) : Prop :=
  ACall P zfG [dm x1] σ fun v1 s2 =>
  zi v1 0 s2 fun v3 s4 =>
  zi v1 1 s4 fun v5 s6 =>
  zF [(.d (.int .u8 0)), (.d (.int .u8 0)), (.d (.int .u8 0)), (.d (.int .u8 0)), (.d (.int .u8 0)), (.d (.int .u8 0)), (.d (.int .u8 0)), (.d (.int .u8 0)), (.d (.int .u8 0)), (.d (.int .u8 0))] s6 fun v7 s8 =>
  zo 10 v7 v3 s8 fun _ s10 =>
  slcC (.arr 10 1) v7 none (some v5) none s10 fun v11 s12 =>
  ACall P zbm [dm x0] s12 fun v13 s14 =>
  zt 1 1 v13 v11 s14 fun v15 s16 =>
  Z (consO (some v15) (some [])) s16
theorem zly {P : Program} {x0 x1 : AV} {σ : List AObj} {Z : Option (List AV) → List AObj → Prop} (h : zgU P x0 x1 σ Z) : awp P zen.body (AtEnd fun fr s => Z (resAs fr s zen.res) s) (zH 0 [x0, x1]) σ :=
  cast (by kernel_rfl) h
/-- bulla/request.PutSign -/
def zeB (P : Program) (x0 x1 : AV) (σ : List AObj) (Z : Option (List AV) → List AObj → Prop) : Prop :=
  boxC x1 σ fun v1 s2 =>
  loadC true 2 v1 s2 fun v3 s4 =>
  ACall P zbn [dm v3] s4 fun v5 s6 =>
  binC .neq .plain v5 (.d (.int .i64 0)) s6 fun v7 s8 =>
  condC v7 (ACall P zbr [dm x0] s8 fun v9 s10 =>
  Z (consO (some v9) (some [])) s10) (zh 0 v1 s8 fun v11 s12 =>
  loadC false 1 v11 s12 fun v13 s14 =>
  convC (.int .u64) v13 s14 fun v15 s16 =>
  zh 1 v1 s16 fun v17 s18 =>
  loadC false 1 v17 s18 fun v19 s20 =>
  convC (.int .u64) v19 s20 fun v21 s22 =>
  ACall P zan [dm x0, dm v15] s22 fun v23 s24 =>
  keepO v17 s22 s24 ∧ (ACall P zan [dm v23, dm v21] s24 fun v25 s26 =>
  Z (consO (some v25) (some [])) s26))
theorem zit {P : Program} {x0 x1 : AV} {σ : List AObj} {Z : Option (List AV) → List AObj → Prop} (h : zeB P x0 x1 σ Z) : awp P zcJ.body (AtEnd fun fr s => Z (resAs fr s zcJ.res) s) (zH 0 [x0, x1]) σ :=
  cast (by kernel_rfl) h
/-- bulla/codec.PutBytes -/
def zfp (P : Program) (x0 x1 : AV) (σ : List AObj) (Z : Option (List AV) → List AObj → Prop) : Prop :=
  lenC .sl x1 σ fun v1 s2 =>
  convC (.int .u64) v1 s2 fun v3 s4 =>
  ACall P zan [dm x0, dm v3] s4 fun v5 s6 =>
  zt 1 1 v5 x1 s6 fun v7 s8 =>
  Z (consO (some v7) (some [])) s8
theorem zjV {P : Program} {x0 x1 : AV} {σ : List AObj} {Z : Option (List AV) → List AObj → Prop} (h : zfp P x0 x1 σ Z) : awp P zdh.body (AtEnd fun fr s => Z (resAs fr s zdh.res) s) (zH 0 [x0, x1]) σ :=
  cast (by kernel_rfl) h
/-- bulla/auth.put -/
def zmu (P : Program) (x0 x1 : AV) (σ : List AObj) (Z : Option (List AV) → List AObj → Prop) : Prop :=
  lenC .sl x1 σ fun v1 s2 =>
  loopC [x0, (.d (.int .i64 0))] s2 fun vs3 s4 again5 =>
  headC vs3 fun v6 vs7 =>
  headC vs7 fun v8 vs9 =>
  binC .lss .plain v8 v1 s4 fun v10 s11 =>
  condC v10 (zy none 1 x1 v8 s11 fun v12 s13 =>
  loadC false 1 v12 s13 fun v14 s15 =>
  maxC [(.d (.int .i64 0)), v14] s15 fun v16 s17 =>
  convC (.int .u64) v16 s17 fun v18 s19 =>
  ACall P zan [dm v6, dm v18] s19 fun v20 s21 =>
  binC .add .plain v8 (.d (.int .i64 1)) s21 fun v22 s23 =>
  again5 [v20, v22] s23) (Z (consO (some v6) (some [])) s11)
theorem s_auth_put {P : Program} {x0 x1 : AV} {σ : List AObj} {Z : Option (List AV) → List AObj → Prop} (h : zmu P x0 x1 σ Z) : awp P zjm.body (AtEnd fun fr s => Z (resAs fr s zjm.res) s) (zH 0 [x0, x1]) σ :=
  cast (by kernel_rfl) h
/-- bulla/bullaref06.Check -/
def zli (P : Program) (x0 : AV) (σ : List AObj) (Z : Option (List AV) → List AObj → Prop) : Prop :=
  boxC x0 σ fun v1 s2 =>
  zh 0 v1 s2 fun v3 s4 =>
  loadC false 1 v3 s4 fun v5 s6 =>
  ACall P zdW [dm v5] s6 fun v7 s8 =>
  zi v7 0 s8 fun v9 s10 =>
  zi v7 1 s10 fun v11 s12 =>
  zi v7 2 s12 fun v13 s14 =>
  zi v7 3 s14 fun v15 s16 =>
  zh 0 v1 s16 fun v17 s18 =>
  loadC false 1 v17 s18 fun v19 s20 =>
  binC .lss .plain v19 (.d (.int .i64 0)) s20 fun v21 s22 =>
  zf v21 false (fun k => zh 0 v1 s22 k) s22 (fun v23 s24 =>
  zf v21 false (fun k => loadC false 1 v23 s24 k) s24 (fun v25 s26 =>
  zf v21 false (fun k => binC .gtr .plain v25 (.d (.int .i64 4)) s26 k) s26 (fun v27 s28 =>
  pickC v21 (.d (.bool true)) v27 s28 fun v29 s30 =>
  zf v29 false (fun k => k v9 s30) s30 (fun v31 s32 =>
  zf v29 false (fun k => unC .not v31 s32 k) s32 (fun v33 s34 =>
  zf v29 false (fun k => k v33 s34) s34 (fun v35 s36 =>
  zf v35 true (fun k => zh 1 v1 s36 k) s36 (fun v37 s38 =>
  zf v35 true (fun k => loadC false 1 v37 s38 k) s38 (fun v39 s40 =>
  zf v35 true (fun k => binC .neq .plain v39 (.d (.str [])) s40 k) s40 (fun v41 s42 =>
  zf v29 false (fun k => pickC v35 v41 (.d (.bool false)) s42 k) s42 (fun v43 s44 =>
  pickC v29 (.d (.bool true)) v43 s44 fun v45 s46 =>
  zf v45 false (fun k => k v11 s46) s46 (fun v47 s48 =>
  zf v45 false (fun k => unC .not v47 s48 k) s48 (fun v49 s50 =>
  zf v45 false (fun k => k v49 s50) s50 (fun v51 s52 =>
  zf v51 true (fun k => zh 2 v1 s52 k) s52 (fun v53 s54 =>
  zf v51 true (fun k => loadC false 1 v53 s54 k) s54 (fun v55 s56 =>
  zf v51 true (fun k => binC .neq .plain v55 (.d (.str [])) s56 k) s56 (fun v57 s58 =>
  zf v45 false (fun k => pickC v51 v57 (.d (.bool false)) s58 k) s58 (fun v59 s60 =>
  pickC v45 (.d (.bool true)) v59 s60 fun v61 s62 =>
  zf v61 false (fun k => k v13 s62) s62 (fun v63 s64 =>
  zf v61 false (fun k => unC .not v63 s64 k) s64 (fun v65 s66 =>
  zf v61 false (fun k => k v65 s66) s66 (fun v67 s68 =>
  zf v67 true (fun k => zh 3 v1 s68 k) s68 (fun v69 s70 =>
  zf v67 true (fun k => loadC false 1 v69 s70 k) s70 (fun v71 s72 =>
  zf v67 true (fun k => binC .neq .plain v71 (.d (.int .i64 0)) s72 k) s72 (fun v73 s74 =>
  zf v61 false (fun k => pickC v67 v73 (.d (.bool false)) s74 k) s74 (fun v75 s76 =>
  pickC v61 (.d (.bool true)) v75 s76 fun v77 s78 =>
  zf v77 false (fun k => k v15 s78) s78 (fun v79 s80 =>
  zf v77 false (fun k => unC .not v79 s80 k) s80 (fun v81 s82 =>
  zf v77 false (fun k => k v81 s82) s82 (fun v83 s84 =>
  zf v83 true (fun k => zh 4 v1 s84 k) s84 (fun v85 s86 =>
  zf v83 true (fun k => loadC false 1 v85 s86 k) s86 (fun v87 s88 =>
  zf v83 true (fun k => lenC .sl v87 s88 k) s88 (fun v89 s90 =>
  zf v83 true (fun k => binC .gtr .plain v89 (.d (.int .i64 0)) s90 k) s90 (fun v91 s92 =>
  zf v77 false (fun k => pickC v83 v91 (.d (.bool false)) s92 k) s92 (fun v93 s94 =>
  pickC v77 (.d (.bool true)) v93 s94 fun v95 s96 =>
  condC v95 (Z (consO (some (.d (.int .i64 60))) (some [])) s96) (zf v9 true (fun k => zh 1 v1 s96 k) s96 (fun v97 s98 =>
  zf v9 true (fun k => loadC false 1 v97 s98 k) s98 (fun v99 s100 =>
  zf v9 true (fun k => ACall P zgt [dm v99] s100 k) s100 (fun v101 s102 =>
  zf v9 true (fun k => unC .not v101 s102 k) s102 (fun v103 s104 =>
  pickC v9 v103 (.d (.bool false)) s104 fun v105 s106 =>
  zf v105 false (fun k => k v11 s106) s106 (fun v107 s108 =>
  zf v105 false (fun k => k v107 s108) s108 (fun v109 s110 =>
  zf v109 true (fun k => zh 2 v1 s110 k) s110 (fun v111 s112 =>
  zf v109 true (fun k => loadC false 1 v111 s112 k) s112 (fun v113 s114 =>
  zf v109 true (fun k => ACall P zgt [dm v113] s114 k) s114 (fun v115 s116 =>
  zf v109 true (fun k => unC .not v115 s116 k) s116 (fun v117 s118 =>
  zf v105 false (fun k => pickC v109 v117 (.d (.bool false)) s118 k) s118 (fun v119 s120 =>
  pickC v105 (.d (.bool true)) v119 s120 fun v121 s122 =>
  condC v121 (Z (consO (some (.d (.int .i64 61))) (some [])) s122) (zf v15 true (fun k => zh 4 v1 s122 k) s122 (fun v123 s124 =>
  zf v15 true (fun k => loadC false 1 v123 s124 k) s124 (fun v125 s126 =>
  zf v15 true (fun k => lenC .sl v125 s126 k) s126 (fun v127 s128 =>
  zf v15 true (fun k => binC .lss .plain v127 (.d (.int .i64 1)) s128 k) s128 (fun v129 s130 =>
  zf v15 true (fun k => k v129 s130) s130 (fun v131 s132 =>
  zf v131 false (fun k => zh 4 v1 s132 k) s132 (fun v133 s134 =>
  zf v131 false (fun k => loadC false 1 v133 s134 k) s134 (fun v135 s136 =>
  zf v131 false (fun k => lenC .sl v135 s136 k) s136 (fun v137 s138 =>
  zf v131 false (fun k => binC .gtr .plain v137 (.d (.int .i64 4)) s138 k) s138 (fun v139 s140 =>
  zf v15 true (fun k => pickC v131 (.d (.bool true)) v139 s140 k) s140 (fun v141 s142 =>
  pickC v15 v141 (.d (.bool false)) s142 fun v143 s144 =>
  condC v143 (Z (consO (some (.d (.int .i64 62))) (some [])) s144) (loopC [(.d (.int .i64 0))] s144 fun vs145 s146 again147 =>
  headC vs145 fun v148 vs149 =>
  zh 4 v1 s146 fun v150 s151 =>
  loadC false 1 v150 s151 fun v152 s153 =>
  lenC .sl v152 s153 fun v154 s155 =>
  binC .lss .plain v148 v154 s155 fun v156 s157 =>
  condC v156 (zh 4 v1 s157 fun v158 s159 =>
  loadC false 1 v158 s159 fun v160 s161 =>
  zy none 1 v160 v148 s161 fun v162 s163 =>
  loadC false 1 v162 s163 fun v164 s165 =>
  lenC .sl v164 s165 fun v166 s167 =>
  binC .gtr .plain v166 (.d (.int .i64 64)) s167 fun v168 s169 =>
  condC v168 (Z (consO (some (.d (.int .i64 62))) (some [])) s169) (binC .add .plain v148 (.d (.int .i64 1)) s169 fun v170 s171 =>
  again147 [v170] s171)) (zh 3 v1 s157 fun v172 s173 =>
  loadC false 1 v172 s173 fun v174 s175 =>
  binC .lss .plain v174 (.d (.int .i64 0)) s175 fun v176 s177 =>
  zf v176 false (fun k => zh 3 v1 s177 k) s177 (fun v178 s179 =>
  zf v176 false (fun k => loadC false 1 v178 s179 k) s179 (fun v180 s181 =>
  zf v176 false (fun k => binC .gtr .plain v180 (.d (.int .i64 9007199254740992)) s181 k) s181 (fun v182 s183 =>
  pickC v176 (.d (.bool true)) v182 s183 fun v184 s185 =>
  condC v184 (Z (consO (some (.d (.int .i64 60))) (some [])) s185) (Z (consO (some (.d (.int .i64 0))) (some [])) s185)))))))))))))))))))))))))))))))))))))))))))))))))))))))))))))
theorem s_r06_Check {P : Program} {x0 : AV} {σ : List AObj} {Z : Option (List AV) → List AObj → Prop} (h : zli P x0 σ Z) : awp P zhx.body (AtEnd fun fr s => Z (resAs fr s zhx.res) s) (zH 0 [x0]) σ :=
  cast (by kernel_rfl) h
/-- bulla/bullaref06.fields -/
def zjG (P : Program) (x0 : AV) (σ : List AObj) (Z : Option (List AV) → List AObj → Prop) : Prop :=
  binC .eql .plain x0 (.d (.int .i64 1)) σ fun v1 s2 =>
  condC v1 (Z (consO (some (.d (.bool true))) (consO (some (.d (.bool false))) (consO (some (.d (.bool false))) (consO (some (.d (.bool false))) (some []))))) s2) (binC .eql .plain x0 (.d (.int .i64 2)) s2 fun v3 s4 =>
  condC v3 (Z (consO (some (.d (.bool true))) (consO (some (.d (.bool false))) (consO (some (.d (.bool false))) (consO (some (.d (.bool true))) (some []))))) s4) (binC .eql .plain x0 (.d (.int .i64 3)) s4 fun v5 s6 =>
  condC v5 (Z (consO (some (.d (.bool true))) (consO (some (.d (.bool true))) (consO (some (.d (.bool true))) (consO (some (.d (.bool false))) (some []))))) s6) (binC .eql .plain x0 (.d (.int .i64 4)) s6 fun v7 s8 =>
  condC v7 (Z (consO (some (.d (.bool true))) (consO (some (.d (.bool false))) (consO (some (.d (.bool true))) (consO (some (.d (.bool false))) (some []))))) s8) (Z (consO (some (.d (.bool false))) (consO (some (.d (.bool false))) (consO (some (.d (.bool false))) (consO (some (.d (.bool false))) (some []))))) s8))))
theorem s_r06_fields {P : Program} {x0 : AV} {σ : List AObj} {Z : Option (List AV) → List AObj → Prop} (h : zjG P x0 σ Z) : awp P zgi.body (AtEnd fun fr s => Z (resAs fr s zgi.res) s) (zH 0 [x0]) σ :=
  cast (by kernel_rfl) h
/-- bulla/bullaref02.Same -/
def zmp (P : Program) (x0 x1 : AV) (σ : List AObj) (Z : Option (List AV) → List AObj → Prop) : Prop :=
  convC .toStr x0 σ fun v1 s2 =>
  convC .toStr x1 s2 fun v3 s4 =>
  binC .eql .plain v1 v3 s4 fun v5 s6 =>
  Z (consO (some v5) (some [])) s6
theorem s_r02_Same {P : Program} {x0 x1 : AV} {σ : List AObj} {Z : Option (List AV) → List AObj → Prop} (h : zmp P x0 x1 σ Z) : awp P zjh.body (AtEnd fun fr s => Z (resAs fr s zjh.res) s) (zH 0 [x0, x1]) σ :=
  cast (by kernel_rfl) h
end Go.Proofs.Ytcappjcojggehaa
