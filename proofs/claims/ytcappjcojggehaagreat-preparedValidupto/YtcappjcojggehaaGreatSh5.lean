/- The conditions of each function, its slots as variables, and that the logic's conditions are these. Printed by program. -/
import Derived.Test.YtcappjcojggehaaGreatAf5
set_option linter.all false
set_option maxRecDepth 100000
set_option linter.unusedVariables false
namespace Go.Proofs.YtcappjcojggehaaGreat
open Go.AW
/-- bulla/op.Check -/
def znx (P : Program) (x0 : AV) (σ : List AObj) (Z : Option (List AV) → List AObj → Prop) : Prop :=
  boxC x0 σ fun v1 s2 =>
  loadC true 5 v1 s2 fun v3 s4 =>
  ACall P zlx [dm v3] s4 fun v5 s6 =>
  zi v5 0 s6 fun v7 s8 =>
  zi v5 1 s8 fun v9 s10 =>
  zH [(.d (.int .i64 0)), (.d (.str [])), (.d (.str [])), (.d (.int .i64 0)), (.exact [])] s10 fun v11 s12 =>
  zp 5 v11 v7 s12 fun _ s14 =>
  unC .not v9 s14 fun v15 s16 =>
  zc v15 false (fun k => loadC true 5 v1 s16 k) s16 (fun v17 s18 =>
  zc v15 false (fun k => loadC true 5 v11 s18 k) s18 (fun v19 s20 =>
  zc v15 false (fun k => ACall P zly [dm v17, dm v19] s20 k) s20 (fun v21 s22 =>
  zc v15 false (fun k => unC .not v21 s22 k) s22 (fun v23 s24 =>
  pickC v15 (.d (.bool true)) v23 s24 fun v25 s26 =>
  condC v25 (Z (consO (some (.d (.int .i64 60))) (some [])) s26) (zh 0 v1 s26 fun v27 s28 =>
  loadC false 1 v27 s28 fun v29 s30 =>
  binC .neq .plain v29 (.d (.int .i64 0)) s30 fun v31 s32 =>
  zc v31 true (fun k => zh 1 v1 s32 k) s32 (fun v33 s34 =>
  zc v31 true (fun k => loadC false 1 v33 s34 k) s34 (fun v35 s36 =>
  zc v31 true (fun k => ACall P zir [dm v35] s36 k) s36 (fun v37 s38 =>
  zc v31 true (fun k => unC .not v37 s38 k) s38 (fun v39 s40 =>
  pickC v31 v39 (.d (.bool false)) s40 fun v41 s42 =>
  condC v41 (Z (consO (some (.d (.int .i64 61))) (some [])) s42) (zh 0 v1 s42 fun v43 s44 =>
  loadC false 1 v43 s44 fun v45 s46 =>
  binC .eql .plain v45 (.d (.int .i64 3)) s46 fun v47 s48 =>
  zc v47 true (fun k => zh 2 v1 s48 k) s48 (fun v49 s50 =>
  zc v47 true (fun k => loadC false 1 v49 s50 k) s50 (fun v51 s52 =>
  zc v47 true (fun k => ACall P zir [dm v51] s52 k) s52 (fun v53 s54 =>
  zc v47 true (fun k => unC .not v53 s54 k) s54 (fun v55 s56 =>
  pickC v47 v55 (.d (.bool false)) s56 fun v57 s58 =>
  condC v57 (Z (consO (some (.d (.int .i64 61))) (some [])) s58) (zh 0 v1 s58 fun v59 s60 =>
  loadC false 1 v59 s60 fun v61 s62 =>
  binC .eql .plain v61 (.d (.int .i64 2)) s62 fun v63 s64 =>
  zc v63 true (fun k => zh 4 v1 s64 k) s64 (fun v65 s66 =>
  zc v63 true (fun k => loadC false 1 v65 s66 k) s66 (fun v67 s68 =>
  zc v63 true (fun k => lenC .sl v67 s68 k) s68 (fun v69 s70 =>
  zc v63 true (fun k => binC .lss .plain v69 (.d (.int .i64 1)) s70 k) s70 (fun v71 s72 =>
  zc v63 true (fun k => k v71 s72) s72 (fun v73 s74 =>
  zc v73 false (fun k => zh 4 v1 s74 k) s74 (fun v75 s76 =>
  zc v73 false (fun k => loadC false 1 v75 s76 k) s76 (fun v77 s78 =>
  zc v73 false (fun k => lenC .sl v77 s78 k) s78 (fun v79 s80 =>
  zc v73 false (fun k => binC .gtr .plain v79 (.d (.int .i64 4)) s80 k) s80 (fun v81 s82 =>
  zc v63 true (fun k => pickC v73 (.d (.bool true)) v81 s82 k) s82 (fun v83 s84 =>
  zc v63 true (fun k => k v83 s84) s84 (fun v85 s86 =>
  zc v85 false (fun k => zh 4 v1 s86 k) s86 (fun v87 s88 =>
  zc v85 false (fun k => loadC false 1 v87 s88 k) s88 (fun v89 s90 =>
  zc v85 false (fun k => k (.fn (.func zem) [] []) s90) s90 (fun v91 s92 =>
  zc v85 false (fun k => ACall P zak [dm v89, dm v91] s92 k) s92 (fun v93 s94 =>
  zc v63 true (fun k => pickC v85 (.d (.bool true)) v93 s94 k) s94 (fun v95 s96 =>
  pickC v63 v95 (.d (.bool false)) s96 fun v97 s98 =>
  condC v97 (Z (consO (some (.d (.int .i64 62))) (some [])) s98) (zh 3 v1 s98 fun v99 s100 =>
  loadC false 1 v99 s100 fun v101 s102 =>
  binC .lss .plain v101 (.d (.int .i64 0)) s102 fun v103 s104 =>
  zc v103 false (fun k => zh 3 v1 s104 k) s104 (fun v105 s106 =>
  zc v103 false (fun k => loadC false 1 v105 s106 k) s106 (fun v107 s108 =>
  zc v103 false (fun k => binC .gtr .plain v107 (.d (.int .i64 9007199254740992)) s108 k) s108 (fun v109 s110 =>
  pickC v103 (.d (.bool true)) v109 s110 fun v111 s112 =>
  condC v111 (Z (consO (some (.d (.int .i64 60))) (some [])) s112) (Z (consO (some (.d (.int .i64 0))) (some [])) s112))))))))))))))))))))))))))))))))))))
theorem s_op_Check {P : Program} {x0 : AV} {σ : List AObj} {Z : Option (List AV) → List AObj → Prop} (h : znx P x0 σ Z) : awp P zkc.body (AtEnd fun fr s => Z (resAs fr s zkc.res) s) (zB 0 [x0]) σ :=
  cast (by kernel_rfl) h
/-- bulla/op.Put -/
def S_op_Put (P : Program) (x0 x1 : AV) (σ : List AObj) (Z : Option (List AV) → List AObj → Prop) : Prop :=
  boxC x1 σ fun v1 s2 =>
  ACall P zbr [dm x0] s2 fun v3 s4 =>
  loadC true 5 v1 s4 fun v5 s6 =>
  ACall P zgT [dm v5] s6 fun v7 s8 =>
  binC .neq .plain v7 (.d (.int .i64 0)) s8 fun v9 s10 =>
  condC v9 (Z (consO (some v3) (some [])) s10) (zh 0 v1 s10 fun v11 s12 =>
  loadC false 1 v11 s12 fun v13 s14 =>
  convC (.int .u64) v13 s14 fun v15 s16 =>
  ACall P zao [dm v3, dm v15] s16 fun v17 s18 =>
  (fun (k19 : AV → List AObj → Prop) => zh 0 v1 s18 fun v92 s93 =>
  loadC false 1 v92 s93 fun v94 s95 =>
  binC .neq .plain v94 (.d (.int .i64 0)) s95 fun v96 s97 =>
  condC v96 (zh 1 v1 s97 fun v98 s99 =>
  loadC false 1 v98 s99 fun v100 s101 =>
  convC .toBytes v100 s101 fun v102 s103 =>
  ACall P zaW [dm v17, dm v102] s103 fun v104 s105 =>
  k19 v104 s105) (k19 v17 s97))
  (fun v20 s21 => (fun (k22 : AV → List AObj → Prop) => zh 0 v1 s21 fun v25 s26 =>
  loadC false 1 v25 s26 fun v27 s28 =>
  binC .eql .plain v27 (.d (.int .i64 2)) s28 fun v29 s30 =>
  condC v29 (zh 4 v1 s30 fun v31 s32 =>
  loadC false 1 v31 s32 fun v33 s34 =>
  lenC .sl v33 s34 fun v35 s36 =>
  convC (.int .u64) v35 s36 fun v37 s38 =>
  ACall P zao [dm v20, dm v37] s38 fun v39 s40 =>
  zh 4 v1 s40 fun v41 s42 =>
  loadC false 1 v41 s42 fun v43 s44 =>
  lenC .sl v43 s44 fun v45 s46 =>
  loopC [v39, (.d (.int .i64 0))] s46 fun vs47 s48 again49 =>
  headC vs47 fun v50 vs51 =>
  headC vs51 fun v52 vs53 =>
  binC .lss .plain v52 v45 s48 fun v54 s55 =>
  condC v54 (zr none 1 v43 v52 s55 fun v56 s57 =>
  loadC false 1 v56 s57 fun v58 s59 =>
  ACall P zaW [dm v50, dm v58] s59 fun v60 s61 =>
  binC .add .plain v52 (.d (.int .i64 1)) s61 fun v62 s63 =>
  again49 [v60, v62] s63) (k22 v50 s55)) (binC .eql .plain v27 (.d (.int .i64 3)) s30 fun v64 s65 =>
  condC v64 (zh 2 v1 s65 fun v66 s67 =>
  loadC false 1 v66 s67 fun v68 s69 =>
  convC .toBytes v68 s69 fun v70 s71 =>
  zh 3 v1 s71 fun v72 s73 =>
  loadC false 1 v72 s73 fun v74 s75 =>
  convC (.int .u64) v74 s75 fun v76 s77 =>
  ACall P zaW [dm v20, dm v70] s77 fun v78 s79 =>
  keepO v72 s77 s79 ∧ (ACall P zao [dm v78, dm v76] s79 fun v80 s81 =>
  k22 v80 s81)) (binC .eql .plain v27 (.d (.int .i64 4)) s65 fun v82 s83 =>
  condC v82 (zh 3 v1 s83 fun v84 s85 =>
  loadC false 1 v84 s85 fun v86 s87 =>
  convC (.int .u64) v86 s87 fun v88 s89 =>
  ACall P zao [dm v20, dm v88] s89 fun v90 s91 =>
  k22 v90 s91) (k22 v20 s83))))
  (fun v23 s24 => Z (consO (some v23) (some [])) s24)))
theorem s_op_Put {P : Program} {x0 x1 : AV} {σ : List AObj} {Z : Option (List AV) → List AObj → Prop} (h : S_op_Put P x0 x1 σ Z) : awp P zoy.body (AtEnd fun fr s => Z (resAs fr s zoy.res) s) (zB 0 [x0, x1]) σ :=
  cast (by kernel_rfl) h
/-- bulla/codec.form -/
def zkB (P : Program) (x0 : AV) (σ : List AObj) (Z : Option (List AV) → List AObj → Prop) : Prop :=
  zH [(.d (.int .u8 0)), (.d (.int .u8 0)), (.d (.int .u8 0)), (.d (.int .u8 0)), (.d (.int .u8 0)), (.d (.int .u8 0)), (.d (.int .u8 0)), (.d (.int .u8 0)), (.d (.int .u8 0)), (.d (.int .u8 0))] σ fun v1 s2 =>
  zH [(.d (.int .u8 0)), (.d (.int .u8 0)), (.d (.int .u8 0)), (.d (.int .u8 0)), (.d (.int .u8 0)), (.d (.int .u8 0)), (.d (.int .u8 0)), (.d (.int .u8 0)), (.d (.int .u8 0)), (.d (.int .u8 0))] s2 fun v3 s4 =>
  loopC [x0, (.d (.int .i64 0))] s4 fun vs5 s6 again7 =>
  headC vs5 fun v8 vs9 =>
  headC vs9 fun v10 vs11 =>
  binC .gtr .plain v8 (.d (.int .u64 127)) s6 fun v12 s13 =>
  condC v12 (convC (.int .u8) v8 s13 fun v14 s15 =>
  binC .or .plain v14 (.d (.int .u8 128)) s15 fun v16 s17 =>
  zr (some 10) 1 v3 v10 s17 fun v18 s19 =>
  zp 1 v18 v16 s19 fun _ s21 =>
  binC .shr .plain v8 (.d (.int .u64 7)) s21 fun v22 s23 =>
  binC .add .plain v10 (.d (.int .i64 1)) s23 fun v24 s25 =>
  again7 [v22, v24] s25) (convC (.int .u8) v8 s13 fun v26 s27 =>
  zr (some 10) 1 v3 v10 s27 fun v28 s29 =>
  zp 1 v28 v26 s29 fun _ s31 =>
  loadC true 10 v3 s31 fun v32 s33 =>
  binC .add .plain v10 (.d (.int .i64 1)) s33 fun v34 s35 =>
  zp 10 v1 v32 s35 fun _ s37 =>
  Z (consO (cellA v1 s37 true 10) (consO (some v34) (some []))) s37)
theorem s_codec_form {P : Program} {x0 : AV} {σ : List AObj} {Z : Option (List AV) → List AObj → Prop} (h : zkB P x0 σ Z) : awp P zgL.body (AtEnd fun fr s => Z (resAs fr s zgL.res) s) (zB 0 [x0]) σ :=
  cast (by kernel_rfl) h
/-- slices.Clip[[]byte,byte] -/
def zcB (P : Program) (x0 : AV) (σ : List AObj) (Z : Option (List AV) → List AObj → Prop) : Prop :=
  lenC .sl x0 σ fun v1 s2 =>
  lenC .sl x0 s2 fun v3 s4 =>
  slcC (.sl 1) x0 none (some v1) (some v3) s4 fun v5 s6 =>
  Z (consO (some v5) (some [])) s6
theorem zfa {P : Program} {x0 : AV} {σ : List AObj} {Z : Option (List AV) → List AObj → Prop} (h : zcB P x0 σ Z) : awp P zbt.body (AtEnd fun fr s => Z (resAs fr s zbt.res) s) (zB 0 [x0]) σ :=
  cast (by kernel_rfl) h
/-- bulla/bullaref06.Name -/
def znt (P : Program) (x0 : AV) (σ : List AObj) (Z : Option (List AV) → List AObj → Prop) : Prop :=
  ACall P zhH [dm x0] σ fun v1 s2 =>
  binC .gtr .plain v1 (.d (.int .i64 0)) s2 fun v3 s4 =>
  Z (consO (some v3) (some [])) s4
theorem s_r06_Name {P : Program} {x0 : AV} {σ : List AObj} {Z : Option (List AV) → List AObj → Prop} (h : znt P x0 σ Z) : awp P zjY.body (AtEnd fun fr s => Z (resAs fr s zjY.res) s) (zB 0 [x0]) σ :=
  cast (by kernel_rfl) h
/-- bulla/op.only -/
def S_op_only (P : Program) (x0 : AV) (σ : List AObj) (Z : Option (List AV) → List AObj → Prop) : Prop :=
  boxC x0 σ fun v1 s2 =>
  zH [(.d (.int .i64 0)), (.d (.str [])), (.d (.str [])), (.d (.int .i64 0)), (.exact [])] s2 fun v3 s4 =>
  zh 0 v1 s4 fun v5 s6 =>
  loadC false 1 v5 s6 fun v7 s8 =>
  zG (fillV [(.d (.int .i64 0)), (.d (.str [])), (.d (.str [])), (.d (.int .i64 0)), (.exact [])] [(0, 1, v7)]) s8 fun v9 s10 =>
  zH [(.d (.int .i64 0)), (.d (.str [])), (.d (.str [])), (.d (.int .i64 0)), (.exact [])] s10 fun v11 s12 =>
  zp 5 v11 v9 s12 fun _ s14 =>
  (fun (k15 : List AObj → Prop) => zh 0 v1 s14 fun v21 s22 =>
  loadC false 1 v21 s22 fun v23 s24 =>
  binC .eql .plain v23 (.d (.int .i64 0)) s24 fun v25 s26 =>
  condC v25 (k15 s26) (binC .eql .plain v23 (.d (.int .i64 1)) s26 fun v27 s28 =>
  condC v27 (zh 1 v1 s28 fun v29 s30 =>
  loadC false 1 v29 s30 fun v31 s32 =>
  zh 1 v11 s32 fun v33 s34 =>
  zp 1 v33 v31 s34 fun _ s36 =>
  k15 s36) (binC .eql .plain v23 (.d (.int .i64 2)) s28 fun v37 s38 =>
  condC v37 (zh 1 v1 s38 fun v39 s40 =>
  loadC false 1 v39 s40 fun v41 s42 =>
  zh 4 v1 s42 fun v43 s44 =>
  loadC false 1 v43 s44 fun v45 s46 =>
  zh 1 v11 s46 fun v47 s48 =>
  zp 1 v47 v41 s48 fun _ s50 =>
  keepO v43 s48 s50 ∧ (zh 4 v11 s50 fun v51 s52 =>
  zp 1 v51 v45 s52 fun _ s54 =>
  k15 s54)) (binC .eql .plain v23 (.d (.int .i64 3)) s38 fun v55 s56 =>
  condC v55 (zh 1 v1 s56 fun v57 s58 =>
  loadC false 1 v57 s58 fun v59 s60 =>
  zh 2 v1 s60 fun v61 s62 =>
  loadC false 1 v61 s62 fun v63 s64 =>
  zh 3 v1 s64 fun v65 s66 =>
  loadC false 1 v65 s66 fun v67 s68 =>
  zh 1 v11 s68 fun v69 s70 =>
  zp 1 v69 v59 s70 fun _ s72 =>
  keepO v61 s70 s72 ∧ (keepO v65 s70 s72 ∧ (zh 2 v11 s72 fun v73 s74 =>
  zp 1 v73 v63 s74 fun _ s76 =>
  keepO v65 s74 s76 ∧ (zh 3 v11 s76 fun v77 s78 =>
  zp 1 v77 v67 s78 fun _ s80 =>
  k15 s80)))) (binC .eql .plain v23 (.d (.int .i64 4)) s56 fun v81 s82 =>
  condC v81 (zh 1 v1 s82 fun v83 s84 =>
  loadC false 1 v83 s84 fun v85 s86 =>
  zh 3 v1 s86 fun v87 s88 =>
  loadC false 1 v87 s88 fun v89 s90 =>
  zh 1 v11 s90 fun v91 s92 =>
  zp 1 v91 v85 s92 fun _ s94 =>
  keepO v87 s92 s94 ∧ (zh 3 v11 s94 fun v95 s96 =>
  zp 1 v95 v89 s96 fun _ s98 =>
  k15 s98)) (loadC true 5 v11 s82 fun v99 s100 =>
  zp 5 v3 v99 s100 fun _ s102 =>
  Z (consO (cellA v3 s102 true 5) (consO (some (.d (.bool false))) (some []))) s102))))))
  (fun  s16 => loadC true 5 v11 s16 fun v17 s18 =>
  zp 5 v3 v17 s18 fun _ s20 =>
  Z (consO (cellA v3 s20 true 5) (consO (some (.d (.bool true))) (some []))) s20)
theorem s_op_only {P : Program} {x0 : AV} {σ : List AObj} {Z : Option (List AV) → List AObj → Prop} (h : S_op_only P x0 σ Z) : awp P zmr.body (AtEnd fun fr s => Z (resAs fr s zmr.res) s) (zB 0 [x0]) σ :=
  cast (by kernel_rfl) h
/-- bulla/op.Check$1 -/
def zkz (P : Program) (x0 : AV) (σ : List AObj) (Z : Option (List AV) → List AObj → Prop) : Prop :=
  lenC .sl x0 σ fun v1 s2 =>
  binC .gtr .plain v1 (.d (.int .i64 64)) s2 fun v3 s4 =>
  Z (consO (some v3) (some [])) s4
theorem s_op_Check_1 {P : Program} {x0 : AV} {σ : List AObj} {Z : Option (List AV) → List AObj → Prop} (h : zkz P x0 σ Z) : awp P zgJ.body (AtEnd fun fr s => Z (resAs fr s zgJ.res) s) (zB 0 [x0]) σ :=
  cast (by kernel_rfl) h
/-- bulla/op.Name -/
def S_op_Name (P : Program) (x0 : AV) (σ : List AObj) (Z : Option (List AV) → List AObj → Prop) : Prop :=
  ACall P zjn [dm x0] σ fun v1 s2 =>
  binC .gtr .plain v1 (.d (.int .i64 0)) s2 fun v3 s4 =>
  Z (consO (some v3) (some [])) s4
theorem s_op_Name {P : Program} {x0 : AV} {σ : List AObj} {Z : Option (List AV) → List AObj → Prop} (h : S_op_Name P x0 σ Z) : awp P zmt.body (AtEnd fun fr s => Z (resAs fr s zmt.res) s) (zB 0 [x0]) σ :=
  cast (by kernel_rfl) h
/-- slices.ContainsFunc[[]bulla/api.Record,bulla/api.Record] -/
def zaz (P : Program) (x0 x1 : AV) (σ : List AObj) (Z : Option (List AV) → List AObj → Prop) : Prop :=
  ACall P zaH [dm x0, dm x1] σ fun v1 s2 =>
  binC .geq .plain v1 (.d (.int .i64 0)) s2 fun v3 s4 =>
  Z (consO (some v3) (some [])) s4
theorem zbl {P : Program} {x0 x1 : AV} {σ : List AObj} {Z : Option (List AV) → List AObj → Prop} (h : zaz P x0 x1 σ Z) : awp P zal.body (AtEnd fun fr s => Z (resAs fr s zal.res) s) (zB 0 [x0, x1]) σ :=
  cast (by kernel_rfl) h
/-- bulla/bullaref06.Runes -/
def zmi (P : Program) (x0 : AV) (σ : List AObj) (Z : Option (List AV) → List AObj → Prop) : Prop :=
  loopC [x0, (.d (.int .i64 0))] σ fun vs1 s2 again3 =>
  headC vs1 fun v4 vs5 =>
  headC vs5 fun v6 vs7 =>
  lenC .str v4 s2 fun v8 s9 =>
  binC .gtr .plain v8 (.d (.int .i64 0)) s9 fun v10 s11 =>
  condC v10 (ACall P zhG [dm v4] s11 fun v12 s13 =>
  zi v12 0 s13 fun v14 s15 =>
  zi v12 1 s15 fun v16 s17 =>
  binC .eql .plain v16 (.d (.int .i64 0)) s17 fun v18 s19 =>
  zc v18 false (fun k => k v14 s19) s19 (fun v20 s21 =>
  zc v18 false (fun k => binC .lss .plain v20 (.d (.int .i64 33)) s21 k) s21 (fun v22 s23 =>
  pickC v18 (.d (.bool true)) v22 s23 fun v24 s25 =>
  zc v24 false (fun k => k v14 s25) s25 (fun v26 s27 =>
  zc v24 false (fun k => binC .geq .plain v26 (.d (.int .i64 127)) s27 k) s27 (fun v28 s29 =>
  zc v24 false (fun k => k v28 s29) s29 (fun v30 s31 =>
  zc v30 true (fun k => k v14 s31) s31 (fun v32 s33 =>
  zc v30 true (fun k => binC .lss .plain v32 (.d (.int .i64 160)) s33 k) s33 (fun v34 s35 =>
  zc v24 false (fun k => pickC v30 v34 (.d (.bool false)) s35 k) s35 (fun v36 s37 =>
  pickC v24 (.d (.bool true)) v36 s37 fun v38 s39 =>
  zc v38 false (fun k => k v14 s39) s39 (fun v40 s41 =>
  zc v38 false (fun k => binC .eql .plain v40 (.d (.int .i64 47)) s41 k) s41 (fun v42 s43 =>
  pickC v38 (.d (.bool true)) v42 s43 fun v44 s45 =>
  zc v44 false (fun k => k v14 s45) s45 (fun v46 s47 =>
  zc v44 false (fun k => binC .eql .plain v46 (.d (.int .i64 65533)) s47 k) s47 (fun v48 s49 =>
  pickC v44 (.d (.bool true)) v48 s49 fun v50 s51 =>
  zc v50 false (fun k => k v6 s51) s51 (fun v52 s53 =>
  zc v50 false (fun k => binC .geq .plain v52 (.d (.int .i64 16)) s53 k) s53 (fun v54 s55 =>
  pickC v50 (.d (.bool true)) v54 s55 fun v56 s57 =>
  condC v56 (Z (consO (some (.d (.int .i64 0))) (some [])) s57) (binC .add .plain v6 (.d (.int .i64 1)) s57 fun v58 s59 =>
  slcC .str v4 (some v16) none none s59 fun v60 s61 =>
  again3 [v60, v58] s61)))))))))))))))) (Z (consO (some v6) (some [])) s11)
theorem s_r06_Runes {P : Program} {x0 : AV} {σ : List AObj} {Z : Option (List AV) → List AObj → Prop} (h : zmi P x0 σ Z) : awp P zic.body (AtEnd fun fr s => Z (resAs fr s zic.res) s) (zB 0 [x0]) σ :=
  cast (by kernel_rfl) h
/-- bulla/op.Runes -/
def znv (P : Program) (x0 : AV) (σ : List AObj) (Z : Option (List AV) → List AObj → Prop) : Prop :=
  zW x0 σ fun v1 s2 =>
  loopC [(.d (.int .i64 0))] s2 fun vs3 s4 again5 =>
  headC vs3 fun v6 vs7 =>
  nextC v1 s4 fun v8 s9 =>
  zi v8 0 s9 fun v10 s11 =>
  condC v10 (zi v8 2 s11 fun v12 s13 =>
  binC .lss .plain v12 (.d (.int .i32 33)) s13 fun v14 s15 =>
  zc v14 false (fun k => k v12 s15) s15 (fun v16 s17 =>
  zc v14 false (fun k => binC .geq .plain v16 (.d (.int .i32 127)) s17 k) s17 (fun v18 s19 =>
  zc v14 false (fun k => k v18 s19) s19 (fun v20 s21 =>
  zc v20 true (fun k => k v12 s21) s21 (fun v22 s23 =>
  zc v20 true (fun k => binC .leq .plain v22 (.d (.int .i32 159)) s23 k) s23 (fun v24 s25 =>
  zc v14 false (fun k => pickC v20 v24 (.d (.bool false)) s25 k) s25 (fun v26 s27 =>
  pickC v14 (.d (.bool true)) v26 s27 fun v28 s29 =>
  zc v28 false (fun k => k v12 s29) s29 (fun v30 s31 =>
  zc v28 false (fun k => binC .eql .plain v30 (.d (.int .i32 47)) s31 k) s31 (fun v32 s33 =>
  pickC v28 (.d (.bool true)) v32 s33 fun v34 s35 =>
  zc v34 false (fun k => k v12 s35) s35 (fun v36 s37 =>
  zc v34 false (fun k => binC .eql .plain v36 (.d (.int .i32 65533)) s37 k) s37 (fun v38 s39 =>
  pickC v34 (.d (.bool true)) v38 s39 fun v40 s41 =>
  condC v40 (Z (consO (some (.d (.int .i64 0))) (some [])) s41) (binC .add .plain v6 (.d (.int .i64 1)) s41 fun v42 s43 =>
  again5 [v42] s43)))))))))))) (binC .gtr .plain v6 (.d (.int .i64 16)) s11 fun v44 s45 =>
  condC v44 (Z (consO (some (.d (.int .i64 0))) (some [])) s45) (Z (consO (some v6) (some [])) s45))
theorem s_op_Runes {P : Program} {x0 : AV} {σ : List AObj} {Z : Option (List AV) → List AObj → Prop} (h : znv P x0 σ Z) : awp P zka.body (AtEnd fun fr s => Z (resAs fr s zka.res) s) (zB 0 [x0]) σ :=
  cast (by kernel_rfl) h
/-- slices.IndexFunc[[]bulla/api.Record,bulla/api.Record] -/
def zaI (P : Program) (x0 x1 : AV) (σ : List AObj) (Z : Option (List AV) → List AObj → Prop) : Prop :=
  lenC .sl x0 σ fun v1 s2 =>
  loopC [(.d (.int .i64 0))] s2 fun vs3 s4 again5 =>
  headC vs3 fun v6 vs7 =>
  binC .lss .plain v6 v1 s4 fun v8 s9 =>
  condC v8 (zr none 1 x0 v6 s9 fun v10 s11 =>
  loadC false 1 v10 s11 fun v12 s13 =>
  zab P x1 [dm v12] s13 fun v14 s15 =>
  condC v14 (Z (consO (some v6) (some [])) s15) (binC .add .plain v6 (.d (.int .i64 1)) s15 fun v16 s17 =>
  again5 [v16] s17)) (Z (consO (some (.d (.int .i64 (-1)))) (some [])) s9)
theorem zbE {P : Program} {x0 x1 : AV} {σ : List AObj} {Z : Option (List AV) → List AObj → Prop} (h : zaI P x0 x1 σ Z) : awp P zap.body (AtEnd fun fr s => Z (resAs fr s zap.res) s) (zB 0 [x0, x1]) σ :=
  cast (by kernel_rfl) h
/-- bulla/bullaref06.rune1 -/
def zmh (P : Program) (x0 : AV) (σ : List AObj) (Z : Option (List AV) → List AObj → Prop) : Prop :=
  idxSC x0 (.d (.int .i64 0)) σ fun v1 s2 =>
  ACall P zjl [dm v1] s2 fun v3 s4 =>
  binC .eql .plain v3 (.d (.int .i64 0)) s4 fun v5 s6 =>
  zc v5 false (fun k => k v3 s6) s6 (fun v7 s8 =>
  zc v5 false (fun k => k x0 s8) s8 (fun v9 s10 =>
  zc v5 false (fun k => lenC .str v9 s10 k) s10 (fun v11 s12 =>
  zc v5 false (fun k => binC .gtr .plain v7 v11 s12 k) s12 (fun v13 s14 =>
  pickC v5 (.d (.bool true)) v13 s14 fun v15 s16 =>
  condC v15 (Z (consO (some (.d (.int .i64 0))) (consO (some (.d (.int .i64 0))) (some []))) s16) (binC .eql .plain v3 (.d (.int .i64 1)) s16 fun v17 s18 =>
  condC v17 (idxSC x0 (.d (.int .i64 0)) s18 fun v19 s20 =>
  convC (.int .i64) v19 s20 fun v21 s22 =>
  Z (consO (some v21) (consO (some (.d (.int .i64 1))) (some []))) s22) (idxSC x0 (.d (.int .i64 0)) s18 fun v23 s24 =>
  convC (.int .i64) v23 s24 fun v25 s26 =>
  binC .sub .plain (.d (.int .i64 7)) v3 s26 fun v27 s28 =>
  binC .shl .plain (.d (.int .i64 1)) v27 s28 fun v29 s30 =>
  binC .sub .plain v29 (.d (.int .i64 1)) s30 fun v31 s32 =>
  binC .and .plain v25 v31 s32 fun v33 s34 =>
  loopC [v33, (.d (.int .i64 1))] s34 fun vs35 s36 again37 =>
  headC vs35 fun v38 vs39 =>
  headC vs39 fun v40 vs41 =>
  binC .lss .plain v40 v3 s36 fun v42 s43 =>
  condC v42 (idxSC x0 v40 s43 fun v44 s45 =>
  binC .lss .plain v44 (.d (.int .u8 128)) s45 fun v46 s47 =>
  zc v46 false (fun k => k x0 s47) s47 (fun v48 s49 =>
  zc v46 false (fun k => k v40 s49) s49 (fun v50 s51 =>
  zc v46 false (fun k => idxSC v48 v50 s51 k) s51 (fun v52 s53 =>
  zc v46 false (fun k => binC .geq .plain v52 (.d (.int .u8 192)) s53 k) s53 (fun v54 s55 =>
  pickC v46 (.d (.bool true)) v54 s55 fun v56 s57 =>
  condC v56 (Z (consO (some (.d (.int .i64 0))) (consO (some (.d (.int .i64 0))) (some []))) s57) (binC .mul .plain v38 (.d (.int .i64 64)) s57 fun v58 s59 =>
  idxSC x0 v40 s59 fun v60 s61 =>
  convC (.int .i64) v60 s61 fun v62 s63 =>
  binC .rem .plain v62 (.d (.int .i64 64)) s63 fun v64 s65 =>
  binC .add .plain v58 v64 s65 fun v66 s67 =>
  binC .add .plain v40 (.d (.int .i64 1)) s67 fun v68 s69 =>
  again37 [v66, v68] s69)))))) (zl false 1 5 (fillV (rep [(.d (.int .i64 0))] 5) [(0, 1, (.d (.int .i64 0))), (1, 1, (.d (.int .i64 0))), (2, 1, (.d (.int .i64 128))), (3, 1, (.d (.int .i64 2048))), (4, 1, (.d (.int .i64 65536)))]) s43 fun v70 s71 =>
  zr none 1 v70 v3 s71 fun v72 s73 =>
  loadC false 1 v72 s73 fun v74 s75 =>
  binC .lss .plain v38 v74 s75 fun v76 s77 =>
  zc v76 false (fun k => k v38 s77) s77 (fun v78 s79 =>
  zc v76 false (fun k => binC .gtr .plain v78 (.d (.int .i64 1114111)) s79 k) s79 (fun v80 s81 =>
  pickC v76 (.d (.bool true)) v80 s81 fun v82 s83 =>
  zc v82 false (fun k => k v38 s83) s83 (fun v84 s85 =>
  zc v82 false (fun k => binC .geq .plain v84 (.d (.int .i64 55296)) s85 k) s85 (fun v86 s87 =>
  zc v82 false (fun k => k v86 s87) s87 (fun v88 s89 =>
  zc v88 true (fun k => k v38 s89) s89 (fun v90 s91 =>
  zc v88 true (fun k => binC .lss .plain v90 (.d (.int .i64 57344)) s91 k) s91 (fun v92 s93 =>
  zc v82 false (fun k => pickC v88 v92 (.d (.bool false)) s93 k) s93 (fun v94 s95 =>
  pickC v82 (.d (.bool true)) v94 s95 fun v96 s97 =>
  condC v96 (Z (consO (some (.d (.int .i64 0))) (consO (some (.d (.int .i64 0))) (some []))) s97) (Z (consO (some v38) (consO (some v3) (some []))) s97))))))))))))))))
theorem s_r06_rune1 {P : Program} {x0 : AV} {σ : List AObj} {Z : Option (List AV) → List AObj → Prop} (h : zmh P x0 σ Z) : awp P zib.body (AtEnd fun fr s => Z (resAs fr s zib.res) s) (zB 0 [x0]) σ :=
  cast (by kernel_rfl) h
/-- bulla/bullaref06.size -/
def zns (P : Program) (x0 : AV) (σ : List AObj) (Z : Option (List AV) → List AObj → Prop) : Prop :=
  binC .lss .plain x0 (.d (.int .u8 128)) σ fun v1 s2 =>
  condC v1 (Z (consO (some (.d (.int .i64 1))) (some [])) s2) (binC .geq .plain x0 (.d (.int .u8 194)) s2 fun v3 s4 =>
  zc v3 true (fun k => k x0 s4) s4 (fun v5 s6 =>
  zc v3 true (fun k => binC .lss .plain v5 (.d (.int .u8 224)) s6 k) s6 (fun v7 s8 =>
  pickC v3 v7 (.d (.bool false)) s8 fun v9 s10 =>
  condC v9 (Z (consO (some (.d (.int .i64 2))) (some [])) s10) (binC .geq .plain x0 (.d (.int .u8 224)) s10 fun v11 s12 =>
  zc v11 true (fun k => k x0 s12) s12 (fun v13 s14 =>
  zc v11 true (fun k => binC .lss .plain v13 (.d (.int .u8 240)) s14 k) s14 (fun v15 s16 =>
  pickC v11 v15 (.d (.bool false)) s16 fun v17 s18 =>
  condC v17 (Z (consO (some (.d (.int .i64 3))) (some [])) s18) (binC .geq .plain x0 (.d (.int .u8 240)) s18 fun v19 s20 =>
  zc v19 true (fun k => k x0 s20) s20 (fun v21 s22 =>
  zc v19 true (fun k => binC .lss .plain v21 (.d (.int .u8 245)) s22 k) s22 (fun v23 s24 =>
  pickC v19 v23 (.d (.bool false)) s24 fun v25 s26 =>
  condC v25 (Z (consO (some (.d (.int .i64 4))) (some [])) s26) (Z (consO (some (.d (.int .i64 0))) (some [])) s26))))))))))
theorem s_r06_size {P : Program} {x0 : AV} {σ : List AObj} {Z : Option (List AV) → List AObj → Prop} (h : zns P x0 σ Z) : awp P zjX.body (AtEnd fun fr s => Z (resAs fr s zjX.res) s) (zB 0 [x0]) σ :=
  cast (by kernel_rfl) h
end Go.Proofs.YtcappjcojggehaaGreat
