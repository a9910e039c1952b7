/- The conditions of each function, its slots as variables, and that the logic's conditions are these. Printed by program. -/
import Derived.Test.YthmdpooklflkfaaAf4
set_option linter.all false
set_option maxRecDepth 100000
set_option linter.unusedVariables false
namespace Go.Proofs.Ythmdpooklflkfaa
open Go.AW
/-- (*bulla/ideal.Ledger).Sign -/
def S_ideal_Ledger_Sign (P : Program) (x0 x1 x2 : AV) (σ : List AObj) (Z : Option (List AV) → List AObj → Prop) : Prop :=
  allocC [(.d (.int .i64 0)), (.d (.int .i64 0))] σ fun v1 s2 =>
  ACall P n_ideal_Ledger_none [dm x0] s2 fun v3 s4 =>
  condC v3 (buildC (fillV [(.d (.int .i64 0)), (.d (.int .i64 0))] []) s4 fun v5 s6 =>
  storeC 2 v1 v5 s6 fun _ s8 =>
  Z (consO (cellA v1 s8 true 2) (consO (some (.d (.int .i64 2))) (some []))) s8) (binC .lss .plain x1 (.d (.int .i64 0)) s4 fun v9 s10 =>
  guardC v9 false (fun k => k x1 s10) s10 (fun v11 s12 =>
  guardC v9 false (fun k => binC .geq .plain v11 (.d (.int .i64 21)) s12 k) s12 (fun v13 s14 =>
  pickC v9 (.d (.bool true)) v13 s14 fun v15 s16 =>
  condC v15 (buildC (fillV [(.d (.int .i64 0)), (.d (.int .i64 0))] []) s16 fun v17 s18 =>
  storeC 2 v1 v17 s18 fun _ s20 =>
  Z (consO (cellA v1 s20 true 2) (consO (some (.d (.int .i64 20))) (some []))) s20) (binC .lss .plain x2 (.d (.int .i64 1)) s16 fun v21 s22 =>
  condC v21 (buildC (fillV [(.d (.int .i64 0)), (.d (.int .i64 0))] []) s22 fun v23 s24 =>
  storeC 2 v1 v23 s24 fun _ s26 =>
  Z (consO (cellA v1 s26 true 2) (consO (some (.d (.int .i64 1))) (some []))) s26) (buildC (fillV [(.d (.int .i64 0)), (.d (.int .i64 0))] [(0, 1, x1), (1, 1, x2)]) s22 fun v27 s28 =>
  allocC [(.d (.int .i64 0)), (.d (.int .i64 0))] s28 fun v29 s30 =>
  storeC 2 v29 v27 s30 fun _ s32 =>
  (fun (k33 : List AObj → Prop) => nilC x0 s32 fun v39 s40 =>
  faddrC 1 v39 s40 fun v41 s42 =>
  loadC false 1 v41 s42 fun v43 s44 =>
  loadC true 2 v29 s44 fun v45 s46 =>
  mgetC (.ints 2) false (.d (.bool false)) v43 v45 s46 fun v47 s48 =>
  unC .not v47 s48 fun v49 s50 =>
  condC v49 (nilC x0 s50 fun v51 s52 =>
  faddrC 1 v51 s52 fun v53 s54 =>
  loadC false 1 v53 s54 fun v55 s56 =>
  loadC true 2 v29 s56 fun v57 s58 =>
  msetC (.ints 2) v55 v57 (.d (.bool true)) s58 fun _ s60 =>
  nilC x0 s60 fun v61 s62 =>
  faddrC 0 v61 s62 fun v63 s64 =>
  loadC false 1 v63 s64 fun v65 s66 =>
  loadC true 2 v29 s66 fun v67 s68 =>
  mksliceC false 2 1 (fillV (rep [(.d (.int .i64 0)), (.d (.int .i64 0))] 1) [(0, 2, v67)]) s68 fun v69 s70 =>
  appendC 2 16 v65 v69 s70 fun v71 s72 =>
  nilC x0 s72 fun v73 s74 =>
  faddrC 0 v73 s74 fun v75 s76 =>
  storeC 1 v75 v71 s76 fun _ s78 =>
  k33 s78) (k33 s50))
  (fun  s34 => loadC true 2 v29 s34 fun v35 s36 =>
  storeC 2 v1 v35 s36 fun _ s38 =>
  Z (consO (cellA v1 s38 true 2) (consO (some (.d (.int .i64 0))) (some []))) s38))))))
theorem s_ideal_Ledger_Sign {P : Program} {x0 x1 x2 : AV} {σ : List AObj} {Z : Option (List AV) → List AObj → Prop} (h : S_ideal_Ledger_Sign P x0 x1 x2 σ Z) : awp P A_ideal_Ledger_Sign.body (AtEnd fun fr s => Z (resAs fr s A_ideal_Ledger_Sign.res) s) (slots0 0 [x0, x1, x2]) σ :=
  cast (by kernel_rfl) h
/-- (*bulla/ideal.Table).Sum -/
def S_ideal_Table_Sum (P : Program) (x0 x1 : AV) (σ : List AObj) (Z : Option (List AV) → List AObj → Prop) : Prop :=
  ACall P n_ideal_Table_none [dm x0] σ fun v1 s2 =>
  condC v1 (Z (consO (some (.d (.int .i64 0))) (some [])) s2) (nilC x0 s2 fun v3 s4 =>
  faddrC 1 v3 s4 fun v5 s6 =>
  loadC false 1 v5 s6 fun v7 s8 =>
  convC .toStr x1 s8 fun v9 s10 =>
  mgetC .str true (.d (.int .i64 0)) v7 v9 s10 fun v11 s12 =>
  extractC v11 0 s12 fun v13 s14 =>
  extractC v11 1 s14 fun v15 s16 =>
  condC v15 (Z (consO (some v13) (some [])) s16) (nilC x0 s16 fun v17 s18 =>
  faddrC 0 v17 s18 fun v19 s20 =>
  loadC false 1 v19 s20 fun v21 s22 =>
  lenC .sl v21 s22 fun v23 s24 =>
  binC .geq .plain v23 (.d (.int .i64 1048576)) s24 fun v25 s26 =>
  condC v25 (Z (consO (some (.d (.int .i64 0))) (some [])) s26) (nilC x0 s26 fun v27 s28 =>
  faddrC 0 v27 s28 fun v29 s30 =>
  loadC false 1 v29 s30 fun v31 s32 =>
  ACall P n_bytes_Clone [dm x1] s32 fun v33 s34 =>
  keepO v29 s32 s34 ∧ (mksliceC false 1 1 (fillV (rep [(.exact [])] 1) [(0, 1, v33)]) s34 fun v35 s36 =>
  appendC 1 24 v31 v35 s36 fun v37 s38 =>
  nilC x0 s38 fun v39 s40 =>
  faddrC 0 v39 s40 fun v41 s42 =>
  storeC 1 v41 v37 s42 fun _ s44 =>
  nilC x0 s44 fun v45 s46 =>
  faddrC 0 v45 s46 fun v47 s48 =>
  loadC false 1 v47 s48 fun v49 s50 =>
  lenC .sl v49 s50 fun v51 s52 =>
  nilC x0 s52 fun v53 s54 =>
  faddrC 1 v53 s54 fun v55 s56 =>
  loadC false 1 v55 s56 fun v57 s58 =>
  convC .toStr x1 s58 fun v59 s60 =>
  msetC .str v57 v59 v51 s60 fun _ s62 =>
  Z (consO (some v51) (some [])) s62))))
theorem s_ideal_Table_Sum {P : Program} {x0 x1 : AV} {σ : List AObj} {Z : Option (List AV) → List AObj → Prop} (h : S_ideal_Table_Sum P x0 x1 σ Z) : awp P A_ideal_Table_Sum.body (AtEnd fun fr s => Z (resAs fr s A_ideal_Table_Sum.res) s) (slots0 0 [x0, x1]) σ :=
  cast (by kernel_rfl) h
/-- (*bulla/ideal.Table).Look -/
def S_ideal_Table_Look (P : Program) (x0 x1 : AV) (σ : List AObj) (Z : Option (List AV) → List AObj → Prop) : Prop :=
  ACall P n_ideal_Table_none [dm x0] σ fun v1 s2 =>
  condC v1 (Z (consO (some (.d (.int .i64 0))) (consO (some (.d (.bool false))) (some []))) s2) (nilC x0 s2 fun v3 s4 =>
  faddrC 1 v3 s4 fun v5 s6 =>
  loadC false 1 v5 s6 fun v7 s8 =>
  convC .toStr x1 s8 fun v9 s10 =>
  mgetC .str true (.d (.int .i64 0)) v7 v9 s10 fun v11 s12 =>
  extractC v11 0 s12 fun v13 s14 =>
  extractC v11 1 s14 fun v15 s16 =>
  Z (consO (some v13) (consO (some v15) (some []))) s16)
theorem s_ideal_Table_Look {P : Program} {x0 x1 : AV} {σ : List AObj} {Z : Option (List AV) → List AObj → Prop} (h : S_ideal_Table_Look P x0 x1 σ Z) : awp P A_ideal_Table_Look.body (AtEnd fun fr s => Z (resAs fr s A_ideal_Table_Look.res) s) (slots0 0 [x0, x1]) σ :=
  cast (by kernel_rfl) h
/-- (*bulla/ideal.Ledger).Signed -/
def S_ideal_Ledger_Signed (P : Program) (x0 x1 : AV) (σ : List AObj) (Z : Option (List AV) → List AObj → Prop) : Prop :=
  boxC x1 σ fun v1 s2 =>
  ACall P n_ideal_Ledger_none [dm x0] s2 fun v3 s4 =>
  unC .not v3 s4 fun v5 s6 =>
  guardC v5 true (fun k => k x0 s6) s6 (fun v7 s8 =>
  guardC v5 true (fun k => nilC v7 s8 k) s8 (fun v9 s10 =>
  guardC v5 true (fun k => faddrC 1 v9 s10 k) s10 (fun v11 s12 =>
  guardC v5 true (fun k => loadC false 1 v11 s12 k) s12 (fun v13 s14 =>
  guardC v5 true (fun k => loadC true 2 v1 s14 k) s14 (fun v15 s16 =>
  guardC v5 true (fun k => mgetC (.ints 2) false (.d (.bool false)) v13 v15 s16 k) s16 (fun v17 s18 =>
  pickC v5 v17 (.d (.bool false)) s18 fun v19 s20 =>
  Z (consO (some v19) (some [])) s20))))))
theorem s_ideal_Ledger_Signed {P : Program} {x0 x1 : AV} {σ : List AObj} {Z : Option (List AV) → List AObj → Prop} (h : S_ideal_Ledger_Signed P x0 x1 σ Z) : awp P A_ideal_Ledger_Signed.body (AtEnd fun fr s => Z (resAs fr s A_ideal_Ledger_Signed.res) s) (slots0 0 [x0, x1]) σ :=
  cast (by kernel_rfl) h
/-- bulla/request.known -/
def S_request_known (P : Program) (x0 : AV) (σ : List AObj) (Z : Option (List AV) → List AObj → Prop) : Prop :=
  ACall P n_ideal_Table_Len [dm x0] σ fun v1 s2 =>
  binC .gtr .plain v1 (.d (.int .i64 0)) s2 fun v3 s4 =>
  guardC v3 false (fun k => k x0 s4) s4 (fun v5 s6 =>
  guardC v3 false (fun k => ACall P n_ideal_Table_Clone [dm v5] s6 k) s6 (fun v7 s8 =>
  guardC v3 false (fun k => binC .neq .ptr v7 (.d .nilp) s8 k) s8 (fun v9 s10 =>
  pickC v3 (.d (.bool true)) v9 s10 fun v11 s12 =>
  Z (consO (some v11) (some [])) s12)))
theorem s_request_known {P : Program} {x0 : AV} {σ : List AObj} {Z : Option (List AV) → List AObj → Prop} (h : S_request_known P x0 σ Z) : awp P A_request_known.body (AtEnd fun fr s => Z (resAs fr s A_request_known.res) s) (slots0 0 [x0]) σ :=
  cast (by kernel_rfl) h
/-- bulla/bullaref06.Same -/
def S_r06_Same (P : Program) (x0 x1 : AV) (σ : List AObj) (Z : Option (List AV) → List AObj → Prop) : Prop :=
  boxC x0 σ fun v1 s2 =>
  boxC x1 s2 fun v3 s4 =>
  faddrC 0 v1 s4 fun v5 s6 =>
  loadC false 1 v5 s6 fun v7 s8 =>
  faddrC 0 v3 s8 fun v9 s10 =>
  loadC false 1 v9 s10 fun v11 s12 =>
  binC .neq .plain v7 v11 s12 fun v13 s14 =>
  guardC v13 false (fun k => faddrC 1 v1 s14 k) s14 (fun v15 s16 =>
  guardC v13 false (fun k => loadC false 1 v15 s16 k) s16 (fun v17 s18 =>
  guardC v13 false (fun k => faddrC 1 v3 s18 k) s18 (fun v19 s20 =>
  guardC v13 false (fun k => loadC false 1 v19 s20 k) s20 (fun v21 s22 =>
  guardC v13 false (fun k => binC .neq .plain v17 v21 s22 k) s22 (fun v23 s24 =>
  pickC v13 (.d (.bool true)) v23 s24 fun v25 s26 =>
  guardC v25 false (fun k => faddrC 2 v1 s26 k) s26 (fun v27 s28 =>
  guardC v25 false (fun k => loadC false 1 v27 s28 k) s28 (fun v29 s30 =>
  guardC v25 false (fun k => faddrC 2 v3 s30 k) s30 (fun v31 s32 =>
  guardC v25 false (fun k => loadC false 1 v31 s32 k) s32 (fun v33 s34 =>
  guardC v25 false (fun k => binC .neq .plain v29 v33 s34 k) s34 (fun v35 s36 =>
  pickC v25 (.d (.bool true)) v35 s36 fun v37 s38 =>
  guardC v37 false (fun k => faddrC 3 v1 s38 k) s38 (fun v39 s40 =>
  guardC v37 false (fun k => loadC false 1 v39 s40 k) s40 (fun v41 s42 =>
  guardC v37 false (fun k => faddrC 3 v3 s42 k) s42 (fun v43 s44 =>
  guardC v37 false (fun k => loadC false 1 v43 s44 k) s44 (fun v45 s46 =>
  guardC v37 false (fun k => binC .neq .plain v41 v45 s46 k) s46 (fun v47 s48 =>
  pickC v37 (.d (.bool true)) v47 s48 fun v49 s50 =>
  guardC v49 false (fun k => faddrC 4 v1 s50 k) s50 (fun v51 s52 =>
  guardC v49 false (fun k => loadC false 1 v51 s52 k) s52 (fun v53 s54 =>
  guardC v49 false (fun k => lenC .sl v53 s54 k) s54 (fun v55 s56 =>
  guardC v49 false (fun k => faddrC 4 v3 s56 k) s56 (fun v57 s58 =>
  guardC v49 false (fun k => loadC false 1 v57 s58 k) s58 (fun v59 s60 =>
  guardC v49 false (fun k => lenC .sl v59 s60 k) s60 (fun v61 s62 =>
  guardC v49 false (fun k => binC .neq .plain v55 v61 s62 k) s62 (fun v63 s64 =>
  pickC v49 (.d (.bool true)) v63 s64 fun v65 s66 =>
  condC v65 (Z (consO (some (.d (.bool false))) (some [])) s66) (loopC [(.d (.int .i64 0))] s66 fun vs67 s68 again69 =>
  headC vs67 fun v70 vs71 =>
  faddrC 4 v1 s68 fun v72 s73 =>
  loadC false 1 v72 s73 fun v74 s75 =>
  lenC .sl v74 s75 fun v76 s77 =>
  binC .lss .plain v70 v76 s77 fun v78 s79 =>
  condC v78 (faddrC 4 v1 s79 fun v80 s81 =>
  loadC false 1 v80 s81 fun v82 s83 =>
  iaddrC none 1 v82 v70 s83 fun v84 s85 =>
  loadC false 1 v84 s85 fun v86 s87 =>
  convC .toStr v86 s87 fun v88 s89 =>
  faddrC 4 v3 s89 fun v90 s91 =>
  loadC false 1 v90 s91 fun v92 s93 =>
  iaddrC none 1 v92 v70 s93 fun v94 s95 =>
  loadC false 1 v94 s95 fun v96 s97 =>
  convC .toStr v96 s97 fun v98 s99 =>
  binC .neq .plain v88 v98 s99 fun v100 s101 =>
  condC v100 (Z (consO (some (.d (.bool false))) (some [])) s101) (binC .add .plain v70 (.d (.int .i64 1)) s101 fun v102 s103 =>
  again69 [v102] s103)) (Z (consO (some (.d (.bool true))) (some [])) s79))))))))))))))))))))))))
theorem s_r06_Same {P : Program} {x0 x1 : AV} {σ : List AObj} {Z : Option (List AV) → List AObj → Prop} (h : S_r06_Same P x0 x1 σ Z) : awp P A_r06_Same.body (AtEnd fun fr s => Z (resAs fr s A_r06_Same.res) s) (slots0 0 [x0, x1]) σ :=
  cast (by kernel_rfl) h
/-- bulla/op.only -/
def S_op_only (P : Program) (x0 : AV) (σ : List AObj) (Z : Option (List AV) → List AObj → Prop) : Prop :=
  boxC x0 σ fun v1 s2 =>
  allocC [(.d (.int .i64 0)), (.d (.str [])), (.d (.str [])), (.d (.int .i64 0)), (.exact [])] s2 fun v3 s4 =>
  faddrC 0 v1 s4 fun v5 s6 =>
  loadC false 1 v5 s6 fun v7 s8 =>
  buildC (fillV [(.d (.int .i64 0)), (.d (.str [])), (.d (.str [])), (.d (.int .i64 0)), (.exact [])] [(0, 1, v7)]) s8 fun v9 s10 =>
  allocC [(.d (.int .i64 0)), (.d (.str [])), (.d (.str [])), (.d (.int .i64 0)), (.exact [])] s10 fun v11 s12 =>
  storeC 5 v11 v9 s12 fun _ s14 =>
  (fun (k15 : List AObj → Prop) => faddrC 0 v1 s14 fun v21 s22 =>
  loadC false 1 v21 s22 fun v23 s24 =>
  binC .eql .plain v23 (.d (.int .i64 0)) s24 fun v25 s26 =>
  condC v25 (k15 s26) (binC .eql .plain v23 (.d (.int .i64 1)) s26 fun v27 s28 =>
  condC v27 (faddrC 1 v1 s28 fun v29 s30 =>
  loadC false 1 v29 s30 fun v31 s32 =>
  faddrC 1 v11 s32 fun v33 s34 =>
  storeC 1 v33 v31 s34 fun _ s36 =>
  k15 s36) (binC .eql .plain v23 (.d (.int .i64 2)) s28 fun v37 s38 =>
  condC v37 (faddrC 1 v1 s38 fun v39 s40 =>
  loadC false 1 v39 s40 fun v41 s42 =>
  faddrC 4 v1 s42 fun v43 s44 =>
  loadC false 1 v43 s44 fun v45 s46 =>
  faddrC 1 v11 s46 fun v47 s48 =>
  storeC 1 v47 v41 s48 fun _ s50 =>
  keepO v43 s48 s50 ∧ (faddrC 4 v11 s50 fun v51 s52 =>
  storeC 1 v51 v45 s52 fun _ s54 =>
  k15 s54)) (binC .eql .plain v23 (.d (.int .i64 3)) s38 fun v55 s56 =>
  condC v55 (faddrC 1 v1 s56 fun v57 s58 =>
  loadC false 1 v57 s58 fun v59 s60 =>
  faddrC 2 v1 s60 fun v61 s62 =>
  loadC false 1 v61 s62 fun v63 s64 =>
  faddrC 3 v1 s64 fun v65 s66 =>
  loadC false 1 v65 s66 fun v67 s68 =>
  faddrC 1 v11 s68 fun v69 s70 =>
  storeC 1 v69 v59 s70 fun _ s72 =>
  keepO v61 s70 s72 ∧ (keepO v65 s70 s72 ∧ (faddrC 2 v11 s72 fun v73 s74 =>
  storeC 1 v73 v63 s74 fun _ s76 =>
  keepO v65 s74 s76 ∧ (faddrC 3 v11 s76 fun v77 s78 =>
  storeC 1 v77 v67 s78 fun _ s80 =>
  k15 s80)))) (binC .eql .plain v23 (.d (.int .i64 4)) s56 fun v81 s82 =>
  condC v81 (faddrC 1 v1 s82 fun v83 s84 =>
  loadC false 1 v83 s84 fun v85 s86 =>
  faddrC 3 v1 s86 fun v87 s88 =>
  loadC false 1 v87 s88 fun v89 s90 =>
  faddrC 1 v11 s90 fun v91 s92 =>
  storeC 1 v91 v85 s92 fun _ s94 =>
  keepO v87 s92 s94 ∧ (faddrC 3 v11 s94 fun v95 s96 =>
  storeC 1 v95 v89 s96 fun _ s98 =>
  k15 s98)) (loadC true 5 v11 s82 fun v99 s100 =>
  storeC 5 v3 v99 s100 fun _ s102 =>
  Z (consO (cellA v3 s102 true 5) (consO (some (.d (.bool false))) (some []))) s102))))))
  (fun  s16 => loadC true 5 v11 s16 fun v17 s18 =>
  storeC 5 v3 v17 s18 fun _ s20 =>
  Z (consO (cellA v3 s20 true 5) (consO (some (.d (.bool true))) (some []))) s20)
theorem s_op_only {P : Program} {x0 : AV} {σ : List AObj} {Z : Option (List AV) → List AObj → Prop} (h : S_op_only P x0 σ Z) : awp P A_op_only.body (AtEnd fun fr s => Z (resAs fr s A_op_only.res) s) (slots0 0 [x0]) σ :=
  cast (by kernel_rfl) h
/-- bulla/op.Check$1 -/
def S_op_Check_1 (P : Program) (x0 : AV) (σ : List AObj) (Z : Option (List AV) → List AObj → Prop) : Prop :=
  lenC .sl x0 σ fun v1 s2 =>
  binC .gtr .plain v1 (.d (.int .i64 64)) s2 fun v3 s4 =>
  Z (consO (some v3) (some [])) s4
theorem s_op_Check_1 {P : Program} {x0 : AV} {σ : List AObj} {Z : Option (List AV) → List AObj → Prop} (h : S_op_Check_1 P x0 σ Z) : awp P A_op_Check_1.body (AtEnd fun fr s => Z (resAs fr s A_op_Check_1.res) s) (slots0 0 [x0]) σ :=
  cast (by kernel_rfl) h
/-- bulla/op.Name -/
def S_op_Name (P : Program) (x0 : AV) (σ : List AObj) (Z : Option (List AV) → List AObj → Prop) : Prop :=
  ACall P n_op_Runes [dm x0] σ fun v1 s2 =>
  binC .gtr .plain v1 (.d (.int .i64 0)) s2 fun v3 s4 =>
  Z (consO (some v3) (some [])) s4
theorem s_op_Name {P : Program} {x0 : AV} {σ : List AObj} {Z : Option (List AV) → List AObj → Prop} (h : S_op_Name P x0 σ Z) : awp P A_op_Name.body (AtEnd fun fr s => Z (resAs fr s A_op_Name.res) s) (slots0 0 [x0]) σ :=
  cast (by kernel_rfl) h
end Go.Proofs.Ythmdpooklflkfaa
