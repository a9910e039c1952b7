/- The conditions of each function, its slots as variables, and that the logic's conditions are these. Printed by program. -/
import Derived.Test.YtfnnejokhikefaaAf1
set_option linter.all false
set_option maxRecDepth 100000
set_option linter.unusedVariables false
namespace Go.Proofs.Ytfnnejokhikefaa
open Go.AW
/-- bulla/bullalaw18.PoolFrom -/
def S_l18_PoolFrom (P : Program) (x0 : AV) (σ : List AObj) (Z : Option (List AV) → List AObj → Prop) : Prop :=
  boxC x0 σ fun v1 s2 =>
  loadC true 1 v1 s2 fun v3 s4 =>
  ACall P n_pool_From [dm v3] s4 fun v5 s6 =>
  extractC v5 0 s6 fun v7 s8 =>
  extractC v5 1 s8 fun v9 s10 =>
  loadC true 1 v1 s10 fun v11 s12 =>
  ACall P n_r18_From [dm v11] s12 fun v13 s14 =>
  extractC v13 0 s14 fun v15 s16 =>
  extractC v13 1 s16 fun v17 s18 =>
  ACall P n_l18_begun [] s18 fun v19 s20 =>
  unC .not v19 s20 fun v21 s22 =>
  guardC v21 false (fun k => k v9 s22) s22 (fun v23 s24 =>
  guardC v21 false (fun k => k v17 s24) s24 (fun v25 s26 =>
  guardC v21 false (fun k => binC .neq .plain v23 v25 s26 k) s26 (fun v27 s28 =>
  pickC v21 (.d (.bool true)) v27 s28 fun v29 s30 =>
  guardC v29 false (fun k => k v7 s30) s30 (fun v31 s32 =>
  guardC v29 false (fun k => binC .eql .ptr v31 (.d .nilp) s32 k) s32 (fun v33 s34 =>
  guardC v29 false (fun k => k v15 s34) s34 (fun v35 s36 =>
  guardC v29 false (fun k => binC .eql .ptr v35 (.d .nilp) s36 k) s36 (fun v37 s38 =>
  guardC v29 false (fun k => binC .neq .bool v33 v37 s38 k) s38 (fun v39 s40 =>
  pickC v29 (.d (.bool true)) v39 s40 fun v41 s42 =>
  condC v41 (Z (consO (some (.d (.bool false))) (some [])) s42) (binC .eql .ptr v15 (.d .nilp) s42 fun v43 s44 =>
  guardC v43 false (fun k => k v7 s44) s44 (fun v45 s46 =>
  guardC v43 false (fun k => faddrC 0 v1 s46 k) s46 (fun v47 s48 =>
  guardC v43 false (fun k => loadC false 1 v47 s48 k) s48 (fun v49 s50 =>
  guardC v43 false (fun k => ACall P n_pool_Pool_Waiting [dm v45] s50 k) s50 (fun v51 s52 =>
  keepO v47 s50 s52 ∧ (guardC v43 false (fun k => ACall P n_r08_Same [dm v51, dm v49] s52 k) s52 (fun v53 s54 =>
  pickC v43 (.d (.bool true)) v53 s54 fun v55 s56 =>
  Z (consO (some v55) (some [])) s56)))))))))))))))
theorem s_l18_PoolFrom {P : Program} {x0 : AV} {σ : List AObj} {Z : Option (List AV) → List AObj → Prop} (h : S_l18_PoolFrom P x0 σ Z) : awp P A_l18_PoolFrom.body (AtEnd fun fr s => Z (resAs fr s A_l18_PoolFrom.res) s) (slots0 0 [x0]) σ :=
  cast (by kernel_rfl) h
/-- bulla/pool.New -/
def S_pool_New (P : Program) (σ : List AObj) (Z : Option (List AV) → List AObj → Prop) : Prop :=
  buildC (fillV [(.d (.bool false)), (.exact []), (.exact []), (.exact []), (.exact []), (.exact []), (.exact []), (.exact []), (.exact [])] [(0, 1, (.d (.bool true)))]) σ fun v1 s2 =>
  boxC v1 s2 fun v3 s4 =>
  Z (consO (some v3) (some [])) s4
theorem s_pool_New {P : Program} {σ : List AObj} {Z : Option (List AV) → List AObj → Prop} (h : S_pool_New P  σ Z) : awp P A_pool_New.body (AtEnd fun fr s => Z (resAs fr s A_pool_New.res) s) (slots0 0 []) σ :=
  cast (by kernel_rfl) h
/-- bulla/bullalaw18.begun -/
def S_l18_begun (P : Program) (σ : List AObj) (Z : Option (List AV) → List AObj → Prop) : Prop :=
  ACall P n_pool_New [] σ fun v1 s2 =>
  binC .neq .ptr v1 (.d .nilp) s2 fun v3 s4 =>
  guardC v3 true (fun k => k v1 s4) s4 (fun v5 s6 =>
  guardC v3 true (fun k => ACall P n_l18_signed [dm (.d (.int .i64 2)), dm (.d (.int .i64 5))] s6 k) s6 (fun v7 s8 =>
  guardC v3 true (fun k => ACall P n_pool_Pool_Put [dm v5, dm v7] s8 k) s8 (fun v9 s10 =>
  pickC v3 v9 (.d (.bool false)) s10 fun v11 s12 =>
  guardC v11 true (fun k => k v1 s12) s12 (fun v13 s14 =>
  guardC v11 true (fun k => ACall P n_l18_signed [dm (.d (.int .i64 2)), dm (.d (.int .i64 4))] s14 k) s14 (fun v15 s16 =>
  guardC v11 true (fun k => ACall P n_pool_Pool_Put [dm v13, dm v15] s16 k) s16 (fun v17 s18 =>
  guardC v11 true (fun k => unC .not v17 s18 k) s18 (fun v19 s20 =>
  pickC v11 v19 (.d (.bool false)) s20 fun v21 s22 =>
  guardC v21 true (fun k => k v1 s22) s22 (fun v23 s24 =>
  guardC v21 true (fun k => ACall P n_l18_signed [dm (.d (.int .i64 2)), dm (.d (.int .i64 7))] s24 k) s24 (fun v25 s26 =>
  guardC v21 true (fun k => ACall P n_pool_Pool_Put [dm v23, dm v25] s26 k) s26 (fun v27 s28 =>
  pickC v21 v27 (.d (.bool false)) s28 fun v29 s30 =>
  guardC v29 true (fun k => k v1 s30) s30 (fun v31 s32 =>
  guardC v29 true (fun k => ACall P n_pool_Pool_Len [dm v31] s32 k) s32 (fun v33 s34 =>
  guardC v29 true (fun k => binC .eql .plain v33 (.d (.int .i64 1)) s34 k) s34 (fun v35 s36 =>
  pickC v29 v35 (.d (.bool false)) s36 fun v37 s38 =>
  guardC v37 true (fun k => k v1 s38) s38 (fun v39 s40 =>
  guardC v37 true (fun k => ACall P n_pool_Pool_Pick [dm v39, dm (.exact [])] s40 k) s40 (fun v41 s42 =>
  guardC v37 true (fun k => lenC .sl v41 s42 k) s42 (fun v43 s44 =>
  guardC v37 true (fun k => binC .eql .plain v43 (.d (.int .i64 1)) s44 k) s44 (fun v45 s46 =>
  pickC v37 v45 (.d (.bool false)) s46 fun v47 s48 =>
  guardC v47 true (fun k => k v1 s48) s48 (fun v49 s50 =>
  guardC v47 true (fun k => ACall P n_l18_signed [dm (.d (.int .i64 2)), dm (.d (.int .i64 7))] s50 k) s50 (fun v51 s52 =>
  guardC v47 true (fun k => mksliceC false 9 1 (fillV (rep [(.d (.int .i64 0)), (.d (.int .i64 0)), (.d (.int .i64 0)), (.d (.str [])), (.d (.str [])), (.d (.int .i64 0)), (.exact []), (.d (.int .i64 0)), (.d (.int .i64 0))] 1) [(0, 9, v51)]) s52 k) s52 (fun v53 s54 =>
  guardC v47 true (fun k => mksliceC false 1 1 (fillV (rep [(.exact [])] 1) [(0, 1, v53)]) s54 k) s54 (fun v55 s56 =>
  guardC v47 true (fun k => ACall P n_pool_Pool_Pick [dm v49, dm v55] s56 k) s56 (fun v57 s58 =>
  guardC v47 true (fun k => lenC .sl v57 s58 k) s58 (fun v59 s60 =>
  guardC v47 true (fun k => binC .eql .plain v59 (.d (.int .i64 0)) s60 k) s60 (fun v61 s62 =>
  pickC v47 v61 (.d (.bool false)) s62 fun v63 s64 =>
  guardC v63 true (fun k => k v1 s64) s64 (fun v65 s66 =>
  guardC v63 true (fun k => ACall P n_pool_Pool_Done [dm v65, dm (.d (.int .i64 2)), dm (.d (.int .i64 6))] s66 k) s66 (fun v67 s68 =>
  guardC v63 true (fun k => unC .not v67 s68 k) s68 (fun v69 s70 =>
  pickC v63 v69 (.d (.bool false)) s70 fun v71 s72 =>
  guardC v71 true (fun k => k v1 s72) s72 (fun v73 s74 =>
  guardC v71 true (fun k => ACall P n_pool_Pool_Done [dm v73, dm (.d (.int .i64 2)), dm (.d (.int .i64 7))] s74 k) s74 (fun v75 s76 =>
  pickC v71 v75 (.d (.bool false)) s76 fun v77 s78 =>
  guardC v77 true (fun k => k v1 s78) s78 (fun v79 s80 =>
  guardC v77 true (fun k => ACall P n_pool_Pool_Len [dm v79] s80 k) s80 (fun v81 s82 =>
  guardC v77 true (fun k => binC .eql .plain v81 (.d (.int .i64 0)) s82 k) s82 (fun v83 s84 =>
  pickC v77 v83 (.d (.bool false)) s84 fun v85 s86 =>
  Z (consO (some v85) (some [])) s86))))))))))))))))))))))))))))))))
theorem s_l18_begun {P : Program} {σ : List AObj} {Z : Option (List AV) → List AObj → Prop} (h : S_l18_begun P  σ Z) : awp P A_l18_begun.body (AtEnd fun fr s => Z (resAs fr s A_l18_begun.res) s) (slots0 0 []) σ :=
  cast (by kernel_rfl) h
/-- (*bulla/pool.Pool).Put -/
def S_pool_Pool_Put (P : Program) (x0 x1 : AV) (σ : List AObj) (Z : Option (List AV) → List AObj → Prop) : Prop :=
  boxC x1 σ fun v1 s2 =>
  ACall P n_pool_Pool_none [dm x0] s2 fun v3 s4 =>
  guardC v3 false (fun k => loadC true 9 v1 s4 k) s4 (fun v5 s6 =>
  guardC v3 false (fun k => mksliceC false 9 1 (fillV (rep [(.d (.int .i64 0)), (.d (.int .i64 0)), (.d (.int .i64 0)), (.d (.str [])), (.d (.str [])), (.d (.int .i64 0)), (.exact []), (.d (.int .i64 0)), (.d (.int .i64 0))] 1) [(0, 9, v5)]) s6 k) s6 (fun v7 s8 =>
  guardC v3 false (fun k => ACall P n_request_CheckBatch [dm v7] s8 k) s8 (fun v9 s10 =>
  guardC v3 false (fun k => binC .neq .plain v9 (.d (.int .i64 0)) s10 k) s10 (fun v11 s12 =>
  pickC v3 (.d (.bool true)) v11 s12 fun v13 s14 =>
  condC v13 (Z (consO (some (.d (.bool false))) (some [])) s14) (faddrC 0 v1 s14 fun v15 s16 =>
  faddrC 0 v15 s16 fun v17 s18 =>
  loadC false 1 v17 s18 fun v19 s20 =>
  nilC x0 s20 fun v21 s22 =>
  faddrC 1 v21 s22 fun v23 s24 =>
  iaddrC (some 8) 1 v23 v19 s24 fun v25 s26 =>
  nilC v25 s26 fun v27 s28 =>
  loadC false 1 v27 s28 fun v29 s30 =>
  lenC .sl v29 s30 fun v31 s32 =>
  binC .gtr .plain v31 (.d (.int .i64 0)) s32 fun v33 s34 =>
  guardC v33 true (fun k => k v25 s34) s34 (fun v35 s36 =>
  guardC v33 true (fun k => nilC v35 s36 k) s36 (fun v37 s38 =>
  guardC v33 true (fun k => loadC false 1 v37 s38 k) s38 (fun v39 s40 =>
  guardC v33 true (fun k => iaddrC none 9 v39 (.d (.int .i64 0)) s40 k) s40 (fun v41 s42 =>
  guardC v33 true (fun k => faddrC 0 v41 s42 k) s42 (fun v43 s44 =>
  guardC v33 true (fun k => faddrC 1 v43 s44 k) s44 (fun v45 s46 =>
  guardC v33 true (fun k => loadC false 1 v45 s46 k) s46 (fun v47 s48 =>
  guardC v33 true (fun k => faddrC 0 v1 s48 k) s48 (fun v49 s50 =>
  guardC v33 true (fun k => faddrC 1 v49 s50 k) s50 (fun v51 s52 =>
  guardC v33 true (fun k => loadC false 1 v51 s52 k) s52 (fun v53 s54 =>
  guardC v33 true (fun k => binC .geq .plain v47 v53 s54 k) s54 (fun v55 s56 =>
  pickC v33 v55 (.d (.bool false)) s56 fun v57 s58 =>
  condC v57 (Z (consO (some (.d (.bool false))) (some [])) s58) (loadC true 9 v1 s58 fun v59 s60 =>
  mksliceC false 9 1 (fillV (rep [(.d (.int .i64 0)), (.d (.int .i64 0)), (.d (.int .i64 0)), (.d (.str [])), (.d (.str [])), (.d (.int .i64 0)), (.exact []), (.d (.int .i64 0)), (.d (.int .i64 0))] 1) [(0, 9, v59)]) s60 fun v61 s62 =>
  ACall P n_request_Clone [dm v61] s62 fun v63 s64 =>
  nilC v25 s64 fun v65 s66 =>
  storeC 1 v65 v63 s66 fun _ s68 =>
  Z (consO (some (.d (.bool true))) (some [])) s68)))))))))))))))))
theorem s_pool_Pool_Put {P : Program} {x0 x1 : AV} {σ : List AObj} {Z : Option (List AV) → List AObj → Prop} (h : S_pool_Pool_Put P x0 x1 σ Z) : awp P A_pool_Pool_Put.body (AtEnd fun fr s => Z (resAs fr s A_pool_Pool_Put.res) s) (slots0 0 [x0, x1]) σ :=
  cast (by kernel_rfl) h
end Go.Proofs.Ytfnnejokhikefaa
