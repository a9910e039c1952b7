/- Contracts: clones whose cells may be written. -/
import Derived.Test.YtnfienilahfdjaaCl1
import Derived.Test.YtnfienilahfdjaaRc2
import Derived.Test.YtnfienilahfdjaaSpOp
import Derived.Test.YtnfienilahfdjaaAwFrz
set_option linter.all false
set_option maxRecDepth 100000
set_option linter.unusedSimpArgs false
set_option linter.unusedVariables false
namespace Go.Proofs.Ytnfienilahfdjaa
open Go.AW

def byteA (b : UInt8) : AV := .d (.int .u8 b.toNat)
theorem bcs_flat (r : List UInt8) : ((bcs r).flatten).map AV.d = r.map byteA := by
  induction r with
  | nil => rfl
  | cons b r ih => simp only [bcs, List.map_cons, List.flatten_cons, List.map_append] at ih ⊢; rw [ih]; rfl
theorem low_mono {n m : Nat} {c : AV} (h : Low n c) (hm : n ≤ m) : Low m c := by
  induction h with
  | d x => exact .d x
  | agg cs _ ih => exact .agg cs ih
  | tup cs _ ih => exact .tup cs ih
  | own t es h => exact .own t es (by omega)
  | exact es => exact .exact es
  | bsl id off len cap sz h => exact .bsl _ _ _ _ _ (by omega)
  | box id off h => exact .box _ _ (by omega)
  | vp cs => exact .vp cs
  | map id h => exact .map _ (by omega)
  | iter id h => exact .iter _ (by omega)
  | fn f a b _ _ ih1 ih2 => exact .fn f a b ih1 ih2
  | rsl t g sz lo hi h => exact .rsl _ _ _ _ _ (by omega)
  | rpt t g off h => exact .rpt _ _ _ (by omega)
  | undef => exact .undef
theorem lowO_mono {n m : Nat} {x : AObj} (h : LowO n x) (hm : n ≤ m) : LowO m x := by
  cases x with
  | box cs => exact fun c hc => low_mono (h c hc) hm
  | map es => exact fun e he => ⟨low_mono (h e he).1 hm, low_mono (h e he).2 hm⟩
  | mapr c bs es => exact fun e he => ⟨low_mono (h e he).1 hm, low_mono (h e he).2 hm⟩
  | mit m' c s => cases m' with
    | none => trivial
    | some k => exact Nat.lt_of_lt_of_le h hm
  | lrec b r vs => exact fun c hc => low_mono (h c hc) hm
  | row g s cs => exact fun c hc => low_mono (h c hc) hm
  | _ => trivial
theorem low_bytes (n g : Nat) (r : List UInt8) : LowO n (.row g 1 (r.map byteA)) := by
  intro c hc
  obtain ⟨b, _, rfl⟩ := List.mem_map.1 hc
  exact .d _
theorem gq25 {P Q : Prop} (h : Q) (e : Hd Q → P := by intro h; (repeat' first | simp -dsimp only [↓cA_u, ↓acallL, ↓loopL, ↓bP_u, ↓gF_b, ↓gT_b, ↓gF_0, ↓gT_0, ↓gFm_b, ↓gTm_b, ↓gFm_0, ↓gTm_0, ↓fl_u, ↓nfl_u, ↓gFl_b, ↓gTl_b, ↓gFl_0, ↓gTl_0, ↓il_u, ↓cp_u, ↓orC_b, ↓anC_b, ↓z1_u, ↓z2_u, ↓m1_u, iN, bT, bF, eN, ↓binC, ↓unC, ↓condC_b, ↓guardC_T, ↓guardC_F, ↓guardC_0, ↓pickC_b, ↓lenC, ↓slcC, ↓convC, ↓boxC, ↓allocC, ↓loadC, ↓storeC, ↓nilC, ↓faddrC, ↓fieldC, ↓iaddrC, ↓idxSC, ↓idxAC, ↓extractC, ↓buildC, ↓mksliceC, ↓appendC, ↓isnilC, ↓maxC, ↓minC, ↓callvC, ↓mkmapC, ↓mgetC, ↓msetC, ↓mdelC, ↓headC_cons, ↓rangeC, ↓BBL_true, ↓BBL_false, ↓BBL_not, binA, intOp, strOp, unA, esOf, bnd, intV, cellsA, fillV, srcE, dm, dm1, consO, cellA, maxL, minL, keepO, Q0, Q1, Q2, Q3, Q4, Q5, len_app, get_app, get_app0, set_app, set_app0, Q6, Q7, Q8, Q9, Q10, Q11, Q12, Q13, Q14, Nat.reduceAdd, Q15, Int.reduceToNat, Q16, Q17, Q18, Q19, Q20, reduceIte, Q21, Q22, recsE_len, rep, splice, toDs, toD, chunks, Q23, Q24, Q25, Q26, Q27, Q28, Nat.reduceLeDiff, Q29, Nat.reduceSub, Q30, Q31, Q32, sc, Q33, Q34, Q35, Q36, Q37, Q26, Q38, Q39, n0gt, n1gt, n2gt, n0eq, n1eq0, n1eq, n2eq, n0ne, n1ne, n1ne0, n0ne1, i0ne, i0eq, Bool.not_true, Bool.not_false, List.length_map, Bool.and_false, Bool.and_self, Bool.false_and, Bool.not_false, Bool.not_true, Bool.true_and, Int.toNat_natCast, Int.toNat_zero, List.drop_zero, List.length_map, List.length_nil, List.nil_append, List.take_length, Nat.sub_zero, Nat.zero_add, Option.isSome_none, Option.isSome_some, Option.map_none, Option.map_some, appendRC, bcs_length, beq_self_eq_true, bne_self_eq_false, growC, srcE] | with_reducible refine andA ?_ | fail); exact h.go) : P := e ⟨h⟩
theorem c_bytesCloneM {σ : List AObj} {r : List UInt8} (hr : r.length ≤ 1073741824) {K : AV → List AObj → Prop} (hK : ∀ g, K (.rsl σ.length g 1 0 r.length) (σ ++ [.row g 1 (r.map byteA)])) :
    ACall Try.prog n_bytes_Clone [.d (.slice (bcs r))] σ K := by
  refine ACall.weaken ?_
  refine acall_keep em_bytes_Clone.is rfl (fun s => List.range' σ.length (s.length - σ.length)) fun hl _ => em_bytes_Clone.goes ?_
  have fin : ∀ g, EndsK σ.length (fun s => List.range' σ.length (s.length - σ.length)) (fun r s => ∃ r' s', Weak [r] s [r'] s' ∧ K r' s') (some [.rsl σ.length g 1 0 r.length]) (σ ++ [.row g 1 (r.map byteA)]) := fun g =>
    endsK_prefix0 (σ' := σ) (os := [.row g 1 (r.map byteA)]) rfl (by simp) hl (by simpa using low_bytes _ g r) (.rsl _ _ _ _ _ (by simp)) ⟨_, _, .refl _ _, hK g⟩
  have hcell : ∀ x ∈ bcs r, x.length = 1 := bcs_one
  simp only [Sm_bytes_Clone, iN, bT, bF, eN]
  cases r with
  | nil =>
    simp only [isnilC, esOf, bcs, List.map_nil]
    refine ⟨?_, ?_⟩
    · refine gq16 ?_
      refine endsK_none0 (r := .exact []) (by simp) hl rfl ?_
      refine ⟨.rsl σ.length 0 1 0 0, σ ++ [.row 0 1 []], ?_, hK 0⟩
      exact .row 0 1 rfl (by omega) (.refl _ _)
    · refine gq25 ?_
      exact fin 1
  | cons b r =>
    have hfl := bcs_flat (b :: r)
    obtain ⟨es, hes⟩ : ∃ es, bcs (b :: r) = es := ⟨_, rfl⟩
    have hlen : es.length = (b :: r).length := by rw [← hes]; exact bcs_length _
    rw [hes] at hfl hcell ⊢
    cases es with
    | nil => simp at hlen
    | cons e es =>
      simp only [isnilC, esOf]
      refine gq25 ?_
      refine ⟨by simp at hlen hr; omega, ?_⟩
      have := fin 1
      rw [← hfl, ← hlen] at this
      exact this
def ByteX (n : Nat) (s : List AObj) (c : AV) (r : List UInt8) : Prop := ∃ t g, n ≤ t ∧ c = .rsl t g 1 0 r.length ∧ s[t]? = some (.row g 1 (r.map byteA))
def RecsX (n : Nat) (s : List AObj) (c : AV) (rs : List (List UInt8)) : Prop :=
  ∃ t g cs, n ≤ t ∧ c = .rsl t g 1 0 rs.length ∧ s[t]? = some (.row g 1 cs) ∧ cs.length = rs.length ∧ ∀ (i : Nat) (r : List UInt8), rs[i]? = some r → ∃ x, cs[i]? = some x ∧ ByteX n s x r
theorem ByteX.app {n : Nat} {s : List AObj} {c : AV} {r : List UInt8} (h : ByteX n s c r) (τ : List AObj) : ByteX n (s ++ τ) c r := by
  obtain ⟨t, g, h1, h2, h3⟩ := h
  exact ⟨t, g, h1, h2, get_left h3⟩
theorem ByteX.set {n k : Nat} {s : List AObj} {c : AV} {r : List UInt8} (h : ByteX n s c r) (hk : k < n) (X : AObj) : ByteX n (s.set k X) c r := by
  obtain ⟨t, g, h1, h2, h3⟩ := h
  exact ⟨t, g, h1, h2, by rw [List.getElem?_set_ne (by omega)]; exact h3⟩
theorem ByteX.mono {n m : Nat} {s : List AObj} {c : AV} {r : List UInt8} (h : ByteX n s c r) (hm : m ≤ n) : ByteX m s c r := by
  obtain ⟨t, g, h1, h2, h3⟩ := h
  exact ⟨t, g, by omega, h2, h3⟩
theorem ByteX.low {n m : Nat} {s : List AObj} {c : AV} {r : List UInt8} (h : ByteX n s c r) (hm : s.length ≤ m) : Low m c := by
  obtain ⟨t, g, h1, h2, h3⟩ := h
  subst h2
  exact .rsl _ _ _ _ _ (by have := lt_len h3; omega)
theorem RecsX.app {n : Nat} {s : List AObj} {c : AV} {rs : List (List UInt8)} (h : RecsX n s c rs) (τ : List AObj) : RecsX n (s ++ τ) c rs := by
  obtain ⟨t, g, cs, h1, h2, h3, h4, h5⟩ := h
  exact ⟨t, g, cs, h1, h2, get_left h3, h4, fun i r hr => by obtain ⟨x, a, b⟩ := h5 i r hr; exact ⟨x, a, b.app τ⟩⟩
theorem RecsX.set {n k : Nat} {s : List AObj} {c : AV} {rs : List (List UInt8)} (h : RecsX n s c rs) (hk : k < n) (X : AObj) : RecsX n (s.set k X) c rs := by
  obtain ⟨t, g, cs, h1, h2, h3, h4, h5⟩ := h
  exact ⟨t, g, cs, h1, h2, by rw [List.getElem?_set_ne (by omega)]; exact h3, h4, fun i r hr => by obtain ⟨x, a, b⟩ := h5 i r hr; exact ⟨x, a, b.set hk X⟩⟩
theorem RecsX.mono {n m : Nat} {s : List AObj} {c : AV} {rs : List (List UInt8)} (h : RecsX n s c rs) (hm : m ≤ n) : RecsX m s c rs := by
  obtain ⟨t, g, cs, h1, h2, h3, h4, h5⟩ := h
  exact ⟨t, g, cs, by omega, h2, h3, h4, fun i r hr => by obtain ⟨x, a, b⟩ := h5 i r hr; exact ⟨x, a, b.mono hm⟩⟩
theorem RecsX.low {n m : Nat} {s : List AObj} {c : AV} {rs : List (List UInt8)} (h : RecsX n s c rs) (hm : s.length ≤ m) : Low m c := by
  obtain ⟨t, g, cs, h1, h2, h3, h4, h5⟩ := h
  subst h2
  exact .rsl _ _ _ _ _ (by have := lt_len h3; omega)
theorem gq26 {A P Q : Prop} (a : A) (h : Q) (e : A → Hd Q → P := by intro a h; (repeat' first | simp -dsimp only [↓cA_u, ↓acallL, ↓loopL, ↓bP_u, ↓gF_b, ↓gT_b, ↓gF_0, ↓gT_0, ↓gFm_b, ↓gTm_b, ↓gFm_0, ↓gTm_0, ↓fl_u, ↓nfl_u, ↓gFl_b, ↓gTl_b, ↓gFl_0, ↓gTl_0, ↓il_u, ↓cp_u, ↓orC_b, ↓anC_b, ↓z1_u, ↓z2_u, ↓m1_u, iN, bT, bF, eN, ↓binC, ↓unC, ↓condC_b, ↓guardC_T, ↓guardC_F, ↓guardC_0, ↓pickC_b, ↓lenC, ↓slcC, ↓convC, ↓boxC, ↓allocC, ↓loadC, ↓storeC, ↓nilC, ↓faddrC, ↓fieldC, ↓iaddrC, ↓idxSC, ↓idxAC, ↓extractC, ↓buildC, ↓mksliceC, ↓appendC, ↓isnilC, ↓maxC, ↓minC, ↓callvC, ↓mkmapC, ↓mgetC, ↓msetC, ↓mdelC, ↓headC_cons, ↓rangeC, ↓BBL_true, ↓BBL_false, ↓BBL_not, binA, intOp, strOp, unA, esOf, bnd, intV, cellsA, fillV, srcE, dm, dm1, consO, cellA, maxL, minL, keepO, Q0, Q1, Q2, Q3, Q4, Q5, len_app, get_app, get_app0, set_app, set_app0, Q6, Q7, Q8, Q9, Q10, Q11, Q12, Q13, Q14, Nat.reduceAdd, Q15, Int.reduceToNat, Q16, Q17, Q18, Q19, Q20, reduceIte, Q21, Q22, recsE_len, rep, splice, toDs, toD, chunks, Q23, Q24, Q25, Q26, Q27, Q28, Nat.reduceLeDiff, Q29, Nat.reduceSub, Q30, Q31, Q32, sc, Q33, Q34, Q35, Q36, Q37, Q26, Q38, Q39, n0gt, n1gt, n2gt, n0eq, n1eq0, n1eq, n2eq, n0ne, n1ne, n1ne0, n0ne1, i0ne, i0eq, Bool.not_true, Bool.not_false, List.length_map, Bool.and_false, Bool.and_self, Bool.false_and, Bool.not_false, Bool.not_true, Bool.true_and, Int.toNat_natCast, Int.toNat_zero, List.drop_zero, List.length_map, List.length_nil, List.nil_append, List.take_length, Nat.sub_zero, Nat.zero_add, Option.isSome_none, Option.isSome_some, Option.map_none, Option.map_some, appendRC, bcs_length, beq_self_eq_true, bne_self_eq_false, growC, srcE, a] | with_reducible refine andA ?_ | fail); exact h.go) : P := e a ⟨h⟩
theorem c_opCloneM {σ : List AObj} {o : TOp} (hr : o.recs.length ≤ 1073741824) (hb : ∀ r ∈ o.recs, r.length ≤ 1073741824) {K : AV → List AObj → Prop}
    (hK : ∀ τ c, RecsX σ.length (σ ++ τ) c o.recs → (∀ x ∈ τ, LowO (σ ++ τ).length x) → K (.agg [.d (.int .i64 o.kind), .d (.str o.topic), .d (.str o.group), .d (.int .i64 o.offset), c]) (σ ++ τ)) :
    ACall Try.prog n_op_Clone [opA o] σ K := by
  refine acall_keep em_op_Clone.is rfl (fun s => List.range' σ.length (s.length - σ.length)) fun hl _ => em_op_Clone.goes ?_
  simp only [Sm_op_Clone, iN, bT, bF, eN, zl2, opA]
  refine gq16 ?_
  obtain ⟨A, hA⟩ : ∃ A, AObj.box [.d (.int .i64 o.kind), .d (.str o.topic), .d (.str o.group), .d (.int .i64 o.offset), .d (.slice (recsE o.recs))] = A := ⟨_, rfl⟩
  obtain ⟨B, hB⟩ : ∃ B, AObj.box [.d (.int .i64 0), .d (.str []), .d (.str []), .d (.int .i64 0), .exact []] = B := ⟨_, rfl⟩
  rw [hA, hB]
  refine loopC_countW o.recs.length (fun j vs s => ∃ cs T, vs = [.rsl (σ.length + 2) j 1 0 j, .d (.int .i64 j)] ∧ s = σ ++ (A :: B :: .row j 1 cs :: T) ∧ cs.length = j ∧ (∀ x ∈ T, LowO s.length x) ∧ ∀ (i : Nat) (r : List UInt8), o.recs[i]? = some r → i < j → ∃ x, cs[i]? = some x ∧ ByteX (σ.length + 3) s x r)
    (.row 0 1 rfl (by omega) (.refl _ _)) ⟨[], [], by simp, by simp, rfl, by simp, fun i r _ h => by omega⟩ ?_
  rintro j vs s hj ⟨cs, T, rfl, rfl, hcs, hT, hX⟩
  by_cases hlt : j < o.recs.length
  · have hd : decide ((j : Int) < (o.recs.length : Int)) = true := by simp; omega
    have hx : o.recs[j]? = some o.recs[j] := by simp [hlt]
    have hbx := hb _ (List.getElem_mem hlt)
    obtain ⟨x, hxe⟩ : ∃ x, o.recs[j] = x := ⟨_, rfl⟩
    rw [hxe] at hx hbx
    refine gq17 (gqc0 hd (recsE_get hx)) ?_
    refine c_bytesCloneM hbx fun g => ?_
    refine gq26 (wk1 j (by omega)) ?_
    have hlen : (σ ++ (A :: B :: AObj.row (j + 1) 1 (cs ++ [AV.rsl (σ.length + (T.length + 3)) g 1 0 x.length]) :: (T ++ [AObj.row g 1 (List.map byteA x), AObj.row 0 1 [AV.rsl (σ.length + (T.length + 3)) g 1 0 x.length]]))).length = σ.length + (T.length + 5) := by simp
    have hold : (σ ++ (A :: B :: AObj.row j 1 cs :: T)).length = σ.length + (T.length + 3) := by simp
    refine Again.next hlt ⟨_, _, rfl, rfl, by simp [hcs], fun y hy => ?_, fun i r hr hi => ?_⟩
    · rw [hlen]
      rcases List.mem_append.1 hy with hy | hy
      · have := hT y hy
        rw [hold] at this
        exact lowO_mono this (by omega)
      · simp only [List.mem_cons, List.not_mem_nil, or_false] at hy
        rcases hy with rfl | rfl
        · exact low_bytes _ g x
        · intro c hc
          simp only [List.mem_singleton] at hc
          subst hc
          exact .rsl _ _ _ _ _ (by omega)
    · by_cases hij : i < j
      · obtain ⟨y, h1, h2⟩ := hX i r hr hij
        refine ⟨y, by rw [List.getElem?_append_left (by omega)]; exact h1, ?_⟩
        have h3 := (h2.set (k := σ.length + 2) (by omega) (AObj.row (j + 1) 1 (cs ++ [AV.rsl (σ.length + (T.length + 3)) g 1 0 x.length]))).app [AObj.row g 1 (List.map byteA x), AObj.row 0 1 [AV.rsl (σ.length + (T.length + 3)) g 1 0 x.length]]
        rw [set_app, List.append_assoc] at h3
        exact h3
      · have : i = j := by omega
        subst this
        rw [hx] at hr
        cases hr
        refine ⟨_, by rw [List.getElem?_append_right (by omega), hcs, Nat.sub_self]; rfl, _, g, ?_, rfl, ?_⟩
        · omega
        · rw [get_app]
          show (A :: B :: AObj.row _ 1 _ :: (T ++ _))[T.length + 3]? = _
          rw [List.getElem?_cons_succ, List.getElem?_cons_succ, List.getElem?_cons_succ, get_app0]; rfl
  · have hd : decide ((j : Int) < (o.recs.length : Int)) = false := by simp; omega
    have hj' : j = o.recs.length := by omega
    have hold : (σ ++ (A :: B :: AObj.row j 1 cs :: T)).length = σ.length + (T.length + 3) := by simp
    have hRX : ∀ A' B', RecsX σ.length (σ ++ (A' :: B' :: AObj.row j 1 cs :: T)) (.rsl (σ.length + 2) j 1 0 j) o.recs := fun A' B' => by
      refine ⟨σ.length + 2, j, cs, by omega, by rw [hj'], by rw [get_app]; rfl, by omega, fun i r hr => ?_⟩
      have hi := lt_len hr
      obtain ⟨y, h1, h2⟩ := hX i r hr (by omega)
      refine ⟨y, h1, ?_⟩
      have h3 := (h2.set (k := σ.length) (by omega) A').set (k := σ.length + 1) (by omega) B'
      rw [set_app0, set_app] at h3
      exact h3.mono (by omega)
    rw [← hA, ← hB]
    refine gq17 hd ?_
    have hbox : ∀ x ∈ [AObj.box [.d (.int .i64 o.kind), .d (.str o.topic), .d (.str o.group), .d (.int .i64 o.offset), AV.rsl (σ.length + 2) j 1 0 j]], LowO (σ.length + (T.length + 3)) x := fun x hx => by
      simp only [List.mem_singleton] at hx
      subst hx
      intro c hc
      simp only [List.mem_cons, List.not_mem_nil, or_false] at hc
      rcases hc with rfl | rfl | rfl | rfl | rfl
      · exact .d _
      · exact .d _
      · exact .d _
      · exact .d _
      · exact .rsl _ _ _ _ _ (by omega)
    have hcsL : LowO (σ.length + (T.length + 3)) (.row j 1 cs) := fun c hc => by
      obtain ⟨i, hi⟩ := List.mem_iff_getElem?.1 hc
      have hil := lt_len hi
      obtain ⟨y, h1, h2⟩ := hX i (o.recs[i]'(by omega)) (List.getElem?_eq_getElem _) (by omega)
      rw [hi] at h1; cases h1
      exact h2.low (by rw [hold]; exact Nat.le_refl _)
    have hT' : ∀ x ∈ T, LowO (σ.length + (T.length + 3)) x := fun x hx => by have := hT x hx; rwa [hold] at this
    refine endsK_prefix0 (σ' := σ) (os := _ :: _ :: .row j 1 cs :: T) rfl (by simp) hl ?_ ?_ (hK _ _ (hRX _ _) ?_)
    · intro x hx
      simp only [List.mem_cons] at hx
      show LowO (σ.length + (T.length + 3)) x
      rcases hx with rfl | rfl | rfl | hx
      · exact hbox _ (by simp)
      · exact hbox _ (by simp)
      · exact hcsL
      · exact hT' x hx
    · refine .agg _ fun c hc => ?_
      simp only [List.mem_cons, List.not_mem_nil, or_false] at hc
      rcases hc with rfl | rfl | rfl | rfl | rfl
      · exact .d _
      · exact .d _
      · exact .d _
      · exact .d _
      · exact .rsl _ _ _ _ _ (by simp)
    · intro x hx
      rw [show (σ ++ (_ :: _ :: AObj.row j 1 cs :: T)).length = σ.length + (T.length + 3) from by simp]
      simp only [List.mem_cons] at hx
      rcases hx with rfl | rfl | rfl | hx
      · exact hbox _ (by simp)
      · exact hbox _ (by simp)
      · exact hcsL
      · exact hT' x hx
end Go.Proofs.Ytnfienilahfdjaa
