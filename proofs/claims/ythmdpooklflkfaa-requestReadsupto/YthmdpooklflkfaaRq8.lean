/- Contracts: how the document reads requests, signatures and batches. -/
import Derived.Test.YthmdpooklflkfaaRd1
import Derived.Test.YthmdpooklflkfaaRq7
set_option linter.all false
set_option maxRecDepth 100000
set_option linter.unusedSimpArgs false
set_option linter.unusedVariables false
namespace Go.Proofs.Ythmdpooklflkfaa
open Go.AW

theorem c_rqrParse {σ : List AObj} {b : List UInt8} (hb : b.length ≤ 1073741824) {K : AV → List AObj → Prop} (hK : K (.tup [reqA (reqP false b).1, .d (.int .i64 (reqP false b).2)]) σ) : ACall Try.prog n_r08_Parse [.d (.slice (bcs b))] σ K := by
  refine acall_of isA_r08_Parse rfl fun hl _ => s_r08_Parse ?_
  rw [reqP_like false true] at hK
  unfold reqP at hK
  simp only at hK
  have k1 := numP_le true 7 ⟨b, 0⟩
  have k2 := numP_room true 7 ⟨b, 0⟩
  obtain ⟨k, hk⟩ : ∃ k, numP true 7 ⟨b, 0⟩ = k := ⟨_, rfl⟩
  rw [hk] at hK k1 k2
  have t1 := numP_le true 9007199254740992 k.2
  have t2 := numP_room true 9007199254740992 k.2
  obtain ⟨t, ht⟩ : ∃ t, numP true 9007199254740992 k.2 = t := ⟨_, rfl⟩
  rw [ht] at hK t1 t2
  obtain ⟨o, ho⟩ : ∃ o, takeOpP true nameF t.2 = o := ⟨_, rfl⟩
  rw [ho] at hK
  simp only at k2
  have w1 : IntKind.i64.wrap (k.1 : Int) = k.1 := wrap64i (by omega) (by omega)
  have w2 : IntKind.i64.wrap (t.1 : Int) = t.1 := wrap64i (by omega) (by omega)
  simp only [S_r08_Parse]
  (repeat' (first | (refine gq34 ?_; try with_reducible exact True.intro) | ((with_reducible refine And.intro ?_ ?_); focus (first | omega | rfl | decide | (simp; done)))))
  refine c_rrRead ?_
  (repeat' (first | (refine gq34 ?_; try with_reducible exact True.intro) | ((with_reducible refine And.intro ?_ ?_); focus (first | omega | rfl | decide | (simp; done)))))
  refine c_rrNum (m := 7) (s := ⟨b, 0⟩) (by omega) (by (repeat' (first | (refine gq34 ?_; try with_reducible exact True.intro) | ((with_reducible refine And.intro ?_ ?_); focus (first | omega | rfl | decide | (simp; done)))))) ⟨.inl rfl, fun h => absurd rfl h⟩ hb ?_
  rw [hk]
  intro c1 hc1
  (repeat' (first | (refine gq35 w1 ?_; try with_reducible exact True.intro) | ((with_reducible refine And.intro ?_ ?_); focus (first | omega | rfl | decide | (simp; done)))))
  refine c_rrNum (m := 9007199254740992) (s := k.2) (c := c1) (by omega) (by (repeat' (first | (refine gq34 ?_; try with_reducible exact True.intro) | ((with_reducible refine And.intro ?_ ?_); focus (first | omega | rfl | decide | (simp; done)))))) hc1 (by omega) ?_
  rw [ht]
  intro c2 hc2
  (repeat' (first | (refine gq35 w2 ?_; try with_reducible exact True.intro) | ((with_reducible refine And.intro ?_ ?_); focus (first | omega | rfl | decide | (simp; done)))))
  refine c_rTake (s := t.2) (c := c2) (by (repeat' (first | (refine gq34 ?_; try with_reducible exact True.intro) | ((with_reducible refine And.intro ?_ ?_); focus (first | omega | rfl | decide | (simp; done)))))) hc2 (by omega) ?_
  rw [ho]
  intro c3 hc3
  simp only [opA]
  (repeat' (first | (refine gq35 (gqc1 w1 w2) ?_; try with_reducible exact True.intro) | ((with_reducible refine And.intro ?_ ?_); focus (first | omega | rfl | decide | (simp; done)))))
  refine c_rrDone (s := o.2) (c := c3) (by (repeat' (first | (refine gq34 ?_; try with_reducible exact True.intro) | ((with_reducible refine And.intro ?_ ?_); focus (first | omega | rfl | decide | (simp; done)))))) hc3 ?_
  rw [show (if o.2.e = 0 ∧ 0 < o.2.b.length then (12 : Int) else o.2.e) = doneE o.2 from rfl]
  cases h1 : (doneE o.2 == 0)
  · have h1' : doneE o.2 ≠ 0 := by simpa using h1
    have h3 : (doneE o.2 != 0) = true := by simpa using h1'
    have h2' : lateE (doneE o.2) t.1 = doneE o.2 := by unfold lateE; rw [if_neg (fun h => h1' h.1)]
    rw [h2', pickR, if_neg h1'] at hK
    (repeat' (first | (refine gq35 (gqc1 w1 (gqc1 w2 (gqc1 h1 h3))) ?_; try with_reducible exact True.intro) | ((with_reducible refine And.intro ?_ ?_); focus (first | omega | rfl | decide | (simp; done)))))
    (first | refine ends_plain (by simp [Low_d, dmT, dm, dm1, pack, Low_tup, Low_agg, Low_exact]) hl ?_ | refine ends_plain0 (by simp [Low_d, dmT, dm, dm1, pack, Low_tup, Low_agg, Low_exact]) hl ?_)
    exact hK
  · have h1' : doneE o.2 = 0 := by simpa using h1
    have h3 : (doneE o.2 != 0) = false := by simp [h1']
    cases h2 : ((t.1 : Int) == 0)
    · have h2' : lateE (doneE o.2) t.1 = 0 := by unfold lateE; rw [if_neg (fun h => by simp at h2; omega)]; exact h1'
      rw [h2', pickR, if_pos rfl] at hK
      (repeat' (first | (refine gq35 (gqc1 w1 (gqc1 w2 (gqc1 h1 (gqc1 h2 h3)))) ?_; try with_reducible exact True.intro) | ((with_reducible refine And.intro ?_ ?_); focus (first | omega | rfl | decide | (simp; done)))))
      (first | refine ends_plain (by simp [Low_d, dmT, dm, dm1, pack, Low_tup, Low_agg, Low_exact]) hl ?_ | refine ends_plain0 (by simp [Low_d, dmT, dm, dm1, pack, Low_tup, Low_agg, Low_exact]) hl ?_)
      exact hK
    · have h2' : lateE (doneE o.2) t.1 = 80 := by unfold lateE; rw [if_pos ⟨h1', by simpa using h2⟩]
      rw [h2', pickR, if_neg (by decide)] at hK
      (repeat' (first | (refine gq35 (gqc1 w1 (gqc1 w2 (gqc1 h1 (gqc1 h2 (show ((80 : Int) != 0) = true from rfl))))) ?_; try with_reducible exact True.intro) | ((with_reducible refine And.intro ?_ ?_); focus (first | omega | rfl | decide | (simp; done)))))
      (first | refine ends_plain (by simp [Low_d, dmT, dm, dm1, pack, Low_tup, Low_agg, Low_exact]) hl ?_ | refine ends_plain0 (by simp [Low_d, dmT, dm, dm1, pack, Low_tup, Low_agg, Low_exact]) hl ?_)
      exact hK
theorem c_rqrTakeSign {σ : List AObj} {id : Nat} {c : AV} {s : Rd} (hσ : σ[id]? = some (rrO c s.e)) (hc : RCell c s) (hB : s.b.length ≤ 1073741824) {K : AV → List AObj → Prop}
    (hK : ∀ c', RCell c' (signP true s).2 → K (sgA (signP true s).1) (σ.set id (rrO c' (signP true s).2.e))) : ACall Try.prog n_r08_TakeSign [.box id 0] σ K := by
  refine acall_of isA_r08_TakeSign rfl fun hl _ => s_r08_TakeSign ?_
  (
  have hlenX : ∀ X, (σ.set id X).length = σ.length := fun X => List.length_set
  have hget : ∀ X τ, (σ.set id X ++ τ)[id]? = some X := fun X τ => get_left (get_set_self hσ)
  have hput : ∀ X τ y, (σ.set id X ++ τ).set id y = σ.set id y ++ τ := fun X τ y => by rw [set_left (get_set_self hσ), List.set_set]
  have hput0 : ∀ τ y, (σ ++ τ).set id y = σ.set id y ++ τ := fun τ y => set_left hσ
  have lget : ∀ X τ k, (σ.set id X ++ τ)[σ.length + k]? = τ[k]? := fun X τ k => by rw [← hlenX X, get_app]
  have lget0 : ∀ X τ, (σ.set id X ++ τ)[σ.length]? = τ[0]? := fun X τ => by rw [← hlenX X, get_app0]
  have lset : ∀ X τ k y, (σ.set id X ++ τ).set (σ.length + k) y = σ.set id X ++ τ.set k y := fun X τ k y => by rw [← hlenX X, set_app]
  have lset0 : ∀ X τ y, (σ.set id X ++ τ).set σ.length y = σ.set id X ++ τ.set 0 y := fun X τ y => by rw [← hlenX X, set_app0])
  have hgetR : ∀ c e τ, (σ.set id (rrO c e) ++ τ)[id]? = some (.box [c, .d (.int .i64 e)]) := fun c e τ => hget _ τ
  unfold signP at hK
  simp only at hK
  have k1 := numP_le true 20 s
  have k2 := numP_room true 20 s
  obtain ⟨k, hk⟩ : ∃ k, numP true 20 s = k := ⟨_, rfl⟩
  rw [hk] at hK k1 k2
  have t1 := numP_le true 9007199254740992 k.2
  obtain ⟨t, ht⟩ : ∃ t, numP true 9007199254740992 k.2 = t := ⟨_, rfl⟩
  rw [ht] at hK t1
  have w1 : IntKind.i64.wrap (k.1 : Int) = k.1 := wrap64i (by omega) (by omega)
  have w2 : IntKind.i64.wrap (t.1 : Int) = t.1 := wrap64i (by omega) (by omega)
  simp only [S_r08_TakeSign]
  (repeat' (first | (refine gq34 ?_; try with_reducible exact True.intro) | ((with_reducible refine And.intro ?_ ?_); focus (first | omega | rfl | decide | (simp; done)))))
  refine c_rrNum (m := 20) (by omega) (get_left hσ) hc hB ?_
  rw [hk]
  intro c1 hc1
  (repeat' (first | (refine gq35 (gqc1 hput0 (gqc1 hlenX (gqc1 hgetR (gqc1 hput (gqc1 lget (gqc1 lget0 (gqc1 lset (gqc1 lset0 w1)))))))) ?_; try with_reducible exact True.intro) | ((with_reducible refine And.intro ?_ ?_); focus (first | omega | rfl | decide | (simp; done)))))
  refine c_rrNum (m := 9007199254740992) (s := k.2) (by omega) (hget _ _) hc1 (by omega) ?_
  rw [ht]
  intro c2 hc2
  by_cases h : t.2.e = 0
  · have b1 : (t.2.e == 0) = true := by simpa using h
    cases h2 : ((t.1 : Int) == 0)
    · have hz : signZ true t = t.2 := by unfold signZ; rw [if_neg (fun h => by simp at h2; omega)]
      have b2 : (t.2.e != 0) = false := by simp [h]
      have := hK c2 (by rw [hz]; exact hc2)
      rw [hz, if_pos h] at this
      (repeat' (first | (refine gq35 (gqc1 hput0 (gqc1 hlenX (gqc1 hgetR (gqc1 hput (gqc1 lget (gqc1 lget0 (gqc1 lset (gqc1 lset0 (gqc1 w1 (gqc1 w2 (gqc1 b1 (gqc1 h2 b2)))))))))))) ?_; try with_reducible exact True.intro) | ((with_reducible refine And.intro ?_ ?_); focus (first | omega | rfl | decide | (simp; done)))))
      exact ends_set (by simp [Low_d, dmT, dm, dm1, pack, Low_agg]) hl (rrO_low hc2.low) this
    · have hz : signZ true t = t.2.fail true 81 := by
        unfold signZ; rw [if_pos ⟨h, by simpa using h2⟩]
      have he : (t.2.fail true 81).e = 81 := by rw [fail0 h (by decide)]
      (repeat' (first | (refine gq35 (gqc1 hput0 (gqc1 hlenX (gqc1 hgetR (gqc1 hput (gqc1 lget (gqc1 lget0 (gqc1 lset (gqc1 lset0 (gqc1 w1 (gqc1 w2 (gqc1 b1 h2))))))))))) ?_; try with_reducible exact True.intro) | ((with_reducible refine And.intro ?_ ?_); focus (first | omega | rfl | decide | (simp; done)))))
      refine c_rrFail (s := t.2) (hget _ _) hc2 ?_
      intro c3 hc3
      have := hK c3 (by rw [hz]; exact hc3)
      rw [hz, if_neg (by rw [he]; decide)] at this
      rw [he] at this ⊢
      (repeat' (first | (refine gq35 (gqc1 hput0 (gqc1 hlenX (gqc1 hgetR (gqc1 hput (gqc1 lget (gqc1 lget0 (gqc1 lset (gqc1 lset0 (gqc1 h2 (show ((81 : Int) != 0) = true from rfl)))))))))) ?_; try with_reducible exact True.intro) | ((with_reducible refine And.intro ?_ ?_); focus (first | omega | rfl | decide | (simp; done)))))
      exact ends_set (by simp [Low_d, dmT, dm, dm1, pack, Low_agg]) hl (rrO_low hc3.low) this
  · have b1 : (t.2.e == 0) = false := by simpa using h
    have b2 : (t.2.e != 0) = true := by simpa using h
    have hz : signZ true t = t.2 := by unfold signZ; rw [if_neg (fun g => h g.1)]
    have := hK c2 (by rw [hz]; exact hc2)
    rw [hz, if_neg h] at this
    (repeat' (first | (refine gq35 (gqc1 hput0 (gqc1 hlenX (gqc1 hgetR (gqc1 hput (gqc1 lget (gqc1 lget0 (gqc1 lset (gqc1 lset0 (gqc1 w1 (gqc1 w2 (gqc1 b1 b2))))))))))) ?_; try with_reducible exact True.intro) | ((with_reducible refine And.intro ?_ ?_); focus (first | omega | rfl | decide | (simp; done)))))
    exact ends_set (by simp [Low_d, dmT, dm, dm1, pack, Low_agg]) hl (rrO_low hc2.low) this
theorem c_rqrTakeBatch {σ : List AObj} {id : Nat} {c : AV} {s : Rd} (hσ : σ[id]? = some (rrO c s.e)) (hc : RCell c s) (hB : s.b.length ≤ 1073741824) {K : AV → List AObj → Prop}
    (hK : ∀ c', RCell c' (batchP true s).2 → K (.d (.slice (batchE (batchP true s).1))) (σ.set id (rrO c' (batchP true s).2.e))) : ACall Try.prog n_r08_TakeBatch [.box id 0] σ K := by
  refine acall_of isA_r08_TakeBatch rfl fun hl _ => s_r08_TakeBatch ?_
  (
  have hlenX : ∀ X, (σ.set id X).length = σ.length := fun X => List.length_set
  have hget : ∀ X τ, (σ.set id X ++ τ)[id]? = some X := fun X τ => get_left (get_set_self hσ)
  have hput : ∀ X τ y, (σ.set id X ++ τ).set id y = σ.set id y ++ τ := fun X τ y => by rw [set_left (get_set_self hσ), List.set_set]
  have hput0 : ∀ τ y, (σ ++ τ).set id y = σ.set id y ++ τ := fun τ y => set_left hσ
  have lget : ∀ X τ k, (σ.set id X ++ τ)[σ.length + k]? = τ[k]? := fun X τ k => by rw [← hlenX X, get_app]
  have lget0 : ∀ X τ, (σ.set id X ++ τ)[σ.length]? = τ[0]? := fun X τ => by rw [← hlenX X, get_app0]
  have lset : ∀ X τ k y, (σ.set id X ++ τ).set (σ.length + k) y = σ.set id X ++ τ.set k y := fun X τ k y => by rw [← hlenX X, set_app]
  have lset0 : ∀ X τ y, (σ.set id X ++ τ).set σ.length y = σ.set id X ++ τ.set 0 y := fun X τ y => by rw [← hlenX X, set_app0])
  have hgetR : ∀ c e τ, (σ.set id (rrO c e) ++ τ)[id]? = some (.box [c, .d (.int .i64 e)]) := fun c e τ => hget _ τ
  have gset : ∀ X T m Y, (σ.set id X ++ (AObj.tok 9 m :: T)).set σ.length Y = σ.set id X ++ (Y :: T) := fun X T m Y => by rw [lset0]; rfl
  have gtok : ∀ X T m, (σ.set id X ++ (AObj.tok 9 m :: T))[σ.length]? = some (AObj.tok 9 m) := fun X T m => by rw [lget0]; rfl
  simp only [S_r08_TakeBatch]
  (repeat' (first | (refine gq34 ?_; try with_reducible exact True.intro) | ((with_reducible refine And.intro ?_ ?_); focus (first | omega | rfl | decide | (simp; done)))))
  refine c_rrNum (m := 4) (by omega) hσ hc hB ?_
  have n4 := numP_le true 4 s
  have nr := numP_room true 4 s
  intro c1 hc1
  obtain ⟨n, hn⟩ : ∃ n, (numP true 4 s).1 = n := ⟨_, rfl⟩
  obtain ⟨s1, hs1⟩ : ∃ s1, (numP true 4 s).2 = s1 := ⟨_, rfl⟩
  have hst : ∀ k, k ≤ n → (itemsP true k s1).2.e ≠ 0 → batchP true s = ([], (itemsP true k s1).2) := fun k hk h => by
    rw [← hs1] at h ⊢
    exact batchP_stuck (by omega) h
  have hend : batchP true s = (if ((itemsP true n s1).2.fail true (checkBatchF (itemsP true n s1).1)).e = 0 then (itemsP true n s1).1 else [], (itemsP true n s1).2.fail true (checkBatchF (itemsP true n s1).1)) := by
    unfold batchP; simp only [hn, hs1]
  rw [hn] at n4
  rw [hs1] at nr hc1
  rw [hn, hs1]
  have wn : IntKind.i64.wrap (n : Int) = n := wrap64i (by omega) (by omega)
  (repeat' (first | (refine gq35 wn ?_; try with_reducible exact True.intro) | ((with_reducible refine And.intro ?_ ?_); focus (first | omega | rfl | decide | (simp; done)))))
  refine loopC_countW n (fun k vs q => ∃ c2 T, vs = [.own σ.length (batchE (itemsP true k s1).1), .d (.int .i64 k)] ∧ q = σ.set id (rrO c2 (itemsP true k s1).2.e) ++ (.tok 9 k :: T) ∧ RCell c2 (itemsP true k s1).2)
    (.tok 0 [] 9 rfl (by simp) (.refl _ _)) ⟨c1, [], by rw [hlenX]; rfl, rfl, hc1⟩ ?_
  rintro k vs q hk ⟨c2, T, rfl, rfl, hc2⟩
  have hkl := itemsP_len true s1 k
  have hkr := itemsP_room true s1 k
  have hksz := itemsP_sz true s1 k
  have hsk := hst k hk
  have hon : (itemsP true (k + 1) s1) = ((itemsP true k s1).1 ++ [(oneP true (itemsP true k s1).2).1], (oneP true (itemsP true k s1).2).2) := rfl
  obtain ⟨l, hle⟩ : ∃ l, (itemsP true k s1).1 = l := ⟨_, rfl⟩
  obtain ⟨r, hre⟩ : ∃ r, (itemsP true k s1).2 = r := ⟨_, rfl⟩
  rw [hle] at hkl hksz hon ⊢
  rw [hre] at hkr hc2 hsk hon ⊢
  by_cases hlt : k < n
  · have hd : decide ((k : Int) < (n : Int)) = true := by simp; omega
    cases hre0 : (r.e == 0)
    · have he0 : r.e ≠ 0 := by simpa using hre0
      have he1 : (r.e != 0) = true := by simpa using he0
      have := hK c2 (by rw [hsk he0]; exact hc2)
      rw [hsk he0] at this
      (repeat' (first | (refine gq35 (gqc1 hput0 (gqc1 hlenX (gqc1 hgetR (gqc1 hput (gqc1 lget (gqc1 lget0 (gqc1 lset (gqc1 lset0 (gqc1 wn (gqc1 hd (gqc1 hre0 he1))))))))))) ?_; try with_reducible exact True.intro) | ((with_reducible refine And.intro ?_ ?_); focus (first | omega | rfl | decide | (simp; done)))))
      exact ends_set (by simp [Low_d, dmT, dm, dm1, pack]) hl (rrO_low hc2.low) this
    have hr0 : r.e = 0 := by simpa using hre0
    (repeat' (first | (refine gq35 (gqc1 hput0 (gqc1 hlenX (gqc1 hgetR (gqc1 hput (gqc1 lget (gqc1 lget0 (gqc1 lset (gqc1 lset0 (gqc1 wn (gqc1 hd hre0)))))))))) ?_; try with_reducible exact True.intro) | ((with_reducible refine And.intro ?_ ?_); focus (first | omega | rfl | decide | (simp; done)))))
    refine c_rrBytes (m := 1024) (s := r) (by omega) (hget _ _) hc2 (by omega) ?_
    intro c3 hc3
    have hb1 := bytesP_len1 true 1024 r
    have hbr := bytesP_room true 1024 r
    have hcut := @oneP_cut true r
    have hone : oneP true r = (⟨(reqP true (bytesP true 1024 r).1).1.client, (reqP true (bytesP true 1024 r).1).1.time, (reqP true (bytesP true 1024 r).1).1.op, (signP true ((bytesP true 1024 r).2.fail true (reqP true (bytesP true 1024 r).1).2)).1.1, (signP true ((bytesP true 1024 r).2.fail true (reqP true (bytesP true 1024 r).1).2)).1.2⟩, (signP true ((bytesP true 1024 r).2.fail true (reqP true (bytesP true 1024 r).1).2)).2) := rfl
    obtain ⟨bs, hbs⟩ : ∃ bs, (bytesP true 1024 r).1 = bs := ⟨_, rfl⟩
    obtain ⟨r1, hr1⟩ : ∃ r1, (bytesP true 1024 r).2 = r1 := ⟨_, rfl⟩
    rw [hbs] at hb1 hone ⊢
    rw [hr1] at hbr hc3 hcut hone ⊢
    rw [reqP_like true false] at hone
    cases he : (r1.e != 0)
    · have he0 : r1.e = 0 := by simpa using he
      (repeat' (first | (refine gq35 (gqc1 hput0 (gqc1 hlenX (gqc1 hgetR (gqc1 hput (gqc1 lget (gqc1 lget0 (gqc1 lset (gqc1 lset0 he)))))))) ?_; try with_reducible exact True.intro) | ((with_reducible refine And.intro ?_ ?_); focus (first | omega | rfl | decide | (simp; done)))))
      refine c_rqrParse (by omega) ?_
      obtain ⟨x, hx⟩ : ∃ x, (reqP false bs).1 = x := ⟨_, rfl⟩
      obtain ⟨e, hee⟩ : ∃ e, (reqP false bs).2 = e := ⟨_, rfl⟩
      rw [hx, hee] at hone ⊢
      simp only [reqA]
      (repeat' (first | (refine gq35 (gqc1 hput0 (gqc1 hlenX (gqc1 hgetR (gqc1 hput (gqc1 lget (gqc1 lget0 (gqc1 lset (gqc1 lset0 he)))))))) ?_; try with_reducible exact True.intro) | ((with_reducible refine And.intro ?_ ?_); focus (first | omega | rfl | decide | (simp; done)))))
      refine c_rrFail (s := r1) (hget _ _) hc3 ?_
      intro c4 hc4
      have hfb := failP_len true r1 e
      obtain ⟨r2, hr2⟩ : ∃ r2, r1.fail true e = r2 := ⟨_, rfl⟩
      rw [hr2] at hfb hone hc4 ⊢
      (repeat' (first | (refine gq35 (gqc1 hput0 (gqc1 hlenX (gqc1 hgetR (gqc1 hput (gqc1 lget (gqc1 lget0 (gqc1 lset (gqc1 lset0 he)))))))) ?_; try with_reducible exact True.intro) | ((with_reducible refine And.intro ?_ ?_); focus (first | omega | rfl | decide | (simp; done)))))
      refine c_rqrTakeSign (s := r2) (hget _ _) hc4 (by omega) ?_
      intro c5 hc5
      obtain ⟨g, hg⟩ : ∃ g, (signP true r2).1 = g := ⟨_, rfl⟩
      obtain ⟨r3, hr3⟩ : ∃ r3, (signP true r2).2 = r3 := ⟨_, rfl⟩
      rw [hg, hr3] at hone
      rw [hr3] at hc5
      rw [hg, hr3]
      simp only [sgA]
      (repeat' (first | (refine gq35 (gqc1 hput0 (gqc1 hlenX (gqc1 hgetR (gqc1 hput (gqc1 lget (gqc1 lget0 (gqc1 lset (gqc1 lset0 (gqc1 he (gqc1 gtok gset)))))))))) ?_; try with_reducible exact True.intro) | ((with_reducible refine And.intro ?_ ?_); focus (first | omega | rfl | decide | (simp; done)))))
      have e1 : (itemsP true (k + 1) s1).1 = l ++ [⟨x.client, x.time, x.op, g.1, g.2⟩] := by rw [hon, hone]
      have e2 : (itemsP true (k + 1) s1).2 = r3 := by rw [hon, hone]
      refine ⟨by rw [hkl], Again.next hlt ⟨c5, ?TT, ?aa, ?bb, by rw [e2]; exact hc5⟩⟩
      case bb => rw [e2, hkl]
      case aa =>
        rw [e1, wk1 k (by omega)]
        simp [batchE, signedD]
    · have he0 : r1.e ≠ 0 := by simpa using he
      have he1 : (r1.e == 0) = false := by simpa using he0
      have h1 : (itemsP true (k + 1) s1).2 = r1 := by rw [hon]; exact hcut he0
      have h2 := hst (k + 1) (by omega) (by rw [h1]; exact he0)
      rw [h1] at h2
      have := hK c3 (by rw [h2]; exact hc3)
      rw [h2] at this
      (repeat' (first | (refine gq35 (gqc1 hput0 (gqc1 hlenX (gqc1 hgetR (gqc1 hput (gqc1 lget (gqc1 lget0 (gqc1 lset (gqc1 lset0 (gqc1 he he1))))))))) ?_; try with_reducible exact True.intro) | ((with_reducible refine And.intro ?_ ?_); focus (first | omega | rfl | decide | (simp; done)))))
      exact ends_set (by simp [Low_d, dmT, dm, dm1, pack]) hl (rrO_low hc3.low) this
  · have hd : decide ((k : Int) < (n : Int)) = false := by simp; omega
    have hkn : k = n := by omega
    subst hkn
    rw [hle, hre] at hend
    have hok : okB l := ⟨by omega, fun x hx => sizes (by have := hksz x hx; omega)⟩
    cases he : (r.e == 0)
    · have he0 : r.e ≠ 0 := by simpa using he
      have he1 : (r.e != 0) = true := by simpa using he0
      have := hK c2 (by rw [hsk he0]; exact hc2)
      rw [hsk he0] at this
      (repeat' (first | (refine gq35 (gqc1 hput0 (gqc1 hlenX (gqc1 hgetR (gqc1 hput (gqc1 lget (gqc1 lget0 (gqc1 lset (gqc1 lset0 (gqc1 wn (gqc1 hd (gqc1 he he1))))))))))) ?_; try with_reducible exact True.intro) | ((with_reducible refine And.intro ?_ ?_); focus (first | omega | rfl | decide | (simp; done)))))
      exact ends_set (by simp [Low_d, dmT, dm, dm1, pack]) hl (rrO_low hc2.low) this
    · have he0 : r.e = 0 := by simpa using he
      (repeat' (first | (refine gq35 (gqc1 hput0 (gqc1 hlenX (gqc1 hgetR (gqc1 hput (gqc1 lget (gqc1 lget0 (gqc1 lset (gqc1 lset0 (gqc1 wn (gqc1 hd he)))))))))) ?_; try with_reducible exact True.intro) | ((with_reducible refine And.intro ?_ ?_); focus (first | omega | rfl | decide | (simp; done)))))
      refine c_rCheckBatch hok ?_
      (repeat' (first | (refine gq35 (gqc1 hput0 (gqc1 hlenX (gqc1 hgetR (gqc1 hput (gqc1 lget (gqc1 lget0 (gqc1 lset (gqc1 lset0 he)))))))) ?_; try with_reducible exact True.intro) | ((with_reducible refine And.intro ?_ ?_); focus (first | omega | rfl | decide | (simp; done)))))
      refine c_rrFail (s := r) (hget _ _) hc2 ?_
      intro c3 hc3
      have hfe : (r.fail true (checkBatchF l)).e = checkBatchF l := by
        unfold Rd.fail
        by_cases h : checkBatchF l = 0
        · rw [if_neg (fun g => g.2 h), he0, h]
        · rw [if_pos ⟨he0, h⟩]
      have := hK c3 (by rw [hend]; exact hc3)
      rw [hend] at this
      simp only at this
      rw [hfe] at this ⊢
      cases he2 : (checkBatchF l != 0)
      · rw [if_pos (by simpa using he2)] at this
        (repeat' (first | (refine gq35 (gqc1 hput0 (gqc1 hlenX (gqc1 hgetR (gqc1 hput (gqc1 lget (gqc1 lget0 (gqc1 lset (gqc1 lset0 he2)))))))) ?_; try with_reducible exact True.intro) | ((with_reducible refine And.intro ?_ ?_); focus (first | omega | rfl | decide | (simp; done)))))
        exact ends_set (by simp [Low_d, dmT, dm, dm1, pack]) hl (rrO_low hc3.low) this
      · rw [if_neg (by simpa using he2)] at this
        (repeat' (first | (refine gq35 (gqc1 hput0 (gqc1 hlenX (gqc1 hgetR (gqc1 hput (gqc1 lget (gqc1 lget0 (gqc1 lset (gqc1 lset0 he2)))))))) ?_; try with_reducible exact True.intro) | ((with_reducible refine And.intro ?_ ?_); focus (first | omega | rfl | decide | (simp; done)))))
        exact ends_set (by simp [Low_d, dmT, dm, dm1, pack]) hl (rrO_low hc3.low) this
end Go.Proofs.Ythmdpooklflkfaa
