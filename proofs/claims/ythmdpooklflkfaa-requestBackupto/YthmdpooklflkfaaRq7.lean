/- Contracts: requests, signatures and batches are read. -/
import Derived.Test.YthmdpooklflkfaaRd1
import Derived.Test.YthmdpooklflkfaaRq2
import Derived.Test.YthmdpooklflkfaaSpRqP
set_option linter.all false
set_option maxRecDepth 100000
set_option linter.unusedSimpArgs false
set_option linter.unusedVariables false
namespace Go.Proofs.Ythmdpooklflkfaa
open Go.AW

theorem c_rqParse {σ : List AObj} {b : List UInt8} (hb : b.length ≤ 1073741824) {K : AV → List AObj → Prop} (hK : K (.tup [reqA (reqP false b).1, .d (.int .i64 (reqP false b).2)]) σ) : ACall Try.prog n_request_Parse [.d (.slice (bcs b))] σ K := by
  refine acall_of isA_request_Parse rfl fun hl _ => s_request_Parse ?_
  unfold reqP at hK
  simp only at hK
  have k1 := numP_le false 7 ⟨b, 0⟩
  have k2 := numP_room false 7 ⟨b, 0⟩
  obtain ⟨k, hk⟩ : ∃ k, numP false 7 ⟨b, 0⟩ = k := ⟨_, rfl⟩
  rw [hk] at hK k1 k2
  have t1 := numP_le false 9007199254740992 k.2
  have t2 := numP_room false 9007199254740992 k.2
  obtain ⟨t, ht⟩ : ∃ t, numP false 9007199254740992 k.2 = t := ⟨_, rfl⟩
  rw [ht] at hK t1 t2
  obtain ⟨o, ho⟩ : ∃ o, takeOpP false nameF t.2 = o := ⟨_, rfl⟩
  rw [ho] at hK
  simp only at k2
  have w1 : IntKind.i64.wrap (k.1 : Int) = k.1 := wrap64i (by omega) (by omega)
  have w2 : IntKind.i64.wrap (t.1 : Int) = t.1 := wrap64i (by omega) (by omega)
  simp only [S_request_Parse]
  (repeat' (first | (refine gq34 ?_; try with_reducible exact True.intro) | ((with_reducible refine And.intro ?_ ?_); focus (first | omega | rfl | decide | (simp; done)))))
  refine c_Read bcs_one (by rw [bcs_length]; omega) ?_
  (repeat' (first | (refine gq34 ?_; try with_reducible exact True.intro) | ((with_reducible refine And.intro ?_ ?_); focus (first | omega | rfl | decide | (simp; done)))))
  refine c_Num (m := 7) (s := ⟨b, 0⟩) (by omega) (by (repeat' (first | (refine gq34 ?_; try with_reducible exact True.intro) | ((with_reducible refine And.intro ?_ ?_); focus (first | omega | rfl | decide | (simp; done))))); rfl) (.inr ⟨_, rfl⟩) hb ?_
  rw [hk]
  intro c1 n1 hc1
  (repeat' (first | (refine gq35 w1 ?_; try with_reducible exact True.intro) | ((with_reducible refine And.intro ?_ ?_); focus (first | omega | rfl | decide | (simp; done)))))
  refine c_Num (m := 9007199254740992) (s := k.2) (c := c1) (by omega) (by (repeat' (first | (refine gq34 ?_; try with_reducible exact True.intro) | ((with_reducible refine And.intro ?_ ?_); focus (first | omega | rfl | decide | (simp; done)))))) hc1 (by omega) ?_
  rw [ht]
  intro c2 n2 hc2
  (repeat' (first | (refine gq35 w2 ?_; try with_reducible exact True.intro) | ((with_reducible refine And.intro ?_ ?_); focus (first | omega | rfl | decide | (simp; done)))))
  refine c_opTake (s := t.2) (c := c2) (by (repeat' (first | (refine gq34 ?_; try with_reducible exact True.intro) | ((with_reducible refine And.intro ?_ ?_); focus (first | omega | rfl | decide | (simp; done)))))) hc2 (by omega) ?_
  rw [ho]
  intro c3 n3 hc3
  simp only [opA]
  (repeat' (first | (refine gq34 ?_; try with_reducible exact True.intro) | ((with_reducible refine And.intro ?_ ?_); focus (first | omega | rfl | decide | (simp; done)))))
  refine c_Done (B := o.2.b) (e := o.2.e) (c := c3) (by (repeat' (first | (refine gq34 ?_; try with_reducible exact True.intro) | ((with_reducible refine And.intro ?_ ?_); focus (first | omega | rfl | decide | (simp; done)))))) hc3 ?_
  rw [show (if o.2.e = 0 ∧ 0 < o.2.b.length then (12 : Int) else o.2.e) = doneE o.2 from rfl]
  cases h1 : (doneE o.2 != 0)
  · have h1' : doneE o.2 = 0 := by simpa using h1
    cases h2 : ((t.1 : Int) == 0)
    · have h2' : lateE (doneE o.2) t.1 = 0 := by unfold lateE; rw [if_neg (fun h => by simp at h2; omega)]; exact h1'
      rw [h2', pickR, if_pos rfl] at hK
      (repeat' (first | (refine gq35 (gqc1 h1 h2) ?_; try with_reducible exact True.intro) | ((with_reducible refine And.intro ?_ ?_); focus (first | omega | rfl | decide | (simp; done)))))
      (first | refine ends_plain (by simp [Low_d, dmT, dm, dm1, pack, Low_tup, Low_agg, Low_exact]) hl ?_ | refine ends_plain0 (by simp [Low_d, dmT, dm, dm1, pack, Low_tup, Low_agg, Low_exact]) hl ?_)
      exact hK
    · have h2' : lateE (doneE o.2) t.1 = 80 := by unfold lateE; rw [if_pos ⟨h1', by simpa using h2⟩]
      rw [h2', pickR, if_neg (by decide)] at hK
      (repeat' (first | (refine gq35 (gqc1 h1 h2) ?_; try with_reducible exact True.intro) | ((with_reducible refine And.intro ?_ ?_); focus (first | omega | rfl | decide | (simp; done)))))
      (first | refine ends_plain (by simp [Low_d, dmT, dm, dm1, pack, Low_tup, Low_agg, Low_exact]) hl ?_ | refine ends_plain0 (by simp [Low_d, dmT, dm, dm1, pack, Low_tup, Low_agg, Low_exact]) hl ?_)
      exact hK
  · have h1' : doneE o.2 ≠ 0 := by simpa using h1
    have h2' : lateE (doneE o.2) t.1 = doneE o.2 := by unfold lateE; rw [if_neg (fun h => h1' h.1)]
    rw [h2', pickR, if_neg h1'] at hK
    (repeat' (first | (refine gq35 h1 ?_; try with_reducible exact True.intro) | ((with_reducible refine And.intro ?_ ?_); focus (first | omega | rfl | decide | (simp; done)))))
    (first | refine ends_plain (by simp [Low_d, dmT, dm, dm1, pack, Low_tup, Low_agg, Low_exact]) hl ?_ | refine ends_plain0 (by simp [Low_d, dmT, dm, dm1, pack, Low_tup, Low_agg, Low_exact]) hl ?_)
    exact hK
def sgA (p : Nat × Nat) : AV := .agg [.d (.int .i64 p.1), .d (.int .i64 p.2)]
theorem c_TakeSign {σ : List AObj} {id : Nat} {c : AV} {s : Rd} (hσ : σ[id]? = some (rdO c s.e)) (hc : Cell c s.b) (hB : s.b.length ≤ 1073741824) {K : AV → List AObj → Prop}
    (hK : ∀ c', Nxt c c' → Cell c' (signP false s).2.b → K (sgA (signP false s).1) (σ.set id (rdO c' (signP false s).2.e))) : ACall Try.prog n_request_TakeSign [.box id 0] σ K := by
  refine acall_of isA_request_TakeSign rfl fun hl _ => s_request_TakeSign ?_
  have hlow := rdO_cell hl hσ
  (
  have hlenX : ∀ X, (σ.set id X).length = σ.length := fun X => List.length_set
  have hget : ∀ X τ, (σ.set id X ++ τ)[id]? = some X := fun X τ => get_left (get_set_self hσ)
  have hput : ∀ X τ y, (σ.set id X ++ τ).set id y = σ.set id y ++ τ := fun X τ y => by rw [set_left (get_set_self hσ), List.set_set]
  have hput0 : ∀ τ y, (σ ++ τ).set id y = σ.set id y ++ τ := fun τ y => set_left hσ
  have lget : ∀ X τ k, (σ.set id X ++ τ)[σ.length + k]? = τ[k]? := fun X τ k => by rw [← hlenX X, get_app]
  have lget0 : ∀ X τ, (σ.set id X ++ τ)[σ.length]? = τ[0]? := fun X τ => by rw [← hlenX X, get_app0]
  have lset : ∀ X τ k y, (σ.set id X ++ τ).set (σ.length + k) y = σ.set id X ++ τ.set k y := fun X τ k y => by rw [← hlenX X, set_app]
  have lset0 : ∀ X τ y, (σ.set id X ++ τ).set σ.length y = σ.set id X ++ τ.set 0 y := fun X τ y => by rw [← hlenX X, set_app0])
  unfold signP at hK
  simp only at hK
  have k1 := numP_le false 20 s
  have k2 := numP_room false 20 s
  obtain ⟨k, hk⟩ : ∃ k, numP false 20 s = k := ⟨_, rfl⟩
  rw [hk] at hK k1 k2
  have t1 := numP_le false 9007199254740992 k.2
  obtain ⟨t, ht⟩ : ∃ t, numP false 9007199254740992 k.2 = t := ⟨_, rfl⟩
  rw [ht] at hK t1
  have w1 : IntKind.i64.wrap (k.1 : Int) = k.1 := wrap64i (by omega) (by omega)
  have w2 : IntKind.i64.wrap (t.1 : Int) = t.1 := wrap64i (by omega) (by omega)
  simp only [S_request_TakeSign]
  (repeat' (first | (refine gq34 ?_; try with_reducible exact True.intro) | ((with_reducible refine And.intro ?_ ?_); focus (first | omega | rfl | decide | (simp; done)))))
  refine c_Num (m := 20) (by omega) (get_left hσ) hc hB ?_
  rw [hk]
  intro c1 n1 hc1
  (repeat' (first | (refine gq35 (gqc1 hput0 (gqc1 hlenX (gqc1 hget (gqc1 hput (gqc1 lget (gqc1 lget0 (gqc1 lset (gqc1 lset0 w1)))))))) ?_; try with_reducible exact True.intro) | ((with_reducible refine And.intro ?_ ?_); focus (first | omega | rfl | decide | (simp; done)))))
  refine c_Num (m := 9007199254740992) (s := k.2) (by omega) (hget _ _) hc1 (by omega) ?_
  rw [ht]
  intro c2 n2 hc2
  (repeat' (first | (refine gq35 (gqc1 hput0 (gqc1 hlenX (gqc1 hget (gqc1 hput (gqc1 lget (gqc1 lget0 (gqc1 lset (gqc1 lset0 w2)))))))) ?_; try with_reducible exact True.intro) | ((with_reducible refine And.intro ?_ ?_); focus (first | omega | rfl | decide | (simp; done)))))
  refine c_Err (hget _ _) ?_
  have hn := (n1.trans n2)
  by_cases h : t.2.e = 0
  · have b1 : (t.2.e == 0) = true := by simpa using h
    cases h2 : ((t.1 : Int) == 0)
    · have hz : signZ false t = t.2 := by unfold signZ; rw [if_neg (fun h => by simp at h2; omega)]
      have b2 : (t.2.e != 0) = false := by simp [h]
      have := hK c2 hn (by rw [hz]; exact hc2)
      rw [hz, if_pos h] at this
      (repeat' (first | (refine gq35 (gqc1 hput0 (gqc1 hlenX (gqc1 hget (gqc1 hput (gqc1 lget (gqc1 lget0 (gqc1 lset (gqc1 lset0 (gqc1 b1 h2))))))))) ?_; try with_reducible exact True.intro) | ((with_reducible refine And.intro ?_ ?_); focus (first | omega | rfl | decide | (simp; done)))))
      refine c_Err (hget _ _) ?_
      (repeat' (first | (refine gq35 (gqc1 hput0 (gqc1 hlenX (gqc1 hget (gqc1 hput (gqc1 lget (gqc1 lget0 (gqc1 lset (gqc1 lset0 b2)))))))) ?_; try with_reducible exact True.intro) | ((with_reducible refine And.intro ?_ ?_); focus (first | omega | rfl | decide | (simp; done)))))
      exact ends_set (by simp [Low_d, dmT, dm, dm1, pack, Low_agg]) hl (rdO_low (hn.low hlow)) this
    · have hz : signZ false t = ⟨t.2.b, 81⟩ := by
        unfold signZ; rw [if_pos ⟨h, by simpa using h2⟩, fail0 h (by decide)]; rfl
      have := hK c2 hn (by rw [hz]; exact hc2)
      rw [hz, if_neg (show ¬ ((81 : Int) = 0) by decide)] at this
      (repeat' (first | (refine gq35 (gqc1 hput0 (gqc1 hlenX (gqc1 hget (gqc1 hput (gqc1 lget (gqc1 lget0 (gqc1 lset (gqc1 lset0 (gqc1 b1 h2))))))))) ?_; try with_reducible exact True.intro) | ((with_reducible refine And.intro ?_ ?_); focus (first | omega | rfl | decide | (simp; done)))))
      refine c_Fail (hget _ _) ?_
      rw [if_pos h]
      (repeat' (first | (refine gq35 (gqc1 hput0 (gqc1 hlenX (gqc1 hget (gqc1 hput (gqc1 lget (gqc1 lget0 (gqc1 lset (gqc1 lset0 h2)))))))) ?_; try with_reducible exact True.intro) | ((with_reducible refine And.intro ?_ ?_); focus (first | omega | rfl | decide | (simp; done)))))
      refine c_Err (hget _ _) ?_
      (repeat' (first | (refine gq35 (gqc1 hput0 (gqc1 hlenX (gqc1 hget (gqc1 hput (gqc1 lget (gqc1 lget0 (gqc1 lset (gqc1 lset0 (show ((81 : Int) != 0) = true from rfl))))))))) ?_; try with_reducible exact True.intro) | ((with_reducible refine And.intro ?_ ?_); focus (first | omega | rfl | decide | (simp; done)))))
      exact ends_set (by simp [Low_d, dmT, dm, dm1, pack, Low_agg]) hl (rdO_low (hn.low hlow)) this
  · have b1 : (t.2.e == 0) = false := by simpa using h
    have b2 : (t.2.e != 0) = true := by simpa using h
    have hz : signZ false t = t.2 := by unfold signZ; rw [if_neg (fun g => h g.1)]
    have := hK c2 hn (by rw [hz]; exact hc2)
    rw [hz, if_neg h] at this
    (repeat' (first | (refine gq35 (gqc1 hput0 (gqc1 hlenX (gqc1 hget (gqc1 hput (gqc1 lget (gqc1 lget0 (gqc1 lset (gqc1 lset0 b1)))))))) ?_; try with_reducible exact True.intro) | ((with_reducible refine And.intro ?_ ?_); focus (first | omega | rfl | decide | (simp; done)))))
    refine c_Err (hget _ _) ?_
    (repeat' (first | (refine gq35 (gqc1 hput0 (gqc1 hlenX (gqc1 hget (gqc1 hput (gqc1 lget (gqc1 lget0 (gqc1 lset (gqc1 lset0 b2)))))))) ?_; try with_reducible exact True.intro) | ((with_reducible refine And.intro ?_ ?_); focus (first | omega | rfl | decide | (simp; done)))))
    exact ends_set (by simp [Low_d, dmT, dm, dm1, pack, Low_agg]) hl (rdO_low (hn.low hlow)) this
theorem c_TakeBatch {σ : List AObj} {id : Nat} {c : AV} {s : Rd} (hσ : σ[id]? = some (rdO c s.e)) (hc : Cell c s.b) (hB : s.b.length ≤ 1073741824) {K : AV → List AObj → Prop}
    (hK : ∀ c', Nxt c c' → Cell c' (batchP false s).2.b → K (.d (.slice (batchE (batchP false s).1))) (σ.set id (rdO c' (batchP false s).2.e))) : ACall Try.prog n_request_TakeBatch [.box id 0] σ K := by
  refine acall_of isA_request_TakeBatch rfl fun hl _ => s_request_TakeBatch ?_
  have hlow := rdO_cell hl hσ
  (
  have hlenX : ∀ X, (σ.set id X).length = σ.length := fun X => List.length_set
  have hget : ∀ X τ, (σ.set id X ++ τ)[id]? = some X := fun X τ => get_left (get_set_self hσ)
  have hput : ∀ X τ y, (σ.set id X ++ τ).set id y = σ.set id y ++ τ := fun X τ y => by rw [set_left (get_set_self hσ), List.set_set]
  have hput0 : ∀ τ y, (σ ++ τ).set id y = σ.set id y ++ τ := fun τ y => set_left hσ
  have lget : ∀ X τ k, (σ.set id X ++ τ)[σ.length + k]? = τ[k]? := fun X τ k => by rw [← hlenX X, get_app]
  have lget0 : ∀ X τ, (σ.set id X ++ τ)[σ.length]? = τ[0]? := fun X τ => by rw [← hlenX X, get_app0]
  have lset : ∀ X τ k y, (σ.set id X ++ τ).set (σ.length + k) y = σ.set id X ++ τ.set k y := fun X τ k y => by rw [← hlenX X, set_app]
  have lset0 : ∀ X τ y, (σ.set id X ++ τ).set σ.length y = σ.set id X ++ τ.set 0 y := fun X τ y => by rw [← hlenX X, set_app0])
  have gset : ∀ X T m Y, (σ.set id X ++ (AObj.tok 9 m :: T)).set σ.length Y = σ.set id X ++ (Y :: T) := fun X T m Y => by rw [lset0]; rfl
  have gtok : ∀ X T m, (σ.set id X ++ (AObj.tok 9 m :: T))[σ.length]? = some (AObj.tok 9 m) := fun X T m => by rw [lget0]; rfl
  simp only [S_request_TakeBatch]
  (repeat' (first | (refine gq34 ?_; try with_reducible exact True.intro) | ((with_reducible refine And.intro ?_ ?_); focus (first | omega | rfl | decide | (simp; done)))))
  refine c_Num (m := 4) (by omega) hσ hc hB ?_
  have n4 := numP_le false 4 s
  have nr := numP_room false 4 s
  intro c1 n1 hc1
  obtain ⟨n, hn⟩ : ∃ n, (numP false 4 s).1 = n := ⟨_, rfl⟩
  obtain ⟨s1, hs1⟩ : ∃ s1, (numP false 4 s).2 = s1 := ⟨_, rfl⟩
  have hst : ∀ k, k ≤ n → (itemsP false k s1).2.e ≠ 0 → batchP false s = ([], (itemsP false k s1).2) := fun k hk h => by
    rw [← hs1] at h ⊢
    exact batchP_stuck (by omega) h
  have hend : batchP false s = (if ((itemsP false n s1).2.fail false (checkBatchF (itemsP false n s1).1)).e = 0 then (itemsP false n s1).1 else [], (itemsP false n s1).2.fail false (checkBatchF (itemsP false n s1).1)) := by
    unfold batchP; simp only [hn, hs1]
  rw [hn] at n4
  rw [hs1] at nr hc1
  rw [hn, hs1]
  (repeat' (first | (refine gq34 ?_; try with_reducible exact True.intro) | ((with_reducible refine And.intro ?_ ?_); focus (first | omega | rfl | decide | (simp; done)))))
  refine loopC_countW n (fun k vs q => ∃ c2 T, vs = [.own σ.length (batchE (itemsP false k s1).1), .d (.int .u64 k)] ∧ q = σ.set id (rdO c2 (itemsP false k s1).2.e) ++ (.tok 9 k :: T) ∧ Nxt c c2 ∧ Cell c2 (itemsP false k s1).2.b)
    (.tok 0 [] 9 rfl (by simp) (.refl _ _)) ⟨c1, [], by rw [hlenX]; rfl, rfl, n1, hc1⟩ ?_
  rintro k vs q hk ⟨c2, T, rfl, rfl, n2, hc2⟩
  have hkl := itemsP_len false s1 k
  have hkr := itemsP_room false s1 k
  have hksz := itemsP_sz false s1 k
  have hsk := hst k hk
  have hon : (itemsP false (k + 1) s1) = ((itemsP false k s1).1 ++ [(oneP false (itemsP false k s1).2).1], (oneP false (itemsP false k s1).2).2) := rfl
  obtain ⟨l, hle⟩ : ∃ l, (itemsP false k s1).1 = l := ⟨_, rfl⟩
  obtain ⟨r, hre⟩ : ∃ r, (itemsP false k s1).2 = r := ⟨_, rfl⟩
  rw [hle] at hkl hksz hon ⊢
  rw [hre] at hkr hc2 hsk hon ⊢
  by_cases hlt : k < n
  · have hd : decide ((k : Int) < (n : Int)) = true := by simp; omega
    (repeat' (first | (refine gq35 (gqc1 hput0 (gqc1 hlenX (gqc1 hget (gqc1 hput (gqc1 lget (gqc1 lget0 (gqc1 lset (gqc1 lset0 hd)))))))) ?_; try with_reducible exact True.intro) | ((with_reducible refine And.intro ?_ ?_); focus (first | omega | rfl | decide | (simp; done)))))
    refine c_rdBytes (m := 1024) (s := r) (by omega) (hget _ _) hc2 (by omega) ?_
    intro c3 n3 hc3
    have hb1 := bytesP_len1 false 1024 r
    have hbr := bytesP_room false 1024 r
    have hcut := @oneP_cut false r
    have hone : oneP false r = (⟨(reqP false (bytesP false 1024 r).1).1.client, (reqP false (bytesP false 1024 r).1).1.time, (reqP false (bytesP false 1024 r).1).1.op, (signP false ((bytesP false 1024 r).2.fail false (reqP false (bytesP false 1024 r).1).2)).1.1, (signP false ((bytesP false 1024 r).2.fail false (reqP false (bytesP false 1024 r).1).2)).1.2⟩, (signP false ((bytesP false 1024 r).2.fail false (reqP false (bytesP false 1024 r).1).2)).2) := rfl
    obtain ⟨bs, hbs⟩ : ∃ bs, (bytesP false 1024 r).1 = bs := ⟨_, rfl⟩
    obtain ⟨r1, hr1⟩ : ∃ r1, (bytesP false 1024 r).2 = r1 := ⟨_, rfl⟩
    rw [hbs] at hb1 hone ⊢
    rw [hr1] at hbr hc3 hcut hone ⊢
    (repeat' (first | (refine gq35 (gqc1 hput0 (gqc1 hlenX (gqc1 hget (gqc1 hput (gqc1 lget (gqc1 lget0 (gqc1 lset (gqc1 lset0 hd)))))))) ?_; try with_reducible exact True.intro) | ((with_reducible refine And.intro ?_ ?_); focus (first | omega | rfl | decide | (simp; done)))))
    refine c_Err (hget _ _) ?_
    cases he : (r1.e != 0)
    · have he0 : r1.e = 0 := by simpa using he
      (repeat' (first | (refine gq35 (gqc1 hput0 (gqc1 hlenX (gqc1 hget (gqc1 hput (gqc1 lget (gqc1 lget0 (gqc1 lset (gqc1 lset0 he)))))))) ?_; try with_reducible exact True.intro) | ((with_reducible refine And.intro ?_ ?_); focus (first | omega | rfl | decide | (simp; done)))))
      refine c_rqParse (by omega) ?_
      obtain ⟨x, hx⟩ : ∃ x, (reqP false bs).1 = x := ⟨_, rfl⟩
      obtain ⟨e, hee⟩ : ∃ e, (reqP false bs).2 = e := ⟨_, rfl⟩
      rw [hx, hee] at hone ⊢
      simp only [reqA]
      (repeat' (first | (refine gq35 (gqc1 hput0 (gqc1 hlenX (gqc1 hget (gqc1 hput (gqc1 lget (gqc1 lget0 (gqc1 lset (gqc1 lset0 he)))))))) ?_; try with_reducible exact True.intro) | ((with_reducible refine And.intro ?_ ?_); focus (first | omega | rfl | decide | (simp; done)))))
      refine c_Fail (hget _ _) ?_
      rw [if_pos he0]
      have hfe : (r1.fail false e).e = e := by rw [fail_e, if_pos he0]
      have hfb : (r1.fail false e).b = r1.b := by unfold Rd.fail; split <;> rfl
      obtain ⟨r2, hr2⟩ : ∃ r2, r1.fail false e = r2 := ⟨_, rfl⟩
      rw [hr2] at hfe hfb hone
      rw [← hfe]
      (repeat' (first | (refine gq35 (gqc1 hput0 (gqc1 hlenX (gqc1 hget (gqc1 hput (gqc1 lget (gqc1 lget0 (gqc1 lset (gqc1 lset0 he)))))))) ?_; try with_reducible exact True.intro) | ((with_reducible refine And.intro ?_ ?_); focus (first | omega | rfl | decide | (simp; done)))))
      refine c_TakeSign (s := r2) (hget _ _) (by rw [hfb]; exact hc3) (by rw [hfb]; omega) ?_
      intro c4 n4' hc4
      obtain ⟨g, hg⟩ : ∃ g, (signP false r2).1 = g := ⟨_, rfl⟩
      obtain ⟨r3, hr3⟩ : ∃ r3, (signP false r2).2 = r3 := ⟨_, rfl⟩
      rw [hg, hr3] at hone
      rw [hr3] at hc4
      rw [hg, hr3]
      simp only [sgA]
      (repeat' (first | (refine gq35 (gqc1 hput0 (gqc1 hlenX (gqc1 hget (gqc1 hput (gqc1 lget (gqc1 lget0 (gqc1 lset (gqc1 lset0 (gqc1 he (gqc1 gtok gset)))))))))) ?_; try with_reducible exact True.intro) | ((with_reducible refine And.intro ?_ ?_); focus (first | omega | rfl | decide | (simp; done)))))
      have e1 : (itemsP false (k + 1) s1).1 = l ++ [⟨x.client, x.time, x.op, g.1, g.2⟩] := by rw [hon, hone]
      have e2 : (itemsP false (k + 1) s1).2 = r3 := by rw [hon, hone]
      refine ⟨by rw [hkl], Again.next hlt ⟨c4, ?TT, ?aa, ?bb, (n2.trans n3).trans n4', by rw [e2]; exact hc4⟩⟩
      case bb => rw [e2, hkl]
      case aa =>
        rw [e1, show ((k : Int) + 1) = ((k + 1 : Nat) : Int) from rfl, wrap64u (by omega)]
        simp [batchE, signedD]
    · have he0 : r1.e ≠ 0 := by simpa using he
      have h1 : (itemsP false (k + 1) s1).2 = r1 := by rw [hon]; exact hcut he0
      have h2 := hst (k + 1) (by omega) (by rw [h1]; exact he0)
      rw [h1] at h2
      have := hK c3 (n2.trans n3) (by rw [h2]; exact hc3)
      rw [h2] at this
      (repeat' (first | (refine gq35 (gqc1 hput0 (gqc1 hlenX (gqc1 hget (gqc1 hput (gqc1 lget (gqc1 lget0 (gqc1 lset (gqc1 lset0 he)))))))) ?_; try with_reducible exact True.intro) | ((with_reducible refine And.intro ?_ ?_); focus (first | omega | rfl | decide | (simp; done)))))
      exact ends_set (by simp [Low_d, dmT, dm, dm1, pack]) hl (rdO_low ((n2.trans n3).low hlow)) this
  · have hd : decide ((k : Int) < (n : Int)) = false := by simp; omega
    have hkn : k = n := by omega
    subst hkn
    rw [hle, hre] at hend
    have hok : okB l := ⟨by omega, fun x hx => sizes (by have := hksz x hx; omega)⟩
    (repeat' (first | (refine gq35 (gqc1 hput0 (gqc1 hlenX (gqc1 hget (gqc1 hput (gqc1 lget (gqc1 lget0 (gqc1 lset (gqc1 lset0 hd)))))))) ?_; try with_reducible exact True.intro) | ((with_reducible refine And.intro ?_ ?_); focus (first | omega | rfl | decide | (simp; done)))))
    refine c_Err (hget _ _) ?_
    cases he : (r.e == 0)
    · have he0 : r.e ≠ 0 := by simpa using he
      have he1 : (r.e != 0) = true := by simpa using he
      have := hK c2 n2 (by rw [hsk he0]; exact hc2)
      rw [hsk he0] at this
      (repeat' (first | (refine gq35 (gqc1 hput0 (gqc1 hlenX (gqc1 hget (gqc1 hput (gqc1 lget (gqc1 lget0 (gqc1 lset (gqc1 lset0 he)))))))) ?_; try with_reducible exact True.intro) | ((with_reducible refine And.intro ?_ ?_); focus (first | omega | rfl | decide | (simp; done)))))
      refine c_Err (hget _ _) ?_
      (repeat' (first | (refine gq35 (gqc1 hput0 (gqc1 hlenX (gqc1 hget (gqc1 hput (gqc1 lget (gqc1 lget0 (gqc1 lset (gqc1 lset0 he1)))))))) ?_; try with_reducible exact True.intro) | ((with_reducible refine And.intro ?_ ?_); focus (first | omega | rfl | decide | (simp; done)))))
      exact ends_set (by simp [Low_d, dmT, dm, dm1, pack]) hl (rdO_low (n2.low hlow)) this
    · have he0 : r.e = 0 := by simpa using he
      (repeat' (first | (refine gq35 (gqc1 hput0 (gqc1 hlenX (gqc1 hget (gqc1 hput (gqc1 lget (gqc1 lget0 (gqc1 lset (gqc1 lset0 he)))))))) ?_; try with_reducible exact True.intro) | ((with_reducible refine And.intro ?_ ?_); focus (first | omega | rfl | decide | (simp; done)))))
      refine c_CheckBatch hok ?_
      (repeat' (first | (refine gq35 (gqc1 hput0 (gqc1 hlenX (gqc1 hget (gqc1 hput (gqc1 lget (gqc1 lget0 (gqc1 lset (gqc1 lset0 he)))))))) ?_; try with_reducible exact True.intro) | ((with_reducible refine And.intro ?_ ?_); focus (first | omega | rfl | decide | (simp; done)))))
      refine c_Fail (hget _ _) ?_
      rw [if_pos he0]
      have hfe : (r.fail false (checkBatchF l)).e = checkBatchF l := by rw [fail_e, if_pos he0]
      have hfb : (r.fail false (checkBatchF l)).b = r.b := by unfold Rd.fail; split <;> rfl
      have := hK c2 n2 (by rw [hend, hfb]; exact hc2)
      rw [hend] at this
      simp only at this
      rw [hfe] at this
      (repeat' (first | (refine gq35 (gqc1 hput0 (gqc1 hlenX (gqc1 hget (gqc1 hput (gqc1 lget (gqc1 lget0 (gqc1 lset (gqc1 lset0 he)))))))) ?_; try with_reducible exact True.intro) | ((with_reducible refine And.intro ?_ ?_); focus (first | omega | rfl | decide | (simp; done)))))
      refine c_Err (hget _ _) ?_
      cases he2 : (checkBatchF l != 0)
      · rw [if_pos (by simpa using he2)] at this
        (repeat' (first | (refine gq35 (gqc1 hput0 (gqc1 hlenX (gqc1 hget (gqc1 hput (gqc1 lget (gqc1 lget0 (gqc1 lset (gqc1 lset0 he2)))))))) ?_; try with_reducible exact True.intro) | ((with_reducible refine And.intro ?_ ?_); focus (first | omega | rfl | decide | (simp; done)))))
        exact ends_set (by simp [Low_d, dmT, dm, dm1, pack]) hl (rdO_low (n2.low hlow)) this
      · rw [if_neg (by simpa using he2)] at this
        (repeat' (first | (refine gq35 (gqc1 hput0 (gqc1 hlenX (gqc1 hget (gqc1 hput (gqc1 lget (gqc1 lget0 (gqc1 lset (gqc1 lset0 he2)))))))) ?_; try with_reducible exact True.intro) | ((with_reducible refine And.intro ?_ ?_); focus (first | omega | rfl | decide | (simp; done)))))
        exact ends_set (by simp [Low_d, dmT, dm, dm1, pack]) hl (rdO_low (n2.low hlow)) this
end Go.Proofs.Ythmdpooklflkfaa
