/- The law ProofSound, from the contracts. -/
import Derived.Test.YtncpaekiidpchaaGreatLaw23c
import Derived.Test.YtncpaekiidpchaaGreatHi3
import Derived.Test.YtncpaekiidpchaaGreatBase
set_option linter.all false
set_option maxRecDepth 100000
namespace Go.Proofs.YtncpaekiidpchaaGreat
open Go.AW
theorem count_upto {n m : Nat} (h : n ≤ m) {p q : Int → Bool} (hpq : ∀ i ∈ zfk n,p i = true → q i = true) : (zfk n).countP p ≤ ((zfk m).filter q).length := by
 rw [← List.countP_eq_length_filter]
 refine Nat.le_trans (List.countP_mono_left hpq) ?_
 exact List.Sublist.countP_le ((List.range_sublist.2 h).map _)
theorem faulty_few {s : Nat} {f : Int} (h0 : ¬ (f < 1 ∨ f > 4)) (h : ¬ ((memF (zpa s (allF (zcn 3 f).toNat))).length : Int) > f) : (zfk (3 * f.toNat + 1)).countP (inF s) ≤ f.toNat := by
 have ht : zcn 3 f = 3 * f + 1 := by rw [zcn,if_neg h0]
 rw [ht] at h
 have := count_upto (n := 3 * f.toNat + 1) (m := 13) (by omega) (p := inF s) (q := inF (zpa s (allF (3 * f + 1).toNat))) fun i hi hp => by
  have := znd.1 hi
  rw [in_both,in_all (by omega),hp]
  simp; omega
 have e : memF (zpa s (allF (3 * f + 1).toNat)) = (zfk 13).filter (inF (zpa s (allF (3 * f + 1).toNat))) := rfl
 rw [e] at h
 omega
theorem sum7 (bats : List (List zn)) : 7 * (bats.map List.length).sum ≤ zcE (bats.map reqsD) := by
 have key : ∀ l : List zn, 7 * l.length ≤ zcE (zpZ l) := fun l => by
  unfold zpZ
  induction l with
  | nil => simp
  | cons x l ih =>
   simp only [List.map_cons,zcE,List.length_cons]
   have : 7 ≤ zcI (reqD x) := by simp only [reqD,zcI,zfY]; omega
   omega
 induction bats with
 | nil => simp
 | cons l bats ih =>
  have := key l
  have e := zos l
  simp only [List.map_cons,List.sum_cons,zcE] at ih ⊢
  omega
theorem stF_H {q : zmZ} (hq : okC q) (hb : zcI (caseD q) ≤ 1048576) : HistI (ksF q) st0.h (stF (ksF q) q.bats) ∧ (stF (ksF q) q.bats).L.length ≤ 200000 := by
 have h7 := sum7 q.bats
 have h8 : zcE (q.bats.map reqsD) ≤ zcI (caseD q) := by
  have e : zcE (zpe q.bats) = zcE (q.bats.map reqsD) := rfl
  simp only [caseD,zcI,zfY,e]; omega
 have h1 := zlu q.bats 20
 have h2 : (q.bats.take 20).length ≤ 20 := by rw [List.length_take]; omega
 have h3 := st0_len
 obtain ⟨g1,g2⟩ := foldHist (N := 0) (m := 0) (bats := q.bats.take 20) (hist0 (ksF q)) st0I (fun l hl => hq.ops l (List.mem_of_mem_take hl)) (zjD _ _) (memF_rng _) (by omega)
 exact ⟨g1,by rw [stF]; omega⟩
theorem put_any {bs : List zbM} {p : zaO} (h : ∃ b ∈ bs, ∃ r ∈ b.placed,r = zsh p) : (bs.any fun b => b.placed.any (zqa p)) = true := by
 obtain ⟨b,hb,r,hr,rfl⟩ := h
 exact List.any_eq_true.2 ⟨b,hb,List.any_eq_true.2 ⟨_,hr,by simp [zqa,zsh]⟩⟩
def zkz : List (Bool × List Ty) := [(true,tyCase),(false, [.int .u16]),(true,tyProof)]
set_option maxHeartbeats 4000000 in
theorem zsi (xs : List AV) (n : Nat) (hn : n ≤ 1048576) (h : ArgsOk zkz xs n) : zE Tryz.prog zfU xs [] fun r _ => r = .d (.bool true) := by
 obtain ⟨ds,xs1,m1,hf,hb1,rfl,h⟩ := h
 obtain ⟨q,rfl,hq⟩ := dec_case hf (by omega)
 obtain ⟨ds,xs2,m2,hf,hb2,rfl,h⟩ := h
 obtain ⟨d,rfl,h1⟩ := one_of hf
 obtain ⟨z,rfl,hz⟩ := dec_u16' h1
 obtain ⟨ds,xs3,m3,hf,hb3,rfl,rfl⟩ := h
 obtain ⟨p,rfl,hp⟩ := dec_proof hf (by omega)
 show zE Tryz.prog zfU [caseA q, .d (.int .u16 z),zgb p] [] _
 obtain ⟨hH,hH2⟩ := stF_H hq (by omega)
 clear hf hb1 hb2 hb3 h1
 obtain ⟨σ,hσ⟩ : ∃ σ : List zg,([] : List zg) = σ := ⟨_,rfl⟩
 have hσr : ∀ x ∈ σ, ∀ g sz cs,x ≠ .row g sz cs := by subst hσ; simp
 rw [hσ]
 clear hσ
 refine zi zjV.is rfl fun hl _ => zjV.goes ?_
 simp only [zki,iN,bT,bF,eN]
 (repeat' first | refine gq1 ?_ | with_reducible first | exact ⟨⟩ | refine zh ?_ | fail)
 refine c_live23 (fun y hy => ?_) ?_
 ·rcases List.mem_append.1 hy with hy | hy
  ·exact hσr y hy
  ·simp only [List.mem_cons,List.not_mem_nil,or_false] at hy
   rcases hy with rfl | rfl <;> (intro _ _ _ e; cases e)
 (repeat' first | refine gq1 ?_ | with_reducible first | exact ⟨⟩ | refine zh ?_ | fail)
 refine c_rCheckF ?_
 by_cases h0 : q.f < 1 ∨ q.f > 4
 ·rw [zdp,if_pos h0]
  (repeat' first | refine gq2 (show ((120 : Int) != 0) = true from rfl) ?_ | with_reducible first | exact ⟨⟩ | refine zh ?_ | fail)
  (first | refine zar hl ?_ | refine zaq hl ?_)
  rfl
 have hck : zdp q.f = 0 := by rw [zdp,if_neg h0]
 rw [hck]
 (repeat' first | refine gq2 (show ((0 : Int) != 0) = false from rfl) ?_ | with_reducible first | exact ⟨⟩ | refine zh ?_ | fail)
 refine c_rAll ?_
 (repeat' first | refine gq1 ?_ | with_reducible first | exact ⟨⟩ | refine zh ?_ | fail)
 refine c_rBoth hz (zrI _) ?_
 (repeat' first | refine gq1 ?_ | with_reducible first | exact ⟨⟩ | refine zh ?_ | fail)
 refine c_rMany (zoZ _ _) ?_
 cases hm : decide (((memF (zpa z (allF (zcn 3 q.f).toNat))).length : Int) > q.f)
 rotate_left
 ·(repeat' first | refine gq2 hm ?_ | with_reducible first | exact ⟨⟩ | refine zh ?_ | fail)
  (first | refine zar hl ?_ | refine zaq hl ?_)
  rfl
 have hfew := faulty_few h0 (by simpa using hm)
 (repeat' first | refine gq2 hm ?_ | with_reducible first | exact ⟨⟩ | refine zh ?_ | fail)
 obtain ⟨ρ,hρ⟩ : ∃ ρ, σ ++ [.box (ziU q),zhI p] = ρ := ⟨_,rfl⟩
 have r0 : ρ[σ.length]? = some (.box (ziU q)) := by rw [← hρ,zy]; rfl
 have r1 : ρ[σ.length + 1]? = some (zhI p) := by rw [← hρ,zr]; rfl
 have hlρ : ρ.length = σ.length + 2 := by rw [← hρ]; simp
 rw [hρ]
 refine begun_case' hq fun S hE => ?_
 have hI := stF_I' hq
 obtain ⟨s,hs⟩ : ∃ s,stF (ksF q) q.bats = s := ⟨_,rfl⟩
 rw [hs] at hE hI hH hH2
 have c1' := hE.rest _ _ r0 (fun _ _ _ e => by cases e)
 have hbl : (zaA q.bad).length = q.bad.length := List.length_map ..
 have hcl : (zfM s.cs).length = s.cs.length := List.length_map ..
 have i1 := hI.bl
 have i2 := hI.cl
 have i3 := hI.led
 have hbad := hq.bad
 (repeat' first | refine gq2 (zd c1' hbl) ?_ | with_reducible first | exact ⟨⟩ | refine zh ?_ | fail)
 refine zG q.bad.length (fun k vs S => vs = [.d (.int .i64 k)] ∧ ∃ G,StE ρ s s.L G S ∧ G.length ≤ s.G.length + k ∧ ∀ x ∈ G,x ∈ s.G ∨ inF z x.key = true) ⟨rfl,s.G,hE,by omega,fun x h => .inl h⟩ ?_
 rintro k vs S0 hk ⟨rfl,G,hE0,hGl,hGm⟩
 have st0' : S0[ρ.length + 9]? = _ := hE0.st
 have st0'' : ∀ τ,(S0 ++ τ)[ρ.length + 9]? = _ := fun τ => zf hE0.st
 by_cases hlt : k < q.bad.length
 ·have hd : decide ((k : Int) < (q.bad.length : Int)) = true := by simp; omega
  have hx1 : q.bad[k]? = some q.bad[k] := by simp [hlt]
  obtain ⟨x,hc⟩ : ∃ x,q.bad[k] = x := ⟨_,rfl⟩
  rw [hc] at hx1
  have hgx : (zaA q.bad)[k]? = some [.int .i64 x.key, .int .i64 x.dig] := zae (f := zhF) hx1
  have hw : IntKind.i64.wrap ((k : Int) + 1) = ((k + 1 : Nat) : Int) := by rw [zY (by omega) (by omega)]; rfl
  (repeat' first | refine gq2 (zd hd (zd hgx hbl)) ?_ | with_reducible first | exact ⟨⟩ | refine zh ?_ | fail)
  refine c_rIn hz ?_
  cases hi : inF z x.key
  ·(repeat' first | refine gq2 hw ?_ | with_reducible first | exact ⟨⟩ | refine zh ?_ | fail)
   exact zav.next hlt ⟨rfl,G,hE0.app _,by omega,hGm⟩
  ·(repeat' first | refine gq2 st0'' ?_ | with_reducible first | exact ⟨⟩ | refine zh ?_ | fail)
   refine c_gSign (hE0.led.app _) (by omega) ?_
   (repeat' first | refine gq2 hw ?_ | with_reducible first | exact ⟨⟩ | refine zh ?_ | fail)
   refine zav.next hlt ⟨rfl,zew G x.key x.dig,(hE0.app _).putG _,by have := signG_len G x.key x.dig; omega,fun y hy => ?_⟩
   rcases signG_mem' hy with hy | ⟨rfl,_⟩
   ·exact hGm y hy
   ·exact .inr hi
 have hd : decide ((k : Int) < (q.bad.length : Int)) = false := by simp; omega
 have hG : G.length ≤ 1073741824 := by omega
 have c0' : S0[σ.length + 1]? = _ := hE0.rest _ _ r1 (fun _ _ _ e => by cases e)
 (repeat' first | refine gq2 (zd hd (zd hbl (zd c0' (zd st0' hcl)))) ?_ | with_reducible first | exact ⟨⟩ | refine zh ?_ | fail)
 have hS9 := zF st0'
 obtain ⟨T0,hT0⟩ : ∃ T0,S0.length = T0 := ⟨_,rfl⟩
 rw [hT0] at hS9
 have hw1 : zmm [.exact [proofD p], .d (.int .i64 0)] S0 [.own T0 (zow [p]), .d (.int .i64 0)] (S0 ++ [.tok 10 1]) := by
  refine .tok 0 [proofD p] 10 rfl (by intro e he; simp at he; subst he; rfl) ?_
  rw [hT0]
  exact .refl _ _
 refine zaK s.cs.length (fun k vs S => ∃ (L : List (List UInt8)) (ps : List zaO),vs = [.own T0 (zow ps), .d (.int .i64 k)] ∧ zkc L ∧ s.L <+: L ∧ StE ρ s L G S ∧ S[T0]? = some (.tok 10 ps.length) ∧ (∀ x ∈ ps,zdT x) ∧ ps.length ≤ 2 * k + 1) hw1
  ⟨s.L, [p],rfl,hI.tab,List.prefix_refl _,hE0.app _,by rw [← hT0,zy]; rfl,by simpa using hp.small,by simp⟩ ?_
 rintro k vs S1 hk ⟨L,ps,rfl,hL,hpre,hE1,hT1,hps,hpl⟩
 have st1 : S1[ρ.length + 9]? = _ := hE1.st
 have st1' : ∀ τ,(S1 ++ τ)[ρ.length + 9]? = _ := fun τ => zf hE1.st
 have d0 : ∀ τ,(S1 ++ τ)[σ.length]? = _ := fun τ => zf (hE1.rest _ _ r0 (fun _ _ _ e => by cases e))
 have hpe : (zow ps).length = ps.length := List.length_map ..
 by_cases hlt : k < s.cs.length
 ·have hd : decide ((k : Int) < (s.cs.length : Int)) = true := by simp; omega
  have hx1 : s.cs[k]? = some s.cs[k] := by simp [hlt]
  have hx3 := hI.cs _ (List.getElem_mem hlt)
  have hgx := zae (f := certD) hx1
  obtain ⟨c,hc⟩ : ∃ c,s.cs[k] = c := ⟨_,rfl⟩
  rw [hc] at hgx hx3
  obtain ⟨m1,m2,m3,m4,m5⟩ := zqO (L := L) (l := s.bs) (c := c) (t := q.topic) (o := q.offset) hL hI.bs (by omega) (by omega) (by have := hq.topic; omega) hq.offset
  have hpre2 := hpre.trans (makeF_pre (L := L) (l := s.bs) (c := c) (t := q.topic) (o := q.offset))
  obtain ⟨M,hM⟩ : ∃ M,zeQ L s.bs c q.topic q.offset = M := ⟨_,rfl⟩
  rw [hM] at m1 m2 m3 m4 m5 hpre2
  have hw : IntKind.i64.wrap ((k : Int) + 1) = ((k + 1 : Nat) : Int) := by rw [zY (by omega) (by omega)]; rfl
  have tS : zdT (zic M.2.1 q.twists) := zlt m1 (by omega) m3 m4 (by have := hq.tl; omega) hq.twists
  have hE2 := hE1.putT M.2.2
  have hT2 : (putTab S1 (ρ.length + 4) (ρ.length + 3) (ρ.length + 5) M.2.2)[T0]? = _ := zc _ (zc _ (zc _ hT1 (by omega)) (by omega)) (by omega)
  have l2 : (putTab S1 (ρ.length + 4) (ρ.length + 3) (ρ.length + 5) M.2.2).length = S1.length := zcg ..
  obtain ⟨S2,hS2⟩ : ∃ S2,putTab S1 (ρ.length + 4) (ρ.length + 3) (ρ.length + 5) M.2.2 = S2 := ⟨_,rfl⟩
  rw [hS2] at hE2 l2 hT2
  have d2 : ∀ τ,(S2 ++ τ)[σ.length]? = _ := fun τ => zf (hE2.rest _ _ r0 (fun _ _ _ e => by cases e))
  have t2 : ∀ τ,(S2 ++ τ)[T0]? = _ := fun τ => zf hT2
  have t2' : ∀ τ Y,(S2 ++ τ).set T0 Y = S2.set T0 Y ++ τ := fun τ Y => List.set_append_left _ _ (zF hT2)
  (repeat' first | refine gq56 (zd hd (zd hgx (zd hcl (zd st1 (zd st1' d0))))) ?_ | with_reducible first | exact ⟨⟩ | refine zh ?_ | fail)
  refine ⟨?_, ?_⟩
  rotate_left
  (repeat' first | refine gq2 (zd st1' d0) ?_ | with_reducible first | exact ⟨⟩ | refine zh ?_ | fail)
  all_goals
   refine zuy (L := L) (l := s.bs) (c := c) (hE1.tab.app _) hL (by omega) hI.bs (by omega) ?_
   rw [hM,zot hE1.tab,hS2]
   cases he : (M.1 == 0)
   ·(repeat' (first | simp -dsimp only [↓zes, ↓zaw, ↓zbf, ↓zet, ↓zen, ↓zel, ↓zeo, ↓zem, ↓zbk, ↓zbg, ↓zbl, ↓zbh, ↓zep, ↓zbe, ↓zbm, ↓zbi, ↓zbn, ↓zbj, ↓zek, ↓zeq, ↓zbd, ↓zbo, ↓zef, ↓zee, ↓zej,iN,bT,bF,eN, ↓zcS, ↓unC, ↓zU, ↓zK, ↓zL, ↓zN, ↓zZ, ↓zax, ↓zbQ, ↓zaf, ↓zbp, ↓zP, ↓zq, ↓zo, ↓zbu, ↓zl, ↓zah, ↓zI, ↓zaD, ↓zaG, ↓ze, ↓zC, ↓zt, ↓zw, ↓zan, ↓zcC, ↓zcV, ↓zal, ↓zat, ↓zaE, ↓zaN, ↓zaS, ↓zu, ↓zai, ↓zM, ↓zA, ↓zaa,zcZ,zba,zaV,unA,zdg,bnd,zdy,zad,zS,zdz,dm,dm1,zB,zak,zdQ,zdP,zR,Q0,Q1,Q2,Q3,Q4,Q5,zQ,zr,zy,zO,zH,Q6,Q7,Q8,Q9,Q10,Q11,Q12,Q13,Q14,Nat.reduceAdd,Q15,Int.reduceToNat,Q16,Q17,Q18,Q19,Q20,reduceIte,Q21,Q22,zD,rep,zV,zdK,toD,zac,Q23,Q24,Q25,Q26,Q27,Q28,Nat.reduceLeDiff,Q29,Nat.reduceSub,Q30,Q31,Q32,sc,Q33,Q34,Q35,Q36,Q37,Q26,Q38,Q39,zgF,zgC,zgz,zgG,zcb,zgD,zgA,zgE,zgB,zca,zcc,zgK,zgL,Bool.not_true,Bool.not_false,List.length_map,he,hw, ← l2,List.length_set] | (with_reducible refine zh ?_) | fail))
    exact zav.next hlt ⟨M.2.2,ps,rfl,m5,hpre2,hE2.app _,t2 _,hps,by omega⟩
   ·(repeat' (first | simp -dsimp only [↓zes, ↓zaw, ↓zbf, ↓zet, ↓zen, ↓zel, ↓zeo, ↓zem, ↓zbk, ↓zbg, ↓zbl, ↓zbh, ↓zep, ↓zbe, ↓zbm, ↓zbi, ↓zbn, ↓zbj, ↓zek, ↓zeq, ↓zbd, ↓zbo, ↓zef, ↓zee, ↓zej,iN,bT,bF,eN, ↓zcS, ↓unC, ↓zU, ↓zK, ↓zL, ↓zN, ↓zZ, ↓zax, ↓zbQ, ↓zaf, ↓zbp, ↓zP, ↓zq, ↓zo, ↓zbu, ↓zl, ↓zah, ↓zI, ↓zaD, ↓zaG, ↓ze, ↓zC, ↓zt, ↓zw, ↓zan, ↓zcC, ↓zcV, ↓zal, ↓zat, ↓zaE, ↓zaN, ↓zaS, ↓zu, ↓zai, ↓zM, ↓zA, ↓zaa,zcZ,zba,zaV,unA,zdg,bnd,zdy,zad,zS,zdz,dm,dm1,zB,zak,zdQ,zdP,zR,Q0,Q1,Q2,Q3,Q4,Q5,zQ,zr,zy,zO,zH,Q6,Q7,Q8,Q9,Q10,Q11,Q12,Q13,Q14,Nat.reduceAdd,Q15,Int.reduceToNat,Q16,Q17,Q18,Q19,Q20,reduceIte,Q21,Q22,zD,rep,zV,zdK,toD,zac,Q23,Q24,Q25,Q26,Q27,Q28,Nat.reduceLeDiff,Q29,Nat.reduceSub,Q30,Q31,Q32,sc,Q33,Q34,Q35,Q36,Q37,Q26,Q38,Q39,zgF,zgC,zgz,zgG,zcb,zgD,zgA,zgE,zgB,zca,zcc,zgK,zgL,Bool.not_true,Bool.not_false,List.length_map,he,d2, ← l2,List.length_set] | (with_reducible refine zh ?_) | fail))
    refine zjJ (p := M.2.1) (l := q.twists) m1.headers m1.path m1.signs (by have := hq.tl; omega) ?_
    (repeat' (first | simp -dsimp only [↓zes, ↓zaw, ↓zbf, ↓zet, ↓zen, ↓zel, ↓zeo, ↓zem, ↓zbk, ↓zbg, ↓zbl, ↓zbh, ↓zep, ↓zbe, ↓zbm, ↓zbi, ↓zbn, ↓zbj, ↓zek, ↓zeq, ↓zbd, ↓zbo, ↓zef, ↓zee, ↓zej,iN,bT,bF,eN, ↓zcS, ↓unC, ↓zU, ↓zK, ↓zL, ↓zN, ↓zZ, ↓zax, ↓zbQ, ↓zaf, ↓zbp, ↓zP, ↓zq, ↓zo, ↓zbu, ↓zl, ↓zah, ↓zI, ↓zaD, ↓zaG, ↓ze, ↓zC, ↓zt, ↓zw, ↓zan, ↓zcC, ↓zcV, ↓zal, ↓zat, ↓zaE, ↓zaN, ↓zaS, ↓zu, ↓zai, ↓zM, ↓zA, ↓zaa,zcZ,zba,zaV,unA,zdg,bnd,zdy,zad,zS,zdz,dm,dm1,zB,zak,zdQ,zdP,zR,Q0,Q1,Q2,Q3,Q4,Q5,zQ,zr,zy,zO,zH,Q6,Q7,Q8,Q9,Q10,Q11,Q12,Q13,Q14,Nat.reduceAdd,Q15,Int.reduceToNat,Q16,Q17,Q18,Q19,Q20,reduceIte,Q21,Q22,zD,rep,zV,zdK,toD,zac,Q23,Q24,Q25,Q26,Q27,Q28,Nat.reduceLeDiff,Q29,Nat.reduceSub,Q30,Q31,Q32,sc,Q33,Q34,Q35,Q36,Q37,Q26,Q38,Q39,zgF,zgC,zgz,zgG,zcb,zgD,zgA,zgE,zgB,zca,zcc,zgK,zgL,Bool.not_true,Bool.not_false,List.length_map,he,hw,t2,t2',hpe, ← l2,List.length_set] | (with_reducible refine zh ?_) | fail))
    refine zav.next hlt ⟨M.2.2,ps ++ [M.2.1,zic M.2.1 q.twists],by rw [show zow (ps ++ [M.2.1,zic M.2.1 q.twists]) = zow ps ++ zow [M.2.1,zic M.2.1 q.twists] from List.map_append ..]; rfl,m5,hpre2,(hE2.oth (by omega) _).app _, ?_, ?_,by simp; omega⟩
    ·rw [zf (List.getElem?_set_self (zF hT2))]; simp
    ·intro x hx
     rcases List.mem_append.1 hx with hx | hx
     ·exact hps x hx
     ·simp only [List.mem_cons,List.not_mem_nil,or_false] at hx
      rcases hx with rfl | rfl
      ·exact m1
      ·exact tS
 ·have hd : decide ((k : Int) < (s.cs.length : Int)) = false := by simp; omega
  (repeat' first | refine gq2 (zd hd (zd hcl hpe)) ?_ | with_reducible first | exact ⟨⟩ | refine zh ?_ | fail)
  refine zG ps.length (fun k vs S => vs = [.d (.int .i64 k)] ∧ StE ρ s L G S) ⟨rfl,hE1⟩ ?_
  rintro j vs S4 hj ⟨rfl,hE4⟩
  have st4 : S4[ρ.length + 9]? = _ := hE4.st
  have st4' : ∀ τ,(S4 ++ τ)[ρ.length + 9]? = _ := fun τ => zf hE4.st
  have d4 : ∀ τ,(S4 ++ τ)[σ.length]? = _ := fun τ => zf (hE4.rest _ _ r0 (fun _ _ _ e => by cases e))
  by_cases hlt3 : j < ps.length
  ·have hd : decide ((j : Int) < (ps.length : Int)) = true := by simp; omega
   have hx1 : ps[j]? = some ps[j] := by simp [hlt3]
   have hx3 := hps _ (List.getElem_mem hlt3)
   have hgx := zae (f := proofD) hx1
   obtain ⟨x,hc⟩ : ∃ x,ps[j] = x := ⟨_,rfl⟩
   rw [hc] at hgx hx3
   have hw : IntKind.i64.wrap ((j : Int) + 1) = ((j + 1 : Nat) : Int) := by rw [zY (by omega) (by omega)]; rfl
   (repeat' first | refine gq2 (zd hd (zd hgx (zd hpe (zd st4 (zd st4' d4))))) ?_ | with_reducible first | exact ⟨⟩ | refine zh ?_ | fail)
   refine zdR (p := x) (f := q.f) (hE4.tab.app _) (hE4.led.app _) hL hG hx3 ?_
   cases hv : (zlP L G q.f x == 0)
   ·(repeat' first | refine gq2 (zd hv hw) ?_ | with_reducible first | exact ⟨⟩ | refine zh ?_ | fail)
    exact zav.next hlt3 ⟨rfl,hE4.app _⟩
   ·have hany := put_any (sound_plain hH st0_h hpre hL.len hGm hck hfew hx3 (by simpa using hv))
    (repeat' first | refine gq2 hv ?_ | with_reducible first | exact ⟨⟩ | refine zh ?_ | fail)
    refine c_put (p := x) (st4' _) (by omega) hI.bs ?_
    rw [hany]
    (repeat' first | refine gq2 hw ?_ | with_reducible first | exact ⟨⟩ | refine zh ?_ | fail)
    exact zav.next hlt3 ⟨rfl,hE4.app _⟩
  ·have hd : decide ((j : Int) < (ps.length : Int)) = false := by simp; omega
   (repeat' first | refine gq2 (zd hd hpe) ?_ | with_reducible first | exact ⟨⟩ | refine zh ?_ | fail)
   refine zrc (zqv fun j x hx => hE4.rest j x (by rw [← hρ]; exact zf hx) (hσr x (List.mem_of_getElem? hx))) (by simp [zcU,dmT,dm,dm1,zbZ]) hl rfl
end Go.Proofs.YtncpaekiidpchaaGreat

/- ProofSound: for every input of bulk at most 1048576 the law answers true and leaves its arguments as they were. No condition beside the given row's. -/
set_option maxRecDepth 100000
namespace Go.Proofs.YtncpaekiidpchaaGreat
open Go.AW Go.ChangeShapes Go.WideShapes Go.ChangeAt Go.RowKit
theorem zpX {H : Type} {enc : TypeId × Value → H} {P : Program} {w : World} {sp : Nat → Bool} {held : Bool} {vs : List Value} {ds gs : List (DataW H)} {ps : List MemPlace} {ts : List TypeId} (hl : ts.length = 3)
  (h : DataW.TrodAll enc P w 0 sp held ts vs ds ps) (hg : gs = []) : (Rows.proofSoundSpec).fn H (ds ++ gs) = { results := [.lit (.bool true)],args := ds } := by
 subst hg
 have hd : ds.length = 3 := by
  have : ∀ (ts : List TypeId) (vs : List Value) (ds : List (DataW H)) (ps : List MemPlace),DataW.TrodAll enc P w 0 sp held ts vs ds ps → ds.length = ts.length := by
   intro ts
   induction ts with
   | nil => intro vs ds ps h; cases vs <;> cases ds <;> simp [DataW.TrodAll] at h ⊢
   | cons t ts ih =>
    intro vs ds ps h
    obtain ⟨v,vs',d,ds',p,q,rfl,rfl,rfl,h1,h2⟩ := trodAll_cons h
    simp [ih vs' ds' q h2]
  rw [this ts vs ds ps h,hl]
 rw [List.append_nil]
 match ds,hd with
 | [_,_,_],_ => rfl
theorem zoO (os : Os) (started : os.Started) (H : Type) (enc : TypeId × Value → H) (F : Stop.Interp) :
  ReturnsInHanded {} Tryz.checked os 4 .any ((Rows.OpenSpec.upto Rows.proofSoundSpec).pre6 enc Tryz.prog Tryz.f4 Rows.proofSoundUptoRow.domain false) (((Rows.OpenSpec.upto Rows.proofSoundSpec).at F).post enc Tryz.prog Tryz.f4 false true false false) := by
 refine returnsInHanded_of_cond (C := Tryz.checked) (s := Rows.OpenSpec.upto Rows.proofSoundSpec) (k := Rows.uptoSmall) rfl own started (by kernel_rfl) Tryz.func4
  (OpenSpec.witness (enc := enc) (C := Tryz.checked) (s := Rows.OpenSpec.upto Rows.proofSoundSpec) (k := Rows.uptoSmall) rfl false ⟨#[], #[(.agg #[(.int .i64 0),(.slice none 0 0),(.int .u16 0),(.slice none 0 0),(.string .empty),(.int .i64 0),(.slice none 0 0)]),(.int .u16 0),(.agg #[(.string .empty),(.int .i64 0),(.slice none 0 0),(.slice none 0 0),(.int .i64 0),(.int .i64 0),(.slice none 0 0),(.int .i64 0),(.int .i64 0),(.slice none 0 0)])], []⟩ 24 (by kernel_rfl) (by kernel_rfl) (by kernel_rfl)
   (x := ([(.agg [(.lit (.int .i64 0)), .nil,(.lit (.int .u16 0)), .nil,(.lit (.string [])),(.lit (.int .i64 0)), .nil]),(.lit (.int .u16 0)),(.agg [(.lit (.string [])),(.lit (.int .i64 0)), .nil, .nil,(.lit (.int .i64 0)),(.lit (.int .i64 0)), .nil,(.agg [(.lit (.int .i64 0)),(.lit (.int .i64 0)), .nil])])], [], [])) (by kernel_rfl) rfl (by kernel_rfl)) ?_
 intro W base args ds gs before hval hW _ hk _
 have hW0 : DataW.Whole enc Tryz.prog Tryz.f4.params.toList (Rows.proofSoundSpec).vars false W args.toList ds gs before := hW
 have hg : gs = [] := by
  obtain ⟨p,q,hA,hV,_⟩ := hW0
  cases gs with
  | nil => rfl
  | cons => simp [Rows.proofSoundSpec,DataW.TrodVars] at hV
 refine law_calls isBulk hval hW0 (pars := zkz) (by kernel_rfl) rfl (by obtain ⟨p,q,hA,_⟩ := hW0; exact zpX (by kernel_rfl) hA hg) laidOut mapsLaid slicesFull (by kernel_rfl) (tb := 4) (by kernel_rfl) (by kernel_rfl) fun xs has => zsi xs _ ?_ has
 have := small hk
 rw [hg,List.append_nil] at this
 exact this
theorem proofSound_upto : Rows.ProofSoundUptoSaid :=
 OpenClaim.holds_of_cond 4 Tryz.f4 rfl rfl rfl rfl rfl rfl rfl ⟨rfl,rfl,rfl,rfl,rfl⟩ rfl rfl rfl rfl rfl (by kernel_rfl) Tryz.func4 (by kernel_rfl)
  (of_decide_eq_true (by kernel_rfl)) (by unfold Func.isWrapper; first | (rw [if_pos (by decide +kernel)]; kernel_rfl) | (rw [if_neg (by decide +kernel)]; exact ⟨rfl,rfl⟩))
  (fun os started H enc _ F => zoO os started H enc F)
end Go.Proofs.YtncpaekiidpchaaGreat
