/- Contracts: the document's topics: where one stands; one is made. -/
import Derived.Test.YtncpaekiidpchaaGreatMk7
import Derived.Test.YtncpaekiidpchaaGreatSpTop
set_option linter.all false
set_option maxRecDepth 100000
namespace Go.Proofs.YtncpaekiidpchaaGreat
open Go.AW
def zik : List (Int × Int × Int) → List AV
 | [] => []
 | a :: r => .d (.int .i64 a.1) :: .d (.int .i64 a.2.1) :: .d (.int .i64 a.2.2) :: zik r
structure zbS (σ : List zg) (id t g : Nat) (T : zbf) : Prop where
 box : σ[id]? = some (.box (.rsl t g 4 0 T.l.length :: zik T.last))
 row : σ[t]? = some (.row g 4 (zah (zbw T.l)))
 last : T.last.length = 8
structure zjJ (σ S : List zg) (id : Nat) : Prop where
 len : σ.length ≤ S.length
 get : ∀ (j : Nat) (x : zg), σ[j]? = some x → j ≠ id → (∀ g sz cs,x ≠ .row g sz cs) → S[j]? = some x
theorem zjJ.rfl' (σ : List zg) (id : Nat) : zjJ σ σ id := ⟨Nat.le_refl _,fun _ _ h _ _ => h⟩
theorem zjJ.app (σ τ : List zg) (id : Nat) : zjJ σ (σ ++ τ) id := ⟨by simp,fun _ _ h _ _ => zf h⟩
theorem zjJ.trans {σ S R : List zg} {id : Nat} (h : zjJ σ S id) (h' : zjJ S R id) : zjJ σ R id := ⟨Nat.le_trans h.len h'.len,fun j x hx hj hr => h'.get j x (h.get j x hx hj hr) hj hr⟩
theorem zbS.app {σ : List zg} {id t g : Nat} {T : zbf} (h : zbS σ id t g T) (τ : List zg) : zbS (σ ++ τ) id t g T := ⟨zf h.box,zf h.row,h.last⟩
theorem zde {σ : List zg} {e : Int} {K : KT} (hK : K (.agg [.d (.int .i64 e), .d (.int .i64 0)]) σ) : zD Tryz.prog zdj [.d (.int .i64 e)] σ K := by
 refine zj e_r07_bad.is rfl fun hl _ => e_r07_bad.goes ?_
 simp only [S_r07_bad,iN,bT,bF,eN]
 (repeat' first | refine gq1 ?_ | with_reducible first | exact ⟨⟩ | refine zh ?_ | fail)
 (first | refine zaq hl ?_ | refine zap hl ?_)
 exact hK
theorem zlB {σ : List zg} {x : zbg} (hb : -9223372036854775808 ≤ x.next ∧ x.next ≤ 9223372036854775807) {K : KT} (hK : K (.d (.int .i64 x.next)) σ) : zD Tryz.prog zbV [.agg [.d (.str x.name), .d (.int .i64 x.base), .d (.slice (zbU x.recs)), .d (.slice (zbW x.groups))]] σ K := by
 refine zj zjM.is rfl fun hl _ => zjM.goes ?_
 have hlen := zE x.recs
 have hw : IntKind.i64.wrap (x.base + (x.recs.length : Int)) = x.next := zX hb.1 hb.2
 simp only [zjW,iN,bT,bF,eN]
 (repeat' first | refine gq2 (zd hlen hw) ?_ | with_reducible first | exact ⟨⟩ | refine zh ?_ | fail)
 (first | refine zaq hl ?_ | refine zap hl ?_)
 exact hK
theorem gq43 {A P Q : Prop} (a : A) (h : Q) (e : A → P = Q := by intro a; simp -dsimp only [↓zey, ↓zau, ↓zbj, ↓zeA, ↓zes, ↓zeq, ↓zet, ↓zer, ↓zbo, ↓zbk, ↓zbp, ↓zbl, ↓zeu, ↓zbi, ↓zbq, ↓zbm, ↓zbr, ↓zbn, ↓zep, ↓zew, ↓zbh, ↓zbs, ↓zeg, ↓zef, ↓zeo,iN,bT,bF,eN, ↓zcS, ↓unC, ↓zW, ↓zK, ↓zL, ↓zN, ↓zZ, ↓zaw, ↓zbT, ↓zag, ↓zbu, ↓zP, ↓zq, ↓zo, ↓zby, ↓zl, ↓zaf, ↓zH, ↓zaC, ↓zaG, ↓ze, ↓zC, ↓zt, ↓zw, ↓zan, ↓zcC, ↓zdb, ↓zal, ↓zat, ↓zaF, ↓zaP, ↓zaW, ↓zu, ↓zai, ↓zM, ↓zA, ↓zaa,zdi,zbd,zba,unA,zdk,bnd,zdw,zac,zS,zdy,dm,dm1,zB,zak,zdP,zdO,zQ,Q0,Q1,Q2,Q3,Q4,Q5,zR,zr,zy,zO,zI,Q6,Q7,Q8,Q9,Q10,Q11,Q12,Q13,Q14,Nat.reduceAdd,Q15,Int.reduceToNat,Q16,Q17,Q18,Q19,Q20,reduceIte,Q21,Q22,zE,rep,zV,zdG,toD,zab,Q23,Q24,Q25,Q26,Q27,Q28,Nat.reduceLeDiff,Q29,Nat.reduceSub,Q30,Q31,Q32,sc,Q33,Q34,Q35,Q36,Q37,Q26,Q38,Q39,zgH,zgE,zgB,zgI,zcf,zgF,zgC,zgG,zgD,zce,zcg,zgJ,zgK,Bool.not_true,Bool.not_false,List.length_map,Nat.sub_zero,Nat.zero_add,a]; rfl) : P := (e a).mpr h
theorem gq44 {A P Q : Prop} (a : A) (h : Q) (e : A → P = Q := by intro a; simp -dsimp only [↓zey, ↓zau, ↓zbj, ↓zeA, ↓zes, ↓zeq, ↓zet, ↓zer, ↓zbo, ↓zbk, ↓zbp, ↓zbl, ↓zeu, ↓zbi, ↓zbq, ↓zbm, ↓zbr, ↓zbn, ↓zep, ↓zew, ↓zbh, ↓zbs, ↓zeg, ↓zef, ↓zeo,iN,bT,bF,eN, ↓zcS, ↓unC, ↓zW, ↓zK, ↓zL, ↓zN, ↓zZ, ↓zaw, ↓zbT, ↓zag, ↓zbu, ↓zP, ↓zq, ↓zo, ↓zby, ↓zl, ↓zaf, ↓zH, ↓zaC, ↓zaG, ↓ze, ↓zC, ↓zt, ↓zw, ↓zan, ↓zcC, ↓zdb, ↓zal, ↓zat, ↓zaF, ↓zaP, ↓zaW, ↓zu, ↓zai, ↓zM, ↓zA, ↓zaa,zdi,zbd,zba,unA,zdk,bnd,zdw,zac,zS,zdy,dm,dm1,zB,zak,zdP,zdO,zQ,Q0,Q1,Q2,Q3,Q4,Q5,zR,zr,zy,zO,zI,Q6,Q7,Q8,Q9,Q10,Q11,Q12,Q13,Q14,Nat.reduceAdd,Q15,Int.reduceToNat,Q16,Q17,Q18,Q19,Q20,reduceIte,Q21,Q22,zE,rep,zV,zdG,toD,zab,Q23,Q24,Q25,Q26,Q27,Q28,Nat.reduceLeDiff,Q29,Nat.reduceSub,Q30,Q31,Q32,sc,Q33,Q34,Q35,Q36,Q37,Q26,Q38,Q39,zgH,zgE,zgB,zgI,zcf,zgF,zgC,zgG,zgD,zce,zcg,zgJ,zgK,Bool.not_true,Bool.not_false,List.length_map,Nat.sub_zero,a]; rfl) : P := (e a).mpr h
theorem c_r7at {σ : List zg} {id t g : Nat} {T : zbf} {n : List UInt8} (hT : zbS σ id t g T) (hn : T.l.length ≤ 1073741824) {K : KT}
  (hK : K (.d (.int .i64 (match atF n T.l 0 with | some k => (k : Int) | none => -1))) σ) : zD Tryz.prog zeR [.box id 0, .d (.str n)] σ K := by
 refine zj zkK.is rfl fun hl _ => zkK.goes ?_
 have hb := hT.box
 have hr := hT.row
 simp only [zlb,iN,bT,bF,eN]
 (repeat' first | refine gq1 ?_ | with_reducible first | exact ⟨⟩ | refine zh ?_ | fail)
 refine zG T.l.length (fun k vs s => vs = [.d (.int .i64 k)] ∧ s = σ ∧ atF n T.l 0 = atF n (T.l.drop k) k) ⟨rfl,rfl,by simp⟩ ?_
 rintro k vs s hk ⟨rfl,hs,hpf⟩
 rw [hs]
 by_cases hlt : k < T.l.length
 ·have hd : decide ((k : Int) < (T.l.length : Int)) = true := by simp; omega
  have hx : T.l[k]? = some T.l[k] := by simp [hlt]
  obtain ⟨x,hxe⟩ : ∃ x,T.l[k] = x := ⟨_,rfl⟩
  rw [hxe] at hx
  have e2 : (zah (zbw T.l))[k * 4]? = some (.d (.str x.name)) := zoS (i := 0) (zdn T.l) (zae hx) (by omega)
  rw [atF_step hx] at hpf
  cases h1 : (x.name == n)
  ·rw [if_neg (by simp [h1])] at hpf
   (repeat' first | refine gq43 (zd hb (zd hr (zd hd (zd e2 (zd h1 (wkc k (by omega))))))) ?_ | with_reducible first | exact ⟨⟩ | refine zh ?_ | fail)
   exact zav.next hlt ⟨rfl,rfl,hpf⟩
  ·rw [if_pos h1] at hpf
   rw [hpf] at hK
   (repeat' first | refine gq43 (zd hb (zd hr (zd hd (zd e2 h1)))) ?_ | with_reducible first | exact ⟨⟩ | refine zh ?_ | fail)
   (first | refine zaq hl ?_ | refine zap hl ?_)
   exact hK
 ·have hd : decide ((k : Int) < (T.l.length : Int)) = false := by simp; omega
  rw [List.drop_eq_nil_of_le (by omega)] at hpf
  rw [hpf] at hK
  (repeat' first | refine gq44 (zd hb hd) ?_ | with_reducible first | exact ⟨⟩ | refine zh ?_ | fail)
  (first | refine zaq hl ?_ | refine zap hl ?_)
  exact hK
theorem gq45 {A P Q : Prop} (a : A) (h : Q) (e : A → P = Q := by intro a; simp -dsimp only [↓zey, ↓zau, ↓zbj, ↓zeA, ↓zes, ↓zeq, ↓zet, ↓zer, ↓zbo, ↓zbk, ↓zbp, ↓zbl, ↓zeu, ↓zbi, ↓zbq, ↓zbm, ↓zbr, ↓zbn, ↓zep, ↓zew, ↓zbh, ↓zbs, ↓zeg, ↓zef, ↓zeo,iN,bT,bF,eN, ↓zcS, ↓unC, ↓zW, ↓zK, ↓zL, ↓zN, ↓zZ, ↓zaw, ↓zbT, ↓zag, ↓zbu, ↓zP, ↓zq, ↓zo, ↓zby, ↓zl, ↓zaf, ↓zH, ↓zaC, ↓zaG, ↓ze, ↓zC, ↓zt, ↓zw, ↓zan, ↓zcC, ↓zdb, ↓zal, ↓zat, ↓zaF, ↓zaP, ↓zaW, ↓zu, ↓zai, ↓zM, ↓zA, ↓zaa,zdi,zbd,zba,unA,zdk,bnd,zdw,zac,zS,zdy,dm,dm1,zB,zak,zdP,zdO,zQ,Q0,Q1,Q2,Q3,Q4,Q5,zR,zr,zy,zO,zI,Q6,Q7,Q8,Q9,Q10,Q11,Q12,Q13,Q14,Nat.reduceAdd,Q15,Int.reduceToNat,Q16,Q17,Q18,Q19,Q20,reduceIte,Q21,Q22,zE,rep,zV,zdG,toD,zab,Q23,Q24,Q25,Q26,Q27,Q28,Nat.reduceLeDiff,Q29,Nat.reduceSub,Q30,Q31,Q32,sc,Q33,Q34,Q35,Q36,Q37,Q26,Q38,Q39,zgH,zgE,zgB,zgI,zcf,zgF,zgC,zgG,zgD,zce,zcg,zgJ,zgK,Bool.not_true,Bool.not_false,List.length_map,List.drop_zero,Nat.sub_zero,Nat.zero_add,Nat.zero_mul, ↓zdf, ↓zpV,a]; rfl) : P := (e a).mpr h
theorem c_r7create {σ : List zg} {id t g : Nat} {T : zbf} {n : List UInt8} (hT : zbS σ id t g T) (hn : T.l.length ≤ 8) {K : KT}
  (hK : ∀ S t' g',zbS S id t' g' (zdd T n).2 → zjJ σ S id → K (.agg [.d (.int .i64 (zdd T n).1.1), .d (.int .i64 (zdd T n).1.2)]) S) : zD Tryz.prog zej [.box id 0, .d (.str n)] σ K := by
 refine zhp zfV.is rfl fun hl _ => zfV.goes ?_
 have hb := hT.box
 have hr := hT.row
 have xb : ∀ τ,(σ ++ τ)[id]? = _ := fun τ => zf hb
 have xr : ∀ τ,(σ ++ τ)[t]? = _ := fun τ => zf hr
 simp only [zge,iN,bT,bF,eN]
 (repeat' first | refine gq1 ?_ | with_reducible first | exact ⟨⟩ | refine zh ?_ | fail)
 refine c_r7at (hT.app _) (by omega) ?_
 cases h1 : atF n T.l 0 with
 | some k =>
  have hd : decide ((k : Int) ≥ 0) = true := by simp
  have hF : zdd T n = ((5, 0),T) := by rw [zdd,h1]; rfl
  rw [hF] at hK
  simp only []
  (repeat' first | refine gq2 hd ?_ | with_reducible first | exact ⟨⟩ | refine zh ?_ | fail)
  refine zde ?_
  (repeat' first | refine gq1 ?_ | with_reducible first | exact ⟨⟩ | refine zh ?_ | fail)
  exact zlH (hK _ t g (hT.app _) (.app _ _ _))
 | none =>
  simp only []
  cases h2 : decide ((T.l.length : Int) ≥ 8)
  rotate_left
  ·have hF : zdd T n = ((6, 0),T) := by
    rw [zdd,h1,if_neg (by simp),if_pos (by simp at h2; omega)]
   rw [hF] at hK
   (repeat' first | refine gq44 (zd (show decide ((-1 : Int) ≥ 0) = false from rfl) (zd xb h2)) ?_ | with_reducible first | exact ⟨⟩ | refine zh ?_ | fail)
   refine zde ?_
   (repeat' first | refine gq1 ?_ | with_reducible first | exact ⟨⟩ | refine zh ?_ | fail)
   exact zlH (hK _ t g (hT.app _) (.app _ _ _))
  have hF : zdd T n = ((0, 0), { T with l := T.l.take (znh n T.l) ++ ⟨n, 0, [], []⟩ :: T.l.drop (znh n T.l) }) := by
   rw [zdd,h1,if_neg (by simp),if_neg (by simp at h2; omega)]
  rw [hF] at hK
  (repeat' first | refine gq44 (zd (show decide ((-1 : Int) ≥ 0) = false from rfl) (zd xb h2)) ?_ | with_reducible first | exact ⟨⟩ | refine zh ?_ | fail)
  refine zG T.l.length (fun k vs s => vs = [.d (.int .i64 k)] ∧ s = σ ++ [.box [.d (.int .i64 0), .d (.int .i64 0)]] ∧ znh n T.l = k + znh n (T.l.drop k)) ⟨rfl,rfl,by simp⟩ ?_
  rintro k vs s hk ⟨rfl,rfl,hpf⟩
  have f4 := zdn T.l
  have hid := zF hb
  have xs : ∀ Y τ,(σ ++ τ).set id Y = σ.set id Y ++ τ := fun Y τ => List.set_append_left _ _ hid
  have ys : ∀ Y a τ,(σ.set id Y ++ a :: τ)[σ.length]? = some a := fun Y a τ => by rw [List.getElem?_append_right (by simp)]; simp
  have zs : ∀ Y a τ b,(σ.set id Y ++ a :: τ).set σ.length b = σ.set id Y ++ b :: τ := fun Y a τ b => by rw [List.set_append_right _ _ (by simp)]; simp
  have f4t := zdn (T.l.take k)
  have ht : List.take (k * 4) (zah (zbw T.l)) = zah (zbw (T.l.take k)) := by rw [zoR f4, ← List.map_take]
  have hdp : List.take ((T.l.length - k) * 4) (List.drop (k * 4) (zah (zbw T.l))) = zah (zbw (T.l.drop k)) := by
   rw [ziD f4, ← List.map_drop,List.take_of_length_le]
   rw [zdF (zdn _)]; simp
  have hl1 : (zah (zbw (T.l.take k))).length = k * 4 := by rw [zdF f4t]; simp [hk]
  by_cases hlt : k < T.l.length ∧ (T.l[k]?.map fun x => Op.bytesLess x.name n) = some true
  ·obtain ⟨hlt,hx3⟩ := hlt
   have hd : decide ((k : Int) < (T.l.length : Int)) = true := by simp; omega
   have hx : T.l[k]? = some T.l[k] := by simp [hlt]
   obtain ⟨x,hxe⟩ : ∃ x,T.l[k] = x := ⟨_,rfl⟩
   rw [hxe] at hx
   have e2 : (zah (zbw T.l))[k * 4]? = some (.d (.str x.name)) := zoS (i := 0) (zdn T.l) (zae hx) (by omega)
   rw [zsz hx] at hpf
   have h3 : Op.bytesLess x.name n = true := by rw [hx] at hx3; simpa using hx3
   rw [if_pos h3] at hpf
   (repeat' first | refine gq43 (zd xb (zd xr (zd hd (zd e2 (zd h3 (wkc k (by omega))))))) ?_ | with_reducible first | exact ⟨⟩ | refine zh ?_ | fail)
   exact zav.next hlt ⟨rfl,rfl,by omega⟩
  ·have hk0 : znh n T.l = k := by
    by_cases h : k < T.l.length
    ·have hx : T.l[k]? = some T.l[k] := by simp [h]
     rw [hpf,zsz hx,if_neg]
     ·rfl
     ·intro h3; exact hlt ⟨h,by rw [hx]; simp [h3]⟩
    ·rw [hpf,List.drop_eq_nil_of_le (by omega)]; rfl
   rw [hk0] at hK
   rcases Nat.lt_or_ge k T.l.length with h | h
   case' inl =>
    have hd : decide ((k : Int) < (T.l.length : Int)) = true := by simp; omega
    have hx : T.l[k]? = some T.l[k] := by simp [h]
    obtain ⟨x,hxe⟩ : ∃ x,T.l[k] = x := ⟨_,rfl⟩
    rw [hxe] at hx
    have e2 : (zah (zbw T.l))[k * 4]? = some (.d (.str x.name)) := zoS (i := 0) (zdn T.l) (zae hx) (by omega)
    have h3 : Op.bytesLess x.name n = false := by
     cases h3 : Op.bytesLess x.name n
     ·rfl
     ·exact (hlt ⟨h,by rw [hx]; simp [h3]⟩).elim
    (repeat' first | refine gq45 (zd xb (zd xr (zd hd (zd e2 (zd h3 (zd ht (zd hdp (zd hl1 (zd xs (zd ys zs)))))))))) ?_ | with_reducible first | exact ⟨⟩ | refine zh ?_ | fail)
   case' inr =>
    have hd : decide ((k : Int) < (T.l.length : Int)) = false := by simp; omega
    (repeat' first | refine gq45 (zd xb (zd xr (zd hd (zd ht (zd hdp (zd hl1 (zd xs (zd ys zs)))))))) ?_ | with_reducible first | exact ⟨⟩ | refine zh ?_ | fail)
   all_goals
    have hlen1 : (zbw (T.l.take k)).length = k := by simp [hk]
    have c1 : (zah (zbw (T.l.take k)) ++ AV.d (.str n) :: AV.d (.int .i64 0) :: AV.exact [] :: AV.exact [] :: zah (zbw (T.l.drop k)))[k * 4 + 2]? = some (.exact []) := by
     rw [List.getElem?_append_right (by omega),hl1,Nat.add_sub_cancel_left]; rfl
    have c2 : ((zah (zbw (T.l.take k)) ++ AV.d (.str n) :: AV.d (.int .i64 0) :: AV.exact [] :: AV.exact [] :: zah (zbw (T.l.drop k))).set (k * 4 + 2) (.d (.slice [])))[k * 4 + 3]? = some (.exact []) := by
     rw [List.getElem?_set_ne (by omega),List.getElem?_append_right (by omega),hl1,Nat.add_sub_cancel_left]; rfl
    have c3 : ((zah (zbw (T.l.take k)) ++ AV.d (.str n) :: AV.d (.int .i64 0) :: AV.exact [] :: AV.exact [] :: zah (zbw (T.l.drop k))).set (k * 4 + 2) (.d (.slice []))).set (k * 4 + 3) (.d (.slice [])) = zah (zbw (T.l.take k ++ ⟨n, 0, [], []⟩ :: T.l.drop k)) := by
     rw [List.set_append_right _ _ (by omega),List.set_append_right _ _ (by omega),hl1,Nat.add_sub_cancel_left,Nat.add_sub_cancel_left]
     simp [zah,zbU]
    have g1 : ∀ X Y,(σ.set id X ++ [zg.box [.d (.int .i64 0), .d (.int .i64 0)],Y, .row 0 4 [AV.d (.str n),AV.d (.int .i64 0),AV.exact [],AV.exact []]])[σ.length + 1]? = some Y := fun X Y => by
     rw [List.getElem?_append_right (by simp)]; simp
    have g2 : ∀ X Y Z,(σ.set id X ++ [zg.box [.d (.int .i64 0), .d (.int .i64 0)],Y, .row 0 4 [AV.d (.str n),AV.d (.int .i64 0),AV.exact [],AV.exact []]]).set (σ.length + 1) Z = σ.set id X ++ [zg.box [.d (.int .i64 0), .d (.int .i64 0)],Z, .row 0 4 [AV.d (.str n),AV.d (.int .i64 0),AV.exact [],AV.exact []]] := fun X Y Z => by
     rw [List.set_append_right _ _ (by simp)]; simp
    refine ⟨_, .dataR (σ.length + 1) (k * 4 + 2) 2 4 _ (.exact []) [] (g1 _ _) c1 rfl (.dataR (σ.length + 1) (k * 4 + 3) 2 4 _ (.exact []) [] (by rw [g2]; exact g1 _ _) c2 rfl (.refl _ _)), ?_⟩
    rw [g2,g2,c3]
    refine hK _ (σ.length + 1) 2 ⟨?_,g1 _ _,hT.last⟩ ⟨by simp,fun j x hx hj hr => ?_⟩
    ·rw [List.getElem?_append_left (by simpa using hid)]
     simp [hid]
     omega
    ·rw [List.getElem?_append_left (by simpa using zF hx),List.getElem?_set_ne (Ne.symm hj)]
     exact hx
end Go.Proofs.YtncpaekiidpchaaGreat
