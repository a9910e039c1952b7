/- Contracts: the document's topics: where one stands; one is made. -/
import Derived.Test.YtfjommppajkpoaaGreatSpMap
import Derived.Test.YtfjommppajkpoaaGreatSpTop
set_option linter.all false
set_option maxRecDepth 100000
namespace Go.Proofs.YtfjommppajkpoaaGreat
open Go.AW
def zih : List (Int × Int × Int) → List AV
 | [] => []
 | a :: r => .d (.int .i64 a.1) :: .d (.int .i64 a.2.1) :: .d (.int .i64 a.2.2) :: zih r
structure zbH (σ : List zg) (id t g : Nat) (T : zcb) : Prop where
 box : σ[id]? = some (.box (.rsl t g 4 0 T.l.length :: zih T.last))
 row : σ[t]? = some (.row g 4 (zaa (zbl T.l)))
 last : T.last.length = 8
structure zlc (σ S : List zg) (id : Nat) : Prop where
 len : σ.length ≤ S.length
 get : ∀ (j : Nat) (x : zg), σ[j]? = some x → j ≠ id → (∀ g sz cs,x ≠ .row g sz cs) → S[j]? = some x
theorem zlc.app (σ τ : List zg) (id : Nat) : zlc σ (σ ++ τ) id := ⟨by simp,fun _ _ h _ _ => zf h⟩
theorem zlc.trans {σ S R : List zg} {id : Nat} (h : zlc σ S id) (h' : zlc S R id) : zlc σ R id := ⟨Nat.le_trans h.len h'.len,fun j x hx hj hr => h'.get j x (h.get j x hx hj hr) hj hr⟩
theorem zbH.app {σ : List zg} {id t g : Nat} {T : zcb} (h : zbH σ id t g T) (τ : List zg) : zbH (σ ++ τ) id t g T := ⟨zf h.box,zf h.row,h.last⟩
theorem zda {σ : List zg} {e : Int} {K : KT} (hK : K (.agg [.d (.int .i64 e), .d (.int .i64 0)]) σ) : zq Tryz.prog zde [.d (.int .i64 e)] σ K := by
 refine zec e_r07_bad fun hl => ?_
 simp only [S_r07_bad,iN,bT,bF,eN]
 refine gq1 ?_
 refine zK hl ?_
 exact hK
theorem zlH {σ : List zg} {x : zcM} (hb : -9223372036854775808 ≤ x.next ∧ x.next ≤ 9223372036854775807) {K : KT} (hK : K (.d (.int .i64 x.next)) σ) : zq Tryz.prog zbK [.agg [.d (.str x.name), .d (.int .i64 x.base), .d (.slice (zcj x.recs)), .d (.slice (zbM x.groups))]] σ K := by
 refine zec zqh fun hl => ?_
 have hlen := zH x.recs
 have hw : IntKind.i64.wrap (x.base + (x.recs.length : Int)) = x.next := zJ hb.1 hb.2
 simp only [zjR,iN,bT,bF,eN]
 refine gq2 (zc hlen hw) ?_
 refine zK hl ?_
 exact hK
theorem c_r7at {σ : List zg} {id t g : Nat} {T : zcb} {n : List UInt8} (hT : zbH σ id t g T) (hn : T.l.length ≤ 1073741824) {K : KT}
  (hK : K (.d (.int .i64 (match atF n T.l 0 with | some k => (k : Int) | none => -1))) σ) : zq Tryz.prog zeN [.box id 0, .d (.str n)] σ K := by
 refine zga zrw fun hl => ?_
 have hb := hT.box
 have hr := hT.row
 simp only [zlh,iN,bT,bF,eN]
 refine gq1 ?_
 refine zw T.l.length (fun k vs s => vs = [.d (.int .i64 k)] ∧ s = σ ∧ atF n T.l 0 = atF n (T.l.drop k) k) ⟨rfl,rfl,by simp⟩ ?_
 rintro k vs s hk ⟨rfl,hs,hpf⟩
 rw [hs]
 by_cases hlt : k < T.l.length
 ·have hd : decide ((k : Int) < (T.l.length : Int)) = true := by simp; omega
  have hx : T.l[k]? = some T.l[k] := by simp [hlt]
  obtain ⟨x,hxe⟩ : ∃ x,T.l[k] = x := ⟨_,rfl⟩
  rw [hxe] at hx
  have e2 : (zaa (zbl T.l))[k * 4]? = some (.d (.str x.name)) := zoY (i := 0) (zdh T.l) (zU hx) (by omega)
  rw [atF_step hx] at hpf
  cases h1 : (x.name == n)
  ·rw [if_neg (by simp [h1])] at hpf
   refine zbq (zc hb (zc hr (zc hd (zc e2 (zc h1 (wkc k (by omega))))))) ?_
   exact zap.next hlt ⟨rfl,rfl,hpf⟩
  ·rw [if_pos h1] at hpf
   rw [hpf] at hK
   refine zbq (zc hb (zc hr (zc hd (zc e2 h1)))) ?_
   refine zK hl ?_
   exact hK
 ·have hd : decide ((k : Int) < (T.l.length : Int)) = false := by simp; omega
  rw [List.drop_eq_nil_of_le (by omega)] at hpf
  rw [hpf] at hK
  refine zbq (zc hb hd) ?_
  refine zK hl ?_
  exact hK
theorem gq34 {A P Q : Prop} (a : A) (h : Q) (e : A → Hd Q → P := by intro a h; (repeat' first | simp -dsimp only [↓zgr, ↓zaF, ↓zbL, ↓zgt, ↓zgn, ↓zgl, ↓zgo, ↓zgm, ↓zbR, ↓zbN, ↓zbS, ↓zbO, ↓zgp, ↓zbJ, ↓zbT, ↓zbP, ↓zbU, ↓zbQ, ↓zgj, ↓zgq, ↓zbI, ↓zbX, ↓zgc, ↓zgb, ↓zgi,iN,bT,bF,eN, ↓zdN, ↓unC, ↓zac, ↓zQ, ↓zR, ↓zV, ↓zak, ↓zau, ↓zco, ↓zag, ↓zaJ, ↓zW, ↓zp, ↓zo, ↓zbF, ↓zl, ↓zan, ↓zF, ↓zaM, ↓zaW, ↓ze, ↓zC, ↓zu, ↓zy, ↓zav, ↓zdr, ↓zdU, ↓zat, ↓zaB, ↓zaU, ↓zbk, ↓zbv, ↓zD, ↓zaq, ↓zS, ↓zE, ↓zam,zeb,zbD,zbB,unA,zei,bnd,zeF,zai,zP,zeE,dm,dm1,zB,zal,zfg,zff,zx,Q0,Q1,Q2,Q3,Q4,Q5,zZ,zh,zm,zT,zN,Q6,Q7,Q8,Q9,Q10,Q11,Q12,Q13,Q14,Nat.reduceAdd,Q15,Int.reduceToNat,Q16,Q17,Q18,Q19,Q20,reduceIte,Q21,Q22,zH,rep,zX,zfc,toD,zah,Q23,Q24,Q25,Q26,Q27,Q28,Nat.reduceLeDiff,Q29,Nat.reduceSub,Q30,Q31,Q32,sc,Q33,Q34,Q35,Q36,Q37,Q26,Q38,Q39,zkn,zkk,zkh,zko,zdu,zkl,zki,zkm,zkj,zdt,zdv,zkp,zkq,Bool.not_true,Bool.not_false,List.length_map,List.drop_zero,Nat.sub_zero,Nat.zero_add,Nat.zero_mul, ↓zdb, ↓zqc,a] | with_reducible refine zkr ?_ | fail); exact h.go) : P := e a ⟨h⟩
theorem c_r7create {σ : List zg} {id t g : Nat} {T : zcb} {n : List UInt8} (hT : zbH σ id t g T) (hn : T.l.length ≤ 8) {K : KT}
  (hK : ∀ S t' g',zbH S id t' g' (zdn T n).2 → zlc σ S id → K (.agg [.d (.int .i64 (zdn T n).1.1), .d (.int .i64 (zdn T n).1.2)]) S) : zq Tryz.prog zer [.box id 0, .d (.str n)] σ K := by
 refine zhy zgw.is rfl fun hl _ => zgw.goes ?_
 have hb := hT.box
 have hr := hT.row
 have xb : ∀ τ,(σ ++ τ)[id]? = _ := fun τ => zf hb
 have xr : ∀ τ,(σ ++ τ)[t]? = _ := fun τ => zf hr
 simp only [zgz,iN,bT,bF,eN]
 refine gq1 ?_
 refine c_r7at (hT.app _) (by omega) ?_
 cases h1 : atF n T.l 0 with
 | some k =>
  have hd : decide ((k : Int) ≥ 0) = true := by simp
  have hF : zdn T n = ((5, 0),T) := by rw [zdn,h1]; rfl
  rw [hF] at hK
  simp only []
  refine gq2 hd ?_
  refine zda ?_
  refine gq1 ?_
  exact zlO (hK _ t g (hT.app _) (.app _ _ _))
 | none =>
  simp only []
  cases h2 : decide ((T.l.length : Int) ≥ 8)
  rotate_left
  ·have hF : zdn T n = ((6, 0),T) := by
    rw [zdn,h1,if_neg (by simp),if_pos (by simp at h2; omega)]
   rw [hF] at hK
   refine zbq (zc (show decide ((-1 : Int) ≥ 0) = false from rfl) (zc xb h2)) ?_
   refine zda ?_
   refine gq1 ?_
   exact zlO (hK _ t g (hT.app _) (.app _ _ _))
  have hF : zdn T n = ((0, 0), { T with l := T.l.take (zsE n T.l) ++ ⟨n, 0, [], []⟩ :: T.l.drop (zsE n T.l) }) := by
   rw [zdn,h1,if_neg (by simp),if_neg (by simp at h2; omega)]
  rw [hF] at hK
  refine zbq (zc (show decide ((-1 : Int) ≥ 0) = false from rfl) (zc xb h2)) ?_
  refine zw T.l.length (fun k vs s => vs = [.d (.int .i64 k)] ∧ s = σ ++ [.box [.d (.int .i64 0), .d (.int .i64 0)]] ∧ zsE n T.l = k + zsE n (T.l.drop k)) ⟨rfl,rfl,by simp⟩ ?_
  rintro k vs s hk ⟨rfl,rfl,hpf⟩
  have f4 := zdh T.l
  have hid := zA hb
  have xs : ∀ Y τ,(σ ++ τ).set id Y = σ.set id Y ++ τ := fun Y τ => List.set_append_left _ _ hid
  have ys : ∀ Y a τ,(σ.set id Y ++ a :: τ)[σ.length]? = some a := fun Y a τ => by rw [List.getElem?_append_right (by simp)]; simp
  have zs : ∀ Y a τ b,(σ.set id Y ++ a :: τ).set σ.length b = σ.set id Y ++ b :: τ := fun Y a τ b => by rw [List.set_append_right _ _ (by simp)]; simp
  have f4t := zdh (T.l.take k)
  have ht : List.take (k * 4) (zaa (zbl T.l)) = zaa (zbl (T.l.take k)) := by rw [zoX f4, ← List.map_take]
  have hdp : List.take ((T.l.length - k) * 4) (List.drop (k * 4) (zaa (zbl T.l))) = zaa (zbl (T.l.drop k)) := by
   rw [ziD f4, ← List.map_drop,List.take_of_length_le]
   rw [zdG (zdh _)]; simp
  have hl1 : (zaa (zbl (T.l.take k))).length = k * 4 := by rw [zdG f4t]; simp [hk]
  by_cases hlt : k < T.l.length ∧ (T.l[k]?.map fun x => Op.bytesLess x.name n) = some true
  ·obtain ⟨hlt,hx3⟩ := hlt
   have hd : decide ((k : Int) < (T.l.length : Int)) = true := by simp; omega
   have hx : T.l[k]? = some T.l[k] := by simp [hlt]
   obtain ⟨x,hxe⟩ : ∃ x,T.l[k] = x := ⟨_,rfl⟩
   rw [hxe] at hx
   have e2 : (zaa (zbl T.l))[k * 4]? = some (.d (.str x.name)) := zoY (i := 0) (zdh T.l) (zU hx) (by omega)
   rw [zto hx] at hpf
   have h3 : Op.bytesLess x.name n = true := by rw [hx] at hx3; simpa using hx3
   rw [if_pos h3] at hpf
   refine zbq (zc xb (zc xr (zc hd (zc e2 (zc h3 (wkc k (by omega))))))) ?_
   exact zap.next hlt ⟨rfl,rfl,by omega⟩
  ·have hk0 : zsE n T.l = k := by
    by_cases h : k < T.l.length
    ·have hx : T.l[k]? = some T.l[k] := by simp [h]
     rw [hpf,zto hx,if_neg]
     ·rfl
     ·intro h3; exact hlt ⟨h,by rw [hx]; simp [h3]⟩
    ·rw [hpf,List.drop_eq_nil_of_le (by omega)]; rfl
   rw [hk0] at hK
   rcases Nat.lt_or_ge k T.l.length with h | h
   case' inl =>
    have hd : decide ((k : Int) < (T.l.length : Int)) = true := by simp; omega
    have hx : T.l[k]? = some T.l[k] := by simp [h]
    obtain ⟨x,hxe⟩ : ∃ x,T.l[k] = x := ⟨_,rfl⟩
    rw [hxe] at hx
    have e2 : (zaa (zbl T.l))[k * 4]? = some (.d (.str x.name)) := zoY (i := 0) (zdh T.l) (zU hx) (by omega)
    have h3 : Op.bytesLess x.name n = false := by
     cases h3 : Op.bytesLess x.name n
     ·rfl
     ·exact (hlt ⟨h,by rw [hx]; simp [h3]⟩).elim
    refine gq34 (zc xb (zc xr (zc hd (zc e2 (zc h3 (zc ht (zc hdp (zc hl1 (zc xs (zc ys zs)))))))))) ?_
   case' inr =>
    have hd : decide ((k : Int) < (T.l.length : Int)) = false := by simp; omega
    refine gq34 (zc xb (zc xr (zc hd (zc ht (zc hdp (zc hl1 (zc xs (zc ys zs)))))))) ?_
   all_goals
    have hlen1 : (zbl (T.l.take k)).length = k := by simp [hk]
    have c1 : (zaa (zbl (T.l.take k)) ++ AV.d (.str n) :: AV.d (.int .i64 0) :: AV.exact [] :: AV.exact [] :: zaa (zbl (T.l.drop k)))[k * 4 + 2]? = some (.exact []) := by
     rw [List.getElem?_append_right (by omega),hl1,Nat.add_sub_cancel_left]; rfl
    have c2 : ((zaa (zbl (T.l.take k)) ++ AV.d (.str n) :: AV.d (.int .i64 0) :: AV.exact [] :: AV.exact [] :: zaa (zbl (T.l.drop k))).set (k * 4 + 2) (.d (.slice [])))[k * 4 + 3]? = some (.exact []) := by
     rw [List.getElem?_set_ne (by omega),List.getElem?_append_right (by omega),hl1,Nat.add_sub_cancel_left]; rfl
    have c3 : ((zaa (zbl (T.l.take k)) ++ AV.d (.str n) :: AV.d (.int .i64 0) :: AV.exact [] :: AV.exact [] :: zaa (zbl (T.l.drop k))).set (k * 4 + 2) (.d (.slice []))).set (k * 4 + 3) (.d (.slice [])) = zaa (zbl (T.l.take k ++ ⟨n, 0, [], []⟩ :: T.l.drop k)) := by
     rw [List.set_append_right _ _ (by omega),List.set_append_right _ _ (by omega),hl1,Nat.add_sub_cancel_left,Nat.add_sub_cancel_left]
     simp [zaa,zcj]
    have g1 : ∀ X Y,(σ.set id X ++ [zg.box [.d (.int .i64 0), .d (.int .i64 0)],Y, .row 0 4 [AV.d (.str n),AV.d (.int .i64 0),AV.exact [],AV.exact []]])[σ.length + 1]? = some Y := fun X Y => by
     rw [List.getElem?_append_right (by simp)]; simp
    have g2 : ∀ X Y Z,(σ.set id X ++ [zg.box [.d (.int .i64 0), .d (.int .i64 0)],Y, .row 0 4 [AV.d (.str n),AV.d (.int .i64 0),AV.exact [],AV.exact []]]).set (σ.length + 1) Z = σ.set id X ++ [zg.box [.d (.int .i64 0), .d (.int .i64 0)],Z, .row 0 4 [AV.d (.str n),AV.d (.int .i64 0),AV.exact [],AV.exact []]] := fun X Y Z => by
     rw [List.set_append_right _ _ (by simp)]; simp
    refine ⟨_, .dataR (σ.length + 1) (k * 4 + 2) 2 4 _ (.exact []) [] (g1 _ _) c1 rfl (.dataR (σ.length + 1) (k * 4 + 3) 2 4 _ (.exact []) [] (by rw [g2]; exact g1 _ _) c2 rfl (.refl _ _)), ?_⟩
    rw [g2,g2,c3]
    refine hK _ (σ.length + 1) 2 ⟨?_,g1 _ _,hT.last⟩ ⟨by simp,fun j x hx hj hr => ?_⟩
    ·rw [List.getElem?_append_left (by simpa using hid)]
     simp [hid]
     omega
    ·rw [List.getElem?_append_left (by simpa using zA hx),List.getElem?_set_ne (Ne.symm hj)]
     exact hx
end Go.Proofs.YtfjommppajkpoaaGreat
