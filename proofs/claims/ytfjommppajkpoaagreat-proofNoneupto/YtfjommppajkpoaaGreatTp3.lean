/- Contracts: what an operation does to the document's topics. -/
import Derived.Test.YtfjommppajkpoaaGreatTp2
set_option linter.all false
set_option maxRecDepth 100000
namespace Go.Proofs.YtfjommppajkpoaaGreat
open Go.AW
theorem zbH.setB {σ : List zg} {id t g j : Nat} {T : zcb} {c : List AV} {y : zg} (h : zbH σ id t g T) (hj : σ[j]? = some (.box c)) (hne : j ≠ id) : zbH (σ.set j y) id t g T :=
 ⟨by rw [List.getElem?_set_ne hne]; exact h.box,by rw [List.getElem?_set_ne (fun e => by subst e; have := h.row; rw [hj] at this; cases this)]; exact h.row,h.last⟩
theorem zlc.setB {σ τ S : List zg} {id j : Nat} {y : zg} (h : zlc (σ ++ τ) S id) (hj : σ.length ≤ j) : zlc σ (S.set j y) id :=
 ⟨by have := h.len; simp at this ⊢; omega,fun i x hx hi hr => by
  have := zA hx
  rw [List.getElem?_set_ne (by omega)]
  exact h.get i x (zf hx) hi hr⟩
theorem gq35 {A P Q : Prop} (a : A) (h : Q) (e : A → Hd Q → P := by intro a h; (repeat' first | simp -dsimp only [↓zgr, ↓zaF, ↓zbL, ↓zgt, ↓zgn, ↓zgl, ↓zgo, ↓zgm, ↓zbR, ↓zbN, ↓zbS, ↓zbO, ↓zgp, ↓zbJ, ↓zbT, ↓zbP, ↓zbU, ↓zbQ, ↓zgj, ↓zgq, ↓zbI, ↓zbX, ↓zgc, ↓zgb, ↓zgi,iN,bT,bF,eN, ↓zdN, ↓unC, ↓zac, ↓zQ, ↓zR, ↓zV, ↓zak, ↓zau, ↓zco, ↓zag, ↓zaJ, ↓zW, ↓zp, ↓zo, ↓zbF, ↓zl, ↓zan, ↓zF, ↓zaM, ↓zaW, ↓ze, ↓zC, ↓zu, ↓zy, ↓zav, ↓zdr, ↓zdU, ↓zat, ↓zaB, ↓zaU, ↓zbk, ↓zbv, ↓zD, ↓zaq, ↓zS, ↓zE, ↓zam,zeb,zbD,zbB,unA,zei,bnd,zeF,zai,zP,zeE,dm,dm1,zB,zal,zfg,zff,zx,Q0,Q1,Q2,Q3,Q4,Q5,zZ,zh,zm,zT,zN,Q6,Q7,Q8,Q9,Q10,Q11,Q12,Q13,Q14,Nat.reduceAdd,Q15,Int.reduceToNat,Q16,Q17,Q18,Q19,Q20,reduceIte,Q21,Q22,zH,rep,zX,zfc,toD,zah,Q23,Q24,Q25,Q26,Q27,Q28,Nat.reduceLeDiff,Q29,Nat.reduceSub,Q30,Q31,Q32,sc,Q33,Q34,Q35,Q36,Q37,Q26,Q38,Q39,zkn,zkk,zkh,zko,zdu,zkl,zki,zkm,zkj,zdt,zdv,zkp,zkq,Bool.not_true,Bool.not_false,List.length_map,List.length_set,Nat.sub_zero,Nat.zero_add,a] | with_reducible refine zkr ?_ | fail); exact h.go) : P := e a ⟨h⟩
theorem c_r7does {σ : List zg} {id t g : Nat} {T : zcb} {o : TOp} (hT : zbH σ id t g T) (hn : T.l.length ≤ 8) (hX : ∀ x ∈ T.l,TopI x) (h1 : o.topic.length ≤ 1073741824) (h2 : o.group.length ≤ 1073741824) (ho : o.recs.length ≤ 20971520) (hr : ∀ r ∈ o.recs,r.length ≤ 1073741824) {K : KT}
  (hK : ∀ S t' g',zbH S id t' g' (zcw T o).2.2 → zlc σ S id → K (.tup [.agg [.d (.int .i64 (zcw T o).1.1), .d (.int .i64 (zcw T o).1.2)], .d (.slice (zcA (zcw T o).2.1))]) S) : zq Tryz.prog zft [.box id 0,opA o] σ K := by
 refine zhy ziI.is rfl fun hl _ => ziI.goes ?_
 have hid := zA hT.box
 have done : ∀ z,zcw T o = z → ∀ S t' g',zbH S id t' g' z.2.2 → zlc σ S id → K (.tup [.agg [.d (.int .i64 z.1.1), .d (.int .i64 z.1.2)], .d (.slice (zcA z.2.1))]) S := fun z h => h ▸ hK
 clear hK
 have same : ∀ e τ,zcw T o = ((e, 0), [],T) → EndsA K (some [.agg [.d (.int .i64 e), .d (.int .i64 0)], .exact []]) (σ ++ τ) := fun e τ h => zlO (done _ h _ t g (hT.app _) (.app _ _ _))
 -- what a call has left,with the result's box
 have after : ∀ {S : List zg},zlc (σ ++ [.box [.d (.int .i64 o.kind), .d (.str o.topic), .d (.str o.group), .d (.int .i64 o.offset), .d (.slice (zcj o.recs))], .box [.d (.int .i64 0), .d (.int .i64 0)]]) S id → S[σ.length + 1]? = some (.box [.d (.int .i64 0), .d (.int .i64 0)]) := fun h =>
  h.get _ _ (by rw [zh]; rfl) (by omega) (fun _ _ _ e => by cases e)
 simp only [ziS,iN,bT,bF,eN,opA]
 refine gq1 ?_
 refine zvn (o := o) h1 h2 (by omega) ?_
 cases c0 : (zbj zeL o != 0)
 rotate_left
 ·refine gq2 c0 ?_
  refine zda ?_
  refine gq1 ?_
  exact same _ _ (by rw [zcw,if_pos (by simpa using c0)])
 have d0 : ∀ z,(if o.kind = 0 then ((0, 0), [],T)
  else if o.kind = 1 then ((zdn T o.topic).1, [],(zdn T o.topic).2)
  else match atF o.topic T.l 0 with
   | none => ((4, 0), [],T)
   | some i => match T.l[i]? with
    | none => ((4, 0), [],T)
    | some x => if o.kind = 2 then zdp T i x o
     else if o.kind = 3 then ((zcq T i x o).1, [],(zcq T i x o).2)
     else ((zpX T i x o).1, [],(zpX T i x o).2)) = z → zcw T o = z := fun z h => by
  rw [zcw,if_neg (by simpa using c0)]; exact h
 cases c1 : (o.kind == 0)
 rotate_left
 ·refine gq2 (zc c0 c1) ?_
  exact same _ _ (d0 _ (by rw [if_pos (by simpa using c1)]))
 have k1 : ¬ o.kind = 0 := by simpa using c1
 cases c2 : (o.kind == 1)
 rotate_left
 ·refine gq2 (zc c0 (zc c1 c2)) ?_
  refine c_r7create (hT.app _) hn fun S t' g' hT' hS' => ?_
  have hg := after hS'
  have hgs : ∀ Y,(S.set (σ.length + 1) Y)[σ.length + 1]? = some Y := fun Y => List.getElem?_set_self (zA hg)
  refine gq2 (zc hg hgs) ?_
  have hF : zcw T o = ((zdn T o.topic).1, [],(zdn T o.topic).2) := d0 _ (by rw [if_neg k1,if_pos (by simpa using c2)])
  exact zlO (done _ hF _ t' g' (hT'.setB hg (by omega)) (hS'.setB (by omega)))
 have k2 : ¬ o.kind = 1 := by simpa using c2
 refine gq2 (zc c0 (zc c1 c2)) ?_
 refine c_r7at (hT.app _) (by omega) ?_
 cases c3 : atF o.topic T.l 0 with
 | none =>
  refine gq2 (show decide ((-1 : Int) < 0) = true from rfl) ?_
  refine zda ?_
  refine gq1 ?_
  exact same _ _ (d0 _ (by rw [if_neg k1,if_neg k2,c3]))
 | some i =>
  have hi : i < T.l.length := by have := atF_lt c3; omega
  have hx : T.l[i]? = some T.l[i] := by simp [hi]
  have hXx := hX _ (List.getElem_mem hi)
  obtain ⟨x,hxe⟩ : ∃ x,T.l[i] = x := ⟨_,rfl⟩
  rw [hxe] at hx hXx
  have dd : decide ((i : Int) < 0) = false := by simp
  cases c4 : (o.kind == 2)
  rotate_left
  ·refine gq2 (zc dd c4) ?_
   refine c_r7publish (o := o) (hT.app _) hn hx hXx ho hr fun S hT' hS' => ?_
   have hg := after hS'
   have hgs : ∀ Y,(S.set (σ.length + 1) Y)[σ.length + 1]? = some Y := fun Y => List.getElem?_set_self (zA hg)
   refine gq2 (zc hg hgs) ?_
   have hF : zcw T o = zdp T i x o := d0 _ (by rw [if_neg k1,if_neg k2,c3]; simp only [hx]; rw [if_pos (by simpa using c4)])
   exact zlO (done _ hF _ t g (hT'.setB hg (by omega)) (hS'.setB (by omega)))
  have k4 : ¬ o.kind = 2 := by simpa using c4
  cases c5 : (o.kind == 3)
  rotate_left
  ·refine gq2 (zc dd (zc c4 c5)) ?_
   refine c_r7commit (o := o) (hT.app _) hn hx hXx fun S hT' hS' => ?_
   have hg := after hS'
   have hgs : ∀ Y,(S.set (σ.length + 1) Y)[σ.length + 1]? = some Y := fun Y => List.getElem?_set_self (zA hg)
   refine gq2 (zc hg hgs) ?_
   have hF : zcw T o = ((zcq T i x o).1, [],(zcq T i x o).2) := d0 _ (by rw [if_neg k1,if_neg k2,c3]; simp only [hx]; rw [if_neg k4,if_pos (by simpa using c5)])
   exact zlO (done _ hF _ t g (hT'.setB hg (by omega)) (hS'.setB (by omega)))
  have k5 : ¬ o.kind = 3 := by simpa using c5
  have hz : ∀ z,zpX T i x o = z → zcw T o = (z.1, [],z.2) := fun z h => d0 _ (by rw [if_neg k1,if_neg k2,c3]; simp only [hx]; rw [if_neg k4,if_neg k5,h])
  have hb := hT.box
  have hrw := hT.row
  have xb : ∀ τ,(σ ++ τ)[id]? = _ := fun τ => zf hb
  have xr : ∀ τ,(σ ++ τ)[t]? = _ := fun τ => zf hrw
  have f4 := zdh T.l
  have hgt : List.take 4 (List.drop (i * 4) (zaa (zbl T.l))) = (topD x).map .d := zkP f4 (zU hx)
  have hlenA : (zaa (zbl T.l)).length = T.l.length * 4 := by rw [zdG f4,List.length_map]
  have hlf : (zbl T.l).flatten.length = T.l.length * 4 := by rw [← hlenA,zaa,List.length_map]
  have hi4 : i * 4 + 4 ≤ T.l.length * 4 := by omega
  have n1 := hXx.base; have n2 := hXx.next; have n3 := hXx.recs
  have hnx : x.next = x.base + x.recs.length := rfl
  have n64 : -9223372036854775808 ≤ x.next ∧ x.next ≤ 9223372036854775807 := by omega
  have ht := zA hrw
  have xs : ∀ Y τ,(σ ++ τ).set t Y = σ.set t Y ++ τ := fun Y τ => List.set_append_left _ _ ht
  have gs0 : ∀ Y τ,(σ.set t Y ++ τ)[σ.length]? = τ[0]? := fun Y τ => by rw [List.getElem?_append_right (by simp)]; simp
  have gs1 : ∀ Y τ,(σ.set t Y ++ τ)[σ.length + 1]? = τ[1]? := fun Y τ => by rw [List.getElem?_append_right (by simp)]; simp
  have ss1 : ∀ Y τ b,(σ.set t Y ++ τ).set (σ.length + 1) b = σ.set t Y ++ τ.set 1 b := fun Y τ b => by rw [List.set_append_right _ _ (by simp)]; simp
  cases c6 : decide (o.offset < x.base)
  rotate_left
  ·refine zbq (zc dd (zc c4 (zc c5 (zc c6 (zc xb (zc xr (zc hgt (zc hlf hi4)))))))) ?_
   refine zda ?_
   refine gq1 ?_
   exact same _ _ (hz _ (by rw [zpX,if_pos (.inl (by simpa using c6))]))
  refine zbq (zc dd (zc c4 (zc c5 (zc c6 (zc xb (zc xr (zc hgt (zc hlf hi4)))))))) ?_
  refine zlH n64 ?_
  cases c7 : decide (o.offset > x.next)
  rotate_left
  ·refine gq2 c7 ?_
   refine zda ?_
   refine gq1 ?_
   exact same _ _ (hz _ (by rw [zpX,if_pos (.inr (by simpa using c7))]))
  have c6' : ¬ o.offset < x.base := by simpa using c6
  have c7' : ¬ o.offset > x.next := by simpa using c7
  have w1 : IntKind.i64.wrap (o.offset - x.base) = ((o.offset - x.base).toNat : Int) := by rw [zJ (by omega) (by omega)]; omega
  have hrl := zH x.recs
  have hne : id ≠ t := fun e => by subst e; rw [hb] at hrw; cases hrw
  have xb2 : ∀ Y τ,(σ.set t Y ++ τ)[id]? = _ := fun Y τ => zf ((List.getElem?_set_ne (Ne.symm hne)).trans hb)
  have xr2 : ∀ Y τ,(σ.set t Y ++ τ)[t]? = some Y := fun Y τ => zf (List.getElem?_set_self ht)
  have xs2 : ∀ Y τ Z,(σ.set t Y ++ τ).set t Z = σ.set t Z ++ τ := fun Y τ Z => by rw [List.set_append_left _ _ (by simpa using ht),List.set_set]
  have rdr : ∀ n,List.drop n (List.take x.recs.length (zcj x.recs)) = zcj (x.recs.drop n) := fun n => by
   rw [← hrl,List.take_length]; simp only [zcj,List.map_drop]
  have hcut : ∀ X,List.take (i * 4 + 2) (zaa (zbl T.l)) ++ X :: List.drop (i * 4 + 3) (zaa (zbl T.l)) = (zaa (zbl T.l)).set (i * 4 + 2) X := fun X => by
   rw [List.set_eq_take_append_cons_drop,if_pos (by omega)]
  have hcut2 : ∀ Y X,List.take (i * 4 + 1) ((zaa (zbl T.l)).set (i * 4 + 2) Y) ++ X :: List.drop (i * 4 + 2) ((zaa (zbl T.l)).set (i * 4 + 2) Y) = ((zaa (zbl T.l)).set (i * 4 + 2) Y).set (i * 4 + 1) X := fun Y X => by
   rw [List.set_eq_take_append_cons_drop (l := (zaa (zbl T.l)).set (i * 4 + 2) Y),if_pos (by rw [List.length_set]; omega)]
  refine gq35 (zc c7 (zc xb (zc xr (zc xs (zc xb2 (zc xr2 (zc xs2 (zc gs0 (zc gs1 (zc ss1 (zc hrl (zc w1 (zc hlf (zc hi4 (zc rdr (zc hcut hcut2)))))))))))))))) ?_
  have hl1 : (List.drop (o.offset - x.base).toNat x.recs).length ≤ 64 := by rw [List.length_drop]; omega
  refine ⟨zqR _,zqR _,by simp,by omega,by omega,by omega,by omega,by omega,by omega,by omega, ?_⟩
  obtain ⟨R,hR⟩ : ∃ R,List.drop (o.offset - x.base).toNat x.recs = R := ⟨_,rfl⟩
  simp only [hR]
  have hF := hz _ (show zpX T i x o = ((0,o.offset), { T with l := T.l.set i { x with recs := R,base := o.offset } }) by rw [zpX,if_neg (by omega),hR])
  have hset : (((zaa (zbl T.l)).set (i * 4 + 2) (.own (σ.length + 3) (zcj R))).set (i * 4 + 1) (.d (.int .i64 o.offset))).set (i * 4 + 2) (.d (.slice (zcj R))) = zaa (zbl (T.l.set i { x with recs := R,base := o.offset })) := by
   rw [List.set_comm _ _ (show i * 4 + 1 ≠ i * 4 + 2 by omega),List.set_set,ziC f4 (zU hx) (by omega)]
   have f4' : ∀ e ∈ (zbl T.l).set i ((topD x).set 2 (.slice (zcj R))),e.length = 4 := fun e he => by
    rcases List.mem_or_eq_of_mem_set he with h | rfl
    ·exact f4 e h
    ·rfl
   rw [ziC f4' (k := i) (e := (topD x).set 2 (.slice (zcj R))) (by rw [List.getElem?_set_self (by simp [hi])]) (by omega),List.set_set,zbl,zbl,List.map_set]; rfl
  refine ⟨_, .dataR t (i * 4 + 2) g 4 (((zaa (zbl T.l)).set (i * 4 + 2) (.own (σ.length + 3) (zcj R))).set (i * 4 + 1) (.d (.int .i64 o.offset))) (.own (σ.length + 3) (zcj R)) (zcj R) (xr2 _ _) (by rw [List.getElem?_set_ne (by omega),List.getElem?_set_self (by omega)]) rfl (.refl _ _), ?_⟩
  rw [xs2,hset]
  refine done _ hF _ t g ⟨?_,xr2 _ _,hT.last⟩ ⟨by simp,fun j y hy hj hr => ?_⟩
  ·rw [xb2]; simp
  ·refine zf ?_
   rw [List.getElem?_set_ne (fun e => by subst e; rw [hrw] at hy; cases hy; exact hr _ _ _ rfl)]
   exact hy
theorem znz : ∀ l : List (Int × Int × Int),(zih l).length = l.length * 3
 | [] => rfl
 | a :: l => by simp [zih,znz l]; omega
theorem zrf : ∀ {l : List (Int × Int × Int)} {k : Nat} {a : Int × Int × Int},l[k]? = some a → ((zih l).drop (k * 3)).take 3 = [.d (.int .i64 a.1), .d (.int .i64 a.2.1), .d (.int .i64 a.2.2)]
 | [],k,a,h => by simp at h
 | b :: l, 0,a,h => by simp at h; subst h; simp [zih]
 | b :: l,k + 1,a,h => by
  have := zrf (l := l) (k := k) (a := a) (by simpa using h)
  rw [show (k + 1) * 3 = k * 3 + 1 + 1 + 1 by omega]
  simpa [zih] using this
theorem lastC_set : ∀ {l : List (Int × Int × Int)} {k : Nat} (a : Int × Int × Int),k < l.length → (zih l).take (k * 3) ++ (.d (.int .i64 a.1) :: .d (.int .i64 a.2.1) :: .d (.int .i64 a.2.2) :: (zih l).drop (k * 3 + 3)) = zih (l.set k a)
 | [],k,a,h => by simp at h
 | b :: l, 0,a,h => by simp [zih]
 | b :: l,k + 1,a,h => by
  have := lastC_set (l := l) (k := k) a (by simpa using h)
  rw [show (k + 1) * 3 = k * 3 + 1 + 1 + 1 by omega,show k * 3 + 1 + 1 + 1 + 3 = (k * 3 + 3) + 1 + 1 + 1 by omega]
  simpa [zih] using this
abbrev reqAg (c tm : Int) (o : TOp) : AV := .agg [.d (.int .i64 c), .d (.int .i64 tm), .d (.int .i64 o.kind), .d (.str o.topic), .d (.str o.group), .d (.int .i64 o.offset), .d (.slice (zcj o.recs))]
theorem c_r7Apply {σ : List zg} {id t g : Nat} {T : zcb} {c tm : Int} {o : TOp} (hT : zbH σ id t g T) (hn : T.l.length ≤ 8) (hX : ∀ x ∈ T.l,TopI x) (h1 : o.topic.length ≤ 1073741824) (h2 : o.group.length ≤ 1073741824) (ho : o.recs.length ≤ 20971520) (hr : ∀ r ∈ o.recs,r.length ≤ 1073741824) {K : KT}
  (hK : ∀ S t' g',zbH S id t' g' (zcm T c tm o).2.2.2 → zlc σ S id → K (.tup [.agg [.d (.int .i64 (zcm T c tm o).1.1), .d (.int .i64 (zcm T c tm o).1.2)], .d (.slice (zcA (zcm T c tm o).2.1)), .d (.bool (zcm T c tm o).2.2.1)]) S) : zq Tryz.prog zeP [.box id 0,reqAg c tm o] σ K := by
 refine zhy zhR.is rfl fun hl _ => zhR.goes ?_
 have hid := zA hT.box
 have done : ∀ z,zcm T c tm o = z → ∀ S t' g',zbH S id t' g' z.2.2.2 → zlc σ S id → K (.tup [.agg [.d (.int .i64 z.1.1), .d (.int .i64 z.1.2)], .d (.slice (zcA z.2.1)), .d (.bool z.2.2.1)]) S := fun z h => h ▸ hK
 clear hK
 have hb := hT.box
 have xb : ∀ τ,(σ ++ τ)[id]? = _ := fun τ => zf hb
 have same : ∀ r τ,zcm T c tm o = (r, [],false,T) → EndsA K (some [.agg [.d (.int .i64 r.1), .d (.int .i64 r.2)], .exact [], .d (.bool false)]) (σ ++ τ) := fun r τ h => zlO (done _ h _ t g (hT.app _) (.app _ _ _))
 have hlast := hT.last
 simp only [zhW,iN,bT,bF,eN,reqAg]
 cases c0 : decide (c < 0)
 rotate_left
 ·refine gq2 c0 ?_
  refine zda ?_
  refine gq1 ?_
  exact same (1, 0) _ (by rw [zcm,if_pos (by simp at c0; omega)])
 cases c1 : decide (c ≥ 8)
 rotate_left
 ·refine gq2 (zc c0 c1) ?_
  refine zda ?_
  refine gq1 ?_
  exact same (1, 0) _ (by rw [zcm,if_pos (by simp at c1; omega)])
 cases c2 : decide (tm < 1)
 rotate_left
 ·refine gq2 (zc c0 (zc c1 c2)) ?_
  refine zda ?_
  refine gq1 ?_
  exact same (1, 0) _ (by rw [zcm,if_pos (by simp at c2; omega)])
 cases c3 : decide (tm > 9007199254740992)
 rotate_left
 ·refine gq2 (zc c0 (zc c1 (zc c2 c3))) ?_
  refine zda ?_
  refine gq1 ?_
  exact same (1, 0) _ (by rw [zcm,if_pos (by simp at c3; omega)])
 have e0 := c0; have e1 := c1; have e2 := c2; have e3 := c3
 simp only [decide_eq_false_iff_not,Int.not_lt,ge_iff_le,gt_iff_lt,Int.not_le] at e0 e1 e2 e3
 obtain ⟨a,ha⟩ : ∃ a,T.last[c.toNat]? = some a := ⟨_,List.getElem?_eq_getElem (by omega)⟩
 have hga : T.last.getD c.toNat (0, 0, 0) = a := by rw [List.getD_eq_getElem?_getD,ha]; rfl
 have hA : zcm T c tm o = if tm = a.1 then (a.2, [],false,T) else if tm < a.1 then ((7, 0), [],false,T) else ((zcw T o).1,(zcw T o).2.1,true, { (zcw T o).2.2 with last := (zcw T o).2.2.last.set c.toNat (tm,(zcw T o).1.1,(zcw T o).1.2) }) := by
  rw [zcm,if_neg (by omega),hga]
 have hl3 := zrf ha
 have hlc := znz T.last
 have hl4 : ∀ X : AV,List.take 3 (List.drop (1 + c.toNat * 3) (X :: zih T.last)) = [.d (.int .i64 a.1), .d (.int .i64 a.2.1), .d (.int .i64 a.2.2)] := fun X => by
  rw [Nat.add_comm,List.drop_succ_cons]; exact hl3
 cases c4 : (tm == a.1)
 rotate_left
 ·refine gq2 (zc c0 (zc c1 (zc c2 (zc c3 (zc xb (zc hl4 c4)))))) ?_
  exact same a.2 _ (by rw [hA,if_pos (by simpa using c4)])
 cases c5 : decide (tm < a.1)
 rotate_left
 ·refine gq2 (zc c0 (zc c1 (zc c2 (zc c3 (zc xb (zc hl4 (zc c4 c5))))))) ?_
  refine zda ?_
  refine gq1 ?_
  exact same (7, 0) _ (by rw [hA,if_neg (by simpa using c4),if_pos (by simpa using c5)])
 have hz : zcm T c tm o = ((zcw T o).1,(zcw T o).2.1,true, { (zcw T o).2.2 with last := (zcw T o).2.2.last.set c.toNat (tm,(zcw T o).1.1,(zcw T o).1.2) }) := by
  rw [hA,if_neg (by simpa using c4),if_neg (by simpa using c5)]
 refine gq2 (zc c0 (zc c1 (zc c2 (zc c3 (zc xb (zc hl4 (zc c4 c5))))))) ?_
 refine c_r7does (o := o) (hT.app _) hn hX h1 h2 ho hr fun S t' g' hT' hS' => ?_
 obtain ⟨D,hD⟩ : ∃ D,zcw T o = D := ⟨_,rfl⟩
 have hDl : D.2.2.last.length = 8 := by rw [← hD,zpf]; exact hlast
 rw [hD] at hT' hz ⊢
 have g0 : S[σ.length]? = _ := hS'.get _ _ (by rw [zm]; rfl) (by omega) (fun _ _ _ e => by cases e)
 have g1 : S[σ.length + 1]? = _ := hS'.get _ _ (by rw [zh]; rfl) (by omega) (fun _ _ _ e => by cases e)
 have g2 : S[σ.length + 2]? = _ := hS'.get _ _ (by rw [zh]; rfl) (by omega) (fun _ _ _ e => by cases e)
 have hb' := hT'.box
 have q0 : ∀ τ,(S ++ τ)[σ.length]? = _ := fun τ => zf g0
 have q1 : ∀ τ,(S ++ τ)[σ.length + 1]? = _ := fun τ => zf g1
 have q2 : ∀ τ,(S ++ τ)[σ.length + 2]? = _ := fun τ => zf g2
 have qb : ∀ τ,(S ++ τ)[id]? = _ := fun τ => zf hb'
 have hid' := zA hb'
 have hsl := zA g1
 have qs : ∀ Y τ,(S ++ τ).set id Y = S.set id Y ++ τ := fun Y τ => List.set_append_left _ _ hid'
 have qs1 : ∀ Y τ Z,(S.set id Y ++ τ).set (σ.length + 1) Z = (S.set id Y).set (σ.length + 1) Z ++ τ := fun Y τ Z => List.set_append_left _ _ (by simpa using hsl)
 have r1 : ∀ Y τ,(S.set id Y ++ τ)[σ.length + 1]? = _ := fun Y τ => zf ((List.getElem?_set_ne (by omega)).trans g1)
 have rS : ∀ Y a τ,(S.set id Y ++ a :: τ)[S.length]? = some a := fun Y a τ => by rw [List.getElem?_append_right (by simp)]; simp
 have r1' : ∀ Y τ Z,((S.set id Y).set (σ.length + 1) Z ++ τ)[σ.length + 1]? = some Z := fun Y τ Z => zf (List.getElem?_set_self (by simpa using hsl))
 have hl5 := znz D.2.2.last
 have hcs : ∀ X : AV,List.take (1 + c.toNat * 3) (X :: zih D.2.2.last) ++ .d (.int .i64 tm) :: .d (.int .i64 D.1.1) :: .d (.int .i64 D.1.2) :: List.drop (1 + (c.toNat * 3 + 3)) (X :: zih D.2.2.last) = X :: zih (D.2.2.last.set c.toNat (tm,D.1.1,D.1.2)) := fun X => by
  have := lastC_set (l := D.2.2.last) (k := c.toNat) (tm,D.1.1,D.1.2) (by omega)
  rw [Nat.add_comm 1 (c.toNat * 3 + 3),Nat.add_comm 1 (c.toNat * 3),List.take_succ_cons,List.drop_succ_cons,List.cons_append,this]
 refine gq2 (zc q0 (zc q1 (zc q2 (zc qb (zc qs (zc qs1 (zc r1 (zc rS (zc r1' hcs))))))))) ?_
 have hrow := hT'.row
 refine zlO (done _ hz _ t' g' ⟨?_, ?_,by rw [List.length_set]; exact hDl⟩ ⟨?_,fun j x hx hj hr' => ?_⟩)
 ·exact zf ((List.getElem?_set_ne (by omega)).trans (List.getElem?_set_self hid'))
 ·refine zf ?_
  rw [List.getElem?_set_ne (fun e => by subst e; rw [g1] at hrow; cases hrow),List.getElem?_set_ne (fun e => by subst e; rw [hb'] at hrow; cases hrow)]
  exact hrow
 ·simp; omega
 ·have hlt := zA hx
  refine zf ?_
  rw [List.getElem?_set_ne (by omega),List.getElem?_set_ne (Ne.symm hj)]
  exact hS'.get j x (zf hx) hj hr'
end Go.Proofs.YtfjommppajkpoaaGreat
