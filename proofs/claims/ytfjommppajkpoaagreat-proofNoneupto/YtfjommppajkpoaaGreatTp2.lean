/- Contracts: the document's topics: records are published, groups commit, the front is let go. -/
import Derived.Test.YtfjommppajkpoaaGreatTp1
import Derived.Test.YtfjommppajkpoaaGreatOp1
set_option linter.all false
set_option maxRecDepth 100000
namespace Go.Proofs.YtfjommppajkpoaaGreat
open Go.AW
theorem c_r7publish {σ : List zg} {id t g : Nat} {T : zcb} {i : Nat} {x : zcM} {o : TOp} (hT : zbH σ id t g T) (hn : T.l.length ≤ 8) (hx : T.l[i]? = some x) (hX : TopI x) (ho : o.recs.length ≤ 20971520) (hr : ∀ r ∈ o.recs,r.length ≤ 1073741824) {K : KT}
  (hK : ∀ S,zbH S id t g (zdp T i x o).2.2 → zlc σ S id → K (.tup [.agg [.d (.int .i64 (zdp T i x o).1.1), .d (.int .i64 (zdp T i x o).1.2)], .d (.slice (zcA (zdp T i x o).2.1))]) S) : zq Tryz.prog zdQ [.box id 0, .d (.int .i64 i),opA o] σ K := by
 refine zhy zgx.is rfl fun hl _ => zgx.goes ?_
 have hb := hT.box
 have hrw := hT.row
 have hi : i < T.l.length := (List.getElem?_eq_some_iff.1 hx).1
 have xb : ∀ τ,(σ ++ τ)[id]? = _ := fun τ => zf hb
 have xr : ∀ τ,(σ ++ τ)[t]? = _ := fun τ => zf hrw
 have f4 := zdh T.l
 have hgt : List.take 4 (List.drop (i * 4) (zaa (zbl T.l))) = (topD x).map .d := zkP f4 (zU hx)
 have hol := zH o.recs
 have hxl := zH x.recs
 have hlenA : (zaa (zbl T.l)).length = T.l.length * 4 := by rw [zdG f4,List.length_map]
 have h1 := hX.base; have h2 := hX.next; have h3 := hX.recs
 have w1 : IntKind.i64.wrap ((x.recs.length : Int) + (o.recs.length : Int)) = (x.recs.length : Int) + o.recs.length := zJ (by omega) (by omega)
 have w2 : IntKind.i64.wrap (9007199254740992 - (o.recs.length : Int)) = 9007199254740992 - (o.recs.length : Int) := zJ (by omega) (by omega)
 have hlf : (zbl T.l).flatten.length = T.l.length * 4 := by rw [← hlenA,zaa,List.length_map]
 have hi4 : i * 4 + 4 ≤ T.l.length * 4 := by omega
 have n64 : -9223372036854775808 ≤ x.next ∧ x.next ≤ 9223372036854775807 := by
  have : x.next = x.base + x.recs.length := rfl
  omega
 have bad : (64 < x.recs.length + o.recs.length ∨ 9007199254740992 - (o.recs.length : Int) < x.next) → ∀ τ,K (.tup [.agg [.d (.int .i64 71), .d (.int .i64 0)], .d (.slice [])]) (σ ++ τ) := fun h τ => by
  have := hK (σ ++ τ)
  rw [zdp,if_pos h] at this
  exact this (hT.app τ) (.app _ _ _)
 simp only [zgC,iN,bT,bF,eN,opA]
 cases c1 : decide ((x.recs.length : Int) + (o.recs.length : Int) > 64)
 rotate_left
 ·refine zbq (zc xb (zc xr (zc hgt (zc hol (zc hxl (zc w1 (zc w2 (zc hlf (zc hi4 c1))))))))) ?_
  refine zda ?_
  refine gq1 ?_
  exact zlO (bad (.inl (by simp at c1; omega)) _)
 ·refine zbq (zc xb (zc xr (zc hgt (zc hol (zc hxl (zc w1 (zc w2 (zc hlf (zc hi4 c1))))))))) ?_
  refine zlH n64 ?_
  cases c2 : decide (x.next > 9007199254740992 - (o.recs.length : Int))
  rotate_left
  ·refine gq2 (zc hol (zc w2 c2)) ?_
   refine zda ?_
   refine gq1 ?_
   exact zlO (bad (.inr (by simp at c2; omega)) _)
  ·refine gq2 (zc hol (zc w2 c2)) ?_
   refine ⟨zqR _,by simp,by omega, ?_⟩
   refine zaO o.recs.length (fun k vs s => ∃ (A : List zbe) (B : List (List UInt8)) (τ : List zg),vs = [.own (σ.length + 4) (zcA A), .own (σ.length + 3) (zcj B), .d (.int .i64 k)] ∧ s = σ ++ ([.box [.d (.int .i64 o.kind), .d (.str o.topic), .d (.str o.group), .d (.int .i64 o.offset), .d (.slice (zcj o.recs))], .box [.d (.int .i64 0), .d (.int .i64 0)], .box [.d (.str x.name), .d (.int .i64 x.base), .d (.slice (zcj x.recs)), .d (.slice (zbM x.groups))], .tok 1 (zcj B).length, .tok 3 A.length] ++ τ) ∧ A = zkz x.name x.next (o.recs.take k) ∧ B = x.recs ++ o.recs.take k)
    (.tok 0 [] 3 rfl (by simp) (.refl _ _)) ⟨[],x.recs, [],by simp,by simp [hxl],rfl,by simp⟩ ?_
   rintro k vs s hk ⟨A,B, τ,rfl,rfl,hA,hB⟩
   have hal : (zcA A).length = A.length := List.length_map ..
   by_cases hlt : k < o.recs.length
   ·have hd : decide ((k : Int) < (o.recs.length : Int)) = true := by simp; omega
    have hy : o.recs[k]? = some o.recs[k] := by simp [hlt]
    have hgy := znm hy
    have hry := hr _ (List.getElem_mem hlt)
    obtain ⟨y,hye⟩ : ∃ y,o.recs[k] = y := ⟨_,rfl⟩
    rw [hye] at hy hgy hry
    have htk : o.recs.take (k + 1) = o.recs.take k ++ [y] := by rw [List.take_add_one,hy]; rfl
    have hbl := zaH y
    have w3 : IntKind.i64.wrap (x.next + (k : Int)) = x.next + k := zJ (by have : x.next = x.base + x.recs.length := rfl; omega) (by omega)
    have hbk : B.length = x.recs.length + k := by rw [hB]; simp; omega
    have hak : A.length = k := by rw [hA,zoC]; simp; omega
    obtain ⟨A2,hA2⟩ : ∃ a,A ++ [⟨x.name,x.next + k,y⟩] = a := ⟨_,rfl⟩
    obtain ⟨B2,hB2⟩ : ∃ a,B ++ [y] = a := ⟨_,rfl⟩
    have gA : zcA A ++ [[.str x.name, .int .i64 (x.next + k), .slice (bcs y)]] = zcA A2 := by rw [← hA2]; simp
    have gB : zcj B ++ [[.slice (bcs y)]] = zcj B2 := by rw [← hB2]; simp [zcj]
    have lA : A.length + 1 = A2.length := by rw [← hA2]; simp
    have lB : B.length + 1 = (zcj B2).length := by rw [← hB2,zH]; simp
    have lA3 : ∀ e ∈ zcA A,e.length = 3 := zhf (f := zoB) (fun _ => rfl) A
    refine gq2 (zc hd (zc hol (zc hgy hbl))) ?_
    refine ⟨zgs,by simp,by omega, ?_⟩
    refine zlH n64 ?_
    refine gq2 (zc w3 (zc hal (zc gA (zc gB (zc lA (zc lB (wkc k (by omega)))))))) ?_
    rw [zH] at lB
    refine ⟨by omega,zap.next hlt ⟨A2,B2, τ ++ [.tok 1 y.length],rfl,by simp [zH], ?_, ?_⟩⟩
    ·rw [htk,zqT, ← hA2,hA,List.length_take,Nat.min_eq_left (by omega)]
    ·rw [htk, ← hB2,hB,List.append_assoc]
   ·have hd : decide ((k : Int) < (o.recs.length : Int)) = false := by simp; omega
    have hko : o.recs.take k = o.recs := List.take_of_length_le (by omega)
    rw [hko] at hA hB
    have ht := zA hrw
    have xs : ∀ Y τ,(σ ++ τ).set t Y = σ.set t Y ++ τ := fun Y τ => List.set_append_left _ _ ht
    have gs2 : ∀ Y τ,(σ.set t Y ++ τ)[σ.length + 2]? = τ[2]? := fun Y τ => by rw [List.getElem?_append_right (by simp)]; simp
    have gs1 : ∀ Y τ,(σ.set t Y ++ τ)[σ.length + 1]? = τ[1]? := fun Y τ => by rw [List.getElem?_append_right (by simp)]; simp
    have ss1 : ∀ Y τ b,(σ.set t Y ++ τ).set (σ.length + 1) b = σ.set t Y ++ τ.set 1 b := fun Y τ b => by rw [List.set_append_right _ _ (by simp)]; simp
    refine zbq (zc hd (zc hol (zc xb (zc xr (zc xs (zc gs1 (zc gs2 (zc hlf hi4)))))))) ?_
    refine zlH n64 ?_
    refine gq2 (zc gs1 (zc gs2 ss1)) ?_
    have hpF : zdp T i x o = ((0,x.next),A, { T with l := T.l.set i { x with recs := B } }) := by
     rw [zdp,if_neg (by simp at c1 c2; omega),hA,hB]
    rw [hpF] at hK
    have hcut : List.take (i * 4 + 2) (zaa (zbl T.l)) ++ AV.own (σ.length + 3) (zcj B) :: List.drop (i * 4 + 3) (zaa (zbl T.l)) = (zaa (zbl T.l)).set (i * 4 + 2) (.own (σ.length + 3) (zcj B)) := by
     rw [List.set_eq_take_append_cons_drop,if_pos (by omega)]
    rw [hcut]
    have hset : (zaa (zbl T.l)).set (i * 4 + 2) (.d (.slice (zcj B))) = zaa (zbl (T.l.set i { x with recs := B })) := by
     rw [ziC f4 (zU hx) (by omega),zbl,zbl,List.map_set]; rfl
    refine ⟨_, .dataR t (i * 4 + 2) g 4 ((zaa (zbl T.l)).set (i * 4 + 2) (.own (σ.length + 3) (zcj B))) (.own (σ.length + 3) (zcj B)) (zcj B) (zf (List.getElem?_set_self ht)) (by rw [List.getElem?_set_self (by omega)]) rfl (.refl _ _), ?_⟩
    rw [List.set_append_left _ _ (by simpa using ht),List.set_set,List.set_set,hset]
    refine hK _ ⟨?_, ?_,hT.last⟩ ⟨by simp,fun j y hy hj hr => ?_⟩
    ·rw [zf]
     rw [List.getElem?_set_ne (fun e => by subst e; rw [hb] at hrw; cases hrw),hb]
     simp
    ·exact zf (List.getElem?_set_self ht)
    ·refine zf ?_
     rw [List.getElem?_set_ne (fun e => by subst e; rw [hrw] at hy; cases hy; exact hr _ _ _ rfl)]
     exact hy
theorem c_r7commit {σ : List zg} {id t g : Nat} {T : zcb} {i : Nat} {x : zcM} {o : TOp} (hT : zbH σ id t g T) (hn : T.l.length ≤ 8) (hx : T.l[i]? = some x) (hX : TopI x) {K : KT}
  (hK : ∀ S,zbH S id t g (zcq T i x o).2 → zlc σ S id → K (.agg [.d (.int .i64 (zcq T i x o).1.1), .d (.int .i64 (zcq T i x o).1.2)]) S) : zq Tryz.prog zes [.box id 0, .d (.int .i64 i),opA o] σ K := by
 refine zhy zhv.is rfl fun hl _ => zhv.goes ?_
 have hb := hT.box
 have hrw := hT.row
 have hi : i < T.l.length := (List.getElem?_eq_some_iff.1 hx).1
 have xb : ∀ τ,(σ ++ τ)[id]? = _ := fun τ => zf hb
 have xr : ∀ τ,(σ ++ τ)[t]? = _ := fun τ => zf hrw
 have f4 := zdh T.l
 have hgt : List.take 4 (List.drop (i * 4) (zaa (zbl T.l))) = (topD x).map .d := zkP f4 (zU hx)
 have hlenA : (zaa (zbl T.l)).length = T.l.length * 4 := by rw [zdG f4,List.length_map]
 have hlf : (zbl T.l).flatten.length = T.l.length * 4 := by rw [← hlenA,zaa,List.length_map]
 have hi4 : i * 4 + 4 ≤ T.l.length * 4 := by omega
 have h1 := hX.base; have h2 := hX.next; have h3 := hX.recs; have h4 := hX.groups
 have n64 : -9223372036854775808 ≤ x.next ∧ x.next ≤ 9223372036854775807 := by
  have : x.next = x.base + x.recs.length := rfl
  omega
 have hgl : (zbM x.groups).length = x.groups.length := List.length_map ..
 have hg2 : ∀ e ∈ zbM x.groups,e.length = 2 := zhf (f := zpu) (fun _ => rfl) x.groups
 have ht := zA hrw
 have xs : ∀ Y τ,(σ ++ τ).set t Y = σ.set t Y ++ τ := fun Y τ => List.set_append_left _ _ ht
 have gs0 : ∀ Y τ,(σ.set t Y ++ τ)[σ.length]? = τ[0]? := fun Y τ => by rw [List.getElem?_append_right (by simp)]; simp
 have gs1 : ∀ Y τ,(σ.set t Y ++ τ)[σ.length + 1]? = τ[1]? := fun Y τ => by rw [List.getElem?_append_right (by simp)]; simp
 have ss1 : ∀ Y τ b,(σ.set t Y ++ τ).set (σ.length + 1) b = σ.set t Y ++ τ.set 1 b := fun Y τ b => by rw [List.set_append_right _ _ (by simp)]; simp
 have hcut : ∀ X,List.take (i * 4 + 3) (zaa (zbl T.l)) ++ X :: List.drop (i * 4 + 4) (zaa (zbl T.l)) = (zaa (zbl T.l)).set (i * 4 + 3) X := fun X => by
  rw [List.set_eq_take_append_cons_drop,if_pos (by omega)]
 have final : ∀ (G2 : List (List UInt8 × Int)) (a : Nat) (τ : List zg),zcq T i x o = ((0,o.offset), { T with l := T.l.set i { x with groups := G2 } }) → EndsA K (some [.agg [.d (.int .i64 0), .d (.int .i64 o.offset)]]) (σ.set t (.row g 4 ((zaa (zbl T.l)).set (i * 4 + 3) (.own a (zbM G2)))) ++ τ) := fun G2 a τ hF => by
  rw [hF] at hK
  have hset : (zaa (zbl T.l)).set (i * 4 + 3) (.d (.slice (zbM G2))) = zaa (zbl (T.l.set i { x with groups := G2 })) := by
   rw [ziC f4 (zU hx) (by omega),zbl,zbl,List.map_set]; rfl
  refine ⟨_, .dataR t (i * 4 + 3) g 4 ((zaa (zbl T.l)).set (i * 4 + 3) (.own a (zbM G2))) (.own a (zbM G2)) (zbM G2) (zf (List.getElem?_set_self ht)) (by rw [List.getElem?_set_self (by omega)]) rfl (.refl _ _), ?_⟩
  rw [List.set_append_left _ _ (by simpa using ht),List.set_set,List.set_set,hset]
  refine hK _ ⟨?_, ?_,hT.last⟩ ⟨by simp,fun j y hy hj hr => ?_⟩
  ·rw [zf]
   rw [List.getElem?_set_ne (fun e => by subst e; rw [hb] at hrw; cases hrw),hb]
   simp
  ·exact zf (List.getElem?_set_self ht)
  ·refine zf ?_
   rw [List.getElem?_set_ne (fun e => by subst e; rw [hrw] at hy; cases hy; exact hr _ _ _ rfl)]
   exact hy
 have bad : ∀ e τ,zcq T i x o = ((e, 0),T) → EndsA K (some [.agg [.d (.int .i64 e), .d (.int .i64 0)]]) (σ ++ τ) := fun e τ h => by
  rw [h] at hK
  exact zlO (hK _ (hT.app _) (.app _ _ _))
 simp only [zhB,iN,bT,bF,eN,opA]
 refine zbq (zc xb (zc xr (zc hgt (zc hlf hi4)))) ?_
 refine zw x.groups.length (fun k vs s => vs = [.d (.int .i64 k)] ∧ s = σ ++ [.box [.d (.int .i64 o.kind), .d (.str o.topic), .d (.str o.group), .d (.int .i64 o.offset), .d (.slice (zcj o.recs))], .box [.d (.int .i64 0), .d (.int .i64 0)], .box [.d (.str x.name), .d (.int .i64 x.base), .d (.slice (zcj x.recs)), .d (.slice (zbM x.groups))]] ∧ zsF o.group x.groups = k + zsF o.group (x.groups.drop k)) ⟨rfl,rfl,by simp⟩ ?_
 rintro k vs s hk ⟨rfl,rfl,hpf⟩
 by_cases hlt : ∃ y,x.groups[k]? = some y ∧ Op.bytesLess y.1 o.group = true
 ·obtain ⟨y,hy,h5⟩ := hlt
  have hlt := zi hy
  have hd : decide ((k : Int) < (x.groups.length : Int)) = true := by simp; omega
  have hgy := zU (f := zpu) hy
  rw [ztp hy,if_pos h5] at hpf
  refine gq2 (zc hd (zc hgl (zc hgy (zc h5 (wkc k (by omega)))))) ?_
  exact zap.next hlt ⟨rfl,rfl,by omega⟩
 ·have hk0 : zsF o.group x.groups = k := by
   rw [hpf]
   cases hy : x.groups[k]? with
   | none => rw [List.drop_eq_nil_of_le (by simpa using hy)]; rfl
   | some y => rw [ztp hy,if_neg (fun h => hlt ⟨y,hy,h⟩)]; rfl
  have gw : ∀ l : List (List UInt8 × Int), ∀ e ∈ zbM l,e.length = 2 := fun l => zhf (f := zpu) (fun _ => rfl) l
  have gdr : ∀ j,List.drop j (List.take x.groups.length (zbM x.groups)) = zbM (x.groups.drop j) := fun j => by
   rw [← hgl,List.take_length]; exact (List.map_drop ..).symm
  have gj : ∀ j,zbM (List.take k x.groups) ++ [.str o.group, .int .i64 o.offset] :: zbM (List.drop j x.groups) = zbM (List.take k x.groups ++ (o.group,o.offset) :: List.drop j x.groups) := fun j => by simp
  cases hG : hadG o.group x.groups with
  | none =>
   have gtk : List.take k (zbM x.groups) = zbM (x.groups.take k) := (List.map_take ..).symm
   have hAB : x.groups.length ≤ k ∨ ∃ y,x.groups[k]? = some y ∧ Op.bytesLess y.1 o.group = false ∧ (y.1 == o.group) = false := by
    rw [hadG,hk0] at hG
    cases hy : x.groups[k]? with
    | none => exact .inl (by simpa using hy)
    | some y =>
     rw [hy] at hG
     simp only at hG
     split at hG
     ·cases hG
     ·rename_i h
      refine .inr ⟨y,rfl, ?_,by simpa using h⟩
      cases h5 : Op.bytesLess y.1 o.group
      ·rfl
      ·exact (hlt ⟨y,hy,h5⟩).elim
   cases c1 : decide (o.offset < 0)
   rotate_left
   ·rcases hAB with hkl | ⟨y,hy,h5,h6⟩
    ·have hd : decide ((k : Int) < (x.groups.length : Int)) = false := by simp; omega
     refine gq2 (zc hd (zc hgl c1)) ?_
     refine zda ?_
     refine gq1 ?_
     exact bad _ _ (by rw [zcq,hG,if_pos (.inl (by simpa using c1))])
    ·have hltk := zi hy
     have hd : decide ((k : Int) < (x.groups.length : Int)) = true := by simp; omega
     have hgy := zU (f := zpu) hy
     refine gq2 (zc hd (zc hgl (zc hgy (zc h5 (zc h6 c1))))) ?_
     refine zda ?_
     refine gq1 ?_
     exact bad _ _ (by rw [zcq,hG,if_pos (.inl (by simpa using c1))])
   ·rcases hAB with hkl | ⟨y,hy,h5,h6⟩
    case' inl =>
     have hd : decide ((k : Int) < (x.groups.length : Int)) = false := by simp; omega
     refine gq2 (zc hd (zc hgl c1)) ?_
    case' inr =>
     have hltk := zi hy
     have hd : decide ((k : Int) < (x.groups.length : Int)) = true := by simp; omega
     have hgy := zU (f := zpu) hy
     refine gq2 (zc hd (zc hgl (zc hgy (zc h5 (zc h6 c1))))) ?_
    all_goals
     refine zlH n64 ?_
     cases c2 : decide (o.offset > x.next)
    all_goals
     first
     | (
      have c2' := of_decide_eq_true c2
      refine gq2 c2 ?_
      refine zda ?_
      refine gq1 ?_
      exact bad _ _ (by rw [zcq,if_pos (.inr (by simpa using c2))]))
     | (
      cases c3 : decide ((x.groups.length : Int) ≥ 8)
      ·refine gq2 (zc c2 (zc c3 (zc xb (zc xr (zc hgl (zc gtk (zc (gdr k) (zc (gj k) (zc hlf (zc xs (zc gs0 (zc gs1 (zc ss1 hcut))))))))))))) ?_
       have hl1 : (List.take k x.groups).length ≤ 8 := by rw [List.length_take]; omega
       have hl2 : (List.drop k x.groups).length ≤ 8 := by rw [List.length_drop]; omega
       refine ⟨gw _,by simp,by omega,by simp,by omega,by omega,by omega,by omega,gw _,gw _,by first | omega | (simp only [List.length_map]; omega),by omega,by omega,by omega, ?_⟩
       refine final _ _ _ ?_
       rw [zcq,hG,if_neg (by simp at c1 c2; simp; omega),if_neg (by simp at c3; simp; omega),hk0]
       rfl
      ·refine gq2 (zc c2 (zc c3 hgl)) ?_
       refine zda ?_
       refine gq1 ?_
       exact bad _ _ (by rw [zcq,hG,if_neg (by simp at c1 c2; simp; omega),if_pos (by simp at c3; simp; omega)]))
  | some v =>
   obtain ⟨y,hy,hyn,hyv⟩ : ∃ y,x.groups[k]? = some y ∧ (y.1 == o.group) = true ∧ y.2 = v := by
    rw [hadG,hk0] at hG
    cases hy : x.groups[k]? with
    | none => rw [hy] at hG; cases hG
    | some y =>
     rw [hy] at hG
     simp only at hG
     split at hG
     ·rename_i h; cases hG; exact ⟨y,rfl,h,rfl⟩
     ·cases hG
   have hltk := zi hy
   have hd : decide ((k : Int) < (x.groups.length : Int)) = true := by simp; omega
   have hgy := zU (f := zpu) hy
   have h5 : Op.bytesLess y.1 o.group = false := by
    cases h5 : Op.bytesLess y.1 o.group
    ·rfl
    ·exact (hlt ⟨y,hy,h5⟩).elim
   subst hyv
   have gtk : List.take k (zbM x.groups) = zbM (x.groups.take k) := (List.map_take ..).symm
   cases c1 : decide (o.offset < y.2)
   rotate_left
   ·refine gq2 (zc hd (zc hgl (zc hgy (zc h5 (zc hyn c1))))) ?_
    refine zda ?_
    refine gq1 ?_
    exact bad _ _ (by rw [zcq,hG,if_pos (.inl (by simpa using c1))])
   refine gq2 (zc hd (zc hgl (zc hgy (zc h5 (zc hyn c1))))) ?_
   refine zlH n64 ?_
   cases c2 : decide (o.offset > x.next)
   rotate_left
   ·refine gq2 c2 ?_
    refine zda ?_
    refine gq1 ?_
    exact bad _ _ (by rw [zcq,if_pos (.inr (by simpa using c2))])
   refine gq2 (zc c2 (zc xb (zc xr (zc hgl (zc gtk (zc (gdr (k + 1)) (zc (gj (k + 1)) (zc hlf (zc (wkc k (by omega)) (zc xs (zc gs0 (zc gs1 (zc ss1 hcut))))))))))))) ?_
   have hl1 : (List.take k x.groups).length ≤ 8 := by rw [List.length_take]; omega
   have hl2 : (List.drop (k + 1) x.groups).length ≤ 8 := by rw [List.length_drop]; omega
   refine ⟨gw _,by simp,by omega,by simp,by omega,by omega,by omega,by omega,gw _,gw _,by first | omega | (simp only [List.length_map]; omega),by omega,by omega,by omega, ?_⟩
   refine final _ _ _ ?_
   rw [zcq,hG,if_neg (by simp at c1 c2; simp; omega),if_neg (by simp),hk0]
   rfl
end Go.Proofs.YtfjommppajkpoaaGreat
