/- Contracts: the document's topics: records are published, groups commit, the front is let go. -/
import Derived.Test.YtaocmalhjfakdaaGreatTp1
import Derived.Test.YtaocmalhjfakdaaGreatOp1
set_option linter.all false
set_option maxRecDepth 100000
set_option linter.unusedSimpArgs false
set_option linter.unusedVariables false
namespace Go.Proofs.YtaocmalhjfakdaaGreat
open Go.AW

theorem c_r7publish {σ : List zc} {id t g : Nat} {T : zak} {i : Nat} {x : zu} {o : TOp} (hT : zbT σ id t g T) (hn : T.l.length ≤ 8) (hx : T.l[i]? = some x) (hX : TopI x) (ho : o.recs.length ≤ 20971520) (hr : ∀ r ∈ o.recs, r.length ≤ 1073741824) {K : KT}
    (hK : ∀ S, zbT S id t g (zbH T i x o).2.2 → ziP σ S id → K (.tup [.agg [.d (.int .i64 (zbH T i x o).1.1), .d (.int .i64 (zbH T i x o).1.2)], .d (.slice (zch (zbH T i x o).2.1))]) S) : zn Tryz.prog zdG [.box id 0, .d (.int .i64 i), opA o] σ K := by
  refine zaj zfA.is rfl fun hl _ => zfA.goes ?_
  have hb := hT.box
  have hrw := hT.row
  have hi : i < T.l.length := (List.getElem?_eq_some_iff.1 hx).1
  have xb : ∀ τ, (σ ++ τ)[id]? = _ := fun τ => zf hb
  have xr : ∀ τ, (σ ++ τ)[t]? = _ := fun τ => zf hrw
  have f4 := zbL T.l
  have hgt : List.take 4 (List.drop (i * 4) (zT (zaE T.l))) = (topD x).map .d := zhc f4 (zbo hx)
  have hol := zo o.recs
  have hxl := zo x.recs
  have hlenA : (zT (zaE T.l)).length = T.l.length * 4 := by rw [zdp f4, List.length_map]
  have h1 := hX.base; have h2 := hX.next; have h3 := hX.recs
  have w1 : IntKind.i64.wrap ((x.recs.length : Int) + (o.recs.length : Int)) = (x.recs.length : Int) + o.recs.length := zam (by omega) (by omega)
  have w2 : IntKind.i64.wrap (9007199254740992 - (o.recs.length : Int)) = 9007199254740992 - (o.recs.length : Int) := zam (by omega) (by omega)
  have hlf : (zaE T.l).flatten.length = T.l.length * 4 := by rw [← hlenA, zT, List.length_map]
  have hi4 : i * 4 + 4 ≤ T.l.length * 4 := by omega
  have n64 : -9223372036854775808 ≤ x.next ∧ x.next ≤ 9223372036854775807 := by
    have : x.next = x.base + x.recs.length := rfl
    omega
  have bad : (64 < x.recs.length + o.recs.length ∨ 9007199254740992 - (o.recs.length : Int) < x.next) → ∀ τ, K (.tup [.agg [.d (.int .i64 71), .d (.int .i64 0)], .d (.slice [])]) (σ ++ τ) := fun h τ => by
    have := hK (σ ++ τ)
    rw [zbH, if_pos h] at this
    exact this (hT.app τ) (.app _ _ _)
  simp only [zfJ, iN, bT, bF, eN, opA]
  cases c1 : decide ((x.recs.length : Int) + (o.recs.length : Int) > 64)
  rotate_left
  · refine zmq (zb xb (zb xr (zb hgt (zb hol (zb hxl (zb w1 (zb w2 (zb hlf (zb hi4 c1))))))))) ?_
    refine zcS ?_
    refine zby ?_
    exact zaO (bad (.inl (by simp at c1; omega)) _)
  · refine zmq (zb xb (zb xr (zb hgt (zb hol (zb hxl (zb w1 (zb w2 (zb hlf (zb hi4 c1))))))))) ?_
    refine zev n64 ?_
    cases c2 : decide (x.next > 9007199254740992 - (o.recs.length : Int))
    rotate_left
    · refine zt (zb hol (zb w2 c2)) ?_
      refine zcS ?_
      refine zby ?_
      exact zaO (bad (.inr (by simp at c2; omega)) _)
    · refine zt (zb hol (zb w2 c2)) ?_
      refine ⟨zgX _, by simp, by omega, ?_⟩
      refine zcc o.recs.length (fun k vs s => ∃ (A : List zgR) (B : List (List UInt8)) (τ : List zc), vs = [.own (σ.length + 4) (zch A), .own (σ.length + 3) (zK B), .d (.int .i64 k)] ∧ s = σ ++ ([.box [.d (.int .i64 o.kind), .d (.str o.topic), .d (.str o.group), .d (.int .i64 o.offset), .d (.slice (zK o.recs))], .box [.d (.int .i64 0), .d (.int .i64 0)], .box [.d (.str x.name), .d (.int .i64 x.base), .d (.slice (zK x.recs)), .d (.slice (zW x.groups))], .tok 1 (zK B).length, .tok 3 A.length] ++ τ) ∧ A = zeD x.name x.next (o.recs.take k) ∧ B = x.recs ++ o.recs.take k)
        (.tok 0 [] 3 rfl (by simp) (.refl _ _)) ⟨[], x.recs, [], by simp, by simp [hxl], rfl, by simp⟩ ?_
      rintro k vs s hk ⟨A, B, τ, rfl, rfl, hA, hB⟩
      have hal : (zch A).length = A.length := List.length_map ..
      by_cases hlt : k < o.recs.length
      · have hd : decide ((k : Int) < (o.recs.length : Int)) = true := by simp; omega
        have hy : o.recs[k]? = some o.recs[k] := by simp [hlt]
        have hgy := zgd hy
        have hry := hr _ (List.getElem_mem hlt)
        obtain ⟨y, hye⟩ : ∃ y, o.recs[k] = y := ⟨_, rfl⟩
        rw [hye] at hy hgy hry
        have htk : o.recs.take (k + 1) = o.recs.take k ++ [y] := by rw [List.take_add_one, hy]; rfl
        have hbl := zbM y
        have w3 : IntKind.i64.wrap (x.next + (k : Int)) = x.next + k := zam (by have : x.next = x.base + x.recs.length := rfl; omega) (by omega)
        have hbk : B.length = x.recs.length + k := by rw [hB]; simp; omega
        have hak : A.length = k := by rw [hA, zlm]; simp; omega
        obtain ⟨A2, hA2⟩ : ∃ a, A ++ [⟨x.name, x.next + k, y⟩] = a := ⟨_, rfl⟩
        obtain ⟨B2, hB2⟩ : ∃ a, B ++ [y] = a := ⟨_, rfl⟩
        have gA : zch A ++ [[.str x.name, .int .i64 (x.next + k), .slice (bcs y)]] = zch A2 := by rw [← hA2]; simp
        have gB : zK B ++ [[.slice (bcs y)]] = zK B2 := by rw [← hB2]; simp [zK]
        have lA : A.length + 1 = A2.length := by rw [← hA2]; simp
        have lB : B.length + 1 = (zK B2).length := by rw [← hB2, zo]; simp
        have lA3 : ∀ e ∈ zch A, e.length = 3 := zoX (f := zoT) (fun _ => rfl) A
        refine zt (zb hd (zb hol (zb hgy hbl))) ?_
        refine ⟨zdh, by simp, by omega, ?_⟩
        refine zev n64 ?_
        refine zt (zb w3 (zb hal (zb gA (zb gB (zb lA (zb lB (wkc k (by omega)))))))) ?_
        rw [zo] at lB
        refine ⟨by omega, zbC.next hlt ⟨A2, B2, τ ++ [.tok 1 y.length], rfl, by simp [zo], ?_, ?_⟩⟩
        · rw [htk, zjJ, ← hA2, hA, List.length_take, Nat.min_eq_left (by omega)]
        · rw [htk, ← hB2, hB, List.append_assoc]
      · have hd : decide ((k : Int) < (o.recs.length : Int)) = false := by simp; omega
        have hko : o.recs.take k = o.recs := List.take_of_length_le (by omega)
        rw [hko] at hA hB
        have ht := zg hrw
        have xs : ∀ Y τ, (σ ++ τ).set t Y = σ.set t Y ++ τ := fun Y τ => List.set_append_left _ _ ht
        have gs2 : ∀ Y τ, (σ.set t Y ++ τ)[σ.length + 2]? = τ[2]? := fun Y τ => by rw [List.getElem?_append_right (by simp)]; simp
        have gs1 : ∀ Y τ, (σ.set t Y ++ τ)[σ.length + 1]? = τ[1]? := fun Y τ => by rw [List.getElem?_append_right (by simp)]; simp
        have ss1 : ∀ Y τ b, (σ.set t Y ++ τ).set (σ.length + 1) b = σ.set t Y ++ τ.set 1 b := fun Y τ b => by rw [List.set_append_right _ _ (by simp)]; simp
        refine zmq (zb hd (zb hol (zb xb (zb xr (zb xs (zb gs1 (zb gs2 (zb hlf hi4)))))))) ?_
        refine zev n64 ?_
        refine zt (zb gs1 (zb gs2 ss1)) ?_
        have hpF : zbH T i x o = ((0, x.next), A, { T with l := T.l.set i { x with recs := B } }) := by
          rw [zbH, if_neg (by simp at c1 c2; omega), hA, hB]
        rw [hpF] at hK
        have hcut : List.take (i * 4 + 2) (zT (zaE T.l)) ++ AV.own (σ.length + 3) (zK B) :: List.drop (i * 4 + 3) (zT (zaE T.l)) = (zT (zaE T.l)).set (i * 4 + 2) (.own (σ.length + 3) (zK B)) := by
          rw [List.set_eq_take_append_cons_drop, if_pos (by omega)]
        rw [hcut]
        have hset : (zT (zaE T.l)).set (i * 4 + 2) (.d (.slice (zK B))) = zT (zaE (T.l.set i { x with recs := B })) := by
          rw [zkM f4 (zbo hx) (by omega), zaE, zaE, List.map_set]; rfl
        refine ⟨_, .dataR t (i * 4 + 2) g 4 ((zT (zaE T.l)).set (i * 4 + 2) (.own (σ.length + 3) (zK B))) (.own (σ.length + 3) (zK B)) (zK B) (zf (List.getElem?_set_self ht)) (by rw [List.getElem?_set_self (by omega)]) rfl (.refl _ _), ?_⟩
        rw [List.set_append_left _ _ (by simpa using ht), List.set_set, List.set_set, hset]
        refine hK _ ⟨?_, ?_, hT.last⟩ ⟨by simp, fun j y hy hj hr => ?_⟩
        · rw [zf]
          rw [List.getElem?_set_ne (fun e => by subst e; rw [hb] at hrw; cases hrw), hb]
          simp
        · exact zf (List.getElem?_set_self ht)
        · refine zf ?_
          rw [List.getElem?_set_ne (fun e => by subst e; rw [hrw] at hy; cases hy; exact hr _ _ _ rfl)]
          exact hy
theorem c_r7commit {σ : List zc} {id t g : Nat} {T : zak} {i : Nat} {x : zu} {o : TOp} (hT : zbT σ id t g T) (hn : T.l.length ≤ 8) (hx : T.l[i]? = some x) (hX : TopI x) {K : KT}
    (hK : ∀ S, zbT S id t g (zaV T i x o).2 → ziP σ S id → K (.agg [.d (.int .i64 (zaV T i x o).1.1), .d (.int .i64 (zaV T i x o).1.2)]) S) : zn Tryz.prog zdP [.box id 0, .d (.int .i64 i), opA o] σ K := by
  refine zaj zgk.is rfl fun hl _ => zgk.goes ?_
  have hb := hT.box
  have hrw := hT.row
  have hi : i < T.l.length := (List.getElem?_eq_some_iff.1 hx).1
  have xb : ∀ τ, (σ ++ τ)[id]? = _ := fun τ => zf hb
  have xr : ∀ τ, (σ ++ τ)[t]? = _ := fun τ => zf hrw
  have f4 := zbL T.l
  have hgt : List.take 4 (List.drop (i * 4) (zT (zaE T.l))) = (topD x).map .d := zhc f4 (zbo hx)
  have hlenA : (zT (zaE T.l)).length = T.l.length * 4 := by rw [zdp f4, List.length_map]
  have hlf : (zaE T.l).flatten.length = T.l.length * 4 := by rw [← hlenA, zT, List.length_map]
  have hi4 : i * 4 + 4 ≤ T.l.length * 4 := by omega
  have h1 := hX.base; have h2 := hX.next; have h3 := hX.recs; have h4 := hX.groups
  have n64 : -9223372036854775808 ≤ x.next ∧ x.next ≤ 9223372036854775807 := by
    have : x.next = x.base + x.recs.length := rfl
    omega
  have hgl : (zW x.groups).length = x.groups.length := List.length_map ..
  have hg2 : ∀ e ∈ zW x.groups, e.length = 2 := zoX (f := zjy) (fun _ => rfl) x.groups
  have ht := zg hrw
  have xs : ∀ Y τ, (σ ++ τ).set t Y = σ.set t Y ++ τ := fun Y τ => List.set_append_left _ _ ht
  have gs0 : ∀ Y τ, (σ.set t Y ++ τ)[σ.length]? = τ[0]? := fun Y τ => by rw [List.getElem?_append_right (by simp)]; simp
  have gs1 : ∀ Y τ, (σ.set t Y ++ τ)[σ.length + 1]? = τ[1]? := fun Y τ => by rw [List.getElem?_append_right (by simp)]; simp
  have ss1 : ∀ Y τ b, (σ.set t Y ++ τ).set (σ.length + 1) b = σ.set t Y ++ τ.set 1 b := fun Y τ b => by rw [List.set_append_right _ _ (by simp)]; simp
  have hcut : ∀ X, List.take (i * 4 + 3) (zT (zaE T.l)) ++ X :: List.drop (i * 4 + 4) (zT (zaE T.l)) = (zT (zaE T.l)).set (i * 4 + 3) X := fun X => by
    rw [List.set_eq_take_append_cons_drop, if_pos (by omega)]
  have final : ∀ (G2 : List (List UInt8 × Int)) (a : Nat) (τ : List zc), zaV T i x o = ((0, o.offset), { T with l := T.l.set i { x with groups := G2 } }) → zli K (some [.agg [.d (.int .i64 0), .d (.int .i64 o.offset)]]) (σ.set t (.row g 4 ((zT (zaE T.l)).set (i * 4 + 3) (.own a (zW G2)))) ++ τ) := fun G2 a τ hF => by
    rw [hF] at hK
    have hset : (zT (zaE T.l)).set (i * 4 + 3) (.d (.slice (zW G2))) = zT (zaE (T.l.set i { x with groups := G2 })) := by
      rw [zkM f4 (zbo hx) (by omega), zaE, zaE, List.map_set]; rfl
    refine ⟨_, .dataR t (i * 4 + 3) g 4 ((zT (zaE T.l)).set (i * 4 + 3) (.own a (zW G2))) (.own a (zW G2)) (zW G2) (zf (List.getElem?_set_self ht)) (by rw [List.getElem?_set_self (by omega)]) rfl (.refl _ _), ?_⟩
    rw [List.set_append_left _ _ (by simpa using ht), List.set_set, List.set_set, hset]
    refine hK _ ⟨?_, ?_, hT.last⟩ ⟨by simp, fun j y hy hj hr => ?_⟩
    · rw [zf]
      rw [List.getElem?_set_ne (fun e => by subst e; rw [hb] at hrw; cases hrw), hb]
      simp
    · exact zf (List.getElem?_set_self ht)
    · refine zf ?_
      rw [List.getElem?_set_ne (fun e => by subst e; rw [hrw] at hy; cases hy; exact hr _ _ _ rfl)]
      exact hy
  have bad : ∀ e τ, zaV T i x o = ((e, 0), T) → zli K (some [.agg [.d (.int .i64 e), .d (.int .i64 0)]]) (σ ++ τ) := fun e τ h => by
    rw [h] at hK
    exact zaO (hK _ (hT.app _) (.app _ _ _))
  simp only [zgr, iN, bT, bF, eN, opA]
  refine zmq (zb xb (zb xr (zb hgt (zb hlf hi4)))) ?_
  refine zF x.groups.length (fun k vs s => vs = [.d (.int .i64 k)] ∧ s = σ ++ [.box [.d (.int .i64 o.kind), .d (.str o.topic), .d (.str o.group), .d (.int .i64 o.offset), .d (.slice (zK o.recs))], .box [.d (.int .i64 0), .d (.int .i64 0)], .box [.d (.str x.name), .d (.int .i64 x.base), .d (.slice (zK x.recs)), .d (.slice (zW x.groups))]] ∧ zif o.group x.groups = k + zif o.group (x.groups.drop k)) ⟨rfl, rfl, by simp⟩ ?_
  rintro k vs s hk ⟨rfl, rfl, hpf⟩
  by_cases hlt : ∃ y, x.groups[k]? = some y ∧ Op.bytesLess y.1 o.group = true
  · obtain ⟨y, hy, h5⟩ := hlt
    have hlt := zd hy
    have hd : decide ((k : Int) < (x.groups.length : Int)) = true := by simp; omega
    have hgy := zbo (f := zjy) hy
    rw [zom hy, if_pos h5] at hpf
    refine zt (zb hd (zb hgl (zb hgy (zb h5 (wkc k (by omega)))))) ?_
    exact zbC.next hlt ⟨rfl, rfl, by omega⟩
  · have hk0 : zif o.group x.groups = k := by
      rw [hpf]
      cases hy : x.groups[k]? with
      | none => rw [List.drop_eq_nil_of_le (by simpa using hy)]; rfl
      | some y => rw [zom hy, if_neg (fun h => hlt ⟨y, hy, h⟩)]; rfl
    have gw : ∀ l : List (List UInt8 × Int), ∀ e ∈ zW l, e.length = 2 := fun l => zoX (f := zjy) (fun _ => rfl) l
    have gdr : ∀ j, List.drop j (List.take x.groups.length (zW x.groups)) = zW (x.groups.drop j) := fun j => by
      rw [← hgl, List.take_length]; exact (List.map_drop ..).symm
    have gj : ∀ j, zW (List.take k x.groups) ++ [.str o.group, .int .i64 o.offset] :: zW (List.drop j x.groups) = zW (List.take k x.groups ++ (o.group, o.offset) :: List.drop j x.groups) := fun j => by simp
    cases hG : zpe o.group x.groups with
    | none =>
      have gtk : List.take k (zW x.groups) = zW (x.groups.take k) := (List.map_take ..).symm
      have hAB : x.groups.length ≤ k ∨ ∃ y, x.groups[k]? = some y ∧ Op.bytesLess y.1 o.group = false ∧ (y.1 == o.group) = false := by
        rw [zpe, hk0] at hG
        cases hy : x.groups[k]? with
        | none => exact .inl (by simpa using hy)
        | some y =>
          rw [hy] at hG
          simp only at hG
          split at hG
          · cases hG
          · rename_i h
            refine .inr ⟨y, rfl, ?_, by simpa using h⟩
            cases h5 : Op.bytesLess y.1 o.group
            · rfl
            · exact (hlt ⟨y, hy, h5⟩).elim
      cases c1 : decide (o.offset < 0)
      rotate_left
      · rcases hAB with hkl | ⟨y, hy, h5, h6⟩
        · have hd : decide ((k : Int) < (x.groups.length : Int)) = false := by simp; omega
          refine zt (zb hd (zb hgl c1)) ?_
          refine zcS ?_
          refine zby ?_
          exact bad _ _ (by rw [zaV, hG, if_pos (.inl (by simpa using c1))])
        · have hltk := zd hy
          have hd : decide ((k : Int) < (x.groups.length : Int)) = true := by simp; omega
          have hgy := zbo (f := zjy) hy
          refine zt (zb hd (zb hgl (zb hgy (zb h5 (zb h6 c1))))) ?_
          refine zcS ?_
          refine zby ?_
          exact bad _ _ (by rw [zaV, hG, if_pos (.inl (by simpa using c1))])
      · rcases hAB with hkl | ⟨y, hy, h5, h6⟩
        case' inl =>
          have hd : decide ((k : Int) < (x.groups.length : Int)) = false := by simp; omega
          refine zt (zb hd (zb hgl c1)) ?_
        case' inr =>
          have hltk := zd hy
          have hd : decide ((k : Int) < (x.groups.length : Int)) = true := by simp; omega
          have hgy := zbo (f := zjy) hy
          refine zt (zb hd (zb hgl (zb hgy (zb h5 (zb h6 c1))))) ?_
        all_goals
          refine zev n64 ?_
          cases c2 : decide (o.offset > x.next)
        all_goals
          first
          | (have c2' := of_decide_eq_true c2
             refine zt c2 ?_
             refine zcS ?_
             refine zby ?_
             exact bad _ _ (by rw [zaV, if_pos (.inr (by simpa using c2))]))
          | (cases c3 : decide ((x.groups.length : Int) ≥ 8)
             · refine zt (zb c2 (zb c3 (zb xb (zb xr (zb hgl (zb gtk (zb (gdr k) (zb (gj k) (zb hlf (zb xs (zb gs0 (zb gs1 (zb ss1 hcut))))))))))))) ?_
               have hl1 : (List.take k x.groups).length ≤ 8 := by rw [List.length_take]; omega
               have hl2 : (List.drop k x.groups).length ≤ 8 := by rw [List.length_drop]; omega
               refine ⟨gw _, by simp, by omega, by simp, by omega, by omega, by omega, by omega, gw _, gw _, by first | omega | (simp only [List.length_map]; omega), by omega, by omega, by omega, ?_⟩
               refine final _ _ _ ?_
               rw [zaV, hG, if_neg (by simp at c1 c2; simp; omega), if_neg (by simp at c3; simp; omega), hk0]
               rfl
             · refine zt (zb c2 (zb c3 hgl)) ?_
               refine zcS ?_
               refine zby ?_
               exact bad _ _ (by rw [zaV, hG, if_neg (by simp at c1 c2; simp; omega), if_pos (by simp at c3; simp; omega)]))
    | some v =>
      obtain ⟨y, hy, hyn, hyv⟩ : ∃ y, x.groups[k]? = some y ∧ (y.1 == o.group) = true ∧ y.2 = v := by
        rw [zpe, hk0] at hG
        cases hy : x.groups[k]? with
        | none => rw [hy] at hG; cases hG
        | some y =>
          rw [hy] at hG
          simp only at hG
          split at hG
          · rename_i h; cases hG; exact ⟨y, rfl, h, rfl⟩
          · cases hG
      have hltk := zd hy
      have hd : decide ((k : Int) < (x.groups.length : Int)) = true := by simp; omega
      have hgy := zbo (f := zjy) hy
      have h5 : Op.bytesLess y.1 o.group = false := by
        cases h5 : Op.bytesLess y.1 o.group
        · rfl
        · exact (hlt ⟨y, hy, h5⟩).elim
      subst hyv
      have gtk : List.take k (zW x.groups) = zW (x.groups.take k) := (List.map_take ..).symm
      cases c1 : decide (o.offset < y.2)
      rotate_left
      · refine zt (zb hd (zb hgl (zb hgy (zb h5 (zb hyn c1))))) ?_
        refine zcS ?_
        refine zby ?_
        exact bad _ _ (by rw [zaV, hG, if_pos (.inl (by simpa using c1))])
      refine zt (zb hd (zb hgl (zb hgy (zb h5 (zb hyn c1))))) ?_
      refine zev n64 ?_
      cases c2 : decide (o.offset > x.next)
      rotate_left
      · refine zt c2 ?_
        refine zcS ?_
        refine zby ?_
        exact bad _ _ (by rw [zaV, if_pos (.inr (by simpa using c2))])
      refine zt (zb c2 (zb xb (zb xr (zb hgl (zb gtk (zb (gdr (k + 1)) (zb (gj (k + 1)) (zb hlf (zb (wkc k (by omega)) (zb xs (zb gs0 (zb gs1 (zb ss1 hcut))))))))))))) ?_
      have hl1 : (List.take k x.groups).length ≤ 8 := by rw [List.length_take]; omega
      have hl2 : (List.drop (k + 1) x.groups).length ≤ 8 := by rw [List.length_drop]; omega
      refine ⟨gw _, by simp, by omega, by simp, by omega, by omega, by omega, by omega, gw _, gw _, by first | omega | (simp only [List.length_map]; omega), by omega, by omega, by omega, ?_⟩
      refine final _ _ _ ?_
      rw [zaV, hG, if_neg (by simp at c1 c2; simp; omega), if_neg (by simp), hk0]
      rfl
end Go.Proofs.YtaocmalhjfakdaaGreat
