/- Contract: the program's topics are cloned. -/
import Derived.Test.YthpnelbciibjeaaSpRqP
import Derived.Test.YthpnelbciibjeaaLaw07a
set_option linter.all false
set_option maxRecDepth 100000
set_option linter.unusedSimpArgs false
set_option linter.unusedVariables false
namespace Go.Proofs.Ythpnelbciibjeaa
open Go.AW

theorem cloneC : CloneC Try.prog zak := fun b es clock w h => AnyW.maps_Clone cloneM b es clock w h
theorem c_mapClone {σ : List zc} {id : Nat} {es : List (AV × AV)} (hσ : σ[id]? = some (.map es)) {K : AV → List zc → Prop} (hK : K (.map σ.length) (σ ++ [.map es])) : zj Try.prog zak [.map id] σ K :=
  zmD (by decide +kernel) cloneC hσ hK
theorem rel_perm {X Y : List zcH} {T : List zX} (h : Rel X T) (hp : Y.Perm X) : Rel Y T :=
  ⟨hp.length_eq.trans h.len, h.sort, (hp.map zcH.name).nodup_iff.2 h.nod, fun p hm => h.fw p (hp.mem_iff.1 hm), fun y hy => by
    obtain ⟨p, h1, h2⟩ := h.bw y hy
    exact ⟨p, hp.mem_iff.2 h1, h2⟩⟩
theorem rel_alike {X Y : List zcH} {T : List zX} (h : Rel X T) (he : Y.map zcH.x = X.map zcH.x) : Rel Y T := by
  have hn : Y.map zcH.name = X.map zcH.name := by
    have := congrArg (List.map zX.name) he
    rw [List.map_map, List.map_map] at this
    exact this
  refine ⟨?_, h.sort, by rw [hn]; exact h.nod, fun p hm => ?_, fun y hy => ?_⟩
  · have := congrArg List.length he
    simp only [List.length_map] at this
    rw [this, h.len]
  · have : p.x ∈ X.map zcH.x := by rw [← he]; exact List.mem_map_of_mem hm
    obtain ⟨q, hq, e⟩ := List.mem_map.1 this
    obtain ⟨y, h1, h2⟩ := h.fw q hq
    exact ⟨y, h1, by rw [← e]; exact h2⟩
  · obtain ⟨q, hq, h2⟩ := h.bw y hy
    have : q.x ∈ Y.map zcH.x := by rw [he]; exact List.mem_map_of_mem hq
    obtain ⟨p, hm, e⟩ := List.mem_map.1 this
    exact ⟨p, hm, by rw [e]; exact h2⟩
theorem findX_not {n : List UInt8} : ∀ {l : List zcH} {i : Nat}, (∀ p ∈ l, p.x.name ≠ n) → zfl n l i = none
  | [], _, _ => rfl
  | a :: r, i, h => by
    rw [zfl, if_neg (fun e => h a List.mem_cons_self e.symm)]
    exact findX_not fun p hp => h p (List.mem_cons_of_mem _ hp)
structure ClJ (σ : List zc) (m c : Nat) (bs : List Nat) (X : List zcH) (L : List (Int × Int × Int)) (seen : List Nat) (Y Z : List zcH) (S : List zc) : Prop where
  out : ∀ j, j < σ.length → j ≠ m → S[j]? = σ[j]?
  map : S[m]? = some (.mapr c bs (znq X))
  it : S[σ.length + 2]? = some (.mit (some m) c seen)
  box : S[σ.length + 1]? = some (.box (.map σ.length :: zcE L))
  new : S[σ.length]? = some (.map (znq Z))
  sn : zgi bs X seen Y
  nod : seen.Nodup
  alike : Z.map zcH.x = Y.map zcH.x
  tops : ∀ z ∈ Z, TopAt S z ∧ σ.length + 2 < z.id ∧ σ.length + 2 < z.g ∧ σ.length + 2 < z.t
  sep : ∀ (i j : Nat) (p q : zcH), Z[i]? = some p → Z[j]? = some q → i ≠ j → p.id ≠ q.id ∧ p.g ≠ q.g ∧ p.t ≠ q.t
section

variable {σ : List zc} {id : Nat} {T : zaq} {O : Nat → Prop} {K : AV → List zc → Prop}

theorem c_tpClone (h : zeB σ id T O) (hI : zdQ T) (hK : ∀ S id' O', zeB S id' T O' → (∀ j, O' j → σ.length ≤ j) → σ.length ≤ S.length → (∀ j, j < σ.length → S[j]? = σ[j]?) → K (.box id' 0) S) : zj Try.prog zbw [.box id 0] σ K := by
  obtain ⟨m, X, hP, hR⟩ := h.prg
  refine zba zcx.is rfl fun hl _ => zcx.goes ?_
  have hb := hP.box; have hm := hP.map; have h8 := hP.last
  have hlc := zhg T.last
  rw [h8] at hlc
  have hla : List.take 24 (List.drop (0 + 1) (AV.map m :: zcE T.last)) = zcE T.last := by
    rw [Nat.zero_add, List.drop_succ_cons, List.drop_zero, List.take_of_length_le (by omega)]
  have hXl : X.length ≤ 8 := by rw [hR.len]; exact hI.len
  have hml := zl hm; have hbl := zl hb
  have hmi : id ≠ m := fun e => by rw [e, hm] at hb; cases hb
  simp only [zcz, iN, bT, bF, eN]
  have xb : ∀ τ, (σ ++ τ)[id]? = _ := fun τ => zf hb
  have xm : ∀ τ, (σ ++ τ)[m]? = _ := fun τ => zf hm
  refine gq1 ?_
  refine zhO hb ?_
  refine gq2 (zg xb (zg hla hlc)) ?_
  have htk : List.take 24 (zcE T.last) = zcE T.last := List.take_of_length_le (by omega)
  rw [htk, if_pos hlc, hlc]
  simp only [Nat.reduceAdd, Nat.reduceMul, List.drop_succ_cons, List.drop_zero, List.append_nil]
  have e1 : (σ ++ [zc.map []]).length = σ.length + 1 := by simp
  have e2 : (σ ++ [zc.map [], zc.box (AV.map σ.length :: zcE T.last)])[m]? = some (.map (znq X)) := zf hm
  rw [e1]
  simp only [zfe, e2]
  intro c bs hbs hbn
  have hbX : bs.length = X.length := by rw [hbs]; simp
  have e3 : (σ ++ [zc.map [], zc.box (AV.map σ.length :: zcE T.last)]).length = σ.length + 2 := by simp
  rw [e3]
  have hJ0 : ClJ σ m c bs X T.last [] [] [] ((σ ++ [zc.map [], zc.box (AV.map σ.length :: zcE T.last)]).set m (.mapr c bs (znq X)) ++ [.mit (some m) c []]) :=
    ⟨fun j hj hne => by rw [List.getElem?_append_left (by simp; omega), List.getElem?_set_ne (Ne.symm hne)]; exact List.getElem?_append_left hj,
      zf (List.getElem?_set_self (by simp; omega)), by rw [List.getElem?_append_right (by simp)]; simp, zf (by rw [List.getElem?_set_ne (by omega), zI]; rfl), zf (by rw [List.getElem?_set_ne (by omega), zr]; rfl), .nil, .nil, rfl, by simp, by simp⟩
  refine zV X.length (fun k vs S => vs = [] ∧ ∃ seen Y Z, seen.length = k ∧ ClJ σ m c bs X T.last seen Y Z S) ⟨rfl, [], [], [], rfl, hJ0⟩ ?_
  rintro k vs S hk ⟨rfl, seen, Y, Z, rfl, hJ⟩
  have g1 := hJ.map; have g2 := hJ.it
  have l1 := zl g1; have l2 := zl g2
  have hmn : m ≠ σ.length + 2 := by omega
  simp only [zgZ, g1, g2]
  refine ⟨trivial, fun hall => ?_, fun i b e hbi he hnb => ?_⟩
  · refine gq1 ?_
    have hY : Y.Perm X := hJ.sn.perm hJ.nod hbn hbX hall
    have hZ : Rel Z T.l := rel_alike (rel_perm hR hY) hJ.alike
    have keep : ∀ j, j ≠ m → (S.set m (.map (znq X)))[j]? = S[j]? := fun j hj => List.getElem?_set_ne (Ne.symm hj)
    have hPZ : zez (S.set m (.map (znq X))) (σ.length + 1) σ.length Z T.last := ⟨(keep _ (by omega)).trans hJ.box, (keep _ (by omega)).trans hJ.new, fun z hz => by
      obtain ⟨h1, h2, h3, h4⟩ := hJ.tops z hz
      exact ⟨(keep _ (by omega)).trans h1.b, (keep _ (by omega)).trans h1.g, (keep _ (by omega)).trans h1.t⟩, hJ.sep, fun z hz => by
      obtain ⟨h1, h2, h3, h4⟩ := hJ.tops z hz
      omega, h8⟩
    refine zbE (hK _ _ (OwnP (σ.length + 1) σ.length Z) ⟨σ.length, Z, hPZ, hZ, fun j => Iff.rfl⟩ (fun j hj => ?_) (by simp; omega) fun j hj => ?_)
    · rcases hj with rfl | rfl | ⟨z, hz, hj⟩
      · omega
      · omega
      · obtain ⟨h1, h2, h3, h4⟩ := hJ.tops z hz
        rcases hj with rfl | rfl | rfl <;> omega
    · by_cases e : j = m
      · subst e
        rw [List.getElem?_set_self l1, hm]
      · rw [keep j e]; exact hJ.out j hj e
  · have he' : ∃ p, X[i]? = some p ∧ e = (.d (.str p.x.name), .box p.id 0) := by
      rw [znq, List.getElem?_map] at he
      obtain ⟨p, h1, h2⟩ := Option.map_eq_some_iff.1 he
      exact ⟨p, h1, h2.symm⟩
    obtain ⟨p, hXi, rfl⟩ := he'
    have hpm := List.mem_of_getElem? hXi
    have hpt := hP.tops p hpm
    have hbm := List.mem_of_getElem? hbi
    have hlt := hJ.sn.lt hJ.nod hbX hbm hnb
    have hsn := hJ.sn.snoc hbi hXi
    have hne := hP.ne hpm hpm
    have hpl1 := zl hpt.b; have hpl2 := zl hpt.g
    refine gq1 ?_
    have q1 : (S.set (σ.length + 2) (.mit (some m) c (seen ++ [b])))[m]? = some (.mapr c bs (znq X)) := (List.getElem?_set_ne (by omega)).trans g1
    have q2 : (S.set (σ.length + 2) (.mit (some m) c (seen ++ [b])))[σ.length + 2]? = some (.mit (some m) c (seen ++ [b])) := List.getElem?_set_self l2
    have q3 : (S.set (σ.length + 2) (.mit (some m) c (seen ++ [b])))[p.id]? = some (topB' p.x p.t p.g) := (List.getElem?_set_ne (by omega)).trans ((hJ.out _ hpl1 (by omega)).trans hpt.b)
    have q4 : (S.set (σ.length + 2) (.mit (some m) c (seen ++ [b])))[p.g]? = some (.map (grpM p.x.groups)) := (List.getElem?_set_ne (by omega)).trans ((hJ.out _ hpl2 (by omega)).trans hpt.g)
    simp only [zfn, q1, q2]
    refine ⟨trivial, i, b, _, by simp, hbi, he, ?_⟩
    obtain ⟨S1, hS1⟩ : ∃ S1, S.set (σ.length + 2) (.mit (some m) c (seen ++ [b])) = S1 := ⟨_, rfl⟩
    have hS1l : S1.length = S.length := by rw [← hS1]; simp
    have hS1o : ∀ j, j ≠ σ.length + 2 → S1[j]? = S[j]? := fun j hj => by rw [← hS1]; exact List.getElem?_set_ne (Ne.symm hj)
    rw [hS1] at q1 q2 q3 q4 ⊢
    have hrl := zD p.x.recs
    refine gq2 (zg q3 q4) ?_
    refine c_mapClone q4 ?_
    have q5 : ∀ τ, (S1 ++ τ)[p.id]? = _ := fun τ => zf q3
    refine gq2 q5 ?_
    refine ⟨q3.symm, ?_⟩
    have e4 : (S1 ++ [zc.map (grpM p.x.groups)]).length = S1.length + 1 := by simp
    rw [e4]
    have hy := hR.fw p hpm
    obtain ⟨y, hyT, hpy⟩ := hy
    have hyI := hI.tops y hyT
    have r1 : p.x.recs.length ≤ 64 := by rw [hpy.recs]; exact hyI.recs
    have r2 : ∀ r ∈ p.x.recs, r.length ≤ 64 := by rw [hpy.recs]; exact hyI.each
    have hw : zkH [.d (.int .i64 0)] (S1 ++ [zc.map (grpM p.x.groups), zc.box [.d (.int .i64 p.x.base), .exact [], .map S1.length]]) [.d (.int .i64 0)] (S1 ++ [zc.map (grpM p.x.groups), zc.box [.d (.int .i64 p.x.base), .own (S1.length + 2) [], .map S1.length], .tok 1 0]) := by
      refine .tokB (S1.length + 1) 1 _ [] 1 (by rw [zI]; rfl) rfl (by simp) ?_
      rw [zav, zaD]
      simp only [List.set_cons_succ, List.set_cons_zero, List.length_cons, List.length_nil, List.append_assoc, List.cons_append, List.nil_append]
      exact .refl _ _
    refine zds p.x.recs.length (fun j vs S' => vs = [.d (.int .i64 j)] ∧ S1.length + 2 < S'.length ∧ (∀ i, i < S1.length → S'[i]? = S1[i]?) ∧ S'[S1.length]? = some (.map (grpM p.x.groups)) ∧ S'[S1.length + 1]? = some (.box [.d (.int .i64 p.x.base), .own (S1.length + 2) (zbK (p.x.recs.take j)), .map S1.length]) ∧ S'[S1.length + 2]? = some (.tok 1 j)) hw
      ⟨rfl, by simp, fun i hi => List.getElem?_append_left hi, by rw [zr]; rfl, by rw [zI]; rfl, by rw [zI]; rfl⟩ ?_
    rintro j vs S' hj ⟨rfl, z0, z1, z2, z3, z4⟩
    by_cases hlj : j < p.x.recs.length
    · have hdj : decide ((j : Int) < (p.x.recs.length : Int)) = true := by simp; omega
      obtain ⟨r, hr⟩ : ∃ r, p.x.recs[j]? = some r := ⟨_, List.getElem?_eq_getElem hlj⟩
      have hgr : (zbK p.x.recs)[j]? = some [.slice (bcs r)] := zef (f := fun r => [D.slice (bcs r)]) hr
      have hr64 := r2 r (List.mem_of_getElem? hr)
      have k2 : (zbK (p.x.recs.take j)).length = j := by rw [zD, List.length_take]; omega
      have z5 : ∀ Y, (S'.set (S1.length + 2) Y)[S1.length + 1]? = _ := fun Y => (List.getElem?_set_ne (by omega)).trans z3
      refine gq2 (zg hdj (zg hrl (zg hgr (zg z3 z4)))) ?_
      refine zoj (by omega) ?_
      refine gq2 (zg z3 (zg z4 (zg z5 (zg k2 (wkc j (by omega)))))) ?_
      refine zcd.next hlj ⟨rfl, by simpa using z0, fun i hi => ?_, ?_, ?_, ?_⟩
      · rw [List.getElem?_set_ne (by omega), List.getElem?_set_ne (by omega)]; exact z1 i hi
      · rw [List.getElem?_set_ne (by omega), List.getElem?_set_ne (by omega)]; exact z2
      · rw [List.getElem?_set_self (by simp; omega), List.take_add_one, hr]; simp [zbK]
      · rw [List.getElem?_set_ne (by omega), List.getElem?_set_self (by omega)]
    · have hdj : decide ((j : Int) < (p.x.recs.length : Int)) = false := by simp; omega
      have hjo : p.x.recs.take j = p.x.recs := List.take_of_length_le (by omega)
      have hjl : j = p.x.recs.length := by omega
      rw [hjo] at z3
      rw [hjl] at z4
      have v0 : ∀ i, i < S.length → i ≠ σ.length + 2 → S'[i]? = S[i]? := fun i hi hne => (z1 i (by omega)).trans (hS1o i hne)
      have v1 : S'[σ.length + 1]? = _ := (v0 _ (by omega) (by omega)).trans hJ.box
      have v2 : S'[σ.length]? = _ := (v0 _ (by omega) (by omega)).trans hJ.new
      have hfn : zfl p.x.name Z 0 = none := findX_not fun z hz e => by
        have h1 : z.x ∈ Y.map zcH.x := by rw [← hJ.alike]; exact List.mem_map_of_mem hz
        obtain ⟨q, hq, e2⟩ := List.mem_map.1 h1
        obtain ⟨i1, hi1⟩ := List.mem_iff_getElem?.1 hq
        have hi2 := ze hi1
        rw [← hJ.sn.1] at hi2
        obtain ⟨i3, h3, h4⟩ := hJ.sn.2 i1 _ q (List.getElem?_eq_getElem hi2) hi1
        have : i = i3 := zgY (f := zcH.name) hR.nod hXi h4 (by show p.x.name = q.x.name; rw [e2, e])
        subst this
        rw [hbi] at h3
        exact hnb (by rw [Option.some.inj h3]; exact List.getElem_mem hi2)
      have hmf := zdr p.x.name Z 0
      rw [hfn] at hmf
      refine gq3 (zg hdj (zg hrl (zg v1 (zg v2 hmf)))) ?_
      have hkl : seen.length < X.length := by rw [hJ.sn.1]; exact hlt
      have hl2 := zl v2
      have hpn : ∀ i, i ≠ σ.length → ∀ V, (S'.set σ.length V)[i]? = S'[i]? := fun i hi V => List.getElem?_set_ne (Ne.symm hi)
      refine zcd.next hkl ⟨rfl, seen ++ [b], Y ++ [p], Z ++ [⟨p.x, S1.length + 1, S1.length, S1.length + 2⟩], by simp, fun i hi hne => ?_, ?_, ?_, ?_, ?_, hsn, ?_, ?_, fun z hz => ?_, fun a d u w hu hw hne => ?_⟩
      · rw [hpn i (by omega), v0 i (by omega) (by omega)]; exact hJ.out i hi hne
      · rw [hpn _ (by omega), z1 _ (by omega)]; exact q1
      · rw [hpn _ (by omega), z1 _ (by omega)]; exact q2
      · rw [hpn _ (by omega)]; exact v1
      · rw [List.getElem?_set_self hl2]; simp [znq]
      · rw [List.nodup_append]
        exact ⟨hJ.nod, by simp, fun x hx y hy => by simp at hy; subst hy; exact fun e => hnb (e ▸ hx)⟩
      · simp [hJ.alike]
      · rcases List.mem_append.1 hz with hz | hz
        · obtain ⟨h1, h2, h3, h4⟩ := hJ.tops z hz
          have i1 := zl h1.b; have i2 := zl h1.g; have i3 := zl h1.t
          exact ⟨⟨by rw [hpn _ (by omega), v0 _ i1 (by omega)]; exact h1.b, by rw [hpn _ (by omega), v0 _ i2 (by omega)]; exact h1.g, by rw [hpn _ (by omega), v0 _ i3 (by omega)]; exact h1.t⟩, h2, h3, h4⟩
        · simp at hz; subst hz
          exact ⟨⟨by rw [hpn _ (by simp only; omega)]; exact z3, by rw [hpn _ (by simp only; omega)]; exact z2, by rw [hpn _ (by simp only; omega)]; exact z4⟩, by simp only; omega, by simp only; omega, by simp only; omega⟩
      · have old : ∀ q ∈ Z, q.id < S1.length ∧ q.g < S1.length ∧ q.t < S1.length := fun q hq => by
          obtain ⟨h1, _⟩ := hJ.tops q hq
          have i1 := zl h1.b; have i2 := zl h1.g; have i3 := zl h1.t
          omega
        rw [List.getElem?_append] at hu hw
        split at hu
        · split at hw
          · exact hJ.sep a d u w hu hw hne
          · have h4 := List.mem_of_getElem? hw
            simp at h4; subst h4
            have := old u (List.mem_of_getElem? hu)
            simp only; omega
        · have h4 := List.mem_of_getElem? hu
          have h6 := (List.getElem?_eq_some_iff.1 hu).1
          simp at h4 h6; subst h4
          split at hw
          · have := old w (List.mem_of_getElem? hw)
            simp only; omega
          · have h7 := (List.getElem?_eq_some_iff.1 hw).1
            simp at h7; omega
end

end Go.Proofs.Ythpnelbciibjeaa
