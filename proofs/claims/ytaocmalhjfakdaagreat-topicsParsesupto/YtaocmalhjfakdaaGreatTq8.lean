/- Contracts: a request comes to the program's topics. -/
import Derived.Test.YtaocmalhjfakdaaGreatTq7
import Derived.Test.YtaocmalhjfakdaaGreatKs1
set_option linter.all false
set_option maxRecDepth 100000
set_option linter.unusedSimpArgs false
set_option linter.unusedVariables false
namespace Go.Proofs.YtaocmalhjfakdaaGreat
open Go.AW

section
variable {σ τ S : List zc} {id m : Nat} {X : List zeA} {T T' : zak} {O : Nat → Prop} {K : KT}
theorem zfj.box (h : zfj σ id T O) : ∃ m, σ[id]? = some (.box (.map m :: zbB T.last)) ∧ T.last.length = 8 := by
  obtain ⟨m, X, h1, h2, h3⟩ := h
  exact ⟨m, h1.box, h1.last⟩
theorem zfj.told (h : zfj σ id T O) {m : Nat} {c : List AV} (hm : σ[id]? = some (.box (.map m :: c))) (l : List (Int × Int × Int)) (hl : l.length = 8) : zfj (σ.set id (.box (.map m :: zbB l))) id { T with last := l } O := by
  obtain ⟨m', X, h1, h2, h3⟩ := h
  have e := h1.box
  rw [hm] at e
  cases e
  exact ⟨m, X, h1.told (List.getElem?_set_self (zg hm)) hl (fun j _ hne => List.getElem?_set_ne (Ne.symm hne)), h2, h3⟩
theorem zkU {c tm : Int} {o : TOp} (hO : zfj σ id T O) (hI : zed T) (h1 : o.topic.length ≤ 1073741824) (h2 : o.group.length ≤ 1073741824) (ho : o.recs.length ≤ 20971520) (hr : ∀ r ∈ o.recs, r.length ≤ 1073741824)
    (hK : ∀ S, After σ id (zaL T c tm o).2.2.2 O S → K (.tup [.agg [.d (.int .i64 (zaL T c tm o).1.1), .d (.int .i64 (zaL T c tm o).1.2)], .d (.slice (zch (zaL T c tm o).2.1)), .d (.bool (zaL T c tm o).2.2.1)]) S) : zn Tryz.prog zba [.box id 0, reqAg c tm o] σ K := by
  refine zaj zfg.is rfl fun hl _ => zfg.goes ?_
  obtain ⟨m, hb, hlast⟩ := hO.box
  have hid := zg hb
  have done : ∀ z, zaL T c tm o = z → ∀ S, After σ id z.2.2.2 O S → K (.tup [.agg [.d (.int .i64 z.1.1), .d (.int .i64 z.1.2)], .d (.slice (zch z.2.1)), .d (.bool z.2.2.1)]) S := fun z h => h ▸ hK
  clear hK
  have xb : ∀ τ, (σ ++ τ)[id]? = _ := fun τ => zf hb
  have same : ∀ r τ, zaL T c tm o = (r, [], false, T) → zli K (some [.agg [.d (.int .i64 r.1), .d (.int .i64 r.2)], .exact [], .d (.bool false)]) (σ ++ τ) := fun r τ h => zaO (done _ h _ (.same hO _))
  simp only [zfn, iN, bT, bF, eN, reqAg]
  refine zby ?_
  refine zmF (xb _) ?_
  cases c0 : decide (c < 0)
  rotate_left
  · refine zt c0 ?_
    exact same (1, 0) _ (by rw [zaL, if_pos (by simp at c0; omega)])
  cases c1 : decide (c ≥ 8)
  rotate_left
  · refine zt (zb c0 c1) ?_
    exact same (1, 0) _ (by rw [zaL, if_pos (by simp at c1; omega)])
  cases c2 : decide (tm < 1)
  rotate_left
  · refine zt (zb c0 (zb c1 c2)) ?_
    exact same (1, 0) _ (by rw [zaL, if_pos (by simp at c2; omega)])
  cases c3 : decide (tm > 9007199254740992)
  rotate_left
  · refine zt (zb c0 (zb c1 (zb c2 c3))) ?_
    exact same (1, 0) _ (by rw [zaL, if_pos (by simp at c3; omega)])
  have e0 := c0; have e1 := c1; have e2 := c2; have e3 := c3
  simp only [decide_eq_false_iff_not, Int.not_lt, ge_iff_le, gt_iff_lt, Int.not_le] at e0 e1 e2 e3
  obtain ⟨a, ha⟩ : ∃ a, T.last[c.toNat]? = some a := ⟨_, List.getElem?_eq_getElem (by omega)⟩
  have hga : T.last.getD c.toNat (0, 0, 0) = a := by rw [List.getD_eq_getElem?_getD, ha]; rfl
  have hA : zaL T c tm o = if tm = a.1 then (a.2, [], false, T) else if tm < a.1 then ((7, 0), [], false, T) else ((zaU T o).1, (zaU T o).2.1, true, { (zaU T o).2.2 with last := (zaU T o).2.2.last.set c.toNat (tm, (zaU T o).1.1, (zaU T o).1.2) }) := by
    rw [zaL, if_neg (by omega), hga]
  have hl3 := ziz ha
  have hlc := zeo T.last
  have hl4 : ∀ X : AV, List.take 3 (List.drop (1 + c.toNat * 3) (X :: zbB T.last)) = [.d (.int .i64 a.1), .d (.int .i64 a.2.1), .d (.int .i64 a.2.2)] := fun X => by
    rw [Nat.add_comm, List.drop_succ_cons]; exact hl3
  have hl1 : ∀ X : AV, (X :: zbB T.last)[1 + c.toNat * 3]? = some (.d (.int .i64 a.1)) := fun X => by
    have := congrArg (·[0]?) (hl4 X)
    simpa [List.getElem?_take, List.getElem?_drop] using this
  have hl2 : ∀ X : AV, List.take 2 (List.drop (1 + (c.toNat * 3 + 1)) (X :: zbB T.last)) = [.d (.int .i64 a.2.1), .d (.int .i64 a.2.2)] := fun X => by
    rw [← Nat.add_assoc]
    have := congrArg (List.drop 1) (hl4 X)
    rw [List.drop_take, List.drop_drop] at this
    simpa using this
  cases c4 : (tm == a.1)
  rotate_left
  · refine zt (zb c0 (zb c1 (zb c2 (zb c3 (zb xb (zb hl1 (zb hl2 c4))))))) ?_
    exact same a.2 _ (by rw [hA, if_pos (by simpa using c4)])
  cases c5 : decide (tm < a.1)
  rotate_left
  · refine zt (zb c0 (zb c1 (zb c2 (zb c3 (zb xb (zb hl1 (zb hl2 (zb c4 c5)))))))) ?_
    exact same (7, 0) _ (by rw [hA, if_neg (by simpa using c4), if_pos (by simpa using c5)])
  have hz : zaL T c tm o = ((zaU T o).1, (zaU T o).2.1, true, { (zaU T o).2.2 with last := (zaU T o).2.2.last.set c.toNat (tm, (zaU T o).1.1, (zaU T o).1.2) }) := by
    rw [hA, if_neg (by simpa using c4), if_neg (by simpa using c5)]
  refine zt (zb c0 (zb c1 (zb c2 (zb c3 (zb xb (zb hl1 (zb c4 c5))))))) ?_
  refine c_tpDoes (o := o) (hO.app _) hI h1 h2 ho hr fun S hS => ?_
  obtain ⟨D, hD⟩ : ∃ D, zaU T o = D := ⟨_, rfl⟩
  have hDl : D.2.2.last.length = 8 := by rw [← hD, zlG]; exact hlast
  rw [hD] at hS hz ⊢
  have g0 := hS.at_ hO (j := σ.length) (by omega) (by simp)
  have g1 := hS.at_ hO (j := σ.length + 1) (by omega) (by simp)
  rw [zj] at g0
  rw [zE] at g1
  obtain ⟨O', hT', hSt, hO'⟩ := hS
  obtain ⟨m', hb', hl8⟩ := hT'.box
  have hid' := zg hb'
  have hsl := zg g1
  have q0 : ∀ τ, (S ++ τ)[σ.length]? = _ := fun τ => zf g0
  have q1 : ∀ τ, (S ++ τ)[σ.length + 1]? = _ := fun τ => zf g1
  have qb : ∀ τ, (S ++ τ)[id]? = _ := fun τ => zf hb'
  have qs : ∀ Y τ, (S ++ τ).set id Y = S.set id Y ++ τ := fun Y τ => List.set_append_left _ _ hid'
  have qs1 : ∀ Y τ Z, (S.set id Y ++ τ).set (σ.length + 1) Z = (S.set id Y).set (σ.length + 1) Z ++ τ := fun Y τ Z => List.set_append_left _ _ (by simpa using hsl)
  have r1 : ∀ Y τ, (S.set id Y ++ τ)[σ.length + 1]? = _ := fun Y τ => zf ((List.getElem?_set_ne (by omega)).trans g1)
  have rS : ∀ Y a τ, (S.set id Y ++ a :: τ)[S.length]? = some a := fun Y a τ => by rw [List.getElem?_append_right (by simp)]; simp
  have r1' : ∀ Y τ Z, ((S.set id Y).set (σ.length + 1) Z ++ τ)[σ.length + 1]? = some Z := fun Y τ Z => zf (List.getElem?_set_self (by simpa using hsl))
  have hl5 := zeo D.2.2.last
  have hcs : ∀ X : AV, List.take (1 + c.toNat * 3) (X :: zbB D.2.2.last) ++ .d (.int .i64 tm) :: .d (.int .i64 D.1.1) :: .d (.int .i64 D.1.2) :: List.drop (1 + (c.toNat * 3 + 3)) (X :: zbB D.2.2.last) = X :: zbB (D.2.2.last.set c.toNat (tm, D.1.1, D.1.2)) := fun X => by
    have := ziy (l := D.2.2.last) (k := c.toNat) (tm, D.1.1, D.1.2) (by omega)
    rw [Nat.add_comm 1 (c.toNat * 3 + 3), Nat.add_comm 1 (c.toNat * 3), List.take_succ_cons, List.drop_succ_cons, List.cons_append, this]
  refine zt (zb q0 (zb q1 (zb qb (zb qs (zb qs1 (zb r1 (zb rS (zb r1' hcs)))))))) ?_
  have nO : ¬ O' (σ.length + 1) := fun h => (hO' _ h).elim (fun h => by have := hO.own_lt h; omega) (fun h => by simp at h)
  refine zaO (done _ hz _ ⟨O', ((hT'.told hb' (D.2.2.last.set c.toNat (tm, D.1.1, D.1.2)) (by simpa using hl8)).set nO _).app _, ⟨?_, fun j hj hlt => ?_⟩, fun j hj => (hO' j hj).imp_right fun h => by simp at h; omega⟩)
  · have := hSt.len
    simp at this ⊢; omega
  · rw [List.getElem?_append_left (by have := hSt.len; simp at this ⊢; omega), List.getElem?_set_ne (by omega), List.getElem?_set_ne (fun e => by subst e; exact hj hO.self)]
    exact (hSt.get j hj (by simp; omega)).trans (List.getElem?_append_left hlt)
end


theorem zkx {α : Type} {l m : List α} (h1 : l.Nodup) (h2 : m.Nodup) (h : ∀ a, a ∈ l ↔ a ∈ m) : l.Perm m := (List.perm_ext_iff_of_nodup h1 h2).2 h
theorem rel_names {X : List zeA} {T : List zu} (h : Rel X T) : (X.map zeA.name).Perm (T.map zu.name) := by
  refine zkx h.nod h.sort.nodup fun a => ?_
  constructor
  · intro ha
    obtain ⟨p, hp, rfl⟩ := List.mem_map.1 ha
    obtain ⟨y, hy, hr⟩ := h.fw p hp
    exact List.mem_map.2 ⟨y, hy, hr.name.symm⟩
  · intro ha
    obtain ⟨y, hy, rfl⟩ := List.mem_map.1 ha
    obtain ⟨p, hp, hr⟩ := h.bw y hy
    exact List.mem_map.2 ⟨p, hp, hr.name⟩
theorem gr_names {G L : List (List UInt8 × Int)} (h : GR G L) : (G.map Prod.fst).Perm (L.map Prod.fst) := by
  refine zkx h.nod h.sort.nodup fun a => ?_
  simp only [List.mem_map, h.mem]
def zef (T : zak) (n : List UInt8) : Option zu := match atF n T.l 0 with
  | none => none
  | some k => T.l[k]?
def zjV (T : zak) (n : List UInt8) : List (List UInt8 × Int) := match zef T n with
  | none => []
  | some x => x.groups
def zdZ (T : zak) (n g : List UInt8) : Int × Int := match zef T n with
  | none => (0, 4)
  | some x => match zpe g x.groups with
    | none => (0, 4)
    | some v => (v, 0)
theorem zil {X : List zeA} {T : zak} (h : Rel X T.l) (n : List UInt8) : (zfQ n X 0 = none ∧ zef T n = none) ∨ ∃ i p y, zfQ n X 0 = some (i, p) ∧ X[i]? = some p ∧ p.x.name = n ∧ zef T n = some y ∧ y ∈ T.l ∧ TR p.x y := by
  cases hx : zfQ n X 0 with
  | none => exact .inl ⟨rfl, by rw [zef, h.no hx]⟩
  | some q =>
    obtain ⟨i, p⟩ := q
    obtain ⟨h1, h2, k, y, h3, h4, h5⟩ := h.yes hx
    refine .inr ⟨i, p, y, rfl, h1, h2, ?_, List.mem_of_getElem? h4, h5⟩
    rw [zef, h3]; exact h4
abbrev zkq (l : List (List UInt8)) : List (List D) := l.map fun x => [.str x]
section

variable {σ : List zc} {id m : Nat} {X : List zeA} {T : zak} {O : Nat → Prop} {K : KT}

theorem c_KeysTop {m : Nat} (hK : K (.fn (.func zD) [] [.box σ.length 0]) (σ ++ [.box [.map m]])) : zn Tryz.prog zQ [.map m] σ K := by
  refine zaj zaB.is rfl fun hl _ => zaB.goes ?_
  simp only [zaC, iN, bT, bF, eN]
  refine zby ?_
  exact zaO hK
theorem c_KeysGrp {m : Nat} (hK : K (.fn (.func zV) [] [.box σ.length 0]) (σ ++ [.box [.map m]])) : zn Tryz.prog zaH [.map m] σ K := by
  refine zaj zbs.is rfl fun hl _ => zbs.goes ?_
  simp only [zbt, iN, bT, bF, eN]
  refine zby ?_
  exact zaO hK
theorem hf_top : F2 Tryz.prog zD zhR := zbz
theorem hf_grp : F2 Tryz.prog zV zhR := zcR
theorem c_tpNames (h : zfj σ id T O) (hI : zed T) (hK : K (.d (.slice (zkq (T.l.map zu.name)))) σ) : zn Tryz.prog zbY [.box id 0] σ K := by
  obtain ⟨m, X, hP, hR, hO⟩ := h
  refine zmx ziD fun hl => ?_
  have hb := hP.box
  have hlen : X.length ≤ 8 := by rw [hR.len]; exact hI.len
  simp only [zfl, iN, bT, bF, eN]
  refine zby ?_
  refine zmF hb ?_
  refine zt hb ?_
  refine c_KeysTop ?_
  refine zby ?_
  refine zmh (names := X.map zeA.name) (L := T.l.map zu.name) hf_top (by simp [topM, zjo]) (by simp; omega) (by rw [zj]; rfl) (zf hP.map) (rel_names hR) hR.sort ?_
  refine zby ?_
  refine zdv hl ?_
  exact hK
theorem zox {n : List UInt8} (h : zfj σ id T O) (hI : zed T) (hK : K (.d (.slice (zkq ((zjV T n).map Prod.fst)))) σ) : zn Tryz.prog zbR [.box id 0, .d (.str n)] σ K := by
  obtain ⟨m, X, hP, hR, hO⟩ := h
  refine znT zig fun hl => ?_
  simp only [zeK, iN, bT, bF, eN]
  refine zby ?_
  refine zkT hP ?_
  rcases zil hR n with ⟨h1, h2⟩ | ⟨i, p, y, h1, h2, h3, h4, h5, h6⟩
  · rw [h1]
    rw [zjV, h2] at hK
    refine zt (show ((4 : Int) != 0) = true from rfl) ?_
    refine zdv hl ?_
    exact hK
  · rw [h1]
    rw [zjV, h4] at hK
    have hp := hP.tops p (List.mem_of_getElem? h2)
    have hb := hp.b
    have hlen : p.x.groups.length ≤ 8 := by rw [h6.gr.len]; exact (hI.tops y h5).groups
    refine zt hb ?_
    refine c_KeysGrp ?_
    refine zby ?_
    refine zmh (names := p.x.groups.map Prod.fst) (L := y.groups.map Prod.fst) hf_grp (by simp [grpM, zjo]) (by simp; omega) (by rw [zj]; rfl) (zf hp.g) (gr_names h6.gr) h6.gr.sort ?_
    refine zby ?_
    refine zdv hl ?_
    exact hK
theorem zpr {n g : List UInt8} (h : zfj σ id T O) (hK : K (.tup [.d (.int .i64 (zdZ T n g).1), .d (.int .i64 (zdZ T n g).2)]) σ) : zn Tryz.prog zcj [.box id 0, .d (.str n), .d (.str g)] σ K := by
  obtain ⟨m, X, hP, hR, hO⟩ := h
  refine acE3 zgP fun hl => ?_
  simp only [zdJ, iN, bT, bF, eN]
  refine zby ?_
  refine zkT hP ?_
  rcases zil hR n with ⟨h1, h2⟩ | ⟨i, p, y, h1, h2, h3, h4, h5, h6⟩
  · rw [h1]
    rw [zdZ, h2] at hK
    refine zt (show ((4 : Int) != 0) = true from rfl) ?_
    refine zdv hl ?_
    exact hK
  · rw [h1]
    rw [zdZ, h4] at hK
    simp only [h6.gr.had g] at hK
    have hp := hP.tops p (List.mem_of_getElem? h2)
    have hb := hp.b
    have hg := hp.g
    have hf := zfY g p.x.groups 0
    cases hx : zgy g p.x.groups 0 with
    | none =>
      rw [hx] at hf hK
      refine zlY (zb hb (zb hg hf)) ?_
      refine zdv hl ?_
      exact hK
    | some q =>
      rw [hx] at hf hK
      refine zlY (zb hb (zb hg hf)) ?_
      refine zdv hl ?_
      exact hK
end

end Go.Proofs.YtaocmalhjfakdaaGreat
