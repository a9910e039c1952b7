/- What is put, and let go, on both sides. No program in sight. -/
import Derived.Test.YtjjchfbckfopkaaGreatHe1
import Derived.Test.YtjjchfbckfopkaaGreatHe3
set_option linter.all false
set_option maxRecDepth 100000
set_option linter.unusedSimpArgs false
set_option linter.unusedVariables false
namespace Go.Proofs.YtjjchfbckfopkaaGreat
open Go.AW


def zfc (last : Int) : List zar → Bool
  | [] => true
  | p :: r => (decide (last < p.seq) && decide (p.seq ≤ 9007199254740992)) && zfc p.seq r
theorem zob {l : List zar} {k : Nat} {p : zar} {last : Int} (h : l[k]? = some p) : zfc last (l.drop k) = ((decide (last < p.seq) && decide (p.seq ≤ 9007199254740992)) && zfc p.seq (l.drop (k + 1))) := by
  obtain ⟨h1, h2⟩ := List.getElem?_eq_some_iff.1 h
  rw [List.drop_eq_getElem_cons h1, h2, zfc]
abbrev zkD (l : List zar) : List (Int × zar) := l.map fun p => (p.seq, p)
theorem findP_no {s : Int} : ∀ {l : List zar} {i : Nat}, (∀ p ∈ l, p.seq < s) → zkG s (zkD l) i = none
  | [], _, _ => rfl
  | p :: r, i, h => by
    have := h p (by simp)
    simp only [zkD, List.map_cons, zkG]
    rw [if_neg (by omega)]
    exact findP_no fun q hq => h q (by simp [hq])
theorem rises_rel : ∀ {l : List zar} {last : Int}, zfc last l = true → (∀ p ∈ l, last < p.seq ∧ p.seq ≤ 9007199254740992) ∧ l.Pairwise fun p q => p.seq < q.seq
  | [], _, _ => by simp
  | p :: r, last, h => by
    simp only [zfc, Bool.and_eq_true, decide_eq_true_eq] at h
    obtain ⟨⟨h1, h2⟩, h3⟩ := h
    obtain ⟨i1, i2⟩ := rises_rel h3
    refine ⟨fun q hq => ?_, List.pairwise_cons.2 ⟨fun q hq => (i1 q hq).1, i2⟩⟩
    rcases List.mem_cons.1 hq with rfl | hq
    · exact ⟨h1, h2⟩
    · have := i1 q hq; omega
theorem keyed_rel {l : List zar} (hs : l.Pairwise fun p q => p.seq < q.seq) (hp : ∀ p ∈ l, zeL p) : RelP (zkD l) l := by
  refine ⟨?_, fun e he => ?_, fun p => ?_, hs, hp⟩
  · rw [zkD, List.map_map]
    exact (List.pairwise_map.2 hs : (l.map zar.seq).Pairwise (· < ·)).imp fun h => by omega
  · obtain ⟨p, _, rfl⟩ := List.mem_map.1 he; rfl
  · rw [List.mem_map]
    constructor
    · rintro ⟨q, hq, he⟩
      have : q = p := congrArg Prod.snd he
      exact this ▸ hq
    · intro h; exact ⟨p, h, rfl⟩
section

variable {σ : List zb} {K : AV → List zb → Prop}

theorem c_heFrom {l : List zar} (hn : l.length ≤ 1000000) (hs : ∀ p ∈ l, zeL p)
    (hK0 : zfc 0 l = false → ∀ S, (∀ (j : Nat) (x : zb), σ[j]? = some x → S[j]? = some x) → K (.tup [.d .nilp, .d (.int .i64 1)]) S)
    (hK1 : zfc 0 l = true → ∀ S, zhe S (σ.length + 1) σ.length (zkD l) → (∀ (j : Nat) (x : zb), σ[j]? = some x → S[j]? = some x) → K (.tup [.box (σ.length + 1) 0, .d (.int .i64 0)]) S) :
    zp Tryz.prog zfi [.d (.slice (zcL l))] σ K := by
  refine zez zhB.is rfl fun hl _ => zhB.goes ?_
  have hll : (zcL l).length = l.length := List.length_map ..
  simp only [zhS, iN, bT, bF, eN, zl0]
  refine gq1 ?_
  refine c_heNew ?_
  refine gq2 hll ?_
  refine zB l.length (fun k vs s => ∃ last, vs = [.d (.int .i64 last), .d (.int .i64 k)] ∧ zhe s (σ.length + 1) σ.length (zkD (l.take k)) ∧ zfc 0 l = zfc last (l.drop k) ∧ 0 ≤ last ∧ (∀ p ∈ l.take k, p.seq ≤ last) ∧ (∀ (j : Nat) (x : zb), σ[j]? = some x → s[j]? = some x))
    ⟨0, rfl, ⟨by rw [zh]; rfl, by rw [zm]; rfl⟩, rfl, Int.le_refl _, by simp, fun j x h => zk h⟩ ?_
  rintro k vs s hk ⟨last, rfl, hH, hr, h0, hlo, hpre⟩
  by_cases hlt : k < l.length
  · have hd : decide ((k : Int) < (l.length : Int)) = true := by simp; omega
    have hx : l[k]? = some l[k] := by simp [hlt]
    have hsx := hs _ (List.getElem_mem hlt)
    have hgx := zau (f := zeU) hx
    have htk : l.take (k + 1) = l.take k ++ [l[k]] := by rw [List.take_add_one, hx]; rfl
    have hrd := zob (last := last) hx
    obtain ⟨p, hp⟩ : ∃ p, l[k] = p := ⟨_, rfl⟩
    rw [hp] at hgx hsx hrd htk
    have xs : ∀ a τ, (s ++ a :: τ)[s.length]? = some a := fun a τ => zm ..
    cases c1 : decide (p.seq ≤ last)
    rotate_left
    · have d1 : ¬ last < p.seq := by simp at c1; omega
      rw [decide_eq_false d1, Bool.false_and, Bool.false_and] at hrd
      refine gq8 (zi hd (zi hgx (zi xs c1))) ?_
      exact zmW (hK0 (hr.trans hrd) _ fun j x h => zk (hpre j x h))
    have d1 : last < p.seq := by simp at c1; omega
    rw [decide_eq_true d1, Bool.true_and] at hrd
    refine gq8 (zi hd (zi hgx (zi xs c1))) ?_
    have hfp := findP_no (s := p.seq) (l := l.take k) (i := 0) fun q hq => by have := hlo q hq; omega
    have hok : hOk (zkD (l.take k)) p = true := by rw [hOk, hfp]
    have hput : hPut (zkD (l.take k)) p = zkD (l.take (k + 1)) := by rw [hPut, hfp, htk, zkD, zkD, List.map_append]; rfl
    refine c_hePut (p := p) (hH.app _) hsx ?_
    rw [hok, Bool.and_true, hput]
    by_cases d2 : p.seq ≤ 9007199254740992
    · have hin : inR p = true := by
        have e1 : decide (p.seq < 1) = false := by simp; omega
        have e2 : decide (p.seq > 9007199254740992) = false := by simp; omega
        rw [inR, e1, e2]; rfl
      rw [hin, if_pos rfl]
      rw [decide_eq_true d2, Bool.true_and] at hrd
      have lm := zco hH.map
      have xs2 : ∀ Y a τ, ((s ++ a :: τ).set σ.length Y)[s.length]? = some a := fun Y a τ => by rw [List.getElem?_set_ne (by omega), zm]; rfl
      refine gq2 (zi xs2 (wk1 k (by omega))) ?_
      refine zaP.next hlt ⟨p.seq, rfl, ⟨?_, List.getElem?_set_self (by simp; omega)⟩, hr.trans hrd, by omega, fun q hq => ?_, fun j x h => ?_⟩
      · rw [List.getElem?_set_ne (by omega)]; exact zk hH.box
      · rw [htk] at hq
        rcases List.mem_append.1 hq with hq | hq
        · have := hlo q hq; omega
        · simp at hq; subst hq; exact Int.le_refl _
      · have := zco h
        rw [List.getElem?_set_ne (by omega)]; exact zk (hpre j x h)
    · have hin : inR p = false := by
        have e1 : decide (p.seq < 1) = false := by simp; omega
        have e2 : decide (p.seq > 9007199254740992) = true := by simp; omega
        rw [inR, e1, e2]; rfl
      rw [hin, if_neg (by simp)]
      rw [decide_eq_false d2, Bool.false_and] at hrd
      refine gq1 ?_
      refine zmW (hK0 (hr.trans hrd) _ fun j x h => ?_)
      have := zco h
      rw [List.getElem?_set_ne (by omega)]; exact zk (hpre j x h)
  · have hd : decide ((k : Int) < (l.length : Int)) = false := by simp; omega
    rw [List.drop_eq_nil_of_le (by omega)] at hr
    rw [List.take_of_length_le (by omega)] at hH
    refine gq2 hd ?_
    exact zmW (hK1 hr _ hH hpre)
end


abbrev docO (R : List zar) : zb := .box [.d (.slice (zcL R))]
section

variable {σ : List zb} {K : AV → List zb → Prop}

theorem c_frFrom {l : List zar} (hn : l.length ≤ 1000000) (hK0 : zfc 0 l = false → K (.tup [.d .nilp, .d (.int .i64 1)]) σ) (hK1 : zfc 0 l = true → ∀ τ, K (.tup [.box (σ.length + 1) 0, .d (.int .i64 0)]) (σ ++ τ :: [docO l])) :
    zp Tryz.prog zkm [.d (.slice (zcL l))] σ K := by
  refine zp.weaken ?_
  refine zez zoA.is rfl fun hl _ => zoA.goes ?_
  have hll : (zcL l).length = l.length := List.length_map ..
  simp only [zoI, iN, bT, bF, eN]
  refine zB l.length (fun k vs s => vs = [.d (.int .i64 k)] ∧ s = σ ∧ ∃ last, zfc 0 l = zfc last (l.drop k) ∧ 0 ≤ last ∧ (k = 0 → last = 0) ∧ (∀ j, k = j + 1 → ∃ q, l[j]? = some q ∧ q.seq = last)) ⟨rfl, rfl, 0, rfl, Int.le_refl _, fun _ => rfl, fun j h => by cases h⟩ ?_
  rintro k vs s hk ⟨rfl, rfl, last, hr, h0, hz, hp⟩
  by_cases hlt : k < l.length
  · have hd : decide ((k : Int) < (l.length : Int)) = true := by simp; omega
    have hx : l[k]? = some l[k] := by simp [hlt]
    have hgx := zau (f := zeU) hx
    have hrd := zob (last := last) hx
    obtain ⟨p, hpe⟩ : ∃ p, l[k] = p := ⟨_, rfl⟩
    rw [hpe] at hgx hrd
    have bad : zfc 0 l = false → EndsA (fun r s' => ∃ r' s'', zjj [r] s' [r'] s'' ∧ K r' s'') (some [.d .nilp, .d (.int .i64 1)]) s := fun h => zmW ⟨_, _, .refl _ _, hK0 h⟩
    cases c1 : decide (p.seq < 1)
    rotate_left
    · have d1 : ¬ last < p.seq := by simp at c1; omega
      rw [decide_eq_false d1, Bool.false_and, Bool.false_and] at hrd
      refine gq8 (zi hd (zi hll (zi hgx c1))) ?_
      exact bad (hr.trans hrd)
    cases c2 : decide (p.seq > 9007199254740992)
    rotate_left
    · have d2 : ¬ p.seq ≤ 9007199254740992 := by simp at c2; omega
      rw [decide_eq_false d2, Bool.and_false, Bool.false_and] at hrd
      refine gq8 (zi hd (zi hll (zi hgx (zi c1 c2)))) ?_
      exact bad (hr.trans hrd)
    have d2 : p.seq ≤ 9007199254740992 := by simp at c2; omega
    rw [decide_eq_true d2, Bool.and_true] at hrd
    cases k with
    | zero =>
      have d1 : last < p.seq := by have := hz rfl; simp at c1; omega
      rw [decide_eq_true d1, Bool.true_and] at hrd
      have w0 := wk1 0 (by omega)
      refine gq8 (zi hd (zi hll (zi hgx (zi c1 (zi c2 (zi w0 (show decide (((0 : Nat) : Int) > 0) = false from rfl))))))) ?_
      refine zaP.next hlt ⟨rfl, rfl, p.seq, hr.trans hrd, by omega, fun h => by omega, fun j h => ⟨p, ?_, rfl⟩⟩
      obtain rfl : j = 0 := by omega
      rw [hx, hpe]
    | succ j =>
      obtain ⟨q, hq, hqs⟩ := hp j rfl
      have hgq := zau (f := zeU) hq
      have c3 : decide (((j + 1 : Nat) : Int) > 0) = true := decide_eq_true (by omega)
      have w3 : IntKind.i64.wrap (((j + 1 : Nat) : Int) - 1) = (j : Int) := by rw [zan (by omega) (by omega)]; omega
      cases c4 : decide (p.seq ≤ q.seq)
      · have d1 : last < p.seq := by simp at c4; omega
        rw [decide_eq_true d1, Bool.true_and] at hrd
        have w0 := wk1 (j + 1) (by omega)
        refine gq8 (zi hd (zi hll (zi hgx (zi hgq (zi c1 (zi c2 (zi c3 (zi c4 (zi w0 w3))))))))) ?_
        refine zaP.next hlt ⟨rfl, rfl, p.seq, hr.trans hrd, by omega, fun h => by omega, fun i h => ⟨p, ?_, rfl⟩⟩
        obtain rfl : i = j + 1 := by omega
        rw [hx, hpe]
      · have d1 : ¬ last < p.seq := by simp at c4; omega
        rw [decide_eq_false d1, Bool.false_and] at hrd
        refine gq8 (zi hd (zi hll (zi hgx (zi hgq (zi c1 (zi c2 (zi c3 (zi c4 w3)))))))) ?_
        exact bad (hr.trans hrd)
  · have hd : decide ((k : Int) < (l.length : Int)) = false := by simp; omega
    rw [List.drop_eq_nil_of_le (by omega)] at hr
    refine gq2 (zi hd hll) ?_
    have h7 : ∀ e ∈ zcL l, e.length = 7 := zmB (f := zeU) (fun _ => rfl) _
    refine ⟨h7, by simp, by omega, zmW ⟨.tup [.box (s.length + 1) 0, .d (.int .i64 0)], s ++ .tok 7 l.length :: [docO l], ?_, hK1 hr (.tok 7 l.length)⟩⟩
    refine .dataB (s.length + 1) 0 [.own s.length (zcL l)] (.own s.length (zcL l)) (zcL l) (by rw [zh]; rfl) rfl rfl ?_
    rw [zw]
    exact .refl _ _
end

end Go.Proofs.YtjjchfbckfopkaaGreat
