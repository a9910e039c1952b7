/- Contract: a record is published, and what is told of it lies in rows. -/
import Derived.Test.YtaocmalhjfakdaaKn2
import Derived.Test.YtaocmalhjfakdaaTq8
set_option linter.all false
set_option maxRecDepth 100000
set_option linter.unusedSimpArgs false
set_option linter.unusedVariables false
namespace Go.Proofs.Ytaocmalhjfakdaa
open Go.AW

abbrev byN (r : List UInt8) : List AV := r.map fun b => AV.d (.int .u8 b.toNat)
section

variable {σ : List zb} {id : Nat} {T : zav} {O : Nat → Prop} {K : AV → List zb → Prop}

theorem c_clRowN {t g : Nat} {l : List UInt8} (h0 : 0 < l.length) (hr : l.length ≤ 1073741824) (ht : σ[t]? = some (.row g 1 (byN l))) (hK : ∀ g', K (.rsl σ.length g' 1 0 l.length) (σ ++ [.row g' 1 (byN l)])) :
    zi Try.prog ze [.rsl t g 1 0 l.length] σ K := by
  have e : (byN l).length = l.length := List.length_map _
  have := c_clRowR (σ := σ) (t := t) (g := g) (r := byN l) (K := K) (by omega) (by omega) ht (by rw [e]; exact hK)
  rwa [e] at this
theorem gq23 {A P Q : Prop} (a : A) (h : Q) (e : A → Hd Q → P := by intro a h; (repeat' first | simp -dsimp only [↓zhp, ↓zbg, ↓zcG, ↓zht, ↓zhb, ↓zgZ, ↓zhc, ↓zha, ↓zcM, ↓zcI, ↓zcN, ↓zcJ, ↓zhe, ↓zcD, ↓zcO, ↓zcK, ↓zcP, ↓zcL, ↓zgX, ↓zhn, ↓zcC, ↓zcQ, ↓zgJ, ↓zgI, ↓zgT, iN, bT, bF, eN, ↓zeg, ↓unC, ↓zaj, ↓zQ, ↓zR, ↓zad, ↓zaw, ↓zbd, ↓zdI, ↓zam, ↓zcm, ↓zal, ↓zo, ↓zl, ↓zbR, ↓zh, ↓zag, ↓zL, ↓zaX, ↓zaV, ↓zd, ↓zr, ↓zn, ↓zC, ↓zan, ↓zeb, ↓zej, ↓zaF, ↓zaN, ↓zaK, ↓zby, ↓zbS, ↓zA, ↓zak, ↓zS, ↓zE, ↓zat, zeh, zcf, zcd, unA, zek, bnd, zeV, zab, zT, zeU, dm, dm1, zt, zaL, zfO, zfN, zW, Q0, Q1, Q2, Q3, Q4, Q5, zax, zB, zu, zas, zX, Q6, Q7, Q8, Q9, Q10, Q11, Q12, Q13, Q14, Nat.reduceAdd, Q15, Int.reduceToNat, Q16, Q17, Q18, Q19, Q20, reduceIte, Q21, Q22, zI, rep, zP, zgG, toD, zah, Q23, Q24, Q25, Q26, Q27, Q28, Nat.reduceLeDiff, Q29, Nat.reduceSub, Q30, Q31, Q32, sc, Q33, Q34, Q35, Q36, Q37, Q26, Q38, Q39, n0gt, n1gt, n2gt, n0eq, ziz, n1eq, n2eq, n0ne, n1ne, ziy, ziA, i0ne, i0eq, Bool.not_true, Bool.not_false, List.length_map, Bool.and_false, Bool.and_self, Bool.false_and, Bool.not_false, Bool.not_true, Bool.true_and, Int.toNat_natCast, Int.toNat_zero, List.drop_zero, List.length_map, List.length_nil, List.nil_append, List.take_length, Nat.sub_zero, Nat.zero_add, Option.isSome_none, Option.isSome_some, Option.map_none, Option.map_some, zcb, beq_self_eq_true, bne_self_eq_false, a] | with_reducible refine andA ?_ | fail); exact h.go) : P := e a ⟨h⟩
theorem c_pubR {n g : List UInt8} {off : Int} {tr gr tm gm k : Nat} {y : zV} {r : List UInt8} (hT : zey σ id T O) (hI : zeH T) (hk : atF n T.l 0 = some k) (hy : T.l[k]? = some y) (hrl : y.recs.length + 1 ≤ 64) (hnx : y.next + 1 ≤ 9007199254740992)
    (h0 : 0 < r.length) (hr : r.length ≤ 64) (hrow : σ[tr]? = some (.row gr 1 [.rsl tm gm 1 0 r.length])) (hrec : σ[tm]? = some (.row gm 1 (byN r)))
    (hK : ∀ S pr gp cr gc, After σ id { T with l := T.l.set k { y with recs := y.recs ++ [r] } } O S → σ.length ≤ pr → σ.length ≤ cr → pr ≠ cr → S[pr]? = some (.row gp 3 [.d (.str n), .d (.int .i64 y.next), .rsl cr gc 1 0 r.length]) → S[cr]? = some (.row gc 1 (byN r)) → K (.tup [.d (.int .i64 y.next), .rsl pr gp 3 0 1, .d (.int .i64 0)]) S) :
    zi Try.prog zac [.box id 0, .agg [.d (.int .i64 2), .d (.str n), .d (.str g), .d (.int .i64 off), .rsl tr gr 1 0 1]] σ K := by
  obtain ⟨m, X, hP, hR, hO⟩ := hT
  refine zaC zca.is rfl fun hl _ => zca.goes ?_
  have hb := hP.box; have hm := hP.map
  cases hx : zeo n X 0 with
  | none => exact absurd (hR.no hx) (by rw [hk]; simp)
  | some q =>
  obtain ⟨i, p⟩ := q
  obtain ⟨h1, h2, k', y', h3, h4, h5⟩ := hR.yes hx
  rw [hk] at h3; cases h3
  rw [hy] at h4; cases h4
  have hpm := List.mem_of_getElem? h1
  have hp := hP.tops p hpm
  have hf := zcF n X 0
  rw [hx] at hf
  have hyI := hI.tops y (List.mem_of_getElem? hy)
  have b0 := hyI.base
  have hyn : p.x.next = y.next := h5.next
  have hpr : p.x.recs = y.recs := h5.recs
  have e1 : y.next = y.base + y.recs.length := rfl
  have hlen := zI y.recs
  have hpb : ∀ τ, (σ ++ τ)[p.id]? = some (.box [.d (.int .i64 y.base), .own p.t (zbx y.recs), .map p.g]) := fun τ => by rw [← h5.base, ← h5.recs]; exact zf hp.b
  have hb' : ∀ τ, (σ ++ τ)[id]? = _ := fun τ => zf hb
  have hm' : ∀ τ, (σ ++ τ)[m]? = _ := fun τ => zf hm
  have hrow' : ∀ τ, (σ ++ τ)[tr]? = _ := fun τ => zf hrow
  have hrec' : ∀ τ, (σ ++ τ)[tm]? = _ := fun τ => zf hrec
  have hox : ∀ a τ, (σ ++ a :: τ)[σ.length]? = some a := fun a τ => zu ..
  simp only [zcc, iN, bT, bF, eN]
  refine zkt (zk hb' (zk hm' hf)) ?_
  have hwl : IntKind.i64.wrap ((y.recs.length : Int) + ((1 : Nat) : Int)) = (y.recs.length : Int) + 1 := zcA (by omega) (by omega)
  have hd1 : decide ((y.recs.length : Int) + 1 > 64) = false := by simp; omega
  have hwn : IntKind.i64.wrap (y.next + ((1 : Nat) : Int)) = y.next + 1 := zcA (by omega) (by omega)
  have hd2 : decide (y.next + 1 > 9007199254740992) = false := by simp; omega
  have hnp : (zV.mk y.name y.base y.recs []).next = y.next := rfl
  have hn64 : -9223372036854775808 ≤ y.next ∧ y.next ≤ 9223372036854775807 := by omega
  simp only [zhR]
  refine gq23 (zk hpb (zk hlen (zk hwl (zk hd1 hox)))) ?_
  refine zbU (x := ⟨y.name, y.base, y.recs, []⟩) (hpb _) hn64 ?_
  rw [hnp]
  refine zaZ (zk hpb (zk hwn (zk hd2 (zk hox (zk hlen (zk hwl hd1)))))) ?_
  refine zbU (x := ⟨y.name, y.base, y.recs, []⟩) (hpb _) hn64 ?_
  rw [hnp]
  refine gq23 (zk hox (zk hlen (zk hwl hd1))) ?_
  have l1 := zF hp.b; have l2 := zF hp.g; have l3 := zF hp.t
  obtain ⟨A, hA⟩ : ∃ A, zb.box [.d (.int .i64 2), .d (.str n), .d (.str g), .d (.int .i64 off), .rsl tr gr 1 0 1] = A := ⟨_, rfl⟩
  have hA0 : ∀ τ, (σ ++ A :: τ)[σ.length]? = some (.box [.d (.int .i64 2), .d (.str n), .d (.str g), .d (.int .i64 off), .rsl tr gr 1 0 1]) := fun τ => by rw [← hA]; exact hox _ _
  rw [hA]
  refine zbW 1 (fun k vs s => if k = 0 then vs = [.exact [], .d (.int .i64 0)] ∧ s = σ ++ [A] else ∃ pr gp : Nat, vs = [.rsl pr gp 3 0 1, .d (.int .i64 1)] ∧ K (.tup [.d (.int .i64 y.next), .rsl pr gp 3 0 1, .d (.int .i64 0)]) s) ⟨rfl, rfl⟩ ?_
  rintro k vs s hk hI
  by_cases h0k : k = 0
  rotate_left
  · rw [if_neg h0k] at hI
    obtain ⟨pr, gp, rfl, hI⟩ := hI
    have : k = 1 := by omega
    have hd : decide ((1 : Int) < (((1 - 0 : Nat)) : Int)) = false := rfl
    refine zaZ hd ?_
    exact zaR hI
  rw [if_pos h0k] at hI
  obtain ⟨rfl, rfl⟩ := hI
  have hd : decide ((0 : Int) < (((1 - 0 : Nat)) : Int)) = true := rfl
  refine zaZ (zk hd (zk hrow' hA0)) ?_
  refine zbU (x := ⟨y.name, y.base, y.recs, []⟩) (hpb _) hn64 ?_
  rw [hnp]
  refine gq1 ?_
  refine c_clRowN h0 (by omega) (hrec' _) fun g1 => ?_
  have hr2 : ∀ a τ, (σ ++ A :: .row g1 1 (byN r) :: a :: τ)[σ.length + 1]? = some (.row g1 1 (byN r)) := fun a τ => by rw [zB]; rfl
  refine gq22 (zk hrec' (zk hpb hr2)) ?_
  refine c_clRowD h0 (by omega) (hrec' _) ?_
  refine zaZ (zk hrec' (zk hpb hlen)) ?_
  obtain ⟨τ, hτ⟩ : ∃ τ, [A, .row g1 1 (byN r), .row 0 3 [.d (.str n), .d (.int .i64 y.next), .rsl (σ.length + 1) g1 1 0 r.length], .row 0 3 [.d (.str n), .d (.int .i64 y.next), .rsl (σ.length + 1) g1 1 0 r.length]] = τ := ⟨_, rfl⟩
  have hne := hP.ne hpm hpm
  have ng : p.g ≠ p.id := Ne.symm hne.2.1
  have nt : p.id ≠ p.t := hne.2.2.1
  have ngt : p.g ≠ p.t := hne.2.2.2.1
  have hpt : (σ ++ τ)[p.t]? = some (.tok 1 y.recs.length) := by rw [← h5.recs]; exact zf hp.t
  have hst : ∀ Y, ((σ ++ τ).set p.t Y)[p.id]? = _ := fun Y => (List.getElem?_set_ne (Ne.symm nt)).trans (hpb τ)
  have t1 : τ[1]? = some (.row g1 1 (byN r)) := by rw [← hτ]; rfl
  have t3 : τ[3]? = some (.row 0 3 [.d (.str n), .d (.int .i64 y.next), .rsl (σ.length + 1) g1 1 0 r.length]) := by rw [← hτ]; rfl
  rw [hτ]
  refine ⟨hpt, ?_⟩
  simp only [hst]
  refine ⟨by simp, zgd.next (by omega) ?_⟩
  rw [if_neg (by omega)]
  refine ⟨_, _, rfl, ?_⟩
  have g0 : ∀ j Y Z, j < σ.length → j ≠ p.id → j ≠ p.t → (((σ ++ τ).set p.t Y).set p.id Z)[j]? = σ[j]? := fun j Y Z hj e1 e2 => by
    rw [List.getElem?_set_ne (Ne.symm e1), List.getElem?_set_ne (Ne.symm e2), List.getElem?_append_left hj]
  have g2 : ∀ j Y Z, (((σ ++ τ).set p.t Y).set p.id Z)[σ.length + j]? = τ[j]? := fun j Y Z => by
    rw [List.getElem?_set_ne (by omega), List.getElem?_set_ne (by omega), zB]
  have lτ : 0 < τ.length := by rw [← hτ]; simp
  refine hK _ (σ.length + 3) 0 (σ.length + 1) g1 ⟨OwnP id m (X.set i ⟨⟨p.x.name, y.base, y.recs ++ [r], p.x.groups⟩, p.id, p.g, p.t⟩), ⟨m, _, hP.upd (p' := ⟨⟨p.x.name, y.base, y.recs ++ [r], p.x.groups⟩, p.id, p.g, p.t⟩) h1 rfl rfl rfl (.inl rfl) (fun j hj e1 e2 e3 => g0 j _ _ (hP.own_lt hj) e1 e3) ⟨?_, ?_, ?_⟩, hR.set h1 hy h5 ⟨h5.name, rfl, rfl, h5.gr⟩ rfl, fun j => Iff.rfl⟩, ⟨by simp, fun j hj hlt => g0 j _ _ hlt (fun e => hj ((hO j).2 (.inr (.inr ⟨p, hpm, .inl e⟩)))) (fun e => hj ((hO j).2 (.inr (.inr ⟨p, hpm, .inr (.inr e)⟩))))⟩, fun j hj => ?_⟩ (by omega) (by omega) (by omega) ((g2 _ _ _).trans t3) ((g2 _ _ _).trans t1)
  · rw [List.getElem?_set_self (by simp; omega)]
    simp [topB', zbx]
  · rw [g0 _ _ _ l2 ng ngt]; exact hp.g
  · rw [List.getElem?_set_ne nt, List.getElem?_set_self (by simp; omega)]; simp
  · rcases zia (p' := ⟨⟨p.x.name, y.base, y.recs ++ [r], p.x.groups⟩, p.id, p.g, p.t⟩) h1 rfl rfl hj with hj | hj
    · exact .inl ((hO j).2 hj)
    · exact .inl ((hO j).2 (.inr (.inr ⟨p, hpm, .inr (.inr hj)⟩)))
end

end Go.Proofs.Ytaocmalhjfakdaa
