/- The law PreparedHolds, from the contracts. -/
import Derived.Test.YtjjchfbckfopkaaGreatHe8
import Derived.Test.YtjjchfbckfopkaaGreatBg3
set_option linter.all false
set_option maxRecDepth 100000
set_option linter.unusedSimpArgs false
set_option linter.unusedVariables false
namespace Go.Proofs.YtjjchfbckfopkaaGreat
open Go.AW

theorem dec_bool {d : D} (h : zha .bool d) : ∃ b, d = .bool b := by cases h with | bool b => exact ⟨b, rfl⟩
structure TPut where
  p : zw
  slide : Bool
  low : Int
  clone : Bool
def tyPut : List Ty := tyPrep ++ [.bool, .int .i64, .bool]
abbrev putD (x : TPut) : List D := zdY x.p ++ [.bool x.slide, .int .i64 x.low, .bool x.clone]
abbrev putsE (l : List TPut) : List (List D) := l.map putD
theorem dec_put {ds : List D} (h : zdf tyPut ds) : ∃ x : TPut, ds = putD x ∧ True := by
  obtain ⟨d1, ds, rfl, h1, h⟩ := zaE h
  obtain ⟨d2, ds, rfl, h2, h⟩ := zaE h
  obtain ⟨d3, ds, rfl, h3, h⟩ := zaE h
  obtain ⟨d4, ds, rfl, h4, h⟩ := zaE h
  obtain ⟨d5, ds, rfl, h5, h⟩ := zaE h
  obtain ⟨d6, ds, rfl, h6, h⟩ := zaE h
  obtain ⟨d7, ds, rfl, h7, h⟩ := zaE h
  obtain ⟨d8, ds, rfl, h8, h⟩ := zaE h
  obtain ⟨d9, ds, rfl, h9, h⟩ := zaE h
  obtain ⟨d10, ds, rfl, h10, h⟩ := zaE h
  obtain rfl := zmH h
  obtain ⟨a1, rfl, k1⟩ := zdu h1
  obtain ⟨a2, rfl, k2⟩ := zdu h2
  obtain ⟨a3, rfl, k3⟩ := zdu h3
  obtain ⟨a4, rfl, k4⟩ := zdu h4
  obtain ⟨a5, rfl, k5⟩ := zdu h5
  obtain ⟨a6, rfl, k6⟩ := zln h6 (fun e he => by obtain ⟨s, h1, h2⟩ := dec_sign he; exact ⟨s, h1, h2⟩)
  obtain ⟨a7, rfl, k7⟩ := zln h7 (fun e he => dec_signed he)
  obtain ⟨b, rfl⟩ := dec_bool h8
  obtain ⟨lw, rfl, _⟩ := zdu h9
  obtain ⟨c, rfl⟩ := dec_bool h10
  exact ⟨⟨⟨a1, a2, a3, a4, a5, a6, a7⟩, b, lw, c⟩, rfl, trivial⟩
theorem zou : ∀ l : List TPut, l.length * 10 ≤ zcN (l.map putD)
  | [] => Nat.zero_le _
  | a :: l => by
    have := zou l
    simp only [List.map_cons, List.length_cons, zcN, putD, zdY, List.cons_append, List.nil_append, zcA, zfA]; omega
theorem arg_puts {n : Nat} (hn : n ≤ 1048576) {ds : List D} {m : Nat} (hf : zdf [.slice tyPut] ds) (hb : zcA ds + m ≤ n) : ∃ l, ds = [.slice (putsE l)] ∧ l.length ≤ 1000000 ∧ ∀ x ∈ l, zdb x.p := by
  obtain ⟨d, rfl, h1⟩ := one_of hf
  obtain ⟨l, rfl, hR⟩ := zln h1 fun e he => dec_put he
  have h2 : zcN (l.map putD) ≤ 1048576 := by simp only [zcA, zfA] at hb; omega
  have h4 := zou l
  refine ⟨l, rfl, by omega, fun x hx => small_prep ?_⟩
  have := zgy (f := putD) hx
  simp only [putD, zdY, List.cons_append, List.nil_append, zcA, zfA] at this ⊢
  omega
def zoX (R : List zw) : Prop := ∀ p ∈ R, 0 < p.seq ∧ p.seq ≤ 9007199254740992
theorem rises_of : ∀ {l : List zw} {last : Int}, (∀ p ∈ l, last < p.seq ∧ p.seq ≤ 9007199254740992) → (l.Pairwise fun p q => p.seq < q.seq) → ziO last l = true
  | [], _, _, _ => rfl
  | p :: r, last, h, hs => by
    obtain ⟨h1, h2⟩ := List.pairwise_cons.1 hs
    have h3 := h p List.mem_cons_self
    simp only [ziO, Bool.and_eq_true, decide_eq_true_eq]
    exact ⟨h3, rises_of (fun q hq => ⟨h1 q hq, (h q (List.mem_cons_of_mem _ hq)).2⟩) h2⟩
structure HoI (S : List zb) (e h m : Nat) (l : List (Int × zw)) (R : List zw) : Prop where
  at_ : zdA S h m l
  rel : zma l R
  seq : zoX R
  doc : S[e]? = some (docO R)
  em : e ≠ m
theorem hoI_get {S : List zb} {e h m : Nat} {l : List (Int × zw)} {R : List zw} (H : HoI S e h m l R) (s : Int) : optP (getP R s) = hGet l s ∧ (getP R s).isSome = (zcR s l 0).isSome := by
  have := rel_get H.rel s
  unfold getP
  rw [← this]
  unfold hGet
  cases zcR s l 0 with
  | none => exact ⟨rfl, rfl⟩
  | some q => exact ⟨rfl, rfl⟩
theorem dPut_seq {R : List zw} {p : zw} (h : zoX R) (hp : 0 < p.seq ∧ p.seq ≤ 9007199254740992) : zoX (dPut R p).2 := by
  have key : ∀ i j, zoX (R.take i ++ p :: R.drop j) := fun i j q hq => by
    rcases List.mem_append.1 hq with hq | hq
    · exact h q (List.mem_of_mem_take hq)
    · rcases List.mem_cons.1 hq with rfl | hq
      · exact hp
      · exact h q (List.mem_of_mem_drop hq)
  unfold dPut
  split
  · split
    · split
      · exact h
      · exact key _ _
    · exact key _ _
  · exact key _ _
def zfR : List (Bool × List Ty) := [(false, [.slice tyPut]), (false, [.int .i64])]
theorem gq56 {A P Q : Prop} (a : A) (h : Q) (e : A → Hd Q → P := by intro a h; (repeat' first | simp -dsimp only [↓zek, ↓zar, ↓zbg, ↓zel, ↓zef, ↓zed, ↓zeg, ↓zee, ↓zbl, ↓zbh, ↓zbm, ↓zbi, ↓zeh, ↓zbe, ↓zbn, ↓zbj, ↓zbo, ↓zbk, ↓zec, ↓zej, ↓zbd, ↓zbp, ↓zdW, ↓zdV, ↓zea, iN, bT, bF, eN, ↓zci, ↓unC, ↓zS, ↓zE, ↓zF, ↓zJ, ↓zZ, ↓zaD, ↓zcj, ↓zab, ↓zbr, ↓zU, ↓zl, ↓zo, ↓zbz, ↓zg, ↓zad, ↓zI, ↓zaz, ↓zaJ, ↓zc, ↓zB, ↓zn, ↓zq, ↓zaj, ↓zcB, ↓zcE, ↓zah, ↓zao, ↓zaA, ↓zaO, ↓zaT, ↓zm, ↓zae, ↓zG, ↓zp, ↓zY, zcD, zaV, zaU, unA, zcK, bnd, zcZ, zaa, zag, zdh, dm, dm1, zM, zau, zdy, zdx, zT, Q0, Q1, Q2, Q3, Q4, Q5, zR, zi, zk, zu, zy, Q6, Q7, Q8, Q9, Q10, Q11, Q12, Q13, Q14, Nat.reduceAdd, Q15, Int.reduceToNat, Q16, Q17, Q18, Q19, Q20, reduceIte, Q21, Q22, zA, rep, zV, zdX, toD, zaf, Q23, Q24, Q25, Q26, Q27, Q28, Nat.reduceLeDiff, Q29, Nat.reduceSub, Q30, Q31, Q32, sc, Q33, Q34, Q35, Q36, Q37, Q26, Q38, Q39, zjZ, zjW, zjT, zka, zdJ, zjX, zjU, zjY, zjV, zdI, zdK, zkf, zkg, Bool.not_true, Bool.not_false, List.length_map, Bool.false_eq_true, List.cons_append, List.nil_append, zdY, putD, a] | with_reducible refine zkw ?_ | fail); exact h.go) : P := e a ⟨h⟩
theorem gq57 {A P Q : Prop} (a : A) (h : Q) (e : A → Hd Q → P := by intro a h; (repeat' first | simp -dsimp only [↓zek, ↓zar, ↓zbg, ↓zel, ↓zef, ↓zed, ↓zeg, ↓zee, ↓zbl, ↓zbh, ↓zbm, ↓zbi, ↓zeh, ↓zbe, ↓zbn, ↓zbj, ↓zbo, ↓zbk, ↓zec, ↓zej, ↓zbd, ↓zbp, ↓zdW, ↓zdV, ↓zea, iN, bT, bF, eN, ↓zci, ↓unC, ↓zS, ↓zE, ↓zF, ↓zJ, ↓zZ, ↓zaD, ↓zcj, ↓zab, ↓zbr, ↓zU, ↓zl, ↓zo, ↓zbz, ↓zg, ↓zad, ↓zI, ↓zaz, ↓zaJ, ↓zc, ↓zB, ↓zn, ↓zq, ↓zaj, ↓zcB, ↓zcE, ↓zah, ↓zao, ↓zaA, ↓zaO, ↓zaT, ↓zm, ↓zae, ↓zG, ↓zp, ↓zY, zcD, zaV, zaU, unA, zcK, bnd, zcZ, zaa, zag, zdh, dm, dm1, zM, zau, zdy, zdx, zT, Q0, Q1, Q2, Q3, Q4, Q5, zR, zi, zk, zu, zy, Q6, Q7, Q8, Q9, Q10, Q11, Q12, Q13, Q14, Nat.reduceAdd, Q15, Int.reduceToNat, Q16, Q17, Q18, Q19, Q20, reduceIte, Q21, Q22, zA, rep, zV, zdX, toD, zaf, Q23, Q24, Q25, Q26, Q27, Q28, Nat.reduceLeDiff, Q29, Nat.reduceSub, Q30, Q31, Q32, sc, Q33, Q34, Q35, Q36, Q37, Q26, Q38, Q39, zjZ, zjW, zjT, zka, zdJ, zjX, zjU, zjY, zjV, zdI, zdK, zkf, zkg, Bool.not_true, Bool.not_false, List.length_map, List.cons_append, List.nil_append, zdY, putD, a] | with_reducible refine zkw ?_ | fail); exact h.go) : P := e a ⟨h⟩
theorem zld (xs : List AV) (n : Nat) (hn : n ≤ 1048576) (h : ArgsOk zfR xs n) : zt Tryz.prog zdt xs [] fun r _ => r = .d (.bool true) := by
  obtain ⟨ds, xs1, m1, hf1, hb1, rfl, h⟩ := h
  obtain ⟨l, rfl, hl1, hl2⟩ := arg_puts hn hf1 hb1
  obtain ⟨ds, xs2, m2, hf2, hb2, rfl, rfl⟩ := h
  obtain ⟨d, rfl, h2⟩ := one_of hf2
  obtain ⟨sq, rfl, _⟩ := zdu h2
  show zt Tryz.prog zdt [.d (.slice (putsE l)), .d (.int .i64 sq)] [] _
  clear hb1 hb2 hf1 hf2
  obtain ⟨σ, hσ⟩ : ∃ σ : List zb, [] = σ := ⟨_, rfl⟩
  rw [hσ]
  refine zhh zjw fun hl => ?_
  have hll : (putsE l).length = l.length := List.length_map ..
  simp only [zfI, iN, bT, bF, eN, zl0, zl1]
  refine gq1 ?_
  refine c_live15 ?_
  refine gq1 ?_
  refine zqd ?_
  obtain ⟨S0, hS0⟩ : ∃ S0, σ ++ [zb.map (hE []), zb.box [AV.map σ.length]] = S0 := ⟨_, rfl⟩
  have hl0 : S0.length = σ.length + 2 := by rw [← hS0]; simp
  have hm0 : S0[σ.length]? = some (.map (hE [])) := by rw [← hS0, zk]; rfl
  have hb0 : S0[σ.length + 1]? = some (.box [.map σ.length]) := by rw [← hS0, zi]; rfl
  rw [hS0]
  refine gq2 hll ?_
  obtain ⟨e0, he0⟩ : ∃ e0, S0.length = e0 := ⟨_, rfl⟩
  rw [he0]
  refine zbw l.length (fun k vs S => ∃ h m L R, vs = [.box h 0, .d (.int .i64 k)] ∧ HoI S e0 h m L R ∧ R.length ≤ k)
    (vs0 := [.box (σ.length + 1) 0, .d (.int .i64 0)]) (s0 := S0 ++ [docO []]) ?_ ⟨σ.length + 1, σ.length, [], [], rfl, ⟨⟨ze hb0, ze hm0⟩, .nil, by simp [zoX], by rw [← he0, zk]; rfl, by omega⟩, by simp⟩ ?_
  · refine .dataB e0 0 [.exact []] (.exact []) [] (by rw [← he0, zk]; rfl) rfl rfl ?_
    rw [← he0, zy]
    exact .refl _ _
  rintro k vs S hk ⟨h, m, L, R, rfl, H, hRk⟩
  by_cases hlt : k < l.length
  · have hd : decide ((k : Int) < (l.length : Int)) = true := by simp; omega
    have hx : l[k]? = some l[k] := by simp [hlt]
    have hp := hl2 _ (List.getElem_mem hlt)
    have hgx := zax (f := putD) hx
    obtain ⟨⟨p, sl, low, cl⟩, hxe⟩ : ∃ x, l[k] = x := ⟨_, rfl⟩
    rw [hxe] at hx hgx hp
    simp only at hp
    obtain ⟨X, hX⟩ : ∃ X, zb.box [.d (.int .i64 p.view), .d (.int .i64 p.seq), .d (.int .i64 p.dig), .d (.int .i64 p.fkey), .d (.int .i64 p.fdig), .d (.slice (zaB p.signs)), .d (.slice (zaM p.batch)), .d (.bool sl), .d (.int .i64 low), .d (.bool cl)] = X := ⟨_, rfl⟩
    have hS : ∀ τ, (S ++ X :: τ)[S.length]? = some X := fun τ => by rw [zk]; rfl
    have hcell := H.at_.app [X]
    have hdoc : ∀ τ, (S ++ τ)[e0]? = some (docO R) := fun τ => ze H.doc
    have ehm := H.em
    have lS : S.length ≠ m := by have := zaP H.at_.map; omega
    have lS0 : S.length ≠ e0 := by have := zaP H.doc; omega
    have hme : m ≠ e0 := Ne.symm ehm
    cases sl
    focus
      refine gq56 (zj hd (zj hll hgx)) ?_
      rw [hX]
      refine zqc hcell hp ?_
      obtain ⟨L2, hL2⟩ : ∃ L2, (if inR p = true then hPut L p else L) = L2 := ⟨_, rfl⟩
      obtain ⟨T1, hT1⟩ : ∃ T1, (S ++ [X]).set m (.map (hE L2)) = T1 := ⟨_, rfl⟩
      have hml := zaP hcell.map
      have h1 : zdA T1 h m L2 := ⟨by rw [← hT1, List.getElem?_set_ne (fun e => by have := hcell.box; rw [← e, hcell.map] at this; cases this)]; exact hcell.box, by rw [← hT1]; exact List.getElem?_set_self hml⟩
      have hX1 : T1[S.length]? = some X := by rw [← hT1, List.getElem?_set_ne (Ne.symm lS)]; exact hS []
      have hd1 : T1[e0]? = some (docO R) := by rw [← hT1, List.getElem?_set_ne hme]; exact hdoc _
      rw [hL2, hT1]
      rw [← hX] at hX1
      refine gq2 hX1 ?_
      refine c_frPut hd1 (by omega) hp fun T2 g1 g2 => ?_
      obtain ⟨hok, hrel⟩ := rel_put H.rel hp
      have hX2 : T2[S.length]? = some X := by rw [← hX]; exact g2 _ _ lS0 hX1
      obtain ⟨R2, hR2⟩ : ∃ R2, (if inR p = true then (dPut R p).2 else R) = R2 := ⟨_, rfl⟩
      have hr2 : zma L2 R2 ∧ zoX R2 ∧ R2.length ≤ k + 1 := by
        rw [← hL2, ← hR2]
        by_cases hin : inR p = true
        · rw [if_pos hin, if_pos hin]
          have := dPut_len R p
          refine ⟨hrel, dPut_seq H.seq ?_, by omega⟩
          simp [inR] at hin; omega
        · rw [if_neg hin, if_neg hin]
          exact ⟨H.rel, H.seq, by omega⟩
      rw [hR2] at g1
      have H2 : HoI T2 e0 h m L2 R2 := ⟨⟨g2 _ _ (fun e => by have := h1.box; rw [e, hd1] at this; cases this) h1.box, g2 _ _ hme h1.map⟩, hr2.1, hr2.2.1, g1, ehm⟩
      have hk2 : R2.length ≤ k + 1 := hr2.2.2
      rw [hok]
      clear hX1 h1 hd1 g1 g2 hL2 hR2 hr2 hrel hok hT1
      rw [← hX] at hX2
      refine gq5 ?_
    rotate_left
    focus
      refine gq57 (zj hd (zj hll hgx)) ?_
      rw [hX]
      refine c_heSlide hcell H.rel.nod fun T1 h1 o1 => ?_
      have hX1 : T1[S.length]? = some X := o1 _ _ lS (hS [])
      rw [← hX] at hX1
      refine gq2 hX1 ?_
      refine c_frSlide (o1 _ _ ehm (hdoc _)) (by omega) fun T2 g1 g2 => ?_
      have hX2 : T2[S.length]? = some X := by rw [← hX]; exact g2 _ _ lS0 hX1
      obtain ⟨L2, hL2⟩ : ∃ L2, upF low L = L2 := ⟨_, rfl⟩
      obtain ⟨R2, hR2⟩ : ∃ R2, slF low R = R2 := ⟨_, rfl⟩
      have H2 : HoI T2 e0 h m L2 R2 := by
        rw [← hL2, ← hR2]
        exact ⟨⟨g2 _ _ (fun e => by have := h1.box; rw [e, o1 _ _ ehm (hdoc _)] at this; cases this) h1.box, g2 _ _ hme h1.map⟩, rel_up H.rel, fun q hq => H.seq q (List.mem_filter.1 hq).1, g1, ehm⟩
      have hk2 : R2.length ≤ k + 1 := by rw [← hR2]; have := List.length_filter_le (fun p : zw => decide (p.seq > low)) R; unfold slF; omega
      clear hX1 h1 o1 g1 g2 hL2 hR2
      rw [← hX] at hX2
      refine gq1 ?_
    all_goals
      clear hX hdoc hS hcell
      have hE2 := hoI_get H2 sq
      have hz : zdb ⟨0, 0, 0, 0, 0, [], []⟩ := ⟨by simp, by simp, by simp⟩
      have hgs : zdb (hGet L2 sq) := by
        unfold hGet
        split
        · rename_i q hq
          obtain ⟨e, he, heq⟩ := znk hq
          exact heq ▸ H2.rel.sm e he
        · exact hz
      refine c_heGet H2.at_ H2.rel.sm ?_
      refine gq1 ?_
      refine c_frGet (R := R2) (ze H2.doc) (by omega) ?_
      rw [hE2.1, hE2.2]
      obtain ⟨q, hq⟩ : ∃ q, hGet L2 sq = q := ⟨_, rfl⟩
      obtain ⟨b, hb⟩ : ∃ b, (zcR sq L2 0).isSome = b := ⟨_, rfl⟩
      rw [hq] at hgs
      rw [hq, hb]
      have hdoc : ∀ τ, (T2 ++ τ)[e0]? = some (docO R2) := fun τ => ze H2.doc
      have hXg := fun τ => ze (τ := τ) hX2
      have hlm : (zba R2).length = R2.length := List.length_map ..
      have hLl := H2.rel.len
      refine gq1 ?_
      refine c_prSameR hgs hgs ?_
      rw [decide_eq_true rfl]
      refine gq40 hdoc ?_
      refine c_all (H2.at_.app _) H2.rel (by omega) ?_
      refine gq40 hdoc ?_
      refine c_sameAll (by omega) (by omega) H2.rel.small H2.rel.small ?_
      rw [decide_eq_true rfl]
      refine gq40 hdoc ?_
      refine c_heLen (H2.at_.app _) ?_
      rw [hLl]
      refine gq40 (zj hdoc (zj hlm hXg)) ?_
      cases cl
      · refine gq2 (wk1 k (by omega)) ?_
        exact zaQ.next hlt ⟨h, m, L2, R2, rfl, ⟨H2.at_.app _, H2.rel, H2.seq, hdoc _, ehm⟩, hk2⟩
      · refine gq1 ?_
        refine c_heClone (H2.at_.app _) H2.rel.nod H2.rel.sm fun T3 ys hys g1 g2 g3 => ?_
        refine gq1 ?_
        refine c_heSlide g2 H2.rel.nod fun T4 g4 g5 => ?_
        obtain ⟨h', hh'⟩ : ∃ h', (T2 ++ [zb.box [AV.d (D.int IntKind.i64 q.view), AV.d (D.int IntKind.i64 q.seq), AV.d (D.int IntKind.i64 q.dig), AV.d (D.int IntKind.i64 q.fkey), AV.d (D.int IntKind.i64 q.fdig), AV.d (D.slice (zaB q.signs)), AV.d (D.slice (zaM q.batch))], zb.box [AV.d (D.int IntKind.i64 q.view), AV.d (D.int IntKind.i64 q.seq), AV.d (D.int IntKind.i64 q.dig), AV.d (D.int IntKind.i64 q.fkey), AV.d (D.int IntKind.i64 q.fdig), AV.d (D.slice (zaB q.signs)), AV.d (D.slice (zaM q.batch))]]).length = h' := ⟨_, rfl⟩
        have hh2 : h' = T2.length + 2 := by rw [← hh']; simp
        rw [hh'] at g1
        have lm2 := zaP H2.at_.map
        have le2 := zaP H2.doc
        refine gq2 (zj hh' (wk1 k (by omega))) ?_
        refine zaQ.next hlt ⟨h' + 1, h', ys, R2, by rw [hh2], ⟨⟨g5 _ _ (by omega) g1.box, g5 _ _ (by omega) g1.map⟩, rel_perm H2.rel hys, H2.seq, g5 _ _ ehm (g3 _ _ (hdoc _)), by omega⟩, hk2⟩
  · have hd : decide ((k : Int) < (l.length : Int)) = false := by simp; omega
    have hdoc : ∀ τ, (S ++ τ)[e0]? = some (docO R) := fun τ => ze H.doc
    refine gq2 (zj hd hll) ?_
    refine c_all H.at_ H.rel (by omega) ?_
    refine gq1 ?_
    have hris := rises_of H.seq H.rel.srt
    refine c_heFrom (l := R) (by omega) H.rel.small (fun hr => by rw [hr] at hris; cases hris) fun _ T1 g1 g2 => ?_
    have hd1 : T1[e0]? = some (docO R) := g2 _ _ H.doc
    refine gq2 (zj hd1 (zj (show ((0 : Int) == 0) = true from rfl) (show (true == true) = true from rfl))) ?_
    refine c_all g1 (keyed_rel H.rel.srt H.rel.small) (by omega) ?_
    refine gq2 hd1 ?_
    refine c_sameAll (by omega) (by omega) H.rel.small H.rel.small ?_
    rw [decide_eq_true rfl]
    refine gq1 ?_
    exact zoO (by rw [← hσ]; rfl) (by simp [zgi, dmT, dm, dm1, zck]) hl rfl
end Go.Proofs.YtjjchfbckfopkaaGreat
