/- Contract: the new view that its primary tells, the program's. -/
import Derived.Test.YtpgahkdjkanblaaGreatMa4
import Derived.Test.YtpgahkdjkanblaaGreatPt2
import Derived.Test.YtpgahkdjkanblaaGreatNv2
set_option linter.all false
set_option maxRecDepth 100000
set_option linter.unusedSimpArgs false
set_option linter.unusedVariables false
namespace Go.Proofs.YtpgahkdjkanblaaGreat
open Go.AW

def zkC (L : List (List UInt8)) (G : List zt) (f view : Int) (cs : List zO) : MakeR :=
  if zmw f view cs ≠ 0 then ⟨zfl, zmw f view cs, L, G⟩
  else if cs.all (zcF L G f view) = false then ⟨zfl, 161, L, G⟩
  else
    if (zaA (zcA f view) (zga f view (cs.take (zaB 2 f).toNat)).2.1 L G []).e ≠ 0 then
      ⟨zfl, (zaA (zcA f view) (zga f view (cs.take (zaB 2 f).toNat)).2.1 L G []).e, (zaA (zcA f view) (zga f view (cs.take (zaB 2 f).toNat)).2.1 L G []).L, (zaA (zcA f view) (zga f view (cs.take (zaB 2 f).toNat)).2.1 L G []).G⟩
    else zhF (zaA (zcA f view) (zga f view (cs.take (zaB 2 f).toNat)).2.1 L G []).L (zaA (zcA f view) (zga f view (cs.take (zaB 2 f).toNat)).2.1 L G []).G
      (ziE f view (cs.take (zaB 2 f).toNat) (zaA (zcA f view) (zga f view (cs.take (zaB 2 f).toNat)).2.1 L G []).out)
structure zpn (x : zaI) : Prop where
  ops : ∀ s ∈ x.batch, zmB s.op ≤ 20971520
  many : x.batch.length ≤ 1073741824
theorem zpn.okB {x : zaI} (h : zpn x) : okB x.batch ∧ zmE x :=
  ⟨⟨h.many, fun s hs => zuw (h.ops s hs)⟩, ⟨h.many, fun s hs => by have := zuw (h.ops s hs); exact ⟨this.2.2.1, this.2.2.2⟩⟩⟩
theorem entX_ok {L : List (List UInt8)} {key : Int} {x : zaI} (h : zpn x) : zpn (entX L key x) := by
  unfold entX
  split
  · exact ⟨by simp [noEn], by simp [noEn]⟩
  · exact ⟨h.ops, h.many⟩
theorem zke {cs : List zO} (hl : cs.length ≤ 1048576) (h : ∀ c ∈ cs, zoM c) : ztp cs :=
  ⟨by omega, fun c hc => ⟨(h c hc).small.signs, (h c hc).small.above, fun p hp => (zpn.okB (x := ⟨0, 0, p.batch, 0, 0⟩) ⟨((h c hc).each p hp).ops, ((h c hc).each p hp).batch⟩).2⟩⟩
theorem znw {f view : Int} {cs : List zO} (h : ∀ c ∈ cs, zoM c) : (zga f view cs).2.1.length ≤ 8 ∧ ∀ x ∈ (zga f view cs).2.1, zpn x := by
  unfold zga
  split
  · exact ⟨by simp, by simp⟩
  · simp only
    split
    · exact ⟨by simp, by simp⟩
    · refine ⟨?_, ?_⟩
      · have := zrZ (zdU (zee cs cs.length)) (zmx cs cs.length).seq
        simpa [zks] using this
      · intro x hx
        simp only [zks, List.mem_map, List.mem_range] at hx
        obtain ⟨n, _, rfl⟩ := hx
        simp only [entAt]
        cases ho : zuK (zee cs cs.length) ((zmx cs cs.length).seq + n + 1) with
        | none => exact ⟨by simp [zqM], by simp [zqM]⟩
        | some p =>
          obtain ⟨c, hc, hp⟩ := zlk (zuJ ho).2
          exact ⟨((h c hc).each p hp).ops, ((h c hc).each p hp).batch⟩
theorem zrU {f view : Int} {cs : List zO} {xs : List zaI} (h1 : cs.length ≤ 1048576) (h2 : ∀ c ∈ cs, zoM c) (h3 : xs.length ≤ 8) (h4 : ∀ x ∈ xs, zpn x) : zcH (ziE f view cs xs) := by
  obtain ⟨n1, n2, n3, n4, n5, n6, n7, n8, n9, n10⟩ := zfk
  exact ⟨n1, n2, n3, by simp only [ziE]; omega, fun c hc => ⟨(h2 c hc).ok, (h2 c hc).small⟩, by simp only [ziE]; omega, fun x hx => (h4 x hx).okB, n8, n9, n10⟩
theorem selF_err (f view : Int) (cs : List zO) : (zga f view cs).2.2 = zmw f view cs := by
  unfold zga
  split
  · rfl
  · rename_i h
    have h0 : zmw f view cs = 0 := by simpa using h
    rw [h0]
    simp only
    split <;> rfl
structure LoopI (key : Int) (xs : List zaI) (L : List (List UInt8)) (G : List zt) (k : Nat) (Lk : List (List UInt8)) (Gk : List zt) (out : List zaI) : Prop where
  eq : zaA key xs L G [] = zaA key (xs.drop k) Lk Gk out
  tab : zkx Lk
  led : Gk.length ≤ G.length + k
  len : out.length = k
  ok : ∀ x ∈ out, zpn x
theorem LoopI.next {key : Int} {xs : List zaI} {L : List (List UInt8)} {G : List zt} {k : Nat} {Lk : List (List UInt8)} {Gk : List zt} {out : List zaI} (h : LoopI key xs L G k Lk Gk out) {x : zaI} (hx : xs[k]? = some x) (hok : zpn x) (he : zkI Lk key x = 0) :
    LoopI key xs L G (k + 1) (zsW Lk x) (zsX Lk Gk key x) (out ++ [entX Lk key x]) := by
  obtain ⟨h1, h2, h3, h4, h5⟩ := h
  have hk := (List.getElem?_eq_some_iff.1 hx).1
  have e : xs.drop k = x :: xs.drop (k + 1) := by rw [List.drop_eq_getElem_cons hk, (List.getElem?_eq_some_iff.1 hx).2]
  refine ⟨?_, h2.ent hok.ops, ?_, by simp [h4], ?_⟩
  · rw [h1, e, zaA, if_neg (by simp [he])]
  · have := entG_len Lk Gk key x; omega
  · intro y hy
    rcases List.mem_append.1 hy with hy | hy
    · exact h5 y hy
    · simp only [List.mem_singleton] at hy
      subst hy
      exact entX_ok hok
theorem LoopI.bad {key : Int} {xs : List zaI} {L : List (List UInt8)} {G : List zt} {k : Nat} {Lk : List (List UInt8)} {Gk : List zt} {out : List zaI} (h : LoopI key xs L G k Lk Gk out) {x : zaI} (hx : xs[k]? = some x) (he : zkI Lk key x ≠ 0) :
    zaA key xs L G [] = ⟨zkI Lk key x, zsW Lk x, zsX Lk Gk key x, out⟩ := by
  have hk := (List.getElem?_eq_some_iff.1 hx).1
  have e : xs.drop k = x :: xs.drop (k + 1) := by rw [List.drop_eq_getElem_cons hk, (List.getElem?_eq_some_iff.1 hx).2]
  rw [h.eq, e, zaA, if_pos he]
theorem LoopI.last {key : Int} {xs : List zaI} {L : List (List UInt8)} {G : List zt} {k : Nat} {Lk : List (List UInt8)} {Gk : List zt} {out : List zaI} (h : LoopI key xs L G k Lk Gk out) (hk : xs.length ≤ k) : zaA key xs L G [] = ⟨0, Lk, Gk, out⟩ := by
  rw [h.eq, List.drop_of_length_le hk, zaA]
theorem zrB {α : Type} {p : α → Bool} {l : List α} {k : Nat} (h : (l.take k).all p = true) {x : α} (hx : l[k]? = some x) (hp : p x = true) : (l.take (k + 1)).all p = true := by
  rw [List.take_add_one, hx, List.all_append, h]; simp [hp]
theorem all_bad {α : Type} {p : α → Bool} {l : List α} {k : Nat} {x : α} (hx : l[k]? = some x) (hp : p x = false) : l.all p = false := by
  rw [List.all_eq_false]; exact ⟨x, List.mem_of_getElem? hx, by simp [hp]⟩
theorem mid_get {P Q X : List zd} {R : zd} : (P ++ (Q ++ (R :: X)))[P.length + Q.length]? = some R := by rw [zn, zo]; rfl
theorem mid_get1 {P Q X : List zd} {R t : zd} : (P ++ (Q ++ (R :: t :: X)))[P.length + Q.length + 1]? = some t := by rw [Nat.add_assoc, zn, zn]; rfl
theorem mid_set {P Q X : List zd} {R t R' t' : zd} : ((P ++ (Q ++ (R :: t :: X))).set (P.length + Q.length + 1) t').set (P.length + Q.length) R' = P ++ (Q ++ (R' :: t' :: X)) := by
  rw [Nat.add_assoc, zF, zF, zF, zA]; rfl
abbrev newC (f view : Int) (cs : List zO) (e : AV) : List AV :=
  [.d (.int .i64 8), .d (.int .i64 (zcA f view)), .d (.int .i64 view), .d (.int .i64 0), .d (.int .i64 0), .d (.int .i64 0), .d (.int .i64 0), .d (.int .i64 0), .d (.int .i64 0), .exact [], .d (.int .i64 0), .d (.int .i64 0), .exact [], .d (.slice (zaL cs)), e, .exact [], .d (.str []), .d (.int .i64 0), .d (.str []), .d (.int .i64 0), .exact [], .exact [], .d (.int .i64 0), .d (.int .i64 0), .exact [], .d (.int .i64 0), .d (.int .i64 0), .exact [], .d (.int .i64 0), .d (.int .i64 0)]
theorem gq70 {A P Q : Prop} (a : A) (h : Q) (e : A → Hd Q → P := by intro a h; (repeat' first | simp -dsimp only [↓zfa, ↓zat, ↓zbt, ↓zfb, ↓zeW, ↓zeU, ↓zeX, ↓zeV, ↓zby, ↓zbu, ↓zbz, ↓zbv, ↓zeY, ↓zbs, ↓zbA, ↓zbw, ↓zbB, ↓zbx, ↓zeT, ↓zeZ, ↓zbr, ↓zbC, ↓zeQ, ↓zeP, ↓zeS, iN, bT, bF, eN, ↓zcO, ↓unC, ↓zP, ↓zG, ↓zH, ↓zK, ↓zW, ↓zaz, ↓zdn, ↓zau, ↓zbf, ↓zQ, ↓zg, ↓zf, ↓zbY, ↓zb, ↓zae, ↓zL, ↓zaN, ↓zaO, ↓zc, ↓zB, ↓zj, ↓zE, ↓zY, ↓zdz, ↓zdA, ↓zam, ↓zap, ↓zaK, ↓zaV, ↓zbj, ↓zm, ↓zai, ↓zJ, ↓zr, ↓zT, zdD, zbo, zbk, unA, zcZ, bnd, zdZ, zac, zR, zdT, dm, dm1, zI, zan, zeq, zep, zZ, Q0, Q1, Q2, Q3, Q4, Q5, zX, zn, zo, zF, zA, Q6, Q7, Q8, Q9, Q10, Q11, Q12, Q13, Q14, Nat.reduceAdd, Q15, Int.reduceToNat, Q16, Q17, Q18, Q19, Q20, reduceIte, Q21, Q22, zw, rep, zU, zeo, toD, zaa, Q23, Q24, Q25, Q26, Q27, Q28, Nat.reduceLeDiff, Q29, Nat.reduceSub, Q30, Q31, Q32, sc, Q33, Q34, Q35, Q36, Q37, Q26, Q38, Q39, zlJ, zlG, zlD, zlK, zeM, zlH, zlE, zlI, zlF, zeL, zeN, zlL, zlM, Bool.not_true, Bool.not_false, List.length_map, Int.toNat_natCast, List.drop_zero, a] | with_reducible refine zmc ?_ | fail); exact h.go) : P := e a ⟨h⟩
theorem gq71 {P Q : Prop} (h : Q) (e : Hd Q → P := by intro h; (repeat' first | simp -dsimp only [↓zfa, ↓zat, ↓zbt, ↓zfb, ↓zeW, ↓zeU, ↓zeX, ↓zeV, ↓zby, ↓zbu, ↓zbz, ↓zbv, ↓zeY, ↓zbs, ↓zbA, ↓zbw, ↓zbB, ↓zbx, ↓zeT, ↓zeZ, ↓zbr, ↓zbC, ↓zeQ, ↓zeP, ↓zeS, iN, bT, bF, eN, ↓zcO, ↓unC, ↓zP, ↓zG, ↓zH, ↓zK, ↓zW, ↓zaz, ↓zdn, ↓zau, ↓zbf, ↓zQ, ↓zg, ↓zf, ↓zbY, ↓zb, ↓zae, ↓zL, ↓zaN, ↓zaO, ↓zc, ↓zB, ↓zj, ↓zE, ↓zY, ↓zdz, ↓zdA, ↓zam, ↓zap, ↓zaK, ↓zaV, ↓zbj, ↓zm, ↓zai, ↓zJ, ↓zr, ↓zT, zdD, zbo, zbk, unA, zcZ, bnd, zdZ, zac, zR, zdT, dm, dm1, zI, zan, zeq, zep, zZ, Q0, Q1, Q2, Q3, Q4, Q5, zX, zn, zo, zF, zA, Q6, Q7, Q8, Q9, Q10, Q11, Q12, Q13, Q14, Nat.reduceAdd, Q15, Int.reduceToNat, Q16, Q17, Q18, Q19, Q20, reduceIte, Q21, Q22, zw, rep, zU, zeo, toD, zaa, Q23, Q24, Q25, Q26, Q27, Q28, Nat.reduceLeDiff, Q29, Nat.reduceSub, Q30, Q31, Q32, sc, Q33, Q34, Q35, Q36, Q37, Q26, Q38, Q39, zlJ, zlG, zlD, zlK, zeM, zlH, zlE, zlI, zlF, zeL, zeN, zlL, zlM, Bool.not_true, Bool.not_false, List.length_map, zfX] | with_reducible refine zmc ?_ | fail); exact h.go) : P := e ⟨h⟩
theorem c_nvMake {i : TGi} {σ : List zd} {L : List (List UInt8)} {G : List zt} {f view : Int} {cs : List zO} (h : TG i σ L G) (hL : zkx L) (hg : G.length ≤ 1048576) (hcl : cs.length ≤ 1048576) (hca : ∀ c ∈ cs, zoM c) (hR : ∀ c ∈ cs, zik c) {K : KT}
    (hK : K (.tup [zlf (zkC L G f view cs).m, .d (.int .i64 (zkC L G f view cs).e)]) (zev i σ (zkC L G f view cs).L (zkC L G f view cs).G)) :
    zl Tryz.prog zkq [.box i.id 0, .box i.id2 0, .d (.int .i64 f), .d (.int .i64 view), .d (.slice (zaL cs))] σ K := by
  refine ze zob.is rfl fun hl _ => zob.goes ?_
  have hcs : (zaL cs).length = cs.length := List.length_map ..
  simp only [zon, iN, bT, bF, eN]
  refine zaF ?_
  refine zpy (h.tab.app _) hL.nd hL.len hL.each ?_
  refine zaF ?_
  refine zpA (h.led.app _) (by omega) fun g' => ?_
  refine zaF ?_
  refine c_may (by omega) ?_
  have fin : ∀ r, zkC L G f view cs = r → K (.tup [zlf r.m, .d (.int .i64 r.e)]) (zev i σ r.L r.G) := fun r h => h ▸ hK
  clear hK
  by_cases h0 : zmw f view cs = 0
  rotate_left
  · have h0' : (zmw f view cs != 0) = true := by simpa using h0
    have hK := fin ⟨zfl, zmw f view cs, L, G⟩ (if_pos h0)
    simp only [h.self, zlf, zrT] at hK
    refine zlu h0' ?_
    refine zV hl ?_
    exact hK
  have h0' : (zmw f view cs != 0) = false := by simpa using h0
  obtain ⟨p1, p2, p3, p4⟩ := zqr h0
  have hf := zuW p1
  have ht : zaB 2 f = 2 * f + 1 := by rw [zaB, if_neg (by omega)]
  obtain ⟨b, hb⟩ : ∃ b : Nat, zaB 2 f = (b : Int) := ⟨(zaB 2 f).toNat, by omega⟩
  refine zlu (zS h0' hcs) ?_
  refine zy cs.length (fun k vs s => vs = [.d (.int .i64 k)] ∧ (∃ T, s = σ ++ (.box ztj :: T)) ∧ (cs.take k).all (zcF L G f view) = true) ⟨rfl, ⟨_, rfl⟩, rfl⟩ ?_
  rintro k vs s hk ⟨rfl, ⟨T, rfl⟩, hall⟩
  by_cases hlt : k < cs.length
  · have hd : decide ((k : Int) < (cs.length : Int)) = true := by simp; omega
    have hx : cs[k]? = some cs[k] := by simp [hlt]
    have hgx := zal (f := zbH) hx
    have hxc := hca _ (List.getElem_mem hlt)
    obtain ⟨c, hc⟩ : ∃ c, cs[k] = c := ⟨_, rfl⟩
    rw [hc] at hx hgx hxc
    refine znN (zS hd (zS hgx hcs)) ?_
    refine zsA (c := c) (h.tab.app _) (h.led.app _) hL (by omega) hxc ?_
    cases hv : zcF L G f view c
    · have hK := fin ⟨zfl, 161, L, G⟩ (by rw [zkC, if_neg (by simpa using h0), if_pos (all_bad hx hv)])
      simp only [h.self, zlf, zrT] at hK
      refine zaF ?_
      refine zV hl ?_
      exact hK
    · refine zlu (wki k (by omega)) ?_
      exact zbp.next hlt ⟨rfl, ⟨_, rfl⟩, zrB hall hx hv⟩
  have hd : decide ((k : Int) < (cs.length : Int)) = false := by simp; omega
  rw [List.take_of_length_le (by omega)] at hall
  have hbl : b ≤ cs.length := by omega
  have e0 : zkC L G f view cs = if (zaA (zcA f view) (zga f view (cs.take b)).2.1 L G []).e ≠ 0 then
      ⟨zfl, (zaA (zcA f view) (zga f view (cs.take b)).2.1 L G []).e, (zaA (zcA f view) (zga f view (cs.take b)).2.1 L G []).L, (zaA (zcA f view) (zga f view (cs.take b)).2.1 L G []).G⟩
    else zhF (zaA (zcA f view) (zga f view (cs.take b)).2.1 L G []).L (zaA (zcA f view) (zga f view (cs.take b)).2.1 L G []).G
      (ziE f view (cs.take b) (zaA (zcA f view) (zga f view (cs.take b)).2.1 L G []).out) := by
    rw [zkC, if_neg (by simpa using h0), if_neg (by rw [hall]; decide), hb]; rfl
  rw [e0] at fin
  clear e0
  have hmt := mayF_take h0
  rw [hb] at hmt
  simp only [Int.toNat_natCast] at hmt
  have hse := selF_err f view (cs.take b)
  rw [hmt] at hse
  have htk : List.take b (zaL cs) = zaL (cs.take b) := List.map_take.symm
  have htc : ∀ c ∈ cs.take b, zoM c := fun c hc => hca c (List.mem_of_mem_take hc)
  have htR : ∀ c ∈ cs.take b, zik c := fun c hc => hR c (List.mem_of_mem_take hc)
  have htl : (cs.take b).length ≤ 1048576 := by rw [List.length_take]; omega
  obtain ⟨hx8, hxs⟩ := znw (f := f) (view := view) htc
  obtain ⟨ds, hds⟩ : ∃ ds, cs.take b = ds := ⟨_, rfl⟩
  rw [hds] at fin hmt hse htk htc htR htl hx8 hxs
  have h8 := changes_eight cs
  refine zlu (zS hd hcs) ?_
  refine c_quBig ?_
  rw [hb]
  refine gq70 (zS hcs (zS htk h8)) ?_
  refine zqG (zke htl htc) htR ?_
  rw [hse]
  obtain ⟨ct, hct⟩ : ∃ x, (zga f view ds).1 = x := ⟨_, rfl⟩
  obtain ⟨xs, hxe⟩ : ∃ x, (zga f view ds).2.1 = x := ⟨_, rfl⟩
  rw [hxe] at hx8 hxs fin
  rw [hxe, hct]
  have hxl : (zah xs).length = xs.length := List.length_map ..
  refine gq71 ?_
  refine zoF ?_
  refine zlu hxl ?_
  obtain ⟨Q, hQ⟩ : ∃ Q, T ++ [zd.box [.d (.int .i64 ct.seq), .d (.int .i64 ct.dig), .d (.slice (zab ct.signs))]] = Q := ⟨_, rfl⟩
  have hQ2 : ∀ R : zd, T ++ [zd.box [.d (.int .i64 ct.seq), .d (.int .i64 ct.dig), .d (.slice (zab ct.signs))], R] = Q ++ [R] := fun R => by rw [← hQ]; simp
  rw [hQ2, hQ]
  obtain ⟨Z0, hZ0⟩ : ∃ Z, zd.box ztj = Z := ⟨_, rfl⟩
  rw [show zd.box ztj = Z0 from hZ0]
  obtain ⟨nR, hnR⟩ : ∃ n, (σ ++ Z0 :: Q).length = n := ⟨_, rfl⟩
  rw [hnR]
  rw [List.length_append] at hnR
  clear hQ hQ2
  have hcells : ([AV.d (.int .i64 8), .d (.int .i64 (zcA f view)), .d (.int .i64 view), .d (.int .i64 0), .d (.int .i64 0), .d (.int .i64 0), .d (.int .i64 0), .d (.int .i64 0), .d (.int .i64 0), .exact [], .d (.int .i64 0), .d (.int .i64 0), .exact [], .d (.slice (zaL ds)), .exact [], .exact [], .d (.str []), .d (.int .i64 0), .d (.str []), .d (.int .i64 0), .exact [], .exact [], .d (.int .i64 0), .d (.int .i64 0), .exact [], .d (.int .i64 0), .d (.int .i64 0), .exact [], .d (.int .i64 0), .d (.int .i64 0)] : List AV) = newC f view ds (.exact []) := rfl
  rw [htk, hcells]
  refine zgb xs.length (fun k vs s => vs = [.d (.int .i64 k)] ∧ ∃ Lk Gk out T2, LoopI (zcA f view) xs L G k Lk Gk out ∧ s = zev i σ Lk Gk ++ ((Z0 :: Q) ++ (.box (newC f view ds (.own (nR + 1) (zah out))) :: .tok 5 out.length :: T2)))
    (.tokB nR 14 (newC f view ds (.exact [])) [] 5 (by rw [← hnR, ← List.cons_append, zn, zo]; rfl) rfl (by simp) (.refl _ _)) ⟨rfl, L, G, [], [], ⟨rfl, hL, by omega, rfl, by simp⟩, ?_⟩ ?_
  · rw [h.self, ← hnR, ← List.cons_append, zF, zA]
    simp [zah]; omega
  rintro k vs s hk ⟨rfl, Lk, Gk, out, T2, hI, rfl⟩
  obtain ⟨S, hS⟩ : ∃ S, zev i σ Lk Gk ++ ((Z0 :: Q) ++ (.box (newC f view ds (.own (nR + 1) (zah out))) :: .tok 5 out.length :: T2)) = S := ⟨_, rfl⟩
  have hpl := zeJ i σ Lk Gk
  have hTG : TG i S Lk Gk := by rw [← hS]; exact (h.put Lk Gk).app _
  have hgR : S[nR]? = some (.box (newC f view ds (.own (nR + 1) (zah out)))) := by rw [← hS, ← hnR, ← hpl]; exact mid_get
  have hput : ∀ L' G', zev i S L' G' = zev i σ L' G' ++ ((Z0 :: Q) ++ (.box (newC f view ds (.own (nR + 1) (zah out))) :: .tok 5 out.length :: T2)) := fun L' G' => by
    rw [← hS, (h.put Lk Gk).put_app, h.put_put]
  have gR : ∀ τ, (S ++ τ)[nR]? = _ := fun τ => zM hgR
  have hgl := hI.led
  rw [hS]
  clear hS
  by_cases hlt : k < xs.length
  · have hd : decide ((k : Int) < (xs.length : Int)) = true := by simp; omega
    have hx : xs[k]? = some xs[k] := by simp [hlt]
    have hgx := zal (f := zdC) hx
    have hxk := hxs _ (List.getElem_mem hlt)
    obtain ⟨x, hxe⟩ : ∃ c, xs[k] = c := ⟨_, rfl⟩
    rw [hxe] at hx hgx hxk
    refine znN (zS hd (zS hgx (zS hxl gR))) ?_
    refine c_auEntry (x := x) (hTG.app _) hI.tab (by omega) hxk.ops hxk.many ?_
    rw [hTG.put_app]
    have hbad := hI.bad hx
    have hnext := hI.next hx hxk
    have hpl2 := zeJ i σ (zsW Lk x) (zsX Lk Gk (zcA f view) x)
    have hlo2 := h.lows hl (zsW Lk x) (zsX Lk Gk (zcA f view) x)
    have hS2 := hput (zsW Lk x) (zsX Lk Gk (zcA f view) x)
    have r2 := zeJ i S (zsW Lk x) (zsX Lk Gk (zcA f view) x)
    obtain ⟨S2, hS2e⟩ : ∃ S2, zev i S (zsW Lk x) (zsX Lk Gk (zcA f view) x) = S2 := ⟨_, rfl⟩
    obtain ⟨P, hP⟩ : ∃ P, zev i σ (zsW Lk x) (zsX Lk Gk (zcA f view) x) = P := ⟨_, rfl⟩
    have hPK := hP
    rw [hS2e] at hS2 r2 ⊢
    rw [hP] at hS2 hpl2 hlo2
    have r : S.length = S2.length := r2.symm
    have gz : ∀ τ, (S2 ++ τ)[σ.length]? = some Z0 := fun τ => zM (by rw [hS2, ← hpl2, zo]; rfl)
    have sz : ∀ τ Y, (S2 ++ τ).set σ.length Y = P ++ (Y :: (Q ++ (.box (newC f view ds (.own (nR + 1) (zah out))) :: .tok 5 out.length :: T2) ++ τ)) := fun τ Y => by
      rw [hS2, List.append_assoc, ← hpl2, zA]; rfl
    have pg0 : ∀ X, (P ++ X)[σ.length]? = X[0]? := fun X => by rw [← hpl2]; exact zo ..
    have gR2 : ∀ τ, (S2 ++ τ)[nR]? = some (.box (newC f view ds (.own (nR + 1) (zah out)))) := fun τ => zM (by rw [hS2, ← hnR, ← hpl2]; exact mid_get)
    have ht2 : S2[nR + 1]? = some (.tok 5 out.length) := by rw [hS2, ← hnR, ← hpl2]; exact mid_get1
    have gt2 : ∀ τ, (S2 ++ τ)[nR + 1]? = some (.tok 5 out.length) := fun τ => zM ht2
    obtain ⟨y, hy⟩ : ∃ y, entX Lk (zcA f view) x = y := ⟨_, rfl⟩
    obtain ⟨N, hN⟩ : ∃ y, zkI Lk (zcA f view) x = y := ⟨_, rfl⟩
    rw [hy, hN] at hnext ⊢
    rw [hN] at hbad
    by_cases hn : N = 0
    rotate_left
    · have hq : (N != 0) = true := by simpa using hn
      have hK := fin ⟨zfl, N, zsW Lk x, zsX Lk Gk (zcA f view) x⟩ (by rw [hbad hn]; exact if_pos hn)
      simp only [zlf, zrT, hPK] at hK
      rw [← hZ0] at gz
      refine zlu (zS hq (zS r (zS gz (zS sz pg0)))) ?_
      refine zfx hpl2 ?_ hlo2 hK
      simp [zjI, dmT, dm, dm1, zdy, zbL, zfZ]
    · have hq : (N != 0) = false := by simpa using hn
      have hol : (out.length + 1) * 56 ≤ 140737488355328 := by have := hI.len; omega
      have hne : nR + 1 ≠ nR := by omega
      have s1 : ∀ τ Y, (S2 ++ τ).set (nR + 1) Y = S2.set (nR + 1) Y ++ τ := fun τ Y => zea ht2
      have gRR : S2[nR]? = some (.box (newC f view ds (.own (nR + 1) (zah out)))) := by have := gR2 []; rwa [List.append_nil] at this
      have g3' : ∀ Y, (S2.set (nR + 1) Y)[nR]? = some (.box (newC f view ds (.own (nR + 1) (zah out)))) := fun Y => by rw [List.getElem?_set_ne hne]; exact gRR
      have g3 : ∀ τ Y, (S2.set (nR + 1) Y ++ τ)[nR]? = some (.box (newC f view ds (.own (nR + 1) (zah out)))) := fun τ Y => zM (g3' Y)
      have s2 : ∀ τ Y X, (S2.set (nR + 1) Y ++ τ).set nR X = (S2.set (nR + 1) Y).set nR X ++ τ := fun τ Y X => zea (g3' Y)
      refine zlu (zS hq (zS r (zS gR2 (zS gt2 (zS hol (zS s1 (zS g3 (zS s2 (wki k (by omega)))))))))) ?_
      refine zbp.next hlt ⟨rfl, _, _, _, T2 ++ [zd.box [.d (.int .i64 x.view), .d (.int .i64 x.seq), .d (.slice (zbD x.batch)), .d (.int .i64 x.key), .d (.int .i64 x.dig)], zd.box [.d (.int .i64 y.view), .d (.int .i64 y.seq), .d (.slice (zbD y.batch)), .d (.int .i64 y.key), .d (.int .i64 y.dig)]], hnext hn, ?_⟩
      rw [hP, hS2, ← hnR, ← hpl2, mid_set]
      simp [newC, zdC]
  · have hd : decide ((k : Int) < (xs.length : Int)) = false := by simp; omega
    have hlast := hI.last (by omega)
    have hom : zcH (ziE f view ds out) := zrU htl htc (by have := hI.len; omega) hI.ok
    refine zlu (zS hd (zS hxl (zS gR hgR))) ?_
    refine c_auSeal8 (m := ziE f view ds out) hTG hI.tab (by omega) hom rfl ?_
    rw [hlast] at fin
    have hK := fin (zhF Lk Gk (ziE f view ds out)) (if_neg (by simp))
    obtain ⟨R, hR'⟩ : ∃ R, zhF Lk Gk (ziE f view ds out) = R := ⟨_, rfl⟩
    rw [hR'] at hK ⊢
    have hpl2 := zeJ i σ R.L R.G
    have hlo2 := h.lows hl R.L R.G
    have hS2 := hput R.L R.G
    have r2 := zeJ i S R.L R.G
    obtain ⟨S2, hS2e⟩ : ∃ S2, zev i S R.L R.G = S2 := ⟨_, rfl⟩
    obtain ⟨P, hP⟩ : ∃ P, zev i σ R.L R.G = P := ⟨_, rfl⟩
    rw [hS2e] at hS2 r2 ⊢
    rw [hP] at hS2 hpl2 hlo2 hK
    have gz : S2[σ.length]? = some (.box ztj) := by rw [hS2, ← hpl2, zo, hZ0]; rfl
    have sz : ∀ Y, S2.set σ.length Y = P ++ (Y :: (Q ++ (.box (newC f view ds (.own (nR + 1) (zah out))) :: .tok 5 out.length :: T2))) := fun Y => by
      rw [hS2, ← hpl2, zA]; rfl
    have pg0 : ∀ X, (P ++ X)[σ.length]? = X[0]? := fun X => by rw [← hpl2]; exact zo ..
    refine zlu (zS gz (zS sz pg0)) ?_
    refine zfx hpl2 ?_ hlo2 hK
    simp [zjI, dmT, dm, dm1, zdy, zbL, zfZ]
end Go.Proofs.YtpgahkdjkanblaaGreat
