/- Contracts: what is let go; clones. -/
import Derived.Test.YtjjchfbckfopkaaGreatHe5
import Derived.Test.YtjjchfbckfopkaaGreatSpHdr
set_option linter.all false
set_option maxRecDepth 100000
set_option linter.unusedSimpArgs false
set_option linter.unusedVariables false
namespace Go.Proofs.YtjjchfbckfopkaaGreat
open Go.AW

def upF (low : Int) (l : List (Int × zw)) : List (Int × zw) := l.filter fun e => !decide (e.1 ≤ low)
theorem rel_up {l : List (Int × zw)} {R : List zw} {low : Int} (h : zma l R) : zma (upF low l) (R.filter fun p => decide (p.seq > low)) := by
  refine ⟨?_, fun e he => h.key e (List.mem_filter.1 he).1, fun p => ?_, h.srt.sublist List.filter_sublist, fun p hp => h.small p (List.mem_filter.1 hp).1⟩
  · exact h.nod.sublist (List.filter_sublist.map _)
  · simp only [upF, List.mem_filter, h.mem]
    have : (!decide (p.seq ≤ low)) = decide (p.seq > low) := by rw [Bool.eq_iff_iff]; simp
    simp only [this]
theorem rel_perm {l l' : List (Int × zw)} {R : List zw} (h : zma l R) (hp : l'.Perm l) : zma l' R :=
  ⟨(hp.map _).nodup_iff.2 h.nod, fun e he => h.key e (hp.mem_iff.1 he), fun p => hp.mem_iff.trans (h.mem p), h.srt, h.small⟩
theorem erase_hE (l : List (Int × zw)) (i : Nat) : (hE l).eraseIdx i = hE (l.eraseIdx i) := by
  apply List.ext_getElem?
  intro j
  simp only [hE, ents, List.getElem?_eraseIdx, List.getElem?_map]
  split <;> rfl
theorem hE_add' (l : List (Int × zw)) (k : Int) (p : zw) : hE l ++ [(.d (.int .i64 k), zdZ p)] = hE (l ++ [(k, p)]) := by simp [hE, ents]
theorem hE_get {l : List (Int × zw)} {i : Nat} {e : AV × AV} (h : (hE l)[i]? = some e) : ∃ x, l[i]? = some x ∧ e = (.d (.int .i64 x.1), zdZ x.2) := by
  simp only [hE, ents, List.getElem?_map, Option.map_map] at h
  obtain ⟨x, h1, h2⟩ := Option.map_eq_some_iff.1 h
  exact ⟨x, h1, h2.symm⟩
theorem findP_at' {l : List (Int × zw)} (hn : (l.map Prod.fst).Nodup) {i : Nat} {x : Int × zw} (h : l[i]? = some x) : zcR x.1 l 0 = some (i, x.2) := by
  obtain ⟨k, hk⟩ := znm (l := l) (i := 0) (List.mem_of_getElem? h) hn
  obtain ⟨k', h1, h2⟩ := znl hk
  have hkl : k' < (l.map Prod.fst).length := by have := (List.getElem?_eq_some_iff.1 h2).1; simpa using this
  have e1 : (l.map Prod.fst)[k']? = (l.map Prod.fst)[i]? := by rw [List.getElem?_map, List.getElem?_map, h2, h]
  have := (List.getElem?_inj hkl hn).1 e1
  rw [hk]
  have e2 : k = i := by omega
  rw [e2]
theorem zlK {α : Type} {q : α → Bool} : ∀ {l : List α} {i : Nat} {x : α}, l[i]? = some x → q x = false → (l.eraseIdx i).filter q = l.filter q
  | a :: l, 0, x, h, hx => by simp at h; subst h; simp [hx]
  | a :: l, i + 1, x, h, hx => by
    have := zlK (l := l) (i := i) (by simpa using h) hx
    simp only [List.eraseIdx_cons_succ, List.filter_cons, this]
structure DelI (low : Int) (l0 : List (Int × zw)) (bs0 bs : List Nat) (l : List (Int × zw)) (seen : List Nat) : Prop where
  len : bs.length = l.length
  nod : bs.Nodup
  sub : ∀ b ∈ bs, b ∈ bs0
  key : (l.map Prod.fst).Nodup
  up : upF low l = upF low l0
  no : ∀ (i b : Nat) (x : Int × zw), bs[i]? = some b → l[i]? = some x → b ∈ seen → ¬ x.1 ≤ low
  sn : seen.Nodup
  ss : ∀ b ∈ seen, b ∈ bs0
theorem DelI.done {low : Int} {l0 : List (Int × zw)} {bs0 bs : List Nat} {l : List (Int × zw)} {seen : List Nat} (h : DelI low l0 bs0 bs l seen) (ha : ∀ b ∈ bs, b ∈ seen) : l = upF low l0 := by
  rw [← h.up]
  refine (List.filter_eq_self.2 fun e he => ?_).symm
  obtain ⟨i, hi⟩ := List.mem_iff_getElem?.1 he
  have hil := (List.getElem?_eq_some_iff.1 hi).1
  have hb : bs[i]? = some (bs[i]'(by rw [h.len]; exact hil)) := List.getElem?_eq_getElem _
  have := h.no i _ e hb hi (ha _ (List.mem_of_getElem? hb))
  simpa using this
theorem DelI.keep {low : Int} {l0 : List (Int × zw)} {bs0 bs : List Nat} {l : List (Int × zw)} {seen : List Nat} (h : DelI low l0 bs0 bs l seen) {i b : Nat} {x : Int × zw} (hb : bs[i]? = some b) (hx : l[i]? = some x) (hn : b ∉ seen) (hp : ¬ x.1 ≤ low) :
    DelI low l0 bs0 bs l (seen ++ [b]) := by
  refine ⟨h.len, h.nod, h.sub, h.key, h.up, fun j c y hc hy hm => ?_, ?_, fun c hc => ?_⟩
  · rcases List.mem_append.1 hm with hm | hm
    · exact h.no j c y hc hy hm
    · simp at hm; subst hm
      have := zjQ h.nod hb hc
      subst this
      rw [hx] at hy; cases hy; exact hp
  · rw [List.nodup_append]
    exact ⟨h.sn, by simp, fun x hx y hy => by simp at hy; subst hy; exact fun e => hn (e ▸ hx)⟩
  · rcases List.mem_append.1 hc with hc | hc
    · exact h.ss c hc
    · simp at hc; subst hc; exact h.sub _ (List.mem_of_getElem? hb)
theorem DelI.drop {low : Int} {l0 : List (Int × zw)} {bs0 bs : List Nat} {l : List (Int × zw)} {seen : List Nat} (h : DelI low l0 bs0 bs l seen) {i b : Nat} {x : Int × zw} (hb : bs[i]? = some b) (hx : l[i]? = some x) (hn : b ∉ seen) (hp : x.1 ≤ low) :
    DelI low l0 bs0 (bs.eraseIdx i) (l.eraseIdx i) (seen ++ [b]) := by
  have hil := (List.getElem?_eq_some_iff.1 hb).1
  refine ⟨?_, h.nod.sublist (List.eraseIdx_sublist _ _), fun c hc => h.sub c ((List.eraseIdx_sublist _ _).mem hc), h.key.sublist ((List.eraseIdx_sublist _ _).map _), ?_, fun j c y hc hy hm => ?_, ?_, fun c hc => ?_⟩
  · rw [List.length_eraseIdx, List.length_eraseIdx, h.len]
  · rw [← h.up]
    exact zlK hx (by simpa using hp)
  · rw [List.getElem?_eraseIdx] at hc hy
    have hcb : c = b → False := fun e => by
      subst e
      split at hc
      · have := zjQ h.nod hb hc; omega
      · have := zjQ h.nod hb hc; omega
    rcases List.mem_append.1 hm with hm | hm
    · split at hc
      · rename_i hj; rw [if_pos hj] at hy; exact h.no j c y hc hy hm
      · rename_i hj; rw [if_neg hj] at hy; exact h.no (j + 1) c y hc hy hm
    · simp at hm; exact (hcb hm).elim
  · rw [List.nodup_append]
    exact ⟨h.sn, by simp, fun x hx y hy => by simp at hy; subst hy; exact fun e => hn (e ▸ hx)⟩
  · rcases List.mem_append.1 hc with hc | hc
    · exact h.ss c hc
    · simp at hc; subst hc; exact h.sub _ (List.mem_of_getElem? hb)
theorem DelI.lt {low : Int} {l0 : List (Int × zw)} {bs0 bs : List Nat} {l : List (Int × zw)} {seen : List Nat} (h : DelI low l0 bs0 bs l seen) {b : Nat} (hb : b ∈ bs) (hn : b ∉ seen) : seen.length < bs0.length := by
  have := zpC (l := b :: seen) (m := bs0) (List.nodup_cons.2 ⟨hn, h.sn⟩) fun x hx => by
    rcases List.mem_cons.1 hx with rfl | hx
    · exact h.sub _ hb
    · exact h.ss x hx
  simp only [List.length_cons] at this
  omega
section

variable {σ : List zb} {h m a : Nat} {l : List (Int × zw)} {R : List zw} {low : Int} {K : AV → List zb → Prop}

theorem c_slide1 {k : Int} {p : zw} (ha : σ[a]? = some (.box [.d (.int .i64 low)])) (hK : K (.d (.bool (decide (k ≤ low)))) σ) : zt Tryz.prog zbF [.d (.int .i64 k), zdZ p, .box a 0] σ K := by
  refine acE3 zgW fun hl => ?_
  simp only [zdT, iN, bT, bF, eN, zdZ]
  have ha' : ∀ τ, (σ ++ τ)[a]? = some (.box [.d (.int .i64 low)]) := fun τ => ze ha
  refine gq2 ha' ?_
  refine zam hl ?_
  exact hK
theorem gq45 {P Q : Prop} (h : Q) (e : Hd Q → P := by intro h; (repeat' first | simp -dsimp only [↓zek, ↓zar, ↓zbg, ↓zel, ↓zef, ↓zed, ↓zeg, ↓zee, ↓zbl, ↓zbh, ↓zbm, ↓zbi, ↓zeh, ↓zbe, ↓zbn, ↓zbj, ↓zbo, ↓zbk, ↓zec, ↓zej, ↓zbd, ↓zbp, ↓zdW, ↓zdV, ↓zea, iN, bT, bF, eN, ↓zci, ↓unC, ↓zS, ↓zE, ↓zF, ↓zJ, ↓zZ, ↓zaD, ↓zcj, ↓zab, ↓zbr, ↓zU, ↓zl, ↓zo, ↓zbz, ↓zg, ↓zad, ↓zI, ↓zaz, ↓zaJ, ↓zc, ↓zB, ↓zn, ↓zq, ↓zaj, ↓zcB, ↓zcE, ↓zah, ↓zao, ↓zaA, ↓zaO, ↓zaT, ↓zm, ↓zae, ↓zG, ↓zp, ↓zY, zcD, zaV, zaU, unA, zcK, bnd, zcZ, zaa, zag, zdh, dm, dm1, zM, zau, zdy, zdx, zT, Q0, Q1, Q2, Q3, Q4, Q5, zR, zi, zk, zu, zy, Q6, Q7, Q8, Q9, Q10, Q11, Q12, Q13, Q14, Nat.reduceAdd, Q15, Int.reduceToNat, Q16, Q17, Q18, Q19, Q20, reduceIte, Q21, Q22, zA, rep, zV, zdX, toD, zaf, Q23, Q24, Q25, Q26, Q27, Q28, Nat.reduceLeDiff, Q29, Nat.reduceSub, Q30, Q31, Q32, sc, Q33, Q34, Q35, Q36, Q37, Q26, Q38, Q39, zjZ, zjW, zjT, zka, zdJ, zjX, zjU, zjY, zjV, zdI, zdK, zkf, zkg, Bool.not_true, Bool.not_false, List.length_map, zdZ] | with_reducible refine zkw ?_ | fail); exact h.go) : P := e ⟨h⟩
theorem gq46 {A P Q : Prop} (a : A) (h : Q) (e : A → Hd Q → P := by intro a h; (repeat' first | simp -dsimp only [↓zek, ↓zar, ↓zbg, ↓zel, ↓zef, ↓zed, ↓zeg, ↓zee, ↓zbl, ↓zbh, ↓zbm, ↓zbi, ↓zeh, ↓zbe, ↓zbn, ↓zbj, ↓zbo, ↓zbk, ↓zec, ↓zej, ↓zbd, ↓zbp, ↓zdW, ↓zdV, ↓zea, iN, bT, bF, eN, ↓zci, ↓unC, ↓zS, ↓zE, ↓zF, ↓zJ, ↓zZ, ↓zaD, ↓zcj, ↓zab, ↓zbr, ↓zU, ↓zl, ↓zo, ↓zbz, ↓zg, ↓zad, ↓zI, ↓zaz, ↓zaJ, ↓zc, ↓zB, ↓zn, ↓zq, ↓zaj, ↓zcB, ↓zcE, ↓zah, ↓zao, ↓zaA, ↓zaO, ↓zaT, ↓zm, ↓zae, ↓zG, ↓zp, ↓zY, zcD, zaV, zaU, unA, zcK, bnd, zcZ, zaa, zag, zdh, dm, dm1, zM, zau, zdy, zdx, zT, Q0, Q1, Q2, Q3, Q4, Q5, zR, zi, zk, zu, zy, Q6, Q7, Q8, Q9, Q10, Q11, Q12, Q13, Q14, Nat.reduceAdd, Q15, Int.reduceToNat, Q16, Q17, Q18, Q19, Q20, reduceIte, Q21, Q22, zA, rep, zV, zdX, toD, zaf, Q23, Q24, Q25, Q26, Q27, Q28, Nat.reduceLeDiff, Q29, Nat.reduceSub, Q30, Q31, Q32, sc, Q33, Q34, Q35, Q36, Q37, Q26, Q38, Q39, zjZ, zjW, zjT, zka, zdJ, zjX, zjU, zjY, zjV, zdI, zdK, zkf, zkg, Bool.not_true, Bool.not_false, List.length_map, Option.map_some, erase_hE, zcU, zaT, a] | with_reducible refine zkw ?_ | fail); exact h.go) : P := e a ⟨h⟩
theorem c_delFunc (hm : σ[m]? = some (.map (hE l))) (ha : σ[a]? = some (.box [.d (.int .i64 low)])) (hn : (l.map Prod.fst).Nodup)
    (hK : ∀ S, S[m]? = some (.map (hE (upF low l))) → (∀ (j : Nat) (x : zb), j ≠ m → σ[j]? = some x → S[j]? = some x) → K (.tup []) S) :
    zt Tryz.prog zac [.map m, .fn (.func zbF) [] [.box a 0]] σ K := by
  have hma : a ≠ m := fun e => by rw [e, hm] at ha; cases ha
  have hml := zaP hm
  refine zcv zat.is rfl fun hl _ => zat.goes ?_
  simp only [zaw, iN, bT, bF, eN, zl1]
  simp only [zeO, hm]
  intro c bs0 hbl hbn
  have hlen : (hE l).length = l.length := by simp [hE, ents]
  refine zC bs0.length (fun k vs S => vs = [] ∧ ∃ bs l' seen, seen.length = k ∧ DelI low l bs0 bs l' seen ∧ S[m]? = some (.mapr c bs (hE l')) ∧ S[σ.length]? = some (.mit (some m) c seen) ∧ (∀ (j : Nat) (x : zb), j ≠ m → σ[j]? = some x → S[j]? = some x)) ⟨rfl, bs0, l, [], rfl, ⟨by rw [hbl, hlen], hbn, fun _ h => h, hn, rfl, by simp, .nil, by simp⟩, ze (List.getElem?_set_self hml), ?_, fun j x hj hx => ze (by rw [List.getElem?_set_ne (Ne.symm hj)]; exact hx)⟩ ?_
  · rw [List.getElem?_append_right (by simp)]; simp
  rintro k vs S hk ⟨rfl, bs, l', seen, rfl, hD, g1, g2, g3⟩
  have gml := zaP g1
  have gil := zaP g2
  have hmi : m ≠ σ.length := by omega
  simp only [zhb, g1, g2]
  refine ⟨trivial, fun hall => ?_, fun i b e hb he hnb => ?_⟩
  · refine gq1 ?_
    refine zjp (hK _ ?_ fun j x hj hx => ?_)
    · rw [← hD.done hall]; exact List.getElem?_set_self gml
    · rw [List.getElem?_set_ne (Ne.symm hj)]; exact g3 j x hj hx
  · obtain ⟨⟨key, p⟩, hx, rfl⟩ := hE_get he
    obtain ⟨S1, hS1⟩ : ∃ S1, S.set σ.length (.mit (some m) c (seen ++ [b])) = S1 := ⟨_, rfl⟩
    have q1 : ∀ τ, (S1 ++ τ)[m]? = some (.mapr c bs (hE l')) := fun τ => ze (by rw [← hS1]; exact (List.getElem?_set_ne (Ne.symm hmi)).trans g1)
    have q2 : ∀ τ, (S1 ++ τ)[σ.length]? = some (.mit (some m) c (seen ++ [b])) := fun τ => ze (by rw [← hS1]; exact List.getElem?_set_self gil)
    have q3 : ∀ (j : Nat) (x : zb), j ≠ m → σ[j]? = some x → ∀ τ, (S1 ++ τ)[j]? = some x := fun j x hj hx τ => ze (by
      rw [← hS1, List.getElem?_set_ne (fun e => by have := zaP hx; omega)]; exact g3 j x hj hx)
    have hlt := hD.lt (List.mem_of_getElem? hb) hnb
    have hf := zit key l' 0
    rw [findP_at' hD.key hx] at hf
    refine gq1 ?_
    rw [hS1]
    have q1' : S1[m]? = some (.mapr c bs (hE l')) := by have := q1 []; rwa [List.append_nil] at this
    have q2' : S1[σ.length]? = some (.mit (some m) c (seen ++ [b])) := by have := q2 []; rwa [List.append_nil] at this
    simp only [zeU, q1', q2']
    refine ⟨trivial, i, b, _, by simp, hb, he, ?_⟩
    refine gq45 ?_
    refine c_slide1 (p := p) (q3 a _ hma ha _) ?_
    cases hp : decide (key ≤ low)
    · refine gq1 ?_
      refine zaQ.next hlt ⟨rfl, bs, l', seen ++ [b], by simp, hD.keep hb hx hnb (by simpa using hp), q1 _, q2 _, fun j x hj hx => q3 j x hj hx _⟩
    · refine gq46 (zj q1 hf) ?_
      refine zaQ.next hlt ⟨rfl, _, _, seen ++ [b], by simp, hD.drop hb hx hnb (by simpa using hp), List.getElem?_set_self (by have := zaP q1'; simp; omega), ?_, fun j x hj hx => ?_⟩
      · rw [List.getElem?_set_ne hmi]; exact q2 _
      · rw [List.getElem?_set_ne (Ne.symm hj)]; exact q3 j x hj hx _
theorem c_heSlide (H : zdA σ h m l) (hn : (l.map Prod.fst).Nodup)
    (hK : ∀ S, zdA S h m (upF low l) → (∀ (j : Nat) (x : zb), j ≠ m → σ[j]? = some x → S[j]? = some x) → K (.tup []) S) :
    zt Tryz.prog zbP [.box h 0, .d (.int .i64 low)] σ K := by
  have hhm : h ≠ m := fun e => by have := H.box; rw [e, H.map] at this; cases this
  refine zcv zeF.is rfl fun hl _ => zeF.goes ?_
  simp only [zeI, iN, bT, bF, eN]
  have hb : ∀ τ, (σ ++ τ)[h]? = some (.box [.map m]) := fun τ => ze H.box
  refine gq1 ?_
  refine ziA (H.app _) ?_
  refine gq2 hb ?_
  refine c_delFunc (l := l) (low := low) (ze H.map) (by rw [zk]; rfl) hn fun S g1 g2 => ?_
  refine gq1 ?_
  exact zjp (hK S ⟨g2 h _ hhm (hb _), g1⟩ fun j x hj hx => g2 j x hj (ze hx))
theorem seen_no {bs : List Nat} {seen : List Nat} {ys : List (Int × zw)} (hS : zfZ bs l seen ys) (hn : (l.map Prod.fst).Nodup) {i b : Nat} {x : Int × zw} (hb : bs[i]? = some b) (hx : l[i]? = some x) (hnb : b ∉ seen) : zcR x.1 ys 0 = none := by
  cases hf : zcR x.1 ys 0 with
  | none => rfl
  | some q =>
    exfalso
    have hm := findP_key' hf
    obtain ⟨j, hj⟩ := List.mem_iff_getElem?.1 hm
    have hjl := (List.getElem?_eq_some_iff.1 hj).1
    have hsj : seen[j]? = some (seen[j]'(by rw [hS.1]; exact hjl)) := List.getElem?_eq_getElem _
    obtain ⟨i', h1, h2⟩ := hS.2 j _ _ hsj hj
    have hkl : i' < (l.map Prod.fst).length := by have := (List.getElem?_eq_some_iff.1 h2).1; simpa using this
    have e1 : (l.map Prod.fst)[i']? = (l.map Prod.fst)[i]? := by rw [List.getElem?_map, List.getElem?_map, h2, hx]; rfl
    have := (List.getElem?_inj hkl hn).1 e1
    subst this
    rw [h1] at hb; cases hb
    exact hnb (List.mem_of_getElem? hsj)
theorem gq47 {A P Q : Prop} (a : A) (h : Q) (e : A → Hd Q → P := by intro a h; (repeat' first | simp -dsimp only [↓zek, ↓zar, ↓zbg, ↓zel, ↓zef, ↓zed, ↓zeg, ↓zee, ↓zbl, ↓zbh, ↓zbm, ↓zbi, ↓zeh, ↓zbe, ↓zbn, ↓zbj, ↓zbo, ↓zbk, ↓zec, ↓zej, ↓zbd, ↓zbp, ↓zdW, ↓zdV, ↓zea, iN, bT, bF, eN, ↓zci, ↓unC, ↓zS, ↓zE, ↓zF, ↓zJ, ↓zZ, ↓zaD, ↓zcj, ↓zab, ↓zbr, ↓zU, ↓zl, ↓zo, ↓zbz, ↓zg, ↓zad, ↓zI, ↓zaz, ↓zaJ, ↓zc, ↓zB, ↓zn, ↓zq, ↓zaj, ↓zcB, ↓zcE, ↓zah, ↓zao, ↓zaA, ↓zaO, ↓zaT, ↓zm, ↓zae, ↓zG, ↓zp, ↓zY, zcD, zaV, zaU, unA, zcK, bnd, zcZ, zaa, zag, zdh, dm, dm1, zM, zau, zdy, zdx, zT, Q0, Q1, Q2, Q3, Q4, Q5, zR, zi, zk, zu, zy, Q6, Q7, Q8, Q9, Q10, Q11, Q12, Q13, Q14, Nat.reduceAdd, Q15, Int.reduceToNat, Q16, Q17, Q18, Q19, Q20, reduceIte, Q21, Q22, zA, rep, zV, zdX, toD, zaf, Q23, Q24, Q25, Q26, Q27, Q28, Nat.reduceLeDiff, Q29, Nat.reduceSub, Q30, Q31, Q32, sc, Q33, Q34, Q35, Q36, Q37, Q26, Q38, Q39, zjZ, zjW, zjT, zka, zdJ, zjX, zjU, zjY, zjV, zdI, zdK, zkf, zkg, Bool.not_true, Bool.not_false, List.length_map, zdZ, a] | with_reducible refine zkw ?_ | fail); exact h.go) : P := e a ⟨h⟩
theorem c_heClone (H : zdA σ h m l) (hn : (l.map Prod.fst).Nodup) (hs : ∀ e ∈ l, zdb e.2)
    (hK : ∀ S ys, ys.Perm l → zdA S (σ.length + 1) σ.length ys → zdA S h m l → (∀ (j : Nat) (x : zb), σ[j]? = some x → S[j]? = some x) → K (.box (σ.length + 1) 0) S) :
    zt Tryz.prog zcJ [.box h 0] σ K := by
  have hml := zaP H.map
  have hhl := zaP H.box
  have hhm : h ≠ m := fun e => by have := H.box; rw [e, H.map] at this; cases this
  refine zcv zeG.is rfl fun hl _ => zeG.goes ?_
  simp only [zeJ, iN, bT, bF, eN, zl1]
  have hb : ∀ τ, (σ ++ τ)[h]? = some (.box [.map m]) := fun τ => ze H.box
  have hm0 : ∀ τ, (σ ++ τ)[m]? = some (.map (hE l)) := fun τ => ze H.map
  have hlen : (hE l).length = l.length := by simp [hE, ents]
  refine gq1 ?_
  refine ziA H ?_
  refine gq1 ?_
  refine zqd ?_
  refine gq2 hb ?_
  simp only [zeO, hm0]
  intro c bs hbl hbn
  rw [hlen] at hbl
  refine zC bs.length (fun k vs S => vs = [] ∧ ∃ seen ys, seen.length = k ∧ zfZ bs l seen ys ∧ seen.Nodup ∧ S[m]? = some (.mapr c bs (hE l)) ∧ S[σ.length + 2]? = some (.mit (some m) c seen) ∧ zdA S (σ.length + 1) σ.length ys ∧ (∀ (j : Nat) (x : zb), j ≠ m → σ[j]? = some x → S[j]? = some x))
    ⟨rfl, [], [], rfl, .nil, .nil, ze (List.getElem?_set_self (by simp; omega)), ?_, ⟨?_, ?_⟩, fun j x hj hx => ze (by rw [List.getElem?_set_ne (Ne.symm hj)]; exact ze hx)⟩ ?_
  · rw [List.getElem?_append_right (by simp)]; simp
  · exact ze (by rw [List.getElem?_set_ne (by omega), zi]; rfl)
  · exact ze (by rw [List.getElem?_set_ne (by omega), zk]; rfl)
  rintro k vs S hk ⟨rfl, seen, ys, rfl, hS, hsn, g1, g2, g4, g3⟩
  have gml := zaP g1
  have gil := zaP g2
  have hmi : m ≠ σ.length + 2 := by omega
  have el : (σ ++ [zb.map (hE []), .box [.map σ.length]]).length = σ.length + 2 := by simp
  simp only [el, zhb, g1, g2]
  refine ⟨trivial, fun hall => ?_, fun i b e hb' he hnb => ?_⟩
  · refine gq1 ?_
    refine zjp (hK _ ys (hS.perm hsn hbn hbl hall) ⟨?_, ?_⟩ ⟨?_, ?_⟩ fun j x hx => ?_)
    · rw [List.getElem?_set_ne (by omega)]; exact g4.box
    · rw [List.getElem?_set_ne (by omega)]; exact g4.map
    · rw [List.getElem?_set_ne (Ne.symm hhm)]; exact g3 h _ hhm H.box
    · exact List.getElem?_set_self gml
    · by_cases hj : j = m
      · subst hj; rw [List.getElem?_set_self gml, ← hx, H.map]
      · rw [List.getElem?_set_ne (Ne.symm hj)]; exact g3 j x hj hx
  · obtain ⟨⟨key, p⟩, hx, rfl⟩ := hE_get he
    have hps := hs _ (List.mem_of_getElem? hx)
    obtain ⟨S1, hS1⟩ : ∃ S1, S.set (σ.length + 2) (.mit (some m) c (seen ++ [b])) = S1 := ⟨_, rfl⟩
    have q1' : S1[m]? = some (.mapr c bs (hE l)) := by rw [← hS1]; exact (List.getElem?_set_ne (Ne.symm hmi)).trans g1
    have q2' : S1[σ.length + 2]? = some (.mit (some m) c (seen ++ [b])) := by rw [← hS1]; exact List.getElem?_set_self gil
    have q3 : ∀ (j : Nat) (x : zb), j ≠ m → σ[j]? = some x → ∀ τ, (S1 ++ τ)[j]? = some x := fun j x hj hx τ => ze (by
      rw [← hS1, List.getElem?_set_ne (fun e => by have := zaP hx; omega)]; exact g3 j x hj hx)
    have q4 : ∀ τ, (S1 ++ τ)[σ.length + 1]? = some (.box [.map σ.length]) := fun τ => ze (by rw [← hS1, List.getElem?_set_ne (by omega)]; exact g4.box)
    have q5 : ∀ τ, (S1 ++ τ)[σ.length]? = some (.map (hE ys)) := fun τ => ze (by rw [← hS1, List.getElem?_set_ne (by omega)]; exact g4.map)
    have hlt : seen.length < bs.length := by
      have := hS.lt hsn hbl (List.mem_of_getElem? hb') hnb
      rw [hS.1, hbl]; exact this
    have hf := zit key ys 0
    rw [seen_no hS hn hb' hx hnb] at hf
    refine gq1 ?_
    rw [hS1]
    simp only [zeU, q1', q2']
    refine ⟨trivial, i, b, _, by simp, hb', he, ?_⟩
    refine gq47 q4 ?_
    refine zgx (p := p) hps ?_
    refine gq3 (zj q5 hf) ?_
    have el2 : σ.length < S1.length := by have := zaP q1'; have := zaP q2'; omega
    refine zaQ.next hlt ⟨rfl, seen ++ [b], ys ++ [(key, p)], by simp, hS.snoc hb' hx, ?_, ?_, ?_, ⟨?_, ?_⟩, fun j x hj hx => ?_⟩
    · rw [List.nodup_append]
      exact ⟨hsn, by simp, fun x hx y hy => by simp at hy; subst hy; exact fun e => hnb (e ▸ hx)⟩
    · rw [List.getElem?_set_ne (by omega)]; exact ze q1'
    · rw [List.getElem?_set_ne (by omega)]; exact ze q2'
    · rw [List.getElem?_set_ne (by omega)]; exact q4 _
    · rw [← hE_add', List.getElem?_set_self (by simp; omega)]
    · rw [List.getElem?_set_ne (by have := zaP hx; omega)]; exact q3 j x hj hx _
end

end Go.Proofs.YtjjchfbckfopkaaGreat
