/- Contracts: a table of any byte strings, both sides. -/
import Derived.Test.YtpgahkdjkanblaaGreatId3
import Derived.Test.YtpgahkdjkanblaaGreatPt2
set_option linter.all false
set_option maxRecDepth 100000
set_option linter.unusedSimpArgs false
set_option linter.unusedVariables false
namespace Go.Proofs.YtpgahkdjkanblaaGreat
open Go.AW

theorem ztx {l : List (List UInt8)} {k : Nat} {x : List UInt8} (h : l[k]? = some x) (h0 : (l.take k).Nodup) (hx : x ∉ l.take k) : (l.take (k + 1)).Nodup := by
  rw [List.take_add_one, h]
  exact List.nodup_append.2 ⟨h0, by simp, by simp; exact fun a ha e => hx (e ▸ ha)⟩
theorem look_some {l : List (List UInt8)} {b : List UInt8} (h : b ∈ l) : (zff l b).isSome = true := by
  cases hh : zff l b with
  | none => exact absurd h (zpi hh)
  | some k => rfl
theorem c_FromDup {σ : List zd} {l : List (List UInt8)} (hn : ¬ l.Nodup) (hl0 : l.length ≤ 1048576) (hb : ∀ b ∈ l, b.length ≤ 1073741824) {K : KT}
    (hK : K (.tup [.d .nilp, .d (.int .i64 5)]) σ) : zl Tryz.prog zhJ [.d (.slice (zkw l))] σ K := by
  refine ze zka.is rfl fun hl _ => zka.goes ?_
  have hlen : (zkw l).length = l.length := List.length_map ..
  have hd : decide ((l.length : Int) > 1048576) = false := by simp; omega
  simp only [znn, iN, bT, bF, eN]
  refine zjJ (zcs hlen hd) ?_
  refine zue ?_
  refine ztG ?_
  refine zy l.length (fun k vs s => vs = [.d (.int .i64 k)] ∧ s = σ ++ zrH σ.length (l.take k) ∧ (l.take k).Nodup) ⟨rfl, rfl, by simp⟩ ?_
  rintro k vs s hk ⟨rfl, rfl, hnd⟩
  by_cases hlt : k < l.length
  · have hd : decide ((k : Int) < (l.length : Int)) = true := by simp; omega
    have hx : l[k]? = some l[k] := by simp [hlt]
    have hgx := zal (f := fun b => [D.slice (bcs b)]) hx
    have hxb := hb _ (List.getElem_mem hlt)
    obtain ⟨x, hxe⟩ : ∃ x, l[k] = x := ⟨_, rfl⟩
    rw [hxe] at hx hgx hxb
    have hT : zdG (σ ++ zrH σ.length (l.take k)) (σ.length + 1) σ.length (σ.length + 2) (l.take k) := by simpa using tabAt_new σ (l.take k) []
    have hP : ∀ l', putTab (σ ++ zrH σ.length (l.take k)) (σ.length + 1) σ.length (σ.length + 2) l' = σ ++ zrH σ.length l' := fun l' => by simpa using zts σ (l.take k) l' []
    refine zjJ (zcs hlen (zcs hd hgx)) ?_
    refine zqF hT ?_
    by_cases hm : x ∈ l.take k
    · rw [look_some hm]
      refine zjJ (zcs hlen (zcs hd hgx)) ?_
      refine zV hl ?_
      exact hK
    have hno := zqu hm
    rw [hno]
    refine gq60 ?_
    refine c_tSum hT hxb (by rw [List.length_take]; omega) ?_
    rw [hP]
    have e : zib (l.take k) x = l.take (k + 1) := by
      have h1 : (l.take k).length = k := by rw [List.length_take]; omega
      rw [zib, hno]
      simp only [h1]
      rw [if_neg (by omega), List.take_add_one, hx]; rfl
    rw [e]
    have hw : IntKind.i64.wrap ((k : Int) + 1) = ((k + 1 : Nat) : Int) := by rw [zbE (by omega) (by omega)]; rfl
    refine zjJ hw ?_
    exact zbp.next hlt ⟨rfl, rfl, ztx hx hnd hm⟩
  · rw [List.take_of_length_le (by omega)] at hnd
    exact absurd hnd hn
theorem c_rtLookO {σ : List zd} {id t : Nat} {l : List (List UInt8)} {b : List UInt8} (hb : σ[id]? = some (.box [.own t (zkw l)])) (hl0 : l.length ≤ 1048576) {K : KT}
    (hK : K (.tup [.d (.int .i64 (numOf (zff l b))), .d (.bool (zff l b).isSome)]) σ) : zl Tryz.prog zig [.box id 0, .d (.slice (bcs b))] σ K := by
  refine ze zlR.is rfl fun hl _ => zlR.goes ?_
  have hlen : (zkw l).length = l.length := List.length_map ..
  simp only [zmh, iN, bT, bF, eN]
  refine zy l.length (fun k vs s => vs = [.d (.int .i64 k)] ∧ s = σ ∧ zff (l.take k) b = none) ⟨rfl, rfl, rfl⟩ ?_
  rintro k vs s hk ⟨rfl, rfl, hno⟩
  by_cases hlt : k < l.length
  · have hd : decide ((k : Int) < (l.length : Int)) = true := by simp; omega
    have hx : l[k]? = some l[k] := by simp [hlt]
    have hgx := zal (f := fun b => [D.slice (bcs b)]) hx
    obtain ⟨x, hxe⟩ : ∃ x, l[k] = x := ⟨_, rfl⟩
    rw [hxe] at hx hgx
    refine zjJ (zcs hlen (zcs hd (zcs hb hgx))) ?_
    refine c_rtSame ?_
    cases he : (x == b)
    · refine zjJ (wki k (by omega)) ?_
      exact zbp.next hlt ⟨rfl, rfl, look_next hx hno he⟩
    · rw [look_hit hx hno he] at hK
      refine zjJ (wki k (by omega)) ?_
      refine zV hl ?_
      exact hK
  · have hd : decide ((k : Int) < (l.length : Int)) = false := by simp; omega
    rw [List.take_of_length_le (by omega)] at hno
    rw [hno] at hK
    refine zjJ (zcs hlen (zcs hd hb)) ?_
    refine zV hl ?_
    exact hK
theorem gq64 {A P Q : Prop} (a : A) (h : Q) (e : A → Hd Q → P := by intro a h; (repeat' first | simp -dsimp only [↓zfa, ↓zat, ↓zbt, ↓zfb, ↓zeW, ↓zeU, ↓zeX, ↓zeV, ↓zby, ↓zbu, ↓zbz, ↓zbv, ↓zeY, ↓zbs, ↓zbA, ↓zbw, ↓zbB, ↓zbx, ↓zeT, ↓zeZ, ↓zbr, ↓zbC, ↓zeQ, ↓zeP, ↓zeS, iN, bT, bF, eN, ↓zcO, ↓unC, ↓zP, ↓zG, ↓zH, ↓zK, ↓zW, ↓zaz, ↓zdn, ↓zau, ↓zbf, ↓zQ, ↓zg, ↓zf, ↓zbY, ↓zb, ↓zae, ↓zL, ↓zaN, ↓zaO, ↓zc, ↓zB, ↓zj, ↓zE, ↓zY, ↓zdz, ↓zdA, ↓zam, ↓zap, ↓zaK, ↓zaV, ↓zbj, ↓zm, ↓zai, ↓zJ, ↓zr, ↓zT, zdD, zbo, zbk, unA, zcZ, bnd, zdZ, zac, zR, zdT, dm, dm1, zI, zan, zeq, zep, zZ, Q0, Q1, Q2, Q3, Q4, Q5, zX, zn, zo, zF, zA, Q6, Q7, Q8, Q9, Q10, Q11, Q12, Q13, Q14, Nat.reduceAdd, Q15, Int.reduceToNat, Q16, Q17, Q18, Q19, Q20, reduceIte, Q21, Q22, zw, rep, zU, zeo, toD, zaa, Q23, Q24, Q25, Q26, Q27, Q28, Nat.reduceLeDiff, Q29, Nat.reduceSub, Q30, Q31, Q32, sc, Q33, Q34, Q35, Q36, Q37, Q26, Q38, Q39, zlJ, zlG, zlD, zlK, zeM, zlH, zlE, zlI, zlF, zeL, zeN, zlL, zlM, Bool.not_true, Bool.not_false, List.length_map, Bool.and_false, Bool.and_self, Bool.false_and, Bool.true_and, Option.isSome_none, Option.isSome_some, Option.map_none, Option.map_some, beq_self_eq_true, bne_self_eq_false, a] | with_reducible refine zmc ?_ | fail); exact h.go) : P := e a ⟨h⟩
theorem c_rtFromL {σ : List zd} {l : List (List UInt8)} (hl0 : l.length ≤ 1048576) (hb : ∀ b ∈ l, b.length ≤ 1073741824) {K : KT} (ks : List zd → List Nat) (hks : l.Nodup → ∀ T, ks (σ ++ rtO l :: T) = [σ.length]) (hks0 : ¬ l.Nodup → ∀ s, ks s = [])
    (hN : ¬ l.Nodup → K (.tup [.d .nilp, .d (.int .i64 5)]) σ) (hK : l.Nodup → K (.tup [.box σ.length 0, .d (.int .i64 0)]) (σ ++ [rtO l])) : zl Tryz.prog zkB [.d (.slice (zkw l))] σ K := by
  refine zsH ztT.is rfl ks fun hl _ => ztT.goes ?_
  have hlen : (zkw l).length = l.length := List.length_map ..
  have hd : decide ((l.length : Int) > 1048576) = false := by simp; omega
  simp only [zuo, iN, bT, bF, eN]
  refine zjJ (zcs hlen hd) ?_
  refine zgb l.length (fun k vs s => vs = [.d (.int .i64 k)] ∧ (∃ T, s = σ ++ .box [.own (σ.length + 1) (zkw (l.take k))] :: .tok 1 k :: T) ∧ (l.take k).Nodup) (.tokB σ.length 0 [.exact []] [] 1 (by rw [zo]; rfl) rfl (by simp) (.refl _ _)) ⟨rfl, ⟨[], by rw [zA]; simp⟩, by simp⟩ ?_
  rintro k vs s hk ⟨rfl, ⟨T, rfl⟩, hnd⟩
  have hget : (σ ++ .box [.own (σ.length + 1) (zkw (l.take k))] :: .tok 1 k :: T)[σ.length]? = some (.box [.own (σ.length + 1) (zkw (l.take k))]) := by rw [zo]; rfl
  by_cases hlt : k < l.length
  · have hd : decide ((k : Int) < (l.length : Int)) = true := by simp; omega
    have hx : l[k]? = some l[k] := by simp [hlt]
    have hgx := zal (f := fun b => [D.slice (bcs b)]) hx
    have hxb := hb _ (List.getElem_mem hlt)
    obtain ⟨x, hxe⟩ : ∃ x, l[k] = x := ⟨_, rfl⟩
    rw [hxe] at hx hgx hxb
    have hget2 : ∀ τ, (σ ++ .box [.own (σ.length + 1) (zkw (l.take k))] :: .tok 1 k :: T ++ τ)[σ.length]? = some (.box [.own (σ.length + 1) (zkw (l.take k))]) := fun τ => zM hget
    have htok : ∀ τ, (σ ++ .box [.own (σ.length + 1) (zkw (l.take k))] :: .tok 1 k :: T ++ τ)[σ.length + 1]? = some (.tok 1 k) := fun τ => zM (by rw [zn]; rfl)
    have hset : ∀ X Y τ, ((σ ++ .box [.own (σ.length + 1) (zkw (l.take k))] :: .tok 1 k :: T ++ τ).set (σ.length + 1) Y).set σ.length X = σ ++ X :: Y :: (T ++ τ) := fun X Y τ => by rw [List.append_assoc, zF, zA]; rfl
    have hget4 : ∀ Y τ, ((σ ++ .box [.own (σ.length + 1) (zkw (l.take k))] :: .tok 1 k :: T ++ τ).set (σ.length + 1) Y)[σ.length]? = some (.box [.own (σ.length + 1) (zkw (l.take k))]) := fun Y τ => by rw [List.getElem?_set_ne (by omega)]; exact hget2 τ
    obtain ⟨S, hS⟩ : ∃ S, σ ++ .box [.own (σ.length + 1) (zkw (l.take k))] :: .tok 1 k :: T = S := ⟨_, rfl⟩
    have hSl : ∃ T, S = σ ++ T := ⟨_, hS.symm⟩
    rw [hS] at hget hget2 htok hset hget4 ⊢
    refine zjJ (zcs hlen (zcs hd hgx)) ?_
    refine c_rtLookO hget (by rw [List.length_take]; omega) ?_
    by_cases hm : x ∈ l.take k
    · have hno : ¬ l.Nodup := fun h => by
        obtain ⟨i, hi, he⟩ := List.mem_take_iff_getElem.1 hm
        have := (List.getElem_inj h).1 (he.trans hxe.symm)
        omega
      rw [look_some hm]
      refine zjJ (zcs hlen (zcs hd hgx)) ?_
      obtain ⟨T', rfl⟩ := hSl
      refine endsKW_of ?_
      unfold zmz zoP
      rw [hks0 hno]
      have ht' : (σ ++ T').take σ.length = σ := zjL _ _
      refine ⟨by simp, by rw [ht']; exact hl, by simp, by simp, ?_⟩
      rw [ht']
      simp only [getL, zqd]
      have hr : zdF (zkn σ.length []) (zdy [AV.d D.nilp, AV.d (D.int .i64 5)]) = some (.tup [.d .nilp, .d (.int .i64 5)]) := rfl
      rw [hr]
      simpa using hN hno
    · have hno := zqu hm
      rw [hno]
      have b1 : ∀ e ∈ bcs x, e.length = 1 := zht
      have bl : (bcs x).length = x.length := zem x
      have t1 : ∀ e ∈ zkw (l.take k), e.length = 1 := zfS (f := fun b => [D.slice (bcs b)]) (fun _ => rfl) _
      have hlk : (zkw (l.take k)).length = k := by rw [List.length_map, List.length_take]; omega
      refine gq64 (zcs hget (zcs hget2 (zcs htok (zcs hset (zcs hget4 (zcs hgx (zcs bl (zcs hlk (wki k (by omega)))))))))) ?_
      exact zbp.next hlt ⟨rfl, ⟨_, by rw [show zkw (l.take k) ++ [[D.slice (bcs x)]] = zkw (l.take (k + 1)) by rw [List.take_add_one, hx]; simp [zkw]]⟩, ztx hx hnd hm⟩
  · have hd : decide ((k : Int) < (l.length : Int)) = false := by simp; omega
    rw [List.take_of_length_le (by omega)] at hnd hget ⊢
    refine zjJ (zcs hlen hd) ?_
    refine ⟨_, .dataB σ.length 0 _ _ (zkw l) hget rfl rfl (.refl _ _), ?_⟩
    rw [zA]
    refine zjR (σ' := σ) (os := [rtO l]) (τ := .tok 1 k :: T) rfl (hks hnd _) hl (by intro y hy; simp only [List.mem_cons, List.not_mem_nil, or_false] at hy; subst hy; exact rtO_low _ _) ?_ (hK hnd)
    exact .tup _ (by simp [zjI]; exact .box _ _ (by simp))
theorem c_rtFrom {σ : List zd} {l : List (List UInt8)} (hn : l.Nodup) (hl0 : l.length ≤ 1048576) (hb : ∀ b ∈ l, b.length ≤ 1073741824) {K : KT} (hK : K (.tup [.box σ.length 0, .d (.int .i64 0)]) (σ ++ [rtO l])) : zl Tryz.prog zkB [.d (.slice (zkw l))] σ K :=
  c_rtFromL hl0 hb (fun _ => [σ.length]) (fun _ _ => rfl) (fun h => absurd hn h) (fun h => absurd hn h) fun _ => hK
theorem c_rtFromDup {σ : List zd} {l : List (List UInt8)} (hn : ¬ l.Nodup) (hl0 : l.length ≤ 1048576) (hb : ∀ b ∈ l, b.length ≤ 1073741824) {K : KT} (hK : K (.tup [.d .nilp, .d (.int .i64 5)]) σ) : zl Tryz.prog zkB [.d (.slice (zkw l))] σ K :=
  c_rtFromL hl0 hb (fun _ => []) (fun h => absurd h hn) (fun _ _ => rfl) (fun _ => hK) fun h => absurd h hn
end Go.Proofs.YtpgahkdjkanblaaGreat

/- The world of the laws about new views: a table and a ledger, as the program and as the document have it. -/
set_option maxRecDepth 100000
set_option linter.unusedSimpArgs false
set_option linter.unusedVariables false
namespace Go.Proofs.YtpgahkdjkanblaaGreat
open Go.AW

def zgK (G : List zt) (l : List zt) : List zt := l.foldl (fun G s => zid G s.key s.dig) G
theorem signG_len (G : List zt) (k d : Int) : (zid G k d).length ≤ G.length + 1 := by
  unfold zid zsZ
  split
  · split <;> simp
  · omega
theorem zqa : ∀ (l : List zt) (G : List zt), (zgK G l).length ≤ G.length + l.length
  | [], G => by simp [zgK]
  | s :: l, G => by
    have h1 := zqa l (zid G s.key s.dig)
    have h2 := signG_len G s.key s.dig
    simp only [zgK, List.foldl_cons, List.length_cons] at h1 ⊢
    omega
structure WorldI (n : Nat) (S : List zd) (L : List (List UInt8)) (G : List zt) : Prop where
  tab : zdG S (n + 2) (n + 1) (n + 3) L
  rtab : S[n + 4]? = some (rtO L)
  led : zdu S (n + 6) (n + 5) (n + 7) G
  rled : S[n + 8]? = some (rlO G)
theorem WorldI.app {n : Nat} {S : List zd} {L : List (List UInt8)} {G : List zt} (h : WorldI n S L G) (τ : List zd) : WorldI n (S ++ τ) L G := ⟨h.tab.app τ, zM h.rtab, h.led.app τ, zM h.rled⟩
def zky (n : Nat) (A : zd) (L : List (List UInt8)) (G : List zt) : List zd := A :: (zrH (n + 1) L ++ (rtO L :: (ledO (n + 5) G ++ [rlO G])))
theorem ztk (n : Nat) (A : zd) (L : List (List UInt8)) (G : List zt) : (zky n A L G).length = 9 := rfl
theorem ztl (σ : List zd) (A : zd) (L : List (List UInt8)) (G : List zt) (τ : List zd) : WorldI σ.length (σ ++ (zky σ.length A L G ++ τ)) L G :=
  ⟨⟨by rw [zn]; rfl, by rw [zn]; rfl, by rw [zn]; rfl⟩, by rw [zn]; rfl, ⟨by rw [zn]; rfl, by rw [zn]; rfl, by rw [zn]; rfl⟩, by rw [zn]; rfl⟩
theorem putLed_world (σ : List zd) (A : zd) (L : List (List UInt8)) (G G' : List zt) (τ : List zd) : (putLed (σ ++ (zky σ.length A L G ++ τ)) (σ.length + 6) (σ.length + 5) (σ.length + 7) G').set (σ.length + 8) (rlO G') = σ ++ (zky σ.length A L G' ++ τ) := by
  unfold putLed
  rw [zF, zF, zF, zF]; rfl
abbrev zhC (tab : List (List UInt8)) (signs : List zt) : zd := .box [.d (.slice (zkw tab)), .d (.slice (zab signs))]
theorem low_world (n : Nat) (tab : List (List UInt8)) (signs : List zt) (L : List (List UInt8)) (G : List zt) : ∀ x ∈ zky n (zhC tab signs) L G, zrE (n + (zky n (zhC tab signs) L G).length) x := by
  intro x hx
  have h9 : (zky n (zhC tab signs) L G).length = 9 := rfl
  rw [h9]
  simp only [zky, List.cons_append, List.nil_append, List.mem_cons, List.not_mem_nil, or_false] at hx
  rcases hx with rfl | rfl | rfl | rfl | rfl | rfl | rfl | rfl | rfl
  · intro c hc
    simp only [List.mem_cons, List.not_mem_nil, or_false] at hc
    rcases hc with rfl | rfl <;> exact .d _
  · exact zqs L
  · exact ztC (by omega) (by omega)
  · trivial
  · exact rtO_low _ _
  · exact zqt G
  · exact ztC (by omega) (by omega)
  · trivial
  · exact rlO_low _ _
theorem c_made16N {σ : List zd} {tab : List (List UInt8)} {signs : List zt} (hl0 : tab.length ≤ 1048576) (hb : ∀ b ∈ tab, b.length ≤ 1073741824) (hnd : ¬ tab.Nodup) {K : KT}
    (hN : K (.tup [.d .nilp, .d .nilp, .d .nilp, .d .nilp, .d (.bool false)]) σ) :
    zl Tryz.prog zfN [.agg [.d (.slice (zkw tab)), .d (.slice (zab signs))]] σ K := by
  refine ze zfO.is rfl fun hl _ => zfO.goes ?_
  simp only [zim, iN, bT, bF, eN]
  refine ztG ?_
  refine c_FromDup hnd hl0 hb ?_
  refine ztG ?_
  refine c_rtFromDup hnd hl0 hb ?_
  refine ztG ?_
  refine zoH ?_
  refine zjJ (show ((5 : Int) != 0) = true from rfl) ?_
  refine zV hl ?_
  exact hN
theorem gq65 {A P Q : Prop} (a : A) (h : Q) (e : A → Hd Q → P := by intro a h; (repeat' first | simp -dsimp only [↓zfa, ↓zat, ↓zbt, ↓zfb, ↓zeW, ↓zeU, ↓zeX, ↓zeV, ↓zby, ↓zbu, ↓zbz, ↓zbv, ↓zeY, ↓zbs, ↓zbA, ↓zbw, ↓zbB, ↓zbx, ↓zeT, ↓zeZ, ↓zbr, ↓zbC, ↓zeQ, ↓zeP, ↓zeS, iN, bT, bF, eN, ↓zcO, ↓unC, ↓zP, ↓zG, ↓zH, ↓zK, ↓zW, ↓zaz, ↓zdn, ↓zau, ↓zbf, ↓zQ, ↓zg, ↓zf, ↓zbY, ↓zb, ↓zae, ↓zL, ↓zaN, ↓zaO, ↓zc, ↓zB, ↓zj, ↓zE, ↓zY, ↓zdz, ↓zdA, ↓zam, ↓zap, ↓zaK, ↓zaV, ↓zbj, ↓zm, ↓zai, ↓zJ, ↓zr, ↓zT, zdD, zbo, zbk, unA, zcZ, bnd, zdZ, zac, zR, zdT, dm, dm1, zI, zan, zeq, zep, zZ, Q0, Q1, Q2, Q3, Q4, Q5, zX, zn, zo, zF, zA, Q6, Q7, Q8, Q9, Q10, Q11, Q12, Q13, Q14, Nat.reduceAdd, Q15, Int.reduceToNat, Q16, Q17, Q18, Q19, Q20, reduceIte, Q21, Q22, zw, rep, zU, zeo, toD, zaa, Q23, Q24, Q25, Q26, Q27, Q28, Nat.reduceLeDiff, Q29, Nat.reduceSub, Q30, Q31, Q32, sc, Q33, Q34, Q35, Q36, Q37, Q26, Q38, Q39, zlJ, zlG, zlD, zlK, zeM, zlH, zlE, zlI, zlF, zeL, zeN, zlL, zlM, Bool.not_true, Bool.not_false, List.length_map, zbH, zdC, zdB, opA, zgI, zgH, zbl, a] | with_reducible refine zmc ?_ | fail); exact h.go) : P := e a ⟨h⟩
theorem c_made16 {σ : List zd} {tab : List (List UInt8)} {signs : List zt} (hl0 : tab.length ≤ 1048576) (hb : ∀ b ∈ tab, b.length ≤ 1073741824) (hs : signs.length ≤ 1048576) (hnd : tab.Nodup) {K : KT}
    (hK : ∀ W, W.length = 9 → WorldI σ.length (σ ++ W) tab (zgK [] signs) → K (.tup [.box (σ.length + 2) 0, .box (σ.length + 6) 0, .box (σ.length + 4) 0, .box (σ.length + 8) 0, .d (.bool true)]) (σ ++ W)) :
    zl Tryz.prog zfN [.agg [.d (.slice (zkw tab)), .d (.slice (zab signs))]] σ K := by
  refine zsH zfO.is rfl (fun _ => List.range' σ.length 9) fun hl _ => zfO.goes ?_
  have hsl : (zab signs).length = signs.length := List.length_map ..
  simp only [zim, iN, bT, bF, eN]
  refine ztG ?_
  refine c_From hnd hl0 hb ?_
  have hl1 : (σ ++ [zhC tab signs]).length = σ.length + 1 := by simp
  rw [hl1]
  obtain ⟨S2, hS2⟩ : ∃ S2, σ ++ [zhC tab signs] ++ zrH (σ.length + 1) tab = S2 := ⟨_, rfl⟩
  have hg2 : S2[σ.length]? = some (zhC tab signs) := by rw [← hS2]; exact zM (by rw [zo]; rfl)
  have hl2 : S2.length = σ.length + 4 := by rw [← hS2]; simp
  rw [hS2]
  obtain ⟨n2, hn2⟩ : ∃ n, σ.length + 1 + 1 = n := ⟨_, rfl⟩
  rw [hn2]
  refine zjJ hg2 ?_
  refine c_rtFrom hnd hl0 hb ?_
  rw [hl2]
  obtain ⟨S3, hS3⟩ : ∃ S3, S2 ++ [rtO tab] = S3 := ⟨_, rfl⟩
  have hg3 : S3[σ.length]? = some (zhC tab signs) := by rw [← hS3]; exact zM hg2
  have hl3 : S3.length = σ.length + 5 := by rw [← hS3]; simp [hl2]
  rw [hS3]
  obtain ⟨n4, hn4⟩ : ∃ n, σ.length + 4 = n := ⟨_, rfl⟩
  rw [hn4]
  refine zjJ hg3 ?_
  refine zoH ?_
  rw [hl3]
  obtain ⟨S4, hS4⟩ : ∃ S4, S3 ++ ledO (σ.length + 5) [] = S4 := ⟨_, rfl⟩
  have hg4 : ∀ τ, (S4 ++ τ)[σ.length]? = some (zhC tab signs) := fun τ => by rw [← hS4]; exact zM (zM hg3)
  have hl4 : S4.length = σ.length + 8 := by rw [← hS4]; simp [hl3]
  rw [hS4]
  obtain ⟨n6, hn6⟩ : ∃ n, σ.length + 5 + 1 = n := ⟨_, rfl⟩
  rw [hn6]
  refine zjJ (zcs hg4 hsl) ?_
  rw [hl4]
  obtain ⟨n8, hn8⟩ : ∃ n, σ.length + 8 = n := ⟨_, rfl⟩
  rw [hn8]
  have hW0 : (S4 ++ [zd.box [AV.exact []]]).set n8 (.box (([AV.exact []] : List AV).set 0 (.d (.slice [])))) = σ ++ zky σ.length (zhC tab signs) tab [] := by
    rw [← hn8, ← hl4, zA, ← hS4, ← hS3, ← hS2]
    simp [zky, rlO]
  refine zgb signs.length (fun k vs S => vs = [.d (.int .i64 k)] ∧ ∃ T, S = σ ++ (zky σ.length (zhC tab signs) tab (zgK [] (signs.take k)) ++ T)) (.dataB n8 0 [.exact []] (.exact []) [] (by rw [← hn8, ← hl4, zo]; rfl) rfl rfl (.refl _ _)) ⟨rfl, [], by rw [hW0]; simp [zgK]⟩ ?_
  rintro k vs S hk ⟨rfl, T, rfl⟩
  have hI := ztl σ (zhC tab signs) tab (zgK [] (signs.take k)) T
  have hgl : (zgK [] (signs.take k)).length ≤ 1048576 := by
    have := zqa (signs.take k) []
    have hlk : (signs.take k).length ≤ signs.length := by rw [List.length_take]; omega
    simp only [List.length_nil, Nat.zero_add] at this
    omega
  by_cases hlt : k < signs.length
  · have hd : decide ((k : Int) < (signs.length : Int)) = true := by simp; omega
    have hx : signs[k]? = some signs[k] := by simp [hlt]
    have hgx := zal (f := zgH) hx
    obtain ⟨x, hxe⟩ : ∃ x, signs[k] = x := ⟨_, rfl⟩
    rw [hxe] at hx hgx
    have hnx : zgK [] (signs.take (k + 1)) = zid (zgK [] (signs.take k)) x.key x.dig := by
      rw [List.take_add_one, hx]; simp [zgK]
    have hput := putLed_world σ (zhC tab signs) tab (zgK [] (signs.take k)) (zid (zgK [] (signs.take k)) x.key x.dig) T
    obtain ⟨G, hG⟩ : ∃ G, zgK [] (signs.take k) = G := ⟨_, rfl⟩
    rw [hG] at hI hgl hnx hput ⊢
    obtain ⟨S, hS⟩ : ∃ S, σ ++ (zky σ.length (zhC tab signs) tab G ++ T) = S := ⟨_, rfl⟩
    rw [hS] at hI hput ⊢
    have hled := hI.led
    have hlen6 : σ.length + 6 = n6 := by omega
    rw [hlen6] at hled hput
    rw [hn8] at hput
    refine gq65 (zcs hd (zcs hgx hsl)) ?_
    refine c_gSign (hled.app _) (by omega) ?_
    rw [zqg hled]
    obtain ⟨S', hS'⟩ : ∃ S', putLed S n6 (σ.length + 5) (σ.length + 7) (zid G x.key x.dig) = S' := ⟨_, rfl⟩
    have hSl : S'.length = S.length := by rw [← hS', ztt]
    have hrl : S'[n8]? = some (rlO G) := by
      rw [← hS', ← hn8]
      unfold putLed
      rw [List.getElem?_set_ne (by omega), List.getElem?_set_ne (by omega), List.getElem?_set_ne (by omega)]
      exact hI.rled
    have hbx : (S' ++ [zd.box [.d (.int .i64 x.key), .d (.int .i64 x.dig)]])[S.length]? = some (.box [.d (.int .i64 x.key), .d (.int .i64 x.dig)]) := by rw [← hSl, zo]; rfl
    rw [hS'] at hput ⊢
    refine zjJ hbx ?_
    refine c_rgSign (zM hrl) (by omega) ?_
    rw [zea hrl, hput]
    refine zjJ (wki k (by omega)) ?_
    exact zbp.next hlt ⟨rfl, T ++ [zd.box [.d (.int .i64 x.key), .d (.int .i64 x.dig)]], by rw [hnx]; try simp⟩
  · have hd : decide ((k : Int) < (signs.length : Int)) = false := by simp; omega
    rw [List.take_of_length_le (by omega)] at hI ⊢
    have hI' := ztl σ (zhC tab signs) tab (zgK [] signs) []
    rw [List.append_nil] at hI'
    refine zjJ (zcs hd hsl) ?_
    refine endsKW_of ?_
    refine zjR (σ' := σ) (os := zky σ.length (zhC tab signs) tab (zgK [] signs)) (τ := T) rfl rfl hl (low_world _ _ _ _ _) ?_ ?_
    · rw [ztk]
      have a : ∀ k, k < 9 → Low (σ.length + 9) (.box (σ.length + k) 0) := fun k hk => .box _ _ (by omega)
      subst hn2 hn4 hn6 hn8
      refine .tup _ ?_
      intro c hc
      simp only [List.mem_cons, List.not_mem_nil, or_false] at hc
      rcases hc with rfl | rfl | rfl | rfl | rfl
      · exact a 2 (by omega)
      · exact a 6 (by omega)
      · exact a 4 (by omega)
      · exact a 8 (by omega)
      · exact .d _
    · subst hn2 hn4 hn6 hn8
      exact hK _ (ztk ..) hI'
end Go.Proofs.YtpgahkdjkanblaaGreat
