/- Contracts: a table of any byte strings, both sides. -/
import Derived.Test.YtpgahkdjkanblaaGreatId3
import Derived.Test.YtpgahkdjkanblaaGreatPr5
set_option linter.all false
set_option maxRecDepth 100000
set_option linter.unusedSimpArgs false
set_option linter.unusedVariables false
namespace Go.Proofs.YtpgahkdjkanblaaGreat
open Go.AW

theorem zuv {l : List (List UInt8)} {k : Nat} {x : List UInt8} (h : l[k]? = some x) (h0 : (l.take k).Nodup) (hx : x ∉ l.take k) : (l.take (k + 1)).Nodup := by
  rw [List.take_add_one, h]
  exact List.nodup_append.2 ⟨h0, by simp, by simp; exact fun a ha e => hx (e ▸ ha)⟩
theorem look_some {l : List (List UInt8)} {b : List UInt8} (h : b ∈ l) : (zen l b).isSome = true := by
  cases hh : zen l b with
  | none => exact absurd h (zoV hh)
  | some k => rfl
theorem c_FromDup {σ : List zf} {l : List (List UInt8)} (hn : ¬ l.Nodup) (hl0 : l.length ≤ 1048576) (hb : ∀ b ∈ l, b.length ≤ 1073741824) {K : KT}
    (hK : K (.tup [.d .nilp, .d (.int .i64 5)]) σ) : zm Tryz.prog zhf [.d (.slice (ziZ l))] σ K := by
  refine zc zjw.is rfl fun hl _ => zjw.goes ?_
  have hlen : (ziZ l).length = l.length := List.length_map ..
  have hd : decide ((l.length : Int) > 1048576) = false := by simp; omega
  simp only [zmX, iN, bT, bF, eN]
  refine ziy (zcc hlen hd) ?_
  refine zvk ?_
  refine zwa ?_
  refine zl l.length (fun k vs s => vs = [.d (.int .i64 k)] ∧ s = σ ++ zrV σ.length (l.take k) ∧ (l.take k).Nodup) ⟨rfl, rfl, by simp⟩ ?_
  rintro k vs s hk ⟨rfl, rfl, hnd⟩
  by_cases hlt : k < l.length
  · have hd : decide ((k : Int) < (l.length : Int)) = true := by simp; omega
    have hx : l[k]? = some l[k] := by simp [hlt]
    have hgx := zQ (f := fun b => [D.slice (bcs b)]) hx
    have hxb := hb _ (List.getElem_mem hlt)
    obtain ⟨x, hxe⟩ : ∃ x, l[k] = x := ⟨_, rfl⟩
    rw [hxe] at hx hgx hxb
    have hT : zed (σ ++ zrV σ.length (l.take k)) (σ.length + 1) σ.length (σ.length + 2) (l.take k) := by simpa using tabAt_new σ (l.take k) []
    have hP : ∀ l', putTab (σ ++ zrV σ.length (l.take k)) (σ.length + 1) σ.length (σ.length + 2) l' = σ ++ zrV σ.length l' := fun l' => by simpa using zuq σ (l.take k) l' []
    refine ziy (zcc hlen (zcc hd hgx)) ?_
    refine ztd hT ?_
    by_cases hm : x ∈ l.take k
    · rw [look_some hm]
      refine ziy (zcc hlen (zcc hd hgx)) ?_
      refine zq hl ?_
      exact hK
    have hno := zqD hm
    rw [hno]
    refine gq67 ?_
    refine c_tSum hT hxb (by rw [List.length_take]; omega) ?_
    rw [hP]
    have e : sumL (l.take k) x = l.take (k + 1) := by
      have h1 : (l.take k).length = k := by rw [List.length_take]; omega
      rw [sumL, hno]
      simp only [h1]
      rw [if_neg (by omega), List.take_add_one, hx]; rfl
    rw [e]
    have hw : IntKind.i64.wrap ((k : Int) + 1) = ((k + 1 : Nat) : Int) := by rw [zat (by omega) (by omega)]; rfl
    refine ziy hw ?_
    exact zaG.next hlt ⟨rfl, rfl, zuv hx hnd hm⟩
  · rw [List.take_of_length_le (by omega)] at hnd
    exact absurd hnd hn
theorem c_rtLookO {σ : List zf} {id t : Nat} {l : List (List UInt8)} {b : List UInt8} (hb : σ[id]? = some (.box [.own t (ziZ l)])) (hl0 : l.length ≤ 1048576) {K : KT}
    (hK : K (.tup [.d (.int .i64 (zvT (zen l b))), .d (.bool (zen l b).isSome)]) σ) : zm Tryz.prog zcF [.box id 0, .d (.slice (bcs b))] σ K := by
  refine zc zfn.is rfl fun hl _ => zfn.goes ?_
  have hlen : (ziZ l).length = l.length := List.length_map ..
  simp only [zhD, iN, bT, bF, eN]
  refine zl l.length (fun k vs s => vs = [.d (.int .i64 k)] ∧ s = σ ∧ zen (l.take k) b = none) ⟨rfl, rfl, rfl⟩ ?_
  rintro k vs s hk ⟨rfl, rfl, hno⟩
  by_cases hlt : k < l.length
  · have hd : decide ((k : Int) < (l.length : Int)) = true := by simp; omega
    have hx : l[k]? = some l[k] := by simp [hlt]
    have hgx := zQ (f := fun b => [D.slice (bcs b)]) hx
    obtain ⟨x, hxe⟩ : ∃ x, l[k] = x := ⟨_, rfl⟩
    rw [hxe] at hx hgx
    refine ziy (zcc hlen (zcc hd (zcc hb hgx))) ?_
    refine c_rtSame ?_
    cases he : (x == b)
    · refine ziy (wki k (by omega)) ?_
      exact zaG.next hlt ⟨rfl, rfl, look_next hx hno he⟩
    · rw [look_hit hx hno he] at hK
      refine ziy (wki k (by omega)) ?_
      refine zq hl ?_
      exact hK
  · have hd : decide ((k : Int) < (l.length : Int)) = false := by simp; omega
    rw [List.take_of_length_le (by omega)] at hno
    rw [hno] at hK
    refine ziy (zcc hlen (zcc hd hb)) ?_
    refine zq hl ?_
    exact hK
theorem gq71 {A P Q : Prop} (a : A) (h : Q) (e : A → Hd Q → P := by intro a h; (repeat' first | simp -dsimp only [↓zey, ↓zay, ↓zbs, ↓zez, ↓zeu, ↓zes, ↓zev, ↓zet, ↓zbx, ↓zbt, ↓zby, ↓zbu, ↓zew, ↓zbr, ↓zbz, ↓zbv, ↓zbA, ↓zbw, ↓zer, ↓zex, ↓zbp, ↓zbB, ↓zep, ↓zeo, ↓zeq, iN, bT, bF, eN, ↓zcv, ↓unC, ↓zU, ↓zI, ↓zJ, ↓zM, ↓zX, ↓zal, ↓zcX, ↓zai, ↓zaJ, ↓zW, ↓zg, ↓zn, ↓zbP, ↓zb, ↓zaf, ↓zD, ↓zaI, ↓zaQ, ↓zd, ↓zF, ↓zj, ↓zG, ↓zam, ↓zdc, ↓zdj, ↓zak, ↓zau, ↓zaL, ↓zaY, ↓zbh, ↓zo, ↓zaj, ↓zK, ↓zr, ↓zV, zdk, zbn, zbk, unA, zdu, bnd, zdG, zae, zO, zdW, dm, dm1, zR, zaF, zea, zdZ, zw, Q0, Q1, Q2, Q3, Q4, Q5, zY, zC, zt, zN, zE, Q6, Q7, Q8, Q9, Q10, Q11, Q12, Q13, Q14, Nat.reduceAdd, Q15, Int.reduceToNat, Q16, Q17, Q18, Q19, Q20, reduceIte, Q21, Q22, zA, rep, zZ, zeB, toD, zap, Q23, Q24, Q25, Q26, Q27, Q28, Nat.reduceLeDiff, Q29, Nat.reduceSub, Q30, Q31, Q32, sc, Q33, Q34, Q35, Q36, Q37, Q26, Q38, Q39, zpZ, zpW, zpT, zqa, zgd, zpX, zpU, zpY, zpV, zgc, zge, zqb, zqc, Bool.not_true, Bool.not_false, List.length_map, Bool.and_false, Bool.and_self, Bool.false_and, Bool.true_and, Option.isSome_none, Option.isSome_some, Option.map_none, Option.map_some, beq_self_eq_true, bne_self_eq_false, a] | with_reducible refine zqd ?_ | fail); exact h.go) : P := e a ⟨h⟩
theorem c_rtFromL {σ : List zf} {l : List (List UInt8)} (hl0 : l.length ≤ 1048576) (hb : ∀ b ∈ l, b.length ≤ 1073741824) {K : KT} (ks : List zf → List Nat) (hks : l.Nodup → ∀ T, ks (σ ++ rtO l :: T) = [σ.length]) (hks0 : ¬ l.Nodup → ∀ s, ks s = [])
    (hN : ¬ l.Nodup → K (.tup [.d .nilp, .d (.int .i64 5)]) σ) (hK : l.Nodup → K (.tup [.box σ.length 0, .d (.int .i64 0)]) (σ ++ [rtO l])) : zm Tryz.prog zka [.d (.slice (ziZ l))] σ K := by
  refine ztq zuT.is rfl ks fun hl _ => zuT.goes ?_
  have hlen : (ziZ l).length = l.length := List.length_map ..
  have hd : decide ((l.length : Int) > 1048576) = false := by simp; omega
  simp only [zvA, iN, bT, bF, eN]
  refine ziy (zcc hlen hd) ?_
  refine zhg l.length (fun k vs s => vs = [.d (.int .i64 k)] ∧ (∃ T, s = σ ++ .box [.own (σ.length + 1) (ziZ (l.take k))] :: .tok 1 k :: T) ∧ (l.take k).Nodup) (.tokB σ.length 0 [.exact []] [] 1 (by rw [zt]; rfl) rfl (by simp) (.refl _ _)) ⟨rfl, ⟨[], by rw [zE]; simp⟩, by simp⟩ ?_
  rintro k vs s hk ⟨rfl, ⟨T, rfl⟩, hnd⟩
  have hget : (σ ++ .box [.own (σ.length + 1) (ziZ (l.take k))] :: .tok 1 k :: T)[σ.length]? = some (.box [.own (σ.length + 1) (ziZ (l.take k))]) := by rw [zt]; rfl
  by_cases hlt : k < l.length
  · have hd : decide ((k : Int) < (l.length : Int)) = true := by simp; omega
    have hx : l[k]? = some l[k] := by simp [hlt]
    have hgx := zQ (f := fun b => [D.slice (bcs b)]) hx
    have hxb := hb _ (List.getElem_mem hlt)
    obtain ⟨x, hxe⟩ : ∃ x, l[k] = x := ⟨_, rfl⟩
    rw [hxe] at hx hgx hxb
    have hget2 : ∀ τ, (σ ++ .box [.own (σ.length + 1) (ziZ (l.take k))] :: .tok 1 k :: T ++ τ)[σ.length]? = some (.box [.own (σ.length + 1) (ziZ (l.take k))]) := fun τ => zx hget
    have htok : ∀ τ, (σ ++ .box [.own (σ.length + 1) (ziZ (l.take k))] :: .tok 1 k :: T ++ τ)[σ.length + 1]? = some (.tok 1 k) := fun τ => zx (by rw [zC]; rfl)
    have hset : ∀ X Y τ, ((σ ++ .box [.own (σ.length + 1) (ziZ (l.take k))] :: .tok 1 k :: T ++ τ).set (σ.length + 1) Y).set σ.length X = σ ++ X :: Y :: (T ++ τ) := fun X Y τ => by rw [List.append_assoc, zN, zE]; rfl
    have hget4 : ∀ Y τ, ((σ ++ .box [.own (σ.length + 1) (ziZ (l.take k))] :: .tok 1 k :: T ++ τ).set (σ.length + 1) Y)[σ.length]? = some (.box [.own (σ.length + 1) (ziZ (l.take k))]) := fun Y τ => by rw [List.getElem?_set_ne (by omega)]; exact hget2 τ
    obtain ⟨S, hS⟩ : ∃ S, σ ++ .box [.own (σ.length + 1) (ziZ (l.take k))] :: .tok 1 k :: T = S := ⟨_, rfl⟩
    have hSl : ∃ T, S = σ ++ T := ⟨_, hS.symm⟩
    rw [hS] at hget hget2 htok hset hget4 ⊢
    refine ziy (zcc hlen (zcc hd hgx)) ?_
    refine c_rtLookO hget (by rw [List.length_take]; omega) ?_
    by_cases hm : x ∈ l.take k
    · have hno : ¬ l.Nodup := fun h => by
        obtain ⟨i, hi, he⟩ := List.mem_take_iff_getElem.1 hm
        have := (List.getElem_inj h).1 (he.trans hxe.symm)
        omega
      rw [look_some hm]
      refine ziy (zcc hlen (zcc hd hgx)) ?_
      obtain ⟨T', rfl⟩ := hSl
      refine endsKW_of ?_
      unfold zoE ztR
      rw [hks0 hno]
      have ht' : (σ ++ T').take σ.length = σ := zkF _ _
      refine ⟨by simp, by rw [ht']; exact hl, by simp, by simp, ?_⟩
      rw [ht']
      simp only [getL, zrA]
      have hr : zdt (znr σ.length []) (zdF [AV.d D.nilp, AV.d (D.int .i64 5)]) = some (.tup [.d .nilp, .d (.int .i64 5)]) := rfl
      rw [hr]
      simpa using hN hno
    · have hno := zqD hm
      rw [hno]
      have b1 : ∀ e ∈ bcs x, e.length = 1 := zgS
      have bl : (bcs x).length = x.length := zeQ x
      have t1 : ∀ e ∈ ziZ (l.take k), e.length = 1 := zvS (f := fun b => [D.slice (bcs b)]) (fun _ => rfl) _
      have hlk : (ziZ (l.take k)).length = k := by rw [List.length_map, List.length_take]; omega
      refine gq71 (zcc hget (zcc hget2 (zcc htok (zcc hset (zcc hget4 (zcc hgx (zcc bl (zcc hlk (wki k (by omega)))))))))) ?_
      exact zaG.next hlt ⟨rfl, ⟨_, by rw [show ziZ (l.take k) ++ [[D.slice (bcs x)]] = ziZ (l.take (k + 1)) by rw [List.take_add_one, hx]; simp [ziZ]]⟩, zuv hx hnd hm⟩
  · have hd : decide ((k : Int) < (l.length : Int)) = false := by simp; omega
    rw [List.take_of_length_le (by omega)] at hnd hget ⊢
    refine ziy (zcc hlen hd) ?_
    refine ⟨_, .dataB σ.length 0 _ _ (ziZ l) hget rfl rfl (.refl _ _), ?_⟩
    rw [zE]
    refine zjl (σ' := σ) (os := [rtO l]) (τ := .tok 1 k :: T) rfl (hks hnd _) hl (by intro y hy; simp only [List.mem_cons, List.not_mem_nil, or_false] at hy; subst hy; exact rtO_low _ _) ?_ (hK hnd)
    exact .tup _ (by simp [ztP]; exact .box _ _ (by simp))
theorem c_rtFrom {σ : List zf} {l : List (List UInt8)} (hn : l.Nodup) (hl0 : l.length ≤ 1048576) (hb : ∀ b ∈ l, b.length ≤ 1073741824) {K : KT} (hK : K (.tup [.box σ.length 0, .d (.int .i64 0)]) (σ ++ [rtO l])) : zm Tryz.prog zka [.d (.slice (ziZ l))] σ K :=
  c_rtFromL hl0 hb (fun _ => [σ.length]) (fun _ _ => rfl) (fun h => absurd hn h) (fun h => absurd hn h) fun _ => hK
theorem c_rtFromDup {σ : List zf} {l : List (List UInt8)} (hn : ¬ l.Nodup) (hl0 : l.length ≤ 1048576) (hb : ∀ b ∈ l, b.length ≤ 1073741824) {K : KT} (hK : K (.tup [.d .nilp, .d (.int .i64 5)]) σ) : zm Tryz.prog zka [.d (.slice (ziZ l))] σ K :=
  c_rtFromL hl0 hb (fun _ => []) (fun h => absurd h hn) (fun _ _ => rfl) (fun _ => hK) fun h => absurd h hn
end Go.Proofs.YtpgahkdjkanblaaGreat
