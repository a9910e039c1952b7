/- Contract: the document's topics are read. -/
import Derived.Test.YtaocmalhjfakdaaGreatKt3
import Derived.Test.YtaocmalhjfakdaaGreatKs11
set_option linter.all false
set_option maxRecDepth 100000
set_option linter.unusedSimpArgs false
set_option linter.unusedVariables false
namespace Go.Proofs.YtaocmalhjfakdaaGreat
open Go.AW

structure UdJ (σ : List zc) (t : Nat) (L : List (Int × Int × Int)) (X : List zu) (s : Rd) (S : List zc) : Prop where
  rd : RrA S σ.length s
  pre : ∀ j, j < σ.length → S[j]? = σ[j]?
  top : ∃ g, S[σ.length + 1]? = some (.box (.rsl t g 4 0 X.length :: zbB L)) ∧ S[t]? = some (.row g 4 (zT (zaE X)))
  lt : σ.length + 1 < t
section

variable {σ S S' : List zc} {t j : Nat} {L : List (Int × Int × Int)} {X : List zu} {s s' : Rd}

theorem UdJ.next (h : UdJ σ t L X s S) (h1 : RrA S' σ.length s') (h2 : Rst S S' σ.length) : UdJ σ t L X s' S' := by
  obtain ⟨g, t1, t2⟩ := h.top
  have l := h.lt
  have l2 := zg t1
  exact ⟨h1, fun i hi => (h2.get i (by omega) (by omega)).trans (h.pre i hi), ⟨g, h2.at_ t1 (by omega), h2.at_ t2 (by omega)⟩, l⟩
theorem UdJ.app (h : UdJ σ t L X s S) (τ : List zc) : UdJ σ t L X s (S ++ τ) := h.next (h.rd.app τ) (.app _ _ _)
theorem UdJ.set (h : UdJ σ t L X s S) (h1 : σ.length + 1 < j) (h2 : j ≠ t) (Y : zc) : UdJ σ t L X s (S.set j Y) := by
  obtain ⟨g, t1, t2⟩ := h.top
  have k : ∀ i, i ≠ j → (S.set j Y)[i]? = S[i]? := fun i hi => List.getElem?_set_ne (Ne.symm hi)
  exact ⟨h.rd.keep (k _ (by omega)), fun i hi => (k _ (by omega)).trans (h.pre i hi), ⟨g, (k _ (by omega)).trans t1, (k _ (Ne.symm h2)).trans t2⟩, h.lt⟩
theorem UdJ.ans (h : UdJ σ t L X s S) {g : Nat} (hb : S[σ.length + 1]? = some (.box (.rsl t g 4 0 X.length :: zbB L))) (L' : List (Int × Int × Int)) : UdJ σ t L' X s (S.set (σ.length + 1) (.box (.rsl t g 4 0 X.length :: zbB L'))) := by
  obtain ⟨g', t1, t2⟩ := h.top
  rw [hb] at t1
  cases t1
  have l := h.lt
  have k : ∀ Y i, i ≠ σ.length + 1 → (S.set (σ.length + 1) Y)[i]? = S[i]? := fun Y i hi => List.getElem?_set_ne (Ne.symm hi)
  exact ⟨h.rd.keep (k _ _ (by omega)), fun i hi => (k _ _ (by omega)).trans (h.pre i hi), ⟨g, List.getElem?_set_self (zg hb), (k _ _ (by omega)).trans t2⟩, l⟩
end

theorem topD_le {s : Rd} : ∀ k, (topD' k s).X.length ≤ k
  | 0 => Nat.le_refl _
  | k + 1 => by
    have e1 : topD' (k + 1) s = zkn (topD' k s) := rfl
    have := topD_le (s := s) k
    rw [e1, zkn]
    split
    · simp; omega
    · omega
theorem zng (ok : Bool) (s : Rd) : ∀ k, (lastN' ok k s).l.length = k
  | 0 => rfl
  | k + 1 => by
    have e1 : lastN' ok (k + 1) s = zoK (lastN' ok k s) := rfl
    rw [e1, zoK]; simp [zng ok s k]
section

variable {σ : List zc} {K : KT}

def LastT (P : Program) (a c f : AV) (s : LO) (Z : ZT) : Prop :=
 zbP [f, (iN 0)] s fun v s O =>
 zaK v fun Q v => zaK v fun R v => bP .lss R (iN 8) s fun S s =>
 zl S (zn P zJ [a, (.d (.int .u64 9007199254740992))] s fun T s =>
 zaa (.int .i64) T s fun U s =>
 zy (zX [iN 0, iN 0, iN 0] [(0, 1, U)]) s fun V s =>
 cp [iN 0, iN 0, iN 0] 3 V s fun W s =>
 zn P zJ [a, (.d (.int .u64 1024))] s fun X s =>
 zaa (.int .i64) X s fun Y s =>
 zh 1 W s fun a0 s =>
 zh 0 a0 s fun b0 s =>
 zi 1 b0 Y s fun _ s =>
 zn P zJ [a, (.d (.int .u64 9007199254740992))] s fun d0 s =>
 zaa (.int .i64) d0 s fun e0 s =>
 zh 1 W s fun f0 s =>
 zh 1 f0 s fun g0 s =>
 zi 1 g0 e0 s fun _ s =>
 gT Q (zh 1 W s) s fun i0 s =>
 gTl Q 0 i0 s fun j0 s =>
 gT Q (zn P zje [j0] s) s fun l0 s =>
 anC Q l0 s fun m0 s =>
 gT m0 (zh 1 W s) s fun o0 s =>
 gTl m0 0 o0 s fun p0 s =>
 gT m0 (bP .eql p0 (iN 0) s) s fun q0 s =>
 gTm m0 q0 s fun r0 s =>
 gF r0 (zh 1 W s) s fun u0 s =>
 gFl r0 1 u0 s fun w0 s =>
 gF r0 (bP .eql w0 (iN 0) s) s fun y0 s =>
 gT m0 (orC r0 y0 s) s fun z0 s =>
 anC m0 z0 s fun A0 s =>
 gTl A0 0 W s fun B0 s =>
 gT A0 (bP .gtr B0 (iN 0) s) s fun C0 s =>
 gTm A0 C0 s fun D0 s =>
 gF D0 (zh 1 W s) s fun E0 s =>
 gF D0 (zk true 2 E0 s) s fun F0 s =>
 gF D0 (zy (zX [iN 0, iN 0] []) s) s fun G0 s =>
 gF D0 (zea .eql (.ints 2) F0 G0 s) s fun H0 s =>
 gT A0 (orC D0 H0 s) s fun I0 s =>
 anC A0 I0 s fun J0 s =>
 zk true 3 W s fun K0 s =>
 zbE c s fun L0 s =>
 zh 1 L0 s fun M0 s =>
 zC (some 8) 3 M0 R s fun N0 s =>
 zi 3 N0 K0 s fun _ s =>
 bP .add R (iN 1) s fun Q0 s =>
 O [J0, Q0] s) (unC .not Q s fun R0 s =>
 gFm R0 a s fun S0 s =>
 gF R0 (zn P zdt [S0] s) s fun T0 s =>
 gF R0 (bP .neq T0 (iN 0) s) s fun U0 s =>
 orC R0 U0 s fun V0 s =>
 zl V0 (z2 Z (.d .nilp) (iN 70) s) (z2 Z c (iN 0) s))
theorem c_LastT {t : Nat} {X : List zu} {s0 : Rd} {S0 : List zc} {ok0 : Bool} (hJ0 : UdJ σ t zbX.last X s0 S0)
    (hK0 : ¬ ((lastN' ok0 8 s0).ok = true ∧ (lastN' ok0 8 s0).s.e = 0 ∧ (lastN' ok0 8 s0).s.b = []) → ∀ S, σ.length ≤ S.length → (∀ j, j < σ.length → S[j]? = σ[j]?) → K (.tup [.d .nilp, .d (.int .i64 70)]) S)
    (hK1 : ((lastN' ok0 8 s0).ok = true ∧ (lastN' ok0 8 s0).s.e = 0 ∧ (lastN' ok0 8 s0).s.b = []) → ∀ S t g, zbT S (σ.length + 1) t g ⟨X, (lastN' ok0 8 s0).l⟩ → σ.length ≤ t → σ.length ≤ S.length → (∀ j, j < σ.length → S[j]? = σ[j]?) → K (.tup [.box (σ.length + 1) 0, .d (.int .i64 0)]) S) :
    LastT Tryz.prog (.box σ.length 0) (.box (σ.length + 1) 0) (.d (.bool ok0)) S0 (zli K) := by
  unfold LastT
  simp only [iN, bT, bF, eN]
  refine zF 8 (fun k vs S => vs = [.d (.bool (lastN' ok0 k s0).ok), .d (.int .i64 k)] ∧ UdJ σ t ((lastN' ok0 k s0).l ++ zdA (8 - k)) X (lastN' ok0 k s0).s S) ⟨rfl, hJ0⟩ ?_
  rintro k vs S hk ⟨rfl, hJ⟩
  obtain ⟨g, t1, t2⟩ := hJ.top
  have lt := hJ.lt
  have l1 := zg t1
  by_cases hlt : k < 8
  · have hd : decide ((k : Int) < 8) = true := by simp; omega
    have hstep : lastN' ok0 (k + 1) s0 = zoK (lastN' ok0 k s0) := rfl
    have hlen := zng ok0 s0 k
    obtain ⟨V, hV⟩ : ∃ V, lastN' ok0 k s0 = V := ⟨_, rfl⟩
    rw [hV] at hJ t1 hlen hstep ⊢
    have hvs : ∀ x e o, zax true 9007199254740992 V.s = x → zax true 1024 x.2 = e → zax true 9007199254740992 e.2 = o → zoK V = ⟨V.ok && zla ((x.1 : Int), (e.1 : Int), (o.1 : Int)), V.l ++ [((x.1 : Int), (e.1 : Int), (o.1 : Int))], o.2⟩ := by
      rintro _ _ _ rfl rfl rfl; rfl
    refine zt hd ?_
    refine zhO (m := 9007199254740992) (by omega) hJ.rd fun S1 hS1 hR1 => ?_
    have hJ1 := hJ.next hS1 hR1
    have hxl := zaX true 9007199254740992 V.s
    obtain ⟨x, hx⟩ : ∃ x, zax true 9007199254740992 V.s = x := ⟨_, rfl⟩
    rw [hx] at hJ1 hxl ⊢
    have hwx : IntKind.i64.wrap ((x.1 : Nat) : Int) = (x.1 : Int) := zam (by omega) (by omega)
    refine zt hwx ?_
    have hJ2 := hJ1.app [.box [.d (.int .i64 x.1), .d (.int .i64 0), .d (.int .i64 0)]]
    have c2 : (S1 ++ [zc.box [.d (.int .i64 x.1), .d (.int .i64 0), .d (.int .i64 0)]])[S1.length]? = some (.box [.d (.int .i64 x.1), .d (.int .i64 0), .d (.int .i64 0)]) := by rw [zj]; rfl
    have lid := hJ1.rd.lt
    have hl1 := hR1.len
    have lt1 : t < S1.length := by
      obtain ⟨g', _, q⟩ := hJ1.top
      exact zg q
    refine zhO (m := 1024) (by omega) hJ2.rd fun S3 hS3 hR3 => ?_
    have hJ3 := hJ2.next hS3 hR3
    have hel := zaX true 1024 x.2
    obtain ⟨e, he⟩ : ∃ e, zax true 1024 x.2 = e := ⟨_, rfl⟩
    rw [he] at hJ3 hel ⊢
    have hwe : IntKind.i64.wrap ((e.1 : Nat) : Int) = (e.1 : Int) := zam (by omega) (by omega)
    have c3 := hR3.at_ c2 (by omega)
    refine zt (zb hwe c3) ?_
    have hJ4 := hJ3.set (j := S1.length) (by omega) (by omega) (.box [.d (.int .i64 x.1), .d (.int .i64 e.1), .d (.int .i64 0)])
    have c4 : (S3.set S1.length (.box [.d (.int .i64 x.1), .d (.int .i64 e.1), .d (.int .i64 0)]))[S1.length]? = _ := List.getElem?_set_self (zg c3)
    refine zhO (m := 9007199254740992) (by omega) hJ4.rd fun S5 hS5 hR5 => ?_
    have hJ5 := hJ4.next hS5 hR5
    have hol := zaX true 9007199254740992 e.2
    have hvs := hvs x e (zax true 9007199254740992 e.2) hx he rfl
    obtain ⟨o, ho⟩ : ∃ o, zax true 9007199254740992 e.2 = o := ⟨_, rfl⟩
    rw [ho] at hJ5 hol hvs ⊢
    have hwo : IntKind.i64.wrap ((o.1 : Nat) : Int) = (o.1 : Int) := zam (by omega) (by omega)
    have c5 := hR5.at_ c4 (by omega)
    have l5 := zg c5
    have hJ6 := hJ5.set (j := S1.length) (by omega) (by omega) (.box [.d (.int .i64 x.1), .d (.int .i64 e.1), .d (.int .i64 o.1)])
    obtain ⟨g6, b6, r6⟩ := hJ6.top
    have c6 : ∀ Y, (S5.set S1.length Y)[S1.length]? = some Y := fun Y => List.getElem?_set_self l5
    have hzl : (V.l ++ zdA (8 - k)).length = 8 := by simp [zdA, hlen]; omega
    have hlc := zeo (V.l ++ zdA (8 - k))
    rw [hzl] at hlc
    have hset : (V.l ++ zdA (8 - k)).set k ((x.1 : Int), (e.1 : Int), (o.1 : Int)) = V.l ++ [((x.1 : Int), (e.1 : Int), (o.1 : Int))] ++ zdA (8 - (k + 1)) := by
      rw [List.set_append_right _ _ (by omega), hlen, Nat.sub_self, show 8 - k = (8 - (k + 1)) + 1 by omega, zdA, List.replicate_succ, List.set_cons_zero]
      simp [zdA]
    have hcs : ∀ Y : AV, List.take (1 + k * 3) (Y :: zbB (V.l ++ zdA (8 - k))) ++ .d (.int .i64 (x.1 : Int)) :: .d (.int .i64 (e.1 : Int)) :: .d (.int .i64 (o.1 : Int)) :: List.drop (1 + (k * 3 + 3)) (Y :: zbB (V.l ++ zdA (8 - k))) = Y :: zbB (V.l ++ [((x.1 : Int), (e.1 : Int), (o.1 : Int))] ++ zdA (8 - (k + 1))) := fun Y => by
      have := ziy (l := V.l ++ zdA (8 - k)) (k := k) ((x.1 : Int), (e.1 : Int), (o.1 : Int)) (by omega)
      rw [Nat.add_comm 1 (k * 3 + 3), Nat.add_comm 1 (k * 3), List.take_succ_cons, List.drop_succ_cons, List.cons_append, this, hset]
    have hie : zcl [AV.d (.int .i64 (e.1 : Int)), AV.d (.int .i64 (o.1 : Int))] [AV.d (.int .i64 0), AV.d (.int .i64 0)] = some (decide (e.1 = 0 ∧ o.1 = 0)) := by
      by_cases h1 : e.1 = 0 <;> by_cases h2 : o.1 = 0 <;> simp [zcl, h1, h2]
    have hans := hJ6.ans b6 (V.l ++ [((x.1 : Int), (e.1 : Int), (o.1 : Int))] ++ zdA (8 - (k + 1)))
    have last : ∀ B S', S' = (S5.set S1.length (.box [.d (.int .i64 x.1), .d (.int .i64 e.1), .d (.int .i64 o.1)])).set (σ.length + 1) (.box (.rsl t g6 4 0 X.length :: zbB (V.l ++ [((x.1 : Int), (e.1 : Int), (o.1 : Int))] ++ zdA (8 - (k + 1))))) → (V.ok && zla ((x.1 : Int), (e.1 : Int), (o.1 : Int))) = B → zbC 8 (fun k vs S => vs = [.d (.bool (lastN' ok0 k s0).ok), .d (.int .i64 k)] ∧ UdJ σ t ((lastN' ok0 k s0).l ++ zdA (8 - k)) X (lastN' ok0 k s0).s S) k [.d (.bool B), .d (.int .i64 ((k + 1 : Nat) : Int))] S' := fun B S' hS' hB => by
      refine zbC.next hlt ⟨by rw [hstep, hvs, hB], ?_⟩
      rw [hstep, hvs, hS']; exact hans
    have hsp : V.l ++ [((x.1 : Int), (e.1 : Int), (o.1 : Int))] ++ zdA (8 - (k + 1)) = V.l ++ ((x.1 : Int), (e.1 : Int), (o.1 : Int)) :: zdA (8 - (k + 1)) := by simp
    rw [hsp] at last
    cases hok : V.ok
    · refine zt (zb c5 (zb hwo (zb c6 (zb b6 (zb hok (zb hlc (zb hcs (wkc k (by omega))))))))) ?_
      exact last _ _ rfl (by rw [hok]; rfl)
    · refine zt (zb c5 (zb hwo (zb c6 hok))) ?_
      refine c_told ?_
      cases htd : zdb e.1
      · refine zt (zb c5 (zb hwo (zb c6 (zb b6 (zb htd (zb hlc (zb hcs (wkc k (by omega))))))))) ?_
        exact last _ _ rfl (by simp [hok, zla, htd])
      · cases ke : ((e.1 : Int) == 0)
        · cases ko : ((o.1 : Int) == 0)
          · refine zt (zb c5 (zb hwo (zb c6 (zb b6 (zb htd (zb ke (zb ko (zb hlc (zb hcs (wkc k (by omega))))))))))) ?_
            refine last _ _ rfl ?_
            simp at ke ko
            rw [hok, Bool.true_and, zla]
            simp only [Int.toNat_natCast, htd, Bool.true_and]
            simp [ke, ko]
          · cases kt : decide ((x.1 : Int) > 0)
            · have hdz : decide (e.1 = 0 ∧ o.1 = 0) = false := by simp at ke ⊢; omega
              refine zt (zb c5 (zb hwo (zb c6 (zb b6 (zb htd (zb ke (zb ko (zb kt (zb hie (zb hdz (zb hlc (zb hcs (wkc k (by omega)))))))))))))) ?_
              refine last _ _ rfl ?_
              simp at ke ko kt
              rw [hok, Bool.true_and, zla]
              simp only [Int.toNat_natCast, htd, Bool.true_and]
              simp [ke, ko, kt]
            · refine zt (zb c5 (zb hwo (zb c6 (zb b6 (zb htd (zb ke (zb ko (zb kt (zb hlc (zb hcs (wkc k (by omega)))))))))))) ?_
              refine last _ _ rfl ?_
              simp at ke ko kt
              rw [hok, Bool.true_and, zla]
              simp only [Int.toNat_natCast, htd, Bool.true_and]
              simp [ke, ko, kt]
        · cases kt : decide ((x.1 : Int) > 0)
          · cases hdz : decide (e.1 = 0 ∧ o.1 = 0)
            · refine zt (zb c5 (zb hwo (zb c6 (zb b6 (zb htd (zb ke (zb kt (zb hie (zb hdz (zb hlc (zb hcs (wkc k (by omega))))))))))))) ?_
              refine last _ _ rfl ?_
              simp at ke kt hdz
              rw [hok, Bool.true_and, zla]
              simp only [Int.toNat_natCast, htd, Bool.true_and]
              simp [ke, kt, hdz]
            · refine zt (zb c5 (zb hwo (zb c6 (zb b6 (zb htd (zb ke (zb kt (zb hie (zb hdz (zb hlc (zb hcs (wkc k (by omega))))))))))))) ?_
              refine last _ _ rfl ?_
              simp at ke kt hdz
              rw [hok, Bool.true_and, zla]
              simp only [Int.toNat_natCast, htd, Bool.true_and]
              simp [ke, kt, hdz]
          · refine zt (zb c5 (zb hwo (zb c6 (zb b6 (zb htd (zb ke (zb kt (zb hlc (zb hcs (wkc k (by omega))))))))))) ?_
            refine last _ _ rfl ?_
            simp at ke kt
            rw [hok, Bool.true_and, zla]
            simp only [Int.toNat_natCast, htd, Bool.true_and]
            simp [ke, kt]
  · have hd : decide ((k : Int) < 8) = false := by simp; omega
    have hk8 : k = 8 := by omega
    subst hk8
    rw [show 8 - 8 = 0 from rfl, show zdA 0 = [] from rfl, List.append_nil] at hJ t1
    have h8 := zng ok0 s0 8
    obtain ⟨⟨c, hc1, hc2⟩, hc3⟩ := hJ.rd
    obtain ⟨V, hV⟩ : ∃ V, lastN' ok0 8 s0 = V := ⟨_, rfl⟩
    rw [hV] at hJ t1 hK0 hK1 h8 hc1 hc2 ⊢
    cases hok : V.ok
    · refine zt (zb hd hok) ?_
      exact zaO (hK0 (fun h => by rw [hok] at h; cases h.1) S (by omega) hJ.pre)
    · refine zt (zb hd hok) ?_
      refine c_rrDone hc1 hc2 ?_
      by_cases hp : V.s.e = 0 ∧ V.s.b = []
      · rw [if_neg (by rw [hp.2]; simp), hp.1]
        refine zt (show ((0 : Int) != 0) = false from rfl) ?_
        exact zaO (hK1 ⟨hok, hp⟩ S t g ⟨t1, t2, h8⟩ (by omega) (by omega) hJ.pre)
      · have hne : ((if V.s.e = 0 ∧ 0 < V.s.b.length then (12 : Int) else V.s.e) != 0) = true := by
          split
          · rfl
          · rename_i h
            have : V.s.e ≠ 0 := fun h0 => hp ⟨h0, List.length_eq_zero_iff.1 (by omega)⟩
            simpa using this
        refine zt hne ?_
        exact zaO (hK0 (fun h => hp h.2) S (by omega) hJ.pre)
theorem gq40 {A P Q : Prop} (a : A) (h : Q) (e : A → Hd Q → P := by intro a h; (repeat' first | simp -dsimp only [↓zhB, ↓zbf, ↓zcv, ↓zhC, ↓zhx, ↓zhv, ↓zhy, ↓zhw, ↓zcA, ↓zcw, ↓zcB, ↓zcx, ↓zhz, ↓zcu, ↓zcC, ↓zcy, ↓zcD, ↓zcz, ↓zhu, ↓zhA, ↓zct, ↓zcE, ↓zhs, ↓zhr, ↓zht, iN, bT, bF, eN, ↓zea, ↓unC, ↓zad, ↓zN, ↓zO, ↓zU, ↓zaw, ↓zbe, ↓zdk, ↓zaa, ↓zcX, ↓zai, ↓zk, ↓zi, ↓zbE, ↓zh, ↓zar, ↓zC, ↓zbb, ↓zbp, ↓ze, ↓zy, ↓zq, ↓zr, ↓zaA, ↓zeC, ↓zeS, ↓zaI, ↓zaT, ↓zbd, ↓zbF, ↓zbU, ↓zx, ↓zav, ↓zL, ↓zA, ↓zau, zeH, zcn, zcf, unA, zeV, bnd, zfP, zah, zX, zft, dm, dm1, zp, zaG, zgx, zgw, zS, Q0, Q1, Q2, Q3, Q4, Q5, zap, zE, zj, zat, zP, Q6, Q7, Q8, Q9, Q10, Q11, Q12, Q13, Q14, Nat.reduceAdd, Q15, Int.reduceToNat, Q16, Q17, Q18, Q19, Q20, reduceIte, Q21, Q22, zo, rep, zab, zgT, toD, zao, Q23, Q24, Q25, Q26, Q27, Q28, Nat.reduceLeDiff, Q29, Nat.reduceSub, Q30, Q31, Q32, sc, Q33, Q34, Q35, Q36, Q37, Q26, Q38, Q39, n0gt, n1gt, n2gt, n0eq, zjQ, n1eq, n2eq, n0ne, n1ne, zjP, zjR, i0ne, i0eq, Bool.not_true, Bool.not_false, List.length_map, Bool.and_false, Bool.and_self, Bool.false_and, Bool.not_false, Bool.not_true, Bool.true_and, Int.toNat_natCast, Int.toNat_zero, List.drop_zero, List.length_map, List.length_nil, List.nil_append, List.take_length, Nat.sub_zero, Nat.zero_add, Option.isSome_none, Option.isSome_some, Option.map_none, Option.map_some, zdx, zbM, beq_self_eq_true, bne_self_eq_false, zlx, zft, a] | with_reducible refine andA ?_ | fail); exact h.go) : P := e a ⟨h⟩
theorem c_rParse {b : List UInt8} (hb : b.length ≤ 1073741824) (hK0 : ¬ DOk b → ∀ S, σ.length ≤ S.length → (∀ j, j < σ.length → S[j]? = σ[j]?) → K (.tup [.d .nilp, .d (.int .i64 70)]) S)
    (hK1 : DOk b → ∀ S id t g, zbT S id t g (docF b) → σ.length ≤ id → σ.length ≤ t → σ.length ≤ S.length → (∀ j, j < σ.length → S[j]? = σ[j]?) → K (.tup [.box id 0, .d (.int .i64 0)]) S) : zn Tryz.prog zjL [.d (.slice (bcs b))] σ K := by
  refine zaj zmc.is rfl fun hl _ => zmc.goes ?_
  simp only [zmi, iN, bT, bF, eN, zl2]
  refine zby ?_
  refine c_rrRead ?_
  refine zby ?_
  have hR0 : RrA (σ ++ [rrO (.d (.slice (bcs b))) 0, zc.box (.exact [] :: zbB zbX.last)]) σ.length ⟨b, 0⟩ := ⟨⟨.d (.slice (bcs b)), by rw [zj]; rfl, .inl rfl, fun h => absurd rfl h⟩, hb⟩
  have e1 : (σ ++ [rrO (.d (.slice (bcs b))) 0]).length = σ.length + 1 := by simp
  rw [e1]
  refine zhO (m := 8) (by omega) hR0 fun S1 hS1 hR1 => ?_
  have hnl := zaX true 8 ⟨b, 0⟩
  have hTdef : zpn b = topD' (zax true 8 ⟨b, 0⟩).1 (zax true 8 ⟨b, 0⟩).2 := rfl
  obtain ⟨n, hn⟩ : ∃ n, zax true 8 ⟨b, 0⟩ = n := ⟨_, rfl⟩
  rw [hn] at hS1 hnl hTdef ⊢
  have b1 : S1[σ.length + 1]? = some (.box (.exact [] :: zbB zbX.last)) := hR1.at_ (by rw [zE]; rfl) (by omega)
  have hpre : ∀ j, j < σ.length → S1[j]? = σ[j]? := fun j hj => (hR1.get j (by omega) (by simp; omega)).trans (List.getElem?_append_left hj)
  have l1 := zg b1
  obtain ⟨t, ht⟩ : ∃ t, S1.length = t := ⟨_, rfl⟩
  have hw : ∀ vs, zle vs S1 vs (S1.set (σ.length + 1) (.box (.rsl t 0 4 0 0 :: zbB zbX.last)) ++ [.row 0 4 []]) := fun vs => by
    rw [← ht]; exact .rowB (σ.length + 1) 0 _ 4 b1 rfl (by omega) (.refl _ _)
  have hJ0 : UdJ σ t zbX.last [] n.2 (S1.set (σ.length + 1) (.box (.rsl t 0 4 0 0 :: zbB zbX.last)) ++ [.row 0 4 []]) := by
    refine ⟨(hS1.set (by omega) _).app _, fun j hj => ?_, ⟨0, zf (List.getElem?_set_self l1), ?_⟩, by omega⟩
    · rw [List.getElem?_append_left (by simp; omega), List.getElem?_set_ne (by omega)]; exact hpre j hj
    · rw [List.getElem?_append_right (by simp; omega)]; simp [ht]
  refine zby ?_
  have hLdef : docL b = lastN' (zpn b).ok 8 (zpn b).s := rfl
  refine zcc n.1 (fun k vs S => vs = [.d (.bool (topD' k n.2).ok), .d (.str (topD' k n.2).last), .d (.int .u64 k)] ∧ UdJ σ t zbX.last (topD' k n.2).X (topD' k n.2).s S) (hw _) ⟨rfl, hJ0⟩ ?_
  clear hJ0 hw b1 hpre l1 hS1 hR1 hR0
  rintro k vs S hk ⟨rfl, hJ⟩
  obtain ⟨c, hc⟩ := hJ.rd.cell
  have hXl := topD_le (s := n.2) k
  have hstep : topD' (k + 1) n.2 = zkn (topD' k n.2) := rfl
  have hstuck : ¬ (topD' k n.2).s.e = 0 → topD' n.1 n.2 = topD' k n.2 := fun h => zji (p := fun d : UDt => d.s.e = 0) (fun d hd => by unfold zkn; rw [if_neg hd]) hk h
  have hend : k = n.1 → topD' n.1 n.2 = topD' k n.2 := fun h => by rw [h]
  rw [← hTdef] at hstuck hend
  have lt := hJ.lt
  obtain ⟨U, hU⟩ : ∃ U, topD' k n.2 = U := ⟨_, rfl⟩
  rw [hU] at hJ hc hXl hstep hstuck hend ⊢
  have fin : zpn b = U → LastT Tryz.prog (.box σ.length 0) (.box (σ.length + 1) 0) (.d (.bool U.ok)) S (zli K) := fun h => by
    rw [h] at hLdef
    refine c_LastT hJ (fun hn => hK0 fun hd => hn ?_) fun hp S' t' g' hT => hK1 ?_ S' _ t' g' ?_ (by omega)
    · unfold DOk at hd; rw [hLdef] at hd; exact hd
    · unfold DOk; rw [hLdef]; exact hp
    · unfold docF; rw [h, hLdef]; exact hT
  by_cases hlt : k < n.1
  · have hd : decide ((k : Int) < (n.1 : Int)) = true := by simp; omega
    cases h0 : (U.s.e == 0)
    · refine zt (zb hd (zb hc h0)) ?_
      exact fin (hstuck (by simpa using h0))
    · have h0' : U.s.e = 0 := by simpa using h0
      have hus : ∀ x, zdz U.s = x → zkn U = ⟨U.ok && x.ok && Op.bytesLess U.last x.x.name, x.x.name, U.X ++ [x.x], x.s⟩ := by
        rintro _ rfl
        unfold zkn; rw [if_pos h0']
      refine zt (zb hd (zb hc h0)) ?_
      refine c_rTopicD hJ.rd fun S2 hS2 hR2 => ?_
      have hJ2 := hJ.next hS2 hR2
      have hus := hus _ rfl
      obtain ⟨x, hx⟩ : ∃ x, zdz U.s = x := ⟨_, rfl⟩
      rw [hx] at hJ2 hus ⊢
      have hid2 := hJ2.rd.lt
      have hJ3 := hJ2.app [.box [.d (.str x.x.name), .d (.int .i64 x.x.base), .d (.slice (zK x.x.recs)), .d (.slice (zW x.x.groups))]]
      have u3 : ∀ τ, (S2 ++ [zc.box [.d (.str x.x.name), .d (.int .i64 x.x.base), .d (.slice (zK x.x.recs)), .d (.slice (zW x.x.groups))]] ++ τ)[S2.length]? = some (.box [.d (.str x.x.name), .d (.int .i64 x.x.base), .d (.slice (zK x.x.recs)), .d (.slice (zW x.x.groups))]) := fun τ => zf (by rw [zj]; rfl)
      have u30 := u3 []
      rw [List.append_nil] at u30
      obtain ⟨S3, hS3⟩ : ∃ S3, S2 ++ [zc.box [.d (.str x.x.name), .d (.int .i64 x.x.base), .d (.slice (zK x.x.recs)), .d (.slice (zW x.x.groups))]] = S3 := ⟨_, rfl⟩
      obtain ⟨g3, b3, r3⟩ := hJ3.top
      rw [hS3] at hJ3 u3 u30 b3 r3
      have hl2 : t < S2.length := by
        obtain ⟨g', _, q⟩ := hJ2.top
        exact zg q
      have hl3 : S3.length = S2.length + 1 := by rw [← hS3]; simp
      have v1 : ∀ τ, (S3 ++ τ)[t]? = _ := fun τ => zf r3
      have v2 : ∀ τ, (S3 ++ τ)[σ.length + 1]? = _ := fun τ => zf b3
      have v3 : ∀ a τ, (S3 ++ a :: τ)[S3.length]? = some a := fun a τ => zj ..
      have v4 : ∀ Y τ, (S3 ++ τ).set t Y = S3.set t Y ++ τ := fun Y τ => List.set_append_left _ _ (by omega)
      have v5 : ∀ Y τ, (S3.set t Y ++ τ)[σ.length + 1]? = _ := fun Y τ => zf ((List.getElem?_set_ne (by omega)).trans b3)
      have v6 : ∀ Y Z τ, (S3.set t Y ++ τ).set (σ.length + 1) Z = (S3.set t Y).set (σ.length + 1) Z ++ τ := fun Y Z τ => List.set_append_left _ _ (by simp; omega)
      have f4 := zbL U.X
      have hfl : (zaE U.X).flatten.length = U.X.length * 4 := by
        have := zdp f4
        rw [zT, List.length_map, List.length_map] at this; exact this
      have hwk := wku k (by omega)
      have hfa : (zaE U.X).flatten.map AV.d ++ [.d (.str x.x.name), .d (.int .i64 x.x.base), .d (.slice (zK x.x.recs)), .d (.slice (zW x.x.groups))] = zT (zaE (U.X ++ [x.x])) := by simp [zT, zaE, topD]
      have last : ∀ B g' S', zkn U = ⟨B, x.x.name, U.X ++ [x.x], x.s⟩ → S' = (S3.set t (.row g' 4 (zT (zaE (U.X ++ [x.x]))))).set (σ.length + 1) (.box (.rsl t g' 4 0 (U.X.length + 1) :: zbB zbX.last)) ++ [.row 0 4 [.d (.str x.x.name), .d (.int .i64 x.x.base), .d (.slice (zK x.x.recs)), .d (.slice (zW x.x.groups))]] → zbC n.1 (fun k vs S => vs = [.d (.bool (topD' k n.2).ok), .d (.str (topD' k n.2).last), .d (.int .u64 k)] ∧ UdJ σ t zbX.last (topD' k n.2).X (topD' k n.2).s S) k [.d (.bool B), .d (.str x.x.name), .d (.int .u64 ((k + 1 : Nat) : Int))] S' := fun B g' S' hB hS' => by
        refine zbC.next hlt ⟨by rw [hstep, hB], ?_⟩
        rw [hstep, hB, hS']
        have kp : ∀ Y Z i, i ≠ t → i ≠ σ.length + 1 → ((S3.set t Y).set (σ.length + 1) Z)[i]? = S3[i]? := fun Y Z i h1 h2 => by rw [List.getElem?_set_ne (Ne.symm h2), List.getElem?_set_ne (Ne.symm h1)]
        refine UdJ.app ⟨hJ3.rd.keep (kp _ _ _ (by omega) (by omega)), fun i hi => (kp _ _ _ (by omega) (by omega)).trans (hJ3.pre i hi), ⟨g', ?_, ?_⟩, lt⟩ _
        · rw [List.getElem?_set_self (by simp; omega)]; simp
        · rw [List.getElem?_set_ne (by omega), List.getElem?_set_self (by omega)]
      cases hok : U.ok
      · rw [hok] at hus
        simp only [Bool.false_and] at hus
        refine gq40 (zb hok (zb hS3 (zb u30 (zb b3 (zb u3 (zb v1 (zb v2 (zb v3 (zb v4 (zb v5 (zb v6 (zb hfl hwk)))))))))))) ?_
        exact last _ (g3 + 1) _ hus (by rw [← hfa])
      · rw [hok] at hus
        cases hxo : x.ok
        · rw [hxo] at hus
          simp only [Bool.true_and, Bool.false_and] at hus
          refine gq40 (zb hok (zb hxo (zb hS3 (zb u30 (zb b3 (zb u3 (zb v1 (zb v2 (zb v3 (zb v4 (zb v5 (zb v6 (zb hfl hwk))))))))))))) ?_
          exact last _ (g3 + 1) _ hus (by rw [← hfa])
        · have c3 := zmD x.x.name U.last
          cases hbl : Op.bytesLess U.last x.x.name
          · rw [hxo, hbl] at hus
            rw [hbl] at c3
            simp only [Bool.true_and, Bool.false_and] at hus
            refine gq40 (zb hok (zb hxo (zb hbl (zb c3 (zb hS3 (zb u30 (zb b3 (zb u3 (zb v1 (zb v2 (zb v3 (zb v4 (zb v5 (zb v6 (zb hfl hwk))))))))))))))) ?_
            exact last _ (g3 + 1) _ hus (by rw [← hfa])
          · rw [hxo, hbl] at hus
            rw [hbl] at c3
            simp only [Bool.true_and] at hus
            refine gq40 (zb hok (zb hxo (zb hbl (zb c3 (zb hS3 (zb u30 (zb b3 (zb u3 (zb v1 (zb v2 (zb v3 (zb v4 (zb v5 (zb v6 (zb hfl hwk))))))))))))))) ?_
            exact last _ (g3 + 1) _ hus (by rw [← hfa])
  · have hd : decide ((k : Int) < (n.1 : Int)) = false := by simp; omega
    refine zt hd ?_
    exact fin (hend (by omega))
end

end Go.Proofs.YtaocmalhjfakdaaGreat
