/- Contract: topics are read. -/
import Derived.Test.YtaocmalhjfakdaaGreatKs10
set_option linter.all false
set_option maxRecDepth 100000
set_option linter.unusedSimpArgs false
set_option linter.unusedVariables false
namespace Go.Proofs.YtaocmalhjfakdaaGreat
open Go.AW

structure PsJ (σ : List zc) (L : List (Int × Int × Int)) (T : List zu) (s : Rd) (S : List zc) : Prop where
  rd : RdA S (σ.length + 1) s
  pre : ∀ j, j < σ.length → S[j]? = σ[j]?
  c : S[σ.length + 2]? = some (.box [.box (σ.length + 1) 0])
  bx : S[σ.length + 4]? = some (.box (.map (σ.length + 3) :: zbB L))
  mp : ∃ es, S[σ.length + 3]? = some (.map es) ∧ zeZ es ∧ (s.e = 0 → ∃ X : List zeA, es = topM X ∧ X.map zeA.x = T ∧ (∀ p ∈ X, TopAt S p ∧ σ.length + 4 < p.id ∧ σ.length + 4 < p.g ∧ σ.length + 4 < p.t) ∧
    ∀ (i j : Nat) (p q : zeA), X[i]? = some p → X[j]? = some q → i ≠ j → p.id ≠ q.id ∧ p.g ≠ q.g ∧ p.t ≠ q.t)
section

variable {σ S S' : List zc} {L L' : List (Int × Int × Int)} {T : List zu} {s s' : Rd}

theorem PsJ.next (h : PsJ σ L T s S) (h1 : RdA S' (σ.length + 1) s') (h2 : Rst S S' (σ.length + 1)) (h3 : s'.e = 0 → s.e = 0) : PsJ σ L T s' S' := by
  obtain ⟨es, m1, m2, m3⟩ := h.mp
  have l := zg h.bx
  refine ⟨h1, fun j hj => (h2.get j (by omega) (by omega)).trans (h.pre j hj), h2.at_ h.c (by omega), h2.at_ h.bx (by omega), es, h2.at_ m1 (by omega), m2, fun he => ?_⟩
  obtain ⟨X, x1, x2, x3, x4⟩ := m3 (h3 he)
  refine ⟨X, x1, x2, fun p hp => ?_, x4⟩
  obtain ⟨y1, y2, y3, y4⟩ := x3 p hp
  exact ⟨⟨h2.at_ y1.b (by omega), h2.at_ y1.g (by omega), h2.at_ y1.t (by omega)⟩, y2, y3, y4⟩
theorem PsJ.ans (h : PsJ σ L T s S) (L' : List (Int × Int × Int)) : PsJ σ L' T s (S.set (σ.length + 4) (.box (.map (σ.length + 3) :: zbB L'))) := by
  obtain ⟨es, m1, m2, m3⟩ := h.mp
  have l := zg h.bx
  have k : ∀ X j, j ≠ σ.length + 4 → (S.set (σ.length + 4) X)[j]? = S[j]? := fun X j h1 => List.getElem?_set_ne (Ne.symm h1)
  refine ⟨h.rd.keep (k _ _ (by omega)), fun j hj => (k _ _ (by omega)).trans (h.pre j hj), (k _ _ (by omega)).trans h.c, List.getElem?_set_self l, es, (k _ _ (by omega)).trans m1, m2, fun he => ?_⟩
  obtain ⟨X, x1, x2, x3, x4⟩ := m3 he
  refine ⟨X, x1, x2, fun p hp => ?_, x4⟩
  obtain ⟨y1, y2, y3, y4⟩ := x3 p hp
  exact ⟨⟨(k _ _ (by omega)).trans y1.b, (k _ _ (by omega)).trans y1.g, (k _ _ (by omega)).trans y1.t⟩, y2, y3, y4⟩
end

theorem lastP_e {s : Rd} (h : (zbh s).2.e = 0) : s.e = 0 := (lastP_ok h).1
theorem topW_I {x : zu} (h : TopW x) (hn : x.name.length ≤ 64) : TopI x := ⟨h.base, h.next, h.recs, h.groups, hn, h.each, fun a ha => by
  obtain ⟨_, h1, h2, h3⟩ := h.gs a ha
  have := h.next
  exact ⟨h1, h2, by omega⟩⟩
theorem told_le {e : Nat} (h : zdb e = true) : e ≤ 72 := by simp [zdb] at h; omega
theorem topsW_I {T : zak} (h : TopsW T) : zed T ∧ LastI T.last := ⟨⟨h.len, fun x hx => topW_I (h.each x hx).2.2 (h.each x hx).2.1⟩, fun a ha => by
  have := h.ans a ha
  have h1 := told_le this.e.2
  exact ⟨this.t, ⟨this.e.1, by have := this.e.1; omega⟩, this.o⟩⟩
theorem rel_self {X : List zeA} {T : List zu} (h : X.map zeA.x = T) (hs : zcV zu.name T) (hg : ∀ x ∈ T, zcV Prod.fst x.groups) : Rel X T := by
  subst h
  have hn : X.map zeA.name = (X.map zeA.x).map zu.name := by rw [List.map_map]; rfl
  have tr : ∀ p ∈ X, TR p.x p.x := fun p hp => ⟨rfl, rfl, rfl, rfl, hg _ (List.mem_map_of_mem hp), (hg _ (List.mem_map_of_mem hp)).nodup, fun a => Iff.rfl⟩
  exact ⟨by simp, hs, by rw [hn]; exact hs.nodup, fun p hp => ⟨p.x, List.mem_map_of_mem hp, tr p hp⟩, fun y hy => by
    obtain ⟨p, hp, rfl⟩ := List.mem_map.1 hy
    exact ⟨p, hp, tr p hp⟩⟩
def POk (b : List UInt8) : Prop := (ziq b).s.e = 0 ∧ (ziq b).s.b = []
def zdA (n : Nat) : List (Int × Int × Int) := List.replicate n (0, 0, 0)
section

variable {σ : List zc} {K : KT}

theorem gq39 {A P Q : Prop} (a : A) (h : Q) (e : A → Hd Q → P := by intro a h; (repeat' first | simp -dsimp only [↓zhB, ↓zbf, ↓zcv, ↓zhC, ↓zhx, ↓zhv, ↓zhy, ↓zhw, ↓zcA, ↓zcw, ↓zcB, ↓zcx, ↓zhz, ↓zcu, ↓zcC, ↓zcy, ↓zcD, ↓zcz, ↓zhu, ↓zhA, ↓zct, ↓zcE, ↓zhs, ↓zhr, ↓zht, iN, bT, bF, eN, ↓zea, ↓unC, ↓zad, ↓zN, ↓zO, ↓zU, ↓zaw, ↓zbe, ↓zdk, ↓zaa, ↓zcX, ↓zai, ↓zk, ↓zi, ↓zbE, ↓zh, ↓zar, ↓zC, ↓zbb, ↓zbp, ↓ze, ↓zy, ↓zq, ↓zr, ↓zaA, ↓zeC, ↓zeS, ↓zaI, ↓zaT, ↓zbd, ↓zbF, ↓zbU, ↓zx, ↓zav, ↓zL, ↓zA, ↓zau, zeH, zcn, zcf, unA, zeV, bnd, zfP, zah, zX, zft, dm, dm1, zp, zaG, zgx, zgw, zS, Q0, Q1, Q2, Q3, Q4, Q5, zap, zE, zj, zat, zP, Q6, Q7, Q8, Q9, Q10, Q11, Q12, Q13, Q14, Nat.reduceAdd, Q15, Int.reduceToNat, Q16, Q17, Q18, Q19, Q20, reduceIte, Q21, Q22, zo, rep, zab, zgT, toD, zao, Q23, Q24, Q25, Q26, Q27, Q28, Nat.reduceLeDiff, Q29, Nat.reduceSub, Q30, Q31, Q32, sc, Q33, Q34, Q35, Q36, Q37, Q26, Q38, Q39, n0gt, n1gt, n2gt, n0eq, zjQ, n1eq, n2eq, n0ne, n1ne, zjP, zjR, i0ne, i0eq, Bool.not_true, Bool.not_false, List.length_map, zep, m1, a] | with_reducible refine andA ?_ | fail); exact h.go) : P := e a ⟨h⟩
theorem c_tpParse {b : List UInt8} (hb : b.length ≤ 1073741824) (hK0 : ¬ POk b → ∀ S, σ.length ≤ S.length → (∀ j, j < σ.length → S[j]? = σ[j]?) → K (.tup [.d .nilp, .d (.int .i64 70)]) S)
    (hK1 : POk b → ∀ S id O, zfj S id (zoV b) O → (∀ j, O j → σ.length ≤ j) → σ.length ≤ S.length → (∀ j, j < σ.length → S[j]? = σ[j]?) → K (.tup [.box id 0, .d (.int .i64 0)]) S) : zn Tryz.prog zgN [.d (.slice (bcs b))] σ K := by
  refine zaj zjz.is rfl fun hl _ => zjz.goes ?_
  simp only [zjD, iN, bT, bF, eN]
  refine zby ?_
  refine c_Read zdh (by simp [bcs]; omega) ?_
  refine zby ?_
  refine c_tpNew fun hT => ?_
  have hbl : (bcs b).length = b.length := by simp [bcs]
  rw [hbl]
  have e1 : (σ ++ [zc.tok 1 b.length, rdO (.own σ.length (bcs b)) 0]).length = σ.length + 2 := by simp
  have e2 : (σ ++ [zc.tok 1 b.length, rdO (.own σ.length (bcs b)) 0, zc.box [.box (σ.length + 1) 0]]).length = σ.length + 3 := by simp
  rw [e1, e2]
  clear hT
  have hJ0 : PsJ σ zbX.last [] ⟨b, 0⟩ (σ ++ [zc.tok 1 b.length, rdO (.own σ.length (bcs b)) 0, zc.box [.box (σ.length + 1) 0]] ++ [zc.map [], zc.box (.map (σ.length + 3) :: zbB zbX.last)]) := by
    rw [List.append_assoc]
    refine ⟨⟨⟨.own σ.length (bcs b), by rw [zE]; rfl, .inr ⟨_, rfl⟩⟩, hb⟩, fun j hj => List.getElem?_append_left hj, by rw [zE]; rfl, by rw [zE]; rfl, [], by rw [zE]; rfl, ⟨[], rfl⟩, fun _ => ⟨[], rfl, rfl, by simp, by simp⟩⟩
  obtain ⟨S0, hS0⟩ : ∃ S0, (σ ++ [zc.tok 1 b.length, rdO (.own σ.length (bcs b)) 0, zc.box [.box (σ.length + 1) 0]] ++ [zc.map [], zc.box (.map (σ.length + 3) :: zbB zbX.last)]) = S0 := ⟨_, rfl⟩
  rw [hS0] at hJ0 ⊢
  have g0 := hJ0.c
  refine zt g0 ?_
  refine zgQ (m := 8) (by omega) (by omega) hJ0.rd fun S1 hS1 hR1 => ?_
  rw [show (8 : Int).toNat = 8 from rfl] at hS1 ⊢
  have hnl := zaX false 8 ⟨b, 0⟩
  have hJ1 := hJ0.next hS1 hR1 (fun h => rfl)
  have hTdef : zie b = znY (zax false 8 ⟨b, 0⟩).1 (zax false 8 ⟨b, 0⟩).2 := rfl
  obtain ⟨n, hn⟩ : ∃ n, zax false 8 ⟨b, 0⟩ = n := ⟨_, rfl⟩
  rw [hn] at hJ1 hnl hTdef ⊢
  refine zby ?_
  refine zF n.1 (fun k vs S => vs = [.d (.str (znY k n.2).above), .d (.int .i64 k)] ∧ PsJ σ zbX.last (znY k n.2).X (znY k n.2).s S) ⟨rfl, hJ1⟩ ?_
  rintro k vs S hk ⟨rfl, hJ⟩
  by_cases hlk : k < n.1
  · have hdk : decide ((k : Int) < (n.1 : Int)) = true := by simp; omega
    have hstep : znY (k + 1) n.2 = zjG (znY k n.2) := rfl
    have hok0 := topN_ok (s := n.2) (k := k)
    obtain ⟨G, hG⟩ : ∃ G, znY k n.2 = G := ⟨_, rfl⟩
    rw [hG] at hstep hok0 hJ ⊢
    have g1 := hJ.c; have g2 := hJ.bx
    refine zt (zb hdk g1) ?_
    refine zpq hJ.rd fun S2 hS2 hR2 => ?_
    have hst : zjG G = ⟨(zdr G.above G.s).1, G.X ++ [(zfs (zdr G.above G.s).1 (zdr G.above G.s).2).1], (zfs (zdr G.above G.s).1 (zdr G.above G.s).2).2⟩ := rfl
    have hnok := zkF (above := G.above) (s := G.s)
    have hJ2 := hJ.next hS2 hR2 (fun h => (hnok h).2.2.1)
    obtain ⟨w, hw⟩ : ∃ w, zdr G.above G.s = w := ⟨_, rfl⟩
    rw [hw] at hJ2 hst hnok ⊢
    have u1 := hJ2.c; have u2 := hJ2.bx
    refine zt (zb u1 u2) ?_
    refine c_rdTopic (name := w.1) hJ2.rd fun S3 f g t hS3 hR3 hf3 hT3 => ?_
    have htok := topicP_ok (name := w.1) (s := w.2)
    have hJ3 := hJ2.next hS3 hR3 (fun h => (htok h).1)
    obtain ⟨x, hx⟩ : ∃ x, zfs w.1 w.2 = x := ⟨_, rfl⟩
    rw [hx] at hJ3 hst htok hT3
    have v2 := hJ3.bx
    have l2 := zg u2
    obtain ⟨es, m1, m2, m3⟩ := hJ3.mp
    obtain ⟨keys, hkeys⟩ := m2
    obtain ⟨q, hq⟩ := zjf w.1 (es := es) 0 hkeys
    have m2 : zeZ es := ⟨keys, hkeys⟩
    have kp : ∀ V j, j ≠ σ.length + 3 → (S3.set (σ.length + 3) V)[j]? = S3[j]? := fun V j h => List.getElem?_set_ne (Ne.symm h)
    have fin : ∀ es', zeZ es' → (x.2.e = 0 → ziw .str (.d (.str w.1)) es 0 = some none → es' = es ++ [(.d (.str w.1), .box f 0)]) → PsJ σ zbX.last (G.X ++ [x.1]) x.2 (S3.set (σ.length + 3) (.map es')) := fun es' hk' he' => by
      refine ⟨hJ3.rd.keep (kp _ _ (by omega)), fun j hj => (kp _ _ (by omega)).trans (hJ3.pre j hj), (kp _ _ (by omega)).trans hJ3.c, (kp _ _ (by omega)).trans hJ3.bx, es', List.getElem?_set_self (zg m1), hk', fun he => ?_⟩
      obtain ⟨t1, t2, t3, t4⟩ := htok he
      obtain ⟨es2, k1, k2, k3⟩ := hJ2.mp
      have k1' := hR3.at_ k1 (by omega)
      rw [m1] at k1'
      cases k1'
      obtain ⟨X, x1, x2, x3', x4⟩ := k3 t1
      have x3 : ∀ p ∈ X, TopAt S3 p ∧ σ.length + 4 < p.id ∧ σ.length + 4 < p.g ∧ σ.length + 4 < p.t := fun p hp => by
        obtain ⟨y1, y2, y3, y4⟩ := x3' p hp
        exact ⟨⟨hR3.at_ y1.b (by omega), hR3.at_ y1.g (by omega), hR3.at_ y1.t (by omega)⟩, y2, y3, y4⟩
      obtain ⟨o1, o2, o3, o4⟩ := hT3 he
      obtain ⟨n1, n2, n3, _, _⟩ := hnok t1
      have hG0 := hok0 n3
      have hnone : zfQ w.1 X 0 = none := by
        cases hx : zfQ w.1 X 0 with
        | none => rfl
        | some q =>
          obtain ⟨q, z⟩ := q
          obtain ⟨i, _, hi, hz⟩ := zlA hx
          have hzm : z.x ∈ G.X := by rw [← x2]; exact List.mem_map_of_mem (List.mem_of_getElem? hi)
          rcases hG0.abv _ hzm with e | e
          · rw [hz] at e; rw [e] at n2; exact absurd n2 (zgO _)
          · rw [hz] at e; exact absurd (zen e n2) (zgO _)
      have hmf : ziw .str (.d (.str w.1)) es 0 = some none := by rw [x1, zdV, hnone]; rfl
      have hlo : S2.length ≤ f ∧ S2.length ≤ g ∧ S2.length ≤ t := ⟨o2, o3, o4⟩
      have hlt : σ.length + 4 < S2.length := l2
      have old : ∀ p ∈ X, p.id < S2.length ∧ p.g < S2.length ∧ p.t < S2.length := fun p hp => by
        obtain ⟨z1, _⟩ := x3' p hp
        exact ⟨zg z1.b, zg z1.g, zg z1.t⟩
      refine ⟨X ++ [⟨x.1, f, g, t⟩], ?_, by simp [x2], fun p hp => ?_, fun i j p q hp hq hne => ?_⟩
      · rw [he' he hmf, x1]; simp [topM, t4]
      · rcases List.mem_append.1 hp with hp | hp
        · obtain ⟨y1, y2, y3, y4⟩ := x3 p hp
          exact ⟨⟨(kp _ _ (by omega)).trans y1.b, (kp _ _ (by omega)).trans y1.g, (kp _ _ (by omega)).trans y1.t⟩, y2, y3, y4⟩
        · simp at hp; subst hp
          exact ⟨⟨(kp _ _ (by simp only; omega)).trans o1.b, (kp _ _ (by simp only; omega)).trans o1.g, (kp _ _ (by simp only; omega)).trans o1.t⟩, by simp only; omega, by simp only; omega, by simp only; omega⟩
      · rw [List.getElem?_append] at hp hq
        split at hp
        · split at hq
          · exact x4 i j p q hp hq hne
          · have h4 := List.mem_of_getElem? hq
            simp at h4; subst h4
            have := old p (List.mem_of_getElem? hp)
            simp only; omega
        · have h4 := List.mem_of_getElem? hp
          have h6 := (List.getElem?_eq_some_iff.1 hp).1
          simp at h4 h6; subst h4
          split at hq
          · have := old q (List.mem_of_getElem? hq)
            simp only; omega
          · have h7 := (List.getElem?_eq_some_iff.1 hq).1
            simp at h7; omega
    cases q with
    | none =>
      refine gq39 (zb u2 (zb v2 (zb hq (wkc k (by omega))))) ?_
      exact zbC.next hlk ⟨by rw [hstep, hst], by rw [hstep, hst]; exact fin _ (m2.app _ _) fun _ _ => rfl⟩
    | some q =>
      obtain ⟨qi, qv⟩ := q
      refine gq39 (zb u2 (zb v2 (zb hq (wkc k (by omega))))) ?_
      exact zbC.next hlk ⟨by rw [hstep, hst], by rw [hstep, hst]; exact fin _ (m2.set _ _ _) fun _ h => by rw [hq] at h; cases h⟩
  · have hdk : decide ((k : Int) < (n.1 : Int)) = false := by simp; omega
    have hko : k = n.1 := by omega
    rw [hko, ← hTdef] at hJ
    refine zt hdk ?_
    have hz8 : zdA 8 = zbX.last := rfl
    have hLdef : ziq b = zha 8 (zie b).s := rfl
    refine zF 8 (fun k vs S => vs = [.d (.int .i64 k)] ∧ PsJ σ ((zha k (zie b).s).l ++ zdA (8 - k)) (zie b).X (zha k (zie b).s).s S) ⟨rfl, hJ⟩ ?_
    rintro k vs S hk ⟨rfl, hJ⟩
    by_cases hl8 : k < 8
    · have hd8 : decide ((k : Int) < 8) = true := by simp; omega
      have hstep : zha (k + 1) (zie b).s = zfN (zha k (zie b).s) := rfl
      have hlen := lastN_len (zie b).s k
      obtain ⟨G, hG⟩ : ∃ G, zha k (zie b).s = G := ⟨_, rfl⟩
      rw [hG] at hstep hJ hlen
      have g1 := hJ.c; have g2 := hJ.bx
      have l2 := zg g2
      have hst : zfN G = ⟨G.l ++ [(zbh G.s).1], (zbh G.s).2⟩ := rfl
      refine zt (zb hd8 (zb g1 g2)) ?_
      refine c_rdLast hJ.rd fun S2 hS2 hR2 => ?_
      have hJ2 := hJ.next hS2 hR2 lastP_e
      obtain ⟨a, ha⟩ : ∃ a, zbh G.s = a := ⟨_, rfl⟩
      rw [ha] at hJ2 hst ⊢
      have u1 := hJ2.c; have u2 := hJ2.bx
      have hzl : (G.l ++ zdA (8 - k)).length = 8 := by simp [zdA, hlen]; omega
      have hlc := zeo (G.l ++ zdA (8 - k))
      rw [hzl] at hlc
      have hset : (G.l ++ zdA (8 - k)).set k a.1 = G.l ++ [a.1] ++ zdA (8 - (k + 1)) := by
        rw [List.set_append_right _ _ (by omega), hlen, Nat.sub_self, show 8 - k = (8 - (k + 1)) + 1 by omega, zdA, List.replicate_succ, List.set_cons_zero]
        simp [zdA]
      have hcs : ∀ X : AV, List.take (1 + k * 3) (X :: zbB (G.l ++ zdA (8 - k))) ++ .d (.int .i64 a.1.1) :: .d (.int .i64 a.1.2.1) :: .d (.int .i64 a.1.2.2) :: List.drop (1 + (k * 3 + 3)) (X :: zbB (G.l ++ zdA (8 - k))) = X :: zbB (G.l ++ [a.1] ++ zdA (8 - (k + 1))) := fun X => by
        have := ziy (l := G.l ++ zdA (8 - k)) (k := k) a.1 (by omega)
        rw [Nat.add_comm 1 (k * 3 + 3), Nat.add_comm 1 (k * 3), List.take_succ_cons, List.drop_succ_cons, List.cons_append, this, hset]
      refine zt (zb u1 (zb u2 (zb g2 (zb hlc (zb hcs (wkc k (by omega))))))) ?_
      have hans := hJ2.ans (G.l ++ [a.1] ++ zdA (8 - (k + 1)))
      refine zbC.next hl8 ⟨rfl, ?_⟩
      rw [hstep, hst]
      simp only [List.append_assoc, List.cons_append, List.nil_append] at hans ⊢
      exact hans
    · have hd8 : decide ((k : Int) < 8) = false := by simp; omega
      have hko8 : k = 8 := by omega
      subst hko8
      rw [← hLdef, show 8 - 8 = 0 from rfl, show zdA 0 = [] from rfl, List.append_nil] at hJ
      have g1 := hJ.c; have g2 := hJ.bx
      obtain ⟨⟨c, hc1, hc2⟩, hc3⟩ := hJ.rd
      refine zt (zb hd8 g1) ?_
      refine c_Done hc1 hc2 ?_
      have hSl := zg g2
      by_cases hp : POk b
      · obtain ⟨p1, p2⟩ := hp
        rw [if_neg (by rw [p2]; simp), p1]
        obtain ⟨hW, hB⟩ := parsF_ok p1
        rw [p2, List.append_nil] at hB
        obtain ⟨hI, hL⟩ := topsW_I hW
        obtain ⟨es, m1, m2, m3⟩ := hJ.mp
        obtain ⟨X, x1, x2, x3, x4⟩ := m3 p1
        have hT : zfj S (σ.length + 4) (zoV b) (OwnP (σ.length + 4) (σ.length + 3) X) := ⟨σ.length + 3, X, ⟨hJ.bx, by rw [m1, x1], fun p hp => (x3 p hp).1, x4, fun p hp => by have := x3 p hp; omega, hW.last⟩, rel_self x2 hW.srt (fun x hx => (hW.each x hx).2.2.srt), fun j => Iff.rfl⟩
        have n0 : ((0 : Int) != 0) = false := rfl
        refine zt n0 ?_
        refine c_tpBytes hT hI hL ?_
        refine zby ?_
        refine zew ?_
        rw [← hB, beq_self_eq_true]
        refine zby ?_
        refine zaO (hK1 ⟨p1, p2⟩ S (σ.length + 4) _ hT (fun j hj => ?_) (by omega) hJ.pre)
        rcases hj with rfl | rfl | ⟨p, hp, hj⟩
        · omega
        · omega
        · obtain ⟨h1, h2, h3, h4⟩ := x3 p hp
          rcases hj with rfl | rfl | rfl <;> omega
      · have hne : ((if (ziq b).s.e = 0 ∧ 0 < (ziq b).s.b.length then (12 : Int) else (ziq b).s.e) != 0) = true := by
          split
          · rfl
          · rename_i h
            have : (ziq b).s.e ≠ 0 := fun h0 => hp ⟨h0, List.length_eq_zero_iff.1 (by omega)⟩
            simpa using this
        refine zt hne ?_
        exact zaO (hK0 hp S (by omega) hJ.pre)
end

end Go.Proofs.YtaocmalhjfakdaaGreat
