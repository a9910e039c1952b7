/- Contracts: a batch is executed, as the document does. -/
import Derived.Test.YtfjommppajkpoaaGreatTp5
import Derived.Test.YtfjommppajkpoaaGreatSpMake
set_option linter.all false
set_option maxRecDepth 100000
namespace Go.Proofs.YtfjommppajkpoaaGreat
open Go.AW
structure ExecR where
 e : Int
 h : zdW
 p : List zbe
 L : List (List UInt8)
 T : zcb
def zfz (L : List (List UInt8)) (T : zcb) (h : zdW) (b : List zr) : ExecR :=
 if zaA h ≠ 0 then ⟨zaA h,zsx, [],L,T⟩
 else if h.seq = 9007199254740992 then ⟨6,zsx, [],L,T⟩
 else if digE L b ≠ 0 then ⟨digE L b,zsx, [],ztD L b,T⟩
 else if hdigE (ztD L b) h ≠ 0 then ⟨hdigE (ztD L b) h,zsx, [],zgk (ztD L b) h,T⟩
 else
  let L2 := zgk (ztD L b) h
  let a := zax T b
  let r := zcc L2 (a.1.map zaz)
  let d := zee r.2 (zfl a.2)
  if r.1 = 0 ∨ d = 0 then ⟨6,zsx, [],zfe r.2 (zfl a.2),a.2⟩
  else ⟨0,⟨h.seq + 1,zsI (ztD L b) h,digD L b,r.1,d⟩,a.1,zfe r.2 (zfl a.2),a.2⟩
structure ztV (σ S : List zg) (id tid : Nat) : Prop where
 len : σ.length ≤ S.length
 get : ∀ (j : Nat) (x : zg), σ[j]? = some x → j ≠ id → j ≠ tid → (∀ g sz cs,x ≠ .row g sz cs) → S[j]? = some x
theorem ztV.app {σ : List zg} {id tid : Nat} (X : zg) (τ : List zg) : ztV σ (σ.set id X ++ τ) id tid :=
 ⟨by simp,fun j x hx h1 h2 h3 => zf ((List.getElem?_set_ne (Ne.symm h1)).trans hx)⟩
theorem zbH.setN {σ : List zg} {id t g j : Nat} {T : zcb} {x y : zg} (h : zbH σ id t g T) (hj : σ[j]? = some x) (hr : ∀ g sz cs,x ≠ .row g sz cs) (hne : j ≠ id) : zbH (σ.set j y) id t g T :=
 ⟨by rw [List.getElem?_set_ne hne]; exact h.box,by rw [List.getElem?_set_ne (fun e => by subst e; have := h.row; rw [hj] at this; cases this; exact hr _ _ _ rfl)]; exact h.row,h.last⟩
structure ExJ (σ : List zg) (n tid : Nat) (H P : zg) (A : List zbe × zcb) (N : List (List D)) (S : List zg) (t g : Nat) : Prop where
 top : zbH S tid t g A.2
 hb : S[n]? = some H
 zb : S[n + 1]? = some (.box [.d (.int .i64 0), .d (.int .i64 0), .d (.int .i64 0), .d (.int .i64 0), .d (.int .i64 0)])
 pb : S[n + 2]? = some P
 m : S[n + 3]? = some (.tok 3 A.1.length)
 k : S[n + 4]? = some (.tok 5 N.length)
 rest : ∀ (j : Nat) (x : zg), σ[j]? = some x → j ≠ tid → (∀ g sz cs,x ≠ .row g sz cs) → S[j]? = some x
theorem dig_len {L : List (List UInt8)} {l : List zr} (h : digE L l = 0) : l.length ≤ 4 := by
 unfold digE zad at h
 by_cases hl : l.length > 4
 ·rw [if_pos hl] at h; simp at h
 ·omega
theorem placedB_len' {p : zbe} (h : PlI p) : (zaz p).length ≤ 1073740000 := by
 have h1 := h.2.2.1; have h2 := h.2.2.2
 have h3 := zt (n := p.offset.toNat) (by have := h.2.1; omega)
 have h4 := zt (n := p.topic.length) (by omega)
 have h5 := zt (n := p.rec_.length) (by omega)
 simp only [zaz,znn,List.length_append]
 omega
theorem gq37 {A P Q : Prop} (a : A) (h : Q) (e : A → Hd Q → P := by intro a h; (repeat' first | simp -dsimp only [↓zgr, ↓zaF, ↓zbL, ↓zgt, ↓zgn, ↓zgl, ↓zgo, ↓zgm, ↓zbR, ↓zbN, ↓zbS, ↓zbO, ↓zgp, ↓zbJ, ↓zbT, ↓zbP, ↓zbU, ↓zbQ, ↓zgj, ↓zgq, ↓zbI, ↓zbX, ↓zgc, ↓zgb, ↓zgi,iN,bT,bF,eN, ↓zdN, ↓unC, ↓zac, ↓zQ, ↓zR, ↓zV, ↓zak, ↓zau, ↓zco, ↓zag, ↓zaJ, ↓zW, ↓zp, ↓zo, ↓zbF, ↓zl, ↓zan, ↓zF, ↓zaM, ↓zaW, ↓ze, ↓zC, ↓zu, ↓zy, ↓zav, ↓zdr, ↓zdU, ↓zat, ↓zaB, ↓zaU, ↓zbk, ↓zbv, ↓zD, ↓zaq, ↓zS, ↓zE, ↓zam,zeb,zbD,zbB,unA,zei,bnd,zeF,zai,zP,zeE,dm,dm1,zB,zal,zfg,zff,zx,Q0,Q1,Q2,Q3,Q4,Q5,zZ,zh,zm,zT,zN,Q6,Q7,Q8,Q9,Q10,Q11,Q12,Q13,Q14,Nat.reduceAdd,Q15,Int.reduceToNat,Q16,Q17,Q18,Q19,Q20,reduceIte,Q21,Q22,zH,rep,zX,zfc,toD,zah,Q23,Q24,Q25,Q26,Q27,Q28,Nat.reduceLeDiff,Q29,Nat.reduceSub,Q30,Q31,Q32,sc,Q33,Q34,Q35,Q36,Q37,Q26,Q38,Q39,zkn,zkk,zkh,zko,zdu,zkl,zki,zkm,zkj,zdt,zdv,zkp,zkq,Bool.not_true,Bool.not_false,List.length_map,List.length_set,zeI,z1,z2,a] | with_reducible refine zkr ?_ | fail); exact h.go) : P := e a ⟨h⟩
theorem zrM {σ : List zg} {id tid t g : Nat} {T : zcb} {L : List (List UInt8)} {h : zdW} {b : List zr} (hT : zbH σ tid t g T) (hI : zhz T) (hLa : zlp T.last) (hT2 : σ[id]? = some (rtO L)) (hL : zjN L) (hne : id ≠ tid)
  (hx : ∀ s ∈ b,zmd s.op ≤ 20971520) (hbl : b.length ≤ 1073741824) {K : KT}
  (hK : ∀ S t' g' N,zbH S tid t' g' (zfz L T h b).T → S[id]? = some (rtO (zfz L T h b).L) → ztV σ S id tid → K (.tup [ztt (zfz L T h b).h, .d (.slice (zcA (zfz L T h b).p)), .d (.slice N), .d (.int .i64 (zfz L T h b).e)]) S) :
  zq Tryz.prog zgM [.box id 0, .box tid 0,ztt h, .d (.slice (zjL b))] σ K := by
 refine zhy znH.is rfl fun hl _ => znH.goes ?_
 have hid := zA hT2
 have done : ∀ z,zfz L T h b = z → ∀ S t' g' N,zbH S tid t' g' z.T → S[id]? = some (rtO z.L) → ztV σ S id tid → K (.tup [ztt z.h, .d (.slice (zcA z.p)), .d (.slice N), .d (.int .i64 z.e)]) S := fun z h => h ▸ hK
 clear hK
 have hself := zby hT2
 have hTs : ∀ X,zbH (σ.set id X) tid t g T := fun X => hT.setB hT2 hne
 have same : ∀ e τ L',zfz L T h b = ⟨e,zsx, [],L',T⟩ → EndsA K (some [ztt zsx, .exact [], .exact [], .d (.int .i64 e)]) (σ.set id (rtO L') ++ τ) := fun e τ L' h => zlO (done _ h _ t g [] ((hTs _).app _) (zf (List.getElem?_set_self hid)) (.app _ _))
 simp only [zod,iN,bT,bF,eN,ztt]
 refine gq1 ?_
 refine zrQ (h := h) ?_
 cases c0 : (zaA h != 0)
 rotate_left
 ·refine gq2 c0 ?_
  have := same (zaA h) [.box [.d (.int .i64 h.seq), .d (.int .i64 h.prev), .d (.int .i64 h.batch), .d (.int .i64 h.root), .d (.int .i64 h.state)], .box [.d (.int .i64 0), .d (.int .i64 0), .d (.int .i64 0), .d (.int .i64 0), .d (.int .i64 0)]] L (by rw [zfz,if_pos (by simpa using c0)])
  rw [hself] at this
  exact this
 cases c1 : (h.seq == 9007199254740992)
 rotate_left
 ·refine gq2 (zc c0 c1) ?_
  have := same 6 [.box [.d (.int .i64 h.seq), .d (.int .i64 h.prev), .d (.int .i64 h.batch), .d (.int .i64 h.root), .d (.int .i64 h.state)], .box [.d (.int .i64 0), .d (.int .i64 0), .d (.int .i64 0), .d (.int .i64 0), .d (.int .i64 0)]] L (by rw [zfz,if_neg (by simpa using c0),if_pos (by simpa using c1)])
  rw [hself] at this
  exact this
 have hok := zdg.1 (show zaA h = 0 by simpa using c0)
 have xs : ∀ Y τ,(σ ++ τ).set id Y = σ.set id Y ++ τ := fun Y τ => List.set_append_left _ _ hid
 have hseq : 0 ≤ h.seq ∧ h.seq ≤ 9007199254740992 := ziA hok _ (by simp [zqb])
 have w1 : IntKind.i64.wrap (h.seq + 1) = h.seq + 1 := zJ (by omega) (by omega)
 refine gq2 (zc c0 (zc c1 w1)) ?_
 refine c_rqrDigest (zf hT2) hL hx (by omega) ?_
 rw [xs]
 have hl2 : ∀ X, σ.length = (σ.set id X).length := fun X => (List.length_set ..).symm
 have r0 : ∀ X τ,(σ.set id X ++ τ)[σ.length]? = τ[0]? := fun X τ => by rw [List.getElem?_append_right (by simp)]; simp
 have r1 : ∀ X τ,(σ.set id X ++ τ)[σ.length + 1]? = τ[1]? := fun X τ => by rw [List.getElem?_append_right (by simp)]; simp
 have r2 : ∀ X τ,(σ.set id X ++ τ)[σ.length + 2]? = τ[2]? := fun X τ => by rw [List.getElem?_append_right (by simp)]; simp
 have r3 : ∀ X τ,(σ.set id X ++ τ)[σ.length + 3]? = τ[3]? := fun X τ => by rw [List.getElem?_append_right (by simp)]; simp
 have t1 : ∀ X τ Y,(σ.set id X ++ τ).set (σ.length + 1) Y = σ.set id X ++ τ.set 1 Y := fun X τ Y => by rw [List.set_append_right _ _ (by simp)]; simp
 have t3 : ∀ X τ Y,(σ.set id X ++ τ).set (σ.length + 3) Y = σ.set id X ++ τ.set 3 Y := fun X τ Y => by rw [List.set_append_right _ _ (by simp)]; simp
 have t2 : ∀ X τ Y,(σ.set id X ++ τ).set (σ.length + 2) Y = σ.set id X ++ τ.set 2 Y := fun X τ Y => by rw [List.set_append_right _ _ (by simp)]; simp
 cases c2 : (digE L b != 0)
 rotate_left
 ·refine gq36 (zc c2 (zc r0 (zc r1 (zc r2 (zc r3 (zc t1 (zc t2 t3))))))) ?_
  exact same (digE L b) _ (ztD L b) (by rw [zfz,if_neg (by simpa using c0),if_neg (by simpa using c1),if_pos (by simpa using c2)])
 have hbl : b.length ≤ 1000000 := by have := dig_len (L := L) (l := b) (by simpa using c2); omega
 refine gq36 (zc c2 (zc r0 (zc r1 (zc r2 (zc r3 (zc t1 (zc t2 t3))))))) ?_
 have hd1 : (ztD L b).length ≤ 1048576 := by
  unfold ztD
  split
  ·exact hL.len
  ·exact zni hL.len _
 have hd2 : (zgk (ztD L b) h).length ≤ 1048576 := by
  unfold zgk
  split
  ·exact hd1
  ·exact zni hd1 _
 have xs2 : ∀ X τ Y,(σ.set id X ++ τ).set id Y = σ.set id Y ++ τ := fun X τ Y => by rw [List.set_append_left _ _ (by simpa using hid),List.set_set]
 refine zpi (h := h) (zf (List.getElem?_set_self hid)) hd1 ?_
 rw [xs2]
 obtain ⟨L2,hL2⟩ : ∃ L2,zgk (ztD L b) h = L2 := ⟨_,rfl⟩
 obtain ⟨D2,hD2⟩ : ∃ D2,zsI (ztD L b) h = D2 := ⟨_,rfl⟩
 rw [hL2] at hd2 ⊢
 rw [hD2]
 cases c3 : (hdigE (ztD L b) h != 0)
 rotate_left
 ·refine gq36 (zc c3 (zc r0 (zc r1 (zc r2 (zc r3 (zc t1 (zc t2 t3))))))) ?_
  exact same (hdigE (ztD L b) h) _ L2 (by rw [zfz,if_neg (by simpa using c0),if_neg (by simpa using c1),if_neg (by simpa using c2),if_pos (by simpa using c3),hL2])
 refine gq36 (zc c3 (zc r0 (zc r1 (zc r2 (zc r3 (zc t1 (zc t2 t3))))))) ?_
 have hex : zfz L T h b = if (zcc L2 ((zax T b).1.map zaz)).1 = 0 ∨ zee (zcc L2 ((zax T b).1.map zaz)).2 (zfl (zax T b).2) = 0 then ⟨6,zsx, [],zfe (zcc L2 ((zax T b).1.map zaz)).2 (zfl (zax T b).2),(zax T b).2⟩
  else ⟨0,⟨h.seq + 1,D2,digD L b,(zcc L2 ((zax T b).1.map zaz)).1,zee (zcc L2 ((zax T b).1.map zaz)).2 (zfl (zax T b).2)⟩,(zax T b).1,zfe (zcc L2 ((zax T b).1.map zaz)).2 (zfl (zax T b).2),(zax T b).2⟩ := by
  rw [zfz,if_neg (by simpa using c0),if_neg (by simpa using c1),if_neg (by simpa using c2),if_neg (by simpa using c3),hL2,hD2]
 have hw : znb [.exact [], .exact [], .d (.int .i64 0)] (σ.set id (rtO L2) ++ [.box [.d (.int .i64 h.seq), .d (.int .i64 h.prev), .d (.int .i64 h.batch), .d (.int .i64 h.root), .d (.int .i64 h.state)], .box [.d (.int .i64 0), .d (.int .i64 0), .d (.int .i64 0), .d (.int .i64 0), .d (.int .i64 0)], .box [.d (.int .i64 (h.seq + 1)), .d (.int .i64 D2), .d (.int .i64 (digD L b)), .d (.int .i64 0), .d (.int .i64 0)]])
   [.own (σ.length + 3) [], .own (σ.length + 4) [], .d (.int .i64 0)] (σ.set id (rtO L2) ++ [.box [.d (.int .i64 h.seq), .d (.int .i64 h.prev), .d (.int .i64 h.batch), .d (.int .i64 h.root), .d (.int .i64 h.state)], .box [.d (.int .i64 0), .d (.int .i64 0), .d (.int .i64 0), .d (.int .i64 0), .d (.int .i64 0)], .box [.d (.int .i64 (h.seq + 1)), .d (.int .i64 D2), .d (.int .i64 (digD L b)), .d (.int .i64 0), .d (.int .i64 0)], .tok 3 0, .tok 5 0]) := by
  refine .tok 0 [] 3 rfl (by simp) (.tok 1 [] 5 rfl (by simp) ?_)
  simp only [List.length_append,List.length_set,List.length_cons,List.length_nil,List.set_cons_zero,List.set_cons_succ,List.append_assoc,List.cons_append,List.nil_append,Nat.zero_add,Nat.reduceAdd,Nat.add_assoc]
  exact .refl _ _
 have hbat : (zjL b).length = b.length := List.length_map ..
 refine zaO b.length (fun k vs S => ∃ t g N,vs = [.own (σ.length + 3) (zcA (zax T (b.take k)).1), .own (σ.length + 4) N, .d (.int .i64 k)] ∧ N.length = k ∧ (∀ e ∈ N,e.length = 5) ∧ ExJ (σ.set id (rtO L2)) σ.length tid (.box [.d (.int .i64 h.seq), .d (.int .i64 h.prev), .d (.int .i64 h.batch), .d (.int .i64 h.root), .d (.int .i64 h.state)]) (.box [.d (.int .i64 (h.seq + 1)), .d (.int .i64 D2), .d (.int .i64 (digD L b)), .d (.int .i64 0), .d (.int .i64 0)]) (zax T (b.take k)) N S t g) hw ⟨t,g, [],rfl,rfl,by simp,(hTs _).app _,by rw [r0]; rfl,by rw [r1]; rfl,by rw [r2]; rfl,by rw [r3]; rfl,by rw [List.getElem?_append_right (by simp)]; simp,fun j x hx _ _ => zf hx⟩ ?_
 rintro k vs S hk ⟨t1',g1',N,rfl,hN,hN5,hJ⟩
 have hAI := zrZ (b.take k) hI
 have hAP := (znX (b.take k) hI).2
 rw [List.length_take,Nat.min_eq_left hk] at hAP
 by_cases hlt : k < b.length
 ·have hd : decide ((k : Int) < (b.length : Int)) = true := by simp; omega
  have hy : b[k]? = some b[k] := by simp [hlt]
  have hys := hx _ (List.getElem_mem hlt)
  obtain ⟨y,hye⟩ : ∃ y,b[k] = y := ⟨_,rfl⟩
  rw [hye] at hy hys
  have hgy := zU (f := zeI) hy
  have hz := hys
  unfold zmd at hz
  have hrl := zjf y.op.recs
  refine gq2 (zc hd (zc hbat hgy)) ?_
  refine ⟨rfl,by show 7 ≤ 9; omega, ?_⟩
  refine c_r7Apply (c := y.client) (tm := y.time) (o := y.op) hJ.top hAI.len hAI.tops (by omega) (by omega) (by omega) (fun r hr => by have := rec_le hr; omega) fun S' t2 g2 hT' hS' => ?_
  obtain ⟨A,hA⟩ : ∃ A,zax T (b.take k) = A := ⟨_,rfl⟩
  have hA2 : zax T (b.take (k + 1)) = (A.1 ++ (zcm A.2 y.client y.time y.op).2.1,(zcm A.2 y.client y.time y.op).2.2.2) := by
   rw [List.take_add_one,hy, ← hA]; exact znW y _ T
  rw [hA] at hJ hAI hAP hT' ⊢
  obtain ⟨hap1,hap2⟩ := applyP hAI y.client y.time y.op
  obtain ⟨D,hD⟩ : ∃ D,zcm A.2 y.client y.time y.op = D := ⟨_,rfl⟩
  rw [hD] at hA2 hT' hap1 hap2 ⊢
  have e3 := hS'.get _ _ hJ.m (by have := zA hT.box; omega) (fun _ _ _ e => by cases e)
  have e4 := hS'.get _ _ hJ.k (by have := zA hT.box; omega) (fun _ _ _ e => by cases e)
  have l3 := zA e3; have l4 := zA e4
  have x3 : ∀ τ,(S' ++ τ)[σ.length + 3]? = _ := fun τ => zf e3
  have y3 : ∀ τ Y,(S' ++ τ).set (σ.length + 3) Y = S'.set (σ.length + 3) Y ++ τ := fun τ Y => List.set_append_left _ _ l3
  have x4 : ∀ τ Y,(S'.set (σ.length + 3) Y ++ τ)[σ.length + 4]? = _ := fun τ Y => zf ((List.getElem?_set_ne (by omega)).trans e4)
  have y4 : ∀ τ Y Z,(S'.set (σ.length + 3) Y ++ τ).set (σ.length + 4) Z = (S'.set (σ.length + 3) Y).set (σ.length + 4) Z ++ τ := fun τ Y Z => List.set_append_left _ _ (by simpa using l4)
  have z1 : ∀ a τ,(S' ++ a :: τ)[S'.length]? = some a := fun a τ => zm ..
  have z2 : ∀ Y a τ,(S'.set (σ.length + 3) Y ++ a :: τ)[S'.length]? = some a := fun Y a τ => by rw [List.getElem?_append_right (by simp)]; simp
  refine gq37 (zc hbat (zc hgy (zc x3 (zc y3 (zc x4 (zc y4 (wkc k (by omega)))))))) ?_
  have e0 := hS'.get _ _ hJ.hb (by have := zA hT.box; omega) (fun _ _ _ e => by cases e)
  have e1 := hS'.get _ _ hJ.zb (by have := zA hT.box; omega) (fun _ _ _ e => by cases e)
  have e2 := hS'.get _ _ hJ.pb (by have := zA hT.box; omega) (fun _ _ _ e => by cases e)
  have g3 : ∀ (j : Nat) (x : zg),j ≠ σ.length + 3 → j ≠ σ.length + 4 → S'[j]? = some x → ∀ X Y τ,((S'.set (σ.length + 3) X).set (σ.length + 4) Y ++ τ)[j]? = some x := fun j x h3 h4 h X Y τ => zf (by rw [List.getElem?_set_ne (Ne.symm h4),List.getElem?_set_ne (Ne.symm h3)]; exact h)
  refine zap.next hlt ⟨t2,g2,N ++ [[.int .i64 y.client, .int .i64 y.time, .int .i64 D.1.1, .int .i64 D.1.2, .bool D.2.2.1]], ?_,by simp [hN], ?_, ?_, ?_, ?_, ?_, ?_, ?_, ?_⟩
  ·rw [hA2]; simp
  ·intro e he
   rcases List.mem_append.1 he with he | he
   ·exact hN5 e he
   ·simp only [List.mem_singleton] at he; subst he; rfl
  ·rw [hA2]
   exact ((hT'.setN e3 (fun _ _ _ e => by cases e) (by have := zA hT.box; omega)).setN ((List.getElem?_set_ne (by omega)).trans e4) (fun _ _ _ e => by cases e) (by have := zA hT.box; omega)).app _
  ·exact g3 _ _ (by omega) (by omega) e0 _ _ _
  ·exact g3 _ _ (by omega) (by omega) e1 _ _ _
  ·exact g3 _ _ (by omega) (by omega) e2 _ _ _
  ·refine zf ?_
   rw [List.getElem?_set_ne (by omega),List.getElem?_set_self l3,hA2]; simp
  ·refine zf ?_
   rw [List.getElem?_set_self (by simpa using l4)]; simp
  ·intro j x hx hj hr
   have hlj : j < σ.length := by have := zA hx; simpa using this
   exact g3 _ _ (by omega) (by omega) (hS'.get j x (hJ.rest j x hx hj hr) hj hr) _ _ _
 ·have hd : decide ((k : Int) < (b.length : Int)) = false := by simp; omega
  have hko : b.take k = b := List.take_of_length_le (by omega)
  rw [hko] at hJ hAI hAP ⊢
  have hS1 : S[id]? = some (rtO L2) := hJ.rest _ _ (List.getElem?_set_self hid) hne (fun _ _ _ e => by cases e)
  have hAL := zrY b hI hLa
  have hAQ := (znX b hI).1
  obtain ⟨A,hA⟩ : ∃ A,zax T b = A := ⟨_,rfl⟩
  rw [hA] at hex hJ hAI hAP hAL hAQ ⊢
  have hsm : ∀ p ∈ A.1,zje p := fun p hp => ⟨⟨by have := (hAQ p hp).1; omega,by have := (hAQ p hp).2.1; omega⟩,by have := (hAQ p hp).2.2.1; omega,by have := (hAQ p hp).2.2.2; omega⟩
  refine gq2 (zc hd hbat) ?_
  refine c_r7Leaves (l := A.1) (by omega) hsm ?_
  refine gq1 ?_
  refine c_r5Root hS1 hd2 (by simp; omega) (fun x hx => ?_) ?_
  ·obtain ⟨p,hp,rfl⟩ := List.mem_map.1 hx
   exact placedB_len' (hAQ p hp)
  obtain ⟨r,hr⟩ : ∃ r,zcc L2 (A.1.map zaz) = r := ⟨_,rfl⟩
  have hr2 : r.2.length ≤ 1048576 := by rw [← hr]; exact (zcu _ (Nat.le_refl _) hd2).1
  rw [hr] at hex ⊢
  have hT3 : zbH (S.set id (rtO r.2)) tid t1' g1' A.2 := hJ.top.setB hS1 hne
  have q1 : (S.set id (rtO r.2))[σ.length + 1]? = some _ := (List.getElem?_set_ne (by omega)).trans hJ.zb
  have q2 : (S.set id (rtO r.2))[σ.length + 2]? = some _ := (List.getElem?_set_ne (by omega)).trans hJ.pb
  have q3 : (S.set id (rtO r.2))[id]? = some (rtO r.2) := List.getElem?_set_self (zA hS1)
  have qr : ∀ (j : Nat) (x : zg), σ[j]? = some x → j ≠ id → j ≠ tid → (∀ g sz cs,x ≠ .row g sz cs) → (S.set id (rtO r.2))[j]? = some x := fun j x h1 h2 h3 h4 => (List.getElem?_set_ne (Ne.symm h2)).trans (hJ.rest j x ((List.getElem?_set_ne (Ne.symm h2)).trans h1) h3 h4)
  obtain ⟨S1,hS1'⟩ : ∃ S1,S.set id (rtO r.2) = S1 := ⟨_,rfl⟩
  rw [hS1'] at hT3 q1 q2 q3 qr ⊢
  have l2 := zA q2
  refine gq2 q2 ?_
  refine ztP (hT3.setN q2 (fun _ _ _ e => by cases e) (by have := zA hT.box; omega)) hAI hAL ((List.getElem?_set_ne (by omega)).trans q3) hr2 ?_
  obtain ⟨d,hd4⟩ : ∃ d,zee r.2 (zfl A.2) = d := ⟨_,rfl⟩
  obtain ⟨L3,hL3⟩ : ∃ L3,zfe r.2 (zfl A.2) = L3 := ⟨_,rfl⟩
  rw [hd4,hL3] at hex ⊢
  have s1 : ∀ P',((S1.set (σ.length + 2) P').set id (rtO L3))[σ.length + 2]? = some P' := fun P' => (List.getElem?_set_ne (by omega)).trans (List.getElem?_set_self l2)
  have s2 : ∀ P' P'',((S1.set (σ.length + 2) P').set id (rtO L3)).set (σ.length + 2) P'' = (S1.set id (rtO L3)).set (σ.length + 2) P'' := fun P' P'' => by
   rw [List.set_comm _ _ (by omega),List.set_set,List.set_comm _ _ (by omega)]
  have s3 : ∀ P',((S1.set id (rtO L3)).set (σ.length + 2) P')[σ.length + 2]? = some P' := fun P' => List.getElem?_set_self (by simpa using l2)
  have s4 : ∀ P',((S1.set id (rtO L3)).set (σ.length + 2) P')[σ.length + 1]? = some _ := fun P' => (List.getElem?_set_ne (by omega)).trans ((List.getElem?_set_ne (by omega)).trans q1)
  have s5 : ∀ P' Y,(((S1.set id (rtO L3)).set (σ.length + 2) P').set (σ.length + 1) Y)[σ.length + 1]? = some Y := fun P' Y => List.getElem?_set_self (by have := zA q1; simpa using this)
  have hT4 : ∀ P' Y,zbH (((S1.set id (rtO L3)).set (σ.length + 2) P').set (σ.length + 1) Y) tid t1' g1' A.2 := fun P' Y =>
   ((hT3.setB q3 hne).setN ((List.getElem?_set_ne (by omega)).trans q2) (fun _ _ _ e => by cases e) (by have := zA hT.box; omega)).setN (s4 P') (fun _ _ _ e => by cases e) (by have := zA hT.box; omega)
  have hB4 : ∀ P' Y,(((S1.set id (rtO L3)).set (σ.length + 2) P').set (σ.length + 1) Y)[id]? = some (rtO L3) := fun P' Y => by
   rw [List.getElem?_set_ne (by omega),List.getElem?_set_ne (by omega),List.getElem?_set_self (zA q3)]
  have hS4 : ∀ P' Y,ztV σ (((S1.set id (rtO L3)).set (σ.length + 2) P').set (σ.length + 1) Y) id tid := fun P' Y => ⟨by have := zA q2; simp; omega,fun j x h1 h2 h3 h4 => by
   have := zA h1
   rw [List.getElem?_set_ne (by omega),List.getElem?_set_ne (by omega),List.getElem?_set_ne (Ne.symm h2)]
   exact qr j x h1 h2 h3 h4⟩
  refine gq2 (zc s1 (zc s2 s3)) ?_
  cases c4 : (r.1 == 0)
  ·cases c5 : (d == 0)
   ·rw [if_neg (by simp at c4 c5; omega)] at hex
    refine gq2 (zc c4 (zc c5 (zc s1 (zc s2 (zc s3 (zc s4 s5)))))) ?_
    refine zlO ?_
    exact done _ hex _ t1' g1' N (hT4 _ _) (hB4 _ _) (hS4 _ _)
   ·rw [if_pos (.inr (by simpa using c5))] at hex
    refine gq2 (zc c4 (zc c5 (zc s1 (zc s2 (zc s3 (zc s4 s5)))))) ?_
    refine zlO ?_
    exact done _ hex _ t1' g1' [] (hT4 _ _) (hB4 _ _) (hS4 _ _)
  ·rw [if_pos (.inl (by simpa using c4))] at hex
   refine gq2 (zc c4 (zc s1 (zc s2 (zc s3 (zc s4 s5))))) ?_
   refine zlO ?_
   exact done _ hex _ t1' g1' [] (hT4 _ _) (hB4 _ _) (hS4 _ _)
end Go.Proofs.YtfjommppajkpoaaGreat
