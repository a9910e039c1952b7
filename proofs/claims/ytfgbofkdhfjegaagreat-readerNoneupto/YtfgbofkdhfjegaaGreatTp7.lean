/- Contracts: a batch is executed, as the document does. -/
import Derived.Test.YtfgbofkdhfjegaaGreatTp5
import Derived.Test.YtfgbofkdhfjegaaGreatRq5
set_option linter.all false
set_option maxRecDepth 100000
namespace Go.Proofs.YtfgbofkdhfjegaaGreat
open Go.AW
structure ExecR where
 e : Int
 h : zcS
 p : List zbb
 L : List (List UInt8)
 T : zcc
def zdl (L : List (List UInt8)) (T : zcc) (h : zcS) (b : List zq) : ExecR :=
 if zba h ≠ 0 then ⟨zba h,ztL, [],L,T⟩
 else if h.seq = 9007199254740992 then ⟨6,ztL, [],L,T⟩
 else if digE L b ≠ 0 then ⟨digE L b,ztL, [],zlk L b,T⟩
 else if hdigE (zlk L b) h ≠ 0 then ⟨hdigE (zlk L b) h,ztL, [],zeF (zlk L b) h,T⟩
 else
  let L2 := zeF (zlk L b) h
  let a := zX T b
  let r := rootF L2 (a.1.map zaJ)
  let d := zdw r.2 (zfp a.2)
  if r.1 = 0 ∨ d = 0 then ⟨6,ztL, [],zeI r.2 (zfp a.2),a.2⟩
  else ⟨0,⟨h.seq + 1,zlf (zlk L b) h,digD L b,r.1,d⟩,a.1,zeI r.2 (zfp a.2),a.2⟩
structure zts (σ S : List zh) (id tid : Nat) : Prop where
 len : σ.length ≤ S.length
 get : ∀ (j : Nat) (x : zh), σ[j]? = some x → j ≠ id → j ≠ tid → (∀ g sz cs,x ≠ .row g sz cs) → S[j]? = some x
theorem zts.app {σ : List zh} {id tid : Nat} (X : zh) (τ : List zh) : zts σ (σ.set id X ++ τ) id tid :=
 ⟨by simp,fun j x hx h1 h2 h3 => zd ((List.getElem?_set_ne (Ne.symm h1)).trans hx)⟩
theorem zco.setN {σ : List zh} {id t g j : Nat} {T : zcc} {x y : zh} (h : zco σ id t g T) (hj : σ[j]? = some x) (hr : ∀ g sz cs,x ≠ .row g sz cs) (hne : j ≠ id) : zco (σ.set j y) id t g T :=
 ⟨by rw [List.getElem?_set_ne hne]; exact h.box,by rw [List.getElem?_set_ne (fun e => by subst e; have := h.row; rw [hj] at this; cases this; exact hr _ _ _ rfl)]; exact h.row,h.last⟩
structure ExJ (σ : List zh) (n tid : Nat) (H P : zh) (A : List zbb × zcc) (N : List (List D)) (S : List zh) (t g : Nat) : Prop where
 top : zco S tid t g A.2
 hb : S[n]? = some H
 zb : S[n + 1]? = some (.box [.d (.int .i64 0), .d (.int .i64 0), .d (.int .i64 0), .d (.int .i64 0), .d (.int .i64 0)])
 pb : S[n + 2]? = some P
 m : S[n + 3]? = some (.tok 3 A.1.length)
 k : S[n + 4]? = some (.tok 5 N.length)
 rest : ∀ (j : Nat) (x : zh), σ[j]? = some x → j ≠ tid → (∀ g sz cs,x ≠ .row g sz cs) → S[j]? = some x
theorem dig_len {L : List (List UInt8)} {l : List zq} (h : digE L l = 0) : l.length ≤ 4 := by
 unfold digE zV at h
 by_cases hl : l.length > 4
 ·rw [if_pos hl] at h; simp at h
 ·omega
theorem placedB_len' {p : zbb} (h : PlI p) : (zaJ p).length ≤ 1073740000 := by
 have h1 := h.2.2.1; have h2 := h.2.2.2
 have h3 := zE (n := p.offset.toNat) (by have := h.2.1; omega)
 have h4 := zE (n := p.topic.length) (by omega)
 have h5 := zE (n := p.rec_.length) (by omega)
 simp only [zaJ,zoT,List.length_append]
 omega
theorem gq40 {A P Q : Prop} (a : A) (h : Q) (e : A → Hd Q → P := by intro a h; (repeat' first | simp -dsimp only [↓zfT, ↓zaI, ↓zbP, ↓zfV, ↓zfN, ↓zfL, ↓zfO, ↓zfM, ↓zbU, ↓zbQ, ↓zbV, ↓zbR, ↓zfP, ↓zbN, ↓zbW, ↓zbS, ↓zbX, ↓zbT, ↓zfK, ↓zfQ, ↓zbM, ↓zbY, ↓zfF, ↓zfE, ↓zfH,iN,bT,bF,eN, ↓zcJ, ↓unC, ↓zaa, ↓zK, ↓zL, ↓zO, ↓zaf, ↓zaz, ↓zcK, ↓zar, ↓zbk, ↓zR, ↓zo, ↓zj, ↓zbz, ↓zg, ↓zam, ↓zH, ↓zaV, ↓zbc, ↓ze, ↓zB, ↓zu, ↓zC, ↓zap, ↓zdk, ↓zdO, ↓zav, ↓zaF, ↓zaZ, ↓zbj, ↓zbt, ↓zA, ↓zas, ↓zM, ↓zF, ↓zae,zdP,zbI,zbC,unA,zdL,bnd,zeq,zag,zQ,zek,dm,dm1,zD,zak,zeP,zeO,zP,Q0,Q1,Q2,Q3,Q4,Q5,zW,zt,zy,zN,zJ,Q6,Q7,Q8,Q9,Q10,Q11,Q12,Q13,Q14,Nat.reduceAdd,Q15,Int.reduceToNat,Q16,Q17,Q18,Q19,Q20,reduceIte,Q21,Q22,zG,rep,zab,zfq,toD,zaq,Q23,Q24,Q25,Q26,Q27,Q28,Nat.reduceLeDiff,Q29,Nat.reduceSub,Q30,Q31,Q32,sc,Q33,Q34,Q35,Q36,Q37,Q26,Q38,Q39,zjD,zjA,zjx,zjE,zdf,zjB,zjy,zjC,zjz,zde,zdg,zjG,zjH,Bool.not_true,Bool.not_false,List.length_map,List.length_set,zcl,z1,z2,a] | with_reducible refine zjK ?_ | fail); exact h.go) : P := e a ⟨h⟩
theorem ztf {σ : List zh} {id tid t g : Nat} {T : zcc} {L : List (List UInt8)} {h : zcS} {b : List zq} (hT : zco σ tid t g T) (hI : zhn T) (hLa : zmM T.last) (hT2 : σ[id]? = some (rtO L)) (hL : zlT L) (hne : id ≠ tid)
  (hx : ∀ s ∈ b,zkF s.op ≤ 20971520) (hbl : b.length ≤ 1073741824) {K : KT}
  (hK : ∀ S t' g' N,zco S tid t' g' (zdl L T h b).T → S[id]? = some (rtO (zdl L T h b).L) → zts σ S id tid → K (.tup [ztK (zdl L T h b).h, .d (.slice (zbm (zdl L T h b).p)), .d (.slice N), .d (.int .i64 (zdl L T h b).e)]) S) :
  zp Tryz.prog zhV [.box id 0, .box tid 0,ztK h, .d (.slice (zdi b))] σ K := by
 refine zdV zpk.is rfl fun hl _ => zpk.goes ?_
 have hid := zx hT2
 have done : ∀ z,zdl L T h b = z → ∀ S t' g' N,zco S tid t' g' z.T → S[id]? = some (rtO z.L) → zts σ S id tid → K (.tup [ztK z.h, .d (.slice (zbm z.p)), .d (.slice N), .d (.int .i64 z.e)]) S := fun z h => h ▸ hK
 clear hK
 have hself := zbq hT2
 have hTs : ∀ X,zco (σ.set id X) tid t g T := fun X => hT.setB hT2 hne
 have same : ∀ e τ L',zdl L T h b = ⟨e,ztL, [],L',T⟩ → ztI K (some [ztK ztL, .exact [], .exact [], .d (.int .i64 e)]) (σ.set id (rtO L') ++ τ) := fun e τ L' h => zfX (done _ h _ t g [] ((hTs _).app _) (zd (List.getElem?_set_self hid)) (.app _ _))
 simp only [zpE,iN,bT,bF,eN,ztK]
 refine gq1 ?_
 refine c_hrCheck (h := h) ?_
 cases c0 : (zba h != 0)
 rotate_left
 ·refine gq2 c0 ?_
  have := same (zba h) [.box [.d (.int .i64 h.seq), .d (.int .i64 h.prev), .d (.int .i64 h.batch), .d (.int .i64 h.root), .d (.int .i64 h.state)], .box [.d (.int .i64 0), .d (.int .i64 0), .d (.int .i64 0), .d (.int .i64 0), .d (.int .i64 0)]] L (by rw [zdl,if_pos (by simpa using c0)])
  rw [hself] at this
  exact this
 cases c1 : (h.seq == 9007199254740992)
 rotate_left
 ·refine gq2 (zf c0 c1) ?_
  have := same 6 [.box [.d (.int .i64 h.seq), .d (.int .i64 h.prev), .d (.int .i64 h.batch), .d (.int .i64 h.root), .d (.int .i64 h.state)], .box [.d (.int .i64 0), .d (.int .i64 0), .d (.int .i64 0), .d (.int .i64 0), .d (.int .i64 0)]] L (by rw [zdl,if_neg (by simpa using c0),if_pos (by simpa using c1)])
  rw [hself] at this
  exact this
 have hok := zdU.1 (show zba h = 0 by simpa using c0)
 have xs : ∀ Y τ,(σ ++ τ).set id Y = σ.set id Y ++ τ := fun Y τ => List.set_append_left _ _ hid
 have hseq : 0 ≤ h.seq ∧ h.seq ≤ 9007199254740992 := zhg hok _ (by simp [zpQ])
 have w1 : IntKind.i64.wrap (h.seq + 1) = h.seq + 1 := zac (by omega) (by omega)
 refine gq2 (zf c0 (zf c1 w1)) ?_
 refine c_rqrDigest (zd hT2) hL hx (by omega) ?_
 rw [xs]
 have hl2 : ∀ X, σ.length = (σ.set id X).length := fun X => (List.length_set ..).symm
 have r0 : ∀ X τ,(σ.set id X ++ τ)[σ.length]? = τ[0]? := fun X τ => by rw [List.getElem?_append_right (by simp)]; simp
 have r1 : ∀ X τ,(σ.set id X ++ τ)[σ.length + 1]? = τ[1]? := fun X τ => by rw [List.getElem?_append_right (by simp)]; simp
 have r2 : ∀ X τ,(σ.set id X ++ τ)[σ.length + 2]? = τ[2]? := fun X τ => by rw [List.getElem?_append_right (by simp)]; simp
 have r3 : ∀ X τ,(σ.set id X ++ τ)[σ.length + 3]? = τ[3]? := fun X τ => by rw [List.getElem?_append_right (by simp)]; simp
 have t1 : ∀ X τ Y,(σ.set id X ++ τ).set (σ.length + 1) Y = σ.set id X ++ τ.set 1 Y := fun X τ Y => by rw [List.set_append_right _ _ (by simp)]; simp
 have t3 : ∀ X τ Y,(σ.set id X ++ τ).set (σ.length + 3) Y = σ.set id X ++ τ.set 3 Y := fun X τ Y => by rw [List.set_append_right _ _ (by simp)]; simp
 have t2 : ∀ X τ Y,(σ.set id X ++ τ).set (σ.length + 2) Y = σ.set id X ++ τ.set 2 Y := fun X τ Y => by rw [List.set_append_right _ _ (by simp)]; simp
 cases c2 : (digE L b != 0)
 rotate_left
 ·refine gq37 (zf c2 (zf r0 (zf r1 (zf r2 (zf r3 (zf t1 (zf t2 t3))))))) ?_
  exact same (digE L b) _ (zlk L b) (by rw [zdl,if_neg (by simpa using c0),if_neg (by simpa using c1),if_pos (by simpa using c2)])
 have hbl : b.length ≤ 1000000 := by have := dig_len (L := L) (l := b) (by simpa using c2); omega
 refine gq37 (zf c2 (zf r0 (zf r1 (zf r2 (zf r3 (zf t1 (zf t2 t3))))))) ?_
 have hd1 : (zlk L b).length ≤ 1048576 := by
  unfold zlk
  split
  ·exact hL.len
  ·exact zoN hL.len _
 have hd2 : (zeF (zlk L b) h).length ≤ 1048576 := by
  unfold zeF
  split
  ·exact hd1
  ·exact zoN hd1 _
 have xs2 : ∀ X τ Y,(σ.set id X ++ τ).set id Y = σ.set id Y ++ τ := fun X τ Y => by rw [List.set_append_left _ _ (by simpa using hid),List.set_set]
 refine zva (h := h) (zd (List.getElem?_set_self hid)) hd1 ?_
 rw [xs2]
 obtain ⟨L2,hL2⟩ : ∃ L2,zeF (zlk L b) h = L2 := ⟨_,rfl⟩
 obtain ⟨D2,hD2⟩ : ∃ D2,zlf (zlk L b) h = D2 := ⟨_,rfl⟩
 rw [hL2] at hd2 ⊢
 rw [hD2]
 cases c3 : (hdigE (zlk L b) h != 0)
 rotate_left
 ·refine gq37 (zf c3 (zf r0 (zf r1 (zf r2 (zf r3 (zf t1 (zf t2 t3))))))) ?_
  exact same (hdigE (zlk L b) h) _ L2 (by rw [zdl,if_neg (by simpa using c0),if_neg (by simpa using c1),if_neg (by simpa using c2),if_pos (by simpa using c3),hL2])
 refine gq37 (zf c3 (zf r0 (zf r1 (zf r2 (zf r3 (zf t1 (zf t2 t3))))))) ?_
 have hex : zdl L T h b = if (rootF L2 ((zX T b).1.map zaJ)).1 = 0 ∨ zdw (rootF L2 ((zX T b).1.map zaJ)).2 (zfp (zX T b).2) = 0 then ⟨6,ztL, [],zeI (rootF L2 ((zX T b).1.map zaJ)).2 (zfp (zX T b).2),(zX T b).2⟩
  else ⟨0,⟨h.seq + 1,D2,digD L b,(rootF L2 ((zX T b).1.map zaJ)).1,zdw (rootF L2 ((zX T b).1.map zaJ)).2 (zfp (zX T b).2)⟩,(zX T b).1,zeI (rootF L2 ((zX T b).1.map zaJ)).2 (zfp (zX T b).2),(zX T b).2⟩ := by
  rw [zdl,if_neg (by simpa using c0),if_neg (by simpa using c1),if_neg (by simpa using c2),if_neg (by simpa using c3),hL2,hD2]
 have hw : zoF [.exact [], .exact [], .d (.int .i64 0)] (σ.set id (rtO L2) ++ [.box [.d (.int .i64 h.seq), .d (.int .i64 h.prev), .d (.int .i64 h.batch), .d (.int .i64 h.root), .d (.int .i64 h.state)], .box [.d (.int .i64 0), .d (.int .i64 0), .d (.int .i64 0), .d (.int .i64 0), .d (.int .i64 0)], .box [.d (.int .i64 (h.seq + 1)), .d (.int .i64 D2), .d (.int .i64 (digD L b)), .d (.int .i64 0), .d (.int .i64 0)]])
   [.own (σ.length + 3) [], .own (σ.length + 4) [], .d (.int .i64 0)] (σ.set id (rtO L2) ++ [.box [.d (.int .i64 h.seq), .d (.int .i64 h.prev), .d (.int .i64 h.batch), .d (.int .i64 h.root), .d (.int .i64 h.state)], .box [.d (.int .i64 0), .d (.int .i64 0), .d (.int .i64 0), .d (.int .i64 0), .d (.int .i64 0)], .box [.d (.int .i64 (h.seq + 1)), .d (.int .i64 D2), .d (.int .i64 (digD L b)), .d (.int .i64 0), .d (.int .i64 0)], .tok 3 0, .tok 5 0]) := by
  refine .tok 0 [] 3 rfl (by simp) (.tok 1 [] 5 rfl (by simp) ?_)
  simp only [List.length_append,List.length_set,List.length_cons,List.length_nil,List.set_cons_zero,List.set_cons_succ,List.append_assoc,List.cons_append,List.nil_append,Nat.zero_add,Nat.reduceAdd,Nat.add_assoc]
  exact .refl _ _
 have hbat : (zdi b).length = b.length := List.length_map ..
 refine zcu b.length (fun k vs S => ∃ t g N,vs = [.own (σ.length + 3) (zbm (zX T (b.take k)).1), .own (σ.length + 4) N, .d (.int .i64 k)] ∧ N.length = k ∧ (∀ e ∈ N,e.length = 5) ∧ ExJ (σ.set id (rtO L2)) σ.length tid (.box [.d (.int .i64 h.seq), .d (.int .i64 h.prev), .d (.int .i64 h.batch), .d (.int .i64 h.root), .d (.int .i64 h.state)]) (.box [.d (.int .i64 (h.seq + 1)), .d (.int .i64 D2), .d (.int .i64 (digD L b)), .d (.int .i64 0), .d (.int .i64 0)]) (zX T (b.take k)) N S t g) hw ⟨t,g, [],rfl,rfl,by simp,(hTs _).app _,by rw [r0]; rfl,by rw [r1]; rfl,by rw [r2]; rfl,by rw [r3]; rfl,by rw [List.getElem?_append_right (by simp)]; simp,fun j x hx _ _ => zd hx⟩ ?_
 rintro k vs S hk ⟨t1',g1',N,rfl,hN,hN5,hJ⟩
 have hAI := ztq (b.take k) hI
 have hAP := (zmw (b.take k) hI).2
 rw [List.length_take,Nat.min_eq_left hk] at hAP
 by_cases hlt : k < b.length
 ·have hd : decide ((k : Int) < (b.length : Int)) = true := by simp; omega
  have hy : b[k]? = some b[k] := by simp [hlt]
  have hys := hx _ (List.getElem_mem hlt)
  obtain ⟨y,hye⟩ : ∃ y,b[k] = y := ⟨_,rfl⟩
  rw [hye] at hy hys
  have hgy := zS (f := zcl) hy
  have hz := hys
  unfold zkF at hz
  have hrl := zkM y.op.recs
  refine gq2 (zf hd (zf hbat hgy)) ?_
  refine ⟨rfl,by show 7 ≤ 9; omega, ?_⟩
  refine c_r7Apply (c := y.client) (tm := y.time) (o := y.op) hJ.top hAI.len hAI.tops (by omega) (by omega) (by omega) (fun r hr => by have := rec_le hr; omega) fun S' t2 g2 hT' hS' => ?_
  obtain ⟨A,hA⟩ : ∃ A,zX T (b.take k) = A := ⟨_,rfl⟩
  have hA2 : zX T (b.take (k + 1)) = (A.1 ++ (zcw A.2 y.client y.time y.op).2.1,(zcw A.2 y.client y.time y.op).2.2.2) := by
   rw [List.take_add_one,hy, ← hA]; exact zpz y _ T
  rw [hA] at hJ hAI hAP hT' ⊢
  obtain ⟨hap1,hap2⟩ := applyP hAI y.client y.time y.op
  obtain ⟨D,hD⟩ : ∃ D,zcw A.2 y.client y.time y.op = D := ⟨_,rfl⟩
  rw [hD] at hA2 hT' hap1 hap2 ⊢
  have e3 := hS'.get _ _ hJ.m (by have := zx hT.box; omega) (fun _ _ _ e => by cases e)
  have e4 := hS'.get _ _ hJ.k (by have := zx hT.box; omega) (fun _ _ _ e => by cases e)
  have l3 := zx e3; have l4 := zx e4
  have x3 : ∀ τ,(S' ++ τ)[σ.length + 3]? = _ := fun τ => zd e3
  have y3 : ∀ τ Y,(S' ++ τ).set (σ.length + 3) Y = S'.set (σ.length + 3) Y ++ τ := fun τ Y => List.set_append_left _ _ l3
  have x4 : ∀ τ Y,(S'.set (σ.length + 3) Y ++ τ)[σ.length + 4]? = _ := fun τ Y => zd ((List.getElem?_set_ne (by omega)).trans e4)
  have y4 : ∀ τ Y Z,(S'.set (σ.length + 3) Y ++ τ).set (σ.length + 4) Z = (S'.set (σ.length + 3) Y).set (σ.length + 4) Z ++ τ := fun τ Y Z => List.set_append_left _ _ (by simpa using l4)
  have z1 : ∀ a τ,(S' ++ a :: τ)[S'.length]? = some a := fun a τ => zy ..
  have z2 : ∀ Y a τ,(S'.set (σ.length + 3) Y ++ a :: τ)[S'.length]? = some a := fun Y a τ => by rw [List.getElem?_append_right (by simp)]; simp
  refine gq40 (zf hbat (zf hgy (zf x3 (zf y3 (zf x4 (zf y4 (wkc k (by omega)))))))) ?_
  have e0 := hS'.get _ _ hJ.hb (by have := zx hT.box; omega) (fun _ _ _ e => by cases e)
  have e1 := hS'.get _ _ hJ.zb (by have := zx hT.box; omega) (fun _ _ _ e => by cases e)
  have e2 := hS'.get _ _ hJ.pb (by have := zx hT.box; omega) (fun _ _ _ e => by cases e)
  have g3 : ∀ (j : Nat) (x : zh),j ≠ σ.length + 3 → j ≠ σ.length + 4 → S'[j]? = some x → ∀ X Y τ,((S'.set (σ.length + 3) X).set (σ.length + 4) Y ++ τ)[j]? = some x := fun j x h3 h4 h X Y τ => zd (by rw [List.getElem?_set_ne (Ne.symm h4),List.getElem?_set_ne (Ne.symm h3)]; exact h)
  refine zaG.next hlt ⟨t2,g2,N ++ [[.int .i64 y.client, .int .i64 y.time, .int .i64 D.1.1, .int .i64 D.1.2, .bool D.2.2.1]], ?_,by simp [hN], ?_, ?_, ?_, ?_, ?_, ?_, ?_, ?_⟩
  ·rw [hA2]; simp
  ·intro e he
   rcases List.mem_append.1 he with he | he
   ·exact hN5 e he
   ·simp only [List.mem_singleton] at he; subst he; rfl
  ·rw [hA2]
   exact ((hT'.setN e3 (fun _ _ _ e => by cases e) (by have := zx hT.box; omega)).setN ((List.getElem?_set_ne (by omega)).trans e4) (fun _ _ _ e => by cases e) (by have := zx hT.box; omega)).app _
  ·exact g3 _ _ (by omega) (by omega) e0 _ _ _
  ·exact g3 _ _ (by omega) (by omega) e1 _ _ _
  ·exact g3 _ _ (by omega) (by omega) e2 _ _ _
  ·refine zd ?_
   rw [List.getElem?_set_ne (by omega),List.getElem?_set_self l3,hA2]; simp
  ·refine zd ?_
   rw [List.getElem?_set_self (by simpa using l4)]; simp
  ·intro j x hx hj hr
   have hlj : j < σ.length := by have := zx hx; simpa using this
   exact g3 _ _ (by omega) (by omega) (hS'.get j x (hJ.rest j x hx hj hr) hj hr) _ _ _
 ·have hd : decide ((k : Int) < (b.length : Int)) = false := by simp; omega
  have hko : b.take k = b := List.take_of_length_le (by omega)
  rw [hko] at hJ hAI hAP ⊢
  have hS1 : S[id]? = some (rtO L2) := hJ.rest _ _ (List.getElem?_set_self hid) hne (fun _ _ _ e => by cases e)
  have hAL := ztp b hI hLa
  have hAQ := (zmw b hI).1
  obtain ⟨A,hA⟩ : ∃ A,zX T b = A := ⟨_,rfl⟩
  rw [hA] at hex hJ hAI hAP hAL hAQ ⊢
  have hsm : ∀ p ∈ A.1,zlV p := fun p hp => ⟨⟨by have := (hAQ p hp).1; omega,by have := (hAQ p hp).2.1; omega⟩,by have := (hAQ p hp).2.2.1; omega,by have := (hAQ p hp).2.2.2; omega⟩
  refine gq2 (zf hd hbat) ?_
  refine zuX (l := A.1) (by omega) hsm ?_
  refine gq1 ?_
  refine znj hS1 hd2 (by simp; omega) (fun x hx => ?_) ?_
  ·obtain ⟨p,hp,rfl⟩ := List.mem_map.1 hx
   exact placedB_len' (hAQ p hp)
  obtain ⟨r,hr⟩ : ∃ r,rootF L2 (A.1.map zaJ) = r := ⟨_,rfl⟩
  have hr2 : r.2.length ≤ 1048576 := by rw [← hr]; exact (zdQ _ (Nat.le_refl _) hd2).1
  rw [hr] at hex ⊢
  have hT3 : zco (S.set id (rtO r.2)) tid t1' g1' A.2 := hJ.top.setB hS1 hne
  have q1 : (S.set id (rtO r.2))[σ.length + 1]? = some _ := (List.getElem?_set_ne (by omega)).trans hJ.zb
  have q2 : (S.set id (rtO r.2))[σ.length + 2]? = some _ := (List.getElem?_set_ne (by omega)).trans hJ.pb
  have q3 : (S.set id (rtO r.2))[id]? = some (rtO r.2) := List.getElem?_set_self (zx hS1)
  have qr : ∀ (j : Nat) (x : zh), σ[j]? = some x → j ≠ id → j ≠ tid → (∀ g sz cs,x ≠ .row g sz cs) → (S.set id (rtO r.2))[j]? = some x := fun j x h1 h2 h3 h4 => (List.getElem?_set_ne (Ne.symm h2)).trans (hJ.rest j x ((List.getElem?_set_ne (Ne.symm h2)).trans h1) h3 h4)
  obtain ⟨S1,hS1'⟩ : ∃ S1,S.set id (rtO r.2) = S1 := ⟨_,rfl⟩
  rw [hS1'] at hT3 q1 q2 q3 qr ⊢
  have l2 := zx q2
  refine gq2 q2 ?_
  refine zuY (hT3.setN q2 (fun _ _ _ e => by cases e) (by have := zx hT.box; omega)) hAI hAL ((List.getElem?_set_ne (by omega)).trans q3) hr2 ?_
  obtain ⟨d,hd4⟩ : ∃ d,zdw r.2 (zfp A.2) = d := ⟨_,rfl⟩
  obtain ⟨L3,hL3⟩ : ∃ L3,zeI r.2 (zfp A.2) = L3 := ⟨_,rfl⟩
  rw [hd4,hL3] at hex ⊢
  have s1 : ∀ P',((S1.set (σ.length + 2) P').set id (rtO L3))[σ.length + 2]? = some P' := fun P' => (List.getElem?_set_ne (by omega)).trans (List.getElem?_set_self l2)
  have s2 : ∀ P' P'',((S1.set (σ.length + 2) P').set id (rtO L3)).set (σ.length + 2) P'' = (S1.set id (rtO L3)).set (σ.length + 2) P'' := fun P' P'' => by
   rw [List.set_comm _ _ (by omega),List.set_set,List.set_comm _ _ (by omega)]
  have s3 : ∀ P',((S1.set id (rtO L3)).set (σ.length + 2) P')[σ.length + 2]? = some P' := fun P' => List.getElem?_set_self (by simpa using l2)
  have s4 : ∀ P',((S1.set id (rtO L3)).set (σ.length + 2) P')[σ.length + 1]? = some _ := fun P' => (List.getElem?_set_ne (by omega)).trans ((List.getElem?_set_ne (by omega)).trans q1)
  have s5 : ∀ P' Y,(((S1.set id (rtO L3)).set (σ.length + 2) P').set (σ.length + 1) Y)[σ.length + 1]? = some Y := fun P' Y => List.getElem?_set_self (by have := zx q1; simpa using this)
  have hT4 : ∀ P' Y,zco (((S1.set id (rtO L3)).set (σ.length + 2) P').set (σ.length + 1) Y) tid t1' g1' A.2 := fun P' Y =>
   ((hT3.setB q3 hne).setN ((List.getElem?_set_ne (by omega)).trans q2) (fun _ _ _ e => by cases e) (by have := zx hT.box; omega)).setN (s4 P') (fun _ _ _ e => by cases e) (by have := zx hT.box; omega)
  have hB4 : ∀ P' Y,(((S1.set id (rtO L3)).set (σ.length + 2) P').set (σ.length + 1) Y)[id]? = some (rtO L3) := fun P' Y => by
   rw [List.getElem?_set_ne (by omega),List.getElem?_set_ne (by omega),List.getElem?_set_self (zx q3)]
  have hS4 : ∀ P' Y,zts σ (((S1.set id (rtO L3)).set (σ.length + 2) P').set (σ.length + 1) Y) id tid := fun P' Y => ⟨by have := zx q2; simp; omega,fun j x h1 h2 h3 h4 => by
   have := zx h1
   rw [List.getElem?_set_ne (by omega),List.getElem?_set_ne (by omega),List.getElem?_set_ne (Ne.symm h2)]
   exact qr j x h1 h2 h3 h4⟩
  refine gq2 (zf s1 (zf s2 s3)) ?_
  cases c4 : (r.1 == 0)
  ·cases c5 : (d == 0)
   ·rw [if_neg (by simp at c4 c5; omega)] at hex
    refine gq2 (zf c4 (zf c5 (zf s1 (zf s2 (zf s3 (zf s4 s5)))))) ?_
    refine zfX ?_
    exact done _ hex _ t1' g1' N (hT4 _ _) (hB4 _ _) (hS4 _ _)
   ·rw [if_pos (.inr (by simpa using c5))] at hex
    refine gq2 (zf c4 (zf c5 (zf s1 (zf s2 (zf s3 (zf s4 s5)))))) ?_
    refine zfX ?_
    exact done _ hex _ t1' g1' [] (hT4 _ _) (hB4 _ _) (hS4 _ _)
  ·rw [if_pos (.inl (by simpa using c4))] at hex
   refine gq2 (zf c4 (zf s1 (zf s2 (zf s3 (zf s4 s5))))) ?_
   refine zfX ?_
   exact done _ hex _ t1' g1' [] (hT4 _ _) (hB4 _ _) (hS4 _ _)
end Go.Proofs.YtfgbofkdhfjegaaGreat
