/- Chapter 25: the record that is read, as the document tells: plain. -/
import Derived.Test.YtfgbofkdhfjegaaGreatPu1
import Derived.Test.YtfgbofkdhfjegaaGreatNr3
import Derived.Test.YtfgbofkdhfjegaaGreatPt2
import Derived.Test.YtfgbofkdhfjegaaGreatBt3
import Derived.Test.YtfgbofkdhfjegaaGreatCk3
import Derived.Test.YtfgbofkdhfjegaaGreatMk8
import Derived.Test.YtfgbofkdhfjegaaGreatHi1
import Derived.Test.YtfgbofkdhfjegaaGreatBase
import Derived.Test.YtfgbofkdhfjegaaGreatAwLoop
set_option linter.all false
set_option maxRecDepth 100000
namespace Go.Proofs.YtfgbofkdhfjegaaGreat
open Go.AW
def lvC : TCas := ⟨1, 0, [116], 0, [[1], [2], [3]], 7, [], []⟩
def lvS : zaQ := bgF (ksC lvC) (zpQ lvC.recs)
def lvM (o : Int) : zlj := { zfP with kind := 12,src := 1,proof := zgL lvS o }
theorem lv_new : zeH 1 0 [116] 0 = 0 := by decide +kernel
theorem lv_other : zfD lvS.L lvS.G (zmY 1 0 [116] 0) (lvM 1) = 250 := by decide +kernel
theorem lv_right : zfD lvS.L lvS.G (zmY 1 0 [116] 0) (lvM 0) = 0 := by decide +kernel
theorem take_rest' {σ S : List zh} (h : ∀ (j : Nat) (x : zh), σ[j]? = some x → S[j]? = some x) : S.take σ.length = σ := by
 apply List.ext_getElem?
 intro i
 rw [List.getElem?_take]
 split
 ·rename_i hi
  rw [h i _ (List.getElem?_eq_getElem hi),List.getElem?_eq_getElem hi]
 ·rw [List.getElem?_eq_none (by omega)]
theorem ends_rest' {σ S : List zh} {K : KT} {l : List AV} (h : S.take σ.length = σ) (h1 : Low σ.length (dmT (zcC l))) (hl : zfs σ.length σ) (hK : K (dmT (zcC l)) σ) : AW.Ends σ.length K (some l) S := by
 unfold AW.Ends
 rw [h]
 exact ⟨h1,hl,hK⟩
theorem zui {recs : List (List UInt8)} (h : ∀ r ∈ recs,r.length ≤ 1048576) : ∀ x ∈ zpQ recs,zkr x.op ≤ 20971520 := fun x hx => by
 simp only [zpQ,List.mem_cons] at hx
 rcases hx with rfl | hx
 ·decide
 ·obtain ⟨j,hj,rfl⟩ := List.mem_mapIdx.1 hx
  have := h _ (List.mem_of_mem_take (List.getElem_mem hj))
  obtain ⟨y,hy⟩ : ∃ y,(List.take 24 recs)[j] = y := ⟨_,rfl⟩
  rw [hy] at this ⊢
  simp [pubR,zkr]
  omega
theorem rqsF_len (recs : List (List UInt8)) : (zpQ recs).length ≤ 25 := by simp [zpQ]; omega
theorem lvOk : casOk lvC := ⟨⟨by decide,by decide⟩,⟨by decide,by decide⟩,by decide,⟨by decide,by decide⟩,by decide,by decide,by decide,by decide,by decide,by simp [lvC]⟩
theorem ksC_len (c : TCas) : (ksC c).length ≤ 13 := zvH _ _
theorem bgC_I {c : TCas} (hc : casOk c) : StI 350 50 (bgF (ksC c) (zpQ c.recs)) := bgF_I (zui hc.each) (rqsF_len _) (ksC_len c)
theorem bgC_H {c : TCas} (hc : casOk c) : ziP (ksC c) st0.h (bgF (ksC c) (zpQ c.recs)) := bgF_H (zui hc.each) (rqsF_len _) (memF_rng _)
def lvX1 : TAct := ⟨2, 1,false,zfP⟩
def lvX2 : TAct := ⟨1, 0,false,zfP⟩
theorem lvX1_ok : actOk lvX1 := ⟨⟨by decide,by decide⟩,zhT⟩
theorem lvX2_ok : actOk lvX2 := ⟨⟨by decide,by decide⟩,zhT⟩
theorem lv_all (s : zaQ) (h : bgF (ksC lvC) (zpQ lvC.recs) = s) : zfD s.L s.G (zmY 1 0 [116] 0) (zgb s (zmY 1 0 [116] 0) lvX1) = 250 ∧ zfD s.L s.G (zmY 1 0 [116] 0) (zgb s (zmY 1 0 [116] 0) lvX2) = 0 := by
 subst h
 exact ⟨lv_other,lv_right⟩
theorem c_live25 {σ : List zh} (hσ : ∀ x ∈ σ, ∀ g sz cs,x ≠ .row g sz cs) {K : KT} (hK : K (.d (.bool true)) σ) : zr Tryz.prog zqe [] σ K := by
 refine acE0 e_l25_live fun hl => ?_
 simp only [zvp,iN,bT,bF,eN,zl0]
 refine gq1 ?_
 refine c_begunOn lvOk (fun h => absurd lv_new h) fun _ S a b u v hO => ?_
 have hI := bgC_I lvOk
 have hH := bgC_H lvOk
 obtain ⟨s,hs⟩ : ∃ s,bgF (ksC lvC) (zpQ lvC.recs) = s := ⟨_,rfl⟩
 rw [hs] at hO hI hH
 obtain ⟨k1,k2⟩ := lv_all s hs
 change OnR σ (.box (znr lvC)) s s.L s.G 0 a b u 0 v (zmY 1 0 [116] 0) (zmY 1 0 [116] 0) S at hO
 obtain ⟨r0,hr0⟩ : ∃ r0,zmY 1 0 [116] 0 = r0 := ⟨_,rfl⟩
 rw [hr0] at hO k1 k2
 have st := hO.e.st
 have ra := hO.ra
 refine gq2 (zf st ra) ?_
 refine c_rdAsk ra ?_
 have hak : askR r0 = [(0,askM r0)] := by rw [← hr0]; rfl
 rw [hak]
 refine gq2 (zf st ra) ?_
 refine c_comes (x := lvX1) hO.e ra hI (by omega) hH hO.i lvX1_ok ?_
 refine gq2 (zf st ra) ?_
 refine zwh (n := 0) ra hO.ru hO.e.tab hO.e.led hI.tab (by have := hI.led; omega) hO.i (by omega) (zkv hI (by omega) hO.i lvX1_ok) (fun _ τ => ?_) (fun h => by rw [k1] at h; omega)
 rw [k1]
 have hO1 := hO.app τ
 obtain ⟨S1,hS1⟩ : ∃ S1,S ++ τ = S1 := ⟨_,rfl⟩
 rw [hS1] at hO1 ⊢
 have st1 := hO1.e.st
 have ra1 := hO1.ra
 refine gq2 (zf st1 ra1) ?_
 refine c_comes (x := lvX2) hO1.e ra1 hI (by omega) hH hO1.i lvX2_ok ?_
 refine gq2 (zf st1 ra1) ?_
 refine zwh (n := 0) ra1 hO1.ru hO1.e.tab hO1.e.led hI.tab (by have := hI.led; omega) hO1.i (by omega) (zkv hI (by omega) hO1.i lvX2_ok) (fun h => absurd k2 h) (fun _ g' τ => ?_)
 have hO2 := ((hO1.mono (Nat.le_refl 1 |> Nat.le_of_succ_le)).take (g' := g') (r' := zfa r0 (zgb s r0 lvX2)) (by have := take_I (L := s.L) (G := s.G) hO1.i (m := zgb s r0 lvX2) (zkv hI (by omega) hO1.i lvX2_ok).proof.rec_; rwa [takeR,if_pos k2] at this)).app τ
 obtain ⟨r1,hr1⟩ : ∃ r1,zfa r0 (zgb s r0 lvX2) = r1 := ⟨_,rfl⟩
 have q1 : r1.next = 1 := by rw [← hr1, ← hr0]; rfl
 have q2 : r1.L.length = 1 := by rw [← hr1, ← hr0]; rfl
 have q3 : askR r1 = [(0,askM r1)] := by rw [askR,q1,if_neg (by omega), ← hr1, ← hr0]; rfl
 rw [hr1] at hO2 ⊢
 obtain ⟨S2,hS2⟩ : ∃ S2,(S1.set u (.row g' 3 (zpS r1.L))).set a (rdB r1 (.box (σ.length + 4) 0) (.box (σ.length + 7) 0) (rsv u g' r1.L)) ++ τ = S2 := ⟨_,rfl⟩
 rw [hS2] at hO2 ⊢
 have st2 := hO2.e.st
 have ra2 := hO2.ra
 have hpl : (zaT r1.L).length = 1 := by rw [List.length_map]; exact q2
 rw [q3]
 refine zoV (zf st2 ra2) ?_
 refine zmS ra2 ?_
 rw [q1]
 refine zoV (zf st2 ra2) ?_
 refine zpk ra2 hO2.ru (by omega) (fun p hp => (hO2.i.recs p hp).1) ?_
 refine zoV (zf st2 (zf ra2 hpl)) ?_
 exact ends_rest' (take_rest' fun j x hx => hO2.e.rest j x hx (hσ x (List.mem_of_getElem? hx))) (by simp [zeD,dmT,dm,dm1,zcC]) hl hK
abbrev msgO (p : zca) : zh :=
 .box [.d (.int .i64 0), .d (.int .i64 0), .d (.int .i64 0), .d (.int .i64 0), .d (.int .i64 0), .d (.int .i64 0), .d (.int .i64 0), .d (.int .i64 0), .d (.int .i64 0), .d (.slice []), .d (.int .i64 0), .d (.int .i64 0), .d (.slice []), .d (.slice []), .d (.slice []), .d (.slice []), .d (.str []), .d (.int .i64 0),
  .d (.str p.topic), .d (.int .i64 p.offset), .d (.slice (bcs p.rec_)), .d (.slice (zio p.headers)), .d (.int .i64 p.index), .d (.int .i64 p.count), .d (.slice (zdB p.path)), .d (.int .i64 p.cert.seq), .d (.int .i64 p.cert.dig), .d (.slice (zaY p.cert.signs)), .d (.int .i64 0), .d (.int .i64 0)]
structure OrdI (tp : List UInt8) (o : Int) (r : zmW) : Prop where
 top : r.topic = tp
 next : r.next = o + r.L.length
 each : ∀ (i : Nat) p,r.L[i]? = some p → p.offset = o + i ∧ p.topic = tp
theorem ord_take {tp : List UInt8} {o : Int} {r : zmW} {m : zlj} (h : OrdI tp o r) : OrdI tp o (zfa r m) := by
 refine ⟨h.top, ?_,fun i p hp => ?_⟩
 ·have := h.next
  simp only [zfa,List.length_append,List.length_cons,List.length_nil]; omega
 ·simp only [zfa] at hp
  rcases Nat.lt_trichotomy i r.L.length with hi | hi | hi
  ·rw [List.getElem?_append_left hi] at hp
   exact h.each i p hp
  ·subst hi
   rw [List.getElem?_append_right (Nat.le_refl _),Nat.sub_self] at hp
   simp only [List.getElem?_cons_zero,Option.some.injEq] at hp
   subst hp
   exact ⟨h.next,h.top⟩
  ·rw [List.getElem?_eq_none (by simp; omega)] at hp
   cases hp
theorem ord_tick {tp : List UInt8} {o : Int} {r : zmW} (h : OrdI tp o r) : OrdI tp o (ztH r) := by
 unfold ztH
 split <;> exact ⟨h.top,h.next,h.each⟩
theorem tick_L (r : zmW) : (ztH r).L = r.L := by unfold ztH; split <;> rfl
def zlf : List (Bool × List Ty) := [(true,tyCas)]
theorem gq56 {A P Q : Prop} (a : A) (h : Q) (e : A → Hd Q → P := by intro a h; (repeat' first | simp -dsimp only [↓zeY, ↓zaC, ↓zbz, ↓zeZ, ↓zeU, ↓zeS, ↓zeV, ↓zeT, ↓zbE, ↓zbA, ↓zbF, ↓zbB, ↓zeW, ↓zby, ↓zbG, ↓zbC, ↓zbH, ↓zbD, ↓zeR, ↓zeX, ↓zbx, ↓zbJ, ↓zeP, ↓zeO, ↓zeQ,iN,bT,bF,eN, ↓zcF, ↓unC, ↓zW, ↓zK, ↓zL, ↓zN, ↓zad, ↓zax, ↓zcB, ↓zal, ↓zbj, ↓zQ, ↓zo, ↓zj, ↓zbr, ↓zg, ↓zai, ↓zH, ↓zaM, ↓zaV, ↓ze, ↓zD, ↓zw, ↓zB, ↓zao, ↓zdb, ↓zdx, ↓zaq, ↓zay, ↓zaU, ↓zbd, ↓zbl, ↓zu, ↓zan, ↓zM, ↓zE, ↓zaa,zdz,zbq,zbn,unA,zdy,bnd,zec,zaf,zS,zdY,dm,dm1,zC,zah,zen,zem,zP,Q0,Q1,Q2,Q3,Q4,Q5,zT,zx,zy,zO,zI,Q6,Q7,Q8,Q9,Q10,Q11,Q12,Q13,Q14,Nat.reduceAdd,Q15,Int.reduceToNat,Q16,Q17,Q18,Q19,Q20,reduceIte,Q21,Q22,zG,rep,zZ,zeF,toD,zaj,Q23,Q24,Q25,Q26,Q27,Q28,Nat.reduceLeDiff,Q29,Nat.reduceSub,Q30,Q31,Q32,sc,Q33,Q34,Q35,Q36,Q37,Q26,Q38,Q39,zii,zif,zic,zij,zcN,zig,zid,zih,zie,zcM,zcO,zim,zin,Bool.not_true,Bool.not_false,List.length_map,actD,msgD,a] | with_reducible refine zix ?_ | fail); exact h.go) : P := e a ⟨h⟩
theorem gq57 {A P Q : Prop} (a : A) (h : Q) (e : A → Hd Q → P := by intro a h; (repeat' first | simp -dsimp only [↓zeY, ↓zaC, ↓zbz, ↓zeZ, ↓zeU, ↓zeS, ↓zeV, ↓zeT, ↓zbE, ↓zbA, ↓zbF, ↓zbB, ↓zeW, ↓zby, ↓zbG, ↓zbC, ↓zbH, ↓zbD, ↓zeR, ↓zeX, ↓zbx, ↓zbJ, ↓zeP, ↓zeO, ↓zeQ,iN,bT,bF,eN, ↓zcF, ↓unC, ↓zW, ↓zK, ↓zL, ↓zN, ↓zad, ↓zax, ↓zcB, ↓zal, ↓zbj, ↓zQ, ↓zo, ↓zj, ↓zbr, ↓zg, ↓zai, ↓zH, ↓zaM, ↓zaV, ↓ze, ↓zD, ↓zw, ↓zB, ↓zao, ↓zdb, ↓zdx, ↓zaq, ↓zay, ↓zaU, ↓zbd, ↓zbl, ↓zu, ↓zan, ↓zM, ↓zE, ↓zaa,zdz,zbq,zbn,unA,zdy,bnd,zec,zaf,zS,zdY,dm,dm1,zC,zah,zen,zem,zP,Q0,Q1,Q2,Q3,Q4,Q5,zT,zx,zy,zO,zI,Q6,Q7,Q8,Q9,Q10,Q11,Q12,Q13,Q14,Nat.reduceAdd,Q15,Int.reduceToNat,Q16,Q17,Q18,Q19,Q20,reduceIte,Q21,Q22,zG,rep,zZ,zeF,toD,zaj,Q23,Q24,Q25,Q26,Q27,Q28,Nat.reduceLeDiff,Q29,Nat.reduceSub,Q30,Q31,Q32,sc,Q33,Q34,Q35,Q36,Q37,Q26,Q38,Q39,zii,zif,zic,zij,zcN,zig,zid,zih,zie,zcM,zcO,zim,zin,Bool.not_true,Bool.not_false,List.length_map,beq_self_eq_true,bne,zdi,a] | with_reducible refine zix ?_ | fail); exact h.go) : P := e a ⟨h⟩
set_option maxHeartbeats 4000000 in
theorem zsp (xs : List AV) (n : Nat) (hn : n ≤ 1048576) (h : ArgsOk zlf xs n) : zr Tryz.prog zgy xs [] fun r _ => r = .d (.bool true) := by
 obtain ⟨ds,xs1,m1,hf,hb1,rfl,rfl⟩ := h
 obtain ⟨c,rfl,hc⟩ := dec_cas hf (by omega)
 show zr Tryz.prog zgy [.agg (znr c)] [] _
 clear hf hb1
 obtain ⟨σ,hσ⟩ : ∃ σ : List zh,([] : List zh) = σ := ⟨_,rfl⟩
 have hσr : ∀ x ∈ σ, ∀ g sz cs,x ≠ .row g sz cs := by subst hσ; simp
 rw [hσ]
 clear hσ
 refine zgk zqq fun hl => ?_
 simp only [zkm,iN,bT,bF,eN,zl0]
 refine gq1 ?_
 have hρr : ∀ x ∈ σ ++ [zh.box (znr c)], ∀ g sz cs,x ≠ .row g sz cs := fun y hy => by
  rcases List.mem_append.1 hy with hy | hy
  ·exact hσr y hy
  ·simp only [List.mem_cons,List.not_mem_nil,or_false] at hy
   subst hy; intro _ _ _ e; cases e
 refine c_live25 hρr ?_
 refine gq1 ?_
 obtain ⟨ρ,hρ⟩ : ∃ ρ, σ ++ [.box (znr c)] = ρ := ⟨_,rfl⟩
 have r0 : ρ[σ.length]? = some (.box (znr c)) := by rw [← hρ,zy]; rfl
 have hpre : ∀ (j : Nat) (x : zh), σ[j]? = some x → ρ[j]? = some x := fun j x h => by rw [← hρ]; exact zd h
 rw [hρ] at hρr
 change ACallL Tryz.prog zcX [.agg (znr c)] (σ ++ [.box (znr c)]) _ _
 rw [hρ]
 refine c_begunOn hc (fun _ S hE => ?_) fun hz0 S a b u v hO => ?_
 ·have st := hE.st
  refine zoV st ?_
  refine ends_rest' (take_rest' fun j x hx => hE.rest j x (hpre j x hx) (hσr x (List.mem_of_getElem? hx))) (by simp [zeD,dmT,dm,dm1,zcC]) hl rfl
 have hne := newRE_0 hz0
 have hI := bgC_I hc
 have hH := bgC_H hc
 obtain ⟨s,hs⟩ : ∃ s,bgF (ksC c) (zpQ c.recs) = s := ⟨_,rfl⟩
 rw [hs] at hO hI hH
 have c1' := hO.e.rest _ _ r0 (fun _ _ _ e => by cases e)
 have hal : (actsE c.acts).length = c.acts.length := List.length_map ..
 have i3 := hI.led
 have i4 := hI.tab
 have hmany := hc.many
 have st := hO.e.st
 refine gq2 (zf st (zf c1' hal)) ?_
 refine zt c.acts.length (fun k vs S => vs = [.d (.int .i64 k)] ∧ ∃ g r,OnR ρ (.box (znr c)) s s.L s.G k a b u g v r (zmY c.f c.me c.topic c.offset) S ∧ OrdI c.topic c.offset r) ⟨rfl,_,_,hO,rfl,by simp [zmY],fun i p hp => by simp [zmY] at hp⟩ ?_
 rintro k1 vs S1 hk1 ⟨rfl,g,r,hO1,hor⟩
 have st1' : ∀ τ,(S1 ++ τ)[ρ.length + 9]? = _ := fun τ => zd hO1.e.st
 have hln := hO1.i.len
 have hrec := fun p hp => (hO1.i.recs p hp).1
 by_cases hl1 : k1 < c.acts.length
 ·have hd : decide ((k1 : Int) < (c.acts.length : Int)) = true := by simp; omega
  have hx1 : c.acts[k1]? = some c.acts[k1] := by simp [hl1]
  have hx3 := hc.acts _ (List.getElem_mem hl1)
  have hgx := zR (f := actD) hx1
  obtain ⟨x,hxe⟩ : ∃ x,c.acts[k1] = x := ⟨_,rfl⟩
  rw [hxe] at hgx hx3
  have hw : IntKind.i64.wrap ((k1 : Int) + 1) = ((k1 + 1 : Nat) : Int) := by rw [zU (by omega) (by omega)]; rfl
  refine gq56 (zf hd (zf hgx (zf hal st1'))) ?_
  refine zpk (hO1.app _).ra (hO1.app _).ru (by omega) hrec ?_
  refine gq2 st1' ?_
  refine zmS (hO1.app _).ra ?_
  refine gq2 st1' ?_
  refine zuQ (hO1.app _).ra ?_
  cases h5 : (x.do_ == 0)
  rotate_left
  ·refine gq2 (zf h5 st1') ?_
   refine c_rdTick (hO1.app _).ra hO1.i fun τ => ?_
   refine gq2 hw ?_
   exact zaF.next hl1 ⟨rfl,g,_,((((hO1.app _).mono (by omega)).tick ((tick_I hO1.i).mono (by omega)) (tick_L r)).app _),ord_tick hor⟩
  refine gq2 (zf h5 st1') ?_
  refine c_comes (x := x) (hO1.app _).e (hO1.app _).ra hI (by omega) hH hO1.i hx3 ?_
  have hsm := zkv hI (by omega) hO1.i hx3
  refine gq1 ?_
  have hnx := hO1.i.next
  refine zwh (n := k1) (hO1.app _).ra (hO1.app _).ru (hO1.app _).e.tab (hO1.app _).e.led i4 (by omega) hO1.i (by omega) hsm (fun hne1 τ => ?_) (fun hz1 g' τ => ?_)
  ·have e1 : (zfD s.L s.G r (zgb s r x) != 0) = true := by simpa using hne1
   have e2 : (zfD s.L s.G r (zgb s r x) == 0) = false := by simpa using hne1
   refine gq2 (zf e1 (zf e2 st1')) ?_
   refine zpk (hO1.app _).ra (hO1.app _).ru (by omega) hrec ?_
   refine gq2 (zf e1 (zf e2 st1')) ?_
   refine c_samePlaced (a := r.L) (b := r.L) (by omega) ?_
   rw [show decide (r.L = r.L) = true by simp]
   refine gq2 (zf e1 (zf e2 st1')) ?_
   refine zmS (hO1.app _).ra ?_
   refine zoV (zf e1 (zf e2 st1')) ?_
   refine zuQ (hO1.app _).ra ?_
   refine zoV (zf e1 (zf e2 (zf st1' hw))) ?_
   exact zaF.next hl1 ⟨rfl,g,r,(hO1.app _).mono (by omega),hor⟩
  ·have htI := take_I (L := s.L) (G := s.G) hO1.i (m := zgb s r x) hsm.proof.rec_
   rw [takeR,if_pos hz1] at htI
   have hnn : r.next ≠ 9007199254740992 := fun e => by
    unfold zfD at hz1
    rw [if_pos (.inr (.inr (.inr (.inr e))))] at hz1
    omega
   have hw2 : IntKind.i64.wrap (r.next + 1) = r.next + 1 := zU (by omega) (by omega)
   have hO2 := (((hO1.app [.box [.d (.int .i64 x.do_), .d (.int .i64 x.offset), .d (.bool x.turn), .d (.int .i64 x.m.kind), .d (.int .i64 x.m.src), .d (.int .i64 x.m.view), .d (.int .i64 x.m.seq), .d (.int .i64 x.m.dig), .d (.int .i64 x.m.client), .d (.int .i64 x.m.time), .d (.int .i64 x.m.rerr), .d (.int .i64 x.m.roff), .d (.slice (zdf x.m.batch)), .d (.int .i64 x.m.cert.seq), .d (.int .i64 x.m.cert.dig), .d (.slice (zaY x.m.cert.signs)), .d (.slice (zkY x.m.changes)), .d (.slice (zkT x.m.entries)), .d (.slice (bcs x.m.state)), .d (.str x.m.topic), .d (.int .i64 x.m.offset), .d (.str x.m.proof.topic), .d (.int .i64 x.m.proof.offset), .d (.slice (bcs x.m.proof.rec_)), .d (.slice (zio x.m.proof.headers)), .d (.int .i64 x.m.proof.index), .d (.int .i64 x.m.proof.count), .d (.slice (zdB x.m.proof.path)), .d (.int .i64 x.m.proof.cert.seq), .d (.int .i64 x.m.proof.cert.dig), .d (.slice (zaY x.m.proof.cert.signs)), .d (.int .i64 x.m.key), .d (.int .i64 x.m.sdig)]]).mono (Nat.le_succ k1)).take (g' := g') htI).app τ
   have st2 := hO2.e.st
   have ra2 := hO2.ra
   have q1 : (zfa r (zgb s r x)).next = r.next + 1 := rfl
   have hor2 := ord_take (m := zgb s r x) hor
   refine zoV st2 ?_
   refine zmS ra2 ?_
   rw [q1]
   refine zoV (zf st2 (zf hw2 hw)) ?_
   exact zaF.next hl1 ⟨rfl,g',_,hO2,hor2⟩
 have hd : decide ((k1 : Int) < (c.acts.length : Int)) = false := by simp; omega
 have st1 := hO1.e.st
 have hpl : (zaT r.L).length = r.L.length := List.length_map ..
 refine gq2 (zf hd (zf hal st1)) ?_
 refine zpk hO1.ra hO1.ru (by omega) hrec ?_
 refine gq2 hpl ?_
 refine zt r.L.length (fun k vs S => vs = [.d (.int .i64 k)] ∧ ∃ T,S = S1 ++ T) ⟨rfl, [],by simp⟩ ?_
 rintro k2 vs S2 hk2 ⟨rfl,T,rfl⟩
 have hO2 := hO1.app T
 obtain ⟨S2,hS2⟩ : ∃ S2,S1 ++ T = S2 := ⟨_,rfl⟩
 rw [hS2] at hO2 ⊢
 have c2' : ∀ τ,(S2 ++ τ)[σ.length]? = _ := fun τ => zd (hO2.e.rest _ _ r0 (fun _ _ _ e => by cases e))
 have st2' : ∀ τ,(S2 ++ τ)[ρ.length + 9]? = _ := fun τ => zd hO2.e.st
 have c2 := hO2.e.rest _ _ r0 (fun _ _ _ e => by cases e)
 have st2 := hO2.e.st
 by_cases hl2 : k2 < r.L.length
 ·have hd : decide ((k2 : Int) < (r.L.length : Int)) = true := by simp; omega
  have hx1 : r.L[k2]? = some r.L[k2] := by simp [hl2]
  have hgx := zR (f := zdi) hx1
  obtain ⟨p,hpe⟩ : ∃ p,r.L[k2] = p := ⟨_,rfl⟩
  rw [hpe] at hgx hx1
  obtain ⟨g1,g2⟩ := hor.each k2 p hx1
  have hw : IntKind.i64.wrap ((k2 : Int) + 1) = ((k2 + 1 : Nat) : Int) := by rw [zU (by omega) (by omega)]; rfl
  have hw2 : IntKind.i64.wrap (c.offset + (k2 : Int)) = p.offset := by rw [zU (by omega) (by omega),g1]
  have g4 : (p.topic == c.topic) = true := by rw [g2]; simp
  refine gq57 (zf hd (zf hgx (zf hpl (zf c2' (zf hw2 (zf g4 hw)))))) ?_
  exact zaF.next hl2 ⟨rfl,_,by rw [← hS2,List.append_assoc]⟩
 ·have hd : decide ((k2 : Int) < (r.L.length : Int)) = false := by simp; omega
  have hnx := hor.next
  have hw2 : IntKind.i64.wrap (c.offset + (r.L.length : Int)) = r.next := by rw [zU (by omega) (by omega),hnx]
  refine gq2 (zf hd (zf hpl (zf c2 st2))) ?_
  refine zmS hO2.ra ?_
  refine gq2 (zf c2 st2) ?_
  refine zpk hO2.ra hO2.ru (by omega) hrec ?_
  refine zoV (zf hpl (zf hw2 (zf c2 st2))) ?_
  refine ends_rest' (take_rest' fun j x hx => hO2.e.rest j x (hpre j x hx) (hσr x (List.mem_of_getElem? hx))) (by simp [zeD,dmT,dm,dm1,zcC]) hl rfl
open Go.AW Go.ChangeShapes Go.WideShapes Go.ChangeAt Go.RowKit
theorem zpO {H : Type} {enc : TypeId × Value → H} {P : Program} {w : World} {sp : Nat → Bool} {held : Bool} {vs : List Value} {ds gs : List (DataW H)} {ps : List MemPlace} {ts : List TypeId} (hl : ts.length = 1)
  (h : DataW.TrodAll enc P w 0 sp held ts vs ds ps) (hg : gs = []) : (Rows.readerOrderSpec).fn H (ds ++ gs) = { results := [.lit (.bool true)],args := ds } := by
 subst hg
 have hd : ds.length = 1 := by
  have : ∀ (ts : List TypeId) (vs : List Value) (ds : List (DataW H)) (ps : List MemPlace),DataW.TrodAll enc P w 0 sp held ts vs ds ps → ds.length = ts.length := by
   intro ts
   induction ts with
   | nil => intro vs ds ps h; cases vs <;> cases ds <;> simp [DataW.TrodAll] at h ⊢
   | cons t ts ih =>
    intro vs ds ps h
    obtain ⟨v,vs',d,ds',p,q,rfl,rfl,rfl,h1,h2⟩ := trodAll_cons h
    simp [ih vs' ds' q h2]
  rw [this ts vs ds ps h,hl]
 rw [List.append_nil]
 match ds,hd with
 | [_],_ => rfl
theorem zoP (os : Os) (started : os.Started) (H : Type) (enc : TypeId × Value → H) (F : Stop.Interp) :
  ReturnsInHanded {} Tryz.checked os 4 .any ((Rows.OpenSpec.upto Rows.readerOrderSpec).pre6 enc Tryz.prog Tryz.f4 Rows.readerOrderUptoRow.domain false) (((Rows.OpenSpec.upto Rows.readerOrderSpec).at F).post enc Tryz.prog Tryz.f4 false true false false) := by
 refine returnsInHanded_of_cond (C := Tryz.checked) (s := Rows.OpenSpec.upto Rows.readerOrderSpec) (k := Rows.uptoSmall) rfl own started (by kernel_rfl) Tryz.func4
  (OpenSpec.witness (enc := enc) (C := Tryz.checked) (s := Rows.OpenSpec.upto Rows.readerOrderSpec) (k := Rows.uptoSmall) rfl false ⟨#[], #[(.agg #[(.int .i64 0),(.int .i64 0),(.string .empty),(.int .i64 0),(.slice none 0 0),(.int .u16 0),(.slice none 0 0),(.slice none 0 0)])], []⟩ 24 (by kernel_rfl) (by kernel_rfl) (by kernel_rfl)
   (x := ([(.agg [(.lit (.int .i64 0)),(.lit (.int .i64 0)),(.lit (.string [])),(.lit (.int .i64 0)), .nil,(.lit (.int .u16 0)), .nil, .nil])], [], [])) (by kernel_rfl) rfl (by kernel_rfl)) ?_
 intro W base args ds gs before hval hW _ hk _
 have hW0 : DataW.Whole enc Tryz.prog Tryz.f4.params.toList (Rows.readerOrderSpec).vars false W args.toList ds gs before := hW
 have hg : gs = [] := by
  obtain ⟨p,q,hA,hV,_⟩ := hW0
  cases gs with
  | nil => rfl
  | cons => simp [Rows.readerOrderSpec,DataW.TrodVars] at hV
 refine law_calls isBulk hval hW0 (pars := zlf) (by kernel_rfl) rfl (by obtain ⟨p,q,hA,_⟩ := hW0; exact zpO (by kernel_rfl) hA hg) laidOut mapsLaid slicesFull (by kernel_rfl) (tb := 4) (by kernel_rfl) (by kernel_rfl) fun xs has => zsp xs _ ?_ has
 have := small hk
 rw [hg,List.append_nil] at this
 exact this
theorem readerOrder_upto : Rows.ReaderOrderUptoSaid :=
 OpenClaim.holds_of_cond 4 Tryz.f4 rfl rfl rfl rfl rfl rfl rfl ⟨rfl,rfl,rfl,rfl,rfl⟩ rfl rfl rfl rfl rfl (by kernel_rfl) Tryz.func4 (by unfold joinedFacts; rw [any_loops,any_loops] <;> kernel_rfl)
  (of_decide_eq_true (by kernel_rfl)) (by unfold Func.isWrapper; first | (rw [if_pos (by decide +kernel)]; kernel_rfl) | (rw [if_neg (by decide +kernel)]; exact ⟨rfl,rfl⟩))
  (fun os started H enc _ F => zoP os started H enc F)
end Go.Proofs.YtfgbofkdhfjegaaGreat
