/- Contracts: the bytes of the document's topics. -/
import Derived.Test.YtfjommppajkpoaaGreatTp3
set_option linter.all false
set_option maxRecDepth 100000
namespace Go.Proofs.YtfjommppajkpoaaGreat
open Go.AW
theorem zkY {σ : List zg} {b x : List UInt8} (hx : x.length ≤ 1073741824) (hb : b.length ≤ 1073741800) {K : KT} (hK : K (.d (.slice (bcs (b ++ znn x)))) (σ ++ [.tok 1 (b ++ znn x).length])) :
  zq Tryz.prog zaR [.d (.slice (bcs b)), .d (.slice (bcs x))] σ K :=
 .weaken (zfA hx hb ⟨_,_, .data 0 _ _ rfl rfl (.refl _ _),hK⟩)
theorem c_r7Bytes {σ : List zg} {id t g : Nat} {T : zcb} (hT : zbH σ id t g T) (hI : zhz T) (hL : zlp T.last) {K : KT} (hK : K (.d (.slice (bcs (zfl T)))) σ) : zq Tryz.prog zeO [.box id 0] σ K := by
 refine zec znI fun hl => ?_
 have hb := hT.box
 have hrw := hT.row
 have xb : ∀ τ,(σ ++ τ)[id]? = _ := fun τ => zf hb
 have xr : ∀ τ,(σ ++ τ)[t]? = _ := fun τ => zf hrw
 have f4 := zdh T.l
 have hlenA : (zaa (zbl T.l)).length = T.l.length * 4 := by rw [zdG f4,List.length_map]
 have hlf : (zbl T.l).flatten.length = T.l.length * 4 := by rw [← hlenA,zaa,List.length_map]
 have hn := hI.len
 have hnl := zt (n := T.l.length) (by omega)
 simp only [zhV,iN,bT,bF,eN]
 refine zbq hb ?_
 refine zjE (b := []) (by simp) (by omega) ?_
 rw [List.nil_append]
 refine gq1 ?_
 refine zw T.l.length (fun k vs s => ∃ τ,vs = [.d (.slice (bcs (zcn T.l.length ++ zng (T.l.take k)))), .d (.int .i64 k)] ∧ s = σ ++ τ) ⟨[],by simp [zng],by simp⟩ ?_
 rintro k vs s hk ⟨τ,rfl,rfl⟩
 have hbl : (zng (T.l.take k)).length ≤ k * 5600 := by
  have := zsU (l := T.l.take k) fun x hx => hI.tops x (List.mem_of_mem_take hx)
  rw [List.length_take,Nat.min_eq_left hk] at this; exact this
 by_cases hlt : k < T.l.length
 ·have hd : decide ((k : Int) < (T.l.length : Int)) = true := by simp; omega
  have hx : T.l[k]? = some T.l[k] := by simp [hlt]
  have hX := hI.tops _ (List.getElem_mem hlt)
  obtain ⟨x,hxe⟩ : ∃ x,T.l[k] = x := ⟨_,rfl⟩
  rw [hxe] at hx hX
  have hgt : List.take 4 (List.drop (k * 4) (zaa (zbl T.l))) = (topD x).map .d := zkP f4 (zU hx)
  have hk4 : k * 4 + 4 ≤ T.l.length * 4 := by omega
  have hnx : x.next = x.base + x.recs.length := rfl
  have a1 := hX.base; have a2 := hX.next; have a3 := hX.recs; have a4 := hX.groups; have a5 := hX.name
  have hbase : x.base = ((x.base.toNat : Nat) : Int) := by omega
  have m1 := zeK (x := x.name) (by omega)
  have m2 := zt (n := x.base.toNat) (by omega)
  have m3 := zt (n := x.recs.length) (by omega)
  have m4 := zt (n := x.groups.length) (by omega)
  have hrl := zH x.recs
  have hgl : (zbM x.groups).length = x.groups.length := List.length_map ..
  obtain ⟨B,hB⟩ : ∃ B,zcn T.l.length ++ zng (T.l.take k) = B := ⟨_,rfl⟩
  have hBl : B.length ≤ 100000 := by rw [← hB]; simp; omega
  obtain ⟨R,hR⟩ : ∃ R, σ ++ τ = R := ⟨_,rfl⟩
  have yb : ∀ ρ,(R ++ ρ)[id]? = _ := fun ρ => zf (hR ▸ xb τ)
  have yr : ∀ ρ,(R ++ ρ)[t]? = _ := fun ρ => zf (hR ▸ xr τ)
  have yb0 : R[id]? = _ := hR ▸ xb τ
  have yr0 : R[t]? = _ := hR ▸ xr τ
  rw [hB,hR]
  refine zbq (zc hd (zc yb0 (zc yr0 (zc hgt (zc hlf hk4))))) ?_
  refine zkY (b := B) (x := x.name) (by omega) (by omega) ?_
  refine gq1 ?_
  rw [hbase]
  refine zjE (by simp; omega) (by omega) ?_
  refine gq2 hrl ?_
  refine zjE (by simp; omega) (by omega) ?_
  refine gq1 ?_
  obtain ⟨B1,hB1⟩ : ∃ B1,B ++ (znn x.name ++ (zcn x.base.toNat ++ zcn x.recs.length)) = B1 := ⟨_,rfl⟩
  have hB1l : B1.length ≤ 101000 := by rw [← hB1]; simp; omega
  rw [hB1]
  refine zw x.recs.length (fun j vs s => ∃ ρ,vs = [.d (.slice (bcs (B1 ++ zkc (x.recs.take j)))), .d (.int .i64 j)] ∧ s = R ++ (.box [.d (.str x.name), .d (.int .i64 x.base.toNat), .d (.slice (zcj x.recs)), .d (.slice (zbM x.groups))] :: ρ)) ⟨_,by simp [zkc],rfl⟩ ?_
  rintro j vs s hj ⟨ρ,rfl,rfl⟩
  have hjl : (zkc (x.recs.take j)).length ≤ j * 74 := by
   have := zmK (f := znn) (n := 74) (l := x.recs.take j) fun r hr => by
    have := hX.each r (List.mem_of_mem_take hr)
    have := zeK (x := r) (by omega)
    omega
   rw [List.length_take,Nat.min_eq_left hj] at this; exact this
  by_cases hlj : j < x.recs.length
  ·have hdj : decide ((j : Int) < (x.recs.length : Int)) = true := by simp; omega
   have hy : x.recs[j]? = some x.recs[j] := by simp [hlj]
   have hry := hX.each _ (List.getElem_mem hlj)
   obtain ⟨y,hye⟩ : ∃ y,x.recs[j] = y := ⟨_,rfl⟩
   rw [hye] at hy hry
   have hgy := znm hy
   refine gq2 (zc hdj (zc hrl hgy)) ?_
   refine zkY (by omega) (by simp; omega) ?_
   refine gq2 (wkc j (by omega)) ?_
   refine zap.next hlj ⟨ρ ++ [_], ?_,by simp; rfl⟩
   rw [List.take_add_one,hy]
   simp [zkc]
  ·have hdj : decide ((j : Int) < (x.recs.length : Int)) = false := by simp; omega
   have hjo : x.recs.take j = x.recs := List.take_of_length_le (by omega)
   rw [hjo] at hjl ⊢
   refine gq2 (zc hdj (zc hrl hgl)) ?_
   refine zjE (by simp; omega) (by omega) ?_
   obtain ⟨B2,hB2⟩ : ∃ B2,B1 ++ zkc x.recs ++ zcn x.groups.length = B2 := ⟨_,rfl⟩
   have hB2l : B2.length ≤ 120000 := by rw [← hB2]; simp; omega
   rw [hB2]
   refine gq1 ?_
   refine zw x.groups.length (fun j vs s => ∃ ρ,vs = [.d (.slice (bcs (B2 ++ zmI (x.groups.take j)))), .d (.int .i64 j)] ∧ s = R ++ (.box [.d (.str x.name), .d (.int .i64 x.base.toNat), .d (.slice (zcj x.recs)), .d (.slice (zbM x.groups))] :: ρ)) ⟨_,by simp [zmI],rfl⟩ ?_
   clear ρ
   rintro j vs s hj ⟨ρ,rfl,rfl⟩
   have hjl : (zmI (x.groups.take j)).length ≤ j * 84 := by
    have := zmK (f := groupB) (n := 84) (l := x.groups.take j) fun r hr => ztu (hX.gs r (List.mem_of_mem_take hr))
    rw [List.length_take,Nat.min_eq_left hj] at this; exact this
   by_cases hlj : j < x.groups.length
   ·have hdj : decide ((j : Int) < (x.groups.length : Int)) = true := by simp; omega
    have hy : x.groups[j]? = some x.groups[j] := by simp [hlj]
    have hgs := hX.gs _ (List.getElem_mem hlj)
    obtain ⟨y,hye⟩ : ∃ y,x.groups[j] = y := ⟨_,rfl⟩
    rw [hye] at hy hgs
    have hgy := zU (f := zpu) hy
    have hyb : y.2 = ((y.2.toNat : Nat) : Int) := by omega
    have p1 := zeK (x := y.1) (by omega)
    refine gq2 (zc hdj (zc hgl hgy)) ?_
    refine zkY (by omega) (by simp; omega) ?_
    refine gq1 ?_
    rw [hyb]
    refine zjE (by simp; omega) (by omega) ?_
    refine gq2 (wkc j (by omega)) ?_
    refine zap.next hlj ⟨ρ ++ [_], ?_,by simp; rfl⟩
    rw [List.take_add_one,hy]
    simp [zmI,groupB]
   ·have hdj : decide ((j : Int) < (x.groups.length : Int)) = false := by simp; omega
    have hjo : x.groups.take j = x.groups := List.take_of_length_le (by omega)
    rw [hjo]
    refine gq2 (zc hdj (zc hgl (wkc k (by omega)))) ?_
    subst hR
    refine zap.next hlt ⟨τ ++ (.box [.d (.str x.name), .d (.int .i64 x.base.toNat), .d (.slice (zcj x.recs)), .d (.slice (zbM x.groups))] :: ρ), ?_,by simp⟩
    rw [List.take_add_one,hx]
    have e : zcn T.l.length ++ zng (T.l.take k ++ [x]) = B2 ++ zmI x.groups := by
     rw [← hB2, ← hB1, ← hB]
     simp [zng,topB]
    simp only [Option.toList_some,e]
 ·have hd : decide ((k : Int) < (T.l.length : Int)) = false := by simp; omega
  have hko : T.l.take k = T.l := List.take_of_length_le (by omega)
  rw [hko] at hbl ⊢
  obtain ⟨B,hB⟩ : ∃ B,zcn T.l.length ++ zng T.l = B := ⟨_,rfl⟩
  have hBl : B.length ≤ 100000 := by rw [← hB]; simp; omega
  rw [hB]
  have hlast := hT.last
  refine zbq (zc hd xb) ?_
  refine zw 8 (fun j vs s => ∃ ρ,vs = [.d (.slice (bcs (B ++ ztr (T.last.take j)))), .d (.int .i64 j)] ∧ s = σ ++ ρ) ⟨_,by simp [ztr],rfl⟩ ?_
  rintro j vs s hj ⟨ρ,rfl,rfl⟩
  have hjl : (ztr (T.last.take j)).length ≤ j * 30 := by
   have := ztq (l := T.last.take j) fun a ha => hL a (List.mem_of_mem_take ha)
   rw [List.length_take,Nat.min_eq_left (by omega)] at this; exact this
  by_cases hlj : j < 8
  ·have hdj : decide ((j : Int) < 8) = true := by simp; omega
   obtain ⟨a,ha⟩ : ∃ a,T.last[j]? = some a := ⟨_,List.getElem?_eq_getElem (by omega)⟩
   have hl3 := zrf ha
   have hlc := znz T.last
   obtain ⟨⟨z1,z2⟩,⟨z3,z4⟩,⟨z5,z6⟩⟩ := hL a (List.mem_of_getElem? ha)
   have hl4 : ∀ X : AV,List.take 3 (List.drop (1 + j * 3) (X :: zih T.last)) = [.d (.int .i64 a.1), .d (.int .i64 a.2.1), .d (.int .i64 a.2.2)] := fun X => by
    rw [Nat.add_comm,List.drop_succ_cons]; exact hl3
   have e1 : a.1 = ((a.1.toNat : Nat) : Int) := by omega
   have e2 : a.2.1 = ((a.2.1.toNat : Nat) : Int) := by omega
   have e3 : a.2.2 = ((a.2.2.toNat : Nat) : Int) := by omega
   have p1 := zt (n := a.1.toNat) (by omega)
   have p2 := zt (n := a.2.1.toNat) (by omega)
   rw [e1,e2,e3] at hl4
   refine gq2 (zc hdj (zc xb hl4)) ?_
   refine zjE (by simp; omega) (by omega) ?_
   refine gq1 ?_
   refine zjE (by simp; omega) (by omega) ?_
   refine gq1 ?_
   refine zjE (by simp; omega) (by omega) ?_
   refine gq2 (wkc j (by omega)) ?_
   refine zap.next hlj ⟨ρ ++ [_], ?_,by simp; rfl⟩
   rw [List.take_add_one,ha]
   simp [ztr,lastB]
  ·have hdj : decide ((j : Int) < 8) = false := by simp; omega
   have hjo : T.last.take j = T.last := List.take_of_length_le (by omega)
   rw [hjo]
   refine gq2 hdj ?_
   refine zK hl ?_
   rw [← hB,List.append_assoc]
   exact hK
theorem zqI {T : zcb} (hI : zhz T) (hL : zlp T.last) (h8 : T.last.length = 8) : (zfl T).length ≤ 1000000 := by
 have h1 := zsU hI.tops
 have h2 := ztq hL
 have h3 := hI.len
 have h4 := zt (n := T.l.length) (by omega)
 simp only [zfl,List.length_append]
 omega
theorem ztP {σ : List zg} {id t g id2 : Nat} {T : zcb} {L : List (List UInt8)} (hT : zbH σ id t g T) (hI : zhz T) (hL : zlp T.last) (hT2 : σ[id2]? = some (rtO L)) (hL2 : L.length ≤ 1048576) {K : KT}
  (hK : K (.d (.int .i64 (zee L (zfl T)))) (σ.set id2 (rtO (zfe L (zfl T))))) : zq Tryz.prog zcT [.box id 0, .box id2 0] σ K := by
 refine zga zmN fun hl => ?_
 have := zqI hI hL hT.last
 simp only [zhC,iN,bT,bF,eN]
 refine gq1 ?_
 refine c_r7Bytes hT hI hL ?_
 refine gq1 ?_
 refine zjC hT2 (by omega) hL2 ?_
 refine gq1 ?_
 exact zeu (by simp [zcO,dmT,dm,dm1,zbY]) hl (zfn _ _) hK
abbrev zsx : zdW := ⟨0, 0, 0, 0, 0⟩
def genF (L : List (List UInt8)) : zdW × Int × List (List UInt8) :=
 let r := zcc L []
 let L2 := zfe r.2 (zfl zdA)
 if r.1 = 0 ∨ zee r.2 (zfl zdA) = 0 then (zsx, 6,L2) else (⟨0, 0, 0,r.1,zee r.2 (zfl zdA)⟩, 0,L2)
theorem gq36 {A P Q : Prop} (a : A) (h : Q) (e : A → Hd Q → P := by intro a h; (repeat' first | simp -dsimp only [↓zgr, ↓zaF, ↓zbL, ↓zgt, ↓zgn, ↓zgl, ↓zgo, ↓zgm, ↓zbR, ↓zbN, ↓zbS, ↓zbO, ↓zgp, ↓zbJ, ↓zbT, ↓zbP, ↓zbU, ↓zbQ, ↓zgj, ↓zgq, ↓zbI, ↓zbX, ↓zgc, ↓zgb, ↓zgi,iN,bT,bF,eN, ↓zdN, ↓unC, ↓zac, ↓zQ, ↓zR, ↓zV, ↓zak, ↓zau, ↓zco, ↓zag, ↓zaJ, ↓zW, ↓zp, ↓zo, ↓zbF, ↓zl, ↓zan, ↓zF, ↓zaM, ↓zaW, ↓ze, ↓zC, ↓zu, ↓zy, ↓zav, ↓zdr, ↓zdU, ↓zat, ↓zaB, ↓zaU, ↓zbk, ↓zbv, ↓zD, ↓zaq, ↓zS, ↓zE, ↓zam,zeb,zbD,zbB,unA,zei,bnd,zeF,zai,zP,zeE,dm,dm1,zB,zal,zfg,zff,zx,Q0,Q1,Q2,Q3,Q4,Q5,zZ,zh,zm,zT,zN,Q6,Q7,Q8,Q9,Q10,Q11,Q12,Q13,Q14,Nat.reduceAdd,Q15,Int.reduceToNat,Q16,Q17,Q18,Q19,Q20,reduceIte,Q21,Q22,zH,rep,zX,zfc,toD,zah,Q23,Q24,Q25,Q26,Q27,Q28,Nat.reduceLeDiff,Q29,Nat.reduceSub,Q30,Q31,Q32,sc,Q33,Q34,Q35,Q36,Q37,Q26,Q38,Q39,zkn,zkk,zkh,zko,zdu,zkl,zki,zkm,zkj,zdt,zdv,zkp,zkq,Bool.not_true,Bool.not_false,List.length_map,List.length_set,a] | with_reducible refine zkr ?_ | fail); exact h.go) : P := e a ⟨h⟩
theorem c_r9Genesis {σ : List zg} {id : Nat} {L : List (List UInt8)} (hT : σ[id]? = some (rtO L)) (hL : L.length ≤ 1048576) {K : KT}
  (hK : K (.tup [ztt (genF L).1, .d (.int .i64 (genF L).2.1)]) (σ.set id (rtO (genF L).2.2))) : zq Tryz.prog zjl [.box id 0] σ K := by
 refine zec zuS fun hl => ?_
 have hid := zA hT
 simp only [zoc,iN,bT,bF,eN,zl4]
 refine gq1 ?_
 refine c_r5Root (l := []) (zf hT) (by omega) (by simp) (by simp) ?_
 rw [List.set_append_left _ _ hid]
 obtain ⟨r,hr⟩ : ∃ r,zcc L [] = r := ⟨_,rfl⟩
 rw [hr]
 have hl2 : σ.length = (σ.set id (rtO r.2)).length := (List.length_set ..).symm
 have hT1 : (σ.set id (rtO r.2))[id]? = some (rtO r.2) := List.getElem?_set_self hid
 have hS2 : ∀ Y,(σ.set id (rtO r.2)).set id Y = σ.set id Y := fun Y => List.set_set ..
 obtain ⟨S,hS⟩ : ∃ S, σ.set id (rtO r.2) = S := ⟨_,rfl⟩
 rw [hS] at hl2 hT1 hS2 ⊢
 refine gq36 hl2 ?_
 have hr2 : r.2.length ≤ 1048576 := by rw [← hr]; exact (zcu 0 (Nat.le_refl _) hL).1
 have hTop : zbH (S ++ [.box [.d (.int .i64 0), .d (.int .i64 0), .d (.int .i64 0), .d (.int .i64 0), .d (.int .i64 0)], .box [.d (.int .i64 0), .d (.int .i64 0), .d (.int .i64 0), .d (.int .i64 r.1), .d (.int .i64 0)], .box (.rsl (S.length + 3) 0 4 0 0 :: zih zdA.last), .row 0 4 []]) (S.length + 2) (S.length + 3) 0 zdA :=
  ⟨by rw [zh]; rfl,by rw [zh]; rfl,rfl⟩
 have hLast : zlp zdA.last := fun a ha => by
  have := List.eq_of_mem_replicate ha
  subst this
  simp
 refine zq.pre (xs' := [.box (S.length + 2) 0, .box id 0]) (σ' := S ++ [.box [.d (.int .i64 0), .d (.int .i64 0), .d (.int .i64 0), .d (.int .i64 0), .d (.int .i64 0)], .box [.d (.int .i64 0), .d (.int .i64 0), .d (.int .i64 0), .d (.int .i64 r.1), .d (.int .i64 0)], .box (.rsl (S.length + 3) 0 4 0 0 :: zih zdA.last), .row 0 4 []]) ?_ ?_
 ·refine .rowB (S.length + 2) 0 (.exact [] :: zih zdA.last) 4 (by rw [zh]; rfl) rfl (by omega) ?_
  rw [zT,zZ]
  simp only [List.set_cons_succ,List.set_cons_zero,List.length_cons,List.length_nil,List.append_assoc,List.cons_append,List.nil_append]
  exact .refl _ _
 refine ztP hTop .none hLast (zf hT1) hr2 ?_
 have hidS : id < S.length := by omega
 rw [List.set_append_left _ _ hidS,hS2]
 have hg : genF L = if r.1 = 0 ∨ zee r.2 (zfl zdA) = 0 then (zsx, 6,zfe r.2 (zfl zdA)) else (⟨0, 0, 0,r.1,zee r.2 (zfl zdA)⟩, 0,zfe r.2 (zfl zdA)) := by rw [genF,hr]
 have hl3 : S.length = (σ.set id (rtO (zfe r.2 (zfl zdA)))).length := by rw [← hl2,List.length_set]
 have hlo : zdY σ.length (σ.set id (rtO (zfe r.2 (zfl zdA)))) := hl.set (zfn _ _)
 obtain ⟨d,hd⟩ : ∃ d,zee r.2 (zfl zdA) = d := ⟨_,rfl⟩
 obtain ⟨L2,hL2⟩ : ∃ L2,zfe r.2 (zfl zdA) = L2 := ⟨_,rfl⟩
 rw [hd,hL2] at hg
 rw [hL2] at hl3 hlo
 simp only [hd,hL2]
 obtain ⟨S2,hS2'⟩ : ∃ S2, σ.set id (rtO L2) = S2 := ⟨_,rfl⟩
 rw [hS2'] at hl3 hlo ⊢
 have fin : ∀ z,genF L = z → z.2.2 = L2 → K (.tup [ztt z.1, .d (.int .i64 z.2.1)]) S2 := fun z h h2 => by
  rw [h,h2,hS2'] at hK; exact hK
 cases c1 : (r.1 == 0)
 ·cases c2 : (d == 0)
  ·refine gq36 (zc hl2 (zc hl3 (zc c1 c2))) ?_
   rw [← hl3, ← hl2]
   refine zcY (by omega) ?_ hlo ?_
   ·simp [zcO,dmT,dm,dm1,zbY,zbf,zdZ]
   ·exact fin _ (by rw [hg,if_neg (by simp at c1 c2; omega)]) rfl
  ·refine gq36 (zc hl2 (zc hl3 (zc c1 c2))) ?_
   rw [← hl3, ← hl2]
   refine zcY (by omega) ?_ hlo ?_
   ·simp [zcO,dmT,dm,dm1,zbY,zbf,zdZ]
   ·exact fin _ (by rw [hg,if_pos (.inr (by simpa using c2))]) rfl
 ·refine gq36 (zc hl2 (zc hl3 c1)) ?_
  rw [← hl3, ← hl2]
  refine zcY (by omega) ?_ hlo ?_
  ·simp [zcO,dmT,dm,dm1,zbY,zbf,zdZ]
  ·exact fin _ (by rw [hg,if_pos (.inl (by simpa using c1))]) rfl
end Go.Proofs.YtfjommppajkpoaaGreat
