/- Contracts: the bytes of the document's topics. -/
import Derived.Test.YtncpaekiidpchaaGreatTp3
set_option linter.all false
set_option maxRecDepth 100000
namespace Go.Proofs.YtncpaekiidpchaaGreat
open Go.AW
theorem zkZ {σ : List zg} {b x : List UInt8} (hx : x.length ≤ 1073741824) (hb : b.length ≤ 1073741800) {K : KT} (hK : K (.d (.slice (bcs (b ++ zlz x)))) (σ ++ [.tok 1 (b ++ zlz x).length])) :
  zE Tryz.prog zaR [.d (.slice (bcs b)), .d (.slice (bcs x))] σ K :=
 .weaken (zfw hx hb ⟨_,_, .data 0 _ _ rfl rfl (.refl _ _),hK⟩)
theorem c_r7Bytes {σ : List zg} {id t g : Nat} {T : zbG} (hT : zbU σ id t g T) (hI : zga T) (hL : zlq T.last) {K : KT} (hK : K (.d (.slice (bcs (zev T)))) σ) : zE Tryz.prog zeW [.box id 0] σ K := by
 refine zi zhN.is rfl fun hl _ => zhN.goes ?_
 have hb := hT.box
 have hrw := hT.row
 have xb : ∀ τ,(σ ++ τ)[id]? = _ := fun τ => zf hb
 have xr : ∀ τ,(σ ++ τ)[t]? = _ := fun τ => zf hrw
 have f4 := zdq T.l
 have hlenA : (zaj (zbs T.l)).length = T.l.length * 4 := by rw [zdJ f4,List.length_map]
 have hlf : (zbs T.l).flatten.length = T.l.length * 4 := by rw [← hlenA,zaj,List.length_map]
 have hn := hI.len
 have hnl := zx (n := T.l.length) (by omega)
 simp only [zhV,iN,bT,bF,eN]
 (repeat' first | refine gq44 hb ?_ | with_reducible first | exact ⟨⟩ | refine zh ?_ | fail)
 refine zjL (b := []) (by simp) (by omega) ?_
 rw [List.nil_append]
 (repeat' first | refine gq1 ?_ | with_reducible first | exact ⟨⟩ | refine zh ?_ | fail)
 refine zG T.l.length (fun k vs s => ∃ τ,vs = [.d (.slice (bcs (zbO T.l.length ++ zne (T.l.take k)))), .d (.int .i64 k)] ∧ s = σ ++ τ) ⟨[],by simp [zne],by simp⟩ ?_
 rintro k vs s hk ⟨τ,rfl,rfl⟩
 have hbl : (zne (T.l.take k)).length ≤ k * 5600 := by
  have := zsp (l := T.l.take k) fun x hx => hI.tops x (List.mem_of_mem_take hx)
  rw [List.length_take,Nat.min_eq_left hk] at this; exact this
 by_cases hlt : k < T.l.length
 ·have hd : decide ((k : Int) < (T.l.length : Int)) = true := by simp; omega
  have hx : T.l[k]? = some T.l[k] := by simp [hlt]
  have hX := hI.tops _ (List.getElem_mem hlt)
  obtain ⟨x,hxe⟩ : ∃ x,T.l[k] = x := ⟨_,rfl⟩
  rw [hxe] at hx hX
  have hgt : List.take 4 (List.drop (k * 4) (zaj (zbs T.l))) = (topD x).map .d := zkK f4 (zae hx)
  have hk4 : k * 4 + 4 ≤ T.l.length * 4 := by omega
  have hnx : x.next = x.base + x.recs.length := rfl
  have a1 := hX.base; have a2 := hX.next; have a3 := hX.recs; have a4 := hX.groups; have a5 := hX.name
  have hbase : x.base = ((x.base.toNat : Nat) : Int) := by omega
  have m1 := zeT (x := x.name) (by omega)
  have m2 := zx (n := x.base.toNat) (by omega)
  have m3 := zx (n := x.recs.length) (by omega)
  have m4 := zx (n := x.groups.length) (by omega)
  have hrl := zD x.recs
  have hgl : (zbX x.groups).length = x.groups.length := List.length_map ..
  obtain ⟨B,hB⟩ : ∃ B,zbO T.l.length ++ zne (T.l.take k) = B := ⟨_,rfl⟩
  have hBl : B.length ≤ 100000 := by rw [← hB]; simp; omega
  obtain ⟨R,hR⟩ : ∃ R, σ ++ τ = R := ⟨_,rfl⟩
  have yb : ∀ ρ,(R ++ ρ)[id]? = _ := fun ρ => zf (hR ▸ xb τ)
  have yr : ∀ ρ,(R ++ ρ)[t]? = _ := fun ρ => zf (hR ▸ xr τ)
  have yb0 : R[id]? = _ := hR ▸ xb τ
  have yr0 : R[t]? = _ := hR ▸ xr τ
  rw [hB,hR]
  (repeat' first | refine gq43 (zd hd (zd yb0 (zd yr0 (zd hgt (zd hlf hk4))))) ?_ | with_reducible first | exact ⟨⟩ | refine zh ?_ | fail)
  refine zkZ (b := B) (x := x.name) (by omega) (by omega) ?_
  (repeat' first | refine gq1 ?_ | with_reducible first | exact ⟨⟩ | refine zh ?_ | fail)
  rw [hbase]
  refine zjL (by simp; omega) (by omega) ?_
  (repeat' first | refine gq2 hrl ?_ | with_reducible first | exact ⟨⟩ | refine zh ?_ | fail)
  refine zjL (by simp; omega) (by omega) ?_
  (repeat' first | refine gq1 ?_ | with_reducible first | exact ⟨⟩ | refine zh ?_ | fail)
  obtain ⟨B1,hB1⟩ : ∃ B1,B ++ (zlz x.name ++ (zbO x.base.toNat ++ zbO x.recs.length)) = B1 := ⟨_,rfl⟩
  have hB1l : B1.length ≤ 101000 := by rw [← hB1]; simp; omega
  rw [hB1]
  refine zG x.recs.length (fun j vs s => ∃ ρ,vs = [.d (.slice (bcs (B1 ++ zkq (x.recs.take j)))), .d (.int .i64 j)] ∧ s = R ++ (.box [.d (.str x.name), .d (.int .i64 x.base.toNat), .d (.slice (zbV x.recs)), .d (.slice (zbX x.groups))] :: ρ)) ⟨_,by simp [zkq],rfl⟩ ?_
  rintro j vs s hj ⟨ρ,rfl,rfl⟩
  have hjl : (zkq (x.recs.take j)).length ≤ j * 74 := by
   have := zmQ (f := zlz) (n := 74) (l := x.recs.take j) fun r hr => by
    have := hX.each r (List.mem_of_mem_take hr)
    have := zeT (x := r) (by omega)
    omega
   rw [List.length_take,Nat.min_eq_left hj] at this; exact this
  by_cases hlj : j < x.recs.length
  ·have hdj : decide ((j : Int) < (x.recs.length : Int)) = true := by simp; omega
   have hy : x.recs[j]? = some x.recs[j] := by simp [hlj]
   have hry := hX.each _ (List.getElem_mem hlj)
   obtain ⟨y,hye⟩ : ∃ y,x.recs[j] = y := ⟨_,rfl⟩
   rw [hye] at hy hry
   have hgy := znj hy
   (repeat' first | refine gq2 (zd hdj (zd hrl hgy)) ?_ | with_reducible first | exact ⟨⟩ | refine zh ?_ | fail)
   refine zkZ (by omega) (by simp; omega) ?_
   (repeat' first | refine gq2 (wkc j (by omega)) ?_ | with_reducible first | exact ⟨⟩ | refine zh ?_ | fail)
   refine zav.next hlj ⟨ρ ++ [_], ?_,by simp; rfl⟩
   rw [List.take_add_one,hy]
   simp [zkq]
  ·have hdj : decide ((j : Int) < (x.recs.length : Int)) = false := by simp; omega
   have hjo : x.recs.take j = x.recs := List.take_of_length_le (by omega)
   rw [hjo] at hjl ⊢
   (repeat' first | refine gq2 (zd hdj (zd hrl hgl)) ?_ | with_reducible first | exact ⟨⟩ | refine zh ?_ | fail)
   refine zjL (by simp; omega) (by omega) ?_
   obtain ⟨B2,hB2⟩ : ∃ B2,B1 ++ zkq x.recs ++ zbO x.groups.length = B2 := ⟨_,rfl⟩
   have hB2l : B2.length ≤ 120000 := by rw [← hB2]; simp; omega
   rw [hB2]
   (repeat' first | refine gq1 ?_ | with_reducible first | exact ⟨⟩ | refine zh ?_ | fail)
   refine zG x.groups.length (fun j vs s => ∃ ρ,vs = [.d (.slice (bcs (B2 ++ zmP (x.groups.take j)))), .d (.int .i64 j)] ∧ s = R ++ (.box [.d (.str x.name), .d (.int .i64 x.base.toNat), .d (.slice (zbV x.recs)), .d (.slice (zbX x.groups))] :: ρ)) ⟨_,by simp [zmP],rfl⟩ ?_
   clear ρ
   rintro j vs s hj ⟨ρ,rfl,rfl⟩
   have hjl : (zmP (x.groups.take j)).length ≤ j * 84 := by
    have := zmQ (f := groupB) (n := 84) (l := x.groups.take j) fun r hr => zsL (hX.gs r (List.mem_of_mem_take hr))
    rw [List.length_take,Nat.min_eq_left hj] at this; exact this
   by_cases hlj : j < x.groups.length
   ·have hdj : decide ((j : Int) < (x.groups.length : Int)) = true := by simp; omega
    have hy : x.groups[j]? = some x.groups[j] := by simp [hlj]
    have hgs := hX.gs _ (List.getElem_mem hlj)
    obtain ⟨y,hye⟩ : ∃ y,x.groups[j] = y := ⟨_,rfl⟩
    rw [hye] at hy hgs
    have hgy := zae (f := zpq) hy
    have hyb : y.2 = ((y.2.toNat : Nat) : Int) := by omega
    have p1 := zeT (x := y.1) (by omega)
    (repeat' first | refine gq2 (zd hdj (zd hgl hgy)) ?_ | with_reducible first | exact ⟨⟩ | refine zh ?_ | fail)
    refine zkZ (by omega) (by simp; omega) ?_
    (repeat' first | refine gq1 ?_ | with_reducible first | exact ⟨⟩ | refine zh ?_ | fail)
    rw [hyb]
    refine zjL (by simp; omega) (by omega) ?_
    (repeat' first | refine gq2 (wkc j (by omega)) ?_ | with_reducible first | exact ⟨⟩ | refine zh ?_ | fail)
    refine zav.next hlj ⟨ρ ++ [_], ?_,by simp; rfl⟩
    rw [List.take_add_one,hy]
    simp [zmP,groupB]
   ·have hdj : decide ((j : Int) < (x.groups.length : Int)) = false := by simp; omega
    have hjo : x.groups.take j = x.groups := List.take_of_length_le (by omega)
    rw [hjo]
    (repeat' first | refine gq2 (zd hdj (zd hgl (wkc k (by omega)))) ?_ | with_reducible first | exact ⟨⟩ | refine zh ?_ | fail)
    subst hR
    refine zav.next hlt ⟨τ ++ (.box [.d (.str x.name), .d (.int .i64 x.base.toNat), .d (.slice (zbV x.recs)), .d (.slice (zbX x.groups))] :: ρ), ?_,by simp⟩
    rw [List.take_add_one,hx]
    have e : zbO T.l.length ++ zne (T.l.take k ++ [x]) = B2 ++ zmP x.groups := by
     rw [← hB2, ← hB1, ← hB]
     simp [zne,topB]
    simp only [Option.toList_some,e]
 ·have hd : decide ((k : Int) < (T.l.length : Int)) = false := by simp; omega
  have hko : T.l.take k = T.l := List.take_of_length_le (by omega)
  rw [hko] at hbl ⊢
  obtain ⟨B,hB⟩ : ∃ B,zbO T.l.length ++ zne T.l = B := ⟨_,rfl⟩
  have hBl : B.length ≤ 100000 := by rw [← hB]; simp; omega
  rw [hB]
  have hlast := hT.last
  (repeat' first | refine gq44 (zd hd xb) ?_ | with_reducible first | exact ⟨⟩ | refine zh ?_ | fail)
  refine zG 8 (fun j vs s => ∃ ρ,vs = [.d (.slice (bcs (B ++ zsK (T.last.take j)))), .d (.int .i64 j)] ∧ s = σ ++ ρ) ⟨_,by simp [zsK],rfl⟩ ?_
  rintro j vs s hj ⟨ρ,rfl,rfl⟩
  have hjl : (zsK (T.last.take j)).length ≤ j * 30 := by
   have := zsJ (l := T.last.take j) fun a ha => hL a (List.mem_of_mem_take ha)
   rw [List.length_take,Nat.min_eq_left (by omega)] at this; exact this
  by_cases hlj : j < 8
  ·have hdj : decide ((j : Int) < 8) = true := by simp; omega
   obtain ⟨a,ha⟩ : ∃ a,T.last[j]? = some a := ⟨_,List.getElem?_eq_getElem (by omega)⟩
   have hl3 := zqR ha
   have hlc := znr T.last
   obtain ⟨⟨z1,z2⟩,⟨z3,z4⟩,⟨z5,z6⟩⟩ := hL a (List.mem_of_getElem? ha)
   have hl4 : ∀ X : AV,List.take 3 (List.drop (1 + j * 3) (X :: zil T.last)) = [.d (.int .i64 a.1), .d (.int .i64 a.2.1), .d (.int .i64 a.2.2)] := fun X => by
    rw [Nat.add_comm,List.drop_succ_cons]; exact hl3
   have e1 : a.1 = ((a.1.toNat : Nat) : Int) := by omega
   have e2 : a.2.1 = ((a.2.1.toNat : Nat) : Int) := by omega
   have e3 : a.2.2 = ((a.2.2.toNat : Nat) : Int) := by omega
   have p1 := zx (n := a.1.toNat) (by omega)
   have p2 := zx (n := a.2.1.toNat) (by omega)
   rw [e1,e2,e3] at hl4
   (repeat' first | refine gq2 (zd hdj (zd xb hl4)) ?_ | with_reducible first | exact ⟨⟩ | refine zh ?_ | fail)
   refine zjL (by simp; omega) (by omega) ?_
   (repeat' first | refine gq1 ?_ | with_reducible first | exact ⟨⟩ | refine zh ?_ | fail)
   refine zjL (by simp; omega) (by omega) ?_
   (repeat' first | refine gq1 ?_ | with_reducible first | exact ⟨⟩ | refine zh ?_ | fail)
   refine zjL (by simp; omega) (by omega) ?_
   (repeat' first | refine gq2 (wkc j (by omega)) ?_ | with_reducible first | exact ⟨⟩ | refine zh ?_ | fail)
   refine zav.next hlj ⟨ρ ++ [_], ?_,by simp; rfl⟩
   rw [List.take_add_one,ha]
   simp [zsK,lastB]
  ·have hdj : decide ((j : Int) < 8) = false := by simp; omega
   have hjo : T.last.take j = T.last := List.take_of_length_le (by omega)
   rw [hjo]
   (repeat' first | refine gq2 hdj ?_ | with_reducible first | exact ⟨⟩ | refine zh ?_ | fail)
   (first | refine zar hl ?_ | refine zaq hl ?_)
   rw [← hB,List.append_assoc]
   exact hK
end Go.Proofs.YtncpaekiidpchaaGreat

/- Contracts: the digest of the document's topics; the first header; a batch is executed. -/
set_option maxRecDepth 100000
namespace Go.Proofs.YtncpaekiidpchaaGreat
open Go.AW
theorem zqu {T : zbG} (hI : zga T) (hL : zlq T.last) (h8 : T.last.length = 8) : (zev T).length ≤ 1000000 := by
 have h1 := zsp hI.tops
 have h2 := zsJ hL
 have h3 := hI.len
 have h4 := zx (n := T.l.length) (by omega)
 simp only [zev,List.length_append]
 omega
theorem zts {σ : List zg} {id t g id2 : Nat} {T : zbG} {L : List (List UInt8)} (hT : zbU σ id t g T) (hI : zga T) (hL : zlq T.last) (hT2 : σ[id2]? = some (rtO L)) (hL2 : L.length ≤ 1048576) {K : KT}
  (hK : K (.d (.int .i64 (zcK L (zev T)))) (σ.set id2 (rtO (zdD L (zev T))))) : zE Tryz.prog zde [.box id 0, .box id2 0] σ K := by
 refine zi zhl.is rfl fun hl _ => zhl.goes ?_
 have := zqu hI hL hT.last
 simp only [zhx,iN,bT,bF,eN]
 (repeat' first | refine gq1 ?_ | with_reducible first | exact ⟨⟩ | refine zh ?_ | fail)
 refine c_r7Bytes hT hI hL ?_
 (repeat' first | refine gq1 ?_ | with_reducible first | exact ⟨⟩ | refine zh ?_ | fail)
 refine zjK hT2 (by omega) hL2 ?_
 (repeat' first | refine gq1 ?_ | with_reducible first | exact ⟨⟩ | refine zh ?_ | fail)
 exact zeD (by simp [zcU,dmT,dm,dm1,zbZ]) hl (zfl _ _) hK
abbrev zrY : zcJ := ⟨0, 0, 0, 0, 0⟩
def genF (L : List (List UInt8)) : zcJ × Int × List (List UInt8) :=
 let r := rootF L []
 let L2 := zdD r.2 (zev zdE)
 if r.1 = 0 ∨ zcK r.2 (zev zdE) = 0 then (zrY, 6,L2) else (⟨0, 0, 0,r.1,zcK r.2 (zev zdE)⟩, 0,L2)
theorem gq48 {A P Q : Prop} (a : A) (h : Q) (e : A → P = Q := by intro a; simp -dsimp only [↓zes, ↓zaw, ↓zbf, ↓zet, ↓zen, ↓zel, ↓zeo, ↓zem, ↓zbk, ↓zbg, ↓zbl, ↓zbh, ↓zep, ↓zbe, ↓zbm, ↓zbi, ↓zbn, ↓zbj, ↓zek, ↓zeq, ↓zbd, ↓zbo, ↓zef, ↓zee, ↓zej,iN,bT,bF,eN, ↓zcS, ↓unC, ↓zU, ↓zK, ↓zL, ↓zN, ↓zZ, ↓zax, ↓zbQ, ↓zaf, ↓zbp, ↓zP, ↓zq, ↓zo, ↓zbu, ↓zl, ↓zah, ↓zI, ↓zaD, ↓zaG, ↓ze, ↓zC, ↓zt, ↓zw, ↓zan, ↓zcC, ↓zcV, ↓zal, ↓zat, ↓zaE, ↓zaN, ↓zaS, ↓zu, ↓zai, ↓zM, ↓zA, ↓zaa,zcZ,zba,zaV,unA,zdg,bnd,zdy,zad,zS,zdz,dm,dm1,zB,zak,zdQ,zdP,zR,Q0,Q1,Q2,Q3,Q4,Q5,zQ,zr,zy,zO,zH,Q6,Q7,Q8,Q9,Q10,Q11,Q12,Q13,Q14,Nat.reduceAdd,Q15,Int.reduceToNat,Q16,Q17,Q18,Q19,Q20,reduceIte,Q21,Q22,zD,rep,zV,zdK,toD,zac,Q23,Q24,Q25,Q26,Q27,Q28,Nat.reduceLeDiff,Q29,Nat.reduceSub,Q30,Q31,Q32,sc,Q33,Q34,Q35,Q36,Q37,Q26,Q38,Q39,zgF,zgC,zgz,zgG,zcb,zgD,zgA,zgE,zgB,zca,zcc,zgK,zgL,Bool.not_true,Bool.not_false,List.length_map,List.length_set,a]; rfl) : P := (e a).mpr h
theorem c_r9Genesis {σ : List zg} {id : Nat} {L : List (List UInt8)} (hT : σ[id]? = some (rtO L)) (hL : L.length ≤ 1048576) {K : KT}
  (hK : K (.tup [hdrA (genF L).1, .d (.int .i64 (genF L).2.1)]) (σ.set id (rtO (genF L).2.2))) : zE Tryz.prog zjr [.box id 0] σ K := by
 refine zi zny.is rfl fun hl _ => zny.goes ?_
 have hid := zF hT
 simp only [znV,iN,bT,bF,eN]
 (repeat' first | refine gq1 ?_ | with_reducible first | exact ⟨⟩ | refine zh ?_ | fail)
 refine c_r5Root (l := []) (zf hT) (by omega) (by simp) (by simp) ?_
 rw [List.set_append_left _ _ hid]
 obtain ⟨r,hr⟩ : ∃ r,rootF L [] = r := ⟨_,rfl⟩
 rw [hr]
 have hl2 : σ.length = (σ.set id (rtO r.2)).length := (List.length_set ..).symm
 have hT1 : (σ.set id (rtO r.2))[id]? = some (rtO r.2) := List.getElem?_set_self hid
 have hS2 : ∀ Y,(σ.set id (rtO r.2)).set id Y = σ.set id Y := fun Y => List.set_set ..
 obtain ⟨S,hS⟩ : ∃ S, σ.set id (rtO r.2) = S := ⟨_,rfl⟩
 rw [hS] at hl2 hT1 hS2 ⊢
 (repeat' first | refine gq48 hl2 ?_ | with_reducible first | exact ⟨⟩ | refine zh ?_ | fail)
 have hr2 : r.2.length ≤ 1048576 := by rw [← hr]; exact (zcu 0 (Nat.le_refl _) hL).1
 have hTop : zbU (S ++ [.box [.d (.int .i64 0), .d (.int .i64 0), .d (.int .i64 0), .d (.int .i64 0), .d (.int .i64 0)], .box [.d (.int .i64 0), .d (.int .i64 0), .d (.int .i64 0), .d (.int .i64 r.1), .d (.int .i64 0)], .box (.rsl (S.length + 3) 0 4 0 0 :: zil zdE.last), .row 0 4 []]) (S.length + 2) (S.length + 3) 0 zdE :=
  ⟨by rw [zr]; rfl,by rw [zr]; rfl,rfl⟩
 have hLast : zlq zdE.last := fun a ha => by
  have := List.eq_of_mem_replicate ha
  subst this
  simp
 refine zE.pre (xs' := [.box (S.length + 2) 0, .box id 0]) (σ' := S ++ [.box [.d (.int .i64 0), .d (.int .i64 0), .d (.int .i64 0), .d (.int .i64 0), .d (.int .i64 0)], .box [.d (.int .i64 0), .d (.int .i64 0), .d (.int .i64 0), .d (.int .i64 r.1), .d (.int .i64 0)], .box (.rsl (S.length + 3) 0 4 0 0 :: zil zdE.last), .row 0 4 []]) ?_ ?_
 ·refine .rowB (S.length + 2) 0 (.exact [] :: zil zdE.last) 4 (by rw [zr]; rfl) rfl (by omega) ?_
  rw [zO,zQ]
  simp only [List.set_cons_succ,List.set_cons_zero,List.length_cons,List.length_nil,List.append_assoc,List.cons_append,List.nil_append]
  exact .refl _ _
 refine zts hTop .none hLast (zf hT1) hr2 ?_
 have hidS : id < S.length := by omega
 rw [List.set_append_left _ _ hidS,hS2]
 have hg : genF L = if r.1 = 0 ∨ zcK r.2 (zev zdE) = 0 then (zrY, 6,zdD r.2 (zev zdE)) else (⟨0, 0, 0,r.1,zcK r.2 (zev zdE)⟩, 0,zdD r.2 (zev zdE)) := by rw [genF,hr]
 have hl3 : S.length = (σ.set id (rtO (zdD r.2 (zev zdE)))).length := by rw [← hl2,List.length_set]
 have hlo : zfg σ.length (σ.set id (rtO (zdD r.2 (zev zdE)))) := hl.set (zfl _ _)
 obtain ⟨d,hd⟩ : ∃ d,zcK r.2 (zev zdE) = d := ⟨_,rfl⟩
 obtain ⟨L2,hL2⟩ : ∃ L2,zdD r.2 (zev zdE) = L2 := ⟨_,rfl⟩
 rw [hd,hL2] at hg
 rw [hL2] at hl3 hlo
 simp only [hd,hL2]
 obtain ⟨S2,hS2'⟩ : ∃ S2, σ.set id (rtO L2) = S2 := ⟨_,rfl⟩
 rw [hS2'] at hl3 hlo ⊢
 have fin : ∀ z,genF L = z → z.2.2 = L2 → K (.tup [hdrA z.1, .d (.int .i64 z.2.1)]) S2 := fun z h h2 => by
  rw [h,h2,hS2'] at hK; exact hK
 cases c1 : (r.1 == 0)
 ·cases c2 : (d == 0)
  ·(repeat' first | refine gq48 (zd hl2 (zd hl3 (zd c1 c2))) ?_ | with_reducible first | exact ⟨⟩ | refine zh ?_ | fail)
   rw [← hl3, ← hl2]
   refine zdh (by omega) ?_ hlo ?_
   ·simp [zcU,dmT,dm,dm1,zbZ,zbr,zeG]
   ·exact fin _ (by rw [hg,if_neg (by simp at c1 c2; omega)]) rfl
  ·(repeat' first | refine gq48 (zd hl2 (zd hl3 (zd c1 c2))) ?_ | with_reducible first | exact ⟨⟩ | refine zh ?_ | fail)
   rw [← hl3, ← hl2]
   refine zdh (by omega) ?_ hlo ?_
   ·simp [zcU,dmT,dm,dm1,zbZ,zbr,zeG]
   ·exact fin _ (by rw [hg,if_pos (.inr (by simpa using c2))]) rfl
 ·(repeat' first | refine gq48 (zd hl2 (zd hl3 c1)) ?_ | with_reducible first | exact ⟨⟩ | refine zh ?_ | fail)
  rw [← hl3, ← hl2]
  refine zdh (by omega) ?_ hlo ?_
  ·simp [zcU,dmT,dm,dm1,zbZ,zbr,zeG]
  ·exact fin _ (by rw [hg,if_pos (.inl (by simpa using c1))]) rfl
end Go.Proofs.YtncpaekiidpchaaGreat
