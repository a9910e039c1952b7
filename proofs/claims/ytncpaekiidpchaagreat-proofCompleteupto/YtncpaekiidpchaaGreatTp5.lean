/- Contracts: the bytes of the document's topics. -/
import Derived.Test.YtncpaekiidpchaaGreatTp3
set_option linter.all false
set_option maxRecDepth 100000
namespace Go.Proofs.YtncpaekiidpchaaGreat
open Go.AW
theorem zkS {σ : List zg} {b x : List UInt8} (hx : x.length ≤ 1073741824) (hb : b.length ≤ 1073741800) {K : KT} (hK : K (.d (.slice (bcs (b ++ zna x)))) (σ ++ [.tok 1 (b ++ zna x).length])) :
  zD Tryz.prog zaV [.d (.slice (bcs b)), .d (.slice (bcs x))] σ K :=
 .weaken (zfs hx hb ⟨_,_, .data 0 _ _ rfl rfl (.refl _ _),hK⟩)
theorem c_r7Bytes {σ : List zg} {id t g : Nat} {T : zbf} (hT : zbS σ id t g T) (hI : zeN T) (hL : zli T.last) {K : KT} (hK : K (.d (.slice (bcs (zeh T)))) σ) : zD Tryz.prog zeS [.box id 0] σ K := by
 refine zj zhM.is rfl fun hl _ => zhM.goes ?_
 have hb := hT.box
 have hrw := hT.row
 have xb : ∀ τ,(σ ++ τ)[id]? = _ := fun τ => zf hb
 have xr : ∀ τ,(σ ++ τ)[t]? = _ := fun τ => zf hrw
 have f4 := zdn T.l
 have hlenA : (zah (zbw T.l)).length = T.l.length * 4 := by rw [zdF f4,List.length_map]
 have hlf : (zbw T.l).flatten.length = T.l.length * 4 := by rw [← hlenA,zah,List.length_map]
 have hn := hI.len
 have hnl := zx (n := T.l.length) (by omega)
 simp only [zhU,iN,bT,bF,eN]
 (repeat' first | refine gq44 hb ?_ | with_reducible first | exact ⟨⟩ | refine zh ?_ | fail)
 refine zjG (b := []) (by simp) (by omega) ?_
 rw [List.nil_append]
 (repeat' first | refine gq1 ?_ | with_reducible first | exact ⟨⟩ | refine zh ?_ | fail)
 refine zG T.l.length (fun k vs s => ∃ τ,vs = [.d (.slice (bcs (zcm T.l.length ++ zmS (T.l.take k)))), .d (.int .i64 k)] ∧ s = σ ++ τ) ⟨[],by simp [zmS],by simp⟩ ?_
 rintro k vs s hk ⟨τ,rfl,rfl⟩
 have hbl : (zmS (T.l.take k)).length ≤ k * 5600 := by
  have := zsh (l := T.l.take k) fun x hx => hI.tops x (List.mem_of_mem_take hx)
  rw [List.length_take,Nat.min_eq_left hk] at this; exact this
 by_cases hlt : k < T.l.length
 ·have hd : decide ((k : Int) < (T.l.length : Int)) = true := by simp; omega
  have hx : T.l[k]? = some T.l[k] := by simp [hlt]
  have hX := hI.tops _ (List.getElem_mem hlt)
  obtain ⟨x,hxe⟩ : ∃ x,T.l[k] = x := ⟨_,rfl⟩
  rw [hxe] at hx hX
  have hgt : List.take 4 (List.drop (k * 4) (zah (zbw T.l))) = (topD x).map .d := zkF f4 (zae hx)
  have hk4 : k * 4 + 4 ≤ T.l.length * 4 := by omega
  have hnx : x.next = x.base + x.recs.length := rfl
  have a1 := hX.base; have a2 := hX.next; have a3 := hX.recs; have a4 := hX.groups; have a5 := hX.name
  have hbase : x.base = ((x.base.toNat : Nat) : Int) := by omega
  have m1 := zeP (x := x.name) (by omega)
  have m2 := zx (n := x.base.toNat) (by omega)
  have m3 := zx (n := x.recs.length) (by omega)
  have m4 := zx (n := x.groups.length) (by omega)
  have hrl := zE x.recs
  have hgl : (zbW x.groups).length = x.groups.length := List.length_map ..
  obtain ⟨B,hB⟩ : ∃ B,zcm T.l.length ++ zmS (T.l.take k) = B := ⟨_,rfl⟩
  have hBl : B.length ≤ 100000 := by rw [← hB]; simp; omega
  obtain ⟨R,hR⟩ : ∃ R, σ ++ τ = R := ⟨_,rfl⟩
  have yb : ∀ ρ,(R ++ ρ)[id]? = _ := fun ρ => zf (hR ▸ xb τ)
  have yr : ∀ ρ,(R ++ ρ)[t]? = _ := fun ρ => zf (hR ▸ xr τ)
  have yb0 : R[id]? = _ := hR ▸ xb τ
  have yr0 : R[t]? = _ := hR ▸ xr τ
  rw [hB,hR]
  (repeat' first | refine gq43 (zd hd (zd yb0 (zd yr0 (zd hgt (zd hlf hk4))))) ?_ | with_reducible first | exact ⟨⟩ | refine zh ?_ | fail)
  refine zkS (b := B) (x := x.name) (by omega) (by omega) ?_
  (repeat' first | refine gq1 ?_ | with_reducible first | exact ⟨⟩ | refine zh ?_ | fail)
  rw [hbase]
  refine zjG (by simp; omega) (by omega) ?_
  (repeat' first | refine gq2 hrl ?_ | with_reducible first | exact ⟨⟩ | refine zh ?_ | fail)
  refine zjG (by simp; omega) (by omega) ?_
  (repeat' first | refine gq1 ?_ | with_reducible first | exact ⟨⟩ | refine zh ?_ | fail)
  obtain ⟨B1,hB1⟩ : ∃ B1,B ++ (zna x.name ++ (zcm x.base.toNat ++ zcm x.recs.length)) = B1 := ⟨_,rfl⟩
  have hB1l : B1.length ≤ 101000 := by rw [← hB1]; simp; omega
  rw [hB1]
  refine zG x.recs.length (fun j vs s => ∃ ρ,vs = [.d (.slice (bcs (B1 ++ zkh (x.recs.take j)))), .d (.int .i64 j)] ∧ s = R ++ (.box [.d (.str x.name), .d (.int .i64 x.base.toNat), .d (.slice (zbU x.recs)), .d (.slice (zbW x.groups))] :: ρ)) ⟨_,by simp [zkh],rfl⟩ ?_
  rintro j vs s hj ⟨ρ,rfl,rfl⟩
  have hjl : (zkh (x.recs.take j)).length ≤ j * 74 := by
   have := zmE (f := zna) (n := 74) (l := x.recs.take j) fun r hr => by
    have := hX.each r (List.mem_of_mem_take hr)
    have := zeP (x := r) (by omega)
    omega
   rw [List.length_take,Nat.min_eq_left hj] at this; exact this
  by_cases hlj : j < x.recs.length
  ·have hdj : decide ((j : Int) < (x.recs.length : Int)) = true := by simp; omega
   have hy : x.recs[j]? = some x.recs[j] := by simp [hlj]
   have hry := hX.each _ (List.getElem_mem hlj)
   obtain ⟨y,hye⟩ : ∃ y,x.recs[j] = y := ⟨_,rfl⟩
   rw [hye] at hy hry
   have hgy := zmZ hy
   (repeat' first | refine gq2 (zd hdj (zd hrl hgy)) ?_ | with_reducible first | exact ⟨⟩ | refine zh ?_ | fail)
   refine zkS (by omega) (by simp; omega) ?_
   (repeat' first | refine gq2 (wkc j (by omega)) ?_ | with_reducible first | exact ⟨⟩ | refine zh ?_ | fail)
   refine zav.next hlj ⟨ρ ++ [_], ?_,by simp; rfl⟩
   rw [List.take_add_one,hy]
   simp [zkh]
  ·have hdj : decide ((j : Int) < (x.recs.length : Int)) = false := by simp; omega
   have hjo : x.recs.take j = x.recs := List.take_of_length_le (by omega)
   rw [hjo] at hjl ⊢
   (repeat' first | refine gq2 (zd hdj (zd hrl hgl)) ?_ | with_reducible first | exact ⟨⟩ | refine zh ?_ | fail)
   refine zjG (by simp; omega) (by omega) ?_
   obtain ⟨B2,hB2⟩ : ∃ B2,B1 ++ zkh x.recs ++ zcm x.groups.length = B2 := ⟨_,rfl⟩
   have hB2l : B2.length ≤ 120000 := by rw [← hB2]; simp; omega
   rw [hB2]
   (repeat' first | refine gq1 ?_ | with_reducible first | exact ⟨⟩ | refine zh ?_ | fail)
   refine zG x.groups.length (fun j vs s => ∃ ρ,vs = [.d (.slice (bcs (B2 ++ zmD (x.groups.take j)))), .d (.int .i64 j)] ∧ s = R ++ (.box [.d (.str x.name), .d (.int .i64 x.base.toNat), .d (.slice (zbU x.recs)), .d (.slice (zbW x.groups))] :: ρ)) ⟨_,by simp [zmD],rfl⟩ ?_
   clear ρ
   rintro j vs s hj ⟨ρ,rfl,rfl⟩
   have hjl : (zmD (x.groups.take j)).length ≤ j * 84 := by
    have := zmE (f := groupB) (n := 84) (l := x.groups.take j) fun r hr => zsE (hX.gs r (List.mem_of_mem_take hr))
    rw [List.length_take,Nat.min_eq_left hj] at this; exact this
   by_cases hlj : j < x.groups.length
   ·have hdj : decide ((j : Int) < (x.groups.length : Int)) = true := by simp; omega
    have hy : x.groups[j]? = some x.groups[j] := by simp [hlj]
    have hgs := hX.gs _ (List.getElem_mem hlj)
    obtain ⟨y,hye⟩ : ∃ y,x.groups[j] = y := ⟨_,rfl⟩
    rw [hye] at hy hgs
    have hgy := zae (f := zpm) hy
    have hyb : y.2 = ((y.2.toNat : Nat) : Int) := by omega
    have p1 := zeP (x := y.1) (by omega)
    (repeat' first | refine gq2 (zd hdj (zd hgl hgy)) ?_ | with_reducible first | exact ⟨⟩ | refine zh ?_ | fail)
    refine zkS (by omega) (by simp; omega) ?_
    (repeat' first | refine gq1 ?_ | with_reducible first | exact ⟨⟩ | refine zh ?_ | fail)
    rw [hyb]
    refine zjG (by simp; omega) (by omega) ?_
    (repeat' first | refine gq2 (wkc j (by omega)) ?_ | with_reducible first | exact ⟨⟩ | refine zh ?_ | fail)
    refine zav.next hlj ⟨ρ ++ [_], ?_,by simp; rfl⟩
    rw [List.take_add_one,hy]
    simp [zmD,groupB]
   ·have hdj : decide ((j : Int) < (x.groups.length : Int)) = false := by simp; omega
    have hjo : x.groups.take j = x.groups := List.take_of_length_le (by omega)
    rw [hjo]
    (repeat' first | refine gq2 (zd hdj (zd hgl (wkc k (by omega)))) ?_ | with_reducible first | exact ⟨⟩ | refine zh ?_ | fail)
    subst hR
    refine zav.next hlt ⟨τ ++ (.box [.d (.str x.name), .d (.int .i64 x.base.toNat), .d (.slice (zbU x.recs)), .d (.slice (zbW x.groups))] :: ρ), ?_,by simp⟩
    rw [List.take_add_one,hx]
    have e : zcm T.l.length ++ zmS (T.l.take k ++ [x]) = B2 ++ zmD x.groups := by
     rw [← hB2, ← hB1, ← hB]
     simp [zmS,topB]
    simp only [Option.toList_some,e]
 ·have hd : decide ((k : Int) < (T.l.length : Int)) = false := by simp; omega
  have hko : T.l.take k = T.l := List.take_of_length_le (by omega)
  rw [hko] at hbl ⊢
  obtain ⟨B,hB⟩ : ∃ B,zcm T.l.length ++ zmS T.l = B := ⟨_,rfl⟩
  have hBl : B.length ≤ 100000 := by rw [← hB]; simp; omega
  rw [hB]
  have hlast := hT.last
  (repeat' first | refine gq44 (zd hd xb) ?_ | with_reducible first | exact ⟨⟩ | refine zh ?_ | fail)
  refine zG 8 (fun j vs s => ∃ ρ,vs = [.d (.slice (bcs (B ++ zsD (T.last.take j)))), .d (.int .i64 j)] ∧ s = σ ++ ρ) ⟨_,by simp [zsD],rfl⟩ ?_
  rintro j vs s hj ⟨ρ,rfl,rfl⟩
  have hjl : (zsD (T.last.take j)).length ≤ j * 30 := by
   have := zsC (l := T.last.take j) fun a ha => hL a (List.mem_of_mem_take ha)
   rw [List.length_take,Nat.min_eq_left (by omega)] at this; exact this
  by_cases hlj : j < 8
  ·have hdj : decide ((j : Int) < 8) = true := by simp; omega
   obtain ⟨a,ha⟩ : ∃ a,T.last[j]? = some a := ⟨_,List.getElem?_eq_getElem (by omega)⟩
   have hl3 := zqL ha
   have hlc := znk T.last
   obtain ⟨⟨z1,z2⟩,⟨z3,z4⟩,⟨z5,z6⟩⟩ := hL a (List.mem_of_getElem? ha)
   have hl4 : ∀ X : AV,List.take 3 (List.drop (1 + j * 3) (X :: zik T.last)) = [.d (.int .i64 a.1), .d (.int .i64 a.2.1), .d (.int .i64 a.2.2)] := fun X => by
    rw [Nat.add_comm,List.drop_succ_cons]; exact hl3
   have e1 : a.1 = ((a.1.toNat : Nat) : Int) := by omega
   have e2 : a.2.1 = ((a.2.1.toNat : Nat) : Int) := by omega
   have e3 : a.2.2 = ((a.2.2.toNat : Nat) : Int) := by omega
   have p1 := zx (n := a.1.toNat) (by omega)
   have p2 := zx (n := a.2.1.toNat) (by omega)
   rw [e1,e2,e3] at hl4
   (repeat' first | refine gq2 (zd hdj (zd xb hl4)) ?_ | with_reducible first | exact ⟨⟩ | refine zh ?_ | fail)
   refine zjG (by simp; omega) (by omega) ?_
   (repeat' first | refine gq1 ?_ | with_reducible first | exact ⟨⟩ | refine zh ?_ | fail)
   refine zjG (by simp; omega) (by omega) ?_
   (repeat' first | refine gq1 ?_ | with_reducible first | exact ⟨⟩ | refine zh ?_ | fail)
   refine zjG (by simp; omega) (by omega) ?_
   (repeat' first | refine gq2 (wkc j (by omega)) ?_ | with_reducible first | exact ⟨⟩ | refine zh ?_ | fail)
   refine zav.next hlj ⟨ρ ++ [_], ?_,by simp; rfl⟩
   rw [List.take_add_one,ha]
   simp [zsD,lastB]
  ·have hdj : decide ((j : Int) < 8) = false := by simp; omega
   have hjo : T.last.take j = T.last := List.take_of_length_le (by omega)
   rw [hjo]
   (repeat' first | refine gq2 hdj ?_ | with_reducible first | exact ⟨⟩ | refine zh ?_ | fail)
   (first | refine zaq hl ?_ | refine zap hl ?_)
   rw [← hB,List.append_assoc]
   exact hK
end Go.Proofs.YtncpaekiidpchaaGreat

/- Contracts: the digest of the document's topics; the first header; a batch is executed. -/
set_option maxRecDepth 100000
namespace Go.Proofs.YtncpaekiidpchaaGreat
open Go.AW
theorem zqn {T : zbf} (hI : zeN T) (hL : zli T.last) (h8 : T.last.length = 8) : (zeh T).length ≤ 1000000 := by
 have h1 := zsh hI.tops
 have h2 := zsC hL
 have h3 := hI.len
 have h4 := zx (n := T.l.length) (by omega)
 simp only [zeh,List.length_append]
 omega
theorem ztl {σ : List zg} {id t g id2 : Nat} {T : zbf} {L : List (List UInt8)} (hT : zbS σ id t g T) (hI : zeN T) (hL : zli T.last) (hT2 : σ[id2]? = some (rtO L)) (hL2 : L.length ≤ 1048576) {K : KT}
  (hK : K (.d (.int .i64 (zcI L (zeh T)))) (σ.set id2 (rtO (zdH L (zeh T))))) : zD Tryz.prog zcY [.box id 0, .box id2 0] σ K := by
 refine zj zhf.is rfl fun hl _ => zhf.goes ?_
 have := zqn hI hL hT.last
 simp only [zhs,iN,bT,bF,eN]
 (repeat' first | refine gq1 ?_ | with_reducible first | exact ⟨⟩ | refine zh ?_ | fail)
 refine c_r7Bytes hT hI hL ?_
 (repeat' first | refine gq1 ?_ | with_reducible first | exact ⟨⟩ | refine zh ?_ | fail)
 refine zjF hT2 (by omega) hL2 ?_
 (repeat' first | refine gq1 ?_ | with_reducible first | exact ⟨⟩ | refine zh ?_ | fail)
 exact zev (by simp [zdh,dmT,dm,dm1,zca]) hl (zfh _ _) hK
abbrev zrR : zcF := ⟨0, 0, 0, 0, 0⟩
def genF (L : List (List UInt8)) : zcF × Int × List (List UInt8) :=
 let r := rootF L []
 let L2 := zdH r.2 (zeh zdq)
 if r.1 = 0 ∨ zcI r.2 (zeh zdq) = 0 then (zrR, 6,L2) else (⟨0, 0, 0,r.1,zcI r.2 (zeh zdq)⟩, 0,L2)
theorem gq48 {A P Q : Prop} (a : A) (h : Q) (e : A → P = Q := by intro a; simp -dsimp only [↓zey, ↓zau, ↓zbj, ↓zeA, ↓zes, ↓zeq, ↓zet, ↓zer, ↓zbo, ↓zbk, ↓zbp, ↓zbl, ↓zeu, ↓zbi, ↓zbq, ↓zbm, ↓zbr, ↓zbn, ↓zep, ↓zew, ↓zbh, ↓zbs, ↓zeg, ↓zef, ↓zeo,iN,bT,bF,eN, ↓zcS, ↓unC, ↓zW, ↓zK, ↓zL, ↓zN, ↓zZ, ↓zaw, ↓zbT, ↓zag, ↓zbu, ↓zP, ↓zq, ↓zo, ↓zby, ↓zl, ↓zaf, ↓zH, ↓zaC, ↓zaG, ↓ze, ↓zC, ↓zt, ↓zw, ↓zan, ↓zcC, ↓zdb, ↓zal, ↓zat, ↓zaF, ↓zaP, ↓zaW, ↓zu, ↓zai, ↓zM, ↓zA, ↓zaa,zdi,zbd,zba,unA,zdk,bnd,zdw,zac,zS,zdy,dm,dm1,zB,zak,zdP,zdO,zQ,Q0,Q1,Q2,Q3,Q4,Q5,zR,zr,zy,zO,zI,Q6,Q7,Q8,Q9,Q10,Q11,Q12,Q13,Q14,Nat.reduceAdd,Q15,Int.reduceToNat,Q16,Q17,Q18,Q19,Q20,reduceIte,Q21,Q22,zE,rep,zV,zdG,toD,zab,Q23,Q24,Q25,Q26,Q27,Q28,Nat.reduceLeDiff,Q29,Nat.reduceSub,Q30,Q31,Q32,sc,Q33,Q34,Q35,Q36,Q37,Q26,Q38,Q39,zgH,zgE,zgB,zgI,zcf,zgF,zgC,zgG,zgD,zce,zcg,zgJ,zgK,Bool.not_true,Bool.not_false,List.length_map,List.length_set,a]; rfl) : P := (e a).mpr h
theorem c_r9Genesis {σ : List zg} {id : Nat} {L : List (List UInt8)} (hT : σ[id]? = some (rtO L)) (hL : L.length ≤ 1048576) {K : KT}
  (hK : K (.tup [hdrA (genF L).1, .d (.int .i64 (genF L).2.1)]) (σ.set id (rtO (genF L).2.2))) : zD Tryz.prog zjm [.box id 0] σ K := by
 refine zj znt.is rfl fun hl _ => znt.goes ?_
 have hid := zF hT
 simp only [znR,iN,bT,bF,eN]
 (repeat' first | refine gq1 ?_ | with_reducible first | exact ⟨⟩ | refine zh ?_ | fail)
 refine c_r5Root (l := []) (zf hT) (by omega) (by simp) (by simp) ?_
 rw [List.set_append_left _ _ hid]
 obtain ⟨r,hr⟩ : ∃ r,rootF L [] = r := ⟨_,rfl⟩
 rw [hr]
 have hl2 : σ.length = (σ.set id (rtO r.2)).length := (List.length_set ..).symm
 have hT1 : (σ.set id (rtO r.2))[id]? = some (rtO r.2) := List.getElem?_set_self hid
 have hS2 : ∀ Y,(σ.set id (rtO r.2)).set id Y = σ.set id Y := fun Y => List.set_set ..
 obtain ⟨S,hS⟩ : ∃ S, σ.set id (rtO r.2) = S := ⟨_,rfl⟩
 rw [hS] at hl2 hT1 hS2 ⊢
 (repeat' first | refine gq48 hl2 ?_ | with_reducible first | exact ⟨⟩ | refine zh ?_ | fail)
 have hr2 : r.2.length ≤ 1048576 := by rw [← hr]; exact (zcs 0 (Nat.le_refl _) hL).1
 have hTop : zbS (S ++ [.box [.d (.int .i64 0), .d (.int .i64 0), .d (.int .i64 0), .d (.int .i64 0), .d (.int .i64 0)], .box [.d (.int .i64 0), .d (.int .i64 0), .d (.int .i64 0), .d (.int .i64 r.1), .d (.int .i64 0)], .box (.rsl (S.length + 3) 0 4 0 0 :: zik zdq.last), .row 0 4 []]) (S.length + 2) (S.length + 3) 0 zdq :=
  ⟨by rw [zr]; rfl,by rw [zr]; rfl,rfl⟩
 have hLast : zli zdq.last := fun a ha => by
  have := List.eq_of_mem_replicate ha
  subst this
  simp
 refine zD.pre (xs' := [.box (S.length + 2) 0, .box id 0]) (σ' := S ++ [.box [.d (.int .i64 0), .d (.int .i64 0), .d (.int .i64 0), .d (.int .i64 0), .d (.int .i64 0)], .box [.d (.int .i64 0), .d (.int .i64 0), .d (.int .i64 0), .d (.int .i64 r.1), .d (.int .i64 0)], .box (.rsl (S.length + 3) 0 4 0 0 :: zik zdq.last), .row 0 4 []]) ?_ ?_
 ·refine .rowB (S.length + 2) 0 (.exact [] :: zik zdq.last) 4 (by rw [zr]; rfl) rfl (by omega) ?_
  rw [zO,zR]
  simp only [List.set_cons_succ,List.set_cons_zero,List.length_cons,List.length_nil,List.append_assoc,List.cons_append,List.nil_append]
  exact .refl _ _
 refine ztl hTop .none hLast (zf hT1) hr2 ?_
 have hidS : id < S.length := by omega
 rw [List.set_append_left _ _ hidS,hS2]
 have hg : genF L = if r.1 = 0 ∨ zcI r.2 (zeh zdq) = 0 then (zrR, 6,zdH r.2 (zeh zdq)) else (⟨0, 0, 0,r.1,zcI r.2 (zeh zdq)⟩, 0,zdH r.2 (zeh zdq)) := by rw [genF,hr]
 have hl3 : S.length = (σ.set id (rtO (zdH r.2 (zeh zdq)))).length := by rw [← hl2,List.length_set]
 have hlo : zfc σ.length (σ.set id (rtO (zdH r.2 (zeh zdq)))) := hl.set (zfh _ _)
 obtain ⟨d,hd⟩ : ∃ d,zcI r.2 (zeh zdq) = d := ⟨_,rfl⟩
 obtain ⟨L2,hL2⟩ : ∃ L2,zdH r.2 (zeh zdq) = L2 := ⟨_,rfl⟩
 rw [hd,hL2] at hg
 rw [hL2] at hl3 hlo
 simp only [hd,hL2]
 obtain ⟨S2,hS2'⟩ : ∃ S2, σ.set id (rtO L2) = S2 := ⟨_,rfl⟩
 rw [hS2'] at hl3 hlo ⊢
 have fin : ∀ z,genF L = z → z.2.2 = L2 → K (.tup [hdrA z.1, .d (.int .i64 z.2.1)]) S2 := fun z h h2 => by
  rw [h,h2,hS2'] at hK; exact hK
 cases c1 : (r.1 == 0)
 ·cases c2 : (d == 0)
  ·(repeat' first | refine gq48 (zd hl2 (zd hl3 (zd c1 c2))) ?_ | with_reducible first | exact ⟨⟩ | refine zh ?_ | fail)
   rw [← hl3, ← hl2]
   refine zdc (by omega) ?_ hlo ?_
   ·simp [zdh,dmT,dm,dm1,zca,zbv,zeB]
   ·exact fin _ (by rw [hg,if_neg (by simp at c1 c2; omega)]) rfl
  ·(repeat' first | refine gq48 (zd hl2 (zd hl3 (zd c1 c2))) ?_ | with_reducible first | exact ⟨⟩ | refine zh ?_ | fail)
   rw [← hl3, ← hl2]
   refine zdc (by omega) ?_ hlo ?_
   ·simp [zdh,dmT,dm,dm1,zca,zbv,zeB]
   ·exact fin _ (by rw [hg,if_pos (.inr (by simpa using c2))]) rfl
 ·(repeat' first | refine gq48 (zd hl2 (zd hl3 c1)) ?_ | with_reducible first | exact ⟨⟩ | refine zh ?_ | fail)
  rw [← hl3, ← hl2]
  refine zdc (by omega) ?_ hlo ?_
  ·simp [zdh,dmT,dm,dm1,zca,zbv,zeB]
  ·exact fin _ (by rw [hg,if_pos (.inl (by simpa using c1))]) rfl
end Go.Proofs.YtncpaekiidpchaaGreat
