/- Contracts: the bytes of the document's topics. -/
import Derived.Test.YtncpaekiidpchaaGreatTp3
set_option linter.all false
set_option maxRecDepth 100000
namespace Go.Proofs.YtncpaekiidpchaaGreat
open Go.AW
theorem zlH {σ : List zh} {b x : List UInt8} (hx : x.length ≤ 1073741824) (hb : b.length ≤ 1073741800) {K : KT} (hK : K (.d (.slice (bcs (b ++ znI x)))) (σ ++ [.tok 1 (b ++ znI x).length])) :
  zy Tryz.prog zaS [.d (.slice (bcs b)), .d (.slice (bcs x))] σ K :=
 .weaken (zfK hx hb ⟨_,_, .data 0 _ _ rfl rfl (.refl _ _),hK⟩)
theorem c_r7Bytes {σ : List zh} {id t g : Nat} {T : zch} (hT : zbY σ id t g T) (hI : zhO T) (hL : zlY T.last) {K : KT} (hK : K (.d (.slice (bcs (zft T)))) σ) : zy Tryz.prog zfb [.box id 0] σ K := by
 refine zi zin.is rfl fun hl _ => zin.goes ?_
 have hb := hT.box
 have hrw := hT.row
 have xb : ∀ τ,(σ ++ τ)[id]? = _ := fun τ => zf hb
 have xr : ∀ τ,(σ ++ τ)[t]? = _ := fun τ => zf hrw
 have f4 := zdu T.l
 have hlenA : (zan (zbA T.l)).length = T.l.length * 4 := by rw [zdR f4,List.length_map]
 have hlf : (zbA T.l).flatten.length = T.l.length * 4 := by rw [← hlenA,zan,List.length_map]
 have hn := hI.len
 have hnl := zD (n := T.l.length) (by omega)
 simp only [ziy,iN,bT,bF,eN]
 (repeat' first | refine gq48 hb ?_ | with_reducible first | exact ⟨⟩ | refine zg ?_ | fail)
 refine zkl (b := []) (by simp) (by omega) ?_
 rw [List.nil_append]
 (repeat' first | refine gq1 ?_ | with_reducible first | exact ⟨⟩ | refine zg ?_ | fail)
 refine zB T.l.length (fun k vs s => ∃ τ,vs = [.d (.slice (bcs (zcr T.l.length ++ znB (T.l.take k)))), .d (.int .i64 k)] ∧ s = σ ++ τ) ⟨[],by simp [znB],by simp⟩ ?_
 rintro k vs s hk ⟨τ,rfl,rfl⟩
 have hbl : (znB (T.l.take k)).length ≤ k * 5600 := by
  have := zto (l := T.l.take k) fun x hx => hI.tops x (List.mem_of_mem_take hx)
  rw [List.length_take,Nat.min_eq_left hk] at this; exact this
 by_cases hlt : k < T.l.length
 ·have hd : decide ((k : Int) < (T.l.length : Int)) = true := by simp; omega
  have hx : T.l[k]? = some T.l[k] := by simp [hlt]
  have hX := hI.tops _ (List.getElem_mem hlt)
  obtain ⟨x,hxe⟩ : ∃ x,T.l[k] = x := ⟨_,rfl⟩
  rw [hxe] at hx hX
  have hgt : List.take 4 (List.drop (k * 4) (zan (zbA T.l))) = (topD x).map .d := zlq f4 (zU hx)
  have hk4 : k * 4 + 4 ≤ T.l.length * 4 := by omega
  have hnx : x.next = x.base + x.recs.length := rfl
  have a1 := hX.base; have a2 := hX.next; have a3 := hX.recs; have a4 := hX.groups; have a5 := hX.name
  have hbase : x.base = ((x.base.toNat : Nat) : Int) := by omega
  have m1 := zeX (x := x.name) (by omega)
  have m2 := zD (n := x.base.toNat) (by omega)
  have m3 := zD (n := x.recs.length) (by omega)
  have m4 := zD (n := x.groups.length) (by omega)
  have hrl := zF x.recs
  have hgl : (zcb x.groups).length = x.groups.length := List.length_map ..
  obtain ⟨B,hB⟩ : ∃ B,zcr T.l.length ++ znB (T.l.take k) = B := ⟨_,rfl⟩
  have hBl : B.length ≤ 100000 := by rw [← hB]; simp; omega
  obtain ⟨R,hR⟩ : ∃ R, σ ++ τ = R := ⟨_,rfl⟩
  have yb : ∀ ρ,(R ++ ρ)[id]? = _ := fun ρ => zf (hR ▸ xb τ)
  have yr : ∀ ρ,(R ++ ρ)[t]? = _ := fun ρ => zf (hR ▸ xr τ)
  have yb0 : R[id]? = _ := hR ▸ xb τ
  have yr0 : R[t]? = _ := hR ▸ xr τ
  rw [hB,hR]
  (repeat' first | refine gq47 (zc hd (zc yb0 (zc yr0 (zc hgt (zc hlf hk4))))) ?_ | with_reducible first | exact ⟨⟩ | refine zg ?_ | fail)
  refine zlH (b := B) (x := x.name) (by omega) (by omega) ?_
  (repeat' first | refine gq1 ?_ | with_reducible first | exact ⟨⟩ | refine zg ?_ | fail)
  rw [hbase]
  refine zkl (by simp; omega) (by omega) ?_
  (repeat' first | refine gq2 hrl ?_ | with_reducible first | exact ⟨⟩ | refine zg ?_ | fail)
  refine zkl (by simp; omega) (by omega) ?_
  (repeat' first | refine gq1 ?_ | with_reducible first | exact ⟨⟩ | refine zg ?_ | fail)
  obtain ⟨B1,hB1⟩ : ∃ B1,B ++ (znI x.name ++ (zcr x.base.toNat ++ zcr x.recs.length)) = B1 := ⟨_,rfl⟩
  have hB1l : B1.length ≤ 101000 := by rw [← hB1]; simp; omega
  rw [hB1]
  refine zB x.recs.length (fun j vs s => ∃ ρ,vs = [.d (.slice (bcs (B1 ++ zkQ (x.recs.take j)))), .d (.int .i64 j)] ∧ s = R ++ (.box [.d (.str x.name), .d (.int .i64 x.base.toNat), .d (.slice (zbZ x.recs)), .d (.slice (zcb x.groups))] :: ρ)) ⟨_,by simp [zkQ],rfl⟩ ?_
  rintro j vs s hj ⟨ρ,rfl,rfl⟩
  have hjl : (zkQ (x.recs.take j)).length ≤ j * 74 := by
   have := znp (f := znI) (n := 74) (l := x.recs.take j) fun r hr => by
    have := hX.each r (List.mem_of_mem_take hr)
    have := zeX (x := r) (by omega)
    omega
   rw [List.length_take,Nat.min_eq_left hj] at this; exact this
  by_cases hlj : j < x.recs.length
  ·have hdj : decide ((j : Int) < (x.recs.length : Int)) = true := by simp; omega
   have hy : x.recs[j]? = some x.recs[j] := by simp [hlj]
   have hry := hX.each _ (List.getElem_mem hlj)
   obtain ⟨y,hye⟩ : ∃ y,x.recs[j] = y := ⟨_,rfl⟩
   rw [hye] at hy hry
   have hgy := znH hy
   (repeat' first | refine gq2 (zc hdj (zc hrl hgy)) ?_ | with_reducible first | exact ⟨⟩ | refine zg ?_ | fail)
   refine zlH (by omega) (by simp; omega) ?_
   (repeat' first | refine gq2 (wkc j (by omega)) ?_ | with_reducible first | exact ⟨⟩ | refine zg ?_ | fail)
   refine zap.next hlj ⟨ρ ++ [_], ?_,by simp; rfl⟩
   rw [List.take_add_one,hy]
   simp [zkQ]
  ·have hdj : decide ((j : Int) < (x.recs.length : Int)) = false := by simp; omega
   have hjo : x.recs.take j = x.recs := List.take_of_length_le (by omega)
   rw [hjo] at hjl ⊢
   (repeat' first | refine gq2 (zc hdj (zc hrl hgl)) ?_ | with_reducible first | exact ⟨⟩ | refine zg ?_ | fail)
   refine zkl (by simp; omega) (by omega) ?_
   obtain ⟨B2,hB2⟩ : ∃ B2,B1 ++ zkQ x.recs ++ zcr x.groups.length = B2 := ⟨_,rfl⟩
   have hB2l : B2.length ≤ 120000 := by rw [← hB2]; simp; omega
   rw [hB2]
   (repeat' first | refine gq1 ?_ | with_reducible first | exact ⟨⟩ | refine zg ?_ | fail)
   refine zB x.groups.length (fun j vs s => ∃ ρ,vs = [.d (.slice (bcs (B2 ++ zno (x.groups.take j)))), .d (.int .i64 j)] ∧ s = R ++ (.box [.d (.str x.name), .d (.int .i64 x.base.toNat), .d (.slice (zbZ x.recs)), .d (.slice (zcb x.groups))] :: ρ)) ⟨_,by simp [zno],rfl⟩ ?_
   clear ρ
   rintro j vs s hj ⟨ρ,rfl,rfl⟩
   have hjl : (zno (x.groups.take j)).length ≤ j * 84 := by
    have := znp (f := groupB) (n := 84) (l := x.groups.take j) fun r hr => ztK (hX.gs r (List.mem_of_mem_take hr))
    rw [List.length_take,Nat.min_eq_left hj] at this; exact this
   by_cases hlj : j < x.groups.length
   ·have hdj : decide ((j : Int) < (x.groups.length : Int)) = true := by simp; omega
    have hy : x.groups[j]? = some x.groups[j] := by simp [hlj]
    have hgs := hX.gs _ (List.getElem_mem hlj)
    obtain ⟨y,hye⟩ : ∃ y,x.groups[j] = y := ⟨_,rfl⟩
    rw [hye] at hy hgs
    have hgy := zU (f := zpS) hy
    have hyb : y.2 = ((y.2.toNat : Nat) : Int) := by omega
    have p1 := zeX (x := y.1) (by omega)
    (repeat' first | refine gq2 (zc hdj (zc hgl hgy)) ?_ | with_reducible first | exact ⟨⟩ | refine zg ?_ | fail)
    refine zlH (by omega) (by simp; omega) ?_
    (repeat' first | refine gq1 ?_ | with_reducible first | exact ⟨⟩ | refine zg ?_ | fail)
    rw [hyb]
    refine zkl (by simp; omega) (by omega) ?_
    (repeat' first | refine gq2 (wkc j (by omega)) ?_ | with_reducible first | exact ⟨⟩ | refine zg ?_ | fail)
    refine zap.next hlj ⟨ρ ++ [_], ?_,by simp; rfl⟩
    rw [List.take_add_one,hy]
    simp [zno,groupB]
   ·have hdj : decide ((j : Int) < (x.groups.length : Int)) = false := by simp; omega
    have hjo : x.groups.take j = x.groups := List.take_of_length_le (by omega)
    rw [hjo]
    (repeat' first | refine gq2 (zc hdj (zc hgl (wkc k (by omega)))) ?_ | with_reducible first | exact ⟨⟩ | refine zg ?_ | fail)
    subst hR
    refine zap.next hlt ⟨τ ++ (.box [.d (.str x.name), .d (.int .i64 x.base.toNat), .d (.slice (zbZ x.recs)), .d (.slice (zcb x.groups))] :: ρ), ?_,by simp⟩
    rw [List.take_add_one,hx]
    have e : zcr T.l.length ++ znB (T.l.take k ++ [x]) = B2 ++ zno x.groups := by
     rw [← hB2, ← hB1, ← hB]
     simp [znB,topB]
    simp only [Option.toList_some,e]
 ·have hd : decide ((k : Int) < (T.l.length : Int)) = false := by simp; omega
  have hko : T.l.take k = T.l := List.take_of_length_le (by omega)
  rw [hko] at hbl ⊢
  obtain ⟨B,hB⟩ : ∃ B,zcr T.l.length ++ znB T.l = B := ⟨_,rfl⟩
  have hBl : B.length ≤ 100000 := by rw [← hB]; simp; omega
  rw [hB]
  have hlast := hT.last
  (repeat' first | refine gq48 (zc hd xb) ?_ | with_reducible first | exact ⟨⟩ | refine zg ?_ | fail)
  refine zB 8 (fun j vs s => ∃ ρ,vs = [.d (.slice (bcs (B ++ ztI (T.last.take j)))), .d (.int .i64 j)] ∧ s = σ ++ ρ) ⟨_,by simp [ztI],rfl⟩ ?_
  rintro j vs s hj ⟨ρ,rfl,rfl⟩
  have hjl : (ztI (T.last.take j)).length ≤ j * 30 := by
   have := ztH (l := T.last.take j) fun a ha => hL a (List.mem_of_mem_take ha)
   rw [List.length_take,Nat.min_eq_left (by omega)] at this; exact this
  by_cases hlj : j < 8
  ·have hdj : decide ((j : Int) < 8) = true := by simp; omega
   obtain ⟨a,ha⟩ : ∃ a,T.last[j]? = some a := ⟨_,List.getElem?_eq_getElem (by omega)⟩
   have hl3 := zrF ha
   have hlc := znQ T.last
   obtain ⟨⟨z1,z2⟩,⟨z3,z4⟩,⟨z5,z6⟩⟩ := hL a (List.mem_of_getElem? ha)
   have hl4 : ∀ X : AV,List.take 3 (List.drop (1 + j * 3) (X :: ziL T.last)) = [.d (.int .i64 a.1), .d (.int .i64 a.2.1), .d (.int .i64 a.2.2)] := fun X => by
    rw [Nat.add_comm,List.drop_succ_cons]; exact hl3
   have e1 : a.1 = ((a.1.toNat : Nat) : Int) := by omega
   have e2 : a.2.1 = ((a.2.1.toNat : Nat) : Int) := by omega
   have e3 : a.2.2 = ((a.2.2.toNat : Nat) : Int) := by omega
   have p1 := zD (n := a.1.toNat) (by omega)
   have p2 := zD (n := a.2.1.toNat) (by omega)
   rw [e1,e2,e3] at hl4
   (repeat' first | refine gq2 (zc hdj (zc xb hl4)) ?_ | with_reducible first | exact ⟨⟩ | refine zg ?_ | fail)
   refine zkl (by simp; omega) (by omega) ?_
   (repeat' first | refine gq1 ?_ | with_reducible first | exact ⟨⟩ | refine zg ?_ | fail)
   refine zkl (by simp; omega) (by omega) ?_
   (repeat' first | refine gq1 ?_ | with_reducible first | exact ⟨⟩ | refine zg ?_ | fail)
   refine zkl (by simp; omega) (by omega) ?_
   (repeat' first | refine gq2 (wkc j (by omega)) ?_ | with_reducible first | exact ⟨⟩ | refine zg ?_ | fail)
   refine zap.next hlj ⟨ρ ++ [_], ?_,by simp; rfl⟩
   rw [List.take_add_one,ha]
   simp [ztI,lastB]
  ·have hdj : decide ((j : Int) < 8) = false := by simp; omega
   have hjo : T.last.take j = T.last := List.take_of_length_le (by omega)
   rw [hjo]
   (repeat' first | refine gq2 hdj ?_ | with_reducible first | exact ⟨⟩ | refine zg ?_ | fail)
   (first | refine zX hl ?_ | refine zW hl ?_)
   rw [← hB,List.append_assoc]
   exact hK
end Go.Proofs.YtncpaekiidpchaaGreat

/- Contracts: the digest of the document's topics; the first header; a batch is executed. -/
set_option maxRecDepth 100000
namespace Go.Proofs.YtncpaekiidpchaaGreat
open Go.AW
theorem zri {T : zch} (hI : zhO T) (hL : zlY T.last) (h8 : T.last.length = 8) : (zft T).length ≤ 1000000 := by
 have h1 := zto hI.tops
 have h2 := ztH hL
 have h3 := hI.len
 have h4 := zD (n := T.l.length) (by omega)
 simp only [zft,List.length_append]
 omega
theorem zuz {σ : List zh} {id t g id2 : Nat} {T : zch} {L : List (List UInt8)} (hT : zbY σ id t g T) (hI : zhO T) (hL : zlY T.last) (hT2 : σ[id2]? = some (rtO L)) (hL2 : L.length ≤ 1048576) {K : KT}
  (hK : K (.d (.int .i64 (zew L (zft T)))) (σ.set id2 (rtO (zfo L (zft T))))) : zy Tryz.prog zdg [.box id 0, .box id2 0] σ K := by
 refine zi zhD.is rfl fun hl _ => zhD.goes ?_
 have := zri hI hL hT.last
 simp only [zhR,iN,bT,bF,eN]
 (repeat' first | refine gq1 ?_ | with_reducible first | exact ⟨⟩ | refine zg ?_ | fail)
 refine c_r7Bytes hT hI hL ?_
 (repeat' first | refine gq1 ?_ | with_reducible first | exact ⟨⟩ | refine zg ?_ | fail)
 refine zkj hT2 (by omega) hL2 ?_
 (repeat' first | refine gq1 ?_ | with_reducible first | exact ⟨⟩ | refine zg ?_ | fail)
 exact zeM (by simp [zcZ,dmT,dm,dm1,zcf]) hl (zeG _ _) hK
abbrev zsU : zeb := ⟨0, 0, 0, 0, 0⟩
def genF (L : List (List UInt8)) : zeb × Int × List (List UInt8) :=
 let r := zbM L []
 let L2 := zfo r.2 (zft zdL)
 if r.1 = 0 ∨ zew r.2 (zft zdL) = 0 then (zsU, 6,L2) else (⟨0, 0, 0,r.1,zew r.2 (zft zdL)⟩, 0,L2)
theorem c_r9Genesis {σ : List zh} {id : Nat} {L : List (List UInt8)} (hT : σ[id]? = some (rtO L)) (hL : L.length ≤ 1048576) {K : KT}
  (hK : K (.tup [ztJ (genF L).1, .d (.int .i64 (genF L).2.1)]) (σ.set id (rtO (genF L).2.2))) : zy Tryz.prog zjT [.box id 0] σ K := by
 refine zi znZ.is rfl fun hl _ => znZ.goes ?_
 have hid := zH hT
 simp only [zoC,iN,bT,bF,eN]
 (repeat' first | refine gq1 ?_ | with_reducible first | exact ⟨⟩ | refine zg ?_ | fail)
 refine zmq (l := []) (zf hT) (by omega) (by simp) (by simp) ?_
 rw [List.set_append_left _ _ hid]
 obtain ⟨r,hr⟩ : ∃ r,zbM L [] = r := ⟨_,rfl⟩
 rw [hr]
 have hl2 : σ.length = (σ.set id (rtO r.2)).length := (List.length_set ..).symm
 have hT1 : (σ.set id (rtO r.2))[id]? = some (rtO r.2) := List.getElem?_set_self hid
 have hS2 : ∀ Y,(σ.set id (rtO r.2)).set id Y = σ.set id Y := fun Y => List.set_set ..
 obtain ⟨S,hS⟩ : ∃ S, σ.set id (rtO r.2) = S := ⟨_,rfl⟩
 rw [hS] at hl2 hT1 hS2 ⊢
 (repeat' first | refine gq46 hl2 ?_ | with_reducible first | exact ⟨⟩ | refine zg ?_ | fail)
 have hr2 : r.2.length ≤ 1048576 := by rw [← hr]; exact (zcz 0 (Nat.le_refl _) hL).1
 have hTop : zbY (S ++ [.box [.d (.int .i64 0), .d (.int .i64 0), .d (.int .i64 0), .d (.int .i64 0), .d (.int .i64 0)], .box [.d (.int .i64 0), .d (.int .i64 0), .d (.int .i64 0), .d (.int .i64 r.1), .d (.int .i64 0)], .box (.rsl (S.length + 3) 0 4 0 0 :: ziL zdL.last), .row 0 4 []]) (S.length + 2) (S.length + 3) 0 zdL :=
  ⟨by rw [zq]; rfl,by rw [zq]; rfl,rfl⟩
 have hLast : zlY zdL.last := fun a ha => by
  have := List.eq_of_mem_replicate ha
  subst this
  simp
 refine zy.pre (xs' := [.box (S.length + 2) 0, .box id 0]) (σ' := S ++ [.box [.d (.int .i64 0), .d (.int .i64 0), .d (.int .i64 0), .d (.int .i64 0), .d (.int .i64 0)], .box [.d (.int .i64 0), .d (.int .i64 0), .d (.int .i64 0), .d (.int .i64 r.1), .d (.int .i64 0)], .box (.rsl (S.length + 3) 0 4 0 0 :: ziL zdL.last), .row 0 4 []]) ?_ ?_
 ·refine .rowB (S.length + 2) 0 (.exact [] :: ziL zdL.last) 4 (by rw [zq]; rfl) rfl (by omega) ?_
  rw [zO,zT]
  simp only [List.set_cons_succ,List.set_cons_zero,List.length_cons,List.length_nil,List.append_assoc,List.cons_append,List.nil_append]
  exact .refl _ _
 refine zuz hTop .none hLast (zf hT1) hr2 ?_
 have hidS : id < S.length := by omega
 rw [List.set_append_left _ _ hidS,hS2]
 have hg : genF L = if r.1 = 0 ∨ zew r.2 (zft zdL) = 0 then (zsU, 6,zfo r.2 (zft zdL)) else (⟨0, 0, 0,r.1,zew r.2 (zft zdL)⟩, 0,zfo r.2 (zft zdL)) := by rw [genF,hr]
 have hl3 : S.length = (σ.set id (rtO (zfo r.2 (zft zdL)))).length := by rw [← hl2,List.length_set]
 have hlo : zfn σ.length (σ.set id (rtO (zfo r.2 (zft zdL)))) := hl.set (zeG _ _)
 obtain ⟨d,hd⟩ : ∃ d,zew r.2 (zft zdL) = d := ⟨_,rfl⟩
 obtain ⟨L2,hL2⟩ : ∃ L2,zfo r.2 (zft zdL) = L2 := ⟨_,rfl⟩
 rw [hd,hL2] at hg
 rw [hL2] at hl3 hlo
 simp only [hd,hL2]
 obtain ⟨S2,hS2'⟩ : ∃ S2, σ.set id (rtO L2) = S2 := ⟨_,rfl⟩
 rw [hS2'] at hl3 hlo ⊢
 have fin : ∀ z,genF L = z → z.2.2 = L2 → K (.tup [ztJ z.1, .d (.int .i64 z.2.1)]) S2 := fun z h h2 => by
  rw [h,h2,hS2'] at hK; exact hK
 cases c1 : (r.1 == 0)
 ·cases c2 : (d == 0)
  ·(repeat' first | refine gq46 (zc hl2 (zc hl3 (zc c1 c2))) ?_ | with_reducible first | exact ⟨⟩ | refine zg ?_ | fail)
   rw [← hl3, ← hl2]
   refine zcN (by omega) ?_ hlo ?_
   ·simp [zcZ,dmT,dm,dm1,zcf,zbu,zeu]
   ·exact fin _ (by rw [hg,if_neg (by simp at c1 c2; omega)]) rfl
  ·(repeat' first | refine gq46 (zc hl2 (zc hl3 (zc c1 c2))) ?_ | with_reducible first | exact ⟨⟩ | refine zg ?_ | fail)
   rw [← hl3, ← hl2]
   refine zcN (by omega) ?_ hlo ?_
   ·simp [zcZ,dmT,dm,dm1,zcf,zbu,zeu]
   ·exact fin _ (by rw [hg,if_pos (.inr (by simpa using c2))]) rfl
 ·(repeat' first | refine gq46 (zc hl2 (zc hl3 c1)) ?_ | with_reducible first | exact ⟨⟩ | refine zg ?_ | fail)
  rw [← hl3, ← hl2]
  refine zcN (by omega) ?_ hlo ?_
  ·simp [zcZ,dmT,dm,dm1,zcf,zbu,zeu]
  ·exact fin _ (by rw [hg,if_pos (.inl (by simpa using c1))]) rfl
end Go.Proofs.YtncpaekiidpchaaGreat
