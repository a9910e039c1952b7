/- Contracts: the bytes of the document's topics. -/
import Derived.Test.YtfgbofkdhfjegaaGreatTp3
set_option linter.all false
set_option maxRecDepth 100000
namespace Go.Proofs.YtfgbofkdhfjegaaGreat
open Go.AW
theorem zmi {σ : List zh} {b x : List UInt8} (hx : x.length ≤ 1073741824) (hb : b.length ≤ 1073741800) {K : KT} (hK : K (.d (.slice (bcs (b ++ zoH x)))) (σ ++ [.tok 1 (b ++ zoH x).length])) :
  zr Tryz.prog zbm [.d (.slice (bcs b)), .d (.slice (bcs x))] σ K :=
 .weaken (zgB hx hb ⟨_,_, .data 0 _ _ rfl rfl (.refl _ _),hK⟩)
theorem c_r7Bytes {σ : List zh} {id t g : Nat} {T : zbY} (hT : zcl σ id t g T) (hI : zgW T) (hL : zmz T.last) {K : KT} (hK : K (.d (.slice (bcs (zfu T)))) σ) : zr Tryz.prog zfS [.box id 0] σ K := by
 refine zgk zpb fun hl => ?_
 have hb := hT.box
 have hrw := hT.row
 have xb : ∀ τ,(σ ++ τ)[id]? = _ := fun τ => zd hb
 have xr : ∀ τ,(σ ++ τ)[t]? = _ := fun τ => zd hrw
 have f4 := zdW T.l
 have hlenA : (zaE (zbX T.l)).length = T.l.length * 4 := by rw [zfd f4,List.length_map]
 have hlf : (zbX T.l).flatten.length = T.l.length * 4 := by rw [← hlenA,zaE,List.length_map]
 have hn := hI.len
 have hnl := zF (n := T.l.length) (by omega)
 simp only [zjg,iN,bT,bF,eN]
 refine zoV hb ?_
 refine zla (b := []) (by simp) (by omega) ?_
 rw [List.nil_append]
 refine gq1 ?_
 refine zt T.l.length (fun k vs s => ∃ τ,vs = [.d (.slice (bcs (zcR T.l.length ++ zoB (T.l.take k)))), .d (.int .i64 k)] ∧ s = σ ++ τ) ⟨[],by simp [zoB],by simp⟩ ?_
 rintro k vs s hk ⟨τ,rfl,rfl⟩
 have hbl : (zoB (T.l.take k)).length ≤ k * 5600 := by
  have := zud (l := T.l.take k) fun x hx => hI.tops x (List.mem_of_mem_take hx)
  rw [List.length_take,Nat.min_eq_left hk] at this; exact this
 by_cases hlt : k < T.l.length
 ·have hd : decide ((k : Int) < (T.l.length : Int)) = true := by simp; omega
  have hx : T.l[k]? = some T.l[k] := by simp [hlt]
  have hX := hI.tops _ (List.getElem_mem hlt)
  obtain ⟨x,hxe⟩ : ∃ x,T.l[k] = x := ⟨_,rfl⟩
  rw [hxe] at hx hX
  have hgt : List.take 4 (List.drop (k * 4) (zaE (zbX T.l))) = (topD x).map .d := zma f4 (zR hx)
  have hk4 : k * 4 + 4 ≤ T.l.length * 4 := by omega
  have hnx : x.next = x.base + x.recs.length := rfl
  have a1 := hX.base; have a2 := hX.next; have a3 := hX.recs; have a4 := hX.groups; have a5 := hX.name
  have hbase : x.base = ((x.base.toNat : Nat) : Int) := by omega
  have m1 := zfN (x := x.name) (by omega)
  have m2 := zF (n := x.base.toNat) (by omega)
  have m3 := zF (n := x.recs.length) (by omega)
  have m4 := zF (n := x.groups.length) (by omega)
  have hrl := zG x.recs
  have hgl : (zcx x.groups).length = x.groups.length := List.length_map ..
  obtain ⟨B,hB⟩ : ∃ B,zcR T.l.length ++ zoB (T.l.take k) = B := ⟨_,rfl⟩
  have hBl : B.length ≤ 100000 := by rw [← hB]; simp; omega
  obtain ⟨R,hR⟩ : ∃ R, σ ++ τ = R := ⟨_,rfl⟩
  have yb : ∀ ρ,(R ++ ρ)[id]? = _ := fun ρ => zd (hR ▸ xb τ)
  have yr : ∀ ρ,(R ++ ρ)[t]? = _ := fun ρ => zd (hR ▸ xr τ)
  have yb0 : R[id]? = _ := hR ▸ xb τ
  have yr0 : R[t]? = _ := hR ▸ xr τ
  rw [hB,hR]
  refine zoV (zf hd (zf yb0 (zf yr0 (zf hgt (zf hlf hk4))))) ?_
  refine zmi (b := B) (x := x.name) (by omega) (by omega) ?_
  refine gq1 ?_
  rw [hbase]
  refine zla (by simp; omega) (by omega) ?_
  refine gq2 hrl ?_
  refine zla (by simp; omega) (by omega) ?_
  refine gq1 ?_
  obtain ⟨B1,hB1⟩ : ∃ B1,B ++ (zoH x.name ++ (zcR x.base.toNat ++ zcR x.recs.length)) = B1 := ⟨_,rfl⟩
  have hB1l : B1.length ≤ 101000 := by rw [← hB1]; simp; omega
  rw [hB1]
  refine zt x.recs.length (fun j vs s => ∃ ρ,vs = [.d (.slice (bcs (B1 ++ zlz (x.recs.take j)))), .d (.int .i64 j)] ∧ s = R ++ (.box [.d (.str x.name), .d (.int .i64 x.base.toNat), .d (.slice (zbV x.recs)), .d (.slice (zcx x.groups))] :: ρ)) ⟨_,by simp [zlz],rfl⟩ ?_
  rintro j vs s hj ⟨ρ,rfl,rfl⟩
  have hjl : (zlz (x.recs.take j)).length ≤ j * 74 := by
   have := znY (f := zoH) (n := 74) (l := x.recs.take j) fun r hr => by
    have := hX.each r (List.mem_of_mem_take hr)
    have := zfN (x := r) (by omega)
    omega
   rw [List.length_take,Nat.min_eq_left hj] at this; exact this
  by_cases hlj : j < x.recs.length
  ·have hdj : decide ((j : Int) < (x.recs.length : Int)) = true := by simp; omega
   have hy : x.recs[j]? = some x.recs[j] := by simp [hlj]
   have hry := hX.each _ (List.getElem_mem hlj)
   obtain ⟨y,hye⟩ : ∃ y,x.recs[j] = y := ⟨_,rfl⟩
   rw [hye] at hy hry
   have hgy := zjD hy
   refine gq2 (zf hdj (zf hrl hgy)) ?_
   refine zmi (by omega) (by simp; omega) ?_
   refine gq2 (wkc j (by omega)) ?_
   refine zaF.next hlj ⟨ρ ++ [_], ?_,by simp; rfl⟩
   rw [List.take_add_one,hy]
   simp [zlz]
  ·have hdj : decide ((j : Int) < (x.recs.length : Int)) = false := by simp; omega
   have hjo : x.recs.take j = x.recs := List.take_of_length_le (by omega)
   rw [hjo] at hjl ⊢
   refine gq2 (zf hdj (zf hrl hgl)) ?_
   refine zla (by simp; omega) (by omega) ?_
   obtain ⟨B2,hB2⟩ : ∃ B2,B1 ++ zlz x.recs ++ zcR x.groups.length = B2 := ⟨_,rfl⟩
   have hB2l : B2.length ≤ 120000 := by rw [← hB2]; simp; omega
   rw [hB2]
   refine gq1 ?_
   refine zt x.groups.length (fun j vs s => ∃ ρ,vs = [.d (.slice (bcs (B2 ++ znX (x.groups.take j)))), .d (.int .i64 j)] ∧ s = R ++ (.box [.d (.str x.name), .d (.int .i64 x.base.toNat), .d (.slice (zbV x.recs)), .d (.slice (zcx x.groups))] :: ρ)) ⟨_,by simp [znX],rfl⟩ ?_
   clear ρ
   rintro j vs s hj ⟨ρ,rfl,rfl⟩
   have hjl : (znX (x.groups.take j)).length ≤ j * 84 := by
    have := znY (f := groupB) (n := 84) (l := x.groups.take j) fun r hr => zuB (hX.gs r (List.mem_of_mem_take hr))
    rw [List.length_take,Nat.min_eq_left hj] at this; exact this
   by_cases hlj : j < x.groups.length
   ·have hdj : decide ((j : Int) < (x.groups.length : Int)) = true := by simp; omega
    have hy : x.groups[j]? = some x.groups[j] := by simp [hlj]
    have hgs := hX.gs _ (List.getElem_mem hlj)
    obtain ⟨y,hye⟩ : ∃ y,x.groups[j] = y := ⟨_,rfl⟩
    rw [hye] at hy hgs
    have hgy := zR (f := zqM) hy
    have hyb : y.2 = ((y.2.toNat : Nat) : Int) := by omega
    have p1 := zfN (x := y.1) (by omega)
    refine gq2 (zf hdj (zf hgl hgy)) ?_
    refine zmi (by omega) (by simp; omega) ?_
    refine gq1 ?_
    rw [hyb]
    refine zla (by simp; omega) (by omega) ?_
    refine gq2 (wkc j (by omega)) ?_
    refine zaF.next hlj ⟨ρ ++ [_], ?_,by simp; rfl⟩
    rw [List.take_add_one,hy]
    simp [znX,groupB]
   ·have hdj : decide ((j : Int) < (x.groups.length : Int)) = false := by simp; omega
    have hjo : x.groups.take j = x.groups := List.take_of_length_le (by omega)
    rw [hjo]
    refine gq2 (zf hdj (zf hgl (wkc k (by omega)))) ?_
    subst hR
    refine zaF.next hlt ⟨τ ++ (.box [.d (.str x.name), .d (.int .i64 x.base.toNat), .d (.slice (zbV x.recs)), .d (.slice (zcx x.groups))] :: ρ), ?_,by simp⟩
    rw [List.take_add_one,hx]
    have e : zcR T.l.length ++ zoB (T.l.take k ++ [x]) = B2 ++ znX x.groups := by
     rw [← hB2, ← hB1, ← hB]
     simp [zoB,topB]
    simp only [Option.toList_some,e]
 ·have hd : decide ((k : Int) < (T.l.length : Int)) = false := by simp; omega
  have hko : T.l.take k = T.l := List.take_of_length_le (by omega)
  rw [hko] at hbl ⊢
  obtain ⟨B,hB⟩ : ∃ B,zcR T.l.length ++ zoB T.l = B := ⟨_,rfl⟩
  have hBl : B.length ≤ 100000 := by rw [← hB]; simp; omega
  rw [hB]
  have hlast := hT.last
  refine zoV (zf hd xb) ?_
  refine zt 8 (fun j vs s => ∃ ρ,vs = [.d (.slice (bcs (B ++ zuz (T.last.take j)))), .d (.int .i64 j)] ∧ s = σ ++ ρ) ⟨_,by simp [zuz],rfl⟩ ?_
  rintro j vs s hj ⟨ρ,rfl,rfl⟩
  have hjl : (zuz (T.last.take j)).length ≤ j * 30 := by
   have := zuy (l := T.last.take j) fun a ha => hL a (List.mem_of_mem_take ha)
   rw [List.length_take,Nat.min_eq_left (by omega)] at this; exact this
  by_cases hlj : j < 8
  ·have hdj : decide ((j : Int) < 8) = true := by simp; omega
   obtain ⟨a,ha⟩ : ∃ a,T.last[j]? = some a := ⟨_,List.getElem?_eq_getElem (by omega)⟩
   have hl3 := zsq ha
   have hlc := zoS T.last
   obtain ⟨⟨z1,z2⟩,⟨z3,z4⟩,⟨z5,z6⟩⟩ := hL a (List.mem_of_getElem? ha)
   have hl4 : ∀ X : AV,List.take 3 (List.drop (1 + j * 3) (X :: zjv T.last)) = [.d (.int .i64 a.1), .d (.int .i64 a.2.1), .d (.int .i64 a.2.2)] := fun X => by
    rw [Nat.add_comm,List.drop_succ_cons]; exact hl3
   have e1 : a.1 = ((a.1.toNat : Nat) : Int) := by omega
   have e2 : a.2.1 = ((a.2.1.toNat : Nat) : Int) := by omega
   have e3 : a.2.2 = ((a.2.2.toNat : Nat) : Int) := by omega
   have p1 := zF (n := a.1.toNat) (by omega)
   have p2 := zF (n := a.2.1.toNat) (by omega)
   rw [e1,e2,e3] at hl4
   refine gq2 (zf hdj (zf xb hl4)) ?_
   refine zla (by simp; omega) (by omega) ?_
   refine gq1 ?_
   refine zla (by simp; omega) (by omega) ?_
   refine gq1 ?_
   refine zla (by simp; omega) (by omega) ?_
   refine gq2 (wkc j (by omega)) ?_
   refine zaF.next hlj ⟨ρ ++ [_], ?_,by simp; rfl⟩
   rw [List.take_add_one,ha]
   simp [zuz,lastB]
  ·have hdj : decide ((j : Int) < 8) = false := by simp; omega
   have hjo : T.last.take j = T.last := List.take_of_length_le (by omega)
   rw [hjo]
   refine gq2 hdj ?_
   refine zV hl ?_
   rw [← hB,List.append_assoc]
   exact hK
theorem zrO {T : zbY} (hI : zgW T) (hL : zmz T.last) (h8 : T.last.length = 8) : (zfu T).length ≤ 1000000 := by
 have h1 := zud hI.tops
 have h2 := zuy hL
 have h3 := hI.len
 have h4 := zF (n := T.l.length) (by omega)
 simp only [zfu,List.length_append]
 omega
theorem zuS {σ : List zh} {id t g id2 : Nat} {T : zbY} {L : List (List UInt8)} (hT : zcl σ id t g T) (hI : zgW T) (hL : zmz T.last) (hT2 : σ[id2]? = some (rtO L)) (hL2 : L.length ≤ 1048576) {K : KT}
  (hK : K (.d (.int .i64 (zdA L (zfu T)))) (σ.set id2 (rtO (zeG L (zfu T))))) : zr Tryz.prog zdI [.box id 0, .box id2 0] σ K := by
 refine zfJ zod fun hl => ?_
 have := zrO hI hL hT.last
 simp only [ziB,iN,bT,bF,eN]
 refine gq1 ?_
 refine c_r7Bytes hT hI hL ?_
 refine gq1 ?_
 refine zkZ hT2 (by omega) hL2 ?_
 refine gq1 ?_
 exact zeo (by simp [zeD,dmT,dm,dm1,zcC]) hl (zfw _ _) hK
abbrev ztG : zcW := ⟨0, 0, 0, 0, 0⟩
def genF (L : List (List UInt8)) : zcW × Int × List (List UInt8) :=
 let r := rootF L []
 let L2 := zeG r.2 (zfu zej)
 if r.1 = 0 ∨ zdA r.2 (zfu zej) = 0 then (ztG, 6,L2) else (⟨0, 0, 0,r.1,zdA r.2 (zfu zej)⟩, 0,L2)
theorem c_r9Genesis {σ : List zh} {id : Nat} {L : List (List UInt8)} (hT : σ[id]? = some (rtO L)) (hL : L.length ≤ 1048576) {K : KT}
  (hK : K (.tup [ztF (genF L).1, .d (.int .i64 (genF L).2.1)]) (σ.set id (rtO (genF L).2.2))) : zr Tryz.prog zkD [.box id 0] σ K := by
 refine zgk zvR fun hl => ?_
 have hid := zA hT
 simp only [zpv,iN,bT,bF,eN,zl1]
 refine gq1 ?_
 refine zmU (l := []) (zd hT) (by omega) (by simp) (by simp) ?_
 rw [List.set_append_left _ _ hid]
 obtain ⟨r,hr⟩ : ∃ r,rootF L [] = r := ⟨_,rfl⟩
 rw [hr]
 have hl2 : σ.length = (σ.set id (rtO r.2)).length := (List.length_set ..).symm
 have hT1 : (σ.set id (rtO r.2))[id]? = some (rtO r.2) := List.getElem?_set_self hid
 have hS2 : ∀ Y,(σ.set id (rtO r.2)).set id Y = σ.set id Y := fun Y => List.set_set ..
 obtain ⟨S,hS⟩ : ∃ S, σ.set id (rtO r.2) = S := ⟨_,rfl⟩
 rw [hS] at hl2 hT1 hS2 ⊢
 refine gq37 hl2 ?_
 have hr2 : r.2.length ≤ 1048576 := by rw [← hr]; exact (zdS 0 (Nat.le_refl _) hL).1
 have hTop : zcl (S ++ [.box [.d (.int .i64 0), .d (.int .i64 0), .d (.int .i64 0), .d (.int .i64 0), .d (.int .i64 0)], .box [.d (.int .i64 0), .d (.int .i64 0), .d (.int .i64 0), .d (.int .i64 r.1), .d (.int .i64 0)], .box (.rsl (S.length + 3) 0 4 0 0 :: zjv zej.last), .row 0 4 []]) (S.length + 2) (S.length + 3) 0 zej :=
  ⟨by rw [zx]; rfl,by rw [zx]; rfl,rfl⟩
 have hLast : zmz zej.last := fun a ha => by
  have := List.eq_of_mem_replicate ha
  subst this
  simp
 refine zr.pre (xs' := [.box (S.length + 2) 0, .box id 0]) (σ' := S ++ [.box [.d (.int .i64 0), .d (.int .i64 0), .d (.int .i64 0), .d (.int .i64 0), .d (.int .i64 0)], .box [.d (.int .i64 0), .d (.int .i64 0), .d (.int .i64 0), .d (.int .i64 r.1), .d (.int .i64 0)], .box (.rsl (S.length + 3) 0 4 0 0 :: zjv zej.last), .row 0 4 []]) ?_ ?_
 ·refine .rowB (S.length + 2) 0 (.exact [] :: zjv zej.last) 4 (by rw [zx]; rfl) rfl (by omega) ?_
  rw [zO,zT]
  simp only [List.set_cons_succ,List.set_cons_zero,List.length_cons,List.length_nil,List.append_assoc,List.cons_append,List.nil_append]
  exact .refl _ _
 refine zuS hTop .none hLast (zd hT1) hr2 ?_
 have hidS : id < S.length := by omega
 rw [List.set_append_left _ _ hidS,hS2]
 have hg : genF L = if r.1 = 0 ∨ zdA r.2 (zfu zej) = 0 then (ztG, 6,zeG r.2 (zfu zej)) else (⟨0, 0, 0,r.1,zdA r.2 (zfu zej)⟩, 0,zeG r.2 (zfu zej)) := by rw [genF,hr]
 have hl3 : S.length = (σ.set id (rtO (zeG r.2 (zfu zej)))).length := by rw [← hl2,List.length_set]
 have hlo : zfs σ.length (σ.set id (rtO (zeG r.2 (zfu zej)))) := hl.set (zfw _ _)
 obtain ⟨d,hd⟩ : ∃ d,zdA r.2 (zfu zej) = d := ⟨_,rfl⟩
 obtain ⟨L2,hL2⟩ : ∃ L2,zeG r.2 (zfu zej) = L2 := ⟨_,rfl⟩
 rw [hd,hL2] at hg
 rw [hL2] at hl3 hlo
 simp only [hd,hL2]
 obtain ⟨S2,hS2'⟩ : ∃ S2, σ.set id (rtO L2) = S2 := ⟨_,rfl⟩
 rw [hS2'] at hl3 hlo ⊢
 have fin : ∀ z,genF L = z → z.2.2 = L2 → K (.tup [ztF z.1, .d (.int .i64 z.2.1)]) S2 := fun z h h2 => by
  rw [h,h2,hS2'] at hK; exact hK
 cases c1 : (r.1 == 0)
 ·cases c2 : (d == 0)
  ·refine gq37 (zf hl2 (zf hl3 (zf c1 c2))) ?_
   rw [← hl3, ← hl2]
   refine zef (by omega) ?_ hlo ?_
   ·simp [zeD,dmT,dm,dm1,zcC,zbT,zeN]
   ·exact fin _ (by rw [hg,if_neg (by simp at c1 c2; omega)]) rfl
  ·refine gq37 (zf hl2 (zf hl3 (zf c1 c2))) ?_
   rw [← hl3, ← hl2]
   refine zef (by omega) ?_ hlo ?_
   ·simp [zeD,dmT,dm,dm1,zcC,zbT,zeN]
   ·exact fin _ (by rw [hg,if_pos (.inr (by simpa using c2))]) rfl
 ·refine gq37 (zf hl2 (zf hl3 c1)) ?_
  rw [← hl3, ← hl2]
  refine zef (by omega) ?_ hlo ?_
  ·simp [zeD,dmT,dm,dm1,zcC,zbT,zeN]
  ·exact fin _ (by rw [hg,if_pos (.inl (by simpa using c1))]) rfl
end Go.Proofs.YtfgbofkdhfjegaaGreat
