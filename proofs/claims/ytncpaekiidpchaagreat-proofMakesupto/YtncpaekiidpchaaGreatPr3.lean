/- Contracts: certificates that are kept. -/
import Derived.Test.YtncpaekiidpchaaGreatPp1
import Derived.Test.YtncpaekiidpchaaGreatCk3
import Derived.Test.YtncpaekiidpchaaGreatOpC
import Derived.Test.YtncpaekiidpchaaGreatSpMake
import Derived.Test.YtncpaekiidpchaaGreatAwFrz
set_option linter.all false
set_option maxRecDepth 100000
namespace Go.Proofs.YtncpaekiidpchaaGreat
open Go.AW
theorem c_clSign {σ : List zf} {l : List zae} (hn : l.length ≤ 1073741824) {K : AV → List zf → Prop} (hK : K (.d (.slice (zaz l))) σ) : zL Tryz.prog zbG [.d (.slice (zaz l))] σ K := by
 refine zj zcW.is rfl fun hl _ => zcW.goes ?_
 have hlen : (zaz l).length = l.length := List.length_map ..
 have h2 : ∀ e ∈ zaz l,e.length = 2 := zgV (f := zgE) (fun _ => rfl) l
 simp only [zcX,iN,bT,bF,eN,zad,zce]
 obtain ⟨es,hes⟩ : ∃ es,zaz l = es := ⟨_,rfl⟩
 rw [hes] at hlen h2 hK ⊢
 cases es with
 | nil =>
  refine ⟨?_, ?_⟩
  ·(repeat' first | refine gq1 ?_ | with_reducible first | exact ⟨⟩ | refine zh ?_ | fail)
   (first | refine zao hl ?_ | refine zan hl ?_)
   exact hK
  ·(repeat' first | refine gq1 ?_ | with_reducible first | exact ⟨⟩ | refine zh ?_ | fail)
   (first | refine zao hl ?_ | refine zan hl ?_)
   exact hK
 | cons e es =>
  simp only [zQ,zu,zD,zV,rep,zr,zcv,zW,zt,zcp]
  refine ⟨h2,by simp,by rw [hlen]; simp; omega, ?_⟩
  (first | refine zao hl ?_ | refine zan hl ?_)
  exact hK
abbrev hE (l : List (Int × TPrep)) : List (AV × AV) := ents (l.map fun e => (e.1,prepA e.2))
structure HeldAt (σ : List zf) (h m : Nat) (l : List (Int × TPrep)) : Prop where
 box : σ[h]? = some (.box [.map m])
 map : σ[m]? = some (.map (hE l))
theorem HeldAt.app {σ : List zf} {h m : Nat} {l : List (Int × TPrep)} (H : HeldAt σ h m l) (τ : List zf) : HeldAt (σ ++ τ) h m l := ⟨zg H.box,zg H.map⟩
end Go.Proofs.YtncpaekiidpchaaGreat

/- Contracts: the program's proof of a record. -/
set_option maxRecDepth 100000
namespace Go.Proofs.YtncpaekiidpchaaGreat
open Go.AW
theorem c_clRec {σ : List zf} {l : List UInt8} (hn : l.length ≤ 1073741824) {K : AV → List zf → Prop} (hK : K (.d (.slice (bcs l))) σ) : zL Tryz.prog zbS [.d (.slice (bcs l))] σ K := by
 refine zj zdk.is rfl fun hl _ => zdk.goes ?_
 have hlen := zeM l
 have h2 : ∀ e ∈ bcs l,e.length = 1 := zgi
 simp only [zdn,iN,bT,bF,eN,zad,zce]
 obtain ⟨es,hes⟩ : ∃ es,bcs l = es := ⟨_,rfl⟩
 rw [hes] at hlen h2 hK ⊢
 cases es with
 | nil =>
  refine ⟨?_, ?_⟩
  ·(repeat' first | refine gq1 ?_ | with_reducible first | exact ⟨⟩ | refine zh ?_ | fail)
   (first | refine zao hl ?_ | refine zan hl ?_)
   exact hK
  ·(repeat' first | refine gq1 ?_ | with_reducible first | exact ⟨⟩ | refine zh ?_ | fail)
   (first | refine zao hl ?_ | refine zan hl ?_)
   exact hK
 | cons e es =>
  simp only [zQ,zu,zD,zV,rep,zr,zcv,zW,zt,zcp]
  refine ⟨h2,by simp,by rw [hlen]; simp; omega, ?_⟩
  (first | refine zao hl ?_ | refine zan hl ?_)
  exact hK
abbrev nilPf : zf := .box [.d (.str []), .d (.int .i64 0), .exact [], .exact [], .d (.int .i64 0), .d (.int .i64 0), .exact [], .d (.int .i64 0), .d (.int .i64 0), .exact []]
theorem gq49 {P Q : Prop} (h : Q) (e : P = Q := by simp -dsimp only [↓zcR, ↓zal, ↓zaM, ↓zcS, ↓zcN, ↓zcL, ↓zcO, ↓zcM, ↓zaR, ↓zaN, ↓zaS, ↓zaO, ↓zcP, ↓zaL, ↓zaT, ↓zaP, ↓zaU, ↓zaQ, ↓zcK, ↓zcQ, ↓zaK, ↓zaV, ↓zcI, ↓zcH, ↓zcJ,iN,bT,bF,eN, ↓zbI, ↓unC, ↓zQ, ↓zF, ↓zG, ↓zI, ↓zR, ↓zap, ↓zbp, ↓zab, ↓zaX, ↓zP, ↓zp, ↓zm, ↓zbg, ↓zi, ↓zY, ↓zB, ↓zas, ↓zaw, ↓ze, ↓zC, ↓zr, ↓zt, ↓zad, ↓zbL, ↓zbY, ↓zaa, ↓zaj, ↓zau, ↓zaB, ↓zaD, ↓zl, ↓zZ, ↓zH, ↓zu, ↓zS,zcd,zaI,zaH,unA,zce,bnd,zcn,zX,zV,zcp,dm,dm1,zD,zag,zcy,zcx,zU,Q0,Q1,Q2,Q3,Q4,Q5,zO,zq,zw,zM,zE,Q6,Q7,Q8,Q9,Q10,Q11,Q12,Q13,Q14,Nat.reduceAdd,Q15,Int.reduceToNat,Q16,Q17,Q18,Q19,Q20,reduceIte,Q21,Q22,zx,rep,zT,zcv,toD,zW,Q23,Q24,Q25,Q26,Q27,Q28,Nat.reduceLeDiff,Q29,Nat.reduceSub,Q30,Q31,Q32,sc,Q33,Q34,Q35,Q36,Q37,Q26,Q38,Q39,zel,zei,zef,zem,zbt,zej,zeg,zek,zeh,zbs,zbu,zen,zeo,Bool.not_true,Bool.not_false,List.length_map,Option.getD_none,Option.getD_some,Option.isSome_none,Option.isSome_some]; rfl) : P := e.mpr h
theorem zqq {σ : List zf} {id m t : Nat} {L : List (List UInt8)} {l : List zdy} {c : zfF} {tp : List UInt8} {o : Int} (hT : zcu σ id m t L) (hI : zjY L) (hl0 : l.length ≤ 1073741824) (hb : ∀ b ∈ l,zgb b) (hc : c.signs.length ≤ 1073741824) {K : AV → List zf → Prop}
  (hK : K (.tup [zdv (zdM L l c tp o).2.1, .d (.int .i64 (zdM L l c tp o).1)]) (putTab σ id m t (zdM L l c tp o).2.2)) : zL Tryz.prog zeE [.box id 0, .d (.slice (zbv l)),certA c, .d (.str tp), .d (.int .i64 o)] σ K := by
 refine zj zpC.is rfl fun hl _ => zpC.goes ?_
 have fin : ∀ z,zdM L l c tp o = z → K (.tup [zdv z.2.1, .d (.int .i64 z.1)]) (putTab σ id m t z.2.2) := fun z h => h ▸ hK
 clear hK
 have hself := hT.self
 have hlen : (zbv l).length = l.length := List.length_map ..
 simp only [zpQ,iN,bT,bF,eN]
 (repeat' first | refine gq1 ?_ | with_reducible first | exact ⟨⟩ | refine zh ?_ | fail)
 refine zlI (hT.app _) hI.nd hI.len hI.each ?_
 (repeat' first | refine gq2 hlen ?_ | with_reducible first | exact ⟨⟩ | refine zh ?_ | fail)
 refine zK l.length (fun k vs s => vs = [.d (.int .i64 k)] ∧ (∃ T,s = σ ++ ([.box [.d (.int .i64 c.seq), .d (.int .i64 c.dig), .d (.slice (zaz c.signs))], .box [.d (.str tp)], .box [.d (.int .i64 o)],nilPf] ++ T)) ∧ znq tp o l 0 = znq tp o (l.drop k) k) ⟨rfl,⟨_,rfl⟩,by simp⟩ ?_
 rintro k vs s hk ⟨rfl,⟨T,rfl⟩,hpf⟩
 by_cases hlt : k < l.length
 ·have hd : decide ((k : Int) < (l.length : Int)) = true := by simp; omega
  have hx : l[k]? = some l[k] := by simp [hlt]
  have hbx := hb _ (List.getElem_mem hlt)
  have hgx := zaf (f := zfU) hx
  obtain ⟨b,hbe⟩ : ∃ b,l[k] = b := ⟨_,rfl⟩
  rw [hbe] at hx hgx hbx
  rw [zsT hx] at hpf
  (repeat' first | refine gq2 (zd hd (zd hgx hlen)) ?_ | with_reducible first | exact ⟨⟩ | refine zh ?_ | fail)
  refine c_idxPlaced (t := tp) (o := o) (by have := hbx.len; omega) (fun x K hK => c_mkEq (by rw [zq]; rfl) (by rw [zq]; rfl) hK) ?_
  cases h1 : plAt tp o b.placed 0 with
  | none =>
   simp only [h1] at hpf ⊢
   (repeat' first | refine gq2 (zd (show decide ((-1 : Int) < 0) = true from rfl) (wkc k (by omega))) ?_ | with_reducible first | exact ⟨⟩ | refine zh ?_ | fail)
   exact zav.next hlt ⟨rfl,⟨_,rfl⟩,hpf⟩
  | some j =>
   simp only [h1] at hpf ⊢
   have hj := plAt_lt h1
   have hp0 : b.placed[j]? = some b.placed[j] := by simp [show j < b.placed.length by omega]
   have hps := hbx.each _ (List.getElem_mem (show j < b.placed.length by omega))
   obtain ⟨pl,hpl⟩ : ∃ x,b.placed[j] = x := ⟨_,rfl⟩
   rw [hpl] at hp0 hps
   have hgp := zaf (f := zeT) hp0
   have hplen : (zch b.placed).length = b.placed.length := List.length_map ..
   have hn := hbx.len
   have hdr : List.drop k (List.take l.length (zbv l)) = zbv (l.drop k) := by rw [← hlen,List.take_length]; exact (List.map_drop ..).symm
   have hmk : zdM L l c tp o = match zov c.seq none (l.drop k) with
    | none => (7,zqn,L)
    | some hs => (0,⟨tp,o,pl.rec_,hs,j,b.placed.length,(zbx b.placed.length L j (b.placed.map zaF)).1,c⟩,(zbx b.placed.length L j (b.placed.map zaF)).2) := by
    rw [zdM,hpf]
    have e1 : l.getD k ⟨⟨0, 0, 0, 0, 0⟩, [], []⟩ = b := by rw [List.getD_eq_getElem?_getD,hx]; rfl
    have e2 : b.placed.getD j ⟨[], 0, []⟩ = pl := by rw [List.getD_eq_getElem?_getD,hp0]; rfl
    simp only [e1,e2]
    cases zov c.seq none (l.drop k) <;> rfl
   have dj : decide ((j : Int) < 0) = false := by simp
   (repeat' first | refine gq2 (zd dj (zd hlen hdr)) ?_ | with_reducible first | exact ⟨⟩ | refine zh ?_ | fail)
   refine c_pfRun (by simp; omega) (fun b hb' => (hb b (List.mem_of_mem_drop hb')).seq) ?_
   cases h2 : zov c.seq none (l.drop k) with
   | none =>
    simp only [h2] at hmk
    (repeat' first | refine gq49 ?_ | with_reducible first | exact ⟨⟩ | refine zh ?_ | fail)
    (first | refine zao hl ?_ | refine zan hl ?_)
    have := fin _ hmk
    rw [hself] at this
    exact this
   | some hs =>
    simp only [h2] at hmk
    (repeat' first | refine gq49 ?_ | with_reducible first | exact ⟨⟩ | refine zh ?_ | fail)
    refine c_blLeaves (by omega) hbx.each ?_
    (repeat' first | refine gq1 ?_ | with_reducible first | exact ⟨⟩ | refine zh ?_ | fail)
    refine c_mkProve (l := b.placed.map zaF) (by rw [List.length_map]; omega) (hT.app _) hI (by rw [List.length_map]; exact hn) (fun x hx' => by
     obtain ⟨p,hp,rfl⟩ := List.mem_map.1 hx'
     exact zjp (hbx.each p hp)) ?_
    have fin0 := fin _ hmk
    rw [List.length_map,zlv hT]
    obtain ⟨A,hA⟩ : ∃ A,zbx b.placed.length L j (b.placed.map zaF) = A := ⟨_,rfl⟩
    rw [hA] at fin0 ⊢
    have hl2 : σ.length = (putTab σ id m t A.2).length := (zcm ..).symm
    have hlo := hT.lows hl A.2
    obtain ⟨S,hS⟩ : ∃ S,putTab σ id m t A.2 = S := ⟨_,rfl⟩
    simp only [hS] at fin0 hl2 hlo ⊢
    (repeat' first | refine gq2 hl2 ?_ | with_reducible first | exact ⟨⟩ | refine zh ?_ | fail)
    refine c_clSign hc ?_
    (repeat' first | refine gq2 (zd hl2 (zd hgp hplen)) ?_ | with_reducible first | exact ⟨⟩ | refine zh ?_ | fail)
    have hpr := hps.rec_
    refine c_clRec (by omega) ?_
    (repeat' first | refine gq2 (zd hl2 (zd hgp hplen)) ?_ | with_reducible first | exact ⟨⟩ | refine zh ?_ | fail)
    rw [← hl2]
    refine zda hl2.symm ?_ hlo ?_
    ·simp [zdj,dmT,dm,dm1,zbV,zby,zea]
    ·exact fin0
 ·have hd : decide ((k : Int) < (l.length : Int)) = false := by simp; omega
  rw [List.drop_eq_nil_of_le (by omega)] at hpf
  (repeat' first | refine gq2 hd ?_ | with_reducible first | exact ⟨⟩ | refine zh ?_ | fail)
  (first | refine zao hl ?_ | refine zan hl ?_)
  have := fin _ (show zdM L l c tp o = (4,zqn,L) by rw [zdM,hpf]; rfl)
  rw [hself] at this
  exact this
end Go.Proofs.YtncpaekiidpchaaGreat

/- Contracts: the document's proof of a record. -/
set_option maxRecDepth 100000
namespace Go.Proofs.YtncpaekiidpchaaGreat
open Go.AW
def findR : Option (Nat × Nat) → AV
 | none => .tup [.d (.int .i64 0), .d (.int .i64 0), .d (.bool false)]
 | some (i,k) => .tup [.d (.int .i64 i), .d (.int .i64 k), .d (.bool true)]
theorem c_r23find {σ : List zf} {l : List zdy} {tp : List UInt8} {o : Int} (hl0 : l.length ≤ 1073741824) (hb : ∀ b ∈ l,zgb b) {K : AV → List zf → Prop}
  (hK : K (findR (znq tp o l 0)) σ) : zL Tryz.prog zoy [.d (.slice (zbv l)), .d (.str tp), .d (.int .i64 o)] σ K := by
 refine zj zsY.is rfl fun hl _ => zsY.goes ?_
 have fin : ∀ z,znq tp o l 0 = z → K (findR z) σ := fun z h => h ▸ hK
 clear hK
 have hlen : (zbv l).length = l.length := List.length_map ..
 simp only [ztL,iN,bT,bF,eN]
 (repeat' first | refine gq2 hlen ?_ | with_reducible first | exact ⟨⟩ | refine zh ?_ | fail)
 refine zK l.length (fun k vs s => vs = [.d (.int .i64 k)] ∧ s = σ ∧ znq tp o l 0 = znq tp o (l.drop k) k) ⟨rfl,rfl,by simp⟩ ?_
 rintro k vs s hk ⟨rfl,hs,hpf⟩
 rw [hs]
 by_cases hlt : k < l.length
 ·have hd : decide ((k : Int) < (l.length : Int)) = true := by simp; omega
  have hx : l[k]? = some l[k] := by simp [hlt]
  have hbx := hb _ (List.getElem_mem hlt)
  have hgx := zaf (f := zfU) hx
  obtain ⟨b,hbe⟩ : ∃ b,l[k] = b := ⟨_,rfl⟩
  rw [hbe] at hx hgx hbx
  rw [zsT hx] at hpf
  have hplen : (zch b.placed).length = b.placed.length := List.length_map ..
  have hn := hbx.len
  (repeat' first | refine gq2 (zd hd (zd hgx hlen)) ?_ | with_reducible first | exact ⟨⟩ | refine zh ?_ | fail)
  refine zK b.placed.length (fun j vs s => vs = [.d (.int .i64 j)] ∧ s = σ ∧ plAt tp o b.placed 0 = plAt tp o (b.placed.drop j) j) ⟨rfl,rfl,by simp⟩ ?_
  rintro j vs s hj ⟨rfl,hs,hpj⟩
  rw [hs]
  by_cases hlj : j < b.placed.length
  ·have hdj : decide ((j : Int) < (b.placed.length : Int)) = true := by simp; omega
   have hy : b.placed[j]? = some b.placed[j] := by simp [hlj]
   have hgy := zaf (f := zeT) hy
   obtain ⟨p,hpe⟩ : ∃ p,b.placed[j] = p := ⟨_,rfl⟩
   rw [hpe] at hy hgy
   rw [plAt_step hy] at hpj
   have next : isP tp o p = false → zav b.placed.length (fun j vs s => vs = [.d (.int .i64 j)] ∧ s = σ ∧ plAt tp o b.placed 0 = plAt tp o (b.placed.drop j) j) j [.d (.int .i64 ((j : Int) + 1))] σ := fun h => by
    rw [if_neg (by simp [h])] at hpj
    exact zav.next hlj ⟨rfl,rfl,hpj⟩
   cases h1 : (p.topic == tp)
   ·(repeat' first | refine gq2 (zd hdj (zd hgx (zd hgy (zd hplen (zd h1 (wkc j (by omega))))))) ?_ | with_reducible first | exact ⟨⟩ | refine zh ?_ | fail)
    exact next (by rw [isP,h1]; rfl)
   ·cases h2 : (p.offset == o)
    ·(repeat' first | refine gq2 (zd hdj (zd hgx (zd hgy (zd hplen (zd h1 (zd h2 (wkc j (by omega)))))))) ?_ | with_reducible first | exact ⟨⟩ | refine zh ?_ | fail)
     exact next (by rw [isP,h2,Bool.and_false])
    ·rw [if_pos (by rw [isP,h1,h2]; rfl)] at hpj
     simp only [hpj] at hpf
     (repeat' first | refine gq2 (zd hdj (zd hgx (zd hgy (zd hplen (zd h1 h2))))) ?_ | with_reducible first | exact ⟨⟩ | refine zh ?_ | fail)
     (first | refine zao hl ?_ | refine zan hl ?_)
     exact fin _ hpf
  ·have hdj : decide ((j : Int) < (b.placed.length : Int)) = false := by simp; omega
   rw [List.drop_eq_nil_of_le (by omega)] at hpj
   simp only [hpj,plAt] at hpf
   (repeat' first | refine gq2 (zd hdj (zd hgx (zd hplen (wkc k (by omega))))) ?_ | with_reducible first | exact ⟨⟩ | refine zh ?_ | fail)
   exact zav.next hlt ⟨rfl,rfl,hpf⟩
 ·have hd : decide ((k : Int) < (l.length : Int)) = false := by simp; omega
  rw [List.drop_eq_nil_of_le (by omega)] at hpf
  (repeat' first | refine gq2 hd ?_ | with_reducible first | exact ⟨⟩ | refine zh ?_ | fail)
  (first | refine zao hl ?_ | refine zan hl ?_)
  exact fin none hpf
abbrev pfBox (tp : List UInt8) (o : Int) (rec : List UInt8) (h : AV) (j n : Int) (c : zfF) : zf := .box [.d (.str tp), .d (.int .i64 o), .d (.slice (bcs rec)),h, .d (.int .i64 j), .d (.int .i64 n), .exact [], .d (.int .i64 c.seq), .d (.int .i64 c.dig), .d (.slice (zaz c.signs))]
abbrev blockO (b : zdy) : zf := .box [.d (.int .i64 b.header.seq), .d (.int .i64 b.header.prev), .d (.int .i64 b.header.batch), .d (.int .i64 b.header.root), .d (.int .i64 b.header.state), .d (.slice (zfV b.batch)), .d (.slice (zch b.placed))]
theorem gq50 {A P Q : Prop} (a : A) (h : Q) (e : A → P = Q := by intro a; simp -dsimp only [↓zcR, ↓zal, ↓zaM, ↓zcS, ↓zcN, ↓zcL, ↓zcO, ↓zcM, ↓zaR, ↓zaN, ↓zaS, ↓zaO, ↓zcP, ↓zaL, ↓zaT, ↓zaP, ↓zaU, ↓zaQ, ↓zcK, ↓zcQ, ↓zaK, ↓zaV, ↓zcI, ↓zcH, ↓zcJ,iN,bT,bF,eN, ↓zbI, ↓unC, ↓zQ, ↓zF, ↓zG, ↓zI, ↓zR, ↓zap, ↓zbp, ↓zab, ↓zaX, ↓zP, ↓zp, ↓zm, ↓zbg, ↓zi, ↓zY, ↓zB, ↓zas, ↓zaw, ↓ze, ↓zC, ↓zr, ↓zt, ↓zad, ↓zbL, ↓zbY, ↓zaa, ↓zaj, ↓zau, ↓zaB, ↓zaD, ↓zl, ↓zZ, ↓zH, ↓zu, ↓zS,zcd,zaI,zaH,unA,zce,bnd,zcn,zX,zV,zcp,dm,dm1,zD,zag,zcy,zcx,zU,Q0,Q1,Q2,Q3,Q4,Q5,zO,zq,zw,zM,zE,Q6,Q7,Q8,Q9,Q10,Q11,Q12,Q13,Q14,Nat.reduceAdd,Q15,Int.reduceToNat,Q16,Q17,Q18,Q19,Q20,reduceIte,Q21,Q22,zx,rep,zT,zcv,toD,zW,Q23,Q24,Q25,Q26,Q27,Q28,Nat.reduceLeDiff,Q29,Nat.reduceSub,Q30,Q31,Q32,sc,Q33,Q34,Q35,Q36,Q37,Q26,Q38,Q39,zel,zei,zef,zem,zbt,zej,zeg,zek,zeh,zbs,zbu,zen,zeo,Bool.not_true,Bool.not_false,List.length_map,List.length_set,a]; rfl) : P := (e a).mpr h
theorem znK {σ : List zf} {id : Nat} {L : List (List UInt8)} {l : List zdy} {c : zfF} {tp : List UInt8} {o : Int} (hT : σ[id]? = some (rtO L)) (hL : L.length ≤ 1048576) (hl0 : l.length ≤ 1073741824) (hb : ∀ b ∈ l,zgb b) (hc : c.signs.length ≤ 1073741824) {K : AV → List zf → Prop}
  (hK : K (.tup [zdv (zdM L l c tp o).2.1, .d (.int .i64 (zdM L l c tp o).1)]) (σ.set id (rtO (zdM L l c tp o).2.2))) : zL Tryz.prog zlz [.box id 0, .d (.slice (zbv l)),certA c, .d (.str tp), .d (.int .i64 o)] σ K := by
 refine zj zsZ.is rfl fun hl _ => zsZ.goes ?_
 have fin : ∀ z,zdM L l c tp o = z → K (.tup [zdv z.2.1, .d (.int .i64 z.1)]) (σ.set id (rtO z.2.2)) := fun z h => h ▸ hK
 clear hK
 have hself := zbD hT
 have hlen : (zbv l).length = l.length := List.length_map ..
 simp only [ztM,iN,bT,bF,eN]
 (repeat' first | refine gq1 ?_ | with_reducible first | exact ⟨⟩ | refine zh ?_ | fail)
 refine c_r23find hl0 hb ?_
 cases hf : znq tp o l 0 with
 | none =>
  simp only [findR]
  (repeat' first | refine gq1 ?_ | with_reducible first | exact ⟨⟩ | refine zh ?_ | fail)
  (first | refine zao hl ?_ | refine zan hl ?_)
  have := fin (4,zqn,L) (by rw [zdM,hf])
  rw [hself] at this
  exact this
 | some ij =>
  obtain ⟨i,j⟩ := ij
  obtain ⟨n0,b,hi0,hx,hj⟩ := zuG hf
  have hi0 : i = n0 := by omega
  subst hi0
  have hil := (List.getElem?_eq_some_iff.1 hx).1
  have hbx := hb b (List.mem_of_getElem? hx)
  have hgx := zaf (f := zfU) hx
  have hp0 : b.placed[j]? = some b.placed[j] := by simp [hj]
  have hps := hbx.each _ (List.getElem_mem hj)
  obtain ⟨pl,hpl⟩ : ∃ x,b.placed[j] = x := ⟨_,rfl⟩
  rw [hpl] at hp0 hps
  have hgp := zaf (f := zeT) hp0
  have hplen : (zch b.placed).length = b.placed.length := List.length_map ..
  have hn := hbx.len
  have hmk : zdM L l c tp o = match zov c.seq none (l.drop i) with
   | none => (7,zqn,L)
   | some hs => (0,⟨tp,o,pl.rec_,hs,j,b.placed.length,(zbx b.placed.length L j (b.placed.map zaF)).1,c⟩,(zbx b.placed.length L j (b.placed.map zaF)).2) := by
   rw [zdM,hf]
   have e1 : l.getD i ⟨⟨0, 0, 0, 0, 0⟩, [], []⟩ = b := by rw [List.getD_eq_getElem?_getD,hx]; rfl
   have e2 : b.placed.getD j ⟨[], 0, []⟩ = pl := by rw [List.getD_eq_getElem?_getD,hp0]; rfl
   simp only [e1,e2]
   cases zov c.seq none (l.drop i) <;> rfl
  simp only [findR]
  (repeat' first | refine gq2 (zd hgx (zd hgp (zd hplen hlen))) ?_ | with_reducible first | exact ⟨⟩ | refine zh ?_ | fail)
  refine zba (l.length - i) (fun k vs s => ∃ (acc : List zec) (T : List zf),vs = [.d (.int .i64 ((i + k : Nat) : Int))] ∧ s = σ ++ ([certO c,nilPf,blockO b,pfBox tp o pl.rec_ (.own (σ.length + 4) (zde acc)) j b.placed.length c, .tok 5 acc.length] ++ T) ∧ acc.length = k ∧ zov c.seq none (l.drop i) = (zov c.seq (zff (l.drop i) k) ((l.drop i).drop k)).map (acc ++ ·))
   (.tokB (σ.length + 3) 3 _ [] 5 (by rw [zq]; rfl) rfl (by simp) (by
    rw [zM,zO]
    simp only [List.set_cons_succ,List.set_cons_zero,List.length_cons,List.length_nil,List.append_assoc,List.cons_append,List.nil_append]
    exact .refl _ _)) ⟨[], [],rfl,rfl,rfl,by simp [zff]⟩ ?_
  rintro k vs s hk ⟨acc,T,rfl,rfl,hak,hpf⟩
  have hal : (zde acc).length = acc.length := List.length_map ..
  obtain ⟨n,hin⟩ : ∃ n,i + k = n := ⟨_,rfl⟩
  rw [hin]
  by_cases hlt : n < l.length
  ·have hF : ((n : Int) == (l.length : Int)) = false := by simp; omega
   have hxn : l[n]? = some l[n] := by simp [hlt]
   have hxd : (l.drop i)[k]? = some l[n] := by rw [List.getElem?_drop,hin]; exact hxn
   have hbn := hb _ (List.getElem_mem hlt)
   have hgn := zaf (f := zfU) hxn
   obtain ⟨x,hxe⟩ : ∃ x,l[n] = x := ⟨_,rfl⟩
   rw [hxe] at hxn hxd hgn hbn
   rw [runF_step hxd] at hpf
   obtain ⟨acc2,ha2⟩ : ∃ a,acc ++ [x.header] = a := ⟨_,rfl⟩
   have g1 : acc.length + 1 = acc2.length := by rw [← ha2]; simp
   have g2 : zde acc ++ [[.int .i64 x.header.seq, .int .i64 x.header.prev, .int .i64 x.header.batch, .int .i64 x.header.root, .int .i64 x.header.state]] = zde acc2 := by rw [← ha2]; simp
   have hkey : (decide ((n : Int) > (i : Int)) = false ∧ zqC (zff (l.drop i) k) x.header.seq = true) ∨ (∃ y : zdy,decide ((n : Int) > (i : Int)) = true ∧ IntKind.i64.wrap ((n : Int) - 1) = ((n - 1 : Nat) : Int) ∧ (l.map zfU)[n - 1]? = some (zfU y) ∧ (IntKind.i64.wrap (y.header.seq + 1) != x.header.seq) = !zqC (zff (l.drop i) k) x.header.seq) := by
    cases k with
    | zero => exact .inl ⟨decide_eq_false (by omega),rfl⟩
    | succ k' =>
     have hy : l[n - 1]? = some l[n - 1] := by simp [show n - 1 < l.length by omega]
     have hyd : (l.drop i)[k']? = some l[n - 1] := by rw [List.getElem?_drop,show i + k' = n - 1 by omega]; exact hy
     refine .inr ⟨l[n - 1],decide_eq_true (by omega),by rw [zai (by omega) (by omega)]; omega,zaf hy, ?_⟩
     rw [zff,hyd]; rfl
   have bad : zqC (zff (l.drop i) k) x.header.seq = false → zov c.seq none (l.drop i) = none := fun h => by
    rw [hpf,if_pos h]; rfl
   have nx : ∀ τ : List zf,zqC (zff (l.drop i) k) x.header.seq = true → (x.header.seq == c.seq) = false → zav (l.length - i) (fun k vs s => ∃ (acc : List zec) (T : List zf),vs = [.d (.int .i64 ((i + k : Nat) : Int))] ∧ s = σ ++ ([certO c,nilPf,blockO b,pfBox tp o pl.rec_ (.own (σ.length + 4) (zde acc)) j b.placed.length c, .tok 5 acc.length] ++ T) ∧ acc.length = k ∧ zov c.seq none (l.drop i) = (zov c.seq (zff (l.drop i) k) ((l.drop i).drop k)).map (acc ++ ·)) k [.d (.int .i64 ((n : Int) + 1))] (σ ++ certO c :: nilPf :: blockO b :: pfBox tp o pl.rec_ (.own (σ.length + 4) (zde acc2)) j b.placed.length c :: .tok 5 acc2.length :: τ) := fun τ hst h2 => by
    rw [if_neg (by simp [hst]),if_neg (by simpa using h2)] at hpf
    refine zav.next (by omega) ⟨acc2, τ,by rw [← hin]; congr 3,rfl,by omega, ?_⟩
    rw [hpf,zff,hxd,Option.map_map]
    simp only [Option.map_some, ← ha2]
    congr 1
    funext z
    simp
   have st : zqC (zff (l.drop i) k) x.header.seq = true → (x.header.seq == c.seq) = true → zov c.seq none (l.drop i) = some acc2 := fun hst h2 => by
    rw [hpf,if_neg (by simp [hst]),if_pos (by simpa using h2), ← ha2]; rfl
   cases hst : zqC (zff (l.drop i) k) x.header.seq
   ·rcases hkey with ⟨_,h⟩ | ⟨y,d1,d2,d3,d4⟩
    ·rw [hst] at h; cases h
    rw [hst] at d4
    (repeat' first | refine gq2 (zd hF (zd hlen (zd hgn (zd d1 (zd d2 (zd d3 d4)))))) ?_ | with_reducible first | exact ⟨⟩ | refine zh ?_ | fail)
    (first | refine zao hl ?_ | refine zan hl ?_)
    have := fin (7,zqn,L) (by rw [hmk,bad hst])
    rw [hself] at this
    exact this
   ·cases h2 : (x.header.seq == c.seq)
    ·rcases hkey with ⟨d1,_⟩ | ⟨y,d1,d2,d3,d4⟩
     ·(repeat' first | refine gq2 (zd hF (zd hlen (zd hgn (zd d1 (zd hal (zd g1 (zd g2 (zd h2 (wkc n (by omega)))))))))) ?_ | with_reducible first | exact ⟨⟩ | refine zh ?_ | fail)
      exact nx _ hst h2
     ·rw [hst] at d4
      (repeat' first | refine gq2 (zd hF (zd hlen (zd hgn (zd d1 (zd d2 (zd d3 (zd d4 (zd hal (zd g1 (zd g2 (zd h2 (wkc n (by omega))))))))))))) ?_ | with_reducible first | exact ⟨⟩ | refine zh ?_ | fail)
      exact nx _ hst h2
    ·have fin0 := fin _ (hmk.trans (by rw [st hst h2]))
     rcases hkey with ⟨d1,_⟩ | ⟨y,d1,d2,d3,d4⟩
     case' inl => (repeat' first | refine gq2 (zd hF (zd hlen (zd hgn (zd d1 (zd hal (zd g1 (zd g2 h2))))))) ?_ | with_reducible first | exact ⟨⟩ | refine zh ?_ | fail)
     case' inr =>
      rw [hst] at d4
      (repeat' first | refine gq2 (zd hF (zd hlen (zd hgn (zd d1 (zd d2 (zd d3 (zd d4 (zd hal (zd g1 (zd g2 h2)))))))))) ?_ | with_reducible first | exact ⟨⟩ | refine zh ?_ | fail)
     all_goals
      refine ztC (by omega) hbx.each ?_
      (repeat' first | refine gq1 ?_ | with_reducible first | exact ⟨⟩ | refine zh ?_ | fail)
      refine c_r5Prove (l := b.placed.map zaF) (by rw [List.length_map]; omega) (zg hT) hL (by rw [List.length_map]; omega) (fun x hx' => by
       obtain ⟨p,hp,rfl⟩ := List.mem_map.1 hx'
       exact zjp (hbx.each p hp)) ?_
      rw [List.length_map,List.set_append_left _ _ (zN hT)]
      obtain ⟨A,hA⟩ : ∃ A,zbx b.placed.length L j (b.placed.map zaF) = A := ⟨_,rfl⟩
      rw [hA] at fin0 ⊢
      have hl2 : σ.length = (σ.set id (rtO A.2)).length := (List.length_set ..).symm
      obtain ⟨S,hS⟩ : ∃ S, σ.set id (rtO A.2) = S := ⟨_,rfl⟩
      have hlo : zfi σ.length S := hS ▸ hl.set (zew _ _)
      simp only [hS] at fin0 hl2 ⊢
      clear nx hpf bad st
      refine ⟨fun hp => ?_,fun hp => ?_⟩
      all_goals
       (repeat' first | refine gq50 hl2 ?_ | with_reducible first | exact ⟨⟩ | refine zh ?_ | fail)
       rw [← hl2]
       refine zda hl2.symm ?_ hlo ?_
       ·simp [zdj,dmT,dm,dm1,zbV,zby,zea]
       ·first | exact fin0 | (rw [hp] at fin0; exact fin0)
  ·have hF : ((n : Int) == (l.length : Int)) = true := by simp; omega
   have hr : zov c.seq none (l.drop i) = none := by
    rw [hpf,show (l.drop i).drop k = [] from List.drop_eq_nil_of_le (by rw [List.length_drop]; omega)]; rfl
   (repeat' first | refine gq2 (zd hF hlen) ?_ | with_reducible first | exact ⟨⟩ | refine zh ?_ | fail)
   (first | refine zao hl ?_ | refine zan hl ?_)
   have := fin (7,zqn,L) (by rw [hmk,hr])
   rw [hself] at this
   exact this
end Go.Proofs.YtncpaekiidpchaaGreat

/- An end of a call that zuB all that it made: what the caller's objects name now lies there. -/
namespace Go.AW
section
variable {P : Program} {σ : List zf}
def EndsA (K : AV → List zf → Prop) (out : Option (List AV)) (σ' : List zf) : Prop := match out with
 | some l => ∃ s,zmV [] σ' [] s ∧ K (dmT (zbV l)) s
 | none => False
theorem zhv {f : FuncId} {F : AF} {na : Nat} (hF : isFn P f F na) {as0 : List AV} (has : as0.length = na) {K : AV → List zf → Prop}
  (h : zfi σ.length σ → (∀ a ∈ as0,Low σ.length a) → awp P F.body (AtEnd fun fr' σ' => EndsA K (zpY fr' σ' F.res) σ') (zhJ 0 as0) σ) : zL P f as0 σ K :=
 zla hF has _ (fun {L w L' σ' w' fr' ts} S st S' F' hz => by
  unfold EndsA at hz
  split at hz
  ·rename_i l hl
   obtain ⟨s,hw,hK⟩ := hz
   obtain ⟨L2,st2,S2,_⟩ := zio hw S' (us := []) ⟨rfl,by simp⟩
   exact ⟨L2,s,l,dmT (zbV l),hl,st.trans st2,S2,fun v hr => zrt (st2.rv hr),hK⟩
  ·exact hz.elim) h
theorem zlO {K : AV → List zf → Prop} {l : List AV} {s : List zf} (h : K (dmT (zbV l)) s) : EndsA K (some l) s := ⟨_, .refl _ _,h⟩
end
end Go.AW
