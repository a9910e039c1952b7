/- Contracts: the program's proof of a record. -/
import Derived.Test.YtncpaekiidpchaaGreatSpMake
import Derived.Test.YtncpaekiidpchaaGreatCk3
import Derived.Test.YtncpaekiidpchaaGreatAwFrz
set_option linter.all false
set_option maxRecDepth 100000
namespace Go.Proofs.YtncpaekiidpchaaGreat
open Go.AW
theorem c_clRec {σ : List zg} {l : List UInt8} (hn : l.length ≤ 1073741824) {K : KT} (hK : K (.d (.slice (bcs l))) σ) : zE Tryz.prog zbI [.d (.slice (bcs l))] σ K := by
 refine zi zcX.is rfl fun hl _ => zcX.goes ?_
 have hlen := zeP l
 have h2 : ∀ e ∈ bcs l,e.length = 1 := zfZ
 simp only [zda,iN,bT,bF,eN,zan,zdg]
 obtain ⟨es,hes⟩ : ∃ es,bcs l = es := ⟨_,rfl⟩
 rw [hes] at hlen h2 hK ⊢
 cases es with
 | nil =>
  refine ⟨?_, ?_⟩
  ·(repeat' first | refine gq1 ?_ | with_reducible first | exact ⟨⟩ | refine zh ?_ | fail)
   (first | refine zar hl ?_ | refine zaq hl ?_)
   exact hK
  ·(repeat' first | refine gq1 ?_ | with_reducible first | exact ⟨⟩ | refine zh ?_ | fail)
   (first | refine zar hl ?_ | refine zaq hl ?_)
   exact hK
 | cons e es =>
  simp only [zU,zA,zB,zS,rep,zt,zdK,zac,zw,zdz]
  refine ⟨h2,by simp,by rw [hlen]; simp; omega, ?_⟩
  (first | refine zar hl ?_ | refine zaq hl ?_)
  exact hK
abbrev nilPf : zg := .box [.d (.str []), .d (.int .i64 0), .exact [], .exact [], .d (.int .i64 0), .d (.int .i64 0), .exact [], .d (.int .i64 0), .d (.int .i64 0), .exact []]
theorem gq42 {P Q : Prop} (h : Q) (e : P = Q := by simp -dsimp only [↓zes, ↓zaw, ↓zbf, ↓zet, ↓zen, ↓zel, ↓zeo, ↓zem, ↓zbk, ↓zbg, ↓zbl, ↓zbh, ↓zep, ↓zbe, ↓zbm, ↓zbi, ↓zbn, ↓zbj, ↓zek, ↓zeq, ↓zbd, ↓zbo, ↓zef, ↓zee, ↓zej,iN,bT,bF,eN, ↓zcS, ↓unC, ↓zU, ↓zK, ↓zL, ↓zN, ↓zZ, ↓zax, ↓zbQ, ↓zaf, ↓zbp, ↓zP, ↓zq, ↓zo, ↓zbu, ↓zl, ↓zah, ↓zI, ↓zaD, ↓zaG, ↓ze, ↓zC, ↓zt, ↓zw, ↓zan, ↓zcC, ↓zcV, ↓zal, ↓zat, ↓zaE, ↓zaN, ↓zaS, ↓zu, ↓zai, ↓zM, ↓zA, ↓zaa,zcZ,zba,zaV,unA,zdg,bnd,zdy,zad,zS,zdz,dm,dm1,zB,zak,zdQ,zdP,zR,Q0,Q1,Q2,Q3,Q4,Q5,zQ,zr,zy,zO,zH,Q6,Q7,Q8,Q9,Q10,Q11,Q12,Q13,Q14,Nat.reduceAdd,Q15,Int.reduceToNat,Q16,Q17,Q18,Q19,Q20,reduceIte,Q21,Q22,zD,rep,zV,zdK,toD,zac,Q23,Q24,Q25,Q26,Q27,Q28,Nat.reduceLeDiff,Q29,Nat.reduceSub,Q30,Q31,Q32,sc,Q33,Q34,Q35,Q36,Q37,Q26,Q38,Q39,zgF,zgC,zgz,zgG,zcb,zgD,zgA,zgE,zgB,zca,zcc,zgK,zgL,Bool.not_true,Bool.not_false,List.length_map,Option.getD_none,Option.getD_some,Option.isSome_none,Option.isSome_some]; rfl) : P := e.mpr h
theorem zuy {σ : List zg} {id m t : Nat} {L : List (List UInt8)} {l : List zbM} {c : zfN} {tp : List UInt8} {o : Int} (hT : zcm σ id m t L) (hI : zkc L) (hl0 : l.length ≤ 1073741824) (hb : ∀ b ∈ l,zmy b) (hc : c.signs.length ≤ 1073741824) {K : KT}
  (hK : K (.tup [zgb (zeQ L l c tp o).2.1, .d (.int .i64 (zeQ L l c tp o).1)]) (putTab σ id m t (zeQ L l c tp o).2.2)) : zE Tryz.prog zeH [.box id 0, .d (.slice (zcl l)),certA c, .d (.str tp), .d (.int .i64 o)] σ K := by
 refine zi zpB.is rfl fun hl _ => zpB.goes ?_
 have fin : ∀ z,zeQ L l c tp o = z → K (.tup [zgb z.2.1, .d (.int .i64 z.1)]) (putTab σ id m t z.2.2) := fun z h => h ▸ hK
 clear hK
 have hself := hT.self
 have hlen : (zcl l).length = l.length := List.length_map ..
 simp only [zpQ,iN,bT,bF,eN]
 (repeat' first | refine gq1 ?_ | with_reducible first | exact ⟨⟩ | refine zh ?_ | fail)
 refine zlJ (hT.app _) hI.nd hI.len hI.each ?_
 (repeat' first | refine gq2 hlen ?_ | with_reducible first | exact ⟨⟩ | refine zh ?_ | fail)
 refine zG l.length (fun k vs s => vs = [.d (.int .i64 k)] ∧ (∃ T,s = σ ++ ([.box [.d (.int .i64 c.seq), .d (.int .i64 c.dig), .d (.slice (zaA c.signs))], .box [.d (.str tp)], .box [.d (.int .i64 o)],nilPf] ++ T)) ∧ zuk tp o l 0 = zuk tp o (l.drop k) k) ⟨rfl,⟨_,rfl⟩,by simp⟩ ?_
 rintro k vs s hk ⟨rfl,⟨T,rfl⟩,hpf⟩
 by_cases hlt : k < l.length
 ·have hd : decide ((k : Int) < (l.length : Int)) = true := by simp; omega
  have hx : l[k]? = some l[k] := by simp [hlt]
  have hbx := hb _ (List.getElem_mem hlt)
  have hgx := zae (f := znO) hx
  obtain ⟨b,hbe⟩ : ∃ b,l[k] = b := ⟨_,rfl⟩
  rw [hbe] at hx hgx hbx
  rw [findB_step hx] at hpf
  (repeat' first | refine gq2 (zd hd (zd hgx hlen)) ?_ | with_reducible first | exact ⟨⟩ | refine zh ?_ | fail)
  refine c_idxPlaced (t := tp) (o := o) (by have := hbx.len; omega) (fun x K hK => c_mkEq (by rw [zr]; rfl) (by rw [zr]; rfl) hK) ?_
  cases h1 : plAt tp o b.placed 0 with
  | none =>
   simp only [h1] at hpf ⊢
   (repeat' first | refine gq2 (zd (show decide ((-1 : Int) < 0) = true from rfl) (wkc k (by omega))) ?_ | with_reducible first | exact ⟨⟩ | refine zh ?_ | fail)
   exact zav.next hlt ⟨rfl,⟨_,rfl⟩,hpf⟩
  | some j =>
   simp only [h1] at hpf ⊢
   have hj := plAt_lt h1
   have hp0 : b.placed[j]? = some b.placed[j] := by simp [show j < b.placed.length by omega]
   have hps := hbx.each _ (List.getElem_mem (show j < b.placed.length by omega))
   obtain ⟨pl,hpl⟩ : ∃ x,b.placed[j] = x := ⟨_,rfl⟩
   rw [hpl] at hp0 hps
   have hgp := zae (f := zmB) hp0
   have hplen : (zco b.placed).length = b.placed.length := List.length_map ..
   have hn := hbx.len
   have hdr : List.drop k (List.take l.length (zcl l)) = zcl (l.drop k) := by rw [← hlen,List.take_length]; exact (List.map_drop ..).symm
   have hmk : zeQ L l c tp o = match runF c.seq none (l.drop k) with
    | none => (7,zsy,L)
    | some hs => (0,⟨tp,o,pl.rec_,hs,j,b.placed.length,(zbR b.placed.length L j (b.placed.map zao)).1,c⟩,(zbR b.placed.length L j (b.placed.map zao)).2) := by
    rw [zeQ,hpf]
    have e1 : l.getD k ⟨⟨0, 0, 0, 0, 0⟩, [], []⟩ = b := by rw [List.getD_eq_getElem?_getD,hx]; rfl
    have e2 : b.placed.getD j ⟨[], 0, []⟩ = pl := by rw [List.getD_eq_getElem?_getD,hp0]; rfl
    simp only [e1,e2]
    cases runF c.seq none (l.drop k) <;> rfl
   have dj : decide ((j : Int) < 0) = false := by simp
   (repeat' first | refine gq2 (zd dj (zd hlen hdr)) ?_ | with_reducible first | exact ⟨⟩ | refine zh ?_ | fail)
   refine c_pfRun (by simp; omega) (fun b hb' => (hb b (List.mem_of_mem_drop hb')).seq) ?_
   cases h2 : runF c.seq none (l.drop k) with
   | none =>
    simp only [h2] at hmk
    (repeat' first | refine gq42 ?_ | with_reducible first | exact ⟨⟩ | refine zh ?_ | fail)
    (first | refine zar hl ?_ | refine zaq hl ?_)
    have := fin _ hmk
    rw [hself] at this
    exact this
   | some hs =>
    simp only [h2] at hmk
    (repeat' first | refine gq42 ?_ | with_reducible first | exact ⟨⟩ | refine zh ?_ | fail)
    refine c_blLeaves (by omega) hbx.each ?_
    (repeat' first | refine gq1 ?_ | with_reducible first | exact ⟨⟩ | refine zh ?_ | fail)
    refine c_mkProve (l := b.placed.map zao) (by rw [List.length_map]; omega) (hT.app _) hI (by rw [List.length_map]; exact hn) (fun x hx' => by
     obtain ⟨p,hp,rfl⟩ := List.mem_map.1 hx'
     exact zmC (hbx.each p hp)) ?_
    have fin0 := fin _ hmk
    rw [List.length_map,zot hT]
    obtain ⟨A,hA⟩ : ∃ A,zbR b.placed.length L j (b.placed.map zao) = A := ⟨_,rfl⟩
    rw [hA] at fin0 ⊢
    have hl2 : σ.length = (putTab σ id m t A.2).length := (zcg ..).symm
    have hlo := hT.lows hl A.2
    obtain ⟨S,hS⟩ : ∃ S,putTab σ id m t A.2 = S := ⟨_,rfl⟩
    simp only [hS] at fin0 hl2 hlo ⊢
    (repeat' first | refine gq2 hl2 ?_ | with_reducible first | exact ⟨⟩ | refine zh ?_ | fail)
    refine c_clSign hc ?_
    (repeat' first | refine gq2 (zd hl2 (zd hgp hplen)) ?_ | with_reducible first | exact ⟨⟩ | refine zh ?_ | fail)
    have hpr := hps.rec_
    refine c_clRec (by omega) ?_
    (repeat' first | refine gq2 (zd hl2 (zd hgp hplen)) ?_ | with_reducible first | exact ⟨⟩ | refine zh ?_ | fail)
    rw [← hl2]
    refine zdh hl2.symm ?_ hlo ?_
    ·simp [zcU,dmT,dm,dm1,zbZ,zbr,zeG]
    ·exact fin0
 ·have hd : decide ((k : Int) < (l.length : Int)) = false := by simp; omega
  rw [List.drop_eq_nil_of_le (by omega)] at hpf
  (repeat' first | refine gq2 hd ?_ | with_reducible first | exact ⟨⟩ | refine zh ?_ | fail)
  (first | refine zar hl ?_ | refine zaq hl ?_)
  have := fin _ (show zeQ L l c tp o = (4,zsy,L) by rw [zeQ,hpf]; rfl)
  rw [hself] at this
  exact this
end Go.Proofs.YtncpaekiidpchaaGreat

/- Contracts: the document's proof of a record. -/
set_option maxRecDepth 100000
namespace Go.Proofs.YtncpaekiidpchaaGreat
open Go.AW
end Go.Proofs.YtncpaekiidpchaaGreat

/- An end of a call that zuf all that it made: what the caller's objects name now lies there. -/
namespace Go.AW
section
variable {P : Program} {σ : List zg}
def EndsA (K : KT) (out : Option (List AV)) (σ' : List zg) : Prop := match out with
 | some l => ∃ s,zmm [] σ' [] s ∧ K (dmT (zbZ l)) s
 | none => False
theorem zhu {f : FuncId} {F : AF} {na : Nat} (hF : isFn P f F na) {as0 : List AV} (has : as0.length = na) {K : KT}
  (h : zfg σ.length σ → (∀ a ∈ as0,Low σ.length a) → awp P F.body (AtEnd fun fr' σ' => EndsA K (zpY fr' σ' F.res) σ') (zhH 0 as0) σ) : zE P f as0 σ K :=
 zld hF has _ (fun {L w L' σ' w' fr' ts} S st S' F' hz => by
  unfold EndsA at hz
  split at hz
  ·rename_i l hl
   obtain ⟨s,hw,hK⟩ := hz
   obtain ⟨L2,st2,S2,_⟩ := ziq hw S' (us := []) ⟨rfl,by simp⟩
   exact ⟨L2,s,l,dmT (zbZ l),hl,st.trans st2,S2,fun v hr => zrr (st2.rv hr),hK⟩
  ·exact hz.elim) h
theorem zlQ {K : KT} {l : List AV} {s : List zg} (h : K (dmT (zbZ l)) s) : EndsA K (some l) s := ⟨_, .refl _ _,h⟩
end
end Go.AW
