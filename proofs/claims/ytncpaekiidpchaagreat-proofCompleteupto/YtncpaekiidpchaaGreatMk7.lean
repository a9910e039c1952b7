/- Contracts: the program's proof of a record. -/
import Derived.Test.YtncpaekiidpchaaGreatSpMake
import Derived.Test.YtncpaekiidpchaaGreatCk3
import Derived.Test.YtncpaekiidpchaaGreatAwFrz
set_option linter.all false
set_option maxRecDepth 100000
namespace Go.Proofs.YtncpaekiidpchaaGreat
open Go.AW
theorem c_clRec {σ : List zg} {l : List UInt8} (hn : l.length ≤ 1073741824) {K : KT} (hK : K (.d (.slice (bcs l))) σ) : zD Tryz.prog zbL [.d (.slice (bcs l))] σ K := by
 refine zj zcU.is rfl fun hl _ => zcU.goes ?_
 have hlen := zeJ l
 have h2 : ∀ e ∈ bcs l,e.length = 1 := zfS
 simp only [zcW,iN,bT,bF,eN,zan,zdk]
 obtain ⟨es,hes⟩ : ∃ es,bcs l = es := ⟨_,rfl⟩
 rw [hes] at hlen h2 hK ⊢
 cases es with
 | nil =>
  refine ⟨?_, ?_⟩
  ·(repeat' first | refine gq1 ?_ | with_reducible first | exact ⟨⟩ | refine zh ?_ | fail)
   (first | refine zaq hl ?_ | refine zap hl ?_)
   exact hK
  ·(repeat' first | refine gq1 ?_ | with_reducible first | exact ⟨⟩ | refine zh ?_ | fail)
   (first | refine zaq hl ?_ | refine zap hl ?_)
   exact hK
 | cons e es =>
  simp only [zW,zA,zB,zS,rep,zt,zdG,zab,zw,zdy]
  refine ⟨h2,by simp,by rw [hlen]; simp; omega, ?_⟩
  (first | refine zaq hl ?_ | refine zap hl ?_)
  exact hK
abbrev nilPf : zg := .box [.d (.str []), .d (.int .i64 0), .exact [], .exact [], .d (.int .i64 0), .d (.int .i64 0), .exact [], .d (.int .i64 0), .d (.int .i64 0), .exact []]
theorem gq42 {P Q : Prop} (h : Q) (e : P = Q := by simp -dsimp only [↓zey, ↓zau, ↓zbj, ↓zeA, ↓zes, ↓zeq, ↓zet, ↓zer, ↓zbo, ↓zbk, ↓zbp, ↓zbl, ↓zeu, ↓zbi, ↓zbq, ↓zbm, ↓zbr, ↓zbn, ↓zep, ↓zew, ↓zbh, ↓zbs, ↓zeg, ↓zef, ↓zeo,iN,bT,bF,eN, ↓zcS, ↓unC, ↓zW, ↓zK, ↓zL, ↓zN, ↓zZ, ↓zaw, ↓zbT, ↓zag, ↓zbu, ↓zP, ↓zq, ↓zo, ↓zby, ↓zl, ↓zaf, ↓zH, ↓zaC, ↓zaG, ↓ze, ↓zC, ↓zt, ↓zw, ↓zan, ↓zcC, ↓zdb, ↓zal, ↓zat, ↓zaF, ↓zaP, ↓zaW, ↓zu, ↓zai, ↓zM, ↓zA, ↓zaa,zdi,zbd,zba,unA,zdk,bnd,zdw,zac,zS,zdy,dm,dm1,zB,zak,zdP,zdO,zQ,Q0,Q1,Q2,Q3,Q4,Q5,zR,zr,zy,zO,zI,Q6,Q7,Q8,Q9,Q10,Q11,Q12,Q13,Q14,Nat.reduceAdd,Q15,Int.reduceToNat,Q16,Q17,Q18,Q19,Q20,reduceIte,Q21,Q22,zE,rep,zV,zdG,toD,zab,Q23,Q24,Q25,Q26,Q27,Q28,Nat.reduceLeDiff,Q29,Nat.reduceSub,Q30,Q31,Q32,sc,Q33,Q34,Q35,Q36,Q37,Q26,Q38,Q39,zgH,zgE,zgB,zgI,zcf,zgF,zgC,zgG,zgD,zce,zcg,zgJ,zgK,Bool.not_true,Bool.not_false,List.length_map,Option.getD_none,Option.getD_some,Option.isSome_none,Option.isSome_some]; rfl) : P := e.mpr h
theorem zup {σ : List zg} {id m t : Nat} {L : List (List UInt8)} {l : List zaM} {c : zfH} {tp : List UInt8} {o : Int} (hT : zcl σ id m t L) (hI : zkk L) (hl0 : l.length ≤ 1073741824) (hb : ∀ b ∈ l,zoq b) (hc : c.signs.length ≤ 1073741824) {K : KT}
  (hK : K (.tup [zgQ (zdL L l c tp o).2.1, .d (.int .i64 (zdL L l c tp o).1)]) (putTab σ id m t (zdL L l c tp o).2.2)) : zD Tryz.prog zeC [.box id 0, .d (.slice (zcn l)),certA c, .d (.str tp), .d (.int .i64 o)] σ K := by
 refine zj zpx.is rfl fun hl _ => zpx.goes ?_
 have fin : ∀ z,zdL L l c tp o = z → K (.tup [zgQ z.2.1, .d (.int .i64 z.1)]) (putTab σ id m t z.2.2) := fun z h => h ▸ hK
 clear hK
 have hself := hT.self
 have hlen : (zcn l).length = l.length := List.length_map ..
 simp only [zpM,iN,bT,bF,eN]
 (repeat' first | refine gq1 ?_ | with_reducible first | exact ⟨⟩ | refine zh ?_ | fail)
 refine zlA (hT.app _) hI.nd hI.len hI.each ?_
 (repeat' first | refine gq2 hlen ?_ | with_reducible first | exact ⟨⟩ | refine zh ?_ | fail)
 refine zG l.length (fun k vs s => vs = [.d (.int .i64 k)] ∧ (∃ T,s = σ ++ ([.box [.d (.int .i64 c.seq), .d (.int .i64 c.dig), .d (.slice (zaz c.signs))], .box [.d (.str tp)], .box [.d (.int .i64 o)],nilPf] ++ T)) ∧ znp tp o l 0 = znp tp o (l.drop k) k) ⟨rfl,⟨_,rfl⟩,by simp⟩ ?_
 rintro k vs s hk ⟨rfl,⟨T,rfl⟩,hpf⟩
 by_cases hlt : k < l.length
 ·have hd : decide ((k : Int) < (l.length : Int)) = true := by simp; omega
  have hx : l[k]? = some l[k] := by simp [hlt]
  have hbx := hb _ (List.getElem_mem hlt)
  have hgx := zae (f := znK) hx
  obtain ⟨b,hbe⟩ : ∃ b,l[k] = b := ⟨_,rfl⟩
  rw [hbe] at hx hgx hbx
  rw [findB_step hx] at hpf
  (repeat' first | refine gq2 (zd hd (zd hgx hlen)) ?_ | with_reducible first | exact ⟨⟩ | refine zh ?_ | fail)
  refine c_idxPlaced (t := tp) (o := o) (by have := hbx.len; omega) (fun x K hK => c_mkEq (by rw [zr]; rfl) (by rw [zr]; rfl) hK) ?_
  cases h1 : plAt tp o b.placed 0 with
  | none =>
   simp only [h1] at hpf ⊢
   (repeat' first | refine gq2 (zd (show decide ((-1 : Int) < 0) = true from rfl) (wkc k (by omega))) ?_ | with_reducible first | exact ⟨⟩ | refine zh ?_ | fail)
   exact zav.next hlt ⟨rfl,⟨_,rfl⟩,hpf⟩
  | some j =>
   simp only [h1] at hpf ⊢
   have hj := ztV h1
   have hp0 : b.placed[j]? = some b.placed[j] := by simp [show j < b.placed.length by omega]
   have hps := hbx.each _ (List.getElem_mem (show j < b.placed.length by omega))
   obtain ⟨pl,hpl⟩ : ∃ x,b.placed[j] = x := ⟨_,rfl⟩
   rw [hpl] at hp0 hps
   have hgp := zae (f := zkq) hp0
   have hplen : (zci b.placed).length = b.placed.length := List.length_map ..
   have hn := hbx.len
   have hdr : List.drop k (List.take l.length (zcn l)) = zcn (l.drop k) := by rw [← hlen,List.take_length]; exact (List.map_drop ..).symm
   have hmk : zdL L l c tp o = match zqu c.seq none (l.drop k) with
    | none => (7,zss,L)
    | some hs => (0,⟨tp,o,pl.rec_,hs,j,b.placed.length,(zaD b.placed.length L j (b.placed.map zam)).1,c⟩,(zaD b.placed.length L j (b.placed.map zam)).2) := by
    rw [zdL,hpf]
    have e1 : l.getD k ⟨⟨0, 0, 0, 0, 0⟩, [], []⟩ = b := by rw [List.getD_eq_getElem?_getD,hx]; rfl
    have e2 : b.placed.getD j ⟨[], 0, []⟩ = pl := by rw [List.getD_eq_getElem?_getD,hp0]; rfl
    simp only [e1,e2]
    cases zqu c.seq none (l.drop k) <;> rfl
   have dj : decide ((j : Int) < 0) = false := by simp
   (repeat' first | refine gq2 (zd dj (zd hlen hdr)) ?_ | with_reducible first | exact ⟨⟩ | refine zh ?_ | fail)
   refine c_pfRun (by simp; omega) (fun b hb' => (hb b (List.mem_of_mem_drop hb')).seq) ?_
   cases h2 : zqu c.seq none (l.drop k) with
   | none =>
    simp only [h2] at hmk
    (repeat' first | refine gq42 ?_ | with_reducible first | exact ⟨⟩ | refine zh ?_ | fail)
    (first | refine zaq hl ?_ | refine zap hl ?_)
    have := fin _ hmk
    rw [hself] at this
    exact this
   | some hs =>
    simp only [h2] at hmk
    (repeat' first | refine gq42 ?_ | with_reducible first | exact ⟨⟩ | refine zh ?_ | fail)
    refine c_blLeaves (by omega) hbx.each ?_
    (repeat' first | refine gq1 ?_ | with_reducible first | exact ⟨⟩ | refine zh ?_ | fail)
    refine c_mkProve (l := b.placed.map zam) (by rw [List.length_map]; omega) (hT.app _) hI (by rw [List.length_map]; exact hn) (fun x hx' => by
     obtain ⟨p,hp,rfl⟩ := List.mem_map.1 hx'
     exact zms (hbx.each p hp)) ?_
    have fin0 := fin _ hmk
    rw [List.length_map,zso hT]
    obtain ⟨A,hA⟩ : ∃ A,zaD b.placed.length L j (b.placed.map zam) = A := ⟨_,rfl⟩
    rw [hA] at fin0 ⊢
    have hl2 : σ.length = (putTab σ id m t A.2).length := (zco ..).symm
    have hlo := hT.lows hl A.2
    obtain ⟨S,hS⟩ : ∃ S,putTab σ id m t A.2 = S := ⟨_,rfl⟩
    simp only [hS] at fin0 hl2 hlo ⊢
    (repeat' first | refine gq2 hl2 ?_ | with_reducible first | exact ⟨⟩ | refine zh ?_ | fail)
    refine c_clSign hc ?_
    (repeat' first | refine gq2 (zd hl2 (zd hgp hplen)) ?_ | with_reducible first | exact ⟨⟩ | refine zh ?_ | fail)
    have hpr := hps.rec_
    refine c_clRec (by omega) ?_
    (repeat' first | refine gq2 (zd hl2 (zd hgp hplen)) ?_ | with_reducible first | exact ⟨⟩ | refine zh ?_ | fail)
    rw [← hl2]
    refine zdc hl2.symm ?_ hlo ?_
    ·simp [zdh,dmT,dm,dm1,zca,zbv,zeB]
    ·exact fin0
 ·have hd : decide ((k : Int) < (l.length : Int)) = false := by simp; omega
  rw [List.drop_eq_nil_of_le (by omega)] at hpf
  (repeat' first | refine gq2 hd ?_ | with_reducible first | exact ⟨⟩ | refine zh ?_ | fail)
  (first | refine zaq hl ?_ | refine zap hl ?_)
  have := fin _ (show zdL L l c tp o = (4,zss,L) by rw [zdL,hpf]; rfl)
  rw [hself] at this
  exact this
end Go.Proofs.YtncpaekiidpchaaGreat

/- Contracts: the document's proof of a record. -/
set_option maxRecDepth 100000
namespace Go.Proofs.YtncpaekiidpchaaGreat
open Go.AW
abbrev blockO (b : zaM) : zg := .box [.d (.int .i64 b.header.seq), .d (.int .i64 b.header.prev), .d (.int .i64 b.header.batch), .d (.int .i64 b.header.root), .d (.int .i64 b.header.state), .d (.slice (ziS b.batch)), .d (.slice (zci b.placed))]
end Go.Proofs.YtncpaekiidpchaaGreat

/- An end of a call that ztZ all that it made: what the caller's objects name now lies there. -/
namespace Go.AW
section
variable {P : Program} {σ : List zg}
def EndsA (K : KT) (out : Option (List AV)) (σ' : List zg) : Prop := match out with
 | some l => ∃ s,zmN [] σ' [] s ∧ K (dmT (zca l)) s
 | none => False
theorem zhp {f : FuncId} {F : AF} {na : Nat} (hF : isFn P f F na) {as0 : List AV} (has : as0.length = na) {K : KT}
  (h : zfc σ.length σ → (∀ a ∈ as0,Low σ.length a) → awp P F.body (AtEnd fun fr' σ' => EndsA K (zpS fr' σ' F.res) σ') (zhE 0 as0) σ) : zD P f as0 σ K :=
 zkW hF has _ (fun {L w L' σ' w' fr' ts} S st S' F' hz => by
  unfold EndsA at hz
  split at hz
  ·rename_i l hl
   obtain ⟨s,hw,hK⟩ := hz
   obtain ⟨L2,st2,S2,_⟩ := zio hw S' (us := []) ⟨rfl,by simp⟩
   exact ⟨L2,s,l,dmT (zca l),hl,st.trans st2,S2,fun v hr => zrk (st2.rv hr),hK⟩
  ·exact hz.elim) h
theorem zlH {K : KT} {l : List AV} {s : List zg} (h : K (dmT (zca l)) s) : EndsA K (some l) s := ⟨_, .refl _ _,h⟩
end
end Go.AW
