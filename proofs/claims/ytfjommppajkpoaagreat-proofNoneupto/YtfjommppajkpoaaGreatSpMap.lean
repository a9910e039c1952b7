/- Maps keyed by integers: what is found after a put. -/
import Derived.Test.YtfjommppajkpoaaGreatAwEnd
import Derived.Test.YtfjommppajkpoaaGreatSpUtf
import Derived.Test.YtfjommppajkpoaaGreatAu3
import Derived.Test.YtfjommppajkpoaaGreatOpC
import Derived.Test.YtfjommppajkpoaaGreatSpMake
import Derived.Test.YtfjommppajkpoaaGreatPf1
import Derived.Test.YtfjommppajkpoaaGreatAwFrz
set_option linter.all false
namespace Go.AW
abbrev ents (l : List (Int × AV)) : List (AV × AV) := l.map fun e => (.d (.int .i64 e.1),e.2)
structure Rd where
 b : List UInt8
 e : Int
def Rd.fail (cut : Bool) (s : Rd) (x : Int) : Rd := if s.e = 0 ∧ x ≠ 0 then ⟨if cut then [] else s.b,x⟩ else s
def numP (cut : Bool) (most : Nat) (s : Rd) : Nat × Rd :=
 if s.e = 0 then (match numR most 0 0 s.b with | .ok (n,r) => (n,⟨r, 0⟩) | .error x => (0,s.fail cut x)) else (0,s)
def takeP (cut : Bool) (n : Nat) (s : Rd) : List UInt8 × Rd :=
 if s.e = 0 then (if n > s.b.length then ([],s.fail cut 10) else (s.b.take n,⟨s.b.drop n, 0⟩)) else ([],s)
def zmi (cut : Bool) (most : Nat) (s : Rd) : List UInt8 × Rd := takeP cut (numP cut most s).1 (numP cut most s).2
def zuz (cut : Bool) : Nat → Rd → List (List UInt8) × Rd
 | 0,s => ([],s)
 | k + 1,s => ((zuz cut k s).1 ++ [(zmi cut 64 (zuz cut k s).2).1],(zmi cut 64 (zuz cut k s).2).2)
def zro (cut : Bool) (k : Nat) (s : Rd) : TOp × Rd :=
 let t := zmi cut 64 s
 if k = 0 then (noOp,s)
 else if k = 2 then (let n := numP cut 4 t.2; let r := zuz cut n.1 n.2; (⟨k,t.1, [], 0,r.1⟩,r.2))
 else if k = 3 then (let g := zmi cut 64 t.2; let f := numP cut 9007199254740992 g.2; (⟨k,t.1,g.1,f.1, []⟩,f.2))
 else if k = 4 then (let f := numP cut 9007199254740992 t.2; (⟨k,t.1, [],f.1, []⟩,f.2))
 else (⟨k,t.1, [], 0, []⟩,t.2)
def Rd.like (s t : Rd) : Prop := s.e = t.e ∧ (s.e = 0 → s.b = t.b)
theorem Rd.like.fail {s t : Rd} {c d : Bool} {x : Int} (h : s.like t) : (s.fail c x).like (t.fail d x) := by
 obtain ⟨h1,h2⟩ := h
 unfold Rd.fail Rd.like
 grind
theorem Rd.like.num {s t : Rd} {c d : Bool} {m : Nat} (h : s.like t) : (numP c m s).1 = (numP d m t).1 ∧ (numP c m s).2.like (numP d m t).2 := by
 have hf : ∀ x,(s.fail c x).like (t.fail d x) := fun x => h.fail
 obtain ⟨h1,h2⟩ := h
 unfold numP
 by_cases h0 : s.e = 0
 ·rw [if_pos h0,if_pos (show t.e = 0 from h1 ▸ h0),h2 h0]
  cases numR m 0 0 t.b with
  | ok x => exact ⟨rfl,rfl,fun _ => rfl⟩
  | error x => exact ⟨rfl,hf x⟩
 ·rw [if_neg h0,if_neg (h1 ▸ h0)]
  exact ⟨rfl,h1,h2⟩
theorem Rd.like.take {s t : Rd} {c d : Bool} {m : Nat} (h : s.like t) : (takeP c m s).1 = (takeP d m t).1 ∧ (takeP c m s).2.like (takeP d m t).2 := by
 have hf : ∀ x,(s.fail c x).like (t.fail d x) := fun x => h.fail
 obtain ⟨h1,h2⟩ := h
 unfold takeP
 by_cases h0 : s.e = 0
 ·rw [if_pos h0,if_pos (show t.e = 0 from h1 ▸ h0),h2 h0]
  split
  ·exact ⟨rfl,hf 10⟩
  ·exact ⟨rfl,rfl,fun _ => rfl⟩
 ·rw [if_neg h0,if_neg (h1 ▸ h0)]
  exact ⟨rfl,h1,h2⟩
theorem Rd.like.bytes {s t : Rd} {c d : Bool} {m : Nat} (h : s.like t) : (zmi c m s).1 = (zmi d m t).1 ∧ (zmi c m s).2.like (zmi d m t).2 := by
 have a := h.num (c := c) (d := d) (m := m)
 have := a.2.take (c := c) (d := d) (m := (numP c m s).1)
 unfold zmi
 rw [← a.1]
 exact this
theorem Rd.like.recs {s t : Rd} {c d : Bool} (h : s.like t) : ∀ k,(zuz c k s).1 = (zuz d k t).1 ∧ (zuz c k s).2.like (zuz d k t).2
 | 0 => ⟨rfl,h⟩
 | k + 1 => by
  obtain ⟨a,b⟩ := Rd.like.recs h (c := c) (d := d) k
  have e := b.bytes (c := c) (d := d) (m := 64)
  exact ⟨by simp only [zuz,a,e.1],e.2⟩
theorem Rd.like.fields {s t : Rd} {c d : Bool} (h : s.like t) (k : Nat) : (zro c k s).1 = (zro d k t).1 ∧ (zro c k s).2.like (zro d k t).2 := by
 obtain ⟨t1,t2⟩ := h.bytes (c := c) (d := d) (m := 64)
 obtain ⟨n1,n2⟩ := t2.num (c := c) (d := d) (m := 4)
 obtain ⟨r1,r2⟩ := n2.recs (c := c) (d := d) (numP c 4 (zmi c 64 s).2).1
 obtain ⟨g1,g2⟩ := t2.bytes (c := c) (d := d) (m := 64)
 obtain ⟨f1,f2⟩ := g2.num (c := c) (d := d) (m := 9007199254740992)
 obtain ⟨e1,e2⟩ := t2.num (c := c) (d := d) (m := 9007199254740992)
 unfold zro
 simp only
 split
 ·exact ⟨rfl,h⟩
 ·split
  ·rw [← n1, ← r1, ← t1]; exact ⟨rfl,r2⟩
  ·split
   ·rw [← t1, ← g1, ← f1]; exact ⟨rfl,f2⟩
   ·split
    ·rw [← t1, ← e1]; exact ⟨rfl,e2⟩
    ·rw [← t1]; exact ⟨rfl,t2⟩
theorem zrH : ∀ (f : Nat) (s : List UInt8) (n : Nat),zcP f s = some n → s.length ≤ 4 * n
 | 0,_,_,h => by simp [zcP] at h
 | f + 1,s,n,h => by
  simp only [zcP] at h
  split at h
  ·rename_i h0; cases h; simp [h0]
  ·split at h
   ·cases h
   ·simp only [Option.map_eq_some_iff] at h
    obtain ⟨m,hm,rfl⟩ := h
    have := zrH f _ m hm
    have h4 := (ziM s).2.1
    simp only [List.length_drop] at *
    omega
theorem name_len {s : List UInt8} (h : zeL s = true) : s.length ≤ 64 := by
 simp only [zeL,zfJ,decide_eq_true_eq] at h
 cases e : zcP (s.length + 1) s with
 | none => simp [e] at h
 | some n =>
  have := zrH _ s n e
  simp only [e] at h
  by_cases h16 : n > 16
  ·simp [h16] at h
  ·omega
end Go.AW

/- Contracts: certificates that are kept. -/
set_option maxRecDepth 100000
namespace Go.Proofs.YtfjommppajkpoaaGreat
open Go.AW
theorem c_clSign {σ : List zg} {l : List zI} (hn : l.length ≤ 1073741824) {K : KT} (hK : K (.d (.slice (zas l))) σ) : zq Tryz.prog zbt [.d (.slice (zas l))] σ K := by
 refine zec zfd fun hl => ?_
 have hlen : (zas l).length = l.length := List.length_map ..
 have h2 : ∀ e ∈ zas l,e.length = 2 := zhf (f := zfI) (fun _ => rfl) l
 simp only [zcD,iN,bT,bF,eN,zav,zei]
 obtain ⟨es,hes⟩ : ∃ es,zas l = es := ⟨_,rfl⟩
 rw [hes] at hlen h2 hK ⊢
 cases es with
 | nil =>
  refine ⟨?_, ?_⟩
  ·refine gq1 ?_
   refine zK hl ?_
   exact hK
  ·refine gq1 ?_
   refine zK hl ?_
   exact hK
 | cons e es =>
  simp only [zac,zE,zB,zP,rep,zu,zfc,zah,zy,zeE]
  refine ⟨h2,by simp,by rw [hlen]; simp; omega, ?_⟩
  refine zK hl ?_
  exact hK
abbrev hE (l : List (Int × TPrep)) : List (AV × AV) := ents (l.map fun e => (e.1,prepA e.2))
structure HeldAt (σ : List zg) (h m : Nat) (l : List (Int × TPrep)) : Prop where
 box : σ[h]? = some (.box [.map m])
 map : σ[m]? = some (.map (hE l))
theorem HeldAt.app {σ : List zg} {h m : Nat} {l : List (Int × TPrep)} (H : HeldAt σ h m l) (τ : List zg) : HeldAt (σ ++ τ) h m l := ⟨zf H.box,zf H.map⟩
theorem c_clRec {σ : List zg} {l : List UInt8} (hn : l.length ≤ 1073741824) {K : KT} (hK : K (.d (.slice (bcs l))) σ) : zq Tryz.prog zbC [.d (.slice (bcs l))] σ K := by
 refine zec zfR fun hl => ?_
 have hlen := zaH l
 have h2 : ∀ e ∈ bcs l,e.length = 1 := zgs
 simp only [zcR,iN,bT,bF,eN,zav,zei]
 obtain ⟨es,hes⟩ : ∃ es,bcs l = es := ⟨_,rfl⟩
 rw [hes] at hlen h2 hK ⊢
 cases es with
 | nil =>
  refine ⟨?_, ?_⟩
  ·refine gq1 ?_
   refine zK hl ?_
   exact hK
  ·refine gq1 ?_
   refine zK hl ?_
   exact hK
 | cons e es =>
  simp only [zac,zE,zB,zP,rep,zu,zfc,zah,zy,zeE]
  refine ⟨h2,by simp,by rw [hlen]; simp; omega, ?_⟩
  refine zK hl ?_
  exact hK
abbrev nilPf : zg := .box [.d (.str []), .d (.int .i64 0), .exact [], .exact [], .d (.int .i64 0), .d (.int .i64 0), .exact [], .d (.int .i64 0), .d (.int .i64 0), .exact []]
theorem gq33 {P Q : Prop} (h : Q) (e : Hd Q → P := by intro h; (repeat' first | simp -dsimp only [↓zgr, ↓zaF, ↓zbL, ↓zgt, ↓zgn, ↓zgl, ↓zgo, ↓zgm, ↓zbR, ↓zbN, ↓zbS, ↓zbO, ↓zgp, ↓zbJ, ↓zbT, ↓zbP, ↓zbU, ↓zbQ, ↓zgj, ↓zgq, ↓zbI, ↓zbX, ↓zgc, ↓zgb, ↓zgi,iN,bT,bF,eN, ↓zdN, ↓unC, ↓zac, ↓zQ, ↓zR, ↓zV, ↓zak, ↓zau, ↓zco, ↓zag, ↓zaJ, ↓zW, ↓zp, ↓zo, ↓zbF, ↓zl, ↓zan, ↓zF, ↓zaM, ↓zaW, ↓ze, ↓zC, ↓zu, ↓zy, ↓zav, ↓zdr, ↓zdU, ↓zat, ↓zaB, ↓zaU, ↓zbk, ↓zbv, ↓zD, ↓zaq, ↓zS, ↓zE, ↓zam,zeb,zbD,zbB,unA,zei,bnd,zeF,zai,zP,zeE,dm,dm1,zB,zal,zfg,zff,zx,Q0,Q1,Q2,Q3,Q4,Q5,zZ,zh,zm,zT,zN,Q6,Q7,Q8,Q9,Q10,Q11,Q12,Q13,Q14,Nat.reduceAdd,Q15,Int.reduceToNat,Q16,Q17,Q18,Q19,Q20,reduceIte,Q21,Q22,zH,rep,zX,zfc,toD,zah,Q23,Q24,Q25,Q26,Q27,Q28,Nat.reduceLeDiff,Q29,Nat.reduceSub,Q30,Q31,Q32,sc,Q33,Q34,Q35,Q36,Q37,Q26,Q38,Q39,zkn,zkk,zkh,zko,zdu,zkl,zki,zkm,zkj,zdt,zdv,zkp,zkq,Bool.not_true,Bool.not_false,List.length_map,Option.getD_none,Option.getD_some,Option.isSome_none,Option.isSome_some] | with_reducible refine zkr ?_ | fail); exact h.go) : P := e ⟨h⟩
theorem c_pfMake {σ : List zg} {id m t : Nat} {L : List (List UInt8)} {l : List zfi} {c : zfV} {tp : List UInt8} {o : Int} (hT : zcd σ id m t L) (hI : zjN L) (hl0 : l.length ≤ 1073741824) (hb : ∀ b ∈ l,zoy b) (hc : c.signs.length ≤ 1073741824) {K : KT}
  (hK : K (.tup [zcp (zfw L l c tp o).2.1, .d (.int .i64 (zfw L l c tp o).1)]) (putTab σ id m t (zfw L l c tp o).2.2)) : zq Tryz.prog zeA [.box id 0, .d (.slice (zcC l)),ziN c, .d (.str tp), .d (.int .i64 o)] σ K := by
 refine acE5 zpB fun hl => ?_
 have fin : ∀ z,zfw L l c tp o = z → K (.tup [zcp z.2.1, .d (.int .i64 z.1)]) (putTab σ id m t z.2.2) := fun z h => h ▸ hK
 clear hK
 have hself := hT.self
 have hlen : (zcC l).length = l.length := List.length_map ..
 simp only [zlk,iN,bT,bF,eN,zl0,zl3]
 refine gq1 ?_
 refine zjB (hT.app _) hI.nd hI.len hI.each ?_
 refine gq2 hlen ?_
 refine zw l.length (fun k vs s => vs = [.d (.int .i64 k)] ∧ (∃ T,s = σ ++ ([.box [.d (.int .i64 c.seq), .d (.int .i64 c.dig), .d (.slice (zas c.signs))], .box [.d (.str tp)], .box [.d (.int .i64 o)],nilPf] ++ T)) ∧ zuO tp o l 0 = zuO tp o (l.drop k) k) ⟨rfl,⟨_,rfl⟩,by simp⟩ ?_
 rintro k vs s hk ⟨rfl,⟨T,rfl⟩,hpf⟩
 by_cases hlt : k < l.length
 ·have hd : decide ((k : Int) < (l.length : Int)) = true := by simp; omega
  have hx : l[k]? = some l[k] := by simp [hlt]
  have hbx := hb _ (List.getElem_mem hlt)
  have hgx := zU (f := zpG) hx
  obtain ⟨b,hbe⟩ : ∃ b,l[k] = b := ⟨_,rfl⟩
  rw [hbe] at hx hgx hbx
  rw [findB_step hx] at hpf
  refine gq2 (zc hd (zc hgx hlen)) ?_
  refine c_idxPlaced (t := tp) (o := o) (by have := hbx.len; omega) (fun x K hK => c_mkEq (by rw [zh]; rfl) (by rw [zh]; rfl) hK) ?_
  cases h1 : plAt tp o b.placed 0 with
  | none =>
   simp only [h1] at hpf ⊢
   refine gq2 (zc (show decide ((-1 : Int) < 0) = true from rfl) (wkc k (by omega))) ?_
   exact zap.next hlt ⟨rfl,⟨_,rfl⟩,hpf⟩
  | some j =>
   simp only [h1] at hpf ⊢
   have hj := plAt_lt h1
   have hp0 : b.placed[j]? = some b.placed[j] := by simp [show j < b.placed.length by omega]
   have hps := hbx.each _ (List.getElem_mem (show j < b.placed.length by omega))
   obtain ⟨pl,hpl⟩ : ∃ x,b.placed[j] = x := ⟨_,rfl⟩
   rw [hpl] at hp0 hps
   have hgp := zU (f := zoB) hp0
   have hplen : (zcA b.placed).length = b.placed.length := List.length_map ..
   have hn := hbx.len
   have hdr : List.drop k (List.take l.length (zcC l)) = zcC (l.drop k) := by rw [← hlen,List.take_length]; exact (List.map_drop ..).symm
   have hmk : zfw L l c tp o = match runF c.seq none (l.drop k) with
    | none => (7,ztg,L)
    | some hs => (0,⟨tp,o,pl.rec_,hs,j,b.placed.length,(zca b.placed.length L j (b.placed.map zaz)).1,c⟩,(zca b.placed.length L j (b.placed.map zaz)).2) := by
    rw [zfw,hpf]
    have e1 : l.getD k ⟨⟨0, 0, 0, 0, 0⟩, [], []⟩ = b := by rw [List.getD_eq_getElem?_getD,hx]; rfl
    have e2 : b.placed.getD j ⟨[], 0, []⟩ = pl := by rw [List.getD_eq_getElem?_getD,hp0]; rfl
    simp only [e1,e2]
    cases runF c.seq none (l.drop k) <;> rfl
   have dj : decide ((j : Int) < 0) = false := by simp
   refine gq2 (zc dj (zc hlen hdr)) ?_
   refine c_pfRun (by simp; omega) (fun b hb' => (hb b (List.mem_of_mem_drop hb')).seq) ?_
   cases h2 : runF c.seq none (l.drop k) with
   | none =>
    simp only [h2] at hmk
    refine gq33 ?_
    refine zK hl ?_
    have := fin _ hmk
    rw [hself] at this
    exact this
   | some hs =>
    simp only [h2] at hmk
    refine gq33 ?_
    refine c_blLeaves (by omega) hbx.each ?_
    refine gq1 ?_
    refine c_mkProve (l := b.placed.map zaz) (by rw [List.length_map]; omega) (hT.app _) hI (by rw [List.length_map]; exact hn) (fun x hx' => by
     obtain ⟨p,hp,rfl⟩ := List.mem_map.1 hx'
     exact zjg (hbx.each p hp)) ?_
    have fin0 := fin _ hmk
    rw [List.length_map,ztc hT]
    obtain ⟨A,hA⟩ : ∃ A,zca b.placed.length L j (b.placed.map zaz) = A := ⟨_,rfl⟩
    rw [hA] at fin0 ⊢
    have hl2 : σ.length = (putTab σ id m t A.2).length := (zcr ..).symm
    have hlo := hT.lows hl A.2
    obtain ⟨S,hS⟩ : ∃ S,putTab σ id m t A.2 = S := ⟨_,rfl⟩
    simp only [hS] at fin0 hl2 hlo ⊢
    refine gq2 hl2 ?_
    refine c_clSign hc ?_
    refine gq2 (zc hl2 (zc hgp hplen)) ?_
    have hpr := hps.rec_
    refine c_clRec (by omega) ?_
    refine gq2 (zc hl2 (zc hgp hplen)) ?_
    rw [← hl2]
    refine zcY hl2.symm ?_ hlo ?_
    ·simp [zcO,dmT,dm,dm1,zbY,zbf,zdZ]
    ·exact fin0
 ·have hd : decide ((k : Int) < (l.length : Int)) = false := by simp; omega
  rw [List.drop_eq_nil_of_le (by omega)] at hpf
  refine gq2 hd ?_
  refine zK hl ?_
  have := fin _ (show zfw L l c tp o = (4,ztg,L) by rw [zfw,hpf]; rfl)
  rw [hself] at this
  exact this
end Go.Proofs.YtfjommppajkpoaaGreat

/- An end of a call that zuI all that it made: what the caller's objects name now lies there. -/
namespace Go.AW
section
variable {P : Program} {σ : List zg}
def EndsA (K : KT) (out : Option (List AV)) (σ' : List zg) : Prop := match out with
 | some l => ∃ s,znb [] σ' [] s ∧ K (dmT (zbY l)) s
 | none => False
theorem zhy {f : FuncId} {F : AF} {na : Nat} (hF : isFn P f F na) {as0 : List AV} (has : as0.length = na) {K : KT}
  (h : zdY σ.length σ → (∀ a ∈ as0,Low σ.length a) → awp P F.body (AtEnd fun fr' σ' => EndsA K (zpZ fr' σ' F.res) σ') (zhK 0 as0) σ) : zq P f as0 σ K :=
 zlb hF has _ (fun {L w L' σ' w' fr' ts} S st S' F' hz => by
  unfold EndsA at hz
  split at hz
  ·rename_i l hl
   obtain ⟨s,hw,hK⟩ := hz
   obtain ⟨L2,st2,S2,_⟩ := zim hw S' (us := []) ⟨rfl,by simp⟩
   exact ⟨L2,s,l,dmT (zbY l),hl,st.trans st2,S2,fun v hr => zrF (st2.rv hr),hK⟩
  ·exact hz.elim) h
theorem zlO {K : KT} {l : List AV} {s : List zg} (h : K (dmT (zbY l)) s) : EndsA K (some l) s := ⟨_, .refl _ _,h⟩
end
end Go.AW
