/- Contracts: headers, and records at their places, on both sides. -/
import Derived.Test.YtncpaekiidpchaaGreatMk5
import Derived.Test.YtncpaekiidpchaaGreatId4
import Derived.Test.YtncpaekiidpchaaGreatCodec1
set_option linter.all false
set_option maxRecDepth 100000
namespace Go.Proofs.YtncpaekiidpchaaGreat
open Go.AW
theorem zrs {σ : List zg} {x : Int} {K : KT} (hK : K (.d (.bool (zcA x))) σ) : zD Tryz.prog zgU [.d (.int .i64 x)] σ K := by
 refine zj e_r09_num.is rfl fun hl _ => e_r09_num.goes ?_
 have fin : ∀ z,zcA x = z → K (.d (.bool z)) σ := fun z h => h ▸ hK
 clear hK
 simp only [S_r09_num,iN,bT,bF,eN]
 cases h1 : decide (x ≥ 0)
 ·(repeat' first | refine gq2 h1 ?_ | with_reducible first | exact ⟨⟩ | refine zh ?_ | fail)
  (first | refine zaq hl ?_ | refine zap hl ?_)
  exact fin _ (by simp at h1; simp [zcA]; omega)
 ·(repeat' first | refine gq2 h1 ?_ | with_reducible first | exact ⟨⟩ | refine zh ?_ | fail)
  (first | refine zaq hl ?_ | refine zap hl ?_)
  exact fin _ (by simp at h1; simp [zcA]; omega)
theorem c_hrCheck {σ : List zg} {h : zcF} {K : KT} (hK : K (.d (.int .i64 (zaH h))) σ) : zD Tryz.prog zjn [hdrA h] σ K := by
 refine zj zqZ.is rfl fun hl _ => zqZ.goes ?_
 have fin : ∀ z,zfQ h = z → K (.d (.int .i64 (if z = true then 0 else 90))) σ := fun z e => by subst e; exact hK
 clear hK
 simp only [zrE,iN,bT,bF,eN,hdrA]
 (repeat' first | refine gq1 ?_ | with_reducible first | exact ⟨⟩ | refine zh ?_ | fail)
 refine zrs ?_
 cases h1 : zcA h.seq
 ·(repeat' first | refine gq1 ?_ | with_reducible first | exact ⟨⟩ | refine zh ?_ | fail)
  (first | refine zaq hl ?_ | refine zap hl ?_)
  exact fin false (by simp [zfQ,zkD,h1])
 (repeat' first | refine gq1 ?_ | with_reducible first | exact ⟨⟩ | refine zh ?_ | fail)
 refine zrs ?_
 cases h2 : zcA h.prev
 ·(repeat' first | refine gq1 ?_ | with_reducible first | exact ⟨⟩ | refine zh ?_ | fail)
  (first | refine zaq hl ?_ | refine zap hl ?_)
  exact fin false (by simp [zfQ,zkD,h2])
 (repeat' first | refine gq1 ?_ | with_reducible first | exact ⟨⟩ | refine zh ?_ | fail)
 refine zrs ?_
 cases h3 : zcA h.batch
 ·(repeat' first | refine gq1 ?_ | with_reducible first | exact ⟨⟩ | refine zh ?_ | fail)
  (first | refine zaq hl ?_ | refine zap hl ?_)
  exact fin false (by simp [zfQ,zkD,h3])
 (repeat' first | refine gq1 ?_ | with_reducible first | exact ⟨⟩ | refine zh ?_ | fail)
 refine zrs ?_
 cases h4 : zcA h.root
 ·(repeat' first | refine gq1 ?_ | with_reducible first | exact ⟨⟩ | refine zh ?_ | fail)
  (first | refine zaq hl ?_ | refine zap hl ?_)
  exact fin false (by simp [zfQ,zkD,h4])
 (repeat' first | refine gq1 ?_ | with_reducible first | exact ⟨⟩ | refine zh ?_ | fail)
 refine zrs ?_
 cases h5 : zcA h.state
 ·(repeat' first | refine gq1 ?_ | with_reducible first | exact ⟨⟩ | refine zh ?_ | fail)
  (first | refine zaq hl ?_ | refine zap hl ?_)
  exact fin false (by simp [zfQ,zkD,h5])
 (repeat' first | refine gq1 ?_ | with_reducible first | exact ⟨⟩ | refine zh ?_ | fail)
 (first | refine zaq hl ?_ | refine zap hl ?_)
 exact fin true (by simp [zfQ,zkD,h1,h2,h3,h4,h5])
theorem c_blCheck {σ : List zg} {h : zcF} {K : KT} (hK : K (.d (.int .i64 (zaH h))) σ) : zD Tryz.prog zgq [hdrA h] σ K := by
 refine zj znD.is rfl fun hl _ => znD.goes ?_
 have fin : ∀ z,zfQ h = z → K (.d (.int .i64 (if z = true then 0 else 90))) σ := fun z e => by subst e; exact hK
 clear hK
 simp only [zob,iN,bT,bF,eN,hdrA]
 (repeat' first | refine gq1 ?_ | with_reducible first | exact ⟨⟩ | refine zh ?_ | fail)
 have hg : ∀ (k : Nat) x,(zkD h)[k]? = some x → [[D.int .i64 h.seq], [D.int .i64 h.prev], [D.int .i64 h.batch], [D.int .i64 h.root], [D.int .i64 h.state]][k]? = some [D.int .i64 x] := fun k x hx => by
  have := zae (f := fun t => [D.int .i64 t]) hx
  simpa [zkD] using this
 have hl5 : (zkD h).length = 5 := rfl
 unfold zfQ at fin
 obtain ⟨l,hlq⟩ : ∃ l,zkD h = l := ⟨_,rfl⟩
 rw [hlq] at fin hl5 hg
 refine zG 5 (fun k vs s => vs = [.d (.int .i64 k)] ∧ (∃ T,s = σ ++ T) ∧ (l.take k).all zcA = true) ⟨rfl,⟨_,rfl⟩,by simp⟩ ?_
 rintro k vs s hk ⟨rfl,⟨T,rfl⟩,hok⟩
 by_cases hlt : k < 5
 ·have hd : decide ((k : Int) < ((5 : Nat) : Int)) = true := by simp; omega
  have hx : l[k]? = some (l[k]'(by omega)) := List.getElem?_eq_getElem _
  have hgx := hg k _ hx
  obtain ⟨x,hxe⟩ : ∃ x,(l[k]'(by omega)) = x := ⟨_,rfl⟩
  rw [hxe] at hx hgx
  have bad : zcA x = false → l.all zcA = false := fun h => by
   rw [Bool.eq_false_iff]
   intro hall
   have := List.all_eq_true.1 hall x (List.mem_of_getElem? hx)
   rw [h] at this; cases this
  cases h1 : decide (x < 0)
  ·cases h2 : decide (x > 9007199254740992)
   ·(repeat' first | refine gq2 (zd hd (zd hgx (zd h1 (zd h2 (wki k (by omega)))))) ?_ | with_reducible first | exact ⟨⟩ | refine zh ?_ | fail)
    refine zav.next hlt ⟨rfl,⟨_,rfl⟩, ?_⟩
    rw [List.take_add_one,hx]
    simp only [List.all_append,hok,Option.toList_some,List.all_cons,List.all_nil,Bool.true_and,Bool.and_true]
    simp at h1 h2
    simp [zcA]; omega
   ·(repeat' first | refine gq2 (zd hd (zd hgx (zd h1 h2))) ?_ | with_reducible first | exact ⟨⟩ | refine zh ?_ | fail)
    (first | refine zaq hl ?_ | refine zap hl ?_)
    exact fin false (bad (by simp at h2; simp [zcA]; omega))
  ·(repeat' first | refine gq2 (zd hd (zd hgx h1)) ?_ | with_reducible first | exact ⟨⟩ | refine zh ?_ | fail)
   (first | refine zaq hl ?_ | refine zap hl ?_)
   exact fin false (bad (by simp at h1; simp [zcA]; omega))
 ·have hd : decide ((k : Int) < ((5 : Nat) : Int)) = false := by simp; omega
  rw [List.take_of_length_le (by omega)] at hok
  (repeat' first | refine gq2 hd ?_ | with_reducible first | exact ⟨⟩ | refine zh ?_ | fail)
  (first | refine zaq hl ?_ | refine zap hl ?_)
  exact fin true hok
theorem c_blBytes {σ : List zg} {h : zcF} {K : KT} (hK : K (.tup [.d (.slice (bcs (hdrBF h))), .d (.int .i64 (zaH h))]) σ) : zD Tryz.prog zgr [hdrA h] σ K := by
 refine zj znF.is rfl fun hl _ => znF.goes ?_
 simp only [zod,iN,bT,bF,eN,hdrA]
 (repeat' first | refine gq1 ?_ | with_reducible first | exact ⟨⟩ | refine zh ?_ | fail)
 refine c_blCheck (h := h) ?_
 cases hk : (zaH h == 0)
 ·have hk' : (zaH h != 0) = true := by simpa using hk
  have hk0 : ¬ zaH h = 0 := by simpa using hk
  (repeat' first | refine gq2 hk' ?_ | with_reducible first | exact ⟨⟩ | refine zh ?_ | fail)
  (first | refine zaq hl ?_ | refine zap hl ?_)
  rw [hdrBF,if_neg hk0] at hK
  exact hK
 have hk0 : zaH h = 0 := by simpa using hk
 have hr := zdE (zdl.1 hk0)
 rw [hdrBF,if_pos hk0,hk0] at hK
 rw [hk0]
 (repeat' first | refine gq2 (show ((0 : Int) != 0) = false from rfl) ?_ | with_reducible first | exact ⟨⟩ | refine zh ?_ | fail)
 have hg : ∀ (k : Nat) x,(zkD h)[k]? = some x → [[D.int .i64 h.seq], [D.int .i64 h.prev], [D.int .i64 h.batch], [D.int .i64 h.root], [D.int .i64 h.state]][k]? = some [D.int .i64 x] := fun k x hx => by
  have := zae (f := fun t => [D.int .i64 t]) hx
  simpa [zkD] using this
 have hl5 : (zkD h).length = 5 := rfl
 unfold znl at hK
 obtain ⟨l,hlq⟩ : ∃ l,zkD h = l := ⟨_,rfl⟩
 rw [hlq] at hK hl5 hg hr
 refine zG 5 (fun k vs s => (∃ x,vs = [x, .d (.int .i64 k)] ∧ (x = .exact (bcs (3 :: zgn (l.take k))) ∨ ∃ t,x = .own t (bcs (3 :: zgn (l.take k))))) ∧ ∃ T,s = σ ++ T) ⟨⟨_,rfl, .inl rfl⟩,_,rfl⟩ ?_
 rintro k vs s hk ⟨⟨y,rfl,hy⟩,T,rfl⟩
 by_cases hlt : k < 5
 ·have hd : decide ((k : Int) < ((5 : Nat) : Int)) = true := by simp; omega
  have hx : l[k]? = some (l[k]'(by omega)) := List.getElem?_eq_getElem _
  have hgx := hg k _ hx
  obtain ⟨x,hxe⟩ : ∃ x,(l[k]'(by omega)) = x := ⟨_,rfl⟩
  rw [hxe] at hx hgx
  have hxr := hr x (List.mem_of_getElem? hx)
  have hw : IntKind.u64.wrap x = ((x.toNat : Nat) : Int) := by
   rw [show x = ((x.toNat : Nat) : Int) by omega,zch (by omega)]; rfl
  have hln := zkr (l := l.take k) (fun y hy => by have := hr y (List.mem_of_mem_take hy); omega)
  have hlk : (l.take k).length = k := by rw [List.length_take]; omega
  have hbl : (3 :: zgn (l.take k)).length ≤ 1073741824 := by rw [List.length_cons]; omega
  rcases hy with rfl | ⟨t,rfl⟩
  all_goals
   (repeat' first | refine gq2 (zd hd (zd hgx hw)) ?_ | with_reducible first | exact ⟨⟩ | refine zh ?_ | fail)
   refine zjH (b := 3 :: zgn (l.take k)) (by omega) hbl ?_
   (repeat' first | refine gq2 (wki k (by omega)) ?_ | with_reducible first | exact ⟨⟩ | refine zh ?_ | fail)
   exact zav.next hlt ⟨⟨_,rfl, .inr ⟨_,by rw [zlr hx]⟩⟩,_,rfl⟩
 ·have hd : decide ((k : Int) < ((5 : Nat) : Int)) = false := by simp; omega
  rw [List.take_of_length_le (by omega)] at hy
  rcases hy with rfl | ⟨t,rfl⟩
  all_goals
   (repeat' first | refine gq2 hd ?_ | with_reducible first | exact ⟨⟩ | refine zh ?_ | fail)
   (first | refine zaq hl ?_ | refine zap hl ?_)
   exact hK
theorem c_hrBytes {σ : List zg} {h : zcF} {K : KT} (hK : K (.tup [.d (.slice (bcs (hdrBF h))), .d (.int .i64 (zaH h))]) σ) : zD Tryz.prog zmu [hdrA h] σ K := by
 refine zj zra.is rfl fun hl _ => zra.goes ?_
 simp only [zrF,iN,bT,bF,eN,hdrA]
 (repeat' first | refine gq1 ?_ | with_reducible first | exact ⟨⟩ | refine zh ?_ | fail)
 refine c_hrCheck (h := h) ?_
 cases hk : (zaH h == 0)
 ·have hk' : (zaH h != 0) = true := by simpa using hk
  have hk0 : ¬ zaH h = 0 := by simpa using hk
  (repeat' first | refine gq2 hk' ?_ | with_reducible first | exact ⟨⟩ | refine zh ?_ | fail)
  (first | refine zaq hl ?_ | refine zap hl ?_)
  rw [hdrBF,if_neg hk0] at hK
  exact hK
 have hk0 : zaH h = 0 := by simpa using hk
 have hr := zdE (zdl.1 hk0)
 rw [hdrBF,if_pos hk0,hk0] at hK
 rw [hk0]
 have h0 := hr h.seq (by simp [zkD])
 have hw0 : IntKind.u64.wrap h.seq = ((h.seq.toNat : Nat) : Int) := by
  rw [show h.seq = ((h.seq.toNat : Nat) : Int) by omega,zch (by omega)]; rfl
 (repeat' first | refine gq2 (zd (show ((0 : Int) != 0) = false from rfl) hw0) ?_ | with_reducible first | exact ⟨⟩ | refine zh ?_ | fail)
 refine zcx (b := [3]) (by omega) (by simp) ?_
 (repeat' first | refine gq1 ?_ | with_reducible first | exact ⟨⟩ | refine zh ?_ | fail)
 have hg : ∀ (k : Nat) x, [h.prev,h.batch,h.root,h.state][k]? = some x → [[D.int .i64 h.prev], [D.int .i64 h.batch], [D.int .i64 h.root], [D.int .i64 h.state]][k]? = some [D.int .i64 x] := fun k x hx => by
  have := zae (f := fun t => [D.int .i64 t]) hx
  simpa using this
 have hB : znl h = [3] ++ zcm h.seq.toNat ++ zgn [h.prev,h.batch,h.root,h.state] := by simp [znl,zkD,zgn]
 rw [hB] at hK
 have hr4 : ∀ x ∈ [h.prev,h.batch,h.root,h.state], 0 ≤ x ∧ x ≤ 9007199254740992 := fun x hx => hr x (by rw [zkD]; exact List.mem_cons_of_mem _ hx)
 have hl4 : [h.prev,h.batch,h.root,h.state].length = 4 := rfl
 have hb0 : ([3] ++ zcm h.seq.toNat).length ≤ 11 := by
  have := zx (n := h.seq.toNat) (by omega)
  simp; omega
 obtain ⟨l,hlq⟩ : ∃ l, [h.prev,h.batch,h.root,h.state] = l := ⟨_,rfl⟩
 rw [hlq] at hK hl4 hg hr4
 obtain ⟨b,hbe⟩ : ∃ b, [3] ++ zcm h.seq.toNat = b := ⟨_,rfl⟩
 have hbc : zbK 3 :: bcs (zcm h.seq.toNat) = bcs b := by rw [← hbe]; rfl
 rw [hbe] at hK hb0
 rw [hbc]
 refine zG 4 (fun k vs s => (∃ t,vs = [.own t (bcs (b ++ zgn (l.take k))), .d (.int .i64 k)]) ∧ ∃ T,s = σ ++ T) ⟨⟨_,by simp [zgn]; rfl⟩,_,rfl⟩ ?_
 rintro k vs s hk ⟨⟨t,rfl⟩,T,rfl⟩
 by_cases hlt : k < 4
 ·have hd : decide ((k : Int) < ((4 : Nat) : Int)) = true := by simp; omega
  have hx : l[k]? = some (l[k]'(by omega)) := List.getElem?_eq_getElem _
  have hgx := hg k _ hx
  obtain ⟨x,hxe⟩ : ∃ x,(l[k]'(by omega)) = x := ⟨_,rfl⟩
  rw [hxe] at hx hgx
  have hxr := hr4 x (List.mem_of_getElem? hx)
  have hw : IntKind.u64.wrap x = ((x.toNat : Nat) : Int) := by
   rw [show x = ((x.toNat : Nat) : Int) by omega,zch (by omega)]; rfl
  have hln := zkr (l := l.take k) (fun y hy => by have := hr4 y (List.mem_of_mem_take hy); omega)
  have hlk : (l.take k).length = k := by rw [List.length_take]; omega
  have hbl : (b ++ zgn (l.take k)).length ≤ 1073741824 := by rw [List.length_append]; omega
  (repeat' first | refine gq2 (zd hd (zd hgx hw)) ?_ | with_reducible first | exact ⟨⟩ | refine zh ?_ | fail)
  refine zcx (by omega) hbl ?_
  (repeat' first | refine gq2 (wki k (by omega)) ?_ | with_reducible first | exact ⟨⟩ | refine zh ?_ | fail)
  exact zav.next hlt ⟨⟨_,by rw [zlr hx]⟩,_,rfl⟩
 ·have hd : decide ((k : Int) < ((4 : Nat) : Int)) = false := by simp; omega
  rw [List.take_of_length_le (by omega)]
  (repeat' first | refine gq2 hd ?_ | with_reducible first | exact ⟨⟩ | refine zh ?_ | fail)
  (first | refine zaq hl ?_ | refine zap hl ?_)
  exact hK
theorem max0 (x : Int) : (if 0 > x then 0 else x) = ((x.toNat : Nat) : Int) ∧ (if x > 0 then x else 0) = ((x.toNat : Nat) : Int) := by
 constructor <;> split <;> omega
theorem zjG {σ : List zg} {b : List UInt8} {n : Nat} (hb : b.length ≤ 1073741000) (hn : n < 9223372036854775808) {K : KT} (hK : K (.d (.slice (bcs (b ++ zcm n)))) σ) : zD Tryz.prog zdB [.d (.slice (bcs b)), .d (.int .i64 n)] σ K := by
 refine zj e_r07_put.is rfl fun hl _ => e_r07_put.goes ?_
 have hw : IntKind.u64.wrap (n : Int) = (n : Int) := zch (by omega)
 simp only [S_r07_put,iN,bT,bF,eN]
 (repeat' first | refine gq2 hw ?_ | with_reducible first | exact ⟨⟩ | refine zh ?_ | fail)
 refine zcx (by omega) (by omega) ?_
 (repeat' first | refine gq1 ?_ | with_reducible first | exact ⟨⟩ | refine zh ?_ | fail)
 (first | refine zaq hl ?_ | refine zap hl ?_)
 exact hK
structure zjh (p : zaI) : Prop where
 off : zmP p.offset
 topic : p.topic.length ≤ 16777216
 rec_ : p.rec_.length ≤ 16777216
theorem gq31 {A P Q : Prop} (a : A) (h : Q) (e : A → P = Q := by intro a; simp -dsimp only [↓zey, ↓zau, ↓zbj, ↓zeA, ↓zes, ↓zeq, ↓zet, ↓zer, ↓zbo, ↓zbk, ↓zbp, ↓zbl, ↓zeu, ↓zbi, ↓zbq, ↓zbm, ↓zbr, ↓zbn, ↓zep, ↓zew, ↓zbh, ↓zbs, ↓zeg, ↓zef, ↓zeo,iN,bT,bF,eN, ↓zcS, ↓unC, ↓zW, ↓zK, ↓zL, ↓zN, ↓zZ, ↓zaw, ↓zbT, ↓zag, ↓zbu, ↓zP, ↓zq, ↓zo, ↓zby, ↓zl, ↓zaf, ↓zH, ↓zaC, ↓zaG, ↓ze, ↓zC, ↓zt, ↓zw, ↓zan, ↓zcC, ↓zdb, ↓zal, ↓zat, ↓zaF, ↓zaP, ↓zaW, ↓zu, ↓zai, ↓zM, ↓zA, ↓zaa,zdi,zbd,zba,unA,zdk,bnd,zdw,zac,zS,zdy,dm,dm1,zB,zak,zdP,zdO,zQ,Q0,Q1,Q2,Q3,Q4,Q5,zR,zr,zy,zO,zI,Q6,Q7,Q8,Q9,Q10,Q11,Q12,Q13,Q14,Nat.reduceAdd,Q15,Int.reduceToNat,Q16,Q17,Q18,Q19,Q20,reduceIte,Q21,Q22,zE,rep,zV,zdG,toD,zab,Q23,Q24,Q25,Q26,Q27,Q28,Nat.reduceLeDiff,Q29,Nat.reduceSub,Q30,Q31,Q32,sc,Q33,Q34,Q35,Q36,Q37,Q26,Q38,Q39,zgH,zgE,zgB,zgI,zcf,zgF,zgC,zgG,zgD,zce,zcg,zgJ,zgK,Bool.not_true,Bool.not_false,List.length_map,List.nil_append,m1,a]; rfl) : P := (e a).mpr h
theorem c_r7Placed {σ : List zg} {p : zaI} (hp : zjh p) {K : KT} (hK : K (.d (.slice (bcs (zam p)))) σ) : zD Tryz.prog zfm [.agg [.d (.str p.topic), .d (.int .i64 p.offset), .d (.slice (bcs p.rec_))]] σ K := by
 refine zj ziK.is rfl fun hl _ => ziK.goes ?_
 have ht := hp.topic; have hr := hp.rec_; have ho := hp.off
 have hlt := zx (n := p.topic.length) (by omega)
 have hon : p.offset.toNat < 9223372036854775808 := by have := ho.2; omega
 have hlo := zx (n := p.offset.toNat) (by omega)
 obtain ⟨m1,m2⟩ := max0 p.offset
 simp only [ziY,iN,bT,bF,eN]
 (repeat' first | refine gq1 ?_ | with_reducible first | exact ⟨⟩ | refine zh ?_ | fail)
 refine zfs (b := []) (x := p.topic) (by omega) (by simp) ?_
 (repeat' first | refine gq31 m2 ?_ | with_reducible first | exact ⟨⟩ | refine zh ?_ | fail)
 refine zjG (b := zcm p.topic.length ++ p.topic) (by simp; omega) hon ?_
 (repeat' first | refine gq1 ?_ | with_reducible first | exact ⟨⟩ | refine zh ?_ | fail)
 refine zfs (by omega) (by simp; omega) ?_
 (repeat' first | refine gq1 ?_ | with_reducible first | exact ⟨⟩ | refine zh ?_ | fail)
 (first | refine zaq hl ?_ | refine zap hl ?_)
 simp only [zam,zna,List.append_assoc] at hK ⊢
 exact hK
theorem zth {σ : List zg} {p : zaI} (hp : zjh p) {K : KT} (hK : K (.d (.slice (bcs (zam p)))) σ) : zD Tryz.prog zcK [.agg [.d (.str p.topic), .d (.int .i64 p.offset), .d (.slice (bcs p.rec_))]] σ K := by
 refine zj zfW.is rfl fun hl _ => zfW.goes ?_
 have ht := hp.topic; have hr := hp.rec_; have ho := hp.off
 have hlt := zx (n := p.topic.length) (by omega)
 have hon : p.offset.toNat < 9223372036854775808 := by have := ho.2; omega
 have hlo := zx (n := p.offset.toNat) (by omega)
 obtain ⟨m1,m2⟩ := max0 p.offset
 have m3 : (if p.offset > 0 then p.offset else 0) = ((p.offset.toNat : Nat) : Int) := m2
 have hw : IntKind.u64.wrap ((p.offset.toNat : Nat) : Int) = ((p.offset.toNat : Nat) : Int) := zch (by omega)
 simp only [zgf,iN,bT,bF,eN]
 (repeat' first | refine gq1 ?_ | with_reducible first | exact ⟨⟩ | refine zh ?_ | fail)
 refine ztm (b := []) (x := p.topic) (by omega) (by simp) ?_
 (repeat' first | refine gq31 (zd m2 hw) ?_ | with_reducible first | exact ⟨⟩ | refine zh ?_ | fail)
 refine zjH (b := zcm p.topic.length ++ p.topic) (by omega) (by simp; omega) ?_
 (repeat' first | refine gq1 ?_ | with_reducible first | exact ⟨⟩ | refine zh ?_ | fail)
 refine ztm (by omega) (by simp; omega) ?_
 (repeat' first | refine gq1 ?_ | with_reducible first | exact ⟨⟩ | refine zh ?_ | fail)
 (first | refine zaq hl ?_ | refine zap hl ?_)
 simp only [zam,zna,List.append_assoc] at hK ⊢
 exact hK
end Go.Proofs.YtncpaekiidpchaaGreat
