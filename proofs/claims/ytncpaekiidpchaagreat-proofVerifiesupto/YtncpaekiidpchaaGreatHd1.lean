/- Contracts: headers, and records at their places, on both sides. -/
import Derived.Test.YtncpaekiidpchaaGreatMk5
import Derived.Test.YtncpaekiidpchaaGreatId4
import Derived.Test.YtncpaekiidpchaaGreatCodec1
set_option linter.all false
set_option maxRecDepth 100000
namespace Go.Proofs.YtncpaekiidpchaaGreat
open Go.AW
theorem zsr {σ : List zh} {x : Int} {K : KT} (hK : K (.d (.bool (zdq x))) σ) : zy Tryz.prog zhp [.d (.int .i64 x)] σ K := by
 refine zi e_r09_num.is rfl fun hl _ => e_r09_num.goes ?_
 have fin : ∀ z,zdq x = z → K (.d (.bool z)) σ := fun z h => h ▸ hK
 clear hK
 simp only [S_r09_num,iN,bT,bF,eN]
 cases h1 : decide (x ≥ 0)
 ·(repeat' first | refine gq2 h1 ?_ | with_reducible first | exact ⟨⟩ | refine zg ?_ | fail)
  (first | refine zX hl ?_ | refine zW hl ?_)
  exact fin _ (by simp at h1; simp [zdq]; omega)
 ·(repeat' first | refine gq2 h1 ?_ | with_reducible first | exact ⟨⟩ | refine zg ?_ | fail)
  (first | refine zX hl ?_ | refine zW hl ?_)
  exact fin _ (by simp at h1; simp [zdq]; omega)
theorem zss {σ : List zh} {h : zeb} {K : KT} (hK : K (.d (.int .i64 (zaG h))) σ) : zy Tryz.prog zhq [ztJ h] σ K := by
 refine zi zrV.is rfl fun hl _ => zrV.goes ?_
 have fin : ∀ z,zkS h = z → K (.d (.int .i64 (if z = true then 0 else 90))) σ := fun z e => by subst e; exact hK
 clear hK
 simp only [zsG,iN,bT,bF,eN,ztJ]
 (repeat' first | refine gq1 ?_ | with_reducible first | exact ⟨⟩ | refine zg ?_ | fail)
 refine zsr ?_
 cases h1 : zdq h.seq
 ·(repeat' first | refine gq1 ?_ | with_reducible first | exact ⟨⟩ | refine zg ?_ | fail)
  (first | refine zX hl ?_ | refine zW hl ?_)
  exact fin false (by simp [zkS,zqJ,h1])
 (repeat' first | refine gq1 ?_ | with_reducible first | exact ⟨⟩ | refine zg ?_ | fail)
 refine zsr ?_
 cases h2 : zdq h.prev
 ·(repeat' first | refine gq1 ?_ | with_reducible first | exact ⟨⟩ | refine zg ?_ | fail)
  (first | refine zX hl ?_ | refine zW hl ?_)
  exact fin false (by simp [zkS,zqJ,h2])
 (repeat' first | refine gq1 ?_ | with_reducible first | exact ⟨⟩ | refine zg ?_ | fail)
 refine zsr ?_
 cases h3 : zdq h.batch
 ·(repeat' first | refine gq1 ?_ | with_reducible first | exact ⟨⟩ | refine zg ?_ | fail)
  (first | refine zX hl ?_ | refine zW hl ?_)
  exact fin false (by simp [zkS,zqJ,h3])
 (repeat' first | refine gq1 ?_ | with_reducible first | exact ⟨⟩ | refine zg ?_ | fail)
 refine zsr ?_
 cases h4 : zdq h.root
 ·(repeat' first | refine gq1 ?_ | with_reducible first | exact ⟨⟩ | refine zg ?_ | fail)
  (first | refine zX hl ?_ | refine zW hl ?_)
  exact fin false (by simp [zkS,zqJ,h4])
 (repeat' first | refine gq1 ?_ | with_reducible first | exact ⟨⟩ | refine zg ?_ | fail)
 refine zsr ?_
 cases h5 : zdq h.state
 ·(repeat' first | refine gq1 ?_ | with_reducible first | exact ⟨⟩ | refine zg ?_ | fail)
  (first | refine zX hl ?_ | refine zW hl ?_)
  exact fin false (by simp [zkS,zqJ,h5])
 (repeat' first | refine gq1 ?_ | with_reducible first | exact ⟨⟩ | refine zg ?_ | fail)
 (first | refine zX hl ?_ | refine zW hl ?_)
 exact fin true (by simp [zkS,zqJ,h1,h2,h3,h4,h5])
theorem c_blCheck {σ : List zh} {h : zeb} {K : KT} (hK : K (.d (.int .i64 (zaG h))) σ) : zy Tryz.prog zgY [ztJ h] σ K := by
 refine zi zoi.is rfl fun hl _ => zoi.goes ?_
 have fin : ∀ z,zkS h = z → K (.d (.int .i64 (if z = true then 0 else 90))) σ := fun z e => by subst e; exact hK
 clear hK
 simp only [zoL,iN,bT,bF,eN,ztJ]
 (repeat' first | refine gq1 ?_ | with_reducible first | exact ⟨⟩ | refine zg ?_ | fail)
 have hg : ∀ (k : Nat) x,(zqJ h)[k]? = some x → [[D.int .i64 h.seq], [D.int .i64 h.prev], [D.int .i64 h.batch], [D.int .i64 h.root], [D.int .i64 h.state]][k]? = some [D.int .i64 x] := fun k x hx => by
  have := zU (f := fun t => [D.int .i64 t]) hx
  simpa [zqJ] using this
 have hl5 : (zqJ h).length = 5 := rfl
 unfold zkS at fin
 obtain ⟨l,hlq⟩ : ∃ l,zqJ h = l := ⟨_,rfl⟩
 rw [hlq] at fin hl5 hg
 refine zB 5 (fun k vs s => vs = [.d (.int .i64 k)] ∧ (∃ T,s = σ ++ T) ∧ (l.take k).all zdq = true) ⟨rfl,⟨_,rfl⟩,by simp⟩ ?_
 rintro k vs s hk ⟨rfl,⟨T,rfl⟩,hok⟩
 by_cases hlt : k < 5
 ·have hd : decide ((k : Int) < ((5 : Nat) : Int)) = true := by simp; omega
  have hx : l[k]? = some (l[k]'(by omega)) := List.getElem?_eq_getElem _
  have hgx := hg k _ hx
  obtain ⟨x,hxe⟩ : ∃ x,(l[k]'(by omega)) = x := ⟨_,rfl⟩
  rw [hxe] at hx hgx
  have bad : zdq x = false → l.all zdq = false := fun h => by
   rw [Bool.eq_false_iff]
   intro hall
   have := List.all_eq_true.1 hall x (List.mem_of_getElem? hx)
   rw [h] at this; cases this
  cases h1 : decide (x < 0)
  ·cases h2 : decide (x > 9007199254740992)
   ·(repeat' first | refine gq2 (zc hd (zc hgx (zc h1 (zc h2 (wki k (by omega)))))) ?_ | with_reducible first | exact ⟨⟩ | refine zg ?_ | fail)
    refine zap.next hlt ⟨rfl,⟨_,rfl⟩, ?_⟩
    rw [List.take_add_one,hx]
    simp only [List.all_append,hok,Option.toList_some,List.all_cons,List.all_nil,Bool.true_and,Bool.and_true]
    simp at h1 h2
    simp [zdq]; omega
   ·(repeat' first | refine gq2 (zc hd (zc hgx (zc h1 h2))) ?_ | with_reducible first | exact ⟨⟩ | refine zg ?_ | fail)
    (first | refine zX hl ?_ | refine zW hl ?_)
    exact fin false (bad (by simp at h2; simp [zdq]; omega))
  ·(repeat' first | refine gq2 (zc hd (zc hgx h1)) ?_ | with_reducible first | exact ⟨⟩ | refine zg ?_ | fail)
   (first | refine zX hl ?_ | refine zW hl ?_)
   exact fin false (bad (by simp at h1; simp [zdq]; omega))
 ·have hd : decide ((k : Int) < ((5 : Nat) : Int)) = false := by simp; omega
  rw [List.take_of_length_le (by omega)] at hok
  (repeat' first | refine gq2 hd ?_ | with_reducible first | exact ⟨⟩ | refine zg ?_ | fail)
  (first | refine zX hl ?_ | refine zW hl ?_)
  exact fin true hok
theorem c_blBytes {σ : List zh} {h : zeb} {K : KT} (hK : K (.tup [.d (.slice (bcs (hdrBF h))), .d (.int .i64 (zaG h))]) σ) : zy Tryz.prog zgZ [ztJ h] σ K := by
 refine zi zok.is rfl fun hl _ => zok.goes ?_
 simp only [zoN,iN,bT,bF,eN,ztJ]
 (repeat' first | refine gq1 ?_ | with_reducible first | exact ⟨⟩ | refine zg ?_ | fail)
 refine c_blCheck (h := h) ?_
 cases hk : (zaG h == 0)
 ·have hk' : (zaG h != 0) = true := by simpa using hk
  have hk0 : ¬ zaG h = 0 := by simpa using hk
  (repeat' first | refine gq2 hk' ?_ | with_reducible first | exact ⟨⟩ | refine zg ?_ | fail)
  (first | refine zX hl ?_ | refine zW hl ?_)
  rw [hdrBF,if_neg hk0] at hK
  exact hK
 have hk0 : zaG h = 0 := by simpa using hk
 have hr := zjb (zdt.1 hk0)
 rw [hdrBF,if_pos hk0,hk0] at hK
 rw [hk0]
 (repeat' first | refine gq2 (show ((0 : Int) != 0) = false from rfl) ?_ | with_reducible first | exact ⟨⟩ | refine zg ?_ | fail)
 have hg : ∀ (k : Nat) x,(zqJ h)[k]? = some x → [[D.int .i64 h.seq], [D.int .i64 h.prev], [D.int .i64 h.batch], [D.int .i64 h.root], [D.int .i64 h.state]][k]? = some [D.int .i64 x] := fun k x hx => by
  have := zU (f := fun t => [D.int .i64 t]) hx
  simpa [zqJ] using this
 have hl5 : (zqJ h).length = 5 := rfl
 unfold ztg at hK
 obtain ⟨l,hlq⟩ : ∃ l,zqJ h = l := ⟨_,rfl⟩
 rw [hlq] at hK hl5 hg hr
 refine zB 5 (fun k vs s => (∃ x,vs = [x, .d (.int .i64 k)] ∧ (x = .exact (bcs (3 :: zgU (l.take k))) ∨ ∃ t,x = .own t (bcs (3 :: zgU (l.take k))))) ∧ ∃ T,s = σ ++ T) ⟨⟨_,rfl, .inl rfl⟩,_,rfl⟩ ?_
 rintro k vs s hk ⟨⟨y,rfl,hy⟩,T,rfl⟩
 by_cases hlt : k < 5
 ·have hd : decide ((k : Int) < ((5 : Nat) : Int)) = true := by simp; omega
  have hx : l[k]? = some (l[k]'(by omega)) := List.getElem?_eq_getElem _
  have hgx := hg k _ hx
  obtain ⟨x,hxe⟩ : ∃ x,(l[k]'(by omega)) = x := ⟨_,rfl⟩
  rw [hxe] at hx hgx
  have hxr := hr x (List.mem_of_getElem? hx)
  have hw : IntKind.u64.wrap x = ((x.toNat : Nat) : Int) := by
   rw [show x = ((x.toNat : Nat) : Int) by omega,zcn (by omega)]; rfl
  have hln := zla (l := l.take k) (fun y hy => by have := hr y (List.mem_of_mem_take hy); omega)
  have hlk : (l.take k).length = k := by rw [List.length_take]; omega
  have hbl : (3 :: zgU (l.take k)).length ≤ 1073741824 := by rw [List.length_cons]; omega
  rcases hy with rfl | ⟨t,rfl⟩
  all_goals
   (repeat' first | refine gq2 (zc hd (zc hgx hw)) ?_ | with_reducible first | exact ⟨⟩ | refine zg ?_ | fail)
   refine zkm (b := 3 :: zgU (l.take k)) (by omega) hbl ?_
   (repeat' first | refine gq2 (wki k (by omega)) ?_ | with_reducible first | exact ⟨⟩ | refine zg ?_ | fail)
   exact zap.next hlt ⟨⟨_,rfl, .inr ⟨_,by rw [zmf hx]⟩⟩,_,rfl⟩
 ·have hd : decide ((k : Int) < ((5 : Nat) : Int)) = false := by simp; omega
  rw [List.take_of_length_le (by omega)] at hy
  rcases hy with rfl | ⟨t,rfl⟩
  all_goals
   (repeat' first | refine gq2 hd ?_ | with_reducible first | exact ⟨⟩ | refine zg ?_ | fail)
   (first | refine zX hl ?_ | refine zW hl ?_)
   exact hK
theorem zst {σ : List zh} {h : zeb} {K : KT} (hK : K (.tup [.d (.slice (bcs (hdrBF h))), .d (.int .i64 (zaG h))]) σ) : zy Tryz.prog zhr [ztJ h] σ K := by
 refine zi zrX.is rfl fun hl _ => zrX.goes ?_
 simp only [zsI,iN,bT,bF,eN,ztJ]
 (repeat' first | refine gq1 ?_ | with_reducible first | exact ⟨⟩ | refine zg ?_ | fail)
 refine zss (h := h) ?_
 cases hk : (zaG h == 0)
 ·have hk' : (zaG h != 0) = true := by simpa using hk
  have hk0 : ¬ zaG h = 0 := by simpa using hk
  (repeat' first | refine gq2 hk' ?_ | with_reducible first | exact ⟨⟩ | refine zg ?_ | fail)
  (first | refine zX hl ?_ | refine zW hl ?_)
  rw [hdrBF,if_neg hk0] at hK
  exact hK
 have hk0 : zaG h = 0 := by simpa using hk
 have hr := zjb (zdt.1 hk0)
 rw [hdrBF,if_pos hk0,hk0] at hK
 rw [hk0]
 have h0 := hr h.seq (by simp [zqJ])
 have hw0 : IntKind.u64.wrap h.seq = ((h.seq.toNat : Nat) : Int) := by
  rw [show h.seq = ((h.seq.toNat : Nat) : Int) by omega,zcn (by omega)]; rfl
 (repeat' first | refine gq2 (zc (show ((0 : Int) != 0) = false from rfl) hw0) ?_ | with_reducible first | exact ⟨⟩ | refine zg ?_ | fail)
 refine zcC (b := [3]) (by omega) (by simp) ?_
 (repeat' first | refine gq1 ?_ | with_reducible first | exact ⟨⟩ | refine zg ?_ | fail)
 have hg : ∀ (k : Nat) x, [h.prev,h.batch,h.root,h.state][k]? = some x → [[D.int .i64 h.prev], [D.int .i64 h.batch], [D.int .i64 h.root], [D.int .i64 h.state]][k]? = some [D.int .i64 x] := fun k x hx => by
  have := zU (f := fun t => [D.int .i64 t]) hx
  simpa using this
 have hB : ztg h = [3] ++ zcr h.seq.toNat ++ zgU [h.prev,h.batch,h.root,h.state] := by simp [ztg,zqJ,zgU]
 rw [hB] at hK
 have hr4 : ∀ x ∈ [h.prev,h.batch,h.root,h.state], 0 ≤ x ∧ x ≤ 9007199254740992 := fun x hx => hr x (by rw [zqJ]; exact List.mem_cons_of_mem _ hx)
 have hl4 : [h.prev,h.batch,h.root,h.state].length = 4 := rfl
 have hb0 : ([3] ++ zcr h.seq.toNat).length ≤ 11 := by
  have := zD (n := h.seq.toNat) (by omega)
  simp; omega
 obtain ⟨l,hlq⟩ : ∃ l, [h.prev,h.batch,h.root,h.state] = l := ⟨_,rfl⟩
 rw [hlq] at hK hl4 hg hr4
 obtain ⟨b,hbe⟩ : ∃ b, [3] ++ zcr h.seq.toNat = b := ⟨_,rfl⟩
 have hbc : zbO 3 :: bcs (zcr h.seq.toNat) = bcs b := by rw [← hbe]; rfl
 rw [hbe] at hK hb0
 rw [hbc]
 refine zB 4 (fun k vs s => (∃ t,vs = [.own t (bcs (b ++ zgU (l.take k))), .d (.int .i64 k)]) ∧ ∃ T,s = σ ++ T) ⟨⟨_,by simp [zgU]; rfl⟩,_,rfl⟩ ?_
 rintro k vs s hk ⟨⟨t,rfl⟩,T,rfl⟩
 by_cases hlt : k < 4
 ·have hd : decide ((k : Int) < ((4 : Nat) : Int)) = true := by simp; omega
  have hx : l[k]? = some (l[k]'(by omega)) := List.getElem?_eq_getElem _
  have hgx := hg k _ hx
  obtain ⟨x,hxe⟩ : ∃ x,(l[k]'(by omega)) = x := ⟨_,rfl⟩
  rw [hxe] at hx hgx
  have hxr := hr4 x (List.mem_of_getElem? hx)
  have hw : IntKind.u64.wrap x = ((x.toNat : Nat) : Int) := by
   rw [show x = ((x.toNat : Nat) : Int) by omega,zcn (by omega)]; rfl
  have hln := zla (l := l.take k) (fun y hy => by have := hr4 y (List.mem_of_mem_take hy); omega)
  have hlk : (l.take k).length = k := by rw [List.length_take]; omega
  have hbl : (b ++ zgU (l.take k)).length ≤ 1073741824 := by rw [List.length_append]; omega
  (repeat' first | refine gq2 (zc hd (zc hgx hw)) ?_ | with_reducible first | exact ⟨⟩ | refine zg ?_ | fail)
  refine zcC (by omega) hbl ?_
  (repeat' first | refine gq2 (wki k (by omega)) ?_ | with_reducible first | exact ⟨⟩ | refine zg ?_ | fail)
  exact zap.next hlt ⟨⟨_,by rw [zmf hx]⟩,_,rfl⟩
 ·have hd : decide ((k : Int) < ((4 : Nat) : Int)) = false := by simp; omega
  rw [List.take_of_length_le (by omega)]
  (repeat' first | refine gq2 hd ?_ | with_reducible first | exact ⟨⟩ | refine zg ?_ | fail)
  (first | refine zX hl ?_ | refine zW hl ?_)
  exact hK
theorem max0 (x : Int) : (if 0 > x then 0 else x) = ((x.toNat : Nat) : Int) ∧ (if x > 0 then x else 0) = ((x.toNat : Nat) : Int) := by
 constructor <;> split <;> omega
theorem zkl {σ : List zh} {b : List UInt8} {n : Nat} (hb : b.length ≤ 1073741000) (hn : n < 9223372036854775808) {K : KT} (hK : K (.d (.slice (bcs (b ++ zcr n)))) σ) : zy Tryz.prog zdO [.d (.slice (bcs b)), .d (.int .i64 n)] σ K := by
 refine zi e_r07_put.is rfl fun hl _ => e_r07_put.goes ?_
 have hw : IntKind.u64.wrap (n : Int) = (n : Int) := zcn (by omega)
 simp only [S_r07_put,iN,bT,bF,eN]
 (repeat' first | refine gq2 hw ?_ | with_reducible first | exact ⟨⟩ | refine zg ?_ | fail)
 refine zcC (by omega) (by omega) ?_
 (repeat' first | refine gq1 ?_ | with_reducible first | exact ⟨⟩ | refine zg ?_ | fail)
 (first | refine zX hl ?_ | refine zW hl ?_)
 exact hK
structure zjL (p : zbt) : Prop where
 off : zmF p.offset
 topic : p.topic.length ≤ 16777216
 rec_ : p.rec_.length ≤ 16777216
theorem gq32 {A P Q : Prop} (a : A) (h : Q) (e : A → P = Q := by intro a; simp -dsimp only [↓zen, ↓zaw, ↓zba, ↓zeo, ↓zej, ↓zeh, ↓zek, ↓zei, ↓zbf, ↓zbb, ↓zbg, ↓zbc, ↓zel, ↓zaZ, ↓zbh, ↓zbd, ↓zbi, ↓zbe, ↓zeg, ↓zem, ↓zaY, ↓zbj, ↓zee, ↓zed, ↓zef,iN,bT,bF,eN, ↓zcI, ↓unC, ↓zV, ↓zJ, ↓zK, ↓zN, ↓zaa, ↓zas, ↓zbH, ↓zah, ↓zaV, ↓zQ, ↓zp, ↓zo, ↓zbr, ↓zk, ↓zag, ↓zG, ↓zaB, ↓zaF, ↓ze, ↓zE, ↓zr, ↓zw, ↓zam, ↓zcs, ↓zcM, ↓zak, ↓zat, ↓zaE, ↓zaJ, ↓zaP, ↓zu, ↓zai, ↓zL, ↓zA, ↓zab,zcT,zaU,zaT,unA,zcW,bnd,zds,zae,zR,zdv,dm,dm1,zC,zaj,zdH,zdG,zM,Q0,Q1,Q2,Q3,Q4,Q5,zT,zq,zx,zO,zI,Q6,Q7,Q8,Q9,Q10,Q11,Q12,Q13,Q14,Nat.reduceAdd,Q15,Int.reduceToNat,Q16,Q17,Q18,Q19,Q20,reduceIte,Q21,Q22,zF,rep,zY,zdD,toD,zad,Q23,Q24,Q25,Q26,Q27,Q28,Nat.reduceLeDiff,Q29,Nat.reduceSub,Q30,Q31,Q32,sc,Q33,Q34,Q35,Q36,Q37,Q26,Q38,Q39,zfZ,zfW,zfT,zga,zbR,zfX,zfU,zfY,zfV,zbQ,zbS,zgb,zgc,Bool.not_true,Bool.not_false,List.length_map,List.nil_append,m1,a]; rfl) : P := (e a).mpr h
theorem zux {σ : List zh} {p : zbt} (hp : zjL p) {K : KT} (hK : K (.d (.slice (bcs (zay p)))) σ) : zy Tryz.prog zdV [.agg [.d (.str p.topic), .d (.int .i64 p.offset), .d (.slice (bcs p.rec_))]] σ K := by
 refine zi zjm.is rfl fun hl _ => zjm.goes ?_
 have ht := hp.topic; have hr := hp.rec_; have ho := hp.off
 have hlt := zD (n := p.topic.length) (by omega)
 have hon : p.offset.toNat < 9223372036854775808 := by have := ho.2; omega
 have hlo := zD (n := p.offset.toNat) (by omega)
 obtain ⟨m1,m2⟩ := max0 p.offset
 simp only [zjA,iN,bT,bF,eN]
 (repeat' first | refine gq1 ?_ | with_reducible first | exact ⟨⟩ | refine zg ?_ | fail)
 refine zfK (b := []) (x := p.topic) (by omega) (by simp) ?_
 (repeat' first | refine gq32 m2 ?_ | with_reducible first | exact ⟨⟩ | refine zg ?_ | fail)
 refine zkl (b := zcr p.topic.length ++ p.topic) (by simp; omega) hon ?_
 (repeat' first | refine gq1 ?_ | with_reducible first | exact ⟨⟩ | refine zg ?_ | fail)
 refine zfK (by omega) (by simp; omega) ?_
 (repeat' first | refine gq1 ?_ | with_reducible first | exact ⟨⟩ | refine zg ?_ | fail)
 (first | refine zX hl ?_ | refine zW hl ?_)
 simp only [zay,znI,List.append_assoc] at hK ⊢
 exact hK
theorem zus {σ : List zh} {p : zbt} (hp : zjL p) {K : KT} (hK : K (.d (.slice (bcs (zay p)))) σ) : zy Tryz.prog zcL [.agg [.d (.str p.topic), .d (.int .i64 p.offset), .d (.slice (bcs p.rec_))]] σ K := by
 refine zi zgz.is rfl fun hl _ => zgz.goes ?_
 have ht := hp.topic; have hr := hp.rec_; have ho := hp.off
 have hlt := zD (n := p.topic.length) (by omega)
 have hon : p.offset.toNat < 9223372036854775808 := by have := ho.2; omega
 have hlo := zD (n := p.offset.toNat) (by omega)
 obtain ⟨m1,m2⟩ := max0 p.offset
 have m3 : (if p.offset > 0 then p.offset else 0) = ((p.offset.toNat : Nat) : Int) := m2
 have hw : IntKind.u64.wrap ((p.offset.toNat : Nat) : Int) = ((p.offset.toNat : Nat) : Int) := zcn (by omega)
 simp only [zgJ,iN,bT,bF,eN]
 (repeat' first | refine gq1 ?_ | with_reducible first | exact ⟨⟩ | refine zg ?_ | fail)
 refine zuA (b := []) (x := p.topic) (by omega) (by simp) ?_
 (repeat' first | refine gq32 (zc m2 hw) ?_ | with_reducible first | exact ⟨⟩ | refine zg ?_ | fail)
 refine zkm (b := zcr p.topic.length ++ p.topic) (by omega) (by simp; omega) ?_
 (repeat' first | refine gq1 ?_ | with_reducible first | exact ⟨⟩ | refine zg ?_ | fail)
 refine zuA (by omega) (by simp; omega) ?_
 (repeat' first | refine gq1 ?_ | with_reducible first | exact ⟨⟩ | refine zg ?_ | fail)
 (first | refine zX hl ?_ | refine zW hl ?_)
 simp only [zay,znI,List.append_assoc] at hK ⊢
 exact hK
end Go.Proofs.YtncpaekiidpchaaGreat
