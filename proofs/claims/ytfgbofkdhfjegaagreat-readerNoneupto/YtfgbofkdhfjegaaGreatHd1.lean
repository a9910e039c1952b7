/- Contracts: headers, and records at their places, on both sides. -/
import Derived.Test.YtfgbofkdhfjegaaGreatMk4
import Derived.Test.YtfgbofkdhfjegaaGreatId4
import Derived.Test.YtfgbofkdhfjegaaGreatCodec1
import Derived.Test.YtfgbofkdhfjegaaGreatOpC
import Derived.Test.YtfgbofkdhfjegaaGreatSpUtf
set_option linter.all false
set_option maxRecDepth 100000
namespace Go.Proofs.YtfgbofkdhfjegaaGreat
open Go.AW
theorem ztg {σ : List zh} {x : Int} {K : KT} (hK : K (.d (.bool (zdc x))) σ) : zp Tryz.prog zin [.d (.int .i64 x)] σ K := by
 refine zeW e_r09_num fun hl => ?_
 have fin : ∀ z,zdc x = z → K (.d (.bool z)) σ := fun z h => h ▸ hK
 clear hK
 simp only [S_r09_num,iN,bT,bF,eN]
 cases h1 : decide (x ≥ 0)
 ·refine gq2 h1 ?_
  refine zT hl ?_
  exact fin _ (by simp at h1; simp [zdc]; omega)
 ·refine gq2 h1 ?_
  refine zT hl ?_
  exact fin _ (by simp at h1; simp [zdc]; omega)
theorem c_hrCheck {σ : List zh} {h : zcS} {K : KT} (hK : K (.d (.int .i64 (zba h))) σ) : zp Tryz.prog zkS [ztK h] σ K := by
 refine zeW e_r09_Check fun hl => ?_
 have fin : ∀ z,zkb h = z → K (.d (.int .i64 (if z = true then 0 else 90))) σ := fun z e => by subst e; exact hK
 clear hK
 simp only [ztv,iN,bT,bF,eN,ztK]
 refine gq1 ?_
 refine ztg ?_
 cases h1 : zdc h.seq
 ·refine gq1 ?_
  refine zT hl ?_
  exact fin false (by simp [zkb,zpQ,h1])
 refine gq1 ?_
 refine ztg ?_
 cases h2 : zdc h.prev
 ·refine gq1 ?_
  refine zT hl ?_
  exact fin false (by simp [zkb,zpQ,h2])
 refine gq1 ?_
 refine ztg ?_
 cases h3 : zdc h.batch
 ·refine gq1 ?_
  refine zT hl ?_
  exact fin false (by simp [zkb,zpQ,h3])
 refine gq1 ?_
 refine ztg ?_
 cases h4 : zdc h.root
 ·refine gq1 ?_
  refine zT hl ?_
  exact fin false (by simp [zkb,zpQ,h4])
 refine gq1 ?_
 refine ztg ?_
 cases h5 : zdc h.state
 ·refine gq1 ?_
  refine zT hl ?_
  exact fin false (by simp [zkb,zpQ,h5])
 refine gq1 ?_
 refine zT hl ?_
 exact fin true (by simp [zkb,zpQ,h1,h2,h3,h4,h5])
theorem c_blCheck {σ : List zh} {h : zcS} {K : KT} (hK : K (.d (.int .i64 (zba h))) σ) : zp Tryz.prog zhX [ztK h] σ K := by
 refine zeW zwf fun hl => ?_
 have fin : ∀ z,zkb h = z → K (.d (.int .i64 (if z = true then 0 else 90))) σ := fun z e => by subst e; exact hK
 clear hK
 simp only [zpL,iN,bT,bF,eN,ztK]
 refine gq1 ?_
 have hg : ∀ (k : Nat) x,(zpQ h)[k]? = some x → [[D.int .i64 h.seq], [D.int .i64 h.prev], [D.int .i64 h.batch], [D.int .i64 h.root], [D.int .i64 h.state]][k]? = some [D.int .i64 x] := fun k x hx => by
  have := zS (f := fun t => [D.int .i64 t]) hx
  simpa [zpQ] using this
 have hl5 : (zpQ h).length = 5 := rfl
 unfold zkb at fin
 obtain ⟨l,hlq⟩ : ∃ l,zpQ h = l := ⟨_,rfl⟩
 rw [hlq] at fin hl5 hg
 refine zr 5 (fun k vs s => vs = [.d (.int .i64 k)] ∧ (∃ T,s = σ ++ T) ∧ (l.take k).all zdc = true) ⟨rfl,⟨_,rfl⟩,by simp⟩ ?_
 rintro k vs s hk ⟨rfl,⟨T,rfl⟩,hok⟩
 by_cases hlt : k < 5
 ·have hd : decide ((k : Int) < ((5 : Nat) : Int)) = true := by simp; omega
  have hx : l[k]? = some (l[k]'(by omega)) := List.getElem?_eq_getElem _
  have hgx := hg k _ hx
  obtain ⟨x,hxe⟩ : ∃ x,(l[k]'(by omega)) = x := ⟨_,rfl⟩
  rw [hxe] at hx hgx
  have bad : zdc x = false → l.all zdc = false := fun h => by
   rw [Bool.eq_false_iff]
   intro hall
   have := List.all_eq_true.1 hall x (List.mem_of_getElem? hx)
   rw [h] at this; cases this
  cases h1 : decide (x < 0)
  ·cases h2 : decide (x > 9007199254740992)
   ·refine gq2 (zf hd (zf hgx (zf h1 (zf h2 (wki k (by omega)))))) ?_
    refine zaG.next hlt ⟨rfl,⟨_,rfl⟩, ?_⟩
    rw [List.take_add_one,hx]
    simp only [List.all_append,hok,Option.toList_some,List.all_cons,List.all_nil,Bool.true_and,Bool.and_true]
    simp at h1 h2
    simp [zdc]; omega
   ·refine gq2 (zf hd (zf hgx (zf h1 h2))) ?_
    refine zT hl ?_
    exact fin false (bad (by simp at h2; simp [zdc]; omega))
  ·refine gq2 (zf hd (zf hgx h1)) ?_
   refine zT hl ?_
   exact fin false (bad (by simp at h1; simp [zdc]; omega))
 ·have hd : decide ((k : Int) < ((5 : Nat) : Int)) = false := by simp; omega
  rw [List.take_of_length_le (by omega)] at hok
  refine gq2 hd ?_
  refine zT hl ?_
  exact fin true hok
theorem c_blBytes {σ : List zh} {h : zcS} {K : KT} (hK : K (.tup [.d (.slice (bcs (hdrBF h))), .d (.int .i64 (zba h))]) σ) : zp Tryz.prog zhY [ztK h] σ K := by
 refine zeW zwh fun hl => ?_
 simp only [zpN,iN,bT,bF,eN,ztK]
 refine gq1 ?_
 refine c_blCheck (h := h) ?_
 cases hk : (zba h == 0)
 ·have hk' : (zba h != 0) = true := by simpa using hk
  have hk0 : ¬ zba h = 0 := by simpa using hk
  refine gq2 hk' ?_
  refine zT hl ?_
  rw [hdrBF,if_neg hk0] at hK
  exact hK
 have hk0 : zba h = 0 := by simpa using hk
 have hr := zhg (zdU.1 hk0)
 rw [hdrBF,if_pos hk0,hk0] at hK
 rw [hk0]
 refine gq2 (show ((0 : Int) != 0) = false from rfl) ?_
 have hg : ∀ (k : Nat) x,(zpQ h)[k]? = some x → [[D.int .i64 h.seq], [D.int .i64 h.prev], [D.int .i64 h.batch], [D.int .i64 h.root], [D.int .i64 h.state]][k]? = some [D.int .i64 x] := fun k x hx => by
  have := zS (f := fun t => [D.int .i64 t]) hx
  simpa [zpQ] using this
 have hl5 : (zpQ h).length = 5 := rfl
 unfold zpe at hK
 obtain ⟨l,hlq⟩ : ∃ l,zpQ h = l := ⟨_,rfl⟩
 rw [hlq] at hK hl5 hg hr
 refine zr 5 (fun k vs s => (∃ x,vs = [x, .d (.int .i64 k)] ∧ (x = .exact (bcs (3 :: zhU (l.take k))) ∨ ∃ t,x = .own t (bcs (3 :: zhU (l.take k))))) ∧ ∃ T,s = σ ++ T) ⟨⟨_,rfl, .inl rfl⟩,_,rfl⟩ ?_
 rintro k vs s hk ⟨⟨y,rfl,hy⟩,T,rfl⟩
 by_cases hlt : k < 5
 ·have hd : decide ((k : Int) < ((5 : Nat) : Int)) = true := by simp; omega
  have hx : l[k]? = some (l[k]'(by omega)) := List.getElem?_eq_getElem _
  have hgx := hg k _ hx
  obtain ⟨x,hxe⟩ : ∃ x,(l[k]'(by omega)) = x := ⟨_,rfl⟩
  rw [hxe] at hx hgx
  have hxr := hr x (List.mem_of_getElem? hx)
  have hw : IntKind.u64.wrap x = ((x.toNat : Nat) : Int) := by
   rw [show x = ((x.toNat : Nat) : Int) by omega,zcQ (by omega)]; rfl
  have hln := zmb (l := l.take k) (fun y hy => by have := hr y (List.mem_of_mem_take hy); omega)
  have hlk : (l.take k).length = k := by rw [List.length_take]; omega
  have hbl : (3 :: zhU (l.take k)).length ≤ 1073741824 := by rw [List.length_cons]; omega
  rcases hy with rfl | ⟨t,rfl⟩
  all_goals
   refine gq2 (zf hd (zf hgx hw)) ?_
   refine zlp (b := 3 :: zhU (l.take k)) (by omega) hbl ?_
   refine gq2 (wki k (by omega)) ?_
   exact zaG.next hlt ⟨⟨_,rfl, .inr ⟨_,by rw [zmW hx]⟩⟩,_,rfl⟩
 ·have hd : decide ((k : Int) < ((5 : Nat) : Int)) = false := by simp; omega
  rw [List.take_of_length_le (by omega)] at hy
  rcases hy with rfl | ⟨t,rfl⟩
  all_goals
   refine gq2 hd ?_
   refine zT hl ?_
   exact hK
theorem c_hrBytes {σ : List zh} {h : zcS} {K : KT} (hK : K (.tup [.d (.slice (bcs (hdrBF h))), .d (.int .i64 (zba h))]) σ) : zp Tryz.prog zoa [ztK h] σ K := by
 refine zeW e_r09_Bytes fun hl => ?_
 simp only [ztw,iN,bT,bF,eN,ztK]
 refine gq1 ?_
 refine c_hrCheck (h := h) ?_
 cases hk : (zba h == 0)
 ·have hk' : (zba h != 0) = true := by simpa using hk
  have hk0 : ¬ zba h = 0 := by simpa using hk
  refine gq2 hk' ?_
  refine zT hl ?_
  rw [hdrBF,if_neg hk0] at hK
  exact hK
 have hk0 : zba h = 0 := by simpa using hk
 have hr := zhg (zdU.1 hk0)
 rw [hdrBF,if_pos hk0,hk0] at hK
 rw [hk0]
 have h0 := hr h.seq (by simp [zpQ])
 have hw0 : IntKind.u64.wrap h.seq = ((h.seq.toNat : Nat) : Int) := by
  rw [show h.seq = ((h.seq.toNat : Nat) : Int) by omega,zcQ (by omega)]; rfl
 refine gq2 (zf (show ((0 : Int) != 0) = false from rfl) hw0) ?_
 refine zcY (b := [3]) (by omega) (by simp) ?_
 refine gq1 ?_
 have hg : ∀ (k : Nat) x, [h.prev,h.batch,h.root,h.state][k]? = some x → [[D.int .i64 h.prev], [D.int .i64 h.batch], [D.int .i64 h.root], [D.int .i64 h.state]][k]? = some [D.int .i64 x] := fun k x hx => by
  have := zS (f := fun t => [D.int .i64 t]) hx
  simpa using this
 have hB : zpe h = [3] ++ zcO h.seq.toNat ++ zhU [h.prev,h.batch,h.root,h.state] := by simp [zpe,zpQ,zhU]
 rw [hB] at hK
 have hr4 : ∀ x ∈ [h.prev,h.batch,h.root,h.state], 0 ≤ x ∧ x ≤ 9007199254740992 := fun x hx => hr x (by rw [zpQ]; exact List.mem_cons_of_mem _ hx)
 have hl4 : [h.prev,h.batch,h.root,h.state].length = 4 := rfl
 have hb0 : ([3] ++ zcO h.seq.toNat).length ≤ 11 := by
  have := zE (n := h.seq.toNat) (by omega)
  simp; omega
 obtain ⟨l,hlq⟩ : ∃ l, [h.prev,h.batch,h.root,h.state] = l := ⟨_,rfl⟩
 rw [hlq] at hK hl4 hg hr4
 obtain ⟨b,hbe⟩ : ∃ b, [3] ++ zcO h.seq.toNat = b := ⟨_,rfl⟩
 have hbc : zcs 3 :: bcs (zcO h.seq.toNat) = bcs b := by rw [← hbe]; rfl
 rw [hbe] at hK hb0
 rw [hbc]
 refine zr 4 (fun k vs s => (∃ t,vs = [.own t (bcs (b ++ zhU (l.take k))), .d (.int .i64 k)]) ∧ ∃ T,s = σ ++ T) ⟨⟨_,by simp [zhU]; rfl⟩,_,rfl⟩ ?_
 rintro k vs s hk ⟨⟨t,rfl⟩,T,rfl⟩
 by_cases hlt : k < 4
 ·have hd : decide ((k : Int) < ((4 : Nat) : Int)) = true := by simp; omega
  have hx : l[k]? = some (l[k]'(by omega)) := List.getElem?_eq_getElem _
  have hgx := hg k _ hx
  obtain ⟨x,hxe⟩ : ∃ x,(l[k]'(by omega)) = x := ⟨_,rfl⟩
  rw [hxe] at hx hgx
  have hxr := hr4 x (List.mem_of_getElem? hx)
  have hw : IntKind.u64.wrap x = ((x.toNat : Nat) : Int) := by
   rw [show x = ((x.toNat : Nat) : Int) by omega,zcQ (by omega)]; rfl
  have hln := zmb (l := l.take k) (fun y hy => by have := hr4 y (List.mem_of_mem_take hy); omega)
  have hlk : (l.take k).length = k := by rw [List.length_take]; omega
  have hbl : (b ++ zhU (l.take k)).length ≤ 1073741824 := by rw [List.length_append]; omega
  refine gq2 (zf hd (zf hgx hw)) ?_
  refine zcY (by omega) hbl ?_
  refine gq2 (wki k (by omega)) ?_
  exact zaG.next hlt ⟨⟨_,by rw [zmW hx]⟩,_,rfl⟩
 ·have hd : decide ((k : Int) < ((4 : Nat) : Int)) = false := by simp; omega
  rw [List.take_of_length_le (by omega)]
  refine gq2 hd ?_
  refine zT hl ?_
  exact hK
theorem max0 (x : Int) : (if 0 > x then 0 else x) = ((x.toNat : Nat) : Int) ∧ (if x > 0 then x else 0) = ((x.toNat : Nat) : Int) := by
 constructor <;> split <;> omega
theorem zln {σ : List zh} {b : List UInt8} {n : Nat} (hb : b.length ≤ 1073741000) (hn : n < 9223372036854775808) {K : KT} (hK : K (.d (.slice (bcs (b ++ zcO n)))) σ) : zp Tryz.prog zeo [.d (.slice (bcs b)), .d (.int .i64 n)] σ K := by
 refine zfY e_r07_put fun hl => ?_
 have hw : IntKind.u64.wrap (n : Int) = (n : Int) := zcQ (by omega)
 simp only [S_r07_put,iN,bT,bF,eN]
 refine gq2 hw ?_
 refine zcY (by omega) (by omega) ?_
 refine gq1 ?_
 refine zT hl ?_
 exact hK
structure zlV (p : zbb) : Prop where
 off : ziM p.offset
 topic : p.topic.length ≤ 16777216
 rec_ : p.rec_.length ≤ 16777216
theorem gq31 {A P Q : Prop} (a : A) (h : Q) (e : A → Hd Q → P := by intro a h; (repeat' first | simp -dsimp only [↓zfT, ↓zaI, ↓zbP, ↓zfV, ↓zfN, ↓zfL, ↓zfO, ↓zfM, ↓zbU, ↓zbQ, ↓zbV, ↓zbR, ↓zfP, ↓zbN, ↓zbW, ↓zbS, ↓zbX, ↓zbT, ↓zfK, ↓zfQ, ↓zbM, ↓zbY, ↓zfF, ↓zfE, ↓zfH,iN,bT,bF,eN, ↓zcJ, ↓unC, ↓zaa, ↓zK, ↓zL, ↓zO, ↓zaf, ↓zaz, ↓zcK, ↓zar, ↓zbk, ↓zR, ↓zo, ↓zj, ↓zbz, ↓zg, ↓zam, ↓zH, ↓zaV, ↓zbc, ↓ze, ↓zB, ↓zu, ↓zC, ↓zap, ↓zdk, ↓zdO, ↓zav, ↓zaF, ↓zaZ, ↓zbj, ↓zbt, ↓zA, ↓zas, ↓zM, ↓zF, ↓zae,zdP,zbI,zbC,unA,zdL,bnd,zeq,zag,zQ,zek,dm,dm1,zD,zak,zeP,zeO,zP,Q0,Q1,Q2,Q3,Q4,Q5,zW,zt,zy,zN,zJ,Q6,Q7,Q8,Q9,Q10,Q11,Q12,Q13,Q14,Nat.reduceAdd,Q15,Int.reduceToNat,Q16,Q17,Q18,Q19,Q20,reduceIte,Q21,Q22,zG,rep,zab,zfq,toD,zaq,Q23,Q24,Q25,Q26,Q27,Q28,Nat.reduceLeDiff,Q29,Nat.reduceSub,Q30,Q31,Q32,sc,Q33,Q34,Q35,Q36,Q37,Q26,Q38,Q39,zjD,zjA,zjx,zjE,zdf,zjB,zjy,zjC,zjz,zde,zdg,zjG,zjH,Bool.not_true,Bool.not_false,List.length_map,List.nil_append,m1,a] | with_reducible refine zjK ?_ | fail); exact h.go) : P := e a ⟨h⟩
theorem c_r7Placed {σ : List zh} {p : zbb} (hp : zlV p) {K : KT} (hK : K (.d (.slice (bcs (zaJ p)))) σ) : zp Tryz.prog zgO [.agg [.d (.str p.topic), .d (.int .i64 p.offset), .d (.slice (bcs p.rec_))]] σ K := by
 refine zeW zqv fun hl => ?_
 have ht := hp.topic; have hr := hp.rec_; have ho := hp.off
 have hlt := zE (n := p.topic.length) (by omega)
 have hon : p.offset.toNat < 9223372036854775808 := by have := ho.2; omega
 have hlo := zE (n := p.offset.toNat) (by omega)
 obtain ⟨m1,m2⟩ := max0 p.offset
 simp only [zkv,iN,bT,bF,eN]
 refine gq1 ?_
 refine zgS (b := []) (x := p.topic) (by omega) (by simp) ?_
 refine gq31 m2 ?_
 refine zln (b := zcO p.topic.length ++ p.topic) (by simp; omega) hon ?_
 refine gq1 ?_
 refine zgS (by omega) (by simp; omega) ?_
 refine gq1 ?_
 refine zT hl ?_
 simp only [zaJ,zoT,List.append_assoc] at hK ⊢
 exact hK
theorem c_toPlaced {σ : List zh} {p : zbb} (hp : zlV p) {K : KT} (hK : K (.d (.slice (bcs (zaJ p)))) σ) : zp Tryz.prog zeK [.agg [.d (.str p.topic), .d (.int .i64 p.offset), .d (.slice (bcs p.rec_))]] σ K := by
 refine zeW znm fun hl => ?_
 have ht := hp.topic; have hr := hp.rec_; have ho := hp.off
 have hlt := zE (n := p.topic.length) (by omega)
 have hon : p.offset.toNat < 9223372036854775808 := by have := ho.2; omega
 have hlo := zE (n := p.offset.toNat) (by omega)
 obtain ⟨m1,m2⟩ := max0 p.offset
 have m3 : (if p.offset > 0 then p.offset else 0) = ((p.offset.toNat : Nat) : Int) := m2
 have hw : IntKind.u64.wrap ((p.offset.toNat : Nat) : Int) = ((p.offset.toNat : Nat) : Int) := zcQ (by omega)
 simp only [zhI,iN,bT,bF,eN]
 refine gq1 ?_
 refine zvb (b := []) (x := p.topic) (by omega) (by simp) ?_
 refine gq31 (zf m2 hw) ?_
 refine zlp (b := zcO p.topic.length ++ p.topic) (by omega) (by simp; omega) ?_
 refine gq1 ?_
 refine zvb (by omega) (by simp; omega) ?_
 refine gq1 ?_
 refine zT hl ?_
 simp only [zaJ,zoT,List.append_assoc] at hK ⊢
 exact hK
theorem hdr_seq {h : zcS} (hk : zba h = 0) : 0 ≤ h.seq ∧ h.seq ≤ 9007199254740992 := zhg (zdU.1 hk) h.seq (by simp [zpQ])
theorem checkHF_ne {h : zcS} (hk : (zba h == 0) = false) : zkb h = false := by
 cases e : zkb h with
 | false => rfl
 | true => rw [zdU.2 e] at hk; cases hk
def aheadF (l : List zcS) : Nat → Option zcS
 | 0 => none
 | k + 1 => l[k]?
theorem zkq {l : List zcS} {k : Nat} {h : zcS} (hx : l[k]? = some h) : aheadF l (k + 1) = some h := hx
theorem zvR {h : zcS} (hk : zba h = 0) : hdrBF h = zpe h := if_pos hk
theorem c_blMade {σ : List zh} {id m t : Nat} {L : List (List UInt8)} (hT : zdh σ id m t L) (hL : zlT L) {K : KT} (hK : K (.d (.bool true)) σ) : zp Tryz.prog zmk [.box id 0] σ K := by
 refine zeW e_block_made fun hl => ?_
 simp only [zrm,iN,bT,bF,eN]
 refine gq1 ?_
 refine znh hT hL.nd hL.len hL.each ?_
 refine gq1 ?_
 refine zT hl ?_
 exact hK
theorem zrt {A P Q : Prop} (a : A) (h : Q) (e : A → Hd Q → P := by intro a h; (repeat' first | simp -dsimp only [↓zfT, ↓zaI, ↓zbP, ↓zfV, ↓zfN, ↓zfL, ↓zfO, ↓zfM, ↓zbU, ↓zbQ, ↓zbV, ↓zbR, ↓zfP, ↓zbN, ↓zbW, ↓zbS, ↓zbX, ↓zbT, ↓zfK, ↓zfQ, ↓zbM, ↓zbY, ↓zfF, ↓zfE, ↓zfH,iN,bT,bF,eN, ↓zcJ, ↓unC, ↓zaa, ↓zK, ↓zL, ↓zO, ↓zaf, ↓zaz, ↓zcK, ↓zar, ↓zbk, ↓zR, ↓zo, ↓zj, ↓zbz, ↓zg, ↓zam, ↓zH, ↓zaV, ↓zbc, ↓ze, ↓zB, ↓zu, ↓zC, ↓zap, ↓zdk, ↓zdO, ↓zav, ↓zaF, ↓zaZ, ↓zbj, ↓zbt, ↓zA, ↓zas, ↓zM, ↓zF, ↓zae,zdP,zbI,zbC,unA,zdL,bnd,zeq,zag,zQ,zek,dm,dm1,zD,zak,zeP,zeO,zP,Q0,Q1,Q2,Q3,Q4,Q5,zW,zt,zy,zN,zJ,Q6,Q7,Q8,Q9,Q10,Q11,Q12,Q13,Q14,Nat.reduceAdd,Q15,Int.reduceToNat,Q16,Q17,Q18,Q19,Q20,reduceIte,Q21,Q22,zG,rep,zab,zfq,toD,zaq,Q23,Q24,Q25,Q26,Q27,Q28,Nat.reduceLeDiff,Q29,Nat.reduceSub,Q30,Q31,Q32,sc,Q33,Q34,Q35,Q36,Q37,Q26,Q38,Q39,zjD,zjA,zjx,zjE,zdf,zjB,zjy,zjC,zjz,zde,zdg,zjG,zjH,Bool.not_true,Bool.not_false,List.length_map,Bool.and_false,Bool.and_self,Bool.false_and,Bool.not_false,Bool.not_true,Bool.true_and,Int.toNat_natCast,Int.toNat_zero,List.drop_zero,List.length_map,List.length_nil,List.nil_append,List.take_length,Nat.sub_zero,Nat.zero_add,Option.isSome_none,Option.isSome_some,Option.map_none,Option.map_some,zaH,beq_self_eq_true,bne_self_eq_false,a] | with_reducible refine zjK ?_ | fail); exact h.go) : P := e a ⟨h⟩
theorem c_blChain {σ : List zh} {id m t : Nat} {L : List (List UInt8)} {l : List zcS} (hT : zdh σ id m t L) (hL : zlT L) (hl0 : l.length ≤ 1073741824) {K : KT} (hK : K (.d (.bool (zuT L l))) σ) :
  zp Tryz.prog zlb [.box id 0, .d (.slice (ziO l))] σ K := by
 refine zfY zwg fun hl => ?_
 have fin : ∀ z,zuT L l = z → K (.d (.bool z)) σ := fun z h => h ▸ hK
 clear hK
 have hlen : (ziO l).length = l.length := List.length_map ..
 simp only [zpM,iN,bT,bF,eN]
 refine gq1 ?_
 refine c_blMade hT hL ?_
 refine gq2 hlen ?_
 refine zr l.length (fun k vs s => vs = [.d (.int .i64 k)] ∧ (∃ T,s = σ ++ T) ∧ zuT L l = ztc L (aheadF l k) (l.drop k) ∧ ∀ q,aheadF l k = some q → zba q = 0) ⟨rfl,⟨[],by simp⟩,rfl,by simp [aheadF]⟩ ?_
 rintro k vs s hk ⟨rfl,⟨T,rfl⟩,hpf,hq⟩
 by_cases hlt : k < l.length
 ·have hd : decide ((k : Int) < (l.length : Int)) = true := by simp; omega
  have hx : l[k]? = some l[k] := by simp [hlt]
  have hgx := zS (f := hdrD) hx
  obtain ⟨h,hhe⟩ : ∃ h,l[k] = h := ⟨_,rfl⟩
  rw [hhe] at hx hgx
  rw [chain_drop hx] at hpf
  refine gq2 (zf hd (zf hgx hlen)) ?_
  refine c_blCheck (h := h) ?_
  cases hc : (zba h == 0)
  ·have hc' : (zba h != 0) = true := by simpa using hc
   refine gq2 hc' ?_
   refine zT hl ?_
   exact fin _ (by rw [hpf,checkHF_ne hc]; rfl)
  have hc0 : zba h = 0 := by simpa using hc
  have hhs := hdr_seq hc0
  rw [zdU.1 hc0,Bool.true_and] at hpf
  rw [hc0]
  cases k with
  | zero =>
   refine gq2 (zf (show ((0 : Int) != 0) = false from rfl) (zf (show (((0 : Nat) : Int) == 0) = true from rfl) (wki 0 (by omega)))) ?_
   refine zaG.next hlt ⟨rfl,⟨_,rfl⟩, ?_, ?_⟩
   ·rw [hpf]; simp [aheadF,linkF,hx]
   ·intro q hq2
    rw [zkq hx] at hq2
    cases hq2; exact hc0
  | succ j =>
   have hz : (((j + 1 : Nat) : Int) == 0) = false := by simp; omega
   have hy : l[j]? = some l[j] := by simp [show j < l.length by omega]
   have hgy := zS (f := hdrD) hy
   obtain ⟨q,hqe⟩ : ∃ q,l[j] = q := ⟨_,rfl⟩
   rw [hqe] at hy hgy
   have hqc := hq q (zkq hy)
   have hqs := hdr_seq hqc
   have hw1 : IntKind.i64.wrap (((j + 1 : Nat) : Int) - 1) = (j : Int) := by rw [zac (by omega) (by omega)]; omega
   have hw2 : IntKind.i64.wrap (h.seq - 1) = h.seq - 1 := zac (by omega) (by omega)
   have hw3 := wki (j + 1) (by omega)
   rw [zkq hy] at hpf
   refine gq2 (zf (show ((0 : Int) != 0) = false from rfl) (zf hz (zf hw1 (zf hgy hlen)))) ?_
   refine c_blBytes (h := q) ?_
   rw [zvR hqc,hqc]
   refine gq1 ?_
   refine zoz (hT.app _) ?_
   cases hlk : zcW L (zpe q) with
   | none =>
    refine gq5 ?_
    refine zT hl ?_
    exact fin _ (by rw [hpf]; simp [linkF,hlk])
   | some i =>
    simp only [linkF,hlk] at hpf
    simp only [zjU]
    cases h1 : (h.prev == ((i + 1 : Nat) : Int))
    ·have h1' : (h.prev != ((i + 1 : Nat) : Int)) = true := by simpa using h1
     refine zrt (zf hgx h1') ?_
     refine zT hl ?_
     exact fin _ (by rw [hpf,h1]; rfl)
    have h1' : (h.prev != ((i + 1 : Nat) : Int)) = false := by simpa using h1
    have e2 : (h.seq - 1 != q.seq) = !(h.seq == q.seq + 1) := by
     rw [Bool.eq_iff_iff]
     simp only [bne_iff_ne,Bool.not_eq_true',beq_eq_false_iff_ne,ne_eq]
     omega
    cases h2 : (h.seq == q.seq + 1)
    ·rw [h2] at e2
     refine zrt (zf hgx (zf hgy (zf hw1 (zf hw2 (zf h1' e2))))) ?_
     refine zT hl ?_
     exact fin _ (by rw [hpf,h1,h2]; rfl)
    rw [h2] at e2
    refine zrt (zf hgx (zf hgy (zf hw1 (zf hw2 (zf h1' (zf e2 hw3)))))) ?_
    refine zaG.next hlt ⟨rfl,⟨_,rfl⟩, ?_, ?_⟩
    ·rw [hpf,h1,h2,zkq hx]; rfl
    ·intro q2 hq2
     rw [zkq hx] at hq2
     cases hq2; exact hc0
 ·have hd : decide ((k : Int) < (l.length : Int)) = false := by simp; omega
  rw [List.drop_eq_nil_of_le (by omega)] at hpf
  refine gq2 (zf hd hlen) ?_
  refine zT hl ?_
  exact fin _ hpf
theorem zuX {σ : List zh} {l : List zbb} (hl0 : l.length ≤ 1073741824) (hp : ∀ p ∈ l,zlV p) {K : KT} (hK : K (.d (.slice (zgZ (l.map zaJ)))) σ) : zp Tryz.prog ziX [.d (.slice (zbm l))] σ K := by
 refine zeW e_r09_Leaves fun hl => ?_
 have hlen : (zbm l).length = l.length := List.length_map ..
 simp only [zrd,iN,bT,bF,eN]
 refine zcu l.length (fun k vs s => vs = [.own σ.length (zgZ ((l.take k).map zaJ)), .d (.int .i64 k)] ∧ ∃ T,s = σ ++ (.tok 1 k :: T)) (.tok 0 [] 1 rfl (by simp) (.refl _ _)) ⟨by simp, [],rfl⟩ ?_
 rintro k vs s hk ⟨rfl,T,rfl⟩
 by_cases hlt : k < l.length
 ·have hd : decide ((k : Int) < (l.length : Int)) = true := by simp; omega
  have hx : l[k]? = some l[k] := by simp [hlt]
  have hpx := hp _ (List.getElem_mem hlt)
  have hgx := zS (f := zgf) hx
  obtain ⟨p,hpe⟩ : ∃ p,l[k] = p := ⟨_,rfl⟩
  rw [hpe] at hx hgx hpx
  have hnx : zgZ ((l.take k).map zaJ) ++ [[D.slice (bcs (zaJ p))]] = zgZ ((l.take (k + 1)).map zaJ) := by
   rw [List.take_add_one,hx]; simp
  have hk2 : (zgZ ((l.take k).map zaJ)).length = k := by simp; omega
  refine gq2 (zf hd (zf hgx hlen)) ?_
  refine c_r7Placed hpx ?_
  refine gq2 (zf hk2 (zf hnx (wki k (by omega)))) ?_
  exact zaG.next hlt ⟨rfl,_,rfl⟩
 ·have hd : decide ((k : Int) < (l.length : Int)) = false := by simp; omega
  rw [List.take_of_length_le (by omega)]
  refine gq2 (zf hd hlen) ?_
  refine zT hl ?_
  exact hK
def hdigE (L : List (List UInt8)) (h : zcS) : Int := if zba h ≠ 0 then zba h else if zdw L (zpe h) = 0 then 6 else 0
def zlf (L : List (List UInt8)) (h : zcS) : Int := if zba h ≠ 0 then 0 else zdw L (zpe h)
def zeF (L : List (List UInt8)) (h : zcS) : List (List UInt8) := if zba h ≠ 0 then L else zeI L (zpe h)
theorem zva {σ : List zh} {id : Nat} {L : List (List UInt8)} {h : zcS} (hT : σ[id]? = some (rtO L)) (hL : L.length ≤ 1048576) {K : KT}
  (hK : K (.tup [.d (.int .i64 (zlf L h)), .d (.int .i64 (hdigE L h))]) (σ.set id (rtO (zeF L h)))) : zp Tryz.prog ziY [.box id 0,ztK h] σ K := by
 refine zfY e_r09_Digest fun hl => ?_
 simp only [zre,iN,bT,bF,eN,ztK]
 refine gq1 ?_
 refine c_hrBytes (h := h) ?_
 cases hc : (zba h == 0)
 ·have hc' : (zba h != 0) = true := by simpa using hc
  have hc0 : zba h ≠ 0 := by simpa using hc
  simp only [hdigE,zlf,zeF,if_pos hc0] at hK
  rw [zbq hT] at hK
  refine gq2 hc' ?_
  refine zT hl ?_
  exact hK
 have hc0 : zba h = 0 := by simpa using hc
 have hbl := hdrB_len (zdU.1 hc0)
 simp only [hdigE,zlf,zeF,hc0,ne_eq,not_true_eq_false,if_false] at hK
 rw [zvR hc0,hc0]
 refine gq2 (show ((0 : Int) != 0) = false from rfl) ?_
 refine zlm (zd hT) (by omega) hL ?_
 rw [zcd hT]
 have hl1 : zfn σ.length (σ.set id (rtO (zeI L (zpe h)))) := hl.setO (zfs _ _)
 have hs1 : (σ.set id (rtO (zeI L (zpe h)))).length = σ.length := by simp
 obtain ⟨S1,hS1⟩ : ∃ S1, σ.set id (rtO (zeI L (zpe h))) = S1 := ⟨_,rfl⟩
 rw [hS1] at hK hs1 hl1 ⊢
 by_cases hz : zdw L (zpe h) = 0
 ·rw [if_pos hz,hz] at hK
  rw [hz]
  refine gq2 (show ((0 : Int) == 0) = true from rfl) ?_
  refine zef hs1 ?_ hl1 ?_
  ·simp [zeU,dmT,dm,dm1,zcC,zbL,zeV]
  ·exact hK
 ·have hq : (zdw L (zpe h) == 0) = false := by simpa using hz
  rw [if_neg hz] at hK
  refine gq2 hq ?_
  refine zef hs1 ?_ hl1 ?_
  ·simp [zeU,dmT,dm,dm1,zcC,zbL,zeV]
  ·exact hK
end Go.Proofs.YtfgbofkdhfjegaaGreat

/- Which proofs may be: the first error of all that is asked. No program in sight. -/
namespace Go.AW
def zcD : List Int → Int
 | [] => 0
 | e :: r => if e ≠ 0 then e else zcD r
theorem zia (a b : List Int) : zcD (a ++ b) = if zcD a ≠ 0 then zcD a else zcD b := by
 induction a with
 | nil => simp [zcD]
 | cons e r ih =>
  simp only [List.cons_append,zcD,ih]
  by_cases h : e = 0
  ·simp [h]
  ·simp [h]
theorem zsG {a b : List Int} (h : zcD a ≠ 0) : zcD (a ++ b) = zcD a := by rw [zia,if_pos h]
def zhT (e x : Int) : Int := if e ≠ 0 then e else x
theorem thn_fst (e : Int) (l : List Int) : zhT e (zcD l) = zcD (e :: l) := rfl
def inE (n lo hi : Int) : Int := if n < lo ∨ n > hi then 100 else 0
def ziN (n : Int) : Int := inE n 0 9007199254740992
def zvL (n : Int) : Int := inE n 1 9007199254740992
def ztP (s : List UInt8) : Int := if zdZ s = true then 0 else 61
def zmS (l : List zI) : List Int := inE l.length 0 13 :: l.map fun s => zah s.key s.dig
def ziB (c : zff) : Int := if ((c.seq = 0) ≠ (c.dig = 0)) ∨ (c.seq = 0 ∧ 0 < c.signs.length) then 100 else 0
def zhx (c : zff) : List Int := ziN c.seq :: ziN c.dig :: ziB c :: zmS c.signs
def zjb (h : zcS) : List Int := [zvL h.seq,ziN h.prev,ziN h.batch,ziN h.root,ziN h.state]
structure zcf where
 topic : List UInt8
 offset : Int
 rec_ : List UInt8
 headers : List zcS
 index : Int
 count : Int
 path : List Int
 cert : zff
abbrev proofD (p : zcf) : List D := [.str p.topic, .int .i64 p.offset, .slice (bcs p.rec_), .slice (ziO p.headers), .int .i64 p.index, .int .i64 p.count, .slice (zdK p.path), .int .i64 p.cert.seq, .int .i64 p.cert.dig, .slice (zbd p.cert.signs)]
abbrev zhy (p : zcf) : AV := .agg [.d (.str p.topic), .d (.int .i64 p.offset), .d (.slice (bcs p.rec_)), .d (.slice (ziO p.headers)), .d (.int .i64 p.index), .d (.int .i64 p.count), .d (.slice (zdK p.path)), .d (.int .i64 p.cert.seq), .d (.int .i64 p.cert.dig), .d (.slice (zbd p.cert.signs))]
abbrev zox (c : zff) : AV := .agg [.d (.int .i64 c.seq), .d (.int .i64 c.dig), .d (.slice (zbd c.signs))]
def zge (p : zcf) : List Int := [ztP p.topic,ziN p.offset,inE p.rec_.length 0 64,inE p.headers.length 0 64]
def zcU (p : zcf) : List Int := [ziN p.index,inE p.count 0 16]
def zjS (p : zcf) : List Int := [inE p.index 0 (p.count - 1),inE p.path.length 0 8]
def ziV (p : zcf) : List Int := zge p ++ ((p.headers.map zjb).flatten ++ (zcU p ++ (zjS p ++ (p.path.map ziN ++ zhx p.cert))))
def zgs (p : zcf) : Int := zcD (ziV p)
theorem inE_0 {n lo hi : Int} (h : inE n lo hi = 0) : lo ≤ n ∧ n ≤ hi := by
 unfold inE at h
 split at h
 ·cases h
 ·omega
end Go.AW
