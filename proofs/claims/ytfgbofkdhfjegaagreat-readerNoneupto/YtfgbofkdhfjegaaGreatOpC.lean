/- Contracts: an operation in memory of its own. -/
import Derived.Test.YtfgbofkdhfjegaaGreatCl1
import Derived.Test.YtfgbofkdhfjegaaGreatSh
import Derived.Test.YtfgbofkdhfjegaaGreatOp1
import Derived.Test.YtfgbofkdhfjegaaGreatSpUtf
import Derived.Test.YtfgbofkdhfjegaaGreatId4
set_option linter.all false
set_option maxRecDepth 100000
namespace Go.Proofs.YtfgbofkdhfjegaaGreat
open Go.AW
def zoO (b : List zq) : Prop := b.length ≤ 1073741824 ∧ ∀ x ∈ b,x.op.recs.length ≤ 1073741824 ∧ ∀ r ∈ x.op.recs,r.length ≤ 1073741824
def zkJ (x : zq) : AV := .agg [.d (.int .i64 x.client), .d (.int .i64 x.time), .d (.int .i64 x.op.kind), .d (.str x.op.topic), .d (.str x.op.group), .d (.int .i64 x.op.offset), .d (.slice (zbZ x.op.recs)), .d (.int .i64 x.key), .d (.int .i64 x.dig)]
def reqA (x : zq) : AV := .agg [.d (.int .i64 x.client), .d (.int .i64 x.time), .d (.int .i64 x.op.kind), .d (.str x.op.topic), .d (.str x.op.group), .d (.int .i64 x.op.offset), .d (.slice (zbZ x.op.recs))]
theorem c_rKey {σ : List zh} {c : Int} {K : KT} (hK : K (.d (.int .i64 (if c < 0 ∨ c ≥ 8 then -1 else 13 + c))) σ) : zp Tryz.prog zme [.d (.int .i64 c)] σ K := by
 refine zeW e_r08_Key fun hl => ?_
 have fin : ∀ z,(if c < 0 ∨ c ≥ 8 then -1 else 13 + c) = z → K (.d (.int .i64 z)) σ := fun z h => h ▸ hK
 clear hK
 simp only [S_r08_Key,iN,bT,bF,eN]
 (repeat' (first | (refine gq22 ?_; try with_reducible exact True.intro) | (refine zaO (fun h => ?_) (fun h => ?_) <;> (try rw [h])) | ((with_reducible refine And.intro ?_ ?_); focus (first | omega | rfl | decide))))
 all_goals
  refine zT hl ?_
  (try simp only [decide_eq_true_eq,decide_eq_false_iff_not,beq_iff_eq,beq_eq_false_iff_ne,bne_iff_ne,ne_eq,Bool.not_eq_true',Bool.not_eq_false',bne_eq_false_iff_eq] at *)
 ·exact fin _ (by rw [if_pos (by omega)])
 ·exact fin _ (by rw [if_pos (by omega)])
 ·exact fin _ (by rw [if_neg (by omega),zac (by omega) (by omega)])
theorem ziv {P Q : Prop} (h : Q) (e : Hd Q → P := by intro h; (repeat' first | simp -dsimp only [↓zfT, ↓zaI, ↓zbP, ↓zfV, ↓zfN, ↓zfL, ↓zfO, ↓zfM, ↓zbU, ↓zbQ, ↓zbV, ↓zbR, ↓zfP, ↓zbN, ↓zbW, ↓zbS, ↓zbX, ↓zbT, ↓zfK, ↓zfQ, ↓zbM, ↓zbY, ↓zfF, ↓zfE, ↓zfH,iN,bT,bF,eN, ↓zcJ, ↓unC, ↓zaa, ↓zK, ↓zL, ↓zO, ↓zaf, ↓zaz, ↓zcK, ↓zar, ↓zbk, ↓zR, ↓zo, ↓zj, ↓zbz, ↓zg, ↓zam, ↓zH, ↓zaV, ↓zbc, ↓ze, ↓zB, ↓zu, ↓zC, ↓zap, ↓zdk, ↓zdO, ↓zav, ↓zaF, ↓zaZ, ↓zbj, ↓zbt, ↓zA, ↓zas, ↓zM, ↓zF, ↓zae,zdP,zbI,zbC,unA,zdL,bnd,zeq,zag,zQ,zek,dm,dm1,zD,zak,zeP,zeO,zP,Q0,Q1,Q2,Q3,Q4,Q5,zW,zt,zy,zN,zJ,Q6,Q7,Q8,Q9,Q10,Q11,Q12,Q13,Q14,Nat.reduceAdd,Q15,Int.reduceToNat,Q16,Q17,Q18,Q19,Q20,reduceIte,Q21,Q22,zG,rep,zab,zfq,toD,zaq,Q23,Q24,Q25,Q26,Q27,Q28,Nat.reduceLeDiff,Q29,Nat.reduceSub,Q30,Q31,Q32,sc,Q33,Q34,Q35,Q36,Q37,Q26,Q38,Q39,zjD,zjA,zjx,zjE,zdf,zjB,zjy,zjC,zjz,zde,zdg,zjG,zjH,Bool.not_true,Bool.not_false,List.length_map] | with_reducible refine zjK ?_ | fail); exact h.go) : P := e ⟨h⟩
theorem zbA {A P Q : Prop} (a : A) (h : Q) (e : A → Hd Q → P := by intro a h; (repeat' first | simp -dsimp only [↓zfT, ↓zaI, ↓zbP, ↓zfV, ↓zfN, ↓zfL, ↓zfO, ↓zfM, ↓zbU, ↓zbQ, ↓zbV, ↓zbR, ↓zfP, ↓zbN, ↓zbW, ↓zbS, ↓zbX, ↓zbT, ↓zfK, ↓zfQ, ↓zbM, ↓zbY, ↓zfF, ↓zfE, ↓zfH,iN,bT,bF,eN, ↓zcJ, ↓unC, ↓zaa, ↓zK, ↓zL, ↓zO, ↓zaf, ↓zaz, ↓zcK, ↓zar, ↓zbk, ↓zR, ↓zo, ↓zj, ↓zbz, ↓zg, ↓zam, ↓zH, ↓zaV, ↓zbc, ↓ze, ↓zB, ↓zu, ↓zC, ↓zap, ↓zdk, ↓zdO, ↓zav, ↓zaF, ↓zaZ, ↓zbj, ↓zbt, ↓zA, ↓zas, ↓zM, ↓zF, ↓zae,zdP,zbI,zbC,unA,zdL,bnd,zeq,zag,zQ,zek,dm,dm1,zD,zak,zeP,zeO,zP,Q0,Q1,Q2,Q3,Q4,Q5,zW,zt,zy,zN,zJ,Q6,Q7,Q8,Q9,Q10,Q11,Q12,Q13,Q14,Nat.reduceAdd,Q15,Int.reduceToNat,Q16,Q17,Q18,Q19,Q20,reduceIte,Q21,Q22,zG,rep,zab,zfq,toD,zaq,Q23,Q24,Q25,Q26,Q27,Q28,Nat.reduceLeDiff,Q29,Nat.reduceSub,Q30,Q31,Q32,sc,Q33,Q34,Q35,Q36,Q37,Q26,Q38,Q39,zjD,zjA,zjx,zjE,zdf,zjB,zjy,zjC,zjz,zde,zdg,zjG,zjH,Bool.not_true,Bool.not_false,List.length_map,a] | with_reducible refine zjK ?_ | fail); exact h.go) : P := e a ⟨h⟩
theorem zuV {σ : List zh} {x : zq} (hx : okO x.op) {K : KT} (hK : K (.d (.int .i64 (zaA x))) σ) : zp Tryz.prog zkU [reqA x] σ K := by
 refine zeW e_r08_Check fun hl => ?_
 have fin : ∀ z,zaA x = z → K (.d (.int .i64 z)) σ := fun z h => h ▸ hK
 clear hK
 simp only [ztx,iN,bT,bF,eN,reqA]
 refine ziv ?_
 refine c_rKey ?_
 by_cases hc : x.client < 0 ∨ x.client ≥ 8
 ·rw [if_pos hc]
  refine zbA (show decide ((-1 : Int) < 0) = true from rfl) ?_
  refine zT hl ?_
  exact fin _ (by rw [zaA,if_pos (by omega)])
 ·rw [if_neg hc]
  have h0 : decide (13 + x.client < 0) = false := by simp; omega
  (refine gq25 h0 ?_; try with_reducible exact True.intro)
  (repeat' (first | (refine gq22 ?_; try with_reducible exact True.intro) | (refine zaO (fun h => ?_) (fun h => ?_) <;> (try rw [h])) | ((with_reducible refine And.intro ?_ ?_); focus (first | omega | rfl | decide))))
  all_goals first
   | (
    refine zT hl ?_
    (try simp only [decide_eq_true_eq,decide_eq_false_iff_not,beq_iff_eq,beq_eq_false_iff_ne,bne_iff_ne,ne_eq,Bool.not_eq_true',Bool.not_eq_false',bne_eq_false_iff_eq] at *)
    exact fin _ (by rw [zaA,if_pos (by omega)]))
   | skip
  refine zwu (o := x.op) hx.1 hx.2.1 hx.2.2.1 ?_
  refine ziv ?_
  refine zT hl ?_
  (try simp only [decide_eq_true_eq,decide_eq_false_iff_not,beq_iff_eq,beq_eq_false_iff_ne,bne_iff_ne,ne_eq,Bool.not_eq_true',Bool.not_eq_false',bne_eq_false_iff_eq] at *)
  exact fin _ (by rw [zaA,if_neg (by omega)])
theorem zwp {σ : List zh} {k d : Int} {K : KT} (hK : K (.d (.int .i64 (zah k d))) σ) : zp Tryz.prog zdE [.agg [.d (.int .i64 k), .d (.int .i64 d)]] σ K := by
 refine zeW zom fun hl => ?_
 have fin : ∀ z,zah k d = z → K (.d (.int .i64 z)) σ := fun z h => h ▸ hK
 clear hK
 simp only [ziC,iN,bT,bF,eN]
 (repeat' (first | (refine gq22 ?_; try with_reducible exact True.intro) | (refine zaO (fun h => ?_) (fun h => ?_) <;> (try rw [h])) | ((with_reducible refine And.intro ?_ ?_); focus (first | omega | rfl | decide))))
 all_goals
  refine zT hl ?_
  (try simp only [decide_eq_true_eq,decide_eq_false_iff_not,beq_iff_eq,beq_eq_false_iff_ne,bne_iff_ne,ne_eq,Bool.not_eq_true',Bool.not_eq_false',bne_eq_false_iff_eq] at *)
  first | exact fin _ (by rw [zah,if_pos (by omega)]) | exact fin _ (by rw [zah,if_neg (by omega)])
theorem znE {σ : List zh} {k d : Int} {K : KT} (hK : K (.d (.int .i64 (zah k d))) σ) : zp Tryz.prog zgh [.agg [.d (.int .i64 k), .d (.int .i64 d)]] σ K := by
 refine zeW zsO fun hl => ?_
 have fin : ∀ z,zah k d = z → K (.d (.int .i64 z)) σ := fun z h => h ▸ hK
 clear hK
 simp only [zmD,iN,bT,bF,eN]
 (repeat' (first | (refine gq22 ?_; try with_reducible exact True.intro) | (refine zaO (fun h => ?_) (fun h => ?_) <;> (try rw [h])) | ((with_reducible refine And.intro ?_ ?_); focus (first | omega | rfl | decide))))
 all_goals
  refine zT hl ?_
  (try simp only [decide_eq_true_eq,decide_eq_false_iff_not,beq_iff_eq,beq_eq_false_iff_ne,bne_iff_ne,ne_eq,Bool.not_eq_true',Bool.not_eq_false',bne_eq_false_iff_eq] at *)
  first | exact fin _ (by rw [zah,if_pos (by omega)]) | exact fin _ (by rw [zah,if_neg (by omega)])
theorem wk1 (k : Nat) (h : k ≤ 1073741824) : IntKind.i64.wrap ((k : Int) + 1) = ((k + 1 : Nat) : Int) := by rw [zac (by omega) (by omega)]; rfl
theorem zru {A P Q : Prop} (a : A) (h : Q) (e : A → Hd Q → P := by intro a h; (repeat' first | simp -dsimp only [↓zfT, ↓zaI, ↓zbP, ↓zfV, ↓zfN, ↓zfL, ↓zfO, ↓zfM, ↓zbU, ↓zbQ, ↓zbV, ↓zbR, ↓zfP, ↓zbN, ↓zbW, ↓zbS, ↓zbX, ↓zbT, ↓zfK, ↓zfQ, ↓zbM, ↓zbY, ↓zfF, ↓zfE, ↓zfH,iN,bT,bF,eN, ↓zcJ, ↓unC, ↓zaa, ↓zK, ↓zL, ↓zO, ↓zaf, ↓zaz, ↓zcK, ↓zar, ↓zbk, ↓zR, ↓zo, ↓zj, ↓zbz, ↓zg, ↓zam, ↓zH, ↓zaV, ↓zbc, ↓ze, ↓zB, ↓zu, ↓zC, ↓zap, ↓zdk, ↓zdO, ↓zav, ↓zaF, ↓zaZ, ↓zbj, ↓zbt, ↓zA, ↓zas, ↓zM, ↓zF, ↓zae,zdP,zbI,zbC,unA,zdL,bnd,zeq,zag,zQ,zek,dm,dm1,zD,zak,zeP,zeO,zP,Q0,Q1,Q2,Q3,Q4,Q5,zW,zt,zy,zN,zJ,Q6,Q7,Q8,Q9,Q10,Q11,Q12,Q13,Q14,Nat.reduceAdd,Q15,Int.reduceToNat,Q16,Q17,Q18,Q19,Q20,reduceIte,Q21,Q22,zG,rep,zab,zfq,toD,zaq,Q23,Q24,Q25,Q26,Q27,Q28,Nat.reduceLeDiff,Q29,Nat.reduceSub,Q30,Q31,Q32,sc,Q33,Q34,Q35,Q36,Q37,Q26,Q38,Q39,zjD,zjA,zjx,zjE,zdf,zjB,zjy,zjC,zjz,zde,zdg,zjG,zjH,Bool.not_true,Bool.not_false,List.length_map,Bool.and_false,Bool.and_self,Bool.false_and,Bool.not_false,Bool.not_true,Bool.true_and,Int.toNat_natCast,Int.toNat_zero,List.drop_zero,List.length_map,List.length_nil,List.nil_append,List.take_length,Nat.sub_zero,Nat.zero_add,Option.isSome_none,Option.isSome_some,Option.map_none,Option.map_some,zaH,beq_self_eq_true,bne_self_eq_false,zcv,zeu,zhB,zdT,opA,znX,zil,zkJ,zcl,a] | with_reducible refine zjK ?_ | fail); exact h.go) : P := e a ⟨h⟩
theorem zpt {σ : List zh} {b : List zq} (hb : okB b) {K : KT} (hK : K (.d (.int .i64 (zV b))) σ) : zp Tryz.prog zfi [.d (.slice (zdi b))] σ K := by
 refine zeW zrx fun hl => ?_
 have fin : ∀ z,zV b = z → K (.d (.int .i64 z)) σ := fun z h => h ▸ hK
 clear hK
 obtain ⟨hb1,hb2⟩ := hb
 simp only [zlx,iN,bT,bF,eN]
 cases h4 : decide ((b.length : Int) > 4)
 rotate_left
 ·refine zbA h4 ?_
  refine zT hl ?_
  exact fin _ (by rw [zV,if_pos (by simp at h4; omega)])
 have h4' : ¬ b.length > 4 := by simp at h4; omega
 refine zbA h4 ?_
 refine zr b.length (fun k vs s => vs = [.d (.int .i64 k)] ∧ s = σ ∧ zmo (b.take k) = 0) ⟨rfl,rfl,rfl⟩ ?_
 rintro k vs s hk ⟨rfl,rfl,he⟩
 by_cases hlt : k < b.length
 ·have hd : decide ((k : Int) < (b.length : Int)) = true := by simp; omega
  have hx : b[k]? = some b[k] := by simp [hlt]
  have hbx := hb2 _ (List.getElem_mem hlt)
  have hgx := zS (f := zcl) hx
  obtain ⟨x,hxe⟩ : ∃ x,b[k] = x := ⟨_,rfl⟩
  rw [hxe] at hx hgx hbx
  have bad : errF x ≠ 0 → K (.d (.int .i64 (errF x))) s := fun h => fin _ (by rw [zV,if_neg h4',if_pos (by rw [zuQ hx he h]; exact h)]; exact zuQ hx he h)
  refine zru (zbe hd hgx) ?_
  refine zuV (x := x) hbx ?_
  cases h1 : (zaA x != 0)
  rotate_left
  ·have h1' : zaA x ≠ 0 := by simpa using h1
   refine zbA h1 ?_
   refine zT hl ?_
   have e : errF x = zaA x := by rw [errF,if_pos h1']
   rw [e] at bad
   exact bad h1'
  refine zru (zbe h1 hgx) ?_
  have h1' : ¬ zaA x ≠ 0 := by simpa using h1
  have e : errF x = zah x.key x.dig := by rw [errF,if_neg h1']
  refine znE ?_
  cases h2 : (zah x.key x.dig != 0)
  rotate_left
  ·refine zbA h2 ?_
   refine zT hl ?_
   rw [e] at bad
   exact bad (by simpa using h2)
  refine zbA (zbe h2 (wk1 k (by omega))) ?_
  exact zaG.next hlt ⟨rfl,rfl,errsF_snoc hx he (by rw [e]; simpa using h2)⟩
 ·have hn : k = b.length := by omega
  subst hn
  rw [List.take_length] at he
  have hd : decide ((b.length : Int) < (b.length : Int)) = false := by simp
  refine zbA hd ?_
  refine zr b.length (fun k vs q => vs = [.d (.int .i64 k)] ∧ q = s ∧ (b.take k).Pairwise ndup) ⟨rfl,rfl,by simp⟩ ?_
  rintro k vs s hk' ⟨rfl,rfl,hp⟩
  by_cases hlt : k < b.length
  ·have hd : decide ((k : Int) < (b.length : Int)) = true := by simp; omega
   have hx : b[k]? = some b[k] := by simp [hlt]
   have hgx := zS (f := zcl) hx
   obtain ⟨x,hxe⟩ : ∃ x,b[k] = x := ⟨_,rfl⟩
   rw [hxe] at hx hgx
   refine zbA hd ?_
   refine zr k (fun j vs q => vs = [.d (.int .i64 j)] ∧ q = s ∧ ∀ y ∈ b.take j, ¬ (x.client = y.client ∧ x.time = y.time)) ⟨rfl,rfl,by simp⟩ ?_
   rintro j vs s hj ⟨rfl,rfl,hno⟩
   by_cases hjk : j < k
   ·have hd : decide ((j : Int) < (k : Int)) = true := by simp; omega
    have hy : b[j]? = some (b[j]'(by omega)) := List.getElem?_eq_getElem _
    have hgy := zS (f := zcl) hy
    obtain ⟨y,hye⟩ : ∃ y,b[j]'(by omega) = y := ⟨_,rfl⟩
    rw [hye] at hy hgy
    have hyt : b.take (j + 1) = b.take j ++ [y] := by rw [List.take_add_one,hy]; rfl
    have next : ¬ (x.client = y.client ∧ x.time = y.time) → ∀ z ∈ b.take (j + 1), ¬ (x.client = z.client ∧ x.time = z.time) := fun h z hz => by
     rw [hyt] at hz
     rcases List.mem_append.1 hz with hz | hz
     ·exact hno z hz
     ·simp at hz; subst hz; exact h
    cases h1 : (x.client == y.client)
    ·refine zru (zbe hd (zbe hgx (zbe hgy (zbe h1 (wk1 j (by omega)))))) ?_
     exact zaG.next hjk ⟨rfl,rfl,next (by simp at h1; exact fun h => h1 h.1)⟩
    cases h2 : (x.time == y.time)
    ·refine zru (zbe hd (zbe hgx (zbe hgy (zbe h1 (zbe h2 (wk1 j (by omega))))))) ?_
     exact zaG.next hjk ⟨rfl,rfl,next (by simp at h2; exact fun h => h2 h.2)⟩
    ·refine zru (zbe hd (zbe hgx (zbe hgy (zbe h1 h2)))) ?_
     refine zT hl ?_
     have hnp := pairs_not hx hy hjk ⟨by simpa using h1,by simpa using h2⟩
     exact fin _ (by rw [zV,if_neg h4',if_neg (by simpa using he),if_neg hnp])
   ·have hd : decide ((j : Int) < (k : Int)) = false := by simp; omega
    have hn : j = k := by omega
    subst hn
    refine zbA (zbe hd (wk1 j (by omega))) ?_
    exact zaG.next hlt ⟨rfl,rfl,pairs_snoc hx hp hno⟩
  ·have hd : decide ((k : Int) < (b.length : Int)) = false := by simp; omega
   refine zbA hd ?_
   refine zT hl ?_
   have hn : k = b.length := by omega
   subst hn
   rw [List.take_length] at hp
   exact fin _ (by rw [zV,if_neg h4',if_neg (by simpa using he),if_pos hp])
def keyF (c : Int) : Int := if c < 0 ∨ c ≥ 8 then -1 else 13 + c
theorem sizes {x : zq} (h : zkF x.op ≤ 20971520) : okO x.op := by
 have h0 := h
 unfold zkF at h
 refine ⟨by omega,by omega, ?_,fun r hr => ?_⟩
 ·have := zkM x.op.recs; omega
 ·have := rec_le hr; omega
theorem zuW {σ : List zh} {x : zq} (hx : zkF x.op ≤ 20971520) {K : KT} (hK : K (.tup [.d (.slice (bcs (zhb x))), .d (.int .i64 (zaA x))]) σ) : zp Tryz.prog zkV [reqA x] σ K := by
 refine zeW e_r08_Bytes fun hl => ?_
 have hsz := sizes hx
 simp only [zty,iN,bT,bF,eN,reqA]
 refine ziv ?_
 refine zuV (x := x) hsz ?_
 by_cases hc : zaA x = 0
 ·obtain ⟨c0,c8,t1,t2,ho⟩ := req_ok hc
  have hb : (zaA x != 0) = false := by simpa using hc
  have n1 := zE (n := x.client.toNat) (by omega)
  have n2 := zE (n := x.time.toNat) (by omega)
  have w1 : IntKind.u64.wrap x.client = ((x.client.toNat : Nat) : Int) := by
   rw [show x.client = ((x.client.toNat : Nat) : Int) by omega,zcQ (by omega)]; rfl
  have w2 : IntKind.u64.wrap x.time = ((x.time.toNat : Nat) : Int) := by
   rw [show x.time = ((x.time.toNat : Nat) : Int) by omega,zcQ (by omega)]; rfl
  rw [hc,zhb,if_pos hc] at hK
  refine zbA (zbe hb (zbe w1 w2)) ?_
  refine zcY (b := []) (by omega) (by simp) ?_
  refine zbA (zbe w1 w2) ?_
  refine zcY (by omega) (by first | omega | (simp; omega)) ?_
  refine zbA (zbe w1 w2) ?_
  refine c_rPut (o := x.op) (by first | omega | (simp; omega)) (by omega) ?_
  refine ziv ?_
  refine zT hl ?_
  rw [if_pos ho]
  exact hK
 ·have hb : (zaA x != 0) = true := by simpa using hc
  rw [zhb,if_neg hc] at hK
  refine zbA hb ?_
  refine zT hl ?_
  exact hK
theorem c_rPutSign {σ : List zh} {b : List UInt8} {k d : Int} (hb : b.length ≤ 1073741700) {K : KT} (hK : K (.d (.slice (bcs (b ++ zmT k d)))) σ) :
  zp Tryz.prog zkT [.d (.slice (bcs b)), .agg [.d (.int .i64 k), .d (.int .i64 d)]] σ K := by
 refine zfY zwa fun hl => ?_
 simp only [zpF,iN,bT,bF,eN]
 refine ziv ?_
 refine znE ?_
 by_cases hc : zah k d = 0
 ·obtain ⟨k0,k1,d0,d1⟩ := sign_ok hc
  have hq : (zah k d != 0) = false := by simpa using hc
  have n1 := zE (n := k.toNat) (by omega)
  have w1 : IntKind.u64.wrap k = ((k.toNat : Nat) : Int) := by
   rw [show k = ((k.toNat : Nat) : Int) by omega,zcQ (by omega)]; rfl
  have w2 : IntKind.u64.wrap d = ((d.toNat : Nat) : Int) := by
   rw [show d = ((d.toNat : Nat) : Int) by omega,zcQ (by omega)]; rfl
  rw [zmT,if_pos hc] at hK
  refine zbA (zbe hq (zbe w1 w2)) ?_
  refine zcY (by omega) (by omega) ?_
  refine zbA (zbe w1 w2) ?_
  refine zcY (by omega) (by first | omega | (simp; omega)) ?_
  refine ziv ?_
  refine zT hl ?_
  exact hK
 ·have hq : (zah k d != 0) = true := by simpa using hc
  rw [zmT,if_neg hc,List.append_nil] at hK
  refine zbA hq ?_
  refine zT hl ?_
  exact hK
theorem c_rPutBatch {σ : List zh} {b : List UInt8} {l : List zq} (hb : b.length ≤ 268435456) (hs : ∀ x ∈ l,zkF x.op ≤ 20971520) (hl0 : l.length ≤ 1073741824) {K : KT} (hK : K (.d (.slice (bcs (b ++ zfA l)))) σ) :
  zp Tryz.prog zju [.d (.slice (bcs b)), .d (.slice (zdi l))] σ K := by
 refine zfY ztW fun hl => ?_
 have hok : okB l := ⟨hl0,fun x hx => sizes (hs x hx)⟩
 simp only [znJ,iN,bT,bF,eN]
 refine ziv ?_
 refine zpt hok ?_
 by_cases hc : zV l = 0
 ·have hq : (zV l != 0) = false := by simpa using hc
  obtain ⟨h4,hm,_⟩ := zwD hc
  have n1 := zE (n := l.length) (by omega)
  have w1 : IntKind.u64.wrap (l.length : Int) = (l.length : Int) := zcQ (by omega)
  rw [zfA,if_pos hc] at hK
  refine zbA (zbe hq w1) ?_
  refine zcY (by omega) (by omega) ?_
  refine ziv ?_
  refine zcu l.length (fun k vs s => (∃ T,s = σ ++ T) ∧ vs = [.d (.slice (bcs (b ++ (zcO l.length ++ zjJ (l.take k))))), .d (.int .i64 k)])
   (.data 0 _ _ rfl rfl (.refl _ _)) ⟨⟨_,rfl⟩,by simp [zjJ]⟩ ?_
  rintro k vs s hk ⟨⟨T,rfl⟩,rfl⟩
  by_cases hlt : k < l.length
  ·have hd : decide ((k : Int) < (l.length : Int)) = true := by simp; omega
   have hx : l[k]? = some l[k] := by simp [hlt]
   have hgx := zS (f := zcl) hx
   have hxs := hs _ (List.getElem_mem hlt)
   have hxm := hm _ (List.getElem_mem hlt)
   obtain ⟨x,hxe⟩ : ∃ x,l[k] = x := ⟨_,rfl⟩
   rw [hxe] at hx hgx hxs hxm
   have hbl := ztm hs hc k
   have hrl := reqBytes_len hxs
   have hpl := zgd (x := zhb x) (by omega)
   obtain ⟨S,hS⟩ : ∃ S, σ ++ T = S := ⟨_,rfl⟩
   rw [hS]
   refine zru (zbe hd hgx) ?_
   refine zuW (x := x) hxs ?_
   refine zru (zbe hd hgx) ?_
   refine zgS (by omega) (by simp; omega) ?_
   refine zru (zbe hd hgx) ?_
   refine c_rPutSign (by simp only [zoT,List.length_append] at hpl ⊢; omega) ?_
   refine zbA (wk1 k (by omega)) ?_
   refine zaG.next hlt ⟨⟨_,by rw [← hS,List.append_assoc]⟩, ?_⟩
   rw [batchBs_snoc hx]
   simp [oneB,zoT,zhb,zmT,hxm.1,hxm.2]
  ·have hd : decide ((k : Int) < (l.length : Int)) = false := by simp; omega
   rw [List.take_of_length_le (by omega)]
   refine zbA hd ?_
   refine zT hl ?_
   exact hK
 ·have hq : (zV l != 0) = true := by simpa using hc
  rw [zfA,if_neg hc,List.append_nil] at hK
  refine zbA hq ?_
  refine zT hl ?_
  exact hK
theorem zdh.put {σ : List zh} {id m t : Nat} {l : List (List UInt8)} (h : zdh σ id m t l) (l' : List (List UInt8)) : zdh (putTab σ id m t l') id m t l' := by
 obtain ⟨n1,n2,n3⟩ := h.ne
 have h1 := zx h.box; have h2 := zx h.map; have h3 := zx h.tok
 unfold putTab
 refine ⟨?_, ?_, ?_⟩
 ·rw [List.getElem?_set_ne (Ne.symm n1),List.getElem?_set_self (by simpa using h1)]
 ·rw [List.getElem?_set_self (by simpa using h2)]
 ·rw [List.getElem?_set_ne n3,List.getElem?_set_ne n2,List.getElem?_set_self h3]
theorem zee.put {σ : List zh} {id m t : Nat} {g : List zI} (h : zee σ id m t g) (g' : List zI) : zee (putLed σ id m t g') id m t g' := by
 obtain ⟨n1,n2,n3⟩ := h.ne
 have h1 := zx h.box; have h2 := zx h.map; have h3 := zx h.tok
 unfold putLed
 refine ⟨?_, ?_, ?_⟩
 ·rw [List.getElem?_set_self (by simpa using h1)]
 ·rw [List.getElem?_set_ne n1,List.getElem?_set_ne (Ne.symm n3),List.getElem?_set_self h2]
 ·rw [List.getElem?_set_ne n2,List.getElem?_set_self (by simpa using h3)]
theorem apart2 {σ : List zh} {id m t id2 m2 t2 : Nat} {l : List (List UInt8)} {g : List zI} (hT : zdh σ id m t l) (hG : zee σ id2 m2 t2 g) (h1 : id ≠ id2) (h2 : m ≠ m2) :
  (id ≠ m2 ∧ id ≠ t2) ∧ (m ≠ id2 ∧ m ≠ t2) ∧ (t ≠ id2 ∧ t ≠ m2 ∧ t ≠ t2) := by
 refine ⟨⟨?_, ?_⟩,⟨?_, ?_⟩,⟨?_, ?_, ?_⟩⟩ <;> intro e <;> subst e
 ·have := hT.box; rw [hG.map] at this; cases this
 ·have := hT.box; rw [hG.tok] at this; cases this
 ·have := hT.map; rw [hG.box] at this; cases this
 ·have := hT.map; rw [hG.tok] at this; cases this
 ·have := hT.tok; rw [hG.box] at this; cases this
 ·have := hT.tok; rw [hG.map] at this; cases this
 ·have := hT.tok; rw [hG.tok] at this; cases this
theorem zee.putTab {σ : List zh} {id m t id2 m2 t2 : Nat} {l : List (List UInt8)} {g : List zI} (hT : zdh σ id m t l) (hG : zee σ id2 m2 t2 g) (h1 : id ≠ id2) (h2 : m ≠ m2) (l' : List (List UInt8)) :
  zee (putTab σ id m t l') id2 m2 t2 g := by
 obtain ⟨⟨a1,a2⟩,⟨b1,b2⟩,⟨c1,c2,c3⟩⟩ := apart2 hT hG h1 h2
 unfold Go.Proofs.YtfgbofkdhfjegaaGreat.putTab
 refine ⟨?_, ?_, ?_⟩
 ·rw [List.getElem?_set_ne b1,List.getElem?_set_ne h1,List.getElem?_set_ne c1]; exact hG.box
 ·rw [List.getElem?_set_ne h2,List.getElem?_set_ne a1,List.getElem?_set_ne c2]; exact hG.map
 ·rw [List.getElem?_set_ne b2,List.getElem?_set_ne a2,List.getElem?_set_ne c3]; exact hG.tok
theorem zdh.putLed {σ : List zh} {id m t id2 m2 t2 : Nat} {l : List (List UInt8)} {g : List zI} (hT : zdh σ id m t l) (hG : zee σ id2 m2 t2 g) (h1 : id ≠ id2) (h2 : m ≠ m2) (g' : List zI) :
  zdh (putLed σ id2 m2 t2 g') id m t l := by
 obtain ⟨⟨a1,a2⟩,⟨b1,b2⟩,⟨c1,c2,c3⟩⟩ := apart2 hT hG h1 h2
 unfold Go.Proofs.YtfgbofkdhfjegaaGreat.putLed
 refine ⟨?_, ?_, ?_⟩
 ·rw [List.getElem?_set_ne (Ne.symm h1),List.getElem?_set_ne (Ne.symm a2),List.getElem?_set_ne (Ne.symm a1)]; exact hT.box
 ·rw [List.getElem?_set_ne (Ne.symm b1),List.getElem?_set_ne (Ne.symm b2),List.getElem?_set_ne (Ne.symm h2)]; exact hT.map
 ·rw [List.getElem?_set_ne (Ne.symm c1),List.getElem?_set_ne (Ne.symm c3),List.getElem?_set_ne (Ne.symm c2)]; exact hT.tok
def noSg : zq := ⟨0, 0,noOp, 0, 0⟩
def ztN (L : List (List UInt8)) (x : zq) : Int := if zaA x ≠ 0 then zaA x else zeh (keyF x.client) (zdw L (zrK x))
def zlW (L : List (List UInt8)) (x : zq) : zq := if ztN L x = 0 then ⟨x.client,x.time,x.op,keyF x.client,zdw L (zrK x)⟩ else noSg
def zpW (L : List (List UInt8)) (x : zq) : List (List UInt8) := if zaA x ≠ 0 then L else zeI L (zrK x)
def zsg (L : List (List UInt8)) (G : List zI) (x : zq) : List zI := if zaA x ≠ 0 then G else zfW G (keyF x.client) (zdw L (zrK x))
structure zlT (L : List (List UInt8)) : Prop where
 nd : L.Nodup
 len : L.length ≤ 1048576
 each : ∀ b ∈ L,b.length ≤ 1073741824
theorem zlT.nil : zlT [] := ⟨.nil,by simp,by simp⟩
theorem zlT.sum {L : List (List UInt8)} (h : zlT L) {b : List UInt8} (hb : b.length ≤ 1073741824) : zlT (zeI L b) := by
 unfold zeI
 cases ho : zcW L b with
 | some k => exact h
 | none =>
  simp only
  split
  ·exact h
  ·rename_i hl
   have hn : b ∉ L := fun hm => by
    obtain ⟨i,hi⟩ := List.mem_iff_getElem?.1 hm
    exact zvP ho hm
   refine ⟨?_,by simp; omega,fun x hx => ?_⟩
   ·rw [List.nodup_append]
    refine ⟨h.nd,by simp,fun a ha c hc => ?_⟩
    simp at hc; subst hc
    exact fun e => hn (e ▸ ha)
   ·rcases List.mem_append.1 hx with hx | hx
    ·exact h.each x hx
    ·simp at hx; subst hx; exact hb
end Go.Proofs.YtfgbofkdhfjegaaGreat
