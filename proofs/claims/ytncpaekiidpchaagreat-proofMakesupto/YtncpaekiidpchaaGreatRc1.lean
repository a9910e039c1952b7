/- Contracts: what is wrong with requests, signatures and batches, on both sides. -/
import Derived.Test.YtncpaekiidpchaaGreatOp1
import Derived.Test.YtncpaekiidpchaaGreatOpC
import Derived.Test.YtncpaekiidpchaaGreatSpUtf
import Derived.Test.YtncpaekiidpchaaGreatId4
set_option linter.all false
set_option maxRecDepth 100000
namespace Go.Proofs.YtncpaekiidpchaaGreat
open Go.AW
theorem c_rKey {σ : List zf} {c : Int} {K : AV → List zf → Prop} (hK : K (.d (.int .i64 (if c < 0 ∨ c ≥ 8 then -1 else 13 + c))) σ) : zL Tryz.prog zkA [.d (.int .i64 c)] σ K := by
 refine zj e_r08_Key.is rfl fun hl _ => e_r08_Key.goes ?_
 have fin : ∀ z,(if c < 0 ∨ c ≥ 8 then -1 else 13 + c) = z → K (.d (.int .i64 z)) σ := fun z h => h ▸ hK
 clear hK
 simp only [S_r08_Key,iN,bT,bF,eN]
 (repeat' (first | (refine gq21 ?_; try with_reducible exact True.intro) | (refine zaC (fun h => ?_) (fun h => ?_) <;> (try rw [h])) | ((with_reducible refine And.intro ?_ ?_); focus (first | omega | rfl | decide))))
 all_goals
  (first | refine zao hl ?_ | refine zan hl ?_)
  (try simp only [decide_eq_true_eq,decide_eq_false_iff_not,beq_iff_eq,beq_eq_false_iff_ne,bne_iff_ne,ne_eq,Bool.not_eq_true',Bool.not_eq_false',bne_eq_false_iff_eq] at *)
 ·exact fin _ (by rw [if_pos (by omega)])
 ·exact fin _ (by rw [if_pos (by omega)])
 ·exact fin _ (by rw [if_neg (by omega),zai (by omega) (by omega)])
theorem zrY {P Q : Prop} (h : Q) (e : P = Q := by simp -dsimp only [↓zcR, ↓zal, ↓zaM, ↓zcS, ↓zcN, ↓zcL, ↓zcO, ↓zcM, ↓zaR, ↓zaN, ↓zaS, ↓zaO, ↓zcP, ↓zaL, ↓zaT, ↓zaP, ↓zaU, ↓zaQ, ↓zcK, ↓zcQ, ↓zaK, ↓zaV, ↓zcI, ↓zcH, ↓zcJ,iN,bT,bF,eN, ↓zbI, ↓unC, ↓zQ, ↓zF, ↓zG, ↓zI, ↓zR, ↓zap, ↓zbp, ↓zab, ↓zaX, ↓zP, ↓zp, ↓zm, ↓zbg, ↓zi, ↓zY, ↓zB, ↓zas, ↓zaw, ↓ze, ↓zC, ↓zr, ↓zt, ↓zad, ↓zbL, ↓zbY, ↓zaa, ↓zaj, ↓zau, ↓zaB, ↓zaD, ↓zl, ↓zZ, ↓zH, ↓zu, ↓zS,zcd,zaI,zaH,unA,zce,bnd,zcn,zX,zV,zcp,dm,dm1,zD,zag,zcy,zcx,zU,Q0,Q1,Q2,Q3,Q4,Q5,zO,zq,zw,zM,zE,Q6,Q7,Q8,Q9,Q10,Q11,Q12,Q13,Q14,Nat.reduceAdd,Q15,Int.reduceToNat,Q16,Q17,Q18,Q19,Q20,reduceIte,Q21,Q22,zx,rep,zT,zcv,toD,zW,Q23,Q24,Q25,Q26,Q27,Q28,Nat.reduceLeDiff,Q29,Nat.reduceSub,Q30,Q31,Q32,sc,Q33,Q34,Q35,Q36,Q37,Q26,Q38,Q39,zel,zei,zef,zem,zbt,zej,zeg,zek,zeh,zbs,zbu,zen,zeo,Bool.not_true,Bool.not_false,List.length_map]; rfl) : P := e.mpr h
theorem zeN {A P Q : Prop} (a : A) (h : Q) (e : A → P = Q := by intro a; simp -dsimp only [↓zcR, ↓zal, ↓zaM, ↓zcS, ↓zcN, ↓zcL, ↓zcO, ↓zcM, ↓zaR, ↓zaN, ↓zaS, ↓zaO, ↓zcP, ↓zaL, ↓zaT, ↓zaP, ↓zaU, ↓zaQ, ↓zcK, ↓zcQ, ↓zaK, ↓zaV, ↓zcI, ↓zcH, ↓zcJ,iN,bT,bF,eN, ↓zbI, ↓unC, ↓zQ, ↓zF, ↓zG, ↓zI, ↓zR, ↓zap, ↓zbp, ↓zab, ↓zaX, ↓zP, ↓zp, ↓zm, ↓zbg, ↓zi, ↓zY, ↓zB, ↓zas, ↓zaw, ↓ze, ↓zC, ↓zr, ↓zt, ↓zad, ↓zbL, ↓zbY, ↓zaa, ↓zaj, ↓zau, ↓zaB, ↓zaD, ↓zl, ↓zZ, ↓zH, ↓zu, ↓zS,zcd,zaI,zaH,unA,zce,bnd,zcn,zX,zV,zcp,dm,dm1,zD,zag,zcy,zcx,zU,Q0,Q1,Q2,Q3,Q4,Q5,zO,zq,zw,zM,zE,Q6,Q7,Q8,Q9,Q10,Q11,Q12,Q13,Q14,Nat.reduceAdd,Q15,Int.reduceToNat,Q16,Q17,Q18,Q19,Q20,reduceIte,Q21,Q22,zx,rep,zT,zcv,toD,zW,Q23,Q24,Q25,Q26,Q27,Q28,Nat.reduceLeDiff,Q29,Nat.reduceSub,Q30,Q31,Q32,sc,Q33,Q34,Q35,Q36,Q37,Q26,Q38,Q39,zel,zei,zef,zem,zbt,zej,zeg,zek,zeh,zbs,zbu,zen,zeo,Bool.not_true,Bool.not_false,List.length_map,a]; rfl) : P := (e a).mpr h
theorem ztA {σ : List zf} {x : zA} (hx : okO x.op) {K : AV → List zf → Prop} (hK : K (.d (.int .i64 (zax x))) σ) : zL Tryz.prog zju [reqA x] σ K := by
 refine zj zri.is rfl fun hl _ => zri.goes ?_
 have fin : ∀ z,zax x = z → K (.d (.int .i64 z)) σ := fun z h => h ▸ hK
 clear hK
 simp only [zrM,iN,bT,bF,eN,reqA]
 (repeat' first | refine zrY ?_ | with_reducible first | exact ⟨⟩ | refine zh ?_ | fail)
 refine c_rKey ?_
 by_cases hc : x.client < 0 ∨ x.client ≥ 8
 ·rw [if_pos hc]
  (repeat' first | refine zeN (show decide ((-1 : Int) < 0) = true from rfl) ?_ | with_reducible first | exact ⟨⟩ | refine zh ?_ | fail)
  (first | refine zao hl ?_ | refine zan hl ?_)
  exact fin _ (by rw [zax,if_pos (by omega)])
 ·rw [if_neg hc]
  have h0 : decide (13 + x.client < 0) = false := by simp; omega
  (refine gq26 h0 ?_; try with_reducible exact True.intro)
  (repeat' (first | (refine gq21 ?_; try with_reducible exact True.intro) | (refine zaC (fun h => ?_) (fun h => ?_) <;> (try rw [h])) | ((with_reducible refine And.intro ?_ ?_); focus (first | omega | rfl | decide))))
  all_goals first
   | (
    (first | refine zao hl ?_ | refine zan hl ?_)
    (try simp only [decide_eq_true_eq,decide_eq_false_iff_not,beq_iff_eq,beq_eq_false_iff_ne,bne_iff_ne,ne_eq,Bool.not_eq_true',Bool.not_eq_false',bne_eq_false_iff_eq] at *)
    exact fin _ (by rw [zax,if_pos (by omega)]))
   | skip
  refine zuV (o := x.op) hx.1 hx.2.1 hx.2.2.1 ?_
  (repeat' first | refine zrY ?_ | with_reducible first | exact ⟨⟩ | refine zh ?_ | fail)
  (first | refine zao hl ?_ | refine zan hl ?_)
  (try simp only [decide_eq_true_eq,decide_eq_false_iff_not,beq_iff_eq,beq_eq_false_iff_ne,bne_iff_ne,ne_eq,Bool.not_eq_true',Bool.not_eq_false',bne_eq_false_iff_eq] at *)
  exact fin _ (by rw [zax,if_neg (by omega)])
theorem zuR {σ : List zf} {k d : Int} {K : AV → List zf → Prop} (hK : K (.d (.int .i64 (zay k d))) σ) : zL Tryz.prog zex [.agg [.d (.int .i64 k), .d (.int .i64 d)]] σ K := by
 refine zj zhj.is rfl fun hl _ => zhj.goes ?_
 have fin : ∀ z,zay k d = z → K (.d (.int .i64 z)) σ := fun z h => h ▸ hK
 clear hK
 simp only [zhy,iN,bT,bF,eN]
 (repeat' (first | (refine gq21 ?_; try with_reducible exact True.intro) | (refine zaC (fun h => ?_) (fun h => ?_) <;> (try rw [h])) | ((with_reducible refine And.intro ?_ ?_); focus (first | omega | rfl | decide))))
 all_goals
  (first | refine zao hl ?_ | refine zan hl ?_)
  (try simp only [decide_eq_true_eq,decide_eq_false_iff_not,beq_iff_eq,beq_eq_false_iff_ne,bne_iff_ne,ne_eq,Bool.not_eq_true',Bool.not_eq_false',bne_eq_false_iff_eq] at *)
  first | exact fin _ (by rw [zay,if_pos (by omega)]) | exact fin _ (by rw [zay,if_neg (by omega)])
theorem zmj {σ : List zf} {k d : Int} {K : AV → List zf → Prop} (hK : K (.d (.int .i64 (zay k d))) σ) : zL Tryz.prog zeU [.agg [.d (.int .i64 k), .d (.int .i64 d)]] σ K := by
 refine zj zkO.is rfl fun hl _ => zkO.goes ?_
 have fin : ∀ z,zay k d = z → K (.d (.int .i64 z)) σ := fun z h => h ▸ hK
 clear hK
 simp only [zlg,iN,bT,bF,eN]
 (repeat' (first | (refine gq21 ?_; try with_reducible exact True.intro) | (refine zaC (fun h => ?_) (fun h => ?_) <;> (try rw [h])) | ((with_reducible refine And.intro ?_ ?_); focus (first | omega | rfl | decide))))
 all_goals
  (first | refine zao hl ?_ | refine zan hl ?_)
  (try simp only [decide_eq_true_eq,decide_eq_false_iff_not,beq_iff_eq,beq_eq_false_iff_ne,bne_iff_ne,ne_eq,Bool.not_eq_true',Bool.not_eq_false',bne_eq_false_iff_eq] at *)
  first | exact fin _ (by rw [zay,if_pos (by omega)]) | exact fin _ (by rw [zay,if_neg (by omega)])
end Go.Proofs.YtncpaekiidpchaaGreat

/- Contracts: what is wrong with batches, on both sides. -/
set_option maxRecDepth 100000
namespace Go.Proofs.YtncpaekiidpchaaGreat
open Go.AW
theorem wk1 (k : Nat) (h : k ≤ 1073741824) : IntKind.i64.wrap ((k : Int) + 1) = ((k + 1 : Nat) : Int) := by rw [zai (by omega) (by omega)]; rfl
theorem gq36 {A P Q : Prop} (a : A) (h : Q) (e : A → P = Q := by intro a; simp -dsimp only [↓zcR, ↓zal, ↓zaM, ↓zcS, ↓zcN, ↓zcL, ↓zcO, ↓zcM, ↓zaR, ↓zaN, ↓zaS, ↓zaO, ↓zcP, ↓zaL, ↓zaT, ↓zaP, ↓zaU, ↓zaQ, ↓zcK, ↓zcQ, ↓zaK, ↓zaV, ↓zcI, ↓zcH, ↓zcJ,iN,bT,bF,eN, ↓zbI, ↓unC, ↓zQ, ↓zF, ↓zG, ↓zI, ↓zR, ↓zap, ↓zbp, ↓zab, ↓zaX, ↓zP, ↓zp, ↓zm, ↓zbg, ↓zi, ↓zY, ↓zB, ↓zas, ↓zaw, ↓ze, ↓zC, ↓zr, ↓zt, ↓zad, ↓zbL, ↓zbY, ↓zaa, ↓zaj, ↓zau, ↓zaB, ↓zaD, ↓zl, ↓zZ, ↓zH, ↓zu, ↓zS,zcd,zaI,zaH,unA,zce,bnd,zcn,zX,zV,zcp,dm,dm1,zD,zag,zcy,zcx,zU,Q0,Q1,Q2,Q3,Q4,Q5,zO,zq,zw,zM,zE,Q6,Q7,Q8,Q9,Q10,Q11,Q12,Q13,Q14,Nat.reduceAdd,Q15,Int.reduceToNat,Q16,Q17,Q18,Q19,Q20,reduceIte,Q21,Q22,zx,rep,zT,zcv,toD,zW,Q23,Q24,Q25,Q26,Q27,Q28,Nat.reduceLeDiff,Q29,Nat.reduceSub,Q30,Q31,Q32,sc,Q33,Q34,Q35,Q36,Q37,Q26,Q38,Q39,zel,zei,zef,zem,zbt,zej,zeg,zek,zeh,zbs,zbu,zen,zeo,Bool.not_true,Bool.not_false,List.length_map,zeQ,a]; rfl) : P := (e a).mpr h
theorem znJ {σ : List zf} {b : List zA} (hb : okB b) {K : AV → List zf → Prop} (hK : K (.d (.int .i64 (zar b))) σ) : zL Tryz.prog zes [.d (.slice (zfV b))] σ K := by
 refine zj zjM.is rfl fun hl _ => zjM.goes ?_
 have fin : ∀ z,zar b = z → K (.d (.int .i64 z)) σ := fun z h => h ▸ hK
 clear hK
 obtain ⟨hb1,hb2⟩ := hb
 simp only [zjZ,iN,bT,bF,eN]
 cases h4 : decide ((b.length : Int) > 4)
 rotate_left
 ·(repeat' first | refine zeN h4 ?_ | with_reducible first | exact ⟨⟩ | refine zh ?_ | fail)
  (first | refine zao hl ?_ | refine zan hl ?_)
  exact fin _ (by rw [zar,if_pos (by simp at h4; omega)])
 have h4' : ¬ b.length > 4 := by simp at h4; omega
 (repeat' first | refine zeN h4 ?_ | with_reducible first | exact ⟨⟩ | refine zh ?_ | fail)
 refine zK b.length (fun k vs s => vs = [.d (.int .i64 k)] ∧ s = σ ∧ zkK (b.take k) = 0) ⟨rfl,rfl,rfl⟩ ?_
 rintro k vs s hk ⟨rfl,rfl,he⟩
 by_cases hlt : k < b.length
 ·have hd : decide ((k : Int) < (b.length : Int)) = true := by simp; omega
  have hx : b[k]? = some b[k] := by simp [hlt]
  have hbx := hb2 _ (List.getElem_mem hlt)
  have hgx := zaf (f := zeQ) hx
  obtain ⟨x,hxe⟩ : ∃ x,b[k] = x := ⟨_,rfl⟩
  rw [hxe] at hx hgx hbx
  have bad : errF x ≠ 0 → K (.d (.int .i64 (errF x))) s := fun h => fin _ (by rw [zar,if_neg h4',if_pos (by rw [zsV hx he h]; exact h)]; exact zsV hx he h)
  (repeat' first | refine gq36 (zbl hd hgx) ?_ | with_reducible first | exact ⟨⟩ | refine zh ?_ | fail)
  refine ztA (x := x) hbx ?_
  cases h1 : (zax x != 0)
  rotate_left
  ·have h1' : zax x ≠ 0 := by simpa using h1
   (repeat' first | refine zeN h1 ?_ | with_reducible first | exact ⟨⟩ | refine zh ?_ | fail)
   (first | refine zao hl ?_ | refine zan hl ?_)
   have e : errF x = zax x := by rw [errF,if_pos h1']
   rw [e] at bad
   exact bad h1'
  (repeat' first | refine gq36 (zbl h1 hgx) ?_ | with_reducible first | exact ⟨⟩ | refine zh ?_ | fail)
  have h1' : ¬ zax x ≠ 0 := by simpa using h1
  have e : errF x = zay x.key x.dig := by rw [errF,if_neg h1']
  refine zmj ?_
  cases h2 : (zay x.key x.dig != 0)
  rotate_left
  ·(repeat' first | refine zeN h2 ?_ | with_reducible first | exact ⟨⟩ | refine zh ?_ | fail)
   (first | refine zao hl ?_ | refine zan hl ?_)
   rw [e] at bad
   exact bad (by simpa using h2)
  (repeat' first | refine zeN (zbl h2 (wk1 k (by omega))) ?_ | with_reducible first | exact ⟨⟩ | refine zh ?_ | fail)
  exact zav.next hlt ⟨rfl,rfl,errsF_snoc hx he (by rw [e]; simpa using h2)⟩
 ·have hn : k = b.length := by omega
  subst hn
  rw [List.take_length] at he
  have hd : decide ((b.length : Int) < (b.length : Int)) = false := by simp
  (repeat' first | refine zeN hd ?_ | with_reducible first | exact ⟨⟩ | refine zh ?_ | fail)
  refine zK b.length (fun k vs q => vs = [.d (.int .i64 k)] ∧ q = s ∧ (b.take k).Pairwise ndup) ⟨rfl,rfl,by simp⟩ ?_
  rintro k vs s hk' ⟨rfl,rfl,hp⟩
  by_cases hlt : k < b.length
  ·have hd : decide ((k : Int) < (b.length : Int)) = true := by simp; omega
   have hx : b[k]? = some b[k] := by simp [hlt]
   have hgx := zaf (f := zeQ) hx
   obtain ⟨x,hxe⟩ : ∃ x,b[k] = x := ⟨_,rfl⟩
   rw [hxe] at hx hgx
   (repeat' first | refine zeN hd ?_ | with_reducible first | exact ⟨⟩ | refine zh ?_ | fail)
   refine zK k (fun j vs q => vs = [.d (.int .i64 j)] ∧ q = s ∧ ∀ y ∈ b.take j, ¬ (x.client = y.client ∧ x.time = y.time)) ⟨rfl,rfl,by simp⟩ ?_
   rintro j vs s hj ⟨rfl,rfl,hno⟩
   by_cases hjk : j < k
   ·have hd : decide ((j : Int) < (k : Int)) = true := by simp; omega
    have hy : b[j]? = some (b[j]'(by omega)) := List.getElem?_eq_getElem _
    have hgy := zaf (f := zeQ) hy
    obtain ⟨y,hye⟩ : ∃ y,b[j]'(by omega) = y := ⟨_,rfl⟩
    rw [hye] at hy hgy
    have hyt : b.take (j + 1) = b.take j ++ [y] := by rw [List.take_add_one,hy]; rfl
    have next : ¬ (x.client = y.client ∧ x.time = y.time) → ∀ z ∈ b.take (j + 1), ¬ (x.client = z.client ∧ x.time = z.time) := fun h z hz => by
     rw [hyt] at hz
     rcases List.mem_append.1 hz with hz | hz
     ·exact hno z hz
     ·simp at hz; subst hz; exact h
    cases h1 : (x.client == y.client)
    ·(repeat' first | refine gq36 (zbl hd (zbl hgx (zbl hgy (zbl h1 (wk1 j (by omega)))))) ?_ | with_reducible first | exact ⟨⟩ | refine zh ?_ | fail)
     exact zav.next hjk ⟨rfl,rfl,next (by simp at h1; exact fun h => h1 h.1)⟩
    cases h2 : (x.time == y.time)
    ·(repeat' first | refine gq36 (zbl hd (zbl hgx (zbl hgy (zbl h1 (zbl h2 (wk1 j (by omega))))))) ?_ | with_reducible first | exact ⟨⟩ | refine zh ?_ | fail)
     exact zav.next hjk ⟨rfl,rfl,next (by simp at h2; exact fun h => h2 h.2)⟩
    ·(repeat' first | refine gq36 (zbl hd (zbl hgx (zbl hgy (zbl h1 h2)))) ?_ | with_reducible first | exact ⟨⟩ | refine zh ?_ | fail)
     (first | refine zao hl ?_ | refine zan hl ?_)
     have hnp := pairs_not hx hy hjk ⟨by simpa using h1,by simpa using h2⟩
     exact fin _ (by rw [zar,if_neg h4',if_neg (by simpa using he),if_neg hnp])
   ·have hd : decide ((j : Int) < (k : Int)) = false := by simp; omega
    have hn : j = k := by omega
    subst hn
    (repeat' first | refine zeN (zbl hd (wk1 j (by omega))) ?_ | with_reducible first | exact ⟨⟩ | refine zh ?_ | fail)
    exact zav.next hlt ⟨rfl,rfl,pairs_snoc hx hp hno⟩
  ·have hd : decide ((k : Int) < (b.length : Int)) = false := by simp; omega
   (repeat' first | refine zeN hd ?_ | with_reducible first | exact ⟨⟩ | refine zh ?_ | fail)
   (first | refine zao hl ?_ | refine zan hl ?_)
   have hn : k = b.length := by omega
   subst hn
   rw [List.take_length] at hp
   exact fin _ (by rw [zar,if_neg h4',if_neg (by simpa using he),if_pos hp])
end Go.Proofs.YtncpaekiidpchaaGreat

/- Contracts: the bytes of requests, signatures and batches. -/
set_option maxRecDepth 100000
namespace Go.Proofs.YtncpaekiidpchaaGreat
open Go.AW
def keyF (c : Int) : Int := if c < 0 ∨ c ≥ 8 then -1 else 13 + c
theorem sizes {x : zA} (h : zkq x.op ≤ 20971520) : okO x.op := by
 have h0 := h
 unfold zkq at h
 refine ⟨by omega,by omega, ?_,fun r hr => ?_⟩
 ·have := zjo x.op.recs; omega
 ·have := rec_le hr; omega
theorem ztB {σ : List zf} {x : zA} (hx : zkq x.op ≤ 20971520) {K : AV → List zf → Prop} (hK : K (.tup [.d (.slice (bcs (zfN x))), .d (.int .i64 (zax x))]) σ) : zL Tryz.prog zjv [reqA x] σ K := by
 refine zj zrj.is rfl fun hl _ => zrj.goes ?_
 have hsz := sizes hx
 simp only [zrN,iN,bT,bF,eN,reqA]
 (repeat' first | refine zrY ?_ | with_reducible first | exact ⟨⟩ | refine zh ?_ | fail)
 refine ztA (x := x) hsz ?_
 by_cases hc : zax x = 0
 ·obtain ⟨c0,c8,t1,t2,ho⟩ := req_ok hc
  have hb : (zax x != 0) = false := by simpa using hc
  have n1 := zJ (n := x.client.toNat) (by omega)
  have n2 := zJ (n := x.time.toNat) (by omega)
  have w1 : IntKind.u64.wrap x.client = ((x.client.toNat : Nat) : Int) := by
   rw [show x.client = ((x.client.toNat : Nat) : Int) by omega,zcq (by omega)]; rfl
  have w2 : IntKind.u64.wrap x.time = ((x.time.toNat : Nat) : Int) := by
   rw [show x.time = ((x.time.toNat : Nat) : Int) by omega,zcq (by omega)]; rfl
  rw [hc,zfN,if_pos hc] at hK
  (repeat' first | refine zeN (zbl hb (zbl w1 w2)) ?_ | with_reducible first | exact ⟨⟩ | refine zh ?_ | fail)
  refine zcF (b := []) (by omega) (by simp) ?_
  (repeat' first | refine zeN (zbl w1 w2) ?_ | with_reducible first | exact ⟨⟩ | refine zh ?_ | fail)
  refine zcF (by omega) (by first | omega | (simp; omega)) ?_
  (repeat' first | refine zeN (zbl w1 w2) ?_ | with_reducible first | exact ⟨⟩ | refine zh ?_ | fail)
  refine c_rPut (o := x.op) (by first | omega | (simp; omega)) (by omega) ?_
  (repeat' first | refine zrY ?_ | with_reducible first | exact ⟨⟩ | refine zh ?_ | fail)
  (first | refine zao hl ?_ | refine zan hl ?_)
  rw [if_pos ho]
  exact hK
 ·have hb : (zax x != 0) = true := by simpa using hc
  rw [zfN,if_neg hc] at hK
  (repeat' first | refine zeN hb ?_ | with_reducible first | exact ⟨⟩ | refine zh ?_ | fail)
  (first | refine zao hl ?_ | refine zan hl ?_)
  exact hK
theorem c_rPutSign {σ : List zf} {b : List UInt8} {k d : Int} (hb : b.length ≤ 1073741700) {K : AV → List zf → Prop} (hK : K (.d (.slice (bcs (b ++ zlt k d)))) σ) :
  zL Tryz.prog zjt [.d (.slice (bcs b)), .agg [.d (.int .i64 k), .d (.int .i64 d)]] σ K := by
 refine zj znw.is rfl fun hl _ => znw.goes ?_
 simp only [znX,iN,bT,bF,eN]
 (repeat' first | refine zrY ?_ | with_reducible first | exact ⟨⟩ | refine zh ?_ | fail)
 refine zmj ?_
 by_cases hc : zay k d = 0
 ·obtain ⟨k0,k1,d0,d1⟩ := sign_ok hc
  have hq : (zay k d != 0) = false := by simpa using hc
  have n1 := zJ (n := k.toNat) (by omega)
  have w1 : IntKind.u64.wrap k = ((k.toNat : Nat) : Int) := by
   rw [show k = ((k.toNat : Nat) : Int) by omega,zcq (by omega)]; rfl
  have w2 : IntKind.u64.wrap d = ((d.toNat : Nat) : Int) := by
   rw [show d = ((d.toNat : Nat) : Int) by omega,zcq (by omega)]; rfl
  rw [zlt,if_pos hc] at hK
  (repeat' first | refine zeN (zbl hq (zbl w1 w2)) ?_ | with_reducible first | exact ⟨⟩ | refine zh ?_ | fail)
  refine zcF (by omega) (by omega) ?_
  (repeat' first | refine zeN (zbl w1 w2) ?_ | with_reducible first | exact ⟨⟩ | refine zh ?_ | fail)
  refine zcF (by omega) (by first | omega | (simp; omega)) ?_
  (repeat' first | refine zrY ?_ | with_reducible first | exact ⟨⟩ | refine zh ?_ | fail)
  (first | refine zao hl ?_ | refine zan hl ?_)
  exact hK
 ·have hq : (zay k d != 0) = true := by simpa using hc
  rw [zlt,if_neg hc,List.append_nil] at hK
  (repeat' first | refine zeN hq ?_ | with_reducible first | exact ⟨⟩ | refine zh ?_ | fail)
  (first | refine zao hl ?_ | refine zan hl ?_)
  exact hK
theorem c_rPutBatch {σ : List zf} {b : List UInt8} {l : List zA} (hb : b.length ≤ 268435456) (hs : ∀ x ∈ l,zkq x.op ≤ 20971520) (hl0 : l.length ≤ 1073741824) {K : AV → List zf → Prop} (hK : K (.d (.slice (bcs (b ++ zeD l)))) σ) :
  zL Tryz.prog zih [.d (.slice (bcs b)), .d (.slice (zfV l))] σ K := by
 refine zj zlZ.is rfl fun hl _ => zlZ.goes ?_
 have hok : okB l := ⟨hl0,fun x hx => sizes (hs x hx)⟩
 simp only [zmn,iN,bT,bF,eN]
 (repeat' first | refine zrY ?_ | with_reducible first | exact ⟨⟩ | refine zh ?_ | fail)
 refine znJ hok ?_
 by_cases hc : zar l = 0
 ·have hq : (zar l != 0) = false := by simpa using hc
  obtain ⟨h4,hm,_⟩ := zve hc
  have n1 := zJ (n := l.length) (by omega)
  have w1 : IntKind.u64.wrap (l.length : Int) = (l.length : Int) := zcq (by omega)
  rw [zeD,if_pos hc] at hK
  (repeat' first | refine zeN (zbl hq w1) ?_ | with_reducible first | exact ⟨⟩ | refine zh ?_ | fail)
  refine zcF (by omega) (by omega) ?_
  (repeat' first | refine zrY ?_ | with_reducible first | exact ⟨⟩ | refine zh ?_ | fail)
  refine zba l.length (fun k vs s => (∃ T,s = σ ++ T) ∧ vs = [.d (.slice (bcs (b ++ (zcw l.length ++ zim (l.take k))))), .d (.int .i64 k)])
   (.data 0 _ _ rfl rfl (.refl _ _)) ⟨⟨_,rfl⟩,by simp [zim]⟩ ?_
  rintro k vs s hk ⟨⟨T,rfl⟩,rfl⟩
  by_cases hlt : k < l.length
  ·have hd : decide ((k : Int) < (l.length : Int)) = true := by simp; omega
   have hx : l[k]? = some l[k] := by simp [hlt]
   have hgx := zaf (f := zeQ) hx
   have hxs := hs _ (List.getElem_mem hlt)
   have hxm := hm _ (List.getElem_mem hlt)
   obtain ⟨x,hxe⟩ : ∃ x,l[k] = x := ⟨_,rfl⟩
   rw [hxe] at hx hgx hxs hxm
   have hbl := zrD hs hc k
   have hrl := reqBytes_len hxs
   have hpl := zeS (x := zfN x) (by omega)
   obtain ⟨S,hS⟩ : ∃ S, σ ++ T = S := ⟨_,rfl⟩
   rw [hS]
   (repeat' first | refine gq36 (zbl hd hgx) ?_ | with_reducible first | exact ⟨⟩ | refine zh ?_ | fail)
   refine ztB (x := x) hxs ?_
   (repeat' first | refine gq36 (zbl hd hgx) ?_ | with_reducible first | exact ⟨⟩ | refine zh ?_ | fail)
   refine zfD (by omega) (by simp; omega) ?_
   (repeat' first | refine gq36 (zbl hd hgx) ?_ | with_reducible first | exact ⟨⟩ | refine zh ?_ | fail)
   refine c_rPutSign (by simp only [znf,List.length_append] at hpl ⊢; omega) ?_
   (repeat' first | refine zeN (wk1 k (by omega)) ?_ | with_reducible first | exact ⟨⟩ | refine zh ?_ | fail)
   refine zav.next hlt ⟨⟨_,by rw [← hS,List.append_assoc]⟩, ?_⟩
   rw [batchBs_snoc hx]
   simp [oneB,znf,zfN,zlt,hxm.1,hxm.2]
  ·have hd : decide ((k : Int) < (l.length : Int)) = false := by simp; omega
   rw [List.take_of_length_le (by omega)]
   (repeat' first | refine zeN hd ?_ | with_reducible first | exact ⟨⟩ | refine zh ?_ | fail)
   (first | refine zao hl ?_ | refine zan hl ?_)
   exact hK
 ·have hq : (zar l != 0) = true := by simpa using hc
  rw [zeD,if_neg hc,List.append_nil] at hK
  (repeat' first | refine zeN hq ?_ | with_reducible first | exact ⟨⟩ | refine zh ?_ | fail)
  (first | refine zao hl ?_ | refine zan hl ?_)
  exact hK
end Go.Proofs.YtncpaekiidpchaaGreat

/- Contracts: requests sealed, and whether they are valid; a batch's number. -/
set_option maxRecDepth 100000
namespace Go.Proofs.YtncpaekiidpchaaGreat
open Go.AW
theorem zcu.put {σ : List zf} {id m t : Nat} {l : List (List UInt8)} (h : zcu σ id m t l) (l' : List (List UInt8)) : zcu (putTab σ id m t l') id m t l' := by
 obtain ⟨n1,n2,n3⟩ := h.ne
 have h1 := zN h.box; have h2 := zN h.map; have h3 := zN h.tok
 unfold putTab
 refine ⟨?_, ?_, ?_⟩
 ·rw [List.getElem?_set_ne (Ne.symm n1),List.getElem?_set_self (by simpa using h1)]
 ·rw [List.getElem?_set_self (by simpa using h2)]
 ·rw [List.getElem?_set_ne n3,List.getElem?_set_ne n2,List.getElem?_set_self h3]
theorem zeb.put {σ : List zf} {id m t : Nat} {g : List zae} (h : zeb σ id m t g) (g' : List zae) : zeb (putLed σ id m t g') id m t g' := by
 obtain ⟨n1,n2,n3⟩ := h.ne
 have h1 := zN h.box; have h2 := zN h.map; have h3 := zN h.tok
 unfold putLed
 refine ⟨?_, ?_, ?_⟩
 ·rw [List.getElem?_set_self (by simpa using h1)]
 ·rw [List.getElem?_set_ne n1,List.getElem?_set_ne (Ne.symm n3),List.getElem?_set_self h2]
 ·rw [List.getElem?_set_ne n2,List.getElem?_set_self (by simpa using h3)]
theorem apart2 {σ : List zf} {id m t id2 m2 t2 : Nat} {l : List (List UInt8)} {g : List zae} (hT : zcu σ id m t l) (hG : zeb σ id2 m2 t2 g) (h1 : id ≠ id2) (h2 : m ≠ m2) :
  (id ≠ m2 ∧ id ≠ t2) ∧ (m ≠ id2 ∧ m ≠ t2) ∧ (t ≠ id2 ∧ t ≠ m2 ∧ t ≠ t2) := by
 refine ⟨⟨?_, ?_⟩,⟨?_, ?_⟩,⟨?_, ?_, ?_⟩⟩ <;> intro e <;> subst e
 ·have := hT.box; rw [hG.map] at this; cases this
 ·have := hT.box; rw [hG.tok] at this; cases this
 ·have := hT.map; rw [hG.box] at this; cases this
 ·have := hT.map; rw [hG.tok] at this; cases this
 ·have := hT.tok; rw [hG.box] at this; cases this
 ·have := hT.tok; rw [hG.map] at this; cases this
 ·have := hT.tok; rw [hG.tok] at this; cases this
theorem zeb.putTab {σ : List zf} {id m t id2 m2 t2 : Nat} {l : List (List UInt8)} {g : List zae} (hT : zcu σ id m t l) (hG : zeb σ id2 m2 t2 g) (h1 : id ≠ id2) (h2 : m ≠ m2) (l' : List (List UInt8)) :
  zeb (putTab σ id m t l') id2 m2 t2 g := by
 obtain ⟨⟨a1,a2⟩,⟨b1,b2⟩,⟨c1,c2,c3⟩⟩ := apart2 hT hG h1 h2
 unfold Go.Proofs.YtncpaekiidpchaaGreat.putTab
 refine ⟨?_, ?_, ?_⟩
 ·rw [List.getElem?_set_ne b1,List.getElem?_set_ne h1,List.getElem?_set_ne c1]; exact hG.box
 ·rw [List.getElem?_set_ne h2,List.getElem?_set_ne a1,List.getElem?_set_ne c2]; exact hG.map
 ·rw [List.getElem?_set_ne b2,List.getElem?_set_ne a2,List.getElem?_set_ne c3]; exact hG.tok
theorem zcu.putLed {σ : List zf} {id m t id2 m2 t2 : Nat} {l : List (List UInt8)} {g : List zae} (hT : zcu σ id m t l) (hG : zeb σ id2 m2 t2 g) (h1 : id ≠ id2) (h2 : m ≠ m2) (g' : List zae) :
  zcu (putLed σ id2 m2 t2 g') id m t l := by
 obtain ⟨⟨a1,a2⟩,⟨b1,b2⟩,⟨c1,c2,c3⟩⟩ := apart2 hT hG h1 h2
 unfold Go.Proofs.YtncpaekiidpchaaGreat.putLed
 refine ⟨?_, ?_, ?_⟩
 ·rw [List.getElem?_set_ne (Ne.symm h1),List.getElem?_set_ne (Ne.symm a2),List.getElem?_set_ne (Ne.symm a1)]; exact hT.box
 ·rw [List.getElem?_set_ne (Ne.symm b1),List.getElem?_set_ne (Ne.symm b2),List.getElem?_set_ne (Ne.symm h2)]; exact hT.map
 ·rw [List.getElem?_set_ne (Ne.symm c1),List.getElem?_set_ne (Ne.symm c3),List.getElem?_set_ne (Ne.symm c2)]; exact hT.tok
def noSg : zA := ⟨0, 0,noOp, 0, 0⟩
def zou (L : List (List UInt8)) (x : zA) : Int := if zax x ≠ 0 then zax x else zeR (keyF x.client) (zed L (zqF x))
def zsc (L : List (List UInt8)) (x : zA) : zA := if zou L x = 0 then ⟨x.client,x.time,x.op,keyF x.client,zed L (zqF x)⟩ else noSg
def sealL (L : List (List UInt8)) (x : zA) : List (List UInt8) := if zax x ≠ 0 then L else zfk L (zqF x)
def sealG (L : List (List UInt8)) (G : List zae) (x : zA) : List zae := if zax x ≠ 0 then G else zgD G (keyF x.client) (zed L (zqF x))
structure zjY (L : List (List UInt8)) : Prop where
 nd : L.Nodup
 len : L.length ≤ 1048576
 each : ∀ b ∈ L,b.length ≤ 1073741824
theorem zjY.nil : zjY [] := ⟨.nil,by simp,by simp⟩
theorem zjY.sum {L : List (List UInt8)} (h : zjY L) {b : List UInt8} (hb : b.length ≤ 1073741824) : zjY (zfk L b) := by
 unfold zfk
 cases ho : zdD L b with
 | some k => exact h
 | none =>
  simp only
  split
  ·exact h
  ·rename_i hl
   have hn : b ∉ L := fun hm => by
    obtain ⟨i,hi⟩ := List.mem_iff_getElem?.1 hm
    exact zuz ho hm
   refine ⟨?_,by simp; omega,fun x hx => ?_⟩
   ·rw [List.nodup_append]
    refine ⟨h.nd,by simp,fun a ha c hc => ?_⟩
    simp at hc; subst hc
    exact fun e => hn (e ▸ ha)
   ·rcases List.mem_append.1 hx with hx | hx
    ·exact h.each x hx
    ·simp at hx; subst hx; exact hb
end Go.Proofs.YtncpaekiidpchaaGreat
