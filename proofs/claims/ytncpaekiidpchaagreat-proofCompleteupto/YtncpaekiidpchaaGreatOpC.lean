/- Contracts: an operation in memory of its own. -/
import Derived.Test.YtncpaekiidpchaaGreatCl1
import Derived.Test.YtncpaekiidpchaaGreatSh
import Derived.Test.YtncpaekiidpchaaGreatOp1
import Derived.Test.YtncpaekiidpchaaGreatSpUtf
set_option linter.all false
set_option maxRecDepth 100000
namespace Go.Proofs.YtncpaekiidpchaaGreat
open Go.AW
end Go.Proofs.YtncpaekiidpchaaGreat

/- Contracts: which operations are the same, by the reference. -/
set_option maxRecDepth 100000
namespace Go.Proofs.YtncpaekiidpchaaGreat
open Go.AW
end Go.Proofs.YtncpaekiidpchaaGreat

/- Contracts: batches: in memory of their own; which are the same, by the reference. -/
set_option maxRecDepth 100000
namespace Go.Proofs.YtncpaekiidpchaaGreat
open Go.AW
def zor (x : zn) : AV := .agg [.d (.int .i64 x.client), .d (.int .i64 x.time), .d (.int .i64 x.op.kind), .d (.str x.op.topic), .d (.str x.op.group), .d (.int .i64 x.op.offset), .d (.slice (zbU x.op.recs)), .d (.int .i64 x.key), .d (.int .i64 x.dig)]
def reqA (x : zn) : AV := .agg [.d (.int .i64 x.client), .d (.int .i64 x.time), .d (.int .i64 x.op.kind), .d (.str x.op.topic), .d (.str x.op.group), .d (.int .i64 x.op.offset), .d (.slice (zbU x.op.recs))]
end Go.Proofs.YtncpaekiidpchaaGreat

/- Contracts: what is wrong with requests, signatures and batches, on both sides. -/
set_option maxRecDepth 100000
namespace Go.Proofs.YtncpaekiidpchaaGreat
open Go.AW
theorem c_rKey {σ : List zg} {c : Int} {K : KT} (hK : K (.d (.int .i64 (if c < 0 ∨ c ≥ 8 then -1 else 13 + c))) σ) : zD Tryz.prog zkv [.d (.int .i64 c)] σ K := by
 refine zj e_r08_Key.is rfl fun hl _ => e_r08_Key.goes ?_
 have fin : ∀ z,(if c < 0 ∨ c ≥ 8 then -1 else 13 + c) = z → K (.d (.int .i64 z)) σ := fun z h => h ▸ hK
 clear hK
 simp only [S_r08_Key,iN,bT,bF,eN]
 (repeat' (first | (refine gq21 ?_; try with_reducible exact True.intro) | (refine zaJ (fun h => ?_) (fun h => ?_) <;> (try rw [h])) | ((with_reducible refine And.intro ?_ ?_); focus (first | omega | rfl | decide))))
 all_goals
  (first | refine zaq hl ?_ | refine zap hl ?_)
  (try simp only [decide_eq_true_eq,decide_eq_false_iff_not,beq_iff_eq,beq_eq_false_iff_ne,bne_iff_ne,ne_eq,Bool.not_eq_true',Bool.not_eq_false',bne_eq_false_iff_eq] at *)
 ·exact fin _ (by rw [if_pos (by omega)])
 ·exact fin _ (by rw [if_pos (by omega)])
 ·exact fin _ (by rw [if_neg (by omega),zX (by omega) (by omega)])
theorem zsF {P Q : Prop} (h : Q) (e : P = Q := by simp -dsimp only [↓zey, ↓zau, ↓zbj, ↓zeA, ↓zes, ↓zeq, ↓zet, ↓zer, ↓zbo, ↓zbk, ↓zbp, ↓zbl, ↓zeu, ↓zbi, ↓zbq, ↓zbm, ↓zbr, ↓zbn, ↓zep, ↓zew, ↓zbh, ↓zbs, ↓zeg, ↓zef, ↓zeo,iN,bT,bF,eN, ↓zcS, ↓unC, ↓zW, ↓zK, ↓zL, ↓zN, ↓zZ, ↓zaw, ↓zbT, ↓zag, ↓zbu, ↓zP, ↓zq, ↓zo, ↓zby, ↓zl, ↓zaf, ↓zH, ↓zaC, ↓zaG, ↓ze, ↓zC, ↓zt, ↓zw, ↓zan, ↓zcC, ↓zdb, ↓zal, ↓zat, ↓zaF, ↓zaP, ↓zaW, ↓zu, ↓zai, ↓zM, ↓zA, ↓zaa,zdi,zbd,zba,unA,zdk,bnd,zdw,zac,zS,zdy,dm,dm1,zB,zak,zdP,zdO,zQ,Q0,Q1,Q2,Q3,Q4,Q5,zR,zr,zy,zO,zI,Q6,Q7,Q8,Q9,Q10,Q11,Q12,Q13,Q14,Nat.reduceAdd,Q15,Int.reduceToNat,Q16,Q17,Q18,Q19,Q20,reduceIte,Q21,Q22,zE,rep,zV,zdG,toD,zab,Q23,Q24,Q25,Q26,Q27,Q28,Nat.reduceLeDiff,Q29,Nat.reduceSub,Q30,Q31,Q32,sc,Q33,Q34,Q35,Q36,Q37,Q26,Q38,Q39,zgH,zgE,zgB,zgI,zcf,zgF,zgC,zgG,zgD,zce,zcg,zgJ,zgK,Bool.not_true,Bool.not_false,List.length_map]; rfl) : P := e.mpr h
theorem zfU {A P Q : Prop} (a : A) (h : Q) (e : A → P = Q := by intro a; simp -dsimp only [↓zey, ↓zau, ↓zbj, ↓zeA, ↓zes, ↓zeq, ↓zet, ↓zer, ↓zbo, ↓zbk, ↓zbp, ↓zbl, ↓zeu, ↓zbi, ↓zbq, ↓zbm, ↓zbr, ↓zbn, ↓zep, ↓zew, ↓zbh, ↓zbs, ↓zeg, ↓zef, ↓zeo,iN,bT,bF,eN, ↓zcS, ↓unC, ↓zW, ↓zK, ↓zL, ↓zN, ↓zZ, ↓zaw, ↓zbT, ↓zag, ↓zbu, ↓zP, ↓zq, ↓zo, ↓zby, ↓zl, ↓zaf, ↓zH, ↓zaC, ↓zaG, ↓ze, ↓zC, ↓zt, ↓zw, ↓zan, ↓zcC, ↓zdb, ↓zal, ↓zat, ↓zaF, ↓zaP, ↓zaW, ↓zu, ↓zai, ↓zM, ↓zA, ↓zaa,zdi,zbd,zba,unA,zdk,bnd,zdw,zac,zS,zdy,dm,dm1,zB,zak,zdP,zdO,zQ,Q0,Q1,Q2,Q3,Q4,Q5,zR,zr,zy,zO,zI,Q6,Q7,Q8,Q9,Q10,Q11,Q12,Q13,Q14,Nat.reduceAdd,Q15,Int.reduceToNat,Q16,Q17,Q18,Q19,Q20,reduceIte,Q21,Q22,zE,rep,zV,zdG,toD,zab,Q23,Q24,Q25,Q26,Q27,Q28,Nat.reduceLeDiff,Q29,Nat.reduceSub,Q30,Q31,Q32,sc,Q33,Q34,Q35,Q36,Q37,Q26,Q38,Q39,zgH,zgE,zgB,zgI,zcf,zgF,zgC,zgG,zgD,zce,zcg,zgJ,zgK,Bool.not_true,Bool.not_false,List.length_map,a]; rfl) : P := (e a).mpr h
theorem ztj {σ : List zg} {x : zn} (hx : okO x.op) {K : KT} (hK : K (.d (.int .i64 (zas x))) σ) : zD Tryz.prog zjp [reqA x] σ K := by
 refine zj zrb.is rfl fun hl _ => zrb.goes ?_
 have fin : ∀ z,zas x = z → K (.d (.int .i64 z)) σ := fun z h => h ▸ hK
 clear hK
 simp only [zrG,iN,bT,bF,eN,reqA]
 (repeat' first | refine zsF ?_ | with_reducible first | exact ⟨⟩ | refine zh ?_ | fail)
 refine c_rKey ?_
 by_cases hc : x.client < 0 ∨ x.client ≥ 8
 ·rw [if_pos hc]
  (repeat' first | refine zfU (show decide ((-1 : Int) < 0) = true from rfl) ?_ | with_reducible first | exact ⟨⟩ | refine zh ?_ | fail)
  (first | refine zaq hl ?_ | refine zap hl ?_)
  exact fin _ (by rw [zas,if_pos (by omega)])
 ·rw [if_neg hc]
  have h0 : decide (13 + x.client < 0) = false := by simp; omega
  (refine gq26 h0 ?_; try with_reducible exact True.intro)
  (repeat' (first | (refine gq21 ?_; try with_reducible exact True.intro) | (refine zaJ (fun h => ?_) (fun h => ?_) <;> (try rw [h])) | ((with_reducible refine And.intro ?_ ?_); focus (first | omega | rfl | decide))))
  all_goals first
   | (
    (first | refine zaq hl ?_ | refine zap hl ?_)
    (try simp only [decide_eq_true_eq,decide_eq_false_iff_not,beq_iff_eq,beq_eq_false_iff_ne,bne_iff_ne,ne_eq,Bool.not_eq_true',Bool.not_eq_false',bne_eq_false_iff_eq] at *)
    exact fin _ (by rw [zas,if_pos (by omega)]))
   | skip
  refine zuo (o := x.op) hx.1 hx.2.1 hx.2.2.1 ?_
  (repeat' first | refine zsF ?_ | with_reducible first | exact ⟨⟩ | refine zh ?_ | fail)
  (first | refine zaq hl ?_ | refine zap hl ?_)
  (try simp only [decide_eq_true_eq,decide_eq_false_iff_not,beq_iff_eq,beq_eq_false_iff_ne,bne_iff_ne,ne_eq,Bool.not_eq_true',Bool.not_eq_false',bne_eq_false_iff_eq] at *)
  exact fin _ (by rw [zas,if_neg (by omega)])
theorem zuk {σ : List zg} {k d : Int} {K : KT} (hK : K (.d (.int .i64 (zar k d))) σ) : zD Tryz.prog zei [.agg [.d (.int .i64 k), .d (.int .i64 d)]] σ K := by
 refine zj zhd.is rfl fun hl _ => zhd.goes ?_
 have fin : ∀ z,zar k d = z → K (.d (.int .i64 z)) σ := fun z h => h ▸ hK
 clear hK
 simp only [zhq,iN,bT,bF,eN]
 (repeat' (first | (refine gq21 ?_; try with_reducible exact True.intro) | (refine zaJ (fun h => ?_) (fun h => ?_) <;> (try rw [h])) | ((with_reducible refine And.intro ?_ ?_); focus (first | omega | rfl | decide))))
 all_goals
  (first | refine zaq hl ?_ | refine zap hl ?_)
  (try simp only [decide_eq_true_eq,decide_eq_false_iff_not,beq_iff_eq,beq_eq_false_iff_ne,bne_iff_ne,ne_eq,Bool.not_eq_true',Bool.not_eq_false',bne_eq_false_iff_eq] at *)
  first | exact fin _ (by rw [zar,if_pos (by omega)]) | exact fin _ (by rw [zar,if_neg (by omega)])
theorem zma {σ : List zg} {k d : Int} {K : KT} (hK : K (.d (.int .i64 (zar k d))) σ) : zD Tryz.prog zeQ [.agg [.d (.int .i64 k), .d (.int .i64 d)]] σ K := by
 refine zj zkJ.is rfl fun hl _ => zkJ.goes ?_
 have fin : ∀ z,zar k d = z → K (.d (.int .i64 z)) σ := fun z h => h ▸ hK
 clear hK
 simp only [zla,iN,bT,bF,eN]
 (repeat' (first | (refine gq21 ?_; try with_reducible exact True.intro) | (refine zaJ (fun h => ?_) (fun h => ?_) <;> (try rw [h])) | ((with_reducible refine And.intro ?_ ?_); focus (first | omega | rfl | decide))))
 all_goals
  (first | refine zaq hl ?_ | refine zap hl ?_)
  (try simp only [decide_eq_true_eq,decide_eq_false_iff_not,beq_iff_eq,beq_eq_false_iff_ne,bne_iff_ne,ne_eq,Bool.not_eq_true',Bool.not_eq_false',bne_eq_false_iff_eq] at *)
  first | exact fin _ (by rw [zar,if_pos (by omega)]) | exact fin _ (by rw [zar,if_neg (by omega)])
end Go.Proofs.YtncpaekiidpchaaGreat

/- Contracts: what is wrong with batches, on both sides. -/
set_option maxRecDepth 100000
namespace Go.Proofs.YtncpaekiidpchaaGreat
open Go.AW
theorem wk1 (k : Nat) (h : k ≤ 1073741824) : IntKind.i64.wrap ((k : Int) + 1) = ((k + 1 : Nat) : Int) := by rw [zX (by omega) (by omega)]; rfl
theorem gq30 {A P Q : Prop} (a : A) (h : Q) (e : A → P = Q := by intro a; simp -dsimp only [↓zey, ↓zau, ↓zbj, ↓zeA, ↓zes, ↓zeq, ↓zet, ↓zer, ↓zbo, ↓zbk, ↓zbp, ↓zbl, ↓zeu, ↓zbi, ↓zbq, ↓zbm, ↓zbr, ↓zbn, ↓zep, ↓zew, ↓zbh, ↓zbs, ↓zeg, ↓zef, ↓zeo,iN,bT,bF,eN, ↓zcS, ↓unC, ↓zW, ↓zK, ↓zL, ↓zN, ↓zZ, ↓zaw, ↓zbT, ↓zag, ↓zbu, ↓zP, ↓zq, ↓zo, ↓zby, ↓zl, ↓zaf, ↓zH, ↓zaC, ↓zaG, ↓ze, ↓zC, ↓zt, ↓zw, ↓zan, ↓zcC, ↓zdb, ↓zal, ↓zat, ↓zaF, ↓zaP, ↓zaW, ↓zu, ↓zai, ↓zM, ↓zA, ↓zaa,zdi,zbd,zba,unA,zdk,bnd,zdw,zac,zS,zdy,dm,dm1,zB,zak,zdP,zdO,zQ,Q0,Q1,Q2,Q3,Q4,Q5,zR,zr,zy,zO,zI,Q6,Q7,Q8,Q9,Q10,Q11,Q12,Q13,Q14,Nat.reduceAdd,Q15,Int.reduceToNat,Q16,Q17,Q18,Q19,Q20,reduceIte,Q21,Q22,zE,rep,zV,zdG,toD,zab,Q23,Q24,Q25,Q26,Q27,Q28,Nat.reduceLeDiff,Q29,Nat.reduceSub,Q30,Q31,Q32,sc,Q33,Q34,Q35,Q36,Q37,Q26,Q38,Q39,zgH,zgE,zgB,zgI,zcf,zgF,zgC,zgG,zgD,zce,zcg,zgJ,zgK,Bool.not_true,Bool.not_false,List.length_map,zic,a]; rfl) : P := (e a).mpr h
theorem znI {σ : List zg} {b : List zn} (hb : okB b) {K : KT} (hK : K (.d (.int .i64 (zaj b))) σ) : zD Tryz.prog zea [.d (.slice (ziS b))] σ K := by
 refine zj zjL.is rfl fun hl _ => zjL.goes ?_
 have fin : ∀ z,zaj b = z → K (.d (.int .i64 z)) σ := fun z h => h ▸ hK
 clear hK
 obtain ⟨hb1,hb2⟩ := hb
 simp only [zjV,iN,bT,bF,eN]
 cases h4 : decide ((b.length : Int) > 4)
 rotate_left
 ·(repeat' first | refine zfU h4 ?_ | with_reducible first | exact ⟨⟩ | refine zh ?_ | fail)
  (first | refine zaq hl ?_ | refine zap hl ?_)
  exact fin _ (by rw [zaj,if_pos (by simp at h4; omega)])
 have h4' : ¬ b.length > 4 := by simp at h4; omega
 (repeat' first | refine zfU h4 ?_ | with_reducible first | exact ⟨⟩ | refine zh ?_ | fail)
 refine zG b.length (fun k vs s => vs = [.d (.int .i64 k)] ∧ s = σ ∧ zkH (b.take k) = 0) ⟨rfl,rfl,rfl⟩ ?_
 rintro k vs s hk ⟨rfl,rfl,he⟩
 by_cases hlt : k < b.length
 ·have hd : decide ((k : Int) < (b.length : Int)) = true := by simp; omega
  have hx : b[k]? = some b[k] := by simp [hlt]
  have hbx := hb2 _ (List.getElem_mem hlt)
  have hgx := zae (f := zic) hx
  obtain ⟨x,hxe⟩ : ∃ x,b[k] = x := ⟨_,rfl⟩
  rw [hxe] at hx hgx hbx
  have bad : errF x ≠ 0 → K (.d (.int .i64 (errF x))) s := fun h => fin _ (by rw [zaj,if_neg h4',if_pos (by rw [zsL hx he h]; exact h)]; exact zsL hx he h)
  (repeat' first | refine gq30 (zdv hd hgx) ?_ | with_reducible first | exact ⟨⟩ | refine zh ?_ | fail)
  refine ztj (x := x) hbx ?_
  cases h1 : (zas x != 0)
  rotate_left
  ·have h1' : zas x ≠ 0 := by simpa using h1
   (repeat' first | refine zfU h1 ?_ | with_reducible first | exact ⟨⟩ | refine zh ?_ | fail)
   (first | refine zaq hl ?_ | refine zap hl ?_)
   have e : errF x = zas x := by rw [errF,if_pos h1']
   rw [e] at bad
   exact bad h1'
  (repeat' first | refine gq30 (zdv h1 hgx) ?_ | with_reducible first | exact ⟨⟩ | refine zh ?_ | fail)
  have h1' : ¬ zas x ≠ 0 := by simpa using h1
  have e : errF x = zar x.key x.dig := by rw [errF,if_neg h1']
  refine zma ?_
  cases h2 : (zar x.key x.dig != 0)
  rotate_left
  ·(repeat' first | refine zfU h2 ?_ | with_reducible first | exact ⟨⟩ | refine zh ?_ | fail)
   (first | refine zaq hl ?_ | refine zap hl ?_)
   rw [e] at bad
   exact bad (by simpa using h2)
  (repeat' first | refine zfU (zdv h2 (wk1 k (by omega))) ?_ | with_reducible first | exact ⟨⟩ | refine zh ?_ | fail)
  exact zav.next hlt ⟨rfl,rfl,errsF_snoc hx he (by rw [e]; simpa using h2)⟩
 ·have hn : k = b.length := by omega
  subst hn
  rw [List.take_length] at he
  have hd : decide ((b.length : Int) < (b.length : Int)) = false := by simp
  (repeat' first | refine zfU hd ?_ | with_reducible first | exact ⟨⟩ | refine zh ?_ | fail)
  refine zG b.length (fun k vs q => vs = [.d (.int .i64 k)] ∧ q = s ∧ (b.take k).Pairwise ndup) ⟨rfl,rfl,by simp⟩ ?_
  rintro k vs s hk' ⟨rfl,rfl,hp⟩
  by_cases hlt : k < b.length
  ·have hd : decide ((k : Int) < (b.length : Int)) = true := by simp; omega
   have hx : b[k]? = some b[k] := by simp [hlt]
   have hgx := zae (f := zic) hx
   obtain ⟨x,hxe⟩ : ∃ x,b[k] = x := ⟨_,rfl⟩
   rw [hxe] at hx hgx
   (repeat' first | refine zfU hd ?_ | with_reducible first | exact ⟨⟩ | refine zh ?_ | fail)
   refine zG k (fun j vs q => vs = [.d (.int .i64 j)] ∧ q = s ∧ ∀ y ∈ b.take j, ¬ (x.client = y.client ∧ x.time = y.time)) ⟨rfl,rfl,by simp⟩ ?_
   rintro j vs s hj ⟨rfl,rfl,hno⟩
   by_cases hjk : j < k
   ·have hd : decide ((j : Int) < (k : Int)) = true := by simp; omega
    have hy : b[j]? = some (b[j]'(by omega)) := List.getElem?_eq_getElem _
    have hgy := zae (f := zic) hy
    obtain ⟨y,hye⟩ : ∃ y,b[j]'(by omega) = y := ⟨_,rfl⟩
    rw [hye] at hy hgy
    have hyt : b.take (j + 1) = b.take j ++ [y] := by rw [List.take_add_one,hy]; rfl
    have next : ¬ (x.client = y.client ∧ x.time = y.time) → ∀ z ∈ b.take (j + 1), ¬ (x.client = z.client ∧ x.time = z.time) := fun h z hz => by
     rw [hyt] at hz
     rcases List.mem_append.1 hz with hz | hz
     ·exact hno z hz
     ·simp at hz; subst hz; exact h
    cases h1 : (x.client == y.client)
    ·(repeat' first | refine gq30 (zdv hd (zdv hgx (zdv hgy (zdv h1 (wk1 j (by omega)))))) ?_ | with_reducible first | exact ⟨⟩ | refine zh ?_ | fail)
     exact zav.next hjk ⟨rfl,rfl,next (by simp at h1; exact fun h => h1 h.1)⟩
    cases h2 : (x.time == y.time)
    ·(repeat' first | refine gq30 (zdv hd (zdv hgx (zdv hgy (zdv h1 (zdv h2 (wk1 j (by omega))))))) ?_ | with_reducible first | exact ⟨⟩ | refine zh ?_ | fail)
     exact zav.next hjk ⟨rfl,rfl,next (by simp at h2; exact fun h => h2 h.2)⟩
    ·(repeat' first | refine gq30 (zdv hd (zdv hgx (zdv hgy (zdv h1 h2)))) ?_ | with_reducible first | exact ⟨⟩ | refine zh ?_ | fail)
     (first | refine zaq hl ?_ | refine zap hl ?_)
     have hnp := pairs_not hx hy hjk ⟨by simpa using h1,by simpa using h2⟩
     exact fin _ (by rw [zaj,if_neg h4',if_neg (by simpa using he),if_neg hnp])
   ·have hd : decide ((j : Int) < (k : Int)) = false := by simp; omega
    have hn : j = k := by omega
    subst hn
    (repeat' first | refine zfU (zdv hd (wk1 j (by omega))) ?_ | with_reducible first | exact ⟨⟩ | refine zh ?_ | fail)
    exact zav.next hlt ⟨rfl,rfl,pairs_snoc hx hp hno⟩
  ·have hd : decide ((k : Int) < (b.length : Int)) = false := by simp; omega
   (repeat' first | refine zfU hd ?_ | with_reducible first | exact ⟨⟩ | refine zh ?_ | fail)
   (first | refine zaq hl ?_ | refine zap hl ?_)
   have hn : k = b.length := by omega
   subst hn
   rw [List.take_length] at hp
   exact fin _ (by rw [zaj,if_neg h4',if_neg (by simpa using he),if_pos hp])
end Go.Proofs.YtncpaekiidpchaaGreat
