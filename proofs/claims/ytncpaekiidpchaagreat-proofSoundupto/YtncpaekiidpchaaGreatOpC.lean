/- Contracts: an operation in memory of its own. -/
import Derived.Test.YtncpaekiidpchaaGreatCl1
import Derived.Test.YtncpaekiidpchaaGreatSh
import Derived.Test.YtncpaekiidpchaaGreatOp1
import Derived.Test.YtncpaekiidpchaaGreatSpUtf
set_option linter.all false
set_option maxRecDepth 100000
namespace Go.Proofs.YtncpaekiidpchaaGreat
open Go.AW
end Go.Proofs.YtncpaekiidpchaaGreat

/- Contracts: which operations are the same, by the reference. -/
set_option maxRecDepth 100000
namespace Go.Proofs.YtncpaekiidpchaaGreat
open Go.AW
end Go.Proofs.YtncpaekiidpchaaGreat

/- Contracts: batches: in memory of their own; which are the same, by the reference. -/
set_option maxRecDepth 100000
namespace Go.Proofs.YtncpaekiidpchaaGreat
open Go.AW
def zoq (x : zn) : AV := .agg [.d (.int .i64 x.client), .d (.int .i64 x.time), .d (.int .i64 x.op.kind), .d (.str x.op.topic), .d (.str x.op.group), .d (.int .i64 x.op.offset), .d (.slice (zbV x.op.recs)), .d (.int .i64 x.key), .d (.int .i64 x.dig)]
def reqA (x : zn) : AV := .agg [.d (.int .i64 x.client), .d (.int .i64 x.time), .d (.int .i64 x.op.kind), .d (.str x.op.topic), .d (.str x.op.group), .d (.int .i64 x.op.offset), .d (.slice (zbV x.op.recs))]
end Go.Proofs.YtncpaekiidpchaaGreat

/- Contracts: what is wrong with requests, signatures and batches, on both sides. -/
set_option maxRecDepth 100000
namespace Go.Proofs.YtncpaekiidpchaaGreat
open Go.AW
theorem c_rKey {σ : List zg} {c : Int} {K : KT} (hK : K (.d (.int .i64 (if c < 0 ∨ c ≥ 8 then -1 else 13 + c))) σ) : zE Tryz.prog zkC [.d (.int .i64 c)] σ K := by
 refine zi e_r08_Key.is rfl fun hl _ => e_r08_Key.goes ?_
 have fin : ∀ z,(if c < 0 ∨ c ≥ 8 then -1 else 13 + c) = z → K (.d (.int .i64 z)) σ := fun z h => h ▸ hK
 clear hK
 simp only [S_r08_Key,iN,bT,bF,eN]
 (repeat' (first | (refine gq21 ?_; try with_reducible exact True.intro) | (refine zaI (fun h => ?_) (fun h => ?_) <;> (try rw [h])) | ((with_reducible refine And.intro ?_ ?_); focus (first | omega | rfl | decide))))
 all_goals
  (first | refine zar hl ?_ | refine zaq hl ?_)
  (try simp only [decide_eq_true_eq,decide_eq_false_iff_not,beq_iff_eq,beq_eq_false_iff_ne,bne_iff_ne,ne_eq,Bool.not_eq_true',Bool.not_eq_false',bne_eq_false_iff_eq] at *)
 ·exact fin _ (by rw [if_pos (by omega)])
 ·exact fin _ (by rw [if_pos (by omega)])
 ·exact fin _ (by rw [if_neg (by omega),zY (by omega) (by omega)])
theorem zsM {P Q : Prop} (h : Q) (e : P = Q := by simp -dsimp only [↓zes, ↓zaw, ↓zbf, ↓zet, ↓zen, ↓zel, ↓zeo, ↓zem, ↓zbk, ↓zbg, ↓zbl, ↓zbh, ↓zep, ↓zbe, ↓zbm, ↓zbi, ↓zbn, ↓zbj, ↓zek, ↓zeq, ↓zbd, ↓zbo, ↓zef, ↓zee, ↓zej,iN,bT,bF,eN, ↓zcS, ↓unC, ↓zU, ↓zK, ↓zL, ↓zN, ↓zZ, ↓zax, ↓zbQ, ↓zaf, ↓zbp, ↓zP, ↓zq, ↓zo, ↓zbu, ↓zl, ↓zah, ↓zI, ↓zaD, ↓zaG, ↓ze, ↓zC, ↓zt, ↓zw, ↓zan, ↓zcC, ↓zcV, ↓zal, ↓zat, ↓zaE, ↓zaN, ↓zaS, ↓zu, ↓zai, ↓zM, ↓zA, ↓zaa,zcZ,zba,zaV,unA,zdg,bnd,zdy,zad,zS,zdz,dm,dm1,zB,zak,zdQ,zdP,zR,Q0,Q1,Q2,Q3,Q4,Q5,zQ,zr,zy,zO,zH,Q6,Q7,Q8,Q9,Q10,Q11,Q12,Q13,Q14,Nat.reduceAdd,Q15,Int.reduceToNat,Q16,Q17,Q18,Q19,Q20,reduceIte,Q21,Q22,zD,rep,zV,zdK,toD,zac,Q23,Q24,Q25,Q26,Q27,Q28,Nat.reduceLeDiff,Q29,Nat.reduceSub,Q30,Q31,Q32,sc,Q33,Q34,Q35,Q36,Q37,Q26,Q38,Q39,zgF,zgC,zgz,zgG,zcb,zgD,zgA,zgE,zgB,zca,zcc,zgK,zgL,Bool.not_true,Bool.not_false,List.length_map]; rfl) : P := e.mpr h
theorem zgM {A P Q : Prop} (a : A) (h : Q) (e : A → P = Q := by intro a; simp -dsimp only [↓zes, ↓zaw, ↓zbf, ↓zet, ↓zen, ↓zel, ↓zeo, ↓zem, ↓zbk, ↓zbg, ↓zbl, ↓zbh, ↓zep, ↓zbe, ↓zbm, ↓zbi, ↓zbn, ↓zbj, ↓zek, ↓zeq, ↓zbd, ↓zbo, ↓zef, ↓zee, ↓zej,iN,bT,bF,eN, ↓zcS, ↓unC, ↓zU, ↓zK, ↓zL, ↓zN, ↓zZ, ↓zax, ↓zbQ, ↓zaf, ↓zbp, ↓zP, ↓zq, ↓zo, ↓zbu, ↓zl, ↓zah, ↓zI, ↓zaD, ↓zaG, ↓ze, ↓zC, ↓zt, ↓zw, ↓zan, ↓zcC, ↓zcV, ↓zal, ↓zat, ↓zaE, ↓zaN, ↓zaS, ↓zu, ↓zai, ↓zM, ↓zA, ↓zaa,zcZ,zba,zaV,unA,zdg,bnd,zdy,zad,zS,zdz,dm,dm1,zB,zak,zdQ,zdP,zR,Q0,Q1,Q2,Q3,Q4,Q5,zQ,zr,zy,zO,zH,Q6,Q7,Q8,Q9,Q10,Q11,Q12,Q13,Q14,Nat.reduceAdd,Q15,Int.reduceToNat,Q16,Q17,Q18,Q19,Q20,reduceIte,Q21,Q22,zD,rep,zV,zdK,toD,zac,Q23,Q24,Q25,Q26,Q27,Q28,Nat.reduceLeDiff,Q29,Nat.reduceSub,Q30,Q31,Q32,sc,Q33,Q34,Q35,Q36,Q37,Q26,Q38,Q39,zgF,zgC,zgz,zgG,zcb,zgD,zgA,zgE,zgB,zca,zcc,zgK,zgL,Bool.not_true,Bool.not_false,List.length_map,a]; rfl) : P := (e a).mpr h
theorem ztq {σ : List zg} {x : zn} (hx : okO x.op) {K : KT} (hK : K (.d (.int .i64 (zas x))) σ) : zE Tryz.prog zju [reqA x] σ K := by
 refine zi zri.is rfl fun hl _ => zri.goes ?_
 have fin : ∀ z,zas x = z → K (.d (.int .i64 z)) σ := fun z h => h ▸ hK
 clear hK
 simp only [zrN,iN,bT,bF,eN,reqA]
 (repeat' first | refine zsM ?_ | with_reducible first | exact ⟨⟩ | refine zh ?_ | fail)
 refine c_rKey ?_
 by_cases hc : x.client < 0 ∨ x.client ≥ 8
 ·rw [if_pos hc]
  (repeat' first | refine zgM (show decide ((-1 : Int) < 0) = true from rfl) ?_ | with_reducible first | exact ⟨⟩ | refine zh ?_ | fail)
  (first | refine zar hl ?_ | refine zaq hl ?_)
  exact fin _ (by rw [zas,if_pos (by omega)])
 ·rw [if_neg hc]
  have h0 : decide (13 + x.client < 0) = false := by simp; omega
  (refine gq26 h0 ?_; try with_reducible exact True.intro)
  (repeat' (first | (refine gq21 ?_; try with_reducible exact True.intro) | (refine zaI (fun h => ?_) (fun h => ?_) <;> (try rw [h])) | ((with_reducible refine And.intro ?_ ?_); focus (first | omega | rfl | decide))))
  all_goals first
   | (
    (first | refine zar hl ?_ | refine zaq hl ?_)
    (try simp only [decide_eq_true_eq,decide_eq_false_iff_not,beq_iff_eq,beq_eq_false_iff_ne,bne_iff_ne,ne_eq,Bool.not_eq_true',Bool.not_eq_false',bne_eq_false_iff_eq] at *)
    exact fin _ (by rw [zas,if_pos (by omega)]))
   | skip
  refine zux (o := x.op) hx.1 hx.2.1 hx.2.2.1 ?_
  (repeat' first | refine zsM ?_ | with_reducible first | exact ⟨⟩ | refine zh ?_ | fail)
  (first | refine zar hl ?_ | refine zaq hl ?_)
  (try simp only [decide_eq_true_eq,decide_eq_false_iff_not,beq_iff_eq,beq_eq_false_iff_ne,bne_iff_ne,ne_eq,Bool.not_eq_true',Bool.not_eq_false',bne_eq_false_iff_eq] at *)
  exact fin _ (by rw [zas,if_neg (by omega)])
theorem zut {σ : List zg} {k d : Int} {K : KT} (hK : K (.d (.int .i64 (zau k d))) σ) : zE Tryz.prog zey [.agg [.d (.int .i64 k), .d (.int .i64 d)]] σ K := by
 refine zi zhj.is rfl fun hl _ => zhj.goes ?_
 have fin : ∀ z,zau k d = z → K (.d (.int .i64 z)) σ := fun z h => h ▸ hK
 clear hK
 simp only [zhv,iN,bT,bF,eN]
 (repeat' (first | (refine gq21 ?_; try with_reducible exact True.intro) | (refine zaI (fun h => ?_) (fun h => ?_) <;> (try rw [h])) | ((with_reducible refine And.intro ?_ ?_); focus (first | omega | rfl | decide))))
 all_goals
  (first | refine zar hl ?_ | refine zaq hl ?_)
  (try simp only [decide_eq_true_eq,decide_eq_false_iff_not,beq_iff_eq,beq_eq_false_iff_ne,bne_iff_ne,ne_eq,Bool.not_eq_true',Bool.not_eq_false',bne_eq_false_iff_eq] at *)
  first | exact fin _ (by rw [zau,if_pos (by omega)]) | exact fin _ (by rw [zau,if_neg (by omega)])
theorem zmj {σ : List zg} {k d : Int} {K : KT} (hK : K (.d (.int .i64 (zau k d))) σ) : zE Tryz.prog zeU [.agg [.d (.int .i64 k), .d (.int .i64 d)]] σ K := by
 refine zi zkO.is rfl fun hl _ => zkO.goes ?_
 have fin : ∀ z,zau k d = z → K (.d (.int .i64 z)) σ := fun z h => h ▸ hK
 clear hK
 simp only [zlh,iN,bT,bF,eN]
 (repeat' (first | (refine gq21 ?_; try with_reducible exact True.intro) | (refine zaI (fun h => ?_) (fun h => ?_) <;> (try rw [h])) | ((with_reducible refine And.intro ?_ ?_); focus (first | omega | rfl | decide))))
 all_goals
  (first | refine zar hl ?_ | refine zaq hl ?_)
  (try simp only [decide_eq_true_eq,decide_eq_false_iff_not,beq_iff_eq,beq_eq_false_iff_ne,bne_iff_ne,ne_eq,Bool.not_eq_true',Bool.not_eq_false',bne_eq_false_iff_eq] at *)
  first | exact fin _ (by rw [zau,if_pos (by omega)]) | exact fin _ (by rw [zau,if_neg (by omega)])
end Go.Proofs.YtncpaekiidpchaaGreat

/- Contracts: what is wrong with batches, on both sides. -/
set_option maxRecDepth 100000
namespace Go.Proofs.YtncpaekiidpchaaGreat
open Go.AW
theorem wk1 (k : Nat) (h : k ≤ 1073741824) : IntKind.i64.wrap ((k : Int) + 1) = ((k + 1 : Nat) : Int) := by rw [zY (by omega) (by omega)]; rfl
theorem gq30 {A P Q : Prop} (a : A) (h : Q) (e : A → P = Q := by intro a; simp -dsimp only [↓zes, ↓zaw, ↓zbf, ↓zet, ↓zen, ↓zel, ↓zeo, ↓zem, ↓zbk, ↓zbg, ↓zbl, ↓zbh, ↓zep, ↓zbe, ↓zbm, ↓zbi, ↓zbn, ↓zbj, ↓zek, ↓zeq, ↓zbd, ↓zbo, ↓zef, ↓zee, ↓zej,iN,bT,bF,eN, ↓zcS, ↓unC, ↓zU, ↓zK, ↓zL, ↓zN, ↓zZ, ↓zax, ↓zbQ, ↓zaf, ↓zbp, ↓zP, ↓zq, ↓zo, ↓zbu, ↓zl, ↓zah, ↓zI, ↓zaD, ↓zaG, ↓ze, ↓zC, ↓zt, ↓zw, ↓zan, ↓zcC, ↓zcV, ↓zal, ↓zat, ↓zaE, ↓zaN, ↓zaS, ↓zu, ↓zai, ↓zM, ↓zA, ↓zaa,zcZ,zba,zaV,unA,zdg,bnd,zdy,zad,zS,zdz,dm,dm1,zB,zak,zdQ,zdP,zR,Q0,Q1,Q2,Q3,Q4,Q5,zQ,zr,zy,zO,zH,Q6,Q7,Q8,Q9,Q10,Q11,Q12,Q13,Q14,Nat.reduceAdd,Q15,Int.reduceToNat,Q16,Q17,Q18,Q19,Q20,reduceIte,Q21,Q22,zD,rep,zV,zdK,toD,zac,Q23,Q24,Q25,Q26,Q27,Q28,Nat.reduceLeDiff,Q29,Nat.reduceSub,Q30,Q31,Q32,sc,Q33,Q34,Q35,Q36,Q37,Q26,Q38,Q39,zgF,zgC,zgz,zgG,zcb,zgD,zgA,zgE,zgB,zca,zcc,zgK,zgL,Bool.not_true,Bool.not_false,List.length_map,zie,a]; rfl) : P := (e a).mpr h
theorem znM {σ : List zg} {b : List zn} (hb : okB b) {K : KT} (hK : K (.d (.int .i64 (zam b))) σ) : zE Tryz.prog zeg [.d (.slice (zkb b))] σ K := by
 refine zi zjQ.is rfl fun hl _ => zjQ.goes ?_
 have fin : ∀ z,zam b = z → K (.d (.int .i64 z)) σ := fun z h => h ▸ hK
 clear hK
 obtain ⟨hb1,hb2⟩ := hb
 simp only [zkd,iN,bT,bF,eN]
 cases h4 : decide ((b.length : Int) > 4)
 rotate_left
 ·(repeat' first | refine zgM h4 ?_ | with_reducible first | exact ⟨⟩ | refine zh ?_ | fail)
  (first | refine zar hl ?_ | refine zaq hl ?_)
  exact fin _ (by rw [zam,if_pos (by simp at h4; omega)])
 have h4' : ¬ b.length > 4 := by simp at h4; omega
 (repeat' first | refine zgM h4 ?_ | with_reducible first | exact ⟨⟩ | refine zh ?_ | fail)
 refine zG b.length (fun k vs s => vs = [.d (.int .i64 k)] ∧ s = σ ∧ zkM (b.take k) = 0) ⟨rfl,rfl,rfl⟩ ?_
 rintro k vs s hk ⟨rfl,rfl,he⟩
 by_cases hlt : k < b.length
 ·have hd : decide ((k : Int) < (b.length : Int)) = true := by simp; omega
  have hx : b[k]? = some b[k] := by simp [hlt]
  have hbx := hb2 _ (List.getElem_mem hlt)
  have hgx := zae (f := zie) hx
  obtain ⟨x,hxe⟩ : ∃ x,b[k] = x := ⟨_,rfl⟩
  rw [hxe] at hx hgx hbx
  have bad : errF x ≠ 0 → K (.d (.int .i64 (errF x))) s := fun h => fin _ (by rw [zam,if_neg h4',if_pos (by rw [zsR hx he h]; exact h)]; exact zsR hx he h)
  (repeat' first | refine gq30 (zdA hd hgx) ?_ | with_reducible first | exact ⟨⟩ | refine zh ?_ | fail)
  refine ztq (x := x) hbx ?_
  cases h1 : (zas x != 0)
  rotate_left
  ·have h1' : zas x ≠ 0 := by simpa using h1
   (repeat' first | refine zgM h1 ?_ | with_reducible first | exact ⟨⟩ | refine zh ?_ | fail)
   (first | refine zar hl ?_ | refine zaq hl ?_)
   have e : errF x = zas x := by rw [errF,if_pos h1']
   rw [e] at bad
   exact bad h1'
  (repeat' first | refine gq30 (zdA h1 hgx) ?_ | with_reducible first | exact ⟨⟩ | refine zh ?_ | fail)
  have h1' : ¬ zas x ≠ 0 := by simpa using h1
  have e : errF x = zau x.key x.dig := by rw [errF,if_neg h1']
  refine zmj ?_
  cases h2 : (zau x.key x.dig != 0)
  rotate_left
  ·(repeat' first | refine zgM h2 ?_ | with_reducible first | exact ⟨⟩ | refine zh ?_ | fail)
   (first | refine zar hl ?_ | refine zaq hl ?_)
   rw [e] at bad
   exact bad (by simpa using h2)
  (repeat' first | refine zgM (zdA h2 (wk1 k (by omega))) ?_ | with_reducible first | exact ⟨⟩ | refine zh ?_ | fail)
  exact zav.next hlt ⟨rfl,rfl,errsF_snoc hx he (by rw [e]; simpa using h2)⟩
 ·have hn : k = b.length := by omega
  subst hn
  rw [List.take_length] at he
  have hd : decide ((b.length : Int) < (b.length : Int)) = false := by simp
  (repeat' first | refine zgM hd ?_ | with_reducible first | exact ⟨⟩ | refine zh ?_ | fail)
  refine zG b.length (fun k vs q => vs = [.d (.int .i64 k)] ∧ q = s ∧ (b.take k).Pairwise ndup) ⟨rfl,rfl,by simp⟩ ?_
  rintro k vs s hk' ⟨rfl,rfl,hp⟩
  by_cases hlt : k < b.length
  ·have hd : decide ((k : Int) < (b.length : Int)) = true := by simp; omega
   have hx : b[k]? = some b[k] := by simp [hlt]
   have hgx := zae (f := zie) hx
   obtain ⟨x,hxe⟩ : ∃ x,b[k] = x := ⟨_,rfl⟩
   rw [hxe] at hx hgx
   (repeat' first | refine zgM hd ?_ | with_reducible first | exact ⟨⟩ | refine zh ?_ | fail)
   refine zG k (fun j vs q => vs = [.d (.int .i64 j)] ∧ q = s ∧ ∀ y ∈ b.take j, ¬ (x.client = y.client ∧ x.time = y.time)) ⟨rfl,rfl,by simp⟩ ?_
   rintro j vs s hj ⟨rfl,rfl,hno⟩
   by_cases hjk : j < k
   ·have hd : decide ((j : Int) < (k : Int)) = true := by simp; omega
    have hy : b[j]? = some (b[j]'(by omega)) := List.getElem?_eq_getElem _
    have hgy := zae (f := zie) hy
    obtain ⟨y,hye⟩ : ∃ y,b[j]'(by omega) = y := ⟨_,rfl⟩
    rw [hye] at hy hgy
    have hyt : b.take (j + 1) = b.take j ++ [y] := by rw [List.take_add_one,hy]; rfl
    have next : ¬ (x.client = y.client ∧ x.time = y.time) → ∀ z ∈ b.take (j + 1), ¬ (x.client = z.client ∧ x.time = z.time) := fun h z hz => by
     rw [hyt] at hz
     rcases List.mem_append.1 hz with hz | hz
     ·exact hno z hz
     ·simp at hz; subst hz; exact h
    cases h1 : (x.client == y.client)
    ·(repeat' first | refine gq30 (zdA hd (zdA hgx (zdA hgy (zdA h1 (wk1 j (by omega)))))) ?_ | with_reducible first | exact ⟨⟩ | refine zh ?_ | fail)
     exact zav.next hjk ⟨rfl,rfl,next (by simp at h1; exact fun h => h1 h.1)⟩
    cases h2 : (x.time == y.time)
    ·(repeat' first | refine gq30 (zdA hd (zdA hgx (zdA hgy (zdA h1 (zdA h2 (wk1 j (by omega))))))) ?_ | with_reducible first | exact ⟨⟩ | refine zh ?_ | fail)
     exact zav.next hjk ⟨rfl,rfl,next (by simp at h2; exact fun h => h2 h.2)⟩
    ·(repeat' first | refine gq30 (zdA hd (zdA hgx (zdA hgy (zdA h1 h2)))) ?_ | with_reducible first | exact ⟨⟩ | refine zh ?_ | fail)
     (first | refine zar hl ?_ | refine zaq hl ?_)
     have hnp := pairs_not hx hy hjk ⟨by simpa using h1,by simpa using h2⟩
     exact fin _ (by rw [zam,if_neg h4',if_neg (by simpa using he),if_neg hnp])
   ·have hd : decide ((j : Int) < (k : Int)) = false := by simp; omega
    have hn : j = k := by omega
    subst hn
    (repeat' first | refine zgM (zdA hd (wk1 j (by omega))) ?_ | with_reducible first | exact ⟨⟩ | refine zh ?_ | fail)
    exact zav.next hlt ⟨rfl,rfl,pairs_snoc hx hp hno⟩
  ·have hd : decide ((k : Int) < (b.length : Int)) = false := by simp; omega
   (repeat' first | refine zgM hd ?_ | with_reducible first | exact ⟨⟩ | refine zh ?_ | fail)
   (first | refine zar hl ?_ | refine zaq hl ?_)
   have hn : k = b.length := by omega
   subst hn
   rw [List.take_length] at hp
   exact fin _ (by rw [zam,if_neg h4',if_neg (by simpa using he),if_pos hp])
end Go.Proofs.YtncpaekiidpchaaGreat
