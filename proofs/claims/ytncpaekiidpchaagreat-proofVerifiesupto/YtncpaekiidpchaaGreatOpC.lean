/- Contracts: an operation in memory of its own. -/
import Derived.Test.YtncpaekiidpchaaGreatCl1
import Derived.Test.YtncpaekiidpchaaGreatSh
import Derived.Test.YtncpaekiidpchaaGreatOp1
import Derived.Test.YtncpaekiidpchaaGreatSpUtf
set_option linter.all false
set_option maxRecDepth 100000
namespace Go.Proofs.YtncpaekiidpchaaGreat
open Go.AW
end Go.Proofs.YtncpaekiidpchaaGreat

/- Contracts: which operations are the same, by the reference. -/
set_option maxRecDepth 100000
namespace Go.Proofs.YtncpaekiidpchaaGreat
open Go.AW
end Go.Proofs.YtncpaekiidpchaaGreat

/- Contracts: batches: in memory of their own; which are the same, by the reference. -/
set_option maxRecDepth 100000
namespace Go.Proofs.YtncpaekiidpchaaGreat
open Go.AW
def zoW (x : zt) : AV := .agg [.d (.int .i64 x.client), .d (.int .i64 x.time), .d (.int .i64 x.op.kind), .d (.str x.op.topic), .d (.str x.op.group), .d (.int .i64 x.op.offset), .d (.slice (zbZ x.op.recs)), .d (.int .i64 x.key), .d (.int .i64 x.dig)]
def reqA (x : zt) : AV := .agg [.d (.int .i64 x.client), .d (.int .i64 x.time), .d (.int .i64 x.op.kind), .d (.str x.op.topic), .d (.str x.op.group), .d (.int .i64 x.op.offset), .d (.slice (zbZ x.op.recs))]
end Go.Proofs.YtncpaekiidpchaaGreat

/- Contracts: what is wrong with requests, signatures and batches, on both sides. -/
set_option maxRecDepth 100000
namespace Go.Proofs.YtncpaekiidpchaaGreat
open Go.AW
theorem c_rKey {σ : List zh} {c : Int} {K : KT} (hK : K (.d (.int .i64 (if c < 0 ∨ c ≥ 8 then -1 else 13 + c))) σ) : zy Tryz.prog zlf [.d (.int .i64 c)] σ K := by
 refine zi e_r08_Key.is rfl fun hl _ => e_r08_Key.goes ?_
 have fin : ∀ z,(if c < 0 ∨ c ≥ 8 then -1 else 13 + c) = z → K (.d (.int .i64 z)) σ := fun z h => h ▸ hK
 clear hK
 simp only [S_r08_Key,iN,bT,bF,eN]
 (repeat' (first | (refine gq21 ?_; try with_reducible exact True.intro) | (refine zaK (fun h => ?_) (fun h => ?_) <;> (try rw [h])) | ((with_reducible refine And.intro ?_ ?_); focus (first | omega | rfl | decide))))
 all_goals
  (first | refine zX hl ?_ | refine zW hl ?_)
  (try simp only [decide_eq_true_eq,decide_eq_false_iff_not,beq_iff_eq,beq_eq_false_iff_ne,bne_iff_ne,ne_eq,Bool.not_eq_true',Bool.not_eq_false',bne_eq_false_iff_eq] at *)
 ·exact fin _ (by rw [if_pos (by omega)])
 ·exact fin _ (by rw [if_pos (by omega)])
 ·exact fin _ (by rw [if_neg (by omega),zP (by omega) (by omega)])
theorem zib {P Q : Prop} (h : Q) (e : P = Q := by simp -dsimp only [↓zen, ↓zaw, ↓zba, ↓zeo, ↓zej, ↓zeh, ↓zek, ↓zei, ↓zbf, ↓zbb, ↓zbg, ↓zbc, ↓zel, ↓zaZ, ↓zbh, ↓zbd, ↓zbi, ↓zbe, ↓zeg, ↓zem, ↓zaY, ↓zbj, ↓zee, ↓zed, ↓zef,iN,bT,bF,eN, ↓zcI, ↓unC, ↓zV, ↓zJ, ↓zK, ↓zN, ↓zaa, ↓zas, ↓zbH, ↓zah, ↓zaV, ↓zQ, ↓zp, ↓zo, ↓zbr, ↓zk, ↓zag, ↓zG, ↓zaB, ↓zaF, ↓ze, ↓zE, ↓zr, ↓zw, ↓zam, ↓zcs, ↓zcM, ↓zak, ↓zat, ↓zaE, ↓zaJ, ↓zaP, ↓zu, ↓zai, ↓zL, ↓zA, ↓zab,zcT,zaU,zaT,unA,zcW,bnd,zds,zae,zR,zdv,dm,dm1,zC,zaj,zdH,zdG,zM,Q0,Q1,Q2,Q3,Q4,Q5,zT,zq,zx,zO,zI,Q6,Q7,Q8,Q9,Q10,Q11,Q12,Q13,Q14,Nat.reduceAdd,Q15,Int.reduceToNat,Q16,Q17,Q18,Q19,Q20,reduceIte,Q21,Q22,zF,rep,zY,zdD,toD,zad,Q23,Q24,Q25,Q26,Q27,Q28,Nat.reduceLeDiff,Q29,Nat.reduceSub,Q30,Q31,Q32,sc,Q33,Q34,Q35,Q36,Q37,Q26,Q38,Q39,zfZ,zfW,zfT,zga,zbR,zfX,zfU,zfY,zfV,zbQ,zbS,zgb,zgc,Bool.not_true,Bool.not_false,List.length_map]; rfl) : P := e.mpr h
theorem zcY {A P Q : Prop} (a : A) (h : Q) (e : A → P = Q := by intro a; simp -dsimp only [↓zen, ↓zaw, ↓zba, ↓zeo, ↓zej, ↓zeh, ↓zek, ↓zei, ↓zbf, ↓zbb, ↓zbg, ↓zbc, ↓zel, ↓zaZ, ↓zbh, ↓zbd, ↓zbi, ↓zbe, ↓zeg, ↓zem, ↓zaY, ↓zbj, ↓zee, ↓zed, ↓zef,iN,bT,bF,eN, ↓zcI, ↓unC, ↓zV, ↓zJ, ↓zK, ↓zN, ↓zaa, ↓zas, ↓zbH, ↓zah, ↓zaV, ↓zQ, ↓zp, ↓zo, ↓zbr, ↓zk, ↓zag, ↓zG, ↓zaB, ↓zaF, ↓ze, ↓zE, ↓zr, ↓zw, ↓zam, ↓zcs, ↓zcM, ↓zak, ↓zat, ↓zaE, ↓zaJ, ↓zaP, ↓zu, ↓zai, ↓zL, ↓zA, ↓zab,zcT,zaU,zaT,unA,zcW,bnd,zds,zae,zR,zdv,dm,dm1,zC,zaj,zdH,zdG,zM,Q0,Q1,Q2,Q3,Q4,Q5,zT,zq,zx,zO,zI,Q6,Q7,Q8,Q9,Q10,Q11,Q12,Q13,Q14,Nat.reduceAdd,Q15,Int.reduceToNat,Q16,Q17,Q18,Q19,Q20,reduceIte,Q21,Q22,zF,rep,zY,zdD,toD,zad,Q23,Q24,Q25,Q26,Q27,Q28,Nat.reduceLeDiff,Q29,Nat.reduceSub,Q30,Q31,Q32,sc,Q33,Q34,Q35,Q36,Q37,Q26,Q38,Q39,zfZ,zfW,zfT,zga,zbR,zfX,zfU,zfY,zfV,zbQ,zbS,zgb,zgc,Bool.not_true,Bool.not_false,List.length_map,a]; rfl) : P := (e a).mpr h
theorem zut {σ : List zh} {x : zt} (hx : okO x.op) {K : KT} (hK : K (.d (.int .i64 (zav x))) σ) : zy Tryz.prog zjV [reqA x] σ K := by
 refine zi zrY.is rfl fun hl _ => zrY.goes ?_
 have fin : ∀ z,zav x = z → K (.d (.int .i64 z)) σ := fun z h => h ▸ hK
 clear hK
 simp only [zsJ,iN,bT,bF,eN,reqA]
 (repeat' first | refine zib ?_ | with_reducible first | exact ⟨⟩ | refine zg ?_ | fail)
 refine c_rKey ?_
 by_cases hc : x.client < 0 ∨ x.client ≥ 8
 ·rw [if_pos hc]
  (repeat' first | refine zcY (show decide ((-1 : Int) < 0) = true from rfl) ?_ | with_reducible first | exact ⟨⟩ | refine zg ?_ | fail)
  (first | refine zX hl ?_ | refine zW hl ?_)
  exact fin _ (by rw [zav,if_pos (by omega)])
 ·rw [if_neg hc]
  have h0 : decide (13 + x.client < 0) = false := by simp; omega
  (refine gq26 h0 ?_; try with_reducible exact True.intro)
  (repeat' (first | (refine gq21 ?_; try with_reducible exact True.intro) | (refine zaK (fun h => ?_) (fun h => ?_) <;> (try rw [h])) | ((with_reducible refine And.intro ?_ ?_); focus (first | omega | rfl | decide))))
  all_goals first
   | (
    (first | refine zX hl ?_ | refine zW hl ?_)
    (try simp only [decide_eq_true_eq,decide_eq_false_iff_not,beq_iff_eq,beq_eq_false_iff_ne,bne_iff_ne,ne_eq,Bool.not_eq_true',Bool.not_eq_false',bne_eq_false_iff_eq] at *)
    exact fin _ (by rw [zav,if_pos (by omega)]))
   | skip
  refine zvG (o := x.op) hx.1 hx.2.1 hx.2.2.1 ?_
  (repeat' first | refine zib ?_ | with_reducible first | exact ⟨⟩ | refine zg ?_ | fail)
  (first | refine zX hl ?_ | refine zW hl ?_)
  (try simp only [decide_eq_true_eq,decide_eq_false_iff_not,beq_iff_eq,beq_eq_false_iff_ne,bne_iff_ne,ne_eq,Bool.not_eq_true',Bool.not_eq_false',bne_eq_false_iff_eq] at *)
  exact fin _ (by rw [zav,if_neg (by omega)])
theorem zvC {σ : List zh} {k d : Int} {K : KT} (hK : K (.d (.int .i64 (zao k d))) σ) : zy Tryz.prog zeH [.agg [.d (.int .i64 k), .d (.int .i64 d)]] σ K := by
 refine zi zhB.is rfl fun hl _ => zhB.goes ?_
 have fin : ∀ z,zao k d = z → K (.d (.int .i64 z)) σ := fun z h => h ▸ hK
 clear hK
 simp only [zhP,iN,bT,bF,eN]
 (repeat' (first | (refine gq21 ?_; try with_reducible exact True.intro) | (refine zaK (fun h => ?_) (fun h => ?_) <;> (try rw [h])) | ((with_reducible refine And.intro ?_ ?_); focus (first | omega | rfl | decide))))
 all_goals
  (first | refine zX hl ?_ | refine zW hl ?_)
  (try simp only [decide_eq_true_eq,decide_eq_false_iff_not,beq_iff_eq,beq_eq_false_iff_ne,bne_iff_ne,ne_eq,Bool.not_eq_true',Bool.not_eq_false',bne_eq_false_iff_eq] at *)
  first | exact fin _ (by rw [zao,if_pos (by omega)]) | exact fin _ (by rw [zao,if_neg (by omega)])
theorem ziM {σ : List zh} {k d : Int} {K : KT} (hK : K (.d (.int .i64 (zao k d))) σ) : zy Tryz.prog zdN [.agg [.d (.int .i64 k), .d (.int .i64 d)]] σ K := by
 refine zi zlw.is rfl fun hl _ => zlw.goes ?_
 have fin : ∀ z,zao k d = z → K (.d (.int .i64 z)) σ := fun z h => h ▸ hK
 clear hK
 simp only [zlQ,iN,bT,bF,eN]
 (repeat' (first | (refine gq21 ?_; try with_reducible exact True.intro) | (refine zaK (fun h => ?_) (fun h => ?_) <;> (try rw [h])) | ((with_reducible refine And.intro ?_ ?_); focus (first | omega | rfl | decide))))
 all_goals
  (first | refine zX hl ?_ | refine zW hl ?_)
  (try simp only [decide_eq_true_eq,decide_eq_false_iff_not,beq_iff_eq,beq_eq_false_iff_ne,bne_iff_ne,ne_eq,Bool.not_eq_true',Bool.not_eq_false',bne_eq_false_iff_eq] at *)
  first | exact fin _ (by rw [zao,if_pos (by omega)]) | exact fin _ (by rw [zao,if_neg (by omega)])
end Go.Proofs.YtncpaekiidpchaaGreat

/- Contracts: what is wrong with batches, on both sides. -/
set_option maxRecDepth 100000
namespace Go.Proofs.YtncpaekiidpchaaGreat
open Go.AW
theorem wk1 (k : Nat) (h : k ≤ 1073741824) : IntKind.i64.wrap ((k : Int) + 1) = ((k + 1 : Nat) : Int) := by rw [zP (by omega) (by omega)]; rfl
theorem gq30 {A P Q : Prop} (a : A) (h : Q) (e : A → P = Q := by intro a; simp -dsimp only [↓zen, ↓zaw, ↓zba, ↓zeo, ↓zej, ↓zeh, ↓zek, ↓zei, ↓zbf, ↓zbb, ↓zbg, ↓zbc, ↓zel, ↓zaZ, ↓zbh, ↓zbd, ↓zbi, ↓zbe, ↓zeg, ↓zem, ↓zaY, ↓zbj, ↓zee, ↓zed, ↓zef,iN,bT,bF,eN, ↓zcI, ↓unC, ↓zV, ↓zJ, ↓zK, ↓zN, ↓zaa, ↓zas, ↓zbH, ↓zah, ↓zaV, ↓zQ, ↓zp, ↓zo, ↓zbr, ↓zk, ↓zag, ↓zG, ↓zaB, ↓zaF, ↓ze, ↓zE, ↓zr, ↓zw, ↓zam, ↓zcs, ↓zcM, ↓zak, ↓zat, ↓zaE, ↓zaJ, ↓zaP, ↓zu, ↓zai, ↓zL, ↓zA, ↓zab,zcT,zaU,zaT,unA,zcW,bnd,zds,zae,zR,zdv,dm,dm1,zC,zaj,zdH,zdG,zM,Q0,Q1,Q2,Q3,Q4,Q5,zT,zq,zx,zO,zI,Q6,Q7,Q8,Q9,Q10,Q11,Q12,Q13,Q14,Nat.reduceAdd,Q15,Int.reduceToNat,Q16,Q17,Q18,Q19,Q20,reduceIte,Q21,Q22,zF,rep,zY,zdD,toD,zad,Q23,Q24,Q25,Q26,Q27,Q28,Nat.reduceLeDiff,Q29,Nat.reduceSub,Q30,Q31,Q32,sc,Q33,Q34,Q35,Q36,Q37,Q26,Q38,Q39,zfZ,zfW,zfT,zga,zbR,zfX,zfU,zfY,zfV,zbQ,zbS,zgb,zgc,Bool.not_true,Bool.not_false,List.length_map,ziF,a]; rfl) : P := (e a).mpr h
theorem zop {σ : List zh} {b : List zt} (hb : okB b) {K : KT} (hK : K (.d (.int .i64 (zaq b))) σ) : zy Tryz.prog zeC [.d (.slice (zjv b))] σ K := by
 refine zi zkq.is rfl fun hl _ => zkq.goes ?_
 have fin : ∀ z,zaq b = z → K (.d (.int .i64 z)) σ := fun z h => h ▸ hK
 clear hK
 obtain ⟨hb1,hb2⟩ := hb
 simp only [zkE,iN,bT,bF,eN]
 cases h4 : decide ((b.length : Int) > 4)
 rotate_left
 ·(repeat' first | refine zcY h4 ?_ | with_reducible first | exact ⟨⟩ | refine zg ?_ | fail)
  (first | refine zX hl ?_ | refine zW hl ?_)
  exact fin _ (by rw [zaq,if_pos (by simp at h4; omega)])
 have h4' : ¬ b.length > 4 := by simp at h4; omega
 (repeat' first | refine zcY h4 ?_ | with_reducible first | exact ⟨⟩ | refine zg ?_ | fail)
 refine zB b.length (fun k vs s => vs = [.d (.int .i64 k)] ∧ s = σ ∧ zls (b.take k) = 0) ⟨rfl,rfl,rfl⟩ ?_
 rintro k vs s hk ⟨rfl,rfl,he⟩
 by_cases hlt : k < b.length
 ·have hd : decide ((k : Int) < (b.length : Int)) = true := by simp; omega
  have hx : b[k]? = some b[k] := by simp [hlt]
  have hbx := hb2 _ (List.getElem_mem hlt)
  have hgx := zU (f := ziF) hx
  obtain ⟨x,hxe⟩ : ∃ x,b[k] = x := ⟨_,rfl⟩
  rw [hxe] at hx hgx hbx
  have bad : errF x ≠ 0 → K (.d (.int .i64 (errF x))) s := fun h => fin _ (by rw [zaq,if_neg h4',if_pos (by rw [ztR hx he h]; exact h)]; exact ztR hx he h)
  (repeat' first | refine gq30 (zbz hd hgx) ?_ | with_reducible first | exact ⟨⟩ | refine zg ?_ | fail)
  refine zut (x := x) hbx ?_
  cases h1 : (zav x != 0)
  rotate_left
  ·have h1' : zav x ≠ 0 := by simpa using h1
   (repeat' first | refine zcY h1 ?_ | with_reducible first | exact ⟨⟩ | refine zg ?_ | fail)
   (first | refine zX hl ?_ | refine zW hl ?_)
   have e : errF x = zav x := by rw [errF,if_pos h1']
   rw [e] at bad
   exact bad h1'
  (repeat' first | refine gq30 (zbz h1 hgx) ?_ | with_reducible first | exact ⟨⟩ | refine zg ?_ | fail)
  have h1' : ¬ zav x ≠ 0 := by simpa using h1
  have e : errF x = zao x.key x.dig := by rw [errF,if_neg h1']
  refine ziM ?_
  cases h2 : (zao x.key x.dig != 0)
  rotate_left
  ·(repeat' first | refine zcY h2 ?_ | with_reducible first | exact ⟨⟩ | refine zg ?_ | fail)
   (first | refine zX hl ?_ | refine zW hl ?_)
   rw [e] at bad
   exact bad (by simpa using h2)
  (repeat' first | refine zcY (zbz h2 (wk1 k (by omega))) ?_ | with_reducible first | exact ⟨⟩ | refine zg ?_ | fail)
  exact zap.next hlt ⟨rfl,rfl,errsF_snoc hx he (by rw [e]; simpa using h2)⟩
 ·have hn : k = b.length := by omega
  subst hn
  rw [List.take_length] at he
  have hd : decide ((b.length : Int) < (b.length : Int)) = false := by simp
  (repeat' first | refine zcY hd ?_ | with_reducible first | exact ⟨⟩ | refine zg ?_ | fail)
  refine zB b.length (fun k vs q => vs = [.d (.int .i64 k)] ∧ q = s ∧ (b.take k).Pairwise ndup) ⟨rfl,rfl,by simp⟩ ?_
  rintro k vs s hk' ⟨rfl,rfl,hp⟩
  by_cases hlt : k < b.length
  ·have hd : decide ((k : Int) < (b.length : Int)) = true := by simp; omega
   have hx : b[k]? = some b[k] := by simp [hlt]
   have hgx := zU (f := ziF) hx
   obtain ⟨x,hxe⟩ : ∃ x,b[k] = x := ⟨_,rfl⟩
   rw [hxe] at hx hgx
   (repeat' first | refine zcY hd ?_ | with_reducible first | exact ⟨⟩ | refine zg ?_ | fail)
   refine zB k (fun j vs q => vs = [.d (.int .i64 j)] ∧ q = s ∧ ∀ y ∈ b.take j, ¬ (x.client = y.client ∧ x.time = y.time)) ⟨rfl,rfl,by simp⟩ ?_
   rintro j vs s hj ⟨rfl,rfl,hno⟩
   by_cases hjk : j < k
   ·have hd : decide ((j : Int) < (k : Int)) = true := by simp; omega
    have hy : b[j]? = some (b[j]'(by omega)) := List.getElem?_eq_getElem _
    have hgy := zU (f := ziF) hy
    obtain ⟨y,hye⟩ : ∃ y,b[j]'(by omega) = y := ⟨_,rfl⟩
    rw [hye] at hy hgy
    have hyt : b.take (j + 1) = b.take j ++ [y] := by rw [List.take_add_one,hy]; rfl
    have next : ¬ (x.client = y.client ∧ x.time = y.time) → ∀ z ∈ b.take (j + 1), ¬ (x.client = z.client ∧ x.time = z.time) := fun h z hz => by
     rw [hyt] at hz
     rcases List.mem_append.1 hz with hz | hz
     ·exact hno z hz
     ·simp at hz; subst hz; exact h
    cases h1 : (x.client == y.client)
    ·(repeat' first | refine gq30 (zbz hd (zbz hgx (zbz hgy (zbz h1 (wk1 j (by omega)))))) ?_ | with_reducible first | exact ⟨⟩ | refine zg ?_ | fail)
     exact zap.next hjk ⟨rfl,rfl,next (by simp at h1; exact fun h => h1 h.1)⟩
    cases h2 : (x.time == y.time)
    ·(repeat' first | refine gq30 (zbz hd (zbz hgx (zbz hgy (zbz h1 (zbz h2 (wk1 j (by omega))))))) ?_ | with_reducible first | exact ⟨⟩ | refine zg ?_ | fail)
     exact zap.next hjk ⟨rfl,rfl,next (by simp at h2; exact fun h => h2 h.2)⟩
    ·(repeat' first | refine gq30 (zbz hd (zbz hgx (zbz hgy (zbz h1 h2)))) ?_ | with_reducible first | exact ⟨⟩ | refine zg ?_ | fail)
     (first | refine zX hl ?_ | refine zW hl ?_)
     have hnp := pairs_not hx hy hjk ⟨by simpa using h1,by simpa using h2⟩
     exact fin _ (by rw [zaq,if_neg h4',if_neg (by simpa using he),if_neg hnp])
   ·have hd : decide ((j : Int) < (k : Int)) = false := by simp; omega
    have hn : j = k := by omega
    subst hn
    (repeat' first | refine zcY (zbz hd (wk1 j (by omega))) ?_ | with_reducible first | exact ⟨⟩ | refine zg ?_ | fail)
    exact zap.next hlt ⟨rfl,rfl,pairs_snoc hx hp hno⟩
  ·have hd : decide ((k : Int) < (b.length : Int)) = false := by simp; omega
   (repeat' first | refine zcY hd ?_ | with_reducible first | exact ⟨⟩ | refine zg ?_ | fail)
   (first | refine zX hl ?_ | refine zW hl ?_)
   have hn : k = b.length := by omega
   subst hn
   rw [List.take_length] at hp
   exact fin _ (by rw [zaq,if_neg h4',if_neg (by simpa using he),if_pos hp])
end Go.Proofs.YtncpaekiidpchaaGreat
