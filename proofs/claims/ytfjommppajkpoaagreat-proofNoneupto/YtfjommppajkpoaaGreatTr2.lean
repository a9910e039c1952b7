/- Made proofs and turned ones are of bearable size; tables stay true. No program in sight. -/
import Derived.Test.YtfjommppajkpoaaGreatKp2
import Derived.Test.YtfjommppajkpoaaGreatTr1
import Derived.Test.YtfjommppajkpoaaGreatMk4
import Derived.Test.YtfjommppajkpoaaGreatPf1
import Derived.Test.YtfjommppajkpoaaGreatOpC
import Derived.Test.YtfjommppajkpoaaGreatSpChk
import Derived.Test.YtfjommppajkpoaaGreatPt2
set_option linter.all false
set_option maxRecDepth 100000
namespace Go.Proofs.YtfjommppajkpoaaGreat
open Go.AW
theorem zoA : ∀ (f : Nat) {L : List (List UInt8)} {i : Nat} {l : List (List UInt8)},l.length ≤ f → zjN L → (∀ x ∈ l,x.length ≤ 1073741800) → zjN (zca f L i l).2 ∧ ∀ x ∈ (zca f L i l).1, 0 ≤ x ∧ x ≤ 1048577
 | 0,L,i,l,hf,h,hx => ⟨by rw [zno (by omega)]; exact h,by rw [zno (by omega)]; simp⟩
 | f + 1,L,i,l,hf,h,hx => by
  by_cases h1 : l.length ≤ 1
  ·rw [zno h1]; exact ⟨h,by simp⟩
  ·have hs := zbZ (n := l.length) (by omega)
   rw [proveA_2 (by omega)]
   split
   ·obtain ⟨g1,g2⟩ := zoA f (i := i) (l := l.take (zk l.length)) (by rw [List.length_take]; omega) h fun x hm => hx x (List.mem_of_mem_take hm)
    have g3 := znk _ (L := (zca f L i (l.take (zk l.length))).2) (l := l.drop (zk l.length)) (Nat.le_refl _) g1 fun x hm => hx x (List.mem_of_mem_drop hm)
    have g4 := (zcu _ (L := (zca f L i (l.take (zk l.length))).2) (l := l.drop (zk l.length)) (Nat.le_refl _) g1.len).2
    refine ⟨g3,fun x hm => ?_⟩
    rcases List.mem_append.1 hm with hm | hm
    ·exact g2 x hm
    ·simp only [List.mem_singleton] at hm; subst hm; exact g4
   ·obtain ⟨g1,g2⟩ := zoA f (i := i - zk l.length) (l := l.drop (zk l.length)) (by rw [List.length_drop]; omega) h fun x hm => hx x (List.mem_of_mem_drop hm)
    have g3 := znk _ (L := (zca f L (i - zk l.length) (l.drop (zk l.length))).2) (l := l.take (zk l.length)) (Nat.le_refl _) g1 fun x hm => hx x (List.mem_of_mem_take hm)
    have g4 := (zcu _ (L := (zca f L (i - zk l.length) (l.drop (zk l.length))).2) (l := l.take (zk l.length)) (Nat.le_refl _) g1.len).2
    refine ⟨g3,fun x hm => ?_⟩
    rcases List.mem_append.1 hm with hm | hm
    ·exact g2 x hm
    ·simp only [List.mem_singleton] at hm; subst hm; exact g4
theorem makeF_small {L : List (List UInt8)} {l : List zfi} {c : zfV} {t : List UInt8} {o : Int} (hL : zjN L) (hb : ∀ b ∈ l,zoy b) (hl : l.length ≤ 536870912) (hc : c.signs.length ≤ 536870912) (ht : t.length ≤ 16777216) (ho : zrk o) :
  zdy (zfw L l c t o).2.1 ∧ (zfw L l c t o).2.1.path.length ≤ 1048576 ∧ (zfw L l c t o).2.1.headers.length ≤ 536870912 ∧ (zfw L l c t o).2.1.cert.signs.length ≤ 536870912 ∧ zjN (zfw L l c t o).2.2 := by
 have h0 : zdy ztg := ⟨by simp [ztg],by simp [ztg],by simp [ztg],by simp [ztg],by simp [ztg],by simp [ztg,zrk],by simp [ztg,zrk],by simp [ztg,zrk],by simp [ztg]⟩
 unfold zfw
 split
 ·exact ⟨h0,by simp [ztg],by simp [ztg],by simp [ztg],hL⟩
 ·rename_i i k hf
  split
  ·exact ⟨h0,by simp [ztg],by simp [ztg],by simp [ztg],hL⟩
  ·rename_i hs hr
   obtain ⟨n0,b,hi0,hx,hk⟩ := findB_lt hf
   have hi : i = n0 := by omega
   subst hi
   have hbx := hb b (List.mem_of_getElem? hx)
   have hg : l.getD i ⟨⟨0, 0, 0, 0, 0⟩, [], []⟩ = b := by simp [List.getD,hx]
   have hlen := runF_len hr
   rw [List.length_drop] at hlen
   simp only [hg]
   have hpl : ∀ x ∈ b.placed.map zaz,x.length ≤ 1073741800 := fun x hm => by
    obtain ⟨p,hp,rfl⟩ := List.mem_map.1 hm
    have := zjg (hbx.each p hp); omega
   obtain ⟨g1,g2⟩ := zoA b.placed.length (i := k) (l := b.placed.map zaz) (by simp) hL hpl
   have g3 := (zis b.placed.length (L := L) (i := k) (l := b.placed.map zaz) (by simp) hL.len).2
   rw [List.length_map] at g3
   have g4 := hbx.len
   have hgk : b.placed.getD k ⟨[], 0, []⟩ ∈ b.placed := by
    rw [show b.placed.getD k ⟨[], 0, []⟩ = b.placed[k] by simp [List.getD,List.getElem?_eq_getElem hk]]
    exact List.getElem_mem hk
   have g5 := hbx.each _ hgk
   refine ⟨⟨ht,g5.rec_,by simp only; omega,by simp only; omega,by simp only; omega,ho, ?_, ?_,fun x hm => ?_⟩,by omega,by omega,hc,g1⟩
   ·constructor <;> simp only <;> omega
   ·constructor <;> simp only <;> omega
   ·have := g2 x hm; constructor <;> omega
theorem wrap_r (n : Int) : zrk (IntKind.i64.wrap n) := by
 have e : IntKind.i64.wrap n = if 9223372036854775808 ≤ n % 18446744073709551616 then n % 18446744073709551616 - 18446744073709551616 else n % 18446744073709551616 := by
  simp [IntKind.wrap,IntKind.signed,IntKind.bits]
 rw [e]
 by_cases h : 9223372036854775808 ≤ n % 18446744073709551616
 ·rw [if_pos h]; constructor <;> omega
 ·rw [if_neg h]; constructor <;> omega
structure TwI (w : zmk) : Prop where
 rec_ : w.rec_.length ≤ 16777216
 dig : zrk w.dig
structure PfI (k : Nat) (p : zaE) : Prop where
 topic : p.topic.length ≤ 16777216
 rec_ : p.rec_.length ≤ 16777216
 headers : p.headers.length ≤ 536870912
 path : p.path.length ≤ 536870912 + k
 signs : p.cert.signs.length ≤ 536870912 + k
 off : zrk p.offset
 index : zrk p.index
 count : zrk p.count
 paths : ∀ x ∈ p.path,zrk x
theorem turn1I {k : Nat} {p : zaE} {w : zmk} (h : PfI k p) (hw : TwI w) : PfI (k + 1) (zcE p w) := by
 obtain ⟨h1,h2,h3,h4,h5,h6,h7,h8,h9⟩ := h
 by_cases q1 : w.do_ = 1
 ·rw [zcE,if_pos q1]
  exact ⟨h1,hw.rec_,h3,by simp only; omega,by simp only; omega,h6,h7,h8,h9⟩
 by_cases q2 : w.do_ = 2
 ·rw [zcE,if_neg q1,if_pos q2]
  exact ⟨h1,h2,h3,by simp only; omega,by simp only; omega,wrap_r _,h7,h8,h9⟩
 by_cases q3 : w.do_ = 3
 ·rw [zcE,if_neg q1,if_neg q2,if_pos q3]
  exact ⟨h1,h2,h3,by simp only; omega,by simp only; omega,h6,wrap_r _,h8,h9⟩
 by_cases q4 : w.do_ = 4
 ·rw [zcE,if_neg q1,if_neg q2,if_neg q3,if_pos q4]
  exact ⟨h1,h2,h3,by simp only; omega,by simp only; omega,h6,h7,wrap_r _,h9⟩
 by_cases q5 : w.do_ = 5
 ·rw [zcE,if_neg q1,if_neg q2,if_neg q3,if_neg q4,if_pos q5]
  refine ⟨h1,h2,h3,by simp only [List.length_set]; omega,by simp only; omega,h6,h7,h8,fun x hx => ?_⟩
  rcases List.mem_or_eq_of_mem_set hx with hx | rfl
  ·exact h9 x hx
  ·exact hw.dig
 by_cases q6 : w.do_ = 6
 ·rw [zcE,if_neg q1,if_neg q2,if_neg q3,if_neg q4,if_neg q5,if_pos q6]
  exact ⟨h1,h2,by simp only [List.length_drop]; omega,by simp only; omega,by simp only; omega,h6,h7,h8,h9⟩
 by_cases q7 : w.do_ = 7
 ·rw [zcE,if_neg q1,if_neg q2,if_neg q3,if_neg q4,if_neg q5,if_neg q6,if_pos q7]
  exact ⟨h1,h2,by simp only [List.length_take]; omega,by simp only; omega,by simp only; omega,h6,h7,h8,h9⟩
 by_cases q8 : w.do_ = 8
 ·rw [zcE,if_neg q1,if_neg q2,if_neg q3,if_neg q4,if_neg q5,if_neg q6,if_neg q7,if_pos q8]
  exact ⟨h1,h2,by simp only [List.length_modify]; omega,by simp only; omega,by simp only; omega,h6,h7,h8,h9⟩
 by_cases q9 : w.do_ = 9
 ·rw [zcE,if_neg q1,if_neg q2,if_neg q3,if_neg q4,if_neg q5,if_neg q6,if_neg q7,if_neg q8,if_pos q9]
  exact ⟨h1,h2,h3,by simp only; omega,by simp only [List.length_drop]; omega,h6,h7,h8,h9⟩
 by_cases q10 : w.do_ = 10
 ·rw [zcE,if_neg q1,if_neg q2,if_neg q3,if_neg q4,if_neg q5,if_neg q6,if_neg q7,if_neg q8,if_neg q9,if_pos q10]
  exact ⟨h1,h2,h3,by simp only; omega,by simp only; omega,h6,h7,h8,h9⟩
 by_cases q11 : w.do_ = 11
 ·rw [zcE,if_neg q1,if_neg q2,if_neg q3,if_neg q4,if_neg q5,if_neg q6,if_neg q7,if_neg q8,if_neg q9,if_neg q10,if_pos q11]
  exact ⟨h1,h2,h3,by simp only; omega,by simp only [List.length_append,List.length_cons,List.length_nil]; omega,h6,h7,h8,h9⟩
 by_cases q12 : w.do_ = 12
 ·rw [zcE,if_neg q1,if_neg q2,if_neg q3,if_neg q4,if_neg q5,if_neg q6,if_neg q7,if_neg q8,if_neg q9,if_neg q10,if_neg q11,if_pos q12]
  refine ⟨h1,h2,h3,by simp only [List.length_append,List.length_cons,List.length_nil]; omega,by simp only; omega,h6,h7,h8,fun x hx => ?_⟩
  rcases List.mem_append.1 hx with hx | hx
  ·exact h9 x hx
  ·simp only [List.mem_singleton] at hx; subst hx; exact hw.dig
 rw [zcE,if_neg q1,if_neg q2,if_neg q3,if_neg q4,if_neg q5,if_neg q6,if_neg q7,if_neg q8,if_neg q9,if_neg q10,if_neg q11,if_neg q12]
 exact ⟨h1,h2,h3,by omega,by omega,h6,h7,h8,h9⟩
theorem turnI {l : List zmk} : ∀ {k : Nat} {p : zaE},PfI k p → (∀ w ∈ l,TwI w) → PfI (k + l.length) (zkt p l) := by
 induction l with
 | nil => intro k p h _; exact h
 | cons w l ih =>
  intro k p h hw
  have := ih (turn1I h (hw w (by simp))) fun w' h' => hw w' (by simp [h'])
  rw [List.length_cons,show k + (l.length + 1) = k + 1 + l.length by omega]
  exact this
theorem zot {p : zaE} {l : List zmk} (h : zdy p) (h1 : p.path.length ≤ 536870912) (h2 : p.headers.length ≤ 536870912) (h3 : p.cert.signs.length ≤ 536870912) (hl : l.length ≤ 536870912) (hw : ∀ w ∈ l,TwI w) : zdy (zkt p l) := by
 have := turnI (k := 0) (l := l) ⟨h.topic,h.rec_,h2,by omega,by omega,h.off,h.index,h.count,h.paths⟩ hw
 exact ⟨this.topic,this.rec_,by have := this.headers; omega,by have := this.path; omega,by have := this.signs; omega,this.off,this.index,this.count,this.paths⟩
def zty (p : zaE) : Int := match p.headers with
 | [] => 0
 | h :: _ => h.seq
theorem gq44 {A P Q : Prop} (a : A) (h : Q) (e : A → Hd Q → P := by intro a h; (repeat' first | simp -dsimp only [↓zgr, ↓zaF, ↓zbL, ↓zgt, ↓zgn, ↓zgl, ↓zgo, ↓zgm, ↓zbR, ↓zbN, ↓zbS, ↓zbO, ↓zgp, ↓zbJ, ↓zbT, ↓zbP, ↓zbU, ↓zbQ, ↓zgj, ↓zgq, ↓zbI, ↓zbX, ↓zgc, ↓zgb, ↓zgi,iN,bT,bF,eN, ↓zdN, ↓unC, ↓zac, ↓zQ, ↓zR, ↓zV, ↓zak, ↓zau, ↓zco, ↓zag, ↓zaJ, ↓zW, ↓zp, ↓zo, ↓zbF, ↓zl, ↓zan, ↓zF, ↓zaM, ↓zaW, ↓ze, ↓zC, ↓zu, ↓zy, ↓zav, ↓zdr, ↓zdU, ↓zat, ↓zaB, ↓zaU, ↓zbk, ↓zbv, ↓zD, ↓zaq, ↓zS, ↓zE, ↓zam,zeb,zbD,zbB,unA,zei,bnd,zeF,zai,zP,zeE,dm,dm1,zB,zal,zfg,zff,zx,Q0,Q1,Q2,Q3,Q4,Q5,zZ,zh,zm,zT,zN,Q6,Q7,Q8,Q9,Q10,Q11,Q12,Q13,Q14,Nat.reduceAdd,Q15,Int.reduceToNat,Q16,Q17,Q18,Q19,Q20,reduceIte,Q21,Q22,zH,rep,zX,zfc,toD,zah,Q23,Q24,Q25,Q26,Q27,Q28,Nat.reduceLeDiff,Q29,Nat.reduceSub,Q30,Q31,Q32,sc,Q33,Q34,Q35,Q36,Q37,Q26,Q38,Q39,zkn,zkk,zkh,zko,zdu,zkl,zki,zkm,zkj,zdt,zdv,zkp,zkq,Bool.not_true,Bool.not_false,List.length_map,List.length_cons,a] | with_reducible refine zkr ?_ | fail); exact h.go) : P := e a ⟨h⟩
theorem c_first {σ : List zg} {p : zaE} {K : KT} (hK : K (.d (.int .i64 (zty p))) σ) : zq Tryz.prog zmE [zcp p] σ K := by
 refine zec e_l23_first fun hl => ?_
 have e1 : (zdf p.headers).length = p.headers.length := List.length_map ..
 simp only [zss,iN,bT,bF,eN,zcp]
 cases hh : p.headers with
 | nil =>
  rw [zty,hh] at hK
  refine zcJ (show (((0 : Nat) : Int) == 0) = true from rfl) ?_
  refine zK hl ?_
  exact hK
 | cons h r =>
  rw [zty,hh] at hK
  have hz : (((r.length + 1 : Nat) : Int) == 0) = false := by simp; omega
  have hl2 : (zdf r).length = r.length := List.length_map ..
  refine gq44 (zbi hz hl2) ?_
  refine zK hl ?_
  exact hK
theorem c_pfBlock {σ : List zg} {p : zaE} {K : KT} (hK : K (.d (.int .i64 (zty p))) σ) : zq Tryz.prog zjp [zcp p] σ K := by
 refine zec zuU fun hl => ?_
 simp only [zof,iN,bT,bF,eN,zcp]
 cases hh : p.headers with
 | nil =>
  rw [zty,hh] at hK
  refine zcJ (show (((0 : Nat) : Int) == 0) = true from rfl) ?_
  refine zK hl ?_
  exact hK
 | cons h r =>
  rw [zty,hh] at hK
  have hz : (((r.length + 1 : Nat) : Int) == 0) = false := by simp; omega
  have hl2 : (zdf r).length = r.length := List.length_map ..
  refine gq44 (zbi hz hl2) ?_
  refine zK hl ?_
  exact hK
end Go.Proofs.YtfjommppajkpoaaGreat
