/- Made proofs and turned ones are of bearable size; tables stay true. No program in sight. -/
import Derived.Test.YtncpaekiidpchaaGreatBt1
import Derived.Test.YtncpaekiidpchaaGreatTr1
import Derived.Test.YtncpaekiidpchaaGreatSpVote
import Derived.Test.YtncpaekiidpchaaGreatCk3
import Derived.Test.YtncpaekiidpchaaGreatCl1
import Derived.Test.YtncpaekiidpchaaGreatSpBulk
set_option linter.all false
set_option maxRecDepth 100000
namespace Go.Proofs.YtncpaekiidpchaaGreat
open Go.AW
theorem zov : ∀ (f : Nat) {L : List (List UInt8)} {i : Nat} {l : List (List UInt8)},l.length ≤ f → zkk L → (∀ x ∈ l,x.length ≤ 1073741800) → zkk (zaD f L i l).2 ∧ ∀ x ∈ (zaD f L i l).1, 0 ≤ x ∧ x ≤ 1048577
 | 0,L,i,l,hf,h,hx => ⟨by rw [znb (by omega)]; exact h,by rw [znb (by omega)]; simp⟩
 | f + 1,L,i,l,hf,h,hx => by
  by_cases h1 : l.length ≤ 1
  ·rw [znb h1]; exact ⟨h,by simp⟩
  ·have hs := zbX (n := l.length) (by omega)
   rw [proveA_2 (by omega)]
   split
   ·obtain ⟨g1,g2⟩ := zov f (i := i) (l := l.take (zi l.length)) (by rw [List.length_take]; omega) h fun x hm => hx x (List.mem_of_mem_take hm)
    have g3 := zmX _ (L := (zaD f L i (l.take (zi l.length))).2) (l := l.drop (zi l.length)) (Nat.le_refl _) g1 fun x hm => hx x (List.mem_of_mem_drop hm)
    have g4 := (zcs _ (L := (zaD f L i (l.take (zi l.length))).2) (l := l.drop (zi l.length)) (Nat.le_refl _) g1.len).2
    refine ⟨g3,fun x hm => ?_⟩
    rcases List.mem_append.1 hm with hm | hm
    ·exact g2 x hm
    ·simp only [List.mem_singleton] at hm; subst hm; exact g4
   ·obtain ⟨g1,g2⟩ := zov f (i := i - zi l.length) (l := l.drop (zi l.length)) (by rw [List.length_drop]; omega) h fun x hm => hx x (List.mem_of_mem_drop hm)
    have g3 := zmX _ (L := (zaD f L (i - zi l.length) (l.drop (zi l.length))).2) (l := l.take (zi l.length)) (Nat.le_refl _) g1 fun x hm => hx x (List.mem_of_mem_take hm)
    have g4 := (zcs _ (L := (zaD f L (i - zi l.length) (l.drop (zi l.length))).2) (l := l.take (zi l.length)) (Nat.le_refl _) g1.len).2
    refine ⟨g3,fun x hm => ?_⟩
    rcases List.mem_append.1 hm with hm | hm
    ·exact g2 x hm
    ·simp only [List.mem_singleton] at hm; subst hm; exact g4
theorem zqI {L : List (List UInt8)} {l : List zaM} {c : zfH} {t : List UInt8} {o : Int} (hL : zkk L) (hb : ∀ b ∈ l,zoq b) (hl : l.length ≤ 536870912) (hc : c.signs.length ≤ 536870912) (ht : t.length ≤ 16777216) (ho : zmP o) :
  zfg (zdL L l c t o).2.1 ∧ (zdL L l c t o).2.1.path.length ≤ 1048576 ∧ (zdL L l c t o).2.1.headers.length ≤ 536870912 ∧ (zdL L l c t o).2.1.cert.signs.length ≤ 536870912 ∧ zkk (zdL L l c t o).2.2 := by
 have h0 : zfg zss := ⟨by simp [zss],by simp [zss],by simp [zss],by simp [zss],by simp [zss],by simp [zss,zmP],by simp [zss,zmP],by simp [zss,zmP],by simp [zss]⟩
 unfold zdL
 split
 ·exact ⟨h0,by simp [zss],by simp [zss],by simp [zss],hL⟩
 ·rename_i i k hf
  split
  ·exact ⟨h0,by simp [zss],by simp [zss],by simp [zss],hL⟩
  ·rename_i hs hr
   obtain ⟨n0,b,hi0,hx,hk⟩ := findB_lt hf
   have hi : i = n0 := by omega
   subst hi
   have hbx := hb b (List.mem_of_getElem? hx)
   have hg : l.getD i ⟨⟨0, 0, 0, 0, 0⟩, [], []⟩ = b := by simp [List.getD,hx]
   have hlen := runF_len hr
   rw [List.length_drop] at hlen
   simp only [hg]
   have hpl : ∀ x ∈ b.placed.map zam,x.length ≤ 1073741800 := fun x hm => by
    obtain ⟨p,hp,rfl⟩ := List.mem_map.1 hm
    have := zms (hbx.each p hp); omega
   obtain ⟨g1,g2⟩ := zov b.placed.length (i := k) (l := b.placed.map zam) (by simp) hL hpl
   have g3 := (zit b.placed.length (L := L) (i := k) (l := b.placed.map zam) (by simp) hL.len).2
   rw [List.length_map] at g3
   have g4 := hbx.len
   have hgk : b.placed.getD k ⟨[], 0, []⟩ ∈ b.placed := by
    rw [show b.placed.getD k ⟨[], 0, []⟩ = b.placed[k] by simp [List.getD,List.getElem?_eq_getElem hk]]
    exact List.getElem_mem hk
   have g5 := hbx.each _ hgk
   refine ⟨⟨ht,g5.rec_,by simp only; omega,by simp only; omega,by simp only; omega,ho, ?_, ?_,fun x hm => ?_⟩,by omega,by omega,hc,g1⟩
   ·constructor <;> simp only <;> omega
   ·constructor <;> simp only <;> omega
   ·have := g2 x hm; constructor <;> omega
theorem wrap_r (n : Int) : zmP (IntKind.i64.wrap n) := by
 have e : IntKind.i64.wrap n = if 9223372036854775808 ≤ n % 18446744073709551616 then n % 18446744073709551616 - 18446744073709551616 else n % 18446744073709551616 := by
  simp [IntKind.wrap,IntKind.signed,IntKind.bits]
 rw [e]
 by_cases h : 9223372036854775808 ≤ n % 18446744073709551616
 ·rw [if_pos h]; constructor <;> omega
 ·rw [if_neg h]; constructor <;> omega
structure TwI (w : zkX) : Prop where
 rec_ : w.rec_.length ≤ 16777216
 dig : zmP w.dig
structure PfI (k : Nat) (p : zaU) : Prop where
 topic : p.topic.length ≤ 16777216
 rec_ : p.rec_.length ≤ 16777216
 headers : p.headers.length ≤ 536870912
 path : p.path.length ≤ 536870912 + k
 signs : p.cert.signs.length ≤ 536870912 + k
 off : zmP p.offset
 index : zmP p.index
 count : zmP p.count
 paths : ∀ x ∈ p.path,zmP x
theorem turn1I {k : Nat} {p : zaU} {w : zkX} (h : PfI k p) (hw : TwI w) : PfI (k + 1) (zcH p w) := by
 obtain ⟨h1,h2,h3,h4,h5,h6,h7,h8,h9⟩ := h
 by_cases q1 : w.do_ = 1
 ·rw [zcH,if_pos q1]
  exact ⟨h1,hw.rec_,h3,by simp only; omega,by simp only; omega,h6,h7,h8,h9⟩
 by_cases q2 : w.do_ = 2
 ·rw [zcH,if_neg q1,if_pos q2]
  exact ⟨h1,h2,h3,by simp only; omega,by simp only; omega,wrap_r _,h7,h8,h9⟩
 by_cases q3 : w.do_ = 3
 ·rw [zcH,if_neg q1,if_neg q2,if_pos q3]
  exact ⟨h1,h2,h3,by simp only; omega,by simp only; omega,h6,wrap_r _,h8,h9⟩
 by_cases q4 : w.do_ = 4
 ·rw [zcH,if_neg q1,if_neg q2,if_neg q3,if_pos q4]
  exact ⟨h1,h2,h3,by simp only; omega,by simp only; omega,h6,h7,wrap_r _,h9⟩
 by_cases q5 : w.do_ = 5
 ·rw [zcH,if_neg q1,if_neg q2,if_neg q3,if_neg q4,if_pos q5]
  refine ⟨h1,h2,h3,by simp only [List.length_set]; omega,by simp only; omega,h6,h7,h8,fun x hx => ?_⟩
  rcases List.mem_or_eq_of_mem_set hx with hx | rfl
  ·exact h9 x hx
  ·exact hw.dig
 by_cases q6 : w.do_ = 6
 ·rw [zcH,if_neg q1,if_neg q2,if_neg q3,if_neg q4,if_neg q5,if_pos q6]
  exact ⟨h1,h2,by simp only [List.length_drop]; omega,by simp only; omega,by simp only; omega,h6,h7,h8,h9⟩
 by_cases q7 : w.do_ = 7
 ·rw [zcH,if_neg q1,if_neg q2,if_neg q3,if_neg q4,if_neg q5,if_neg q6,if_pos q7]
  exact ⟨h1,h2,by simp only [List.length_take]; omega,by simp only; omega,by simp only; omega,h6,h7,h8,h9⟩
 by_cases q8 : w.do_ = 8
 ·rw [zcH,if_neg q1,if_neg q2,if_neg q3,if_neg q4,if_neg q5,if_neg q6,if_neg q7,if_pos q8]
  exact ⟨h1,h2,by simp only [List.length_modify]; omega,by simp only; omega,by simp only; omega,h6,h7,h8,h9⟩
 by_cases q9 : w.do_ = 9
 ·rw [zcH,if_neg q1,if_neg q2,if_neg q3,if_neg q4,if_neg q5,if_neg q6,if_neg q7,if_neg q8,if_pos q9]
  exact ⟨h1,h2,h3,by simp only; omega,by simp only [List.length_drop]; omega,h6,h7,h8,h9⟩
 by_cases q10 : w.do_ = 10
 ·rw [zcH,if_neg q1,if_neg q2,if_neg q3,if_neg q4,if_neg q5,if_neg q6,if_neg q7,if_neg q8,if_neg q9,if_pos q10]
  exact ⟨h1,h2,h3,by simp only; omega,by simp only; omega,h6,h7,h8,h9⟩
 by_cases q11 : w.do_ = 11
 ·rw [zcH,if_neg q1,if_neg q2,if_neg q3,if_neg q4,if_neg q5,if_neg q6,if_neg q7,if_neg q8,if_neg q9,if_neg q10,if_pos q11]
  exact ⟨h1,h2,h3,by simp only; omega,by simp only [List.length_append,List.length_cons,List.length_nil]; omega,h6,h7,h8,h9⟩
 by_cases q12 : w.do_ = 12
 ·rw [zcH,if_neg q1,if_neg q2,if_neg q3,if_neg q4,if_neg q5,if_neg q6,if_neg q7,if_neg q8,if_neg q9,if_neg q10,if_neg q11,if_pos q12]
  refine ⟨h1,h2,h3,by simp only [List.length_append,List.length_cons,List.length_nil]; omega,by simp only; omega,h6,h7,h8,fun x hx => ?_⟩
  rcases List.mem_append.1 hx with hx | hx
  ·exact h9 x hx
  ·simp only [List.mem_singleton] at hx; subst hx; exact hw.dig
 rw [zcH,if_neg q1,if_neg q2,if_neg q3,if_neg q4,if_neg q5,if_neg q6,if_neg q7,if_neg q8,if_neg q9,if_neg q10,if_neg q11,if_neg q12]
 exact ⟨h1,h2,h3,by omega,by omega,h6,h7,h8,h9⟩
theorem turnI {l : List zkX} : ∀ {k : Nat} {p : zaU},PfI k p → (∀ w ∈ l,TwI w) → PfI (k + l.length) (zkl p l) := by
 induction l with
 | nil => intro k p h _; exact h
 | cons w l ih =>
  intro k p h hw
  have := ih (turn1I h (hw w (by simp))) fun w' h' => hw w' (by simp [h'])
  rw [List.length_cons,show k + (l.length + 1) = k + 1 + l.length by omega]
  exact this
theorem zol {p : zaU} {l : List zkX} (h : zfg p) (h1 : p.path.length ≤ 536870912) (h2 : p.headers.length ≤ 536870912) (h3 : p.cert.signs.length ≤ 536870912) (hl : l.length ≤ 536870912) (hw : ∀ w ∈ l,TwI w) : zfg (zkl p l) := by
 have := turnI (k := 0) (l := l) ⟨h.topic,h.rec_,h2,by omega,by omega,h.off,h.index,h.count,h.paths⟩ hw
 exact ⟨this.topic,this.rec_,by have := this.headers; omega,by have := this.path; omega,by have := this.signs; omega,this.off,this.index,this.count,this.paths⟩
end Go.Proofs.YtncpaekiidpchaaGreat

/- Cases, proofs, blocks and certificates of chapter 23, out of their data. No program in sight. -/
namespace Go.Proofs.YtncpaekiidpchaaGreat
open Go.AW
def tyTwist : List Ty := [.int .i64, .int .i64, .int .i64, .slice [.int .u8]]
def tyCase : List Ty := [.int .i64, .slice [.slice tyReq], .int .u16, .slice tySign, .str, .int .i64, .slice tyTwist]
theorem dec_u16' {d : D} (h : zim (.int .u16) d) : ∃ n : Nat,d = .int .u16 n ∧ n < 65536 := by
 obtain ⟨n,rfl,h2⟩ := dec_int h
 have h' : 0 ≤ n ∧ n ≤ 65535 := by simpa [Lit.wf,IntKind.min,IntKind.max,IntKind.signed,IntKind.bits] using h2
 exact ⟨n.toNat,by rw [show ((n.toNat : Nat) : Int) = n by omega],by omega⟩
theorem dec_twist {ds : List D} (h : zdZ tyTwist ds) : ∃ w : zkX,ds = zpf w ∧ zmP w.dig := by
 obtain ⟨d1,ds,rfl,h1,h⟩ := zaO h
 obtain ⟨d2,ds,rfl,h2,h⟩ := zaO h
 obtain ⟨d3,ds,rfl,h3,h⟩ := zaO h
 obtain ⟨d4,ds,rfl,h4,h⟩ := zaO h
 obtain rfl := zmT h
 obtain ⟨a1,rfl,k1⟩ := zho h1
 obtain ⟨a2,rfl,_⟩ := zho h2
 obtain ⟨a3,rfl,k3⟩ := zho h3
 obtain ⟨a4,rfl⟩ := dec_bytes h4
 exact ⟨⟨a1,a2,a3,a4⟩,rfl,k3⟩
theorem dec_signs {d : D} (h : zim (.slice tySign) d) : ∃ l : List zJ,d = .slice (zaz l) := by
 obtain ⟨l,rfl⟩ := znH (f := zid) h (fun e he => (dec_sign he).imp fun _ h => h.1)
 exact ⟨l,rfl⟩
theorem signs_bulk (l : List zJ) : l.length ≤ zcE (zaz l) := zgM (f := zid) (fun a => by simp only [zid,zdm,zhC]; omega) l
structure PfS (p : zaU) : Prop where
 small : zfg p
 path : p.path.length ≤ 1048576
 headers : p.headers.length ≤ 1048576
 signs : p.cert.signs.length ≤ 1048576
abbrev reqsD (l : List zn) : List D := [.slice (zpT l)]
def caseD (c : zkY) : List D := [.int .i64 c.f, .slice (zpb c.bats), .int .u16 c.voters, .slice (zaz c.bad), .str c.topic, .int .i64 c.offset, .slice (ztL c.twists)]
structure okC (c : zkY) : Prop where
 ops : ∀ l ∈ c.bats, ∀ x ∈ l,zjK x.op ≤ 20971520
 sum : (c.bats.map List.length).sum ≤ 1048576
 voters : c.voters < 65536
 topic : c.topic.length ≤ 1048576
 offset : zmP c.offset
 tl : c.twists.length ≤ 1048576
 twists : ∀ w ∈ c.twists,TwI w
 bad : c.bad.length ≤ 1048576
 f : zmP c.f
theorem zou (l : List zn) : zcE (zpT l) ≤ zdm (reqsD l) := by simp only [reqsD,zdm,zhC]; omega
theorem sum_bulk (bats : List (List zn)) : (bats.map List.length).sum ≤ zcE (bats.map reqsD) := by
 induction bats with
 | nil => simp
 | cons l bats ih =>
  have := zgM (f := reqD) (fun a => by simp only [reqD,zdm,zhC]; omega) l
  have e := zou l
  unfold zpT at e
  simp only [List.map_cons,List.sum_cons,zcE] at ih ⊢
  omega
theorem dec_case {ds : List D} (h : zdZ tyCase ds) (hb : zdm ds ≤ 1048576) : ∃ c,ds = caseD c ∧ okC c := by
 obtain ⟨d1,ds,rfl,h1,h⟩ := zaO h
 obtain ⟨d2,ds,rfl,h2,h⟩ := zaO h
 obtain ⟨d3,ds,rfl,h3,h⟩ := zaO h
 obtain ⟨d4,ds,rfl,h4,h⟩ := zaO h
 obtain ⟨d5,ds,rfl,h5,h⟩ := zaO h
 obtain ⟨d6,ds,rfl,h6,h⟩ := zaO h
 obtain ⟨d7,ds,rfl,h7,h⟩ := zaO h
 obtain rfl := zmT h
 obtain ⟨f,rfl,k1⟩ := zho h1
 obtain ⟨bats,rfl⟩ := znH (f := reqsD) h2 fun e he => by
  obtain ⟨d,rfl,h1⟩ := one_of he
  obtain ⟨b,rfl,_⟩ := dec_reqs h1
  exact ⟨b,rfl⟩
 obtain ⟨v,rfl,k3⟩ := dec_u16' h3
 obtain ⟨bad,rfl⟩ := dec_signs h4
 obtain ⟨t,rfl⟩ := dec_str h5
 obtain ⟨o,rfl,k6⟩ := zho h6
 obtain ⟨tw,rfl,k7⟩ := ztf (f := zpf) h7 fun e he => dec_twist he
 simp only [zdm,zhC] at hb
 have b1 := sum_bulk bats
 have b4 := signs_bulk bad
 have b7 := zgM (f := zpf) (fun a => by simp only [zpf,zdm,zhC]; omega) tw
 refine ⟨⟨f,bats,v,bad,t,o,tw⟩,rfl,fun l hl => ?_, ?_,k3, ?_,k6, ?_,fun w hw => ⟨?_,k7 w hw⟩, ?_,k1⟩
 ·have := zlE (l := bats) (f := reqsD) hl
  have e := zou l
  exact (reqs_sz (b := l) (n := 1048576) (by omega) (by omega)).1
 ·simp only; omega
 ·simp only; omega
 ·simp only; omega
 ·have e := zlE (l := tw) (f := zpf) hw
  simp only [zpf,zdm,zhC,bulk_bcs] at e
  omega
 ·simp only; omega
end Go.Proofs.YtncpaekiidpchaaGreat
