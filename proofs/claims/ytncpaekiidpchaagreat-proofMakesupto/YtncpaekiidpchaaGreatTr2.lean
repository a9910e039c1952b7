/- Made proofs and turned ones are of bearable size; tables stay true. No program in sight. -/
import Derived.Test.YtncpaekiidpchaaGreatKp2
import Derived.Test.YtncpaekiidpchaaGreatTr1
import Derived.Test.YtncpaekiidpchaaGreatSpVote
import Derived.Test.YtncpaekiidpchaaGreatCk3
import Derived.Test.YtncpaekiidpchaaGreatCl1
import Derived.Test.YtncpaekiidpchaaGreatSpBulk
set_option linter.all false
set_option maxRecDepth 100000
namespace Go.Proofs.YtncpaekiidpchaaGreat
open Go.AW
theorem zow : ∀ (f : Nat) {L : List (List UInt8)} {i : Nat} {l : List (List UInt8)},l.length ≤ f → zjY L → (∀ x ∈ l,x.length ≤ 1073741800) → zjY (zbx f L i l).2 ∧ ∀ x ∈ (zbx f L i l).1, 0 ≤ x ∧ x ≤ 1048577
 | 0,L,i,l,hf,h,hx => ⟨by rw [zlw (by omega)]; exact h,by rw [zlw (by omega)]; simp⟩
 | f + 1,L,i,l,hf,h,hx => by
  by_cases h1 : l.length ≤ 1
  ·rw [zlw h1]; exact ⟨h,by simp⟩
  ·have hs := zcr (n := l.length) (by omega)
   rw [zuv (by omega)]
   split
   ·obtain ⟨g1,g2⟩ := zow f (i := i) (l := l.take (zn l.length)) (by rw [List.length_take]; omega) h fun x hm => hx x (List.mem_of_mem_take hm)
    have g3 := znd _ (L := (zbx f L i (l.take (zn l.length))).2) (l := l.drop (zn l.length)) (Nat.le_refl _) g1 fun x hm => hx x (List.mem_of_mem_drop hm)
    have g4 := (zcC _ (L := (zbx f L i (l.take (zn l.length))).2) (l := l.drop (zn l.length)) (Nat.le_refl _) g1.len).2
    refine ⟨g3,fun x hm => ?_⟩
    rcases List.mem_append.1 hm with hm | hm
    ·exact g2 x hm
    ·simp only [List.mem_singleton] at hm; subst hm; exact g4
   ·obtain ⟨g1,g2⟩ := zow f (i := i - zn l.length) (l := l.drop (zn l.length)) (by rw [List.length_drop]; omega) h fun x hm => hx x (List.mem_of_mem_drop hm)
    have g3 := znd _ (L := (zbx f L (i - zn l.length) (l.drop (zn l.length))).2) (l := l.take (zn l.length)) (Nat.le_refl _) g1 fun x hm => hx x (List.mem_of_mem_take hm)
    have g4 := (zcC _ (L := (zbx f L (i - zn l.length) (l.drop (zn l.length))).2) (l := l.take (zn l.length)) (Nat.le_refl _) g1.len).2
    refine ⟨g3,fun x hm => ?_⟩
    rcases List.mem_append.1 hm with hm | hm
    ·exact g2 x hm
    ·simp only [List.mem_singleton] at hm; subst hm; exact g4
theorem zqR {L : List (List UInt8)} {l : List zdy} {c : zfF} {t : List UInt8} {o : Int} (hL : zjY L) (hb : ∀ b ∈ l,zgb b) (hl : l.length ≤ 536870912) (hc : c.signs.length ≤ 536870912) (ht : t.length ≤ 16777216) (ho : zmK o) :
  zdV (zdM L l c t o).2.1 ∧ (zdM L l c t o).2.1.path.length ≤ 1048576 ∧ (zdM L l c t o).2.1.headers.length ≤ 536870912 ∧ (zdM L l c t o).2.1.cert.signs.length ≤ 536870912 ∧ zjY (zdM L l c t o).2.2 := by
 have h0 : zdV zqn := ⟨by simp [zqn],by simp [zqn],by simp [zqn],by simp [zqn],by simp [zqn],by simp [zqn,zmK],by simp [zqn,zmK],by simp [zqn,zmK],by simp [zqn]⟩
 unfold zdM
 split
 ·exact ⟨h0,by simp [zqn],by simp [zqn],by simp [zqn],hL⟩
 ·rename_i i k hf
  split
  ·exact ⟨h0,by simp [zqn],by simp [zqn],by simp [zqn],hL⟩
  ·rename_i hs hr
   obtain ⟨n0,b,hi0,hx,hk⟩ := zuG hf
   have hi : i = n0 := by omega
   subst hi
   have hbx := hb b (List.mem_of_getElem? hx)
   have hg : l.getD i ⟨⟨0, 0, 0, 0, 0⟩, [], []⟩ = b := by simp [List.getD,hx]
   have hlen := runF_len hr
   rw [List.length_drop] at hlen
   simp only [hg]
   have hpl : ∀ x ∈ b.placed.map zaF,x.length ≤ 1073741800 := fun x hm => by
    obtain ⟨p,hp,rfl⟩ := List.mem_map.1 hm
    have := zjp (hbx.each p hp); omega
   obtain ⟨g1,g2⟩ := zow b.placed.length (i := k) (l := b.placed.map zaF) (by simp) hL hpl
   have g3 := (zfr b.placed.length (L := L) (i := k) (l := b.placed.map zaF) (by simp) hL.len).2
   rw [List.length_map] at g3
   have g4 := hbx.len
   have hgk : b.placed.getD k ⟨[], 0, []⟩ ∈ b.placed := by
    rw [show b.placed.getD k ⟨[], 0, []⟩ = b.placed[k] by simp [List.getD,List.getElem?_eq_getElem hk]]
    exact List.getElem_mem hk
   have g5 := hbx.each _ hgk
   refine ⟨⟨ht,g5.rec_,by simp only; omega,by simp only; omega,by simp only; omega,ho, ?_, ?_,fun x hm => ?_⟩,by omega,by omega,hc,g1⟩
   ·constructor <;> simp only <;> omega
   ·constructor <;> simp only <;> omega
   ·have := g2 x hm; constructor <;> omega
theorem wrap_r (n : Int) : zmK (IntKind.i64.wrap n) := by
 have e : IntKind.i64.wrap n = if 9223372036854775808 ≤ n % 18446744073709551616 then n % 18446744073709551616 - 18446744073709551616 else n % 18446744073709551616 := by
  simp [IntKind.wrap,IntKind.signed,IntKind.bits]
 rw [e]
 by_cases h : 9223372036854775808 ≤ n % 18446744073709551616
 ·rw [if_pos h]; constructor <;> omega
 ·rw [if_neg h]; constructor <;> omega
structure TwI (w : zlb) : Prop where
 rec_ : w.rec_.length ≤ 16777216
 dig : zmK w.dig
structure PfI (k : Nat) (p : zbe) : Prop where
 topic : p.topic.length ≤ 16777216
 rec_ : p.rec_.length ≤ 16777216
 headers : p.headers.length ≤ 536870912
 path : p.path.length ≤ 536870912 + k
 signs : p.cert.signs.length ≤ 536870912 + k
 off : zmK p.offset
 index : zmK p.index
 count : zmK p.count
 paths : ∀ x ∈ p.path,zmK x
theorem turn1I {k : Nat} {p : zbe} {w : zlb} (h : PfI k p) (hw : TwI w) : PfI (k + 1) (zcY p w) := by
 obtain ⟨h1,h2,h3,h4,h5,h6,h7,h8,h9⟩ := h
 by_cases q1 : w.do_ = 1
 ·rw [zcY,if_pos q1]
  exact ⟨h1,hw.rec_,h3,by simp only; omega,by simp only; omega,h6,h7,h8,h9⟩
 by_cases q2 : w.do_ = 2
 ·rw [zcY,if_neg q1,if_pos q2]
  exact ⟨h1,h2,h3,by simp only; omega,by simp only; omega,wrap_r _,h7,h8,h9⟩
 by_cases q3 : w.do_ = 3
 ·rw [zcY,if_neg q1,if_neg q2,if_pos q3]
  exact ⟨h1,h2,h3,by simp only; omega,by simp only; omega,h6,wrap_r _,h8,h9⟩
 by_cases q4 : w.do_ = 4
 ·rw [zcY,if_neg q1,if_neg q2,if_neg q3,if_pos q4]
  exact ⟨h1,h2,h3,by simp only; omega,by simp only; omega,h6,h7,wrap_r _,h9⟩
 by_cases q5 : w.do_ = 5
 ·rw [zcY,if_neg q1,if_neg q2,if_neg q3,if_neg q4,if_pos q5]
  refine ⟨h1,h2,h3,by simp only [List.length_set]; omega,by simp only; omega,h6,h7,h8,fun x hx => ?_⟩
  rcases List.mem_or_eq_of_mem_set hx with hx | rfl
  ·exact h9 x hx
  ·exact hw.dig
 by_cases q6 : w.do_ = 6
 ·rw [zcY,if_neg q1,if_neg q2,if_neg q3,if_neg q4,if_neg q5,if_pos q6]
  exact ⟨h1,h2,by simp only [List.length_drop]; omega,by simp only; omega,by simp only; omega,h6,h7,h8,h9⟩
 by_cases q7 : w.do_ = 7
 ·rw [zcY,if_neg q1,if_neg q2,if_neg q3,if_neg q4,if_neg q5,if_neg q6,if_pos q7]
  exact ⟨h1,h2,by simp only [List.length_take]; omega,by simp only; omega,by simp only; omega,h6,h7,h8,h9⟩
 by_cases q8 : w.do_ = 8
 ·rw [zcY,if_neg q1,if_neg q2,if_neg q3,if_neg q4,if_neg q5,if_neg q6,if_neg q7,if_pos q8]
  exact ⟨h1,h2,by simp only [List.length_modify]; omega,by simp only; omega,by simp only; omega,h6,h7,h8,h9⟩
 by_cases q9 : w.do_ = 9
 ·rw [zcY,if_neg q1,if_neg q2,if_neg q3,if_neg q4,if_neg q5,if_neg q6,if_neg q7,if_neg q8,if_pos q9]
  exact ⟨h1,h2,h3,by simp only; omega,by simp only [List.length_drop]; omega,h6,h7,h8,h9⟩
 by_cases q10 : w.do_ = 10
 ·rw [zcY,if_neg q1,if_neg q2,if_neg q3,if_neg q4,if_neg q5,if_neg q6,if_neg q7,if_neg q8,if_neg q9,if_pos q10]
  exact ⟨h1,h2,h3,by simp only; omega,by simp only; omega,h6,h7,h8,h9⟩
 by_cases q11 : w.do_ = 11
 ·rw [zcY,if_neg q1,if_neg q2,if_neg q3,if_neg q4,if_neg q5,if_neg q6,if_neg q7,if_neg q8,if_neg q9,if_neg q10,if_pos q11]
  exact ⟨h1,h2,h3,by simp only; omega,by simp only [List.length_append,List.length_cons,List.length_nil]; omega,h6,h7,h8,h9⟩
 by_cases q12 : w.do_ = 12
 ·rw [zcY,if_neg q1,if_neg q2,if_neg q3,if_neg q4,if_neg q5,if_neg q6,if_neg q7,if_neg q8,if_neg q9,if_neg q10,if_neg q11,if_pos q12]
  refine ⟨h1,h2,h3,by simp only [List.length_append,List.length_cons,List.length_nil]; omega,by simp only; omega,h6,h7,h8,fun x hx => ?_⟩
  rcases List.mem_append.1 hx with hx | hx
  ·exact h9 x hx
  ·simp only [List.mem_singleton] at hx; subst hx; exact hw.dig
 rw [zcY,if_neg q1,if_neg q2,if_neg q3,if_neg q4,if_neg q5,if_neg q6,if_neg q7,if_neg q8,if_neg q9,if_neg q10,if_neg q11,if_neg q12]
 exact ⟨h1,h2,h3,by omega,by omega,h6,h7,h8,h9⟩
theorem turnI {l : List zlb} : ∀ {k : Nat} {p : zbe},PfI k p → (∀ w ∈ l,TwI w) → PfI (k + l.length) (zkr p l) := by
 induction l with
 | nil => intro k p h _; exact h
 | cons w l ih =>
  intro k p h hw
  have := ih (turn1I h (hw w (by simp))) fun w' h' => hw w' (by simp [h'])
  rw [List.length_cons,show k + (l.length + 1) = k + 1 + l.length by omega]
  exact this
theorem zop {p : zbe} {l : List zlb} (h : zdV p) (h1 : p.path.length ≤ 536870912) (h2 : p.headers.length ≤ 536870912) (h3 : p.cert.signs.length ≤ 536870912) (hl : l.length ≤ 536870912) (hw : ∀ w ∈ l,TwI w) : zdV (zkr p l) := by
 have := turnI (k := 0) (l := l) ⟨h.topic,h.rec_,h2,by omega,by omega,h.off,h.index,h.count,h.paths⟩ hw
 exact ⟨this.topic,this.rec_,by have := this.headers; omega,by have := this.path; omega,by have := this.signs; omega,this.off,this.index,this.count,this.paths⟩
end Go.Proofs.YtncpaekiidpchaaGreat

/- Cases, proofs, blocks and certificates of chapter 23, out of their data. No program in sight. -/
namespace Go.Proofs.YtncpaekiidpchaaGreat
open Go.AW
def tyTwist : List Ty := [.int .i64, .int .i64, .int .i64, .slice [.int .u8]]
def tyPlaced : List Ty := [.str, .int .i64, .slice [.int .u8]]
def tyCert : List Ty := [.int .i64, .int .i64, .slice tySign]
def zui : List Ty := [.int .i64, .int .i64, .int .i64, .int .i64, .int .i64, .slice zuh, .slice tyPlaced]
def tyCase : List Ty := [.int .i64, .slice [.slice tyReq], .int .u16, .slice tySign, .str, .int .i64, .slice tyTwist]
theorem dec_u16' {d : D} (h : zhx (.int .u16) d) : ∃ n : Nat,d = .int .u16 n ∧ n < 65536 := by
 obtain ⟨n,rfl,h2⟩ := dec_int h
 have h' : 0 ≤ n ∧ n ≤ 65535 := by simpa [Lit.wf,IntKind.min,IntKind.max,IntKind.signed,IntKind.bits] using h2
 exact ⟨n.toNat,by rw [show ((n.toNat : Nat) : Int) = n by omega],by omega⟩
theorem dec_twist {ds : List D} (h : zdm tyTwist ds) : ∃ w : zlb,ds = zpk w ∧ zmK w.dig := by
 obtain ⟨d1,ds,rfl,h1,h⟩ := zac h
 obtain ⟨d2,ds,rfl,h2,h⟩ := zac h
 obtain ⟨d3,ds,rfl,h3,h⟩ := zac h
 obtain ⟨d4,ds,rfl,h4,h⟩ := zac h
 obtain rfl := zfK h
 obtain ⟨a1,rfl,k1⟩ := zcc h1
 obtain ⟨a2,rfl,_⟩ := zcc h2
 obtain ⟨a3,rfl,k3⟩ := zcc h3
 obtain ⟨a4,rfl⟩ := zru h4
 exact ⟨⟨a1,a2,a3,a4⟩,rfl,k3⟩
theorem dec_placed {ds : List D} (h : zdm tyPlaced ds) : ∃ p : zbw,ds = zeT p ∧ zmK p.offset := by
 obtain ⟨d1,ds,rfl,h1,h⟩ := zac h
 obtain ⟨d2,ds,rfl,h2,h⟩ := zac h
 obtain ⟨d3,ds,rfl,h3,h⟩ := zac h
 obtain rfl := zfK h
 obtain ⟨a1,rfl⟩ := zpc h1
 obtain ⟨a2,rfl,k2⟩ := zcc h2
 obtain ⟨a3,rfl⟩ := zru h3
 exact ⟨⟨a1,a2,a3⟩,rfl,k2⟩
theorem dec_signs {d : D} (h : zhx (.slice tySign) d) : ∃ l : List zae,d = .slice (zaz l) := by
 obtain ⟨l,rfl⟩ := znI (f := zgE) h (fun e he => (dec_sign he).imp fun _ h => h.1)
 exact ⟨l,rfl⟩
theorem signs_bulk (l : List zae) : l.length ≤ zdO (zaz l) := zeL (f := zgE) (fun a => by simp only [zgE,zdf,zfE]; omega) l
theorem dec_cert {ds : List D} (h : zdm tyCert ds) (hb : zdf ds ≤ 1048576) : ∃ c : zfF,ds = certD c ∧ c.signs.length ≤ 1048576 := by
 obtain ⟨d1,ds,rfl,h1,h⟩ := zac h
 obtain ⟨d2,ds,rfl,h2,h⟩ := zac h
 obtain ⟨d3,ds,rfl,h3,h⟩ := zac h
 obtain rfl := zfK h
 obtain ⟨a1,rfl,k1⟩ := zcc h1
 obtain ⟨a2,rfl,_⟩ := zcc h2
 obtain ⟨a3,rfl⟩ := dec_signs h3
 simp only [zdf,zfE] at hb
 have := signs_bulk a3
 exact ⟨⟨a1,a2,a3⟩,rfl,by simp only; omega⟩
structure PfS (p : zbe) : Prop where
 small : zdV p
 path : p.path.length ≤ 1048576
 headers : p.headers.length ≤ 1048576
 signs : p.cert.signs.length ≤ 1048576
theorem dec_block {ds : List D} (h : zdm zui ds) (hb : zdf ds ≤ 1048576) : ∃ b : zdy,ds = zfU b ∧ zgb b := by
 obtain ⟨d1,ds,rfl,h1,h⟩ := zac h
 obtain ⟨d2,ds,rfl,h2,h⟩ := zac h
 obtain ⟨d3,ds,rfl,h3,h⟩ := zac h
 obtain ⟨d4,ds,rfl,h4,h⟩ := zac h
 obtain ⟨d5,ds,rfl,h5,h⟩ := zac h
 obtain ⟨d6,ds,rfl,h6,h⟩ := zac h
 obtain ⟨d7,ds,rfl,h7,h⟩ := zac h
 obtain rfl := zfK h
 obtain ⟨a1,rfl,k1⟩ := zcc h1
 obtain ⟨a2,rfl,_⟩ := zcc h2
 obtain ⟨a3,rfl,_⟩ := zcc h3
 obtain ⟨a4,rfl,_⟩ := zcc h4
 obtain ⟨a5,rfl,_⟩ := zcc h5
 obtain ⟨a6,rfl,_⟩ := dec_batchR h6
 obtain ⟨a7,rfl,k7⟩ := zlF (f := zeT) h7 fun e he => dec_placed he
 simp only [zdf,zfE] at hb
 have b7 := zeL (f := zeT) (fun a => by simp only [zeT,zdf,zfE]; omega) a7
 refine ⟨⟨⟨a1,a2,a3,a4,a5⟩,a6,a7⟩,rfl,k1,by simp only; omega,fun p hp => ?_⟩
 have e := ziS (l := a7) (f := zeT) hp
 simp only [zeT,zdf,zfE,zvd] at e
 exact ⟨k7 p hp,by omega,by omega⟩
theorem dec_blocks {d : D} (h : zhx (.slice zui) d) (hb : zfE d ≤ 1048576) : ∃ l : List zdy,d = .slice (zbv l) ∧ (∀ b ∈ l,zgb b) ∧ l.length ≤ 1048576 := by
 cases h with
 | slice _ es h1 h2 h3 =>
  simp only [zfE] at hb
  have : ∀ l : List (List D),(∀ e ∈ l,zdm zui e) → zdO l ≤ 1048576 → ∃ as_ : List zdy,l = as_.map zfU ∧ (∀ a ∈ as_,zgb a) := by
   intro l
   induction l with
   | nil => intro _ _; exact ⟨[],rfl,by simp⟩
   | cons e l ih =>
    intro hl hb
    simp only [zdO] at hb
    obtain ⟨a,rfl,ha⟩ := dec_block (hl e (.head _)) (by omega)
    obtain ⟨as_,rfl,has⟩ := ih (fun e he => hl e (.tail _ he)) (by omega)
    exact ⟨a :: as_,rfl,by simpa using ⟨ha,has⟩⟩
  obtain ⟨as_,rfl,h4⟩ := this es (fun e he => ⟨h2 e he,h3 e he⟩) (by omega)
  have b7 := zeL (f := zfU) (fun a => by simp only [zfU,zdf,zfE]; omega) as_
  exact ⟨as_,rfl,h4,by omega⟩
abbrev reqsD (l : List zA) : List D := [.slice (zsd l)]
def caseD (c : znS) : List D := [.int .i64 c.f, .slice (zqf c.bats), .int .u16 c.voters, .slice (zaz c.bad), .str c.topic, .int .i64 c.offset, .slice (zuj c.twists)]
structure okC (c : znS) : Prop where
 ops : ∀ l ∈ c.bats, ∀ x ∈ l,zkq x.op ≤ 20971520
 sum : (c.bats.map List.length).sum ≤ 1048576
 voters : c.voters < 65536
 topic : c.topic.length ≤ 1048576
 offset : zmK c.offset
 tl : c.twists.length ≤ 1048576
 twists : ∀ w ∈ c.twists,TwI w
 bad : c.bad.length ≤ 1048576
 f : zmK c.f
theorem zsx (l : List zA) : zdO (zsd l) ≤ zdf (reqsD l) := by simp only [reqsD,zdf,zfE]; omega
theorem sum_bulk (bats : List (List zA)) : (bats.map List.length).sum ≤ zdO (bats.map reqsD) := by
 induction bats with
 | nil => simp
 | cons l bats ih =>
  have := zeL (f := reqD) (fun a => by simp only [reqD,zdf,zfE]; omega) l
  have e := zsx l
  unfold zsd at e
  simp only [List.map_cons,List.sum_cons,zdO] at ih ⊢
  omega
theorem dec_case {ds : List D} (h : zdm tyCase ds) (hb : zdf ds ≤ 1048576) : ∃ c,ds = caseD c ∧ okC c := by
 obtain ⟨d1,ds,rfl,h1,h⟩ := zac h
 obtain ⟨d2,ds,rfl,h2,h⟩ := zac h
 obtain ⟨d3,ds,rfl,h3,h⟩ := zac h
 obtain ⟨d4,ds,rfl,h4,h⟩ := zac h
 obtain ⟨d5,ds,rfl,h5,h⟩ := zac h
 obtain ⟨d6,ds,rfl,h6,h⟩ := zac h
 obtain ⟨d7,ds,rfl,h7,h⟩ := zac h
 obtain rfl := zfK h
 obtain ⟨f,rfl,k1⟩ := zcc h1
 obtain ⟨bats,rfl⟩ := znI (f := reqsD) h2 fun e he => by
  obtain ⟨d,rfl,h1⟩ := one_of he
  obtain ⟨b,rfl,_⟩ := dec_reqs h1
  exact ⟨b,rfl⟩
 obtain ⟨v,rfl,k3⟩ := dec_u16' h3
 obtain ⟨bad,rfl⟩ := dec_signs h4
 obtain ⟨t,rfl⟩ := zpc h5
 obtain ⟨o,rfl,k6⟩ := zcc h6
 obtain ⟨tw,rfl,k7⟩ := zlF (f := zpk) h7 fun e he => dec_twist he
 simp only [zdf,zfE] at hb
 have b1 := sum_bulk bats
 have b4 := signs_bulk bad
 have b7 := zeL (f := zpk) (fun a => by simp only [zpk,zdf,zfE]; omega) tw
 refine ⟨⟨f,bats,v,bad,t,o,tw⟩,rfl,fun l hl => ?_, ?_,k3, ?_,k6, ?_,fun w hw => ⟨?_,k7 w hw⟩, ?_,k1⟩
 ·have := ziS (l := bats) (f := reqsD) hl
  have e := zsx l
  exact (reqs_sz (b := l) (n := 1048576) (by omega) (by omega)).1
 ·simp only; omega
 ·simp only; omega
 ·simp only; omega
 ·have e := ziS (l := tw) (f := zpk) hw
  simp only [zpk,zdf,zfE,zvd] at e
  omega
 ·simp only; omega
end Go.Proofs.YtncpaekiidpchaaGreat
