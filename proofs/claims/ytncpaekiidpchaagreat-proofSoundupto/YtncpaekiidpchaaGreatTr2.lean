/- Made proofs and turned ones are of bearable size; tables stay true. No program in sight. -/
import Derived.Test.YtncpaekiidpchaaGreatBt1
import Derived.Test.YtncpaekiidpchaaGreatTr1
import Derived.Test.YtncpaekiidpchaaGreatSpVote
import Derived.Test.YtncpaekiidpchaaGreatCk3
import Derived.Test.YtncpaekiidpchaaGreatCl1
import Derived.Test.YtncpaekiidpchaaGreatSpBulk
set_option linter.all false
set_option maxRecDepth 100000
namespace Go.Proofs.YtncpaekiidpchaaGreat
open Go.AW
theorem zou : ∀ (f : Nat) {L : List (List UInt8)} {i : Nat} {l : List (List UInt8)},l.length ≤ f → zkc L → (∀ x ∈ l,x.length ≤ 1073741800) → zkc (zbR f L i l).2 ∧ ∀ x ∈ (zbR f L i l).1, 0 ≤ x ∧ x ≤ 1048577
 | 0,L,i,l,hf,h,hx => ⟨by rw [zjo (by omega)]; exact h,by rw [zjo (by omega)]; simp⟩
 | f + 1,L,i,l,hf,h,hx => by
  by_cases h1 : l.length ≤ 1
  ·rw [zjo h1]; exact ⟨h,by simp⟩
  ·have hs := zbH (n := l.length) (by omega)
   rw [zuc (by omega)]
   split
   ·obtain ⟨g1,g2⟩ := zou f (i := i) (l := l.take (zk l.length)) (by rw [List.length_take]; omega) h fun x hm => hx x (List.mem_of_mem_take hm)
    have g3 := znh _ (L := (zbR f L i (l.take (zk l.length))).2) (l := l.drop (zk l.length)) (Nat.le_refl _) g1 fun x hm => hx x (List.mem_of_mem_drop hm)
    have g4 := (zcu _ (L := (zbR f L i (l.take (zk l.length))).2) (l := l.drop (zk l.length)) (Nat.le_refl _) g1.len).2
    refine ⟨g3,fun x hm => ?_⟩
    rcases List.mem_append.1 hm with hm | hm
    ·exact g2 x hm
    ·simp only [List.mem_singleton] at hm; subst hm; exact g4
   ·obtain ⟨g1,g2⟩ := zou f (i := i - zk l.length) (l := l.drop (zk l.length)) (by rw [List.length_drop]; omega) h fun x hm => hx x (List.mem_of_mem_drop hm)
    have g3 := znh _ (L := (zbR f L (i - zk l.length) (l.drop (zk l.length))).2) (l := l.take (zk l.length)) (Nat.le_refl _) g1 fun x hm => hx x (List.mem_of_mem_take hm)
    have g4 := (zcu _ (L := (zbR f L (i - zk l.length) (l.drop (zk l.length))).2) (l := l.take (zk l.length)) (Nat.le_refl _) g1.len).2
    refine ⟨g3,fun x hm => ?_⟩
    rcases List.mem_append.1 hm with hm | hm
    ·exact g2 x hm
    ·simp only [List.mem_singleton] at hm; subst hm; exact g4
theorem zqO {L : List (List UInt8)} {l : List zbM} {c : zfN} {t : List UInt8} {o : Int} (hL : zkc L) (hb : ∀ b ∈ l,zmy b) (hl : l.length ≤ 536870912) (hc : c.signs.length ≤ 536870912) (ht : t.length ≤ 16777216) (ho : zlY o) :
  zdT (zeQ L l c t o).2.1 ∧ (zeQ L l c t o).2.1.path.length ≤ 1048576 ∧ (zeQ L l c t o).2.1.headers.length ≤ 536870912 ∧ (zeQ L l c t o).2.1.cert.signs.length ≤ 536870912 ∧ zkc (zeQ L l c t o).2.2 := by
 have h0 : zdT zsy := ⟨by simp [zsy],by simp [zsy],by simp [zsy],by simp [zsy],by simp [zsy],by simp [zsy,zlY],by simp [zsy,zlY],by simp [zsy,zlY],by simp [zsy]⟩
 unfold zeQ
 split
 ·exact ⟨h0,by simp [zsy],by simp [zsy],by simp [zsy],hL⟩
 ·rename_i i k hf
  split
  ·exact ⟨h0,by simp [zsy],by simp [zsy],by simp [zsy],hL⟩
  ·rename_i hs hr
   obtain ⟨n0,b,hi0,hx,hk⟩ := findB_lt hf
   have hi : i = n0 := by omega
   subst hi
   have hbx := hb b (List.mem_of_getElem? hx)
   have hg : l.getD i ⟨⟨0, 0, 0, 0, 0⟩, [], []⟩ = b := by simp [List.getD,hx]
   have hlen := runF_len hr
   rw [List.length_drop] at hlen
   simp only [hg]
   have hpl : ∀ x ∈ b.placed.map zao,x.length ≤ 1073741800 := fun x hm => by
    obtain ⟨p,hp,rfl⟩ := List.mem_map.1 hm
    have := zmC (hbx.each p hp); omega
   obtain ⟨g1,g2⟩ := zou b.placed.length (i := k) (l := b.placed.map zao) (by simp) hL hpl
   have g3 := (ziu b.placed.length (L := L) (i := k) (l := b.placed.map zao) (by simp) hL.len).2
   rw [List.length_map] at g3
   have g4 := hbx.len
   have hgk : b.placed.getD k ⟨[], 0, []⟩ ∈ b.placed := by
    rw [show b.placed.getD k ⟨[], 0, []⟩ = b.placed[k] by simp [List.getD,List.getElem?_eq_getElem hk]]
    exact List.getElem_mem hk
   have g5 := hbx.each _ hgk
   refine ⟨⟨ht,g5.rec_,by simp only; omega,by simp only; omega,by simp only; omega,ho, ?_, ?_,fun x hm => ?_⟩,by omega,by omega,hc,g1⟩
   ·constructor <;> simp only <;> omega
   ·constructor <;> simp only <;> omega
   ·have := g2 x hm; constructor <;> omega
theorem wrap_r (n : Int) : zlY (IntKind.i64.wrap n) := by
 have e : IntKind.i64.wrap n = if 9223372036854775808 ≤ n % 18446744073709551616 then n % 18446744073709551616 - 18446744073709551616 else n % 18446744073709551616 := by
  simp [IntKind.wrap,IntKind.signed,IntKind.bits]
 rw [e]
 by_cases h : 9223372036854775808 ≤ n % 18446744073709551616
 ·rw [if_pos h]; constructor <;> omega
 ·rw [if_neg h]; constructor <;> omega
structure TwI (w : zle) : Prop where
 rec_ : w.rec_.length ≤ 16777216
 dig : zlY w.dig
structure PfI (k : Nat) (p : zaO) : Prop where
 topic : p.topic.length ≤ 16777216
 rec_ : p.rec_.length ≤ 16777216
 headers : p.headers.length ≤ 536870912
 path : p.path.length ≤ 536870912 + k
 signs : p.cert.signs.length ≤ 536870912 + k
 off : zlY p.offset
 index : zlY p.index
 count : zlY p.count
 paths : ∀ x ∈ p.path,zlY x
theorem turn1I {k : Nat} {p : zaO} {w : zle} (h : PfI k p) (hw : TwI w) : PfI (k + 1) (zcH p w) := by
 obtain ⟨h1,h2,h3,h4,h5,h6,h7,h8,h9⟩ := h
 by_cases q1 : w.do_ = 1
 ·rw [zcH,if_pos q1]
  exact ⟨h1,hw.rec_,h3,by simp only; omega,by simp only; omega,h6,h7,h8,h9⟩
 by_cases q2 : w.do_ = 2
 ·rw [zcH,if_neg q1,if_pos q2]
  exact ⟨h1,h2,h3,by simp only; omega,by simp only; omega,wrap_r _,h7,h8,h9⟩
 by_cases q3 : w.do_ = 3
 ·rw [zcH,if_neg q1,if_neg q2,if_pos q3]
  exact ⟨h1,h2,h3,by simp only; omega,by simp only; omega,h6,wrap_r _,h8,h9⟩
 by_cases q4 : w.do_ = 4
 ·rw [zcH,if_neg q1,if_neg q2,if_neg q3,if_pos q4]
  exact ⟨h1,h2,h3,by simp only; omega,by simp only; omega,h6,h7,wrap_r _,h9⟩
 by_cases q5 : w.do_ = 5
 ·rw [zcH,if_neg q1,if_neg q2,if_neg q3,if_neg q4,if_pos q5]
  refine ⟨h1,h2,h3,by simp only [List.length_set]; omega,by simp only; omega,h6,h7,h8,fun x hx => ?_⟩
  rcases List.mem_or_eq_of_mem_set hx with hx | rfl
  ·exact h9 x hx
  ·exact hw.dig
 by_cases q6 : w.do_ = 6
 ·rw [zcH,if_neg q1,if_neg q2,if_neg q3,if_neg q4,if_neg q5,if_pos q6]
  exact ⟨h1,h2,by simp only [List.length_drop]; omega,by simp only; omega,by simp only; omega,h6,h7,h8,h9⟩
 by_cases q7 : w.do_ = 7
 ·rw [zcH,if_neg q1,if_neg q2,if_neg q3,if_neg q4,if_neg q5,if_neg q6,if_pos q7]
  exact ⟨h1,h2,by simp only [List.length_take]; omega,by simp only; omega,by simp only; omega,h6,h7,h8,h9⟩
 by_cases q8 : w.do_ = 8
 ·rw [zcH,if_neg q1,if_neg q2,if_neg q3,if_neg q4,if_neg q5,if_neg q6,if_neg q7,if_pos q8]
  exact ⟨h1,h2,by simp only [List.length_modify]; omega,by simp only; omega,by simp only; omega,h6,h7,h8,h9⟩
 by_cases q9 : w.do_ = 9
 ·rw [zcH,if_neg q1,if_neg q2,if_neg q3,if_neg q4,if_neg q5,if_neg q6,if_neg q7,if_neg q8,if_pos q9]
  exact ⟨h1,h2,h3,by simp only; omega,by simp only [List.length_drop]; omega,h6,h7,h8,h9⟩
 by_cases q10 : w.do_ = 10
 ·rw [zcH,if_neg q1,if_neg q2,if_neg q3,if_neg q4,if_neg q5,if_neg q6,if_neg q7,if_neg q8,if_neg q9,if_pos q10]
  exact ⟨h1,h2,h3,by simp only; omega,by simp only; omega,h6,h7,h8,h9⟩
 by_cases q11 : w.do_ = 11
 ·rw [zcH,if_neg q1,if_neg q2,if_neg q3,if_neg q4,if_neg q5,if_neg q6,if_neg q7,if_neg q8,if_neg q9,if_neg q10,if_pos q11]
  exact ⟨h1,h2,h3,by simp only; omega,by simp only [List.length_append,List.length_cons,List.length_nil]; omega,h6,h7,h8,h9⟩
 by_cases q12 : w.do_ = 12
 ·rw [zcH,if_neg q1,if_neg q2,if_neg q3,if_neg q4,if_neg q5,if_neg q6,if_neg q7,if_neg q8,if_neg q9,if_neg q10,if_neg q11,if_pos q12]
  refine ⟨h1,h2,h3,by simp only [List.length_append,List.length_cons,List.length_nil]; omega,by simp only; omega,h6,h7,h8,fun x hx => ?_⟩
  rcases List.mem_append.1 hx with hx | hx
  ·exact h9 x hx
  ·simp only [List.mem_singleton] at hx; subst hx; exact hw.dig
 rw [zcH,if_neg q1,if_neg q2,if_neg q3,if_neg q4,if_neg q5,if_neg q6,if_neg q7,if_neg q8,if_neg q9,if_neg q10,if_neg q11,if_neg q12]
 exact ⟨h1,h2,h3,by omega,by omega,h6,h7,h8,h9⟩
theorem turnI {l : List zle} : ∀ {k : Nat} {p : zaO},PfI k p → (∀ w ∈ l,TwI w) → PfI (k + l.length) (zic p l) := by
 induction l with
 | nil => intro k p h _; exact h
 | cons w l ih =>
  intro k p h hw
  have := ih (turn1I h (hw w (by simp))) fun w' h' => hw w' (by simp [h'])
  rw [List.length_cons,show k + (l.length + 1) = k + 1 + l.length by omega]
  exact this
theorem zlt {p : zaO} {l : List zle} (h : zdT p) (h1 : p.path.length ≤ 536870912) (h2 : p.headers.length ≤ 536870912) (h3 : p.cert.signs.length ≤ 536870912) (hl : l.length ≤ 536870912) (hw : ∀ w ∈ l,TwI w) : zdT (zic p l) := by
 have := turnI (k := 0) (l := l) ⟨h.topic,h.rec_,h2,by omega,by omega,h.off,h.index,h.count,h.paths⟩ hw
 exact ⟨this.topic,this.rec_,by have := this.headers; omega,by have := this.path; omega,by have := this.signs; omega,this.off,this.index,this.count,this.paths⟩
end Go.Proofs.YtncpaekiidpchaaGreat

/- Cases, proofs, blocks and certificates of chapter 23, out of their data. No program in sight. -/
namespace Go.Proofs.YtncpaekiidpchaaGreat
open Go.AW
def tyTwist : List Ty := [.int .i64, .int .i64, .int .i64, .slice [.int .u8]]
def tyHdr : List Ty := [.int .i64, .int .i64, .int .i64, .int .i64, .int .i64]
def tyProof : List Ty := [.str, .int .i64, .slice [.int .u8], .slice tyHdr, .int .i64, .int .i64, .slice [.int .i64], .int .i64, .int .i64, .slice tySign]
def tyCase : List Ty := [.int .i64, .slice [.slice tyReq], .int .u16, .slice tySign, .str, .int .i64, .slice tyTwist]
theorem dec_u16' {d : D} (h : zin (.int .u16) d) : ∃ n : Nat,d = .int .u16 n ∧ n < 65536 := by
 obtain ⟨n,rfl,h2⟩ := dec_int h
 have h' : 0 ≤ n ∧ n ≤ 65535 := by simpa [Lit.wf,IntKind.min,IntKind.max,IntKind.signed,IntKind.bits] using h2
 exact ⟨n.toNat,by rw [show ((n.toNat : Nat) : Int) = n by omega],by omega⟩
theorem dec_hdr {ds : List D} (h : zdv tyHdr ds) : ∃ x : zcJ,ds = hdrD x ∧ zlY x.seq := by
 obtain ⟨d1,ds,rfl,h1,h⟩ := zab h
 obtain ⟨d2,ds,rfl,h2,h⟩ := zab h
 obtain ⟨d3,ds,rfl,h3,h⟩ := zab h
 obtain ⟨d4,ds,rfl,h4,h⟩ := zab h
 obtain ⟨d5,ds,rfl,h5,h⟩ := zab h
 obtain rfl := zgV h
 obtain ⟨a1,rfl,k1⟩ := zcp h1
 obtain ⟨a2,rfl,_⟩ := zcp h2
 obtain ⟨a3,rfl,_⟩ := zcp h3
 obtain ⟨a4,rfl,_⟩ := zcp h4
 obtain ⟨a5,rfl,_⟩ := zcp h5
 exact ⟨⟨a1,a2,a3,a4,a5⟩,rfl,k1⟩
theorem dec_twist {ds : List D} (h : zdv tyTwist ds) : ∃ w : zle,ds = zpi w ∧ zlY w.dig := by
 obtain ⟨d1,ds,rfl,h1,h⟩ := zab h
 obtain ⟨d2,ds,rfl,h2,h⟩ := zab h
 obtain ⟨d3,ds,rfl,h3,h⟩ := zab h
 obtain ⟨d4,ds,rfl,h4,h⟩ := zab h
 obtain rfl := zgV h
 obtain ⟨a1,rfl,k1⟩ := zcp h1
 obtain ⟨a2,rfl,_⟩ := zcp h2
 obtain ⟨a3,rfl,k3⟩ := zcp h3
 obtain ⟨a4,rfl⟩ := zrs h4
 exact ⟨⟨a1,a2,a3,a4⟩,rfl,k3⟩
theorem dec_int1 {ds : List D} (h : zdv [.int .i64] ds) : ∃ x : Int,ds = [.int .i64 x] ∧ zlY x := by
 obtain ⟨d1,ds,rfl,h1,h⟩ := zab h
 obtain rfl := zgV h
 obtain ⟨a1,rfl,k1⟩ := zcp h1
 exact ⟨a1,rfl,k1⟩
theorem dec_signs {d : D} (h : zin (.slice tySign) d) : ∃ l : List zJ,d = .slice (zaA l) := by
 obtain ⟨l,rfl⟩ := zkW (f := zhF) h (fun e he => (dec_sign he).imp fun _ h => h.1)
 exact ⟨l,rfl⟩
theorem signs_bulk (l : List zJ) : l.length ≤ zcE (zaA l) := zeO (f := zhF) (fun a => by simp only [zhF,zcI,zfY]; omega) l
structure PfS (p : zaO) : Prop where
 small : zdT p
 path : p.path.length ≤ 1048576
 headers : p.headers.length ≤ 1048576
 signs : p.cert.signs.length ≤ 1048576
theorem dec_proof {ds : List D} (h : zdv tyProof ds) (hb : zcI ds ≤ 1048576) : ∃ p : zaO,ds = proofD p ∧ PfS p := by
 obtain ⟨d1,ds,rfl,h1,h⟩ := zab h
 obtain ⟨d2,ds,rfl,h2,h⟩ := zab h
 obtain ⟨d3,ds,rfl,h3,h⟩ := zab h
 obtain ⟨d4,ds,rfl,h4,h⟩ := zab h
 obtain ⟨d5,ds,rfl,h5,h⟩ := zab h
 obtain ⟨d6,ds,rfl,h6,h⟩ := zab h
 obtain ⟨d7,ds,rfl,h7,h⟩ := zab h
 obtain ⟨d8,ds,rfl,h8,h⟩ := zab h
 obtain ⟨d9,ds,rfl,h9,h⟩ := zab h
 obtain ⟨d10,ds,rfl,h10,h⟩ := zab h
 obtain rfl := zgV h
 obtain ⟨a1,rfl⟩ := zuo h1
 obtain ⟨a2,rfl,k2⟩ := zcp h2
 obtain ⟨a3,rfl⟩ := zrs h3
 obtain ⟨a4,rfl⟩ := zkW (f := hdrD) h4 fun e he => (dec_hdr he).imp fun _ h => h.1
 obtain ⟨a5,rfl,k5⟩ := zcp h5
 obtain ⟨a6,rfl,k6⟩ := zcp h6
 obtain ⟨a7,rfl,k7⟩ := zoW (f := fun x : Int => [D.int .i64 x]) h7 fun e he => dec_int1 he
 obtain ⟨a8,rfl,k8⟩ := zcp h8
 obtain ⟨a9,rfl,k9⟩ := zcp h9
 obtain ⟨a10,rfl⟩ := dec_signs h10
 simp only [zcI,zfY,zuG] at hb
 have b4 := zeO (f := hdrD) (fun a => by simp only [hdrD,zcI,zfY]; omega) a4
 have b7 := zeO (f := fun x : Int => [D.int .i64 x]) (fun a => by simp only [zcI,zfY]; omega) a7
 have b10 := signs_bulk a10
 refine ⟨⟨a1,a2,a3,a4,a5,a6,a7,⟨a8,a9,a10⟩⟩,rfl,⟨?_, ?_, ?_, ?_, ?_,k2,k5,k6,k7⟩, ?_, ?_, ?_⟩ <;> simp only <;> omega
abbrev reqsD (l : List zn) : List D := [.slice (zpZ l)]
def caseD (c : zmZ) : List D := [.int .i64 c.f, .slice (zpe c.bats), .int .u16 c.voters, .slice (zaA c.bad), .str c.topic, .int .i64 c.offset, .slice (ztS c.twists)]
structure okC (c : zmZ) : Prop where
 ops : ∀ l ∈ c.bats, ∀ x ∈ l,zkr x.op ≤ 20971520
 sum : (c.bats.map List.length).sum ≤ 1048576
 voters : c.voters < 65536
 topic : c.topic.length ≤ 1048576
 offset : zlY c.offset
 tl : c.twists.length ≤ 1048576
 twists : ∀ w ∈ c.twists,TwI w
 bad : c.bad.length ≤ 1048576
 f : zlY c.f
theorem zos (l : List zn) : zcE (zpZ l) ≤ zcI (reqsD l) := by simp only [reqsD,zcI,zfY]; omega
theorem sum_bulk (bats : List (List zn)) : (bats.map List.length).sum ≤ zcE (bats.map reqsD) := by
 induction bats with
 | nil => simp
 | cons l bats ih =>
  have := zeO (f := reqD) (fun a => by simp only [reqD,zcI,zfY]; omega) l
  have e := zos l
  unfold zpZ at e
  simp only [List.map_cons,List.sum_cons,zcE] at ih ⊢
  omega
theorem dec_case {ds : List D} (h : zdv tyCase ds) (hb : zcI ds ≤ 1048576) : ∃ c,ds = caseD c ∧ okC c := by
 obtain ⟨d1,ds,rfl,h1,h⟩ := zab h
 obtain ⟨d2,ds,rfl,h2,h⟩ := zab h
 obtain ⟨d3,ds,rfl,h3,h⟩ := zab h
 obtain ⟨d4,ds,rfl,h4,h⟩ := zab h
 obtain ⟨d5,ds,rfl,h5,h⟩ := zab h
 obtain ⟨d6,ds,rfl,h6,h⟩ := zab h
 obtain ⟨d7,ds,rfl,h7,h⟩ := zab h
 obtain rfl := zgV h
 obtain ⟨f,rfl,k1⟩ := zcp h1
 obtain ⟨bats,rfl⟩ := zkW (f := reqsD) h2 fun e he => by
  obtain ⟨d,rfl,h1⟩ := one_of he
  obtain ⟨b,rfl,_⟩ := dec_reqs h1
  exact ⟨b,rfl⟩
 obtain ⟨v,rfl,k3⟩ := dec_u16' h3
 obtain ⟨bad,rfl⟩ := dec_signs h4
 obtain ⟨t,rfl⟩ := zuo h5
 obtain ⟨o,rfl,k6⟩ := zcp h6
 obtain ⟨tw,rfl,k7⟩ := zoW (f := zpi) h7 fun e he => dec_twist he
 simp only [zcI,zfY] at hb
 have b1 := sum_bulk bats
 have b4 := signs_bulk bad
 have b7 := zeO (f := zpi) (fun a => by simp only [zpi,zcI,zfY]; omega) tw
 refine ⟨⟨f,bats,v,bad,t,o,tw⟩,rfl,fun l hl => ?_, ?_,k3, ?_,k6, ?_,fun w hw => ⟨?_,k7 w hw⟩, ?_,k1⟩
 ·have := zlN (l := bats) (f := reqsD) hl
  have e := zos l
  exact (reqs_sz (b := l) (n := 1048576) (by omega) (by omega)).1
 ·simp only; omega
 ·simp only; omega
 ·simp only; omega
 ·have e := zlN (l := tw) (f := zpi) hw
  simp only [zpi,zcI,zfY,zuG] at e
  omega
 ·simp only; omega
end Go.Proofs.YtncpaekiidpchaaGreat
