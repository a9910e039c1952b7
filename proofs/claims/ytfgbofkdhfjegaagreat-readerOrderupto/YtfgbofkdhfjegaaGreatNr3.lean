/- Contracts: certificates and entries that are the same. -/
import Derived.Test.YtfgbofkdhfjegaaGreatOpC
import Derived.Test.YtfgbofkdhfjegaaGreatHd1
import Derived.Test.YtfgbofkdhfjegaaGreatCk4
import Derived.Test.YtfgbofkdhfjegaaGreatBt3
import Derived.Test.YtfgbofkdhfjegaaGreatSpUtf
import Derived.Test.YtfgbofkdhfjegaaGreatMk2
import Derived.Test.YtfgbofkdhfjegaaGreatCk3
import Derived.Test.YtfgbofkdhfjegaaGreatRe1
import Derived.Test.YtfgbofkdhfjegaaGreatMk4
import Derived.Test.YtfgbofkdhfjegaaGreatBv1
import Derived.Test.YtfgbofkdhfjegaaGreatSpBulk
import Derived.Test.YtfgbofkdhfjegaaGreatPt2
import Derived.Test.YtfgbofkdhfjegaaGreatBt1
import Derived.Test.YtfgbofkdhfjegaaGreatCl1
set_option linter.all false
set_option maxRecDepth 100000
namespace Go.Proofs.YtfgbofkdhfjegaaGreat
open Go.AW
end Go.Proofs.YtfgbofkdhfjegaaGreat

/- The bytes of view-changes and new views, and how many they are at most. No program in sight. -/
namespace Go.AW
structure prepOkE (p : zow) : Prop where
 view : 0 ≤ p.view ∧ p.view ≤ 9007199254740992
 seq : 1 ≤ p.seq ∧ p.seq ≤ 9007199254740992
 dig : 1 ≤ p.dig ∧ p.dig ≤ 9007199254740992
 first : zak p.fkey p.fdig = 0
 signs : ∀ e ∈ zmE p.signs,e = 0
 batch : zY p.batch = 0
structure bodyOkE (c : zgg) : Prop where
 view : 1 ≤ c.view ∧ c.view ≤ 9007199254740992
 src : 0 ≤ c.src ∧ c.src ≤ 12
 cert : ∀ e ∈ zhg c.cert,e = 0
 many : c.above.length ≤ 8
 above : ∀ p ∈ c.above, ∀ e ∈ prepErr p,e = 0
structure entryOkE (x : zmn) : Prop where
 view : 0 ≤ x.view ∧ x.view ≤ 9007199254740992
 seq : 1 ≤ x.seq ∧ x.seq ≤ 9007199254740992
 batch : zY x.batch = 0
 sign : zak x.key x.dig = 0
structure newvOkE (m : zlj) : Prop where
 src : 0 ≤ m.src ∧ m.src ≤ 12
 view : 1 ≤ m.view ∧ m.view ≤ 9007199254740992
 manyC : m.changes.length ≤ 13
 change : ∀ c ∈ m.changes, ∀ e ∈ zsV c,e = 0
 manyE : m.entries.length ≤ 8
 entry : ∀ x ∈ m.entries, ∀ e ∈ entryErr x,e = 0
end Go.AW

/- Contracts: which view-changes and new views may be, the document's. -/
set_option maxRecDepth 100000
namespace Go.Proofs.YtfgbofkdhfjegaaGreat
open Go.AW
theorem c_rdNew {σ : List zh} {tid m t lid m2 t2 : Nat} {L : List (List UInt8)} {G : List zJ} {f me o : Int} {tp : List UInt8} {K : KT} (hT : zdo σ tid m t L) (hG : zee σ lid m2 t2 G) (hL : zlH L) (hg : G.length ≤ 1073741824) (htp : tp.length ≤ 1048576)
  (hbad : zeH f me tp o ≠ 0 → ∀ τ,K (.tup [.d .nilp, .d (.int .i64 (zeH f me tp o))]) (σ ++ τ))
  (hok : zeH f me tp o = 0 → ∀ τ,K (.tup [.box (σ ++ τ).length 0, .d (.int .i64 0)]) (σ ++ τ ++ [rdB (zmY f me tp o) (.box tid 0) (.box lid 0) (.exact [])])) :
  zr Tryz.prog zlQ [.d (.int .i64 f), .d (.int .i64 me), .d (.str tp), .d (.int .i64 o), .box tid 0, .box lid 0] σ K := by
 refine zdw zqQ.is rfl fun hl _ => zqQ.goes ?_
 have bad : ∀ z,zeH f me tp o = z → z ≠ 0 → ∀ τ,ztC K (some [.d .nilp, .d (.int .i64 z)]) (σ ++ τ) := fun z h h0 τ => zff (by subst h; exact hbad h0 τ)
 simp only [zqW,iN,bT,bF,eN]
 refine gq1 ?_
 refine zpj hT hL.nd hL.len hL.each ?_
 refine gq1 ?_
 refine zpn (hG.app _) hg fun G' => ?_
 refine gq1 ?_
 refine zpm ?_
 cases h1 : (zdD f != 0)
 rotate_left
 ·refine gq2 h1 ?_
  exact bad _ (by rw [zeH,if_pos (by simpa using h1)]) (by simpa using h1) _
 cases h2 : decide (me < 0)
 rotate_left
 ·refine gq2 (zf h1 h2) ?_
  exact bad _ (by rw [zeH,if_neg (by simpa using h1),if_pos (.inl (by simpa using h2))]) (by omega) _
 cases h3 : decide (me ≥ 8)
 rotate_left
 ·refine gq2 (zf h1 (zf h2 h3)) ?_
  exact bad _ (by rw [zeH,if_neg (by simpa using h1),if_pos (.inr (by simpa using h3))]) (by omega) _
 have h23 : ¬ (me < 0 ∨ me ≥ 8) := by simp at h2 h3; omega
 refine gq2 (zf h1 (zf h2 h3)) ?_
 refine c_Name (by omega) ?_
 cases h4 : zdZ tp
 ·refine gq2 h4 ?_
  exact bad _ (by rw [zeH,if_neg (by simpa using h1),if_neg h23,if_pos h4]) (by omega) _
 cases h5 : decide (o < 0)
 rotate_left
 ·refine gq2 h5 ?_
  exact bad _ (by rw [zeH,if_neg (by simpa using h1),if_neg h23,if_neg (by simp [h4]),if_pos (.inl (by simpa using h5))]) (by omega) _
 cases h6 : decide (o ≥ 9007199254740992)
 rotate_left
 ·refine gq2 (zf h5 h6) ?_
  exact bad _ (by rw [zeH,if_neg (by simpa using h1),if_neg h23,if_neg (by simp [h4]),if_pos (.inr (by simpa using h6))]) (by omega) _
 have h56 : ¬ (o < 0 ∨ o ≥ 9007199254740992) := by simp at h5 h6; omega
 have hz : zeH f me tp o = 0 := by rw [zeH,if_neg (by simpa using h1),if_neg h23,if_neg (by simp [h4]),if_neg h56]
 refine gq2 (zf h5 h6) ?_
 have key := hok hz [.map (tabM L), .box [.own (σ.length + 2) (zgH L), .map σ.length], .tok 1 L.length, .map (ztE G'), .box [.own (σ.length + 5) (zpH G'), .map (σ.length + 3)], .tok 2 G'.length]
 rw [List.append_assoc,List.length_append] at key
 exact zff key
abbrev rdX (r : zmW) (lv tp lp : AV) : zh := .box [.d (.int .i64 r.f), .d (.int .i64 r.me), .d (.str r.topic), .d (.int .i64 r.next),lv, .d (.int .i64 r.broker), .d (.int .i64 r.wait),tp,lp]
theorem c_rxNew {σ : List zh} {a b a2 b2 : Nat} {f me o : Int} {tp : List UInt8} {K : KT} (htp : tp.length ≤ 1048576)
  (hbad : zeH f me tp o ≠ 0 → ∀ τ,K (.tup [.d .nilp, .d (.int .i64 (zeH f me tp o))]) (σ ++ τ))
  (hok : zeH f me tp o = 0 → K (.tup [.box σ.length 0, .d (.int .i64 0)]) (σ ++ [rdX (zmY f me tp o) (.exact []) (.box a b) (.box a2 b2)])) :
  zr Tryz.prog zsf [.d (.int .i64 f), .d (.int .i64 me), .d (.str tp), .d (.int .i64 o), .box a b, .box a2 b2] σ K := by
 refine zdw e_r25_New.is rfl fun hl _ => e_r25_New.goes ?_
 have bad : ∀ z,zeH f me tp o = z → z ≠ 0 → ztC K (some [.d .nilp, .d (.int .i64 z)]) σ := fun z h h0 => by
  refine zff ?_
  subst h
  have := hbad h0 []
  rwa [List.append_nil] at this
 simp only [S_r25_New,iN,bT,bF,eN]
 refine gq1 ?_
 refine c_rCheckF ?_
 cases h1' : (zdD f != 0)
 rotate_left
 ·refine gq2 h1' ?_
  exact bad _ (by rw [zeH,if_pos (by simpa using h1')]) (by simpa using h1')
 cases h2' : decide (me < 0)
 rotate_left
 ·refine gq2 (zf h1' h2') ?_
  exact bad _ (by rw [zeH,if_neg (by simpa using h1'),if_pos (.inl (by simpa using h2'))]) (by omega)
 cases h3 : decide (me ≥ 8)
 rotate_left
 ·refine gq2 (zf h1' (zf h2' h3)) ?_
  exact bad _ (by rw [zeH,if_neg (by simpa using h1'),if_pos (.inr (by simpa using h3))]) (by omega)
 have h23 : ¬ (me < 0 ∨ me ≥ 8) := by simp at h2' h3; omega
 refine gq2 (zf h1' (zf h2' h3)) ?_
 refine c_rName (by omega) ?_
 cases h4 : zdZ tp
 ·refine gq2 h4 ?_
  exact bad _ (by rw [zeH,if_neg (by simpa using h1'),if_neg h23,if_pos h4]) (by omega)
 cases h5 : decide (o < 0)
 rotate_left
 ·refine gq2 h5 ?_
  exact bad _ (by rw [zeH,if_neg (by simpa using h1'),if_neg h23,if_neg (by simp [h4]),if_pos (.inl (by simpa using h5))]) (by omega)
 cases h6 : decide (o ≥ 9007199254740992)
 rotate_left
 ·refine gq2 (zf h5 h6) ?_
  exact bad _ (by rw [zeH,if_neg (by simpa using h1'),if_neg h23,if_neg (by simp [h4]),if_pos (.inr (by simpa using h6))]) (by omega)
 have h56 : ¬ (o < 0 ∨ o ≥ 9007199254740992) := by simp at h5 h6; omega
 have hz : zeH f me tp o = 0 := by rw [zeH,if_neg (by simpa using h1'),if_neg h23,if_neg (by simp [h4]),if_neg h56]
 refine gq2 (zf h5 h6) ?_
 exact zff (hok hz)
abbrev trC (n : Nat) (q : zca) (gh lo hi gp gs lo2 hi2 : Nat) : List AV :=
 [.d (.str q.topic), .d (.int .i64 q.offset), .d (.slice (bcs q.rec_)), .rsl (n + 2) gh 5 lo hi, .d (.int .i64 q.index), .d (.int .i64 q.count), .rsl (n + 3) gp 1 0 q.path.length, .d (.int .i64 q.cert.seq), .d (.int .i64 q.cert.dig), .rsl (n + 4) gs 2 lo2 hi2]
abbrev zero10 : List AV := [.d (.str []), .d (.int .i64 0), .exact [], .exact [], .d (.int .i64 0), .d (.int .i64 0), .exact [], .d (.int .i64 0), .d (.int .i64 0), .exact []]
structure TrJ (σ : List zh) (k gh lo hi gp gs lo2 : Nat) (H : List zcW) (G : List zJ) (q : zca) (S : List zh) : Prop where
 a : S[σ.length]? = some (.box (trC σ.length q gh lo hi gp gs lo2 G.length))
 b : S[σ.length + 1]? = some (.box zero10)
 h : S[σ.length + 2]? = some (.row gh 5 (zaE (zio H)))
 p : S[σ.length + 3]? = some (.row gp 1 (zaE (zdB q.path)))
 s : S[σ.length + 4]? = some (.row gs 2 (zaE (zaY G)))
 hh : q.headers = (H.take hi).drop lo
 h1 : lo ≤ hi ∧ hi ≤ H.length ∧ H.length ≤ 1073741824
 ss : q.cert.signs = G.drop lo2
 s1 : lo2 ≤ G.length ∧ G.length ≤ 1073741824 + k
 p1 : q.path.length ≤ 1073741824 + k
 pre : S.take σ.length = σ
section
variable {σ S : List zh} {k gh lo hi gp gs lo2 : Nat} {H : List zcW} {G : List zJ} {q : zca}
theorem TrJ.app (j : TrJ σ k gh lo hi gp gs lo2 H G q S) (τ : List zh) : TrJ σ k gh lo hi gp gs lo2 H G q (S ++ τ) :=
 ⟨zd j.a,zd j.b,zd j.h,zd j.p,zd j.s,j.hh,j.h1,j.ss,j.s1,j.p1,by rw [List.take_append_of_le_length (by have := zA j.a; omega)]; exact j.pre⟩
theorem znH {S : List zh} {n i : Nat} {y : zh} (h : n ≤ i) : (S.set i y).take n = S.take n := by
 rw [List.take_set,List.set_eq_of_length_le (by rw [List.length_take]; omega)]
theorem TrJ.set (j : TrJ σ k gh lo hi gp gs lo2 H G q S) (q' : zca) (h : q'.headers = q.headers) (p : q'.path = q.path) (s : q'.cert.signs = q.cert.signs) : TrJ σ (k + 1) gh lo hi gp gs lo2 H G q' (S.set σ.length (.box (trC σ.length q' gh lo hi gp gs lo2 G.length))) :=
 ⟨List.getElem?_set_self (zA j.a),zc _ j.b (by omega),zc _ j.h (by omega),by rw [p]; exact zc _ j.p (by omega),zc _ j.s (by omega),h ▸ j.hh,j.h1,s ▸ j.ss,⟨j.s1.1,by have := j.s1.2; omega⟩,by rw [p]; have := j.p1; omega,by rw [znH (Nat.le_refl _)]; exact j.pre⟩
theorem TrJ.path {i : Nat} (j : TrJ σ k gh lo hi gp gs lo2 H G q S) (d : Int) (h : i < q.path.length) : TrJ σ (k + 1) gh lo hi gp gs lo2 H G { q with path := q.path.set i d } (S.set (σ.length + 3) (.row gp 1 (zaE (zdB (q.path.set i d))))) :=
 ⟨by rw [trC,List.length_set]; exact zc _ j.a (by omega),zc _ j.b (by omega),zc _ j.h (by omega),List.getElem?_set_self (zA j.p),zc _ j.s (by omega),j.hh,j.h1,j.ss,⟨j.s1.1,by have := j.s1.2; omega⟩,by simp only [List.length_set]; have := j.p1; omega,by rw [znH (by omega)]; exact j.pre⟩
theorem TrJ.row (j : TrJ σ k gh lo hi gp gs lo2 H G q S) (H' : List zcW) (hl : H'.length = H.length) : TrJ σ (k + 1) gh lo hi gp gs lo2 H' G { q with headers := (H'.take hi).drop lo } (S.set (σ.length + 2) (.row gh 5 (zaE (zio H')))) :=
 ⟨zc _ j.a (by omega),zc _ j.b (by omega),List.getElem?_set_self (zA j.h),zc _ j.p (by omega),zc _ j.s (by omega),rfl,by rw [hl]; exact j.h1,j.ss,⟨j.s1.1,by have := j.s1.2; omega⟩,by have := j.p1; simp only; omega,by rw [znH (by omega)]; exact j.pre⟩
theorem TrJ.next (j : TrJ σ k gh lo hi gp gs lo2 H G q S) : TrJ σ (k + 1) gh lo hi gp gs lo2 H G q S :=
 ⟨j.a,j.b,j.h,j.p,j.s,j.hh,j.h1,j.ss,⟨j.s1.1,by have := j.s1.2; omega⟩,by have := j.p1; omega,j.pre⟩
end
theorem zpR : ∀ (f : Nat) {L : List (List UInt8)} {i : Nat} {l : List (List UInt8)},l.length ≤ f → zlH L → (∀ x ∈ l,x.length ≤ 1073741800) → zlH (zbh f L i l).2 ∧ ∀ x ∈ (zbh f L i l).1, 0 ≤ x ∧ x ≤ 1048577
 | 0,L,i,l,hf,h,hx => ⟨by rw [zoI (by omega)]; exact h,by rw [zoI (by omega)]; simp⟩
 | f + 1,L,i,l,hf,h,hx => by
  by_cases h1 : l.length ≤ 1
  ·rw [zoI h1]; exact ⟨h,by simp⟩
  ·have hs := zcK (n := l.length) (by omega)
   rw [proveA_2 (by omega)]
   split
   ·obtain ⟨g1,g2⟩ := zpR f (i := i) (l := l.take (zm l.length)) (by rw [List.length_take]; omega) h fun x hm => hx x (List.mem_of_mem_take hm)
    have g3 := zoF _ (L := (zbh f L i (l.take (zm l.length))).2) (l := l.drop (zm l.length)) (Nat.le_refl _) g1 fun x hm => hx x (List.mem_of_mem_drop hm)
    have g4 := (zdS _ (L := (zbh f L i (l.take (zm l.length))).2) (l := l.drop (zm l.length)) (Nat.le_refl _) g1.len).2
    refine ⟨g3,fun x hm => ?_⟩
    rcases List.mem_append.1 hm with hm | hm
    ·exact g2 x hm
    ·simp only [List.mem_singleton] at hm; subst hm; exact g4
   ·obtain ⟨g1,g2⟩ := zpR f (i := i - zm l.length) (l := l.drop (zm l.length)) (by rw [List.length_drop]; omega) h fun x hm => hx x (List.mem_of_mem_drop hm)
    have g3 := zoF _ (L := (zbh f L (i - zm l.length) (l.drop (zm l.length))).2) (l := l.take (zm l.length)) (Nat.le_refl _) g1 fun x hm => hx x (List.mem_of_mem_take hm)
    have g4 := (zdS _ (L := (zbh f L (i - zm l.length) (l.drop (zm l.length))).2) (l := l.take (zm l.length)) (Nat.le_refl _) g1.len).2
    refine ⟨g3,fun x hm => ?_⟩
    rcases List.mem_append.1 hm with hm | hm
    ·exact g2 x hm
    ·simp only [List.mem_singleton] at hm; subst hm; exact g4
theorem makeF_small {L : List (List UInt8)} {l : List zbw} {c : zfj} {t : List UInt8} {o : Int} (hL : zlH L) (hb : ∀ b ∈ l,zrV b) (hl : l.length ≤ 536870912) (hc : c.signs.length ≤ 536870912) (ht : t.length ≤ 16777216) (ho : ziL o) :
  zfM (zhJ L l c t o).2.1 ∧ (zhJ L l c t o).2.1.path.length ≤ 1048576 ∧ (zhJ L l c t o).2.1.headers.length ≤ 536870912 ∧ (zhJ L l c t o).2.1.cert.signs.length ≤ 536870912 ∧ zlH (zhJ L l c t o).2.2 := by
 have h0 : zfM ztD := ⟨by simp [ztD],by simp [ztD],by simp [ztD],by simp [ztD],by simp [ztD],by simp [ztD,ziL],by simp [ztD,ziL],by simp [ztD,ziL],by simp [ztD]⟩
 unfold zhJ
 split
 ·exact ⟨h0,by simp [ztD],by simp [ztD],by simp [ztD],hL⟩
 ·rename_i i k hf
  split
  ·exact ⟨h0,by simp [ztD],by simp [ztD],by simp [ztD],hL⟩
  ·rename_i hs hr
   obtain ⟨n0,b,hi0,hx,hk⟩ := zvN hf
   have hi : i = n0 := by omega
   subst hi
   have hbx := hb b (List.mem_of_getElem? hx)
   have hg : l.getD i ⟨⟨0, 0, 0, 0, 0⟩, [], []⟩ = b := by simp [List.getD,hx]
   have hlen := runF_len hr
   rw [List.length_drop] at hlen
   simp only [hg]
   have hpl : ∀ x ∈ b.placed.map zaG,x.length ≤ 1073741800 := fun x hm => by
    obtain ⟨p,hp,rfl⟩ := List.mem_map.1 hm
    have := znN (hbx.each p hp); omega
   obtain ⟨g1,g2⟩ := zpR b.placed.length (i := k) (l := b.placed.map zaG) (by simp) hL hpl
   have g3 := (zjE b.placed.length (L := L) (i := k) (l := b.placed.map zaG) (by simp) hL.len).2
   rw [List.length_map] at g3
   have g4 := hbx.len
   have hgk : b.placed.getD k ⟨[], 0, []⟩ ∈ b.placed := by
    rw [show b.placed.getD k ⟨[], 0, []⟩ = b.placed[k] by simp [List.getD,List.getElem?_eq_getElem hk]]
    exact List.getElem_mem hk
   have g5 := hbx.each _ hgk
   refine ⟨⟨ht,g5.rec_,by simp only; omega,by simp only; omega,by simp only; omega,ho, ?_, ?_,fun x hm => ?_⟩,by omega,by omega,hc,g1⟩
   ·constructor <;> simp only <;> omega
   ·constructor <;> simp only <;> omega
   ·have := g2 x hm; constructor <;> omega
structure TwI (w : TTwist) : Prop where
 rec_ : w.rec_.length ≤ 16777216
 dig : ziL w.dig
structure PfI (k : Nat) (p : zca) : Prop where
 topic : p.topic.length ≤ 16777216
 rec_ : p.rec_.length ≤ 16777216
 headers : p.headers.length ≤ 536870912
 path : p.path.length ≤ 536870912 + k
 signs : p.cert.signs.length ≤ 536870912 + k
 off : ziL p.offset
 index : ziL p.index
 count : ziL p.count
 paths : ∀ x ∈ p.path,ziL x
def tyHdr : List Ty := [.int .i64, .int .i64, .int .i64, .int .i64, .int .i64]
def tyCert : List Ty := [.int .i64, .int .i64, .slice zqC]
def tyProof : List Ty := [.str, .int .i64, .slice [.int .u8], .slice tyHdr, .int .i64, .int .i64, .slice [.int .i64], .int .i64, .int .i64, .slice zqC]
theorem dec_u16' {d : D} (h : ziN (.int .u16) d) : ∃ n : Nat,d = .int .u16 n ∧ n < 65536 := by
 obtain ⟨n,rfl,h2⟩ := dec_int h
 have h' : 0 ≤ n ∧ n ≤ 65535 := by simpa [Lit.wf,IntKind.min,IntKind.max,IntKind.signed,IntKind.bits] using h2
 exact ⟨n.toNat,by rw [show ((n.toNat : Nat) : Int) = n by omega],by omega⟩
theorem dec_hdr {ds : List D} (h : zct tyHdr ds) : ∃ x : zcW,ds = hdrD x ∧ ziL x.seq := by
 obtain ⟨d1,ds,rfl,h1,h⟩ := zq h
 obtain ⟨d2,ds,rfl,h2,h⟩ := zq h
 obtain ⟨d3,ds,rfl,h3,h⟩ := zq h
 obtain ⟨d4,ds,rfl,h4,h⟩ := zq h
 obtain ⟨d5,ds,rfl,h5,h⟩ := zq h
 obtain rfl := zdR h
 obtain ⟨a1,rfl,k1⟩ := zaA h1
 obtain ⟨a2,rfl,_⟩ := zaA h2
 obtain ⟨a3,rfl,_⟩ := zaA h3
 obtain ⟨a4,rfl,_⟩ := zaA h4
 obtain ⟨a5,rfl,_⟩ := zaA h5
 exact ⟨⟨a1,a2,a3,a4,a5⟩,rfl,k1⟩
theorem dec_int1 {ds : List D} (h : zct [.int .i64] ds) : ∃ x : Int,ds = [.int .i64 x] ∧ ziL x := by
 obtain ⟨d1,ds,rfl,h1,h⟩ := zq h
 obtain rfl := zdR h
 obtain ⟨a1,rfl,k1⟩ := zaA h1
 exact ⟨a1,rfl,k1⟩
theorem zsR {d : D} (h : ziN (.slice zqC) d) : ∃ l : List zJ,d = .slice (zaY l) := by
 obtain ⟨l,rfl⟩ := zeq (f := zhU) h (fun e he => (zrG he).imp fun _ h => h.1)
 exact ⟨l,rfl⟩
theorem signs_bulk (l : List zJ) : l.length ≤ zdl (zaY l) := zdt (f := zhU) (fun a => by simp only [zhU,zcE,zeM]; omega) l
theorem dec_cert {ds : List D} (h : zct tyCert ds) (hb : zcE ds ≤ 1048576) : ∃ c : zfj,ds = certD c ∧ c.signs.length ≤ 1048576 := by
 obtain ⟨d1,ds,rfl,h1,h⟩ := zq h
 obtain ⟨d2,ds,rfl,h2,h⟩ := zq h
 obtain ⟨d3,ds,rfl,h3,h⟩ := zq h
 obtain rfl := zdR h
 obtain ⟨a1,rfl,k1⟩ := zaA h1
 obtain ⟨a2,rfl,_⟩ := zaA h2
 obtain ⟨a3,rfl⟩ := zsR h3
 simp only [zcE,zeM] at hb
 have := signs_bulk a3
 exact ⟨⟨a1,a2,a3⟩,rfl,by simp only; omega⟩
structure PfS (p : zca) : Prop where
 small : zfM p
 path : p.path.length ≤ 1048576
 headers : p.headers.length ≤ 1048576
 signs : p.cert.signs.length ≤ 1048576
theorem dec_proof {ds : List D} (h : zct tyProof ds) (hb : zcE ds ≤ 1048576) : ∃ p : zca,ds = proofD p ∧ PfS p := by
 obtain ⟨d1,ds,rfl,h1,h⟩ := zq h
 obtain ⟨d2,ds,rfl,h2,h⟩ := zq h
 obtain ⟨d3,ds,rfl,h3,h⟩ := zq h
 obtain ⟨d4,ds,rfl,h4,h⟩ := zq h
 obtain ⟨d5,ds,rfl,h5,h⟩ := zq h
 obtain ⟨d6,ds,rfl,h6,h⟩ := zq h
 obtain ⟨d7,ds,rfl,h7,h⟩ := zq h
 obtain ⟨d8,ds,rfl,h8,h⟩ := zq h
 obtain ⟨d9,ds,rfl,h9,h⟩ := zq h
 obtain ⟨d10,ds,rfl,h10,h⟩ := zq h
 obtain rfl := zdR h
 obtain ⟨a1,rfl⟩ := zsQ h1
 obtain ⟨a2,rfl,k2⟩ := zaA h2
 obtain ⟨a3,rfl⟩ := zsS h3
 obtain ⟨a4,rfl⟩ := zeq (f := hdrD) h4 fun e he => (dec_hdr he).imp fun _ h => h.1
 obtain ⟨a5,rfl,k5⟩ := zaA h5
 obtain ⟨a6,rfl,k6⟩ := zaA h6
 obtain ⟨a7,rfl,k7⟩ := zuL (f := fun x : Int => [D.int .i64 x]) h7 fun e he => dec_int1 he
 obtain ⟨a8,rfl,k8⟩ := zaA h8
 obtain ⟨a9,rfl,k9⟩ := zaA h9
 obtain ⟨a10,rfl⟩ := zsR h10
 simp only [zcE,zeM,zwt] at hb
 have b4 := zdt (f := hdrD) (fun a => by simp only [hdrD,zcE,zeM]; omega) a4
 have b7 := zdt (f := fun x : Int => [D.int .i64 x]) (fun a => by simp only [zcE,zeM]; omega) a7
 have b10 := signs_bulk a10
 refine ⟨⟨a1,a2,a3,a4,a5,a6,a7,⟨a8,a9,a10⟩⟩,rfl,⟨?_, ?_, ?_, ?_, ?_,k2,k5,k6,k7⟩, ?_, ?_, ?_⟩ <;> simp only <;> omega
structure okC (c : TCase) : Prop where
 ops : ∀ l ∈ c.bats, ∀ x ∈ l,zkr x.op ≤ 20971520
 sum : (c.bats.map List.length).sum ≤ 1048576
 voters : c.voters < 65536
 topic : c.topic.length ≤ 1048576
 offset : ziL c.offset
 tl : c.twists.length ≤ 1048576
 twists : ∀ w ∈ c.twists,TwI w
 bad : c.bad.length ≤ 1048576
 f : ziL c.f
end Go.Proofs.YtfgbofkdhfjegaaGreat
