/- What chapter 23 begins with: blocks, and certificates of what was checked. No program in sight. -/
import Derived.Test.YtfgbofkdhfjegaaGreatTp7
import Derived.Test.YtfgbofkdhfjegaaGreatSpBulk
import Derived.Test.YtfgbofkdhfjegaaGreatQu1
import Derived.Test.YtfgbofkdhfjegaaGreatCk1
import Derived.Test.YtfgbofkdhfjegaaGreatSpUtf
set_option linter.all false
set_option maxRecDepth 100000
namespace Go.Proofs.YtfgbofkdhfjegaaGreat
open Go.AW
theorem nodeB_len {a b : Int} (ha : a ≤ 1048577) (hb : b ≤ 1048577) : (zkA a b).length ≤ 1073741824 := by
 have h1 := zF (n := a.toNat) (by omega)
 have h2 := zF (n := b.toNat) (by omega)
 simp only [zkA,List.length_cons,List.length_append]; omega
theorem zoF : ∀ (f : Nat) {L l : List (List UInt8)},l.length ≤ f → zlH L → (∀ x ∈ l,x.length ≤ 1073741800) → zlH (rootF L l).2 := by
 intro f
 induction f with
 | zero =>
  intro L l hf hL _
  have : l = [] := List.eq_nil_of_length_eq_zero (by omega)
  subst this
  exact hL.sum (by simp)
 | succ f ih =>
  intro L l hf hL hx
  match l,hf,hx with
  | [],_,_ => exact hL.sum (by simp)
  | [x],_,hx => exact hL.sum (by have := hx x (by simp); simp [znW]; omega)
  | x :: y :: r,hf,hx =>
   obtain ⟨l,hl⟩ : ∃ l,x :: y :: r = l := ⟨_,rfl⟩
   have h2 : 2 ≤ l.length := by rw [← hl]; simp
   rw [hl] at hf hx ⊢
   have hs := zcK h2
   have h1 := ih (L := L) (l := l.take (zm l.length)) (by rw [List.length_take]; omega) hL fun x h => hx x (List.mem_of_mem_take h)
   have h3 := ih (L := (rootF L (l.take (zm l.length))).2) (l := l.drop (zm l.length)) (by rw [List.length_drop]; omega) h1 fun x h => hx x (List.mem_of_mem_drop h)
   rw [zrY h2]
   refine h3.sum (nodeB_len ?_ ?_)
   ·exact (zdS _ (Nat.le_refl _) hL.len).2.2
   ·exact (zdS _ (Nat.le_refl _) h1.len).2.2
theorem zrB {L : List (List UInt8)} (h : zlH L) (x : zcW) : zlH (zeC L x) := by
 unfold zeC
 split
 ·exact h
 ·rename_i hc
  have := hdrB_len (zdV.1 (show zba x = 0 by simpa using hc))
  exact h.sum (by omega)
theorem pl_small {p : zaX} (h : PlI p) : zlJ p := ⟨⟨by have := h.1; omega,by have := h.2.1; omega⟩,by have := h.2.2.1; omega,by have := h.2.2.2; omega⟩
theorem PlI_len {p : zaX} (h : PlI p) : (zaG p).length ≤ 1073741800 := by have := placedB_len' h; omega
theorem execI {L : List (List UInt8)} {T : zbY} {h : zcW} {b : List zp} (hL : zlH L) (hT : zgW T) (hA : zmz T.last) (h8 : T.last.length = 8) (hx : ∀ s ∈ b,zkr s.op ≤ 20971520) :
  zlH (zdn L T h b).L ∧ zgW (zdn L T h b).T ∧ zmz (zdn L T h b).T.last ∧ (zdn L T h b).T.last.length = 8 ∧ ((zdn L T h b).e = 0 → zrV ⟨(zdn L T h b).h,b,(zdn L T h b).p⟩) := by
 have t1 := tab_dig hL hx
 have t2 := zrB t1 h
 have hall : ∀ (b : List zp) {T : zbY},T.last.length = 8 → (zab T b).2.last.length = 8 := fun b => by
  induction b with
  | nil => intro T h; exact h
  | cons x b ih => intro T h; exact ih (by rw [applyF_last]; exact h)
 unfold zdn
 split
 ·rename_i c0; exact ⟨hL,hT,hA,h8,fun e => absurd e c0⟩
 rename_i c0
 split
 ·exact ⟨hL,hT,hA,h8,fun e => by simp at e⟩
 split
 ·rename_i c2; exact ⟨t1,hT,hA,h8,fun e => absurd e c2⟩
 rename_i c2
 split
 ·rename_i c3; exact ⟨t2,hT,hA,h8,fun e => absurd e c3⟩
 have p1 := zmj b hT
 have p2 := ztk b hT
 have p3 := ztj b hT hA
 have t3 := zoF _ (L := zeC (zkW L b) h) (l := (zab T b).1.map zaG) (Nat.le_refl _) t2 fun x hx => by
  obtain ⟨p,hp,rfl⟩ := List.mem_map.1 hx
  exact PlI_len (p1.1 p hp)
 have p4 := zrO p2 p3 (hall b h8)
 have t4 := t3.sum (b := zfu (zab T b).2) (by omega)
 simp only
 split
 ·exact ⟨t4,p2,p3,hall b h8,fun e => by simp at e⟩
 ·refine ⟨t4,p2,p3,hall b h8,fun _ => ⟨?_, ?_,fun p hp => pl_small (p1.1 p hp)⟩⟩
  ·have := zgO (zdV.1 (show zba h = 0 by simpa using c0)) h.seq (by simp [zpI])
   constructor <;> simp only <;> omega
  ·have := dig_len (L := L) (l := b) (by simpa using c2)
   have := p1.2
   simp only; omega
def voR (seq d : Int) (s : List (List UInt8) × List zJ × List zJ) (key : Int) : List (List UInt8) × List zJ × List zJ :=
 (votL s.1 6 0 seq d,votG s.1 s.2.1 key 6 0 seq d,if votE s.1 key 6 0 seq d = 0 then s.2.2 ++ [votS s.1 key 6 0 seq d] else s.2.2)
structure zaQ where
 L : List (List UInt8)
 G : List zJ
 h : zcW
 T : zbY
 bs : List zbw
 cs : List zfj
def st0 : zaQ := ⟨(genF []).2.2, [],(genF []).1,zej, [], []⟩
structure StI (N m : Nat) (s : zaQ) : Prop where
 tab : zlH s.L
 led : s.G.length ≤ N
 ledI : LedI s.G
 tops : zgW s.T
 last : zmz s.T.last
 last8 : s.T.last.length = 8
 bs : ∀ b ∈ s.bs,zrV b
 bl : s.bs.length ≤ m
 cs : ∀ c ∈ s.cs,c.signs.length ≤ 13
 cl : s.cs.length ≤ m
structure VoI (N m : Nat) (s : List (List UInt8) × List zJ × List zJ) : Prop where
 tab : zlH s.1
 led : s.2.1.length ≤ N
 ledI : LedI s.2.1
 len : s.2.2.length ≤ m
theorem signG_len (G : List zJ) (k d : Int) : (zfI G k d).length ≤ G.length + 1 := by
 unfold zfI zly
 repeat' split
 all_goals simp
theorem voI {N m : Nat} {s : List (List UInt8) × List zJ × List zJ} {seq d key : Int} (h : VoI N m s) : VoI (N + 1) (m + 1) (voR seq d s key) := by
 obtain ⟨h1,h2,h3,h4⟩ := h
 refine ⟨?_, ?_, ?_, ?_⟩
 ·simp only [voR,votL]
  split
  ·rename_i hm
   have := voteB_len hm
   exact h1.sum (by omega)
  ·exact h1
 ·simp only [voR,votG,sgnG]
  have := signG_len s.2.1 key (zdA s.1 (zfK 6 0 seq d))
  repeat' split
  all_goals omega
 ·simp only [voR,votG,sgnG]
  repeat' split
  ·exact h3
  ·exact h3.sign _ _
  ·exact h3
 ·simp only [voR]
  split
  ·simp; omega
  ·omega
theorem foldVo {N m : Nat} {s : List (List UInt8) × List zJ × List zJ} {seq d : Int} (h : VoI N m s) (l : List Int) : VoI (N + l.length) (m + l.length) (l.foldl (voR seq d) s) := by
 induction l generalizing N m s with
 | nil => exact h
 | cons x l ih =>
  have := ih (voI (key := x) (seq := seq) (d := d) h)
  simp only [List.foldl_cons,List.length_cons]
  rwa [show N + (l.length + 1) = N + 1 + l.length by omega,show m + (l.length + 1) = m + 1 + l.length by omega]
theorem ledSe {l : List zp} {s : List (List UInt8) × List zJ × List zp} (h : LedI s.2.1) : LedI (l.foldl seR s).2.1 := by
 induction l generalizing s with
 | nil => exact h
 | cons x l ih =>
  refine ih ?_
  simp only [seR,zrX]
  split
  ·exact h
  ·exact h.sign _ _
theorem zmz.none : zmz zej.last := fun a ha => by
 have := List.eq_of_mem_replicate ha
 subst this
 simp
theorem st0I : StI 0 0 st0 := by
 have t1 : zlH (rootF [] []).2 := zoF 0 (Nat.le_refl _) zlH.nil (by simp)
 have t2 := t1.sum (b := zfu zej) (by have := zrO zgW.none zmz.none rfl; omega)
 refine ⟨?_,Nat.zero_le _,⟨.nil,by simp [st0]⟩,zgW.none,zmz.none,rfl,by simp [st0],Nat.zero_le _,by simp [st0],Nat.zero_le _⟩
 simp only [st0,genF]
 split <;> exact t2
end Go.Proofs.YtfgbofkdhfjegaaGreat

/- Numbers of what a table knows; trees in a table: what a proof shows, and that a made proof shows it. No program in sight. -/
namespace Go.AW
def zgu (L : List (List UInt8)) (b : List UInt8) (d : Int) : Prop := ∃ i,zdc L b = some i ∧ d = ((i + 1 : Nat) : Int)
theorem zgu.pre {L L' : List (List UInt8)} {b : List UInt8} {d : Int} (h : zgu L b d) (hp : L <+: L') : zgu L' b d := by
 obtain ⟨i,h1,h2⟩ := h
 obtain ⟨m,rfl⟩ := hp
 exact ⟨i,look_more h1,h2⟩
theorem zgu.pos {L : List (List UInt8)} {b : List UInt8} {d : Int} (h : zgu L b d) : 1 ≤ d ∧ d ≤ L.length := by
 obtain ⟨i,h1,h2⟩ := h
 have := (zkP h1).1
 omega
theorem zgu.inj {L : List (List UInt8)} {a b : List UInt8} {d : Int} (ha : zgu L a d) (hb : zgu L b d) : a = b := by
 obtain ⟨i,h1,h2⟩ := ha
 obtain ⟨j,h3,h4⟩ := hb
 have : i = j := by omega
 subst this
 have := (zkP h1).2
 rw [(zkP h3).2] at this
 exact (Option.some.inj this).symm
theorem zgu.one {L : List (List UInt8)} {b : List UInt8} {d e : Int} (ha : zgu L b d) (hb : zgu L b e) : d = e := by
 obtain ⟨i,h1,h2⟩ := ha
 obtain ⟨j,h3,h4⟩ := hb
 rw [h1] at h3
 cases h3
 omega
theorem zrQ {L : List (List UInt8)} {b : List UInt8} (h : L.length < 1048576) : zdA L b ≠ 0 := by
 unfold zdA
 split
 ·omega
 ·rw [if_neg (by omega)]; omega
theorem zrP {L : List (List UInt8)} {b : List UInt8} (h : zdA L b ≠ 0) : zgu (zeG L b) b (zdA L b) := by
 unfold zdA zeG at *
 split at h
 ·rename_i i hi
  exact ⟨i,hi,rfl⟩
 ·rename_i hn
  split at h
  ·exact absurd rfl h
  ·rename_i hl
   rw [if_neg hl,if_neg hl]
   exact ⟨L.length,look_new L b hn,by omega⟩
theorem zgu.sum {L : List (List UInt8)} {b : List UInt8} {d : Int} (h : zgu L b d) : zdA L b = d ∧ zeG L b = L := by
 obtain ⟨i,h1,h2⟩ := h
 unfold zdA zeG
 rw [h1]
 exact ⟨by simp only; omega,rfl⟩
theorem zjo (L : List (List UInt8)) (b : List UInt8) : (zeG L b).length ≤ L.length + 1 := by
 unfold zeG
 repeat' split
 all_goals simp
theorem zfL (L : List (List UInt8)) (b : List UInt8) : L <+: zeG L b := by
 unfold zeG
 split
 ·exact List.prefix_refl L
 ·split
  ·exact List.prefix_refl L
  ·exact List.prefix_append ..
inductive ziK (L : List (List UInt8)) : List (List UInt8) → Int → Prop
 | nil (d : Int) : zgu L [2] d → ziK L [] d
 | one (x : List UInt8) (d : Int) : zgu L (znW x) d → ziK L [x] d
 | two (l : List (List UInt8)) (a b d : Int) : 2 ≤ l.length → ziK L (l.take (zm l.length)) a → ziK L (l.drop (zm l.length)) b → zgu L (zkA a b) d → ziK L l d
theorem ziK.pre {L L' : List (List UInt8)} {l : List (List UInt8)} {d : Int} (h : ziK L l d) (hp : L <+: L') : ziK L' l d := by
 induction h with
 | nil d h => exact .nil d (h.pre hp)
 | one x d h => exact .one x d (h.pre hp)
 | two l a b d h2 _ _ hn ih1 ih2 => exact .two l a b d h2 ih1 ih2 (hn.pre hp)
theorem ziK.num {L l : List (List UInt8)} {d : Int} (h : ziK L l d) : 1 ≤ d ∧ d ≤ L.length := by
 cases h with
 | nil _ h => exact h.pos
 | one _ _ h => exact h.pos
 | two _ _ _ _ _ _ _ h => exact h.pos
theorem ziK.rootF {L l : List (List UInt8)} {d : Int} (h : ziK L l d) : rootF L l = (d,L) := by
 induction h with
 | nil d h => rw [rootF_0,h.sum.1,h.sum.2]
 | one x d h => rw [rootF_1,h.sum.1,h.sum.2]
 | two l a b d h2 _ _ hn ih1 ih2 => rw [zrY h2,ih1]; simp only; rw [ih2]; simp only; rw [hn.sum.1,hn.sum.2]
theorem root_at : ∀ (f : Nat) {L l : List (List UInt8)},l.length ≤ f → L.length + 2 * l.length + 1 ≤ 1048576 → ziK (Go.AW.rootF L l).2 l (Go.AW.rootF L l).1 ∧ L <+: (Go.AW.rootF L l).2 ∧ (Go.AW.rootF L l).2.length ≤ L.length + 2 * l.length + 1 ∧ (1 ≤ l.length → (Go.AW.rootF L l).2.length + 1 ≤ L.length + 2 * l.length) := by
 intro f
 induction f with
 | zero =>
  intro L l hf hL
  have : l = [] := List.eq_nil_of_length_eq_zero (by omega)
  subst this
  rw [rootF_0]
  exact ⟨.nil _ (zrP (zrQ (by omega))),zfL ..,by have := zjo L [2]; simp only; omega,fun h => by simp at h⟩
 | succ f ih =>
  intro L l hf hL
  match l,hf,hL with
  | [],_,hL =>
   rw [rootF_0]
   exact ⟨.nil _ (zrP (zrQ (by omega))),zfL ..,by have := zjo L [2]; simp only; omega,fun h => by simp at h⟩
  | [x],_,hL =>
   rw [rootF_1]
   simp only [List.length_cons,List.length_nil] at hL ⊢
   exact ⟨.one x _ (zrP (zrQ (by omega))),zfL ..,by have := zjo L (znW x); omega,fun _ => by have := zjo L (znW x); omega⟩
  | x :: y :: r,hf,hL =>
   obtain ⟨l,hl⟩ : ∃ l,x :: y :: r = l := ⟨_,rfl⟩
   have h2 : 2 ≤ l.length := by rw [← hl]; simp
   rw [hl] at hf hL ⊢
   have hs := zcK h2
   have e1 : (l.take (zm l.length)).length = zm l.length := by rw [List.length_take]; omega
   have e2 : (l.drop (zm l.length)).length = l.length - zm l.length := List.length_drop
   obtain ⟨a1,a2,a3,a4⟩ := ih (L := L) (l := l.take (zm l.length)) (by omega) (by omega)
   have a4 := a4 (by omega)
   obtain ⟨b1,b2,b3,b4⟩ := ih (L := (Go.AW.rootF L (l.take (zm l.length))).2) (l := l.drop (zm l.length)) (by omega) (by omega)
   have b4 := b4 (by omega)
   rw [zrY h2]
   have hn := zjo (Go.AW.rootF (Go.AW.rootF L (l.take (zm l.length))).2 (l.drop (zm l.length))).2 (zkA (Go.AW.rootF L (l.take (zm l.length))).1 (Go.AW.rootF (Go.AW.rootF L (l.take (zm l.length))).2 (l.drop (zm l.length))).1)
   refine ⟨?_,(a2.trans b2).trans (zfL ..),by simp only; omega,fun _ => by simp only; omega⟩
   exact .two l _ _ _ h2 (a1.pre (b2.trans (zfL ..))) (b1.pre (zfL ..)) (zrP (zrQ (by omega)))
theorem znL : ∀ (f : Nat) {L l : List (List UInt8)} {d : Int} {i : Nat} {b : List UInt8} (g : Nat),l.length ≤ f → l.length ≤ g → ziK L l d → l[i]? = some b →
  (zbh f L i l).2 = L ∧ (zbh f L i l).1.length = zfB i l.length ∧ (∀ x ∈ (zbh f L i l).1, 1 ≤ x ∧ x ≤ L.length) ∧ zfG g L b i l.length (zbh f L i l).1 = (d,true)
 | 0,L,l,d,i,b,g,hf,_,hR,hb => by
  have : l = [] := List.eq_nil_of_length_eq_zero (by omega)
  subst this; simp at hb
 | f + 1,L,l,d,i,b,g,hf,hg,hR,hb => by
  have hil := (List.getElem?_eq_some_iff.1 hb).1
  obtain ⟨g,rfl⟩ : ∃ g',g = g' + 1 := ⟨g - 1,by omega⟩
  cases hR with
  | nil _ h => simp at hb
  | one x _ h =>
   have hi : i = 0 := by simpa using hil
   subst hi
   simp at hb; subst hb
   have e : zbh (f + 1) L 0 [x] = ([],L) := by simp [zbh]
   rw [e]
   obtain ⟨j,hj,hd⟩ := h
   refine ⟨rfl,(zsn (by simp)).symm,by simp, ?_⟩
   simp only [zfG,List.length_cons,List.length_nil,if_true,hj,Nat.zero_add]
   rw [hd]; simp [zjH]
  | two _ a b' _ h2 ha hb' hx =>
   have hs := zcK h2
   have e1 : (l.take (zm l.length)).length = zm l.length := by rw [List.length_take]; omega
   have e2 : (l.drop (zm l.length)).length = l.length - zm l.length := List.length_drop
   obtain ⟨j,hj,hd⟩ := hx
   simp only [zbh]
   rw [if_neg (show ¬ l.length ≤ 1 by omega),zoQ h2]
   by_cases hi : i < zm l.length
   ·rw [if_pos hi,if_pos hi]
    obtain ⟨p1,p2,p3,p4⟩ := znL f (i := i) (b := b) g (by omega) (by omega) ha (by rw [List.getElem?_take,if_pos hi]; exact hb)
    rw [e1] at p2 p4
    rw [p1,hb'.rootF]
    refine ⟨rfl,by simp [p2],fun x hx => ?_, ?_⟩
    ·rcases List.mem_append.1 hx with hx | hx
     ·exact p3 x hx
     ·simp only [List.mem_singleton] at hx; subst hx; exact hb'.num
    ·simp only [zfG]
     rw [if_neg (show ¬ l.length = 1 by omega),if_pos hi]
     have t1 : ((zbh f L i (l.take (zm l.length))).1 ++ [b']).take (((zbh f L i (l.take (zm l.length))).1 ++ [b']).length - 1) = (zbh f L i (l.take (zm l.length))).1 := by simp
     have t2 : ((zbh f L i (l.take (zm l.length))).1 ++ [b']).getD (((zbh f L i (l.take (zm l.length))).1 ++ [b']).length - 1) 0 = b' := by simp [List.getD]
     rw [t1,t2,p4]
     simp only [if_true,hj,Option.isSome_some,zjH]
     rw [hd]
   ·rw [if_neg hi,if_neg hi]
    obtain ⟨p1,p2,p3,p4⟩ := znL f (i := i - zm l.length) (b := b) g (by omega) (by omega) hb' (by rw [List.getElem?_drop,show zm l.length + (i - zm l.length) = i by omega]; exact hb)
    rw [e2] at p2 p4
    rw [p1,ha.rootF]
    refine ⟨rfl,by simp [p2],fun x hx => ?_, ?_⟩
    ·rcases List.mem_append.1 hx with hx | hx
     ·exact p3 x hx
     ·simp only [List.mem_singleton] at hx; subst hx; exact ha.num
    ·simp only [zfG]
     rw [if_neg (show ¬ l.length = 1 by omega),if_neg hi]
     have t1 : ((zbh f L (i - zm l.length) (l.drop (zm l.length))).1 ++ [a]).take (((zbh f L (i - zm l.length) (l.drop (zm l.length))).1 ++ [a]).length - 1) = (zbh f L (i - zm l.length) (l.drop (zm l.length))).1 := by simp
     have t2 : ((zbh f L (i - zm l.length) (l.drop (zm l.length))).1 ++ [a]).getD (((zbh f L (i - zm l.length) (l.drop (zm l.length))).1 ++ [a]).length - 1) 0 = a := by simp [List.getD]
     rw [t1,t2,p4]
     simp only [if_true,hj,Option.isSome_some,zjH]
     rw [hd]
end Go.AW
