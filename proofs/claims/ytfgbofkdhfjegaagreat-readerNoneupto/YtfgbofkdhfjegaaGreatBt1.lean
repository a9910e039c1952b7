/- What chapter 23 begins with: blocks, and certificates of what was checked. No program in sight. -/
import Derived.Test.YtfgbofkdhfjegaaGreatTp7
import Derived.Test.YtfgbofkdhfjegaaGreatSpBulk
import Derived.Test.YtfgbofkdhfjegaaGreatQu1
import Derived.Test.YtfgbofkdhfjegaaGreatCk1
import Derived.Test.YtfgbofkdhfjegaaGreatSpUtf
set_option linter.all false
set_option maxRecDepth 100000
namespace Go.Proofs.YtfgbofkdhfjegaaGreat
open Go.AW
theorem nodeB_len {a b : Int} (ha : a ≤ 1048577) (hb : b ≤ 1048577) : (zkN a b).length ≤ 1073741824 := by
 have h1 := zE (n := a.toNat) (by omega)
 have h2 := zE (n := b.toNat) (by omega)
 simp only [zkN,List.length_cons,List.length_append]; omega
theorem zoR : ∀ (f : Nat) {L l : List (List UInt8)},l.length ≤ f → zlT L → (∀ x ∈ l,x.length ≤ 1073741800) → zlT (rootF L l).2 := by
 intro f
 induction f with
 | zero =>
  intro L l hf hL _
  have : l = [] := List.eq_nil_of_length_eq_zero (by omega)
  subst this
  exact hL.sum (by simp)
 | succ f ih =>
  intro L l hf hL hx
  match l,hf,hx with
  | [],_,_ => exact hL.sum (by simp)
  | [x],_,hx => exact hL.sum (by have := hx x (by simp); simp [zoh]; omega)
  | x :: y :: r,hf,hx =>
   obtain ⟨l,hl⟩ : ∃ l,x :: y :: r = l := ⟨_,rfl⟩
   have h2 : 2 ≤ l.length := by rw [← hl]; simp
   rw [hl] at hf hx ⊢
   have hs := zcL h2
   have h1 := ih (L := L) (l := l.take (zm l.length)) (by rw [List.length_take]; omega) hL fun x h => hx x (List.mem_of_mem_take h)
   have h3 := ih (L := (rootF L (l.take (zm l.length))).2) (l := l.drop (zm l.length)) (by rw [List.length_drop]; omega) h1 fun x h => hx x (List.mem_of_mem_drop h)
   rw [zsh h2]
   refine h3.sum (nodeB_len ?_ ?_)
   ·exact (zdQ _ (Nat.le_refl _) hL.len).2.2
   ·exact (zdQ _ (Nat.le_refl _) h1.len).2.2
theorem zrI {L : List (List UInt8)} (h : zlT L) (x : zcS) : zlT (zeF L x) := by
 unfold zeF
 split
 ·exact h
 ·rename_i hc
  have := hdrB_len (zdU.1 (show zba x = 0 by simpa using hc))
  exact h.sum (by omega)
theorem pl_small {p : zbb} (h : PlI p) : zlV p := ⟨⟨by have := h.1; omega,by have := h.2.1; omega⟩,by have := h.2.2.1; omega,by have := h.2.2.2; omega⟩
theorem PlI_len {p : zbb} (h : PlI p) : (zaJ p).length ≤ 1073741800 := by have := placedB_len' h; omega
theorem execI {L : List (List UInt8)} {T : zcc} {h : zcS} {b : List zq} (hL : zlT L) (hT : zhn T) (hA : zmM T.last) (h8 : T.last.length = 8) (hx : ∀ s ∈ b,zkF s.op ≤ 20971520) :
  zlT (zdl L T h b).L ∧ zhn (zdl L T h b).T ∧ zmM (zdl L T h b).T.last ∧ (zdl L T h b).T.last.length = 8 ∧ ((zdl L T h b).e = 0 → zse ⟨(zdl L T h b).h,b,(zdl L T h b).p⟩) := by
 have t1 := tab_dig hL hx
 have t2 := zrI t1 h
 have hall : ∀ (b : List zq) {T : zcc},T.last.length = 8 → (zX T b).2.last.length = 8 := fun b => by
  induction b with
  | nil => intro T h; exact h
  | cons x b ih => intro T h; exact ih (by rw [applyF_last]; exact h)
 unfold zdl
 split
 ·rename_i c0; exact ⟨hL,hT,hA,h8,fun e => absurd e c0⟩
 rename_i c0
 split
 ·exact ⟨hL,hT,hA,h8,fun e => by simp at e⟩
 split
 ·rename_i c2; exact ⟨t1,hT,hA,h8,fun e => absurd e c2⟩
 rename_i c2
 split
 ·rename_i c3; exact ⟨t2,hT,hA,h8,fun e => absurd e c3⟩
 have p1 := zmw b hT
 have p2 := ztq b hT
 have p3 := ztp b hT hA
 have t3 := zoR _ (L := zeF (zlk L b) h) (l := (zX T b).1.map zaJ) (Nat.le_refl _) t2 fun x hx => by
  obtain ⟨p,hp,rfl⟩ := List.mem_map.1 hx
  exact PlI_len (p1.1 p hp)
 have p4 := zrX p2 p3 (hall b h8)
 have t4 := t3.sum (b := zfp (zX T b).2) (by omega)
 simp only
 split
 ·exact ⟨t4,p2,p3,hall b h8,fun e => by simp at e⟩
 ·refine ⟨t4,p2,p3,hall b h8,fun _ => ⟨?_, ?_,fun p hp => pl_small (p1.1 p hp)⟩⟩
  ·have := zhg (zdU.1 (show zba h = 0 by simpa using c0)) h.seq (by simp [zpQ])
   constructor <;> simp only <;> omega
  ·have := dig_len (L := L) (l := b) (by simpa using c2)
   have := p1.2
   simp only; omega
def voR (seq d : Int) (s : List (List UInt8) × List zI × List zI) (key : Int) : List (List UInt8) × List zI × List zI :=
 (votL s.1 6 0 seq d,votG s.1 s.2.1 key 6 0 seq d,if votE s.1 key 6 0 seq d = 0 then s.2.2 ++ [votS s.1 key 6 0 seq d] else s.2.2)
structure zaP where
 L : List (List UInt8)
 G : List zI
 h : zcS
 T : zcc
 bs : List zbx
 cs : List zff
def st0 : zaP := ⟨(genF []).2.2, [],(genF []).1,zel, [], []⟩
structure StI (N m : Nat) (s : zaP) : Prop where
 tab : zlT s.L
 led : s.G.length ≤ N
 ledI : LedI s.G
 tops : zhn s.T
 last : zmM s.T.last
 last8 : s.T.last.length = 8
 bs : ∀ b ∈ s.bs,zse b
 bl : s.bs.length ≤ m
 cs : ∀ c ∈ s.cs,c.signs.length ≤ 13
 cl : s.cs.length ≤ m
structure VoI (N m : Nat) (s : List (List UInt8) × List zI × List zI) : Prop where
 tab : zlT s.1
 led : s.2.1.length ≤ N
 ledI : LedI s.2.1
 len : s.2.2.length ≤ m
theorem signG_len (G : List zI) (k d : Int) : (zfW G k d).length ≤ G.length + 1 := by
 unfold zfW zlJ
 repeat' split
 all_goals simp
theorem voI {N m : Nat} {s : List (List UInt8) × List zI × List zI} {seq d key : Int} (h : VoI N m s) : VoI (N + 1) (m + 1) (voR seq d s key) := by
 obtain ⟨h1,h2,h3,h4⟩ := h
 refine ⟨?_, ?_, ?_, ?_⟩
 ·simp only [voR,votL]
  split
  ·rename_i hm
   have := voteB_len hm
   exact h1.sum (by omega)
  ·exact h1
 ·simp only [voR,votG,sgnG]
  have := signG_len s.2.1 key (zdw s.1 (zfZ 6 0 seq d))
  repeat' split
  all_goals omega
 ·simp only [voR,votG,sgnG]
  repeat' split
  ·exact h3
  ·exact h3.sign _ _
  ·exact h3
 ·simp only [voR]
  split
  ·simp; omega
  ·omega
theorem foldVo {N m : Nat} {s : List (List UInt8) × List zI × List zI} {seq d : Int} (h : VoI N m s) (l : List Int) : VoI (N + l.length) (m + l.length) (l.foldl (voR seq d) s) := by
 induction l generalizing N m s with
 | nil => exact h
 | cons x l ih =>
  have := ih (voI (key := x) (seq := seq) (d := d) h)
  simp only [List.foldl_cons,List.length_cons]
  rwa [show N + (l.length + 1) = N + 1 + l.length by omega,show m + (l.length + 1) = m + 1 + l.length by omega]
theorem ledSe {l : List zq} {s : List (List UInt8) × List zI × List zq} (h : LedI s.2.1) : LedI (l.foldl seR s).2.1 := by
 induction l generalizing s with
 | nil => exact h
 | cons x l ih =>
  refine ih ?_
  simp only [seR,zsg]
  split
  ·exact h
  ·exact h.sign _ _
theorem zmM.none : zmM zel.last := fun a ha => by
 have := List.eq_of_mem_replicate ha
 subst this
 simp
theorem st0I : StI 0 0 st0 := by
 have t1 : zlT (rootF [] []).2 := zoR 0 (Nat.le_refl _) zlT.nil (by simp)
 have t2 := t1.sum (b := zfp zel) (by have := zrX zhn.none zmM.none rfl; omega)
 refine ⟨?_,Nat.zero_le _,⟨.nil,by simp [st0]⟩,zhn.none,zmM.none,rfl,by simp [st0],Nat.zero_le _,by simp [st0],Nat.zero_le _⟩
 simp only [st0,genF]
 split <;> exact t2
end Go.Proofs.YtfgbofkdhfjegaaGreat

/- Numbers of what a table knows; trees in a table: what a proof shows, and that a made proof shows it. No program in sight. -/
namespace Go.AW
def zgM (L : List (List UInt8)) (b : List UInt8) (d : Int) : Prop := ∃ i,zcW L b = some i ∧ d = ((i + 1 : Nat) : Int)
theorem zgM.pre {L L' : List (List UInt8)} {b : List UInt8} {d : Int} (h : zgM L b d) (hp : L <+: L') : zgM L' b d := by
 obtain ⟨i,h1,h2⟩ := h
 obtain ⟨m,rfl⟩ := hp
 exact ⟨i,look_more h1,h2⟩
theorem zgM.pos {L : List (List UInt8)} {b : List UInt8} {d : Int} (h : zgM L b d) : 1 ≤ d ∧ d ≤ L.length := by
 obtain ⟨i,h1,h2⟩ := h
 have := (zld h1).1
 omega
theorem zgM.inj {L : List (List UInt8)} {a b : List UInt8} {d : Int} (ha : zgM L a d) (hb : zgM L b d) : a = b := by
 obtain ⟨i,h1,h2⟩ := ha
 obtain ⟨j,h3,h4⟩ := hb
 have : i = j := by omega
 subst this
 have := (zld h1).2
 rw [(zld h3).2] at this
 exact (Option.some.inj this).symm
theorem zgM.one {L : List (List UInt8)} {b : List UInt8} {d e : Int} (ha : zgM L b d) (hb : zgM L b e) : d = e := by
 obtain ⟨i,h1,h2⟩ := ha
 obtain ⟨j,h3,h4⟩ := hb
 rw [h1] at h3
 cases h3
 omega
theorem zrZ {L : List (List UInt8)} {b : List UInt8} (h : L.length < 1048576) : zdw L b ≠ 0 := by
 unfold zdw
 split
 ·omega
 ·rw [if_neg (by omega)]; omega
theorem zrY {L : List (List UInt8)} {b : List UInt8} (h : zdw L b ≠ 0) : zgM (zeI L b) b (zdw L b) := by
 unfold zdw zeI at *
 split at h
 ·rename_i i hi
  exact ⟨i,hi,rfl⟩
 ·rename_i hn
  split at h
  ·exact absurd rfl h
  ·rename_i hl
   rw [if_neg hl,if_neg hl]
   exact ⟨L.length,look_new L b hn,by omega⟩
theorem zgM.sum {L : List (List UInt8)} {b : List UInt8} {d : Int} (h : zgM L b d) : zdw L b = d ∧ zeI L b = L := by
 obtain ⟨i,h1,h2⟩ := h
 unfold zdw zeI
 rw [h1]
 exact ⟨by simp only; omega,rfl⟩
theorem zjr (L : List (List UInt8)) (b : List UInt8) : (zeI L b).length ≤ L.length + 1 := by
 unfold zeI
 repeat' split
 all_goals simp
theorem zgb (L : List (List UInt8)) (b : List UInt8) : L <+: zeI L b := by
 unfold zeI
 split
 ·exact List.prefix_refl L
 ·split
  ·exact List.prefix_refl L
  ·exact List.prefix_append ..
inductive ziL (L : List (List UInt8)) : List (List UInt8) → Int → Prop
 | nil (d : Int) : zgM L [2] d → ziL L [] d
 | one (x : List UInt8) (d : Int) : zgM L (zoh x) d → ziL L [x] d
 | two (l : List (List UInt8)) (a b d : Int) : 2 ≤ l.length → ziL L (l.take (zm l.length)) a → ziL L (l.drop (zm l.length)) b → zgM L (zkN a b) d → ziL L l d
theorem ziL.pre {L L' : List (List UInt8)} {l : List (List UInt8)} {d : Int} (h : ziL L l d) (hp : L <+: L') : ziL L' l d := by
 induction h with
 | nil d h => exact .nil d (h.pre hp)
 | one x d h => exact .one x d (h.pre hp)
 | two l a b d h2 _ _ hn ih1 ih2 => exact .two l a b d h2 ih1 ih2 (hn.pre hp)
theorem ziL.num {L l : List (List UInt8)} {d : Int} (h : ziL L l d) : 1 ≤ d ∧ d ≤ L.length := by
 cases h with
 | nil _ h => exact h.pos
 | one _ _ h => exact h.pos
 | two _ _ _ _ _ _ _ h => exact h.pos
theorem ziL.rootF {L l : List (List UInt8)} {d : Int} (h : ziL L l d) : rootF L l = (d,L) := by
 induction h with
 | nil d h => rw [rootF_0,h.sum.1,h.sum.2]
 | one x d h => rw [rootF_1,h.sum.1,h.sum.2]
 | two l a b d h2 _ _ hn ih1 ih2 => rw [zsh h2,ih1]; simp only; rw [ih2]; simp only; rw [hn.sum.1,hn.sum.2]
theorem root_at : ∀ (f : Nat) {L l : List (List UInt8)},l.length ≤ f → L.length + 2 * l.length + 1 ≤ 1048576 → ziL (Go.AW.rootF L l).2 l (Go.AW.rootF L l).1 ∧ L <+: (Go.AW.rootF L l).2 ∧ (Go.AW.rootF L l).2.length ≤ L.length + 2 * l.length + 1 ∧ (1 ≤ l.length → (Go.AW.rootF L l).2.length + 1 ≤ L.length + 2 * l.length) := by
 intro f
 induction f with
 | zero =>
  intro L l hf hL
  have : l = [] := List.eq_nil_of_length_eq_zero (by omega)
  subst this
  rw [rootF_0]
  exact ⟨.nil _ (zrY (zrZ (by omega))),zgb ..,by have := zjr L [2]; simp only; omega,fun h => by simp at h⟩
 | succ f ih =>
  intro L l hf hL
  match l,hf,hL with
  | [],_,hL =>
   rw [rootF_0]
   exact ⟨.nil _ (zrY (zrZ (by omega))),zgb ..,by have := zjr L [2]; simp only; omega,fun h => by simp at h⟩
  | [x],_,hL =>
   rw [rootF_1]
   simp only [List.length_cons,List.length_nil] at hL ⊢
   exact ⟨.one x _ (zrY (zrZ (by omega))),zgb ..,by have := zjr L (zoh x); omega,fun _ => by have := zjr L (zoh x); omega⟩
  | x :: y :: r,hf,hL =>
   obtain ⟨l,hl⟩ : ∃ l,x :: y :: r = l := ⟨_,rfl⟩
   have h2 : 2 ≤ l.length := by rw [← hl]; simp
   rw [hl] at hf hL ⊢
   have hs := zcL h2
   have e1 : (l.take (zm l.length)).length = zm l.length := by rw [List.length_take]; omega
   have e2 : (l.drop (zm l.length)).length = l.length - zm l.length := List.length_drop
   obtain ⟨a1,a2,a3,a4⟩ := ih (L := L) (l := l.take (zm l.length)) (by omega) (by omega)
   have a4 := a4 (by omega)
   obtain ⟨b1,b2,b3,b4⟩ := ih (L := (Go.AW.rootF L (l.take (zm l.length))).2) (l := l.drop (zm l.length)) (by omega) (by omega)
   have b4 := b4 (by omega)
   rw [zsh h2]
   have hn := zjr (Go.AW.rootF (Go.AW.rootF L (l.take (zm l.length))).2 (l.drop (zm l.length))).2 (zkN (Go.AW.rootF L (l.take (zm l.length))).1 (Go.AW.rootF (Go.AW.rootF L (l.take (zm l.length))).2 (l.drop (zm l.length))).1)
   refine ⟨?_,(a2.trans b2).trans (zgb ..),by simp only; omega,fun _ => by simp only; omega⟩
   exact .two l _ _ _ h2 (a1.pre (b2.trans (zgb ..))) (b1.pre (zgb ..)) (zrY (zrZ (by omega)))
theorem znW : ∀ (f : Nat) {L l : List (List UInt8)} {d : Int} {i : Nat} {b : List UInt8} (g : Nat),l.length ≤ f → l.length ≤ g → ziL L l d → l[i]? = some b →
  (zbh f L i l).2 = L ∧ (zbh f L i l).1.length = zfx i l.length ∧ (∀ x ∈ (zbh f L i l).1, 1 ≤ x ∧ x ≤ L.length) ∧ zfS g L b i l.length (zbh f L i l).1 = (d,true)
 | 0,L,l,d,i,b,g,hf,_,hR,hb => by
  have : l = [] := List.eq_nil_of_length_eq_zero (by omega)
  subst this; simp at hb
 | f + 1,L,l,d,i,b,g,hf,hg,hR,hb => by
  have hil := (List.getElem?_eq_some_iff.1 hb).1
  obtain ⟨g,rfl⟩ : ∃ g',g = g' + 1 := ⟨g - 1,by omega⟩
  cases hR with
  | nil _ h => simp at hb
  | one x _ h =>
   have hi : i = 0 := by simpa using hil
   subst hi
   simp at hb; subst hb
   have e : zbh (f + 1) L 0 [x] = ([],L) := by simp [zbh]
   rw [e]
   obtain ⟨j,hj,hd⟩ := h
   refine ⟨rfl,(zsw (by simp)).symm,by simp, ?_⟩
   simp only [zfS,List.length_cons,List.length_nil,if_true,hj,Nat.zero_add]
   rw [hd]; simp [zjU]
  | two _ a b' _ h2 ha hb' hx =>
   have hs := zcL h2
   have e1 : (l.take (zm l.length)).length = zm l.length := by rw [List.length_take]; omega
   have e2 : (l.drop (zm l.length)).length = l.length - zm l.length := List.length_drop
   obtain ⟨j,hj,hd⟩ := hx
   simp only [zbh]
   rw [if_neg (show ¬ l.length ≤ 1 by omega),zpb h2]
   by_cases hi : i < zm l.length
   ·rw [if_pos hi,if_pos hi]
    obtain ⟨p1,p2,p3,p4⟩ := znW f (i := i) (b := b) g (by omega) (by omega) ha (by rw [List.getElem?_take,if_pos hi]; exact hb)
    rw [e1] at p2 p4
    rw [p1,hb'.rootF]
    refine ⟨rfl,by simp [p2],fun x hx => ?_, ?_⟩
    ·rcases List.mem_append.1 hx with hx | hx
     ·exact p3 x hx
     ·simp only [List.mem_singleton] at hx; subst hx; exact hb'.num
    ·simp only [zfS]
     rw [if_neg (show ¬ l.length = 1 by omega),if_pos hi]
     have t1 : ((zbh f L i (l.take (zm l.length))).1 ++ [b']).take (((zbh f L i (l.take (zm l.length))).1 ++ [b']).length - 1) = (zbh f L i (l.take (zm l.length))).1 := by simp
     have t2 : ((zbh f L i (l.take (zm l.length))).1 ++ [b']).getD (((zbh f L i (l.take (zm l.length))).1 ++ [b']).length - 1) 0 = b' := by simp [List.getD]
     rw [t1,t2,p4]
     simp only [if_true,hj,Option.isSome_some,zjU]
     rw [hd]
   ·rw [if_neg hi,if_neg hi]
    obtain ⟨p1,p2,p3,p4⟩ := znW f (i := i - zm l.length) (b := b) g (by omega) (by omega) hb' (by rw [List.getElem?_drop,show zm l.length + (i - zm l.length) = i by omega]; exact hb)
    rw [e2] at p2 p4
    rw [p1,ha.rootF]
    refine ⟨rfl,by simp [p2],fun x hx => ?_, ?_⟩
    ·rcases List.mem_append.1 hx with hx | hx
     ·exact p3 x hx
     ·simp only [List.mem_singleton] at hx; subst hx; exact ha.num
    ·simp only [zfS]
     rw [if_neg (show ¬ l.length = 1 by omega),if_neg hi]
     have t1 : ((zbh f L (i - zm l.length) (l.drop (zm l.length))).1 ++ [a]).take (((zbh f L (i - zm l.length) (l.drop (zm l.length))).1 ++ [a]).length - 1) = (zbh f L (i - zm l.length) (l.drop (zm l.length))).1 := by simp
     have t2 : ((zbh f L (i - zm l.length) (l.drop (zm l.length))).1 ++ [a]).getD (((zbh f L (i - zm l.length) (l.drop (zm l.length))).1 ++ [a]).length - 1) 0 = a := by simp [List.getD]
     rw [t1,t2,p4]
     simp only [if_true,hj,Option.isSome_some,zjU]
     rw [hd]
end Go.AW
