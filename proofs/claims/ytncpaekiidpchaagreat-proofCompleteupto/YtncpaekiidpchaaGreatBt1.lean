/- What chapter 23 begins with: blocks, and certificates of what was checked. No program in sight. -/
import Derived.Test.YtncpaekiidpchaaGreatTp7
import Derived.Test.YtncpaekiidpchaaGreatSpBulk
import Derived.Test.YtncpaekiidpchaaGreatKp2
import Derived.Test.YtncpaekiidpchaaGreatSpNv
import Derived.Test.YtncpaekiidpchaaGreatSpMake
import Derived.Test.YtncpaekiidpchaaGreatId3
set_option linter.all false
set_option maxRecDepth 100000
namespace Go.Proofs.YtncpaekiidpchaaGreat
open Go.AW
theorem nodeB_len {a b : Int} (ha : a ≤ 1048577) (hb : b ≤ 1048577) : (zhB a b).length ≤ 1073741824 := by
 have h1 := zx (n := a.toNat) (by omega)
 have h2 := zx (n := b.toNat) (by omega)
 simp only [zhB,List.length_cons,List.length_append]; omega
theorem zmX : ∀ (f : Nat) {L l : List (List UInt8)},l.length ≤ f → zkk L → (∀ x ∈ l,x.length ≤ 1073741800) → zkk (rootF L l).2 := by
 intro f
 induction f with
 | zero =>
  intro L l hf hL _
  have : l = [] := List.eq_nil_of_length_eq_zero (by omega)
  subst this
  exact hL.sum (by simp)
 | succ f ih =>
  intro L l hf hL hx
  match l,hf,hx with
  | [],_,_ => exact hL.sum (by simp)
  | [x],_,hx => exact hL.sum (by have := hx x (by simp); simp [zkj]; omega)
  | x :: y :: r,hf,hx =>
   obtain ⟨l,hl⟩ : ∃ l,x :: y :: r = l := ⟨_,rfl⟩
   have h2 : 2 ≤ l.length := by rw [← hl]; simp
   rw [hl] at hf hx ⊢
   have hs := zbX h2
   have h1 := ih (L := L) (l := l.take (zi l.length)) (by rw [List.length_take]; omega) hL fun x h => hx x (List.mem_of_mem_take h)
   have h3 := ih (L := (rootF L (l.take (zi l.length))).2) (l := l.drop (zi l.length)) (by rw [List.length_drop]; omega) h1 fun x h => hx x (List.mem_of_mem_drop h)
   rw [zot h2]
   refine h3.sum (nodeB_len ?_ ?_)
   ·exact (zcs _ (Nat.le_refl _) hL.len).2.2
   ·exact (zcs _ (Nat.le_refl _) h1.len).2.2
theorem zqa {L : List (List UInt8)} (h : zkk L) (x : zcF) : zkk (zcO L x) := by
 unfold zcO
 split
 ·exact h
 ·rename_i hc
  have := hdrB_len (zdl.1 (show zaH x = 0 by simpa using hc))
  exact h.sum (by omega)
theorem pl_small {p : zaI} (h : PlI p) : zjh p := ⟨⟨by have := h.1; omega,by have := h.2.1; omega⟩,by have := h.2.2.1; omega,by have := h.2.2.2; omega⟩
theorem PlI_len {p : zaI} (h : PlI p) : (zam p).length ≤ 1073741800 := by have := placedB_len' h; omega
theorem execI {L : List (List UInt8)} {T : zbf} {h : zcF} {b : List zn} (hL : zkk L) (hT : zeN T) (hA : zli T.last) (h8 : T.last.length = 8) (hx : ∀ s ∈ b,zjK s.op ≤ 20971520) :
  zkk (zcv L T h b).L ∧ zeN (zcv L T h b).T ∧ zli (zcv L T h b).T.last ∧ (zcv L T h b).T.last.length = 8 ∧ ((zcv L T h b).e = 0 → zoq ⟨(zcv L T h b).h,b,(zcv L T h b).p⟩) := by
 have t1 := tab_dig hL hx
 have t2 := zqa t1 h
 have hall : ∀ (b : List zn) {T : zbf},T.last.length = 8 → (zU T b).2.last.length = 8 := fun b => by
  induction b with
  | nil => intro T h; exact h
  | cons x b ih => intro T h; exact ih (by rw [applyF_last]; exact h)
 unfold zcv
 split
 ·rename_i c0; exact ⟨hL,hT,hA,h8,fun e => absurd e c0⟩
 rename_i c0
 split
 ·exact ⟨hL,hT,hA,h8,fun e => by simp at e⟩
 split
 ·rename_i c2; exact ⟨t1,hT,hA,h8,fun e => absurd e c2⟩
 rename_i c2
 split
 ·rename_i c3; exact ⟨t2,hT,hA,h8,fun e => absurd e c3⟩
 have p1 := zkU b hT
 have p2 := zrA b hT
 have p3 := zrz b hT hA
 have t3 := zmX _ (L := zcO (zjD L b) h) (l := (zU T b).1.map zam) (Nat.le_refl _) t2 fun x hx => by
  obtain ⟨p,hp,rfl⟩ := List.mem_map.1 hx
  exact PlI_len (p1.1 p hp)
 have p4 := zqn p2 p3 (hall b h8)
 have t4 := t3.sum (b := zeh (zU T b).2) (by omega)
 simp only
 split
 ·exact ⟨t4,p2,p3,hall b h8,fun e => by simp at e⟩
 ·refine ⟨t4,p2,p3,hall b h8,fun _ => ⟨?_, ?_,fun p hp => pl_small (p1.1 p hp)⟩⟩
  ·have := zdE (zdl.1 (show zaH h = 0 by simpa using c0)) h.seq (by simp [zkD])
   constructor <;> simp only <;> omega
  ·have := dig_len (L := L) (l := b) (by simpa using c2)
   have := p1.2
   simp only; omega
def voR (seq d : Int) (s : List (List UInt8) × List zJ × List zJ) (key : Int) : List (List UInt8) × List zJ × List zJ :=
 (votL s.1 6 0 seq d,votG s.1 s.2.1 key 6 0 seq d,if ztK s.1 key 6 0 seq d = 0 then s.2.2 ++ [zsf s.1 key 6 0 seq d] else s.2.2)
structure zds where
 L : List (List UInt8)
 G : List zJ
 h : zcF
 T : zbf
 bs : List zaM
 cs : List zfH
def stX (ks : List Int) (s : zds) (t : List (List UInt8) × List zJ × List zn) (r : ExecR) : zds :=
 if r.e ≠ 0 then { s with L := r.L,G := t.2.1,T := r.T }
 else if r.h.seq.tmod 4 ≠ 0 then ⟨r.L,t.2.1,r.h,r.T,s.bs ++ [⟨r.h,t.2.2,r.p⟩],s.cs⟩
 else
  let v := ks.foldl (voR r.h.seq (ziA r.L r.h)) (zcO r.L r.h,t.2.1, [])
  ⟨v.1,v.2.1,r.h,r.T,s.bs ++ [⟨r.h,t.2.2,r.p⟩],s.cs ++ [⟨r.h.seq,ziA r.L r.h,v.2.2⟩]⟩
def stR (ks : List Int) (s : zds) (l : List zn) : zds :=
 let t := l.foldl seR (s.L,s.G, [])
 stX ks s t (zcv t.1 s.T s.h t.2.2)
def st0 : zds := ⟨(genF []).2.2, [],(genF []).1,zdq, [], []⟩
def stF (ks : List Int) (bats : List (List zn)) : zds := (bats.take 20).foldl (stR ks) st0
structure StI (N m : Nat) (s : zds) : Prop where
 tab : zkk s.L
 led : s.G.length ≤ N
 ledI : LedI s.G
 tops : zeN s.T
 last : zli s.T.last
 last8 : s.T.last.length = 8
 bs : ∀ b ∈ s.bs,zoq b
 bl : s.bs.length ≤ m
 cs : ∀ c ∈ s.cs,c.signs.length ≤ 13
 cl : s.cs.length ≤ m
structure VoI (N m : Nat) (s : List (List UInt8) × List zJ × List zJ) : Prop where
 tab : zkk s.1
 led : s.2.1.length ≤ N
 ledI : LedI s.2.1
 len : s.2.2.length ≤ m
theorem signG_len (G : List zJ) (k d : Int) : (zeL G k d).length ≤ G.length + 1 := by
 unfold zeL zkg
 repeat' split
 all_goals simp
theorem voI {N m : Nat} {s : List (List UInt8) × List zJ × List zJ} {seq d key : Int} (h : VoI N m s) : VoI (N + 1) (m + 1) (voR seq d s key) := by
 obtain ⟨h1,h2,h3,h4⟩ := h
 refine ⟨?_, ?_, ?_, ?_⟩
 ·simp only [voR,votL]
  split
  ·rename_i hm
   have := voteB_len hm
   exact h1.sum (by omega)
  ·exact h1
 ·simp only [voR,votG,sgnG]
  have := signG_len s.2.1 key (zcI s.1 (zeK 6 0 seq d))
  repeat' split
  all_goals omega
 ·simp only [voR,votG,sgnG]
  repeat' split
  ·exact h3
  ·exact h3.sign _ _
  ·exact h3
 ·simp only [voR]
  split
  ·simp; omega
  ·omega
theorem foldVo {N m : Nat} {s : List (List UInt8) × List zJ × List zJ} {seq d : Int} (h : VoI N m s) (l : List Int) : VoI (N + l.length) (m + l.length) (l.foldl (voR seq d) s) := by
 induction l generalizing N m s with
 | nil => exact h
 | cons x l ih =>
  have := ih (voI (key := x) (seq := seq) (d := d) h)
  simp only [List.foldl_cons,List.length_cons]
  rwa [show N + (l.length + 1) = N + 1 + l.length by omega,show m + (l.length + 1) = m + 1 + l.length by omega]
theorem ledSe {l : List zn} {s : List (List UInt8) × List zJ × List zn} (h : LedI s.2.1) : LedI (l.foldl seR s).2.1 := by
 induction l generalizing s with
 | nil => exact h
 | cons x l ih =>
  refine ih ?_
  simp only [seR,zrU]
  split
  ·exact h
  ·exact h.sign _ _
theorem stI {N m : Nat} {s : zds} {ks : List Int} {l : List zn} (h : StI N m s) (hl : ∀ x ∈ l,zjK x.op ≤ 20971520) (hk : ks.length ≤ 13) : StI (N + l.length + 13) (m + 1) (stR ks s l) := by
 have h1 := foldSe (n := s.G.length) (m := 0) (s := (s.L,s.G, [])) (l := l) ⟨h.tab,Nat.le_refl _,by simp,by simp⟩ hl
 have h2 : LedI (l.foldl seR (s.L,s.G, [])).2.1 := ledSe h.ledI
 have hN := h.led
 have hg := h1.led
 obtain ⟨e1,e2,e3,e4,e5⟩ := execI (h := s.h) h1.tab h.tops h.last h.last8 h1.sz
 have hbs : ∀ x,zoq x → ∀ b ∈ s.bs ++ [x],zoq b := fun x hx b hb => by
  rcases List.mem_append.1 hb with hb | hb
  ·exact h.bs b hb
  ·simp only [List.mem_singleton] at hb; subst hb; exact hx
 have hbl := h.bl
 have hcl := h.cl
 unfold stR stX
 simp only
 obtain ⟨t,ht⟩ : ∃ t,l.foldl seR (s.L,s.G, []) = t := ⟨_,rfl⟩
 rw [ht] at h1 h2 hg e1 e2 e3 e4 e5 ⊢
 obtain ⟨r,hr⟩ : ∃ r,zcv t.1 s.T s.h t.2.2 = r := ⟨_,rfl⟩
 rw [hr] at e1 e2 e3 e4 e5 ⊢
 split
 ·exact ⟨e1,by simp only; omega,h2,e2,e3,e4,h.bs,by simp only; omega,h.cs,by simp only; omega⟩
 rename_i he
 have he : r.e = 0 := Classical.not_not.1 he
 split
 ·exact ⟨e1,by simp only; omega,h2,e2,e3,e4,hbs _ (e5 he),by simp; omega,h.cs,by simp only; omega⟩
 ·have v := foldVo (seq := r.h.seq) (d := ziA r.L r.h) (s := (zcO r.L r.h,t.2.1, [])) (N := t.2.1.length) (m := 0) ⟨zqa e1 r.h,Nat.le_refl _,h2,Nat.zero_le _⟩ ks
  refine ⟨v.tab,by have := v.led; simp only at this ⊢; omega,v.ledI,e2,e3,e4,hbs _ (e5 he),by simp; omega,fun c hc => ?_,by simp; omega⟩
  rcases List.mem_append.1 hc with hc | hc
  ·exact h.cs c hc
  ·simp only [List.mem_singleton] at hc
   subst hc
   have := v.len
   simp only; omega
theorem zli.none : zli zdq.last := fun a ha => by
 have := List.eq_of_mem_replicate ha
 subst this
 simp
theorem st0I : StI 0 0 st0 := by
 have t1 : zkk (rootF [] []).2 := zmX 0 (Nat.le_refl _) zkk.nil (by simp)
 have t2 := t1.sum (b := zeh zdq) (by have := zqn zeN.none zli.none rfl; omega)
 refine ⟨?_,Nat.zero_le _,⟨.nil,by simp [st0]⟩,zeN.none,zli.none,rfl,by simp [st0],Nat.zero_le _,by simp [st0],Nat.zero_le _⟩
 simp only [st0,genF]
 split <;> exact t2
theorem foldSt {N m : Nat} {s : zds} {ks : List Int} {bats : List (List zn)} (h : StI N m s) (hl : ∀ l ∈ bats, ∀ x ∈ l,zjK x.op ≤ 20971520) (hk : ks.length ≤ 13) :
  StI (N + (bats.map List.length).sum + 13 * bats.length) (m + bats.length) (bats.foldl (stR ks) s) := by
 induction bats generalizing N m s with
 | nil => exact h
 | cons l bats ih =>
  have := ih (stI h (hl l (by simp)) hk) fun l' h' => hl l' (by simp [h'])
  simp only [List.foldl_cons,List.length_cons,List.map_cons,List.sum_cons]
  rwa [show N + (l.length + (bats.map List.length).sum) + 13 * (bats.length + 1) = N + l.length + 13 + (bats.map List.length).sum + 13 * bats.length by omega,show m + (bats.length + 1) = m + 1 + bats.length by omega]
end Go.Proofs.YtncpaekiidpchaaGreat

/- Contract: what chapter 23 begins with. -/
set_option maxRecDepth 100000
namespace Go.Proofs.YtncpaekiidpchaaGreat
open Go.AW
structure zkX where
 do_ : Int
 n : Int
 dig : Int
 rec_ : List UInt8
abbrev zpf (w : zkX) : List D := [.int .i64 w.do_, .int .i64 w.n, .int .i64 w.dig, .slice (bcs w.rec_)]
abbrev ztL (l : List zkX) : List (List D) := l.map zpf
structure zkY where
 f : Int
 bats : List (List zn)
 voters : Nat
 bad : List zJ
 topic : List UInt8
 offset : Int
 twists : List zkX
abbrev zpb (l : List (List zn)) : List (List D) := l.map fun l => [.slice (zpT l)]
abbrev ziR (c : zkY) : List AV := [.d (.int .i64 c.f), .d (.slice (zpb c.bats)), .d (.int .u16 c.voters), .d (.slice (zaz c.bad)), .d (.str c.topic), .d (.int .i64 c.offset), .d (.slice (ztL c.twists))]
abbrev caseA (c : zkY) : AV := .agg (ziR c)
abbrev zfG (l : List zfH) : List (List D) := l.map certD
abbrev hdrC (h : zcF) : zg := .box [.d (.int .i64 h.seq), .d (.int .i64 h.prev), .d (.int .i64 h.batch), .d (.int .i64 h.root), .d (.int .i64 h.state)]
structure StJ (σ : List zg) (C : zg) (tb tc t g : Nat) (s : zds) (S : List zg) : Prop where
 cb : S[σ.length]? = some C
 xb : S[σ.length + 1]? = some (rtO s.L)
 yb : S[σ.length + 2]? = some (rlO s.G)
 tab : zcl S (σ.length + 4) (σ.length + 3) (σ.length + 5) []
 led : zdV S (σ.length + 7) (σ.length + 6) (σ.length + 8) []
 st : S[σ.length + 9]? = some (.box [.box (σ.length + 4) 0, .box (σ.length + 7) 0, .box (σ.length + 1) 0, .box (σ.length + 2) 0, .own tb (zcn s.bs), .own tc (zfG s.cs)])
 hb : S[σ.length + 10]? = some (hdrC s.h)
 top : zbS S (σ.length + 11) t g s.T
 kb : S[tb]? = some (.tok 7 s.bs.length)
 kc : S[tc]? = some (.tok 3 s.cs.length)
 ne : σ.length + 11 < tb ∧ tb < tc
 cn : ∀ g sz cs,C ≠ .row g sz cs
 rest : ∀ (j : Nat) (x : zg), σ[j]? = some x → (∀ g sz cs,x ≠ .row g sz cs) → S[j]? = some x
section
variable {σ S S' : List zg} {C : zg} {tb tc t g t' g' : Nat} {s : zds}
theorem zc {S : List zg} {i j : Nat} {x : zg} (y : zg) (h : S[j]? = some x) (hne : i ≠ j) : (S.set i y)[j]? = some x := (List.getElem?_set_ne hne).trans h
theorem StJ.app (h : StJ σ C tb tc t g s S) (τ : List zg) : StJ σ C tb tc t g s (S ++ τ) :=
 ⟨zf h.cb,zf h.xb,zf h.yb,⟨zf h.tab.1,zf h.tab.2,zf h.tab.3⟩,⟨zf h.led.1,zf h.led.2,zf h.led.3⟩,zf h.st,zf h.hb,h.top.app τ,zf h.kb,zf h.kc,h.ne,h.cn,fun j x h1 h2 => zf (h.rest j x h1 h2)⟩
theorem StJ.x (h : StJ σ C tb tc t g s S) (L : List (List UInt8)) : StJ σ C tb tc t g { s with L := L } (S.set (σ.length + 1) (rtO L)) := by
 have hn := h.ne
 refine ⟨zc _ h.cb (by omega),List.getElem?_set_self (zF h.xb),zc _ h.yb (by omega),⟨zc _ h.tab.1 (by omega),zc _ h.tab.2 (by omega),zc _ h.tab.3 (by omega)⟩,⟨zc _ h.led.1 (by omega),zc _ h.led.2 (by omega),zc _ h.led.3 (by omega)⟩,
  zc _ h.st (by omega),zc _ h.hb (by omega),h.top.setN h.xb (fun _ _ _ e => by cases e) (by omega),zc _ h.kb (by omega),zc _ h.kc (by omega),h.ne,h.cn,fun j x h1 h2 => zc _ (h.rest j x h1 h2) (by have := zF h1; omega)⟩
theorem StJ.y (h : StJ σ C tb tc t g s S) (G : List zJ) : StJ σ C tb tc t g { s with G := G } (S.set (σ.length + 2) (rlO G)) := by
 have hn := h.ne
 refine ⟨zc _ h.cb (by omega),zc _ h.xb (by omega),List.getElem?_set_self (zF h.yb),⟨zc _ h.tab.1 (by omega),zc _ h.tab.2 (by omega),zc _ h.tab.3 (by omega)⟩,⟨zc _ h.led.1 (by omega),zc _ h.led.2 (by omega),zc _ h.led.3 (by omega)⟩,
  zc _ h.st (by omega),zc _ h.hb (by omega),h.top.setN h.yb (fun _ _ _ e => by cases e) (by omega),zc _ h.kb (by omega),zc _ h.kc (by omega),h.ne,h.cn,fun j x h1 h2 => zc _ (h.rest j x h1 h2) (by have := zF h1; omega)⟩
theorem StJ.hdr (h : StJ σ C tb tc t g s S) (k : zcF) : StJ σ C tb tc t g { s with h := k } (S.set (σ.length + 10) (hdrC k)) := by
 have hn := h.ne
 refine ⟨zc _ h.cb (by omega),zc _ h.xb (by omega),zc _ h.yb (by omega),⟨zc _ h.tab.1 (by omega),zc _ h.tab.2 (by omega),zc _ h.tab.3 (by omega)⟩,⟨zc _ h.led.1 (by omega),zc _ h.led.2 (by omega),zc _ h.led.3 (by omega)⟩,
  zc _ h.st (by omega),List.getElem?_set_self (zF h.hb),h.top.setN h.hb (fun _ _ _ e => by cases e) (by omega),zc _ h.kb (by omega),zc _ h.kc (by omega),h.ne,h.cn,fun j x h1 h2 => zc _ (h.rest j x h1 h2) (by have := zF h1; omega)⟩
theorem StJ.oth {j : Nat} {x : zg} (h : StJ σ C tb tc t g s S) (hj : S[j]? = some x) (hr : ∀ g sz cs,x ≠ .row g sz cs) (h1 : σ.length + 11 < j) (h2 : j ≠ tb) (h3 : j ≠ tc) (y : zg) : StJ σ C tb tc t g s (S.set j y) := by
 refine ⟨zc _ h.cb (by omega),zc _ h.xb (by omega),zc _ h.yb (by omega),⟨zc _ h.tab.1 (by omega),zc _ h.tab.2 (by omega),zc _ h.tab.3 (by omega)⟩,⟨zc _ h.led.1 (by omega),zc _ h.led.2 (by omega),zc _ h.led.3 (by omega)⟩,
  zc _ h.st (by omega),zc _ h.hb (by omega),h.top.setN hj hr (by omega),zc _ h.kb (by omega),zc _ h.kc (by omega),h.ne,h.cn,fun j x h1 h2 => zc _ (h.rest j x h1 h2) (by have := zF h1; omega)⟩
theorem StJ.blk (h : StJ σ C tb tc t g s S) (bs : List zaM) : StJ σ C tb tc t g { s with bs := bs } ((S.set tb (.tok 7 bs.length)).set (σ.length + 9) (.box [.box (σ.length + 4) 0, .box (σ.length + 7) 0, .box (σ.length + 1) 0, .box (σ.length + 2) 0, .own tb (zcn bs), .own tc (zfG s.cs)])) := by
 have hn := h.ne
 refine ⟨zc _ (zc _ h.cb (by omega)) (by omega),zc _ (zc _ h.xb (by omega)) (by omega),zc _ (zc _ h.yb (by omega)) (by omega),⟨zc _ (zc _ h.tab.1 (by omega)) (by omega),zc _ (zc _ h.tab.2 (by omega)) (by omega),zc _ (zc _ h.tab.3 (by omega)) (by omega)⟩,⟨zc _ (zc _ h.led.1 (by omega)) (by omega),zc _ (zc _ h.led.2 (by omega)) (by omega),zc _ (zc _ h.led.3 (by omega)) (by omega)⟩,
  List.getElem?_set_self (by have := zF h.st; simpa using this),zc _ (zc _ h.hb (by omega)) (by omega),(h.top.setN h.kb (fun _ _ _ e => by cases e) (by omega)).setN (zc _ h.st (by omega)) (fun _ _ _ e => by cases e) (by omega),zc _ (List.getElem?_set_self (zF h.kb)) (by omega),zc _ (zc _ h.kc (by omega)) (by omega),h.ne,h.cn,fun j x h1 h2 => zc _ (zc _ (h.rest j x h1 h2) (by have := zF h1; omega)) (by have := zF h1; omega)⟩
theorem StJ.crt (h : StJ σ C tb tc t g s S) (cs : List zfH) : StJ σ C tb tc t g { s with cs := cs } ((S.set tc (.tok 3 cs.length)).set (σ.length + 9) (.box [.box (σ.length + 4) 0, .box (σ.length + 7) 0, .box (σ.length + 1) 0, .box (σ.length + 2) 0, .own tb (zcn s.bs), .own tc (zfG cs)])) := by
 have hn := h.ne
 refine ⟨zc _ (zc _ h.cb (by omega)) (by omega),zc _ (zc _ h.xb (by omega)) (by omega),zc _ (zc _ h.yb (by omega)) (by omega),⟨zc _ (zc _ h.tab.1 (by omega)) (by omega),zc _ (zc _ h.tab.2 (by omega)) (by omega),zc _ (zc _ h.tab.3 (by omega)) (by omega)⟩,⟨zc _ (zc _ h.led.1 (by omega)) (by omega),zc _ (zc _ h.led.2 (by omega)) (by omega),zc _ (zc _ h.led.3 (by omega)) (by omega)⟩,
  List.getElem?_set_self (by have := zF h.st; simpa using this),zc _ (zc _ h.hb (by omega)) (by omega),(h.top.setN h.kc (fun _ _ _ e => by cases e) (by omega)).setN (zc _ h.st (by omega)) (fun _ _ _ e => by cases e) (by omega),zc _ (zc _ h.kb (by omega)) (by omega),zc _ (List.getElem?_set_self (zF h.kc)) (by omega),h.ne,h.cn,fun j x h1 h2 => zc _ (zc _ (h.rest j x h1 h2) (by have := zF h1; omega)) (by have := zF h1; omega)⟩
theorem StJ.exec {L : List (List UInt8)} {T : zbf} (h : StJ σ C tb tc t g s S) (hT : zbS S' (σ.length + 11) t' g' T) (hL : S'[σ.length + 1]? = some (rtO L)) (hS : ztr S S' (σ.length + 1) (σ.length + 11)) : StJ σ C tb tc t' g' { s with L := L,T := T } S' := by
 have hn := h.ne
 refine ⟨?_,hL,hS.get _ _ h.yb (by omega) (by omega) (fun _ _ _ e => by cases e),⟨hS.get _ _ h.tab.1 (by omega) (by omega) (fun _ _ _ e => by cases e),hS.get _ _ h.tab.2 (by omega) (by omega) (fun _ _ _ e => by cases e),hS.get _ _ h.tab.3 (by omega) (by omega) (fun _ _ _ e => by cases e)⟩,⟨hS.get _ _ h.led.1 (by omega) (by omega) (fun _ _ _ e => by cases e),hS.get _ _ h.led.2 (by omega) (by omega) (fun _ _ _ e => by cases e),hS.get _ _ h.led.3 (by omega) (by omega) (fun _ _ _ e => by cases e)⟩,
  hS.get _ _ h.st (by omega) (by omega) (fun _ _ _ e => by cases e),hS.get _ _ h.hb (by omega) (by omega) (fun _ _ _ e => by cases e),hT,hS.get _ _ h.kb (by omega) (by omega) (fun _ _ _ e => by cases e),hS.get _ _ h.kc (by omega) (by omega) (fun _ _ _ e => by cases e),h.ne,h.cn,fun j x h1 h2 => hS.get _ _ (h.rest j x h1 h2) (by have := zF h1; omega) (by have := zF h1; omega) h2⟩
 exact hS.get _ _ h.cb (by omega) (by omega) h.cn
end
def bt1 (n : Nat) (c : zkY) (L : List (List UInt8)) (G : List zJ) : List zg :=
 [.box (ziR c),rtO L,rlO G, .map (tabM []), .box [.own (n + 5) [], .map (n + 3)], .tok 1 0, .map (zrY []), .box [.own (n + 8) [], .map (n + 6)], .tok 2 0,
  .box [.box (n + 4) 0, .box (n + 7) 0, .box (n + 1) 0, .box (n + 2) 0, .exact [], .exact []]]
theorem bt_weak {σ : List zg} {c : zkY} (vs : List AV) : zmN vs (σ ++ [.box (ziR c), .box [.exact []], .box [.exact []], .map (tabM []), .box [.own (σ.length + 5) [], .map (σ.length + 3)], .tok 1 0, .map (zrY []), .box [.own (σ.length + 8) [], .map (σ.length + 6)], .tok 2 0,
  .box [.box (σ.length + 4) 0, .box (σ.length + 7) 0, .box (σ.length + 1) 0, .box (σ.length + 2) 0, .exact [], .exact []]]) vs (σ ++ bt1 σ.length c [] []) := by
 refine .dataB (σ.length + 1) 0 [.exact []] (.exact []) [] (by rw [zr]; rfl) rfl rfl ?_
 rw [zO]
 refine .dataB (σ.length + 2) 0 [.exact []] (.exact []) [] (by rw [zr]; rfl) rfl rfl ?_
 rw [zO]
 exact .refl _ _
structure StE (σ : List zg) (s : zds) (L : List (List UInt8)) (G : List zJ) (S : List zg) : Prop where
 xb : S[σ.length + 1]? = some (rtO s.L)
 yb : S[σ.length + 2]? = some (rlO s.G)
 tab : zcl S (σ.length + 4) (σ.length + 3) (σ.length + 5) L
 led : zdV S (σ.length + 7) (σ.length + 6) (σ.length + 8) G
 st : S[σ.length + 9]? = some (.box [.box (σ.length + 4) 0, .box (σ.length + 7) 0, .box (σ.length + 1) 0, .box (σ.length + 2) 0, .d (.slice (zcn s.bs)), .d (.slice (zfG s.cs))])
 rest : ∀ (j : Nat) (x : zg), σ[j]? = some x → (∀ g sz cs,x ≠ .row g sz cs) → S[j]? = some x
section
variable {σ S : List zg} {s : zds} {L : List (List UInt8)} {G : List zJ}
theorem StE.app (h : StE σ s L G S) (τ : List zg) : StE σ s L G (S ++ τ) :=
 ⟨zf h.xb,zf h.yb,h.tab.app τ,h.led.app τ,zf h.st,fun j x h1 h2 => zf (h.rest j x h1 h2)⟩
theorem StE.putT (h : StE σ s L G S) (L' : List (List UInt8)) : StE σ s L' G (putTab S (σ.length + 4) (σ.length + 3) (σ.length + 5) L') := by
 unfold putTab
 refine ⟨?_, ?_,⟨?_, ?_, ?_⟩,⟨?_, ?_, ?_⟩, ?_,fun j x h1 h2 => ?_⟩
 ·exact zc _ (zc _ (zc _ h.xb (by omega)) (by omega)) (by omega)
 ·exact zc _ (zc _ (zc _ h.yb (by omega)) (by omega)) (by omega)
 ·exact zc _ (List.getElem?_set_self (by have := zF h.tab.1; simpa using this)) (by omega)
 ·exact List.getElem?_set_self (by have := zF h.tab.2; simpa using this)
 ·exact zc _ (zc _ (List.getElem?_set_self (zF h.tab.3)) (by omega)) (by omega)
 ·exact zc _ (zc _ (zc _ h.led.1 (by omega)) (by omega)) (by omega)
 ·exact zc _ (zc _ (zc _ h.led.2 (by omega)) (by omega)) (by omega)
 ·exact zc _ (zc _ (zc _ h.led.3 (by omega)) (by omega)) (by omega)
 ·exact zc _ (zc _ (zc _ h.st (by omega)) (by omega)) (by omega)
 ·have := zF h1
  exact zc _ (zc _ (zc _ (h.rest j x h1 h2) (by omega)) (by omega)) (by omega)
theorem StE.putG (h : StE σ s L G S) (G' : List zJ) : StE σ s L G' (putLed S (σ.length + 7) (σ.length + 6) (σ.length + 8) G') := by
 unfold putLed
 refine ⟨?_, ?_,⟨?_, ?_, ?_⟩,⟨?_, ?_, ?_⟩, ?_,fun j x h1 h2 => ?_⟩
 ·exact zc _ (zc _ (zc _ h.xb (by omega)) (by omega)) (by omega)
 ·exact zc _ (zc _ (zc _ h.yb (by omega)) (by omega)) (by omega)
 ·exact zc _ (zc _ (zc _ h.tab.1 (by omega)) (by omega)) (by omega)
 ·exact zc _ (zc _ (zc _ h.tab.2 (by omega)) (by omega)) (by omega)
 ·exact zc _ (zc _ (zc _ h.tab.3 (by omega)) (by omega)) (by omega)
 ·exact List.getElem?_set_self (by have := zF h.led.1; simpa using this)
 ·exact zc _ (zc _ (List.getElem?_set_self (zF h.led.2)) (by omega)) (by omega)
 ·exact zc _ (List.getElem?_set_self (by have := zF h.led.3; simpa using this)) (by omega)
 ·exact zc _ (zc _ (zc _ h.st (by omega)) (by omega)) (by omega)
 ·have := zF h1
  exact zc _ (zc _ (zc _ (h.rest j x h1 h2) (by omega)) (by omega)) (by omega)
theorem StE.x (h : StE σ s L G S) (L' : List (List UInt8)) : StE σ { s with L := L' } L G (S.set (σ.length + 1) (rtO L')) := by
 refine ⟨List.getElem?_set_self (zF h.xb),zc _ h.yb (by omega),⟨zc _ h.tab.1 (by omega),zc _ h.tab.2 (by omega),zc _ h.tab.3 (by omega)⟩,⟨zc _ h.led.1 (by omega),zc _ h.led.2 (by omega),zc _ h.led.3 (by omega)⟩,zc _ h.st (by omega),fun j x h1 h2 => zc _ (h.rest j x h1 h2) (by have := zF h1; omega)⟩
theorem StE.oth {j : Nat} (h : StE σ s L G S) (hj : σ.length + 9 < j) (y : zg) : StE σ s L G (S.set j y) := by
 refine ⟨zc _ h.xb (by omega),zc _ h.yb (by omega),⟨zc _ h.tab.1 (by omega),zc _ h.tab.2 (by omega),zc _ h.tab.3 (by omega)⟩,⟨zc _ h.led.1 (by omega),zc _ h.led.2 (by omega),zc _ h.led.3 (by omega)⟩,zc _ h.st (by omega),fun j x h1 h2 => zc _ (h.rest j x h1 h2) (by have := zF h1; omega)⟩
theorem StJ.done {C : zg} {tb tc t g : Nat} (h : StJ σ C tb tc t g s S) : StE σ s [] [] ((S.set (σ.length + 9) (.box [.box (σ.length + 4) 0, .box (σ.length + 7) 0, .box (σ.length + 1) 0, .box (σ.length + 2) 0, .d (.slice (zcn s.bs)), .own tc (zfG s.cs)])).set (σ.length + 9) (.box [.box (σ.length + 4) 0, .box (σ.length + 7) 0, .box (σ.length + 1) 0, .box (σ.length + 2) 0, .d (.slice (zcn s.bs)), .d (.slice (zfG s.cs))])) := by
 rw [List.set_set]
 refine ⟨zc _ h.xb (by omega),zc _ h.yb (by omega),⟨zc _ h.tab.1 (by omega),zc _ h.tab.2 (by omega),zc _ h.tab.3 (by omega)⟩,⟨zc _ h.led.1 (by omega),zc _ h.led.2 (by omega),zc _ h.led.3 (by omega)⟩,List.getElem?_set_self (zF h.st),fun j x h1 h2 => zc _ (h.rest j x h1 h2) (by have := zF h1; omega)⟩
end
end Go.Proofs.YtncpaekiidpchaaGreat
