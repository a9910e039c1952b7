/- Contract: what chapter 23 begins with. -/
import Derived.Test.YtfjommppajkpoaaGreatKp2
import Derived.Test.YtfjommppajkpoaaGreatId3
set_option linter.all false
set_option maxRecDepth 100000
namespace Go.Proofs.YtfjommppajkpoaaGreat
open Go.AW
structure zmk where
 do_ : Int
 n : Int
 dig : Int
 rec_ : List UInt8
abbrev twistD (w : zmk) : List D := [.int .i64 w.do_, .int .i64 w.n, .int .i64 w.dig, .slice (bcs w.rec_)]
abbrev twistsE (l : List zmk) : List (List D) := l.map twistD
structure zsa where
 f : Int
 bats : List (List zr)
 voters : Nat
 bad : List zI
 topic : List UInt8
 offset : Int
 twists : List zmk
abbrev zrT (l : List (List zr)) : List (List D) := l.map fun l => [.slice (reqsE l)]
abbrev zkf (c : zsa) : List AV := [.d (.int .i64 c.f), .d (.slice (zrT c.bats)), .d (.int .u16 c.voters), .d (.slice (zas c.bad)), .d (.str c.topic), .d (.int .i64 c.offset), .d (.slice (twistsE c.twists))]
abbrev caseA (c : zsa) : AV := .agg (zkf c)
abbrev zgy (l : List zfV) : List (List D) := l.map certD
abbrev hdrC (h : zdW) : zg := .box [.d (.int .i64 h.seq), .d (.int .i64 h.prev), .d (.int .i64 h.batch), .d (.int .i64 h.root), .d (.int .i64 h.state)]
structure StJ (σ : List zg) (C : zg) (tb tc t g : Nat) (s : zfU) (S : List zg) : Prop where
 cb : S[σ.length]? = some C
 xb : S[σ.length + 1]? = some (rtO s.L)
 yb : S[σ.length + 2]? = some (rlO s.G)
 tab : zcd S (σ.length + 4) (σ.length + 3) (σ.length + 5) []
 led : zea S (σ.length + 7) (σ.length + 6) (σ.length + 8) []
 st : S[σ.length + 9]? = some (.box [.box (σ.length + 4) 0, .box (σ.length + 7) 0, .box (σ.length + 1) 0, .box (σ.length + 2) 0, .own tb (zcC s.bs), .own tc (zgy s.cs)])
 hb : S[σ.length + 10]? = some (hdrC s.h)
 top : zbH S (σ.length + 11) t g s.T
 kb : S[tb]? = some (.tok 7 s.bs.length)
 kc : S[tc]? = some (.tok 3 s.cs.length)
 ne : σ.length + 11 < tb ∧ tb < tc
 cn : ∀ g sz cs,C ≠ .row g sz cs
 rest : ∀ (j : Nat) (x : zg), σ[j]? = some x → (∀ g sz cs,x ≠ .row g sz cs) → S[j]? = some x
section
variable {σ S S' : List zg} {C : zg} {tb tc t g t' g' : Nat} {s : zfU}
theorem zd {S : List zg} {i j : Nat} {x : zg} (y : zg) (h : S[j]? = some x) (hne : i ≠ j) : (S.set i y)[j]? = some x := (List.getElem?_set_ne hne).trans h
theorem StJ.app (h : StJ σ C tb tc t g s S) (τ : List zg) : StJ σ C tb tc t g s (S ++ τ) :=
 ⟨zf h.cb,zf h.xb,zf h.yb,⟨zf h.tab.1,zf h.tab.2,zf h.tab.3⟩,⟨zf h.led.1,zf h.led.2,zf h.led.3⟩,zf h.st,zf h.hb,h.top.app τ,zf h.kb,zf h.kc,h.ne,h.cn,fun j x h1 h2 => zf (h.rest j x h1 h2)⟩
theorem StJ.x (h : StJ σ C tb tc t g s S) (L : List (List UInt8)) : StJ σ C tb tc t g { s with L := L } (S.set (σ.length + 1) (rtO L)) := by
 have hn := h.ne
 refine ⟨zd _ h.cb (by omega),List.getElem?_set_self (zA h.xb),zd _ h.yb (by omega),⟨zd _ h.tab.1 (by omega),zd _ h.tab.2 (by omega),zd _ h.tab.3 (by omega)⟩,⟨zd _ h.led.1 (by omega),zd _ h.led.2 (by omega),zd _ h.led.3 (by omega)⟩,
  zd _ h.st (by omega),zd _ h.hb (by omega),h.top.setN h.xb (fun _ _ _ e => by cases e) (by omega),zd _ h.kb (by omega),zd _ h.kc (by omega),h.ne,h.cn,fun j x h1 h2 => zd _ (h.rest j x h1 h2) (by have := zA h1; omega)⟩
theorem StJ.y (h : StJ σ C tb tc t g s S) (G : List zI) : StJ σ C tb tc t g { s with G := G } (S.set (σ.length + 2) (rlO G)) := by
 have hn := h.ne
 refine ⟨zd _ h.cb (by omega),zd _ h.xb (by omega),List.getElem?_set_self (zA h.yb),⟨zd _ h.tab.1 (by omega),zd _ h.tab.2 (by omega),zd _ h.tab.3 (by omega)⟩,⟨zd _ h.led.1 (by omega),zd _ h.led.2 (by omega),zd _ h.led.3 (by omega)⟩,
  zd _ h.st (by omega),zd _ h.hb (by omega),h.top.setN h.yb (fun _ _ _ e => by cases e) (by omega),zd _ h.kb (by omega),zd _ h.kc (by omega),h.ne,h.cn,fun j x h1 h2 => zd _ (h.rest j x h1 h2) (by have := zA h1; omega)⟩
theorem StJ.hdr (h : StJ σ C tb tc t g s S) (k : zdW) : StJ σ C tb tc t g { s with h := k } (S.set (σ.length + 10) (hdrC k)) := by
 have hn := h.ne
 refine ⟨zd _ h.cb (by omega),zd _ h.xb (by omega),zd _ h.yb (by omega),⟨zd _ h.tab.1 (by omega),zd _ h.tab.2 (by omega),zd _ h.tab.3 (by omega)⟩,⟨zd _ h.led.1 (by omega),zd _ h.led.2 (by omega),zd _ h.led.3 (by omega)⟩,
  zd _ h.st (by omega),List.getElem?_set_self (zA h.hb),h.top.setN h.hb (fun _ _ _ e => by cases e) (by omega),zd _ h.kb (by omega),zd _ h.kc (by omega),h.ne,h.cn,fun j x h1 h2 => zd _ (h.rest j x h1 h2) (by have := zA h1; omega)⟩
theorem StJ.oth {j : Nat} {x : zg} (h : StJ σ C tb tc t g s S) (hj : S[j]? = some x) (hr : ∀ g sz cs,x ≠ .row g sz cs) (h1 : σ.length + 11 < j) (h2 : j ≠ tb) (h3 : j ≠ tc) (y : zg) : StJ σ C tb tc t g s (S.set j y) := by
 refine ⟨zd _ h.cb (by omega),zd _ h.xb (by omega),zd _ h.yb (by omega),⟨zd _ h.tab.1 (by omega),zd _ h.tab.2 (by omega),zd _ h.tab.3 (by omega)⟩,⟨zd _ h.led.1 (by omega),zd _ h.led.2 (by omega),zd _ h.led.3 (by omega)⟩,
  zd _ h.st (by omega),zd _ h.hb (by omega),h.top.setN hj hr (by omega),zd _ h.kb (by omega),zd _ h.kc (by omega),h.ne,h.cn,fun j x h1 h2 => zd _ (h.rest j x h1 h2) (by have := zA h1; omega)⟩
theorem StJ.blk (h : StJ σ C tb tc t g s S) (bs : List zfi) : StJ σ C tb tc t g { s with bs := bs } ((S.set tb (.tok 7 bs.length)).set (σ.length + 9) (.box [.box (σ.length + 4) 0, .box (σ.length + 7) 0, .box (σ.length + 1) 0, .box (σ.length + 2) 0, .own tb (zcC bs), .own tc (zgy s.cs)])) := by
 have hn := h.ne
 refine ⟨zd _ (zd _ h.cb (by omega)) (by omega),zd _ (zd _ h.xb (by omega)) (by omega),zd _ (zd _ h.yb (by omega)) (by omega),⟨zd _ (zd _ h.tab.1 (by omega)) (by omega),zd _ (zd _ h.tab.2 (by omega)) (by omega),zd _ (zd _ h.tab.3 (by omega)) (by omega)⟩,⟨zd _ (zd _ h.led.1 (by omega)) (by omega),zd _ (zd _ h.led.2 (by omega)) (by omega),zd _ (zd _ h.led.3 (by omega)) (by omega)⟩,
  List.getElem?_set_self (by have := zA h.st; simpa using this),zd _ (zd _ h.hb (by omega)) (by omega),(h.top.setN h.kb (fun _ _ _ e => by cases e) (by omega)).setN (zd _ h.st (by omega)) (fun _ _ _ e => by cases e) (by omega),zd _ (List.getElem?_set_self (zA h.kb)) (by omega),zd _ (zd _ h.kc (by omega)) (by omega),h.ne,h.cn,fun j x h1 h2 => zd _ (zd _ (h.rest j x h1 h2) (by have := zA h1; omega)) (by have := zA h1; omega)⟩
theorem StJ.crt (h : StJ σ C tb tc t g s S) (cs : List zfV) : StJ σ C tb tc t g { s with cs := cs } ((S.set tc (.tok 3 cs.length)).set (σ.length + 9) (.box [.box (σ.length + 4) 0, .box (σ.length + 7) 0, .box (σ.length + 1) 0, .box (σ.length + 2) 0, .own tb (zcC s.bs), .own tc (zgy cs)])) := by
 have hn := h.ne
 refine ⟨zd _ (zd _ h.cb (by omega)) (by omega),zd _ (zd _ h.xb (by omega)) (by omega),zd _ (zd _ h.yb (by omega)) (by omega),⟨zd _ (zd _ h.tab.1 (by omega)) (by omega),zd _ (zd _ h.tab.2 (by omega)) (by omega),zd _ (zd _ h.tab.3 (by omega)) (by omega)⟩,⟨zd _ (zd _ h.led.1 (by omega)) (by omega),zd _ (zd _ h.led.2 (by omega)) (by omega),zd _ (zd _ h.led.3 (by omega)) (by omega)⟩,
  List.getElem?_set_self (by have := zA h.st; simpa using this),zd _ (zd _ h.hb (by omega)) (by omega),(h.top.setN h.kc (fun _ _ _ e => by cases e) (by omega)).setN (zd _ h.st (by omega)) (fun _ _ _ e => by cases e) (by omega),zd _ (zd _ h.kb (by omega)) (by omega),zd _ (List.getElem?_set_self (zA h.kc)) (by omega),h.ne,h.cn,fun j x h1 h2 => zd _ (zd _ (h.rest j x h1 h2) (by have := zA h1; omega)) (by have := zA h1; omega)⟩
theorem StJ.exec {L : List (List UInt8)} {T : zcb} (h : StJ σ C tb tc t g s S) (hT : zbH S' (σ.length + 11) t' g' T) (hL : S'[σ.length + 1]? = some (rtO L)) (hS : ztV S S' (σ.length + 1) (σ.length + 11)) : StJ σ C tb tc t' g' { s with L := L,T := T } S' := by
 have hn := h.ne
 refine ⟨?_,hL,hS.get _ _ h.yb (by omega) (by omega) (fun _ _ _ e => by cases e),⟨hS.get _ _ h.tab.1 (by omega) (by omega) (fun _ _ _ e => by cases e),hS.get _ _ h.tab.2 (by omega) (by omega) (fun _ _ _ e => by cases e),hS.get _ _ h.tab.3 (by omega) (by omega) (fun _ _ _ e => by cases e)⟩,⟨hS.get _ _ h.led.1 (by omega) (by omega) (fun _ _ _ e => by cases e),hS.get _ _ h.led.2 (by omega) (by omega) (fun _ _ _ e => by cases e),hS.get _ _ h.led.3 (by omega) (by omega) (fun _ _ _ e => by cases e)⟩,
  hS.get _ _ h.st (by omega) (by omega) (fun _ _ _ e => by cases e),hS.get _ _ h.hb (by omega) (by omega) (fun _ _ _ e => by cases e),hT,hS.get _ _ h.kb (by omega) (by omega) (fun _ _ _ e => by cases e),hS.get _ _ h.kc (by omega) (by omega) (fun _ _ _ e => by cases e),h.ne,h.cn,fun j x h1 h2 => hS.get _ _ (h.rest j x h1 h2) (by have := zA h1; omega) (by have := zA h1; omega) h2⟩
 exact hS.get _ _ h.cb (by omega) (by omega) h.cn
end
def bt1 (n : Nat) (c : zsa) (L : List (List UInt8)) (G : List zI) : List zg :=
 [.box (zkf c),rtO L,rlO G, .map (tabM []), .box [.own (n + 5) [], .map (n + 3)], .tok 1 0, .map (zsw []), .box [.own (n + 8) [], .map (n + 6)], .tok 2 0,
  .box [.box (n + 4) 0, .box (n + 7) 0, .box (n + 1) 0, .box (n + 2) 0, .exact [], .exact []]]
theorem bt_weak {σ : List zg} {c : zsa} (vs : List AV) : znb vs (σ ++ [.box (zkf c), .box [.exact []], .box [.exact []], .map (tabM []), .box [.own (σ.length + 5) [], .map (σ.length + 3)], .tok 1 0, .map (zsw []), .box [.own (σ.length + 8) [], .map (σ.length + 6)], .tok 2 0,
  .box [.box (σ.length + 4) 0, .box (σ.length + 7) 0, .box (σ.length + 1) 0, .box (σ.length + 2) 0, .exact [], .exact []]]) vs (σ ++ bt1 σ.length c [] []) := by
 refine .dataB (σ.length + 1) 0 [.exact []] (.exact []) [] (by rw [zh]; rfl) rfl rfl ?_
 rw [zT]
 refine .dataB (σ.length + 2) 0 [.exact []] (.exact []) [] (by rw [zh]; rfl) rfl rfl ?_
 rw [zT]
 exact .refl _ _
structure StE (σ : List zg) (s : zfU) (L : List (List UInt8)) (G : List zI) (S : List zg) : Prop where
 xb : S[σ.length + 1]? = some (rtO s.L)
 yb : S[σ.length + 2]? = some (rlO s.G)
 tab : zcd S (σ.length + 4) (σ.length + 3) (σ.length + 5) L
 led : zea S (σ.length + 7) (σ.length + 6) (σ.length + 8) G
 st : S[σ.length + 9]? = some (.box [.box (σ.length + 4) 0, .box (σ.length + 7) 0, .box (σ.length + 1) 0, .box (σ.length + 2) 0, .d (.slice (zcC s.bs)), .d (.slice (zgy s.cs))])
 rest : ∀ (j : Nat) (x : zg), σ[j]? = some x → (∀ g sz cs,x ≠ .row g sz cs) → S[j]? = some x
section
variable {σ S : List zg} {s : zfU} {L : List (List UInt8)} {G : List zI}
theorem StE.app (h : StE σ s L G S) (τ : List zg) : StE σ s L G (S ++ τ) :=
 ⟨zf h.xb,zf h.yb,h.tab.app τ,h.led.app τ,zf h.st,fun j x h1 h2 => zf (h.rest j x h1 h2)⟩
theorem StE.putT (h : StE σ s L G S) (L' : List (List UInt8)) : StE σ s L' G (putTab S (σ.length + 4) (σ.length + 3) (σ.length + 5) L') := by
 unfold putTab
 refine ⟨?_, ?_,⟨?_, ?_, ?_⟩,⟨?_, ?_, ?_⟩, ?_,fun j x h1 h2 => ?_⟩
 ·exact zd _ (zd _ (zd _ h.xb (by omega)) (by omega)) (by omega)
 ·exact zd _ (zd _ (zd _ h.yb (by omega)) (by omega)) (by omega)
 ·exact zd _ (List.getElem?_set_self (by have := zA h.tab.1; simpa using this)) (by omega)
 ·exact List.getElem?_set_self (by have := zA h.tab.2; simpa using this)
 ·exact zd _ (zd _ (List.getElem?_set_self (zA h.tab.3)) (by omega)) (by omega)
 ·exact zd _ (zd _ (zd _ h.led.1 (by omega)) (by omega)) (by omega)
 ·exact zd _ (zd _ (zd _ h.led.2 (by omega)) (by omega)) (by omega)
 ·exact zd _ (zd _ (zd _ h.led.3 (by omega)) (by omega)) (by omega)
 ·exact zd _ (zd _ (zd _ h.st (by omega)) (by omega)) (by omega)
 ·have := zA h1
  exact zd _ (zd _ (zd _ (h.rest j x h1 h2) (by omega)) (by omega)) (by omega)
theorem StE.putG (h : StE σ s L G S) (G' : List zI) : StE σ s L G' (putLed S (σ.length + 7) (σ.length + 6) (σ.length + 8) G') := by
 unfold putLed
 refine ⟨?_, ?_,⟨?_, ?_, ?_⟩,⟨?_, ?_, ?_⟩, ?_,fun j x h1 h2 => ?_⟩
 ·exact zd _ (zd _ (zd _ h.xb (by omega)) (by omega)) (by omega)
 ·exact zd _ (zd _ (zd _ h.yb (by omega)) (by omega)) (by omega)
 ·exact zd _ (zd _ (zd _ h.tab.1 (by omega)) (by omega)) (by omega)
 ·exact zd _ (zd _ (zd _ h.tab.2 (by omega)) (by omega)) (by omega)
 ·exact zd _ (zd _ (zd _ h.tab.3 (by omega)) (by omega)) (by omega)
 ·exact List.getElem?_set_self (by have := zA h.led.1; simpa using this)
 ·exact zd _ (zd _ (List.getElem?_set_self (zA h.led.2)) (by omega)) (by omega)
 ·exact zd _ (List.getElem?_set_self (by have := zA h.led.3; simpa using this)) (by omega)
 ·exact zd _ (zd _ (zd _ h.st (by omega)) (by omega)) (by omega)
 ·have := zA h1
  exact zd _ (zd _ (zd _ (h.rest j x h1 h2) (by omega)) (by omega)) (by omega)
theorem StE.x (h : StE σ s L G S) (L' : List (List UInt8)) : StE σ { s with L := L' } L G (S.set (σ.length + 1) (rtO L')) := by
 refine ⟨List.getElem?_set_self (zA h.xb),zd _ h.yb (by omega),⟨zd _ h.tab.1 (by omega),zd _ h.tab.2 (by omega),zd _ h.tab.3 (by omega)⟩,⟨zd _ h.led.1 (by omega),zd _ h.led.2 (by omega),zd _ h.led.3 (by omega)⟩,zd _ h.st (by omega),fun j x h1 h2 => zd _ (h.rest j x h1 h2) (by have := zA h1; omega)⟩
theorem StE.oth {j : Nat} (h : StE σ s L G S) (hj : σ.length + 9 < j) (y : zg) : StE σ s L G (S.set j y) := by
 refine ⟨zd _ h.xb (by omega),zd _ h.yb (by omega),⟨zd _ h.tab.1 (by omega),zd _ h.tab.2 (by omega),zd _ h.tab.3 (by omega)⟩,⟨zd _ h.led.1 (by omega),zd _ h.led.2 (by omega),zd _ h.led.3 (by omega)⟩,zd _ h.st (by omega),fun j x h1 h2 => zd _ (h.rest j x h1 h2) (by have := zA h1; omega)⟩
theorem StJ.done {C : zg} {tb tc t g : Nat} (h : StJ σ C tb tc t g s S) : StE σ s [] [] ((S.set (σ.length + 9) (.box [.box (σ.length + 4) 0, .box (σ.length + 7) 0, .box (σ.length + 1) 0, .box (σ.length + 2) 0, .d (.slice (zcC s.bs)), .own tc (zgy s.cs)])).set (σ.length + 9) (.box [.box (σ.length + 4) 0, .box (σ.length + 7) 0, .box (σ.length + 1) 0, .box (σ.length + 2) 0, .d (.slice (zcC s.bs)), .d (.slice (zgy s.cs))])) := by
 rw [List.set_set]
 refine ⟨zd _ h.xb (by omega),zd _ h.yb (by omega),⟨zd _ h.tab.1 (by omega),zd _ h.tab.2 (by omega),zd _ h.tab.3 (by omega)⟩,⟨zd _ h.led.1 (by omega),zd _ h.led.2 (by omega),zd _ h.led.3 (by omega)⟩,List.getElem?_set_self (zA h.st),fun j x h1 h2 => zd _ (h.rest j x h1 h2) (by have := zA h1; omega)⟩
end
end Go.Proofs.YtfjommppajkpoaaGreat
