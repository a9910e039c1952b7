/- Contract: what chapter 23 begins with. -/
import Derived.Test.YtncpaekiidpchaaGreatKp2
import Derived.Test.YtncpaekiidpchaaGreatId2
set_option linter.all false
set_option maxRecDepth 100000
namespace Go.Proofs.YtncpaekiidpchaaGreat
open Go.AW
structure zlL where
 do_ : Int
 n : Int
 dig : Int
 rec_ : List UInt8
abbrev zpL (w : zlL) : List D := [.int .i64 w.do_, .int .i64 w.n, .int .i64 w.dig, .slice (bcs w.rec_)]
abbrev zvb (l : List zlL) : List (List D) := l.map zpL
structure zoz where
 f : Int
 bats : List (List zt)
 voters : Nat
 bad : List zS
 topic : List UInt8
 offset : Int
 twists : List zlL
abbrev zqM (l : List (List zt)) : List (List D) := l.map fun l => [.slice (zsY l)]
abbrev zjt (c : zoz) : List AV := [.d (.int .i64 c.f), .d (.slice (zqM c.bats)), .d (.int .u16 c.voters), .d (.slice (zax c.bad)), .d (.str c.topic), .d (.int .i64 c.offset), .d (.slice (zvb c.twists))]
abbrev caseA (c : zoz) : AV := .agg (zjt c)
abbrev zgh (l : List zfk) : List (List D) := l.map certD
abbrev hdrC (h : zeb) : zh := .box [.d (.int .i64 h.seq), .d (.int .i64 h.prev), .d (.int .i64 h.batch), .d (.int .i64 h.root), .d (.int .i64 h.state)]
structure StJ (σ : List zh) (C : zh) (tb tc t g : Nat) (s : zgi) (S : List zh) : Prop where
 cb : S[σ.length]? = some C
 xb : S[σ.length + 1]? = some (rtO s.L)
 yb : S[σ.length + 2]? = some (rlO s.G)
 tab : zcq S (σ.length + 4) (σ.length + 3) (σ.length + 5) []
 led : zev S (σ.length + 7) (σ.length + 6) (σ.length + 8) []
 st : S[σ.length + 9]? = some (.box [.box (σ.length + 4) 0, .box (σ.length + 7) 0, .box (σ.length + 1) 0, .box (σ.length + 2) 0, .own tb (zce s.bs), .own tc (zgh s.cs)])
 hb : S[σ.length + 10]? = some (hdrC s.h)
 top : zbY S (σ.length + 11) t g s.T
 kb : S[tb]? = some (.tok 7 s.bs.length)
 kc : S[tc]? = some (.tok 3 s.cs.length)
 ne : σ.length + 11 < tb ∧ tb < tc
 cn : ∀ g sz cs,C ≠ .row g sz cs
 rest : ∀ (j : Nat) (x : zh), σ[j]? = some x → (∀ g sz cs,x ≠ .row g sz cs) → S[j]? = some x
section
variable {σ S S' : List zh} {C : zh} {tb tc t g t' g' : Nat} {s : zgi}
theorem zd {S : List zh} {i j : Nat} {x : zh} (y : zh) (h : S[j]? = some x) (hne : i ≠ j) : (S.set i y)[j]? = some x := (List.getElem?_set_ne hne).trans h
theorem StJ.app (h : StJ σ C tb tc t g s S) (τ : List zh) : StJ σ C tb tc t g s (S ++ τ) :=
 ⟨zf h.cb,zf h.xb,zf h.yb,⟨zf h.tab.1,zf h.tab.2,zf h.tab.3⟩,⟨zf h.led.1,zf h.led.2,zf h.led.3⟩,zf h.st,zf h.hb,h.top.app τ,zf h.kb,zf h.kc,h.ne,h.cn,fun j x h1 h2 => zf (h.rest j x h1 h2)⟩
theorem StJ.x (h : StJ σ C tb tc t g s S) (L : List (List UInt8)) : StJ σ C tb tc t g { s with L := L } (S.set (σ.length + 1) (rtO L)) := by
 have hn := h.ne
 refine ⟨zd _ h.cb (by omega),List.getElem?_set_self (zH h.xb),zd _ h.yb (by omega),⟨zd _ h.tab.1 (by omega),zd _ h.tab.2 (by omega),zd _ h.tab.3 (by omega)⟩,⟨zd _ h.led.1 (by omega),zd _ h.led.2 (by omega),zd _ h.led.3 (by omega)⟩,
  zd _ h.st (by omega),zd _ h.hb (by omega),h.top.setN h.xb (fun _ _ _ e => by cases e) (by omega),zd _ h.kb (by omega),zd _ h.kc (by omega),h.ne,h.cn,fun j x h1 h2 => zd _ (h.rest j x h1 h2) (by have := zH h1; omega)⟩
theorem StJ.y (h : StJ σ C tb tc t g s S) (G : List zS) : StJ σ C tb tc t g { s with G := G } (S.set (σ.length + 2) (rlO G)) := by
 have hn := h.ne
 refine ⟨zd _ h.cb (by omega),zd _ h.xb (by omega),List.getElem?_set_self (zH h.yb),⟨zd _ h.tab.1 (by omega),zd _ h.tab.2 (by omega),zd _ h.tab.3 (by omega)⟩,⟨zd _ h.led.1 (by omega),zd _ h.led.2 (by omega),zd _ h.led.3 (by omega)⟩,
  zd _ h.st (by omega),zd _ h.hb (by omega),h.top.setN h.yb (fun _ _ _ e => by cases e) (by omega),zd _ h.kb (by omega),zd _ h.kc (by omega),h.ne,h.cn,fun j x h1 h2 => zd _ (h.rest j x h1 h2) (by have := zH h1; omega)⟩
theorem StJ.hdr (h : StJ σ C tb tc t g s S) (k : zeb) : StJ σ C tb tc t g { s with h := k } (S.set (σ.length + 10) (hdrC k)) := by
 have hn := h.ne
 refine ⟨zd _ h.cb (by omega),zd _ h.xb (by omega),zd _ h.yb (by omega),⟨zd _ h.tab.1 (by omega),zd _ h.tab.2 (by omega),zd _ h.tab.3 (by omega)⟩,⟨zd _ h.led.1 (by omega),zd _ h.led.2 (by omega),zd _ h.led.3 (by omega)⟩,
  zd _ h.st (by omega),List.getElem?_set_self (zH h.hb),h.top.setN h.hb (fun _ _ _ e => by cases e) (by omega),zd _ h.kb (by omega),zd _ h.kc (by omega),h.ne,h.cn,fun j x h1 h2 => zd _ (h.rest j x h1 h2) (by have := zH h1; omega)⟩
theorem StJ.oth {j : Nat} {x : zh} (h : StJ σ C tb tc t g s S) (hj : S[j]? = some x) (hr : ∀ g sz cs,x ≠ .row g sz cs) (h1 : σ.length + 11 < j) (h2 : j ≠ tb) (h3 : j ≠ tc) (y : zh) : StJ σ C tb tc t g s (S.set j y) := by
 refine ⟨zd _ h.cb (by omega),zd _ h.xb (by omega),zd _ h.yb (by omega),⟨zd _ h.tab.1 (by omega),zd _ h.tab.2 (by omega),zd _ h.tab.3 (by omega)⟩,⟨zd _ h.led.1 (by omega),zd _ h.led.2 (by omega),zd _ h.led.3 (by omega)⟩,
  zd _ h.st (by omega),zd _ h.hb (by omega),h.top.setN hj hr (by omega),zd _ h.kb (by omega),zd _ h.kc (by omega),h.ne,h.cn,fun j x h1 h2 => zd _ (h.rest j x h1 h2) (by have := zH h1; omega)⟩
theorem StJ.blk (h : StJ σ C tb tc t g s S) (bs : List zdT) : StJ σ C tb tc t g { s with bs := bs } ((S.set tb (.tok 7 bs.length)).set (σ.length + 9) (.box [.box (σ.length + 4) 0, .box (σ.length + 7) 0, .box (σ.length + 1) 0, .box (σ.length + 2) 0, .own tb (zce bs), .own tc (zgh s.cs)])) := by
 have hn := h.ne
 refine ⟨zd _ (zd _ h.cb (by omega)) (by omega),zd _ (zd _ h.xb (by omega)) (by omega),zd _ (zd _ h.yb (by omega)) (by omega),⟨zd _ (zd _ h.tab.1 (by omega)) (by omega),zd _ (zd _ h.tab.2 (by omega)) (by omega),zd _ (zd _ h.tab.3 (by omega)) (by omega)⟩,⟨zd _ (zd _ h.led.1 (by omega)) (by omega),zd _ (zd _ h.led.2 (by omega)) (by omega),zd _ (zd _ h.led.3 (by omega)) (by omega)⟩,
  List.getElem?_set_self (by have := zH h.st; simpa using this),zd _ (zd _ h.hb (by omega)) (by omega),(h.top.setN h.kb (fun _ _ _ e => by cases e) (by omega)).setN (zd _ h.st (by omega)) (fun _ _ _ e => by cases e) (by omega),zd _ (List.getElem?_set_self (zH h.kb)) (by omega),zd _ (zd _ h.kc (by omega)) (by omega),h.ne,h.cn,fun j x h1 h2 => zd _ (zd _ (h.rest j x h1 h2) (by have := zH h1; omega)) (by have := zH h1; omega)⟩
theorem StJ.crt (h : StJ σ C tb tc t g s S) (cs : List zfk) : StJ σ C tb tc t g { s with cs := cs } ((S.set tc (.tok 3 cs.length)).set (σ.length + 9) (.box [.box (σ.length + 4) 0, .box (σ.length + 7) 0, .box (σ.length + 1) 0, .box (σ.length + 2) 0, .own tb (zce s.bs), .own tc (zgh cs)])) := by
 have hn := h.ne
 refine ⟨zd _ (zd _ h.cb (by omega)) (by omega),zd _ (zd _ h.xb (by omega)) (by omega),zd _ (zd _ h.yb (by omega)) (by omega),⟨zd _ (zd _ h.tab.1 (by omega)) (by omega),zd _ (zd _ h.tab.2 (by omega)) (by omega),zd _ (zd _ h.tab.3 (by omega)) (by omega)⟩,⟨zd _ (zd _ h.led.1 (by omega)) (by omega),zd _ (zd _ h.led.2 (by omega)) (by omega),zd _ (zd _ h.led.3 (by omega)) (by omega)⟩,
  List.getElem?_set_self (by have := zH h.st; simpa using this),zd _ (zd _ h.hb (by omega)) (by omega),(h.top.setN h.kc (fun _ _ _ e => by cases e) (by omega)).setN (zd _ h.st (by omega)) (fun _ _ _ e => by cases e) (by omega),zd _ (zd _ h.kb (by omega)) (by omega),zd _ (List.getElem?_set_self (zH h.kc)) (by omega),h.ne,h.cn,fun j x h1 h2 => zd _ (zd _ (h.rest j x h1 h2) (by have := zH h1; omega)) (by have := zH h1; omega)⟩
theorem StJ.exec {L : List (List UInt8)} {T : zch} (h : StJ σ C tb tc t g s S) (hT : zbY S' (σ.length + 11) t' g' T) (hL : S'[σ.length + 1]? = some (rtO L)) (hS : zuG S S' (σ.length + 1) (σ.length + 11)) : StJ σ C tb tc t' g' { s with L := L,T := T } S' := by
 have hn := h.ne
 refine ⟨?_,hL,hS.get _ _ h.yb (by omega) (by omega) (fun _ _ _ e => by cases e),⟨hS.get _ _ h.tab.1 (by omega) (by omega) (fun _ _ _ e => by cases e),hS.get _ _ h.tab.2 (by omega) (by omega) (fun _ _ _ e => by cases e),hS.get _ _ h.tab.3 (by omega) (by omega) (fun _ _ _ e => by cases e)⟩,⟨hS.get _ _ h.led.1 (by omega) (by omega) (fun _ _ _ e => by cases e),hS.get _ _ h.led.2 (by omega) (by omega) (fun _ _ _ e => by cases e),hS.get _ _ h.led.3 (by omega) (by omega) (fun _ _ _ e => by cases e)⟩,
  hS.get _ _ h.st (by omega) (by omega) (fun _ _ _ e => by cases e),hS.get _ _ h.hb (by omega) (by omega) (fun _ _ _ e => by cases e),hT,hS.get _ _ h.kb (by omega) (by omega) (fun _ _ _ e => by cases e),hS.get _ _ h.kc (by omega) (by omega) (fun _ _ _ e => by cases e),h.ne,h.cn,fun j x h1 h2 => hS.get _ _ (h.rest j x h1 h2) (by have := zH h1; omega) (by have := zH h1; omega) h2⟩
 exact hS.get _ _ h.cb (by omega) (by omega) h.cn
end
def bt1 (n : Nat) (c : zoz) (L : List (List UInt8)) (G : List zS) : List zh :=
 [.box (zjt c),rtO L,rlO G, .map (tabM []), .box [.own (n + 5) [], .map (n + 3)], .tok 1 0, .map (zte []), .box [.own (n + 8) [], .map (n + 6)], .tok 2 0,
  .box [.box (n + 4) 0, .box (n + 7) 0, .box (n + 1) 0, .box (n + 2) 0, .exact [], .exact []]]
theorem bt_weak {σ : List zh} {c : zoz} (vs : List AV) : zmS vs (σ ++ [.box (zjt c), .box [.exact []], .box [.exact []], .map (tabM []), .box [.own (σ.length + 5) [], .map (σ.length + 3)], .tok 1 0, .map (zte []), .box [.own (σ.length + 8) [], .map (σ.length + 6)], .tok 2 0,
  .box [.box (σ.length + 4) 0, .box (σ.length + 7) 0, .box (σ.length + 1) 0, .box (σ.length + 2) 0, .exact [], .exact []]]) vs (σ ++ bt1 σ.length c [] []) := by
 refine .dataB (σ.length + 1) 0 [.exact []] (.exact []) [] (by rw [zq]; rfl) rfl rfl ?_
 rw [zO]
 refine .dataB (σ.length + 2) 0 [.exact []] (.exact []) [] (by rw [zq]; rfl) rfl rfl ?_
 rw [zO]
 exact .refl _ _
structure StE (σ : List zh) (s : zgi) (L : List (List UInt8)) (G : List zS) (S : List zh) : Prop where
 xb : S[σ.length + 1]? = some (rtO s.L)
 yb : S[σ.length + 2]? = some (rlO s.G)
 tab : zcq S (σ.length + 4) (σ.length + 3) (σ.length + 5) L
 led : zev S (σ.length + 7) (σ.length + 6) (σ.length + 8) G
 st : S[σ.length + 9]? = some (.box [.box (σ.length + 4) 0, .box (σ.length + 7) 0, .box (σ.length + 1) 0, .box (σ.length + 2) 0, .d (.slice (zce s.bs)), .d (.slice (zgh s.cs))])
 rest : ∀ (j : Nat) (x : zh), σ[j]? = some x → (∀ g sz cs,x ≠ .row g sz cs) → S[j]? = some x
section
variable {σ S : List zh} {s : zgi} {L : List (List UInt8)} {G : List zS}
theorem StE.app (h : StE σ s L G S) (τ : List zh) : StE σ s L G (S ++ τ) :=
 ⟨zf h.xb,zf h.yb,h.tab.app τ,h.led.app τ,zf h.st,fun j x h1 h2 => zf (h.rest j x h1 h2)⟩
theorem StE.putT (h : StE σ s L G S) (L' : List (List UInt8)) : StE σ s L' G (putTab S (σ.length + 4) (σ.length + 3) (σ.length + 5) L') := by
 unfold putTab
 refine ⟨?_, ?_,⟨?_, ?_, ?_⟩,⟨?_, ?_, ?_⟩, ?_,fun j x h1 h2 => ?_⟩
 ·exact zd _ (zd _ (zd _ h.xb (by omega)) (by omega)) (by omega)
 ·exact zd _ (zd _ (zd _ h.yb (by omega)) (by omega)) (by omega)
 ·exact zd _ (List.getElem?_set_self (by have := zH h.tab.1; simpa using this)) (by omega)
 ·exact List.getElem?_set_self (by have := zH h.tab.2; simpa using this)
 ·exact zd _ (zd _ (List.getElem?_set_self (zH h.tab.3)) (by omega)) (by omega)
 ·exact zd _ (zd _ (zd _ h.led.1 (by omega)) (by omega)) (by omega)
 ·exact zd _ (zd _ (zd _ h.led.2 (by omega)) (by omega)) (by omega)
 ·exact zd _ (zd _ (zd _ h.led.3 (by omega)) (by omega)) (by omega)
 ·exact zd _ (zd _ (zd _ h.st (by omega)) (by omega)) (by omega)
 ·have := zH h1
  exact zd _ (zd _ (zd _ (h.rest j x h1 h2) (by omega)) (by omega)) (by omega)
theorem StE.putG (h : StE σ s L G S) (G' : List zS) : StE σ s L G' (putLed S (σ.length + 7) (σ.length + 6) (σ.length + 8) G') := by
 unfold putLed
 refine ⟨?_, ?_,⟨?_, ?_, ?_⟩,⟨?_, ?_, ?_⟩, ?_,fun j x h1 h2 => ?_⟩
 ·exact zd _ (zd _ (zd _ h.xb (by omega)) (by omega)) (by omega)
 ·exact zd _ (zd _ (zd _ h.yb (by omega)) (by omega)) (by omega)
 ·exact zd _ (zd _ (zd _ h.tab.1 (by omega)) (by omega)) (by omega)
 ·exact zd _ (zd _ (zd _ h.tab.2 (by omega)) (by omega)) (by omega)
 ·exact zd _ (zd _ (zd _ h.tab.3 (by omega)) (by omega)) (by omega)
 ·exact List.getElem?_set_self (by have := zH h.led.1; simpa using this)
 ·exact zd _ (zd _ (List.getElem?_set_self (zH h.led.2)) (by omega)) (by omega)
 ·exact zd _ (List.getElem?_set_self (by have := zH h.led.3; simpa using this)) (by omega)
 ·exact zd _ (zd _ (zd _ h.st (by omega)) (by omega)) (by omega)
 ·have := zH h1
  exact zd _ (zd _ (zd _ (h.rest j x h1 h2) (by omega)) (by omega)) (by omega)
theorem StE.x (h : StE σ s L G S) (L' : List (List UInt8)) : StE σ { s with L := L' } L G (S.set (σ.length + 1) (rtO L')) := by
 refine ⟨List.getElem?_set_self (zH h.xb),zd _ h.yb (by omega),⟨zd _ h.tab.1 (by omega),zd _ h.tab.2 (by omega),zd _ h.tab.3 (by omega)⟩,⟨zd _ h.led.1 (by omega),zd _ h.led.2 (by omega),zd _ h.led.3 (by omega)⟩,zd _ h.st (by omega),fun j x h1 h2 => zd _ (h.rest j x h1 h2) (by have := zH h1; omega)⟩
theorem StE.oth {j : Nat} (h : StE σ s L G S) (hj : σ.length + 9 < j) (y : zh) : StE σ s L G (S.set j y) := by
 refine ⟨zd _ h.xb (by omega),zd _ h.yb (by omega),⟨zd _ h.tab.1 (by omega),zd _ h.tab.2 (by omega),zd _ h.tab.3 (by omega)⟩,⟨zd _ h.led.1 (by omega),zd _ h.led.2 (by omega),zd _ h.led.3 (by omega)⟩,zd _ h.st (by omega),fun j x h1 h2 => zd _ (h.rest j x h1 h2) (by have := zH h1; omega)⟩
theorem StJ.done {C : zh} {tb tc t g : Nat} (h : StJ σ C tb tc t g s S) : StE σ s [] [] ((S.set (σ.length + 9) (.box [.box (σ.length + 4) 0, .box (σ.length + 7) 0, .box (σ.length + 1) 0, .box (σ.length + 2) 0, .d (.slice (zce s.bs)), .own tc (zgh s.cs)])).set (σ.length + 9) (.box [.box (σ.length + 4) 0, .box (σ.length + 7) 0, .box (σ.length + 1) 0, .box (σ.length + 2) 0, .d (.slice (zce s.bs)), .d (.slice (zgh s.cs))])) := by
 rw [List.set_set]
 refine ⟨zd _ h.xb (by omega),zd _ h.yb (by omega),⟨zd _ h.tab.1 (by omega),zd _ h.tab.2 (by omega),zd _ h.tab.3 (by omega)⟩,⟨zd _ h.led.1 (by omega),zd _ h.led.2 (by omega),zd _ h.led.3 (by omega)⟩,List.getElem?_set_self (zH h.st),fun j x h1 h2 => zd _ (h.rest j x h1 h2) (by have := zH h1; omega)⟩
end
end Go.Proofs.YtncpaekiidpchaaGreat
