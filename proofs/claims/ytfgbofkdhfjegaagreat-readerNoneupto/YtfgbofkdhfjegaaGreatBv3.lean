/- Contract: what chapter 25 begins with: what lies where. -/
import Derived.Test.YtfgbofkdhfjegaaGreatBv1
set_option linter.all false
set_option maxRecDepth 100000
namespace Go.Proofs.YtfgbofkdhfjegaaGreat
open Go.AW
structure WJ (σ : List zh) (C : zh) (tb tc t g : Nat) (s : zaP) (S : List zh) : Prop where
 cb : S[σ.length]? = some C
 xb : S[σ.length + 1]? = some (rtO s.L)
 yb : S[σ.length + 2]? = some (rlO s.G)
 tab : zdh S (σ.length + 4) (σ.length + 3) (σ.length + 5) []
 led : zee S (σ.length + 7) (σ.length + 6) (σ.length + 8) []
 st : S[σ.length + 9]? = some (.box [.box (σ.length + 4) 0, .box (σ.length + 7) 0, .box (σ.length + 1) 0, .box (σ.length + 2) 0, .own tb (zca s.bs), .own tc (zeg s.cs), .d .nilp, .d .nilp])
 hb : S[σ.length + 10]? = some (hdrC s.h)
 top : zco S (σ.length + 11) t g s.T
 kb : S[tb]? = some (.tok 7 s.bs.length)
 kc : S[tc]? = some (.tok 3 s.cs.length)
 ne : σ.length + 11 < tb ∧ tb < tc
 cn : ∀ g sz cs,C ≠ .row g sz cs
 rest : ∀ (j : Nat) (x : zh), σ[j]? = some x → (∀ g sz cs,x ≠ .row g sz cs) → S[j]? = some x
section
variable {σ S S' : List zh} {C : zh} {tb tc t g t' g' : Nat} {s : zaP}
theorem WJ.app (h : WJ σ C tb tc t g s S) (τ : List zh) : WJ σ C tb tc t g s (S ++ τ) :=
 ⟨zd h.cb,zd h.xb,zd h.yb,⟨zd h.tab.1,zd h.tab.2,zd h.tab.3⟩,⟨zd h.led.1,zd h.led.2,zd h.led.3⟩,zd h.st,zd h.hb,h.top.app τ,zd h.kb,zd h.kc,h.ne,h.cn,fun j x h1 h2 => zd (h.rest j x h1 h2)⟩
theorem WJ.x (h : WJ σ C tb tc t g s S) (L : List (List UInt8)) : WJ σ C tb tc t g { s with L := L } (S.set (σ.length + 1) (rtO L)) := by
 have hn := h.ne
 refine ⟨zc _ h.cb (by omega),List.getElem?_set_self (zx h.xb),zc _ h.yb (by omega),⟨zc _ h.tab.1 (by omega),zc _ h.tab.2 (by omega),zc _ h.tab.3 (by omega)⟩,⟨zc _ h.led.1 (by omega),zc _ h.led.2 (by omega),zc _ h.led.3 (by omega)⟩,
  zc _ h.st (by omega),zc _ h.hb (by omega),h.top.setN h.xb (fun _ _ _ e => by cases e) (by omega),zc _ h.kb (by omega),zc _ h.kc (by omega),h.ne,h.cn,fun j x h1 h2 => zc _ (h.rest j x h1 h2) (by have := zx h1; omega)⟩
theorem WJ.y (h : WJ σ C tb tc t g s S) (G : List zI) : WJ σ C tb tc t g { s with G := G } (S.set (σ.length + 2) (rlO G)) := by
 have hn := h.ne
 refine ⟨zc _ h.cb (by omega),zc _ h.xb (by omega),List.getElem?_set_self (zx h.yb),⟨zc _ h.tab.1 (by omega),zc _ h.tab.2 (by omega),zc _ h.tab.3 (by omega)⟩,⟨zc _ h.led.1 (by omega),zc _ h.led.2 (by omega),zc _ h.led.3 (by omega)⟩,
  zc _ h.st (by omega),zc _ h.hb (by omega),h.top.setN h.yb (fun _ _ _ e => by cases e) (by omega),zc _ h.kb (by omega),zc _ h.kc (by omega),h.ne,h.cn,fun j x h1 h2 => zc _ (h.rest j x h1 h2) (by have := zx h1; omega)⟩
theorem WJ.hdr (h : WJ σ C tb tc t g s S) (k : zcS) : WJ σ C tb tc t g { s with h := k } (S.set (σ.length + 10) (hdrC k)) := by
 have hn := h.ne
 refine ⟨zc _ h.cb (by omega),zc _ h.xb (by omega),zc _ h.yb (by omega),⟨zc _ h.tab.1 (by omega),zc _ h.tab.2 (by omega),zc _ h.tab.3 (by omega)⟩,⟨zc _ h.led.1 (by omega),zc _ h.led.2 (by omega),zc _ h.led.3 (by omega)⟩,
  zc _ h.st (by omega),List.getElem?_set_self (zx h.hb),h.top.setN h.hb (fun _ _ _ e => by cases e) (by omega),zc _ h.kb (by omega),zc _ h.kc (by omega),h.ne,h.cn,fun j x h1 h2 => zc _ (h.rest j x h1 h2) (by have := zx h1; omega)⟩
theorem WJ.oth {j : Nat} {x : zh} (h : WJ σ C tb tc t g s S) (hj : S[j]? = some x) (hr : ∀ g sz cs,x ≠ .row g sz cs) (h1 : σ.length + 11 < j) (h2 : j ≠ tb) (h3 : j ≠ tc) (y : zh) : WJ σ C tb tc t g s (S.set j y) := by
 refine ⟨zc _ h.cb (by omega),zc _ h.xb (by omega),zc _ h.yb (by omega),⟨zc _ h.tab.1 (by omega),zc _ h.tab.2 (by omega),zc _ h.tab.3 (by omega)⟩,⟨zc _ h.led.1 (by omega),zc _ h.led.2 (by omega),zc _ h.led.3 (by omega)⟩,
  zc _ h.st (by omega),zc _ h.hb (by omega),h.top.setN hj hr (by omega),zc _ h.kb (by omega),zc _ h.kc (by omega),h.ne,h.cn,fun j x h1 h2 => zc _ (h.rest j x h1 h2) (by have := zx h1; omega)⟩
theorem WJ.blk (h : WJ σ C tb tc t g s S) (bs : List zbx) : WJ σ C tb tc t g { s with bs := bs } ((S.set tb (.tok 7 bs.length)).set (σ.length + 9) (.box [.box (σ.length + 4) 0, .box (σ.length + 7) 0, .box (σ.length + 1) 0, .box (σ.length + 2) 0, .own tb (zca bs), .own tc (zeg s.cs), .d .nilp, .d .nilp])) := by
 have hn := h.ne
 refine ⟨zc _ (zc _ h.cb (by omega)) (by omega),zc _ (zc _ h.xb (by omega)) (by omega),zc _ (zc _ h.yb (by omega)) (by omega),⟨zc _ (zc _ h.tab.1 (by omega)) (by omega),zc _ (zc _ h.tab.2 (by omega)) (by omega),zc _ (zc _ h.tab.3 (by omega)) (by omega)⟩,⟨zc _ (zc _ h.led.1 (by omega)) (by omega),zc _ (zc _ h.led.2 (by omega)) (by omega),zc _ (zc _ h.led.3 (by omega)) (by omega)⟩,
  List.getElem?_set_self (by have := zx h.st; simpa using this),zc _ (zc _ h.hb (by omega)) (by omega),(h.top.setN h.kb (fun _ _ _ e => by cases e) (by omega)).setN (zc _ h.st (by omega)) (fun _ _ _ e => by cases e) (by omega),zc _ (List.getElem?_set_self (zx h.kb)) (by omega),zc _ (zc _ h.kc (by omega)) (by omega),h.ne,h.cn,fun j x h1 h2 => zc _ (zc _ (h.rest j x h1 h2) (by have := zx h1; omega)) (by have := zx h1; omega)⟩
theorem WJ.crt (h : WJ σ C tb tc t g s S) (cs : List zff) : WJ σ C tb tc t g { s with cs := cs } ((S.set tc (.tok 3 cs.length)).set (σ.length + 9) (.box [.box (σ.length + 4) 0, .box (σ.length + 7) 0, .box (σ.length + 1) 0, .box (σ.length + 2) 0, .own tb (zca s.bs), .own tc (zeg cs), .d .nilp, .d .nilp])) := by
 have hn := h.ne
 refine ⟨zc _ (zc _ h.cb (by omega)) (by omega),zc _ (zc _ h.xb (by omega)) (by omega),zc _ (zc _ h.yb (by omega)) (by omega),⟨zc _ (zc _ h.tab.1 (by omega)) (by omega),zc _ (zc _ h.tab.2 (by omega)) (by omega),zc _ (zc _ h.tab.3 (by omega)) (by omega)⟩,⟨zc _ (zc _ h.led.1 (by omega)) (by omega),zc _ (zc _ h.led.2 (by omega)) (by omega),zc _ (zc _ h.led.3 (by omega)) (by omega)⟩,
  List.getElem?_set_self (by have := zx h.st; simpa using this),zc _ (zc _ h.hb (by omega)) (by omega),(h.top.setN h.kc (fun _ _ _ e => by cases e) (by omega)).setN (zc _ h.st (by omega)) (fun _ _ _ e => by cases e) (by omega),zc _ (zc _ h.kb (by omega)) (by omega),zc _ (List.getElem?_set_self (zx h.kc)) (by omega),h.ne,h.cn,fun j x h1 h2 => zc _ (zc _ (h.rest j x h1 h2) (by have := zx h1; omega)) (by have := zx h1; omega)⟩
theorem WJ.exec {L : List (List UInt8)} {T : zcc} (h : WJ σ C tb tc t g s S) (hT : zco S' (σ.length + 11) t' g' T) (hL : S'[σ.length + 1]? = some (rtO L)) (hS : zts S S' (σ.length + 1) (σ.length + 11)) : WJ σ C tb tc t' g' { s with L := L,T := T } S' := by
 have hn := h.ne
 refine ⟨?_,hL,hS.get _ _ h.yb (by omega) (by omega) (fun _ _ _ e => by cases e),⟨hS.get _ _ h.tab.1 (by omega) (by omega) (fun _ _ _ e => by cases e),hS.get _ _ h.tab.2 (by omega) (by omega) (fun _ _ _ e => by cases e),hS.get _ _ h.tab.3 (by omega) (by omega) (fun _ _ _ e => by cases e)⟩,⟨hS.get _ _ h.led.1 (by omega) (by omega) (fun _ _ _ e => by cases e),hS.get _ _ h.led.2 (by omega) (by omega) (fun _ _ _ e => by cases e),hS.get _ _ h.led.3 (by omega) (by omega) (fun _ _ _ e => by cases e)⟩,
  hS.get _ _ h.st (by omega) (by omega) (fun _ _ _ e => by cases e),hS.get _ _ h.hb (by omega) (by omega) (fun _ _ _ e => by cases e),hT,hS.get _ _ h.kb (by omega) (by omega) (fun _ _ _ e => by cases e),hS.get _ _ h.kc (by omega) (by omega) (fun _ _ _ e => by cases e),h.ne,h.cn,fun j x h1 h2 => hS.get _ _ (h.rest j x h1 h2) (by have := zx h1; omega) (by have := zx h1; omega) h2⟩
 exact hS.get _ _ h.cb (by omega) (by omega) h.cn
end
structure WE (σ : List zh) (C : zh) (r w : AV) (s : zaP) (L : List (List UInt8)) (G : List zI) (S : List zh) : Prop where
 cb : S[σ.length]? = some C
 xb : S[σ.length + 1]? = some (rtO s.L)
 yb : S[σ.length + 2]? = some (rlO s.G)
 tab : zdh S (σ.length + 4) (σ.length + 3) (σ.length + 5) L
 led : zee S (σ.length + 7) (σ.length + 6) (σ.length + 8) G
 st : S[σ.length + 9]? = some (.box [.box (σ.length + 4) 0, .box (σ.length + 7) 0, .box (σ.length + 1) 0, .box (σ.length + 2) 0, .d (.slice (zca s.bs)), .d (.slice (zeg s.cs)),r,w])
 rest : ∀ (j : Nat) (x : zh), σ[j]? = some x → (∀ g sz cs,x ≠ .row g sz cs) → S[j]? = some x
section
variable {σ S : List zh} {C : zh} {r w : AV} {s : zaP} {L : List (List UInt8)} {G : List zI}
theorem WE.app (h : WE σ C r w s L G S) (τ : List zh) : WE σ C r w s L G (S ++ τ) :=
 ⟨zd h.cb,zd h.xb,zd h.yb,h.tab.app τ,h.led.app τ,zd h.st,fun j x h1 h2 => zd (h.rest j x h1 h2)⟩
theorem WE.putT (h : WE σ C r w s L G S) (L' : List (List UInt8)) : WE σ C r w s L' G (putTab S (σ.length + 4) (σ.length + 3) (σ.length + 5) L') := by
 unfold putTab
 refine ⟨?_, ?_, ?_,⟨?_, ?_, ?_⟩,⟨?_, ?_, ?_⟩, ?_,fun j x h1 h2 => ?_⟩
 ·exact zc _ (zc _ (zc _ h.cb (by omega)) (by omega)) (by omega)
 ·exact zc _ (zc _ (zc _ h.xb (by omega)) (by omega)) (by omega)
 ·exact zc _ (zc _ (zc _ h.yb (by omega)) (by omega)) (by omega)
 ·exact zc _ (List.getElem?_set_self (by have := zx h.tab.1; simpa using this)) (by omega)
 ·exact List.getElem?_set_self (by have := zx h.tab.2; simpa using this)
 ·exact zc _ (zc _ (List.getElem?_set_self (zx h.tab.3)) (by omega)) (by omega)
 ·exact zc _ (zc _ (zc _ h.led.1 (by omega)) (by omega)) (by omega)
 ·exact zc _ (zc _ (zc _ h.led.2 (by omega)) (by omega)) (by omega)
 ·exact zc _ (zc _ (zc _ h.led.3 (by omega)) (by omega)) (by omega)
 ·exact zc _ (zc _ (zc _ h.st (by omega)) (by omega)) (by omega)
 ·have := zx h1
  exact zc _ (zc _ (zc _ (h.rest j x h1 h2) (by omega)) (by omega)) (by omega)
theorem WE.putG (h : WE σ C r w s L G S) (G' : List zI) : WE σ C r w s L G' (putLed S (σ.length + 7) (σ.length + 6) (σ.length + 8) G') := by
 unfold putLed
 refine ⟨?_, ?_, ?_,⟨?_, ?_, ?_⟩,⟨?_, ?_, ?_⟩, ?_,fun j x h1 h2 => ?_⟩
 ·exact zc _ (zc _ (zc _ h.cb (by omega)) (by omega)) (by omega)
 ·exact zc _ (zc _ (zc _ h.xb (by omega)) (by omega)) (by omega)
 ·exact zc _ (zc _ (zc _ h.yb (by omega)) (by omega)) (by omega)
 ·exact zc _ (zc _ (zc _ h.tab.1 (by omega)) (by omega)) (by omega)
 ·exact zc _ (zc _ (zc _ h.tab.2 (by omega)) (by omega)) (by omega)
 ·exact zc _ (zc _ (zc _ h.tab.3 (by omega)) (by omega)) (by omega)
 ·exact List.getElem?_set_self (by have := zx h.led.1; simpa using this)
 ·exact zc _ (zc _ (List.getElem?_set_self (zx h.led.2)) (by omega)) (by omega)
 ·exact zc _ (List.getElem?_set_self (by have := zx h.led.3; simpa using this)) (by omega)
 ·exact zc _ (zc _ (zc _ h.st (by omega)) (by omega)) (by omega)
 ·have := zx h1
  exact zc _ (zc _ (zc _ (h.rest j x h1 h2) (by omega)) (by omega)) (by omega)
theorem WE.x (h : WE σ C r w s L G S) (L' : List (List UInt8)) : WE σ C r w { s with L := L' } L G (S.set (σ.length + 1) (rtO L')) := by
 refine ⟨zc _ h.cb (by omega),List.getElem?_set_self (zx h.xb),zc _ h.yb (by omega),⟨zc _ h.tab.1 (by omega),zc _ h.tab.2 (by omega),zc _ h.tab.3 (by omega)⟩,⟨zc _ h.led.1 (by omega),zc _ h.led.2 (by omega),zc _ h.led.3 (by omega)⟩,zc _ h.st (by omega),fun j x h1 h2 => zc _ (h.rest j x h1 h2) (by have := zx h1; omega)⟩
theorem WE.oth {j : Nat} (h : WE σ C r w s L G S) (hj : σ.length + 9 < j) (y : zh) : WE σ C r w s L G (S.set j y) := by
 refine ⟨zc _ h.cb (by omega),zc _ h.xb (by omega),zc _ h.yb (by omega),⟨zc _ h.tab.1 (by omega),zc _ h.tab.2 (by omega),zc _ h.tab.3 (by omega)⟩,⟨zc _ h.led.1 (by omega),zc _ h.led.2 (by omega),zc _ h.led.3 (by omega)⟩,zc _ h.st (by omega),fun j x h1 h2 => zc _ (h.rest j x h1 h2) (by have := zx h1; omega)⟩
theorem WJ.done {tb tc t g : Nat} (h : WJ σ C tb tc t g s S) : WE σ C (.d .nilp) (.d .nilp) s [] [] ((S.set (σ.length + 9) (.box [.box (σ.length + 4) 0, .box (σ.length + 7) 0, .box (σ.length + 1) 0, .box (σ.length + 2) 0, .d (.slice (zca s.bs)), .own tc (zeg s.cs), .d .nilp, .d .nilp])).set (σ.length + 9) (.box [.box (σ.length + 4) 0, .box (σ.length + 7) 0, .box (σ.length + 1) 0, .box (σ.length + 2) 0, .d (.slice (zca s.bs)), .d (.slice (zeg s.cs)), .d .nilp, .d .nilp])) := by
 rw [List.set_set]
 refine ⟨zc _ h.cb (by omega),zc _ h.xb (by omega),zc _ h.yb (by omega),⟨zc _ h.tab.1 (by omega),zc _ h.tab.2 (by omega),zc _ h.tab.3 (by omega)⟩,⟨zc _ h.led.1 (by omega),zc _ h.led.2 (by omega),zc _ h.led.3 (by omega)⟩,List.getElem?_set_self (zx h.st),fun j x h1 h2 => zc _ (h.rest j x h1 h2) (by have := zx h1; omega)⟩
end
theorem WE.rdr {σ S : List zh} {C : zh} {r w : AV} {s : zaP} {L : List (List UInt8)} {G : List zI} (h : WE σ C r w s L G S) (r' w' : AV) : WE σ C r' w' s L G (S.set (σ.length + 9) (.box [.box (σ.length + 4) 0, .box (σ.length + 7) 0, .box (σ.length + 1) 0, .box (σ.length + 2) 0, .d (.slice (zca s.bs)), .d (.slice (zeg s.cs)),r',w'])) :=
 ⟨zc _ h.cb (by omega),zc _ h.xb (by omega),zc _ h.yb (by omega),⟨zc _ h.tab.1 (by omega),zc _ h.tab.2 (by omega),zc _ h.tab.3 (by omega)⟩,⟨zc _ h.led.1 (by omega),zc _ h.led.2 (by omega),zc _ h.led.3 (by omega)⟩,List.getElem?_set_self (zx h.st),fun j x h1 h2 => zc _ (h.rest j x h1 h2) (by have := zx h1; omega)⟩
end Go.Proofs.YtfgbofkdhfjegaaGreat
