/- Contract: what chapter 23 begins with. -/
import Derived.Test.YtncpaekiidpchaaGreatKp2
import Derived.Test.YtncpaekiidpchaaGreatId3
set_option linter.all false
set_option maxRecDepth 100000
namespace Go.Proofs.YtncpaekiidpchaaGreat
open Go.AW
structure zlb where
 do_ : Int
 n : Int
 dig : Int
 rec_ : List UInt8
abbrev zpk (w : zlb) : List D := [.int .i64 w.do_, .int .i64 w.n, .int .i64 w.dig, .slice (bcs w.rec_)]
abbrev zuj (l : List zlb) : List (List D) := l.map zpk
structure znS where
 f : Int
 bats : List (List zA)
 voters : Nat
 bad : List zae
 topic : List UInt8
 offset : Int
 twists : List zlb
abbrev zqf (l : List (List zA)) : List (List D) := l.map fun l => [.slice (zsd l)]
abbrev ziR (c : znS) : List AV := [.d (.int .i64 c.f), .d (.slice (zqf c.bats)), .d (.int .u16 c.voters), .d (.slice (zaz c.bad)), .d (.str c.topic), .d (.int .i64 c.offset), .d (.slice (zuj c.twists))]
abbrev caseA (c : znS) : AV := .agg (ziR c)
abbrev zfn (l : List zfF) : List (List D) := l.map certD
abbrev hdrC (h : zec) : zf := .box [.d (.int .i64 h.seq), .d (.int .i64 h.prev), .d (.int .i64 h.batch), .d (.int .i64 h.root), .d (.int .i64 h.state)]
structure StJ (σ : List zf) (C : zf) (tb tc t g : Nat) (s : zfW) (S : List zf) : Prop where
 cb : S[σ.length]? = some C
 xb : S[σ.length + 1]? = some (rtO s.L)
 yb : S[σ.length + 2]? = some (rlO s.G)
 tab : zcu S (σ.length + 4) (σ.length + 3) (σ.length + 5) []
 led : zeb S (σ.length + 7) (σ.length + 6) (σ.length + 8) []
 st : S[σ.length + 9]? = some (.box [.box (σ.length + 4) 0, .box (σ.length + 7) 0, .box (σ.length + 1) 0, .box (σ.length + 2) 0, .own tb (zbv s.bs), .own tc (zfn s.cs)])
 hb : S[σ.length + 10]? = some (hdrC s.h)
 top : zbZ S (σ.length + 11) t g s.T
 kb : S[tb]? = some (.tok 7 s.bs.length)
 kc : S[tc]? = some (.tok 3 s.cs.length)
 ne : σ.length + 11 < tb ∧ tb < tc
 cn : ∀ g sz cs,C ≠ .row g sz cs
 rest : ∀ (j : Nat) (x : zf), σ[j]? = some x → (∀ g sz cs,x ≠ .row g sz cs) → S[j]? = some x
section
variable {σ S S' : List zf} {C : zf} {tb tc t g t' g' : Nat} {s : zfW}
theorem zc {S : List zf} {i j : Nat} {x : zf} (y : zf) (h : S[j]? = some x) (hne : i ≠ j) : (S.set i y)[j]? = some x := (List.getElem?_set_ne hne).trans h
theorem StJ.app (h : StJ σ C tb tc t g s S) (τ : List zf) : StJ σ C tb tc t g s (S ++ τ) :=
 ⟨zg h.cb,zg h.xb,zg h.yb,⟨zg h.tab.1,zg h.tab.2,zg h.tab.3⟩,⟨zg h.led.1,zg h.led.2,zg h.led.3⟩,zg h.st,zg h.hb,h.top.app τ,zg h.kb,zg h.kc,h.ne,h.cn,fun j x h1 h2 => zg (h.rest j x h1 h2)⟩
theorem StJ.x (h : StJ σ C tb tc t g s S) (L : List (List UInt8)) : StJ σ C tb tc t g { s with L := L } (S.set (σ.length + 1) (rtO L)) := by
 have hn := h.ne
 refine ⟨zc _ h.cb (by omega),List.getElem?_set_self (zN h.xb),zc _ h.yb (by omega),⟨zc _ h.tab.1 (by omega),zc _ h.tab.2 (by omega),zc _ h.tab.3 (by omega)⟩,⟨zc _ h.led.1 (by omega),zc _ h.led.2 (by omega),zc _ h.led.3 (by omega)⟩,
  zc _ h.st (by omega),zc _ h.hb (by omega),h.top.setN h.xb (fun _ _ _ e => by cases e) (by omega),zc _ h.kb (by omega),zc _ h.kc (by omega),h.ne,h.cn,fun j x h1 h2 => zc _ (h.rest j x h1 h2) (by have := zN h1; omega)⟩
theorem StJ.y (h : StJ σ C tb tc t g s S) (G : List zae) : StJ σ C tb tc t g { s with G := G } (S.set (σ.length + 2) (rlO G)) := by
 have hn := h.ne
 refine ⟨zc _ h.cb (by omega),zc _ h.xb (by omega),List.getElem?_set_self (zN h.yb),⟨zc _ h.tab.1 (by omega),zc _ h.tab.2 (by omega),zc _ h.tab.3 (by omega)⟩,⟨zc _ h.led.1 (by omega),zc _ h.led.2 (by omega),zc _ h.led.3 (by omega)⟩,
  zc _ h.st (by omega),zc _ h.hb (by omega),h.top.setN h.yb (fun _ _ _ e => by cases e) (by omega),zc _ h.kb (by omega),zc _ h.kc (by omega),h.ne,h.cn,fun j x h1 h2 => zc _ (h.rest j x h1 h2) (by have := zN h1; omega)⟩
theorem StJ.hdr (h : StJ σ C tb tc t g s S) (k : zec) : StJ σ C tb tc t g { s with h := k } (S.set (σ.length + 10) (hdrC k)) := by
 have hn := h.ne
 refine ⟨zc _ h.cb (by omega),zc _ h.xb (by omega),zc _ h.yb (by omega),⟨zc _ h.tab.1 (by omega),zc _ h.tab.2 (by omega),zc _ h.tab.3 (by omega)⟩,⟨zc _ h.led.1 (by omega),zc _ h.led.2 (by omega),zc _ h.led.3 (by omega)⟩,
  zc _ h.st (by omega),List.getElem?_set_self (zN h.hb),h.top.setN h.hb (fun _ _ _ e => by cases e) (by omega),zc _ h.kb (by omega),zc _ h.kc (by omega),h.ne,h.cn,fun j x h1 h2 => zc _ (h.rest j x h1 h2) (by have := zN h1; omega)⟩
theorem StJ.oth {j : Nat} {x : zf} (h : StJ σ C tb tc t g s S) (hj : S[j]? = some x) (hr : ∀ g sz cs,x ≠ .row g sz cs) (h1 : σ.length + 11 < j) (h2 : j ≠ tb) (h3 : j ≠ tc) (y : zf) : StJ σ C tb tc t g s (S.set j y) := by
 refine ⟨zc _ h.cb (by omega),zc _ h.xb (by omega),zc _ h.yb (by omega),⟨zc _ h.tab.1 (by omega),zc _ h.tab.2 (by omega),zc _ h.tab.3 (by omega)⟩,⟨zc _ h.led.1 (by omega),zc _ h.led.2 (by omega),zc _ h.led.3 (by omega)⟩,
  zc _ h.st (by omega),zc _ h.hb (by omega),h.top.setN hj hr (by omega),zc _ h.kb (by omega),zc _ h.kc (by omega),h.ne,h.cn,fun j x h1 h2 => zc _ (h.rest j x h1 h2) (by have := zN h1; omega)⟩
theorem StJ.blk (h : StJ σ C tb tc t g s S) (bs : List zdy) : StJ σ C tb tc t g { s with bs := bs } ((S.set tb (.tok 7 bs.length)).set (σ.length + 9) (.box [.box (σ.length + 4) 0, .box (σ.length + 7) 0, .box (σ.length + 1) 0, .box (σ.length + 2) 0, .own tb (zbv bs), .own tc (zfn s.cs)])) := by
 have hn := h.ne
 refine ⟨zc _ (zc _ h.cb (by omega)) (by omega),zc _ (zc _ h.xb (by omega)) (by omega),zc _ (zc _ h.yb (by omega)) (by omega),⟨zc _ (zc _ h.tab.1 (by omega)) (by omega),zc _ (zc _ h.tab.2 (by omega)) (by omega),zc _ (zc _ h.tab.3 (by omega)) (by omega)⟩,⟨zc _ (zc _ h.led.1 (by omega)) (by omega),zc _ (zc _ h.led.2 (by omega)) (by omega),zc _ (zc _ h.led.3 (by omega)) (by omega)⟩,
  List.getElem?_set_self (by have := zN h.st; simpa using this),zc _ (zc _ h.hb (by omega)) (by omega),(h.top.setN h.kb (fun _ _ _ e => by cases e) (by omega)).setN (zc _ h.st (by omega)) (fun _ _ _ e => by cases e) (by omega),zc _ (List.getElem?_set_self (zN h.kb)) (by omega),zc _ (zc _ h.kc (by omega)) (by omega),h.ne,h.cn,fun j x h1 h2 => zc _ (zc _ (h.rest j x h1 h2) (by have := zN h1; omega)) (by have := zN h1; omega)⟩
theorem StJ.crt (h : StJ σ C tb tc t g s S) (cs : List zfF) : StJ σ C tb tc t g { s with cs := cs } ((S.set tc (.tok 3 cs.length)).set (σ.length + 9) (.box [.box (σ.length + 4) 0, .box (σ.length + 7) 0, .box (σ.length + 1) 0, .box (σ.length + 2) 0, .own tb (zbv s.bs), .own tc (zfn cs)])) := by
 have hn := h.ne
 refine ⟨zc _ (zc _ h.cb (by omega)) (by omega),zc _ (zc _ h.xb (by omega)) (by omega),zc _ (zc _ h.yb (by omega)) (by omega),⟨zc _ (zc _ h.tab.1 (by omega)) (by omega),zc _ (zc _ h.tab.2 (by omega)) (by omega),zc _ (zc _ h.tab.3 (by omega)) (by omega)⟩,⟨zc _ (zc _ h.led.1 (by omega)) (by omega),zc _ (zc _ h.led.2 (by omega)) (by omega),zc _ (zc _ h.led.3 (by omega)) (by omega)⟩,
  List.getElem?_set_self (by have := zN h.st; simpa using this),zc _ (zc _ h.hb (by omega)) (by omega),(h.top.setN h.kc (fun _ _ _ e => by cases e) (by omega)).setN (zc _ h.st (by omega)) (fun _ _ _ e => by cases e) (by omega),zc _ (zc _ h.kb (by omega)) (by omega),zc _ (List.getElem?_set_self (zN h.kc)) (by omega),h.ne,h.cn,fun j x h1 h2 => zc _ (zc _ (h.rest j x h1 h2) (by have := zN h1; omega)) (by have := zN h1; omega)⟩
theorem StJ.exec {L : List (List UInt8)} {T : zcg} (h : StJ σ C tb tc t g s S) (hT : zbZ S' (σ.length + 11) t' g' T) (hL : S'[σ.length + 1]? = some (rtO L)) (hS : ztK S S' (σ.length + 1) (σ.length + 11)) : StJ σ C tb tc t' g' { s with L := L,T := T } S' := by
 have hn := h.ne
 refine ⟨?_,hL,hS.get _ _ h.yb (by omega) (by omega) (fun _ _ _ e => by cases e),⟨hS.get _ _ h.tab.1 (by omega) (by omega) (fun _ _ _ e => by cases e),hS.get _ _ h.tab.2 (by omega) (by omega) (fun _ _ _ e => by cases e),hS.get _ _ h.tab.3 (by omega) (by omega) (fun _ _ _ e => by cases e)⟩,⟨hS.get _ _ h.led.1 (by omega) (by omega) (fun _ _ _ e => by cases e),hS.get _ _ h.led.2 (by omega) (by omega) (fun _ _ _ e => by cases e),hS.get _ _ h.led.3 (by omega) (by omega) (fun _ _ _ e => by cases e)⟩,
  hS.get _ _ h.st (by omega) (by omega) (fun _ _ _ e => by cases e),hS.get _ _ h.hb (by omega) (by omega) (fun _ _ _ e => by cases e),hT,hS.get _ _ h.kb (by omega) (by omega) (fun _ _ _ e => by cases e),hS.get _ _ h.kc (by omega) (by omega) (fun _ _ _ e => by cases e),h.ne,h.cn,fun j x h1 h2 => hS.get _ _ (h.rest j x h1 h2) (by have := zN h1; omega) (by have := zN h1; omega) h2⟩
 exact hS.get _ _ h.cb (by omega) (by omega) h.cn
end
def bt1 (n : Nat) (c : znS) (L : List (List UInt8)) (G : List zae) : List zf :=
 [.box (ziR c),rtO L,rlO G, .map (tabM []), .box [.own (n + 5) [], .map (n + 3)], .tok 1 0, .map (zsi []), .box [.own (n + 8) [], .map (n + 6)], .tok 2 0,
  .box [.box (n + 4) 0, .box (n + 7) 0, .box (n + 1) 0, .box (n + 2) 0, .exact [], .exact []]]
theorem bt_weak {σ : List zf} {c : znS} (vs : List AV) : zmV vs (σ ++ [.box (ziR c), .box [.exact []], .box [.exact []], .map (tabM []), .box [.own (σ.length + 5) [], .map (σ.length + 3)], .tok 1 0, .map (zsi []), .box [.own (σ.length + 8) [], .map (σ.length + 6)], .tok 2 0,
  .box [.box (σ.length + 4) 0, .box (σ.length + 7) 0, .box (σ.length + 1) 0, .box (σ.length + 2) 0, .exact [], .exact []]]) vs (σ ++ bt1 σ.length c [] []) := by
 refine .dataB (σ.length + 1) 0 [.exact []] (.exact []) [] (by rw [zq]; rfl) rfl rfl ?_
 rw [zM]
 refine .dataB (σ.length + 2) 0 [.exact []] (.exact []) [] (by rw [zq]; rfl) rfl rfl ?_
 rw [zM]
 exact .refl _ _
structure StE (σ : List zf) (s : zfW) (L : List (List UInt8)) (G : List zae) (S : List zf) : Prop where
 xb : S[σ.length + 1]? = some (rtO s.L)
 yb : S[σ.length + 2]? = some (rlO s.G)
 tab : zcu S (σ.length + 4) (σ.length + 3) (σ.length + 5) L
 led : zeb S (σ.length + 7) (σ.length + 6) (σ.length + 8) G
 st : S[σ.length + 9]? = some (.box [.box (σ.length + 4) 0, .box (σ.length + 7) 0, .box (σ.length + 1) 0, .box (σ.length + 2) 0, .d (.slice (zbv s.bs)), .d (.slice (zfn s.cs))])
 rest : ∀ (j : Nat) (x : zf), σ[j]? = some x → (∀ g sz cs,x ≠ .row g sz cs) → S[j]? = some x
section
variable {σ S : List zf} {s : zfW} {L : List (List UInt8)} {G : List zae}
theorem StE.app (h : StE σ s L G S) (τ : List zf) : StE σ s L G (S ++ τ) :=
 ⟨zg h.xb,zg h.yb,h.tab.app τ,h.led.app τ,zg h.st,fun j x h1 h2 => zg (h.rest j x h1 h2)⟩
theorem StE.putT (h : StE σ s L G S) (L' : List (List UInt8)) : StE σ s L' G (putTab S (σ.length + 4) (σ.length + 3) (σ.length + 5) L') := by
 unfold putTab
 refine ⟨?_, ?_,⟨?_, ?_, ?_⟩,⟨?_, ?_, ?_⟩, ?_,fun j x h1 h2 => ?_⟩
 ·exact zc _ (zc _ (zc _ h.xb (by omega)) (by omega)) (by omega)
 ·exact zc _ (zc _ (zc _ h.yb (by omega)) (by omega)) (by omega)
 ·exact zc _ (List.getElem?_set_self (by have := zN h.tab.1; simpa using this)) (by omega)
 ·exact List.getElem?_set_self (by have := zN h.tab.2; simpa using this)
 ·exact zc _ (zc _ (List.getElem?_set_self (zN h.tab.3)) (by omega)) (by omega)
 ·exact zc _ (zc _ (zc _ h.led.1 (by omega)) (by omega)) (by omega)
 ·exact zc _ (zc _ (zc _ h.led.2 (by omega)) (by omega)) (by omega)
 ·exact zc _ (zc _ (zc _ h.led.3 (by omega)) (by omega)) (by omega)
 ·exact zc _ (zc _ (zc _ h.st (by omega)) (by omega)) (by omega)
 ·have := zN h1
  exact zc _ (zc _ (zc _ (h.rest j x h1 h2) (by omega)) (by omega)) (by omega)
theorem StE.putG (h : StE σ s L G S) (G' : List zae) : StE σ s L G' (putLed S (σ.length + 7) (σ.length + 6) (σ.length + 8) G') := by
 unfold putLed
 refine ⟨?_, ?_,⟨?_, ?_, ?_⟩,⟨?_, ?_, ?_⟩, ?_,fun j x h1 h2 => ?_⟩
 ·exact zc _ (zc _ (zc _ h.xb (by omega)) (by omega)) (by omega)
 ·exact zc _ (zc _ (zc _ h.yb (by omega)) (by omega)) (by omega)
 ·exact zc _ (zc _ (zc _ h.tab.1 (by omega)) (by omega)) (by omega)
 ·exact zc _ (zc _ (zc _ h.tab.2 (by omega)) (by omega)) (by omega)
 ·exact zc _ (zc _ (zc _ h.tab.3 (by omega)) (by omega)) (by omega)
 ·exact List.getElem?_set_self (by have := zN h.led.1; simpa using this)
 ·exact zc _ (zc _ (List.getElem?_set_self (zN h.led.2)) (by omega)) (by omega)
 ·exact zc _ (List.getElem?_set_self (by have := zN h.led.3; simpa using this)) (by omega)
 ·exact zc _ (zc _ (zc _ h.st (by omega)) (by omega)) (by omega)
 ·have := zN h1
  exact zc _ (zc _ (zc _ (h.rest j x h1 h2) (by omega)) (by omega)) (by omega)
theorem StE.x (h : StE σ s L G S) (L' : List (List UInt8)) : StE σ { s with L := L' } L G (S.set (σ.length + 1) (rtO L')) := by
 refine ⟨List.getElem?_set_self (zN h.xb),zc _ h.yb (by omega),⟨zc _ h.tab.1 (by omega),zc _ h.tab.2 (by omega),zc _ h.tab.3 (by omega)⟩,⟨zc _ h.led.1 (by omega),zc _ h.led.2 (by omega),zc _ h.led.3 (by omega)⟩,zc _ h.st (by omega),fun j x h1 h2 => zc _ (h.rest j x h1 h2) (by have := zN h1; omega)⟩
theorem StE.oth {j : Nat} (h : StE σ s L G S) (hj : σ.length + 9 < j) (y : zf) : StE σ s L G (S.set j y) := by
 refine ⟨zc _ h.xb (by omega),zc _ h.yb (by omega),⟨zc _ h.tab.1 (by omega),zc _ h.tab.2 (by omega),zc _ h.tab.3 (by omega)⟩,⟨zc _ h.led.1 (by omega),zc _ h.led.2 (by omega),zc _ h.led.3 (by omega)⟩,zc _ h.st (by omega),fun j x h1 h2 => zc _ (h.rest j x h1 h2) (by have := zN h1; omega)⟩
theorem StJ.done {C : zf} {tb tc t g : Nat} (h : StJ σ C tb tc t g s S) : StE σ s [] [] ((S.set (σ.length + 9) (.box [.box (σ.length + 4) 0, .box (σ.length + 7) 0, .box (σ.length + 1) 0, .box (σ.length + 2) 0, .d (.slice (zbv s.bs)), .own tc (zfn s.cs)])).set (σ.length + 9) (.box [.box (σ.length + 4) 0, .box (σ.length + 7) 0, .box (σ.length + 1) 0, .box (σ.length + 2) 0, .d (.slice (zbv s.bs)), .d (.slice (zfn s.cs))])) := by
 rw [List.set_set]
 refine ⟨zc _ h.xb (by omega),zc _ h.yb (by omega),⟨zc _ h.tab.1 (by omega),zc _ h.tab.2 (by omega),zc _ h.tab.3 (by omega)⟩,⟨zc _ h.led.1 (by omega),zc _ h.led.2 (by omega),zc _ h.led.3 (by omega)⟩,List.getElem?_set_self (zN h.st),fun j x h1 h2 => zc _ (h.rest j x h1 h2) (by have := zN h1; omega)⟩
end
end Go.Proofs.YtncpaekiidpchaaGreat
