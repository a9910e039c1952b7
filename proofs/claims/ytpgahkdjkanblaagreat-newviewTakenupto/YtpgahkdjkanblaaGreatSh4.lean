/- The conditions of each function, its slots as variables, and that the logic's conditions are these. Printed by program. -/
import Derived.Test.YtpgahkdjkanblaaGreatNm
import Derived.KernelRfl
set_option linter.all false
set_option maxRecDepth 100000
set_option linter.unusedVariables false
namespace Go.Proofs.YtpgahkdjkanblaaGreat
open Go.AW
def zni (P : Program) (x0 : AV) (σ : LO) (Z : ZT) : Prop :=
 zbf x0 σ fun a s =>
 fl 0 a s fun b s =>
 bP .lss b (iN 0) s fun c s =>
 gFl c 0 a s fun d s =>
 gF c (bP .geq d (iN 8) s) s fun e s =>
 orC c e s fun f s =>
 gFl f 1 a s fun g s =>
 gF f (bP .lss g (iN 1) s) s fun h s =>
 orC f h s fun i s =>
 gFl i 1 a s fun j s =>
 gF i (bP .gtr j (iN 9007199254740992) s) s fun l s =>
 orC i l s fun m s =>
 zp m (z1 Z (iN 80) s) (zb 2 a s fun n s =>
 zg true 5 n s fun o s =>
 cA P znz [o] s fun p s =>
 z1 Z p s)
theorem zmU : F1 Tryz.prog zgm zni := zi [] Tryz.func128 (by decide +kernel) (by kernel_rfl) fun {_ _ _ _} => cast (by kernel_rfl)
def zjv (P : Program) (x0 : AV) (σ : LO) (Z : ZT) : Prop :=
 zbf x0 σ fun a s =>
 fl 0 a s fun b s =>
 bP .lss b (iN 0) s fun c s =>
 gFl c 0 a s fun d s =>
 gF c (bP .geq d (iN 21) s) s fun e s =>
 orC c e s fun f s =>
 gFl f 1 a s fun g s =>
 gF f (bP .lss g (iN 1) s) s fun h s =>
 orC f h s fun i s =>
 gFl i 1 a s fun j s =>
 gF i (bP .gtr j (iN 9007199254740992) s) s fun l s =>
 orC i l s fun m s =>
 zp m (z1 Z (iN 81) s) (z1 Z (iN 0) s)
theorem zjf : F1 Tryz.prog zbn zjv := zi [] Tryz.func129 (by decide +kernel) (by kernel_rfl) fun {_ _ _ _} => cast (by kernel_rfl)
def zfY (P : Program) (x0 x1 : AV) (σ : LO) (Z : ZT) : Prop :=
 zaz .sl x0 σ fun a s =>
 zau (.int .u64) a s fun b s =>
 cA P zbg [x1, b] s fun c s =>
 zaz .sl x0 s fun d s =>
 zcd [c, (iN 0)] s fun v s e =>
 zbM v fun f v => zbM v fun g v => bP .lss g d s fun h s =>
 zp h (il true 9 9 x0 g s fun i s =>
 cp [iN 0, iN 0, iN 0, (.d (.str [])), (.d (.str [])), iN 0, eN, iN 0, iN 0] 9 i s fun j s =>
 zb 0 j s fun l s =>
 zg true 7 l s fun m s =>
 cA P zgn [m] s fun n s =>
 zc n 0 s fun o s =>
 zc n 1 s fun _ s =>
 zb 7 j s fun q s =>
 zg true 2 q s fun r s =>
 cA P zdI [f, o] s fun u t =>
 zZ q s t ∧ (cA P zef [u, r] t fun w s =>
 bP .add g (iN 1) s fun y s =>
 e [w, y] s)) (z1 Z f s)
theorem zeC : F2 Tryz.prog zex zfY := zi [.l [1, 16] [(6, 3), (17, 16)], .d [(0, 2), (3, 2), (2, 1), (5, 2)] [(2, [29])]] Tryz.func130 (by decide +kernel) (by kernel_rfl) fun {_ _ _ _ _} => cast (by kernel_rfl)
def zrm (P : Program) (x0 : AV) (σ : LO) (Z : ZT) : Prop :=
 zbf x0 σ fun a s =>
 fl 0 a s fun b s =>
 bP .eql b (iN 0) s fun c s =>
 gTl c 1 a s fun d s =>
 gT c (bP .eql d (iN 0) s) s fun e s =>
 anC c e s fun f s =>
 gTl f 2 a s fun g s =>
 gT f (zaz .sl g s) s fun h s =>
 gT f (bP .eql h (iN 0) s) s fun i s =>
 anC f i s fun j s =>
 z1 Z j s
theorem zre : F1 Tryz.prog zmJ zrm := zi [] Tryz.func139 (by decide +kernel) (by kernel_rfl) fun {_ _ _ _} => cast (by kernel_rfl)
def zkf (P : Program) (x0 x1 x2 x3 : AV) (σ : LO) (Z : ZT) : Prop :=
 bP .geq x1 (iN 1) σ fun a s =>
 gTm a x1 s fun b s =>
 gT a (bP .leq b (iN 9007199254740992) s) s fun c s =>
 anC a c s fun d s =>
 gTm d x1 s fun e s =>
 gT d (bP .rem e (iN 4) s) s fun f s =>
 gT d (bP .eql f (iN 0) s) s fun g s =>
 anC d g s fun h s =>
 gTm h x2 s fun i s =>
 gT h (bP .geq i (iN 1) s) s fun j s =>
 anC h j s fun l s =>
 gTm l x2 s fun m s =>
 gT l (bP .leq m (iN 9007199254740992) s) s fun n s =>
 anC l n s fun o s =>
 gTm o x3 s fun p s =>
 gT o (bP .geq p (iN 0) s) s fun q s =>
 anC o q s fun r s =>
 gTm r x3 s fun u s =>
 gTm r x0 s fun w s =>
 gT r (zbY w s) s fun y s =>
 gTl r 0 y s fun z s =>
 gT r (cA P zcU [z] s) s fun A s =>
 gT r (bP .lss u A s) s fun B s =>
 anC r B s fun C s =>
 z1 Z C s
theorem zjS : F4 Tryz.prog zgp zkf := zi [] Tryz.func140 (by decide +kernel) (by kernel_rfl) fun {_ _ _ _ _ _ _} => cast (by kernel_rfl)
def zdi (P : Program) (x0 x1 : AV) (σ : LO) (Z : ZT) : Prop :=
 zaz .sl x0 σ fun a s =>
 zcd [(iN 0)] s fun v s b =>
 zbM v fun c v => bP .lss c a s fun d s =>
 zp d (il true 2 2 x0 c s fun e s =>
 zam P x1 [dm e] s fun f s =>
 zp f (z1 Z c s) (bP .add c (iN 1) s fun g s =>
 b [g] s)) (z1 Z (iN (-1)) s)
theorem zdd : F2 Tryz.prog zbR zdi := zi [.l [8] [(4, 2), (9, 10)]] Tryz.func141 (by decide +kernel) (by kernel_rfl) fun {_ _ _ _ _} => cast (by kernel_rfl)
def zix (P : Program) (x0 x1 x2 : AV) (σ : LO) (Z : ZT) : Prop :=
 zbf x0 σ fun a s =>
 zbf x1 s fun b s =>
 cA P zaM [x2] s fun c s =>
 bP .eql c (iN 0) s fun d s =>
 gTm d x2 s fun e s =>
 gT d (fun k => k (.fn (.func zgL) [] [a, b]) s) s fun f s =>
 gT d (cA P zbq [e, f] s) s fun g s =>
 gT d (unC .not g s) s fun h s =>
 anC d h s fun i s =>
 z1 Z i s
theorem ziq : F3 Tryz.prog zfE zix := zi [] Tryz.func142 (by decide +kernel) (by kernel_rfl) fun {_ _ _ _ _ _} => cast (by kernel_rfl)
def zoo (P : Program) (σ : LO) (Z : ZT) : Prop :=
 zQ [iN 0, iN 0] σ fun a s =>
 zB (zR [iN 0, iN 0] [(1, 1, (iN 1))]) s fun b s =>
 zf 2 a b s fun _ s =>
 Z (zI (zan a s true 2) (some [])) s
theorem zoc : F0 Tryz.prog zhx zoo := zi [] Tryz.func146 (by decide +kernel) (by kernel_rfl) fun {_ _ _} => cast (by kernel_rfl)
def zmm (P : Program) (x0 : AV) (σ : LO) (Z : ZT) : Prop :=
 zj false 1 7 (zR (rep [iN 0] 7) [(0, 1, (iN 2)), (1, 1, (iN 3)), (2, 1, (iN 4)), (3, 1, (iN 5)), (4, 1, (iN 6)), (5, 1, (iN 8)), (6, 1, (iN 9))]) σ fun a s =>
 cA P zdQ [a, x0] s fun b s =>
 z1 Z b s
theorem zlW : F1 Tryz.prog zdH zmm := zi [] Tryz.func147 (by decide +kernel) (by kernel_rfl) fun {_ _ _ _} => cast (by kernel_rfl)
def zjE (P : Program) (x0 : AV) (σ : LO) (Z : ZT) : Prop :=
 zbf x0 σ fun a s =>
 zg true 30 a s fun b s =>
 cA P zfo [b] s fun c s =>
 bP .neq c (iN 0) s fun d s =>
 zp d (z2 Z eN c s) (zB (zR [eN] []) s fun e s =>
 zbf e s fun f s =>
 zg true 30 a s fun g s =>
 cA P zbX [f, g] s fun _ s =>
 (fun (i : LO → Prop) => fl 0 a s fun n s =>
 bP .eql n (iN 7) s fun o s =>
 zp o (fl 13 a s fun p s =>
 zL none 8 p (iN 0) s fun q s =>
 zb 6 q s fun r s =>
 zg true 2 r s fun u s =>
 cA P zaR [f, u] s fun _ s =>
 i s) (fl 0 a s fun y s =>
 cA P zdH [y] s fun z s =>
 zp z (zb 28 a s fun A s =>
 zg true 2 A s fun B s =>
 cA P zaR [f, B] s fun _ s =>
 i s) (i s)))
 (fun  s => cA P zfe [f] s fun j s =>
 zc j 0 s fun l s =>
 zc j 1 s fun m s =>
 z2 Z l m s))
theorem zgA : F1 Tryz.prog zgr zjE := zi [] Tryz.func148 (by decide +kernel) (by kernel_rfl) fun {_ _ _ _} => cast (by kernel_rfl)
def zdS (P : Program) (x0 x1 : AV) (σ : LO) (Z : ZT) : Prop :=
 zbf x1 σ fun a s =>
 zbY x0 s fun b s =>
 zb 0 b s fun c s =>
 fl 0 a s fun d s =>
 m1 1 [iN 0] d s fun e s =>
 cA P zad [c, e] s fun _ s =>
 fl 0 a s fun g s =>
 bP .eql g (iN 1) s fun h s =>
 zp h (fl 9 a s fun i s =>
 cA P zbF [x0, i] s fun _ s =>
 Z (some []) s) ((fun (l : AV → LO → Prop) => bP .eql g (iN 2) s fun r2 s =>
 zp r2 (l r2 s) (bP .eql g (iN 3) s fun u2 s =>
 zp u2 (l u2 s) (bP .eql g (iN 4) s fun w2 s =>
 l w2 s)))
 (fun m s => zp m (zbY x0 s fun n s =>
 zb 0 n s fun o s =>
 fl 1 a s fun p s =>
 fl 2 a s fun q s =>
 fl 3 a s fun r s =>
 fl 4 a s fun u s =>
 zj false 1 4 (zR (rep [iN 0] 4) [(0, 1, p), (1, 1, q), (2, 1, r), (3, 1, u)]) s fun w s =>
 cA P zad [o, w] s fun _ s =>
 fl 0 a s fun z s =>
 bP .eql z (iN 2) s fun A s =>
 zp A (fl 9 a s fun B s =>
 cA P zbF [x0, B] s fun _ s =>
 Z (some []) s) (Z (some []) s)) (bP .eql g (iN 5) s fun D s =>
 zp D (zbY x0 s fun E s =>
 zb 0 E s fun F s =>
 fl 1 a s fun G s =>
 fl 2 a s fun H s =>
 fl 5 a s fun I s =>
 fl 6 a s fun J s =>
 zj false 1 4 (zR (rep [iN 0] 4) [(0, 1, G), (1, 1, H), (2, 1, I), (3, 1, J)]) s fun K s =>
 cA P zad [F, K] s fun _ s =>
 zbY x0 s fun M s =>
 zb 0 M s fun N s =>
 fl 0 N s fun O s =>
 zb 7 a s fun Q s =>
 zg true 2 Q s fun R s =>
 cA P ztc [O, R] s fun S s =>
 zbY x0 s fun T s =>
 zb 0 T s fun U s =>
 zb 0 U s fun V s =>
 zf 1 V S s fun _ s =>
 Z (some []) s) (bP .eql g (iN 6) s fun X s =>
 zp X (zbY x0 s fun Y s =>
 zb 0 Y s fun a0 s =>
 fl 1 a s fun b0 s =>
 fl 3 a s fun c0 s =>
 fl 4 a s fun d0 s =>
 zj false 1 3 (zR (rep [iN 0] 3) [(0, 1, b0), (1, 1, c0), (2, 1, d0)]) s fun e0 s =>
 cA P zad [a0, e0] s fun _ s =>
 Z (some []) s) (bP .eql g (iN 7) s fun g0 s =>
 zp g0 (fl 13 a s fun h0 s =>
 il true 8 8 h0 (iN 0) s fun i0 s =>
 cA P zdK [x0, i0] s fun _ s =>
 Z (some []) s) (bP .eql g (iN 8) s fun l0 s =>
 zp l0 (zbY x0 s fun m0 s =>
 zb 0 m0 s fun o0 s =>
 fl 1 a s fun p0 s =>
 fl 2 a s fun q0 s =>
 zj false 1 2 (zR (rep [iN 0] 2) [(0, 1, p0), (1, 1, q0)]) s fun r0 s =>
 cA P zad [o0, r0] s fun _ s =>
 zbY x0 s fun w0 s =>
 zb 0 w0 s fun y0 s =>
 fl 13 a s fun z0 s =>
 zaz .sl z0 s fun A0 s =>
 cA P zcb [y0, A0] s fun _ s =>
 fl 13 a s fun C0 s =>
 zaz .sl C0 s fun D0 s =>
 zcd [(iN 0)] s fun v s E0 =>
 zbM v fun F0 v => bP .lss F0 D0 s fun G0 s =>
 zp G0 (il true 8 8 C0 F0 s fun H0 s =>
 cp [iN 0, iN 0, iN 0, iN 0, eN, eN, iN 0, iN 0] 8 H0 s fun I0 s =>
 zg true 8 I0 s fun J0 s =>
 cA P zey [x0, J0] s fun _ s =>
 bP .add F0 (iN 1) s fun L0 s =>
 E0 [L0] s) (zbY x0 s fun M0 s =>
 zb 0 M0 s fun N0 s =>
 fl 14 a s fun O0 s =>
 zaz .sl O0 s fun Q0 s =>
 cA P zcb [N0, Q0] s fun _ s =>
 fl 14 a s fun S0 s =>
 zaz .sl S0 s fun T0 s =>
 zcd [(iN 0)] s fun v s U0 =>
 zbM v fun V0 v => bP .lss V0 T0 s fun W0 s =>
 zp W0 (il true 5 5 S0 V0 s fun X0 s =>
 cp [iN 0, iN 0, eN, iN 0, iN 0] 5 X0 s fun Y0 s =>
 zbY x0 s fun a1 s =>
 zb 0 a1 s fun b1 s =>
 fl 0 Y0 s fun c1 s =>
 fl 1 Y0 s fun d1 s =>
 zj false 1 2 (zR (rep [iN 0] 2) [(0, 1, c1), (1, 1, d1)]) s fun e1 s =>
 cA P zad [b1, e1] s fun _ s =>
 fl 2 Y0 s fun g1 s =>
 cA P zbF [x0, g1] s fun _ s =>
 zb 3 Y0 s fun i1 s =>
 zg true 2 i1 s fun j1 s =>
 cA P zaR [x0, j1] s fun _ s =>
 bP .add V0 (iN 1) s fun o1 s =>
 U0 [o1] s) (Z (some []) s))) (bP .eql g (iN 9) s fun p1 s =>
 zp p1 (zbY x0 s fun q1 s =>
 zb 0 q1 s fun r1 s =>
 fl 1 a s fun u1 s =>
 fl 3 a s fun w1 s =>
 zj false 1 2 (zR (rep [iN 0] 2) [(0, 1, u1), (1, 1, w1)]) s fun y1 s =>
 cA P zad [r1, y1] s fun _ s =>
 Z (some []) s) (bP .eql g (iN 10) s fun B1 s =>
 zp B1 (zbY x0 s fun C1 s =>
 zb 0 C1 s fun D1 s =>
 fl 1 a s fun E1 s =>
 m1 1 [iN 0] E1 s fun F1 s =>
 cA P zad [D1, F1] s fun _ s =>
 zb 10 a s fun H1 s =>
 zg true 3 H1 s fun I1 s =>
 cA P zcJ [x0, I1] s fun _ s =>
 zbY x0 s fun K1 s =>
 zb 0 K1 s fun L1 s =>
 fl 15 a s fun M1 s =>
 cA P zjN [L1, M1] s fun _ s =>
 Z (some []) s) (bP .eql g (iN 11) s fun O1 s =>
 zp O1 (zbY x0 s fun Q1 s =>
 zb 0 Q1 s fun R1 s =>
 fl 5 a s fun S1 s =>
 m1 1 [iN 0] S1 s fun T1 s =>
 cA P zad [R1, T1] s fun _ s =>
 zbY x0 s fun V1 s =>
 zb 0 V1 s fun W1 s =>
 fl 16 a s fun X1 s =>
 zau .toBytes X1 s fun Y1 s =>
 cA P zjN [W1, Y1] s fun _ s =>
 zbY x0 s fun b2 s =>
 zb 0 b2 s fun c2 s =>
 fl 17 a s fun d2 s =>
 m1 1 [iN 0] d2 s fun e2 s =>
 cA P zad [c2, e2] s fun _ s =>
 Z (some []) s) (bP .eql g (iN 12) s fun g2 s =>
 zp g2 (zbY x0 s fun h2 s =>
 zb 0 h2 s fun i2 s =>
 fl 1 a s fun j2 s =>
 m1 1 [iN 0] j2 s fun l2 s =>
 cA P zad [i2, l2] s fun _ s =>
 zb 18 a s fun o2 s =>
 zg true 10 o2 s fun p2 s =>
 cA P zmu [x0, p2] s fun _ s =>
 Z (some []) s) (Z (some []) s)))))))))))
theorem zcD : F2 Tryz.prog zbX zdS := zi [.d [(0, 7)] [], .d [(0, 13)] [], .d [(0, 13)] [], .d [(0, 13)] [], .d [(0, 11)] [], .d [(0, 9)] [], .d [(0, 7)] [], .l [116] [(5, 1), (117, 7)], .d [(0, 7)] [], .l [134] [(7, 1), (135, 21)], .d [(0, 9)] [], .d [(0, 9)] [], .d [(0, 7)] [], .d [(0, 6)] [], .d [(0, 7)] [], .d [(0, 7)] [], .d [(0, 7)] [], .d [(0, 7)] []] Tryz.func149 (by decide +kernel) (by kernel_rfl) fun {_ _ _ _ _} => cast (by kernel_rfl)
def zoq (P : Program) (x0 x1 : AV) (σ : LO) (Z : ZT) : Prop :=
 cA P zmL [x1] σ fun a s =>
 zc a 0 s fun b s =>
 zc a 1 s fun c s =>
 cp [(.d (.int .u8 0)), (.d (.int .u8 0)), (.d (.int .u8 0)), (.d (.int .u8 0)), (.d (.int .u8 0)), (.d (.int .u8 0)), (.d (.int .u8 0)), (.d (.int .u8 0)), (.d (.int .u8 0)), (.d (.int .u8 0))] 10 b s fun d s =>
 zdn (.arr 10 1) d none (some c) none s fun e s =>
 cA P zew [x0] s fun f s =>
 zE 1 1 f e s fun g s =>
 z1 Z g s
theorem zoe : F2 Tryz.prog zbg zoq := zi [.d [(0, 1), (2, 2), (1, 1), (4, 2)] []] Tryz.func150 (by decide +kernel) (by kernel_rfl) fun {_ _ _ _ _} => cast (by kernel_rfl)
def zjA (P : Program) (x0 : AV) (σ : LO) (Z : ZT) : Prop :=
 zbf x0 σ fun a s =>
 zQ [iN 0, iN 0, eN] s fun b s =>
 fl 2 a s fun c s =>
 cA P zbJ [c] s fun d s =>
 zb 2 a s fun e s =>
 zf 1 e d s fun _ s =>
 zg true 3 a s fun g s =>
 zf 3 b g s fun _ s =>
 Z (zI (zan b s true 3) (some [])) s
theorem zjk : F1 Tryz.prog zdp zjA := zi [] Tryz.func151 (by decide +kernel) (by kernel_rfl) fun {_ _ _ _} => cast (by kernel_rfl)
def zcX (P : Program) (x0 : AV) (σ : LO) (Z : ZT) : Prop :=
 zY false x0 σ fun a s =>
 zp a (z1 Z eN s) (zj true 8 0 (zR (rep [iN 0, iN 0, iN 0, iN 0, eN, eN, iN 0, iN 0] 0) []) s fun b s =>
 zfA 8 96 b x0 s fun c s =>
 z1 Z c s)
theorem zcW : F1 Tryz.prog zbW zcX := zlv [] Tryz.func152 (by decide +kernel) (by kernel_rfl) fun {_ _ _ _} => cast (by kernel_rfl)
def zdt (P : Program) (x0 : AV) (σ : LO) (Z : ZT) : Prop :=
 zY false x0 σ fun a s =>
 zp a (z1 Z eN s) (zj true 5 0 (zR (rep [iN 0, iN 0, eN, iN 0, iN 0] 0) []) s fun b s =>
 zfA 5 56 b x0 s fun c s =>
 z1 Z c s)
theorem zdr : F1 Tryz.prog zce zdt := zlv [] Tryz.func153 (by decide +kernel) (by kernel_rfl) fun {_ _ _ _} => cast (by kernel_rfl)
def zgY (P : Program) (x0 : AV) (σ : LO) (Z : ZT) : Prop :=
 zbf x0 σ fun a s =>
 zQ [iN 0, iN 0, iN 0, iN 0, eN, eN, iN 0, iN 0] s fun b s =>
 zb 2 a s fun c s =>
 zg true 3 c s fun d s =>
 zl P zdp [d] s fun e s =>
 zb 2 a s fun f s =>
 zf 3 f e s fun _ s =>
 fl 5 a s fun h s =>
 zl P zbG [h] s fun i s =>
 zb 5 a s fun j s =>
 zf 1 j i s fun _ s =>
 fl 5 a s fun m s =>
 zaz .sl m s fun n s =>
 zcd [(iN 0)] s fun v s o =>
 zbM v fun p v => bP .lss p n s fun q s =>
 zp q (zb 5 a s fun r s =>
 zg false 1 r s fun u s =>
 fl 5 a s fun w s =>
 zL none 7 w p s fun y s =>
 fl 5 y s fun z s =>
 zl P zbJ [z] s fun A t =>
 zZ r s t ∧ (zL none 7 u p t fun B s =>
 zb 5 B s fun C s =>
 zf 1 C A s fun _ s =>
 zb 5 a s fun E s =>
 zg false 1 E s fun F s =>
 fl 5 a s fun G s =>
 zL none 7 G p s fun H s =>
 fl 6 H s fun I s =>
 zl P zdo [I] s fun J t =>
 zZ E s t ∧ (zL none 7 F p t fun K s =>
 zb 6 K s fun L s =>
 zf 1 L J s fun _ s =>
 bP .add p (iN 1) s fun N s =>
 o [N] s))) (zg true 8 a s fun O s =>
 zf 8 b O s fun _ s =>
 Z (zI (zan b s true 8) (some [])) s)
theorem zgO : F1 Tryz.prog zfn zgY := zlv [.l [15] [(3, 1), (16, 27)], .d [(0, 13)] [(9, [18])], .d [(0, 13)] [(9, [30])]] Tryz.func154 (by decide +kernel) (by kernel_rfl) fun {_ _ _ _} => cast (by kernel_rfl)
def zdl (P : Program) (x0 : AV) (σ : LO) (Z : ZT) : Prop :=
 zY false x0 σ fun a s =>
 zp a (z1 Z eN s) (zj false 5 0 (zR (rep [iN 0, iN 0, iN 0, iN 0, iN 0] 0) []) s fun b s =>
 zE 5 40 b x0 s fun c s =>
 z1 Z c s)
theorem zdg : F1 Tryz.prog zbU zdl := zi [] Tryz.func155 (by decide +kernel) (by kernel_rfl) fun {_ _ _ _} => cast (by kernel_rfl)
def zdm (P : Program) (x0 : AV) (σ : LO) (Z : ZT) : Prop :=
 zY false x0 σ fun a s =>
 zp a (z1 Z eN s) (zj false 1 0 (zR (rep [iN 0] 0) []) s fun b s =>
 zE 1 8 b x0 s fun c s =>
 z1 Z c s)
theorem zdh : F1 Tryz.prog zbV zdm := zi [] Tryz.func156 (by decide +kernel) (by kernel_rfl) fun {_ _ _ _} => cast (by kernel_rfl)
def zki (P : Program) (x0 x1 x2 x3 : AV) (σ : LO) (Z : ZT) : Prop :=
 bP .lss x1 x2 σ fun a s =>
 gFm a x1 s fun b s =>
 gFm a x3 s fun c s =>
 gF a (bP .gtr b c s) s fun d s =>
 orC a d s fun e s =>
 zp e (cA P zN [x0, (iN 100)] s fun _ s =>
 Z (some []) s) (Z (some []) s)
theorem zjV : F4 Tryz.prog zaC zki := zi [] Tryz.func161 (by decide +kernel) (by kernel_rfl) fun {_ _ _ _ _ _ _} => cast (by kernel_rfl)
def ziA (P : Program) (x0 x1 : AV) (σ : LO) (Z : ZT) : Prop :=
 nfl 0 x0 σ fun a s =>
 bP .eql a (iN 0) s fun b s =>
 zp b (zbY x0 s fun c s =>
 zb 0 c s fun d s =>
 zf 1 d x1 s fun _ s =>
 Z (some []) s) (Z (some []) s)
theorem zit : F2 Tryz.prog zN ziA := zi [] Tryz.func162 (by decide +kernel) (by kernel_rfl) fun {_ _ _ _ _} => cast (by kernel_rfl)
def zhh (P : Program) (x0 x1 : AV) (σ : LO) (Z : ZT) : Prop :=
 cA P zaC [x0, x1, (iN 0), (iN 12)] σ fun _ s =>
 Z (some []) s
theorem zgX : F2 Tryz.prog zaD zhh := zi [] Tryz.func164 (by decide +kernel) (by kernel_rfl) fun {_ _ _ _ _} => cast (by kernel_rfl)
def zjC (P : Program) (x0 x1 : AV) (σ : LO) (Z : ZT) : Prop :=
 cA P zaC [x0, x1, (iN 0), (iN 9007199254740992)] σ fun _ s =>
 Z (some []) s
theorem zjm : F2 Tryz.prog zaq zjC := zi [] Tryz.func165 (by decide +kernel) (by kernel_rfl) fun {_ _ _ _ _} => cast (by kernel_rfl)
def zjB (P : Program) (x0 x1 : AV) (σ : LO) (Z : ZT) : Prop :=
 cA P zaC [x0, x1, (iN 1), (iN 9007199254740992)] σ fun _ s =>
 Z (some []) s
theorem zjl : F2 Tryz.prog zaE zjB := zi [] Tryz.func166 (by decide +kernel) (by kernel_rfl) fun {_ _ _ _ _} => cast (by kernel_rfl)
def zhg (P : Program) (x0 x1 : AV) (σ : LO) (Z : ZT) : Prop :=
 zbf x1 σ fun a s =>
 fl 0 a s fun b s =>
 cA P zaE [x0, b] s fun _ s =>
 fl 1 a s fun d s =>
 cA P zaD [x0, d] s fun _ s =>
 zb 2 a s fun f s =>
 zg true 3 f s fun g s =>
 cA P zck [x0, g] s fun _ s =>
 fl 5 a s fun i s =>
 zaz .sl i s fun j s =>
 cA P zbe [x0, j, (iN 8)] s fun _ s =>
 fl 5 a s fun m s =>
 zaz .sl m s fun n s =>
 zcd [(iN 0)] s fun v s o =>
 zbM v fun p v => bP .lss p n s fun q s =>
 zp q (il true 7 7 m p s fun r s =>
 cp [iN 0, iN 0, iN 0, iN 0, iN 0, eN, eN] 7 r s fun u s =>
 zg true 7 u s fun w s =>
 cA P zeg [x0, w] s fun _ s =>
 bP .add p (iN 1) s fun z s =>
 o [z] s) (zb 6 a s fun A s =>
 zg true 2 A s fun B s =>
 cA P zbn [B] s fun C s =>
 cA P zN [x0, C] s fun _ s =>
 Z (some []) s)
theorem zgW : F2 Tryz.prog zdx zhg := zi [.l [26] [(5, 1), (27, 7)]] Tryz.func167 (by decide +kernel) (by kernel_rfl) fun {_ _ _ _ _} => cast (by kernel_rfl)
def zgE (P : Program) (x0 x1 : AV) (σ : LO) (Z : ZT) : Prop :=
 zbf x1 σ fun a s =>
 fl 1 a s fun b s =>
 cA P zaD [x0, b] s fun _ s =>
 fl 2 a s fun d s =>
 cA P zaE [x0, d] s fun _ s =>
 fl 13 a s fun f s =>
 zaz .sl f s fun g s =>
 cA P zbe [x0, g, (iN 13)] s fun _ s =>
 fl 13 a s fun i s =>
 zaz .sl i s fun j s =>
 zcd [(iN 0)] s fun v s l =>
 zbM v fun m v => bP .lss m j s fun n s =>
 zp n (il true 8 8 i m s fun o s =>
 cp [iN 0, iN 0, iN 0, iN 0, eN, eN, iN 0, iN 0] 8 o s fun p s =>
 zg true 8 p s fun q s =>
 cA P zdx [x0, q] s fun _ s =>
 bP .add m (iN 1) s fun u s =>
 l [u] s) (fl 14 a s fun w s =>
 zaz .sl w s fun y s =>
 cA P zbe [x0, y, (iN 8)] s fun _ s =>
 fl 14 a s fun A s =>
 zaz .sl A s fun B s =>
 zcd [(iN 0)] s fun v s C =>
 zbM v fun D v => bP .lss D B s fun E s =>
 zp E (il true 5 5 A D s fun F s =>
 cp [iN 0, iN 0, eN, iN 0, iN 0] 5 F s fun G s =>
 fl 0 G s fun H s =>
 cA P zaq [x0, H] s fun _ s =>
 fl 1 G s fun J s =>
 cA P zaE [x0, J] s fun _ s =>
 fl 2 G s fun L s =>
 cA P zaM [L] s fun M s =>
 cA P zN [x0, M] s fun _ s =>
 zb 3 G s fun O s =>
 zg true 2 O s fun Q s =>
 cA P zbn [Q] s fun R s =>
 cA P zN [x0, R] s fun _ s =>
 bP .add D (iN 1) s fun T s =>
 C [T] s) (Z (some []) s))
theorem zgy : F2 Tryz.prog zeA zgE := zi [.l [24] [(5, 1), (25, 7)], .l [40] [(7, 1), (41, 22)]] Tryz.func168 (by decide +kernel) (by kernel_rfl) fun {_ _ _ _ _} => cast (by kernel_rfl)
def ziC (P : Program) (x0 x1 : AV) (σ : LO) (Z : ZT) : Prop :=
 zbf x1 σ fun a s =>
 fl 0 a s fun b s =>
 cA P zaq [x0, b] s fun _ s =>
 fl 1 a s fun d s =>
 cA P zaq [x0, d] s fun _ s =>
 (fun (f : LO → Prop) => fl 0 a s fun i s =>
 bP .eql i (iN 0) s fun j s =>
 fl 1 a s fun l s =>
 bP .eql l (iN 0) s fun m s =>
 zcO .neq .bool j m s fun n s =>
 gFl n 0 a s fun o s =>
 gF n (bP .eql o (iN 0) s) s fun p s =>
 gFm n p s fun q s =>
 gTl q 2 a s fun r s =>
 gT q (zaz .sl r s) s fun u s =>
 gT q (bP .gtr u (iN 0) s) s fun w s =>
 gF n (anC q w s) s fun y s =>
 orC n y s fun z s =>
 zp z (cA P zN [x0, (iN 100)] s fun _ s =>
 f s) (f s))
 (fun  s => fl 2 a s fun g s =>
 cA P zaS [x0, g] s fun _ s =>
 Z (some []) s)
theorem ziv : F2 Tryz.prog zck ziC := zi [] Tryz.func169 (by decide +kernel) (by kernel_rfl) fun {_ _ _ _ _} => cast (by kernel_rfl)
def ziB (P : Program) (x0 x1 x2 : AV) (σ : LO) (Z : ZT) : Prop :=
 cA P zaC [x0, x1, (iN 0), x2] σ fun _ s =>
 Z (some []) s
theorem ziu : F3 Tryz.prog zbe ziB := zi [] Tryz.func170 (by decide +kernel) (by kernel_rfl) fun {_ _ _ _ _ _} => cast (by kernel_rfl)
def zmn (P : Program) (x0 : AV) (σ : LO) (Z : ZT) : Prop :=
 zbf x0 σ fun a s =>
 zQ [iN 0, iN 0, iN 0, iN 0, iN 0, iN 0, iN 0, iN 0, iN 0, iN 0, (.d (.str [])), iN 0, iN 0] s fun b s =>
 fl 0 a s fun c s =>
 fl 1 a s fun d s =>
 fl 5 a s fun e s =>
 fl 2 a s fun f s =>
 fl 3 a s fun g s =>
 fl 6 a s fun h s =>
 fl 17 a s fun i s =>
 fl 4 a s fun j s =>
 zb 7 a s fun l s =>
 zg true 2 l s fun m s =>
 fl 16 a s fun n s =>
 zb 28 a s fun o s =>
 zg true 2 o s fun p s =>
 zB (zR [iN 0, iN 0, iN 0, iN 0, iN 0, iN 0, iN 0, iN 0, iN 0, iN 0, (.d (.str [])), iN 0, iN 0] [(0, 1, c), (1, 1, d), (2, 1, e), (3, 1, f), (4, 1, g), (5, 1, h), (6, 1, i), (7, 1, j), (8, 2, m), (10, 1, n), (11, 2, p)]) s fun q s =>
 zf 13 b q s fun _ s =>
 Z (zI (zan b s true 13) (some [])) s
theorem zlX : F1 Tryz.prog zfM zmn := zi [] Tryz.func173 (by decide +kernel) (by kernel_rfl) fun {_ _ _ _} => cast (by kernel_rfl)
def zkh (P : Program) (x0 x1 : AV) (σ : LO) (Z : ZT) : Prop :=
 zbf x0 σ fun a s =>
 zbf x1 s fun b s =>
 fl 0 a s fun c s =>
 fl 0 b s fun d s =>
 bP .eql c d s fun e s =>
 gTl e 1 a s fun f s =>
 gTl e 1 b s fun g s =>
 gT e (bP .eql f g s) s fun h s =>
 anC e h s fun i s =>
 gTl i 2 a s fun j s =>
 gTl i 2 b s fun l s =>
 gT i (cA P zbI [j, l] s) s fun m s =>
 anC i m s fun n s =>
 z1 Z n s
theorem zjU : F2 Tryz.prog zdL zkh := zi [] Tryz.func174 (by decide +kernel) (by kernel_rfl) fun {_ _ _ _ _} => cast (by kernel_rfl)
def zaZ (P : Program) (x0 x1 x2 : AV) (σ : LO) (Z : ZT) : Prop :=
 zaz .sl x0 σ fun a s =>
 zaz .sl x1 s fun b s =>
 bP .neq a b s fun c s =>
 zp c (z1 Z bF s) (zaz .sl x0 s fun d s =>
 zcd [(iN 0)] s fun v s e =>
 zbM v fun f v => bP .lss f d s fun g s =>
 zp g (il true 8 8 x0 f s fun h s =>
 zQ [iN 0, iN 0, iN 0, iN 0, eN, eN, iN 0, iN 0] s fun i s =>
 zf 8 i h s fun _ s =>
 il true 8 8 x1 f s fun l s =>
 cp [iN 0, iN 0, iN 0, iN 0, eN, eN, iN 0, iN 0] 8 l s fun m s =>
 zg true 8 i s fun n s =>
 zg true 8 m s fun o s =>
 zam P x2 [dm n, dm o] s fun p s =>
 unC .not p s fun q s =>
 zp q (z1 Z bF s) (bP .add f (iN 1) s fun r s =>
 e [r] s)) (z1 Z bT s))
theorem zaX : F3 Tryz.prog zas zaZ := zi [.l [17] [(6, 4), (18, 14)]] Tryz.func175 (by decide +kernel) (by kernel_rfl) fun {_ _ _ _ _ _} => cast (by kernel_rfl)
def ziz (P : Program) (x0 x1 : AV) (σ : LO) (Z : ZT) : Prop :=
 zbf x0 σ fun a s =>
 zbf x1 s fun b s =>
 fl 0 a s fun c s =>
 fl 0 b s fun d s =>
 bP .eql c d s fun e s =>
 gTl e 1 a s fun f s =>
 gTl e 1 b s fun g s =>
 gT e (bP .eql f g s) s fun h s =>
 anC e h s fun i s =>
 gT i (zb 2 a s) s fun j s =>
 gT i (zg true 3 j s) s fun l s =>
 gT i (zb 2 b s) s fun m s =>
 gT i (zg true 3 m s) s fun n s =>
 gT i (cA P zdL [l, n] s) s fun o s =>
 anC i o s fun p s =>
 gTl p 5 a s fun q s =>
 gTl p 5 b s fun r s =>
 gT p (cA P zak [q, r, (.fn (.func zdw) [] [])] s) s fun u s =>
 anC p u s fun w s =>
 gT w (zb 6 a s) s fun y s =>
 gT w (zg true 2 y s) s fun z s =>
 gT w (zb 6 b s) s fun A s =>
 gT w (zg true 2 A s) s fun B s =>
 gT w (zcO .eql (.ints 2) z B s) s fun C s =>
 anC w C s fun D s =>
 z1 Z D s
theorem zis : F2 Tryz.prog zeb ziz := zi [] Tryz.func176 (by decide +kernel) (by kernel_rfl) fun {_ _ _ _ _} => cast (by kernel_rfl)
def zbi (P : Program) (x0 x1 x2 : AV) (σ : LO) (Z : ZT) : Prop :=
 zaz .sl x0 σ fun a s =>
 zaz .sl x1 s fun b s =>
 bP .neq a b s fun c s =>
 zp c (z1 Z bF s) (zaz .sl x0 s fun d s =>
 zcd [(iN 0)] s fun v s e =>
 zbM v fun f v => bP .lss f d s fun g s =>
 zp g (il true 5 5 x0 f s fun h s =>
 zQ [iN 0, iN 0, eN, iN 0, iN 0] s fun i s =>
 zf 5 i h s fun _ s =>
 il true 5 5 x1 f s fun l s =>
 cp [iN 0, iN 0, eN, iN 0, iN 0] 5 l s fun m s =>
 zg true 5 i s fun n s =>
 zg true 5 m s fun o s =>
 zam P x2 [dm n, dm o] s fun p s =>
 unC .not p s fun q s =>
 zp q (z1 Z bF s) (bP .add f (iN 1) s fun r s =>
 e [r] s)) (z1 Z bT s))
theorem zbh : F3 Tryz.prog zaw zbi := zi [.l [17] [(6, 4), (18, 14)]] Tryz.func177 (by decide +kernel) (by kernel_rfl) fun {_ _ _ _ _ _} => cast (by kernel_rfl)
end Go.Proofs.YtpgahkdjkanblaaGreat
