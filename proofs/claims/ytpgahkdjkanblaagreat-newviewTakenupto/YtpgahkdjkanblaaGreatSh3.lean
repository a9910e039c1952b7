/- The conditions of each function, its slots as variables, and that the logic's conditions are these. Printed by program. -/
import Derived.Test.YtpgahkdjkanblaaGreatNm
import Derived.KernelRfl
set_option linter.all false
set_option maxRecDepth 100000
set_option linter.unusedVariables false
namespace Go.Proofs.YtpgahkdjkanblaaGreat
open Go.AW
def zjD (P : Program) (x0 : AV) (σ : LO) (Z : ZT) : Prop :=
 zbf x0 σ fun a s =>
 zQ [iN 0] s fun b s =>
 zg true 30 a s fun c s =>
 cA P zcY [b, c] s fun _ s =>
 fl 0 b s fun e s =>
 bP .eql e (iN 0) s fun f s =>
 gT f (zg true 30 a s) s fun g s =>
 gT f (zg true 30 a s) s fun h s =>
 gT f (cA P zhy [h] s) s fun i t =>
 zZ a s t ∧ (gT f (cA P zkr [g, i] t) t fun j s =>
 gT f (unC .not j s) s fun l s =>
 anC f l s fun m s =>
 zp m (z1 Z (iN 100) s) (fl 0 b s fun n s =>
 z1 Z n s))
theorem zgz : F1 Tryz.prog zfo zjD := zi [.d [(0, 10)] [(6, [1])]] Tryz.func86 (by decide +kernel) (by kernel_rfl) fun {_ _ _ _} => cast (by kernel_rfl)
def zpQ (P : Program) (x0 x1 x2 x3 x4 : AV) (σ : LO) (Z : ZT) : Prop :=
 zbf x2 σ fun a s =>
 cA P zcg [x0, x4] s fun b s =>
 zc b 0 s fun c s =>
 zc b 1 s fun d s =>
 gT d (zg true 2 a s) s fun e s =>
 gTm d x3 s fun f s =>
 gTm d c s fun g s =>
 gT d (zB (zR [iN 0, iN 0] [(0, 1, f), (1, 1, g)]) s) s fun h s =>
 gT d (zcO .eql (.ints 2) e h s) s fun i s =>
 anC d i s fun j s =>
 gTm j x1 s fun l s =>
 gT j (zg true 2 a s) s fun m s =>
 gT j (cA P zdM [l, m] s) s fun n s =>
 anC j n s fun o s =>
 z1 Z o s
theorem zpv : F5 Tryz.prog ziG zpQ := zi [] Tryz.func87 (by decide +kernel) (by kernel_rfl) fun {_ _ _ _ _ _ _ _} => cast (by kernel_rfl)
def zqO (P : Program) (x0 : AV) (σ : LO) (Z : ZT) : Prop :=
 zbf x0 σ fun a s =>
 zQ [iN 0, iN 0] s fun b s =>
 fl 0 a s fun c s =>
 bP .eql c (iN 7) s fun d s =>
 gTl d 13 a s fun e s =>
 gT d (zaz .sl e s) s fun f s =>
 gT d (bP .eql f (iN 1) s) s fun g s =>
 anC d g s fun h s =>
 zp h (fl 13 a s fun i s =>
 zL none 8 i (iN 0) s fun j s =>
 zb 6 j s fun l s =>
 zg true 2 l s fun m s =>
 zf 2 b m s fun _ s =>
 Z (zI (zan b s true 2) (some [])) s) (zb 28 a s fun o s =>
 zg true 2 o s fun p s =>
 zf 2 b p s fun _ s =>
 Z (zI (zan b s true 2) (some [])) s)
theorem znE : F1 Tryz.prog znB zqO := zi [] Tryz.func88 (by decide +kernel) (by kernel_rfl) fun {_ _ _ _} => cast (by kernel_rfl)
def zoi (P : Program) (x0 x1 : AV) (σ : LO) (Z : ZT) : Prop :=
 cA P zav [x0, x1, (.fn (.func zfL) [] [])] σ fun a s =>
 z1 Z a s
theorem znW : F2 Tryz.prog zeR zoi := zi [] Tryz.func89 (by decide +kernel) (by kernel_rfl) fun {_ _ _ _ _} => cast (by kernel_rfl)
def ziy (P : Program) (x0 : AV) (σ : LO) (Z : ZT) : Prop :=
 zaz .sl x0 σ fun a s =>
 bP .gtr a (iN 4) s fun b s =>
 zp b (z1 Z (iN 3) s) (zaz .sl x0 s fun c s =>
 zcd [(iN 0)] s fun v s d =>
 zbM v fun e v => bP .lss e c s fun f s =>
 zp f (il true 9 9 x0 e s fun g s =>
 cp [iN 0, iN 0, iN 0, (.d (.str [])), (.d (.str [])), iN 0, eN, iN 0, iN 0] 9 g s fun h s =>
 zb 0 h s fun i s =>
 zg true 7 i s fun j s =>
 cA P zgm [j] s fun l s =>
 bP .neq l (iN 0) s fun m s =>
 zp m (z1 Z l s) (zb 7 h s fun n s =>
 zg true 2 n s fun o s =>
 cA P zbn [o] s fun p s =>
 bP .neq p (iN 0) s fun q s =>
 zp q (z1 Z p s) (bP .add e (iN 1) s fun r s =>
 d [r] s))) (zaz .sl x0 s fun u s =>
 zcd [(iN 0)] s fun v s w =>
 zbM v fun y v => bP .lss y u s fun z s =>
 zp z (il true 9 9 x0 y s fun A s =>
 zQ [iN 0, iN 0, iN 0, (.d (.str [])), (.d (.str [])), iN 0, eN, iN 0, iN 0] s fun B s =>
 zf 9 B A s fun _ s =>
 zdn (.sl 9) x0 none (some y) none s fun D s =>
 zaz .sl D s fun E s =>
 zcd [(iN 0)] s fun v s F =>
 zbM v fun G v => bP .lss G E s fun H s =>
 zp H (il true 9 9 D G s fun I s =>
 cp [iN 0, iN 0, iN 0, (.d (.str [])), (.d (.str [])), iN 0, eN, iN 0, iN 0] 9 I s fun J s =>
 zb 0 B s fun K s =>
 fl 0 K s fun L s =>
 zb 0 J s fun M s =>
 fl 0 M s fun N s =>
 bP .eql L N s fun O s =>
 gT O (zb 0 B s) s fun Q s =>
 gTl O 1 Q s fun R s =>
 gT O (zb 0 J s) s fun S s =>
 gTl O 1 S s fun T s =>
 gT O (bP .eql R T s) s fun U s =>
 anC O U s fun V s =>
 zp V (z1 Z (iN 5) s) (bP .add G (iN 1) s fun W s =>
 F [W] s)) (bP .add y (iN 1) s fun X s =>
 w [X] s)) (z1 Z (iN 0) s)))
theorem zir : F1 Tryz.prog zaM ziy := zi [.l [16] [(2, 1), (4, 3), (17, 16)], .l [35] [(2, 1), (7, 2), (10, 1), (36, 30)], .l [44] [(2, 1), (10, 1), (45, 20)]] Tryz.func90 (by decide +kernel) (by kernel_rfl) fun {_ _ _ _} => cast (by kernel_rfl)
def zgC (P : Program) (x0 x1 : AV) (σ : LO) (Z : ZT) : Prop :=
 cA P zaM [x1] σ fun a s =>
 bP .neq a (iN 0) s fun b s =>
 zp b (cA P zcC [x0] s fun c s =>
 z1 Z c s) (zam P (.fn (.func zex) [x1] []) [dm x0] s fun d s =>
 z1 Z d s)
theorem zfh : F2 Tryz.prog zcf zgC := zi [] Tryz.func91 (by decide +kernel) (by kernel_rfl) fun {_ _ _ _ _} => cast (by kernel_rfl)
def zmr (P : Program) (x0 x1 x2 x3 x4 x5 x6 x7 : AV) (σ : LO) (Z : ZT) : Prop :=
 zbf x2 σ fun a s =>
 cA P zfV [x0, x1] s fun b s =>
 gTm b x4 s fun c s =>
 gTm b x5 s fun d s =>
 gTm b x6 s fun e s =>
 gTm b x7 s fun f s =>
 gT b (cA P znC [c, d, e, f] s) s fun g s =>
 anC b g s fun h s =>
 gTm h x0 s fun i s =>
 gTm h x1 s fun j s =>
 gT h (zg true 2 a s) s fun l s =>
 gTm h x3 s fun m s =>
 gTm h x4 s fun n s =>
 gTm h x5 s fun o s =>
 gTm h x6 s fun p s =>
 gTm h x7 s fun q s =>
 gT h (cA P zcV [n, o, p, q] s) s fun r t =>
 zZ a s t ∧ (gT h (cA P ziG [i, j, l, m, r] t) t fun u s =>
 anC h u s fun w s =>
 z1 Z w s)
theorem zmb : F8 Tryz.prog zdJ zmr := zi [.d [(0, 23)] [(19, [10])]] Tryz.func92 (by decide +kernel) (by kernel_rfl) fun {_ _ _ _ _ _ _ _ _ _ _} => cast (by kernel_rfl)
def zuq (P : Program) (x0 : AV) (σ : LO) (Z : ZT) : Prop :=
 zbf x0 σ fun a s =>
 zQ [iN 0, (.d (.str [])), (.d (.str [])), iN 0, eN] s fun b s =>
 fl 4 a s fun c s =>
 zaz .sl c s fun d s =>
 zcd [eN, (iN 0)] s fun v s e =>
 zbM v fun f v => zbM v fun g v => bP .lss g d s fun h s =>
 zp h (il false 1 1 c g s fun i s =>
 cA P zcC [i] s fun j s =>
 m1 1 [eN] j s fun l s =>
 zE 1 24 f l s fun m s =>
 bP .add g (iN 1) s fun n s =>
 e [m, n] s) (zb 4 a s fun o s =>
 zf 1 o f s fun _ s =>
 zg true 5 a s fun q s =>
 zf 5 b q s fun _ s =>
 Z (zI (zan b s true 5) (some [])) s)
theorem ztV : F1 Tryz.prog zqn zuq := zi [.l [3, 9] [(5, 1), (10, 9)]] Tryz.func99 (by decide +kernel) (by kernel_rfl) fun {_ _ _ _} => cast (by kernel_rfl)
def zum (P : Program) (x0 x1 : AV) (σ : LO) (Z : ZT) : Prop :=
 zbf x0 σ fun a s =>
 zbf x1 s fun b s =>
 fl 0 a s fun c s =>
 fl 0 b s fun d s =>
 bP .neq c d s fun e s =>
 gFl e 1 a s fun f s =>
 gFl e 1 b s fun g s =>
 gF e (bP .neq f g s) s fun h s =>
 orC e h s fun i s =>
 gFl i 2 a s fun j s =>
 gFl i 2 b s fun l s =>
 gF i (bP .neq j l s) s fun m s =>
 orC i m s fun n s =>
 gFl n 3 a s fun o s =>
 gFl n 3 b s fun p s =>
 gF n (bP .neq o p s) s fun q s =>
 orC n q s fun r s =>
 gFl r 4 a s fun u s =>
 gF r (zaz .sl u s) s fun w s =>
 gFl r 4 b s fun y s =>
 gF r (zaz .sl y s) s fun z s =>
 gF r (bP .neq w z s) s fun A s =>
 orC r A s fun B s =>
 zp B (z1 Z bF s) (zcd [(iN 0)] s fun v s C =>
 zbM v fun D v => fl 4 a s fun E s =>
 zaz .sl E s fun F s =>
 bP .lss D F s fun G s =>
 zp G (fl 4 a s fun H s =>
 il false 1 1 H D s fun I s =>
 zau .toStr I s fun J s =>
 fl 4 b s fun K s =>
 il false 1 1 K D s fun L s =>
 zau .toStr L s fun M s =>
 bP .neq J M s fun N s =>
 zp N (z1 Z bF s) (bP .add D (iN 1) s fun O s =>
 C [O] s)) (z1 Z bT s))
theorem ztR : F2 Tryz.prog zqk zum := zi [.l [5] [(4, 1), (41, 20)], .d [(0, 13)] []] Tryz.func100 (by decide +kernel) (by kernel_rfl) fun {_ _ _ _ _} => cast (by kernel_rfl)
def zsL (P : Program) (x0 : AV) (σ : LO) (Z : ZT) : Prop :=
 cA P zcB [x0] σ fun a s =>
 bP .neq a (iN 0) s fun b s =>
 zp b (z2 Z (.d .nilp) a s) (zap s fun c s =>
 zB (zR [iN 0, iN 0, iN 0, eN, (.d .nilmap), eN] [(0, 1, x0), (4, 1, c)]) s fun d s =>
 zbf d s fun e s =>
 z2 Z e (iN 0) s)
theorem zsm : F1 Tryz.prog zov zsL := zi [] Tryz.func101 (by decide +kernel) (by kernel_rfl) fun {_ _ _ _} => cast (by kernel_rfl)
def zhb (P : Program) (x0 x1 : AV) (σ : LO) (Z : ZT) : Prop :=
 zbf x1 σ fun a s =>
 zg true 3 a s fun b s =>
 cA P zmJ [b] s fun c s =>
 zp c (z1 Z bT s) (fl 2 a s fun d s =>
 zaz .sl d s fun e s =>
 zcd [(iN 0)] s fun v s f =>
 zbM v fun g v => bP .lss g e s fun h s =>
 zp h (il true 2 2 d g s fun i s =>
 zQ [iN 0, iN 0] s fun j s =>
 zf 2 j i s fun _ s =>
 fl 0 a s fun m s =>
 fl 1 a s fun n s =>
 fl 0 j s fun o s =>
 cA P zgp [x0, m, n, o] s fun p s =>
 unC .not p s fun q s =>
 gFm q g s fun r s =>
 gF q (bP .gtr r (iN 0) s) s fun u s =>
 gFm q u s fun w s =>
 gTl w 0 j s fun y s =>
 gTl w 2 a s fun z s =>
 gTm w g s fun A s =>
 gT w (bP .sub A (iN 1) s) s fun B s =>
 gT w (zL none 2 z B s) s fun C s =>
 gTl w 0 C s fun D s =>
 gT w (bP .leq y D s) s fun E s =>
 gF q (anC w E s) s fun F s =>
 orC q F s fun G s =>
 zp G (z1 Z bF s) (bP .add g (iN 1) s fun H s =>
 f [H] s)) (zb 2 a s fun I s =>
 zg false 1 I s fun J s =>
 zaz .sl J s fun K s =>
 nfl 0 x0 s fun L s =>
 cA P zhI [L] s fun M t =>
 zZ I s t ∧ (bP .geq K M t fun N s =>
 z1 Z N s)))
theorem zgR : F2 Tryz.prog zfd zhb := zi [.l [12] [(4, 3), (13, 30)], .d [(0, 25)] [], .d [(0, 10)] [(7, [43])]] Tryz.func102 (by decide +kernel) (by kernel_rfl) fun {_ _ _ _ _} => cast (by kernel_rfl)
def zcR (P : Program) (x0 x1 : AV) (σ : LO) (Z : ZT) : Prop :=
 cA P zbR [x0, x1] σ fun a s =>
 bP .geq a (iN 0) s fun b s =>
 z1 Z b s
theorem zcN : F2 Tryz.prog zaQ zcR := zi [] Tryz.func103 (by decide +kernel) (by kernel_rfl) fun {_ _ _ _ _} => cast (by kernel_rfl)
def znl (P : Program) (x0 x1 x2 x3 : AV) (σ : LO) (Z : ZT) : Prop :=
 zbf x0 σ fun a s =>
 zg false 1 x1 s fun b s =>
 zg false 1 x2 s fun c s =>
 zg true 2 a s fun d s =>
 fl 0 a s fun e s =>
 fl 0 x3 s fun f s =>
 fl 1 x3 s fun g s =>
 cA P zdJ [b, c, d, e, (iN 6), (iN 0), f, g] s fun h s =>
 unC .not h s fun i s =>
 z1 Z i s
theorem zmX : F4 Tryz.prog zgo znl := zi [] Tryz.func104 (by decide +kernel) (by kernel_rfl) fun {_ _ _ _ _ _ _} => cast (by kernel_rfl)
def zmk (P : Program) (x0 x1 x2 x3 : AV) (σ : LO) (Z : ZT) : Prop :=
 zbf x3 σ fun a s =>
 cA P zcc [x0] s fun b s =>
 zcO .eql .ptr b (.d .nilp) s fun c s =>
 gFm c x1 s fun d s =>
 gF c (cA P zcl [d] s) s fun e s =>
 gF c (zcO .eql .ptr e (.d .nilp) s) s fun f s =>
 orC c f s fun g s =>
 gFm g x2 s fun h s =>
 gF g (cA P zcB [h] s) s fun i s =>
 gF g (bP .neq i (iN 0) s) s fun j s =>
 orC g j s fun l s =>
 gFl l 0 a s fun m s =>
 gF l (bP .lss m (iN 0) s) s fun n s =>
 orC l n s fun o s =>
 gFl o 0 a s fun p s =>
 gF o (bP .gtr p (iN 9007199254740992) s) s fun q s =>
 orC o q s fun r s =>
 gFl r 1 a s fun u s =>
 gF r (bP .lss u (iN 1) s) s fun w s =>
 orC r w s fun y s =>
 gFl y 1 a s fun z s =>
 gF y (bP .gtr z (iN 9007199254740992) s) s fun A s =>
 orC y A s fun B s =>
 gFm B x0 s fun C s =>
 gFm B x1 s fun D s =>
 gFl B 6 a s fun E s =>
 gF B (cA P zfE [C, D, E] s) s fun F s =>
 gF B (unC .not F s) s fun G s =>
 orC B G s fun H s =>
 zp H (z1 Z bF s) (fl 6 a s fun I s =>
 cA P zcf [eN, I] s fun J s =>
 cA P zcg [x0, J] s fun K s =>
 zc K 0 s fun L s =>
 zc K 1 s fun M s =>
 fl 0 a s fun N s =>
 cA P zeK [x2, N] s fun O s =>
 unC .not M s fun Q s =>
 gFm Q L s fun R s =>
 gFl Q 2 a s fun S s =>
 gF Q (bP .neq R S s) s fun T s =>
 orC Q T s fun U s =>
 gFm U x0 s fun V s =>
 gFm U x1 s fun W s =>
 gF U (zb 3 a s) s fun X s =>
 gF U (zg true 2 X s) s fun Y s =>
 gFm U O s fun a0 s =>
 gFl U 0 a s fun b0 s =>
 gFl U 1 a s fun c0 s =>
 gFm U L s fun d0 s =>
 gF U (cA P zdJ [V, W, Y, a0, (iN 2), b0, c0, d0] s) s fun e0 s =>
 gF U (unC .not e0 s) s fun f0 s =>
 orC U f0 s fun g0 s =>
 gFl g0 5 a s fun h0 s =>
 gF g0 (zaz .sl h0 s) s fun i0 s =>
 gFm g0 x2 s fun j0 s =>
 gF g0 (bP .mul (iN 2) j0 s) s fun l0 s =>
 gF g0 (bP .neq i0 l0 s) s fun m0 s =>
 orC g0 m0 s fun o0 s =>
 zp o0 (z1 Z bF s) (fl 5 a s fun p0 s =>
 zaz .sl p0 s fun q0 s =>
 zcd [(iN (-1)), (iN 0)] s fun v s r0 =>
 zbM v fun u0 v => zbM v fun w0 v => bP .lss w0 q0 s fun y0 s =>
 zp y0 (il true 2 2 p0 w0 s fun z0 s =>
 cp [iN 0, iN 0] 2 z0 s fun A0 s =>
 fl 0 A0 s fun B0 s =>
 bP .leq B0 u0 s fun C0 s =>
 gF C0 (zb 0 A0 s) s fun D0 s =>
 gF C0 (zg false 1 D0 s) s fun E0 s =>
 gFm C0 x2 s fun F0 s =>
 gF C0 (cA P zcU [F0] s) s fun G0 t =>
 zZ D0 s t ∧ (gF C0 (bP .geq E0 G0 t) t fun H0 s =>
 orC C0 H0 s fun I0 s =>
 gFl I0 0 A0 s fun J0 s =>
 gFm I0 O s fun K0 s =>
 gF I0 (bP .eql J0 K0 s) s fun L0 s =>
 orC I0 L0 s fun M0 s =>
 gFm M0 x0 s fun N0 s =>
 gFm M0 x1 s fun O0 s =>
 gF M0 (zg true 2 A0 s) s fun Q0 s =>
 gFl M0 0 A0 s fun R0 s =>
 gFl M0 0 a s fun S0 s =>
 gFl M0 1 a s fun T0 s =>
 gFm M0 L s fun U0 s =>
 gF M0 (cA P zdJ [N0, O0, Q0, R0, (iN 3), S0, T0, U0] s) s fun V0 s =>
 gF M0 (unC .not V0 s) s fun W0 s =>
 orC M0 W0 s fun X0 s =>
 zp X0 (z1 Z bF s) (fl 0 A0 s fun Y0 s =>
 bP .add w0 (iN 1) s fun a1 s =>
 r0 [Y0, a1] s))) (z1 Z bT s)))
theorem zlU : F4 Tryz.prog zih zmk := zi [.l [12, 101] [(8, 1), (14, 1), (102, 37)], .d [(0, 31)] [(8, [110])]] Tryz.func105 (by decide +kernel) (by kernel_rfl) fun {_ _ _ _ _ _ _} => cast (by kernel_rfl)
def zlB (P : Program) (x0 : AV) (σ : LO) (Z : ZT) : Prop :=
 zY false x0 σ fun a s =>
 zp a (z1 Z eN s) (zj false 1 0 (zR (rep [(.d (.int .u8 0))] 0) []) s fun b s =>
 zE 1 1 b x0 s fun c s =>
 z1 Z c s)
theorem ziH : F1 Tryz.prog zcC zlB := zi [] Tryz.func108 (by decide +kernel) (by kernel_rfl) fun {_ _ _ _} => cast (by kernel_rfl)
def zun (P : Program) (x0 x1 : AV) (σ : LO) (Z : ZT) : Prop :=
 zau .toStr x0 σ fun a s =>
 zau .toStr x1 s fun b s =>
 bP .eql a b s fun c s =>
 z1 Z c s
theorem ztS : F2 Tryz.prog zql zun := zi [] Tryz.func109 (by decide +kernel) (by kernel_rfl) fun {_ _ _ _ _} => cast (by kernel_rfl)
def znf (P : Program) (x0 : AV) (σ : LO) (Z : ZT) : Prop :=
 cA P zfu [x0] σ fun a s =>
 bP .gtr a (iN 0) s fun b s =>
 gFm b x0 s fun c s =>
 gF b (cA P zcc [c] s) s fun d s =>
 gF b (zcO .neq .ptr d (.d .nilp) s) s fun e s =>
 orC b e s fun f s =>
 z1 Z f s
theorem zmR : F1 Tryz.prog ziV znf := zi [] Tryz.func110 (by decide +kernel) (by kernel_rfl) fun {_ _ _ _} => cast (by kernel_rfl)
def zut (P : Program) (x0 x1 x2 x3 : AV) (σ : LO) (Z : ZT) : Prop :=
 zj false 1 4 (zR (rep [iN 0] 4) [(0, 1, x0), (1, 1, x1), (2, 1, x2), (3, 1, x3)]) σ fun a s =>
 zaz .sl a s fun b s =>
 zcd [(iN 0)] s fun v s c =>
 zbM v fun d v => bP .lss d b s fun e s =>
 zp e (il false 1 1 a d s fun f s =>
 bP .lss f (iN 0) s fun g s =>
 gFm g f s fun h s =>
 gF g (bP .gtr h (iN 9007199254740992) s) s fun i s =>
 orC g i s fun j s =>
 zp j (z1 Z bF s) (bP .add d (iN 1) s fun l s =>
 c [l] s)) (z1 Z bT s)
theorem ztY : F4 Tryz.prog znC zut := zi [.l [17] [(8, 1), (10, 1), (18, 10)]] Tryz.func111 (by decide +kernel) (by kernel_rfl) fun {_ _ _ _ _ _ _} => cast (by kernel_rfl)
def zmq (P : Program) (x0 x1 x2 x3 : AV) (σ : LO) (Z : ZT) : Prop :=
 m1 1 [(.d (.int .u8 0))] (.d (.int .u8 4)) σ fun a s =>
 zj false 1 4 (zR (rep [iN 0] 4) [(0, 1, x0), (1, 1, x1), (2, 1, x2), (3, 1, x3)]) s fun b s =>
 cA P znA [a, b] s fun c s =>
 z1 Z c s
theorem zma : F4 Tryz.prog zcV zmq := zi [] Tryz.func112 (by decide +kernel) (by kernel_rfl) fun {_ _ _ _ _ _ _} => cast (by kernel_rfl)
def zgF (P : Program) (x0 : AV) (σ : LO) (Z : ZT) : Prop :=
 zbf x0 σ fun a s =>
 (fun (b : LO → Prop) => fl 0 a s fun p s =>
 bP .eql p (iN 7) s fun q s =>
 gTl q 13 a s fun r s =>
 gT q (zaz .sl r s) s fun u s =>
 gT q (bP .eql u (iN 1) s) s fun w s =>
 anC q w s fun y s =>
 zp y (fl 13 a s fun z s =>
 il true 8 8 z (iN 0) s fun A s =>
 cp [iN 0, iN 0, iN 0, iN 0, eN, eN, iN 0, iN 0] 8 A s fun B s =>
 cA P zhx [] s fun C s =>
 zb 6 B s fun D s =>
 zf 2 D C s fun _ s =>
 zg true 8 B s fun F s =>
 m1 8 [iN 0, iN 0, iN 0, iN 0, eN, eN, iN 0, iN 0] F s fun G s =>
 zb 13 a s fun H s =>
 zf 1 H G s fun _ s =>
 b s) (fl 0 a s fun J s =>
 cA P zdH [J] s fun K s =>
 zp K (cA P zhx [] s fun L s =>
 zb 28 a s fun M s =>
 zf 2 M L s fun _ s =>
 b s) (b s)))
 (fun  s => zg true 30 a s fun c s =>
 cA P zgr [c] s fun d s =>
 zc d 0 s fun _ s =>
 zc d 1 s fun f s =>
 bP .neq f (iN 0) s fun g s =>
 zp g (z2 Z eN f s) (zB (zR [eN] []) s fun h s =>
 zbf h s fun i s =>
 zg true 30 a s fun j s =>
 cA P zbX [i, j] s fun _ s =>
 zbY i s fun m s =>
 zb 0 m s fun n s =>
 fl 0 n s fun o s =>
 z2 Z o (iN 0) s))
theorem zfi : F1 Tryz.prog zfg zgF := zi [] Tryz.func113 (by decide +kernel) (by kernel_rfl) fun {_ _ _ _} => cast (by kernel_rfl)
def zus (P : Program) (x0 x1 : AV) (σ : LO) (Z : ZT) : Prop :=
 zaz .sl x1 σ fun a s =>
 zcd [x0, (iN 0)] s fun v s b =>
 zbM v fun c v => zbM v fun d v => bP .lss d a s fun e s =>
 zp e (il false 1 1 x1 d s fun f s =>
 zdz [(iN 0), f] s fun g s =>
 zau (.int .u64) g s fun h s =>
 cA P zbg [c, h] s fun i s =>
 bP .add d (iN 1) s fun j s =>
 b [i, j] s) (z1 Z c s)
theorem ztX : F2 Tryz.prog znA zus := zi [.l [0, 9] [(6, 1), (10, 9)]] Tryz.func114 (by decide +kernel) (by kernel_rfl) fun {_ _ _ _ _} => cast (by kernel_rfl)
def zme (P : Program) (x0 : AV) (σ : LO) (Z : ZT) : Prop :=
 zbf x0 σ fun a s =>
 zQ [iN 0, iN 0, iN 0, iN 0, iN 0, iN 0, iN 0, iN 0, iN 0, eN, iN 0, iN 0, eN, eN, eN, eN, (.d (.str [])), iN 0, (.d (.str [])), iN 0, eN, eN, iN 0, iN 0, eN, iN 0, iN 0, eN, iN 0, iN 0] s fun b s =>
 fl 9 a s fun c s =>
 zb 10 a s fun d s =>
 zg true 3 d s fun e s =>
 zb 15 a s fun f s =>
 zg false 1 f s fun g s =>
 zl P zdo [c] s fun h t =>
 zZ d s t ∧ (zZ f s t ∧ (zb 9 a t fun i s =>
 zl P zdp [e] s fun j t =>
 zZ f s t ∧ (zl P zcC [g] t fun l s =>
 zf 1 i h s fun _ s =>
 zb 10 a s fun n s =>
 zf 3 n j s fun _ s =>
 zb 15 a s fun p s =>
 zf 1 p l s fun _ s =>
 fl 13 a s fun r s =>
 zb 14 a s fun u s =>
 zg false 1 u s fun w s =>
 zl P zbW [r] s fun y t =>
 zZ u s t ∧ (zb 13 a t fun z s =>
 zl P zce [w] s fun A s =>
 zf 1 z y s fun _ s =>
 zb 14 a s fun C s =>
 zf 1 C A s fun _ s =>
 fl 13 a s fun E s =>
 zaz .sl E s fun F s =>
 zcd [(iN 0)] s fun v s G =>
 zbM v fun H v => bP .lss H F s fun I s =>
 zp I (zb 13 a s fun J s =>
 zg false 1 J s fun K s =>
 fl 13 a s fun L s =>
 il true 8 8 L H s fun M s =>
 zl P zfn [M] s fun N t =>
 zZ J s t ∧ (zL none 8 K H t fun O s =>
 zf 8 O N s fun _ s =>
 bP .add H (iN 1) s fun R s =>
 G [R] s)) (fl 14 a s fun S s =>
 zaz .sl S s fun T s =>
 zcd [(iN 0)] s fun v s U =>
 zbM v fun V v => bP .lss V T s fun W s =>
 zp W (zb 14 a s fun X s =>
 zg false 1 X s fun Y s =>
 fl 14 a s fun a0 s =>
 zL none 5 a0 V s fun b0 s =>
 fl 2 b0 s fun c0 s =>
 zl P zdo [c0] s fun d0 t =>
 zZ X s t ∧ (zL none 5 Y V t fun e0 s =>
 zb 2 e0 s fun f0 s =>
 zf 1 f0 d0 s fun _ s =>
 bP .add V (iN 1) s fun h0 s =>
 U [h0] s)) (zb 18 a s fun i0 s =>
 fl 2 i0 s fun j0 s =>
 zb 18 a s fun l0 s =>
 zb 3 l0 s fun m0 s =>
 zg false 1 m0 s fun o0 s =>
 zb 18 a s fun p0 s =>
 zb 6 p0 s fun q0 s =>
 zg false 1 q0 s fun r0 s =>
 zl P zcC [j0] s fun u0 t =>
 zZ m0 s t ∧ (zZ q0 s t ∧ (zb 18 a t fun w0 s =>
 zb 2 w0 s fun y0 s =>
 zl P zbU [o0] s fun z0 t =>
 zZ q0 s t ∧ (zl P zbV [r0] t fun A0 s =>
 zf 1 y0 u0 s fun _ s =>
 zb 18 a s fun C0 s =>
 zb 3 C0 s fun D0 s =>
 zf 1 D0 z0 s fun _ s =>
 zb 18 a s fun F0 s =>
 zb 6 F0 s fun G0 s =>
 zf 1 G0 A0 s fun _ s =>
 zb 18 a s fun I0 s =>
 zb 7 I0 s fun J0 s =>
 zg true 3 J0 s fun K0 s =>
 zl P zdp [K0] s fun L0 s =>
 zb 18 a s fun M0 s =>
 zb 7 M0 s fun N0 s =>
 zf 3 N0 L0 s fun _ s =>
 zg true 30 a s fun Q0 s =>
 zf 30 b Q0 s fun _ s =>
 Z (zI (zan b s true 30) (some [])) s)))))))))
theorem zlO : F1 Tryz.prog ziZ zme := zlv [.d [(0, 2), (3, 2), (6, 2), (2, 1), (9, 1), (5, 1), (8, 1), (10, 5)] [(2, [8, 11]), (5, [11])], .d [(0, 2), (3, 2), (2, 1), (6, 1), (5, 1), (7, 3)] [(2, [20])], .l [28] [(3, 1), (29, 13)], .d [(0, 11)] [(8, [31])], .l [45] [(4, 1), (46, 15)], .d [(0, 13)] [(9, [48])], .d [(0, 3), (4, 3), (8, 3), (3, 1), (12, 2), (7, 1), (11, 1), (14, 7)] [(3, [66, 70]), (7, [70])]] Tryz.func115 (by decide +kernel) (by kernel_rfl) fun {_ _ _ _} => cast (by kernel_rfl)
def zeI (P : Program) (x0 x1 : AV) (σ : LO) (Z : ZT) : Prop :=
 zbf x1 σ fun a s =>
 (fun (b : LO → Prop) => fl 0 a s fun i s =>
 bP .eql i (iN 1) s fun j s =>
 zp j (fl 9 a s fun l s =>
 zaz .sl l s fun m s =>
 cA P zaC [x0, m, (iN 1), (iN 1)] s fun _ s =>
 fl 9 a s fun o s =>
 cA P zaM [o] s fun p s =>
 cA P zN [x0, p] s fun _ s =>
 b s) (bP .eql i (iN 2) s fun r s =>
 zp r (zg true 30 a s fun u s =>
 cA P zio [x0, u] s fun _ s =>
 fl 9 a s fun y s =>
 cA P zaM [y] s fun z s =>
 cA P zN [x0, z] s fun _ s =>
 b s) ((fun (B : AV → LO → Prop) => bP .eql i (iN 3) s fun q1 s =>
 zp q1 (B q1 s) (bP .eql i (iN 4) s fun r1 s =>
 B r1 s))
 (fun C s => zp C (zg true 30 a s fun D s =>
 cA P zio [x0, D] s fun _ s =>
 b s) (bP .eql i (iN 5) s fun F s =>
 zp F (fl 1 a s fun G s =>
 cA P zaD [x0, G] s fun _ s =>
 fl 2 a s fun I s =>
 cA P zaq [x0, I] s fun _ s =>
 fl 5 a s fun K s =>
 cA P zaC [x0, K, (iN 0), (iN 7)] s fun _ s =>
 fl 6 a s fun M s =>
 cA P zaq [x0, M] s fun _ s =>
 zb 7 a s fun O s =>
 fl 0 O s fun Q s =>
 cA P zaC [x0, Q, (iN 0), (iN 65536)] s fun _ s =>
 zb 7 a s fun S s =>
 fl 1 S s fun T s =>
 cA P zaq [x0, T] s fun _ s =>
 b s) (bP .eql i (iN 6) s fun V s =>
 zp V (fl 1 a s fun W s =>
 cA P zaD [x0, W] s fun _ s =>
 fl 3 a s fun Y s =>
 cA P zaE [x0, Y] s fun _ s =>
 fl 4 a s fun b0 s =>
 cA P zaE [x0, b0] s fun _ s =>
 b s) (bP .eql i (iN 7) s fun d0 s =>
 zp d0 (fl 13 a s fun e0 s =>
 zaz .sl e0 s fun f0 s =>
 cA P zaC [x0, f0, (iN 1), (iN 1)] s fun _ s =>
 fl 13 a s fun h0 s =>
 zaz .sl h0 s fun i0 s =>
 zcd [(iN 0)] s fun v s j0 =>
 zbM v fun l0 v => bP .lss l0 i0 s fun m0 s =>
 zp m0 ((fun (o0 : LO → Prop) => il true 8 8 h0 l0 s fun q0 s =>
 cp [iN 0, iN 0, iN 0, iN 0, eN, eN, iN 0, iN 0] 8 q0 s fun r0 s =>
 zg true 8 r0 s fun u0 s =>
 cA P zdx [x0, u0] s fun _ s =>
 fl 1 r0 s fun y0 s =>
 fl 1 a s fun z0 s =>
 bP .neq y0 z0 s fun A0 s =>
 gFl A0 0 r0 s fun B0 s =>
 gFl A0 2 a s fun C0 s =>
 gF A0 (bP .neq B0 C0 s) s fun D0 s =>
 orC A0 D0 s fun E0 s =>
 zp E0 (cA P zN [x0, (iN 100)] s fun _ s =>
 o0 s) (o0 s))
 (fun  s => bP .add l0 (iN 1) s fun p0 s =>
 j0 [p0] s)) (b s)) (bP .eql i (iN 8) s fun G0 s =>
 zp G0 (zg true 30 a s fun H0 s =>
 cA P zeA [x0, H0] s fun _ s =>
 b s) (bP .eql i (iN 9) s fun J0 s =>
 zp J0 (fl 1 a s fun K0 s =>
 cA P zaD [x0, K0] s fun _ s =>
 fl 3 a s fun M0 s =>
 cA P zaq [x0, M0] s fun _ s =>
 b s) (bP .eql i (iN 10) s fun O0 s =>
 zp O0 (fl 1 a s fun Q0 s =>
 cA P zaD [x0, Q0] s fun _ s =>
 zb 10 a s fun S0 s =>
 zg true 3 S0 s fun T0 s =>
 cA P zck [x0, T0] s fun _ s =>
 fl 15 a s fun V0 s =>
 zaz .sl V0 s fun W0 s =>
 cA P zbe [x0, W0, (iN 262144)] s fun _ s =>
 b s) (bP .eql i (iN 11) s fun Y0 s =>
 zp Y0 (fl 5 a s fun a1 s =>
 cA P zaC [x0, a1, (iN 0), (iN 7)] s fun _ s =>
 fl 16 a s fun c1 s =>
 cA P znM [x0, c1] s fun _ s =>
 fl 17 a s fun e1 s =>
 cA P zaq [x0, e1] s fun _ s =>
 b s) (bP .eql i (iN 12) s fun g1 s =>
 zp g1 (fl 1 a s fun h1 s =>
 cA P zaD [x0, h1] s fun _ s =>
 zb 18 a s fun j1 s =>
 zg true 10 j1 s fun l1 s =>
 cA P zmK [x0, l1] s fun _ s =>
 b s) (cA P zN [x0, (iN 100)] s fun _ s =>
 b s)))))))))))))
 (fun  s => fl 0 a s fun c s =>
 cA P zdH [c] s fun d s =>
 zp d (zb 28 a s fun e s =>
 zg true 2 e s fun f s =>
 cA P zbn [f] s fun g s =>
 cA P zN [x0, g] s fun _ s =>
 Z (some []) s) (Z (some []) s))
theorem zda : F2 Tryz.prog zcY zeI := zi [.l [90] [(5, 1), (91, 21)]] Tryz.func121 (by decide +kernel) (by kernel_rfl) fun {_ _ _ _ _} => cast (by kernel_rfl)
def zop (P : Program) (x0 x1 : AV) (σ : LO) (Z : ZT) : Prop :=
 zbf x0 σ fun a s =>
 zbf x1 s fun b s =>
 zg true 30 a s fun c s =>
 zg true 30 b s fun d s =>
 cA P zfM [c] s fun e t =>
 zZ b s t ∧ (cA P zfM [d] t fun f s =>
 zcO .eql (.flat [false, false, false, false, false, false, false, false, false, false, true, false, false]) e f s fun g s =>
 gTl g 9 a s fun h s =>
 gTl g 9 b s fun i s =>
 gT g (cA P zeR [h, i] s) s fun j s =>
 anC g j s fun l s =>
 gT l (zb 10 a s) s fun m s =>
 gT l (zg true 3 m s) s fun n s =>
 gT l (zb 10 b s) s fun o s =>
 gT l (zg true 3 o s) s fun p s =>
 gT l (cA P zdL [n, p] s) s fun q s =>
 anC l q s fun r s =>
 gTl r 13 a s fun u s =>
 gTl r 13 b s fun w s =>
 gT r (cA P zas [u, w, (.fn (.func zeb) [] [])] s) s fun y s =>
 anC r y s fun z s =>
 gTl z 14 a s fun A s =>
 gTl z 14 b s fun B s =>
 gT z (cA P zaw [A, B, (.fn (.func zez) [] [])] s) s fun C s =>
 anC z C s fun D s =>
 gTl D 15 a s fun E s =>
 gTl D 15 b s fun F s =>
 gT D (cA P zgt [E, F] s) s fun G s =>
 anC D G s fun H s =>
 gT H (zb 18 a s) s fun I s =>
 gT H (zg true 10 I s) s fun J s =>
 gT H (zb 18 b s) s fun K s =>
 gT H (zg true 10 K s) s fun L s =>
 gT H (cA P zfU [J, L] s) s fun M s =>
 anC H M s fun N s =>
 z1 Z N s)
theorem zod : F2 Tryz.prog zkr zop := zi [.d [(0, 1), (2, 1), (1, 1), (3, 45)] [(1, [3])]] Tryz.func122 (by decide +kernel) (by kernel_rfl) fun {_ _ _ _ _} => cast (by kernel_rfl)
def zku (P : Program) (x0 : AV) (σ : LO) (Z : ZT) : Prop :=
 zbf x0 σ fun a s =>
 zQ [iN 0, iN 0, iN 0, iN 0, iN 0, iN 0, iN 0, iN 0, iN 0, eN, iN 0, iN 0, eN, eN, eN, eN, (.d (.str [])), iN 0, (.d (.str [])), iN 0, eN, eN, iN 0, iN 0, eN, iN 0, iN 0, eN, iN 0, iN 0] s fun b s =>
 fl 0 a s fun c s =>
 fl 1 a s fun d s =>
 zB (zR [iN 0, iN 0, iN 0, iN 0, iN 0, iN 0, iN 0, iN 0, iN 0, eN, iN 0, iN 0, eN, eN, eN, eN, (.d (.str [])), iN 0, (.d (.str [])), iN 0, eN, eN, iN 0, iN 0, eN, iN 0, iN 0, eN, iN 0, iN 0] [(0, 1, c), (1, 1, d)]) s fun e s =>
 cp [iN 0, iN 0, iN 0, iN 0, iN 0, iN 0, iN 0, iN 0, iN 0, eN, iN 0, iN 0, eN, eN, eN, eN, (.d (.str [])), iN 0, (.d (.str [])), iN 0, eN, eN, iN 0, iN 0, eN, iN 0, iN 0, eN, iN 0, iN 0] 30 e s fun f s =>
 (fun (g : LO → Prop) => fl 0 a s fun r s =>
 bP .eql r (iN 1) s fun u s =>
 zp u (zb 9 a s fun w s =>
 zg false 1 w s fun y s =>
 zb 1 f s fun z s =>
 zf 1 z (iN 0) s fun _ t =>
 zZ w s t ∧ (zb 9 f t fun B s =>
 zf 1 B y s fun _ s =>
 g s)) ((fun (D : AV → LO → Prop) => bP .eql r (iN 2) s fun M1 s =>
 zp M1 (D M1 s) (bP .eql r (iN 3) s fun N1 s =>
 zp N1 (D N1 s) (bP .eql r (iN 4) s fun O1 s =>
 D O1 s)))
 (fun E s => zp E (fl 2 a s fun F s =>
 zb 3 a s fun G s =>
 zg false 1 G s fun H s =>
 zb 4 a s fun I s =>
 zg false 1 I s fun J s =>
 zb 2 f s fun K s =>
 zf 1 K F s fun _ t =>
 zZ G s t ∧ (zZ I s t ∧ (zb 3 f t fun M s =>
 zf 1 M H s fun _ t =>
 zZ I s t ∧ (zb 4 f t fun O s =>
 zf 1 O J s fun _ s =>
 fl 0 a s fun R s =>
 bP .eql R (iN 2) s fun S s =>
 zp S (fl 9 a s fun T s =>
 zb 9 f s fun U s =>
 zf 1 U T s fun _ s =>
 g s) (g s))))) (bP .eql r (iN 5) s fun W s =>
 zp W (fl 2 a s fun X s =>
 zb 5 a s fun Y s =>
 zg false 1 Y s fun a0 s =>
 zb 6 a s fun b0 s =>
 zg false 1 b0 s fun c0 s =>
 zb 7 a s fun d0 s =>
 zg true 2 d0 s fun e0 s =>
 zb 2 f s fun f0 s =>
 zf 1 f0 X s fun _ t =>
 zZ Y s t ∧ (zZ b0 s t ∧ (zZ d0 s t ∧ (zb 5 f t fun h0 s =>
 zf 1 h0 a0 s fun _ t =>
 zZ b0 s t ∧ (zZ d0 s t ∧ (zb 6 f t fun j0 s =>
 zf 1 j0 c0 s fun _ t =>
 zZ d0 s t ∧ (zb 7 f t fun m0 s =>
 zf 2 m0 e0 s fun _ s =>
 g s))))))) (bP .eql r (iN 6) s fun p0 s =>
 zp p0 (fl 3 a s fun q0 s =>
 zb 4 a s fun r0 s =>
 zg false 1 r0 s fun u0 s =>
 zb 3 f s fun w0 s =>
 zf 1 w0 q0 s fun _ t =>
 zZ r0 s t ∧ (zb 4 f t fun z0 s =>
 zf 1 z0 u0 s fun _ s =>
 g s)) (bP .eql r (iN 7) s fun B0 s =>
 zp B0 (fl 2 a s fun C0 s =>
 zb 13 a s fun D0 s =>
 zg false 1 D0 s fun E0 s =>
 zb 2 f s fun F0 s =>
 zf 1 F0 C0 s fun _ t =>
 zZ D0 s t ∧ (zb 13 f t fun H0 s =>
 zf 1 H0 E0 s fun _ s =>
 g s)) (bP .eql r (iN 8) s fun J0 s =>
 zp J0 (fl 2 a s fun K0 s =>
 zb 13 a s fun L0 s =>
 zg false 1 L0 s fun M0 s =>
 zb 14 a s fun N0 s =>
 zg false 1 N0 s fun O0 s =>
 zb 2 f s fun Q0 s =>
 zf 1 Q0 K0 s fun _ t =>
 zZ L0 s t ∧ (zZ N0 s t ∧ (zb 13 f t fun S0 s =>
 zf 1 S0 M0 s fun _ t =>
 zZ N0 s t ∧ (zb 14 f t fun U0 s =>
 zf 1 U0 O0 s fun _ s =>
 g s)))) (bP .eql r (iN 9) s fun W0 s =>
 zp W0 (fl 3 a s fun X0 s =>
 zb 3 f s fun Y0 s =>
 zf 1 Y0 X0 s fun _ s =>
 g s) (bP .eql r (iN 10) s fun b1 s =>
 zp b1 (zb 10 a s fun c1 s =>
 zg true 3 c1 s fun d1 s =>
 zb 15 a s fun e1 s =>
 zg false 1 e1 s fun f1 s =>
 zb 10 f s fun g1 s =>
 zf 3 g1 d1 s fun _ t =>
 zZ e1 s t ∧ (zb 15 f t fun i1 s =>
 zf 1 i1 f1 s fun _ s =>
 g s)) (bP .eql r (iN 11) s fun l1 s =>
 zp l1 (zb 5 a s fun o1 s =>
 zg false 1 o1 s fun p1 s =>
 zb 16 a s fun q1 s =>
 zg false 1 q1 s fun r1 s =>
 zb 17 a s fun u1 s =>
 zg false 1 u1 s fun w1 s =>
 zb 1 f s fun y1 s =>
 zf 1 y1 (iN 0) s fun _ t =>
 zZ o1 s t ∧ (zZ q1 s t ∧ (zZ u1 s t ∧ (zb 5 f t fun B1 s =>
 zf 1 B1 p1 s fun _ t =>
 zZ q1 s t ∧ (zZ u1 s t ∧ (zb 16 f t fun D1 s =>
 zf 1 D1 r1 s fun _ t =>
 zZ u1 s t ∧ (zb 17 f t fun F1 s =>
 zf 1 F1 w1 s fun _ s =>
 g s))))))) (bP .eql r (iN 12) s fun H1 s =>
 zp H1 (zb 18 a s fun I1 s =>
 zg true 10 I1 s fun J1 s =>
 zb 18 f s fun K1 s =>
 zf 10 K1 J1 s fun _ s =>
 g s) (g s))))))))))))
 (fun  s => (fun (h : LO → Prop) => fl 0 a s fun l s =>
 cA P zdH [l] s fun m s =>
 zp m (zb 28 a s fun n s =>
 zg true 2 n s fun o s =>
 zb 28 f s fun p s =>
 zf 2 p o s fun _ s =>
 h s) (h s))
 (fun  s => zg true 30 f s fun i s =>
 zf 30 b i s fun _ s =>
 Z (zI (zan b s true 30) (some [])) s))
theorem zhA : F1 Tryz.prog zhy zku := zi [.d [(0, 6)] [(3, [13])], .d [(0, 12)] [(7, [23, 25]), (9, [25])], .d [(0, 16)] [(9, [40, 42, 44]), (11, [42, 44]), (13, [44])], .d [(0, 8)] [(5, [54])], .d [(0, 8)] [(5, [62])], .d [(0, 12)] [(7, [70, 72]), (9, [72])], .d [(0, 8)] [(5, [86])], .d [(0, 14)] [(7, [92, 94, 96]), (9, [94, 96]), (11, [96])]] Tryz.func123 (by decide +kernel) (by kernel_rfl) fun {_ _ _ _} => cast (by kernel_rfl)
def zhZ (P : Program) (x0 x1 : AV) (σ : LO) (Z : ZT) : Prop :=
 zbf x1 σ fun a s =>
 cA P zcv [x0] s fun b s =>
 unC .not b s fun c s =>
 gTm c x0 s fun d s =>
 gT c (zbY d s) s fun e s =>
 gTl c 1 e s fun f s =>
 gT c (zg true 2 a s) s fun g s =>
 gT c (zaK (.ints 2) false bF f g s) s fun h s =>
 anC c h s fun i s =>
 z1 Z i s
theorem zhS : F2 Tryz.prog zdM zhZ := zi [.d [(0, 12)] []] Tryz.func124 (by decide +kernel) (by kernel_rfl) fun {_ _ _ _ _} => cast (by kernel_rfl)
def zbd (P : Program) (x0 x1 x2 : AV) (σ : LO) (Z : ZT) : Prop :=
 zaz .sl x0 σ fun a s =>
 zaz .sl x1 s fun b s =>
 bP .neq a b s fun c s =>
 zp c (z1 Z bF s) (zaz .sl x0 s fun d s =>
 zcd [(iN 0)] s fun v s e =>
 zbM v fun f v => bP .lss f d s fun g s =>
 zp g (il true 9 9 x0 f s fun h s =>
 zQ [iN 0, iN 0, iN 0, (.d (.str [])), (.d (.str [])), iN 0, eN, iN 0, iN 0] s fun i s =>
 zf 9 i h s fun _ s =>
 il true 9 9 x1 f s fun l s =>
 cp [iN 0, iN 0, iN 0, (.d (.str [])), (.d (.str [])), iN 0, eN, iN 0, iN 0] 9 l s fun m s =>
 zg true 9 i s fun n s =>
 zg true 9 m s fun o s =>
 zam P x2 [dm n, dm o] s fun p s =>
 unC .not p s fun q s =>
 zp q (z1 Z bF s) (bP .add f (iN 1) s fun r s =>
 e [r] s)) (z1 Z bT s))
theorem zbc : F3 Tryz.prog zav zbd := zi [.l [17] [(6, 4), (18, 14)]] Tryz.func125 (by decide +kernel) (by kernel_rfl) fun {_ _ _ _ _ _} => cast (by kernel_rfl)
def zmf (P : Program) (x0 x1 : AV) (σ : LO) (Z : ZT) : Prop :=
 zbf x0 σ fun a s =>
 zbf x1 s fun b s =>
 zb 7 a s fun c s =>
 zg true 2 c s fun d s =>
 zb 7 b s fun e s =>
 zg true 2 e s fun f s =>
 zcO .eql (.ints 2) d f s fun g s =>
 gT g (zb 0 a s) s fun h s =>
 gTl g 0 h s fun i s =>
 gT g (zb 0 b s) s fun j s =>
 gTl g 0 j s fun l s =>
 gT g (bP .eql i l s) s fun m s =>
 anC g m s fun n s =>
 gT n (zb 0 a s) s fun o s =>
 gTl n 1 o s fun p s =>
 gT n (zb 0 b s) s fun q s =>
 gTl n 1 q s fun r s =>
 gT n (bP .eql p r s) s fun u s =>
 anC n u s fun w s =>
 gT w (zb 0 a s) s fun y s =>
 gT w (zb 2 y s) s fun z s =>
 gT w (zg true 5 z s) s fun A s =>
 gT w (zb 0 b s) s fun B s =>
 gT w (zb 2 B s) s fun C s =>
 gT w (zg true 5 C s) s fun D s =>
 gT w (cA P zpe [A, D] s) s fun E s =>
 anC w E s fun F s =>
 z1 Z F s
theorem zlP : F2 Tryz.prog zfL zmf := zi [] Tryz.func126 (by decide +kernel) (by kernel_rfl) fun {_ _ _ _ _} => cast (by kernel_rfl)
def S_op_Same (P : Program) (x0 x1 : AV) (σ : LO) (Z : ZT) : Prop :=
 zbf x0 σ fun a s =>
 zbf x1 s fun b s =>
 fl 0 a s fun c s =>
 fl 0 b s fun d s =>
 bP .eql c d s fun e s =>
 gTl e 1 a s fun f s =>
 gTl e 1 b s fun g s =>
 gT e (bP .eql f g s) s fun h s =>
 anC e h s fun i s =>
 gTl i 2 a s fun j s =>
 gTl i 2 b s fun l s =>
 gT i (bP .eql j l s) s fun m s =>
 anC i m s fun n s =>
 gTl n 3 a s fun o s =>
 gTl n 3 b s fun p s =>
 gT n (bP .eql o p s) s fun q s =>
 anC n q s fun r s =>
 gTl r 4 a s fun u s =>
 gTl r 4 b s fun w s =>
 gT r (cA P zar [u, w, (.fn (.func zlo) [] [])] s) s fun y s =>
 anC r y s fun z s =>
 z1 Z z s
theorem e_op_Same : F2 Tryz.prog zpe S_op_Same := zi [] Tryz.func127 (by decide +kernel) (by kernel_rfl) fun {_ _ _ _ _} => cast (by kernel_rfl)
end Go.Proofs.YtpgahkdjkanblaaGreat
