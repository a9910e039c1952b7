/- The conditions of each function, its slots as variables, and that the logic's conditions are these. Printed by program. -/
import Derived.Test.YtpgahkdjkanblaaGreatNm
import Derived.KernelRfl
set_option linter.all false
set_option maxRecDepth 100000
set_option linter.unusedVariables false
namespace Go.Proofs.YtpgahkdjkanblaaGreat
open Go.AW
def zjB (P : Program) (x0 x1 : AV) (σ : LO) (Z : ZT) : Prop :=
 zaJ x0 σ fun a s =>
 zaJ x1 s fun b s =>
 fl 0 a s fun c s =>
 fl 0 b s fun d s =>
 bP .eql c d s fun e s =>
 gTl e 1 a s fun f s =>
 gTl e 1 b s fun g s =>
 gT e (bP .eql f g s) s fun h s =>
 anC e h s fun i s =>
 gTl i 2 a s fun j s =>
 gTl i 2 b s fun l s =>
 gT i (bP .eql j l s) s fun m s =>
 anC i m s fun n s =>
 gT n (zb 3 a s) s fun o s =>
 gT n (zg true 2 o s) s fun p s =>
 gT n (zb 3 b s) s fun q s =>
 gT n (zg true 2 q s) s fun r s =>
 gT n (zcv .eql (.ints 2) p r s) s fun u s =>
 anC n u s fun w s =>
 gTl w 5 a s fun y s =>
 gTl w 5 b s fun z s =>
 gT w (cA P zfM [y, z] s) s fun A s =>
 anC w A s fun B s =>
 gTl B 6 a s fun C s =>
 gTl B 6 b s fun D s =>
 gT B (cA P zjZ [C, D] s) s fun E s =>
 anC B E s fun F s =>
 z1 Z F s
theorem zjm : F2 Tryz.prog zfN zjB := ze [] Tryz.func82 (by decide +kernel) (by kernel_rfl) fun {_ _ _ _ _} => cast (by kernel_rfl)
def zmV (P : Program) (x0 : AV) (σ : LO) (Z : ZT) : Prop :=
 zaJ x0 σ fun a s =>
 zW [iN 0] s fun b s =>
 zg true 30 a s fun c s =>
 cA P zdN [b, c] s fun _ s =>
 fl 0 b s fun e s =>
 bP .eql e (iN 0) s fun f s =>
 gT f (zg true 30 a s) s fun g s =>
 gT f (zg true 30 a s) s fun h s =>
 gT f (cA P zjN [h] s) s fun i t =>
 zw a s t ∧ (gT f (cA P zjO [g, i] t) t fun j s =>
 gT f (unC .not j s) s fun l s =>
 anC f l s fun m s =>
 zh m (z1 Z (iN 100) s) (fl 0 b s fun n s =>
 z1 Z n s))
theorem zmB : F1 Tryz.prog zfS zmV := ze [.d [(0, 10)] [(6, [1])]] Tryz.func86 (by decide +kernel) (by kernel_rfl) fun {_ _ _ _} => cast (by kernel_rfl)
def zpP (P : Program) (x0 x1 x2 x3 x4 : AV) (σ : LO) (Z : ZT) : Prop :=
 zaJ x2 σ fun a s =>
 cA P zcA [x0, x4] s fun b s =>
 zd b 0 s fun c s =>
 zd b 1 s fun d s =>
 gT d (zg true 2 a s) s fun e s =>
 gTm d x3 s fun f s =>
 gTm d c s fun g s =>
 gT d (zF (zO [iN 0, iN 0] [(0, 1, f), (1, 1, g)]) s) s fun h s =>
 gT d (zcv .eql (.ints 2) e h s) s fun i s =>
 anC d i s fun j s =>
 gTm j x1 s fun l s =>
 gT j (zg true 2 a s) s fun m s =>
 gT j (cA P zdg [l, m] s) s fun n s =>
 anC j n s fun o s =>
 z1 Z o s
theorem zpo : F5 Tryz.prog zie zpP := ze [] Tryz.func87 (by decide +kernel) (by kernel_rfl) fun {_ _ _ _ _ _ _ _} => cast (by kernel_rfl)
def zvF (P : Program) (x0 : AV) (σ : LO) (Z : ZT) : Prop :=
 zaJ x0 σ fun a s =>
 zW [iN 0, iN 0] s fun b s =>
 fl 0 a s fun c s =>
 bP .eql c (iN 7) s fun d s =>
 gTl d 13 a s fun e s =>
 gT d (zal .sl e s) s fun f s =>
 gT d (bP .eql f (iN 1) s) s fun g s =>
 anC d g s fun h s =>
 zh h (fl 13 a s fun i s =>
 zD none 8 i (iN 0) s fun j s =>
 zb 6 j s fun l s =>
 zg true 2 l s fun m s =>
 zn 2 b m s fun _ s =>
 Z (zR (zaF b s true 2) (some [])) s) (zb 28 a s fun o s =>
 zg true 2 o s fun p s =>
 zn 2 b p s fun _ s =>
 Z (zR (zaF b s true 2) (some [])) s)
theorem zuY : F1 Tryz.prog zqv zvF := ze [] Tryz.func88 (by decide +kernel) (by kernel_rfl) fun {_ _ _ _} => cast (by kernel_rfl)
def znN (P : Program) (x0 x1 : AV) (σ : LO) (Z : ZT) : Prop :=
 cA P zav [x0, x1, (.fn (.func zfj) [] [])] σ fun a s =>
 z1 Z a s
theorem znz : F2 Tryz.prog zfa znN := ze [] Tryz.func89 (by decide +kernel) (by kernel_rfl) fun {_ _ _ _ _} => cast (by kernel_rfl)
def zhT (P : Program) (x0 : AV) (σ : LO) (Z : ZT) : Prop :=
 zal .sl x0 σ fun a s =>
 bP .gtr a (iN 4) s fun b s =>
 zh b (z1 Z (iN 3) s) (zal .sl x0 s fun c s =>
 zbd [(iN 0)] s fun v s d =>
 zaC v fun e v => bP .lss e c s fun f s =>
 zh f (il true 9 9 x0 e s fun g s =>
 cp [iN 0, iN 0, iN 0, (.d (.str [])), (.d (.str [])), iN 0, eN, iN 0, iN 0] 9 g s fun h s =>
 zb 0 h s fun i s =>
 zg true 7 i s fun j s =>
 cA P zfK [j] s fun l s =>
 bP .neq l (iN 0) s fun m s =>
 zh m (z1 Z l s) (zb 7 h s fun n s =>
 zg true 2 n s fun o s =>
 cA P zbF [o] s fun p s =>
 bP .neq p (iN 0) s fun q s =>
 zh q (z1 Z p s) (bP .add e (iN 1) s fun r s =>
 d [r] s))) (zal .sl x0 s fun u s =>
 zbd [(iN 0)] s fun v s w =>
 zaC v fun y v => bP .lss y u s fun z s =>
 zh z (il true 9 9 x0 y s fun A s =>
 zW [iN 0, iN 0, iN 0, (.d (.str [])), (.d (.str [])), iN 0, eN, iN 0, iN 0] s fun B s =>
 zn 9 B A s fun _ s =>
 zcX (.sl 9) x0 none (some y) none s fun D s =>
 zal .sl D s fun E s =>
 zbd [(iN 0)] s fun v s F =>
 zaC v fun G v => bP .lss G E s fun H s =>
 zh H (il true 9 9 D G s fun I s =>
 cp [iN 0, iN 0, iN 0, (.d (.str [])), (.d (.str [])), iN 0, eN, iN 0, iN 0] 9 I s fun J s =>
 zb 0 B s fun K s =>
 fl 0 K s fun L s =>
 zb 0 J s fun M s =>
 fl 0 M s fun N s =>
 bP .eql L N s fun O s =>
 gT O (zb 0 B s) s fun Q s =>
 gTl O 1 Q s fun R s =>
 gT O (zb 0 J s) s fun S s =>
 gTl O 1 S s fun T s =>
 gT O (bP .eql R T s) s fun U s =>
 anC O U s fun V s =>
 zh V (z1 Z (iN 5) s) (bP .add G (iN 1) s fun W s =>
 F [W] s)) (bP .add y (iN 1) s fun X s =>
 w [X] s)) (z1 Z (iN 0) s)))
theorem zhL : F1 Tryz.prog zbG zhT := ze [.l [16] [(2, 1), (4, 3), (17, 16)], .l [35] [(2, 1), (7, 2), (10, 1), (36, 30)], .l [44] [(2, 1), (10, 1), (45, 20)]] Tryz.func90 (by decide +kernel) (by kernel_rfl) fun {_ _ _ _} => cast (by kernel_rfl)
def zga (P : Program) (x0 x1 : AV) (σ : LO) (Z : ZT) : Prop :=
 cA P zbG [x1] σ fun a s =>
 bP .neq a (iN 0) s fun b s =>
 zh b (cA P zdP [x0] s fun c s =>
 z1 Z c s) (zak P (.fn (.func zdL) [x1] []) [dm x0] s fun d s =>
 z1 Z d s)
theorem zem : F2 Tryz.prog zdd zga := ze [] Tryz.func91 (by decide +kernel) (by kernel_rfl) fun {_ _ _ _ _} => cast (by kernel_rfl)
def zlP (P : Program) (x0 x1 x2 x3 x4 x5 x6 x7 : AV) (σ : LO) (Z : ZT) : Prop :=
 zaJ x2 σ fun a s =>
 cA P zkX [x0, x1] s fun b s =>
 gTm b x4 s fun c s =>
 gTm b x5 s fun d s =>
 gTm b x6 s fun e s =>
 gTm b x7 s fun f s =>
 gT b (cA P zqw [c, d, e, f] s) s fun g s =>
 anC b g s fun h s =>
 gTm h x0 s fun i s =>
 gTm h x1 s fun j s =>
 gT h (zg true 2 a s) s fun l s =>
 gTm h x3 s fun m s =>
 gTm h x4 s fun n s =>
 gTm h x5 s fun o s =>
 gTm h x6 s fun p s =>
 gTm h x7 s fun q s =>
 gT h (cA P zdb [n, o, p, q] s) s fun r t =>
 zw a s t ∧ (gT h (cA P zie [i, j, l, m, r] t) t fun u s =>
 anC h u s fun w s =>
 z1 Z w s)
theorem zlx : F8 Tryz.prog zdY zlP := ze [.d [(0, 23)] [(19, [10])]] Tryz.func92 (by decide +kernel) (by kernel_rfl) fun {_ _ _ _ _ _ _ _ _ _ _} => cast (by kernel_rfl)
def ztC (P : Program) (x0 : AV) (σ : LO) (Z : ZT) : Prop :=
 zaJ x0 σ fun a s =>
 zg true 30 a s fun b s =>
 cA P zoh [b] s fun c s =>
 bP .neq c (iN 0) s fun d s =>
 zh d (z1 Z c s) (zg true 30 a s fun e s =>
 zg true 30 a s fun f s =>
 cA P zqo [f] s fun g t =>
 zw a s t ∧ (cA P zqp [e, g] t fun h s =>
 unC .not h s fun i s =>
 zh i (z1 Z (iN 100) s) (z1 Z (iN 0) s)))
theorem zsM : F1 Tryz.prog zkM ztC := ze [.d [(0, 5)] [(2, [1])]] Tryz.func93 (by decide +kernel) (by kernel_rfl) fun {_ _ _ _} => cast (by kernel_rfl)
def zrq (P : Program) (x0 x1 x2 x3 x4 : AV) (σ : LO) (Z : ZT) : Prop :=
 zaJ x2 σ fun a s =>
 cA P zcF [x0, x4] s fun b s =>
 zd b 0 s fun c s =>
 zd b 1 s fun d s =>
 gTl d 0 a s fun e s =>
 gTm d x3 s fun f s =>
 gT d (bP .eql e f s) s fun g s =>
 anC d g s fun h s =>
 gTl h 1 a s fun i s =>
 gTm h c s fun j s =>
 gT h (bP .eql i j s) s fun l s =>
 anC h l s fun m s =>
 gTm m x1 s fun n s =>
 gT m (zg true 2 a s) s fun o s =>
 gT m (cA P zcS [n, o] s) s fun p s =>
 anC m p s fun q s =>
 z1 Z q s
theorem zrf : F5 Tryz.prog zje zrq := ze [] Tryz.func94 (by decide +kernel) (by kernel_rfl) fun {_ _ _ _ _ _ _ _} => cast (by kernel_rfl)
def S_r11_of (P : Program) (x0 : AV) (σ : LO) (Z : ZT) : Prop :=
 zaJ x0 σ fun a s =>
 zW [iN 0, iN 0] s fun b s =>
 fl 0 a s fun c s =>
 bP .eql c (iN 7) s fun d s =>
 gTl d 13 a s fun e s =>
 gT d (zal .sl e s) s fun f s =>
 gT d (bP .gtr f (iN 0) s) s fun g s =>
 anC d g s fun h s =>
 zh h (fl 13 a s fun i s =>
 zD none 8 i (iN 0) s fun j s =>
 zb 6 j s fun l s =>
 zg true 2 l s fun m s =>
 zn 2 b m s fun _ s =>
 Z (zR (zaF b s true 2) (some [])) s) (zb 28 a s fun o s =>
 zg true 2 o s fun p s =>
 zn 2 b p s fun _ s =>
 Z (zR (zaF b s true 2) (some [])) s)
theorem e_r11_of : F1 Tryz.prog zvV S_r11_of := ze [] Tryz.func95 (by decide +kernel) (by kernel_rfl) fun {_ _ _ _} => cast (by kernel_rfl)
def zlE (P : Program) (x0 : AV) (σ : LO) (Z : ZT) : Prop :=
 zal .sl x0 σ fun a s =>
 bP .gtr a (iN 4) s fun b s =>
 zh b (z1 Z (iN 3) s) (zbd [(iN 0)] s fun v s c =>
 zaC v fun d v => zal .sl x0 s fun e s =>
 bP .lss d e s fun f s =>
 zh f (zD none 9 x0 d s fun g s =>
 zb 0 g s fun h s =>
 zg true 7 h s fun i s =>
 cA P zkN [i] s fun j s =>
 bP .neq j (iN 0) s fun l s =>
 zh l (z1 Z j s) (zD none 9 x0 d s fun m s =>
 zb 7 m s fun n s =>
 zg true 2 n s fun o s =>
 cA P zcr [o] s fun p s =>
 bP .neq p (iN 0) s fun q s =>
 zh q (z1 Z p s) (bP .add d (iN 1) s fun r s =>
 c [r] s))) (zbd [(iN 0)] s fun v s u =>
 zaC v fun w v => zal .sl x0 s fun y s =>
 bP .lss w y s fun z s =>
 zh z (zbd [(iN 0)] s fun v s A =>
 zaC v fun B v => bP .lss B w s fun C s =>
 zh C (zD none 9 x0 w s fun D s =>
 zb 0 D s fun E s =>
 fl 0 E s fun F s =>
 zD none 9 x0 B s fun G s =>
 zb 0 G s fun H s =>
 fl 0 H s fun I s =>
 bP .eql F I s fun J s =>
 gTm J x0 s fun K s =>
 gTm J w s fun L s =>
 gT J (zD none 9 K L s) s fun M s =>
 gT J (zb 0 M s) s fun N s =>
 gTl J 1 N s fun O s =>
 gTm J x0 s fun Q s =>
 gTm J B s fun R s =>
 gT J (zD none 9 Q R s) s fun S s =>
 gT J (zb 0 S s) s fun T s =>
 gTl J 1 T s fun U s =>
 gT J (bP .eql O U s) s fun V s =>
 anC J V s fun W s =>
 zh W (z1 Z (iN 5) s) (bP .add B (iN 1) s fun X s =>
 A [X] s)) (bP .add w (iN 1) s fun Y s =>
 u [Y] s)) (z1 Z (iN 0) s)))
theorem zlm : F1 Tryz.prog zcE zlE := ze [.l [3] [(2, 1), (4, 2), (11, 24)], .l [6] [(2, 1), (7, 1), (35, 39)], .l [7] [(2, 1), (41, 33)], .d [(0, 28)] []] Tryz.func96 (by decide +kernel) (by kernel_rfl) fun {_ _ _ _} => cast (by kernel_rfl)
def znR (P : Program) (x0 x1 : AV) (σ : LO) (Z : ZT) : Prop :=
 cA P zcE [x1] σ fun a s =>
 bP .neq a (iN 0) s fun b s =>
 zh b (z1 Z x0 s) (zal .sl x1 s fun c s =>
 zai (.int .u64) c s fun d s =>
 cA P zbS [x0, d] s fun e s =>
 zbd [e, (iN 0)] s fun v s f =>
 zaC v fun g v => zaC v fun h v => zal .sl x1 s fun i s =>
 bP .lss h i s fun j s =>
 zh j (zD none 9 x1 h s fun l s =>
 zb 0 l s fun m s =>
 zg true 7 m s fun n s =>
 cA P zkO [n] s fun o s =>
 zd o 0 s fun p s =>
 zd o 1 s fun _ s =>
 zD none 9 x1 h s fun r s =>
 zb 7 r s fun u s =>
 zg true 2 u s fun w s =>
 cA P zcK [g, p] s fun y t =>
 zw u s t ∧ (cA P zde [y, w] t fun z s =>
 bP .add h (iN 1) s fun A s =>
 f [z, A] s)) (z1 Z g s))
theorem znD : F2 Tryz.prog zdm znR := ze [.l [0, 5] [(6, 2), (17, 24)], .d [(0, 2), (3, 5), (2, 1), (8, 2)] [(2, [38])]] Tryz.func97 (by decide +kernel) (by kernel_rfl) fun {_ _ _ _ _} => cast (by kernel_rfl)
def zmN (P : Program) (x0 x1 x2 x3 x4 x5 x6 x7 : AV) (σ : LO) (Z : ZT) : Prop :=
 zaJ x2 σ fun a s =>
 cA P zsl [x4, x5, x6, x7] s fun b s =>
 gTm b x0 s fun c s =>
 gTm b x1 s fun d s =>
 gT b (zg true 2 a s) s fun e s =>
 gTm b x3 s fun f s =>
 gTm b x4 s fun g s =>
 gTm b x5 s fun h s =>
 gTm b x6 s fun i s =>
 gTm b x7 s fun j s =>
 gT b (cA P zdy [g, h, i, j] s) s fun l t =>
 zw a s t ∧ (gT b (cA P zje [c, d, e, f, l] t) t fun m s =>
 anC b m s fun n s =>
 z1 Z n s)
theorem zmt : F8 Tryz.prog zeE zmN := ze [.d [(0, 18)] [(14, [10])]] Tryz.func98 (by decide +kernel) (by kernel_rfl) fun {_ _ _ _ _ _ _ _ _ _ _} => cast (by kernel_rfl)
def zvC (P : Program) (x0 : AV) (σ : LO) (Z : ZT) : Prop :=
 zaJ x0 σ fun a s =>
 zW [iN 0, (.d (.str [])), (.d (.str [])), iN 0, eN] s fun b s =>
 fl 4 a s fun c s =>
 zal .sl c s fun d s =>
 zbd [eN, (iN 0)] s fun v s e =>
 zaC v fun f v => zaC v fun g v => bP .lss g d s fun h s =>
 zh h (il false 1 1 c g s fun i s =>
 cA P zdP [i] s fun j s =>
 m1 1 [eN] j s fun l s =>
 zG 1 24 f l s fun m s =>
 bP .add g (iN 1) s fun n s =>
 e [m, n] s) (zb 4 a s fun o s =>
 zn 1 o f s fun _ s =>
 zg true 5 a s fun q s =>
 zn 5 b q s fun _ s =>
 Z (zR (zaF b s true 5) (some [])) s)
theorem zuV : F1 Tryz.prog zqu zvC := ze [.l [3, 9] [(5, 1), (10, 9)]] Tryz.func99 (by decide +kernel) (by kernel_rfl) fun {_ _ _ _} => cast (by kernel_rfl)
def zvx (P : Program) (x0 x1 : AV) (σ : LO) (Z : ZT) : Prop :=
 zaJ x0 σ fun a s =>
 zaJ x1 s fun b s =>
 fl 0 a s fun c s =>
 fl 0 b s fun d s =>
 bP .neq c d s fun e s =>
 gFl e 1 a s fun f s =>
 gFl e 1 b s fun g s =>
 gF e (bP .neq f g s) s fun h s =>
 orC e h s fun i s =>
 gFl i 2 a s fun j s =>
 gFl i 2 b s fun l s =>
 gF i (bP .neq j l s) s fun m s =>
 orC i m s fun n s =>
 gFl n 3 a s fun o s =>
 gFl n 3 b s fun p s =>
 gF n (bP .neq o p s) s fun q s =>
 orC n q s fun r s =>
 gFl r 4 a s fun u s =>
 gF r (zal .sl u s) s fun w s =>
 gFl r 4 b s fun y s =>
 gF r (zal .sl y s) s fun z s =>
 gF r (bP .neq w z s) s fun A s =>
 orC r A s fun B s =>
 zh B (z1 Z bF s) (zbd [(iN 0)] s fun v s C =>
 zaC v fun D v => fl 4 a s fun E s =>
 zal .sl E s fun F s =>
 bP .lss D F s fun G s =>
 zh G (fl 4 a s fun H s =>
 il false 1 1 H D s fun I s =>
 zai .toStr I s fun J s =>
 fl 4 b s fun K s =>
 il false 1 1 K D s fun L s =>
 zai .toStr L s fun M s =>
 bP .neq J M s fun N s =>
 zh N (z1 Z bF s) (bP .add D (iN 1) s fun O s =>
 C [O] s)) (z1 Z bT s))
theorem zuQ : F2 Tryz.prog zqr zvx := ze [.l [5] [(4, 1), (41, 20)], .d [(0, 13)] []] Tryz.func100 (by decide +kernel) (by kernel_rfl) fun {_ _ _ _ _} => cast (by kernel_rfl)
def ztK (P : Program) (x0 : AV) (σ : LO) (Z : ZT) : Prop :=
 cA P zcL [x0] σ fun a s =>
 bP .neq a (iN 0) s fun b s =>
 zh b (z2 Z (.d .nilp) a s) (zau s fun c s =>
 zF (zO [iN 0, iN 0, iN 0, eN, (.d .nilmap), eN] [(0, 1, x0), (4, 1, c)]) s fun d s =>
 zaJ d s fun e s =>
 z2 Z e (iN 0) s)
theorem zsU : F1 Tryz.prog zom ztK := ze [] Tryz.func101 (by decide +kernel) (by kernel_rfl) fun {_ _ _ _} => cast (by kernel_rfl)
def zgv (P : Program) (x0 x1 : AV) (σ : LO) (Z : ZT) : Prop :=
 zaJ x1 σ fun a s =>
 zg true 3 a s fun b s =>
 cA P zmi [b] s fun c s =>
 zh c (z1 Z bT s) (fl 2 a s fun d s =>
 zal .sl d s fun e s =>
 zbd [(iN 0)] s fun v s f =>
 zaC v fun g v => bP .lss g e s fun h s =>
 zh h (il true 2 2 d g s fun i s =>
 zW [iN 0, iN 0] s fun j s =>
 zn 2 j i s fun _ s =>
 fl 0 a s fun m s =>
 fl 1 a s fun n s =>
 fl 0 j s fun o s =>
 cA P zfQ [x0, m, n, o] s fun p s =>
 unC .not p s fun q s =>
 gFm q g s fun r s =>
 gF q (bP .gtr r (iN 0) s) s fun u s =>
 gFm q u s fun w s =>
 gTl w 0 j s fun y s =>
 gTl w 2 a s fun z s =>
 gTm w g s fun A s =>
 gT w (bP .sub A (iN 1) s) s fun B s =>
 gT w (zD none 2 z B s) s fun C s =>
 gTl w 0 C s fun D s =>
 gT w (bP .leq y D s) s fun E s =>
 gF q (anC w E s) s fun F s =>
 orC q F s fun G s =>
 zh G (z1 Z bF s) (bP .add g (iN 1) s fun H s =>
 f [H] s)) (zb 2 a s fun I s =>
 zg false 1 I s fun J s =>
 zal .sl J s fun K s =>
 nfl 0 x0 s fun L s =>
 cA P zjg [L] s fun M t =>
 zw I s t ∧ (bP .geq K M t fun N s =>
 z1 Z N s)))
theorem zgl : F2 Tryz.prog zeh zgv := ze [.l [12] [(4, 3), (13, 30)], .d [(0, 25)] [], .d [(0, 10)] [(7, [43])]] Tryz.func102 (by decide +kernel) (by kernel_rfl) fun {_ _ _ _ _} => cast (by kernel_rfl)
def zcx (P : Program) (x0 x1 : AV) (σ : LO) (Z : ZT) : Prop :=
 cA P zbL [x0, x1] σ fun a s =>
 bP .geq a (iN 0) s fun b s =>
 z1 Z b s
theorem zcu : F2 Tryz.prog zaN zcx := ze [] Tryz.func103 (by decide +kernel) (by kernel_rfl) fun {_ _ _ _ _} => cast (by kernel_rfl)
def zmT (P : Program) (x0 x1 x2 x3 : AV) (σ : LO) (Z : ZT) : Prop :=
 zaJ x0 σ fun a s =>
 zg false 1 x1 s fun b s =>
 zg false 1 x2 s fun c s =>
 zg true 2 a s fun d s =>
 fl 0 a s fun e s =>
 fl 0 x3 s fun f s =>
 fl 1 x3 s fun g s =>
 cA P zdY [b, c, d, e, (iN 6), (iN 0), f, g] s fun h s =>
 unC .not h s fun i s =>
 z1 Z i s
theorem zmz : F4 Tryz.prog zfP zmT := ze [] Tryz.func104 (by decide +kernel) (by kernel_rfl) fun {_ _ _ _ _ _ _} => cast (by kernel_rfl)
def zlH (P : Program) (x0 x1 x2 x3 : AV) (σ : LO) (Z : ZT) : Prop :=
 zaJ x3 σ fun a s =>
 cA P zcT [x0] s fun b s =>
 zcv .eql .ptr b (.d .nilp) s fun c s =>
 gFm c x1 s fun d s =>
 gF c (cA P zcI [d] s) s fun e s =>
 gF c (zcv .eql .ptr e (.d .nilp) s) s fun f s =>
 orC c f s fun g s =>
 gFm g x2 s fun h s =>
 gF g (cA P zcL [h] s) s fun i s =>
 gF g (bP .neq i (iN 0) s) s fun j s =>
 orC g j s fun l s =>
 gFl l 0 a s fun m s =>
 gF l (bP .lss m (iN 0) s) s fun n s =>
 orC l n s fun o s =>
 gFl o 0 a s fun p s =>
 gF o (bP .gtr p (iN 9007199254740992) s) s fun q s =>
 orC o q s fun r s =>
 gFl r 1 a s fun u s =>
 gF r (bP .lss u (iN 1) s) s fun w s =>
 orC r w s fun y s =>
 gFl y 1 a s fun z s =>
 gF y (bP .gtr z (iN 9007199254740992) s) s fun A s =>
 orC y A s fun B s =>
 gFm B x0 s fun C s =>
 gFm B x1 s fun D s =>
 gFl B 6 a s fun E s =>
 gF B (cA P zeW [C, D, E] s) s fun F s =>
 gF B (unC .not F s) s fun G s =>
 orC B G s fun H s =>
 zh H (z1 Z bF s) (fl 6 a s fun I s =>
 cA P zdd [eN, I] s fun J s =>
 cA P zcA [x0, J] s fun K s =>
 zd K 0 s fun L s =>
 zd K 1 s fun M s =>
 fl 0 a s fun N s =>
 cA P zhz [x2, N] s fun O s =>
 unC .not M s fun Q s =>
 gFm Q L s fun R s =>
 gFl Q 2 a s fun S s =>
 gF Q (bP .neq R S s) s fun T s =>
 orC Q T s fun U s =>
 gFm U x0 s fun V s =>
 gFm U x1 s fun W s =>
 gF U (zb 3 a s) s fun X s =>
 gF U (zg true 2 X s) s fun Y s =>
 gFm U O s fun a0 s =>
 gFl U 0 a s fun b0 s =>
 gFl U 1 a s fun c0 s =>
 gFm U L s fun d0 s =>
 gF U (cA P zdY [V, W, Y, a0, (iN 2), b0, c0, d0] s) s fun e0 s =>
 gF U (unC .not e0 s) s fun f0 s =>
 orC U f0 s fun g0 s =>
 gFl g0 5 a s fun h0 s =>
 gF g0 (zal .sl h0 s) s fun i0 s =>
 gFm g0 x2 s fun j0 s =>
 gF g0 (bP .mul (iN 2) j0 s) s fun l0 s =>
 gF g0 (bP .neq i0 l0 s) s fun m0 s =>
 orC g0 m0 s fun o0 s =>
 zh o0 (z1 Z bF s) (fl 5 a s fun p0 s =>
 zal .sl p0 s fun q0 s =>
 zbd [(iN (-1)), (iN 0)] s fun v s r0 =>
 zaC v fun u0 v => zaC v fun w0 v => bP .lss w0 q0 s fun y0 s =>
 zh y0 (il true 2 2 p0 w0 s fun z0 s =>
 cp [iN 0, iN 0] 2 z0 s fun A0 s =>
 fl 0 A0 s fun B0 s =>
 bP .leq B0 u0 s fun C0 s =>
 gF C0 (zb 0 A0 s) s fun D0 s =>
 gF C0 (zg false 1 D0 s) s fun E0 s =>
 gFm C0 x2 s fun F0 s =>
 gF C0 (cA P zcG [F0] s) s fun G0 t =>
 zw D0 s t ∧ (gF C0 (bP .geq E0 G0 t) t fun H0 s =>
 orC C0 H0 s fun I0 s =>
 gFl I0 0 A0 s fun J0 s =>
 gFm I0 O s fun K0 s =>
 gF I0 (bP .eql J0 K0 s) s fun L0 s =>
 orC I0 L0 s fun M0 s =>
 gFm M0 x0 s fun N0 s =>
 gFm M0 x1 s fun O0 s =>
 gF M0 (zg true 2 A0 s) s fun Q0 s =>
 gFl M0 0 A0 s fun R0 s =>
 gFl M0 0 a s fun S0 s =>
 gFl M0 1 a s fun T0 s =>
 gFm M0 L s fun U0 s =>
 gF M0 (cA P zdY [N0, O0, Q0, R0, (iN 3), S0, T0, U0] s) s fun V0 s =>
 gF M0 (unC .not V0 s) s fun W0 s =>
 orC M0 W0 s fun X0 s =>
 zh X0 (z1 Z bF s) (fl 0 A0 s fun Y0 s =>
 bP .add w0 (iN 1) s fun a1 s =>
 r0 [Y0, a1] s))) (z1 Z bT s)))
theorem zlp : F4 Tryz.prog zhA zlH := ze [.l [12, 101] [(8, 1), (14, 1), (102, 37)], .d [(0, 31)] [(8, [110])]] Tryz.func105 (by decide +kernel) (by kernel_rfl) fun {_ _ _ _ _ _ _} => cast (by kernel_rfl)
def zhU (P : Program) (x0 x1 : AV) (σ : LO) (Z : ZT) : Prop :=
 zaJ x1 σ fun a s =>
 zg true 3 a s fun b s =>
 cA P zqn [b] s fun c s =>
 zh c (z1 Z bT s) (zb 2 a s fun d s =>
 zg false 1 d s fun e s =>
 zal .sl e s fun f s =>
 nfl 0 x0 s fun g s =>
 cA P zsk [g] s fun h t =>
 zw d s t ∧ (bP .lss f h t fun i s =>
 zh i (z1 Z bF s) (zbd [(iN 0)] s fun v s j =>
 zaC v fun l v => fl 2 a s fun m s =>
 zal .sl m s fun n s =>
 bP .lss l n s fun o s =>
 zh o (fl 0 a s fun p s =>
 fl 1 a s fun q s =>
 fl 2 a s fun r s =>
 zD none 2 r l s fun u s =>
 fl 0 u s fun w s =>
 cA P zhw [x0, p, q, w] s fun y s =>
 unC .not y s fun z s =>
 gFm z l s fun A s =>
 gF z (bP .gtr A (iN 0) s) s fun B s =>
 gFm z B s fun C s =>
 gTl C 2 a s fun D s =>
 gTm C l s fun E s =>
 gT C (zD none 2 D E s) s fun F s =>
 gTl C 0 F s fun G s =>
 gTl C 2 a s fun H s =>
 gTm C l s fun I s =>
 gT C (bP .sub I (iN 1) s) s fun J s =>
 gT C (zD none 2 H J s) s fun K s =>
 gTl C 0 K s fun L s =>
 gT C (bP .leq G L s) s fun M s =>
 gF z (anC C M s) s fun N s =>
 orC z N s fun O s =>
 zh O (z1 Z bF s) (bP .add l (iN 1) s fun Q s =>
 j [Q] s)) (z1 Z bT s))))
theorem zhM : F2 Tryz.prog zeX zhU := ze [.d [(0, 9)] [(7, [8])], .l [5] [(4, 1), (17, 40)], .d [(0, 33)] []] Tryz.func106 (by decide +kernel) (by kernel_rfl) fun {_ _ _ _ _} => cast (by kernel_rfl)
def ztt (P : Program) (x0 x1 x2 x3 : AV) (σ : LO) (Z : ZT) : Prop :=
 zaJ x3 σ fun a s =>
 cA P zeC [x2] s fun b s =>
 bP .neq b (iN 0) s fun c s =>
 gFl c 0 a s fun d s =>
 gF c (bP .lss d (iN 0) s) s fun e s =>
 orC c e s fun f s =>
 gFl f 0 a s fun g s =>
 gF f (bP .gtr g (iN 9007199254740992) s) s fun h s =>
 orC f h s fun i s =>
 gFl i 1 a s fun j s =>
 gF i (bP .lss j (iN 1) s) s fun l s =>
 orC i l s fun m s =>
 gFl m 1 a s fun n s =>
 gF m (bP .gtr n (iN 9007199254740992) s) s fun o s =>
 orC m o s fun p s =>
 gFm p x0 s fun q s =>
 gFm p x1 s fun r s =>
 gFl p 6 a s fun u s =>
 gF p (cA P zhy [q, r, u] s) s fun w s =>
 gF p (unC .not w s) s fun y s =>
 orC p y s fun z s =>
 gFl z 5 a s fun A s =>
 gF z (zal .sl A s) s fun B s =>
 gFm z x2 s fun C s =>
 gF z (bP .mul (iN 2) C s) s fun D s =>
 gF z (bP .neq B D s) s fun E s =>
 orC z E s fun F s =>
 zh F (z1 Z bF s) (fl 6 a s fun G s =>
 cA P zdm [eN, G] s fun H s =>
 cA P zcF [x0, H] s fun I s =>
 zd I 0 s fun J s =>
 zd I 1 s fun K s =>
 fl 0 a s fun L s =>
 cA P zkJ [x2, L] s fun M s =>
 unC .not K s fun N s =>
 gFm N J s fun O s =>
 gFl N 2 a s fun Q s =>
 gF N (bP .neq O Q s) s fun R s =>
 orC N R s fun S s =>
 gFm S x0 s fun T s =>
 gFm S x1 s fun U s =>
 gF S (zb 3 a s) s fun V s =>
 gF S (zg true 2 V s) s fun W s =>
 gFm S M s fun X s =>
 gFl S 0 a s fun Y s =>
 gFl S 1 a s fun a0 s =>
 gFm S J s fun b0 s =>
 gF S (cA P zeE [T, U, W, X, (iN 2), Y, a0, b0] s) s fun c0 s =>
 gF S (unC .not c0 s) s fun d0 s =>
 orC S d0 s fun e0 s =>
 zh e0 (z1 Z bF s) (zbd [(iN (-1)), (iN 0)] s fun v s f0 =>
 zaC v fun g0 v => zaC v fun h0 v => fl 5 a s fun i0 s =>
 zal .sl i0 s fun j0 s =>
 bP .lss h0 j0 s fun l0 s =>
 zh l0 (fl 5 a s fun m0 s =>
 zD none 2 m0 h0 s fun o0 s =>
 fl 0 o0 s fun p0 s =>
 bP .leq p0 g0 s fun q0 s =>
 gFm q0 p0 s fun r0 s =>
 gFm q0 x2 s fun u0 s =>
 gF q0 (cA P zeK [u0] s) s fun w0 s =>
 gF q0 (bP .geq r0 w0 s) s fun y0 s =>
 orC q0 y0 s fun z0 s =>
 gFm z0 p0 s fun A0 s =>
 gFm z0 M s fun B0 s =>
 gF z0 (bP .eql A0 B0 s) s fun C0 s =>
 orC z0 C0 s fun D0 s =>
 gFm D0 x0 s fun E0 s =>
 gFm D0 x1 s fun F0 s =>
 gFl D0 5 a s fun G0 s =>
 gFm D0 h0 s fun H0 s =>
 gF D0 (zD none 2 G0 H0 s) s fun I0 s =>
 gF D0 (zg true 2 I0 s) s fun J0 s =>
 gFm D0 p0 s fun K0 s =>
 gFl D0 0 a s fun L0 s =>
 gFl D0 1 a s fun M0 s =>
 gFm D0 J s fun N0 s =>
 gF D0 (cA P zeE [E0, F0, J0, K0, (iN 3), L0, M0, N0] s) s fun O0 s =>
 gF D0 (unC .not O0 s) s fun Q0 s =>
 orC D0 Q0 s fun R0 s =>
 zh R0 (z1 Z bF s) (bP .add h0 (iN 1) s fun S0 s =>
 f0 [p0, S0] s)) (z1 Z bT s)))
theorem zsD : F4 Tryz.prog zoc ztt := ze [.l [12, 13] [(8, 1), (14, 1), (88, 45)], .d [(0, 31)] []] Tryz.func107 (by decide +kernel) (by kernel_rfl) fun {_ _ _ _ _ _ _} => cast (by kernel_rfl)
def zpO (P : Program) (x0 : AV) (σ : LO) (Z : ZT) : Prop :=
 zam false x0 σ fun a s =>
 zh a (z1 Z eN s) (zj false 1 0 (zO (rep [(.d (.int .u8 0))] 0) []) s fun b s =>
 zG 1 1 b x0 s fun c s =>
 z1 Z c s)
theorem zpn : F1 Tryz.prog zdP zpO := ze [] Tryz.func108 (by decide +kernel) (by kernel_rfl) fun {_ _ _ _} => cast (by kernel_rfl)
def zvz (P : Program) (x0 x1 : AV) (σ : LO) (Z : ZT) : Prop :=
 zai .toStr x0 σ fun a s =>
 zai .toStr x1 s fun b s =>
 bP .eql a b s fun c s =>
 z1 Z c s
theorem zuS : F2 Tryz.prog zqs zvz := ze [] Tryz.func109 (by decide +kernel) (by kernel_rfl) fun {_ _ _ _ _} => cast (by kernel_rfl)
def zvG (P : Program) (x0 x1 x2 x3 : AV) (σ : LO) (Z : ZT) : Prop :=
 zj false 1 4 (zO (rep [iN 0] 4) [(0, 1, x0), (1, 1, x1), (2, 1, x2), (3, 1, x3)]) σ fun a s =>
 zal .sl a s fun b s =>
 zbd [(iN 0)] s fun v s c =>
 zaC v fun d v => bP .lss d b s fun e s =>
 zh e (il false 1 1 a d s fun f s =>
 bP .lss f (iN 0) s fun g s =>
 gFm g f s fun h s =>
 gF g (bP .gtr h (iN 9007199254740992) s) s fun i s =>
 orC g i s fun j s =>
 zh j (z1 Z bF s) (bP .add d (iN 1) s fun l s =>
 c [l] s)) (z1 Z bT s)
theorem zuZ : F4 Tryz.prog zqw zvG := ze [.l [17] [(8, 1), (10, 1), (18, 10)]] Tryz.func111 (by decide +kernel) (by kernel_rfl) fun {_ _ _ _ _ _ _} => cast (by kernel_rfl)
def zlO (P : Program) (x0 x1 x2 x3 : AV) (σ : LO) (Z : ZT) : Prop :=
 m1 1 [(.d (.int .u8 0))] (.d (.int .u8 4)) σ fun a s =>
 zj false 1 4 (zO (rep [iN 0] 4) [(0, 1, x0), (1, 1, x1), (2, 1, x2), (3, 1, x3)]) s fun b s =>
 cA P zni [a, b] s fun c s =>
 z1 Z c s
theorem zlw : F4 Tryz.prog zdb zlO := ze [] Tryz.func112 (by decide +kernel) (by kernel_rfl) fun {_ _ _ _ _ _ _} => cast (by kernel_rfl)
def zjG (P : Program) (x0 : AV) (σ : LO) (Z : ZT) : Prop :=
 zaJ x0 σ fun a s =>
 (fun (b : LO → Prop) => fl 0 a s fun p s =>
 bP .eql p (iN 7) s fun q s =>
 gTl q 13 a s fun r s =>
 gT q (zal .sl r s) s fun u s =>
 gT q (bP .eql u (iN 1) s) s fun w s =>
 anC q w s fun y s =>
 zh y (fl 13 a s fun z s =>
 il true 8 8 z (iN 0) s fun A s =>
 cp [iN 0, iN 0, iN 0, iN 0, eN, eN, iN 0, iN 0] 8 A s fun B s =>
 cA P zha [] s fun C s =>
 zb 6 B s fun D s =>
 zn 2 D C s fun _ s =>
 zg true 8 B s fun F s =>
 m1 8 [iN 0, iN 0, iN 0, iN 0, eN, eN, iN 0, iN 0] F s fun G s =>
 zb 13 a s fun H s =>
 zn 1 H G s fun _ s =>
 b s) (fl 0 a s fun J s =>
 cA P zcZ [J] s fun K s =>
 zh K (cA P zha [] s fun L s =>
 zb 28 a s fun M s =>
 zn 2 M L s fun _ s =>
 b s) (b s)))
 (fun  s => zg true 30 a s fun c s =>
 cA P ziu [c] s fun d s =>
 zd d 0 s fun _ s =>
 zd d 1 s fun f s =>
 bP .neq f (iN 0) s fun g s =>
 zh g (z2 Z eN f s) (zF (zO [eN] []) s fun h s =>
 zaJ h s fun i s =>
 zg true 30 a s fun j s =>
 cA P zcp [i, j] s fun _ s =>
 zbP i s fun m s =>
 zb 0 m s fun n s =>
 fl 0 n s fun o s =>
 z2 Z o (iN 0) s))
theorem zjr : F1 Tryz.prog zfR zjG := ze [] Tryz.func113 (by decide +kernel) (by kernel_rfl) fun {_ _ _ _} => cast (by kernel_rfl)
def zvE (P : Program) (x0 x1 : AV) (σ : LO) (Z : ZT) : Prop :=
 zal .sl x1 σ fun a s =>
 zbd [x0, (iN 0)] s fun v s b =>
 zaC v fun c v => zaC v fun d v => bP .lss d a s fun e s =>
 zh e (il false 1 1 x1 d s fun f s =>
 zdc [(iN 0), f] s fun g s =>
 zai (.int .u64) g s fun h s =>
 cA P zaZ [c, h] s fun i s =>
 bP .add d (iN 1) s fun j s =>
 b [i, j] s) (z1 Z c s)
theorem zuX : F2 Tryz.prog zni zvE := ze [.l [0, 9] [(6, 1), (10, 9)]] Tryz.func114 (by decide +kernel) (by kernel_rfl) fun {_ _ _ _ _} => cast (by kernel_rfl)
def S_r11_may (P : Program) (x0 x1 x2 x3 : AV) (σ : LO) (Z : ZT) : Prop :=
 cA P zjY [x0] σ fun a s =>
 gTm a x1 s fun b s =>
 gT a (cA P zjY [b] s) s fun c s =>
 anC a c s fun d s =>
 gTm d x2 s fun e s =>
 gT d (cA P zjY [e] s) s fun f s =>
 anC d f s fun g s =>
 gTm g x3 s fun h s =>
 gT g (cA P zjY [h] s) s fun i s =>
 anC g i s fun j s =>
 z1 Z j s
theorem e_r11_may : F4 Tryz.prog zsl S_r11_may := ze [] Tryz.func117 (by decide +kernel) (by kernel_rfl) fun {_ _ _ _ _ _ _} => cast (by kernel_rfl)
def zmM (P : Program) (x0 x1 x2 x3 : AV) (σ : LO) (Z : ZT) : Prop :=
 m1 1 [(.d (.int .u8 0))] (.d (.int .u8 4)) σ fun a s =>
 cA P zeD [a, x0] s fun b s =>
 cA P zeD [b, x1] s fun c s =>
 cA P zeD [c, x2] s fun d s =>
 cA P zeD [d, x3] s fun e s =>
 z1 Z e s
theorem zms : F4 Tryz.prog zdy zmM := ze [] Tryz.func118 (by decide +kernel) (by kernel_rfl) fun {_ _ _ _ _ _ _} => cast (by kernel_rfl)
def znP (P : Program) (x0 : AV) (σ : LO) (Z : ZT) : Prop :=
 zaJ x0 σ fun a s =>
 zF (zO [iN 0, iN 0] [(1, 1, (iN 1))]) s fun b s =>
 cp [iN 0, iN 0] 2 b s fun c s =>
 (fun (d : LO → Prop) => fl 0 a s fun o s =>
 bP .eql o (iN 7) s fun p s =>
 gTl p 13 a s fun q s =>
 gT p (zal .sl q s) s fun r s =>
 gT p (bP .eql r (iN 1) s) s fun u s =>
 anC p u s fun w s =>
 zh w (fl 13 a s fun y s =>
 il true 8 8 y (iN 0) s fun z s =>
 cp [iN 0, iN 0, iN 0, iN 0, eN, eN, iN 0, iN 0] 8 z s fun A s =>
 zg true 2 c s fun B s =>
 zb 6 A s fun C s =>
 zn 2 C B s fun _ s =>
 zg true 8 A s fun E s =>
 m1 8 [iN 0, iN 0, iN 0, iN 0, eN, eN, iN 0, iN 0] E s fun F s =>
 zb 13 a s fun G s =>
 zn 1 G F s fun _ s =>
 d s) (fl 0 a s fun I s =>
 cA P n_r10_signed [I] s fun J s =>
 zh J (zg true 2 c s fun K s =>
 zb 28 a s fun L s =>
 zn 2 L K s fun _ s =>
 d s) (d s)))
 (fun  s => zg true 30 a s fun e s =>
 cA P zoi [e] s fun f s =>
 zd f 0 s fun _ s =>
 zd f 1 s fun h s =>
 bP .neq h (iN 0) s fun i s =>
 zh i (z2 Z eN h s) (zg true 30 a s fun j s =>
 cA P znf [j] s fun l s =>
 zd l 0 s fun m s =>
 zd l 1 s fun _ s =>
 z2 Z m (iN 0) s))
theorem znB : F1 Tryz.prog zjM znP := ze [] Tryz.func119 (by decide +kernel) (by kernel_rfl) fun {_ _ _ _} => cast (by kernel_rfl)
def S_r11_put (P : Program) (x0 x1 : AV) (σ : LO) (Z : ZT) : Prop :=
 zdc [x1, (iN 0)] σ fun a s =>
 zai (.int .u64) a s fun b s =>
 cA P zbS [x0, b] s fun c s =>
 z1 Z c s
theorem e_r11_put : F2 Tryz.prog zeD S_r11_put := ze [] Tryz.func120 (by decide +kernel) (by kernel_rfl) fun {_ _ _ _ _} => cast (by kernel_rfl)
def zgb (P : Program) (x0 x1 : AV) (σ : LO) (Z : ZT) : Prop :=
 zaJ x1 σ fun a s =>
 (fun (b : LO → Prop) => fl 0 a s fun i s =>
 bP .eql i (iN 1) s fun j s =>
 zh j (fl 9 a s fun l s =>
 zal .sl l s fun m s =>
 cA P zaz [x0, m, (iN 1), (iN 1)] s fun _ s =>
 fl 9 a s fun o s =>
 cA P zbG [o] s fun p s =>
 cA P zT [x0, p] s fun _ s =>
 b s) (bP .eql i (iN 2) s fun r s =>
 zh r (zg true 30 a s fun u s =>
 cA P zhH [x0, u] s fun _ s =>
 fl 9 a s fun y s =>
 cA P zbG [y] s fun z s =>
 cA P zT [x0, z] s fun _ s =>
 b s) ((fun (B : AV → LO → Prop) => bP .eql i (iN 3) s fun q1 s =>
 zh q1 (B q1 s) (bP .eql i (iN 4) s fun r1 s =>
 B r1 s))
 (fun C s => zh C (zg true 30 a s fun D s =>
 cA P zhH [x0, D] s fun _ s =>
 b s) (bP .eql i (iN 5) s fun F s =>
 zh F (fl 1 a s fun G s =>
 cA P zaH [x0, G] s fun _ s =>
 fl 2 a s fun I s =>
 cA P zaA [x0, I] s fun _ s =>
 fl 5 a s fun K s =>
 cA P zaz [x0, K, (iN 0), (iN 7)] s fun _ s =>
 fl 6 a s fun M s =>
 cA P zaA [x0, M] s fun _ s =>
 zb 7 a s fun O s =>
 fl 0 O s fun Q s =>
 cA P zaz [x0, Q, (iN 0), (iN 65536)] s fun _ s =>
 zb 7 a s fun S s =>
 fl 1 S s fun T s =>
 cA P zaA [x0, T] s fun _ s =>
 b s) (bP .eql i (iN 6) s fun V s =>
 zh V (fl 1 a s fun W s =>
 cA P zaH [x0, W] s fun _ s =>
 fl 3 a s fun Y s =>
 cA P zbf [x0, Y] s fun _ s =>
 fl 4 a s fun b0 s =>
 cA P zbf [x0, b0] s fun _ s =>
 b s) (bP .eql i (iN 7) s fun d0 s =>
 zh d0 (fl 13 a s fun e0 s =>
 zal .sl e0 s fun f0 s =>
 cA P zaz [x0, f0, (iN 1), (iN 1)] s fun _ s =>
 fl 13 a s fun h0 s =>
 zal .sl h0 s fun i0 s =>
 zbd [(iN 0)] s fun v s j0 =>
 zaC v fun l0 v => bP .lss l0 i0 s fun m0 s =>
 zh m0 ((fun (o0 : LO → Prop) => il true 8 8 h0 l0 s fun q0 s =>
 cp [iN 0, iN 0, iN 0, iN 0, eN, eN, iN 0, iN 0] 8 q0 s fun r0 s =>
 zg true 8 r0 s fun u0 s =>
 cA P zej [x0, u0] s fun _ s =>
 fl 1 r0 s fun y0 s =>
 fl 1 a s fun z0 s =>
 bP .neq y0 z0 s fun A0 s =>
 gFl A0 0 r0 s fun B0 s =>
 gFl A0 2 a s fun C0 s =>
 gF A0 (bP .neq B0 C0 s) s fun D0 s =>
 orC A0 D0 s fun E0 s =>
 zh E0 (cA P zT [x0, (iN 100)] s fun _ s =>
 o0 s) (o0 s))
 (fun  s => bP .add l0 (iN 1) s fun p0 s =>
 j0 [p0] s)) (b s)) (bP .eql i (iN 8) s fun G0 s =>
 zh G0 (zg true 30 a s fun H0 s =>
 cA P zkV [x0, H0] s fun _ s =>
 b s) (bP .eql i (iN 9) s fun J0 s =>
 zh J0 (fl 1 a s fun K0 s =>
 cA P zaH [x0, K0] s fun _ s =>
 fl 3 a s fun M0 s =>
 cA P zaA [x0, M0] s fun _ s =>
 b s) (bP .eql i (iN 10) s fun O0 s =>
 zh O0 (fl 1 a s fun Q0 s =>
 cA P zaH [x0, Q0] s fun _ s =>
 zb 10 a s fun S0 s =>
 zg true 3 S0 s fun T0 s =>
 cA P zcb [x0, T0] s fun _ s =>
 fl 15 a s fun V0 s =>
 zal .sl V0 s fun W0 s =>
 cA P zbH [x0, W0, (iN 262144)] s fun _ s =>
 b s) (bP .eql i (iN 11) s fun Y0 s =>
 zh Y0 (fl 5 a s fun a1 s =>
 cA P zaz [x0, a1, (iN 0), (iN 7)] s fun _ s =>
 fl 16 a s fun c1 s =>
 cA P zns [x0, c1] s fun _ s =>
 fl 17 a s fun e1 s =>
 cA P zaA [x0, e1] s fun _ s =>
 b s) (bP .eql i (iN 12) s fun g1 s =>
 zh g1 (fl 1 a s fun h1 s =>
 cA P zaH [x0, h1] s fun _ s =>
 zb 18 a s fun j1 s =>
 zg true 10 j1 s fun l1 s =>
 cA P zmj [x0, l1] s fun _ s =>
 b s) (cA P zT [x0, (iN 100)] s fun _ s =>
 b s)))))))))))))
 (fun  s => fl 0 a s fun c s =>
 cA P zcZ [c] s fun d s =>
 zh d (zb 28 a s fun e s =>
 zg true 2 e s fun f s =>
 cA P zbF [f] s fun g s =>
 cA P zT [x0, g] s fun _ s =>
 Z (some []) s) (Z (some []) s))
theorem zfY : F2 Tryz.prog zdN zgb := ze [.l [90] [(5, 1), (91, 21)]] Tryz.func121 (by decide +kernel) (by kernel_rfl) fun {_ _ _ _ _} => cast (by kernel_rfl)
def znX (P : Program) (x0 x1 : AV) (σ : LO) (Z : ZT) : Prop :=
 zaJ x0 σ fun a s =>
 zaJ x1 s fun b s =>
 zg true 30 a s fun c s =>
 zg true 30 b s fun d s =>
 cA P zfl [c] s fun e t =>
 zw b s t ∧ (cA P zfl [d] t fun f s =>
 zcv .eql (.flat [false, false, false, false, false, false, false, false, false, false, true, false, false]) e f s fun g s =>
 gTl g 9 a s fun h s =>
 gTl g 9 b s fun i s =>
 gT g (cA P zfa [h, i] s) s fun j s =>
 anC g j s fun l s =>
 gT l (zb 10 a s) s fun m s =>
 gT l (zg true 3 m s) s fun n s =>
 gT l (zb 10 b s) s fun o s =>
 gT l (zg true 3 o s) s fun p s =>
 gT l (cA P zdf [n, p] s) s fun q s =>
 anC l q s fun r s =>
 gTl r 13 a s fun u s =>
 gTl r 13 b s fun w s =>
 gT r (cA P zar [u, w, (.fn (.func zdv) [] [])] s) s fun y s =>
 anC r y s fun z s =>
 gTl z 14 a s fun A s =>
 gTl z 14 b s fun B s =>
 gT z (cA P zaw [A, B, (.fn (.func zdM) [] [])] s) s fun C s =>
 anC z C s fun D s =>
 gTl D 15 a s fun E s =>
 gTl D 15 b s fun F s =>
 gT D (cA P zfT [E, F] s) s fun G s =>
 anC D G s fun H s =>
 gT H (zb 18 a s) s fun I s =>
 gT H (zg true 10 I s) s fun J s =>
 gT H (zb 18 b s) s fun K s =>
 gT H (zg true 10 K s) s fun L s =>
 gT H (cA P zfs [J, L] s) s fun M s =>
 anC H M s fun N s =>
 z1 Z N s)
theorem znJ : F2 Tryz.prog zjO znX := ze [.d [(0, 1), (2, 1), (1, 1), (3, 45)] [(1, [3])]] Tryz.func122 (by decide +kernel) (by kernel_rfl) fun {_ _ _ _ _} => cast (by kernel_rfl)
def znW (P : Program) (x0 : AV) (σ : LO) (Z : ZT) : Prop :=
 zaJ x0 σ fun a s =>
 zW [iN 0, iN 0, iN 0, iN 0, iN 0, iN 0, iN 0, iN 0, iN 0, eN, iN 0, iN 0, eN, eN, eN, eN, (.d (.str [])), iN 0, (.d (.str [])), iN 0, eN, eN, iN 0, iN 0, eN, iN 0, iN 0, eN, iN 0, iN 0] s fun b s =>
 fl 0 a s fun c s =>
 fl 1 a s fun d s =>
 zF (zO [iN 0, iN 0, iN 0, iN 0, iN 0, iN 0, iN 0, iN 0, iN 0, eN, iN 0, iN 0, eN, eN, eN, eN, (.d (.str [])), iN 0, (.d (.str [])), iN 0, eN, eN, iN 0, iN 0, eN, iN 0, iN 0, eN, iN 0, iN 0] [(0, 1, c), (1, 1, d)]) s fun e s =>
 cp [iN 0, iN 0, iN 0, iN 0, iN 0, iN 0, iN 0, iN 0, iN 0, eN, iN 0, iN 0, eN, eN, eN, eN, (.d (.str [])), iN 0, (.d (.str [])), iN 0, eN, eN, iN 0, iN 0, eN, iN 0, iN 0, eN, iN 0, iN 0] 30 e s fun f s =>
 (fun (g : LO → Prop) => fl 0 a s fun r s =>
 bP .eql r (iN 1) s fun u s =>
 zh u (zb 9 a s fun w s =>
 zg false 1 w s fun y s =>
 zb 1 f s fun z s =>
 zn 1 z (iN 0) s fun _ t =>
 zw w s t ∧ (zb 9 f t fun B s =>
 zn 1 B y s fun _ s =>
 g s)) ((fun (D : AV → LO → Prop) => bP .eql r (iN 2) s fun M1 s =>
 zh M1 (D M1 s) (bP .eql r (iN 3) s fun N1 s =>
 zh N1 (D N1 s) (bP .eql r (iN 4) s fun O1 s =>
 D O1 s)))
 (fun E s => zh E (fl 2 a s fun F s =>
 zb 3 a s fun G s =>
 zg false 1 G s fun H s =>
 zb 4 a s fun I s =>
 zg false 1 I s fun J s =>
 zb 2 f s fun K s =>
 zn 1 K F s fun _ t =>
 zw G s t ∧ (zw I s t ∧ (zb 3 f t fun M s =>
 zn 1 M H s fun _ t =>
 zw I s t ∧ (zb 4 f t fun O s =>
 zn 1 O J s fun _ s =>
 fl 0 a s fun R s =>
 bP .eql R (iN 2) s fun S s =>
 zh S (fl 9 a s fun T s =>
 zb 9 f s fun U s =>
 zn 1 U T s fun _ s =>
 g s) (g s))))) (bP .eql r (iN 5) s fun W s =>
 zh W (fl 2 a s fun X s =>
 zb 5 a s fun Y s =>
 zg false 1 Y s fun a0 s =>
 zb 6 a s fun b0 s =>
 zg false 1 b0 s fun c0 s =>
 zb 7 a s fun d0 s =>
 zg true 2 d0 s fun e0 s =>
 zb 2 f s fun f0 s =>
 zn 1 f0 X s fun _ t =>
 zw Y s t ∧ (zw b0 s t ∧ (zw d0 s t ∧ (zb 5 f t fun h0 s =>
 zn 1 h0 a0 s fun _ t =>
 zw b0 s t ∧ (zw d0 s t ∧ (zb 6 f t fun j0 s =>
 zn 1 j0 c0 s fun _ t =>
 zw d0 s t ∧ (zb 7 f t fun m0 s =>
 zn 2 m0 e0 s fun _ s =>
 g s))))))) (bP .eql r (iN 6) s fun p0 s =>
 zh p0 (fl 3 a s fun q0 s =>
 zb 4 a s fun r0 s =>
 zg false 1 r0 s fun u0 s =>
 zb 3 f s fun w0 s =>
 zn 1 w0 q0 s fun _ t =>
 zw r0 s t ∧ (zb 4 f t fun z0 s =>
 zn 1 z0 u0 s fun _ s =>
 g s)) (bP .eql r (iN 7) s fun B0 s =>
 zh B0 (fl 2 a s fun C0 s =>
 zb 13 a s fun D0 s =>
 zg false 1 D0 s fun E0 s =>
 zb 2 f s fun F0 s =>
 zn 1 F0 C0 s fun _ t =>
 zw D0 s t ∧ (zb 13 f t fun H0 s =>
 zn 1 H0 E0 s fun _ s =>
 g s)) (bP .eql r (iN 8) s fun J0 s =>
 zh J0 (fl 2 a s fun K0 s =>
 zb 13 a s fun L0 s =>
 zg false 1 L0 s fun M0 s =>
 zb 14 a s fun N0 s =>
 zg false 1 N0 s fun O0 s =>
 zb 2 f s fun Q0 s =>
 zn 1 Q0 K0 s fun _ t =>
 zw L0 s t ∧ (zw N0 s t ∧ (zb 13 f t fun S0 s =>
 zn 1 S0 M0 s fun _ t =>
 zw N0 s t ∧ (zb 14 f t fun U0 s =>
 zn 1 U0 O0 s fun _ s =>
 g s)))) (bP .eql r (iN 9) s fun W0 s =>
 zh W0 (fl 3 a s fun X0 s =>
 zb 3 f s fun Y0 s =>
 zn 1 Y0 X0 s fun _ s =>
 g s) (bP .eql r (iN 10) s fun b1 s =>
 zh b1 (zb 10 a s fun c1 s =>
 zg true 3 c1 s fun d1 s =>
 zb 15 a s fun e1 s =>
 zg false 1 e1 s fun f1 s =>
 zb 10 f s fun g1 s =>
 zn 3 g1 d1 s fun _ t =>
 zw e1 s t ∧ (zb 15 f t fun i1 s =>
 zn 1 i1 f1 s fun _ s =>
 g s)) (bP .eql r (iN 11) s fun l1 s =>
 zh l1 (zb 5 a s fun o1 s =>
 zg false 1 o1 s fun p1 s =>
 zb 16 a s fun q1 s =>
 zg false 1 q1 s fun r1 s =>
 zb 17 a s fun u1 s =>
 zg false 1 u1 s fun w1 s =>
 zb 1 f s fun y1 s =>
 zn 1 y1 (iN 0) s fun _ t =>
 zw o1 s t ∧ (zw q1 s t ∧ (zw u1 s t ∧ (zb 5 f t fun B1 s =>
 zn 1 B1 p1 s fun _ t =>
 zw q1 s t ∧ (zw u1 s t ∧ (zb 16 f t fun D1 s =>
 zn 1 D1 r1 s fun _ t =>
 zw u1 s t ∧ (zb 17 f t fun F1 s =>
 zn 1 F1 w1 s fun _ s =>
 g s))))))) (bP .eql r (iN 12) s fun H1 s =>
 zh H1 (zb 18 a s fun I1 s =>
 zg true 10 I1 s fun J1 s =>
 zb 18 f s fun K1 s =>
 zn 10 K1 J1 s fun _ s =>
 g s) (g s))))))))))))
 (fun  s => (fun (h : LO → Prop) => fl 0 a s fun l s =>
 cA P zcZ [l] s fun m s =>
 zh m (zb 28 a s fun n s =>
 zg true 2 n s fun o s =>
 zb 28 f s fun p s =>
 zn 2 p o s fun _ s =>
 h s) (h s))
 (fun  s => zg true 30 f s fun i s =>
 zn 30 b i s fun _ s =>
 Z (zR (zaF b s true 30) (some [])) s))
theorem znI : F1 Tryz.prog zjN znW := ze [.d [(0, 6)] [(3, [13])], .d [(0, 12)] [(7, [23, 25]), (9, [25])], .d [(0, 16)] [(9, [40, 42, 44]), (11, [42, 44]), (13, [44])], .d [(0, 8)] [(5, [54])], .d [(0, 8)] [(5, [62])], .d [(0, 12)] [(7, [70, 72]), (9, [72])], .d [(0, 8)] [(5, [86])], .d [(0, 14)] [(7, [92, 94, 96]), (9, [94, 96]), (11, [96])]] Tryz.func123 (by decide +kernel) (by kernel_rfl) fun {_ _ _ _} => cast (by kernel_rfl)
def zhu (P : Program) (x0 x1 : AV) (σ : LO) (Z : ZT) : Prop :=
 zaJ x1 σ fun a s =>
 cA P zcj [x0] s fun b s =>
 unC .not b s fun c s =>
 gTm c x0 s fun d s =>
 gT c (zbP d s) s fun e s =>
 gTl c 1 e s fun f s =>
 gT c (zg true 2 a s) s fun g s =>
 gT c (zaL (.ints 2) false bF f g s) s fun h s =>
 anC c h s fun i s =>
 z1 Z i s
theorem zho : F2 Tryz.prog zdg zhu := ze [.d [(0, 12)] []] Tryz.func124 (by decide +kernel) (by kernel_rfl) fun {_ _ _ _ _} => cast (by kernel_rfl)
def zaX (P : Program) (x0 x1 x2 : AV) (σ : LO) (Z : ZT) : Prop :=
 zal .sl x0 σ fun a s =>
 zal .sl x1 s fun b s =>
 bP .neq a b s fun c s =>
 zh c (z1 Z bF s) (zal .sl x0 s fun d s =>
 zbd [(iN 0)] s fun v s e =>
 zaC v fun f v => bP .lss f d s fun g s =>
 zh g (il true 9 9 x0 f s fun h s =>
 zW [iN 0, iN 0, iN 0, (.d (.str [])), (.d (.str [])), iN 0, eN, iN 0, iN 0] s fun i s =>
 zn 9 i h s fun _ s =>
 il true 9 9 x1 f s fun l s =>
 cp [iN 0, iN 0, iN 0, (.d (.str [])), (.d (.str [])), iN 0, eN, iN 0, iN 0] 9 l s fun m s =>
 zg true 9 i s fun n s =>
 zg true 9 m s fun o s =>
 zak P x2 [dm n, dm o] s fun p s =>
 unC .not p s fun q s =>
 zh q (z1 Z bF s) (bP .add f (iN 1) s fun r s =>
 e [r] s)) (z1 Z bT s))
theorem zaW : F3 Tryz.prog zav zaX := ze [.l [17] [(6, 4), (18, 14)]] Tryz.func125 (by decide +kernel) (by kernel_rfl) fun {_ _ _ _ _ _} => cast (by kernel_rfl)
def zlA (P : Program) (x0 x1 : AV) (σ : LO) (Z : ZT) : Prop :=
 zaJ x0 σ fun a s =>
 zaJ x1 s fun b s =>
 zb 7 a s fun c s =>
 zg true 2 c s fun d s =>
 zb 7 b s fun e s =>
 zg true 2 e s fun f s =>
 zcv .eql (.ints 2) d f s fun g s =>
 gT g (zb 0 a s) s fun h s =>
 gTl g 0 h s fun i s =>
 gT g (zb 0 b s) s fun j s =>
 gTl g 0 j s fun l s =>
 gT g (bP .eql i l s) s fun m s =>
 anC g m s fun n s =>
 gT n (zb 0 a s) s fun o s =>
 gTl n 1 o s fun p s =>
 gT n (zb 0 b s) s fun q s =>
 gTl n 1 q s fun r s =>
 gT n (bP .eql p r s) s fun u s =>
 anC n u s fun w s =>
 gT w (zb 0 a s) s fun y s =>
 gT w (zb 2 y s) s fun z s =>
 gT w (zg true 5 z s) s fun A s =>
 gT w (zb 0 b s) s fun B s =>
 gT w (zb 2 B s) s fun C s =>
 gT w (zg true 5 C s) s fun D s =>
 gT w (cA P zoR [A, D] s) s fun E s =>
 anC w E s fun F s =>
 z1 Z F s
theorem zli : F2 Tryz.prog zfj zlA := ze [] Tryz.func126 (by decide +kernel) (by kernel_rfl) fun {_ _ _ _ _} => cast (by kernel_rfl)
def S_op_Same (P : Program) (x0 x1 : AV) (σ : LO) (Z : ZT) : Prop :=
 zaJ x0 σ fun a s =>
 zaJ x1 s fun b s =>
 fl 0 a s fun c s =>
 fl 0 b s fun d s =>
 bP .eql c d s fun e s =>
 gTl e 1 a s fun f s =>
 gTl e 1 b s fun g s =>
 gT e (bP .eql f g s) s fun h s =>
 anC e h s fun i s =>
 gTl i 2 a s fun j s =>
 gTl i 2 b s fun l s =>
 gT i (bP .eql j l s) s fun m s =>
 anC i m s fun n s =>
 gTl n 3 a s fun o s =>
 gTl n 3 b s fun p s =>
 gT n (bP .eql o p s) s fun q s =>
 anC n q s fun r s =>
 gTl r 4 a s fun u s =>
 gTl r 4 b s fun w s =>
 gT r (cA P zaq [u, w, (.fn (.func zkS) [] [])] s) s fun y s =>
 anC r y s fun z s =>
 z1 Z z s
theorem e_op_Same : F2 Tryz.prog zoR S_op_Same := ze [] Tryz.func127 (by decide +kernel) (by kernel_rfl) fun {_ _ _ _ _} => cast (by kernel_rfl)
end Go.Proofs.YtpgahkdjkanblaaGreat
