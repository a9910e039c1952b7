/- The conditions of each function, its slots as variables, and that the logic's conditions are these. Printed by program. -/
import Derived.Test.YtcappjcojggehaaGreatNm
import Derived.KernelRfl
set_option linter.all false
set_option maxRecDepth 100000
set_option linter.unusedVariables false
namespace Go.Proofs.YtcappjcojggehaaGreat
open Go.AW
def zjy (P : Program) (x0 : AV) (σ : LO) (Z : ZT) : Prop :=
 zab false x0 σ fun a s =>
 zE a (z1 Z eN s) (zj false 1 0 (zag (rep [(.d (.int .u8 0))] 0) []) s fun b s =>
 zl 1 1 b x0 s fun c s =>
 z1 Z c s)
theorem zji : F1 Tryz.prog zcj zjy := zo [] Tryz.func80 (by decide +kernel) (by kernel_rfl) fun {_ _ _ _} => cast (by kernel_rfl)
def zkO (P : Program) (x0 : AV) (σ : LO) (Z : ZT) : Prop :=
 zaz .sl x0 σ fun a s =>
 bP .gtr a (iN 1048576) s fun b s =>
 zE b (z2 Z (.d .nilp) (iN 3) s) (cA P zdb [] s fun c s =>
 zaz .sl x0 s fun d s =>
 zbt [(iN 0)] s fun v s e =>
 zaU v fun f v => bP .lss f d s fun g s =>
 zE g (il false 1 1 x0 f s fun h s =>
 cA P zbq [c, h] s fun i s =>
 zc i 0 s fun _ s =>
 zc i 1 s fun l s =>
 zE l (z2 Z (.d .nilp) (iN 5) s) (cA P zcN [c, h] s fun _ s =>
 bP .add f (iN 1) s fun n s =>
 e [n] s)) (z2 Z c (iN 0) s))
theorem zkD : F1 Tryz.prog zhp zkO := zo [.l [15] [(2, 2), (6, 3), (16, 14)]] Tryz.func81 (by decide +kernel) (by kernel_rfl) fun {_ _ _ _} => cast (by kernel_rfl)
def zek (P : Program) (x0 : AV) (σ : LO) (Z : ZT) : Prop :=
 zaz .sl x0 σ fun a s =>
 bP .gtr a (iN 4) s fun b s =>
 zE b (z1 Z (iN 3) s) (zaz .sl x0 s fun c s =>
 zbt [(iN 0)] s fun v s d =>
 zaU v fun e v => bP .lss e c s fun f s =>
 zE f (il true 9 9 x0 e s fun g s =>
 cp [iN 0, iN 0, iN 0, (.d (.str [])), (.d (.str [])), iN 0, eN, iN 0, iN 0] 9 g s fun h s =>
 zf 0 h s fun i s =>
 zr true 7 i s fun j s =>
 cA P zdo [j] s fun l s =>
 bP .neq l (iN 0) s fun m s =>
 zE m (z1 Z l s) (zf 7 h s fun n s =>
 zr true 2 n s fun o s =>
 cA P zcf [o] s fun p s =>
 bP .neq p (iN 0) s fun q s =>
 zE q (z1 Z p s) (bP .add e (iN 1) s fun r s =>
 d [r] s))) (zaz .sl x0 s fun u s =>
 zbt [(iN 0)] s fun v s w =>
 zaU v fun y v => bP .lss y u s fun z s =>
 zE z (il true 9 9 x0 y s fun A s =>
 zP [iN 0, iN 0, iN 0, (.d (.str [])), (.d (.str [])), iN 0, eN, iN 0, iN 0] s fun B s =>
 zp 9 B A s fun _ s =>
 zbv (.sl 9) x0 none (some y) none s fun D s =>
 zaz .sl D s fun E s =>
 zbt [(iN 0)] s fun v s F =>
 zaU v fun G v => bP .lss G E s fun H s =>
 zE H (il true 9 9 D G s fun I s =>
 cp [iN 0, iN 0, iN 0, (.d (.str [])), (.d (.str [])), iN 0, eN, iN 0, iN 0] 9 I s fun J s =>
 zf 0 B s fun K s =>
 fl 0 K s fun L s =>
 zf 0 J s fun M s =>
 fl 0 M s fun N s =>
 bP .eql L N s fun O s =>
 gT O (zf 0 B s) s fun Q s =>
 gTl O 1 Q s fun R s =>
 gT O (zf 0 J s) s fun S s =>
 gTl O 1 S s fun T s =>
 gT O (bP .eql R T s) s fun U s =>
 anC O U s fun V s =>
 zE V (z1 Z (iN 5) s) (bP .add G (iN 1) s fun W s =>
 F [W] s)) (bP .add y (iN 1) s fun X s =>
 w [X] s)) (z1 Z (iN 0) s)))
theorem zef : F1 Tryz.prog zbS zek := zo [.l [16] [(2, 1), (4, 3), (17, 16)], .l [35] [(2, 1), (7, 2), (10, 1), (36, 30)], .l [44] [(2, 1), (10, 1), (45, 20)]] Tryz.func82 (by decide +kernel) (by kernel_rfl) fun {_ _ _ _} => cast (by kernel_rfl)
def zbf (P : Program) (x0 x1 : AV) (σ : LO) (Z : ZT) : Prop :=
 cA P zaS [x0, x1] σ fun a s =>
 bP .geq a (iN 0) s fun b s =>
 z1 Z b s
theorem zbe : F2 Tryz.prog zaA zbf := zo [] Tryz.func83 (by decide +kernel) (by kernel_rfl) fun {_ _ _ _ _} => cast (by kernel_rfl)
def zdC (P : Program) (x0 x1 x2 : AV) (σ : LO) (Z : ZT) : Prop :=
 zbh x0 σ fun a s =>
 zr false 1 x1 s fun b s =>
 zr false 1 x2 s fun c s =>
 zr true 9 a s fun d s =>
 cA P zew [b, c, d] s fun e s =>
 unC .not e s fun f s =>
 z1 Z f s
theorem zdB : F3 Tryz.prog zdz zdC := zo [] Tryz.func84 (by decide +kernel) (by kernel_rfl) fun {_ _ _ _ _ _} => cast (by kernel_rfl)
def zhF (P : Program) (x0 x1 x2 : AV) (σ : LO) (Z : ZT) : Prop :=
 zbh x2 σ fun a s =>
 zf 0 a s fun b s =>
 zr true 7 b s fun c s =>
 cA P zdp [c] s fun d s =>
 zc d 0 s fun e s =>
 zc d 1 s fun f s =>
 bP .neq f (iN 0) s fun g s =>
 zE g (z1 Z bF s) (cA P zbq [x0, e] s fun h s =>
 zc h 0 s fun i s =>
 zc h 1 s fun j s =>
 gT j (zf 7 a s) s fun l s =>
 gT j (zr true 2 l s) s fun m s =>
 gT j (zf 0 a s) s fun n s =>
 gTl j 0 n s fun o s =>
 gTm j i s fun p s =>
 gT j (cA P zgl [o] s) s fun q t =>
 zS l s t ∧ (gT j (zC (zag [iN 0, iN 0] [(0, 1, q), (1, 1, p)]) t) t fun r s =>
 gT j (zbL .eql (.ints 2) m r s) s fun u s =>
 anC j u s fun w s =>
 gTm w x1 s fun y s =>
 gT w (zf 7 a s) s fun z s =>
 gT w (zr true 2 z s) s fun A s =>
 gT w (cA P zbI [y, A] s) s fun B s =>
 anC w B s fun C s =>
 z1 Z C s))
theorem zhu : F3 Tryz.prog zew zhF := zo [.d [(0, 7), (8, 1), (7, 1), (9, 10)] [(7, [27])]] Tryz.func85 (by decide +kernel) (by kernel_rfl) fun {_ _ _ _ _ _} => cast (by kernel_rfl)
def zeL (P : Program) (x0 x1 : AV) (σ : LO) (Z : ZT) : Prop :=
 zaz .sl x0 σ fun a s =>
 zY (.int .u64) a s fun b s =>
 cA P zaC [x1, b] s fun c s =>
 zaz .sl x0 s fun d s =>
 zbt [c, (iN 0)] s fun v s e =>
 zaU v fun f v => zaU v fun g v => bP .lss g d s fun h s =>
 zE h (il true 9 9 x0 g s fun i s =>
 cp [iN 0, iN 0, iN 0, (.d (.str [])), (.d (.str [])), iN 0, eN, iN 0, iN 0] 9 i s fun j s =>
 zf 0 j s fun l s =>
 zr true 7 l s fun m s =>
 cA P zdp [m] s fun n s =>
 zc n 0 s fun o s =>
 zc n 1 s fun _ s =>
 zf 7 j s fun q s =>
 zr true 2 q s fun r s =>
 cA P zbE [f, o] s fun u t =>
 zS q s t ∧ (cA P zdG [u, r] t fun w s =>
 bP .add g (iN 1) s fun y s =>
 e [w, y] s)) (z1 Z f s)
theorem zeC : F2 Tryz.prog zde zeL := zo [.l [1, 16] [(6, 3), (17, 16)], .d [(0, 2), (3, 2), (2, 1), (5, 2)] [(2, [29])]] Tryz.func86 (by decide +kernel) (by kernel_rfl) fun {_ _ _ _ _} => cast (by kernel_rfl)
def zjw (P : Program) (x0 x1 : AV) (σ : LO) (Z : ZT) : Prop :=
 cA P zcX [x0] σ fun a s =>
 bP .eql a (iN 0) s fun b s =>
 gTm b x1 s fun c s =>
 gT b (bP .geq c (iN 0) s) s fun d s =>
 anC b d s fun e s =>
 gTm e x1 s fun f s =>
 gT e (bP .leq f (iN 9007199254740992) s) s fun g s =>
 anC e g s fun h s =>
 z1 Z h s
theorem zjg : F2 Tryz.prog zgs zjw := zo [] Tryz.func87 (by decide +kernel) (by kernel_rfl) fun {_ _ _ _ _} => cast (by kernel_rfl)
def zmv (P : Program) (x0 x1 : AV) (σ : LO) (Z : ZT) : Prop :=
 cA P zch [x0] σ fun a s =>
 zbL .neq .ptr a (.d .nilp) s fun b s =>
 gTm b x1 s fun c s =>
 gT b (cA P zbU [c] s) s fun d s =>
 gT b (zbL .neq .ptr d (.d .nilp) s) s fun e s =>
 anC b e s fun f s =>
 z1 Z f s
theorem zma : F2 Tryz.prog ziB zmv := zo [] Tryz.func88 (by decide +kernel) (by kernel_rfl) fun {_ _ _ _ _} => cast (by kernel_rfl)
def znY (P : Program) (x0 x1 x2 x3 : AV) (σ : LO) (Z : ZT) : Prop :=
 zj false 1 4 (zag (rep [iN 0] 4) [(0, 1, x0), (1, 1, x1), (2, 1, x2), (3, 1, x3)]) σ fun a s =>
 zaz .sl a s fun b s =>
 zbt [(iN 0)] s fun v s c =>
 zaU v fun d v => bP .lss d b s fun e s =>
 zE e (il false 1 1 a d s fun f s =>
 bP .lss f (iN 0) s fun g s =>
 gFm g f s fun h s =>
 gF g (bP .gtr h (iN 9007199254740992) s) s fun i s =>
 orC g i s fun j s =>
 zE j (z1 Z bF s) (bP .add d (iN 1) s fun l s =>
 c [l] s)) (z1 Z bT s)
theorem znC : F4 Tryz.prog zjT znY := zo [.l [17] [(8, 1), (10, 1), (18, 10)]] Tryz.func89 (by decide +kernel) (by kernel_rfl) fun {_ _ _ _ _ _ _} => cast (by kernel_rfl)
def zjz (P : Program) (x0 x1 x2 x3 x4 : AV) (σ : LO) (Z : ZT) : Prop :=
 zbh x2 σ fun a s =>
 cA P zbq [x0, x4] s fun b s =>
 zc b 0 s fun c s =>
 zc b 1 s fun d s =>
 gT d (zr true 2 a s) s fun e s =>
 gTm d x3 s fun f s =>
 gTm d c s fun g s =>
 gT d (zC (zag [iN 0, iN 0] [(0, 1, f), (1, 1, g)]) s) s fun h s =>
 gT d (zbL .eql (.ints 2) e h s) s fun i s =>
 anC d i s fun j s =>
 gTm j x1 s fun l s =>
 gT j (zr true 2 a s) s fun m s =>
 gT j (cA P zbI [l, m] s) s fun n s =>
 anC j n s fun o s =>
 z1 Z o s
theorem zjj : F5 Tryz.prog zgv zjz := zo [] Tryz.func90 (by decide +kernel) (by kernel_rfl) fun {_ _ _ _ _ _ _ _} => cast (by kernel_rfl)
def zhb (P : Program) (x0 x1 x2 x3 : AV) (σ : LO) (Z : ZT) : Prop :=
 m1 1 [(.d (.int .u8 0))] (.d (.int .u8 4)) σ fun a s =>
 zj false 1 4 (zag (rep [iN 0] 4) [(0, 1, x0), (1, 1, x1), (2, 1, x2), (3, 1, x3)]) s fun b s =>
 cA P zjS [a, b] s fun c s =>
 z1 Z c s
theorem zgP : F4 Tryz.prog zea zhb := zo [] Tryz.func91 (by decide +kernel) (by kernel_rfl) fun {_ _ _ _ _ _ _} => cast (by kernel_rfl)
def zis (P : Program) (x0 x1 : AV) (σ : LO) (Z : ZT) : Prop :=
 cA P zcX [x1] σ fun a s =>
 bP .neq a (iN 0) s fun b s =>
 zE b (z1 Z (iN 0) s) (bP .mul x0 x1 s fun c s =>
 bP .add c (iN 1) s fun d s =>
 z1 Z d s)
theorem zih : F2 Tryz.prog zfw zis := zo [] Tryz.func92 (by decide +kernel) (by kernel_rfl) fun {_ _ _ _ _} => cast (by kernel_rfl)
def znS (P : Program) (x0 x1 : AV) (σ : LO) (Z : ZT) : Prop :=
 zY .toStr x0 σ fun a s =>
 zY .toStr x1 s fun b s =>
 bP .eql a b s fun c s =>
 z1 Z c s
theorem znw : F2 Tryz.prog zjO znS := zo [] Tryz.func94 (by decide +kernel) (by kernel_rfl) fun {_ _ _ _ _} => cast (by kernel_rfl)
def zkM (P : Program) (x0 x1 : AV) (σ : LO) (Z : ZT) : Prop :=
 zl 1 1 eN x0 σ fun a s =>
 zbt [x1, a] s fun v s b =>
 zaU v fun c v => zaU v fun d v => bP .geq c (.d (.int .u64 128)) s fun e s =>
 zE e (bP .rem c (.d (.int .u64 128)) s fun f s =>
 zY (.int .u8) f s fun g s =>
 bP .add g (.d (.int .u8 128)) s fun h s =>
 m1 1 [(.d (.int .u8 0))] h s fun i s =>
 zl 1 1 d i s fun j s =>
 bP .quo c (.d (.int .u64 128)) s fun l s =>
 b [l, j] s) (zY (.int .u8) c s fun m s =>
 m1 1 [(.d (.int .u8 0))] m s fun n s =>
 zl 1 1 d n s fun o s =>
 z1 Z o s)
theorem zkB : F2 Tryz.prog zbd zkM := zo [.l [1, 5] [(9, 11)]] Tryz.func95 (by decide +kernel) (by kernel_rfl) fun {_ _ _ _ _} => cast (by kernel_rfl)
def zjv (P : Program) (x0 x1 : AV) (σ : LO) (Z : ZT) : Prop :=
 zbh x1 σ fun a s =>
 zr true 2 a s fun b s =>
 cA P zdq [b] s fun c s =>
 bP .neq c (iN 0) s fun d s =>
 zE d (z1 Z x0 s) (fl 0 a s fun e s =>
 zY (.int .u64) e s fun f s =>
 zf 1 a s fun g s =>
 zr false 1 g s fun h s =>
 zY (.int .u64) h s fun i s =>
 cA P zbd [x0, f] s fun j t =>
 zS g s t ∧ (cA P zbd [j, i] t fun l s =>
 z1 Z l s))
theorem zjf : F2 Tryz.prog zgo zjv := zo [.d [(0, 4), (5, 3), (4, 1), (8, 2)] [(4, [14])]] Tryz.func96 (by decide +kernel) (by kernel_rfl) fun {_ _ _ _ _} => cast (by kernel_rfl)
def zir (P : Program) (x0 x1 : AV) (σ : LO) (Z : ZT) : Prop :=
 zaz .sl x1 σ fun a s =>
 zY (.int .u64) a s fun b s =>
 cA P zbd [x0, b] s fun c s =>
 zl 1 1 c x1 s fun d s =>
 z1 Z d s
theorem zig : F2 Tryz.prog zcu zir := zo [] Tryz.func97 (by decide +kernel) (by kernel_rfl) fun {_ _ _ _ _} => cast (by kernel_rfl)
def zbP (P : Program) (x0 : AV) (σ : LO) (Z : ZT) : Prop :=
 zab false x0 σ fun a s =>
 zE a (z1 Z eN s) (zj false 2 0 (zag (rep [iN 0, iN 0] 0) []) s fun b s =>
 zl 2 16 b x0 s fun c s =>
 z1 Z c s)
theorem zbO : F1 Tryz.prog zbg zbP := zo [] Tryz.func99 (by decide +kernel) (by kernel_rfl) fun {_ _ _ _} => cast (by kernel_rfl)
def zhG (P : Program) (x0 : AV) (σ : LO) (Z : ZT) : Prop :=
 zaz .sl x0 σ fun a s =>
 zbt [eN, (iN 0)] s fun v s b =>
 zaU v fun c v => zaU v fun d v => bP .lss d a s fun e s =>
 zE e (il true 9 9 x0 d s fun f s =>
 cp [iN 0, iN 0, iN 0, (.d (.str [])), (.d (.str [])), iN 0, eN, iN 0, iN 0] 9 f s fun g s =>
 zf 0 g s fun h s =>
 zf 2 h s fun i s =>
 zr true 5 i s fun j s =>
 cA P zjQ [j] s fun l s =>
 zf 0 g s fun m s =>
 zf 2 m s fun n s =>
 zp 5 n l s fun _ s =>
 zr true 9 g s fun p s =>
 m1 9 [iN 0, iN 0, iN 0, (.d (.str [])), (.d (.str [])), iN 0, eN, iN 0, iN 0] p s fun q s =>
 zl 9 104 c q s fun r s =>
 bP .add d (iN 1) s fun u s =>
 b [r, u] s) (z1 Z c s)
theorem zhv : F1 Tryz.prog zex zhG := zo [.l [3, 8] [(5, 1), (9, 14)]] Tryz.func100 (by decide +kernel) (by kernel_rfl) fun {_ _ _ _} => cast (by kernel_rfl)
def S_op_Same (P : Program) (x0 x1 : AV) (σ : LO) (Z : ZT) : Prop :=
 zbh x0 σ fun a s =>
 zbh x1 s fun b s =>
 fl 0 a s fun c s =>
 fl 0 b s fun d s =>
 bP .eql c d s fun e s =>
 gTl e 1 a s fun f s =>
 gTl e 1 b s fun g s =>
 gT e (bP .eql f g s) s fun h s =>
 anC e h s fun i s =>
 gTl i 2 a s fun j s =>
 gTl i 2 b s fun l s =>
 gT i (bP .eql j l s) s fun m s =>
 anC i m s fun n s =>
 gTl n 3 a s fun o s =>
 gTl n 3 b s fun p s =>
 gT n (bP .eql o p s) s fun q s =>
 anC n q s fun r s =>
 gTl r 4 a s fun u s =>
 gTl r 4 b s fun w s =>
 gT r (cA P zaf [u, w, (.fn (.func zgt) [] [])] s) s fun y s =>
 anC r y s fun z s =>
 z1 Z z s
theorem e_op_Same : F2 Tryz.prog zlA S_op_Same := zo [] Tryz.func106 (by decide +kernel) (by kernel_rfl) fun {_ _ _ _ _} => cast (by kernel_rfl)
def zmp (P : Program) (x0 : AV) (σ : LO) (Z : ZT) : Prop :=
 zbh x0 σ fun a s =>
 fl 0 a s fun b s =>
 cA P zhn [b] s fun c s =>
 bP .lss c (iN 0) s fun d s =>
 gFl d 1 a s fun e s =>
 gF d (bP .lss e (iN 1) s) s fun f s =>
 orC d f s fun g s =>
 gFl g 1 a s fun h s =>
 gF g (bP .gtr h (iN 9007199254740992) s) s fun i s =>
 orC g i s fun j s =>
 zE j (z1 Z (iN 80) s) (zf 2 a s fun l s =>
 zr true 5 l s fun m s =>
 cA P zgr [m] s fun n s =>
 z1 Z n s)
theorem zlU : F1 Tryz.prog zgp zmp := zo [] Tryz.func108 (by decide +kernel) (by kernel_rfl) fun {_ _ _ _} => cast (by kernel_rfl)
def S_r06_Put (P : Program) (x0 x1 : AV) (σ : LO) (Z : ZT) : Prop :=
 zbh x1 σ fun a s =>
 zr true 5 a s fun b s =>
 cA P zgr [b] s fun c s =>
 bP .neq c (iN 0) s fun d s =>
 zE d (z1 Z x0 s) (fl 0 a s fun e s =>
 cA P zfj [e] s fun f s =>
 zc f 0 s fun g s =>
 zc f 1 s fun h s =>
 zc f 2 s fun i s =>
 zc f 3 s fun j s =>
 fl 0 a s fun l s =>
 zY (.int .u64) l s fun m s =>
 cA P zbd [x0, m] s fun n s =>
 (fun (o : AV → LO → Prop) => zE g (fl 1 a s fun V s =>
 zY .toBytes V s fun W s =>
 cA P zcu [n, W] s fun X s =>
 o X s) (o n s))
 (fun p s => (fun (q : AV → LO → Prop) => zE h (fl 2 a s fun S s =>
 zY .toBytes S s fun T s =>
 cA P zcu [p, T] s fun U s =>
 q U s) (q p s))
 (fun r s => (fun (u : AV → LO → Prop) => zE i (fl 3 a s fun O s =>
 zY (.int .u64) O s fun Q s =>
 cA P zbd [r, Q] s fun R s =>
 u R s) (u r s))
 (fun w s => (fun (y : AV → LO → Prop) => zE j (fl 4 a s fun A s =>
 zaz .sl A s fun B s =>
 zY (.int .u64) B s fun C s =>
 cA P zbd [w, C] s fun D s =>
 zbt [D, (iN 0)] s fun v s E =>
 zaU v fun F v => zaU v fun G v => fl 4 a s fun H s =>
 zaz .sl H s fun I s =>
 bP .lss G I s fun J s =>
 zE J (fl 4 a s fun K s =>
 il false 1 1 K G s fun L s =>
 cA P zcu [F, L] s fun M s =>
 bP .add G (iN 1) s fun N s =>
 E [M, N] s) (y F s)) (y w s))
 (fun z s => z1 Z z s)))))
theorem e_r06_Put : F2 Tryz.prog zly S_r06_Put := zo [.l [0, 9] [(52, 14)]] Tryz.func109 (by decide +kernel) (by kernel_rfl) fun {_ _ _ _ _} => cast (by kernel_rfl)
def zeN (P : Program) (x0 x1 : AV) (σ : LO) (Z : ZT) : Prop :=
 zbh x1 σ fun a s =>
 zbt [(iN 0)] s fun v s b =>
 zaU v fun c v => nfl 0 x0 s fun d s =>
 zaz .sl d s fun e s =>
 bP .lss c e s fun f s =>
 zE f (nfl 0 x0 s fun g s =>
 il true 2 2 g c s fun h s =>
 zr true 2 a s fun i s =>
 zbL .eql (.ints 2) h i s fun j s =>
 zE j (z1 Z bT s) (bP .add c (iN 1) s fun l s =>
 b [l] s)) (z1 Z bF s)
theorem zeE : F2 Tryz.prog zdf zeN := zo [.l [5] [(4, 1), (6, 18)], .d [(0, 9)] []] Tryz.func110 (by decide +kernel) (by kernel_rfl) fun {_ _ _ _ _} => cast (by kernel_rfl)
def zhK (P : Program) (x0 : AV) (σ : LO) (Z : ZT) : Prop :=
 zbh x0 σ fun a s =>
 fl 0 a s fun b s =>
 bP .lss b (iN 0) s fun c s =>
 gFl c 0 a s fun d s =>
 gF c (bP .geq d (iN 21) s) s fun e s =>
 orC c e s fun f s =>
 gFl f 1 a s fun g s =>
 gF f (bP .lss g (iN 1) s) s fun h s =>
 orC f h s fun i s =>
 gFl i 1 a s fun j s =>
 gF i (bP .gtr j (iN 9007199254740992) s) s fun l s =>
 orC i l s fun m s =>
 zE m (z1 Z (iN 81) s) (z1 Z (iN 0) s)
theorem zhz : F1 Tryz.prog zdq zhK := zo [] Tryz.func111 (by decide +kernel) (by kernel_rfl) fun {_ _ _ _} => cast (by kernel_rfl)
def S_r11_num (P : Program) (x0 : AV) (σ : LO) (Z : ZT) : Prop :=
 bP .geq x0 (iN 0) σ fun a s =>
 gTm a x0 s fun b s =>
 gT a (bP .leq b (iN 9007199254740992) s) s fun c s =>
 anC a c s fun d s =>
 z1 Z d s
theorem e_r11_num : F1 Tryz.prog zfH S_r11_num := zo [] Tryz.func112 (by decide +kernel) (by kernel_rfl) fun {_ _ _ _} => cast (by kernel_rfl)
def S_r11_put (P : Program) (x0 x1 : AV) (σ : LO) (Z : ZT) : Prop :=
 zbK [x1, (iN 0)] σ fun a s =>
 zY (.int .u64) a s fun b s =>
 cA P zbd [x0, b] s fun c s =>
 z1 Z c s
theorem e_r11_put : F2 Tryz.prog zfG S_r11_put := zo [] Tryz.func113 (by decide +kernel) (by kernel_rfl) fun {_ _ _ _ _} => cast (by kernel_rfl)
def zhH (P : Program) (x0 : AV) (σ : LO) (Z : ZT) : Prop :=
 zbh x0 σ fun a s =>
 fl 0 a s fun b s =>
 bP .lss b (iN 0) s fun c s =>
 gFl c 0 a s fun d s =>
 gF c (bP .geq d (iN 8) s) s fun e s =>
 orC c e s fun f s =>
 gFl f 1 a s fun g s =>
 gF f (bP .lss g (iN 1) s) s fun h s =>
 orC f h s fun i s =>
 gFl i 1 a s fun j s =>
 gF i (bP .gtr j (iN 9007199254740992) s) s fun l s =>
 orC i l s fun m s =>
 zE m (z1 Z (iN 80) s) (zf 2 a s fun n s =>
 zr true 5 n s fun o s =>
 cA P zhV [o] s fun p s =>
 z1 Z p s)
theorem zhw : F1 Tryz.prog zdo zhH := zo [] Tryz.func114 (by decide +kernel) (by kernel_rfl) fun {_ _ _ _} => cast (by kernel_rfl)
def zeM (P : Program) (x0 : AV) (σ : LO) (Z : ZT) : Prop :=
 zbh x0 σ fun a s =>
 fl 0 a s fun b s =>
 bP .lss b (iN 0) s fun c s =>
 gFl c 0 a s fun d s =>
 gF c (bP .geq d (iN 21) s) s fun e s =>
 orC c e s fun f s =>
 gFl f 1 a s fun g s =>
 gF f (bP .lss g (iN 1) s) s fun h s =>
 orC f h s fun i s =>
 gFl i 1 a s fun j s =>
 gF i (bP .gtr j (iN 9007199254740992) s) s fun l s =>
 orC i l s fun m s =>
 zE m (z1 Z (iN 81) s) (z1 Z (iN 0) s)
theorem zeD : F1 Tryz.prog zcf zeM := zo [] Tryz.func115 (by decide +kernel) (by kernel_rfl) fun {_ _ _ _} => cast (by kernel_rfl)
def zbp (P : Program) (x0 x1 : AV) (σ : LO) (Z : ZT) : Prop :=
 zaz .sl x0 σ fun a s =>
 zbt [(iN 0)] s fun v s b =>
 zaU v fun c v => bP .lss c a s fun d s =>
 zE d (il true 9 9 x0 c s fun e s =>
 zae P x1 [dm e] s fun f s =>
 zE f (z1 Z c s) (bP .add c (iN 1) s fun g s =>
 b [g] s)) (z1 Z (iN (-1)) s)
theorem zbo : F2 Tryz.prog zaS zbp := zo [.l [8] [(4, 2), (9, 10)]] Tryz.func116 (by decide +kernel) (by kernel_rfl) fun {_ _ _ _ _} => cast (by kernel_rfl)
def zhI (P : Program) (x0 : AV) (σ : LO) (Z : ZT) : Prop :=
 zbh x0 σ fun a s =>
 zr true 7 a s fun b s =>
 cA P zdo [b] s fun c s =>
 bP .neq c (iN 0) s fun d s =>
 zE d (z2 Z eN c s) (fl 0 a s fun e s =>
 zY (.int .u64) e s fun f s =>
 zf 1 a s fun g s =>
 zr false 1 g s fun h s =>
 zY (.int .u64) h s fun i s =>
 zf 2 a s fun j s =>
 zr true 5 j s fun l s =>
 cA P zaC [eN, f] s fun m t =>
 zS g s t ∧ (zS j s t ∧ (cA P zaC [m, i] t fun n s =>
 zS j t s ∧ (cA P zom [n, l] s fun o s =>
 z2 Z o (iN 0) s))))
theorem zhx : F1 Tryz.prog zdp zhI := zo [.d [(0, 3), (4, 3), (8, 2), (3, 1), (7, 1), (10, 3)] [(3, [14, 18]), (7, [18])]] Tryz.func117 (by decide +kernel) (by kernel_rfl) fun {_ _ _ _} => cast (by kernel_rfl)
def zjt (P : Program) (x0 : AV) (σ : LO) (Z : ZT) : Prop :=
 bP .lss x0 (iN 0) σ fun a s =>
 gFm a x0 s fun b s =>
 gF a (bP .geq b (iN 8) s) s fun c s =>
 orC a c s fun d s =>
 zE d (z1 Z (iN (-1)) s) (bP .add (iN 13) x0 s fun e s =>
 z1 Z e s)
theorem zjd : F1 Tryz.prog zgl zjt := zo [] Tryz.func118 (by decide +kernel) (by kernel_rfl) fun {_ _ _ _} => cast (by kernel_rfl)
def zdU (P : Program) (x0 x1 : AV) (σ : LO) (Z : ZT) : Prop :=
 zbh x1 σ fun a s =>
 cA P zbw [x0] s fun b s =>
 unC .not b s fun c s =>
 gTm c x0 s fun d s =>
 gT c (zbj d s) s fun e s =>
 gTl c 1 e s fun f s =>
 gT c (zr true 2 a s) s fun g s =>
 gT c (zam (.ints 2) false bF f g s) s fun h s =>
 anC c h s fun i s =>
 z1 Z i s
theorem zdT : F2 Tryz.prog zbI zdU := zo [.d [(0, 12)] []] Tryz.func119 (by decide +kernel) (by kernel_rfl) fun {_ _ _ _ _} => cast (by kernel_rfl)
def ziv (P : Program) (x0 x1 : AV) (σ : LO) (Z : ZT) : Prop :=
 cA P zhq [x1] σ fun a s =>
 zc a 0 s fun b s =>
 zc a 1 s fun c s =>
 cp [(.d (.int .u8 0)), (.d (.int .u8 0)), (.d (.int .u8 0)), (.d (.int .u8 0)), (.d (.int .u8 0)), (.d (.int .u8 0)), (.d (.int .u8 0)), (.d (.int .u8 0)), (.d (.int .u8 0)), (.d (.int .u8 0))] 10 b s fun d s =>
 zbv (.arr 10 1) d none (some c) none s fun e s =>
 cA P zce [x0] s fun f s =>
 zl 1 1 f e s fun g s =>
 z1 Z g s
theorem zik : F2 Tryz.prog zaC ziv := zo [.d [(0, 1), (2, 2), (1, 1), (4, 2)] []] Tryz.func120 (by decide +kernel) (by kernel_rfl) fun {_ _ _ _ _} => cast (by kernel_rfl)
def zfZ (P : Program) (x0 x1 : AV) (σ : LO) (Z : ZT) : Prop :=
 zbh x1 σ fun a s =>
 zr true 2 a s fun b s =>
 cA P zcf [b] s fun c s =>
 bP .neq c (iN 0) s fun d s =>
 zE d (cA P zcj [x0] s fun e s =>
 z1 Z e s) (fl 0 a s fun f s =>
 zY (.int .u64) f s fun g s =>
 zf 1 a s fun h s =>
 zr false 1 h s fun i s =>
 zY (.int .u64) i s fun j s =>
 cA P zaC [x0, g] s fun l t =>
 zS h s t ∧ (cA P zaC [l, j] t fun m s =>
 z1 Z m s))
theorem zfO : F2 Tryz.prog zdG zfZ := zo [.d [(0, 4), (5, 3), (4, 1), (8, 2)] [(4, [15])]] Tryz.func121 (by decide +kernel) (by kernel_rfl) fun {_ _ _ _ _} => cast (by kernel_rfl)
def zha (P : Program) (x0 x1 : AV) (σ : LO) (Z : ZT) : Prop :=
 zaz .sl x1 σ fun a s =>
 zY (.int .u64) a s fun b s =>
 cA P zaC [x0, b] s fun c s =>
 zl 1 1 c x1 s fun d s =>
 z1 Z d s
theorem zgO : F2 Tryz.prog zbE zha := zo [] Tryz.func122 (by decide +kernel) (by kernel_rfl) fun {_ _ _ _ _} => cast (by kernel_rfl)
def znX (P : Program) (x0 x1 : AV) (σ : LO) (Z : ZT) : Prop :=
 zaz .sl x1 σ fun a s =>
 zbt [x0, (iN 0)] s fun v s b =>
 zaU v fun c v => zaU v fun d v => bP .lss d a s fun e s =>
 zE e (il false 1 1 x1 d s fun f s =>
 zbK [(iN 0), f] s fun g s =>
 zY (.int .u64) g s fun h s =>
 cA P zaC [c, h] s fun i s =>
 bP .add d (iN 1) s fun j s =>
 b [i, j] s) (z1 Z c s)
theorem znB : F2 Tryz.prog zjS znX := zo [.l [0, 9] [(6, 1), (10, 9)]] Tryz.func123 (by decide +kernel) (by kernel_rfl) fun {_ _ _ _ _} => cast (by kernel_rfl)
def znU (P : Program) (x0 : AV) (σ : LO) (Z : ZT) : Prop :=
 zbh x0 σ fun a s =>
 zP [iN 0, (.d (.str [])), (.d (.str [])), iN 0, eN] s fun b s =>
 fl 4 a s fun c s =>
 zaz .sl c s fun d s =>
 zbt [eN, (iN 0)] s fun v s e =>
 zaU v fun f v => zaU v fun g v => bP .lss g d s fun h s =>
 zE h (il false 1 1 c g s fun i s =>
 cA P zcj [i] s fun j s =>
 m1 1 [eN] j s fun l s =>
 zl 1 24 f l s fun m s =>
 bP .add g (iN 1) s fun n s =>
 e [m, n] s) (zf 4 a s fun o s =>
 zp 1 o f s fun _ s =>
 zr true 5 a s fun q s =>
 zp 5 b q s fun _ s =>
 Z (zM (zao b s true 5) (some [])) s)
theorem zny : F1 Tryz.prog zjQ znU := zo [.l [3, 9] [(5, 1), (10, 9)]] Tryz.func124 (by decide +kernel) (by kernel_rfl) fun {_ _ _ _} => cast (by kernel_rfl)
def zau (P : Program) (x0 x1 x2 : AV) (σ : LO) (Z : ZT) : Prop :=
 zaz .sl x0 σ fun a s =>
 zaz .sl x1 s fun b s =>
 bP .neq a b s fun c s =>
 zE c (z1 Z bF s) (zaz .sl x0 s fun d s =>
 zbt [(iN 0)] s fun v s e =>
 zaU v fun f v => bP .lss f d s fun g s =>
 zE g (il false 1 1 x0 f s fun h s =>
 il false 1 1 x1 f s fun i s =>
 zae P x2 [dm h, dm i] s fun j s =>
 unC .not j s fun l s =>
 zE l (z1 Z bF s) (bP .add f (iN 1) s fun m s =>
 e [m] s)) (z1 Z bT s))
theorem zat : F3 Tryz.prog zaf zau := zo [.l [17] [(6, 4), (18, 14)]] Tryz.func128 (by decide +kernel) (by kernel_rfl) fun {_ _ _ _ _ _} => cast (by kernel_rfl)
def zmu (P : Program) (x0 x1 : AV) (σ : LO) (Z : ZT) : Prop :=
 cA P zgu [x0, x1] σ fun a s =>
 z1 Z a s
theorem zlZ : F2 Tryz.prog zgt zmu := zo [] Tryz.func129 (by decide +kernel) (by kernel_rfl) fun {_ _ _ _ _} => cast (by kernel_rfl)
def zjx (P : Program) (x0 x1 : AV) (σ : LO) (Z : ZT) : Prop :=
 zY .toStr x0 σ fun a s =>
 zY .toStr x1 s fun b s =>
 bP .eql a b s fun c s =>
 z1 Z c s
theorem zjh : F2 Tryz.prog zgu zjx := zo [] Tryz.func130 (by decide +kernel) (by kernel_rfl) fun {_ _ _ _ _} => cast (by kernel_rfl)
def zmt (P : Program) (x0 : AV) (σ : LO) (Z : ZT) : Prop :=
 zbh x0 σ fun a s =>
 fl 0 a s fun b s =>
 cA P zfj [b] s fun c s =>
 zc c 0 s fun d s =>
 zc c 1 s fun e s =>
 zc c 2 s fun f s =>
 zc c 3 s fun g s =>
 fl 0 a s fun h s =>
 bP .lss h (iN 0) s fun i s =>
 gFl i 0 a s fun j s =>
 gF i (bP .gtr j (iN 4) s) s fun l s =>
 orC i l s fun m s =>
 gFm m d s fun n s =>
 gF m (unC .not n s) s fun o s =>
 gFm m o s fun p s =>
 gTl p 1 a s fun q s =>
 gT p (bP .neq q (.d (.str [])) s) s fun r s =>
 gF m (anC p r s) s fun u s =>
 orC m u s fun w s =>
 gFm w e s fun y s =>
 gF w (unC .not y s) s fun z s =>
 gFm w z s fun A s =>
 gTl A 2 a s fun B s =>
 gT A (bP .neq B (.d (.str [])) s) s fun C s =>
 gF w (anC A C s) s fun D s =>
 orC w D s fun E s =>
 gFm E f s fun F s =>
 gF E (unC .not F s) s fun G s =>
 gFm E G s fun H s =>
 gTl H 3 a s fun I s =>
 gT H (bP .neq I (iN 0) s) s fun J s =>
 gF E (anC H J s) s fun K s =>
 orC E K s fun L s =>
 gFm L g s fun M s =>
 gF L (unC .not M s) s fun N s =>
 gFm L N s fun O s =>
 gTl O 4 a s fun Q s =>
 gT O (zaz .sl Q s) s fun R s =>
 gT O (bP .gtr R (iN 0) s) s fun S s =>
 gF L (anC O S s) s fun T s =>
 orC L T s fun U s =>
 zE U (z1 Z (iN 60) s) (gTl d 1 a s fun V s =>
 gT d (cA P zhU [V] s) s fun W s =>
 gT d (unC .not W s) s fun X s =>
 anC d X s fun Y s =>
 gFm Y e s fun a0 s =>
 gFm Y a0 s fun b0 s =>
 gTl b0 2 a s fun c0 s =>
 gT b0 (cA P zhU [c0] s) s fun d0 s =>
 gT b0 (unC .not d0 s) s fun e0 s =>
 gF Y (anC b0 e0 s) s fun f0 s =>
 orC Y f0 s fun g0 s =>
 zE g0 (z1 Z (iN 61) s) (gTl g 4 a s fun h0 s =>
 gT g (zaz .sl h0 s) s fun i0 s =>
 gT g (bP .lss i0 (iN 1) s) s fun j0 s =>
 gTm g j0 s fun l0 s =>
 gFl l0 4 a s fun m0 s =>
 gF l0 (zaz .sl m0 s) s fun o0 s =>
 gF l0 (bP .gtr o0 (iN 4) s) s fun p0 s =>
 gT g (orC l0 p0 s) s fun q0 s =>
 anC g q0 s fun r0 s =>
 zE r0 (z1 Z (iN 62) s) (zbt [(iN 0)] s fun v s u0 =>
 zaU v fun w0 v => fl 4 a s fun y0 s =>
 zaz .sl y0 s fun z0 s =>
 bP .lss w0 z0 s fun A0 s =>
 zE A0 (fl 4 a s fun B0 s =>
 il false 1 1 B0 w0 s fun C0 s =>
 zaz .sl C0 s fun D0 s =>
 bP .gtr D0 (iN 64) s fun E0 s =>
 zE E0 (z1 Z (iN 62) s) (bP .add w0 (iN 1) s fun F0 s =>
 u0 [F0] s)) (fl 3 a s fun G0 s =>
 bP .lss G0 (iN 0) s fun H0 s =>
 gFl H0 3 a s fun I0 s =>
 gF H0 (bP .gtr I0 (iN 9007199254740992) s) s fun J0 s =>
 orC H0 J0 s fun K0 s =>
 zE K0 (z1 Z (iN 60) s) (z1 Z (iN 0) s)))))
theorem zlY : F1 Tryz.prog zgr zmt := zo [.l [7] [(2, 1), (90, 14)]] Tryz.func132 (by decide +kernel) (by kernel_rfl) fun {_ _ _ _} => cast (by kernel_rfl)
def zkL (P : Program) (x0 : AV) (σ : LO) (Z : ZT) : Prop :=
 bP .eql x0 (iN 1) σ fun a s =>
 zE a (Z (zM (some bT) (zM (some bF) (zM (some bF) (zM (some bF) (some []))))) s) (bP .eql x0 (iN 2) s fun b s =>
 zE b (Z (zM (some bT) (zM (some bF) (zM (some bF) (zM (some bT) (some []))))) s) (bP .eql x0 (iN 3) s fun c s =>
 zE c (Z (zM (some bT) (zM (some bT) (zM (some bT) (zM (some bF) (some []))))) s) (bP .eql x0 (iN 4) s fun d s =>
 zE d (Z (zM (some bT) (zM (some bF) (zM (some bT) (zM (some bF) (some []))))) s) (Z (zM (some bF) (zM (some bF) (zM (some bF) (zM (some bF) (some []))))) s))))
theorem zkA : F1 Tryz.prog zfj zkL := zo [] Tryz.func133 (by decide +kernel) (by kernel_rfl) fun {_ _ _ _} => cast (by kernel_rfl)
def znV (P : Program) (x0 : AV) (σ : LO) (Z : ZT) : Prop :=
 zbh x0 σ fun a s =>
 zr true 5 a s fun b s =>
 cA P zlz [b] s fun c s =>
 zc c 0 s fun d s =>
 zc c 1 s fun e s =>
 cp [iN 0, (.d (.str [])), (.d (.str [])), iN 0, eN] 5 d s fun f s =>
 unC .not e s fun g s =>
 gF g (zr true 5 a s) s fun h s =>
 gF g (zr true 5 f s) s fun i s =>
 gF g (cA P zlA [h, i] s) s fun j s =>
 gF g (unC .not j s) s fun l s =>
 orC g l s fun m s =>
 zE m (z1 Z (iN 60) s) (fl 0 a s fun n s =>
 bP .neq n (iN 0) s fun o s =>
 gTl o 1 a s fun p s =>
 gT o (cA P ziV [p] s) s fun q s =>
 gT o (unC .not q s) s fun r s =>
 anC o r s fun u s =>
 zE u (z1 Z (iN 61) s) (fl 0 a s fun w s =>
 bP .eql w (iN 3) s fun y s =>
 gTl y 2 a s fun z s =>
 gT y (cA P ziV [z] s) s fun A s =>
 gT y (unC .not A s) s fun B s =>
 anC y B s fun C s =>
 zE C (z1 Z (iN 61) s) (fl 0 a s fun D s =>
 bP .eql D (iN 2) s fun E s =>
 gTl E 4 a s fun F s =>
 gT E (zaz .sl F s) s fun G s =>
 gT E (bP .lss G (iN 1) s) s fun H s =>
 gTm E H s fun I s =>
 gFl I 4 a s fun J s =>
 gF I (zaz .sl J s) s fun K s =>
 gF I (bP .gtr K (iN 4) s) s fun L s =>
 gT E (orC I L s) s fun M s =>
 gTm E M s fun N s =>
 gFl N 4 a s fun O s =>
 gFm N (.fn (.func zfk) [] []) s fun Q s =>
 gF N (cA P zay [O, Q] s) s fun R s =>
 gT E (orC N R s) s fun S s =>
 anC E S s fun T s =>
 zE T (z1 Z (iN 62) s) (fl 3 a s fun U s =>
 bP .lss U (iN 0) s fun V s =>
 gFl V 3 a s fun W s =>
 gF V (bP .gtr W (iN 9007199254740992) s) s fun X s =>
 orC V X s fun Y s =>
 zE Y (z1 Z (iN 60) s) (z1 Z (iN 0) s)))))
theorem znz : F1 Tryz.prog zhV znV := zo [] Tryz.func134 (by decide +kernel) (by kernel_rfl) fun {_ _ _ _} => cast (by kernel_rfl)
def S_op_Put (P : Program) (x0 x1 : AV) (σ : LO) (Z : ZT) : Prop :=
 zbh x1 σ fun a s =>
 cA P zcj [x0] s fun b s =>
 zr true 5 a s fun c s =>
 cA P zhV [c] s fun d s =>
 bP .neq d (iN 0) s fun e s =>
 zE e (z1 Z b s) (fl 0 a s fun f s =>
 zY (.int .u64) f s fun g s =>
 cA P zaC [b, g] s fun h s =>
 (fun (i : AV → LO → Prop) => fl 0 a s fun T s =>
 bP .neq T (iN 0) s fun U s =>
 zE U (fl 1 a s fun V s =>
 zY .toBytes V s fun W s =>
 cA P zbE [h, W] s fun X s =>
 i X s) (i h s))
 (fun j s => (fun (l : AV → LO → Prop) => fl 0 a s fun n s =>
 bP .eql n (iN 2) s fun o s =>
 zE o (fl 4 a s fun p s =>
 zaz .sl p s fun q s =>
 zY (.int .u64) q s fun r s =>
 cA P zaC [j, r] s fun u s =>
 fl 4 a s fun w s =>
 zaz .sl w s fun y s =>
 zbt [u, (iN 0)] s fun v s z =>
 zaU v fun A v => zaU v fun B v => bP .lss B y s fun C s =>
 zE C (il false 1 1 w B s fun D s =>
 cA P zbE [A, D] s fun E s =>
 bP .add B (iN 1) s fun F s =>
 z [E, F] s) (l A s)) (bP .eql n (iN 3) s fun G s =>
 zE G (fl 2 a s fun H s =>
 zY .toBytes H s fun I s =>
 zf 3 a s fun J s =>
 zr false 1 J s fun K s =>
 zY (.int .u64) K s fun L s =>
 cA P zbE [j, I] s fun M t =>
 zS J s t ∧ (cA P zaC [M, L] t fun N s =>
 l N s)) (bP .eql n (iN 4) s fun O s =>
 zE O (fl 3 a s fun Q s =>
 zY (.int .u64) Q s fun R s =>
 cA P zaC [j, R] s fun S s =>
 l S s) (l j s))))
 (fun m s => z1 Z m s)))
theorem e_op_Put : F2 Tryz.prog zom S_op_Put := zo [.l [5, 40] [(7, 1), (41, 7)], .d [(0, 4), (5, 3), (4, 1), (8, 2)] [(4, [55])]] Tryz.func135 (by decide +kernel) (by kernel_rfl) fun {_ _ _ _ _} => cast (by kernel_rfl)
def zkP (P : Program) (x0 : AV) (σ : LO) (Z : ZT) : Prop :=
 zP [(.d (.int .u8 0)), (.d (.int .u8 0)), (.d (.int .u8 0)), (.d (.int .u8 0)), (.d (.int .u8 0)), (.d (.int .u8 0)), (.d (.int .u8 0)), (.d (.int .u8 0)), (.d (.int .u8 0)), (.d (.int .u8 0))] σ fun a s =>
 zP [(.d (.int .u8 0)), (.d (.int .u8 0)), (.d (.int .u8 0)), (.d (.int .u8 0)), (.d (.int .u8 0)), (.d (.int .u8 0)), (.d (.int .u8 0)), (.d (.int .u8 0)), (.d (.int .u8 0)), (.d (.int .u8 0))] s fun b s =>
 zbt [x0, (iN 0)] s fun v s c =>
 zaU v fun d v => zaU v fun e v => bP .gtr d (.d (.int .u64 127)) s fun f s =>
 zE f (zY (.int .u8) d s fun g s =>
 bP .or g (.d (.int .u8 128)) s fun h s =>
 zF (some 10) 1 b e s fun i s =>
 zp 1 i h s fun _ s =>
 bP .shr d (.d (.int .u64 7)) s fun l s =>
 bP .add e (iN 1) s fun m s =>
 c [l, m] s) (zY (.int .u8) d s fun n s =>
 zF (some 10) 1 b e s fun o s =>
 zp 1 o n s fun _ s =>
 zr true 10 b s fun q s =>
 bP .add e (iN 1) s fun r s =>
 zp 10 a q s fun _ s =>
 Z (zM (zao a s true 10) (zM (some r) (some []))) s)
theorem zkE : F1 Tryz.prog zhq zkP := zo [.l [0, 5] [(6, 11)]] Tryz.func136 (by decide +kernel) (by kernel_rfl) fun {_ _ _ _} => cast (by kernel_rfl)
def zdx (P : Program) (x0 : AV) (σ : LO) (Z : ZT) : Prop :=
 zaz .sl x0 σ fun a s =>
 zaz .sl x0 s fun b s =>
 zbv (.sl 1) x0 none (some a) (some b) s fun c s =>
 z1 Z c s
theorem zds : F1 Tryz.prog zce zdx := zo [] Tryz.func137 (by decide +kernel) (by kernel_rfl) fun {_ _ _ _} => cast (by kernel_rfl)
def znR (P : Program) (x0 : AV) (σ : LO) (Z : ZT) : Prop :=
 cA P ziA [x0] σ fun a s =>
 bP .gtr a (iN 0) s fun b s =>
 z1 Z b s
theorem znv : F1 Tryz.prog zhU znR := zo [] Tryz.func141 (by decide +kernel) (by kernel_rfl) fun {_ _ _ _} => cast (by kernel_rfl)
def S_op_only (P : Program) (x0 : AV) (σ : LO) (Z : ZT) : Prop :=
 zbh x0 σ fun a s =>
 zP [iN 0, (.d (.str [])), (.d (.str [])), iN 0, eN] s fun b s =>
 fl 0 a s fun c s =>
 zC (zag [iN 0, (.d (.str [])), (.d (.str [])), iN 0, eN] [(0, 1, c)]) s fun d s =>
 cp [iN 0, (.d (.str [])), (.d (.str [])), iN 0, eN] 5 d s fun e s =>
 (fun (f : LO → Prop) => fl 0 a s fun i s =>
 bP .eql i (iN 0) s fun j s =>
 zE j (f s) (bP .eql i (iN 1) s fun l s =>
 zE l (fl 1 a s fun m s =>
 zf 1 e s fun n s =>
 zp 1 n m s fun _ s =>
 f s) (bP .eql i (iN 2) s fun p s =>
 zE p (fl 1 a s fun q s =>
 zf 4 a s fun r s =>
 zr false 1 r s fun u s =>
 zf 1 e s fun w s =>
 zp 1 w q s fun _ t =>
 zS r s t ∧ (zf 4 e t fun z s =>
 zp 1 z u s fun _ s =>
 f s)) (bP .eql i (iN 3) s fun B s =>
 zE B (fl 1 a s fun C s =>
 zf 2 a s fun D s =>
 zr false 1 D s fun E s =>
 zf 3 a s fun F s =>
 zr false 1 F s fun G s =>
 zf 1 e s fun H s =>
 zp 1 H C s fun _ t =>
 zS D s t ∧ (zS F s t ∧ (zf 2 e t fun J s =>
 zp 1 J E s fun _ t =>
 zS F s t ∧ (zf 3 e t fun L s =>
 zp 1 L G s fun _ s =>
 f s)))) (bP .eql i (iN 4) s fun N s =>
 zE N (fl 1 a s fun O s =>
 zf 3 a s fun Q s =>
 zr false 1 Q s fun R s =>
 zf 1 e s fun S s =>
 zp 1 S O s fun _ t =>
 zS Q s t ∧ (zf 3 e t fun U s =>
 zp 1 U R s fun _ s =>
 f s)) (zr true 5 e s fun W s =>
 zp 5 b W s fun _ s =>
 Z (zM (zao b s true 5) (zM (some bF) (some []))) s))))))
 (fun  s => zr true 5 e s fun g s =>
 zp 5 b g s fun _ s =>
 Z (zM (zao b s true 5) (zM (some bT) (some []))) s)
theorem e_op_only : F1 Tryz.prog zlz S_op_only := zo [.d [(0, 8)] [(5, [22])], .d [(0, 12)] [(7, [30, 32]), (9, [32])], .d [(0, 8)] [(5, [41])]] Tryz.func142 (by decide +kernel) (by kernel_rfl) fun {_ _ _ _} => cast (by kernel_rfl)
def zkN (P : Program) (x0 : AV) (σ : LO) (Z : ZT) : Prop :=
 zaz .sl x0 σ fun a s =>
 bP .gtr a (iN 64) s fun b s =>
 z1 Z b s
theorem zkC : F1 Tryz.prog zfk zkN := zo [] Tryz.func143 (by decide +kernel) (by kernel_rfl) fun {_ _ _ _} => cast (by kernel_rfl)
def S_op_Name (P : Program) (x0 : AV) (σ : LO) (Z : ZT) : Prop :=
 cA P zjP [x0] σ fun a s =>
 bP .gtr a (iN 0) s fun b s =>
 z1 Z b s
theorem e_op_Name : F1 Tryz.prog ziV S_op_Name := zo [] Tryz.func144 (by decide +kernel) (by kernel_rfl) fun {_ _ _ _} => cast (by kernel_rfl)
def zbc (P : Program) (x0 x1 : AV) (σ : LO) (Z : ZT) : Prop :=
 cA P zbk [x0, x1] σ fun a s =>
 bP .geq a (iN 0) s fun b s =>
 z1 Z b s
theorem zba : F2 Tryz.prog zay zbc := zo [] Tryz.func145 (by decide +kernel) (by kernel_rfl) fun {_ _ _ _ _} => cast (by kernel_rfl)
def zms (P : Program) (x0 : AV) (σ : LO) (Z : ZT) : Prop :=
 zbt [x0, (iN 0)] σ fun v s a =>
 zaU v fun b v => zaU v fun c v => zaz .str b s fun d s =>
 bP .gtr d (iN 0) s fun e s =>
 zE e (cA P ziz [b] s fun f s =>
 zc f 0 s fun g s =>
 zc f 1 s fun h s =>
 bP .eql h (iN 0) s fun i s =>
 gFm i g s fun j s =>
 gF i (bP .lss j (iN 33) s) s fun l s =>
 orC i l s fun m s =>
 gFm m g s fun n s =>
 gF m (bP .geq n (iN 127) s) s fun o s =>
 gFm m o s fun p s =>
 gTm p g s fun q s =>
 gT p (bP .lss q (iN 160) s) s fun r s =>
 gF m (anC p r s) s fun u s =>
 orC m u s fun w s =>
 gFm w g s fun y s =>
 gF w (bP .eql y (iN 47) s) s fun z s =>
 orC w z s fun A s =>
 gFm A g s fun B s =>
 gF A (bP .eql B (iN 65533) s) s fun C s =>
 orC A C s fun D s =>
 gFm D c s fun E s =>
 gF D (bP .geq E (iN 16) s) s fun F s =>
 orC D F s fun G s =>
 zE G (z1 Z (iN 0) s) (bP .add c (iN 1) s fun H s =>
 zbv .str b (some h) none none s fun I s =>
 a [I, H] s)) (z1 Z c s)
theorem zlX : F1 Tryz.prog ziA zms := zo [.l [0, 3] [(2, 1), (4, 41)]] Tryz.func157 (by decide +kernel) (by kernel_rfl) fun {_ _ _ _} => cast (by kernel_rfl)
def znT (P : Program) (x0 : AV) (σ : LO) (Z : ZT) : Prop :=
 zW x0 σ fun a s =>
 zbt [(iN 0)] s fun v s b =>
 zaU v fun c v => ziU a s fun d s =>
 zc d 0 s fun e s =>
 zE e (zc d 2 s fun f s =>
 bP .lss f (.d (.int .i32 33)) s fun g s =>
 gFm g f s fun h s =>
 gF g (bP .geq h (.d (.int .i32 127)) s) s fun i s =>
 gFm g i s fun j s =>
 gTm j f s fun l s =>
 gT j (bP .leq l (.d (.int .i32 159)) s) s fun m s =>
 gF g (anC j m s) s fun n s =>
 orC g n s fun o s =>
 gFm o f s fun p s =>
 gF o (bP .eql p (.d (.int .i32 47)) s) s fun q s =>
 orC o q s fun r s =>
 gFm r f s fun u s =>
 gF r (bP .eql u (.d (.int .i32 65533)) s) s fun w s =>
 orC r w s fun y s =>
 zE y (z1 Z (iN 0) s) (bP .add c (iN 1) s fun z s =>
 b [z] s)) (bP .gtr c (iN 16) s fun A s =>
 zE A (z1 Z (iN 0) s) (z1 Z c s))
theorem znx : F1 Tryz.prog zjP znT := zo [.l [3] [(2, 1), (5, 1), (8, 23)]] Tryz.func158 (by decide +kernel) (by kernel_rfl) fun {_ _ _ _} => cast (by kernel_rfl)
def zbm (P : Program) (x0 x1 : AV) (σ : LO) (Z : ZT) : Prop :=
 zaz .sl x0 σ fun a s =>
 zbt [(iN 0)] s fun v s b =>
 zaU v fun c v => bP .lss c a s fun d s =>
 zE d (il false 1 1 x0 c s fun e s =>
 zae P x1 [dm e] s fun f s =>
 zE f (z1 Z c s) (bP .add c (iN 1) s fun g s =>
 b [g] s)) (z1 Z (iN (-1)) s)
theorem zbl : F2 Tryz.prog zbk zbm := zo [.l [8] [(4, 2), (9, 10)]] Tryz.func159 (by decide +kernel) (by kernel_rfl) fun {_ _ _ _ _} => cast (by kernel_rfl)
def zmr (P : Program) (x0 : AV) (σ : LO) (Z : ZT) : Prop :=
 zan x0 (iN 0) σ fun a s =>
 cA P zjN [a] s fun b s =>
 bP .eql b (iN 0) s fun c s =>
 gFm c b s fun d s =>
 gFm c x0 s fun e s =>
 gF c (zaz .str e s) s fun f s =>
 gF c (bP .gtr d f s) s fun g s =>
 orC c g s fun h s =>
 zE h (z2 Z (iN 0) (iN 0) s) (bP .eql b (iN 1) s fun i s =>
 zE i (zan x0 (iN 0) s fun j s =>
 zY (.int .i64) j s fun l s =>
 z2 Z l (iN 1) s) (zan x0 (iN 0) s fun m s =>
 zY (.int .i64) m s fun n s =>
 bP .sub (iN 7) b s fun o s =>
 bP .shl (iN 1) o s fun p s =>
 bP .sub p (iN 1) s fun q s =>
 bP .and n q s fun r s =>
 zbt [r, (iN 1)] s fun v s u =>
 zaU v fun w v => zaU v fun y v => bP .lss y b s fun z s =>
 zE z (zan x0 y s fun A s =>
 bP .lss A (.d (.int .u8 128)) s fun B s =>
 gFm B x0 s fun C s =>
 gFm B y s fun D s =>
 gF B (zan C D s) s fun E s =>
 gF B (bP .geq E (.d (.int .u8 192)) s) s fun F s =>
 orC B F s fun G s =>
 zE G (z2 Z (iN 0) (iN 0) s) (bP .mul w (iN 64) s fun H s =>
 zan x0 y s fun I s =>
 zY (.int .i64) I s fun J s =>
 bP .rem J (iN 64) s fun K s =>
 bP .add H K s fun L s =>
 bP .add y (iN 1) s fun M s =>
 u [L, M] s)) (zj false 1 5 (zag (rep [iN 0] 5) [(0, 1, (iN 0)), (1, 1, (iN 0)), (2, 1, (iN 128)), (3, 1, (iN 2048)), (4, 1, (iN 65536))]) s fun N s =>
 il false 1 1 N b s fun O s =>
 bP .lss w O s fun Q s =>
 gFm Q w s fun R s =>
 gF Q (bP .gtr R (iN 1114111) s) s fun S s =>
 orC Q S s fun T s =>
 gFm T w s fun U s =>
 gF T (bP .geq U (iN 55296) s) s fun V s =>
 gFm T V s fun W s =>
 gTm W w s fun X s =>
 gT W (bP .lss X (iN 57344) s) s fun Y s =>
 gF T (anC W Y s) s fun a0 s =>
 orC T a0 s fun b0 s =>
 zE b0 (z2 Z (iN 0) (iN 0) s) (z2 Z w b s))))
theorem zlW : F1 Tryz.prog ziz zmr := zo [.d [(0, 9)] [], .l [5, 6] [(2, 2), (32, 23)]] Tryz.func166 (by decide +kernel) (by kernel_rfl) fun {_ _ _ _} => cast (by kernel_rfl)
def znQ (P : Program) (x0 : AV) (σ : LO) (Z : ZT) : Prop :=
 bP .lss x0 (.d (.int .u8 128)) σ fun a s =>
 zE a (z1 Z (iN 1) s) (bP .geq x0 (.d (.int .u8 194)) s fun b s =>
 gTm b x0 s fun c s =>
 gT b (bP .lss c (.d (.int .u8 224)) s) s fun d s =>
 anC b d s fun e s =>
 zE e (z1 Z (iN 2) s) (bP .geq x0 (.d (.int .u8 224)) s fun f s =>
 gTm f x0 s fun g s =>
 gT f (bP .lss g (.d (.int .u8 240)) s) s fun h s =>
 anC f h s fun i s =>
 zE i (z1 Z (iN 3) s) (bP .geq x0 (.d (.int .u8 240)) s fun j s =>
 gTm j x0 s fun l s =>
 gT j (bP .lss l (.d (.int .u8 245)) s) s fun m s =>
 anC j m s fun n s =>
 zE n (z1 Z (iN 4) s) (z1 Z (iN 0) s))))
theorem znu : F1 Tryz.prog zjN znQ := zo [] Tryz.func168 (by decide +kernel) (by kernel_rfl) fun {_ _ _ _} => cast (by kernel_rfl)
end Go.Proofs.YtcappjcojggehaaGreat
