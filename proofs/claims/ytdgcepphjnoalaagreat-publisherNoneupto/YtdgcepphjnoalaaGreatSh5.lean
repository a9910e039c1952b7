/- The conditions of each function, its slots as variables, and that the logic's conditions are these. Printed by program. -/
import Derived.Test.YtdgcepphjnoalaaGreatNm
import Derived.KernelRfl
set_option linter.all false
set_option maxRecDepth 100000
set_option linter.unusedVariables false
namespace Go.Proofs.YtdgcepphjnoalaaGreat
open Go.AW
def zax (P : Program) (x0 x1 x2 : AV) (σ : LO) (Z : ZT) : Prop :=
 zaV .sl x0 σ fun a s =>
 zaV .sl x1 s fun b s =>
 bP .neq a b s fun c s =>
 zo c (z1 Z bF s) (zaV .sl x0 s fun d s =>
 zec [(iN 0)] s fun v s e =>
 zed v fun f v => bP .lss f d s fun g s =>
 zo g (il true 9 9 x0 f s fun h s =>
 zR zl0 s fun i s =>
 zg 9 i h s fun _ s =>
 il true 9 9 x1 f s fun l s =>
 cp zl0 9 l s fun m s =>
 zi true 9 i s fun n s =>
 zi true 9 m s fun o s =>
 zaq P x2 [dm n, dm o] s fun p s =>
 unC .not p s fun q s =>
 zo q (z1 Z bF s) (bP .add f (iN 1) s fun r s =>
 e [r] s)) (z1 Z bT s))
theorem zby : F3 Tryz.prog zW zax := zm [.l [17] [(6, 4), (18, 14)]] Tryz.func201
def ziN (P : Program) (x0 x1 : AV) (σ : LO) (Z : ZT) : Prop :=
 zbD x0 σ fun a s =>
 zbD x1 s fun b s =>
 zd 7 a s fun c s =>
 zi true 2 c s fun d s =>
 zd 7 b s fun e s =>
 zi true 2 e s fun f s =>
 zds .eql (.ints 2) d f s fun g s =>
 gT g (zd 0 a s) s fun h s =>
 gTl g 0 h s fun i s =>
 gT g (zd 0 b s) s fun j s =>
 gTl g 0 j s fun l s =>
 gT g (bP .eql i l s) s fun m s =>
 anC g m s fun n s =>
 gT n (zd 0 a s) s fun o s =>
 gTl n 1 o s fun p s =>
 gT n (zd 0 b s) s fun q s =>
 gTl n 1 q s fun r s =>
 gT n (bP .eql p r s) s fun u s =>
 anC n u s fun w s =>
 gT w (zd 0 a s) s fun y s =>
 gT w (zd 2 y s) s fun z s =>
 gT w (zi true 5 z s) s fun A s =>
 gT w (zd 0 b s) s fun B s =>
 gT w (zd 2 B s) s fun C s =>
 gT w (zi true 5 C s) s fun D s =>
 gT w (cA P zlo [A, D] s) s fun E s =>
 anC w E s fun F s =>
 z1 Z F s
theorem znu : F2 Tryz.prog zeq ziN := zm [] Tryz.func202
def zcS (P : Program) (x0 x1 : AV) (σ : LO) (Z : ZT) : Prop :=
 zaV .sl x0 σ fun a s =>
 zaV .sl x1 s fun b s =>
 bP .neq a b s fun c s =>
 zo c (z1 Z bF s) (zaV .sl x0 s fun d s =>
 zec [(iN 0)] s fun v s e =>
 zed v fun f v => bP .lss f d s fun g s =>
 zo g (il true 2 2 x0 f s fun h s =>
 il true 2 2 x1 f s fun i s =>
 zds .neq (.ints 2) h i s fun j s =>
 zo j (z1 Z bF s) (bP .add f (iN 1) s fun l s =>
 e [l] s)) (z1 Z bT s))
theorem zeX : F2 Tryz.prog zaK zcS := zm [.l [13] [(4, 2), (14, 12)], .d [(0, 9)] []] Tryz.func203
def zak (P : Program) (x0 x1 x2 : AV) (σ : LO) (Z : ZT) : Prop :=
 zaV .sl x0 σ fun a s =>
 zaV .sl x1 s fun b s =>
 bP .neq a b s fun c s =>
 zo c (z1 Z bF s) (zaV .sl x0 s fun d s =>
 zec [(iN 0)] s fun v s e =>
 zed v fun f v => bP .lss f d s fun g s =>
 zo g (il true 7 7 x0 f s fun h s =>
 zR zl7 s fun i s =>
 zg 7 i h s fun _ s =>
 il true 7 7 x1 f s fun l s =>
 cp zl7 7 l s fun m s =>
 zi true 7 i s fun n s =>
 zi true 7 m s fun o s =>
 zaq P x2 [dm n, dm o] s fun p s =>
 unC .not p s fun q s =>
 zo q (z1 Z bF s) (bP .add f (iN 1) s fun r s =>
 e [r] s)) (z1 Z bT s))
theorem zaX : F3 Tryz.prog zH zak := zm [.l [17] [(6, 4), (18, 14)]] Tryz.func204
def zfg (P : Program) (x0 x1 : AV) (σ : LO) (Z : ZT) : Prop :=
 zbD x0 σ fun a s =>
 zbD x1 s fun b s =>
 fl 0 a s fun c s =>
 fl 0 b s fun d s =>
 bP .eql c d s fun e s =>
 gTl e 1 a s fun f s =>
 gTl e 1 b s fun g s =>
 gT e (bP .eql f g s) s fun h s =>
 anC e h s fun i s =>
 gTl i 2 a s fun j s =>
 gTl i 2 b s fun l s =>
 gT i (bP .eql j l s) s fun m s =>
 anC i m s fun n s =>
 gT n (zd 3 a s) s fun o s =>
 gT n (zi true 2 o s) s fun p s =>
 gT n (zd 3 b s) s fun q s =>
 gT n (zi true 2 q s) s fun r s =>
 gT n (zds .eql (.ints 2) p r s) s fun u s =>
 anC n u s fun w s =>
 gTl w 5 a s fun y s =>
 gTl w 5 b s fun z s =>
 gT w (cA P zaK [y, z] s) s fun A s =>
 anC w A s fun B s =>
 gTl B 6 a s fun C s =>
 gTl B 6 b s fun D s =>
 gT B (cA P zeg [C, D] s) s fun E s =>
 anC B E s fun F s =>
 z1 Z F s
theorem zja : F2 Tryz.prog zcA zfg := zm [] Tryz.func205
def zcl (P : Program) (x0 x1 : AV) (σ : LO) (Z : ZT) : Prop :=
 zaV .sl x0 σ fun a s =>
 zaV .sl x1 s fun b s =>
 bP .neq a b s fun c s =>
 zo c (z1 Z bF s) (zaV .sl x0 s fun d s =>
 zec [(iN 0)] s fun v s e =>
 zed v fun f v => bP .lss f d s fun g s =>
 zo g (il true 5 5 x0 f s fun h s =>
 il true 5 5 x1 f s fun i s =>
 zds .neq (.ints 5) h i s fun j s =>
 zo j (z1 Z bF s) (bP .add f (iN 1) s fun l s =>
 e [l] s)) (z1 Z bT s))
theorem zej : F2 Tryz.prog zaY zcl := zm [.l [13] [(4, 2), (14, 12)], .d [(0, 9)] []] Tryz.func206
def zcm (P : Program) (x0 x1 : AV) (σ : LO) (Z : ZT) : Prop :=
 zaV .sl x0 σ fun a s =>
 zaV .sl x1 s fun b s =>
 bP .neq a b s fun c s =>
 zo c (z1 Z bF s) (zaV .sl x0 s fun d s =>
 zec [(iN 0)] s fun v s e =>
 zed v fun f v => bP .lss f d s fun g s =>
 zo g (il false 1 1 x0 f s fun h s =>
 il false 1 1 x1 f s fun i s =>
 bP .neq h i s fun j s =>
 zo j (z1 Z bF s) (bP .add f (iN 1) s fun l s =>
 e [l] s)) (z1 Z bT s))
theorem zek : F2 Tryz.prog zaZ zcm := zm [.l [13] [(4, 2), (14, 12)], .d [(0, 9)] []] Tryz.func207
def zfe (P : Program) (x0 x1 : AV) (σ : LO) (Z : ZT) : Prop :=
 zaV .sl x0 σ fun a s =>
 zec [(iN 0)] s fun v s b =>
 zed v fun c v => bP .lss c a s fun d s =>
 zo d (il false 1 1 x0 c s fun e s =>
 bP .eql x1 e s fun f s =>
 zo f (z1 Z c s) (bP .add c (iN 1) s fun g s =>
 b [g] s)) (z1 Z (iN (-1)) s)
theorem ziY : F2 Tryz.prog zdt zfe := zm [.l [8] [(4, 2), (9, 10)]] Tryz.func208
def zhU (P : Program) (x0 x1 : AV) (σ : LO) (Z : ZT) : Prop :=
 zbD x1 σ fun a s =>
 zi true 2 a s fun b s =>
 cA P zdi [b] s fun c s =>
 bP .neq c (iN 0) s fun d s =>
 zo d (cA P zbY [x0] s fun e s =>
 z1 Z e s) (fl 0 a s fun f s =>
 zay (.int .u64) f s fun g s =>
 zd 1 a s fun h s =>
 zi false 1 h s fun i s =>
 zay (.int .u64) i s fun j s =>
 cA P zav [x0, g] s fun l t =>
 zI h s t ∧ (cA P zav [l, j] t fun m s =>
 z1 Z m s))
theorem zhM : F2 Tryz.prog zfk zhU := zm [.d [(0, 4), (5, 3), (4, 1), (8, 2)] [(4, [15])]] Tryz.func209
end Go.Proofs.YtdgcepphjnoalaaGreat
