/- The conditions of each function, its slots as variables, and that the logic's conditions are these. Printed by program. -/
import Derived.Test.YtjjchfbckfopkaaGreatNm
import Derived.KernelRfl
set_option linter.all false
set_option maxRecDepth 100000
set_option linter.unusedVariables false
namespace Go.Proofs.YtjjchfbckfopkaaGreat
open Go.AW
def zbP (P : Program) (x0 : AV) (σ : LO) (Z : ZT) : Prop :=
 zai false x0 σ fun a s =>
 zx a (z1 Z eN s) (zi false 2 0 (zac (rep [iN 0, iN 0] 0) []) s fun b s =>
 zr 2 16 b x0 s fun c s =>
 z1 Z c s)
theorem zdG : F1 Tryz.prog zag zbP := zh [] Tryz.func50
def zbN (P : Program) (x0 : AV) (σ : LO) (Z : ZT) : Prop :=
 zai false x0 σ fun a s =>
 zx a (z1 Z eN s) (zi true 2 0 (zac (rep [iN 0, iN 0] 0) []) s fun b s =>
 zgs 2 16 b x0 s fun c s =>
 z1 Z c s)
theorem zbM : F1 Tryz.prog zag zbN := zln [] Tryz.func50
def zhn (P : Program) (x0 : AV) (σ : LO) (Z : ZT) : Prop :=
 zaE .sl x0 σ fun a s =>
 zbQ [eN, (iN 0)] s fun v s b =>
 zbt v fun c v => zbt v fun d v => bP .lss d a s fun e s =>
 zx e (il true 9 9 x0 d s fun f s =>
 cp zl2 9 f s fun g s =>
 zf 0 g s fun h s =>
 zf 2 h s fun i s =>
 zl true 5 i s fun j s =>
 cA P zjB [j] s fun l s =>
 zf 0 g s fun m s =>
 zf 2 m s fun n s =>
 zm 5 n l s fun _ s =>
 zl true 9 g s fun p s =>
 m1 9 zl2 p s fun q s =>
 zr 9 104 c q s fun r s =>
 bP .add d (iN 1) s fun u s =>
 b [r, u] s) (z1 Z c s)
theorem zmg : F1 Tryz.prog zdo zhn := zh [.l [3, 8] [(5, 1), (9, 14)]] Tryz.func51
def zeq (P : Program) (x0 x1 : AV) (σ : LO) (Z : ZT) : Prop :=
 zl false 1 x1 σ fun a s =>
 cA P zae [a] s fun b s =>
 zx b (Z (some []) s) (zl false 1 x1 s fun c s =>
 nfl 0 c s fun d s =>
 cA P zbx [d] s fun e s =>
 cA P zgW [e] s fun f s =>
 zaE .sl f s fun g s =>
 zbQ [(iN 0)] s fun v s h =>
 zbt v fun i v => bP .lss i g s fun j s =>
 zx j (il false 1 1 f i s fun l s =>
 zl false 1 x1 s fun m s =>
 nfl 0 m s fun n s =>
 zax .int false (.agg zl0) n l s fun o s =>
 cA P zaI [o] s fun p s =>
 zal P x0 [dm p] s fun q s =>
 unC .not q s fun r s =>
 zx r (Z (some []) s) (bP .add i (iN 1) s fun u s =>
 h [u] s)) (Z (some []) s))
theorem zek : F2 Tryz.prog zbJ zeq := zh [.l [14] [(4, 1), (15, 14)]] Tryz.func52
def zdB (P : Program) (x0 : AV) (σ : LO) (Z : ZT) : Prop :=
 zcx .eql .ptr x0 (.d .nilp) σ fun a s =>
 gFm a x0 s fun b s =>
 gF a (zbF b s) s fun c s =>
 gFl a 1 c s fun d s =>
 gF a (zcx .eql .map d (.d .nilmap) s) s fun e s =>
 orC a e s fun f s =>
 z1 Z f s
theorem zfq : F1 Tryz.prog zbr zdB := zh [] Tryz.func55
def zkS (P : Program) (x0 : AV) (σ : LO) (Z : ZT) : Prop :=
 zaE .sl x0 σ fun a s =>
 bP .gtr a (iN 1048576) s fun b s =>
 zx b (z2 Z (.d .nilp) (iN 3) s) (cA P zcj [] s fun c s =>
 zaE .sl x0 s fun d s =>
 zbQ [(iN 0)] s fun v s e =>
 zbt v fun f v => bP .lss f d s fun g s =>
 zx g (il false 1 1 x0 f s fun h s =>
 cA P zbs [c, h] s fun i s =>
 zc i 0 s fun _ s =>
 zc i 1 s fun l s =>
 zx l (z2 Z (.d .nilp) (iN 5) s) (cA P zcB [c, h] s fun _ s =>
 bP .add f (iN 1) s fun n s =>
 e [n] s)) (z2 Z c (iN 0) s))
theorem zkI : F1 Tryz.prog zgZ zkS := zh [.l [15] [(2, 2), (6, 3), (16, 14)]] Tryz.func56
def zdf (P : Program) (x0 : AV) (σ : LO) (Z : ZT) : Prop :=
 zcx .eql .ptr x0 (.d .nilp) σ fun a s =>
 gFm a x0 s fun b s =>
 gF a (zbF b s) s fun c s =>
 gFl a 1 c s fun d s =>
 gF a (zcx .eql .map d (.d .nilmap) s) s fun e s =>
 orC a e s fun f s =>
 z1 Z f s
theorem zeY : F1 Tryz.prog zaY zdf := zh [] Tryz.func57
def zeH (P : Program) (x0 : AV) (σ : LO) (Z : ZT) : Prop :=
 zaE .sl x0 σ fun a s =>
 bP .gtr a (iN 4) s fun b s =>
 zx b (z1 Z (iN 3) s) (zaE .sl x0 s fun c s =>
 zbQ [(iN 0)] s fun v s d =>
 zbt v fun e v => bP .lss e c s fun f s =>
 zx f (il true 9 9 x0 e s fun g s =>
 cp zl2 9 g s fun h s =>
 zf 0 h s fun i s =>
 zl true 7 i s fun j s =>
 cA P zdp [j] s fun l s =>
 bP .neq l (iN 0) s fun m s =>
 zx m (z1 Z l s) (zf 7 h s fun n s =>
 zl true 2 n s fun o s =>
 cA P zcb [o] s fun p s =>
 bP .neq p (iN 0) s fun q s =>
 zx q (z1 Z p s) (bP .add e (iN 1) s fun r s =>
 d [r] s))) (zaE .sl x0 s fun u s =>
 zbQ [(iN 0)] s fun v s w =>
 zbt v fun y v => bP .lss y u s fun z s =>
 zx z (il true 9 9 x0 y s fun A s =>
 zQ zl2 s fun B s =>
 zm 9 B A s fun _ s =>
 zco (.sl 9) x0 none (some y) none s fun D s =>
 zaE .sl D s fun E s =>
 zbQ [(iN 0)] s fun v s F =>
 zbt v fun G v => bP .lss G E s fun H s =>
 zx H (il true 9 9 D G s fun I s =>
 cp zl2 9 I s fun J s =>
 zf 0 B s fun K s =>
 fl 0 K s fun L s =>
 zf 0 J s fun M s =>
 fl 0 M s fun N s =>
 bP .eql L N s fun O s =>
 gT O (zf 0 B s) s fun Q s =>
 gTl O 1 Q s fun R s =>
 gT O (zf 0 J s) s fun S s =>
 gTl O 1 S s fun T s =>
 gT O (bP .eql R T s) s fun U s =>
 anC O U s fun V s =>
 zx V (z1 Z (iN 5) s) (bP .add G (iN 1) s fun W s =>
 F [W] s)) (bP .add y (iN 1) s fun X s =>
 w [X] s)) (z1 Z (iN 0) s)))
theorem zhN : F1 Tryz.prog zbS zeH := zh [.l [16] [(2, 1), (4, 3), (17, 16)], .l [35] [(2, 1), (7, 2), (10, 1), (36, 30)], .l [44] [(2, 1), (10, 1), (45, 20)]] Tryz.func58
def zaS (P : Program) (x0 x1 : AV) (σ : LO) (Z : ZT) : Prop :=
 cA P zaz [x0, x1] σ fun a s =>
 bP .geq a (iN 0) s fun b s =>
 z1 Z b s
theorem zck : F2 Tryz.prog zau zaS := zh [] Tryz.func59
def zdJ (P : Program) (x0 x1 x2 : AV) (σ : LO) (Z : ZT) : Prop :=
 zbw x0 σ fun a s =>
 zl false 1 x1 s fun b s =>
 zl false 1 x2 s fun c s =>
 zl true 9 a s fun d s =>
 cA P zeQ [b, c, d] s fun e s =>
 unC .not e s fun f s =>
 z1 Z f s
theorem zgN : F3 Tryz.prog zdH zdJ := zh [] Tryz.func60
def zhm (P : Program) (x0 x1 x2 : AV) (σ : LO) (Z : ZT) : Prop :=
 zbw x2 σ fun a s =>
 zf 0 a s fun b s =>
 zl true 7 b s fun c s =>
 cA P zdq [c] s fun d s =>
 zc d 0 s fun e s =>
 zc d 1 s fun f s =>
 bP .neq f (iN 0) s fun g s =>
 zx g (z1 Z bF s) (cA P zbs [x0, e] s fun h s =>
 zc h 0 s fun i s =>
 zc h 1 s fun j s =>
 gT j (zf 7 a s) s fun l s =>
 gT j (zl true 2 l s) s fun m s =>
 gT j (zf 0 a s) s fun n s =>
 gTl j 0 n s fun o s =>
 gTm j i s fun p s =>
 gT j (cA P zge [o] s) s fun q t =>
 zT l s t ∧ (gT j (zy (zac [iN 0, iN 0] [(0, 1, q), (1, 1, p)]) t) t fun r s =>
 gT j (zcx .eql (.ints 2) m r s) s fun u s =>
 anC j u s fun w s =>
 gTm w x1 s fun y s =>
 gT w (zf 7 a s) s fun z s =>
 gT w (zl true 2 z s) s fun A s =>
 gT w (cA P zbK [y, A] s) s fun B s =>
 anC w B s fun C s =>
 z1 Z C s))
theorem zmf : F3 Tryz.prog zeQ zhm := zh [.d [(0, 7), (8, 1), (7, 1), (9, 10)] [(7, [27])]] Tryz.func61
def zjp (P : Program) (x0 : AV) (σ : LO) (Z : ZT) : Prop :=
 zai false x0 σ fun a s =>
 zx a (z1 Z eN s) (zi false 1 0 (zac (rep [(.d (.int .u8 0))] 0) []) s fun b s =>
 zr 1 1 b x0 s fun c s =>
 z1 Z c s)
theorem ziZ : F1 Tryz.prog zcd zjp := zh [] Tryz.func62
def zfb (P : Program) (x0 x1 : AV) (σ : LO) (Z : ZT) : Prop :=
 zaE .sl x0 σ fun a s =>
 zZ (.int .u64) a s fun b s =>
 cA P zaw [x1, b] s fun c s =>
 zaE .sl x0 s fun d s =>
 zbQ [c, (iN 0)] s fun v s e =>
 zbt v fun f v => zbt v fun g v => bP .lss g d s fun h s =>
 zx h (il true 9 9 x0 g s fun i s =>
 cp zl2 9 i s fun j s =>
 zf 0 j s fun l s =>
 zl true 7 l s fun m s =>
 cA P zdq [m] s fun n s =>
 zc n 0 s fun o s =>
 zc n 1 s fun _ s =>
 zf 7 j s fun q s =>
 zl true 2 q s fun r s =>
 cA P zbG [f, o] s fun u t =>
 zT q s t ∧ (cA P zdM [u, r] t fun w s =>
 bP .add g (iN 1) s fun y s =>
 e [w, y] s)) (z1 Z f s)
theorem ziq : F2 Tryz.prog zcZ zfb := zh [.l [1, 16] [(6, 3), (17, 16)], .d [(0, 2), (3, 2), (2, 1), (5, 2)] [(2, [29])]] Tryz.func63
def zjn (P : Program) (x0 x1 : AV) (σ : LO) (Z : ZT) : Prop :=
 cA P zcP [x0] σ fun a s =>
 bP .eql a (iN 0) s fun b s =>
 gTm b x1 s fun c s =>
 gT b (bP .geq c (iN 0) s) s fun d s =>
 anC b d s fun e s =>
 gTm e x1 s fun f s =>
 gT e (bP .leq f (iN 9007199254740992) s) s fun g s =>
 anC e g s fun h s =>
 z1 Z h s
theorem zow : F2 Tryz.prog zgj zjn := zh [] Tryz.func64
def zmE (P : Program) (x0 x1 : AV) (σ : LO) (Z : ZT) : Prop :=
 cA P zbB [x0] σ fun a s =>
 zcx .neq .ptr a (.d .nilp) s fun b s =>
 gTm b x1 s fun c s =>
 gT b (cA P zbv [c] s) s fun d s =>
 gT b (zcx .neq .ptr d (.d .nilp) s) s fun e s =>
 anC b e s fun f s =>
 z1 Z f s
theorem e_auth_made : F2 Tryz.prog zil zmE := zh [] Tryz.func65
def znQ (P : Program) (x0 x1 x2 x3 : AV) (σ : LO) (Z : ZT) : Prop :=
 zi false 1 4 (zac (rep [iN 0] 4) [(0, 1, x0), (1, 1, x1), (2, 1, x2), (3, 1, x3)]) σ fun a s =>
 zaE .sl a s fun b s =>
 zbQ [(iN 0)] s fun v s c =>
 zbt v fun d v => bP .lss d b s fun e s =>
 zx e (il false 1 1 a d s fun f s =>
 bP .lss f (iN 0) s fun g s =>
 gFm g f s fun h s =>
 gF g (bP .gtr h (iN 9007199254740992) s) s fun i s =>
 orC g i s fun j s =>
 zx j (z1 Z bF s) (bP .add d (iN 1) s fun l s =>
 c [l] s)) (z1 Z bT s)
theorem e_auth_may : F4 Tryz.prog zjE znQ := zh [.l [17] [(8, 1), (10, 1), (18, 10)]] Tryz.func66
def zjq (P : Program) (x0 x1 x2 x3 x4 : AV) (σ : LO) (Z : ZT) : Prop :=
 zbw x2 σ fun a s =>
 cA P zbs [x0, x4] s fun b s =>
 zc b 0 s fun c s =>
 zc b 1 s fun d s =>
 gT d (zl true 2 a s) s fun e s =>
 gTm d x3 s fun f s =>
 gTm d c s fun g s =>
 gT d (zy (zac [iN 0, iN 0] [(0, 1, f), (1, 1, g)]) s) s fun h s =>
 gT d (zcx .eql (.ints 2) e h s) s fun i s =>
 anC d i s fun j s =>
 gTm j x1 s fun l s =>
 gT j (zl true 2 a s) s fun m s =>
 gT j (cA P zbK [l, m] s) s fun n s =>
 anC j n s fun o s =>
 z1 Z o s
theorem zoy : F5 Tryz.prog zgn zjq := zh [] Tryz.func67
def zgG (P : Program) (x0 x1 x2 x3 : AV) (σ : LO) (Z : ZT) : Prop :=
 m1 1 [(.d (.int .u8 0))] (.d (.int .u8 4)) σ fun a s =>
 zi false 1 4 (zac (rep [iN 0] 4) [(0, 1, x0), (1, 1, x1), (2, 1, x2), (3, 1, x3)]) s fun b s =>
 cA P zjD [a, b] s fun c s =>
 z1 Z c s
theorem zlg : F4 Tryz.prog zey zgG := zh [] Tryz.func68
def zid (P : Program) (x0 x1 : AV) (σ : LO) (Z : ZT) : Prop :=
 cA P zcP [x1] σ fun a s =>
 bP .neq a (iN 0) s fun b s =>
 zx b (z1 Z (iN 0) s) (bP .mul x0 x1 s fun c s =>
 bP .add c (iN 1) s fun d s =>
 z1 Z d s)
theorem zmU : F2 Tryz.prog zfy zid := zh [] Tryz.func69
def S_op_Same (P : Program) (x0 x1 : AV) (σ : LO) (Z : ZT) : Prop :=
 zbw x0 σ fun a s =>
 zbw x1 s fun b s =>
 fl 0 a s fun c s =>
 fl 0 b s fun d s =>
 bP .eql c d s fun e s =>
 gTl e 1 a s fun f s =>
 gTl e 1 b s fun g s =>
 gT e (bP .eql f g s) s fun h s =>
 anC e h s fun i s =>
 gTl i 2 a s fun j s =>
 gTl i 2 b s fun l s =>
 gT i (bP .eql j l s) s fun m s =>
 anC i m s fun n s =>
 gTl n 3 a s fun o s =>
 gTl n 3 b s fun p s =>
 gT n (bP .eql o p s) s fun q s =>
 anC n q s fun r s =>
 gTl r 4 a s fun u s =>
 gTl r 4 b s fun w s =>
 gT r (cA P zP [u, w, (.fn (.func zgl) [] [])] s) s fun y s =>
 anC r y s fun z s =>
 z1 Z z s
theorem e_op_Same : F2 Tryz.prog zlO S_op_Same := zh [] Tryz.func72
def zmy (P : Program) (x0 : AV) (σ : LO) (Z : ZT) : Prop :=
 zbw x0 σ fun a s =>
 zl true 7 a s fun b s =>
 cA P zgg [b] s fun c s =>
 bP .neq c (iN 0) s fun d s =>
 zx d (z2 Z eN c s) (fl 0 a s fun e s =>
 zZ (.int .u64) e s fun f s =>
 cA P zaQ [eN, f] s fun g s =>
 fl 1 a s fun h s =>
 zZ (.int .u64) h s fun i s =>
 cA P zaQ [g, i] s fun j s =>
 zf 2 a s fun l s =>
 zl true 5 l s fun m s =>
 cA P zlM [j, m] s fun n s =>
 z2 Z n (iN 0) s)
theorem e_r08_Bytes : F1 Tryz.prog zgh zmy := zh [] Tryz.func74
def zfX (P : Program) (x0 x1 x2 : AV) (σ : LO) (Z : ZT) : Prop :=
 zQ [iN 0, iN 0] σ fun a s =>
 bP .lss x1 (iN 0) s fun b s =>
 gFm b x1 s fun c s =>
 gF b (bP .geq c (iN 21) s) s fun d s =>
 orC b d s fun e s =>
 zx e (zy (zac [iN 0, iN 0] []) s fun f s =>
 zm 2 a f s fun _ s =>
 Z (zJ (zar a s true 2) (zJ (some (iN 20)) (some []))) s) (bP .lss x2 (iN 1) s fun h s =>
 zx h (zy (zac [iN 0, iN 0] []) s fun i s =>
 zm 2 a i s fun _ s =>
 Z (zJ (zar a s true 2) (zJ (some (iN 1)) (some []))) s) (zy (zac [iN 0, iN 0] [(0, 1, x1), (1, 1, x2)]) s fun l s =>
 cp [iN 0, iN 0] 2 l s fun m s =>
 (fun (n : LO → Prop) => zl true 2 m s fun q s =>
 cA P zda [x0, q] s fun r s =>
 unC .not r s fun u s =>
 zx u (nfl 0 x0 s fun w s =>
 zl true 2 m s fun y s =>
 m1 2 [iN 0, iN 0] y s fun z s =>
 zr 2 16 eN w s fun A t =>
 zT m s t ∧ (zr 2 16 A z t fun B s =>
 zbF x0 s fun C s =>
 zf 0 C s fun D s =>
 zm 1 D B s fun _ s =>
 n s)) (n s))
 (fun  s => zl true 2 m s fun o s =>
 zm 2 a o s fun _ s =>
 Z (zJ (zar a s true 2) (zJ (some (iN 0)) (some []))) s)))
theorem zfO : F3 Tryz.prog zcA zfX := zh [.d [(0, 5), (6, 2), (5, 1), (8, 4)] [(5, [8])]] Tryz.func75
def S_r08_Key (P : Program) (x0 : AV) (σ : LO) (Z : ZT) : Prop :=
 bP .lss x0 (iN 0) σ fun a s =>
 gFm a x0 s fun b s =>
 gF a (bP .geq b (iN 8) s) s fun c s =>
 orC a c s fun d s =>
 zx d (z1 Z (iN (-1)) s) (bP .add (iN 13) x0 s fun e s =>
 z1 Z e s)
theorem e_r08_Key : F1 Tryz.prog zgX S_r08_Key := zh [] Tryz.func76
def zhs (P : Program) (x0 x1 : AV) (σ : LO) (Z : ZT) : Prop :=
 cA P zev [x0, x1] σ fun a s =>
 zc a 0 s fun b s =>
 zc a 1 s fun c s =>
 zx c (z1 Z b s) (nfl 0 x0 s fun d s =>
 zaE .sl d s fun e s =>
 bP .geq e (iN 1048576) s fun f s =>
 zx f (z1 Z (iN 0) s) (nfl 0 x0 s fun g s =>
 zr 1 24 eN g s fun h s =>
 zr 1 1 eN x1 s fun i s =>
 m1 1 [eN] i s fun j s =>
 zr 1 24 h j s fun l s =>
 zbF x0 s fun m s =>
 zf 0 m s fun n s =>
 zm 1 n l s fun _ s =>
 nfl 0 x0 s fun p s =>
 zaE .sl p s fun q s =>
 z1 Z q s))
theorem zhd : F2 Tryz.prog zcs zhs := zh [] Tryz.func77
def zgx (P : Program) (x0 : AV) (σ : LO) (Z : ZT) : Prop :=
 zaE .sl x0 σ fun a s =>
 bP .gtr a (iN 4) s fun b s =>
 zx b (z1 Z (iN 3) s) (zbQ [(iN 0)] s fun v s c =>
 zbt v fun d v => zaE .sl x0 s fun e s =>
 bP .lss d e s fun f s =>
 zx f (zK none 9 x0 d s fun g s =>
 zf 0 g s fun h s =>
 zl true 7 h s fun i s =>
 cA P zgg [i] s fun j s =>
 bP .neq j (iN 0) s fun l s =>
 zx l (z1 Z j s) (zK none 9 x0 d s fun m s =>
 zf 7 m s fun n s =>
 zl true 2 n s fun o s =>
 cA P zdr [o] s fun p s =>
 bP .neq p (iN 0) s fun q s =>
 zx q (z1 Z p s) (bP .add d (iN 1) s fun r s =>
 c [r] s))) (zbQ [(iN 0)] s fun v s u =>
 zbt v fun w v => zaE .sl x0 s fun y s =>
 bP .lss w y s fun z s =>
 zx z (zbQ [(iN 0)] s fun v s A =>
 zbt v fun B v => bP .lss B w s fun C s =>
 zx C (zK none 9 x0 w s fun D s =>
 zf 0 D s fun E s =>
 fl 0 E s fun F s =>
 zK none 9 x0 B s fun G s =>
 zf 0 G s fun H s =>
 fl 0 H s fun I s =>
 bP .eql F I s fun J s =>
 gTm J x0 s fun K s =>
 gTm J w s fun L s =>
 gT J (zK none 9 K L s) s fun M s =>
 gT J (zf 0 M s) s fun N s =>
 gTl J 1 N s fun O s =>
 gTm J x0 s fun Q s =>
 gTm J B s fun R s =>
 gT J (zK none 9 Q R s) s fun S s =>
 gT J (zf 0 S s) s fun T s =>
 gTl J 1 T s fun U s =>
 gT J (bP .eql O U s) s fun V s =>
 anC J V s fun W s =>
 zx W (z1 Z (iN 5) s) (bP .add B (iN 1) s fun X s =>
 A [X] s)) (bP .add w (iN 1) s fun Y s =>
 u [Y] s)) (z1 Z (iN 0) s)))
theorem zla : F1 Tryz.prog zcT zgx := zh [.l [3] [(2, 1), (4, 2), (11, 24)], .l [6] [(2, 1), (7, 1), (35, 39)], .l [7] [(2, 1), (41, 33)], .d [(0, 28)] []] Tryz.func78
def zib (P : Program) (x0 x1 : AV) (σ : LO) (Z : ZT) : Prop :=
 cA P zcT [x1] σ fun a s =>
 bP .neq a (iN 0) s fun b s =>
 zx b (z1 Z x0 s) (zaE .sl x1 s fun c s =>
 zZ (.int .u64) c s fun d s =>
 cA P zaQ [x0, d] s fun e s =>
 zbQ [e, (iN 0)] s fun v s f =>
 zbt v fun g v => zbt v fun h v => zaE .sl x1 s fun i s =>
 bP .lss h i s fun j s =>
 zx j (zK none 9 x1 h s fun l s =>
 zf 0 l s fun m s =>
 zl true 7 m s fun n s =>
 cA P zgh [n] s fun o s =>
 zc o 0 s fun p s =>
 zc o 1 s fun _ s =>
 zK none 9 x1 h s fun r s =>
 zf 7 r s fun u s =>
 zl true 2 u s fun w s =>
 cA P zcn [g, p] s fun y t =>
 zT u s t ∧ (cA P zgf [y, w] t fun z s =>
 bP .add h (iN 1) s fun A s =>
 f [z, A] s)) (z1 Z g s))
theorem zmT : F2 Tryz.prog zfx zib := zh [.l [0, 5] [(6, 2), (17, 24)], .d [(0, 2), (3, 5), (2, 1), (8, 2)] [(2, [38])]] Tryz.func79
def S_r11_may (P : Program) (x0 x1 x2 x3 : AV) (σ : LO) (Z : ZT) : Prop :=
 cA P zfI [x0] σ fun a s =>
 gTm a x1 s fun b s =>
 gT a (cA P zfI [b] s) s fun c s =>
 anC a c s fun d s =>
 gTm d x2 s fun e s =>
 gT d (cA P zfI [e] s) s fun f s =>
 anC d f s fun g s =>
 gTm g x3 s fun h s =>
 gT g (cA P zfI [h] s) s fun i s =>
 anC g i s fun j s =>
 z1 Z j s
theorem e_r11_may : F4 Tryz.prog zlL S_r11_may := zh [] Tryz.func80
def znF (P : Program) (x0 x1 x2 x3 : AV) (σ : LO) (Z : ZT) : Prop :=
 zQ [iN 0, iN 0] σ fun a s =>
 cA P zcs [x0, x3] s fun b s =>
 bP .eql b (iN 0) s fun c s =>
 zx c (zy (zac [iN 0, iN 0] []) s fun d s =>
 zm 2 a d s fun _ s =>
 Z (zJ (zar a s true 2) (zJ (some (iN 6)) (some []))) s) (cA P zcA [x1, x2, b] s fun f s =>
 zc f 0 s fun g s =>
 zc f 1 s fun h s =>
 zm 2 a g s fun _ s =>
 Z (zJ (zar a s true 2) (zJ (some h) (some []))) s)
theorem e_r11_sign : F4 Tryz.prog zjx znF := zh [] Tryz.func81
def zhq (P : Program) (x0 x1 x2 x3 : AV) (σ : LO) (Z : ZT) : Prop :=
 m1 1 [(.d (.int .u8 0))] (.d (.int .u8 4)) σ fun a s =>
 cA P zfH [a, x0] s fun b s =>
 cA P zfH [b, x1] s fun c s =>
 cA P zfH [c, x2] s fun d s =>
 cA P zfH [d, x3] s fun e s =>
 z1 Z e s
theorem zmj : F4 Tryz.prog zeR zhq := zh [] Tryz.func82
def znM (P : Program) (x0 : AV) (σ : LO) (Z : ZT) : Prop :=
 zbw x0 σ fun a s =>
 zQ zl3 s fun b s =>
 fl 4 a s fun c s =>
 zaE .sl c s fun d s =>
 zbQ [eN, (iN 0)] s fun v s e =>
 zbt v fun f v => zbt v fun g v => bP .lss g d s fun h s =>
 zx h (il false 1 1 c g s fun i s =>
 cA P zcd [i] s fun j s =>
 m1 1 [eN] j s fun l s =>
 zr 1 24 f l s fun m s =>
 bP .add g (iN 1) s fun n s =>
 e [m, n] s) (zf 4 a s fun o s =>
 zm 1 o f s fun _ s =>
 zl true 5 a s fun q s =>
 zm 5 b q s fun _ s =>
 Z (zJ (zar b s true 5) (some [])) s)
theorem e_op_Clone : F1 Tryz.prog zjB znM := zh [.l [3, 9] [(5, 1), (10, 9)]] Tryz.func83
def zho (P : Program) (x0 : AV) (σ : LO) (Z : ZT) : Prop :=
 zbw x0 σ fun a s =>
 fl 0 a s fun b s =>
 bP .lss b (iN 0) s fun c s =>
 gFl c 0 a s fun d s =>
 gF c (bP .geq d (iN 8) s) s fun e s =>
 orC c e s fun f s =>
 gFl f 1 a s fun g s =>
 gF f (bP .lss g (iN 1) s) s fun h s =>
 orC f h s fun i s =>
 gFl i 1 a s fun j s =>
 gF i (bP .gtr j (iN 9007199254740992) s) s fun l s =>
 orC i l s fun m s =>
 zx m (z1 Z (iN 80) s) (zf 2 a s fun n s =>
 zl true 5 n s fun o s =>
 cA P zhD [o] s fun p s =>
 z1 Z p s)
theorem zmh : F1 Tryz.prog zdp zho := zh [] Tryz.func87
def zfc (P : Program) (x0 : AV) (σ : LO) (Z : ZT) : Prop :=
 zbw x0 σ fun a s =>
 fl 0 a s fun b s =>
 bP .lss b (iN 0) s fun c s =>
 gFl c 0 a s fun d s =>
 gF c (bP .geq d (iN 21) s) s fun e s =>
 orC c e s fun f s =>
 gFl f 1 a s fun g s =>
 gF f (bP .lss g (iN 1) s) s fun h s =>
 orC f h s fun i s =>
 gFl i 1 a s fun j s =>
 gF i (bP .gtr j (iN 9007199254740992) s) s fun l s =>
 orC i l s fun m s =>
 zx m (z1 Z (iN 81) s) (z1 Z (iN 0) s)
theorem zir : F1 Tryz.prog zcb zfc := zh [] Tryz.func88
def zbp (P : Program) (x0 x1 : AV) (σ : LO) (Z : ZT) : Prop :=
 zaE .sl x0 σ fun a s =>
 zbQ [(iN 0)] s fun v s b =>
 zbt v fun c v => bP .lss c a s fun d s =>
 zx d (il true 9 9 x0 c s fun e s =>
 zal P x1 [dm e] s fun f s =>
 zx f (z1 Z c s) (bP .add c (iN 1) s fun g s =>
 b [g] s)) (z1 Z (iN (-1)) s)
theorem zcw : F2 Tryz.prog zaz zbp := zh [.l [8] [(4, 2), (9, 10)]] Tryz.func89
def zhp (P : Program) (x0 : AV) (σ : LO) (Z : ZT) : Prop :=
 zbw x0 σ fun a s =>
 zl true 7 a s fun b s =>
 cA P zdp [b] s fun c s =>
 bP .neq c (iN 0) s fun d s =>
 zx d (z2 Z eN c s) (fl 0 a s fun e s =>
 zZ (.int .u64) e s fun f s =>
 zf 1 a s fun g s =>
 zl false 1 g s fun h s =>
 zZ (.int .u64) h s fun i s =>
 zf 2 a s fun j s =>
 zl true 5 j s fun l s =>
 cA P zaw [eN, f] s fun m t =>
 zT g s t ∧ (zT j s t ∧ (cA P zaw [m, i] t fun n s =>
 zT j t s ∧ (cA P zoi [n, l] s fun o s =>
 z2 Z o (iN 0) s))))
theorem zmi : F1 Tryz.prog zdq zhp := zh [.d [(0, 3), (4, 3), (8, 2), (3, 1), (7, 1), (10, 3)] [(3, [14, 18]), (7, [18])]] Tryz.func90
def zjl (P : Program) (x0 : AV) (σ : LO) (Z : ZT) : Prop :=
 bP .lss x0 (iN 0) σ fun a s =>
 gFm a x0 s fun b s =>
 gF a (bP .geq b (iN 8) s) s fun c s =>
 orC a c s fun d s =>
 zx d (z1 Z (iN (-1)) s) (bP .add (iN 13) x0 s fun e s =>
 z1 Z e s)
theorem zou : F1 Tryz.prog zge zjl := zh [] Tryz.func91
def zer (P : Program) (x0 x1 : AV) (σ : LO) (Z : ZT) : Prop :=
 zbw x1 σ fun a s =>
 cA P zaY [x0] s fun b s =>
 unC .not b s fun c s =>
 gTm c x0 s fun d s =>
 gT c (zbF d s) s fun e s =>
 gTl c 1 e s fun f s =>
 gT c (zl true 2 a s) s fun g s =>
 gT c (zax (.ints 2) false bF f g s) s fun h s =>
 anC c h s fun i s =>
 z1 Z i s
theorem zhg : F2 Tryz.prog zbK zer := zh [.d [(0, 12)] []] Tryz.func92
def zig (P : Program) (x0 x1 : AV) (σ : LO) (Z : ZT) : Prop :=
 cA P zha [x1] σ fun a s =>
 zc a 0 s fun b s =>
 zc a 1 s fun c s =>
 cp [(.d (.int .u8 0)), (.d (.int .u8 0)), (.d (.int .u8 0)), (.d (.int .u8 0)), (.d (.int .u8 0)), (.d (.int .u8 0)), (.d (.int .u8 0)), (.d (.int .u8 0)), (.d (.int .u8 0)), (.d (.int .u8 0))] 10 b s fun d s =>
 zco (.arr 10 1) d none (some c) none s fun e s =>
 cA P zca [x0] s fun f s =>
 zr 1 1 f e s fun g s =>
 z1 Z g s
theorem zhW : F2 Tryz.prog zaw zig := zh [.d [(0, 1), (2, 2), (1, 1), (4, 2)] []] Tryz.func93
def zfW (P : Program) (x0 x1 : AV) (σ : LO) (Z : ZT) : Prop :=
 zbw x1 σ fun a s =>
 zl true 2 a s fun b s =>
 cA P zcb [b] s fun c s =>
 bP .neq c (iN 0) s fun d s =>
 zx d (cA P zcd [x0] s fun e s =>
 z1 Z e s) (fl 0 a s fun f s =>
 zZ (.int .u64) f s fun g s =>
 zf 1 a s fun h s =>
 zl false 1 h s fun i s =>
 zZ (.int .u64) i s fun j s =>
 cA P zaw [x0, g] s fun l t =>
 zT h s t ∧ (cA P zaw [l, j] t fun m s =>
 z1 Z m s))
theorem zkc : F2 Tryz.prog zdM zfW := zh [.d [(0, 4), (5, 3), (4, 1), (8, 2)] [(4, [15])]] Tryz.func94
def zgF (P : Program) (x0 x1 : AV) (σ : LO) (Z : ZT) : Prop :=
 zaE .sl x1 σ fun a s =>
 zZ (.int .u64) a s fun b s =>
 cA P zaw [x0, b] s fun c s =>
 zr 1 1 c x1 s fun d s =>
 z1 Z d s
theorem zgv : F2 Tryz.prog zbG zgF := zh [] Tryz.func95
def znP (P : Program) (x0 x1 : AV) (σ : LO) (Z : ZT) : Prop :=
 zaE .sl x1 σ fun a s =>
 zbQ [x0, (iN 0)] s fun v s b =>
 zbt v fun c v => zbt v fun d v => bP .lss d a s fun e s =>
 zx e (il false 1 1 x1 d s fun f s =>
 zcz [(iN 0), f] s fun g s =>
 zZ (.int .u64) g s fun h s =>
 cA P zaw [c, h] s fun i s =>
 bP .add d (iN 1) s fun j s =>
 b [i, j] s) (z1 Z c s)
theorem e_auth_put : F2 Tryz.prog zjD znP := zh [.l [0, 9] [(6, 1), (10, 9)]] Tryz.func96
def zan (P : Program) (x0 x1 x2 : AV) (σ : LO) (Z : ZT) : Prop :=
 zaE .sl x0 σ fun a s =>
 zaE .sl x1 s fun b s =>
 bP .neq a b s fun c s =>
 zx c (z1 Z bF s) (zaE .sl x0 s fun d s =>
 zbQ [(iN 0)] s fun v s e =>
 zbt v fun f v => bP .lss f d s fun g s =>
 zx g (il false 1 1 x0 f s fun h s =>
 il false 1 1 x1 f s fun i s =>
 zal P x2 [dm h, dm i] s fun j s =>
 unC .not j s fun l s =>
 zx l (z1 Z bF s) (bP .add f (iN 1) s fun m s =>
 e [m] s)) (z1 Z bT s))
theorem zaO : F3 Tryz.prog zP zan := zh [.l [17] [(6, 4), (18, 14)]] Tryz.func97
def zmC (P : Program) (x0 x1 : AV) (σ : LO) (Z : ZT) : Prop :=
 cA P zgm [x0, x1] σ fun a s =>
 z1 Z a s
theorem e_op_Same_1 : F2 Tryz.prog zgl zmC := zh [] Tryz.func98
def zjo (P : Program) (x0 x1 : AV) (σ : LO) (Z : ZT) : Prop :=
 zZ .toStr x0 σ fun a s =>
 zZ .toStr x1 s fun b s =>
 bP .eql a b s fun c s =>
 z1 Z c s
theorem zox : F2 Tryz.prog zgm zjo := zh [] Tryz.func99
def zmx (P : Program) (x0 : AV) (σ : LO) (Z : ZT) : Prop :=
 zbw x0 σ fun a s =>
 fl 0 a s fun b s =>
 cA P zgX [b] s fun c s =>
 bP .lss c (iN 0) s fun d s =>
 gFl d 1 a s fun e s =>
 gF d (bP .lss e (iN 1) s) s fun f s =>
 orC d f s fun g s =>
 gFl g 1 a s fun h s =>
 gF g (bP .gtr h (iN 9007199254740992) s) s fun i s =>
 orC g i s fun j s =>
 zx j (z1 Z (iN 80) s) (zf 2 a s fun l s =>
 zl true 5 l s fun m s =>
 cA P zgi [m] s fun n s =>
 z1 Z n s)
theorem e_r08_Check : F1 Tryz.prog zgg zmx := zh [] Tryz.func101
def zkQ (P : Program) (x0 x1 : AV) (σ : LO) (Z : ZT) : Prop :=
 zr 1 1 eN x0 σ fun a s =>
 zbQ [x1, a] s fun v s b =>
 zbt v fun c v => zbt v fun d v => bP .geq c (.d (.int .u64 128)) s fun e s =>
 zx e (bP .rem c (.d (.int .u64 128)) s fun f s =>
 zZ (.int .u8) f s fun g s =>
 bP .add g (.d (.int .u8 128)) s fun h s =>
 m1 1 [(.d (.int .u8 0))] h s fun i s =>
 zr 1 1 d i s fun j s =>
 bP .quo c (.d (.int .u64 128)) s fun l s =>
 b [l, j] s) (zZ (.int .u8) c s fun m s =>
 m1 1 [(.d (.int .u8 0))] m s fun n s =>
 zr 1 1 d n s fun o s =>
 z1 Z o s)
theorem zkH : F2 Tryz.prog zaQ zkQ := zh [.l [1, 5] [(9, 11)]] Tryz.func102
def S_r06_Put (P : Program) (x0 x1 : AV) (σ : LO) (Z : ZT) : Prop :=
 zbw x1 σ fun a s =>
 zl true 5 a s fun b s =>
 cA P zgi [b] s fun c s =>
 bP .neq c (iN 0) s fun d s =>
 zx d (z1 Z x0 s) (fl 0 a s fun e s =>
 cA P zfm [e] s fun f s =>
 zc f 0 s fun g s =>
 zc f 1 s fun h s =>
 zc f 2 s fun i s =>
 zc f 3 s fun j s =>
 fl 0 a s fun l s =>
 zZ (.int .u64) l s fun m s =>
 cA P zaQ [x0, m] s fun n s =>
 (fun (o : AV → LO → Prop) => zx g (fl 1 a s fun V s =>
 zZ .toBytes V s fun W s =>
 cA P zcn [n, W] s fun X s =>
 o X s) (o n s))
 (fun p s => (fun (q : AV → LO → Prop) => zx h (fl 2 a s fun S s =>
 zZ .toBytes S s fun T s =>
 cA P zcn [p, T] s fun U s =>
 q U s) (q p s))
 (fun r s => (fun (u : AV → LO → Prop) => zx i (fl 3 a s fun O s =>
 zZ (.int .u64) O s fun Q s =>
 cA P zaQ [r, Q] s fun R s =>
 u R s) (u r s))
 (fun w s => (fun (y : AV → LO → Prop) => zx j (fl 4 a s fun A s =>
 zaE .sl A s fun B s =>
 zZ (.int .u64) B s fun C s =>
 cA P zaQ [w, C] s fun D s =>
 zbQ [D, (iN 0)] s fun v s E =>
 zbt v fun F v => zbt v fun G v => fl 4 a s fun H s =>
 zaE .sl H s fun I s =>
 bP .lss G I s fun J s =>
 zx J (fl 4 a s fun K s =>
 il false 1 1 K G s fun L s =>
 cA P zcn [F, L] s fun M s =>
 bP .add G (iN 1) s fun N s =>
 E [M, N] s) (y F s)) (y w s))
 (fun z s => z1 Z z s)))))
theorem e_r06_Put : F2 Tryz.prog zlM S_r06_Put := zh [.l [0, 9] [(52, 14)]] Tryz.func103
def zfd (P : Program) (x0 x1 : AV) (σ : LO) (Z : ZT) : Prop :=
 zbw x1 σ fun a s =>
 zbQ [(iN 0)] s fun v s b =>
 zbt v fun c v => nfl 0 x0 s fun d s =>
 zaE .sl d s fun e s =>
 bP .lss c e s fun f s =>
 zx f (nfl 0 x0 s fun g s =>
 il true 2 2 g c s fun h s =>
 zl true 2 a s fun i s =>
 zcx .eql (.ints 2) h i s fun j s =>
 zx j (z1 Z bT s) (bP .add c (iN 1) s fun l s =>
 b [l] s)) (z1 Z bF s)
theorem zis : F2 Tryz.prog zda zfd := zh [.l [5] [(4, 1), (6, 18)], .d [(0, 9)] []] Tryz.func104
def zgy (P : Program) (x0 x1 : AV) (σ : LO) (Z : ZT) : Prop :=
 zbQ [(iN 0)] σ fun v s a =>
 zbt v fun b v => nfl 0 x0 s fun c s =>
 zaE .sl c s fun d s =>
 bP .lss b d s fun e s =>
 zx e (nfl 0 x0 s fun f s =>
 il false 1 1 f b s fun g s =>
 cA P zjz [g, x1] s fun h s =>
 zx h (bP .add b (iN 1) s fun i s =>
 z2 Z i bT s) (bP .add b (iN 1) s fun j s =>
 a [j] s)) (z2 Z (iN 0) bF s)
theorem zlb : F2 Tryz.prog zev zgy := zh [.l [6] [(4, 2), (7, 20)]] Tryz.func105
def zhr (P : Program) (x0 : AV) (σ : LO) (Z : ZT) : Prop :=
 zbw x0 σ fun a s =>
 fl 0 a s fun b s =>
 bP .lss b (iN 0) s fun c s =>
 gFl c 0 a s fun d s =>
 gF c (bP .geq d (iN 21) s) s fun e s =>
 orC c e s fun f s =>
 gFl f 1 a s fun g s =>
 gF f (bP .lss g (iN 1) s) s fun h s =>
 orC f h s fun i s =>
 gFl i 1 a s fun j s =>
 gF i (bP .gtr j (iN 9007199254740992) s) s fun l s =>
 orC i l s fun m s =>
 zx m (z1 Z (iN 81) s) (z1 Z (iN 0) s)
theorem zmk : F1 Tryz.prog zdr zhr := zh [] Tryz.func106
def zjm (P : Program) (x0 x1 : AV) (σ : LO) (Z : ZT) : Prop :=
 zbw x1 σ fun a s =>
 zl true 2 a s fun b s =>
 cA P zdr [b] s fun c s =>
 bP .neq c (iN 0) s fun d s =>
 zx d (z1 Z x0 s) (fl 0 a s fun e s =>
 zZ (.int .u64) e s fun f s =>
 zf 1 a s fun g s =>
 zl false 1 g s fun h s =>
 zZ (.int .u64) h s fun i s =>
 cA P zaQ [x0, f] s fun j t =>
 zT g s t ∧ (cA P zaQ [j, i] t fun l s =>
 z1 Z l s))
theorem zov : F2 Tryz.prog zgf zjm := zh [.d [(0, 4), (5, 3), (4, 1), (8, 2)] [(4, [14])]] Tryz.func107
def zic (P : Program) (x0 x1 : AV) (σ : LO) (Z : ZT) : Prop :=
 zaE .sl x1 σ fun a s =>
 zZ (.int .u64) a s fun b s =>
 cA P zaQ [x0, b] s fun c s =>
 zr 1 1 c x1 s fun d s =>
 z1 Z d s
theorem zhU : F2 Tryz.prog zcn zic := zh [] Tryz.func108
def S_r11_num (P : Program) (x0 : AV) (σ : LO) (Z : ZT) : Prop :=
 bP .geq x0 (iN 0) σ fun a s =>
 gTm a x0 s fun b s =>
 gT a (bP .leq b (iN 9007199254740992) s) s fun c s =>
 anC a c s fun d s =>
 z1 Z d s
theorem e_r11_num : F1 Tryz.prog zfI S_r11_num := zh [] Tryz.func109
def S_r11_put (P : Program) (x0 x1 : AV) (σ : LO) (Z : ZT) : Prop :=
 zcz [x1, (iN 0)] σ fun a s =>
 zZ (.int .u64) a s fun b s =>
 cA P zaQ [x0, b] s fun c s =>
 z1 Z c s
theorem e_r11_put : F2 Tryz.prog zfH S_r11_put := zh [] Tryz.func110
def znN (P : Program) (x0 : AV) (σ : LO) (Z : ZT) : Prop :=
 zbw x0 σ fun a s =>
 zl true 5 a s fun b s =>
 cA P zlN [b] s fun c s =>
 zc c 0 s fun d s =>
 zc c 1 s fun e s =>
 cp zl3 5 d s fun f s =>
 unC .not e s fun g s =>
 gF g (zl true 5 a s) s fun h s =>
 gF g (zl true 5 f s) s fun i s =>
 gF g (cA P zlO [h, i] s) s fun j s =>
 gF g (unC .not j s) s fun l s =>
 orC g l s fun m s =>
 zx m (z1 Z (iN 60) s) (fl 0 a s fun n s =>
 bP .neq n (iN 0) s fun o s =>
 gTl o 1 a s fun p s =>
 gT o (cA P ziO [p] s) s fun q s =>
 gT o (unC .not q s) s fun r s =>
 anC o r s fun u s =>
 zx u (z1 Z (iN 61) s) (fl 0 a s fun w s =>
 bP .eql w (iN 3) s fun y s =>
 gTl y 2 a s fun z s =>
 gT y (cA P ziO [z] s) s fun A s =>
 gT y (unC .not A s) s fun B s =>
 anC y B s fun C s =>
 zx C (z1 Z (iN 61) s) (fl 0 a s fun D s =>
 bP .eql D (iN 2) s fun E s =>
 gTl E 4 a s fun F s =>
 gT E (zaE .sl F s) s fun G s =>
 gT E (bP .lss G (iN 1) s) s fun H s =>
 gTm E H s fun I s =>
 gFl I 4 a s fun J s =>
 gF I (zaE .sl J s) s fun K s =>
 gF I (bP .gtr K (iN 4) s) s fun L s =>
 gT E (orC I L s) s fun M s =>
 gTm E M s fun N s =>
 gFl N 4 a s fun O s =>
 gFm N (.fn (.func zfn) [] []) s fun Q s =>
 gF N (cA P zat [O, Q] s) s fun R s =>
 gT E (orC N R s) s fun S s =>
 anC E S s fun T s =>
 zx T (z1 Z (iN 62) s) (fl 3 a s fun U s =>
 bP .lss U (iN 0) s fun V s =>
 gFl V 3 a s fun W s =>
 gF V (bP .gtr W (iN 9007199254740992) s) s fun X s =>
 orC V X s fun Y s =>
 zx Y (z1 Z (iN 60) s) (z1 Z (iN 0) s)))))
theorem e_op_Check : F1 Tryz.prog zhD znN := zh [] Tryz.func114
def S_op_Put (P : Program) (x0 x1 : AV) (σ : LO) (Z : ZT) : Prop :=
 zbw x1 σ fun a s =>
 cA P zcd [x0] s fun b s =>
 zl true 5 a s fun c s =>
 cA P zhD [c] s fun d s =>
 bP .neq d (iN 0) s fun e s =>
 zx e (z1 Z b s) (fl 0 a s fun f s =>
 zZ (.int .u64) f s fun g s =>
 cA P zaw [b, g] s fun h s =>
 (fun (i : AV → LO → Prop) => fl 0 a s fun T s =>
 bP .neq T (iN 0) s fun U s =>
 zx U (fl 1 a s fun V s =>
 zZ .toBytes V s fun W s =>
 cA P zbG [h, W] s fun X s =>
 i X s) (i h s))
 (fun j s => (fun (l : AV → LO → Prop) => fl 0 a s fun n s =>
 bP .eql n (iN 2) s fun o s =>
 zx o (fl 4 a s fun p s =>
 zaE .sl p s fun q s =>
 zZ (.int .u64) q s fun r s =>
 cA P zaw [j, r] s fun u s =>
 fl 4 a s fun w s =>
 zaE .sl w s fun y s =>
 zbQ [u, (iN 0)] s fun v s z =>
 zbt v fun A v => zbt v fun B v => bP .lss B y s fun C s =>
 zx C (il false 1 1 w B s fun D s =>
 cA P zbG [A, D] s fun E s =>
 bP .add B (iN 1) s fun F s =>
 z [E, F] s) (l A s)) (bP .eql n (iN 3) s fun G s =>
 zx G (fl 2 a s fun H s =>
 zZ .toBytes H s fun I s =>
 zf 3 a s fun J s =>
 zl false 1 J s fun K s =>
 zZ (.int .u64) K s fun L s =>
 cA P zbG [j, I] s fun M t =>
 zT J s t ∧ (cA P zaw [M, L] t fun N s =>
 l N s)) (bP .eql n (iN 4) s fun O s =>
 zx O (fl 3 a s fun Q s =>
 zZ (.int .u64) Q s fun R s =>
 cA P zaw [j, R] s fun S s =>
 l S s) (l j s))))
 (fun m s => z1 Z m s)))
theorem e_op_Put : F2 Tryz.prog zoi S_op_Put := zh [.l [5, 40] [(7, 1), (41, 7)], .d [(0, 4), (5, 3), (4, 1), (8, 2)] [(4, [55])]] Tryz.func115
def zkT (P : Program) (x0 : AV) (σ : LO) (Z : ZT) : Prop :=
 zQ [(.d (.int .u8 0)), (.d (.int .u8 0)), (.d (.int .u8 0)), (.d (.int .u8 0)), (.d (.int .u8 0)), (.d (.int .u8 0)), (.d (.int .u8 0)), (.d (.int .u8 0)), (.d (.int .u8 0)), (.d (.int .u8 0))] σ fun a s =>
 zQ [(.d (.int .u8 0)), (.d (.int .u8 0)), (.d (.int .u8 0)), (.d (.int .u8 0)), (.d (.int .u8 0)), (.d (.int .u8 0)), (.d (.int .u8 0)), (.d (.int .u8 0)), (.d (.int .u8 0)), (.d (.int .u8 0))] s fun b s =>
 zbQ [x0, (iN 0)] s fun v s c =>
 zbt v fun d v => zbt v fun e v => bP .gtr d (.d (.int .u64 127)) s fun f s =>
 zx f (zZ (.int .u8) d s fun g s =>
 bP .or g (.d (.int .u8 128)) s fun h s =>
 zK (some 10) 1 b e s fun i s =>
 zm 1 i h s fun _ s =>
 bP .shr d (.d (.int .u64 7)) s fun l s =>
 bP .add e (iN 1) s fun m s =>
 c [l, m] s) (zZ (.int .u8) d s fun n s =>
 zK (some 10) 1 b e s fun o s =>
 zm 1 o n s fun _ s =>
 zl true 10 b s fun q s =>
 bP .add e (iN 1) s fun r s =>
 zm 10 a q s fun _ s =>
 Z (zJ (zar a s true 10) (zJ (some r) (some []))) s)
theorem e_codec_form : F1 Tryz.prog zha zkT := zh [.l [0, 5] [(6, 11)]] Tryz.func116
def zdA (P : Program) (x0 : AV) (σ : LO) (Z : ZT) : Prop :=
 zaE .sl x0 σ fun a s =>
 zaE .sl x0 s fun b s =>
 zco (.sl 1) x0 none (some a) (some b) s fun c s =>
 z1 Z c s
theorem zdw : F1 Tryz.prog zca zdA := zh [] Tryz.func117
def zmB (P : Program) (x0 : AV) (σ : LO) (Z : ZT) : Prop :=
 zbw x0 σ fun a s =>
 fl 0 a s fun b s =>
 cA P zfm [b] s fun c s =>
 zc c 0 s fun d s =>
 zc c 1 s fun e s =>
 zc c 2 s fun f s =>
 zc c 3 s fun g s =>
 fl 0 a s fun h s =>
 bP .lss h (iN 0) s fun i s =>
 gFl i 0 a s fun j s =>
 gF i (bP .gtr j (iN 4) s) s fun l s =>
 orC i l s fun m s =>
 gFm m d s fun n s =>
 gF m (unC .not n s) s fun o s =>
 gFm m o s fun p s =>
 gTl p 1 a s fun q s =>
 gT p (bP .neq q (.d (.str [])) s) s fun r s =>
 gF m (anC p r s) s fun u s =>
 orC m u s fun w s =>
 gFm w e s fun y s =>
 gF w (unC .not y s) s fun z s =>
 gFm w z s fun A s =>
 gTl A 2 a s fun B s =>
 gT A (bP .neq B (.d (.str [])) s) s fun C s =>
 gF w (anC A C s) s fun D s =>
 orC w D s fun E s =>
 gFm E f s fun F s =>
 gF E (unC .not F s) s fun G s =>
 gFm E G s fun H s =>
 gTl H 3 a s fun I s =>
 gT H (bP .neq I (iN 0) s) s fun J s =>
 gF E (anC H J s) s fun K s =>
 orC E K s fun L s =>
 gFm L g s fun M s =>
 gF L (unC .not M s) s fun N s =>
 gFm L N s fun O s =>
 gTl O 4 a s fun Q s =>
 gT O (zaE .sl Q s) s fun R s =>
 gT O (bP .gtr R (iN 0) s) s fun S s =>
 gF L (anC O S s) s fun T s =>
 orC L T s fun U s =>
 zx U (z1 Z (iN 60) s) (gTl d 1 a s fun V s =>
 gT d (cA P zhC [V] s) s fun W s =>
 gT d (unC .not W s) s fun X s =>
 anC d X s fun Y s =>
 gFm Y e s fun a0 s =>
 gFm Y a0 s fun b0 s =>
 gTl b0 2 a s fun c0 s =>
 gT b0 (cA P zhC [c0] s) s fun d0 s =>
 gT b0 (unC .not d0 s) s fun e0 s =>
 gF Y (anC b0 e0 s) s fun f0 s =>
 orC Y f0 s fun g0 s =>
 zx g0 (z1 Z (iN 61) s) (gTl g 4 a s fun h0 s =>
 gT g (zaE .sl h0 s) s fun i0 s =>
 gT g (bP .lss i0 (iN 1) s) s fun j0 s =>
 gTm g j0 s fun l0 s =>
 gFl l0 4 a s fun m0 s =>
 gF l0 (zaE .sl m0 s) s fun o0 s =>
 gF l0 (bP .gtr o0 (iN 4) s) s fun p0 s =>
 gT g (orC l0 p0 s) s fun q0 s =>
 anC g q0 s fun r0 s =>
 zx r0 (z1 Z (iN 62) s) (zbQ [(iN 0)] s fun v s u0 =>
 zbt v fun w0 v => fl 4 a s fun y0 s =>
 zaE .sl y0 s fun z0 s =>
 bP .lss w0 z0 s fun A0 s =>
 zx A0 (fl 4 a s fun B0 s =>
 il false 1 1 B0 w0 s fun C0 s =>
 zaE .sl C0 s fun D0 s =>
 bP .gtr D0 (iN 64) s fun E0 s =>
 zx E0 (z1 Z (iN 62) s) (bP .add w0 (iN 1) s fun F0 s =>
 u0 [F0] s)) (fl 3 a s fun G0 s =>
 bP .lss G0 (iN 0) s fun H0 s =>
 gFl H0 3 a s fun I0 s =>
 gF H0 (bP .gtr I0 (iN 9007199254740992) s) s fun J0 s =>
 orC H0 J0 s fun K0 s =>
 zx K0 (z1 Z (iN 60) s) (z1 Z (iN 0) s)))))
theorem e_r06_Check : F1 Tryz.prog zgi zmB := zh [.l [7] [(2, 1), (90, 14)]] Tryz.func118
def zkP (P : Program) (x0 : AV) (σ : LO) (Z : ZT) : Prop :=
 bP .eql x0 (iN 1) σ fun a s =>
 zx a (Z (zJ (some bT) (zJ (some bF) (zJ (some bF) (zJ (some bF) (some []))))) s) (bP .eql x0 (iN 2) s fun b s =>
 zx b (Z (zJ (some bT) (zJ (some bF) (zJ (some bF) (zJ (some bT) (some []))))) s) (bP .eql x0 (iN 3) s fun c s =>
 zx c (Z (zJ (some bT) (zJ (some bT) (zJ (some bT) (zJ (some bF) (some []))))) s) (bP .eql x0 (iN 4) s fun d s =>
 zx d (Z (zJ (some bT) (zJ (some bF) (zJ (some bT) (zJ (some bF) (some []))))) s) (Z (zJ (some bF) (zJ (some bF) (zJ (some bF) (zJ (some bF) (some []))))) s))))
theorem e_r06_fields : F1 Tryz.prog zfm zkP := zh [] Tryz.func119
def znK (P : Program) (x0 x1 : AV) (σ : LO) (Z : ZT) : Prop :=
 zZ .toStr x0 σ fun a s =>
 zZ .toStr x1 s fun b s =>
 bP .eql a b s fun c s =>
 z1 Z c s
theorem e_r02_Same : F2 Tryz.prog zjz znK := zh [] Tryz.func120
end Go.Proofs.YtjjchfbckfopkaaGreat
