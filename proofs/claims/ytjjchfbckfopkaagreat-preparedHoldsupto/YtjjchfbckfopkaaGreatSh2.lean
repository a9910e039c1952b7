/- The conditions of each function, its slots as variables, and that the logic's conditions are these. Printed by program. -/
import Derived.Test.YtjjchfbckfopkaaGreatNm
import Derived.KernelRfl
set_option linter.all false
set_option maxRecDepth 100000
set_option linter.unusedVariables false
namespace Go.Proofs.YtjjchfbckfopkaaGreat
open Go.AW
def zfb (P : Program) (x0 : AV) (σ : LO) (Z : ZT) : Prop :=
 zaD .sl x0 σ fun a s =>
 bP .gtr a (iN 4) s fun b s =>
 zr b (z1 Z (iN 3) s) (zaD .sl x0 s fun c s =>
 zbx [(iN 0)] s fun v s d =>
 zaR v fun e v => bP .lss e c s fun f s =>
 zr f (il true 9 9 x0 e s fun g s =>
 cp zl3 9 g s fun h s =>
 zg 0 h s fun i s =>
 zl true 7 i s fun j s =>
 cA P zdE [j] s fun l s =>
 bP .neq l (iN 0) s fun m s =>
 zr m (z1 Z l s) (zg 7 h s fun n s =>
 zl true 2 n s fun o s =>
 cA P zcm [o] s fun p s =>
 bP .neq p (iN 0) s fun q s =>
 zr q (z1 Z p s) (bP .add e (iN 1) s fun r s =>
 d [r] s))) (zaD .sl x0 s fun u s =>
 zbx [(iN 0)] s fun v s w =>
 zaR v fun y v => bP .lss y u s fun z s =>
 zr z (il true 9 9 x0 y s fun A s =>
 zU zl3 s fun B s =>
 zo 9 B A s fun _ s =>
 zcj (.sl 9) x0 none (some y) none s fun D s =>
 zaD .sl D s fun E s =>
 zbx [(iN 0)] s fun v s F =>
 zaR v fun G v => bP .lss G E s fun H s =>
 zr H (il true 9 9 D G s fun I s =>
 cp zl3 9 I s fun J s =>
 zg 0 B s fun K s =>
 fl 0 K s fun L s =>
 zg 0 J s fun M s =>
 fl 0 M s fun N s =>
 bP .eql L N s fun O s =>
 gT O (zg 0 B s) s fun Q s =>
 gTl O 1 Q s fun R s =>
 gT O (zg 0 J s) s fun S s =>
 gTl O 1 S s fun T s =>
 gT O (bP .eql R T s) s fun U s =>
 anC O U s fun V s =>
 zr V (z1 Z (iN 5) s) (bP .add G (iN 1) s fun W s =>
 F [W] s)) (bP .add y (iN 1) s fun X s =>
 w [X] s)) (z1 Z (iN 0) s)))
theorem ziH : F1 Tryz.prog zbY zfb := zh [.l [16] [(2, 1), (4, 3), (17, 16)], .l [35] [(2, 1), (7, 2), (10, 1), (36, 30)], .l [44] [(2, 1), (10, 1), (45, 20)]] Tryz.func58
def zbc (P : Program) (x0 x1 : AV) (σ : LO) (Z : ZT) : Prop :=
 cA P zaK [x0, x1] σ fun a s =>
 bP .geq a (iN 0) s fun b s =>
 z1 Z b s
theorem zcu : F2 Tryz.prog zaC zbc := zh [] Tryz.func59
def zeq (P : Program) (x0 x1 x2 : AV) (σ : LO) (Z : ZT) : Prop :=
 zbr x0 σ fun a s =>
 zl false 1 x1 s fun b s =>
 zl false 1 x2 s fun c s =>
 zl true 9 a s fun d s =>
 cA P zfo [b, c, d] s fun e s =>
 unC .not e s fun f s =>
 z1 Z f s
theorem zhy : F3 Tryz.prog zen zeq := zh [] Tryz.func60
def zhX (P : Program) (x0 x1 x2 : AV) (σ : LO) (Z : ZT) : Prop :=
 zbr x2 σ fun a s =>
 zg 0 a s fun b s =>
 zl true 7 b s fun c s =>
 cA P zdF [c] s fun d s =>
 zc d 0 s fun e s =>
 zc d 1 s fun f s =>
 bP .neq f (iN 0) s fun g s =>
 zr g (z1 Z bF s) (cA P zbA [x0, e] s fun h s =>
 zc h 0 s fun i s =>
 zc h 1 s fun j s =>
 gT j (zg 7 a s) s fun l s =>
 gT j (zl true 2 l s) s fun m s =>
 gT j (zg 0 a s) s fun n s =>
 gTl j 0 n s fun o s =>
 gTm j i s fun p s =>
 gT j (cA P zgL [o] s) s fun q t =>
 zT l s t ∧ (gT j (zB (zag [iN 0, iN 0] [(0, 1, q), (1, 1, p)]) t) t fun r s =>
 gT j (zci .eql (.ints 2) m r s) s fun u s =>
 anC j u s fun w s =>
 gTm w x1 s fun y s =>
 gT w (zg 7 a s) s fun z s =>
 gT w (zl true 2 z s) s fun A s =>
 gT w (cA P zbS [y, A] s) s fun B s =>
 anC w B s fun C s =>
 z1 Z C s))
theorem znq : F3 Tryz.prog zfo zhX := zh [.d [(0, 7), (8, 1), (7, 1), (9, 10)] [(7, [27])]] Tryz.func61
def zkD (P : Program) (x0 : AV) (σ : LO) (Z : ZT) : Prop :=
 zaj false x0 σ fun a s =>
 zr a (z1 Z eN s) (zn false 1 0 (zag (rep [(.d (.int .u8 0))] 0) []) s fun b s =>
 zq 1 1 b x0 s fun c s =>
 z1 Z c s)
theorem zko : F1 Tryz.prog zcq zkD := zh [] Tryz.func62
def zfB (P : Program) (x0 x1 : AV) (σ : LO) (Z : ZT) : Prop :=
 zaD .sl x0 σ fun a s =>
 zab (.int .u64) a s fun b s =>
 cA P zaF [x1, b] s fun c s =>
 zaD .sl x0 s fun d s =>
 zbx [c, (iN 0)] s fun v s e =>
 zaR v fun f v => zaR v fun g v => bP .lss g d s fun h s =>
 zr h (il true 9 9 x0 g s fun i s =>
 cp zl3 9 i s fun j s =>
 zg 0 j s fun l s =>
 zl true 7 l s fun m s =>
 cA P zdF [m] s fun n s =>
 zc n 0 s fun o s =>
 zc n 1 s fun _ s =>
 zg 7 j s fun q s =>
 zl true 2 q s fun r s =>
 cA P zbM [f, o] s fun u t =>
 zT q s t ∧ (cA P zet [u, r] t fun w s =>
 bP .add g (iN 1) s fun y s =>
 e [w, y] s)) (z1 Z f s)
theorem zjq : F2 Tryz.prog zdp zfB := zh [.l [1, 16] [(6, 3), (17, 16)], .d [(0, 2), (3, 2), (2, 1), (5, 2)] [(2, [29])]] Tryz.func63
def zkB (P : Program) (x0 x1 : AV) (σ : LO) (Z : ZT) : Prop :=
 cA P zdd [x0] σ fun a s =>
 bP .eql a (iN 0) s fun b s =>
 gTm b x1 s fun c s =>
 gT b (bP .geq c (iN 0) s) s fun d s =>
 anC b d s fun e s =>
 gTm e x1 s fun f s =>
 gT e (bP .leq f (iN 9007199254740992) s) s fun g s =>
 anC e g s fun h s =>
 z1 Z h s
theorem zpR : F2 Tryz.prog zgQ zkB := zh [] Tryz.func64
def znR (P : Program) (x0 x1 : AV) (σ : LO) (Z : ZT) : Prop :=
 cA P zco [x0] σ fun a s =>
 zci .neq .ptr a (.d .nilp) s fun b s =>
 gTm b x1 s fun c s =>
 gT b (cA P zbZ [c] s) s fun d s =>
 gT b (zci .neq .ptr d (.d .nilp) s) s fun e s =>
 anC b e s fun f s =>
 z1 Z f s
theorem e_auth_made : F2 Tryz.prog zjl znR := zh [] Tryz.func65
def zpl (P : Program) (x0 x1 x2 x3 : AV) (σ : LO) (Z : ZT) : Prop :=
 zn false 1 4 (zag (rep [iN 0] 4) [(0, 1, x0), (1, 1, x1), (2, 1, x2), (3, 1, x3)]) σ fun a s =>
 zaD .sl a s fun b s =>
 zbx [(iN 0)] s fun v s c =>
 zaR v fun d v => bP .lss d b s fun e s =>
 zr e (il false 1 1 a d s fun f s =>
 bP .lss f (iN 0) s fun g s =>
 gFm g f s fun h s =>
 gF g (bP .gtr h (iN 9007199254740992) s) s fun i s =>
 orC g i s fun j s =>
 zr j (z1 Z bF s) (bP .add d (iN 1) s fun l s =>
 c [l] s)) (z1 Z bT s)
theorem e_auth_may : F4 Tryz.prog zkW zpl := zh [.l [17] [(8, 1), (10, 1), (18, 10)]] Tryz.func66
def zkE (P : Program) (x0 x1 x2 x3 x4 : AV) (σ : LO) (Z : ZT) : Prop :=
 zbr x2 σ fun a s =>
 cA P zbA [x0, x4] s fun b s =>
 zc b 0 s fun c s =>
 zc b 1 s fun d s =>
 gT d (zl true 2 a s) s fun e s =>
 gTm d x3 s fun f s =>
 gTm d c s fun g s =>
 gT d (zB (zag [iN 0, iN 0] [(0, 1, f), (1, 1, g)]) s) s fun h s =>
 gT d (zci .eql (.ints 2) e h s) s fun i s =>
 anC d i s fun j s =>
 gTm j x1 s fun l s =>
 gT j (zl true 2 a s) s fun m s =>
 gT j (cA P zbS [l, m] s) s fun n s =>
 anC j n s fun o s =>
 z1 Z o s
theorem zpT : F5 Tryz.prog zgT zkE := zh [] Tryz.func67
def zht (P : Program) (x0 x1 x2 x3 : AV) (σ : LO) (Z : ZT) : Prop :=
 m1 1 [(.d (.int .u8 0))] (.d (.int .u8 4)) σ fun a s =>
 zn false 1 4 (zag (rep [iN 0] 4) [(0, 1, x0), (1, 1, x1), (2, 1, x2), (3, 1, x3)]) s fun b s =>
 cA P zkV [a, b] s fun c s =>
 z1 Z c s
theorem zmo : F4 Tryz.prog zeT zht := zh [] Tryz.func68
def zjc (P : Program) (x0 x1 : AV) (σ : LO) (Z : ZT) : Prop :=
 cA P zdd [x1] σ fun a s =>
 bP .neq a (iN 0) s fun b s =>
 zr b (z1 Z (iN 0) s) (bP .mul x0 x1 s fun c s =>
 bP .add c (iN 1) s fun d s =>
 z1 Z d s)
theorem zoi : F2 Tryz.prog zgh zjc := zh [] Tryz.func69
def S_op_Same (P : Program) (x0 x1 : AV) (σ : LO) (Z : ZT) : Prop :=
 zbr x0 σ fun a s =>
 zbr x1 s fun b s =>
 fl 0 a s fun c s =>
 fl 0 b s fun d s =>
 bP .eql c d s fun e s =>
 gTl e 1 a s fun f s =>
 gTl e 1 b s fun g s =>
 gT e (bP .eql f g s) s fun h s =>
 anC e h s fun i s =>
 gTl i 2 a s fun j s =>
 gTl i 2 b s fun l s =>
 gT i (bP .eql j l s) s fun m s =>
 anC i m s fun n s =>
 gTl n 3 a s fun o s =>
 gTl n 3 b s fun p s =>
 gT n (bP .eql o p s) s fun q s =>
 anC n q s fun r s =>
 gTl r 4 a s fun u s =>
 gTl r 4 b s fun w s =>
 gT r (cA P zX [u, w, (.fn (.func zgR) [] [])] s) s fun y s =>
 anC r y s fun z s =>
 z1 Z z s
theorem e_op_Same : F2 Tryz.prog zmX S_op_Same := zh [] Tryz.func72
def zgE (P : Program) (x0 x1 : AV) (σ : LO) (Z : ZT) : Prop :=
 zbr x0 σ fun a s =>
 zbr x1 s fun b s =>
 fl 0 a s fun c s =>
 fl 0 b s fun d s =>
 bP .eql c d s fun e s =>
 gTl e 1 a s fun f s =>
 gTl e 1 b s fun g s =>
 gT e (bP .eql f g s) s fun h s =>
 anC e h s fun i s =>
 gT i (zg 2 a s) s fun j s =>
 gT i (zl true 5 j s) s fun l s =>
 gT i (zg 2 b s) s fun m s =>
 gT i (zl true 5 m s) s fun n s =>
 gT i (cA P zkQ [l, n] s) s fun o s =>
 anC i o s fun p s =>
 z1 Z p s
theorem zlk : F2 Tryz.prog zeu zgE := zh [] Tryz.func73
def znM (P : Program) (x0 : AV) (σ : LO) (Z : ZT) : Prop :=
 zbr x0 σ fun a s =>
 zl true 7 a s fun b s =>
 cA P zgN [b] s fun c s =>
 bP .neq c (iN 0) s fun d s =>
 zr d (z2 Z eN c s) (fl 0 a s fun e s =>
 zab (.int .u64) e s fun f s =>
 cA P zbb [eN, f] s fun g s =>
 fl 1 a s fun h s =>
 zab (.int .u64) h s fun i s =>
 cA P zbb [g, i] s fun j s =>
 zg 2 a s fun l s =>
 zl true 5 l s fun m s =>
 cA P zmV [j, m] s fun n s =>
 z2 Z n (iN 0) s)
theorem e_r08_Bytes : F1 Tryz.prog zgO znM := zh [] Tryz.func74
def zgF (P : Program) (x0 x1 x2 : AV) (σ : LO) (Z : ZT) : Prop :=
 zU [iN 0, iN 0] σ fun a s =>
 bP .lss x1 (iN 0) s fun b s =>
 gFm b x1 s fun c s =>
 gF b (bP .geq c (iN 21) s) s fun d s =>
 orC b d s fun e s =>
 zr e (zB (zag [iN 0, iN 0] []) s fun f s =>
 zo 2 a f s fun _ s =>
 Z (zM (zau a s true 2) (zM (some (iN 20)) (some []))) s) (bP .lss x2 (iN 1) s fun h s =>
 zr h (zB (zag [iN 0, iN 0] []) s fun i s =>
 zo 2 a i s fun _ s =>
 Z (zM (zau a s true 2) (zM (some (iN 1)) (some []))) s) (zB (zag [iN 0, iN 0] [(0, 1, x1), (1, 1, x2)]) s fun l s =>
 cp [iN 0, iN 0] 2 l s fun m s =>
 (fun (n : LO → Prop) => zl true 2 m s fun q s =>
 cA P zdq [x0, q] s fun r s =>
 unC .not r s fun u s =>
 zr u (nfl 0 x0 s fun w s =>
 zl true 2 m s fun y s =>
 m1 2 [iN 0, iN 0] y s fun z s =>
 zq 2 16 eN w s fun A t =>
 zT m s t ∧ (zq 2 16 A z t fun B s =>
 zbz x0 s fun C s =>
 zg 0 C s fun D s =>
 zo 1 D B s fun _ s =>
 n s)) (n s))
 (fun  s => zl true 2 m s fun o s =>
 zo 2 a o s fun _ s =>
 Z (zM (zau a s true 2) (zM (some (iN 0)) (some []))) s)))
theorem zgv : F3 Tryz.prog zcO zgF := zh [.d [(0, 5), (6, 2), (5, 1), (8, 4)] [(5, [8])]] Tryz.func75
def S_r08_Key (P : Program) (x0 : AV) (σ : LO) (Z : ZT) : Prop :=
 bP .lss x0 (iN 0) σ fun a s =>
 gFm a x0 s fun b s =>
 gF a (bP .geq b (iN 8) s) s fun c s =>
 orC a c s fun d s =>
 zr d (z1 Z (iN (-1)) s) (bP .add (iN 13) x0 s fun e s =>
 z1 Z e s)
theorem e_r08_Key : F1 Tryz.prog zhH S_r08_Key := zh [] Tryz.func76
def zif (P : Program) (x0 x1 : AV) (σ : LO) (Z : ZT) : Prop :=
 cA P zeQ [x0, x1] σ fun a s =>
 zc a 0 s fun b s =>
 zc a 1 s fun c s =>
 zr c (z1 Z b s) (nfl 0 x0 s fun d s =>
 zaD .sl d s fun e s =>
 bP .geq e (iN 1048576) s fun f s =>
 zr f (z1 Z (iN 0) s) (nfl 0 x0 s fun g s =>
 zq 1 24 eN g s fun h s =>
 zq 1 1 eN x1 s fun i s =>
 m1 1 [eN] i s fun j s =>
 zq 1 24 h j s fun l s =>
 zbz x0 s fun m s =>
 zg 0 m s fun n s =>
 zo 1 n l s fun _ s =>
 nfl 0 x0 s fun p s =>
 zaD .sl p s fun q s =>
 z1 Z q s))
theorem zhP : F2 Tryz.prog zcI zif := zh [] Tryz.func77
def zhj (P : Program) (x0 : AV) (σ : LO) (Z : ZT) : Prop :=
 zaD .sl x0 σ fun a s =>
 bP .gtr a (iN 4) s fun b s =>
 zr b (z1 Z (iN 3) s) (zbx [(iN 0)] s fun v s c =>
 zaR v fun d v => zaD .sl x0 s fun e s =>
 bP .lss d e s fun f s =>
 zr f (zI none 9 x0 d s fun g s =>
 zg 0 g s fun h s =>
 zl true 7 h s fun i s =>
 cA P zgN [i] s fun j s =>
 bP .neq j (iN 0) s fun l s =>
 zr l (z1 Z j s) (zI none 9 x0 d s fun m s =>
 zg 7 m s fun n s =>
 zl true 2 n s fun o s =>
 cA P zdH [o] s fun p s =>
 bP .neq p (iN 0) s fun q s =>
 zr q (z1 Z p s) (bP .add d (iN 1) s fun r s =>
 c [r] s))) (zbx [(iN 0)] s fun v s u =>
 zaR v fun w v => zaD .sl x0 s fun y s =>
 bP .lss w y s fun z s =>
 zr z (zbx [(iN 0)] s fun v s A =>
 zaR v fun B v => bP .lss B w s fun C s =>
 zr C (zI none 9 x0 w s fun D s =>
 zg 0 D s fun E s =>
 fl 0 E s fun F s =>
 zI none 9 x0 B s fun G s =>
 zg 0 G s fun H s =>
 fl 0 H s fun I s =>
 bP .eql F I s fun J s =>
 gTm J x0 s fun K s =>
 gTm J w s fun L s =>
 gT J (zI none 9 K L s) s fun M s =>
 gT J (zg 0 M s) s fun N s =>
 gTl J 1 N s fun O s =>
 gTm J x0 s fun Q s =>
 gTm J B s fun R s =>
 gT J (zI none 9 Q R s) s fun S s =>
 gT J (zg 0 S s) s fun T s =>
 gTl J 1 T s fun U s =>
 gT J (bP .eql O U s) s fun V s =>
 anC J V s fun W s =>
 zr W (z1 Z (iN 5) s) (bP .add B (iN 1) s fun X s =>
 A [X] s)) (bP .add w (iN 1) s fun Y s =>
 u [Y] s)) (z1 Z (iN 0) s)))
theorem zmh : F1 Tryz.prog zdi zhj := zh [.l [3] [(2, 1), (4, 2), (11, 24)], .l [6] [(2, 1), (7, 1), (35, 39)], .l [7] [(2, 1), (41, 33)], .d [(0, 28)] []] Tryz.func78
def zja (P : Program) (x0 x1 : AV) (σ : LO) (Z : ZT) : Prop :=
 cA P zdi [x1] σ fun a s =>
 bP .neq a (iN 0) s fun b s =>
 zr b (z1 Z x0 s) (zaD .sl x1 s fun c s =>
 zab (.int .u64) c s fun d s =>
 cA P zbb [x0, d] s fun e s =>
 zbx [e, (iN 0)] s fun v s f =>
 zaR v fun g v => zaR v fun h v => zaD .sl x1 s fun i s =>
 bP .lss h i s fun j s =>
 zr j (zI none 9 x1 h s fun l s =>
 zg 0 l s fun m s =>
 zl true 7 m s fun n s =>
 cA P zgO [n] s fun o s =>
 zc o 0 s fun p s =>
 zc o 1 s fun _ s =>
 zI none 9 x1 h s fun r s =>
 zg 7 r s fun u s =>
 zl true 2 u s fun w s =>
 cA P zcx [g, p] s fun y t =>
 zT u s t ∧ (cA P zgM [y, w] t fun z s =>
 bP .add h (iN 1) s fun A s =>
 f [z, A] s)) (z1 Z g s))
theorem zoh : F2 Tryz.prog zgg zja := zh [.l [0, 5] [(6, 2), (17, 24)], .d [(0, 2), (3, 5), (2, 1), (8, 2)] [(2, [38])]] Tryz.func79
def S_r11_may (P : Program) (x0 x1 x2 x3 : AV) (σ : LO) (Z : ZT) : Prop :=
 cA P zgq [x0] σ fun a s =>
 gTm a x1 s fun b s =>
 gT a (cA P zgq [b] s) s fun c s =>
 anC a c s fun d s =>
 gTm d x2 s fun e s =>
 gT d (cA P zgq [e] s) s fun f s =>
 anC d f s fun g s =>
 gTm g x3 s fun h s =>
 gT g (cA P zgq [h] s) s fun i s =>
 anC g i s fun j s =>
 z1 Z j s
theorem e_r11_may : F4 Tryz.prog zmU S_r11_may := zh [] Tryz.func80
def zoY (P : Program) (x0 x1 x2 x3 : AV) (σ : LO) (Z : ZT) : Prop :=
 zU [iN 0, iN 0] σ fun a s =>
 cA P zcI [x0, x3] s fun b s =>
 bP .eql b (iN 0) s fun c s =>
 zr c (zB (zag [iN 0, iN 0] []) s fun d s =>
 zo 2 a d s fun _ s =>
 Z (zM (zau a s true 2) (zM (some (iN 6)) (some []))) s) (cA P zcO [x1, x2, b] s fun f s =>
 zc f 0 s fun g s =>
 zc f 1 s fun h s =>
 zo 2 a g s fun _ s =>
 Z (zM (zau a s true 2) (zM (some h) (some []))) s)
theorem e_r11_sign : F4 Tryz.prog zkN zoY := zh [] Tryz.func81
def zid (P : Program) (x0 x1 x2 x3 : AV) (σ : LO) (Z : ZT) : Prop :=
 m1 1 [(.d (.int .u8 0))] (.d (.int .u8 4)) σ fun a s =>
 cA P zgp [a, x0] s fun b s =>
 cA P zgp [b, x1] s fun c s =>
 cA P zgp [c, x2] s fun d s =>
 cA P zgp [d, x3] s fun e s =>
 z1 Z e s
theorem znw : F4 Tryz.prog zfr zid := zh [] Tryz.func82
def zph (P : Program) (x0 : AV) (σ : LO) (Z : ZT) : Prop :=
 zbr x0 σ fun a s =>
 zU zl4 s fun b s =>
 fl 4 a s fun c s =>
 zaD .sl c s fun d s =>
 zbx [eN, (iN 0)] s fun v s e =>
 zaR v fun f v => zaR v fun g v => bP .lss g d s fun h s =>
 zr h (il false 1 1 c g s fun i s =>
 cA P zcq [i] s fun j s =>
 m1 1 [eN] j s fun l s =>
 zq 1 24 f l s fun m s =>
 bP .add g (iN 1) s fun n s =>
 e [m, n] s) (zg 4 a s fun o s =>
 zo 1 o f s fun _ s =>
 zl true 5 a s fun q s =>
 zo 5 b q s fun _ s =>
 Z (zM (zau b s true 5) (some [])) s)
theorem e_op_Clone : F1 Tryz.prog zkT zph := zh [.l [3, 9] [(5, 1), (10, 9)]] Tryz.func83
def zdR (P : Program) (x0 : AV) (σ : LO) (Z : ZT) : Prop :=
 zt P zbv [eN, x0] σ fun a s =>
 z1 Z a s
theorem zdN : F1 Tryz.prog zcz zdR := zpJ [] Tryz.func84
def zbD (P : Program) (x0 x1 : AV) (σ : LO) (Z : ZT) : Prop :=
 zl false 1 x1 σ fun a s =>
 zeO a s fun b s =>
 zbx [] s fun v s c =>
 zhb b s fun d s =>
 zc d 0 s fun e s =>
 zr e (zeU b s fun f s =>
 zc f 0 s fun g s =>
 zah P x0 [dm g] s fun h s =>
 unC .not h s fun i s =>
 zr i (Z (some []) s) (c [] s)) (Z (some []) s)
theorem zbB : F2 Tryz.prog zN zbD := zh [.l [] [(3, 1), (6, 8)]] Tryz.func86
def zhZ (P : Program) (x0 : AV) (σ : LO) (Z : ZT) : Prop :=
 zbr x0 σ fun a s =>
 fl 0 a s fun b s =>
 bP .lss b (iN 0) s fun c s =>
 gFl c 0 a s fun d s =>
 gF c (bP .geq d (iN 8) s) s fun e s =>
 orC c e s fun f s =>
 gFl f 1 a s fun g s =>
 gF f (bP .lss g (iN 1) s) s fun h s =>
 orC f h s fun i s =>
 gFl i 1 a s fun j s =>
 gF i (bP .gtr j (iN 9007199254740992) s) s fun l s =>
 orC i l s fun m s =>
 zr m (z1 Z (iN 80) s) (zg 2 a s fun n s =>
 zl true 5 n s fun o s =>
 cA P zis [o] s fun p s =>
 z1 Z p s)
theorem zns : F1 Tryz.prog zdE zhZ := zh [] Tryz.func87
def zfC (P : Program) (x0 : AV) (σ : LO) (Z : ZT) : Prop :=
 zbr x0 σ fun a s =>
 fl 0 a s fun b s =>
 bP .lss b (iN 0) s fun c s =>
 gFl c 0 a s fun d s =>
 gF c (bP .geq d (iN 21) s) s fun e s =>
 orC c e s fun f s =>
 gFl f 1 a s fun g s =>
 gF f (bP .lss g (iN 1) s) s fun h s =>
 orC f h s fun i s =>
 gFl i 1 a s fun j s =>
 gF i (bP .gtr j (iN 9007199254740992) s) s fun l s =>
 orC i l s fun m s =>
 zr m (z1 Z (iN 81) s) (z1 Z (iN 0) s)
theorem zjr : F1 Tryz.prog zcm zfC := zh [] Tryz.func88
def zby (P : Program) (x0 x1 : AV) (σ : LO) (Z : ZT) : Prop :=
 zaD .sl x0 σ fun a s =>
 zbx [(iN 0)] s fun v s b =>
 zaR v fun c v => bP .lss c a s fun d s =>
 zr d (il true 9 9 x0 c s fun e s =>
 zah P x1 [dm e] s fun f s =>
 zr f (z1 Z c s) (bP .add c (iN 1) s fun g s =>
 b [g] s)) (z1 Z (iN (-1)) s)
theorem zcM : F2 Tryz.prog zaK zby := zh [.l [8] [(4, 2), (9, 10)]] Tryz.func89
def zia (P : Program) (x0 : AV) (σ : LO) (Z : ZT) : Prop :=
 zbr x0 σ fun a s =>
 zl true 7 a s fun b s =>
 cA P zdE [b] s fun c s =>
 bP .neq c (iN 0) s fun d s =>
 zr d (z2 Z eN c s) (fl 0 a s fun e s =>
 zab (.int .u64) e s fun f s =>
 zg 1 a s fun g s =>
 zl false 1 g s fun h s =>
 zab (.int .u64) h s fun i s =>
 zg 2 a s fun j s =>
 zl true 5 j s fun l s =>
 cA P zaF [eN, f] s fun m t =>
 zT g s t ∧ (zT j s t ∧ (cA P zaF [m, i] t fun n s =>
 zT j t s ∧ (cA P zpD [n, l] s fun o s =>
 z2 Z o (iN 0) s))))
theorem znt : F1 Tryz.prog zdF zia := zh [.d [(0, 3), (4, 3), (8, 2), (3, 1), (7, 1), (10, 3)] [(3, [14, 18]), (7, [18])]] Tryz.func90
def zky (P : Program) (x0 : AV) (σ : LO) (Z : ZT) : Prop :=
 bP .lss x0 (iN 0) σ fun a s =>
 gFm a x0 s fun b s =>
 gF a (bP .geq b (iN 8) s) s fun c s =>
 orC a c s fun d s =>
 zr d (z1 Z (iN (-1)) s) (bP .add (iN 13) x0 s fun e s =>
 z1 Z e s)
theorem zpO : F1 Tryz.prog zgL zky := zh [] Tryz.func91
def zeL (P : Program) (x0 x1 : AV) (σ : LO) (Z : ZT) : Prop :=
 zbr x1 σ fun a s =>
 cA P zbI [x0] s fun b s =>
 unC .not b s fun c s =>
 gTm c x0 s fun d s =>
 gT c (zbz d s) s fun e s =>
 gTl c 1 e s fun f s =>
 gT c (zl true 2 a s) s fun g s =>
 gT c (zaA (.ints 2) false bF f g s) s fun h s =>
 anC c h s fun i s =>
 z1 Z i s
theorem zhR : F2 Tryz.prog zbS zeL := zh [.d [(0, 12)] []] Tryz.func92
def zjf (P : Program) (x0 x1 : AV) (σ : LO) (Z : ZT) : Prop :=
 cA P zhL [x1] σ fun a s =>
 zc a 0 s fun b s =>
 zc a 1 s fun c s =>
 cp [(.d (.int .u8 0)), (.d (.int .u8 0)), (.d (.int .u8 0)), (.d (.int .u8 0)), (.d (.int .u8 0)), (.d (.int .u8 0)), (.d (.int .u8 0)), (.d (.int .u8 0)), (.d (.int .u8 0)), (.d (.int .u8 0))] 10 b s fun d s =>
 zcj (.arr 10 1) d none (some c) none s fun e s =>
 cA P zcl [x0] s fun f s =>
 zq 1 1 f e s fun g s =>
 z1 Z g s
theorem ziT : F2 Tryz.prog zaF zjf := zh [.d [(0, 1), (2, 2), (1, 1), (4, 2)] []] Tryz.func93
def zgD (P : Program) (x0 x1 : AV) (σ : LO) (Z : ZT) : Prop :=
 zbr x1 σ fun a s =>
 zl true 2 a s fun b s =>
 cA P zcm [b] s fun c s =>
 bP .neq c (iN 0) s fun d s =>
 zr d (cA P zcq [x0] s fun e s =>
 z1 Z e s) (fl 0 a s fun f s =>
 zab (.int .u64) f s fun g s =>
 zg 1 a s fun h s =>
 zl false 1 h s fun i s =>
 zab (.int .u64) i s fun j s =>
 cA P zaF [x0, g] s fun l t =>
 zT h s t ∧ (cA P zaF [l, j] t fun m s =>
 z1 Z m s))
theorem zlj : F2 Tryz.prog zet zgD := zh [.d [(0, 4), (5, 3), (4, 1), (8, 2)] [(4, [15])]] Tryz.func94
def zhs (P : Program) (x0 x1 : AV) (σ : LO) (Z : ZT) : Prop :=
 zaD .sl x1 σ fun a s =>
 zab (.int .u64) a s fun b s =>
 cA P zaF [x0, b] s fun c s =>
 zq 1 1 c x1 s fun d s =>
 z1 Z d s
theorem zhf : F2 Tryz.prog zbM zhs := zh [] Tryz.func95
def zpk (P : Program) (x0 x1 : AV) (σ : LO) (Z : ZT) : Prop :=
 zaD .sl x1 σ fun a s =>
 zbx [x0, (iN 0)] s fun v s b =>
 zaR v fun c v => zaR v fun d v => bP .lss d a s fun e s =>
 zr e (il false 1 1 x1 d s fun f s =>
 zcB [(iN 0), f] s fun g s =>
 zab (.int .u64) g s fun h s =>
 cA P zaF [c, h] s fun i s =>
 bP .add d (iN 1) s fun j s =>
 b [i, j] s) (z1 Z c s)
theorem e_auth_put : F2 Tryz.prog zkV zpk := zh [.l [0, 9] [(6, 1), (10, 9)]] Tryz.func96
def zaq (P : Program) (x0 x1 x2 : AV) (σ : LO) (Z : ZT) : Prop :=
 zaD .sl x0 σ fun a s =>
 zaD .sl x1 s fun b s =>
 bP .neq a b s fun c s =>
 zr c (z1 Z bF s) (zaD .sl x0 s fun d s =>
 zbx [(iN 0)] s fun v s e =>
 zaR v fun f v => bP .lss f d s fun g s =>
 zr g (il false 1 1 x0 f s fun h s =>
 il false 1 1 x1 f s fun i s =>
 zah P x2 [dm h, dm i] s fun j s =>
 unC .not j s fun l s =>
 zr l (z1 Z bF s) (bP .add f (iN 1) s fun m s =>
 e [m] s)) (z1 Z bT s))
theorem zaY : F3 Tryz.prog zX zaq := zh [.l [17] [(6, 4), (18, 14)]] Tryz.func97
def znQ (P : Program) (x0 x1 : AV) (σ : LO) (Z : ZT) : Prop :=
 cA P zgS [x0, x1] σ fun a s =>
 z1 Z a s
theorem e_op_Same_1 : F2 Tryz.prog zgR znQ := zh [] Tryz.func98
def zkC (P : Program) (x0 x1 : AV) (σ : LO) (Z : ZT) : Prop :=
 zab .toStr x0 σ fun a s =>
 zab .toStr x1 s fun b s =>
 bP .eql a b s fun c s =>
 z1 Z c s
theorem zpS : F2 Tryz.prog zgS zkC := zh [] Tryz.func99
def zpd (P : Program) (x0 x1 : AV) (σ : LO) (Z : ZT) : Prop :=
 zbr x0 σ fun a s =>
 zbr x1 s fun b s =>
 fl 0 a s fun c s =>
 fl 0 b s fun d s =>
 bP .neq c d s fun e s =>
 gFl e 1 a s fun f s =>
 gFl e 1 b s fun g s =>
 gF e (bP .neq f g s) s fun h s =>
 orC e h s fun i s =>
 gFl i 2 a s fun j s =>
 gFl i 2 b s fun l s =>
 gF i (bP .neq j l s) s fun m s =>
 orC i m s fun n s =>
 gFl n 3 a s fun o s =>
 gFl n 3 b s fun p s =>
 gF n (bP .neq o p s) s fun q s =>
 orC n q s fun r s =>
 gFl r 4 a s fun u s =>
 gF r (zaD .sl u s) s fun w s =>
 gFl r 4 b s fun y s =>
 gF r (zaD .sl y s) s fun z s =>
 gF r (bP .neq w z s) s fun A s =>
 orC r A s fun B s =>
 zr B (z1 Z bF s) (zbx [(iN 0)] s fun v s C =>
 zaR v fun D v => fl 4 a s fun E s =>
 zaD .sl E s fun F s =>
 bP .lss D F s fun G s =>
 zr G (fl 4 a s fun H s =>
 il false 1 1 H D s fun I s =>
 zab .toStr I s fun J s =>
 fl 4 b s fun K s =>
 il false 1 1 K D s fun L s =>
 zab .toStr L s fun M s =>
 bP .neq J M s fun N s =>
 zr N (z1 Z bF s) (bP .add D (iN 1) s fun O s =>
 C [O] s)) (z1 Z bT s))
theorem e_r06_Same : F2 Tryz.prog zkQ zpd := zh [.l [5] [(4, 1), (41, 20)], .d [(0, 13)] []] Tryz.func100
def znL (P : Program) (x0 : AV) (σ : LO) (Z : ZT) : Prop :=
 zbr x0 σ fun a s =>
 fl 0 a s fun b s =>
 cA P zhH [b] s fun c s =>
 bP .lss c (iN 0) s fun d s =>
 gFl d 1 a s fun e s =>
 gF d (bP .lss e (iN 1) s) s fun f s =>
 orC d f s fun g s =>
 gFl g 1 a s fun h s =>
 gF g (bP .gtr h (iN 9007199254740992) s) s fun i s =>
 orC g i s fun j s =>
 zr j (z1 Z (iN 80) s) (zg 2 a s fun l s =>
 zl true 5 l s fun m s =>
 cA P zgP [m] s fun n s =>
 z1 Z n s)
theorem e_r08_Check : F1 Tryz.prog zgN znL := zh [] Tryz.func101
def zlW (P : Program) (x0 x1 : AV) (σ : LO) (Z : ZT) : Prop :=
 zq 1 1 eN x0 σ fun a s =>
 zbx [x1, a] s fun v s b =>
 zaR v fun c v => zaR v fun d v => bP .geq c (.d (.int .u64 128)) s fun e s =>
 zr e (bP .rem c (.d (.int .u64 128)) s fun f s =>
 zab (.int .u8) f s fun g s =>
 bP .add g (.d (.int .u8 128)) s fun h s =>
 m1 1 [(.d (.int .u8 0))] h s fun i s =>
 zq 1 1 d i s fun j s =>
 bP .quo c (.d (.int .u64 128)) s fun l s =>
 b [l, j] s) (zab (.int .u8) c s fun m s =>
 m1 1 [(.d (.int .u8 0))] m s fun n s =>
 zq 1 1 d n s fun o s =>
 z1 Z o s)
theorem zlN : F2 Tryz.prog zbb zlW := zh [.l [1, 5] [(9, 11)]] Tryz.func102
def S_r06_Put (P : Program) (x0 x1 : AV) (σ : LO) (Z : ZT) : Prop :=
 zbr x1 σ fun a s =>
 zl true 5 a s fun b s =>
 cA P zgP [b] s fun c s =>
 bP .neq c (iN 0) s fun d s =>
 zr d (z1 Z x0 s) (fl 0 a s fun e s =>
 cA P zfS [e] s fun f s =>
 zc f 0 s fun g s =>
 zc f 1 s fun h s =>
 zc f 2 s fun i s =>
 zc f 3 s fun j s =>
 fl 0 a s fun l s =>
 zab (.int .u64) l s fun m s =>
 cA P zbb [x0, m] s fun n s =>
 (fun (o : AV → LO → Prop) => zr g (fl 1 a s fun V s =>
 zab .toBytes V s fun W s =>
 cA P zcx [n, W] s fun X s =>
 o X s) (o n s))
 (fun p s => (fun (q : AV → LO → Prop) => zr h (fl 2 a s fun S s =>
 zab .toBytes S s fun T s =>
 cA P zcx [p, T] s fun U s =>
 q U s) (q p s))
 (fun r s => (fun (u : AV → LO → Prop) => zr i (fl 3 a s fun O s =>
 zab (.int .u64) O s fun Q s =>
 cA P zbb [r, Q] s fun R s =>
 u R s) (u r s))
 (fun w s => (fun (y : AV → LO → Prop) => zr j (fl 4 a s fun A s =>
 zaD .sl A s fun B s =>
 zab (.int .u64) B s fun C s =>
 cA P zbb [w, C] s fun D s =>
 zbx [D, (iN 0)] s fun v s E =>
 zaR v fun F v => zaR v fun G v => fl 4 a s fun H s =>
 zaD .sl H s fun I s =>
 bP .lss G I s fun J s =>
 zr J (fl 4 a s fun K s =>
 il false 1 1 K G s fun L s =>
 cA P zcx [F, L] s fun M s =>
 bP .add G (iN 1) s fun N s =>
 E [M, N] s) (y F s)) (y w s))
 (fun z s => z1 Z z s)))))
theorem e_r06_Put : F2 Tryz.prog zmV S_r06_Put := zh [.l [0, 9] [(52, 14)]] Tryz.func103
def zfD (P : Program) (x0 x1 : AV) (σ : LO) (Z : ZT) : Prop :=
 zbr x1 σ fun a s =>
 zbx [(iN 0)] s fun v s b =>
 zaR v fun c v => nfl 0 x0 s fun d s =>
 zaD .sl d s fun e s =>
 bP .lss c e s fun f s =>
 zr f (nfl 0 x0 s fun g s =>
 il true 2 2 g c s fun h s =>
 zl true 2 a s fun i s =>
 zci .eql (.ints 2) h i s fun j s =>
 zr j (z1 Z bT s) (bP .add c (iN 1) s fun l s =>
 b [l] s)) (z1 Z bF s)
theorem zjs : F2 Tryz.prog zdq zfD := zh [.l [5] [(4, 1), (6, 18)], .d [(0, 9)] []] Tryz.func104
def zhk (P : Program) (x0 x1 : AV) (σ : LO) (Z : ZT) : Prop :=
 zbx [(iN 0)] σ fun v s a =>
 zaR v fun b v => nfl 0 x0 s fun c s =>
 zaD .sl c s fun d s =>
 bP .lss b d s fun e s =>
 zr e (nfl 0 x0 s fun f s =>
 il false 1 1 f b s fun g s =>
 cA P zkR [g, x1] s fun h s =>
 zr h (bP .add b (iN 1) s fun i s =>
 z2 Z i bT s) (bP .add b (iN 1) s fun j s =>
 a [j] s)) (z2 Z (iN 0) bF s)
theorem zmi : F2 Tryz.prog zeQ zhk := zh [.l [6] [(4, 2), (7, 20)]] Tryz.func105
def zie (P : Program) (x0 : AV) (σ : LO) (Z : ZT) : Prop :=
 zbr x0 σ fun a s =>
 fl 0 a s fun b s =>
 bP .lss b (iN 0) s fun c s =>
 gFl c 0 a s fun d s =>
 gF c (bP .geq d (iN 21) s) s fun e s =>
 orC c e s fun f s =>
 gFl f 1 a s fun g s =>
 gF f (bP .lss g (iN 1) s) s fun h s =>
 orC f h s fun i s =>
 gFl i 1 a s fun j s =>
 gF i (bP .gtr j (iN 9007199254740992) s) s fun l s =>
 orC i l s fun m s =>
 zr m (z1 Z (iN 81) s) (z1 Z (iN 0) s)
theorem znx : F1 Tryz.prog zdH zie := zh [] Tryz.func106
def zkA (P : Program) (x0 x1 : AV) (σ : LO) (Z : ZT) : Prop :=
 zbr x1 σ fun a s =>
 zl true 2 a s fun b s =>
 cA P zdH [b] s fun c s =>
 bP .neq c (iN 0) s fun d s =>
 zr d (z1 Z x0 s) (fl 0 a s fun e s =>
 zab (.int .u64) e s fun f s =>
 zg 1 a s fun g s =>
 zl false 1 g s fun h s =>
 zab (.int .u64) h s fun i s =>
 cA P zbb [x0, f] s fun j t =>
 zT g s t ∧ (cA P zbb [j, i] t fun l s =>
 z1 Z l s))
theorem zpQ : F2 Tryz.prog zgM zkA := zh [.d [(0, 4), (5, 3), (4, 1), (8, 2)] [(4, [14])]] Tryz.func107
def zjb (P : Program) (x0 x1 : AV) (σ : LO) (Z : ZT) : Prop :=
 zaD .sl x1 σ fun a s =>
 zab (.int .u64) a s fun b s =>
 cA P zbb [x0, b] s fun c s =>
 zq 1 1 c x1 s fun d s =>
 z1 Z d s
theorem ziR : F2 Tryz.prog zcx zjb := zh [] Tryz.func108
def S_r11_num (P : Program) (x0 : AV) (σ : LO) (Z : ZT) : Prop :=
 bP .geq x0 (iN 0) σ fun a s =>
 gTm a x0 s fun b s =>
 gT a (bP .leq b (iN 9007199254740992) s) s fun c s =>
 anC a c s fun d s =>
 z1 Z d s
theorem e_r11_num : F1 Tryz.prog zgq S_r11_num := zh [] Tryz.func109
def S_r11_put (P : Program) (x0 x1 : AV) (σ : LO) (Z : ZT) : Prop :=
 zcB [x1, (iN 0)] σ fun a s =>
 zab (.int .u64) a s fun b s =>
 cA P zbb [x0, b] s fun c s =>
 z1 Z c s
theorem e_r11_put : F2 Tryz.prog zgp S_r11_put := zh [] Tryz.func110
def zcf (P : Program) (x0 x1 : AV) (σ : LO) (Z : ZT) : Prop :=
 zbr x0 σ fun a s =>
 zkL P x1 1 s (fun v s b c d e =>
 zaR v fun f v => s[b]? = some c ∧ ((fun s =>
 zl false 1 a s fun g s =>
 zn true 1 1 (zag (rep [iN 0] 1) [(0, 1, f)]) s fun h s =>
 zgZ 1 8 g h s fun i s =>
 zo 1 a i s fun _ s =>
 s[b]? = some d ∧ e (s.set b c)) (s.set b d))) fun s =>
 zl false 1 a s fun l s =>
 z1 Z l s
theorem zcc : F2 Tryz.prog zbv zcf := zpJ [] Tryz.func111
def zpi (P : Program) (x0 : AV) (σ : LO) (Z : ZT) : Prop :=
 zbr x0 σ fun a s =>
 zl true 5 a s fun b s =>
 cA P zmW [b] s fun c s =>
 zc c 0 s fun d s =>
 zc c 1 s fun e s =>
 cp zl4 5 d s fun f s =>
 unC .not e s fun g s =>
 gF g (zl true 5 a s) s fun h s =>
 gF g (zl true 5 f s) s fun i s =>
 gF g (cA P zmX [h, i] s) s fun j s =>
 gF g (unC .not j s) s fun l s =>
 orC g l s fun m s =>
 zr m (z1 Z (iN 60) s) (fl 0 a s fun n s =>
 bP .neq n (iN 0) s fun o s =>
 gTl o 1 a s fun p s =>
 gT o (cA P zjS [p] s) s fun q s =>
 gT o (unC .not q s) s fun r s =>
 anC o r s fun u s =>
 zr u (z1 Z (iN 61) s) (fl 0 a s fun w s =>
 bP .eql w (iN 3) s fun y s =>
 gTl y 2 a s fun z s =>
 gT y (cA P zjS [z] s) s fun A s =>
 gT y (unC .not A s) s fun B s =>
 anC y B s fun C s =>
 zr C (z1 Z (iN 61) s) (fl 0 a s fun D s =>
 bP .eql D (iN 2) s fun E s =>
 gTl E 4 a s fun F s =>
 gT E (zaD .sl F s) s fun G s =>
 gT E (bP .lss G (iN 1) s) s fun H s =>
 gTm E H s fun I s =>
 gFl I 4 a s fun J s =>
 gF I (zaD .sl J s) s fun K s =>
 gF I (bP .gtr K (iN 4) s) s fun L s =>
 gT E (orC I L s) s fun M s =>
 gTm E M s fun N s =>
 gFl N 4 a s fun O s =>
 gFm N (.fn (.func zfT) [] []) s fun Q s =>
 gF N (cA P zay [O, Q] s) s fun R s =>
 gT E (orC N R s) s fun S s =>
 anC E S s fun T s =>
 zr T (z1 Z (iN 62) s) (fl 3 a s fun U s =>
 bP .lss U (iN 0) s fun V s =>
 gFl V 3 a s fun W s =>
 gF V (bP .gtr W (iN 9007199254740992) s) s fun X s =>
 orC V X s fun Y s =>
 zr Y (z1 Z (iN 60) s) (z1 Z (iN 0) s)))))
theorem e_op_Check : F1 Tryz.prog zis zpi := zh [] Tryz.func114
def S_op_Put (P : Program) (x0 x1 : AV) (σ : LO) (Z : ZT) : Prop :=
 zbr x1 σ fun a s =>
 cA P zcq [x0] s fun b s =>
 zl true 5 a s fun c s =>
 cA P zis [c] s fun d s =>
 bP .neq d (iN 0) s fun e s =>
 zr e (z1 Z b s) (fl 0 a s fun f s =>
 zab (.int .u64) f s fun g s =>
 cA P zaF [b, g] s fun h s =>
 (fun (i : AV → LO → Prop) => fl 0 a s fun T s =>
 bP .neq T (iN 0) s fun U s =>
 zr U (fl 1 a s fun V s =>
 zab .toBytes V s fun W s =>
 cA P zbM [h, W] s fun X s =>
 i X s) (i h s))
 (fun j s => (fun (l : AV → LO → Prop) => fl 0 a s fun n s =>
 bP .eql n (iN 2) s fun o s =>
 zr o (fl 4 a s fun p s =>
 zaD .sl p s fun q s =>
 zab (.int .u64) q s fun r s =>
 cA P zaF [j, r] s fun u s =>
 fl 4 a s fun w s =>
 zaD .sl w s fun y s =>
 zbx [u, (iN 0)] s fun v s z =>
 zaR v fun A v => zaR v fun B v => bP .lss B y s fun C s =>
 zr C (il false 1 1 w B s fun D s =>
 cA P zbM [A, D] s fun E s =>
 bP .add B (iN 1) s fun F s =>
 z [E, F] s) (l A s)) (bP .eql n (iN 3) s fun G s =>
 zr G (fl 2 a s fun H s =>
 zab .toBytes H s fun I s =>
 zg 3 a s fun J s =>
 zl false 1 J s fun K s =>
 zab (.int .u64) K s fun L s =>
 cA P zbM [j, I] s fun M t =>
 zT J s t ∧ (cA P zaF [M, L] t fun N s =>
 l N s)) (bP .eql n (iN 4) s fun O s =>
 zr O (fl 3 a s fun Q s =>
 zab (.int .u64) Q s fun R s =>
 cA P zaF [j, R] s fun S s =>
 l S s) (l j s))))
 (fun m s => z1 Z m s)))
theorem e_op_Put : F2 Tryz.prog zpD S_op_Put := zh [.l [5, 40] [(7, 1), (41, 7)], .d [(0, 4), (5, 3), (4, 1), (8, 2)] [(4, [55])]] Tryz.func115
def zlZ (P : Program) (x0 : AV) (σ : LO) (Z : ZT) : Prop :=
 zU [(.d (.int .u8 0)), (.d (.int .u8 0)), (.d (.int .u8 0)), (.d (.int .u8 0)), (.d (.int .u8 0)), (.d (.int .u8 0)), (.d (.int .u8 0)), (.d (.int .u8 0)), (.d (.int .u8 0)), (.d (.int .u8 0))] σ fun a s =>
 zU [(.d (.int .u8 0)), (.d (.int .u8 0)), (.d (.int .u8 0)), (.d (.int .u8 0)), (.d (.int .u8 0)), (.d (.int .u8 0)), (.d (.int .u8 0)), (.d (.int .u8 0)), (.d (.int .u8 0)), (.d (.int .u8 0))] s fun b s =>
 zbx [x0, (iN 0)] s fun v s c =>
 zaR v fun d v => zaR v fun e v => bP .gtr d (.d (.int .u64 127)) s fun f s =>
 zr f (zab (.int .u8) d s fun g s =>
 bP .or g (.d (.int .u8 128)) s fun h s =>
 zI (some 10) 1 b e s fun i s =>
 zo 1 i h s fun _ s =>
 bP .shr d (.d (.int .u64 7)) s fun l s =>
 bP .add e (iN 1) s fun m s =>
 c [l, m] s) (zab (.int .u8) d s fun n s =>
 zI (some 10) 1 b e s fun o s =>
 zo 1 o n s fun _ s =>
 zl true 10 b s fun q s =>
 bP .add e (iN 1) s fun r s =>
 zo 10 a q s fun _ s =>
 Z (zM (zau a s true 10) (zM (some r) (some []))) s)
theorem e_codec_form : F1 Tryz.prog zhL zlZ := zh [.l [0, 5] [(6, 11)]] Tryz.func116
def zdS (P : Program) (x0 : AV) (σ : LO) (Z : ZT) : Prop :=
 zaD .sl x0 σ fun a s =>
 zaD .sl x0 s fun b s =>
 zcj (.sl 1) x0 none (some a) (some b) s fun c s =>
 z1 Z c s
theorem zdO : F1 Tryz.prog zcl zdS := zh [] Tryz.func117
def znP (P : Program) (x0 : AV) (σ : LO) (Z : ZT) : Prop :=
 zbr x0 σ fun a s =>
 fl 0 a s fun b s =>
 cA P zfS [b] s fun c s =>
 zc c 0 s fun d s =>
 zc c 1 s fun e s =>
 zc c 2 s fun f s =>
 zc c 3 s fun g s =>
 fl 0 a s fun h s =>
 bP .lss h (iN 0) s fun i s =>
 gFl i 0 a s fun j s =>
 gF i (bP .gtr j (iN 4) s) s fun l s =>
 orC i l s fun m s =>
 gFm m d s fun n s =>
 gF m (unC .not n s) s fun o s =>
 gFm m o s fun p s =>
 gTl p 1 a s fun q s =>
 gT p (bP .neq q (.d (.str [])) s) s fun r s =>
 gF m (anC p r s) s fun u s =>
 orC m u s fun w s =>
 gFm w e s fun y s =>
 gF w (unC .not y s) s fun z s =>
 gFm w z s fun A s =>
 gTl A 2 a s fun B s =>
 gT A (bP .neq B (.d (.str [])) s) s fun C s =>
 gF w (anC A C s) s fun D s =>
 orC w D s fun E s =>
 gFm E f s fun F s =>
 gF E (unC .not F s) s fun G s =>
 gFm E G s fun H s =>
 gTl H 3 a s fun I s =>
 gT H (bP .neq I (iN 0) s) s fun J s =>
 gF E (anC H J s) s fun K s =>
 orC E K s fun L s =>
 gFm L g s fun M s =>
 gF L (unC .not M s) s fun N s =>
 gFm L N s fun O s =>
 gTl O 4 a s fun Q s =>
 gT O (zaD .sl Q s) s fun R s =>
 gT O (bP .gtr R (iN 0) s) s fun S s =>
 gF L (anC O S s) s fun T s =>
 orC L T s fun U s =>
 zr U (z1 Z (iN 60) s) (gTl d 1 a s fun V s =>
 gT d (cA P zir [V] s) s fun W s =>
 gT d (unC .not W s) s fun X s =>
 anC d X s fun Y s =>
 gFm Y e s fun a0 s =>
 gFm Y a0 s fun b0 s =>
 gTl b0 2 a s fun c0 s =>
 gT b0 (cA P zir [c0] s) s fun d0 s =>
 gT b0 (unC .not d0 s) s fun e0 s =>
 gF Y (anC b0 e0 s) s fun f0 s =>
 orC Y f0 s fun g0 s =>
 zr g0 (z1 Z (iN 61) s) (gTl g 4 a s fun h0 s =>
 gT g (zaD .sl h0 s) s fun i0 s =>
 gT g (bP .lss i0 (iN 1) s) s fun j0 s =>
 gTm g j0 s fun l0 s =>
 gFl l0 4 a s fun m0 s =>
 gF l0 (zaD .sl m0 s) s fun o0 s =>
 gF l0 (bP .gtr o0 (iN 4) s) s fun p0 s =>
 gT g (orC l0 p0 s) s fun q0 s =>
 anC g q0 s fun r0 s =>
 zr r0 (z1 Z (iN 62) s) (zbx [(iN 0)] s fun v s u0 =>
 zaR v fun w0 v => fl 4 a s fun y0 s =>
 zaD .sl y0 s fun z0 s =>
 bP .lss w0 z0 s fun A0 s =>
 zr A0 (fl 4 a s fun B0 s =>
 il false 1 1 B0 w0 s fun C0 s =>
 zaD .sl C0 s fun D0 s =>
 bP .gtr D0 (iN 64) s fun E0 s =>
 zr E0 (z1 Z (iN 62) s) (bP .add w0 (iN 1) s fun F0 s =>
 u0 [F0] s)) (fl 3 a s fun G0 s =>
 bP .lss G0 (iN 0) s fun H0 s =>
 gFl H0 3 a s fun I0 s =>
 gF H0 (bP .gtr I0 (iN 9007199254740992) s) s fun J0 s =>
 orC H0 J0 s fun K0 s =>
 zr K0 (z1 Z (iN 60) s) (z1 Z (iN 0) s)))))
theorem e_r06_Check : F1 Tryz.prog zgP znP := zh [.l [7] [(2, 1), (90, 14)]] Tryz.func118
def zlV (P : Program) (x0 : AV) (σ : LO) (Z : ZT) : Prop :=
 bP .eql x0 (iN 1) σ fun a s =>
 zr a (Z (zM (some bT) (zM (some bF) (zM (some bF) (zM (some bF) (some []))))) s) (bP .eql x0 (iN 2) s fun b s =>
 zr b (Z (zM (some bT) (zM (some bF) (zM (some bF) (zM (some bT) (some []))))) s) (bP .eql x0 (iN 3) s fun c s =>
 zr c (Z (zM (some bT) (zM (some bT) (zM (some bT) (zM (some bF) (some []))))) s) (bP .eql x0 (iN 4) s fun d s =>
 zr d (Z (zM (some bT) (zM (some bF) (zM (some bT) (zM (some bF) (some []))))) s) (Z (zM (some bF) (zM (some bF) (zM (some bF) (zM (some bF) (some []))))) s))))
theorem e_r06_fields : F1 Tryz.prog zfS zlV := zh [] Tryz.func119
def zpf (P : Program) (x0 x1 : AV) (σ : LO) (Z : ZT) : Prop :=
 zab .toStr x0 σ fun a s =>
 zab .toStr x1 s fun b s =>
 bP .eql a b s fun c s =>
 z1 Z c s
theorem e_r02_Same : F2 Tryz.prog zkR zpf := zh [] Tryz.func120
def S_op_only (P : Program) (x0 : AV) (σ : LO) (Z : ZT) : Prop :=
 zbr x0 σ fun a s =>
 zU zl4 s fun b s =>
 fl 0 a s fun c s =>
 zB (zag zl4 [(0, 1, c)]) s fun d s =>
 cp zl4 5 d s fun e s =>
 (fun (f : LO → Prop) => fl 0 a s fun i s =>
 bP .eql i (iN 0) s fun j s =>
 zr j (f s) (bP .eql i (iN 1) s fun l s =>
 zr l (fl 1 a s fun m s =>
 zg 1 e s fun n s =>
 zo 1 n m s fun _ s =>
 f s) (bP .eql i (iN 2) s fun p s =>
 zr p (fl 1 a s fun q s =>
 zg 4 a s fun r s =>
 zl false 1 r s fun u s =>
 zg 1 e s fun w s =>
 zo 1 w q s fun _ t =>
 zT r s t ∧ (zg 4 e t fun z s =>
 zo 1 z u s fun _ s =>
 f s)) (bP .eql i (iN 3) s fun B s =>
 zr B (fl 1 a s fun C s =>
 zg 2 a s fun D s =>
 zl false 1 D s fun E s =>
 zg 3 a s fun F s =>
 zl false 1 F s fun G s =>
 zg 1 e s fun H s =>
 zo 1 H C s fun _ t =>
 zT D s t ∧ (zT F s t ∧ (zg 2 e t fun J s =>
 zo 1 J E s fun _ t =>
 zT F s t ∧ (zg 3 e t fun L s =>
 zo 1 L G s fun _ s =>
 f s)))) (bP .eql i (iN 4) s fun N s =>
 zr N (fl 1 a s fun O s =>
 zg 3 a s fun Q s =>
 zl false 1 Q s fun R s =>
 zg 1 e s fun S s =>
 zo 1 S O s fun _ t =>
 zT Q s t ∧ (zg 3 e t fun U s =>
 zo 1 U R s fun _ s =>
 f s)) (zl true 5 e s fun W s =>
 zo 5 b W s fun _ s =>
 Z (zM (zau b s true 5) (zM (some bF) (some []))) s))))))
 (fun  s => zl true 5 e s fun g s =>
 zo 5 b g s fun _ s =>
 Z (zM (zau b s true 5) (zM (some bT) (some []))) s)
theorem e_op_only : F1 Tryz.prog zmW S_op_only := zh [.d [(0, 8)] [(5, [22])], .d [(0, 12)] [(7, [30, 32]), (9, [32])], .d [(0, 8)] [(5, [41])]] Tryz.func132
def zlX (P : Program) (x0 : AV) (σ : LO) (Z : ZT) : Prop :=
 zaD .sl x0 σ fun a s =>
 bP .gtr a (iN 64) s fun b s =>
 z1 Z b s
theorem e_op_Check_1 : F1 Tryz.prog zfT zlX := zh [] Tryz.func133
def S_op_Name (P : Program) (x0 : AV) (σ : LO) (Z : ZT) : Prop :=
 cA P zkS [x0] σ fun a s =>
 bP .gtr a (iN 0) s fun b s =>
 z1 Z b s
theorem e_op_Name : F1 Tryz.prog zjS S_op_Name := zh [] Tryz.func134
def zaX (P : Program) (x0 x1 : AV) (σ : LO) (Z : ZT) : Prop :=
 cA P zbt [x0, x1] σ fun a s =>
 bP .geq a (iN 0) s fun b s =>
 z1 Z b s
theorem zcs : F2 Tryz.prog zay zaX := zh [] Tryz.func135
def zpe (P : Program) (x0 : AV) (σ : LO) (Z : ZT) : Prop :=
 cA P zjk [x0] σ fun a s =>
 bP .gtr a (iN 0) s fun b s =>
 z1 Z b s
theorem e_r06_Name : F1 Tryz.prog zir zpe := zh [] Tryz.func136
def zpg (P : Program) (x0 : AV) (σ : LO) (Z : ZT) : Prop :=
 zae x0 σ fun a s =>
 zbx [(iN 0)] s fun v s b =>
 zaR v fun c v => zjR a s fun d s =>
 zc d 0 s fun e s =>
 zr e (zc d 2 s fun f s =>
 bP .lss f (.d (.int .i32 33)) s fun g s =>
 gFm g f s fun h s =>
 gF g (bP .geq h (.d (.int .i32 127)) s) s fun i s =>
 gFm g i s fun j s =>
 gTm j f s fun l s =>
 gT j (bP .leq l (.d (.int .i32 159)) s) s fun m s =>
 gF g (anC j m s) s fun n s =>
 orC g n s fun o s =>
 gFm o f s fun p s =>
 gF o (bP .eql p (.d (.int .i32 47)) s) s fun q s =>
 orC o q s fun r s =>
 gFm r f s fun u s =>
 gF r (bP .eql u (.d (.int .i32 65533)) s) s fun w s =>
 orC r w s fun y s =>
 zr y (z1 Z (iN 0) s) (bP .add c (iN 1) s fun z s =>
 b [z] s)) (bP .gtr c (iN 16) s fun A s =>
 zr A (z1 Z (iN 0) s) (z1 Z c s))
theorem e_op_Runes : F1 Tryz.prog zkS zpg := zh [.l [3] [(2, 1), (5, 1), (8, 23)]] Tryz.func143
end Go.Proofs.YtjjchfbckfopkaaGreat
