/- The conditions of each function, its slots as variables, and that the logic's conditions are these. Printed by program. -/
import Derived.Test.YtjjchfbckfopkaaGreatNm
import Derived.KernelRfl
set_option linter.all false
set_option maxRecDepth 100000
set_option linter.unusedVariables false
namespace Go.Proofs.YtjjchfbckfopkaaGreat
open Go.AW
def zeR (P : Program) (x0 : AV) (σ : LO) (Z : ZT) : Prop :=
 zaA .sl x0 σ fun a s =>
 bP .gtr a (iN 4) s fun b s =>
 zt b (z1 Z (iN 3) s) (zaA .sl x0 s fun c s =>
 zbA [(iN 0)] s fun v s d =>
 zaO v fun e v => bP .lss e c s fun f s =>
 zt f (il true 9 9 x0 e s fun g s =>
 cp zl2 9 g s fun h s =>
 zf 0 h s fun i s =>
 zj true 7 i s fun j s =>
 cA P zdv [j] s fun l s =>
 bP .neq l (iN 0) s fun m s =>
 zt m (z1 Z l s) (zf 7 h s fun n s =>
 zj true 2 n s fun o s =>
 cA P zch [o] s fun p s =>
 bP .neq p (iN 0) s fun q s =>
 zt q (z1 Z p s) (bP .add e (iN 1) s fun r s =>
 d [r] s))) (zaA .sl x0 s fun u s =>
 zbA [(iN 0)] s fun v s w =>
 zaO v fun y v => bP .lss y u s fun z s =>
 zt z (il true 9 9 x0 y s fun A s =>
 zX zl2 s fun B s =>
 zq 9 B A s fun _ s =>
 zct (.sl 9) x0 none (some y) none s fun D s =>
 zaA .sl D s fun E s =>
 zbA [(iN 0)] s fun v s F =>
 zaO v fun G v => bP .lss G E s fun H s =>
 zt H (il true 9 9 D G s fun I s =>
 cp zl2 9 I s fun J s =>
 zf 0 B s fun K s =>
 fl 0 K s fun L s =>
 zf 0 J s fun M s =>
 fl 0 M s fun N s =>
 bP .eql L N s fun O s =>
 gT O (zf 0 B s) s fun Q s =>
 gTl O 1 Q s fun R s =>
 gT O (zf 0 J s) s fun S s =>
 gTl O 1 S s fun T s =>
 gT O (bP .eql R T s) s fun U s =>
 anC O U s fun V s =>
 zt V (z1 Z (iN 5) s) (bP .add G (iN 1) s fun W s =>
 F [W] s)) (bP .add y (iN 1) s fun X s =>
 w [X] s)) (z1 Z (iN 0) s)))
theorem zir : F1 Tryz.prog zbV zeR := zg [.l [16] [(2, 1), (4, 3), (17, 16)], .l [35] [(2, 1), (7, 2), (10, 1), (36, 30)], .l [44] [(2, 1), (10, 1), (45, 20)]] Tryz.func58
def zaW (P : Program) (x0 x1 : AV) (σ : LO) (Z : ZT) : Prop :=
 cA P zaH [x0, x1] σ fun a s =>
 bP .geq a (iN 0) s fun b s =>
 z1 Z b s
theorem zcp : F2 Tryz.prog zay zaW := zg [] Tryz.func59
def zdT (P : Program) (x0 x1 x2 : AV) (σ : LO) (Z : ZT) : Prop :=
 zbd x0 σ fun a s =>
 zj false 1 x1 s fun b s =>
 zj false 1 x2 s fun c s =>
 zj true 9 a s fun d s =>
 cA P zfe [b, c, d] s fun e s =>
 unC .not e s fun f s =>
 z1 Z f s
theorem zhi : F3 Tryz.prog zdQ zdT := zg [] Tryz.func60
def zhI (P : Program) (x0 x1 x2 : AV) (σ : LO) (Z : ZT) : Prop :=
 zbd x2 σ fun a s =>
 zf 0 a s fun b s =>
 zj true 7 b s fun c s =>
 cA P zdw [c] s fun d s =>
 zd d 0 s fun e s =>
 zd d 1 s fun f s =>
 bP .neq f (iN 0) s fun g s =>
 zt g (z1 Z bF s) (cA P zbv [x0, e] s fun h s =>
 zd h 0 s fun i s =>
 zd h 1 s fun j s =>
 gT j (zf 7 a s) s fun l s =>
 gT j (zj true 2 l s) s fun m s =>
 gT j (zf 0 a s) s fun n s =>
 gTl j 0 n s fun o s =>
 gTm j i s fun p s =>
 gT j (cA P zgw [o] s) s fun q t =>
 zT l s t ∧ (gT j (zD (zai [iN 0, iN 0] [(0, 1, q), (1, 1, p)]) t) t fun r s =>
 gT j (zcm .eql (.ints 2) m r s) s fun u s =>
 anC j u s fun w s =>
 gTm w x1 s fun y s =>
 gT w (zf 7 a s) s fun z s =>
 gT w (zj true 2 z s) s fun A s =>
 gT w (cA P zbO [y, A] s) s fun B s =>
 anC w B s fun C s =>
 z1 Z C s))
theorem zmX : F3 Tryz.prog zfe zhI := zg [.d [(0, 7), (8, 1), (7, 1), (9, 10)] [(7, [27])]] Tryz.func61
def zkc (P : Program) (x0 : AV) (σ : LO) (Z : ZT) : Prop :=
 zal false x0 σ fun a s =>
 zt a (z1 Z eN s) (zn false 1 0 (zai (rep [(.d (.int .u8 0))] 0) []) s fun b s =>
 zr 1 1 b x0 s fun c s =>
 z1 Z c s)
theorem zjM : F1 Tryz.prog zck zkc := zg [] Tryz.func62
def zfq (P : Program) (x0 x1 : AV) (σ : LO) (Z : ZT) : Prop :=
 zaA .sl x0 σ fun a s =>
 zY (.int .u64) a s fun b s =>
 cA P zaz [x1, b] s fun c s =>
 zaA .sl x0 s fun d s =>
 zbA [c, (iN 0)] s fun v s e =>
 zaO v fun f v => zaO v fun g v => bP .lss g d s fun h s =>
 zt h (il true 9 9 x0 g s fun i s =>
 cp zl2 9 i s fun j s =>
 zf 0 j s fun l s =>
 zj true 7 l s fun m s =>
 cA P zdw [m] s fun n s =>
 zd n 0 s fun o s =>
 zd n 1 s fun _ s =>
 zf 7 j s fun q s =>
 zj true 2 q s fun r s =>
 cA P zbJ [f, o] s fun u t =>
 zT q s t ∧ (cA P zdW [u, r] t fun w s =>
 bP .add g (iN 1) s fun y s =>
 e [w, y] s)) (z1 Z f s)
theorem ziV : F2 Tryz.prog zdi zfq := zg [.l [1, 16] [(6, 3), (17, 16)], .d [(0, 2), (3, 2), (2, 1), (5, 2)] [(2, [29])]] Tryz.func63
def zka (P : Program) (x0 x1 : AV) (σ : LO) (Z : ZT) : Prop :=
 cA P zcV [x0] σ fun a s =>
 bP .eql a (iN 0) s fun b s =>
 gTm b x1 s fun c s =>
 gT b (bP .geq c (iN 0) s) s fun d s =>
 anC b d s fun e s =>
 gTm e x1 s fun f s =>
 gT e (bP .leq f (iN 9007199254740992) s) s fun g s =>
 anC e g s fun h s =>
 z1 Z h s
theorem zpE : F2 Tryz.prog zgC zka := zg [] Tryz.func64
def znB (P : Program) (x0 x1 : AV) (σ : LO) (Z : ZT) : Prop :=
 cA P zci [x0] σ fun a s =>
 zcm .neq .ptr a (.d .nilp) s fun b s =>
 gTm b x1 s fun c s =>
 gT b (cA P zbW [c] s) s fun d s =>
 gT b (zcm .neq .ptr d (.d .nilp) s) s fun e s =>
 anC b e s fun f s =>
 z1 Z f s
theorem e_auth_made : F2 Tryz.prog ziQ znB := zg [] Tryz.func65
def zoW (P : Program) (x0 x1 x2 x3 : AV) (σ : LO) (Z : ZT) : Prop :=
 zn false 1 4 (zai (rep [iN 0] 4) [(0, 1, x0), (1, 1, x1), (2, 1, x2), (3, 1, x3)]) σ fun a s =>
 zaA .sl a s fun b s =>
 zbA [(iN 0)] s fun v s c =>
 zaO v fun d v => bP .lss d b s fun e s =>
 zt e (il false 1 1 a d s fun f s =>
 bP .lss f (iN 0) s fun g s =>
 gFm g f s fun h s =>
 gF g (bP .gtr h (iN 9007199254740992) s) s fun i s =>
 orC g i s fun j s =>
 zt j (z1 Z bF s) (bP .add d (iN 1) s fun l s =>
 c [l] s)) (z1 Z bT s)
theorem e_auth_may : F4 Tryz.prog zkw zoW := zg [.l [17] [(8, 1), (10, 1), (18, 10)]] Tryz.func66
def zkd (P : Program) (x0 x1 x2 x3 x4 : AV) (σ : LO) (Z : ZT) : Prop :=
 zbd x2 σ fun a s =>
 cA P zbv [x0, x4] s fun b s =>
 zd b 0 s fun c s =>
 zd b 1 s fun d s =>
 gT d (zj true 2 a s) s fun e s =>
 gTm d x3 s fun f s =>
 gTm d c s fun g s =>
 gT d (zD (zai [iN 0, iN 0] [(0, 1, f), (1, 1, g)]) s) s fun h s =>
 gT d (zcm .eql (.ints 2) e h s) s fun i s =>
 anC d i s fun j s =>
 gTm j x1 s fun l s =>
 gT j (zj true 2 a s) s fun m s =>
 gT j (cA P zbO [l, m] s) s fun n s =>
 anC j n s fun o s =>
 z1 Z o s
theorem zpG : F5 Tryz.prog zgF zkd := zg [] Tryz.func67
def zhc (P : Program) (x0 x1 x2 x3 : AV) (σ : LO) (Z : ZT) : Prop :=
 m1 1 [(.d (.int .u8 0))] (.d (.int .u8 4)) σ fun a s =>
 zn false 1 4 (zai (rep [iN 0] 4) [(0, 1, x0), (1, 1, x1), (2, 1, x2), (3, 1, x3)]) s fun b s =>
 cA P zkv [a, b] s fun c s =>
 z1 Z c s
theorem zlW : F4 Tryz.prog zeG zhc := zg [] Tryz.func68
def ziI (P : Program) (x0 x1 : AV) (σ : LO) (Z : ZT) : Prop :=
 cA P zcV [x1] σ fun a s =>
 bP .neq a (iN 0) s fun b s =>
 zt b (z1 Z (iN 0) s) (bP .mul x0 x1 s fun c s =>
 bP .add c (iN 1) s fun d s =>
 z1 Z d s)
theorem znR : F2 Tryz.prog zfS ziI := zg [] Tryz.func69
def zat (P : Program) (x0 x1 x2 : AV) (σ : LO) (Z : ZT) : Prop :=
 zaA .sl x0 σ fun a s =>
 zaA .sl x1 s fun b s =>
 bP .neq a b s fun c s =>
 zt c (z1 Z bF s) (zaA .sl x0 s fun d s =>
 zbA [(iN 0)] s fun v s e =>
 zaO v fun f v => bP .lss f d s fun g s =>
 zt g (il true 9 9 x0 f s fun h s =>
 zX zl2 s fun i s =>
 zq 9 i h s fun _ s =>
 il true 9 9 x1 f s fun l s =>
 cp zl2 9 l s fun m s =>
 zj true 9 i s fun n s =>
 zj true 9 m s fun o s =>
 zak P x2 [dm n, dm o] s fun p s =>
 unC .not p s fun q s =>
 zt q (z1 Z bF s) (bP .add f (iN 1) s fun r s =>
 e [r] s)) (z1 Z bT s))
theorem zbb : F3 Tryz.prog zW zat := zg [.l [17] [(6, 4), (18, 14)]] Tryz.func70
def zgR (P : Program) (x0 x1 : AV) (σ : LO) (Z : ZT) : Prop :=
 zbd x0 σ fun a s =>
 zbd x1 s fun b s =>
 zf 7 a s fun c s =>
 zj true 2 c s fun d s =>
 zf 7 b s fun e s =>
 zj true 2 e s fun f s =>
 zcm .eql (.ints 2) d f s fun g s =>
 gT g (zf 0 a s) s fun h s =>
 gTl g 0 h s fun i s =>
 gT g (zf 0 b s) s fun j s =>
 gTl g 0 j s fun l s =>
 gT g (bP .eql i l s) s fun m s =>
 anC g m s fun n s =>
 gT n (zf 0 a s) s fun o s =>
 gTl n 1 o s fun p s =>
 gT n (zf 0 b s) s fun q s =>
 gTl n 1 q s fun r s =>
 gT n (bP .eql p r s) s fun u s =>
 anC n u s fun w s =>
 gT w (zf 0 a s) s fun y s =>
 gT w (zf 2 y s) s fun z s =>
 gT w (zj true 5 z s) s fun A s =>
 gT w (zf 0 b s) s fun B s =>
 gT w (zf 2 B s) s fun C s =>
 gT w (zj true 5 C s) s fun D s =>
 gT w (cA P zjy [A, D] s) s fun E s =>
 anC w E s fun F s =>
 z1 Z F s
theorem zlO : F2 Tryz.prog zcZ zgR := zg [] Tryz.func71
def S_op_Same (P : Program) (x0 x1 : AV) (σ : LO) (Z : ZT) : Prop :=
 zbd x0 σ fun a s =>
 zbd x1 s fun b s =>
 fl 0 a s fun c s =>
 fl 0 b s fun d s =>
 bP .eql c d s fun e s =>
 gTl e 1 a s fun f s =>
 gTl e 1 b s fun g s =>
 gT e (bP .eql f g s) s fun h s =>
 anC e h s fun i s =>
 gTl i 2 a s fun j s =>
 gTl i 2 b s fun l s =>
 gT i (bP .eql j l s) s fun m s =>
 anC i m s fun n s =>
 gTl n 3 a s fun o s =>
 gTl n 3 b s fun p s =>
 gT n (bP .eql o p s) s fun q s =>
 anC n q s fun r s =>
 gTl r 4 a s fun u s =>
 gTl r 4 b s fun w s =>
 gT r (cA P zR [u, w, (.fn (.func zgD) [] [])] s) s fun y s =>
 anC r y s fun z s =>
 z1 Z z s
theorem e_op_Same : F2 Tryz.prog zjy S_op_Same := zg [] Tryz.func72
def zgp (P : Program) (x0 x1 : AV) (σ : LO) (Z : ZT) : Prop :=
 zbd x0 σ fun a s =>
 zbd x1 s fun b s =>
 fl 0 a s fun c s =>
 fl 0 b s fun d s =>
 bP .eql c d s fun e s =>
 gTl e 1 a s fun f s =>
 gTl e 1 b s fun g s =>
 gT e (bP .eql f g s) s fun h s =>
 anC e h s fun i s =>
 gT i (zf 2 a s) s fun j s =>
 gT i (zj true 5 j s) s fun l s =>
 gT i (zf 2 b s) s fun m s =>
 gT i (zj true 5 m s) s fun n s =>
 gT i (cA P zkq [l, n] s) s fun o s =>
 anC i o s fun p s =>
 z1 Z p s
theorem zkL : F2 Tryz.prog zdX zgp := zg [] Tryz.func73
def znw (P : Program) (x0 : AV) (σ : LO) (Z : ZT) : Prop :=
 zbd x0 σ fun a s =>
 zj true 7 a s fun b s =>
 cA P zgz [b] s fun c s =>
 bP .neq c (iN 0) s fun d s =>
 zt d (z2 Z eN c s) (fl 0 a s fun e s =>
 zY (.int .u64) e s fun f s =>
 cA P zaV [eN, f] s fun g s =>
 fl 1 a s fun h s =>
 zY (.int .u64) h s fun i s =>
 cA P zaV [g, i] s fun j s =>
 zf 2 a s fun l s =>
 zj true 5 l s fun m s =>
 cA P zmE [j, m] s fun n s =>
 z2 Z n (iN 0) s)
theorem e_r08_Bytes : F1 Tryz.prog zgA znw := zg [] Tryz.func74
def zgq (P : Program) (x0 x1 x2 : AV) (σ : LO) (Z : ZT) : Prop :=
 zX [iN 0, iN 0] σ fun a s =>
 bP .lss x1 (iN 0) s fun b s =>
 gFm b x1 s fun c s =>
 gF b (bP .geq c (iN 21) s) s fun d s =>
 orC b d s fun e s =>
 zt e (zD (zai [iN 0, iN 0] []) s fun f s =>
 zq 2 a f s fun _ s =>
 Z (zP (zaC a s true 2) (zP (some (iN 20)) (some []))) s) (bP .lss x2 (iN 1) s fun h s =>
 zt h (zD (zai [iN 0, iN 0] []) s fun i s =>
 zq 2 a i s fun _ s =>
 Z (zP (zaC a s true 2) (zP (some (iN 1)) (some []))) s) (zD (zai [iN 0, iN 0] [(0, 1, x1), (1, 1, x2)]) s fun l s =>
 cp [iN 0, iN 0] 2 l s fun m s =>
 (fun (n : LO → Prop) => zj true 2 m s fun q s =>
 cA P zdj [x0, q] s fun r s =>
 unC .not r s fun u s =>
 zt u (nfl 0 x0 s fun w s =>
 zj true 2 m s fun y s =>
 m1 2 [iN 0, iN 0] y s fun z s =>
 zr 2 16 eN w s fun A t =>
 zT m s t ∧ (zr 2 16 A z t fun B s =>
 zbI x0 s fun C s =>
 zf 0 C s fun D s =>
 zq 1 D B s fun _ s =>
 n s)) (n s))
 (fun  s => zj true 2 m s fun o s =>
 zq 2 a o s fun _ s =>
 Z (zP (zaC a s true 2) (zP (some (iN 0)) (some []))) s)))
theorem zgi : F3 Tryz.prog zcF zgq := zg [.d [(0, 5), (6, 2), (5, 1), (8, 4)] [(5, [8])]] Tryz.func75
def S_r08_Key (P : Program) (x0 : AV) (σ : LO) (Z : ZT) : Prop :=
 bP .lss x0 (iN 0) σ fun a s =>
 gFm a x0 s fun b s =>
 gF a (bP .geq b (iN 8) s) s fun c s =>
 orC a c s fun d s =>
 zt d (z1 Z (iN (-1)) s) (bP .add (iN 13) x0 s fun e s =>
 z1 Z e s)
theorem e_r08_Key : F1 Tryz.prog zht S_r08_Key := zg [] Tryz.func76
def zhQ (P : Program) (x0 x1 : AV) (σ : LO) (Z : ZT) : Prop :=
 cA P zeD [x0, x1] σ fun a s =>
 zd a 0 s fun b s =>
 zd a 1 s fun c s =>
 zt c (z1 Z b s) (nfl 0 x0 s fun d s =>
 zaA .sl d s fun e s =>
 bP .geq e (iN 1048576) s fun f s =>
 zt f (z1 Z (iN 0) s) (nfl 0 x0 s fun g s =>
 zr 1 24 eN g s fun h s =>
 zr 1 1 eN x1 s fun i s =>
 m1 1 [eN] i s fun j s =>
 zr 1 24 h j s fun l s =>
 zbI x0 s fun m s =>
 zf 0 m s fun n s =>
 zq 1 n l s fun _ s =>
 nfl 0 x0 s fun p s =>
 zaA .sl p s fun q s =>
 z1 Z q s))
theorem zhA : F2 Tryz.prog zcA zhQ := zg [] Tryz.func77
def zgS (P : Program) (x0 : AV) (σ : LO) (Z : ZT) : Prop :=
 zaA .sl x0 σ fun a s =>
 bP .gtr a (iN 4) s fun b s =>
 zt b (z1 Z (iN 3) s) (zbA [(iN 0)] s fun v s c =>
 zaO v fun d v => zaA .sl x0 s fun e s =>
 bP .lss d e s fun f s =>
 zt f (zJ none 9 x0 d s fun g s =>
 zf 0 g s fun h s =>
 zj true 7 h s fun i s =>
 cA P zgz [i] s fun j s =>
 bP .neq j (iN 0) s fun l s =>
 zt l (z1 Z j s) (zJ none 9 x0 d s fun m s =>
 zf 7 m s fun n s =>
 zj true 2 n s fun o s =>
 cA P zdy [o] s fun p s =>
 bP .neq p (iN 0) s fun q s =>
 zt q (z1 Z p s) (bP .add d (iN 1) s fun r s =>
 c [r] s))) (zbA [(iN 0)] s fun v s u =>
 zaO v fun w v => zaA .sl x0 s fun y s =>
 bP .lss w y s fun z s =>
 zt z (zbA [(iN 0)] s fun v s A =>
 zaO v fun B v => bP .lss B w s fun C s =>
 zt C (zJ none 9 x0 w s fun D s =>
 zf 0 D s fun E s =>
 fl 0 E s fun F s =>
 zJ none 9 x0 B s fun G s =>
 zf 0 G s fun H s =>
 fl 0 H s fun I s =>
 bP .eql F I s fun J s =>
 gTm J x0 s fun K s =>
 gTm J w s fun L s =>
 gT J (zJ none 9 K L s) s fun M s =>
 gT J (zf 0 M s) s fun N s =>
 gTl J 1 N s fun O s =>
 gTm J x0 s fun Q s =>
 gTm J B s fun R s =>
 gT J (zJ none 9 Q R s) s fun S s =>
 gT J (zf 0 S s) s fun T s =>
 gTl J 1 T s fun U s =>
 gT J (bP .eql O U s) s fun V s =>
 anC J V s fun W s =>
 zt W (z1 Z (iN 5) s) (bP .add B (iN 1) s fun X s =>
 A [X] s)) (bP .add w (iN 1) s fun Y s =>
 u [Y] s)) (z1 Z (iN 0) s)))
theorem zlP : F1 Tryz.prog zda zgS := zg [.l [3] [(2, 1), (4, 2), (11, 24)], .l [6] [(2, 1), (7, 1), (35, 39)], .l [7] [(2, 1), (41, 33)], .d [(0, 28)] []] Tryz.func78
def ziG (P : Program) (x0 x1 : AV) (σ : LO) (Z : ZT) : Prop :=
 cA P zda [x1] σ fun a s =>
 bP .neq a (iN 0) s fun b s =>
 zt b (z1 Z x0 s) (zaA .sl x1 s fun c s =>
 zY (.int .u64) c s fun d s =>
 cA P zaV [x0, d] s fun e s =>
 zbA [e, (iN 0)] s fun v s f =>
 zaO v fun g v => zaO v fun h v => zaA .sl x1 s fun i s =>
 bP .lss h i s fun j s =>
 zt j (zJ none 9 x1 h s fun l s =>
 zf 0 l s fun m s =>
 zj true 7 m s fun n s =>
 cA P zgA [n] s fun o s =>
 zd o 0 s fun p s =>
 zd o 1 s fun _ s =>
 zJ none 9 x1 h s fun r s =>
 zf 7 r s fun u s =>
 zj true 2 u s fun w s =>
 cA P zcr [g, p] s fun y t =>
 zT u s t ∧ (cA P zgy [y, w] t fun z s =>
 bP .add h (iN 1) s fun A s =>
 f [z, A] s)) (z1 Z g s))
theorem znQ : F2 Tryz.prog zfR ziG := zg [.l [0, 5] [(6, 2), (17, 24)], .d [(0, 2), (3, 5), (2, 1), (8, 2)] [(2, [38])]] Tryz.func79
def S_r11_may (P : Program) (x0 x1 x2 x3 : AV) (σ : LO) (Z : ZT) : Prop :=
 cA P zgd [x0] σ fun a s =>
 gTm a x1 s fun b s =>
 gT a (cA P zgd [b] s) s fun c s =>
 anC a c s fun d s =>
 gTm d x2 s fun e s =>
 gT d (cA P zgd [e] s) s fun f s =>
 anC d f s fun g s =>
 gTm g x3 s fun h s =>
 gT g (cA P zgd [h] s) s fun i s =>
 anC g i s fun j s =>
 z1 Z j s
theorem e_r11_may : F4 Tryz.prog zmD S_r11_may := zg [] Tryz.func80
def zoJ (P : Program) (x0 x1 x2 x3 : AV) (σ : LO) (Z : ZT) : Prop :=
 zX [iN 0, iN 0] σ fun a s =>
 cA P zcA [x0, x3] s fun b s =>
 bP .eql b (iN 0) s fun c s =>
 zt c (zD (zai [iN 0, iN 0] []) s fun d s =>
 zq 2 a d s fun _ s =>
 Z (zP (zaC a s true 2) (zP (some (iN 6)) (some []))) s) (cA P zcF [x1, x2, b] s fun f s =>
 zd f 0 s fun g s =>
 zd f 1 s fun h s =>
 zq 2 a g s fun _ s =>
 Z (zP (zaC a s true 2) (zP (some h) (some []))) s)
theorem e_r11_sign : F4 Tryz.prog zkn zoJ := zg [] Tryz.func81
def zhO (P : Program) (x0 x1 x2 x3 : AV) (σ : LO) (Z : ZT) : Prop :=
 m1 1 [(.d (.int .u8 0))] (.d (.int .u8 4)) σ fun a s =>
 cA P zgc [a, x0] s fun b s =>
 cA P zgc [b, x1] s fun c s =>
 cA P zgc [c, x2] s fun d s =>
 cA P zgc [d, x3] s fun e s =>
 z1 Z e s
theorem znd : F4 Tryz.prog zfh zhO := zg [] Tryz.func82
def zoS (P : Program) (x0 : AV) (σ : LO) (Z : ZT) : Prop :=
 zbd x0 σ fun a s =>
 zX zl3 s fun b s =>
 fl 4 a s fun c s =>
 zaA .sl c s fun d s =>
 zbA [eN, (iN 0)] s fun v s e =>
 zaO v fun f v => zaO v fun g v => bP .lss g d s fun h s =>
 zt h (il false 1 1 c g s fun i s =>
 cA P zck [i] s fun j s =>
 m1 1 [eN] j s fun l s =>
 zr 1 24 f l s fun m s =>
 bP .add g (iN 1) s fun n s =>
 e [m, n] s) (zf 4 a s fun o s =>
 zq 1 o f s fun _ s =>
 zj true 5 a s fun q s =>
 zq 5 b q s fun _ s =>
 Z (zP (zaC b s true 5) (some [])) s)
theorem e_op_Clone : F1 Tryz.prog zkt zoS := zg [.l [3, 9] [(5, 1), (10, 9)]] Tryz.func83
def zdH (P : Program) (x0 : AV) (σ : LO) (Z : ZT) : Prop :=
 zp P zbi [eN, x0] σ fun a s =>
 z1 Z a s
theorem zdD : F1 Tryz.prog zcs zdH := zpw [] Tryz.func84
def zby (P : Program) (x0 x1 : AV) (σ : LO) (Z : ZT) : Prop :=
 zj false 1 x1 σ fun a s =>
 zhq a s fun b s =>
 zbA [] s fun v s c =>
 zle b s fun d s =>
 zd d 0 s fun e s =>
 zt e (zhy b s fun f s =>
 zd f 0 s fun g s =>
 zak P x0 [dm g] s fun h s =>
 unC .not h s fun i s =>
 zt i (Z (some []) s) (c [] s)) (Z (some []) s)
theorem zbx : F2 Tryz.prog zL zby := zg [.l [] [(3, 1), (6, 8)]] Tryz.func86
def zhK (P : Program) (x0 : AV) (σ : LO) (Z : ZT) : Prop :=
 zbd x0 σ fun a s =>
 fl 0 a s fun b s =>
 bP .lss b (iN 0) s fun c s =>
 gFl c 0 a s fun d s =>
 gF c (bP .geq d (iN 8) s) s fun e s =>
 orC c e s fun f s =>
 gFl f 1 a s fun g s =>
 gF f (bP .lss g (iN 1) s) s fun h s =>
 orC f h s fun i s =>
 gFl i 1 a s fun j s =>
 gF i (bP .gtr j (iN 9007199254740992) s) s fun l s =>
 orC i l s fun m s =>
 zt m (z1 Z (iN 80) s) (zf 2 a s fun n s =>
 zj true 5 n s fun o s =>
 cA P zid [o] s fun p s =>
 z1 Z p s)
theorem zmZ : F1 Tryz.prog zdv zhK := zg [] Tryz.func87
def zfr (P : Program) (x0 : AV) (σ : LO) (Z : ZT) : Prop :=
 zbd x0 σ fun a s =>
 fl 0 a s fun b s =>
 bP .lss b (iN 0) s fun c s =>
 gFl c 0 a s fun d s =>
 gF c (bP .geq d (iN 21) s) s fun e s =>
 orC c e s fun f s =>
 gFl f 1 a s fun g s =>
 gF f (bP .lss g (iN 1) s) s fun h s =>
 orC f h s fun i s =>
 gFl i 1 a s fun j s =>
 gF i (bP .gtr j (iN 9007199254740992) s) s fun l s =>
 orC i l s fun m s =>
 zt m (z1 Z (iN 81) s) (z1 Z (iN 0) s)
theorem ziW : F1 Tryz.prog zch zfr := zg [] Tryz.func88
def zbu (P : Program) (x0 x1 : AV) (σ : LO) (Z : ZT) : Prop :=
 zaA .sl x0 σ fun a s =>
 zbA [(iN 0)] s fun v s b =>
 zaO v fun c v => bP .lss c a s fun d s =>
 zt d (il true 9 9 x0 c s fun e s =>
 zak P x1 [dm e] s fun f s =>
 zt f (z1 Z c s) (bP .add c (iN 1) s fun g s =>
 b [g] s)) (z1 Z (iN (-1)) s)
theorem zcC : F2 Tryz.prog zaH zbu := zg [.l [8] [(4, 2), (9, 10)]] Tryz.func89
def zhL (P : Program) (x0 : AV) (σ : LO) (Z : ZT) : Prop :=
 zbd x0 σ fun a s =>
 zj true 7 a s fun b s =>
 cA P zdv [b] s fun c s =>
 bP .neq c (iN 0) s fun d s =>
 zt d (z2 Z eN c s) (fl 0 a s fun e s =>
 zY (.int .u64) e s fun f s =>
 zf 1 a s fun g s =>
 zj false 1 g s fun h s =>
 zY (.int .u64) h s fun i s =>
 zf 2 a s fun j s =>
 zj true 5 j s fun l s =>
 cA P zaz [eN, f] s fun m t =>
 zT g s t ∧ (zT j s t ∧ (cA P zaz [m, i] t fun n s =>
 zT j t s ∧ (cA P zpp [n, l] s fun o s =>
 z2 Z o (iN 0) s))))
theorem zna : F1 Tryz.prog zdw zhL := zg [.d [(0, 3), (4, 3), (8, 2), (3, 1), (7, 1), (10, 3)] [(3, [14, 18]), (7, [18])]] Tryz.func90
def zjX (P : Program) (x0 : AV) (σ : LO) (Z : ZT) : Prop :=
 bP .lss x0 (iN 0) σ fun a s =>
 gFm a x0 s fun b s =>
 gF a (bP .geq b (iN 8) s) s fun c s =>
 orC a c s fun d s =>
 zt d (z1 Z (iN (-1)) s) (bP .add (iN 13) x0 s fun e s =>
 z1 Z e s)
theorem zpB : F1 Tryz.prog zgw zjX := zg [] Tryz.func91
def zeB (P : Program) (x0 x1 : AV) (σ : LO) (Z : ZT) : Prop :=
 zbd x1 σ fun a s =>
 cA P zbF [x0] s fun b s =>
 unC .not b s fun c s =>
 gTm c x0 s fun d s =>
 gT c (zbI d s) s fun e s =>
 gTl c 1 e s fun f s =>
 gT c (zj true 2 a s) s fun g s =>
 gT c (zaG (.ints 2) false bF f g s) s fun h s =>
 anC c h s fun i s =>
 z1 Z i s
theorem zhC : F2 Tryz.prog zbO zeB := zg [.d [(0, 12)] []] Tryz.func92
def ziL (P : Program) (x0 x1 : AV) (σ : LO) (Z : ZT) : Prop :=
 cA P zhw [x1] σ fun a s =>
 zd a 0 s fun b s =>
 zd a 1 s fun c s =>
 cp [(.d (.int .u8 0)), (.d (.int .u8 0)), (.d (.int .u8 0)), (.d (.int .u8 0)), (.d (.int .u8 0)), (.d (.int .u8 0)), (.d (.int .u8 0)), (.d (.int .u8 0)), (.d (.int .u8 0)), (.d (.int .u8 0))] 10 b s fun d s =>
 zct (.arr 10 1) d none (some c) none s fun e s =>
 cA P zcg [x0] s fun f s =>
 zr 1 1 f e s fun g s =>
 z1 Z g s
theorem ziB : F2 Tryz.prog zaz ziL := zg [.d [(0, 1), (2, 2), (1, 1), (4, 2)] []] Tryz.func93
def zgo (P : Program) (x0 x1 : AV) (σ : LO) (Z : ZT) : Prop :=
 zbd x1 σ fun a s =>
 zj true 2 a s fun b s =>
 cA P zch [b] s fun c s =>
 bP .neq c (iN 0) s fun d s =>
 zt d (cA P zck [x0] s fun e s =>
 z1 Z e s) (fl 0 a s fun f s =>
 zY (.int .u64) f s fun g s =>
 zf 1 a s fun h s =>
 zj false 1 h s fun i s =>
 zY (.int .u64) i s fun j s =>
 cA P zaz [x0, g] s fun l t =>
 zT h s t ∧ (cA P zaz [l, j] t fun m s =>
 z1 Z m s))
theorem zkK : F2 Tryz.prog zdW zgo := zg [.d [(0, 4), (5, 3), (4, 1), (8, 2)] [(4, [15])]] Tryz.func94
def zhb (P : Program) (x0 x1 : AV) (σ : LO) (Z : ZT) : Prop :=
 zaA .sl x1 σ fun a s =>
 zY (.int .u64) a s fun b s =>
 cA P zaz [x0, b] s fun c s =>
 zr 1 1 c x1 s fun d s =>
 z1 Z d s
theorem zgN : F2 Tryz.prog zbJ zhb := zg [] Tryz.func95
def zoV (P : Program) (x0 x1 : AV) (σ : LO) (Z : ZT) : Prop :=
 zaA .sl x1 σ fun a s =>
 zbA [x0, (iN 0)] s fun v s b =>
 zaO v fun c v => zaO v fun d v => bP .lss d a s fun e s =>
 zt e (il false 1 1 x1 d s fun f s =>
 zcE [(iN 0), f] s fun g s =>
 zY (.int .u64) g s fun h s =>
 cA P zaz [c, h] s fun i s =>
 bP .add d (iN 1) s fun j s =>
 b [i, j] s) (z1 Z c s)
theorem e_auth_put : F2 Tryz.prog zkv zoV := zg [.l [0, 9] [(6, 1), (10, 9)]] Tryz.func96
def zap (P : Program) (x0 x1 x2 : AV) (σ : LO) (Z : ZT) : Prop :=
 zaA .sl x0 σ fun a s =>
 zaA .sl x1 s fun b s =>
 bP .neq a b s fun c s =>
 zt c (z1 Z bF s) (zaA .sl x0 s fun d s =>
 zbA [(iN 0)] s fun v s e =>
 zaO v fun f v => bP .lss f d s fun g s =>
 zt g (il false 1 1 x0 f s fun h s =>
 il false 1 1 x1 f s fun i s =>
 zak P x2 [dm h, dm i] s fun j s =>
 unC .not j s fun l s =>
 zt l (z1 Z bF s) (bP .add f (iN 1) s fun m s =>
 e [m] s)) (z1 Z bT s))
theorem zaT : F3 Tryz.prog zR zap := zg [.l [17] [(6, 4), (18, 14)]] Tryz.func97
def znA (P : Program) (x0 x1 : AV) (σ : LO) (Z : ZT) : Prop :=
 cA P zgE [x0, x1] σ fun a s =>
 z1 Z a s
theorem e_op_Same_1 : F2 Tryz.prog zgD znA := zg [] Tryz.func98
def zkb (P : Program) (x0 x1 : AV) (σ : LO) (Z : ZT) : Prop :=
 zY .toStr x0 σ fun a s =>
 zY .toStr x1 s fun b s =>
 bP .eql a b s fun c s =>
 z1 Z c s
theorem zpF : F2 Tryz.prog zgE zkb := zg [] Tryz.func99
def zoO (P : Program) (x0 x1 : AV) (σ : LO) (Z : ZT) : Prop :=
 zbd x0 σ fun a s =>
 zbd x1 s fun b s =>
 fl 0 a s fun c s =>
 fl 0 b s fun d s =>
 bP .neq c d s fun e s =>
 gFl e 1 a s fun f s =>
 gFl e 1 b s fun g s =>
 gF e (bP .neq f g s) s fun h s =>
 orC e h s fun i s =>
 gFl i 2 a s fun j s =>
 gFl i 2 b s fun l s =>
 gF i (bP .neq j l s) s fun m s =>
 orC i m s fun n s =>
 gFl n 3 a s fun o s =>
 gFl n 3 b s fun p s =>
 gF n (bP .neq o p s) s fun q s =>
 orC n q s fun r s =>
 gFl r 4 a s fun u s =>
 gF r (zaA .sl u s) s fun w s =>
 gFl r 4 b s fun y s =>
 gF r (zaA .sl y s) s fun z s =>
 gF r (bP .neq w z s) s fun A s =>
 orC r A s fun B s =>
 zt B (z1 Z bF s) (zbA [(iN 0)] s fun v s C =>
 zaO v fun D v => fl 4 a s fun E s =>
 zaA .sl E s fun F s =>
 bP .lss D F s fun G s =>
 zt G (fl 4 a s fun H s =>
 il false 1 1 H D s fun I s =>
 zY .toStr I s fun J s =>
 fl 4 b s fun K s =>
 il false 1 1 K D s fun L s =>
 zY .toStr L s fun M s =>
 bP .neq J M s fun N s =>
 zt N (z1 Z bF s) (bP .add D (iN 1) s fun O s =>
 C [O] s)) (z1 Z bT s))
theorem e_r06_Same : F2 Tryz.prog zkq zoO := zg [.l [5] [(4, 1), (41, 20)], .d [(0, 13)] []] Tryz.func100
def znv (P : Program) (x0 : AV) (σ : LO) (Z : ZT) : Prop :=
 zbd x0 σ fun a s =>
 fl 0 a s fun b s =>
 cA P zht [b] s fun c s =>
 bP .lss c (iN 0) s fun d s =>
 gFl d 1 a s fun e s =>
 gF d (bP .lss e (iN 1) s) s fun f s =>
 orC d f s fun g s =>
 gFl g 1 a s fun h s =>
 gF g (bP .gtr h (iN 9007199254740992) s) s fun i s =>
 orC g i s fun j s =>
 zt j (z1 Z (iN 80) s) (zf 2 a s fun l s =>
 zj true 5 l s fun m s =>
 cA P zgB [m] s fun n s =>
 z1 Z n s)
theorem e_r08_Check : F1 Tryz.prog zgz znv := zg [] Tryz.func101
def zlu (P : Program) (x0 x1 : AV) (σ : LO) (Z : ZT) : Prop :=
 zr 1 1 eN x0 σ fun a s =>
 zbA [x1, a] s fun v s b =>
 zaO v fun c v => zaO v fun d v => bP .geq c (.d (.int .u64 128)) s fun e s =>
 zt e (bP .rem c (.d (.int .u64 128)) s fun f s =>
 zY (.int .u8) f s fun g s =>
 bP .add g (.d (.int .u8 128)) s fun h s =>
 m1 1 [(.d (.int .u8 0))] h s fun i s =>
 zr 1 1 d i s fun j s =>
 bP .quo c (.d (.int .u64 128)) s fun l s =>
 b [l, j] s) (zY (.int .u8) c s fun m s =>
 m1 1 [(.d (.int .u8 0))] m s fun n s =>
 zr 1 1 d n s fun o s =>
 z1 Z o s)
theorem zll : F2 Tryz.prog zaV zlu := zg [.l [1, 5] [(9, 11)]] Tryz.func102
def S_r06_Put (P : Program) (x0 x1 : AV) (σ : LO) (Z : ZT) : Prop :=
 zbd x1 σ fun a s =>
 zj true 5 a s fun b s =>
 cA P zgB [b] s fun c s =>
 bP .neq c (iN 0) s fun d s =>
 zt d (z1 Z x0 s) (fl 0 a s fun e s =>
 cA P zfE [e] s fun f s =>
 zd f 0 s fun g s =>
 zd f 1 s fun h s =>
 zd f 2 s fun i s =>
 zd f 3 s fun j s =>
 fl 0 a s fun l s =>
 zY (.int .u64) l s fun m s =>
 cA P zaV [x0, m] s fun n s =>
 (fun (o : AV → LO → Prop) => zt g (fl 1 a s fun V s =>
 zY .toBytes V s fun W s =>
 cA P zcr [n, W] s fun X s =>
 o X s) (o n s))
 (fun p s => (fun (q : AV → LO → Prop) => zt h (fl 2 a s fun S s =>
 zY .toBytes S s fun T s =>
 cA P zcr [p, T] s fun U s =>
 q U s) (q p s))
 (fun r s => (fun (u : AV → LO → Prop) => zt i (fl 3 a s fun O s =>
 zY (.int .u64) O s fun Q s =>
 cA P zaV [r, Q] s fun R s =>
 u R s) (u r s))
 (fun w s => (fun (y : AV → LO → Prop) => zt j (fl 4 a s fun A s =>
 zaA .sl A s fun B s =>
 zY (.int .u64) B s fun C s =>
 cA P zaV [w, C] s fun D s =>
 zbA [D, (iN 0)] s fun v s E =>
 zaO v fun F v => zaO v fun G v => fl 4 a s fun H s =>
 zaA .sl H s fun I s =>
 bP .lss G I s fun J s =>
 zt J (fl 4 a s fun K s =>
 il false 1 1 K G s fun L s =>
 cA P zcr [F, L] s fun M s =>
 bP .add G (iN 1) s fun N s =>
 E [M, N] s) (y F s)) (y w s))
 (fun z s => z1 Z z s)))))
theorem e_r06_Put : F2 Tryz.prog zmE S_r06_Put := zg [.l [0, 9] [(52, 14)]] Tryz.func103
def zfs (P : Program) (x0 x1 : AV) (σ : LO) (Z : ZT) : Prop :=
 zbd x1 σ fun a s =>
 zbA [(iN 0)] s fun v s b =>
 zaO v fun c v => nfl 0 x0 s fun d s =>
 zaA .sl d s fun e s =>
 bP .lss c e s fun f s =>
 zt f (nfl 0 x0 s fun g s =>
 il true 2 2 g c s fun h s =>
 zj true 2 a s fun i s =>
 zcm .eql (.ints 2) h i s fun j s =>
 zt j (z1 Z bT s) (bP .add c (iN 1) s fun l s =>
 b [l] s)) (z1 Z bF s)
theorem ziX : F2 Tryz.prog zdj zfs := zg [.l [5] [(4, 1), (6, 18)], .d [(0, 9)] []] Tryz.func104
def zgT (P : Program) (x0 x1 : AV) (σ : LO) (Z : ZT) : Prop :=
 zbA [(iN 0)] σ fun v s a =>
 zaO v fun b v => nfl 0 x0 s fun c s =>
 zaA .sl c s fun d s =>
 bP .lss b d s fun e s =>
 zt e (nfl 0 x0 s fun f s =>
 il false 1 1 f b s fun g s =>
 cA P zkr [g, x1] s fun h s =>
 zt h (bP .add b (iN 1) s fun i s =>
 z2 Z i bT s) (bP .add b (iN 1) s fun j s =>
 a [j] s)) (z2 Z (iN 0) bF s)
theorem zlQ : F2 Tryz.prog zeD zgT := zg [.l [6] [(4, 2), (7, 20)]] Tryz.func105
def zhP (P : Program) (x0 : AV) (σ : LO) (Z : ZT) : Prop :=
 zbd x0 σ fun a s =>
 fl 0 a s fun b s =>
 bP .lss b (iN 0) s fun c s =>
 gFl c 0 a s fun d s =>
 gF c (bP .geq d (iN 21) s) s fun e s =>
 orC c e s fun f s =>
 gFl f 1 a s fun g s =>
 gF f (bP .lss g (iN 1) s) s fun h s =>
 orC f h s fun i s =>
 gFl i 1 a s fun j s =>
 gF i (bP .gtr j (iN 9007199254740992) s) s fun l s =>
 orC i l s fun m s =>
 zt m (z1 Z (iN 81) s) (z1 Z (iN 0) s)
theorem zne : F1 Tryz.prog zdy zhP := zg [] Tryz.func106
def zjZ (P : Program) (x0 x1 : AV) (σ : LO) (Z : ZT) : Prop :=
 zbd x1 σ fun a s =>
 zj true 2 a s fun b s =>
 cA P zdy [b] s fun c s =>
 bP .neq c (iN 0) s fun d s =>
 zt d (z1 Z x0 s) (fl 0 a s fun e s =>
 zY (.int .u64) e s fun f s =>
 zf 1 a s fun g s =>
 zj false 1 g s fun h s =>
 zY (.int .u64) h s fun i s =>
 cA P zaV [x0, f] s fun j t =>
 zT g s t ∧ (cA P zaV [j, i] t fun l s =>
 z1 Z l s))
theorem zpD : F2 Tryz.prog zgy zjZ := zg [.d [(0, 4), (5, 3), (4, 1), (8, 2)] [(4, [14])]] Tryz.func107
def ziH (P : Program) (x0 x1 : AV) (σ : LO) (Z : ZT) : Prop :=
 zaA .sl x1 σ fun a s =>
 zY (.int .u64) a s fun b s =>
 cA P zaV [x0, b] s fun c s =>
 zr 1 1 c x1 s fun d s =>
 z1 Z d s
theorem ziz : F2 Tryz.prog zcr ziH := zg [] Tryz.func108
def S_r11_num (P : Program) (x0 : AV) (σ : LO) (Z : ZT) : Prop :=
 bP .geq x0 (iN 0) σ fun a s =>
 gTm a x0 s fun b s =>
 gT a (bP .leq b (iN 9007199254740992) s) s fun c s =>
 anC a c s fun d s =>
 z1 Z d s
theorem e_r11_num : F1 Tryz.prog zgd S_r11_num := zg [] Tryz.func109
def S_r11_put (P : Program) (x0 x1 : AV) (σ : LO) (Z : ZT) : Prop :=
 zcE [x1, (iN 0)] σ fun a s =>
 zY (.int .u64) a s fun b s =>
 cA P zaV [x0, b] s fun c s =>
 z1 Z c s
theorem e_r11_put : F2 Tryz.prog zgc S_r11_put := zg [] Tryz.func110
def zcc (P : Program) (x0 x1 : AV) (σ : LO) (Z : ZT) : Prop :=
 zbd x0 σ fun a s =>
 zkk P x1 1 s (fun v s b c d e =>
 zaO v fun f v => s[b]? = some c ∧ ((fun s =>
 zj false 1 a s fun g s =>
 zn true 1 1 (zai (rep [iN 0] 1) [(0, 1, f)]) s fun h s =>
 zgJ 1 8 g h s fun i s =>
 zq 1 a i s fun _ s =>
 s[b]? = some d ∧ e (s.set b c)) (s.set b d))) fun s =>
 zj false 1 a s fun l s =>
 z1 Z l s
theorem zbZ : F2 Tryz.prog zbi zcc := zpw [] Tryz.func111
def zoT (P : Program) (x0 : AV) (σ : LO) (Z : ZT) : Prop :=
 zbd x0 σ fun a s =>
 zj true 5 a s fun b s =>
 cA P zmF [b] s fun c s =>
 zd c 0 s fun d s =>
 zd c 1 s fun e s =>
 cp zl3 5 d s fun f s =>
 unC .not e s fun g s =>
 gF g (zj true 5 a s) s fun h s =>
 gF g (zj true 5 f s) s fun i s =>
 gF g (cA P zjy [h, i] s) s fun j s =>
 gF g (unC .not j s) s fun l s =>
 orC g l s fun m s =>
 zt m (z1 Z (iN 60) s) (fl 0 a s fun n s =>
 bP .neq n (iN 0) s fun o s =>
 gTl o 1 a s fun p s =>
 gT o (cA P zjz [p] s) s fun q s =>
 gT o (unC .not q s) s fun r s =>
 anC o r s fun u s =>
 zt u (z1 Z (iN 61) s) (fl 0 a s fun w s =>
 bP .eql w (iN 3) s fun y s =>
 gTl y 2 a s fun z s =>
 gT y (cA P zjz [z] s) s fun A s =>
 gT y (unC .not A s) s fun B s =>
 anC y B s fun C s =>
 zt C (z1 Z (iN 61) s) (fl 0 a s fun D s =>
 bP .eql D (iN 2) s fun E s =>
 gTl E 4 a s fun F s =>
 gT E (zaA .sl F s) s fun G s =>
 gT E (bP .lss G (iN 1) s) s fun H s =>
 gTm E H s fun I s =>
 gFl I 4 a s fun J s =>
 gF I (zaA .sl J s) s fun K s =>
 gF I (bP .gtr K (iN 4) s) s fun L s =>
 gT E (orC I L s) s fun M s =>
 gTm E M s fun N s =>
 gFl N 4 a s fun O s =>
 gFm N (.fn (.func zfF) [] []) s fun Q s =>
 gF N (cA P zaw [O, Q] s) s fun R s =>
 gT E (orC N R s) s fun S s =>
 anC E S s fun T s =>
 zt T (z1 Z (iN 62) s) (fl 3 a s fun U s =>
 bP .lss U (iN 0) s fun V s =>
 gFl V 3 a s fun W s =>
 gF V (bP .gtr W (iN 9007199254740992) s) s fun X s =>
 orC V X s fun Y s =>
 zt Y (z1 Z (iN 60) s) (z1 Z (iN 0) s)))))
theorem e_op_Check : F1 Tryz.prog zid zoT := zg [] Tryz.func114
def S_op_Put (P : Program) (x0 x1 : AV) (σ : LO) (Z : ZT) : Prop :=
 zbd x1 σ fun a s =>
 cA P zck [x0] s fun b s =>
 zj true 5 a s fun c s =>
 cA P zid [c] s fun d s =>
 bP .neq d (iN 0) s fun e s =>
 zt e (z1 Z b s) (fl 0 a s fun f s =>
 zY (.int .u64) f s fun g s =>
 cA P zaz [b, g] s fun h s =>
 (fun (i : AV → LO → Prop) => fl 0 a s fun T s =>
 bP .neq T (iN 0) s fun U s =>
 zt U (fl 1 a s fun V s =>
 zY .toBytes V s fun W s =>
 cA P zbJ [h, W] s fun X s =>
 i X s) (i h s))
 (fun j s => (fun (l : AV → LO → Prop) => fl 0 a s fun n s =>
 bP .eql n (iN 2) s fun o s =>
 zt o (fl 4 a s fun p s =>
 zaA .sl p s fun q s =>
 zY (.int .u64) q s fun r s =>
 cA P zaz [j, r] s fun u s =>
 fl 4 a s fun w s =>
 zaA .sl w s fun y s =>
 zbA [u, (iN 0)] s fun v s z =>
 zaO v fun A v => zaO v fun B v => bP .lss B y s fun C s =>
 zt C (il false 1 1 w B s fun D s =>
 cA P zbJ [A, D] s fun E s =>
 bP .add B (iN 1) s fun F s =>
 z [E, F] s) (l A s)) (bP .eql n (iN 3) s fun G s =>
 zt G (fl 2 a s fun H s =>
 zY .toBytes H s fun I s =>
 zf 3 a s fun J s =>
 zj false 1 J s fun K s =>
 zY (.int .u64) K s fun L s =>
 cA P zbJ [j, I] s fun M t =>
 zT J s t ∧ (cA P zaz [M, L] t fun N s =>
 l N s)) (bP .eql n (iN 4) s fun O s =>
 zt O (fl 3 a s fun Q s =>
 zY (.int .u64) Q s fun R s =>
 cA P zaz [j, R] s fun S s =>
 l S s) (l j s))))
 (fun m s => z1 Z m s)))
theorem e_op_Put : F2 Tryz.prog zpp S_op_Put := zg [.l [5, 40] [(7, 1), (41, 7)], .d [(0, 4), (5, 3), (4, 1), (8, 2)] [(4, [55])]] Tryz.func115
def zlx (P : Program) (x0 : AV) (σ : LO) (Z : ZT) : Prop :=
 zX [(.d (.int .u8 0)), (.d (.int .u8 0)), (.d (.int .u8 0)), (.d (.int .u8 0)), (.d (.int .u8 0)), (.d (.int .u8 0)), (.d (.int .u8 0)), (.d (.int .u8 0)), (.d (.int .u8 0)), (.d (.int .u8 0))] σ fun a s =>
 zX [(.d (.int .u8 0)), (.d (.int .u8 0)), (.d (.int .u8 0)), (.d (.int .u8 0)), (.d (.int .u8 0)), (.d (.int .u8 0)), (.d (.int .u8 0)), (.d (.int .u8 0)), (.d (.int .u8 0)), (.d (.int .u8 0))] s fun b s =>
 zbA [x0, (iN 0)] s fun v s c =>
 zaO v fun d v => zaO v fun e v => bP .gtr d (.d (.int .u64 127)) s fun f s =>
 zt f (zY (.int .u8) d s fun g s =>
 bP .or g (.d (.int .u8 128)) s fun h s =>
 zJ (some 10) 1 b e s fun i s =>
 zq 1 i h s fun _ s =>
 bP .shr d (.d (.int .u64 7)) s fun l s =>
 bP .add e (iN 1) s fun m s =>
 c [l, m] s) (zY (.int .u8) d s fun n s =>
 zJ (some 10) 1 b e s fun o s =>
 zq 1 o n s fun _ s =>
 zj true 10 b s fun q s =>
 bP .add e (iN 1) s fun r s =>
 zq 10 a q s fun _ s =>
 Z (zP (zaC a s true 10) (zP (some r) (some []))) s)
theorem e_codec_form : F1 Tryz.prog zhw zlx := zg [.l [0, 5] [(6, 11)]] Tryz.func116
def zdI (P : Program) (x0 : AV) (σ : LO) (Z : ZT) : Prop :=
 zaA .sl x0 σ fun a s =>
 zaA .sl x0 s fun b s =>
 zct (.sl 1) x0 none (some a) (some b) s fun c s =>
 z1 Z c s
theorem zdE : F1 Tryz.prog zcg zdI := zg [] Tryz.func117
def znz (P : Program) (x0 : AV) (σ : LO) (Z : ZT) : Prop :=
 zbd x0 σ fun a s =>
 fl 0 a s fun b s =>
 cA P zfE [b] s fun c s =>
 zd c 0 s fun d s =>
 zd c 1 s fun e s =>
 zd c 2 s fun f s =>
 zd c 3 s fun g s =>
 fl 0 a s fun h s =>
 bP .lss h (iN 0) s fun i s =>
 gFl i 0 a s fun j s =>
 gF i (bP .gtr j (iN 4) s) s fun l s =>
 orC i l s fun m s =>
 gFm m d s fun n s =>
 gF m (unC .not n s) s fun o s =>
 gFm m o s fun p s =>
 gTl p 1 a s fun q s =>
 gT p (bP .neq q (.d (.str [])) s) s fun r s =>
 gF m (anC p r s) s fun u s =>
 orC m u s fun w s =>
 gFm w e s fun y s =>
 gF w (unC .not y s) s fun z s =>
 gFm w z s fun A s =>
 gTl A 2 a s fun B s =>
 gT A (bP .neq B (.d (.str [])) s) s fun C s =>
 gF w (anC A C s) s fun D s =>
 orC w D s fun E s =>
 gFm E f s fun F s =>
 gF E (unC .not F s) s fun G s =>
 gFm E G s fun H s =>
 gTl H 3 a s fun I s =>
 gT H (bP .neq I (iN 0) s) s fun J s =>
 gF E (anC H J s) s fun K s =>
 orC E K s fun L s =>
 gFm L g s fun M s =>
 gF L (unC .not M s) s fun N s =>
 gFm L N s fun O s =>
 gTl O 4 a s fun Q s =>
 gT O (zaA .sl Q s) s fun R s =>
 gT O (bP .gtr R (iN 0) s) s fun S s =>
 gF L (anC O S s) s fun T s =>
 orC L T s fun U s =>
 zt U (z1 Z (iN 60) s) (gTl d 1 a s fun V s =>
 gT d (cA P zic [V] s) s fun W s =>
 gT d (unC .not W s) s fun X s =>
 anC d X s fun Y s =>
 gFm Y e s fun a0 s =>
 gFm Y a0 s fun b0 s =>
 gTl b0 2 a s fun c0 s =>
 gT b0 (cA P zic [c0] s) s fun d0 s =>
 gT b0 (unC .not d0 s) s fun e0 s =>
 gF Y (anC b0 e0 s) s fun f0 s =>
 orC Y f0 s fun g0 s =>
 zt g0 (z1 Z (iN 61) s) (gTl g 4 a s fun h0 s =>
 gT g (zaA .sl h0 s) s fun i0 s =>
 gT g (bP .lss i0 (iN 1) s) s fun j0 s =>
 gTm g j0 s fun l0 s =>
 gFl l0 4 a s fun m0 s =>
 gF l0 (zaA .sl m0 s) s fun o0 s =>
 gF l0 (bP .gtr o0 (iN 4) s) s fun p0 s =>
 gT g (orC l0 p0 s) s fun q0 s =>
 anC g q0 s fun r0 s =>
 zt r0 (z1 Z (iN 62) s) (zbA [(iN 0)] s fun v s u0 =>
 zaO v fun w0 v => fl 4 a s fun y0 s =>
 zaA .sl y0 s fun z0 s =>
 bP .lss w0 z0 s fun A0 s =>
 zt A0 (fl 4 a s fun B0 s =>
 il false 1 1 B0 w0 s fun C0 s =>
 zaA .sl C0 s fun D0 s =>
 bP .gtr D0 (iN 64) s fun E0 s =>
 zt E0 (z1 Z (iN 62) s) (bP .add w0 (iN 1) s fun F0 s =>
 u0 [F0] s)) (fl 3 a s fun G0 s =>
 bP .lss G0 (iN 0) s fun H0 s =>
 gFl H0 3 a s fun I0 s =>
 gF H0 (bP .gtr I0 (iN 9007199254740992) s) s fun J0 s =>
 orC H0 J0 s fun K0 s =>
 zt K0 (z1 Z (iN 60) s) (z1 Z (iN 0) s)))))
theorem e_r06_Check : F1 Tryz.prog zgB znz := zg [.l [7] [(2, 1), (90, 14)]] Tryz.func118
def zlt (P : Program) (x0 : AV) (σ : LO) (Z : ZT) : Prop :=
 bP .eql x0 (iN 1) σ fun a s =>
 zt a (Z (zP (some bT) (zP (some bF) (zP (some bF) (zP (some bF) (some []))))) s) (bP .eql x0 (iN 2) s fun b s =>
 zt b (Z (zP (some bT) (zP (some bF) (zP (some bF) (zP (some bT) (some []))))) s) (bP .eql x0 (iN 3) s fun c s =>
 zt c (Z (zP (some bT) (zP (some bT) (zP (some bT) (zP (some bF) (some []))))) s) (bP .eql x0 (iN 4) s fun d s =>
 zt d (Z (zP (some bT) (zP (some bF) (zP (some bT) (zP (some bF) (some []))))) s) (Z (zP (some bF) (zP (some bF) (zP (some bF) (zP (some bF) (some []))))) s))))
theorem e_r06_fields : F1 Tryz.prog zfE zlt := zg [] Tryz.func119
def zoQ (P : Program) (x0 x1 : AV) (σ : LO) (Z : ZT) : Prop :=
 zY .toStr x0 σ fun a s =>
 zY .toStr x1 s fun b s =>
 bP .eql a b s fun c s =>
 z1 Z c s
theorem e_r02_Same : F2 Tryz.prog zkr zoQ := zg [] Tryz.func120
def S_op_only (P : Program) (x0 : AV) (σ : LO) (Z : ZT) : Prop :=
 zbd x0 σ fun a s =>
 zX zl3 s fun b s =>
 fl 0 a s fun c s =>
 zD (zai zl3 [(0, 1, c)]) s fun d s =>
 cp zl3 5 d s fun e s =>
 (fun (f : LO → Prop) => fl 0 a s fun i s =>
 bP .eql i (iN 0) s fun j s =>
 zt j (f s) (bP .eql i (iN 1) s fun l s =>
 zt l (fl 1 a s fun m s =>
 zf 1 e s fun n s =>
 zq 1 n m s fun _ s =>
 f s) (bP .eql i (iN 2) s fun p s =>
 zt p (fl 1 a s fun q s =>
 zf 4 a s fun r s =>
 zj false 1 r s fun u s =>
 zf 1 e s fun w s =>
 zq 1 w q s fun _ t =>
 zT r s t ∧ (zf 4 e t fun z s =>
 zq 1 z u s fun _ s =>
 f s)) (bP .eql i (iN 3) s fun B s =>
 zt B (fl 1 a s fun C s =>
 zf 2 a s fun D s =>
 zj false 1 D s fun E s =>
 zf 3 a s fun F s =>
 zj false 1 F s fun G s =>
 zf 1 e s fun H s =>
 zq 1 H C s fun _ t =>
 zT D s t ∧ (zT F s t ∧ (zf 2 e t fun J s =>
 zq 1 J E s fun _ t =>
 zT F s t ∧ (zf 3 e t fun L s =>
 zq 1 L G s fun _ s =>
 f s)))) (bP .eql i (iN 4) s fun N s =>
 zt N (fl 1 a s fun O s =>
 zf 3 a s fun Q s =>
 zj false 1 Q s fun R s =>
 zf 1 e s fun S s =>
 zq 1 S O s fun _ t =>
 zT Q s t ∧ (zf 3 e t fun U s =>
 zq 1 U R s fun _ s =>
 f s)) (zj true 5 e s fun W s =>
 zq 5 b W s fun _ s =>
 Z (zP (zaC b s true 5) (zP (some bF) (some []))) s))))))
 (fun  s => zj true 5 e s fun g s =>
 zq 5 b g s fun _ s =>
 Z (zP (zaC b s true 5) (zP (some bT) (some []))) s)
theorem e_op_only : F1 Tryz.prog zmF S_op_only := zg [.d [(0, 8)] [(5, [22])], .d [(0, 12)] [(7, [30, 32]), (9, [32])], .d [(0, 8)] [(5, [41])]] Tryz.func132
def zlv (P : Program) (x0 : AV) (σ : LO) (Z : ZT) : Prop :=
 zaA .sl x0 σ fun a s =>
 bP .gtr a (iN 64) s fun b s =>
 z1 Z b s
theorem e_op_Check_1 : F1 Tryz.prog zfF zlv := zg [] Tryz.func133
def S_op_Name (P : Program) (x0 : AV) (σ : LO) (Z : ZT) : Prop :=
 cA P zks [x0] σ fun a s =>
 bP .gtr a (iN 0) s fun b s =>
 z1 Z b s
theorem e_op_Name : F1 Tryz.prog zjz S_op_Name := zg [] Tryz.func134
def zaR (P : Program) (x0 x1 : AV) (σ : LO) (Z : ZT) : Prop :=
 cA P zbe [x0, x1] σ fun a s =>
 bP .geq a (iN 0) s fun b s =>
 z1 Z b s
theorem zcl : F2 Tryz.prog zaw zaR := zg [] Tryz.func135
def zoP (P : Program) (x0 : AV) (σ : LO) (Z : ZT) : Prop :=
 cA P ziP [x0] σ fun a s =>
 bP .gtr a (iN 0) s fun b s =>
 z1 Z b s
theorem e_r06_Name : F1 Tryz.prog zic zoP := zg [] Tryz.func136
def zoR (P : Program) (x0 : AV) (σ : LO) (Z : ZT) : Prop :=
 zae x0 σ fun a s =>
 zbA [(iN 0)] s fun v s b =>
 zaO v fun c v => zjx a s fun d s =>
 zd d 0 s fun e s =>
 zt e (zd d 2 s fun f s =>
 bP .lss f (.d (.int .i32 33)) s fun g s =>
 gFm g f s fun h s =>
 gF g (bP .geq h (.d (.int .i32 127)) s) s fun i s =>
 gFm g i s fun j s =>
 gTm j f s fun l s =>
 gT j (bP .leq l (.d (.int .i32 159)) s) s fun m s =>
 gF g (anC j m s) s fun n s =>
 orC g n s fun o s =>
 gFm o f s fun p s =>
 gF o (bP .eql p (.d (.int .i32 47)) s) s fun q s =>
 orC o q s fun r s =>
 gFm r f s fun u s =>
 gF r (bP .eql u (.d (.int .i32 65533)) s) s fun w s =>
 orC r w s fun y s =>
 zt y (z1 Z (iN 0) s) (bP .add c (iN 1) s fun z s =>
 b [z] s)) (bP .gtr c (iN 16) s fun A s =>
 zt A (z1 Z (iN 0) s) (z1 Z c s))
theorem e_op_Runes : F1 Tryz.prog zks zoR := zg [.l [3] [(2, 1), (5, 1), (8, 23)]] Tryz.func143
end Go.Proofs.YtjjchfbckfopkaaGreat
