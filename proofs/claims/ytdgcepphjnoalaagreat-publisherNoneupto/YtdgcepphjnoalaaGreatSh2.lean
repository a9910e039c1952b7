/- The conditions of each function, its slots as variables, and that the logic's conditions are these. Printed by program. -/
import Derived.Test.YtdgcepphjnoalaaGreatNm
import Derived.KernelRfl
set_option linter.all false
set_option maxRecDepth 100000
set_option linter.unusedVariables false
namespace Go.Proofs.YtdgcepphjnoalaaGreat
open Go.AW
def zcE (P : Program) (x0 : AV) (σ : LO) (Z : ZT) : Prop :=
 zds .eql .ptr x0 (.d .nilp) σ fun a s =>
 gFm a x0 s fun b s =>
 gF a (zbr b s) s fun c s =>
 gFl a 0 c s fun d s =>
 gF a (unC .not d s) s fun e s =>
 orC a e s fun f s =>
 z1 Z f s
theorem zdV : F1 Tryz.prog zx zcE := zm [] Tryz.func37
def zqr (P : Program) (x0 : AV) (σ : LO) (Z : ZT) : Prop :=
 zbD x0 σ fun a s =>
 zR zl1 s fun b s =>
 fl 4 a s fun c s =>
 zaV .sl c s fun d s =>
 zec [eN, (iN 0)] s fun v s e =>
 zed v fun f v => zed v fun g v => bP .lss g d s fun h s =>
 zo h (il false 1 1 c g s fun i s =>
 cA P zbY [i] s fun j s =>
 m1 1 [eN] j s fun l s =>
 zD 1 24 f l s fun m s =>
 bP .add g (iN 1) s fun n s =>
 e [m, n] s) (zd 4 a s fun o s =>
 zg 1 o f s fun _ s =>
 zi true 5 a s fun q s =>
 zg 5 b q s fun _ s =>
 Z (zQ (zaz b s true 5) (some [])) s)
theorem e_op_Clone : F1 Tryz.prog zfl zqr := zm [.l [3, 9] [(5, 1), (10, 9)]] Tryz.func38
def zjA (P : Program) (x0 : AV) (σ : LO) (Z : ZT) : Prop :=
 zaV .sl x0 σ fun a s =>
 zec [eN, (iN 0)] s fun v s b =>
 zed v fun c v => zed v fun d v => bP .lss d a s fun e s =>
 zo e (il true 9 9 x0 d s fun f s =>
 cp zl0 9 f s fun g s =>
 zd 0 g s fun h s =>
 zd 2 h s fun i s =>
 zi true 5 i s fun j s =>
 cA P zfl [j] s fun l s =>
 zd 0 g s fun m s =>
 zd 2 m s fun n s =>
 zg 5 n l s fun _ s =>
 zi true 9 g s fun p s =>
 m1 9 zl0 p s fun q s =>
 zD 9 104 c q s fun r s =>
 bP .add d (iN 1) s fun u s =>
 b [r, u] s) (z1 Z c s)
theorem zox : F1 Tryz.prog zbI zjA := zm [.l [3, 8] [(5, 1), (9, 14)]] Tryz.func41
def zqs (P : Program) (x0 : AV) (σ : LO) (Z : ZT) : Prop :=
 zbD x0 σ fun a s =>
 zi true 5 a s fun b s =>
 cA P zoe [b] s fun c s =>
 zf c 0 s fun d s =>
 zf c 1 s fun e s =>
 cp zl1 5 d s fun f s =>
 unC .not e s fun g s =>
 gF g (zi true 5 a s) s fun h s =>
 gF g (zi true 5 f s) s fun i s =>
 gF g (cA P zlo [h, i] s) s fun j s =>
 gF g (unC .not j s) s fun l s =>
 orC g l s fun m s =>
 zo m (z1 Z (iN 60) s) (fl 0 a s fun n s =>
 bP .neq n (iN 0) s fun o s =>
 gTl o 1 a s fun p s =>
 gT o (cA P zlp [p] s) s fun q s =>
 gT o (unC .not q s) s fun r s =>
 anC o r s fun u s =>
 zo u (z1 Z (iN 61) s) (fl 0 a s fun w s =>
 bP .eql w (iN 3) s fun y s =>
 gTl y 2 a s fun z s =>
 gT y (cA P zlp [z] s) s fun A s =>
 gT y (unC .not A s) s fun B s =>
 anC y B s fun C s =>
 zo C (z1 Z (iN 61) s) (fl 0 a s fun D s =>
 bP .eql D (iN 2) s fun E s =>
 gTl E 4 a s fun F s =>
 gT E (zaV .sl F s) s fun G s =>
 gT E (bP .lss G (iN 1) s) s fun H s =>
 gTm E H s fun I s =>
 gFl I 4 a s fun J s =>
 gF I (zaV .sl J s) s fun K s =>
 gF I (bP .gtr K (iN 4) s) s fun L s =>
 gT E (orC I L s) s fun M s =>
 gTm E M s fun N s =>
 gFl N 4 a s fun O s =>
 gFm N (.fn (.func zgX) [] []) s fun Q s =>
 gF N (cA P zaD [O, Q] s) s fun R s =>
 gT E (orC N R s) s fun S s =>
 anC E S s fun T s =>
 zo T (z1 Z (iN 62) s) (fl 3 a s fun U s =>
 bP .lss U (iN 0) s fun V s =>
 gFl V 3 a s fun W s =>
 gF V (bP .gtr W (iN 9007199254740992) s) s fun X s =>
 orC V X s fun Y s =>
 zo Y (z1 Z (iN 60) s) (z1 Z (iN 0) s)))))
theorem e_op_Check : F1 Tryz.prog zhI zqs := zm [] Tryz.func43
def zkm (P : Program) (x0 x1 x2 : AV) (σ : LO) (Z : ZT) : Prop :=
 zbD x2 σ fun a s =>
 zR zl0 s fun b s =>
 zi true 7 a s fun c s =>
 cA P zgB [c] s fun d s =>
 zf d 0 s fun e s =>
 zf d 1 s fun f s =>
 bP .neq f (iN 0) s fun g s =>
 zo g (zB (zac zl0 []) s fun h s =>
 zg 9 b h s fun _ s =>
 Z (zQ (zaz b s true 9) (zQ (some f) (some []))) s) (cA P zhq [x0, x1] s fun j s =>
 unC .not j s fun l s =>
 zo l (zB (zac zl0 []) s fun m s =>
 zg 9 b m s fun _ s =>
 Z (zQ (zaz b s true 9) (zQ (some (iN 2)) (some []))) s) (fl 0 a s fun o s =>
 cA P zij [o] s fun p s =>
 cA P zcX [x0, e] s fun q s =>
 cA P zcv [x1, p, q] s fun r s =>
 zf r 0 s fun u s =>
 zf r 1 s fun w s =>
 cp [iN 0, iN 0] 2 u s fun y s =>
 bP .neq w (iN 0) s fun z s =>
 zo z (zB (zac zl0 []) s fun A s =>
 zg 9 b A s fun _ s =>
 Z (zQ (zaz b s true 9) (zQ (some w) (some []))) s) (zd 2 a s fun C s =>
 zi true 5 C s fun D s =>
 cA P zfl [D] s fun E s =>
 zd 2 a s fun F s =>
 zg 5 F E s fun _ s =>
 zi true 7 a s fun H s =>
 zi true 2 y s fun I s =>
 zB (zac zl0 [(0, 7, H), (7, 2, I)]) s fun J s =>
 zg 9 b J s fun _ s =>
 Z (zQ (zaz b s true 9) (zQ (some (iN 0)) (some []))) s)))
theorem zpn : F3 Tryz.prog zef zkm := zm [] Tryz.func44
def zdM (P : Program) (x0 : AV) (σ : LO) (Z : ZT) : Prop :=
 nfl 6 x0 σ fun a s =>
 cA P zbI [a] s fun b s =>
 zB (zac zl3 [(0, 1, (iN 1)), (9, 1, b)]) s fun c s =>
 zB (zac zl4 [(0, 1, (iN (-1))), (1, 30, c)]) s fun d s =>
 m1 31 zl4 d s fun e s =>
 z1 Z e s
theorem zgI : F1 Tryz.prog zbn zdM := zm [] Tryz.func45
def znm (P : Program) (x0 x1 x2 : AV) (σ : LO) (Z : ZT) : Prop :=
 zbD x2 σ fun a s =>
 cA P ziq [x0, x1] s fun b s =>
 unC .not b s fun c s =>
 gF c (zi true 30 a s) s fun d s =>
 gF c (cA P zeI [d] s) s fun e s =>
 gF c (bP .neq e (iN 0) s) s fun f s =>
 orC c f s fun g s =>
 zo g (z1 Z bF s) (zi true 30 a s fun h s =>
 cA P zfw [h] s fun i s =>
 zf i 0 s fun j s =>
 zf i 1 s fun l s =>
 bP .eql l (iN 0) s fun m s =>
 gTm m j s fun n s =>
 gT m (zZ false n s) s fun o s =>
 gTm m o s fun p s =>
 gFm p x0 s fun q s =>
 gFm p x1 s fun r s =>
 gF p (zi true 30 a s) s fun u s =>
 gF p (zd 1 a s) s fun w s =>
 gF p (zi false 1 w s) s fun y s =>
 gFm p j s fun z s =>
 gF p (cA P zmg [u] s) s fun A t =>
 zI w s t ∧ (gF p (cA P zio [q, r, A, y, z] t) t fun B s =>
 gT m (orC p B s) s fun C s =>
 anC m C s fun D s =>
 z1 Z D s))
theorem e_auth_Valid : F3 Tryz.prog zgZ znm := zm [.d [(0, 9), (10, 3), (9, 1), (13, 4)] [(9, [33])]] Tryz.func46
def ziO (P : Program) (x0 : AV) (σ : LO) (Z : ZT) : Prop :=
 cA P zft [(iN 3), x0] σ fun a s =>
 z1 Z a s
theorem znv : F1 Tryz.prog zfR ziO := zm [] Tryz.func47
def zkp (P : Program) (x0 : AV) (σ : LO) (Z : ZT) : Prop :=
 cA P zft [(iN 1), x0] σ fun a s =>
 z1 Z a s
theorem zpq : F1 Tryz.prog zhr zkp := zm [] Tryz.func48
def zez (P : Program) (x0 : AV) (σ : LO) (Z : ZT) : Prop :=
 cA P zbo [x0] σ fun a s =>
 zo a (z1 Z (.d .nilp) s) (nfl 0 x0 s fun b s =>
 cA P zjo [b] s fun c s =>
 zf c 0 s fun d s =>
 zf c 1 s fun _ s =>
 z1 Z d s)
theorem zey : F1 Tryz.prog zbA zez := zm [] Tryz.func49
def zcV (P : Program) (x0 : AV) (σ : LO) (Z : ZT) : Prop :=
 cA P zbk [x0] σ fun a s =>
 zo a (z1 Z (.d .nilp) s) (cA P zcY [] s fun b s =>
 nfl 0 x0 s fun c s =>
 zaV .sl c s fun d s =>
 zec [(iN 0)] s fun v s e =>
 zed v fun f v => bP .lss f d s fun g s =>
 zo g (il true 2 2 c f s fun h s =>
 cp [iN 0, iN 0] 2 h s fun i s =>
 fl 0 i s fun j s =>
 fl 1 i s fun l s =>
 cA P zcv [b, j, l] s fun _ s =>
 bP .add f (iN 1) s fun n s =>
 e [n] s) (z1 Z b s))
theorem zbT : F1 Tryz.prog zaU zcV := zm [.l [14] [(5, 1), (15, 10)]] Tryz.func50
def zkq (P : Program) (x0 : AV) (σ : LO) (Z : ZT) : Prop :=
 bP .lss x0 (iN 1) σ fun a s =>
 gFm a x0 s fun b s =>
 gF a (bP .gtr b (iN 4) s) s fun c s =>
 orC a c s fun d s =>
 zo d (z1 Z (iN 120) s) (z1 Z (iN 0) s)
theorem zpr : F1 Tryz.prog zfu zkq := zm [] Tryz.func51
def zoX (P : Program) (x0 x1 : AV) (σ : LO) (Z : ZT) : Prop :=
 cA P zbA [x0] σ fun a s =>
 zds .neq .ptr a (.d .nilp) s fun b s =>
 gTm b x1 s fun c s =>
 gT b (cA P zaU [c] s) s fun d s =>
 gT b (zds .neq .ptr d (.d .nilp) s) s fun e s =>
 anC b e s fun f s =>
 z1 Z f s
theorem e_auth_made : F2 Tryz.prog ziq zoX := zm [] Tryz.func53
def zkw (P : Program) (x0 : AV) (σ : LO) (Z : ZT) : Prop :=
 zbD x0 σ fun a s =>
 zi true 30 a s fun b s =>
 cA P zeH [b] s fun c s =>
 zf c 0 s fun d s =>
 zf c 1 s fun e s =>
 bP .neq e (iN 0) s fun f s =>
 zo f (z2 Z eN e s) (fl 0 a s fun g s =>
 (fun (h : AV → LO → Prop) => bP .eql g (iN 2) s fun U s =>
 zo U (h U s) (bP .eql g (iN 3) s fun V s =>
 zo V (h V s) (bP .eql g (iN 4) s fun W s =>
 h W s)))
 (fun i s => zo i (fl 0 a s fun j s =>
 fl 2 a s fun l s =>
 fl 3 a s fun m s =>
 fl 4 a s fun n s =>
 cA P zfS [j, l, m, n] s fun o s =>
 z2 Z o (iN 0) s) (bP .eql g (iN 6) s fun p s =>
 zo p (fl 0 a s fun q s =>
 fl 3 a s fun r s =>
 fl 4 a s fun u s =>
 cA P zfS [q, (iN 0), r, u] s fun w s =>
 z2 Z w (iN 0) s) (bP .eql g (iN 9) s fun y s =>
 zo y (fl 0 a s fun z s =>
 fl 3 a s fun A s =>
 cA P zfS [z, (iN 0), A, (iN 0)] s fun B s =>
 z2 Z B (iN 0) s) (bP .eql g (iN 5) s fun C s =>
 zo C (m1 1 [(.d (.int .u8 0))] (.d (.int .u8 5)) s fun D s =>
 fl 2 a s fun E s =>
 fl 5 a s fun F s =>
 fl 6 a s fun G s =>
 zd 7 a s fun H s =>
 fl 0 H s fun I s =>
 zd 7 a s fun J s =>
 fl 1 J s fun K s =>
 zn false 1 5 (zac (rep [iN 0] 5) [(0, 1, E), (1, 1, F), (2, 1, G), (3, 1, I), (4, 1, K)]) s fun L s =>
 cA P zmf [D, L] s fun M s =>
 z2 Z M (iN 0) s) ((fun (N : AV → LO → Prop) => bP .eql g (iN 7) s fun S s =>
 zo S (N S s) (bP .eql g (iN 8) s fun T s =>
 N T s))
 (fun O s => zo O (m1 1 [(.d (.int .u8 0))] (.d (.int .u8 6)) s fun Q s =>
 zD 1 1 Q d s fun R s =>
 z2 Z R (iN 0) s) (z2 Z eN (iN 0) s))))))))
theorem zpw : F1 Tryz.prog zfw zkw := zm [] Tryz.func54
def zoV (P : Program) (x0 x1 : AV) (σ : LO) (Z : ZT) : Prop :=
 zbD x0 σ fun a s =>
 zbD x1 s fun b s =>
 zR zl3 s fun c s =>
 zi true 30 a s fun d s =>
 cA P zgE [d] s fun e s =>
 zg 30 a e s fun _ s =>
 fl 0 a s fun g s =>
 bP .eql g (iN 7) s fun h s =>
 gTl h 13 a s fun i s =>
 gT h (zaV .sl i s) s fun j s =>
 gT h (bP .eql j (iN 1) s) s fun l s =>
 anC h l s fun m s =>
 zo m (fl 13 a s fun n s =>
 zi true 2 b s fun o s =>
 zO none 8 n (iN 0) s fun p s =>
 zd 6 p s fun q s =>
 zg 2 q o s fun _ s =>
 zi true 30 a s fun u s =>
 zg 30 c u s fun _ s =>
 Z (zQ (zaz c s true 30) (some [])) s) (zi true 2 b s fun y s =>
 zd 28 a s fun z s =>
 zg 2 z y s fun _ s =>
 zi true 30 a s fun B s =>
 zg 30 c B s fun _ s =>
 Z (zQ (zaz c s true 30) (some [])) s)
theorem e_auth_with : F2 Tryz.prog zin zoV := zm [] Tryz.func55
def zoW (P : Program) (x0 x1 x2 x3 : AV) (σ : LO) (Z : ZT) : Prop :=
 zR [iN 0, iN 0] σ fun a s =>
 cA P zcX [x0, x3] s fun b s =>
 bP .eql b (iN 0) s fun c s =>
 zo c (zB (zac [iN 0, iN 0] []) s fun d s =>
 zg 2 a d s fun _ s =>
 Z (zQ (zaz a s true 2) (zQ (some (iN 6)) (some []))) s) (cA P zcv [x1, x2, b] s fun f s =>
 zf f 0 s fun g s =>
 zf f 1 s fun h s =>
 zg 2 a g s fun _ s =>
 Z (zQ (zaz a s true 2) (zQ (some h) (some []))) s)
theorem e_auth_sign : F4 Tryz.prog zkD zoW := zm [] Tryz.func56
def ziE (P : Program) (x0 : AV) (σ : LO) (Z : ZT) : Prop :=
 zZ false x0 σ fun a s =>
 zo a (z1 Z eN s) (zn false 1 0 (zac (rep [(.d (.int .u8 0))] 0) []) s fun b s =>
 zD 1 1 b x0 s fun c s =>
 z1 Z c s)
theorem ziv : F1 Tryz.prog zbY ziE := zm [] Tryz.func64
def S_op_only (P : Program) (x0 : AV) (σ : LO) (Z : ZT) : Prop :=
 zbD x0 σ fun a s =>
 zR zl1 s fun b s =>
 fl 0 a s fun c s =>
 zB (zac zl1 [(0, 1, c)]) s fun d s =>
 cp zl1 5 d s fun e s =>
 (fun (f : LO → Prop) => fl 0 a s fun i s =>
 bP .eql i (iN 0) s fun j s =>
 zo j (f s) (bP .eql i (iN 1) s fun l s =>
 zo l (fl 1 a s fun m s =>
 zd 1 e s fun n s =>
 zg 1 n m s fun _ s =>
 f s) (bP .eql i (iN 2) s fun p s =>
 zo p (fl 1 a s fun q s =>
 zd 4 a s fun r s =>
 zi false 1 r s fun u s =>
 zd 1 e s fun w s =>
 zg 1 w q s fun _ t =>
 zI r s t ∧ (zd 4 e t fun z s =>
 zg 1 z u s fun _ s =>
 f s)) (bP .eql i (iN 3) s fun B s =>
 zo B (fl 1 a s fun C s =>
 zd 2 a s fun D s =>
 zi false 1 D s fun E s =>
 zd 3 a s fun F s =>
 zi false 1 F s fun G s =>
 zd 1 e s fun H s =>
 zg 1 H C s fun _ t =>
 zI D s t ∧ (zI F s t ∧ (zd 2 e t fun J s =>
 zg 1 J E s fun _ t =>
 zI F s t ∧ (zd 3 e t fun L s =>
 zg 1 L G s fun _ s =>
 f s)))) (bP .eql i (iN 4) s fun N s =>
 zo N (fl 1 a s fun O s =>
 zd 3 a s fun Q s =>
 zi false 1 Q s fun R s =>
 zd 1 e s fun S s =>
 zg 1 S O s fun _ t =>
 zI Q s t ∧ (zd 3 e t fun U s =>
 zg 1 U R s fun _ s =>
 f s)) (zi true 5 e s fun W s =>
 zg 5 b W s fun _ s =>
 Z (zQ (zaz b s true 5) (zQ (some bF) (some []))) s))))))
 (fun  s => zi true 5 e s fun g s =>
 zg 5 b g s fun _ s =>
 Z (zQ (zaz b s true 5) (zQ (some bT) (some []))) s)
theorem e_op_only : F1 Tryz.prog zoe S_op_only := zm [.d [(0, 8)] [(5, [22])], .d [(0, 12)] [(7, [30, 32]), (9, [32])], .d [(0, 8)] [(5, [41])]] Tryz.func65
def znj (P : Program) (x0 : AV) (σ : LO) (Z : ZT) : Prop :=
 zaV .sl x0 σ fun a s =>
 bP .gtr a (iN 64) s fun b s =>
 z1 Z b s
theorem e_op_Check_1 : F1 Tryz.prog zgX znj := zm [] Tryz.func66
def S_op_Same (P : Program) (x0 x1 : AV) (σ : LO) (Z : ZT) : Prop :=
 zbD x0 σ fun a s =>
 zbD x1 s fun b s =>
 fl 0 a s fun c s =>
 fl 0 b s fun d s =>
 bP .eql c d s fun e s =>
 gTl e 1 a s fun f s =>
 gTl e 1 b s fun g s =>
 gT e (bP .eql f g s) s fun h s =>
 anC e h s fun i s =>
 gTl i 2 a s fun j s =>
 gTl i 2 b s fun l s =>
 gT i (bP .eql j l s) s fun m s =>
 anC i m s fun n s =>
 gTl n 3 a s fun o s =>
 gTl n 3 b s fun p s =>
 gT n (bP .eql o p s) s fun q s =>
 anC n q s fun r s =>
 gTl r 4 a s fun u s =>
 gTl r 4 b s fun w s =>
 gT r (cA P zT [u, w, (.fn (.func zik) [] [])] s) s fun y s =>
 anC r y s fun z s =>
 z1 Z z s
theorem e_op_Same : F2 Tryz.prog zlo S_op_Same := zm [] Tryz.func67
def S_op_Name (P : Program) (x0 : AV) (σ : LO) (Z : ZT) : Prop :=
 cA P zme [x0] σ fun a s =>
 bP .gtr a (iN 0) s fun b s =>
 z1 Z b s
theorem e_op_Name : F1 Tryz.prog zlp S_op_Name := zm [] Tryz.func68
def zbp (P : Program) (x0 x1 : AV) (σ : LO) (Z : ZT) : Prop :=
 cA P zbC [x0, x1] σ fun a s =>
 bP .geq a (iN 0) s fun b s =>
 z1 Z b s
theorem zdl : F2 Tryz.prog zaD zbp := zm [] Tryz.func69
def zjC (P : Program) (x0 : AV) (σ : LO) (Z : ZT) : Prop :=
 zbD x0 σ fun a s =>
 zi true 7 a s fun b s =>
 cA P zgA [b] s fun c s =>
 bP .neq c (iN 0) s fun d s =>
 zo d (z2 Z eN c s) (fl 0 a s fun e s =>
 zay (.int .u64) e s fun f s =>
 zd 1 a s fun g s =>
 zi false 1 g s fun h s =>
 zay (.int .u64) h s fun i s =>
 zd 2 a s fun j s =>
 zi true 5 j s fun l s =>
 cA P zav [eN, f] s fun m t =>
 zI g s t ∧ (zI j s t ∧ (cA P zav [m, i] t fun n s =>
 zI j t s ∧ (cA P zqN [n, l] s fun o s =>
 z2 Z o (iN 0) s))))
theorem zoz : F1 Tryz.prog zgB zjC := zm [.d [(0, 3), (4, 3), (8, 2), (3, 1), (7, 1), (10, 3)] [(3, [14, 18]), (7, [18])]] Tryz.func70
def zkl (P : Program) (x0 x1 : AV) (σ : LO) (Z : ZT) : Prop :=
 cA P zgz [x0] σ fun a s =>
 gTm a x1 s fun b s =>
 gT a (cA P zeJ [b] s) s fun c s =>
 gT a (bP .gtr c (iN 0) s) s fun d s =>
 gTm a d s fun e s =>
 gFm e x1 s fun f s =>
 gF e (cA P zaU [f] s) s fun g s =>
 gF e (zds .neq .ptr g (.d .nilp) s) s fun h s =>
 gT a (orC e h s) s fun i s =>
 anC a i s fun j s =>
 z1 Z j s
theorem zpm : F2 Tryz.prog zhq zkl := zm [] Tryz.func71
def zgR (P : Program) (x0 x1 x2 : AV) (σ : LO) (Z : ZT) : Prop :=
 zR [iN 0, iN 0] σ fun a s =>
 cA P zbk [x0] s fun b s =>
 zo b (zB (zac [iN 0, iN 0] []) s fun c s =>
 zg 2 a c s fun _ s =>
 Z (zQ (zaz a s true 2) (zQ (some (iN 2)) (some []))) s) (bP .lss x1 (iN 0) s fun e s =>
 gFm e x1 s fun f s =>
 gF e (bP .geq f (iN 21) s) s fun g s =>
 orC e g s fun h s =>
 zo h (zB (zac [iN 0, iN 0] []) s fun i s =>
 zg 2 a i s fun _ s =>
 Z (zQ (zaz a s true 2) (zQ (some (iN 20)) (some []))) s) (bP .lss x2 (iN 1) s fun l s =>
 zo l (zB (zac [iN 0, iN 0] []) s fun m s =>
 zg 2 a m s fun _ s =>
 Z (zQ (zaz a s true 2) (zQ (some (iN 1)) (some []))) s) (zB (zac [iN 0, iN 0] [(0, 1, x1), (1, 1, x2)]) s fun o s =>
 cp [iN 0, iN 0] 2 o s fun p s =>
 (fun (q : LO → Prop) => nfl 1 x0 s fun w s =>
 zi true 2 p s fun y s =>
 zbe (.ints 2) false bF w y s fun z s =>
 unC .not z s fun A s =>
 zo A (nfl 1 x0 s fun B s =>
 zi true 2 p s fun C s =>
 zbl (.ints 2) B C bT s fun _ s =>
 nfl 0 x0 s fun E s =>
 zi true 2 p s fun F s =>
 m1 2 [iN 0, iN 0] F s fun G s =>
 zD 2 16 E G s fun H s =>
 zbr x0 s fun I s =>
 zd 0 I s fun J s =>
 zg 1 J H s fun _ s =>
 q s) (q s))
 (fun  s => zi true 2 p s fun r s =>
 zg 2 a r s fun _ s =>
 Z (zQ (zaz a s true 2) (zQ (some (iN 0)) (some []))) s))))
theorem zkO : F3 Tryz.prog zcv zgR := zm [.d [(0, 7)] [], .d [(0, 6)] [], .d [(0, 11)] []] Tryz.func72
def zlM (P : Program) (x0 : AV) (σ : LO) (Z : ZT) : Prop :=
 bP .lss x0 (iN 0) σ fun a s =>
 gFm a x0 s fun b s =>
 gF a (bP .geq b (iN 8) s) s fun c s =>
 orC a c s fun d s =>
 zo d (z1 Z (iN (-1)) s) (bP .add (iN 13) x0 s fun e s =>
 z1 Z e s)
theorem zqX : F1 Tryz.prog zij zlM := zm [] Tryz.func73
def zhV (P : Program) (x0 x1 : AV) (σ : LO) (Z : ZT) : Prop :=
 cA P zbo [x0] σ fun a s =>
 zo a (z1 Z (iN 0) s) (nfl 1 x0 s fun b s =>
 zay .toStr x1 s fun c s =>
 zbe .str true (iN 0) b c s fun d s =>
 zf d 0 s fun e s =>
 zf d 1 s fun f s =>
 zo f (z1 Z e s) (nfl 0 x0 s fun g s =>
 zaV .sl g s fun h s =>
 bP .geq h (iN 1048576) s fun i s =>
 zo i (z1 Z (iN 0) s) (zbr x0 s fun j s =>
 zd 0 j s fun l s =>
 zi false 1 l s fun m s =>
 cA P zbY [x1] s fun n t =>
 zI l s t ∧ (m1 1 [eN] n t fun o s =>
 zD 1 24 m o s fun p s =>
 zbr x0 s fun q s =>
 zd 0 q s fun r s =>
 zg 1 r p s fun _ s =>
 nfl 0 x0 s fun w s =>
 zaV .sl w s fun y s =>
 nfl 1 x0 s fun z s =>
 zay .toStr x1 s fun A s =>
 zbl .str z A y s fun _ s =>
 z1 Z y s))))
theorem zmt : F2 Tryz.prog zcX zhV := zm [.d [(0, 12)] [], .d [(0, 12)] [(6, [31])], .d [(0, 8)] []] Tryz.func74
def zjD (P : Program) (x0 : AV) (σ : LO) (Z : ZT) : Prop :=
 zbD x0 σ fun a s =>
 zR [iN 0] s fun b s =>
 zi true 30 a s fun c s =>
 cA P zdk [b, c] s fun _ s =>
 fl 0 b s fun e s =>
 bP .eql e (iN 0) s fun f s =>
 gT f (zi true 30 a s) s fun g s =>
 gT f (zi true 30 a s) s fun h s =>
 gT f (cA P zht [h] s) s fun i t =>
 zI a s t ∧ (gT f (cA P zhu [g, i] t) t fun j s =>
 gT f (unC .not j s) s fun l s =>
 anC f l s fun m s =>
 zo m (z1 Z (iN 100) s) (fl 0 b s fun n s =>
 z1 Z n s))
theorem zoA : F1 Tryz.prog zeI zjD := zm [.d [(0, 10)] [(6, [1])]] Tryz.func75
def zlP (P : Program) (x0 x1 x2 x3 x4 : AV) (σ : LO) (Z : ZT) : Prop :=
 zbD x2 σ fun a s =>
 cA P zdz [x0, x4] s fun b s =>
 zf b 0 s fun c s =>
 zf b 1 s fun d s =>
 gT d (zi true 2 a s) s fun e s =>
 gTm d x3 s fun f s =>
 gTm d c s fun g s =>
 gT d (zB (zac [iN 0, iN 0] [(0, 1, f), (1, 1, g)]) s) s fun h s =>
 gT d (zds .eql (.ints 2) e h s) s fun i s =>
 anC d i s fun j s =>
 gTm j x1 s fun l s =>
 gT j (zi true 2 a s) s fun m s =>
 gT j (cA P zdJ [l, m] s) s fun n s =>
 anC j n s fun o s =>
 z1 Z o s
theorem zqZ : F5 Tryz.prog zio zlP := zm [] Tryz.func76
def zqu (P : Program) (x0 : AV) (σ : LO) (Z : ZT) : Prop :=
 zbD x0 σ fun a s =>
 zR [iN 0, iN 0] s fun b s =>
 fl 0 a s fun c s =>
 bP .eql c (iN 7) s fun d s =>
 gTl d 13 a s fun e s =>
 gT d (zaV .sl e s) s fun f s =>
 gT d (bP .eql f (iN 1) s) s fun g s =>
 anC d g s fun h s =>
 zo h (fl 13 a s fun i s =>
 zO none 8 i (iN 0) s fun j s =>
 zd 6 j s fun l s =>
 zi true 2 l s fun m s =>
 zg 2 b m s fun _ s =>
 Z (zQ (zaz b s true 2) (some [])) s) (zd 28 a s fun o s =>
 zi true 2 o s fun p s =>
 zg 2 b p s fun _ s =>
 Z (zQ (zaz b s true 2) (some [])) s)
theorem e_auth_own : F1 Tryz.prog zmg zqu := zm [] Tryz.func77
def zko (P : Program) (x0 x1 : AV) (σ : LO) (Z : ZT) : Prop :=
 cA P zfu [x1] σ fun a s =>
 bP .neq a (iN 0) s fun b s =>
 zo b (z1 Z (iN 0) s) (bP .mul x0 x1 s fun c s =>
 bP .add c (iN 1) s fun d s =>
 z1 Z d s)
theorem zpp : F2 Tryz.prog zft zko := zm [] Tryz.func78
def zeU (P : Program) (x0 : AV) (σ : LO) (Z : ZT) : Prop :=
 zds .eql .ptr x0 (.d .nilp) σ fun a s =>
 gFm a x0 s fun b s =>
 gF a (zbr b s) s fun c s =>
 gFl a 1 c s fun d s =>
 gF a (zds .eql .map d (.d .nilmap) s) s fun e s =>
 orC a e s fun f s =>
 z1 Z f s
theorem zhe : F1 Tryz.prog zbo zeU := zm [] Tryz.func79
def znk (P : Program) (x0 : AV) (σ : LO) (Z : ZT) : Prop :=
 zaV .sl x0 σ fun a s =>
 bP .gtr a (iN 1048576) s fun b s =>
 zo b (z2 Z (.d .nilp) (iN 3) s) (cA P zdn [] s fun c s =>
 zaV .sl x0 s fun d s =>
 zec [(iN 0)] s fun v s e =>
 zed v fun f v => bP .lss f d s fun g s =>
 zo g (il false 1 1 x0 f s fun h s =>
 cA P zdz [c, h] s fun i s =>
 zf i 0 s fun _ s =>
 zf i 1 s fun l s =>
 zo l (z2 Z (.d .nilp) (iN 5) s) (cA P zcX [c, h] s fun _ s =>
 bP .add f (iN 1) s fun n s =>
 e [n] s)) (z2 Z c (iN 0) s))
theorem znf : F1 Tryz.prog zjo znk := zm [.l [15] [(2, 2), (6, 3), (16, 14)]] Tryz.func80
def zeA (P : Program) (x0 : AV) (σ : LO) (Z : ZT) : Prop :=
 zds .eql .ptr x0 (.d .nilp) σ fun a s =>
 gFm a x0 s fun b s =>
 gF a (zbr b s) s fun c s =>
 gFl a 1 c s fun d s =>
 gF a (zds .eql .map d (.d .nilmap) s) s fun e s =>
 orC a e s fun f s =>
 z1 Z f s
theorem zgL : F1 Tryz.prog zbk zeA := zm [] Tryz.func81
def zhl (P : Program) (x0 : AV) (σ : LO) (Z : ZT) : Prop :=
 zbD x0 σ fun a s =>
 (fun (b : LO → Prop) => fl 0 a s fun p s =>
 bP .eql p (iN 7) s fun q s =>
 gTl q 13 a s fun r s =>
 gT q (zaV .sl r s) s fun u s =>
 gT q (bP .eql u (iN 1) s) s fun w s =>
 anC q w s fun y s =>
 zo y (fl 13 a s fun z s =>
 il true 8 8 z (iN 0) s fun A s =>
 cp zl5 8 A s fun B s =>
 cA P zfv [] s fun C s =>
 zd 6 B s fun D s =>
 zg 2 D C s fun _ s =>
 zi true 8 B s fun F s =>
 m1 8 zl5 F s fun G s =>
 zd 13 a s fun H s =>
 zg 1 H G s fun _ s =>
 b s) (fl 0 a s fun J s =>
 cA P zcJ [J] s fun K s =>
 zo K (cA P zfv [] s fun L s =>
 zd 28 a s fun M s =>
 zg 2 M L s fun _ s =>
 b s) (b s)))
 (fun  s => zi true 30 a s fun c s =>
 cA P zgF [c] s fun d s =>
 zf d 0 s fun _ s =>
 zf d 1 s fun f s =>
 bP .neq f (iN 0) s fun g s =>
 zo g (z2 Z eN f s) (zB (zac [eN] []) s fun h s =>
 zbD h s fun i s =>
 zi true 30 a s fun j s =>
 cA P zbF [i, j] s fun _ s =>
 zbr i s fun m s =>
 zd 0 m s fun n s =>
 fl 0 n s fun o s =>
 z2 Z o (iN 0) s))
theorem zlz : F1 Tryz.prog zeH zhl := zm [] Tryz.func82
def zqt (P : Program) (x0 x1 : AV) (σ : LO) (Z : ZT) : Prop :=
 zaV .sl x1 σ fun a s =>
 zec [x0, (iN 0)] s fun v s b =>
 zed v fun c v => zed v fun d v => bP .lss d a s fun e s =>
 zo e (il false 1 1 x1 d s fun f s =>
 zeb [(iN 0), f] s fun g s =>
 zay (.int .u64) g s fun h s =>
 cA P zav [c, h] s fun i s =>
 bP .add d (iN 1) s fun j s =>
 b [i, j] s) (z1 Z c s)
theorem e_auth_put : F2 Tryz.prog zmf zqt := zm [.l [0, 9] [(6, 1), (10, 9)]] Tryz.func84
end Go.Proofs.YtdgcepphjnoalaaGreat
