/- The conditions of each function, its slots as variables, and that the logic's conditions are these. Printed by program. -/
import Derived.Test.YtpgahkdjkanblaaGreatNm
import Derived.KernelRfl
set_option linter.all false
set_option maxRecDepth 100000
set_option linter.unusedVariables false
namespace Go.Proofs.YtpgahkdjkanblaaGreat
open Go.AW
def zjH (P : Program) (x0 x1 x2 x3 : AV) (σ : LO) (Z : ZT) : Prop :=
 zaJ x0 σ fun a s =>
 zg true 2 a s fun b s =>
 cA P zfm [b] s fun c s =>
 zd c 0 s fun d s =>
 zd c 1 s fun e s =>
 zd c 2 s fun f s =>
 zd c 3 s fun g s =>
 zd c 4 s fun h s =>
 cA P zkW [] s fun i s =>
 unC .not i s fun j s =>
 gFm j h s fun l s =>
 gF j (unC .not l s) s fun m s =>
 orC j m s fun n s =>
 zh n (cA P zkW [] s fun o s =>
 z1 Z o s) (zal .sl x3 s fun p s =>
 zbd [(iN 0)] s fun v s q =>
 zaC v fun r v => bP .lss r p s fun u s =>
 zh u (il true 8 8 x3 r s fun w s =>
 cp [iN 0, iN 0, iN 0, iN 0, eN, eN, iN 0, iN 0] 8 w s fun y s =>
 zg true 8 y s fun z s =>
 zg true 8 y s fun A s =>
 cA P zit [d, e, x1, x2, z] s fun B t =>
 zw y s t ∧ (cA P zob [f, g, x1, x2, A] t fun C s =>
 zcv .neq .bool B C s fun D s =>
 zh D (z1 Z bF s) (bP .add r (iN 1) s fun E s =>
 q [E] s))) (zbP f s fun F s =>
 zb 0 F s fun G s =>
 zg false 1 G s fun H s =>
 zal .sl H s fun I s =>
 cA P zeL [d] s fun J t =>
 zw G s t ∧ (bP .eql J I t fun K s =>
 gTm K e s fun L s =>
 gTm K g s fun M s =>
 gT K (zbP M s) s fun N s =>
 gT K (zb 0 N s) s fun O s =>
 gT K (zg false 1 O s) s fun Q s =>
 gT K (zal .sl Q s) s fun R s =>
 gT K (cA P zel [L] s) s fun S t =>
 zw O s t ∧ (gT K (bP .eql S R t) t fun T s =>
 anC K T s fun U s =>
 z1 Z U s))))
theorem zjs : F4 Tryz.prog zjj zjH := ze [.l [33] [(8, 1), (15, 1), (34, 17)], .d [(0, 5), (6, 5), (5, 1), (11, 2)] [(5, [15])], .d [(0, 1), (2, 5), (1, 1), (7, 3), (11, 5), (10, 1), (16, 3)] [(1, [55]), (10, [64])]] Tryz.func5 (by decide +kernel) (by kernel_rfl) fun {_ _ _ _ _ _ _} => cast (by kernel_rfl)
def zhE (P : Program) (x0 : AV) (σ : LO) (Z : ZT) : Prop :=
 zaJ x0 σ fun a s =>
 fl 0 a s fun b s =>
 cA P zhf [b] s fun c s =>
 zd c 0 s fun d s =>
 zd c 1 s fun e s =>
 fl 0 a s fun f s =>
 cA P zka [f] s fun g s =>
 zd g 0 s fun h s =>
 zd g 1 s fun i s =>
 cA P zeM [] s fun j s =>
 zF (zO [eN] []) s fun l s =>
 zaJ l s fun m s =>
 bP .neq e (iN 0) s fun n s =>
 gFm n i s fun o s =>
 gF n (bP .neq o (iN 0) s) s fun p s =>
 orC n p s fun q s =>
 gFm q d s fun r s =>
 gF q (zcv .eql .ptr r (.d .nilp) s) s fun u s =>
 orC q u s fun w s =>
 gFm w j s fun y s =>
 gF w (zcv .eql .ptr y (.d .nilp) s) s fun z s =>
 orC w z s fun A s =>
 zh A (Z (zR (some (.d .nilp)) (zR (some (.d .nilp)) (zR (some (.d .nilp)) (zR (some (.d .nilp)) (zR (some bF) (some [])))))) s) (fl 1 a s fun B s =>
 zal .sl B s fun C s =>
 zbd [(iN 0)] s fun v s D =>
 zaC v fun E v => bP .lss E C s fun F s =>
 zh F (il true 2 2 B E s fun G s =>
 cp [iN 0, iN 0] 2 G s fun H s =>
 fl 0 H s fun I s =>
 fl 1 H s fun J s =>
 cA P zdO [j, I, J] s fun _ s =>
 fl 0 H s fun L s =>
 fl 1 H s fun M s =>
 cA P zgK [m, L, M] s fun _ s =>
 bP .add E (iN 1) s fun O s =>
 D [O] s) (Z (zR (some d) (zR (some j) (zR (some h) (zR (some m) (zR (some bT) (some [])))))) s))
theorem zfo : F1 Tryz.prog zfm zhE := ze [.l [47] [(14, 1), (48, 16)]] Tryz.func7 (by decide +kernel) (by kernel_rfl) fun {_ _ _ _} => cast (by kernel_rfl)
def ztM (P : Program) (σ : LO) (Z : ZT) : Prop :=
 zF (zO [iN 0, iN 0, iN 0, (.d (.str [])), (.d (.str [])), iN 0, eN] [(0, 1, (iN 1)), (1, 1, (iN 1))]) σ fun a s =>
 zF (zO [iN 0, iN 0] [(0, 1, (iN 14)), (1, 1, (iN 1))]) s fun b s =>
 zF (zO [iN 0, iN 0, iN 0, (.d (.str [])), (.d (.str [])), iN 0, eN, iN 0, iN 0] [(0, 7, a), (7, 2, b)]) s fun c s =>
 m1 9 [iN 0, iN 0, iN 0, (.d (.str [])), (.d (.str [])), iN 0, eN, iN 0, iN 0] c s fun d s =>
 zF (zO [iN 0, iN 0, iN 0, iN 0, iN 0, eN, eN] [(1, 1, (iN 1)), (6, 1, d)]) s fun e s =>
 zF (zO [iN 0, iN 0, iN 0, iN 0, iN 0, eN, eN] [(1, 1, (iN 3))]) s fun f s =>
 zj false 7 2 (zO (rep [iN 0, iN 0, iN 0, iN 0, iN 0, eN, eN] 2) [(0, 7, e), (7, 7, f)]) s fun g s =>
 zF (zO [iN 0, iN 0, iN 0, iN 0, eN, eN, iN 0, iN 0] [(1, 1, (iN 0)), (5, 1, g)]) s fun h s =>
 zF (zO [iN 0, iN 0, iN 0, iN 0, eN, eN, iN 0, iN 0] [(1, 1, (iN 1))]) s fun i s =>
 zF (zO [iN 0, iN 0, iN 0, iN 0, iN 0, eN, eN] [(0, 1, (iN 1)), (1, 1, (iN 3)), (6, 1, d)]) s fun j s =>
 m1 7 [iN 0, iN 0, iN 0, iN 0, iN 0, eN, eN] j s fun l s =>
 zF (zO [iN 0, iN 0, iN 0, iN 0, eN, eN, iN 0, iN 0] [(1, 1, (iN 3)), (5, 1, l)]) s fun m s =>
 zj false 8 3 (zO (rep [iN 0, iN 0, iN 0, iN 0, eN, eN, iN 0, iN 0] 3) [(0, 8, h), (8, 8, i), (16, 8, m)]) s fun n s =>
 cA P zfk [(iN 1), (iN 2), n] s fun o s =>
 zd o 0 s fun p s =>
 zd o 1 s fun q s =>
 zd o 2 s fun r s =>
 cp [iN 0, iN 0, eN] 3 p s fun _ s =>
 bP .eql r (iN 0) s fun w s =>
 gTm w q s fun y s =>
 gT w (zal .sl y s) s fun z s =>
 gT w (bP .eql z (iN 3) s) s fun A s =>
 anC w A s fun B s =>
 gTm B q s fun C s =>
 gT B (zD none 5 C (iN 0) s) s fun D s =>
 gTl B 2 D s fun E s =>
 gT B (zal .sl E s) s fun F s =>
 gT B (bP .eql F (iN 1) s) s fun G s =>
 anC B G s fun H s =>
 gTm H q s fun I s =>
 gT H (zD none 5 I (iN 1) s) s fun J s =>
 gTl H 2 J s fun K s =>
 gT H (zal .sl K s) s fun L s =>
 gT H (bP .eql L (iN 0) s) s fun M s =>
 anC H M s fun N s =>
 gTm N q s fun O s =>
 gT N (zD none 5 O (iN 2) s) s fun Q s =>
 gTl N 2 Q s fun R s =>
 gT N (zal .sl R s) s fun S s =>
 gT N (bP .eql S (iN 1) s) s fun T s =>
 anC N T s fun U s =>
 gTm U q s fun V s =>
 gT U (zD none 5 V (iN 2) s) s fun W s =>
 gTl U 1 W s fun X s =>
 gT U (bP .eql X (iN 3) s) s fun Y s =>
 anC U Y s fun a0 s =>
 gTm a0 q s fun b0 s =>
 gT a0 (zD none 5 b0 (iN 2) s) s fun c0 s =>
 gTl a0 0 c0 s fun d0 s =>
 gT a0 (bP .eql d0 (iN 2) s) s fun e0 s =>
 anC a0 e0 s fun f0 s =>
 z1 Z f0 s
theorem zsW : F0 Tryz.prog zkW ztM := ze [] Tryz.func8 (by decide +kernel) (by kernel_rfl) fun {_ _ _} => cast (by kernel_rfl)
def zvu (P : Program) (x0 x1 : AV) (σ : LO) (Z : ZT) : Prop :=
 zaJ x0 σ fun a s =>
 zaJ x1 s fun b s =>
 fl 0 a s fun c s =>
 fl 0 b s fun d s =>
 bP .neq c d s fun e s =>
 gFl e 1 a s fun f s =>
 gFl e 1 b s fun g s =>
 gF e (bP .neq f g s) s fun h s =>
 orC e h s fun i s =>
 gFl i 2 a s fun j s =>
 gFl i 2 b s fun l s =>
 gF i (bP .neq j l s) s fun m s =>
 orC i m s fun n s =>
 gFl n 3 a s fun o s =>
 gFl n 3 b s fun p s =>
 gF n (bP .neq o p s) s fun q s =>
 orC n q s fun r s =>
 gFl r 4 a s fun u s =>
 gFl r 4 b s fun w s =>
 gF r (bP .neq u w s) s fun y s =>
 orC r y s fun z s =>
 gFl z 5 a s fun A s =>
 gFl z 5 b s fun B s =>
 gF z (bP .neq A B s) s fun C s =>
 orC z C s fun D s =>
 gFl D 6 a s fun E s =>
 gFl D 6 b s fun F s =>
 gF D (bP .neq E F s) s fun G s =>
 orC D G s fun H s =>
 gF H (zb 7 a s) s fun I s =>
 gF H (zg true 2 I s) s fun J s =>
 gF H (zb 7 b s) s fun K s =>
 gF H (zg true 2 K s) s fun L s =>
 gF H (zcv .neq (.ints 2) J L s) s fun M s =>
 orC H M s fun N s =>
 gFl N 16 a s fun O s =>
 gFl N 16 b s fun Q s =>
 gF N (bP .neq O Q s) s fun R s =>
 orC N R s fun S s =>
 gFl S 17 a s fun T s =>
 gFl S 17 b s fun U s =>
 gF S (bP .neq T U s) s fun V s =>
 orC S V s fun W s =>
 gF W (zb 28 a s) s fun X s =>
 gF W (zg true 2 X s) s fun Y s =>
 gF W (zb 28 b s) s fun a0 s =>
 gF W (zg true 2 a0 s) s fun b0 s =>
 gF W (zcv .neq (.ints 2) Y b0 s) s fun c0 s =>
 orC W c0 s fun d0 s =>
 zh d0 (z1 Z bF s) (fl 9 a s fun e0 s =>
 fl 9 b s fun f0 s =>
 cA P zjZ [e0, f0] s fun g0 s =>
 unC .not g0 s fun h0 s =>
 gF h0 (zb 10 a s) s fun i0 s =>
 gF h0 (zg true 3 i0 s) s fun j0 s =>
 gF h0 (zb 10 b s) s fun l0 s =>
 gF h0 (zg true 3 l0 s) s fun m0 s =>
 gF h0 (cA P zfc [j0, m0] s) s fun o0 s =>
 gF h0 (unC .not o0 s) s fun p0 s =>
 orC h0 p0 s fun q0 s =>
 gFl q0 14 a s fun r0 s =>
 gFl q0 14 b s fun u0 s =>
 gF q0 (cA P zgH [r0, u0] s) s fun w0 s =>
 gF q0 (unC .not w0 s) s fun y0 s =>
 orC q0 y0 s fun z0 s =>
 gFl z0 15 a s fun A0 s =>
 gF z0 (zai .toStr A0 s) s fun B0 s =>
 gFl z0 15 b s fun C0 s =>
 gF z0 (zai .toStr C0 s) s fun D0 s =>
 gF z0 (bP .neq B0 D0 s) s fun E0 s =>
 orC z0 E0 s fun F0 s =>
 gF F0 (zb 18 a s) s fun G0 s =>
 gF F0 (zg true 10 G0 s) s fun H0 s =>
 gF F0 (zb 18 b s) s fun I0 s =>
 gF F0 (zg true 10 I0 s) s fun J0 s =>
 gF F0 (cA P zis [H0, J0] s) s fun K0 s =>
 gF F0 (unC .not K0 s) s fun L0 s =>
 orC F0 L0 s fun M0 s =>
 gFl M0 13 a s fun N0 s =>
 gF M0 (zal .sl N0 s) s fun O0 s =>
 gFl M0 13 b s fun Q0 s =>
 gF M0 (zal .sl Q0 s) s fun R0 s =>
 gF M0 (bP .neq O0 R0 s) s fun S0 s =>
 orC M0 S0 s fun T0 s =>
 zh T0 (z1 Z bF s) (zbd [(iN 0)] s fun v s U0 =>
 zaC v fun V0 v => fl 13 a s fun W0 s =>
 zal .sl W0 s fun X0 s =>
 bP .lss V0 X0 s fun Y0 s =>
 zh Y0 (fl 13 a s fun a1 s =>
 il true 8 8 a1 V0 s fun b1 s =>
 fl 13 b s fun c1 s =>
 il true 8 8 c1 V0 s fun d1 s =>
 cA P zhx [b1, d1] s fun e1 s =>
 unC .not e1 s fun f1 s =>
 zh f1 (z1 Z bF s) (bP .add V0 (iN 1) s fun g1 s =>
 U0 [g1] s)) (z1 Z bT s)))
theorem zuN : F2 Tryz.prog zqp zvu := ze [.l [5] [(4, 1), (129, 19)], .d [(0, 12)] []] Tryz.func11 (by decide +kernel) (by kernel_rfl) fun {_ _ _ _ _} => cast (by kernel_rfl)
def zkB (P : Program) (x0 : AV) (σ : LO) (Z : ZT) : Prop :=
 cA P zcz [x0] σ fun a s =>
 zh a (z1 Z (iN 0) s) (nfl 0 x0 s fun b s =>
 zal .sl b s fun c s =>
 z1 Z c s)
theorem zkm : F1 Tryz.prog zeL zkB := ze [] Tryz.func13 (by decide +kernel) (by kernel_rfl) fun {_ _ _ _} => cast (by kernel_rfl)
def zjK (P : Program) (x0 : AV) (σ : LO) (Z : ZT) : Prop :=
 cA P zcj [x0] σ fun a s =>
 zh a (z1 Z (iN 0) s) (nfl 0 x0 s fun b s =>
 zal .sl b s fun c s =>
 z1 Z c s)
theorem zjv : F1 Tryz.prog zel zjK := ze [] Tryz.func14 (by decide +kernel) (by kernel_rfl) fun {_ _ _ _} => cast (by kernel_rfl)
def znQ (P : Program) (x0 x1 : AV) (σ : LO) (Z : ZT) : Prop :=
 zaJ x0 σ fun a s =>
 zaJ x1 s fun b s =>
 fl 0 a s fun c s =>
 fl 0 b s fun d s =>
 bP .eql c d s fun e s =>
 gTl e 1 a s fun f s =>
 gTl e 1 b s fun g s =>
 gT e (bP .eql f g s) s fun h s =>
 anC e h s fun i s =>
 gTl i 2 a s fun j s =>
 gTl i 2 b s fun l s =>
 gT i (cA P zfM [j, l] s) s fun m s =>
 anC i m s fun n s =>
 z1 Z n s
theorem znC : F2 Tryz.prog zfc znQ := ze [] Tryz.func17 (by decide +kernel) (by kernel_rfl) fun {_ _ _ _ _} => cast (by kernel_rfl)
def zkw (P : Program) (x0 x1 : AV) (σ : LO) (Z : ZT) : Prop :=
 zal .sl x0 σ fun a s =>
 zal .sl x1 s fun b s =>
 bP .neq a b s fun c s =>
 zh c (z1 Z bF s) (zbd [(iN 0)] s fun v s d =>
 zaC v fun e v => zal .sl x0 s fun f s =>
 bP .lss e f s fun g s =>
 zh g (zD none 5 x0 e s fun h s =>
 fl 0 h s fun i s =>
 zD none 5 x1 e s fun j s =>
 fl 0 j s fun l s =>
 bP .neq i l s fun m s =>
 gFm m x0 s fun n s =>
 gFm m e s fun o s =>
 gF m (zD none 5 n o s) s fun p s =>
 gFl m 1 p s fun q s =>
 gFm m x1 s fun r s =>
 gFm m e s fun u s =>
 gF m (zD none 5 r u s) s fun w s =>
 gFl m 1 w s fun y s =>
 gF m (bP .neq q y s) s fun z s =>
 orC m z s fun A s =>
 gFm A x0 s fun B s =>
 gFm A e s fun C s =>
 gF A (zD none 5 B C s) s fun D s =>
 gF A (zb 3 D s) s fun E s =>
 gF A (zg true 2 E s) s fun F s =>
 gFm A x1 s fun G s =>
 gFm A e s fun H s =>
 gF A (zD none 5 G H s) s fun I s =>
 gF A (zb 3 I s) s fun J s =>
 gF A (zg true 2 J s) s fun K s =>
 gF A (zcv .neq (.ints 2) F K s) s fun L s =>
 orC A L s fun M s =>
 gFm M x0 s fun N s =>
 gFm M e s fun O s =>
 gF M (zD none 5 N O s) s fun Q s =>
 gFl M 2 Q s fun R s =>
 gFm M x1 s fun S s =>
 gFm M e s fun T s =>
 gF M (zD none 5 S T s) s fun U s =>
 gFl M 2 U s fun V s =>
 gF M (cA P zjZ [R, V] s) s fun W s =>
 gF M (unC .not W s) s fun X s =>
 orC M X s fun Y s =>
 zh Y (z1 Z bF s) (bP .add e (iN 1) s fun a0 s =>
 d [a0] s)) (z1 Z bT s))
theorem zkh : F2 Tryz.prog zgH zkw := ze [.l [5] [(4, 1), (11, 57)], .d [(0, 51)] []] Tryz.func18 (by decide +kernel) (by kernel_rfl) fun {_ _ _ _ _} => cast (by kernel_rfl)
def zlJ (P : Program) (x0 x1 x2 : AV) (σ : LO) (Z : ZT) : Prop :=
 zW [iN 0, iN 0, eN] σ fun a s =>
 cA P zkT [x0, x1, x2] s fun b s =>
 bP .neq b (iN 0) s fun c s =>
 zh c (zF (zO [iN 0, iN 0, eN] []) s fun d s =>
 zn 3 a d s fun _ s =>
 Z (zR (zaF a s true 3) (zR (some eN) (zR (some b) (some [])))) s) (zD none 8 x2 (iN 0) s fun f s =>
 zb 2 f s fun g s =>
 zg true 3 g s fun h s =>
 cp [iN 0, iN 0, eN] 3 h s fun i s =>
 zau s fun j s =>
 zal .sl x2 s fun l s =>
 zbd [(iN 0), (iN 0)] s fun v s m =>
 zaC v fun n v => zaC v fun o v => bP .lss o l s fun p s =>
 zh p (il true 8 8 x2 o s fun q s =>
 cp [iN 0, iN 0, iN 0, iN 0, eN, eN, iN 0, iN 0] 8 q s fun r s =>
 (fun (u : LO → Prop) => zb 2 r s fun Y s =>
 fl 0 Y s fun a0 s =>
 fl 0 i s fun b0 s =>
 bP .gtr a0 b0 s fun c0 s =>
 zh c0 (zb 2 r s fun d0 s =>
 zg true 3 d0 s fun e0 s =>
 zn 3 i e0 s fun _ s =>
 u s) (u s))
 (fun  s => fl 5 r s fun w s =>
 zal .sl w s fun y s =>
 zbd [n, (iN 0)] s fun v s z =>
 zaC v fun A v => zaC v fun B v => bP .lss B y s fun C s =>
 zh C (il true 7 7 w B s fun D s =>
 cp [iN 0, iN 0, iN 0, iN 0, iN 0, eN, eN] 7 D s fun E s =>
 (fun (F : LO → Prop) => fl 1 E s fun J s =>
 zaL .int true (.agg [iN 0, iN 0, iN 0, iN 0, iN 0, eN, eN]) j J s fun K s =>
 zd K 0 s fun L s =>
 zd K 1 s fun M s =>
 cp [iN 0, iN 0, iN 0, iN 0, iN 0, eN, eN] 7 L s fun N s =>
 unC .not M s fun O s =>
 gFl O 0 E s fun Q s =>
 gFl O 0 N s fun R s =>
 gF O (bP .gtr Q R s) s fun S s =>
 orC O S s fun T s =>
 zh T (fl 1 E s fun U s =>
 zg true 7 E s fun V s =>
 zaY .int j U V s fun _ s =>
 F s) (F s))
 (fun  s => fl 1 E s fun G s =>
 zdc [A, G] s fun H s =>
 bP .add B (iN 1) s fun I s =>
 z [H, I] s)) (bP .add o (iN 1) s fun X s =>
 m [A, X] s))) (fl 2 i s fun g0 s =>
 zG 2 16 eN g0 s fun h0 s =>
 zb 2 i s fun i0 s =>
 zn 1 i0 h0 s fun _ s =>
 fl 0 i s fun l0 s =>
 bP .lss l0 (iN 0) s fun m0 s =>
 gFm m0 n s fun o0 s =>
 gFl m0 0 i s fun p0 s =>
 gF m0 (bP .leq o0 p0 s) s fun q0 s =>
 orC m0 q0 s fun r0 s =>
 zh r0 (zg true 3 i s fun u0 s =>
 zn 3 a u0 s fun _ s =>
 Z (zR (zaF a s true 3) (zR (some eN) (zR (some (iN 0)) (some [])))) s) (fl 0 i s fun y0 s =>
 bP .sub n y0 s fun z0 s =>
 zdj [z0, (iN 8)] s fun A0 s =>
 zbd [eN, (iN 0)] s fun v s B0 =>
 zaC v fun C0 v => zaC v fun D0 v => bP .lss D0 A0 s fun E0 s =>
 zh E0 (fl 0 i s fun F0 s =>
 bP .add F0 D0 s fun G0 s =>
 bP .add G0 (iN 1) s fun H0 s =>
 zaL .int false (.agg [iN 0, iN 0, iN 0, iN 0, iN 0, eN, eN]) j H0 s fun I0 s =>
 zaf false 6 1 I0 s fun J0 s =>
 cA P zin [J0] s fun K0 s =>
 zF (zO [iN 0, iN 0, eN, iN 0, iN 0] [(0, 1, x1), (1, 1, H0), (2, 1, K0)]) s fun L0 s =>
 m1 5 [iN 0, iN 0, eN, iN 0, iN 0] L0 s fun M0 s =>
 zG 5 56 C0 M0 s fun N0 s =>
 bP .add D0 (iN 1) s fun O0 s =>
 B0 [N0, O0] s) (zg true 3 i s fun Q0 s =>
 zn 3 a Q0 s fun _ s =>
 Z (zR (zaF a s true 3) (zR (some C0) (zR (some (iN 0)) (some [])))) s))))
theorem zlr : F3 Tryz.prog zfk zlJ := ze [.l [12, 37] [(14, 1), (16, 3), (38, 44)], .l [12, 52] [(16, 3), (53, 28)], .l [19, 101] [(20, 2), (102, 19)]] Tryz.func19 (by decide +kernel) (by kernel_rfl) fun {_ _ _ _ _ _} => cast (by kernel_rfl)
def S_r12_Big (P : Program) (x0 : AV) (σ : LO) (Z : ZT) : Prop :=
 cA P zeC [x0] σ fun a s =>
 bP .neq a (iN 0) s fun b s =>
 zh b (z1 Z (iN 0) s) (bP .mul (iN 2) x0 s fun c s =>
 bP .add c (iN 1) s fun d s =>
 z1 Z d s)
theorem e_r12_Big : F1 Tryz.prog zsk S_r12_Big := ze [] Tryz.func20 (by decide +kernel) (by kernel_rfl) fun {_ _ _ _} => cast (by kernel_rfl)
def zvv (P : Program) (x0 x1 : AV) (σ : LO) (Z : ZT) : Prop :=
 zal .sl x0 σ fun a s =>
 zal .sl x1 s fun b s =>
 bP .neq a b s fun c s =>
 zh c (z1 Z bF s) (zbd [(iN 0)] s fun v s d =>
 zaC v fun e v => zal .sl x0 s fun f s =>
 bP .lss e f s fun g s =>
 zh g (zD none 9 x0 e s fun h s =>
 zb 7 h s fun i s =>
 zg true 2 i s fun j s =>
 zD none 9 x1 e s fun l s =>
 zb 7 l s fun m s =>
 zg true 2 m s fun n s =>
 zcv .neq (.ints 2) j n s fun o s =>
 gFm o x0 s fun p s =>
 gFm o e s fun q s =>
 gF o (zD none 9 p q s) s fun r s =>
 gF o (zb 0 r s) s fun u s =>
 gF o (zg true 7 u s) s fun w s =>
 gFm o x1 s fun y s =>
 gFm o e s fun z s =>
 gF o (zD none 9 y z s) s fun A s =>
 gF o (zb 0 A s) s fun B s =>
 gF o (zg true 7 B s) s fun C s =>
 gF o (cA P zgJ [w, C] s) s fun D s =>
 gF o (unC .not D s) s fun E s =>
 orC o E s fun F s =>
 zh F (z1 Z bF s) (bP .add e (iN 1) s fun G s =>
 d [G] s)) (z1 Z bT s))
theorem zuO : F2 Tryz.prog zjZ zvv := ze [.l [5] [(4, 1), (11, 31)], .d [(0, 25)] []] Tryz.func21 (by decide +kernel) (by kernel_rfl) fun {_ _ _ _ _} => cast (by kernel_rfl)
def zmU (P : Program) (x0 x1 x2 x3 x4 : AV) (σ : LO) (Z : ZT) : Prop :=
 zaJ x4 σ fun a s =>
 cA P zcL [x2] s fun b s =>
 bP .eql b (iN 0) s fun c s =>
 gTl c 0 a s fun d s =>
 gTm c x3 s fun e s =>
 gT c (bP .eql d e s) s fun f s =>
 anC c f s fun g s =>
 gTl g 1 a s fun h s =>
 gT g (bP .geq h (iN 0) s) s fun i s =>
 anC g i s fun j s =>
 gT j (zb 1 a s) s fun l s =>
 gT j (zg false 1 l s) s fun m s =>
 gTm j x2 s fun n s =>
 gT j (cA P zcG [n] s) s fun o t =>
 zw l s t ∧ (gT j (bP .lss m o t) t fun p s =>
 anC j p s fun q s =>
 gTm q x0 s fun r s =>
 gTm q x1 s fun u s =>
 gT q (zg true 8 a s) s fun w s =>
 gT q (cA P zkY [w] s) s fun y s =>
 gT q (cA P zml [r, u, y] s) s fun z s =>
 anC q z s fun A s =>
 gTm A x0 s fun B s =>
 gTm A x1 s fun C s =>
 gTm A x2 s fun D s =>
 gT A (zb 2 a s) s fun E s =>
 gT A (zg true 3 E s) s fun F s =>
 gT A (cA P zkR [B, C, D, F] s) s fun G s =>
 anC A G s fun H s =>
 gT H (zb 2 a s) s fun I s =>
 gTl H 0 I s fun J s =>
 gT H (bP .rem J (iN 4) s) s fun K s =>
 gT H (bP .eql K (iN 0) s) s fun L s =>
 anC H L s fun M s =>
 gTm M x0 s fun N s =>
 gTm M x1 s fun O s =>
 gTm M x2 s fun Q s =>
 gTm M x3 s fun R s =>
 gT M (zb 2 a s) s fun S s =>
 gTl M 0 S s fun T s =>
 gTl M 5 a s fun U s =>
 gT M (cA P zhB [N, O, Q, R, T, U] s) s fun V s =>
 anC M V s fun W s =>
 z1 Z W s)
theorem zmA : F5 Tryz.prog zit zmU := ze [.d [(0, 56)] [(18, [26])]] Tryz.func22 (by decide +kernel) (by kernel_rfl) fun {_ _ _ _ _ _ _ _} => cast (by kernel_rfl)
def zts (P : Program) (x0 x1 x2 x3 x4 : AV) (σ : LO) (Z : ZT) : Prop :=
 zaJ x4 σ fun a s =>
 cA P zeC [x2] s fun b s =>
 bP .eql b (iN 0) s fun c s =>
 gTl c 0 a s fun d s =>
 gTm c x3 s fun e s =>
 gT c (bP .eql d e s) s fun f s =>
 anC c f s fun g s =>
 gTl g 1 a s fun h s =>
 gT g (bP .geq h (iN 0) s) s fun i s =>
 anC g i s fun j s =>
 gT j (zb 1 a s) s fun l s =>
 gT j (zg false 1 l s) s fun m s =>
 gTm j x2 s fun n s =>
 gT j (cA P zeK [n] s) s fun o t =>
 zw l s t ∧ (gT j (bP .lss m o t) t fun p s =>
 anC j p s fun q s =>
 gTm q x0 s fun r s =>
 gTm q x1 s fun u s =>
 gT q (zg true 8 a s) s fun w s =>
 gT q (cA P zmf [w] s) s fun y s =>
 gT q (cA P zof [r, u, y] s) s fun z s =>
 anC q z s fun A s =>
 gTm A x0 s fun B s =>
 gTm A x1 s fun C s =>
 gTm A x2 s fun D s =>
 gT A (zb 2 a s) s fun E s =>
 gT A (zg true 3 E s) s fun F s =>
 gT A (cA P zoe [B, C, D, F] s) s fun G s =>
 anC A G s fun H s =>
 gT H (zb 2 a s) s fun I s =>
 gTl H 0 I s fun J s =>
 gT H (bP .rem J (iN 4) s) s fun K s =>
 gT H (bP .eql K (iN 0) s) s fun L s =>
 anC H L s fun M s =>
 gTm M x0 s fun N s =>
 gTm M x1 s fun O s =>
 gTm M x2 s fun Q s =>
 gTm M x3 s fun R s =>
 gT M (zb 2 a s) s fun S s =>
 gTl M 0 S s fun T s =>
 gTl M 5 a s fun U s =>
 gT M (cA P zod [N, O, Q, R, T, U] s) s fun V s =>
 anC M V s fun W s =>
 z1 Z W s)
theorem zsC : F5 Tryz.prog zob zts := ze [.d [(0, 56)] [(18, [26])]] Tryz.func23 (by decide +kernel) (by kernel_rfl) fun {_ _ _ _ _ _ _ _} => cast (by kernel_rfl)
def zmX (P : Program) (x0 : AV) (σ : LO) (Z : ZT) : Prop :=
 zal .sl x0 σ fun a s =>
 bP .gtr a (iN 1048576) s fun b s =>
 zh b (z2 Z (.d .nilp) (iN 3) s) (cA P zhC [] s fun c s =>
 zal .sl x0 s fun d s =>
 zbd [(iN 0)] s fun v s e =>
 zaC v fun f v => bP .lss f d s fun g s =>
 zh g (il false 1 1 x0 f s fun h s =>
 cA P zcA [c, h] s fun i s =>
 zd i 0 s fun _ s =>
 zd i 1 s fun l s =>
 zh l (z2 Z (.d .nilp) (iN 5) s) (cA P zgL [c, h] s fun _ s =>
 bP .add f (iN 1) s fun n s =>
 e [n] s)) (z2 Z c (iN 0) s))
theorem zjw : F1 Tryz.prog zhf zmX := ze [.l [15] [(2, 2), (6, 3), (16, 14)]] Tryz.func24 (by decide +kernel) (by kernel_rfl) fun {_ _ _ _} => cast (by kernel_rfl)
def zvA (P : Program) (x0 : AV) (σ : LO) (Z : ZT) : Prop :=
 zal .sl x0 σ fun a s =>
 bP .gtr a (iN 1048576) s fun b s =>
 zh b (z2 Z (.d .nilp) (iN 3) s) (zF (zO [eN] []) s fun c s =>
 zaJ c s fun d s =>
 zbd [(iN 0)] s fun v s e =>
 zaC v fun f v => zal .sl x0 s fun g s =>
 bP .lss f g s fun h s =>
 zh h (il false 1 1 x0 f s fun i s =>
 cA P zcF [d, i] s fun j s =>
 zd j 0 s fun _ s =>
 zd j 1 s fun m s =>
 zh m (z2 Z (.d .nilp) (iN 5) s) (zbP d s fun n s =>
 zb 0 n s fun o s =>
 zg false 1 o s fun p s =>
 il false 1 1 x0 f s fun q s =>
 zG 1 1 eN q s fun r t =>
 zw o s t ∧ (m1 1 [eN] r t fun u s =>
 zG 1 24 p u s fun w s =>
 zbP d s fun y s =>
 zb 0 y s fun z s =>
 zn 1 z w s fun _ s =>
 bP .add f (iN 1) s fun B s =>
 e [B] s))) (z2 Z d (iN 0) s))
theorem zuT : F1 Tryz.prog zka zvA := ze [.l [5] [(2, 2), (6, 2), (13, 30)], .d [(0, 15)] [(9, [32])]] Tryz.func25 (by decide +kernel) (by kernel_rfl) fun {_ _ _ _} => cast (by kernel_rfl)
def zkC (P : Program) (σ : LO) (Z : ZT) : Prop :=
 zau σ fun a s =>
 zF (zO [eN, (.d .nilmap)] [(1, 1, a)]) s fun b s =>
 zaJ b s fun c s =>
 z1 Z c s
theorem zkn : F0 Tryz.prog zeM zkC := ze [] Tryz.func26 (by decide +kernel) (by kernel_rfl) fun {_ _ _} => cast (by kernel_rfl)
end Go.Proofs.YtpgahkdjkanblaaGreat
