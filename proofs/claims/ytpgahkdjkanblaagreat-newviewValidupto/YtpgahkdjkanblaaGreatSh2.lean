/- The conditions of each function, its slots as variables, and that the logic's conditions are these. Printed by program. -/
import Derived.Test.YtpgahkdjkanblaaGreatNm
import Derived.KernelRfl
set_option linter.all false
set_option maxRecDepth 100000
set_option linter.unusedVariables false
namespace Go.Proofs.YtpgahkdjkanblaaGreat
open Go.AW
def ziY (P : Program) (x0 x1 x2 : AV) (σ : LO) (Z : ZT) : Prop :=
 zW [iN 0, iN 0] σ fun a s =>
 cA P zcj [x0] s fun b s =>
 zh b (zF (zO [iN 0, iN 0] []) s fun c s =>
 zn 2 a c s fun _ s =>
 Z (zR (zaF a s true 2) (zR (some (iN 2)) (some []))) s) (bP .lss x1 (iN 0) s fun e s =>
 gFm e x1 s fun f s =>
 gF e (bP .geq f (iN 21) s) s fun g s =>
 orC e g s fun h s =>
 zh h (zF (zO [iN 0, iN 0] []) s fun i s =>
 zn 2 a i s fun _ s =>
 Z (zR (zaF a s true 2) (zR (some (iN 20)) (some []))) s) (bP .lss x2 (iN 1) s fun l s =>
 zh l (zF (zO [iN 0, iN 0] []) s fun m s =>
 zn 2 a m s fun _ s =>
 Z (zR (zaF a s true 2) (zR (some (iN 1)) (some []))) s) (zF (zO [iN 0, iN 0] [(0, 1, x1), (1, 1, x2)]) s fun o s =>
 cp [iN 0, iN 0] 2 o s fun p s =>
 (fun (q : LO → Prop) => nfl 1 x0 s fun w s =>
 zg true 2 p s fun y s =>
 zaL (.ints 2) false bF w y s fun z s =>
 unC .not z s fun A s =>
 zh A (nfl 1 x0 s fun B s =>
 zg true 2 p s fun C s =>
 zaY (.ints 2) B C bT s fun _ s =>
 nfl 0 x0 s fun E s =>
 zg true 2 p s fun F s =>
 m1 2 [iN 0, iN 0] F s fun G s =>
 zG 2 16 E G s fun H s =>
 zbP x0 s fun I s =>
 zb 0 I s fun J s =>
 zn 1 J H s fun _ s =>
 q s) (q s))
 (fun  s => zg true 2 p s fun r s =>
 zn 2 a r s fun _ s =>
 Z (zR (zaF a s true 2) (zR (some (iN 0)) (some []))) s))))
theorem ziK : F3 Tryz.prog zdO ziY := ze [.d [(0, 7)] [], .d [(0, 6)] [], .d [(0, 11)] []] Tryz.func27 (by decide +kernel) (by kernel_rfl) fun {_ _ _ _ _ _} => cast (by kernel_rfl)
def zkz (P : Program) (x0 x1 x2 : AV) (σ : LO) (Z : ZT) : Prop :=
 zW [iN 0, iN 0] σ fun a s =>
 bP .lss x1 (iN 0) s fun b s =>
 gFm b x1 s fun c s =>
 gF b (bP .geq c (iN 21) s) s fun d s =>
 orC b d s fun e s =>
 zh e (zF (zO [iN 0, iN 0] []) s fun f s =>
 zn 2 a f s fun _ s =>
 Z (zR (zaF a s true 2) (zR (some (iN 20)) (some []))) s) (bP .lss x2 (iN 1) s fun h s =>
 zh h (zF (zO [iN 0, iN 0] []) s fun i s =>
 zn 2 a i s fun _ s =>
 Z (zR (zaF a s true 2) (zR (some (iN 1)) (some []))) s) (zF (zO [iN 0, iN 0] [(0, 1, x1), (1, 1, x2)]) s fun l s =>
 cp [iN 0, iN 0] 2 l s fun m s =>
 (fun (n : LO → Prop) => zg true 2 m s fun q s =>
 cA P zcS [x0, q] s fun r s =>
 unC .not r s fun u s =>
 zh u (nfl 0 x0 s fun w s =>
 zg true 2 m s fun y s =>
 m1 2 [iN 0, iN 0] y s fun z s =>
 zG 2 16 eN w s fun A t =>
 zw m s t ∧ (zG 2 16 A z t fun B s =>
 zbP x0 s fun C s =>
 zb 0 C s fun D s =>
 zn 1 D B s fun _ s =>
 n s)) (n s))
 (fun  s => zg true 2 m s fun o s =>
 zn 2 a o s fun _ s =>
 Z (zR (zaF a s true 2) (zR (some (iN 0)) (some []))) s)))
theorem zkk : F3 Tryz.prog zgK zkz := ze [.d [(0, 5), (6, 2), (5, 1), (8, 4)] [(5, [8])]] Tryz.func28 (by decide +kernel) (by kernel_rfl) fun {_ _ _ _ _ _} => cast (by kernel_rfl)
def ziW (P : Program) (x0 : AV) (σ : LO) (Z : ZT) : Prop :=
 cA P zcz [x0] σ fun a s =>
 zh a (z1 Z (.d .nilp) s) (nfl 0 x0 s fun b s =>
 cA P zhf [b] s fun c s =>
 zd c 0 s fun d s =>
 zd c 1 s fun _ s =>
 z1 Z d s)
theorem ziI : F1 Tryz.prog zcT ziW := ze [] Tryz.func29 (by decide +kernel) (by kernel_rfl) fun {_ _ _ _} => cast (by kernel_rfl)
def zhZ (P : Program) (x0 : AV) (σ : LO) (Z : ZT) : Prop :=
 cA P zcj [x0] σ fun a s =>
 zh a (z1 Z (.d .nilp) s) (cA P zeM [] s fun b s =>
 nfl 0 x0 s fun c s =>
 zal .sl c s fun d s =>
 zbd [(iN 0)] s fun v s e =>
 zaC v fun f v => bP .lss f d s fun g s =>
 zh g (il true 2 2 c f s fun h s =>
 cp [iN 0, iN 0] 2 h s fun i s =>
 fl 0 i s fun j s =>
 fl 1 i s fun l s =>
 cA P zdO [b, j, l] s fun _ s =>
 bP .add f (iN 1) s fun n s =>
 e [n] s) (z1 Z b s))
theorem zhR : F1 Tryz.prog zcI zhZ := ze [.l [14] [(5, 1), (15, 10)]] Tryz.func30 (by decide +kernel) (by kernel_rfl) fun {_ _ _ _} => cast (by kernel_rfl)
def zpM (P : Program) (x0 x1 x2 : AV) (σ : LO) (Z : ZT) : Prop :=
 cA P zcL [x0] σ fun a s =>
 bP .neq a (iN 0) s fun b s =>
 zh b (z1 Z a s) (bP .lss x1 (iN 1) s fun c s =>
 gFm c x1 s fun d s =>
 gF c (bP .gtr d (iN 9007199254740992) s) s fun e s =>
 orC c e s fun f s =>
 zh f (z1 Z (iN 1) s) (zal .sl x2 s fun g s =>
 zbd [(iN (-1)), (iN 0)] s fun v s h =>
 zaC v fun i v => zaC v fun j v => bP .lss j g s fun l s =>
 zh l (il true 8 8 x2 j s fun m s =>
 cp [iN 0, iN 0, iN 0, iN 0, eN, eN, iN 0, iN 0] 8 m s fun n s =>
 fl 1 n s fun o s =>
 bP .leq o i s fun p s =>
 gF p (zb 1 n s) s fun q s =>
 gF p (zg false 1 q s) s fun r s =>
 gFm p x0 s fun u s =>
 gF p (cA P zcG [u] s) s fun w t =>
 zw q s t ∧ (gF p (bP .geq r w t) t fun y s =>
 orC p y s fun z s =>
 zh z (z1 Z (iN 1) s) (fl 1 n s fun A s =>
 bP .add j (iN 1) s fun B s =>
 h [A, B] s))) (zal .sl x2 s fun C s =>
 cA P zjg [x0] s fun D s =>
 bP .lss C D s fun E s =>
 zh E (z1 Z (iN 160) s) (z1 Z (iN 0) s))))
theorem zpl : F3 Tryz.prog zkT zpM := ze [.l [8, 24] [(6, 1), (10, 1), (25, 17)], .d [(0, 11)] [(8, [33])]] Tryz.func31 (by decide +kernel) (by kernel_rfl) fun {_ _ _ _ _ _} => cast (by kernel_rfl)
def zrv (P : Program) (x0 : AV) (σ : LO) (Z : ZT) : Prop :=
 cA P zgZ [(iN 2), x0] σ fun a s =>
 z1 Z a s
theorem zrk : F1 Tryz.prog zjg zrv := ze [] Tryz.func32 (by decide +kernel) (by kernel_rfl) fun {_ _ _ _} => cast (by kernel_rfl)
def zlF (P : Program) (x0 x1 : AV) (σ : LO) (Z : ZT) : Prop :=
 cA P zkQ [x0, x1] σ fun a s =>
 unC .not a s fun b s =>
 zh b (z1 Z (iN (-1)) s) (cA P zcG [x0] s fun c s =>
 bP .rem x1 c s fun d s =>
 z1 Z d s)
theorem zln : F2 Tryz.prog zhz zlF := ze [] Tryz.func33 (by decide +kernel) (by kernel_rfl) fun {_ _ _ _ _} => cast (by kernel_rfl)
def zpE (P : Program) (x0 x1 : AV) (σ : LO) (Z : ZT) : Prop :=
 cA P zeC [x0] σ fun a s =>
 bP .neq a (iN 0) s fun b s =>
 gFm b x1 s fun c s =>
 gF b (bP .lss c (iN 0) s) s fun d s =>
 orC b d s fun e s =>
 gFm e x1 s fun f s =>
 gF e (bP .gtr f (iN 9007199254740992) s) s fun g s =>
 orC e g s fun h s =>
 zh h (z1 Z (iN (-1)) s) (cA P zeK [x0] s fun i s =>
 bP .rem x1 i s fun j s =>
 z1 Z j s)
theorem zpd : F2 Tryz.prog zkJ zpE := ze [] Tryz.func37 (by decide +kernel) (by kernel_rfl) fun {_ _ _ _ _} => cast (by kernel_rfl)
def zmQ (P : Program) (x0 x1 : AV) (σ : LO) (Z : ZT) : Prop :=
 zaJ x0 σ fun a s =>
 zaJ x1 s fun b s =>
 fl 0 a s fun c s =>
 fl 0 b s fun d s =>
 bP .neq c d s fun e s =>
 gFl e 1 a s fun f s =>
 gFl e 1 b s fun g s =>
 gF e (bP .neq f g s) s fun h s =>
 orC e h s fun i s =>
 gFl i 2 a s fun j s =>
 gF i (zai .toStr j s) s fun l s =>
 gFl i 2 b s fun m s =>
 gF i (zai .toStr m s) s fun n s =>
 gF i (bP .neq l n s) s fun o s =>
 orC i o s fun p s =>
 gFl p 4 a s fun q s =>
 gFl p 4 b s fun r s =>
 gF p (bP .neq q r s) s fun u s =>
 orC p u s fun w s =>
 gFl w 5 a s fun y s =>
 gFl w 5 b s fun z s =>
 gF w (bP .neq y z s) s fun A s =>
 orC w A s fun B s =>
 gF B (zb 7 a s) s fun C s =>
 gF B (zg true 3 C s) s fun D s =>
 gF B (zb 7 b s) s fun E s =>
 gF B (zg true 3 E s) s fun F s =>
 gF B (cA P zfc [D, F] s) s fun G s =>
 gF B (unC .not G s) s fun H s =>
 orC B H s fun I s =>
 gFl I 3 a s fun J s =>
 gF I (zal .sl J s) s fun K s =>
 gFl I 3 b s fun L s =>
 gF I (zal .sl L s) s fun M s =>
 gF I (bP .neq K M s) s fun N s =>
 orC I N s fun O s =>
 gFl O 6 a s fun Q s =>
 gF O (zal .sl Q s) s fun R s =>
 gFl O 6 b s fun S s =>
 gF O (zal .sl S s) s fun T s =>
 gF O (bP .neq R T s) s fun U s =>
 orC O U s fun V s =>
 zh V (z1 Z bF s) (zbd [(iN 0)] s fun v s W =>
 zaC v fun X v => fl 3 a s fun Y s =>
 zal .sl Y s fun a0 s =>
 bP .lss X a0 s fun b0 s =>
 zh b0 (fl 3 a s fun c0 s =>
 il true 5 5 c0 X s fun d0 s =>
 fl 3 b s fun e0 s =>
 il true 5 5 e0 X s fun f0 s =>
 zcv .neq (.ints 5) d0 f0 s fun g0 s =>
 zh g0 (z1 Z bF s) (bP .add X (iN 1) s fun h0 s =>
 W [h0] s)) (zbd [(iN 0)] s fun v s i0 =>
 zaC v fun j0 v => fl 6 a s fun l0 s =>
 zal .sl l0 s fun m0 s =>
 bP .lss j0 m0 s fun o0 s =>
 zh o0 (fl 6 a s fun p0 s =>
 il false 1 1 p0 j0 s fun q0 s =>
 fl 6 b s fun r0 s =>
 il false 1 1 r0 j0 s fun u0 s =>
 bP .neq q0 u0 s fun w0 s =>
 zh w0 (z1 Z bF s) (bP .add j0 (iN 1) s fun y0 s =>
 i0 [y0] s)) (z1 Z bT s)))
theorem zmw : F2 Tryz.prog zis zmQ := ze [.l [5] [(4, 1), (68, 18)], .d [(0, 11)] [], .l [6] [(4, 1), (86, 18)], .d [(0, 11)] []] Tryz.func40 (by decide +kernel) (by kernel_rfl) fun {_ _ _ _ _} => cast (by kernel_rfl)
def zlC (P : Program) (x0 x1 : AV) (σ : LO) (Z : ZT) : Prop :=
 zaJ x0 σ fun a s =>
 zaJ x1 s fun b s =>
 fl 0 a s fun c s =>
 fl 0 b s fun d s =>
 bP .neq c d s fun e s =>
 gFl e 1 a s fun f s =>
 gFl e 1 b s fun g s =>
 gF e (bP .neq f g s) s fun h s =>
 orC e h s fun i s =>
 gF i (zb 2 a s) s fun j s =>
 gF i (zg true 3 j s) s fun l s =>
 gF i (zb 2 b s) s fun m s =>
 gF i (zg true 3 m s) s fun n s =>
 gF i (cA P zfc [l, n] s) s fun o s =>
 gF i (unC .not o s) s fun p s =>
 orC i p s fun q s =>
 gF q (zb 6 a s) s fun r s =>
 gF q (zg true 2 r s) s fun u s =>
 gF q (zb 6 b s) s fun w s =>
 gF q (zg true 2 w s) s fun y s =>
 gF q (zcv .neq (.ints 2) u y s) s fun z s =>
 orC q z s fun A s =>
 gFl A 5 a s fun B s =>
 gF A (zal .sl B s) s fun C s =>
 gFl A 5 b s fun D s =>
 gF A (zal .sl D s) s fun E s =>
 gF A (bP .neq C E s) s fun F s =>
 orC A F s fun G s =>
 zh G (z1 Z bF s) (zbd [(iN 0)] s fun v s H =>
 zaC v fun I v => fl 5 a s fun J s =>
 zal .sl J s fun K s =>
 bP .lss I K s fun L s =>
 zh L (fl 5 a s fun M s =>
 il true 7 7 M I s fun N s =>
 fl 5 b s fun O s =>
 il true 7 7 O I s fun Q s =>
 cA P zfN [N, Q] s fun R s =>
 unC .not R s fun S s =>
 zh S (z1 Z bF s) (bP .add I (iN 1) s fun T s =>
 H [T] s)) (z1 Z bT s))
theorem zlk : F2 Tryz.prog zhx zlC := ze [.l [5] [(4, 1), (42, 19)], .d [(0, 12)] []] Tryz.func41 (by decide +kernel) (by kernel_rfl) fun {_ _ _ _ _} => cast (by kernel_rfl)
def zjI (P : Program) (x0 : AV) (σ : LO) (Z : ZT) : Prop :=
 zcv .eql .ptr x0 (.d .nilp) σ fun a s =>
 gFm a x0 s fun b s =>
 gF a (zbP b s) s fun c s =>
 gFl a 1 c s fun d s =>
 gF a (zcv .eql .map d (.d .nilmap) s) s fun e s =>
 orC a e s fun f s =>
 z1 Z f s
theorem zjt : F1 Tryz.prog zcz zjI := ze [] Tryz.func43 (by decide +kernel) (by kernel_rfl) fun {_ _ _ _} => cast (by kernel_rfl)
def ziX (P : Program) (x0 : AV) (σ : LO) (Z : ZT) : Prop :=
 zcv .eql .ptr x0 (.d .nilp) σ fun a s =>
 gFm a x0 s fun b s =>
 gF a (zbP b s) s fun c s =>
 gFl a 1 c s fun d s =>
 gF a (zcv .eql .map d (.d .nilmap) s) s fun e s =>
 orC a e s fun f s =>
 z1 Z f s
theorem ziJ : F1 Tryz.prog zcj ziX := ze [] Tryz.func44 (by decide +kernel) (by kernel_rfl) fun {_ _ _ _} => cast (by kernel_rfl)
def znU (P : Program) (x0 : AV) (σ : LO) (Z : ZT) : Prop :=
 bP .lss x0 (iN 1) σ fun a s =>
 gFm a x0 s fun b s =>
 gF a (bP .gtr b (iN 4) s) s fun c s =>
 orC a c s fun d s =>
 zh d (z1 Z (iN 120) s) (z1 Z (iN 0) s)
theorem znG : F1 Tryz.prog zcL znU := ze [] Tryz.func45 (by decide +kernel) (by kernel_rfl) fun {_ _ _ _} => cast (by kernel_rfl)
def zrz (P : Program) (x0 x1 x2 : AV) (σ : LO) (Z : ZT) : Prop :=
 zaJ x2 σ fun a s =>
 cA P zkX [x0, x1] s fun b s =>
 unC .not b s fun c s =>
 gF c (zg true 30 a s) s fun d s =>
 gF c (cA P zfS [d] s) s fun e s =>
 gF c (bP .neq e (iN 0) s) s fun f s =>
 orC c f s fun g s =>
 zh g (z1 Z bF s) (zg true 30 a s fun h s =>
 cA P zjP [h] s fun i s =>
 zd i 0 s fun j s =>
 zd i 1 s fun l s =>
 bP .eql l (iN 0) s fun m s =>
 gTm m j s fun n s =>
 gT m (zam false n s) s fun o s =>
 gTm m o s fun p s =>
 gFm p x0 s fun q s =>
 gFm p x1 s fun r s =>
 gF p (zg true 30 a s) s fun u s =>
 gF p (zb 1 a s) s fun w s =>
 gF p (zg false 1 w s) s fun y s =>
 gFm p j s fun z s =>
 gF p (cA P zqv [u] s) s fun A t =>
 zw w s t ∧ (gF p (cA P zie [q, r, A, y, z] t) t fun B s =>
 gT m (orC p B s) s fun C s =>
 anC m C s fun D s =>
 z1 Z D s))
theorem zro : F3 Tryz.prog zml zrz := ze [.d [(0, 9), (10, 3), (9, 1), (13, 4)] [(9, [33])]] Tryz.func46 (by decide +kernel) (by kernel_rfl) fun {_ _ _ _ _ _} => cast (by kernel_rfl)
def ztw (P : Program) (x0 : AV) (σ : LO) (Z : ZT) : Prop :=
 bP .lss x0 (iN 1) σ fun a s =>
 gFm a x0 s fun b s =>
 gF a (bP .gtr b (iN 4) s) s fun c s =>
 orC a c s fun d s =>
 zh d (z1 Z (iN 120) s) (z1 Z (iN 0) s)
theorem zsG : F1 Tryz.prog zeC ztw := ze [] Tryz.func49 (by decide +kernel) (by kernel_rfl) fun {_ _ _ _} => cast (by kernel_rfl)
def ztx (P : Program) (x0 x1 x2 : AV) (σ : LO) (Z : ZT) : Prop :=
 zaJ x2 σ fun a s =>
 zg true 30 a s fun b s =>
 cA P zkK [b] s fun c s =>
 zd c 0 s fun d s =>
 zd c 1 s fun e s =>
 bP .neq e (iN 0) s fun f s =>
 gF f (zg true 30 a s) s fun g s =>
 gF f (cA P zkM [g] s) s fun h s =>
 gF f (bP .neq h (iN 0) s) s fun i s =>
 orC f i s fun j s =>
 zh j (z1 Z bF s) (zam false d s fun l s =>
 gFm l x0 s fun m s =>
 gFm l x1 s fun n s =>
 gF l (zg true 30 a s) s fun o s =>
 gF l (zb 1 a s) s fun p s =>
 gF l (zg false 1 p s) s fun q s =>
 gFm l d s fun r s =>
 gF l (cA P zvV [o] s) s fun u t =>
 zw p s t ∧ (gF l (cA P zje [m, n, u, q, r] t) t fun w s =>
 orC l w s fun y s =>
 z1 Z y s))
theorem zsH : F3 Tryz.prog zof ztx := ze [.d [(0, 6), (7, 3), (6, 1), (10, 3)] [(6, [28])]] Tryz.func50 (by decide +kernel) (by kernel_rfl) fun {_ _ _ _ _ _} => cast (by kernel_rfl)
def zmO (P : Program) (x0 x1 : AV) (σ : LO) (Z : ZT) : Prop :=
 zal .sl x0 σ fun a s =>
 zal .sl x1 s fun b s =>
 bP .neq a b s fun c s =>
 zh c (z1 Z bF s) (zbd [(iN 0)] s fun v s d =>
 zaC v fun e v => zal .sl x0 s fun f s =>
 bP .lss e f s fun g s =>
 zh g (il true 2 2 x0 e s fun h s =>
 il true 2 2 x1 e s fun i s =>
 zcv .neq (.ints 2) h i s fun j s =>
 zh j (z1 Z bF s) (bP .add e (iN 1) s fun l s =>
 d [l] s)) (z1 Z bT s))
theorem zmu : F2 Tryz.prog zfM zmO := ze [.l [5] [(4, 1), (11, 15)], .d [(0, 9)] []] Tryz.func52 (by decide +kernel) (by kernel_rfl) fun {_ _ _ _ _} => cast (by kernel_rfl)
def zmJ (P : Program) (x0 : AV) (σ : LO) (Z : ZT) : Prop :=
 zal .sl x0 σ fun a s =>
 zbd [eN, (iN 0)] s fun v s b =>
 zaC v fun c v => zaC v fun d v => bP .lss d a s fun e s =>
 zh e (il true 9 9 x0 d s fun f s =>
 cp [iN 0, iN 0, iN 0, (.d (.str [])), (.d (.str [])), iN 0, eN, iN 0, iN 0] 9 f s fun g s =>
 zb 0 g s fun h s =>
 zb 2 h s fun i s =>
 zg true 5 i s fun j s =>
 cA P zqu [j] s fun l s =>
 zb 0 g s fun m s =>
 zb 2 m s fun n s =>
 zn 5 n l s fun _ s =>
 zg true 9 g s fun p s =>
 m1 9 [iN 0, iN 0, iN 0, (.d (.str [])), (.d (.str [])), iN 0, eN, iN 0, iN 0] p s fun q s =>
 zG 9 104 c q s fun r s =>
 bP .add d (iN 1) s fun u s =>
 b [r, u] s) (z1 Z c s)
theorem zmp : F1 Tryz.prog zin zmJ := ze [.l [3, 8] [(5, 1), (9, 14)]] Tryz.func53 (by decide +kernel) (by kernel_rfl) fun {_ _ _ _} => cast (by kernel_rfl)
def zky (P : Program) (x0 x1 : AV) (σ : LO) (Z : ZT) : Prop :=
 zaJ x0 σ fun a s =>
 zaJ x1 s fun b s =>
 fl 0 a s fun c s =>
 fl 0 b s fun d s =>
 bP .eql c d s fun e s =>
 gTl e 1 a s fun f s =>
 gTl e 1 b s fun g s =>
 gT e (bP .eql f g s) s fun h s =>
 anC e h s fun i s =>
 gT i (zb 2 a s) s fun j s =>
 gT i (zg true 5 j s) s fun l s =>
 gT i (zb 2 b s) s fun m s =>
 gT i (zg true 5 m s) s fun n s =>
 gT i (cA P zqr [l, n] s) s fun o s =>
 anC i o s fun p s =>
 z1 Z p s
theorem zkj : F2 Tryz.prog zgJ zky := ze [] Tryz.func54 (by decide +kernel) (by kernel_rfl) fun {_ _ _ _ _} => cast (by kernel_rfl)
def zlG (P : Program) (x0 : AV) (σ : LO) (Z : ZT) : Prop :=
 cA P zgZ [(iN 3), x0] σ fun a s =>
 z1 Z a s
theorem zlo : F1 Tryz.prog zcG zlG := ze [] Tryz.func55 (by decide +kernel) (by kernel_rfl) fun {_ _ _ _} => cast (by kernel_rfl)
def zpQ (P : Program) (x0 : AV) (σ : LO) (Z : ZT) : Prop :=
 zaJ x0 σ fun a s =>
 zW [iN 0, iN 0, iN 0, iN 0, iN 0, iN 0, iN 0, iN 0, iN 0, eN, iN 0, iN 0, eN, eN, eN, eN, (.d (.str [])), iN 0, (.d (.str [])), iN 0, eN, eN, iN 0, iN 0, eN, iN 0, iN 0, eN, iN 0, iN 0] s fun b s =>
 fl 1 a s fun c s =>
 fl 0 a s fun d s =>
 zg true 8 a s fun e s =>
 m1 8 [iN 0, iN 0, iN 0, iN 0, eN, eN, iN 0, iN 0] e s fun f s =>
 zF (zO [iN 0, iN 0, iN 0, iN 0, iN 0, iN 0, iN 0, iN 0, iN 0, eN, iN 0, iN 0, eN, eN, eN, eN, (.d (.str [])), iN 0, (.d (.str [])), iN 0, eN, eN, iN 0, iN 0, eN, iN 0, iN 0, eN, iN 0, iN 0] [(0, 1, (iN 7)), (1, 1, c), (2, 1, d), (13, 1, f)]) s fun g s =>
 zn 30 b g s fun _ s =>
 Z (zR (zaF b s true 30) (some [])) s
theorem zpp : F1 Tryz.prog zkY zpQ := ze [] Tryz.func56 (by decide +kernel) (by kernel_rfl) fun {_ _ _ _} => cast (by kernel_rfl)
def zpL (P : Program) (x0 x1 x2 x3 : AV) (σ : LO) (Z : ZT) : Prop :=
 zaJ x0 σ fun a s =>
 zaJ x1 s fun b s =>
 zaJ x3 s fun c s =>
 cA P zom [x2] s fun d s =>
 zd d 0 s fun e s =>
 zd d 1 s fun f s =>
 bP .neq f (iN 0) s fun g s =>
 gFm g e s fun h s =>
 gF g (zg true 3 c s) s fun i s =>
 gF g (cA P zeh [h, i] s) s fun j s =>
 gF g (unC .not j s) s fun l s =>
 orC g l s fun m s =>
 gF m (zg false 1 a s) s fun n s =>
 gF m (cA P zeL [n] s) s fun o s =>
 gF m (bP .eql o (iN 0) s) s fun p s =>
 gFm m p s fun q s =>
 gT q (zg false 1 a s) s fun r s =>
 gT q (cA P zcT [r] s) s fun u s =>
 gT q (zcv .eql .ptr u (.d .nilp) s) s fun w s =>
 gF m (anC q w s) s fun y s =>
 orC m y s fun z s =>
 gF z (zg false 1 b s) s fun A s =>
 gF z (cA P zel [A] s) s fun B s =>
 gF z (bP .eql B (iN 0) s) s fun C s =>
 gFm z C s fun D s =>
 gT D (zg false 1 b s) s fun E s =>
 gT D (cA P zcI [E] s) s fun F s =>
 gT D (zcv .eql .ptr F (.d .nilp) s) s fun G s =>
 gF z (anC D G s) s fun H s =>
 orC z H s fun I s =>
 zh I (z1 Z bF s) (fl 2 c s fun J s =>
 cA P zaN [J, (.fn (.func zfP) [] [a, b, c])] s fun K s =>
 unC .not K s fun L s =>
 z1 Z L s)
theorem zpk : F4 Tryz.prog zkR zpL := ze [] Tryz.func57 (by decide +kernel) (by kernel_rfl) fun {_ _ _ _ _ _ _} => cast (by kernel_rfl)
def zlI (P : Program) (x0 x1 x2 x3 x4 x5 : AV) (σ : LO) (Z : ZT) : Prop :=
 zal .sl x5 σ fun a s =>
 zbd [x4, (iN 0)] s fun v s b =>
 zaC v fun c v => zaC v fun d v => bP .lss d a s fun e s =>
 zh e (il true 7 7 x5 d s fun f s =>
 cp [iN 0, iN 0, iN 0, iN 0, iN 0, eN, eN] 7 f s fun g s =>
 zg true 7 g s fun h s =>
 cA P zhA [x0, x1, x2, h] s fun i s =>
 unC .not i s fun j s =>
 gFl j 0 g s fun l s =>
 gFm j x3 s fun m s =>
 gF j (bP .geq l m s) s fun n s =>
 orC j n s fun o s =>
 gFl o 1 g s fun p s =>
 gFm o c s fun q s =>
 gF o (bP .leq p q s) s fun r s =>
 orC o r s fun u s =>
 gFm u x4 s fun w s =>
 gF u (bP .lss w (iN 0) s) s fun y s =>
 gFm u y s fun z s =>
 gTl z 1 g s fun A s =>
 gTm z x4 s fun B s =>
 gT z (bP .add (iN 8) B s) s fun C s =>
 gT z (bP .gtr A C s) s fun D s =>
 gF u (anC z D s) s fun E s =>
 orC u E s fun F s =>
 gFm F x4 s fun G s =>
 gF F (bP .geq G (iN 0) s) s fun H s =>
 gFm F H s fun I s =>
 gTl I 1 g s fun J s =>
 gTm I x4 s fun K s =>
 gT I (bP .sub J K s) s fun L s =>
 gT I (bP .gtr L (iN 8) s) s fun M s =>
 gF F (anC I M s) s fun N s =>
 orC F N s fun O s =>
 zh O (z1 Z bF s) (fl 1 g s fun Q s =>
 bP .add d (iN 1) s fun R s =>
 b [Q, R] s)) (z1 Z bT s)
theorem zlq : F6 Tryz.prog zhB zlI := ze [.l [13, 19] [(12, 1), (15, 1), (20, 46)]] Tryz.func58 (by decide +kernel) (by kernel_rfl) fun {_ _ _ _ _ _ _ _ _} => cast (by kernel_rfl)
def zpF (P : Program) (x0 : AV) (σ : LO) (Z : ZT) : Prop :=
 cA P zeC [x0] σ fun a s =>
 bP .neq a (iN 0) s fun b s =>
 zh b (z1 Z (iN 0) s) (bP .mul (iN 3) x0 s fun c s =>
 bP .add c (iN 1) s fun d s =>
 z1 Z d s)
theorem zpe : F1 Tryz.prog zeK zpF := ze [] Tryz.func59 (by decide +kernel) (by kernel_rfl) fun {_ _ _ _} => cast (by kernel_rfl)
def zrr (P : Program) (x0 : AV) (σ : LO) (Z : ZT) : Prop :=
 zaJ x0 σ fun a s =>
 zW [iN 0, iN 0, iN 0, iN 0, iN 0, iN 0, iN 0, iN 0, iN 0, eN, iN 0, iN 0, eN, eN, eN, eN, (.d (.str [])), iN 0, (.d (.str [])), iN 0, eN, eN, iN 0, iN 0, eN, iN 0, iN 0, eN, iN 0, iN 0] s fun b s =>
 fl 1 a s fun c s =>
 fl 0 a s fun d s =>
 zg true 8 a s fun e s =>
 m1 8 [iN 0, iN 0, iN 0, iN 0, eN, eN, iN 0, iN 0] e s fun f s =>
 zF (zO [iN 0, iN 0, iN 0, iN 0, iN 0, iN 0, iN 0, iN 0, iN 0, eN, iN 0, iN 0, eN, eN, eN, eN, (.d (.str [])), iN 0, (.d (.str [])), iN 0, eN, eN, iN 0, iN 0, eN, iN 0, iN 0, eN, iN 0, iN 0] [(0, 1, (iN 7)), (1, 1, c), (2, 1, d), (13, 1, f)]) s fun g s =>
 zn 30 b g s fun _ s =>
 Z (zR (zaF b s true 30) (some [])) s
theorem zrg : F1 Tryz.prog zmf zrr := ze [] Tryz.func60 (by decide +kernel) (by kernel_rfl) fun {_ _ _ _} => cast (by kernel_rfl)
def ztv (P : Program) (x0 x1 x2 x3 : AV) (σ : LO) (Z : ZT) : Prop :=
 zaJ x3 σ fun a s =>
 cA P zeC [x2] s fun b s =>
 bP .neq b (iN 0) s fun c s =>
 zh c (z1 Z bF s) (zF (zO [iN 0, iN 0, iN 0, eN, eN, eN] [(0, 1, x2)]) s fun d s =>
 zaJ d s fun e s =>
 zg true 3 a s fun f s =>
 cA P zeX [e, f] s fun g s =>
 unC .not g s fun h s =>
 zh h (z1 Z bF s) (zbd [(iN 0)] s fun v s i =>
 zaC v fun j v => fl 2 a s fun l s =>
 zal .sl l s fun m s =>
 bP .lss j m s fun n s =>
 zh n (fl 2 a s fun o s =>
 il true 2 2 o j s fun p s =>
 fl 2 a s fun q s =>
 zD none 2 q j s fun r s =>
 fl 0 r s fun u s =>
 fl 0 a s fun w s =>
 fl 1 a s fun y s =>
 cA P zeE [x0, x1, p, u, (iN 6), (iN 0), w, y] s fun z s =>
 unC .not z s fun A s =>
 zh A (z1 Z bF s) (bP .add j (iN 1) s fun B s =>
 i [B] s)) (z1 Z bT s)))
theorem zsF : F4 Tryz.prog zoe ztv := ze [.l [10] [(8, 1), (21, 26)], .d [(0, 19)] []] Tryz.func61 (by decide +kernel) (by kernel_rfl) fun {_ _ _ _ _ _ _} => cast (by kernel_rfl)
def ztu (P : Program) (x0 x1 x2 x3 x4 x5 : AV) (σ : LO) (Z : ZT) : Prop :=
 zbd [x4, (iN 0)] σ fun v s a =>
 zaC v fun b v => zaC v fun c v => zal .sl x5 s fun d s =>
 bP .lss c d s fun e s =>
 zh e (il true 7 7 x5 c s fun f s =>
 cA P zoc [x0, x1, x2, f] s fun g s =>
 unC .not g s fun h s =>
 gFm h x5 s fun i s =>
 gFm h c s fun j s =>
 gF h (zD none 7 i j s) s fun l s =>
 gFl h 0 l s fun m s =>
 gFm h x3 s fun n s =>
 gF h (bP .geq m n s) s fun o s =>
 orC h o s fun p s =>
 gFm p x5 s fun q s =>
 gFm p c s fun r s =>
 gF p (zD none 7 q r s) s fun u s =>
 gFl p 1 u s fun w s =>
 gFm p b s fun y s =>
 gF p (bP .leq w y s) s fun z s =>
 orC p z s fun A s =>
 gFm A x5 s fun B s =>
 gFm A c s fun C s =>
 gF A (zD none 7 B C s) s fun D s =>
 gFl A 1 D s fun E s =>
 gFm A x4 s fun F s =>
 gF A (bP .leq E F s) s fun G s =>
 orC A G s fun H s =>
 gFm H x5 s fun I s =>
 gFm H c s fun J s =>
 gF H (zD none 7 I J s) s fun K s =>
 gFl H 1 K s fun L s =>
 gF H (bP .sub L (iN 8) s) s fun M s =>
 gFm H x4 s fun N s =>
 gF H (bP .gtr M N s) s fun O s =>
 orC H O s fun Q s =>
 zh Q (z1 Z bF s) (zD none 7 x5 c s fun R s =>
 fl 1 R s fun S s =>
 bP .add c (iN 1) s fun T s =>
 a [S, T] s)) (z1 Z bT s)
theorem zsE : F6 Tryz.prog zod ztu := ze [.l [13, 14] [(12, 1), (16, 57)]] Tryz.func62 (by decide +kernel) (by kernel_rfl) fun {_ _ _ _ _ _ _ _ _} => cast (by kernel_rfl)
def zlM (P : Program) (σ : LO) (Z : ZT) : Prop :=
 zau σ fun a s =>
 zF (zO [eN, (.d .nilmap)] [(1, 1, a)]) s fun b s =>
 zaJ b s fun c s =>
 z1 Z c s
theorem zlu : F0 Tryz.prog zhC zlM := ze [] Tryz.func63 (by decide +kernel) (by kernel_rfl) fun {_ _ _} => cast (by kernel_rfl)
def zjJ (P : Program) (x0 x1 : AV) (σ : LO) (Z : ZT) : Prop :=
 cA P zcz [x0] σ fun a s =>
 zh a (z2 Z (iN 0) bF s) (nfl 1 x0 s fun b s =>
 zai .toStr x1 s fun c s =>
 zaL .str true (iN 0) b c s fun d s =>
 zd d 0 s fun e s =>
 zd d 1 s fun f s =>
 z2 Z e f s)
theorem zju : F2 Tryz.prog zcA zjJ := ze [.d [(0, 12)] []] Tryz.func64 (by decide +kernel) (by kernel_rfl) fun {_ _ _ _ _} => cast (by kernel_rfl)
def zkA (P : Program) (x0 x1 : AV) (σ : LO) (Z : ZT) : Prop :=
 cA P zcz [x0] σ fun a s =>
 zh a (z1 Z (iN 0) s) (nfl 1 x0 s fun b s =>
 zai .toStr x1 s fun c s =>
 zaL .str true (iN 0) b c s fun d s =>
 zd d 0 s fun e s =>
 zd d 1 s fun f s =>
 zh f (z1 Z e s) (nfl 0 x0 s fun g s =>
 zal .sl g s fun h s =>
 bP .geq h (iN 1048576) s fun i s =>
 zh i (z1 Z (iN 0) s) (zbP x0 s fun j s =>
 zb 0 j s fun l s =>
 zg false 1 l s fun m s =>
 cA P zdP [x1] s fun n t =>
 zw l s t ∧ (m1 1 [eN] n t fun o s =>
 zG 1 24 m o s fun p s =>
 zbP x0 s fun q s =>
 zb 0 q s fun r s =>
 zn 1 r p s fun _ s =>
 nfl 0 x0 s fun w s =>
 zal .sl w s fun y s =>
 nfl 1 x0 s fun z s =>
 zai .toStr x1 s fun A s =>
 zaY .str z A y s fun _ s =>
 z1 Z y s))))
theorem zkl : F2 Tryz.prog zgL zkA := ze [.d [(0, 12)] [], .d [(0, 12)] [(6, [31])], .d [(0, 8)] []] Tryz.func65 (by decide +kernel) (by kernel_rfl) fun {_ _ _ _ _} => cast (by kernel_rfl)
def zhD (P : Program) (x0 x1 : AV) (σ : LO) (Z : ZT) : Prop :=
 zbd [(iN 0)] σ fun v s a =>
 zaC v fun b v => nfl 0 x0 s fun c s =>
 zal .sl c s fun d s =>
 bP .lss b d s fun e s =>
 zh e (nfl 0 x0 s fun f s =>
 il false 1 1 f b s fun g s =>
 cA P zqs [g, x1] s fun h s =>
 zh h (bP .add b (iN 1) s fun i s =>
 z2 Z i bT s) (bP .add b (iN 1) s fun j s =>
 a [j] s)) (z2 Z (iN 0) bF s)
theorem zfn : F2 Tryz.prog zcF zhD := ze [.l [6] [(4, 2), (7, 20)]] Tryz.func66 (by decide +kernel) (by kernel_rfl) fun {_ _ _ _ _} => cast (by kernel_rfl)
def ziQ (P : Program) (x0 x1 : AV) (σ : LO) (Z : ZT) : Prop :=
 zaJ x1 σ fun a s =>
 zbd [(iN 0)] s fun v s b =>
 zaC v fun c v => nfl 0 x0 s fun d s =>
 zal .sl d s fun e s =>
 bP .lss c e s fun f s =>
 zh f (nfl 0 x0 s fun g s =>
 il true 2 2 g c s fun h s =>
 zg true 2 a s fun i s =>
 zcv .eql (.ints 2) h i s fun j s =>
 zh j (z1 Z bT s) (bP .add c (iN 1) s fun l s =>
 b [l] s)) (z1 Z bF s)
theorem ziC : F2 Tryz.prog zcS ziQ := ze [.l [5] [(4, 1), (6, 18)], .d [(0, 9)] []] Tryz.func67 (by decide +kernel) (by kernel_rfl) fun {_ _ _ _ _} => cast (by kernel_rfl)
def znT (P : Program) (x0 x1 : AV) (σ : LO) (Z : ZT) : Prop :=
 cA P zcL [x1] σ fun a s =>
 bP .neq a (iN 0) s fun b s =>
 zh b (z1 Z (iN 0) s) (bP .mul x0 x1 s fun c s =>
 bP .add c (iN 1) s fun d s =>
 z1 Z d s)
theorem znF : F2 Tryz.prog zgZ znT := ze [] Tryz.func68 (by decide +kernel) (by kernel_rfl) fun {_ _ _ _ _} => cast (by kernel_rfl)
def zpK (P : Program) (x0 x1 : AV) (σ : LO) (Z : ZT) : Prop :=
 cA P zcL [x0] σ fun a s =>
 bP .eql a (iN 0) s fun b s =>
 gTm b x1 s fun c s =>
 gT b (bP .geq c (iN 0) s) s fun d s =>
 anC b d s fun e s =>
 gTm e x1 s fun f s =>
 gT e (bP .leq f (iN 9007199254740992) s) s fun g s =>
 anC e g s fun h s =>
 z1 Z h s
theorem zpj : F2 Tryz.prog zkQ zpK := ze [] Tryz.func69 (by decide +kernel) (by kernel_rfl) fun {_ _ _ _ _} => cast (by kernel_rfl)
def ztN (P : Program) (x0 x1 : AV) (σ : LO) (Z : ZT) : Prop :=
 cA P zcT [x0] σ fun a s =>
 zcv .neq .ptr a (.d .nilp) s fun b s =>
 gTm b x1 s fun c s =>
 gT b (cA P zcI [c] s) s fun d s =>
 gT b (zcv .neq .ptr d (.d .nilp) s) s fun e s =>
 anC b e s fun f s =>
 z1 Z f s
theorem zsX : F2 Tryz.prog zkX ztN := ze [] Tryz.func70 (by decide +kernel) (by kernel_rfl) fun {_ _ _ _ _} => cast (by kernel_rfl)
def znZ (P : Program) (x0 : AV) (σ : LO) (Z : ZT) : Prop :=
 zaJ x0 σ fun a s =>
 zg true 30 a s fun b s =>
 cA P zfR [b] s fun c s =>
 zd c 0 s fun d s =>
 zd c 1 s fun e s =>
 bP .neq e (iN 0) s fun f s =>
 zh f (z2 Z eN e s) (fl 0 a s fun g s =>
 (fun (h : AV → LO → Prop) => bP .eql g (iN 2) s fun U s =>
 zh U (h U s) (bP .eql g (iN 3) s fun V s =>
 zh V (h V s) (bP .eql g (iN 4) s fun W s =>
 h W s)))
 (fun i s => zh i (fl 0 a s fun j s =>
 fl 2 a s fun l s =>
 fl 3 a s fun m s =>
 fl 4 a s fun n s =>
 cA P zdb [j, l, m, n] s fun o s =>
 z2 Z o (iN 0) s) (bP .eql g (iN 6) s fun p s =>
 zh p (fl 0 a s fun q s =>
 fl 3 a s fun r s =>
 fl 4 a s fun u s =>
 cA P zdb [q, (iN 0), r, u] s fun w s =>
 z2 Z w (iN 0) s) (bP .eql g (iN 9) s fun y s =>
 zh y (fl 0 a s fun z s =>
 fl 3 a s fun A s =>
 cA P zdb [z, (iN 0), A, (iN 0)] s fun B s =>
 z2 Z B (iN 0) s) (bP .eql g (iN 5) s fun C s =>
 zh C (m1 1 [(.d (.int .u8 0))] (.d (.int .u8 5)) s fun D s =>
 fl 2 a s fun E s =>
 fl 5 a s fun F s =>
 fl 6 a s fun G s =>
 zb 7 a s fun H s =>
 fl 0 H s fun I s =>
 zb 7 a s fun J s =>
 fl 1 J s fun K s =>
 zj false 1 5 (zO (rep [iN 0] 5) [(0, 1, E), (1, 1, F), (2, 1, G), (3, 1, I), (4, 1, K)]) s fun L s =>
 cA P zni [D, L] s fun M s =>
 z2 Z M (iN 0) s) ((fun (N : AV → LO → Prop) => bP .eql g (iN 7) s fun S s =>
 zh S (N S s) (bP .eql g (iN 8) s fun T s =>
 N T s))
 (fun O s => zh O (m1 1 [(.d (.int .u8 0))] (.d (.int .u8 6)) s fun Q s =>
 zG 1 1 Q d s fun R s =>
 z2 Z R (iN 0) s) (z2 Z eN (iN 0) s))))))))
theorem znL : F1 Tryz.prog zjP znZ := ze [] Tryz.func73 (by decide +kernel) (by kernel_rfl) fun {_ _ _ _} => cast (by kernel_rfl)
def zpG (P : Program) (x0 : AV) (σ : LO) (Z : ZT) : Prop :=
 zaJ x0 σ fun a s =>
 zg true 30 a s fun b s =>
 cA P zjM [b] s fun c s =>
 zd c 0 s fun d s =>
 zd c 1 s fun e s =>
 bP .neq e (iN 0) s fun f s =>
 zh f (z2 Z eN e s) (fl 0 a s fun g s =>
 (fun (h : AV → LO → Prop) => bP .eql g (iN 2) s fun b0 s =>
 zh b0 (h b0 s) (bP .eql g (iN 3) s fun c0 s =>
 zh c0 (h c0 s) (bP .eql g (iN 4) s fun d0 s =>
 h d0 s)))
 (fun i s => zh i (fl 0 a s fun j s =>
 fl 2 a s fun l s =>
 fl 3 a s fun m s =>
 fl 4 a s fun n s =>
 cA P zdy [j, l, m, n] s fun o s =>
 z2 Z o (iN 0) s) (bP .eql g (iN 6) s fun p s =>
 zh p (fl 0 a s fun q s =>
 fl 3 a s fun r s =>
 fl 4 a s fun u s =>
 cA P zdy [q, (iN 0), r, u] s fun w s =>
 z2 Z w (iN 0) s) (bP .eql g (iN 9) s fun y s =>
 zh y (fl 0 a s fun z s =>
 fl 3 a s fun A s =>
 cA P zdy [z, (iN 0), A, (iN 0)] s fun B s =>
 z2 Z B (iN 0) s) (bP .eql g (iN 5) s fun C s =>
 zh C (m1 1 [(.d (.int .u8 0))] (.d (.int .u8 5)) s fun D s =>
 fl 2 a s fun E s =>
 zb 5 a s fun F s =>
 zg false 1 F s fun G s =>
 zb 6 a s fun H s =>
 zg false 1 H s fun I s =>
 cA P zeD [D, E] s fun J t =>
 zw F s t ∧ (zw H s t ∧ (cA P zeD [J, G] t fun K s =>
 zw H t s ∧ (cA P zeD [K, I] s fun L s =>
 zb 7 a s fun M s =>
 fl 0 M s fun N s =>
 zb 7 a s fun O s =>
 zb 1 O s fun Q s =>
 zg false 1 Q s fun R s =>
 cA P zeD [L, N] s fun S t =>
 zw Q s t ∧ (cA P zeD [S, R] t fun T s =>
 z2 Z T (iN 0) s))))) ((fun (U : AV → LO → Prop) => bP .eql g (iN 7) s fun Y s =>
 zh Y (U Y s) (bP .eql g (iN 8) s fun a0 s =>
 U a0 s))
 (fun V s => zh V (m1 1 [(.d (.int .u8 0))] (.d (.int .u8 6)) s fun W s =>
 zG 1 1 W d s fun X s =>
 z2 Z X (iN 0) s) (z2 Z eN (iN 0) s))))))))
theorem zpf : F1 Tryz.prog zkK zpG := ze [.d [(0, 3), (4, 2), (7, 2), (3, 1), (6, 1), (9, 2)] [(3, [51, 54]), (6, [54])], .d [(0, 4), (5, 3), (4, 1), (8, 3)] [(4, [63])]] Tryz.func79 (by decide +kernel) (by kernel_rfl) fun {_ _ _ _} => cast (by kernel_rfl)
end Go.Proofs.YtpgahkdjkanblaaGreat
