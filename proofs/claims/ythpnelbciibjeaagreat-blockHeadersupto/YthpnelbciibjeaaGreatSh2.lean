/- The conditions of each function, its slots as variables, and that the logic's conditions are these. Printed by program. -/
import Derived.Test.YthpnelbciibjeaaGreatNm
import Derived.KernelRfl
set_option linter.all false
set_option maxRecDepth 100000
set_option linter.unusedVariables false
namespace Go.Proofs.YthpnelbciibjeaaGreat
open Go.AW
def zhL (P : Program) (x0 x1 : AV) (σ : LO) (Z : ZT) : Prop :=
 zcO [(iN 0)] σ fun v s a =>
 zbD v fun b v => nfl 0 x0 s fun c s =>
 zba .sl c s fun d s =>
 bP .lss b d s fun e s =>
 zq e (nfl 0 x0 s fun f s =>
 il false 1 1 f b s fun g s =>
 cA P zll [g, x1] s fun h s =>
 zq h (bP .add b (iN 1) s fun i s =>
 z2 Z i bT s) (bP .add b (iN 1) s fun j s =>
 a [j] s)) (z2 Z (iN 0) bF s)
theorem zmt : F2 Tryz.prog zeW zhL := zi [.l [6] [(4, 2), (7, 20)]] Tryz.func64
def zkR (P : Program) (x0 x1 : AV) (σ : LO) (Z : ZT) : Prop :=
 cA P zhq [x1] σ fun a s =>
 cA P zaG [x0, a] s fun b s =>
 z1 Z b s
theorem zpW : F2 Tryz.prog zhs zkR := zi [] Tryz.func65
def zjz (P : Program) (x0 : AV) (σ : LO) (Z : ZT) : Prop :=
 bP .lss x0 (iN 2) σ fun a s =>
 zq a (z1 Z (iN 0) s) (zcO [(iN 1)] s fun v s b =>
 zbD v fun c v => bP .sub x0 c s fun d s =>
 bP .lss c d s fun e s =>
 zq e (bP .mul c (iN 2) s fun f s =>
 b [f] s) (z1 Z c s))
theorem zog : F1 Tryz.prog zgw zjz := zi [.l [3] [(6, 7)]] Tryz.func66
def zkQ (P : Program) (x0 x1 x2 : AV) (σ : LO) (Z : ZT) : Prop :=
 cA P zhp [x1, x2] σ fun a s =>
 cA P zaG [x0, a] s fun b s =>
 z1 Z b s
theorem zpV : F3 Tryz.prog zhr zkQ := zi [] Tryz.func67
def zfe (P : Program) (x0 : AV) (σ : LO) (Z : ZT) : Prop :=
 zdH .eql .ptr x0 (.d .nilp) σ fun a s =>
 gFm a x0 s fun b s =>
 gF a (zbI b s) s fun c s =>
 gFl a 0 c s fun d s =>
 gF a (zdH .eql .map d (.d .nilmap) s) s fun e s =>
 orC a e s fun f s =>
 z1 Z f s
theorem zjh : F1 Tryz.prog zaB zfe := zi [] Tryz.func68
def zeL (P : Program) (x0 : AV) (σ : LO) (Z : ZT) : Prop :=
 cA P zaB [x0] σ fun a s =>
 zq a (z1 Z eN s) (nfl 0 x0 s fun b s =>
 zba .map b s fun c s =>
 zS (.int .u64) c s fun d s =>
 cA P zA [eN, d] s fun e s =>
 cp [eN] 1 e s fun f s =>
 cA P zcT [x0] s fun g s =>
 zba .sl g s fun h s =>
 zcO [(iN 0)] s fun v s i =>
 zbD v fun j v => bP .lss j h s fun l s =>
 zq l (il false 1 1 g j s fun m s =>
 nfl 0 x0 s fun n s =>
 zaO .str false (.d .nilp) n m s fun o s =>
 zt false 1 f s fun p s =>
 zS .toBytes m s fun q s =>
 zbI o s fun r s =>
 zg 0 r s fun u s =>
 zt false 1 u s fun w s =>
 zS (.int .u64) w s fun y s =>
 cA P zal [p, q] s fun z t =>
 zaf u s t ∧ (cA P zA [z, y] t fun A s =>
 zj 1 f A s fun _ s =>
 zt false 1 f s fun C s =>
 nfl 1 o s fun D s =>
 zba .sl D s fun E s =>
 zS (.int .u64) E s fun F s =>
 cA P zA [C, F] s fun G s =>
 zj 1 f G s fun _ s =>
 cA P zdq [x0, m] s fun I s =>
 zlg P I 2 s (fun v s J K L M =>
 zbD v fun N v => zbD v fun O v => s[J]? = some K ∧ ((fun s =>
 zt false 1 f s fun Q s =>
 cA P zal [Q, O] s fun R s =>
 zj 1 f R s fun _ s =>
 s[J]? = some L ∧ M (s.set J K)) (s.set J L))) fun s =>
 zt false 1 f s fun T s =>
 nfl 2 o s fun U s =>
 zba .map U s fun V t =>
 zaf f s t ∧ (zS (.int .u64) V t fun W s =>
 cA P zA [T, W] s fun X s =>
 zj 1 f X s fun _ s =>
 cA P zcK [x0, m] s fun a0 s =>
 zba .sl a0 s fun b0 s =>
 zcO [(iN 0)] s fun v s c0 =>
 zbD v fun d0 v => bP .lss d0 b0 s fun e0 s =>
 zq e0 (il false 1 1 a0 d0 s fun f0 s =>
 zt false 1 f s fun g0 s =>
 zS .toBytes f0 s fun h0 s =>
 zbI o s fun i0 s =>
 zg 2 i0 s fun j0 s =>
 zt false 1 j0 s fun l0 s =>
 zaO .str false (iN 0) l0 f0 s fun m0 s =>
 zS (.int .u64) m0 s fun o0 s =>
 cA P zal [g0, h0] s fun p0 t =>
 zaf j0 s t ∧ (zaf l0 s t ∧ (cA P zA [p0, o0] t fun q0 s =>
 zj 1 f q0 s fun _ s =>
 bP .add d0 (iN 1) s fun u0 s =>
 c0 [u0] s))) (bP .add j (iN 1) s fun w0 s =>
 i [w0] s)))) (zbI x0 s fun y0 s =>
 zg 1 y0 s fun z0 s =>
 zt true 24 z0 s fun A0 s =>
 zcO [(iN 0)] s fun v s B0 =>
 zbD v fun C0 v => bP .lss C0 (iN 8) s fun D0 s =>
 zq D0 (zaU true 8 3 A0 C0 s fun E0 s =>
 cp [iN 0, iN 0, iN 0] 3 E0 s fun F0 s =>
 zt false 1 f s fun G0 s =>
 fl 0 F0 s fun H0 s =>
 zS (.int .u64) H0 s fun I0 s =>
 cA P zA [G0, I0] s fun J0 s =>
 zj 1 f J0 s fun _ s =>
 zt false 1 f s fun L0 s =>
 zg 1 F0 s fun M0 s =>
 fl 0 M0 s fun N0 s =>
 zS (.int .u64) N0 s fun O0 s =>
 zg 1 F0 s fun Q0 s =>
 zg 1 Q0 s fun R0 s =>
 zt false 1 R0 s fun S0 s =>
 zS (.int .u64) S0 s fun T0 s =>
 cA P zA [L0, O0] s fun U0 t =>
 zaf R0 s t ∧ (cA P zA [U0, T0] t fun V0 s =>
 zj 1 f V0 s fun _ s =>
 bP .add C0 (iN 1) s fun X0 s =>
 B0 [X0] s)) (zt false 1 f s fun Y0 s =>
 z1 Z Y0 s)))
theorem zir : F1 Tryz.prog zcV zeL := zi [.l [25] [(5, 2), (10, 1), (26, 30), (61, 30)], .d [(0, 3), (4, 5), (3, 1), (9, 2)] [(3, [41])], .d [(0, 9)] [], .d [(0, 9)] [(5, [3])], .l [73] [(10, 1), (74, 16)], .d [(0, 3), (4, 7), (3, 1), (11, 2)] [(3, [83, 84])], .l [95] [(12, 1), (96, 19)], .d [(0, 5), (6, 4), (5, 1), (10, 2)] [(5, [110])]] Tryz.func69
def zcq (P : Program) (x0 : AV) (σ : LO) (Z : ZT) : Prop :=
 zar false x0 σ fun a s =>
 zq a (z1 Z eN s) (zl false 1 0 (zag (rep [(.d (.int .u8 0))] 0) []) s fun b s =>
 zy 1 1 b x0 s fun c s =>
 z1 Z c s)
theorem zeG : F1 Tryz.prog zY zcq := zi [] Tryz.func71
def zfi (P : Program) (x0 : AV) (σ : LO) (Z : ZT) : Prop :=
 zba .sl x0 σ fun a s =>
 bP .gtr a (iN 4) s fun b s =>
 zq b (z1 Z (iN 3) s) (zba .sl x0 s fun c s =>
 zcO [(iN 0)] s fun v s d =>
 zbD v fun e v => bP .lss e c s fun f s =>
 zq f (il true 9 9 x0 e s fun g s =>
 cp zl0 9 g s fun h s =>
 zg 0 h s fun i s =>
 zt true 7 i s fun j s =>
 cA P zdN [j] s fun l s =>
 bP .neq l (iN 0) s fun m s =>
 zq m (z1 Z l s) (zg 7 h s fun n s =>
 zt true 2 n s fun o s =>
 cA P zcu [o] s fun p s =>
 bP .neq p (iN 0) s fun q s =>
 zq q (z1 Z p s) (bP .add e (iN 1) s fun r s =>
 d [r] s))) (zba .sl x0 s fun u s =>
 zcO [(iN 0)] s fun v s w =>
 zbD v fun y v => bP .lss y u s fun z s =>
 zq z (il true 9 9 x0 y s fun A s =>
 zao zl0 s fun B s =>
 zj 9 B A s fun _ s =>
 zcY (.sl 9) x0 none (some y) none s fun D s =>
 zba .sl D s fun E s =>
 zcO [(iN 0)] s fun v s F =>
 zbD v fun G v => bP .lss G E s fun H s =>
 zq H (il true 9 9 D G s fun I s =>
 cp zl0 9 I s fun J s =>
 zg 0 B s fun K s =>
 fl 0 K s fun L s =>
 zg 0 J s fun M s =>
 fl 0 M s fun N s =>
 bP .eql L N s fun O s =>
 gT O (zg 0 B s) s fun Q s =>
 gTl O 1 Q s fun R s =>
 gT O (zg 0 J s) s fun S s =>
 gTl O 1 S s fun T s =>
 gT O (bP .eql R T s) s fun U s =>
 anC O U s fun V s =>
 zq V (z1 Z (iN 5) s) (bP .add G (iN 1) s fun W s =>
 F [W] s)) (bP .add y (iN 1) s fun X s =>
 w [X] s)) (z1 Z (iN 0) s)))
theorem zjj : F1 Tryz.prog zbU zfi := zi [.l [16] [(2, 1), (4, 3), (17, 16)], .l [35] [(2, 1), (7, 2), (10, 1), (36, 30)], .l [44] [(2, 1), (10, 1), (45, 20)]] Tryz.func72
def ziB (P : Program) (x0 : AV) (σ : LO) (Z : ZT) : Prop :=
 cA P zet [x0] σ fun a s =>
 bP .gtr a (iN 0) s fun b s =>
 gFm b x0 s fun c s =>
 gF b (cA P zcw [c] s) s fun d s =>
 gF b (zdH .neq .ptr d (.d .nilp) s) s fun e s =>
 orC b e s fun f s =>
 z1 Z f s
theorem znt : F1 Tryz.prog zfF ziB := zi [] Tryz.func73
def zgp (P : Program) (x0 x1 : AV) (σ : LO) (Z : ZT) : Prop :=
 cA P zbU [x1] σ fun a s =>
 bP .neq a (iN 0) s fun b s =>
 zq b (cA P zdb [x0] s fun c s =>
 z1 Z c s) (zZ P (.fn (.func zdr) [x1] []) [dm x0] s fun d s =>
 z1 Z d s)
theorem zkx : F2 Tryz.prog zdM zgp := zi [] Tryz.func74
def zfg (P : Program) (x0 x1 : AV) (σ : LO) (Z : ZT) : Prop :=
 zcj x1 σ fun a s =>
 zao [iN 0, iN 0] s fun b s =>
 zt true 5 a s fun c s =>
 cA P zgK [c] s fun d s =>
 (fun (e : AV → AV → AV → LO → Prop) => bP .eql d (iN 0) s fun o s =>
 zq o (fl 0 a s fun p s =>
 bP .eql p (iN 1) s fun q s =>
 zq q (fl 1 a s fun r s =>
 cA P zcI [x0, r] s fun u s =>
 e u (iN 0) eN s) (bP .eql p (iN 2) s fun w s =>
 zq w (zt true 5 a s fun y s =>
 cA P zcr [x0, y] s fun z s =>
 zd z 0 s fun A s =>
 zd z 1 s fun B s =>
 zd z 2 s fun C s =>
 e C A B s) (bP .eql p (iN 3) s fun D s =>
 zq D (zt true 5 a s fun E s =>
 cA P zcJ [x0, E] s fun F s =>
 zd F 0 s fun G s =>
 zd F 1 s fun H s =>
 e H G eN s) (bP .eql p (iN 4) s fun I s =>
 zq I (zt true 5 a s fun J s =>
 cA P zdj [x0, J] s fun K s =>
 zd K 0 s fun L s =>
 zd K 1 s fun M s =>
 e M L eN s) (e d (iN 0) eN s))))) (e d (iN 0) eN s))
 (fun f g h s => bP .neq f (iN 0) s fun i s =>
 zq i (zH (zag [iN 0, iN 0] [(0, 1, f)]) s fun j s =>
 zj 2 b j s fun _ s =>
 Z (zE (zaI b s true 2) (zE (some eN) (some []))) s) (zH (zag [iN 0, iN 0] [(1, 1, g)]) s fun m s =>
 zj 2 b m s fun _ s =>
 Z (zE (zaI b s true 2) (zE (some h) (some []))) s))
theorem zfb : F2 Tryz.prog zdk zfg := zi [] Tryz.func75
def zfh (P : Program) (x0 : AV) (σ : LO) (Z : ZT) : Prop :=
 zcj x0 σ fun a s =>
 fl 0 a s fun b s =>
 zS .toBytes b s fun c s =>
 zg 1 a s fun d s =>
 zt false 1 d s fun e s =>
 zdS [(iN 0), e] s fun f s =>
 zS (.int .u64) f s fun g s =>
 cA P zal [eN, c] s fun h t =>
 zaf d s t ∧ (cA P zA [h, g] t fun i s =>
 fl 2 a s fun j s =>
 cA P zal [i, j] s fun l s =>
 z1 Z l s)
theorem zji : F1 Tryz.prog zdl zfh := zi [.d [(0, 3), (4, 4), (3, 1), (8, 2)] [(3, [8])]] Tryz.func76
def zmk (P : Program) (x0 : AV) (σ : LO) (Z : ZT) : Prop :=
 zba .sl x0 σ fun a s =>
 bP .gtr a (iN 1048576) s fun b s =>
 zq b (z2 Z (.d .nilp) (iN 3) s) (cA P zcD [] s fun c s =>
 zba .sl x0 s fun d s =>
 zcO [(iN 0)] s fun v s e =>
 zbD v fun f v => bP .lss f d s fun g s =>
 zq g (il false 1 1 x0 f s fun h s =>
 cA P zcM [c, h] s fun i s =>
 zd i 0 s fun _ s =>
 zd i 1 s fun l s =>
 zq l (z2 Z (.d .nilp) (iN 5) s) (cA P zaG [c, h] s fun _ s =>
 bP .add f (iN 1) s fun n s =>
 e [n] s)) (z2 Z c (iN 0) s))
theorem zlY : F1 Tryz.prog zig zmk := zi [.l [15] [(2, 2), (6, 3), (16, 14)]] Tryz.func79
def zoY (P : Program) (x0 x1 : AV) (σ : LO) (Z : ZT) : Prop :=
 zS .toStr x0 σ fun a s =>
 zS .toStr x1 s fun b s =>
 bP .eql a b s fun c s =>
 z1 Z c s
theorem e_r02_Same : F2 Tryz.prog zll zoY := zi [] Tryz.func80
def zkP (P : Program) (x0 : AV) (σ : LO) (Z : ZT) : Prop :=
 m1 1 [(.d (.int .u8 0))] (.d (.int .u8 0)) σ fun a s =>
 zy 1 1 a x0 s fun b s =>
 z1 Z b s
theorem zpU : F1 Tryz.prog zhq zkP := zi [] Tryz.func81
def zkO (P : Program) (x0 x1 : AV) (σ : LO) (Z : ZT) : Prop :=
 m1 1 [(.d (.int .u8 0))] (.d (.int .u8 1)) σ fun a s =>
 zdS [(iN 0), x0] s fun b s =>
 zS (.int .u64) b s fun c s =>
 cA P zA [a, c] s fun d s =>
 zdS [(iN 0), x1] s fun e s =>
 zS (.int .u64) e s fun f s =>
 cA P zA [d, f] s fun g s =>
 z1 Z g s
theorem zpT : F2 Tryz.prog zhp zkO := zi [] Tryz.func82
def zeJ (P : Program) (x0 : AV) (σ : LO) (Z : ZT) : Prop :=
 cA P zaB [x0] σ fun a s =>
 zq a (z1 Z eN s) (nfl 0 x0 s fun b s =>
 cA P zQ [b] s fun c s =>
 cA P zbA [c] s fun d s =>
 z1 Z d s)
theorem ziq : F1 Tryz.prog zcT zeJ := zi [] Tryz.func83
def zhO (P : Program) (x0 x1 : AV) (σ : LO) (Z : ZT) : Prop :=
 zba .sl x1 σ fun a s =>
 zS (.int .u64) a s fun b s =>
 cA P zA [x0, b] s fun c s =>
 zy 1 1 c x1 s fun d s =>
 z1 Z d s
theorem zhH : F2 Tryz.prog zal zhO := zi [] Tryz.func84
def zfU (P : Program) (x0 x1 : AV) (σ : LO) (Z : ZT) : Prop :=
 zcj x0 σ fun a s =>
 zcj x1 s fun b s =>
 z1 Z (.fn (.func zbJ) [] [a, b]) s
theorem zfQ : F2 Tryz.prog zdq zfU := zi [] Tryz.func85
def zeo (P : Program) (x0 x1 : AV) (σ : LO) (Z : ZT) : Prop :=
 cA P zbT [x0, x1] σ fun a s =>
 zd a 0 s fun b s =>
 zd a 1 s fun c s =>
 bP .neq c (iN 0) s fun d s =>
 zq d (z1 Z eN s) (nfl 2 b s fun e s =>
 cA P zaC [e] s fun f s =>
 cA P zbA [f] s fun g s =>
 z1 Z g s)
theorem zhQ : F2 Tryz.prog zcK zeo := zi [] Tryz.func86
def ziC (P : Program) (x0 : AV) (σ : LO) (Z : ZT) : Prop :=
 zcj x0 σ fun a s =>
 fl 0 a s fun b s =>
 bP .lss b (iN 0) s fun c s =>
 gFl c 0 a s fun d s =>
 gF c (bP .geq d (iN 8) s) s fun e s =>
 orC c e s fun f s =>
 gFl f 1 a s fun g s =>
 gF f (bP .lss g (iN 1) s) s fun h s =>
 orC f h s fun i s =>
 gFl i 1 a s fun j s =>
 gF i (bP .gtr j (iN 9007199254740992) s) s fun l s =>
 orC i l s fun m s =>
 zq m (z1 Z (iN 80) s) (zg 2 a s fun n s =>
 zt true 5 n s fun o s =>
 cA P zgK [o] s fun p s =>
 z1 Z p s)
theorem znu : F1 Tryz.prog zdN ziC := zi [] Tryz.func88
def zfW (P : Program) (x0 : AV) (σ : LO) (Z : ZT) : Prop :=
 zcj x0 σ fun a s =>
 fl 0 a s fun b s =>
 bP .lss b (iN 0) s fun c s =>
 gFl c 0 a s fun d s =>
 gF c (bP .geq d (iN 21) s) s fun e s =>
 orC c e s fun f s =>
 gFl f 1 a s fun g s =>
 gF f (bP .lss g (iN 1) s) s fun h s =>
 orC f h s fun i s =>
 gFl i 1 a s fun j s =>
 gF i (bP .gtr j (iN 9007199254740992) s) s fun l s =>
 orC i l s fun m s =>
 zq m (z1 Z (iN 81) s) (z1 Z (iN 0) s)
theorem zjP : F1 Tryz.prog zcu zfW := zi [] Tryz.func89
def zhj (P : Program) (x0 : AV) (σ : LO) (Z : ZT) : Prop :=
 cA P zbq [x0] σ fun a s =>
 zq a (z1 Z (iN 0) s) (nfl 0 x0 s fun b s =>
 zba .sl b s fun c s =>
 z1 Z c s)
theorem zlC : F1 Tryz.prog zet zhj := zi [] Tryz.func90
def zfV (P : Program) (x0 x1 : AV) (σ : LO) (Z : ZT) : Prop :=
 zba .sl x0 σ fun a s =>
 zS (.int .u64) a s fun b s =>
 cA P zA [x1, b] s fun c s =>
 zba .sl x0 s fun d s =>
 zcO [c, (iN 0)] s fun v s e =>
 zbD v fun f v => zbD v fun g v => bP .lss g d s fun h s =>
 zq h (il true 9 9 x0 g s fun i s =>
 cp zl0 9 i s fun j s =>
 zg 0 j s fun l s =>
 zt true 7 l s fun m s =>
 cA P zfG [m] s fun n s =>
 zd n 0 s fun o s =>
 zd n 1 s fun _ s =>
 zg 7 j s fun q s =>
 zt true 2 q s fun r s =>
 cA P zal [f, o] s fun u t =>
 zaf q s t ∧ (cA P zer [u, r] t fun w s =>
 bP .add g (iN 1) s fun y s =>
 e [w, y] s)) (z1 Z f s)
theorem zjO : F2 Tryz.prog zdr zfV := zi [.l [1, 16] [(6, 3), (17, 16)], .d [(0, 2), (3, 2), (2, 1), (5, 2)] [(2, [29])]] Tryz.func91
def zpb (P : Program) (x0 : AV) (σ : LO) (Z : ZT) : Prop :=
 zcj x0 σ fun a s =>
 zt true 5 a s fun b s =>
 cA P znd [b] s fun c s =>
 zd c 0 s fun d s =>
 zd c 1 s fun e s =>
 cp zl1 5 d s fun f s =>
 unC .not e s fun g s =>
 gF g (zt true 5 a s) s fun h s =>
 gF g (zt true 5 f s) s fun i s =>
 gF g (cA P zne [h, i] s) s fun j s =>
 gF g (unC .not j s) s fun l s =>
 orC g l s fun m s =>
 zq m (z1 Z (iN 60) s) (fl 0 a s fun n s =>
 bP .neq n (iN 0) s fun o s =>
 gTl o 1 a s fun p s =>
 gT o (cA P zkr [p] s) s fun q s =>
 gT o (unC .not q s) s fun r s =>
 anC o r s fun u s =>
 zq u (z1 Z (iN 61) s) (fl 0 a s fun w s =>
 bP .eql w (iN 3) s fun y s =>
 gTl y 2 a s fun z s =>
 gT y (cA P zkr [z] s) s fun A s =>
 gT y (unC .not A s) s fun B s =>
 anC y B s fun C s =>
 zq C (z1 Z (iN 61) s) (fl 0 a s fun D s =>
 bP .eql D (iN 2) s fun E s =>
 gTl E 4 a s fun F s =>
 gT E (zba .sl F s) s fun G s =>
 gT E (bP .lss G (iN 1) s) s fun H s =>
 gTm E H s fun I s =>
 gFl I 4 a s fun J s =>
 gF I (zba .sl J s) s fun K s =>
 gF I (bP .gtr K (iN 4) s) s fun L s =>
 gT E (orC I L s) s fun M s =>
 gTm E M s fun N s =>
 gFl N 4 a s fun O s =>
 gFm N (.fn (.func zgk) [] []) s fun Q s =>
 gF N (cA P zau [O, Q] s) s fun R s =>
 gT E (orC N R s) s fun S s =>
 anC E S s fun T s =>
 zq T (z1 Z (iN 62) s) (fl 3 a s fun U s =>
 bP .lss U (iN 0) s fun V s =>
 gFl V 3 a s fun W s =>
 gF V (bP .gtr W (iN 9007199254740992) s) s fun X s =>
 orC V X s fun Y s =>
 zq Y (z1 Z (iN 60) s) (z1 Z (iN 0) s)))))
theorem e_op_Check : F1 Tryz.prog zgK zpb := zi [] Tryz.func92
def zem (P : Program) (x0 x1 : AV) (σ : LO) (Z : ZT) : Prop :=
 nfl 0 x0 σ fun a s =>
 zaO .str false (.d .nilp) a x1 s fun b s =>
 zdH .neq .ptr b (.d .nilp) s fun c s =>
 zq c (z1 Z (iN 5) s) (nfl 0 x0 s fun d s =>
 zba .map d s fun e s =>
 bP .geq e (iN 8) s fun f s =>
 zq f (z1 Z (iN 6) s) (nfl 0 x0 s fun g s =>
 zaH s fun h s =>
 zH (zag [iN 0, eN, (.d .nilmap)] [(2, 1, h)]) s fun i s =>
 zcj i s fun j s =>
 zbn .str g x1 j s fun _ s =>
 z1 Z (iN 0) s))
theorem zej : F2 Tryz.prog zcI zem := zi [] Tryz.func93
def zea (P : Program) (x0 x1 : AV) (σ : LO) (Z : ZT) : Prop :=
 zcj x1 σ fun a s =>
 nfl 0 x0 s fun b s =>
 fl 1 a s fun c s =>
 zaO .str false (.d .nilp) b c s fun d s =>
 zdH .eql .ptr d (.d .nilp) s fun e s =>
 zq e (Z (zE (some (iN 0)) (zE (some eN) (zE (some (iN 4)) (some [])))) s) (nfl 1 d s fun f s =>
 zba .sl f s fun g s =>
 fl 4 a s fun h s =>
 zba .sl h s fun i s =>
 bP .add g i s fun j s =>
 bP .gtr j (iN 64) s fun l s =>
 gFm l d s fun m s =>
 gF l (zg 4 a s) s fun n s =>
 gF l (zt false 1 n s) s fun o s =>
 gF l (zba .sl o s) s fun p s =>
 gF l (cA P zaN [m] s) s fun q t =>
 zaf n s t ∧ (gF l (bP .add q p t) t fun r s =>
 gF l (bP .gtr r (iN 9007199254740992) s) s fun u s =>
 orC l u s fun w s =>
 zq w (Z (zE (some (iN 0)) (zE (some eN) (zE (some (iN 71)) (some [])))) s) (cA P zaN [d] s fun y s =>
 fl 4 a s fun z s =>
 zba .sl z s fun A s =>
 zcO [eN, (iN 0)] s fun v s B =>
 zbD v fun C v => zbD v fun D v => bP .lss D A s fun E s =>
 zq E (il false 1 1 z D s fun F s =>
 zg 1 a s fun G s =>
 zt false 1 G s fun H s =>
 cA P zaN [d] s fun I t =>
 zaf G s t ∧ (cA P zY [F] t fun J s =>
 zaf G t s ∧ (zH (zag [(.d (.str [])), iN 0, eN] [(0, 1, H), (1, 1, I), (2, 1, J)]) s fun K s =>
 m1 3 [(.d (.str [])), iN 0, eN] K s fun L s =>
 zy 3 48 C L s fun M s =>
 zbI d s fun N s =>
 zg 1 N s fun O s =>
 zt false 1 O s fun Q s =>
 cA P zY [F] s fun R t =>
 zaf O s t ∧ (m1 1 [eN] R t fun S s =>
 zy 1 24 Q S s fun T s =>
 zbI d s fun U s =>
 zg 1 U s fun V s =>
 zj 1 V T s fun _ s =>
 bP .add D (iN 1) s fun X s =>
 B [M, X] s)))) (Z (zE (some y) (zE (some C) (zE (some (iN 0)) (some [])))) s))))
theorem zdX : F2 Tryz.prog zcr zea := zi [.d [(0, 8)] [], .d [(0, 12), (13, 3), (12, 1), (16, 3)] [(12, [34])], .l [9, 45] [(11, 1), (46, 25)], .d [(0, 4), (5, 1), (4, 1), (6, 5)] [(4, [50]), (6, [50])], .d [(0, 12)] [(6, [62])]] Tryz.func94
def zen (P : Program) (x0 x1 : AV) (σ : LO) (Z : ZT) : Prop :=
 zcj x1 σ fun a s =>
 nfl 0 x0 s fun b s =>
 fl 1 a s fun c s =>
 zaO .str false (.d .nilp) b c s fun d s =>
 zdH .eql .ptr d (.d .nilp) s fun e s =>
 zq e (z2 Z (iN 0) (iN 4) s) (nfl 2 d s fun f s =>
 fl 2 a s fun g s =>
 zaO .str true (iN 0) f g s fun h s =>
 zd h 0 s fun i s =>
 zd h 1 s fun j s =>
 fl 3 a s fun l s =>
 bP .lss l i s fun m s =>
 gF m (zg 3 a s) s fun n s =>
 gF m (zt false 1 n s) s fun o s =>
 gFm m d s fun p s =>
 gF m (cA P zaN [p] s) s fun q t =>
 zaf n s t ∧ (gF m (bP .gtr o q t) t fun r s =>
 orC m r s fun u s =>
 zq u (z2 Z (iN 0) (iN 72) s) (unC .not j s fun w s =>
 gTm w d s fun y s =>
 gT w (zbI y s) s fun z s =>
 gTl w 2 z s fun A s =>
 gT w (zba .map A s) s fun B s =>
 gT w (bP .geq B (iN 8) s) s fun C s =>
 anC w C s fun D s =>
 zq D (z2 Z (iN 0) (iN 6) s) (nfl 2 d s fun E s =>
 fl 2 a s fun F s =>
 fl 3 a s fun G s =>
 zbn .str E F G s fun _ s =>
 fl 3 a s fun I s =>
 z2 Z I (iN 0) s))))
theorem zek : F2 Tryz.prog zcJ zen := zi [.d [(0, 8)] [], .d [(0, 12)] [], .d [(0, 12)] [(8, [34])], .d [(0, 9)] []] Tryz.func95
def zfd (P : Program) (x0 x1 : AV) (σ : LO) (Z : ZT) : Prop :=
 zcj x1 σ fun a s =>
 nfl 0 x0 s fun b s =>
 fl 1 a s fun c s =>
 zaO .str false (.d .nilp) b c s fun d s =>
 zdH .eql .ptr d (.d .nilp) s fun e s =>
 zq e (z2 Z (iN 0) (iN 4) s) (fl 3 a s fun f s =>
 nfl 0 d s fun g s =>
 bP .lss f g s fun h s =>
 gF h (zg 3 a s) s fun i s =>
 gF h (zt false 1 i s) s fun j s =>
 gFm h d s fun l s =>
 gF h (cA P zaN [l] s) s fun m t =>
 zaf i s t ∧ (gF h (bP .gtr j m t) t fun n s =>
 orC h n s fun o s =>
 zq o (z2 Z (iN 0) (iN 72) s) (nfl 1 d s fun p s =>
 fl 3 a s fun q s =>
 nfl 0 d s fun r s =>
 bP .sub q r s fun u s =>
 zcY (.sl 1) p (some u) none none s fun w s =>
 cA P zaL [w] s fun y s =>
 zbI d s fun z s =>
 zg 1 z s fun A s =>
 zj 1 A y s fun _ s =>
 fl 3 a s fun C s =>
 zbI d s fun D s =>
 zg 0 D s fun E s =>
 zj 1 E C s fun _ s =>
 fl 3 a s fun G s =>
 z2 Z G (iN 0) s)))
theorem zeZ : F2 Tryz.prog zdj zfd := zi [.d [(0, 8)] [], .d [(0, 14)] [(11, [24])], .d [(0, 17)] []] Tryz.func96
def zdZ (P : Program) (x0 : AV) (σ : LO) (Z : ZT) : Prop :=
 zo P zcs [x0] σ fun a s =>
 zo P zbw [a] s fun _ s =>
 z1 Z a s
theorem zdW : F1 Tryz.prog zbA zdZ := zpO [] Tryz.func99
def zaA (P : Program) (x0 : AV) (σ : LO) (Z : ZT) : Prop :=
 zcj x0 σ fun a s =>
 z1 Z (.fn (.func zF) [] [a]) s
theorem zax : F1 Tryz.prog zQ zaA := zi [] Tryz.func100
def zeN (P : Program) (x0 x1 x2 : AV) (σ : LO) (Z : ZT) : Prop :=
 zt false 1 x1 σ fun a s =>
 zt false 1 x2 s fun b s =>
 cA P zbT [a, b] s fun c s =>
 zd c 0 s fun d s =>
 zd c 1 s fun e s =>
 bP .neq e (iN 0) s fun f s =>
 zq f (Z (some []) s) (nfl 1 d s fun g s =>
 zba .sl g s fun h s =>
 zcO [(iN 0)] s fun v s i =>
 zbD v fun j v => bP .lss j h s fun l s =>
 zq l (il false 1 1 g j s fun m s =>
 zbI d s fun n s =>
 zg 0 n s fun o s =>
 zt false 1 o s fun p s =>
 bP .add p j s fun q s =>
 cA P zY [m] s fun r t =>
 zaf o s t ∧ (zZ P x0 [dm q, dm r] t fun u s =>
 unC .not u s fun w s =>
 zq w (Z (some []) s) (bP .add j (iN 1) s fun y s =>
 i [y] s))) (Z (some []) s))
theorem zeF : F3 Tryz.prog zbJ zeN := zi [.l [21] [(6, 2), (22, 16)], .d [(0, 11)] [(8, [29])]] Tryz.func101
def zff (P : Program) (x0 x1 : AV) (σ : LO) (Z : ZT) : Prop :=
 cA P zaB [x0] σ fun a s =>
 zq a (z2 Z (.d .nilp) (iN 2) s) (nfl 0 x0 s fun b s =>
 zaO .str false (.d .nilp) b x1 s fun c s =>
 zdH .neq .ptr c (.d .nilp) s fun d s =>
 zq d (z2 Z c (iN 0) s) (z2 Z (.d .nilp) (iN 4) s))
theorem zfa : F2 Tryz.prog zbT zff := zi [] Tryz.func102
def zbd (P : Program) (x0 : AV) (σ : LO) (Z : ZT) : Prop :=
 zcj x0 σ fun a s =>
 z1 Z (.fn (.func zU) [] [a]) s
theorem zbc : F1 Tryz.prog zaC zbd := zi [] Tryz.func103
def ziD (P : Program) (x0 : AV) (σ : LO) (Z : ZT) : Prop :=
 zcj x0 σ fun a s =>
 zt true 7 a s fun b s =>
 cA P zdN [b] s fun c s =>
 bP .neq c (iN 0) s fun d s =>
 zq d (z2 Z eN c s) (fl 0 a s fun e s =>
 zS (.int .u64) e s fun f s =>
 zg 1 a s fun g s =>
 zt false 1 g s fun h s =>
 zS (.int .u64) h s fun i s =>
 zg 2 a s fun j s =>
 zt true 5 j s fun l s =>
 cA P zA [eN, f] s fun m t =>
 zaf g s t ∧ (zaf j s t ∧ (cA P zA [m, i] t fun n s =>
 zaf j t s ∧ (cA P zpw [n, l] s fun o s =>
 z2 Z o (iN 0) s))))
theorem znv : F1 Tryz.prog zfG ziD := zi [.d [(0, 3), (4, 3), (8, 2), (3, 1), (7, 1), (10, 3)] [(3, [14, 18]), (7, [18])]] Tryz.func104
def zhe (P : Program) (x0 x1 : AV) (σ : LO) (Z : ZT) : Prop :=
 zcj x1 σ fun a s =>
 zt true 2 a s fun b s =>
 cA P zcu [b] s fun c s =>
 bP .neq c (iN 0) s fun d s =>
 zq d (cA P zdb [x0] s fun e s =>
 z1 Z e s) (fl 0 a s fun f s =>
 zS (.int .u64) f s fun g s =>
 zg 1 a s fun h s =>
 zt false 1 h s fun i s =>
 zS (.int .u64) i s fun j s =>
 cA P zA [x0, g] s fun l t =>
 zaf h s t ∧ (cA P zA [l, j] t fun m s =>
 z1 Z m s))
theorem zlx : F2 Tryz.prog zer zhe := zi [.d [(0, 4), (5, 3), (4, 1), (8, 2)] [(4, [15])]] Tryz.func105
def S_op_only (P : Program) (x0 : AV) (σ : LO) (Z : ZT) : Prop :=
 zcj x0 σ fun a s =>
 zao zl1 s fun b s =>
 fl 0 a s fun c s =>
 zH (zag zl1 [(0, 1, c)]) s fun d s =>
 cp zl1 5 d s fun e s =>
 (fun (f : LO → Prop) => fl 0 a s fun i s =>
 bP .eql i (iN 0) s fun j s =>
 zq j (f s) (bP .eql i (iN 1) s fun l s =>
 zq l (fl 1 a s fun m s =>
 zg 1 e s fun n s =>
 zj 1 n m s fun _ s =>
 f s) (bP .eql i (iN 2) s fun p s =>
 zq p (fl 1 a s fun q s =>
 zg 4 a s fun r s =>
 zt false 1 r s fun u s =>
 zg 1 e s fun w s =>
 zj 1 w q s fun _ t =>
 zaf r s t ∧ (zg 4 e t fun z s =>
 zj 1 z u s fun _ s =>
 f s)) (bP .eql i (iN 3) s fun B s =>
 zq B (fl 1 a s fun C s =>
 zg 2 a s fun D s =>
 zt false 1 D s fun E s =>
 zg 3 a s fun F s =>
 zt false 1 F s fun G s =>
 zg 1 e s fun H s =>
 zj 1 H C s fun _ t =>
 zaf D s t ∧ (zaf F s t ∧ (zg 2 e t fun J s =>
 zj 1 J E s fun _ t =>
 zaf F s t ∧ (zg 3 e t fun L s =>
 zj 1 L G s fun _ s =>
 f s)))) (bP .eql i (iN 4) s fun N s =>
 zq N (fl 1 a s fun O s =>
 zg 3 a s fun Q s =>
 zt false 1 Q s fun R s =>
 zg 1 e s fun S s =>
 zj 1 S O s fun _ t =>
 zaf Q s t ∧ (zg 3 e t fun U s =>
 zj 1 U R s fun _ s =>
 f s)) (zt true 5 e s fun W s =>
 zj 5 b W s fun _ s =>
 Z (zE (zaI b s true 5) (zE (some bF) (some []))) s))))))
 (fun  s => zt true 5 e s fun g s =>
 zj 5 b g s fun _ s =>
 Z (zE (zaI b s true 5) (zE (some bT) (some []))) s)
theorem e_op_only : F1 Tryz.prog znd S_op_only := zi [.d [(0, 8)] [(5, [22])], .d [(0, 12)] [(7, [30, 32]), (9, [32])], .d [(0, 8)] [(5, [41])]] Tryz.func106
def zmj (P : Program) (x0 : AV) (σ : LO) (Z : ZT) : Prop :=
 zba .sl x0 σ fun a s =>
 bP .gtr a (iN 64) s fun b s =>
 z1 Z b s
theorem e_op_Check_1 : F1 Tryz.prog zgk zmj := zi [] Tryz.func107
def S_op_Same (P : Program) (x0 x1 : AV) (σ : LO) (Z : ZT) : Prop :=
 zcj x0 σ fun a s =>
 zcj x1 s fun b s =>
 fl 0 a s fun c s =>
 fl 0 b s fun d s =>
 bP .eql c d s fun e s =>
 gTl e 1 a s fun f s =>
 gTl e 1 b s fun g s =>
 gT e (bP .eql f g s) s fun h s =>
 anC e h s fun i s =>
 gTl i 2 a s fun j s =>
 gTl i 2 b s fun l s =>
 gT i (bP .eql j l s) s fun m s =>
 anC i m s fun n s =>
 gTl n 3 a s fun o s =>
 gTl n 3 b s fun p s =>
 gT n (bP .eql o p s) s fun q s =>
 anC n q s fun r s =>
 gTl r 4 a s fun u s =>
 gTl r 4 b s fun w s =>
 gT r (cA P zK [u, w, (.fn (.func zho) [] [])] s) s fun y s =>
 anC r y s fun z s =>
 z1 Z z s
theorem e_op_Same : F2 Tryz.prog zne S_op_Same := zi [] Tryz.func108
def S_op_Name (P : Program) (x0 : AV) (σ : LO) (Z : ZT) : Prop :=
 cA P zln [x0] σ fun a s =>
 bP .gtr a (iN 0) s fun b s =>
 z1 Z b s
theorem e_op_Name : F1 Tryz.prog zkr S_op_Name := zi [] Tryz.func109
def zaR (P : Program) (x0 x1 : AV) (σ : LO) (Z : ZT) : Prop :=
 cA P zbi [x0, x1] σ fun a s =>
 bP .geq a (iN 0) s fun b s =>
 z1 Z b s
theorem zcy : F2 Tryz.prog zau zaR := zi [] Tryz.func110
def zfT (P : Program) (x0 : AV) (σ : LO) (Z : ZT) : Prop :=
 nfl 0 x0 σ fun a s =>
 nfl 1 x0 s fun b s =>
 zba .sl b s fun c s =>
 bP .add a c s fun d s =>
 z1 Z d s
theorem zjN : F1 Tryz.prog zaN zfT := zi [.d [(0, 11)] []] Tryz.func111
def zbv (P : Program) (x0 : AV) (σ : LO) (Z : ZT) : Prop :=
 zar false x0 σ fun a s =>
 zq a (z1 Z eN s) (zl false 1 0 (zag (rep [eN] 0) []) s fun b s =>
 zy 1 24 b x0 s fun c s =>
 z1 Z c s)
theorem zbt : F1 Tryz.prog zaL zbv := zi [] Tryz.func112
def zdF (P : Program) (x0 : AV) (σ : LO) (Z : ZT) : Prop :=
 zo P zaY [eN, x0] σ fun a s =>
 z1 Z a s
theorem zdD : F1 Tryz.prog zcs zdF := zpO [] Tryz.func114
def zbm (P : Program) (x0 x1 : AV) (σ : LO) (Z : ZT) : Prop :=
 zt false 1 x1 σ fun a s =>
 zfE a s fun b s =>
 zcO [] s fun v s c =>
 zie b s fun d s =>
 zd d 0 s fun e s =>
 zq e (zfP b s fun f s =>
 zd f 0 s fun g s =>
 zZ P x0 [dm g] s fun h s =>
 unC .not h s fun i s =>
 zq i (Z (some []) s) (c [] s)) (Z (some []) s)
theorem zbk : F2 Tryz.prog zF zbm := zi [.l [] [(3, 1), (6, 8)]] Tryz.func116
def zcB (P : Program) (x0 x1 : AV) (σ : LO) (Z : ZT) : Prop :=
 zt false 1 x1 σ fun a s =>
 zfE a s fun b s =>
 zcO [] s fun v s c =>
 zie b s fun d s =>
 zd d 0 s fun e s =>
 zq e (zfP b s fun f s =>
 zd f 0 s fun g s =>
 zZ P x0 [dm g] s fun h s =>
 unC .not h s fun i s =>
 zq i (Z (some []) s) (c [] s)) (Z (some []) s)
theorem zcz : F2 Tryz.prog zU zcB := zi [.l [] [(3, 1), (6, 8)]] Tryz.func117
def S_op_Put (P : Program) (x0 x1 : AV) (σ : LO) (Z : ZT) : Prop :=
 zcj x1 σ fun a s =>
 cA P zdb [x0] s fun b s =>
 zt true 5 a s fun c s =>
 cA P zgK [c] s fun d s =>
 bP .neq d (iN 0) s fun e s =>
 zq e (z1 Z b s) (fl 0 a s fun f s =>
 zS (.int .u64) f s fun g s =>
 cA P zA [b, g] s fun h s =>
 (fun (i : AV → LO → Prop) => fl 0 a s fun T s =>
 bP .neq T (iN 0) s fun U s =>
 zq U (fl 1 a s fun V s =>
 zS .toBytes V s fun W s =>
 cA P zal [h, W] s fun X s =>
 i X s) (i h s))
 (fun j s => (fun (l : AV → LO → Prop) => fl 0 a s fun n s =>
 bP .eql n (iN 2) s fun o s =>
 zq o (fl 4 a s fun p s =>
 zba .sl p s fun q s =>
 zS (.int .u64) q s fun r s =>
 cA P zA [j, r] s fun u s =>
 fl 4 a s fun w s =>
 zba .sl w s fun y s =>
 zcO [u, (iN 0)] s fun v s z =>
 zbD v fun A v => zbD v fun B v => bP .lss B y s fun C s =>
 zq C (il false 1 1 w B s fun D s =>
 cA P zal [A, D] s fun E s =>
 bP .add B (iN 1) s fun F s =>
 z [E, F] s) (l A s)) (bP .eql n (iN 3) s fun G s =>
 zq G (fl 2 a s fun H s =>
 zS .toBytes H s fun I s =>
 zg 3 a s fun J s =>
 zt false 1 J s fun K s =>
 zS (.int .u64) K s fun L s =>
 cA P zal [j, I] s fun M t =>
 zaf J s t ∧ (cA P zA [M, L] t fun N s =>
 l N s)) (bP .eql n (iN 4) s fun O s =>
 zq O (fl 3 a s fun Q s =>
 zS (.int .u64) Q s fun R s =>
 cA P zA [j, R] s fun S s =>
 l S s) (l j s))))
 (fun m s => z1 Z m s)))
theorem e_op_Put : F2 Tryz.prog zpw S_op_Put := zi [.l [5, 40] [(7, 1), (41, 7)], .d [(0, 4), (5, 3), (4, 1), (8, 2)] [(4, [55])]] Tryz.func118
def zae (P : Program) (x0 x1 x2 : AV) (σ : LO) (Z : ZT) : Prop :=
 zba .sl x0 σ fun a s =>
 zba .sl x1 s fun b s =>
 bP .neq a b s fun c s =>
 zq c (z1 Z bF s) (zba .sl x0 s fun d s =>
 zcO [(iN 0)] s fun v s e =>
 zbD v fun f v => bP .lss f d s fun g s =>
 zq g (il false 1 1 x0 f s fun h s =>
 il false 1 1 x1 f s fun i s =>
 zZ P x2 [dm h, dm i] s fun j s =>
 unC .not j s fun l s =>
 zq l (z1 Z bF s) (bP .add f (iN 1) s fun m s =>
 e [m] s)) (z1 Z bT s))
theorem zaV : F3 Tryz.prog zK zae := zi [.l [17] [(6, 4), (18, 14)]] Tryz.func119
def znS (P : Program) (x0 x1 : AV) (σ : LO) (Z : ZT) : Prop :=
 cA P zdQ [x0, x1] σ fun a s =>
 z1 Z a s
theorem e_op_Same_1 : F2 Tryz.prog zho znS := zi [] Tryz.func120
def zpa (P : Program) (x0 : AV) (σ : LO) (Z : ZT) : Prop :=
 zam x0 σ fun a s =>
 zcO [(iN 0)] s fun v s b =>
 zbD v fun c v => zkq a s fun d s =>
 zd d 0 s fun e s =>
 zq e (zd d 2 s fun f s =>
 bP .lss f (.d (.int .i32 33)) s fun g s =>
 gFm g f s fun h s =>
 gF g (bP .geq h (.d (.int .i32 127)) s) s fun i s =>
 gFm g i s fun j s =>
 gTm j f s fun l s =>
 gT j (bP .leq l (.d (.int .i32 159)) s) s fun m s =>
 gF g (anC j m s) s fun n s =>
 orC g n s fun o s =>
 gFm o f s fun p s =>
 gF o (bP .eql p (.d (.int .i32 47)) s) s fun q s =>
 orC o q s fun r s =>
 gFm r f s fun u s =>
 gF r (bP .eql u (.d (.int .i32 65533)) s) s fun w s =>
 orC r w s fun y s =>
 zq y (z1 Z (iN 0) s) (bP .add c (iN 1) s fun z s =>
 b [z] s)) (bP .gtr c (iN 16) s fun A s =>
 zq A (z1 Z (iN 0) s) (z1 Z c s))
theorem e_op_Runes : F1 Tryz.prog zln zpa := zi [.l [3] [(2, 1), (5, 1), (8, 23)]] Tryz.func121
def zbj (P : Program) (x0 x1 : AV) (σ : LO) (Z : ZT) : Prop :=
 zba .sl x0 σ fun a s =>
 zcO [(iN 0)] s fun v s b =>
 zbD v fun c v => bP .lss c a s fun d s =>
 zq d (il false 1 1 x0 c s fun e s =>
 zZ P x1 [dm e] s fun f s =>
 zq f (z1 Z c s) (bP .add c (iN 1) s fun g s =>
 b [g] s)) (z1 Z (iN (-1)) s)
theorem zcP : F2 Tryz.prog zbi zbj := zi [.l [8] [(4, 2), (9, 10)]] Tryz.func122
def zbL (P : Program) (x0 x1 : AV) (σ : LO) (Z : ZT) : Prop :=
 zcj x0 σ fun a s =>
 zlg P x1 1 s (fun v s b c d e =>
 zbD v fun f v => s[b]? = some c ∧ ((fun s =>
 zt false 1 a s fun g s =>
 zl true 1 1 (zag (rep [(.d (.str []))] 1) [(0, 1, f)]) s fun h s =>
 zhC 1 16 g h s fun i s =>
 zj 1 a i s fun _ s =>
 s[b]? = some d ∧ e (s.set b c)) (s.set b d))) fun s =>
 zt false 1 a s fun l s =>
 z1 Z l s
theorem zbK : F2 Tryz.prog zaY zbL := zpO [] Tryz.func124
end Go.Proofs.YthpnelbciibjeaaGreat
