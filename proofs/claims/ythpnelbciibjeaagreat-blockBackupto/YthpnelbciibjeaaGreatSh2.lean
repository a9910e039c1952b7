/- The conditions of each function, its slots as variables, and that the logic's conditions are these. Printed by program. -/
import Derived.Test.YthpnelbciibjeaaGreatNm
import Derived.KernelRfl
set_option linter.all false
set_option maxRecDepth 100000
set_option linter.unusedVariables false
namespace Go.Proofs.YthpnelbciibjeaaGreat
open Go.AW
def zkd (P : Program) (x0 x1 : AV) (σ : LO) (Z : ZT) : Prop :=
 cA P zgE [x1] σ fun a s =>
 cA P zaA [x0, a] s fun b s =>
 z1 Z b s
theorem zoG : F2 Tryz.prog zgG zkd := zj [] Tryz.func65
def ziJ (P : Program) (x0 : AV) (σ : LO) (Z : ZT) : Prop :=
 bP .lss x0 (iN 2) σ fun a s =>
 zu a (z1 Z (iN 0) s) (zde [(iN 1)] s fun v s b =>
 zce v fun c v => bP .sub x0 c s fun d s =>
 bP .lss c d s fun e s =>
 zu e (bP .mul c (iN 2) s fun f s =>
 b [f] s) (z1 Z c s))
theorem zng : F1 Tryz.prog zfY ziJ := zj [.l [3] [(6, 7)]] Tryz.func66
def zkc (P : Program) (x0 x1 x2 : AV) (σ : LO) (Z : ZT) : Prop :=
 cA P zgD [x1, x2] σ fun a s =>
 cA P zaA [x0, a] s fun b s =>
 z1 Z b s
theorem zoF : F3 Tryz.prog zgF zkc := zj [] Tryz.func67
def zeL (P : Program) (x0 : AV) (σ : LO) (Z : ZT) : Prop :=
 zet .eql .ptr x0 (.d .nilp) σ fun a s =>
 gFm a x0 s fun b s =>
 gF a (zcr b s) s fun c s =>
 gFl a 0 c s fun d s =>
 gF a (zet .eql .map d (.d .nilmap) s) s fun e s =>
 orC a e s fun f s =>
 z1 Z f s
theorem zin : F1 Tryz.prog zaq zeL := zj [] Tryz.func68
def zex (P : Program) (x0 : AV) (σ : LO) (Z : ZT) : Prop :=
 cA P zaq [x0] σ fun a s =>
 zu a (z1 Z eN s) (nfl 0 x0 s fun b s =>
 zbk .map b s fun c s =>
 zac (.int .u64) c s fun d s =>
 cA P zp [eN, d] s fun e s =>
 cp [eN] 1 e s fun f s =>
 cA P zcv [x0] s fun g s =>
 zbk .sl g s fun h s =>
 zde [(iN 0)] s fun v s i =>
 zce v fun j v => bP .lss j h s fun l s =>
 zu l (il false 1 1 g j s fun m s =>
 nfl 0 x0 s fun n s =>
 zba .str false (.d .nilp) n m s fun o s =>
 zr false 1 f s fun p s =>
 zac .toBytes m s fun q s =>
 zcr o s fun r s =>
 zh 0 r s fun u s =>
 zr false 1 u s fun w s =>
 zac (.int .u64) w s fun y s =>
 cA P zZ [p, q] s fun z t =>
 zal u s t ∧ (cA P zp [z, y] t fun A s =>
 zm 1 f A s fun _ s =>
 zr false 1 f s fun C s =>
 nfl 1 o s fun D s =>
 zbk .sl D s fun E s =>
 zac (.int .u64) E s fun F s =>
 cA P zp [C, F] s fun G s =>
 zm 1 f G s fun _ s =>
 cA P zdj [x0, m] s fun I s =>
 zks P I 2 s (fun v s J K L M =>
 zce v fun N v => zce v fun O v => s[J]? = some K ∧ ((fun s =>
 zr false 1 f s fun Q s =>
 cA P zZ [Q, O] s fun R s =>
 zm 1 f R s fun _ s =>
 s[J]? = some L ∧ M (s.set J K)) (s.set J L))) fun s =>
 zr false 1 f s fun T s =>
 nfl 2 o s fun U s =>
 zbk .map U s fun V t =>
 zal f s t ∧ (zac (.int .u64) V t fun W s =>
 cA P zp [T, W] s fun X s =>
 zm 1 f X s fun _ s =>
 cA P zcm [x0, m] s fun a0 s =>
 zbk .sl a0 s fun b0 s =>
 zde [(iN 0)] s fun v s c0 =>
 zce v fun d0 v => bP .lss d0 b0 s fun e0 s =>
 zu e0 (il false 1 1 a0 d0 s fun f0 s =>
 zr false 1 f s fun g0 s =>
 zac .toBytes f0 s fun h0 s =>
 zcr o s fun i0 s =>
 zh 2 i0 s fun j0 s =>
 zr false 1 j0 s fun l0 s =>
 zba .str false (iN 0) l0 f0 s fun m0 s =>
 zac (.int .u64) m0 s fun o0 s =>
 cA P zZ [g0, h0] s fun p0 t =>
 zal j0 s t ∧ (zal l0 s t ∧ (cA P zp [p0, o0] t fun q0 s =>
 zm 1 f q0 s fun _ s =>
 bP .add d0 (iN 1) s fun u0 s =>
 c0 [u0] s))) (bP .add j (iN 1) s fun w0 s =>
 i [w0] s)))) (zcr x0 s fun y0 s =>
 zh 1 y0 s fun z0 s =>
 zr true 24 z0 s fun A0 s =>
 zde [(iN 0)] s fun v s B0 =>
 zce v fun C0 v => bP .lss C0 (iN 8) s fun D0 s =>
 zu D0 (zbi true 8 3 A0 C0 s fun E0 s =>
 cp [iN 0, iN 0, iN 0] 3 E0 s fun F0 s =>
 zr false 1 f s fun G0 s =>
 fl 0 F0 s fun H0 s =>
 zac (.int .u64) H0 s fun I0 s =>
 cA P zp [G0, I0] s fun J0 s =>
 zm 1 f J0 s fun _ s =>
 zr false 1 f s fun L0 s =>
 zh 1 F0 s fun M0 s =>
 fl 0 M0 s fun N0 s =>
 zac (.int .u64) N0 s fun O0 s =>
 zh 1 F0 s fun Q0 s =>
 zh 1 Q0 s fun R0 s =>
 zr false 1 R0 s fun S0 s =>
 zac (.int .u64) S0 s fun T0 s =>
 cA P zp [L0, O0] s fun U0 t =>
 zal R0 s t ∧ (cA P zp [U0, T0] t fun V0 s =>
 zm 1 f V0 s fun _ s =>
 bP .add C0 (iN 1) s fun X0 s =>
 B0 [X0] s)) (zr false 1 f s fun Y0 s =>
 z1 Z Y0 s)))
theorem zhq : F1 Tryz.prog zcx zex := zj [.l [25] [(5, 2), (10, 1), (26, 30), (61, 30)], .d [(0, 3), (4, 5), (3, 1), (9, 2)] [(3, [41])], .d [(0, 9)] [], .d [(0, 9)] [(5, [3])], .l [73] [(10, 1), (74, 16)], .d [(0, 3), (4, 7), (3, 1), (11, 2)] [(3, [83, 84])], .l [95] [(12, 1), (96, 19)], .d [(0, 5), (6, 4), (5, 1), (10, 2)] [(5, [110])]] Tryz.func69
def zbO (P : Program) (x0 : AV) (σ : LO) (Z : ZT) : Prop :=
 zay false x0 σ fun a s =>
 zu a (z1 Z eN s) (zn false 1 0 (zat (rep [(.d (.int .u8 0))] 0) []) s fun b s =>
 zI 1 1 b x0 s fun c s =>
 z1 Z c s)
theorem zes : F1 Tryz.prog zP zbO := zj [] Tryz.func71
def zeP (P : Program) (x0 : AV) (σ : LO) (Z : ZT) : Prop :=
 zbk .sl x0 σ fun a s =>
 bP .gtr a (iN 4) s fun b s =>
 zu b (z1 Z (iN 3) s) (zbk .sl x0 s fun c s =>
 zde [(iN 0)] s fun v s d =>
 zce v fun e v => bP .lss e c s fun f s =>
 zu f (il true 9 9 x0 e s fun g s =>
 cp zl0 9 g s fun h s =>
 zh 0 h s fun i s =>
 zr true 7 i s fun j s =>
 cA P zdF [j] s fun l s =>
 bP .neq l (iN 0) s fun m s =>
 zu m (z1 Z l s) (zh 7 h s fun n s =>
 zr true 2 n s fun o s =>
 cA P zbT [o] s fun p s =>
 bP .neq p (iN 0) s fun q s =>
 zu q (z1 Z p s) (bP .add e (iN 1) s fun r s =>
 d [r] s))) (zbk .sl x0 s fun u s =>
 zde [(iN 0)] s fun v s w =>
 zce v fun y v => bP .lss y u s fun z s =>
 zu z (il true 9 9 x0 y s fun A s =>
 zaz zl0 s fun B s =>
 zm 9 B A s fun _ s =>
 zdA (.sl 9) x0 none (some y) none s fun D s =>
 zbk .sl D s fun E s =>
 zde [(iN 0)] s fun v s F =>
 zce v fun G v => bP .lss G E s fun H s =>
 zu H (il true 9 9 D G s fun I s =>
 cp zl0 9 I s fun J s =>
 zh 0 B s fun K s =>
 fl 0 K s fun L s =>
 zh 0 J s fun M s =>
 fl 0 M s fun N s =>
 bP .eql L N s fun O s =>
 gT O (zh 0 B s) s fun Q s =>
 gTl O 1 Q s fun R s =>
 gT O (zh 0 J s) s fun S s =>
 gTl O 1 S s fun T s =>
 gT O (bP .eql R T s) s fun U s =>
 anC O U s fun V s =>
 zu V (z1 Z (iN 5) s) (bP .add G (iN 1) s fun W s =>
 F [W] s)) (bP .add y (iN 1) s fun X s =>
 w [X] s)) (z1 Z (iN 0) s)))
theorem ziq : F1 Tryz.prog zbD zeP := zj [.l [16] [(2, 1), (4, 3), (17, 16)], .l [35] [(2, 1), (7, 2), (10, 1), (36, 30)], .l [44] [(2, 1), (10, 1), (45, 20)]] Tryz.func72
def zhx (P : Program) (x0 : AV) (σ : LO) (Z : ZT) : Prop :=
 cA P zee [x0] σ fun a s =>
 bP .gtr a (iN 0) s fun b s =>
 gFm b x0 s fun c s =>
 gF b (cA P zbV [c] s) s fun d s =>
 gF b (zet .neq .ptr d (.d .nilp) s) s fun e s =>
 orC b e s fun f s =>
 z1 Z f s
theorem zmw : F1 Tryz.prog zfj zhx := zj [] Tryz.func73
def zfR (P : Program) (x0 x1 : AV) (σ : LO) (Z : ZT) : Prop :=
 cA P zbD [x1] σ fun a s =>
 bP .neq a (iN 0) s fun b s =>
 zu b (cA P zcE [x0] s fun c s =>
 z1 Z c s) (zaf P (.fn (.func zdk) [x1] []) [dm x0] s fun d s =>
 z1 Z d s)
theorem zjJ : F2 Tryz.prog zdE zfR := zj [] Tryz.func74
def zeN (P : Program) (x0 x1 : AV) (σ : LO) (Z : ZT) : Prop :=
 zcB x1 σ fun a s =>
 zaz [iN 0, iN 0] s fun b s =>
 zr true 5 a s fun c s =>
 cA P zgk [c] s fun d s =>
 (fun (e : AV → AV → AV → LO → Prop) => bP .eql d (iN 0) s fun o s =>
 zu o (fl 0 a s fun p s =>
 bP .eql p (iN 1) s fun q s =>
 zu q (fl 1 a s fun r s =>
 cA P zck [x0, r] s fun u s =>
 e u (iN 0) eN s) (bP .eql p (iN 2) s fun w s =>
 zu w (zr true 5 a s fun y s =>
 cA P zbQ [x0, y] s fun z s =>
 zd z 0 s fun A s =>
 zd z 1 s fun B s =>
 zd z 2 s fun C s =>
 e C A B s) (bP .eql p (iN 3) s fun D s =>
 zu D (zr true 5 a s fun E s =>
 cA P zcl [x0, E] s fun F s =>
 zd F 0 s fun G s =>
 zd F 1 s fun H s =>
 e H G eN s) (bP .eql p (iN 4) s fun I s =>
 zu I (zr true 5 a s fun J s =>
 cA P zcO [x0, J] s fun K s =>
 zd K 0 s fun L s =>
 zd K 1 s fun M s =>
 e M L eN s) (e d (iN 0) eN s))))) (e d (iN 0) eN s))
 (fun f g h s => bP .neq f (iN 0) s fun i s =>
 zu i (zK (zat [iN 0, iN 0] [(0, 1, f)]) s fun j s =>
 zm 2 b j s fun _ s =>
 Z (zA (zaQ b s true 2) (zA (some eN) (some []))) s) (zK (zat [iN 0, iN 0] [(1, 1, g)]) s fun m s =>
 zm 2 b m s fun _ s =>
 Z (zA (zaQ b s true 2) (zA (some h) (some []))) s))
theorem zeI : F2 Tryz.prog zcP zeN := zj [] Tryz.func75
def zeO (P : Program) (x0 : AV) (σ : LO) (Z : ZT) : Prop :=
 zcB x0 σ fun a s =>
 fl 0 a s fun b s =>
 zac .toBytes b s fun c s =>
 zh 1 a s fun d s =>
 zr false 1 d s fun e s =>
 zeF [(iN 0), e] s fun f s =>
 zac (.int .u64) f s fun g s =>
 cA P zZ [eN, c] s fun h t =>
 zal d s t ∧ (cA P zp [h, g] t fun i s =>
 fl 2 a s fun j s =>
 cA P zZ [i, j] s fun l s =>
 z1 Z l s)
theorem zio : F1 Tryz.prog zcQ zeO := zj [.d [(0, 3), (4, 4), (3, 1), (8, 2)] [(3, [8])]] Tryz.func76
def zll (P : Program) (x0 : AV) (σ : LO) (Z : ZT) : Prop :=
 zbk .sl x0 σ fun a s =>
 bP .gtr a (iN 1048576) s fun b s =>
 zu b (z2 Z (.d .nilp) (iN 3) s) (cA P zdf [] s fun c s =>
 zbk .sl x0 s fun d s =>
 zde [(iN 0)] s fun v s e =>
 zce v fun f v => bP .lss f d s fun g s =>
 zu g (il false 1 1 x0 f s fun h s =>
 cA P zco [c, h] s fun i s =>
 zd i 0 s fun _ s =>
 zd i 1 s fun l s =>
 zu l (z2 Z (.d .nilp) (iN 5) s) (cA P zaA [c, h] s fun _ s =>
 bP .add f (iN 1) s fun n s =>
 e [n] s)) (z2 Z c (iN 0) s))
theorem zkZ : F1 Tryz.prog zhh zll := zj [.l [15] [(2, 2), (6, 3), (16, 14)]] Tryz.func79
def zkb (P : Program) (x0 : AV) (σ : LO) (Z : ZT) : Prop :=
 m1 1 [(.d (.int .u8 0))] (.d (.int .u8 0)) σ fun a s =>
 zI 1 1 a x0 s fun b s =>
 z1 Z b s
theorem zoE : F1 Tryz.prog zgE zkb := zj [] Tryz.func81
def zka (P : Program) (x0 x1 : AV) (σ : LO) (Z : ZT) : Prop :=
 m1 1 [(.d (.int .u8 0))] (.d (.int .u8 1)) σ fun a s =>
 zeF [(iN 0), x0] s fun b s =>
 zac (.int .u64) b s fun c s =>
 cA P zp [a, c] s fun d s =>
 zeF [(iN 0), x1] s fun e s =>
 zac (.int .u64) e s fun f s =>
 cA P zp [d, f] s fun g s =>
 z1 Z g s
theorem zoD : F2 Tryz.prog zgD zka := zj [] Tryz.func82
def zev (P : Program) (x0 : AV) (σ : LO) (Z : ZT) : Prop :=
 cA P zaq [x0] σ fun a s =>
 zu a (z1 Z eN s) (nfl 0 x0 s fun b s =>
 cA P zL [b] s fun c s =>
 cA P zbt [c] s fun d s =>
 z1 Z d s)
theorem zhp : F1 Tryz.prog zcv zev := zj [] Tryz.func83
def zgW (P : Program) (x0 x1 : AV) (σ : LO) (Z : ZT) : Prop :=
 zbk .sl x1 σ fun a s =>
 zac (.int .u64) a s fun b s =>
 cA P zp [x0, b] s fun c s =>
 zI 1 1 c x1 s fun d s =>
 z1 Z d s
theorem zgR : F2 Tryz.prog zZ zgW := zj [] Tryz.func84
def zfy (P : Program) (x0 x1 : AV) (σ : LO) (Z : ZT) : Prop :=
 zcB x0 σ fun a s =>
 zcB x1 s fun b s =>
 z1 Z (.fn (.func zbu) [] [a, b]) s
theorem zfu : F2 Tryz.prog zdj zfy := zj [] Tryz.func85
def zea (P : Program) (x0 x1 : AV) (σ : LO) (Z : ZT) : Prop :=
 cA P zbC [x0, x1] σ fun a s =>
 zd a 0 s fun b s =>
 zd a 1 s fun c s =>
 bP .neq c (iN 0) s fun d s =>
 zu d (z1 Z eN s) (nfl 2 b s fun e s =>
 cA P zas [e] s fun f s =>
 cA P zbt [f] s fun g s =>
 z1 Z g s)
theorem zgX : F2 Tryz.prog zcm zea := zj [] Tryz.func86
def zhy (P : Program) (x0 : AV) (σ : LO) (Z : ZT) : Prop :=
 zcB x0 σ fun a s =>
 fl 0 a s fun b s =>
 bP .lss b (iN 0) s fun c s =>
 gFl c 0 a s fun d s =>
 gF c (bP .geq d (iN 8) s) s fun e s =>
 orC c e s fun f s =>
 gFl f 1 a s fun g s =>
 gF f (bP .lss g (iN 1) s) s fun h s =>
 orC f h s fun i s =>
 gFl i 1 a s fun j s =>
 gF i (bP .gtr j (iN 9007199254740992) s) s fun l s =>
 orC i l s fun m s =>
 zu m (z1 Z (iN 80) s) (zh 2 a s fun n s =>
 zr true 5 n s fun o s =>
 cA P zgk [o] s fun p s =>
 z1 Z p s)
theorem zmx : F1 Tryz.prog zdF zhy := zj [] Tryz.func88
def zfA (P : Program) (x0 : AV) (σ : LO) (Z : ZT) : Prop :=
 zcB x0 σ fun a s =>
 fl 0 a s fun b s =>
 bP .lss b (iN 0) s fun c s =>
 gFl c 0 a s fun d s =>
 gF c (bP .geq d (iN 21) s) s fun e s =>
 orC c e s fun f s =>
 gFl f 1 a s fun g s =>
 gF f (bP .lss g (iN 1) s) s fun h s =>
 orC f h s fun i s =>
 gFl i 1 a s fun j s =>
 gF i (bP .gtr j (iN 9007199254740992) s) s fun l s =>
 orC i l s fun m s =>
 zu m (z1 Z (iN 81) s) (z1 Z (iN 0) s)
theorem zjb : F1 Tryz.prog zbT zfA := zj [] Tryz.func89
def zgx (P : Program) (x0 : AV) (σ : LO) (Z : ZT) : Prop :=
 cA P zbh [x0] σ fun a s =>
 zu a (z1 Z (iN 0) s) (nfl 0 x0 s fun b s =>
 zbk .sl b s fun c s =>
 z1 Z c s)
theorem zkG : F1 Tryz.prog zee zgx := zj [] Tryz.func90
def zfz (P : Program) (x0 x1 : AV) (σ : LO) (Z : ZT) : Prop :=
 zbk .sl x0 σ fun a s =>
 zac (.int .u64) a s fun b s =>
 cA P zp [x1, b] s fun c s =>
 zbk .sl x0 s fun d s =>
 zde [c, (iN 0)] s fun v s e =>
 zce v fun f v => zce v fun g v => bP .lss g d s fun h s =>
 zu h (il true 9 9 x0 g s fun i s =>
 cp zl0 9 i s fun j s =>
 zh 0 j s fun l s =>
 zr true 7 l s fun m s =>
 cA P zfk [m] s fun n s =>
 zd n 0 s fun o s =>
 zd n 1 s fun _ s =>
 zh 7 j s fun q s =>
 zr true 2 q s fun r s =>
 cA P zZ [f, o] s fun u t =>
 zal q s t ∧ (cA P zed [u, r] t fun w s =>
 bP .add g (iN 1) s fun y s =>
 e [w, y] s)) (z1 Z f s)
theorem zja : F2 Tryz.prog zdk zfz := zj [.l [1, 16] [(6, 3), (17, 16)], .d [(0, 2), (3, 2), (2, 1), (5, 2)] [(2, [29])]] Tryz.func91
def znX (P : Program) (x0 : AV) (σ : LO) (Z : ZT) : Prop :=
 zcB x0 σ fun a s =>
 zr true 5 a s fun b s =>
 cA P zmg [b] s fun c s =>
 zd c 0 s fun d s =>
 zd c 1 s fun e s =>
 cp zl1 5 d s fun f s =>
 unC .not e s fun g s =>
 gF g (zr true 5 a s) s fun h s =>
 gF g (zr true 5 f s) s fun i s =>
 gF g (cA P zmh [h, i] s) s fun j s =>
 gF g (unC .not j s) s fun l s =>
 orC g l s fun m s =>
 zu m (z1 Z (iN 60) s) (fl 0 a s fun n s =>
 bP .neq n (iN 0) s fun o s =>
 gTl o 1 a s fun p s =>
 gT o (cA P zjB [p] s) s fun q s =>
 gT o (unC .not q s) s fun r s =>
 anC o r s fun u s =>
 zu u (z1 Z (iN 61) s) (fl 0 a s fun w s =>
 bP .eql w (iN 3) s fun y s =>
 gTl y 2 a s fun z s =>
 gT y (cA P zjB [z] s) s fun A s =>
 gT y (unC .not A s) s fun B s =>
 anC y B s fun C s =>
 zu C (z1 Z (iN 61) s) (fl 0 a s fun D s =>
 bP .eql D (iN 2) s fun E s =>
 gTl E 4 a s fun F s =>
 gT E (zbk .sl F s) s fun G s =>
 gT E (bP .lss G (iN 1) s) s fun H s =>
 gTm E H s fun I s =>
 gFl I 4 a s fun J s =>
 gF I (zbk .sl J s) s fun K s =>
 gF I (bP .gtr K (iN 4) s) s fun L s =>
 gT E (orC I L s) s fun M s =>
 gTm E M s fun N s =>
 gFl N 4 a s fun O s =>
 gFm N (.fn (.func zfN) [] []) s fun Q s =>
 gF N (cA P zah [O, Q] s) s fun R s =>
 gT E (orC N R s) s fun S s =>
 anC E S s fun T s =>
 zu T (z1 Z (iN 62) s) (fl 3 a s fun U s =>
 bP .lss U (iN 0) s fun V s =>
 gFl V 3 a s fun W s =>
 gF V (bP .gtr W (iN 9007199254740992) s) s fun X s =>
 orC V X s fun Y s =>
 zu Y (z1 Z (iN 60) s) (z1 Z (iN 0) s)))))
theorem e_op_Check : F1 Tryz.prog zgk znX := zj [] Tryz.func92
def zdY (P : Program) (x0 x1 : AV) (σ : LO) (Z : ZT) : Prop :=
 nfl 0 x0 σ fun a s =>
 zba .str false (.d .nilp) a x1 s fun b s =>
 zet .neq .ptr b (.d .nilp) s fun c s =>
 zu c (z1 Z (iN 5) s) (nfl 0 x0 s fun d s =>
 zbk .map d s fun e s =>
 bP .geq e (iN 8) s fun f s =>
 zu f (z1 Z (iN 6) s) (nfl 0 x0 s fun g s =>
 zaT s fun h s =>
 zK (zat [iN 0, eN, (.d .nilmap)] [(2, 1, h)]) s fun i s =>
 zcB i s fun j s =>
 zbx .str g x1 j s fun _ s =>
 z1 Z (iN 0) s))
theorem zdV : F2 Tryz.prog zck zdY := zj [] Tryz.func93
def zdQ (P : Program) (x0 x1 : AV) (σ : LO) (Z : ZT) : Prop :=
 zcB x1 σ fun a s =>
 nfl 0 x0 s fun b s =>
 fl 1 a s fun c s =>
 zba .str false (.d .nilp) b c s fun d s =>
 zet .eql .ptr d (.d .nilp) s fun e s =>
 zu e (Z (zA (some (iN 0)) (zA (some eN) (zA (some (iN 4)) (some [])))) s) (nfl 1 d s fun f s =>
 zbk .sl f s fun g s =>
 fl 4 a s fun h s =>
 zbk .sl h s fun i s =>
 bP .add g i s fun j s =>
 bP .gtr j (iN 64) s fun l s =>
 gFm l d s fun m s =>
 gF l (zh 4 a s) s fun n s =>
 gF l (zr false 1 n s) s fun o s =>
 gF l (zbk .sl o s) s fun p s =>
 gF l (cA P zaI [m] s) s fun q t =>
 zal n s t ∧ (gF l (bP .add q p t) t fun r s =>
 gF l (bP .gtr r (iN 9007199254740992) s) s fun u s =>
 orC l u s fun w s =>
 zu w (Z (zA (some (iN 0)) (zA (some eN) (zA (some (iN 71)) (some [])))) s) (cA P zaI [d] s fun y s =>
 fl 4 a s fun z s =>
 zbk .sl z s fun A s =>
 zde [eN, (iN 0)] s fun v s B =>
 zce v fun C v => zce v fun D v => bP .lss D A s fun E s =>
 zu E (il false 1 1 z D s fun F s =>
 zh 1 a s fun G s =>
 zr false 1 G s fun H s =>
 cA P zaI [d] s fun I t =>
 zal G s t ∧ (cA P zP [F] t fun J s =>
 zal G t s ∧ (zK (zat [(.d (.str [])), iN 0, eN] [(0, 1, H), (1, 1, I), (2, 1, J)]) s fun K s =>
 m1 3 [(.d (.str [])), iN 0, eN] K s fun L s =>
 zI 3 48 C L s fun M s =>
 zcr d s fun N s =>
 zh 1 N s fun O s =>
 zr false 1 O s fun Q s =>
 cA P zP [F] s fun R t =>
 zal O s t ∧ (m1 1 [eN] R t fun S s =>
 zI 1 24 Q S s fun T s =>
 zcr d s fun U s =>
 zh 1 U s fun V s =>
 zm 1 V T s fun _ s =>
 bP .add D (iN 1) s fun X s =>
 B [M, X] s)))) (Z (zA (some y) (zA (some C) (zA (some (iN 0)) (some [])))) s))))
theorem zdM : F2 Tryz.prog zbQ zdQ := zj [.d [(0, 8)] [], .d [(0, 12), (13, 3), (12, 1), (16, 3)] [(12, [34])], .l [9, 45] [(11, 1), (46, 25)], .d [(0, 4), (5, 1), (4, 1), (6, 5)] [(4, [50]), (6, [50])], .d [(0, 12)] [(6, [62])]] Tryz.func94
def zdZ (P : Program) (x0 x1 : AV) (σ : LO) (Z : ZT) : Prop :=
 zcB x1 σ fun a s =>
 nfl 0 x0 s fun b s =>
 fl 1 a s fun c s =>
 zba .str false (.d .nilp) b c s fun d s =>
 zet .eql .ptr d (.d .nilp) s fun e s =>
 zu e (z2 Z (iN 0) (iN 4) s) (nfl 2 d s fun f s =>
 fl 2 a s fun g s =>
 zba .str true (iN 0) f g s fun h s =>
 zd h 0 s fun i s =>
 zd h 1 s fun j s =>
 fl 3 a s fun l s =>
 bP .lss l i s fun m s =>
 gF m (zh 3 a s) s fun n s =>
 gF m (zr false 1 n s) s fun o s =>
 gFm m d s fun p s =>
 gF m (cA P zaI [p] s) s fun q t =>
 zal n s t ∧ (gF m (bP .gtr o q t) t fun r s =>
 orC m r s fun u s =>
 zu u (z2 Z (iN 0) (iN 72) s) (unC .not j s fun w s =>
 gTm w d s fun y s =>
 gT w (zcr y s) s fun z s =>
 gTl w 2 z s fun A s =>
 gT w (zbk .map A s) s fun B s =>
 gT w (bP .geq B (iN 8) s) s fun C s =>
 anC w C s fun D s =>
 zu D (z2 Z (iN 0) (iN 6) s) (nfl 2 d s fun E s =>
 fl 2 a s fun F s =>
 fl 3 a s fun G s =>
 zbx .str E F G s fun _ s =>
 fl 3 a s fun I s =>
 z2 Z I (iN 0) s))))
theorem zdW : F2 Tryz.prog zcl zdZ := zj [.d [(0, 8)] [], .d [(0, 12)] [], .d [(0, 12)] [(8, [34])], .d [(0, 9)] []] Tryz.func95
def zeK (P : Program) (x0 x1 : AV) (σ : LO) (Z : ZT) : Prop :=
 zcB x1 σ fun a s =>
 nfl 0 x0 s fun b s =>
 fl 1 a s fun c s =>
 zba .str false (.d .nilp) b c s fun d s =>
 zet .eql .ptr d (.d .nilp) s fun e s =>
 zu e (z2 Z (iN 0) (iN 4) s) (fl 3 a s fun f s =>
 nfl 0 d s fun g s =>
 bP .lss f g s fun h s =>
 gF h (zh 3 a s) s fun i s =>
 gF h (zr false 1 i s) s fun j s =>
 gFm h d s fun l s =>
 gF h (cA P zaI [l] s) s fun m t =>
 zal i s t ∧ (gF h (bP .gtr j m t) t fun n s =>
 orC h n s fun o s =>
 zu o (z2 Z (iN 0) (iN 72) s) (nfl 1 d s fun p s =>
 fl 3 a s fun q s =>
 nfl 0 d s fun r s =>
 bP .sub q r s fun u s =>
 zdA (.sl 1) p (some u) none none s fun w s =>
 cA P zaF [w] s fun y s =>
 zcr d s fun z s =>
 zh 1 z s fun A s =>
 zm 1 A y s fun _ s =>
 fl 3 a s fun C s =>
 zcr d s fun D s =>
 zh 0 D s fun E s =>
 zm 1 E C s fun _ s =>
 fl 3 a s fun G s =>
 z2 Z G (iN 0) s)))
theorem zeG : F2 Tryz.prog zcO zeK := zj [.d [(0, 8)] [], .d [(0, 14)] [(11, [24])], .d [(0, 17)] []] Tryz.func96
def zdP (P : Program) (x0 : AV) (σ : LO) (Z : ZT) : Prop :=
 zt P zbR [x0] σ fun a s =>
 zt P zbq [a] s fun _ s =>
 z1 Z a s
theorem zdL : F1 Tryz.prog zbt zdP := zoz [] Tryz.func99
def zap (P : Program) (x0 : AV) (σ : LO) (Z : ZT) : Prop :=
 zcB x0 σ fun a s =>
 z1 Z (.fn (.func zx) [] [a]) s
theorem zam : F1 Tryz.prog zL zap := zj [] Tryz.func100
def zez (P : Program) (x0 x1 x2 : AV) (σ : LO) (Z : ZT) : Prop :=
 zr false 1 x1 σ fun a s =>
 zr false 1 x2 s fun b s =>
 cA P zbC [a, b] s fun c s =>
 zd c 0 s fun d s =>
 zd c 1 s fun e s =>
 bP .neq e (iN 0) s fun f s =>
 zu f (Z (some []) s) (nfl 1 d s fun g s =>
 zbk .sl g s fun h s =>
 zde [(iN 0)] s fun v s i =>
 zce v fun j v => bP .lss j h s fun l s =>
 zu l (il false 1 1 g j s fun m s =>
 zcr d s fun n s =>
 zh 0 n s fun o s =>
 zr false 1 o s fun p s =>
 bP .add p j s fun q s =>
 cA P zP [m] s fun r t =>
 zal o s t ∧ (zaf P x0 [dm q, dm r] t fun u s =>
 unC .not u s fun w s =>
 zu w (Z (some []) s) (bP .add j (iN 1) s fun y s =>
 i [y] s))) (Z (some []) s))
theorem zer : F3 Tryz.prog zbu zez := zj [.l [21] [(6, 2), (22, 16)], .d [(0, 11)] [(8, [29])]] Tryz.func101
def zeM (P : Program) (x0 x1 : AV) (σ : LO) (Z : ZT) : Prop :=
 cA P zaq [x0] σ fun a s =>
 zu a (z2 Z (.d .nilp) (iN 2) s) (nfl 0 x0 s fun b s =>
 zba .str false (.d .nilp) b x1 s fun c s =>
 zet .neq .ptr c (.d .nilp) s fun d s =>
 zu d (z2 Z c (iN 0) s) (z2 Z (.d .nilp) (iN 4) s))
theorem zeH : F2 Tryz.prog zbC zeM := zj [] Tryz.func102
def zaV (P : Program) (x0 : AV) (σ : LO) (Z : ZT) : Prop :=
 zcB x0 σ fun a s =>
 z1 Z (.fn (.func zM) [] [a]) s
theorem zaU : F1 Tryz.prog zas zaV := zj [] Tryz.func103
def zhz (P : Program) (x0 : AV) (σ : LO) (Z : ZT) : Prop :=
 zcB x0 σ fun a s =>
 zr true 7 a s fun b s =>
 cA P zdF [b] s fun c s =>
 bP .neq c (iN 0) s fun d s =>
 zu d (z2 Z eN c s) (fl 0 a s fun e s =>
 zac (.int .u64) e s fun f s =>
 zh 1 a s fun g s =>
 zr false 1 g s fun h s =>
 zac (.int .u64) h s fun i s =>
 zh 2 a s fun j s =>
 zr true 5 j s fun l s =>
 cA P zp [eN, f] s fun m t =>
 zal g s t ∧ (zal j s t ∧ (cA P zp [m, i] t fun n s =>
 zal j t s ∧ (cA P zor [n, l] s fun o s =>
 z2 Z o (iN 0) s))))
theorem zmy : F1 Tryz.prog zfk zhz := zj [.d [(0, 3), (4, 3), (8, 2), (3, 1), (7, 1), (10, 3)] [(3, [14, 18]), (7, [18])]] Tryz.func104
def zgv (P : Program) (x0 x1 : AV) (σ : LO) (Z : ZT) : Prop :=
 zcB x1 σ fun a s =>
 zr true 2 a s fun b s =>
 cA P zbT [b] s fun c s =>
 bP .neq c (iN 0) s fun d s =>
 zu d (cA P zcE [x0] s fun e s =>
 z1 Z e s) (fl 0 a s fun f s =>
 zac (.int .u64) f s fun g s =>
 zh 1 a s fun h s =>
 zr false 1 h s fun i s =>
 zac (.int .u64) i s fun j s =>
 cA P zp [x0, g] s fun l t =>
 zal h s t ∧ (cA P zp [l, j] t fun m s =>
 z1 Z m s))
theorem zkE : F2 Tryz.prog zed zgv := zj [.d [(0, 4), (5, 3), (4, 1), (8, 2)] [(4, [15])]] Tryz.func105
def S_op_only (P : Program) (x0 : AV) (σ : LO) (Z : ZT) : Prop :=
 zcB x0 σ fun a s =>
 zaz zl1 s fun b s =>
 fl 0 a s fun c s =>
 zK (zat zl1 [(0, 1, c)]) s fun d s =>
 cp zl1 5 d s fun e s =>
 (fun (f : LO → Prop) => fl 0 a s fun i s =>
 bP .eql i (iN 0) s fun j s =>
 zu j (f s) (bP .eql i (iN 1) s fun l s =>
 zu l (fl 1 a s fun m s =>
 zh 1 e s fun n s =>
 zm 1 n m s fun _ s =>
 f s) (bP .eql i (iN 2) s fun p s =>
 zu p (fl 1 a s fun q s =>
 zh 4 a s fun r s =>
 zr false 1 r s fun u s =>
 zh 1 e s fun w s =>
 zm 1 w q s fun _ t =>
 zal r s t ∧ (zh 4 e t fun z s =>
 zm 1 z u s fun _ s =>
 f s)) (bP .eql i (iN 3) s fun B s =>
 zu B (fl 1 a s fun C s =>
 zh 2 a s fun D s =>
 zr false 1 D s fun E s =>
 zh 3 a s fun F s =>
 zr false 1 F s fun G s =>
 zh 1 e s fun H s =>
 zm 1 H C s fun _ t =>
 zal D s t ∧ (zal F s t ∧ (zh 2 e t fun J s =>
 zm 1 J E s fun _ t =>
 zal F s t ∧ (zh 3 e t fun L s =>
 zm 1 L G s fun _ s =>
 f s)))) (bP .eql i (iN 4) s fun N s =>
 zu N (fl 1 a s fun O s =>
 zh 3 a s fun Q s =>
 zr false 1 Q s fun R s =>
 zh 1 e s fun S s =>
 zm 1 S O s fun _ t =>
 zal Q s t ∧ (zh 3 e t fun U s =>
 zm 1 U R s fun _ s =>
 f s)) (zr true 5 e s fun W s =>
 zm 5 b W s fun _ s =>
 Z (zA (zaQ b s true 5) (zA (some bF) (some []))) s))))))
 (fun  s => zr true 5 e s fun g s =>
 zm 5 b g s fun _ s =>
 Z (zA (zaQ b s true 5) (zA (some bT) (some []))) s)
theorem e_op_only : F1 Tryz.prog zmg S_op_only := zj [.d [(0, 8)] [(5, [22])], .d [(0, 12)] [(7, [30, 32]), (9, [32])], .d [(0, 8)] [(5, [41])]] Tryz.func106
def zlk (P : Program) (x0 : AV) (σ : LO) (Z : ZT) : Prop :=
 zbk .sl x0 σ fun a s =>
 bP .gtr a (iN 64) s fun b s =>
 z1 Z b s
theorem e_op_Check_1 : F1 Tryz.prog zfN zlk := zj [] Tryz.func107
def S_op_Same (P : Program) (x0 x1 : AV) (σ : LO) (Z : ZT) : Prop :=
 zcB x0 σ fun a s =>
 zcB x1 s fun b s =>
 fl 0 a s fun c s =>
 fl 0 b s fun d s =>
 bP .eql c d s fun e s =>
 gTl e 1 a s fun f s =>
 gTl e 1 b s fun g s =>
 gT e (bP .eql f g s) s fun h s =>
 anC e h s fun i s =>
 gTl i 2 a s fun j s =>
 gTl i 2 b s fun l s =>
 gT i (bP .eql j l s) s fun m s =>
 anC i m s fun n s =>
 gTl n 3 a s fun o s =>
 gTl n 3 b s fun p s =>
 gT n (bP .eql o p s) s fun q s =>
 anC n q s fun r s =>
 gTl r 4 a s fun u s =>
 gTl r 4 b s fun w s =>
 gT r (cA P zJ [u, w, (.fn (.func zgC) [] [])] s) s fun y s =>
 anC r y s fun z s =>
 z1 Z z s
theorem e_op_Same : F2 Tryz.prog zmh S_op_Same := zj [] Tryz.func108
def S_op_Name (P : Program) (x0 : AV) (σ : LO) (Z : ZT) : Prop :=
 cA P zkx [x0] σ fun a s =>
 bP .gtr a (iN 0) s fun b s =>
 z1 Z b s
theorem e_op_Name : F1 Tryz.prog zjB S_op_Name := zj [] Tryz.func109
def zaK (P : Program) (x0 x1 : AV) (σ : LO) (Z : ZT) : Prop :=
 cA P zaY [x0, x1] σ fun a s =>
 bP .geq a (iN 0) s fun b s =>
 z1 Z b s
theorem zbY : F2 Tryz.prog zah zaK := zj [] Tryz.func110
def zfx (P : Program) (x0 : AV) (σ : LO) (Z : ZT) : Prop :=
 nfl 0 x0 σ fun a s =>
 nfl 1 x0 s fun b s =>
 zbk .sl b s fun c s =>
 bP .add a c s fun d s =>
 z1 Z d s
theorem ziZ : F1 Tryz.prog zaI zfx := zj [.d [(0, 11)] []] Tryz.func111
def zbp (P : Program) (x0 : AV) (σ : LO) (Z : ZT) : Prop :=
 zay false x0 σ fun a s =>
 zu a (z1 Z eN s) (zn false 1 0 (zat (rep [eN] 0) []) s fun b s =>
 zI 1 24 b x0 s fun c s =>
 z1 Z c s)
theorem zbn : F1 Tryz.prog zaF zbp := zj [] Tryz.func112
def zdx (P : Program) (x0 : AV) (σ : LO) (Z : ZT) : Prop :=
 zt P zaR [eN, x0] σ fun a s =>
 z1 Z a s
theorem zdv : F1 Tryz.prog zbR zdx := zoz [] Tryz.func114
def zbf (P : Program) (x0 x1 : AV) (σ : LO) (Z : ZT) : Prop :=
 zr false 1 x1 σ fun a s =>
 zfi a s fun b s =>
 zde [] s fun v s c =>
 zhg b s fun d s =>
 zd d 0 s fun e s =>
 zu e (zfs b s fun f s =>
 zd f 0 s fun g s =>
 zaf P x0 [dm g] s fun h s =>
 unC .not h s fun i s =>
 zu i (Z (some []) s) (c [] s)) (Z (some []) s)
theorem zbd : F2 Tryz.prog zx zbf := zj [.l [] [(3, 1), (6, 8)]] Tryz.func116
def zcb (P : Program) (x0 x1 : AV) (σ : LO) (Z : ZT) : Prop :=
 zr false 1 x1 σ fun a s =>
 zfi a s fun b s =>
 zde [] s fun v s c =>
 zhg b s fun d s =>
 zd d 0 s fun e s =>
 zu e (zfs b s fun f s =>
 zd f 0 s fun g s =>
 zaf P x0 [dm g] s fun h s =>
 unC .not h s fun i s =>
 zu i (Z (some []) s) (c [] s)) (Z (some []) s)
theorem zbZ : F2 Tryz.prog zM zcb := zj [.l [] [(3, 1), (6, 8)]] Tryz.func117
def S_op_Put (P : Program) (x0 x1 : AV) (σ : LO) (Z : ZT) : Prop :=
 zcB x1 σ fun a s =>
 cA P zcE [x0] s fun b s =>
 zr true 5 a s fun c s =>
 cA P zgk [c] s fun d s =>
 bP .neq d (iN 0) s fun e s =>
 zu e (z1 Z b s) (fl 0 a s fun f s =>
 zac (.int .u64) f s fun g s =>
 cA P zp [b, g] s fun h s =>
 (fun (i : AV → LO → Prop) => fl 0 a s fun T s =>
 bP .neq T (iN 0) s fun U s =>
 zu U (fl 1 a s fun V s =>
 zac .toBytes V s fun W s =>
 cA P zZ [h, W] s fun X s =>
 i X s) (i h s))
 (fun j s => (fun (l : AV → LO → Prop) => fl 0 a s fun n s =>
 bP .eql n (iN 2) s fun o s =>
 zu o (fl 4 a s fun p s =>
 zbk .sl p s fun q s =>
 zac (.int .u64) q s fun r s =>
 cA P zp [j, r] s fun u s =>
 fl 4 a s fun w s =>
 zbk .sl w s fun y s =>
 zde [u, (iN 0)] s fun v s z =>
 zce v fun A v => zce v fun B v => bP .lss B y s fun C s =>
 zu C (il false 1 1 w B s fun D s =>
 cA P zZ [A, D] s fun E s =>
 bP .add B (iN 1) s fun F s =>
 z [E, F] s) (l A s)) (bP .eql n (iN 3) s fun G s =>
 zu G (fl 2 a s fun H s =>
 zac .toBytes H s fun I s =>
 zh 3 a s fun J s =>
 zr false 1 J s fun K s =>
 zac (.int .u64) K s fun L s =>
 cA P zZ [j, I] s fun M t =>
 zal J s t ∧ (cA P zp [M, L] t fun N s =>
 l N s)) (bP .eql n (iN 4) s fun O s =>
 zu O (fl 3 a s fun Q s =>
 zac (.int .u64) Q s fun R s =>
 cA P zp [j, R] s fun S s =>
 l S s) (l j s))))
 (fun m s => z1 Z m s)))
theorem e_op_Put : F2 Tryz.prog zor S_op_Put := zj [.l [5, 40] [(7, 1), (41, 7)], .d [(0, 4), (5, 3), (4, 1), (8, 2)] [(4, [55])]] Tryz.func118
def zV (P : Program) (x0 x1 x2 : AV) (σ : LO) (Z : ZT) : Prop :=
 zbk .sl x0 σ fun a s =>
 zbk .sl x1 s fun b s =>
 bP .neq a b s fun c s =>
 zu c (z1 Z bF s) (zbk .sl x0 s fun d s =>
 zde [(iN 0)] s fun v s e =>
 zce v fun f v => bP .lss f d s fun g s =>
 zu g (il false 1 1 x0 f s fun h s =>
 il false 1 1 x1 f s fun i s =>
 zaf P x2 [dm h, dm i] s fun j s =>
 unC .not j s fun l s =>
 zu l (z1 Z bF s) (bP .add f (iN 1) s fun m s =>
 e [m] s)) (z1 Z bT s))
theorem zaO : F3 Tryz.prog zJ zV := zj [.l [17] [(6, 4), (18, 14)]] Tryz.func119
def zmR (P : Program) (x0 x1 : AV) (σ : LO) (Z : ZT) : Prop :=
 cA P zcD [x0, x1] σ fun a s =>
 z1 Z a s
theorem e_op_Same_1 : F2 Tryz.prog zgC zmR := zj [] Tryz.func120
def znW (P : Program) (x0 : AV) (σ : LO) (Z : ZT) : Prop :=
 zav x0 σ fun a s =>
 zde [(iN 0)] s fun v s b =>
 zce v fun c v => zjA a s fun d s =>
 zd d 0 s fun e s =>
 zu e (zd d 2 s fun f s =>
 bP .lss f (.d (.int .i32 33)) s fun g s =>
 gFm g f s fun h s =>
 gF g (bP .geq h (.d (.int .i32 127)) s) s fun i s =>
 gFm g i s fun j s =>
 gTm j f s fun l s =>
 gT j (bP .leq l (.d (.int .i32 159)) s) s fun m s =>
 gF g (anC j m s) s fun n s =>
 orC g n s fun o s =>
 gFm o f s fun p s =>
 gF o (bP .eql p (.d (.int .i32 47)) s) s fun q s =>
 orC o q s fun r s =>
 gFm r f s fun u s =>
 gF r (bP .eql u (.d (.int .i32 65533)) s) s fun w s =>
 orC r w s fun y s =>
 zu y (z1 Z (iN 0) s) (bP .add c (iN 1) s fun z s =>
 b [z] s)) (bP .gtr c (iN 16) s fun A s =>
 zu A (z1 Z (iN 0) s) (z1 Z c s))
theorem e_op_Runes : F1 Tryz.prog zkx znW := zj [.l [3] [(2, 1), (5, 1), (8, 23)]] Tryz.func121
def zaZ (P : Program) (x0 x1 : AV) (σ : LO) (Z : ZT) : Prop :=
 zbk .sl x0 σ fun a s =>
 zde [(iN 0)] s fun v s b =>
 zce v fun c v => bP .lss c a s fun d s =>
 zu d (il false 1 1 x0 c s fun e s =>
 zaf P x1 [dm e] s fun f s =>
 zu f (z1 Z c s) (bP .add c (iN 1) s fun g s =>
 b [g] s)) (z1 Z (iN (-1)) s)
theorem zcs : F2 Tryz.prog zaY zaZ := zj [.l [8] [(4, 2), (9, 10)]] Tryz.func122
def zbw (P : Program) (x0 x1 : AV) (σ : LO) (Z : ZT) : Prop :=
 zcB x0 σ fun a s =>
 zks P x1 1 s (fun v s b c d e =>
 zce v fun f v => s[b]? = some c ∧ ((fun s =>
 zr false 1 a s fun g s =>
 zn true 1 1 (zat (rep [(.d (.str []))] 1) [(0, 1, f)]) s fun h s =>
 zgM 1 16 g h s fun i s =>
 zm 1 a i s fun _ s =>
 s[b]? = some d ∧ e (s.set b c)) (s.set b d))) fun s =>
 zr false 1 a s fun l s =>
 z1 Z l s
theorem zbv : F2 Tryz.prog zaR zbw := zoz [] Tryz.func124
end Go.Proofs.YthpnelbciibjeaaGreat
