/- The conditions of each function, its slots as variables, and that the logic's conditions are these. Printed by program. -/
import Derived.Test.YtcappjcojggehaaGreatNm
import Derived.KernelRfl
set_option linter.all false
set_option maxRecDepth 100000
set_option linter.unusedVariables false
namespace Go.Proofs.YtcappjcojggehaaGreat
open Go.AW
def zeY (P : Program) (x0 : AV) (σ : LO) (Z : ZT) : Prop :=
 zbg x0 σ fun a s =>
 cA P zkg [] s fun b s =>
 unC .not b s fun c s =>
 zF c (z1 Z bF s) (zl true 6 a s fun d s =>
 cA P zco [d] s fun e s =>
 fl 3 a s fun f s =>
 zaA .sl f s fun g s =>
 zbG [eN, (iN 0)] s fun v s h =>
 zbf v fun i v => zbf v fun j v => bP .lss j g s fun l s =>
 zF l (il true 6 6 f j s fun m s =>
 cp [iN 0, iN 0, (.d (.int .u8 0)), iN 0, (.d (.int .u8 0)), eN] 6 m s fun n s =>
 zl true 6 n s fun o s =>
 cA P zcn [e, o] s fun p s =>
 cp [iN 0, iN 0, iN 0, iN 0, iN 0, eN, eN] 7 p s fun q s =>
 zl true 7 q s fun r s =>
 m1 7 [iN 0, iN 0, iN 0, iN 0, iN 0, eN, eN] r s fun u s =>
 zo 7 88 i u s fun w s =>
 nfl 0 e s fun y s =>
 nfl 1 e s fun z s =>
 fl 0 a s fun A s =>
 zl true 7 q s fun B s =>
 zba e s fun C s =>
 ze 2 C s fun D s =>
 zl false 1 D s fun E s =>
 zba e s fun F s =>
 ze 3 F s fun G s =>
 zl false 1 G s fun H s =>
 ze 0 a s fun I s =>
 zl false 1 I s fun J s =>
 zl true 7 q s fun K s =>
 cA P zbB [y, z, A, B] s fun L t =>
 zL D s t ∧ (zL G s t ∧ (zL I s t ∧ (zL q s t ∧ (cA P zgs [E, H, J, K] t fun M s =>
 zbI .neq .bool L M s fun N s =>
 zF N (z1 Z bF s) (bP .add j (iN 1) s fun O s =>
 h [w, O] s)))))) (nfl 0 e s fun Q s =>
 nfl 1 e s fun R s =>
 fl 0 a s fun S s =>
 fl 4 a s fun T s =>
 fl 5 a s fun U s =>
 zba e s fun V s =>
 ze 2 V s fun W s =>
 zl false 1 W s fun X s =>
 zba e s fun Y s =>
 ze 3 Y s fun a0 s =>
 zl false 1 a0 s fun b0 s =>
 ze 0 a s fun c0 s =>
 zl false 1 c0 s fun d0 s =>
 ze 4 a s fun e0 s =>
 zl false 1 e0 s fun f0 s =>
 ze 5 a s fun g0 s =>
 zl false 1 g0 s fun h0 s =>
 cA P zeg [Q, R, S, T, U, i] s fun i0 t =>
 zL W s t ∧ (zL a0 s t ∧ (zL c0 s t ∧ (zL e0 s t ∧ (zL g0 s t ∧ (cA P ziM [X, b0, d0, f0, h0, i] t fun j0 s =>
 zbI .eql .bool i0 j0 s fun l0 s =>
 gTm l0 e s fun m0 s =>
 gT l0 (zba m0 s) s fun o0 s =>
 gTl l0 0 o0 s fun p0 s =>
 gTm l0 e s fun q0 s =>
 gT l0 (zba q0 s) s fun r0 s =>
 gT l0 (ze 2 r0 s) s fun u0 s =>
 gT l0 (zl false 1 u0 s) s fun w0 s =>
 gT l0 (zba w0 s) s fun y0 s =>
 gT l0 (ze 0 y0 s) s fun z0 s =>
 gT l0 (zl false 1 z0 s) s fun A0 s =>
 gT l0 (zaA .sl A0 s) s fun B0 s =>
 gT l0 (cA P zdQ [p0] s) s fun C0 t =>
 zL u0 s t ∧ (zL z0 s t ∧ (gT l0 (bP .eql C0 B0 t) t fun D0 s =>
 anC l0 D0 s fun E0 s =>
 gTm E0 e s fun F0 s =>
 gT E0 (zba F0 s) s fun G0 s =>
 gTl E0 1 G0 s fun H0 s =>
 gTm E0 e s fun I0 s =>
 gT E0 (zba I0 s) s fun J0 s =>
 gT E0 (ze 3 J0 s) s fun K0 s =>
 gT E0 (zl false 1 K0 s) s fun L0 s =>
 gT E0 (zba L0 s) s fun M0 s =>
 gT E0 (ze 0 M0 s) s fun N0 s =>
 gT E0 (zl false 1 N0 s) s fun O0 s =>
 gT E0 (zaA .sl O0 s) s fun Q0 s =>
 gT E0 (cA P zdt [H0] s) s fun R0 t =>
 zL K0 s t ∧ (zL N0 s t ∧ (gT E0 (bP .eql R0 Q0 t) t fun S0 s =>
 anC E0 S0 s fun T0 s =>
 z1 Z T0 s)))))))))))
theorem zeO : F1 Tryz.prog zdg zeY := zm [.l [4, 15] [(2, 1), (6, 2), (16, 36)], .d [(0, 11), (12, 11), (11, 1), (23, 2)] [(11, [40, 44, 46, 7])], .d [(0, 15), (16, 15), (15, 1), (31, 7), (39, 8), (38, 1), (47, 7), (55, 8), (54, 1), (63, 3)] [(15, [70, 74, 76, 78, 80]), (38, [93, 96]), (54, [109, 112])]] Tryz.func4 (by decide +kernel) (by kernel_rfl) fun {_ _ _ _} => cast (by kernel_rfl)
def zog (P : Program) (σ : LO) (Z : ZT) : Prop :=
 zD (zag [iN 0, iN 0, iN 0, iN 0, (.d (.int .u8 0))] [(0, 1, (iN 0)), (1, 1, (iN 2)), (3, 1, (iN 1))]) σ fun a s =>
 zD (zag [iN 0, iN 0, iN 0, iN 0, (.d (.int .u8 0))] [(0, 1, (iN 1)), (1, 1, (iN 3)), (3, 1, (iN 1))]) s fun b s =>
 zD (zag [iN 0, iN 0, iN 0, iN 0, (.d (.int .u8 0))] [(0, 1, (iN 3)), (1, 1, (iN 3)), (3, 1, (iN 1))]) s fun c s =>
 zj false 5 3 (zag (rep [iN 0, iN 0, iN 0, iN 0, (.d (.int .u8 0))] 3) [(0, 5, a), (5, 5, b), (10, 5, c)]) s fun d s =>
 zD (zag [iN 0, eN, eN, eN, iN 0, iN 0] [(0, 1, (iN 1)), (2, 1, d)]) s fun e s =>
 cp [iN 0, eN, eN, eN, iN 0, iN 0] 6 e s fun f s =>
 zl true 6 f s fun g s =>
 cA P zco [g] s fun h s =>
 zj false 1 2 (zag (rep [(.d (.int .u8 0))] 2) [(0, 1, (.d (.int .u8 2))), (1, 1, (.d (.int .u8 3)))]) s fun i s =>
 zD (zag [iN 0, iN 0, (.d (.int .u8 0)), iN 0, (.d (.int .u8 0)), eN] [(1, 1, (iN 1)), (4, 1, (.d (.int .u8 1))), (5, 1, i)]) s fun j s =>
 cA P zcn [h, j] s fun l s =>
 cp [iN 0, iN 0, iN 0, iN 0, iN 0, eN, eN] 7 l s fun m s =>
 m1 1 [(.d (.int .u8 0))] (.d (.int .u8 2)) s fun n s =>
 zD (zag [iN 0, iN 0, (.d (.int .u8 0)), iN 0, (.d (.int .u8 0)), eN] [(1, 1, (iN 1)), (4, 1, (.d (.int .u8 1))), (5, 1, n)]) s fun o s =>
 cA P zcn [h, o] s fun p s =>
 cp [iN 0, iN 0, iN 0, iN 0, iN 0, eN, eN] 7 p s fun q s =>
 cA P zfy [] s fun r s =>
 nfl 0 h s fun u s =>
 nfl 1 h s fun w s =>
 zl true 7 m s fun y s =>
 cA P zbB [u, w, (iN 1), y] s fun z s =>
 gTm z h s fun A s =>
 gT z (zba A s) s fun B s =>
 gTl z 0 B s fun C s =>
 gTm z h s fun D s =>
 gT z (zba D s) s fun E s =>
 gTl z 1 E s fun F s =>
 gT z (zl true 7 q s) s fun G s =>
 gT z (cA P zbB [C, F, (iN 1), G] s) s fun H s =>
 gT z (unC .not H s) s fun I s =>
 anC z I s fun J s =>
 gTm J r s fun K s =>
 gT J (zbI .neq .ptr K (.d .nilp) s) s fun L s =>
 anC J L s fun M s =>
 gTm M r s fun N s =>
 gT M (zl true 7 m s) s fun O s =>
 gT M (cA P zcg [N, O] s) s fun Q s =>
 anC M Q s fun R s =>
 gTm R r s fun S s =>
 gT R (zl true 7 m s) s fun T s =>
 gT R (cA P zcg [S, T] s) s fun U s =>
 gT R (unC .not U s) s fun V s =>
 anC R V s fun W s =>
 gTm W r s fun X s =>
 gT W (cA P zdf [X] s) s fun Y s =>
 gT W (bP .eql Y (iN 1) s) s fun a0 s =>
 anC W a0 s fun b0 s =>
 z1 Z b0 s
theorem znL : F0 Tryz.prog zkg zog := zm [.d [(0, 44)] []] Tryz.func8 (by decide +kernel) (by kernel_rfl) fun {_ _ _} => cast (by kernel_rfl)
def zmD (P : Program) (x0 : AV) (σ : LO) (Z : ZT) : Prop :=
 bP .lss x0 (iN 1) σ fun a s =>
 gFm a x0 s fun b s =>
 gF a (bP .gtr b (iN 4) s) s fun c s =>
 orC a c s fun d s =>
 zF d (z1 Z (iN 120) s) (z1 Z (iN 0) s)
theorem zmd : F1 Tryz.prog zeE zmD := zm [] Tryz.func9 (by decide +kernel) (by kernel_rfl) fun {_ _ _ _} => cast (by kernel_rfl)
def zhi (P : Program) (x0 : AV) (σ : LO) (Z : ZT) : Prop :=
 zbg x0 σ fun a s =>
 cA P zdb [] s fun b s =>
 cA P zcD [] s fun c s =>
 zD (zag [eN] []) s fun d s =>
 zbg d s fun e s =>
 zD (zag [eN] []) s fun f s =>
 zbg f s fun g s =>
 zD (zag [(.d .nilp), (.d .nilp), (.d .nilp), (.d .nilp), eN, eN, eN] [(0, 1, b), (1, 1, c), (2, 1, e), (3, 1, g)]) s fun h s =>
 zbg h s fun i s =>
 m1 1 [eN] eN s fun j s =>
 fl 1 a s fun l s =>
 zo 1 24 j l s fun m s =>
 zaA .sl m s fun n s =>
 zbG [(iN 0)] s fun v s o =>
 zbf v fun p v => bP .lss p n s fun q s =>
 zF q (il false 1 1 m p s fun r s =>
 zaA .sl r s fun u s =>
 zbG [eN, (iN 0)] s fun v s w =>
 zbf v fun y v => zbf v fun z v => bP .lss z u s fun A s =>
 zF A ((fun (B : AV → LO → Prop) => il true 7 7 r z s fun E s =>
 cp [iN 0, iN 0, iN 0, (.d (.str [])), (.d (.str [])), iN 0, eN] 7 E s fun F s =>
 zba i s fun G s =>
 ze 2 G s fun H s =>
 zl false 1 H s fun I s =>
 zba i s fun J s =>
 ze 3 J s fun K s =>
 zl false 1 K s fun L s =>
 zl true 7 F s fun M s =>
 (fun (N : AV → AV → LO → Prop) => (cA P zii [I, L, M] s fun V s =>
 zc V 0 s fun W s =>
 zc V 1 s fun X s =>
 cp [iN 0, iN 0, iN 0, (.d (.str [])), (.d (.str [])), iN 0, eN, iN 0, iN 0] 9 W s fun Y s =>
 N Y X s) ∧
 (zU [iN 0, iN 0, iN 0, (.d (.str [])), (.d (.str [])), iN 0, eN, iN 0, iN 0] s fun a0 t =>
 zL H s t ∧ (zL K s t ∧ (zL F s t ∧ (cA P zii [I, L, M] t fun b0 s =>
 zc b0 0 s fun c0 s =>
 zc b0 1 s fun d0 s =>
 zu 9 a0 c0 s fun _ s =>
 N a0 d0 s)))))
 (fun O Q s => bP .eql Q (iN 0) s fun R s =>
 zF R (zl true 9 O s fun S s =>
 m1 9 [iN 0, iN 0, iN 0, (.d (.str [])), (.d (.str [])), iN 0, eN, iN 0, iN 0] S s fun T s =>
 zo 9 104 y T s fun U s =>
 B U s) (B y s)))
 (fun C s => bP .add z (iN 1) s fun D s =>
 w [C, D] s)) (nfl 2 i s fun f0 s =>
 cA P zhA [f0, y] s fun g0 s =>
 zc g0 0 s fun h0 s =>
 zc g0 1 s fun _ s =>
 nfl 4 i s fun j0 s =>
 m1 1 [eN] y s fun l0 s =>
 zba i s fun m0 s =>
 ze 5 m0 s fun o0 s =>
 zl false 1 o0 s fun p0 s =>
 m1 1 [iN 0] h0 s fun q0 s =>
 zo 1 24 j0 l0 s fun r0 t =>
 zL o0 s t ∧ (zo 1 8 p0 q0 t fun u0 s =>
 zba i s fun w0 s =>
 ze 4 w0 s fun y0 s =>
 zu 1 y0 r0 s fun _ s =>
 zba i s fun A0 s =>
 ze 5 A0 s fun B0 s =>
 zu 1 B0 u0 s fun _ s =>
 bP .add p (iN 1) s fun D0 s =>
 o [D0] s))) (zD (zag [iN 0, iN 0] []) s fun E0 s =>
 m1 2 [iN 0, iN 0] E0 s fun F0 s =>
 zba i s fun G0 s =>
 ze 6 G0 s fun H0 s =>
 zu 1 H0 F0 s fun _ s =>
 fl 2 a s fun J0 s =>
 zaA .sl J0 s fun K0 s =>
 zbG [(iN 0)] s fun v s L0 =>
 zbf v fun M0 v => bP .lss M0 K0 s fun N0 s =>
 zF N0 (il true 5 5 J0 M0 s fun O0 s =>
 cp [iN 0, iN 0, iN 0, iN 0, (.d (.int .u8 0))] 5 O0 s fun Q0 s =>
 nfl 5 i s fun R0 s =>
 fl 4 Q0 s fun S0 s =>
 zaa (.int .i64) S0 s fun T0 s =>
 nfl 5 i s fun U0 s =>
 zaA .sl U0 s fun V0 s =>
 bP .rem T0 V0 s fun W0 s =>
 il false 1 1 R0 W0 s fun X0 s =>
 zba i s fun Y0 s =>
 ze 2 Y0 s fun a1 s =>
 zl false 1 a1 s fun b1 s =>
 zba i s fun c1 s =>
 ze 3 c1 s fun d1 s =>
 zl false 1 d1 s fun e1 s =>
 ze 0 Q0 s fun f1 s =>
 zl false 1 f1 s fun g1 s =>
 ze 1 Q0 s fun h1 s =>
 zl false 1 h1 s fun i1 s =>
 ze 2 Q0 s fun j1 s =>
 zl false 1 j1 s fun l1 s =>
 ze 3 Q0 s fun o1 s =>
 zl false 1 o1 s fun p1 s =>
 (fun (q1 : AV → LO → Prop) => (cA P zih [b1, e1, g1, i1, l1, p1, X0] s fun F1 s =>
 zc F1 0 s fun G1 s =>
 zc F1 1 s fun _ s =>
 cp [iN 0, iN 0] 2 G1 s fun I1 s =>
 q1 I1 s) ∧
 (zU [iN 0, iN 0] s fun J1 t =>
 zL a1 s t ∧ (zL d1 s t ∧ (zL f1 s t ∧ (zL h1 s t ∧ (zL j1 s t ∧ (zL o1 s t ∧ (cA P zih [b1, e1, g1, i1, l1, p1, X0] t fun K1 s =>
 zc K1 0 s fun L1 s =>
 zc K1 1 s fun _ s =>
 zu 2 J1 L1 s fun _ s =>
 q1 J1 s))))))))
 (fun r1 s => nfl 6 i s fun u1 s =>
 zl true 2 r1 s fun w1 s =>
 m1 2 [iN 0, iN 0] w1 s fun y1 s =>
 zo 2 16 u1 y1 s fun A1 s =>
 zba i s fun B1 s =>
 ze 6 B1 s fun C1 s =>
 zu 1 C1 A1 s fun _ s =>
 bP .add M0 (iN 1) s fun E1 s =>
 L0 [E1] s)) (nfl 2 i s fun O1 s =>
 nfl 0 O1 s fun Q1 s =>
 zaA .sl Q1 s fun R1 s =>
 zbG [(iN 0)] s fun v s S1 =>
 zbf v fun T1 v => bP .lss T1 R1 s fun U1 s =>
 zF U1 (il false 1 1 Q1 T1 s fun V1 s =>
 nfl 0 i s fun W1 s =>
 cA P zcC [W1, V1] s fun _ s =>
 bP .add T1 (iN 1) s fun Y1 s =>
 S1 [Y1] s) (nfl 3 i s fun a2 s =>
 nfl 0 a2 s fun b2 s =>
 zaA .sl b2 s fun c2 s =>
 zbG [(iN 0)] s fun v s d2 =>
 zbf v fun e2 v => bP .lss e2 c2 s fun f2 s =>
 zF f2 (il true 2 2 b2 e2 s fun g2 s =>
 cp [iN 0, iN 0] 2 g2 s fun h2 s =>
 nfl 1 i s fun i2 s =>
 fl 0 h2 s fun j2 s =>
 fl 1 h2 s fun l2 s =>
 cA P zci [i2, j2, l2] s fun _ s =>
 bP .add e2 (iN 1) s fun o2 s =>
 d2 [o2] s) (z1 Z i s))))
theorem zgU : F1 Tryz.prog zco zhi := zm [.l [35] [(5, 2), (8, 5), (36, 59)], .l [6, 41] [(8, 3), (42, 23)], .dd [(0, []), (1, []), (2, []), (3, []), (4, []), (5, []), (6, []), (7, []), (8, []), (9, []), (10, []), (11, []), (12, []), (13, []), (14, []), (15, []), (13, [48, 52, 8]), (9, []), (10, []), (11, []), (12, []), (14, []), (15, [])] [9, 13, 9, 0, 1, 3, 7, 0, 16, 48, 112, 0, 511, 1023, 2047, 2047, 1023, 12287, 32767, 0, 1, 3, 7, 0, 16, 48, 112, 0, 8703, 9215, 10239, 10239, 0, 12287, 32767], .d [(0, 8), (9, 6), (8, 1), (15, 7)] [(8, [85])], .l [103] [(14, 4), (104, 50)], .d [(0, 16)] [], .dd [(0, []), (1, []), (2, []), (3, []), (4, []), (5, []), (6, []), (7, []), (8, []), (9, []), (10, []), (11, []), (12, []), (13, []), (14, []), (15, []), (16, []), (17, []), (18, []), (19, []), (20, []), (21, []), (22, []), (23, []), (21, [125, 129, 131, 133, 135, 137]), (17, []), (18, []), (19, []), (20, []), (22, []), (23, [])] [17, 21, 17, 0, 1, 3, 7, 0, 16, 48, 112, 0, 256, 0, 1024, 0, 4096, 0, 16384, 0, 131071, 262143, 524287, 524287, 262143, 3145727, 8388607, 0, 1, 3, 7, 0, 16, 48, 112, 0, 256, 0, 1024, 0, 4096, 0, 16384, 0, 2228223, 2359295, 2621439, 2621439, 0, 3145727, 8388607], .d [(0, 11)] [], .l [162] [(19, 1), (163, 10)], .l [181] [(21, 1), (182, 13)], .d [(0, 9)] []] Tryz.func14 (by decide +kernel) (by kernel_rfl) fun {_ _ _ _} => cast (by kernel_rfl)
def zhh (P : Program) (x0 x1 : AV) (σ : LO) (Z : ZT) : Prop :=
 zbg x1 σ fun a s =>
 zU [iN 0, iN 0, iN 0, iN 0, iN 0, eN, eN] s fun b s =>
 fl 2 a s fun c s =>
 zaa (.int .i64) c s fun d s =>
 nfl 4 x0 s fun e s =>
 zaA .sl e s fun f s =>
 bP .rem d f s fun g s =>
 ze 0 a s fun h s =>
 zl false 1 h s fun i s =>
 ze 1 a s fun j s =>
 zl false 1 j s fun l s =>
 ze 3 a s fun m s =>
 zl false 1 m s fun n s =>
 zba x0 s fun o s =>
 ze 4 o s fun p s =>
 zl false 1 p s fun q s =>
 zH none 1 q g s fun r s =>
 zl false 1 r s fun u s =>
 zba x0 s fun w s =>
 ze 6 w s fun y s =>
 zl false 1 y s fun z s =>
 ze 4 a s fun A s =>
 zl false 1 A s fun B s =>
 zaa (.int .i64) B s fun C s =>
 zba x0 s fun D s =>
 ze 6 D s fun E s =>
 zl false 1 E s fun F s =>
 zaA .sl F s fun G s =>
 bP .rem C G s fun H s =>
 zH none 2 z H s fun I s =>
 zl true 2 I s fun J s =>
 zD (zag [iN 0, iN 0, iN 0, iN 0, iN 0, eN, eN] [(0, 1, i), (1, 1, l), (2, 1, n), (6, 1, u), (3, 2, J)]) s fun K s =>
 zU [iN 0, iN 0, iN 0, iN 0, iN 0, eN, eN] s fun L t =>
 zL h s t ∧ (zL j s t ∧ (zL m s t ∧ (zL p s t ∧ (zL r s t ∧ (zL y s t ∧ (zL A s t ∧ (zL E s t ∧ (zL I s t ∧ (zu 7 L K t fun _ s =>
 (fun (N : LO → Prop) => fl 2 L s fun l0 s =>
 bP .eql l0 (iN 0) s fun m0 s =>
 zF m0 (nfl 5 x0 s fun o0 s =>
 il false 1 1 o0 g s fun p0 s =>
 ze 2 L s fun q0 s =>
 zu 1 q0 p0 s fun _ s =>
 N s) (N s))
 (fun  s => fl 5 a s fun O s =>
 zaA .sl O s fun Q s =>
 zbG [(iN 0)] s fun v s R =>
 zbf v fun S v => bP .lss S Q s fun T s =>
 zF T (il false 1 1 O S s fun U s =>
 fl 5 L s fun V s =>
 nfl 6 x0 s fun W s =>
 zaa (.int .i64) U s fun X s =>
 nfl 6 x0 s fun Y s =>
 zaA .sl Y s fun a0 s =>
 bP .rem X a0 s fun b0 s =>
 il true 2 2 W b0 s fun c0 s =>
 m1 2 [iN 0, iN 0] c0 s fun d0 s =>
 zo 2 16 V d0 s fun e0 s =>
 ze 5 L s fun f0 s =>
 zu 1 f0 e0 s fun _ s =>
 bP .add S (iN 1) s fun h0 s =>
 R [h0] s) (zl true 7 L s fun i0 s =>
 zu 7 b i0 s fun _ s =>
 Z (zN (zaq b s true 7) (some [])) s)))))))))))
theorem zgT : F2 Tryz.prog zcn zhh := zm [.d [(0, 10)] [], .d [(0, 31)] [(29, [18, 20, 22, 26, 29, 33, 35, 40, 44])], .l [61] [(8, 1), (62, 23)], .d [(0, 20)] []] Tryz.func15 (by decide +kernel) (by kernel_rfl) fun {_ _ _ _ _} => cast (by kernel_rfl)
def zhf (P : Program) (x0 x1 x2 x3 : AV) (σ : LO) (Z : ZT) : Prop :=
 zbg x3 σ fun a s =>
 cA P zch [x0] s fun b s =>
 zbI .eql .ptr b (.d .nilp) s fun c s =>
 gFm c x1 s fun d s =>
 gF c (cA P zbR [d] s) s fun e s =>
 gF c (zbI .eql .ptr e (.d .nilp) s) s fun f s =>
 orC c f s fun g s =>
 gFm g x2 s fun h s =>
 gF g (cA P zcW [h] s) s fun i s =>
 gF g (bP .neq i (iN 0) s) s fun j s =>
 orC g j s fun l s =>
 gFl l 0 a s fun m s =>
 gF l (bP .lss m (iN 0) s) s fun n s =>
 orC l n s fun o s =>
 gFl o 0 a s fun p s =>
 gF o (bP .gtr p (iN 9007199254740992) s) s fun q s =>
 orC o q s fun r s =>
 gFl r 1 a s fun u s =>
 gF r (bP .lss u (iN 1) s) s fun w s =>
 orC r w s fun y s =>
 gFl y 1 a s fun z s =>
 gF y (bP .gtr z (iN 9007199254740992) s) s fun A s =>
 orC y A s fun B s =>
 gFm B x0 s fun C s =>
 gFm B x1 s fun D s =>
 gFl B 6 a s fun E s =>
 gF B (cA P zcU [C, D, E] s) s fun F s =>
 gF B (unC .not F s) s fun G s =>
 orC B G s fun H s =>
 zF H (z1 Z bF s) (fl 6 a s fun I s =>
 cA P zdn [eN, I] s fun J s =>
 cA P zbs [x0, J] s fun K s =>
 zc K 0 s fun L s =>
 zc K 1 s fun M s =>
 fl 0 a s fun N s =>
 cA P zee [x2, N] s fun O s =>
 unC .not M s fun Q s =>
 gFm Q L s fun R s =>
 gFl Q 2 a s fun S s =>
 gF Q (bP .neq R S s) s fun T s =>
 orC Q T s fun U s =>
 gFm U x0 s fun V s =>
 gFm U x1 s fun W s =>
 gF U (ze 3 a s) s fun X s =>
 gF U (zl true 2 X s) s fun Y s =>
 gFm U O s fun a0 s =>
 gFl U 0 a s fun b0 s =>
 gFl U 1 a s fun c0 s =>
 gFm U L s fun d0 s =>
 gF U (cA P zdc [V, W, Y, a0, (iN 2), b0, c0, d0] s) s fun e0 s =>
 gF U (unC .not e0 s) s fun f0 s =>
 orC U f0 s fun g0 s =>
 gFl g0 5 a s fun h0 s =>
 gF g0 (zaA .sl h0 s) s fun i0 s =>
 gFm g0 x2 s fun j0 s =>
 gF g0 (bP .mul (iN 2) j0 s) s fun l0 s =>
 gF g0 (bP .neq i0 l0 s) s fun m0 s =>
 orC g0 m0 s fun o0 s =>
 zF o0 (z1 Z bF s) (fl 5 a s fun p0 s =>
 zaA .sl p0 s fun q0 s =>
 zbG [(iN (-1)), (iN 0)] s fun v s r0 =>
 zbf v fun u0 v => zbf v fun w0 v => bP .lss w0 q0 s fun y0 s =>
 zF y0 (il true 2 2 p0 w0 s fun z0 s =>
 cp [iN 0, iN 0] 2 z0 s fun A0 s =>
 fl 0 A0 s fun B0 s =>
 bP .leq B0 u0 s fun C0 s =>
 gF C0 (ze 0 A0 s) s fun D0 s =>
 gF C0 (zl false 1 D0 s) s fun E0 s =>
 gFm C0 x2 s fun F0 s =>
 gF C0 (cA P zda [F0] s) s fun G0 t =>
 zL D0 s t ∧ (gF C0 (bP .geq E0 G0 t) t fun H0 s =>
 orC C0 H0 s fun I0 s =>
 gFl I0 0 A0 s fun J0 s =>
 gFm I0 O s fun K0 s =>
 gF I0 (bP .eql J0 K0 s) s fun L0 s =>
 orC I0 L0 s fun M0 s =>
 gFm M0 x0 s fun N0 s =>
 gFm M0 x1 s fun O0 s =>
 gF M0 (zl true 2 A0 s) s fun Q0 s =>
 gFl M0 0 A0 s fun R0 s =>
 gFl M0 0 a s fun S0 s =>
 gFl M0 1 a s fun T0 s =>
 gFm M0 L s fun U0 s =>
 gF M0 (cA P zdc [N0, O0, Q0, R0, (iN 3), S0, T0, U0] s) s fun V0 s =>
 gF M0 (unC .not V0 s) s fun W0 s =>
 orC M0 W0 s fun X0 s =>
 zF X0 (z1 Z bF s) (fl 0 A0 s fun Y0 s =>
 bP .add w0 (iN 1) s fun a1 s =>
 r0 [Y0, a1] s))) (z1 Z bT s)))
theorem zgR : F4 Tryz.prog zbB zhf := zm [.l [12, 101] [(8, 1), (14, 1), (102, 37)], .d [(0, 31)] [(8, [110])]] Tryz.func16 (by decide +kernel) (by kernel_rfl) fun {_ _ _ _ _ _ _} => cast (by kernel_rfl)
def zmB (P : Program) (x0 x1 x2 x3 : AV) (σ : LO) (Z : ZT) : Prop :=
 zbg x3 σ fun a s =>
 cA P zeE [x2] s fun b s =>
 bP .neq b (iN 0) s fun c s =>
 gFl c 0 a s fun d s =>
 gF c (bP .lss d (iN 0) s) s fun e s =>
 orC c e s fun f s =>
 gFl f 0 a s fun g s =>
 gF f (bP .gtr g (iN 9007199254740992) s) s fun h s =>
 orC f h s fun i s =>
 gFl i 1 a s fun j s =>
 gF i (bP .lss j (iN 1) s) s fun l s =>
 orC i l s fun m s =>
 gFl m 1 a s fun n s =>
 gF m (bP .gtr n (iN 9007199254740992) s) s fun o s =>
 orC m o s fun p s =>
 gFm p x0 s fun q s =>
 gFm p x1 s fun r s =>
 gFl p 6 a s fun u s =>
 gF p (cA P zed [q, r, u] s) s fun w s =>
 gF p (unC .not w s) s fun y s =>
 orC p y s fun z s =>
 gFl z 5 a s fun A s =>
 gF z (zaA .sl A s) s fun B s =>
 gFm z x2 s fun C s =>
 gF z (bP .mul (iN 2) C s) s fun D s =>
 gF z (bP .neq B D s) s fun E s =>
 orC z E s fun F s =>
 zF F (z1 Z bF s) (fl 6 a s fun G s =>
 cA P zdW [eN, G] s fun H s =>
 cA P zbA [x0, H] s fun I s =>
 zc I 0 s fun J s =>
 zc I 1 s fun K s =>
 fl 0 a s fun L s =>
 cA P zgt [x2, L] s fun M s =>
 unC .not K s fun N s =>
 gFm N J s fun O s =>
 gFl N 2 a s fun Q s =>
 gF N (bP .neq O Q s) s fun R s =>
 orC N R s fun S s =>
 gFm S x0 s fun T s =>
 gFm S x1 s fun U s =>
 gF S (ze 3 a s) s fun V s =>
 gF S (zl true 2 V s) s fun W s =>
 gFm S M s fun X s =>
 gFl S 0 a s fun Y s =>
 gFl S 1 a s fun a0 s =>
 gFm S J s fun b0 s =>
 gF S (cA P zdr [T, U, W, X, (iN 2), Y, a0, b0] s) s fun c0 s =>
 gF S (unC .not c0 s) s fun d0 s =>
 orC S d0 s fun e0 s =>
 zF e0 (z1 Z bF s) (zbG [(iN (-1)), (iN 0)] s fun v s f0 =>
 zbf v fun g0 v => zbf v fun h0 v => fl 5 a s fun i0 s =>
 zaA .sl i0 s fun j0 s =>
 bP .lss h0 j0 s fun l0 s =>
 zF l0 (fl 5 a s fun m0 s =>
 zH none 2 m0 h0 s fun o0 s =>
 fl 0 o0 s fun p0 s =>
 bP .leq p0 g0 s fun q0 s =>
 gFm q0 p0 s fun r0 s =>
 gFm q0 x2 s fun u0 s =>
 gF q0 (cA P zev [u0] s) s fun w0 s =>
 gF q0 (bP .geq r0 w0 s) s fun y0 s =>
 orC q0 y0 s fun z0 s =>
 gFm z0 p0 s fun A0 s =>
 gFm z0 M s fun B0 s =>
 gF z0 (bP .eql A0 B0 s) s fun C0 s =>
 orC z0 C0 s fun D0 s =>
 gFm D0 x0 s fun E0 s =>
 gFm D0 x1 s fun F0 s =>
 gFl D0 5 a s fun G0 s =>
 gFm D0 h0 s fun H0 s =>
 gF D0 (zH none 2 G0 H0 s) s fun I0 s =>
 gF D0 (zl true 2 I0 s) s fun J0 s =>
 gFm D0 p0 s fun K0 s =>
 gFl D0 0 a s fun L0 s =>
 gFl D0 1 a s fun M0 s =>
 gFm D0 J s fun N0 s =>
 gF D0 (cA P zdr [E0, F0, J0, K0, (iN 3), L0, M0, N0] s) s fun O0 s =>
 gF D0 (unC .not O0 s) s fun Q0 s =>
 orC D0 Q0 s fun R0 s =>
 zF R0 (z1 Z bF s) (bP .add h0 (iN 1) s fun S0 s =>
 f0 [p0, S0] s)) (z1 Z bT s)))
theorem zmb : F4 Tryz.prog zgs zmB := zm [.l [12, 13] [(8, 1), (14, 1), (88, 45)], .d [(0, 31)] []] Tryz.func17 (by decide +kernel) (by kernel_rfl) fun {_ _ _ _ _ _ _} => cast (by kernel_rfl)
def zhg (P : Program) (x0 x1 x2 x3 x4 x5 : AV) (σ : LO) (Z : ZT) : Prop :=
 zaA .sl x5 σ fun a s =>
 zbG [x4, (iN 0)] s fun v s b =>
 zbf v fun c v => zbf v fun d v => bP .lss d a s fun e s =>
 zF e (il true 7 7 x5 d s fun f s =>
 cp [iN 0, iN 0, iN 0, iN 0, iN 0, eN, eN] 7 f s fun g s =>
 zl true 7 g s fun h s =>
 cA P zbB [x0, x1, x2, h] s fun i s =>
 unC .not i s fun j s =>
 gFl j 0 g s fun l s =>
 gFm j x3 s fun m s =>
 gF j (bP .geq l m s) s fun n s =>
 orC j n s fun o s =>
 gFl o 1 g s fun p s =>
 gFm o c s fun q s =>
 gF o (bP .leq p q s) s fun r s =>
 orC o r s fun u s =>
 gFm u x4 s fun w s =>
 gF u (bP .lss w (iN 0) s) s fun y s =>
 gFm u y s fun z s =>
 gTl z 1 g s fun A s =>
 gTm z x4 s fun B s =>
 gT z (bP .add (iN 8) B s) s fun C s =>
 gT z (bP .gtr A C s) s fun D s =>
 gF u (anC z D s) s fun E s =>
 orC u E s fun F s =>
 gFm F x4 s fun G s =>
 gF F (bP .geq G (iN 0) s) s fun H s =>
 gFm F H s fun I s =>
 gTl I 1 g s fun J s =>
 gTm I x4 s fun K s =>
 gT I (bP .sub J K s) s fun L s =>
 gT I (bP .gtr L (iN 8) s) s fun M s =>
 gF F (anC I M s) s fun N s =>
 orC F N s fun O s =>
 zF O (z1 Z bF s) (fl 1 g s fun Q s =>
 bP .add d (iN 1) s fun R s =>
 b [Q, R] s)) (z1 Z bT s)
theorem zgS : F6 Tryz.prog zeg zhg := zm [.l [13, 19] [(12, 1), (15, 1), (20, 46)]] Tryz.func18 (by decide +kernel) (by kernel_rfl) fun {_ _ _ _ _ _ _ _ _} => cast (by kernel_rfl)
def zmC (P : Program) (x0 x1 x2 x3 x4 x5 : AV) (σ : LO) (Z : ZT) : Prop :=
 zbG [x4, (iN 0)] σ fun v s a =>
 zbf v fun b v => zbf v fun c v => zaA .sl x5 s fun d s =>
 bP .lss c d s fun e s =>
 zF e (il true 7 7 x5 c s fun f s =>
 cA P zgs [x0, x1, x2, f] s fun g s =>
 unC .not g s fun h s =>
 gFm h x5 s fun i s =>
 gFm h c s fun j s =>
 gF h (zH none 7 i j s) s fun l s =>
 gFl h 0 l s fun m s =>
 gFm h x3 s fun n s =>
 gF h (bP .geq m n s) s fun o s =>
 orC h o s fun p s =>
 gFm p x5 s fun q s =>
 gFm p c s fun r s =>
 gF p (zH none 7 q r s) s fun u s =>
 gFl p 1 u s fun w s =>
 gFm p b s fun y s =>
 gF p (bP .leq w y s) s fun z s =>
 orC p z s fun A s =>
 gFm A x5 s fun B s =>
 gFm A c s fun C s =>
 gF A (zH none 7 B C s) s fun D s =>
 gFl A 1 D s fun E s =>
 gFm A x4 s fun F s =>
 gF A (bP .leq E F s) s fun G s =>
 orC A G s fun H s =>
 gFm H x5 s fun I s =>
 gFm H c s fun J s =>
 gF H (zH none 7 I J s) s fun K s =>
 gFl H 1 K s fun L s =>
 gF H (bP .sub L (iN 8) s) s fun M s =>
 gFm H x4 s fun N s =>
 gF H (bP .gtr M N s) s fun O s =>
 orC H O s fun Q s =>
 zF Q (z1 Z bF s) (zH none 7 x5 c s fun R s =>
 fl 1 R s fun S s =>
 bP .add c (iN 1) s fun T s =>
 a [S, T] s)) (z1 Z bT s)
theorem zmc : F6 Tryz.prog ziM zmC := zm [.l [13, 14] [(12, 1), (16, 57)]] Tryz.func19 (by decide +kernel) (by kernel_rfl) fun {_ _ _ _ _ _ _ _ _} => cast (by kernel_rfl)
def zgk (P : Program) (x0 : AV) (σ : LO) (Z : ZT) : Prop :=
 cA P zbr [x0] σ fun a s =>
 zF a (z1 Z (iN 0) s) (nfl 0 x0 s fun b s =>
 zaA .sl b s fun c s =>
 z1 Z c s)
theorem zga : F1 Tryz.prog zdQ zgk := zm [] Tryz.func20 (by decide +kernel) (by kernel_rfl) fun {_ _ _ _} => cast (by kernel_rfl)
def zfv (P : Program) (x0 : AV) (σ : LO) (Z : ZT) : Prop :=
 cA P zbj [x0] σ fun a s =>
 zF a (z1 Z (iN 0) s) (nfl 0 x0 s fun b s =>
 zaA .sl b s fun c s =>
 z1 Z c s)
theorem zfq : F1 Tryz.prog zdt zfv := zm [] Tryz.func21 (by decide +kernel) (by kernel_rfl) fun {_ _ _ _} => cast (by kernel_rfl)
def zeW (P : Program) (x0 x1 : AV) (σ : LO) (Z : ZT) : Prop :=
 zbg x1 σ fun a s =>
 cA P zbQ [x0] s fun b s =>
 gFl b 1 a s fun c s =>
 gF b (bP .lss c (iN 1) s) s fun d s =>
 orC b d s fun e s =>
 gFl e 1 a s fun f s =>
 gF e (bP .gtr f (iN 9007199254740992) s) s fun g s =>
 orC e g s fun h s =>
 zF h (z1 Z bF s) (zba x0 s fun i s =>
 ze 0 i s fun j s =>
 zl false 1 j s fun l s =>
 ze 1 a s fun m s =>
 zl false 1 m s fun n s =>
 zar .int true (.agg [iN 0, iN 0, iN 0, iN 0, iN 0, eN, eN]) l n s fun o s =>
 zc o 0 s fun p s =>
 zc o 1 s fun q s =>
 zU [iN 0, iN 0, iN 0, iN 0, iN 0, eN, eN] s fun r t =>
 zL j s t ∧ (zL m s t ∧ (zL l s t ∧ (zu 7 r p t fun _ s =>
 gTl q 0 r s fun w s =>
 gTl q 0 a s fun y s =>
 gT q (bP .geq w y s) s fun z s =>
 anC q z s fun A s =>
 zF A (z1 Z bF s) (zba x0 s fun B s =>
 ze 0 B s fun C s =>
 zl false 1 C s fun D s =>
 ze 1 a s fun E s =>
 zl false 1 E s fun F s =>
 zl true 7 a s fun G s =>
 cA P zef [G] s fun H t =>
 zL C s t ∧ (zL E s t ∧ (zax .int D F H t fun _ s =>
 z1 Z bT s)))))))
theorem zeM : F2 Tryz.prog zcg zeW := zm [.d [(0, 13)] [(10, [22, 24, 23])], .d [(0, 9)] [(7, [39, 41])]] Tryz.func24 (by decide +kernel) (by kernel_rfl) fun {_ _ _ _ _} => cast (by kernel_rfl)
def zeX (P : Program) (x0 : AV) (σ : LO) (Z : ZT) : Prop :=
 cA P zbQ [x0] σ fun a s =>
 zF a (z1 Z (iN 0) s) (nfl 0 x0 s fun b s =>
 zaA .map b s fun c s =>
 z1 Z c s)
theorem zeN : F1 Tryz.prog zdf zeX := zm [] Tryz.func26 (by decide +kernel) (by kernel_rfl) fun {_ _ _ _} => cast (by kernel_rfl)
def zgl (P : Program) (σ : LO) (Z : ZT) : Prop :=
 zaj σ fun a s =>
 zD (zag [eN, (.d .nilmap)] [(1, 1, a)]) s fun b s =>
 zbg b s fun c s =>
 z1 Z c s
theorem zgb : F0 Tryz.prog zcD zgl := zm [] Tryz.func28 (by decide +kernel) (by kernel_rfl) fun {_ _ _} => cast (by kernel_rfl)
def zhj (P : Program) (σ : LO) (Z : ZT) : Prop :=
 zaj σ fun a s =>
 zD (zag [eN, (.d .nilmap)] [(1, 1, a)]) s fun b s =>
 zbg b s fun c s =>
 z1 Z c s
theorem zgV : F0 Tryz.prog zdb zhj := zm [] Tryz.func29 (by decide +kernel) (by kernel_rfl) fun {_ _ _} => cast (by kernel_rfl)
def ziI (P : Program) (σ : LO) (Z : ZT) : Prop :=
 zaj σ fun a s =>
 zD (zag [(.d .nilmap)] [(0, 1, a)]) s fun b s =>
 zbg b s fun c s =>
 z1 Z c s
theorem ziz : F0 Tryz.prog zfy ziI := zm [] Tryz.func30 (by decide +kernel) (by kernel_rfl) fun {_ _ _} => cast (by kernel_rfl)
def zjM (P : Program) (x0 : AV) (σ : LO) (Z : ZT) : Prop :=
 cA P zeE [x0] σ fun a s =>
 bP .neq a (iN 0) s fun b s =>
 zF b (z1 Z (iN 0) s) (bP .mul (iN 3) x0 s fun c s =>
 bP .add c (iN 1) s fun d s =>
 z1 Z d s)
theorem zjt : F1 Tryz.prog zev zjM := zm [] Tryz.func41 (by decide +kernel) (by kernel_rfl) fun {_ _ _ _} => cast (by kernel_rfl)
def znZ (P : Program) (x0 x1 x2 : AV) (σ : LO) (Z : ZT) : Prop :=
 zbg x2 σ fun a s =>
 zU [iN 0, iN 0, iN 0, (.d (.str [])), (.d (.str [])), iN 0, eN, iN 0, iN 0] s fun b s =>
 zl true 7 a s fun c s =>
 cA P zeF [c] s fun d s =>
 zc d 0 s fun e s =>
 zc d 1 s fun f s =>
 bP .neq f (iN 0) s fun g s =>
 zF g (zD (zag [iN 0, iN 0, iN 0, (.d (.str [])), (.d (.str [])), iN 0, eN, iN 0, iN 0] []) s fun h s =>
 zu 9 b h s fun _ s =>
 Z (zN (zaq b s true 9) (zN (some f) (some []))) s) (fl 0 a s fun j s =>
 cA P zfG [j] s fun l s =>
 cA P zcx [x0, e] s fun m s =>
 cA P zcB [x1, l, m] s fun n s =>
 zc n 0 s fun o s =>
 zc n 1 s fun p s =>
 cp [iN 0, iN 0] 2 o s fun q s =>
 bP .neq p (iN 0) s fun r s =>
 zF r (zD (zag [iN 0, iN 0, iN 0, (.d (.str [])), (.d (.str [])), iN 0, eN, iN 0, iN 0] []) s fun u s =>
 zu 9 b u s fun _ s =>
 Z (zN (zaq b s true 9) (zN (some p) (some []))) s) (zl true 7 a s fun y s =>
 zl true 2 q s fun z s =>
 zD (zag [iN 0, iN 0, iN 0, (.d (.str [])), (.d (.str [])), iN 0, eN, iN 0, iN 0] [(0, 7, y), (7, 2, z)]) s fun A s =>
 zu 9 b A s fun _ s =>
 Z (zN (zaq b s true 9) (zN (some (iN 0)) (some []))) s))
theorem znE : F3 Tryz.prog zii znZ := zm [] Tryz.func42 (by decide +kernel) (by kernel_rfl) fun {_ _ _ _ _ _} => cast (by kernel_rfl)
def zlf (P : Program) (x0 x1 : AV) (σ : LO) (Z : ZT) : Prop :=
 cA P zcm [x1] σ fun a s =>
 bP .neq a (iN 0) s fun b s =>
 zF b (z2 Z (iN 0) a s) (cA P zdW [eN, x1] s fun c s =>
 cA P zcx [x0, c] s fun d s =>
 bP .eql d (iN 0) s fun e s =>
 zF e (z2 Z (iN 0) (iN 6) s) (z2 Z d (iN 0) s))
theorem zkT : F2 Tryz.prog zhA zlf := zm [] Tryz.func43 (by decide +kernel) (by kernel_rfl) fun {_ _ _ _ _} => cast (by kernel_rfl)
def znY (P : Program) (x0 x1 x2 x3 x4 x5 x6 : AV) (σ : LO) (Z : ZT) : Prop :=
 zU [iN 0, iN 0] σ fun a s =>
 cA P zjk [x3, x4, x5, x6] s fun b s =>
 unC .not b s fun c s =>
 zF c (zD (zag [iN 0, iN 0] []) s fun d s =>
 zu 2 a d s fun _ s =>
 Z (zN (zaq a s true 2) (zN (some (iN 1)) (some []))) s) (cA P zdq [x3, x4, x5, x6] s fun f s =>
 cA P zkb [x0, x1, x2, f] s fun g s =>
 zc g 0 s fun h s =>
 zc g 1 s fun i s =>
 zu 2 a h s fun _ s =>
 Z (zN (zaq a s true 2) (zN (some i) (some []))) s)
theorem znD : F7 Tryz.prog zih znY := zm [] Tryz.func44 (by decide +kernel) (by kernel_rfl) fun {_ _ _ _ _ _ _ _ _ _} => cast (by kernel_rfl)
def zgj (P : Program) (x0 x1 : AV) (σ : LO) (Z : ZT) : Prop :=
 cA P zbr [x0] σ fun a s =>
 zF a (z1 Z (iN 0) s) (nfl 1 x0 s fun b s =>
 zaa .toStr x1 s fun c s =>
 zar .str true (iN 0) b c s fun d s =>
 zc d 0 s fun e s =>
 zc d 1 s fun f s =>
 zF f (z1 Z e s) (nfl 0 x0 s fun g s =>
 zaA .sl g s fun h s =>
 bP .geq h (iN 1048576) s fun i s =>
 zF i (z1 Z (iN 0) s) (zba x0 s fun j s =>
 ze 0 j s fun l s =>
 zl false 1 l s fun m s =>
 cA P zcj [x1] s fun n t =>
 zL l s t ∧ (m1 1 [eN] n t fun o s =>
 zo 1 24 m o s fun p s =>
 zba x0 s fun q s =>
 ze 0 q s fun r s =>
 zu 1 r p s fun _ s =>
 nfl 0 x0 s fun w s =>
 zaA .sl w s fun y s =>
 nfl 1 x0 s fun z s =>
 zaa .toStr x1 s fun A s =>
 zax .str z A y s fun _ s =>
 z1 Z y s))))
theorem zfZ : F2 Tryz.prog zcC zgj := zm [.d [(0, 12)] [], .d [(0, 12)] [(6, [31])], .d [(0, 8)] []] Tryz.func45 (by decide +kernel) (by kernel_rfl) fun {_ _ _ _ _} => cast (by kernel_rfl)
def zfb (P : Program) (x0 x1 x2 : AV) (σ : LO) (Z : ZT) : Prop :=
 zU [iN 0, iN 0] σ fun a s =>
 cA P zbj [x0] s fun b s =>
 zF b (zD (zag [iN 0, iN 0] []) s fun c s =>
 zu 2 a c s fun _ s =>
 Z (zN (zaq a s true 2) (zN (some (iN 2)) (some []))) s) (bP .lss x1 (iN 0) s fun e s =>
 gFm e x1 s fun f s =>
 gF e (bP .geq f (iN 21) s) s fun g s =>
 orC e g s fun h s =>
 zF h (zD (zag [iN 0, iN 0] []) s fun i s =>
 zu 2 a i s fun _ s =>
 Z (zN (zaq a s true 2) (zN (some (iN 20)) (some []))) s) (bP .lss x2 (iN 1) s fun l s =>
 zF l (zD (zag [iN 0, iN 0] []) s fun m s =>
 zu 2 a m s fun _ s =>
 Z (zN (zaq a s true 2) (zN (some (iN 1)) (some []))) s) (zD (zag [iN 0, iN 0] [(0, 1, x1), (1, 1, x2)]) s fun o s =>
 cp [iN 0, iN 0] 2 o s fun p s =>
 (fun (q : LO → Prop) => nfl 1 x0 s fun w s =>
 zl true 2 p s fun y s =>
 zar (.ints 2) false bF w y s fun z s =>
 unC .not z s fun A s =>
 zF A (nfl 1 x0 s fun B s =>
 zl true 2 p s fun C s =>
 zax (.ints 2) B C bT s fun _ s =>
 nfl 0 x0 s fun E s =>
 zl true 2 p s fun F s =>
 m1 2 [iN 0, iN 0] F s fun G s =>
 zo 2 16 E G s fun H s =>
 zba x0 s fun I s =>
 ze 0 I s fun J s =>
 zu 1 J H s fun _ s =>
 q s) (q s))
 (fun  s => zl true 2 p s fun r s =>
 zu 2 a r s fun _ s =>
 Z (zN (zaq a s true 2) (zN (some (iN 0)) (some []))) s))))
theorem zeR : F3 Tryz.prog zci zfb := zm [.d [(0, 7)] [], .d [(0, 6)] [], .d [(0, 11)] []] Tryz.func46 (by decide +kernel) (by kernel_rfl) fun {_ _ _ _ _ _} => cast (by kernel_rfl)
def zeZ (P : Program) (x0 : AV) (σ : LO) (Z : ZT) : Prop :=
 cA P zbr [x0] σ fun a s =>
 zF a (z1 Z (.d .nilp) s) (nfl 0 x0 s fun b s =>
 cA P zhB [b] s fun c s =>
 zc c 0 s fun d s =>
 zc c 1 s fun _ s =>
 z1 Z d s)
theorem zeP : F1 Tryz.prog zch zeZ := zm [] Tryz.func47 (by decide +kernel) (by kernel_rfl) fun {_ _ _ _} => cast (by kernel_rfl)
def zeu (P : Program) (x0 : AV) (σ : LO) (Z : ZT) : Prop :=
 cA P zbj [x0] σ fun a s =>
 zF a (z1 Z (.d .nilp) s) (cA P zcD [] s fun b s =>
 nfl 0 x0 s fun c s =>
 zaA .sl c s fun d s =>
 zbG [(iN 0)] s fun v s e =>
 zbf v fun f v => bP .lss f d s fun g s =>
 zF g (il true 2 2 c f s fun h s =>
 cp [iN 0, iN 0] 2 h s fun i s =>
 fl 0 i s fun j s =>
 fl 1 i s fun l s =>
 cA P zci [b, j, l] s fun _ s =>
 bP .add f (iN 1) s fun n s =>
 e [n] s) (z1 Z b s))
theorem zeq : F1 Tryz.prog zbR zeu := zm [.l [14] [(5, 1), (15, 10)]] Tryz.func48 (by decide +kernel) (by kernel_rfl) fun {_ _ _ _} => cast (by kernel_rfl)
def ziH (P : Program) (x0 : AV) (σ : LO) (Z : ZT) : Prop :=
 bP .lss x0 (iN 1) σ fun a s =>
 gFm a x0 s fun b s =>
 gF a (bP .gtr b (iN 4) s) s fun c s =>
 orC a c s fun d s =>
 zF d (z1 Z (iN 120) s) (z1 Z (iN 0) s)
theorem ziy : F1 Tryz.prog zcW ziH := zm [] Tryz.func49 (by decide +kernel) (by kernel_rfl) fun {_ _ _ _} => cast (by kernel_rfl)
def zer (P : Program) (x0 x1 x2 : AV) (σ : LO) (Z : ZT) : Prop :=
 zbg x0 σ fun a s =>
 zbg x1 s fun b s =>
 cA P zbP [x2] s fun c s =>
 bP .eql c (iN 0) s fun d s =>
 gTm d x2 s fun e s =>
 gT d (fun k => k (.fn (.func zdE) [] [a, b]) s) s fun f s =>
 gT d (cA P zaz [e, f] s) s fun g s =>
 gT d (unC .not g s) s fun h s =>
 anC d h s fun i s =>
 z1 Z i s
theorem zen : F3 Tryz.prog zcU zer := zm [] Tryz.func50 (by decide +kernel) (by kernel_rfl) fun {_ _ _ _ _ _} => cast (by kernel_rfl)
def zfu (P : Program) (x0 x1 : AV) (σ : LO) (Z : ZT) : Prop :=
 cA P zbr [x0] σ fun a s =>
 zF a (z2 Z (iN 0) bF s) (nfl 1 x0 s fun b s =>
 zaa .toStr x1 s fun c s =>
 zar .str true (iN 0) b c s fun d s =>
 zc d 0 s fun e s =>
 zc d 1 s fun f s =>
 z2 Z e f s)
theorem zfp : F2 Tryz.prog zbs zfu := zm [.d [(0, 12)] []] Tryz.func51 (by decide +kernel) (by kernel_rfl) fun {_ _ _ _ _} => cast (by kernel_rfl)
def zfs (P : Program) (x0 x1 : AV) (σ : LO) (Z : ZT) : Prop :=
 cA P zbP [x1] σ fun a s =>
 bP .neq a (iN 0) s fun b s =>
 zF b (cA P zcj [x0] s fun c s =>
 z1 Z c s) (zaf P (.fn (.func zde) [x1] []) [dm x0] s fun d s =>
 z1 Z d s)
theorem zfn : F2 Tryz.prog zdn zfs := zm [] Tryz.func52 (by decide +kernel) (by kernel_rfl) fun {_ _ _ _ _} => cast (by kernel_rfl)
def zhc (P : Program) (x0 x1 : AV) (σ : LO) (Z : ZT) : Prop :=
 cA P zgx [x0, x1] σ fun a s =>
 unC .not a s fun b s =>
 zF b (z1 Z (iN (-1)) s) (cA P zda [x0] s fun c s =>
 bP .rem x1 c s fun d s =>
 z1 Z d s)
theorem zgO : F2 Tryz.prog zee zhc := zm [] Tryz.func53 (by decide +kernel) (by kernel_rfl) fun {_ _ _ _ _} => cast (by kernel_rfl)
def zhm (P : Program) (x0 x1 x2 x3 x4 x5 x6 x7 : AV) (σ : LO) (Z : ZT) : Prop :=
 zbg x2 σ fun a s =>
 cA P ziQ [x0, x1] s fun b s =>
 gTm b x4 s fun c s =>
 gTm b x5 s fun d s =>
 gTm b x6 s fun e s =>
 gTm b x7 s fun f s =>
 gT b (cA P zki [c, d, e, f] s) s fun g s =>
 anC b g s fun h s =>
 gTm h x0 s fun i s =>
 gTm h x1 s fun j s =>
 gT h (zl true 2 a s) s fun l s =>
 gTm h x3 s fun m s =>
 gTm h x4 s fun n s =>
 gTm h x5 s fun o s =>
 gTm h x6 s fun p s =>
 gTm h x7 s fun q s =>
 gT h (cA P zeh [n, o, p, q] s) s fun r t =>
 zL a s t ∧ (gT h (cA P zgA [i, j, l, m, r] t) t fun u s =>
 anC h u s fun w s =>
 z1 Z w s)
theorem zgY : F8 Tryz.prog zdc zhm := zm [.d [(0, 23)] [(19, [10])]] Tryz.func54 (by decide +kernel) (by kernel_rfl) fun {_ _ _ _ _ _ _ _ _ _ _} => cast (by kernel_rfl)
def zhd (P : Program) (x0 : AV) (σ : LO) (Z : ZT) : Prop :=
 cA P zfx [(iN 3), x0] σ fun a s =>
 z1 Z a s
theorem zgP : F1 Tryz.prog zda zhd := zm [] Tryz.func55 (by decide +kernel) (by kernel_rfl) fun {_ _ _ _} => cast (by kernel_rfl)
def zgZ (P : Program) (x0 x1 x2 : AV) (σ : LO) (Z : ZT) : Prop :=
 cA P zcm [x2] σ fun a s =>
 bP .neq a (iN 0) s fun b s =>
 zF b (z1 Z bF s) (zbG [(iN 0)] s fun v s c =>
 zbf v fun d v => zaA .sl x2 s fun e s =>
 bP .lss d e s fun f s =>
 zF f (il true 9 9 x2 d s fun g s =>
 cA P ziN [x0, x1, g] s fun h s =>
 unC .not h s fun i s =>
 zF i (z1 Z bF s) (bP .add d (iN 1) s fun j s =>
 c [j] s)) (z1 Z bT s))
theorem zgL : F3 Tryz.prog zed zgZ := zm [.l [7] [(6, 1), (11, 14)]] Tryz.func56 (by decide +kernel) (by kernel_rfl) fun {_ _ _ _ _ _} => cast (by kernel_rfl)
def zhb (P : Program) (x0 x1 : AV) (σ : LO) (Z : ZT) : Prop :=
 zbG [(iN 0)] σ fun v s a =>
 zbf v fun b v => nfl 0 x0 s fun c s =>
 zaA .sl c s fun d s =>
 bP .lss b d s fun e s =>
 zF e (nfl 0 x0 s fun f s =>
 il false 1 1 f b s fun g s =>
 cA P zkd [g, x1] s fun h s =>
 zF h (bP .add b (iN 1) s fun i s =>
 z2 Z i bT s) (bP .add b (iN 1) s fun j s =>
 a [j] s)) (z2 Z (iN 0) bF s)
theorem zgN : F2 Tryz.prog zbA zhb := zm [.l [6] [(4, 2), (7, 20)]] Tryz.func57 (by decide +kernel) (by kernel_rfl) fun {_ _ _ _ _} => cast (by kernel_rfl)
def ziE (P : Program) (x0 x1 : AV) (σ : LO) (Z : ZT) : Prop :=
 cA P zcm [x1] σ fun a s =>
 bP .neq a (iN 0) s fun b s =>
 zF b (z1 Z x0 s) (zaA .sl x1 s fun c s =>
 zaa (.int .u64) c s fun d s =>
 cA P zbb [x0, d] s fun e s =>
 zbG [e, (iN 0)] s fun v s f =>
 zbf v fun g v => zbf v fun h v => zaA .sl x1 s fun i s =>
 bP .lss h i s fun j s =>
 zF j (zH none 9 x1 h s fun l s =>
 ze 0 l s fun m s =>
 zl true 7 m s fun n s =>
 cA P zeF [n] s fun o s =>
 zc o 0 s fun p s =>
 zc o 1 s fun _ s =>
 zH none 9 x1 h s fun r s =>
 ze 7 r s fun u s =>
 zl true 2 u s fun w s =>
 cA P zcr [g, p] s fun y t =>
 zL u s t ∧ (cA P zgu [y, w] t fun z s =>
 bP .add h (iN 1) s fun A s =>
 f [z, A] s)) (z1 Z g s))
theorem ziv : F2 Tryz.prog zdW ziE := zm [.l [0, 5] [(6, 2), (17, 24)], .d [(0, 2), (3, 5), (2, 1), (8, 2)] [(2, [38])]] Tryz.func58 (by decide +kernel) (by kernel_rfl) fun {_ _ _ _ _} => cast (by kernel_rfl)
def zjL (P : Program) (x0 x1 : AV) (σ : LO) (Z : ZT) : Prop :=
 cA P zeE [x0] σ fun a s =>
 bP .neq a (iN 0) s fun b s =>
 gFm b x1 s fun c s =>
 gF b (bP .lss c (iN 0) s) s fun d s =>
 orC b d s fun e s =>
 gFm e x1 s fun f s =>
 gF e (bP .gtr f (iN 9007199254740992) s) s fun g s =>
 orC e g s fun h s =>
 zF h (z1 Z (iN (-1)) s) (cA P zev [x0] s fun i s =>
 bP .rem x1 i s fun j s =>
 z1 Z j s)
theorem zjs : F2 Tryz.prog zgt zjL := zm [] Tryz.func59 (by decide +kernel) (by kernel_rfl) fun {_ _ _ _ _} => cast (by kernel_rfl)
def zhY (P : Program) (x0 x1 x2 x3 x4 x5 x6 x7 : AV) (σ : LO) (Z : ZT) : Prop :=
 zbg x2 σ fun a s =>
 cA P zjk [x4, x5, x6, x7] s fun b s =>
 gTm b x0 s fun c s =>
 gTm b x1 s fun d s =>
 gT b (zl true 2 a s) s fun e s =>
 gTm b x3 s fun f s =>
 gTm b x4 s fun g s =>
 gTm b x5 s fun h s =>
 gTm b x6 s fun i s =>
 gTm b x7 s fun j s =>
 gT b (cA P zdq [g, h, i, j] s) s fun l t =>
 zL a s t ∧ (gT b (cA P zhz [c, d, e, f, l] t) t fun m s =>
 anC b m s fun n s =>
 z1 Z n s)
theorem zhL : F8 Tryz.prog zdr zhY := zm [.d [(0, 18)] [(14, [10])]] Tryz.func60 (by decide +kernel) (by kernel_rfl) fun {_ _ _ _ _ _ _ _ _ _ _} => cast (by kernel_rfl)
def zft (P : Program) (x0 : AV) (σ : LO) (Z : ZT) : Prop :=
 zbI .eql .ptr x0 (.d .nilp) σ fun a s =>
 gFm a x0 s fun b s =>
 gF a (zba b s) s fun c s =>
 gFl a 1 c s fun d s =>
 gF a (zbI .eql .map d (.d .nilmap) s) s fun e s =>
 orC a e s fun f s =>
 z1 Z f s
theorem zfo : F1 Tryz.prog zbr zft := zm [] Tryz.func61 (by decide +kernel) (by kernel_rfl) fun {_ _ _ _} => cast (by kernel_rfl)
def zfa (P : Program) (x0 : AV) (σ : LO) (Z : ZT) : Prop :=
 zbI .eql .ptr x0 (.d .nilp) σ fun a s =>
 gFm a x0 s fun b s =>
 gF a (zba b s) s fun c s =>
 gFl a 1 c s fun d s =>
 gF a (zbI .eql .map d (.d .nilmap) s) s fun e s =>
 orC a e s fun f s =>
 z1 Z f s
theorem zeQ : F1 Tryz.prog zbj zfa := zm [] Tryz.func62 (by decide +kernel) (by kernel_rfl) fun {_ _ _ _} => cast (by kernel_rfl)
def zet (P : Program) (x0 : AV) (σ : LO) (Z : ZT) : Prop :=
 zbI .eql .ptr x0 (.d .nilp) σ fun a s =>
 gFm a x0 s fun b s =>
 gF a (zba b s) s fun c s =>
 gFl a 0 c s fun d s =>
 gF a (zbI .eql .map d (.d .nilmap) s) s fun e s =>
 orC a e s fun f s =>
 z1 Z f s
theorem zep : F1 Tryz.prog zbQ zet := zm [] Tryz.func63 (by decide +kernel) (by kernel_rfl) fun {_ _ _ _} => cast (by kernel_rfl)
def zhe (P : Program) (x0 : AV) (σ : LO) (Z : ZT) : Prop :=
 zbg x0 σ fun a s =>
 zU [iN 0, iN 0, iN 0, iN 0, iN 0, eN, eN] s fun b s =>
 fl 5 a s fun c s =>
 cA P zbe [c] s fun d s =>
 ze 5 a s fun e s =>
 zu 1 e d s fun _ s =>
 fl 6 a s fun g s =>
 cA P zeD [g] s fun h s =>
 ze 6 a s fun i s =>
 zu 1 i h s fun _ s =>
 zl true 7 a s fun l s =>
 zu 7 b l s fun _ s =>
 Z (zN (zaq b s true 7) (some [])) s
theorem zgQ : F1 Tryz.prog zef zhe := zm [] Tryz.func64 (by decide +kernel) (by kernel_rfl) fun {_ _ _ _} => cast (by kernel_rfl)
def zmG (P : Program) (x0 : AV) (σ : LO) (Z : ZT) : Prop :=
 zbg x0 σ fun a s =>
 zl true 7 a s fun b s =>
 cA P zgv [b] s fun c s =>
 bP .neq c (iN 0) s fun d s =>
 zF d (z2 Z eN c s) (fl 0 a s fun e s =>
 zaa (.int .u64) e s fun f s =>
 cA P zbb [eN, f] s fun g s =>
 fl 1 a s fun h s =>
 zaa (.int .u64) h s fun i s =>
 cA P zbb [g, i] s fun j s =>
 ze 2 a s fun l s =>
 zl true 5 l s fun m s =>
 cA P zlK [j, m] s fun n s =>
 z2 Z n (iN 0) s)
theorem zmg : F1 Tryz.prog zeF zmG := zm [] Tryz.func72 (by decide +kernel) (by kernel_rfl) fun {_ _ _ _} => cast (by kernel_rfl)
def zgi (P : Program) (x0 x1 x2 : AV) (σ : LO) (Z : ZT) : Prop :=
 zU [iN 0, iN 0] σ fun a s =>
 bP .lss x1 (iN 0) s fun b s =>
 gFm b x1 s fun c s =>
 gF b (bP .geq c (iN 21) s) s fun d s =>
 orC b d s fun e s =>
 zF e (zD (zag [iN 0, iN 0] []) s fun f s =>
 zu 2 a f s fun _ s =>
 Z (zN (zaq a s true 2) (zN (some (iN 20)) (some []))) s) (bP .lss x2 (iN 1) s fun h s =>
 zF h (zD (zag [iN 0, iN 0] []) s fun i s =>
 zu 2 a i s fun _ s =>
 Z (zN (zaq a s true 2) (zN (some (iN 1)) (some []))) s) (zD (zag [iN 0, iN 0] [(0, 1, x1), (1, 1, x2)]) s fun l s =>
 cp [iN 0, iN 0] 2 l s fun m s =>
 (fun (n : LO → Prop) => zl true 2 m s fun q s =>
 cA P zby [x0, q] s fun r s =>
 unC .not r s fun u s =>
 zF u (nfl 0 x0 s fun w s =>
 zl true 2 m s fun y s =>
 m1 2 [iN 0, iN 0] y s fun z s =>
 zo 2 16 eN w s fun A t =>
 zL m s t ∧ (zo 2 16 A z t fun B s =>
 zba x0 s fun C s =>
 ze 0 C s fun D s =>
 zu 1 D B s fun _ s =>
 n s)) (n s))
 (fun  s => zl true 2 m s fun o s =>
 zu 2 a o s fun _ s =>
 Z (zN (zaq a s true 2) (zN (some (iN 0)) (some []))) s)))
theorem zfY : F3 Tryz.prog zcB zgi := zm [.d [(0, 5), (6, 2), (5, 1), (8, 4)] [(5, [8])]] Tryz.func73 (by decide +kernel) (by kernel_rfl) fun {_ _ _ _ _ _} => cast (by kernel_rfl)
def S_r08_Key (P : Program) (x0 : AV) (σ : LO) (Z : ZT) : Prop :=
 bP .lss x0 (iN 0) σ fun a s =>
 gFm a x0 s fun b s =>
 gF a (bP .geq b (iN 8) s) s fun c s =>
 orC a c s fun d s =>
 zF d (z1 Z (iN (-1)) s) (bP .add (iN 13) x0 s fun e s =>
 z1 Z e s)
theorem e_r08_Key : F1 Tryz.prog zfG S_r08_Key := zm [] Tryz.func74 (by decide +kernel) (by kernel_rfl) fun {_ _ _ _} => cast (by kernel_rfl)
def zia (P : Program) (x0 x1 : AV) (σ : LO) (Z : ZT) : Prop :=
 cA P zbA [x0, x1] σ fun a s =>
 zc a 0 s fun b s =>
 zc a 1 s fun c s =>
 zF c (z1 Z b s) (nfl 0 x0 s fun d s =>
 zaA .sl d s fun e s =>
 bP .geq e (iN 1048576) s fun f s =>
 zF f (z1 Z (iN 0) s) (nfl 0 x0 s fun g s =>
 zo 1 24 eN g s fun h s =>
 zo 1 1 eN x1 s fun i s =>
 m1 1 [eN] i s fun j s =>
 zo 1 24 h j s fun l s =>
 zba x0 s fun m s =>
 ze 0 m s fun n s =>
 zu 1 n l s fun _ s =>
 nfl 0 x0 s fun p s =>
 zaA .sl p s fun q s =>
 z1 Z q s))
theorem zhN : F2 Tryz.prog zcx zia := zm [] Tryz.func75 (by decide +kernel) (by kernel_rfl) fun {_ _ _ _ _} => cast (by kernel_rfl)
def zha (P : Program) (x0 : AV) (σ : LO) (Z : ZT) : Prop :=
 zaA .sl x0 σ fun a s =>
 bP .gtr a (iN 4) s fun b s =>
 zF b (z1 Z (iN 3) s) (zbG [(iN 0)] s fun v s c =>
 zbf v fun d v => zaA .sl x0 s fun e s =>
 bP .lss d e s fun f s =>
 zF f (zH none 9 x0 d s fun g s =>
 ze 0 g s fun h s =>
 zl true 7 h s fun i s =>
 cA P zgv [i] s fun j s =>
 bP .neq j (iN 0) s fun l s =>
 zF l (z1 Z j s) (zH none 9 x0 d s fun m s =>
 ze 7 m s fun n s =>
 zl true 2 n s fun o s =>
 cA P zds [o] s fun p s =>
 bP .neq p (iN 0) s fun q s =>
 zF q (z1 Z p s) (bP .add d (iN 1) s fun r s =>
 c [r] s))) (zbG [(iN 0)] s fun v s u =>
 zbf v fun w v => zaA .sl x0 s fun y s =>
 bP .lss w y s fun z s =>
 zF z (zbG [(iN 0)] s fun v s A =>
 zbf v fun B v => bP .lss B w s fun C s =>
 zF C (zH none 9 x0 w s fun D s =>
 ze 0 D s fun E s =>
 fl 0 E s fun F s =>
 zH none 9 x0 B s fun G s =>
 ze 0 G s fun H s =>
 fl 0 H s fun I s =>
 bP .eql F I s fun J s =>
 gTm J x0 s fun K s =>
 gTm J w s fun L s =>
 gT J (zH none 9 K L s) s fun M s =>
 gT J (ze 0 M s) s fun N s =>
 gTl J 1 N s fun O s =>
 gTm J x0 s fun Q s =>
 gTm J B s fun R s =>
 gT J (zH none 9 Q R s) s fun S s =>
 gT J (ze 0 S s) s fun T s =>
 gTl J 1 T s fun U s =>
 gT J (bP .eql O U s) s fun V s =>
 anC J V s fun W s =>
 zF W (z1 Z (iN 5) s) (bP .add B (iN 1) s fun X s =>
 A [X] s)) (bP .add w (iN 1) s fun Y s =>
 u [Y] s)) (z1 Z (iN 0) s)))
theorem zgM : F1 Tryz.prog zcm zha := zm [.l [3] [(2, 1), (4, 2), (11, 24)], .l [6] [(2, 1), (7, 1), (35, 39)], .l [7] [(2, 1), (41, 33)], .d [(0, 28)] []] Tryz.func76 (by decide +kernel) (by kernel_rfl) fun {_ _ _ _} => cast (by kernel_rfl)
def S_r11_may (P : Program) (x0 x1 x2 x3 : AV) (σ : LO) (Z : ZT) : Prop :=
 cA P zfF [x0] σ fun a s =>
 gTm a x1 s fun b s =>
 gT a (cA P zfF [b] s) s fun c s =>
 anC a c s fun d s =>
 gTm d x2 s fun e s =>
 gT d (cA P zfF [e] s) s fun f s =>
 anC d f s fun g s =>
 gTm g x3 s fun h s =>
 gT g (cA P zfF [h] s) s fun i s =>
 anC g i s fun j s =>
 z1 Z j s
theorem e_r11_may : F4 Tryz.prog zjk S_r11_may := zm [] Tryz.func77 (by decide +kernel) (by kernel_rfl) fun {_ _ _ _ _ _ _} => cast (by kernel_rfl)
def znX (P : Program) (x0 x1 x2 x3 : AV) (σ : LO) (Z : ZT) : Prop :=
 zU [iN 0, iN 0] σ fun a s =>
 cA P zcx [x0, x3] s fun b s =>
 bP .eql b (iN 0) s fun c s =>
 zF c (zD (zag [iN 0, iN 0] []) s fun d s =>
 zu 2 a d s fun _ s =>
 Z (zN (zaq a s true 2) (zN (some (iN 6)) (some []))) s) (cA P zcB [x1, x2, b] s fun f s =>
 zc f 0 s fun g s =>
 zc f 1 s fun h s =>
 zu 2 a g s fun _ s =>
 Z (zN (zaq a s true 2) (zN (some h) (some []))) s)
theorem znC : F4 Tryz.prog zkb znX := zm [] Tryz.func78 (by decide +kernel) (by kernel_rfl) fun {_ _ _ _ _ _ _} => cast (by kernel_rfl)
def zhX (P : Program) (x0 x1 x2 x3 : AV) (σ : LO) (Z : ZT) : Prop :=
 m1 1 [(.d (.int .u8 0))] (.d (.int .u8 4)) σ fun a s =>
 cA P zfE [a, x0] s fun b s =>
 cA P zfE [b, x1] s fun c s =>
 cA P zfE [c, x2] s fun d s =>
 cA P zfE [d, x3] s fun e s =>
 z1 Z e s
theorem zhK : F4 Tryz.prog zdq zhX := zm [] Tryz.func79 (by decide +kernel) (by kernel_rfl) fun {_ _ _ _ _ _ _} => cast (by kernel_rfl)
end Go.Proofs.YtcappjcojggehaaGreat
