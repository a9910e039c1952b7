/- The conditions of each function, its slots as variables, and that the logic's conditions are these. Printed by program. -/
import Derived.Test.YtcappjcojggehaaGreatNm
import Derived.KernelRfl
set_option linter.all false
set_option maxRecDepth 100000
set_option linter.unusedVariables false
namespace Go.Proofs.YtcappjcojggehaaGreat
open Go.AW
def zgb (P : Program) (x0 x1 : AV) (σ : LO) (Z : ZT) : Prop :=
 zbh x0 σ fun a s =>
 cA P zjR [] s fun b s =>
 unC .not b s fun c s =>
 zE c (z1 Z bF s) (fl 0 a s fun d s =>
 cA P zgm [d] s fun e s =>
 bP .neq e (iN 0) s fun f s =>
 gFm f x1 s fun g s =>
 gFl f 0 a s fun h s =>
 gF f (zf 0 a s) s fun i s =>
 gF f (zr false 1 i s) s fun j s =>
 gF f (cA P zlw [h] s) s fun l t =>
 zS i s t ∧ (gF f (cA P zjL [g, l] t) t fun m s =>
 zS i t s ∧ (gF f (cA P zjJ [m] s) s fun n t =>
 zS i s t ∧ (gF f (bP .gtr n j t) t fun o s =>
 orC f o s fun p s =>
 zE p (z1 Z bT s) (zah s fun q s =>
 fl 1 a s fun r s =>
 zaz .sl r s fun u s =>
 zbJ [u, (iN 200)] s fun w s =>
 bP .add w (iN 1) s fun y s =>
 zY (.int .u8) y s fun z s =>
 fl 2 a s fun A s =>
 zaz .sl A s fun B s =>
 zbt [eN, (iN 0)] s fun v s C =>
 zaU v fun D v => zaU v fun E v => bP .lss E B s fun F s =>
 zE F ((fun (G : AV → LO → Prop) => il true 5 5 A E s fun J s =>
 cp [iN 0, iN 0, iN 0, iN 0, (.d (.int .u8 0))] 5 J s fun K s =>
 fl 4 K s fun L s =>
 bP .rem L z s fun M s =>
 zf 4 K s fun N s =>
 zp 1 N M s fun _ s =>
 fl 0 K s fun Q s =>
 fl 2 K s fun R s =>
 fl 3 K s fun S s =>
 zC (zag [iN 0, iN 0, iN 0, iN 0, (.d (.int .u8 0))] [(0, 1, Q), (2, 1, R), (3, 1, S)]) s fun T s =>
 cp [iN 0, iN 0, iN 0, iN 0, (.d (.int .u8 0))] 5 T s fun U s =>
 zr true 5 U s fun V s =>
 zam (.ints 5) true (.d (.int .u8 0)) q V s fun W s =>
 zc W 0 s fun X s =>
 zc W 1 s fun Y s =>
 gTm Y X s fun a0 s =>
 gTl Y 4 K s fun b0 s =>
 gT Y (bP .neq a0 b0 s) s fun c0 s =>
 anC Y c0 s fun d0 s =>
 gTm d0 x1 s fun e0 s =>
 gTl d0 0 K s fun f0 s =>
 gT d0 (cA P zfF [e0, f0] s) s fun g0 s =>
 gT d0 (unC .not g0 s) s fun h0 s =>
 anC d0 h0 s fun i0 s =>
 zE i0 (G D s) (zr true 5 U s fun j0 s =>
 fl 4 K s fun l0 s =>
 zav (.ints 5) q j0 l0 s fun _ s =>
 zr true 5 K s fun o0 s =>
 m1 5 [iN 0, iN 0, iN 0, iN 0, (.d (.int .u8 0))] o0 s fun p0 s =>
 zl 5 40 D p0 s fun q0 s =>
 G q0 s))
 (fun H s => bP .add E (iN 1) s fun I s =>
 C [H, I] s)) (fl 1 a s fun r0 s =>
 fl 1 a s fun u0 s =>
 zaz .sl u0 s fun w0 s =>
 zbJ [w0, (iN 200)] s fun y0 s =>
 zbv (.sl 1) r0 none (some y0) none s fun z0 s =>
 zf 2 a s fun A0 s =>
 zp 1 A0 D s fun _ s =>
 zf 1 a s fun C0 s =>
 zp 1 C0 z0 s fun _ s =>
 zr true 6 a s fun E0 s =>
 cA P zcp [E0] s fun F0 s =>
 fl 3 a s fun G0 s =>
 zaz .sl G0 s fun H0 s =>
 zbt [eN, (iN 0)] s fun v s I0 =>
 zaU v fun J0 v => zaU v fun K0 v => bP .lss K0 H0 s fun L0 s =>
 zE L0 ((fun (M0 : AV → LO → Prop) => il true 6 6 G0 K0 s fun Q0 s =>
 cp [iN 0, iN 0, (.d (.int .u8 0)), iN 0, (.d (.int .u8 0)), eN] 6 Q0 s fun R0 s =>
 zr true 6 R0 s fun S0 s =>
 cA P zco [F0, S0] s fun T0 s =>
 cp [iN 0, iN 0, iN 0, iN 0, iN 0, eN, eN] 7 T0 s fun U0 s =>
 nfl 0 F0 s fun V0 s =>
 nfl 1 F0 s fun W0 s =>
 fl 0 a s fun X0 s =>
 zr true 7 U0 s fun Y0 s =>
 cA P zcn [V0, W0, X0, Y0] s fun a1 s =>
 zE a1 (zr true 7 U0 s fun b1 s =>
 m1 7 [iN 0, iN 0, iN 0, iN 0, iN 0, eN, eN] b1 s fun c1 s =>
 zl 7 88 J0 c1 s fun d1 s =>
 M0 d1 s) (M0 J0 s))
 (fun N0 s => bP .add K0 (iN 1) s fun O0 s =>
 I0 [N0, O0] s)) (zaz .sl J0 s fun e1 s =>
 zbt [(iN 0)] s fun v s f1 =>
 zaU v fun g1 v => bP .lss g1 e1 s fun h1 s =>
 zE h1 (il true 7 7 J0 g1 s fun i1 s =>
 zP [iN 0, iN 0, iN 0, iN 0, iN 0, eN, eN] s fun j1 s =>
 zp 7 j1 i1 s fun _ s =>
 zbv (.sl 7) J0 none (some g1) none s fun o1 s =>
 zaz .sl o1 s fun p1 s =>
 zbt [(iN 0)] s fun v s q1 =>
 zaU v fun r1 v => bP .lss r1 p1 s fun u1 s =>
 zE u1 (il true 7 7 o1 r1 s fun w1 s =>
 cp [iN 0, iN 0, iN 0, iN 0, iN 0, eN, eN] 7 w1 s fun y1 s =>
 fl 0 j1 s fun A1 s =>
 fl 0 y1 s fun B1 s =>
 bP .eql A1 B1 s fun C1 s =>
 gTl C1 1 j1 s fun D1 s =>
 gTl C1 1 y1 s fun E1 s =>
 gT C1 (bP .eql D1 E1 s) s fun F1 s =>
 anC C1 F1 s fun G1 s =>
 gTl G1 2 j1 s fun H1 s =>
 gTl G1 2 y1 s fun I1 s =>
 gT G1 (bP .neq H1 I1 s) s fun J1 s =>
 anC G1 J1 s fun K1 s =>
 zE K1 (z1 Z bF s) (bP .add r1 (iN 1) s fun L1 s =>
 q1 [L1] s)) (bP .add g1 (iN 1) s fun M1 s =>
 f1 [M1] s)) (z1 Z bT s))))))))
theorem zfQ : F2 Tryz.prog zdH zgb := zo [.d [(0, 8), (11, 2), (8, 3), (13, 2)] [(8, [35]), (9, [35]), (10, [35])], .l [6, 49] [(9, 4), (50, 44)], .d [(0, 12)] [], .l [14, 109] [(16, 2), (110, 23)], .d [(0, 12)] [], .l [135] [(4, 1), (18, 2), (21, 1), (136, 33)], .l [144] [(4, 1), (21, 1), (145, 23)]] Tryz.func3 (by decide +kernel) (by kernel_rfl) fun {_ _ _ _ _} => cast (by kernel_rfl)
def znW (P : Program) (σ : LO) (Z : ZT) : Prop :=
 zC (zag [iN 0, iN 0, iN 0, iN 0, (.d (.int .u8 0))] [(0, 1, (iN 0)), (1, 1, (iN 2)), (3, 1, (iN 1))]) σ fun a s =>
 zC (zag [iN 0, iN 0, iN 0, iN 0, (.d (.int .u8 0))] [(0, 1, (iN 1)), (1, 1, (iN 3)), (3, 1, (iN 1))]) s fun b s =>
 zC (zag [iN 0, iN 0, iN 0, iN 0, (.d (.int .u8 0))] [(0, 1, (iN 3)), (1, 1, (iN 3)), (3, 1, (iN 1))]) s fun c s =>
 zj false 5 3 (zag (rep [iN 0, iN 0, iN 0, iN 0, (.d (.int .u8 0))] 3) [(0, 5, a), (5, 5, b), (10, 5, c)]) s fun d s =>
 zC (zag [iN 0, eN, eN, eN, iN 0, iN 0] [(0, 1, (iN 1)), (2, 1, d)]) s fun e s =>
 cp [iN 0, eN, eN, eN, iN 0, iN 0] 6 e s fun f s =>
 zr true 6 f s fun g s =>
 cA P zcp [g] s fun h s =>
 zj false 1 2 (zag (rep [(.d (.int .u8 0))] 2) [(0, 1, (.d (.int .u8 2))), (1, 1, (.d (.int .u8 3)))]) s fun i s =>
 zC (zag [iN 0, iN 0, (.d (.int .u8 0)), iN 0, (.d (.int .u8 0)), eN] [(1, 1, (iN 1)), (4, 1, (.d (.int .u8 1))), (5, 1, i)]) s fun j s =>
 cA P zco [h, j] s fun l s =>
 cp [iN 0, iN 0, iN 0, iN 0, iN 0, eN, eN] 7 l s fun m s =>
 m1 1 [(.d (.int .u8 0))] (.d (.int .u8 2)) s fun n s =>
 zC (zag [iN 0, iN 0, (.d (.int .u8 0)), iN 0, (.d (.int .u8 0)), eN] [(1, 1, (iN 1)), (4, 1, (.d (.int .u8 1))), (5, 1, n)]) s fun o s =>
 cA P zco [h, o] s fun p s =>
 cp [iN 0, iN 0, iN 0, iN 0, iN 0, eN, eN] 7 p s fun q s =>
 cA P zfx [] s fun r s =>
 nfl 0 h s fun u s =>
 nfl 1 h s fun w s =>
 zr true 7 m s fun y s =>
 cA P zcn [u, w, (iN 1), y] s fun z s =>
 gTm z h s fun A s =>
 gT z (zbj A s) s fun B s =>
 gTl z 0 B s fun C s =>
 gTm z h s fun D s =>
 gT z (zbj D s) s fun E s =>
 gTl z 1 E s fun F s =>
 gT z (zr true 7 q s) s fun G s =>
 gT z (cA P zcn [C, F, (iN 1), G] s) s fun H s =>
 gT z (unC .not H s) s fun I s =>
 anC z I s fun J s =>
 gTm J r s fun K s =>
 gT J (zbL .neq .ptr K (.d .nilp) s) s fun L s =>
 anC J L s fun M s =>
 gTm M r s fun N s =>
 gT M (zr true 7 m s) s fun O s =>
 gT M (cA P zcg [N, O] s) s fun Q s =>
 anC M Q s fun R s =>
 gTm R r s fun S s =>
 gT R (zr true 7 m s) s fun T s =>
 gT R (cA P zcg [S, T] s) s fun U s =>
 gT R (unC .not U s) s fun V s =>
 anC R V s fun W s =>
 gTm W r s fun X s =>
 gT W (cA P zdg [X] s) s fun Y s =>
 gT W (bP .eql Y (iN 1) s) s fun a0 s =>
 anC W a0 s fun b0 s =>
 z1 Z b0 s
theorem znA : F0 Tryz.prog zjR znW := zo [.d [(0, 44)] []] Tryz.func8 (by decide +kernel) (by kernel_rfl) fun {_ _ _} => cast (by kernel_rfl)
def zmo (P : Program) (x0 : AV) (σ : LO) (Z : ZT) : Prop :=
 bP .lss x0 (iN 1) σ fun a s =>
 gFm a x0 s fun b s =>
 gF a (bP .gtr b (iN 4) s) s fun c s =>
 orC a c s fun d s =>
 zE d (z1 Z (iN 120) s) (z1 Z (iN 0) s)
theorem zlT : F1 Tryz.prog zgm zmo := zo [] Tryz.func9 (by decide +kernel) (by kernel_rfl) fun {_ _ _ _} => cast (by kernel_rfl)
def znK (P : Program) (x0 : AV) (σ : LO) (Z : ZT) : Prop :=
 cA P zjK [x0] σ fun a s =>
 zaz .sl a s fun b s =>
 z1 Z b s
theorem zno : F1 Tryz.prog zjJ znK := zo [] Tryz.func10 (by decide +kernel) (by kernel_rfl) fun {_ _ _ _} => cast (by kernel_rfl)
def znM (P : Program) (x0 x1 : AV) (σ : LO) (Z : ZT) : Prop :=
 zbt [eN, (iN 0)] σ fun v s a =>
 zaU v fun b v => zaU v fun c v => bP .lss c (iN 13) s fun d s =>
 zE d ((fun (e : AV → LO → Prop) => cA P zfF [x0, c] s fun h s =>
 gTm h x1 s fun i s =>
 gTm h c s fun j s =>
 gT h (cA P zfF [i, j] s) s fun l s =>
 anC h l s fun m s =>
 zE m (m1 1 [iN 0] c s fun n s =>
 zl 1 8 b n s fun o s =>
 e o s) (e b s))
 (fun f s => bP .add c (iN 1) s fun g s =>
 a [f, g] s)) (cA P zla [b] s fun p s =>
 z1 Z p s)
theorem znq : F2 Tryz.prog zjL znM := zo [.l [5, 6] [(7, 16)]] Tryz.func11 (by decide +kernel) (by kernel_rfl) fun {_ _ _ _ _} => cast (by kernel_rfl)
def S_r12_All (P : Program) (x0 : AV) (σ : LO) (Z : ZT) : Prop :=
 zbt [eN, (iN 0)] σ fun v s a =>
 zaU v fun b v => zaU v fun c v => cA P zgn [x0] s fun d s =>
 bP .lss c d s fun e s =>
 zE e (m1 1 [iN 0] c s fun f s =>
 zl 1 8 b f s fun g s =>
 bP .add c (iN 1) s fun h s =>
 a [g, h] s) (cA P zla [b] s fun i s =>
 z1 Z i s)
theorem e_r12_All : F1 Tryz.prog zlw S_r12_All := zo [.l [3, 4] [(5, 10)]] Tryz.func12 (by decide +kernel) (by kernel_rfl) fun {_ _ _ _} => cast (by kernel_rfl)
def S_r12_Has (P : Program) (x0 x1 : AV) (σ : LO) (Z : ZT) : Prop :=
 zbt [x0, (iN 0)] σ fun v s a =>
 zaU v fun b v => zaU v fun c v => bP .lss c (iN 13) s fun d s =>
 zE d (bP .eql c x1 s fun e s =>
 gTm e b s fun f s =>
 gT e (bP .rem f (.d (.int .u16 2)) s) s fun g s =>
 gT e (bP .eql g (.d (.int .u16 1)) s) s fun h s =>
 anC e h s fun i s =>
 zE i (z1 Z bT s) (bP .quo b (.d (.int .u16 2)) s fun j s =>
 bP .add c (iN 1) s fun l s =>
 a [j, l] s)) (z1 Z bF s)
theorem e_r12_Has : F2 Tryz.prog zfF S_r12_Has := zo [.l [0, 5] [(4, 1), (6, 14)]] Tryz.func13 (by decide +kernel) (by kernel_rfl) fun {_ _ _ _ _} => cast (by kernel_rfl)
def zgY (P : Program) (x0 : AV) (σ : LO) (Z : ZT) : Prop :=
 zbh x0 σ fun a s =>
 cA P zdb [] s fun b s =>
 cA P zcO [] s fun c s =>
 zC (zag [eN] []) s fun d s =>
 zbh d s fun e s =>
 zC (zag [eN] []) s fun f s =>
 zbh f s fun g s =>
 zC (zag [(.d .nilp), (.d .nilp), (.d .nilp), (.d .nilp), eN, eN, eN] [(0, 1, b), (1, 1, c), (2, 1, e), (3, 1, g)]) s fun h s =>
 zbh h s fun i s =>
 m1 1 [eN] eN s fun j s =>
 fl 1 a s fun l s =>
 zl 1 24 j l s fun m s =>
 zaz .sl m s fun n s =>
 zbt [(iN 0)] s fun v s o =>
 zaU v fun p v => bP .lss p n s fun q s =>
 zE q (il false 1 1 m p s fun r s =>
 zaz .sl r s fun u s =>
 zbt [eN, (iN 0)] s fun v s w =>
 zaU v fun y v => zaU v fun z v => bP .lss z u s fun A s =>
 zE A ((fun (B : AV → LO → Prop) => il true 7 7 r z s fun E s =>
 cp [iN 0, iN 0, iN 0, (.d (.str [])), (.d (.str [])), iN 0, eN] 7 E s fun F s =>
 zbj i s fun G s =>
 zf 2 G s fun H s =>
 zr false 1 H s fun I s =>
 zbj i s fun J s =>
 zf 3 J s fun K s =>
 zr false 1 K s fun L s =>
 zr true 7 F s fun M s =>
 (fun (N : AV → AV → LO → Prop) => (cA P zhT [I, L, M] s fun V s =>
 zc V 0 s fun W s =>
 zc V 1 s fun X s =>
 cp [iN 0, iN 0, iN 0, (.d (.str [])), (.d (.str [])), iN 0, eN, iN 0, iN 0] 9 W s fun Y s =>
 N Y X s) ∧
 (zP [iN 0, iN 0, iN 0, (.d (.str [])), (.d (.str [])), iN 0, eN, iN 0, iN 0] s fun a0 t =>
 zS H s t ∧ (zS K s t ∧ (zS F s t ∧ (cA P zhT [I, L, M] t fun b0 s =>
 zc b0 0 s fun c0 s =>
 zc b0 1 s fun d0 s =>
 zp 9 a0 c0 s fun _ s =>
 N a0 d0 s)))))
 (fun O Q s => bP .eql Q (iN 0) s fun R s =>
 zE R (zr true 9 O s fun S s =>
 m1 9 [iN 0, iN 0, iN 0, (.d (.str [])), (.d (.str [])), iN 0, eN, iN 0, iN 0] S s fun T s =>
 zl 9 104 y T s fun U s =>
 B U s) (B y s)))
 (fun C s => bP .add z (iN 1) s fun D s =>
 w [C, D] s)) (nfl 2 i s fun f0 s =>
 cA P zho [f0, y] s fun g0 s =>
 zc g0 0 s fun h0 s =>
 zc g0 1 s fun _ s =>
 nfl 4 i s fun j0 s =>
 m1 1 [eN] y s fun l0 s =>
 zbj i s fun m0 s =>
 zf 5 m0 s fun o0 s =>
 zr false 1 o0 s fun p0 s =>
 m1 1 [iN 0] h0 s fun q0 s =>
 zl 1 24 j0 l0 s fun r0 t =>
 zS o0 s t ∧ (zl 1 8 p0 q0 t fun u0 s =>
 zbj i s fun w0 s =>
 zf 4 w0 s fun y0 s =>
 zp 1 y0 r0 s fun _ s =>
 zbj i s fun A0 s =>
 zf 5 A0 s fun B0 s =>
 zp 1 B0 u0 s fun _ s =>
 bP .add p (iN 1) s fun D0 s =>
 o [D0] s))) (zC (zag [iN 0, iN 0] []) s fun E0 s =>
 m1 2 [iN 0, iN 0] E0 s fun F0 s =>
 zbj i s fun G0 s =>
 zf 6 G0 s fun H0 s =>
 zp 1 H0 F0 s fun _ s =>
 fl 2 a s fun J0 s =>
 zaz .sl J0 s fun K0 s =>
 zbt [(iN 0)] s fun v s L0 =>
 zaU v fun M0 v => bP .lss M0 K0 s fun N0 s =>
 zE N0 (il true 5 5 J0 M0 s fun O0 s =>
 cp [iN 0, iN 0, iN 0, iN 0, (.d (.int .u8 0))] 5 O0 s fun Q0 s =>
 nfl 5 i s fun R0 s =>
 fl 4 Q0 s fun S0 s =>
 zY (.int .i64) S0 s fun T0 s =>
 nfl 5 i s fun U0 s =>
 zaz .sl U0 s fun V0 s =>
 bP .rem T0 V0 s fun W0 s =>
 il false 1 1 R0 W0 s fun X0 s =>
 zbj i s fun Y0 s =>
 zf 2 Y0 s fun a1 s =>
 zr false 1 a1 s fun b1 s =>
 zbj i s fun c1 s =>
 zf 3 c1 s fun d1 s =>
 zr false 1 d1 s fun e1 s =>
 zf 0 Q0 s fun f1 s =>
 zr false 1 f1 s fun g1 s =>
 zf 1 Q0 s fun h1 s =>
 zr false 1 h1 s fun i1 s =>
 zf 2 Q0 s fun j1 s =>
 zr false 1 j1 s fun l1 s =>
 zf 3 Q0 s fun o1 s =>
 zr false 1 o1 s fun p1 s =>
 (fun (q1 : AV → LO → Prop) => (cA P zhS [b1, e1, g1, i1, l1, p1, X0] s fun F1 s =>
 zc F1 0 s fun G1 s =>
 zc F1 1 s fun _ s =>
 cp [iN 0, iN 0] 2 G1 s fun I1 s =>
 q1 I1 s) ∧
 (zP [iN 0, iN 0] s fun J1 t =>
 zS a1 s t ∧ (zS d1 s t ∧ (zS f1 s t ∧ (zS h1 s t ∧ (zS j1 s t ∧ (zS o1 s t ∧ (cA P zhS [b1, e1, g1, i1, l1, p1, X0] t fun K1 s =>
 zc K1 0 s fun L1 s =>
 zc K1 1 s fun _ s =>
 zp 2 J1 L1 s fun _ s =>
 q1 J1 s))))))))
 (fun r1 s => nfl 6 i s fun u1 s =>
 zr true 2 r1 s fun w1 s =>
 m1 2 [iN 0, iN 0] w1 s fun y1 s =>
 zl 2 16 u1 y1 s fun A1 s =>
 zbj i s fun B1 s =>
 zf 6 B1 s fun C1 s =>
 zp 1 C1 A1 s fun _ s =>
 bP .add M0 (iN 1) s fun E1 s =>
 L0 [E1] s)) (nfl 2 i s fun O1 s =>
 nfl 0 O1 s fun Q1 s =>
 zaz .sl Q1 s fun R1 s =>
 zbt [(iN 0)] s fun v s S1 =>
 zaU v fun T1 v => bP .lss T1 R1 s fun U1 s =>
 zE U1 (il false 1 1 Q1 T1 s fun V1 s =>
 nfl 0 i s fun W1 s =>
 cA P zcN [W1, V1] s fun _ s =>
 bP .add T1 (iN 1) s fun Y1 s =>
 S1 [Y1] s) (nfl 3 i s fun a2 s =>
 nfl 0 a2 s fun b2 s =>
 zaz .sl b2 s fun c2 s =>
 zbt [(iN 0)] s fun v s d2 =>
 zaU v fun e2 v => bP .lss e2 c2 s fun f2 s =>
 zE f2 (il true 2 2 b2 e2 s fun g2 s =>
 cp [iN 0, iN 0] 2 g2 s fun h2 s =>
 nfl 1 i s fun i2 s =>
 fl 0 h2 s fun j2 s =>
 fl 1 h2 s fun l2 s =>
 cA P zci [i2, j2, l2] s fun _ s =>
 bP .add e2 (iN 1) s fun o2 s =>
 d2 [o2] s) (z1 Z i s))))
theorem zgM : F1 Tryz.prog zcp zgY := zo [.l [35] [(5, 2), (8, 5), (36, 59)], .l [6, 41] [(8, 3), (42, 23)], .dd [(0, []), (1, []), (2, []), (3, []), (4, []), (5, []), (6, []), (7, []), (8, []), (9, []), (10, []), (11, []), (12, []), (13, []), (14, []), (15, []), (13, [48, 52, 8]), (9, []), (10, []), (11, []), (12, []), (14, []), (15, [])] [9, 13, 9, 0, 1, 3, 7, 0, 16, 48, 112, 0, 511, 1023, 2047, 2047, 1023, 12287, 32767, 0, 1, 3, 7, 0, 16, 48, 112, 0, 8703, 9215, 10239, 10239, 0, 12287, 32767], .d [(0, 8), (9, 6), (8, 1), (15, 7)] [(8, [85])], .l [103] [(14, 4), (104, 50)], .d [(0, 16)] [], .dd [(0, []), (1, []), (2, []), (3, []), (4, []), (5, []), (6, []), (7, []), (8, []), (9, []), (10, []), (11, []), (12, []), (13, []), (14, []), (15, []), (16, []), (17, []), (18, []), (19, []), (20, []), (21, []), (22, []), (23, []), (21, [125, 129, 131, 133, 135, 137]), (17, []), (18, []), (19, []), (20, []), (22, []), (23, [])] [17, 21, 17, 0, 1, 3, 7, 0, 16, 48, 112, 0, 256, 0, 1024, 0, 4096, 0, 16384, 0, 131071, 262143, 524287, 524287, 262143, 3145727, 8388607, 0, 1, 3, 7, 0, 16, 48, 112, 0, 256, 0, 1024, 0, 4096, 0, 16384, 0, 2228223, 2359295, 2621439, 2621439, 0, 3145727, 8388607], .d [(0, 11)] [], .l [162] [(19, 1), (163, 10)], .l [181] [(21, 1), (182, 13)], .d [(0, 9)] []] Tryz.func14 (by decide +kernel) (by kernel_rfl) fun {_ _ _ _} => cast (by kernel_rfl)
def zgX (P : Program) (x0 x1 : AV) (σ : LO) (Z : ZT) : Prop :=
 zbh x1 σ fun a s =>
 zP [iN 0, iN 0, iN 0, iN 0, iN 0, eN, eN] s fun b s =>
 fl 2 a s fun c s =>
 zY (.int .i64) c s fun d s =>
 nfl 4 x0 s fun e s =>
 zaz .sl e s fun f s =>
 bP .rem d f s fun g s =>
 zf 0 a s fun h s =>
 zr false 1 h s fun i s =>
 zf 1 a s fun j s =>
 zr false 1 j s fun l s =>
 zf 3 a s fun m s =>
 zr false 1 m s fun n s =>
 zbj x0 s fun o s =>
 zf 4 o s fun p s =>
 zr false 1 p s fun q s =>
 zF none 1 q g s fun r s =>
 zr false 1 r s fun u s =>
 zbj x0 s fun w s =>
 zf 6 w s fun y s =>
 zr false 1 y s fun z s =>
 zf 4 a s fun A s =>
 zr false 1 A s fun B s =>
 zY (.int .i64) B s fun C s =>
 zbj x0 s fun D s =>
 zf 6 D s fun E s =>
 zr false 1 E s fun F s =>
 zaz .sl F s fun G s =>
 bP .rem C G s fun H s =>
 zF none 2 z H s fun I s =>
 zr true 2 I s fun J s =>
 zC (zag [iN 0, iN 0, iN 0, iN 0, iN 0, eN, eN] [(0, 1, i), (1, 1, l), (2, 1, n), (6, 1, u), (3, 2, J)]) s fun K s =>
 zP [iN 0, iN 0, iN 0, iN 0, iN 0, eN, eN] s fun L t =>
 zS h s t ∧ (zS j s t ∧ (zS m s t ∧ (zS p s t ∧ (zS r s t ∧ (zS y s t ∧ (zS A s t ∧ (zS E s t ∧ (zS I s t ∧ (zp 7 L K t fun _ s =>
 (fun (N : LO → Prop) => fl 2 L s fun l0 s =>
 bP .eql l0 (iN 0) s fun m0 s =>
 zE m0 (nfl 5 x0 s fun o0 s =>
 il false 1 1 o0 g s fun p0 s =>
 zf 2 L s fun q0 s =>
 zp 1 q0 p0 s fun _ s =>
 N s) (N s))
 (fun  s => fl 5 a s fun O s =>
 zaz .sl O s fun Q s =>
 zbt [(iN 0)] s fun v s R =>
 zaU v fun S v => bP .lss S Q s fun T s =>
 zE T (il false 1 1 O S s fun U s =>
 fl 5 L s fun V s =>
 nfl 6 x0 s fun W s =>
 zY (.int .i64) U s fun X s =>
 nfl 6 x0 s fun Y s =>
 zaz .sl Y s fun a0 s =>
 bP .rem X a0 s fun b0 s =>
 il true 2 2 W b0 s fun c0 s =>
 m1 2 [iN 0, iN 0] c0 s fun d0 s =>
 zl 2 16 V d0 s fun e0 s =>
 zf 5 L s fun f0 s =>
 zp 1 f0 e0 s fun _ s =>
 bP .add S (iN 1) s fun h0 s =>
 R [h0] s) (zr true 7 L s fun i0 s =>
 zp 7 b i0 s fun _ s =>
 Z (zM (zao b s true 7) (some [])) s)))))))))))
theorem zgL : F2 Tryz.prog zco zgX := zo [.d [(0, 10)] [], .d [(0, 31)] [(29, [18, 20, 22, 26, 29, 33, 35, 40, 44])], .l [61] [(8, 1), (62, 23)], .d [(0, 20)] []] Tryz.func15 (by decide +kernel) (by kernel_rfl) fun {_ _ _ _ _} => cast (by kernel_rfl)
def zgW (P : Program) (x0 x1 x2 x3 : AV) (σ : LO) (Z : ZT) : Prop :=
 zbh x3 σ fun a s =>
 cA P zch [x0] s fun b s =>
 zbL .eql .ptr b (.d .nilp) s fun c s =>
 gFm c x1 s fun d s =>
 gF c (cA P zbU [d] s) s fun e s =>
 gF c (zbL .eql .ptr e (.d .nilp) s) s fun f s =>
 orC c f s fun g s =>
 gFm g x2 s fun h s =>
 gF g (cA P zcX [h] s) s fun i s =>
 gF g (bP .neq i (iN 0) s) s fun j s =>
 orC g j s fun l s =>
 gFl l 0 a s fun m s =>
 gF l (bP .lss m (iN 0) s) s fun n s =>
 orC l n s fun o s =>
 gFl o 0 a s fun p s =>
 gF o (bP .gtr p (iN 9007199254740992) s) s fun q s =>
 orC o q s fun r s =>
 gFl r 1 a s fun u s =>
 gF r (bP .lss u (iN 1) s) s fun w s =>
 orC r w s fun y s =>
 gFl y 1 a s fun z s =>
 gF y (bP .gtr z (iN 9007199254740992) s) s fun A s =>
 orC y A s fun B s =>
 gFm B x0 s fun C s =>
 gFm B x1 s fun D s =>
 gFl B 6 a s fun E s =>
 gF B (cA P zcS [C, D, E] s) s fun F s =>
 gF B (unC .not F s) s fun G s =>
 orC B G s fun H s =>
 zE H (z1 Z bF s) (fl 6 a s fun I s =>
 cA P zdn [eN, I] s fun J s =>
 cA P zbq [x0, J] s fun K s =>
 zc K 0 s fun L s =>
 zc K 1 s fun M s =>
 fl 0 a s fun N s =>
 cA P zdY [x2, N] s fun O s =>
 unC .not M s fun Q s =>
 gFm Q L s fun R s =>
 gFl Q 2 a s fun S s =>
 gF Q (bP .neq R S s) s fun T s =>
 orC Q T s fun U s =>
 gFm U x0 s fun V s =>
 gFm U x1 s fun W s =>
 gF U (zf 3 a s) s fun X s =>
 gF U (zr true 2 X s) s fun Y s =>
 gFm U O s fun a0 s =>
 gFl U 0 a s fun b0 s =>
 gFl U 1 a s fun c0 s =>
 gFm U L s fun d0 s =>
 gF U (cA P zdc [V, W, Y, a0, (iN 2), b0, c0, d0] s) s fun e0 s =>
 gF U (unC .not e0 s) s fun f0 s =>
 orC U f0 s fun g0 s =>
 gFl g0 5 a s fun h0 s =>
 gF g0 (zaz .sl h0 s) s fun i0 s =>
 gFm g0 x2 s fun j0 s =>
 gF g0 (bP .mul (iN 2) j0 s) s fun l0 s =>
 gF g0 (bP .neq i0 l0 s) s fun m0 s =>
 orC g0 m0 s fun o0 s =>
 zE o0 (z1 Z bF s) (fl 5 a s fun p0 s =>
 zaz .sl p0 s fun q0 s =>
 zbt [(iN (-1)), (iN 0)] s fun v s r0 =>
 zaU v fun u0 v => zaU v fun w0 v => bP .lss w0 q0 s fun y0 s =>
 zE y0 (il true 2 2 p0 w0 s fun z0 s =>
 cp [iN 0, iN 0] 2 z0 s fun A0 s =>
 fl 0 A0 s fun B0 s =>
 bP .leq B0 u0 s fun C0 s =>
 gF C0 (zf 0 A0 s) s fun D0 s =>
 gF C0 (zr false 1 D0 s) s fun E0 s =>
 gFm C0 x2 s fun F0 s =>
 gF C0 (cA P zda [F0] s) s fun G0 t =>
 zS D0 s t ∧ (gF C0 (bP .geq E0 G0 t) t fun H0 s =>
 orC C0 H0 s fun I0 s =>
 gFl I0 0 A0 s fun J0 s =>
 gFm I0 O s fun K0 s =>
 gF I0 (bP .eql J0 K0 s) s fun L0 s =>
 orC I0 L0 s fun M0 s =>
 gFm M0 x0 s fun N0 s =>
 gFm M0 x1 s fun O0 s =>
 gF M0 (zr true 2 A0 s) s fun Q0 s =>
 gFl M0 0 A0 s fun R0 s =>
 gFl M0 0 a s fun S0 s =>
 gFl M0 1 a s fun T0 s =>
 gFm M0 L s fun U0 s =>
 gF M0 (cA P zdc [N0, O0, Q0, R0, (iN 3), S0, T0, U0] s) s fun V0 s =>
 gF M0 (unC .not V0 s) s fun W0 s =>
 orC M0 W0 s fun X0 s =>
 zE X0 (z1 Z bF s) (fl 0 A0 s fun Y0 s =>
 bP .add w0 (iN 1) s fun a1 s =>
 r0 [Y0, a1] s))) (z1 Z bT s)))
theorem zgK : F4 Tryz.prog zcn zgW := zo [.l [12, 101] [(8, 1), (14, 1), (102, 37)], .d [(0, 31)] [(8, [110])]] Tryz.func16 (by decide +kernel) (by kernel_rfl) fun {_ _ _ _ _ _ _} => cast (by kernel_rfl)
def zeO (P : Program) (x0 x1 : AV) (σ : LO) (Z : ZT) : Prop :=
 zbh x1 σ fun a s =>
 cA P zbT [x0] s fun b s =>
 gFl b 1 a s fun c s =>
 gF b (bP .lss c (iN 1) s) s fun d s =>
 orC b d s fun e s =>
 gFl e 1 a s fun f s =>
 gF e (bP .gtr f (iN 9007199254740992) s) s fun g s =>
 orC e g s fun h s =>
 zE h (z1 Z bF s) (zbj x0 s fun i s =>
 zf 0 i s fun j s =>
 zr false 1 j s fun l s =>
 zf 1 a s fun m s =>
 zr false 1 m s fun n s =>
 zam .int true (.agg [iN 0, iN 0, iN 0, iN 0, iN 0, eN, eN]) l n s fun o s =>
 zc o 0 s fun p s =>
 zc o 1 s fun q s =>
 zP [iN 0, iN 0, iN 0, iN 0, iN 0, eN, eN] s fun r t =>
 zS j s t ∧ (zS m s t ∧ (zS l s t ∧ (zp 7 r p t fun _ s =>
 gTl q 0 r s fun w s =>
 gTl q 0 a s fun y s =>
 gT q (bP .geq w y s) s fun z s =>
 anC q z s fun A s =>
 zE A (z1 Z bF s) (zbj x0 s fun B s =>
 zf 0 B s fun C s =>
 zr false 1 C s fun D s =>
 zf 1 a s fun E s =>
 zr false 1 E s fun F s =>
 zr true 7 a s fun G s =>
 cA P zdZ [G] s fun H t =>
 zS C s t ∧ (zS E s t ∧ (zav .int D F H t fun _ s =>
 z1 Z bT s)))))))
theorem zeF : F2 Tryz.prog zcg zeO := zo [.d [(0, 13)] [(10, [22, 24, 23])], .d [(0, 9)] [(7, [39, 41])]] Tryz.func24 (by decide +kernel) (by kernel_rfl) fun {_ _ _ _ _} => cast (by kernel_rfl)
def zeP (P : Program) (x0 : AV) (σ : LO) (Z : ZT) : Prop :=
 cA P zbT [x0] σ fun a s =>
 zE a (z1 Z (iN 0) s) (nfl 0 x0 s fun b s =>
 zaz .map b s fun c s =>
 z1 Z c s)
theorem zeG : F1 Tryz.prog zdg zeP := zo [] Tryz.func26 (by decide +kernel) (by kernel_rfl) fun {_ _ _ _} => cast (by kernel_rfl)
def zgd (P : Program) (σ : LO) (Z : ZT) : Prop :=
 zah σ fun a s =>
 zC (zag [eN, (.d .nilmap)] [(1, 1, a)]) s fun b s =>
 zbh b s fun c s =>
 z1 Z c s
theorem zfS : F0 Tryz.prog zcO zgd := zo [] Tryz.func28 (by decide +kernel) (by kernel_rfl) fun {_ _ _} => cast (by kernel_rfl)
def zgZ (P : Program) (σ : LO) (Z : ZT) : Prop :=
 zah σ fun a s =>
 zC (zag [eN, (.d .nilmap)] [(1, 1, a)]) s fun b s =>
 zbh b s fun c s =>
 z1 Z c s
theorem zgN : F0 Tryz.prog zdb zgZ := zo [] Tryz.func29 (by decide +kernel) (by kernel_rfl) fun {_ _ _} => cast (by kernel_rfl)
def ziu (P : Program) (σ : LO) (Z : ZT) : Prop :=
 zah σ fun a s =>
 zC (zag [(.d .nilmap)] [(0, 1, a)]) s fun b s =>
 zbh b s fun c s =>
 z1 Z c s
theorem zij : F0 Tryz.prog zfx ziu := zo [] Tryz.func30 (by decide +kernel) (by kernel_rfl) fun {_ _ _} => cast (by kernel_rfl)
def znL (P : Program) (x0 : AV) (σ : LO) (Z : ZT) : Prop :=
 zbt [eN, (iN 0)] σ fun v s a =>
 zaU v fun b v => zaU v fun c v => bP .lss c (iN 13) s fun d s =>
 zE d ((fun (e : AV → LO → Prop) => cA P zfF [x0, c] s fun h s =>
 zE h (m1 1 [iN 0] c s fun i s =>
 zl 1 8 b i s fun j s =>
 e j s) (e b s))
 (fun f s => bP .add c (iN 1) s fun g s =>
 a [f, g] s)) (z1 Z b s)
theorem znp : F1 Tryz.prog zjK znL := zo [.l [3, 4] [(5, 11)]] Tryz.func39 (by decide +kernel) (by kernel_rfl) fun {_ _ _ _} => cast (by kernel_rfl)
def S_r12_Of (P : Program) (x0 : AV) (σ : LO) (Z : ZT) : Prop :=
 zbt [(.d (.int .u16 0)), (.d (.int .u16 1)), (iN 0)] σ fun v s a =>
 zaU v fun b v => zaU v fun c v => zaU v fun d v => bP .lss d (iN 13) s fun e s =>
 zE e ((fun (f : AV → LO → Prop) => zbt [b, (iN 0)] s fun v s j =>
 zaU v fun l v => zaU v fun m v => zaz .sl x0 s fun n s =>
 bP .lss m n s fun o s =>
 zE o (il false 1 1 x0 m s fun p s =>
 bP .eql p d s fun q s =>
 zE q (bP .add l c s fun r s =>
 f r s) (bP .add m (iN 1) s fun u s =>
 j [l, u] s)) (f l s))
 (fun g s => bP .mul c (.d (.int .u16 2)) s fun h s =>
 bP .add d (iN 1) s fun i s =>
 a [g, h, i] s)) (z1 Z b s)
theorem e_r12_Of : F1 Tryz.prog zla S_r12_Of := zo [.l [3, 4, 5] [(6, 22)], .l [3, 6] [(11, 15)]] Tryz.func40 (by decide +kernel) (by kernel_rfl) fun {_ _ _ _} => cast (by kernel_rfl)
def zju (P : Program) (x0 : AV) (σ : LO) (Z : ZT) : Prop :=
 cA P zgm [x0] σ fun a s =>
 bP .neq a (iN 0) s fun b s =>
 zE b (z1 Z (iN 0) s) (bP .mul (iN 3) x0 s fun c s =>
 bP .add c (iN 1) s fun d s =>
 z1 Z d s)
theorem zje : F1 Tryz.prog zgn zju := zo [] Tryz.func41 (by decide +kernel) (by kernel_rfl) fun {_ _ _ _} => cast (by kernel_rfl)
def znP (P : Program) (x0 x1 x2 : AV) (σ : LO) (Z : ZT) : Prop :=
 zbh x2 σ fun a s =>
 zP [iN 0, iN 0, iN 0, (.d (.str [])), (.d (.str [])), iN 0, eN, iN 0, iN 0] s fun b s =>
 zr true 7 a s fun c s =>
 cA P zgq [c] s fun d s =>
 zc d 0 s fun e s =>
 zc d 1 s fun f s =>
 bP .neq f (iN 0) s fun g s =>
 zE g (zC (zag [iN 0, iN 0, iN 0, (.d (.str [])), (.d (.str [])), iN 0, eN, iN 0, iN 0] []) s fun h s =>
 zp 9 b h s fun _ s =>
 Z (zM (zao b s true 9) (zM (some f) (some []))) s) (fl 0 a s fun j s =>
 cA P zhn [j] s fun l s =>
 cA P zcK [x0, e] s fun m s =>
 cA P zcM [x1, l, m] s fun n s =>
 zc n 0 s fun o s =>
 zc n 1 s fun p s =>
 cp [iN 0, iN 0] 2 o s fun q s =>
 bP .neq p (iN 0) s fun r s =>
 zE r (zC (zag [iN 0, iN 0, iN 0, (.d (.str [])), (.d (.str [])), iN 0, eN, iN 0, iN 0] []) s fun u s =>
 zp 9 b u s fun _ s =>
 Z (zM (zao b s true 9) (zM (some p) (some []))) s) (zr true 7 a s fun y s =>
 zr true 2 q s fun z s =>
 zC (zag [iN 0, iN 0, iN 0, (.d (.str [])), (.d (.str [])), iN 0, eN, iN 0, iN 0] [(0, 7, y), (7, 2, z)]) s fun A s =>
 zp 9 b A s fun _ s =>
 Z (zM (zao b s true 9) (zM (some (iN 0)) (some []))) s))
theorem znt : F3 Tryz.prog zhT znP := zo [] Tryz.func42 (by decide +kernel) (by kernel_rfl) fun {_ _ _ _ _ _} => cast (by kernel_rfl)
def zkK (P : Program) (x0 x1 : AV) (σ : LO) (Z : ZT) : Prop :=
 cA P zcZ [x1] σ fun a s =>
 bP .neq a (iN 0) s fun b s =>
 zE b (z2 Z (iN 0) a s) (cA P zfv [eN, x1] s fun c s =>
 cA P zcK [x0, c] s fun d s =>
 bP .eql d (iN 0) s fun e s =>
 zE e (z2 Z (iN 0) (iN 6) s) (z2 Z d (iN 0) s))
theorem zkz : F2 Tryz.prog zho zkK := zo [] Tryz.func43 (by decide +kernel) (by kernel_rfl) fun {_ _ _ _ _} => cast (by kernel_rfl)
def znO (P : Program) (x0 x1 x2 x3 x4 x5 x6 : AV) (σ : LO) (Z : ZT) : Prop :=
 zP [iN 0, iN 0] σ fun a s =>
 cA P zlx [x3, x4, x5, x6] s fun b s =>
 unC .not b s fun c s =>
 zE c (zC (zag [iN 0, iN 0] []) s fun d s =>
 zp 2 a d s fun _ s =>
 Z (zM (zao a s true 2) (zM (some (iN 1)) (some []))) s) (cA P zey [x3, x4, x5, x6] s fun f s =>
 cA P zjM [x0, x1, x2, f] s fun g s =>
 zc g 0 s fun h s =>
 zc g 1 s fun i s =>
 zp 2 a h s fun _ s =>
 Z (zM (zao a s true 2) (zM (some i) (some []))) s)
theorem zns : F7 Tryz.prog zhS znO := zo [] Tryz.func44 (by decide +kernel) (by kernel_rfl) fun {_ _ _ _ _ _ _ _ _ _} => cast (by kernel_rfl)
def zgc (P : Program) (x0 x1 : AV) (σ : LO) (Z : ZT) : Prop :=
 cA P zbH [x0] σ fun a s =>
 zE a (z1 Z (iN 0) s) (nfl 1 x0 s fun b s =>
 zY .toStr x1 s fun c s =>
 zam .str true (iN 0) b c s fun d s =>
 zc d 0 s fun e s =>
 zc d 1 s fun f s =>
 zE f (z1 Z e s) (nfl 0 x0 s fun g s =>
 zaz .sl g s fun h s =>
 bP .geq h (iN 1048576) s fun i s =>
 zE i (z1 Z (iN 0) s) (zbj x0 s fun j s =>
 zf 0 j s fun l s =>
 zr false 1 l s fun m s =>
 cA P zcj [x1] s fun n t =>
 zS l s t ∧ (m1 1 [eN] n t fun o s =>
 zl 1 24 m o s fun p s =>
 zbj x0 s fun q s =>
 zf 0 q s fun r s =>
 zp 1 r p s fun _ s =>
 nfl 0 x0 s fun w s =>
 zaz .sl w s fun y s =>
 nfl 1 x0 s fun z s =>
 zY .toStr x1 s fun A s =>
 zav .str z A y s fun _ s =>
 z1 Z y s))))
theorem zfR : F2 Tryz.prog zcN zgc := zo [.d [(0, 12)] [], .d [(0, 12)] [(6, [31])], .d [(0, 8)] []] Tryz.func45 (by decide +kernel) (by kernel_rfl) fun {_ _ _ _ _} => cast (by kernel_rfl)
def zeS (P : Program) (x0 x1 x2 : AV) (σ : LO) (Z : ZT) : Prop :=
 zP [iN 0, iN 0] σ fun a s =>
 cA P zbw [x0] s fun b s =>
 zE b (zC (zag [iN 0, iN 0] []) s fun c s =>
 zp 2 a c s fun _ s =>
 Z (zM (zao a s true 2) (zM (some (iN 2)) (some []))) s) (bP .lss x1 (iN 0) s fun e s =>
 gFm e x1 s fun f s =>
 gF e (bP .geq f (iN 21) s) s fun g s =>
 orC e g s fun h s =>
 zE h (zC (zag [iN 0, iN 0] []) s fun i s =>
 zp 2 a i s fun _ s =>
 Z (zM (zao a s true 2) (zM (some (iN 20)) (some []))) s) (bP .lss x2 (iN 1) s fun l s =>
 zE l (zC (zag [iN 0, iN 0] []) s fun m s =>
 zp 2 a m s fun _ s =>
 Z (zM (zao a s true 2) (zM (some (iN 1)) (some []))) s) (zC (zag [iN 0, iN 0] [(0, 1, x1), (1, 1, x2)]) s fun o s =>
 cp [iN 0, iN 0] 2 o s fun p s =>
 (fun (q : LO → Prop) => nfl 1 x0 s fun w s =>
 zr true 2 p s fun y s =>
 zam (.ints 2) false bF w y s fun z s =>
 unC .not z s fun A s =>
 zE A (nfl 1 x0 s fun B s =>
 zr true 2 p s fun C s =>
 zav (.ints 2) B C bT s fun _ s =>
 nfl 0 x0 s fun E s =>
 zr true 2 p s fun F s =>
 m1 2 [iN 0, iN 0] F s fun G s =>
 zl 2 16 E G s fun H s =>
 zbj x0 s fun I s =>
 zf 0 I s fun J s =>
 zp 1 J H s fun _ s =>
 q s) (q s))
 (fun  s => zr true 2 p s fun r s =>
 zp 2 a r s fun _ s =>
 Z (zM (zao a s true 2) (zM (some (iN 0)) (some []))) s))))
theorem zeJ : F3 Tryz.prog zci zeS := zo [.d [(0, 7)] [], .d [(0, 6)] [], .d [(0, 11)] []] Tryz.func46 (by decide +kernel) (by kernel_rfl) fun {_ _ _ _ _ _} => cast (by kernel_rfl)
def zeQ (P : Program) (x0 : AV) (σ : LO) (Z : ZT) : Prop :=
 cA P zbH [x0] σ fun a s =>
 zE a (z1 Z (.d .nilp) s) (nfl 0 x0 s fun b s =>
 cA P zhp [b] s fun c s =>
 zc c 0 s fun d s =>
 zc c 1 s fun _ s =>
 z1 Z d s)
theorem zeH : F1 Tryz.prog zch zeQ := zo [] Tryz.func47 (by decide +kernel) (by kernel_rfl) fun {_ _ _ _} => cast (by kernel_rfl)
def zem (P : Program) (x0 : AV) (σ : LO) (Z : ZT) : Prop :=
 cA P zbw [x0] σ fun a s =>
 zE a (z1 Z (.d .nilp) s) (cA P zcO [] s fun b s =>
 nfl 0 x0 s fun c s =>
 zaz .sl c s fun d s =>
 zbt [(iN 0)] s fun v s e =>
 zaU v fun f v => bP .lss f d s fun g s =>
 zE g (il true 2 2 c f s fun h s =>
 cp [iN 0, iN 0] 2 h s fun i s =>
 fl 0 i s fun j s =>
 fl 1 i s fun l s =>
 cA P zci [b, j, l] s fun _ s =>
 bP .add f (iN 1) s fun n s =>
 e [n] s) (z1 Z b s))
theorem zeh : F1 Tryz.prog zbU zem := zo [.l [14] [(5, 1), (15, 10)]] Tryz.func48 (by decide +kernel) (by kernel_rfl) fun {_ _ _ _} => cast (by kernel_rfl)
def zit (P : Program) (x0 : AV) (σ : LO) (Z : ZT) : Prop :=
 bP .lss x0 (iN 1) σ fun a s =>
 gFm a x0 s fun b s =>
 gF a (bP .gtr b (iN 4) s) s fun c s =>
 orC a c s fun d s =>
 zE d (z1 Z (iN 120) s) (z1 Z (iN 0) s)
theorem zii : F1 Tryz.prog zcX zit := zo [] Tryz.func49 (by decide +kernel) (by kernel_rfl) fun {_ _ _ _} => cast (by kernel_rfl)
def zej (P : Program) (x0 x1 x2 : AV) (σ : LO) (Z : ZT) : Prop :=
 zbh x0 σ fun a s =>
 zbh x1 s fun b s =>
 cA P zbS [x2] s fun c s =>
 bP .eql c (iN 0) s fun d s =>
 gTm d x2 s fun e s =>
 gT d (fun k => k (.fn (.func zdz) [] [a, b]) s) s fun f s =>
 gT d (cA P zaA [e, f] s) s fun g s =>
 gT d (unC .not g s) s fun h s =>
 anC d h s fun i s =>
 z1 Z i s
theorem zee : F3 Tryz.prog zcS zej := zo [] Tryz.func50 (by decide +kernel) (by kernel_rfl) fun {_ _ _ _ _ _} => cast (by kernel_rfl)
def zft (P : Program) (x0 x1 : AV) (σ : LO) (Z : ZT) : Prop :=
 cA P zbH [x0] σ fun a s =>
 zE a (z2 Z (iN 0) bF s) (nfl 1 x0 s fun b s =>
 zY .toStr x1 s fun c s =>
 zam .str true (iN 0) b c s fun d s =>
 zc d 0 s fun e s =>
 zc d 1 s fun f s =>
 z2 Z e f s)
theorem zfp : F2 Tryz.prog zbq zft := zo [.d [(0, 12)] []] Tryz.func51 (by decide +kernel) (by kernel_rfl) fun {_ _ _ _ _} => cast (by kernel_rfl)
def zfr (P : Program) (x0 x1 : AV) (σ : LO) (Z : ZT) : Prop :=
 cA P zbS [x1] σ fun a s =>
 bP .neq a (iN 0) s fun b s =>
 zE b (cA P zcj [x0] s fun c s =>
 z1 Z c s) (zae P (.fn (.func zde) [x1] []) [dm x0] s fun d s =>
 z1 Z d s)
theorem zfn : F2 Tryz.prog zdn zfr := zo [] Tryz.func52 (by decide +kernel) (by kernel_rfl) fun {_ _ _ _ _} => cast (by kernel_rfl)
def zgT (P : Program) (x0 x1 : AV) (σ : LO) (Z : ZT) : Prop :=
 cA P zgs [x0, x1] σ fun a s =>
 unC .not a s fun b s =>
 zE b (z1 Z (iN (-1)) s) (cA P zda [x0] s fun c s =>
 bP .rem x1 c s fun d s =>
 z1 Z d s)
theorem zgH : F2 Tryz.prog zdY zgT := zo [] Tryz.func53 (by decide +kernel) (by kernel_rfl) fun {_ _ _ _ _} => cast (by kernel_rfl)
def zhc (P : Program) (x0 x1 x2 x3 x4 x5 x6 x7 : AV) (σ : LO) (Z : ZT) : Prop :=
 zbh x2 σ fun a s =>
 cA P ziB [x0, x1] s fun b s =>
 gTm b x4 s fun c s =>
 gTm b x5 s fun d s =>
 gTm b x6 s fun e s =>
 gTm b x7 s fun f s =>
 gT b (cA P zjT [c, d, e, f] s) s fun g s =>
 anC b g s fun h s =>
 gTm h x0 s fun i s =>
 gTm h x1 s fun j s =>
 gT h (zr true 2 a s) s fun l s =>
 gTm h x3 s fun m s =>
 gTm h x4 s fun n s =>
 gTm h x5 s fun o s =>
 gTm h x6 s fun p s =>
 gTm h x7 s fun q s =>
 gT h (cA P zea [n, o, p, q] s) s fun r t =>
 zS a s t ∧ (gT h (cA P zgv [i, j, l, m, r] t) t fun u s =>
 anC h u s fun w s =>
 z1 Z w s)
theorem zgQ : F8 Tryz.prog zdc zhc := zo [.d [(0, 23)] [(19, [10])]] Tryz.func54 (by decide +kernel) (by kernel_rfl) fun {_ _ _ _ _ _ _ _ _ _ _} => cast (by kernel_rfl)
def zgU (P : Program) (x0 : AV) (σ : LO) (Z : ZT) : Prop :=
 cA P zfw [(iN 3), x0] σ fun a s =>
 z1 Z a s
theorem zgI : F1 Tryz.prog zda zgU := zo [] Tryz.func55 (by decide +kernel) (by kernel_rfl) fun {_ _ _ _} => cast (by kernel_rfl)
def zgS (P : Program) (x0 x1 : AV) (σ : LO) (Z : ZT) : Prop :=
 zbt [(iN 0)] σ fun v s a =>
 zaU v fun b v => nfl 0 x0 s fun c s =>
 zaz .sl c s fun d s =>
 bP .lss b d s fun e s =>
 zE e (nfl 0 x0 s fun f s =>
 il false 1 1 f b s fun g s =>
 cA P zjO [g, x1] s fun h s =>
 zE h (bP .add b (iN 1) s fun i s =>
 z2 Z i bT s) (bP .add b (iN 1) s fun j s =>
 a [j] s)) (z2 Z (iN 0) bF s)
theorem zgG : F2 Tryz.prog zdX zgS := zo [.l [6] [(4, 2), (7, 20)]] Tryz.func57 (by decide +kernel) (by kernel_rfl) fun {_ _ _ _ _} => cast (by kernel_rfl)
def ziq (P : Program) (x0 x1 : AV) (σ : LO) (Z : ZT) : Prop :=
 cA P zcZ [x1] σ fun a s =>
 bP .neq a (iN 0) s fun b s =>
 zE b (z1 Z x0 s) (zaz .sl x1 s fun c s =>
 zY (.int .u64) c s fun d s =>
 cA P zbd [x0, d] s fun e s =>
 zbt [e, (iN 0)] s fun v s f =>
 zaU v fun g v => zaU v fun h v => zaz .sl x1 s fun i s =>
 bP .lss h i s fun j s =>
 zE j (zF none 9 x1 h s fun l s =>
 zf 0 l s fun m s =>
 zr true 7 m s fun n s =>
 cA P zgq [n] s fun o s =>
 zc o 0 s fun p s =>
 zc o 1 s fun _ s =>
 zF none 9 x1 h s fun r s =>
 zf 7 r s fun u s =>
 zr true 2 u s fun w s =>
 cA P zcu [g, p] s fun y t =>
 zS u s t ∧ (cA P zgo [y, w] t fun z s =>
 bP .add h (iN 1) s fun A s =>
 f [z, A] s)) (z1 Z g s))
theorem zif : F2 Tryz.prog zfv ziq := zo [.l [0, 5] [(6, 2), (17, 24)], .d [(0, 2), (3, 5), (2, 1), (8, 2)] [(2, [38])]] Tryz.func58 (by decide +kernel) (by kernel_rfl) fun {_ _ _ _ _} => cast (by kernel_rfl)
def zfs (P : Program) (x0 : AV) (σ : LO) (Z : ZT) : Prop :=
 zbL .eql .ptr x0 (.d .nilp) σ fun a s =>
 gFm a x0 s fun b s =>
 gF a (zbj b s) s fun c s =>
 gFl a 1 c s fun d s =>
 gF a (zbL .eql .map d (.d .nilmap) s) s fun e s =>
 orC a e s fun f s =>
 z1 Z f s
theorem zfo : F1 Tryz.prog zbH zfs := zo [] Tryz.func61 (by decide +kernel) (by kernel_rfl) fun {_ _ _ _} => cast (by kernel_rfl)
def zeR (P : Program) (x0 : AV) (σ : LO) (Z : ZT) : Prop :=
 zbL .eql .ptr x0 (.d .nilp) σ fun a s =>
 gFm a x0 s fun b s =>
 gF a (zbj b s) s fun c s =>
 gFl a 1 c s fun d s =>
 gF a (zbL .eql .map d (.d .nilmap) s) s fun e s =>
 orC a e s fun f s =>
 z1 Z f s
theorem zeI : F1 Tryz.prog zbw zeR := zo [] Tryz.func62 (by decide +kernel) (by kernel_rfl) fun {_ _ _ _} => cast (by kernel_rfl)
def zel (P : Program) (x0 : AV) (σ : LO) (Z : ZT) : Prop :=
 zbL .eql .ptr x0 (.d .nilp) σ fun a s =>
 gFm a x0 s fun b s =>
 gF a (zbj b s) s fun c s =>
 gFl a 0 c s fun d s =>
 gF a (zbL .eql .map d (.d .nilmap) s) s fun e s =>
 orC a e s fun f s =>
 z1 Z f s
theorem zeg : F1 Tryz.prog zbT zel := zo [] Tryz.func63 (by decide +kernel) (by kernel_rfl) fun {_ _ _ _} => cast (by kernel_rfl)
def zgV (P : Program) (x0 : AV) (σ : LO) (Z : ZT) : Prop :=
 zbh x0 σ fun a s =>
 zP [iN 0, iN 0, iN 0, iN 0, iN 0, eN, eN] s fun b s =>
 fl 5 a s fun c s =>
 cA P zbg [c] s fun d s =>
 zf 5 a s fun e s =>
 zp 1 e d s fun _ s =>
 fl 6 a s fun g s =>
 cA P zex [g] s fun h s =>
 zf 6 a s fun i s =>
 zp 1 i h s fun _ s =>
 zr true 7 a s fun l s =>
 zp 7 b l s fun _ s =>
 Z (zM (zao b s true 7) (some [])) s
theorem zgJ : F1 Tryz.prog zdZ zgV := zo [] Tryz.func64 (by decide +kernel) (by kernel_rfl) fun {_ _ _ _} => cast (by kernel_rfl)
def zmq (P : Program) (x0 : AV) (σ : LO) (Z : ZT) : Prop :=
 zbh x0 σ fun a s =>
 zr true 7 a s fun b s =>
 cA P zgp [b] s fun c s =>
 bP .neq c (iN 0) s fun d s =>
 zE d (z2 Z eN c s) (fl 0 a s fun e s =>
 zY (.int .u64) e s fun f s =>
 cA P zbd [eN, f] s fun g s =>
 fl 1 a s fun h s =>
 zY (.int .u64) h s fun i s =>
 cA P zbd [g, i] s fun j s =>
 zf 2 a s fun l s =>
 zr true 5 l s fun m s =>
 cA P zly [j, m] s fun n s =>
 z2 Z n (iN 0) s)
theorem zlV : F1 Tryz.prog zgq zmq := zo [] Tryz.func72 (by decide +kernel) (by kernel_rfl) fun {_ _ _ _} => cast (by kernel_rfl)
def zga (P : Program) (x0 x1 x2 : AV) (σ : LO) (Z : ZT) : Prop :=
 zP [iN 0, iN 0] σ fun a s =>
 bP .lss x1 (iN 0) s fun b s =>
 gFm b x1 s fun c s =>
 gF b (bP .geq c (iN 21) s) s fun d s =>
 orC b d s fun e s =>
 zE e (zC (zag [iN 0, iN 0] []) s fun f s =>
 zp 2 a f s fun _ s =>
 Z (zM (zao a s true 2) (zM (some (iN 20)) (some []))) s) (bP .lss x2 (iN 1) s fun h s =>
 zE h (zC (zag [iN 0, iN 0] []) s fun i s =>
 zp 2 a i s fun _ s =>
 Z (zM (zao a s true 2) (zM (some (iN 1)) (some []))) s) (zC (zag [iN 0, iN 0] [(0, 1, x1), (1, 1, x2)]) s fun l s =>
 cp [iN 0, iN 0] 2 l s fun m s =>
 (fun (n : LO → Prop) => zr true 2 m s fun q s =>
 cA P zdf [x0, q] s fun r s =>
 unC .not r s fun u s =>
 zE u (nfl 0 x0 s fun w s =>
 zr true 2 m s fun y s =>
 m1 2 [iN 0, iN 0] y s fun z s =>
 zl 2 16 eN w s fun A t =>
 zS m s t ∧ (zl 2 16 A z t fun B s =>
 zbj x0 s fun C s =>
 zf 0 C s fun D s =>
 zp 1 D B s fun _ s =>
 n s)) (n s))
 (fun  s => zr true 2 m s fun o s =>
 zp 2 a o s fun _ s =>
 Z (zM (zao a s true 2) (zM (some (iN 0)) (some []))) s)))
theorem zfP : F3 Tryz.prog zcM zga := zo [.d [(0, 5), (6, 2), (5, 1), (8, 4)] [(5, [8])]] Tryz.func73 (by decide +kernel) (by kernel_rfl) fun {_ _ _ _ _ _} => cast (by kernel_rfl)
def S_r08_Key (P : Program) (x0 : AV) (σ : LO) (Z : ZT) : Prop :=
 bP .lss x0 (iN 0) σ fun a s =>
 gFm a x0 s fun b s =>
 gF a (bP .geq b (iN 8) s) s fun c s =>
 orC a c s fun d s =>
 zE d (z1 Z (iN (-1)) s) (bP .add (iN 13) x0 s fun e s =>
 z1 Z e s)
theorem e_r08_Key : F1 Tryz.prog zhn S_r08_Key := zo [] Tryz.func74 (by decide +kernel) (by kernel_rfl) fun {_ _ _ _} => cast (by kernel_rfl)
def zhL (P : Program) (x0 x1 : AV) (σ : LO) (Z : ZT) : Prop :=
 cA P zdX [x0, x1] σ fun a s =>
 zc a 0 s fun b s =>
 zc a 1 s fun c s =>
 zE c (z1 Z b s) (nfl 0 x0 s fun d s =>
 zaz .sl d s fun e s =>
 bP .geq e (iN 1048576) s fun f s =>
 zE f (z1 Z (iN 0) s) (nfl 0 x0 s fun g s =>
 zl 1 24 eN g s fun h s =>
 zl 1 1 eN x1 s fun i s =>
 m1 1 [eN] i s fun j s =>
 zl 1 24 h j s fun l s =>
 zbj x0 s fun m s =>
 zf 0 m s fun n s =>
 zp 1 n l s fun _ s =>
 nfl 0 x0 s fun p s =>
 zaz .sl p s fun q s =>
 z1 Z q s))
theorem zhA : F2 Tryz.prog zcK zhL := zo [] Tryz.func75 (by decide +kernel) (by kernel_rfl) fun {_ _ _ _ _} => cast (by kernel_rfl)
def zgR (P : Program) (x0 : AV) (σ : LO) (Z : ZT) : Prop :=
 zaz .sl x0 σ fun a s =>
 bP .gtr a (iN 4) s fun b s =>
 zE b (z1 Z (iN 3) s) (zbt [(iN 0)] s fun v s c =>
 zaU v fun d v => zaz .sl x0 s fun e s =>
 bP .lss d e s fun f s =>
 zE f (zF none 9 x0 d s fun g s =>
 zf 0 g s fun h s =>
 zr true 7 h s fun i s =>
 cA P zgp [i] s fun j s =>
 bP .neq j (iN 0) s fun l s =>
 zE l (z1 Z j s) (zF none 9 x0 d s fun m s =>
 zf 7 m s fun n s =>
 zr true 2 n s fun o s =>
 cA P zdq [o] s fun p s =>
 bP .neq p (iN 0) s fun q s =>
 zE q (z1 Z p s) (bP .add d (iN 1) s fun r s =>
 c [r] s))) (zbt [(iN 0)] s fun v s u =>
 zaU v fun w v => zaz .sl x0 s fun y s =>
 bP .lss w y s fun z s =>
 zE z (zbt [(iN 0)] s fun v s A =>
 zaU v fun B v => bP .lss B w s fun C s =>
 zE C (zF none 9 x0 w s fun D s =>
 zf 0 D s fun E s =>
 fl 0 E s fun F s =>
 zF none 9 x0 B s fun G s =>
 zf 0 G s fun H s =>
 fl 0 H s fun I s =>
 bP .eql F I s fun J s =>
 gTm J x0 s fun K s =>
 gTm J w s fun L s =>
 gT J (zF none 9 K L s) s fun M s =>
 gT J (zf 0 M s) s fun N s =>
 gTl J 1 N s fun O s =>
 gTm J x0 s fun Q s =>
 gTm J B s fun R s =>
 gT J (zF none 9 Q R s) s fun S s =>
 gT J (zf 0 S s) s fun T s =>
 gTl J 1 T s fun U s =>
 gT J (bP .eql O U s) s fun V s =>
 anC J V s fun W s =>
 zE W (z1 Z (iN 5) s) (bP .add B (iN 1) s fun X s =>
 A [X] s)) (bP .add w (iN 1) s fun Y s =>
 u [Y] s)) (z1 Z (iN 0) s)))
theorem zgF : F1 Tryz.prog zcZ zgR := zo [.l [3] [(2, 1), (4, 2), (11, 24)], .l [6] [(2, 1), (7, 1), (35, 39)], .l [7] [(2, 1), (41, 33)], .d [(0, 28)] []] Tryz.func76 (by decide +kernel) (by kernel_rfl) fun {_ _ _ _} => cast (by kernel_rfl)
def S_r11_may (P : Program) (x0 x1 x2 x3 : AV) (σ : LO) (Z : ZT) : Prop :=
 cA P zfH [x0] σ fun a s =>
 gTm a x1 s fun b s =>
 gT a (cA P zfH [b] s) s fun c s =>
 anC a c s fun d s =>
 gTm d x2 s fun e s =>
 gT d (cA P zfH [e] s) s fun f s =>
 anC d f s fun g s =>
 gTm g x3 s fun h s =>
 gT g (cA P zfH [h] s) s fun i s =>
 anC g i s fun j s =>
 z1 Z j s
theorem e_r11_may : F4 Tryz.prog zlx S_r11_may := zo [] Tryz.func77 (by decide +kernel) (by kernel_rfl) fun {_ _ _ _ _ _ _} => cast (by kernel_rfl)
def znN (P : Program) (x0 x1 x2 x3 : AV) (σ : LO) (Z : ZT) : Prop :=
 zP [iN 0, iN 0] σ fun a s =>
 cA P zcK [x0, x3] s fun b s =>
 bP .eql b (iN 0) s fun c s =>
 zE c (zC (zag [iN 0, iN 0] []) s fun d s =>
 zp 2 a d s fun _ s =>
 Z (zM (zao a s true 2) (zM (some (iN 6)) (some []))) s) (cA P zcM [x1, x2, b] s fun f s =>
 zc f 0 s fun g s =>
 zc f 1 s fun h s =>
 zp 2 a g s fun _ s =>
 Z (zM (zao a s true 2) (zM (some h) (some []))) s)
theorem znr : F4 Tryz.prog zjM znN := zo [] Tryz.func78 (by decide +kernel) (by kernel_rfl) fun {_ _ _ _ _ _ _} => cast (by kernel_rfl)
def zhJ (P : Program) (x0 x1 x2 x3 : AV) (σ : LO) (Z : ZT) : Prop :=
 m1 1 [(.d (.int .u8 0))] (.d (.int .u8 4)) σ fun a s =>
 cA P zfG [a, x0] s fun b s =>
 cA P zfG [b, x1] s fun c s =>
 cA P zfG [c, x2] s fun d s =>
 cA P zfG [d, x3] s fun e s =>
 z1 Z e s
theorem zhy : F4 Tryz.prog zey zhJ := zo [] Tryz.func79 (by decide +kernel) (by kernel_rfl) fun {_ _ _ _ _ _ _} => cast (by kernel_rfl)
end Go.Proofs.YtcappjcojggehaaGreat
