/- The conditions of each function, its slots as variables, and that the logic's conditions are these. Printed by program. -/
import Derived.Test.YtpgahkdjkanblaaGreatNm
import Derived.KernelRfl
set_option linter.all false
set_option maxRecDepth 100000
set_option linter.unusedVariables false
namespace Go.Proofs.YtpgahkdjkanblaaGreat
open Go.AW
def zmK (P : Program) (x0 : AV) (σ : LO) (Z : ZT) : Prop :=
 zaJ x0 σ fun a s =>
 fl 0 a s fun b s =>
 bP .lss b (iN 0) s fun c s =>
 gFl c 0 a s fun d s =>
 gF c (bP .geq d (iN 8) s) s fun e s =>
 orC c e s fun f s =>
 gFl f 1 a s fun g s =>
 gF f (bP .lss g (iN 1) s) s fun h s =>
 orC f h s fun i s =>
 gFl i 1 a s fun j s =>
 gF i (bP .gtr j (iN 9007199254740992) s) s fun l s =>
 orC i l s fun m s =>
 zh m (z1 Z (iN 80) s) (zb 2 a s fun n s =>
 zg true 5 n s fun o s =>
 cA P znh [o] s fun p s =>
 z1 Z p s)
theorem zmq : F1 Tryz.prog zfK zmK := ze [] Tryz.func128 (by decide +kernel) (by kernel_rfl) fun {_ _ _ _} => cast (by kernel_rfl)
def ziO (P : Program) (x0 : AV) (σ : LO) (Z : ZT) : Prop :=
 zaJ x0 σ fun a s =>
 fl 0 a s fun b s =>
 bP .lss b (iN 0) s fun c s =>
 gFl c 0 a s fun d s =>
 gF c (bP .geq d (iN 21) s) s fun e s =>
 orC c e s fun f s =>
 gFl f 1 a s fun g s =>
 gF f (bP .lss g (iN 1) s) s fun h s =>
 orC f h s fun i s =>
 gFl i 1 a s fun j s =>
 gF i (bP .gtr j (iN 9007199254740992) s) s fun l s =>
 orC i l s fun m s =>
 zh m (z1 Z (iN 81) s) (z1 Z (iN 0) s)
theorem ziA : F1 Tryz.prog zbF ziO := ze [] Tryz.func129 (by decide +kernel) (by kernel_rfl) fun {_ _ _ _} => cast (by kernel_rfl)
def zfv (P : Program) (x0 x1 : AV) (σ : LO) (Z : ZT) : Prop :=
 zal .sl x0 σ fun a s =>
 zai (.int .u64) a s fun b s =>
 cA P zaZ [x1, b] s fun c s =>
 zal .sl x0 s fun d s =>
 zbd [c, (iN 0)] s fun v s e =>
 zaC v fun f v => zaC v fun g v => bP .lss g d s fun h s =>
 zh h (il true 9 9 x0 g s fun i s =>
 cp [iN 0, iN 0, iN 0, (.d (.str [])), (.d (.str [])), iN 0, eN, iN 0, iN 0] 9 i s fun j s =>
 zb 0 j s fun l s =>
 zg true 7 l s fun m s =>
 cA P zfL [m] s fun n s =>
 zd n 0 s fun o s =>
 zd n 1 s fun _ s =>
 zb 7 j s fun q s =>
 zg true 2 q s fun r s =>
 cA P zda [f, o] s fun u t =>
 zw q s t ∧ (cA P zdx [u, r] t fun w s =>
 bP .add g (iN 1) s fun y s =>
 e [w, y] s)) (z1 Z f s)
theorem zdR : F2 Tryz.prog zdL zfv := ze [.l [1, 16] [(6, 3), (17, 16)], .d [(0, 2), (3, 2), (2, 1), (5, 2)] [(2, [29])]] Tryz.func130 (by decide +kernel) (by kernel_rfl) fun {_ _ _ _ _} => cast (by kernel_rfl)
def ztA (P : Program) (x0 : AV) (σ : LO) (Z : ZT) : Prop :=
 zaJ x0 σ fun a s =>
 zb 28 a s fun b s =>
 zg true 2 b s fun c s =>
 cA P zcr [c] s fun d s =>
 fl 0 a s fun e s =>
 bP .eql e (iN 1) s fun f s =>
 zh f (fl 9 a s fun g s =>
 zal .sl g s fun h s =>
 bP .neq h (iN 1) s fun i s =>
 zh i (z1 Z (iN 100) s) (fl 9 a s fun j s =>
 cA P zcE [j] s fun l s =>
 z1 Z l s)) (bP .eql e (iN 2) s fun m s =>
 zh m (zg true 30 a s fun n s =>
 fl 9 a s fun o s =>
 cA P zcE [o] s fun p t =>
 zw a s t ∧ (cA P zmg [n, p] t fun q s =>
 z1 Z q s)) ((fun (r : AV → LO → Prop) => bP .eql e (iN 3) s fun H1 s =>
 zh H1 (r H1 s) (bP .eql e (iN 4) s fun I1 s =>
 r I1 s))
 (fun u s => zh u (zg true 30 a s fun w s =>
 cA P zmg [w, (iN 0)] s fun y s =>
 z1 Z y s) (bP .eql e (iN 5) s fun z s =>
 zh z (fl 1 a s fun A s =>
 zb 2 a s fun B s =>
 zg false 1 B s fun C s =>
 zb 5 a s fun D s =>
 zg false 1 D s fun E s =>
 zb 6 a s fun F s =>
 zg false 1 F s fun G s =>
 zb 7 a s fun H s =>
 zb 0 H s fun I s =>
 zg false 1 I s fun J s =>
 zb 7 a s fun K s =>
 zb 1 K s fun L s =>
 zg false 1 L s fun M s =>
 cA P zdI [A] s fun N t =>
 zw B s t ∧ (zw D s t ∧ (zw F s t ∧ (zw I s t ∧ (zw L s t ∧ (cA P zfb [C] t fun O s =>
 zw D t s ∧ (zw F t s ∧ (zw I t s ∧ (zw L t s ∧ (cA P zid [E, (iN 0), (iN 7)] s fun Q t =>
 zw F s t ∧ (zw I s t ∧ (zw L s t ∧ (cA P zfb [G] t fun R s =>
 zw I t s ∧ (zw L t s ∧ (cA P zid [J, (iN 0), (iN 65536)] s fun S t =>
 zw L s t ∧ (cA P zfb [M] t fun T s =>
 zj false 1 7 (zO (rep [iN 0] 7) [(0, 1, N), (1, 1, O), (2, 1, Q), (3, 1, R), (4, 1, S), (5, 1, T), (6, 1, d)]) s fun U s =>
 cA P zcD [U] s fun V s =>
 z1 Z V s)))))))))))))))) (bP .eql e (iN 6) s fun W s =>
 zh W (fl 1 a s fun X s =>
 zb 3 a s fun Y s =>
 zg false 1 Y s fun a0 s =>
 zb 4 a s fun b0 s =>
 zg false 1 b0 s fun c0 s =>
 cA P zdI [X] s fun d0 t =>
 zw Y s t ∧ (zw b0 s t ∧ (cA P ziq [a0] t fun e0 s =>
 zw b0 t s ∧ (cA P ziq [c0] s fun f0 s =>
 zj false 1 4 (zO (rep [iN 0] 4) [(0, 1, d0), (1, 1, e0), (2, 1, f0), (3, 1, d)]) s fun g0 s =>
 cA P zcD [g0] s fun h0 s =>
 z1 Z h0 s)))) (bP .eql e (iN 7) s fun i0 s =>
 zh i0 (fl 13 a s fun j0 s =>
 zal .sl j0 s fun l0 s =>
 bP .neq l0 (iN 1) s fun m0 s =>
 zh m0 (z1 Z (iN 100) s) (fl 13 a s fun o0 s =>
 il true 8 8 o0 (iN 0) s fun p0 s =>
 cA P zgI [p0] s fun q0 s =>
 bP .neq q0 (iN 0) s fun r0 s =>
 zh r0 (z1 Z q0 s) (fl 1 a s fun u0 s =>
 fl 13 a s fun w0 s =>
 zD none 8 w0 (iN 0) s fun y0 s =>
 fl 1 y0 s fun z0 s =>
 bP .neq u0 z0 s fun A0 s =>
 gFl A0 2 a s fun B0 s =>
 gFl A0 13 a s fun C0 s =>
 gF A0 (zD none 8 C0 (iN 0) s) s fun D0 s =>
 gFl A0 0 D0 s fun E0 s =>
 gF A0 (bP .neq B0 E0 s) s fun F0 s =>
 orC A0 F0 s fun G0 s =>
 zh G0 (z1 Z (iN 100) s) (z1 Z (iN 0) s)))) (bP .eql e (iN 8) s fun H0 s =>
 zh H0 (zg true 30 a s fun I0 s =>
 cA P zoQ [I0] s fun J0 s =>
 z1 Z J0 s) (bP .eql e (iN 9) s fun K0 s =>
 zh K0 (fl 1 a s fun L0 s =>
 zb 3 a s fun M0 s =>
 zg false 1 M0 s fun N0 s =>
 cA P zdI [L0] s fun O0 t =>
 zw M0 s t ∧ (cA P zfb [N0] t fun Q0 s =>
 zj false 1 3 (zO (rep [iN 0] 3) [(0, 1, O0), (1, 1, Q0), (2, 1, d)]) s fun R0 s =>
 cA P zcD [R0] s fun S0 s =>
 z1 Z S0 s)) (bP .eql e (iN 10) s fun T0 s =>
 zh T0 (fl 1 a s fun U0 s =>
 zb 10 a s fun V0 s =>
 zg true 3 V0 s fun W0 s =>
 zb 15 a s fun X0 s =>
 zg false 1 X0 s fun Y0 s =>
 zal .sl Y0 s fun a1 s =>
 cA P zdI [U0] s fun b1 t =>
 zw V0 s t ∧ (zw X0 s t ∧ (cA P zfO [W0] t fun c1 s =>
 zw X0 t s ∧ (cA P zid [a1, (iN 0), (iN 262144)] s fun d1 s =>
 zj false 1 3 (zO (rep [iN 0] 3) [(0, 1, b1), (1, 1, c1), (2, 1, d1)]) s fun e1 s =>
 cA P zcD [e1] s fun f1 s =>
 z1 Z f1 s)))) (bP .eql e (iN 11) s fun g1 s =>
 zh g1 (fl 5 a s fun h1 s =>
 zb 16 a s fun i1 s =>
 zg false 1 i1 s fun j1 s =>
 zb 17 a s fun l1 s =>
 zg false 1 l1 s fun o1 s =>
 cA P zid [h1, (iN 0), (iN 7)] s fun p1 t =>
 zw i1 s t ∧ (zw l1 s t ∧ (cA P n_r10_name [j1] t fun q1 s =>
 zw l1 t s ∧ (cA P zfb [o1] s fun r1 s =>
 zj false 1 3 (zO (rep [iN 0] 3) [(0, 1, p1), (1, 1, q1), (2, 1, r1)]) s fun u1 s =>
 cA P zcD [u1] s fun w1 s =>
 z1 Z w1 s)))) (bP .eql e (iN 12) s fun y1 s =>
 zh y1 (fl 1 a s fun A1 s =>
 zb 18 a s fun B1 s =>
 zg true 10 B1 s fun C1 s =>
 cA P zdI [A1] s fun D1 t =>
 zw B1 s t ∧ (cA P zrD [C1] t fun E1 s =>
 zj false 1 2 (zO (rep [iN 0] 2) [(0, 1, D1), (1, 1, E1)]) s fun F1 s =>
 cA P zcD [F1] s fun G1 s =>
 z1 Z G1 s)) (z1 Z (iN 100) s))))))))))))
theorem zsK : F1 Tryz.prog zoh ztA := ze [.d [(0, 6)] [(3, [1])], .d [(0, 2), (3, 2), (6, 2), (9, 2), (12, 3), (16, 3), (20, 1), (2, 1), (5, 1), (8, 1), (11, 1), (15, 1), (19, 1), (21, 3)] [(2, [36, 39, 42, 46, 50]), (5, [39, 42, 46, 50]), (8, [42, 46, 50]), (11, [46, 50]), (15, [50])], .d [(0, 2), (3, 2), (6, 2), (9, 1), (2, 1), (5, 1), (8, 1), (10, 3)] [(2, [61, 64]), (5, [64])], .d [(0, 18)] [], .d [(0, 2), (3, 2), (6, 1), (2, 1), (5, 1), (7, 3)] [(2, [111])], .d [(0, 2), (3, 2), (6, 3), (2, 1), (5, 1), (9, 4)] [(2, [122, 125]), (5, [125])], .d [(0, 2), (3, 2), (6, 2), (2, 1), (5, 1), (8, 4)] [(2, [136, 139]), (5, [139])], .d [(0, 2), (3, 2), (2, 1), (5, 4)] [(2, [149])]] Tryz.func131 (by decide +kernel) (by kernel_rfl) fun {_ _ _ _} => cast (by kernel_rfl)
def zvs (P : Program) (x0 : AV) (σ : LO) (Z : ZT) : Prop :=
 zaJ x0 σ fun a s =>
 zW [iN 0, iN 0, iN 0, iN 0, iN 0, iN 0, iN 0, iN 0, iN 0, eN, iN 0, iN 0, eN, eN, eN, eN, (.d (.str [])), iN 0, (.d (.str [])), iN 0, eN, eN, iN 0, iN 0, eN, iN 0, iN 0, eN, iN 0, iN 0] s fun b s =>
 fl 0 a s fun c s =>
 zF (zO [iN 0, iN 0, iN 0, iN 0, iN 0, iN 0, iN 0, iN 0, iN 0, eN, iN 0, iN 0, eN, eN, eN, eN, (.d (.str [])), iN 0, (.d (.str [])), iN 0, eN, eN, iN 0, iN 0, eN, iN 0, iN 0, eN, iN 0, iN 0] [(0, 1, c)]) s fun d s =>
 cp [iN 0, iN 0, iN 0, iN 0, iN 0, iN 0, iN 0, iN 0, iN 0, eN, iN 0, iN 0, eN, eN, eN, eN, (.d (.str [])), iN 0, (.d (.str [])), iN 0, eN, eN, iN 0, iN 0, eN, iN 0, iN 0, eN, iN 0, iN 0] 30 d s fun e s =>
 (fun (f : LO → Prop) => fl 0 a s fun i s =>
 bP .eql i (iN 1) s fun j s =>
 zh j (fl 9 a s fun l s =>
 zb 9 e s fun m s =>
 zn 1 m l s fun _ s =>
 f s) (bP .eql i (iN 2) s fun o s =>
 zh o (fl 0 a s fun p s =>
 fl 1 a s fun q s =>
 fl 2 a s fun r s =>
 fl 3 a s fun u s =>
 fl 4 a s fun w s =>
 fl 9 a s fun y s =>
 zb 28 a s fun z s =>
 zg true 2 z s fun A s =>
 zF (zO [iN 0, iN 0, iN 0, iN 0, iN 0, iN 0, iN 0, iN 0, iN 0, eN, iN 0, iN 0, eN, eN, eN, eN, (.d (.str [])), iN 0, (.d (.str [])), iN 0, eN, eN, iN 0, iN 0, eN, iN 0, iN 0, eN, iN 0, iN 0] [(0, 1, p), (1, 1, q), (2, 1, r), (3, 1, u), (4, 1, w), (9, 1, y), (28, 2, A)]) s fun B s =>
 zn 30 e B s fun _ s =>
 f s) ((fun (D : AV → LO → Prop) => bP .eql i (iN 3) s fun r1 s =>
 zh r1 (D r1 s) (bP .eql i (iN 4) s fun u1 s =>
 D u1 s))
 (fun E s => zh E (fl 0 a s fun F s =>
 fl 1 a s fun G s =>
 fl 2 a s fun H s =>
 fl 3 a s fun I s =>
 fl 4 a s fun J s =>
 zb 28 a s fun K s =>
 zg true 2 K s fun L s =>
 zF (zO [iN 0, iN 0, iN 0, iN 0, iN 0, iN 0, iN 0, iN 0, iN 0, eN, iN 0, iN 0, eN, eN, eN, eN, (.d (.str [])), iN 0, (.d (.str [])), iN 0, eN, eN, iN 0, iN 0, eN, iN 0, iN 0, eN, iN 0, iN 0] [(0, 1, F), (1, 1, G), (2, 1, H), (3, 1, I), (4, 1, J), (28, 2, L)]) s fun M s =>
 zn 30 e M s fun _ s =>
 f s) (bP .eql i (iN 5) s fun O s =>
 zh O (fl 0 a s fun Q s =>
 fl 1 a s fun R s =>
 fl 2 a s fun S s =>
 fl 5 a s fun T s =>
 fl 6 a s fun U s =>
 zb 7 a s fun V s =>
 zg true 2 V s fun W s =>
 zb 28 a s fun X s =>
 zg true 2 X s fun Y s =>
 zF (zO [iN 0, iN 0, iN 0, iN 0, iN 0, iN 0, iN 0, iN 0, iN 0, eN, iN 0, iN 0, eN, eN, eN, eN, (.d (.str [])), iN 0, (.d (.str [])), iN 0, eN, eN, iN 0, iN 0, eN, iN 0, iN 0, eN, iN 0, iN 0] [(0, 1, Q), (1, 1, R), (2, 1, S), (5, 1, T), (6, 1, U), (7, 2, W), (28, 2, Y)]) s fun a0 s =>
 zn 30 e a0 s fun _ s =>
 f s) (bP .eql i (iN 6) s fun c0 s =>
 zh c0 (fl 0 a s fun d0 s =>
 fl 1 a s fun e0 s =>
 fl 3 a s fun f0 s =>
 fl 4 a s fun g0 s =>
 zb 28 a s fun h0 s =>
 zg true 2 h0 s fun i0 s =>
 zF (zO [iN 0, iN 0, iN 0, iN 0, iN 0, iN 0, iN 0, iN 0, iN 0, eN, iN 0, iN 0, eN, eN, eN, eN, (.d (.str [])), iN 0, (.d (.str [])), iN 0, eN, eN, iN 0, iN 0, eN, iN 0, iN 0, eN, iN 0, iN 0] [(0, 1, d0), (1, 1, e0), (3, 1, f0), (4, 1, g0), (28, 2, i0)]) s fun j0 s =>
 zn 30 e j0 s fun _ s =>
 f s) (bP .eql i (iN 7) s fun m0 s =>
 zh m0 (fl 0 a s fun o0 s =>
 fl 1 a s fun p0 s =>
 fl 2 a s fun q0 s =>
 fl 13 a s fun r0 s =>
 zF (zO [iN 0, iN 0, iN 0, iN 0, iN 0, iN 0, iN 0, iN 0, iN 0, eN, iN 0, iN 0, eN, eN, eN, eN, (.d (.str [])), iN 0, (.d (.str [])), iN 0, eN, eN, iN 0, iN 0, eN, iN 0, iN 0, eN, iN 0, iN 0] [(0, 1, o0), (1, 1, p0), (2, 1, q0), (13, 1, r0)]) s fun u0 s =>
 zn 30 e u0 s fun _ s =>
 f s) (bP .eql i (iN 8) s fun y0 s =>
 zh y0 (fl 0 a s fun z0 s =>
 fl 1 a s fun A0 s =>
 fl 2 a s fun B0 s =>
 fl 13 a s fun C0 s =>
 fl 14 a s fun D0 s =>
 zb 28 a s fun E0 s =>
 zg true 2 E0 s fun F0 s =>
 zF (zO [iN 0, iN 0, iN 0, iN 0, iN 0, iN 0, iN 0, iN 0, iN 0, eN, iN 0, iN 0, eN, eN, eN, eN, (.d (.str [])), iN 0, (.d (.str [])), iN 0, eN, eN, iN 0, iN 0, eN, iN 0, iN 0, eN, iN 0, iN 0] [(0, 1, z0), (1, 1, A0), (2, 1, B0), (13, 1, C0), (14, 1, D0), (28, 2, F0)]) s fun G0 s =>
 zn 30 e G0 s fun _ s =>
 f s) (bP .eql i (iN 9) s fun I0 s =>
 zh I0 (fl 0 a s fun J0 s =>
 fl 1 a s fun K0 s =>
 fl 3 a s fun L0 s =>
 zb 28 a s fun M0 s =>
 zg true 2 M0 s fun N0 s =>
 zF (zO [iN 0, iN 0, iN 0, iN 0, iN 0, iN 0, iN 0, iN 0, iN 0, eN, iN 0, iN 0, eN, eN, eN, eN, (.d (.str [])), iN 0, (.d (.str [])), iN 0, eN, eN, iN 0, iN 0, eN, iN 0, iN 0, eN, iN 0, iN 0] [(0, 1, J0), (1, 1, K0), (3, 1, L0), (28, 2, N0)]) s fun O0 s =>
 zn 30 e O0 s fun _ s =>
 f s) (bP .eql i (iN 10) s fun R0 s =>
 zh R0 (fl 0 a s fun S0 s =>
 fl 1 a s fun T0 s =>
 zb 10 a s fun U0 s =>
 zg true 3 U0 s fun V0 s =>
 fl 15 a s fun W0 s =>
 zF (zO [iN 0, iN 0, iN 0, iN 0, iN 0, iN 0, iN 0, iN 0, iN 0, eN, iN 0, iN 0, eN, eN, eN, eN, (.d (.str [])), iN 0, (.d (.str [])), iN 0, eN, eN, iN 0, iN 0, eN, iN 0, iN 0, eN, iN 0, iN 0] [(0, 1, S0), (1, 1, T0), (10, 3, V0), (15, 1, W0)]) s fun X0 s =>
 zn 30 e X0 s fun _ s =>
 f s) (bP .eql i (iN 11) s fun a1 s =>
 zh a1 (fl 0 a s fun b1 s =>
 fl 5 a s fun c1 s =>
 fl 16 a s fun d1 s =>
 fl 17 a s fun e1 s =>
 zF (zO [iN 0, iN 0, iN 0, iN 0, iN 0, iN 0, iN 0, iN 0, iN 0, eN, iN 0, iN 0, eN, eN, eN, eN, (.d (.str [])), iN 0, (.d (.str [])), iN 0, eN, eN, iN 0, iN 0, eN, iN 0, iN 0, eN, iN 0, iN 0] [(0, 1, b1), (5, 1, c1), (16, 1, d1), (17, 1, e1)]) s fun f1 s =>
 zn 30 e f1 s fun _ s =>
 f s) (bP .eql i (iN 12) s fun h1 s =>
 zh h1 (fl 0 a s fun i1 s =>
 fl 1 a s fun j1 s =>
 zb 18 a s fun l1 s =>
 zg true 10 l1 s fun o1 s =>
 zF (zO [iN 0, iN 0, iN 0, iN 0, iN 0, iN 0, iN 0, iN 0, iN 0, eN, iN 0, iN 0, eN, eN, eN, eN, (.d (.str [])), iN 0, (.d (.str [])), iN 0, eN, eN, iN 0, iN 0, eN, iN 0, iN 0, eN, iN 0, iN 0] [(0, 1, i1), (1, 1, j1), (18, 10, o1)]) s fun p1 s =>
 zn 30 e p1 s fun _ s =>
 f s) (f s)))))))))))))
 (fun  s => zg true 30 e s fun g s =>
 zn 30 b g s fun _ s =>
 Z (zR (zaF b s true 30) (some [])) s)
theorem zuL : F1 Tryz.prog zqo zvs := ze [] Tryz.func132 (by decide +kernel) (by kernel_rfl) fun {_ _ _ _} => cast (by kernel_rfl)
def ztF (P : Program) (x0 : AV) (σ : LO) (Z : ZT) : Prop :=
 zaJ x0 σ fun a s =>
 fl 0 a s fun b s =>
 cA P zmh [b] s fun c s =>
 bP .lss c (iN 0) s fun d s =>
 gFl d 1 a s fun e s =>
 gF d (bP .lss e (iN 1) s) s fun f s =>
 orC d f s fun g s =>
 gFl g 1 a s fun h s =>
 gF g (bP .gtr h (iN 9007199254740992) s) s fun i s =>
 orC g i s fun j s =>
 zh j (z1 Z (iN 80) s) (zb 2 a s fun l s =>
 zg true 5 l s fun m s =>
 cA P zkP [m] s fun n s =>
 z1 Z n s)
theorem zsP : F1 Tryz.prog zkN ztF := ze [] Tryz.func133 (by decide +kernel) (by kernel_rfl) fun {_ _ _ _} => cast (by kernel_rfl)
def zmS (P : Program) (x0 : AV) (σ : LO) (Z : ZT) : Prop :=
 zaJ x0 σ fun a s =>
 fl 0 a s fun b s =>
 bP .lss b (iN 0) s fun c s =>
 gFl c 0 a s fun d s =>
 gF c (bP .geq d (iN 21) s) s fun e s =>
 orC c e s fun f s =>
 gFl f 1 a s fun g s =>
 gF f (bP .lss g (iN 1) s) s fun h s =>
 orC f h s fun i s =>
 gFl i 1 a s fun j s =>
 gF i (bP .gtr j (iN 9007199254740992) s) s fun l s =>
 orC i l s fun m s =>
 zh m (z1 Z (iN 81) s) (z1 Z (iN 0) s)
theorem zmy : F1 Tryz.prog zcr zmS := ze [] Tryz.func134 (by decide +kernel) (by kernel_rfl) fun {_ _ _ _} => cast (by kernel_rfl)
def zru (P : Program) (x0 x1 : AV) (σ : LO) (Z : ZT) : Prop :=
 zG 1 1 eN x0 σ fun a s =>
 zbd [x1, a] s fun v s b =>
 zaC v fun c v => zaC v fun d v => bP .geq c (.d (.int .u64 128)) s fun e s =>
 zh e (bP .rem c (.d (.int .u64 128)) s fun f s =>
 zai (.int .u8) f s fun g s =>
 bP .add g (.d (.int .u8 128)) s fun h s =>
 m1 1 [(.d (.int .u8 0))] h s fun i s =>
 zG 1 1 d i s fun j s =>
 bP .quo c (.d (.int .u64 128)) s fun l s =>
 b [l, j] s) (zai (.int .u8) c s fun m s =>
 m1 1 [(.d (.int .u8 0))] m s fun n s =>
 zG 1 1 d n s fun o s =>
 z1 Z o s)
theorem zrj : F2 Tryz.prog zbS zru := ze [.l [1, 5] [(9, 11)]] Tryz.func135 (by decide +kernel) (by kernel_rfl) fun {_ _ _ _ _} => cast (by kernel_rfl)
def ztG (P : Program) (x0 : AV) (σ : LO) (Z : ZT) : Prop :=
 zaJ x0 σ fun a s =>
 zg true 7 a s fun b s =>
 cA P zkN [b] s fun c s =>
 bP .neq c (iN 0) s fun d s =>
 zh d (z2 Z eN c s) (fl 0 a s fun e s =>
 zai (.int .u64) e s fun f s =>
 cA P zbS [eN, f] s fun g s =>
 fl 1 a s fun h s =>
 zai (.int .u64) h s fun i s =>
 cA P zbS [g, i] s fun j s =>
 zb 2 a s fun l s =>
 zg true 5 l s fun m s =>
 cA P zso [j, m] s fun n s =>
 z2 Z n (iN 0) s)
theorem zsQ : F1 Tryz.prog zkO ztG := ze [] Tryz.func136 (by decide +kernel) (by kernel_rfl) fun {_ _ _ _} => cast (by kernel_rfl)
def zpJ (P : Program) (x0 x1 : AV) (σ : LO) (Z : ZT) : Prop :=
 zaJ x1 σ fun a s =>
 zg true 2 a s fun b s =>
 cA P zcr [b] s fun c s =>
 bP .neq c (iN 0) s fun d s =>
 zh d (z1 Z x0 s) (fl 0 a s fun e s =>
 zai (.int .u64) e s fun f s =>
 zb 1 a s fun g s =>
 zg false 1 g s fun h s =>
 zai (.int .u64) h s fun i s =>
 cA P zbS [x0, f] s fun j t =>
 zw g s t ∧ (cA P zbS [j, i] t fun l s =>
 z1 Z l s))
theorem zpi : F2 Tryz.prog zde zpJ := ze [.d [(0, 4), (5, 3), (4, 1), (8, 2)] [(4, [14])]] Tryz.func137 (by decide +kernel) (by kernel_rfl) fun {_ _ _ _ _} => cast (by kernel_rfl)
def znS (P : Program) (x0 x1 : AV) (σ : LO) (Z : ZT) : Prop :=
 zal .sl x1 σ fun a s =>
 zai (.int .u64) a s fun b s =>
 cA P zbS [x0, b] s fun c s =>
 zG 1 1 c x1 s fun d s =>
 z1 Z d s
theorem znE : F2 Tryz.prog zcK znS := ze [] Tryz.func138 (by decide +kernel) (by kernel_rfl) fun {_ _ _ _ _} => cast (by kernel_rfl)
def zrw (P : Program) (x0 : AV) (σ : LO) (Z : ZT) : Prop :=
 zaJ x0 σ fun a s =>
 fl 0 a s fun b s =>
 bP .eql b (iN 0) s fun c s =>
 gTl c 1 a s fun d s =>
 gT c (bP .eql d (iN 0) s) s fun e s =>
 anC c e s fun f s =>
 gTl f 2 a s fun g s =>
 gT f (zal .sl g s) s fun h s =>
 gT f (bP .eql h (iN 0) s) s fun i s =>
 anC f i s fun j s =>
 z1 Z j s
theorem zrl : F1 Tryz.prog zmi zrw := ze [] Tryz.func139 (by decide +kernel) (by kernel_rfl) fun {_ _ _ _} => cast (by kernel_rfl)
def zjC (P : Program) (x0 x1 x2 x3 : AV) (σ : LO) (Z : ZT) : Prop :=
 bP .geq x1 (iN 1) σ fun a s =>
 gTm a x1 s fun b s =>
 gT a (bP .leq b (iN 9007199254740992) s) s fun c s =>
 anC a c s fun d s =>
 gTm d x1 s fun e s =>
 gT d (bP .rem e (iN 4) s) s fun f s =>
 gT d (bP .eql f (iN 0) s) s fun g s =>
 anC d g s fun h s =>
 gTm h x2 s fun i s =>
 gT h (bP .geq i (iN 1) s) s fun j s =>
 anC h j s fun l s =>
 gTm l x2 s fun m s =>
 gT l (bP .leq m (iN 9007199254740992) s) s fun n s =>
 anC l n s fun o s =>
 gTm o x3 s fun p s =>
 gT o (bP .geq p (iN 0) s) s fun q s =>
 anC o q s fun r s =>
 gTm r x3 s fun u s =>
 gTm r x0 s fun w s =>
 gT r (zbP w s) s fun y s =>
 gTl r 0 y s fun z s =>
 gT r (cA P zcG [z] s) s fun A s =>
 gT r (bP .lss u A s) s fun B s =>
 anC r B s fun C s =>
 z1 Z C s
theorem zjn : F4 Tryz.prog zfQ zjC := ze [] Tryz.func140 (by decide +kernel) (by kernel_rfl) fun {_ _ _ _ _ _ _} => cast (by kernel_rfl)
def zcP (P : Program) (x0 x1 : AV) (σ : LO) (Z : ZT) : Prop :=
 zal .sl x0 σ fun a s =>
 zbd [(iN 0)] s fun v s b =>
 zaC v fun c v => bP .lss c a s fun d s =>
 zh d (il true 2 2 x0 c s fun e s =>
 zak P x1 [dm e] s fun f s =>
 zh f (z1 Z c s) (bP .add c (iN 1) s fun g s =>
 b [g] s)) (z1 Z (iN (-1)) s)
theorem zcM : F2 Tryz.prog zbL zcP := ze [.l [8] [(4, 2), (9, 10)]] Tryz.func141 (by decide +kernel) (by kernel_rfl) fun {_ _ _ _ _} => cast (by kernel_rfl)
def zhS (P : Program) (x0 x1 x2 : AV) (σ : LO) (Z : ZT) : Prop :=
 zaJ x0 σ fun a s =>
 zaJ x1 s fun b s =>
 cA P zbG [x2] s fun c s =>
 bP .eql c (iN 0) s fun d s =>
 gTm d x2 s fun e s =>
 gT d (fun k => k (.fn (.func zgh) [] [a, b]) s) s fun f s =>
 gT d (cA P zbg [e, f] s) s fun g s =>
 gT d (unC .not g s) s fun h s =>
 anC d h s fun i s =>
 z1 Z i s
theorem zhK : F3 Tryz.prog zeW zhS := ze [] Tryz.func142 (by decide +kernel) (by kernel_rfl) fun {_ _ _ _ _ _} => cast (by kernel_rfl)
def zvr (P : Program) (x0 : AV) (σ : LO) (Z : ZT) : Prop :=
 zaJ x0 σ fun a s =>
 fl 0 a s fun b s =>
 bP .eql b (iN 0) s fun c s =>
 gTl c 1 a s fun d s =>
 gT c (bP .eql d (iN 0) s) s fun e s =>
 anC c e s fun f s =>
 gTl f 2 a s fun g s =>
 gT f (zal .sl g s) s fun h s =>
 gT f (bP .eql h (iN 0) s) s fun i s =>
 anC f i s fun j s =>
 z1 Z j s
theorem zuK : F1 Tryz.prog zqn zvr := ze [] Tryz.func143 (by decide +kernel) (by kernel_rfl) fun {_ _ _ _} => cast (by kernel_rfl)
def zlB (P : Program) (x0 x1 x2 x3 : AV) (σ : LO) (Z : ZT) : Prop :=
 bP .geq x1 (iN 1) σ fun a s =>
 gTm a x1 s fun b s =>
 gT a (bP .leq b (iN 9007199254740992) s) s fun c s =>
 anC a c s fun d s =>
 gTm d x1 s fun e s =>
 gT d (bP .rem e (iN 4) s) s fun f s =>
 gT d (bP .eql f (iN 0) s) s fun g s =>
 anC d g s fun h s =>
 gTm h x2 s fun i s =>
 gT h (bP .geq i (iN 1) s) s fun j s =>
 anC h j s fun l s =>
 gTm l x2 s fun m s =>
 gT l (bP .leq m (iN 9007199254740992) s) s fun n s =>
 anC l n s fun o s =>
 gTm o x3 s fun p s =>
 gT o (bP .geq p (iN 0) s) s fun q s =>
 anC o q s fun r s =>
 gTm r x3 s fun u s =>
 gTm r x0 s fun w s =>
 gT r (zbP w s) s fun y s =>
 gTl r 0 y s fun z s =>
 gT r (cA P zeK [z] s) s fun A s =>
 gT r (bP .lss u A s) s fun B s =>
 anC r B s fun C s =>
 z1 Z C s
theorem zlj : F4 Tryz.prog zhw zlB := ze [] Tryz.func144 (by decide +kernel) (by kernel_rfl) fun {_ _ _ _ _ _ _} => cast (by kernel_rfl)
def zlD (P : Program) (x0 x1 x2 : AV) (σ : LO) (Z : ZT) : Prop :=
 cA P zcE [x2] σ fun a s =>
 bP .neq a (iN 0) s fun b s =>
 zh b (z1 Z bF s) (zbd [(iN 0)] s fun v s c =>
 zaC v fun d v => zal .sl x2 s fun e s =>
 bP .lss d e s fun f s =>
 zh f (il true 9 9 x2 d s fun g s =>
 cA P zoj [x0, x1, g] s fun h s =>
 unC .not h s fun i s =>
 zh i (z1 Z bF s) (bP .add d (iN 1) s fun j s =>
 c [j] s)) (z1 Z bT s))
theorem zll : F3 Tryz.prog zhy zlD := ze [.l [7] [(6, 1), (11, 14)]] Tryz.func145 (by decide +kernel) (by kernel_rfl) fun {_ _ _ _ _ _} => cast (by kernel_rfl)
def znV (P : Program) (σ : LO) (Z : ZT) : Prop :=
 zW [iN 0, iN 0] σ fun a s =>
 zF (zO [iN 0, iN 0] [(1, 1, (iN 1))]) s fun b s =>
 zn 2 a b s fun _ s =>
 Z (zR (zaF a s true 2) (some [])) s
theorem znH : F0 Tryz.prog zha znV := ze [] Tryz.func146 (by decide +kernel) (by kernel_rfl) fun {_ _ _} => cast (by kernel_rfl)
def zlK (P : Program) (x0 : AV) (σ : LO) (Z : ZT) : Prop :=
 zj false 1 7 (zO (rep [iN 0] 7) [(0, 1, (iN 2)), (1, 1, (iN 3)), (2, 1, (iN 4)), (3, 1, (iN 5)), (4, 1, (iN 6)), (5, 1, (iN 8)), (6, 1, (iN 9))]) σ fun a s =>
 cA P zdl [a, x0] s fun b s =>
 z1 Z b s
theorem zls : F1 Tryz.prog zcZ zlK := ze [] Tryz.func147 (by decide +kernel) (by kernel_rfl) fun {_ _ _ _} => cast (by kernel_rfl)
def zmW (P : Program) (x0 : AV) (σ : LO) (Z : ZT) : Prop :=
 zaJ x0 σ fun a s =>
 zg true 30 a s fun b s =>
 cA P zfS [b] s fun c s =>
 bP .neq c (iN 0) s fun d s =>
 zh d (z2 Z eN c s) (zF (zO [eN] []) s fun e s =>
 zaJ e s fun f s =>
 zg true 30 a s fun g s =>
 cA P zcp [f, g] s fun _ s =>
 (fun (i : LO → Prop) => fl 0 a s fun n s =>
 bP .eql n (iN 7) s fun o s =>
 zh o (fl 13 a s fun p s =>
 zD none 8 p (iN 0) s fun q s =>
 zb 6 q s fun r s =>
 zg true 2 r s fun u s =>
 cA P zbc [f, u] s fun _ s =>
 i s) (fl 0 a s fun y s =>
 cA P zcZ [y] s fun z s =>
 zh z (zb 28 a s fun A s =>
 zg true 2 A s fun B s =>
 cA P zbc [f, B] s fun _ s =>
 i s) (i s)))
 (fun  s => cA P zei [f] s fun j s =>
 zd j 0 s fun l s =>
 zd j 1 s fun m s =>
 z2 Z l m s))
theorem zmC : F1 Tryz.prog ziu zmW := ze [] Tryz.func148 (by decide +kernel) (by kernel_rfl) fun {_ _ _ _} => cast (by kernel_rfl)
def zfh (P : Program) (x0 x1 : AV) (σ : LO) (Z : ZT) : Prop :=
 zaJ x1 σ fun a s =>
 zbP x0 s fun b s =>
 zb 0 b s fun c s =>
 fl 0 a s fun d s =>
 m1 1 [iN 0] d s fun e s =>
 cA P zab [c, e] s fun _ s =>
 fl 0 a s fun g s =>
 bP .eql g (iN 1) s fun h s =>
 zh h (fl 9 a s fun i s =>
 cA P zbl [x0, i] s fun _ s =>
 Z (some []) s) ((fun (l : AV → LO → Prop) => bP .eql g (iN 2) s fun r2 s =>
 zh r2 (l r2 s) (bP .eql g (iN 3) s fun u2 s =>
 zh u2 (l u2 s) (bP .eql g (iN 4) s fun w2 s =>
 l w2 s)))
 (fun m s => zh m (zbP x0 s fun n s =>
 zb 0 n s fun o s =>
 fl 1 a s fun p s =>
 fl 2 a s fun q s =>
 fl 3 a s fun r s =>
 fl 4 a s fun u s =>
 zj false 1 4 (zO (rep [iN 0] 4) [(0, 1, p), (1, 1, q), (2, 1, r), (3, 1, u)]) s fun w s =>
 cA P zab [o, w] s fun _ s =>
 fl 0 a s fun z s =>
 bP .eql z (iN 2) s fun A s =>
 zh A (fl 9 a s fun B s =>
 cA P zbl [x0, B] s fun _ s =>
 Z (some []) s) (Z (some []) s)) (bP .eql g (iN 5) s fun D s =>
 zh D (zbP x0 s fun E s =>
 zb 0 E s fun F s =>
 fl 1 a s fun G s =>
 fl 2 a s fun H s =>
 fl 5 a s fun I s =>
 fl 6 a s fun J s =>
 zj false 1 4 (zO (rep [iN 0] 4) [(0, 1, G), (1, 1, H), (2, 1, I), (3, 1, J)]) s fun K s =>
 cA P zab [F, K] s fun _ s =>
 zbP x0 s fun M s =>
 zb 0 M s fun N s =>
 fl 0 N s fun O s =>
 zb 7 a s fun Q s =>
 zg true 2 Q s fun R s =>
 cA P ztX [O, R] s fun S s =>
 zbP x0 s fun T s =>
 zb 0 T s fun U s =>
 zb 0 U s fun V s =>
 zn 1 V S s fun _ s =>
 Z (some []) s) (bP .eql g (iN 6) s fun X s =>
 zh X (zbP x0 s fun Y s =>
 zb 0 Y s fun a0 s =>
 fl 1 a s fun b0 s =>
 fl 3 a s fun c0 s =>
 fl 4 a s fun d0 s =>
 zj false 1 3 (zO (rep [iN 0] 3) [(0, 1, b0), (1, 1, c0), (2, 1, d0)]) s fun e0 s =>
 cA P zab [a0, e0] s fun _ s =>
 Z (some []) s) (bP .eql g (iN 7) s fun g0 s =>
 zh g0 (fl 13 a s fun h0 s =>
 il true 8 8 h0 (iN 0) s fun i0 s =>
 cA P zeF [x0, i0] s fun _ s =>
 Z (some []) s) (bP .eql g (iN 8) s fun l0 s =>
 zh l0 (zbP x0 s fun m0 s =>
 zb 0 m0 s fun o0 s =>
 fl 1 a s fun p0 s =>
 fl 2 a s fun q0 s =>
 zj false 1 2 (zO (rep [iN 0] 2) [(0, 1, p0), (1, 1, q0)]) s fun r0 s =>
 cA P zab [o0, r0] s fun _ s =>
 zbP x0 s fun w0 s =>
 zb 0 w0 s fun y0 s =>
 fl 13 a s fun z0 s =>
 zal .sl z0 s fun A0 s =>
 cA P zbQ [y0, A0] s fun _ s =>
 fl 13 a s fun C0 s =>
 zal .sl C0 s fun D0 s =>
 zbd [(iN 0)] s fun v s E0 =>
 zaC v fun F0 v => bP .lss F0 D0 s fun G0 s =>
 zh G0 (il true 8 8 C0 F0 s fun H0 s =>
 cp [iN 0, iN 0, iN 0, iN 0, eN, eN, iN 0, iN 0] 8 H0 s fun I0 s =>
 zg true 8 I0 s fun J0 s =>
 cA P zkU [x0, J0] s fun _ s =>
 bP .add F0 (iN 1) s fun L0 s =>
 E0 [L0] s) (zbP x0 s fun M0 s =>
 zb 0 M0 s fun N0 s =>
 fl 14 a s fun O0 s =>
 zal .sl O0 s fun Q0 s =>
 cA P zbQ [N0, Q0] s fun _ s =>
 fl 14 a s fun S0 s =>
 zal .sl S0 s fun T0 s =>
 zbd [(iN 0)] s fun v s U0 =>
 zaC v fun V0 v => bP .lss V0 T0 s fun W0 s =>
 zh W0 (il true 5 5 S0 V0 s fun X0 s =>
 cp [iN 0, iN 0, eN, iN 0, iN 0] 5 X0 s fun Y0 s =>
 zbP x0 s fun a1 s =>
 zb 0 a1 s fun b1 s =>
 fl 0 Y0 s fun c1 s =>
 fl 1 Y0 s fun d1 s =>
 zj false 1 2 (zO (rep [iN 0] 2) [(0, 1, c1), (1, 1, d1)]) s fun e1 s =>
 cA P zab [b1, e1] s fun _ s =>
 fl 2 Y0 s fun g1 s =>
 cA P zbl [x0, g1] s fun _ s =>
 zb 3 Y0 s fun i1 s =>
 zg true 2 i1 s fun j1 s =>
 cA P zbc [x0, j1] s fun _ s =>
 bP .add V0 (iN 1) s fun o1 s =>
 U0 [o1] s) (Z (some []) s))) (bP .eql g (iN 9) s fun p1 s =>
 zh p1 (zbP x0 s fun q1 s =>
 zb 0 q1 s fun r1 s =>
 fl 1 a s fun u1 s =>
 fl 3 a s fun w1 s =>
 zj false 1 2 (zO (rep [iN 0] 2) [(0, 1, u1), (1, 1, w1)]) s fun y1 s =>
 cA P zab [r1, y1] s fun _ s =>
 Z (some []) s) (bP .eql g (iN 10) s fun B1 s =>
 zh B1 (zbP x0 s fun C1 s =>
 zb 0 C1 s fun D1 s =>
 fl 1 a s fun E1 s =>
 m1 1 [iN 0] E1 s fun F1 s =>
 cA P zab [D1, F1] s fun _ s =>
 zb 10 a s fun H1 s =>
 zg true 3 H1 s fun I1 s =>
 cA P zcs [x0, I1] s fun _ s =>
 zbP x0 s fun K1 s =>
 zb 0 K1 s fun L1 s =>
 fl 15 a s fun M1 s =>
 cA P zji [L1, M1] s fun _ s =>
 Z (some []) s) (bP .eql g (iN 11) s fun O1 s =>
 zh O1 (zbP x0 s fun Q1 s =>
 zb 0 Q1 s fun R1 s =>
 fl 5 a s fun S1 s =>
 m1 1 [iN 0] S1 s fun T1 s =>
 cA P zab [R1, T1] s fun _ s =>
 zbP x0 s fun V1 s =>
 zb 0 V1 s fun W1 s =>
 fl 16 a s fun X1 s =>
 zai .toBytes X1 s fun Y1 s =>
 cA P zji [W1, Y1] s fun _ s =>
 zbP x0 s fun b2 s =>
 zb 0 b2 s fun c2 s =>
 fl 17 a s fun d2 s =>
 m1 1 [iN 0] d2 s fun e2 s =>
 cA P zab [c2, e2] s fun _ s =>
 Z (some []) s) (bP .eql g (iN 12) s fun g2 s =>
 zh g2 (zbP x0 s fun h2 s =>
 zb 0 h2 s fun i2 s =>
 fl 1 a s fun j2 s =>
 m1 1 [iN 0] j2 s fun l2 s =>
 cA P zab [i2, l2] s fun _ s =>
 zb 18 a s fun o2 s =>
 zg true 10 o2 s fun p2 s =>
 cA P zlS [x0, p2] s fun _ s =>
 Z (some []) s) (Z (some []) s)))))))))))
theorem zfe : F2 Tryz.prog zcp zfh := ze [.d [(0, 7)] [], .d [(0, 13)] [], .d [(0, 13)] [], .d [(0, 13)] [], .d [(0, 11)] [], .d [(0, 9)] [], .d [(0, 7)] [], .l [116] [(5, 1), (117, 7)], .d [(0, 7)] [], .l [134] [(7, 1), (135, 21)], .d [(0, 9)] [], .d [(0, 9)] [], .d [(0, 7)] [], .d [(0, 6)] [], .d [(0, 7)] [], .d [(0, 7)] [], .d [(0, 7)] [], .d [(0, 7)] []] Tryz.func149 (by decide +kernel) (by kernel_rfl) fun {_ _ _ _ _} => cast (by kernel_rfl)
def znY (P : Program) (x0 x1 : AV) (σ : LO) (Z : ZT) : Prop :=
 cA P zmk [x1] σ fun a s =>
 zd a 0 s fun b s =>
 zd a 1 s fun c s =>
 cp [(.d (.int .u8 0)), (.d (.int .u8 0)), (.d (.int .u8 0)), (.d (.int .u8 0)), (.d (.int .u8 0)), (.d (.int .u8 0)), (.d (.int .u8 0)), (.d (.int .u8 0)), (.d (.int .u8 0)), (.d (.int .u8 0))] 10 b s fun d s =>
 zcX (.arr 10 1) d none (some c) none s fun e s =>
 cA P zdK [x0] s fun f s =>
 zG 1 1 f e s fun g s =>
 z1 Z g s
theorem znK : F2 Tryz.prog zaZ znY := ze [.d [(0, 1), (2, 2), (1, 1), (4, 2)] []] Tryz.func150 (by decide +kernel) (by kernel_rfl) fun {_ _ _ _ _} => cast (by kernel_rfl)
def S_r11_num (P : Program) (x0 : AV) (σ : LO) (Z : ZT) : Prop :=
 bP .geq x0 (iN 0) σ fun a s =>
 gTm a x0 s fun b s =>
 gT a (bP .leq b (iN 9007199254740992) s) s fun c s =>
 anC a c s fun d s =>
 z1 Z d s
theorem e_r11_num : F1 Tryz.prog zjY S_r11_num := ze [] Tryz.func157 (by decide +kernel) (by kernel_rfl) fun {_ _ _ _} => cast (by kernel_rfl)
def ztD (P : Program) (x0 : AV) (σ : LO) (Z : ZT) : Prop :=
 zaJ x0 σ fun a s =>
 zg true 30 a s fun b s =>
 cA P zkM [b] s fun c s =>
 bP .neq c (iN 0) s fun d s =>
 zh d (z2 Z eN c s) (zg true 30 a s fun e s =>
 cA P znf [e] s fun f s =>
 zd f 0 s fun g s =>
 zd f 1 s fun h s =>
 (fun (i : AV → LO → Prop) => fl 0 a s fun o s =>
 bP .eql o (iN 7) s fun p s =>
 zh p (fl 13 a s fun q s =>
 zD none 8 q (iN 0) s fun r s =>
 zb 6 r s fun u s =>
 zg true 2 u s fun w s =>
 cA P zde [g, w] s fun y s =>
 i y s) (zh h (zb 28 a s fun z s =>
 zg true 2 z s fun A s =>
 cA P zde [g, A] s fun B s =>
 i B s) (i g s)))
 (fun j s => cA P zog [j, (iN 0)] s fun l s =>
 zd l 0 s fun m s =>
 zd l 1 s fun n s =>
 z2 Z m n s))
theorem zsN : F1 Tryz.prog zoi ztD := ze [] Tryz.func159 (by decide +kernel) (by kernel_rfl) fun {_ _ _ _} => cast (by kernel_rfl)
def zvt (P : Program) (x0 : AV) (σ : LO) (Z : ZT) : Prop :=
 zaJ x0 σ fun a s =>
 fl 0 a s fun b s =>
 m1 1 [iN 0] b s fun c s =>
 cA P zbR [eN, c] s fun d s =>
 fl 0 a s fun e s =>
 bP .eql e (iN 1) s fun f s =>
 zh f (fl 9 a s fun g s =>
 cA P zdm [d, g] s fun h s =>
 z2 Z h bF s) (bP .eql e (iN 2) s fun i s =>
 zh i (fl 1 a s fun j s =>
 fl 2 a s fun l s =>
 fl 3 a s fun m s =>
 fl 4 a s fun n s =>
 zj false 1 4 (zO (rep [iN 0] 4) [(0, 1, j), (1, 1, l), (2, 1, m), (3, 1, n)]) s fun o s =>
 zb 9 a s fun p s =>
 zg false 1 p s fun q s =>
 cA P zbR [d, o] s fun r t =>
 zw p s t ∧ (cA P zdm [r, q] t fun u s =>
 z2 Z u bT s)) ((fun (w : AV → LO → Prop) => bP .eql e (iN 3) s fun N1 s =>
 zh N1 (w N1 s) (bP .eql e (iN 4) s fun O1 s =>
 w O1 s))
 (fun y s => zh y (fl 1 a s fun z s =>
 fl 2 a s fun A s =>
 fl 3 a s fun B s =>
 fl 4 a s fun C s =>
 zj false 1 4 (zO (rep [iN 0] 4) [(0, 1, z), (1, 1, A), (2, 1, B), (3, 1, C)]) s fun D s =>
 cA P zbR [d, D] s fun E s =>
 z2 Z E bT s) (bP .eql e (iN 5) s fun F s =>
 zh F (fl 1 a s fun G s =>
 fl 2 a s fun H s =>
 fl 5 a s fun I s =>
 fl 6 a s fun J s =>
 zj false 1 4 (zO (rep [iN 0] 4) [(0, 1, G), (1, 1, H), (2, 1, I), (3, 1, J)]) s fun K s =>
 zb 7 a s fun L s =>
 zg true 2 L s fun M s =>
 cA P zbR [d, K] s fun N t =>
 zw L s t ∧ (cA P zsn [N, M] t fun O s =>
 z2 Z O bT s)) (bP .eql e (iN 6) s fun Q s =>
 zh Q (fl 1 a s fun R s =>
 fl 3 a s fun S s =>
 fl 4 a s fun T s =>
 zj false 1 3 (zO (rep [iN 0] 3) [(0, 1, R), (1, 1, S), (2, 1, T)]) s fun U s =>
 cA P zbR [d, U] s fun V s =>
 z2 Z V bT s) (bP .eql e (iN 7) s fun W s =>
 zh W (fl 13 a s fun X s =>
 il true 8 8 X (iN 0) s fun Y s =>
 cA P zkL [d, Y] s fun a0 s =>
 z2 Z a0 bT s) (bP .eql e (iN 8) s fun b0 s =>
 zh b0 (fl 1 a s fun c0 s =>
 fl 2 a s fun d0 s =>
 fl 13 a s fun e0 s =>
 zal .sl e0 s fun f0 s =>
 zj false 1 3 (zO (rep [iN 0] 3) [(0, 1, c0), (1, 1, d0), (2, 1, f0)]) s fun g0 s =>
 cA P zbR [d, g0] s fun h0 s =>
 zbd [h0, (iN 0)] s fun v s i0 =>
 zaC v fun j0 v => zaC v fun l0 v => fl 13 a s fun m0 s =>
 zal .sl m0 s fun o0 s =>
 bP .lss l0 o0 s fun p0 s =>
 zh p0 (fl 13 a s fun q0 s =>
 il true 8 8 q0 l0 s fun r0 s =>
 cA P zsm [j0, r0] s fun u0 s =>
 bP .add l0 (iN 1) s fun w0 s =>
 i0 [u0, w0] s) (fl 14 a s fun y0 s =>
 zal .sl y0 s fun z0 s =>
 m1 1 [iN 0] z0 s fun A0 s =>
 cA P zbR [j0, A0] s fun B0 s =>
 zbd [B0, (iN 0)] s fun v s C0 =>
 zaC v fun D0 v => zaC v fun E0 v => fl 14 a s fun F0 s =>
 zal .sl F0 s fun G0 s =>
 bP .lss E0 G0 s fun H0 s =>
 zh H0 (fl 14 a s fun I0 s =>
 il true 5 5 I0 E0 s fun J0 s =>
 cp [iN 0, iN 0, eN, iN 0, iN 0] 5 J0 s fun K0 s =>
 fl 0 K0 s fun L0 s =>
 fl 1 K0 s fun M0 s =>
 zj false 1 2 (zO (rep [iN 0] 2) [(0, 1, L0), (1, 1, M0)]) s fun N0 s =>
 zb 2 K0 s fun O0 s =>
 zg false 1 O0 s fun Q0 s =>
 zb 3 K0 s fun R0 s =>
 zg true 2 R0 s fun S0 s =>
 cA P zbR [D0, N0] s fun T0 t =>
 zw O0 s t ∧ (zw R0 s t ∧ (cA P zdm [T0, Q0] t fun U0 s =>
 zw R0 t s ∧ (cA P zde [U0, S0] s fun V0 s =>
 bP .add E0 (iN 1) s fun W0 s =>
 C0 [V0, W0] s)))) (z2 Z D0 bT s))) (bP .eql e (iN 9) s fun X0 s =>
 zh X0 (fl 1 a s fun Y0 s =>
 fl 3 a s fun a1 s =>
 zj false 1 2 (zO (rep [iN 0] 2) [(0, 1, Y0), (1, 1, a1)]) s fun b1 s =>
 cA P zbR [d, b1] s fun c1 s =>
 z2 Z c1 bT s) (bP .eql e (iN 10) s fun d1 s =>
 zh d1 (fl 1 a s fun e1 s =>
 m1 1 [iN 0] e1 s fun f1 s =>
 zb 10 a s fun g1 s =>
 zg true 3 g1 s fun h1 s =>
 zb 15 a s fun i1 s =>
 zg false 1 i1 s fun j1 s =>
 cA P zbR [d, f1] s fun l1 t =>
 zw g1 s t ∧ (zw i1 s t ∧ (cA P zic [l1, h1] t fun o1 s =>
 zw i1 t s ∧ (cA P zcK [o1, j1] s fun p1 s =>
 z2 Z p1 bF s)))) (bP .eql e (iN 11) s fun q1 s =>
 zh q1 (fl 5 a s fun r1 s =>
 m1 1 [iN 0] r1 s fun u1 s =>
 zb 16 a s fun w1 s =>
 zg false 1 w1 s fun y1 s =>
 zai .toBytes y1 s fun A1 s =>
 zb 17 a s fun B1 s =>
 zg false 1 B1 s fun C1 s =>
 m1 1 [iN 0] C1 s fun D1 s =>
 cA P zbR [d, u1] s fun E1 t =>
 zw w1 s t ∧ (zw B1 s t ∧ (cA P zcK [E1, A1] t fun F1 s =>
 zw B1 t s ∧ (cA P zbR [F1, D1] s fun G1 s =>
 z2 Z G1 bF s)))) (fl 1 a s fun H1 s =>
 m1 1 [iN 0] H1 s fun I1 s =>
 zb 18 a s fun J1 s =>
 zg true 10 J1 s fun K1 s =>
 cA P zbR [d, I1] s fun L1 t =>
 zw J1 s t ∧ (cA P ztW [L1, K1] t fun M1 s =>
 z2 Z M1 bF s))))))))))))
theorem zuM : F1 Tryz.prog znf zvt := ze [.d [(0, 10), (11, 2), (10, 1), (13, 3)] [(10, [33])], .d [(0, 10), (11, 2), (10, 1), (13, 3)] [(10, [63])], .l [4, 5] [(97, 14)], .l [4, 6] [(7, 1), (117, 25)], .d [(0, 6), (7, 2), (10, 2), (6, 1), (9, 1), (12, 2)] [(6, [136, 139]), (9, [139])], .d [(0, 4), (5, 2), (8, 2), (4, 1), (7, 1), (10, 3)] [(4, [159, 162]), (7, [162])], .d [(0, 4), (5, 3), (9, 3), (4, 1), (8, 1), (12, 3)] [(4, [172, 176]), (8, [176])], .d [(0, 4), (5, 2), (4, 1), (7, 3)] [(4, [185])]] Tryz.func160 (by decide +kernel) (by kernel_rfl) fun {_ _ _ _} => cast (by kernel_rfl)
def zjF (P : Program) (x0 x1 x2 x3 : AV) (σ : LO) (Z : ZT) : Prop :=
 bP .lss x1 x2 σ fun a s =>
 gFm a x1 s fun b s =>
 gFm a x3 s fun c s =>
 gF a (bP .gtr b c s) s fun d s =>
 orC a d s fun e s =>
 zh e (cA P zT [x0, (iN 100)] s fun _ s =>
 Z (some []) s) (Z (some []) s)
theorem zjq : F4 Tryz.prog zaz zjF := ze [] Tryz.func161 (by decide +kernel) (by kernel_rfl) fun {_ _ _ _ _ _ _} => cast (by kernel_rfl)
def zhW (P : Program) (x0 x1 : AV) (σ : LO) (Z : ZT) : Prop :=
 nfl 0 x0 σ fun a s =>
 bP .eql a (iN 0) s fun b s =>
 zh b (zbP x0 s fun c s =>
 zb 0 c s fun d s =>
 zn 1 d x1 s fun _ s =>
 Z (some []) s) (Z (some []) s)
theorem zhO : F2 Tryz.prog zT zhW := ze [] Tryz.func162 (by decide +kernel) (by kernel_rfl) fun {_ _ _ _ _} => cast (by kernel_rfl)
def zgB (P : Program) (x0 x1 : AV) (σ : LO) (Z : ZT) : Prop :=
 cA P zaz [x0, x1, (iN 0), (iN 12)] σ fun _ s =>
 Z (some []) s
theorem zgr : F2 Tryz.prog zaH zgB := ze [] Tryz.func164 (by decide +kernel) (by kernel_rfl) fun {_ _ _ _ _} => cast (by kernel_rfl)
def ziV (P : Program) (x0 x1 : AV) (σ : LO) (Z : ZT) : Prop :=
 cA P zaz [x0, x1, (iN 0), (iN 9007199254740992)] σ fun _ s =>
 Z (some []) s
theorem ziH : F2 Tryz.prog zaA ziV := ze [] Tryz.func165 (by decide +kernel) (by kernel_rfl) fun {_ _ _ _ _} => cast (by kernel_rfl)
def ziU (P : Program) (x0 x1 : AV) (σ : LO) (Z : ZT) : Prop :=
 cA P zaz [x0, x1, (iN 1), (iN 9007199254740992)] σ fun _ s =>
 Z (some []) s
theorem ziG : F2 Tryz.prog zbf ziU := ze [] Tryz.func166 (by decide +kernel) (by kernel_rfl) fun {_ _ _ _ _} => cast (by kernel_rfl)
def zgA (P : Program) (x0 x1 : AV) (σ : LO) (Z : ZT) : Prop :=
 zaJ x1 σ fun a s =>
 fl 0 a s fun b s =>
 cA P zbf [x0, b] s fun _ s =>
 fl 1 a s fun d s =>
 cA P zaH [x0, d] s fun _ s =>
 zb 2 a s fun f s =>
 zg true 3 f s fun g s =>
 cA P zcb [x0, g] s fun _ s =>
 fl 5 a s fun i s =>
 zal .sl i s fun j s =>
 cA P zbH [x0, j, (iN 8)] s fun _ s =>
 fl 5 a s fun m s =>
 zal .sl m s fun n s =>
 zbd [(iN 0)] s fun v s o =>
 zaC v fun p v => bP .lss p n s fun q s =>
 zh q (il true 7 7 m p s fun r s =>
 cp [iN 0, iN 0, iN 0, iN 0, iN 0, eN, eN] 7 r s fun u s =>
 zg true 7 u s fun w s =>
 cA P zdz [x0, w] s fun _ s =>
 bP .add p (iN 1) s fun z s =>
 o [z] s) (zb 6 a s fun A s =>
 zg true 2 A s fun B s =>
 cA P zbF [B] s fun C s =>
 cA P zT [x0, C] s fun _ s =>
 Z (some []) s)
theorem zgq : F2 Tryz.prog zej zgA := ze [.l [26] [(5, 1), (27, 7)]] Tryz.func167 (by decide +kernel) (by kernel_rfl) fun {_ _ _ _ _} => cast (by kernel_rfl)
def zhY (P : Program) (x0 x1 : AV) (σ : LO) (Z : ZT) : Prop :=
 zaJ x1 σ fun a s =>
 fl 0 a s fun b s =>
 cA P zaA [x0, b] s fun _ s =>
 fl 1 a s fun d s =>
 cA P zaA [x0, d] s fun _ s =>
 (fun (f : LO → Prop) => fl 0 a s fun i s =>
 bP .eql i (iN 0) s fun j s =>
 fl 1 a s fun l s =>
 bP .eql l (iN 0) s fun m s =>
 zcv .neq .bool j m s fun n s =>
 gFl n 0 a s fun o s =>
 gF n (bP .eql o (iN 0) s) s fun p s =>
 gFm n p s fun q s =>
 gTl q 2 a s fun r s =>
 gT q (zal .sl r s) s fun u s =>
 gT q (bP .gtr u (iN 0) s) s fun w s =>
 gF n (anC q w s) s fun y s =>
 orC n y s fun z s =>
 zh z (cA P zT [x0, (iN 100)] s fun _ s =>
 f s) (f s))
 (fun  s => fl 2 a s fun g s =>
 cA P zaO [x0, g] s fun _ s =>
 Z (some []) s)
theorem zhQ : F2 Tryz.prog zcb zhY := ze [] Tryz.func169 (by decide +kernel) (by kernel_rfl) fun {_ _ _ _ _} => cast (by kernel_rfl)
def zhX (P : Program) (x0 x1 x2 : AV) (σ : LO) (Z : ZT) : Prop :=
 cA P zaz [x0, x1, (iN 0), x2] σ fun _ s =>
 Z (some []) s
theorem zhP : F3 Tryz.prog zbH zhX := ze [] Tryz.func170 (by decide +kernel) (by kernel_rfl) fun {_ _ _ _ _ _} => cast (by kernel_rfl)
def zlL (P : Program) (x0 : AV) (σ : LO) (Z : ZT) : Prop :=
 zaJ x0 σ fun a s =>
 zW [iN 0, iN 0, iN 0, iN 0, iN 0, iN 0, iN 0, iN 0, iN 0, iN 0, (.d (.str [])), iN 0, iN 0] s fun b s =>
 fl 0 a s fun c s =>
 fl 1 a s fun d s =>
 fl 5 a s fun e s =>
 fl 2 a s fun f s =>
 fl 3 a s fun g s =>
 fl 6 a s fun h s =>
 fl 17 a s fun i s =>
 fl 4 a s fun j s =>
 zb 7 a s fun l s =>
 zg true 2 l s fun m s =>
 fl 16 a s fun n s =>
 zb 28 a s fun o s =>
 zg true 2 o s fun p s =>
 zF (zO [iN 0, iN 0, iN 0, iN 0, iN 0, iN 0, iN 0, iN 0, iN 0, iN 0, (.d (.str [])), iN 0, iN 0] [(0, 1, c), (1, 1, d), (2, 1, e), (3, 1, f), (4, 1, g), (5, 1, h), (6, 1, i), (7, 1, j), (8, 2, m), (10, 1, n), (11, 2, p)]) s fun q s =>
 zn 13 b q s fun _ s =>
 Z (zR (zaF b s true 13) (some [])) s
theorem zlt : F1 Tryz.prog zfl zlL := ze [] Tryz.func173 (by decide +kernel) (by kernel_rfl) fun {_ _ _ _} => cast (by kernel_rfl)
def zjE (P : Program) (x0 x1 : AV) (σ : LO) (Z : ZT) : Prop :=
 zaJ x0 σ fun a s =>
 zaJ x1 s fun b s =>
 fl 0 a s fun c s =>
 fl 0 b s fun d s =>
 bP .eql c d s fun e s =>
 gTl e 1 a s fun f s =>
 gTl e 1 b s fun g s =>
 gT e (bP .eql f g s) s fun h s =>
 anC e h s fun i s =>
 gTl i 2 a s fun j s =>
 gTl i 2 b s fun l s =>
 gT i (cA P zbC [j, l] s) s fun m s =>
 anC i m s fun n s =>
 z1 Z n s
theorem zjp : F2 Tryz.prog zdf zjE := ze [] Tryz.func174 (by decide +kernel) (by kernel_rfl) fun {_ _ _ _ _} => cast (by kernel_rfl)
def zaU (P : Program) (x0 x1 x2 : AV) (σ : LO) (Z : ZT) : Prop :=
 zal .sl x0 σ fun a s =>
 zal .sl x1 s fun b s =>
 bP .neq a b s fun c s =>
 zh c (z1 Z bF s) (zal .sl x0 s fun d s =>
 zbd [(iN 0)] s fun v s e =>
 zaC v fun f v => bP .lss f d s fun g s =>
 zh g (il true 8 8 x0 f s fun h s =>
 zW [iN 0, iN 0, iN 0, iN 0, eN, eN, iN 0, iN 0] s fun i s =>
 zn 8 i h s fun _ s =>
 il true 8 8 x1 f s fun l s =>
 cp [iN 0, iN 0, iN 0, iN 0, eN, eN, iN 0, iN 0] 8 l s fun m s =>
 zg true 8 i s fun n s =>
 zg true 8 m s fun o s =>
 zak P x2 [dm n, dm o] s fun p s =>
 unC .not p s fun q s =>
 zh q (z1 Z bF s) (bP .add f (iN 1) s fun r s =>
 e [r] s)) (z1 Z bT s))
theorem zaS : F3 Tryz.prog zar zaU := ze [.l [17] [(6, 4), (18, 14)]] Tryz.func175 (by decide +kernel) (by kernel_rfl) fun {_ _ _ _ _ _} => cast (by kernel_rfl)
def zhV (P : Program) (x0 x1 : AV) (σ : LO) (Z : ZT) : Prop :=
 zaJ x0 σ fun a s =>
 zaJ x1 s fun b s =>
 fl 0 a s fun c s =>
 fl 0 b s fun d s =>
 bP .eql c d s fun e s =>
 gTl e 1 a s fun f s =>
 gTl e 1 b s fun g s =>
 gT e (bP .eql f g s) s fun h s =>
 anC e h s fun i s =>
 gT i (zb 2 a s) s fun j s =>
 gT i (zg true 3 j s) s fun l s =>
 gT i (zb 2 b s) s fun m s =>
 gT i (zg true 3 m s) s fun n s =>
 gT i (cA P zdf [l, n] s) s fun o s =>
 anC i o s fun p s =>
 gTl p 5 a s fun q s =>
 gTl p 5 b s fun r s =>
 gT p (cA P zah [q, r, (.fn (.func zcW) [] [])] s) s fun u s =>
 anC p u s fun w s =>
 gT w (zb 6 a s) s fun y s =>
 gT w (zg true 2 y s) s fun z s =>
 gT w (zb 6 b s) s fun A s =>
 gT w (zg true 2 A s) s fun B s =>
 gT w (zcv .eql (.ints 2) z B s) s fun C s =>
 anC w C s fun D s =>
 z1 Z D s
theorem zhN : F2 Tryz.prog zdv zhV := ze [] Tryz.func176 (by decide +kernel) (by kernel_rfl) fun {_ _ _ _ _} => cast (by kernel_rfl)
def zbb (P : Program) (x0 x1 x2 : AV) (σ : LO) (Z : ZT) : Prop :=
 zal .sl x0 σ fun a s =>
 zal .sl x1 s fun b s =>
 bP .neq a b s fun c s =>
 zh c (z1 Z bF s) (zal .sl x0 s fun d s =>
 zbd [(iN 0)] s fun v s e =>
 zaC v fun f v => bP .lss f d s fun g s =>
 zh g (il true 5 5 x0 f s fun h s =>
 zW [iN 0, iN 0, eN, iN 0, iN 0] s fun i s =>
 zn 5 i h s fun _ s =>
 il true 5 5 x1 f s fun l s =>
 cp [iN 0, iN 0, eN, iN 0, iN 0] 5 l s fun m s =>
 zg true 5 i s fun n s =>
 zg true 5 m s fun o s =>
 zak P x2 [dm n, dm o] s fun p s =>
 unC .not p s fun q s =>
 zh q (z1 Z bF s) (bP .add f (iN 1) s fun r s =>
 e [r] s)) (z1 Z bT s))
theorem zba : F3 Tryz.prog zaw zbb := ze [.l [17] [(6, 4), (18, 14)]] Tryz.func177 (by decide +kernel) (by kernel_rfl) fun {_ _ _ _ _ _} => cast (by kernel_rfl)
end Go.Proofs.YtpgahkdjkanblaaGreat
