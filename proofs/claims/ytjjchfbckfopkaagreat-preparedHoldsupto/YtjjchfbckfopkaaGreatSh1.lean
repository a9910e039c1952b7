/- The conditions of each function, its slots as variables, and that the logic's conditions are these. Printed by program. -/
import Derived.Test.YtjjchfbckfopkaaGreatNm
import Derived.KernelRfl
set_option linter.all false
set_option maxRecDepth 100000
set_option linter.unusedVariables false
namespace Go.Proofs.YtjjchfbckfopkaaGreat
open Go.AW
def zfI (P : Program) (x0 x1 : AV) (σ : LO) (Z : ZT) : Prop :=
 cA P zkU [] σ fun a s =>
 unC .not a s fun b s =>
 zr b (z1 Z bF s) (cA P zcy [] s fun c s =>
 zB (zag [eN] []) s fun d s =>
 zbr d s fun e s =>
 zaD .sl x0 s fun f s =>
 zbx [c, (iN 0)] s fun v s g =>
 zaR v fun h v => zaR v fun i v => bP .lss i f s fun j s =>
 zr j ((fun (l : AV → LO → Prop) => il true 10 10 x0 i s fun o s =>
 cp zl0 10 o s fun p s =>
 (fun (q : LO → Prop) => fl 7 p s fun j0 s =>
 zr j0 (fl 8 p s fun l0 s =>
 cA P zbP [h, l0] s fun _ s =>
 fl 8 p s fun o0 s =>
 cA P zeP [e, o0] s fun _ s =>
 q s) (zg 0 p s fun q0 s =>
 zl true 7 q0 s fun r0 s =>
 zg 0 p s fun u0 s =>
 zl true 7 u0 s fun w0 s =>
 cA P zbs [h, r0] s fun y0 t =>
 zT u0 s t ∧ (cA P zge [e, w0] t fun z0 s =>
 zci .neq .bool y0 z0 s fun A0 s =>
 zr A0 (z1 Z bF s) (q s))))
 (fun  s => cA P zdr [h, x1] s fun r s =>
 zc r 0 s fun u s =>
 zc r 1 s fun w s =>
 cp zl1 7 u s fun y s =>
 cA P zgf [e, x1] s fun z s =>
 zc z 0 s fun A s =>
 zc z 1 s fun B s =>
 cp zl1 7 A s fun C s =>
 zl true 7 y s fun D s =>
 zl true 7 C s fun E s =>
 cA P zdG [D, E] s fun F s =>
 unC .not F s fun G s =>
 gFm G w s fun H s =>
 gFm G B s fun I s =>
 gF G (zci .neq .bool H I s) s fun J s =>
 orC G J s fun K s =>
 gFm K h s fun L s =>
 gFm K e s fun M s =>
 gF K (zbz M s) s fun N s =>
 gF K (zg 0 N s) s fun O s =>
 gF K (zl false 1 O s) s fun Q s =>
 gF K (cA P zhJ [L] s) s fun R t =>
 zT O s t ∧ (gF K (cA P zff [R, Q] t) t fun S s =>
 gF K (unC .not S s) s fun T s =>
 orC K T s fun U s =>
 gFm U h s fun V s =>
 gFm U e s fun W s =>
 gF U (zbz W s) s fun X s =>
 gF U (zg 0 X s) s fun Y s =>
 gF U (zl false 1 Y s) s fun a0 s =>
 gF U (zaD .sl a0 s) s fun b0 s =>
 gF U (cA P zcn [V] s) s fun c0 t =>
 zT Y s t ∧ (gF U (bP .neq c0 b0 t) t fun d0 s =>
 orC U d0 s fun e0 s =>
 zr e0 (z1 Z bF s) (fl 9 p s fun f0 s =>
 zr f0 (cA P zcJ [h] s fun g0 s =>
 zci .eql .ptr g0 (.d .nilp) s fun h0 s =>
 zr h0 (z1 Z bF s) (cA P zbP [h, (iN 9007199254740992)] s fun _ s =>
 l g0 s)) (l h s))))))
 (fun m s => bP .add i (iN 1) s fun n s =>
 g [m, n] s)) (cA P zhJ [h] s fun B0 s =>
 cA P zfs [B0] s fun C0 s =>
 zc C0 0 s fun D0 s =>
 zc C0 1 s fun E0 s =>
 bP .eql E0 (iN 0) s fun F0 s =>
 gTm F0 D0 s fun G0 s =>
 gT F0 (zci .neq .ptr G0 (.d .nilp) s) s fun H0 s =>
 anC F0 H0 s fun I0 s =>
 gTm I0 D0 s fun J0 s =>
 gTm I0 e s fun K0 s =>
 gT I0 (zbz K0 s) s fun L0 s =>
 gT I0 (zg 0 L0 s) s fun M0 s =>
 gT I0 (zl false 1 M0 s) s fun N0 s =>
 gT I0 (cA P zhJ [J0] s) s fun O0 t =>
 zT M0 s t ∧ (gT I0 (cA P zff [O0, N0] t) t fun Q0 s =>
 anC I0 Q0 s fun R0 s =>
 z1 Z R0 s)))
theorem zjw : F2 Tryz.prog zdt zfI := zh [.l [5, 23] [(4, 1), (8, 6), (24, 73)], .d [(0, 3), (4, 3), (3, 1), (7, 2)] [(3, [42])], .d [(0, 11), (12, 4), (11, 1), (16, 5), (22, 5), (21, 1), (27, 2)] [(11, [72]), (21, [82])], .d [(0, 8), (9, 4), (8, 1), (13, 3)] [(8, [114])]] Tryz.func5
def zpj (P : Program) (σ : LO) (Z : ZT) : Prop :=
 zB (zag [iN 0, iN 0, iN 0, iN 0, (.d (.int .u8 0))] [(0, 1, (iN 0)), (1, 1, (iN 2)), (3, 1, (iN 1))]) σ fun a s =>
 zB (zag [iN 0, iN 0, iN 0, iN 0, (.d (.int .u8 0))] [(0, 1, (iN 1)), (1, 1, (iN 3)), (3, 1, (iN 1))]) s fun b s =>
 zB (zag [iN 0, iN 0, iN 0, iN 0, (.d (.int .u8 0))] [(0, 1, (iN 3)), (1, 1, (iN 3)), (3, 1, (iN 1))]) s fun c s =>
 zn false 5 3 (zag (rep [iN 0, iN 0, iN 0, iN 0, (.d (.int .u8 0))] 3) [(0, 5, a), (5, 5, b), (10, 5, c)]) s fun d s =>
 zB (zag [iN 0, eN, eN, eN, iN 0, iN 0] [(0, 1, (iN 1)), (2, 1, d)]) s fun e s =>
 cp [iN 0, eN, eN, eN, iN 0, iN 0] 6 e s fun f s =>
 zl true 6 f s fun g s =>
 cA P zeS [g] s fun h s =>
 zn false 1 2 (zag (rep [(.d (.int .u8 0))] 2) [(0, 1, (.d (.int .u8 2))), (1, 1, (.d (.int .u8 3)))]) s fun i s =>
 zB (zag [iN 0, iN 0, (.d (.int .u8 0)), iN 0, (.d (.int .u8 0)), eN] [(1, 1, (iN 1)), (4, 1, (.d (.int .u8 1))), (5, 1, i)]) s fun j s =>
 cA P zdl [h, j] s fun l s =>
 cp zl1 7 l s fun m s =>
 m1 1 [(.d (.int .u8 0))] (.d (.int .u8 2)) s fun n s =>
 zB (zag [iN 0, iN 0, (.d (.int .u8 0)), iN 0, (.d (.int .u8 0)), eN] [(1, 1, (iN 1)), (4, 1, (.d (.int .u8 1))), (5, 1, n)]) s fun o s =>
 cA P zdl [h, o] s fun p s =>
 cp zl1 7 p s fun q s =>
 cA P zcy [] s fun r s =>
 nfl 0 h s fun u s =>
 nfl 1 h s fun w s =>
 zl true 7 m s fun y s =>
 cA P zdk [u, w, (iN 1), y] s fun z s =>
 gTm z h s fun A s =>
 gT z (zbz A s) s fun B s =>
 gTl z 0 B s fun C s =>
 gTm z h s fun D s =>
 gT z (zbz D s) s fun E s =>
 gTl z 1 E s fun F s =>
 gT z (zl true 7 q s) s fun G s =>
 gT z (cA P zdk [C, F, (iN 1), G] s) s fun H s =>
 gT z (unC .not H s) s fun I s =>
 anC z I s fun J s =>
 gTm J r s fun K s =>
 gT J (zci .neq .ptr K (.d .nilp) s) s fun L s =>
 anC J L s fun M s =>
 gTm M r s fun N s =>
 gT M (zl true 7 m s) s fun O s =>
 gT M (cA P zbs [N, O] s) s fun Q s =>
 anC M Q s fun R s =>
 gTm R r s fun S s =>
 gT R (zl true 7 m s) s fun T s =>
 gT R (cA P zbs [S, T] s) s fun U s =>
 gT R (unC .not U s) s fun V s =>
 anC R V s fun W s =>
 gTm W r s fun X s =>
 gT W (cA P zcn [X] s) s fun Y s =>
 gT W (bP .eql Y (iN 1) s) s fun a0 s =>
 anC W a0 s fun b0 s =>
 z1 Z b0 s
theorem e_l15_live : F0 Tryz.prog zkU zpj := zh [.d [(0, 44)] []] Tryz.func6
def zfG (P : Program) (x0 x1 : AV) (σ : LO) (Z : ZT) : Prop :=
 zU zl1 σ fun a s =>
 cA P zaG [x0] s fun b s =>
 zr b (zB (zag zl1 []) s fun c s =>
 zo 7 a c s fun _ s =>
 Z (zM (zau a s true 7) (zM (some bF) (some []))) s) (nfl 0 x0 s fun e s =>
 zaA .int true (.agg zl1) e x1 s fun f s =>
 zc f 0 s fun g s =>
 zc f 1 s fun h s =>
 cp zl1 7 g s fun i s =>
 zl true 7 i s fun j s =>
 cA P zbL [j] s fun l s =>
 zo 7 a l s fun _ s =>
 Z (zM (zau a s true 7) (zM (some h) (some []))) s)
theorem zjv : F2 Tryz.prog zdr zfG := zh [] Tryz.func7
def zeI (P : Program) (x0 x1 : AV) (σ : LO) (Z : ZT) : Prop :=
 zbr x1 σ fun a s =>
 cA P zaG [x0] s fun b s =>
 unC .not b s fun c s =>
 zr c (nfl 0 x0 s fun d s =>
 cA P zac [d, (.fn (.func zbF) [] [a])] s fun _ s =>
 Z (some []) s) (Z (some []) s)
theorem zeF : F2 Tryz.prog zbP zeI := zh [] Tryz.func8
def zfE (P : Program) (x0 x1 : AV) (σ : LO) (Z : ZT) : Prop :=
 zbr x1 σ fun a s =>
 cA P zaG [x0] s fun b s =>
 gFl b 1 a s fun c s =>
 gF b (bP .lss c (iN 1) s) s fun d s =>
 orC b d s fun e s =>
 gFl e 1 a s fun f s =>
 gF e (bP .gtr f (iN 9007199254740992) s) s fun g s =>
 orC e g s fun h s =>
 zr h (z1 Z bF s) (zbz x0 s fun i s =>
 zg 0 i s fun j s =>
 zl false 1 j s fun l s =>
 zg 1 a s fun m s =>
 zl false 1 m s fun n s =>
 zaA .int true (.agg zl1) l n s fun o s =>
 zc o 0 s fun p s =>
 zc o 1 s fun q s =>
 zU zl1 s fun r t =>
 zT j s t ∧ (zT m s t ∧ (zT l s t ∧ (zo 7 r p t fun _ s =>
 gTl q 0 r s fun w s =>
 gTl q 0 a s fun y s =>
 gT q (bP .geq w y s) s fun z s =>
 anC q z s fun A s =>
 zr A (z1 Z bF s) (zbz x0 s fun B s =>
 zg 0 B s fun C s =>
 zl false 1 C s fun D s =>
 zg 1 a s fun E s =>
 zl false 1 E s fun F s =>
 zl true 7 a s fun G s =>
 cA P zbL [G] s fun H t =>
 zT C s t ∧ (zT E s t ∧ (zaO .int D F H t fun _ s =>
 z1 Z bT s)))))))
theorem zjt : F2 Tryz.prog zbs zfE := zh [.d [(0, 13)] [(10, [22, 24, 23])], .d [(0, 9)] [(7, [39, 41])]] Tryz.func9
def S_l15_all (P : Program) (x0 : AV) (σ : LO) (Z : ZT) : Prop :=
 zU [eN] σ fun a s =>
 cA P zds [x0] s fun b s =>
 zkL P b 1 s (fun v s c d e f =>
 zaR v fun g v => cp zl1 7 g s fun h s =>
 s[c]? = some d ∧ ((fun s =>
 zl false 1 a s fun i s =>
 zl true 7 h s fun j s =>
 m1 7 zl1 j s fun l s =>
 zq 7 88 i l s fun m s =>
 zo 1 a m s fun _ s =>
 s[c]? = some e ∧ f (s.set c d)) (s.set c e))) fun s =>
 zl false 1 a s fun o s =>
 z1 Z o s
theorem e_l15_all : F1 Tryz.prog zhJ S_l15_all := zh [] Tryz.func10
def zfF (P : Program) (x0 : AV) (σ : LO) (Z : ZT) : Prop :=
 cA P zaG [x0] σ fun a s =>
 zr a (z1 Z (iN 0) s) (nfl 0 x0 s fun b s =>
 zaD .map b s fun c s =>
 z1 Z c s)
theorem zju : F1 Tryz.prog zcn zfF := zh [] Tryz.func11
def zeJ (P : Program) (x0 : AV) (σ : LO) (Z : ZT) : Prop :=
 cA P zaG [x0] σ fun a s =>
 zr a (z1 Z (.d .nilp) s) (cA P zcy [] s fun b s =>
 nfl 0 x0 s fun c s =>
 zeO c s fun d s =>
 zbx [] s fun v s e =>
 zhb d s fun f s =>
 zc f 0 s fun g s =>
 zr g (zeU d s fun h s =>
 zc h 0 s fun i s =>
 zc h 1 s fun j s =>
 zU zl1 s fun l s =>
 zo 7 l j s fun _ s =>
 zbz b s fun n s =>
 zg 0 n s fun o s =>
 zl false 1 o s fun p s =>
 zl true 7 l s fun q s =>
 cA P zbL [q] s fun r t =>
 zT o s t ∧ (zaO .int p i r t fun _ s =>
 e [] s)) (z1 Z b s))
theorem zeG : F1 Tryz.prog zcJ zeJ := zh [.l [] [(4, 2), (14, 12)], .d [(0, 8)] [(6, [21])]] Tryz.func12
def zho (P : Program) (x0 x1 x2 x3 : AV) (σ : LO) (Z : ZT) : Prop :=
 zbr x3 σ fun a s =>
 cA P zco [x0] s fun b s =>
 zci .eql .ptr b (.d .nilp) s fun c s =>
 gFm c x1 s fun d s =>
 gF c (cA P zbZ [d] s) s fun e s =>
 gF c (zci .eql .ptr e (.d .nilp) s) s fun f s =>
 orC c f s fun g s =>
 gFm g x2 s fun h s =>
 gF g (cA P zdd [h] s) s fun i s =>
 gF g (bP .neq i (iN 0) s) s fun j s =>
 orC g j s fun l s =>
 gFl l 0 a s fun m s =>
 gF l (bP .lss m (iN 0) s) s fun n s =>
 orC l n s fun o s =>
 gFl o 0 a s fun p s =>
 gF o (bP .gtr p (iN 9007199254740992) s) s fun q s =>
 orC o q s fun r s =>
 gFl r 1 a s fun u s =>
 gF r (bP .lss u (iN 1) s) s fun w s =>
 orC r w s fun y s =>
 gFl y 1 a s fun z s =>
 gF y (bP .gtr z (iN 9007199254740992) s) s fun A s =>
 orC y A s fun B s =>
 gFm B x0 s fun C s =>
 gFm B x1 s fun D s =>
 gFl B 6 a s fun E s =>
 gF B (cA P zcY [C, D, E] s) s fun F s =>
 gF B (unC .not F s) s fun G s =>
 orC B G s fun H s =>
 zr H (z1 Z bF s) (fl 6 a s fun I s =>
 cA P zdD [eN, I] s fun J s =>
 cA P zbA [x0, J] s fun K s =>
 zc K 0 s fun L s =>
 zc K 1 s fun M s =>
 fl 0 a s fun N s =>
 cA P zeR [x2, N] s fun O s =>
 unC .not M s fun Q s =>
 gFm Q L s fun R s =>
 gFl Q 2 a s fun S s =>
 gF Q (bP .neq R S s) s fun T s =>
 orC Q T s fun U s =>
 gFm U x0 s fun V s =>
 gFm U x1 s fun W s =>
 gF U (zg 3 a s) s fun X s =>
 gF U (zl true 2 X s) s fun Y s =>
 gFm U O s fun a0 s =>
 gFl U 0 a s fun b0 s =>
 gFl U 1 a s fun c0 s =>
 gFm U L s fun d0 s =>
 gF U (cA P zdn [V, W, Y, a0, (iN 2), b0, c0, d0] s) s fun e0 s =>
 gF U (unC .not e0 s) s fun f0 s =>
 orC U f0 s fun g0 s =>
 gFl g0 5 a s fun h0 s =>
 gF g0 (zaD .sl h0 s) s fun i0 s =>
 gFm g0 x2 s fun j0 s =>
 gF g0 (bP .mul (iN 2) j0 s) s fun l0 s =>
 gF g0 (bP .neq i0 l0 s) s fun m0 s =>
 orC g0 m0 s fun o0 s =>
 zr o0 (z1 Z bF s) (fl 5 a s fun p0 s =>
 zaD .sl p0 s fun q0 s =>
 zbx [(iN (-1)), (iN 0)] s fun v s r0 =>
 zaR v fun u0 v => zaR v fun w0 v => bP .lss w0 q0 s fun y0 s =>
 zr y0 (il true 2 2 p0 w0 s fun z0 s =>
 cp [iN 0, iN 0] 2 z0 s fun A0 s =>
 fl 0 A0 s fun B0 s =>
 bP .leq B0 u0 s fun C0 s =>
 gF C0 (zg 0 A0 s) s fun D0 s =>
 gF C0 (zl false 1 D0 s) s fun E0 s =>
 gFm C0 x2 s fun F0 s =>
 gF C0 (cA P zdj [F0] s) s fun G0 t =>
 zT D0 s t ∧ (gF C0 (bP .geq E0 G0 t) t fun H0 s =>
 orC C0 H0 s fun I0 s =>
 gFl I0 0 A0 s fun J0 s =>
 gFm I0 O s fun K0 s =>
 gF I0 (bP .eql J0 K0 s) s fun L0 s =>
 orC I0 L0 s fun M0 s =>
 gFm M0 x0 s fun N0 s =>
 gFm M0 x1 s fun O0 s =>
 gF M0 (zl true 2 A0 s) s fun Q0 s =>
 gFl M0 0 A0 s fun R0 s =>
 gFl M0 0 a s fun S0 s =>
 gFl M0 1 a s fun T0 s =>
 gFm M0 L s fun U0 s =>
 gF M0 (cA P zdn [N0, O0, Q0, R0, (iN 3), S0, T0, U0] s) s fun V0 s =>
 gF M0 (unC .not V0 s) s fun W0 s =>
 orC M0 W0 s fun X0 s =>
 zr X0 (z1 Z bF s) (fl 0 A0 s fun Y0 s =>
 bP .add w0 (iN 1) s fun a1 s =>
 r0 [Y0, a1] s))) (z1 Z bT s)))
theorem zmm : F4 Tryz.prog zdk zho := zh [.l [12, 101] [(8, 1), (14, 1), (102, 37)], .d [(0, 31)] [(8, [110])]] Tryz.func13
def zgH (P : Program) (σ : LO) (Z : ZT) : Prop :=
 zao σ fun a s =>
 zB (zag [eN, (.d .nilmap)] [(1, 1, a)]) s fun b s =>
 zbr b s fun c s =>
 z1 Z c s
theorem zgw : F0 Tryz.prog zcQ zgH := zh [] Tryz.func14
def zhr (P : Program) (σ : LO) (Z : ZT) : Prop :=
 zao σ fun a s =>
 zB (zag [eN, (.d .nilmap)] [(1, 1, a)]) s fun b s =>
 zbr b s fun c s =>
 z1 Z c s
theorem zhe : F0 Tryz.prog zdm zhr := zh [] Tryz.func15
def zje (P : Program) (σ : LO) (Z : ZT) : Prop :=
 zao σ fun a s =>
 zB (zag [(.d .nilmap)] [(0, 1, a)]) s fun b s =>
 zbr b s fun c s =>
 z1 Z c s
theorem ziS : F0 Tryz.prog zcy zje := zh [] Tryz.func16
def zig (P : Program) (x0 : AV) (σ : LO) (Z : ZT) : Prop :=
 cA P zcy [] σ fun a s =>
 zaD .sl x0 s fun b s =>
 zbx [(iN 0), (iN 0)] s fun v s c =>
 zaR v fun d v => zaR v fun e v => bP .lss e b s fun f s =>
 zr f (il true 7 7 x0 e s fun g s =>
 cp zl1 7 g s fun h s =>
 fl 1 h s fun i s =>
 bP .leq i d s fun j s =>
 gFm j a s fun l s =>
 gF j (zl true 7 h s) s fun m s =>
 gF j (cA P zbs [l, m] s) s fun n s =>
 gF j (unC .not n s) s fun o s =>
 orC j o s fun p s =>
 zr p (z2 Z (.d .nilp) (iN 1) s) (fl 1 h s fun q s =>
 bP .add e (iN 1) s fun r s =>
 c [q, r] s)) (z2 Z a (iN 0) s)
theorem zhQ : F1 Tryz.prog zfs zig := zh [.l [5, 11] [(2, 2), (7, 1), (12, 16)]] Tryz.func17
def zic (P : Program) (x0 x1 : AV) (σ : LO) (Z : ZT) : Prop :=
 zbr x0 σ fun a s =>
 zbr x1 s fun b s =>
 fl 0 a s fun c s =>
 fl 0 b s fun d s =>
 bP .eql c d s fun e s =>
 gTl e 1 a s fun f s =>
 gTl e 1 b s fun g s =>
 gT e (bP .eql f g s) s fun h s =>
 anC e h s fun i s =>
 gTl i 2 a s fun j s =>
 gTl i 2 b s fun l s =>
 gT i (bP .eql j l s) s fun m s =>
 anC i m s fun n s =>
 gT n (zg 3 a s) s fun o s =>
 gT n (zl true 2 o s) s fun p s =>
 gT n (zg 3 b s) s fun q s =>
 gT n (zl true 2 q s) s fun r s =>
 gT n (zci .eql (.ints 2) p r s) s fun u s =>
 anC n u s fun w s =>
 gTl w 5 a s fun y s =>
 gTl w 5 b s fun z s =>
 gT w (cA P zfq [y, z] s) s fun A s =>
 anC w A s fun B s =>
 gTl B 6 a s fun C s =>
 gTl B 6 b s fun D s =>
 gT B (cA P zkO [C, D] s) s fun E s =>
 anC B E s fun F s =>
 z1 Z F s
theorem znv : F2 Tryz.prog zdG zic := zh [] Tryz.func20
def zkz (P : Program) (x0 x1 : AV) (σ : LO) (Z : ZT) : Prop :=
 zaD .sl x0 σ fun a s =>
 zaD .sl x1 s fun b s =>
 bP .neq a b s fun c s =>
 zr c (z1 Z bF s) (zbx [(iN 0)] s fun v s d =>
 zaR v fun e v => zaD .sl x0 s fun f s =>
 bP .lss e f s fun g s =>
 zr g (il true 7 7 x0 e s fun h s =>
 il true 7 7 x1 e s fun i s =>
 cA P zdG [h, i] s fun j s =>
 unC .not j s fun l s =>
 zr l (z1 Z bF s) (bP .add e (iN 1) s fun m s =>
 d [m] s)) (z1 Z bT s))
theorem zpP : F2 Tryz.prog zff zkz := zh [.l [5] [(4, 1), (11, 16)], .d [(0, 10)] []] Tryz.func21
def zhi (P : Program) (x0 x1 : AV) (σ : LO) (Z : ZT) : Prop :=
 zbx [eN, (iN 0)] σ fun v s a =>
 zaR v fun b v => zaR v fun c v => nfl 0 x0 s fun d s =>
 zaD .sl d s fun e s =>
 bP .lss c e s fun f s =>
 zr f ((fun (g : AV → LO → Prop) => nfl 0 x0 s fun j s =>
 zI none 7 j c s fun l s =>
 fl 1 l s fun m s =>
 bP .gtr m x1 s fun n s =>
 zr n (nfl 0 x0 s fun o s =>
 il true 7 7 o c s fun p s =>
 m1 7 zl1 p s fun q s =>
 zq 7 88 b q s fun r s =>
 g r s) (g b s))
 (fun h s => bP .add c (iN 1) s fun i s =>
 a [h, i] s)) (zbz x0 s fun u s =>
 zg 0 u s fun w s =>
 zo 1 w b s fun _ s =>
 Z (some []) s)
theorem zhc : F2 Tryz.prog zeP zhi := zh [.l [4, 5] [(6, 29)]] Tryz.func22
def ziY (P : Program) (x0 x1 : AV) (σ : LO) (Z : ZT) : Prop :=
 zbr x1 σ fun a s =>
 fl 1 a s fun b s =>
 bP .lss b (iN 1) s fun c s =>
 gFl c 1 a s fun d s =>
 gF c (bP .gtr d (iN 9007199254740992) s) s fun e s =>
 orC c e s fun f s =>
 zr f (z1 Z bF s) (zbx [(iN 0)] s fun v s g =>
 zaR v fun h v => nfl 0 x0 s fun i s =>
 zaD .sl i s fun j s =>
 bP .lss h j s fun l s =>
 gTm l x0 s fun m s =>
 gT l (zbz m s) s fun n s =>
 gTl l 0 n s fun o s =>
 gTm l h s fun p s =>
 gT l (zI none 7 o p s) s fun q s =>
 gTl l 1 q s fun r s =>
 gTl l 1 a s fun u s =>
 gT l (bP .lss r u s) s fun w s =>
 anC l w s fun y s =>
 zr y (bP .add h (iN 1) s fun z s =>
 g [z] s) (nfl 0 x0 s fun A s =>
 zaD .sl A s fun B s =>
 bP .lss h B s fun C s =>
 gTm C x0 s fun D s =>
 gT C (zbz D s) s fun E s =>
 gTl C 0 E s fun F s =>
 gTm C h s fun G s =>
 gT C (zI none 7 F G s) s fun H s =>
 gTl C 1 H s fun I s =>
 gTl C 1 a s fun J s =>
 gT C (bP .eql I J s) s fun K s =>
 anC C K s fun L s =>
 gTm L x0 s fun M s =>
 gT L (zbz M s) s fun N s =>
 gTl L 0 N s fun O s =>
 gTm L h s fun Q s =>
 gT L (zI none 7 O Q s) s fun R s =>
 gTl L 0 R s fun S s =>
 gTl L 0 a s fun T s =>
 gT L (bP .geq S T s) s fun U s =>
 anC L U s fun V s =>
 zr V (z1 Z bF s) (nfl 0 x0 s fun W s =>
 zcj (.sl 7) W none (some h) none s fun X s =>
 zl true 7 a s fun Y s =>
 m1 7 zl1 Y s fun a0 s =>
 zq 7 88 eN X s fun b0 t =>
 zT a s t ∧ (zq 7 88 b0 a0 t fun c0 s =>
 (fun (d0 : AV → LO → Prop) => zr L (bP .add h (iN 1) s fun m0 s =>
 d0 m0 s) (d0 h s))
 (fun e0 s => nfl 0 x0 s fun f0 s =>
 zcj (.sl 7) f0 (some e0) none none s fun g0 s =>
 zq 7 88 c0 g0 s fun h0 s =>
 zbz x0 s fun i0 s =>
 zg 0 i0 s fun j0 s =>
 zo 1 j0 h0 s fun _ s =>
 z1 Z bT s)))))
theorem ziQ : F2 Tryz.prog zge ziY := zh [.l [5] [(16, 22)], .d [(0, 20)] [], .d [(0, 21)] [], .d [(0, 14)] [], .d [(0, 7), (8, 2), (7, 1), (10, 2)] [(7, [3])]] Tryz.func23
def ziZ (P : Program) (x0 x1 : AV) (σ : LO) (Z : ZT) : Prop :=
 zU zl1 σ fun a s =>
 zbx [(iN 0)] s fun v s b =>
 zaR v fun c v => nfl 0 x0 s fun d s =>
 zaD .sl d s fun e s =>
 bP .lss c e s fun f s =>
 zr f (nfl 0 x0 s fun g s =>
 zI none 7 g c s fun h s =>
 fl 1 h s fun i s =>
 bP .eql i x1 s fun j s =>
 zr j (nfl 0 x0 s fun l s =>
 il true 7 7 l c s fun m s =>
 zo 7 a m s fun _ s =>
 Z (zM (zau a s true 7) (zM (some bT) (some []))) s) (bP .add c (iN 1) s fun o s =>
 b [o] s)) (zB (zag zl1 []) s fun p s =>
 zo 7 a p s fun _ s =>
 Z (zM (zau a s true 7) (zM (some bF) (some []))) s)
theorem zog : F2 Tryz.prog zgf ziZ := zh [.l [6] [(5, 1), (7, 26)]] Tryz.func24
def zhq (P : Program) (x0 : AV) (σ : LO) (Z : ZT) : Prop :=
 zbr x0 σ fun a s =>
 cA P zdm [] s fun b s =>
 cA P zcQ [] s fun c s =>
 zB (zag [eN] []) s fun d s =>
 zbr d s fun e s =>
 zB (zag [eN] []) s fun f s =>
 zbr f s fun g s =>
 zB (zag [(.d .nilp), (.d .nilp), (.d .nilp), (.d .nilp), eN, eN, eN] [(0, 1, b), (1, 1, c), (2, 1, e), (3, 1, g)]) s fun h s =>
 zbr h s fun i s =>
 m1 1 [eN] eN s fun j s =>
 fl 1 a s fun l s =>
 zq 1 24 j l s fun m s =>
 zaD .sl m s fun n s =>
 zbx [(iN 0)] s fun v s o =>
 zaR v fun p v => bP .lss p n s fun q s =>
 zr q (il false 1 1 m p s fun r s =>
 zaD .sl r s fun u s =>
 zbx [eN, (iN 0)] s fun v s w =>
 zaR v fun y v => zaR v fun z v => bP .lss z u s fun A s =>
 zr A ((fun (B : AV → LO → Prop) => il true 7 7 r z s fun E s =>
 cp zl2 7 E s fun F s =>
 zbz i s fun G s =>
 zg 2 G s fun H s =>
 zl false 1 H s fun I s =>
 zbz i s fun J s =>
 zg 3 J s fun K s =>
 zl false 1 K s fun L s =>
 zl true 7 F s fun M s =>
 (fun (N : AV → AV → LO → Prop) => (cA P ziq [I, L, M] s fun V s =>
 zc V 0 s fun W s =>
 zc V 1 s fun X s =>
 cp zl3 9 W s fun Y s =>
 N Y X s) ∧
 (zU zl3 s fun a0 t =>
 zT H s t ∧ (zT K s t ∧ (zT F s t ∧ (cA P ziq [I, L, M] t fun b0 s =>
 zc b0 0 s fun c0 s =>
 zc b0 1 s fun d0 s =>
 zo 9 a0 c0 s fun _ s =>
 N a0 d0 s)))))
 (fun O Q s => bP .eql Q (iN 0) s fun R s =>
 zr R (zl true 9 O s fun S s =>
 m1 9 zl3 S s fun T s =>
 zq 9 104 y T s fun U s =>
 B U s) (B y s)))
 (fun C s => bP .add z (iN 1) s fun D s =>
 w [C, D] s)) (nfl 2 i s fun f0 s =>
 cA P zhI [f0, y] s fun g0 s =>
 zc g0 0 s fun h0 s =>
 zc g0 1 s fun _ s =>
 nfl 4 i s fun j0 s =>
 m1 1 [eN] y s fun l0 s =>
 zbz i s fun m0 s =>
 zg 5 m0 s fun o0 s =>
 zl false 1 o0 s fun p0 s =>
 m1 1 [iN 0] h0 s fun q0 s =>
 zq 1 24 j0 l0 s fun r0 t =>
 zT o0 s t ∧ (zq 1 8 p0 q0 t fun u0 s =>
 zbz i s fun w0 s =>
 zg 4 w0 s fun y0 s =>
 zo 1 y0 r0 s fun _ s =>
 zbz i s fun A0 s =>
 zg 5 A0 s fun B0 s =>
 zo 1 B0 u0 s fun _ s =>
 bP .add p (iN 1) s fun D0 s =>
 o [D0] s))) (zB (zag [iN 0, iN 0] []) s fun E0 s =>
 m1 2 [iN 0, iN 0] E0 s fun F0 s =>
 zbz i s fun G0 s =>
 zg 6 G0 s fun H0 s =>
 zo 1 H0 F0 s fun _ s =>
 fl 2 a s fun J0 s =>
 zaD .sl J0 s fun K0 s =>
 zbx [(iN 0)] s fun v s L0 =>
 zaR v fun M0 v => bP .lss M0 K0 s fun N0 s =>
 zr N0 (il true 5 5 J0 M0 s fun O0 s =>
 cp [iN 0, iN 0, iN 0, iN 0, (.d (.int .u8 0))] 5 O0 s fun Q0 s =>
 nfl 5 i s fun R0 s =>
 fl 4 Q0 s fun S0 s =>
 zab (.int .i64) S0 s fun T0 s =>
 nfl 5 i s fun U0 s =>
 zaD .sl U0 s fun V0 s =>
 bP .rem T0 V0 s fun W0 s =>
 il false 1 1 R0 W0 s fun X0 s =>
 zbz i s fun Y0 s =>
 zg 2 Y0 s fun a1 s =>
 zl false 1 a1 s fun b1 s =>
 zbz i s fun c1 s =>
 zg 3 c1 s fun d1 s =>
 zl false 1 d1 s fun e1 s =>
 zg 0 Q0 s fun f1 s =>
 zl false 1 f1 s fun g1 s =>
 zg 1 Q0 s fun h1 s =>
 zl false 1 h1 s fun i1 s =>
 zg 2 Q0 s fun j1 s =>
 zl false 1 j1 s fun l1 s =>
 zg 3 Q0 s fun o1 s =>
 zl false 1 o1 s fun p1 s =>
 (fun (q1 : AV → LO → Prop) => (cA P zio [b1, e1, g1, i1, l1, p1, X0] s fun F1 s =>
 zc F1 0 s fun G1 s =>
 zc F1 1 s fun _ s =>
 cp [iN 0, iN 0] 2 G1 s fun I1 s =>
 q1 I1 s) ∧
 (zU [iN 0, iN 0] s fun J1 t =>
 zT a1 s t ∧ (zT d1 s t ∧ (zT f1 s t ∧ (zT h1 s t ∧ (zT j1 s t ∧ (zT o1 s t ∧ (cA P zio [b1, e1, g1, i1, l1, p1, X0] t fun K1 s =>
 zc K1 0 s fun L1 s =>
 zc K1 1 s fun _ s =>
 zo 2 J1 L1 s fun _ s =>
 q1 J1 s))))))))
 (fun r1 s => nfl 6 i s fun u1 s =>
 zl true 2 r1 s fun w1 s =>
 m1 2 [iN 0, iN 0] w1 s fun y1 s =>
 zq 2 16 u1 y1 s fun A1 s =>
 zbz i s fun B1 s =>
 zg 6 B1 s fun C1 s =>
 zo 1 C1 A1 s fun _ s =>
 bP .add M0 (iN 1) s fun E1 s =>
 L0 [E1] s)) (nfl 2 i s fun O1 s =>
 nfl 0 O1 s fun Q1 s =>
 zaD .sl Q1 s fun R1 s =>
 zbx [(iN 0)] s fun v s S1 =>
 zaR v fun T1 v => bP .lss T1 R1 s fun U1 s =>
 zr U1 (il false 1 1 Q1 T1 s fun V1 s =>
 nfl 0 i s fun W1 s =>
 cA P zcP [W1, V1] s fun _ s =>
 bP .add T1 (iN 1) s fun Y1 s =>
 S1 [Y1] s) (nfl 3 i s fun a2 s =>
 nfl 0 a2 s fun b2 s =>
 zaD .sl b2 s fun c2 s =>
 zbx [(iN 0)] s fun v s d2 =>
 zaR v fun e2 v => bP .lss e2 c2 s fun f2 s =>
 zr f2 (il true 2 2 b2 e2 s fun g2 s =>
 cp [iN 0, iN 0] 2 g2 s fun h2 s =>
 nfl 1 i s fun i2 s =>
 fl 0 h2 s fun j2 s =>
 fl 1 h2 s fun l2 s =>
 cA P zcp [i2, j2, l2] s fun _ s =>
 bP .add e2 (iN 1) s fun o2 s =>
 d2 [o2] s) (z1 Z i s))))
theorem zhd : F1 Tryz.prog zeS zhq := zh [.l [35] [(5, 2), (8, 5), (36, 59)], .l [6, 41] [(8, 3), (42, 23)], .dd [(0, []), (1, []), (2, []), (3, []), (4, []), (5, []), (6, []), (7, []), (8, []), (9, []), (10, []), (11, []), (12, []), (13, []), (14, []), (15, []), (13, [48, 52, 8]), (9, []), (10, []), (11, []), (12, []), (14, []), (15, [])] [9, 13, 9, 0, 1, 3, 7, 0, 16, 48, 112, 0, 511, 1023, 2047, 2047, 1023, 12287, 32767, 0, 1, 3, 7, 0, 16, 48, 112, 0, 8703, 9215, 10239, 10239, 0, 12287, 32767], .d [(0, 8), (9, 6), (8, 1), (15, 7)] [(8, [85])], .l [103] [(14, 4), (104, 50)], .d [(0, 16)] [], .dd [(0, []), (1, []), (2, []), (3, []), (4, []), (5, []), (6, []), (7, []), (8, []), (9, []), (10, []), (11, []), (12, []), (13, []), (14, []), (15, []), (16, []), (17, []), (18, []), (19, []), (20, []), (21, []), (22, []), (23, []), (21, [125, 129, 131, 133, 135, 137]), (17, []), (18, []), (19, []), (20, []), (22, []), (23, [])] [17, 21, 17, 0, 1, 3, 7, 0, 16, 48, 112, 0, 256, 0, 1024, 0, 4096, 0, 16384, 0, 131071, 262143, 524287, 524287, 262143, 3145727, 8388607, 0, 1, 3, 7, 0, 16, 48, 112, 0, 256, 0, 1024, 0, 4096, 0, 16384, 0, 2228223, 2359295, 2621439, 2621439, 0, 3145727, 8388607], .d [(0, 11)] [], .l [162] [(19, 1), (163, 10)], .l [181] [(21, 1), (182, 13)], .d [(0, 9)] []] Tryz.func25
def zhp (P : Program) (x0 x1 : AV) (σ : LO) (Z : ZT) : Prop :=
 zbr x1 σ fun a s =>
 zU zl1 s fun b s =>
 fl 2 a s fun c s =>
 zab (.int .i64) c s fun d s =>
 nfl 4 x0 s fun e s =>
 zaD .sl e s fun f s =>
 bP .rem d f s fun g s =>
 zg 0 a s fun h s =>
 zl false 1 h s fun i s =>
 zg 1 a s fun j s =>
 zl false 1 j s fun l s =>
 zg 3 a s fun m s =>
 zl false 1 m s fun n s =>
 zbz x0 s fun o s =>
 zg 4 o s fun p s =>
 zl false 1 p s fun q s =>
 zI none 1 q g s fun r s =>
 zl false 1 r s fun u s =>
 zbz x0 s fun w s =>
 zg 6 w s fun y s =>
 zl false 1 y s fun z s =>
 zg 4 a s fun A s =>
 zl false 1 A s fun B s =>
 zab (.int .i64) B s fun C s =>
 zbz x0 s fun D s =>
 zg 6 D s fun E s =>
 zl false 1 E s fun F s =>
 zaD .sl F s fun G s =>
 bP .rem C G s fun H s =>
 zI none 2 z H s fun I s =>
 zl true 2 I s fun J s =>
 zB (zag zl1 [(0, 1, i), (1, 1, l), (2, 1, n), (6, 1, u), (3, 2, J)]) s fun K s =>
 zU zl1 s fun L t =>
 zT h s t ∧ (zT j s t ∧ (zT m s t ∧ (zT p s t ∧ (zT r s t ∧ (zT y s t ∧ (zT A s t ∧ (zT E s t ∧ (zT I s t ∧ (zo 7 L K t fun _ s =>
 (fun (N : LO → Prop) => fl 2 L s fun l0 s =>
 bP .eql l0 (iN 0) s fun m0 s =>
 zr m0 (nfl 5 x0 s fun o0 s =>
 il false 1 1 o0 g s fun p0 s =>
 zg 2 L s fun q0 s =>
 zo 1 q0 p0 s fun _ s =>
 N s) (N s))
 (fun  s => fl 5 a s fun O s =>
 zaD .sl O s fun Q s =>
 zbx [(iN 0)] s fun v s R =>
 zaR v fun S v => bP .lss S Q s fun T s =>
 zr T (il false 1 1 O S s fun U s =>
 fl 5 L s fun V s =>
 nfl 6 x0 s fun W s =>
 zab (.int .i64) U s fun X s =>
 nfl 6 x0 s fun Y s =>
 zaD .sl Y s fun a0 s =>
 bP .rem X a0 s fun b0 s =>
 il true 2 2 W b0 s fun c0 s =>
 m1 2 [iN 0, iN 0] c0 s fun d0 s =>
 zq 2 16 V d0 s fun e0 s =>
 zg 5 L s fun f0 s =>
 zo 1 f0 e0 s fun _ s =>
 bP .add S (iN 1) s fun h0 s =>
 R [h0] s) (zl true 7 L s fun i0 s =>
 zo 7 b i0 s fun _ s =>
 Z (zM (zau b s true 7) (some [])) s)))))))))))
theorem zmn : F2 Tryz.prog zdl zhp := zh [.d [(0, 10)] [], .d [(0, 31)] [(29, [18, 20, 22, 26, 29, 33, 35, 40, 44])], .l [61] [(8, 1), (62, 23)], .d [(0, 20)] []] Tryz.func26
def zfc (P : Program) (x0 : AV) (σ : LO) (Z : ZT) : Prop :=
 zci .eql .ptr x0 (.d .nilp) σ fun a s =>
 gFm a x0 s fun b s =>
 gF a (zbz b s) s fun c s =>
 gFl a 0 c s fun d s =>
 gF a (zci .eql .map d (.d .nilmap) s) s fun e s =>
 orC a e s fun f s =>
 z1 Z f s
theorem ziI : F1 Tryz.prog zaG zfc := zh [] Tryz.func27
def zhn (P : Program) (x0 : AV) (σ : LO) (Z : ZT) : Prop :=
 zbr x0 σ fun a s =>
 zU zl1 s fun b s =>
 fl 5 a s fun c s =>
 cA P zbf [c] s fun d s =>
 zg 5 a s fun e s =>
 zo 1 e d s fun _ s =>
 fl 6 a s fun g s =>
 cA P zfp [g] s fun h s =>
 zg 6 a s fun i s =>
 zo 1 i h s fun _ s =>
 zl true 7 a s fun l s =>
 zo 7 b l s fun _ s =>
 Z (zM (zau b s true 7) (some [])) s
theorem zml : F1 Tryz.prog zbL zhn := zh [] Tryz.func28
def zaw (P : Program) (x0 x1 : AV) (σ : LO) (Z : ZT) : Prop :=
 zeO x0 σ fun a s =>
 zbx [] s fun v s b =>
 zhb a s fun c s =>
 zc c 0 s fun d s =>
 zr d (zeU a s fun e s =>
 zc e 0 s fun f s =>
 zc e 1 s fun g s =>
 zU zl1 s fun h s =>
 zo 7 h g s fun _ s =>
 zl true 7 h s fun j s =>
 zah P x1 [dm f, dm j] s fun l s =>
 zr l (zaT .int x0 f s fun _ s =>
 b [] s) (b [] s)) (Z (some []) s)
theorem zat : F2 Tryz.prog zac zaw := zh [.l [] [(4, 2), (8, 11)]] Tryz.func29
def zdT (P : Program) (x0 x1 x2 : AV) (σ : LO) (Z : ZT) : Prop :=
 zbr x1 σ fun _ s =>
 zl false 1 x2 s fun b s =>
 bP .leq x0 b s fun c s =>
 z1 Z c s
theorem zgW : F3 Tryz.prog zbF zdT := zh [] Tryz.func30
def zfH (P : Program) (x0 : AV) (σ : LO) (Z : ZT) : Prop :=
 zbr x0 σ fun a s =>
 z1 Z (.fn (.func zbQ) [] [a]) s
theorem zfw : F1 Tryz.prog zds zfH := zh [] Tryz.func31
def zfJ (P : Program) (x0 : AV) (σ : LO) (Z : ZT) : Prop :=
 cA P zbR [x0] σ fun a s =>
 zr a (z1 Z (.d .nilp) s) (nfl 0 x0 s fun b s =>
 cA P zhK [b] s fun c s =>
 zc c 0 s fun d s =>
 zc c 1 s fun _ s =>
 z1 Z d s)
theorem zfx : F1 Tryz.prog zco zfJ := zh [] Tryz.func32
def zfd (P : Program) (x0 : AV) (σ : LO) (Z : ZT) : Prop :=
 cA P zbI [x0] σ fun a s =>
 zr a (z1 Z (.d .nilp) s) (cA P zcQ [] s fun b s =>
 nfl 0 x0 s fun c s =>
 zaD .sl c s fun d s =>
 zbx [(iN 0)] s fun v s e =>
 zaR v fun f v => bP .lss f d s fun g s =>
 zr g (il true 2 2 c f s fun h s =>
 cp [iN 0, iN 0] 2 h s fun i s =>
 fl 0 i s fun j s =>
 fl 1 i s fun l s =>
 cA P zcp [b, j, l] s fun _ s =>
 bP .add f (iN 1) s fun n s =>
 e [n] s) (z1 Z b s))
theorem zeY : F1 Tryz.prog zbZ zfd := zh [.l [14] [(5, 1), (15, 10)]] Tryz.func33
def zjd (P : Program) (x0 : AV) (σ : LO) (Z : ZT) : Prop :=
 bP .lss x0 (iN 1) σ fun a s =>
 gFm a x0 s fun b s =>
 gF a (bP .gtr b (iN 4) s) s fun c s =>
 orC a c s fun d s =>
 zr d (z1 Z (iN 120) s) (z1 Z (iN 0) s)
theorem zoj : F1 Tryz.prog zdd zjd := zh [] Tryz.func34
def zfa (P : Program) (x0 x1 x2 : AV) (σ : LO) (Z : ZT) : Prop :=
 zbr x0 σ fun a s =>
 zbr x1 s fun b s =>
 cA P zbY [x2] s fun c s =>
 bP .eql c (iN 0) s fun d s =>
 gTm d x2 s fun e s =>
 gT d (fun k => k (.fn (.func zen) [] [a, b]) s) s fun f s =>
 gT d (cA P zaC [e, f] s) s fun g s =>
 gT d (unC .not g s) s fun h s =>
 anC d h s fun i s =>
 z1 Z i s
theorem ziG : F3 Tryz.prog zcY zfa := zh [] Tryz.func35
def zgc (P : Program) (x0 x1 : AV) (σ : LO) (Z : ZT) : Prop :=
 cA P zbR [x0] σ fun a s =>
 zr a (z2 Z (iN 0) bF s) (nfl 1 x0 s fun b s =>
 zab .toStr x1 s fun c s =>
 zaA .str true (iN 0) b c s fun d s =>
 zc d 0 s fun e s =>
 zc d 1 s fun f s =>
 z2 Z e f s)
theorem zkn : F2 Tryz.prog zbA zgc := zh [.d [(0, 12)] []] Tryz.func36
def zga (P : Program) (x0 x1 : AV) (σ : LO) (Z : ZT) : Prop :=
 cA P zbY [x1] σ fun a s =>
 bP .neq a (iN 0) s fun b s =>
 zr b (cA P zcq [x0] s fun c s =>
 z1 Z c s) (zah P (.fn (.func zdp) [x1] []) [dm x0] s fun d s =>
 z1 Z d s)
theorem zkl : F2 Tryz.prog zdD zga := zh [] Tryz.func37
def zhl (P : Program) (x0 x1 : AV) (σ : LO) (Z : ZT) : Prop :=
 cA P zgQ [x0, x1] σ fun a s =>
 unC .not a s fun b s =>
 zr b (z1 Z (iN (-1)) s) (cA P zdj [x0] s fun c s =>
 bP .rem x1 c s fun d s =>
 z1 Z d s)
theorem zmj : F2 Tryz.prog zeR zhl := zh [] Tryz.func38
def zhu (P : Program) (x0 x1 x2 x3 x4 x5 x6 x7 : AV) (σ : LO) (Z : ZT) : Prop :=
 zbr x2 σ fun a s =>
 cA P zjl [x0, x1] s fun b s =>
 gTm b x4 s fun c s =>
 gTm b x5 s fun d s =>
 gTm b x6 s fun e s =>
 gTm b x7 s fun f s =>
 gT b (cA P zkW [c, d, e, f] s) s fun g s =>
 anC b g s fun h s =>
 gTm h x0 s fun i s =>
 gTm h x1 s fun j s =>
 gT h (zl true 2 a s) s fun l s =>
 gTm h x3 s fun m s =>
 gTm h x4 s fun n s =>
 gTm h x5 s fun o s =>
 gTm h x6 s fun p s =>
 gTm h x7 s fun q s =>
 gT h (cA P zeT [n, o, p, q] s) s fun r t =>
 zT a s t ∧ (gT h (cA P zgT [i, j, l, m, r] t) t fun u s =>
 anC h u s fun w s =>
 z1 Z w s)
theorem zmp : F8 Tryz.prog zdn zhu := zh [.d [(0, 23)] [(19, [10])]] Tryz.func39
def zhm (P : Program) (x0 : AV) (σ : LO) (Z : ZT) : Prop :=
 cA P zgh [(iN 3), x0] σ fun a s =>
 z1 Z a s
theorem zmk : F1 Tryz.prog zdj zhm := zh [] Tryz.func40
def zib (P : Program) (x0 x1 : AV) (σ : LO) (Z : ZT) : Prop :=
 zaD .sl x0 σ fun a s =>
 zaD .sl x1 s fun b s =>
 bP .neq a b s fun c s =>
 zr c (z1 Z bF s) (zbx [(iN 0)] s fun v s d =>
 zaR v fun e v => zaD .sl x0 s fun f s =>
 bP .lss e f s fun g s =>
 zr g (il true 2 2 x0 e s fun h s =>
 il true 2 2 x1 e s fun i s =>
 zci .neq (.ints 2) h i s fun j s =>
 zr j (z1 Z bF s) (bP .add e (iN 1) s fun l s =>
 d [l] s)) (z1 Z bT s))
theorem znu : F2 Tryz.prog zfq zib := zh [.l [5] [(4, 1), (11, 15)], .d [(0, 9)] []] Tryz.func43
def zpb (P : Program) (x0 x1 : AV) (σ : LO) (Z : ZT) : Prop :=
 zaD .sl x0 σ fun a s =>
 zaD .sl x1 s fun b s =>
 bP .neq a b s fun c s =>
 zr c (z1 Z bF s) (zbx [(iN 0)] s fun v s d =>
 zaR v fun e v => zaD .sl x0 s fun f s =>
 bP .lss e f s fun g s =>
 zr g (zI none 9 x0 e s fun h s =>
 zg 7 h s fun i s =>
 zl true 2 i s fun j s =>
 zI none 9 x1 e s fun l s =>
 zg 7 l s fun m s =>
 zl true 2 m s fun n s =>
 zci .neq (.ints 2) j n s fun o s =>
 gFm o x0 s fun p s =>
 gFm o e s fun q s =>
 gF o (zI none 9 p q s) s fun r s =>
 gF o (zg 0 r s) s fun u s =>
 gF o (zl true 7 u s) s fun w s =>
 gFm o x1 s fun y s =>
 gFm o e s fun z s =>
 gF o (zI none 9 y z s) s fun A s =>
 gF o (zg 0 A s) s fun B s =>
 gF o (zl true 7 B s) s fun C s =>
 gF o (cA P zeu [w, C] s) s fun D s =>
 gF o (unC .not D s) s fun E s =>
 orC o E s fun F s =>
 zr F (z1 Z bF s) (bP .add e (iN 1) s fun G s =>
 d [G] s)) (z1 Z bT s))
theorem e_r08_Same : F2 Tryz.prog zkO zpb := zh [.l [5] [(4, 1), (11, 31)], .d [(0, 25)] []] Tryz.func44
def zpa (P : Program) (x0 x1 x2 : AV) (σ : LO) (Z : ZT) : Prop :=
 zbr x2 σ fun a s =>
 zU zl3 s fun b s =>
 zl true 7 a s fun c s =>
 cA P zgO [c] s fun d s =>
 zc d 0 s fun e s =>
 zc d 1 s fun f s =>
 bP .neq f (iN 0) s fun g s =>
 zr g (zB (zag zl3 []) s fun h s =>
 zo 9 b h s fun _ s =>
 Z (zM (zau b s true 9) (zM (some f) (some []))) s) (fl 0 a s fun j s =>
 cA P zhH [j] s fun l s =>
 cA P zcI [x0, e] s fun m s =>
 cA P zcO [x1, l, m] s fun n s =>
 zc n 0 s fun o s =>
 zc n 1 s fun p s =>
 cp [iN 0, iN 0] 2 o s fun q s =>
 bP .neq p (iN 0) s fun r s =>
 zr r (zB (zag zl3 []) s fun u s =>
 zo 9 b u s fun _ s =>
 Z (zM (zau b s true 9) (zM (some p) (some []))) s) (zl true 7 a s fun y s =>
 zl true 2 q s fun z s =>
 zB (zag zl3 [(0, 7, y), (7, 2, z)]) s fun A s =>
 zo 9 b A s fun _ s =>
 Z (zM (zau b s true 9) (zM (some (iN 0)) (some []))) s))
theorem e_r08_Seal : F3 Tryz.prog ziq zpa := zh [] Tryz.func45
def zlU (P : Program) (x0 x1 : AV) (σ : LO) (Z : ZT) : Prop :=
 cA P zdi [x1] σ fun a s =>
 bP .neq a (iN 0) s fun b s =>
 zr b (z2 Z (iN 0) a s) (cA P zgg [eN, x1] s fun c s =>
 cA P zcI [x0, c] s fun d s =>
 bP .eql d (iN 0) s fun e s =>
 zr e (z2 Z (iN 0) (iN 6) s) (z2 Z d (iN 0) s))
theorem e_r08_Digest : F2 Tryz.prog zhI zlU := zh [] Tryz.func46
def zoZ (P : Program) (x0 x1 x2 x3 x4 x5 x6 : AV) (σ : LO) (Z : ZT) : Prop :=
 zU [iN 0, iN 0] σ fun a s =>
 cA P zmU [x3, x4, x5, x6] s fun b s =>
 unC .not b s fun c s =>
 zr c (zB (zag [iN 0, iN 0] []) s fun d s =>
 zo 2 a d s fun _ s =>
 Z (zM (zau a s true 2) (zM (some (iN 1)) (some []))) s) (cA P zfr [x3, x4, x5, x6] s fun f s =>
 cA P zkN [x0, x1, x2, f] s fun g s =>
 zc g 0 s fun h s =>
 zc g 1 s fun i s =>
 zo 2 a h s fun _ s =>
 Z (zM (zau a s true 2) (zM (some i) (some []))) s)
theorem e_r11_Vote : F7 Tryz.prog zio zoZ := zh [] Tryz.func47
def zgG (P : Program) (x0 x1 : AV) (σ : LO) (Z : ZT) : Prop :=
 cA P zbR [x0] σ fun a s =>
 zr a (z1 Z (iN 0) s) (nfl 1 x0 s fun b s =>
 zab .toStr x1 s fun c s =>
 zaA .str true (iN 0) b c s fun d s =>
 zc d 0 s fun e s =>
 zc d 1 s fun f s =>
 zr f (z1 Z e s) (nfl 0 x0 s fun g s =>
 zaD .sl g s fun h s =>
 bP .geq h (iN 1048576) s fun i s =>
 zr i (z1 Z (iN 0) s) (zbz x0 s fun j s =>
 zg 0 j s fun l s =>
 zl false 1 l s fun m s =>
 cA P zcq [x1] s fun n t =>
 zT l s t ∧ (m1 1 [eN] n t fun o s =>
 zq 1 24 m o s fun p s =>
 zbz x0 s fun q s =>
 zg 0 q s fun r s =>
 zo 1 r p s fun _ s =>
 nfl 0 x0 s fun w s =>
 zaD .sl w s fun y s =>
 nfl 1 x0 s fun z s =>
 zab .toStr x1 s fun A s =>
 zaO .str z A y s fun _ s =>
 z1 Z y s))))
theorem zll : F2 Tryz.prog zcP zgG := zh [.d [(0, 12)] [], .d [(0, 12)] [(6, [31])], .d [(0, 8)] []] Tryz.func48
def zfL (P : Program) (x0 x1 x2 : AV) (σ : LO) (Z : ZT) : Prop :=
 zU [iN 0, iN 0] σ fun a s =>
 cA P zbI [x0] s fun b s =>
 zr b (zB (zag [iN 0, iN 0] []) s fun c s =>
 zo 2 a c s fun _ s =>
 Z (zM (zau a s true 2) (zM (some (iN 2)) (some []))) s) (bP .lss x1 (iN 0) s fun e s =>
 gFm e x1 s fun f s =>
 gF e (bP .geq f (iN 21) s) s fun g s =>
 orC e g s fun h s =>
 zr h (zB (zag [iN 0, iN 0] []) s fun i s =>
 zo 2 a i s fun _ s =>
 Z (zM (zau a s true 2) (zM (some (iN 20)) (some []))) s) (bP .lss x2 (iN 1) s fun l s =>
 zr l (zB (zag [iN 0, iN 0] []) s fun m s =>
 zo 2 a m s fun _ s =>
 Z (zM (zau a s true 2) (zM (some (iN 1)) (some []))) s) (zB (zag [iN 0, iN 0] [(0, 1, x1), (1, 1, x2)]) s fun o s =>
 cp [iN 0, iN 0] 2 o s fun p s =>
 (fun (q : LO → Prop) => nfl 1 x0 s fun w s =>
 zl true 2 p s fun y s =>
 zaA (.ints 2) false bF w y s fun z s =>
 unC .not z s fun A s =>
 zr A (nfl 1 x0 s fun B s =>
 zl true 2 p s fun C s =>
 zaO (.ints 2) B C bT s fun _ s =>
 nfl 0 x0 s fun E s =>
 zl true 2 p s fun F s =>
 m1 2 [iN 0, iN 0] F s fun G s =>
 zq 2 16 E G s fun H s =>
 zbz x0 s fun I s =>
 zg 0 I s fun J s =>
 zo 1 J H s fun _ s =>
 q s) (q s))
 (fun  s => zl true 2 p s fun r s =>
 zo 2 a r s fun _ s =>
 Z (zM (zau a s true 2) (zM (some (iN 0)) (some []))) s))))
theorem zjy : F3 Tryz.prog zcp zfL := zh [.d [(0, 7)] [], .d [(0, 6)] [], .d [(0, 11)] []] Tryz.func49
def zbW (P : Program) (x0 : AV) (σ : LO) (Z : ZT) : Prop :=
 zaj false x0 σ fun a s =>
 zr a (z1 Z eN s) (zn false 2 0 (zag (rep [iN 0, iN 0] 0) []) s fun b s =>
 zq 2 16 b x0 s fun c s =>
 z1 Z c s)
theorem zei : F1 Tryz.prog zbf zbW := zh [] Tryz.func50
def zhY (P : Program) (x0 : AV) (σ : LO) (Z : ZT) : Prop :=
 zaD .sl x0 σ fun a s =>
 zbx [eN, (iN 0)] s fun v s b =>
 zaR v fun c v => zaR v fun d v => bP .lss d a s fun e s =>
 zr e (il true 9 9 x0 d s fun f s =>
 cp zl3 9 f s fun g s =>
 zg 0 g s fun h s =>
 zg 2 h s fun i s =>
 zl true 5 i s fun j s =>
 cA P zkT [j] s fun l s =>
 zg 0 g s fun m s =>
 zg 2 m s fun n s =>
 zo 5 n l s fun _ s =>
 zl true 9 g s fun p s =>
 m1 9 zl3 p s fun q s =>
 zq 9 104 c q s fun r s =>
 bP .add d (iN 1) s fun u s =>
 b [r, u] s) (z1 Z c s)
theorem znr : F1 Tryz.prog zfp zhY := zh [.l [3, 8] [(5, 1), (9, 14)]] Tryz.func51
def zeK (P : Program) (x0 x1 : AV) (σ : LO) (Z : ZT) : Prop :=
 zl false 1 x1 σ fun a s =>
 cA P zaG [a] s fun b s =>
 zr b (Z (some []) s) (zl false 1 x1 s fun c s =>
 nfl 0 c s fun d s =>
 cA P zak [d] s fun e s =>
 cA P zcH [e] s fun f s =>
 zaD .sl f s fun g s =>
 zbx [(iN 0)] s fun v s h =>
 zaR v fun i v => bP .lss i g s fun j s =>
 zr j (il false 1 1 f i s fun l s =>
 zl false 1 x1 s fun m s =>
 nfl 0 m s fun n s =>
 zaA .int false (.agg zl1) n l s fun o s =>
 cA P zbL [o] s fun p s =>
 zah P x0 [dm p] s fun q s =>
 unC .not q s fun r s =>
 zr r (Z (some []) s) (bP .add i (iN 1) s fun u s =>
 h [u] s)) (Z (some []) s))
theorem zeH : F2 Tryz.prog zbQ zeK := zh [.l [14] [(4, 1), (15, 14)]] Tryz.func52
def zep (P : Program) (x0 : AV) (σ : LO) (Z : ZT) : Prop :=
 zt P zcz [x0] σ fun a s =>
 zt P zbT [a] s fun _ s =>
 z1 Z a s
theorem zeo : F1 Tryz.prog zcH zep := zpJ [] Tryz.func53
def zaI (P : Program) (x0 : AV) (σ : LO) (Z : ZT) : Prop :=
 zbr x0 σ fun a s =>
 z1 Z (.fn (.func zN) [] [a]) s
theorem zaH : F1 Tryz.prog zak zaI := zh [] Tryz.func54
def zgb (P : Program) (x0 : AV) (σ : LO) (Z : ZT) : Prop :=
 zci .eql .ptr x0 (.d .nilp) σ fun a s =>
 gFm a x0 s fun b s =>
 gF a (zbz b s) s fun c s =>
 gFl a 1 c s fun d s =>
 gF a (zci .eql .map d (.d .nilmap) s) s fun e s =>
 orC a e s fun f s =>
 z1 Z f s
theorem zkm : F1 Tryz.prog zbR zgb := zh [] Tryz.func55
def zlY (P : Program) (x0 : AV) (σ : LO) (Z : ZT) : Prop :=
 zaD .sl x0 σ fun a s =>
 bP .gtr a (iN 1048576) s fun b s =>
 zr b (z2 Z (.d .nilp) (iN 3) s) (cA P zdm [] s fun c s =>
 zaD .sl x0 s fun d s =>
 zbx [(iN 0)] s fun v s e =>
 zaR v fun f v => bP .lss f d s fun g s =>
 zr g (il false 1 1 x0 f s fun h s =>
 cA P zbA [c, h] s fun i s =>
 zc i 0 s fun _ s =>
 zc i 1 s fun l s =>
 zr l (z2 Z (.d .nilp) (iN 5) s) (cA P zcP [c, h] s fun _ s =>
 bP .add f (iN 1) s fun n s =>
 e [n] s)) (z2 Z c (iN 0) s))
theorem zlO : F1 Tryz.prog zhK zlY := zh [.l [15] [(2, 2), (6, 3), (16, 14)]] Tryz.func56
def zfK (P : Program) (x0 : AV) (σ : LO) (Z : ZT) : Prop :=
 zci .eql .ptr x0 (.d .nilp) σ fun a s =>
 gFm a x0 s fun b s =>
 gF a (zbz b s) s fun c s =>
 gFl a 1 c s fun d s =>
 gF a (zci .eql .map d (.d .nilmap) s) s fun e s =>
 orC a e s fun f s =>
 z1 Z f s
theorem zjx : F1 Tryz.prog zbI zfK := zh [] Tryz.func57
end Go.Proofs.YtjjchfbckfopkaaGreat
