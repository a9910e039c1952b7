/- The conditions of each function, its slots as variables, and that the logic's conditions are these. Printed by program. -/
import Derived.Test.YtpgahkdjkanblaaGreatNm
import Derived.KernelRfl
set_option linter.all false
set_option maxRecDepth 100000
set_option linter.unusedVariables false
namespace Go.Proofs.YtpgahkdjkanblaaGreat
open Go.AW
def zkj (P : Program) (x0 x1 x2 x3 : AV) (σ : LO) (Z : ZT) : Prop :=
 zbf x0 σ fun a s =>
 zg true 2 a s fun b s =>
 cA P zfN [b] s fun c s =>
 zc c 0 s fun d s =>
 zc c 1 s fun e s =>
 zc c 2 s fun _ s =>
 zc c 3 s fun _ s =>
 zc c 4 s fun h s =>
 cA P zlp [] s fun i s =>
 unC .not i s fun j s =>
 gFm j h s fun l s =>
 gF j (unC .not l s) s fun m s =>
 orC j m s fun n s =>
 zp n (cA P zlp [] s fun o s =>
 z1 Z o s) (cA P zkq [d, e, x1, x2, x3] s fun p s =>
 zc p 0 s fun q s =>
 zc p 1 s fun r s =>
 cp [iN 0, iN 0, iN 0, iN 0, iN 0, iN 0, iN 0, iN 0, iN 0, eN, iN 0, iN 0, eN, eN, eN, eN, (.d (.str [])), iN 0, (.d (.str [])), iN 0, eN, eN, iN 0, iN 0, eN, iN 0, iN 0, eN, iN 0, iN 0] 30 q s fun u s =>
 bP .neq r (iN 0) s fun w s =>
 zp w (z1 Z bT s) (zg true 30 u s fun y s =>
 cA P ziY [d, e, x1, y] s fun z s =>
 zc z 0 s fun A s =>
 zc z 1 s fun B s =>
 zc z 2 s fun C s =>
 cp [iN 0, iN 0, eN] 3 A s fun D s =>
 fl 13 u s fun E s =>
 cA P zcn [x1, x2, E] s fun F s =>
 zc F 0 s fun G s =>
 zc F 1 s fun H s =>
 zc F 2 s fun I s =>
 cp [iN 0, iN 0, eN] 3 G s fun J s =>
 unC .not C s fun K s =>
 gFm K I s fun L s =>
 gF K (bP .neq L (iN 0) s) s fun M s =>
 orC K M s fun N s =>
 gF N (zg true 3 D s) s fun O s =>
 gF N (zg true 3 J s) s fun Q s =>
 gF N (cA P zko [O, Q] s) s fun R s =>
 gF N (unC .not R s) s fun S s =>
 orC N S s fun T s =>
 gFm T B s fun U s =>
 gF T (zaz .sl U s) s fun V s =>
 gFm T H s fun W s =>
 gF T (zaz .sl W s) s fun X s =>
 gF T (bP .neq V X s) s fun Y s =>
 orC T Y s fun a0 s =>
 gF a0 (zb 13 u s) s fun b0 s =>
 gF a0 (zg false 1 b0 s) s fun c0 s =>
 gF a0 (zaz .sl c0 s) s fun d0 s =>
 gFm a0 x1 s fun e0 s =>
 gF a0 (cA P zrV [e0] s) s fun f0 t =>
 zZ b0 s t ∧ (gF a0 (bP .neq d0 f0 t) t fun g0 s =>
 orC a0 g0 s fun h0 s =>
 zp h0 (z1 Z bF s) (zaz .sl B s fun i0 s =>
 zcd [(iN 0)] s fun v s j0 =>
 zbM v fun l0 v => bP .lss l0 i0 s fun m0 s =>
 zp m0 (zL none 5 B l0 s fun o0 s =>
 fl 2 o0 s fun p0 s =>
 zL none 5 H l0 s fun q0 s =>
 fl 2 q0 s fun r0 s =>
 cA P zqj [p0, r0] s fun u0 s =>
 unC .not u0 s fun w0 s =>
 gFm w0 B s fun y0 s =>
 gFm w0 l0 s fun z0 s =>
 gF w0 (zL none 5 y0 z0 s) s fun A0 s =>
 gFl w0 1 A0 s fun B0 s =>
 gFm w0 H s fun C0 s =>
 gFm w0 l0 s fun D0 s =>
 gF w0 (zL none 5 C0 D0 s) s fun E0 s =>
 gFl w0 1 E0 s fun F0 s =>
 gF w0 (bP .neq B0 F0 s) s fun G0 s =>
 orC w0 G0 s fun H0 s =>
 zp H0 (z1 Z bF s) (bP .add l0 (iN 1) s fun I0 s =>
 j0 [I0] s)) (z1 Z bT s)))))
theorem zjW : F4 Tryz.prog zjO zkj := zi [.d [(0, 27)] [(24, [87])], .l [96] [(8, 1), (22, 1), (97, 28)], .d [(0, 25)] []] Tryz.func4 (by decide +kernel) (by kernel_rfl) fun {_ _ _ _ _ _ _} => cast (by kernel_rfl)
def zim (P : Program) (x0 : AV) (σ : LO) (Z : ZT) : Prop :=
 zbf x0 σ fun a s =>
 fl 0 a s fun b s =>
 cA P zhJ [b] s fun c s =>
 zc c 0 s fun d s =>
 zc c 1 s fun e s =>
 fl 0 a s fun f s =>
 cA P zkB [f] s fun g s =>
 zc g 0 s fun h s =>
 zc g 1 s fun i s =>
 cA P zfv [] s fun j s =>
 zB (zR [eN] []) s fun l s =>
 zbf l s fun m s =>
 bP .neq e (iN 0) s fun n s =>
 gFm n i s fun o s =>
 gF n (bP .neq o (iN 0) s) s fun p s =>
 orC n p s fun q s =>
 gFm q d s fun r s =>
 gF q (zcO .eql .ptr r (.d .nilp) s) s fun u s =>
 orC q u s fun w s =>
 gFm w j s fun y s =>
 gF w (zcO .eql .ptr y (.d .nilp) s) s fun z s =>
 orC w z s fun A s =>
 zp A (Z (zI (some (.d .nilp)) (zI (some (.d .nilp)) (zI (some (.d .nilp)) (zI (some (.d .nilp)) (zI (some bF) (some [])))))) s) (fl 1 a s fun B s =>
 zaz .sl B s fun C s =>
 zcd [(iN 0)] s fun v s D =>
 zbM v fun E v => bP .lss E C s fun F s =>
 zp F (il true 2 2 B E s fun G s =>
 cp [iN 0, iN 0] 2 G s fun H s =>
 fl 0 H s fun I s =>
 fl 1 H s fun J s =>
 cA P zdq [j, I, J] s fun _ s =>
 fl 0 H s fun L s =>
 fl 1 H s fun M s =>
 cA P zhm [m, L, M] s fun _ s =>
 bP .add E (iN 1) s fun O s =>
 D [O] s) (Z (zI (some d) (zI (some j) (zI (some h) (zI (some m) (zI (some bT) (some [])))))) s))
theorem zfO : F1 Tryz.prog zfN zim := zi [.l [47] [(14, 1), (48, 16)]] Tryz.func7 (by decide +kernel) (by kernel_rfl) fun {_ _ _ _} => cast (by kernel_rfl)
def zsN (P : Program) (σ : LO) (Z : ZT) : Prop :=
 zB (zR [iN 0, iN 0, iN 0, (.d (.str [])), (.d (.str [])), iN 0, eN] [(0, 1, (iN 1)), (1, 1, (iN 1))]) σ fun a s =>
 zB (zR [iN 0, iN 0] [(0, 1, (iN 14)), (1, 1, (iN 1))]) s fun b s =>
 zB (zR [iN 0, iN 0, iN 0, (.d (.str [])), (.d (.str [])), iN 0, eN, iN 0, iN 0] [(0, 7, a), (7, 2, b)]) s fun c s =>
 m1 9 [iN 0, iN 0, iN 0, (.d (.str [])), (.d (.str [])), iN 0, eN, iN 0, iN 0] c s fun d s =>
 zB (zR [iN 0, iN 0, iN 0, iN 0, iN 0, eN, eN] [(1, 1, (iN 1)), (6, 1, d)]) s fun e s =>
 zB (zR [iN 0, iN 0, iN 0, iN 0, iN 0, eN, eN] [(1, 1, (iN 3))]) s fun f s =>
 zj false 7 2 (zR (rep [iN 0, iN 0, iN 0, iN 0, iN 0, eN, eN] 2) [(0, 7, e), (7, 7, f)]) s fun g s =>
 zB (zR [iN 0, iN 0, iN 0, iN 0, eN, eN, iN 0, iN 0] [(1, 1, (iN 0)), (5, 1, g)]) s fun h s =>
 zB (zR [iN 0, iN 0, iN 0, iN 0, eN, eN, iN 0, iN 0] [(1, 1, (iN 1))]) s fun i s =>
 zB (zR [iN 0, iN 0, iN 0, iN 0, iN 0, eN, eN] [(0, 1, (iN 1)), (1, 1, (iN 3)), (6, 1, d)]) s fun j s =>
 m1 7 [iN 0, iN 0, iN 0, iN 0, iN 0, eN, eN] j s fun l s =>
 zB (zR [iN 0, iN 0, iN 0, iN 0, eN, eN, iN 0, iN 0] [(1, 1, (iN 3)), (5, 1, l)]) s fun m s =>
 zj false 8 3 (zR (rep [iN 0, iN 0, iN 0, iN 0, eN, eN, iN 0, iN 0] 3) [(0, 8, h), (8, 8, i), (16, 8, m)]) s fun n s =>
 cA P zcn [(iN 1), (iN 2), n] s fun o s =>
 zc o 0 s fun p s =>
 zc o 1 s fun q s =>
 zc o 2 s fun r s =>
 cp [iN 0, iN 0, eN] 3 p s fun _ s =>
 bP .eql r (iN 0) s fun w s =>
 gTm w q s fun y s =>
 gT w (zaz .sl y s) s fun z s =>
 gT w (bP .eql z (iN 3) s) s fun A s =>
 anC w A s fun B s =>
 gTm B q s fun C s =>
 gT B (zL none 5 C (iN 0) s) s fun D s =>
 gTl B 2 D s fun E s =>
 gT B (zaz .sl E s) s fun F s =>
 gT B (bP .eql F (iN 1) s) s fun G s =>
 anC B G s fun H s =>
 gTm H q s fun I s =>
 gT H (zL none 5 I (iN 1) s) s fun J s =>
 gTl H 2 J s fun K s =>
 gT H (zaz .sl K s) s fun L s =>
 gT H (bP .eql L (iN 0) s) s fun M s =>
 anC H M s fun N s =>
 gTm N q s fun O s =>
 gT N (zL none 5 O (iN 2) s) s fun Q s =>
 gTl N 2 Q s fun R s =>
 gT N (zaz .sl R s) s fun S s =>
 gT N (bP .eql S (iN 1) s) s fun T s =>
 anC N T s fun U s =>
 gTm U q s fun V s =>
 gT U (zL none 5 V (iN 2) s) s fun W s =>
 gTl U 1 W s fun X s =>
 gT U (bP .eql X (iN 3) s) s fun Y s =>
 anC U Y s fun a0 s =>
 gTm a0 q s fun b0 s =>
 gT a0 (zL none 5 b0 (iN 2) s) s fun c0 s =>
 gTl a0 0 c0 s fun d0 s =>
 gT a0 (bP .eql d0 (iN 2) s) s fun e0 s =>
 anC a0 e0 s fun f0 s =>
 z1 Z f0 s
theorem zso : F0 Tryz.prog zlp zsN := zi [] Tryz.func8 (by decide +kernel) (by kernel_rfl) fun {_ _ _} => cast (by kernel_rfl)
def zon (P : Program) (x0 x1 x2 x3 x4 : AV) (σ : LO) (Z : ZT) : Prop :=
 zQ [iN 0, iN 0, iN 0, iN 0, iN 0, iN 0, iN 0, iN 0, iN 0, eN, iN 0, iN 0, eN, eN, eN, eN, (.d (.str [])), iN 0, (.d (.str [])), iN 0, eN, eN, iN 0, iN 0, eN, iN 0, iN 0, eN, iN 0, iN 0] σ fun a s =>
 cA P zcc [x0] s fun b s =>
 zcO .eql .ptr b (.d .nilp) s fun c s =>
 gFm c x1 s fun d s =>
 gF c (cA P zcl [d] s) s fun e s =>
 gF c (zcO .eql .ptr e (.d .nilp) s) s fun f s =>
 orC c f s fun g s =>
 zp g (zB (zR [iN 0, iN 0, iN 0, iN 0, iN 0, iN 0, iN 0, iN 0, iN 0, eN, iN 0, iN 0, eN, eN, eN, eN, (.d (.str [])), iN 0, (.d (.str [])), iN 0, eN, eN, iN 0, iN 0, eN, iN 0, iN 0, eN, iN 0, iN 0] []) s fun h s =>
 zf 30 a h s fun _ s =>
 Z (zI (zan a s true 30) (zI (some (iN 2)) (some []))) s) (cA P ziF [x2, x3, x4] s fun j s =>
 bP .neq j (iN 0) s fun l s =>
 zp l (zB (zR [iN 0, iN 0, iN 0, iN 0, iN 0, iN 0, iN 0, iN 0, iN 0, eN, iN 0, iN 0, eN, eN, eN, eN, (.d (.str [])), iN 0, (.d (.str [])), iN 0, eN, eN, iN 0, iN 0, eN, iN 0, iN 0, eN, iN 0, iN 0] []) s fun m s =>
 zf 30 a m s fun _ s =>
 Z (zI (zan a s true 30) (zI (some j) (some []))) s) (zaz .sl x4 s fun o s =>
 zcd [(iN 0)] s fun v s p =>
 zbM v fun q v => bP .lss q o s fun r s =>
 zp r (il true 8 8 x4 q s fun u s =>
 cp [iN 0, iN 0, iN 0, iN 0, eN, eN, iN 0, iN 0] 8 u s fun w s =>
 zg true 8 w s fun y s =>
 cA P zgq [x0, x1, x2, x3, y] s fun z s =>
 unC .not z s fun A s =>
 zp A (zB (zR [iN 0, iN 0, iN 0, iN 0, iN 0, iN 0, iN 0, iN 0, iN 0, eN, iN 0, iN 0, eN, eN, eN, eN, (.d (.str [])), iN 0, (.d (.str [])), iN 0, eN, eN, iN 0, iN 0, eN, iN 0, iN 0, eN, iN 0, iN 0] []) s fun B s =>
 zf 30 a B s fun _ s =>
 Z (zI (zan a s true 30) (zI (some (iN 161)) (some []))) s) (bP .add q (iN 1) s fun D s =>
 p [D] s)) (cA P zhI [x2] s fun E s =>
 zdn (.sl 8) x4 none (some E) none s fun F s =>
 cA P zcn [x2, x3, F] s fun G s =>
 zc G 0 s fun H s =>
 zc G 1 s fun I s =>
 zc G 2 s fun J s =>
 cp [iN 0, iN 0, eN] 3 H s fun _ s =>
 bP .neq J (iN 0) s fun L s =>
 zp L (zB (zR [iN 0, iN 0, iN 0, iN 0, iN 0, iN 0, iN 0, iN 0, iN 0, eN, iN 0, iN 0, eN, eN, eN, eN, (.d (.str [])), iN 0, (.d (.str [])), iN 0, eN, eN, iN 0, iN 0, eN, iN 0, iN 0, eN, iN 0, iN 0] []) s fun M s =>
 zf 30 a M s fun _ s =>
 Z (zI (zan a s true 30) (zI (some J) (some []))) s) (cA P zeK [x2, x3] s fun O s =>
 zB (zR [iN 0, iN 0, iN 0, iN 0, iN 0, iN 0, iN 0, iN 0, iN 0, eN, iN 0, iN 0, eN, eN, eN, eN, (.d (.str [])), iN 0, (.d (.str [])), iN 0, eN, eN, iN 0, iN 0, eN, iN 0, iN 0, eN, iN 0, iN 0] [(0, 1, (iN 8)), (1, 1, O), (2, 1, x3), (13, 1, F)]) s fun Q s =>
 cp [iN 0, iN 0, iN 0, iN 0, iN 0, iN 0, iN 0, iN 0, iN 0, eN, iN 0, iN 0, eN, eN, eN, eN, (.d (.str [])), iN 0, (.d (.str [])), iN 0, eN, eN, iN 0, iN 0, eN, iN 0, iN 0, eN, iN 0, iN 0] 30 Q s fun R s =>
 zaz .sl I s fun S s =>
 zcd [(iN 0)] s fun v s T =>
 zbM v fun U v => bP .lss U S s fun V s =>
 zp V (il true 5 5 I U s fun W s =>
 cp [iN 0, iN 0, eN, iN 0, iN 0] 5 W s fun X s =>
 fl 1 R s fun Y s =>
 zg true 5 X s fun a0 s =>
 cA P zmM [x0, x1, Y, a0] s fun b0 s =>
 zc b0 0 s fun c0 s =>
 zc b0 1 s fun d0 s =>
 cp [iN 0, iN 0, eN, iN 0, iN 0] 5 c0 s fun e0 s =>
 bP .neq d0 (iN 0) s fun f0 s =>
 zp f0 (zB (zR [iN 0, iN 0, iN 0, iN 0, iN 0, iN 0, iN 0, iN 0, iN 0, eN, iN 0, iN 0, eN, eN, eN, eN, (.d (.str [])), iN 0, (.d (.str [])), iN 0, eN, eN, iN 0, iN 0, eN, iN 0, iN 0, eN, iN 0, iN 0] []) s fun g0 s =>
 zf 30 a g0 s fun _ s =>
 Z (zI (zan a s true 30) (zI (some d0) (some []))) s) (fl 14 R s fun i0 s =>
 zg true 5 e0 s fun j0 s =>
 m1 5 [iN 0, iN 0, eN, iN 0, iN 0] j0 s fun l0 s =>
 zE 5 56 i0 l0 s fun m0 s =>
 zb 14 R s fun o0 s =>
 zf 1 o0 m0 s fun _ s =>
 bP .add U (iN 1) s fun q0 s =>
 T [q0] s)) (zg true 30 R s fun r0 s =>
 cA P zox [x0, x1, r0] s fun u0 s =>
 zc u0 0 s fun w0 s =>
 zc u0 1 s fun y0 s =>
 zf 30 a w0 s fun _ s =>
 Z (zI (zan a s true 30) (zI (some y0) (some []))) s)))))
theorem zob : F5 Tryz.prog zkq zon := zi [.l [42] [(11, 1), (14, 1), (43, 12)], .l [79] [(11, 1), (20, 3), (80, 23)]] Tryz.func9 (by decide +kernel) (by kernel_rfl) fun {_ _ _ _ _ _ _ _} => cast (by kernel_rfl)
def zlb (P : Program) (x0 : AV) (σ : LO) (Z : ZT) : Prop :=
 cA P zcS [x0] σ fun a s =>
 zp a (z1 Z (iN 0) s) (nfl 0 x0 s fun b s =>
 zaz .sl b s fun c s =>
 z1 Z c s)
theorem zkN : F1 Tryz.prog zfu zlb := zi [] Tryz.func13 (by decide +kernel) (by kernel_rfl) fun {_ _ _ _} => cast (by kernel_rfl)
def zkm (P : Program) (x0 : AV) (σ : LO) (Z : ZT) : Prop :=
 cA P zcv [x0] σ fun a s =>
 zp a (z1 Z (iN 0) s) (nfl 0 x0 s fun b s =>
 zaz .sl b s fun c s =>
 z1 Z c s)
theorem zjZ : F1 Tryz.prog zgs zkm := zi [] Tryz.func14 (by decide +kernel) (by kernel_rfl) fun {_ _ _ _} => cast (by kernel_rfl)
def zmd (P : Program) (x0 x1 x2 x3 : AV) (σ : LO) (Z : ZT) : Prop :=
 zbf x3 σ fun a s =>
 zQ [iN 0, iN 0, eN] s fun b s =>
 fl 0 a s fun c s =>
 bP .neq c (iN 8) s fun d s =>
 gFm d x2 s fun e s =>
 gF d (zl P zcB [e] s) s fun f s =>
 gF d (bP .neq f (iN 0) s) s fun g s =>
 orC d g s fun h s =>
 gF h (zb 1 a s) s fun i s =>
 gF h (zg false 1 i s) s fun j s =>
 gFm h x2 s fun l s =>
 gFl h 2 a s fun m s =>
 gF h (zl P zeK [l, m] s) s fun n t =>
 zZ i s t ∧ (gF h (bP .neq j n t) t fun o s =>
 orC h o s fun p s =>
 gFm p x0 s fun q s =>
 gFm p x1 s fun r s =>
 gF p (zg true 30 a s) s fun u s =>
 gF p (zl P zhK [q, r, u] s) s fun w s =>
 gF p (unC .not w s) s fun y s =>
 orC p y s fun z s =>
 zp z (zB (zR [iN 0, iN 0, eN] []) s fun A s =>
 zf 3 b A s fun _ s =>
 Z (zI (zan b s true 3) (zI (some eN) (zI (some bF) (some [])))) s) (fl 2 a s fun C s =>
 fl 13 a s fun D s =>
 zl P zcn [x2, C, D] s fun E s =>
 zc E 0 s fun F s =>
 zc E 1 s fun G s =>
 zc E 2 s fun H s =>
 cp [iN 0, iN 0, eN] 3 F s fun I s =>
 bP .neq H (iN 0) s fun J s =>
 gFm J G s fun K s =>
 gF J (zaz .sl K s) s fun L s =>
 gFl J 14 a s fun M s =>
 gF J (zaz .sl M s) s fun N s =>
 gF J (bP .neq L N s) s fun O s =>
 orC J O s fun Q s =>
 zp Q (zB (zR [iN 0, iN 0, eN] []) s fun R s =>
 zf 3 b R s fun _ s =>
 Z (zI (zan b s true 3) (zI (some eN) (zI (some bF) (some [])))) s) (fl 13 a s fun T s =>
 zaz .sl T s fun U s =>
 zcd [(iN 0)] s fun v s V =>
 zbM v fun W v => bP .lss W U s fun X s =>
 zp X (il true 8 8 T W s fun Y s =>
 cp [iN 0, iN 0, iN 0, iN 0, eN, eN, iN 0, iN 0] 8 Y s fun a0 s =>
 fl 2 a s fun b0 s =>
 zg true 8 a0 s fun c0 s =>
 zl P zgq [x0, x1, x2, b0, c0] s fun d0 s =>
 unC .not d0 s fun e0 s =>
 zp e0 (zB (zR [iN 0, iN 0, eN] []) s fun f0 s =>
 zf 3 b f0 s fun _ s =>
 Z (zI (zan b s true 3) (zI (some eN) (zI (some bF) (some [])))) s) (bP .add W (iN 1) s fun h0 s =>
 V [h0] s)) (fl 14 a s fun i0 s =>
 zaz .sl i0 s fun j0 s =>
 zcd [(iN 0)] s fun v s l0 =>
 zbM v fun m0 v => bP .lss m0 j0 s fun o0 s =>
 zp o0 (il true 5 5 i0 m0 s fun p0 s =>
 zQ [iN 0, iN 0, eN, iN 0, iN 0] s fun q0 s =>
 zf 5 q0 p0 s fun _ s =>
 zg true 5 q0 s fun u0 s =>
 il true 5 5 G m0 s fun w0 s =>
 zl P zkp [u0, w0] s fun y0 s =>
 unC .not y0 s fun z0 s =>
 gFm z0 x0 s fun A0 s =>
 gFm z0 x1 s fun B0 s =>
 gFl z0 1 a s fun C0 s =>
 gF z0 (zg true 5 q0 s) s fun D0 s =>
 gF z0 (zl P zhn [A0, B0, C0, D0] s) s fun E0 s =>
 gF z0 (unC .not E0 s) s fun F0 s =>
 orC z0 F0 s fun G0 s =>
 zp G0 (zB (zR [iN 0, iN 0, eN] []) s fun H0 s =>
 zf 3 b H0 s fun _ s =>
 Z (zI (zan b s true 3) (zI (some eN) (zI (some bF) (some [])))) s) (zb 3 q0 s fun J0 s =>
 zg true 2 J0 s fun K0 s =>
 zL none 5 G m0 s fun L0 s =>
 zb 3 L0 s fun M0 s =>
 zf 2 M0 K0 s fun _ s =>
 bP .add m0 (iN 1) s fun O0 s =>
 l0 [O0] s)) (zg true 3 I s fun Q0 s =>
 zf 3 b Q0 s fun _ s =>
 Z (zI (zan b s true 3) (zI (some G) (zI (some bT) (some [])))) s)))))
theorem zlN : F4 Tryz.prog ziY zmd := zlv [.d [(0, 24)] [(14, [27])], .l [67] [(9, 2), (15, 1), (68, 13)], .l [84] [(9, 2), (16, 2), (85, 28)], .d [(0, 16)] []] Tryz.func15 (by decide +kernel) (by kernel_rfl) fun {_ _ _ _ _ _ _} => cast (by kernel_rfl)
def zoj (P : Program) (x0 x1 : AV) (σ : LO) (Z : ZT) : Prop :=
 zbf x0 σ fun a s =>
 zbf x1 s fun b s =>
 fl 0 a s fun c s =>
 fl 0 b s fun d s =>
 bP .eql c d s fun e s =>
 gTl e 1 a s fun f s =>
 gTl e 1 b s fun g s =>
 gT e (bP .eql f g s) s fun h s =>
 anC e h s fun i s =>
 gTl i 2 a s fun j s =>
 gTl i 2 b s fun l s =>
 gT i (cA P ziX [j, l] s) s fun m s =>
 anC i m s fun n s =>
 z1 Z n s
theorem znX : F2 Tryz.prog zko zoj := zi [] Tryz.func17 (by decide +kernel) (by kernel_rfl) fun {_ _ _ _ _} => cast (by kernel_rfl)
def zkX (P : Program) (x0 x1 x2 : AV) (σ : LO) (Z : ZT) : Prop :=
 zQ [iN 0, iN 0, eN] σ fun a s =>
 zl P ziF [x0, x1, x2] s fun b s =>
 bP .neq b (iN 0) s fun c s =>
 zp c (zB (zR [iN 0, iN 0, eN] []) s fun d s =>
 zf 3 a d s fun _ s =>
 Z (zI (zan a s true 3) (zI (some eN) (zI (some b) (some [])))) s) (zL none 8 x2 (iN 0) s fun f s =>
 zb 2 f s fun g s =>
 zg true 3 g s fun h s =>
 cp [iN 0, iN 0, eN] 3 h s fun i s =>
 zap s fun j s =>
 zaz .sl x2 s fun l s =>
 zcd [(iN 0), (iN 0)] s fun v s m =>
 zbM v fun n v => zbM v fun o v => bP .lss o l s fun p s =>
 zp p (il true 8 8 x2 o s fun q s =>
 cp [iN 0, iN 0, iN 0, iN 0, eN, eN, iN 0, iN 0] 8 q s fun r s =>
 (fun (u : LO → Prop) => zb 2 r s fun Y s =>
 fl 0 Y s fun a0 s =>
 fl 0 i s fun b0 s =>
 bP .gtr a0 b0 s fun c0 s =>
 zp c0 (zb 2 r s fun d0 s =>
 zg true 3 d0 s fun e0 s =>
 zf 3 i e0 s fun _ s =>
 u s) (u s))
 (fun  s => fl 5 r s fun w s =>
 zaz .sl w s fun y s =>
 zcd [n, (iN 0)] s fun v s z =>
 zbM v fun A v => zbM v fun B v => bP .lss B y s fun C s =>
 zp C (il true 7 7 w B s fun D s =>
 cp [iN 0, iN 0, iN 0, iN 0, iN 0, eN, eN] 7 D s fun E s =>
 (fun (F : LO → Prop) => fl 1 E s fun J s =>
 zaK .int true (.agg [iN 0, iN 0, iN 0, iN 0, iN 0, eN, eN]) j J s fun K s =>
 zc K 0 s fun L s =>
 zc K 1 s fun M s =>
 cp [iN 0, iN 0, iN 0, iN 0, iN 0, eN, eN] 7 L s fun N s =>
 unC .not M s fun O s =>
 gFl O 0 E s fun Q s =>
 gFl O 0 N s fun R s =>
 gF O (bP .gtr Q R s) s fun S s =>
 orC O S s fun T s =>
 zp T (fl 1 E s fun U s =>
 zg true 7 E s fun V s =>
 zaV .int j U V s fun _ s =>
 F s) (F s))
 (fun  s => fl 1 E s fun G s =>
 zdz [A, G] s fun H s =>
 bP .add B (iN 1) s fun I s =>
 z [H, I] s)) (bP .add o (iN 1) s fun X s =>
 m [A, X] s))) (fl 2 i s fun g0 s =>
 zfA 2 16 eN g0 s fun h0 s =>
 zb 2 i s fun i0 s =>
 zf 1 i0 h0 s fun _ s =>
 fl 0 i s fun l0 s =>
 bP .lss l0 (iN 0) s fun m0 s =>
 gFm m0 n s fun o0 s =>
 gFl m0 0 i s fun p0 s =>
 gF m0 (bP .leq o0 p0 s) s fun q0 s =>
 orC m0 q0 s fun r0 s =>
 zp r0 (zg true 3 i s fun u0 s =>
 zf 3 a u0 s fun _ s =>
 Z (zI (zan a s true 3) (zI (some eN) (zI (some (iN 0)) (some [])))) s) (fl 0 i s fun y0 s =>
 bP .sub n y0 s fun z0 s =>
 zdA [z0, (iN 8)] s fun A0 s =>
 zcd [eN, (iN 0)] s fun v s B0 =>
 zbM v fun C0 v => zbM v fun D0 v => bP .lss D0 A0 s fun E0 s =>
 zp E0 (fl 0 i s fun F0 s =>
 bP .add F0 D0 s fun G0 s =>
 bP .add G0 (iN 1) s fun H0 s =>
 zaK .int false (.agg [iN 0, iN 0, iN 0, iN 0, iN 0, eN, eN]) j H0 s fun I0 s =>
 zae false 6 1 I0 s fun J0 s =>
 zl P zdo [J0] s fun K0 s =>
 zB (zR [iN 0, iN 0, eN, iN 0, iN 0] [(0, 1, x1), (1, 1, H0), (2, 1, K0)]) s fun L0 s =>
 zj true 5 1 (zR (rep [iN 0, iN 0, eN, iN 0, iN 0] 1) [(0, 5, L0)]) s fun M0 s =>
 zfA 5 56 C0 M0 s fun N0 s =>
 bP .add D0 (iN 1) s fun O0 s =>
 B0 [N0, O0] s) (zg true 3 i s fun Q0 s =>
 zf 3 a Q0 s fun _ s =>
 Z (zI (zan a s true 3) (zI (some C0) (zI (some (iN 0)) (some [])))) s))))
theorem zkJ : F3 Tryz.prog zcn zkX := zlv [.l [12, 37] [(14, 1), (16, 3), (38, 44)], .l [12, 52] [(16, 3), (53, 28)], .l [19, 101] [(20, 2), (102, 19)]] Tryz.func19 (by decide +kernel) (by kernel_rfl) fun {_ _ _ _ _ _} => cast (by kernel_rfl)
def S_r12_Big (P : Program) (x0 : AV) (σ : LO) (Z : ZT) : Prop :=
 cA P zou [x0] σ fun a s =>
 bP .neq a (iN 0) s fun b s =>
 zp b (z1 Z (iN 0) s) (bP .mul (iN 2) x0 s fun c s =>
 bP .add c (iN 1) s fun d s =>
 z1 Z d s)
theorem e_r12_Big : F1 Tryz.prog zrV S_r12_Big := zi [] Tryz.func20 (by decide +kernel) (by kernel_rfl) fun {_ _ _ _} => cast (by kernel_rfl)
def zul (P : Program) (x0 x1 : AV) (σ : LO) (Z : ZT) : Prop :=
 zaz .sl x0 σ fun a s =>
 zaz .sl x1 s fun b s =>
 bP .neq a b s fun c s =>
 zp c (z1 Z bF s) (zcd [(iN 0)] s fun v s d =>
 zbM v fun e v => zaz .sl x0 s fun f s =>
 bP .lss e f s fun g s =>
 zp g (zL none 9 x0 e s fun h s =>
 zb 7 h s fun i s =>
 zg true 2 i s fun j s =>
 zL none 9 x1 e s fun l s =>
 zb 7 l s fun m s =>
 zg true 2 m s fun n s =>
 zcO .neq (.ints 2) j n s fun o s =>
 gFm o x0 s fun p s =>
 gFm o e s fun q s =>
 gF o (zL none 9 p q s) s fun r s =>
 gF o (zb 0 r s) s fun u s =>
 gF o (zg true 7 u s) s fun w s =>
 gFm o x1 s fun y s =>
 gFm o e s fun z s =>
 gF o (zL none 9 y z s) s fun A s =>
 gF o (zb 0 A s) s fun B s =>
 gF o (zg true 7 B s) s fun C s =>
 gF o (cA P zhl [w, C] s) s fun D s =>
 gF o (unC .not D s) s fun E s =>
 orC o E s fun F s =>
 zp F (z1 Z bF s) (bP .add e (iN 1) s fun G s =>
 d [G] s)) (z1 Z bT s))
theorem ztQ : F2 Tryz.prog zqj zul := zi [.l [5] [(4, 1), (11, 31)], .d [(0, 25)] []] Tryz.func21 (by decide +kernel) (by kernel_rfl) fun {_ _ _ _ _} => cast (by kernel_rfl)
def znm (P : Program) (x0 x1 x2 x3 x4 : AV) (σ : LO) (Z : ZT) : Prop :=
 zbf x4 σ fun a s =>
 cA P zcB [x2] s fun b s =>
 bP .eql b (iN 0) s fun c s =>
 gTl c 0 a s fun d s =>
 gTm c x3 s fun e s =>
 gT c (bP .eql d e s) s fun f s =>
 anC c f s fun g s =>
 gTl g 1 a s fun h s =>
 gT g (bP .geq h (iN 0) s) s fun i s =>
 anC g i s fun j s =>
 gT j (zb 1 a s) s fun l s =>
 gT j (zg false 1 l s) s fun m s =>
 gTm j x2 s fun n s =>
 gT j (cA P zcU [n] s) s fun o t =>
 zZ l s t ∧ (gT j (bP .lss m o t) t fun p s =>
 anC j p s fun q s =>
 gTm q x0 s fun r s =>
 gTm q x1 s fun u s =>
 gT q (zg true 8 a s) s fun w s =>
 gT q (cA P zls [w] s) s fun y s =>
 gT q (cA P zhK [r, u, y] s) s fun z s =>
 anC q z s fun A s =>
 gTm A x0 s fun B s =>
 gTm A x1 s fun C s =>
 gTm A x2 s fun D s =>
 gT A (zb 2 a s) s fun E s =>
 gT A (zg true 3 E s) s fun F s =>
 gT A (cA P zln [B, C, D, F] s) s fun G s =>
 anC A G s fun H s =>
 gT H (zb 2 a s) s fun I s =>
 gTl H 0 I s fun J s =>
 gT H (bP .rem J (iN 4) s) s fun K s =>
 gT H (bP .eql K (iN 0) s) s fun L s =>
 anC H L s fun M s =>
 gTm M x0 s fun N s =>
 gTm M x1 s fun O s =>
 gTm M x2 s fun Q s =>
 gTm M x3 s fun R s =>
 gT M (zb 2 a s) s fun S s =>
 gTl M 0 S s fun T s =>
 gTl M 5 a s fun U s =>
 gT M (cA P zii [N, O, Q, R, T, U] s) s fun V s =>
 anC M V s fun W s =>
 z1 Z W s)
theorem zmY : F5 Tryz.prog zgq znm := zi [.d [(0, 56)] [(18, [26])]] Tryz.func22 (by decide +kernel) (by kernel_rfl) fun {_ _ _ _ _ _ _ _} => cast (by kernel_rfl)
def znn (P : Program) (x0 : AV) (σ : LO) (Z : ZT) : Prop :=
 zaz .sl x0 σ fun a s =>
 bP .gtr a (iN 1048576) s fun b s =>
 zp b (z2 Z (.d .nilp) (iN 3) s) (cA P zij [] s fun c s =>
 zaz .sl x0 s fun d s =>
 zcd [(iN 0)] s fun v s e =>
 zbM v fun f v => bP .lss f d s fun g s =>
 zp g (il false 1 1 x0 f s fun h s =>
 cA P zcg [c, h] s fun i s =>
 zc i 0 s fun _ s =>
 zc i 1 s fun l s =>
 zp l (z2 Z (.d .nilp) (iN 5) s) (cA P zeh [c, h] s fun _ s =>
 bP .add f (iN 1) s fun n s =>
 e [n] s)) (z2 Z c (iN 0) s))
theorem zka : F1 Tryz.prog zhJ znn := zi [.l [15] [(2, 2), (6, 3), (16, 14)]] Tryz.func24 (by decide +kernel) (by kernel_rfl) fun {_ _ _ _} => cast (by kernel_rfl)
def zuo (P : Program) (x0 : AV) (σ : LO) (Z : ZT) : Prop :=
 zaz .sl x0 σ fun a s =>
 bP .gtr a (iN 1048576) s fun b s =>
 zp b (z2 Z (.d .nilp) (iN 3) s) (zB (zR [eN] []) s fun c s =>
 zbf c s fun d s =>
 zcd [(iN 0)] s fun v s e =>
 zbM v fun f v => zaz .sl x0 s fun g s =>
 bP .lss f g s fun h s =>
 zp h (il false 1 1 x0 f s fun i s =>
 cA P zig [d, i] s fun j s =>
 zc j 0 s fun _ s =>
 zc j 1 s fun m s =>
 zp m (z2 Z (.d .nilp) (iN 5) s) (zbY d s fun n s =>
 zb 0 n s fun o s =>
 zg false 1 o s fun p s =>
 il false 1 1 x0 f s fun q s =>
 zE 1 1 eN q s fun r t =>
 zZ o s t ∧ (m1 1 [eN] r t fun u s =>
 zE 1 24 p u s fun w s =>
 zbY d s fun y s =>
 zb 0 y s fun z s =>
 zf 1 z w s fun _ s =>
 bP .add f (iN 1) s fun B s =>
 e [B] s))) (z2 Z d (iN 0) s))
theorem ztT : F1 Tryz.prog zkB zuo := zi [.l [5] [(2, 2), (6, 2), (13, 30)], .d [(0, 15)] [(9, [32])]] Tryz.func25 (by decide +kernel) (by kernel_rfl) fun {_ _ _ _} => cast (by kernel_rfl)
def zlc (P : Program) (σ : LO) (Z : ZT) : Prop :=
 zap σ fun a s =>
 zB (zR [eN, (.d .nilmap)] [(1, 1, a)]) s fun b s =>
 zbf b s fun c s =>
 z1 Z c s
theorem zkO : F0 Tryz.prog zfv zlc := zi [] Tryz.func26 (by decide +kernel) (by kernel_rfl) fun {_ _ _} => cast (by kernel_rfl)
end Go.Proofs.YtpgahkdjkanblaaGreat
