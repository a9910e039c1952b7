/- The conditions of each function, its slots as variables, and that the logic's conditions are these. Printed by program. -/
import Derived.Test.YtpgahkdjkanblaaGreatNm
import Derived.KernelRfl
set_option linter.all false
set_option maxRecDepth 100000
set_option linter.unusedVariables false
namespace Go.Proofs.YtpgahkdjkanblaaGreat
open Go.AW
def zjz (P : Program) (x0 x1 : AV) (σ : LO) (Z : ZT) : Prop :=
 zbf x0 σ fun a s =>
 zbf x1 s fun b s =>
 fl 0 a s fun c s =>
 fl 0 b s fun d s =>
 bP .eql c d s fun e s =>
 gTl e 1 a s fun f s =>
 gTl e 1 b s fun g s =>
 gT e (bP .eql f g s) s fun h s =>
 anC e h s fun i s =>
 gTl i 2 a s fun j s =>
 gTl i 2 b s fun l s =>
 gT i (cA P zeR [j, l] s) s fun m s =>
 anC i m s fun n s =>
 gT n (zb 3 a s) s fun o s =>
 gT n (zg true 2 o s) s fun p s =>
 gT n (zb 3 b s) s fun q s =>
 gT n (zg true 2 q s) s fun r s =>
 gT n (zcO .eql (.ints 2) p r s) s fun u s =>
 anC n u s fun w s =>
 z1 Z w s
theorem zjj : F2 Tryz.prog zez zjz := zi [] Tryz.func178 (by decide +kernel) (by kernel_rfl) fun {_ _ _ _ _} => cast (by kernel_rfl)
def zpP (P : Program) (x0 x1 : AV) (σ : LO) (Z : ZT) : Prop :=
 zau .toStr x0 σ fun a s =>
 zau .toStr x1 s fun b s =>
 bP .eql a b s fun c s =>
 z1 Z c s
theorem zpu : F2 Tryz.prog zgt zpP := zi [] Tryz.func179 (by decide +kernel) (by kernel_rfl) fun {_ _ _ _ _} => cast (by kernel_rfl)
def zjy (P : Program) (x0 x1 : AV) (σ : LO) (Z : ZT) : Prop :=
 zbf x0 σ fun a s =>
 zbf x1 s fun b s =>
 fl 0 a s fun c s =>
 fl 0 b s fun d s =>
 bP .eql c d s fun e s =>
 gTl e 1 a s fun f s =>
 gTl e 1 b s fun g s =>
 gT e (bP .eql f g s) s fun h s =>
 anC e h s fun i s =>
 gTl i 2 a s fun j s =>
 gTl i 2 b s fun l s =>
 gT i (cA P zgt [j, l] s) s fun m s =>
 anC i m s fun n s =>
 gTl n 3 a s fun o s =>
 gTl n 3 b s fun p s =>
 gT n (cA P zbS [o, p] s) s fun q s =>
 anC n q s fun r s =>
 gTl r 4 a s fun u s =>
 gTl r 4 b s fun w s =>
 gT r (bP .eql u w s) s fun y s =>
 anC r y s fun z s =>
 gTl z 5 a s fun A s =>
 gTl z 5 b s fun B s =>
 gT z (bP .eql A B s) s fun C s =>
 anC z C s fun D s =>
 gTl D 6 a s fun E s =>
 gTl D 6 b s fun F s =>
 gT D (cA P zbT [E, F] s) s fun G s =>
 anC D G s fun H s =>
 gT H (zb 7 a s) s fun I s =>
 gT H (zg true 3 I s) s fun J s =>
 gT H (zb 7 b s) s fun K s =>
 gT H (zg true 3 K s) s fun L s =>
 gT H (cA P zdL [J, L] s) s fun M s =>
 anC H M s fun N s =>
 z1 Z N s
theorem zji : F2 Tryz.prog zfU zjy := zi [] Tryz.func180 (by decide +kernel) (by kernel_rfl) fun {_ _ _ _ _} => cast (by kernel_rfl)
def zaY (P : Program) (x0 x1 x2 : AV) (σ : LO) (Z : ZT) : Prop :=
 zaz .sl x0 σ fun a s =>
 zaz .sl x1 s fun b s =>
 bP .neq a b s fun c s =>
 zp c (z1 Z bF s) (zaz .sl x0 s fun d s =>
 zcd [(iN 0)] s fun v s e =>
 zbM v fun f v => bP .lss f d s fun g s =>
 zp g (il false 1 1 x0 f s fun h s =>
 il false 1 1 x1 f s fun i s =>
 zam P x2 [dm h, dm i] s fun j s =>
 unC .not j s fun l s =>
 zp l (z1 Z bF s) (bP .add f (iN 1) s fun m s =>
 e [m] s)) (z1 Z bT s))
theorem zaW : F3 Tryz.prog zar zaY := zi [.l [17] [(6, 4), (18, 14)]] Tryz.func181 (by decide +kernel) (by kernel_rfl) fun {_ _ _ _ _ _} => cast (by kernel_rfl)
def zsM (P : Program) (x0 x1 : AV) (σ : LO) (Z : ZT) : Prop :=
 cA P zgt [x0, x1] σ fun a s =>
 z1 Z a s
theorem zsn : F2 Tryz.prog zlo zsM := zi [] Tryz.func182 (by decide +kernel) (by kernel_rfl) fun {_ _ _ _ _} => cast (by kernel_rfl)
def zur (P : Program) (x0 : AV) (σ : LO) (Z : ZT) : Prop :=
 zbf x0 σ fun a s =>
 zg true 5 a s fun b s =>
 cA P zrW [b] s fun c s =>
 zc c 0 s fun d s =>
 zc c 1 s fun e s =>
 cp [iN 0, (.d (.str [])), (.d (.str [])), iN 0, eN] 5 d s fun f s =>
 unC .not e s fun g s =>
 gF g (zg true 5 a s) s fun h s =>
 gF g (zg true 5 f s) s fun i s =>
 gF g (cA P zpe [h, i] s) s fun j s =>
 gF g (unC .not j s) s fun l s =>
 orC g l s fun m s =>
 zp m (z1 Z (iN 60) s) (fl 0 a s fun n s =>
 bP .neq n (iN 0) s fun o s =>
 gTl o 1 a s fun p s =>
 gT o (cA P zpf [p] s) s fun q s =>
 gT o (unC .not q s) s fun r s =>
 anC o r s fun u s =>
 zp u (z1 Z (iN 61) s) (fl 0 a s fun w s =>
 bP .eql w (iN 3) s fun y s =>
 gTl y 2 a s fun z s =>
 gT y (cA P zpf [z] s) s fun A s =>
 gT y (unC .not A s) s fun B s =>
 anC y B s fun C s =>
 zp C (z1 Z (iN 61) s) (fl 0 a s fun D s =>
 bP .eql D (iN 2) s fun E s =>
 gTl E 4 a s fun F s =>
 gT E (zaz .sl F s) s fun G s =>
 gT E (bP .lss G (iN 1) s) s fun H s =>
 gTm E H s fun I s =>
 gFl I 4 a s fun J s =>
 gF I (zaz .sl J s) s fun K s =>
 gF I (bP .gtr K (iN 4) s) s fun L s =>
 gT E (orC I L s) s fun M s =>
 gTm E M s fun N s =>
 gFl N 4 a s fun O s =>
 gFm N (.fn (.func zjM) [] []) s fun Q s =>
 gF N (cA P zbm [O, Q] s) s fun R s =>
 gT E (orC N R s) s fun S s =>
 anC E S s fun T s =>
 zp T (z1 Z (iN 62) s) (fl 3 a s fun U s =>
 bP .lss U (iN 0) s fun V s =>
 gFl V 3 a s fun W s =>
 gF V (bP .gtr W (iN 9007199254740992) s) s fun X s =>
 orC V X s fun Y s =>
 zp Y (z1 Z (iN 60) s) (z1 Z (iN 0) s)))))
theorem ztW : F1 Tryz.prog znz zur := zi [] Tryz.func183 (by decide +kernel) (by kernel_rfl) fun {_ _ _ _} => cast (by kernel_rfl)
def znj (P : Program) (x0 : AV) (σ : LO) (Z : ZT) : Prop :=
 zbf x0 σ fun a s =>
 zg true 7 a s fun b s =>
 cA P zgm [b] s fun c s =>
 bP .neq c (iN 0) s fun d s =>
 zp d (z2 Z eN c s) (fl 0 a s fun e s =>
 zau (.int .u64) e s fun f s =>
 zb 1 a s fun g s =>
 zg false 1 g s fun h s =>
 zau (.int .u64) h s fun i s =>
 zb 2 a s fun j s =>
 zg true 5 j s fun l s =>
 cA P zbg [eN, f] s fun m t =>
 zZ g s t ∧ (zZ j s t ∧ (cA P zbg [m, i] t fun n s =>
 zZ j t s ∧ (cA P zuF [n, l] s fun o s =>
 z2 Z o (iN 0) s))))
theorem zmV : F1 Tryz.prog zgn znj := zi [.d [(0, 3), (4, 3), (8, 2), (3, 1), (7, 1), (10, 3)] [(3, [14, 18]), (7, [18])]] Tryz.func184 (by decide +kernel) (by kernel_rfl) fun {_ _ _ _} => cast (by kernel_rfl)
def zhu (P : Program) (x0 x1 : AV) (σ : LO) (Z : ZT) : Prop :=
 zbf x1 σ fun a s =>
 zg true 2 a s fun b s =>
 cA P zbn [b] s fun c s =>
 bP .neq c (iN 0) s fun d s =>
 zp d (cA P zcC [x0] s fun e s =>
 z1 Z e s) (fl 0 a s fun f s =>
 zau (.int .u64) f s fun g s =>
 zb 1 a s fun h s =>
 zg false 1 h s fun i s =>
 zau (.int .u64) i s fun j s =>
 cA P zbg [x0, g] s fun l t =>
 zZ h s t ∧ (cA P zbg [l, j] t fun m s =>
 z1 Z m s))
theorem zfy : F2 Tryz.prog zef zhu := zi [.d [(0, 4), (5, 3), (4, 1), (8, 2)] [(4, [15])]] Tryz.func185 (by decide +kernel) (by kernel_rfl) fun {_ _ _ _ _} => cast (by kernel_rfl)
def zmp (P : Program) (x0 x1 : AV) (σ : LO) (Z : ZT) : Prop :=
 zaz .sl x1 σ fun a s =>
 zau (.int .u64) a s fun b s =>
 cA P zbg [x0, b] s fun c s =>
 zE 1 1 c x1 s fun d s =>
 z1 Z d s
theorem zlZ : F2 Tryz.prog zdI zmp := zi [] Tryz.func186 (by decide +kernel) (by kernel_rfl) fun {_ _ _ _ _} => cast (by kernel_rfl)
def zcp (P : Program) (x0 x1 : AV) (σ : LO) (Z : ZT) : Prop :=
 cA P zbK [x0, x1] σ fun a s =>
 bP .geq a (iN 0) s fun b s =>
 z1 Z b s
theorem zco : F2 Tryz.prog zbq zcp := zi [] Tryz.func201 (by decide +kernel) (by kernel_rfl) fun {_ _ _ _ _} => cast (by kernel_rfl)
def zha (P : Program) (x0 x1 x2 : AV) (σ : LO) (Z : ZT) : Prop :=
 zbf x0 σ fun a s =>
 zg false 1 x1 s fun b s =>
 zg false 1 x2 s fun c s =>
 zg true 9 a s fun d s =>
 cA P ziW [b, c, d] s fun e s =>
 unC .not e s fun f s =>
 z1 Z f s
theorem zgQ : F3 Tryz.prog zgL zha := zi [] Tryz.func202 (by decide +kernel) (by kernel_rfl) fun {_ _ _ _ _ _} => cast (by kernel_rfl)
def zng (P : Program) (x0 x1 x2 : AV) (σ : LO) (Z : ZT) : Prop :=
 zbf x2 σ fun a s =>
 zb 0 a s fun b s =>
 zg true 7 b s fun c s =>
 cA P zgn [c] s fun d s =>
 zc d 0 s fun e s =>
 zc d 1 s fun f s =>
 bP .neq f (iN 0) s fun g s =>
 zp g (z1 Z bF s) (cA P zcg [x0, e] s fun h s =>
 zc h 0 s fun i s =>
 zc h 1 s fun j s =>
 gT j (zb 7 a s) s fun l s =>
 gT j (zg true 2 l s) s fun m s =>
 gT j (zb 0 a s) s fun n s =>
 gTl j 0 n s fun o s =>
 gTm j i s fun p s =>
 gT j (cA P zll [o] s) s fun q t =>
 zZ l s t ∧ (gT j (zB (zR [iN 0, iN 0] [(0, 1, q), (1, 1, p)]) t) t fun r s =>
 gT j (zcO .eql (.ints 2) m r s) s fun u s =>
 anC j u s fun w s =>
 gTm w x1 s fun y s =>
 gT w (zb 7 a s) s fun z s =>
 gT w (zg true 2 z s) s fun A s =>
 gT w (cA P zdM [y, A] s) s fun B s =>
 anC w B s fun C s =>
 z1 Z C s))
theorem zmS : F3 Tryz.prog ziW zng := zi [.d [(0, 7), (8, 1), (7, 1), (9, 10)] [(7, [27])]] Tryz.func203 (by decide +kernel) (by kernel_rfl) fun {_ _ _ _ _ _} => cast (by kernel_rfl)
def zfK (P : Program) (x0 x1 : AV) (σ : LO) (Z : ZT) : Prop :=
 cA P zfc [x0, x1] σ fun a s =>
 bP .geq a (iN 0) s fun b s =>
 z1 Z b s
theorem zfJ : F2 Tryz.prog zdQ zfK := zi [] Tryz.func205 (by decide +kernel) (by kernel_rfl) fun {_ _ _ _ _} => cast (by kernel_rfl)
def zhV (P : Program) (x0 x1 : AV) (σ : LO) (Z : ZT) : Prop :=
 zbf x1 σ fun a s =>
 zbY x0 s fun b s =>
 zb 0 b s fun c s =>
 fl 0 c s fun d s =>
 zg true 2 a s fun e s =>
 cA P zef [d, e] s fun f s =>
 zbY x0 s fun g s =>
 zb 0 g s fun h s =>
 zb 0 h s fun i s =>
 zf 1 i f s fun _ s =>
 Z (some []) s
theorem zhO : F2 Tryz.prog zaR zhV := zi [.d [(0, 12)] []] Tryz.func206 (by decide +kernel) (by kernel_rfl) fun {_ _ _ _ _} => cast (by kernel_rfl)
def zhd (P : Program) (x0 : AV) (σ : LO) (Z : ZT) : Prop :=
 zbY x0 σ fun a s =>
 zb 0 a s fun b s =>
 fl 0 b s fun c s =>
 zaz .sl c s fun d s =>
 bP .gtr d (iN 262144) s fun e s =>
 zp e (z2 Z eN (iN 3) s) (zbY x0 s fun f s =>
 zb 0 f s fun g s =>
 fl 0 g s fun h s =>
 z2 Z h (iN 0) s)
theorem zgT : F1 Tryz.prog zfe zhd := zi [] Tryz.func207 (by decide +kernel) (by kernel_rfl) fun {_ _ _ _} => cast (by kernel_rfl)
def zkg (P : Program) (x0 x1 : AV) (σ : LO) (Z : ZT) : Prop :=
 zaz .sl x1 σ fun a s =>
 zcd [(iN 0)] s fun v s b =>
 zbM v fun c v => bP .lss c a s fun d s =>
 zp d (il false 1 1 x1 c s fun e s =>
 nfl 0 x0 s fun f s =>
 zau (.int .u64) e s fun g s =>
 cA P zbg [f, g] s fun h s =>
 zbY x0 s fun i s =>
 zb 0 i s fun j s =>
 zf 1 j h s fun _ s =>
 bP .add c (iN 1) s fun m s =>
 b [m] s) (Z (some []) s)
theorem zjT : F2 Tryz.prog zad zkg := zi [.l [8] [(5, 1), (9, 14)]] Tryz.func208 (by decide +kernel) (by kernel_rfl) fun {_ _ _ _ _} => cast (by kernel_rfl)
def zhe (P : Program) (x0 x1 : AV) (σ : LO) (Z : ZT) : Prop :=
 zbY x0 σ fun a s =>
 zb 0 a s fun b s =>
 fl 0 b s fun c s =>
 cA P zcf [c, x1] s fun d s =>
 zbY x0 s fun e s =>
 zb 0 e s fun f s =>
 zb 0 f s fun g s =>
 zf 1 g d s fun _ s =>
 Z (some []) s
theorem zgU : F2 Tryz.prog zbF zhe := zi [] Tryz.func209 (by decide +kernel) (by kernel_rfl) fun {_ _ _ _ _} => cast (by kernel_rfl)
def zhX (P : Program) (x0 x1 : AV) (σ : LO) (Z : ZT) : Prop :=
 zbf x1 σ fun a s =>
 zbY x0 s fun b s =>
 zb 0 b s fun c s =>
 fl 0 a s fun d s =>
 fl 1 a s fun e s =>
 zj false 1 2 (zR (rep [iN 0] 2) [(0, 1, d), (1, 1, e)]) s fun f s =>
 cA P zad [c, f] s fun _ s =>
 zb 2 a s fun h s =>
 zg true 3 h s fun i s =>
 cA P zcJ [x0, i] s fun _ s =>
 zbY x0 s fun l s =>
 zb 0 l s fun m s =>
 fl 5 a s fun n s =>
 zaz .sl n s fun o s =>
 cA P zcb [m, o] s fun _ s =>
 fl 5 a s fun q s =>
 zaz .sl q s fun r s =>
 zcd [(iN 0)] s fun v s u =>
 zbM v fun w v => bP .lss w r s fun y s =>
 zp y (il true 7 7 q w s fun z s =>
 cp [iN 0, iN 0, iN 0, iN 0, iN 0, eN, eN] 7 z s fun A s =>
 zbY x0 s fun B s =>
 zb 0 B s fun C s =>
 fl 0 A s fun D s =>
 fl 1 A s fun E s =>
 fl 2 A s fun F s =>
 zj false 1 3 (zR (rep [iN 0] 3) [(0, 1, D), (1, 1, E), (2, 1, F)]) s fun G s =>
 cA P zad [C, G] s fun _ s =>
 zb 3 A s fun I s =>
 zg true 2 I s fun J s =>
 cA P zaR [x0, J] s fun _ s =>
 fl 5 A s fun L s =>
 cA P zcr [x0, L] s fun _ s =>
 fl 6 A s fun N s =>
 cA P zbF [x0, N] s fun _ s =>
 bP .add w (iN 1) s fun Q s =>
 u [Q] s) (Z (some []) s)
theorem zhQ : F2 Tryz.prog zdK zhX := zi [.d [(0, 9)] [], .d [(0, 7)] [], .l [29] [(5, 1), (30, 27)], .d [(0, 11)] []] Tryz.func211 (by decide +kernel) (by kernel_rfl) fun {_ _ _ _ _} => cast (by kernel_rfl)
def zjx (P : Program) (x0 x1 : AV) (σ : LO) (Z : ZT) : Prop :=
 m1 1 [iN 0] x1 σ fun a s =>
 cA P zad [x0, a] s fun _ s =>
 Z (some []) s
theorem zjh : F2 Tryz.prog zcb zjx := zi [] Tryz.func212 (by decide +kernel) (by kernel_rfl) fun {_ _ _ _ _} => cast (by kernel_rfl)
def zgD (P : Program) (x0 x1 : AV) (σ : LO) (Z : ZT) : Prop :=
 zbf x1 σ fun a s =>
 zg true 8 a s fun b s =>
 cA P zdK [x0, b] s fun _ s =>
 zb 6 a s fun d s =>
 zg true 2 d s fun e s =>
 cA P zaR [x0, e] s fun _ s =>
 Z (some []) s
theorem zgx : F2 Tryz.prog zey zgD := zi [] Tryz.func213 (by decide +kernel) (by kernel_rfl) fun {_ _ _ _ _} => cast (by kernel_rfl)
def zhW (P : Program) (x0 x1 : AV) (σ : LO) (Z : ZT) : Prop :=
 zbf x1 σ fun a s =>
 zbY x0 s fun b s =>
 zb 0 b s fun c s =>
 fl 0 a s fun d s =>
 fl 1 a s fun e s =>
 zj false 1 2 (zR (rep [iN 0] 2) [(0, 1, d), (1, 1, e)]) s fun f s =>
 cA P zad [c, f] s fun _ s =>
 fl 2 a s fun h s =>
 cA P zcr [x0, h] s fun _ s =>
 Z (some []) s
theorem zhP : F2 Tryz.prog zcJ zhW := zi [.d [(0, 9)] []] Tryz.func214 (by decide +kernel) (by kernel_rfl) fun {_ _ _ _ _} => cast (by kernel_rfl)
def zro (P : Program) (x0 : AV) (σ : LO) (Z : ZT) : Prop :=
 zQ [(.d (.int .u8 0)), (.d (.int .u8 0)), (.d (.int .u8 0)), (.d (.int .u8 0)), (.d (.int .u8 0)), (.d (.int .u8 0)), (.d (.int .u8 0)), (.d (.int .u8 0)), (.d (.int .u8 0)), (.d (.int .u8 0))] σ fun a s =>
 zQ [(.d (.int .u8 0)), (.d (.int .u8 0)), (.d (.int .u8 0)), (.d (.int .u8 0)), (.d (.int .u8 0)), (.d (.int .u8 0)), (.d (.int .u8 0)), (.d (.int .u8 0)), (.d (.int .u8 0)), (.d (.int .u8 0))] s fun b s =>
 zcd [x0, (iN 0)] s fun v s c =>
 zbM v fun d v => zbM v fun e v => bP .gtr d (.d (.int .u64 127)) s fun f s =>
 zp f (zau (.int .u8) d s fun g s =>
 bP .or g (.d (.int .u8 128)) s fun h s =>
 zL (some 10) 1 b e s fun i s =>
 zf 1 i h s fun _ s =>
 bP .shr d (.d (.int .u64 7)) s fun l s =>
 bP .add e (iN 1) s fun m s =>
 c [l, m] s) (zau (.int .u8) d s fun n s =>
 zL (some 10) 1 b e s fun o s =>
 zf 1 o n s fun _ s =>
 zg true 10 b s fun q s =>
 bP .add e (iN 1) s fun r s =>
 zf 10 a q s fun _ s =>
 Z (zI (zan a s true 10) (zI (some r) (some []))) s)
theorem zrg : F1 Tryz.prog zmL zro := zi [.l [0, 5] [(6, 11)]] Tryz.func217 (by decide +kernel) (by kernel_rfl) fun {_ _ _ _} => cast (by kernel_rfl)
def zgB (P : Program) (x0 : AV) (σ : LO) (Z : ZT) : Prop :=
 zaz .sl x0 σ fun a s =>
 zaz .sl x0 s fun b s =>
 zdn (.sl 1) x0 none (some a) (some b) s fun c s =>
 z1 Z c s
theorem zgw : F1 Tryz.prog zew zgB := zi [] Tryz.func218 (by decide +kernel) (by kernel_rfl) fun {_ _ _ _} => cast (by kernel_rfl)
def zdY (P : Program) (x0 : AV) (σ : LO) (Z : ZT) : Prop :=
 zY false x0 σ fun a s =>
 zp a (z1 Z eN s) (zj false 2 0 (zR (rep [iN 0, iN 0] 0) []) s fun b s =>
 zE 2 16 b x0 s fun c s =>
 z1 Z c s)
theorem zdW : F1 Tryz.prog zbJ zdY := zi [] Tryz.func219 (by decide +kernel) (by kernel_rfl) fun {_ _ _ _} => cast (by kernel_rfl)
def zcu (P : Program) (x0 : AV) (σ : LO) (Z : ZT) : Prop :=
 zY false x0 σ fun a s =>
 zp a (z1 Z eN s) (zj true 7 0 (zR (rep [iN 0, iN 0, iN 0, iN 0, iN 0, eN, eN] 0) []) s fun b s =>
 zfA 7 88 b x0 s fun c s =>
 z1 Z c s)
theorem zct : F1 Tryz.prog zbG zcu := zlv [] Tryz.func220 (by decide +kernel) (by kernel_rfl) fun {_ _ _ _} => cast (by kernel_rfl)
def zgg (P : Program) (x0 x1 : AV) (σ : LO) (Z : ZT) : Prop :=
 zbf x1 σ fun a s =>
 fl 0 a s fun b s =>
 cA P zaq [x0, b] s fun _ s =>
 fl 1 a s fun d s =>
 cA P zaE [x0, d] s fun _ s =>
 fl 2 a s fun f s =>
 cA P zaE [x0, f] s fun _ s =>
 zb 3 a s fun h s =>
 zg true 2 h s fun i s =>
 cA P zbn [i] s fun j s =>
 cA P zN [x0, j] s fun _ s =>
 fl 5 a s fun m s =>
 cA P zaS [x0, m] s fun _ s =>
 fl 6 a s fun o s =>
 cA P zaM [o] s fun p s =>
 cA P zN [x0, p] s fun _ s =>
 Z (some []) s
theorem zge : F2 Tryz.prog zeg zgg := zi [] Tryz.func228 (by decide +kernel) (by kernel_rfl) fun {_ _ _ _ _} => cast (by kernel_rfl)
def zhY (P : Program) (x0 x1 : AV) (σ : LO) (Z : ZT) : Prop :=
 zaz .sl x1 σ fun a s =>
 cA P zbe [x0, a, (iN 13)] s fun _ s =>
 zaz .sl x1 s fun c s =>
 zcd [(iN 0)] s fun v s d =>
 zbM v fun e v => bP .lss e c s fun f s =>
 zp f (il true 2 2 x1 e s fun g s =>
 cp [iN 0, iN 0] 2 g s fun h s =>
 zg true 2 h s fun i s =>
 cA P zbn [i] s fun j s =>
 cA P zN [x0, j] s fun _ s =>
 bP .add e (iN 1) s fun m s =>
 d [m] s) (Z (some []) s)
theorem zhR : F2 Tryz.prog zaS zhY := zi [.l [12] [(5, 1), (13, 8)]] Tryz.func229 (by decide +kernel) (by kernel_rfl) fun {_ _ _ _ _} => cast (by kernel_rfl)
def S_op_Name (P : Program) (x0 : AV) (σ : LO) (Z : ZT) : Prop :=
 cA P zqm [x0] σ fun a s =>
 bP .gtr a (iN 0) s fun b s =>
 z1 Z b s
theorem e_op_Name : F1 Tryz.prog zpf S_op_Name := zi [] Tryz.func230 (by decide +kernel) (by kernel_rfl) fun {_ _ _ _} => cast (by kernel_rfl)
def zdX (P : Program) (x0 x1 : AV) (σ : LO) (Z : ZT) : Prop :=
 zaz .sl x0 σ fun a s =>
 zaz .sl x1 s fun b s =>
 bP .neq a b s fun c s =>
 zp c (z1 Z bF s) (zaz .sl x0 s fun d s =>
 zcd [(iN 0)] s fun v s e =>
 zbM v fun f v => bP .lss f d s fun g s =>
 zp g (il true 2 2 x0 f s fun h s =>
 il true 2 2 x1 f s fun i s =>
 zcO .neq (.ints 2) h i s fun j s =>
 zp j (z1 Z bF s) (bP .add f (iN 1) s fun l s =>
 e [l] s)) (z1 Z bT s))
theorem zdV : F2 Tryz.prog zbI zdX := zi [.l [13] [(4, 2), (14, 12)], .d [(0, 9)] []] Tryz.func231 (by decide +kernel) (by kernel_rfl) fun {_ _ _ _ _} => cast (by kernel_rfl)
def zaJ (P : Program) (x0 x1 x2 : AV) (σ : LO) (Z : ZT) : Prop :=
 zaz .sl x0 σ fun a s =>
 zaz .sl x1 s fun b s =>
 bP .neq a b s fun c s =>
 zp c (z1 Z bF s) (zaz .sl x0 s fun d s =>
 zcd [(iN 0)] s fun v s e =>
 zbM v fun f v => bP .lss f d s fun g s =>
 zp g (il true 7 7 x0 f s fun h s =>
 zQ [iN 0, iN 0, iN 0, iN 0, iN 0, eN, eN] s fun i s =>
 zf 7 i h s fun _ s =>
 il true 7 7 x1 f s fun l s =>
 cp [iN 0, iN 0, iN 0, iN 0, iN 0, eN, eN] 7 l s fun m s =>
 zg true 7 i s fun n s =>
 zg true 7 m s fun o s =>
 zam P x2 [dm n, dm o] s fun p s =>
 unC .not p s fun q s =>
 zp q (z1 Z bF s) (bP .add f (iN 1) s fun r s =>
 e [r] s)) (z1 Z bT s))
theorem zaH : F3 Tryz.prog zak zaJ := zi [.l [17] [(6, 4), (18, 14)]] Tryz.func232 (by decide +kernel) (by kernel_rfl) fun {_ _ _ _ _ _} => cast (by kernel_rfl)
def zhf (P : Program) (x0 x1 : AV) (σ : LO) (Z : ZT) : Prop :=
 zbf x0 σ fun a s =>
 zbf x1 s fun b s =>
 fl 0 a s fun c s =>
 fl 0 b s fun d s =>
 bP .eql c d s fun e s =>
 gTl e 1 a s fun f s =>
 gTl e 1 b s fun g s =>
 gT e (bP .eql f g s) s fun h s =>
 anC e h s fun i s =>
 gTl i 2 a s fun j s =>
 gTl i 2 b s fun l s =>
 gT i (bP .eql j l s) s fun m s =>
 anC i m s fun n s =>
 gT n (zb 3 a s) s fun o s =>
 gT n (zg true 2 o s) s fun p s =>
 gT n (zb 3 b s) s fun q s =>
 gT n (zg true 2 q s) s fun r s =>
 gT n (zcO .eql (.ints 2) p r s) s fun u s =>
 anC n u s fun w s =>
 gTl w 5 a s fun y s =>
 gTl w 5 b s fun z s =>
 gT w (cA P zbI [y, z] s) s fun A s =>
 anC w A s fun B s =>
 gTl B 6 a s fun C s =>
 gTl B 6 b s fun D s =>
 gT B (cA P zeR [C, D] s) s fun E s =>
 anC B E s fun F s =>
 z1 Z F s
theorem zgV : F2 Tryz.prog zdw zhf := zi [] Tryz.func233 (by decide +kernel) (by kernel_rfl) fun {_ _ _ _ _} => cast (by kernel_rfl)
def zdj (P : Program) (x0 x1 : AV) (σ : LO) (Z : ZT) : Prop :=
 zaz .sl x0 σ fun a s =>
 zaz .sl x1 s fun b s =>
 bP .neq a b s fun c s =>
 zp c (z1 Z bF s) (zaz .sl x0 s fun d s =>
 zcd [(iN 0)] s fun v s e =>
 zbM v fun f v => bP .lss f d s fun g s =>
 zp g (il true 5 5 x0 f s fun h s =>
 il true 5 5 x1 f s fun i s =>
 zcO .neq (.ints 5) h i s fun j s =>
 zp j (z1 Z bF s) (bP .add f (iN 1) s fun l s =>
 e [l] s)) (z1 Z bT s))
theorem zde : F2 Tryz.prog zbS zdj := zi [.l [13] [(4, 2), (14, 12)], .d [(0, 9)] []] Tryz.func234 (by decide +kernel) (by kernel_rfl) fun {_ _ _ _ _} => cast (by kernel_rfl)
def zdk (P : Program) (x0 x1 : AV) (σ : LO) (Z : ZT) : Prop :=
 zaz .sl x0 σ fun a s =>
 zaz .sl x1 s fun b s =>
 bP .neq a b s fun c s =>
 zp c (z1 Z bF s) (zaz .sl x0 s fun d s =>
 zcd [(iN 0)] s fun v s e =>
 zbM v fun f v => bP .lss f d s fun g s =>
 zp g (il false 1 1 x0 f s fun h s =>
 il false 1 1 x1 f s fun i s =>
 bP .neq h i s fun j s =>
 zp j (z1 Z bF s) (bP .add f (iN 1) s fun l s =>
 e [l] s)) (z1 Z bT s))
theorem zdf : F2 Tryz.prog zbT zdk := zi [.l [13] [(4, 2), (14, 12)], .d [(0, 9)] []] Tryz.func235 (by decide +kernel) (by kernel_rfl) fun {_ _ _ _ _} => cast (by kernel_rfl)
def S_op_only (P : Program) (x0 : AV) (σ : LO) (Z : ZT) : Prop :=
 zbf x0 σ fun a s =>
 zQ [iN 0, (.d (.str [])), (.d (.str [])), iN 0, eN] s fun b s =>
 fl 0 a s fun c s =>
 zB (zR [iN 0, (.d (.str [])), (.d (.str [])), iN 0, eN] [(0, 1, c)]) s fun d s =>
 cp [iN 0, (.d (.str [])), (.d (.str [])), iN 0, eN] 5 d s fun e s =>
 (fun (f : LO → Prop) => fl 0 a s fun i s =>
 bP .eql i (iN 0) s fun j s =>
 zp j (f s) (bP .eql i (iN 1) s fun l s =>
 zp l (fl 1 a s fun m s =>
 zb 1 e s fun n s =>
 zf 1 n m s fun _ s =>
 f s) (bP .eql i (iN 2) s fun p s =>
 zp p (fl 1 a s fun q s =>
 zb 4 a s fun r s =>
 zg false 1 r s fun u s =>
 zb 1 e s fun w s =>
 zf 1 w q s fun _ t =>
 zZ r s t ∧ (zb 4 e t fun z s =>
 zf 1 z u s fun _ s =>
 f s)) (bP .eql i (iN 3) s fun B s =>
 zp B (fl 1 a s fun C s =>
 zb 2 a s fun D s =>
 zg false 1 D s fun E s =>
 zb 3 a s fun F s =>
 zg false 1 F s fun G s =>
 zb 1 e s fun H s =>
 zf 1 H C s fun _ t =>
 zZ D s t ∧ (zZ F s t ∧ (zb 2 e t fun J s =>
 zf 1 J E s fun _ t =>
 zZ F s t ∧ (zb 3 e t fun L s =>
 zf 1 L G s fun _ s =>
 f s)))) (bP .eql i (iN 4) s fun N s =>
 zp N (fl 1 a s fun O s =>
 zb 3 a s fun Q s =>
 zg false 1 Q s fun R s =>
 zb 1 e s fun S s =>
 zf 1 S O s fun _ t =>
 zZ Q s t ∧ (zb 3 e t fun U s =>
 zf 1 U R s fun _ s =>
 f s)) (zg true 5 e s fun W s =>
 zf 5 b W s fun _ s =>
 Z (zI (zan b s true 5) (zI (some bF) (some []))) s))))))
 (fun  s => zg true 5 e s fun g s =>
 zf 5 b g s fun _ s =>
 Z (zI (zan b s true 5) (zI (some bT) (some []))) s)
theorem e_op_only : F1 Tryz.prog zrW S_op_only := zi [.d [(0, 8)] [(5, [22])], .d [(0, 12)] [(7, [30, 32]), (9, [32])], .d [(0, 8)] [(5, [41])]] Tryz.func236 (by decide +kernel) (by kernel_rfl) fun {_ _ _ _} => cast (by kernel_rfl)
def zrn (P : Program) (x0 : AV) (σ : LO) (Z : ZT) : Prop :=
 zaz .sl x0 σ fun a s =>
 bP .gtr a (iN 64) s fun b s =>
 z1 Z b s
theorem zrf : F1 Tryz.prog zjM zrn := zi [] Tryz.func237 (by decide +kernel) (by kernel_rfl) fun {_ _ _ _} => cast (by kernel_rfl)
def zcj (P : Program) (x0 x1 : AV) (σ : LO) (Z : ZT) : Prop :=
 cA P zcw [x0, x1] σ fun a s =>
 bP .geq a (iN 0) s fun b s =>
 z1 Z b s
theorem zch : F2 Tryz.prog zbm zcj := zi [] Tryz.func238 (by decide +kernel) (by kernel_rfl) fun {_ _ _ _ _} => cast (by kernel_rfl)
def S_op_Put (P : Program) (x0 x1 : AV) (σ : LO) (Z : ZT) : Prop :=
 zbf x1 σ fun a s =>
 cA P zcC [x0] s fun b s =>
 zg true 5 a s fun c s =>
 cA P znz [c] s fun d s =>
 bP .neq d (iN 0) s fun e s =>
 zp e (z1 Z b s) (fl 0 a s fun f s =>
 zau (.int .u64) f s fun g s =>
 cA P zbg [b, g] s fun h s =>
 (fun (i : AV → LO → Prop) => fl 0 a s fun T s =>
 bP .neq T (iN 0) s fun U s =>
 zp U (fl 1 a s fun V s =>
 zau .toBytes V s fun W s =>
 cA P zdI [h, W] s fun X s =>
 i X s) (i h s))
 (fun j s => (fun (l : AV → LO → Prop) => fl 0 a s fun n s =>
 bP .eql n (iN 2) s fun o s =>
 zp o (fl 4 a s fun p s =>
 zaz .sl p s fun q s =>
 zau (.int .u64) q s fun r s =>
 cA P zbg [j, r] s fun u s =>
 fl 4 a s fun w s =>
 zaz .sl w s fun y s =>
 zcd [u, (iN 0)] s fun v s z =>
 zbM v fun A v => zbM v fun B v => bP .lss B y s fun C s =>
 zp C (il false 1 1 w B s fun D s =>
 cA P zdI [A, D] s fun E s =>
 bP .add B (iN 1) s fun F s =>
 z [E, F] s) (l A s)) (bP .eql n (iN 3) s fun G s =>
 zp G (fl 2 a s fun H s =>
 zau .toBytes H s fun I s =>
 zb 3 a s fun J s =>
 zg false 1 J s fun K s =>
 zau (.int .u64) K s fun L s =>
 cA P zdI [j, I] s fun M t =>
 zZ J s t ∧ (cA P zbg [M, L] t fun N s =>
 l N s)) (bP .eql n (iN 4) s fun O s =>
 zp O (fl 3 a s fun Q s =>
 zau (.int .u64) Q s fun R s =>
 cA P zbg [j, R] s fun S s =>
 l S s) (l j s))))
 (fun m s => z1 Z m s)))
theorem e_op_Put : F2 Tryz.prog zuF S_op_Put := zi [.l [5, 40] [(7, 1), (41, 7)], .d [(0, 4), (5, 3), (4, 1), (8, 2)] [(4, [55])]] Tryz.func239 (by decide +kernel) (by kernel_rfl) fun {_ _ _ _ _} => cast (by kernel_rfl)
end Go.Proofs.YtpgahkdjkanblaaGreat
