/- The conditions of each function, its slots as variables, and that the logic's conditions are these. Printed by program. -/
import Derived.Test.YtpgahkdjkanblaaGreatNm
import Derived.KernelRfl
set_option linter.all false
set_option maxRecDepth 100000
set_option linter.unusedVariables false
namespace Go.Proofs.YtpgahkdjkanblaaGreat
open Go.AW
def zjH (P : Program) (x0 x1 x2 : AV) (σ : LO) (Z : ZT) : Prop :=
 zQ [iN 0, iN 0] σ fun a s =>
 cA P zcv [x0] s fun b s =>
 zp b (zB (zR [iN 0, iN 0] []) s fun c s =>
 zf 2 a c s fun _ s =>
 Z (zI (zan a s true 2) (zI (some (iN 2)) (some []))) s) (bP .lss x1 (iN 0) s fun e s =>
 gFm e x1 s fun f s =>
 gF e (bP .geq f (iN 21) s) s fun g s =>
 orC e g s fun h s =>
 zp h (zB (zR [iN 0, iN 0] []) s fun i s =>
 zf 2 a i s fun _ s =>
 Z (zI (zan a s true 2) (zI (some (iN 20)) (some []))) s) (bP .lss x2 (iN 1) s fun l s =>
 zp l (zB (zR [iN 0, iN 0] []) s fun m s =>
 zf 2 a m s fun _ s =>
 Z (zI (zan a s true 2) (zI (some (iN 1)) (some []))) s) (zB (zR [iN 0, iN 0] [(0, 1, x1), (1, 1, x2)]) s fun o s =>
 cp [iN 0, iN 0] 2 o s fun p s =>
 (fun (q : LO → Prop) => nfl 1 x0 s fun w s =>
 zg true 2 p s fun y s =>
 zaK (.ints 2) false bF w y s fun z s =>
 unC .not z s fun A s =>
 zp A (nfl 1 x0 s fun B s =>
 zg true 2 p s fun C s =>
 zaV (.ints 2) B C bT s fun _ s =>
 nfl 0 x0 s fun E s =>
 zg true 2 p s fun F s =>
 m1 2 [iN 0, iN 0] F s fun G s =>
 zE 2 16 E G s fun H s =>
 zbY x0 s fun I s =>
 zb 0 I s fun J s =>
 zf 1 J H s fun _ s =>
 q s) (q s))
 (fun  s => zg true 2 p s fun r s =>
 zf 2 a r s fun _ s =>
 Z (zI (zan a s true 2) (zI (some (iN 0)) (some []))) s))))
theorem zjp : F3 Tryz.prog zdq zjH := zi [.d [(0, 7)] [], .d [(0, 6)] [], .d [(0, 11)] []] Tryz.func27 (by decide +kernel) (by kernel_rfl) fun {_ _ _ _ _ _} => cast (by kernel_rfl)
def zkZ (P : Program) (x0 x1 x2 : AV) (σ : LO) (Z : ZT) : Prop :=
 zQ [iN 0, iN 0] σ fun a s =>
 bP .lss x1 (iN 0) s fun b s =>
 gFm b x1 s fun c s =>
 gF b (bP .geq c (iN 21) s) s fun d s =>
 orC b d s fun e s =>
 zp e (zB (zR [iN 0, iN 0] []) s fun f s =>
 zf 2 a f s fun _ s =>
 Z (zI (zan a s true 2) (zI (some (iN 20)) (some []))) s) (bP .lss x2 (iN 1) s fun h s =>
 zp h (zB (zR [iN 0, iN 0] []) s fun i s =>
 zf 2 a i s fun _ s =>
 Z (zI (zan a s true 2) (zI (some (iN 1)) (some []))) s) (zB (zR [iN 0, iN 0] [(0, 1, x1), (1, 1, x2)]) s fun l s =>
 cp [iN 0, iN 0] 2 l s fun m s =>
 (fun (n : LO → Prop) => zg true 2 m s fun q s =>
 cA P zfT [x0, q] s fun r s =>
 unC .not r s fun u s =>
 zp u (nfl 0 x0 s fun w s =>
 zg true 2 m s fun y s =>
 m1 2 [iN 0, iN 0] y s fun z s =>
 zE 2 16 eN w s fun A t =>
 zZ m s t ∧ (zE 2 16 A z t fun B s =>
 zbY x0 s fun C s =>
 zb 0 C s fun D s =>
 zf 1 D B s fun _ s =>
 n s)) (n s))
 (fun  s => zg true 2 m s fun o s =>
 zf 2 a o s fun _ s =>
 Z (zI (zan a s true 2) (zI (some (iN 0)) (some []))) s)))
theorem zkL : F3 Tryz.prog zhm zkZ := zi [.d [(0, 5), (6, 2), (5, 1), (8, 4)] [(5, [8])]] Tryz.func28 (by decide +kernel) (by kernel_rfl) fun {_ _ _ _ _ _} => cast (by kernel_rfl)
def zjF (P : Program) (x0 : AV) (σ : LO) (Z : ZT) : Prop :=
 cA P zcS [x0] σ fun a s =>
 zp a (z1 Z (.d .nilp) s) (nfl 0 x0 s fun b s =>
 cA P zhJ [b] s fun c s =>
 zc c 0 s fun d s =>
 zc c 1 s fun _ s =>
 z1 Z d s)
theorem zjn : F1 Tryz.prog zcc zjF := zi [] Tryz.func29 (by decide +kernel) (by kernel_rfl) fun {_ _ _ _} => cast (by kernel_rfl)
def ziD (P : Program) (x0 : AV) (σ : LO) (Z : ZT) : Prop :=
 cA P zcv [x0] σ fun a s =>
 zp a (z1 Z (.d .nilp) s) (cA P zfv [] s fun b s =>
 nfl 0 x0 s fun c s =>
 zaz .sl c s fun d s =>
 zcd [(iN 0)] s fun v s e =>
 zbM v fun f v => bP .lss f d s fun g s =>
 zp g (il true 2 2 c f s fun h s =>
 cp [iN 0, iN 0] 2 h s fun i s =>
 fl 0 i s fun j s =>
 fl 1 i s fun l s =>
 cA P zdq [b, j, l] s fun _ s =>
 bP .add f (iN 1) s fun n s =>
 e [n] s) (z1 Z b s))
theorem ziw : F1 Tryz.prog zcl ziD := zi [.l [14] [(5, 1), (15, 10)]] Tryz.func30 (by decide +kernel) (by kernel_rfl) fun {_ _ _ _} => cast (by kernel_rfl)
def zpO (P : Program) (x0 x1 x2 : AV) (σ : LO) (Z : ZT) : Prop :=
 cA P zcB [x0] σ fun a s =>
 bP .neq a (iN 0) s fun b s =>
 zp b (z1 Z a s) (bP .lss x1 (iN 1) s fun c s =>
 gFm c x1 s fun d s =>
 gF c (bP .gtr d (iN 9007199254740992) s) s fun e s =>
 orC c e s fun f s =>
 zp f (z1 Z (iN 1) s) (zaz .sl x2 s fun g s =>
 zcd [(iN (-1)), (iN 0)] s fun v s h =>
 zbM v fun i v => zbM v fun j v => bP .lss j g s fun l s =>
 zp l (il true 8 8 x2 j s fun m s =>
 cp [iN 0, iN 0, iN 0, iN 0, eN, eN, iN 0, iN 0] 8 m s fun n s =>
 fl 1 n s fun o s =>
 bP .leq o i s fun p s =>
 gF p (zb 1 n s) s fun q s =>
 gF p (zg false 1 q s) s fun r s =>
 gFm p x0 s fun u s =>
 gF p (cA P zcU [u] s) s fun w t =>
 zZ q s t ∧ (gF p (bP .geq r w t) t fun y s =>
 orC p y s fun z s =>
 zp z (z1 Z (iN 1) s) (fl 1 n s fun A s =>
 bP .add j (iN 1) s fun B s =>
 h [A, B] s))) (zaz .sl x2 s fun C s =>
 cA P zhI [x0] s fun D s =>
 bP .lss C D s fun E s =>
 zp E (z1 Z (iN 160) s) (z1 Z (iN 0) s))))
theorem zpt : F3 Tryz.prog ziF zpO := zi [.l [8, 24] [(6, 1), (10, 1), (25, 17)], .d [(0, 11)] [(8, [33])]] Tryz.func31 (by decide +kernel) (by kernel_rfl) fun {_ _ _ _ _ _} => cast (by kernel_rfl)
def zrl (P : Program) (x0 : AV) (σ : LO) (Z : ZT) : Prop :=
 cA P zhw [(iN 2), x0] σ fun a s =>
 z1 Z a s
theorem zrd : F1 Tryz.prog zhI zrl := zi [] Tryz.func32 (by decide +kernel) (by kernel_rfl) fun {_ _ _ _} => cast (by kernel_rfl)
def zmi (P : Program) (x0 x1 : AV) (σ : LO) (Z : ZT) : Prop :=
 cA P zlm [x0, x1] σ fun a s =>
 unC .not a s fun b s =>
 zp b (z1 Z (iN (-1)) s) (cA P zcU [x0] s fun c s =>
 bP .rem x1 c s fun d s =>
 z1 Z d s)
theorem zlS : F2 Tryz.prog zeK zmi := zi [] Tryz.func33 (by decide +kernel) (by kernel_rfl) fun {_ _ _ _ _} => cast (by kernel_rfl)
def zrp (P : Program) (x0 x1 x2 x3 : AV) (σ : LO) (Z : ZT) : Prop :=
 zbf x3 σ fun a s =>
 zQ [iN 0, iN 0, eN, iN 0, iN 0] s fun b s =>
 cA P zfV [x0, x1] s fun c s =>
 unC .not c s fun d s =>
 zp d (zB (zR [iN 0, iN 0, eN, iN 0, iN 0] []) s fun e s =>
 zf 5 b e s fun _ s =>
 Z (zI (zan b s true 5) (zI (some (iN 2)) (some []))) s) (fl 2 a s fun g s =>
 cA P zif [x0, g] s fun h s =>
 zc h 0 s fun i s =>
 zc h 1 s fun j s =>
 bP .neq j (iN 0) s fun l s =>
 zp l (zB (zR [iN 0, iN 0, eN, iN 0, iN 0] []) s fun m s =>
 zf 5 b m s fun _ s =>
 Z (zI (zan b s true 5) (zI (some j) (some []))) s) (fl 2 a s fun o s =>
 cA P zdo [o] s fun p s =>
 zb 2 a s fun q s =>
 zf 1 q p s fun _ s =>
 fl 0 a s fun u s =>
 fl 1 a s fun w s =>
 cA P zow [x0, x1, x2, (iN 2), u, w, i] s fun y s =>
 zc y 0 s fun z s =>
 zc y 1 s fun A s =>
 zb 3 a s fun B s =>
 zf 2 B z s fun _ s =>
 bP .neq A (iN 0) s fun D s =>
 zp D (zB (zR [iN 0, iN 0, eN, iN 0, iN 0] []) s fun E s =>
 zf 5 b E s fun _ s =>
 Z (zI (zan b s true 5) (zI (some A) (some []))) s) (zg true 5 a s fun G s =>
 zf 5 b G s fun _ s =>
 Z (zI (zan b s true 5) (zI (some (iN 0)) (some []))) s)))
theorem zrh : F4 Tryz.prog zmM zrp := zi [] Tryz.func34 (by decide +kernel) (by kernel_rfl) fun {_ _ _ _ _ _ _} => cast (by kernel_rfl)
def zsS (P : Program) (x0 x1 x2 : AV) (σ : LO) (Z : ZT) : Prop :=
 zbf x2 σ fun a s =>
 zQ [iN 0, iN 0, iN 0, iN 0, iN 0, iN 0, iN 0, iN 0, iN 0, eN, iN 0, iN 0, eN, eN, eN, eN, (.d (.str [])), iN 0, (.d (.str [])), iN 0, eN, eN, iN 0, iN 0, eN, iN 0, iN 0, eN, iN 0, iN 0] s fun b s =>
 cA P zfV [x0, x1] s fun c s =>
 unC .not c s fun d s =>
 zp d (zB (zR [iN 0, iN 0, iN 0, iN 0, iN 0, iN 0, iN 0, iN 0, iN 0, eN, iN 0, iN 0, eN, eN, eN, eN, (.d (.str [])), iN 0, (.d (.str [])), iN 0, eN, eN, iN 0, iN 0, eN, iN 0, iN 0, eN, iN 0, iN 0] []) s fun e s =>
 zf 30 b e s fun _ s =>
 Z (zI (zan b s true 30) (zI (some (iN 2)) (some []))) s) (zg true 30 a s fun g s =>
 cA P zfH [g] s fun h s =>
 zc h 0 s fun i s =>
 zc h 1 s fun j s =>
 bP .neq j (iN 0) s fun l s =>
 zp l (zB (zR [iN 0, iN 0, iN 0, iN 0, iN 0, iN 0, iN 0, iN 0, iN 0, eN, iN 0, iN 0, eN, eN, eN, eN, (.d (.str [])), iN 0, (.d (.str [])), iN 0, eN, eN, iN 0, iN 0, eN, iN 0, iN 0, eN, iN 0, iN 0] []) s fun m s =>
 zf 30 b m s fun _ s =>
 Z (zI (zan b s true 30) (zI (some j) (some []))) s) (zY false i s fun o s =>
 zp o (zg true 30 a s fun p s =>
 zB (zR [iN 0, iN 0] []) s fun q s =>
 cA P zlq [p, q] s fun r s =>
 zf 30 b r s fun _ s =>
 Z (zI (zan b s true 30) (zI (some (iN 0)) (some []))) s) (fl 1 a s fun w s =>
 cA P zlr [x0, x1, w, i] s fun y s =>
 zc y 0 s fun z s =>
 zc y 1 s fun A s =>
 cp [iN 0, iN 0] 2 z s fun B s =>
 bP .neq A (iN 0) s fun C s =>
 zp C (zB (zR [iN 0, iN 0, iN 0, iN 0, iN 0, iN 0, iN 0, iN 0, iN 0, eN, iN 0, iN 0, eN, eN, eN, eN, (.d (.str [])), iN 0, (.d (.str [])), iN 0, eN, eN, iN 0, iN 0, eN, iN 0, iN 0, eN, iN 0, iN 0] []) s fun D s =>
 zf 30 b D s fun _ s =>
 Z (zI (zan b s true 30) (zI (some A) (some []))) s) (zg true 30 a s fun F s =>
 zg true 2 B s fun G s =>
 cA P zlq [F, G] s fun H s =>
 zf 30 b H s fun _ s =>
 Z (zI (zan b s true 30) (zI (some (iN 0)) (some []))) s))))
theorem zst : F3 Tryz.prog zox zsS := zi [] Tryz.func35 (by decide +kernel) (by kernel_rfl) fun {_ _ _ _ _ _} => cast (by kernel_rfl)
def zkk (P : Program) (x0 : AV) (σ : LO) (Z : ZT) : Prop :=
 zcO .eql .ptr x0 (.d .nilp) σ fun a s =>
 gFm a x0 s fun b s =>
 gF a (zbY b s) s fun c s =>
 gFl a 1 c s fun d s =>
 gF a (zcO .eql .map d (.d .nilmap) s) s fun e s =>
 orC a e s fun f s =>
 z1 Z f s
theorem zjX : F1 Tryz.prog zcS zkk := zi [] Tryz.func43 (by decide +kernel) (by kernel_rfl) fun {_ _ _ _} => cast (by kernel_rfl)
def zjG (P : Program) (x0 : AV) (σ : LO) (Z : ZT) : Prop :=
 zcO .eql .ptr x0 (.d .nilp) σ fun a s =>
 gFm a x0 s fun b s =>
 gF a (zbY b s) s fun c s =>
 gFl a 1 c s fun d s =>
 gF a (zcO .eql .map d (.d .nilmap) s) s fun e s =>
 orC a e s fun f s =>
 z1 Z f s
theorem zjo : F1 Tryz.prog zcv zjG := zi [] Tryz.func44 (by decide +kernel) (by kernel_rfl) fun {_ _ _ _} => cast (by kernel_rfl)
def zol (P : Program) (x0 : AV) (σ : LO) (Z : ZT) : Prop :=
 bP .lss x0 (iN 1) σ fun a s =>
 gFm a x0 s fun b s =>
 gF a (bP .gtr b (iN 4) s) s fun c s =>
 orC a c s fun d s =>
 zp d (z1 Z (iN 120) s) (z1 Z (iN 0) s)
theorem znZ : F1 Tryz.prog zcB zol := zi [] Tryz.func45 (by decide +kernel) (by kernel_rfl) fun {_ _ _ _} => cast (by kernel_rfl)
def zno (P : Program) (x0 x1 x2 : AV) (σ : LO) (Z : ZT) : Prop :=
 zbf x2 σ fun a s =>
 cA P zfV [x0, x1] s fun b s =>
 unC .not b s fun c s =>
 gF c (zg true 30 a s) s fun d s =>
 gF c (cA P zfo [d] s) s fun e s =>
 gF c (bP .neq e (iN 0) s) s fun f s =>
 orC c f s fun g s =>
 zp g (z1 Z bF s) (zg true 30 a s fun h s =>
 cA P zfH [h] s fun i s =>
 zc i 0 s fun j s =>
 zc i 1 s fun l s =>
 bP .eql l (iN 0) s fun m s =>
 gTm m j s fun n s =>
 gT m (zY false n s) s fun o s =>
 gTm m o s fun p s =>
 gFm p x0 s fun q s =>
 gFm p x1 s fun r s =>
 gF p (zg true 30 a s) s fun u s =>
 gF p (zb 1 a s) s fun w s =>
 gF p (zg false 1 w s) s fun y s =>
 gFm p j s fun z s =>
 gF p (cA P znB [u] s) s fun A t =>
 zZ w s t ∧ (gF p (cA P ziG [q, r, A, y, z] t) t fun B s =>
 gT m (orC p B s) s fun C s =>
 anC m C s fun D s =>
 z1 Z D s))
theorem zkb : F3 Tryz.prog zhK zno := zi [.d [(0, 9), (10, 3), (9, 1), (13, 4)] [(9, [33])]] Tryz.func46 (by decide +kernel) (by kernel_rfl) fun {_ _ _ _ _ _} => cast (by kernel_rfl)
def zom (P : Program) (x0 x1 : AV) (σ : LO) (Z : ZT) : Prop :=
 zbf x0 σ fun a s =>
 zbf x1 s fun b s =>
 fl 0 a s fun c s =>
 fl 0 b s fun d s =>
 bP .eql c d s fun e s =>
 gTl e 1 a s fun f s =>
 gTl e 1 b s fun g s =>
 gT e (bP .eql f g s) s fun h s =>
 anC e h s fun i s =>
 gTl i 2 a s fun j s =>
 gTl i 2 b s fun l s =>
 gT i (cA P zeR [j, l] s) s fun m s =>
 anC i m s fun n s =>
 z1 Z n s
theorem zoa : F2 Tryz.prog zkp zom := zi [] Tryz.func47 (by decide +kernel) (by kernel_rfl) fun {_ _ _ _ _} => cast (by kernel_rfl)
def zld (P : Program) (x0 x1 x2 x3 : AV) (σ : LO) (Z : ZT) : Prop :=
 zbf x3 σ fun a s =>
 fl 2 a s fun b s =>
 cA P zaM [b] s fun c s =>
 bP .neq c (iN 0) s fun d s =>
 zp d (z1 Z bF s) (fl 2 a s fun e s =>
 cA P zcf [eN, e] s fun f s =>
 cA P zcg [x0, f] s fun g s =>
 zc g 0 s fun h s =>
 zc g 1 s fun i s =>
 gTm i x0 s fun j s =>
 gTm i x1 s fun l s =>
 gT i (zb 3 a s) s fun m s =>
 gT i (zg true 2 m s) s fun n s =>
 gTm i x2 s fun o s =>
 gTl i 0 a s fun p s =>
 gTl i 1 a s fun q s =>
 gTm i h s fun r s =>
 gT i (cA P zdJ [j, l, n, o, (iN 2), p, q, r] s) s fun u s =>
 anC i u s fun w s =>
 z1 Z w s)
theorem zkP : F4 Tryz.prog zhn zld := zi [] Tryz.func48 (by decide +kernel) (by kernel_rfl) fun {_ _ _ _ _ _ _} => cast (by kernel_rfl)
def zsK (P : Program) (x0 : AV) (σ : LO) (Z : ZT) : Prop :=
 bP .lss x0 (iN 1) σ fun a s =>
 gFm a x0 s fun b s =>
 gF a (bP .gtr b (iN 4) s) s fun c s =>
 orC a c s fun d s =>
 zp d (z1 Z (iN 120) s) (z1 Z (iN 0) s)
theorem zsl : F1 Tryz.prog zou zsK := zi [] Tryz.func49 (by decide +kernel) (by kernel_rfl) fun {_ _ _ _} => cast (by kernel_rfl)
def znk (P : Program) (x0 x1 : AV) (σ : LO) (Z : ZT) : Prop :=
 zaz .sl x0 σ fun a s =>
 zaz .sl x1 s fun b s =>
 bP .neq a b s fun c s =>
 zp c (z1 Z bF s) (zcd [(iN 0)] s fun v s d =>
 zbM v fun e v => zaz .sl x0 s fun f s =>
 bP .lss e f s fun g s =>
 zp g (il true 2 2 x0 e s fun h s =>
 il true 2 2 x1 e s fun i s =>
 zcO .neq (.ints 2) h i s fun j s =>
 zp j (z1 Z bF s) (bP .add e (iN 1) s fun l s =>
 d [l] s)) (z1 Z bT s))
theorem zmW : F2 Tryz.prog ziX znk := zi [.l [5] [(4, 1), (11, 15)], .d [(0, 9)] []] Tryz.func52 (by decide +kernel) (by kernel_rfl) fun {_ _ _ _ _} => cast (by kernel_rfl)
def znh (P : Program) (x0 : AV) (σ : LO) (Z : ZT) : Prop :=
 zaz .sl x0 σ fun a s =>
 zcd [eN, (iN 0)] s fun v s b =>
 zbM v fun c v => zbM v fun d v => bP .lss d a s fun e s =>
 zp e (il true 9 9 x0 d s fun f s =>
 cp [iN 0, iN 0, iN 0, (.d (.str [])), (.d (.str [])), iN 0, eN, iN 0, iN 0] 9 f s fun g s =>
 zb 0 g s fun h s =>
 zb 2 h s fun i s =>
 zg true 5 i s fun j s =>
 cA P zqn [j] s fun l s =>
 zb 0 g s fun m s =>
 zb 2 m s fun n s =>
 zf 5 n l s fun _ s =>
 zg true 9 g s fun p s =>
 m1 9 [iN 0, iN 0, iN 0, (.d (.str [])), (.d (.str [])), iN 0, eN, iN 0, iN 0] p s fun q s =>
 zE 9 104 c q s fun r s =>
 bP .add d (iN 1) s fun u s =>
 b [r, u] s) (z1 Z c s)
theorem zmT : F1 Tryz.prog zdo znh := zi [.l [3, 8] [(5, 1), (9, 14)]] Tryz.func53 (by decide +kernel) (by kernel_rfl) fun {_ _ _ _} => cast (by kernel_rfl)
def zkY (P : Program) (x0 x1 : AV) (σ : LO) (Z : ZT) : Prop :=
 zbf x0 σ fun a s =>
 zbf x1 s fun b s =>
 fl 0 a s fun c s =>
 fl 0 b s fun d s =>
 bP .eql c d s fun e s =>
 gTl e 1 a s fun f s =>
 gTl e 1 b s fun g s =>
 gT e (bP .eql f g s) s fun h s =>
 anC e h s fun i s =>
 gT i (zb 2 a s) s fun j s =>
 gT i (zg true 5 j s) s fun l s =>
 gT i (zb 2 b s) s fun m s =>
 gT i (zg true 5 m s) s fun n s =>
 gT i (cA P zqk [l, n] s) s fun o s =>
 anC i o s fun p s =>
 z1 Z p s
theorem zkK : F2 Tryz.prog zhl zkY := zi [] Tryz.func54 (by decide +kernel) (by kernel_rfl) fun {_ _ _ _ _} => cast (by kernel_rfl)
def zmj (P : Program) (x0 : AV) (σ : LO) (Z : ZT) : Prop :=
 cA P zhw [(iN 3), x0] σ fun a s =>
 z1 Z a s
theorem zlT : F1 Tryz.prog zcU zmj := zi [] Tryz.func55 (by decide +kernel) (by kernel_rfl) fun {_ _ _ _} => cast (by kernel_rfl)
def zpR (P : Program) (x0 : AV) (σ : LO) (Z : ZT) : Prop :=
 zbf x0 σ fun a s =>
 zQ [iN 0, iN 0, iN 0, iN 0, iN 0, iN 0, iN 0, iN 0, iN 0, eN, iN 0, iN 0, eN, eN, eN, eN, (.d (.str [])), iN 0, (.d (.str [])), iN 0, eN, eN, iN 0, iN 0, eN, iN 0, iN 0, eN, iN 0, iN 0] s fun b s =>
 fl 1 a s fun c s =>
 fl 0 a s fun d s =>
 zg true 8 a s fun e s =>
 m1 8 [iN 0, iN 0, iN 0, iN 0, eN, eN, iN 0, iN 0] e s fun f s =>
 zB (zR [iN 0, iN 0, iN 0, iN 0, iN 0, iN 0, iN 0, iN 0, iN 0, eN, iN 0, iN 0, eN, eN, eN, eN, (.d (.str [])), iN 0, (.d (.str [])), iN 0, eN, eN, iN 0, iN 0, eN, iN 0, iN 0, eN, iN 0, iN 0] [(0, 1, (iN 7)), (1, 1, c), (2, 1, d), (13, 1, f)]) s fun g s =>
 zf 30 b g s fun _ s =>
 Z (zI (zan b s true 30) (some [])) s
theorem zpw : F1 Tryz.prog zls zpR := zi [] Tryz.func56 (by decide +kernel) (by kernel_rfl) fun {_ _ _ _} => cast (by kernel_rfl)
def zpN (P : Program) (x0 x1 x2 x3 : AV) (σ : LO) (Z : ZT) : Prop :=
 zbf x0 σ fun a s =>
 zbf x1 s fun b s =>
 zbf x3 s fun c s =>
 cA P zov [x2] s fun d s =>
 zc d 0 s fun e s =>
 zc d 1 s fun f s =>
 bP .neq f (iN 0) s fun g s =>
 gFm g e s fun h s =>
 gF g (zg true 3 c s) s fun i s =>
 gF g (cA P zfd [h, i] s) s fun j s =>
 gF g (unC .not j s) s fun l s =>
 orC g l s fun m s =>
 gF m (zg false 1 a s) s fun n s =>
 gF m (cA P zfu [n] s) s fun o s =>
 gF m (bP .eql o (iN 0) s) s fun p s =>
 gFm m p s fun q s =>
 gT q (zg false 1 a s) s fun r s =>
 gT q (cA P zcc [r] s) s fun u s =>
 gT q (zcO .eql .ptr u (.d .nilp) s) s fun w s =>
 gF m (anC q w s) s fun y s =>
 orC m y s fun z s =>
 gF z (zg false 1 b s) s fun A s =>
 gF z (cA P zgs [A] s) s fun B s =>
 gF z (bP .eql B (iN 0) s) s fun C s =>
 gFm z C s fun D s =>
 gT D (zg false 1 b s) s fun E s =>
 gT D (cA P zcl [E] s) s fun F s =>
 gT D (zcO .eql .ptr F (.d .nilp) s) s fun G s =>
 gF z (anC D G s) s fun H s =>
 orC z H s fun I s =>
 zp I (z1 Z bF s) (fl 2 c s fun J s =>
 cA P zaQ [J, (.fn (.func zgo) [] [a, b, c])] s fun K s =>
 unC .not K s fun L s =>
 z1 Z L s)
theorem zps : F4 Tryz.prog zln zpN := zi [] Tryz.func57 (by decide +kernel) (by kernel_rfl) fun {_ _ _ _ _ _ _} => cast (by kernel_rfl)
def zml (P : Program) (x0 x1 x2 x3 x4 x5 : AV) (σ : LO) (Z : ZT) : Prop :=
 zaz .sl x5 σ fun a s =>
 zcd [x4, (iN 0)] s fun v s b =>
 zbM v fun c v => zbM v fun d v => bP .lss d a s fun e s =>
 zp e (il true 7 7 x5 d s fun f s =>
 cp [iN 0, iN 0, iN 0, iN 0, iN 0, eN, eN] 7 f s fun g s =>
 zg true 7 g s fun h s =>
 cA P zih [x0, x1, x2, h] s fun i s =>
 unC .not i s fun j s =>
 gFl j 0 g s fun l s =>
 gFm j x3 s fun m s =>
 gF j (bP .geq l m s) s fun n s =>
 orC j n s fun o s =>
 gFl o 1 g s fun p s =>
 gFm o c s fun q s =>
 gF o (bP .leq p q s) s fun r s =>
 orC o r s fun u s =>
 gFm u x4 s fun w s =>
 gF u (bP .lss w (iN 0) s) s fun y s =>
 gFm u y s fun z s =>
 gTl z 1 g s fun A s =>
 gTm z x4 s fun B s =>
 gT z (bP .add (iN 8) B s) s fun C s =>
 gT z (bP .gtr A C s) s fun D s =>
 gF u (anC z D s) s fun E s =>
 orC u E s fun F s =>
 gFm F x4 s fun G s =>
 gF F (bP .geq G (iN 0) s) s fun H s =>
 gFm F H s fun I s =>
 gTl I 1 g s fun J s =>
 gTm I x4 s fun K s =>
 gT I (bP .sub J K s) s fun L s =>
 gT I (bP .gtr L (iN 8) s) s fun M s =>
 gF F (anC I M s) s fun N s =>
 orC F N s fun O s =>
 zp O (z1 Z bF s) (fl 1 g s fun Q s =>
 bP .add d (iN 1) s fun R s =>
 b [Q, R] s)) (z1 Z bT s)
theorem zlV : F6 Tryz.prog zii zml := zi [.l [13, 19] [(12, 1), (15, 1), (20, 46)]] Tryz.func58 (by decide +kernel) (by kernel_rfl) fun {_ _ _ _ _ _ _ _ _} => cast (by kernel_rfl)
def zmo (P : Program) (σ : LO) (Z : ZT) : Prop :=
 zap σ fun a s =>
 zB (zR [eN, (.d .nilmap)] [(1, 1, a)]) s fun b s =>
 zbf b s fun c s =>
 z1 Z c s
theorem zlY : F0 Tryz.prog zij zmo := zi [] Tryz.func63 (by decide +kernel) (by kernel_rfl) fun {_ _ _} => cast (by kernel_rfl)
def zkl (P : Program) (x0 x1 : AV) (σ : LO) (Z : ZT) : Prop :=
 cA P zcS [x0] σ fun a s =>
 zp a (z2 Z (iN 0) bF s) (nfl 1 x0 s fun b s =>
 zau .toStr x1 s fun c s =>
 zaK .str true (iN 0) b c s fun d s =>
 zc d 0 s fun e s =>
 zc d 1 s fun f s =>
 z2 Z e f s)
theorem zjY : F2 Tryz.prog zcg zkl := zi [.d [(0, 12)] []] Tryz.func64 (by decide +kernel) (by kernel_rfl) fun {_ _ _ _ _} => cast (by kernel_rfl)
def zla (P : Program) (x0 x1 : AV) (σ : LO) (Z : ZT) : Prop :=
 cA P zcS [x0] σ fun a s =>
 zp a (z1 Z (iN 0) s) (nfl 1 x0 s fun b s =>
 zau .toStr x1 s fun c s =>
 zaK .str true (iN 0) b c s fun d s =>
 zc d 0 s fun e s =>
 zc d 1 s fun f s =>
 zp f (z1 Z e s) (nfl 0 x0 s fun g s =>
 zaz .sl g s fun h s =>
 bP .geq h (iN 1048576) s fun i s =>
 zp i (z1 Z (iN 0) s) (zbY x0 s fun j s =>
 zb 0 j s fun l s =>
 zg false 1 l s fun m s =>
 cA P zcC [x1] s fun n t =>
 zZ l s t ∧ (m1 1 [eN] n t fun o s =>
 zE 1 24 m o s fun p s =>
 zbY x0 s fun q s =>
 zb 0 q s fun r s =>
 zf 1 r p s fun _ s =>
 nfl 0 x0 s fun w s =>
 zaz .sl w s fun y s =>
 nfl 1 x0 s fun z s =>
 zau .toStr x1 s fun A s =>
 zaV .str z A y s fun _ s =>
 z1 Z y s))))
theorem zkM : F2 Tryz.prog zeh zla := zi [.d [(0, 12)] [], .d [(0, 12)] [(6, [31])], .d [(0, 8)] []] Tryz.func65 (by decide +kernel) (by kernel_rfl) fun {_ _ _ _ _} => cast (by kernel_rfl)
def zmh (P : Program) (x0 x1 : AV) (σ : LO) (Z : ZT) : Prop :=
 zcd [(iN 0)] σ fun v s a =>
 zbM v fun b v => nfl 0 x0 s fun c s =>
 zaz .sl c s fun d s =>
 bP .lss b d s fun e s =>
 zp e (nfl 0 x0 s fun f s =>
 il false 1 1 f b s fun g s =>
 cA P zql [g, x1] s fun h s =>
 zp h (bP .add b (iN 1) s fun i s =>
 z2 Z i bT s) (bP .add b (iN 1) s fun j s =>
 a [j] s)) (z2 Z (iN 0) bF s)
theorem zlR : F2 Tryz.prog zig zmh := zi [.l [6] [(4, 2), (7, 20)]] Tryz.func66 (by decide +kernel) (by kernel_rfl) fun {_ _ _ _ _} => cast (by kernel_rfl)
def zjw (P : Program) (x0 x1 : AV) (σ : LO) (Z : ZT) : Prop :=
 zbf x1 σ fun a s =>
 zcd [(iN 0)] s fun v s b =>
 zbM v fun c v => nfl 0 x0 s fun d s =>
 zaz .sl d s fun e s =>
 bP .lss c e s fun f s =>
 zp f (nfl 0 x0 s fun g s =>
 il true 2 2 g c s fun h s =>
 zg true 2 a s fun i s =>
 zcO .eql (.ints 2) h i s fun j s =>
 zp j (z1 Z bT s) (bP .add c (iN 1) s fun l s =>
 b [l] s)) (z1 Z bF s)
theorem zjg : F2 Tryz.prog zfT zjw := zi [.l [5] [(4, 1), (6, 18)], .d [(0, 9)] []] Tryz.func67 (by decide +kernel) (by kernel_rfl) fun {_ _ _ _ _} => cast (by kernel_rfl)
def zok (P : Program) (x0 x1 : AV) (σ : LO) (Z : ZT) : Prop :=
 cA P zcB [x1] σ fun a s =>
 bP .neq a (iN 0) s fun b s =>
 zp b (z1 Z (iN 0) s) (bP .mul x0 x1 s fun c s =>
 bP .add c (iN 1) s fun d s =>
 z1 Z d s)
theorem znY : F2 Tryz.prog zhw zok := zi [] Tryz.func68 (by decide +kernel) (by kernel_rfl) fun {_ _ _ _ _} => cast (by kernel_rfl)
def zpM (P : Program) (x0 x1 : AV) (σ : LO) (Z : ZT) : Prop :=
 cA P zcB [x0] σ fun a s =>
 bP .eql a (iN 0) s fun b s =>
 gTm b x1 s fun c s =>
 gT b (bP .geq c (iN 0) s) s fun d s =>
 anC b d s fun e s =>
 gTm e x1 s fun f s =>
 gT e (bP .leq f (iN 9007199254740992) s) s fun g s =>
 anC e g s fun h s =>
 z1 Z h s
theorem zpr : F2 Tryz.prog zlm zpM := zi [] Tryz.func69 (by decide +kernel) (by kernel_rfl) fun {_ _ _ _ _} => cast (by kernel_rfl)
def zsQ (P : Program) (x0 x1 : AV) (σ : LO) (Z : ZT) : Prop :=
 cA P zcc [x0] σ fun a s =>
 zcO .neq .ptr a (.d .nilp) s fun b s =>
 gTm b x1 s fun c s =>
 gT b (cA P zcl [c] s) s fun d s =>
 gT b (zcO .neq .ptr d (.d .nilp) s) s fun e s =>
 anC b e s fun f s =>
 z1 Z f s
theorem zsr : F2 Tryz.prog zfV zsQ := zi [] Tryz.func70 (by decide +kernel) (by kernel_rfl) fun {_ _ _ _ _} => cast (by kernel_rfl)
def zmg (P : Program) (x0 x1 : AV) (σ : LO) (Z : ZT) : Prop :=
 cA P zaM [x1] σ fun a s =>
 bP .neq a (iN 0) s fun b s =>
 zp b (z2 Z (iN 0) a s) (cA P ziV [x0] s fun c s =>
 unC .not c s fun d s =>
 zp d (z2 Z (iN 0) (iN 2) s) (cA P zcf [eN, x1] s fun e s =>
 cA P zeh [x0, e] s fun f s =>
 bP .eql f (iN 0) s fun g s =>
 zp g (z2 Z (iN 0) (iN 6) s) (z2 Z f (iN 0) s)))
theorem zlQ : F2 Tryz.prog zif zmg := zi [] Tryz.func71 (by decide +kernel) (by kernel_rfl) fun {_ _ _ _ _} => cast (by kernel_rfl)
def zsR (P : Program) (x0 x1 x2 x3 x4 x5 x6 : AV) (σ : LO) (Z : ZT) : Prop :=
 zQ [iN 0, iN 0] σ fun a s =>
 cA P zfV [x0, x1] s fun b s =>
 unC .not b s fun c s =>
 zp c (zB (zR [iN 0, iN 0] []) s fun d s =>
 zf 2 a d s fun _ s =>
 Z (zI (zan a s true 2) (zI (some (iN 2)) (some []))) s) (cA P znC [x3, x4, x5, x6] s fun f s =>
 unC .not f s fun g s =>
 zp g (zB (zR [iN 0, iN 0] []) s fun h s =>
 zf 2 a h s fun _ s =>
 Z (zI (zan a s true 2) (zI (some (iN 1)) (some []))) s) (cA P zcV [x3, x4, x5, x6] s fun j s =>
 cA P zlr [x0, x1, x2, j] s fun l s =>
 zc l 0 s fun m s =>
 zc l 1 s fun n s =>
 zf 2 a m s fun _ s =>
 Z (zI (zan a s true 2) (zI (some n) (some []))) s))
theorem zss : F7 Tryz.prog zow zsR := zi [] Tryz.func72 (by decide +kernel) (by kernel_rfl) fun {_ _ _ _ _ _ _ _ _ _} => cast (by kernel_rfl)
def zkv (P : Program) (x0 : AV) (σ : LO) (Z : ZT) : Prop :=
 zbf x0 σ fun a s =>
 zg true 30 a s fun b s =>
 cA P zfg [b] s fun c s =>
 zc c 0 s fun d s =>
 zc c 1 s fun e s =>
 bP .neq e (iN 0) s fun f s =>
 zp f (z2 Z eN e s) (fl 0 a s fun g s =>
 (fun (h : AV → LO → Prop) => bP .eql g (iN 2) s fun U s =>
 zp U (h U s) (bP .eql g (iN 3) s fun V s =>
 zp V (h V s) (bP .eql g (iN 4) s fun W s =>
 h W s)))
 (fun i s => zp i (fl 0 a s fun j s =>
 fl 2 a s fun l s =>
 fl 3 a s fun m s =>
 fl 4 a s fun n s =>
 cA P zcV [j, l, m, n] s fun o s =>
 z2 Z o (iN 0) s) (bP .eql g (iN 6) s fun p s =>
 zp p (fl 0 a s fun q s =>
 fl 3 a s fun r s =>
 fl 4 a s fun u s =>
 cA P zcV [q, (iN 0), r, u] s fun w s =>
 z2 Z w (iN 0) s) (bP .eql g (iN 9) s fun y s =>
 zp y (fl 0 a s fun z s =>
 fl 3 a s fun A s =>
 cA P zcV [z, (iN 0), A, (iN 0)] s fun B s =>
 z2 Z B (iN 0) s) (bP .eql g (iN 5) s fun C s =>
 zp C (m1 1 [(.d (.int .u8 0))] (.d (.int .u8 5)) s fun D s =>
 fl 2 a s fun E s =>
 fl 5 a s fun F s =>
 fl 6 a s fun G s =>
 zb 7 a s fun H s =>
 fl 0 H s fun I s =>
 zb 7 a s fun J s =>
 fl 1 J s fun K s =>
 zj false 1 5 (zR (rep [iN 0] 5) [(0, 1, E), (1, 1, F), (2, 1, G), (3, 1, I), (4, 1, K)]) s fun L s =>
 cA P znA [D, L] s fun M s =>
 z2 Z M (iN 0) s) ((fun (N : AV → LO → Prop) => bP .eql g (iN 7) s fun S s =>
 zp S (N S s) (bP .eql g (iN 8) s fun T s =>
 N T s))
 (fun O s => zp O (m1 1 [(.d (.int .u8 0))] (.d (.int .u8 6)) s fun Q s =>
 zE 1 1 Q d s fun R s =>
 z2 Z R (iN 0) s) (z2 Z eN (iN 0) s))))))))
theorem zhB : F1 Tryz.prog zfH zkv := zi [] Tryz.func73 (by decide +kernel) (by kernel_rfl) fun {_ _ _ _} => cast (by kernel_rfl)
def zsO (P : Program) (x0 x1 : AV) (σ : LO) (Z : ZT) : Prop :=
 zbf x0 σ fun a s =>
 zbf x1 s fun b s =>
 zQ [iN 0, iN 0, iN 0, iN 0, iN 0, iN 0, iN 0, iN 0, iN 0, eN, iN 0, iN 0, eN, eN, eN, eN, (.d (.str [])), iN 0, (.d (.str [])), iN 0, eN, eN, iN 0, iN 0, eN, iN 0, iN 0, eN, iN 0, iN 0] s fun c s =>
 zg true 30 a s fun d s =>
 cA P ziZ [d] s fun e s =>
 zf 30 a e s fun _ s =>
 fl 0 a s fun g s =>
 bP .eql g (iN 7) s fun h s =>
 gTl h 13 a s fun i s =>
 gT h (zaz .sl i s) s fun j s =>
 gT h (bP .eql j (iN 1) s) s fun l s =>
 anC h l s fun m s =>
 zp m (fl 13 a s fun n s =>
 zg true 2 b s fun o s =>
 zL none 8 n (iN 0) s fun p s =>
 zb 6 p s fun q s =>
 zf 2 q o s fun _ s =>
 zg true 30 a s fun u s =>
 zf 30 c u s fun _ s =>
 Z (zI (zan c s true 30) (some [])) s) (zg true 2 b s fun y s =>
 zb 28 a s fun z s =>
 zf 2 z y s fun _ s =>
 zg true 30 a s fun B s =>
 zf 30 c B s fun _ s =>
 Z (zI (zan c s true 30) (some [])) s)
theorem zsp : F2 Tryz.prog zlq zsO := zi [] Tryz.func74 (by decide +kernel) (by kernel_rfl) fun {_ _ _ _ _} => cast (by kernel_rfl)
def zsP (P : Program) (x0 x1 x2 x3 : AV) (σ : LO) (Z : ZT) : Prop :=
 zQ [iN 0, iN 0] σ fun a s =>
 cA P zeh [x0, x3] s fun b s =>
 bP .eql b (iN 0) s fun c s =>
 zp c (zB (zR [iN 0, iN 0] []) s fun d s =>
 zf 2 a d s fun _ s =>
 Z (zI (zan a s true 2) (zI (some (iN 6)) (some []))) s) (cA P zdq [x1, x2, b] s fun f s =>
 zc f 0 s fun g s =>
 zc f 1 s fun h s =>
 zf 2 a g s fun _ s =>
 Z (zI (zan a s true 2) (zI (some h) (some []))) s)
theorem zsq : F4 Tryz.prog zlr zsP := zi [] Tryz.func75 (by decide +kernel) (by kernel_rfl) fun {_ _ _ _ _ _ _} => cast (by kernel_rfl)
end Go.Proofs.YtpgahkdjkanblaaGreat
