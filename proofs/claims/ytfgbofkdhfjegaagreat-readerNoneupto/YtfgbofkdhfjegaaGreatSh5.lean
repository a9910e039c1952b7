/- The conditions of each function, its slots as variables, and that the logic's conditions are these. Printed by program. -/
import Derived.Test.YtfgbofkdhfjegaaGreatNm
import Derived.KernelRfl
set_option linter.all false
set_option maxRecDepth 100000
namespace Go.Proofs.YtfgbofkdhfjegaaGreat
open Go.AW
def zri (P : Program) (x0 : AV) (σ : LO) (Z : ZT) : Prop :=
 cA P zgU [(iN 2),x0] σ fun a s =>
 z1 Z a s
theorem e_quorum_Big : F1 Tryz.prog zmg zri := zi [] Tryz.func203
def zcG (P : Program) (x0 x1 : AV) (σ : LO) (Z : ZT) : Prop :=
 zaz .sl x0 σ fun a s =>
 zbf [(iN 0)] s fun v s b =>
 zaD v fun c v => bP .lss c a s fun d s =>
 zn d (il true 2 2 x0 c s fun e s =>
 zav P x1 [dm e] s fun f s =>
 zn f (z1 Z c s) (bP .add c (iN 1) s fun g s =>
 b [g] s)) (z1 Z (iN (-1)) s)
theorem zfc : F2 Tryz.prog zbD zcG := zi [.l [8] [(4, 2),(9, 10)]] Tryz.func204
def ztG (P : Program) (x0 x1 : AV) (σ : LO) (Z : ZT) : Prop :=
 cA P zbo [x0] σ fun a s =>
 zcJ .neq .ptr a (.d .nilp) s fun b s =>
 gTm b x1 s fun c s =>
 gT b (cA P zbs [c] s) s fun d s =>
 gT b (zcJ .neq .ptr d (.d .nilp) s) s fun e s =>
 anC b e s fun f s =>
 z1 Z f s
theorem e_auth_made : F2 Tryz.prog zoe ztG := zi [] Tryz.func205
def zvy (P : Program) (x0 x1 x2 x3 : AV) (σ : LO) (Z : ZT) : Prop :=
 zu false 1 4 (zQ (rep [iN 0] 4) [(0, 1,x0),(1, 1,x1),(2, 1,x2),(3, 1,x3)]) σ fun a s =>
 zaz .sl a s fun b s =>
 zbf [(iN 0)] s fun v s c =>
 zaD v fun d v => bP .lss d b s fun e s =>
 zn e (il false 1 1 a d s fun f s =>
 bP .lss f (iN 0) s fun g s =>
 gFm g f s fun h s =>
 gF g (bP .gtr h (iN 9007199254740992) s) s fun i s =>
 orC g i s fun j s =>
 zn j (z1 Z bF s) (bP .add d (iN 1) s fun l s =>
 c [l] s)) (z1 Z bT s)
theorem e_auth_may : F4 Tryz.prog zql zvy := zi [.l [17] [(8, 1),(10, 1),(18, 10)]] Tryz.func206
def zpO (P : Program) (x0 x1 x2 x3 x4 : AV) (σ : LO) (Z : ZT) : Prop :=
 zbk x2 σ fun a s =>
 cA P zbi [x0,x4] s fun b s =>
 ze b 0 s fun c s =>
 ze b 1 s fun d s =>
 gT d (zo true 2 a s) s fun e s =>
 gTm d x3 s fun f s =>
 gTm d c s fun g s =>
 gT d (zB (zQ [iN 0,iN 0] [(0, 1,f),(1, 1,g)]) s) s fun h s =>
 gT d (zcJ .eql (.ints 2) e h s) s fun i s =>
 anC d i s fun j s =>
 gTm j x1 s fun l s =>
 gT j (zo true 2 a s) s fun m s =>
 gT j (cA P zep [l,m] s) s fun n s =>
 anC j n s fun o s =>
 z1 Z o s
theorem zwi : F5 Tryz.prog zlc zpO := zi [] Tryz.func207
def zlG (P : Program) (x0 x1 x2 x3 : AV) (σ : LO) (Z : ZT) : Prop :=
 m1 1 [(.d (.int .u8 0))] (.d (.int .u8 4)) σ fun a s =>
 zu false 1 4 (zQ (rep [iN 0] 4) [(0, 1,x0),(1, 1,x1),(2, 1,x2),(3, 1,x3)]) s fun b s =>
 cA P zqk [a,b] s fun c s =>
 z1 Z c s
theorem zrD : F4 Tryz.prog zhv zlG := zi [] Tryz.func208
def zrl (P : Program) (x0 : AV) (σ : LO) (Z : ZT) : Prop :=
 zR [(.d (.int .u8 0)),(.d (.int .u8 0)),(.d (.int .u8 0)),(.d (.int .u8 0)),(.d (.int .u8 0)),(.d (.int .u8 0)),(.d (.int .u8 0)),(.d (.int .u8 0)),(.d (.int .u8 0)),(.d (.int .u8 0))] σ fun a s =>
 zR [(.d (.int .u8 0)),(.d (.int .u8 0)),(.d (.int .u8 0)),(.d (.int .u8 0)),(.d (.int .u8 0)),(.d (.int .u8 0)),(.d (.int .u8 0)),(.d (.int .u8 0)),(.d (.int .u8 0)),(.d (.int .u8 0))] s fun b s =>
 zbf [x0,(iN 0)] s fun v s c =>
 zaD v fun d v => zaD v fun e v => bP .gtr d (.d (.int .u64 127)) s fun f s =>
 zn f (zar (.int .u8) d s fun g s =>
 bP .or g (.d (.int .u8 128)) s fun h s =>
 zH (some 10) 1 b e s fun i s =>
 zj 1 i h s fun _ s =>
 bP .shr d (.d (.int .u64 7)) s fun l s =>
 bP .add e (iN 1) s fun m s =>
 c [l,m] s) (zar (.int .u8) d s fun n s =>
 zH (some 10) 1 b e s fun o s =>
 zj 1 o n s fun _ s =>
 zo true 10 b s fun q s =>
 bP .add e (iN 1) s fun r s =>
 zj 10 a q s fun _ s =>
 Z (zD (zak a s true 10) (zD (some r) (some []))) s)
theorem e_codec_form : F1 Tryz.prog zmj zrl := zi [.l [0, 5] [(6, 11)]] Tryz.func209
def zgx (P : Program) (x0 : AV) (σ : LO) (Z : ZT) : Prop :=
 zaz .sl x0 σ fun a s =>
 zaz .sl x0 s fun b s =>
 zcK (.sl 1) x0 none (some a) (some b) s fun c s =>
 z1 Z c s
theorem zgr : F1 Tryz.prog zdD zgx := zi [] Tryz.func210
def ztB (P : Program) (x0 : AV) (σ : LO) (Z : ZT) : Prop :=
 zbk x0 σ fun a s =>
 fl 0 a s fun b s =>
 cA P ziZ [b] s fun c s =>
 ze c 0 s fun d s =>
 ze c 1 s fun e s =>
 ze c 2 s fun f s =>
 ze c 3 s fun g s =>
 fl 0 a s fun h s =>
 bP .lss h (iN 0) s fun i s =>
 gFl i 0 a s fun j s =>
 gF i (bP .gtr j (iN 4) s) s fun l s =>
 orC i l s fun m s =>
 gFm m d s fun n s =>
 gF m (unC .not n s) s fun o s =>
 gFm m o s fun p s =>
 gTl p 1 a s fun q s =>
 gT p (bP .neq q (.d (.str [])) s) s fun r s =>
 gF m (anC p r s) s fun u s =>
 orC m u s fun w s =>
 gFm w e s fun y s =>
 gF w (unC .not y s) s fun z s =>
 gFm w z s fun A s =>
 gTl A 2 a s fun B s =>
 gT A (bP .neq B (.d (.str [])) s) s fun C s =>
 gF w (anC A C s) s fun D s =>
 orC w D s fun E s =>
 gFm E f s fun F s =>
 gF E (unC .not F s) s fun G s =>
 gFm E G s fun H s =>
 gTl H 3 a s fun I s =>
 gT H (bP .neq I (iN 0) s) s fun J s =>
 gF E (anC H J s) s fun K s =>
 orC E K s fun L s =>
 gFm L g s fun M s =>
 gF L (unC .not M s) s fun N s =>
 gFm L N s fun O s =>
 gTl O 4 a s fun Q s =>
 gT O (zaz .sl Q s) s fun R s =>
 gT O (bP .gtr R (iN 0) s) s fun S s =>
 gF L (anC O S s) s fun T s =>
 orC L T s fun U s =>
 zn U (z1 Z (iN 60) s) (gTl d 1 a s fun V s =>
 gT d (cA P zjZ [V] s) s fun W s =>
 gT d (unC .not W s) s fun X s =>
 anC d X s fun Y s =>
 gFm Y e s fun a0 s =>
 gFm Y a0 s fun b0 s =>
 gTl b0 2 a s fun c0 s =>
 gT b0 (cA P zjZ [c0] s) s fun d0 s =>
 gT b0 (unC .not d0 s) s fun e0 s =>
 gF Y (anC b0 e0 s) s fun f0 s =>
 orC Y f0 s fun g0 s =>
 zn g0 (z1 Z (iN 61) s) (gTl g 4 a s fun h0 s =>
 gT g (zaz .sl h0 s) s fun i0 s =>
 gT g (bP .lss i0 (iN 1) s) s fun j0 s =>
 gTm g j0 s fun l0 s =>
 gFl l0 4 a s fun m0 s =>
 gF l0 (zaz .sl m0 s) s fun o0 s =>
 gF l0 (bP .gtr o0 (iN 4) s) s fun p0 s =>
 gT g (orC l0 p0 s) s fun q0 s =>
 anC g q0 s fun r0 s =>
 zn r0 (z1 Z (iN 62) s) (zbf [(iN 0)] s fun v s u0 =>
 zaD v fun w0 v => fl 4 a s fun y0 s =>
 zaz .sl y0 s fun z0 s =>
 bP .lss w0 z0 s fun A0 s =>
 zn A0 (fl 4 a s fun B0 s =>
 il false 1 1 B0 w0 s fun C0 s =>
 zaz .sl C0 s fun D0 s =>
 bP .gtr D0 (iN 64) s fun E0 s =>
 zn E0 (z1 Z (iN 62) s) (bP .add w0 (iN 1) s fun F0 s =>
 u0 [F0] s)) (fl 3 a s fun G0 s =>
 bP .lss G0 (iN 0) s fun H0 s =>
 gFl H0 3 a s fun I0 s =>
 gF H0 (bP .gtr I0 (iN 9007199254740992) s) s fun J0 s =>
 orC H0 J0 s fun K0 s =>
 zn K0 (z1 Z (iN 60) s) (z1 Z (iN 0) s)))))
theorem e_r06_Check : F1 Tryz.prog zio ztB := zi [.l [7] [(2, 1),(90, 14)]] Tryz.func219
def zrg (P : Program) (x0 : AV) (σ : LO) (Z : ZT) : Prop :=
 bP .eql x0 (iN 1) σ fun a s =>
 zn a (Z (zD (some bT) (zD (some bF) (zD (some bF) (zD (some bF) (some []))))) s) (bP .eql x0 (iN 2) s fun b s =>
 zn b (Z (zD (some bT) (zD (some bF) (zD (some bF) (zD (some bT) (some []))))) s) (bP .eql x0 (iN 3) s fun c s =>
 zn c (Z (zD (some bT) (zD (some bT) (zD (some bT) (zD (some bF) (some []))))) s) (bP .eql x0 (iN 4) s fun d s =>
 zn d (Z (zD (some bT) (zD (some bF) (zD (some bT) (zD (some bF) (some []))))) s) (Z (zD (some bF) (zD (some bF) (zD (some bF) (zD (some bF) (some []))))) s))))
theorem e_r06_fields : F1 Tryz.prog ziZ zrg := zi [] Tryz.func220
def zpF (P : Program) (x0 x1 : AV) (σ : LO) (Z : ZT) : Prop :=
 zbk x1 σ fun a s =>
 zo true 2 a s fun b s =>
 cA P zgh [b] s fun c s =>
 bP .neq c (iN 0) s fun d s =>
 zn d (z1 Z x0 s) (fl 0 a s fun e s =>
 zar (.int .u64) e s fun f s =>
 zg 1 a s fun g s =>
 zo false 1 g s fun h s =>
 zar (.int .u64) h s fun i s =>
 cA P zaY [x0,f] s fun j t =>
 zP g s t ∧ (cA P zaY [j,i] t fun l s =>
 z1 Z l s))
theorem zwa : F2 Tryz.prog zkT zpF := zi [.d [(0, 4),(5, 3),(4, 1),(8, 2)] [(4, [14])]] Tryz.func221
def zhH (P : Program) (x0 x1 : AV) (σ : LO) (Z : ZT) : Prop :=
 zR [iN 0,iN 0] σ fun a s =>
 zp P zgi [x0,x1] s fun b s =>
 bP .geq b (iN 0) s fun c s =>
 zn c (zp P zdR [(iN 5)] s fun d s =>
 zj 2 a d s fun _ s =>
 Z (zD (zak a s true 2) (some [])) s) (nfl 0 x0 s fun f s =>
 zaz .sl f s fun g s =>
 bP .geq g (iN 8) s fun h s =>
 zn h (zp P zdR [(iN 6)] s fun i s =>
 zj 2 a i s fun _ s =>
 Z (zD (zak a s true 2) (some [])) s) (zbf [(iN 0)] s fun v s l =>
 zaD v fun m v => nfl 0 x0 s fun n s =>
 zaz .sl n s fun o s =>
 bP .lss m o s fun p s =>
 gTm p x0 s fun q s =>
 gT p (zbz q s) s fun r s =>
 gTl p 0 r s fun u s =>
 gTm p m s fun w s =>
 gT p (zH none 4 u w s) s fun y s =>
 gTl p 0 y s fun z s =>
 gTm p x1 s fun A s =>
 gT p (bP .lss z A s) s fun B s =>
 anC p B s fun C s =>
 zn C (bP .add m (iN 1) s fun D s =>
 l [D] s) (nfl 0 x0 s fun E s =>
 zcK (.sl 4) E none (some m) none s fun F s =>
 zdn 4 72 eN F s fun G s =>
 zB (zQ [(.d (.str [])),iN 0,eN,eN] [(0, 1,x1)]) s fun H s =>
 zu true 4 1 (zQ (rep [(.d (.str [])),iN 0,eN,eN] 1) [(0, 4,H)]) s fun I s =>
 zdn 4 72 G I s fun J s =>
 nfl 0 x0 s fun K s =>
 zcK (.sl 4) K (some m) none none s fun L s =>
 zdn 4 72 J L s fun M s =>
 zbz x0 s fun N s =>
 zg 0 N s fun O s =>
 zj 1 O M s fun _ s =>
 zB (zQ [iN 0,iN 0] []) s fun R s =>
 zj 2 a R s fun _ s =>
 Z (zD (zak a s true 2) (some [])) s)))
theorem zhC : F2 Tryz.prog zft zhH := zlg [.l [5] [(19, 21)]] Tryz.func222
def zmE (P : Program) (x0 x1 : AV) (σ : LO) (Z : ZT) : Prop :=
 zbf [(iN 0)] σ fun v s a =>
 zaD v fun b v => nfl 0 x0 s fun c s =>
 zaz .sl c s fun d s =>
 bP .lss b d s fun e s =>
 zn e (nfl 0 x0 s fun f s =>
 zH none 4 f b s fun g s =>
 fl 0 g s fun h s =>
 bP .eql h x1 s fun i s =>
 zn i (z1 Z b s) (bP .add b (iN 1) s fun j s =>
 a [j] s)) (z1 Z (iN (-1)) s)
theorem zsP : F2 Tryz.prog zgi zmE := zi [.l [5] [(4, 1),(6, 20)]] Tryz.func223
def zhM (P : Program) (x0 x1 x2 : AV) (σ : LO) (Z : ZT) : Prop :=
 zbk x2 σ fun a s =>
 zR [iN 0,iN 0] s fun b s =>
 nfl 0 x0 s fun c s =>
 il true 4 4 c x1 s fun d s =>
 cp [(.d (.str [])),iN 0,eN,eN] 4 d s fun e s =>
 fl 4 a s fun f s =>
 zaz .sl f s fun g s =>
 fl 2 e s fun h s =>
 zaz .sl h s fun i s =>
 bP .add i g s fun j s =>
 bP .gtr j (iN 64) s fun l s =>
 gF l (zo true 4 e s) s fun m s =>
 gF l (cA P zcy [m] s) s fun n s =>
 gFm l g s fun o s =>
 gF l (bP .sub (iN 9007199254740992) o s) s fun p s =>
 gF l (bP .gtr n p s) s fun q s =>
 orC l q s fun r s =>
 zn r (cA P zdR [(iN 71)] s fun u s =>
 zj 2 b u s fun _ s =>
 Z (zD (zak b s true 2) (zD (some eN) (some []))) s) (fl 2 e s fun y s =>
 zC 1 24 eN y s fun z s =>
 zbf [eN,z,(iN 0)] s fun v s A =>
 zaD v fun B v => zaD v fun C v => zaD v fun D v => fl 4 a s fun E s =>
 zaz .sl E s fun F s =>
 bP .lss D F s fun G s =>
 zn G (fl 4 a s fun H s =>
 il false 1 1 H D s fun I s =>
 zC 1 1 eN I s fun J s =>
 zg 0 e s fun K s =>
 zo false 1 K s fun L s =>
 zo true 4 e s fun M s =>
 cA P zcy [M] s fun N t =>
 zP K s t ∧ (bP .add N D t fun O s =>
 zB (zQ [(.d (.str [])),iN 0,eN] [(0, 1,L),(1, 1,O),(2, 1,J)]) s fun Q s =>
 m1 3 [(.d (.str [])),iN 0,eN] Q s fun R s =>
 zC 3 48 B R s fun S s =>
 m1 1 [eN] J s fun T s =>
 zC 1 24 C T s fun U s =>
 bP .add D (iN 1) s fun V s =>
 A [S,U,V] s)) (nfl 0 x0 s fun W s =>
 zH none 4 W x1 s fun X s =>
 zg 2 X s fun Y s =>
 zj 1 Y C s fun _ s =>
 zo true 4 e s fun b0 s =>
 cA P zcy [b0] s fun c0 s =>
 zB (zQ [iN 0,iN 0] [(1, 1,c0)]) s fun d0 s =>
 zj 2 b d0 s fun _ s =>
 Z (zD (zak b s true 2) (zD (some B) (some []))) s))
theorem zhF : F3 Tryz.prog zeM zhM := zi [.l [10, 11, 12] [(13, 1),(42, 29)], .d [(0, 4),(5, 1),(7, 1),(4, 1),(6, 1),(8, 4)] [(4, [57])]] Tryz.func224
def ziD (P : Program) (x0 x1 x2 : AV) (σ : LO) (Z : ZT) : Prop :=
 zbk x2 σ fun a s =>
 zR [iN 0,iN 0] s fun b s =>
 nfl 0 x0 s fun c s =>
 il true 4 4 c x1 s fun d s =>
 cp [(.d (.str [])),iN 0,eN,eN] 4 d s fun e s =>
 zbf [(iN 0)] s fun v s f =>
 zaD v fun g v => fl 3 e s fun h s =>
 zaz .sl h s fun i s =>
 bP .lss g i s fun j s =>
 gTl j 3 e s fun l s =>
 gTm j g s fun m s =>
 gT j (zH none 2 l m s) s fun n s =>
 gTl j 0 n s fun o s =>
 gTl j 2 a s fun p s =>
 gT j (bP .lss o p s) s fun q s =>
 anC j q s fun r s =>
 zn r (bP .add g (iN 1) s fun u s =>
 f [u] s) (fl 3 e s fun w s =>
 zaz .sl w s fun y s =>
 bP .lss g y s fun z s =>
 gTl z 3 e s fun A s =>
 gTm z g s fun B s =>
 gT z (zH none 2 A B s) s fun C s =>
 gTl z 0 C s fun D s =>
 gTl z 2 a s fun E s =>
 gT z (bP .eql D E s) s fun F s =>
 anC z F s fun G s =>
 (fun (H : AV → LO → Prop) => zn G (fl 3 e s fun H0 s =>
 zH none 2 H0 g s fun I0 s =>
 fl 1 I0 s fun J0 s =>
 H J0 s) (H (iN 0) s))
 (fun I s => fl 3 a s fun J s =>
 bP .lss J I s fun K s =>
 gF K (zg 3 a s) s fun L s =>
 gF K (zo false 1 L s) s fun M s =>
 gF K (zo true 4 e s) s fun N s =>
 gF K (cA P zcy [N] s) s fun O t =>
 zP L s t ∧ (gF K (bP .gtr M O t) t fun Q s =>
 orC K Q s fun R s =>
 zn R (cA P zdR [(iN 72)] s fun S s =>
 zj 2 b S s fun _ s =>
 Z (zD (zak b s true 2) (some [])) s) (unC .not G s fun U s =>
 gTl U 3 e s fun V s =>
 gT U (zaz .sl V s) s fun W s =>
 gT U (bP .geq W (iN 8) s) s fun X s =>
 anC U X s fun Y s =>
 zn Y (cA P zdR [(iN 6)] s fun a0 s =>
 zj 2 b a0 s fun _ s =>
 Z (zD (zak b s true 2) (some [])) s) (fl 3 e s fun c0 s =>
 zcK (.sl 2) c0 none (some g) none s fun d0 s =>
 zg 2 a s fun e0 s =>
 zo false 1 e0 s fun f0 s =>
 zg 3 a s fun g0 s =>
 zo false 1 g0 s fun h0 s =>
 zB (zQ [(.d (.str [])),iN 0] [(0, 1,f0),(1, 1,h0)]) s fun i0 s =>
 m1 2 [(.d (.str [])),iN 0] i0 s fun j0 s =>
 zC 2 24 eN d0 s fun l0 t =>
 zP e0 s t ∧ (zP g0 s t ∧ (zC 2 24 l0 j0 t fun m0 s =>
 (fun (o0 : AV → LO → Prop) => zn G (bP .add g (iN 1) s fun G0 s =>
 o0 G0 s) (o0 g s))
 (fun p0 s => zbz x0 s fun q0 s =>
 zg 0 q0 s fun r0 s =>
 zo false 1 r0 s fun u0 s =>
 fl 3 e s fun w0 s =>
 zcK (.sl 2) w0 (some p0) none none s fun y0 s =>
 zC 2 24 m0 y0 s fun z0 t =>
 zP r0 s t ∧ (zH none 4 u0 x1 t fun A0 s =>
 zg 3 A0 s fun B0 s =>
 zj 1 B0 z0 s fun _ s =>
 fl 3 a s fun D0 s =>
 zB (zQ [iN 0,iN 0] [(1, 1,D0)]) s fun E0 s =>
 zj 2 b E0 s fun _ s =>
 Z (zD (zak b s true 2) (some [])) s)))))))))
theorem ziy : F3 Tryz.prog zfu ziD := zi [.l [8] [(19, 18)], .d [(0, 16)] [], .d [(0, 17)] [], .d [(0, 11)] [(8, [65])], .d [(0, 5),(6, 6),(5, 1),(12, 2)] [(5, [87, 89])], .d [(0, 14)] [(10, [99])]] Tryz.func225
def zly (P : Program) (x0 : AV) (σ : LO) (Z : ZT) : Prop :=
 zbk x0 σ fun a s =>
 fl 1 a s fun b s =>
 fl 2 a s fun c s =>
 zaz .sl c s fun d s =>
 bP .add b d s fun e s =>
 z1 Z e s
theorem zry : F1 Tryz.prog zcy zly := zi [] Tryz.func226
def zvo (P : Program) (x0 : AV) (σ : LO) (Z : ZT) : Prop :=
 bP .lss x0 (.d (.int .u8 128)) σ fun a s =>
 zn a (z1 Z (iN 1) s) (bP .geq x0 (.d (.int .u8 194)) s fun b s =>
 gTm b x0 s fun c s =>
 gT b (bP .lss c (.d (.int .u8 224)) s) s fun d s =>
 anC b d s fun e s =>
 zn e (z1 Z (iN 2) s) (bP .geq x0 (.d (.int .u8 224)) s fun f s =>
 gTm f x0 s fun g s =>
 gT f (bP .lss g (.d (.int .u8 240)) s) s fun h s =>
 anC f h s fun i s =>
 zn i (z1 Z (iN 3) s) (bP .geq x0 (.d (.int .u8 240)) s fun j s =>
 gTm j x0 s fun l s =>
 gT j (bP .lss l (.d (.int .u8 245)) s) s fun m s =>
 anC j m s fun n s =>
 zn n (z1 Z (iN 4) s) (z1 Z (iN 0) s))))
theorem e_r06_size : F1 Tryz.prog zqc zvo := zi [] Tryz.func227
def zgE (P : Program) (x0 x1 : AV) (σ : LO) (Z : ZT) : Prop :=
 zaz .sl x0 σ fun a s =>
 zbf [(iN 0)] s fun v s b =>
 zaD v fun c v => bP .lss c a s fun d s =>
 zn d (il false 1 1 x0 c s fun e s =>
 bP .eql x1 e s fun f s =>
 zn f (z1 Z c s) (bP .add c (iN 1) s fun g s =>
 b [g] s)) (z1 Z (iN (-1)) s)
theorem zlN : F2 Tryz.prog zea zgE := zi [.l [8] [(4, 2),(9, 10)]] Tryz.func229
def zaQ (P : Program) (x0 x1 x2 : AV) (σ : LO) (Z : ZT) : Prop :=
 zaz .sl x0 σ fun a s =>
 zaz .sl x1 s fun b s =>
 bP .neq a b s fun c s =>
 zn c (z1 Z bF s) (zaz .sl x0 s fun d s =>
 zbf [(iN 0)] s fun v s e =>
 zaD v fun f v => bP .lss f d s fun g s =>
 zn g (il false 1 1 x0 f s fun h s =>
 il false 1 1 x1 f s fun i s =>
 zav P x2 [dm h,dm i] s fun j s =>
 unC .not j s fun l s =>
 zn l (z1 Z bF s) (bP .add f (iN 1) s fun m s =>
 e [m] s)) (z1 Z bT s))
theorem zcj : F3 Tryz.prog zan zaQ := zi [.l [17] [(6, 4),(18, 14)]] Tryz.func230
def ztF (P : Program) (x0 x1 : AV) (σ : LO) (Z : ZT) : Prop :=
 cA P zeD [x0,x1] σ fun a s =>
 z1 Z a s
theorem e_op_Same_1 : F2 Tryz.prog zkY ztF := zi [] Tryz.func231
def zhr (P : Program) (x0 x1 : AV) (σ : LO) (Z : ZT) : Prop :=
 zbk x1 σ fun a s =>
 cA P zbK [x0] s fun b s =>
 unC .not b s fun c s =>
 gTm c x0 s fun d s =>
 gT c (zbz d s) s fun e s =>
 gTl c 1 e s fun f s =>
 gT c (zo true 2 a s) s fun g s =>
 gT c (zaZ (.ints 2) false bF f g s) s fun h s =>
 anC c h s fun i s =>
 z1 Z i s
theorem zmt : F2 Tryz.prog zep zhr := zi [.d [(0, 12)] []] Tryz.func232
def zvx (P : Program) (x0 x1 : AV) (σ : LO) (Z : ZT) : Prop :=
 zaz .sl x1 σ fun a s =>
 zbf [x0,(iN 0)] s fun v s b =>
 zaD v fun c v => zaD v fun d v => bP .lss d a s fun e s =>
 zn e (il false 1 1 x1 d s fun f s =>
 zdk [(iN 0),f] s fun g s =>
 zar (.int .u64) g s fun h s =>
 cA P zcE [c,h] s fun i s =>
 bP .add d (iN 1) s fun j s =>
 b [i,j] s) (z1 Z c s)
theorem e_auth_put : F2 Tryz.prog zqk zvx := zi [.l [0, 9] [(6, 1),(10, 9)]] Tryz.func233
end Go.Proofs.YtfgbofkdhfjegaaGreat
