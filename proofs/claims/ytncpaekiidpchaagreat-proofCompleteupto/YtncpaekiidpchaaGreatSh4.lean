/- The conditions of each function, its slots as variables, and that the logic's conditions are these. Printed by program. -/
import Derived.Test.YtncpaekiidpchaaGreatNm
import Derived.KernelRfl
set_option linter.all false
set_option maxRecDepth 100000
namespace Go.Proofs.YtncpaekiidpchaaGreat
open Go.AW
def znT (P : Program) (x0 x1 : AV) (σ : LO) (Z : ZT) : Prop :=
 zbu x1 σ fun a s =>
 zq true 2 a s fun b s =>
 cA P zeQ [b] s fun c s =>
 bP .neq c (iN 0) s fun d s =>
 zp d (z1 Z x0 s) (fl 0 a s fun e s =>
 zag (.int .u64) e s fun f s =>
 zl 1 a s fun g s =>
 zq false 1 g s fun h s =>
 zag (.int .u64) h s fun i s =>
 cA P zaE [x0,f] s fun j t =>
 zQ g s t ∧ (cA P zaE [j,i] t fun l s =>
 z1 Z l s))
theorem znv : F2 Tryz.prog zjo znT := zm [.d [(0, 4),(5, 3),(4, 1),(8, 2)] [(4, [14])]] Tryz.func168 (by decide +kernel) (by kernel_rfl) fun {_ _ _ _ _} => cast (by kernel_rfl)
def zge (P : Program) (x0 x1 : AV) (σ : LO) (Z : ZT) : Prop :=
 zP [iN 0,iN 0] σ fun a s =>
 zD P zeR [x0,x1] s fun b s =>
 bP .geq b (iN 0) s fun c s =>
 zp c (zD P zdj [(iN 5)] s fun d s =>
 zo 2 a d s fun _ s =>
 Z (zB (zak a s true 2) (some [])) s) (nfl 0 x0 s fun f s =>
 zaw .sl f s fun g s =>
 bP .geq g (iN 8) s fun h s =>
 zp h (zD P zdj [(iN 6)] s fun i s =>
 zo 2 a i s fun _ s =>
 Z (zB (zak a s true 2) (some [])) s) (zbe [(iN 0)] s fun v s l =>
 zay v fun m v => nfl 0 x0 s fun n s =>
 zaw .sl n s fun o s =>
 bP .lss m o s fun p s =>
 gTm p x0 s fun q s =>
 gT p (zby q s) s fun r s =>
 gTl p 0 r s fun u s =>
 gTm p m s fun w s =>
 gT p (zH none 4 u w s) s fun y s =>
 gTl p 0 y s fun z s =>
 gTm p x1 s fun A s =>
 gT p (bP .lss z A s) s fun B s =>
 anC p B s fun C s =>
 zp C (bP .add m (iN 1) s fun D s =>
 l [D] s) (nfl 0 x0 s fun E s =>
 zbT (.sl 4) E none (some m) none s fun F s =>
 zdf 4 72 eN F s fun G s =>
 zC (zS [(.d (.str [])),iN 0,eN,eN] [(0, 1,x1)]) s fun H s =>
 zt true 4 1 (zS (rep [(.d (.str [])),iN 0,eN,eN] 1) [(0, 4,H)]) s fun I s =>
 zdf 4 72 G I s fun J s =>
 nfl 0 x0 s fun K s =>
 zbT (.sl 4) K (some m) none none s fun L s =>
 zdf 4 72 J L s fun M s =>
 zby x0 s fun N s =>
 zl 0 N s fun O s =>
 zo 1 O M s fun _ s =>
 zC (zS [iN 0,iN 0] []) s fun R s =>
 zo 2 a R s fun _ s =>
 Z (zB (zak a s true 2) (some [])) s)))
theorem zfV : F2 Tryz.prog zej zge := formM_of [.l [5] [(19, 21)]] Tryz.func169 (by decide +kernel) (by kernel_rfl) fun {_ _ _ _ _} => cast (by kernel_rfl)
def zlb (P : Program) (x0 x1 : AV) (σ : LO) (Z : ZT) : Prop :=
 zbe [(iN 0)] σ fun v s a =>
 zay v fun b v => nfl 0 x0 s fun c s =>
 zaw .sl c s fun d s =>
 bP .lss b d s fun e s =>
 zp e (nfl 0 x0 s fun f s =>
 zH none 4 f b s fun g s =>
 fl 0 g s fun h s =>
 bP .eql h x1 s fun i s =>
 zp i (z1 Z b s) (bP .add b (iN 1) s fun j s =>
 a [j] s)) (z1 Z (iN (-1)) s)
theorem zkK : F2 Tryz.prog zeR zlb := zm [.l [5] [(4, 1),(6, 20)]] Tryz.func170 (by decide +kernel) (by kernel_rfl) fun {_ _ _ _ _} => cast (by kernel_rfl)
def zgg (P : Program) (x0 x1 x2 : AV) (σ : LO) (Z : ZT) : Prop :=
 zbu x2 σ fun a s =>
 zP [iN 0,iN 0] s fun b s =>
 nfl 0 x0 s fun c s =>
 il true 4 4 c x1 s fun d s =>
 cp [(.d (.str [])),iN 0,eN,eN] 4 d s fun e s =>
 fl 4 a s fun f s =>
 zaw .sl f s fun g s =>
 fl 2 e s fun h s =>
 zaw .sl h s fun i s =>
 bP .add i g s fun j s =>
 bP .gtr j (iN 64) s fun l s =>
 gF l (zq true 4 e s) s fun m s =>
 gF l (cA P zbV [m] s) s fun n s =>
 gFm l g s fun o s =>
 gF l (bP .sub (iN 9007199254740992) o s) s fun p s =>
 gF l (bP .gtr n p s) s fun q s =>
 orC l q s fun r s =>
 zp r (cA P zdj [(iN 71)] s fun u s =>
 zo 2 b u s fun _ s =>
 Z (zB (zak b s true 2) (zB (some eN) (some []))) s) (fl 2 e s fun y s =>
 zw 1 24 eN y s fun z s =>
 zbe [eN,z,(iN 0)] s fun v s A =>
 zay v fun B v => zay v fun C v => zay v fun D v => fl 4 a s fun E s =>
 zaw .sl E s fun F s =>
 bP .lss D F s fun G s =>
 zp G (fl 4 a s fun H s =>
 il false 1 1 H D s fun I s =>
 zw 1 1 eN I s fun J s =>
 zl 0 e s fun K s =>
 zq false 1 K s fun L s =>
 zq true 4 e s fun M s =>
 cA P zbV [M] s fun N t =>
 zQ K s t ∧ (bP .add N D t fun O s =>
 zC (zS [(.d (.str [])),iN 0,eN] [(0, 1,L),(1, 1,O),(2, 1,J)]) s fun Q s =>
 m1 3 [(.d (.str [])),iN 0,eN] Q s fun R s =>
 zw 3 48 B R s fun S s =>
 m1 1 [eN] J s fun T s =>
 zw 1 24 C T s fun U s =>
 bP .add D (iN 1) s fun V s =>
 A [S,U,V] s)) (nfl 0 x0 s fun W s =>
 zH none 4 W x1 s fun X s =>
 zl 2 X s fun Y s =>
 zo 1 Y C s fun _ s =>
 zq true 4 e s fun b0 s =>
 cA P zbV [b0] s fun c0 s =>
 zC (zS [iN 0,iN 0] [(1, 1,c0)]) s fun d0 s =>
 zo 2 b d0 s fun _ s =>
 Z (zB (zak b s true 2) (zB (some B) (some []))) s))
theorem zfX : F3 Tryz.prog zdQ zgg := zm [.l [10, 11, 12] [(13, 1),(42, 29)], .d [(0, 4),(5, 1),(7, 1),(4, 1),(6, 1),(8, 4)] [(4, [57])]] Tryz.func171 (by decide +kernel) (by kernel_rfl) fun {_ _ _ _ _ _} => cast (by kernel_rfl)
def zhr (P : Program) (x0 x1 x2 : AV) (σ : LO) (Z : ZT) : Prop :=
 zbu x2 σ fun a s =>
 zP [iN 0,iN 0] s fun b s =>
 nfl 0 x0 s fun c s =>
 il true 4 4 c x1 s fun d s =>
 cp [(.d (.str [])),iN 0,eN,eN] 4 d s fun e s =>
 zbe [(iN 0)] s fun v s f =>
 zay v fun g v => fl 3 e s fun h s =>
 zaw .sl h s fun i s =>
 bP .lss g i s fun j s =>
 gTl j 3 e s fun l s =>
 gTm j g s fun m s =>
 gT j (zH none 2 l m s) s fun n s =>
 gTl j 0 n s fun o s =>
 gTl j 2 a s fun p s =>
 gT j (bP .lss o p s) s fun q s =>
 anC j q s fun r s =>
 zp r (bP .add g (iN 1) s fun u s =>
 f [u] s) (fl 3 e s fun w s =>
 zaw .sl w s fun y s =>
 bP .lss g y s fun z s =>
 gTl z 3 e s fun A s =>
 gTm z g s fun B s =>
 gT z (zH none 2 A B s) s fun C s =>
 gTl z 0 C s fun D s =>
 gTl z 2 a s fun E s =>
 gT z (bP .eql D E s) s fun F s =>
 anC z F s fun G s =>
 (fun (H : AV → LO → Prop) => zp G (fl 3 e s fun H0 s =>
 zH none 2 H0 g s fun I0 s =>
 fl 1 I0 s fun J0 s =>
 H J0 s) (H (iN 0) s))
 (fun I s => fl 3 a s fun J s =>
 bP .lss J I s fun K s =>
 gF K (zl 3 a s) s fun L s =>
 gF K (zq false 1 L s) s fun M s =>
 gF K (zq true 4 e s) s fun N s =>
 gF K (cA P zbV [N] s) s fun O t =>
 zQ L s t ∧ (gF K (bP .gtr M O t) t fun Q s =>
 orC K Q s fun R s =>
 zp R (cA P zdj [(iN 72)] s fun S s =>
 zo 2 b S s fun _ s =>
 Z (zB (zak b s true 2) (some [])) s) (unC .not G s fun U s =>
 gTl U 3 e s fun V s =>
 gT U (zaw .sl V s) s fun W s =>
 gT U (bP .geq W (iN 8) s) s fun X s =>
 anC U X s fun Y s =>
 zp Y (cA P zdj [(iN 6)] s fun a0 s =>
 zo 2 b a0 s fun _ s =>
 Z (zB (zak b s true 2) (some [])) s) (fl 3 e s fun c0 s =>
 zbT (.sl 2) c0 none (some g) none s fun d0 s =>
 zl 2 a s fun e0 s =>
 zq false 1 e0 s fun f0 s =>
 zl 3 a s fun g0 s =>
 zq false 1 g0 s fun h0 s =>
 zC (zS [(.d (.str [])),iN 0] [(0, 1,f0),(1, 1,h0)]) s fun i0 s =>
 m1 2 [(.d (.str [])),iN 0] i0 s fun j0 s =>
 zw 2 24 eN d0 s fun l0 t =>
 zQ e0 s t ∧ (zQ g0 s t ∧ (zw 2 24 l0 j0 t fun m0 s =>
 (fun (o0 : AV → LO → Prop) => zp G (bP .add g (iN 1) s fun G0 s =>
 o0 G0 s) (o0 g s))
 (fun p0 s => zby x0 s fun q0 s =>
 zl 0 q0 s fun r0 s =>
 zq false 1 r0 s fun u0 s =>
 fl 3 e s fun w0 s =>
 zbT (.sl 2) w0 (some p0) none none s fun y0 s =>
 zw 2 24 m0 y0 s fun z0 t =>
 zQ r0 s t ∧ (zH none 4 u0 x1 t fun A0 s =>
 zl 3 A0 s fun B0 s =>
 zo 1 B0 z0 s fun _ s =>
 fl 3 a s fun D0 s =>
 zC (zS [iN 0,iN 0] [(1, 1,D0)]) s fun E0 s =>
 zo 2 b E0 s fun _ s =>
 Z (zB (zak b s true 2) (some [])) s)))))))))
theorem zhe : F3 Tryz.prog zek zhr := zm [.l [8] [(19, 18)], .d [(0, 16)] [], .d [(0, 17)] [], .d [(0, 11)] [(8, [65])], .d [(0, 5),(6, 6),(5, 1),(12, 2)] [(5, [87, 89])], .d [(0, 14)] [(10, [99])]] Tryz.func172 (by decide +kernel) (by kernel_rfl) fun {_ _ _ _ _ _} => cast (by kernel_rfl)
def zjW (P : Program) (x0 : AV) (σ : LO) (Z : ZT) : Prop :=
 zbu x0 σ fun a s =>
 fl 1 a s fun b s =>
 fl 2 a s fun c s =>
 zaw .sl c s fun d s =>
 bP .add b d s fun e s =>
 z1 Z e s
theorem zjM : F1 Tryz.prog zbV zjW := zm [] Tryz.func173 (by decide +kernel) (by kernel_rfl) fun {_ _ _ _} => cast (by kernel_rfl)
def S_op_Name (P : Program) (x0 : AV) (σ : LO) (Z : ZT) : Prop :=
 cA P zoF [x0] σ fun a s =>
 bP .gtr a (iN 0) s fun b s =>
 z1 Z b s
theorem e_op_Name : F1 Tryz.prog zqF S_op_Name := zm [] Tryz.func174 (by decide +kernel) (by kernel_rfl) fun {_ _ _ _} => cast (by kernel_rfl)
def zgh (P : Program) (x0 x1 : AV) (σ : LO) (Z : ZT) : Prop :=
 nfl 0 x0 σ fun a s =>
 bP .eql a (iN 0) s fun b s =>
 zp b (zby x0 s fun c s =>
 zl 0 c s fun d s =>
 zo 1 d x1 s fun _ s =>
 Z (some []) s) (Z (some []) s)
theorem zfY : F2 Tryz.prog zaK zgh := zm [] Tryz.func175 (by decide +kernel) (by kernel_rfl) fun {_ _ _ _ _} => cast (by kernel_rfl)
def zfI (P : Program) (x0 x1 : AV) (σ : LO) (Z : ZT) : Prop :=
 zaw .sl x1 σ fun a s =>
 cA P zaX [x0,a,(iN 13)] s fun _ s =>
 zaw .sl x1 s fun c s =>
 zbe [(iN 0)] s fun v s d =>
 zay v fun e v => bP .lss e c s fun f s =>
 zp f (il true 2 2 x1 e s fun g s =>
 cp [iN 0,iN 0] 2 g s fun h s =>
 zq true 2 h s fun i s =>
 cA P zei [i] s fun j s =>
 cA P zaK [x0,j] s fun _ s =>
 bP .add e (iN 1) s fun m s =>
 d [m] s) (Z (some []) s)
theorem zfD : F2 Tryz.prog zbt zfI := zm [.l [12] [(5, 1),(13, 8)]] Tryz.func176 (by decide +kernel) (by kernel_rfl) fun {_ _ _ _ _} => cast (by kernel_rfl)
def zjY (P : Program) (x0 : AV) (σ : LO) (Z : ZT) : Prop :=
 cA P zfu [(iN 3),x0] σ fun a s =>
 z1 Z a s
theorem zjO : F1 Tryz.prog zfN zjY := zm [] Tryz.func177 (by decide +kernel) (by kernel_rfl) fun {_ _ _ _} => cast (by kernel_rfl)
def zmf (P : Program) (x0 x1 : AV) (σ : LO) (Z : ZT) : Prop :=
 cA P zdW [x1] σ fun a s =>
 bP .neq a (iN 0) s fun b s =>
 zp b (z1 Z (iN 0) s) (bP .mul x0 x1 s fun c s =>
 bP .add c (iN 1) s fun d s =>
 z1 Z d s)
theorem zlR : F2 Tryz.prog zfu zmf := zm [] Tryz.func178 (by decide +kernel) (by kernel_rfl) fun {_ _ _ _ _} => cast (by kernel_rfl)
def zfK (P : Program) (x0 x1 : AV) (σ : LO) (Z : ZT) : Prop :=
 zbu x1 σ fun a s =>
 cA P zbF [x0] s fun b s =>
 unC .not b s fun c s =>
 gTm c x0 s fun d s =>
 gT c (zby d s) s fun e s =>
 gTl c 1 e s fun f s =>
 gT c (zq true 2 a s) s fun g s =>
 gT c (zaF (.ints 2) false bF f g s) s fun h s =>
 anC c h s fun i s =>
 z1 Z i s
theorem zfF : F2 Tryz.prog zdD zfK := zm [.d [(0, 12)] []] Tryz.func179 (by decide +kernel) (by kernel_rfl) fun {_ _ _ _ _} => cast (by kernel_rfl)
def ztH (P : Program) (x0 x1 : AV) (σ : LO) (Z : ZT) : Prop :=
 zaw .sl x1 σ fun a s =>
 zbe [x0,(iN 0)] s fun v s b =>
 zay v fun c v => zay v fun d v => bP .lss d a s fun e s =>
 zp e (il false 1 1 x1 d s fun f s =>
 zcC [(iN 0),f] s fun g s =>
 zag (.int .u64) g s fun h s =>
 cA P zcb [c,h] s fun i s =>
 bP .add d (iN 1) s fun j s =>
 b [i,j] s) (z1 Z c s)
theorem ztd : F2 Tryz.prog zoH ztH := zm [.l [0, 9] [(6, 1),(10, 9)]] Tryz.func180 (by decide +kernel) (by kernel_rfl) fun {_ _ _ _ _} => cast (by kernel_rfl)
def zrJ (P : Program) (x0 : AV) (σ : LO) (Z : ZT) : Prop :=
 zbe [x0,(iN 0)] σ fun v s a =>
 zay v fun b v => zay v fun c v => zaw .str b s fun d s =>
 bP .gtr d (iN 0) s fun e s =>
 zp e (cA P zmv [b] s fun f s =>
 ze f 0 s fun g s =>
 ze f 1 s fun h s =>
 bP .eql h (iN 0) s fun i s =>
 gFm i g s fun j s =>
 gF i (bP .lss j (iN 33) s) s fun l s =>
 orC i l s fun m s =>
 gFm m g s fun n s =>
 gF m (bP .geq n (iN 127) s) s fun o s =>
 gFm m o s fun p s =>
 gTm p g s fun q s =>
 gT p (bP .lss q (iN 160) s) s fun r s =>
 gF m (anC p r s) s fun u s =>
 orC m u s fun w s =>
 gFm w g s fun y s =>
 gF w (bP .eql y (iN 47) s) s fun z s =>
 orC w z s fun A s =>
 gFm A g s fun B s =>
 gF A (bP .eql B (iN 65533) s) s fun C s =>
 orC A C s fun D s =>
 gFm D c s fun E s =>
 gF D (bP .geq E (iN 16) s) s fun F s =>
 orC D F s fun G s =>
 zp G (z1 Z (iN 0) s) (bP .add c (iN 1) s fun H s =>
 zbT .str b (some h) none none s fun I s =>
 a [I,H] s)) (z1 Z c s)
theorem zre : F1 Tryz.prog zmw zrJ := zm [.l [0, 3] [(2, 1),(4, 41)]] Tryz.func181 (by decide +kernel) (by kernel_rfl) fun {_ _ _ _} => cast (by kernel_rfl)
def ztF (P : Program) (x0 : AV) (σ : LO) (Z : ZT) : Prop :=
 zai x0 σ fun a s =>
 zbe [(iN 0)] s fun v s b =>
 zay v fun c v => znd a s fun d s =>
 ze d 0 s fun e s =>
 zp e (ze d 2 s fun f s =>
 bP .lss f (.d (.int .i32 33)) s fun g s =>
 gFm g f s fun h s =>
 gF g (bP .geq h (.d (.int .i32 127)) s) s fun i s =>
 gFm g i s fun j s =>
 gTm j f s fun l s =>
 gT j (bP .leq l (.d (.int .i32 159)) s) s fun m s =>
 gF g (anC j m s) s fun n s =>
 orC g n s fun o s =>
 gFm o f s fun p s =>
 gF o (bP .eql p (.d (.int .i32 47)) s) s fun q s =>
 orC o q s fun r s =>
 gFm r f s fun u s =>
 gF r (bP .eql u (.d (.int .i32 65533)) s) s fun w s =>
 orC r w s fun y s =>
 zp y (z1 Z (iN 0) s) (bP .add c (iN 1) s fun z s =>
 b [z] s)) (bP .gtr c (iN 16) s fun A s =>
 zp A (z1 Z (iN 0) s) (z1 Z c s))
theorem ztb : F1 Tryz.prog zoF ztF := zm [.l [3] [(2, 1),(5, 1),(8, 23)]] Tryz.func183 (by decide +kernel) (by kernel_rfl) fun {_ _ _ _} => cast (by kernel_rfl)
def zhq (P : Program) (x0 : AV) (σ : LO) (Z : ZT) : Prop :=
 zbu x0 σ fun a s =>
 fl 0 a s fun b s =>
 bP .lss b (iN 0) s fun c s =>
 gFl c 0 a s fun d s =>
 gF c (bP .geq d (iN 21) s) s fun e s =>
 orC c e s fun f s =>
 gFl f 1 a s fun g s =>
 gF f (bP .lss g (iN 1) s) s fun h s =>
 orC f h s fun i s =>
 gFl i 1 a s fun j s =>
 gF i (bP .gtr j (iN 9007199254740992) s) s fun l s =>
 orC i l s fun m s =>
 zp m (z1 Z (iN 81) s) (z1 Z (iN 0) s)
theorem zhd : F1 Tryz.prog zei zhq := zm [] Tryz.func184 (by decide +kernel) (by kernel_rfl) fun {_ _ _ _} => cast (by kernel_rfl)
def zrI (P : Program) (x0 : AV) (σ : LO) (Z : ZT) : Prop :=
 zaC x0 (iN 0) σ fun a s =>
 cA P zoz [a] s fun b s =>
 bP .eql b (iN 0) s fun c s =>
 gFm c b s fun d s =>
 gFm c x0 s fun e s =>
 gF c (zaw .str e s) s fun f s =>
 gF c (bP .gtr d f s) s fun g s =>
 orC c g s fun h s =>
 zp h (z2 Z (iN 0) (iN 0) s) (bP .eql b (iN 1) s fun i s =>
 zp i (zaC x0 (iN 0) s fun j s =>
 zag (.int .i64) j s fun l s =>
 z2 Z l (iN 1) s) (zaC x0 (iN 0) s fun m s =>
 zag (.int .i64) m s fun n s =>
 bP .sub (iN 7) b s fun o s =>
 bP .shl (iN 1) o s fun p s =>
 bP .sub p (iN 1) s fun q s =>
 bP .and n q s fun r s =>
 zbe [r,(iN 1)] s fun v s u =>
 zay v fun w v => zay v fun y v => bP .lss y b s fun z s =>
 zp z (zaC x0 y s fun A s =>
 bP .lss A (.d (.int .u8 128)) s fun B s =>
 gFm B x0 s fun C s =>
 gFm B y s fun D s =>
 gF B (zaC C D s) s fun E s =>
 gF B (bP .geq E (.d (.int .u8 192)) s) s fun F s =>
 orC B F s fun G s =>
 zp G (z2 Z (iN 0) (iN 0) s) (bP .mul w (iN 64) s fun H s =>
 zaC x0 y s fun I s =>
 zag (.int .i64) I s fun J s =>
 bP .rem J (iN 64) s fun K s =>
 bP .add H K s fun L s =>
 bP .add y (iN 1) s fun M s =>
 u [L,M] s)) (zt false 1 5 (zS (rep [iN 0] 5) [(0, 1,(iN 0)),(1, 1,(iN 0)),(2, 1,(iN 128)),(3, 1,(iN 2048)),(4, 1,(iN 65536))]) s fun N s =>
 il false 1 1 N b s fun O s =>
 bP .lss w O s fun Q s =>
 gFm Q w s fun R s =>
 gF Q (bP .gtr R (iN 1114111) s) s fun S s =>
 orC Q S s fun T s =>
 gFm T w s fun U s =>
 gF T (bP .geq U (iN 55296) s) s fun V s =>
 gFm T V s fun W s =>
 gTm W w s fun X s =>
 gT W (bP .lss X (iN 57344) s) s fun Y s =>
 gF T (anC W Y s) s fun a0 s =>
 orC T a0 s fun b0 s =>
 zp b0 (z2 Z (iN 0) (iN 0) s) (z2 Z w b s))))
theorem zrd : F1 Tryz.prog zmv zrI := zm [.d [(0, 9)] [], .l [5, 6] [(2, 2),(32, 23)]] Tryz.func185 (by decide +kernel) (by kernel_rfl) fun {_ _ _ _} => cast (by kernel_rfl)
def zty (P : Program) (x0 : AV) (σ : LO) (Z : ZT) : Prop :=
 bP .lss x0 (.d (.int .u8 128)) σ fun a s =>
 zp a (z1 Z (iN 1) s) (bP .geq x0 (.d (.int .u8 194)) s fun b s =>
 gTm b x0 s fun c s =>
 gT b (bP .lss c (.d (.int .u8 224)) s) s fun d s =>
 anC b d s fun e s =>
 zp e (z1 Z (iN 2) s) (bP .geq x0 (.d (.int .u8 224)) s fun f s =>
 gTm f x0 s fun g s =>
 gT f (bP .lss g (.d (.int .u8 240)) s) s fun h s =>
 anC f h s fun i s =>
 zp i (z1 Z (iN 3) s) (bP .geq x0 (.d (.int .u8 240)) s fun j s =>
 gTm j x0 s fun l s =>
 gT j (bP .lss l (.d (.int .u8 245)) s) s fun m s =>
 anC j m s fun n s =>
 zp n (z1 Z (iN 4) s) (z1 Z (iN 0) s))))
theorem zsU : F1 Tryz.prog zoz zty := zm [] Tryz.func186 (by decide +kernel) (by kernel_rfl) fun {_ _ _ _} => cast (by kernel_rfl)
end Go.Proofs.YtncpaekiidpchaaGreat
