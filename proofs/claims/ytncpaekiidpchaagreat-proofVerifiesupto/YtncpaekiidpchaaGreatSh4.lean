/- The conditions of each function, its slots as variables, and that the logic's conditions are these. Printed by program. -/
import Derived.Test.YtncpaekiidpchaaGreatNm
import Derived.KernelRfl
set_option linter.all false
set_option maxRecDepth 100000
namespace Go.Proofs.YtncpaekiidpchaaGreat
open Go.AW
def zoE (P : Program) (x0 x1 : AV) (σ : LO) (Z : ZT) : Prop :=
 zaV x1 σ fun a s =>
 zp true 2 a s fun b s =>
 cA P zdN [b] s fun c s =>
 bP .neq c (iN 0) s fun d s =>
 zn d (z1 Z x0 s) (fl 0 a s fun e s =>
 zah (.int .u64) e s fun f s =>
 zk 1 a s fun g s =>
 zp false 1 g s fun h s =>
 zah (.int .u64) h s fun i s =>
 cA P zaH [x0,f] s fun j t =>
 zM g s t ∧ (cA P zaH [j,i] t fun l s =>
 z1 Z l s))
theorem zob : F2 Tryz.prog zjU zoE := zl [.d [(0, 4),(5, 3),(4, 1),(8, 2)] [(4, [14])]] Tryz.func168 (by decide +kernel) (by kernel_rfl) fun {_ _ _ _ _} => cast (by kernel_rfl)
def zgI (P : Program) (x0 x1 : AV) (σ : LO) (Z : ZT) : Prop :=
 zQ [iN 0,iN 0] σ fun a s =>
 zy P zfa [x0,x1] s fun b s =>
 bP .geq b (iN 0) s fun c s =>
 zn c (zy P zdr [(iN 5)] s fun d s =>
 zo 2 a d s fun _ s =>
 Z (zC (zaj a s true 2) (some [])) s) (nfl 0 x0 s fun f s =>
 zas .sl f s fun g s =>
 bP .geq g (iN 8) s fun h s =>
 zn h (zy P zdr [(iN 6)] s fun i s =>
 zo 2 a i s fun _ s =>
 Z (zC (zaj a s true 2) (some [])) s) (zaM [(iN 0)] s fun v s l =>
 zau v fun m v => nfl 0 x0 s fun n s =>
 zas .sl n s fun o s =>
 bP .lss m o s fun p s =>
 gTm p x0 s fun q s =>
 gT p (zbr q s) s fun r s =>
 gTl p 0 r s fun u s =>
 gTm p m s fun w s =>
 gT p (zG none 4 u w s) s fun y s =>
 gTl p 0 y s fun z s =>
 gTm p x1 s fun A s =>
 gT p (bP .lss z A s) s fun B s =>
 anC p B s fun C s =>
 zn C (bP .add m (iN 1) s fun D s =>
 l [D] s) (nfl 0 x0 s fun E s =>
 zbH (.sl 4) E none (some m) none s fun F s =>
 zdn 4 72 eN F s fun G s =>
 zE (zR [(.d (.str [])),iN 0,eN,eN] [(0, 1,x1)]) s fun H s =>
 zr true 4 1 (zR (rep [(.d (.str [])),iN 0,eN,eN] 1) [(0, 4,H)]) s fun I s =>
 zdn 4 72 G I s fun J s =>
 nfl 0 x0 s fun K s =>
 zbH (.sl 4) K (some m) none none s fun L s =>
 zdn 4 72 J L s fun M s =>
 zbr x0 s fun N s =>
 zk 0 N s fun O s =>
 zo 1 O M s fun _ s =>
 zE (zR [iN 0,iN 0] []) s fun R s =>
 zo 2 a R s fun _ s =>
 Z (zC (zaj a s true 2) (some [])) s)))
theorem zgy : F2 Tryz.prog zeI zgI := formM_of [.l [5] [(19, 21)]] Tryz.func169 (by decide +kernel) (by kernel_rfl) fun {_ _ _ _ _} => cast (by kernel_rfl)
def zlR (P : Program) (x0 x1 : AV) (σ : LO) (Z : ZT) : Prop :=
 zaM [(iN 0)] σ fun v s a =>
 zau v fun b v => nfl 0 x0 s fun c s =>
 zas .sl c s fun d s =>
 bP .lss b d s fun e s =>
 zn e (nfl 0 x0 s fun f s =>
 zG none 4 f b s fun g s =>
 fl 0 g s fun h s =>
 bP .eql h x1 s fun i s =>
 zn i (z1 Z b s) (bP .add b (iN 1) s fun j s =>
 a [j] s)) (z1 Z (iN (-1)) s)
theorem zlx : F2 Tryz.prog zfa zlR := zl [.l [5] [(4, 1),(6, 20)]] Tryz.func170 (by decide +kernel) (by kernel_rfl) fun {_ _ _ _ _} => cast (by kernel_rfl)
def zgL (P : Program) (x0 x1 x2 : AV) (σ : LO) (Z : ZT) : Prop :=
 zaV x2 σ fun a s =>
 zQ [iN 0,iN 0] s fun b s =>
 nfl 0 x0 s fun c s =>
 il true 4 4 c x1 s fun d s =>
 cp [(.d (.str [])),iN 0,eN,eN] 4 d s fun e s =>
 fl 4 a s fun f s =>
 zas .sl f s fun g s =>
 fl 2 e s fun h s =>
 zas .sl h s fun i s =>
 bP .add i g s fun j s =>
 bP .gtr j (iN 64) s fun l s =>
 gF l (zp true 4 e s) s fun m s =>
 gF l (cA P zca [m] s) s fun n s =>
 gFm l g s fun o s =>
 gF l (bP .sub (iN 9007199254740992) o s) s fun p s =>
 gF l (bP .gtr n p s) s fun q s =>
 orC l q s fun r s =>
 zn r (cA P zdr [(iN 71)] s fun u s =>
 zo 2 b u s fun _ s =>
 Z (zC (zaj b s true 2) (zC (some eN) (some []))) s) (fl 2 e s fun y s =>
 zw 1 24 eN y s fun z s =>
 zaM [eN,z,(iN 0)] s fun v s A =>
 zau v fun B v => zau v fun C v => zau v fun D v => fl 4 a s fun E s =>
 zas .sl E s fun F s =>
 bP .lss D F s fun G s =>
 zn G (fl 4 a s fun H s =>
 il false 1 1 H D s fun I s =>
 zw 1 1 eN I s fun J s =>
 zk 0 e s fun K s =>
 zp false 1 K s fun L s =>
 zp true 4 e s fun M s =>
 cA P zca [M] s fun N t =>
 zM K s t ∧ (bP .add N D t fun O s =>
 zE (zR [(.d (.str [])),iN 0,eN] [(0, 1,L),(1, 1,O),(2, 1,J)]) s fun Q s =>
 m1 3 [(.d (.str [])),iN 0,eN] Q s fun R s =>
 zw 3 48 B R s fun S s =>
 m1 1 [eN] J s fun T s =>
 zw 1 24 C T s fun U s =>
 bP .add D (iN 1) s fun V s =>
 A [S,U,V] s)) (nfl 0 x0 s fun W s =>
 zG none 4 W x1 s fun X s =>
 zk 2 X s fun Y s =>
 zo 1 Y C s fun _ s =>
 zp true 4 e s fun b0 s =>
 cA P zca [b0] s fun c0 s =>
 zE (zR [iN 0,iN 0] [(1, 1,c0)]) s fun d0 s =>
 zo 2 b d0 s fun _ s =>
 Z (zC (zaj b s true 2) (zC (some B) (some []))) s))
theorem zgB : F3 Tryz.prog zeq zgL := zl [.l [10, 11, 12] [(13, 1),(42, 29)], .d [(0, 4),(5, 1),(7, 1),(4, 1),(6, 1),(8, 4)] [(4, [57])]] Tryz.func171 (by decide +kernel) (by kernel_rfl) fun {_ _ _ _ _ _} => cast (by kernel_rfl)
def zhQ (P : Program) (x0 x1 x2 : AV) (σ : LO) (Z : ZT) : Prop :=
 zaV x2 σ fun a s =>
 zQ [iN 0,iN 0] s fun b s =>
 nfl 0 x0 s fun c s =>
 il true 4 4 c x1 s fun d s =>
 cp [(.d (.str [])),iN 0,eN,eN] 4 d s fun e s =>
 zaM [(iN 0)] s fun v s f =>
 zau v fun g v => fl 3 e s fun h s =>
 zas .sl h s fun i s =>
 bP .lss g i s fun j s =>
 gTl j 3 e s fun l s =>
 gTm j g s fun m s =>
 gT j (zG none 2 l m s) s fun n s =>
 gTl j 0 n s fun o s =>
 gTl j 2 a s fun p s =>
 gT j (bP .lss o p s) s fun q s =>
 anC j q s fun r s =>
 zn r (bP .add g (iN 1) s fun u s =>
 f [u] s) (fl 3 e s fun w s =>
 zas .sl w s fun y s =>
 bP .lss g y s fun z s =>
 gTl z 3 e s fun A s =>
 gTm z g s fun B s =>
 gT z (zG none 2 A B s) s fun C s =>
 gTl z 0 C s fun D s =>
 gTl z 2 a s fun E s =>
 gT z (bP .eql D E s) s fun F s =>
 anC z F s fun G s =>
 (fun (H : AV → LO → Prop) => zn G (fl 3 e s fun H0 s =>
 zG none 2 H0 g s fun I0 s =>
 fl 1 I0 s fun J0 s =>
 H J0 s) (H (iN 0) s))
 (fun I s => fl 3 a s fun J s =>
 bP .lss J I s fun K s =>
 gF K (zk 3 a s) s fun L s =>
 gF K (zp false 1 L s) s fun M s =>
 gF K (zp true 4 e s) s fun N s =>
 gF K (cA P zca [N] s) s fun O t =>
 zM L s t ∧ (gF K (bP .gtr M O t) t fun Q s =>
 orC K Q s fun R s =>
 zn R (cA P zdr [(iN 72)] s fun S s =>
 zo 2 b S s fun _ s =>
 Z (zC (zaj b s true 2) (some [])) s) (unC .not G s fun U s =>
 gTl U 3 e s fun V s =>
 gT U (zas .sl V s) s fun W s =>
 gT U (bP .geq W (iN 8) s) s fun X s =>
 anC U X s fun Y s =>
 zn Y (cA P zdr [(iN 6)] s fun a0 s =>
 zo 2 b a0 s fun _ s =>
 Z (zC (zaj b s true 2) (some [])) s) (fl 3 e s fun c0 s =>
 zbH (.sl 2) c0 none (some g) none s fun d0 s =>
 zk 2 a s fun e0 s =>
 zp false 1 e0 s fun f0 s =>
 zk 3 a s fun g0 s =>
 zp false 1 g0 s fun h0 s =>
 zE (zR [(.d (.str [])),iN 0] [(0, 1,f0),(1, 1,h0)]) s fun i0 s =>
 m1 2 [(.d (.str [])),iN 0] i0 s fun j0 s =>
 zw 2 24 eN d0 s fun l0 t =>
 zM e0 s t ∧ (zM g0 s t ∧ (zw 2 24 l0 j0 t fun m0 s =>
 (fun (o0 : AV → LO → Prop) => zn G (bP .add g (iN 1) s fun G0 s =>
 o0 G0 s) (o0 g s))
 (fun p0 s => zbr x0 s fun q0 s =>
 zk 0 q0 s fun r0 s =>
 zp false 1 r0 s fun u0 s =>
 fl 3 e s fun w0 s =>
 zbH (.sl 2) w0 (some p0) none none s fun y0 s =>
 zw 2 24 m0 y0 s fun z0 t =>
 zM r0 s t ∧ (zG none 4 u0 x1 t fun A0 s =>
 zk 3 A0 s fun B0 s =>
 zo 1 B0 z0 s fun _ s =>
 fl 3 a s fun D0 s =>
 zE (zR [iN 0,iN 0] [(1, 1,D0)]) s fun E0 s =>
 zo 2 b E0 s fun _ s =>
 Z (zC (zaj b s true 2) (some [])) s)))))))))
theorem zhC : F3 Tryz.prog zeJ zhQ := zl [.l [8] [(19, 18)], .d [(0, 16)] [], .d [(0, 17)] [], .d [(0, 11)] [(8, [65])], .d [(0, 5),(6, 6),(5, 1),(12, 2)] [(5, [87, 89])], .d [(0, 14)] [(10, [99])]] Tryz.func172 (by decide +kernel) (by kernel_rfl) fun {_ _ _ _ _ _} => cast (by kernel_rfl)
def zkF (P : Program) (x0 : AV) (σ : LO) (Z : ZT) : Prop :=
 zaV x0 σ fun a s =>
 fl 1 a s fun b s =>
 fl 2 a s fun c s =>
 zas .sl c s fun d s =>
 bP .add b d s fun e s =>
 z1 Z e s
theorem zkr : F1 Tryz.prog zca zkF := zl [] Tryz.func173 (by decide +kernel) (by kernel_rfl) fun {_ _ _ _} => cast (by kernel_rfl)
def S_op_Name (P : Program) (x0 : AV) (σ : LO) (Z : ZT) : Prop :=
 cA P zpm [x0] σ fun a s =>
 bP .gtr a (iN 0) s fun b s =>
 z1 Z b s
theorem e_op_Name : F1 Tryz.prog zrz S_op_Name := zl [] Tryz.func174 (by decide +kernel) (by kernel_rfl) fun {_ _ _ _} => cast (by kernel_rfl)
def zgM (P : Program) (x0 x1 : AV) (σ : LO) (Z : ZT) : Prop :=
 nfl 0 x0 σ fun a s =>
 bP .eql a (iN 0) s fun b s =>
 zn b (zbr x0 s fun c s =>
 zk 0 c s fun d s =>
 zo 1 d x1 s fun _ s =>
 Z (some []) s) (Z (some []) s)
theorem zgC : F2 Tryz.prog zaL zgM := zl [] Tryz.func175 (by decide +kernel) (by kernel_rfl) fun {_ _ _ _ _} => cast (by kernel_rfl)
def zgj (P : Program) (x0 x1 : AV) (σ : LO) (Z : ZT) : Prop :=
 zas .sl x1 σ fun a s =>
 cA P zbk [x0,a,(iN 13)] s fun _ s =>
 zas .sl x1 s fun c s =>
 zaM [(iN 0)] s fun v s d =>
 zau v fun e v => bP .lss e c s fun f s =>
 zn f (il true 2 2 x1 e s fun g s =>
 cp [iN 0,iN 0] 2 g s fun h s =>
 zp true 2 h s fun i s =>
 cA P zeH [i] s fun j s =>
 cA P zaL [x0,j] s fun _ s =>
 bP .add e (iN 1) s fun m s =>
 d [m] s) (Z (some []) s)
theorem zge : F2 Tryz.prog zbw zgj := zl [.l [12] [(5, 1),(13, 8)]] Tryz.func176 (by decide +kernel) (by kernel_rfl) fun {_ _ _ _ _} => cast (by kernel_rfl)
def zkH (P : Program) (x0 : AV) (σ : LO) (Z : ZT) : Prop :=
 cA P zfN [(iN 3),x0] σ fun a s =>
 z1 Z a s
theorem zkt : F1 Tryz.prog zgr zkH := zl [] Tryz.func177 (by decide +kernel) (by kernel_rfl) fun {_ _ _ _} => cast (by kernel_rfl)
def zmV (P : Program) (x0 x1 : AV) (σ : LO) (Z : ZT) : Prop :=
 cA P zey [x1] σ fun a s =>
 bP .neq a (iN 0) s fun b s =>
 zn b (z1 Z (iN 0) s) (bP .mul x0 x1 s fun c s =>
 bP .add c (iN 1) s fun d s =>
 z1 Z d s)
theorem zmI : F2 Tryz.prog zfN zmV := zl [] Tryz.func178 (by decide +kernel) (by kernel_rfl) fun {_ _ _ _ _} => cast (by kernel_rfl)
def zgl (P : Program) (x0 x1 : AV) (σ : LO) (Z : ZT) : Prop :=
 zaV x1 σ fun a s =>
 cA P zbJ [x0] s fun b s =>
 unC .not b s fun c s =>
 gTm c x0 s fun d s =>
 gT c (zbr d s) s fun e s =>
 gTl c 1 e s fun f s =>
 gT c (zp true 2 a s) s fun g s =>
 gT c (zaE (.ints 2) false bF f g s) s fun h s =>
 anC c h s fun i s =>
 z1 Z i s
theorem zgg : F2 Tryz.prog zdQ zgl := zl [.d [(0, 12)] []] Tryz.func179 (by decide +kernel) (by kernel_rfl) fun {_ _ _ _ _} => cast (by kernel_rfl)
def zuZ (P : Program) (x0 x1 : AV) (σ : LO) (Z : ZT) : Prop :=
 zas .sl x1 σ fun a s =>
 zaM [x0,(iN 0)] s fun v s b =>
 zau v fun c v => zau v fun d v => bP .lss d a s fun e s =>
 zn e (il false 1 1 x1 d s fun f s =>
 zcs [(iN 0),f] s fun g s =>
 zah (.int .u64) g s fun h s =>
 cA P zcj [c,h] s fun i s =>
 bP .add d (iN 1) s fun j s =>
 b [i,j] s) (z1 Z c s)
theorem zum : F2 Tryz.prog zpo zuZ := zl [.l [0, 9] [(6, 1),(10, 9)]] Tryz.func180 (by decide +kernel) (by kernel_rfl) fun {_ _ _ _ _} => cast (by kernel_rfl)
def zsM (P : Program) (x0 : AV) (σ : LO) (Z : ZT) : Prop :=
 zaM [x0,(iN 0)] σ fun v s a =>
 zau v fun b v => zau v fun c v => zas .str b s fun d s =>
 bP .gtr d (iN 0) s fun e s =>
 zn e (cA P zni [b] s fun f s =>
 ze f 0 s fun g s =>
 ze f 1 s fun h s =>
 bP .eql h (iN 0) s fun i s =>
 gFm i g s fun j s =>
 gF i (bP .lss j (iN 33) s) s fun l s =>
 orC i l s fun m s =>
 gFm m g s fun n s =>
 gF m (bP .geq n (iN 127) s) s fun o s =>
 gFm m o s fun p s =>
 gTm p g s fun q s =>
 gT p (bP .lss q (iN 160) s) s fun r s =>
 gF m (anC p r s) s fun u s =>
 orC m u s fun w s =>
 gFm w g s fun y s =>
 gF w (bP .eql y (iN 47) s) s fun z s =>
 orC w z s fun A s =>
 gFm A g s fun B s =>
 gF A (bP .eql B (iN 65533) s) s fun C s =>
 orC A C s fun D s =>
 gFm D c s fun E s =>
 gF D (bP .geq E (iN 16) s) s fun F s =>
 orC D F s fun G s =>
 zn G (z1 Z (iN 0) s) (bP .add c (iN 1) s fun H s =>
 zbH .str b (some h) none none s fun I s =>
 a [I,H] s)) (z1 Z c s)
theorem zsb : F1 Tryz.prog znj zsM := zl [.l [0, 3] [(2, 1),(4, 41)]] Tryz.func181 (by decide +kernel) (by kernel_rfl) fun {_ _ _ _} => cast (by kernel_rfl)
def zuX (P : Program) (x0 : AV) (σ : LO) (Z : ZT) : Prop :=
 zai x0 σ fun a s =>
 zaM [(iN 0)] s fun v s b =>
 zau v fun c v => znM a s fun d s =>
 ze d 0 s fun e s =>
 zn e (ze d 2 s fun f s =>
 bP .lss f (.d (.int .i32 33)) s fun g s =>
 gFm g f s fun h s =>
 gF g (bP .geq h (.d (.int .i32 127)) s) s fun i s =>
 gFm g i s fun j s =>
 gTm j f s fun l s =>
 gT j (bP .leq l (.d (.int .i32 159)) s) s fun m s =>
 gF g (anC j m s) s fun n s =>
 orC g n s fun o s =>
 gFm o f s fun p s =>
 gF o (bP .eql p (.d (.int .i32 47)) s) s fun q s =>
 orC o q s fun r s =>
 gFm r f s fun u s =>
 gF r (bP .eql u (.d (.int .i32 65533)) s) s fun w s =>
 orC r w s fun y s =>
 zn y (z1 Z (iN 0) s) (bP .add c (iN 1) s fun z s =>
 b [z] s)) (bP .gtr c (iN 16) s fun A s =>
 zn A (z1 Z (iN 0) s) (z1 Z c s))
theorem zuk : F1 Tryz.prog zpm zuX := zl [.l [3] [(2, 1),(5, 1),(8, 23)]] Tryz.func183 (by decide +kernel) (by kernel_rfl) fun {_ _ _ _} => cast (by kernel_rfl)
def zhP (P : Program) (x0 : AV) (σ : LO) (Z : ZT) : Prop :=
 zaV x0 σ fun a s =>
 fl 0 a s fun b s =>
 bP .lss b (iN 0) s fun c s =>
 gFl c 0 a s fun d s =>
 gF c (bP .geq d (iN 21) s) s fun e s =>
 orC c e s fun f s =>
 gFl f 1 a s fun g s =>
 gF f (bP .lss g (iN 1) s) s fun h s =>
 orC f h s fun i s =>
 gFl i 1 a s fun j s =>
 gF i (bP .gtr j (iN 9007199254740992) s) s fun l s =>
 orC i l s fun m s =>
 zn m (z1 Z (iN 81) s) (z1 Z (iN 0) s)
theorem zhB : F1 Tryz.prog zeH zhP := zl [] Tryz.func184 (by decide +kernel) (by kernel_rfl) fun {_ _ _ _} => cast (by kernel_rfl)
def zsL (P : Program) (x0 : AV) (σ : LO) (Z : ZT) : Prop :=
 zaB x0 (iN 0) σ fun a s =>
 cA P zpi [a] s fun b s =>
 bP .eql b (iN 0) s fun c s =>
 gFm c b s fun d s =>
 gFm c x0 s fun e s =>
 gF c (zas .str e s) s fun f s =>
 gF c (bP .gtr d f s) s fun g s =>
 orC c g s fun h s =>
 zn h (z2 Z (iN 0) (iN 0) s) (bP .eql b (iN 1) s fun i s =>
 zn i (zaB x0 (iN 0) s fun j s =>
 zah (.int .i64) j s fun l s =>
 z2 Z l (iN 1) s) (zaB x0 (iN 0) s fun m s =>
 zah (.int .i64) m s fun n s =>
 bP .sub (iN 7) b s fun o s =>
 bP .shl (iN 1) o s fun p s =>
 bP .sub p (iN 1) s fun q s =>
 bP .and n q s fun r s =>
 zaM [r,(iN 1)] s fun v s u =>
 zau v fun w v => zau v fun y v => bP .lss y b s fun z s =>
 zn z (zaB x0 y s fun A s =>
 bP .lss A (.d (.int .u8 128)) s fun B s =>
 gFm B x0 s fun C s =>
 gFm B y s fun D s =>
 gF B (zaB C D s) s fun E s =>
 gF B (bP .geq E (.d (.int .u8 192)) s) s fun F s =>
 orC B F s fun G s =>
 zn G (z2 Z (iN 0) (iN 0) s) (bP .mul w (iN 64) s fun H s =>
 zaB x0 y s fun I s =>
 zah (.int .i64) I s fun J s =>
 bP .rem J (iN 64) s fun K s =>
 bP .add H K s fun L s =>
 bP .add y (iN 1) s fun M s =>
 u [L,M] s)) (zr false 1 5 (zR (rep [iN 0] 5) [(0, 1,(iN 0)),(1, 1,(iN 0)),(2, 1,(iN 128)),(3, 1,(iN 2048)),(4, 1,(iN 65536))]) s fun N s =>
 il false 1 1 N b s fun O s =>
 bP .lss w O s fun Q s =>
 gFm Q w s fun R s =>
 gF Q (bP .gtr R (iN 1114111) s) s fun S s =>
 orC Q S s fun T s =>
 gFm T w s fun U s =>
 gF T (bP .geq U (iN 55296) s) s fun V s =>
 gFm T V s fun W s =>
 gTm W w s fun X s =>
 gT W (bP .lss X (iN 57344) s) s fun Y s =>
 gF T (anC W Y s) s fun a0 s =>
 orC T a0 s fun b0 s =>
 zn b0 (z2 Z (iN 0) (iN 0) s) (z2 Z w b s))))
theorem zsa : F1 Tryz.prog zni zsL := zl [.d [(0, 9)] [], .l [5, 6] [(2, 2),(32, 23)]] Tryz.func185 (by decide +kernel) (by kernel_rfl) fun {_ _ _ _} => cast (by kernel_rfl)
def zuQ (P : Program) (x0 : AV) (σ : LO) (Z : ZT) : Prop :=
 bP .lss x0 (.d (.int .u8 128)) σ fun a s =>
 zn a (z1 Z (iN 1) s) (bP .geq x0 (.d (.int .u8 194)) s fun b s =>
 gTm b x0 s fun c s =>
 gT b (bP .lss c (.d (.int .u8 224)) s) s fun d s =>
 anC b d s fun e s =>
 zn e (z1 Z (iN 2) s) (bP .geq x0 (.d (.int .u8 224)) s fun f s =>
 gTm f x0 s fun g s =>
 gT f (bP .lss g (.d (.int .u8 240)) s) s fun h s =>
 anC f h s fun i s =>
 zn i (z1 Z (iN 3) s) (bP .geq x0 (.d (.int .u8 240)) s fun j s =>
 gTm j x0 s fun l s =>
 gT j (bP .lss l (.d (.int .u8 245)) s) s fun m s =>
 anC j m s fun n s =>
 zn n (z1 Z (iN 4) s) (z1 Z (iN 0) s))))
theorem zud : F1 Tryz.prog zpi zuQ := zl [] Tryz.func186 (by decide +kernel) (by kernel_rfl) fun {_ _ _ _} => cast (by kernel_rfl)
end Go.Proofs.YtncpaekiidpchaaGreat
