/- The conditions of each function, its slots as variables, and that the logic's conditions are these. Printed by program. -/
import Derived.Test.YtfjommppajkpoaaGreatNm
import Derived.KernelRfl
set_option linter.all false
set_option maxRecDepth 100000
namespace Go.Proofs.YtfjommppajkpoaaGreat
open Go.AW
def zhB (P : Program) (x0 x1 x2 : AV) (σ : LO) (Z : ZT) : Prop :=
 zaJ x2 σ fun a s =>
 zW [iN 0,iN 0] s fun b s =>
 nfl 0 x0 s fun c s =>
 il true 4 4 c x1 s fun d s =>
 cp [(.d (.str [])),iN 0,eN,eN] 4 d s fun e s =>
 zaT [(iN 0)] s fun v s f =>
 zar v fun g v => fl 3 e s fun h s =>
 zau .sl h s fun i s =>
 bP .lss g i s fun j s =>
 gTl j 3 e s fun l s =>
 gTm j g s fun m s =>
 gT j (zF none 2 l m s) s fun n s =>
 gTl j 0 n s fun o s =>
 gTl j 2 a s fun p s =>
 gT j (bP .lss o p s) s fun q s =>
 anC j q s fun r s =>
 zn r (bP .add g (iN 1) s fun u s =>
 f [u] s) (fl 3 e s fun w s =>
 zau .sl w s fun y s =>
 bP .lss g y s fun z s =>
 gTl z 3 e s fun A s =>
 gTm z g s fun B s =>
 gT z (zF none 2 A B s) s fun C s =>
 gTl z 0 C s fun D s =>
 gTl z 2 a s fun E s =>
 gT z (bP .eql D E s) s fun F s =>
 anC z F s fun G s =>
 (fun (H : AV → LO → Prop) => zn G (fl 3 e s fun H0 s =>
 zF none 2 H0 g s fun I0 s =>
 fl 1 I0 s fun J0 s =>
 H J0 s) (H (iN 0) s))
 (fun I s => fl 3 a s fun J s =>
 bP .lss J I s fun K s =>
 gF K (zl 3 a s) s fun L s =>
 gF K (zp false 1 L s) s fun M s =>
 gF K (zp true 4 e s) s fun N s =>
 gF K (cA P zbK [N] s) s fun O t =>
 zx L s t ∧ (gF K (bP .gtr M O t) t fun Q s =>
 orC K Q s fun R s =>
 zn R (cA P zde [(iN 72)] s fun S s =>
 zo 2 b S s fun _ s =>
 Z (zB (zal b s true 2) (some [])) s) (unC .not G s fun U s =>
 gTl U 3 e s fun V s =>
 gT U (zau .sl V s) s fun W s =>
 gT U (bP .geq W (iN 8) s) s fun X s =>
 anC U X s fun Y s =>
 zn Y (cA P zde [(iN 6)] s fun a0 s =>
 zo 2 b a0 s fun _ s =>
 Z (zB (zal b s true 2) (some [])) s) (fl 3 e s fun c0 s =>
 zco (.sl 2) c0 none (some g) none s fun d0 s =>
 zl 2 a s fun e0 s =>
 zp false 1 e0 s fun f0 s =>
 zl 3 a s fun g0 s =>
 zp false 1 g0 s fun h0 s =>
 zC (zP [(.d (.str [])),iN 0] [(0, 1,f0),(1, 1,h0)]) s fun i0 s =>
 m1 2 [(.d (.str [])),iN 0] i0 s fun j0 s =>
 zy 2 24 eN d0 s fun l0 t =>
 zx e0 s t ∧ (zx g0 s t ∧ (zy 2 24 l0 j0 t fun m0 s =>
 (fun (o0 : AV → LO → Prop) => zn G (bP .add g (iN 1) s fun G0 s =>
 o0 G0 s) (o0 g s))
 (fun p0 s => zbF x0 s fun q0 s =>
 zl 0 q0 s fun r0 s =>
 zp false 1 r0 s fun u0 s =>
 fl 3 e s fun w0 s =>
 zco (.sl 2) w0 (some p0) none none s fun y0 s =>
 zy 2 24 m0 y0 s fun z0 t =>
 zx r0 s t ∧ (zF none 4 u0 x1 t fun A0 s =>
 zl 3 A0 s fun B0 s =>
 zo 1 B0 z0 s fun _ s =>
 fl 3 a s fun D0 s =>
 zC (zP [iN 0,iN 0] [(1, 1,D0)]) s fun E0 s =>
 zo 2 b E0 s fun _ s =>
 Z (zB (zal b s true 2) (some [])) s)))))))))
theorem zhv : F3 Tryz.prog zes zhB := zj [.l [8] [(19, 18)], .d [(0, 16)] [], .d [(0, 17)] [], .d [(0, 11)] [(8, [65])], .d [(0, 5),(6, 6),(5, 1),(12, 2)] [(5, [87, 89])], .d [(0, 14)] [(10, [99])]] Tryz.func160
def zjR (P : Program) (x0 : AV) (σ : LO) (Z : ZT) : Prop :=
 zaJ x0 σ fun a s =>
 fl 1 a s fun b s =>
 fl 2 a s fun c s =>
 zau .sl c s fun d s =>
 bP .add b d s fun e s =>
 z1 Z e s
theorem zqh : F1 Tryz.prog zbK zjR := zj [] Tryz.func161
def zuk (P : Program) (x0 : AV) (σ : LO) (Z : ZT) : Prop :=
 zaq x0 σ fun a s =>
 zaT [(iN 0)] s fun v s b =>
 zar v fun c v => zns a s fun d s =>
 ze d 0 s fun e s =>
 zn e (ze d 2 s fun f s =>
 bP .lss f (.d (.int .i32 33)) s fun g s =>
 gFm g f s fun h s =>
 gF g (bP .geq h (.d (.int .i32 127)) s) s fun i s =>
 gFm g i s fun j s =>
 gTm j f s fun l s =>
 gT j (bP .leq l (.d (.int .i32 159)) s) s fun m s =>
 gF g (anC j m s) s fun n s =>
 orC g n s fun o s =>
 gFm o f s fun p s =>
 gF o (bP .eql p (.d (.int .i32 47)) s) s fun q s =>
 orC o q s fun r s =>
 gFm r f s fun u s =>
 gF r (bP .eql u (.d (.int .i32 65533)) s) s fun w s =>
 orC r w s fun y s =>
 zn y (z1 Z (iN 0) s) (bP .add c (iN 1) s fun z s =>
 b [z] s)) (bP .gtr c (iN 16) s fun A s =>
 zn A (z1 Z (iN 0) s) (z1 Z c s))
theorem e_op_Runes : F1 Tryz.prog zoM zuk := zj [.l [3] [(2, 1),(5, 1),(8, 23)]] Tryz.func162
def zhA (P : Program) (x0 : AV) (σ : LO) (Z : ZT) : Prop :=
 zaJ x0 σ fun a s =>
 fl 0 a s fun b s =>
 bP .lss b (iN 0) s fun c s =>
 gFl c 0 a s fun d s =>
 gF c (bP .geq d (iN 21) s) s fun e s =>
 orC c e s fun f s =>
 gFl f 1 a s fun g s =>
 gF f (bP .lss g (iN 1) s) s fun h s =>
 orC f h s fun i s =>
 gFl i 1 a s fun j s =>
 gF i (bP .gtr j (iN 9007199254740992) s) s fun l s =>
 orC i l s fun m s =>
 zn m (z1 Z (iN 81) s) (z1 Z (iN 0) s)
theorem zmM : F1 Tryz.prog zeq zhA := zj [] Tryz.func163
def zsl (P : Program) (x0 : AV) (σ : LO) (Z : ZT) : Prop :=
 zaM x0 (iN 0) σ fun a s =>
 cA P zoI [a] s fun b s =>
 bP .eql b (iN 0) s fun c s =>
 gFm c b s fun d s =>
 gFm c x0 s fun e s =>
 gF c (zau .str e s) s fun f s =>
 gF c (bP .gtr d f s) s fun g s =>
 orC c g s fun h s =>
 zn h (z2 Z (iN 0) (iN 0) s) (bP .eql b (iN 1) s fun i s =>
 zn i (zaM x0 (iN 0) s fun j s =>
 zag (.int .i64) j s fun l s =>
 z2 Z l (iN 1) s) (zaM x0 (iN 0) s fun m s =>
 zag (.int .i64) m s fun n s =>
 bP .sub (iN 7) b s fun o s =>
 bP .shl (iN 1) o s fun p s =>
 bP .sub p (iN 1) s fun q s =>
 bP .and n q s fun r s =>
 zaT [r,(iN 1)] s fun v s u =>
 zar v fun w v => zar v fun y v => bP .lss y b s fun z s =>
 zn z (zaM x0 y s fun A s =>
 bP .lss A (.d (.int .u8 128)) s fun B s =>
 gFm B x0 s fun C s =>
 gFm B y s fun D s =>
 gF B (zaM C D s) s fun E s =>
 gF B (bP .geq E (.d (.int .u8 192)) s) s fun F s =>
 orC B F s fun G s =>
 zn G (z2 Z (iN 0) (iN 0) s) (bP .mul w (iN 64) s fun H s =>
 zaM x0 y s fun I s =>
 zag (.int .i64) I s fun J s =>
 bP .rem J (iN 64) s fun K s =>
 bP .add H K s fun L s =>
 bP .add y (iN 1) s fun M s =>
 u [L,M] s)) (zu false 1 5 (zP (rep [iN 0] 5) [(0, 1,(iN 0)),(1, 1,(iN 0)),(2, 1,(iN 128)),(3, 1,(iN 2048)),(4, 1,(iN 65536))]) s fun N s =>
 il false 1 1 N b s fun O s =>
 bP .lss w O s fun Q s =>
 gFm Q w s fun R s =>
 gF Q (bP .gtr R (iN 1114111) s) s fun S s =>
 orC Q S s fun T s =>
 gFm T w s fun U s =>
 gF T (bP .geq U (iN 55296) s) s fun V s =>
 gFm T V s fun W s =>
 gTm W w s fun X s =>
 gT W (bP .lss X (iN 57344) s) s fun Y s =>
 gF T (anC W Y s) s fun a0 s =>
 orC T a0 s fun b0 s =>
 zn b0 (z2 Z (iN 0) (iN 0) s) (z2 Z w b s))))
theorem e_r06_rune1 : F1 Tryz.prog zmA zsl := zj [.d [(0, 9)] [], .l [5, 6] [(2, 2),(32, 23)]] Tryz.func164
def zud (P : Program) (x0 : AV) (σ : LO) (Z : ZT) : Prop :=
 bP .lss x0 (.d (.int .u8 128)) σ fun a s =>
 zn a (z1 Z (iN 1) s) (bP .geq x0 (.d (.int .u8 194)) s fun b s =>
 gTm b x0 s fun c s =>
 gT b (bP .lss c (.d (.int .u8 224)) s) s fun d s =>
 anC b d s fun e s =>
 zn e (z1 Z (iN 2) s) (bP .geq x0 (.d (.int .u8 224)) s fun f s =>
 gTm f x0 s fun g s =>
 gT f (bP .lss g (.d (.int .u8 240)) s) s fun h s =>
 anC f h s fun i s =>
 zn i (z1 Z (iN 3) s) (bP .geq x0 (.d (.int .u8 240)) s fun j s =>
 gTm j x0 s fun l s =>
 gT j (bP .lss l (.d (.int .u8 245)) s) s fun m s =>
 anC j m s fun n s =>
 zn n (z1 Z (iN 4) s) (z1 Z (iN 0) s))))
theorem e_r06_size : F1 Tryz.prog zoI zud := zj [] Tryz.func165
end Go.Proofs.YtfjommppajkpoaaGreat
