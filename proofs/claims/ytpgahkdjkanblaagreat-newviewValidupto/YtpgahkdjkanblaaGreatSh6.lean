/- The conditions of each function, its slots as variables, and that the logic's conditions are these. Printed by program. -/
import Derived.Test.YtpgahkdjkanblaaGreatNm
import Derived.KernelRfl
set_option linter.all false
set_option maxRecDepth 100000
set_option linter.unusedVariables false
namespace Go.Proofs.YtpgahkdjkanblaaGreat
open Go.AW
def zcw (P : Program) (x0 x1 : AV) (σ : LO) (Z : ZT) : Prop :=
 zal .sl x0 σ fun a s =>
 zbd [(iN 0)] s fun v s b =>
 zaC v fun c v => bP .lss c a s fun d s =>
 zh d (il true 9 9 x0 c s fun e s =>
 zak P x1 [dm e] s fun f s =>
 zh f (z1 Z c s) (bP .add c (iN 1) s fun g s =>
 b [g] s)) (z1 Z (iN (-1)) s)
theorem zct : F2 Tryz.prog zbE zcw := ze [.l [8] [(4, 2), (9, 10)]] Tryz.func246 (by decide +kernel) (by kernel_rfl) fun {_ _ _ _ _} => cast (by kernel_rfl)
def zpD (P : Program) (x0 : AV) (σ : LO) (Z : ZT) : Prop :=
 bP .lss x0 (iN 0) σ fun a s =>
 gFm a x0 s fun b s =>
 gF a (bP .geq b (iN 8) s) s fun c s =>
 orC a c s fun d s =>
 zh d (z1 Z (iN (-1)) s) (bP .add (iN 13) x0 s fun e s =>
 z1 Z e s)
theorem zpc : F1 Tryz.prog zkI zpD := ze [] Tryz.func247 (by decide +kernel) (by kernel_rfl) fun {_ _ _ _} => cast (by kernel_rfl)
def zgt (P : Program) (x0 x1 : AV) (σ : LO) (Z : ZT) : Prop :=
 zal .sl x0 σ fun a s =>
 zbd [(iN 0)] s fun v s b =>
 zaC v fun c v => bP .lss c a s fun d s =>
 zh d (il false 1 1 x0 c s fun e s =>
 bP .eql x1 e s fun f s =>
 zh f (z1 Z c s) (bP .add c (iN 1) s fun g s =>
 b [g] s)) (z1 Z (iN (-1)) s)
theorem zgj : F2 Tryz.prog zeg zgt := ze [.l [8] [(4, 2), (9, 10)]] Tryz.func248 (by decide +kernel) (by kernel_rfl) fun {_ _ _ _ _} => cast (by kernel_rfl)
def zgw (P : Program) (x0 x1 : AV) (σ : LO) (Z : ZT) : Prop :=
 zbP x0 σ fun a s =>
 zb 0 a s fun b s =>
 zal .sl x1 s fun c s =>
 cA P zbQ [b, c] s fun _ s =>
 zal .sl x1 s fun e s =>
 zbd [(iN 0)] s fun v s f =>
 zaC v fun g v => bP .lss g e s fun h s =>
 zh h (il true 2 2 x1 g s fun i s =>
 cp [iN 0, iN 0] 2 i s fun j s =>
 zg true 2 j s fun l s =>
 cA P zbc [x0, l] s fun _ s =>
 bP .add g (iN 1) s fun n s =>
 f [n] s) (Z (some []) s)
theorem zgm : F2 Tryz.prog zci zgw := ze [.l [14] [(5, 1), (15, 7)]] Tryz.func249 (by decide +kernel) (by kernel_rfl) fun {_ _ _ _ _} => cast (by kernel_rfl)
def znO (P : Program) (x0 x1 : AV) (σ : LO) (Z : ZT) : Prop :=
 zal .sl x1 σ fun a s =>
 m1 1 [iN 0] a s fun b s =>
 cA P zbR [x0, b] s fun c s =>
 zbd [c, (iN 0)] s fun v s d =>
 zaC v fun e v => zaC v fun f v => zal .sl x1 s fun g s =>
 bP .lss f g s fun h s =>
 zh h (il true 2 2 x1 f s fun i s =>
 cA P zde [e, i] s fun j s =>
 bP .add f (iN 1) s fun l s =>
 d [j, l] s) (z1 Z e s)
theorem znA : F2 Tryz.prog zgY znO := ze [.l [0, 5] [(11, 12)]] Tryz.func250 (by decide +kernel) (by kernel_rfl) fun {_ _ _ _ _} => cast (by kernel_rfl)
def zvB (P : Program) (x0 : AV) (σ : LO) (Z : ZT) : Prop :=
 zaj x0 σ fun a s =>
 zbd [(iN 0)] s fun v s b =>
 zaC v fun c v => zoP a s fun d s =>
 zd d 0 s fun e s =>
 zh e (zd d 2 s fun f s =>
 bP .lss f (.d (.int .i32 33)) s fun g s =>
 gFm g f s fun h s =>
 gF g (bP .geq h (.d (.int .i32 127)) s) s fun i s =>
 gFm g i s fun j s =>
 gTm j f s fun l s =>
 gT j (bP .leq l (.d (.int .i32 159)) s) s fun m s =>
 gF g (anC j m s) s fun n s =>
 orC g n s fun o s =>
 gFm o f s fun p s =>
 gF o (bP .eql p (.d (.int .i32 47)) s) s fun q s =>
 orC o q s fun r s =>
 gFm r f s fun u s =>
 gF r (bP .eql u (.d (.int .i32 65533)) s) s fun w s =>
 orC r w s fun y s =>
 zh y (z1 Z (iN 0) s) (bP .add c (iN 1) s fun z s =>
 b [z] s)) (bP .gtr c (iN 16) s fun A s =>
 zh A (z1 Z (iN 0) s) (z1 Z c s))
theorem zuU : F1 Tryz.prog zqt zvB := ze [.l [3] [(2, 1), (5, 1), (8, 23)]] Tryz.func251 (by decide +kernel) (by kernel_rfl) fun {_ _ _ _} => cast (by kernel_rfl)
def zco (P : Program) (x0 x1 : AV) (σ : LO) (Z : ZT) : Prop :=
 zal .sl x0 σ fun a s =>
 zbd [(iN 0)] s fun v s b =>
 zaC v fun c v => bP .lss c a s fun d s =>
 zh d (il false 1 1 x0 c s fun e s =>
 zak P x1 [dm e] s fun f s =>
 zh f (z1 Z c s) (bP .add c (iN 1) s fun g s =>
 b [g] s)) (z1 Z (iN (-1)) s)
theorem zcn : F2 Tryz.prog zcm zco := ze [.l [8] [(4, 2), (9, 10)]] Tryz.func252 (by decide +kernel) (by kernel_rfl) fun {_ _ _ _ _} => cast (by kernel_rfl)
def ziP (P : Program) (x0 : AV) (σ : LO) (Z : ZT) : Prop :=
 zaJ x0 σ fun a s =>
 fl 0 a s fun b s =>
 zb 1 a s fun c s =>
 zg false 1 c s fun d s =>
 zb 2 a s fun e s =>
 zg false 1 e s fun f s =>
 zb 3 a s fun g s =>
 zg true 2 g s fun h s =>
 zb 5 a s fun i s =>
 zg false 1 i s fun j s =>
 zb 6 a s fun l s =>
 zg false 1 l s fun m s =>
 cA P zfb [b] s fun n t =>
 zw c s t ∧ (zw e s t ∧ (zw g s t ∧ (zw i s t ∧ (zw l s t ∧ (cA P ziq [d] t fun o s =>
 zw e t s ∧ (zw g t s ∧ (zw i t s ∧ (zw l t s ∧ (cA P ziq [f] s fun p t =>
 zw g s t ∧ (zw i s t ∧ (zw l s t ∧ (cA P zcr [h] t fun q s =>
 zw i t s ∧ (zw l t s ∧ (cA P zio [j] s fun r t =>
 zw l s t ∧ (cA P zcE [m] t fun u s =>
 zj false 1 6 (zO (rep [iN 0] 6) [(0, 1, n), (1, 1, o), (2, 1, p), (3, 1, q), (4, 1, r), (5, 1, u)]) s fun w s =>
 cA P zcD [w] s fun y s =>
 z1 Z y s)))))))))))))))
theorem ziB : F1 Tryz.prog zfr ziP := ze [.d [(0, 2), (3, 2), (6, 2), (9, 2), (12, 2), (15, 2), (2, 1), (5, 1), (8, 1), (11, 1), (14, 1), (17, 4)] [(2, [6, 9, 12, 15, 18]), (5, [9, 12, 15, 18]), (8, [12, 15, 18]), (11, [15, 18]), (14, [18])]] Tryz.func253 (by decide +kernel) (by kernel_rfl) fun {_ _ _ _} => cast (by kernel_rfl)
def ztI (P : Program) (x0 : AV) (σ : LO) (Z : ZT) : Prop :=
 zbd [x0, (iN 0)] σ fun v s a =>
 zaC v fun b v => zaC v fun c v => zal .str b s fun d s =>
 bP .gtr d (iN 0) s fun e s =>
 zh e (cA P zok [b] s fun f s =>
 zd f 0 s fun g s =>
 zd f 1 s fun h s =>
 bP .eql h (iN 0) s fun i s =>
 gFm i g s fun j s =>
 gF i (bP .lss j (iN 33) s) s fun l s =>
 orC i l s fun m s =>
 gFm m g s fun n s =>
 gF m (bP .geq n (iN 127) s) s fun o s =>
 gFm m o s fun p s =>
 gTm p g s fun q s =>
 gT p (bP .lss q (iN 160) s) s fun r s =>
 gF m (anC p r s) s fun u s =>
 orC m u s fun w s =>
 gFm w g s fun y s =>
 gF w (bP .eql y (iN 47) s) s fun z s =>
 orC w z s fun A s =>
 gFm A g s fun B s =>
 gF A (bP .eql B (iN 65533) s) s fun C s =>
 orC A C s fun D s =>
 gFm D c s fun E s =>
 gF D (bP .geq E (iN 16) s) s fun F s =>
 orC D F s fun G s =>
 zh G (z1 Z (iN 0) s) (bP .add c (iN 1) s fun H s =>
 zcX .str b (some h) none none s fun I s =>
 a [I, H] s)) (z1 Z c s)
theorem zsS : F1 Tryz.prog zol ztI := ze [.l [0, 3] [(2, 1), (4, 41)]] Tryz.func254 (by decide +kernel) (by kernel_rfl) fun {_ _ _ _} => cast (by kernel_rfl)
def ztH (P : Program) (x0 : AV) (σ : LO) (Z : ZT) : Prop :=
 zaI x0 (iN 0) σ fun a s =>
 cA P zqq [a] s fun b s =>
 bP .eql b (iN 0) s fun c s =>
 gFm c b s fun d s =>
 gFm c x0 s fun e s =>
 gF c (zal .str e s) s fun f s =>
 gF c (bP .gtr d f s) s fun g s =>
 orC c g s fun h s =>
 zh h (z2 Z (iN 0) (iN 0) s) (bP .eql b (iN 1) s fun i s =>
 zh i (zaI x0 (iN 0) s fun j s =>
 zai (.int .i64) j s fun l s =>
 z2 Z l (iN 1) s) (zaI x0 (iN 0) s fun m s =>
 zai (.int .i64) m s fun n s =>
 bP .sub (iN 7) b s fun o s =>
 bP .shl (iN 1) o s fun p s =>
 bP .sub p (iN 1) s fun q s =>
 bP .and n q s fun r s =>
 zbd [r, (iN 1)] s fun v s u =>
 zaC v fun w v => zaC v fun y v => bP .lss y b s fun z s =>
 zh z (zaI x0 y s fun A s =>
 bP .lss A (.d (.int .u8 128)) s fun B s =>
 gFm B x0 s fun C s =>
 gFm B y s fun D s =>
 gF B (zaI C D s) s fun E s =>
 gF B (bP .geq E (.d (.int .u8 192)) s) s fun F s =>
 orC B F s fun G s =>
 zh G (z2 Z (iN 0) (iN 0) s) (bP .mul w (iN 64) s fun H s =>
 zaI x0 y s fun I s =>
 zai (.int .i64) I s fun J s =>
 bP .rem J (iN 64) s fun K s =>
 bP .add H K s fun L s =>
 bP .add y (iN 1) s fun M s =>
 u [L, M] s)) (zj false 1 5 (zO (rep [iN 0] 5) [(0, 1, (iN 0)), (1, 1, (iN 0)), (2, 1, (iN 128)), (3, 1, (iN 2048)), (4, 1, (iN 65536))]) s fun N s =>
 il false 1 1 N b s fun O s =>
 bP .lss w O s fun Q s =>
 gFm Q w s fun R s =>
 gF Q (bP .gtr R (iN 1114111) s) s fun S s =>
 orC Q S s fun T s =>
 gFm T w s fun U s =>
 gF T (bP .geq U (iN 55296) s) s fun V s =>
 gFm T V s fun W s =>
 gTm W w s fun X s =>
 gT W (bP .lss X (iN 57344) s) s fun Y s =>
 gF T (anC W Y s) s fun a0 s =>
 orC T a0 s fun b0 s =>
 zh b0 (z2 Z (iN 0) (iN 0) s) (z2 Z w b s))))
theorem zsR : F1 Tryz.prog zok ztH := ze [.d [(0, 9)] [], .l [5, 6] [(2, 2), (32, 23)]] Tryz.func255 (by decide +kernel) (by kernel_rfl) fun {_ _ _ _} => cast (by kernel_rfl)
def zvw (P : Program) (x0 : AV) (σ : LO) (Z : ZT) : Prop :=
 bP .lss x0 (.d (.int .u8 128)) σ fun a s =>
 zh a (z1 Z (iN 1) s) (bP .geq x0 (.d (.int .u8 194)) s fun b s =>
 gTm b x0 s fun c s =>
 gT b (bP .lss c (.d (.int .u8 224)) s) s fun d s =>
 anC b d s fun e s =>
 zh e (z1 Z (iN 2) s) (bP .geq x0 (.d (.int .u8 224)) s fun f s =>
 gTm f x0 s fun g s =>
 gT f (bP .lss g (.d (.int .u8 240)) s) s fun h s =>
 anC f h s fun i s =>
 zh i (z1 Z (iN 3) s) (bP .geq x0 (.d (.int .u8 240)) s fun j s =>
 gTm j x0 s fun l s =>
 gT j (bP .lss l (.d (.int .u8 245)) s) s fun m s =>
 anC j m s fun n s =>
 zh n (z1 Z (iN 4) s) (z1 Z (iN 0) s))))
theorem zuP : F1 Tryz.prog zqq zvw := ze [] Tryz.func256 (by decide +kernel) (by kernel_rfl) fun {_ _ _ _} => cast (by kernel_rfl)
end Go.Proofs.YtpgahkdjkanblaaGreat
