/- The conditions of each function, its slots as variables, and that the logic's conditions are these. Printed by program. -/
import Derived.Test.YtpgahkdjkanblaaGreatNm
import Derived.KernelRfl
set_option linter.all false
set_option maxRecDepth 100000
set_option linter.unusedVariables false
namespace Go.Proofs.YtpgahkdjkanblaaGreat
open Go.AW
def zcQ (P : Program) (x0 x1 : AV) (σ : LO) (Z : ZT) : Prop :=
 zaz .sl x0 σ fun a s =>
 zcd [(iN 0)] s fun v s b =>
 zbM v fun c v => bP .lss c a s fun d s =>
 zp d (il true 9 9 x0 c s fun e s =>
 zam P x1 [dm e] s fun f s =>
 zp f (z1 Z c s) (bP .add c (iN 1) s fun g s =>
 b [g] s)) (z1 Z (iN (-1)) s)
theorem zcM : F2 Tryz.prog zbK zcQ := zi [.l [8] [(4, 2), (9, 10)]] Tryz.func246 (by decide +kernel) (by kernel_rfl) fun {_ _ _ _ _} => cast (by kernel_rfl)
def zpL (P : Program) (x0 : AV) (σ : LO) (Z : ZT) : Prop :=
 bP .lss x0 (iN 0) σ fun a s =>
 gFm a x0 s fun b s =>
 gF a (bP .geq b (iN 8) s) s fun c s =>
 orC a c s fun d s =>
 zp d (z1 Z (iN (-1)) s) (bP .add (iN 13) x0 s fun e s =>
 z1 Z e s)
theorem zpq : F1 Tryz.prog zll zpL := zi [] Tryz.func247 (by decide +kernel) (by kernel_rfl) fun {_ _ _ _} => cast (by kernel_rfl)
def zgZ (P : Program) (x0 x1 : AV) (σ : LO) (Z : ZT) : Prop :=
 zaz .sl x0 σ fun a s =>
 zcd [(iN 0)] s fun v s b =>
 zbM v fun c v => bP .lss c a s fun d s =>
 zp d (il false 1 1 x0 c s fun e s =>
 bP .eql x1 e s fun f s =>
 zp f (z1 Z c s) (bP .add c (iN 1) s fun g s =>
 b [g] s)) (z1 Z (iN (-1)) s)
theorem zgP : F2 Tryz.prog zfc zgZ := zi [.l [8] [(4, 2), (9, 10)]] Tryz.func248 (by decide +kernel) (by kernel_rfl) fun {_ _ _ _ _} => cast (by kernel_rfl)
def zhc (P : Program) (x0 x1 : AV) (σ : LO) (Z : ZT) : Prop :=
 zbY x0 σ fun a s =>
 zb 0 a s fun b s =>
 zaz .sl x1 s fun c s =>
 cA P zcb [b, c] s fun _ s =>
 zaz .sl x1 s fun e s =>
 zcd [(iN 0)] s fun v s f =>
 zbM v fun g v => bP .lss g e s fun h s =>
 zp h (il true 2 2 x1 g s fun i s =>
 cp [iN 0, iN 0] 2 i s fun j s =>
 zg true 2 j s fun l s =>
 cA P zaR [x0, l] s fun _ s =>
 bP .add g (iN 1) s fun n s =>
 f [n] s) (Z (some []) s)
theorem zgS : F2 Tryz.prog zcr zhc := zi [.l [14] [(5, 1), (15, 7)]] Tryz.func249 (by decide +kernel) (by kernel_rfl) fun {_ _ _ _ _} => cast (by kernel_rfl)
def zup (P : Program) (x0 : AV) (σ : LO) (Z : ZT) : Prop :=
 zai x0 σ fun a s =>
 zcd [(iN 0)] s fun v s b =>
 zbM v fun c v => zpd a s fun d s =>
 zc d 0 s fun e s =>
 zp e (zc d 2 s fun f s =>
 bP .lss f (.d (.int .i32 33)) s fun g s =>
 gFm g f s fun h s =>
 gF g (bP .geq h (.d (.int .i32 127)) s) s fun i s =>
 gFm g i s fun j s =>
 gTm j f s fun l s =>
 gT j (bP .leq l (.d (.int .i32 159)) s) s fun m s =>
 gF g (anC j m s) s fun n s =>
 orC g n s fun o s =>
 gFm o f s fun p s =>
 gF o (bP .eql p (.d (.int .i32 47)) s) s fun q s =>
 orC o q s fun r s =>
 gFm r f s fun u s =>
 gF r (bP .eql u (.d (.int .i32 65533)) s) s fun w s =>
 orC r w s fun y s =>
 zp y (z1 Z (iN 0) s) (bP .add c (iN 1) s fun z s =>
 b [z] s)) (bP .gtr c (iN 16) s fun A s =>
 zp A (z1 Z (iN 0) s) (z1 Z c s))
theorem ztU : F1 Tryz.prog zqm zup := zi [.l [3] [(2, 1), (5, 1), (8, 23)]] Tryz.func251 (by decide +kernel) (by kernel_rfl) fun {_ _ _ _} => cast (by kernel_rfl)
def zcz (P : Program) (x0 x1 : AV) (σ : LO) (Z : ZT) : Prop :=
 zaz .sl x0 σ fun a s =>
 zcd [(iN 0)] s fun v s b =>
 zbM v fun c v => bP .lss c a s fun d s =>
 zp d (il false 1 1 x0 c s fun e s =>
 zam P x1 [dm e] s fun f s =>
 zp f (z1 Z c s) (bP .add c (iN 1) s fun g s =>
 b [g] s)) (z1 Z (iN (-1)) s)
theorem zcy : F2 Tryz.prog zcw zcz := zi [.l [8] [(4, 2), (9, 10)]] Tryz.func252 (by decide +kernel) (by kernel_rfl) fun {_ _ _ _ _} => cast (by kernel_rfl)
end Go.Proofs.YtpgahkdjkanblaaGreat
