/- The conditions of each function, its slots as variables, and that the logic's conditions are these. Printed by program. -/
import Derived.Test.YtaocmalhjfakdaaNm
import Derived.KernelRfl
set_option linter.all false
set_option maxRecDepth 100000
set_option linter.unusedVariables false
namespace Go.Proofs.Ytaocmalhjfakdaa
open Go.AW
def zlb (P : Program) (x0 : AV) (σ : LO) (Z : ZT) : Prop :=
 zbc x0 (iN 0) σ fun a s =>
 cA P zjc [a] s fun b s =>
 bP .eql b (iN 0) s fun c s =>
 gFm c b s fun d s =>
 gFm c x0 s fun e s =>
 gF c (zaY .str e s) s fun f s =>
 gF c (bP .gtr d f s) s fun g s =>
 orC c g s fun h s =>
 zo h (z2 Z (iN 0) (iN 0) s) (bP .eql b (iN 1) s fun i s =>
 zo i (zbc x0 (iN 0) s fun j s =>
 zax (.int .i64) j s fun l s =>
 z2 Z l (iN 1) s) (zbc x0 (iN 0) s fun m s =>
 zax (.int .i64) m s fun n s =>
 bP .sub (iN 7) b s fun o s =>
 bP .shl (iN 1) o s fun p s =>
 bP .sub p (iN 1) s fun q s =>
 bP .and n q s fun r s =>
 zbZ [r, (iN 1)] s fun v s u =>
 zbi v fun w v => zbi v fun y v => bP .lss y b s fun z s =>
 zo z (zbc x0 y s fun A s =>
 bP .lss A (.d (.int .u8 128)) s fun B s =>
 gFm B x0 s fun C s =>
 gFm B y s fun D s =>
 gF B (zbc C D s) s fun E s =>
 gF B (bP .geq E (.d (.int .u8 192)) s) s fun F s =>
 orC B F s fun G s =>
 zo G (z2 Z (iN 0) (iN 0) s) (bP .mul w (iN 64) s fun H s =>
 zbc x0 y s fun I s =>
 zax (.int .i64) I s fun J s =>
 bP .rem J (iN 64) s fun K s =>
 bP .add H K s fun L s =>
 bP .add y (iN 1) s fun M s =>
 u [L, M] s)) (zw false 1 5 (zag (rep [iN 0] 5) [(0, 1, (iN 0)), (1, 1, (iN 0)), (2, 1, (iN 128)), (3, 1, (iN 2048)), (4, 1, (iN 65536))]) s fun N s =>
 il false 1 1 N b s fun O s =>
 bP .lss w O s fun Q s =>
 gFm Q w s fun R s =>
 gF Q (bP .gtr R (iN 1114111) s) s fun S s =>
 orC Q S s fun T s =>
 gFm T w s fun U s =>
 gF T (bP .geq U (iN 55296) s) s fun V s =>
 gFm T V s fun W s =>
 gTm W w s fun X s =>
 gT W (bP .lss X (iN 57344) s) s fun Y s =>
 gF T (anC W Y s) s fun a0 s =>
 orC T a0 s fun b0 s =>
 zo b0 (z2 Z (iN 0) (iN 0) s) (z2 Z w b s))))
theorem e_r06_rune1 : F1 Try.prog zia zlb := zq [.d [(0, 9)] [], .l [5, 6] [(2, 2), (32, 23)]] Try.func118
def zlX (P : Program) (x0 : AV) (σ : LO) (Z : ZT) : Prop :=
 bP .lss x0 (.d (.int .u8 128)) σ fun a s =>
 zo a (z1 Z (iN 1) s) (bP .geq x0 (.d (.int .u8 194)) s fun b s =>
 gTm b x0 s fun c s =>
 gT b (bP .lss c (.d (.int .u8 224)) s) s fun d s =>
 anC b d s fun e s =>
 zo e (z1 Z (iN 2) s) (bP .geq x0 (.d (.int .u8 224)) s fun f s =>
 gTm f x0 s fun g s =>
 gT f (bP .lss g (.d (.int .u8 240)) s) s fun h s =>
 anC f h s fun i s =>
 zo i (z1 Z (iN 3) s) (bP .geq x0 (.d (.int .u8 240)) s fun j s =>
 gTm j x0 s fun l s =>
 gT j (bP .lss l (.d (.int .u8 245)) s) s fun m s =>
 anC j m s fun n s =>
 zo n (z1 Z (iN 4) s) (z1 Z (iN 0) s))))
theorem e_r06_size : F1 Try.prog zjc zlX := zq [] Try.func125
end Go.Proofs.Ytaocmalhjfakdaa
