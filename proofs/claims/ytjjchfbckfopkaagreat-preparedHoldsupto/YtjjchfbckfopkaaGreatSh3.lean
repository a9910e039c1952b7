/- The conditions of each function, its slots as variables, and that the logic's conditions are these. Printed by program. -/
import Derived.Test.YtjjchfbckfopkaaGreatNm
import Derived.KernelRfl
set_option linter.all false
set_option maxRecDepth 100000
set_option linter.unusedVariables false
namespace Go.Proofs.YtjjchfbckfopkaaGreat
open Go.AW
def zbu (P : Program) (x0 x1 : AV) (σ : LO) (Z : ZT) : Prop :=
 zaD .sl x0 σ fun a s =>
 zbx [(iN 0)] s fun v s b =>
 zaR v fun c v => bP .lss c a s fun d s =>
 zr d (il false 1 1 x0 c s fun e s =>
 zah P x1 [dm e] s fun f s =>
 zr f (z1 Z c s) (bP .add c (iN 1) s fun g s =>
 b [g] s)) (z1 Z (iN (-1)) s)
theorem zcC : F2 Tryz.prog zbt zbu := zh [.l [8] [(4, 2), (9, 10)]] Tryz.func144
def znO (P : Program) (x0 : AV) (σ : LO) (Z : ZT) : Prop :=
 zbx [x0, (iN 0)] σ fun v s a =>
 zaR v fun b v => zaR v fun c v => zaD .str b s fun d s =>
 bP .gtr d (iN 0) s fun e s =>
 zr e (cA P zjj [b] s fun f s =>
 zc f 0 s fun g s =>
 zc f 1 s fun h s =>
 bP .eql h (iN 0) s fun i s =>
 gFm i g s fun j s =>
 gF i (bP .lss j (iN 33) s) s fun l s =>
 orC i l s fun m s =>
 gFm m g s fun n s =>
 gF m (bP .geq n (iN 127) s) s fun o s =>
 gFm m o s fun p s =>
 gTm p g s fun q s =>
 gT p (bP .lss q (iN 160) s) s fun r s =>
 gF m (anC p r s) s fun u s =>
 orC m u s fun w s =>
 gFm w g s fun y s =>
 gF w (bP .eql y (iN 47) s) s fun z s =>
 orC w z s fun A s =>
 gFm A g s fun B s =>
 gF A (bP .eql B (iN 65533) s) s fun C s =>
 orC A C s fun D s =>
 gFm D c s fun E s =>
 gF D (bP .geq E (iN 16) s) s fun F s =>
 orC D F s fun G s =>
 zr G (z1 Z (iN 0) s) (bP .add c (iN 1) s fun H s =>
 zcj .str b (some h) none none s fun I s =>
 a [I, H] s)) (z1 Z c s)
theorem e_r06_Runes : F1 Tryz.prog zjk znO := zh [.l [0, 3] [(2, 1), (4, 41)]] Tryz.func145
def znN (P : Program) (x0 : AV) (σ : LO) (Z : ZT) : Prop :=
 zaz x0 (iN 0) σ fun a s =>
 cA P zkP [a] s fun b s =>
 bP .eql b (iN 0) s fun c s =>
 gFm c b s fun d s =>
 gFm c x0 s fun e s =>
 gF c (zaD .str e s) s fun f s =>
 gF c (bP .gtr d f s) s fun g s =>
 orC c g s fun h s =>
 zr h (z2 Z (iN 0) (iN 0) s) (bP .eql b (iN 1) s fun i s =>
 zr i (zaz x0 (iN 0) s fun j s =>
 zab (.int .i64) j s fun l s =>
 z2 Z l (iN 1) s) (zaz x0 (iN 0) s fun m s =>
 zab (.int .i64) m s fun n s =>
 bP .sub (iN 7) b s fun o s =>
 bP .shl (iN 1) o s fun p s =>
 bP .sub p (iN 1) s fun q s =>
 bP .and n q s fun r s =>
 zbx [r, (iN 1)] s fun v s u =>
 zaR v fun w v => zaR v fun y v => bP .lss y b s fun z s =>
 zr z (zaz x0 y s fun A s =>
 bP .lss A (.d (.int .u8 128)) s fun B s =>
 gFm B x0 s fun C s =>
 gFm B y s fun D s =>
 gF B (zaz C D s) s fun E s =>
 gF B (bP .geq E (.d (.int .u8 192)) s) s fun F s =>
 orC B F s fun G s =>
 zr G (z2 Z (iN 0) (iN 0) s) (bP .mul w (iN 64) s fun H s =>
 zaz x0 y s fun I s =>
 zab (.int .i64) I s fun J s =>
 bP .rem J (iN 64) s fun K s =>
 bP .add H K s fun L s =>
 bP .add y (iN 1) s fun M s =>
 u [L, M] s)) (zn false 1 5 (zag (rep [iN 0] 5) [(0, 1, (iN 0)), (1, 1, (iN 0)), (2, 1, (iN 128)), (3, 1, (iN 2048)), (4, 1, (iN 65536))]) s fun N s =>
 il false 1 1 N b s fun O s =>
 bP .lss w O s fun Q s =>
 gFm Q w s fun R s =>
 gF Q (bP .gtr R (iN 1114111) s) s fun S s =>
 orC Q S s fun T s =>
 gFm T w s fun U s =>
 gF T (bP .geq U (iN 55296) s) s fun V s =>
 gFm T V s fun W s =>
 gTm W w s fun X s =>
 gT W (bP .lss X (iN 57344) s) s fun Y s =>
 gF T (anC W Y s) s fun a0 s =>
 orC T a0 s fun b0 s =>
 zr b0 (z2 Z (iN 0) (iN 0) s) (z2 Z w b s))))
theorem e_r06_rune1 : F1 Tryz.prog zjj znN := zh [.d [(0, 9)] [], .l [5, 6] [(2, 2), (32, 23)]] Tryz.func147
def zpc (P : Program) (x0 : AV) (σ : LO) (Z : ZT) : Prop :=
 bP .lss x0 (.d (.int .u8 128)) σ fun a s =>
 zr a (z1 Z (iN 1) s) (bP .geq x0 (.d (.int .u8 194)) s fun b s =>
 gTm b x0 s fun c s =>
 gT b (bP .lss c (.d (.int .u8 224)) s) s fun d s =>
 anC b d s fun e s =>
 zr e (z1 Z (iN 2) s) (bP .geq x0 (.d (.int .u8 224)) s fun f s =>
 gTm f x0 s fun g s =>
 gT f (bP .lss g (.d (.int .u8 240)) s) s fun h s =>
 anC f h s fun i s =>
 zr i (z1 Z (iN 3) s) (bP .geq x0 (.d (.int .u8 240)) s fun j s =>
 gTm j x0 s fun l s =>
 gT j (bP .lss l (.d (.int .u8 245)) s) s fun m s =>
 anC j m s fun n s =>
 zr n (z1 Z (iN 4) s) (z1 Z (iN 0) s))))
theorem e_r06_size : F1 Tryz.prog zkP zpc := zh [] Tryz.func148
end Go.Proofs.YtjjchfbckfopkaaGreat
