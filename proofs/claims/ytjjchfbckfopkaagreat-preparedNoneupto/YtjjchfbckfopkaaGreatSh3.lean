/- The conditions of each function, its slots as variables, and that the logic's conditions are these. Printed by program. -/
import Derived.Test.YtjjchfbckfopkaaGreatNm
import Derived.KernelRfl
set_option linter.all false
set_option maxRecDepth 100000
set_option linter.unusedVariables false
namespace Go.Proofs.YtjjchfbckfopkaaGreat
open Go.AW
def S_op_only (P : Program) (x0 : AV) (σ : LO) (Z : ZT) : Prop :=
 zbw x0 σ fun a s =>
 zQ zl3 s fun b s =>
 fl 0 a s fun c s =>
 zy (zac zl3 [(0, 1, c)]) s fun d s =>
 cp zl3 5 d s fun e s =>
 (fun (f : LO → Prop) => fl 0 a s fun i s =>
 bP .eql i (iN 0) s fun j s =>
 zx j (f s) (bP .eql i (iN 1) s fun l s =>
 zx l (fl 1 a s fun m s =>
 zf 1 e s fun n s =>
 zm 1 n m s fun _ s =>
 f s) (bP .eql i (iN 2) s fun p s =>
 zx p (fl 1 a s fun q s =>
 zf 4 a s fun r s =>
 zl false 1 r s fun u s =>
 zf 1 e s fun w s =>
 zm 1 w q s fun _ t =>
 zT r s t ∧ (zf 4 e t fun z s =>
 zm 1 z u s fun _ s =>
 f s)) (bP .eql i (iN 3) s fun B s =>
 zx B (fl 1 a s fun C s =>
 zf 2 a s fun D s =>
 zl false 1 D s fun E s =>
 zf 3 a s fun F s =>
 zl false 1 F s fun G s =>
 zf 1 e s fun H s =>
 zm 1 H C s fun _ t =>
 zT D s t ∧ (zT F s t ∧ (zf 2 e t fun J s =>
 zm 1 J E s fun _ t =>
 zT F s t ∧ (zf 3 e t fun L s =>
 zm 1 L G s fun _ s =>
 f s)))) (bP .eql i (iN 4) s fun N s =>
 zx N (fl 1 a s fun O s =>
 zf 3 a s fun Q s =>
 zl false 1 Q s fun R s =>
 zf 1 e s fun S s =>
 zm 1 S O s fun _ t =>
 zT Q s t ∧ (zf 3 e t fun U s =>
 zm 1 U R s fun _ s =>
 f s)) (zl true 5 e s fun W s =>
 zm 5 b W s fun _ s =>
 Z (zJ (zar b s true 5) (zJ (some bF) (some []))) s))))))
 (fun  s => zl true 5 e s fun g s =>
 zm 5 b g s fun _ s =>
 Z (zJ (zar b s true 5) (zJ (some bT) (some []))) s)
theorem e_op_only : F1 Tryz.prog zlN S_op_only := zh [.d [(0, 8)] [(5, [22])], .d [(0, 12)] [(7, [30, 32]), (9, [32])], .d [(0, 8)] [(5, [41])]] Tryz.func132
def zkR (P : Program) (x0 : AV) (σ : LO) (Z : ZT) : Prop :=
 zaE .sl x0 σ fun a s =>
 bP .gtr a (iN 64) s fun b s =>
 z1 Z b s
theorem e_op_Check_1 : F1 Tryz.prog zfn zkR := zh [] Tryz.func133
def S_op_Name (P : Program) (x0 : AV) (σ : LO) (Z : ZT) : Prop :=
 cA P zjA [x0] σ fun a s =>
 bP .gtr a (iN 0) s fun b s =>
 z1 Z b s
theorem e_op_Name : F1 Tryz.prog ziO S_op_Name := zh [] Tryz.func134
def zaM (P : Program) (x0 x1 : AV) (σ : LO) (Z : ZT) : Prop :=
 cA P zba [x0, x1] σ fun a s =>
 bP .geq a (iN 0) s fun b s =>
 z1 Z b s
theorem zcf : F2 Tryz.prog zat zaM := zh [] Tryz.func135
def znJ (P : Program) (x0 : AV) (σ : LO) (Z : ZT) : Prop :=
 cA P zik [x0] σ fun a s =>
 bP .gtr a (iN 0) s fun b s =>
 z1 Z b s
theorem e_r06_Name : F1 Tryz.prog zhC znJ := zh [] Tryz.func136
def znL (P : Program) (x0 : AV) (σ : LO) (Z : ZT) : Prop :=
 zad x0 σ fun a s =>
 zbQ [(iN 0)] s fun v s b =>
 zbt v fun c v => ziN a s fun d s =>
 zc d 0 s fun e s =>
 zx e (zc d 2 s fun f s =>
 bP .lss f (.d (.int .i32 33)) s fun g s =>
 gFm g f s fun h s =>
 gF g (bP .geq h (.d (.int .i32 127)) s) s fun i s =>
 gFm g i s fun j s =>
 gTm j f s fun l s =>
 gT j (bP .leq l (.d (.int .i32 159)) s) s fun m s =>
 gF g (anC j m s) s fun n s =>
 orC g n s fun o s =>
 gFm o f s fun p s =>
 gF o (bP .eql p (.d (.int .i32 47)) s) s fun q s =>
 orC o q s fun r s =>
 gFm r f s fun u s =>
 gF r (bP .eql u (.d (.int .i32 65533)) s) s fun w s =>
 orC r w s fun y s =>
 zx y (z1 Z (iN 0) s) (bP .add c (iN 1) s fun z s =>
 b [z] s)) (bP .gtr c (iN 16) s fun A s =>
 zx A (z1 Z (iN 0) s) (z1 Z c s))
theorem e_op_Runes : F1 Tryz.prog zjA znL := zh [.l [3] [(2, 1), (5, 1), (8, 23)]] Tryz.func143
def zbb (P : Program) (x0 x1 : AV) (σ : LO) (Z : ZT) : Prop :=
 zaE .sl x0 σ fun a s =>
 zbQ [(iN 0)] s fun v s b =>
 zbt v fun c v => bP .lss c a s fun d s =>
 zx d (il false 1 1 x0 c s fun e s =>
 zal P x1 [dm e] s fun f s =>
 zx f (z1 Z c s) (bP .add c (iN 1) s fun g s =>
 b [g] s)) (z1 Z (iN (-1)) s)
theorem zcp : F2 Tryz.prog zba zbb := zh [.l [8] [(4, 2), (9, 10)]] Tryz.func144
def zmA (P : Program) (x0 : AV) (σ : LO) (Z : ZT) : Prop :=
 zbQ [x0, (iN 0)] σ fun v s a =>
 zbt v fun b v => zbt v fun c v => zaE .str b s fun d s =>
 bP .gtr d (iN 0) s fun e s =>
 zx e (cA P zij [b] s fun f s =>
 zc f 0 s fun g s =>
 zc f 1 s fun h s =>
 bP .eql h (iN 0) s fun i s =>
 gFm i g s fun j s =>
 gF i (bP .lss j (iN 33) s) s fun l s =>
 orC i l s fun m s =>
 gFm m g s fun n s =>
 gF m (bP .geq n (iN 127) s) s fun o s =>
 gFm m o s fun p s =>
 gTm p g s fun q s =>
 gT p (bP .lss q (iN 160) s) s fun r s =>
 gF m (anC p r s) s fun u s =>
 orC m u s fun w s =>
 gFm w g s fun y s =>
 gF w (bP .eql y (iN 47) s) s fun z s =>
 orC w z s fun A s =>
 gFm A g s fun B s =>
 gF A (bP .eql B (iN 65533) s) s fun C s =>
 orC A C s fun D s =>
 gFm D c s fun E s =>
 gF D (bP .geq E (iN 16) s) s fun F s =>
 orC D F s fun G s =>
 zx G (z1 Z (iN 0) s) (bP .add c (iN 1) s fun H s =>
 zco .str b (some h) none none s fun I s =>
 a [I, H] s)) (z1 Z c s)
theorem e_r06_Runes : F1 Tryz.prog zik zmA := zh [.l [0, 3] [(2, 1), (4, 41)]] Tryz.func145
def zmz (P : Program) (x0 : AV) (σ : LO) (Z : ZT) : Prop :=
 zay x0 (iN 0) σ fun a s =>
 cA P zjy [a] s fun b s =>
 bP .eql b (iN 0) s fun c s =>
 gFm c b s fun d s =>
 gFm c x0 s fun e s =>
 gF c (zaE .str e s) s fun f s =>
 gF c (bP .gtr d f s) s fun g s =>
 orC c g s fun h s =>
 zx h (z2 Z (iN 0) (iN 0) s) (bP .eql b (iN 1) s fun i s =>
 zx i (zay x0 (iN 0) s fun j s =>
 zZ (.int .i64) j s fun l s =>
 z2 Z l (iN 1) s) (zay x0 (iN 0) s fun m s =>
 zZ (.int .i64) m s fun n s =>
 bP .sub (iN 7) b s fun o s =>
 bP .shl (iN 1) o s fun p s =>
 bP .sub p (iN 1) s fun q s =>
 bP .and n q s fun r s =>
 zbQ [r, (iN 1)] s fun v s u =>
 zbt v fun w v => zbt v fun y v => bP .lss y b s fun z s =>
 zx z (zay x0 y s fun A s =>
 bP .lss A (.d (.int .u8 128)) s fun B s =>
 gFm B x0 s fun C s =>
 gFm B y s fun D s =>
 gF B (zay C D s) s fun E s =>
 gF B (bP .geq E (.d (.int .u8 192)) s) s fun F s =>
 orC B F s fun G s =>
 zx G (z2 Z (iN 0) (iN 0) s) (bP .mul w (iN 64) s fun H s =>
 zay x0 y s fun I s =>
 zZ (.int .i64) I s fun J s =>
 bP .rem J (iN 64) s fun K s =>
 bP .add H K s fun L s =>
 bP .add y (iN 1) s fun M s =>
 u [L, M] s)) (zi false 1 5 (zac (rep [iN 0] 5) [(0, 1, (iN 0)), (1, 1, (iN 0)), (2, 1, (iN 128)), (3, 1, (iN 2048)), (4, 1, (iN 65536))]) s fun N s =>
 il false 1 1 N b s fun O s =>
 bP .lss w O s fun Q s =>
 gFm Q w s fun R s =>
 gF Q (bP .gtr R (iN 1114111) s) s fun S s =>
 orC Q S s fun T s =>
 gFm T w s fun U s =>
 gF T (bP .geq U (iN 55296) s) s fun V s =>
 gFm T V s fun W s =>
 gTm W w s fun X s =>
 gT W (bP .lss X (iN 57344) s) s fun Y s =>
 gF T (anC W Y s) s fun a0 s =>
 orC T a0 s fun b0 s =>
 zx b0 (z2 Z (iN 0) (iN 0) s) (z2 Z w b s))))
theorem e_r06_rune1 : F1 Tryz.prog zij zmz := zh [.d [(0, 9)] [], .l [5, 6] [(2, 2), (32, 23)]] Tryz.func147
def znI (P : Program) (x0 : AV) (σ : LO) (Z : ZT) : Prop :=
 bP .lss x0 (.d (.int .u8 128)) σ fun a s =>
 zx a (z1 Z (iN 1) s) (bP .geq x0 (.d (.int .u8 194)) s fun b s =>
 gTm b x0 s fun c s =>
 gT b (bP .lss c (.d (.int .u8 224)) s) s fun d s =>
 anC b d s fun e s =>
 zx e (z1 Z (iN 2) s) (bP .geq x0 (.d (.int .u8 224)) s fun f s =>
 gTm f x0 s fun g s =>
 gT f (bP .lss g (.d (.int .u8 240)) s) s fun h s =>
 anC f h s fun i s =>
 zx i (z1 Z (iN 3) s) (bP .geq x0 (.d (.int .u8 240)) s fun j s =>
 gTm j x0 s fun l s =>
 gT j (bP .lss l (.d (.int .u8 245)) s) s fun m s =>
 anC j m s fun n s =>
 zx n (z1 Z (iN 4) s) (z1 Z (iN 0) s))))
theorem e_r06_size : F1 Tryz.prog zjy znI := zh [] Tryz.func148
end Go.Proofs.YtjjchfbckfopkaaGreat
