/- The conditions of each function, its slots as variables, and that the logic's conditions are these. Printed by program. -/
import Derived.Test.YtaocmalhjfakdaaNm
import Derived.KernelRfl
set_option linter.all false
set_option maxRecDepth 100000
set_option linter.unusedVariables false
namespace Go.Proofs.Ytaocmalhjfakdaa
open Go.AW
def zao (P : Program) (x0 x1 : AV) (σ : LO) (Z : ZT) : Prop :=
 cA P zaz [x0, x1] σ fun a s =>
 bP .geq a (iN 0) s fun b s =>
 z1 Z b s
theorem zbm : F2 Try.prog zO zao := zG [] Try.func93
def zaJ (P : Program) (x0 : AV) (σ : LO) (Z : ZT) : Prop :=
 zan false x0 σ fun a s =>
 zJ a (z1 Z eN s) (zn false 1 0 (zT (rep [eN] 0) []) s fun b s =>
 zC 1 24 b x0 s fun c s =>
 z1 Z c s)
theorem zaI : F1 Try.prog zaf zaJ := zG [] Try.func94
def zka (P : Program) (x0 : AV) (σ : LO) (Z : ZT) : Prop :=
 zak x0 σ fun a s =>
 zeD [(iN 0)] s fun v s b =>
 zdW v fun c v => zgn a s fun d s =>
 zd d 0 s fun e s =>
 zJ e (zd d 2 s fun f s =>
 bP .lss f (.d (.int .i32 33)) s fun g s =>
 gFm g f s fun h s =>
 gF g (bP .geq h (.d (.int .i32 127)) s) s fun i s =>
 gFm g i s fun j s =>
 gTm j f s fun l s =>
 gT j (bP .leq l (.d (.int .i32 159)) s) s fun m s =>
 gF g (anC j m s) s fun n s =>
 orC g n s fun o s =>
 gFm o f s fun p s =>
 gF o (bP .eql p (.d (.int .i32 47)) s) s fun q s =>
 orC o q s fun r s =>
 gFm r f s fun u s =>
 gF r (bP .eql u (.d (.int .i32 65533)) s) s fun w s =>
 orC r w s fun y s =>
 zJ y (z1 Z (iN 0) s) (bP .add c (iN 1) s fun z s =>
 b [z] s)) (bP .gtr c (iN 16) s fun A s =>
 zJ A (z1 Z (iN 0) s) (z1 Z c s))
theorem e_op_Runes : F1 Try.prog zgP zka := zG [.l [3] [(2, 1), (5, 1), (8, 23)]] Try.func102
def zK (P : Program) (x0 x1 x2 : AV) (σ : LO) (Z : ZT) : Prop :=
 zbd .sl x0 σ fun a s =>
 zbd .sl x1 s fun b s =>
 bP .neq a b s fun c s =>
 zJ c (z1 Z bF s) (zbd .sl x0 s fun d s =>
 zeD [(iN 0)] s fun v s e =>
 zdW v fun f v => bP .lss f d s fun g s =>
 zJ g (il false 1 1 x0 f s fun h s =>
 il false 1 1 x1 f s fun i s =>
 zaF P x2 [dm h, dm i] s fun j s =>
 unC .not j s fun l s =>
 zJ l (z1 Z bF s) (bP .add f (iN 1) s fun m s =>
 e [m] s)) (z1 Z bT s))
theorem zaq : F3 Try.prog zp zK := zG [.l [17] [(6, 4), (18, 14)]] Try.func103
def zje (P : Program) (x0 x1 : AV) (σ : LO) (Z : ZT) : Prop :=
 cA P zbI [x0, x1] σ fun a s =>
 z1 Z a s
theorem e_op_Same_1 : F2 Try.prog zeB zje := zG [] Try.func104
def zaA (P : Program) (x0 x1 : AV) (σ : LO) (Z : ZT) : Prop :=
 zbd .sl x0 σ fun a s =>
 zeD [(iN 0)] s fun v s b =>
 zdW v fun c v => bP .lss c a s fun d s =>
 zJ d (il false 1 1 x0 c s fun e s =>
 zaF P x1 [dm e] s fun f s =>
 zJ f (z1 Z c s) (bP .add c (iN 1) s fun g s =>
 b [g] s)) (z1 Z (iN (-1)) s)
theorem zbz : F2 Try.prog zaz zaA := zG [.l [8] [(4, 2), (9, 10)]] Try.func105
end Go.Proofs.Ytaocmalhjfakdaa
