/- The conditions of each function, its slots as variables, and that the logic's conditions are these. Printed by program. -/
import Derived.Test.YtncpaekiidpchaaGreatNm
import Derived.KernelRfl
set_option linter.all false
set_option maxRecDepth 100000
namespace Go.Proofs.YtncpaekiidpchaaGreat
open Go.AW
def zkh (P : Program) (x0 x1 : AV) (σ : LO) (Z : ZT) : Prop :=
 zap .sl x1 σ fun a s =>
 zab (.int .u64) a s fun b s =>
 cA P zci [x0,b] s fun c s =>
 zt 1 1 c x1 s fun d s =>
 z1 Z d s
theorem zjU : F2 Tryz.prog zeu zkh := zo [] Tryz.func94 (by decide +kernel) (by kernel_rfl) fun {_ _ _ _ _} => cast (by kernel_rfl)
def zlm (P : Program) (x0 x1 : AV) (σ : LO) (Z : ZT) : Prop :=
 bP .lss x0 (iN 0) σ fun a s =>
 gFm a x0 s fun b s =>
 gFm a x1 s fun c s =>
 gF a (bP .geq b c s) s fun d s =>
 orC a d s fun e s =>
 zy e (z1 Z (iN 0) s) (zbf [x0,x1,(iN 0)] s fun v s f =>
 zaA v fun g v => zaA v fun h v => zaA v fun i v => bP .gtr h (iN 1) s fun j s =>
 zy j (cA P zdB [h] s fun l s =>
 (fun (m : AV → AV → LO → Prop) => bP .lss g l s fun q s =>
 zy q (m g l s) (bP .sub g l s fun r s =>
 bP .sub h l s fun u s =>
 m r u s))
 (fun n o s => bP .add i (iN 1) s fun p s =>
 f [n,o,p] s)) (z1 Z i s))
theorem zkU : F2 Tryz.prog zhd zlm := zo [.l [0, 1, 5] [(6, 1),(14, 16)]] Tryz.func95 (by decide +kernel) (by kernel_rfl) fun {_ _ _ _ _} => cast (by kernel_rfl)
def zjc (P : Program) (x0 x1 x2 x3 x4 x5 : AV) (σ : LO) (Z : ZT) : Prop :=
 bP .eql x1 (iN 1) σ fun a s =>
 zy a (zp false 1 x3 s fun b s =>
 zp false 1 x4 s fun c s =>
 cA P zgH [c] s fun d t =>
 zU x3 s t ∧ (cA P zbc [b,d] t fun e s =>
 ze e 0 s fun f s =>
 ze e 1 s fun g s =>
 z2 Z f g s)) (zap .sl x2 s fun h s =>
 bP .sub h (iN 1) s fun i s =>
 cA P zdB [x1] s fun j s =>
 bP .lss x0 j s fun l s =>
 zy l (zp false 1 x5 s fun m s =>
 zbp (.sl 1) x2 none (some i) none s fun n s =>
 zaa P m [dm x0,dm j,dm n] s fun o s =>
 ze o 0 s fun p s =>
 ze o 1 s fun q s =>
 unC .not q s fun r s =>
 zy r (z2 Z (iN 0) bF s) (zp false 1 x3 s fun u s =>
 il false 1 1 x2 i s fun w s =>
 cA P zfa [p,w] s fun y t =>
 zU x3 s t ∧ (cA P zbc [u,y] t fun z s =>
 ze z 0 s fun A s =>
 ze z 1 s fun B s =>
 z2 Z A B s))) (zp false 1 x5 s fun C s =>
 bP .sub x0 j s fun D s =>
 bP .sub x1 j s fun E s =>
 zbp (.sl 1) x2 none (some i) none s fun F s =>
 zaa P C [dm D,dm E,dm F] s fun G s =>
 ze G 0 s fun H s =>
 ze G 1 s fun I s =>
 unC .not I s fun J s =>
 zy J (z2 Z (iN 0) bF s) (zp false 1 x3 s fun K s =>
 il false 1 1 x2 i s fun L s =>
 cA P zfa [L,H] s fun M t =>
 zU x3 s t ∧ (cA P zbc [K,M] t fun N s =>
 ze N 0 s fun O s =>
 ze N 1 s fun Q s =>
 z2 Z O Q s))))
theorem ziM : F6 Tryz.prog zdc zjc := zo [.d [(0, 8)] [(2, [3])], .d [(0, 12)] [], .d [(0, 12)] [(6, [3])], .d [(0, 16)] [], .d [(0, 12)] [(6, [3])]] Tryz.func96 (by decide +kernel) (by kernel_rfl) fun {_ _ _ _ _ _ _ _ _} => cast (by kernel_rfl)
def zob (P : Program) (x0 : AV) (σ : LO) (Z : ZT) : Prop :=
 m1 1 [(.d (.int .u8 0))] (.d (.int .u8 0)) σ fun a s =>
 zt 1 1 a x0 s fun b s =>
 z1 Z b s
theorem znA : F1 Tryz.prog zgH zob := zo [] Tryz.func97 (by decide +kernel) (by kernel_rfl) fun {_ _ _ _} => cast (by kernel_rfl)
def zmt (P : Program) (x0 : AV) (σ : LO) (Z : ZT) : Prop :=
 bP .lss x0 (iN 2) σ fun a s =>
 zy a (z1 Z (iN 0) s) (zbf [(iN 1)] s fun v s b =>
 zaA v fun c v => bP .sub x0 c s fun d s =>
 bP .lss c d s fun e s =>
 zy e (bP .mul c (iN 2) s fun f s =>
 b [f] s) (z1 Z c s))
theorem zmf : F1 Tryz.prog zdB zmt := zo [.l [3] [(6, 7)]] Tryz.func98 (by decide +kernel) (by kernel_rfl) fun {_ _ _ _} => cast (by kernel_rfl)
def zoa (P : Program) (x0 x1 : AV) (σ : LO) (Z : ZT) : Prop :=
 m1 1 [(.d (.int .u8 0))] (.d (.int .u8 1)) σ fun a s =>
 zbL [(iN 0),x0] s fun b s =>
 zab (.int .u64) b s fun c s =>
 cA P zci [a,c] s fun d s =>
 zbL [(iN 0),x1] s fun e s =>
 zab (.int .u64) e s fun f s =>
 cA P zci [d,f] s fun g s =>
 z1 Z g s
theorem znz : F2 Tryz.prog zfa zoa := zo [] Tryz.func99 (by decide +kernel) (by kernel_rfl) fun {_ _ _ _ _} => cast (by kernel_rfl)
def zpO (P : Program) (x0 x1 : AV) (σ : LO) (Z : ZT) : Prop :=
 zt 1 1 eN x0 σ fun a s =>
 zbf [x1,a] s fun v s b =>
 zaA v fun c v => zaA v fun d v => bP .geq c (.d (.int .u64 128)) s fun e s =>
 zy e (bP .rem c (.d (.int .u64 128)) s fun f s =>
 zab (.int .u8) f s fun g s =>
 bP .add g (.d (.int .u8 128)) s fun h s =>
 m1 1 [(.d (.int .u8 0))] h s fun i s =>
 zt 1 1 d i s fun j s =>
 bP .quo c (.d (.int .u64 128)) s fun l s =>
 b [l,j] s) (zab (.int .u8) c s fun m s =>
 m1 1 [(.d (.int .u8 0))] m s fun n s =>
 zt 1 1 d n s fun o s =>
 z1 Z o s)
theorem zpA : F2 Tryz.prog zaY zpO := zo [.l [1, 5] [(9, 11)]] Tryz.func106 (by decide +kernel) (by kernel_rfl) fun {_ _ _ _ _} => cast (by kernel_rfl)
def zub (P : Program) (x0 x1 : AV) (σ : LO) (Z : ZT) : Prop :=
 zab .toStr x0 σ fun a s =>
 zab .toStr x1 s fun b s =>
 bP .eql a b s fun c s =>
 z1 Z c s
theorem zto : F2 Tryz.prog zoJ zub := zo [] Tryz.func107 (by decide +kernel) (by kernel_rfl) fun {_ _ _ _ _} => cast (by kernel_rfl)
def zmo (P : Program) (x0 x1 : AV) (σ : LO) (Z : ZT) : Prop :=
 zap .sl x1 σ fun a s =>
 zab (.int .u64) a s fun b s =>
 cA P zaY [x0,b] s fun c s =>
 zt 1 1 c x1 s fun d s =>
 z1 Z d s
theorem zma : F2 Tryz.prog zbj zmo := zo [] Tryz.func110 (by decide +kernel) (by kernel_rfl) fun {_ _ _ _ _} => cast (by kernel_rfl)
def S_r07_put (P : Program) (x0 x1 : AV) (σ : LO) (Z : ZT) : Prop :=
 zab (.int .u64) x1 σ fun a s =>
 cA P zaY [x0,a] s fun b s =>
 z1 Z b s
theorem e_r07_put : F2 Tryz.prog zdJ S_r07_put := zo [] Tryz.func111 (by decide +kernel) (by kernel_rfl) fun {_ _ _ _ _} => cast (by kernel_rfl)
def zkd (P : Program) (x0 x1 x2 x3 x4 : AV) (σ : LO) (Z : ZT) : Prop :=
 zap .sl x1 σ fun a s =>
 bP .eql a (iN 1) s fun b s =>
 zy b (Z (some []) s) (zap .sl x1 s fun c s =>
 cA P zdB [c] s fun d s =>
 bP .lss x0 d s fun e s =>
 zy e (zp false 1 x2 s fun f s =>
 zbp (.sl 1) x1 none (some d) none s fun g s =>
 zaa P f [dm x0,dm g] s fun _ s =>
 zp false 1 x3 s fun i s =>
 zp false 1 x4 s fun j s =>
 zbp (.sl 1) x1 (some d) none none s fun l s =>
 cA P zdq [j,l] s fun m t =>
 zU x3 s t ∧ (m1 1 [iN 0] m t fun n s =>
 zt 1 8 i n s fun o s =>
 zm 1 x3 o s fun _ s =>
 Z (some []) s)) (zp false 1 x2 s fun q s =>
 bP .sub x0 d s fun r s =>
 zbp (.sl 1) x1 (some d) none none s fun u s =>
 zaa P q [dm r,dm u] s fun _ s =>
 zp false 1 x3 s fun y s =>
 zp false 1 x4 s fun z s =>
 zbp (.sl 1) x1 none (some d) none s fun A s =>
 cA P zdq [z,A] s fun B t =>
 zU x3 s t ∧ (m1 1 [iN 0] B t fun C s =>
 zt 1 8 y C s fun D s =>
 zm 1 x3 D s fun _ s =>
 Z (some []) s)))
theorem zjQ : F5 Tryz.prog zcA zkd := zo [.d [(0, 6)] [], .d [(0, 9)] [(5, [3])], .d [(0, 8)] [], .d [(0, 9)] [(5, [3])]] Tryz.func114 (by decide +kernel) (by kernel_rfl) fun {_ _ _ _ _ _ _ _} => cast (by kernel_rfl)
def zfh (P : Program) (x0 x1 : AV) (σ : LO) (Z : ZT) : Prop :=
 zap .sl x1 σ fun a s =>
 bP .eql a (iN 0) s fun b s =>
 zy b (m1 1 [(.d (.int .u8 0))] (.d (.int .u8 2)) s fun c s =>
 cA P zbJ [x0,c] s fun d s =>
 z1 Z d s) (bP .eql a (iN 1) s fun e s =>
 zy e (il false 1 1 x1 (iN 0) s fun f s =>
 cA P zjA [x0,f] s fun g s =>
 z1 Z g s) (zap .sl x1 s fun h s =>
 cA P zdB [h] s fun i s =>
 zbp (.sl 1) x1 none (some i) none s fun j s =>
 cA P zdq [x0,j] s fun l s =>
 zbp (.sl 1) x1 (some i) none none s fun m s =>
 cA P zdq [x0,m] s fun n s =>
 cA P zjz [x0,l,n] s fun o s =>
 z1 Z o s))
theorem zcD : F2 Tryz.prog zdq zfh := zo [] Tryz.func115 (by decide +kernel) (by kernel_rfl) fun {_ _ _ _ _} => cast (by kernel_rfl)
def ztT (P : Program) (x0 x1 : AV) (σ : LO) (Z : ZT) : Prop :=
 zap .sl x0 σ fun a s =>
 zap .sl x1 s fun b s =>
 bP .neq a b s fun c s =>
 zy c (z1 Z bF s) (zbf [(iN 0)] s fun v s d =>
 zaA v fun e v => zap .sl x0 s fun f s =>
 bP .lss e f s fun g s =>
 zy g (zB none 9 x0 e s fun h s =>
 zi 7 h s fun i s =>
 zp true 2 i s fun j s =>
 zB none 9 x1 e s fun l s =>
 zi 7 l s fun m s =>
 zp true 2 m s fun n s =>
 zbI .neq (.ints 2) j n s fun o s =>
 gFm o x0 s fun p s =>
 gFm o e s fun q s =>
 gF o (zB none 9 p q s) s fun r s =>
 gF o (zi 0 r s) s fun u s =>
 gF o (zp true 7 u s) s fun w s =>
 gFm o x1 s fun y s =>
 gFm o e s fun z s =>
 gF o (zB none 9 y z s) s fun A s =>
 gF o (zi 0 A s) s fun B s =>
 gF o (zp true 7 B s) s fun C s =>
 gF o (cA P zfv [w,C] s) s fun D s =>
 gF o (unC .not D s) s fun E s =>
 orC o E s fun F s =>
 zy F (z1 Z bF s) (bP .add e (iN 1) s fun G s =>
 d [G] s)) (z1 Z bT s))
theorem ztg : F2 Tryz.prog zlA ztT := zo [.l [5] [(4, 1),(11, 31)], .d [(0, 25)] []] Tryz.func116 (by decide +kernel) (by kernel_rfl) fun {_ _ _ _ _} => cast (by kernel_rfl)
def zmm (P : Program) (x0 x1 : AV) (σ : LO) (Z : ZT) : Prop :=
 zaX x0 σ fun a s =>
 zaX x1 s fun b s =>
 fl 0 a s fun c s =>
 fl 0 b s fun d s =>
 bP .eql c d s fun e s =>
 gTl e 1 a s fun f s =>
 gTl e 1 b s fun g s =>
 gT e (bP .eql f g s) s fun h s =>
 anC e h s fun i s =>
 gTl i 2 a s fun j s =>
 gTl i 2 b s fun l s =>
 gT i (cA P zgX [j,l] s) s fun m s =>
 anC i m s fun n s =>
 z1 Z n s
theorem zlY : F2 Tryz.prog zfH zmm := zo [] Tryz.func117 (by decide +kernel) (by kernel_rfl) fun {_ _ _ _ _} => cast (by kernel_rfl)
def ziW (P : Program) (x0 x1 : AV) (σ : LO) (Z : ZT) : Prop :=
 zap .sl x0 σ fun a s =>
 zap .sl x1 s fun b s =>
 bP .neq a b s fun c s =>
 zy c (z1 Z bF s) (zbf [(iN 0)] s fun v s d =>
 zaA v fun e v => zap .sl x0 s fun f s =>
 bP .lss e f s fun g s =>
 zy g (zB none 5 x0 e s fun h s =>
 fl 0 h s fun i s =>
 zB none 5 x1 e s fun j s =>
 fl 0 j s fun l s =>
 bP .neq i l s fun m s =>
 gFm m x0 s fun n s =>
 gFm m e s fun o s =>
 gF m (zB none 5 n o s) s fun p s =>
 gFl m 1 p s fun q s =>
 gFm m x1 s fun r s =>
 gFm m e s fun u s =>
 gF m (zB none 5 r u s) s fun w s =>
 gFl m 1 w s fun y s =>
 gF m (bP .neq q y s) s fun z s =>
 orC m z s fun A s =>
 gFm A x0 s fun B s =>
 gFm A e s fun C s =>
 gF A (zB none 5 B C s) s fun D s =>
 gF A (zi 3 D s) s fun E s =>
 gF A (zp true 2 E s) s fun F s =>
 gFm A x1 s fun G s =>
 gFm A e s fun H s =>
 gF A (zB none 5 G H s) s fun I s =>
 gF A (zi 3 I s) s fun J s =>
 gF A (zp true 2 J s) s fun K s =>
 gF A (zbI .neq (.ints 2) F K s) s fun L s =>
 orC A L s fun M s =>
 gFm M x0 s fun N s =>
 gFm M e s fun O s =>
 gF M (zB none 5 N O s) s fun Q s =>
 gFl M 2 Q s fun R s =>
 gFm M x1 s fun S s =>
 gFm M e s fun T s =>
 gF M (zB none 5 S T s) s fun U s =>
 gFl M 2 U s fun V s =>
 gF M (cA P zlA [R,V] s) s fun W s =>
 gF M (unC .not W s) s fun X s =>
 orC M X s fun Y s =>
 zy Y (z1 Z bF s) (bP .add e (iN 1) s fun a0 s =>
 d [a0] s)) (z1 Z bT s))
theorem ziH : F2 Tryz.prog zfu ziW := zo [.l [5] [(4, 1),(11, 57)], .d [(0, 51)] []] Tryz.func118 (by decide +kernel) (by kernel_rfl) fun {_ _ _ _ _} => cast (by kernel_rfl)
def zlf (P : Program) (x0 x1 : AV) (σ : LO) (Z : ZT) : Prop :=
 zaX x0 σ fun a s =>
 zaX x1 s fun b s =>
 fl 0 a s fun c s =>
 fl 0 b s fun d s =>
 bP .neq c d s fun e s =>
 gFl e 1 a s fun f s =>
 gFl e 1 b s fun g s =>
 gF e (bP .neq f g s) s fun h s =>
 orC e h s fun i s =>
 gFl i 2 a s fun j s =>
 gF i (zab .toStr j s) s fun l s =>
 gFl i 2 b s fun m s =>
 gF i (zab .toStr m s) s fun n s =>
 gF i (bP .neq l n s) s fun o s =>
 orC i o s fun p s =>
 gFl p 4 a s fun q s =>
 gFl p 4 b s fun r s =>
 gF p (bP .neq q r s) s fun u s =>
 orC p u s fun w s =>
 gFl w 5 a s fun y s =>
 gFl w 5 b s fun z s =>
 gF w (bP .neq y z s) s fun A s =>
 orC w A s fun B s =>
 gF B (zi 7 a s) s fun C s =>
 gF B (zp true 3 C s) s fun D s =>
 gF B (zi 7 b s) s fun E s =>
 gF B (zp true 3 E s) s fun F s =>
 gF B (cA P zfH [D,F] s) s fun G s =>
 gF B (unC .not G s) s fun H s =>
 orC B H s fun I s =>
 gFl I 3 a s fun J s =>
 gF I (zap .sl J s) s fun K s =>
 gFl I 3 b s fun L s =>
 gF I (zap .sl L s) s fun M s =>
 gF I (bP .neq K M s) s fun N s =>
 orC I N s fun O s =>
 gFl O 6 a s fun Q s =>
 gF O (zap .sl Q s) s fun R s =>
 gFl O 6 b s fun S s =>
 gF O (zap .sl S s) s fun T s =>
 gF O (bP .neq R T s) s fun U s =>
 orC O U s fun V s =>
 zy V (z1 Z bF s) (zbf [(iN 0)] s fun v s W =>
 zaA v fun X v => fl 3 a s fun Y s =>
 zap .sl Y s fun a0 s =>
 bP .lss X a0 s fun b0 s =>
 zy b0 (fl 3 a s fun c0 s =>
 il true 5 5 c0 X s fun d0 s =>
 fl 3 b s fun e0 s =>
 il true 5 5 e0 X s fun f0 s =>
 zbI .neq (.ints 5) d0 f0 s fun g0 s =>
 zy g0 (z1 Z bF s) (bP .add X (iN 1) s fun h0 s =>
 W [h0] s)) (zbf [(iN 0)] s fun v s i0 =>
 zaA v fun j0 v => fl 6 a s fun l0 s =>
 zap .sl l0 s fun m0 s =>
 bP .lss j0 m0 s fun o0 s =>
 zy o0 (fl 6 a s fun p0 s =>
 il false 1 1 p0 j0 s fun q0 s =>
 fl 6 b s fun r0 s =>
 il false 1 1 r0 j0 s fun u0 s =>
 bP .neq q0 u0 s fun w0 s =>
 zy w0 (z1 Z bF s) (bP .add j0 (iN 1) s fun y0 s =>
 i0 [y0] s)) (z1 Z bT s)))
theorem zkN : F2 Tryz.prog zgY zlf := zo [.l [5] [(4, 1),(68, 18)], .d [(0, 11)] [], .l [6] [(4, 1),(86, 18)], .d [(0, 11)] []] Tryz.func119 (by decide +kernel) (by kernel_rfl) fun {_ _ _ _ _} => cast (by kernel_rfl)
def zua (P : Program) (x0 x1 : AV) (σ : LO) (Z : ZT) : Prop :=
 cA P zoG [x1] σ fun a s =>
 cA P zbr [x0,a] s fun b s =>
 z1 Z b s
theorem ztn : F2 Tryz.prog zoI zua := zo [] Tryz.func121 (by decide +kernel) (by kernel_rfl) fun {_ _ _ _ _} => cast (by kernel_rfl)
def ztZ (P : Program) (x0 x1 x2 : AV) (σ : LO) (Z : ZT) : Prop :=
 cA P zoF [x1,x2] σ fun a s =>
 cA P zbr [x0,a] s fun b s =>
 z1 Z b s
theorem ztm : F3 Tryz.prog zoH ztZ := zo [] Tryz.func122 (by decide +kernel) (by kernel_rfl) fun {_ _ _ _ _ _} => cast (by kernel_rfl)
def zhZ (P : Program) (x0 : AV) (σ : LO) (Z : ZT) : Prop :=
 nfl 0 x0 σ fun a s =>
 zap .sl a s fun b s =>
 cA P zdJ [eN,b] s fun c s =>
 zbf [c,(iN 0)] s fun v s d =>
 zaA v fun e v => zaA v fun f v => nfl 0 x0 s fun g s =>
 zap .sl g s fun h s =>
 bP .lss f h s fun i s =>
 zy i (nfl 0 x0 s fun j s =>
 il true 4 4 j f s fun l s =>
 cp [(.d (.str [])),iN 0,eN,eN] 4 l s fun m s =>
 fl 0 m s fun n s =>
 zab .toBytes n s fun o s =>
 zi 1 m s fun p s =>
 zp false 1 p s fun q s =>
 cA P zbj [e,o] s fun r t =>
 zU p s t ∧ (cA P zdJ [r,q] t fun u s =>
 fl 2 m s fun w s =>
 zap .sl w s fun y s =>
 cA P zdJ [u,y] s fun z s =>
 zbf [z,(iN 0)] s fun v s A =>
 zaA v fun B v => zaA v fun C v => fl 2 m s fun D s =>
 zap .sl D s fun E s =>
 bP .lss C E s fun F s =>
 zy F (fl 2 m s fun G s =>
 il false 1 1 G C s fun H s =>
 cA P zbj [B,H] s fun I s =>
 bP .add C (iN 1) s fun J s =>
 A [I,J] s) (fl 3 m s fun K s =>
 zap .sl K s fun L s =>
 cA P zdJ [B,L] s fun M s =>
 zbf [M,(iN 0)] s fun v s N =>
 zaA v fun O v => zaA v fun Q v => fl 3 m s fun R s =>
 zap .sl R s fun S s =>
 bP .lss Q S s fun T s =>
 zy T (fl 3 m s fun U s =>
 zB none 2 U Q s fun V s =>
 fl 0 V s fun W s =>
 zab .toBytes W s fun X s =>
 zi 3 m s fun Y s =>
 zp false 1 Y s fun a0 s =>
 zB none 2 a0 Q s fun b0 s =>
 zi 1 b0 s fun c0 s =>
 zp false 1 c0 s fun d0 s =>
 cA P zbj [O,X] s fun e0 t =>
 zU Y s t ∧ (zU c0 s t ∧ (cA P zdJ [e0,d0] t fun f0 s =>
 bP .add Q (iN 1) s fun g0 s =>
 N [f0,g0] s))) (bP .add f (iN 1) s fun h0 s =>
 d [O,h0] s)))) (zbf [e,(iN 0)] s fun v s i0 =>
 zaA v fun j0 v => zaA v fun l0 v => bP .lss l0 (iN 8) s fun m0 s =>
 zy m0 (zbg x0 s fun o0 s =>
 zi 1 o0 s fun p0 s =>
 zB (some 8) 3 p0 l0 s fun q0 s =>
 zp true 3 q0 s fun r0 s =>
 cp [iN 0,iN 0,iN 0] 3 r0 s fun u0 s =>
 fl 0 u0 s fun w0 s =>
 zi 1 u0 s fun y0 s =>
 zi 0 y0 s fun z0 s =>
 zp false 1 z0 s fun A0 s =>
 zi 1 u0 s fun B0 s =>
 zi 1 B0 s fun C0 s =>
 zp false 1 C0 s fun D0 s =>
 cA P zdJ [j0,w0] s fun E0 t =>
 zU z0 s t ∧ (zU C0 s t ∧ (cA P zdJ [E0,A0] t fun F0 s =>
 zU C0 t s ∧ (cA P zdJ [F0,D0] s fun G0 s =>
 bP .add l0 (iN 1) s fun H0 s =>
 i0 [G0,H0] s)))) (z1 Z j0 s))
theorem zhR : F1 Tryz.prog zeW zhZ := zo [.l [3, 4] [(5, 3),(16, 71)], .d [(0, 4),(5, 2),(4, 1),(7, 2)] [(4, [37])], .l [3, 6] [(45, 14)], .l [3, 7] [(64, 23)], .d [(0, 8),(9, 6),(8, 1),(15, 2)] [(8, [80, 84])], .l [3, 8] [(9, 1),(87, 22)], .d [(0, 3),(4, 3),(8, 3),(3, 1),(7, 1),(11, 2)] [(3, [102, 106]),(7, [106])]] Tryz.func123 (by decide +kernel) (by kernel_rfl) fun {_ _ _ _} => cast (by kernel_rfl)
def zrM (P : Program) (x0 : AV) (σ : LO) (Z : ZT) : Prop :=
 zaX x0 σ fun a s =>
 fl 0 a s fun b s =>
 cA P zkA [b] s fun c s =>
 bP .lss c (iN 0) s fun d s =>
 gFl d 1 a s fun e s =>
 gF d (bP .lss e (iN 1) s) s fun f s =>
 orC d f s fun g s =>
 gFl g 1 a s fun h s =>
 gF g (bP .gtr h (iN 9007199254740992) s) s fun i s =>
 orC g i s fun j s =>
 zy j (z1 Z (iN 80) s) (zi 2 a s fun l s =>
 zp true 5 l s fun m s =>
 cA P zha [m] s fun n s =>
 z1 Z n s)
theorem zri : F1 Tryz.prog zju zrM := zo [] Tryz.func124 (by decide +kernel) (by kernel_rfl) fun {_ _ _ _} => cast (by kernel_rfl)
def S_r06_Put (P : Program) (x0 x1 : AV) (σ : LO) (Z : ZT) : Prop :=
 zaX x1 σ fun a s =>
 zp true 5 a s fun b s =>
 cA P zha [b] s fun c s =>
 bP .neq c (iN 0) s fun d s =>
 zy d (z1 Z x0 s) (fl 0 a s fun e s =>
 cA P zhO [e] s fun f s =>
 ze f 0 s fun g s =>
 ze f 1 s fun h s =>
 ze f 2 s fun i s =>
 ze f 3 s fun j s =>
 fl 0 a s fun l s =>
 zab (.int .u64) l s fun m s =>
 cA P zaY [x0,m] s fun n s =>
 (fun (o : AV → LO → Prop) => zy g (fl 1 a s fun V s =>
 zab .toBytes V s fun W s =>
 cA P zbj [n,W] s fun X s =>
 o X s) (o n s))
 (fun p s => (fun (q : AV → LO → Prop) => zy h (fl 2 a s fun S s =>
 zab .toBytes S s fun T s =>
 cA P zbj [p,T] s fun U s =>
 q U s) (q p s))
 (fun r s => (fun (u : AV → LO → Prop) => zy i (fl 3 a s fun O s =>
 zab (.int .u64) O s fun Q s =>
 cA P zaY [r,Q] s fun R s =>
 u R s) (u r s))
 (fun w s => (fun (y : AV → LO → Prop) => zy j (fl 4 a s fun A s =>
 zap .sl A s fun B s =>
 zab (.int .u64) B s fun C s =>
 cA P zaY [w,C] s fun D s =>
 zbf [D,(iN 0)] s fun v s E =>
 zaA v fun F v => zaA v fun G v => fl 4 a s fun H s =>
 zap .sl H s fun I s =>
 bP .lss G I s fun J s =>
 zy J (fl 4 a s fun K s =>
 il false 1 1 K G s fun L s =>
 cA P zbj [F,L] s fun M s =>
 bP .add G (iN 1) s fun N s =>
 E [M,N] s) (y F s)) (y w s))
 (fun z s => z1 Z z s)))))
theorem e_r06_Put : F2 Tryz.prog zqN S_r06_Put := zo [.l [0, 9] [(52, 14)]] Tryz.func125 (by decide +kernel) (by kernel_rfl) fun {_ _ _ _ _} => cast (by kernel_rfl)
def zhB (P : Program) (x0 x1 : AV) (σ : LO) (Z : ZT) : Prop :=
 zaX x1 σ fun a s =>
 zbf [(iN 0)] s fun v s b =>
 zaA v fun c v => nfl 0 x0 s fun d s =>
 zap .sl d s fun e s =>
 bP .lss c e s fun f s =>
 zy f (nfl 0 x0 s fun g s =>
 il true 2 2 g c s fun h s =>
 zp true 2 a s fun i s =>
 zbI .eql (.ints 2) h i s fun j s =>
 zy j (z1 Z bT s) (bP .add c (iN 1) s fun l s =>
 b [l] s)) (z1 Z bF s)
theorem zhm : F2 Tryz.prog zeA zhB := zo [.l [5] [(4, 1),(6, 18)], .d [(0, 9)] []] Tryz.func126 (by decide +kernel) (by kernel_rfl) fun {_ _ _ _ _} => cast (by kernel_rfl)
def S_r09_num (P : Program) (x0 : AV) (σ : LO) (Z : ZT) : Prop :=
 bP .geq x0 (iN 0) σ fun a s =>
 gTm a x0 s fun b s =>
 gT a (bP .leq b (iN 9007199254740992) s) s fun c s =>
 anC a c s fun d s =>
 z1 Z d s
theorem e_r09_num : F1 Tryz.prog zgZ S_r09_num := zo [] Tryz.func127 (by decide +kernel) (by kernel_rfl) fun {_ _ _ _} => cast (by kernel_rfl)
def zjZ (P : Program) (x0 : AV) (σ : LO) (Z : ZT) : Prop :=
 zap .sl x0 σ fun a s =>
 bP .gtr a (iN 4) s fun b s =>
 zy b (z1 Z (iN 3) s) (zbf [(iN 0)] s fun v s c =>
 zaA v fun d v => zap .sl x0 s fun e s =>
 bP .lss d e s fun f s =>
 zy f (zB none 9 x0 d s fun g s =>
 zi 0 g s fun h s =>
 zp true 7 h s fun i s =>
 cA P zju [i] s fun j s =>
 bP .neq j (iN 0) s fun l s =>
 zy l (z1 Z j s) (zB none 9 x0 d s fun m s =>
 zi 7 m s fun n s =>
 zp true 2 n s fun o s =>
 cA P zeU [o] s fun p s =>
 bP .neq p (iN 0) s fun q s =>
 zy q (z1 Z p s) (bP .add d (iN 1) s fun r s =>
 c [r] s))) (zbf [(iN 0)] s fun v s u =>
 zaA v fun w v => zap .sl x0 s fun y s =>
 bP .lss w y s fun z s =>
 zy z (zbf [(iN 0)] s fun v s A =>
 zaA v fun B v => bP .lss B w s fun C s =>
 zy C (zB none 9 x0 w s fun D s =>
 zi 0 D s fun E s =>
 fl 0 E s fun F s =>
 zB none 9 x0 B s fun G s =>
 zi 0 G s fun H s =>
 fl 0 H s fun I s =>
 bP .eql F I s fun J s =>
 gTm J x0 s fun K s =>
 gTm J w s fun L s =>
 gT J (zB none 9 K L s) s fun M s =>
 gT J (zi 0 M s) s fun N s =>
 gTl J 1 N s fun O s =>
 gTm J x0 s fun Q s =>
 gTm J B s fun R s =>
 gT J (zB none 9 Q R s) s fun S s =>
 gT J (zi 0 S s) s fun T s =>
 gTl J 1 T s fun U s =>
 gT J (bP .eql O U s) s fun V s =>
 anC J V s fun W s =>
 zy W (z1 Z (iN 5) s) (bP .add B (iN 1) s fun X s =>
 A [X] s)) (bP .add w (iN 1) s fun Y s =>
 u [Y] s)) (z1 Z (iN 0) s)))
theorem zjM : F1 Tryz.prog zes zjZ := zo [.l [3] [(2, 1),(4, 2),(11, 24)], .l [6] [(2, 1),(7, 1),(35, 39)], .l [7] [(2, 1),(41, 33)], .d [(0, 28)] []] Tryz.func128 (by decide +kernel) (by kernel_rfl) fun {_ _ _ _} => cast (by kernel_rfl)
def zmn (P : Program) (x0 x1 : AV) (σ : LO) (Z : ZT) : Prop :=
 cA P zes [x1] σ fun a s =>
 bP .neq a (iN 0) s fun b s =>
 zy b (z1 Z x0 s) (zap .sl x1 s fun c s =>
 zab (.int .u64) c s fun d s =>
 cA P zaY [x0,d] s fun e s =>
 zbf [e,(iN 0)] s fun v s f =>
 zaA v fun g v => zaA v fun h v => zap .sl x1 s fun i s =>
 bP .lss h i s fun j s =>
 zy j (zB none 9 x1 h s fun l s =>
 zi 0 l s fun m s =>
 zp true 7 m s fun n s =>
 cA P zjv [n] s fun o s =>
 ze o 0 s fun p s =>
 ze o 1 s fun _ s =>
 zB none 9 x1 h s fun r s =>
 zi 7 r s fun u s =>
 zp true 2 u s fun w s =>
 cA P zbj [g,p] s fun y t =>
 zU u s t ∧ (cA P zjt [y,w] t fun z s =>
 bP .add h (iN 1) s fun A s =>
 f [z,A] s)) (z1 Z g s))
theorem zlZ : F2 Tryz.prog zih zmn := zo [.l [0, 5] [(6, 2),(17, 24)], .d [(0, 2),(3, 5),(2, 1),(8, 2)] [(2, [38])]] Tryz.func129 (by decide +kernel) (by kernel_rfl) fun {_ _ _ _ _} => cast (by kernel_rfl)
def S_r07_bad (P : Program) (x0 : AV) (σ : LO) (Z : ZT) : Prop :=
 zP [iN 0,iN 0] σ fun a s =>
 zC (zV [iN 0,iN 0] [(0, 1,x0)]) s fun b s =>
 zm 2 a b s fun _ s =>
 Z (zD (zag a s true 2) (some [])) s
theorem e_r07_bad : F1 Tryz.prog zdx S_r07_bad := zo [] Tryz.func130 (by decide +kernel) (by kernel_rfl) fun {_ _ _ _} => cast (by kernel_rfl)
def ziY (P : Program) (x0 x1 : AV) (σ : LO) (Z : ZT) : Prop :=
 zaX x1 σ fun a s =>
 zP [iN 0,iN 0] s fun b s =>
 zp true 5 a s fun c s =>
 cA P zha [c] s fun d s =>
 bP .neq d (iN 0) s fun e s =>
 zy e (cA P zdx [d] s fun f s =>
 zm 2 b f s fun _ s =>
 Z (zD (zag b s true 2) (zD (some eN) (some []))) s) (fl 0 a s fun h s =>
 bP .eql h (iN 0) s fun i s =>
 zy i (zC (zV [iN 0,iN 0] []) s fun j s =>
 zm 2 b j s fun _ s =>
 Z (zD (zag b s true 2) (zD (some eN) (some []))) s) (fl 0 a s fun m s =>
 bP .eql m (iN 1) s fun n s =>
 zy n (fl 1 a s fun o s =>
 cA P zey [x0,o] s fun p s =>
 zm 2 b p s fun _ s =>
 Z (zD (zag b s true 2) (zD (some eN) (some []))) s) (fl 1 a s fun r s =>
 cA P zeV [x0,r] s fun u s =>
 bP .lss u (iN 0) s fun w s =>
 zy w (cA P zdx [(iN 4)] s fun y s =>
 zm 2 b y s fun _ s =>
 Z (zD (zag b s true 2) (zD (some eN) (some []))) s) (fl 0 a s fun A s =>
 bP .eql A (iN 2) s fun B s =>
 zy B (zp true 5 a s fun C s =>
 cA P zdW [x0,u,C] s fun D s =>
 ze D 0 s fun E s =>
 ze D 1 s fun F s =>
 zm 2 b E s fun _ s =>
 Z (zD (zag b s true 2) (zD (some F) (some []))) s) (bP .eql A (iN 3) s fun H s =>
 zy H (zp true 5 a s fun I s =>
 cA P zez [x0,u,I] s fun J s =>
 zm 2 b J s fun _ s =>
 Z (zD (zag b s true 2) (zD (some eN) (some []))) s) (nfl 0 x0 s fun L s =>
 il true 4 4 L u s fun M s =>
 cp [(.d (.str [])),iN 0,eN,eN] 4 M s fun N s =>
 fl 3 a s fun O s =>
 fl 1 N s fun Q s =>
 bP .lss O Q s fun R s =>
 gF R (zi 3 a s) s fun S s =>
 gF R (zp false 1 S s) s fun T s =>
 gF R (zp true 4 N s) s fun U s =>
 gF R (cA P zca [U] s) s fun V t =>
 zU S s t ∧ (gF R (bP .gtr T V t) t fun W s =>
 orC R W s fun X s =>
 zy X (cA P zdx [(iN 72)] s fun Y s =>
 zm 2 b Y s fun _ s =>
 Z (zD (zag b s true 2) (zD (some eN) (some []))) s) (zbg x0 s fun b0 s =>
 zi 0 b0 s fun c0 s =>
 zp false 1 c0 s fun d0 s =>
 fl 2 N s fun e0 s =>
 fl 3 a s fun f0 s =>
 fl 1 N s fun g0 s =>
 bP .sub f0 g0 s fun h0 s =>
 zbp (.sl 1) e0 (some h0) none none s fun i0 s =>
 zt 1 24 eN i0 s fun j0 t =>
 zU c0 s t ∧ (zB none 4 d0 u t fun l0 s =>
 zi 2 l0 s fun m0 s =>
 zm 1 m0 j0 s fun _ s =>
 nfl 0 x0 s fun p0 s =>
 fl 3 a s fun q0 s =>
 zB none 4 p0 u s fun r0 s =>
 zi 1 r0 s fun u0 s =>
 zm 1 u0 q0 s fun _ s =>
 fl 3 a s fun y0 s =>
 zC (zV [iN 0,iN 0] [(1, 1,y0)]) s fun z0 s =>
 zm 2 b z0 s fun _ s =>
 Z (zD (zag b s true 2) (zD (some eN) (some []))) s)))))))))
theorem ziJ : F2 Tryz.prog zfw ziY := zo [.d [(0, 12)] [(9, [63])], .d [(0, 18)] [(14, [72])], .d [(0, 10)] []] Tryz.func131 (by decide +kernel) (by kernel_rfl) fun {_ _ _ _ _} => cast (by kernel_rfl)
def S_r11_num (P : Program) (x0 : AV) (σ : LO) (Z : ZT) : Prop :=
 bP .geq x0 (iN 0) σ fun a s =>
 gTm a x0 s fun b s =>
 gT a (bP .leq b (iN 9007199254740992) s) s fun c s =>
 anC a c s fun d s =>
 z1 Z d s
theorem e_r11_num : F1 Tryz.prog ziv S_r11_num := zo [] Tryz.func132 (by decide +kernel) (by kernel_rfl) fun {_ _ _ _} => cast (by kernel_rfl)
def S_r11_put (P : Program) (x0 x1 : AV) (σ : LO) (Z : ZT) : Prop :=
 zbL [x1,(iN 0)] σ fun a s =>
 zab (.int .u64) a s fun b s =>
 cA P zaY [x0,b] s fun c s =>
 z1 Z c s
theorem e_r11_put : F2 Tryz.prog ziu S_r11_put := zo [] Tryz.func133 (by decide +kernel) (by kernel_rfl) fun {_ _ _ _ _} => cast (by kernel_rfl)
def zgy (P : Program) (x0 x1 : AV) (σ : LO) (Z : ZT) : Prop :=
 cA P zqO [x1] σ fun a s =>
 unC .not a s fun b s =>
 zy b (cA P zaZ [x0,(iN 61)] s fun _ s =>
 Z (some []) s) (Z (some []) s)
theorem zgo : F2 Tryz.prog zdX zgy := zo [] Tryz.func134 (by decide +kernel) (by kernel_rfl) fun {_ _ _ _ _} => cast (by kernel_rfl)
def zhD (P : Program) (x0 x1 : AV) (σ : LO) (Z : ZT) : Prop :=
 cA P zbW [x0,x1,(iN 0),(iN 9007199254740992)] σ fun _ s =>
 Z (some []) s
theorem zho : F2 Tryz.prog zbh zhD := zo [] Tryz.func135 (by decide +kernel) (by kernel_rfl) fun {_ _ _ _ _} => cast (by kernel_rfl)
def zgz (P : Program) (x0 x1 x2 : AV) (σ : LO) (Z : ZT) : Prop :=
 cA P zbW [x0,x1,(iN 0),x2] σ fun _ s =>
 Z (some []) s
theorem zgp : F3 Tryz.prog zbk zgz := zo [] Tryz.func136 (by decide +kernel) (by kernel_rfl) fun {_ _ _ _ _ _} => cast (by kernel_rfl)
def zhC (P : Program) (x0 x1 : AV) (σ : LO) (Z : ZT) : Prop :=
 cA P zbW [x0,x1,(iN 1),(iN 9007199254740992)] σ fun _ s =>
 Z (some []) s
theorem zhn : F2 Tryz.prog zeB zhC := zo [] Tryz.func137 (by decide +kernel) (by kernel_rfl) fun {_ _ _ _ _} => cast (by kernel_rfl)
def zic (P : Program) (x0 x1 x2 x3 : AV) (σ : LO) (Z : ZT) : Prop :=
 bP .lss x1 x2 σ fun a s =>
 gFm a x1 s fun b s =>
 gFm a x3 s fun c s =>
 gF a (bP .gtr b c s) s fun d s =>
 orC a d s fun e s =>
 zy e (cA P zaZ [x0,(iN 100)] s fun _ s =>
 Z (some []) s) (Z (some []) s)
theorem zhU : F4 Tryz.prog zbW zic := zo [] Tryz.func138 (by decide +kernel) (by kernel_rfl) fun {_ _ _ _ _ _ _} => cast (by kernel_rfl)
def zgA (P : Program) (x0 x1 : AV) (σ : LO) (Z : ZT) : Prop :=
 zaX x1 σ fun a s =>
 fl 0 a s fun b s =>
 cA P zbh [x0,b] s fun _ s =>
 fl 1 a s fun d s =>
 cA P zbh [x0,d] s fun _ s =>
 (fun (f : LO → Prop) => fl 0 a s fun i s =>
 bP .eql i (iN 0) s fun j s =>
 fl 1 a s fun l s =>
 bP .eql l (iN 0) s fun m s =>
 zbI .neq .bool j m s fun n s =>
 gFl n 0 a s fun o s =>
 gF n (bP .eql o (iN 0) s) s fun p s =>
 gFm n p s fun q s =>
 gTl q 2 a s fun r s =>
 gT q (zap .sl r s) s fun u s =>
 gT q (bP .gtr u (iN 0) s) s fun w s =>
 gF n (anC q w s) s fun y s =>
 orC n y s fun z s =>
 zy z (cA P zaZ [x0,(iN 100)] s fun _ s =>
 f s) (f s))
 (fun  s => fl 2 a s fun g s =>
 cA P zbz [x0,g] s fun _ s =>
 Z (some []) s)
theorem zgq : F2 Tryz.prog zdY zgA := zo [] Tryz.func139 (by decide +kernel) (by kernel_rfl) fun {_ _ _ _ _} => cast (by kernel_rfl)
def zpV (P : Program) (x0 : AV) (σ : LO) (Z : ZT) : Prop :=
 cA P zbi [x0] σ fun a s =>
 zbI .neq .ptr a (.d .nilp) s fun b s =>
 z1 Z b s
theorem zpH : F1 Tryz.prog zkG zpV := zo [] Tryz.func140 (by decide +kernel) (by kernel_rfl) fun {_ _ _ _} => cast (by kernel_rfl)
def zof (P : Program) (x0 : AV) (σ : LO) (Z : ZT) : Prop :=
 zaX x0 σ fun a s =>
 fl 0 a s fun b s =>
 fl 1 a s fun c s =>
 fl 2 a s fun d s =>
 fl 3 a s fun e s =>
 fl 4 a s fun f s =>
 zr false 1 5 (zV (rep [iN 0] 5) [(0, 1,b),(1, 1,c),(2, 1,d),(3, 1,e),(4, 1,f)]) s fun g s =>
 zap .sl g s fun h s =>
 zbf [(iN 0)] s fun v s i =>
 zaA v fun j v => bP .lss j h s fun l s =>
 zy l (il false 1 1 g j s fun m s =>
 bP .lss m (iN 0) s fun n s =>
 gFm n m s fun o s =>
 gF n (bP .gtr o (iN 9007199254740992) s) s fun p s =>
 orC n p s fun q s =>
 zy q (z1 Z (iN 90) s) (bP .add j (iN 1) s fun r s =>
 i [r] s)) (z1 Z (iN 0) s)
theorem znE : F1 Tryz.prog zgI zof := zo [.l [17] [(2, 1),(4, 1),(18, 10)]] Tryz.func141 (by decide +kernel) (by kernel_rfl) fun {_ _ _ _} => cast (by kernel_rfl)
def zpR (P : Program) (x0 : AV) (σ : LO) (Z : ZT) : Prop :=
 zaX x0 σ fun a s =>
 fl 0 a s fun b s =>
 bP .eql b (iN 0) s fun c s =>
 gTl c 1 a s fun d s =>
 gT c (bP .eql d (iN 0) s) s fun e s =>
 anC c e s fun f s =>
 gTl f 2 a s fun g s =>
 gT f (zap .sl g s) s fun h s =>
 gT f (bP .eql h (iN 0) s) s fun i s =>
 anC f i s fun j s =>
 z1 Z j s
theorem zpD : F1 Tryz.prog zkD zpR := zo [] Tryz.func142 (by decide +kernel) (by kernel_rfl) fun {_ _ _ _} => cast (by kernel_rfl)
def zib (P : Program) (x0 x1 x2 x3 : AV) (σ : LO) (Z : ZT) : Prop :=
 bP .geq x1 (iN 1) σ fun a s =>
 gTm a x1 s fun b s =>
 gT a (bP .leq b (iN 9007199254740992) s) s fun c s =>
 anC a c s fun d s =>
 gTm d x1 s fun e s =>
 gT d (bP .rem e (iN 4) s) s fun f s =>
 gT d (bP .eql f (iN 0) s) s fun g s =>
 anC d g s fun h s =>
 gTm h x2 s fun i s =>
 gT h (bP .geq i (iN 1) s) s fun j s =>
 anC h j s fun l s =>
 gTm l x2 s fun m s =>
 gT l (bP .leq m (iN 9007199254740992) s) s fun n s =>
 anC l n s fun o s =>
 gTm o x3 s fun p s =>
 gT o (bP .geq p (iN 0) s) s fun q s =>
 anC o q s fun r s =>
 gTm r x3 s fun u s =>
 gTm r x0 s fun w s =>
 gT r (zbg w s) s fun y s =>
 gTl r 0 y s fun z s =>
 gT r (cA P zgd [z] s) s fun A s =>
 gT r (bP .lss u A s) s fun B s =>
 anC r B s fun C s =>
 z1 Z C s
theorem zhT : F4 Tryz.prog zeZ zib := zo [] Tryz.func143 (by decide +kernel) (by kernel_rfl) fun {_ _ _ _ _ _ _} => cast (by kernel_rfl)
def zpP (P : Program) (x0 : AV) (σ : LO) (Z : ZT) : Prop :=
 cA P zfI [(iN 2),x0] σ fun a s =>
 z1 Z a s
theorem zpB : F1 Tryz.prog zkC zpP := zo [] Tryz.func144 (by decide +kernel) (by kernel_rfl) fun {_ _ _ _} => cast (by kernel_rfl)
def zcl (P : Program) (x0 x1 : AV) (σ : LO) (Z : ZT) : Prop :=
 zap .sl x0 σ fun a s =>
 zbf [(iN 0)] s fun v s b =>
 zaA v fun c v => bP .lss c a s fun d s =>
 zy d (il true 2 2 x0 c s fun e s =>
 zaa P x1 [dm e] s fun f s =>
 zy f (z1 Z c s) (bP .add c (iN 1) s fun g s =>
 b [g] s)) (z1 Z (iN (-1)) s)
theorem zck : F2 Tryz.prog zbq zcl := zo [.l [8] [(4, 2),(9, 10)]] Tryz.func145 (by decide +kernel) (by kernel_rfl) fun {_ _ _ _ _} => cast (by kernel_rfl)
def zrW (P : Program) (x0 x1 : AV) (σ : LO) (Z : ZT) : Prop :=
 cA P zbi [x0] σ fun a s =>
 zbI .neq .ptr a (.d .nilp) s fun b s =>
 gTm b x1 s fun c s =>
 gT b (cA P zcf [c] s) s fun d s =>
 gT b (zbI .neq .ptr d (.d .nilp) s) s fun e s =>
 anC b e s fun f s =>
 z1 Z f s
theorem zrs : F2 Tryz.prog zmH zrW := zo [] Tryz.func146 (by decide +kernel) (by kernel_rfl) fun {_ _ _ _ _} => cast (by kernel_rfl)
def zug (P : Program) (x0 x1 x2 x3 : AV) (σ : LO) (Z : ZT) : Prop :=
 zr false 1 4 (zV (rep [iN 0] 4) [(0, 1,x0),(1, 1,x1),(2, 1,x2),(3, 1,x3)]) σ fun a s =>
 zap .sl a s fun b s =>
 zbf [(iN 0)] s fun v s c =>
 zaA v fun d v => bP .lss d b s fun e s =>
 zy e (il false 1 1 a d s fun f s =>
 bP .lss f (iN 0) s fun g s =>
 gFm g f s fun h s =>
 gF g (bP .gtr h (iN 9007199254740992) s) s fun i s =>
 orC g i s fun j s =>
 zy j (z1 Z bF s) (bP .add d (iN 1) s fun l s =>
 c [l] s)) (z1 Z bT s)
theorem ztt : F4 Tryz.prog zoO zug := zo [.l [17] [(8, 1),(10, 1),(18, 10)]] Tryz.func147 (by decide +kernel) (by kernel_rfl) fun {_ _ _ _ _ _ _} => cast (by kernel_rfl)
def zoi (P : Program) (x0 x1 x2 x3 x4 : AV) (σ : LO) (Z : ZT) : Prop :=
 zaX x2 σ fun a s =>
 cA P zbc [x0,x4] s fun b s =>
 ze b 0 s fun c s =>
 ze b 1 s fun d s =>
 gT d (zp true 2 a s) s fun e s =>
 gTm d x3 s fun f s =>
 gTm d c s fun g s =>
 gT d (zC (zV [iN 0,iN 0] [(0, 1,f),(1, 1,g)]) s) s fun h s =>
 gT d (zbI .eql (.ints 2) e h s) s fun i s =>
 anC d i s fun j s =>
 gTm j x1 s fun l s =>
 gT j (zp true 2 a s) s fun m s =>
 gT j (cA P zdL [l,m] s) s fun n s =>
 anC j n s fun o s =>
 z1 Z o s
theorem znH : F5 Tryz.prog zjD zoi := zo [] Tryz.func148 (by decide +kernel) (by kernel_rfl) fun {_ _ _ _ _ _ _ _} => cast (by kernel_rfl)
def zki (P : Program) (x0 x1 x2 x3 : AV) (σ : LO) (Z : ZT) : Prop :=
 m1 1 [(.d (.int .u8 0))] (.d (.int .u8 4)) σ fun a s =>
 zr false 1 4 (zV (rep [iN 0] 4) [(0, 1,x0),(1, 1,x1),(2, 1,x2),(3, 1,x3)]) s fun b s =>
 cA P zoN [a,b] s fun c s =>
 z1 Z c s
theorem zjV : F4 Tryz.prog zgf zki := zo [] Tryz.func149 (by decide +kernel) (by kernel_rfl) fun {_ _ _ _ _ _ _} => cast (by kernel_rfl)
def zpU (P : Program) (x0 : AV) (σ : LO) (Z : ZT) : Prop :=
 zP [(.d (.int .u8 0)),(.d (.int .u8 0)),(.d (.int .u8 0)),(.d (.int .u8 0)),(.d (.int .u8 0)),(.d (.int .u8 0)),(.d (.int .u8 0)),(.d (.int .u8 0)),(.d (.int .u8 0)),(.d (.int .u8 0))] σ fun a s =>
 zP [(.d (.int .u8 0)),(.d (.int .u8 0)),(.d (.int .u8 0)),(.d (.int .u8 0)),(.d (.int .u8 0)),(.d (.int .u8 0)),(.d (.int .u8 0)),(.d (.int .u8 0)),(.d (.int .u8 0)),(.d (.int .u8 0))] s fun b s =>
 zbf [x0,(iN 0)] s fun v s c =>
 zaA v fun d v => zaA v fun e v => bP .gtr d (.d (.int .u64 127)) s fun f s =>
 zy f (zab (.int .u8) d s fun g s =>
 bP .or g (.d (.int .u8 128)) s fun h s =>
 zB (some 10) 1 b e s fun i s =>
 zm 1 i h s fun _ s =>
 bP .shr d (.d (.int .u64 7)) s fun l s =>
 bP .add e (iN 1) s fun m s =>
 c [l,m] s) (zab (.int .u8) d s fun n s =>
 zB (some 10) 1 b e s fun o s =>
 zm 1 o n s fun _ s =>
 zp true 10 b s fun q s =>
 bP .add e (iN 1) s fun r s =>
 zm 10 a q s fun _ s =>
 Z (zD (zag a s true 10) (zD (some r) (some []))) s)
theorem zpG : F1 Tryz.prog zkF zpU := zo [.l [0, 5] [(6, 11)]] Tryz.func150 (by decide +kernel) (by kernel_rfl) fun {_ _ _ _} => cast (by kernel_rfl)
def zfg (P : Program) (x0 : AV) (σ : LO) (Z : ZT) : Prop :=
 zap .sl x0 σ fun a s =>
 zap .sl x0 s fun b s =>
 zbp (.sl 1) x0 none (some a) (some b) s fun c s =>
 z1 Z c s
theorem zfd : F1 Tryz.prog zdo zfg := zo [] Tryz.func151 (by decide +kernel) (by kernel_rfl) fun {_ _ _ _} => cast (by kernel_rfl)
def ztW (P : Program) (x0 : AV) (σ : LO) (Z : ZT) : Prop :=
 cA P zmD [x0] σ fun a s =>
 bP .gtr a (iN 0) s fun b s =>
 z1 Z b s
theorem ztj : F1 Tryz.prog zlB ztW := zo [] Tryz.func152 (by decide +kernel) (by kernel_rfl) fun {_ _ _ _} => cast (by kernel_rfl)
def ztY (P : Program) (x0 : AV) (σ : LO) (Z : ZT) : Prop :=
 m1 1 [(.d (.int .u8 0))] (.d (.int .u8 0)) σ fun a s =>
 zt 1 1 a x0 s fun b s =>
 z1 Z b s
theorem ztl : F1 Tryz.prog zoG ztY := zo [] Tryz.func158 (by decide +kernel) (by kernel_rfl) fun {_ _ _ _} => cast (by kernel_rfl)
def ztX (P : Program) (x0 x1 : AV) (σ : LO) (Z : ZT) : Prop :=
 m1 1 [(.d (.int .u8 0))] (.d (.int .u8 1)) σ fun a s =>
 zbL [x0,(iN 0)] s fun b s =>
 zab (.int .u64) b s fun c s =>
 cA P zaY [a,c] s fun d s =>
 zbL [x1,(iN 0)] s fun e s =>
 zab (.int .u64) e s fun f s =>
 cA P zaY [d,f] s fun g s =>
 z1 Z g s
theorem ztk : F2 Tryz.prog zoF ztX := zo [] Tryz.func159 (by decide +kernel) (by kernel_rfl) fun {_ _ _ _ _} => cast (by kernel_rfl)
def zod (P : Program) (x0 x1 : AV) (σ : LO) (Z : ZT) : Prop :=
 cA P zgH [x1] σ fun a s =>
 cA P zbJ [x0,a] s fun b s =>
 z1 Z b s
theorem znC : F2 Tryz.prog zjA zod := zo [] Tryz.func160 (by decide +kernel) (by kernel_rfl) fun {_ _ _ _ _} => cast (by kernel_rfl)
def zoc (P : Program) (x0 x1 x2 : AV) (σ : LO) (Z : ZT) : Prop :=
 cA P zfa [x1,x2] σ fun a s =>
 cA P zbJ [x0,a] s fun b s =>
 z1 Z b s
theorem znB : F3 Tryz.prog zjz zoc := zo [] Tryz.func161 (by decide +kernel) (by kernel_rfl) fun {_ _ _ _ _ _} => cast (by kernel_rfl)
def ziX (P : Program) (x0 x1 : AV) (σ : LO) (Z : ZT) : Prop :=
 zaX x0 σ fun a s =>
 zaX x1 s fun b s =>
 fl 0 a s fun c s =>
 fl 0 b s fun d s =>
 bP .eql c d s fun e s =>
 gTl e 1 a s fun f s =>
 gTl e 1 b s fun g s =>
 gT e (bP .eql f g s) s fun h s =>
 anC e h s fun i s =>
 gT i (zi 2 a s) s fun j s =>
 gT i (zp true 5 j s) s fun l s =>
 gT i (zi 2 b s) s fun m s =>
 gT i (zp true 5 m s) s fun n s =>
 gT i (cA P zoE [l,n] s) s fun o s =>
 anC i o s fun p s =>
 z1 Z p s
theorem ziI : F2 Tryz.prog zfv ziX := zo [] Tryz.func162 (by decide +kernel) (by kernel_rfl) fun {_ _ _ _ _} => cast (by kernel_rfl)
def zle (P : Program) (x0 x1 : AV) (σ : LO) (Z : ZT) : Prop :=
 zap .sl x0 σ fun a s =>
 zap .sl x1 s fun b s =>
 bP .neq a b s fun c s =>
 zy c (z1 Z bF s) (zbf [(iN 0)] s fun v s d =>
 zaA v fun e v => zap .sl x0 s fun f s =>
 bP .lss e f s fun g s =>
 zy g (il true 2 2 x0 e s fun h s =>
 il true 2 2 x1 e s fun i s =>
 zbI .neq (.ints 2) h i s fun j s =>
 zy j (z1 Z bF s) (bP .add e (iN 1) s fun l s =>
 d [l] s)) (z1 Z bT s))
theorem zkM : F2 Tryz.prog zgX zle := zo [.l [5] [(4, 1),(11, 15)], .d [(0, 9)] []] Tryz.func163 (by decide +kernel) (by kernel_rfl) fun {_ _ _ _ _} => cast (by kernel_rfl)
def zrQ (P : Program) (x0 : AV) (σ : LO) (Z : ZT) : Prop :=
 zaX x0 σ fun a s =>
 fl 0 a s fun b s =>
 cA P zhO [b] s fun c s =>
 ze c 0 s fun d s =>
 ze c 1 s fun e s =>
 ze c 2 s fun f s =>
 ze c 3 s fun g s =>
 fl 0 a s fun h s =>
 bP .lss h (iN 0) s fun i s =>
 gFl i 0 a s fun j s =>
 gF i (bP .gtr j (iN 4) s) s fun l s =>
 orC i l s fun m s =>
 gFm m d s fun n s =>
 gF m (unC .not n s) s fun o s =>
 gFm m o s fun p s =>
 gTl p 1 a s fun q s =>
 gT p (bP .neq q (.d (.str [])) s) s fun r s =>
 gF m (anC p r s) s fun u s =>
 orC m u s fun w s =>
 gFm w e s fun y s =>
 gF w (unC .not y s) s fun z s =>
 gFm w z s fun A s =>
 gTl A 2 a s fun B s =>
 gT A (bP .neq B (.d (.str [])) s) s fun C s =>
 gF w (anC A C s) s fun D s =>
 orC w D s fun E s =>
 gFm E f s fun F s =>
 gF E (unC .not F s) s fun G s =>
 gFm E G s fun H s =>
 gTl H 3 a s fun I s =>
 gT H (bP .neq I (iN 0) s) s fun J s =>
 gF E (anC H J s) s fun K s =>
 orC E K s fun L s =>
 gFm L g s fun M s =>
 gF L (unC .not M s) s fun N s =>
 gFm L N s fun O s =>
 gTl O 4 a s fun Q s =>
 gT O (zap .sl Q s) s fun R s =>
 gT O (bP .gtr R (iN 0) s) s fun S s =>
 gF L (anC O S s) s fun T s =>
 orC L T s fun U s =>
 zy U (z1 Z (iN 60) s) (gTl d 1 a s fun V s =>
 gT d (cA P zlB [V] s) s fun W s =>
 gT d (unC .not W s) s fun X s =>
 anC d X s fun Y s =>
 gFm Y e s fun a0 s =>
 gFm Y a0 s fun b0 s =>
 gTl b0 2 a s fun c0 s =>
 gT b0 (cA P zlB [c0] s) s fun d0 s =>
 gT b0 (unC .not d0 s) s fun e0 s =>
 gF Y (anC b0 e0 s) s fun f0 s =>
 orC Y f0 s fun g0 s =>
 zy g0 (z1 Z (iN 61) s) (gTl g 4 a s fun h0 s =>
 gT g (zap .sl h0 s) s fun i0 s =>
 gT g (bP .lss i0 (iN 1) s) s fun j0 s =>
 gTm g j0 s fun l0 s =>
 gFl l0 4 a s fun m0 s =>
 gF l0 (zap .sl m0 s) s fun o0 s =>
 gF l0 (bP .gtr o0 (iN 4) s) s fun p0 s =>
 gT g (orC l0 p0 s) s fun q0 s =>
 anC g q0 s fun r0 s =>
 zy r0 (z1 Z (iN 62) s) (zbf [(iN 0)] s fun v s u0 =>
 zaA v fun w0 v => fl 4 a s fun y0 s =>
 zap .sl y0 s fun z0 s =>
 bP .lss w0 z0 s fun A0 s =>
 zy A0 (fl 4 a s fun B0 s =>
 il false 1 1 B0 w0 s fun C0 s =>
 zap .sl C0 s fun D0 s =>
 bP .gtr D0 (iN 64) s fun E0 s =>
 zy E0 (z1 Z (iN 62) s) (bP .add w0 (iN 1) s fun F0 s =>
 u0 [F0] s)) (fl 3 a s fun G0 s =>
 bP .lss G0 (iN 0) s fun H0 s =>
 gFl H0 3 a s fun I0 s =>
 gF H0 (bP .gtr I0 (iN 9007199254740992) s) s fun J0 s =>
 orC H0 J0 s fun K0 s =>
 zy K0 (z1 Z (iN 60) s) (z1 Z (iN 0) s)))))
theorem zrm : F1 Tryz.prog zha zrQ := zo [.l [7] [(2, 1),(90, 14)]] Tryz.func165 (by decide +kernel) (by kernel_rfl) fun {_ _ _ _} => cast (by kernel_rfl)
def zpN (P : Program) (x0 : AV) (σ : LO) (Z : ZT) : Prop :=
 bP .eql x0 (iN 1) σ fun a s =>
 zy a (Z (zD (some bT) (zD (some bF) (zD (some bF) (zD (some bF) (some []))))) s) (bP .eql x0 (iN 2) s fun b s =>
 zy b (Z (zD (some bT) (zD (some bF) (zD (some bF) (zD (some bT) (some []))))) s) (bP .eql x0 (iN 3) s fun c s =>
 zy c (Z (zD (some bT) (zD (some bT) (zD (some bT) (zD (some bF) (some []))))) s) (bP .eql x0 (iN 4) s fun d s =>
 zy d (Z (zD (some bT) (zD (some bF) (zD (some bT) (zD (some bF) (some []))))) s) (Z (zD (some bF) (zD (some bF) (zD (some bF) (zD (some bF) (some []))))) s))))
theorem zpz : F1 Tryz.prog zhO zpN := zo [] Tryz.func166 (by decide +kernel) (by kernel_rfl) fun {_ _ _ _} => cast (by kernel_rfl)
def zlg (P : Program) (x0 : AV) (σ : LO) (Z : ZT) : Prop :=
 zaX x0 σ fun a s =>
 fl 0 a s fun b s =>
 bP .lss b (iN 0) s fun c s =>
 gFl c 0 a s fun d s =>
 gF c (bP .geq d (iN 21) s) s fun e s =>
 orC c e s fun f s =>
 gFl f 1 a s fun g s =>
 gF f (bP .lss g (iN 1) s) s fun h s =>
 orC f h s fun i s =>
 gFl i 1 a s fun j s =>
 gF i (bP .gtr j (iN 9007199254740992) s) s fun l s =>
 orC i l s fun m s =>
 zy m (z1 Z (iN 81) s) (z1 Z (iN 0) s)
theorem zkO : F1 Tryz.prog zeU zlg := zo [] Tryz.func167 (by decide +kernel) (by kernel_rfl) fun {_ _ _ _} => cast (by kernel_rfl)
end Go.Proofs.YtncpaekiidpchaaGreat
