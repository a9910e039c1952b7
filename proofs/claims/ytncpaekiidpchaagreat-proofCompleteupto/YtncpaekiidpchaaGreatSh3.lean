/- The conditions of each function, its slots as variables, and that the logic's conditions are these. Printed by program. -/
import Derived.Test.YtncpaekiidpchaaGreatNm
import Derived.KernelRfl
set_option linter.all false
set_option maxRecDepth 100000
namespace Go.Proofs.YtncpaekiidpchaaGreat
open Go.AW
def zkc (P : Program) (x0 x1 : AV) (σ : LO) (Z : ZT) : Prop :=
 zaw .sl x1 σ fun a s =>
 zag (.int .u64) a s fun b s =>
 cA P zcb [x0,b] s fun c s =>
 zw 1 1 c x1 s fun d s =>
 z1 Z d s
theorem zjS : F2 Tryz.prog zec zkc := zm [] Tryz.func94 (by decide +kernel) (by kernel_rfl) fun {_ _ _ _ _} => cast (by kernel_rfl)
def zlg (P : Program) (x0 x1 : AV) (σ : LO) (Z : ZT) : Prop :=
 bP .lss x0 (iN 0) σ fun a s =>
 gFm a x0 s fun b s =>
 gFm a x1 s fun c s =>
 gF a (bP .geq b c s) s fun d s =>
 orC a d s fun e s =>
 zp e (z1 Z (iN 0) s) (zbe [x0,x1,(iN 0)] s fun v s f =>
 zay v fun g v => zay v fun h v => zay v fun i v => bP .gtr h (iN 1) s fun j s =>
 zp j (cA P zdo [h] s fun l s =>
 (fun (m : AV → AV → LO → Prop) => bP .lss g l s fun q s =>
 zp q (m g l s) (bP .sub g l s fun r s =>
 bP .sub h l s fun u s =>
 m r u s))
 (fun n o s => bP .add i (iN 1) s fun p s =>
 f [n,o,p] s)) (z1 Z i s))
theorem zkP : F2 Tryz.prog zgY zlg := zm [.l [0, 1, 5] [(6, 1),(14, 16)]] Tryz.func95 (by decide +kernel) (by kernel_rfl) fun {_ _ _ _ _} => cast (by kernel_rfl)
def zjb (P : Program) (x0 x1 x2 x3 x4 x5 : AV) (σ : LO) (Z : ZT) : Prop :=
 bP .eql x1 (iN 1) σ fun a s =>
 zp a (zq false 1 x3 s fun b s =>
 zq false 1 x4 s fun c s =>
 cA P zgp [c] s fun d t =>
 zQ x3 s t ∧ (cA P zaL [b,d] t fun e s =>
 ze e 0 s fun f s =>
 ze e 1 s fun g s =>
 z2 Z f g s)) (zaw .sl x2 s fun h s =>
 bP .sub h (iN 1) s fun i s =>
 cA P zdo [x1] s fun j s =>
 bP .lss x0 j s fun l s =>
 zp l (zq false 1 x5 s fun m s =>
 zbT (.sl 1) x2 none (some i) none s fun n s =>
 zal P m [dm x0,dm j,dm n] s fun o s =>
 ze o 0 s fun p s =>
 ze o 1 s fun q s =>
 unC .not q s fun r s =>
 zp r (z2 Z (iN 0) bF s) (zq false 1 x3 s fun u s =>
 il false 1 1 x2 i s fun w s =>
 cA P zeW [p,w] s fun y t =>
 zQ x3 s t ∧ (cA P zaL [u,y] t fun z s =>
 ze z 0 s fun A s =>
 ze z 1 s fun B s =>
 z2 Z A B s))) (zq false 1 x5 s fun C s =>
 bP .sub x0 j s fun D s =>
 bP .sub x1 j s fun E s =>
 zbT (.sl 1) x2 none (some i) none s fun F s =>
 zal P C [dm D,dm E,dm F] s fun G s =>
 ze G 0 s fun H s =>
 ze G 1 s fun I s =>
 unC .not I s fun J s =>
 zp J (z2 Z (iN 0) bF s) (zq false 1 x3 s fun K s =>
 il false 1 1 x2 i s fun L s =>
 cA P zeW [L,H] s fun M t =>
 zQ x3 s t ∧ (cA P zaL [K,M] t fun N s =>
 ze N 0 s fun O s =>
 ze N 1 s fun Q s =>
 z2 Z O Q s))))
theorem ziM : F6 Tryz.prog zcM zjb := zm [.d [(0, 8)] [(2, [3])], .d [(0, 12)] [], .d [(0, 12)] [(6, [3])], .d [(0, 16)] [], .d [(0, 12)] [(6, [3])]] Tryz.func96 (by decide +kernel) (by kernel_rfl) fun {_ _ _ _ _ _ _ _ _} => cast (by kernel_rfl)
def znX (P : Program) (x0 : AV) (σ : LO) (Z : ZT) : Prop :=
 m1 1 [(.d (.int .u8 0))] (.d (.int .u8 0)) σ fun a s =>
 zw 1 1 a x0 s fun b s =>
 z1 Z b s
theorem znz : F1 Tryz.prog zgp znX := zm [] Tryz.func97 (by decide +kernel) (by kernel_rfl) fun {_ _ _ _} => cast (by kernel_rfl)
def zmj (P : Program) (x0 : AV) (σ : LO) (Z : ZT) : Prop :=
 bP .lss x0 (iN 2) σ fun a s =>
 zp a (z1 Z (iN 0) s) (zbe [(iN 1)] s fun v s b =>
 zay v fun c v => bP .sub x0 c s fun d s =>
 bP .lss c d s fun e s =>
 zp e (bP .mul c (iN 2) s fun f s =>
 b [f] s) (z1 Z c s))
theorem zlV : F1 Tryz.prog zdo zmj := zm [.l [3] [(6, 7)]] Tryz.func98 (by decide +kernel) (by kernel_rfl) fun {_ _ _ _} => cast (by kernel_rfl)
def znW (P : Program) (x0 x1 : AV) (σ : LO) (Z : ZT) : Prop :=
 m1 1 [(.d (.int .u8 0))] (.d (.int .u8 1)) σ fun a s =>
 zcC [(iN 0),x0] s fun b s =>
 zag (.int .u64) b s fun c s =>
 cA P zcb [a,c] s fun d s =>
 zcC [(iN 0),x1] s fun e s =>
 zag (.int .u64) e s fun f s =>
 cA P zcb [d,f] s fun g s =>
 z1 Z g s
theorem zny : F2 Tryz.prog zeW znW := zm [] Tryz.func99 (by decide +kernel) (by kernel_rfl) fun {_ _ _ _ _} => cast (by kernel_rfl)
def zpK (P : Program) (x0 x1 : AV) (σ : LO) (Z : ZT) : Prop :=
 zw 1 1 eN x0 σ fun a s =>
 zbe [x1,a] s fun v s b =>
 zay v fun c v => zay v fun d v => bP .geq c (.d (.int .u64 128)) s fun e s =>
 zp e (bP .rem c (.d (.int .u64 128)) s fun f s =>
 zag (.int .u8) f s fun g s =>
 bP .add g (.d (.int .u8 128)) s fun h s =>
 m1 1 [(.d (.int .u8 0))] h s fun i s =>
 zw 1 1 d i s fun j s =>
 bP .quo c (.d (.int .u64 128)) s fun l s =>
 b [l,j] s) (zag (.int .u8) c s fun m s =>
 m1 1 [(.d (.int .u8 0))] m s fun n s =>
 zw 1 1 d n s fun o s =>
 z1 Z o s)
theorem zpv : F2 Tryz.prog zaE zpK := zm [.l [1, 5] [(9, 11)]] Tryz.func106 (by decide +kernel) (by kernel_rfl) fun {_ _ _ _ _} => cast (by kernel_rfl)
def ztE (P : Program) (x0 x1 : AV) (σ : LO) (Z : ZT) : Prop :=
 zag .toStr x0 σ fun a s =>
 zag .toStr x1 s fun b s =>
 bP .eql a b s fun c s =>
 z1 Z c s
theorem zta : F2 Tryz.prog zoE ztE := zm [] Tryz.func107 (by decide +kernel) (by kernel_rfl) fun {_ _ _ _ _} => cast (by kernel_rfl)
def zme (P : Program) (x0 x1 : AV) (σ : LO) (Z : ZT) : Prop :=
 zaw .sl x1 σ fun a s =>
 zag (.int .u64) a s fun b s =>
 cA P zaE [x0,b] s fun c s =>
 zw 1 1 c x1 s fun d s =>
 z1 Z d s
theorem zlQ : F2 Tryz.prog zaV zme := zm [] Tryz.func110 (by decide +kernel) (by kernel_rfl) fun {_ _ _ _ _} => cast (by kernel_rfl)
def S_r07_put (P : Program) (x0 x1 : AV) (σ : LO) (Z : ZT) : Prop :=
 zag (.int .u64) x1 σ fun a s =>
 cA P zaE [x0,a] s fun b s =>
 z1 Z b s
theorem e_r07_put : F2 Tryz.prog zdB S_r07_put := zm [] Tryz.func111 (by decide +kernel) (by kernel_rfl) fun {_ _ _ _ _} => cast (by kernel_rfl)
def zjZ (P : Program) (x0 x1 x2 x3 x4 : AV) (σ : LO) (Z : ZT) : Prop :=
 zaw .sl x1 σ fun a s =>
 bP .eql a (iN 1) s fun b s =>
 zp b (Z (some []) s) (zaw .sl x1 s fun c s =>
 cA P zdo [c] s fun d s =>
 bP .lss x0 d s fun e s =>
 zp e (zq false 1 x2 s fun f s =>
 zbT (.sl 1) x1 none (some d) none s fun g s =>
 zal P f [dm x0,dm g] s fun _ s =>
 zq false 1 x3 s fun i s =>
 zq false 1 x4 s fun j s =>
 zbT (.sl 1) x1 (some d) none none s fun l s =>
 cA P zcZ [j,l] s fun m t =>
 zQ x3 s t ∧ (m1 1 [iN 0] m t fun n s =>
 zw 1 8 i n s fun o s =>
 zo 1 x3 o s fun _ s =>
 Z (some []) s)) (zq false 1 x2 s fun q s =>
 bP .sub x0 d s fun r s =>
 zbT (.sl 1) x1 (some d) none none s fun u s =>
 zal P q [dm r,dm u] s fun _ s =>
 zq false 1 x3 s fun y s =>
 zq false 1 x4 s fun z s =>
 zbT (.sl 1) x1 none (some d) none s fun A s =>
 cA P zcZ [z,A] s fun B t =>
 zQ x3 s t ∧ (m1 1 [iN 0] B t fun C s =>
 zw 1 8 y C s fun D s =>
 zo 1 x3 D s fun _ s =>
 Z (some []) s)))
theorem zjP : F5 Tryz.prog zcp zjZ := zm [.d [(0, 6)] [], .d [(0, 9)] [(5, [3])], .d [(0, 8)] [], .d [(0, 9)] [(5, [3])]] Tryz.func114 (by decide +kernel) (by kernel_rfl) fun {_ _ _ _ _ _ _ _} => cast (by kernel_rfl)
def zfa (P : Program) (x0 x1 : AV) (σ : LO) (Z : ZT) : Prop :=
 zaw .sl x1 σ fun a s =>
 bP .eql a (iN 0) s fun b s =>
 zp b (m1 1 [(.d (.int .u8 0))] (.d (.int .u8 2)) s fun c s =>
 cA P zbE [x0,c] s fun d s =>
 z1 Z d s) (bP .eql a (iN 1) s fun e s =>
 zp e (il false 1 1 x1 (iN 0) s fun f s =>
 cA P zju [x0,f] s fun g s =>
 z1 Z g s) (zaw .sl x1 s fun h s =>
 cA P zdo [h] s fun i s =>
 zbT (.sl 1) x1 none (some i) none s fun j s =>
 cA P zcZ [x0,j] s fun l s =>
 zbT (.sl 1) x1 (some i) none none s fun m s =>
 cA P zcZ [x0,m] s fun n s =>
 cA P zjt [x0,l,n] s fun o s =>
 z1 Z o s))
theorem zcw : F2 Tryz.prog zcZ zfa := zm [] Tryz.func115 (by decide +kernel) (by kernel_rfl) fun {_ _ _ _ _} => cast (by kernel_rfl)
def ztD (P : Program) (x0 x1 : AV) (σ : LO) (Z : ZT) : Prop :=
 cA P zoB [x1] σ fun a s =>
 cA P zbc [x0,a] s fun b s =>
 z1 Z b s
theorem zsZ : F2 Tryz.prog zoD ztD := zm [] Tryz.func121 (by decide +kernel) (by kernel_rfl) fun {_ _ _ _ _} => cast (by kernel_rfl)
def ztC (P : Program) (x0 x1 x2 : AV) (σ : LO) (Z : ZT) : Prop :=
 cA P zoA [x1,x2] σ fun a s =>
 cA P zbc [x0,a] s fun b s =>
 z1 Z b s
theorem zsY : F3 Tryz.prog zoC ztC := zm [] Tryz.func122 (by decide +kernel) (by kernel_rfl) fun {_ _ _ _ _ _} => cast (by kernel_rfl)
def zhU (P : Program) (x0 : AV) (σ : LO) (Z : ZT) : Prop :=
 nfl 0 x0 σ fun a s =>
 zaw .sl a s fun b s =>
 cA P zdB [eN,b] s fun c s =>
 zbe [c,(iN 0)] s fun v s d =>
 zay v fun e v => zay v fun f v => nfl 0 x0 s fun g s =>
 zaw .sl g s fun h s =>
 bP .lss f h s fun i s =>
 zp i (nfl 0 x0 s fun j s =>
 il true 4 4 j f s fun l s =>
 cp [(.d (.str [])),iN 0,eN,eN] 4 l s fun m s =>
 fl 0 m s fun n s =>
 zag .toBytes n s fun o s =>
 zl 1 m s fun p s =>
 zq false 1 p s fun q s =>
 cA P zaV [e,o] s fun r t =>
 zQ p s t ∧ (cA P zdB [r,q] t fun u s =>
 fl 2 m s fun w s =>
 zaw .sl w s fun y s =>
 cA P zdB [u,y] s fun z s =>
 zbe [z,(iN 0)] s fun v s A =>
 zay v fun B v => zay v fun C v => fl 2 m s fun D s =>
 zaw .sl D s fun E s =>
 bP .lss C E s fun F s =>
 zp F (fl 2 m s fun G s =>
 il false 1 1 G C s fun H s =>
 cA P zaV [B,H] s fun I s =>
 bP .add C (iN 1) s fun J s =>
 A [I,J] s) (fl 3 m s fun K s =>
 zaw .sl K s fun L s =>
 cA P zdB [B,L] s fun M s =>
 zbe [M,(iN 0)] s fun v s N =>
 zay v fun O v => zay v fun Q v => fl 3 m s fun R s =>
 zaw .sl R s fun S s =>
 bP .lss Q S s fun T s =>
 zp T (fl 3 m s fun U s =>
 zH none 2 U Q s fun V s =>
 fl 0 V s fun W s =>
 zag .toBytes W s fun X s =>
 zl 3 m s fun Y s =>
 zq false 1 Y s fun a0 s =>
 zH none 2 a0 Q s fun b0 s =>
 zl 1 b0 s fun c0 s =>
 zq false 1 c0 s fun d0 s =>
 cA P zaV [O,X] s fun e0 t =>
 zQ Y s t ∧ (zQ c0 s t ∧ (cA P zdB [e0,d0] t fun f0 s =>
 bP .add Q (iN 1) s fun g0 s =>
 N [f0,g0] s))) (bP .add f (iN 1) s fun h0 s =>
 d [O,h0] s)))) (zbe [e,(iN 0)] s fun v s i0 =>
 zay v fun j0 v => zay v fun l0 v => bP .lss l0 (iN 8) s fun m0 s =>
 zp m0 (zby x0 s fun o0 s =>
 zl 1 o0 s fun p0 s =>
 zH (some 8) 3 p0 l0 s fun q0 s =>
 zq true 3 q0 s fun r0 s =>
 cp [iN 0,iN 0,iN 0] 3 r0 s fun u0 s =>
 fl 0 u0 s fun w0 s =>
 zl 1 u0 s fun y0 s =>
 zl 0 y0 s fun z0 s =>
 zq false 1 z0 s fun A0 s =>
 zl 1 u0 s fun B0 s =>
 zl 1 B0 s fun C0 s =>
 zq false 1 C0 s fun D0 s =>
 cA P zdB [j0,w0] s fun E0 t =>
 zQ z0 s t ∧ (zQ C0 s t ∧ (cA P zdB [E0,A0] t fun F0 s =>
 zQ C0 t s ∧ (cA P zdB [F0,D0] s fun G0 s =>
 bP .add l0 (iN 1) s fun H0 s =>
 i0 [G0,H0] s)))) (z1 Z j0 s))
theorem zhM : F1 Tryz.prog zeS zhU := zm [.l [3, 4] [(5, 3),(16, 71)], .d [(0, 4),(5, 2),(4, 1),(7, 2)] [(4, [37])], .l [3, 6] [(45, 14)], .l [3, 7] [(64, 23)], .d [(0, 8),(9, 6),(8, 1),(15, 2)] [(8, [80, 84])], .l [3, 8] [(9, 1),(87, 22)], .d [(0, 3),(4, 3),(8, 3),(3, 1),(7, 1),(11, 2)] [(3, [102, 106]),(7, [106])]] Tryz.func123 (by decide +kernel) (by kernel_rfl) fun {_ _ _ _} => cast (by kernel_rfl)
def zrG (P : Program) (x0 : AV) (σ : LO) (Z : ZT) : Prop :=
 zbu x0 σ fun a s =>
 fl 0 a s fun b s =>
 cA P zkv [b] s fun c s =>
 bP .lss c (iN 0) s fun d s =>
 gFl d 1 a s fun e s =>
 gF d (bP .lss e (iN 1) s) s fun f s =>
 orC d f s fun g s =>
 gFl g 1 a s fun h s =>
 gF g (bP .gtr h (iN 9007199254740992) s) s fun i s =>
 orC g i s fun j s =>
 zp j (z1 Z (iN 80) s) (zl 2 a s fun l s =>
 zq true 5 l s fun m s =>
 cA P zgV [m] s fun n s =>
 z1 Z n s)
theorem zrb : F1 Tryz.prog zjp zrG := zm [] Tryz.func124 (by decide +kernel) (by kernel_rfl) fun {_ _ _ _} => cast (by kernel_rfl)
def S_r06_Put (P : Program) (x0 x1 : AV) (σ : LO) (Z : ZT) : Prop :=
 zbu x1 σ fun a s =>
 zq true 5 a s fun b s =>
 cA P zgV [b] s fun c s =>
 bP .neq c (iN 0) s fun d s =>
 zp d (z1 Z x0 s) (fl 0 a s fun e s =>
 cA P zhK [e] s fun f s =>
 ze f 0 s fun g s =>
 ze f 1 s fun h s =>
 ze f 2 s fun i s =>
 ze f 3 s fun j s =>
 fl 0 a s fun l s =>
 zag (.int .u64) l s fun m s =>
 cA P zaE [x0,m] s fun n s =>
 (fun (o : AV → LO → Prop) => zp g (fl 1 a s fun V s =>
 zag .toBytes V s fun W s =>
 cA P zaV [n,W] s fun X s =>
 o X s) (o n s))
 (fun p s => (fun (q : AV → LO → Prop) => zp h (fl 2 a s fun S s =>
 zag .toBytes S s fun T s =>
 cA P zaV [p,T] s fun U s =>
 q U s) (q p s))
 (fun r s => (fun (u : AV → LO → Prop) => zp i (fl 3 a s fun O s =>
 zag (.int .u64) O s fun Q s =>
 cA P zaE [r,Q] s fun R s =>
 u R s) (u r s))
 (fun w s => (fun (y : AV → LO → Prop) => zp j (fl 4 a s fun A s =>
 zaw .sl A s fun B s =>
 zag (.int .u64) B s fun C s =>
 cA P zaE [w,C] s fun D s =>
 zbe [D,(iN 0)] s fun v s E =>
 zay v fun F v => zay v fun G v => fl 4 a s fun H s =>
 zaw .sl H s fun I s =>
 bP .lss G I s fun J s =>
 zp J (fl 4 a s fun K s =>
 il false 1 1 K G s fun L s =>
 cA P zaV [F,L] s fun M s =>
 bP .add G (iN 1) s fun N s =>
 E [M,N] s) (y F s)) (y w s))
 (fun z s => z1 Z z s)))))
theorem e_r06_Put : F2 Tryz.prog zqE S_r06_Put := zm [.l [0, 9] [(52, 14)]] Tryz.func125 (by decide +kernel) (by kernel_rfl) fun {_ _ _ _ _} => cast (by kernel_rfl)
def zht (P : Program) (x0 x1 : AV) (σ : LO) (Z : ZT) : Prop :=
 zbu x1 σ fun a s =>
 zbe [(iN 0)] s fun v s b =>
 zay v fun c v => nfl 0 x0 s fun d s =>
 zaw .sl d s fun e s =>
 bP .lss c e s fun f s =>
 zp f (nfl 0 x0 s fun g s =>
 il true 2 2 g c s fun h s =>
 zq true 2 a s fun i s =>
 zcS .eql (.ints 2) h i s fun j s =>
 zp j (z1 Z bT s) (bP .add c (iN 1) s fun l s =>
 b [l] s)) (z1 Z bF s)
theorem zhg : F2 Tryz.prog zel zht := zm [.l [5] [(4, 1),(6, 18)], .d [(0, 9)] []] Tryz.func126 (by decide +kernel) (by kernel_rfl) fun {_ _ _ _ _} => cast (by kernel_rfl)
def S_r09_num (P : Program) (x0 : AV) (σ : LO) (Z : ZT) : Prop :=
 bP .geq x0 (iN 0) σ fun a s =>
 gTm a x0 s fun b s =>
 gT a (bP .leq b (iN 9007199254740992) s) s fun c s =>
 anC a c s fun d s =>
 z1 Z d s
theorem e_r09_num : F1 Tryz.prog zgU S_r09_num := zm [] Tryz.func127 (by decide +kernel) (by kernel_rfl) fun {_ _ _ _} => cast (by kernel_rfl)
def zjV (P : Program) (x0 : AV) (σ : LO) (Z : ZT) : Prop :=
 zaw .sl x0 σ fun a s =>
 bP .gtr a (iN 4) s fun b s =>
 zp b (z1 Z (iN 3) s) (zbe [(iN 0)] s fun v s c =>
 zay v fun d v => zaw .sl x0 s fun e s =>
 bP .lss d e s fun f s =>
 zp f (zH none 9 x0 d s fun g s =>
 zl 0 g s fun h s =>
 zq true 7 h s fun i s =>
 cA P zjp [i] s fun j s =>
 bP .neq j (iN 0) s fun l s =>
 zp l (z1 Z j s) (zH none 9 x0 d s fun m s =>
 zl 7 m s fun n s =>
 zq true 2 n s fun o s =>
 cA P zeQ [o] s fun p s =>
 bP .neq p (iN 0) s fun q s =>
 zp q (z1 Z p s) (bP .add d (iN 1) s fun r s =>
 c [r] s))) (zbe [(iN 0)] s fun v s u =>
 zay v fun w v => zaw .sl x0 s fun y s =>
 bP .lss w y s fun z s =>
 zp z (zbe [(iN 0)] s fun v s A =>
 zay v fun B v => bP .lss B w s fun C s =>
 zp C (zH none 9 x0 w s fun D s =>
 zl 0 D s fun E s =>
 fl 0 E s fun F s =>
 zH none 9 x0 B s fun G s =>
 zl 0 G s fun H s =>
 fl 0 H s fun I s =>
 bP .eql F I s fun J s =>
 gTm J x0 s fun K s =>
 gTm J w s fun L s =>
 gT J (zH none 9 K L s) s fun M s =>
 gT J (zl 0 M s) s fun N s =>
 gTl J 1 N s fun O s =>
 gTm J x0 s fun Q s =>
 gTm J B s fun R s =>
 gT J (zH none 9 Q R s) s fun S s =>
 gT J (zl 0 S s) s fun T s =>
 gTl J 1 T s fun U s =>
 gT J (bP .eql O U s) s fun V s =>
 anC J V s fun W s =>
 zp W (z1 Z (iN 5) s) (bP .add B (iN 1) s fun X s =>
 A [X] s)) (bP .add w (iN 1) s fun Y s =>
 u [Y] s)) (z1 Z (iN 0) s)))
theorem zjL : F1 Tryz.prog zea zjV := zm [.l [3] [(2, 1),(4, 2),(11, 24)], .l [6] [(2, 1),(7, 1),(35, 39)], .l [7] [(2, 1),(41, 33)], .d [(0, 28)] []] Tryz.func128 (by decide +kernel) (by kernel_rfl) fun {_ _ _ _} => cast (by kernel_rfl)
def zmd (P : Program) (x0 x1 : AV) (σ : LO) (Z : ZT) : Prop :=
 cA P zea [x1] σ fun a s =>
 bP .neq a (iN 0) s fun b s =>
 zp b (z1 Z x0 s) (zaw .sl x1 s fun c s =>
 zag (.int .u64) c s fun d s =>
 cA P zaE [x0,d] s fun e s =>
 zbe [e,(iN 0)] s fun v s f =>
 zay v fun g v => zay v fun h v => zaw .sl x1 s fun i s =>
 bP .lss h i s fun j s =>
 zp j (zH none 9 x1 h s fun l s =>
 zl 0 l s fun m s =>
 zq true 7 m s fun n s =>
 cA P zjq [n] s fun o s =>
 ze o 0 s fun p s =>
 ze o 1 s fun _ s =>
 zH none 9 x1 h s fun r s =>
 zl 7 r s fun u s =>
 zq true 2 u s fun w s =>
 cA P zaV [g,p] s fun y t =>
 zQ u s t ∧ (cA P zjo [y,w] t fun z s =>
 bP .add h (iN 1) s fun A s =>
 f [z,A] s)) (z1 Z g s))
theorem zlP : F2 Tryz.prog zig zmd := zm [.l [0, 5] [(6, 2),(17, 24)], .d [(0, 2),(3, 5),(2, 1),(8, 2)] [(2, [38])]] Tryz.func129 (by decide +kernel) (by kernel_rfl) fun {_ _ _ _ _} => cast (by kernel_rfl)
def S_r07_bad (P : Program) (x0 : AV) (σ : LO) (Z : ZT) : Prop :=
 zP [iN 0,iN 0] σ fun a s =>
 zC (zS [iN 0,iN 0] [(0, 1,x0)]) s fun b s =>
 zo 2 a b s fun _ s =>
 Z (zB (zak a s true 2) (some [])) s
theorem e_r07_bad : F1 Tryz.prog zdj S_r07_bad := zm [] Tryz.func130 (by decide +kernel) (by kernel_rfl) fun {_ _ _ _} => cast (by kernel_rfl)
def ziX (P : Program) (x0 x1 : AV) (σ : LO) (Z : ZT) : Prop :=
 zbu x1 σ fun a s =>
 zP [iN 0,iN 0] s fun b s =>
 zq true 5 a s fun c s =>
 cA P zgV [c] s fun d s =>
 bP .neq d (iN 0) s fun e s =>
 zp e (cA P zdj [d] s fun f s =>
 zo 2 b f s fun _ s =>
 Z (zB (zak b s true 2) (zB (some eN) (some []))) s) (fl 0 a s fun h s =>
 bP .eql h (iN 0) s fun i s =>
 zp i (zC (zS [iN 0,iN 0] []) s fun j s =>
 zo 2 b j s fun _ s =>
 Z (zB (zak b s true 2) (zB (some eN) (some []))) s) (fl 0 a s fun m s =>
 bP .eql m (iN 1) s fun n s =>
 zp n (fl 1 a s fun o s =>
 cA P zej [x0,o] s fun p s =>
 zo 2 b p s fun _ s =>
 Z (zB (zak b s true 2) (zB (some eN) (some []))) s) (fl 1 a s fun r s =>
 cA P zeR [x0,r] s fun u s =>
 bP .lss u (iN 0) s fun w s =>
 zp w (cA P zdj [(iN 4)] s fun y s =>
 zo 2 b y s fun _ s =>
 Z (zB (zak b s true 2) (zB (some eN) (some []))) s) (fl 0 a s fun A s =>
 bP .eql A (iN 2) s fun B s =>
 zp B (zq true 5 a s fun C s =>
 cA P zdQ [x0,u,C] s fun D s =>
 ze D 0 s fun E s =>
 ze D 1 s fun F s =>
 zo 2 b E s fun _ s =>
 Z (zB (zak b s true 2) (zB (some F) (some []))) s) (bP .eql A (iN 3) s fun H s =>
 zp H (zq true 5 a s fun I s =>
 cA P zek [x0,u,I] s fun J s =>
 zo 2 b J s fun _ s =>
 Z (zB (zak b s true 2) (zB (some eN) (some []))) s) (nfl 0 x0 s fun L s =>
 il true 4 4 L u s fun M s =>
 cp [(.d (.str [])),iN 0,eN,eN] 4 M s fun N s =>
 fl 3 a s fun O s =>
 fl 1 N s fun Q s =>
 bP .lss O Q s fun R s =>
 gF R (zl 3 a s) s fun S s =>
 gF R (zq false 1 S s) s fun T s =>
 gF R (zq true 4 N s) s fun U s =>
 gF R (cA P zbV [U] s) s fun V t =>
 zQ S s t ∧ (gF R (bP .gtr T V t) t fun W s =>
 orC R W s fun X s =>
 zp X (cA P zdj [(iN 72)] s fun Y s =>
 zo 2 b Y s fun _ s =>
 Z (zB (zak b s true 2) (zB (some eN) (some []))) s) (zby x0 s fun b0 s =>
 zl 0 b0 s fun c0 s =>
 zq false 1 c0 s fun d0 s =>
 fl 2 N s fun e0 s =>
 fl 3 a s fun f0 s =>
 fl 1 N s fun g0 s =>
 bP .sub f0 g0 s fun h0 s =>
 zbT (.sl 1) e0 (some h0) none none s fun i0 s =>
 zw 1 24 eN i0 s fun j0 t =>
 zQ c0 s t ∧ (zH none 4 d0 u t fun l0 s =>
 zl 2 l0 s fun m0 s =>
 zo 1 m0 j0 s fun _ s =>
 nfl 0 x0 s fun p0 s =>
 fl 3 a s fun q0 s =>
 zH none 4 p0 u s fun r0 s =>
 zl 1 r0 s fun u0 s =>
 zo 1 u0 q0 s fun _ s =>
 fl 3 a s fun y0 s =>
 zC (zS [iN 0,iN 0] [(1, 1,y0)]) s fun z0 s =>
 zo 2 b z0 s fun _ s =>
 Z (zB (zak b s true 2) (zB (some eN) (some []))) s)))))))))
theorem ziJ : F2 Tryz.prog zfl ziX := zm [.d [(0, 12)] [(9, [63])], .d [(0, 18)] [(14, [72])], .d [(0, 10)] []] Tryz.func131 (by decide +kernel) (by kernel_rfl) fun {_ _ _ _ _} => cast (by kernel_rfl)
def S_r11_num (P : Program) (x0 : AV) (σ : LO) (Z : ZT) : Prop :=
 bP .geq x0 (iN 0) σ fun a s =>
 gTm a x0 s fun b s =>
 gT a (bP .leq b (iN 9007199254740992) s) s fun c s =>
 anC a c s fun d s =>
 z1 Z d s
theorem e_r11_num : F1 Tryz.prog ziw S_r11_num := zm [] Tryz.func132 (by decide +kernel) (by kernel_rfl) fun {_ _ _ _} => cast (by kernel_rfl)
def S_r11_put (P : Program) (x0 x1 : AV) (σ : LO) (Z : ZT) : Prop :=
 zcC [x1,(iN 0)] σ fun a s =>
 zag (.int .u64) a s fun b s =>
 cA P zaE [x0,b] s fun c s =>
 z1 Z c s
theorem e_r11_put : F2 Tryz.prog ziv S_r11_put := zm [] Tryz.func133 (by decide +kernel) (by kernel_rfl) fun {_ _ _ _ _} => cast (by kernel_rfl)
def zgi (P : Program) (x0 x1 : AV) (σ : LO) (Z : ZT) : Prop :=
 cA P zqF [x1] σ fun a s =>
 unC .not a s fun b s =>
 zp b (cA P zaK [x0,(iN 61)] s fun _ s =>
 Z (some []) s) (Z (some []) s)
theorem zfZ : F2 Tryz.prog zdR zgi := zm [] Tryz.func134 (by decide +kernel) (by kernel_rfl) fun {_ _ _ _ _} => cast (by kernel_rfl)
def zhv (P : Program) (x0 x1 : AV) (σ : LO) (Z : ZT) : Prop :=
 cA P zbQ [x0,x1,(iN 0),(iN 9007199254740992)] σ fun _ s =>
 Z (some []) s
theorem zhi : F2 Tryz.prog zaR zhv := zm [] Tryz.func135 (by decide +kernel) (by kernel_rfl) fun {_ _ _ _ _} => cast (by kernel_rfl)
def zgj (P : Program) (x0 x1 x2 : AV) (σ : LO) (Z : ZT) : Prop :=
 cA P zbQ [x0,x1,(iN 0),x2] σ fun _ s =>
 Z (some []) s
theorem zga : F3 Tryz.prog zaX zgj := zm [] Tryz.func136 (by decide +kernel) (by kernel_rfl) fun {_ _ _ _ _ _} => cast (by kernel_rfl)
def zhu (P : Program) (x0 x1 : AV) (σ : LO) (Z : ZT) : Prop :=
 cA P zbQ [x0,x1,(iN 1),(iN 9007199254740992)] σ fun _ s =>
 Z (some []) s
theorem zhh : F2 Tryz.prog zem zhu := zm [] Tryz.func137 (by decide +kernel) (by kernel_rfl) fun {_ _ _ _ _} => cast (by kernel_rfl)
def zhX (P : Program) (x0 x1 x2 x3 : AV) (σ : LO) (Z : ZT) : Prop :=
 bP .lss x1 x2 σ fun a s =>
 gFm a x1 s fun b s =>
 gFm a x3 s fun c s =>
 gF a (bP .gtr b c s) s fun d s =>
 orC a d s fun e s =>
 zp e (cA P zaK [x0,(iN 100)] s fun _ s =>
 Z (some []) s) (Z (some []) s)
theorem zhP : F4 Tryz.prog zbQ zhX := zm [] Tryz.func138 (by decide +kernel) (by kernel_rfl) fun {_ _ _ _ _ _ _} => cast (by kernel_rfl)
def zgk (P : Program) (x0 x1 : AV) (σ : LO) (Z : ZT) : Prop :=
 zbu x1 σ fun a s =>
 fl 0 a s fun b s =>
 cA P zaR [x0,b] s fun _ s =>
 fl 1 a s fun d s =>
 cA P zaR [x0,d] s fun _ s =>
 (fun (f : LO → Prop) => fl 0 a s fun i s =>
 bP .eql i (iN 0) s fun j s =>
 fl 1 a s fun l s =>
 bP .eql l (iN 0) s fun m s =>
 zcS .neq .bool j m s fun n s =>
 gFl n 0 a s fun o s =>
 gF n (bP .eql o (iN 0) s) s fun p s =>
 gFm n p s fun q s =>
 gTl q 2 a s fun r s =>
 gT q (zaw .sl r s) s fun u s =>
 gT q (bP .gtr u (iN 0) s) s fun w s =>
 gF n (anC q w s) s fun y s =>
 orC n y s fun z s =>
 zp z (cA P zaK [x0,(iN 100)] s fun _ s =>
 f s) (f s))
 (fun  s => fl 2 a s fun g s =>
 cA P zbt [x0,g] s fun _ s =>
 Z (some []) s)
theorem zgb : F2 Tryz.prog zdS zgk := zm [] Tryz.func139 (by decide +kernel) (by kernel_rfl) fun {_ _ _ _ _} => cast (by kernel_rfl)
def zpR (P : Program) (x0 : AV) (σ : LO) (Z : ZT) : Prop :=
 cA P zaS [x0] σ fun a s =>
 zcS .neq .ptr a (.d .nilp) s fun b s =>
 z1 Z b s
theorem zpC : F1 Tryz.prog zkB zpR := zm [] Tryz.func140 (by decide +kernel) (by kernel_rfl) fun {_ _ _ _} => cast (by kernel_rfl)
def zob (P : Program) (x0 : AV) (σ : LO) (Z : ZT) : Prop :=
 zbu x0 σ fun a s =>
 fl 0 a s fun b s =>
 fl 1 a s fun c s =>
 fl 2 a s fun d s =>
 fl 3 a s fun e s =>
 fl 4 a s fun f s =>
 zt false 1 5 (zS (rep [iN 0] 5) [(0, 1,b),(1, 1,c),(2, 1,d),(3, 1,e),(4, 1,f)]) s fun g s =>
 zaw .sl g s fun h s =>
 zbe [(iN 0)] s fun v s i =>
 zay v fun j v => bP .lss j h s fun l s =>
 zp l (il false 1 1 g j s fun m s =>
 bP .lss m (iN 0) s fun n s =>
 gFm n m s fun o s =>
 gF n (bP .gtr o (iN 9007199254740992) s) s fun p s =>
 orC n p s fun q s =>
 zp q (z1 Z (iN 90) s) (bP .add j (iN 1) s fun r s =>
 i [r] s)) (z1 Z (iN 0) s)
theorem znD : F1 Tryz.prog zgq zob := zm [.l [17] [(2, 1),(4, 1),(18, 10)]] Tryz.func141 (by decide +kernel) (by kernel_rfl) fun {_ _ _ _} => cast (by kernel_rfl)
def zpN (P : Program) (x0 : AV) (σ : LO) (Z : ZT) : Prop :=
 zbu x0 σ fun a s =>
 fl 0 a s fun b s =>
 bP .eql b (iN 0) s fun c s =>
 gTl c 1 a s fun d s =>
 gT c (bP .eql d (iN 0) s) s fun e s =>
 anC c e s fun f s =>
 gTl f 2 a s fun g s =>
 gT f (zaw .sl g s) s fun h s =>
 gT f (bP .eql h (iN 0) s) s fun i s =>
 anC f i s fun j s =>
 z1 Z j s
theorem zpy : F1 Tryz.prog zky zpN := zm [] Tryz.func142 (by decide +kernel) (by kernel_rfl) fun {_ _ _ _} => cast (by kernel_rfl)
def zhW (P : Program) (x0 x1 x2 x3 : AV) (σ : LO) (Z : ZT) : Prop :=
 bP .geq x1 (iN 1) σ fun a s =>
 gTm a x1 s fun b s =>
 gT a (bP .leq b (iN 9007199254740992) s) s fun c s =>
 anC a c s fun d s =>
 gTm d x1 s fun e s =>
 gT d (bP .rem e (iN 4) s) s fun f s =>
 gT d (bP .eql f (iN 0) s) s fun g s =>
 anC d g s fun h s =>
 gTm h x2 s fun i s =>
 gT h (bP .geq i (iN 1) s) s fun j s =>
 anC h j s fun l s =>
 gTm l x2 s fun m s =>
 gT l (bP .leq m (iN 9007199254740992) s) s fun n s =>
 anC l n s fun o s =>
 gTm o x3 s fun p s =>
 gT o (bP .geq p (iN 0) s) s fun q s =>
 anC o q s fun r s =>
 gTm r x3 s fun u s =>
 gTm r x0 s fun w s =>
 gT r (zby w s) s fun y s =>
 gTl r 0 y s fun z s =>
 gT r (cA P zfN [z] s) s fun A s =>
 gT r (bP .lss u A s) s fun B s =>
 anC r B s fun C s =>
 z1 Z C s
theorem zhO : F4 Tryz.prog zeV zhW := zm [] Tryz.func143 (by decide +kernel) (by kernel_rfl) fun {_ _ _ _ _ _ _} => cast (by kernel_rfl)
def zpL (P : Program) (x0 : AV) (σ : LO) (Z : ZT) : Prop :=
 cA P zfu [(iN 2),x0] σ fun a s =>
 z1 Z a s
theorem zpw : F1 Tryz.prog zkx zpL := zm [] Tryz.func144 (by decide +kernel) (by kernel_rfl) fun {_ _ _ _} => cast (by kernel_rfl)
def zcd (P : Program) (x0 x1 : AV) (σ : LO) (Z : ZT) : Prop :=
 zaw .sl x0 σ fun a s =>
 zbe [(iN 0)] s fun v s b =>
 zay v fun c v => bP .lss c a s fun d s =>
 zp d (il true 2 2 x0 c s fun e s =>
 zal P x1 [dm e] s fun f s =>
 zp f (z1 Z c s) (bP .add c (iN 1) s fun g s =>
 b [g] s)) (z1 Z (iN (-1)) s)
theorem zcc : F2 Tryz.prog zbb zcd := zm [.l [8] [(4, 2),(9, 10)]] Tryz.func145 (by decide +kernel) (by kernel_rfl) fun {_ _ _ _ _} => cast (by kernel_rfl)
def zrO (P : Program) (x0 x1 : AV) (σ : LO) (Z : ZT) : Prop :=
 cA P zaS [x0] σ fun a s =>
 zcS .neq .ptr a (.d .nilp) s fun b s =>
 gTm b x1 s fun c s =>
 gT b (cA P zbY [c] s) s fun d s =>
 gT b (zcS .neq .ptr d (.d .nilp) s) s fun e s =>
 anC b e s fun f s =>
 z1 Z f s
theorem zrj : F2 Tryz.prog zmA zrO := zm [] Tryz.func146 (by decide +kernel) (by kernel_rfl) fun {_ _ _ _ _} => cast (by kernel_rfl)
def ztI (P : Program) (x0 x1 x2 x3 : AV) (σ : LO) (Z : ZT) : Prop :=
 zt false 1 4 (zS (rep [iN 0] 4) [(0, 1,x0),(1, 1,x1),(2, 1,x2),(3, 1,x3)]) σ fun a s =>
 zaw .sl a s fun b s =>
 zbe [(iN 0)] s fun v s c =>
 zay v fun d v => bP .lss d b s fun e s =>
 zp e (il false 1 1 a d s fun f s =>
 bP .lss f (iN 0) s fun g s =>
 gFm g f s fun h s =>
 gF g (bP .gtr h (iN 9007199254740992) s) s fun i s =>
 orC g i s fun j s =>
 zp j (z1 Z bF s) (bP .add d (iN 1) s fun l s =>
 c [l] s)) (z1 Z bT s)
theorem zte : F4 Tryz.prog zoI ztI := zm [.l [17] [(8, 1),(10, 1),(18, 10)]] Tryz.func147 (by decide +kernel) (by kernel_rfl) fun {_ _ _ _ _ _ _} => cast (by kernel_rfl)
def zoe (P : Program) (x0 x1 x2 x3 x4 : AV) (σ : LO) (Z : ZT) : Prop :=
 zbu x2 σ fun a s =>
 cA P zaL [x0,x4] s fun b s =>
 ze b 0 s fun c s =>
 ze b 1 s fun d s =>
 gT d (zq true 2 a s) s fun e s =>
 gTm d x3 s fun f s =>
 gTm d c s fun g s =>
 gT d (zC (zS [iN 0,iN 0] [(0, 1,f),(1, 1,g)]) s) s fun h s =>
 gT d (zcS .eql (.ints 2) e h s) s fun i s =>
 anC d i s fun j s =>
 gTm j x1 s fun l s =>
 gT j (zq true 2 a s) s fun m s =>
 gT j (cA P zdD [l,m] s) s fun n s =>
 anC j n s fun o s =>
 z1 Z o s
theorem znG : F5 Tryz.prog zjx zoe := zm [] Tryz.func148 (by decide +kernel) (by kernel_rfl) fun {_ _ _ _ _ _ _ _} => cast (by kernel_rfl)
def zkd (P : Program) (x0 x1 x2 x3 : AV) (σ : LO) (Z : ZT) : Prop :=
 m1 1 [(.d (.int .u8 0))] (.d (.int .u8 4)) σ fun a s =>
 zt false 1 4 (zS (rep [iN 0] 4) [(0, 1,x0),(1, 1,x1),(2, 1,x2),(3, 1,x3)]) s fun b s =>
 cA P zoH [a,b] s fun c s =>
 z1 Z c s
theorem zjT : F4 Tryz.prog zfO zkd := zm [] Tryz.func149 (by decide +kernel) (by kernel_rfl) fun {_ _ _ _ _ _ _} => cast (by kernel_rfl)
def zpQ (P : Program) (x0 : AV) (σ : LO) (Z : ZT) : Prop :=
 zP [(.d (.int .u8 0)),(.d (.int .u8 0)),(.d (.int .u8 0)),(.d (.int .u8 0)),(.d (.int .u8 0)),(.d (.int .u8 0)),(.d (.int .u8 0)),(.d (.int .u8 0)),(.d (.int .u8 0)),(.d (.int .u8 0))] σ fun a s =>
 zP [(.d (.int .u8 0)),(.d (.int .u8 0)),(.d (.int .u8 0)),(.d (.int .u8 0)),(.d (.int .u8 0)),(.d (.int .u8 0)),(.d (.int .u8 0)),(.d (.int .u8 0)),(.d (.int .u8 0)),(.d (.int .u8 0))] s fun b s =>
 zbe [x0,(iN 0)] s fun v s c =>
 zay v fun d v => zay v fun e v => bP .gtr d (.d (.int .u64 127)) s fun f s =>
 zp f (zag (.int .u8) d s fun g s =>
 bP .or g (.d (.int .u8 128)) s fun h s =>
 zH (some 10) 1 b e s fun i s =>
 zo 1 i h s fun _ s =>
 bP .shr d (.d (.int .u64 7)) s fun l s =>
 bP .add e (iN 1) s fun m s =>
 c [l,m] s) (zag (.int .u8) d s fun n s =>
 zH (some 10) 1 b e s fun o s =>
 zo 1 o n s fun _ s =>
 zq true 10 b s fun q s =>
 bP .add e (iN 1) s fun r s =>
 zo 10 a q s fun _ s =>
 Z (zB (zak a s true 10) (zB (some r) (some []))) s)
theorem zpB : F1 Tryz.prog zkA zpQ := zm [.l [0, 5] [(6, 11)]] Tryz.func150 (by decide +kernel) (by kernel_rfl) fun {_ _ _ _} => cast (by kernel_rfl)
def zeZ (P : Program) (x0 : AV) (σ : LO) (Z : ZT) : Prop :=
 zaw .sl x0 σ fun a s =>
 zaw .sl x0 s fun b s =>
 zbT (.sl 1) x0 none (some a) (some b) s fun c s =>
 z1 Z c s
theorem zeY : F1 Tryz.prog zcX zeZ := zm [] Tryz.func151 (by decide +kernel) (by kernel_rfl) fun {_ _ _ _} => cast (by kernel_rfl)
def ztz (P : Program) (x0 : AV) (σ : LO) (Z : ZT) : Prop :=
 cA P zmw [x0] σ fun a s =>
 bP .gtr a (iN 0) s fun b s =>
 z1 Z b s
theorem zsV : F1 Tryz.prog zlv ztz := zm [] Tryz.func152 (by decide +kernel) (by kernel_rfl) fun {_ _ _ _} => cast (by kernel_rfl)
def ztB (P : Program) (x0 : AV) (σ : LO) (Z : ZT) : Prop :=
 m1 1 [(.d (.int .u8 0))] (.d (.int .u8 0)) σ fun a s =>
 zw 1 1 a x0 s fun b s =>
 z1 Z b s
theorem zsX : F1 Tryz.prog zoB ztB := zm [] Tryz.func158 (by decide +kernel) (by kernel_rfl) fun {_ _ _ _} => cast (by kernel_rfl)
def ztA (P : Program) (x0 x1 : AV) (σ : LO) (Z : ZT) : Prop :=
 m1 1 [(.d (.int .u8 0))] (.d (.int .u8 1)) σ fun a s =>
 zcC [x0,(iN 0)] s fun b s =>
 zag (.int .u64) b s fun c s =>
 cA P zaE [a,c] s fun d s =>
 zcC [x1,(iN 0)] s fun e s =>
 zag (.int .u64) e s fun f s =>
 cA P zaE [d,f] s fun g s =>
 z1 Z g s
theorem zsW : F2 Tryz.prog zoA ztA := zm [] Tryz.func159 (by decide +kernel) (by kernel_rfl) fun {_ _ _ _ _} => cast (by kernel_rfl)
def znZ (P : Program) (x0 x1 : AV) (σ : LO) (Z : ZT) : Prop :=
 cA P zgp [x1] σ fun a s =>
 cA P zbE [x0,a] s fun b s =>
 z1 Z b s
theorem znB : F2 Tryz.prog zju znZ := zm [] Tryz.func160 (by decide +kernel) (by kernel_rfl) fun {_ _ _ _ _} => cast (by kernel_rfl)
def znY (P : Program) (x0 x1 x2 : AV) (σ : LO) (Z : ZT) : Prop :=
 cA P zeW [x1,x2] σ fun a s =>
 cA P zbE [x0,a] s fun b s =>
 z1 Z b s
theorem znA : F3 Tryz.prog zjt znY := zm [] Tryz.func161 (by decide +kernel) (by kernel_rfl) fun {_ _ _ _ _ _} => cast (by kernel_rfl)
def zrK (P : Program) (x0 : AV) (σ : LO) (Z : ZT) : Prop :=
 zbu x0 σ fun a s =>
 fl 0 a s fun b s =>
 cA P zhK [b] s fun c s =>
 ze c 0 s fun d s =>
 ze c 1 s fun e s =>
 ze c 2 s fun f s =>
 ze c 3 s fun g s =>
 fl 0 a s fun h s =>
 bP .lss h (iN 0) s fun i s =>
 gFl i 0 a s fun j s =>
 gF i (bP .gtr j (iN 4) s) s fun l s =>
 orC i l s fun m s =>
 gFm m d s fun n s =>
 gF m (unC .not n s) s fun o s =>
 gFm m o s fun p s =>
 gTl p 1 a s fun q s =>
 gT p (bP .neq q (.d (.str [])) s) s fun r s =>
 gF m (anC p r s) s fun u s =>
 orC m u s fun w s =>
 gFm w e s fun y s =>
 gF w (unC .not y s) s fun z s =>
 gFm w z s fun A s =>
 gTl A 2 a s fun B s =>
 gT A (bP .neq B (.d (.str [])) s) s fun C s =>
 gF w (anC A C s) s fun D s =>
 orC w D s fun E s =>
 gFm E f s fun F s =>
 gF E (unC .not F s) s fun G s =>
 gFm E G s fun H s =>
 gTl H 3 a s fun I s =>
 gT H (bP .neq I (iN 0) s) s fun J s =>
 gF E (anC H J s) s fun K s =>
 orC E K s fun L s =>
 gFm L g s fun M s =>
 gF L (unC .not M s) s fun N s =>
 gFm L N s fun O s =>
 gTl O 4 a s fun Q s =>
 gT O (zaw .sl Q s) s fun R s =>
 gT O (bP .gtr R (iN 0) s) s fun S s =>
 gF L (anC O S s) s fun T s =>
 orC L T s fun U s =>
 zp U (z1 Z (iN 60) s) (gTl d 1 a s fun V s =>
 gT d (cA P zlv [V] s) s fun W s =>
 gT d (unC .not W s) s fun X s =>
 anC d X s fun Y s =>
 gFm Y e s fun a0 s =>
 gFm Y a0 s fun b0 s =>
 gTl b0 2 a s fun c0 s =>
 gT b0 (cA P zlv [c0] s) s fun d0 s =>
 gT b0 (unC .not d0 s) s fun e0 s =>
 gF Y (anC b0 e0 s) s fun f0 s =>
 orC Y f0 s fun g0 s =>
 zp g0 (z1 Z (iN 61) s) (gTl g 4 a s fun h0 s =>
 gT g (zaw .sl h0 s) s fun i0 s =>
 gT g (bP .lss i0 (iN 1) s) s fun j0 s =>
 gTm g j0 s fun l0 s =>
 gFl l0 4 a s fun m0 s =>
 gF l0 (zaw .sl m0 s) s fun o0 s =>
 gF l0 (bP .gtr o0 (iN 4) s) s fun p0 s =>
 gT g (orC l0 p0 s) s fun q0 s =>
 anC g q0 s fun r0 s =>
 zp r0 (z1 Z (iN 62) s) (zbe [(iN 0)] s fun v s u0 =>
 zay v fun w0 v => fl 4 a s fun y0 s =>
 zaw .sl y0 s fun z0 s =>
 bP .lss w0 z0 s fun A0 s =>
 zp A0 (fl 4 a s fun B0 s =>
 il false 1 1 B0 w0 s fun C0 s =>
 zaw .sl C0 s fun D0 s =>
 bP .gtr D0 (iN 64) s fun E0 s =>
 zp E0 (z1 Z (iN 62) s) (bP .add w0 (iN 1) s fun F0 s =>
 u0 [F0] s)) (fl 3 a s fun G0 s =>
 bP .lss G0 (iN 0) s fun H0 s =>
 gFl H0 3 a s fun I0 s =>
 gF H0 (bP .gtr I0 (iN 9007199254740992) s) s fun J0 s =>
 orC H0 J0 s fun K0 s =>
 zp K0 (z1 Z (iN 60) s) (z1 Z (iN 0) s)))))
theorem zrf : F1 Tryz.prog zgV zrK := zm [.l [7] [(2, 1),(90, 14)]] Tryz.func165 (by decide +kernel) (by kernel_rfl) fun {_ _ _ _} => cast (by kernel_rfl)
def zpJ (P : Program) (x0 : AV) (σ : LO) (Z : ZT) : Prop :=
 bP .eql x0 (iN 1) σ fun a s =>
 zp a (Z (zB (some bT) (zB (some bF) (zB (some bF) (zB (some bF) (some []))))) s) (bP .eql x0 (iN 2) s fun b s =>
 zp b (Z (zB (some bT) (zB (some bF) (zB (some bF) (zB (some bT) (some []))))) s) (bP .eql x0 (iN 3) s fun c s =>
 zp c (Z (zB (some bT) (zB (some bT) (zB (some bT) (zB (some bF) (some []))))) s) (bP .eql x0 (iN 4) s fun d s =>
 zp d (Z (zB (some bT) (zB (some bF) (zB (some bT) (zB (some bF) (some []))))) s) (Z (zB (some bF) (zB (some bF) (zB (some bF) (zB (some bF) (some []))))) s))))
theorem zpu : F1 Tryz.prog zhK zpJ := zm [] Tryz.func166 (by decide +kernel) (by kernel_rfl) fun {_ _ _ _} => cast (by kernel_rfl)
def zla (P : Program) (x0 : AV) (σ : LO) (Z : ZT) : Prop :=
 zbu x0 σ fun a s =>
 fl 0 a s fun b s =>
 bP .lss b (iN 0) s fun c s =>
 gFl c 0 a s fun d s =>
 gF c (bP .geq d (iN 21) s) s fun e s =>
 orC c e s fun f s =>
 gFl f 1 a s fun g s =>
 gF f (bP .lss g (iN 1) s) s fun h s =>
 orC f h s fun i s =>
 gFl i 1 a s fun j s =>
 gF i (bP .gtr j (iN 9007199254740992) s) s fun l s =>
 orC i l s fun m s =>
 zp m (z1 Z (iN 81) s) (z1 Z (iN 0) s)
theorem zkJ : F1 Tryz.prog zeQ zla := zm [] Tryz.func167 (by decide +kernel) (by kernel_rfl) fun {_ _ _ _} => cast (by kernel_rfl)
end Go.Proofs.YtncpaekiidpchaaGreat
