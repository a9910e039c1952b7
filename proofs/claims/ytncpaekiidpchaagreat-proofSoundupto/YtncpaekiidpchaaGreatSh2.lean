/- The conditions of each function, its slots as variables, and that the logic's conditions are these. Printed by program. -/
import Derived.Test.YtncpaekiidpchaaGreatNm
import Derived.KernelRfl
set_option linter.all false
set_option maxRecDepth 100000
namespace Go.Proofs.YtncpaekiidpchaaGreat
open Go.AW
def zjg (P : Program) (σ : LO) (Z : ZT) : Prop :=
 zat σ fun a s =>
 zC (zS [eN,(.d .nilmap)] [(1, 1,a)]) s fun b s =>
 zbp b s fun c s =>
 z1 Z c s
theorem ziS : F0 Tryz.prog zdO zjg := zm [] Tryz.func29 (by decide +kernel) (by kernel_rfl) fun {_ _ _} => cast (by kernel_rfl)
def zkk (P : Program) (σ : LO) (Z : ZT) : Prop :=
 zat σ fun a s =>
 zC (zS [eN,(.d .nilmap)] [(1, 1,a)]) s fun b s =>
 zbp b s fun c s =>
 z1 Z c s
theorem zjX : F0 Tryz.prog zeh zkk := zm [] Tryz.func30 (by decide +kernel) (by kernel_rfl) fun {_ _ _} => cast (by kernel_rfl)
def zpS (P : Program) (x0 x1 : AV) (σ : LO) (Z : ZT) : Prop :=
 m1 1 [(.d (.int .u8 0))] x1 σ fun a s =>
 m1 1 [eN] a s fun b s =>
 zC (zS [iN 0,(.d (.str [])),(.d (.str [])),iN 0,eN] [(0, 1,(iN 2)),(1, 1,(.d (.str [116]))),(4, 1,b)]) s fun c s =>
 zC (zS [iN 0,iN 0,iN 0,(.d (.str [])),(.d (.str [])),iN 0,eN] [(1, 1,x0),(2, 5,c)]) s fun d s =>
 m1 7 [iN 0,iN 0,iN 0,(.d (.str [])),(.d (.str [])),iN 0,eN] d s fun e s =>
 z1 Z e s
theorem zpD : F2 Tryz.prog zhM zpS := zm [] Tryz.func31 (by decide +kernel) (by kernel_rfl) fun {_ _ _ _ _} => cast (by kernel_rfl)
def znV (P : Program) (x0 : AV) (σ : LO) (Z : ZT) : Prop :=
 zP [iN 0,iN 0,iN 0,iN 0,iN 0] σ fun a s =>
 cA P zfr [x0,eN] s fun b s =>
 zC (zS [iN 0,iN 0,iN 0,iN 0,iN 0] [(3, 1,b)]) s fun c s =>
 cp [iN 0,iN 0,iN 0,iN 0,iN 0] 5 c s fun d s =>
 zC (zS [eN,iN 0,iN 0,iN 0,iN 0,iN 0,iN 0,iN 0,iN 0,iN 0,iN 0,iN 0,iN 0,iN 0,iN 0,iN 0,iN 0,iN 0,iN 0,iN 0,iN 0,iN 0,iN 0,iN 0,iN 0] []) s fun e s =>
 zbp e s fun f s =>
 cA P zde [f,x0] s fun g s =>
 zl 4 d s fun h s =>
 zo 1 h g s fun _ s =>
 fl 3 d s fun j s =>
 bP .eql j (iN 0) s fun l s =>
 gFl l 4 d s fun m s =>
 gF l (bP .eql m (iN 0) s) s fun n s =>
 orC l n s fun o s =>
 zp o (zC (zS [iN 0,iN 0,iN 0,iN 0,iN 0] []) s fun p s =>
 zo 5 a p s fun _ s =>
 Z (zB (zak a s true 5) (zB (some (iN 6)) (some []))) s) (zq true 5 d s fun r s =>
 zo 5 a r s fun _ s =>
 Z (zB (zak a s true 5) (zB (some (iN 0)) (some []))) s)
theorem zny : F1 Tryz.prog zjr znV := zm [] Tryz.func32 (by decide +kernel) (by kernel_rfl) fun {_ _ _ _} => cast (by kernel_rfl)
def ztE (P : Program) (x0 x1 x2 : AV) (σ : LO) (Z : ZT) : Prop :=
 zbp x2 σ fun a s =>
 zP [iN 0,iN 0,iN 0,(.d (.str [])),(.d (.str [])),iN 0,eN,iN 0,iN 0] s fun b s =>
 zq true 7 a s fun c s =>
 cA P zjv [c] s fun d s =>
 ze d 0 s fun e s =>
 ze d 1 s fun f s =>
 bP .neq f (iN 0) s fun g s =>
 zp g (zC (zS [iN 0,iN 0,iN 0,(.d (.str [])),(.d (.str [])),iN 0,eN,iN 0,iN 0] []) s fun h s =>
 zo 9 b h s fun _ s =>
 Z (zB (zak b s true 9) (zB (some f) (some []))) s) (fl 0 a s fun j s =>
 cA P zkC [j] s fun l s =>
 cA P zbc [x0,e] s fun m s =>
 cA P zdN [x1,l,m] s fun n s =>
 ze n 0 s fun o s =>
 ze n 1 s fun p s =>
 cp [iN 0,iN 0] 2 o s fun q s =>
 bP .neq p (iN 0) s fun r s =>
 zp r (zC (zS [iN 0,iN 0,iN 0,(.d (.str [])),(.d (.str [])),iN 0,eN,iN 0,iN 0] []) s fun u s =>
 zo 9 b u s fun _ s =>
 Z (zB (zak b s true 9) (zB (some p) (some []))) s) (zq true 7 a s fun y s =>
 zq true 2 q s fun z s =>
 zC (zS [iN 0,iN 0,iN 0,(.d (.str [])),(.d (.str [])),iN 0,eN,iN 0,iN 0] [(0, 7,y),(7, 2,z)]) s fun A s =>
 zo 9 b A s fun _ s =>
 Z (zB (zak b s true 9) (zB (some (iN 0)) (some []))) s))
theorem zsZ : F3 Tryz.prog ziB ztE := zm [] Tryz.func33 (by decide +kernel) (by kernel_rfl) fun {_ _ _ _ _ _} => cast (by kernel_rfl)
def znW (P : Program) (x0 x1 x2 x3 : AV) (σ : LO) (Z : ZT) : Prop :=
 zbp x2 σ fun a s =>
 zP [iN 0,iN 0,iN 0,iN 0,iN 0] s fun b s =>
 zq true 5 a s fun c s =>
 cA P zjs [c] s fun d s =>
 bP .neq d (iN 0) s fun e s =>
 zp e (zC (zS [iN 0,iN 0,iN 0,iN 0,iN 0] []) s fun f s =>
 zo 5 b f s fun _ s =>
 Z (zB (zak b s true 5) (zB (some eN) (zB (some eN) (zB (some d) (some []))))) s) (fl 0 a s fun h s =>
 bP .eql h (iN 9007199254740992) s fun i s =>
 zp i (zC (zS [iN 0,iN 0,iN 0,iN 0,iN 0] []) s fun j s =>
 zo 5 b j s fun _ s =>
 Z (zB (zak b s true 5) (zB (some eN) (zB (some eN) (zB (some (iN 6)) (some []))))) s) (fl 0 a s fun m s =>
 bP .add m (iN 1) s fun n s =>
 zC (zS [iN 0,iN 0,iN 0,iN 0,iN 0] [(0, 1,n)]) s fun o s =>
 cp [iN 0,iN 0,iN 0,iN 0,iN 0] 5 o s fun p s =>
 cA P zkD [x0,x3] s fun q s =>
 ze q 0 s fun r s =>
 ze q 1 s fun u s =>
 bP .neq u (iN 0) s fun w s =>
 zp w (zC (zS [iN 0,iN 0,iN 0,iN 0,iN 0] []) s fun y s =>
 zo 5 b y s fun _ s =>
 Z (zB (zak b s true 5) (zB (some eN) (zB (some eN) (zB (some u) (some []))))) s) (zl 2 p s fun A s =>
 zo 1 A r s fun _ s =>
 zq true 5 a s fun C s =>
 cA P zhK [x0,C] s fun D s =>
 ze D 0 s fun E s =>
 ze D 1 s fun F s =>
 zl 1 p s fun G s =>
 zo 1 G E s fun _ s =>
 bP .neq F (iN 0) s fun I s =>
 zp I (zC (zS [iN 0,iN 0,iN 0,iN 0,iN 0] []) s fun J s =>
 zo 5 b J s fun _ s =>
 Z (zB (zak b s true 5) (zB (some eN) (zB (some eN) (zB (some F) (some []))))) s) (zaZ [eN,eN,(iN 0)] s fun v s L =>
 zay v fun M v => zay v fun N v => zay v fun O v => zax .sl x3 s fun Q s =>
 bP .lss O Q s fun R s =>
 zp R (zI none 9 x3 O s fun S s =>
 zl 0 S s fun T s =>
 zq true 7 T s fun U s =>
 cA P zeX [x1,U] s fun V s =>
 ze V 0 s fun W s =>
 ze V 1 s fun X s =>
 ze V 2 s fun Y s =>
 cp [iN 0,iN 0] 2 W s fun a0 s =>
 zw 3 48 M X s fun b0 s =>
 zI none 9 x3 O s fun c0 s =>
 zl 0 c0 s fun d0 s =>
 fl 0 d0 s fun e0 s =>
 zI none 9 x3 O s fun f0 s =>
 zl 0 f0 s fun g0 s =>
 fl 1 g0 s fun h0 s =>
 zq true 2 a0 s fun i0 s =>
 zC (zS [iN 0,iN 0,iN 0,iN 0,bF] [(0, 1,e0),(1, 1,h0),(2, 2,i0),(4, 1,Y)]) s fun j0 s =>
 m1 5 [iN 0,iN 0,iN 0,iN 0,bF] j0 s fun l0 s =>
 zw 5 40 N l0 s fun m0 s =>
 bP .add O (iN 1) s fun o0 s =>
 L [b0,m0,o0] s) (cA P zkB [M] s fun p0 s =>
 cA P zfr [x0,p0] s fun q0 s =>
 zl 3 p s fun r0 s =>
 zo 1 r0 q0 s fun _ s =>
 cA P zde [x1,x0] s fun w0 s =>
 zl 4 p s fun y0 s =>
 zo 1 y0 w0 s fun _ s =>
 fl 3 p s fun A0 s =>
 bP .eql A0 (iN 0) s fun B0 s =>
 gFl B0 4 p s fun C0 s =>
 gF B0 (bP .eql C0 (iN 0) s) s fun D0 s =>
 orC B0 D0 s fun E0 s =>
 zp E0 (zC (zS [iN 0,iN 0,iN 0,iN 0,iN 0] []) s fun F0 s =>
 zo 5 b F0 s fun _ s =>
 Z (zB (zak b s true 5) (zB (some eN) (zB (some eN) (zB (some (iN 6)) (some []))))) s) (zq true 5 p s fun H0 s =>
 zo 5 b H0 s fun _ s =>
 Z (zB (zak b s true 5) (zB (some M) (zB (some N) (zB (some (iN 0)) (some []))))) s))))))
theorem znz : F4 Tryz.prog zgv znW := zm [.l [16, 17, 18] [(19, 3),(59, 38)], .d [(0, 19)] []] Tryz.func34 (by decide +kernel) (by kernel_rfl) fun {_ _ _ _ _ _ _} => cast (by kernel_rfl)
def zpL (P : Program) (x0 x1 : AV) (σ : LO) (Z : ZT) : Prop :=
 zbp x1 σ fun a s =>
 zq true 5 a s fun b s =>
 cA P zmF [b] s fun c s =>
 ze c 0 s fun d s =>
 ze c 1 s fun e s =>
 bP .neq e (iN 0) s fun f s =>
 zp f (z2 Z (iN 0) e s) (cA P zbc [x0,d] s fun g s =>
 bP .eql g (iN 0) s fun h s =>
 zp h (z2 Z (iN 0) (iN 6) s) (z2 Z g (iN 0) s))
theorem zpw : F2 Tryz.prog zhK zpL := zm [] Tryz.func35 (by decide +kernel) (by kernel_rfl) fun {_ _ _ _ _} => cast (by kernel_rfl)
def ztA (P : Program) (x0 : AV) (σ : LO) (Z : ZT) : Prop :=
 zaZ [eN,(iN 0)] σ fun v s a =>
 zay v fun b v => zay v fun c v => bP .lss c (iN 13) s fun d s =>
 zp d ((fun (e : AV → LO → Prop) => cA P zix [x0,c] s fun h s =>
 zp h (m1 1 [iN 0] c s fun i s =>
 zw 1 8 b i s fun j s =>
 e j s) (e b s))
 (fun f s => bP .add c (iN 1) s fun g s =>
 a [f,g] s)) (z1 Z b s)
theorem zsV : F1 Tryz.prog zlC ztA := zm [.l [3, 4] [(5, 11)]] Tryz.func36 (by decide +kernel) (by kernel_rfl) fun {_ _ _ _} => cast (by kernel_rfl)
def ztD (P : Program) (x0 x1 x2 x3 x4 x5 x6 : AV) (σ : LO) (Z : ZT) : Prop :=
 zP [iN 0,iN 0] σ fun a s =>
 cA P zqI [x3,x4,x5,x6] s fun b s =>
 unC .not b s fun c s =>
 zp c (zC (zS [iN 0,iN 0] []) s fun d s =>
 zo 2 a d s fun _ s =>
 Z (zB (zak a s true 2) (zB (some (iN 1)) (some []))) s) (cA P zgY [x3,x4,x5,x6] s fun f s =>
 cA P zoy [x0,x1,x2,f] s fun g s =>
 ze g 0 s fun h s =>
 ze g 1 s fun i s =>
 zo 2 a h s fun _ s =>
 Z (zB (zak a s true 2) (zB (some i) (some []))) s)
theorem zsY : F7 Tryz.prog ziA ztD := zm [] Tryz.func37 (by decide +kernel) (by kernel_rfl) fun {_ _ _ _ _ _ _ _ _ _} => cast (by kernel_rfl)
def zpK (P : Program) (x0 : AV) (σ : LO) (Z : ZT) : Prop :=
 zaZ [eN,(iN 0)] σ fun v s a =>
 zay v fun b v => zay v fun c v => zax .sl x0 s fun d s =>
 bP .lss c d s fun e s =>
 zp e (il true 3 3 x0 c s fun f s =>
 cA P zfq [f] s fun g s =>
 m1 1 [eN] g s fun h s =>
 zw 1 24 b h s fun i s =>
 bP .add c (iN 1) s fun j s =>
 a [i,j] s) (z1 Z b s)
theorem zpv : F1 Tryz.prog zkB zpK := zm [.l [3, 4] [(5, 14)]] Tryz.func40 (by decide +kernel) (by kernel_rfl) fun {_ _ _ _} => cast (by kernel_rfl)
def zhZ (P : Program) (x0 : AV) (σ : LO) (Z : ZT) : Prop :=
 zcS .eql .ptr x0 (.d .nilp) σ fun a s =>
 gFm a x0 s fun b s =>
 gF a (zbu b s) s fun c s =>
 gFl a 1 c s fun d s =>
 gF a (zcS .eql .map d (.d .nilmap) s) s fun e s =>
 orC a e s fun f s =>
 z1 Z f s
theorem zhR : F1 Tryz.prog zbT zhZ := zm [] Tryz.func41 (by decide +kernel) (by kernel_rfl) fun {_ _ _ _} => cast (by kernel_rfl)
def zoe (P : Program) (x0 : AV) (σ : LO) (Z : ZT) : Prop :=
 zan false x0 σ fun a s =>
 zp a (z1 Z eN s) (zt false 1 0 (zS (rep [(.d (.int .u8 0))] 0) []) s fun b s =>
 zw 1 1 b x0 s fun c s =>
 z1 Z c s)
theorem znH : F1 Tryz.prog zjA zoe := zm [] Tryz.func42 (by decide +kernel) (by kernel_rfl) fun {_ _ _ _} => cast (by kernel_rfl)
def zhC (P : Program) (x0 : AV) (σ : LO) (Z : ZT) : Prop :=
 zcS .eql .ptr x0 (.d .nilp) σ fun a s =>
 gFm a x0 s fun b s =>
 gF a (zbu b s) s fun c s =>
 gFl a 1 c s fun d s =>
 gF a (zcS .eql .map d (.d .nilmap) s) s fun e s =>
 orC a e s fun f s =>
 z1 Z f s
theorem zhq : F1 Tryz.prog zbz zhC := zm [] Tryz.func43 (by decide +kernel) (by kernel_rfl) fun {_ _ _ _} => cast (by kernel_rfl)
def zhB (P : Program) (x0 : AV) (σ : LO) (Z : ZT) : Prop :=
 cA P zbT [x0] σ fun a s =>
 zp a (z1 Z (.d .nilp) s) (nfl 0 x0 s fun b s =>
 cA P zkG [b] s fun c s =>
 ze c 0 s fun d s =>
 ze c 1 s fun _ s =>
 z1 Z d s)
theorem zhp : F1 Tryz.prog zaQ zhB := zm [] Tryz.func44 (by decide +kernel) (by kernel_rfl) fun {_ _ _ _} => cast (by kernel_rfl)
def zgt (P : Program) (x0 : AV) (σ : LO) (Z : ZT) : Prop :=
 cA P zbz [x0] σ fun a s =>
 zp a (z1 Z (.d .nilp) s) (cA P zdO [] s fun b s =>
 nfl 0 x0 s fun c s =>
 zax .sl c s fun d s =>
 zaZ [(iN 0)] s fun v s e =>
 zay v fun f v => bP .lss f d s fun g s =>
 zp g (il true 2 2 c f s fun h s =>
 cp [iN 0,iN 0] 2 h s fun i s =>
 fl 0 i s fun j s =>
 fl 1 i s fun l s =>
 cA P zci [b,j,l] s fun _ s =>
 bP .add f (iN 1) s fun n s =>
 e [n] s) (z1 Z b s))
theorem zgk : F1 Tryz.prog zbY zgt := zm [.l [14] [(5, 1),(15, 10)]] Tryz.func45 (by decide +kernel) (by kernel_rfl) fun {_ _ _ _} => cast (by kernel_rfl)
def zmq (P : Program) (x0 : AV) (σ : LO) (Z : ZT) : Prop :=
 bP .lss x0 (iN 1) σ fun a s =>
 gFm a x0 s fun b s =>
 gF a (bP .gtr b (iN 4) s) s fun c s =>
 orC a c s fun d s =>
 zp d (z1 Z (iN 120) s) (z1 Z (iN 0) s)
theorem zmc : F1 Tryz.prog zea zmq := zm [] Tryz.func46 (by decide +kernel) (by kernel_rfl) fun {_ _ _ _} => cast (by kernel_rfl)
def zgs (P : Program) (x0 : AV) (σ : LO) (Z : ZT) : Prop :=
 zbp x0 σ fun a s =>
 zP [iN 0] s fun b s =>
 zq true 10 a s fun c s =>
 cA P zdG [b,c] s fun _ s =>
 fl 0 b s fun e s =>
 z1 Z e s
theorem zgj : F1 Tryz.prog zdY zgs := zm [] Tryz.func47 (by decide +kernel) (by kernel_rfl) fun {_ _ _ _} => cast (by kernel_rfl)
def zlk (P : Program) (x0 x1 : AV) (σ : LO) (Z : ZT) : Prop :=
 zbp x1 σ fun a s =>
 fl 3 a s fun b s =>
 zax .sl b s fun c s =>
 bP .eql c (iN 0) s fun d s =>
 gFm d x0 s fun e s =>
 gFl d 3 a s fun f s =>
 gF d (cA P zjB [e,f] s) s fun g s =>
 gF d (unC .not g s) s fun h s =>
 orC d h s fun i s =>
 zp i (z1 Z bF s) (fl 3 a s fun j s =>
 fl 3 a s fun l s =>
 zax .sl l s fun m s =>
 bP .sub m (iN 1) s fun n s =>
 il true 5 5 j n s fun o s =>
 cp [iN 0,iN 0,iN 0,iN 0,iN 0] 5 o s fun p s =>
 zq true 5 p s fun q s =>
 cA P zgy [q] s fun r s =>
 ze r 0 s fun u s =>
 ze r 1 s fun w s =>
 bP .neq w (iN 0) s fun y s =>
 zp y (z1 Z bF s) (cA P zaL [x0,u] s fun z s =>
 ze z 0 s fun A s =>
 ze z 1 s fun B s =>
 gTm B A s fun C s =>
 gT B (zl 7 a s) s fun D s =>
 gTl B 1 D s fun E s =>
 gT B (bP .eql C E s) s fun F s =>
 anC B F s fun G s =>
 gTl G 0 p s fun H s =>
 gT G (zl 7 a s) s fun I s =>
 gTl G 0 I s fun J s =>
 gT G (bP .eql H J s) s fun K s =>
 anC G K s fun L s =>
 z1 Z L s))
theorem zkR : F2 Tryz.prog zhb zlk := zm [] Tryz.func48 (by decide +kernel) (by kernel_rfl) fun {_ _ _ _ _} => cast (by kernel_rfl)
def znY (P : Program) (x0 x1 x2 x3 : AV) (σ : LO) (Z : ZT) : Prop :=
 zbp x0 σ fun a s =>
 zbp x1 s fun b s =>
 zbp x3 s fun c s =>
 cA P zmK [x2] s fun d s =>
 ze d 0 s fun e s =>
 ze d 1 s fun f s =>
 bP .neq f (iN 0) s fun g s =>
 gFm g e s fun h s =>
 gF g (zq true 3 c s) s fun i s =>
 gF g (cA P zds [h,i] s) s fun j s =>
 gF g (unC .not j s) s fun l s =>
 orC g l s fun m s =>
 gF m (zq false 1 a s) s fun n s =>
 gF m (cA P zfs [n] s) s fun o s =>
 gF m (bP .eql o (iN 0) s) s fun p s =>
 gFm m p s fun q s =>
 gT q (zq false 1 a s) s fun r s =>
 gT q (cA P zaQ [r] s) s fun u s =>
 gT q (zcS .eql .ptr u (.d .nilp) s) s fun w s =>
 gF m (anC q w s) s fun y s =>
 orC m y s fun z s =>
 gF z (zq false 1 b s) s fun A s =>
 gF z (cA P zdu [A] s) s fun B s =>
 gF z (bP .eql B (iN 0) s) s fun C s =>
 gFm z C s fun D s =>
 gT D (zq false 1 b s) s fun E s =>
 gT D (cA P zbY [E] s) s fun F s =>
 gT D (zcS .eql .ptr F (.d .nilp) s) s fun G s =>
 gF z (anC D G s) s fun H s =>
 orC z H s fun I s =>
 zp I (z1 Z bF s) (fl 2 c s fun J s =>
 cA P zaB [J,(.fn (.func zeY) [] [a,b,c])] s fun K s =>
 unC .not K s fun L s =>
 z1 Z L s)
theorem znB : F4 Tryz.prog zjw znY := zm [] Tryz.func49 (by decide +kernel) (by kernel_rfl) fun {_ _ _ _ _ _ _} => cast (by kernel_rfl)
def zgm (P : Program) (x0 : AV) (σ : LO) (Z : ZT) : Prop :=
 zbp x0 σ fun a s =>
 fl 0 a s fun b s =>
 zaf .toBytes b s fun c s =>
 zl 1 a s fun d s =>
 zq false 1 d s fun e s =>
 zcC [(iN 0),e] s fun f s =>
 zaf (.int .u64) f s fun g s =>
 cA P zei [eN,c] s fun h t =>
 zR d s t ∧ (cA P zcd [h,g] t fun i s =>
 fl 2 a s fun j s =>
 cA P zei [i,j] s fun l s =>
 z1 Z l s)
theorem zgd : F1 Tryz.prog zcL zgm := zm [.d [(0, 3),(4, 4),(3, 1),(8, 2)] [(3, [8])]] Tryz.func50 (by decide +kernel) (by kernel_rfl) fun {_ _ _ _} => cast (by kernel_rfl)
def zlm (P : Program) (x0 x1 x2 x3 x4 x5 : AV) (σ : LO) (Z : ZT) : Prop :=
 zbp x0 σ fun a s =>
 zbp x2 s fun b s =>
 bP .lss x3 (iN 0) s fun c s =>
 gFm c x3 s fun d s =>
 gFm c x4 s fun e s =>
 gF c (bP .geq d e s) s fun f s =>
 orC c f s fun g s =>
 gFm g x5 s fun h s =>
 gF g (zax .sl h s) s fun i s =>
 gFm g x3 s fun j s =>
 gFm g x4 s fun l s =>
 gF g (cA P zhd [j,l] s) s fun m s =>
 gF g (bP .neq i m s) s fun n s =>
 orC g n s fun o s =>
 zp o (z1 Z bF s) (zP [(.d .nilfn)] s fun p s =>
 zo 1 p (.fn (.func zcO) [] [a,b,p]) s fun _ s =>
 zq false 1 p s fun r s =>
 zal P r [dm x3,dm x4,dm x5] s fun u s =>
 ze u 0 s fun w s =>
 ze u 1 s fun y s =>
 gTm y w s fun z s =>
 gTm y x1 s fun A s =>
 gT y (bP .eql z A s) s fun B s =>
 anC y B s fun C s =>
 z1 Z C s)
theorem zkT : F6 Tryz.prog zhc zlm := zm [] Tryz.func51 (by decide +kernel) (by kernel_rfl) fun {_ _ _ _ _ _ _ _ _} => cast (by kernel_rfl)
def zrM (P : Program) (x0 : AV) (σ : LO) (Z : ZT) : Prop :=
 zbp x0 σ fun a s =>
 zq true 5 a s fun b s =>
 cA P zjs [b] s fun c s =>
 bP .neq c (iN 0) s fun d s =>
 zp d (z2 Z eN c s) (m1 1 [(.d (.int .u8 0))] (.d (.int .u8 3)) s fun e s =>
 fl 0 a s fun f s =>
 zaf (.int .u64) f s fun g s =>
 cA P zaF [e,g] s fun h s =>
 fl 1 a s fun i s =>
 fl 2 a s fun j s =>
 fl 3 a s fun l s =>
 fl 4 a s fun m s =>
 zt false 1 4 (zS (rep [iN 0] 4) [(0, 1,i),(1, 1,j),(2, 1,l),(3, 1,m)]) s fun n s =>
 zaZ [h,(iN 0)] s fun v s o =>
 zay v fun p v => zay v fun q v => zax .sl n s fun r s =>
 bP .lss q r s fun u s =>
 zp u (il false 1 1 n q s fun w s =>
 zaf (.int .u64) w s fun y s =>
 cA P zaF [p,y] s fun z s =>
 bP .add q (iN 1) s fun A s =>
 o [z,A] s) (z2 Z p (iN 0) s))
theorem zrh : F1 Tryz.prog zmF zrM := zm [.l [5, 7] [(27, 13)]] Tryz.func54 (by decide +kernel) (by kernel_rfl) fun {_ _ _ _} => cast (by kernel_rfl)
def zkf (P : Program) (x0 x1 : AV) (σ : LO) (Z : ZT) : Prop :=
 zaZ [(iN 0)] σ fun v s a =>
 zay v fun b v => nfl 0 x0 s fun c s =>
 zax .sl c s fun d s =>
 bP .lss b d s fun e s =>
 zp e (nfl 0 x0 s fun f s =>
 il false 1 1 f b s fun g s =>
 cA P zoE [g,x1] s fun h s =>
 zp h (bP .add b (iN 1) s fun i s =>
 z2 Z i bT s) (bP .add b (iN 1) s fun j s =>
 a [j] s)) (z2 Z (iN 0) bF s)
theorem zjS : F2 Tryz.prog zfS zkf := zm [.l [6] [(4, 2),(7, 20)]] Tryz.func55 (by decide +kernel) (by kernel_rfl) fun {_ _ _ _ _} => cast (by kernel_rfl)
def zja (P : Program) (x0 : AV) (σ : LO) (Z : ZT) : Prop :=
 zbp x0 σ fun a s =>
 fl 0 a s fun b s =>
 zaf .toBytes b s fun c s =>
 cA P zaR [eN,c] s fun d s =>
 fl 1 a s fun e s =>
 zcC [e,(iN 0)] s fun f s =>
 zl 2 a s fun g s =>
 zq false 1 g s fun h s =>
 cA P zdF [d,f] s fun i t =>
 zR g s t ∧ (cA P zaR [i,h] t fun j s =>
 z1 Z j s)
theorem ziN : F1 Tryz.prog zfq zja := zm [.d [(0, 4),(5, 2),(4, 1),(7, 2)] [(4, [13])]] Tryz.func57 (by decide +kernel) (by kernel_rfl) fun {_ _ _ _} => cast (by kernel_rfl)
def S_r12_Of (P : Program) (x0 : AV) (σ : LO) (Z : ZT) : Prop :=
 zaZ [(.d (.int .u16 0)),(.d (.int .u16 1)),(iN 0)] σ fun v s a =>
 zay v fun b v => zay v fun c v => zay v fun d v => bP .lss d (iN 13) s fun e s =>
 zp e ((fun (f : AV → LO → Prop) => zaZ [b,(iN 0)] s fun v s j =>
 zay v fun l v => zay v fun m v => zax .sl x0 s fun n s =>
 bP .lss m n s fun o s =>
 zp o (il false 1 1 x0 m s fun p s =>
 bP .eql p d s fun q s =>
 zp q (bP .add l c s fun r s =>
 f r s) (bP .add m (iN 1) s fun u s =>
 j [l,u] s)) (f l s))
 (fun g s => bP .mul c (.d (.int .u16 2)) s fun h s =>
 bP .add d (iN 1) s fun i s =>
 a [g,h,i] s)) (z1 Z b s)
theorem e_r12_Of : F1 Tryz.prog zqm S_r12_Of := zm [.l [3, 4, 5] [(6, 22)], .l [3, 6] [(11, 15)]] Tryz.func59 (by decide +kernel) (by kernel_rfl) fun {_ _ _ _} => cast (by kernel_rfl)
def znU (P : Program) (x0 : AV) (σ : LO) (Z : ZT) : Prop :=
 cA P zjp [x0] σ fun a s =>
 bP .neq a (iN 0) s fun b s =>
 zp b (z1 Z (iN 0) s) (bP .mul (iN 3) x0 s fun c s =>
 bP .add c (iN 1) s fun d s =>
 z1 Z d s)
theorem znx : F1 Tryz.prog zjq znU := zm [] Tryz.func60 (by decide +kernel) (by kernel_rfl) fun {_ _ _ _} => cast (by kernel_rfl)
def zbB (P : Program) (x0 x1 : AV) (σ : LO) (Z : ZT) : Prop :=
 zax .sl x0 σ fun a s =>
 zaZ [(iN 0)] s fun v s b =>
 zay v fun c v => bP .lss c a s fun d s =>
 zp d (il true 3 3 x0 c s fun e s =>
 zal P x1 [dm e] s fun f s =>
 zp f (z1 Z c s) (bP .add c (iN 1) s fun g s =>
 b [g] s)) (z1 Z (iN (-1)) s)
theorem zbA : F2 Tryz.prog zaM zbB := zm [.l [8] [(4, 2),(9, 10)]] Tryz.func61 (by decide +kernel) (by kernel_rfl) fun {_ _ _ _ _} => cast (by kernel_rfl)
def zms (P : Program) (x0 x1 x2 : AV) (σ : LO) (Z : ZT) : Prop :=
 zbp x0 σ fun a s =>
 fl 0 a s fun b s =>
 zq false 1 x1 s fun c s =>
 bP .eql b c s fun d s =>
 gTl d 1 a s fun e s =>
 gT d (zq false 1 x2 s) s fun f s =>
 gT d (bP .eql e f s) s fun g s =>
 anC d g s fun h s =>
 z1 Z h s
theorem zme : F3 Tryz.prog zii zms := zm [] Tryz.func62 (by decide +kernel) (by kernel_rfl) fun {_ _ _ _ _ _} => cast (by kernel_rfl)
def zrT (P : Program) (x0 x1 : AV) (σ : LO) (Z : ZT) : Prop :=
 zax .sl x0 σ fun a s =>
 zaZ [eN,(iN 0)] s fun v s b =>
 zay v fun c v => zay v fun d v => bP .lss d a s fun e s =>
 zp e (il true 7 7 x0 d s fun f s =>
 zP [iN 0,iN 0,iN 0,iN 0,iN 0,eN,eN] s fun g s =>
 zo 7 g f s fun _ s =>
 bP .gtr d (iN 0) s fun i s =>
 gT i (zl 0 g s) s fun j s =>
 gTl i 0 j s fun l s =>
 gT i (bP .sub l (iN 1) s) s fun m s =>
 gTm i x0 s fun n s =>
 gTm i d s fun o s =>
 gT i (bP .sub o (iN 1) s) s fun p s =>
 gT i (zI none 7 n p s) s fun q s =>
 gT i (zl 0 q s) s fun r s =>
 gTl i 0 r s fun u s =>
 gT i (bP .neq m u s) s fun w s =>
 anC i w s fun y s =>
 zp y (z2 Z eN bF s) (zl 0 g s fun z s =>
 zq true 5 z s fun A s =>
 m1 5 [iN 0,iN 0,iN 0,iN 0,iN 0] A s fun B s =>
 zw 5 40 c B s fun C s =>
 zl 0 g s fun D s =>
 fl 0 D s fun E s =>
 bP .eql E x1 s fun F s =>
 zp F (z2 Z C bT s) (bP .add d (iN 1) s fun G s =>
 b [C,G] s))) (z2 Z eN bF s)
theorem zro : F2 Tryz.prog zmJ zrT := zm [.l [6, 11] [(4, 2),(7, 2),(12, 32)], .d [(0, 16)] []] Tryz.func63 (by decide +kernel) (by kernel_rfl) fun {_ _ _ _ _} => cast (by kernel_rfl)
def zmu (P : Program) (x0 x1 x2 : AV) (σ : LO) (Z : ZT) : Prop :=
 zbp x0 σ fun a s =>
 zq false 1 a s fun b s =>
 cA P zaQ [b] s fun c s =>
 zcS .eql .ptr c (.d .nilp) s fun d s =>
 zp d (z2 Z eN (iN 2) s) (bP .lss x1 (iN 0) s fun e s =>
 gFm e x1 s fun f s =>
 gFm e x2 s fun g s =>
 gF e (zax .sl g s) s fun h s =>
 gF e (bP .geq f h s) s fun i s =>
 orC e i s fun j s =>
 zp j (z2 Z eN (iN 1) s) (zP [eN] s fun l s =>
 zP [(.d .nilfn)] s fun m s =>
 zo 1 m (.fn (.func zcr) [] [m,l,a]) s fun _ s =>
 zq false 1 m s fun o s =>
 zal P o [dm x1,dm x2] s fun _ s =>
 zq false 1 l s fun q s =>
 z2 Z q (iN 0) s))
theorem zmg : F3 Tryz.prog zij zmu := zm [] Tryz.func64 (by decide +kernel) (by kernel_rfl) fun {_ _ _ _ _ _} => cast (by kernel_rfl)
def zmw (P : Program) (x0 : AV) (σ : LO) (Z : ZT) : Prop :=
 zax .sl x0 σ fun a s =>
 zaZ [eN,(iN 0)] s fun v s b =>
 zay v fun c v => zay v fun d v => bP .lss d a s fun e s =>
 zp e (il true 3 3 x0 d s fun f s =>
 cp [(.d (.str [])),iN 0,eN] 3 f s fun g s =>
 zq true 3 g s fun h s =>
 cA P zcL [h] s fun i s =>
 m1 1 [eN] i s fun j s =>
 zw 1 24 c j s fun l s =>
 bP .add d (iN 1) s fun m s =>
 b [l,m] s) (z1 Z c s)
theorem zmi : F1 Tryz.prog zik zmw := zm [.l [3, 8] [(5, 1),(9, 9)]] Tryz.func65 (by decide +kernel) (by kernel_rfl) fun {_ _ _ _} => cast (by kernel_rfl)
def zcG (P : Program) (x0 : AV) (σ : LO) (Z : ZT) : Prop :=
 zan false x0 σ fun a s =>
 zp a (z1 Z eN s) (zt false 2 0 (zS (rep [iN 0,iN 0] 0) []) s fun b s =>
 zw 2 16 b x0 s fun c s =>
 z1 Z c s)
theorem zcD : F1 Tryz.prog zbw zcG := zm [] Tryz.func66 (by decide +kernel) (by kernel_rfl) fun {_ _ _ _} => cast (by kernel_rfl)
def zda (P : Program) (x0 : AV) (σ : LO) (Z : ZT) : Prop :=
 zan false x0 σ fun a s =>
 zp a (z1 Z eN s) (zt false 1 0 (zS (rep [(.d (.int .u8 0))] 0) []) s fun b s =>
 zw 1 1 b x0 s fun c s =>
 z1 Z c s)
theorem zcX : F1 Tryz.prog zbI zda := zm [] Tryz.func67 (by decide +kernel) (by kernel_rfl) fun {_ _ _ _} => cast (by kernel_rfl)
def zod (P : Program) (x0 x1 : AV) (σ : LO) (Z : ZT) : Prop :=
 zaf .toStr x0 σ fun a s =>
 zaf .toStr x1 s fun b s =>
 bP .eql a b s fun c s =>
 z1 Z c s
theorem znG : F2 Tryz.prog zjz zod := zm [] Tryz.func68 (by decide +kernel) (by kernel_rfl) fun {_ _ _ _ _} => cast (by kernel_rfl)
def zjb (P : Program) (x0 x1 : AV) (σ : LO) (Z : ZT) : Prop :=
 zax .sl x1 σ fun a s =>
 bP .eql a (iN 0) s fun b s =>
 zp b (m1 1 [(.d (.int .u8 0))] (.d (.int .u8 2)) s fun c s =>
 cA P zbc [x0,c] s fun d s =>
 z1 Z d s) (zax .sl x1 s fun e s =>
 bP .eql e (iN 1) s fun f s =>
 zp f (il false 1 1 x1 (iN 0) s fun g s =>
 cA P zoD [x0,g] s fun h s =>
 z1 Z h s) (zax .sl x1 s fun i s =>
 cA P zmI [i] s fun j s =>
 zbQ (.sl 1) x1 none (some j) none s fun l s =>
 cA P zfr [x0,l] s fun m s =>
 zbQ (.sl 1) x1 (some j) none none s fun n s =>
 cA P zfr [x0,n] s fun o s =>
 cA P zoC [x0,m,o] s fun p s =>
 z1 Z p s))
theorem zeN : F2 Tryz.prog zfr zjb := zm [] Tryz.func70 (by decide +kernel) (by kernel_rfl) fun {_ _ _ _ _} => cast (by kernel_rfl)
def zhx (P : Program) (x0 x1 : AV) (σ : LO) (Z : ZT) : Prop :=
 cA P zeW [x0] σ fun a s =>
 cA P zbc [x1,a] s fun b s =>
 z1 Z b s
theorem zhl : F2 Tryz.prog zde zhx := zm [] Tryz.func71 (by decide +kernel) (by kernel_rfl) fun {_ _ _ _ _} => cast (by kernel_rfl)
def zrO (P : Program) (x0 : AV) (σ : LO) (Z : ZT) : Prop :=
 zbp x0 σ fun a s =>
 zq true 7 a s fun b s =>
 cA P zju [b] s fun c s =>
 bP .neq c (iN 0) s fun d s =>
 zp d (z2 Z eN c s) (fl 0 a s fun e s =>
 zaf (.int .u64) e s fun f s =>
 cA P zaF [eN,f] s fun g s =>
 fl 1 a s fun h s =>
 zaf (.int .u64) h s fun i s =>
 cA P zaF [g,i] s fun j s =>
 zl 2 a s fun l s =>
 zq true 5 l s fun m s =>
 cA P zqJ [j,m] s fun n s =>
 z2 Z n (iN 0) s)
theorem zrj : F1 Tryz.prog zjv zrO := zm [] Tryz.func72 (by decide +kernel) (by kernel_rfl) fun {_ _ _ _} => cast (by kernel_rfl)
def zjc (P : Program) (x0 x1 x2 : AV) (σ : LO) (Z : ZT) : Prop :=
 zP [iN 0,iN 0] σ fun a s =>
 bP .lss x1 (iN 0) s fun b s =>
 gFm b x1 s fun c s =>
 gF b (bP .geq c (iN 21) s) s fun d s =>
 orC b d s fun e s =>
 zp e (zC (zS [iN 0,iN 0] []) s fun f s =>
 zo 2 a f s fun _ s =>
 Z (zB (zak a s true 2) (zB (some (iN 20)) (some []))) s) (bP .lss x2 (iN 1) s fun h s =>
 zp h (zC (zS [iN 0,iN 0] []) s fun i s =>
 zo 2 a i s fun _ s =>
 Z (zB (zak a s true 2) (zB (some (iN 1)) (some []))) s) (zC (zS [iN 0,iN 0] [(0, 1,x1),(1, 1,x2)]) s fun l s =>
 cp [iN 0,iN 0] 2 l s fun m s =>
 (fun (n : LO → Prop) => zq true 2 m s fun q s =>
 cA P zeB [x0,q] s fun r s =>
 unC .not r s fun u s =>
 zp u (nfl 0 x0 s fun w s =>
 zq true 2 m s fun y s =>
 m1 2 [iN 0,iN 0] y s fun z s =>
 zw 2 16 eN w s fun A t =>
 zR m s t ∧ (zw 2 16 A z t fun B s =>
 zbu x0 s fun C s =>
 zl 0 C s fun D s =>
 zo 1 D B s fun _ s =>
 n s)) (n s))
 (fun  s => zq true 2 m s fun o s =>
 zo 2 a o s fun _ s =>
 Z (zB (zak a s true 2) (zB (some (iN 0)) (some []))) s)))
theorem ziO : F3 Tryz.prog zdN zjc := zm [.d [(0, 5),(6, 2),(5, 1),(8, 4)] [(5, [8])]] Tryz.func73 (by decide +kernel) (by kernel_rfl) fun {_ _ _ _ _ _} => cast (by kernel_rfl)
def S_r08_Key (P : Program) (x0 : AV) (σ : LO) (Z : ZT) : Prop :=
 bP .lss x0 (iN 0) σ fun a s =>
 gFm a x0 s fun b s =>
 gF a (bP .geq b (iN 8) s) s fun c s =>
 orC a c s fun d s =>
 zp d (z1 Z (iN (-1)) s) (bP .add (iN 13) x0 s fun e s =>
 z1 Z e s)
theorem e_r08_Key : F1 Tryz.prog zkC S_r08_Key := zm [] Tryz.func74 (by decide +kernel) (by kernel_rfl) fun {_ _ _ _} => cast (by kernel_rfl)
def zlj (P : Program) (x0 x1 : AV) (σ : LO) (Z : ZT) : Prop :=
 cA P zfS [x0,x1] σ fun a s =>
 ze a 0 s fun b s =>
 ze a 1 s fun c s =>
 zp c (z1 Z b s) (nfl 0 x0 s fun d s =>
 zax .sl d s fun e s =>
 bP .geq e (iN 1048576) s fun f s =>
 zp f (z1 Z (iN 0) s) (nfl 0 x0 s fun g s =>
 zw 1 24 eN g s fun h s =>
 zw 1 1 eN x1 s fun i s =>
 m1 1 [eN] i s fun j s =>
 zw 1 24 h j s fun l s =>
 zbu x0 s fun m s =>
 zl 0 m s fun n s =>
 zo 1 n l s fun _ s =>
 nfl 0 x0 s fun p s =>
 zax .sl p s fun q s =>
 z1 Z q s))
theorem zkQ : F2 Tryz.prog zbc zlj := zm [] Tryz.func75 (by decide +kernel) (by kernel_rfl) fun {_ _ _ _ _} => cast (by kernel_rfl)
def zrL (P : Program) (x0 : AV) (σ : LO) (Z : ZT) : Prop :=
 zbp x0 σ fun a s =>
 fl 0 a s fun b s =>
 cA P zgZ [b] s fun c s =>
 unC .not c s fun d s =>
 gFl d 1 a s fun e s =>
 gF d (cA P zgZ [e] s) s fun f s =>
 gF d (unC .not f s) s fun g s =>
 orC d g s fun h s =>
 gFl h 2 a s fun i s =>
 gF h (cA P zgZ [i] s) s fun j s =>
 gF h (unC .not j s) s fun l s =>
 orC h l s fun m s =>
 gFl m 3 a s fun n s =>
 gF m (cA P zgZ [n] s) s fun o s =>
 gF m (unC .not o s) s fun p s =>
 orC m p s fun q s =>
 gFl q 4 a s fun r s =>
 gF q (cA P zgZ [r] s) s fun u s =>
 gF q (unC .not u s) s fun w s =>
 orC q w s fun y s =>
 zp y (z1 Z (iN 90) s) (z1 Z (iN 0) s)
theorem zrg : F1 Tryz.prog zjs zrL := zm [] Tryz.func76 (by decide +kernel) (by kernel_rfl) fun {_ _ _ _} => cast (by kernel_rfl)
def zpM (P : Program) (x0 x1 : AV) (σ : LO) (Z : ZT) : Prop :=
 cA P zeg [x1] σ fun a s =>
 bP .neq a (iN 0) s fun b s =>
 zp b (z2 Z (iN 0) a s) (cA P zih [eN,x1] s fun c s =>
 cA P zbc [x0,c] s fun d s =>
 bP .eql d (iN 0) s fun e s =>
 zp e (z2 Z (iN 0) (iN 6) s) (z2 Z d (iN 0) s))
theorem zpx : F2 Tryz.prog zkD zpM := zm [] Tryz.func77 (by decide +kernel) (by kernel_rfl) fun {_ _ _ _ _} => cast (by kernel_rfl)
def zhW (P : Program) (x0 x1 : AV) (σ : LO) (Z : ZT) : Prop :=
 zbp x1 σ fun a s =>
 zP [iN 0,iN 0] s fun b s =>
 fl 0 a s fun c s =>
 bP .lss c (iN 0) s fun d s =>
 gFl d 0 a s fun e s =>
 gF d (bP .geq e (iN 8) s) s fun f s =>
 orC d f s fun g s =>
 gFl g 1 a s fun h s =>
 gF g (bP .lss h (iN 1) s) s fun i s =>
 orC g i s fun j s =>
 gFl j 1 a s fun l s =>
 gF j (bP .gtr l (iN 9007199254740992) s) s fun m s =>
 orC j m s fun n s =>
 zp n (cA P zdm [(iN 1)] s fun o s =>
 zo 2 b o s fun _ s =>
 Z (zB (zak b s true 2) (zB (some eN) (zB (some bF) (some [])))) s) (zl 0 a s fun q s =>
 zq false 1 q s fun r s =>
 zbu x0 s fun u s =>
 zl 1 u s fun w s =>
 zI (some 8) 3 w r s fun y s =>
 zq true 3 y s fun z s =>
 zP [iN 0,iN 0,iN 0] s fun A t =>
 zR q s t ∧ (zR y s t ∧ (zo 3 A z t fun _ s =>
 fl 1 a s fun C s =>
 fl 0 A s fun D s =>
 bP .eql C D s fun E s =>
 zp E (zl 1 A s fun F s =>
 zq true 2 F s fun G s =>
 zo 2 b G s fun _ s =>
 Z (zB (zak b s true 2) (zB (some eN) (zB (some bF) (some [])))) s) (fl 1 a s fun I s =>
 fl 0 A s fun J s =>
 bP .lss I J s fun K s =>
 zp K (cA P zdm [(iN 7)] s fun L s =>
 zo 2 b L s fun _ s =>
 Z (zB (zak b s true 2) (zB (some eN) (zB (some bF) (some [])))) s) (zl 2 a s fun N s =>
 zq true 5 N s fun O s =>
 cA P zfp [x0,O] s fun Q s =>
 ze Q 0 s fun R s =>
 ze Q 1 s fun S s =>
 cp [iN 0,iN 0] 2 R s fun T s =>
 fl 0 a s fun U s =>
 fl 1 a s fun V s =>
 zq true 2 T s fun W s =>
 zC (zS [iN 0,iN 0,iN 0] [(0, 1,V),(1, 2,W)]) s fun X s =>
 zbu x0 s fun Y s =>
 zl 1 Y s fun a0 s =>
 zI (some 8) 3 a0 U s fun b0 s =>
 zo 3 b0 X s fun _ s =>
 zq true 2 T s fun d0 s =>
 zo 2 b d0 s fun _ s =>
 Z (zB (zak b s true 2) (zB (some S) (zB (some bT) (some [])))) s)))))
theorem zhO : F2 Tryz.prog zeX zhW := zm [.d [(0, 9)] [(7, [30, 34])], .d [(0, 11)] []] Tryz.func78 (by decide +kernel) (by kernel_rfl) fun {_ _ _ _ _} => cast (by kernel_rfl)
def S_r11_may (P : Program) (x0 x1 x2 x3 : AV) (σ : LO) (Z : ZT) : Prop :=
 cA P ziz [x0] σ fun a s =>
 gTm a x1 s fun b s =>
 gT a (cA P ziz [b] s) s fun c s =>
 anC a c s fun d s =>
 gTm d x2 s fun e s =>
 gT d (cA P ziz [e] s) s fun f s =>
 anC d f s fun g s =>
 gTm g x3 s fun h s =>
 gT g (cA P ziz [h] s) s fun i s =>
 anC g i s fun j s =>
 z1 Z j s
theorem e_r11_may : F4 Tryz.prog zqI S_r11_may := zm [] Tryz.func79 (by decide +kernel) (by kernel_rfl) fun {_ _ _ _ _ _ _} => cast (by kernel_rfl)
def ztC (P : Program) (x0 x1 x2 x3 : AV) (σ : LO) (Z : ZT) : Prop :=
 zP [iN 0,iN 0] σ fun a s =>
 cA P zbc [x0,x3] s fun b s =>
 bP .eql b (iN 0) s fun c s =>
 zp c (zC (zS [iN 0,iN 0] []) s fun d s =>
 zo 2 a d s fun _ s =>
 Z (zB (zak a s true 2) (zB (some (iN 6)) (some []))) s) (cA P zdN [x1,x2,b] s fun f s =>
 ze f 0 s fun g s =>
 ze f 1 s fun h s =>
 zo 2 a g s fun _ s =>
 Z (zB (zak a s true 2) (zB (some h) (some []))) s)
theorem zsX : F4 Tryz.prog zoy ztC := zm [] Tryz.func80 (by decide +kernel) (by kernel_rfl) fun {_ _ _ _ _ _ _} => cast (by kernel_rfl)
def zlg (P : Program) (x0 x1 x2 x3 : AV) (σ : LO) (Z : ZT) : Prop :=
 m1 1 [(.d (.int .u8 0))] (.d (.int .u8 4)) σ fun a s =>
 cA P ziy [a,x0] s fun b s =>
 cA P ziy [b,x1] s fun c s =>
 cA P ziy [c,x2] s fun d s =>
 cA P ziy [d,x3] s fun e s =>
 z1 Z e s
theorem zkN : F4 Tryz.prog zgY zlg := zm [] Tryz.func81 (by decide +kernel) (by kernel_rfl) fun {_ _ _ _ _ _ _} => cast (by kernel_rfl)
def zrS (P : Program) (x0 : AV) (σ : LO) (Z : ZT) : Prop :=
 bP .lss x0 (iN 2) σ fun a s =>
 zp a (z1 Z (iN 0) s) (zaZ [(iN 1)] s fun v s b =>
 zay v fun c v => bP .sub x0 c s fun d s =>
 bP .lss c d s fun e s =>
 zp e (bP .mul c (iN 2) s fun f s =>
 b [f] s) (z1 Z c s))
theorem zrn : F1 Tryz.prog zmI zrS := zm [.l [3] [(6, 7)]] Tryz.func82 (by decide +kernel) (by kernel_rfl) fun {_ _ _ _} => cast (by kernel_rfl)
def zpT (P : Program) (x0 : AV) (σ : LO) (Z : ZT) : Prop :=
 zax .sl x0 σ fun a s =>
 bP .gtr a (iN 1048576) s fun b s =>
 zp b (z2 Z (.d .nilp) (iN 3) s) (cA P zeh [] s fun c s =>
 zax .sl x0 s fun d s =>
 zaZ [(iN 0)] s fun v s e =>
 zay v fun f v => bP .lss f d s fun g s =>
 zp g (il false 1 1 x0 f s fun h s =>
 cA P zaL [c,h] s fun i s =>
 ze i 0 s fun _ s =>
 ze i 1 s fun l s =>
 zp l (z2 Z (.d .nilp) (iN 5) s) (cA P zby [c,h] s fun _ s =>
 bP .add f (iN 1) s fun n s =>
 e [n] s)) (z2 Z c (iN 0) s))
theorem zpE : F1 Tryz.prog zkG zpT := zm [.l [15] [(2, 2),(6, 3),(16, 14)]] Tryz.func83 (by decide +kernel) (by kernel_rfl) fun {_ _ _ _} => cast (by kernel_rfl)
def zfP (P : Program) (x0 x1 : AV) (σ : LO) (Z : ZT) : Prop :=
 zbp x1 σ fun a s =>
 fl 0 a s fun b s =>
 cA P zdW [x0,b] s fun _ s =>
 fl 1 a s fun d s =>
 cA P zaP [x0,d] s fun _ s =>
 fl 2 a s fun f s =>
 zax .sl f s fun g s =>
 cA P zaW [x0,g,(iN 64)] s fun _ s =>
 fl 3 a s fun i s =>
 zax .sl i s fun j s =>
 cA P zaW [x0,j,(iN 64)] s fun _ s =>
 fl 3 a s fun m s =>
 zax .sl m s fun n s =>
 zaZ [(iN 0)] s fun v s o =>
 zay v fun p v => bP .lss p n s fun q s =>
 zp q (il true 5 5 m p s fun r s =>
 cp [iN 0,iN 0,iN 0,iN 0,iN 0] 5 r s fun u s =>
 fl 0 u s fun w s =>
 cA P zeC [x0,w] s fun _ s =>
 fl 1 u s fun z s =>
 fl 2 u s fun A s =>
 fl 3 u s fun B s =>
 fl 4 u s fun C s =>
 zt false 1 4 (zS (rep [iN 0] 4) [(0, 1,z),(1, 1,A),(2, 1,B),(3, 1,C)]) s fun D s =>
 zax .sl D s fun E s =>
 zaZ [(iN 0)] s fun v s F =>
 zay v fun G v => bP .lss G E s fun H s =>
 zp H (il false 1 1 D G s fun I s =>
 cA P zaP [x0,I] s fun _ s =>
 bP .add G (iN 1) s fun K s =>
 F [K] s) (bP .add p (iN 1) s fun L s =>
 o [L] s)) (fl 4 a s fun M s =>
 cA P zaP [x0,M] s fun _ s =>
 fl 5 a s fun O s =>
 cA P zaW [x0,O,(iN 16)] s fun _ s =>
 fl 4 a s fun R s =>
 fl 5 a s fun S s =>
 bP .sub S (iN 1) s fun T s =>
 cA P zbS [x0,R,(iN 0),T] s fun _ s =>
 fl 6 a s fun V s =>
 zax .sl V s fun W s =>
 cA P zaW [x0,W,(iN 8)] s fun _ s =>
 fl 6 a s fun Y s =>
 zax .sl Y s fun a0 s =>
 zaZ [(iN 0)] s fun v s b0 =>
 zay v fun c0 v => bP .lss c0 a0 s fun d0 s =>
 zp d0 (il false 1 1 Y c0 s fun e0 s =>
 cA P zaP [x0,e0] s fun _ s =>
 bP .add c0 (iN 1) s fun g0 s =>
 b0 [g0] s) (zl 7 a s fun h0 s =>
 zq true 3 h0 s fun i0 s =>
 cA P zdX [x0,i0] s fun _ s =>
 Z (some []) s))
theorem zfK : F2 Tryz.prog zdG zfP := zm [.l [31] [(5, 1),(7, 1),(32, 26)], .l [49] [(7, 1),(50, 7)], .l [81] [(9, 1),(82, 7)]] Tryz.func84 (by decide +kernel) (by kernel_rfl) fun {_ _ _ _ _} => cast (by kernel_rfl)
def zog (P : Program) (x0 x1 : AV) (σ : LO) (Z : ZT) : Prop :=
 cA P zkI [x0] σ fun a s =>
 unC .not a s fun b s =>
 zp b (z1 Z bF s) (zax .sl x1 s fun c s =>
 zaZ [(iN 0)] s fun v s d =>
 zay v fun e v => bP .lss e c s fun f s =>
 zp f ((fun (g : LO → Prop) => il true 5 5 x1 e s fun i s =>
 zP [iN 0,iN 0,iN 0,iN 0,iN 0] s fun j s =>
 zo 5 j i s fun _ s =>
 zq true 5 j s fun m s =>
 cA P zgx [m] s fun n s =>
 bP .neq n (iN 0) s fun o s =>
 zp o (z1 Z bF s) (bP .eql e (iN 0) s fun p s =>
 zp p (g s) (bP .sub e (iN 1) s fun q s =>
 il true 5 5 x1 q s fun r s =>
 cA P zgy [r] s fun u s =>
 ze u 0 s fun w s =>
 ze u 1 s fun _ s =>
 cA P zaL [x0,w] s fun z s =>
 ze z 0 s fun A s =>
 ze z 1 s fun B s =>
 unC .not B s fun C s =>
 gFl C 1 j s fun D s =>
 gFm C A s fun E s =>
 gF C (bP .neq D E s) s fun F s =>
 orC C F s fun G s =>
 gFl G 0 j s fun H s =>
 gF G (bP .sub H (iN 1) s) s fun I s =>
 gFm G x1 s fun J s =>
 gFm G e s fun K s =>
 gF G (bP .sub K (iN 1) s) s fun L s =>
 gF G (zI none 5 J L s) s fun M s =>
 gFl G 0 M s fun N s =>
 gF G (bP .neq I N s) s fun O s =>
 orC G O s fun Q s =>
 zp Q (z1 Z bF s) (g s))))
 (fun  s => bP .add e (iN 1) s fun h s =>
 d [h] s)) (z1 Z bT s))
theorem znJ : F2 Tryz.prog zjB zog := zm [.l [16] [(4, 7),(17, 45)], .d [(0, 20)] []] Tryz.func85 (by decide +kernel) (by kernel_rfl) fun {_ _ _ _ _} => cast (by kernel_rfl)
def zoh (P : Program) (x0 : AV) (σ : LO) (Z : ZT) : Prop :=
 zbp x0 σ fun a s =>
 zq true 5 a s fun b s =>
 cA P zgx [b] s fun c s =>
 bP .neq c (iN 0) s fun d s =>
 zp d (z2 Z eN c s) (m1 1 [(.d (.int .u8 0))] (.d (.int .u8 3)) s fun e s =>
 fl 0 a s fun f s =>
 fl 1 a s fun g s =>
 fl 2 a s fun h s =>
 fl 3 a s fun i s =>
 fl 4 a s fun j s =>
 zt false 1 5 (zS (rep [iN 0] 5) [(0, 1,f),(1, 1,g),(2, 1,h),(3, 1,i),(4, 1,j)]) s fun l s =>
 zax .sl l s fun m s =>
 zaZ [e,(iN 0)] s fun v s n =>
 zay v fun o v => zay v fun p v => bP .lss p m s fun q s =>
 zp q (il false 1 1 l p s fun r s =>
 zaf (.int .u64) r s fun u s =>
 cA P zcd [o,u] s fun w s =>
 bP .add p (iN 1) s fun y s =>
 n [w,y] s) (z2 Z o (iN 0) s))
theorem znK : F1 Tryz.prog zgy zoh := zm [.l [5, 26] [(7, 1),(27, 8)]] Tryz.func86 (by decide +kernel) (by kernel_rfl) fun {_ _ _ _} => cast (by kernel_rfl)
def zia (P : Program) (x0 x1 : AV) (σ : LO) (Z : ZT) : Prop :=
 cA P zbT [x0] σ fun a s =>
 zp a (z2 Z (iN 0) bF s) (nfl 1 x0 s fun b s =>
 zaf .toStr x1 s fun c s =>
 zaE .str true (iN 0) b c s fun d s =>
 ze d 0 s fun e s =>
 ze d 1 s fun f s =>
 z2 Z e f s)
theorem zhS : F2 Tryz.prog zaL zia := zm [.d [(0, 12)] []] Tryz.func87 (by decide +kernel) (by kernel_rfl) fun {_ _ _ _ _} => cast (by kernel_rfl)
def zrU (P : Program) (x0 : AV) (σ : LO) (Z : ZT) : Prop :=
 cA P zea [x0] σ fun a s =>
 bP .neq a (iN 0) s fun b s =>
 zp b (z2 Z (.d .nilp) a s) (zat s fun c s =>
 zC (zS [iN 0,iN 0,iN 0,eN,(.d .nilmap),eN] [(0, 1,x0),(4, 1,c)]) s fun d s =>
 zbp d s fun e s =>
 z2 Z e (iN 0) s)
theorem zrp : F1 Tryz.prog zmK zrU := zm [] Tryz.func88 (by decide +kernel) (by kernel_rfl) fun {_ _ _ _} => cast (by kernel_rfl)
def zfj (P : Program) (x0 x1 : AV) (σ : LO) (Z : ZT) : Prop :=
 zbp x1 σ fun a s =>
 zq true 3 a s fun b s =>
 cA P zkF [b] s fun c s =>
 zp c (z1 Z bT s) (fl 2 a s fun d s =>
 zax .sl d s fun e s =>
 zaZ [(iN 0)] s fun v s f =>
 zay v fun g v => bP .lss g e s fun h s =>
 zp h (il true 2 2 d g s fun i s =>
 zP [iN 0,iN 0] s fun j s =>
 zo 2 j i s fun _ s =>
 fl 0 a s fun m s =>
 fl 1 a s fun n s =>
 fl 0 j s fun o s =>
 cA P zeZ [x0,m,n,o] s fun p s =>
 unC .not p s fun q s =>
 gFm q g s fun r s =>
 gF q (bP .gtr r (iN 0) s) s fun u s =>
 gFm q u s fun w s =>
 gTl w 0 j s fun y s =>
 gTl w 2 a s fun z s =>
 gTm w g s fun A s =>
 gT w (bP .sub A (iN 1) s) s fun B s =>
 gT w (zI none 2 z B s) s fun C s =>
 gTl w 0 C s fun D s =>
 gT w (bP .leq y D s) s fun E s =>
 gF q (anC w E s) s fun F s =>
 orC q F s fun G s =>
 zp G (z1 Z bF s) (bP .add g (iN 1) s fun H s =>
 f [H] s)) (zl 2 a s fun I s =>
 zq false 1 I s fun J s =>
 zax .sl J s fun K s =>
 nfl 0 x0 s fun L s =>
 cA P zkE [L] s fun M t =>
 zR I s t ∧ (bP .geq K M t fun N s =>
 z1 Z N s)))
theorem zfi : F2 Tryz.prog zds zfj := zm [.l [12] [(4, 3),(13, 30)], .d [(0, 25)] [], .d [(0, 10)] [(7, [43])]] Tryz.func89 (by decide +kernel) (by kernel_rfl) fun {_ _ _ _ _} => cast (by kernel_rfl)
def zbN (P : Program) (x0 x1 : AV) (σ : LO) (Z : ZT) : Prop :=
 cA P zbb [x0,x1] σ fun a s =>
 bP .geq a (iN 0) s fun b s =>
 z1 Z b s
theorem zbK : F2 Tryz.prog zaB zbN := zm [] Tryz.func90 (by decide +kernel) (by kernel_rfl) fun {_ _ _ _ _} => cast (by kernel_rfl)
def zll (P : Program) (x0 x1 x2 x3 : AV) (σ : LO) (Z : ZT) : Prop :=
 zbp x0 σ fun a s =>
 zq false 1 x1 s fun b s =>
 zq false 1 x2 s fun c s =>
 zq true 2 a s fun d s =>
 fl 0 a s fun e s =>
 fl 0 x3 s fun f s =>
 fl 1 x3 s fun g s =>
 cA P zfW [b,c,d,e,(iN 6),(iN 0),f,g] s fun h s =>
 unC .not h s fun i s =>
 z1 Z i s
theorem zkS : F4 Tryz.prog zeY zll := zm [] Tryz.func91 (by decide +kernel) (by kernel_rfl) fun {_ _ _ _ _ _ _} => cast (by kernel_rfl)
def zkn (P : Program) (x0 x1 x2 x3 x4 x5 x6 x7 : AV) (σ : LO) (Z : ZT) : Prop :=
 zbp x2 σ fun a s =>
 cA P zmL [x0,x1] s fun b s =>
 gTm b x4 s fun c s =>
 gTm b x5 s fun d s =>
 gTm b x6 s fun e s =>
 gTm b x7 s fun f s =>
 gT b (cA P zoI [c,d,e,f] s) s fun g s =>
 anC b g s fun h s =>
 gTm h x0 s fun i s =>
 gTm h x1 s fun j s =>
 gT h (zq true 2 a s) s fun l s =>
 gTm h x3 s fun m s =>
 gTm h x4 s fun n s =>
 gTm h x5 s fun o s =>
 gTm h x6 s fun p s =>
 gTm h x7 s fun q s =>
 gT h (cA P zfV [n,o,p,q] s) s fun r t =>
 zR a s t ∧ (gT h (cA P zjC [i,j,l,m,r] t) t fun u s =>
 anC h u s fun w s =>
 z1 Z w s)
theorem zka : F8 Tryz.prog zfW zkn := zm [.d [(0, 23)] [(19, [10])]] Tryz.func92 (by decide +kernel) (by kernel_rfl) fun {_ _ _ _ _ _ _ _ _ _ _} => cast (by kernel_rfl)
def zmv (P : Program) (x0 x1 : AV) (σ : LO) (Z : ZT) : Prop :=
 cA P zkH [x1] σ fun a s =>
 ze a 0 s fun b s =>
 ze a 1 s fun c s =>
 cp [(.d (.int .u8 0)),(.d (.int .u8 0)),(.d (.int .u8 0)),(.d (.int .u8 0)),(.d (.int .u8 0)),(.d (.int .u8 0)),(.d (.int .u8 0)),(.d (.int .u8 0)),(.d (.int .u8 0)),(.d (.int .u8 0))] 10 b s fun d s =>
 zbQ (.arr 10 1) d none (some c) none s fun e s =>
 cA P zdd [x0] s fun f s =>
 zw 1 1 f e s fun g s =>
 z1 Z g s
theorem zmh : F2 Tryz.prog zcd zmv := zm [.d [(0, 1),(2, 2),(1, 1),(4, 2)] []] Tryz.func93 (by decide +kernel) (by kernel_rfl) fun {_ _ _ _ _} => cast (by kernel_rfl)
end Go.Proofs.YtncpaekiidpchaaGreat
