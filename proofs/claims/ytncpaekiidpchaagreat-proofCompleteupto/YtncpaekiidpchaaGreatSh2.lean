/- The conditions of each function, its slots as variables, and that the logic's conditions are these. Printed by program. -/
import Derived.Test.YtncpaekiidpchaaGreatNm
import Derived.KernelRfl
set_option linter.all false
set_option maxRecDepth 100000
namespace Go.Proofs.YtncpaekiidpchaaGreat
open Go.AW
def znU (P : Program) (x0 : AV) (σ : LO) (Z : ZT) : Prop :=
 zbu x0 σ fun a s =>
 fl 3 a s fun b s =>
 zaw .sl b s fun c s =>
 bP .eql c (iN 0) s fun d s =>
 zp d (z1 Z (iN 0) s) (fl 3 a s fun e s =>
 zH none 5 e (iN 0) s fun f s =>
 fl 0 f s fun g s =>
 z1 Z g s)
theorem znw : F1 Tryz.prog zjr znU := zm [] Tryz.func26 (by decide +kernel) (by kernel_rfl) fun {_ _ _ _} => cast (by kernel_rfl)
def S_r12_Big (P : Program) (x0 : AV) (σ : LO) (Z : ZT) : Prop :=
 cA P zgS [x0] σ fun a s =>
 bP .neq a (iN 0) s fun b s =>
 zp b (z1 Z (iN 0) s) (bP .mul (iN 2) x0 s fun c s =>
 bP .add c (iN 1) s fun d s =>
 z1 Z d s)
theorem e_r12_Big : F1 Tryz.prog zqC S_r12_Big := zm [] Tryz.func28 (by decide +kernel) (by kernel_rfl) fun {_ _ _ _} => cast (by kernel_rfl)
def zje (P : Program) (σ : LO) (Z : ZT) : Prop :=
 zat σ fun a s =>
 zC (zS [eN,(.d .nilmap)] [(1, 1,a)]) s fun b s =>
 zbu b s fun c s =>
 z1 Z c s
theorem ziP : F0 Tryz.prog zdK zje := zm [] Tryz.func29 (by decide +kernel) (by kernel_rfl) fun {_ _ _} => cast (by kernel_rfl)
def zkb (P : Program) (σ : LO) (Z : ZT) : Prop :=
 zat σ fun a s =>
 zC (zS [eN,(.d .nilmap)] [(1, 1,a)]) s fun b s =>
 zbu b s fun c s =>
 z1 Z c s
theorem zjR : F0 Tryz.prog zeb zkb := zm [] Tryz.func30 (by decide +kernel) (by kernel_rfl) fun {_ _ _} => cast (by kernel_rfl)
def zpO (P : Program) (x0 x1 : AV) (σ : LO) (Z : ZT) : Prop :=
 m1 1 [(.d (.int .u8 0))] x1 σ fun a s =>
 m1 1 [eN] a s fun b s =>
 zC (zS [iN 0,(.d (.str [])),(.d (.str [])),iN 0,eN] [(0, 1,(iN 2)),(1, 1,(.d (.str [116]))),(4, 1,b)]) s fun c s =>
 zC (zS [iN 0,iN 0,iN 0,(.d (.str [])),(.d (.str [])),iN 0,eN] [(1, 1,x0),(2, 5,c)]) s fun d s =>
 m1 7 [iN 0,iN 0,iN 0,(.d (.str [])),(.d (.str [])),iN 0,eN] d s fun e s =>
 z1 Z e s
theorem zpz : F2 Tryz.prog zhL zpO := zm [] Tryz.func31 (by decide +kernel) (by kernel_rfl) fun {_ _ _ _ _} => cast (by kernel_rfl)
def znR (P : Program) (x0 : AV) (σ : LO) (Z : ZT) : Prop :=
 zP [iN 0,iN 0,iN 0,iN 0,iN 0] σ fun a s =>
 cA P zfn [x0,eN] s fun b s =>
 zC (zS [iN 0,iN 0,iN 0,iN 0,iN 0] [(3, 1,b)]) s fun c s =>
 cp [iN 0,iN 0,iN 0,iN 0,iN 0] 5 c s fun d s =>
 zC (zS [eN,iN 0,iN 0,iN 0,iN 0,iN 0,iN 0,iN 0,iN 0,iN 0,iN 0,iN 0,iN 0,iN 0,iN 0,iN 0,iN 0,iN 0,iN 0,iN 0,iN 0,iN 0,iN 0,iN 0,iN 0] []) s fun e s =>
 zbu e s fun f s =>
 cA P zcY [f,x0] s fun g s =>
 zl 4 d s fun h s =>
 zo 1 h g s fun _ s =>
 fl 3 d s fun j s =>
 bP .eql j (iN 0) s fun l s =>
 gFl l 4 d s fun m s =>
 gF l (bP .eql m (iN 0) s) s fun n s =>
 orC l n s fun o s =>
 zp o (zC (zS [iN 0,iN 0,iN 0,iN 0,iN 0] []) s fun p s =>
 zo 5 a p s fun _ s =>
 Z (zB (zak a s true 5) (zB (some (iN 6)) (some []))) s) (zq true 5 d s fun r s =>
 zo 5 a r s fun _ s =>
 Z (zB (zak a s true 5) (zB (some (iN 0)) (some []))) s)
theorem znt : F1 Tryz.prog zjm znR := zm [] Tryz.func32 (by decide +kernel) (by kernel_rfl) fun {_ _ _ _} => cast (by kernel_rfl)
def ztx (P : Program) (x0 x1 x2 : AV) (σ : LO) (Z : ZT) : Prop :=
 zbu x2 σ fun a s =>
 zP [iN 0,iN 0,iN 0,(.d (.str [])),(.d (.str [])),iN 0,eN,iN 0,iN 0] s fun b s =>
 zq true 7 a s fun c s =>
 cA P zjq [c] s fun d s =>
 ze d 0 s fun e s =>
 ze d 1 s fun f s =>
 bP .neq f (iN 0) s fun g s =>
 zp g (zC (zS [iN 0,iN 0,iN 0,(.d (.str [])),(.d (.str [])),iN 0,eN,iN 0,iN 0] []) s fun h s =>
 zo 9 b h s fun _ s =>
 Z (zB (zak b s true 9) (zB (some f) (some []))) s) (fl 0 a s fun j s =>
 cA P zkv [j] s fun l s =>
 cA P zbc [x0,e] s fun m s =>
 cA P zdJ [x1,l,m] s fun n s =>
 ze n 0 s fun o s =>
 ze n 1 s fun p s =>
 cp [iN 0,iN 0] 2 o s fun q s =>
 bP .neq p (iN 0) s fun r s =>
 zp r (zC (zS [iN 0,iN 0,iN 0,(.d (.str [])),(.d (.str [])),iN 0,eN,iN 0,iN 0] []) s fun u s =>
 zo 9 b u s fun _ s =>
 Z (zB (zak b s true 9) (zB (some p) (some []))) s) (zq true 7 a s fun y s =>
 zq true 2 q s fun z s =>
 zC (zS [iN 0,iN 0,iN 0,(.d (.str [])),(.d (.str [])),iN 0,eN,iN 0,iN 0] [(0, 7,y),(7, 2,z)]) s fun A s =>
 zo 9 b A s fun _ s =>
 Z (zB (zak b s true 9) (zB (some (iN 0)) (some []))) s))
theorem zsT : F3 Tryz.prog ziy ztx := zm [] Tryz.func33 (by decide +kernel) (by kernel_rfl) fun {_ _ _ _ _ _} => cast (by kernel_rfl)
def znS (P : Program) (x0 x1 x2 x3 : AV) (σ : LO) (Z : ZT) : Prop :=
 zbu x2 σ fun a s =>
 zP [iN 0,iN 0,iN 0,iN 0,iN 0] s fun b s =>
 zq true 5 a s fun c s =>
 cA P zjn [c] s fun d s =>
 bP .neq d (iN 0) s fun e s =>
 zp e (zC (zS [iN 0,iN 0,iN 0,iN 0,iN 0] []) s fun f s =>
 zo 5 b f s fun _ s =>
 Z (zB (zak b s true 5) (zB (some eN) (zB (some eN) (zB (some d) (some []))))) s) (fl 0 a s fun h s =>
 bP .eql h (iN 9007199254740992) s fun i s =>
 zp i (zC (zS [iN 0,iN 0,iN 0,iN 0,iN 0] []) s fun j s =>
 zo 5 b j s fun _ s =>
 Z (zB (zak b s true 5) (zB (some eN) (zB (some eN) (zB (some (iN 6)) (some []))))) s) (fl 0 a s fun m s =>
 bP .add m (iN 1) s fun n s =>
 zC (zS [iN 0,iN 0,iN 0,iN 0,iN 0] [(0, 1,n)]) s fun o s =>
 cp [iN 0,iN 0,iN 0,iN 0,iN 0] 5 o s fun p s =>
 cA P zkw [x0,x3] s fun q s =>
 ze q 0 s fun r s =>
 ze q 1 s fun u s =>
 bP .neq u (iN 0) s fun w s =>
 zp w (zC (zS [iN 0,iN 0,iN 0,iN 0,iN 0] []) s fun y s =>
 zo 5 b y s fun _ s =>
 Z (zB (zak b s true 5) (zB (some eN) (zB (some eN) (zB (some u) (some []))))) s) (zl 2 p s fun A s =>
 zo 1 A r s fun _ s =>
 zq true 5 a s fun C s =>
 cA P zhJ [x0,C] s fun D s =>
 ze D 0 s fun E s =>
 ze D 1 s fun F s =>
 zl 1 p s fun G s =>
 zo 1 G E s fun _ s =>
 bP .neq F (iN 0) s fun I s =>
 zp I (zC (zS [iN 0,iN 0,iN 0,iN 0,iN 0] []) s fun J s =>
 zo 5 b J s fun _ s =>
 Z (zB (zak b s true 5) (zB (some eN) (zB (some eN) (zB (some F) (some []))))) s) (zbe [eN,eN,(iN 0)] s fun v s L =>
 zay v fun M v => zay v fun N v => zay v fun O v => zaw .sl x3 s fun Q s =>
 bP .lss O Q s fun R s =>
 zp R (zH none 9 x3 O s fun S s =>
 zl 0 S s fun T s =>
 zq true 7 T s fun U s =>
 cA P zeT [x1,U] s fun V s =>
 ze V 0 s fun W s =>
 ze V 1 s fun X s =>
 ze V 2 s fun Y s =>
 cp [iN 0,iN 0] 2 W s fun a0 s =>
 zw 3 48 M X s fun b0 s =>
 zH none 9 x3 O s fun c0 s =>
 zl 0 c0 s fun d0 s =>
 fl 0 d0 s fun e0 s =>
 zH none 9 x3 O s fun f0 s =>
 zl 0 f0 s fun g0 s =>
 fl 1 g0 s fun h0 s =>
 zq true 2 a0 s fun i0 s =>
 zC (zS [iN 0,iN 0,iN 0,iN 0,bF] [(0, 1,e0),(1, 1,h0),(2, 2,i0),(4, 1,Y)]) s fun j0 s =>
 m1 5 [iN 0,iN 0,iN 0,iN 0,bF] j0 s fun l0 s =>
 zw 5 40 N l0 s fun m0 s =>
 bP .add O (iN 1) s fun o0 s =>
 L [b0,m0,o0] s) (cA P zku [M] s fun p0 s =>
 cA P zfn [x0,p0] s fun q0 s =>
 zl 3 p s fun r0 s =>
 zo 1 r0 q0 s fun _ s =>
 cA P zcY [x1,x0] s fun w0 s =>
 zl 4 p s fun y0 s =>
 zo 1 y0 w0 s fun _ s =>
 fl 3 p s fun A0 s =>
 bP .eql A0 (iN 0) s fun B0 s =>
 gFl B0 4 p s fun C0 s =>
 gF B0 (bP .eql C0 (iN 0) s) s fun D0 s =>
 orC B0 D0 s fun E0 s =>
 zp E0 (zC (zS [iN 0,iN 0,iN 0,iN 0,iN 0] []) s fun F0 s =>
 zo 5 b F0 s fun _ s =>
 Z (zB (zak b s true 5) (zB (some eN) (zB (some eN) (zB (some (iN 6)) (some []))))) s) (zq true 5 p s fun H0 s =>
 zo 5 b H0 s fun _ s =>
 Z (zB (zak b s true 5) (zB (some M) (zB (some N) (zB (some (iN 0)) (some []))))) s))))))
theorem znu : F4 Tryz.prog zgo znS := zm [.l [16, 17, 18] [(19, 3),(59, 38)], .d [(0, 19)] []] Tryz.func34 (by decide +kernel) (by kernel_rfl) fun {_ _ _ _ _ _ _} => cast (by kernel_rfl)
def zpH (P : Program) (x0 x1 : AV) (σ : LO) (Z : ZT) : Prop :=
 zbu x1 σ fun a s =>
 zq true 5 a s fun b s =>
 cA P zmu [b] s fun c s =>
 ze c 0 s fun d s =>
 ze c 1 s fun e s =>
 bP .neq e (iN 0) s fun f s =>
 zp f (z2 Z (iN 0) e s) (cA P zbc [x0,d] s fun g s =>
 bP .eql g (iN 0) s fun h s =>
 zp h (z2 Z (iN 0) (iN 6) s) (z2 Z g (iN 0) s))
theorem zps : F2 Tryz.prog zhJ zpH := zm [] Tryz.func35 (by decide +kernel) (by kernel_rfl) fun {_ _ _ _ _} => cast (by kernel_rfl)
def ztt (P : Program) (x0 : AV) (σ : LO) (Z : ZT) : Prop :=
 zbe [eN,(iN 0)] σ fun v s a =>
 zay v fun b v => zay v fun c v => bP .lss c (iN 13) s fun d s =>
 zp d ((fun (e : AV → LO → Prop) => cA P zkt [x0,c] s fun h s =>
 zp h (m1 1 [iN 0] c s fun i s =>
 zw 1 8 b i s fun j s =>
 e j s) (e b s))
 (fun f s => bP .add c (iN 1) s fun g s =>
 a [f,g] s)) (z1 Z b s)
theorem zsP : F1 Tryz.prog zlt ztt := zm [.l [3, 4] [(5, 11)]] Tryz.func36 (by decide +kernel) (by kernel_rfl) fun {_ _ _ _} => cast (by kernel_rfl)
def ztw (P : Program) (x0 x1 x2 x3 x4 x5 x6 : AV) (σ : LO) (Z : ZT) : Prop :=
 zP [iN 0,iN 0] σ fun a s =>
 cA P zqD [x3,x4,x5,x6] s fun b s =>
 unC .not b s fun c s =>
 zp c (zC (zS [iN 0,iN 0] []) s fun d s =>
 zo 2 a d s fun _ s =>
 Z (zB (zak a s true 2) (zB (some (iN 1)) (some []))) s) (cA P zgT [x3,x4,x5,x6] s fun f s =>
 cA P zoy [x0,x1,x2,f] s fun g s =>
 ze g 0 s fun h s =>
 ze g 1 s fun i s =>
 zo 2 a h s fun _ s =>
 Z (zB (zak a s true 2) (zB (some i) (some []))) s)
theorem zsS : F7 Tryz.prog zix ztw := zm [] Tryz.func37 (by decide +kernel) (by kernel_rfl) fun {_ _ _ _ _ _ _ _ _ _} => cast (by kernel_rfl)
def zpG (P : Program) (x0 : AV) (σ : LO) (Z : ZT) : Prop :=
 zbe [eN,(iN 0)] σ fun v s a =>
 zay v fun b v => zay v fun c v => zaw .sl x0 s fun d s =>
 bP .lss c d s fun e s =>
 zp e (il true 3 3 x0 c s fun f s =>
 cA P zfm [f] s fun g s =>
 m1 1 [eN] g s fun h s =>
 zw 1 24 b h s fun i s =>
 bP .add c (iN 1) s fun j s =>
 a [i,j] s) (z1 Z b s)
theorem zpr : F1 Tryz.prog zku zpG := zm [.l [3, 4] [(5, 14)]] Tryz.func40 (by decide +kernel) (by kernel_rfl) fun {_ _ _ _} => cast (by kernel_rfl)
def zhY (P : Program) (x0 : AV) (σ : LO) (Z : ZT) : Prop :=
 zcS .eql .ptr x0 (.d .nilp) σ fun a s =>
 gFm a x0 s fun b s =>
 gF a (zby b s) s fun c s =>
 gFl a 1 c s fun d s =>
 gF a (zcS .eql .map d (.d .nilmap) s) s fun e s =>
 orC a e s fun f s =>
 z1 Z f s
theorem zhQ : F1 Tryz.prog zbR zhY := zm [] Tryz.func41 (by decide +kernel) (by kernel_rfl) fun {_ _ _ _} => cast (by kernel_rfl)
def zoa (P : Program) (x0 : AV) (σ : LO) (Z : ZT) : Prop :=
 zan false x0 σ fun a s =>
 zp a (z1 Z eN s) (zt false 1 0 (zS (rep [(.d (.int .u8 0))] 0) []) s fun b s =>
 zw 1 1 b x0 s fun c s =>
 z1 Z c s)
theorem znC : F1 Tryz.prog zjv zoa := zm [] Tryz.func42 (by decide +kernel) (by kernel_rfl) fun {_ _ _ _} => cast (by kernel_rfl)
def zhy (P : Program) (x0 : AV) (σ : LO) (Z : ZT) : Prop :=
 zcS .eql .ptr x0 (.d .nilp) σ fun a s =>
 gFm a x0 s fun b s =>
 gF a (zby b s) s fun c s =>
 gFl a 1 c s fun d s =>
 gF a (zcS .eql .map d (.d .nilmap) s) s fun e s =>
 orC a e s fun f s =>
 z1 Z f s
theorem zhl : F1 Tryz.prog zbF zhy := zm [] Tryz.func43 (by decide +kernel) (by kernel_rfl) fun {_ _ _ _} => cast (by kernel_rfl)
def zhx (P : Program) (x0 : AV) (σ : LO) (Z : ZT) : Prop :=
 cA P zbR [x0] σ fun a s =>
 zp a (z1 Z (.d .nilp) s) (nfl 0 x0 s fun b s =>
 cA P zkz [b] s fun c s =>
 ze c 0 s fun d s =>
 ze c 1 s fun _ s =>
 z1 Z d s)
theorem zhk : F1 Tryz.prog zaS zhx := zm [] Tryz.func44 (by decide +kernel) (by kernel_rfl) fun {_ _ _ _} => cast (by kernel_rfl)
def zgm (P : Program) (x0 : AV) (σ : LO) (Z : ZT) : Prop :=
 cA P zbF [x0] σ fun a s =>
 zp a (z1 Z (.d .nilp) s) (cA P zdK [] s fun b s =>
 nfl 0 x0 s fun c s =>
 zaw .sl c s fun d s =>
 zbe [(iN 0)] s fun v s e =>
 zay v fun f v => bP .lss f d s fun g s =>
 zp g (il true 2 2 c f s fun h s =>
 cp [iN 0,iN 0] 2 h s fun i s =>
 fl 0 i s fun j s =>
 fl 1 i s fun l s =>
 cA P zda [b,j,l] s fun _ s =>
 bP .add f (iN 1) s fun n s =>
 e [n] s) (z1 Z b s))
theorem zgd : F1 Tryz.prog zbY zgm := zm [.l [14] [(5, 1),(15, 10)]] Tryz.func45 (by decide +kernel) (by kernel_rfl) fun {_ _ _ _} => cast (by kernel_rfl)
def zmg (P : Program) (x0 : AV) (σ : LO) (Z : ZT) : Prop :=
 bP .lss x0 (iN 1) σ fun a s =>
 gFm a x0 s fun b s =>
 gF a (bP .gtr b (iN 4) s) s fun c s =>
 orC a c s fun d s =>
 zp d (z1 Z (iN 120) s) (z1 Z (iN 0) s)
theorem zlS : F1 Tryz.prog zdW zmg := zm [] Tryz.func46 (by decide +kernel) (by kernel_rfl) fun {_ _ _ _} => cast (by kernel_rfl)
def zgl (P : Program) (x0 : AV) (σ : LO) (Z : ZT) : Prop :=
 zbu x0 σ fun a s =>
 zP [iN 0] s fun b s =>
 zq true 10 a s fun c s =>
 cA P zdC [b,c] s fun _ s =>
 fl 0 b s fun e s =>
 z1 Z e s
theorem zgc : F1 Tryz.prog zdT zgl := zm [] Tryz.func47 (by decide +kernel) (by kernel_rfl) fun {_ _ _ _} => cast (by kernel_rfl)
def zld (P : Program) (x0 x1 : AV) (σ : LO) (Z : ZT) : Prop :=
 zbu x1 σ fun a s =>
 fl 3 a s fun b s =>
 zaw .sl b s fun c s =>
 bP .eql c (iN 0) s fun d s =>
 gFm d x0 s fun e s =>
 gFl d 3 a s fun f s =>
 gF d (cA P zjw [e,f] s) s fun g s =>
 gF d (unC .not g s) s fun h s =>
 orC d h s fun i s =>
 zp i (z1 Z bF s) (fl 3 a s fun j s =>
 fl 3 a s fun l s =>
 zaw .sl l s fun m s =>
 bP .sub m (iN 1) s fun n s =>
 il true 5 5 j n s fun o s =>
 cp [iN 0,iN 0,iN 0,iN 0,iN 0] 5 o s fun p s =>
 zq true 5 p s fun q s =>
 cA P zgr [q] s fun r s =>
 ze r 0 s fun u s =>
 ze r 1 s fun w s =>
 bP .neq w (iN 0) s fun y s =>
 zp y (z1 Z bF s) (cA P zaL [x0,u] s fun z s =>
 ze z 0 s fun A s =>
 ze z 1 s fun B s =>
 gTm B A s fun C s =>
 gT B (zl 7 a s) s fun D s =>
 gTl B 1 D s fun E s =>
 gT B (bP .eql C E s) s fun F s =>
 anC B F s fun G s =>
 gTl G 0 p s fun H s =>
 gT G (zl 7 a s) s fun I s =>
 gTl G 0 I s fun J s =>
 gT G (bP .eql H J s) s fun K s =>
 anC G K s fun L s =>
 z1 Z L s))
theorem zkM : F2 Tryz.prog zgW zld := zm [] Tryz.func48 (by decide +kernel) (by kernel_rfl) fun {_ _ _ _ _} => cast (by kernel_rfl)
def znV (P : Program) (x0 x1 x2 x3 : AV) (σ : LO) (Z : ZT) : Prop :=
 zbu x0 σ fun a s =>
 zbu x1 s fun b s =>
 zbu x3 s fun c s =>
 cA P zmz [x2] s fun d s =>
 ze d 0 s fun e s =>
 ze d 1 s fun f s =>
 bP .neq f (iN 0) s fun g s =>
 gFm g e s fun h s =>
 gF g (zq true 3 c s) s fun i s =>
 gF g (cA P zdp [h,i] s) s fun j s =>
 gF g (unC .not j s) s fun l s =>
 orC g l s fun m s =>
 gF m (zq false 1 a s) s fun n s =>
 gF m (cA P zfo [n] s) s fun o s =>
 gF m (bP .eql o (iN 0) s) s fun p s =>
 gFm m p s fun q s =>
 gT q (zq false 1 a s) s fun r s =>
 gT q (cA P zaS [r] s) s fun u s =>
 gT q (zcS .eql .ptr u (.d .nilp) s) s fun w s =>
 gF m (anC q w s) s fun y s =>
 orC m y s fun z s =>
 gF z (zq false 1 b s) s fun A s =>
 gF z (cA P zdr [A] s) s fun B s =>
 gF z (bP .eql B (iN 0) s) s fun C s =>
 gFm z C s fun D s =>
 gT D (zq false 1 b s) s fun E s =>
 gT D (cA P zbY [E] s) s fun F s =>
 gT D (zcS .eql .ptr F (.d .nilp) s) s fun G s =>
 gF z (anC D G s) s fun H s =>
 orC z H s fun I s =>
 zp I (z1 Z bF s) (fl 2 c s fun J s =>
 cA P zaA [J,(.fn (.func zeU) [] [a,b,c])] s fun K s =>
 unC .not K s fun L s =>
 z1 Z L s)
theorem znx : F4 Tryz.prog zjs znV := zm [] Tryz.func49 (by decide +kernel) (by kernel_rfl) fun {_ _ _ _ _ _ _} => cast (by kernel_rfl)
def zgf (P : Program) (x0 : AV) (σ : LO) (Z : ZT) : Prop :=
 zbu x0 σ fun a s =>
 fl 0 a s fun b s =>
 zag .toBytes b s fun c s =>
 zl 1 a s fun d s =>
 zq false 1 d s fun e s =>
 zcC [(iN 0),e] s fun f s =>
 zag (.int .u64) f s fun g s =>
 cA P zec [eN,c] s fun h t =>
 zQ d s t ∧ (cA P zcb [h,g] t fun i s =>
 fl 2 a s fun j s =>
 cA P zec [i,j] s fun l s =>
 z1 Z l s)
theorem zfW : F1 Tryz.prog zcK zgf := zm [.d [(0, 3),(4, 4),(3, 1),(8, 2)] [(3, [8])]] Tryz.func50 (by decide +kernel) (by kernel_rfl) fun {_ _ _ _} => cast (by kernel_rfl)
def zlf (P : Program) (x0 x1 x2 x3 x4 x5 : AV) (σ : LO) (Z : ZT) : Prop :=
 zbu x0 σ fun a s =>
 zbu x2 s fun b s =>
 bP .lss x3 (iN 0) s fun c s =>
 gFm c x3 s fun d s =>
 gFm c x4 s fun e s =>
 gF c (bP .geq d e s) s fun f s =>
 orC c f s fun g s =>
 gFm g x5 s fun h s =>
 gF g (zaw .sl h s) s fun i s =>
 gFm g x3 s fun j s =>
 gFm g x4 s fun l s =>
 gF g (cA P zgY [j,l] s) s fun m s =>
 gF g (bP .neq i m s) s fun n s =>
 orC g n s fun o s =>
 zp o (z1 Z bF s) (zP [(.d .nilfn)] s fun p s =>
 zo 1 p (.fn (.func zcM) [] [a,b,p]) s fun _ s =>
 zq false 1 p s fun r s =>
 zal P r [dm x3,dm x4,dm x5] s fun u s =>
 ze u 0 s fun w s =>
 ze u 1 s fun y s =>
 gTm y w s fun z s =>
 gTm y x1 s fun A s =>
 gT y (bP .eql z A s) s fun B s =>
 anC y B s fun C s =>
 z1 Z C s)
theorem zkO : F6 Tryz.prog zgX zlf := zm [] Tryz.func51 (by decide +kernel) (by kernel_rfl) fun {_ _ _ _ _ _ _ _ _} => cast (by kernel_rfl)
def zrF (P : Program) (x0 : AV) (σ : LO) (Z : ZT) : Prop :=
 zbu x0 σ fun a s =>
 zq true 5 a s fun b s =>
 cA P zjn [b] s fun c s =>
 bP .neq c (iN 0) s fun d s =>
 zp d (z2 Z eN c s) (m1 1 [(.d (.int .u8 0))] (.d (.int .u8 3)) s fun e s =>
 fl 0 a s fun f s =>
 zag (.int .u64) f s fun g s =>
 cA P zaE [e,g] s fun h s =>
 fl 1 a s fun i s =>
 fl 2 a s fun j s =>
 fl 3 a s fun l s =>
 fl 4 a s fun m s =>
 zt false 1 4 (zS (rep [iN 0] 4) [(0, 1,i),(1, 1,j),(2, 1,l),(3, 1,m)]) s fun n s =>
 zbe [h,(iN 0)] s fun v s o =>
 zay v fun p v => zay v fun q v => zaw .sl n s fun r s =>
 bP .lss q r s fun u s =>
 zp u (il false 1 1 n q s fun w s =>
 zag (.int .u64) w s fun y s =>
 cA P zaE [p,y] s fun z s =>
 bP .add q (iN 1) s fun A s =>
 o [z,A] s) (z2 Z p (iN 0) s))
theorem zra : F1 Tryz.prog zmu zrF := zm [.l [5, 7] [(27, 13)]] Tryz.func54 (by decide +kernel) (by kernel_rfl) fun {_ _ _ _} => cast (by kernel_rfl)
def zjX (P : Program) (x0 x1 : AV) (σ : LO) (Z : ZT) : Prop :=
 zbe [(iN 0)] σ fun v s a =>
 zay v fun b v => nfl 0 x0 s fun c s =>
 zaw .sl c s fun d s =>
 bP .lss b d s fun e s =>
 zp e (nfl 0 x0 s fun f s =>
 il false 1 1 f b s fun g s =>
 cA P zoE [g,x1] s fun h s =>
 zp h (bP .add b (iN 1) s fun i s =>
 z2 Z i bT s) (bP .add b (iN 1) s fun j s =>
 a [j] s)) (z2 Z (iN 0) bF s)
theorem zjN : F2 Tryz.prog zfM zjX := zm [.l [6] [(4, 2),(7, 20)]] Tryz.func55 (by decide +kernel) (by kernel_rfl) fun {_ _ _ _ _} => cast (by kernel_rfl)
def ziY (P : Program) (x0 : AV) (σ : LO) (Z : ZT) : Prop :=
 zbu x0 σ fun a s =>
 fl 0 a s fun b s =>
 zag .toBytes b s fun c s =>
 cA P zaV [eN,c] s fun d s =>
 fl 1 a s fun e s =>
 zcC [e,(iN 0)] s fun f s =>
 zl 2 a s fun g s =>
 zq false 1 g s fun h s =>
 cA P zdB [d,f] s fun i t =>
 zQ g s t ∧ (cA P zaV [i,h] t fun j s =>
 z1 Z j s)
theorem ziK : F1 Tryz.prog zfm ziY := zm [.d [(0, 4),(5, 2),(4, 1),(7, 2)] [(4, [13])]] Tryz.func57 (by decide +kernel) (by kernel_rfl) fun {_ _ _ _} => cast (by kernel_rfl)
def S_r12_Of (P : Program) (x0 : AV) (σ : LO) (Z : ZT) : Prop :=
 zbe [(.d (.int .u16 0)),(.d (.int .u16 1)),(iN 0)] σ fun v s a =>
 zay v fun b v => zay v fun c v => zay v fun d v => bP .lss d (iN 13) s fun e s =>
 zp e ((fun (f : AV → LO → Prop) => zbe [b,(iN 0)] s fun v s j =>
 zay v fun l v => zay v fun m v => zaw .sl x0 s fun n s =>
 bP .lss m n s fun o s =>
 zp o (il false 1 1 x0 m s fun p s =>
 bP .eql p d s fun q s =>
 zp q (bP .add l c s fun r s =>
 f r s) (bP .add m (iN 1) s fun u s =>
 j [l,u] s)) (f l s))
 (fun g s => bP .mul c (.d (.int .u16 2)) s fun h s =>
 bP .add d (iN 1) s fun i s =>
 a [g,h,i] s)) (z1 Z b s)
theorem e_r12_Of : F1 Tryz.prog zqe S_r12_Of := zm [.l [3, 4, 5] [(6, 22)], .l [3, 6] [(11, 15)]] Tryz.func59 (by decide +kernel) (by kernel_rfl) fun {_ _ _ _} => cast (by kernel_rfl)
def znQ (P : Program) (x0 : AV) (σ : LO) (Z : ZT) : Prop :=
 cA P zgS [x0] σ fun a s =>
 bP .neq a (iN 0) s fun b s =>
 zp b (z1 Z (iN 0) s) (bP .mul (iN 3) x0 s fun c s =>
 bP .add c (iN 1) s fun d s =>
 z1 Z d s)
theorem zns : F1 Tryz.prog zjl znQ := zm [] Tryz.func60 (by decide +kernel) (by kernel_rfl) fun {_ _ _ _} => cast (by kernel_rfl)
def zbH (P : Program) (x0 x1 : AV) (σ : LO) (Z : ZT) : Prop :=
 zaw .sl x0 σ fun a s =>
 zbe [(iN 0)] s fun v s b =>
 zay v fun c v => bP .lss c a s fun d s =>
 zp d (il true 3 3 x0 c s fun e s =>
 zal P x1 [dm e] s fun f s =>
 zp f (z1 Z c s) (bP .add c (iN 1) s fun g s =>
 b [g] s)) (z1 Z (iN (-1)) s)
theorem zbG : F2 Tryz.prog zaN zbH := zm [.l [8] [(4, 2),(9, 10)]] Tryz.func61 (by decide +kernel) (by kernel_rfl) fun {_ _ _ _ _} => cast (by kernel_rfl)
def zmi (P : Program) (x0 x1 x2 : AV) (σ : LO) (Z : ZT) : Prop :=
 zbu x0 σ fun a s =>
 fl 0 a s fun b s =>
 zq false 1 x1 s fun c s =>
 bP .eql b c s fun d s =>
 gTl d 1 a s fun e s =>
 gT d (zq false 1 x2 s) s fun f s =>
 gT d (bP .eql e f s) s fun g s =>
 anC d g s fun h s =>
 z1 Z h s
theorem zlU : F3 Tryz.prog zih zmi := zm [] Tryz.func62 (by decide +kernel) (by kernel_rfl) fun {_ _ _ _ _ _} => cast (by kernel_rfl)
def zrM (P : Program) (x0 x1 : AV) (σ : LO) (Z : ZT) : Prop :=
 zaw .sl x0 σ fun a s =>
 zbe [eN,(iN 0)] s fun v s b =>
 zay v fun c v => zay v fun d v => bP .lss d a s fun e s =>
 zp e (il true 7 7 x0 d s fun f s =>
 zP [iN 0,iN 0,iN 0,iN 0,iN 0,eN,eN] s fun g s =>
 zo 7 g f s fun _ s =>
 bP .gtr d (iN 0) s fun i s =>
 gT i (zl 0 g s) s fun j s =>
 gTl i 0 j s fun l s =>
 gT i (bP .sub l (iN 1) s) s fun m s =>
 gTm i x0 s fun n s =>
 gTm i d s fun o s =>
 gT i (bP .sub o (iN 1) s) s fun p s =>
 gT i (zH none 7 n p s) s fun q s =>
 gT i (zl 0 q s) s fun r s =>
 gTl i 0 r s fun u s =>
 gT i (bP .neq m u s) s fun w s =>
 anC i w s fun y s =>
 zp y (z2 Z eN bF s) (zl 0 g s fun z s =>
 zq true 5 z s fun A s =>
 m1 5 [iN 0,iN 0,iN 0,iN 0,iN 0] A s fun B s =>
 zw 5 40 c B s fun C s =>
 zl 0 g s fun D s =>
 fl 0 D s fun E s =>
 bP .eql E x1 s fun F s =>
 zp F (z2 Z C bT s) (bP .add d (iN 1) s fun G s =>
 b [C,G] s))) (z2 Z eN bF s)
theorem zrh : F2 Tryz.prog zmy zrM := zm [.l [6, 11] [(4, 2),(7, 2),(12, 32)], .d [(0, 16)] []] Tryz.func63 (by decide +kernel) (by kernel_rfl) fun {_ _ _ _ _} => cast (by kernel_rfl)
def zmk (P : Program) (x0 x1 x2 : AV) (σ : LO) (Z : ZT) : Prop :=
 zbu x0 σ fun a s =>
 zq false 1 a s fun b s =>
 cA P zaS [b] s fun c s =>
 zcS .eql .ptr c (.d .nilp) s fun d s =>
 zp d (z2 Z eN (iN 2) s) (bP .lss x1 (iN 0) s fun e s =>
 gFm e x1 s fun f s =>
 gFm e x2 s fun g s =>
 gF e (zaw .sl g s) s fun h s =>
 gF e (bP .geq f h s) s fun i s =>
 orC e i s fun j s =>
 zp j (z2 Z eN (iN 1) s) (zP [eN] s fun l s =>
 zP [(.d .nilfn)] s fun m s =>
 zo 1 m (.fn (.func zcp) [] [m,l,a]) s fun _ s =>
 zq false 1 m s fun o s =>
 zal P o [dm x1,dm x2] s fun _ s =>
 zq false 1 l s fun q s =>
 z2 Z q (iN 0) s))
theorem zlW : F3 Tryz.prog zii zmk := zm [] Tryz.func64 (by decide +kernel) (by kernel_rfl) fun {_ _ _ _ _ _} => cast (by kernel_rfl)
def zmm (P : Program) (x0 : AV) (σ : LO) (Z : ZT) : Prop :=
 zaw .sl x0 σ fun a s =>
 zbe [eN,(iN 0)] s fun v s b =>
 zay v fun c v => zay v fun d v => bP .lss d a s fun e s =>
 zp e (il true 3 3 x0 d s fun f s =>
 cp [(.d (.str [])),iN 0,eN] 3 f s fun g s =>
 zq true 3 g s fun h s =>
 cA P zcK [h] s fun i s =>
 m1 1 [eN] i s fun j s =>
 zw 1 24 c j s fun l s =>
 bP .add d (iN 1) s fun m s =>
 b [l,m] s) (z1 Z c s)
theorem zlY : F1 Tryz.prog zij zmm := zm [.l [3, 8] [(5, 1),(9, 9)]] Tryz.func65 (by decide +kernel) (by kernel_rfl) fun {_ _ _ _} => cast (by kernel_rfl)
def zcG (P : Program) (x0 : AV) (σ : LO) (Z : ZT) : Prop :=
 zan false x0 σ fun a s =>
 zp a (z1 Z eN s) (zt false 2 0 (zS (rep [iN 0,iN 0] 0) []) s fun b s =>
 zw 2 16 b x0 s fun c s =>
 z1 Z c s)
theorem zcD : F1 Tryz.prog zbB zcG := zm [] Tryz.func66 (by decide +kernel) (by kernel_rfl) fun {_ _ _ _} => cast (by kernel_rfl)
def zcW (P : Program) (x0 : AV) (σ : LO) (Z : ZT) : Prop :=
 zan false x0 σ fun a s =>
 zp a (z1 Z eN s) (zt false 1 0 (zS (rep [(.d (.int .u8 0))] 0) []) s fun b s =>
 zw 1 1 b x0 s fun c s =>
 z1 Z c s)
theorem zcU : F1 Tryz.prog zbL zcW := zm [] Tryz.func67 (by decide +kernel) (by kernel_rfl) fun {_ _ _ _} => cast (by kernel_rfl)
def ziZ (P : Program) (x0 x1 : AV) (σ : LO) (Z : ZT) : Prop :=
 zaw .sl x1 σ fun a s =>
 bP .eql a (iN 0) s fun b s =>
 zp b (m1 1 [(.d (.int .u8 0))] (.d (.int .u8 2)) s fun c s =>
 cA P zbc [x0,c] s fun d s =>
 z1 Z d s) (zaw .sl x1 s fun e s =>
 bP .eql e (iN 1) s fun f s =>
 zp f (il false 1 1 x1 (iN 0) s fun g s =>
 cA P zoD [x0,g] s fun h s =>
 z1 Z h s) (zaw .sl x1 s fun i s =>
 cA P zmx [i] s fun j s =>
 zbT (.sl 1) x1 none (some j) none s fun l s =>
 cA P zfn [x0,l] s fun m s =>
 zbT (.sl 1) x1 (some j) none none s fun n s =>
 cA P zfn [x0,n] s fun o s =>
 cA P zoC [x0,m,o] s fun p s =>
 z1 Z p s))
theorem zeH : F2 Tryz.prog zfn ziZ := zm [] Tryz.func70 (by decide +kernel) (by kernel_rfl) fun {_ _ _ _ _} => cast (by kernel_rfl)
def zhs (P : Program) (x0 x1 : AV) (σ : LO) (Z : ZT) : Prop :=
 cA P zeS [x0] σ fun a s =>
 cA P zbc [x1,a] s fun b s =>
 z1 Z b s
theorem zhf : F2 Tryz.prog zcY zhs := zm [] Tryz.func71 (by decide +kernel) (by kernel_rfl) fun {_ _ _ _ _} => cast (by kernel_rfl)
def zrH (P : Program) (x0 : AV) (σ : LO) (Z : ZT) : Prop :=
 zbu x0 σ fun a s =>
 zq true 7 a s fun b s =>
 cA P zjp [b] s fun c s =>
 bP .neq c (iN 0) s fun d s =>
 zp d (z2 Z eN c s) (fl 0 a s fun e s =>
 zag (.int .u64) e s fun f s =>
 cA P zaE [eN,f] s fun g s =>
 fl 1 a s fun h s =>
 zag (.int .u64) h s fun i s =>
 cA P zaE [g,i] s fun j s =>
 zl 2 a s fun l s =>
 zq true 5 l s fun m s =>
 cA P zqE [j,m] s fun n s =>
 z2 Z n (iN 0) s)
theorem zrc : F1 Tryz.prog zjq zrH := zm [] Tryz.func72 (by decide +kernel) (by kernel_rfl) fun {_ _ _ _} => cast (by kernel_rfl)
def zja (P : Program) (x0 x1 x2 : AV) (σ : LO) (Z : ZT) : Prop :=
 zP [iN 0,iN 0] σ fun a s =>
 bP .lss x1 (iN 0) s fun b s =>
 gFm b x1 s fun c s =>
 gF b (bP .geq c (iN 21) s) s fun d s =>
 orC b d s fun e s =>
 zp e (zC (zS [iN 0,iN 0] []) s fun f s =>
 zo 2 a f s fun _ s =>
 Z (zB (zak a s true 2) (zB (some (iN 20)) (some []))) s) (bP .lss x2 (iN 1) s fun h s =>
 zp h (zC (zS [iN 0,iN 0] []) s fun i s =>
 zo 2 a i s fun _ s =>
 Z (zB (zak a s true 2) (zB (some (iN 1)) (some []))) s) (zC (zS [iN 0,iN 0] [(0, 1,x1),(1, 1,x2)]) s fun l s =>
 cp [iN 0,iN 0] 2 l s fun m s =>
 (fun (n : LO → Prop) => zq true 2 m s fun q s =>
 cA P zel [x0,q] s fun r s =>
 unC .not r s fun u s =>
 zp u (nfl 0 x0 s fun w s =>
 zq true 2 m s fun y s =>
 m1 2 [iN 0,iN 0] y s fun z s =>
 zw 2 16 eN w s fun A t =>
 zQ m s t ∧ (zw 2 16 A z t fun B s =>
 zby x0 s fun C s =>
 zl 0 C s fun D s =>
 zo 1 D B s fun _ s =>
 n s)) (n s))
 (fun  s => zq true 2 m s fun o s =>
 zo 2 a o s fun _ s =>
 Z (zB (zak a s true 2) (zB (some (iN 0)) (some []))) s)))
theorem ziL : F3 Tryz.prog zdJ zja := zm [.d [(0, 5),(6, 2),(5, 1),(8, 4)] [(5, [8])]] Tryz.func73 (by decide +kernel) (by kernel_rfl) fun {_ _ _ _ _ _} => cast (by kernel_rfl)
def S_r08_Key (P : Program) (x0 : AV) (σ : LO) (Z : ZT) : Prop :=
 bP .lss x0 (iN 0) σ fun a s =>
 gFm a x0 s fun b s =>
 gF a (bP .geq b (iN 8) s) s fun c s =>
 orC a c s fun d s =>
 zp d (z1 Z (iN (-1)) s) (bP .add (iN 13) x0 s fun e s =>
 z1 Z e s)
theorem e_r08_Key : F1 Tryz.prog zkv S_r08_Key := zm [] Tryz.func74 (by decide +kernel) (by kernel_rfl) fun {_ _ _ _} => cast (by kernel_rfl)
def zlc (P : Program) (x0 x1 : AV) (σ : LO) (Z : ZT) : Prop :=
 cA P zfM [x0,x1] σ fun a s =>
 ze a 0 s fun b s =>
 ze a 1 s fun c s =>
 zp c (z1 Z b s) (nfl 0 x0 s fun d s =>
 zaw .sl d s fun e s =>
 bP .geq e (iN 1048576) s fun f s =>
 zp f (z1 Z (iN 0) s) (nfl 0 x0 s fun g s =>
 zw 1 24 eN g s fun h s =>
 zw 1 1 eN x1 s fun i s =>
 m1 1 [eN] i s fun j s =>
 zw 1 24 h j s fun l s =>
 zby x0 s fun m s =>
 zl 0 m s fun n s =>
 zo 1 n l s fun _ s =>
 nfl 0 x0 s fun p s =>
 zaw .sl p s fun q s =>
 z1 Z q s))
theorem zkL : F2 Tryz.prog zbc zlc := zm [] Tryz.func75 (by decide +kernel) (by kernel_rfl) fun {_ _ _ _ _} => cast (by kernel_rfl)
def zrE (P : Program) (x0 : AV) (σ : LO) (Z : ZT) : Prop :=
 zbu x0 σ fun a s =>
 fl 0 a s fun b s =>
 cA P zgU [b] s fun c s =>
 unC .not c s fun d s =>
 gFl d 1 a s fun e s =>
 gF d (cA P zgU [e] s) s fun f s =>
 gF d (unC .not f s) s fun g s =>
 orC d g s fun h s =>
 gFl h 2 a s fun i s =>
 gF h (cA P zgU [i] s) s fun j s =>
 gF h (unC .not j s) s fun l s =>
 orC h l s fun m s =>
 gFl m 3 a s fun n s =>
 gF m (cA P zgU [n] s) s fun o s =>
 gF m (unC .not o s) s fun p s =>
 orC m p s fun q s =>
 gFl q 4 a s fun r s =>
 gF q (cA P zgU [r] s) s fun u s =>
 gF q (unC .not u s) s fun w s =>
 orC q w s fun y s =>
 zp y (z1 Z (iN 90) s) (z1 Z (iN 0) s)
theorem zqZ : F1 Tryz.prog zjn zrE := zm [] Tryz.func76 (by decide +kernel) (by kernel_rfl) fun {_ _ _ _} => cast (by kernel_rfl)
def zpI (P : Program) (x0 x1 : AV) (σ : LO) (Z : ZT) : Prop :=
 cA P zea [x1] σ fun a s =>
 bP .neq a (iN 0) s fun b s =>
 zp b (z2 Z (iN 0) a s) (cA P zig [eN,x1] s fun c s =>
 cA P zbc [x0,c] s fun d s =>
 bP .eql d (iN 0) s fun e s =>
 zp e (z2 Z (iN 0) (iN 6) s) (z2 Z d (iN 0) s))
theorem zpt : F2 Tryz.prog zkw zpI := zm [] Tryz.func77 (by decide +kernel) (by kernel_rfl) fun {_ _ _ _ _} => cast (by kernel_rfl)
def zhV (P : Program) (x0 x1 : AV) (σ : LO) (Z : ZT) : Prop :=
 zbu x1 σ fun a s =>
 zP [iN 0,iN 0] s fun b s =>
 fl 0 a s fun c s =>
 bP .lss c (iN 0) s fun d s =>
 gFl d 0 a s fun e s =>
 gF d (bP .geq e (iN 8) s) s fun f s =>
 orC d f s fun g s =>
 gFl g 1 a s fun h s =>
 gF g (bP .lss h (iN 1) s) s fun i s =>
 orC g i s fun j s =>
 gFl j 1 a s fun l s =>
 gF j (bP .gtr l (iN 9007199254740992) s) s fun m s =>
 orC j m s fun n s =>
 zp n (cA P zdj [(iN 1)] s fun o s =>
 zo 2 b o s fun _ s =>
 Z (zB (zak b s true 2) (zB (some eN) (zB (some bF) (some [])))) s) (zl 0 a s fun q s =>
 zq false 1 q s fun r s =>
 zby x0 s fun u s =>
 zl 1 u s fun w s =>
 zH (some 8) 3 w r s fun y s =>
 zq true 3 y s fun z s =>
 zP [iN 0,iN 0,iN 0] s fun A t =>
 zQ q s t ∧ (zQ y s t ∧ (zo 3 A z t fun _ s =>
 fl 1 a s fun C s =>
 fl 0 A s fun D s =>
 bP .eql C D s fun E s =>
 zp E (zl 1 A s fun F s =>
 zq true 2 F s fun G s =>
 zo 2 b G s fun _ s =>
 Z (zB (zak b s true 2) (zB (some eN) (zB (some bF) (some [])))) s) (fl 1 a s fun I s =>
 fl 0 A s fun J s =>
 bP .lss I J s fun K s =>
 zp K (cA P zdj [(iN 7)] s fun L s =>
 zo 2 b L s fun _ s =>
 Z (zB (zak b s true 2) (zB (some eN) (zB (some bF) (some [])))) s) (zl 2 a s fun N s =>
 zq true 5 N s fun O s =>
 cA P zfl [x0,O] s fun Q s =>
 ze Q 0 s fun R s =>
 ze Q 1 s fun S s =>
 cp [iN 0,iN 0] 2 R s fun T s =>
 fl 0 a s fun U s =>
 fl 1 a s fun V s =>
 zq true 2 T s fun W s =>
 zC (zS [iN 0,iN 0,iN 0] [(0, 1,V),(1, 2,W)]) s fun X s =>
 zby x0 s fun Y s =>
 zl 1 Y s fun a0 s =>
 zH (some 8) 3 a0 U s fun b0 s =>
 zo 3 b0 X s fun _ s =>
 zq true 2 T s fun d0 s =>
 zo 2 b d0 s fun _ s =>
 Z (zB (zak b s true 2) (zB (some S) (zB (some bT) (some [])))) s)))))
theorem zhN : F2 Tryz.prog zeT zhV := zm [.d [(0, 9)] [(7, [30, 34])], .d [(0, 11)] []] Tryz.func78 (by decide +kernel) (by kernel_rfl) fun {_ _ _ _ _} => cast (by kernel_rfl)
def S_r11_may (P : Program) (x0 x1 x2 x3 : AV) (σ : LO) (Z : ZT) : Prop :=
 cA P ziw [x0] σ fun a s =>
 gTm a x1 s fun b s =>
 gT a (cA P ziw [b] s) s fun c s =>
 anC a c s fun d s =>
 gTm d x2 s fun e s =>
 gT d (cA P ziw [e] s) s fun f s =>
 anC d f s fun g s =>
 gTm g x3 s fun h s =>
 gT g (cA P ziw [h] s) s fun i s =>
 anC g i s fun j s =>
 z1 Z j s
theorem e_r11_may : F4 Tryz.prog zqD S_r11_may := zm [] Tryz.func79 (by decide +kernel) (by kernel_rfl) fun {_ _ _ _ _ _ _} => cast (by kernel_rfl)
def ztv (P : Program) (x0 x1 x2 x3 : AV) (σ : LO) (Z : ZT) : Prop :=
 zP [iN 0,iN 0] σ fun a s =>
 cA P zbc [x0,x3] s fun b s =>
 bP .eql b (iN 0) s fun c s =>
 zp c (zC (zS [iN 0,iN 0] []) s fun d s =>
 zo 2 a d s fun _ s =>
 Z (zB (zak a s true 2) (zB (some (iN 6)) (some []))) s) (cA P zdJ [x1,x2,b] s fun f s =>
 ze f 0 s fun g s =>
 ze f 1 s fun h s =>
 zo 2 a g s fun _ s =>
 Z (zB (zak a s true 2) (zB (some h) (some []))) s)
theorem zsR : F4 Tryz.prog zoy ztv := zm [] Tryz.func80 (by decide +kernel) (by kernel_rfl) fun {_ _ _ _ _ _ _} => cast (by kernel_rfl)
def zkZ (P : Program) (x0 x1 x2 x3 : AV) (σ : LO) (Z : ZT) : Prop :=
 m1 1 [(.d (.int .u8 0))] (.d (.int .u8 4)) σ fun a s =>
 cA P ziv [a,x0] s fun b s =>
 cA P ziv [b,x1] s fun c s =>
 cA P ziv [c,x2] s fun d s =>
 cA P ziv [d,x3] s fun e s =>
 z1 Z e s
theorem zkI : F4 Tryz.prog zgT zkZ := zm [] Tryz.func81 (by decide +kernel) (by kernel_rfl) fun {_ _ _ _ _ _ _} => cast (by kernel_rfl)
def zrL (P : Program) (x0 : AV) (σ : LO) (Z : ZT) : Prop :=
 bP .lss x0 (iN 2) σ fun a s =>
 zp a (z1 Z (iN 0) s) (zbe [(iN 1)] s fun v s b =>
 zay v fun c v => bP .sub x0 c s fun d s =>
 bP .lss c d s fun e s =>
 zp e (bP .mul c (iN 2) s fun f s =>
 b [f] s) (z1 Z c s))
theorem zrg : F1 Tryz.prog zmx zrL := zm [.l [3] [(6, 7)]] Tryz.func82 (by decide +kernel) (by kernel_rfl) fun {_ _ _ _} => cast (by kernel_rfl)
def zpP (P : Program) (x0 : AV) (σ : LO) (Z : ZT) : Prop :=
 zaw .sl x0 σ fun a s =>
 bP .gtr a (iN 1048576) s fun b s =>
 zp b (z2 Z (.d .nilp) (iN 3) s) (cA P zeb [] s fun c s =>
 zaw .sl x0 s fun d s =>
 zbe [(iN 0)] s fun v s e =>
 zay v fun f v => bP .lss f d s fun g s =>
 zp g (il false 1 1 x0 f s fun h s =>
 cA P zaL [c,h] s fun i s =>
 ze i 0 s fun _ s =>
 ze i 1 s fun l s =>
 zp l (z2 Z (.d .nilp) (iN 5) s) (cA P zbE [c,h] s fun _ s =>
 bP .add f (iN 1) s fun n s =>
 e [n] s)) (z2 Z c (iN 0) s))
theorem zpA : F1 Tryz.prog zkz zpP := zm [.l [15] [(2, 2),(6, 3),(16, 14)]] Tryz.func83 (by decide +kernel) (by kernel_rfl) fun {_ _ _ _} => cast (by kernel_rfl)
def zfJ (P : Program) (x0 x1 : AV) (σ : LO) (Z : ZT) : Prop :=
 zbu x1 σ fun a s =>
 fl 0 a s fun b s =>
 cA P zdR [x0,b] s fun _ s =>
 fl 1 a s fun d s =>
 cA P zaR [x0,d] s fun _ s =>
 fl 2 a s fun f s =>
 zaw .sl f s fun g s =>
 cA P zaX [x0,g,(iN 64)] s fun _ s =>
 fl 3 a s fun i s =>
 zaw .sl i s fun j s =>
 cA P zaX [x0,j,(iN 64)] s fun _ s =>
 fl 3 a s fun m s =>
 zaw .sl m s fun n s =>
 zbe [(iN 0)] s fun v s o =>
 zay v fun p v => bP .lss p n s fun q s =>
 zp q (il true 5 5 m p s fun r s =>
 cp [iN 0,iN 0,iN 0,iN 0,iN 0] 5 r s fun u s =>
 fl 0 u s fun w s =>
 cA P zem [x0,w] s fun _ s =>
 fl 1 u s fun z s =>
 fl 2 u s fun A s =>
 fl 3 u s fun B s =>
 fl 4 u s fun C s =>
 zt false 1 4 (zS (rep [iN 0] 4) [(0, 1,z),(1, 1,A),(2, 1,B),(3, 1,C)]) s fun D s =>
 zaw .sl D s fun E s =>
 zbe [(iN 0)] s fun v s F =>
 zay v fun G v => bP .lss G E s fun H s =>
 zp H (il false 1 1 D G s fun I s =>
 cA P zaR [x0,I] s fun _ s =>
 bP .add G (iN 1) s fun K s =>
 F [K] s) (bP .add p (iN 1) s fun L s =>
 o [L] s)) (fl 4 a s fun M s =>
 cA P zaR [x0,M] s fun _ s =>
 fl 5 a s fun O s =>
 cA P zaX [x0,O,(iN 16)] s fun _ s =>
 fl 4 a s fun R s =>
 fl 5 a s fun S s =>
 bP .sub S (iN 1) s fun T s =>
 cA P zbQ [x0,R,(iN 0),T] s fun _ s =>
 fl 6 a s fun V s =>
 zaw .sl V s fun W s =>
 cA P zaX [x0,W,(iN 8)] s fun _ s =>
 fl 6 a s fun Y s =>
 zaw .sl Y s fun a0 s =>
 zbe [(iN 0)] s fun v s b0 =>
 zay v fun c0 v => bP .lss c0 a0 s fun d0 s =>
 zp d0 (il false 1 1 Y c0 s fun e0 s =>
 cA P zaR [x0,e0] s fun _ s =>
 bP .add c0 (iN 1) s fun g0 s =>
 b0 [g0] s) (zl 7 a s fun h0 s =>
 zq true 3 h0 s fun i0 s =>
 cA P zdS [x0,i0] s fun _ s =>
 Z (some []) s))
theorem zfE : F2 Tryz.prog zdC zfJ := zm [.l [31] [(5, 1),(7, 1),(32, 26)], .l [49] [(7, 1),(50, 7)], .l [81] [(9, 1),(82, 7)]] Tryz.func84 (by decide +kernel) (by kernel_rfl) fun {_ _ _ _ _} => cast (by kernel_rfl)
def zoc (P : Program) (x0 x1 : AV) (σ : LO) (Z : ZT) : Prop :=
 cA P zkB [x0] σ fun a s =>
 unC .not a s fun b s =>
 zp b (z1 Z bF s) (zaw .sl x1 s fun c s =>
 zbe [(iN 0)] s fun v s d =>
 zay v fun e v => bP .lss e c s fun f s =>
 zp f ((fun (g : LO → Prop) => il true 5 5 x1 e s fun i s =>
 zP [iN 0,iN 0,iN 0,iN 0,iN 0] s fun j s =>
 zo 5 j i s fun _ s =>
 zq true 5 j s fun m s =>
 cA P zgq [m] s fun n s =>
 bP .neq n (iN 0) s fun o s =>
 zp o (z1 Z bF s) (bP .eql e (iN 0) s fun p s =>
 zp p (g s) (bP .sub e (iN 1) s fun q s =>
 il true 5 5 x1 q s fun r s =>
 cA P zgr [r] s fun u s =>
 ze u 0 s fun w s =>
 ze u 1 s fun _ s =>
 cA P zaL [x0,w] s fun z s =>
 ze z 0 s fun A s =>
 ze z 1 s fun B s =>
 unC .not B s fun C s =>
 gFl C 1 j s fun D s =>
 gFm C A s fun E s =>
 gF C (bP .neq D E s) s fun F s =>
 orC C F s fun G s =>
 gFl G 0 j s fun H s =>
 gF G (bP .sub H (iN 1) s) s fun I s =>
 gFm G x1 s fun J s =>
 gFm G e s fun K s =>
 gF G (bP .sub K (iN 1) s) s fun L s =>
 gF G (zH none 5 J L s) s fun M s =>
 gFl G 0 M s fun N s =>
 gF G (bP .neq I N s) s fun O s =>
 orC G O s fun Q s =>
 zp Q (z1 Z bF s) (g s))))
 (fun  s => bP .add e (iN 1) s fun h s =>
 d [h] s)) (z1 Z bT s))
theorem znE : F2 Tryz.prog zjw zoc := zm [.l [16] [(4, 7),(17, 45)], .d [(0, 20)] []] Tryz.func85 (by decide +kernel) (by kernel_rfl) fun {_ _ _ _ _} => cast (by kernel_rfl)
def zod (P : Program) (x0 : AV) (σ : LO) (Z : ZT) : Prop :=
 zbu x0 σ fun a s =>
 zq true 5 a s fun b s =>
 cA P zgq [b] s fun c s =>
 bP .neq c (iN 0) s fun d s =>
 zp d (z2 Z eN c s) (m1 1 [(.d (.int .u8 0))] (.d (.int .u8 3)) s fun e s =>
 fl 0 a s fun f s =>
 fl 1 a s fun g s =>
 fl 2 a s fun h s =>
 fl 3 a s fun i s =>
 fl 4 a s fun j s =>
 zt false 1 5 (zS (rep [iN 0] 5) [(0, 1,f),(1, 1,g),(2, 1,h),(3, 1,i),(4, 1,j)]) s fun l s =>
 zaw .sl l s fun m s =>
 zbe [e,(iN 0)] s fun v s n =>
 zay v fun o v => zay v fun p v => bP .lss p m s fun q s =>
 zp q (il false 1 1 l p s fun r s =>
 zag (.int .u64) r s fun u s =>
 cA P zcb [o,u] s fun w s =>
 bP .add p (iN 1) s fun y s =>
 n [w,y] s) (z2 Z o (iN 0) s))
theorem znF : F1 Tryz.prog zgr zod := zm [.l [5, 26] [(7, 1),(27, 8)]] Tryz.func86 (by decide +kernel) (by kernel_rfl) fun {_ _ _ _} => cast (by kernel_rfl)
def zhZ (P : Program) (x0 x1 : AV) (σ : LO) (Z : ZT) : Prop :=
 cA P zbR [x0] σ fun a s =>
 zp a (z2 Z (iN 0) bF s) (nfl 1 x0 s fun b s =>
 zag .toStr x1 s fun c s =>
 zaF .str true (iN 0) b c s fun d s =>
 ze d 0 s fun e s =>
 ze d 1 s fun f s =>
 z2 Z e f s)
theorem zhR : F2 Tryz.prog zaL zhZ := zm [.d [(0, 12)] []] Tryz.func87 (by decide +kernel) (by kernel_rfl) fun {_ _ _ _ _} => cast (by kernel_rfl)
def zrN (P : Program) (x0 : AV) (σ : LO) (Z : ZT) : Prop :=
 cA P zdW [x0] σ fun a s =>
 bP .neq a (iN 0) s fun b s =>
 zp b (z2 Z (.d .nilp) a s) (zat s fun c s =>
 zC (zS [iN 0,iN 0,iN 0,eN,(.d .nilmap),eN] [(0, 1,x0),(4, 1,c)]) s fun d s =>
 zbu d s fun e s =>
 z2 Z e (iN 0) s)
theorem zri : F1 Tryz.prog zmz zrN := zm [] Tryz.func88 (by decide +kernel) (by kernel_rfl) fun {_ _ _ _} => cast (by kernel_rfl)
def zff (P : Program) (x0 x1 : AV) (σ : LO) (Z : ZT) : Prop :=
 zbu x1 σ fun a s =>
 zq true 3 a s fun b s =>
 cA P zky [b] s fun c s =>
 zp c (z1 Z bT s) (fl 2 a s fun d s =>
 zaw .sl d s fun e s =>
 zbe [(iN 0)] s fun v s f =>
 zay v fun g v => bP .lss g e s fun h s =>
 zp h (il true 2 2 d g s fun i s =>
 zP [iN 0,iN 0] s fun j s =>
 zo 2 j i s fun _ s =>
 fl 0 a s fun m s =>
 fl 1 a s fun n s =>
 fl 0 j s fun o s =>
 cA P zeV [x0,m,n,o] s fun p s =>
 unC .not p s fun q s =>
 gFm q g s fun r s =>
 gF q (bP .gtr r (iN 0) s) s fun u s =>
 gFm q u s fun w s =>
 gTl w 0 j s fun y s =>
 gTl w 2 a s fun z s =>
 gTm w g s fun A s =>
 gT w (bP .sub A (iN 1) s) s fun B s =>
 gT w (zH none 2 z B s) s fun C s =>
 gTl w 0 C s fun D s =>
 gT w (bP .leq y D s) s fun E s =>
 gF q (anC w E s) s fun F s =>
 orC q F s fun G s =>
 zp G (z1 Z bF s) (bP .add g (iN 1) s fun H s =>
 f [H] s)) (zl 2 a s fun I s =>
 zq false 1 I s fun J s =>
 zaw .sl J s fun K s =>
 nfl 0 x0 s fun L s =>
 cA P zkx [L] s fun M t =>
 zQ I s t ∧ (bP .geq K M t fun N s =>
 z1 Z N s)))
theorem zfe : F2 Tryz.prog zdp zff := zm [.l [12] [(4, 3),(13, 30)], .d [(0, 25)] [], .d [(0, 10)] [(7, [43])]] Tryz.func89 (by decide +kernel) (by kernel_rfl) fun {_ _ _ _ _} => cast (by kernel_rfl)
def zbN (P : Program) (x0 x1 : AV) (σ : LO) (Z : ZT) : Prop :=
 cA P zbb [x0,x1] σ fun a s =>
 bP .geq a (iN 0) s fun b s =>
 z1 Z b s
theorem zbM : F2 Tryz.prog zaA zbN := zm [] Tryz.func90 (by decide +kernel) (by kernel_rfl) fun {_ _ _ _ _} => cast (by kernel_rfl)
def zle (P : Program) (x0 x1 x2 x3 : AV) (σ : LO) (Z : ZT) : Prop :=
 zbu x0 σ fun a s =>
 zq false 1 x1 s fun b s =>
 zq false 1 x2 s fun c s =>
 zq true 2 a s fun d s =>
 fl 0 a s fun e s =>
 fl 0 x3 s fun f s =>
 fl 1 x3 s fun g s =>
 cA P zfP [b,c,d,e,(iN 6),(iN 0),f,g] s fun h s =>
 unC .not h s fun i s =>
 z1 Z i s
theorem zkN : F4 Tryz.prog zeU zle := zm [] Tryz.func91 (by decide +kernel) (by kernel_rfl) fun {_ _ _ _ _ _ _} => cast (by kernel_rfl)
def zke (P : Program) (x0 x1 x2 x3 x4 x5 x6 x7 : AV) (σ : LO) (Z : ZT) : Prop :=
 zbu x2 σ fun a s =>
 cA P zmA [x0,x1] s fun b s =>
 gTm b x4 s fun c s =>
 gTm b x5 s fun d s =>
 gTm b x6 s fun e s =>
 gTm b x7 s fun f s =>
 gT b (cA P zoI [c,d,e,f] s) s fun g s =>
 anC b g s fun h s =>
 gTm h x0 s fun i s =>
 gTm h x1 s fun j s =>
 gT h (zq true 2 a s) s fun l s =>
 gTm h x3 s fun m s =>
 gTm h x4 s fun n s =>
 gTm h x5 s fun o s =>
 gTm h x6 s fun p s =>
 gTm h x7 s fun q s =>
 gT h (cA P zfO [n,o,p,q] s) s fun r t =>
 zQ a s t ∧ (gT h (cA P zjx [i,j,l,m,r] t) t fun u s =>
 anC h u s fun w s =>
 z1 Z w s)
theorem zjU : F8 Tryz.prog zfP zke := zm [.d [(0, 23)] [(19, [10])]] Tryz.func92 (by decide +kernel) (by kernel_rfl) fun {_ _ _ _ _ _ _ _ _ _ _} => cast (by kernel_rfl)
def zml (P : Program) (x0 x1 : AV) (σ : LO) (Z : ZT) : Prop :=
 cA P zkA [x1] σ fun a s =>
 ze a 0 s fun b s =>
 ze a 1 s fun c s =>
 cp [(.d (.int .u8 0)),(.d (.int .u8 0)),(.d (.int .u8 0)),(.d (.int .u8 0)),(.d (.int .u8 0)),(.d (.int .u8 0)),(.d (.int .u8 0)),(.d (.int .u8 0)),(.d (.int .u8 0)),(.d (.int .u8 0))] 10 b s fun d s =>
 zbT (.arr 10 1) d none (some c) none s fun e s =>
 cA P zcX [x0] s fun f s =>
 zw 1 1 f e s fun g s =>
 z1 Z g s
theorem zlX : F2 Tryz.prog zcb zml := zm [.d [(0, 1),(2, 2),(1, 1),(4, 2)] []] Tryz.func93 (by decide +kernel) (by kernel_rfl) fun {_ _ _ _ _} => cast (by kernel_rfl)
end Go.Proofs.YtncpaekiidpchaaGreat
