/- The conditions of each function, its slots as variables, and that the logic's conditions are these. Printed by program. -/
import Derived.Test.YtncpaekiidpchaaGreatNm
import Derived.KernelRfl
set_option linter.all false
set_option maxRecDepth 100000
namespace Go.Proofs.YtncpaekiidpchaaGreat
open Go.AW
def S_r12_Big (P : Program) (x0 : AV) (σ : LO) (Z : ZT) : Prop :=
 cA P zfz [x0] σ fun a s =>
 bP .neq a (iN 0) s fun b s =>
 zn b (z1 Z (iN 0) s) (bP .mul (iN 2) x0 s fun c s =>
 bP .add c (iN 1) s fun d s =>
 z1 Z d s)
theorem e_r12_Big : F1 Tryz.prog zrv S_r12_Big := zl [] Tryz.func28 (by decide +kernel) (by kernel_rfl) fun {_ _ _ _} => cast (by kernel_rfl)
def zjG (P : Program) (σ : LO) (Z : ZT) : Prop :=
 zat σ fun a s =>
 zE (zR [eN,(.d .nilmap)] [(1, 1,a)]) s fun b s =>
 zaV b s fun c s =>
 z1 Z c s
theorem zjr : F0 Tryz.prog zdY zjG := zl [] Tryz.func29 (by decide +kernel) (by kernel_rfl) fun {_ _ _} => cast (by kernel_rfl)
def zkK (P : Program) (σ : LO) (Z : ZT) : Prop :=
 zat σ fun a s =>
 zE (zR [eN,(.d .nilmap)] [(1, 1,a)]) s fun b s =>
 zaV b s fun c s =>
 z1 Z c s
theorem zkw : F0 Tryz.prog zeD zkK := zl [] Tryz.func30 (by decide +kernel) (by kernel_rfl) fun {_ _ _} => cast (by kernel_rfl)
def zqC (P : Program) (x0 x1 : AV) (σ : LO) (Z : ZT) : Prop :=
 m1 1 [(.d (.int .u8 0))] x1 σ fun a s =>
 m1 1 [eN] a s fun b s =>
 zE (zR [iN 0,(.d (.str [])),(.d (.str [])),iN 0,eN] [(0, 1,(iN 2)),(1, 1,(.d (.str [116]))),(4, 1,b)]) s fun c s =>
 zE (zR [iN 0,iN 0,iN 0,(.d (.str [])),(.d (.str [])),iN 0,eN] [(1, 1,x0),(2, 5,c)]) s fun d s =>
 m1 7 [iN 0,iN 0,iN 0,(.d (.str [])),(.d (.str [])),iN 0,eN] d s fun e s =>
 z1 Z e s
theorem zqj : F2 Tryz.prog zim zqC := zl [] Tryz.func31 (by decide +kernel) (by kernel_rfl) fun {_ _ _ _ _} => cast (by kernel_rfl)
def zoC (P : Program) (x0 : AV) (σ : LO) (Z : ZT) : Prop :=
 zQ [iN 0,iN 0,iN 0,iN 0,iN 0] σ fun a s =>
 cA P zdW [x0,eN] s fun b s =>
 zE (zR [iN 0,iN 0,iN 0,iN 0,iN 0] [(3, 1,b)]) s fun c s =>
 cp [iN 0,iN 0,iN 0,iN 0,iN 0] 5 c s fun d s =>
 zE (zR [eN,iN 0,iN 0,iN 0,iN 0,iN 0,iN 0,iN 0,iN 0,iN 0,iN 0,iN 0,iN 0,iN 0,iN 0,iN 0,iN 0,iN 0,iN 0,iN 0,iN 0,iN 0,iN 0,iN 0,iN 0] []) s fun e s =>
 zaV e s fun f s =>
 cA P zdg [f,x0] s fun g s =>
 zk 4 d s fun h s =>
 zo 1 h g s fun _ s =>
 fl 3 d s fun j s =>
 bP .eql j (iN 0) s fun l s =>
 gFl l 4 d s fun m s =>
 gF l (bP .eql m (iN 0) s) s fun n s =>
 orC l n s fun o s =>
 zn o (zE (zR [iN 0,iN 0,iN 0,iN 0,iN 0] []) s fun p s =>
 zo 5 a p s fun _ s =>
 Z (zC (zaj a s true 5) (zC (some (iN 6)) (some []))) s) (zp true 5 d s fun r s =>
 zo 5 a r s fun _ s =>
 Z (zC (zaj a s true 5) (zC (some (iN 0)) (some []))) s)
theorem znZ : F1 Tryz.prog zjT zoC := zl [] Tryz.func32 (by decide +kernel) (by kernel_rfl) fun {_ _ _ _} => cast (by kernel_rfl)
def zuP (P : Program) (x0 x1 x2 : AV) (σ : LO) (Z : ZT) : Prop :=
 zaV x2 σ fun a s =>
 zQ [iN 0,iN 0,iN 0,(.d (.str [])),(.d (.str [])),iN 0,eN,iN 0,iN 0] s fun b s =>
 zp true 7 a s fun c s =>
 cA P zjW [c] s fun d s =>
 ze d 0 s fun e s =>
 ze d 1 s fun f s =>
 bP .neq f (iN 0) s fun g s =>
 zn g (zE (zR [iN 0,iN 0,iN 0,(.d (.str [])),(.d (.str [])),iN 0,eN,iN 0,iN 0] []) s fun h s =>
 zo 9 b h s fun _ s =>
 Z (zC (zaj b s true 9) (zC (some f) (some []))) s) (fl 0 a s fun j s =>
 cA P zlf [j] s fun l s =>
 cA P zbq [x0,e] s fun m s =>
 cA P zdX [x1,l,m] s fun n s =>
 ze n 0 s fun o s =>
 ze n 1 s fun p s =>
 cp [iN 0,iN 0] 2 o s fun q s =>
 bP .neq p (iN 0) s fun r s =>
 zn r (zE (zR [iN 0,iN 0,iN 0,(.d (.str [])),(.d (.str [])),iN 0,eN,iN 0,iN 0] []) s fun u s =>
 zo 9 b u s fun _ s =>
 Z (zC (zaj b s true 9) (zC (some p) (some []))) s) (zp true 7 a s fun y s =>
 zp true 2 q s fun z s =>
 zE (zR [iN 0,iN 0,iN 0,(.d (.str [])),(.d (.str [])),iN 0,eN,iN 0,iN 0] [(0, 7,y),(7, 2,z)]) s fun A s =>
 zo 9 b A s fun _ s =>
 Z (zC (zaj b s true 9) (zC (some (iN 0)) (some []))) s))
theorem zuc : F3 Tryz.prog ziY zuP := zl [] Tryz.func33 (by decide +kernel) (by kernel_rfl) fun {_ _ _ _ _ _} => cast (by kernel_rfl)
def zoD (P : Program) (x0 x1 x2 x3 : AV) (σ : LO) (Z : ZT) : Prop :=
 zaV x2 σ fun a s =>
 zQ [iN 0,iN 0,iN 0,iN 0,iN 0] s fun b s =>
 zp true 5 a s fun c s =>
 cA P zhq [c] s fun d s =>
 bP .neq d (iN 0) s fun e s =>
 zn e (zE (zR [iN 0,iN 0,iN 0,iN 0,iN 0] []) s fun f s =>
 zo 5 b f s fun _ s =>
 Z (zC (zaj b s true 5) (zC (some eN) (zC (some eN) (zC (some d) (some []))))) s) (fl 0 a s fun h s =>
 bP .eql h (iN 9007199254740992) s fun i s =>
 zn i (zE (zR [iN 0,iN 0,iN 0,iN 0,iN 0] []) s fun j s =>
 zo 5 b j s fun _ s =>
 Z (zC (zaj b s true 5) (zC (some eN) (zC (some eN) (zC (some (iN 6)) (some []))))) s) (fl 0 a s fun m s =>
 bP .add m (iN 1) s fun n s =>
 zE (zR [iN 0,iN 0,iN 0,iN 0,iN 0] [(0, 1,n)]) s fun o s =>
 cp [iN 0,iN 0,iN 0,iN 0,iN 0] 5 o s fun p s =>
 cA P zlg [x0,x3] s fun q s =>
 ze q 0 s fun r s =>
 ze q 1 s fun u s =>
 bP .neq u (iN 0) s fun w s =>
 zn w (zE (zR [iN 0,iN 0,iN 0,iN 0,iN 0] []) s fun y s =>
 zo 5 b y s fun _ s =>
 Z (zC (zaj b s true 5) (zC (some eN) (zC (some eN) (zC (some u) (some []))))) s) (zk 2 p s fun A s =>
 zo 1 A r s fun _ s =>
 zp true 5 a s fun C s =>
 cA P zij [x0,C] s fun D s =>
 ze D 0 s fun E s =>
 ze D 1 s fun F s =>
 zk 1 p s fun G s =>
 zo 1 G E s fun _ s =>
 bP .neq F (iN 0) s fun I s =>
 zn I (zE (zR [iN 0,iN 0,iN 0,iN 0,iN 0] []) s fun J s =>
 zo 5 b J s fun _ s =>
 Z (zC (zaj b s true 5) (zC (some eN) (zC (some eN) (zC (some F) (some []))))) s) (zaM [eN,eN,(iN 0)] s fun v s L =>
 zau v fun M v => zau v fun N v => zau v fun O v => zas .sl x3 s fun Q s =>
 bP .lss O Q s fun R s =>
 zn R (zG none 9 x3 O s fun S s =>
 zk 0 S s fun T s =>
 zp true 7 T s fun U s =>
 cA P zfc [x1,U] s fun V s =>
 ze V 0 s fun W s =>
 ze V 1 s fun X s =>
 ze V 2 s fun Y s =>
 cp [iN 0,iN 0] 2 W s fun a0 s =>
 zw 3 48 M X s fun b0 s =>
 zG none 9 x3 O s fun c0 s =>
 zk 0 c0 s fun d0 s =>
 fl 0 d0 s fun e0 s =>
 zG none 9 x3 O s fun f0 s =>
 zk 0 f0 s fun g0 s =>
 fl 1 g0 s fun h0 s =>
 zp true 2 a0 s fun i0 s =>
 zE (zR [iN 0,iN 0,iN 0,iN 0,bF] [(0, 1,e0),(1, 1,h0),(2, 2,i0),(4, 1,Y)]) s fun j0 s =>
 m1 5 [iN 0,iN 0,iN 0,iN 0,bF] j0 s fun l0 s =>
 zw 5 40 N l0 s fun m0 s =>
 bP .add O (iN 1) s fun o0 s =>
 L [b0,m0,o0] s) (cA P zii [M] s fun p0 s =>
 cA P zdW [x0,p0] s fun q0 s =>
 zk 3 p s fun r0 s =>
 zo 1 r0 q0 s fun _ s =>
 cA P zdg [x1,x0] s fun w0 s =>
 zk 4 p s fun y0 s =>
 zo 1 y0 w0 s fun _ s =>
 fl 3 p s fun A0 s =>
 bP .eql A0 (iN 0) s fun B0 s =>
 gFl B0 4 p s fun C0 s =>
 gF B0 (bP .eql C0 (iN 0) s) s fun D0 s =>
 orC B0 D0 s fun E0 s =>
 zn E0 (zE (zR [iN 0,iN 0,iN 0,iN 0,iN 0] []) s fun F0 s =>
 zo 5 b F0 s fun _ s =>
 Z (zC (zaj b s true 5) (zC (some eN) (zC (some eN) (zC (some (iN 6)) (some []))))) s) (zp true 5 p s fun H0 s =>
 zo 5 b H0 s fun _ s =>
 Z (zC (zaj b s true 5) (zC (some M) (zC (some N) (zC (some (iN 0)) (some []))))) s))))))
theorem zoa : F4 Tryz.prog zgW zoD := zl [.l [16, 17, 18] [(19, 3),(59, 38)], .d [(0, 19)] []] Tryz.func34 (by decide +kernel) (by kernel_rfl) fun {_ _ _ _ _ _ _} => cast (by kernel_rfl)
def zqt (P : Program) (x0 x1 : AV) (σ : LO) (Z : ZT) : Prop :=
 zaV x1 σ fun a s =>
 zp true 5 a s fun b s =>
 cA P zhr [b] s fun c s =>
 ze c 0 s fun d s =>
 ze c 1 s fun e s =>
 bP .neq e (iN 0) s fun f s =>
 zn f (z2 Z (iN 0) e s) (cA P zbq [x0,d] s fun g s =>
 bP .eql g (iN 0) s fun h s =>
 zn h (z2 Z (iN 0) (iN 6) s) (z2 Z g (iN 0) s))
theorem zqa : F2 Tryz.prog zij zqt := zl [] Tryz.func35 (by decide +kernel) (by kernel_rfl) fun {_ _ _ _ _} => cast (by kernel_rfl)
def zuK (P : Program) (x0 : AV) (σ : LO) (Z : ZT) : Prop :=
 zaM [eN,(iN 0)] σ fun v s a =>
 zau v fun b v => zau v fun c v => bP .lss c (iN 13) s fun d s =>
 zn d ((fun (e : AV → LO → Prop) => cA P zld [x0,c] s fun h s =>
 zn h (m1 1 [iN 0] c s fun i s =>
 zw 1 8 b i s fun j s =>
 e j s) (e b s))
 (fun f s => bP .add c (iN 1) s fun g s =>
 a [f,g] s)) (z1 Z b s)
theorem ztX : F1 Tryz.prog zpe zuK := zl [.l [3, 4] [(5, 11)]] Tryz.func36 (by decide +kernel) (by kernel_rfl) fun {_ _ _ _} => cast (by kernel_rfl)
def zuN (P : Program) (x0 x1 x2 x3 x4 x5 x6 : AV) (σ : LO) (Z : ZT) : Prop :=
 zQ [iN 0,iN 0] σ fun a s =>
 cA P znN [x3,x4,x5,x6] s fun b s =>
 unC .not b s fun c s =>
 zn c (zE (zR [iN 0,iN 0] []) s fun d s =>
 zo 2 a d s fun _ s =>
 Z (zC (zaj a s true 2) (zC (some (iN 1)) (some []))) s) (cA P zeZ [x3,x4,x5,x6] s fun f s =>
 cA P zpg [x0,x1,x2,f] s fun g s =>
 ze g 0 s fun h s =>
 ze g 1 s fun i s =>
 zo 2 a h s fun _ s =>
 Z (zC (zaj a s true 2) (zC (some i) (some []))) s)
theorem zua : F7 Tryz.prog ziX zuN := zl [] Tryz.func37 (by decide +kernel) (by kernel_rfl) fun {_ _ _ _ _ _ _ _ _ _} => cast (by kernel_rfl)
def zuH (P : Program) (x0 x1 x2 : AV) (σ : LO) (Z : ZT) : Prop :=
 zaM [(iN 0)] σ fun v s a =>
 zau v fun b v => zas .sl x0 s fun c s =>
 bP .lss b c s fun d s =>
 zn d (zaM [(iN 0)] s fun v s e =>
 zau v fun f v => zG none 7 x0 b s fun g s =>
 fl 6 g s fun h s =>
 zas .sl h s fun i s =>
 bP .lss f i s fun j s =>
 zn j (zG none 7 x0 b s fun l s =>
 fl 6 l s fun m s =>
 zG none 3 m f s fun n s =>
 fl 0 n s fun o s =>
 bP .eql o x1 s fun p s =>
 gTm p x0 s fun q s =>
 gTm p b s fun r s =>
 gT p (zG none 7 q r s) s fun u s =>
 gTl p 6 u s fun w s =>
 gTm p f s fun y s =>
 gT p (zG none 3 w y s) s fun z s =>
 gTl p 1 z s fun A s =>
 gTm p x2 s fun B s =>
 gT p (bP .eql A B s) s fun C s =>
 anC p C s fun D s =>
 zn D (Z (zC (some b) (zC (some f) (zC (some bT) (some [])))) s) (bP .add f (iN 1) s fun E s =>
 e [E] s)) (bP .add b (iN 1) s fun F s =>
 a [F] s)) (Z (zC (some (iN 0)) (zC (some (iN 0)) (zC (some bF) (some [])))) s)
theorem ztU : F3 Tryz.prog zpc zuH := zl [.l [9] [(6, 3),(10, 43)], .l [10] [(6, 3),(17, 36)]] Tryz.func38 (by decide +kernel) (by kernel_rfl) fun {_ _ _ _ _ _} => cast (by kernel_rfl)
def zsQ (P : Program) (x0 x1 x2 : AV) (σ : LO) (Z : ZT) : Prop :=
 bP .lss x1 (iN 0) σ fun a s =>
 gFm a x1 s fun b s =>
 gFm a x2 s fun c s =>
 gF a (zas .sl c s) s fun d s =>
 gF a (bP .geq b d s) s fun e s =>
 orC a e s fun f s =>
 zn f (z2 Z eN (iN 1) s) (zas .sl x2 s fun g s =>
 bP .eql g (iN 1) s fun h s =>
 zn h (z2 Z eN (iN 0) s) (zas .sl x2 s fun i s =>
 cA P zfD [i] s fun j s =>
 bP .lss x1 j s fun l s =>
 zn l (zbH (.sl 1) x2 none (some j) none s fun m s =>
 cA P zfE [x0,x1,m] s fun n s =>
 ze n 0 s fun o s =>
 ze n 1 s fun _ s =>
 zbH (.sl 1) x2 (some j) none none s fun q s =>
 cA P zdW [x0,q] s fun r s =>
 m1 1 [iN 0] r s fun u s =>
 zw 1 8 o u s fun w s =>
 z2 Z w (iN 0) s) (bP .sub x1 j s fun y s =>
 zbH (.sl 1) x2 (some j) none none s fun z s =>
 cA P zfE [x0,y,z] s fun A s =>
 ze A 0 s fun B s =>
 ze A 1 s fun _ s =>
 zbH (.sl 1) x2 none (some j) none s fun D s =>
 cA P zdW [x0,D] s fun E s =>
 m1 1 [iN 0] E s fun F s =>
 zw 1 8 B F s fun G s =>
 z2 Z G (iN 0) s)))
theorem zsf : F3 Tryz.prog zfE zsQ := zl [] Tryz.func39 (by decide +kernel) (by kernel_rfl) fun {_ _ _ _ _ _} => cast (by kernel_rfl)
def zqs (P : Program) (x0 : AV) (σ : LO) (Z : ZT) : Prop :=
 zaM [eN,(iN 0)] σ fun v s a =>
 zau v fun b v => zau v fun c v => zas .sl x0 s fun d s =>
 bP .lss c d s fun e s =>
 zn e (il true 3 3 x0 c s fun f s =>
 cA P zdV [f] s fun g s =>
 m1 1 [eN] g s fun h s =>
 zw 1 24 b h s fun i s =>
 bP .add c (iN 1) s fun j s =>
 a [i,j] s) (z1 Z b s)
theorem zpZ : F1 Tryz.prog zii zqs := zl [.l [3, 4] [(5, 14)]] Tryz.func40 (by decide +kernel) (by kernel_rfl) fun {_ _ _ _} => cast (by kernel_rfl)
def ziC (P : Program) (x0 : AV) (σ : LO) (Z : ZT) : Prop :=
 zcI .eql .ptr x0 (.d .nilp) σ fun a s =>
 gFm a x0 s fun b s =>
 gF a (zbr b s) s fun c s =>
 gFl a 1 c s fun d s =>
 gF a (zcI .eql .map d (.d .nilmap) s) s fun e s =>
 orC a e s fun f s =>
 z1 Z f s
theorem zis : F1 Tryz.prog zbW ziC := zl [] Tryz.func41 (by decide +kernel) (by kernel_rfl) fun {_ _ _ _} => cast (by kernel_rfl)
def zoK (P : Program) (x0 : AV) (σ : LO) (Z : ZT) : Prop :=
 zam false x0 σ fun a s =>
 zn a (z1 Z eN s) (zr false 1 0 (zR (rep [(.d (.int .u8 0))] 0) []) s fun b s =>
 zw 1 1 b x0 s fun c s =>
 z1 Z c s)
theorem zoh : F1 Tryz.prog zka zoK := zl [] Tryz.func42 (by decide +kernel) (by kernel_rfl) fun {_ _ _ _} => cast (by kernel_rfl)
def zhX (P : Program) (x0 : AV) (σ : LO) (Z : ZT) : Prop :=
 zcI .eql .ptr x0 (.d .nilp) σ fun a s =>
 gFm a x0 s fun b s =>
 gF a (zbr b s) s fun c s =>
 gFl a 1 c s fun d s =>
 gF a (zcI .eql .map d (.d .nilmap) s) s fun e s =>
 orC a e s fun f s =>
 z1 Z f s
theorem zhJ : F1 Tryz.prog zbJ zhX := zl [] Tryz.func43 (by decide +kernel) (by kernel_rfl) fun {_ _ _ _} => cast (by kernel_rfl)
def zhW (P : Program) (x0 : AV) (σ : LO) (Z : ZT) : Prop :=
 cA P zbW [x0] σ fun a s =>
 zn a (z1 Z (.d .nilp) s) (nfl 0 x0 s fun b s =>
 cA P zll [b] s fun c s =>
 ze c 0 s fun d s =>
 ze c 1 s fun _ s =>
 z1 Z d s)
theorem zhI : F1 Tryz.prog zaR zhW := zl [] Tryz.func44 (by decide +kernel) (by kernel_rfl) fun {_ _ _ _} => cast (by kernel_rfl)
def zgR (P : Program) (x0 : AV) (σ : LO) (Z : ZT) : Prop :=
 cA P zbJ [x0] σ fun a s =>
 zn a (z1 Z (.d .nilp) s) (cA P zdY [] s fun b s =>
 nfl 0 x0 s fun c s =>
 zas .sl c s fun d s =>
 zaM [(iN 0)] s fun v s e =>
 zau v fun f v => bP .lss f d s fun g s =>
 zn g (il true 2 2 c f s fun h s =>
 cp [iN 0,iN 0] 2 h s fun i s =>
 fl 0 i s fun j s =>
 fl 1 i s fun l s =>
 cA P zdj [b,j,l] s fun _ s =>
 bP .add f (iN 1) s fun n s =>
 e [n] s) (z1 Z b s))
theorem zgH : F1 Tryz.prog zcg zgR := zl [.l [14] [(5, 1),(15, 10)]] Tryz.func45 (by decide +kernel) (by kernel_rfl) fun {_ _ _ _} => cast (by kernel_rfl)
def zmW (P : Program) (x0 : AV) (σ : LO) (Z : ZT) : Prop :=
 bP .lss x0 (iN 1) σ fun a s =>
 gFm a x0 s fun b s =>
 gF a (bP .gtr b (iN 4) s) s fun c s =>
 orC a c s fun d s =>
 zn d (z1 Z (iN 120) s) (z1 Z (iN 0) s)
theorem zmJ : F1 Tryz.prog zey zmW := zl [] Tryz.func46 (by decide +kernel) (by kernel_rfl) fun {_ _ _ _} => cast (by kernel_rfl)
def zgQ (P : Program) (x0 : AV) (σ : LO) (Z : ZT) : Prop :=
 zaV x0 σ fun a s =>
 zQ [iN 0] s fun b s =>
 zp true 10 a s fun c s =>
 cA P zdP [b,c] s fun _ s =>
 fl 0 b s fun e s =>
 z1 Z e s
theorem zgG : F1 Tryz.prog zet zgQ := zl [] Tryz.func47 (by decide +kernel) (by kernel_rfl) fun {_ _ _ _} => cast (by kernel_rfl)
def zlT (P : Program) (x0 x1 : AV) (σ : LO) (Z : ZT) : Prop :=
 zaV x1 σ fun a s =>
 fl 3 a s fun b s =>
 zas .sl b s fun c s =>
 bP .eql c (iN 0) s fun d s =>
 gFm d x0 s fun e s =>
 gFl d 3 a s fun f s =>
 gF d (cA P zkb [e,f] s) s fun g s =>
 gF d (unC .not g s) s fun h s =>
 orC d h s fun i s =>
 zn i (z1 Z bF s) (fl 3 a s fun j s =>
 fl 3 a s fun l s =>
 zas .sl l s fun m s =>
 bP .sub m (iN 1) s fun n s =>
 il true 5 5 j n s fun o s =>
 cp [iN 0,iN 0,iN 0,iN 0,iN 0] 5 o s fun p s =>
 zp true 5 p s fun q s =>
 cA P zgZ [q] s fun r s =>
 ze r 0 s fun u s =>
 ze r 1 s fun w s =>
 bP .neq w (iN 0) s fun y s =>
 zn y (z1 Z bF s) (cA P zaN [x0,u] s fun z s =>
 ze z 0 s fun A s =>
 ze z 1 s fun B s =>
 gTm B A s fun C s =>
 gT B (zk 7 a s) s fun D s =>
 gTl B 1 D s fun E s =>
 gT B (bP .eql C E s) s fun F s =>
 anC B F s fun G s =>
 gTl G 0 p s fun H s =>
 gT G (zk 7 a s) s fun I s =>
 gTl G 0 I s fun J s =>
 gT G (bP .eql H J s) s fun K s =>
 anC G K s fun L s =>
 z1 Z L s))
theorem zlz : F2 Tryz.prog zhu zlT := zl [] Tryz.func48 (by decide +kernel) (by kernel_rfl) fun {_ _ _ _ _} => cast (by kernel_rfl)
def zoF (P : Program) (x0 x1 x2 x3 : AV) (σ : LO) (Z : ZT) : Prop :=
 zaV x0 σ fun a s =>
 zaV x1 s fun b s =>
 zaV x3 s fun c s =>
 cA P znl [x2] s fun d s =>
 ze d 0 s fun e s =>
 ze d 1 s fun f s =>
 bP .neq f (iN 0) s fun g s =>
 gFm g e s fun h s =>
 gF g (zp true 3 c s) s fun i s =>
 gF g (cA P zdy [h,i] s) s fun j s =>
 gF g (unC .not j s) s fun l s =>
 orC g l s fun m s =>
 gF m (zp false 1 a s) s fun n s =>
 gF m (cA P zbI [n] s) s fun o s =>
 gF m (bP .eql o (iN 0) s) s fun p s =>
 gFm m p s fun q s =>
 gT q (zp false 1 a s) s fun r s =>
 gT q (cA P zaR [r] s) s fun u s =>
 gT q (zcI .eql .ptr u (.d .nilp) s) s fun w s =>
 gF m (anC q w s) s fun y s =>
 orC m y s fun z s =>
 gF z (zp false 1 b s) s fun A s =>
 gF z (cA P zbX [A] s) s fun B s =>
 gF z (bP .eql B (iN 0) s) s fun C s =>
 gFm z C s fun D s =>
 gT D (zp false 1 b s) s fun E s =>
 gT D (cA P zcg [E] s) s fun F s =>
 gT D (zcI .eql .ptr F (.d .nilp) s) s fun G s =>
 gF z (anC D G s) s fun H s =>
 orC z H s fun I s =>
 zn I (z1 Z bF s) (fl 2 c s fun J s =>
 cA P zaC [J,(.fn (.func zfd) [] [a,b,c])] s fun K s =>
 unC .not K s fun L s =>
 z1 Z L s)
theorem zoc : F4 Tryz.prog zjX zoF := zl [] Tryz.func49 (by decide +kernel) (by kernel_rfl) fun {_ _ _ _ _ _ _} => cast (by kernel_rfl)
def zgJ (P : Program) (x0 : AV) (σ : LO) (Z : ZT) : Prop :=
 zaV x0 σ fun a s =>
 fl 0 a s fun b s =>
 zah .toBytes b s fun c s =>
 zk 1 a s fun d s =>
 zp false 1 d s fun e s =>
 zcs [(iN 0),e] s fun f s =>
 zah (.int .u64) f s fun g s =>
 cA P zeE [eN,c] s fun h t =>
 zM d s t ∧ (cA P zcj [h,g] t fun i s =>
 fl 2 a s fun j s =>
 cA P zeE [i,j] s fun l s =>
 z1 Z l s)
theorem zgz : F1 Tryz.prog zcL zgJ := zl [.d [(0, 3),(4, 4),(3, 1),(8, 2)] [(3, [8])]] Tryz.func50 (by decide +kernel) (by kernel_rfl) fun {_ _ _ _} => cast (by kernel_rfl)
def zlV (P : Program) (x0 x1 x2 x3 x4 x5 : AV) (σ : LO) (Z : ZT) : Prop :=
 zaV x0 σ fun a s =>
 zaV x2 s fun b s =>
 bP .lss x3 (iN 0) s fun c s =>
 gFm c x3 s fun d s =>
 gFm c x4 s fun e s =>
 gF c (bP .geq d e s) s fun f s =>
 orC c f s fun g s =>
 gFm g x5 s fun h s =>
 gF g (zas .sl h s) s fun i s =>
 gFm g x3 s fun j s =>
 gFm g x4 s fun l s =>
 gF g (cA P zhw [j,l] s) s fun m s =>
 gF g (bP .neq i m s) s fun n s =>
 orC g n s fun o s =>
 zn o (z1 Z bF s) (zQ [(.d .nilfn)] s fun p s =>
 zo 1 p (.fn (.func zcP) [] [a,b,p]) s fun _ s =>
 zp false 1 p s fun r s =>
 zak P r [dm x3,dm x4,dm x5] s fun u s =>
 ze u 0 s fun w s =>
 ze u 1 s fun y s =>
 gTm y w s fun z s =>
 gTm y x1 s fun A s =>
 gT y (bP .eql z A s) s fun B s =>
 anC y B s fun C s =>
 z1 Z C s)
theorem zlB : F6 Tryz.prog zhv zlV := zl [] Tryz.func51 (by decide +kernel) (by kernel_rfl) fun {_ _ _ _ _ _ _ _ _} => cast (by kernel_rfl)
def zkD (P : Program) (x0 : AV) (σ : LO) (Z : ZT) : Prop :=
 zaV x0 σ fun a s =>
 fl 0 a s fun b s =>
 zk 1 a s fun c s =>
 zp false 1 c s fun d s =>
 zk 2 a s fun e s =>
 zp false 1 e s fun f s =>
 zas .sl f s fun g s =>
 zk 3 a s fun h s =>
 zp false 1 h s fun i s =>
 zas .sl i s fun j s =>
 cA P zph [b] s fun l t =>
 zM c s t ∧ (zM e s t ∧ (zM h s t ∧ (cA P zdM [d] t fun m s =>
 zM e t s ∧ (zM h t s ∧ (cA P zjS [g,(iN 0),(iN 64)] s fun n t =>
 zM h s t ∧ (cA P zjS [j,(iN 0),(iN 64)] t fun o s =>
 zr false 1 4 (zR (rep [iN 0] 4) [(0, 1,l),(1, 1,m),(2, 1,n),(3, 1,o)]) s fun p s =>
 cA P zfA [p] s fun q s =>
 bP .neq q (iN 0) s fun r s =>
 zn r (z1 Z q s) (zaM [(iN 0)] s fun v s u =>
 zau v fun w v => fl 3 a s fun y s =>
 zas .sl y s fun z s =>
 bP .lss w z s fun A s =>
 zn A (fl 3 a s fun B s =>
 il true 5 5 B w s fun C s =>
 cA P zfB [C] s fun D s =>
 bP .neq D (iN 0) s fun E s =>
 zn E (z1 Z D s) (bP .add w (iN 1) s fun F s =>
 u [F] s)) (fl 4 a s fun G s =>
 zk 5 a s fun H s =>
 zp false 1 H s fun I s =>
 cA P zdM [G] s fun J t =>
 zM H s t ∧ (cA P zjS [I,(iN 0),(iN 16)] t fun K s =>
 zr false 1 2 (zR (rep [iN 0] 2) [(0, 1,J),(1, 1,K)]) s fun L s =>
 cA P zfA [L] s fun M s =>
 bP .neq M (iN 0) s fun N s =>
 zn N (z1 Z M s) (fl 4 a s fun O s =>
 fl 5 a s fun Q s =>
 bP .geq O Q s fun R s =>
 gFl R 6 a s fun S s =>
 gF R (zas .sl S s) s fun T s =>
 gF R (bP .gtr T (iN 8) s) s fun U s =>
 orC R U s fun V s =>
 zn V (z1 Z (iN 100) s) (zaM [(iN 0)] s fun v s W =>
 zau v fun X v => fl 6 a s fun Y s =>
 zas .sl Y s fun a0 s =>
 bP .lss X a0 s fun b0 s =>
 zn b0 (fl 6 a s fun c0 s =>
 il false 1 1 c0 X s fun d0 s =>
 cA P zdM [d0] s fun e0 s =>
 bP .neq e0 (iN 0) s fun f0 s =>
 zn f0 (z1 Z e0 s) (bP .add X (iN 1) s fun g0 s =>
 W [g0] s)) (zk 7 a s fun h0 s =>
 zp true 3 h0 s fun i0 s =>
 cA P zho [i0] s fun j0 s =>
 z1 Z j0 s))))))))))))
theorem zkp : F1 Tryz.prog zgq zkD := zl [.d [(0, 2),(3, 2),(6, 3),(10, 3),(2, 1),(5, 1),(9, 1),(13, 4)] [(2, [12, 15, 19]),(5, [15, 19]),(9, [19])], .l [4] [(2, 1),(5, 1),(28, 16)], .d [(0, 2),(3, 2),(2, 1),(5, 4)] [(2, [47])], .l [7] [(2, 1),(8, 1),(66, 16)]] Tryz.func52 (by decide +kernel) (by kernel_rfl) fun {_ _ _ _} => cast (by kernel_rfl)
def zsH (P : Program) (x0 x1 : AV) (σ : LO) (Z : ZT) : Prop :=
 zaM [(iN 0)] σ fun v s a =>
 zau v fun b v => zas .sl x1 s fun c s =>
 bP .lss b c s fun d s =>
 zn d ((fun (e : LO → Prop) => il true 5 5 x1 b s fun g s =>
 cA P zhq [g] s fun h s =>
 bP .neq h (iN 0) s fun i s =>
 zn i (z1 Z bF s) (bP .eql b (iN 0) s fun j s =>
 zn j (e s) (bP .sub b (iN 1) s fun l s =>
 il true 5 5 x1 l s fun m s =>
 cA P zhr [m] s fun n s =>
 ze n 0 s fun o s =>
 ze n 1 s fun _ s =>
 cA P zbs [x0,o] s fun q s =>
 ze q 0 s fun r s =>
 ze q 1 s fun u s =>
 unC .not u s fun w s =>
 gFm w x1 s fun y s =>
 gFm w b s fun z s =>
 gF w (zG none 5 y z s) s fun A s =>
 gFl w 1 A s fun B s =>
 gFm w r s fun C s =>
 gF w (bP .neq B C s) s fun D s =>
 orC w D s fun E s =>
 gFm E x1 s fun F s =>
 gFm E b s fun G s =>
 gF E (zG none 5 F G s) s fun H s =>
 gFl E 0 H s fun I s =>
 gFm E x1 s fun J s =>
 gFm E b s fun K s =>
 gF E (bP .sub K (iN 1) s) s fun L s =>
 gF E (zG none 5 J L s) s fun M s =>
 gFl E 0 M s fun N s =>
 gF E (bP .add N (iN 1) s) s fun O s =>
 gF E (bP .neq I O s) s fun Q s =>
 orC E Q s fun R s =>
 zn R (z1 Z bF s) (e s))))
 (fun  s => bP .add b (iN 1) s fun f s =>
 a [f] s)) (z1 Z bT s)
theorem zrW : F2 Tryz.prog znh zsH := zl [.l [5] [(4, 1),(6, 59)], .d [(0, 26)] []] Tryz.func53 (by decide +kernel) (by kernel_rfl) fun {_ _ _ _ _} => cast (by kernel_rfl)
def zsI (P : Program) (x0 : AV) (σ : LO) (Z : ZT) : Prop :=
 zaV x0 σ fun a s =>
 zp true 5 a s fun b s =>
 cA P zhq [b] s fun c s =>
 bP .neq c (iN 0) s fun d s =>
 zn d (z2 Z eN c s) (m1 1 [(.d (.int .u8 0))] (.d (.int .u8 3)) s fun e s =>
 fl 0 a s fun f s =>
 zah (.int .u64) f s fun g s =>
 cA P zaH [e,g] s fun h s =>
 fl 1 a s fun i s =>
 fl 2 a s fun j s =>
 fl 3 a s fun l s =>
 fl 4 a s fun m s =>
 zr false 1 4 (zR (rep [iN 0] 4) [(0, 1,i),(1, 1,j),(2, 1,l),(3, 1,m)]) s fun n s =>
 zaM [h,(iN 0)] s fun v s o =>
 zau v fun p v => zau v fun q v => zas .sl n s fun r s =>
 bP .lss q r s fun u s =>
 zn u (il false 1 1 n q s fun w s =>
 zah (.int .u64) w s fun y s =>
 cA P zaH [p,y] s fun z s =>
 bP .add q (iN 1) s fun A s =>
 o [z,A] s) (z2 Z p (iN 0) s))
theorem zrX : F1 Tryz.prog zhr zsI := zl [.l [5, 7] [(27, 13)]] Tryz.func54 (by decide +kernel) (by kernel_rfl) fun {_ _ _ _} => cast (by kernel_rfl)
def zkG (P : Program) (x0 x1 : AV) (σ : LO) (Z : ZT) : Prop :=
 zaM [(iN 0)] σ fun v s a =>
 zau v fun b v => nfl 0 x0 s fun c s =>
 zas .sl c s fun d s =>
 bP .lss b d s fun e s =>
 zn e (nfl 0 x0 s fun f s =>
 il false 1 1 f b s fun g s =>
 cA P zpl [g,x1] s fun h s =>
 zn h (bP .add b (iN 1) s fun i s =>
 z2 Z i bT s) (bP .add b (iN 1) s fun j s =>
 a [j] s)) (z2 Z (iN 0) bF s)
theorem zks : F2 Tryz.prog zbs zkG := zl [.l [6] [(4, 2),(7, 20)]] Tryz.func55 (by decide +kernel) (by kernel_rfl) fun {_ _ _ _ _} => cast (by kernel_rfl)
def zsC (P : Program) (x0 x1 x2 x3 : AV) (σ : LO) (Z : ZT) : Prop :=
 zaV x3 σ fun a s =>
 cA P zfz [x2] s fun b s =>
 bP .neq b (iN 0) s fun c s =>
 zn c (z1 Z bF s) (zE (zR [iN 0,iN 0,iN 0,eN,eN,eN] [(0, 1,x2)]) s fun d s =>
 zaV d s fun e s =>
 zp true 3 a s fun f s =>
 cA P zep [e,f] s fun g s =>
 unC .not g s fun h s =>
 zn h (z1 Z bF s) (zaM [(iN 0)] s fun v s i =>
 zau v fun j v => fl 2 a s fun l s =>
 zas .sl l s fun m s =>
 bP .lss j m s fun n s =>
 zn n (fl 2 a s fun o s =>
 il true 2 2 o j s fun p s =>
 fl 2 a s fun q s =>
 zG none 2 q j s fun r s =>
 fl 0 r s fun u s =>
 fl 0 a s fun w s =>
 fl 1 a s fun y s =>
 cA P zhn [x0,x1,p,u,(iN 6),(iN 0),w,y] s fun z s =>
 unC .not z s fun A s =>
 zn A (z1 Z bF s) (bP .add j (iN 1) s fun B s =>
 i [B] s)) (z1 Z bT s)))
theorem zrR : F4 Tryz.prog zng zsC := zl [.l [10] [(8, 1),(21, 26)], .d [(0, 19)] []] Tryz.func56 (by decide +kernel) (by kernel_rfl) fun {_ _ _ _ _ _ _} => cast (by kernel_rfl)
def zjA (P : Program) (x0 : AV) (σ : LO) (Z : ZT) : Prop :=
 zaV x0 σ fun a s =>
 fl 0 a s fun b s =>
 zah .toBytes b s fun c s =>
 cA P zaS [eN,c] s fun d s =>
 fl 1 a s fun e s =>
 zcs [e,(iN 0)] s fun f s =>
 zk 2 a s fun g s =>
 zp false 1 g s fun h s =>
 cA P zdO [d,f] s fun i t =>
 zM g s t ∧ (cA P zaS [i,h] t fun j s =>
 z1 Z j s)
theorem zjm : F1 Tryz.prog zdV zjA := zl [.d [(0, 4),(5, 2),(4, 1),(7, 2)] [(4, [13])]] Tryz.func57 (by decide +kernel) (by kernel_rfl) fun {_ _ _ _} => cast (by kernel_rfl)
def zqw (P : Program) (x0 x1 x2 x3 x4 x5 : AV) (σ : LO) (Z : ZT) : Prop :=
 bP .lss x3 (iN 0) σ fun a s =>
 gFm a x3 s fun b s =>
 gFm a x4 s fun c s =>
 gF a (bP .geq b c s) s fun d s =>
 orC a d s fun e s =>
 gFm e x5 s fun f s =>
 gF e (zas .sl f s) s fun g s =>
 gFm e x3 s fun h s =>
 gFm e x4 s fun i s =>
 gF e (cA P zli [h,i] s) s fun j s =>
 gF e (bP .neq g j s) s fun l s =>
 orC e l s fun m s =>
 zn m (z1 Z bF s) (cA P zht [x0,x2,x3,x4,x5] s fun n s =>
 ze n 0 s fun o s =>
 ze n 1 s fun p s =>
 gTm p o s fun q s =>
 gTm p x1 s fun r s =>
 gT p (bP .eql q r s) s fun u s =>
 anC p u s fun w s =>
 z1 Z w s)
theorem zqd : F6 Tryz.prog zlh zqw := zl [] Tryz.func58 (by decide +kernel) (by kernel_rfl) fun {_ _ _ _ _ _ _ _ _} => cast (by kernel_rfl)
def S_r12_Of (P : Program) (x0 : AV) (σ : LO) (Z : ZT) : Prop :=
 zaM [(.d (.int .u16 0)),(.d (.int .u16 1)),(iN 0)] σ fun v s a =>
 zau v fun b v => zau v fun c v => zau v fun d v => bP .lss d (iN 13) s fun e s =>
 zn e ((fun (f : AV → LO → Prop) => zaM [b,(iN 0)] s fun v s j =>
 zau v fun l v => zau v fun m v => zas .sl x0 s fun n s =>
 bP .lss m n s fun o s =>
 zn o (il false 1 1 x0 m s fun p s =>
 bP .eql p d s fun q s =>
 zn q (bP .add l c s fun r s =>
 f r s) (bP .add m (iN 1) s fun u s =>
 j [l,u] s)) (f l s))
 (fun g s => bP .mul c (.d (.int .u16 2)) s fun h s =>
 bP .add d (iN 1) s fun i s =>
 a [g,h,i] s)) (z1 Z b s)
theorem e_r12_Of : F1 Tryz.prog zqX S_r12_Of := zl [.l [3, 4, 5] [(6, 22)], .l [3, 6] [(11, 15)]] Tryz.func59 (by decide +kernel) (by kernel_rfl) fun {_ _ _ _} => cast (by kernel_rfl)
def zoB (P : Program) (x0 : AV) (σ : LO) (Z : ZT) : Prop :=
 cA P zfz [x0] σ fun a s =>
 bP .neq a (iN 0) s fun b s =>
 zn b (z1 Z (iN 0) s) (bP .mul (iN 3) x0 s fun c s =>
 bP .add c (iN 1) s fun d s =>
 z1 Z d s)
theorem znY : F1 Tryz.prog zgV zoB := zl [] Tryz.func60 (by decide +kernel) (by kernel_rfl) fun {_ _ _ _} => cast (by kernel_rfl)
def zbL (P : Program) (x0 x1 : AV) (σ : LO) (Z : ZT) : Prop :=
 zas .sl x0 σ fun a s =>
 zaM [(iN 0)] s fun v s b =>
 zau v fun c v => bP .lss c a s fun d s =>
 zn d (il true 3 3 x0 c s fun e s =>
 zak P x1 [dm e] s fun f s =>
 zn f (z1 Z c s) (bP .add c (iN 1) s fun g s =>
 b [g] s)) (z1 Z (iN (-1)) s)
theorem zbK : F2 Tryz.prog zaO zbL := zl [.l [8] [(4, 2),(9, 10)]] Tryz.func61 (by decide +kernel) (by kernel_rfl) fun {_ _ _ _ _} => cast (by kernel_rfl)
def zmY (P : Program) (x0 x1 x2 : AV) (σ : LO) (Z : ZT) : Prop :=
 zaV x0 σ fun a s =>
 fl 0 a s fun b s =>
 zp false 1 x1 s fun c s =>
 bP .eql b c s fun d s =>
 gTl d 1 a s fun e s =>
 gT d (zp false 1 x2 s) s fun f s =>
 gT d (bP .eql e f s) s fun g s =>
 anC d g s fun h s =>
 z1 Z h s
theorem zmL : F3 Tryz.prog ziI zmY := zl [] Tryz.func62 (by decide +kernel) (by kernel_rfl) fun {_ _ _ _ _ _} => cast (by kernel_rfl)
def zsR (P : Program) (x0 x1 : AV) (σ : LO) (Z : ZT) : Prop :=
 zas .sl x0 σ fun a s =>
 zaM [eN,(iN 0)] s fun v s b =>
 zau v fun c v => zau v fun d v => bP .lss d a s fun e s =>
 zn e (il true 7 7 x0 d s fun f s =>
 zQ [iN 0,iN 0,iN 0,iN 0,iN 0,eN,eN] s fun g s =>
 zo 7 g f s fun _ s =>
 bP .gtr d (iN 0) s fun i s =>
 gT i (zk 0 g s) s fun j s =>
 gTl i 0 j s fun l s =>
 gT i (bP .sub l (iN 1) s) s fun m s =>
 gTm i x0 s fun n s =>
 gTm i d s fun o s =>
 gT i (bP .sub o (iN 1) s) s fun p s =>
 gT i (zG none 7 n p s) s fun q s =>
 gT i (zk 0 q s) s fun r s =>
 gTl i 0 r s fun u s =>
 gT i (bP .neq m u s) s fun w s =>
 anC i w s fun y s =>
 zn y (z2 Z eN bF s) (zk 0 g s fun z s =>
 zp true 5 z s fun A s =>
 m1 5 [iN 0,iN 0,iN 0,iN 0,iN 0] A s fun B s =>
 zw 5 40 c B s fun C s =>
 zk 0 g s fun D s =>
 fl 0 D s fun E s =>
 bP .eql E x1 s fun F s =>
 zn F (z2 Z C bT s) (bP .add d (iN 1) s fun G s =>
 b [C,G] s))) (z2 Z eN bF s)
theorem zsg : F2 Tryz.prog znk zsR := zl [.l [6, 11] [(4, 2),(7, 2),(12, 32)], .d [(0, 16)] []] Tryz.func63 (by decide +kernel) (by kernel_rfl) fun {_ _ _ _ _} => cast (by kernel_rfl)
def zna (P : Program) (x0 x1 x2 : AV) (σ : LO) (Z : ZT) : Prop :=
 zaV x0 σ fun a s =>
 zp false 1 a s fun b s =>
 cA P zaR [b] s fun c s =>
 zcI .eql .ptr c (.d .nilp) s fun d s =>
 zn d (z2 Z eN (iN 2) s) (bP .lss x1 (iN 0) s fun e s =>
 gFm e x1 s fun f s =>
 gFm e x2 s fun g s =>
 gF e (zas .sl g s) s fun h s =>
 gF e (bP .geq f h s) s fun i s =>
 orC e i s fun j s =>
 zn j (z2 Z eN (iN 1) s) (zQ [eN] s fun l s =>
 zQ [(.d .nilfn)] s fun m s =>
 zo 1 m (.fn (.func zcw) [] [m,l,a]) s fun _ s =>
 zp false 1 m s fun o s =>
 zak P o [dm x1,dm x2] s fun _ s =>
 zp false 1 l s fun q s =>
 z2 Z q (iN 0) s))
theorem zmN : F3 Tryz.prog ziJ zna := zl [] Tryz.func64 (by decide +kernel) (by kernel_rfl) fun {_ _ _ _ _ _} => cast (by kernel_rfl)
def znc (P : Program) (x0 : AV) (σ : LO) (Z : ZT) : Prop :=
 zas .sl x0 σ fun a s =>
 zaM [eN,(iN 0)] s fun v s b =>
 zau v fun c v => zau v fun d v => bP .lss d a s fun e s =>
 zn e (il true 3 3 x0 d s fun f s =>
 cp [(.d (.str [])),iN 0,eN] 3 f s fun g s =>
 zp true 3 g s fun h s =>
 cA P zcL [h] s fun i s =>
 m1 1 [eN] i s fun j s =>
 zw 1 24 c j s fun l s =>
 bP .add d (iN 1) s fun m s =>
 b [l,m] s) (z1 Z c s)
theorem zmP : F1 Tryz.prog ziK znc := zl [.l [3, 8] [(5, 1),(9, 9)]] Tryz.func65 (by decide +kernel) (by kernel_rfl) fun {_ _ _ _} => cast (by kernel_rfl)
def zcJ (P : Program) (x0 : AV) (σ : LO) (Z : ZT) : Prop :=
 zam false x0 σ fun a s =>
 zn a (z1 Z eN s) (zr false 2 0 (zR (rep [iN 0,iN 0] 0) []) s fun b s =>
 zw 2 16 b x0 s fun c s =>
 z1 Z c s)
theorem zcH : F1 Tryz.prog zbF zcJ := zl [] Tryz.func66 (by decide +kernel) (by kernel_rfl) fun {_ _ _ _} => cast (by kernel_rfl)
def zde (P : Program) (x0 : AV) (σ : LO) (Z : ZT) : Prop :=
 zam false x0 σ fun a s =>
 zn a (z1 Z eN s) (zr false 1 0 (zR (rep [(.d (.int .u8 0))] 0) []) s fun b s =>
 zw 1 1 b x0 s fun c s =>
 z1 Z c s)
theorem zdb : F1 Tryz.prog zbP zde := zl [] Tryz.func67 (by decide +kernel) (by kernel_rfl) fun {_ _ _ _} => cast (by kernel_rfl)
def zjB (P : Program) (x0 x1 : AV) (σ : LO) (Z : ZT) : Prop :=
 zas .sl x1 σ fun a s =>
 bP .eql a (iN 0) s fun b s =>
 zn b (m1 1 [(.d (.int .u8 0))] (.d (.int .u8 2)) s fun c s =>
 cA P zbq [x0,c] s fun d s =>
 z1 Z d s) (zas .sl x1 s fun e s =>
 bP .eql e (iN 1) s fun f s =>
 zn f (il false 1 1 x1 (iN 0) s fun g s =>
 cA P zpk [x0,g] s fun h s =>
 z1 Z h s) (zas .sl x1 s fun i s =>
 cA P zfD [i] s fun j s =>
 zbH (.sl 1) x1 none (some j) none s fun l s =>
 cA P zdW [x0,l] s fun m s =>
 zbH (.sl 1) x1 (some j) none none s fun n s =>
 cA P zdW [x0,n] s fun o s =>
 cA P zpj [x0,m,o] s fun p s =>
 z1 Z p s))
theorem zeT : F2 Tryz.prog zdW zjB := zl [] Tryz.func70 (by decide +kernel) (by kernel_rfl) fun {_ _ _ _ _} => cast (by kernel_rfl)
def zhR (P : Program) (x0 x1 : AV) (σ : LO) (Z : ZT) : Prop :=
 cA P zfb [x0] σ fun a s =>
 cA P zbq [x1,a] s fun b s =>
 z1 Z b s
theorem zhD : F2 Tryz.prog zdg zhR := zl [] Tryz.func71 (by decide +kernel) (by kernel_rfl) fun {_ _ _ _ _} => cast (by kernel_rfl)
def zsK (P : Program) (x0 : AV) (σ : LO) (Z : ZT) : Prop :=
 zaV x0 σ fun a s =>
 zp true 7 a s fun b s =>
 cA P zjV [b] s fun c s =>
 bP .neq c (iN 0) s fun d s =>
 zn d (z2 Z eN c s) (fl 0 a s fun e s =>
 zah (.int .u64) e s fun f s =>
 cA P zaH [eN,f] s fun g s =>
 fl 1 a s fun h s =>
 zah (.int .u64) h s fun i s =>
 cA P zaH [g,i] s fun j s =>
 zk 2 a s fun l s =>
 zp true 5 l s fun m s =>
 cA P zry [j,m] s fun n s =>
 z2 Z n (iN 0) s)
theorem zrZ : F1 Tryz.prog zjW zsK := zl [] Tryz.func72 (by decide +kernel) (by kernel_rfl) fun {_ _ _ _} => cast (by kernel_rfl)
def zjC (P : Program) (x0 x1 x2 : AV) (σ : LO) (Z : ZT) : Prop :=
 zQ [iN 0,iN 0] σ fun a s =>
 bP .lss x1 (iN 0) s fun b s =>
 gFm b x1 s fun c s =>
 gF b (bP .geq c (iN 21) s) s fun d s =>
 orC b d s fun e s =>
 zn e (zE (zR [iN 0,iN 0] []) s fun f s =>
 zo 2 a f s fun _ s =>
 Z (zC (zaj a s true 2) (zC (some (iN 20)) (some []))) s) (bP .lss x2 (iN 1) s fun h s =>
 zn h (zE (zR [iN 0,iN 0] []) s fun i s =>
 zo 2 a i s fun _ s =>
 Z (zC (zaj a s true 2) (zC (some (iN 1)) (some []))) s) (zE (zR [iN 0,iN 0] [(0, 1,x1),(1, 1,x2)]) s fun l s =>
 cp [iN 0,iN 0] 2 l s fun m s =>
 (fun (n : LO → Prop) => zp true 2 m s fun q s =>
 cA P zdh [x0,q] s fun r s =>
 unC .not r s fun u s =>
 zn u (nfl 0 x0 s fun w s =>
 zp true 2 m s fun y s =>
 m1 2 [iN 0,iN 0] y s fun z s =>
 zw 2 16 eN w s fun A t =>
 zM m s t ∧ (zw 2 16 A z t fun B s =>
 zbr x0 s fun C s =>
 zk 0 C s fun D s =>
 zo 1 D B s fun _ s =>
 n s)) (n s))
 (fun  s => zp true 2 m s fun o s =>
 zo 2 a o s fun _ s =>
 Z (zC (zaj a s true 2) (zC (some (iN 0)) (some []))) s)))
theorem zjn : F3 Tryz.prog zdX zjC := zl [.d [(0, 5),(6, 2),(5, 1),(8, 4)] [(5, [8])]] Tryz.func73 (by decide +kernel) (by kernel_rfl) fun {_ _ _ _ _ _} => cast (by kernel_rfl)
def S_r08_Key (P : Program) (x0 : AV) (σ : LO) (Z : ZT) : Prop :=
 bP .lss x0 (iN 0) σ fun a s =>
 gFm a x0 s fun b s =>
 gF a (bP .geq b (iN 8) s) s fun c s =>
 orC a c s fun d s =>
 zn d (z1 Z (iN (-1)) s) (bP .add (iN 13) x0 s fun e s =>
 z1 Z e s)
theorem e_r08_Key : F1 Tryz.prog zlf S_r08_Key := zl [] Tryz.func74 (by decide +kernel) (by kernel_rfl) fun {_ _ _ _} => cast (by kernel_rfl)
def zlS (P : Program) (x0 x1 : AV) (σ : LO) (Z : ZT) : Prop :=
 cA P zbs [x0,x1] σ fun a s =>
 ze a 0 s fun b s =>
 ze a 1 s fun c s =>
 zn c (z1 Z b s) (nfl 0 x0 s fun d s =>
 zas .sl d s fun e s =>
 bP .geq e (iN 1048576) s fun f s =>
 zn f (z1 Z (iN 0) s) (nfl 0 x0 s fun g s =>
 zw 1 24 eN g s fun h s =>
 zw 1 1 eN x1 s fun i s =>
 m1 1 [eN] i s fun j s =>
 zw 1 24 h j s fun l s =>
 zbr x0 s fun m s =>
 zk 0 m s fun n s =>
 zo 1 n l s fun _ s =>
 nfl 0 x0 s fun p s =>
 zas .sl p s fun q s =>
 z1 Z q s))
theorem zly : F2 Tryz.prog zbq zlS := zl [] Tryz.func75 (by decide +kernel) (by kernel_rfl) fun {_ _ _ _ _} => cast (by kernel_rfl)
def zsG (P : Program) (x0 : AV) (σ : LO) (Z : ZT) : Prop :=
 zaV x0 σ fun a s =>
 fl 0 a s fun b s =>
 cA P zhp [b] s fun c s =>
 unC .not c s fun d s =>
 gFl d 1 a s fun e s =>
 gF d (cA P zhp [e] s) s fun f s =>
 gF d (unC .not f s) s fun g s =>
 orC d g s fun h s =>
 gFl h 2 a s fun i s =>
 gF h (cA P zhp [i] s) s fun j s =>
 gF h (unC .not j s) s fun l s =>
 orC h l s fun m s =>
 gFl m 3 a s fun n s =>
 gF m (cA P zhp [n] s) s fun o s =>
 gF m (unC .not o s) s fun p s =>
 orC m p s fun q s =>
 gFl q 4 a s fun r s =>
 gF q (cA P zhp [r] s) s fun u s =>
 gF q (unC .not u s) s fun w s =>
 orC q w s fun y s =>
 zn y (z1 Z (iN 90) s) (z1 Z (iN 0) s)
theorem zrV : F1 Tryz.prog zhq zsG := zl [] Tryz.func76 (by decide +kernel) (by kernel_rfl) fun {_ _ _ _} => cast (by kernel_rfl)
def zqu (P : Program) (x0 x1 : AV) (σ : LO) (Z : ZT) : Prop :=
 cA P zeC [x1] σ fun a s =>
 bP .neq a (iN 0) s fun b s =>
 zn b (z2 Z (iN 0) a s) (cA P ziH [eN,x1] s fun c s =>
 cA P zbq [x0,c] s fun d s =>
 bP .eql d (iN 0) s fun e s =>
 zn e (z2 Z (iN 0) (iN 6) s) (z2 Z d (iN 0) s))
theorem zqb : F2 Tryz.prog zlg zqu := zl [] Tryz.func77 (by decide +kernel) (by kernel_rfl) fun {_ _ _ _ _} => cast (by kernel_rfl)
def ziz (P : Program) (x0 x1 : AV) (σ : LO) (Z : ZT) : Prop :=
 zaV x1 σ fun a s =>
 zQ [iN 0,iN 0] s fun b s =>
 fl 0 a s fun c s =>
 bP .lss c (iN 0) s fun d s =>
 gFl d 0 a s fun e s =>
 gF d (bP .geq e (iN 8) s) s fun f s =>
 orC d f s fun g s =>
 gFl g 1 a s fun h s =>
 gF g (bP .lss h (iN 1) s) s fun i s =>
 orC g i s fun j s =>
 gFl j 1 a s fun l s =>
 gF j (bP .gtr l (iN 9007199254740992) s) s fun m s =>
 orC j m s fun n s =>
 zn n (cA P zdr [(iN 1)] s fun o s =>
 zo 2 b o s fun _ s =>
 Z (zC (zaj b s true 2) (zC (some eN) (zC (some bF) (some [])))) s) (zk 0 a s fun q s =>
 zp false 1 q s fun r s =>
 zbr x0 s fun u s =>
 zk 1 u s fun w s =>
 zG (some 8) 3 w r s fun y s =>
 zp true 3 y s fun z s =>
 zQ [iN 0,iN 0,iN 0] s fun A t =>
 zM q s t ∧ (zM y s t ∧ (zo 3 A z t fun _ s =>
 fl 1 a s fun C s =>
 fl 0 A s fun D s =>
 bP .eql C D s fun E s =>
 zn E (zk 1 A s fun F s =>
 zp true 2 F s fun G s =>
 zo 2 b G s fun _ s =>
 Z (zC (zaj b s true 2) (zC (some eN) (zC (some bF) (some [])))) s) (fl 1 a s fun I s =>
 fl 0 A s fun J s =>
 bP .lss I J s fun K s =>
 zn K (cA P zdr [(iN 7)] s fun L s =>
 zo 2 b L s fun _ s =>
 Z (zC (zaj b s true 2) (zC (some eN) (zC (some bF) (some [])))) s) (zk 2 a s fun N s =>
 zp true 5 N s fun O s =>
 cA P zfC [x0,O] s fun Q s =>
 ze Q 0 s fun R s =>
 ze Q 1 s fun S s =>
 cp [iN 0,iN 0] 2 R s fun T s =>
 fl 0 a s fun U s =>
 fl 1 a s fun V s =>
 zp true 2 T s fun W s =>
 zE (zR [iN 0,iN 0,iN 0] [(0, 1,V),(1, 2,W)]) s fun X s =>
 zbr x0 s fun Y s =>
 zk 1 Y s fun a0 s =>
 zG (some 8) 3 a0 U s fun b0 s =>
 zo 3 b0 X s fun _ s =>
 zp true 2 T s fun d0 s =>
 zo 2 b d0 s fun _ s =>
 Z (zC (zaj b s true 2) (zC (some S) (zC (some bT) (some [])))) s)))))
theorem zio : F2 Tryz.prog zfc ziz := zl [.d [(0, 9)] [(7, [30, 34])], .d [(0, 11)] []] Tryz.func78 (by decide +kernel) (by kernel_rfl) fun {_ _ _ _ _} => cast (by kernel_rfl)
def S_r11_may (P : Program) (x0 x1 x2 x3 : AV) (σ : LO) (Z : ZT) : Prop :=
 cA P ziW [x0] σ fun a s =>
 gTm a x1 s fun b s =>
 gT a (cA P ziW [b] s) s fun c s =>
 anC a c s fun d s =>
 gTm d x2 s fun e s =>
 gT d (cA P ziW [e] s) s fun f s =>
 anC d f s fun g s =>
 gTm g x3 s fun h s =>
 gT g (cA P ziW [h] s) s fun i s =>
 anC g i s fun j s =>
 z1 Z j s
theorem e_r11_may : F4 Tryz.prog znN S_r11_may := zl [] Tryz.func79 (by decide +kernel) (by kernel_rfl) fun {_ _ _ _ _ _ _} => cast (by kernel_rfl)
def zuM (P : Program) (x0 x1 x2 x3 : AV) (σ : LO) (Z : ZT) : Prop :=
 zQ [iN 0,iN 0] σ fun a s =>
 cA P zbq [x0,x3] s fun b s =>
 bP .eql b (iN 0) s fun c s =>
 zn c (zE (zR [iN 0,iN 0] []) s fun d s =>
 zo 2 a d s fun _ s =>
 Z (zC (zaj a s true 2) (zC (some (iN 6)) (some []))) s) (cA P zdX [x1,x2,b] s fun f s =>
 ze f 0 s fun g s =>
 ze f 1 s fun h s =>
 zo 2 a g s fun _ s =>
 Z (zC (zaj a s true 2) (zC (some h) (some []))) s)
theorem ztZ : F4 Tryz.prog zpg zuM := zl [] Tryz.func80 (by decide +kernel) (by kernel_rfl) fun {_ _ _ _ _ _ _} => cast (by kernel_rfl)
def zlN (P : Program) (x0 x1 x2 x3 : AV) (σ : LO) (Z : ZT) : Prop :=
 m1 1 [(.d (.int .u8 0))] (.d (.int .u8 4)) σ fun a s =>
 cA P ziV [a,x0] s fun b s =>
 cA P ziV [b,x1] s fun c s =>
 cA P ziV [c,x2] s fun d s =>
 cA P ziV [d,x3] s fun e s =>
 z1 Z e s
theorem zlt : F4 Tryz.prog zeZ zlN := zl [] Tryz.func81 (by decide +kernel) (by kernel_rfl) fun {_ _ _ _ _ _ _} => cast (by kernel_rfl)
def zsP (P : Program) (x0 : AV) (σ : LO) (Z : ZT) : Prop :=
 bP .lss x0 (iN 2) σ fun a s =>
 zn a (z1 Z (iN 0) s) (zaM [(iN 1)] s fun v s b =>
 zau v fun c v => bP .sub x0 c s fun d s =>
 bP .lss c d s fun e s =>
 zn e (bP .mul c (iN 2) s fun f s =>
 b [f] s) (z1 Z c s))
theorem zse : F1 Tryz.prog zfD zsP := zl [.l [3] [(6, 7)]] Tryz.func82 (by decide +kernel) (by kernel_rfl) fun {_ _ _ _} => cast (by kernel_rfl)
def zqD (P : Program) (x0 : AV) (σ : LO) (Z : ZT) : Prop :=
 zas .sl x0 σ fun a s =>
 bP .gtr a (iN 1048576) s fun b s =>
 zn b (z2 Z (.d .nilp) (iN 3) s) (cA P zeD [] s fun c s =>
 zas .sl x0 s fun d s =>
 zaM [(iN 0)] s fun v s e =>
 zau v fun f v => bP .lss f d s fun g s =>
 zn g (il false 1 1 x0 f s fun h s =>
 cA P zaN [c,h] s fun i s =>
 ze i 0 s fun _ s =>
 ze i 1 s fun l s =>
 zn l (z2 Z (.d .nilp) (iN 5) s) (cA P zbx [c,h] s fun _ s =>
 bP .add f (iN 1) s fun n s =>
 e [n] s)) (z2 Z c (iN 0) s))
theorem zqk : F1 Tryz.prog zll zqD := zl [.l [15] [(2, 2),(6, 3),(16, 14)]] Tryz.func83 (by decide +kernel) (by kernel_rfl) fun {_ _ _ _} => cast (by kernel_rfl)
def zgk (P : Program) (x0 x1 : AV) (σ : LO) (Z : ZT) : Prop :=
 zaV x1 σ fun a s =>
 fl 0 a s fun b s =>
 cA P zer [x0,b] s fun _ s =>
 fl 1 a s fun d s =>
 cA P zaQ [x0,d] s fun _ s =>
 fl 2 a s fun f s =>
 zas .sl f s fun g s =>
 cA P zbk [x0,g,(iN 64)] s fun _ s =>
 fl 3 a s fun i s =>
 zas .sl i s fun j s =>
 cA P zbk [x0,j,(iN 64)] s fun _ s =>
 fl 3 a s fun m s =>
 zas .sl m s fun n s =>
 zaM [(iN 0)] s fun v s o =>
 zau v fun p v => bP .lss p n s fun q s =>
 zn q (il true 5 5 m p s fun r s =>
 cp [iN 0,iN 0,iN 0,iN 0,iN 0] 5 r s fun u s =>
 fl 0 u s fun w s =>
 cA P zeK [x0,w] s fun _ s =>
 fl 1 u s fun z s =>
 fl 2 u s fun A s =>
 fl 3 u s fun B s =>
 fl 4 u s fun C s =>
 zr false 1 4 (zR (rep [iN 0] 4) [(0, 1,z),(1, 1,A),(2, 1,B),(3, 1,C)]) s fun D s =>
 zas .sl D s fun E s =>
 zaM [(iN 0)] s fun v s F =>
 zau v fun G v => bP .lss G E s fun H s =>
 zn H (il false 1 1 D G s fun I s =>
 cA P zaQ [x0,I] s fun _ s =>
 bP .add G (iN 1) s fun K s =>
 F [K] s) (bP .add p (iN 1) s fun L s =>
 o [L] s)) (fl 4 a s fun M s =>
 cA P zaQ [x0,M] s fun _ s =>
 fl 5 a s fun O s =>
 cA P zbk [x0,O,(iN 16)] s fun _ s =>
 fl 4 a s fun R s =>
 fl 5 a s fun S s =>
 bP .sub S (iN 1) s fun T s =>
 cA P zbV [x0,R,(iN 0),T] s fun _ s =>
 fl 6 a s fun V s =>
 zas .sl V s fun W s =>
 cA P zbk [x0,W,(iN 8)] s fun _ s =>
 fl 6 a s fun Y s =>
 zas .sl Y s fun a0 s =>
 zaM [(iN 0)] s fun v s b0 =>
 zau v fun c0 v => bP .lss c0 a0 s fun d0 s =>
 zn d0 (il false 1 1 Y c0 s fun e0 s =>
 cA P zaQ [x0,e0] s fun _ s =>
 bP .add c0 (iN 1) s fun g0 s =>
 b0 [g0] s) (zk 7 a s fun h0 s =>
 zp true 3 h0 s fun i0 s =>
 cA P zes [x0,i0] s fun _ s =>
 Z (some []) s))
theorem zgf : F2 Tryz.prog zdP zgk := zl [.l [31] [(5, 1),(7, 1),(32, 26)], .l [49] [(7, 1),(50, 7)], .l [81] [(9, 1),(82, 7)]] Tryz.func84 (by decide +kernel) (by kernel_rfl) fun {_ _ _ _ _} => cast (by kernel_rfl)
def zoM (P : Program) (x0 x1 : AV) (σ : LO) (Z : ZT) : Prop :=
 cA P zln [x0] σ fun a s =>
 unC .not a s fun b s =>
 zn b (z1 Z bF s) (zas .sl x1 s fun c s =>
 zaM [(iN 0)] s fun v s d =>
 zau v fun e v => bP .lss e c s fun f s =>
 zn f ((fun (g : LO → Prop) => il true 5 5 x1 e s fun i s =>
 zQ [iN 0,iN 0,iN 0,iN 0,iN 0] s fun j s =>
 zo 5 j i s fun _ s =>
 zp true 5 j s fun m s =>
 cA P zgY [m] s fun n s =>
 bP .neq n (iN 0) s fun o s =>
 zn o (z1 Z bF s) (bP .eql e (iN 0) s fun p s =>
 zn p (g s) (bP .sub e (iN 1) s fun q s =>
 il true 5 5 x1 q s fun r s =>
 cA P zgZ [r] s fun u s =>
 ze u 0 s fun w s =>
 ze u 1 s fun _ s =>
 cA P zaN [x0,w] s fun z s =>
 ze z 0 s fun A s =>
 ze z 1 s fun B s =>
 unC .not B s fun C s =>
 gFl C 1 j s fun D s =>
 gFm C A s fun E s =>
 gF C (bP .neq D E s) s fun F s =>
 orC C F s fun G s =>
 gFl G 0 j s fun H s =>
 gF G (bP .sub H (iN 1) s) s fun I s =>
 gFm G x1 s fun J s =>
 gFm G e s fun K s =>
 gF G (bP .sub K (iN 1) s) s fun L s =>
 gF G (zG none 5 J L s) s fun M s =>
 gFl G 0 M s fun N s =>
 gF G (bP .neq I N s) s fun O s =>
 orC G O s fun Q s =>
 zn Q (z1 Z bF s) (g s))))
 (fun  s => bP .add e (iN 1) s fun h s =>
 d [h] s)) (z1 Z bT s))
theorem zoj : F2 Tryz.prog zkb zoM := zl [.l [16] [(4, 7),(17, 45)], .d [(0, 20)] []] Tryz.func85 (by decide +kernel) (by kernel_rfl) fun {_ _ _ _ _} => cast (by kernel_rfl)
def zoN (P : Program) (x0 : AV) (σ : LO) (Z : ZT) : Prop :=
 zaV x0 σ fun a s =>
 zp true 5 a s fun b s =>
 cA P zgY [b] s fun c s =>
 bP .neq c (iN 0) s fun d s =>
 zn d (z2 Z eN c s) (m1 1 [(.d (.int .u8 0))] (.d (.int .u8 3)) s fun e s =>
 fl 0 a s fun f s =>
 fl 1 a s fun g s =>
 fl 2 a s fun h s =>
 fl 3 a s fun i s =>
 fl 4 a s fun j s =>
 zr false 1 5 (zR (rep [iN 0] 5) [(0, 1,f),(1, 1,g),(2, 1,h),(3, 1,i),(4, 1,j)]) s fun l s =>
 zas .sl l s fun m s =>
 zaM [e,(iN 0)] s fun v s n =>
 zau v fun o v => zau v fun p v => bP .lss p m s fun q s =>
 zn q (il false 1 1 l p s fun r s =>
 zah (.int .u64) r s fun u s =>
 cA P zcj [o,u] s fun w s =>
 bP .add p (iN 1) s fun y s =>
 n [w,y] s) (z2 Z o (iN 0) s))
theorem zok : F1 Tryz.prog zgZ zoN := zl [.l [5, 26] [(7, 1),(27, 8)]] Tryz.func86 (by decide +kernel) (by kernel_rfl) fun {_ _ _ _} => cast (by kernel_rfl)
def ziD (P : Program) (x0 x1 : AV) (σ : LO) (Z : ZT) : Prop :=
 cA P zbW [x0] σ fun a s =>
 zn a (z2 Z (iN 0) bF s) (nfl 1 x0 s fun b s =>
 zah .toStr x1 s fun c s =>
 zaE .str true (iN 0) b c s fun d s =>
 ze d 0 s fun e s =>
 ze d 1 s fun f s =>
 z2 Z e f s)
theorem zit : F2 Tryz.prog zaN ziD := zl [.d [(0, 12)] []] Tryz.func87 (by decide +kernel) (by kernel_rfl) fun {_ _ _ _ _} => cast (by kernel_rfl)
def zsS (P : Program) (x0 : AV) (σ : LO) (Z : ZT) : Prop :=
 cA P zey [x0] σ fun a s =>
 bP .neq a (iN 0) s fun b s =>
 zn b (z2 Z (.d .nilp) a s) (zat s fun c s =>
 zE (zR [iN 0,iN 0,iN 0,eN,(.d .nilmap),eN] [(0, 1,x0),(4, 1,c)]) s fun d s =>
 zaV d s fun e s =>
 z2 Z e (iN 0) s)
theorem zsh : F1 Tryz.prog znl zsS := zl [] Tryz.func88 (by decide +kernel) (by kernel_rfl) fun {_ _ _ _} => cast (by kernel_rfl)
def zfr (P : Program) (x0 x1 : AV) (σ : LO) (Z : ZT) : Prop :=
 zaV x1 σ fun a s =>
 zp true 3 a s fun b s =>
 cA P zlk [b] s fun c s =>
 zn c (z1 Z bT s) (fl 2 a s fun d s =>
 zas .sl d s fun e s =>
 zaM [(iN 0)] s fun v s f =>
 zau v fun g v => bP .lss g e s fun h s =>
 zn h (il true 2 2 d g s fun i s =>
 zQ [iN 0,iN 0] s fun j s =>
 zo 2 j i s fun _ s =>
 fl 0 a s fun m s =>
 fl 1 a s fun n s =>
 fl 0 j s fun o s =>
 cA P zfe [x0,m,n,o] s fun p s =>
 unC .not p s fun q s =>
 gFm q g s fun r s =>
 gF q (bP .gtr r (iN 0) s) s fun u s =>
 gFm q u s fun w s =>
 gTl w 0 j s fun y s =>
 gTl w 2 a s fun z s =>
 gTm w g s fun A s =>
 gT w (bP .sub A (iN 1) s) s fun B s =>
 gT w (zG none 2 z B s) s fun C s =>
 gTl w 0 C s fun D s =>
 gT w (bP .leq y D s) s fun E s =>
 gF q (anC w E s) s fun F s =>
 orC q F s fun G s =>
 zn G (z1 Z bF s) (bP .add g (iN 1) s fun H s =>
 f [H] s)) (zk 2 a s fun I s =>
 zp false 1 I s fun J s =>
 zas .sl J s fun K s =>
 nfl 0 x0 s fun L s =>
 cA P zlj [L] s fun M t =>
 zM I s t ∧ (bP .geq K M t fun N s =>
 z1 Z N s)))
theorem zfq : F2 Tryz.prog zdy zfr := zl [.l [12] [(4, 3),(13, 30)], .d [(0, 25)] [], .d [(0, 10)] [(7, [43])]] Tryz.func89 (by decide +kernel) (by kernel_rfl) fun {_ _ _ _ _} => cast (by kernel_rfl)
def zbU (P : Program) (x0 x1 : AV) (σ : LO) (Z : ZT) : Prop :=
 cA P zbp [x0,x1] σ fun a s =>
 bP .geq a (iN 0) s fun b s =>
 z1 Z b s
theorem zbT : F2 Tryz.prog zaC zbU := zl [] Tryz.func90 (by decide +kernel) (by kernel_rfl) fun {_ _ _ _ _} => cast (by kernel_rfl)
def zlU (P : Program) (x0 x1 x2 x3 : AV) (σ : LO) (Z : ZT) : Prop :=
 zaV x0 σ fun a s =>
 zp false 1 x1 s fun b s =>
 zp false 1 x2 s fun c s =>
 zp true 2 a s fun d s =>
 fl 0 a s fun e s =>
 fl 0 x3 s fun f s =>
 fl 1 x3 s fun g s =>
 cA P zgt [b,c,d,e,(iN 6),(iN 0),f,g] s fun h s =>
 unC .not h s fun i s =>
 z1 Z i s
theorem zlA : F4 Tryz.prog zfd zlU := zl [] Tryz.func91 (by decide +kernel) (by kernel_rfl) fun {_ _ _ _ _ _ _} => cast (by kernel_rfl)
def zkN (P : Program) (x0 x1 x2 x3 x4 x5 x6 x7 : AV) (σ : LO) (Z : ZT) : Prop :=
 zaV x2 σ fun a s =>
 cA P znm [x0,x1] s fun b s =>
 gTm b x4 s fun c s =>
 gTm b x5 s fun d s =>
 gTm b x6 s fun e s =>
 gTm b x7 s fun f s =>
 gT b (cA P zpp [c,d,e,f] s) s fun g s =>
 anC b g s fun h s =>
 gTm h x0 s fun i s =>
 gTm h x1 s fun j s =>
 gT h (zp true 2 a s) s fun l s =>
 gTm h x3 s fun m s =>
 gTm h x4 s fun n s =>
 gTm h x5 s fun o s =>
 gTm h x6 s fun p s =>
 gTm h x7 s fun q s =>
 gT h (cA P zgs [n,o,p,q] s) s fun r t =>
 zM a s t ∧ (gT h (cA P zkc [i,j,l,m,r] t) t fun u s =>
 anC h u s fun w s =>
 z1 Z w s)
theorem zkz : F8 Tryz.prog zgt zkN := zl [.d [(0, 23)] [(19, [10])]] Tryz.func92 (by decide +kernel) (by kernel_rfl) fun {_ _ _ _ _ _ _ _ _ _ _} => cast (by kernel_rfl)
def znb (P : Program) (x0 x1 : AV) (σ : LO) (Z : ZT) : Prop :=
 cA P zlm [x1] σ fun a s =>
 ze a 0 s fun b s =>
 ze a 1 s fun c s =>
 cp [(.d (.int .u8 0)),(.d (.int .u8 0)),(.d (.int .u8 0)),(.d (.int .u8 0)),(.d (.int .u8 0)),(.d (.int .u8 0)),(.d (.int .u8 0)),(.d (.int .u8 0)),(.d (.int .u8 0)),(.d (.int .u8 0))] 10 b s fun d s =>
 zbH (.arr 10 1) d none (some c) none s fun e s =>
 cA P zdf [x0] s fun f s =>
 zw 1 1 f e s fun g s =>
 z1 Z g s
theorem zmO : F2 Tryz.prog zcj znb := zl [.d [(0, 1),(2, 2),(1, 1),(4, 2)] []] Tryz.func93 (by decide +kernel) (by kernel_rfl) fun {_ _ _ _ _} => cast (by kernel_rfl)
end Go.Proofs.YtncpaekiidpchaaGreat
