/- The conditions of each function, its slots as variables, and that the logic's conditions are these. Printed by program. -/
import Derived.Test.YtncpaekiidpchaaGreatNm
import Derived.KernelRfl
set_option linter.all false
set_option maxRecDepth 100000
namespace Go.Proofs.YtncpaekiidpchaaGreat
open Go.AW
def znY (P : Program) (x0 : AV) (σ : LO) (Z : ZT) : Prop :=
 zaX x0 σ fun a s =>
 fl 3 a s fun b s =>
 zap .sl b s fun c s =>
 bP .eql c (iN 0) s fun d s =>
 zy d (z1 Z (iN 0) s) (fl 3 a s fun e s =>
 zB none 5 e (iN 0) s fun f s =>
 fl 0 f s fun g s =>
 z1 Z g s)
theorem znx : F1 Tryz.prog zjx znY := zo [] Tryz.func26 (by decide +kernel) (by kernel_rfl) fun {_ _ _ _} => cast (by kernel_rfl)
def zrV (P : Program) (x0 : AV) (σ : LO) (Z : ZT) : Prop :=
 zaX x0 σ fun a s =>
 fl 3 a s fun b s =>
 zap .sl b s fun c s =>
 bP .eql c (iN 0) s fun d s =>
 zy d (z1 Z (iN 0) s) (fl 3 a s fun e s =>
 zB none 5 e (iN 0) s fun f s =>
 fl 0 f s fun g s =>
 z1 Z g s)
theorem zrr : F1 Tryz.prog zmG zrV := zo [] Tryz.func27 (by decide +kernel) (by kernel_rfl) fun {_ _ _ _} => cast (by kernel_rfl)
def zjf (P : Program) (σ : LO) (Z : ZT) : Prop :=
 zaj σ fun a s =>
 zC (zV [eN,(.d .nilmap)] [(1, 1,a)]) s fun b s =>
 zaX b s fun c s =>
 z1 Z c s
theorem ziP : F0 Tryz.prog zdT zjf := zo [] Tryz.func29 (by decide +kernel) (by kernel_rfl) fun {_ _ _} => cast (by kernel_rfl)
def zkg (P : Program) (σ : LO) (Z : ZT) : Prop :=
 zaj σ fun a s =>
 zC (zV [eN,(.d .nilmap)] [(1, 1,a)]) s fun b s =>
 zaX b s fun c s =>
 z1 Z c s
theorem zjT : F0 Tryz.prog zet zkg := zo [] Tryz.func30 (by decide +kernel) (by kernel_rfl) fun {_ _ _} => cast (by kernel_rfl)
def zpS (P : Program) (x0 x1 : AV) (σ : LO) (Z : ZT) : Prop :=
 m1 1 [(.d (.int .u8 0))] x1 σ fun a s =>
 m1 1 [eN] a s fun b s =>
 zC (zV [iN 0,(.d (.str [])),(.d (.str [])),iN 0,eN] [(0, 1,(iN 2)),(1, 1,(.d (.str [116]))),(4, 1,b)]) s fun c s =>
 zC (zV [iN 0,iN 0,iN 0,(.d (.str [])),(.d (.str [])),iN 0,eN] [(1, 1,x0),(2, 5,c)]) s fun d s =>
 m1 7 [iN 0,iN 0,iN 0,(.d (.str [])),(.d (.str [])),iN 0,eN] d s fun e s =>
 z1 Z e s
theorem zpE : F2 Tryz.prog zhP zpS := zo [] Tryz.func31 (by decide +kernel) (by kernel_rfl) fun {_ _ _ _ _} => cast (by kernel_rfl)
def znV (P : Program) (x0 : AV) (σ : LO) (Z : ZT) : Prop :=
 zP [iN 0,iN 0,iN 0,iN 0,iN 0] σ fun a s =>
 cA P zdQ [x0,eN] s fun b s =>
 zC (zV [iN 0,iN 0,iN 0,iN 0,iN 0] [(3, 1,b)]) s fun c s =>
 cp [iN 0,iN 0,iN 0,iN 0,iN 0] 5 c s fun d s =>
 zC (zV [eN,iN 0,iN 0,iN 0,iN 0,iN 0,iN 0,iN 0,iN 0,iN 0,iN 0,iN 0,iN 0,iN 0,iN 0,iN 0,iN 0,iN 0,iN 0,iN 0,iN 0,iN 0,iN 0,iN 0,iN 0] []) s fun e s =>
 zaX e s fun f s =>
 cA P zdp [f,x0] s fun g s =>
 zi 4 d s fun h s =>
 zm 1 h g s fun _ s =>
 fl 3 d s fun j s =>
 bP .eql j (iN 0) s fun l s =>
 gFl l 4 d s fun m s =>
 gF l (bP .eql m (iN 0) s) s fun n s =>
 orC l n s fun o s =>
 zy o (zC (zV [iN 0,iN 0,iN 0,iN 0,iN 0] []) s fun p s =>
 zm 5 a p s fun _ s =>
 Z (zD (zag a s true 5) (zD (some (iN 6)) (some []))) s) (zp true 5 d s fun r s =>
 zm 5 a r s fun _ s =>
 Z (zD (zag a s true 5) (zD (some (iN 0)) (some []))) s)
theorem znu : F1 Tryz.prog zjr znV := zo [] Tryz.func32 (by decide +kernel) (by kernel_rfl) fun {_ _ _ _} => cast (by kernel_rfl)
def ztS (P : Program) (x0 x1 x2 : AV) (σ : LO) (Z : ZT) : Prop :=
 zaX x2 σ fun a s =>
 zP [iN 0,iN 0,iN 0,(.d (.str [])),(.d (.str [])),iN 0,eN,iN 0,iN 0] s fun b s =>
 zp true 7 a s fun c s =>
 cA P zjv [c] s fun d s =>
 ze d 0 s fun e s =>
 ze d 1 s fun f s =>
 bP .neq f (iN 0) s fun g s =>
 zy g (zC (zV [iN 0,iN 0,iN 0,(.d (.str [])),(.d (.str [])),iN 0,eN,iN 0,iN 0] []) s fun h s =>
 zm 9 b h s fun _ s =>
 Z (zD (zag b s true 9) (zD (some f) (some []))) s) (fl 0 a s fun j s =>
 cA P zkA [j] s fun l s =>
 cA P zbr [x0,e] s fun m s =>
 cA P zdR [x1,l,m] s fun n s =>
 ze n 0 s fun o s =>
 ze n 1 s fun p s =>
 cp [iN 0,iN 0] 2 o s fun q s =>
 bP .neq p (iN 0) s fun r s =>
 zy r (zC (zV [iN 0,iN 0,iN 0,(.d (.str [])),(.d (.str [])),iN 0,eN,iN 0,iN 0] []) s fun u s =>
 zm 9 b u s fun _ s =>
 Z (zD (zag b s true 9) (zD (some p) (some []))) s) (zp true 7 a s fun y s =>
 zp true 2 q s fun z s =>
 zC (zV [iN 0,iN 0,iN 0,(.d (.str [])),(.d (.str [])),iN 0,eN,iN 0,iN 0] [(0, 7,y),(7, 2,z)]) s fun A s =>
 zm 9 b A s fun _ s =>
 Z (zD (zag b s true 9) (zD (some (iN 0)) (some []))) s))
theorem ztf : F3 Tryz.prog zix ztS := zo [] Tryz.func33 (by decide +kernel) (by kernel_rfl) fun {_ _ _ _ _ _} => cast (by kernel_rfl)
def znW (P : Program) (x0 x1 x2 x3 : AV) (σ : LO) (Z : ZT) : Prop :=
 zaX x2 σ fun a s =>
 zP [iN 0,iN 0,iN 0,iN 0,iN 0] s fun b s =>
 zp true 5 a s fun c s =>
 cA P zjs [c] s fun d s =>
 bP .neq d (iN 0) s fun e s =>
 zy e (zC (zV [iN 0,iN 0,iN 0,iN 0,iN 0] []) s fun f s =>
 zm 5 b f s fun _ s =>
 Z (zD (zag b s true 5) (zD (some eN) (zD (some eN) (zD (some d) (some []))))) s) (fl 0 a s fun h s =>
 bP .eql h (iN 9007199254740992) s fun i s =>
 zy i (zC (zV [iN 0,iN 0,iN 0,iN 0,iN 0] []) s fun j s =>
 zm 5 b j s fun _ s =>
 Z (zD (zag b s true 5) (zD (some eN) (zD (some eN) (zD (some (iN 6)) (some []))))) s) (fl 0 a s fun m s =>
 bP .add m (iN 1) s fun n s =>
 zC (zV [iN 0,iN 0,iN 0,iN 0,iN 0] [(0, 1,n)]) s fun o s =>
 cp [iN 0,iN 0,iN 0,iN 0,iN 0] 5 o s fun p s =>
 cA P zkB [x0,x3] s fun q s =>
 ze q 0 s fun r s =>
 ze q 1 s fun u s =>
 bP .neq u (iN 0) s fun w s =>
 zy w (zC (zV [iN 0,iN 0,iN 0,iN 0,iN 0] []) s fun y s =>
 zm 5 b y s fun _ s =>
 Z (zD (zag b s true 5) (zD (some eN) (zD (some eN) (zD (some u) (some []))))) s) (zi 2 p s fun A s =>
 zm 1 A r s fun _ s =>
 zp true 5 a s fun C s =>
 cA P zhN [x0,C] s fun D s =>
 ze D 0 s fun E s =>
 ze D 1 s fun F s =>
 zi 1 p s fun G s =>
 zm 1 G E s fun _ s =>
 bP .neq F (iN 0) s fun I s =>
 zy I (zC (zV [iN 0,iN 0,iN 0,iN 0,iN 0] []) s fun J s =>
 zm 5 b J s fun _ s =>
 Z (zD (zag b s true 5) (zD (some eN) (zD (some eN) (zD (some F) (some []))))) s) (zbf [eN,eN,(iN 0)] s fun v s L =>
 zaA v fun M v => zaA v fun N v => zaA v fun O v => zap .sl x3 s fun Q s =>
 bP .lss O Q s fun R s =>
 zy R (zB none 9 x3 O s fun S s =>
 zi 0 S s fun T s =>
 zp true 7 T s fun U s =>
 cA P zeX [x1,U] s fun V s =>
 ze V 0 s fun W s =>
 ze V 1 s fun X s =>
 ze V 2 s fun Y s =>
 cp [iN 0,iN 0] 2 W s fun a0 s =>
 zt 3 48 M X s fun b0 s =>
 zB none 9 x3 O s fun c0 s =>
 zi 0 c0 s fun d0 s =>
 fl 0 d0 s fun e0 s =>
 zB none 9 x3 O s fun f0 s =>
 zi 0 f0 s fun g0 s =>
 fl 1 g0 s fun h0 s =>
 zp true 2 a0 s fun i0 s =>
 zC (zV [iN 0,iN 0,iN 0,iN 0,bF] [(0, 1,e0),(1, 1,h0),(2, 2,i0),(4, 1,Y)]) s fun j0 s =>
 m1 5 [iN 0,iN 0,iN 0,iN 0,bF] j0 s fun l0 s =>
 zt 5 40 N l0 s fun m0 s =>
 bP .add O (iN 1) s fun o0 s =>
 L [b0,m0,o0] s) (cA P zhM [M] s fun p0 s =>
 cA P zdQ [x0,p0] s fun q0 s =>
 zi 3 p s fun r0 s =>
 zm 1 r0 q0 s fun _ s =>
 cA P zdp [x1,x0] s fun w0 s =>
 zi 4 p s fun y0 s =>
 zm 1 y0 w0 s fun _ s =>
 fl 3 p s fun A0 s =>
 bP .eql A0 (iN 0) s fun B0 s =>
 gFl B0 4 p s fun C0 s =>
 gF B0 (bP .eql C0 (iN 0) s) s fun D0 s =>
 orC B0 D0 s fun E0 s =>
 zy E0 (zC (zV [iN 0,iN 0,iN 0,iN 0,iN 0] []) s fun F0 s =>
 zm 5 b F0 s fun _ s =>
 Z (zD (zag b s true 5) (zD (some eN) (zD (some eN) (zD (some (iN 6)) (some []))))) s) (zp true 5 p s fun H0 s =>
 zm 5 b H0 s fun _ s =>
 Z (zD (zag b s true 5) (zD (some M) (zD (some N) (zD (some (iN 0)) (some []))))) s))))))
theorem znv : F4 Tryz.prog zgG znW := zo [.l [16, 17, 18] [(19, 3),(59, 38)], .d [(0, 19)] []] Tryz.func34 (by decide +kernel) (by kernel_rfl) fun {_ _ _ _ _ _ _} => cast (by kernel_rfl)
def zpL (P : Program) (x0 x1 : AV) (σ : LO) (Z : ZT) : Prop :=
 zaX x1 σ fun a s =>
 zp true 5 a s fun b s =>
 cA P zmB [b] s fun c s =>
 ze c 0 s fun d s =>
 ze c 1 s fun e s =>
 bP .neq e (iN 0) s fun f s =>
 zy f (z2 Z (iN 0) e s) (cA P zbr [x0,d] s fun g s =>
 bP .eql g (iN 0) s fun h s =>
 zy h (z2 Z (iN 0) (iN 6) s) (z2 Z g (iN 0) s))
theorem zpx : F2 Tryz.prog zhN zpL := zo [] Tryz.func35 (by decide +kernel) (by kernel_rfl) fun {_ _ _ _ _} => cast (by kernel_rfl)
def ztN (P : Program) (x0 : AV) (σ : LO) (Z : ZT) : Prop :=
 zbf [eN,(iN 0)] σ fun v s a =>
 zaA v fun b v => zaA v fun c v => bP .lss c (iN 13) s fun d s =>
 zy d ((fun (e : AV → LO → Prop) => cA P zkz [x0,c] s fun h s =>
 zy h (m1 1 [iN 0] c s fun i s =>
 zt 1 8 b i s fun j s =>
 e j s) (e b s))
 (fun f s => bP .add c (iN 1) s fun g s =>
 a [f,g] s)) (z1 Z b s)
theorem zta : F1 Tryz.prog zoz ztN := zo [.l [3, 4] [(5, 11)]] Tryz.func36 (by decide +kernel) (by kernel_rfl) fun {_ _ _ _} => cast (by kernel_rfl)
def ztQ (P : Program) (x0 x1 x2 x3 x4 x5 x6 : AV) (σ : LO) (Z : ZT) : Prop :=
 zP [iN 0,iN 0] σ fun a s =>
 cA P zqM [x3,x4,x5,x6] s fun b s =>
 unC .not b s fun c s =>
 zy c (zC (zV [iN 0,iN 0] []) s fun d s =>
 zm 2 a d s fun _ s =>
 Z (zD (zag a s true 2) (zD (some (iN 1)) (some []))) s) (cA P zgW [x3,x4,x5,x6] s fun f s =>
 cA P zoB [x0,x1,x2,f] s fun g s =>
 ze g 0 s fun h s =>
 ze g 1 s fun i s =>
 zm 2 a h s fun _ s =>
 Z (zD (zag a s true 2) (zD (some i) (some []))) s)
theorem ztd : F7 Tryz.prog ziw ztQ := zo [] Tryz.func37 (by decide +kernel) (by kernel_rfl) fun {_ _ _ _ _ _ _ _ _ _} => cast (by kernel_rfl)
def ztL (P : Program) (x0 x1 x2 : AV) (σ : LO) (Z : ZT) : Prop :=
 zbf [(iN 0)] σ fun v s a =>
 zaA v fun b v => zap .sl x0 s fun c s =>
 bP .lss b c s fun d s =>
 zy d (zbf [(iN 0)] s fun v s e =>
 zaA v fun f v => zB none 7 x0 b s fun g s =>
 fl 6 g s fun h s =>
 zap .sl h s fun i s =>
 bP .lss f i s fun j s =>
 zy j (zB none 7 x0 b s fun l s =>
 fl 6 l s fun m s =>
 zB none 3 m f s fun n s =>
 fl 0 n s fun o s =>
 bP .eql o x1 s fun p s =>
 gTm p x0 s fun q s =>
 gTm p b s fun r s =>
 gT p (zB none 7 q r s) s fun u s =>
 gTl p 6 u s fun w s =>
 gTm p f s fun y s =>
 gT p (zB none 3 w y s) s fun z s =>
 gTl p 1 z s fun A s =>
 gTm p x2 s fun B s =>
 gT p (bP .eql A B s) s fun C s =>
 anC p C s fun D s =>
 zy D (Z (zD (some b) (zD (some f) (zD (some bT) (some [])))) s) (bP .add f (iN 1) s fun E s =>
 e [E] s)) (bP .add b (iN 1) s fun F s =>
 a [F] s)) (Z (zD (some (iN 0)) (zD (some (iN 0)) (zD (some bF) (some [])))) s)
theorem zsY : F3 Tryz.prog zoy ztL := zo [.l [9] [(6, 3),(10, 43)], .l [10] [(6, 3),(17, 36)]] Tryz.func38 (by decide +kernel) (by kernel_rfl) fun {_ _ _ _ _ _} => cast (by kernel_rfl)
def zrS (P : Program) (x0 x1 x2 : AV) (σ : LO) (Z : ZT) : Prop :=
 bP .lss x1 (iN 0) σ fun a s =>
 gFm a x1 s fun b s =>
 gFm a x2 s fun c s =>
 gF a (zap .sl c s) s fun d s =>
 gF a (bP .geq b d s) s fun e s =>
 orC a e s fun f s =>
 zy f (z2 Z eN (iN 1) s) (zap .sl x2 s fun g s =>
 bP .eql g (iN 1) s fun h s =>
 zy h (z2 Z eN (iN 0) s) (zap .sl x2 s fun i s =>
 cA P zjw [i] s fun j s =>
 bP .lss x1 j s fun l s =>
 zy l (zbp (.sl 1) x2 none (some j) none s fun m s =>
 cA P zfy [x0,x1,m] s fun n s =>
 ze n 0 s fun o s =>
 ze n 1 s fun _ s =>
 zbp (.sl 1) x2 (some j) none none s fun q s =>
 cA P zdQ [x0,q] s fun r s =>
 m1 1 [iN 0] r s fun u s =>
 zt 1 8 o u s fun w s =>
 z2 Z w (iN 0) s) (bP .sub x1 j s fun y s =>
 zbp (.sl 1) x2 (some j) none none s fun z s =>
 cA P zfy [x0,y,z] s fun A s =>
 ze A 0 s fun B s =>
 ze A 1 s fun _ s =>
 zbp (.sl 1) x2 none (some j) none s fun D s =>
 cA P zdQ [x0,D] s fun E s =>
 m1 1 [iN 0] E s fun F s =>
 zt 1 8 B F s fun G s =>
 z2 Z G (iN 0) s)))
theorem zro : F3 Tryz.prog zfy zrS := zo [] Tryz.func39 (by decide +kernel) (by kernel_rfl) fun {_ _ _ _ _ _} => cast (by kernel_rfl)
def zpK (P : Program) (x0 : AV) (σ : LO) (Z : ZT) : Prop :=
 zbf [eN,(iN 0)] σ fun v s a =>
 zaA v fun b v => zaA v fun c v => zap .sl x0 s fun d s =>
 bP .lss c d s fun e s =>
 zy e (il true 3 3 x0 c s fun f s =>
 cA P zfx [f] s fun g s =>
 m1 1 [eN] g s fun h s =>
 zt 1 24 b h s fun i s =>
 bP .add c (iN 1) s fun j s =>
 a [i,j] s) (z1 Z b s)
theorem zpw : F1 Tryz.prog zhM zpK := zo [.l [3, 4] [(5, 14)]] Tryz.func40 (by decide +kernel) (by kernel_rfl) fun {_ _ _ _} => cast (by kernel_rfl)
def zid (P : Program) (x0 : AV) (σ : LO) (Z : ZT) : Prop :=
 zbI .eql .ptr x0 (.d .nilp) σ fun a s =>
 gFm a x0 s fun b s =>
 gF a (zbg b s) s fun c s =>
 gFl a 1 c s fun d s =>
 gF a (zbI .eql .map d (.d .nilmap) s) s fun e s =>
 orC a e s fun f s =>
 z1 Z f s
theorem zhV : F1 Tryz.prog zbX zid := zo [] Tryz.func41 (by decide +kernel) (by kernel_rfl) fun {_ _ _ _} => cast (by kernel_rfl)
def zoe (P : Program) (x0 : AV) (σ : LO) (Z : ZT) : Prop :=
 zad false x0 σ fun a s =>
 zy a (z1 Z eN s) (zr false 1 0 (zV (rep [(.d (.int .u8 0))] 0) []) s fun b s =>
 zt 1 1 b x0 s fun c s =>
 z1 Z c s)
theorem znD : F1 Tryz.prog zjB zoe := zo [] Tryz.func42 (by decide +kernel) (by kernel_rfl) fun {_ _ _ _} => cast (by kernel_rfl)
def zhF (P : Program) (x0 : AV) (σ : LO) (Z : ZT) : Prop :=
 zbI .eql .ptr x0 (.d .nilp) σ fun a s =>
 gFm a x0 s fun b s =>
 gF a (zbg b s) s fun c s =>
 gFl a 1 c s fun d s =>
 gF a (zbI .eql .map d (.d .nilmap) s) s fun e s =>
 orC a e s fun f s =>
 z1 Z f s
theorem zhq : F1 Tryz.prog zbK zhF := zo [] Tryz.func43 (by decide +kernel) (by kernel_rfl) fun {_ _ _ _} => cast (by kernel_rfl)
def zhE (P : Program) (x0 : AV) (σ : LO) (Z : ZT) : Prop :=
 cA P zbX [x0] σ fun a s =>
 zy a (z1 Z (.d .nilp) s) (nfl 0 x0 s fun b s =>
 cA P zkE [b] s fun c s =>
 ze c 0 s fun d s =>
 ze c 1 s fun _ s =>
 z1 Z d s)
theorem zhp : F1 Tryz.prog zbi zhE := zo [] Tryz.func44 (by decide +kernel) (by kernel_rfl) fun {_ _ _ _} => cast (by kernel_rfl)
def zgC (P : Program) (x0 : AV) (σ : LO) (Z : ZT) : Prop :=
 cA P zbK [x0] σ fun a s =>
 zy a (z1 Z (.d .nilp) s) (cA P zdT [] s fun b s =>
 nfl 0 x0 s fun c s =>
 zap .sl c s fun d s =>
 zbf [(iN 0)] s fun v s e =>
 zaA v fun f v => bP .lss f d s fun g s =>
 zy g (il true 2 2 c f s fun h s =>
 cp [iN 0,iN 0] 2 h s fun i s =>
 fl 0 i s fun j s =>
 fl 1 i s fun l s =>
 cA P zdr [b,j,l] s fun _ s =>
 bP .add f (iN 1) s fun n s =>
 e [n] s) (z1 Z b s))
theorem zgs : F1 Tryz.prog zcf zgC := zo [.l [14] [(5, 1),(15, 10)]] Tryz.func45 (by decide +kernel) (by kernel_rfl) fun {_ _ _ _} => cast (by kernel_rfl)
def zmq (P : Program) (x0 : AV) (σ : LO) (Z : ZT) : Prop :=
 bP .lss x0 (iN 1) σ fun a s =>
 gFm a x0 s fun b s =>
 gF a (bP .gtr b (iN 4) s) s fun c s =>
 orC a c s fun d s =>
 zy d (z1 Z (iN 120) s) (z1 Z (iN 0) s)
theorem zmc : F1 Tryz.prog zee zmq := zo [] Tryz.func46 (by decide +kernel) (by kernel_rfl) fun {_ _ _ _} => cast (by kernel_rfl)
def zgB (P : Program) (x0 : AV) (σ : LO) (Z : ZT) : Prop :=
 zaX x0 σ fun a s =>
 zP [iN 0] s fun b s =>
 zp true 10 a s fun c s =>
 cA P zdK [b,c] s fun _ s =>
 fl 0 b s fun e s =>
 z1 Z e s
theorem zgr : F1 Tryz.prog zdZ zgB := zo [] Tryz.func47 (by decide +kernel) (by kernel_rfl) fun {_ _ _ _} => cast (by kernel_rfl)
def zlj (P : Program) (x0 x1 : AV) (σ : LO) (Z : ZT) : Prop :=
 zaX x1 σ fun a s =>
 fl 3 a s fun b s =>
 zap .sl b s fun c s =>
 bP .eql c (iN 0) s fun d s =>
 gFm d x0 s fun e s =>
 gFl d 3 a s fun f s =>
 gF d (cA P zjC [e,f] s) s fun g s =>
 gF d (unC .not g s) s fun h s =>
 orC d h s fun i s =>
 zy i (z1 Z bF s) (fl 3 a s fun j s =>
 fl 3 a s fun l s =>
 zap .sl l s fun m s =>
 bP .sub m (iN 1) s fun n s =>
 il true 5 5 j n s fun o s =>
 cp [iN 0,iN 0,iN 0,iN 0,iN 0] 5 o s fun p s =>
 zp true 5 p s fun q s =>
 cA P zgJ [q] s fun r s =>
 ze r 0 s fun u s =>
 ze r 1 s fun w s =>
 bP .neq w (iN 0) s fun y s =>
 zy y (z1 Z bF s) (cA P zbc [x0,u] s fun z s =>
 ze z 0 s fun A s =>
 ze z 1 s fun B s =>
 gTm B A s fun C s =>
 gT B (zi 7 a s) s fun D s =>
 gTl B 1 D s fun E s =>
 gT B (bP .eql C E s) s fun F s =>
 anC B F s fun G s =>
 gTl G 0 p s fun H s =>
 gT G (zi 7 a s) s fun I s =>
 gTl G 0 I s fun J s =>
 gT G (bP .eql H J s) s fun K s =>
 anC G K s fun L s =>
 z1 Z L s))
theorem zkR : F2 Tryz.prog zhb zlj := zo [] Tryz.func48 (by decide +kernel) (by kernel_rfl) fun {_ _ _ _ _} => cast (by kernel_rfl)
def znZ (P : Program) (x0 x1 x2 x3 : AV) (σ : LO) (Z : ZT) : Prop :=
 zaX x0 σ fun a s =>
 zaX x1 s fun b s =>
 zaX x3 s fun c s =>
 cA P zmF [x2] s fun d s =>
 ze d 0 s fun e s =>
 ze d 1 s fun f s =>
 bP .neq f (iN 0) s fun g s =>
 gFm g e s fun h s =>
 gF g (zp true 3 c s) s fun i s =>
 gF g (cA P zdC [h,i] s) s fun j s =>
 gF g (unC .not j s) s fun l s =>
 orC g l s fun m s =>
 gF m (zp false 1 a s) s fun n s =>
 gF m (cA P zdS [n] s) s fun o s =>
 gF m (bP .eql o (iN 0) s) s fun p s =>
 gFm m p s fun q s =>
 gT q (zp false 1 a s) s fun r s =>
 gT q (cA P zbi [r] s) s fun u s =>
 gT q (zbI .eql .ptr u (.d .nilp) s) s fun w s =>
 gF m (anC q w s) s fun y s =>
 orC m y s fun z s =>
 gF z (zp false 1 b s) s fun A s =>
 gF z (cA P zdG [A] s) s fun B s =>
 gF z (bP .eql B (iN 0) s) s fun C s =>
 gFm z C s fun D s =>
 gT D (zp false 1 b s) s fun E s =>
 gT D (cA P zcf [E] s) s fun F s =>
 gT D (zbI .eql .ptr F (.d .nilp) s) s fun G s =>
 gF z (anC D G s) s fun H s =>
 orC z H s fun I s =>
 zy I (z1 Z bF s) (fl 2 c s fun J s =>
 cA P zaJ [J,(.fn (.func zeY) [] [a,b,c])] s fun K s =>
 unC .not K s fun L s =>
 z1 Z L s)
theorem zny : F4 Tryz.prog zjy znZ := zo [] Tryz.func49 (by decide +kernel) (by kernel_rfl) fun {_ _ _ _ _ _ _} => cast (by kernel_rfl)
def zgv (P : Program) (x0 : AV) (σ : LO) (Z : ZT) : Prop :=
 zaX x0 σ fun a s =>
 fl 0 a s fun b s =>
 zab .toBytes b s fun c s =>
 zi 1 a s fun d s =>
 zp false 1 d s fun e s =>
 zbL [(iN 0),e] s fun f s =>
 zab (.int .u64) f s fun g s =>
 cA P zeu [eN,c] s fun h t =>
 zU d s t ∧ (cA P zci [h,g] t fun i s =>
 fl 2 a s fun j s =>
 cA P zeu [i,j] s fun l s =>
 z1 Z l s)
theorem zgl : F1 Tryz.prog zcZ zgv := zo [.d [(0, 3),(4, 4),(3, 1),(8, 2)] [(3, [8])]] Tryz.func50 (by decide +kernel) (by kernel_rfl) fun {_ _ _ _} => cast (by kernel_rfl)
def zll (P : Program) (x0 x1 x2 x3 x4 x5 : AV) (σ : LO) (Z : ZT) : Prop :=
 zaX x0 σ fun a s =>
 zaX x2 s fun b s =>
 bP .lss x3 (iN 0) s fun c s =>
 gFm c x3 s fun d s =>
 gFm c x4 s fun e s =>
 gF c (bP .geq d e s) s fun f s =>
 orC c f s fun g s =>
 gFm g x5 s fun h s =>
 gF g (zap .sl h s) s fun i s =>
 gFm g x3 s fun j s =>
 gFm g x4 s fun l s =>
 gF g (cA P zhd [j,l] s) s fun m s =>
 gF g (bP .neq i m s) s fun n s =>
 orC g n s fun o s =>
 zy o (z1 Z bF s) (zP [(.d .nilfn)] s fun p s =>
 zm 1 p (.fn (.func zdc) [] [a,b,p]) s fun _ s =>
 zp false 1 p s fun r s =>
 zaa P r [dm x3,dm x4,dm x5] s fun u s =>
 ze u 0 s fun w s =>
 ze u 1 s fun y s =>
 gTm y w s fun z s =>
 gTm y x1 s fun A s =>
 gT y (bP .eql z A s) s fun B s =>
 anC y B s fun C s =>
 z1 Z C s)
theorem zkT : F6 Tryz.prog zhc zll := zo [] Tryz.func51 (by decide +kernel) (by kernel_rfl) fun {_ _ _ _ _ _ _ _ _} => cast (by kernel_rfl)
def zrL (P : Program) (x0 : AV) (σ : LO) (Z : ZT) : Prop :=
 zaX x0 σ fun a s =>
 zp true 5 a s fun b s =>
 cA P zjs [b] s fun c s =>
 bP .neq c (iN 0) s fun d s =>
 zy d (z2 Z eN c s) (m1 1 [(.d (.int .u8 0))] (.d (.int .u8 3)) s fun e s =>
 fl 0 a s fun f s =>
 zab (.int .u64) f s fun g s =>
 cA P zaY [e,g] s fun h s =>
 fl 1 a s fun i s =>
 fl 2 a s fun j s =>
 fl 3 a s fun l s =>
 fl 4 a s fun m s =>
 zr false 1 4 (zV (rep [iN 0] 4) [(0, 1,i),(1, 1,j),(2, 1,l),(3, 1,m)]) s fun n s =>
 zbf [h,(iN 0)] s fun v s o =>
 zaA v fun p v => zaA v fun q v => zap .sl n s fun r s =>
 bP .lss q r s fun u s =>
 zy u (il false 1 1 n q s fun w s =>
 zab (.int .u64) w s fun y s =>
 cA P zaY [p,y] s fun z s =>
 bP .add q (iN 1) s fun A s =>
 o [z,A] s) (z2 Z p (iN 0) s))
theorem zrh : F1 Tryz.prog zmB zrL := zo [.l [5, 7] [(27, 13)]] Tryz.func54 (by decide +kernel) (by kernel_rfl) fun {_ _ _ _} => cast (by kernel_rfl)
def zkb (P : Program) (x0 x1 : AV) (σ : LO) (Z : ZT) : Prop :=
 zbf [(iN 0)] σ fun v s a =>
 zaA v fun b v => nfl 0 x0 s fun c s =>
 zap .sl c s fun d s =>
 bP .lss b d s fun e s =>
 zy e (nfl 0 x0 s fun f s =>
 il false 1 1 f b s fun g s =>
 cA P zoJ [g,x1] s fun h s =>
 zy h (bP .add b (iN 1) s fun i s =>
 z2 Z i bT s) (bP .add b (iN 1) s fun j s =>
 a [j] s)) (z2 Z (iN 0) bF s)
theorem zjO : F2 Tryz.prog zgc zkb := zo [.l [6] [(4, 2),(7, 20)]] Tryz.func55 (by decide +kernel) (by kernel_rfl) fun {_ _ _ _ _} => cast (by kernel_rfl)
def ziZ (P : Program) (x0 : AV) (σ : LO) (Z : ZT) : Prop :=
 zaX x0 σ fun a s =>
 fl 0 a s fun b s =>
 zab .toBytes b s fun c s =>
 cA P zbj [eN,c] s fun d s =>
 fl 1 a s fun e s =>
 zbL [e,(iN 0)] s fun f s =>
 zi 2 a s fun g s =>
 zp false 1 g s fun h s =>
 cA P zdJ [d,f] s fun i t =>
 zU g s t ∧ (cA P zbj [i,h] t fun j s =>
 z1 Z j s)
theorem ziK : F1 Tryz.prog zfx ziZ := zo [.d [(0, 4),(5, 2),(4, 1),(7, 2)] [(4, [13])]] Tryz.func57 (by decide +kernel) (by kernel_rfl) fun {_ _ _ _} => cast (by kernel_rfl)
def S_r12_Of (P : Program) (x0 : AV) (σ : LO) (Z : ZT) : Prop :=
 zbf [(.d (.int .u16 0)),(.d (.int .u16 1)),(iN 0)] σ fun v s a =>
 zaA v fun b v => zaA v fun c v => zaA v fun d v => bP .lss d (iN 13) s fun e s =>
 zy e ((fun (f : AV → LO → Prop) => zbf [b,(iN 0)] s fun v s j =>
 zaA v fun l v => zaA v fun m v => zap .sl x0 s fun n s =>
 bP .lss m n s fun o s =>
 zy o (il false 1 1 x0 m s fun p s =>
 bP .eql p d s fun q s =>
 zy q (bP .add l c s fun r s =>
 f r s) (bP .add m (iN 1) s fun u s =>
 j [l,u] s)) (f l s))
 (fun g s => bP .mul c (.d (.int .u16 2)) s fun h s =>
 bP .add d (iN 1) s fun i s =>
 a [g,h,i] s)) (z1 Z b s)
theorem e_r12_Of : F1 Tryz.prog zqo S_r12_Of := zo [.l [3, 4, 5] [(6, 22)], .l [3, 6] [(11, 15)]] Tryz.func59 (by decide +kernel) (by kernel_rfl) fun {_ _ _ _} => cast (by kernel_rfl)
def znU (P : Program) (x0 : AV) (σ : LO) (Z : ZT) : Prop :=
 cA P zmA [x0] σ fun a s =>
 bP .neq a (iN 0) s fun b s =>
 zy b (z1 Z (iN 0) s) (bP .mul (iN 3) x0 s fun c s =>
 bP .add c (iN 1) s fun d s =>
 z1 Z d s)
theorem znt : F1 Tryz.prog zjq znU := zo [] Tryz.func60 (by decide +kernel) (by kernel_rfl) fun {_ _ _ _} => cast (by kernel_rfl)
def zbN (P : Program) (x0 x1 : AV) (σ : LO) (Z : ZT) : Prop :=
 zap .sl x0 σ fun a s =>
 zbf [(iN 0)] s fun v s b =>
 zaA v fun c v => bP .lss c a s fun d s =>
 zy d (il true 3 3 x0 c s fun e s =>
 zaa P x1 [dm e] s fun f s =>
 zy f (z1 Z c s) (bP .add c (iN 1) s fun g s =>
 b [g] s)) (z1 Z (iN (-1)) s)
theorem zbM : F2 Tryz.prog zbd zbN := zo [.l [8] [(4, 2),(9, 10)]] Tryz.func61 (by decide +kernel) (by kernel_rfl) fun {_ _ _ _ _} => cast (by kernel_rfl)
def zms (P : Program) (x0 x1 x2 : AV) (σ : LO) (Z : ZT) : Prop :=
 zaX x0 σ fun a s =>
 fl 0 a s fun b s =>
 zp false 1 x1 s fun c s =>
 bP .eql b c s fun d s =>
 gTl d 1 a s fun e s =>
 gT d (zp false 1 x2 s) s fun f s =>
 gT d (bP .eql e f s) s fun g s =>
 anC d g s fun h s =>
 z1 Z h s
theorem zme : F3 Tryz.prog zii zms := zo [] Tryz.func62 (by decide +kernel) (by kernel_rfl) fun {_ _ _ _ _ _} => cast (by kernel_rfl)
def zrT (P : Program) (x0 x1 : AV) (σ : LO) (Z : ZT) : Prop :=
 zap .sl x0 σ fun a s =>
 zbf [eN,(iN 0)] s fun v s b =>
 zaA v fun c v => zaA v fun d v => bP .lss d a s fun e s =>
 zy e (il true 7 7 x0 d s fun f s =>
 zP [iN 0,iN 0,iN 0,iN 0,iN 0,eN,eN] s fun g s =>
 zm 7 g f s fun _ s =>
 bP .gtr d (iN 0) s fun i s =>
 gT i (zi 0 g s) s fun j s =>
 gTl i 0 j s fun l s =>
 gT i (bP .sub l (iN 1) s) s fun m s =>
 gTm i x0 s fun n s =>
 gTm i d s fun o s =>
 gT i (bP .sub o (iN 1) s) s fun p s =>
 gT i (zB none 7 n p s) s fun q s =>
 gT i (zi 0 q s) s fun r s =>
 gTl i 0 r s fun u s =>
 gT i (bP .neq m u s) s fun w s =>
 anC i w s fun y s =>
 zy y (z2 Z eN bF s) (zi 0 g s fun z s =>
 zp true 5 z s fun A s =>
 m1 5 [iN 0,iN 0,iN 0,iN 0,iN 0] A s fun B s =>
 zt 5 40 c B s fun C s =>
 zi 0 g s fun D s =>
 fl 0 D s fun E s =>
 bP .eql E x1 s fun F s =>
 zy F (z2 Z C bT s) (bP .add d (iN 1) s fun G s =>
 b [C,G] s))) (z2 Z eN bF s)
theorem zrp : F2 Tryz.prog zmE zrT := zo [.l [6, 11] [(4, 2),(7, 2),(12, 32)], .d [(0, 16)] []] Tryz.func63 (by decide +kernel) (by kernel_rfl) fun {_ _ _ _ _} => cast (by kernel_rfl)
def zmu (P : Program) (x0 x1 x2 : AV) (σ : LO) (Z : ZT) : Prop :=
 zaX x0 σ fun a s =>
 zp false 1 a s fun b s =>
 cA P zbi [b] s fun c s =>
 zbI .eql .ptr c (.d .nilp) s fun d s =>
 zy d (z2 Z eN (iN 2) s) (bP .lss x1 (iN 0) s fun e s =>
 gFm e x1 s fun f s =>
 gFm e x2 s fun g s =>
 gF e (zap .sl g s) s fun h s =>
 gF e (bP .geq f h s) s fun i s =>
 orC e i s fun j s =>
 zy j (z2 Z eN (iN 1) s) (zP [eN] s fun l s =>
 zP [(.d .nilfn)] s fun m s =>
 zm 1 m (.fn (.func zcA) [] [m,l,a]) s fun _ s =>
 zp false 1 m s fun o s =>
 zaa P o [dm x1,dm x2] s fun _ s =>
 zp false 1 l s fun q s =>
 z2 Z q (iN 0) s))
theorem zmg : F3 Tryz.prog zij zmu := zo [] Tryz.func64 (by decide +kernel) (by kernel_rfl) fun {_ _ _ _ _ _} => cast (by kernel_rfl)
def zmw (P : Program) (x0 : AV) (σ : LO) (Z : ZT) : Prop :=
 zap .sl x0 σ fun a s =>
 zbf [eN,(iN 0)] s fun v s b =>
 zaA v fun c v => zaA v fun d v => bP .lss d a s fun e s =>
 zy e (il true 3 3 x0 d s fun f s =>
 cp [(.d (.str [])),iN 0,eN] 3 f s fun g s =>
 zp true 3 g s fun h s =>
 cA P zcZ [h] s fun i s =>
 m1 1 [eN] i s fun j s =>
 zt 1 24 c j s fun l s =>
 bP .add d (iN 1) s fun m s =>
 b [l,m] s) (z1 Z c s)
theorem zmi : F1 Tryz.prog zik zmw := zo [.l [3, 8] [(5, 1),(9, 9)]] Tryz.func65 (by decide +kernel) (by kernel_rfl) fun {_ _ _ _} => cast (by kernel_rfl)
def zcX (P : Program) (x0 : AV) (σ : LO) (Z : ZT) : Prop :=
 zad false x0 σ fun a s =>
 zy a (z1 Z eN s) (zr false 2 0 (zV (rep [iN 0,iN 0] 0) []) s fun b s =>
 zt 2 16 b x0 s fun c s =>
 z1 Z c s)
theorem zcW : F1 Tryz.prog zbG zcX := zo [] Tryz.func66 (by decide +kernel) (by kernel_rfl) fun {_ _ _ _} => cast (by kernel_rfl)
def zdn (P : Program) (x0 : AV) (σ : LO) (Z : ZT) : Prop :=
 zad false x0 σ fun a s =>
 zy a (z1 Z eN s) (zr false 1 0 (zV (rep [(.d (.int .u8 0))] 0) []) s fun b s =>
 zt 1 1 b x0 s fun c s =>
 z1 Z c s)
theorem zdk : F1 Tryz.prog zbS zdn := zo [] Tryz.func67 (by decide +kernel) (by kernel_rfl) fun {_ _ _ _} => cast (by kernel_rfl)
def ztR (P : Program) (x0 x1 : AV) (σ : LO) (Z : ZT) : Prop :=
 zaX x0 σ fun a s =>
 zaX x1 s fun b s =>
 fl 0 a s fun c s =>
 fl 0 b s fun d s =>
 bP .neq c d s fun e s =>
 gFl e 1 a s fun f s =>
 gFl e 1 b s fun g s =>
 gF e (bP .neq f g s) s fun h s =>
 orC e h s fun i s =>
 gFl i 2 a s fun j s =>
 gFl i 2 b s fun l s =>
 gF i (bP .neq j l s) s fun m s =>
 orC i m s fun n s =>
 gFl n 3 a s fun o s =>
 gFl n 3 b s fun p s =>
 gF n (bP .neq o p s) s fun q s =>
 orC n q s fun r s =>
 gFl r 4 a s fun u s =>
 gFl r 4 b s fun w s =>
 gF r (bP .neq u w s) s fun y s =>
 orC r y s fun z s =>
 gFl z 5 a s fun A s =>
 gFl z 5 b s fun B s =>
 gF z (bP .neq A B s) s fun C s =>
 orC z C s fun D s =>
 gFl D 6 a s fun E s =>
 gFl D 6 b s fun F s =>
 gF D (bP .neq E F s) s fun G s =>
 orC D G s fun H s =>
 gF H (zi 7 a s) s fun I s =>
 gF H (zp true 2 I s) s fun J s =>
 gF H (zi 7 b s) s fun K s =>
 gF H (zp true 2 K s) s fun L s =>
 gF H (zbI .neq (.ints 2) J L s) s fun M s =>
 orC H M s fun N s =>
 gFl N 16 a s fun O s =>
 gFl N 16 b s fun Q s =>
 gF N (bP .neq O Q s) s fun R s =>
 orC N R s fun S s =>
 gFl S 17 a s fun T s =>
 gFl S 17 b s fun U s =>
 gF S (bP .neq T U s) s fun V s =>
 orC S V s fun W s =>
 gF W (zi 28 a s) s fun X s =>
 gF W (zp true 2 X s) s fun Y s =>
 gF W (zi 28 b s) s fun a0 s =>
 gF W (zp true 2 a0 s) s fun b0 s =>
 gF W (zbI .neq (.ints 2) Y b0 s) s fun c0 s =>
 orC W c0 s fun d0 s =>
 zy d0 (z1 Z bF s) (fl 9 a s fun e0 s =>
 fl 9 b s fun f0 s =>
 cA P zlA [e0,f0] s fun g0 s =>
 unC .not g0 s fun h0 s =>
 gF h0 (zi 10 a s) s fun i0 s =>
 gF h0 (zp true 3 i0 s) s fun j0 s =>
 gF h0 (zi 10 b s) s fun l0 s =>
 gF h0 (zp true 3 l0 s) s fun m0 s =>
 gF h0 (cA P zfH [j0,m0] s) s fun o0 s =>
 gF h0 (unC .not o0 s) s fun p0 s =>
 orC h0 p0 s fun q0 s =>
 gFl q0 14 a s fun r0 s =>
 gFl q0 14 b s fun u0 s =>
 gF q0 (cA P zfu [r0,u0] s) s fun w0 s =>
 gF q0 (unC .not w0 s) s fun y0 s =>
 orC q0 y0 s fun z0 s =>
 gFl z0 15 a s fun A0 s =>
 gF z0 (zab .toStr A0 s) s fun B0 s =>
 gFl z0 15 b s fun C0 s =>
 gF z0 (zab .toStr C0 s) s fun D0 s =>
 gF z0 (bP .neq B0 D0 s) s fun E0 s =>
 orC z0 E0 s fun F0 s =>
 gF F0 (zi 18 a s) s fun G0 s =>
 gF F0 (zp true 10 G0 s) s fun H0 s =>
 gF F0 (zi 18 b s) s fun I0 s =>
 gF F0 (zp true 10 I0 s) s fun J0 s =>
 gF F0 (cA P zgY [H0,J0] s) s fun K0 s =>
 gF F0 (unC .not K0 s) s fun L0 s =>
 orC F0 L0 s fun M0 s =>
 gFl M0 13 a s fun N0 s =>
 gF M0 (zap .sl N0 s) s fun O0 s =>
 gFl M0 13 b s fun Q0 s =>
 gF M0 (zap .sl Q0 s) s fun R0 s =>
 gF M0 (bP .neq O0 R0 s) s fun S0 s =>
 orC M0 S0 s fun T0 s =>
 zy T0 (z1 Z bF s) (zbf [(iN 0)] s fun v s U0 =>
 zaA v fun V0 v => fl 13 a s fun W0 s =>
 zap .sl W0 s fun X0 s =>
 bP .lss V0 X0 s fun Y0 s =>
 zy Y0 (fl 13 a s fun a1 s =>
 il true 8 8 a1 V0 s fun b1 s =>
 fl 13 b s fun c1 s =>
 il true 8 8 c1 V0 s fun d1 s =>
 cA P zqa [b1,d1] s fun e1 s =>
 unC .not e1 s fun f1 s =>
 zy f1 (z1 Z bF s) (bP .add V0 (iN 1) s fun g1 s =>
 U0 [g1] s)) (z1 Z bT s)))
theorem zte : F2 Tryz.prog zoC ztR := zo [.l [5] [(4, 1),(129, 19)], .d [(0, 12)] []] Tryz.func69 (by decide +kernel) (by kernel_rfl) fun {_ _ _ _ _} => cast (by kernel_rfl)
def zja (P : Program) (x0 x1 : AV) (σ : LO) (Z : ZT) : Prop :=
 zap .sl x1 σ fun a s =>
 bP .eql a (iN 0) s fun b s =>
 zy b (m1 1 [(.d (.int .u8 0))] (.d (.int .u8 2)) s fun c s =>
 cA P zbr [x0,c] s fun d s =>
 z1 Z d s) (zap .sl x1 s fun e s =>
 bP .eql e (iN 1) s fun f s =>
 zy f (il false 1 1 x1 (iN 0) s fun g s =>
 cA P zoI [x0,g] s fun h s =>
 z1 Z h s) (zap .sl x1 s fun i s =>
 cA P zjw [i] s fun j s =>
 zbp (.sl 1) x1 none (some j) none s fun l s =>
 cA P zdQ [x0,l] s fun m s =>
 zbp (.sl 1) x1 (some j) none none s fun n s =>
 cA P zdQ [x0,n] s fun o s =>
 cA P zoH [x0,m,o] s fun p s =>
 z1 Z p s))
theorem zeI : F2 Tryz.prog zdQ zja := zo [] Tryz.func70 (by decide +kernel) (by kernel_rfl) fun {_ _ _ _ _} => cast (by kernel_rfl)
def zhA (P : Program) (x0 x1 : AV) (σ : LO) (Z : ZT) : Prop :=
 cA P zeW [x0] σ fun a s =>
 cA P zbr [x1,a] s fun b s =>
 z1 Z b s
theorem zhl : F2 Tryz.prog zdp zhA := zo [] Tryz.func71 (by decide +kernel) (by kernel_rfl) fun {_ _ _ _ _} => cast (by kernel_rfl)
def zrN (P : Program) (x0 : AV) (σ : LO) (Z : ZT) : Prop :=
 zaX x0 σ fun a s =>
 zp true 7 a s fun b s =>
 cA P zju [b] s fun c s =>
 bP .neq c (iN 0) s fun d s =>
 zy d (z2 Z eN c s) (fl 0 a s fun e s =>
 zab (.int .u64) e s fun f s =>
 cA P zaY [eN,f] s fun g s =>
 fl 1 a s fun h s =>
 zab (.int .u64) h s fun i s =>
 cA P zaY [g,i] s fun j s =>
 zi 2 a s fun l s =>
 zp true 5 l s fun m s =>
 cA P zqN [j,m] s fun n s =>
 z2 Z n (iN 0) s)
theorem zrj : F1 Tryz.prog zjv zrN := zo [] Tryz.func72 (by decide +kernel) (by kernel_rfl) fun {_ _ _ _} => cast (by kernel_rfl)
def zjb (P : Program) (x0 x1 x2 : AV) (σ : LO) (Z : ZT) : Prop :=
 zP [iN 0,iN 0] σ fun a s =>
 bP .lss x1 (iN 0) s fun b s =>
 gFm b x1 s fun c s =>
 gF b (bP .geq c (iN 21) s) s fun d s =>
 orC b d s fun e s =>
 zy e (zC (zV [iN 0,iN 0] []) s fun f s =>
 zm 2 a f s fun _ s =>
 Z (zD (zag a s true 2) (zD (some (iN 20)) (some []))) s) (bP .lss x2 (iN 1) s fun h s =>
 zy h (zC (zV [iN 0,iN 0] []) s fun i s =>
 zm 2 a i s fun _ s =>
 Z (zD (zag a s true 2) (zD (some (iN 1)) (some []))) s) (zC (zV [iN 0,iN 0] [(0, 1,x1),(1, 1,x2)]) s fun l s =>
 cp [iN 0,iN 0] 2 l s fun m s =>
 (fun (n : LO → Prop) => zp true 2 m s fun q s =>
 cA P zeA [x0,q] s fun r s =>
 unC .not r s fun u s =>
 zy u (nfl 0 x0 s fun w s =>
 zp true 2 m s fun y s =>
 m1 2 [iN 0,iN 0] y s fun z s =>
 zt 2 16 eN w s fun A t =>
 zU m s t ∧ (zt 2 16 A z t fun B s =>
 zbg x0 s fun C s =>
 zi 0 C s fun D s =>
 zm 1 D B s fun _ s =>
 n s)) (n s))
 (fun  s => zp true 2 m s fun o s =>
 zm 2 a o s fun _ s =>
 Z (zD (zag a s true 2) (zD (some (iN 0)) (some []))) s)))
theorem ziL : F3 Tryz.prog zdR zjb := zo [.d [(0, 5),(6, 2),(5, 1),(8, 4)] [(5, [8])]] Tryz.func73 (by decide +kernel) (by kernel_rfl) fun {_ _ _ _ _ _} => cast (by kernel_rfl)
def S_r08_Key (P : Program) (x0 : AV) (σ : LO) (Z : ZT) : Prop :=
 bP .lss x0 (iN 0) σ fun a s =>
 gFm a x0 s fun b s =>
 gF a (bP .geq b (iN 8) s) s fun c s =>
 orC a c s fun d s =>
 zy d (z1 Z (iN (-1)) s) (bP .add (iN 13) x0 s fun e s =>
 z1 Z e s)
theorem e_r08_Key : F1 Tryz.prog zkA S_r08_Key := zo [] Tryz.func74 (by decide +kernel) (by kernel_rfl) fun {_ _ _ _} => cast (by kernel_rfl)
def zli (P : Program) (x0 x1 : AV) (σ : LO) (Z : ZT) : Prop :=
 cA P zgc [x0,x1] σ fun a s =>
 ze a 0 s fun b s =>
 ze a 1 s fun c s =>
 zy c (z1 Z b s) (nfl 0 x0 s fun d s =>
 zap .sl d s fun e s =>
 bP .geq e (iN 1048576) s fun f s =>
 zy f (z1 Z (iN 0) s) (nfl 0 x0 s fun g s =>
 zt 1 24 eN g s fun h s =>
 zt 1 1 eN x1 s fun i s =>
 m1 1 [eN] i s fun j s =>
 zt 1 24 h j s fun l s =>
 zbg x0 s fun m s =>
 zi 0 m s fun n s =>
 zm 1 n l s fun _ s =>
 nfl 0 x0 s fun p s =>
 zap .sl p s fun q s =>
 z1 Z q s))
theorem zkQ : F2 Tryz.prog zbr zli := zo [] Tryz.func75 (by decide +kernel) (by kernel_rfl) fun {_ _ _ _ _} => cast (by kernel_rfl)
def zrK (P : Program) (x0 : AV) (σ : LO) (Z : ZT) : Prop :=
 zaX x0 σ fun a s =>
 fl 0 a s fun b s =>
 cA P zgZ [b] s fun c s =>
 unC .not c s fun d s =>
 gFl d 1 a s fun e s =>
 gF d (cA P zgZ [e] s) s fun f s =>
 gF d (unC .not f s) s fun g s =>
 orC d g s fun h s =>
 gFl h 2 a s fun i s =>
 gF h (cA P zgZ [i] s) s fun j s =>
 gF h (unC .not j s) s fun l s =>
 orC h l s fun m s =>
 gFl m 3 a s fun n s =>
 gF m (cA P zgZ [n] s) s fun o s =>
 gF m (unC .not o s) s fun p s =>
 orC m p s fun q s =>
 gFl q 4 a s fun r s =>
 gF q (cA P zgZ [r] s) s fun u s =>
 gF q (unC .not u s) s fun w s =>
 orC q w s fun y s =>
 zy y (z1 Z (iN 90) s) (z1 Z (iN 0) s)
theorem zrg : F1 Tryz.prog zjs zrK := zo [] Tryz.func76 (by decide +kernel) (by kernel_rfl) fun {_ _ _ _} => cast (by kernel_rfl)
def zpM (P : Program) (x0 x1 : AV) (σ : LO) (Z : ZT) : Prop :=
 cA P zes [x1] σ fun a s =>
 bP .neq a (iN 0) s fun b s =>
 zy b (z2 Z (iN 0) a s) (cA P zih [eN,x1] s fun c s =>
 cA P zbr [x0,c] s fun d s =>
 bP .eql d (iN 0) s fun e s =>
 zy e (z2 Z (iN 0) (iN 6) s) (z2 Z d (iN 0) s))
theorem zpy : F2 Tryz.prog zkB zpM := zo [] Tryz.func77 (by decide +kernel) (by kernel_rfl) fun {_ _ _ _ _} => cast (by kernel_rfl)
def zia (P : Program) (x0 x1 : AV) (σ : LO) (Z : ZT) : Prop :=
 zaX x1 σ fun a s =>
 zP [iN 0,iN 0] s fun b s =>
 fl 0 a s fun c s =>
 bP .lss c (iN 0) s fun d s =>
 gFl d 0 a s fun e s =>
 gF d (bP .geq e (iN 8) s) s fun f s =>
 orC d f s fun g s =>
 gFl g 1 a s fun h s =>
 gF g (bP .lss h (iN 1) s) s fun i s =>
 orC g i s fun j s =>
 gFl j 1 a s fun l s =>
 gF j (bP .gtr l (iN 9007199254740992) s) s fun m s =>
 orC j m s fun n s =>
 zy n (cA P zdx [(iN 1)] s fun o s =>
 zm 2 b o s fun _ s =>
 Z (zD (zag b s true 2) (zD (some eN) (zD (some bF) (some [])))) s) (zi 0 a s fun q s =>
 zp false 1 q s fun r s =>
 zbg x0 s fun u s =>
 zi 1 u s fun w s =>
 zB (some 8) 3 w r s fun y s =>
 zp true 3 y s fun z s =>
 zP [iN 0,iN 0,iN 0] s fun A t =>
 zU q s t ∧ (zU y s t ∧ (zm 3 A z t fun _ s =>
 fl 1 a s fun C s =>
 fl 0 A s fun D s =>
 bP .eql C D s fun E s =>
 zy E (zi 1 A s fun F s =>
 zp true 2 F s fun G s =>
 zm 2 b G s fun _ s =>
 Z (zD (zag b s true 2) (zD (some eN) (zD (some bF) (some [])))) s) (fl 1 a s fun I s =>
 fl 0 A s fun J s =>
 bP .lss I J s fun K s =>
 zy K (cA P zdx [(iN 7)] s fun L s =>
 zm 2 b L s fun _ s =>
 Z (zD (zag b s true 2) (zD (some eN) (zD (some bF) (some [])))) s) (zi 2 a s fun N s =>
 zp true 5 N s fun O s =>
 cA P zfw [x0,O] s fun Q s =>
 ze Q 0 s fun R s =>
 ze Q 1 s fun S s =>
 cp [iN 0,iN 0] 2 R s fun T s =>
 fl 0 a s fun U s =>
 fl 1 a s fun V s =>
 zp true 2 T s fun W s =>
 zC (zV [iN 0,iN 0,iN 0] [(0, 1,V),(1, 2,W)]) s fun X s =>
 zbg x0 s fun Y s =>
 zi 1 Y s fun a0 s =>
 zB (some 8) 3 a0 U s fun b0 s =>
 zm 3 b0 X s fun _ s =>
 zp true 2 T s fun d0 s =>
 zm 2 b d0 s fun _ s =>
 Z (zD (zag b s true 2) (zD (some S) (zD (some bT) (some [])))) s)))))
theorem zhS : F2 Tryz.prog zeX zia := zo [.d [(0, 9)] [(7, [30, 34])], .d [(0, 11)] []] Tryz.func78 (by decide +kernel) (by kernel_rfl) fun {_ _ _ _ _} => cast (by kernel_rfl)
def S_r11_may (P : Program) (x0 x1 x2 x3 : AV) (σ : LO) (Z : ZT) : Prop :=
 cA P ziv [x0] σ fun a s =>
 gTm a x1 s fun b s =>
 gT a (cA P ziv [b] s) s fun c s =>
 anC a c s fun d s =>
 gTm d x2 s fun e s =>
 gT d (cA P ziv [e] s) s fun f s =>
 anC d f s fun g s =>
 gTm g x3 s fun h s =>
 gT g (cA P ziv [h] s) s fun i s =>
 anC g i s fun j s =>
 z1 Z j s
theorem e_r11_may : F4 Tryz.prog zqM S_r11_may := zo [] Tryz.func79 (by decide +kernel) (by kernel_rfl) fun {_ _ _ _ _ _ _} => cast (by kernel_rfl)
def ztP (P : Program) (x0 x1 x2 x3 : AV) (σ : LO) (Z : ZT) : Prop :=
 zP [iN 0,iN 0] σ fun a s =>
 cA P zbr [x0,x3] s fun b s =>
 bP .eql b (iN 0) s fun c s =>
 zy c (zC (zV [iN 0,iN 0] []) s fun d s =>
 zm 2 a d s fun _ s =>
 Z (zD (zag a s true 2) (zD (some (iN 6)) (some []))) s) (cA P zdR [x1,x2,b] s fun f s =>
 ze f 0 s fun g s =>
 ze f 1 s fun h s =>
 zm 2 a g s fun _ s =>
 Z (zD (zag a s true 2) (zD (some h) (some []))) s)
theorem ztc : F4 Tryz.prog zoB ztP := zo [] Tryz.func80 (by decide +kernel) (by kernel_rfl) fun {_ _ _ _ _ _ _} => cast (by kernel_rfl)
def zld (P : Program) (x0 x1 x2 x3 : AV) (σ : LO) (Z : ZT) : Prop :=
 m1 1 [(.d (.int .u8 0))] (.d (.int .u8 4)) σ fun a s =>
 cA P ziu [a,x0] s fun b s =>
 cA P ziu [b,x1] s fun c s =>
 cA P ziu [c,x2] s fun d s =>
 cA P ziu [d,x3] s fun e s =>
 z1 Z e s
theorem zkL : F4 Tryz.prog zgW zld := zo [] Tryz.func81 (by decide +kernel) (by kernel_rfl) fun {_ _ _ _ _ _ _} => cast (by kernel_rfl)
def zrR (P : Program) (x0 : AV) (σ : LO) (Z : ZT) : Prop :=
 bP .lss x0 (iN 2) σ fun a s =>
 zy a (z1 Z (iN 0) s) (zbf [(iN 1)] s fun v s b =>
 zaA v fun c v => bP .sub x0 c s fun d s =>
 bP .lss c d s fun e s =>
 zy e (bP .mul c (iN 2) s fun f s =>
 b [f] s) (z1 Z c s))
theorem zrn : F1 Tryz.prog zjw zrR := zo [.l [3] [(6, 7)]] Tryz.func82 (by decide +kernel) (by kernel_rfl) fun {_ _ _ _} => cast (by kernel_rfl)
def zpT (P : Program) (x0 : AV) (σ : LO) (Z : ZT) : Prop :=
 zap .sl x0 σ fun a s =>
 bP .gtr a (iN 1048576) s fun b s =>
 zy b (z2 Z (.d .nilp) (iN 3) s) (cA P zet [] s fun c s =>
 zap .sl x0 s fun d s =>
 zbf [(iN 0)] s fun v s e =>
 zaA v fun f v => bP .lss f d s fun g s =>
 zy g (il false 1 1 x0 f s fun h s =>
 cA P zbc [c,h] s fun i s =>
 ze i 0 s fun _ s =>
 ze i 1 s fun l s =>
 zy l (z2 Z (.d .nilp) (iN 5) s) (cA P zbJ [c,h] s fun _ s =>
 bP .add f (iN 1) s fun n s =>
 e [n] s)) (z2 Z c (iN 0) s))
theorem zpF : F1 Tryz.prog zkE zpT := zo [.l [15] [(2, 2),(6, 3),(16, 14)]] Tryz.func83 (by decide +kernel) (by kernel_rfl) fun {_ _ _ _} => cast (by kernel_rfl)
def zfY (P : Program) (x0 x1 : AV) (σ : LO) (Z : ZT) : Prop :=
 zaX x1 σ fun a s =>
 fl 0 a s fun b s =>
 cA P zdX [x0,b] s fun _ s =>
 fl 1 a s fun d s =>
 cA P zbh [x0,d] s fun _ s =>
 fl 2 a s fun f s =>
 zap .sl f s fun g s =>
 cA P zbk [x0,g,(iN 64)] s fun _ s =>
 fl 3 a s fun i s =>
 zap .sl i s fun j s =>
 cA P zbk [x0,j,(iN 64)] s fun _ s =>
 fl 3 a s fun m s =>
 zap .sl m s fun n s =>
 zbf [(iN 0)] s fun v s o =>
 zaA v fun p v => bP .lss p n s fun q s =>
 zy q (il true 5 5 m p s fun r s =>
 cp [iN 0,iN 0,iN 0,iN 0,iN 0] 5 r s fun u s =>
 fl 0 u s fun w s =>
 cA P zeB [x0,w] s fun _ s =>
 fl 1 u s fun z s =>
 fl 2 u s fun A s =>
 fl 3 u s fun B s =>
 fl 4 u s fun C s =>
 zr false 1 4 (zV (rep [iN 0] 4) [(0, 1,z),(1, 1,A),(2, 1,B),(3, 1,C)]) s fun D s =>
 zap .sl D s fun E s =>
 zbf [(iN 0)] s fun v s F =>
 zaA v fun G v => bP .lss G E s fun H s =>
 zy H (il false 1 1 D G s fun I s =>
 cA P zbh [x0,I] s fun _ s =>
 bP .add G (iN 1) s fun K s =>
 F [K] s) (bP .add p (iN 1) s fun L s =>
 o [L] s)) (fl 4 a s fun M s =>
 cA P zbh [x0,M] s fun _ s =>
 fl 5 a s fun O s =>
 cA P zbk [x0,O,(iN 16)] s fun _ s =>
 fl 4 a s fun R s =>
 fl 5 a s fun S s =>
 bP .sub S (iN 1) s fun T s =>
 cA P zbW [x0,R,(iN 0),T] s fun _ s =>
 fl 6 a s fun V s =>
 zap .sl V s fun W s =>
 cA P zbk [x0,W,(iN 8)] s fun _ s =>
 fl 6 a s fun Y s =>
 zap .sl Y s fun a0 s =>
 zbf [(iN 0)] s fun v s b0 =>
 zaA v fun c0 v => bP .lss c0 a0 s fun d0 s =>
 zy d0 (il false 1 1 Y c0 s fun e0 s =>
 cA P zbh [x0,e0] s fun _ s =>
 bP .add c0 (iN 1) s fun g0 s =>
 b0 [g0] s) (zi 7 a s fun h0 s =>
 zp true 3 h0 s fun i0 s =>
 cA P zdY [x0,i0] s fun _ s =>
 Z (some []) s))
theorem zfS : F2 Tryz.prog zdK zfY := zo [.l [31] [(5, 1),(7, 1),(32, 26)], .l [49] [(7, 1),(50, 7)], .l [81] [(9, 1),(82, 7)]] Tryz.func84 (by decide +kernel) (by kernel_rfl) fun {_ _ _ _ _} => cast (by kernel_rfl)
def zog (P : Program) (x0 x1 : AV) (σ : LO) (Z : ZT) : Prop :=
 cA P zkG [x0] σ fun a s =>
 unC .not a s fun b s =>
 zy b (z1 Z bF s) (zap .sl x1 s fun c s =>
 zbf [(iN 0)] s fun v s d =>
 zaA v fun e v => bP .lss e c s fun f s =>
 zy f ((fun (g : LO → Prop) => il true 5 5 x1 e s fun i s =>
 zP [iN 0,iN 0,iN 0,iN 0,iN 0] s fun j s =>
 zm 5 j i s fun _ s =>
 zp true 5 j s fun m s =>
 cA P zgI [m] s fun n s =>
 bP .neq n (iN 0) s fun o s =>
 zy o (z1 Z bF s) (bP .eql e (iN 0) s fun p s =>
 zy p (g s) (bP .sub e (iN 1) s fun q s =>
 il true 5 5 x1 q s fun r s =>
 cA P zgJ [r] s fun u s =>
 ze u 0 s fun w s =>
 ze u 1 s fun _ s =>
 cA P zbc [x0,w] s fun z s =>
 ze z 0 s fun A s =>
 ze z 1 s fun B s =>
 unC .not B s fun C s =>
 gFl C 1 j s fun D s =>
 gFm C A s fun E s =>
 gF C (bP .neq D E s) s fun F s =>
 orC C F s fun G s =>
 gFl G 0 j s fun H s =>
 gF G (bP .sub H (iN 1) s) s fun I s =>
 gFm G x1 s fun J s =>
 gFm G e s fun K s =>
 gF G (bP .sub K (iN 1) s) s fun L s =>
 gF G (zB none 5 J L s) s fun M s =>
 gFl G 0 M s fun N s =>
 gF G (bP .neq I N s) s fun O s =>
 orC G O s fun Q s =>
 zy Q (z1 Z bF s) (g s))))
 (fun  s => bP .add e (iN 1) s fun h s =>
 d [h] s)) (z1 Z bT s))
theorem znF : F2 Tryz.prog zjC zog := zo [.l [16] [(4, 7),(17, 45)], .d [(0, 20)] []] Tryz.func85 (by decide +kernel) (by kernel_rfl) fun {_ _ _ _ _} => cast (by kernel_rfl)
def zoh (P : Program) (x0 : AV) (σ : LO) (Z : ZT) : Prop :=
 zaX x0 σ fun a s =>
 zp true 5 a s fun b s =>
 cA P zgI [b] s fun c s =>
 bP .neq c (iN 0) s fun d s =>
 zy d (z2 Z eN c s) (m1 1 [(.d (.int .u8 0))] (.d (.int .u8 3)) s fun e s =>
 fl 0 a s fun f s =>
 fl 1 a s fun g s =>
 fl 2 a s fun h s =>
 fl 3 a s fun i s =>
 fl 4 a s fun j s =>
 zr false 1 5 (zV (rep [iN 0] 5) [(0, 1,f),(1, 1,g),(2, 1,h),(3, 1,i),(4, 1,j)]) s fun l s =>
 zap .sl l s fun m s =>
 zbf [e,(iN 0)] s fun v s n =>
 zaA v fun o v => zaA v fun p v => bP .lss p m s fun q s =>
 zy q (il false 1 1 l p s fun r s =>
 zab (.int .u64) r s fun u s =>
 cA P zci [o,u] s fun w s =>
 bP .add p (iN 1) s fun y s =>
 n [w,y] s) (z2 Z o (iN 0) s))
theorem znG : F1 Tryz.prog zgJ zoh := zo [.l [5, 26] [(7, 1),(27, 8)]] Tryz.func86 (by decide +kernel) (by kernel_rfl) fun {_ _ _ _} => cast (by kernel_rfl)
def zie (P : Program) (x0 x1 : AV) (σ : LO) (Z : ZT) : Prop :=
 cA P zbX [x0] σ fun a s =>
 zy a (z2 Z (iN 0) bF s) (nfl 1 x0 s fun b s =>
 zab .toStr x1 s fun c s =>
 zau .str true (iN 0) b c s fun d s =>
 ze d 0 s fun e s =>
 ze d 1 s fun f s =>
 z2 Z e f s)
theorem zhW : F2 Tryz.prog zbc zie := zo [.d [(0, 12)] []] Tryz.func87 (by decide +kernel) (by kernel_rfl) fun {_ _ _ _ _} => cast (by kernel_rfl)
def zrU (P : Program) (x0 : AV) (σ : LO) (Z : ZT) : Prop :=
 cA P zee [x0] σ fun a s =>
 bP .neq a (iN 0) s fun b s =>
 zy b (z2 Z (.d .nilp) a s) (zaj s fun c s =>
 zC (zV [iN 0,iN 0,iN 0,eN,(.d .nilmap),eN] [(0, 1,x0),(4, 1,c)]) s fun d s =>
 zaX d s fun e s =>
 z2 Z e (iN 0) s)
theorem zrq : F1 Tryz.prog zmF zrU := zo [] Tryz.func88 (by decide +kernel) (by kernel_rfl) fun {_ _ _ _} => cast (by kernel_rfl)
def zfo (P : Program) (x0 x1 : AV) (σ : LO) (Z : ZT) : Prop :=
 zaX x1 σ fun a s =>
 zp true 3 a s fun b s =>
 cA P zkD [b] s fun c s =>
 zy c (z1 Z bT s) (fl 2 a s fun d s =>
 zap .sl d s fun e s =>
 zbf [(iN 0)] s fun v s f =>
 zaA v fun g v => bP .lss g e s fun h s =>
 zy h (il true 2 2 d g s fun i s =>
 zP [iN 0,iN 0] s fun j s =>
 zm 2 j i s fun _ s =>
 fl 0 a s fun m s =>
 fl 1 a s fun n s =>
 fl 0 j s fun o s =>
 cA P zeZ [x0,m,n,o] s fun p s =>
 unC .not p s fun q s =>
 gFm q g s fun r s =>
 gF q (bP .gtr r (iN 0) s) s fun u s =>
 gFm q u s fun w s =>
 gTl w 0 j s fun y s =>
 gTl w 2 a s fun z s =>
 gTm w g s fun A s =>
 gT w (bP .sub A (iN 1) s) s fun B s =>
 gT w (zB none 2 z B s) s fun C s =>
 gTl w 0 C s fun D s =>
 gT w (bP .leq y D s) s fun E s =>
 gF q (anC w E s) s fun F s =>
 orC q F s fun G s =>
 zy G (z1 Z bF s) (bP .add g (iN 1) s fun H s =>
 f [H] s)) (zi 2 a s fun I s =>
 zp false 1 I s fun J s =>
 zap .sl J s fun K s =>
 nfl 0 x0 s fun L s =>
 cA P zkC [L] s fun M t =>
 zU I s t ∧ (bP .geq K M t fun N s =>
 z1 Z N s)))
theorem zfm : F2 Tryz.prog zdC zfo := zo [.l [12] [(4, 3),(13, 30)], .d [(0, 25)] [], .d [(0, 10)] [(7, [43])]] Tryz.func89 (by decide +kernel) (by kernel_rfl) fun {_ _ _ _ _} => cast (by kernel_rfl)
def zbU (P : Program) (x0 x1 : AV) (σ : LO) (Z : ZT) : Prop :=
 cA P zbq [x0,x1] σ fun a s =>
 bP .geq a (iN 0) s fun b s =>
 z1 Z b s
theorem zbT : F2 Tryz.prog zaJ zbU := zo [] Tryz.func90 (by decide +kernel) (by kernel_rfl) fun {_ _ _ _ _} => cast (by kernel_rfl)
def zlk (P : Program) (x0 x1 x2 x3 : AV) (σ : LO) (Z : ZT) : Prop :=
 zaX x0 σ fun a s =>
 zp false 1 x1 s fun b s =>
 zp false 1 x2 s fun c s =>
 zp true 2 a s fun d s =>
 fl 0 a s fun e s =>
 fl 0 x3 s fun f s =>
 fl 1 x3 s fun g s =>
 cA P zgg [b,c,d,e,(iN 6),(iN 0),f,g] s fun h s =>
 unC .not h s fun i s =>
 z1 Z i s
theorem zkS : F4 Tryz.prog zeY zlk := zo [] Tryz.func91 (by decide +kernel) (by kernel_rfl) fun {_ _ _ _ _ _ _} => cast (by kernel_rfl)
def zkj (P : Program) (x0 x1 x2 x3 x4 x5 x6 x7 : AV) (σ : LO) (Z : ZT) : Prop :=
 zaX x2 σ fun a s =>
 cA P zmH [x0,x1] s fun b s =>
 gTm b x4 s fun c s =>
 gTm b x5 s fun d s =>
 gTm b x6 s fun e s =>
 gTm b x7 s fun f s =>
 gT b (cA P zoO [c,d,e,f] s) s fun g s =>
 anC b g s fun h s =>
 gTm h x0 s fun i s =>
 gTm h x1 s fun j s =>
 gT h (zp true 2 a s) s fun l s =>
 gTm h x3 s fun m s =>
 gTm h x4 s fun n s =>
 gTm h x5 s fun o s =>
 gTm h x6 s fun p s =>
 gTm h x7 s fun q s =>
 gT h (cA P zgf [n,o,p,q] s) s fun r t =>
 zU a s t ∧ (gT h (cA P zjD [i,j,l,m,r] t) t fun u s =>
 anC h u s fun w s =>
 z1 Z w s)
theorem zjW : F8 Tryz.prog zgg zkj := zo [.d [(0, 23)] [(19, [10])]] Tryz.func92 (by decide +kernel) (by kernel_rfl) fun {_ _ _ _ _ _ _ _ _ _ _} => cast (by kernel_rfl)
def zmv (P : Program) (x0 x1 : AV) (σ : LO) (Z : ZT) : Prop :=
 cA P zkF [x1] σ fun a s =>
 ze a 0 s fun b s =>
 ze a 1 s fun c s =>
 cp [(.d (.int .u8 0)),(.d (.int .u8 0)),(.d (.int .u8 0)),(.d (.int .u8 0)),(.d (.int .u8 0)),(.d (.int .u8 0)),(.d (.int .u8 0)),(.d (.int .u8 0)),(.d (.int .u8 0)),(.d (.int .u8 0))] 10 b s fun d s =>
 zbp (.arr 10 1) d none (some c) none s fun e s =>
 cA P zdo [x0] s fun f s =>
 zt 1 1 f e s fun g s =>
 z1 Z g s
theorem zmh : F2 Tryz.prog zci zmv := zo [.d [(0, 1),(2, 2),(1, 1),(4, 2)] []] Tryz.func93 (by decide +kernel) (by kernel_rfl) fun {_ _ _ _ _} => cast (by kernel_rfl)
end Go.Proofs.YtncpaekiidpchaaGreat
