/- The conditions of each function, its slots as variables, and that the logic's conditions are these. Printed by program. -/
import Derived.Test.YtfjommppajkpoaaGreatNm
import Derived.KernelRfl
set_option linter.all false
set_option maxRecDepth 100000
namespace Go.Proofs.YtfjommppajkpoaaGreat
open Go.AW
def zpP (P : Program) (x0 x1 : AV) (σ : LO) (Z : ZT) : Prop :=
 bP .lss x0 (iN 0) σ fun a s =>
 gFm a x0 s fun b s =>
 gFm a x1 s fun c s =>
 gF a (bP .geq b c s) s fun d s =>
 orC a d s fun e s =>
 zn e (z1 Z (iN 0) s) (zaT [x0,x1,(iN 0)] s fun v s f =>
 zar v fun g v => zar v fun h v => zar v fun i v => bP .gtr h (iN 1) s fun j s =>
 zn j (cA P zhn [h] s fun l s =>
 (fun (m : AV → AV → LO → Prop) => bP .lss g l s fun q s =>
 zn q (m g l s) (bP .sub g l s fun r s =>
 bP .sub h l s fun u s =>
 m r u s))
 (fun n o s => bP .add i (iN 1) s fun p s =>
 f [n,o,p] s)) (z1 Z i s))
theorem e_r05_Length : F2 Tryz.prog zkH zpP := zj [.l [0, 1, 5] [(6, 1),(14, 16)]] Tryz.func84
def zso (P : Program) (x0 x1 x2 x3 x4 : AV) (σ : LO) (Z : ZT) : Prop :=
 bP .eql x3 (iN 1) σ fun a s =>
 zn a (cA P zlz [x1] s fun b s =>
 cA P zbb [x0,b] s fun c s =>
 ze c 0 s fun d s =>
 ze c 1 s fun e s =>
 z2 Z d e s) (cA P zhn [x3] s fun f s =>
 zau .sl x4 s fun g s =>
 bP .sub g (iN 1) s fun h s =>
 il false 1 1 x4 h s fun i s =>
 zau .sl x4 s fun j s =>
 bP .sub j (iN 1) s fun l s =>
 zco (.sl 1) x4 none (some l) none s fun m s =>
 bP .lss x2 f s fun n s =>
 zn n (cA P zhm [x0,x1,x2,f,m] s fun o s =>
 ze o 0 s fun p s =>
 ze o 1 s fun q s =>
 unC .not q s fun r s =>
 zn r (z2 Z (iN 0) bF s) (cA P ziz [p,i] s fun u s =>
 cA P zbb [x0,u] s fun w s =>
 ze w 0 s fun y s =>
 ze w 1 s fun z s =>
 z2 Z y z s)) (bP .sub x2 f s fun A s =>
 bP .sub x3 f s fun B s =>
 cA P zhm [x0,x1,A,B,m] s fun C s =>
 ze C 0 s fun D s =>
 ze C 1 s fun E s =>
 unC .not E s fun F s =>
 zn F (z2 Z (iN 0) bF s) (cA P ziz [i,D] s fun G s =>
 cA P zbb [x0,G] s fun H s =>
 ze H 0 s fun I s =>
 ze H 1 s fun J s =>
 z2 Z I J s)))
theorem e_r05_comes : F5 Tryz.prog zhm zso := zj [] Tryz.func85
def ziU (P : Program) (x0 x1 : AV) (σ : LO) (Z : ZT) : Prop :=
 zau .sl x1 σ fun a s =>
 bP .eql a (iN 0) s fun b s =>
 zn b (m1 1 [(.d (.int .u8 0))] (.d (.int .u8 2)) s fun c s =>
 cA P zaZ [x0,c] s fun d s =>
 z1 Z d s) (zau .sl x1 s fun e s =>
 bP .eql e (iN 1) s fun f s =>
 zn f (il false 1 1 x1 (iN 0) s fun g s =>
 cA P zoK [x0,g] s fun h s =>
 z1 Z h s) (zau .sl x1 s fun i s =>
 cA P zhn [i] s fun j s =>
 zco (.sl 1) x1 none (some j) none s fun l s =>
 cA P zfu [x0,l] s fun m s =>
 zco (.sl 1) x1 (some j) none none s fun n s =>
 cA P zfu [x0,n] s fun o s =>
 cA P zoJ [x0,m,o] s fun p s =>
 z1 Z p s))
theorem zlE : F2 Tryz.prog zfu ziU := zj [] Tryz.func86
def zhC (P : Program) (x0 x1 : AV) (σ : LO) (Z : ZT) : Prop :=
 cA P zeO [x0] σ fun a s =>
 cA P zaZ [x1,a] s fun b s =>
 z1 Z b s
theorem zmN : F2 Tryz.prog zcT zhC := zj [] Tryz.func87
def zsk (P : Program) (x0 : AV) (σ : LO) (Z : ZT) : Prop :=
 zaJ x0 σ fun a s =>
 zp true 7 a s fun b s =>
 cA P zjn [b] s fun c s =>
 bP .neq c (iN 0) s fun d s =>
 zn d (z2 Z eN c s) (fl 0 a s fun e s =>
 zag (.int .u64) e s fun f s =>
 cA P zaC [eN,f] s fun g s =>
 fl 1 a s fun h s =>
 zag (.int .u64) h s fun i s =>
 cA P zaC [g,i] s fun j s =>
 zl 2 a s fun l s =>
 zp true 5 l s fun m s =>
 cA P zqZ [j,m] s fun n s =>
 z2 Z n (iN 0) s)
theorem e_r08_Bytes : F1 Tryz.prog zjo zsk := zj [] Tryz.func88
def ziV (P : Program) (x0 x1 x2 : AV) (σ : LO) (Z : ZT) : Prop :=
 zW [iN 0,iN 0] σ fun a s =>
 bP .lss x1 (iN 0) s fun b s =>
 gFm b x1 s fun c s =>
 gF b (bP .geq c (iN 21) s) s fun d s =>
 orC b d s fun e s =>
 zn e (zC (zP [iN 0,iN 0] []) s fun f s =>
 zo 2 a f s fun _ s =>
 Z (zB (zal a s true 2) (zB (some (iN 20)) (some []))) s) (bP .lss x2 (iN 1) s fun h s =>
 zn h (zC (zP [iN 0,iN 0] []) s fun i s =>
 zo 2 a i s fun _ s =>
 Z (zB (zal a s true 2) (zB (some (iN 1)) (some []))) s) (zC (zP [iN 0,iN 0] [(0, 1,x1),(1, 1,x2)]) s fun l s =>
 cp [iN 0,iN 0] 2 l s fun m s =>
 (fun (n : LO → Prop) => zp true 2 m s fun q s =>
 cA P zcU [x0,q] s fun r s =>
 unC .not r s fun u s =>
 zn u (nfl 0 x0 s fun w s =>
 zp true 2 m s fun y s =>
 m1 2 [iN 0,iN 0] y s fun z s =>
 zy 2 16 eN w s fun A t =>
 zx m s t ∧ (zy 2 16 A z t fun B s =>
 zbF x0 s fun C s =>
 zl 0 C s fun D s =>
 zo 1 D B s fun _ s =>
 n s)) (n s))
 (fun  s => zp true 2 m s fun o s =>
 zo 2 a o s fun _ s =>
 Z (zB (zal a s true 2) (zB (some (iN 0)) (some []))) s)))
theorem ziJ : F3 Tryz.prog zdK ziV := zj [.d [(0, 5),(6, 2),(5, 1),(8, 4)] [(5, [8])]] Tryz.func89
def S_r08_Key (P : Program) (x0 : AV) (σ : LO) (Z : ZT) : Prop :=
 bP .lss x0 (iN 0) σ fun a s =>
 gFm a x0 s fun b s =>
 gF a (bP .geq b (iN 8) s) s fun c s =>
 orC a c s fun d s =>
 zn d (z1 Z (iN (-1)) s) (bP .add (iN 13) x0 s fun e s =>
 z1 Z e s)
theorem e_r08_Key : F1 Tryz.prog zkE S_r08_Key := zj [] Tryz.func90
def zli (P : Program) (x0 x1 : AV) (σ : LO) (Z : ZT) : Prop :=
 cA P zbb [x0,x1] σ fun a s =>
 ze a 0 s fun b s =>
 ze a 1 s fun c s =>
 zn c (z1 Z b s) (nfl 0 x0 s fun d s =>
 zau .sl d s fun e s =>
 bP .geq e (iN 1048576) s fun f s =>
 zn f (z1 Z (iN 0) s) (nfl 0 x0 s fun g s =>
 zy 1 24 eN g s fun h s =>
 zy 1 1 eN x1 s fun i s =>
 m1 1 [eN] i s fun j s =>
 zy 1 24 h j s fun l s =>
 zbF x0 s fun m s =>
 zl 0 m s fun n s =>
 zo 1 n l s fun _ s =>
 nfl 0 x0 s fun p s =>
 zau .sl p s fun q s =>
 z1 Z q s))
theorem zkS : F2 Tryz.prog zaZ zli := zj [] Tryz.func91
def zpM (P : Program) (x0 x1 : AV) (σ : LO) (Z : ZT) : Prop :=
 cA P zem [x1] σ fun a s =>
 bP .neq a (iN 0) s fun b s =>
 zn b (z2 Z (iN 0) a s) (cA P zid [eN,x1] s fun c s =>
 cA P zaZ [x0,c] s fun d s =>
 bP .eql d (iN 0) s fun e s =>
 zn e (z2 Z (iN 0) (iN 6) s) (z2 Z d (iN 0) s))
theorem e_r08_Digest : F2 Tryz.prog zkF zpM := zj [] Tryz.func92
def zhW (P : Program) (x0 x1 : AV) (σ : LO) (Z : ZT) : Prop :=
 zaJ x1 σ fun a s =>
 zW [iN 0,iN 0] s fun b s =>
 fl 0 a s fun c s =>
 bP .lss c (iN 0) s fun d s =>
 gFl d 0 a s fun e s =>
 gF d (bP .geq e (iN 8) s) s fun f s =>
 orC d f s fun g s =>
 gFl g 1 a s fun h s =>
 gF g (bP .lss h (iN 1) s) s fun i s =>
 orC g i s fun j s =>
 gFl j 1 a s fun l s =>
 gF j (bP .gtr l (iN 9007199254740992) s) s fun m s =>
 orC j m s fun n s =>
 zn n (cA P zde [(iN 1)] s fun o s =>
 zo 2 b o s fun _ s =>
 Z (zB (zal b s true 2) (zB (some eN) (zB (some bF) (some [])))) s) (zl 0 a s fun q s =>
 zp false 1 q s fun r s =>
 zbF x0 s fun u s =>
 zl 1 u s fun w s =>
 zF (some 8) 3 w r s fun y s =>
 zp true 3 y s fun z s =>
 zW [iN 0,iN 0,iN 0] s fun A t =>
 zx q s t ∧ (zx y s t ∧ (zo 3 A z t fun _ s =>
 fl 1 a s fun C s =>
 fl 0 A s fun D s =>
 bP .eql C D s fun E s =>
 zn E (zl 1 A s fun F s =>
 zp true 2 F s fun G s =>
 zo 2 b G s fun _ s =>
 Z (zB (zal b s true 2) (zB (some eN) (zB (some bF) (some [])))) s) (fl 1 a s fun I s =>
 fl 0 A s fun J s =>
 bP .lss I J s fun K s =>
 zn K (cA P zde [(iN 7)] s fun L s =>
 zo 2 b L s fun _ s =>
 Z (zB (zal b s true 2) (zB (some eN) (zB (some bF) (some [])))) s) (zl 2 a s fun N s =>
 zp true 5 N s fun O s =>
 cA P zft [x0,O] s fun Q s =>
 ze Q 0 s fun R s =>
 ze Q 1 s fun S s =>
 cp [iN 0,iN 0] 2 R s fun T s =>
 fl 0 a s fun U s =>
 fl 1 a s fun V s =>
 zp true 2 T s fun W s =>
 zC (zP [iN 0,iN 0,iN 0] [(0, 1,V),(1, 2,W)]) s fun X s =>
 zbF x0 s fun Y s =>
 zl 1 Y s fun a0 s =>
 zF (some 8) 3 a0 U s fun b0 s =>
 zo 3 b0 X s fun _ s =>
 zp true 2 T s fun d0 s =>
 zo 2 b d0 s fun _ s =>
 Z (zB (zal b s true 2) (zB (some S) (zB (some bT) (some [])))) s)))))
theorem zhR : F2 Tryz.prog zeP zhW := zj [.d [(0, 9)] [(7, [30, 34])], .d [(0, 11)] []] Tryz.func93
def zpK (P : Program) (x0 : AV) (σ : LO) (Z : ZT) : Prop :=
 zaT [eN,(iN 0)] σ fun v s a =>
 zar v fun b v => zar v fun c v => zau .sl x0 s fun d s =>
 bP .lss c d s fun e s =>
 zn e (il true 3 3 x0 c s fun f s =>
 cA P zdJ [f] s fun g s =>
 m1 1 [eN] g s fun h s =>
 zy 1 24 b h s fun i s =>
 bP .add c (iN 1) s fun j s =>
 a [i,j] s) (z1 Z b s)
theorem e_r09_Leaves : F1 Tryz.prog zkD zpK := zj [.l [3, 4] [(5, 14)]] Tryz.func94
def S_r12_Has (P : Program) (x0 x1 : AV) (σ : LO) (Z : ZT) : Prop :=
 zaT [x0,(iN 0)] σ fun v s a =>
 zar v fun b v => zar v fun c v => bP .lss c (iN 13) s fun d s =>
 zn d (bP .eql c x1 s fun e s =>
 gTm e b s fun f s =>
 gT e (bP .rem f (.d (.int .u16 2)) s) s fun g s =>
 gT e (bP .eql g (.d (.int .u16 1)) s) s fun h s =>
 anC e h s fun i s =>
 zn i (z1 Z bT s) (bP .quo b (.d (.int .u16 2)) s fun j s =>
 bP .add c (iN 1) s fun l s =>
 a [j,l] s)) (z1 Z bF s)
theorem e_r12_Has : F2 Tryz.prog zkB S_r12_Has := zj [.l [0, 5] [(4, 1),(6, 14)]] Tryz.func95
def S_r12_Of (P : Program) (x0 : AV) (σ : LO) (Z : ZT) : Prop :=
 zaT [(.d (.int .u16 0)),(.d (.int .u16 1)),(iN 0)] σ fun v s a =>
 zar v fun b v => zar v fun c v => zar v fun d v => bP .lss d (iN 13) s fun e s =>
 zn e ((fun (f : AV → LO → Prop) => zaT [b,(iN 0)] s fun v s j =>
 zar v fun l v => zar v fun m v => zau .sl x0 s fun n s =>
 bP .lss m n s fun o s =>
 zn o (il false 1 1 x0 m s fun p s =>
 bP .eql p d s fun q s =>
 zn q (bP .add l c s fun r s =>
 f r s) (bP .add m (iN 1) s fun u s =>
 j [l,u] s)) (f l s))
 (fun g s => bP .mul c (.d (.int .u16 2)) s fun h s =>
 bP .add d (iN 1) s fun i s =>
 a [g,h,i] s)) (z1 Z b s)
theorem e_r12_Of : F1 Tryz.prog zqw S_r12_Of := zj [.l [3, 4, 5] [(6, 22)], .l [3, 6] [(11, 15)]] Tryz.func96
def zob (P : Program) (x0 : AV) (σ : LO) (Z : ZT) : Prop :=
 cA P zfq [x0] σ fun a s =>
 bP .neq a (iN 0) s fun b s =>
 zn b (z1 Z (iN 0) s) (bP .mul (iN 3) x0 s fun c s =>
 bP .add c (iN 1) s fun d s =>
 z1 Z d s)
theorem zuR : F1 Tryz.prog zgL zob := zj [] Tryz.func97
def S_r11_may (P : Program) (x0 x1 x2 x3 : AV) (σ : LO) (Z : ZT) : Prop :=
 cA P ziv [x0] σ fun a s =>
 gTm a x1 s fun b s =>
 gT a (cA P ziv [b] s) s fun c s =>
 anC a c s fun d s =>
 gTm d x2 s fun e s =>
 gT d (cA P ziv [e] s) s fun f s =>
 anC d f s fun g s =>
 gTm g x3 s fun h s =>
 gT g (cA P ziv [h] s) s fun i s =>
 anC g i s fun j s =>
 z1 Z j s
theorem e_r11_may : F4 Tryz.prog znt S_r11_may := zj [] Tryz.func98
def ztZ (P : Program) (x0 x1 x2 x3 : AV) (σ : LO) (Z : ZT) : Prop :=
 zW [iN 0,iN 0] σ fun a s =>
 cA P zaZ [x0,x3] s fun b s =>
 bP .eql b (iN 0) s fun c s =>
 zn c (zC (zP [iN 0,iN 0] []) s fun d s =>
 zo 2 a d s fun _ s =>
 Z (zB (zal a s true 2) (zB (some (iN 6)) (some []))) s) (cA P zdK [x1,x2,b] s fun f s =>
 ze f 0 s fun g s =>
 ze f 1 s fun h s =>
 zo 2 a g s fun _ s =>
 Z (zB (zal a s true 2) (zB (some h) (some []))) s)
theorem e_r11_sign : F4 Tryz.prog zoG ztZ := zj [] Tryz.func99
def zld (P : Program) (x0 x1 x2 x3 : AV) (σ : LO) (Z : ZT) : Prop :=
 m1 1 [(.d (.int .u8 0))] (.d (.int .u8 4)) σ fun a s =>
 cA P ziu [a,x0] s fun b s =>
 cA P ziu [b,x1] s fun c s =>
 cA P ziu [c,x2] s fun d s =>
 cA P ziu [d,x3] s fun e s =>
 z1 Z e s
theorem zrs : F4 Tryz.prog zeM zld := zj [] Tryz.func100
def zol (P : Program) (x0 : AV) (σ : LO) (Z : ZT) : Prop :=
 zav false x0 σ fun a s =>
 zn a (z1 Z eN s) (zu false 1 0 (zP (rep [(.d (.int .u8 0))] 0) []) s fun b s =>
 zy 1 1 b x0 s fun c s =>
 z1 Z c s)
theorem znN : F1 Tryz.prog zjt zol := zj [] Tryz.func101
def zok (P : Program) (x0 x1 : AV) (σ : LO) (Z : ZT) : Prop :=
 cA P zgN [x1] σ fun a s =>
 cA P zbw [x0,a] s fun b s =>
 z1 Z b s
theorem zuZ : F2 Tryz.prog zjs zok := zj [] Tryz.func102
def zoj (P : Program) (x0 x1 x2 : AV) (σ : LO) (Z : ZT) : Prop :=
 cA P zeS [x1,x2] σ fun a s =>
 cA P zbw [x0,a] s fun b s =>
 z1 Z b s
theorem zuY : F3 Tryz.prog zjr zoj := zj [] Tryz.func103
def zgE (P : Program) (x0 x1 : AV) (σ : LO) (Z : ZT) : Prop :=
 cA P zra [x1] σ fun a s =>
 unC .not a s fun b s =>
 zn b (cA P zaI [x0,(iN 61)] s fun _ s =>
 Z (some []) s) (Z (some []) s)
theorem zlS : F2 Tryz.prog zdR zgE := zj [] Tryz.func104
def zhF (P : Program) (x0 x1 : AV) (σ : LO) (Z : ZT) : Prop :=
 cA P zbG [x0,x1,(iN 0),(iN 9007199254740992)] σ fun _ s =>
 Z (some []) s
theorem zmQ : F2 Tryz.prog zaN zhF := zj [] Tryz.func105
def zgF (P : Program) (x0 x1 x2 : AV) (σ : LO) (Z : ZT) : Prop :=
 cA P zbG [x0,x1,(iN 0),x2] σ fun _ s =>
 Z (some []) s
theorem zlT : F3 Tryz.prog zaV zgF := zj [] Tryz.func106
def zhE (P : Program) (x0 x1 : AV) (σ : LO) (Z : ZT) : Prop :=
 cA P zbG [x0,x1,(iN 1),(iN 9007199254740992)] σ fun _ s =>
 Z (some []) s
theorem zmP : F2 Tryz.prog zet zhE := zj [] Tryz.func107
def zhY (P : Program) (x0 x1 x2 x3 : AV) (σ : LO) (Z : ZT) : Prop :=
 bP .lss x1 x2 σ fun a s =>
 gFm a x1 s fun b s =>
 gFm a x3 s fun c s =>
 gF a (bP .gtr b c s) s fun d s =>
 orC a d s fun e s =>
 zn e (cA P zaI [x0,(iN 100)] s fun _ s =>
 Z (some []) s) (Z (some []) s)
theorem znK : F4 Tryz.prog zbG zhY := zj [] Tryz.func108
def zgG (P : Program) (x0 x1 : AV) (σ : LO) (Z : ZT) : Prop :=
 zaJ x1 σ fun a s =>
 fl 0 a s fun b s =>
 cA P zaN [x0,b] s fun _ s =>
 fl 1 a s fun d s =>
 cA P zaN [x0,d] s fun _ s =>
 (fun (f : LO → Prop) => fl 0 a s fun i s =>
 bP .eql i (iN 0) s fun j s =>
 fl 1 a s fun l s =>
 bP .eql l (iN 0) s fun m s =>
 zdN .neq .bool j m s fun n s =>
 gFl n 0 a s fun o s =>
 gF n (bP .eql o (iN 0) s) s fun p s =>
 gFm n p s fun q s =>
 gTl q 2 a s fun r s =>
 gT q (zau .sl r s) s fun u s =>
 gT q (bP .gtr u (iN 0) s) s fun w s =>
 gF n (anC q w s) s fun y s =>
 orC n y s fun z s =>
 zn z (cA P zaI [x0,(iN 100)] s fun _ s =>
 f s) (f s))
 (fun  s => fl 2 a s fun g s =>
 cA P zbh [x0,g] s fun _ s =>
 Z (some []) s)
theorem zlU : F2 Tryz.prog zdS zgG := zj [] Tryz.func109
def zpW (P : Program) (x0 : AV) (σ : LO) (Z : ZT) : Prop :=
 cA P zaD [x0] σ fun a s =>
 zdN .neq .ptr a (.d .nilp) s fun b s =>
 z1 Z b s
theorem e_block_made : F1 Tryz.prog zkM zpW := zj [] Tryz.func110
def zom (P : Program) (x0 : AV) (σ : LO) (Z : ZT) : Prop :=
 zaJ x0 σ fun a s =>
 fl 0 a s fun b s =>
 fl 1 a s fun c s =>
 fl 2 a s fun d s =>
 fl 3 a s fun e s =>
 fl 4 a s fun f s =>
 zu false 1 5 (zP (rep [iN 0] 5) [(0, 1,b),(1, 1,c),(2, 1,d),(3, 1,e),(4, 1,f)]) s fun g s =>
 zau .sl g s fun h s =>
 zaT [(iN 0)] s fun v s i =>
 zar v fun j v => bP .lss j h s fun l s =>
 zn l (il false 1 1 g j s fun m s =>
 bP .lss m (iN 0) s fun n s =>
 gFm n m s fun o s =>
 gF n (bP .gtr o (iN 9007199254740992) s) s fun p s =>
 orC n p s fun q s =>
 zn q (z1 Z (iN 90) s) (bP .add j (iN 1) s fun r s =>
 i [r] s)) (z1 Z (iN 0) s)
theorem zva : F1 Tryz.prog zgO zom := zj [.l [17] [(2, 1),(4, 1),(18, 10)]] Tryz.func111
def zpS (P : Program) (x0 : AV) (σ : LO) (Z : ZT) : Prop :=
 zaJ x0 σ fun a s =>
 fl 0 a s fun b s =>
 bP .eql b (iN 0) s fun c s =>
 gTl c 1 a s fun d s =>
 gT c (bP .eql d (iN 0) s) s fun e s =>
 anC c e s fun f s =>
 gTl f 2 a s fun g s =>
 gT f (zau .sl g s) s fun h s =>
 gT f (bP .eql h (iN 0) s) s fun i s =>
 anC f i s fun j s =>
 z1 Z j s
theorem e_point_zero : F1 Tryz.prog zkJ zpS := zj [] Tryz.func112
def zhX (P : Program) (x0 x1 x2 x3 : AV) (σ : LO) (Z : ZT) : Prop :=
 bP .geq x1 (iN 1) σ fun a s =>
 gTm a x1 s fun b s =>
 gT a (bP .leq b (iN 9007199254740992) s) s fun c s =>
 anC a c s fun d s =>
 gTm d x1 s fun e s =>
 gT d (bP .rem e (iN 4) s) s fun f s =>
 gT d (bP .eql f (iN 0) s) s fun g s =>
 anC d g s fun h s =>
 gTm h x2 s fun i s =>
 gT h (bP .geq i (iN 1) s) s fun j s =>
 anC h j s fun l s =>
 gTm l x2 s fun m s =>
 gT l (bP .leq m (iN 9007199254740992) s) s fun n s =>
 anC l n s fun o s =>
 gTm o x3 s fun p s =>
 gT o (bP .geq p (iN 0) s) s fun q s =>
 anC o q s fun r s =>
 gTm r x3 s fun u s =>
 gTm r x0 s fun w s =>
 gT r (zbF w s) s fun y s =>
 gTl r 0 y s fun z s =>
 gT r (cA P zgf [z] s) s fun A s =>
 gT r (bP .lss u A s) s fun B s =>
 anC r B s fun C s =>
 z1 Z C s
theorem znJ : F4 Tryz.prog zeR zhX := zj [] Tryz.func113
def zpR (P : Program) (x0 : AV) (σ : LO) (Z : ZT) : Prop :=
 cA P zfF [(iN 2),x0] σ fun a s =>
 z1 Z a s
theorem e_quorum_Big : F1 Tryz.prog zkI zpR := zj [] Tryz.func114
def zcf (P : Program) (x0 x1 : AV) (σ : LO) (Z : ZT) : Prop :=
 zau .sl x0 σ fun a s =>
 zaT [(iN 0)] s fun v s b =>
 zar v fun c v => bP .lss c a s fun d s =>
 zn d (il true 2 2 x0 c s fun e s =>
 zat P x1 [dm e] s fun f s =>
 zn f (z1 Z c s) (bP .add c (iN 1) s fun g s =>
 b [g] s)) (z1 Z (iN (-1)) s)
theorem zek : F2 Tryz.prog zaY zcf := zj [.l [8] [(4, 2),(9, 10)]] Tryz.func115
def zst (P : Program) (x0 x1 : AV) (σ : LO) (Z : ZT) : Prop :=
 cA P zaD [x0] σ fun a s =>
 zdN .neq .ptr a (.d .nilp) s fun b s =>
 gTm b x1 s fun c s =>
 gT b (cA P zbo [c] s) s fun d s =>
 gT b (zdN .neq .ptr d (.d .nilp) s) s fun e s =>
 anC b e s fun f s =>
 z1 Z f s
theorem e_auth_made : F2 Tryz.prog zmF zst := zj [] Tryz.func116
def zun (P : Program) (x0 x1 x2 x3 : AV) (σ : LO) (Z : ZT) : Prop :=
 zu false 1 4 (zP (rep [iN 0] 4) [(0, 1,x0),(1, 1,x1),(2, 1,x2),(3, 1,x3)]) σ fun a s =>
 zau .sl a s fun b s =>
 zaT [(iN 0)] s fun v s c =>
 zar v fun d v => bP .lss d b s fun e s =>
 zn e (il false 1 1 a d s fun f s =>
 bP .lss f (iN 0) s fun g s =>
 gFm g f s fun h s =>
 gF g (bP .gtr h (iN 9007199254740992) s) s fun i s =>
 orC g i s fun j s =>
 zn j (z1 Z bF s) (bP .add d (iN 1) s fun l s =>
 c [l] s)) (z1 Z bT s)
theorem e_auth_may : F4 Tryz.prog zoP zun := zj [.l [17] [(8, 1),(10, 1),(18, 10)]] Tryz.func117
def zop (P : Program) (x0 x1 x2 x3 x4 : AV) (σ : LO) (Z : ZT) : Prop :=
 zaJ x2 σ fun a s =>
 cA P zaK [x0,x4] s fun b s =>
 ze b 0 s fun c s =>
 ze b 1 s fun d s =>
 gT d (zp true 2 a s) s fun e s =>
 gTm d x3 s fun f s =>
 gTm d c s fun g s =>
 gT d (zC (zP [iN 0,iN 0] [(0, 1,f),(1, 1,g)]) s) s fun h s =>
 gT d (zdN .eql (.ints 2) e h s) s fun i s =>
 anC d i s fun j s =>
 gTm j x1 s fun l s =>
 gT j (zp true 2 a s) s fun m s =>
 gT j (cA P zdF [l,m] s) s fun n s =>
 anC j n s fun o s =>
 z1 Z o s
theorem zvd : F5 Tryz.prog zjv zop := zj [] Tryz.func118
def zjY (P : Program) (x0 x1 x2 x3 : AV) (σ : LO) (Z : ZT) : Prop :=
 m1 1 [(.d (.int .u8 0))] (.d (.int .u8 4)) σ fun a s =>
 zu false 1 4 (zP (rep [iN 0] 4) [(0, 1,x0),(1, 1,x1),(2, 1,x2),(3, 1,x3)]) s fun b s =>
 cA P zoO [a,b] s fun c s =>
 z1 Z c s
theorem zql : F4 Tryz.prog zgg zjY := zj [] Tryz.func119
def zpV (P : Program) (x0 : AV) (σ : LO) (Z : ZT) : Prop :=
 zW [(.d (.int .u8 0)),(.d (.int .u8 0)),(.d (.int .u8 0)),(.d (.int .u8 0)),(.d (.int .u8 0)),(.d (.int .u8 0)),(.d (.int .u8 0)),(.d (.int .u8 0)),(.d (.int .u8 0)),(.d (.int .u8 0))] σ fun a s =>
 zW [(.d (.int .u8 0)),(.d (.int .u8 0)),(.d (.int .u8 0)),(.d (.int .u8 0)),(.d (.int .u8 0)),(.d (.int .u8 0)),(.d (.int .u8 0)),(.d (.int .u8 0)),(.d (.int .u8 0)),(.d (.int .u8 0))] s fun b s =>
 zaT [x0,(iN 0)] s fun v s c =>
 zar v fun d v => zar v fun e v => bP .gtr d (.d (.int .u64 127)) s fun f s =>
 zn f (zag (.int .u8) d s fun g s =>
 bP .or g (.d (.int .u8 128)) s fun h s =>
 zF (some 10) 1 b e s fun i s =>
 zo 1 i h s fun _ s =>
 bP .shr d (.d (.int .u64 7)) s fun l s =>
 bP .add e (iN 1) s fun m s =>
 c [l,m] s) (zag (.int .u8) d s fun n s =>
 zF (some 10) 1 b e s fun o s =>
 zo 1 o n s fun _ s =>
 zp true 10 b s fun q s =>
 bP .add e (iN 1) s fun r s =>
 zo 10 a q s fun _ s =>
 Z (zB (zal a s true 10) (zB (some r) (some []))) s)
theorem e_codec_form : F1 Tryz.prog zkL zpV := zj [.l [0, 5] [(6, 11)]] Tryz.func120
def zeZ (P : Program) (x0 : AV) (σ : LO) (Z : ZT) : Prop :=
 zau .sl x0 σ fun a s =>
 zau .sl x0 s fun b s =>
 zco (.sl 1) x0 none (some a) (some b) s fun c s =>
 z1 Z c s
theorem zeV : F1 Tryz.prog zcS zeZ := zj [] Tryz.func121
def zue (P : Program) (x0 : AV) (σ : LO) (Z : ZT) : Prop :=
 cA P zmB [x0] σ fun a s =>
 bP .gtr a (iN 0) s fun b s =>
 z1 Z b s
theorem e_r06_Name : F1 Tryz.prog ziy zue := zj [] Tryz.func122
def S_r10_pos (P : Program) (x0 : AV) (σ : LO) (Z : ZT) : Prop :=
 cA P zjk [x0,(iN 1),(iN 9007199254740992)] σ fun a s =>
 z1 Z a s
theorem e_r10_pos : F1 Tryz.prog zqY S_r10_pos := zj [] Tryz.func123
def zse (P : Program) (x0 : AV) (σ : LO) (Z : ZT) : Prop :=
 zau .sl x0 σ fun a s =>
 bP .gtr a (iN 13) s fun b s =>
 zn b (z1 Z (iN 100) s) (zaT [(iN 0)] s fun v s c =>
 zar v fun d v => zau .sl x0 s fun e s =>
 bP .lss d e s fun f s =>
 zn f (il true 2 2 x0 d s fun g s =>
 cA P zdC [g] s fun h s =>
 bP .neq h (iN 0) s fun i s =>
 zn i (z1 Z h s) (bP .add d (iN 1) s fun j s =>
 c [j] s)) (z1 Z (iN 0) s))
theorem e_r10_signs : F1 Tryz.prog zjj zse := zj [.l [3] [(2, 1),(4, 1),(8, 14)]] Tryz.func124
def S_r09_num (P : Program) (x0 : AV) (σ : LO) (Z : ZT) : Prop :=
 bP .geq x0 (iN 0) σ fun a s =>
 gTm a x0 s fun b s =>
 gT a (bP .leq b (iN 9007199254740992) s) s fun c s =>
 anC a c s fun d s =>
 z1 Z d s
theorem e_r09_num : F1 Tryz.prog zhi S_r09_num := zj [] Tryz.func125
def ztW (P : Program) (x0 : AV) (σ : LO) (Z : ZT) : Prop :=
 zaJ x0 σ fun a s =>
 fl 0 a s fun b s =>
 bP .eql b (iN 0) s fun c s =>
 gTl c 1 a s fun d s =>
 gT c (bP .eql d (iN 0) s) s fun e s =>
 anC c e s fun f s =>
 gTl f 2 a s fun g s =>
 gT f (zau .sl g s) s fun h s =>
 gT f (bP .eql h (iN 0) s) s fun i s =>
 anC f i s fun j s =>
 z1 Z j s
theorem e_r14_zero : F1 Tryz.prog zoD ztW := zj [] Tryz.func126
def S_r12_Big (P : Program) (x0 : AV) (σ : LO) (Z : ZT) : Prop :=
 cA P zfq [x0] σ fun a s =>
 bP .neq a (iN 0) s fun b s =>
 zn b (z1 Z (iN 0) s) (bP .mul (iN 2) x0 s fun c s =>
 bP .add c (iN 1) s fun d s =>
 z1 Z d s)
theorem e_r12_Big : F1 Tryz.prog zqW S_r12_Big := zj [] Tryz.func127
def zjO (P : Program) (x0 x1 x2 x3 : AV) (σ : LO) (Z : ZT) : Prop :=
 bP .geq x1 (iN 1) σ fun a s =>
 gTm a x1 s fun b s =>
 gT a (bP .leq b (iN 9007199254740992) s) s fun c s =>
 anC a c s fun d s =>
 gTm d x1 s fun e s =>
 gT d (bP .rem e (iN 4) s) s fun f s =>
 gT d (bP .eql f (iN 0) s) s fun g s =>
 anC d g s fun h s =>
 gTm h x2 s fun i s =>
 gT h (bP .geq i (iN 1) s) s fun j s =>
 anC h j s fun l s =>
 gTm l x2 s fun m s =>
 gT l (bP .leq m (iN 9007199254740992) s) s fun n s =>
 anC l n s fun o s =>
 gTm o x3 s fun p s =>
 gT o (bP .geq p (iN 0) s) s fun q s =>
 anC o q s fun r s =>
 gTm r x3 s fun u s =>
 gTm r x0 s fun w s =>
 gT r (zbF w s) s fun y s =>
 gTl r 0 y s fun z s =>
 gT r (cA P zgL [z] s) s fun A s =>
 gT r (bP .lss u A s) s fun B s =>
 anC r B s fun C s =>
 z1 Z C s
theorem zqe : F4 Tryz.prog zgd zjO := zj [] Tryz.func128
def zpJ (P : Program) (x0 x1 x2 x3 x4 : AV) (σ : LO) (Z : ZT) : Prop :=
 zaJ x2 σ fun a s =>
 cA P zbb [x0,x4] s fun b s =>
 ze b 0 s fun c s =>
 ze b 1 s fun d s =>
 gTl d 0 a s fun e s =>
 gTm d x3 s fun f s =>
 gT d (bP .eql e f s) s fun g s =>
 anC d g s fun h s =>
 gTl h 1 a s fun i s =>
 gTm h c s fun j s =>
 gT h (bP .eql i j s) s fun l s =>
 anC h l s fun m s =>
 gTm m x1 s fun n s =>
 gT m (zp true 2 a s) s fun o s =>
 gT m (cA P zcU [n,o] s) s fun p s =>
 anC m p s fun q s =>
 z1 Z q s
theorem e_r11_signed : F5 Tryz.prog zkC zpJ := zj [] Tryz.func129
def zsp (P : Program) (x0 : AV) (σ : LO) (Z : ZT) : Prop :=
 bP .lss x0 (iN 2) σ fun a s =>
 zn a (z1 Z (iN 0) s) (zaT [(iN 1)] s fun v s b =>
 zar v fun c v => bP .sub x0 c s fun d s =>
 bP .lss c d s fun e s =>
 zn e (bP .mul c (iN 2) s fun f s =>
 b [f] s) (z1 Z c s))
theorem e_r05_Split : F1 Tryz.prog zhn zsp := zj [.l [3] [(6, 7)]] Tryz.func130
def zug (P : Program) (x0 : AV) (σ : LO) (Z : ZT) : Prop :=
 m1 1 [(.d (.int .u8 0))] (.d (.int .u8 0)) σ fun a s =>
 zy 1 1 a x0 s fun b s =>
 z1 Z b s
theorem e_r05_leaf : F1 Tryz.prog zlz zug := zj [] Tryz.func131
def zuf (P : Program) (x0 x1 : AV) (σ : LO) (Z : ZT) : Prop :=
 m1 1 [(.d (.int .u8 0))] (.d (.int .u8 1)) σ fun a s =>
 zdr [x0,(iN 0)] s fun b s =>
 zag (.int .u64) b s fun c s =>
 cA P zaC [a,c] s fun d s =>
 zdr [x1,(iN 0)] s fun e s =>
 zag (.int .u64) e s fun f s =>
 cA P zaC [d,f] s fun g s =>
 z1 Z g s
theorem e_r05_node : F2 Tryz.prog ziz zuf := zj [] Tryz.func132
def zui (P : Program) (x0 x1 : AV) (σ : LO) (Z : ZT) : Prop :=
 cA P zlz [x1] σ fun a s =>
 cA P zaZ [x0,a] s fun b s =>
 z1 Z b s
theorem e_r05_Leaf : F2 Tryz.prog zoK zui := zj [] Tryz.func133
def zuh (P : Program) (x0 x1 x2 : AV) (σ : LO) (Z : ZT) : Prop :=
 cA P ziz [x1,x2] σ fun a s =>
 cA P zaZ [x0,a] s fun b s =>
 z1 Z b s
theorem e_r05_Node : F3 Tryz.prog zoJ zuh := zj [] Tryz.func134
def zhV (P : Program) (x0 : AV) (σ : LO) (Z : ZT) : Prop :=
 nfl 0 x0 σ fun a s =>
 zau .sl a s fun b s =>
 cA P zdD [eN,b] s fun c s =>
 zaT [c,(iN 0)] s fun v s d =>
 zar v fun e v => zar v fun f v => nfl 0 x0 s fun g s =>
 zau .sl g s fun h s =>
 bP .lss f h s fun i s =>
 zn i (nfl 0 x0 s fun j s =>
 il true 4 4 j f s fun l s =>
 cp [(.d (.str [])),iN 0,eN,eN] 4 l s fun m s =>
 fl 0 m s fun n s =>
 zag .toBytes n s fun o s =>
 zl 1 m s fun p s =>
 zp false 1 p s fun q s =>
 cA P zaR [e,o] s fun r t =>
 zx p s t ∧ (cA P zdD [r,q] t fun u s =>
 fl 2 m s fun w s =>
 zau .sl w s fun y s =>
 cA P zdD [u,y] s fun z s =>
 zaT [z,(iN 0)] s fun v s A =>
 zar v fun B v => zar v fun C v => fl 2 m s fun D s =>
 zau .sl D s fun E s =>
 bP .lss C E s fun F s =>
 zn F (fl 2 m s fun G s =>
 il false 1 1 G C s fun H s =>
 cA P zaR [B,H] s fun I s =>
 bP .add C (iN 1) s fun J s =>
 A [I,J] s) (fl 3 m s fun K s =>
 zau .sl K s fun L s =>
 cA P zdD [B,L] s fun M s =>
 zaT [M,(iN 0)] s fun v s N =>
 zar v fun O v => zar v fun Q v => fl 3 m s fun R s =>
 zau .sl R s fun S s =>
 bP .lss Q S s fun T s =>
 zn T (fl 3 m s fun U s =>
 zF none 2 U Q s fun V s =>
 fl 0 V s fun W s =>
 zag .toBytes W s fun X s =>
 zl 3 m s fun Y s =>
 zp false 1 Y s fun a0 s =>
 zF none 2 a0 Q s fun b0 s =>
 zl 1 b0 s fun c0 s =>
 zp false 1 c0 s fun d0 s =>
 cA P zaR [O,X] s fun e0 t =>
 zx Y s t ∧ (zx c0 s t ∧ (cA P zdD [e0,d0] t fun f0 s =>
 bP .add Q (iN 1) s fun g0 s =>
 N [f0,g0] s))) (bP .add f (iN 1) s fun h0 s =>
 d [O,h0] s)))) (zaT [e,(iN 0)] s fun v s i0 =>
 zar v fun j0 v => zar v fun l0 v => bP .lss l0 (iN 8) s fun m0 s =>
 zn m0 (zbF x0 s fun o0 s =>
 zl 1 o0 s fun p0 s =>
 zF (some 8) 3 p0 l0 s fun q0 s =>
 zp true 3 q0 s fun r0 s =>
 cp [iN 0,iN 0,iN 0] 3 r0 s fun u0 s =>
 fl 0 u0 s fun w0 s =>
 zl 1 u0 s fun y0 s =>
 zl 0 y0 s fun z0 s =>
 zp false 1 z0 s fun A0 s =>
 zl 1 u0 s fun B0 s =>
 zl 1 B0 s fun C0 s =>
 zp false 1 C0 s fun D0 s =>
 cA P zdD [j0,w0] s fun E0 t =>
 zx z0 s t ∧ (zx C0 s t ∧ (cA P zdD [E0,A0] t fun F0 s =>
 zx C0 t s ∧ (cA P zdD [F0,D0] s fun G0 s =>
 bP .add l0 (iN 1) s fun H0 s =>
 i0 [G0,H0] s)))) (z1 Z j0 s))
theorem znI : F1 Tryz.prog zeO zhV := zj [.l [3, 4] [(5, 3),(16, 71)], .d [(0, 4),(5, 2),(4, 1),(7, 2)] [(4, [37])], .l [3, 6] [(45, 14)], .l [3, 7] [(64, 23)], .d [(0, 8),(9, 6),(8, 1),(15, 2)] [(8, [80, 84])], .l [3, 8] [(9, 1),(87, 22)], .d [(0, 3),(4, 3),(8, 3),(3, 1),(7, 1),(11, 2)] [(3, [102, 106]),(7, [106])]] Tryz.func135
def zsj (P : Program) (x0 : AV) (σ : LO) (Z : ZT) : Prop :=
 zaJ x0 σ fun a s =>
 fl 0 a s fun b s =>
 cA P zkE [b] s fun c s =>
 bP .lss c (iN 0) s fun d s =>
 gFl d 1 a s fun e s =>
 gF d (bP .lss e (iN 1) s) s fun f s =>
 orC d f s fun g s =>
 gFl g 1 a s fun h s =>
 gF g (bP .gtr h (iN 9007199254740992) s) s fun i s =>
 orC g i s fun j s =>
 zn j (z1 Z (iN 80) s) (zl 2 a s fun l s =>
 zp true 5 l s fun m s =>
 cA P zhl [m] s fun n s =>
 z1 Z n s)
theorem e_r08_Check : F1 Tryz.prog zjn zsj := zj [] Tryz.func136
def S_r06_Put (P : Program) (x0 x1 : AV) (σ : LO) (Z : ZT) : Prop :=
 zaJ x1 σ fun a s =>
 zp true 5 a s fun b s =>
 cA P zhl [b] s fun c s =>
 bP .neq c (iN 0) s fun d s =>
 zn d (z1 Z x0 s) (fl 0 a s fun e s =>
 cA P zhP [e] s fun f s =>
 ze f 0 s fun g s =>
 ze f 1 s fun h s =>
 ze f 2 s fun i s =>
 ze f 3 s fun j s =>
 fl 0 a s fun l s =>
 zag (.int .u64) l s fun m s =>
 cA P zaC [x0,m] s fun n s =>
 (fun (o : AV → LO → Prop) => zn g (fl 1 a s fun V s =>
 zag .toBytes V s fun W s =>
 cA P zaR [n,W] s fun X s =>
 o X s) (o n s))
 (fun p s => (fun (q : AV → LO → Prop) => zn h (fl 2 a s fun S s =>
 zag .toBytes S s fun T s =>
 cA P zaR [p,T] s fun U s =>
 q U s) (q p s))
 (fun r s => (fun (u : AV → LO → Prop) => zn i (fl 3 a s fun O s =>
 zag (.int .u64) O s fun Q s =>
 cA P zaC [r,Q] s fun R s =>
 u R s) (u r s))
 (fun w s => (fun (y : AV → LO → Prop) => zn j (fl 4 a s fun A s =>
 zau .sl A s fun B s =>
 zag (.int .u64) B s fun C s =>
 cA P zaC [w,C] s fun D s =>
 zaT [D,(iN 0)] s fun v s E =>
 zar v fun F v => zar v fun G v => fl 4 a s fun H s =>
 zau .sl H s fun I s =>
 bP .lss G I s fun J s =>
 zn J (fl 4 a s fun K s =>
 il false 1 1 K G s fun L s =>
 cA P zaR [F,L] s fun M s =>
 bP .add G (iN 1) s fun N s =>
 E [M,N] s) (y F s)) (y w s))
 (fun z s => z1 Z z s)))))
theorem e_r06_Put : F2 Tryz.prog zqZ S_r06_Put := zj [.l [0, 9] [(52, 14)]] Tryz.func137
def zhD (P : Program) (x0 x1 : AV) (σ : LO) (Z : ZT) : Prop :=
 zaJ x1 σ fun a s =>
 zaT [(iN 0)] s fun v s b =>
 zar v fun c v => nfl 0 x0 s fun d s =>
 zau .sl d s fun e s =>
 bP .lss c e s fun f s =>
 zn f (nfl 0 x0 s fun g s =>
 il true 2 2 g c s fun h s =>
 zp true 2 a s fun i s =>
 zdN .eql (.ints 2) h i s fun j s =>
 zn j (z1 Z bT s) (bP .add c (iN 1) s fun l s =>
 b [l] s)) (z1 Z bF s)
theorem zmO : F2 Tryz.prog zcU zhD := zj [.l [5] [(4, 1),(6, 18)], .d [(0, 9)] []] Tryz.func138
def zjQ (P : Program) (x0 : AV) (σ : LO) (Z : ZT) : Prop :=
 zau .sl x0 σ fun a s =>
 bP .gtr a (iN 4) s fun b s =>
 zn b (z1 Z (iN 3) s) (zaT [(iN 0)] s fun v s c =>
 zar v fun d v => zau .sl x0 s fun e s =>
 bP .lss d e s fun f s =>
 zn f (zF none 9 x0 d s fun g s =>
 zl 0 g s fun h s =>
 zp true 7 h s fun i s =>
 cA P zjn [i] s fun j s =>
 bP .neq j (iN 0) s fun l s =>
 zn l (z1 Z j s) (zF none 9 x0 d s fun m s =>
 zl 7 m s fun n s =>
 zp true 2 n s fun o s =>
 cA P zdC [o] s fun p s =>
 bP .neq p (iN 0) s fun q s =>
 zn q (z1 Z p s) (bP .add d (iN 1) s fun r s =>
 c [r] s))) (zaT [(iN 0)] s fun v s u =>
 zar v fun w v => zau .sl x0 s fun y s =>
 bP .lss w y s fun z s =>
 zn z (zaT [(iN 0)] s fun v s A =>
 zar v fun B v => bP .lss B w s fun C s =>
 zn C (zF none 9 x0 w s fun D s =>
 zl 0 D s fun E s =>
 fl 0 E s fun F s =>
 zF none 9 x0 B s fun G s =>
 zl 0 G s fun H s =>
 fl 0 H s fun I s =>
 bP .eql F I s fun J s =>
 gTm J x0 s fun K s =>
 gTm J w s fun L s =>
 gT J (zF none 9 K L s) s fun M s =>
 gT J (zl 0 M s) s fun N s =>
 gTl J 1 N s fun O s =>
 gTm J x0 s fun Q s =>
 gTm J B s fun R s =>
 gT J (zF none 9 Q R s) s fun S s =>
 gT J (zl 0 S s) s fun T s =>
 gTl J 1 T s fun U s =>
 gT J (bP .eql O U s) s fun V s =>
 anC J V s fun W s =>
 zn W (z1 Z (iN 5) s) (bP .add B (iN 1) s fun X s =>
 A [X] s)) (bP .add w (iN 1) s fun Y s =>
 u [Y] s)) (z1 Z (iN 0) s)))
theorem zqg : F1 Tryz.prog zem zjQ := zj [.l [3] [(2, 1),(4, 2),(11, 24)], .l [6] [(2, 1),(7, 1),(35, 39)], .l [7] [(2, 1),(41, 33)], .d [(0, 28)] []] Tryz.func139
def zml (P : Program) (x0 x1 : AV) (σ : LO) (Z : ZT) : Prop :=
 cA P zem [x1] σ fun a s =>
 bP .neq a (iN 0) s fun b s =>
 zn b (z1 Z x0 s) (zau .sl x1 s fun c s =>
 zag (.int .u64) c s fun d s =>
 cA P zaC [x0,d] s fun e s =>
 zaT [e,(iN 0)] s fun v s f =>
 zar v fun g v => zar v fun h v => zau .sl x1 s fun i s =>
 bP .lss h i s fun j s =>
 zn j (zF none 9 x1 h s fun l s =>
 zl 0 l s fun m s =>
 zp true 7 m s fun n s =>
 cA P zjo [n] s fun o s =>
 ze o 0 s fun p s =>
 ze o 1 s fun _ s =>
 zF none 9 x1 h s fun r s =>
 zl 7 r s fun u s =>
 zp true 2 u s fun w s =>
 cA P zaR [g,p] s fun y t =>
 zx u s t ∧ (cA P zjm [y,w] t fun z s =>
 bP .add h (iN 1) s fun A s =>
 f [z,A] s)) (z1 Z g s))
theorem zsK : F2 Tryz.prog zid zml := zj [.l [0, 5] [(6, 2),(17, 24)], .d [(0, 2),(3, 5),(2, 1),(8, 2)] [(2, [38])]] Tryz.func140
def S_r07_bad (P : Program) (x0 : AV) (σ : LO) (Z : ZT) : Prop :=
 zW [iN 0,iN 0] σ fun a s =>
 zC (zP [iN 0,iN 0] [(0, 1,x0)]) s fun b s =>
 zo 2 a b s fun _ s =>
 Z (zB (zal a s true 2) (some [])) s
theorem e_r07_bad : F1 Tryz.prog zde S_r07_bad := zj [] Tryz.func141
def ziS (P : Program) (x0 x1 : AV) (σ : LO) (Z : ZT) : Prop :=
 zaJ x1 σ fun a s =>
 zW [iN 0,iN 0] s fun b s =>
 zp true 5 a s fun c s =>
 cA P zhl [c] s fun d s =>
 bP .neq d (iN 0) s fun e s =>
 zn e (cA P zde [d] s fun f s =>
 zo 2 b f s fun _ s =>
 Z (zB (zal b s true 2) (zB (some eN) (some []))) s) (fl 0 a s fun h s =>
 bP .eql h (iN 0) s fun i s =>
 zn i (zC (zP [iN 0,iN 0] []) s fun j s =>
 zo 2 b j s fun _ s =>
 Z (zB (zal b s true 2) (zB (some eN) (some []))) s) (fl 0 a s fun m s =>
 bP .eql m (iN 1) s fun n s =>
 zn n (fl 1 a s fun o s =>
 cA P zer [x0,o] s fun p s =>
 zo 2 b p s fun _ s =>
 Z (zB (zal b s true 2) (zB (some eN) (some []))) s) (fl 1 a s fun r s =>
 cA P zeN [x0,r] s fun u s =>
 bP .lss u (iN 0) s fun w s =>
 zn w (cA P zde [(iN 4)] s fun y s =>
 zo 2 b y s fun _ s =>
 Z (zB (zal b s true 2) (zB (some eN) (some []))) s) (fl 0 a s fun A s =>
 bP .eql A (iN 2) s fun B s =>
 zn B (zp true 5 a s fun C s =>
 cA P zdQ [x0,u,C] s fun D s =>
 ze D 0 s fun E s =>
 ze D 1 s fun F s =>
 zo 2 b E s fun _ s =>
 Z (zB (zal b s true 2) (zB (some F) (some []))) s) (bP .eql A (iN 3) s fun H s =>
 zn H (zp true 5 a s fun I s =>
 cA P zes [x0,u,I] s fun J s =>
 zo 2 b J s fun _ s =>
 Z (zB (zal b s true 2) (zB (some eN) (some []))) s) (nfl 0 x0 s fun L s =>
 il true 4 4 L u s fun M s =>
 cp [(.d (.str [])),iN 0,eN,eN] 4 M s fun N s =>
 fl 3 a s fun O s =>
 fl 1 N s fun Q s =>
 bP .lss O Q s fun R s =>
 gF R (zl 3 a s) s fun S s =>
 gF R (zp false 1 S s) s fun T s =>
 gF R (zp true 4 N s) s fun U s =>
 gF R (cA P zbK [U] s) s fun V t =>
 zx S s t ∧ (gF R (bP .gtr T V t) t fun W s =>
 orC R W s fun X s =>
 zn X (cA P zde [(iN 72)] s fun Y s =>
 zo 2 b Y s fun _ s =>
 Z (zB (zal b s true 2) (zB (some eN) (some []))) s) (zbF x0 s fun b0 s =>
 zl 0 b0 s fun c0 s =>
 zp false 1 c0 s fun d0 s =>
 fl 2 N s fun e0 s =>
 fl 3 a s fun f0 s =>
 fl 1 N s fun g0 s =>
 bP .sub f0 g0 s fun h0 s =>
 zco (.sl 1) e0 (some h0) none none s fun i0 s =>
 zy 1 24 eN i0 s fun j0 t =>
 zx c0 s t ∧ (zF none 4 d0 u t fun l0 s =>
 zl 2 l0 s fun m0 s =>
 zo 1 m0 j0 s fun _ s =>
 nfl 0 x0 s fun p0 s =>
 fl 3 a s fun q0 s =>
 zF none 4 p0 u s fun r0 s =>
 zl 1 r0 s fun u0 s =>
 zo 1 u0 q0 s fun _ s =>
 fl 3 a s fun y0 s =>
 zC (zP [iN 0,iN 0] [(1, 1,y0)]) s fun z0 s =>
 zo 2 b z0 s fun _ s =>
 Z (zB (zal b s true 2) (zB (some eN) (some []))) s)))))))))
theorem ziI : F2 Tryz.prog zft ziS := zj [.d [(0, 12)] [(9, [63])], .d [(0, 18)] [(14, [72])], .d [(0, 10)] []] Tryz.func142
def S_r11_num (P : Program) (x0 : AV) (σ : LO) (Z : ZT) : Prop :=
 bP .geq x0 (iN 0) σ fun a s =>
 gTm a x0 s fun b s =>
 gT a (bP .leq b (iN 9007199254740992) s) s fun c s =>
 anC a c s fun d s =>
 z1 Z d s
theorem e_r11_num : F1 Tryz.prog ziv S_r11_num := zj [] Tryz.func143
def S_r11_put (P : Program) (x0 x1 : AV) (σ : LO) (Z : ZT) : Prop :=
 zdr [x1,(iN 0)] σ fun a s =>
 zag (.int .u64) a s fun b s =>
 cA P zaC [x0,b] s fun c s =>
 z1 Z c s
theorem e_r11_put : F2 Tryz.prog ziu S_r11_put := zj [] Tryz.func144
def S_op_Name (P : Program) (x0 : AV) (σ : LO) (Z : ZT) : Prop :=
 cA P zoM [x0] σ fun a s =>
 bP .gtr a (iN 0) s fun b s =>
 z1 Z b s
theorem e_op_Name : F1 Tryz.prog zra S_op_Name := zj [] Tryz.func145
def zgD (P : Program) (x0 x1 : AV) (σ : LO) (Z : ZT) : Prop :=
 nfl 0 x0 σ fun a s =>
 bP .eql a (iN 0) s fun b s =>
 zn b (zbF x0 s fun c s =>
 zl 0 c s fun d s =>
 zo 1 d x1 s fun _ s =>
 Z (some []) s) (Z (some []) s)
theorem zlR : F2 Tryz.prog zaI zgD := zj [] Tryz.func146
def zfW (P : Program) (x0 x1 : AV) (σ : LO) (Z : ZT) : Prop :=
 zau .sl x1 σ fun a s =>
 cA P zaV [x0,a,(iN 13)] s fun _ s =>
 zau .sl x1 s fun c s =>
 zaT [(iN 0)] s fun v s d =>
 zar v fun e v => bP .lss e c s fun f s =>
 zn f (il true 2 2 x1 e s fun g s =>
 cp [iN 0,iN 0] 2 g s fun h s =>
 zp true 2 h s fun i s =>
 cA P zeq [i] s fun j s =>
 cA P zaI [x0,j] s fun _ s =>
 bP .add e (iN 1) s fun m s =>
 d [m] s) (Z (some []) s)
theorem zkT : F2 Tryz.prog zbh zfW := zj [.l [12] [(5, 1),(13, 8)]] Tryz.func147
def zjT (P : Program) (x0 : AV) (σ : LO) (Z : ZT) : Prop :=
 cA P zfF [(iN 3),x0] σ fun a s =>
 z1 Z a s
theorem zqj : F1 Tryz.prog zgf zjT := zj [] Tryz.func148
def zmn (P : Program) (x0 x1 : AV) (σ : LO) (Z : ZT) : Prop :=
 cA P zeg [x1] σ fun a s =>
 bP .neq a (iN 0) s fun b s =>
 zn b (z1 Z (iN 0) s) (bP .mul x0 x1 s fun c s =>
 bP .add c (iN 1) s fun d s =>
 z1 Z d s)
theorem zsL : F2 Tryz.prog zfF zmn := zj [] Tryz.func149
def zfY (P : Program) (x0 x1 : AV) (σ : LO) (Z : ZT) : Prop :=
 zaJ x1 σ fun a s =>
 cA P zbc [x0] s fun b s =>
 unC .not b s fun c s =>
 gTm c x0 s fun d s =>
 gT c (zbF d s) s fun e s =>
 gTl c 1 e s fun f s =>
 gT c (zp true 2 a s) s fun g s =>
 gT c (zaU (.ints 2) false bF f g s) s fun h s =>
 anC c h s fun i s =>
 z1 Z i s
theorem zkV : F2 Tryz.prog zdF zfY := zj [.d [(0, 12)] []] Tryz.func150
def zum (P : Program) (x0 x1 : AV) (σ : LO) (Z : ZT) : Prop :=
 zau .sl x1 σ fun a s =>
 zaT [x0,(iN 0)] s fun v s b =>
 zar v fun c v => zar v fun d v => bP .lss d a s fun e s =>
 zn e (il false 1 1 x1 d s fun f s =>
 zdr [(iN 0),f] s fun g s =>
 zag (.int .u64) g s fun h s =>
 cA P zce [c,h] s fun i s =>
 bP .add d (iN 1) s fun j s =>
 b [i,j] s) (z1 Z c s)
theorem e_auth_put : F2 Tryz.prog zoO zum := zj [.l [0, 9] [(6, 1),(10, 9)]] Tryz.func151
def zsm (P : Program) (x0 : AV) (σ : LO) (Z : ZT) : Prop :=
 zaT [x0,(iN 0)] σ fun v s a =>
 zar v fun b v => zar v fun c v => zau .str b s fun d s =>
 bP .gtr d (iN 0) s fun e s =>
 zn e (cA P zmA [b] s fun f s =>
 ze f 0 s fun g s =>
 ze f 1 s fun h s =>
 bP .eql h (iN 0) s fun i s =>
 gFm i g s fun j s =>
 gF i (bP .lss j (iN 33) s) s fun l s =>
 orC i l s fun m s =>
 gFm m g s fun n s =>
 gF m (bP .geq n (iN 127) s) s fun o s =>
 gFm m o s fun p s =>
 gTm p g s fun q s =>
 gT p (bP .lss q (iN 160) s) s fun r s =>
 gF m (anC p r s) s fun u s =>
 orC m u s fun w s =>
 gFm w g s fun y s =>
 gF w (bP .eql y (iN 47) s) s fun z s =>
 orC w z s fun A s =>
 gFm A g s fun B s =>
 gF A (bP .eql B (iN 65533) s) s fun C s =>
 orC A C s fun D s =>
 gFm D c s fun E s =>
 gF D (bP .geq E (iN 16) s) s fun F s =>
 orC D F s fun G s =>
 zn G (z1 Z (iN 0) s) (bP .add c (iN 1) s fun H s =>
 zco .str b (some h) none none s fun I s =>
 a [I,H] s)) (z1 Z c s)
theorem e_r06_Runes : F1 Tryz.prog zmB zsm := zj [.l [0, 3] [(2, 1),(4, 41)]] Tryz.func152
def zlg (P : Program) (x0 : AV) (σ : LO) (Z : ZT) : Prop :=
 zaJ x0 σ fun a s =>
 fl 0 a s fun b s =>
 bP .lss b (iN 0) s fun c s =>
 gFl c 0 a s fun d s =>
 gF c (bP .geq d (iN 21) s) s fun e s =>
 orC c e s fun f s =>
 gFl f 1 a s fun g s =>
 gF f (bP .lss g (iN 1) s) s fun h s =>
 orC f h s fun i s =>
 gFl i 1 a s fun j s =>
 gF i (bP .gtr j (iN 9007199254740992) s) s fun l s =>
 orC i l s fun m s =>
 zn m (z1 Z (iN 81) s) (z1 Z (iN 0) s)
theorem zrv : F1 Tryz.prog zdC zlg := zj [] Tryz.func153
def zsn (P : Program) (x0 : AV) (σ : LO) (Z : ZT) : Prop :=
 zaJ x0 σ fun a s =>
 fl 0 a s fun b s =>
 cA P zhP [b] s fun c s =>
 ze c 0 s fun d s =>
 ze c 1 s fun e s =>
 ze c 2 s fun f s =>
 ze c 3 s fun g s =>
 fl 0 a s fun h s =>
 bP .lss h (iN 0) s fun i s =>
 gFl i 0 a s fun j s =>
 gF i (bP .gtr j (iN 4) s) s fun l s =>
 orC i l s fun m s =>
 gFm m d s fun n s =>
 gF m (unC .not n s) s fun o s =>
 gFm m o s fun p s =>
 gTl p 1 a s fun q s =>
 gT p (bP .neq q (.d (.str [])) s) s fun r s =>
 gF m (anC p r s) s fun u s =>
 orC m u s fun w s =>
 gFm w e s fun y s =>
 gF w (unC .not y s) s fun z s =>
 gFm w z s fun A s =>
 gTl A 2 a s fun B s =>
 gT A (bP .neq B (.d (.str [])) s) s fun C s =>
 gF w (anC A C s) s fun D s =>
 orC w D s fun E s =>
 gFm E f s fun F s =>
 gF E (unC .not F s) s fun G s =>
 gFm E G s fun H s =>
 gTl H 3 a s fun I s =>
 gT H (bP .neq I (iN 0) s) s fun J s =>
 gF E (anC H J s) s fun K s =>
 orC E K s fun L s =>
 gFm L g s fun M s =>
 gF L (unC .not M s) s fun N s =>
 gFm L N s fun O s =>
 gTl O 4 a s fun Q s =>
 gT O (zau .sl Q s) s fun R s =>
 gT O (bP .gtr R (iN 0) s) s fun S s =>
 gF L (anC O S s) s fun T s =>
 orC L T s fun U s =>
 zn U (z1 Z (iN 60) s) (gTl d 1 a s fun V s =>
 gT d (cA P ziy [V] s) s fun W s =>
 gT d (unC .not W s) s fun X s =>
 anC d X s fun Y s =>
 gFm Y e s fun a0 s =>
 gFm Y a0 s fun b0 s =>
 gTl b0 2 a s fun c0 s =>
 gT b0 (cA P ziy [c0] s) s fun d0 s =>
 gT b0 (unC .not d0 s) s fun e0 s =>
 gF Y (anC b0 e0 s) s fun f0 s =>
 orC Y f0 s fun g0 s =>
 zn g0 (z1 Z (iN 61) s) (gTl g 4 a s fun h0 s =>
 gT g (zau .sl h0 s) s fun i0 s =>
 gT g (bP .lss i0 (iN 1) s) s fun j0 s =>
 gTm g j0 s fun l0 s =>
 gFl l0 4 a s fun m0 s =>
 gF l0 (zau .sl m0 s) s fun o0 s =>
 gF l0 (bP .gtr o0 (iN 4) s) s fun p0 s =>
 gT g (orC l0 p0 s) s fun q0 s =>
 anC g q0 s fun r0 s =>
 zn r0 (z1 Z (iN 62) s) (zaT [(iN 0)] s fun v s u0 =>
 zar v fun w0 v => fl 4 a s fun y0 s =>
 zau .sl y0 s fun z0 s =>
 bP .lss w0 z0 s fun A0 s =>
 zn A0 (fl 4 a s fun B0 s =>
 il false 1 1 B0 w0 s fun C0 s =>
 zau .sl C0 s fun D0 s =>
 bP .gtr D0 (iN 64) s fun E0 s =>
 zn E0 (z1 Z (iN 62) s) (bP .add w0 (iN 1) s fun F0 s =>
 u0 [F0] s)) (fl 3 a s fun G0 s =>
 bP .lss G0 (iN 0) s fun H0 s =>
 gFl H0 3 a s fun I0 s =>
 gF H0 (bP .gtr I0 (iN 9007199254740992) s) s fun J0 s =>
 orC H0 J0 s fun K0 s =>
 zn K0 (z1 Z (iN 60) s) (z1 Z (iN 0) s)))))
theorem e_r06_Check : F1 Tryz.prog zhl zsn := zj [.l [7] [(2, 1),(90, 14)]] Tryz.func154
def zpN (P : Program) (x0 : AV) (σ : LO) (Z : ZT) : Prop :=
 bP .eql x0 (iN 1) σ fun a s =>
 zn a (Z (zB (some bT) (zB (some bF) (zB (some bF) (zB (some bF) (some []))))) s) (bP .eql x0 (iN 2) s fun b s =>
 zn b (Z (zB (some bT) (zB (some bF) (zB (some bF) (zB (some bT) (some []))))) s) (bP .eql x0 (iN 3) s fun c s =>
 zn c (Z (zB (some bT) (zB (some bT) (zB (some bT) (zB (some bF) (some []))))) s) (bP .eql x0 (iN 4) s fun d s =>
 zn d (Z (zB (some bT) (zB (some bF) (zB (some bT) (zB (some bF) (some []))))) s) (Z (zB (some bF) (zB (some bF) (zB (some bF) (zB (some bF) (some []))))) s))))
theorem e_r06_fields : F1 Tryz.prog zhP zpN := zj [] Tryz.func155
def zoe (P : Program) (x0 x1 : AV) (σ : LO) (Z : ZT) : Prop :=
 zaJ x1 σ fun a s =>
 zp true 2 a s fun b s =>
 cA P zdC [b] s fun c s =>
 bP .neq c (iN 0) s fun d s =>
 zn d (z1 Z x0 s) (fl 0 a s fun e s =>
 zag (.int .u64) e s fun f s =>
 zl 1 a s fun g s =>
 zp false 1 g s fun h s =>
 zag (.int .u64) h s fun i s =>
 cA P zaC [x0,f] s fun j t =>
 zx g s t ∧ (cA P zaC [j,i] t fun l s =>
 z1 Z l s))
theorem zuT : F2 Tryz.prog zjm zoe := zj [.d [(0, 4),(5, 3),(4, 1),(8, 2)] [(4, [14])]] Tryz.func156
def zgz (P : Program) (x0 x1 : AV) (σ : LO) (Z : ZT) : Prop :=
 zW [iN 0,iN 0] σ fun a s =>
 zq P zeN [x0,x1] s fun b s =>
 bP .geq b (iN 0) s fun c s =>
 zn c (zq P zde [(iN 5)] s fun d s =>
 zo 2 a d s fun _ s =>
 Z (zB (zal a s true 2) (some [])) s) (nfl 0 x0 s fun f s =>
 zau .sl f s fun g s =>
 bP .geq g (iN 8) s fun h s =>
 zn h (zq P zde [(iN 6)] s fun i s =>
 zo 2 a i s fun _ s =>
 Z (zB (zal a s true 2) (some [])) s) (zaT [(iN 0)] s fun v s l =>
 zar v fun m v => nfl 0 x0 s fun n s =>
 zau .sl n s fun o s =>
 bP .lss m o s fun p s =>
 gTm p x0 s fun q s =>
 gT p (zbF q s) s fun r s =>
 gTl p 0 r s fun u s =>
 gTm p m s fun w s =>
 gT p (zF none 4 u w s) s fun y s =>
 gTl p 0 y s fun z s =>
 gTm p x1 s fun A s =>
 gT p (bP .lss z A s) s fun B s =>
 anC p B s fun C s =>
 zn C (bP .add m (iN 1) s fun D s =>
 l [D] s) (nfl 0 x0 s fun E s =>
 zco (.sl 4) E none (some m) none s fun F s =>
 zdb 4 72 eN F s fun G s =>
 zC (zP [(.d (.str [])),iN 0,eN,eN] [(0, 1,x1)]) s fun H s =>
 zu true 4 1 (zP (rep [(.d (.str [])),iN 0,eN,eN] 1) [(0, 4,H)]) s fun I s =>
 zdb 4 72 G I s fun J s =>
 nfl 0 x0 s fun K s =>
 zco (.sl 4) K (some m) none none s fun L s =>
 zdb 4 72 J L s fun M s =>
 zbF x0 s fun N s =>
 zl 0 N s fun O s =>
 zo 1 O M s fun _ s =>
 zC (zP [iN 0,iN 0] []) s fun R s =>
 zo 2 a R s fun _ s =>
 Z (zB (zal a s true 2) (some [])) s)))
theorem zgw : F2 Tryz.prog zer zgz := formM_of [.l [5] [(19, 21)]] Tryz.func157
def zlh (P : Program) (x0 x1 : AV) (σ : LO) (Z : ZT) : Prop :=
 zaT [(iN 0)] σ fun v s a =>
 zar v fun b v => nfl 0 x0 s fun c s =>
 zau .sl c s fun d s =>
 bP .lss b d s fun e s =>
 zn e (nfl 0 x0 s fun f s =>
 zF none 4 f b s fun g s =>
 fl 0 g s fun h s =>
 bP .eql h x1 s fun i s =>
 zn i (z1 Z b s) (bP .add b (iN 1) s fun j s =>
 a [j] s)) (z1 Z (iN (-1)) s)
theorem zrw : F2 Tryz.prog zeN zlh := zj [.l [5] [(4, 1),(6, 20)]] Tryz.func158
def zgC (P : Program) (x0 x1 x2 : AV) (σ : LO) (Z : ZT) : Prop :=
 zaJ x2 σ fun a s =>
 zW [iN 0,iN 0] s fun b s =>
 nfl 0 x0 s fun c s =>
 il true 4 4 c x1 s fun d s =>
 cp [(.d (.str [])),iN 0,eN,eN] 4 d s fun e s =>
 fl 4 a s fun f s =>
 zau .sl f s fun g s =>
 fl 2 e s fun h s =>
 zau .sl h s fun i s =>
 bP .add i g s fun j s =>
 bP .gtr j (iN 64) s fun l s =>
 gF l (zp true 4 e s) s fun m s =>
 gF l (cA P zbK [m] s) s fun n s =>
 gFm l g s fun o s =>
 gF l (bP .sub (iN 9007199254740992) o s) s fun p s =>
 gF l (bP .gtr n p s) s fun q s =>
 orC l q s fun r s =>
 zn r (cA P zde [(iN 71)] s fun u s =>
 zo 2 b u s fun _ s =>
 Z (zB (zal b s true 2) (zB (some eN) (some []))) s) (fl 2 e s fun y s =>
 zy 1 24 eN y s fun z s =>
 zaT [eN,z,(iN 0)] s fun v s A =>
 zar v fun B v => zar v fun C v => zar v fun D v => fl 4 a s fun E s =>
 zau .sl E s fun F s =>
 bP .lss D F s fun G s =>
 zn G (fl 4 a s fun H s =>
 il false 1 1 H D s fun I s =>
 zy 1 1 eN I s fun J s =>
 zl 0 e s fun K s =>
 zp false 1 K s fun L s =>
 zp true 4 e s fun M s =>
 cA P zbK [M] s fun N t =>
 zx K s t ∧ (bP .add N D t fun O s =>
 zC (zP [(.d (.str [])),iN 0,eN] [(0, 1,L),(1, 1,O),(2, 1,J)]) s fun Q s =>
 m1 3 [(.d (.str [])),iN 0,eN] Q s fun R s =>
 zy 3 48 B R s fun S s =>
 m1 1 [eN] J s fun T s =>
 zy 1 24 C T s fun U s =>
 bP .add D (iN 1) s fun V s =>
 A [S,U,V] s)) (nfl 0 x0 s fun W s =>
 zF none 4 W x1 s fun X s =>
 zl 2 X s fun Y s =>
 zo 1 Y C s fun _ s =>
 zp true 4 e s fun b0 s =>
 cA P zbK [b0] s fun c0 s =>
 zC (zP [iN 0,iN 0] [(1, 1,c0)]) s fun d0 s =>
 zo 2 b d0 s fun _ s =>
 Z (zB (zal b s true 2) (zB (some B) (some []))) s))
theorem zgx : F3 Tryz.prog zdQ zgC := zj [.l [10, 11, 12] [(13, 1),(42, 29)], .d [(0, 4),(5, 1),(7, 1),(4, 1),(6, 1),(8, 4)] [(4, [57])]] Tryz.func159
end Go.Proofs.YtfjommppajkpoaaGreat
