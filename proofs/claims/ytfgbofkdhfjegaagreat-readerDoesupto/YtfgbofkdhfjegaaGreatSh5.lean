/- The conditions of each function, its slots as variables, and that the logic's conditions are these. Printed by program. -/
import Derived.Test.YtfgbofkdhfjegaaGreatNm
import Derived.KernelRfl
set_option linter.all false
set_option maxRecDepth 100000
namespace Go.Proofs.YtfgbofkdhfjegaaGreat
open Go.AW
def ztj (P:Program) (x0:AV) (σ:LO) (Z:ZT):Prop:=
 cA P zhE [(iN 2),x0] σ fun a s=>
 z1 Z a s
theorem e_quorum_Big:F1 Tryz.prog znx ztj:=zi [] Tryz.func203
def zdb (P:Program) (x0 x1:AV) (σ:LO) (Z:ZT):Prop:=
 zai .sl x0 σ fun a s=>
 zaP [(iN 0)] s fun v s b=>
 zau v fun c v=>bP .lss c a s fun d s=>
 zj d (il true 2 2 x0 c s fun e s=>
 zap P x1 [dm e] s fun f s=>
 zj f (z1 Z c s) (bP .add c (iN 1) s fun g s=>
 b [g] s)) (z1 Z (iN (-1)) s)
theorem zfS:F2 Tryz.prog zbP zdb:=zi [.l [8] [(4, 2),(9, 10)]] Tryz.func204
def zwc (P:Program) (x0 x1:AV) (σ:LO) (Z:ZT):Prop:=
 cA P zca [x0] σ fun a s=>
 zco .neq .ptr a (.d .nilp) s fun b s=>
 gTm b x1 s fun c s=>
 gT b (cA P zck [c] s) s fun d s=>
 gT b (zco .neq .ptr d (.d .nilp) s) s fun e s=>
 anC b e s fun f s=>
 z1 Z f s
theorem e_auth_made:F2 Tryz.prog zpF zwc:=zi [] Tryz.func205
def zye (P:Program) (x0 x1 x2 x3:AV) (σ:LO) (Z:ZT):Prop:=
 zr false 1 4 (zS (rep [iN 0] 4) [(0, 1,x0),(1, 1,x1),(2, 1,x2),(3, 1,x3)]) σ fun a s=>
 zai .sl a s fun b s=>
 zaP [(iN 0)] s fun v s c=>
 zau v fun d v=>bP .lss d b s fun e s=>
 zj e (il false 1 1 a d s fun f s=>
 bP .lss f (iN 0) s fun g s=>
 gFm g f s fun h s=>
 gF g (bP .gtr h (iN 9007199254740992) s) s fun i s=>
 orC g i s fun j s=>
 zj j (z1 Z bF s) (bP .add d (iN 1) s fun l s=>
 c [l] s)) (z1 Z bT s)
theorem e_auth_may:F4 Tryz.prog zsc zye:=zi [.l [17] [(8, 1),(10, 1),(18, 10)]] Tryz.func206
def zrz (P:Program) (x0 x1 x2 x3 x4:AV) (σ:LO) (Z:ZT):Prop:=
 zaS x2 σ fun a s=>
 cA P zbB [x0,x4] s fun b s=>
 zd b 0 s fun c s=>
 zd b 1 s fun d s=>
 gT d (zl true 2 a s) s fun e s=>
 gTm d x3 s fun f s=>
 gTm d c s fun g s=>
 gT d (zA (zS [iN 0,iN 0] [(0, 1,f),(1, 1,g)]) s) s fun h s=>
 gT d (zco .eql (.ints 2) e h s) s fun i s=>
 anC d i s fun j s=>
 gTm j x1 s fun l s=>
 gT j (zl true 2 a s) s fun m s=>
 gT j (cA P zfj [l,m] s) s fun n s=>
 anC j n s fun o s=>
 z1 Z o s
theorem zyP:F5 Tryz.prog zmb zrz:=zi [] Tryz.func207
def zmS (P:Program) (x0 x1 x2 x3:AV) (σ:LO) (Z:ZT):Prop:=
 m1 1 [(.d (.int .u8 0))] (.d (.int .u8 4)) σ fun a s=>
 zr false 1 4 (zS (rep [iN 0] 4) [(0, 1,x0),(1, 1,x1),(2, 1,x2),(3, 1,x3)]) s fun b s=>
 cA P zsb [a,b] s fun c s=>
 z1 Z c s
theorem ztJ:F4 Tryz.prog zij zmS:=zi [] Tryz.func208
def ztm (P:Program) (x0:AV) (σ:LO) (Z:ZT):Prop:=
 zV [(.d (.int .u8 0)),(.d (.int .u8 0)),(.d (.int .u8 0)),(.d (.int .u8 0)),(.d (.int .u8 0)),(.d (.int .u8 0)),(.d (.int .u8 0)),(.d (.int .u8 0)),(.d (.int .u8 0)),(.d (.int .u8 0))] σ fun a s=>
 zV [(.d (.int .u8 0)),(.d (.int .u8 0)),(.d (.int .u8 0)),(.d (.int .u8 0)),(.d (.int .u8 0)),(.d (.int .u8 0)),(.d (.int .u8 0)),(.d (.int .u8 0)),(.d (.int .u8 0)),(.d (.int .u8 0))] s fun b s=>
 zaP [x0,(iN 0)] s fun v s c=>
 zau v fun d v=>zau v fun e v=>bP .gtr d (.d (.int .u64 127)) s fun f s=>
 zj f (zaf (.int .u8) d s fun g s=>
 bP .or g (.d (.int .u8 128)) s fun h s=>
 zC (some 10) 1 b e s fun i s=>
 zm 1 i h s fun _ s=>
 bP .shr d (.d (.int .u64 7)) s fun l s=>
 bP .add e (iN 1) s fun m s=>
 c [l,m] s) (zaf (.int .u8) d s fun n s=>
 zC (some 10) 1 b e s fun o s=>
 zm 1 o n s fun _ s=>
 zl true 10 b s fun q s=>
 bP .add e (iN 1) s fun r s=>
 zm 10 a q s fun _ s=>
 Z (zG (zak a s true 10) (zG (some r) (some []))) s)
theorem e_codec_form:F1 Tryz.prog znA ztm:=zi [.l [0, 5] [(6, 11)]] Tryz.func209
def zgX (P:Program) (x0:AV) (σ:LO) (Z:ZT):Prop:=
 zai .sl x0 σ fun a s=>
 zai .sl x0 s fun b s=>
 zcv (.sl 1) x0 none (some a) (some b) s fun c s=>
 z1 Z c s
theorem zgU:F1 Tryz.prog zee zgX:=zi [] Tryz.func210
def zxU (P:Program) (x0 x1:AV) (σ:LO) (Z:ZT):Prop:=
 zaS x0 σ fun a s=>
 zaS x1 s fun b s=>
 fl 0 a s fun c s=>
 fl 0 b s fun d s=>
 bP .neq c d s fun e s=>
 gFl e 1 a s fun f s=>
 gFl e 1 b s fun g s=>
 gF e (bP .neq f g s) s fun h s=>
 orC e h s fun i s=>
 gFl i 2 a s fun j s=>
 gFl i 2 b s fun l s=>
 gF i (bP .neq j l s) s fun m s=>
 orC i m s fun n s=>
 gFl n 3 a s fun o s=>
 gFl n 3 b s fun p s=>
 gF n (bP .neq o p s) s fun q s=>
 orC n q s fun r s=>
 gFl r 4 a s fun u s=>
 gF r (zai .sl u s) s fun w s=>
 gFl r 4 b s fun y s=>
 gF r (zai .sl y s) s fun z s=>
 gF r (bP .neq w z s) s fun A s=>
 orC r A s fun B s=>
 zj B (z1 Z bF s) (zaP [(iN 0)] s fun v s C=>
 zau v fun D v=>fl 4 a s fun E s=>
 zai .sl E s fun F s=>
 bP .lss D F s fun G s=>
 zj G (fl 4 a s fun H s=>
 il false 1 1 H D s fun I s=>
 zaf .toStr I s fun J s=>
 fl 4 b s fun K s=>
 il false 1 1 K D s fun L s=>
 zaf .toStr L s fun M s=>
 bP .neq J M s fun N s=>
 zj N (z1 Z bF s) (bP .add D (iN 1) s fun O s=>
 C [O] s)) (z1 Z bT s))
theorem e_r06_Same:F2 Tryz.prog zrV zxU:=zi [.l [5] [(4, 1),(41, 20)],.d [(0, 13)] []] Tryz.func211
def zvL (P:Program) (x0:AV) (σ:LO) (Z:ZT):Prop:=
 zai .sl x0 σ fun a s=>
 bP .gtr a (iN 13) s fun b s=>
 zj b (z1 Z (iN 100) s) (zaP [(iN 0)] s fun v s c=>
 zau v fun d v=>zai .sl x0 s fun e s=>
 bP .lss d e s fun f s=>
 zj f (il true 2 2 x0 d s fun g s=>
 cA P zdO [g] s fun h s=>
 bP .neq h (iN 0) s fun i s=>
 zj i (z1 Z h s) (bP .add d (iN 1) s fun j s=>
 c [j] s)) (z1 Z (iN 0) s))
theorem e_r10_signs:F1 Tryz.prog zlR zvL:=zi [.l [3] [(2, 1),(4, 1),(8, 14)]] Tryz.func214
def zxJ (P:Program) (x0:AV) (σ:LO) (Z:ZT):Prop:=
 zaS x0 σ fun a s=>
 fl 0 a s fun b s=>
 bP .eql b (iN 0) s fun c s=>
 gTl c 1 a s fun d s=>
 gT c (bP .eql d (iN 0) s) s fun e s=>
 anC c e s fun f s=>
 gTl f 2 a s fun g s=>
 gT f (zai .sl g s) s fun h s=>
 gT f (bP .eql h (iN 0) s) s fun i s=>
 anC f i s fun j s=>
 z1 Z j s
theorem e_r14_zero:F1 Tryz.prog zrO zxJ:=zi [] Tryz.func215
def S_r12_Big (P:Program) (x0:AV) (σ:LO) (Z:ZT):Prop:=
 cA P zgn [x0] σ fun a s=>
 bP .neq a (iN 0) s fun b s=>
 zj b (z1 Z (iN 0) s) (bP .mul (iN 2) x0 s fun c s=>
 bP .add c (iN 1) s fun d s=>
 z1 Z d s)
theorem e_r12_Big:F1 Tryz.prog zuv S_r12_Big:=zi [] Tryz.func216
def zmC (P:Program) (x0 x1 x2 x3:AV) (σ:LO) (Z:ZT):Prop:=
 bP .geq x1 (iN 1) σ fun a s=>
 gTm a x1 s fun b s=>
 gT a (bP .leq b (iN 9007199254740992) s) s fun c s=>
 anC a c s fun d s=>
 gTm d x1 s fun e s=>
 gT d (bP .rem e (iN 4) s) s fun f s=>
 gT d (bP .eql f (iN 0) s) s fun g s=>
 anC d g s fun h s=>
 gTm h x2 s fun i s=>
 gT h (bP .geq i (iN 1) s) s fun j s=>
 anC h j s fun l s=>
 gTm l x2 s fun m s=>
 gT l (bP .leq m (iN 9007199254740992) s) s fun n s=>
 anC l n s fun o s=>
 gTm o x3 s fun p s=>
 gT o (bP .geq p (iN 0) s) s fun q s=>
 anC o q s fun r s=>
 gTm r x3 s fun u s=>
 gTm r x0 s fun w s=>
 gT r (zbg w s) s fun y s=>
 gTl r 0 y s fun z s=>
 gT r (cA P zgF [z] s) s fun A s=>
 gT r (bP .lss u A s) s fun B s=>
 anC r B s fun C s=>
 z1 Z C s
theorem ztw:F4 Tryz.prog zif zmC:=zi [] Tryz.func217
def zta (P:Program) (x0 x1 x2 x3 x4:AV) (σ:LO) (Z:ZT):Prop:=
 zaS x2 σ fun a s=>
 cA P zbV [x0,x4] s fun b s=>
 zd b 0 s fun c s=>
 zd b 1 s fun d s=>
 gTl d 0 a s fun e s=>
 gTm d x3 s fun f s=>
 gT d (bP .eql e f s) s fun g s=>
 anC d g s fun h s=>
 gTl h 1 a s fun i s=>
 gTm h c s fun j s=>
 gT h (bP .eql i j s) s fun l s=>
 anC h l s fun m s=>
 gTm m x1 s fun n s=>
 gT m (zl true 2 a s) s fun o s=>
 gT m (cA P zeh [n,o] s) s fun p s=>
 anC m p s fun q s=>
 z1 Z q s
theorem e_r11_signed:F5 Tryz.prog znq zta:=zi [] Tryz.func218
def zvW (P:Program) (x0:AV) (σ:LO) (Z:ZT):Prop:=
 zaS x0 σ fun a s=>
 fl 0 a s fun b s=>
 cA P zkg [b] s fun c s=>
 zd c 0 s fun d s=>
 zd c 1 s fun e s=>
 zd c 2 s fun f s=>
 zd c 3 s fun g s=>
 fl 0 a s fun h s=>
 bP .lss h (iN 0) s fun i s=>
 gFl i 0 a s fun j s=>
 gF i (bP .gtr j (iN 4) s) s fun l s=>
 orC i l s fun m s=>
 gFm m d s fun n s=>
 gF m (unC .not n s) s fun o s=>
 gFm m o s fun p s=>
 gTl p 1 a s fun q s=>
 gT p (bP .neq q (.d (.str [])) s) s fun r s=>
 gF m (anC p r s) s fun u s=>
 orC m u s fun w s=>
 gFm w e s fun y s=>
 gF w (unC .not y s) s fun z s=>
 gFm w z s fun A s=>
 gTl A 2 a s fun B s=>
 gT A (bP .neq B (.d (.str [])) s) s fun C s=>
 gF w (anC A C s) s fun D s=>
 orC w D s fun E s=>
 gFm E f s fun F s=>
 gF E (unC .not F s) s fun G s=>
 gFm E G s fun H s=>
 gTl H 3 a s fun I s=>
 gT H (bP .neq I (iN 0) s) s fun J s=>
 gF E (anC H J s) s fun K s=>
 orC E K s fun L s=>
 gFm L g s fun M s=>
 gF L (unC .not M s) s fun N s=>
 gFm L N s fun O s=>
 gTl O 4 a s fun Q s=>
 gT O (zai .sl Q s) s fun R s=>
 gT O (bP .gtr R (iN 0) s) s fun S s=>
 gF L (anC O S s) s fun T s=>
 orC L T s fun U s=>
 zj U (z1 Z (iN 60) s) (gTl d 1 a s fun V s=>
 gT d (cA P zjg [V] s) s fun W s=>
 gT d (unC .not W s) s fun X s=>
 anC d X s fun Y s=>
 gFm Y e s fun a0 s=>
 gFm Y a0 s fun b0 s=>
 gTl b0 2 a s fun c0 s=>
 gT b0 (cA P zjg [c0] s) s fun d0 s=>
 gT b0 (unC .not d0 s) s fun e0 s=>
 gF Y (anC b0 e0 s) s fun f0 s=>
 orC Y f0 s fun g0 s=>
 zj g0 (z1 Z (iN 61) s) (gTl g 4 a s fun h0 s=>
 gT g (zai .sl h0 s) s fun i0 s=>
 gT g (bP .lss i0 (iN 1) s) s fun j0 s=>
 gTm g j0 s fun l0 s=>
 gFl l0 4 a s fun m0 s=>
 gF l0 (zai .sl m0 s) s fun o0 s=>
 gF l0 (bP .gtr o0 (iN 4) s) s fun p0 s=>
 gT g (orC l0 p0 s) s fun q0 s=>
 anC g q0 s fun r0 s=>
 zj r0 (z1 Z (iN 62) s) (zaP [(iN 0)] s fun v s u0=>
 zau v fun w0 v=>fl 4 a s fun y0 s=>
 zai .sl y0 s fun z0 s=>
 bP .lss w0 z0 s fun A0 s=>
 zj A0 (fl 4 a s fun B0 s=>
 il false 1 1 B0 w0 s fun C0 s=>
 zai .sl C0 s fun D0 s=>
 bP .gtr D0 (iN 64) s fun E0 s=>
 zj E0 (z1 Z (iN 62) s) (bP .add w0 (iN 1) s fun F0 s=>
 u0 [F0] s)) (fl 3 a s fun G0 s=>
 bP .lss G0 (iN 0) s fun H0 s=>
 gFl H0 3 a s fun I0 s=>
 gF H0 (bP .gtr I0 (iN 9007199254740992) s) s fun J0 s=>
 orC H0 J0 s fun K0 s=>
 zj K0 (z1 Z (iN 60) s) (z1 Z (iN 0) s)))))
theorem e_r06_Check:F1 Tryz.prog zjr zvW:=zi [.l [7] [(2, 1),(90, 14)]] Tryz.func219
def ztf (P:Program) (x0:AV) (σ:LO) (Z:ZT):Prop:=
 bP .eql x0 (iN 1) σ fun a s=>
 zj a (Z (zG (some bT) (zG (some bF) (zG (some bF) (zG (some bF) (some []))))) s) (bP .eql x0 (iN 2) s fun b s=>
 zj b (Z (zG (some bT) (zG (some bF) (zG (some bF) (zG (some bT) (some []))))) s) (bP .eql x0 (iN 3) s fun c s=>
 zj c (Z (zG (some bT) (zG (some bT) (zG (some bT) (zG (some bF) (some []))))) s) (bP .eql x0 (iN 4) s fun d s=>
 zj d (Z (zG (some bT) (zG (some bF) (zG (some bT) (zG (some bF) (some []))))) s) (Z (zG (some bF) (zG (some bF) (zG (some bF) (zG (some bF) (some []))))) s))))
theorem e_r06_fields:F1 Tryz.prog zkg ztf:=zi [] Tryz.func220
def zrq (P:Program) (x0 x1:AV) (σ:LO) (Z:ZT):Prop:=
 zaS x1 σ fun a s=>
 zl true 2 a s fun b s=>
 cA P zdO [b] s fun c s=>
 bP .neq c (iN 0) s fun d s=>
 zj d (z1 Z x0 s) (fl 0 a s fun e s=>
 zaf (.int .u64) e s fun f s=>
 ze 1 a s fun g s=>
 zl false 1 g s fun h s=>
 zaf (.int .u64) h s fun i s=>
 cA P zbj [x0,f] s fun j t=>
 zH g s t/\(cA P zbj [j,i] t fun l s=>
 z1 Z l s))
theorem zyH:F2 Tryz.prog zlT zrq:=zi [.d [(0, 4),(5, 3),(4, 1),(8, 2)] [(4,[14])]] Tryz.func221
def ziF (P:Program) (x0 x1:AV) (σ:LO) (Z:ZT):Prop:=
 zV [iN 0,iN 0] σ fun a s=>
 zp P zgK [x0,x1] s fun b s=>
 bP .geq b (iN 0) s fun c s=>
 zj c (zp P zez [(iN 5)] s fun d s=>
 zm 2 a d s fun _ s=>
 Z (zG (zak a s true 2) (some [])) s) (nfl 0 x0 s fun f s=>
 zai .sl f s fun g s=>
 bP .geq g (iN 8) s fun h s=>
 zj h (zp P zez [(iN 6)] s fun i s=>
 zm 2 a i s fun _ s=>
 Z (zG (zak a s true 2) (some [])) s) (zaP [(iN 0)] s fun v s l=>
 zau v fun m v=>nfl 0 x0 s fun n s=>
 zai .sl n s fun o s=>
 bP .lss m o s fun p s=>
 gTm p x0 s fun q s=>
 gT p (zbg q s) s fun r s=>
 gTl p 0 r s fun u s=>
 gTm p m s fun w s=>
 gT p (zC none 4 u w s) s fun y s=>
 gTl p 0 y s fun z s=>
 gTm p x1 s fun A s=>
 gT p (bP .lss z A s) s fun B s=>
 anC p B s fun C s=>
 zj C (bP .add m (iN 1) s fun D s=>
 l [D] s) (nfl 0 x0 s fun E s=>
 zcv (.sl 4) E none (some m) none s fun F s=>
 zer 4 72 eN F s fun G s=>
 zA (zS [(.d (.str [])),iN 0,eN,eN] [(0, 1,x1)]) s fun H s=>
 zr true 4 1 (zS (rep [(.d (.str [])),iN 0,eN,eN] 1) [(0, 4,H)]) s fun I s=>
 zer 4 72 G I s fun J s=>
 nfl 0 x0 s fun K s=>
 zcv (.sl 4) K (some m) none none s fun L s=>
 zer 4 72 J L s fun M s=>
 zbg x0 s fun N s=>
 ze 0 N s fun O s=>
 zm 1 O M s fun _ s=>
 zA (zS [iN 0,iN 0] []) s fun R s=>
 zm 2 a R s fun _ s=>
 Z (zG (zak a s true 2) (some [])) s)))
theorem ziA:F2 Tryz.prog zgo ziF:=zmi [.l [5] [(19, 21)]] Tryz.func222
def znZ (P:Program) (x0 x1:AV) (σ:LO) (Z:ZT):Prop:=
 zaP [(iN 0)] σ fun v s a=>
 zau v fun b v=>nfl 0 x0 s fun c s=>
 zai .sl c s fun d s=>
 bP .lss b d s fun e s=>
 zj e (nfl 0 x0 s fun f s=>
 zC none 4 f b s fun g s=>
 fl 0 g s fun h s=>
 bP .eql h x1 s fun i s=>
 zj i (z1 Z b s) (bP .add b (iN 1) s fun j s=>
 a [j] s)) (z1 Z (iN (-1)) s)
theorem zuX:F2 Tryz.prog zgK znZ:=zi [.l [5] [(4, 1),(6, 20)]] Tryz.func223
def ziL (P:Program) (x0 x1 x2:AV) (σ:LO) (Z:ZT):Prop:=
 zaS x2 σ fun a s=>
 zV [iN 0,iN 0] s fun b s=>
 nfl 0 x0 s fun c s=>
 il true 4 4 c x1 s fun d s=>
 cp [(.d (.str [])),iN 0,eN,eN] 4 d s fun e s=>
 fl 4 a s fun f s=>
 zai .sl f s fun g s=>
 fl 2 e s fun h s=>
 zai .sl h s fun i s=>
 bP .add i g s fun j s=>
 bP .gtr j (iN 64) s fun l s=>
 gF l (zl true 4 e s) s fun m s=>
 gF l (cA P zcL [m] s) s fun n s=>
 gFm l g s fun o s=>
 gF l (bP .sub (iN 9007199254740992) o s) s fun p s=>
 gF l (bP .gtr n p s) s fun q s=>
 orC l q s fun r s=>
 zj r (cA P zez [(iN 71)] s fun u s=>
 zm 2 b u s fun _ s=>
 Z (zG (zak b s true 2) (zG (some eN) (some []))) s) (fl 2 e s fun y s=>
 zD 1 24 eN y s fun z s=>
 zaP [eN,z,(iN 0)] s fun v s A=>
 zau v fun B v=>zau v fun C v=>zau v fun D v=>fl 4 a s fun E s=>
 zai .sl E s fun F s=>
 bP .lss D F s fun G s=>
 zj G (fl 4 a s fun H s=>
 il false 1 1 H D s fun I s=>
 zD 1 1 eN I s fun J s=>
 ze 0 e s fun K s=>
 zl false 1 K s fun L s=>
 zl true 4 e s fun M s=>
 cA P zcL [M] s fun N t=>
 zH K s t/\(bP .add N D t fun O s=>
 zA (zS [(.d (.str [])),iN 0,eN] [(0, 1,L),(1, 1,O),(2, 1,J)]) s fun Q s=>
 m1 3 [(.d (.str [])),iN 0,eN] Q s fun R s=>
 zD 3 48 B R s fun S s=>
 m1 1 [eN] J s fun T s=>
 zD 1 24 C T s fun U s=>
 bP .add D (iN 1) s fun V s=>
 A [S,U,V] s)) (nfl 0 x0 s fun W s=>
 zC none 4 W x1 s fun X s=>
 ze 2 X s fun Y s=>
 zm 1 Y C s fun _ s=>
 zl true 4 e s fun b0 s=>
 cA P zcL [b0] s fun c0 s=>
 zA (zS [iN 0,iN 0] [(1, 1,c0)]) s fun d0 s=>
 zm 2 b d0 s fun _ s=>
 Z (zG (zak b s true 2) (zG (some B) (some []))) s))
theorem ziC:F3 Tryz.prog zfH ziL:=zi [.l [10, 11, 12] [(13, 1),(42, 29)],.d [(0, 4),(5, 1),(7, 1),(4, 1),(6, 1),(8, 4)] [(4,[57])]] Tryz.func224
def zjI (P:Program) (x0 x1 x2:AV) (σ:LO) (Z:ZT):Prop:=
 zaS x2 σ fun a s=>
 zV [iN 0,iN 0] s fun b s=>
 nfl 0 x0 s fun c s=>
 il true 4 4 c x1 s fun d s=>
 cp [(.d (.str [])),iN 0,eN,eN] 4 d s fun e s=>
 zaP [(iN 0)] s fun v s f=>
 zau v fun g v=>fl 3 e s fun h s=>
 zai .sl h s fun i s=>
 bP .lss g i s fun j s=>
 gTl j 3 e s fun l s=>
 gTm j g s fun m s=>
 gT j (zC none 2 l m s) s fun n s=>
 gTl j 0 n s fun o s=>
 gTl j 2 a s fun p s=>
 gT j (bP .lss o p s) s fun q s=>
 anC j q s fun r s=>
 zj r (bP .add g (iN 1) s fun u s=>
 f [u] s) (fl 3 e s fun w s=>
 zai .sl w s fun y s=>
 bP .lss g y s fun z s=>
 gTl z 3 e s fun A s=>
 gTm z g s fun B s=>
 gT z (zC none 2 A B s) s fun C s=>
 gTl z 0 C s fun D s=>
 gTl z 2 a s fun E s=>
 gT z (bP .eql D E s) s fun F s=>
 anC z F s fun G s=>
 (fun (H:AV->LO->Prop)=>zj G (fl 3 e s fun H0 s=>
 zC none 2 H0 g s fun I0 s=>
 fl 1 I0 s fun J0 s=>
 H J0 s) (H (iN 0) s))
 (fun I s=>fl 3 a s fun J s=>
 bP .lss J I s fun K s=>
 gF K (ze 3 a s) s fun L s=>
 gF K (zl false 1 L s) s fun M s=>
 gF K (zl true 4 e s) s fun N s=>
 gF K (cA P zcL [N] s) s fun O t=>
 zH L s t/\(gF K (bP .gtr M O t) t fun Q s=>
 orC K Q s fun R s=>
 zj R (cA P zez [(iN 72)] s fun S s=>
 zm 2 b S s fun _ s=>
 Z (zG (zak b s true 2) (some [])) s) (unC .not G s fun U s=>
 gTl U 3 e s fun V s=>
 gT U (zai .sl V s) s fun W s=>
 gT U (bP .geq W (iN 8) s) s fun X s=>
 anC U X s fun Y s=>
 zj Y (cA P zez [(iN 6)] s fun a0 s=>
 zm 2 b a0 s fun _ s=>
 Z (zG (zak b s true 2) (some [])) s) (fl 3 e s fun c0 s=>
 zcv (.sl 2) c0 none (some g) none s fun d0 s=>
 ze 2 a s fun e0 s=>
 zl false 1 e0 s fun f0 s=>
 ze 3 a s fun g0 s=>
 zl false 1 g0 s fun h0 s=>
 zA (zS [(.d (.str [])),iN 0] [(0, 1,f0),(1, 1,h0)]) s fun i0 s=>
 m1 2 [(.d (.str [])),iN 0] i0 s fun j0 s=>
 zD 2 24 eN d0 s fun l0 t=>
 zH e0 s t/\(zH g0 s t/\(zD 2 24 l0 j0 t fun m0 s=>
 (fun (o0:AV->LO->Prop)=>zj G (bP .add g (iN 1) s fun G0 s=>
 o0 G0 s) (o0 g s))
 (fun p0 s=>zbg x0 s fun q0 s=>
 ze 0 q0 s fun r0 s=>
 zl false 1 r0 s fun u0 s=>
 fl 3 e s fun w0 s=>
 zcv (.sl 2) w0 (some p0) none none s fun y0 s=>
 zD 2 24 m0 y0 s fun z0 t=>
 zH r0 s t/\(zC none 4 u0 x1 t fun A0 s=>
 ze 3 A0 s fun B0 s=>
 zm 1 B0 z0 s fun _ s=>
 fl 3 a s fun D0 s=>
 zA (zS [iN 0,iN 0] [(1, 1,D0)]) s fun E0 s=>
 zm 2 b E0 s fun _ s=>
 Z (zG (zak b s true 2) (some [])) s)))))))))
theorem zjC:F3 Tryz.prog zgp zjI:=zi [.l [8] [(19, 18)],.d [(0, 16)] [],.d [(0, 17)] [],.d [(0, 11)] [(8,[65])],.d [(0, 5),(6, 6),(5, 1),(12, 2)] [(5,[87, 89])],.d [(0, 14)] [(10,[99])]] Tryz.func225
def zmG (P:Program) (x0:AV) (σ:LO) (Z:ZT):Prop:=
 zaS x0 σ fun a s=>
 fl 1 a s fun b s=>
 fl 2 a s fun c s=>
 zai .sl c s fun d s=>
 bP .add b d s fun e s=>
 z1 Z e s
theorem ztA:F1 Tryz.prog zcL zmG:=zi [] Tryz.func226
def zxT (P:Program) (x0:AV) (σ:LO) (Z:ZT):Prop:=
 bP .lss x0 (.d (.int .u8 128)) σ fun a s=>
 zj a (z1 Z (iN 1) s) (bP .geq x0 (.d (.int .u8 194)) s fun b s=>
 gTm b x0 s fun c s=>
 gT b (bP .lss c (.d (.int .u8 224)) s) s fun d s=>
 anC b d s fun e s=>
 zj e (z1 Z (iN 2) s) (bP .geq x0 (.d (.int .u8 224)) s fun f s=>
 gTm f x0 s fun g s=>
 gT f (bP .lss g (.d (.int .u8 240)) s) s fun h s=>
 anC f h s fun i s=>
 zj i (z1 Z (iN 3) s) (bP .geq x0 (.d (.int .u8 240)) s fun j s=>
 gTm j x0 s fun l s=>
 gT j (bP .lss l (.d (.int .u8 245)) s) s fun m s=>
 anC j m s fun n s=>
 zj n (z1 Z (iN 4) s) (z1 Z (iN 0) s))))
theorem e_r06_size:F1 Tryz.prog zrU zxT:=zi [] Tryz.func227
def zhd (P:Program) (x0 x1:AV) (σ:LO) (Z:ZT):Prop:=
 zai .sl x0 σ fun a s=>
 zaP [(iN 0)] s fun v s b=>
 zau v fun c v=>bP .lss c a s fun d s=>
 zj d (il false 1 1 x0 c s fun e s=>
 bP .eql x1 e s fun f s=>
 zj f (z1 Z c s) (bP .add c (iN 1) s fun g s=>
 b [g] s)) (z1 Z (iN (-1)) s)
theorem zmZ:F2 Tryz.prog zeH zhd:=zi [.l [8] [(4, 2),(9, 10)]] Tryz.func229
def zaX (P:Program) (x0 x1 x2:AV) (σ:LO) (Z:ZT):Prop:=
 zai .sl x0 σ fun a s=>
 zai .sl x1 s fun b s=>
 bP .neq a b s fun c s=>
 zj c (z1 Z bF s) (zai .sl x0 s fun d s=>
 zaP [(iN 0)] s fun v s e=>
 zau v fun f v=>bP .lss f d s fun g s=>
 zj g (il false 1 1 x0 f s fun h s=>
 il false 1 1 x1 f s fun i s=>
 zap P x2 [dm h,dm i] s fun j s=>
 unC .not j s fun l s=>
 zj l (z1 Z bF s) (bP .add f (iN 1) s fun m s=>
 e [m] s)) (z1 Z bT s))
theorem zcm:F3 Tryz.prog zax zaX:=zi [.l [17] [(6, 4),(18, 14)]] Tryz.func230
def zwb (P:Program) (x0 x1:AV) (σ:LO) (Z:ZT):Prop:=
 cA P zgQ [x0,x1] σ fun a s=>
 z1 Z a s
theorem e_op_Same_1:F2 Tryz.prog zlX zwb:=zi [] Tryz.func231
def zid (P:Program) (x0 x1:AV) (σ:LO) (Z:ZT):Prop:=
 zaS x1 σ fun a s=>
 cA P zct [x0] s fun b s=>
 unC .not b s fun c s=>
 gTm c x0 s fun d s=>
 gT c (zbg d s) s fun e s=>
 gTl c 1 e s fun f s=>
 gT c (zl true 2 a s) s fun g s=>
 gT c (zaN (.ints 2) false bF f g s) s fun h s=>
 anC c h s fun i s=>
 z1 Z i s
theorem znI:F2 Tryz.prog zfj zid:=zi [.d [(0, 12)] []] Tryz.func232
def zyd (P:Program) (x0 x1:AV) (σ:LO) (Z:ZT):Prop:=
 zai .sl x1 σ fun a s=>
 zaP [x0,(iN 0)] s fun v s b=>
 zau v fun c v=>zau v fun d v=>bP .lss d a s fun e s=>
 zj e (il false 1 1 x1 d s fun f s=>
 zcY [(iN 0),f] s fun g s=>
 zaf (.int .u64) g s fun h s=>
 cA P zcX [c,h] s fun i s=>
 bP .add d (iN 1) s fun j s=>
 b [i,j] s) (z1 Z c s)
theorem e_auth_put:F2 Tryz.prog zsb zyd:=zi [.l [0, 9] [(6, 1),(10, 9)]] Tryz.func233
end Go.Proofs.YtfgbofkdhfjegaaGreat
