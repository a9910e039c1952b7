/- The conditions of each function, its slots as variables, and that the logic's conditions are these. Printed by program. -/
import Derived.Test.YtpgahkdjkanblaaGreatNm
import Derived.KernelRfl
set_option linter.all false
set_option maxRecDepth 100000
namespace Go.Proofs.YtpgahkdjkanblaaGreat
open Go.AW
def zzh (P:Program) (x0 x1:AV) (σ:LO) (Z:ZT):Prop :=
 zaH x0 σ fun a s =>
 zaH x1 s fun b s =>
 zT [iN 0,iN 0,iN 0,iN 0,iN 0,iN 0,iN 0,iN 0,iN 0,eN,iN 0,iN 0,eN,eN,eN,eN,(.d (.str [])),iN 0,(.d (.str [])),iN 0,eN,eN,iN 0,iN 0,eN,iN 0,iN 0,eN,iN 0,iN 0] s fun c s =>
 fl 0 a s fun d s =>
 bP .neq d (iN 7) s fun e s =>
 zi e (zf true 2 b s fun f s =>
 zb 28 a s fun g s =>
 zj 2 g f s fun _ s =>
 zf true 30 a s fun i s =>
 zj 30 c i s fun _ s =>
 Z (zA (zae c s true 30) (some [])) s) (fl 13 a s fun l s =>
 zG 8 96 eN l s fun m s =>
 zb 13 a s fun n s =>
 zj 1 n m s fun _ s =>
 zaT [(iN 0)] s fun v s p =>
 zax v fun q v=>fl 13 a s fun r s =>
 zal .sl r s fun u s =>
 bP .lss q u s fun w s =>
 zi w (fl 13 a s fun y s =>
 zf true 2 b s fun z s =>
 zE none 8 y q s fun A s =>
 zb 6 A s fun B s =>
 zj 2 B z s fun _ s =>
 bP .add q (iN 1) s fun D s =>
 p [D] s) (zf true 30 a s fun E s =>
 zj 30 c E s fun _ s =>
 Z (zA (zae c s true 30) (some [])) s))
theorem zyv:F2 Tryz.prog ztt zzh:=zg [.l [6] [(18, 13)]] Tryz.func81 (by decide +kernel) (by kernel_rfl) fun {_ _ _ _ _}=>cast (by kernel_rfl)
def zlF (P:Program) (x0 x1:AV) (σ:LO) (Z:ZT):Prop :=
 zaH x0 σ fun a s =>
 zaH x1 s fun b s =>
 fl 0 a s fun c s =>
 fl 0 b s fun d s =>
 bP .eql c d s fun e s =>
 gTl e 1 a s fun f s =>
 gTl e 1 b s fun g s =>
 gT e (bP .eql f g s) s fun h s =>
 anC e h s fun i s =>
 gTl i 2 a s fun j s =>
 gTl i 2 b s fun l s =>
 gT i (bP .eql j l s) s fun m s =>
 anC i m s fun n s =>
 gT n (zb 3 a s) s fun o s =>
 gT n (zf true 2 o s) s fun p s =>
 gT n (zb 3 b s) s fun q s =>
 gT n (zf true 2 q s) s fun r s =>
 gT n (zcB .eql (.ints 2) p r s) s fun u s =>
 anC n u s fun w s =>
 gTl w 5 a s fun y s =>
 gTl w 5 b s fun z s =>
 gT w (cA P zhf [y,z] s) s fun A s =>
 anC w A s fun B s =>
 gTl B 6 a s fun C s =>
 gTl B 6 b s fun D s =>
 gT B (cA P zmi [C,D] s) s fun E s =>
 anC B E s fun F s =>
 z1 Z F s
theorem zlr:F2 Tryz.prog zhi zlF:=zg [] Tryz.func82 (by decide +kernel) (by kernel_rfl) fun {_ _ _ _ _}=>cast (by kernel_rfl)
def zkV (P:Program) (x0:AV) (σ:LO) (Z:ZT):Prop :=
 zaH x0 σ fun a s =>
 zT [iN 0] s fun b s =>
 zf true 30 a s fun c s =>
 cA P zdB [b,c] s fun _ s =>
 fl 0 b s fun e s =>
 bP .eql e (iN 0) s fun f s =>
 gT f (zf true 30 a s) s fun g s =>
 gT f (zf true 30 a s) s fun h s =>
 gT f (cA P ziD [h] s) s fun i t =>
 zI a s t/\(gT f (cA P zlS [g,i] t) t fun j s =>
 gT f (unC .not j s) s fun l s =>
 anC f l s fun m s =>
 zi m (z1 Z (iN 100) s) (fl 0 b s fun n s =>
 z1 Z n s))
theorem zhv:F1 Tryz.prog zfX zkV:=zg [.d [(0, 10)] [(6,[1])]] Tryz.func86 (by decide +kernel) (by kernel_rfl) fun {_ _ _ _}=>cast (by kernel_rfl)
def zta (P:Program) (x0 x1 x2 x3 x4:AV) (σ:LO) (Z:ZT):Prop :=
 zaH x2 σ fun a s =>
 cA P zdp [x0,x4] s fun b s =>
 zc b 0 s fun c s =>
 zc b 1 s fun d s =>
 gT d (zf true 2 a s) s fun e s =>
 gTm d x3 s fun f s =>
 gTm d c s fun g s =>
 gT d (zy (zP [iN 0,iN 0] [(0, 1,f),(1, 1,g)]) s) s fun h s =>
 gT d (zcB .eql (.ints 2) e h s) s fun i s =>
 anC d i s fun j s =>
 gTm j x1 s fun l s =>
 gT j (zf true 2 a s) s fun m s =>
 gT j (cA P zep [l,m] s) s fun n s =>
 anC j n s fun o s =>
 z1 Z o s
theorem zsC:F5 Tryz.prog zjS zta:=zg [] Tryz.func87 (by decide +kernel) (by kernel_rfl) fun {_ _ _ _ _ _ _ _}=>cast (by kernel_rfl)
def zzw (P:Program) (x0:AV) (σ:LO) (Z:ZT):Prop :=
 zaH x0 σ fun a s =>
 zT [iN 0,iN 0] s fun b s =>
 fl 0 a s fun c s =>
 bP .eql c (iN 7) s fun d s =>
 gTl d 13 a s fun e s =>
 gT d (zal .sl e s) s fun f s =>
 gT d (bP .eql f (iN 1) s) s fun g s =>
 anC d g s fun h s =>
 zi h (fl 13 a s fun i s =>
 zE none 8 i (iN 0) s fun j s =>
 zb 6 j s fun l s =>
 zf true 2 l s fun m s =>
 zj 2 b m s fun _ s =>
 Z (zA (zae b s true 2) (some [])) s) (zb 28 a s fun o s =>
 zf true 2 o s fun p s =>
 zj 2 b p s fun _ s =>
 Z (zA (zae b s true 2) (some [])) s)
theorem zyK:F1 Tryz.prog ztB zzw:=zg [] Tryz.func88 (by decide +kernel) (by kernel_rfl) fun {_ _ _ _}=>cast (by kernel_rfl)
def zqU (P:Program) (x0 x1:AV) (σ:LO) (Z:ZT):Prop :=
 cA P zaD [x0,x1,(.fn (.func zgA) [] [])] σ fun a s =>
 z1 Z a s
theorem zqH:F2 Tryz.prog zgu zqU:=zg [] Tryz.func89 (by decide +kernel) (by kernel_rfl) fun {_ _ _ _ _}=>cast (by kernel_rfl)
def zjF (P:Program) (x0:AV) (σ:LO) (Z:ZT):Prop :=
 zal .sl x0 σ fun a s =>
 bP .gtr a (iN 4) s fun b s =>
 zi b (z1 Z (iN 3) s) (zal .sl x0 s fun c s =>
 zaT [(iN 0)] s fun v s d =>
 zax v fun e v=>bP .lss e c s fun f s =>
 zi f (il true 9 9 x0 e s fun g s =>
 cp [iN 0,iN 0,iN 0,(.d (.str [])),(.d (.str [])),iN 0,eN,iN 0,iN 0] 9 g s fun h s =>
 zb 0 h s fun i s =>
 zf true 7 i s fun j s =>
 cA P zhc [j] s fun l s =>
 bP .neq l (iN 0) s fun m s =>
 zi m (z1 Z l s) (zb 7 h s fun n s =>
 zf true 2 n s fun o s =>
 cA P zbI [o] s fun p s =>
 bP .neq p (iN 0) s fun q s =>
 zi q (z1 Z p s) (bP .add e (iN 1) s fun r s =>
 d [r] s))) (zal .sl x0 s fun u s =>
 zaT [(iN 0)] s fun v s w =>
 zax v fun y v=>bP .lss y u s fun z s =>
 zi z (il true 9 9 x0 y s fun A s =>
 zT [iN 0,iN 0,iN 0,(.d (.str [])),(.d (.str [])),iN 0,eN,iN 0,iN 0] s fun B s =>
 zj 9 B A s fun _ s =>
 zdb (.sl 9) x0 none (some y) none s fun D s =>
 zal .sl D s fun E s =>
 zaT [(iN 0)] s fun v s F =>
 zax v fun G v=>bP .lss G E s fun H s =>
 zi H (il true 9 9 D G s fun I s =>
 cp [iN 0,iN 0,iN 0,(.d (.str [])),(.d (.str [])),iN 0,eN,iN 0,iN 0] 9 I s fun J s =>
 zb 0 B s fun K s =>
 fl 0 K s fun L s =>
 zb 0 J s fun M s =>
 fl 0 M s fun N s =>
 bP .eql L N s fun O s =>
 gT O (zb 0 B s) s fun Q s =>
 gTl O 1 Q s fun R s =>
 gT O (zb 0 J s) s fun S s =>
 gTl O 1 S s fun T s =>
 gT O (bP .eql R T s) s fun U s =>
 anC O U s fun V s =>
 zi V (z1 Z (iN 5) s) (bP .add G (iN 1) s fun W s =>
 F [W] s)) (bP .add y (iN 1) s fun X s =>
 w [X] s)) (z1 Z (iN 0) s)))
theorem zjx:F1 Tryz.prog zbC zjF:=zg [.l [16] [(2, 1),(4, 3),(17, 16)],.l [35] [(2, 1),(7, 2),(10, 1),(36, 30)],.l [44] [(2, 1),(10, 1),(45, 20)]] Tryz.func90 (by decide +kernel) (by kernel_rfl) fun {_ _ _ _}=>cast (by kernel_rfl)
def zhz (P:Program) (x0 x1:AV) (σ:LO) (Z:ZT):Prop :=
 cA P zbC [x1] σ fun a s =>
 bP .neq a (iN 0) s fun b s =>
 zi b (cA P zdc [x0] s fun c s =>
 z1 Z c s) (zaj P (.fn (.func zfh) [x1] []) [dm x0] s fun d s =>
 z1 Z d s)
theorem zfL:F2 Tryz.prog zdn zhz:=zg [] Tryz.func91 (by decide +kernel) (by kernel_rfl) fun {_ _ _ _ _}=>cast (by kernel_rfl)
def zon (P:Program) (x0 x1 x2 x3 x4 x5 x6 x7:AV) (σ:LO) (Z:ZT):Prop :=
 zaH x2 σ fun a s =>
 cA P zgK [x0,x1] s fun b s =>
 gTm b x4 s fun c s =>
 gTm b x5 s fun d s =>
 gTm b x6 s fun e s =>
 gTm b x7 s fun f s =>
 gT b (cA P zqm [c,d,e,f] s) s fun g s =>
 anC b g s fun h s =>
 gTm h x0 s fun i s =>
 gTm h x1 s fun j s =>
 gT h (zf true 2 a s) s fun l s =>
 gTm h x3 s fun m s =>
 gTm h x4 s fun n s =>
 gTm h x5 s fun o s =>
 gTm h x6 s fun p s =>
 gTm h x7 s fun q s =>
 gT h (cA P zdt [n,o,p,q] s) s fun r t =>
 zI a s t/\(gT h (cA P zjS [i,j,l,m,r] t) t fun u s =>
 anC h u s fun w s =>
 z1 Z w s)
theorem znR:F8 Tryz.prog zfy zon:=zg [.d [(0, 23)] [(19,[10])]] Tryz.func92 (by decide +kernel) (by kernel_rfl) fun {_ _ _ _ _ _ _ _ _ _ _}=>cast (by kernel_rfl)
def zrK (P:Program) (x0:AV) (σ:LO) (Z:ZT):Prop :=
 zaH x0 σ fun a s =>
 zf true 30 a s fun b s =>
 cA P zmU [b] s fun c s =>
 bP .neq c (iN 0) s fun d s =>
 zi d (z1 Z c s) (zf true 30 a s fun e s =>
 zf true 30 a s fun f s =>
 cA P zqh [f] s fun g t =>
 zI a s t/\(cA P zqi [e,g] t fun h s =>
 unC .not h s fun i s =>
 zi i (z1 Z (iN 100) s) (z1 Z (iN 0) s)))
theorem znl:F1 Tryz.prog zko zrK:=zg [.d [(0, 5)] [(2,[1])]] Tryz.func93 (by decide +kernel) (by kernel_rfl) fun {_ _ _ _}=>cast (by kernel_rfl)
def zuJ (P:Program) (x0 x1 x2 x3 x4:AV) (σ:LO) (Z:ZT):Prop :=
 zaH x2 σ fun a s =>
 cA P zcL [x0,x4] s fun b s =>
 zc b 0 s fun c s =>
 zc b 1 s fun d s =>
 gTl d 0 a s fun e s =>
 gTm d x3 s fun f s =>
 gT d (bP .eql e f s) s fun g s =>
 anC d g s fun h s =>
 gTl h 1 a s fun i s =>
 gTm h c s fun j s =>
 gT h (bP .eql i j s) s fun l s =>
 anC h l s fun m s =>
 gTm m x1 s fun n s =>
 gT m (zf true 2 a s) s fun o s =>
 gT m (cA P zdU [n,o] s) s fun p s =>
 anC m p s fun q s =>
 z1 Z q s
theorem zut:F5 Tryz.prog zlj zuJ:=zg [] Tryz.func94 (by decide +kernel) (by kernel_rfl) fun {_ _ _ _ _ _ _ _}=>cast (by kernel_rfl)
def S_r11_of (P:Program) (x0:AV) (σ:LO) (Z:ZT):Prop :=
 zaH x0 σ fun a s =>
 zT [iN 0,iN 0] s fun b s =>
 fl 0 a s fun c s =>
 bP .eql c (iN 7) s fun d s =>
 gTl d 13 a s fun e s =>
 gT d (zal .sl e s) s fun f s =>
 gT d (bP .gtr f (iN 0) s) s fun g s =>
 anC d g s fun h s =>
 zi h (fl 13 a s fun i s =>
 zE none 8 i (iN 0) s fun j s =>
 zb 6 j s fun l s =>
 zf true 2 l s fun m s =>
 zj 2 b m s fun _ s =>
 Z (zA (zae b s true 2) (some [])) s) (zb 28 a s fun o s =>
 zf true 2 o s fun p s =>
 zj 2 b p s fun _ s =>
 Z (zA (zae b s true 2) (some [])) s)
theorem e_r11_of:F1 Tryz.prog zzM S_r11_of:=zg [] Tryz.func95 (by decide +kernel) (by kernel_rfl) fun {_ _ _ _}=>cast (by kernel_rfl)
def zoc (P:Program) (x0:AV) (σ:LO) (Z:ZT):Prop :=
 zal .sl x0 σ fun a s =>
 bP .gtr a (iN 4) s fun b s =>
 zi b (z1 Z (iN 3) s) (zaT [(iN 0)] s fun v s c =>
 zax v fun d v=>zal .sl x0 s fun e s =>
 bP .lss d e s fun f s =>
 zi f (zE none 9 x0 d s fun g s =>
 zb 0 g s fun h s =>
 zf true 7 h s fun i s =>
 cA P zmW [i] s fun j s =>
 bP .neq j (iN 0) s fun l s =>
 zi l (z1 Z j s) (zE none 9 x0 d s fun m s =>
 zb 7 m s fun n s =>
 zf true 2 n s fun o s =>
 cA P zcm [o] s fun p s =>
 bP .neq p (iN 0) s fun q s =>
 zi q (z1 Z p s) (bP .add d (iN 1) s fun r s =>
 c [r] s))) (zaT [(iN 0)] s fun v s u =>
 zax v fun w v=>zal .sl x0 s fun y s =>
 bP .lss w y s fun z s =>
 zi z (zaT [(iN 0)] s fun v s A =>
 zax v fun B v=>bP .lss B w s fun C s =>
 zi C (zE none 9 x0 w s fun D s =>
 zb 0 D s fun E s =>
 fl 0 E s fun F s =>
 zE none 9 x0 B s fun G s =>
 zb 0 G s fun H s =>
 fl 0 H s fun I s =>
 bP .eql F I s fun J s =>
 gTm J x0 s fun K s =>
 gTm J w s fun L s =>
 gT J (zE none 9 K L s) s fun M s =>
 gT J (zb 0 M s) s fun N s =>
 gTl J 1 N s fun O s =>
 gTm J x0 s fun Q s =>
 gTm J B s fun R s =>
 gT J (zE none 9 Q R s) s fun S s =>
 gT J (zb 0 S s) s fun T s =>
 gTl J 1 T s fun U s =>
 gT J (bP .eql O U s) s fun V s =>
 anC J V s fun W s =>
 zi W (z1 Z (iN 5) s) (bP .add B (iN 1) s fun X s =>
 A [X] s)) (bP .add w (iN 1) s fun Y s =>
 u [Y] s)) (z1 Z (iN 0) s)))
theorem znG:F1 Tryz.prog zcq zoc:=zg [.l [3] [(2, 1),(4, 2),(11, 24)],.l [6] [(2, 1),(7, 1),(35, 39)],.l [7] [(2, 1),(41, 33)],.d [(0, 28)] []] Tryz.func96 (by decide +kernel) (by kernel_rfl) fun {_ _ _ _}=>cast (by kernel_rfl)
def zqX (P:Program) (x0 x1:AV) (σ:LO) (Z:ZT):Prop :=
 cA P zcq [x1] σ fun a s =>
 bP .neq a (iN 0) s fun b s =>
 zi b (z1 Z x0 s) (zal .sl x1 s fun c s =>
 zak (.int .u64) c s fun d s =>
 cA P zcw [x0,d] s fun e s =>
 zaT [e,(iN 0)] s fun v s f =>
 zax v fun g v=>zax v fun h v=>zal .sl x1 s fun i s =>
 bP .lss h i s fun j s =>
 zi j (zE none 9 x1 h s fun l s =>
 zb 0 l s fun m s =>
 zf true 7 m s fun n s =>
 cA P zmX [n] s fun o s =>
 zc o 0 s fun p s =>
 zc o 1 s fun _ s =>
 zE none 9 x1 h s fun r s =>
 zb 7 r s fun u s =>
 zf true 2 u s fun w s =>
 cA P zdE [g,p] s fun y t =>
 zI u s t/\(cA P zdA [y,w] t fun z s =>
 bP .add h (iN 1) s fun A s =>
 f [z,A] s)) (z1 Z g s))
theorem zqK:F2 Tryz.prog zdD zqX:=zg [.l [0, 5] [(6, 2),(17, 24)],.d [(0, 2),(3, 5),(2, 1),(8, 2)] [(2,[38])]] Tryz.func97 (by decide +kernel) (by kernel_rfl) fun {_ _ _ _ _}=>cast (by kernel_rfl)
def zpM (P:Program) (x0 x1 x2 x3 x4 x5 x6 x7:AV) (σ:LO) (Z:ZT):Prop :=
 zaH x2 σ fun a s =>
 cA P zsb [x4,x5,x6,x7] s fun b s =>
 gTm b x0 s fun c s =>
 gTm b x1 s fun d s =>
 gT b (zf true 2 a s) s fun e s =>
 gTm b x3 s fun f s =>
 gTm b x4 s fun g s =>
 gTm b x5 s fun h s =>
 gTm b x6 s fun i s =>
 gTm b x7 s fun j s =>
 gT b (cA P zdT [g,h,i,j] s) s fun l t =>
 zI a s t/\(gT b (cA P zlj [c,d,e,f,l] t) t fun m s =>
 anC b m s fun n s =>
 z1 Z n s)
theorem zpn:F8 Tryz.prog zfU zpM:=zg [.d [(0, 18)] [(14,[10])]] Tryz.func98 (by decide +kernel) (by kernel_rfl) fun {_ _ _ _ _ _ _ _ _ _ _}=>cast (by kernel_rfl)
def zzt (P:Program) (x0:AV) (σ:LO) (Z:ZT):Prop :=
 zaH x0 σ fun a s =>
 zT [iN 0,(.d (.str [])),(.d (.str [])),iN 0,eN] s fun b s =>
 fl 4 a s fun c s =>
 zal .sl c s fun d s =>
 zaT [eN,(iN 0)] s fun v s e =>
 zax v fun f v=>zax v fun g v=>bP .lss g d s fun h s =>
 zi h (il false 1 1 c g s fun i s =>
 cA P zdc [i] s fun j s =>
 m1 1 [eN] j s fun l s =>
 zG 1 24 f l s fun m s =>
 bP .add g (iN 1) s fun n s =>
 e [m,n] s) (zb 4 a s fun o s =>
 zj 1 o f s fun _ s =>
 zf true 5 a s fun q s =>
 zj 5 b q s fun _ s =>
 Z (zA (zae b s true 5) (some [])) s)
theorem zyH:F1 Tryz.prog ztA zzt:=zg [.l [3, 9] [(5, 1),(10, 9)]] Tryz.func99 (by decide +kernel) (by kernel_rfl) fun {_ _ _ _}=>cast (by kernel_rfl)
def zzo (P:Program) (x0 x1:AV) (σ:LO) (Z:ZT):Prop :=
 zaH x0 σ fun a s =>
 zaH x1 s fun b s =>
 fl 0 a s fun c s =>
 fl 0 b s fun d s =>
 bP .neq c d s fun e s =>
 gFl e 1 a s fun f s =>
 gFl e 1 b s fun g s =>
 gF e (bP .neq f g s) s fun h s =>
 orC e h s fun i s =>
 gFl i 2 a s fun j s =>
 gFl i 2 b s fun l s =>
 gF i (bP .neq j l s) s fun m s =>
 orC i m s fun n s =>
 gFl n 3 a s fun o s =>
 gFl n 3 b s fun p s =>
 gF n (bP .neq o p s) s fun q s =>
 orC n q s fun r s =>
 gFl r 4 a s fun u s =>
 gF r (zal .sl u s) s fun w s =>
 gFl r 4 b s fun y s =>
 gF r (zal .sl y s) s fun z s =>
 gF r (bP .neq w z s) s fun A s =>
 orC r A s fun B s =>
 zi B (z1 Z bF s) (zaT [(iN 0)] s fun v s C =>
 zax v fun D v=>fl 4 a s fun E s =>
 zal .sl E s fun F s =>
 bP .lss D F s fun G s =>
 zi G (fl 4 a s fun H s =>
 il false 1 1 H D s fun I s =>
 zak .toStr I s fun J s =>
 fl 4 b s fun K s =>
 il false 1 1 K D s fun L s =>
 zak .toStr L s fun M s =>
 bP .neq J M s fun N s =>
 zi N (z1 Z bF s) (bP .add D (iN 1) s fun O s =>
 C [O] s)) (z1 Z bT s))
theorem zyC:F2 Tryz.prog ztx zzo:=zg [.l [5] [(4, 1),(41, 20)],.d [(0, 13)] []] Tryz.func100 (by decide +kernel) (by kernel_rfl) fun {_ _ _ _ _}=>cast (by kernel_rfl)
def zxk (P:Program) (x0:AV) (σ:LO) (Z:ZT):Prop :=
 cA P zdF [x0] σ fun a s =>
 bP .neq a (iN 0) s fun b s =>
 zi b (z2 Z (.d .nilp) a s) (zar s fun c s =>
 zy (zP [iN 0,iN 0,iN 0,eN,(.d .nilmap),eN] [(0, 1,x0),(4, 1,c)]) s fun d s =>
 zaH d s fun e s =>
 z2 Z e (iN 0) s)
theorem zws:F1 Tryz.prog zrs zxk:=zg [] Tryz.func101 (by decide +kernel) (by kernel_rfl) fun {_ _ _ _}=>cast (by kernel_rfl)
def zhW (P:Program) (x0 x1:AV) (σ:LO) (Z:ZT):Prop :=
 zaH x1 σ fun a s =>
 zf true 3 a s fun b s =>
 cA P zoY [b] s fun c s =>
 zi c (z1 Z bT s) (fl 2 a s fun d s =>
 zal .sl d s fun e s =>
 zaT [(iN 0)] s fun v s f =>
 zax v fun g v=>bP .lss g e s fun h s =>
 zi h (il true 2 2 d g s fun i s =>
 zT [iN 0,iN 0] s fun j s =>
 zj 2 j i s fun _ s =>
 fl 0 a s fun m s =>
 fl 1 a s fun n s =>
 fl 0 j s fun o s =>
 cA P zhm [x0,m,n,o] s fun p s =>
 unC .not p s fun q s =>
 gFm q g s fun r s =>
 gF q (bP .gtr r (iN 0) s) s fun u s =>
 gFm q u s fun w s =>
 gTl w 0 j s fun y s =>
 gTl w 2 a s fun z s =>
 gTm w g s fun A s =>
 gT w (bP .sub A (iN 1) s) s fun B s =>
 gT w (zE none 2 z B s) s fun C s =>
 gTl w 0 C s fun D s =>
 gT w (bP .leq y D s) s fun E s =>
 gF q (anC w E s) s fun F s =>
 orC q F s fun G s =>
 zi G (z1 Z bF s) (bP .add g (iN 1) s fun H s =>
 f [H] s)) (zb 2 a s fun I s =>
 zf false 1 I s fun J s =>
 zal .sl J s fun K s =>
 nfl 0 x0 s fun L s =>
 cA P ziO [L] s fun M t =>
 zI I s t/\(bP .geq K M t fun N s =>
 z1 Z N s)))
theorem zhM:F2 Tryz.prog zfD zhW:=zg [.l [12] [(4, 3),(13, 30)],.d [(0, 25)] [],.d [(0, 10)] [(7,[43])]] Tryz.func102 (by decide +kernel) (by kernel_rfl) fun {_ _ _ _ _}=>cast (by kernel_rfl)
def zdl (P:Program) (x0 x1:AV) (σ:LO) (Z:ZT):Prop :=
 cA P zcg [x0,x1] σ fun a s =>
 bP .geq a (iN 0) s fun b s =>
 z1 Z b s
theorem zdj:F2 Tryz.prog zbd zdl:=zg [] Tryz.func103 (by decide +kernel) (by kernel_rfl) fun {_ _ _ _ _}=>cast (by kernel_rfl)
def zpU (P:Program) (x0 x1 x2 x3:AV) (σ:LO) (Z:ZT):Prop :=
 zaH x0 σ fun a s =>
 zf false 1 x1 s fun b s =>
 zf false 1 x2 s fun c s =>
 zf true 2 a s fun d s =>
 fl 0 a s fun e s =>
 fl 0 x3 s fun f s =>
 fl 1 x3 s fun g s =>
 cA P zfy [b,c,d,e,(iN 6),(iN 0),f,g] s fun h s =>
 unC .not h s fun i s =>
 z1 Z i s
theorem zpv:F4 Tryz.prog zhl zpU:=zg [] Tryz.func104 (by decide +kernel) (by kernel_rfl) fun {_ _ _ _ _ _ _}=>cast (by kernel_rfl)
def zof (P:Program) (x0 x1 x2 x3:AV) (σ:LO) (Z:ZT):Prop :=
 zaH x3 σ fun a s =>
 cA P zcs [x0] s fun b s =>
 zcB .eql .ptr b (.d .nilp) s fun c s =>
 gFm c x1 s fun d s =>
 gF c (cA P zcK [d] s) s fun e s =>
 gF c (zcB .eql .ptr e (.d .nilp) s) s fun f s =>
 orC c f s fun g s =>
 gFm g x2 s fun h s =>
 gF g (cA P zdF [h] s) s fun i s =>
 gF g (bP .neq i (iN 0) s) s fun j s =>
 orC g j s fun l s =>
 gFl l 0 a s fun m s =>
 gF l (bP .lss m (iN 0) s) s fun n s =>
 orC l n s fun o s =>
 gFl o 0 a s fun p s =>
 gF o (bP .gtr p (iN 9007199254740992) s) s fun q s =>
 orC o q s fun r s =>
 gFl r 1 a s fun u s =>
 gF r (bP .lss u (iN 1) s) s fun w s =>
 orC r w s fun y s =>
 gFl y 1 a s fun z s =>
 gF y (bP .gtr z (iN 9007199254740992) s) s fun A s =>
 orC y A s fun B s =>
 gFm B x0 s fun C s =>
 gFm B x1 s fun D s =>
 gFl B 6 a s fun E s =>
 gF B (cA P zgq [C,D,E] s) s fun F s =>
 gF B (unC .not F s) s fun G s =>
 orC B G s fun H s =>
 zi H (z1 Z bF s) (fl 6 a s fun I s =>
 cA P zdn [eN,I] s fun J s =>
 cA P zdp [x0,J] s fun K s =>
 zc K 0 s fun L s =>
 zc K 1 s fun M s =>
 fl 0 a s fun N s =>
 cA P zgB [x2,N] s fun O s =>
 unC .not M s fun Q s =>
 gFm Q L s fun R s =>
 gFl Q 2 a s fun S s =>
 gF Q (bP .neq R S s) s fun T s =>
 orC Q T s fun U s =>
 gFm U x0 s fun V s =>
 gFm U x1 s fun W s =>
 gF U (zb 3 a s) s fun X s =>
 gF U (zf true 2 X s) s fun Y s =>
 gFm U O s fun a0 s =>
 gFl U 0 a s fun b0 s =>
 gFl U 1 a s fun c0 s =>
 gFm U L s fun d0 s =>
 gF U (cA P zfy [V,W,Y,a0,(iN 2),b0,c0,d0] s) s fun e0 s =>
 gF U (unC .not e0 s) s fun f0 s =>
 orC U f0 s fun g0 s =>
 gFl g0 5 a s fun h0 s =>
 gF g0 (zal .sl h0 s) s fun i0 s =>
 gFm g0 x2 s fun j0 s =>
 gF g0 (bP .mul (iN 2) j0 s) s fun l0 s =>
 gF g0 (bP .neq i0 l0 s) s fun m0 s =>
 orC g0 m0 s fun o0 s =>
 zi o0 (z1 Z bF s) (fl 5 a s fun p0 s =>
 zal .sl p0 s fun q0 s =>
 zaT [(iN (-1)),(iN 0)] s fun v s r0 =>
 zax v fun u0 v=>zax v fun w0 v=>bP .lss w0 q0 s fun y0 s =>
 zi y0 (il true 2 2 p0 w0 s fun z0 s =>
 cp [iN 0,iN 0] 2 z0 s fun A0 s =>
 fl 0 A0 s fun B0 s =>
 bP .leq B0 u0 s fun C0 s =>
 gF C0 (zb 0 A0 s) s fun D0 s =>
 gF C0 (zf false 1 D0 s) s fun E0 s =>
 gFm C0 x2 s fun F0 s =>
 gF C0 (cA P zds [F0] s) s fun G0 t =>
 zI D0 s t/\(gF C0 (bP .geq E0 G0 t) t fun H0 s =>
 orC C0 H0 s fun I0 s =>
 gFl I0 0 A0 s fun J0 s =>
 gFm I0 O s fun K0 s =>
 gF I0 (bP .eql J0 K0 s) s fun L0 s =>
 orC I0 L0 s fun M0 s =>
 gFm M0 x0 s fun N0 s =>
 gFm M0 x1 s fun O0 s =>
 gF M0 (zf true 2 A0 s) s fun Q0 s =>
 gFl M0 0 A0 s fun R0 s =>
 gFl M0 0 a s fun S0 s =>
 gFl M0 1 a s fun T0 s =>
 gFm M0 L s fun U0 s =>
 gF M0 (cA P zfy [N0,O0,Q0,R0,(iN 3),S0,T0,U0] s) s fun V0 s =>
 gF M0 (unC .not V0 s) s fun W0 s =>
 orC M0 W0 s fun X0 s =>
 zi X0 (z1 Z bF s) (fl 0 A0 s fun Y0 s =>
 bP .add w0 (iN 1) s fun a1 s =>
 r0 [Y0,a1] s))) (z1 Z bT s)))
theorem znJ:F4 Tryz.prog zjn zof:=zg [.l [12, 101] [(8, 1),(14, 1),(102, 37)],.d [(0, 31)] [(8,[110])]] Tryz.func105 (by decide +kernel) (by kernel_rfl) fun {_ _ _ _ _ _ _}=>cast (by kernel_rfl)
def zjG (P:Program) (x0 x1:AV) (σ:LO) (Z:ZT):Prop :=
 zaH x1 σ fun a s =>
 zf true 3 a s fun b s =>
 cA P zts [b] s fun c s =>
 zi c (z1 Z bT s) (zb 2 a s fun d s =>
 zf false 1 d s fun e s =>
 zal .sl e s fun f s =>
 nfl 0 x0 s fun g s =>
 cA P zoS [g] s fun h t =>
 zI d s t/\(bP .lss f h t fun i s =>
 zi i (z1 Z bF s) (zaT [(iN 0)] s fun v s j =>
 zax v fun l v=>fl 2 a s fun m s =>
 zal .sl m s fun n s =>
 bP .lss l n s fun o s =>
 zi o (fl 0 a s fun p s =>
 fl 1 a s fun q s =>
 fl 2 a s fun r s =>
 zE none 2 r l s fun u s =>
 fl 0 u s fun w s =>
 cA P zjj [x0,p,q,w] s fun y s =>
 unC .not y s fun z s =>
 gFm z l s fun A s =>
 gF z (bP .gtr A (iN 0) s) s fun B s =>
 gFm z B s fun C s =>
 gTl C 2 a s fun D s =>
 gTm C l s fun E s =>
 gT C (zE none 2 D E s) s fun F s =>
 gTl C 0 F s fun G s =>
 gTl C 2 a s fun H s =>
 gTm C l s fun I s =>
 gT C (bP .sub I (iN 1) s) s fun J s =>
 gT C (zE none 2 H J s) s fun K s =>
 gTl C 0 K s fun L s =>
 gT C (bP .leq G L s) s fun M s =>
 gF z (anC C M s) s fun N s =>
 orC z N s fun O s =>
 zi O (z1 Z bF s) (bP .add l (iN 1) s fun Q s =>
 j [Q] s)) (z1 Z bT s))))
theorem zjy:F2 Tryz.prog zgr zjG:=zg [.d [(0, 9)] [(7,[8])],.l [5] [(4, 1),(17, 40)],.d [(0, 33)] []] Tryz.func106 (by decide +kernel) (by kernel_rfl) fun {_ _ _ _ _}=>cast (by kernel_rfl)
def zwV (P:Program) (x0 x1 x2 x3:AV) (σ:LO) (Z:ZT):Prop :=
 zaH x3 σ fun a s =>
 cA P zfi [x2] s fun b s =>
 bP .neq b (iN 0) s fun c s =>
 gFl c 0 a s fun d s =>
 gF c (bP .lss d (iN 0) s) s fun e s =>
 orC c e s fun f s =>
 gFl f 0 a s fun g s =>
 gF f (bP .gtr g (iN 9007199254740992) s) s fun h s =>
 orC f h s fun i s =>
 gFl i 1 a s fun j s =>
 gF i (bP .lss j (iN 1) s) s fun l s =>
 orC i l s fun m s =>
 gFl m 1 a s fun n s =>
 gF m (bP .gtr n (iN 9007199254740992) s) s fun o s =>
 orC m o s fun p s =>
 gFm p x0 s fun q s =>
 gFm p x1 s fun r s =>
 gFl p 6 a s fun u s =>
 gF p (cA P zjm [q,r,u] s) s fun w s =>
 gF p (unC .not w s) s fun y s =>
 orC p y s fun z s =>
 gFl z 5 a s fun A s =>
 gF z (zal .sl A s) s fun B s =>
 gFm z x2 s fun C s =>
 gF z (bP .mul (iN 2) C s) s fun D s =>
 gF z (bP .neq B D s) s fun E s =>
 orC z E s fun F s =>
 zi F (z1 Z bF s) (fl 6 a s fun G s =>
 cA P zdD [eN,G] s fun H s =>
 cA P zcL [x0,H] s fun I s =>
 zc I 0 s fun J s =>
 zc I 1 s fun K s =>
 fl 0 a s fun L s =>
 cA P zjO [x2,L] s fun M s =>
 unC .not K s fun N s =>
 gFm N J s fun O s =>
 gFl N 2 a s fun Q s =>
 gF N (bP .neq O Q s) s fun R s =>
 orC N R s fun S s =>
 gFm S x0 s fun T s =>
 gFm S x1 s fun U s =>
 gF S (zb 3 a s) s fun V s =>
 gF S (zf true 2 V s) s fun W s =>
 gFm S M s fun X s =>
 gFl S 0 a s fun Y s =>
 gFl S 1 a s fun a0 s =>
 gFm S J s fun b0 s =>
 gF S (cA P zfU [T,U,W,X,(iN 2),Y,a0,b0] s) s fun c0 s =>
 gF S (unC .not c0 s) s fun d0 s =>
 orC S d0 s fun e0 s =>
 zi e0 (z1 Z bF s) (zaT [(iN (-1)),(iN 0)] s fun v s f0 =>
 zax v fun g0 v=>zax v fun h0 v=>fl 5 a s fun i0 s =>
 zal .sl i0 s fun j0 s =>
 bP .lss h0 j0 s fun l0 s =>
 zi l0 (fl 5 a s fun m0 s =>
 zE none 2 m0 h0 s fun o0 s =>
 fl 0 o0 s fun p0 s =>
 bP .leq p0 g0 s fun q0 s =>
 gFm q0 p0 s fun r0 s =>
 gFm q0 x2 s fun u0 s =>
 gF q0 (cA P zfj [u0] s) s fun w0 s =>
 gF q0 (bP .geq r0 w0 s) s fun y0 s =>
 orC q0 y0 s fun z0 s =>
 gFm z0 p0 s fun A0 s =>
 gFm z0 M s fun B0 s =>
 gF z0 (bP .eql A0 B0 s) s fun C0 s =>
 orC z0 C0 s fun D0 s =>
 gFm D0 x0 s fun E0 s =>
 gFm D0 x1 s fun F0 s =>
 gFl D0 5 a s fun G0 s =>
 gFm D0 h0 s fun H0 s =>
 gF D0 (zE none 2 G0 H0 s) s fun I0 s =>
 gF D0 (zf true 2 I0 s) s fun J0 s =>
 gFm D0 p0 s fun K0 s =>
 gFl D0 0 a s fun L0 s =>
 gFl D0 1 a s fun M0 s =>
 gFm D0 J s fun N0 s =>
 gF D0 (cA P zfU [E0,F0,J0,K0,(iN 3),L0,M0,N0] s) s fun O0 s =>
 gF D0 (unC .not O0 s) s fun Q0 s =>
 orC D0 Q0 s fun R0 s =>
 zi R0 (z1 Z bF s) (bP .add h0 (iN 1) s fun S0 s =>
 f0 [p0,S0] s)) (z1 Z bT s)))
theorem zwd:F4 Tryz.prog zrj zwV:=zg [.l [12, 13] [(8, 1),(14, 1),(88, 45)],.d [(0, 31)] []] Tryz.func107 (by decide +kernel) (by kernel_rfl) fun {_ _ _ _ _ _ _}=>cast (by kernel_rfl)
def znx (P:Program) (x0:AV) (σ:LO) (Z:ZT):Prop :=
 zaa false x0 σ fun a s =>
 zi a (z1 Z eN s) (zl false 1 0 (zP (rep [(.d (.int .u8 0))] 0) []) s fun b s =>
 zG 1 1 b x0 s fun c s =>
 z1 Z c s)
theorem zjV:F1 Tryz.prog zdc znx:=zg [] Tryz.func108 (by decide +kernel) (by kernel_rfl) fun {_ _ _ _}=>cast (by kernel_rfl)
def zzq (P:Program) (x0 x1:AV) (σ:LO) (Z:ZT):Prop :=
 zak .toStr x0 σ fun a s =>
 zak .toStr x1 s fun b s =>
 bP .eql a b s fun c s =>
 z1 Z c s
theorem zyE:F2 Tryz.prog zty zzq:=zg [] Tryz.func109 (by decide +kernel) (by kernel_rfl) fun {_ _ _ _ _}=>cast (by kernel_rfl)
def zpG (P:Program) (x0:AV) (σ:LO) (Z:ZT):Prop :=
 cA P zgj [x0] σ fun a s =>
 bP .gtr a (iN 0) s fun b s =>
 gFm b x0 s fun c s =>
 gF b (cA P zcs [c] s) s fun d s =>
 gF b (zcB .neq .ptr d (.d .nilp) s) s fun e s =>
 orC b e s fun f s =>
 z1 Z f s
theorem zph:F1 Tryz.prog zki zpG:=zg [] Tryz.func110 (by decide +kernel) (by kernel_rfl) fun {_ _ _ _}=>cast (by kernel_rfl)
def zzx (P:Program) (x0 x1 x2 x3:AV) (σ:LO) (Z:ZT):Prop :=
 zl false 1 4 (zP (rep [iN 0] 4) [(0, 1,x0),(1, 1,x1),(2, 1,x2),(3, 1,x3)]) σ fun a s =>
 zal .sl a s fun b s =>
 zaT [(iN 0)] s fun v s c =>
 zax v fun d v=>bP .lss d b s fun e s =>
 zi e (il false 1 1 a d s fun f s =>
 bP .lss f (iN 0) s fun g s =>
 gFm g f s fun h s =>
 gF g (bP .gtr h (iN 9007199254740992) s) s fun i s =>
 orC g i s fun j s =>
 zi j (z1 Z bF s) (bP .add d (iN 1) s fun l s =>
 c [l] s)) (z1 Z bT s)
theorem zyL:F4 Tryz.prog zqm zzx:=zg [.l [17] [(8, 1),(10, 1),(18, 10)]] Tryz.func111 (by decide +kernel) (by kernel_rfl) fun {_ _ _ _ _ _ _}=>cast (by kernel_rfl)
def zom (P:Program) (x0 x1 x2 x3:AV) (σ:LO) (Z:ZT):Prop :=
 m1 1 [(.d (.int .u8 0))] (.d (.int .u8 4)) σ fun a s =>
 zl false 1 4 (zP (rep [iN 0] 4) [(0, 1,x0),(1, 1,x1),(2, 1,x2),(3, 1,x3)]) s fun b s =>
 cA P zql [a,b] s fun c s =>
 z1 Z c s
theorem znQ:F4 Tryz.prog zdt zom:=zg [] Tryz.func112 (by decide +kernel) (by kernel_rfl) fun {_ _ _ _ _ _ _}=>cast (by kernel_rfl)
def zhC (P:Program) (x0:AV) (σ:LO) (Z:ZT):Prop :=
 zaH x0 σ fun a s =>
 (fun (b:LO->Prop)=>fl 0 a s fun p s =>
 bP .eql p (iN 7) s fun q s =>
 gTl q 13 a s fun r s =>
 gT q (zal .sl r s) s fun u s =>
 gT q (bP .eql u (iN 1) s) s fun w s =>
 anC q w s fun y s =>
 zi y (fl 13 a s fun z s =>
 il true 8 8 z (iN 0) s fun A s =>
 cp [iN 0,iN 0,iN 0,iN 0,eN,eN,iN 0,iN 0] 8 A s fun B s =>
 cA P ziC [] s fun C s =>
 zb 6 B s fun D s =>
 zj 2 D C s fun _ s =>
 zf true 8 B s fun F s =>
 m1 8 [iN 0,iN 0,iN 0,iN 0,eN,eN,iN 0,iN 0] F s fun G s =>
 zb 13 a s fun H s =>
 zj 1 H G s fun _ s =>
 b s) (fl 0 a s fun J s =>
 cA P zei [J] s fun K s =>
 zi K (cA P ziC [] s fun L s =>
 zb 28 a s fun M s =>
 zj 2 M L s fun _ s =>
 b s) (b s)))
 (fun  s=>zf true 30 a s fun c s =>
 cA P zhn [c] s fun d s =>
 zc d 0 s fun _ s =>
 zc d 1 s fun f s =>
 bP .neq f (iN 0) s fun g s =>
 zi g (z2 Z eN f s) (zy (zP [eN] []) s fun h s =>
 zaH h s fun i s =>
 zf true 30 a s fun j s =>
 cA P zcn [i,j] s fun _ s =>
 zbZ i s fun m s =>
 zb 0 m s fun n s =>
 fl 0 n s fun o s =>
 z2 Z o (iN 0) s))
theorem zfM:F1 Tryz.prog zfJ zhC:=zg [] Tryz.func113 (by decide +kernel) (by kernel_rfl) fun {_ _ _ _}=>cast (by kernel_rfl)
def zzv (P:Program) (x0 x1:AV) (σ:LO) (Z:ZT):Prop :=
 zal .sl x1 σ fun a s =>
 zaT [x0,(iN 0)] s fun v s b =>
 zax v fun c v=>zax v fun d v=>bP .lss d a s fun e s =>
 zi e (il false 1 1 x1 d s fun f s =>
 zdm [(iN 0),f] s fun g s =>
 zak (.int .u64) g s fun h s =>
 cA P zbE [c,h] s fun i s =>
 bP .add d (iN 1) s fun j s =>
 b [i,j] s) (z1 Z c s)
theorem zyJ:F2 Tryz.prog zql zzv:=zg [.l [0, 9] [(6, 1),(10, 9)]] Tryz.func114 (by decide +kernel) (by kernel_rfl) fun {_ _ _ _ _}=>cast (by kernel_rfl)
def znV (P:Program) (x0:AV) (σ:LO) (Z:ZT):Prop :=
 zaH x0 σ fun a s =>
 zT [iN 0,iN 0,iN 0,iN 0,iN 0,iN 0,iN 0,iN 0,iN 0,eN,iN 0,iN 0,eN,eN,eN,eN,(.d (.str [])),iN 0,(.d (.str [])),iN 0,eN,eN,iN 0,iN 0,eN,iN 0,iN 0,eN,iN 0,iN 0] s fun b s =>
 fl 9 a s fun c s =>
 zb 10 a s fun d s =>
 zf true 3 d s fun e s =>
 zb 15 a s fun f s =>
 zf false 1 f s fun g s =>
 zo P zdS [c] s fun h t =>
 zI d s t/\(zI f s t/\(zb 9 a t fun i s =>
 zo P zdV [e] s fun j t =>
 zI f s t/\(zo P zdc [g] t fun l s =>
 zj 1 i h s fun _ s =>
 zb 10 a s fun n s =>
 zj 3 n j s fun _ s =>
 zb 15 a s fun p s =>
 zj 1 p l s fun _ s =>
 fl 13 a s fun r s =>
 zb 14 a s fun u s =>
 zf false 1 u s fun w s =>
 zo P zcl [r] s fun y t =>
 zI u s t/\(zb 13 a t fun z s =>
 zo P zcA [w] s fun A s =>
 zj 1 z y s fun _ s =>
 zb 14 a s fun C s =>
 zj 1 C A s fun _ s =>
 fl 13 a s fun E s =>
 zal .sl E s fun F s =>
 zaT [(iN 0)] s fun v s G =>
 zax v fun H v=>bP .lss H F s fun I s =>
 zi I (zb 13 a s fun J s =>
 zf false 1 J s fun K s =>
 fl 13 a s fun L s =>
 il true 8 8 L H s fun M s =>
 zo P zfW [M] s fun N t =>
 zI J s t/\(zE none 8 K H t fun O s =>
 zj 8 O N s fun _ s =>
 bP .add H (iN 1) s fun R s =>
 G [R] s)) (fl 14 a s fun S s =>
 zal .sl S s fun T s =>
 zaT [(iN 0)] s fun v s U =>
 zax v fun V v=>bP .lss V T s fun W s =>
 zi W (zb 14 a s fun X s =>
 zf false 1 X s fun Y s =>
 fl 14 a s fun a0 s =>
 zE none 5 a0 V s fun b0 s =>
 fl 2 b0 s fun c0 s =>
 zo P zdS [c0] s fun d0 t =>
 zI X s t/\(zE none 5 Y V t fun e0 s =>
 zb 2 e0 s fun f0 s =>
 zj 1 f0 d0 s fun _ s =>
 bP .add V (iN 1) s fun h0 s =>
 U [h0] s)) (zb 18 a s fun i0 s =>
 fl 2 i0 s fun j0 s =>
 zb 18 a s fun l0 s =>
 zb 3 l0 s fun m0 s =>
 zf false 1 m0 s fun o0 s =>
 zb 18 a s fun p0 s =>
 zb 6 p0 s fun q0 s =>
 zf false 1 q0 s fun r0 s =>
 zo P zdc [j0] s fun u0 t =>
 zI m0 s t/\(zI q0 s t/\(zb 18 a t fun w0 s =>
 zb 2 w0 s fun y0 s =>
 zo P zcj [o0] s fun z0 t =>
 zI q0 s t/\(zo P zck [r0] t fun A0 s =>
 zj 1 y0 u0 s fun _ s =>
 zb 18 a s fun C0 s =>
 zb 3 C0 s fun D0 s =>
 zj 1 D0 z0 s fun _ s =>
 zb 18 a s fun F0 s =>
 zb 6 F0 s fun G0 s =>
 zj 1 G0 A0 s fun _ s =>
 zb 18 a s fun I0 s =>
 zb 7 I0 s fun J0 s =>
 zf true 3 J0 s fun K0 s =>
 zo P zdV [K0] s fun L0 s =>
 zb 18 a s fun M0 s =>
 zb 7 M0 s fun N0 s =>
 zj 3 N0 L0 s fun _ s =>
 zf true 30 a s fun Q0 s =>
 zj 30 b Q0 s fun _ s =>
 Z (zA (zae b s true 30) (some [])) s)))))))))
theorem znz:F1 Tryz.prog zkq znV:=zsn [.d [(0, 2),(3, 2),(6, 2),(2, 1),(9, 1),(5, 1),(8, 1),(10, 5)] [(2,[8, 11]),(5,[11])],.d [(0, 2),(3, 2),(2, 1),(6, 1),(5, 1),(7, 3)] [(2,[20])],.l [28] [(3, 1),(29, 13)],.d [(0, 11)] [(8,[31])],.l [45] [(4, 1),(46, 15)],.d [(0, 13)] [(9,[48])],.d [(0, 3),(4, 3),(8, 3),(3, 1),(12, 2),(7, 1),(11, 1),(14, 7)] [(3,[66, 70]),(7,[70])]] Tryz.func115 (by decide +kernel) (by kernel_rfl) fun {_ _ _ _}=>cast (by kernel_rfl)
def zpT (P:Program) (x0 x1:AV) (σ:LO) (Z:ZT):Prop :=
 cA P zcL [x0,x1] σ fun a s =>
 zc a 0 s fun b s =>
 zc a 1 s fun c s =>
 zi c (z1 Z b s) (nfl 0 x0 s fun d s =>
 zal .sl d s fun e s =>
 bP .geq e (iN 1048576) s fun f s =>
 zi f (z1 Z (iN 0) s) (nfl 0 x0 s fun g s =>
 zG 1 24 eN g s fun h s =>
 zG 1 1 eN x1 s fun i s =>
 m1 1 [eN] i s fun j s =>
 zG 1 24 h j s fun l s =>
 zbZ x0 s fun m s =>
 zb 0 m s fun n s =>
 zj 1 n l s fun _ s =>
 nfl 0 x0 s fun p s =>
 zal .sl p s fun q s =>
 z1 Z q s))
theorem zpu:F2 Tryz.prog zhk zpT:=zg [] Tryz.func116 (by decide +kernel) (by kernel_rfl) fun {_ _ _ _ _}=>cast (by kernel_rfl)
def S_r11_may (P:Program) (x0 x1 x2 x3:AV) (σ:LO) (Z:ZT):Prop :=
 cA P zmg [x0] σ fun a s =>
 gTm a x1 s fun b s =>
 gT a (cA P zmg [b] s) s fun c s =>
 anC a c s fun d s =>
 gTm d x2 s fun e s =>
 gT d (cA P zmg [e] s) s fun f s =>
 anC d f s fun g s =>
 gTm g x3 s fun h s =>
 gT g (cA P zmg [h] s) s fun i s =>
 anC g i s fun j s =>
 z1 Z j s
theorem e_r11_may:F4 Tryz.prog zsb S_r11_may:=zg [] Tryz.func117 (by decide +kernel) (by kernel_rfl) fun {_ _ _ _ _ _ _}=>cast (by kernel_rfl)
def zpL (P:Program) (x0 x1 x2 x3:AV) (σ:LO) (Z:ZT):Prop :=
 m1 1 [(.d (.int .u8 0))] (.d (.int .u8 4)) σ fun a s =>
 cA P zfT [a,x0] s fun b s =>
 cA P zfT [b,x1] s fun c s =>
 cA P zfT [c,x2] s fun d s =>
 cA P zfT [d,x3] s fun e s =>
 z1 Z e s
theorem zpm:F4 Tryz.prog zdT zpL:=zg [] Tryz.func118 (by decide +kernel) (by kernel_rfl) fun {_ _ _ _ _ _ _}=>cast (by kernel_rfl)
def zlU (P:Program) (x0:AV) (σ:LO) (Z:ZT):Prop :=
 zaH x0 σ fun a s =>
 zy (zP [iN 0,iN 0] [(1, 1,(iN 1))]) s fun b s =>
 cp [iN 0,iN 0] 2 b s fun c s =>
 (fun (d:LO->Prop)=>fl 0 a s fun o s =>
 bP .eql o (iN 7) s fun p s =>
 gTl p 13 a s fun q s =>
 gT p (zal .sl q s) s fun r s =>
 gT p (bP .eql r (iN 1) s) s fun u s =>
 anC p u s fun w s =>
 zi w (fl 13 a s fun y s =>
 il true 8 8 y (iN 0) s fun z s =>
 cp [iN 0,iN 0,iN 0,iN 0,eN,eN,iN 0,iN 0] 8 z s fun A s =>
 zf true 2 c s fun B s =>
 zb 6 A s fun C s =>
 zj 2 C B s fun _ s =>
 zf true 8 A s fun E s =>
 m1 8 [iN 0,iN 0,iN 0,iN 0,eN,eN,iN 0,iN 0] E s fun F s =>
 zb 13 a s fun G s =>
 zj 1 G F s fun _ s =>
 d s) (fl 0 a s fun I s =>
 cA P zoU [I] s fun J s =>
 zi J (zf true 2 c s fun K s =>
 zb 28 a s fun L s =>
 zj 2 L K s fun _ s =>
 d s) (d s)))
 (fun  s=>zf true 30 a s fun e s =>
 cA P zmV [e] s fun f s =>
 zc f 0 s fun _ s =>
 zc f 1 s fun h s =>
 bP .neq h (iN 0) s fun i s =>
 zi i (z2 Z eN h s) (zf true 30 a s fun j s =>
 cA P zmh [j] s fun l s =>
 zc l 0 s fun m s =>
 zc l 1 s fun _ s =>
 z2 Z m (iN 0) s))
theorem ziE:F1 Tryz.prog ziA zlU:=zg [] Tryz.func119 (by decide +kernel) (by kernel_rfl) fun {_ _ _ _}=>cast (by kernel_rfl)
def S_r11_put (P:Program) (x0 x1:AV) (σ:LO) (Z:ZT):Prop :=
 zdm [x1,(iN 0)] σ fun a s =>
 zak (.int .u64) a s fun b s =>
 cA P zcw [x0,b] s fun c s =>
 z1 Z c s
theorem e_r11_put:F2 Tryz.prog zfT S_r11_put:=zg [] Tryz.func120 (by decide +kernel) (by kernel_rfl) fun {_ _ _ _ _}=>cast (by kernel_rfl)
def zfu (P:Program) (x0 x1:AV) (σ:LO) (Z:ZT):Prop :=
 zaH x1 σ fun a s =>
 (fun (b:LO->Prop)=>fl 0 a s fun i s =>
 bP .eql i (iN 1) s fun j s =>
 zi j (fl 9 a s fun l s =>
 zal .sl l s fun m s =>
 cA P zaJ [x0,m,(iN 1),(iN 1)] s fun _ s =>
 fl 9 a s fun o s =>
 cA P zbC [o] s fun p s =>
 cA P zW [x0,p] s fun _ s =>
 b s) (bP .eql i (iN 2) s fun r s =>
 zi r (zf true 30 a s fun u s =>
 cA P zjt [x0,u] s fun _ s =>
 fl 9 a s fun y s =>
 cA P zbC [y] s fun z s =>
 cA P zW [x0,z] s fun _ s =>
 b s) ((fun (B:AV->LO->Prop)=>bP .eql i (iN 3) s fun q1 s =>
 zi q1 (B q1 s) (bP .eql i (iN 4) s fun r1 s =>
 B r1 s))
 (fun C s=>zi C (zf true 30 a s fun D s =>
 cA P zjt [x0,D] s fun _ s =>
 b s) (bP .eql i (iN 5) s fun F s =>
 zi F (fl 1 a s fun G s =>
 cA P zaL [x0,G] s fun _ s =>
 fl 2 a s fun I s =>
 cA P zaA [x0,I] s fun _ s =>
 fl 5 a s fun K s =>
 cA P zaJ [x0,K,(iN 0),(iN 7)] s fun _ s =>
 fl 6 a s fun M s =>
 cA P zaA [x0,M] s fun _ s =>
 zb 7 a s fun O s =>
 fl 0 O s fun Q s =>
 cA P zaJ [x0,Q,(iN 0),(iN 65536)] s fun _ s =>
 zb 7 a s fun S s =>
 fl 1 S s fun T s =>
 cA P zaA [x0,T] s fun _ s =>
 b s) (bP .eql i (iN 6) s fun V s =>
 zi V (fl 1 a s fun W s =>
 cA P zaL [x0,W] s fun _ s =>
 fl 3 a s fun Y s =>
 cA P zaM [x0,Y] s fun _ s =>
 fl 4 a s fun b0 s =>
 cA P zaM [x0,b0] s fun _ s =>
 b s) (bP .eql i (iN 7) s fun d0 s =>
 zi d0 (fl 13 a s fun e0 s =>
 zal .sl e0 s fun f0 s =>
 cA P zaJ [x0,f0,(iN 1),(iN 1)] s fun _ s =>
 fl 13 a s fun h0 s =>
 zal .sl h0 s fun i0 s =>
 zaT [(iN 0)] s fun v s j0 =>
 zax v fun l0 v=>bP .lss l0 i0 s fun m0 s =>
 zi m0 ((fun (o0:LO->Prop)=>il true 8 8 h0 l0 s fun q0 s =>
 cp [iN 0,iN 0,iN 0,iN 0,eN,eN,iN 0,iN 0] 8 q0 s fun r0 s =>
 zf true 8 r0 s fun u0 s =>
 cA P zec [x0,u0] s fun _ s =>
 fl 1 r0 s fun y0 s =>
 fl 1 a s fun z0 s =>
 bP .neq y0 z0 s fun A0 s =>
 gFl A0 0 r0 s fun B0 s =>
 gFl A0 2 a s fun C0 s =>
 gF A0 (bP .neq B0 C0 s) s fun D0 s =>
 orC A0 D0 s fun E0 s =>
 zi E0 (cA P zW [x0,(iN 100)] s fun _ s =>
 o0 s) (o0 s))
 (fun  s=>bP .add l0 (iN 1) s fun p0 s =>
 j0 [p0] s)) (b s)) (bP .eql i (iN 8) s fun G0 s =>
 zi G0 (zf true 30 a s fun H0 s =>
 cA P zfm [x0,H0] s fun _ s =>
 b s) (bP .eql i (iN 9) s fun J0 s =>
 zi J0 (fl 1 a s fun K0 s =>
 cA P zaL [x0,K0] s fun _ s =>
 fl 3 a s fun M0 s =>
 cA P zaA [x0,M0] s fun _ s =>
 b s) (bP .eql i (iN 10) s fun O0 s =>
 zi O0 (fl 1 a s fun Q0 s =>
 cA P zaL [x0,Q0] s fun _ s =>
 zb 10 a s fun S0 s =>
 zf true 3 S0 s fun T0 s =>
 cA P zcJ [x0,T0] s fun _ s =>
 fl 15 a s fun V0 s =>
 zal .sl V0 s fun W0 s =>
 cA P zbD [x0,W0,(iN 262144)] s fun _ s =>
 b s) (bP .eql i (iN 11) s fun Y0 s =>
 zi Y0 (fl 5 a s fun a1 s =>
 cA P zaJ [x0,a1,(iN 0),(iN 7)] s fun _ s =>
 fl 16 a s fun c1 s =>
 cA P zqy [x0,c1] s fun _ s =>
 fl 17 a s fun e1 s =>
 cA P zaA [x0,e1] s fun _ s =>
 b s) (bP .eql i (iN 12) s fun g1 s =>
 zi g1 (fl 1 a s fun h1 s =>
 cA P zaL [x0,h1] s fun _ s =>
 zb 18 a s fun j1 s =>
 zf true 10 j1 s fun l1 s =>
 cA P zoZ [x0,l1] s fun _ s =>
 b s) (cA P zW [x0,(iN 100)] s fun _ s =>
 b s)))))))))))))
 (fun  s=>fl 0 a s fun c s =>
 cA P zei [c] s fun d s =>
 zi d (zb 28 a s fun e s =>
 zf true 2 e s fun f s =>
 cA P zbI [f] s fun g s =>
 cA P zW [x0,g] s fun _ s =>
 Z (some []) s) (Z (some []) s))
theorem zdC:F2 Tryz.prog zdB zfu:=zg [.l [90] [(5, 1),(91, 21)]] Tryz.func121 (by decide +kernel) (by kernel_rfl) fun {_ _ _ _ _}=>cast (by kernel_rfl)
def zrd (P:Program) (x0 x1:AV) (σ:LO) (Z:ZT):Prop :=
 zaH x0 σ fun a s =>
 zaH x1 s fun b s =>
 zf true 30 a s fun c s =>
 zf true 30 b s fun d s =>
 cA P zgC [c] s fun e t =>
 zI b s t/\(cA P zgC [d] t fun f s =>
 zcB .eql (.flat [false,false,false,false,false,false,false,false,false,false,true,false,false]) e f s fun g s =>
 gTl g 9 a s fun h s =>
 gTl g 9 b s fun i s =>
 gT g (cA P zgu [h,i] s) s fun j s =>
 anC g j s fun l s =>
 gT l (zb 10 a s) s fun m s =>
 gT l (zf true 3 m s) s fun n s =>
 gT l (zb 10 b s) s fun o s =>
 gT l (zf true 3 o s) s fun p s =>
 gT l (cA P zeo [n,p] s) s fun q s =>
 anC l q s fun r s =>
 gTl r 13 a s fun u s =>
 gTl r 13 b s fun w s =>
 gT r (cA P zaC [u,w,(.fn (.func zeT) [] [])] s) s fun y s =>
 anC r y s fun z s =>
 gTl z 14 a s fun A s =>
 gTl z 14 b s fun B s =>
 gT z (cA P zaF [A,B,(.fn (.func zfl) [] [])] s) s fun C s =>
 anC z C s fun D s =>
 gTl D 15 a s fun E s =>
 gTl D 15 b s fun F s =>
 gT D (cA P zhp [E,F] s) s fun G s =>
 anC D G s fun H s =>
 gT H (zb 18 a s) s fun I s =>
 gT H (zf true 10 I s) s fun J s =>
 gT H (zb 18 b s) s fun K s =>
 gT H (zf true 10 K s) s fun L s =>
 gT H (cA P zgJ [J,L] s) s fun M s =>
 anC H M s fun N s =>
 z1 Z N s)
theorem zqQ:F2 Tryz.prog zlS zrd:=zg [.d [(0, 1),(2, 1),(1, 1),(3, 45)] [(1,[3])]] Tryz.func122 (by decide +kernel) (by kernel_rfl) fun {_ _ _ _ _}=>cast (by kernel_rfl)
def zlV (P:Program) (x0:AV) (σ:LO) (Z:ZT):Prop :=
 zaH x0 σ fun a s =>
 zT [iN 0,iN 0,iN 0,iN 0,iN 0,iN 0,iN 0,iN 0,iN 0,eN,iN 0,iN 0,eN,eN,eN,eN,(.d (.str [])),iN 0,(.d (.str [])),iN 0,eN,eN,iN 0,iN 0,eN,iN 0,iN 0,eN,iN 0,iN 0] s fun b s =>
 fl 0 a s fun c s =>
 fl 1 a s fun d s =>
 zy (zP [iN 0,iN 0,iN 0,iN 0,iN 0,iN 0,iN 0,iN 0,iN 0,eN,iN 0,iN 0,eN,eN,eN,eN,(.d (.str [])),iN 0,(.d (.str [])),iN 0,eN,eN,iN 0,iN 0,eN,iN 0,iN 0,eN,iN 0,iN 0] [(0, 1,c),(1, 1,d)]) s fun e s =>
 cp [iN 0,iN 0,iN 0,iN 0,iN 0,iN 0,iN 0,iN 0,iN 0,eN,iN 0,iN 0,eN,eN,eN,eN,(.d (.str [])),iN 0,(.d (.str [])),iN 0,eN,eN,iN 0,iN 0,eN,iN 0,iN 0,eN,iN 0,iN 0] 30 e s fun f s =>
 (fun (g:LO->Prop)=>fl 0 a s fun r s =>
 bP .eql r (iN 1) s fun u s =>
 zi u (zb 9 a s fun w s =>
 zf false 1 w s fun y s =>
 zb 1 f s fun z s =>
 zj 1 z (iN 0) s fun _ t =>
 zI w s t/\(zb 9 f t fun B s =>
 zj 1 B y s fun _ s =>
 g s)) ((fun (D:AV->LO->Prop)=>bP .eql r (iN 2) s fun M1 s =>
 zi M1 (D M1 s) (bP .eql r (iN 3) s fun N1 s =>
 zi N1 (D N1 s) (bP .eql r (iN 4) s fun O1 s =>
 D O1 s)))
 (fun E s=>zi E (fl 2 a s fun F s =>
 zb 3 a s fun G s =>
 zf false 1 G s fun H s =>
 zb 4 a s fun I s =>
 zf false 1 I s fun J s =>
 zb 2 f s fun K s =>
 zj 1 K F s fun _ t =>
 zI G s t/\(zI I s t/\(zb 3 f t fun M s =>
 zj 1 M H s fun _ t =>
 zI I s t/\(zb 4 f t fun O s =>
 zj 1 O J s fun _ s =>
 fl 0 a s fun R s =>
 bP .eql R (iN 2) s fun S s =>
 zi S (fl 9 a s fun T s =>
 zb 9 f s fun U s =>
 zj 1 U T s fun _ s =>
 g s) (g s))))) (bP .eql r (iN 5) s fun W s =>
 zi W (fl 2 a s fun X s =>
 zb 5 a s fun Y s =>
 zf false 1 Y s fun a0 s =>
 zb 6 a s fun b0 s =>
 zf false 1 b0 s fun c0 s =>
 zb 7 a s fun d0 s =>
 zf true 2 d0 s fun e0 s =>
 zb 2 f s fun f0 s =>
 zj 1 f0 X s fun _ t =>
 zI Y s t/\(zI b0 s t/\(zI d0 s t/\(zb 5 f t fun h0 s =>
 zj 1 h0 a0 s fun _ t =>
 zI b0 s t/\(zI d0 s t/\(zb 6 f t fun j0 s =>
 zj 1 j0 c0 s fun _ t =>
 zI d0 s t/\(zb 7 f t fun m0 s =>
 zj 2 m0 e0 s fun _ s =>
 g s))))))) (bP .eql r (iN 6) s fun p0 s =>
 zi p0 (fl 3 a s fun q0 s =>
 zb 4 a s fun r0 s =>
 zf false 1 r0 s fun u0 s =>
 zb 3 f s fun w0 s =>
 zj 1 w0 q0 s fun _ t =>
 zI r0 s t/\(zb 4 f t fun z0 s =>
 zj 1 z0 u0 s fun _ s =>
 g s)) (bP .eql r (iN 7) s fun B0 s =>
 zi B0 (fl 2 a s fun C0 s =>
 zb 13 a s fun D0 s =>
 zf false 1 D0 s fun E0 s =>
 zb 2 f s fun F0 s =>
 zj 1 F0 C0 s fun _ t =>
 zI D0 s t/\(zb 13 f t fun H0 s =>
 zj 1 H0 E0 s fun _ s =>
 g s)) (bP .eql r (iN 8) s fun J0 s =>
 zi J0 (fl 2 a s fun K0 s =>
 zb 13 a s fun L0 s =>
 zf false 1 L0 s fun M0 s =>
 zb 14 a s fun N0 s =>
 zf false 1 N0 s fun O0 s =>
 zb 2 f s fun Q0 s =>
 zj 1 Q0 K0 s fun _ t =>
 zI L0 s t/\(zI N0 s t/\(zb 13 f t fun S0 s =>
 zj 1 S0 M0 s fun _ t =>
 zI N0 s t/\(zb 14 f t fun U0 s =>
 zj 1 U0 O0 s fun _ s =>
 g s)))) (bP .eql r (iN 9) s fun W0 s =>
 zi W0 (fl 3 a s fun X0 s =>
 zb 3 f s fun Y0 s =>
 zj 1 Y0 X0 s fun _ s =>
 g s) (bP .eql r (iN 10) s fun b1 s =>
 zi b1 (zb 10 a s fun c1 s =>
 zf true 3 c1 s fun d1 s =>
 zb 15 a s fun e1 s =>
 zf false 1 e1 s fun f1 s =>
 zb 10 f s fun g1 s =>
 zj 3 g1 d1 s fun _ t =>
 zI e1 s t/\(zb 15 f t fun i1 s =>
 zj 1 i1 f1 s fun _ s =>
 g s)) (bP .eql r (iN 11) s fun l1 s =>
 zi l1 (zb 5 a s fun o1 s =>
 zf false 1 o1 s fun p1 s =>
 zb 16 a s fun q1 s =>
 zf false 1 q1 s fun r1 s =>
 zb 17 a s fun u1 s =>
 zf false 1 u1 s fun w1 s =>
 zb 1 f s fun y1 s =>
 zj 1 y1 (iN 0) s fun _ t =>
 zI o1 s t/\(zI q1 s t/\(zI u1 s t/\(zb 5 f t fun B1 s =>
 zj 1 B1 p1 s fun _ t =>
 zI q1 s t/\(zI u1 s t/\(zb 16 f t fun D1 s =>
 zj 1 D1 r1 s fun _ t =>
 zI u1 s t/\(zb 17 f t fun F1 s =>
 zj 1 F1 w1 s fun _ s =>
 g s))))))) (bP .eql r (iN 12) s fun H1 s =>
 zi H1 (zb 18 a s fun I1 s =>
 zf true 10 I1 s fun J1 s =>
 zb 18 f s fun K1 s =>
 zj 10 K1 J1 s fun _ s =>
 g s) (g s))))))))))))
 (fun  s=>(fun (h:LO->Prop)=>fl 0 a s fun l s =>
 cA P zei [l] s fun m s =>
 zi m (zb 28 a s fun n s =>
 zf true 2 n s fun o s =>
 zb 28 f s fun p s =>
 zj 2 p o s fun _ s =>
 h s) (h s))
 (fun  s=>zf true 30 f s fun i s =>
 zj 30 b i s fun _ s =>
 Z (zA (zae b s true 30) (some [])) s))
theorem ziF:F1 Tryz.prog ziD zlV:=zg [.d [(0, 6)] [(3,[13])],.d [(0, 12)] [(7,[23, 25]),(9,[25])],.d [(0, 16)] [(9,[40, 42, 44]),(11,[42, 44]),(13,[44])],.d [(0, 8)] [(5,[54])],.d [(0, 8)] [(5,[62])],.d [(0, 12)] [(7,[70, 72]),(9,[72])],.d [(0, 8)] [(5,[86])],.d [(0, 14)] [(7,[92, 94, 96]),(9,[94, 96]),(11,[96])]] Tryz.func123 (by decide +kernel) (by kernel_rfl) fun {_ _ _ _}=>cast (by kernel_rfl)
def zjd (P:Program) (x0 x1:AV) (σ:LO) (Z:ZT):Prop :=
 zaH x1 σ fun a s =>
 cA P zcW [x0] s fun b s =>
 unC .not b s fun c s =>
 gTm c x0 s fun d s =>
 gT c (zbZ d s) s fun e s =>
 gTl c 1 e s fun f s =>
 gT c (zf true 2 a s) s fun g s =>
 gT c (zaK (.ints 2) false bF f g s) s fun h s =>
 anC c h s fun i s =>
 z1 Z i s
theorem ziW:F2 Tryz.prog zep zjd:=zg [.d [(0, 12)] []] Tryz.func124 (by decide +kernel) (by kernel_rfl) fun {_ _ _ _ _}=>cast (by kernel_rfl)
def zbB (P:Program) (x0 x1 x2:AV) (σ:LO) (Z:ZT):Prop :=
 zal .sl x0 σ fun a s =>
 zal .sl x1 s fun b s =>
 bP .neq a b s fun c s =>
 zi c (z1 Z bF s) (zal .sl x0 s fun d s =>
 zaT [(iN 0)] s fun v s e =>
 zax v fun f v=>bP .lss f d s fun g s =>
 zi g (il true 9 9 x0 f s fun h s =>
 zT [iN 0,iN 0,iN 0,(.d (.str [])),(.d (.str [])),iN 0,eN,iN 0,iN 0] s fun i s =>
 zj 9 i h s fun _ s =>
 il true 9 9 x1 f s fun l s =>
 cp [iN 0,iN 0,iN 0,(.d (.str [])),(.d (.str [])),iN 0,eN,iN 0,iN 0] 9 l s fun m s =>
 zf true 9 i s fun n s =>
 zf true 9 m s fun o s =>
 zaj P x2 [dm n,dm o] s fun p s =>
 unC .not p s fun q s =>
 zi q (z1 Z bF s) (bP .add f (iN 1) s fun r s =>
 e [r] s)) (z1 Z bT s))
theorem zbA:F3 Tryz.prog zaD zbB:=zg [.l [17] [(6, 4),(18, 14)]] Tryz.func125 (by decide +kernel) (by kernel_rfl) fun {_ _ _ _ _ _}=>cast (by kernel_rfl)
def znW (P:Program) (x0 x1:AV) (σ:LO) (Z:ZT):Prop :=
 zaH x0 σ fun a s =>
 zaH x1 s fun b s =>
 zb 7 a s fun c s =>
 zf true 2 c s fun d s =>
 zb 7 b s fun e s =>
 zf true 2 e s fun f s =>
 zcB .eql (.ints 2) d f s fun g s =>
 gT g (zb 0 a s) s fun h s =>
 gTl g 0 h s fun i s =>
 gT g (zb 0 b s) s fun j s =>
 gTl g 0 j s fun l s =>
 gT g (bP .eql i l s) s fun m s =>
 anC g m s fun n s =>
 gT n (zb 0 a s) s fun o s =>
 gTl n 1 o s fun p s =>
 gT n (zb 0 b s) s fun q s =>
 gTl n 1 q s fun r s =>
 gT n (bP .eql p r s) s fun u s =>
 anC n u s fun w s =>
 gT w (zb 0 a s) s fun y s =>
 gT w (zb 2 y s) s fun z s =>
 gT w (zf true 5 z s) s fun A s =>
 gT w (zb 0 b s) s fun B s =>
 gT w (zb 2 B s) s fun C s =>
 gT w (zf true 5 C s) s fun D s =>
 gT w (cA P zsc [A,D] s) s fun E s =>
 anC w E s fun F s =>
 z1 Z F s
theorem znA:F2 Tryz.prog zgA znW:=zg [] Tryz.func126 (by decide +kernel) (by kernel_rfl) fun {_ _ _ _ _}=>cast (by kernel_rfl)
def S_op_Same (P:Program) (x0 x1:AV) (σ:LO) (Z:ZT):Prop :=
 zaH x0 σ fun a s =>
 zaH x1 s fun b s =>
 fl 0 a s fun c s =>
 fl 0 b s fun d s =>
 bP .eql c d s fun e s =>
 gTl e 1 a s fun f s =>
 gTl e 1 b s fun g s =>
 gT e (bP .eql f g s) s fun h s =>
 anC e h s fun i s =>
 gTl i 2 a s fun j s =>
 gTl i 2 b s fun l s =>
 gT i (bP .eql j l s) s fun m s =>
 anC i m s fun n s =>
 gTl n 3 a s fun o s =>
 gTl n 3 b s fun p s =>
 gT n (bP .eql o p s) s fun q s =>
 anC n q s fun r s =>
 gTl r 4 a s fun u s =>
 gTl r 4 b s fun w s =>
 gT r (cA P zaB [u,w,(.fn (.func znb) [] [])] s) s fun y s =>
 anC r y s fun z s =>
 z1 Z z s
theorem e_op_Same:F2 Tryz.prog zsc S_op_Same:=zg [] Tryz.func127 (by decide +kernel) (by kernel_rfl) fun {_ _ _ _ _}=>cast (by kernel_rfl)
end Go.Proofs.YtpgahkdjkanblaaGreat
