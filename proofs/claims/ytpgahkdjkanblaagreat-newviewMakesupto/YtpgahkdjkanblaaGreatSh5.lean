/- The conditions of each function, its slots as variables, and that the logic's conditions are these. Printed by program. -/
import Derived.Test.YtpgahkdjkanblaaGreatNm
import Derived.KernelRfl
set_option linter.all false
set_option maxRecDepth 100000
namespace Go.Proofs.YtpgahkdjkanblaaGreat
open Go.AW
def zkR (P:Program) (x0 x1:AV) (σ:LO) (Z:ZT):Prop :=
 zaH x0 σ fun a s =>
 zaH x1 s fun b s =>
 fl 0 a s fun c s =>
 fl 0 b s fun d s =>
 bP .eql c d s fun e s =>
 gTl e 1 a s fun f s =>
 gTl e 1 b s fun g s =>
 gT e (bP .eql f g s) s fun h s =>
 anC e h s fun i s =>
 gTl i 2 a s fun j s =>
 gTl i 2 b s fun l s =>
 gT i (cA P zgu [j,l] s) s fun m s =>
 anC i m s fun n s =>
 gT n (zb 3 a s) s fun o s =>
 gT n (zf true 2 o s) s fun p s =>
 gT n (zb 3 b s) s fun q s =>
 gT n (zf true 2 q s) s fun r s =>
 gT n (zcB .eql (.ints 2) p r s) s fun u s =>
 anC n u s fun w s =>
 z1 Z w s
theorem zkB:F2 Tryz.prog zfl zkR:=zg [] Tryz.func178 (by decide +kernel) (by kernel_rfl) fun {_ _ _ _ _}=>cast (by kernel_rfl)
def zsZ (P:Program) (x0 x1:AV) (σ:LO) (Z:ZT):Prop :=
 zak .toStr x0 σ fun a s =>
 zak .toStr x1 s fun b s =>
 bP .eql a b s fun c s =>
 z1 Z c s
theorem zsB:F2 Tryz.prog zhp zsZ:=zg [] Tryz.func179 (by decide +kernel) (by kernel_rfl) fun {_ _ _ _ _}=>cast (by kernel_rfl)
def zkQ (P:Program) (x0 x1:AV) (σ:LO) (Z:ZT):Prop :=
 zaH x0 σ fun a s =>
 zaH x1 s fun b s =>
 fl 0 a s fun c s =>
 fl 0 b s fun d s =>
 bP .eql c d s fun e s =>
 gTl e 1 a s fun f s =>
 gTl e 1 b s fun g s =>
 gT e (bP .eql f g s) s fun h s =>
 anC e h s fun i s =>
 gTl i 2 a s fun j s =>
 gTl i 2 b s fun l s =>
 gT i (cA P zhp [j,l] s) s fun m s =>
 anC i m s fun n s =>
 gTl n 3 a s fun o s =>
 gTl n 3 b s fun p s =>
 gT n (cA P zch [o,p] s) s fun q s =>
 anC n q s fun r s =>
 gTl r 4 a s fun u s =>
 gTl r 4 b s fun w s =>
 gT r (bP .eql u w s) s fun y s =>
 anC r y s fun z s =>
 gTl z 5 a s fun A s =>
 gTl z 5 b s fun B s =>
 gT z (bP .eql A B s) s fun C s =>
 anC z C s fun D s =>
 gTl D 6 a s fun E s =>
 gTl D 6 b s fun F s =>
 gT D (cA P zci [E,F] s) s fun G s =>
 anC D G s fun H s =>
 gT H (zb 7 a s) s fun I s =>
 gT H (zf true 3 I s) s fun J s =>
 gT H (zb 7 b s) s fun K s =>
 gT H (zf true 3 K s) s fun L s =>
 gT H (cA P zeo [J,L] s) s fun M s =>
 anC H M s fun N s =>
 z1 Z N s
theorem zkA:F2 Tryz.prog zgJ zkQ:=zg [] Tryz.func180 (by decide +kernel) (by kernel_rfl) fun {_ _ _ _ _}=>cast (by kernel_rfl)
def zbk (P:Program) (x0 x1 x2:AV) (σ:LO) (Z:ZT):Prop :=
 zal .sl x0 σ fun a s =>
 zal .sl x1 s fun b s =>
 bP .neq a b s fun c s =>
 zi c (z1 Z bF s) (zal .sl x0 s fun d s =>
 zaT [(iN 0)] s fun v s e =>
 zax v fun f v=>bP .lss f d s fun g s =>
 zi g (il false 1 1 x0 f s fun h s =>
 il false 1 1 x1 f s fun i s =>
 zaj P x2 [dm h,dm i] s fun j s =>
 unC .not j s fun l s =>
 zi l (z1 Z bF s) (bP .add f (iN 1) s fun m s =>
 e [m] s)) (z1 Z bT s))
theorem zbh:F3 Tryz.prog zaB zbk:=zg [.l [17] [(6, 4),(18, 14)]] Tryz.func181 (by decide +kernel) (by kernel_rfl) fun {_ _ _ _ _ _}=>cast (by kernel_rfl)
def zxl (P:Program) (x0 x1:AV) (σ:LO) (Z:ZT):Prop :=
 cA P zhp [x0,x1] σ fun a s =>
 z1 Z a s
theorem zwt:F2 Tryz.prog znb zxl:=zg [] Tryz.func182 (by decide +kernel) (by kernel_rfl) fun {_ _ _ _ _}=>cast (by kernel_rfl)
def zzu (P:Program) (x0:AV) (σ:LO) (Z:ZT):Prop :=
 zaH x0 σ fun a s =>
 zf true 5 a s fun b s =>
 cA P zvJ [b] s fun c s =>
 zc c 0 s fun d s =>
 zc c 1 s fun e s =>
 cp [iN 0,(.d (.str [])),(.d (.str [])),iN 0,eN] 5 d s fun f s =>
 unC .not e s fun g s =>
 gF g (zf true 5 a s) s fun h s =>
 gF g (zf true 5 f s) s fun i s =>
 gF g (cA P zsc [h,i] s) s fun j s =>
 gF g (unC .not j s) s fun l s =>
 orC g l s fun m s =>
 zi m (z1 Z (iN 60) s) (fl 0 a s fun n s =>
 bP .neq n (iN 0) s fun o s =>
 gTl o 1 a s fun p s =>
 gT o (cA P zsd [p] s) s fun q s =>
 gT o (unC .not q s) s fun r s =>
 anC o r s fun u s =>
 zi u (z1 Z (iN 61) s) (fl 0 a s fun w s =>
 bP .eql w (iN 3) s fun y s =>
 gTl y 2 a s fun z s =>
 gT y (cA P zsd [z] s) s fun A s =>
 gT y (unC .not A s) s fun B s =>
 anC y B s fun C s =>
 zi C (z1 Z (iN 61) s) (fl 0 a s fun D s =>
 bP .eql D (iN 2) s fun E s =>
 gTl E 4 a s fun F s =>
 gT E (zal .sl F s) s fun G s =>
 gT E (bP .lss G (iN 1) s) s fun H s =>
 gTm E H s fun I s =>
 gFl I 4 a s fun J s =>
 gF I (zal .sl J s) s fun K s =>
 gF I (bP .gtr K (iN 4) s) s fun L s =>
 gT E (orC I L s) s fun M s =>
 gTm E M s fun N s =>
 gFl N 4 a s fun O s =>
 gFm N (.fn (.func zll) [] []) s fun Q s =>
 gF N (cA P zbH [O,Q] s) s fun R s =>
 gT E (orC N R s) s fun S s =>
 anC E S s fun T s =>
 zi T (z1 Z (iN 62) s) (fl 3 a s fun U s =>
 bP .lss U (iN 0) s fun V s =>
 gFl V 3 a s fun W s =>
 gF V (bP .gtr W (iN 9007199254740992) s) s fun X s =>
 orC V X s fun Y s =>
 zi Y (z1 Z (iN 60) s) (z1 Z (iN 0) s)))))
theorem zyI:F1 Tryz.prog zqk zzu:=zg [] Tryz.func183 (by decide +kernel) (by kernel_rfl) fun {_ _ _ _}=>cast (by kernel_rfl)
def zpK (P:Program) (x0:AV) (σ:LO) (Z:ZT):Prop :=
 zaH x0 σ fun a s =>
 zf true 7 a s fun b s =>
 cA P zhc [b] s fun c s =>
 bP .neq c (iN 0) s fun d s =>
 zi d (z2 Z eN c s) (fl 0 a s fun e s =>
 zak (.int .u64) e s fun f s =>
 zb 1 a s fun g s =>
 zf false 1 g s fun h s =>
 zak (.int .u64) h s fun i s =>
 zb 2 a s fun j s =>
 zf true 5 j s fun l s =>
 cA P zbE [eN,f] s fun m t =>
 zI g s t/\(zI j s t/\(cA P zbE [m,i] t fun n s =>
 zI j t s/\(cA P zzN [n,l] s fun o s =>
 z2 Z o (iN 0) s))))
theorem zpl:F1 Tryz.prog zhd zpK:=zg [.d [(0, 3),(4, 3),(8, 2),(3, 1),(7, 1),(10, 3)] [(3,[14, 18]),(7,[18])]] Tryz.func184 (by decide +kernel) (by kernel_rfl) fun {_ _ _ _}=>cast (by kernel_rfl)
def zit (P:Program) (x0 x1:AV) (σ:LO) (Z:ZT):Prop :=
 zaH x1 σ fun a s =>
 zf true 2 a s fun b s =>
 cA P zbI [b] s fun c s =>
 bP .neq c (iN 0) s fun d s =>
 zi d (cA P zdc [x0] s fun e s =>
 z1 Z e s) (fl 0 a s fun f s =>
 zak (.int .u64) f s fun g s =>
 zb 1 a s fun h s =>
 zf false 1 h s fun i s =>
 zak (.int .u64) i s fun j s =>
 cA P zbE [x0,g] s fun l t =>
 zI h s t/\(cA P zbE [l,j] t fun m s =>
 z1 Z m s))
theorem zgl:F2 Tryz.prog zeX zit:=zg [.d [(0, 4),(5, 3),(4, 1),(8, 2)] [(4,[15])]] Tryz.func185 (by decide +kernel) (by kernel_rfl) fun {_ _ _ _ _}=>cast (by kernel_rfl)
def zol (P:Program) (x0 x1:AV) (σ:LO) (Z:ZT):Prop :=
 zal .sl x1 σ fun a s =>
 zak (.int .u64) a s fun b s =>
 cA P zbE [x0,b] s fun c s =>
 zG 1 1 c x1 s fun d s =>
 z1 Z d s
theorem znP:F2 Tryz.prog zej zol:=zg [] Tryz.func186 (by decide +kernel) (by kernel_rfl) fun {_ _ _ _ _}=>cast (by kernel_rfl)
def zxd (P:Program) (x0:AV) (σ:LO) (Z:ZT):Prop :=
 zaT [(iN 0)] σ fun v s a =>
 zax v fun b v=>zal .sl x0 s fun c s =>
 bP .lss b c s fun d s =>
 zi d (il false 1 1 x0 b s fun e s =>
 bP .neq e (iN 0) s fun f s =>
 zi f (il false 1 1 x0 b s fun g s =>
 z1 Z g s) (bP .add b (iN 1) s fun h s =>
 a [h] s)) (z1 Z (iN 0) s)
theorem zwl:F1 Tryz.prog zcD zxd:=zg [.l [3] [(2, 1),(4, 15)]] Tryz.func188 (by decide +kernel) (by kernel_rfl) fun {_ _ _ _}=>cast (by kernel_rfl)
def zuM (P:Program) (x0:AV) (σ:LO) (Z:ZT):Prop :=
 cA P ziz [x0,(iN 0),(iN 12)] σ fun a s =>
 z1 Z a s
theorem zuw:F1 Tryz.prog zem zuM:=zg [] Tryz.func189 (by decide +kernel) (by kernel_rfl) fun {_ _ _ _}=>cast (by kernel_rfl)
def S_r10_num (P:Program) (x0:AV) (σ:LO) (Z:ZT):Prop :=
 cA P ziz [x0,(iN 0),(iN 9007199254740992)] σ fun a s =>
 z1 Z a s
theorem e_r10_num:F1 Tryz.prog zfV S_r10_num:=zg [] Tryz.func190 (by decide +kernel) (by kernel_rfl) fun {_ _ _ _}=>cast (by kernel_rfl)
def S_r10_in (P:Program) (x0 x1 x2:AV) (σ:LO) (Z:ZT):Prop :=
 bP .lss x0 x1 σ fun a s =>
 gFm a x0 s fun b s =>
 gFm a x2 s fun c s =>
 gF a (bP .gtr b c s) s fun d s =>
 orC a d s fun e s =>
 zi e (z1 Z (iN 100) s) (z1 Z (iN 0) s)
theorem e_r10_in:F3 Tryz.prog ziz S_r10_in:=zg [] Tryz.func191 (by decide +kernel) (by kernel_rfl) fun {_ _ _ _ _ _}=>cast (by kernel_rfl)
def S_r10_pos (P:Program) (x0:AV) (σ:LO) (Z:ZT):Prop :=
 cA P ziz [x0,(iN 1),(iN 9007199254740992)] σ fun a s =>
 z1 Z a s
theorem e_r10_pos:F1 Tryz.prog zhg S_r10_pos:=zg [] Tryz.func192 (by decide +kernel) (by kernel_rfl) fun {_ _ _ _}=>cast (by kernel_rfl)
def zmH (P:Program) (x0:AV) (σ:LO) (Z:ZT):Prop :=
 zaH x0 σ fun a s =>
 zf true 8 a s fun b s =>
 zb 6 a s fun c s =>
 zf true 2 c s fun d s =>
 cA P zkm [b] s fun e t =>
 zI c s t/\(cA P zcm [d] t fun f s =>
 zl false 1 2 (zP (rep [iN 0] 2) [(0, 1,e),(1, 1,f)]) s fun g s =>
 cA P zcD [g] s fun h s =>
 z1 Z h s)
theorem zmr:F1 Tryz.prog zgh zmH:=zg [.d [(0, 1),(2, 2),(1, 1),(4, 4)] [(1,[5])]] Tryz.func193 (by decide +kernel) (by kernel_rfl) fun {_ _ _ _}=>cast (by kernel_rfl)
def zlE (P:Program) (x0:AV) (σ:LO) (Z:ZT):Prop :=
 zaH x0 σ fun a s =>
 fl 1 a s fun b s =>
 zb 2 a s fun c s =>
 zf false 1 c s fun d s =>
 zb 13 a s fun e s =>
 zf false 1 e s fun f s =>
 zal .sl f s fun g s =>
 cA P zem [b] s fun h t =>
 zI c s t/\(zI e s t/\(cA P zhg [d] t fun i s =>
 zI e t s/\(cA P ziz [g,(iN 0),(iN 13)] s fun j s =>
 zl false 1 3 (zP (rep [iN 0] 3) [(0, 1,h),(1, 1,i),(2, 1,j)]) s fun l s =>
 cA P zcD [l] s fun m s =>
 bP .neq m (iN 0) s fun n s =>
 zi n (z1 Z m s) (zaT [(iN 0)] s fun v s o =>
 zax v fun p v=>fl 13 a s fun q s =>
 zal .sl q s fun r s =>
 bP .lss p r s fun u s =>
 zi u (fl 13 a s fun w s =>
 il true 8 8 w p s fun y s =>
 cA P zgh [y] s fun z s =>
 bP .neq z (iN 0) s fun A s =>
 zi A (z1 Z z s) (bP .add p (iN 1) s fun B s =>
 o [B] s)) (fl 14 a s fun C s =>
 zal .sl C s fun D s =>
 bP .gtr D (iN 8) s fun E s =>
 zi E (z1 Z (iN 100) s) (zaT [(iN 0)] s fun v s F =>
 zax v fun G v=>fl 14 a s fun H s =>
 zal .sl H s fun I s =>
 bP .lss G I s fun J s =>
 zi J (fl 14 a s fun K s =>
 il true 5 5 K G s fun L s =>
 cA P zjk [L] s fun M s =>
 bP .neq M (iN 0) s fun N s =>
 zi N (z1 Z M s) (bP .add G (iN 1) s fun O s =>
 F [O] s)) (zb 28 a s fun Q s =>
 zf true 2 Q s fun R s =>
 cA P zcm [R] s fun S s =>
 z1 Z S s)))))))
theorem zlq:F1 Tryz.prog zhh zlE:=zg [.d [(0, 2),(3, 2),(6, 3),(2, 1),(5, 1),(9, 4)] [(2,[11, 14]),(5,[14])],.l [4] [(2, 1),(5, 1),(23, 16)],.l [6] [(2, 1),(7, 1),(43, 16)]] Tryz.func194 (by decide +kernel) (by kernel_rfl) fun {_ _ _ _}=>cast (by kernel_rfl)
def zpR (P:Program) (x0:AV) (σ:LO) (Z:ZT):Prop :=
 zaH x0 σ fun a s =>
 fl 0 a s fun b s =>
 zb 1 a s fun c s =>
 zf false 1 c s fun d s =>
 cA P zfV [b] s fun e t =>
 zI c s t/\(cA P zfV [d] t fun f s =>
 zl false 1 2 (zP (rep [iN 0] 2) [(0, 1,e),(1, 1,f)]) s fun g s =>
 cA P zcD [g] s fun h s =>
 bP .neq h (iN 0) s fun i s =>
 zi i (z1 Z h s) (fl 0 a s fun j s =>
 bP .eql j (iN 0) s fun l s =>
 gTl l 1 a s fun m s =>
 gT l (bP .neq m (iN 0) s) s fun n s =>
 gTm l n s fun o s =>
 gFl o 2 a s fun p s =>
 gF o (zal .sl p s) s fun q s =>
 gF o (bP .gtr q (iN 0) s) s fun r s =>
 gT l (orC o r s) s fun u s =>
 anC l u s fun w s =>
 gFl w 0 a s fun y s =>
 gF w (bP .gtr y (iN 0) s) s fun z s =>
 gFm w z s fun A s =>
 gTl A 1 a s fun B s =>
 gT A (bP .eql B (iN 0) s) s fun C s =>
 gF w (anC A C s) s fun D s =>
 orC w D s fun E s =>
 zi E (z1 Z (iN 100) s) (fl 2 a s fun F s =>
 cA P zkk [F] s fun G s =>
 z1 Z G s)))
theorem zps:F1 Tryz.prog zhj zpR:=zg [.d [(0, 2),(3, 2),(2, 1),(5, 4)] [(2,[7])]] Tryz.func195 (by decide +kernel) (by kernel_rfl) fun {_ _ _ _}=>cast (by kernel_rfl)
def S_r08_Key (P:Program) (x0:AV) (σ:LO) (Z:ZT):Prop :=
 bP .lss x0 (iN 0) σ fun a s =>
 gFm a x0 s fun b s =>
 gF a (bP .geq b (iN 8) s) s fun c s =>
 orC a c s fun d s =>
 zi d (z1 Z (iN (-1)) s) (bP .add (iN 13) x0 s fun e s =>
 z1 Z e s)
theorem e_r08_Key:F1 Tryz.prog zoW S_r08_Key:=zg [] Tryz.func198 (by decide +kernel) (by kernel_rfl) fun {_ _ _ _}=>cast (by kernel_rfl)
def zxj (P:Program) (x0:AV) (σ:LO) (Z:ZT):Prop :=
 zaH x0 σ fun a s =>
 fl 0 a s fun b s =>
 cA P zlk [b] s fun c s =>
 zc c 0 s fun d s =>
 zc c 1 s fun e s =>
 zc c 2 s fun f s =>
 zc c 3 s fun g s =>
 fl 0 a s fun h s =>
 bP .lss h (iN 0) s fun i s =>
 gFl i 0 a s fun j s =>
 gF i (bP .gtr j (iN 4) s) s fun l s =>
 orC i l s fun m s =>
 gFm m d s fun n s =>
 gF m (unC .not n s) s fun o s =>
 gFm m o s fun p s =>
 gTl p 1 a s fun q s =>
 gT p (bP .neq q (.d (.str [])) s) s fun r s =>
 gF m (anC p r s) s fun u s =>
 orC m u s fun w s =>
 gFm w e s fun y s =>
 gF w (unC .not y s) s fun z s =>
 gFm w z s fun A s =>
 gTl A 2 a s fun B s =>
 gT A (bP .neq B (.d (.str [])) s) s fun C s =>
 gF w (anC A C s) s fun D s =>
 orC w D s fun E s =>
 gFm E f s fun F s =>
 gF E (unC .not F s) s fun G s =>
 gFm E G s fun H s =>
 gTl H 3 a s fun I s =>
 gT H (bP .neq I (iN 0) s) s fun J s =>
 gF E (anC H J s) s fun K s =>
 orC E K s fun L s =>
 gFm L g s fun M s =>
 gF L (unC .not M s) s fun N s =>
 gFm L N s fun O s =>
 gTl O 4 a s fun Q s =>
 gT O (zal .sl Q s) s fun R s =>
 gT O (bP .gtr R (iN 0) s) s fun S s =>
 gF L (anC O S s) s fun T s =>
 orC L T s fun U s =>
 zi U (z1 Z (iN 60) s) (gTl d 1 a s fun V s =>
 gT d (cA P zqj [V] s) s fun W s =>
 gT d (unC .not W s) s fun X s =>
 anC d X s fun Y s =>
 gFm Y e s fun a0 s =>
 gFm Y a0 s fun b0 s =>
 gTl b0 2 a s fun c0 s =>
 gT b0 (cA P zqj [c0] s) s fun d0 s =>
 gT b0 (unC .not d0 s) s fun e0 s =>
 gF Y (anC b0 e0 s) s fun f0 s =>
 orC Y f0 s fun g0 s =>
 zi g0 (z1 Z (iN 61) s) (gTl g 4 a s fun h0 s =>
 gT g (zal .sl h0 s) s fun i0 s =>
 gT g (bP .lss i0 (iN 1) s) s fun j0 s =>
 gTm g j0 s fun l0 s =>
 gFl l0 4 a s fun m0 s =>
 gF l0 (zal .sl m0 s) s fun o0 s =>
 gF l0 (bP .gtr o0 (iN 4) s) s fun p0 s =>
 gT g (orC l0 p0 s) s fun q0 s =>
 anC g q0 s fun r0 s =>
 zi r0 (z1 Z (iN 62) s) (zaT [(iN 0)] s fun v s u0 =>
 zax v fun w0 v=>fl 4 a s fun y0 s =>
 zal .sl y0 s fun z0 s =>
 bP .lss w0 z0 s fun A0 s =>
 zi A0 (fl 4 a s fun B0 s =>
 il false 1 1 B0 w0 s fun C0 s =>
 zal .sl C0 s fun D0 s =>
 bP .gtr D0 (iN 64) s fun E0 s =>
 zi E0 (z1 Z (iN 62) s) (bP .add w0 (iN 1) s fun F0 s =>
 u0 [F0] s)) (fl 3 a s fun G0 s =>
 bP .lss G0 (iN 0) s fun H0 s =>
 gFl H0 3 a s fun I0 s =>
 gF H0 (bP .gtr I0 (iN 9007199254740992) s) s fun J0 s =>
 orC H0 J0 s fun K0 s =>
 zi K0 (z1 Z (iN 60) s) (z1 Z (iN 0) s)))))
theorem zwr:F1 Tryz.prog zmY zxj:=zg [.l [7] [(2, 1),(90, 14)]] Tryz.func199 (by decide +kernel) (by kernel_rfl) fun {_ _ _ _}=>cast (by kernel_rfl)
def S_r06_Put (P:Program) (x0 x1:AV) (σ:LO) (Z:ZT):Prop :=
 zaH x1 σ fun a s =>
 zf true 5 a s fun b s =>
 cA P zmY [b] s fun c s =>
 bP .neq c (iN 0) s fun d s =>
 zi d (z1 Z x0 s) (fl 0 a s fun e s =>
 cA P zlk [e] s fun f s =>
 zc f 0 s fun g s =>
 zc f 1 s fun h s =>
 zc f 2 s fun i s =>
 zc f 3 s fun j s =>
 fl 0 a s fun l s =>
 zak (.int .u64) l s fun m s =>
 cA P zcw [x0,m] s fun n s =>
 (fun (o:AV->LO->Prop)=>zi g (fl 1 a s fun V s =>
 zak .toBytes V s fun W s =>
 cA P zdE [n,W] s fun X s =>
 o X s) (o n s))
 (fun p s=>(fun (q:AV->LO->Prop)=>zi h (fl 2 a s fun S s =>
 zak .toBytes S s fun T s =>
 cA P zdE [p,T] s fun U s =>
 q U s) (q p s))
 (fun r s=>(fun (u:AV->LO->Prop)=>zi i (fl 3 a s fun O s =>
 zak (.int .u64) O s fun Q s =>
 cA P zcw [r,Q] s fun R s =>
 u R s) (u r s))
 (fun w s=>(fun (y:AV->LO->Prop)=>zi j (fl 4 a s fun A s =>
 zal .sl A s fun B s =>
 zak (.int .u64) B s fun C s =>
 cA P zcw [w,C] s fun D s =>
 zaT [D,(iN 0)] s fun v s E =>
 zax v fun F v=>zax v fun G v=>fl 4 a s fun H s =>
 zal .sl H s fun I s =>
 bP .lss G I s fun J s =>
 zi J (fl 4 a s fun K s =>
 il false 1 1 K G s fun L s =>
 cA P zdE [F,L] s fun M s =>
 bP .add G (iN 1) s fun N s =>
 E [M,N] s) (y F s)) (y w s))
 (fun z s=>z1 Z z s)))))
theorem e_r06_Put:F2 Tryz.prog zvI S_r06_Put:=zg [.l [0, 9] [(52, 14)]] Tryz.func200 (by decide +kernel) (by kernel_rfl) fun {_ _ _ _ _}=>cast (by kernel_rfl)
def zcN (P:Program) (x0 x1:AV) (σ:LO) (Z:ZT):Prop :=
 cA P zbX [x0,x1] σ fun a s =>
 bP .geq a (iN 0) s fun b s =>
 z1 Z b s
theorem zcM:F2 Tryz.prog zbJ zcN:=zg [] Tryz.func201 (by decide +kernel) (by kernel_rfl) fun {_ _ _ _ _}=>cast (by kernel_rfl)
def zhV (P:Program) (x0 x1 x2:AV) (σ:LO) (Z:ZT):Prop :=
 zaH x0 σ fun a s =>
 zf false 1 x1 s fun b s =>
 zf false 1 x2 s fun c s =>
 zf true 9 a s fun d s =>
 cA P zkj [b,c,d] s fun e s =>
 unC .not e s fun f s =>
 z1 Z f s
theorem zhL:F3 Tryz.prog zhG zhV:=zg [] Tryz.func202 (by decide +kernel) (by kernel_rfl) fun {_ _ _ _ _ _}=>cast (by kernel_rfl)
def zpH (P:Program) (x0 x1 x2:AV) (σ:LO) (Z:ZT):Prop :=
 zaH x2 σ fun a s =>
 zb 0 a s fun b s =>
 zf true 7 b s fun c s =>
 cA P zhd [c] s fun d s =>
 zc d 0 s fun e s =>
 zc d 1 s fun f s =>
 bP .neq f (iN 0) s fun g s =>
 zi g (z1 Z bF s) (cA P zdp [x0,e] s fun h s =>
 zc h 0 s fun i s =>
 zc h 1 s fun j s =>
 gT j (zb 7 a s) s fun l s =>
 gT j (zf true 2 l s) s fun m s =>
 gT j (zb 0 a s) s fun n s =>
 gTl j 0 n s fun o s =>
 gTm j i s fun p s =>
 gT j (cA P zmT [o] s) s fun q t =>
 zI l s t/\(gT j (zy (zP [iN 0,iN 0] [(0, 1,q),(1, 1,p)]) t) t fun r s =>
 gT j (zcB .eql (.ints 2) m r s) s fun u s =>
 anC j u s fun w s =>
 gTm w x1 s fun y s =>
 gT w (zb 7 a s) s fun z s =>
 gT w (zf true 2 z s) s fun A s =>
 gT w (cA P zep [y,A] s) s fun B s =>
 anC w B s fun C s =>
 z1 Z C s))
theorem zpi:F3 Tryz.prog zkj zpH:=zg [.d [(0, 7),(8, 1),(7, 1),(9, 10)] [(7,[27])]] Tryz.func203 (by decide +kernel) (by kernel_rfl) fun {_ _ _ _ _ _}=>cast (by kernel_rfl)
def zxe (P:Program) (x0 x1 x2:AV) (σ:LO) (Z:ZT):Prop :=
 zaH x2 σ fun a s =>
 zb 0 a s fun b s =>
 zf true 7 b s fun c s =>
 cA P zmX [c] s fun d s =>
 zc d 0 s fun e s =>
 zc d 1 s fun f s =>
 bP .neq f (iN 0) s fun g s =>
 gF g (zb 7 a s) s fun h s =>
 gF g (zb 0 h s) s fun i s =>
 gF g (zf false 1 i s) s fun j s =>
 gF g (zb 0 a s) s fun l s =>
 gFl g 0 l s fun m s =>
 gF g (cA P zoW [m] s) s fun n t =>
 zI i s t/\(gF g (bP .neq j n t) t fun o s =>
 orC g o s fun p s =>
 zi p (z1 Z bF s) (cA P zcL [x0,e] s fun q s =>
 zc q 0 s fun r s =>
 zc q 1 s fun u s =>
 gTm u r s fun w s =>
 gT u (zb 7 a s) s fun y s =>
 gTl u 1 y s fun z s =>
 gT u (bP .eql w z s) s fun A s =>
 anC u A s fun B s =>
 gTm B x1 s fun C s =>
 gT B (zb 7 a s) s fun D s =>
 gT B (zf true 2 D s) s fun E s =>
 gT B (cA P zdU [C,E] s) s fun F s =>
 anC B F s fun G s =>
 z1 Z G s))
theorem zwm:F3 Tryz.prog zrp zxe:=zg [.d [(0, 12)] [(9,[21])]] Tryz.func204 (by decide +kernel) (by kernel_rfl) fun {_ _ _ _ _ _}=>cast (by kernel_rfl)
def zgy (P:Program) (x0 x1:AV) (σ:LO) (Z:ZT):Prop :=
 cA P zfC [x0,x1] σ fun a s =>
 bP .geq a (iN 0) s fun b s =>
 z1 Z b s
theorem zgx:F2 Tryz.prog zex zgy:=zg [] Tryz.func205 (by decide +kernel) (by kernel_rfl) fun {_ _ _ _ _}=>cast (by kernel_rfl)
def ziZ (P:Program) (x0 x1:AV) (σ:LO) (Z:ZT):Prop :=
 zaH x1 σ fun a s =>
 zbZ x0 s fun b s =>
 zb 0 b s fun c s =>
 fl 0 c s fun d s =>
 zf true 2 a s fun e s =>
 cA P zeX [d,e] s fun f s =>
 zbZ x0 s fun g s =>
 zb 0 g s fun h s =>
 zb 0 h s fun i s =>
 zj 1 i f s fun _ s =>
 Z (some []) s
theorem ziS:F2 Tryz.prog zbe ziZ:=zg [.d [(0, 12)] []] Tryz.func206 (by decide +kernel) (by kernel_rfl) fun {_ _ _ _ _}=>cast (by kernel_rfl)
def zhY (P:Program) (x0:AV) (σ:LO) (Z:ZT):Prop :=
 zbZ x0 σ fun a s =>
 zb 0 a s fun b s =>
 fl 0 b s fun c s =>
 zal .sl c s fun d s =>
 bP .gtr d (iN 262144) s fun e s =>
 zi e (z2 Z eN (iN 3) s) (zbZ x0 s fun f s =>
 zb 0 f s fun g s =>
 fl 0 g s fun h s =>
 z2 Z h (iN 0) s)
theorem zhO:F1 Tryz.prog zfE zhY:=zg [] Tryz.func207 (by decide +kernel) (by kernel_rfl) fun {_ _ _ _}=>cast (by kernel_rfl)
def zlH (P:Program) (x0 x1:AV) (σ:LO) (Z:ZT):Prop :=
 zal .sl x1 σ fun a s =>
 zaT [(iN 0)] s fun v s b =>
 zax v fun c v=>bP .lss c a s fun d s =>
 zi d (il false 1 1 x1 c s fun e s =>
 nfl 0 x0 s fun f s =>
 zak (.int .u64) e s fun g s =>
 cA P zbE [f,g] s fun h s =>
 zbZ x0 s fun i s =>
 zb 0 i s fun j s =>
 zj 1 j h s fun _ s =>
 bP .add c (iN 1) s fun m s =>
 b [m] s) (Z (some []) s)
theorem zlt:F2 Tryz.prog zam zlH:=zg [.l [8] [(5, 1),(9, 14)]] Tryz.func208 (by decide +kernel) (by kernel_rfl) fun {_ _ _ _ _}=>cast (by kernel_rfl)
def zhZ (P:Program) (x0 x1:AV) (σ:LO) (Z:ZT):Prop :=
 zbZ x0 σ fun a s =>
 zb 0 a s fun b s =>
 fl 0 b s fun c s =>
 cA P zdn [c,x1] s fun d s =>
 zbZ x0 s fun e s =>
 zb 0 e s fun f s =>
 zb 0 f s fun g s =>
 zj 1 g d s fun _ s =>
 Z (some []) s
theorem zhP:F2 Tryz.prog zbO zhZ:=zg [] Tryz.func209 (by decide +kernel) (by kernel_rfl) fun {_ _ _ _ _}=>cast (by kernel_rfl)
def zjb (P:Program) (x0 x1:AV) (σ:LO) (Z:ZT):Prop :=
 zaH x1 σ fun a s =>
 zbZ x0 s fun b s =>
 zb 0 b s fun c s =>
 fl 0 a s fun d s =>
 fl 1 a s fun e s =>
 zl false 1 2 (zP (rep [iN 0] 2) [(0, 1,d),(1, 1,e)]) s fun f s =>
 cA P zam [c,f] s fun _ s =>
 zb 2 a s fun h s =>
 zf true 3 h s fun i s =>
 cA P zdh [x0,i] s fun _ s =>
 zbZ x0 s fun l s =>
 zb 0 l s fun m s =>
 fl 5 a s fun n s =>
 zal .sl n s fun o s =>
 cA P zcr [m,o] s fun _ s =>
 fl 5 a s fun q s =>
 zal .sl q s fun r s =>
 zaT [(iN 0)] s fun v s u =>
 zax v fun w v=>bP .lss w r s fun y s =>
 zi y (il true 7 7 q w s fun z s =>
 cp [iN 0,iN 0,iN 0,iN 0,iN 0,eN,eN] 7 z s fun A s =>
 zbZ x0 s fun B s =>
 zb 0 B s fun C s =>
 fl 0 A s fun D s =>
 fl 1 A s fun E s =>
 fl 2 A s fun F s =>
 zl false 1 3 (zP (rep [iN 0] 3) [(0, 1,D),(1, 1,E),(2, 1,F)]) s fun G s =>
 cA P zam [C,G] s fun _ s =>
 zb 3 A s fun I s =>
 zf true 2 I s fun J s =>
 cA P zbe [x0,J] s fun _ s =>
 fl 5 A s fun L s =>
 cA P zcS [x0,L] s fun _ s =>
 fl 6 A s fun N s =>
 cA P zbO [x0,N] s fun _ s =>
 bP .add w (iN 1) s fun Q s =>
 u [Q] s) (Z (some []) s)
theorem ziU:F2 Tryz.prog zen zjb:=zg [.d [(0, 9)] [],.d [(0, 7)] [],.l [29] [(5, 1),(30, 27)],.d [(0, 11)] []] Tryz.func211 (by decide +kernel) (by kernel_rfl) fun {_ _ _ _ _}=>cast (by kernel_rfl)
def zkP (P:Program) (x0 x1:AV) (σ:LO) (Z:ZT):Prop :=
 m1 1 [iN 0] x1 σ fun a s =>
 cA P zam [x0,a] s fun _ s =>
 Z (some []) s
theorem zkz:F2 Tryz.prog zcr zkP:=zg [] Tryz.func212 (by decide +kernel) (by kernel_rfl) fun {_ _ _ _ _}=>cast (by kernel_rfl)
def zhA (P:Program) (x0 x1:AV) (σ:LO) (Z:ZT):Prop :=
 zaH x1 σ fun a s =>
 zf true 8 a s fun b s =>
 cA P zen [x0,b] s fun _ s =>
 zb 6 a s fun d s =>
 zf true 2 d s fun e s =>
 cA P zbe [x0,e] s fun _ s =>
 Z (some []) s
theorem zht:F2 Tryz.prog zfk zhA:=zg [] Tryz.func213 (by decide +kernel) (by kernel_rfl) fun {_ _ _ _ _}=>cast (by kernel_rfl)
def zja (P:Program) (x0 x1:AV) (σ:LO) (Z:ZT):Prop :=
 zaH x1 σ fun a s =>
 zbZ x0 s fun b s =>
 zb 0 b s fun c s =>
 fl 0 a s fun d s =>
 fl 1 a s fun e s =>
 zl false 1 2 (zP (rep [iN 0] 2) [(0, 1,d),(1, 1,e)]) s fun f s =>
 cA P zam [c,f] s fun _ s =>
 fl 2 a s fun h s =>
 cA P zcS [x0,h] s fun _ s =>
 Z (some []) s
theorem ziT:F2 Tryz.prog zdh zja:=zg [.d [(0, 9)] []] Tryz.func214 (by decide +kernel) (by kernel_rfl) fun {_ _ _ _ _}=>cast (by kernel_rfl)
def zuT (P:Program) (x0:AV) (σ:LO) (Z:ZT):Prop :=
 zT [(.d (.int .u8 0)),(.d (.int .u8 0)),(.d (.int .u8 0)),(.d (.int .u8 0)),(.d (.int .u8 0)),(.d (.int .u8 0)),(.d (.int .u8 0)),(.d (.int .u8 0)),(.d (.int .u8 0)),(.d (.int .u8 0))] σ fun a s =>
 zT [(.d (.int .u8 0)),(.d (.int .u8 0)),(.d (.int .u8 0)),(.d (.int .u8 0)),(.d (.int .u8 0)),(.d (.int .u8 0)),(.d (.int .u8 0)),(.d (.int .u8 0)),(.d (.int .u8 0)),(.d (.int .u8 0))] s fun b s =>
 zaT [x0,(iN 0)] s fun v s c =>
 zax v fun d v=>zax v fun e v=>bP .gtr d (.d (.int .u64 127)) s fun f s =>
 zi f (zak (.int .u8) d s fun g s =>
 bP .or g (.d (.int .u8 128)) s fun h s =>
 zE (some 10) 1 b e s fun i s =>
 zj 1 i h s fun _ s =>
 bP .shr d (.d (.int .u64 7)) s fun l s =>
 bP .add e (iN 1) s fun m s =>
 c [l,m] s) (zak (.int .u8) d s fun n s =>
 zE (some 10) 1 b e s fun o s =>
 zj 1 o n s fun _ s =>
 zf true 10 b s fun q s =>
 bP .add e (iN 1) s fun r s =>
 zj 10 a q s fun _ s =>
 Z (zA (zae a s true 10) (zA (some r) (some []))) s)
theorem zuD:F1 Tryz.prog zpa zuT:=zg [.l [0, 5] [(6, 11)]] Tryz.func217 (by decide +kernel) (by kernel_rfl) fun {_ _ _ _}=>cast (by kernel_rfl)
def zhy (P:Program) (x0:AV) (σ:LO) (Z:ZT):Prop :=
 zal .sl x0 σ fun a s =>
 zal .sl x0 s fun b s =>
 zdb (.sl 1) x0 none (some a) (some b) s fun c s =>
 z1 Z c s
theorem zhs:F1 Tryz.prog zfg zhy:=zg [] Tryz.func218 (by decide +kernel) (by kernel_rfl) fun {_ _ _ _}=>cast (by kernel_rfl)
def zeQ (P:Program) (x0:AV) (σ:LO) (Z:ZT):Prop :=
 zaa false x0 σ fun a s =>
 zi a (z1 Z eN s) (zl false 2 0 (zP (rep [iN 0,iN 0] 0) []) s fun b s =>
 zG 2 16 b x0 s fun c s =>
 z1 Z c s)
theorem zeL:F1 Tryz.prog zbU zeQ:=zg [] Tryz.func219 (by decide +kernel) (by kernel_rfl) fun {_ _ _ _}=>cast (by kernel_rfl)
def zcV (P:Program) (x0:AV) (σ:LO) (Z:ZT):Prop :=
 zaa false x0 σ fun a s =>
 zi a (z1 Z eN s) (zl true 7 0 (zP (rep [iN 0,iN 0,iN 0,iN 0,iN 0,eN,eN] 0) []) s fun b s =>
 ziH 7 88 b x0 s fun c s =>
 z1 Z c s)
theorem zcU:F1 Tryz.prog zbQ zcV:=zsn [] Tryz.func220 (by decide +kernel) (by kernel_rfl) fun {_ _ _ _}=>cast (by kernel_rfl)
def zxc (P:Program) (x0 x1:AV) (σ:LO) (Z:ZT):Prop :=
 bP .neq x1 (iN 0) σ fun a s =>
 zi a (z2 Z eN x1 s) (zal .sl x0 s fun b s =>
 bP .gtr b (iN 262144) s fun c s =>
 zi c (z2 Z eN (iN 3) s) (z2 Z x0 (iN 0) s))
theorem zwk:F2 Tryz.prog zro zxc:=zg [] Tryz.func221 (by decide +kernel) (by kernel_rfl) fun {_ _ _ _ _}=>cast (by kernel_rfl)
def S_r10_put (P:Program) (x0 x1:AV) (σ:LO) (Z:ZT):Prop :=
 zaT [x0,(iN 0)] σ fun v s a =>
 zax v fun b v=>zax v fun c v=>zal .sl x1 s fun d s =>
 bP .lss c d s fun e s =>
 zi e (il false 1 1 x1 c s fun f s =>
 zak (.int .u64) f s fun g s =>
 cA P zcw [b,g] s fun h s =>
 bP .add c (iN 1) s fun i s =>
 a [h,i] s) (z1 Z b s)
theorem e_r10_put:F2 Tryz.prog zcv S_r10_put:=zg [.l [0, 5] [(6, 13)]] Tryz.func222 (by decide +kernel) (by kernel_rfl) fun {_ _ _ _ _}=>cast (by kernel_rfl)
def zsU (P:Program) (x0 x1:AV) (σ:LO) (Z:ZT):Prop :=
 zaH x1 σ fun a s =>
 fl 0 a s fun b s =>
 fl 1 a s fun c s =>
 zl false 1 2 (zP (rep [iN 0] 2) [(0, 1,b),(1, 1,c)]) s fun d s =>
 zb 2 a s fun e s =>
 zf true 3 e s fun f s =>
 cA P zcv [x0,d] s fun g t =>
 zI e s t/\(cA P zjP [g,f] t fun h s =>
 fl 5 a s fun i s =>
 zal .sl i s fun j s =>
 m1 1 [iN 0] j s fun l s =>
 cA P zcv [h,l] s fun m s =>
 zaT [m,(iN 0)] s fun v s n =>
 zax v fun o v=>zax v fun p v=>fl 5 a s fun q s =>
 zal .sl q s fun r s =>
 bP .lss p r s fun u s =>
 zi u (fl 5 a s fun w s =>
 il true 7 7 w p s fun y s =>
 cp [iN 0,iN 0,iN 0,iN 0,iN 0,eN,eN] 7 y s fun z s =>
 fl 0 z s fun A s =>
 fl 1 z s fun B s =>
 fl 2 z s fun C s =>
 zl false 1 3 (zP (rep [iN 0] 3) [(0, 1,A),(1, 1,B),(2, 1,C)]) s fun D s =>
 zb 3 z s fun E s =>
 zf true 2 E s fun F s =>
 cA P zcv [o,D] s fun G t =>
 zI E s t/\(cA P zdA [G,F] t fun H s =>
 fl 5 z s fun I s =>
 zb 6 z s fun J s =>
 zf false 1 J s fun K s =>
 cA P ziy [H,I] s fun L t =>
 zI J s t/\(cA P zdD [L,K] t fun M s =>
 bP .add p (iN 1) s fun N s =>
 n [M,N] s))) (z1 Z o s))
theorem zsw:F2 Tryz.prog zjQ zsU:=zg [.d [(0, 6),(7, 2),(6, 1),(9, 2)] [(6,[14])],.l [0, 5] [(6, 1),(23, 31)],.d [(0, 8),(9, 2),(8, 1),(11, 2)] [(8,[44])],.d [(0, 3),(4, 2),(3, 1),(6, 2)] [(3,[51])]] Tryz.func224 (by decide +kernel) (by kernel_rfl) fun {_ _ _ _ _}=>cast (by kernel_rfl)
def zpO (P:Program) (x0 x1:AV) (σ:LO) (Z:ZT):Prop :=
 zaH x1 σ fun a s =>
 zf true 8 a s fun b s =>
 zb 6 a s fun c s =>
 zf true 2 c s fun d s =>
 cA P zjQ [x0,b] s fun e t =>
 zI c s t/\(cA P zdA [e,d] t fun f s =>
 z1 Z f s)
theorem zpp:F2 Tryz.prog zkl zpO:=zg [.d [(0, 2),(3, 2),(2, 1),(5, 2)] [(2,[8])]] Tryz.func225 (by decide +kernel) (by kernel_rfl) fun {_ _ _ _ _}=>cast (by kernel_rfl)
def zsT (P:Program) (x0 x1:AV) (σ:LO) (Z:ZT):Prop :=
 zaH x1 σ fun a s =>
 fl 0 a s fun b s =>
 fl 1 a s fun c s =>
 zl false 1 2 (zP (rep [iN 0] 2) [(0, 1,b),(1, 1,c)]) s fun d s =>
 zb 2 a s fun e s =>
 zf false 1 e s fun f s =>
 cA P zcv [x0,d] s fun g t =>
 zI e s t/\(cA P ziy [g,f] t fun h s =>
 z1 Z h s)
theorem zsv:F2 Tryz.prog zjP zsT:=zg [.d [(0, 6),(7, 2),(6, 1),(9, 2)] [(6,[12])]] Tryz.func226 (by decide +kernel) (by kernel_rfl) fun {_ _ _ _ _}=>cast (by kernel_rfl)
def zgW (P:Program) (x0 x1:AV) (σ:LO) (Z:ZT):Prop :=
 zaH x1 σ fun a s =>
 fl 0 a s fun b s =>
 cA P zaA [x0,b] s fun _ s =>
 fl 1 a s fun d s =>
 cA P zaM [x0,d] s fun _ s =>
 fl 2 a s fun f s =>
 cA P zaM [x0,f] s fun _ s =>
 zb 3 a s fun h s =>
 zf true 2 h s fun i s =>
 cA P zbI [i] s fun j s =>
 cA P zW [x0,j] s fun _ s =>
 fl 5 a s fun m s =>
 cA P zbf [x0,m] s fun _ s =>
 fl 6 a s fun o s =>
 cA P zbC [o] s fun p s =>
 cA P zW [x0,p] s fun _ s =>
 Z (some []) s
theorem zgT:F2 Tryz.prog zeY zgW:=zg [] Tryz.func228 (by decide +kernel) (by kernel_rfl) fun {_ _ _ _ _}=>cast (by kernel_rfl)
def zjc (P:Program) (x0 x1:AV) (σ:LO) (Z:ZT):Prop :=
 zal .sl x1 σ fun a s =>
 cA P zbD [x0,a,(iN 13)] s fun _ s =>
 zal .sl x1 s fun c s =>
 zaT [(iN 0)] s fun v s d =>
 zax v fun e v=>bP .lss e c s fun f s =>
 zi f (il true 2 2 x1 e s fun g s =>
 cp [iN 0,iN 0] 2 g s fun h s =>
 zf true 2 h s fun i s =>
 cA P zbI [i] s fun j s =>
 cA P zW [x0,j] s fun _ s =>
 bP .add e (iN 1) s fun m s =>
 d [m] s) (Z (some []) s)
theorem ziV:F2 Tryz.prog zbf zjc:=zg [.l [12] [(5, 1),(13, 8)]] Tryz.func229 (by decide +kernel) (by kernel_rfl) fun {_ _ _ _ _}=>cast (by kernel_rfl)
def S_op_Name (P:Program) (x0:AV) (σ:LO) (Z:ZT):Prop :=
 cA P ztz [x0] σ fun a s =>
 bP .gtr a (iN 0) s fun b s =>
 z1 Z b s
theorem e_op_Name:F1 Tryz.prog zsd S_op_Name:=zg [] Tryz.func230 (by decide +kernel) (by kernel_rfl) fun {_ _ _ _}=>cast (by kernel_rfl)
def zeP (P:Program) (x0 x1:AV) (σ:LO) (Z:ZT):Prop :=
 zal .sl x0 σ fun a s =>
 zal .sl x1 s fun b s =>
 bP .neq a b s fun c s =>
 zi c (z1 Z bF s) (zal .sl x0 s fun d s =>
 zaT [(iN 0)] s fun v s e =>
 zax v fun f v=>bP .lss f d s fun g s =>
 zi g (il true 2 2 x0 f s fun h s =>
 il true 2 2 x1 f s fun i s =>
 zcB .neq (.ints 2) h i s fun j s =>
 zi j (z1 Z bF s) (bP .add f (iN 1) s fun l s =>
 e [l] s)) (z1 Z bT s))
theorem zeK:F2 Tryz.prog zbT zeP:=zg [.l [13] [(4, 2),(14, 12)],.d [(0, 9)] []] Tryz.func231 (by decide +kernel) (by kernel_rfl) fun {_ _ _ _ _}=>cast (by kernel_rfl)
def zaR (P:Program) (x0 x1 x2:AV) (σ:LO) (Z:ZT):Prop :=
 zal .sl x0 σ fun a s =>
 zal .sl x1 s fun b s =>
 bP .neq a b s fun c s =>
 zi c (z1 Z bF s) (zal .sl x0 s fun d s =>
 zaT [(iN 0)] s fun v s e =>
 zax v fun f v=>bP .lss f d s fun g s =>
 zi g (il true 7 7 x0 f s fun h s =>
 zT [iN 0,iN 0,iN 0,iN 0,iN 0,eN,eN] s fun i s =>
 zj 7 i h s fun _ s =>
 il true 7 7 x1 f s fun l s =>
 cp [iN 0,iN 0,iN 0,iN 0,iN 0,eN,eN] 7 l s fun m s =>
 zf true 7 i s fun n s =>
 zf true 7 m s fun o s =>
 zaj P x2 [dm n,dm o] s fun p s =>
 unC .not p s fun q s =>
 zi q (z1 Z bF s) (bP .add f (iN 1) s fun r s =>
 e [r] s)) (z1 Z bT s))
theorem zaQ:F3 Tryz.prog zau zaR:=zg [.l [17] [(6, 4),(18, 14)]] Tryz.func232 (by decide +kernel) (by kernel_rfl) fun {_ _ _ _ _ _}=>cast (by kernel_rfl)
def zia (P:Program) (x0 x1:AV) (σ:LO) (Z:ZT):Prop :=
 zaH x0 σ fun a s =>
 zaH x1 s fun b s =>
 fl 0 a s fun c s =>
 fl 0 b s fun d s =>
 bP .eql c d s fun e s =>
 gTl e 1 a s fun f s =>
 gTl e 1 b s fun g s =>
 gT e (bP .eql f g s) s fun h s =>
 anC e h s fun i s =>
 gTl i 2 a s fun j s =>
 gTl i 2 b s fun l s =>
 gT i (bP .eql j l s) s fun m s =>
 anC i m s fun n s =>
 gT n (zb 3 a s) s fun o s =>
 gT n (zf true 2 o s) s fun p s =>
 gT n (zb 3 b s) s fun q s =>
 gT n (zf true 2 q s) s fun r s =>
 gT n (zcB .eql (.ints 2) p r s) s fun u s =>
 anC n u s fun w s =>
 gTl w 5 a s fun y s =>
 gTl w 5 b s fun z s =>
 gT w (cA P zbT [y,z] s) s fun A s =>
 anC w A s fun B s =>
 gTl B 6 a s fun C s =>
 gTl B 6 b s fun D s =>
 gT B (cA P zgu [C,D] s) s fun E s =>
 anC B E s fun F s =>
 z1 Z F s
theorem zhQ:F2 Tryz.prog zeb zia:=zg [] Tryz.func233 (by decide +kernel) (by kernel_rfl) fun {_ _ _ _ _}=>cast (by kernel_rfl)
def zdM (P:Program) (x0 x1:AV) (σ:LO) (Z:ZT):Prop :=
 zal .sl x0 σ fun a s =>
 zal .sl x1 s fun b s =>
 bP .neq a b s fun c s =>
 zi c (z1 Z bF s) (zal .sl x0 s fun d s =>
 zaT [(iN 0)] s fun v s e =>
 zax v fun f v=>bP .lss f d s fun g s =>
 zi g (il true 5 5 x0 f s fun h s =>
 il true 5 5 x1 f s fun i s =>
 zcB .neq (.ints 5) h i s fun j s =>
 zi j (z1 Z bF s) (bP .add f (iN 1) s fun l s =>
 e [l] s)) (z1 Z bT s))
theorem zdH:F2 Tryz.prog zch zdM:=zg [.l [13] [(4, 2),(14, 12)],.d [(0, 9)] []] Tryz.func234 (by decide +kernel) (by kernel_rfl) fun {_ _ _ _ _}=>cast (by kernel_rfl)
def zdN (P:Program) (x0 x1:AV) (σ:LO) (Z:ZT):Prop :=
 zal .sl x0 σ fun a s =>
 zal .sl x1 s fun b s =>
 bP .neq a b s fun c s =>
 zi c (z1 Z bF s) (zal .sl x0 s fun d s =>
 zaT [(iN 0)] s fun v s e =>
 zax v fun f v=>bP .lss f d s fun g s =>
 zi g (il false 1 1 x0 f s fun h s =>
 il false 1 1 x1 f s fun i s =>
 bP .neq h i s fun j s =>
 zi j (z1 Z bF s) (bP .add f (iN 1) s fun l s =>
 e [l] s)) (z1 Z bT s))
theorem zdI:F2 Tryz.prog zci zdN:=zg [.l [13] [(4, 2),(14, 12)],.d [(0, 9)] []] Tryz.func235 (by decide +kernel) (by kernel_rfl) fun {_ _ _ _ _}=>cast (by kernel_rfl)
def S_op_only (P:Program) (x0:AV) (σ:LO) (Z:ZT):Prop :=
 zaH x0 σ fun a s =>
 zT [iN 0,(.d (.str [])),(.d (.str [])),iN 0,eN] s fun b s =>
 fl 0 a s fun c s =>
 zy (zP [iN 0,(.d (.str [])),(.d (.str [])),iN 0,eN] [(0, 1,c)]) s fun d s =>
 cp [iN 0,(.d (.str [])),(.d (.str [])),iN 0,eN] 5 d s fun e s =>
 (fun (f:LO->Prop)=>fl 0 a s fun i s =>
 bP .eql i (iN 0) s fun j s =>
 zi j (f s) (bP .eql i (iN 1) s fun l s =>
 zi l (fl 1 a s fun m s =>
 zb 1 e s fun n s =>
 zj 1 n m s fun _ s =>
 f s) (bP .eql i (iN 2) s fun p s =>
 zi p (fl 1 a s fun q s =>
 zb 4 a s fun r s =>
 zf false 1 r s fun u s =>
 zb 1 e s fun w s =>
 zj 1 w q s fun _ t =>
 zI r s t/\(zb 4 e t fun z s =>
 zj 1 z u s fun _ s =>
 f s)) (bP .eql i (iN 3) s fun B s =>
 zi B (fl 1 a s fun C s =>
 zb 2 a s fun D s =>
 zf false 1 D s fun E s =>
 zb 3 a s fun F s =>
 zf false 1 F s fun G s =>
 zb 1 e s fun H s =>
 zj 1 H C s fun _ t =>
 zI D s t/\(zI F s t/\(zb 2 e t fun J s =>
 zj 1 J E s fun _ t =>
 zI F s t/\(zb 3 e t fun L s =>
 zj 1 L G s fun _ s =>
 f s)))) (bP .eql i (iN 4) s fun N s =>
 zi N (fl 1 a s fun O s =>
 zb 3 a s fun Q s =>
 zf false 1 Q s fun R s =>
 zb 1 e s fun S s =>
 zj 1 S O s fun _ t =>
 zI Q s t/\(zb 3 e t fun U s =>
 zj 1 U R s fun _ s =>
 f s)) (zf true 5 e s fun W s =>
 zj 5 b W s fun _ s =>
 Z (zA (zae b s true 5) (zA (some bF) (some []))) s))))))
 (fun  s=>zf true 5 e s fun g s =>
 zj 5 b g s fun _ s =>
 Z (zA (zae b s true 5) (zA (some bT) (some []))) s)
theorem e_op_only:F1 Tryz.prog zvJ S_op_only:=zg [.d [(0, 8)] [(5,[22])],.d [(0, 12)] [(7,[30, 32]),(9,[32])],.d [(0, 8)] [(5,[41])]] Tryz.func236 (by decide +kernel) (by kernel_rfl) fun {_ _ _ _}=>cast (by kernel_rfl)
def zuS (P:Program) (x0:AV) (σ:LO) (Z:ZT):Prop :=
 zal .sl x0 σ fun a s =>
 bP .gtr a (iN 64) s fun b s =>
 z1 Z b s
theorem zuC:F1 Tryz.prog zll zuS:=zg [] Tryz.func237 (by decide +kernel) (by kernel_rfl) fun {_ _ _ _}=>cast (by kernel_rfl)
def zcG (P:Program) (x0 x1:AV) (σ:LO) (Z:ZT):Prop :=
 cA P zcY [x0,x1] σ fun a s =>
 bP .geq a (iN 0) s fun b s =>
 z1 Z b s
theorem zcF:F2 Tryz.prog zbH zcG:=zg [] Tryz.func238 (by decide +kernel) (by kernel_rfl) fun {_ _ _ _ _}=>cast (by kernel_rfl)
def S_op_Put (P:Program) (x0 x1:AV) (σ:LO) (Z:ZT):Prop :=
 zaH x1 σ fun a s =>
 cA P zdc [x0] s fun b s =>
 zf true 5 a s fun c s =>
 cA P zqk [c] s fun d s =>
 bP .neq d (iN 0) s fun e s =>
 zi e (z1 Z b s) (fl 0 a s fun f s =>
 zak (.int .u64) f s fun g s =>
 cA P zbE [b,g] s fun h s =>
 (fun (i:AV->LO->Prop)=>fl 0 a s fun T s =>
 bP .neq T (iN 0) s fun U s =>
 zi U (fl 1 a s fun V s =>
 zak .toBytes V s fun W s =>
 cA P zej [h,W] s fun X s =>
 i X s) (i h s))
 (fun j s=>(fun (l:AV->LO->Prop)=>fl 0 a s fun n s =>
 bP .eql n (iN 2) s fun o s =>
 zi o (fl 4 a s fun p s =>
 zal .sl p s fun q s =>
 zak (.int .u64) q s fun r s =>
 cA P zbE [j,r] s fun u s =>
 fl 4 a s fun w s =>
 zal .sl w s fun y s =>
 zaT [u,(iN 0)] s fun v s z =>
 zax v fun A v=>zax v fun B v=>bP .lss B y s fun C s =>
 zi C (il false 1 1 w B s fun D s =>
 cA P zej [A,D] s fun E s =>
 bP .add B (iN 1) s fun F s =>
 z [E,F] s) (l A s)) (bP .eql n (iN 3) s fun G s =>
 zi G (fl 2 a s fun H s =>
 zak .toBytes H s fun I s =>
 zb 3 a s fun J s =>
 zf false 1 J s fun K s =>
 zak (.int .u64) K s fun L s =>
 cA P zej [j,I] s fun M t =>
 zI J s t/\(cA P zbE [M,L] t fun N s =>
 l N s)) (bP .eql n (iN 4) s fun O s =>
 zi O (fl 3 a s fun Q s =>
 zak (.int .u64) Q s fun R s =>
 cA P zbE [j,R] s fun S s =>
 l S s) (l j s))))
 (fun m s=>z1 Z m s)))
theorem e_op_Put:F2 Tryz.prog zzN S_op_Put:=zg [.l [5, 40] [(7, 1),(41, 7)],.d [(0, 4),(5, 3),(4, 1),(8, 2)] [(4,[55])]] Tryz.func239 (by decide +kernel) (by kernel_rfl) fun {_ _ _ _ _}=>cast (by kernel_rfl)
def zpP (P:Program) (x0:AV) (σ:LO) (Z:ZT):Prop :=
 zaH x0 σ fun a s =>
 fl 0 a s fun b s =>
 zb 1 a s fun c s =>
 zf false 1 c s fun d s =>
 zb 2 a s fun e s =>
 zf true 3 e s fun f s =>
 cA P zhg [b] s fun g t =>
 zI c s t/\(zI e s t/\(cA P zem [d] t fun h s =>
 zI e t s/\(cA P zhj [f] s fun i s =>
 zl false 1 3 (zP (rep [iN 0] 3) [(0, 1,g),(1, 1,h),(2, 1,i)]) s fun j s =>
 cA P zcD [j] s fun l s =>
 bP .neq l (iN 0) s fun m s =>
 zi m (z1 Z l s) (fl 5 a s fun n s =>
 zal .sl n s fun o s =>
 bP .gtr o (iN 8) s fun p s =>
 zi p (z1 Z (iN 100) s) (zaT [(iN 0)] s fun v s q =>
 zax v fun r v=>fl 5 a s fun u s =>
 zal .sl u s fun w s =>
 bP .lss r w s fun y s =>
 zi y (fl 5 a s fun z s =>
 il true 7 7 z r s fun A s =>
 cA P zgI [A] s fun B s =>
 bP .neq B (iN 0) s fun C s =>
 zi C (z1 Z B s) (bP .add r (iN 1) s fun D s =>
 q [D] s)) (z1 Z (iN 0) s))))))
theorem zpq:F1 Tryz.prog zkm zpP:=zg [.d [(0, 2),(3, 2),(6, 2),(2, 1),(5, 1),(8, 4)] [(2,[9, 12]),(5,[12])],.l [4] [(2, 1),(5, 1),(24, 16)]] Tryz.func240 (by decide +kernel) (by kernel_rfl) fun {_ _ _ _}=>cast (by kernel_rfl)
def znZ (P:Program) (x0:AV) (σ:LO) (Z:ZT):Prop :=
 zaH x0 σ fun a s =>
 fl 0 a s fun b s =>
 zb 1 a s fun c s =>
 zf false 1 c s fun d s =>
 zb 2 a s fun e s =>
 zf false 1 e s fun f s =>
 zb 3 a s fun g s =>
 zf true 2 g s fun h s =>
 cA P zfV [b] s fun i t =>
 zI c s t/\(zI e s t/\(zI g s t/\(cA P zhg [d] t fun j s =>
 zI e t s/\(zI g t s/\(cA P zcq [f] s fun l t =>
 zI g s t/\(cA P zcm [h] t fun m s =>
 zl false 1 4 (zP (rep [iN 0] 4) [(0, 1,i),(1, 1,j),(2, 1,l),(3, 1,m)]) s fun n s =>
 cA P zcD [n] s fun o s =>
 z1 Z o s))))))
theorem znD:F1 Tryz.prog zjk znZ:=zg [.d [(0, 2),(3, 2),(6, 2),(9, 2),(2, 1),(5, 1),(8, 1),(11, 4)] [(2,[6, 9, 12]),(5,[9, 12]),(8,[12])]] Tryz.func241 (by decide +kernel) (by kernel_rfl) fun {_ _ _ _}=>cast (by kernel_rfl)
def zxb (P:Program) (x0:AV) (σ:LO) (Z:ZT):Prop :=
 zal .sl x0 σ fun a s =>
 bP .gtr a (iN 13) s fun b s =>
 zi b (z1 Z (iN 100) s) (zaT [(iN 0)] s fun v s c =>
 zax v fun d v=>zal .sl x0 s fun e s =>
 bP .lss d e s fun f s =>
 zi f (il true 2 2 x0 d s fun g s =>
 cA P zcm [g] s fun h s =>
 bP .neq h (iN 0) s fun i s =>
 zi i (z1 Z h s) (bP .add d (iN 1) s fun j s =>
 c [j] s)) (z1 Z (iN 0) s))
theorem zwj:F1 Tryz.prog zkk zxb:=zg [.l [3] [(2, 1),(4, 1),(8, 14)]] Tryz.func242 (by decide +kernel) (by kernel_rfl) fun {_ _ _ _}=>cast (by kernel_rfl)
def zzp (P:Program) (x0:AV) (σ:LO) (Z:ZT):Prop :=
 cA P zrr [x0] σ fun a s =>
 bP .gtr a (iN 0) s fun b s =>
 z1 Z b s
theorem zyD:F1 Tryz.prog zqj zzp:=zg [] Tryz.func243 (by decide +kernel) (by kernel_rfl) fun {_ _ _ _}=>cast (by kernel_rfl)
def zuO (P:Program) (x0:AV) (σ:LO) (Z:ZT):Prop :=
 bP .eql x0 (iN 1) σ fun a s =>
 zi a (Z (zA (some bT) (zA (some bF) (zA (some bF) (zA (some bF) (some []))))) s) (bP .eql x0 (iN 2) s fun b s =>
 zi b (Z (zA (some bT) (zA (some bF) (zA (some bF) (zA (some bT) (some []))))) s) (bP .eql x0 (iN 3) s fun c s =>
 zi c (Z (zA (some bT) (zA (some bT) (zA (some bT) (zA (some bF) (some []))))) s) (bP .eql x0 (iN 4) s fun d s =>
 zi d (Z (zA (some bT) (zA (some bF) (zA (some bT) (zA (some bF) (some []))))) s) (Z (zA (some bF) (zA (some bF) (zA (some bF) (zA (some bF) (some []))))) s))))
theorem zuy:F1 Tryz.prog zlk zuO:=zg [] Tryz.func245 (by decide +kernel) (by kernel_rfl) fun {_ _ _ _}=>cast (by kernel_rfl)
end Go.Proofs.YtpgahkdjkanblaaGreat
