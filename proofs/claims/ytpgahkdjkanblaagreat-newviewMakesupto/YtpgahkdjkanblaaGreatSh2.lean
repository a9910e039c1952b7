/- The conditions of each function, its slots as variables, and that the logic's conditions are these. Printed by program. -/
import Derived.Test.YtpgahkdjkanblaaGreatNm
import Derived.KernelRfl
set_option linter.all false
set_option maxRecDepth 100000
namespace Go.Proofs.YtpgahkdjkanblaaGreat
open Go.AW
def zkZ (P:Program) (x0 x1 x2:AV) (σ:LO) (Z:ZT):Prop :=
 zT [iN 0,iN 0] σ fun a s =>
 cA P zcW [x0] s fun b s =>
 zi b (zy (zP [iN 0,iN 0] []) s fun c s =>
 zj 2 a c s fun _ s =>
 Z (zA (zae a s true 2) (zA (some (iN 2)) (some []))) s) (bP .lss x1 (iN 0) s fun e s =>
 gFm e x1 s fun f s =>
 gF e (bP .geq f (iN 21) s) s fun g s =>
 orC e g s fun h s =>
 zi h (zy (zP [iN 0,iN 0] []) s fun i s =>
 zj 2 a i s fun _ s =>
 Z (zA (zae a s true 2) (zA (some (iN 20)) (some []))) s) (bP .lss x2 (iN 1) s fun l s =>
 zi l (zy (zP [iN 0,iN 0] []) s fun m s =>
 zj 2 a m s fun _ s =>
 Z (zA (zae a s true 2) (zA (some (iN 1)) (some []))) s) (zy (zP [iN 0,iN 0] [(0, 1,x1),(1, 1,x2)]) s fun o s =>
 cp [iN 0,iN 0] 2 o s fun p s =>
 (fun (q:LO->Prop)=>nfl 1 x0 s fun w s =>
 zf true 2 p s fun y s =>
 zaK (.ints 2) false bF w y s fun z s =>
 unC .not z s fun A s =>
 zi A (nfl 1 x0 s fun B s =>
 zf true 2 p s fun C s =>
 zaS (.ints 2) B C bT s fun _ s =>
 nfl 0 x0 s fun E s =>
 zf true 2 p s fun F s =>
 m1 2 [iN 0,iN 0] F s fun G s =>
 zG 2 16 E G s fun H s =>
 zbZ x0 s fun I s =>
 zb 0 I s fun J s =>
 zj 1 J H s fun _ s =>
 q s) (q s))
 (fun  s=>zf true 2 p s fun r s =>
 zj 2 a r s fun _ s =>
 Z (zA (zae a s true 2) (zA (some (iN 0)) (some []))) s))))
theorem zkH:F3 Tryz.prog zdW zkZ:=zg [.d [(0, 7)] [],.d [(0, 6)] [],.d [(0, 11)] []] Tryz.func27 (by decide +kernel) (by kernel_rfl) fun {_ _ _ _ _ _}=>cast (by kernel_rfl)
def zmJ (P:Program) (x0 x1 x2:AV) (σ:LO) (Z:ZT):Prop :=
 zT [iN 0,iN 0] σ fun a s =>
 bP .lss x1 (iN 0) s fun b s =>
 gFm b x1 s fun c s =>
 gF b (bP .geq c (iN 21) s) s fun d s =>
 orC b d s fun e s =>
 zi e (zy (zP [iN 0,iN 0] []) s fun f s =>
 zj 2 a f s fun _ s =>
 Z (zA (zae a s true 2) (zA (some (iN 20)) (some []))) s) (bP .lss x2 (iN 1) s fun h s =>
 zi h (zy (zP [iN 0,iN 0] []) s fun i s =>
 zj 2 a i s fun _ s =>
 Z (zA (zae a s true 2) (zA (some (iN 1)) (some []))) s) (zy (zP [iN 0,iN 0] [(0, 1,x1),(1, 1,x2)]) s fun l s =>
 cp [iN 0,iN 0] 2 l s fun m s =>
 (fun (n:LO->Prop)=>zf true 2 m s fun q s =>
 cA P zdU [x0,q] s fun r s =>
 unC .not r s fun u s =>
 zi u (nfl 0 x0 s fun w s =>
 zf true 2 m s fun y s =>
 m1 2 [iN 0,iN 0] y s fun z s =>
 zG 2 16 eN w s fun A t =>
 zI m s t/\(zG 2 16 A z t fun B s =>
 zbZ x0 s fun C s =>
 zb 0 C s fun D s =>
 zj 1 D B s fun _ s =>
 n s)) (n s))
 (fun  s=>zf true 2 m s fun o s =>
 zj 2 a o s fun _ s =>
 Z (zA (zae a s true 2) (zA (some (iN 0)) (some []))) s)))
theorem zmt:F3 Tryz.prog zgi zmJ:=zg [.d [(0, 5),(6, 2),(5, 1),(8, 4)] [(5,[8])]] Tryz.func28 (by decide +kernel) (by kernel_rfl) fun {_ _ _ _ _ _}=>cast (by kernel_rfl)
def zkX (P:Program) (x0:AV) (σ:LO) (Z:ZT):Prop :=
 cA P zdo [x0] σ fun a s =>
 zi a (z1 Z (.d .nilp) s) (nfl 0 x0 s fun b s =>
 cA P ziP [b] s fun c s =>
 zc c 0 s fun d s =>
 zc c 1 s fun _ s =>
 z1 Z d s)
theorem zkF:F1 Tryz.prog zcs zkX:=zg [] Tryz.func29 (by decide +kernel) (by kernel_rfl) fun {_ _ _ _}=>cast (by kernel_rfl)
def zjL (P:Program) (x0:AV) (σ:LO) (Z:ZT):Prop :=
 cA P zcW [x0] σ fun a s =>
 zi a (z1 Z (.d .nilp) s) (cA P zgk [] s fun b s =>
 nfl 0 x0 s fun c s =>
 zal .sl c s fun d s =>
 zaT [(iN 0)] s fun v s e =>
 zax v fun f v=>bP .lss f d s fun g s =>
 zi g (il true 2 2 c f s fun h s =>
 cp [iN 0,iN 0] 2 h s fun i s =>
 fl 0 i s fun j s =>
 fl 1 i s fun l s =>
 cA P zdW [b,j,l] s fun _ s =>
 bP .add f (iN 1) s fun n s =>
 e [n] s) (z1 Z b s))
theorem zjD:F1 Tryz.prog zcK zjL:=zg [.l [14] [(5, 1),(15, 10)]] Tryz.func30 (by decide +kernel) (by kernel_rfl) fun {_ _ _ _}=>cast (by kernel_rfl)
def zsY (P:Program) (x0 x1 x2:AV) (σ:LO) (Z:ZT):Prop :=
 cA P zdF [x0] σ fun a s =>
 bP .neq a (iN 0) s fun b s =>
 zi b (z1 Z a s) (bP .lss x1 (iN 1) s fun c s =>
 gFm c x1 s fun d s =>
 gF c (bP .gtr d (iN 9007199254740992) s) s fun e s =>
 orC c e s fun f s =>
 zi f (z1 Z (iN 1) s) (zal .sl x2 s fun g s =>
 zaT [(iN (-1)),(iN 0)] s fun v s h =>
 zax v fun i v=>zax v fun j v=>bP .lss j g s fun l s =>
 zi l (il true 8 8 x2 j s fun m s =>
 cp [iN 0,iN 0,iN 0,iN 0,eN,eN,iN 0,iN 0] 8 m s fun n s =>
 fl 1 n s fun o s =>
 bP .leq o i s fun p s =>
 gF p (zb 1 n s) s fun q s =>
 gF p (zf false 1 q s) s fun r s =>
 gFm p x0 s fun u s =>
 gF p (cA P zds [u] s) s fun w t =>
 zI q s t/\(gF p (bP .geq r w t) t fun y s =>
 orC p y s fun z s =>
 zi z (z1 Z (iN 1) s) (fl 1 n s fun A s =>
 bP .add j (iN 1) s fun B s =>
 h [A,B] s))) (zal .sl x2 s fun C s =>
 cA P ziO [x0] s fun D s =>
 bP .lss C D s fun E s =>
 zi E (z1 Z (iN 160) s) (z1 Z (iN 0) s))))
theorem zsA:F3 Tryz.prog zjR zsY:=zg [.l [8, 24] [(6, 1),(10, 1),(25, 17)],.d [(0, 11)] [(8,[33])]] Tryz.func31 (by decide +kernel) (by kernel_rfl) fun {_ _ _ _ _ _}=>cast (by kernel_rfl)
def zuQ (P:Program) (x0:AV) (σ:LO) (Z:ZT):Prop :=
 cA P ziB [(iN 2),x0] σ fun a s =>
 z1 Z a s
theorem zuA:F1 Tryz.prog ziO zuQ:=zg [] Tryz.func32 (by decide +kernel) (by kernel_rfl) fun {_ _ _ _}=>cast (by kernel_rfl)
def zod (P:Program) (x0 x1:AV) (σ:LO) (Z:ZT):Prop :=
 cA P zmZ [x0,x1] σ fun a s =>
 unC .not a s fun b s =>
 zi b (z1 Z (iN (-1)) s) (cA P zds [x0] s fun c s =>
 bP .rem x1 c s fun d s =>
 z1 Z d s)
theorem znH:F2 Tryz.prog zgB zod:=zg [] Tryz.func33 (by decide +kernel) (by kernel_rfl) fun {_ _ _ _ _}=>cast (by kernel_rfl)
def zuV (P:Program) (x0 x1 x2 x3:AV) (σ:LO) (Z:ZT):Prop :=
 zaH x3 σ fun a s =>
 zT [iN 0,iN 0,eN,iN 0,iN 0] s fun b s =>
 cA P zgK [x0,x1] s fun c s =>
 unC .not c s fun d s =>
 zi d (zy (zP [iN 0,iN 0,eN,iN 0,iN 0] []) s fun e s =>
 zj 5 b e s fun _ s =>
 Z (zA (zae b s true 5) (zA (some (iN 2)) (some []))) s) (fl 2 a s fun g s =>
 cA P zji [x0,g] s fun h s =>
 zc h 0 s fun i s =>
 zc h 1 s fun j s =>
 bP .neq j (iN 0) s fun l s =>
 zi l (zy (zP [iN 0,iN 0,eN,iN 0,iN 0] []) s fun m s =>
 zj 5 b m s fun _ s =>
 Z (zA (zae b s true 5) (zA (some j) (some []))) s) (fl 2 a s fun o s =>
 cA P zdS [o] s fun p s =>
 zb 2 a s fun q s =>
 zj 1 q p s fun _ s =>
 fl 0 a s fun u s =>
 fl 1 a s fun w s =>
 cA P zrt [x0,x1,x2,(iN 2),u,w,i] s fun y s =>
 zc y 0 s fun z s =>
 zc y 1 s fun A s =>
 zb 3 a s fun B s =>
 zj 2 B z s fun _ s =>
 bP .neq A (iN 0) s fun D s =>
 zi D (zy (zP [iN 0,iN 0,eN,iN 0,iN 0] []) s fun E s =>
 zj 5 b E s fun _ s =>
 Z (zA (zae b s true 5) (zA (some A) (some []))) s) (zf true 5 a s fun G s =>
 zj 5 b G s fun _ s =>
 Z (zA (zae b s true 5) (zA (some (iN 0)) (some []))) s)))
theorem zuF:F4 Tryz.prog zpc zuV:=zg [] Tryz.func34 (by decide +kernel) (by kernel_rfl) fun {_ _ _ _ _ _ _}=>cast (by kernel_rfl)
def zxr (P:Program) (x0 x1 x2:AV) (σ:LO) (Z:ZT):Prop :=
 zaH x2 σ fun a s =>
 zT [iN 0,iN 0,iN 0,iN 0,iN 0,iN 0,iN 0,iN 0,iN 0,eN,iN 0,iN 0,eN,eN,eN,eN,(.d (.str [])),iN 0,(.d (.str [])),iN 0,eN,eN,iN 0,iN 0,eN,iN 0,iN 0,eN,iN 0,iN 0] s fun b s =>
 cA P zgK [x0,x1] s fun c s =>
 unC .not c s fun d s =>
 zi d (zy (zP [iN 0,iN 0,iN 0,iN 0,iN 0,iN 0,iN 0,iN 0,iN 0,eN,iN 0,iN 0,eN,eN,eN,eN,(.d (.str [])),iN 0,(.d (.str [])),iN 0,eN,eN,iN 0,iN 0,eN,iN 0,iN 0,eN,iN 0,iN 0] []) s fun e s =>
 zj 30 b e s fun _ s =>
 Z (zA (zae b s true 30) (zA (some (iN 2)) (some []))) s) (zf true 30 a s fun g s =>
 cA P zgw [g] s fun h s =>
 zc h 0 s fun i s =>
 zc h 1 s fun j s =>
 bP .neq j (iN 0) s fun l s =>
 zi l (zy (zP [iN 0,iN 0,iN 0,iN 0,iN 0,iN 0,iN 0,iN 0,iN 0,eN,iN 0,iN 0,eN,eN,eN,eN,(.d (.str [])),iN 0,(.d (.str [])),iN 0,eN,eN,iN 0,iN 0,eN,iN 0,iN 0,eN,iN 0,iN 0] []) s fun m s =>
 zj 30 b m s fun _ s =>
 Z (zA (zae b s true 30) (zA (some j) (some []))) s) (zaa false i s fun o s =>
 zi o (zf true 30 a s fun p s =>
 zy (zP [iN 0,iN 0] []) s fun q s =>
 cA P znd [p,q] s fun r s =>
 zj 30 b r s fun _ s =>
 Z (zA (zae b s true 30) (zA (some (iN 0)) (some []))) s) (fl 1 a s fun w s =>
 cA P zne [x0,x1,w,i] s fun y s =>
 zc y 0 s fun z s =>
 zc y 1 s fun A s =>
 cp [iN 0,iN 0] 2 z s fun B s =>
 bP .neq A (iN 0) s fun C s =>
 zi C (zy (zP [iN 0,iN 0,iN 0,iN 0,iN 0,iN 0,iN 0,iN 0,iN 0,eN,iN 0,iN 0,eN,eN,eN,eN,(.d (.str [])),iN 0,(.d (.str [])),iN 0,eN,eN,iN 0,iN 0,eN,iN 0,iN 0,eN,iN 0,iN 0] []) s fun D s =>
 zj 30 b D s fun _ s =>
 Z (zA (zae b s true 30) (zA (some A) (some []))) s) (zf true 30 a s fun F s =>
 zf true 2 B s fun G s =>
 cA P znd [F,G] s fun H s =>
 zj 30 b H s fun _ s =>
 Z (zA (zae b s true 30) (zA (some (iN 0)) (some []))) s))))
theorem zwz:F3 Tryz.prog zru zxr:=zg [] Tryz.func35 (by decide +kernel) (by kernel_rfl) fun {_ _ _ _ _ _}=>cast (by kernel_rfl)
def zuI (P:Program) (x0 x1 x2:AV) (σ:LO) (Z:ZT):Prop :=
 zT [iN 0,iN 0,eN] σ fun a s =>
 cA P zfi [x0] s fun b s =>
 bP .neq b (iN 0) s fun c s =>
 zi c (zy (zP [iN 0,iN 0,eN] []) s fun d s =>
 zj 3 a d s fun _ s =>
 Z (zA (zae a s true 3) (zA (some eN) (zA (some b) (some [])))) s) (bP .lss x1 (iN 1) s fun f s =>
 gFm f x1 s fun g s =>
 gF f (bP .gtr g (iN 9007199254740992) s) s fun h s =>
 orC f h s fun i s =>
 zi i (zy (zP [iN 0,iN 0,eN] []) s fun j s =>
 zj 3 a j s fun _ s =>
 Z (zA (zae a s true 3) (zA (some eN) (zA (some (iN 1)) (some [])))) s) (zaT [(iN 0)] s fun v s m =>
 zax v fun n v=>zal .sl x2 s fun o s =>
 bP .lss n o s fun p s =>
 zi p (zE none 8 x2 n s fun q s =>
 fl 1 q s fun r s =>
 bP .lss r (iN 0) s fun u s =>
 gFm u x2 s fun w s =>
 gFm u n s fun y s =>
 gF u (zE none 8 w y s) s fun z s =>
 gF u (zb 1 z s) s fun A s =>
 gF u (zf false 1 A s) s fun B s =>
 gFm u x0 s fun C s =>
 gF u (cA P zfj [C] s) s fun D t =>
 zI A s t/\(gF u (bP .geq B D t) t fun E s =>
 orC u E s fun F s =>
 gFm F n s fun G s =>
 gF F (bP .gtr G (iN 0) s) s fun H s =>
 gFm F H s fun I s =>
 gTm I x2 s fun J s =>
 gTm I n s fun K s =>
 gT I (zE none 8 J K s) s fun L s =>
 gTl I 1 L s fun M s =>
 gTm I x2 s fun N s =>
 gTm I n s fun O s =>
 gT I (bP .sub O (iN 1) s) s fun Q s =>
 gT I (zE none 8 N Q s) s fun R s =>
 gTl I 1 R s fun S s =>
 gT I (bP .leq M S s) s fun T s =>
 gF F (anC I T s) s fun U s =>
 orC F U s fun V s =>
 zi V (zy (zP [iN 0,iN 0,eN] []) s fun W s =>
 zj 3 a W s fun _ s =>
 Z (zA (zae a s true 3) (zA (some eN) (zA (some (iN 1)) (some [])))) s) (bP .add n (iN 1) s fun Y s =>
 m [Y] s))) (zal .sl x2 s fun a0 s =>
 cA P zoS [x0] s fun b0 s =>
 bP .lss a0 b0 s fun c0 s =>
 zi c0 (zy (zP [iN 0,iN 0,eN] []) s fun d0 s =>
 zj 3 a d0 s fun _ s =>
 Z (zA (zae a s true 3) (zA (some eN) (zA (some (iN 160)) (some [])))) s) (zE none 8 x2 (iN 0) s fun f0 s =>
 zb 2 f0 s fun g0 s =>
 zf true 3 g0 s fun h0 s =>
 cp [iN 0,iN 0,eN] 3 h0 s fun i0 s =>
 zaT [(iN 0),(iN 0)] s fun v s j0 =>
 zax v fun l0 v=>zax v fun m0 v=>zal .sl x2 s fun o0 s =>
 bP .lss m0 o0 s fun p0 s =>
 zi p0 ((fun (q0:LO->Prop)=>zE none 8 x2 m0 s fun J0 s =>
 zb 2 J0 s fun K0 s =>
 fl 0 K0 s fun L0 s =>
 fl 0 i0 s fun M0 s =>
 bP .gtr L0 M0 s fun N0 s =>
 zi N0 (zE none 8 x2 m0 s fun O0 s =>
 zb 2 O0 s fun Q0 s =>
 zf true 3 Q0 s fun R0 s =>
 zj 3 i0 R0 s fun _ s =>
 q0 s) (q0 s))
 (fun  s=>zaT [l0,(iN 0)] s fun v s r0 =>
 zax v fun u0 v=>zax v fun w0 v=>zE none 8 x2 m0 s fun y0 s =>
 fl 5 y0 s fun z0 s =>
 zal .sl z0 s fun A0 s =>
 bP .lss w0 A0 s fun B0 s =>
 zi B0 (zE none 8 x2 m0 s fun C0 s =>
 fl 5 C0 s fun D0 s =>
 zE none 7 D0 w0 s fun E0 s =>
 fl 1 E0 s fun F0 s =>
 zdm [u0,F0] s fun G0 s =>
 bP .add w0 (iN 1) s fun H0 s =>
 r0 [G0,H0] s) (bP .add m0 (iN 1) s fun I0 s =>
 j0 [u0,I0] s))) (fl 0 i0 s fun T0 s =>
 bP .lss T0 (iN 0) s fun U0 s =>
 gFm U0 l0 s fun V0 s =>
 gFl U0 0 i0 s fun W0 s =>
 gF U0 (bP .leq V0 W0 s) s fun X0 s =>
 orC U0 X0 s fun Y0 s =>
 zi Y0 (zf true 3 i0 s fun a1 s =>
 zj 3 a a1 s fun _ s =>
 Z (zA (zae a s true 3) (zA (some eN) (zA (some (iN 0)) (some [])))) s) (zaT [eN,(iN 0)] s fun v s c1 =>
 zax v fun d1 v=>zax v fun e1 v=>bP .lss e1 (iN 8) s fun f1 s =>
 gTm f1 e1 s fun g1 s =>
 gTm f1 l0 s fun h1 s =>
 gTl f1 0 i0 s fun i1 s =>
 gT f1 (bP .sub h1 i1 s) s fun j1 s =>
 gT f1 (bP .lss g1 j1 s) s fun l1 s =>
 anC f1 l1 s fun o1 s =>
 zi o1 (fl 0 i0 s fun p1 s =>
 bP .add p1 e1 s fun q1 s =>
 bP .add q1 (iN 1) s fun r1 s =>
 cA P zoR [x2,r1] s fun u1 s =>
 zy (zP [iN 0,iN 0,eN,iN 0,iN 0] [(0, 1,x1),(1, 1,r1),(2, 1,u1)]) s fun w1 s =>
 m1 5 [iN 0,iN 0,eN,iN 0,iN 0] w1 s fun y1 s =>
 zG 5 56 d1 y1 s fun A1 s =>
 bP .add e1 (iN 1) s fun B1 s =>
 c1 [A1,B1] s) (zf true 3 i0 s fun C1 s =>
 zj 3 a C1 s fun _ s =>
 Z (zA (zae a s true 3) (zA (some d1) (zA (some (iN 0)) (some [])))) s)))))))
theorem zus:F3 Tryz.prog zli zuI:=zg [.l [10] [(7, 2),(31, 41)],.d [(0, 34)] [(13,[47])],.l [12, 13] [(14, 1),(82, 41)],.d [(0, 9)] [],.l [12, 14] [(102, 21)],.l [15, 16] [(17, 1),(133, 26)]] Tryz.func36 (by decide +kernel) (by kernel_rfl) fun {_ _ _ _ _ _}=>cast (by kernel_rfl)
def zsR (P:Program) (x0 x1:AV) (σ:LO) (Z:ZT):Prop :=
 cA P zfi [x0] σ fun a s =>
 bP .neq a (iN 0) s fun b s =>
 gFm b x1 s fun c s =>
 gF b (bP .lss c (iN 0) s) s fun d s =>
 orC b d s fun e s =>
 gFm e x1 s fun f s =>
 gF e (bP .gtr f (iN 9007199254740992) s) s fun g s =>
 orC e g s fun h s =>
 zi h (z1 Z (iN (-1)) s) (cA P zfj [x0] s fun i s =>
 bP .rem x1 i s fun j s =>
 z1 Z j s)
theorem zst:F2 Tryz.prog zjO zsR:=zg [] Tryz.func37 (by decide +kernel) (by kernel_rfl) fun {_ _ _ _ _}=>cast (by kernel_rfl)
def zxa (P:Program) (x0 x1 x2 x3:AV) (σ:LO) (Z:ZT):Prop :=
 zaH x3 σ fun a s =>
 zT [iN 0,iN 0,eN,iN 0,iN 0] s fun b s =>
 fl 2 a s fun c s =>
 cA P zoX [x0,c] s fun d s =>
 zc d 0 s fun e s =>
 zc d 1 s fun f s =>
 bP .neq f (iN 0) s fun g s =>
 zi g (zy (zP [iN 0,iN 0,eN,iN 0,iN 0] []) s fun h s =>
 zj 5 b h s fun _ s =>
 Z (zA (zae b s true 5) (zA (some f) (some []))) s) (fl 0 a s fun j s =>
 fl 1 a s fun l s =>
 cA P ztu [x0,x1,x2,(iN 2),j,l,e] s fun m s =>
 zc m 0 s fun n s =>
 zc m 1 s fun o s =>
 cp [iN 0,iN 0] 2 n s fun p s =>
 bP .neq o (iN 0) s fun q s =>
 zi q (zy (zP [iN 0,iN 0,eN,iN 0,iN 0] []) s fun r s =>
 zj 5 b r s fun _ s =>
 Z (zA (zae b s true 5) (zA (some o) (some []))) s) (zf true 2 p s fun w s =>
 zb 3 a s fun y s =>
 zj 2 y w s fun _ s =>
 zf true 5 a s fun A s =>
 zj 5 b A s fun _ s =>
 Z (zA (zae b s true 5) (zA (some (iN 0)) (some []))) s))
theorem zwi:F4 Tryz.prog zrn zxa:=zg [] Tryz.func38 (by decide +kernel) (by kernel_rfl) fun {_ _ _ _ _ _ _}=>cast (by kernel_rfl)
def zzk (P:Program) (x0 x1 x2:AV) (σ:LO) (Z:ZT):Prop :=
 zaH x2 σ fun a s =>
 zT [iN 0,iN 0,iN 0,iN 0,iN 0,iN 0,iN 0,iN 0,iN 0,eN,iN 0,iN 0,eN,eN,eN,eN,(.d (.str [])),iN 0,(.d (.str [])),iN 0,eN,eN,iN 0,iN 0,eN,iN 0,iN 0,eN,iN 0,iN 0] s fun b s =>
 zf true 30 a s fun c s =>
 cA P zhe [c] s fun d s =>
 zc d 0 s fun e s =>
 zc d 1 s fun f s =>
 bP .neq f (iN 0) s fun g s =>
 zi g (zy (zP [iN 0,iN 0,iN 0,iN 0,iN 0,iN 0,iN 0,iN 0,iN 0,eN,iN 0,iN 0,eN,eN,eN,eN,(.d (.str [])),iN 0,(.d (.str [])),iN 0,eN,eN,iN 0,iN 0,eN,iN 0,iN 0,eN,iN 0,iN 0] []) s fun h s =>
 zj 30 b h s fun _ s =>
 Z (zA (zae b s true 30) (zA (some f) (some []))) s) (zaa false e s fun j s =>
 zi j (zy (zP [iN 0,iN 0] []) s fun l s =>
 zb 28 a s fun m s =>
 zj 2 m l s fun _ s =>
 zf true 30 a s fun o s =>
 zj 30 b o s fun _ s =>
 Z (zA (zae b s true 30) (zA (some (iN 0)) (some []))) s) (fl 1 a s fun q s =>
 cA P zqg [x0,x1,q,e] s fun r s =>
 zc r 0 s fun u s =>
 zc r 1 s fun w s =>
 cp [iN 0,iN 0] 2 u s fun y s =>
 bP .neq w (iN 0) s fun z s =>
 zi z (zy (zP [iN 0,iN 0,iN 0,iN 0,iN 0,iN 0,iN 0,iN 0,iN 0,eN,iN 0,iN 0,eN,eN,eN,eN,(.d (.str [])),iN 0,(.d (.str [])),iN 0,eN,eN,iN 0,iN 0,eN,iN 0,iN 0,eN,iN 0,iN 0] []) s fun A s =>
 zj 30 b A s fun _ s =>
 Z (zA (zae b s true 30) (zA (some w) (some []))) s) (zf true 30 a s fun C s =>
 zf true 2 y s fun D s =>
 cA P ztt [C,D] s fun E s =>
 zj 30 b E s fun _ s =>
 Z (zA (zae b s true 30) (zA (some (iN 0)) (some []))) s)))
theorem zyy:F3 Tryz.prog ztv zzk:=zg [] Tryz.func39 (by decide +kernel) (by kernel_rfl) fun {_ _ _ _ _ _}=>cast (by kernel_rfl)
def zpQ (P:Program) (x0 x1:AV) (σ:LO) (Z:ZT):Prop :=
 zaH x0 σ fun a s =>
 zaH x1 s fun b s =>
 fl 0 a s fun c s =>
 fl 0 b s fun d s =>
 bP .neq c d s fun e s =>
 gFl e 1 a s fun f s =>
 gFl e 1 b s fun g s =>
 gF e (bP .neq f g s) s fun h s =>
 orC e h s fun i s =>
 gFl i 2 a s fun j s =>
 gF i (zak .toStr j s) s fun l s =>
 gFl i 2 b s fun m s =>
 gF i (zak .toStr m s) s fun n s =>
 gF i (bP .neq l n s) s fun o s =>
 orC i o s fun p s =>
 gFl p 4 a s fun q s =>
 gFl p 4 b s fun r s =>
 gF p (bP .neq q r s) s fun u s =>
 orC p u s fun w s =>
 gFl w 5 a s fun y s =>
 gFl w 5 b s fun z s =>
 gF w (bP .neq y z s) s fun A s =>
 orC w A s fun B s =>
 gF B (zb 7 a s) s fun C s =>
 gF B (zf true 3 C s) s fun D s =>
 gF B (zb 7 b s) s fun E s =>
 gF B (zf true 3 E s) s fun F s =>
 gF B (cA P zgv [D,F] s) s fun G s =>
 gF B (unC .not G s) s fun H s =>
 orC B H s fun I s =>
 gFl I 3 a s fun J s =>
 gF I (zal .sl J s) s fun K s =>
 gFl I 3 b s fun L s =>
 gF I (zal .sl L s) s fun M s =>
 gF I (bP .neq K M s) s fun N s =>
 orC I N s fun O s =>
 gFl O 6 a s fun Q s =>
 gF O (zal .sl Q s) s fun R s =>
 gFl O 6 b s fun S s =>
 gF O (zal .sl S s) s fun T s =>
 gF O (bP .neq R T s) s fun U s =>
 orC O U s fun V s =>
 zi V (z1 Z bF s) (zaT [(iN 0)] s fun v s W =>
 zax v fun X v=>fl 3 a s fun Y s =>
 zal .sl Y s fun a0 s =>
 bP .lss X a0 s fun b0 s =>
 zi b0 (fl 3 a s fun c0 s =>
 il true 5 5 c0 X s fun d0 s =>
 fl 3 b s fun e0 s =>
 il true 5 5 e0 X s fun f0 s =>
 zcB .neq (.ints 5) d0 f0 s fun g0 s =>
 zi g0 (z1 Z bF s) (bP .add X (iN 1) s fun h0 s =>
 W [h0] s)) (zaT [(iN 0)] s fun v s i0 =>
 zax v fun j0 v=>fl 6 a s fun l0 s =>
 zal .sl l0 s fun m0 s =>
 bP .lss j0 m0 s fun o0 s =>
 zi o0 (fl 6 a s fun p0 s =>
 il false 1 1 p0 j0 s fun q0 s =>
 fl 6 b s fun r0 s =>
 il false 1 1 r0 j0 s fun u0 s =>
 bP .neq q0 u0 s fun w0 s =>
 zi w0 (z1 Z bF s) (bP .add j0 (iN 1) s fun y0 s =>
 i0 [y0] s)) (z1 Z bT s)))
theorem zpr:F2 Tryz.prog zkn zpQ:=zg [.l [5] [(4, 1),(68, 18)],.d [(0, 11)] [],.l [6] [(4, 1),(86, 18)],.d [(0, 11)] []] Tryz.func40 (by decide +kernel) (by kernel_rfl) fun {_ _ _ _ _}=>cast (by kernel_rfl)
def zoa (P:Program) (x0 x1:AV) (σ:LO) (Z:ZT):Prop :=
 zaH x0 σ fun a s =>
 zaH x1 s fun b s =>
 fl 0 a s fun c s =>
 fl 0 b s fun d s =>
 bP .neq c d s fun e s =>
 gFl e 1 a s fun f s =>
 gFl e 1 b s fun g s =>
 gF e (bP .neq f g s) s fun h s =>
 orC e h s fun i s =>
 gF i (zb 2 a s) s fun j s =>
 gF i (zf true 3 j s) s fun l s =>
 gF i (zb 2 b s) s fun m s =>
 gF i (zf true 3 m s) s fun n s =>
 gF i (cA P zgv [l,n] s) s fun o s =>
 gF i (unC .not o s) s fun p s =>
 orC i p s fun q s =>
 gF q (zb 6 a s) s fun r s =>
 gF q (zf true 2 r s) s fun u s =>
 gF q (zb 6 b s) s fun w s =>
 gF q (zf true 2 w s) s fun y s =>
 gF q (zcB .neq (.ints 2) u y s) s fun z s =>
 orC q z s fun A s =>
 gFl A 5 a s fun B s =>
 gF A (zal .sl B s) s fun C s =>
 gFl A 5 b s fun D s =>
 gF A (zal .sl D s) s fun E s =>
 gF A (bP .neq C E s) s fun F s =>
 orC A F s fun G s =>
 zi G (z1 Z bF s) (zaT [(iN 0)] s fun v s H =>
 zax v fun I v=>fl 5 a s fun J s =>
 zal .sl J s fun K s =>
 bP .lss I K s fun L s =>
 zi L (fl 5 a s fun M s =>
 il true 7 7 M I s fun N s =>
 fl 5 b s fun O s =>
 il true 7 7 O I s fun Q s =>
 cA P zhi [N,Q] s fun R s =>
 unC .not R s fun S s =>
 zi S (z1 Z bF s) (bP .add I (iN 1) s fun T s =>
 H [T] s)) (z1 Z bT s))
theorem znE:F2 Tryz.prog zjl zoa:=zg [.l [5] [(4, 1),(42, 19)],.d [(0, 12)] []] Tryz.func41 (by decide +kernel) (by kernel_rfl) fun {_ _ _ _ _}=>cast (by kernel_rfl)
def zlL (P:Program) (x0:AV) (σ:LO) (Z:ZT):Prop :=
 zcB .eql .ptr x0 (.d .nilp) σ fun a s =>
 gFm a x0 s fun b s =>
 gF a (zbZ b s) s fun c s =>
 gFl a 1 c s fun d s =>
 gF a (zcB .eql .map d (.d .nilmap) s) s fun e s =>
 orC a e s fun f s =>
 z1 Z f s
theorem zlx:F1 Tryz.prog zdo zlL:=zg [] Tryz.func43 (by decide +kernel) (by kernel_rfl) fun {_ _ _ _}=>cast (by kernel_rfl)
def zkY (P:Program) (x0:AV) (σ:LO) (Z:ZT):Prop :=
 zcB .eql .ptr x0 (.d .nilp) σ fun a s =>
 gFm a x0 s fun b s =>
 gF a (zbZ b s) s fun c s =>
 gFl a 1 c s fun d s =>
 gF a (zcB .eql .map d (.d .nilmap) s) s fun e s =>
 orC a e s fun f s =>
 z1 Z f s
theorem zkG:F1 Tryz.prog zcW zkY:=zg [] Tryz.func44 (by decide +kernel) (by kernel_rfl) fun {_ _ _ _}=>cast (by kernel_rfl)
def zra (P:Program) (x0:AV) (σ:LO) (Z:ZT):Prop :=
 bP .lss x0 (iN 1) σ fun a s =>
 gFm a x0 s fun b s =>
 gF a (bP .gtr b (iN 4) s) s fun c s =>
 orC a c s fun d s =>
 zi d (z1 Z (iN 120) s) (z1 Z (iN 0) s)
theorem zqN:F1 Tryz.prog zdF zra:=zg [] Tryz.func45 (by decide +kernel) (by kernel_rfl) fun {_ _ _ _}=>cast (by kernel_rfl)
def zuU (P:Program) (x0 x1 x2:AV) (σ:LO) (Z:ZT):Prop :=
 zaH x2 σ fun a s =>
 cA P zgK [x0,x1] s fun b s =>
 unC .not b s fun c s =>
 gF c (zf true 30 a s) s fun d s =>
 gF c (cA P zfX [d] s) s fun e s =>
 gF c (bP .neq e (iN 0) s) s fun f s =>
 orC c f s fun g s =>
 zi g (z1 Z bF s) (zf true 30 a s fun h s =>
 cA P zgw [h] s fun i s =>
 zc i 0 s fun j s =>
 zc i 1 s fun l s =>
 bP .eql l (iN 0) s fun m s =>
 gTm m j s fun n s =>
 gT m (zaa false n s) s fun o s =>
 gTm m o s fun p s =>
 gFm p x0 s fun q s =>
 gFm p x1 s fun r s =>
 gF p (zf true 30 a s) s fun u s =>
 gF p (zb 1 a s) s fun w s =>
 gF p (zf false 1 w s) s fun y s =>
 gFm p j s fun z s =>
 gF p (cA P ztB [u] s) s fun A t =>
 zI w s t/\(gF p (cA P zjS [q,r,A,y,z] t) t fun B s =>
 gT m (orC p B s) s fun C s =>
 anC m C s fun D s =>
 z1 Z D s))
theorem zuE:F3 Tryz.prog zpb zuU:=zg [.d [(0, 9),(10, 3),(9, 1),(13, 4)] [(9,[33])]] Tryz.func46 (by decide +kernel) (by kernel_rfl) fun {_ _ _ _ _ _}=>cast (by kernel_rfl)
def zwY (P:Program) (x0:AV) (σ:LO) (Z:ZT):Prop :=
 bP .lss x0 (iN 1) σ fun a s =>
 gFm a x0 s fun b s =>
 gF a (bP .gtr b (iN 4) s) s fun c s =>
 orC a c s fun d s =>
 zi d (z1 Z (iN 120) s) (z1 Z (iN 0) s)
theorem zwg:F1 Tryz.prog zfi zwY:=zg [] Tryz.func49 (by decide +kernel) (by kernel_rfl) fun {_ _ _ _}=>cast (by kernel_rfl)
def zwZ (P:Program) (x0 x1 x2:AV) (σ:LO) (Z:ZT):Prop :=
 zaH x2 σ fun a s =>
 zf true 30 a s fun b s =>
 cA P zhe [b] s fun c s =>
 zc c 0 s fun d s =>
 zc c 1 s fun e s =>
 bP .neq e (iN 0) s fun f s =>
 gF f (zf true 30 a s) s fun g s =>
 gF f (cA P zko [g] s) s fun h s =>
 gF f (bP .neq h (iN 0) s) s fun i s =>
 orC f i s fun j s =>
 zi j (z1 Z bF s) (zaa false d s fun l s =>
 gFm l x0 s fun m s =>
 gFm l x1 s fun n s =>
 gF l (zf true 30 a s) s fun o s =>
 gF l (zb 1 a s) s fun p s =>
 gF l (zf false 1 p s) s fun q s =>
 gFm l d s fun r s =>
 gF l (cA P zzM [o] s) s fun u t =>
 zI p s t/\(gF l (cA P zlj [m,n,u,q,r] t) t fun w s =>
 orC l w s fun y s =>
 z1 Z y s))
theorem zwh:F3 Tryz.prog zrm zwZ:=zg [.d [(0, 6),(7, 3),(6, 1),(10, 3)] [(6,[28])]] Tryz.func50 (by decide +kernel) (by kernel_rfl) fun {_ _ _ _ _ _}=>cast (by kernel_rfl)
def zpN (P:Program) (x0 x1:AV) (σ:LO) (Z:ZT):Prop :=
 zal .sl x0 σ fun a s =>
 zal .sl x1 s fun b s =>
 bP .neq a b s fun c s =>
 zi c (z1 Z bF s) (zaT [(iN 0)] s fun v s d =>
 zax v fun e v=>zal .sl x0 s fun f s =>
 bP .lss e f s fun g s =>
 zi g (il true 2 2 x0 e s fun h s =>
 il true 2 2 x1 e s fun i s =>
 zcB .neq (.ints 2) h i s fun j s =>
 zi j (z1 Z bF s) (bP .add e (iN 1) s fun l s =>
 d [l] s)) (z1 Z bT s))
theorem zpo:F2 Tryz.prog zhf zpN:=zg [.l [5] [(4, 1),(11, 15)],.d [(0, 9)] []] Tryz.func52 (by decide +kernel) (by kernel_rfl) fun {_ _ _ _ _}=>cast (by kernel_rfl)
def zpI (P:Program) (x0:AV) (σ:LO) (Z:ZT):Prop :=
 zal .sl x0 σ fun a s =>
 zaT [eN,(iN 0)] s fun v s b =>
 zax v fun c v=>zax v fun d v=>bP .lss d a s fun e s =>
 zi e (il true 9 9 x0 d s fun f s =>
 cp [iN 0,iN 0,iN 0,(.d (.str [])),(.d (.str [])),iN 0,eN,iN 0,iN 0] 9 f s fun g s =>
 zb 0 g s fun h s =>
 zb 2 h s fun i s =>
 zf true 5 i s fun j s =>
 cA P ztA [j] s fun l s =>
 zb 0 g s fun m s =>
 zb 2 m s fun n s =>
 zj 5 n l s fun _ s =>
 zf true 9 g s fun p s =>
 m1 9 [iN 0,iN 0,iN 0,(.d (.str [])),(.d (.str [])),iN 0,eN,iN 0,iN 0] p s fun q s =>
 zG 9 104 c q s fun r s =>
 bP .add d (iN 1) s fun u s =>
 b [r,u] s) (z1 Z c s)
theorem zpj:F1 Tryz.prog zdS zpI:=zg [.l [3, 8] [(5, 1),(9, 14)]] Tryz.func53 (by decide +kernel) (by kernel_rfl) fun {_ _ _ _}=>cast (by kernel_rfl)
def zmI (P:Program) (x0 x1:AV) (σ:LO) (Z:ZT):Prop :=
 zaH x0 σ fun a s =>
 zaH x1 s fun b s =>
 fl 0 a s fun c s =>
 fl 0 b s fun d s =>
 bP .eql c d s fun e s =>
 gTl e 1 a s fun f s =>
 gTl e 1 b s fun g s =>
 gT e (bP .eql f g s) s fun h s =>
 anC e h s fun i s =>
 gT i (zb 2 a s) s fun j s =>
 gT i (zf true 5 j s) s fun l s =>
 gT i (zb 2 b s) s fun m s =>
 gT i (zf true 5 m s) s fun n s =>
 gT i (cA P ztx [l,n] s) s fun o s =>
 anC i o s fun p s =>
 z1 Z p s
theorem zms:F2 Tryz.prog zij zmI:=zg [] Tryz.func54 (by decide +kernel) (by kernel_rfl) fun {_ _ _ _ _}=>cast (by kernel_rfl)
def zoe (P:Program) (x0:AV) (σ:LO) (Z:ZT):Prop :=
 cA P ziB [(iN 3),x0] σ fun a s =>
 z1 Z a s
theorem znI:F1 Tryz.prog zds zoe:=zg [] Tryz.func55 (by decide +kernel) (by kernel_rfl) fun {_ _ _ _}=>cast (by kernel_rfl)
def ztb (P:Program) (x0:AV) (σ:LO) (Z:ZT):Prop :=
 zaH x0 σ fun a s =>
 zT [iN 0,iN 0,iN 0,iN 0,iN 0,iN 0,iN 0,iN 0,iN 0,eN,iN 0,iN 0,eN,eN,eN,eN,(.d (.str [])),iN 0,(.d (.str [])),iN 0,eN,eN,iN 0,iN 0,eN,iN 0,iN 0,eN,iN 0,iN 0] s fun b s =>
 fl 1 a s fun c s =>
 fl 0 a s fun d s =>
 zf true 8 a s fun e s =>
 m1 8 [iN 0,iN 0,iN 0,iN 0,eN,eN,iN 0,iN 0] e s fun f s =>
 zy (zP [iN 0,iN 0,iN 0,iN 0,iN 0,iN 0,iN 0,iN 0,iN 0,eN,iN 0,iN 0,eN,eN,eN,eN,(.d (.str [])),iN 0,(.d (.str [])),iN 0,eN,eN,iN 0,iN 0,eN,iN 0,iN 0,eN,iN 0,iN 0] [(0, 1,(iN 7)),(1, 1,c),(2, 1,d),(13, 1,f)]) s fun g s =>
 zj 30 b g s fun _ s =>
 Z (zA (zae b s true 30) (some [])) s
theorem zsD:F1 Tryz.prog znf ztb:=zg [] Tryz.func56 (by decide +kernel) (by kernel_rfl) fun {_ _ _ _}=>cast (by kernel_rfl)
def zsX (P:Program) (x0 x1 x2 x3:AV) (σ:LO) (Z:ZT):Prop :=
 zaH x0 σ fun a s =>
 zaH x1 s fun b s =>
 zaH x3 s fun c s =>
 cA P zrs [x2] s fun d s =>
 zc d 0 s fun e s =>
 zc d 1 s fun f s =>
 bP .neq f (iN 0) s fun g s =>
 gFm g e s fun h s =>
 gF g (zf true 3 c s) s fun i s =>
 gF g (cA P zfD [h,i] s) s fun j s =>
 gF g (unC .not j s) s fun l s =>
 orC g l s fun m s =>
 gF m (zf false 1 a s) s fun n s =>
 gF m (cA P zgj [n] s) s fun o s =>
 gF m (bP .eql o (iN 0) s) s fun p s =>
 gFm m p s fun q s =>
 gT q (zf false 1 a s) s fun r s =>
 gT q (cA P zcs [r] s) s fun u s =>
 gT q (zcB .eql .ptr u (.d .nilp) s) s fun w s =>
 gF m (anC q w s) s fun y s =>
 orC m y s fun z s =>
 gF z (zf false 1 b s) s fun A s =>
 gF z (cA P zho [A] s) s fun B s =>
 gF z (bP .eql B (iN 0) s) s fun C s =>
 gFm z C s fun D s =>
 gT D (zf false 1 b s) s fun E s =>
 gT D (cA P zcK [E] s) s fun F s =>
 gT D (zcB .eql .ptr F (.d .nilp) s) s fun G s =>
 gF z (anC D G s) s fun H s =>
 orC z H s fun I s =>
 zi I (z1 Z bF s) (fl 2 c s fun J s =>
 cA P zbd [J,(.fn (.func zhl) [] [a,b,c])] s fun K s =>
 unC .not K s fun L s =>
 z1 Z L s)
theorem zsz:F4 Tryz.prog zna zsX:=zg [] Tryz.func57 (by decide +kernel) (by kernel_rfl) fun {_ _ _ _ _ _ _}=>cast (by kernel_rfl)
def zog (P:Program) (x0 x1 x2 x3 x4 x5:AV) (σ:LO) (Z:ZT):Prop :=
 zal .sl x5 σ fun a s =>
 zaT [x4,(iN 0)] s fun v s b =>
 zax v fun c v=>zax v fun d v=>bP .lss d a s fun e s =>
 zi e (il true 7 7 x5 d s fun f s =>
 cp [iN 0,iN 0,iN 0,iN 0,iN 0,eN,eN] 7 f s fun g s =>
 zf true 7 g s fun h s =>
 cA P zjn [x0,x1,x2,h] s fun i s =>
 unC .not i s fun j s =>
 gFl j 0 g s fun l s =>
 gFm j x3 s fun m s =>
 gF j (bP .geq l m s) s fun n s =>
 orC j n s fun o s =>
 gFl o 1 g s fun p s =>
 gFm o c s fun q s =>
 gF o (bP .leq p q s) s fun r s =>
 orC o r s fun u s =>
 gFm u x4 s fun w s =>
 gF u (bP .lss w (iN 0) s) s fun y s =>
 gFm u y s fun z s =>
 gTl z 1 g s fun A s =>
 gTm z x4 s fun B s =>
 gT z (bP .add (iN 8) B s) s fun C s =>
 gT z (bP .gtr A C s) s fun D s =>
 gF u (anC z D s) s fun E s =>
 orC u E s fun F s =>
 gFm F x4 s fun G s =>
 gF F (bP .geq G (iN 0) s) s fun H s =>
 gFm F H s fun I s =>
 gTl I 1 g s fun J s =>
 gTm I x4 s fun K s =>
 gT I (bP .sub J K s) s fun L s =>
 gT I (bP .gtr L (iN 8) s) s fun M s =>
 gF F (anC I M s) s fun N s =>
 orC F N s fun O s =>
 zi O (z1 Z bF s) (fl 1 g s fun Q s =>
 bP .add d (iN 1) s fun R s =>
 b [Q,R] s)) (z1 Z bT s)
theorem znK:F6 Tryz.prog zjo zog:=zg [.l [13, 19] [(12, 1),(15, 1),(20, 46)]] Tryz.func58 (by decide +kernel) (by kernel_rfl) fun {_ _ _ _ _ _ _ _ _}=>cast (by kernel_rfl)
def zsS (P:Program) (x0:AV) (σ:LO) (Z:ZT):Prop :=
 cA P zfi [x0] σ fun a s =>
 bP .neq a (iN 0) s fun b s =>
 zi b (z1 Z (iN 0) s) (bP .mul (iN 3) x0 s fun c s =>
 bP .add c (iN 1) s fun d s =>
 z1 Z d s)
theorem zsu:F1 Tryz.prog zfj zsS:=zg [] Tryz.func59 (by decide +kernel) (by kernel_rfl) fun {_ _ _ _}=>cast (by kernel_rfl)
def zuK (P:Program) (x0:AV) (σ:LO) (Z:ZT):Prop :=
 zaH x0 σ fun a s =>
 zT [iN 0,iN 0,iN 0,iN 0,iN 0,iN 0,iN 0,iN 0,iN 0,eN,iN 0,iN 0,eN,eN,eN,eN,(.d (.str [])),iN 0,(.d (.str [])),iN 0,eN,eN,iN 0,iN 0,eN,iN 0,iN 0,eN,iN 0,iN 0] s fun b s =>
 fl 1 a s fun c s =>
 fl 0 a s fun d s =>
 zf true 8 a s fun e s =>
 m1 8 [iN 0,iN 0,iN 0,iN 0,eN,eN,iN 0,iN 0] e s fun f s =>
 zy (zP [iN 0,iN 0,iN 0,iN 0,iN 0,iN 0,iN 0,iN 0,iN 0,eN,iN 0,iN 0,eN,eN,eN,eN,(.d (.str [])),iN 0,(.d (.str [])),iN 0,eN,eN,iN 0,iN 0,eN,iN 0,iN 0,eN,iN 0,iN 0] [(0, 1,(iN 7)),(1, 1,c),(2, 1,d),(13, 1,f)]) s fun g s =>
 zj 30 b g s fun _ s =>
 Z (zA (zae b s true 30) (some [])) s
theorem zuu:F1 Tryz.prog zoT zuK:=zg [] Tryz.func60 (by decide +kernel) (by kernel_rfl) fun {_ _ _ _}=>cast (by kernel_rfl)
def zwX (P:Program) (x0 x1 x2 x3:AV) (σ:LO) (Z:ZT):Prop :=
 zaH x3 σ fun a s =>
 cA P zfi [x2] s fun b s =>
 bP .neq b (iN 0) s fun c s =>
 zi c (z1 Z bF s) (zy (zP [iN 0,iN 0,iN 0,eN,eN,eN] [(0, 1,x2)]) s fun d s =>
 zaH d s fun e s =>
 zf true 3 a s fun f s =>
 cA P zgr [e,f] s fun g s =>
 unC .not g s fun h s =>
 zi h (z1 Z bF s) (zaT [(iN 0)] s fun v s i =>
 zax v fun j v=>fl 2 a s fun l s =>
 zal .sl l s fun m s =>
 bP .lss j m s fun n s =>
 zi n (fl 2 a s fun o s =>
 il true 2 2 o j s fun p s =>
 fl 2 a s fun q s =>
 zE none 2 q j s fun r s =>
 fl 0 r s fun u s =>
 fl 0 a s fun w s =>
 fl 1 a s fun y s =>
 cA P zfU [x0,x1,p,u,(iN 6),(iN 0),w,y] s fun z s =>
 unC .not z s fun A s =>
 zi A (z1 Z bF s) (bP .add j (iN 1) s fun B s =>
 i [B] s)) (z1 Z bT s)))
theorem zwf:F4 Tryz.prog zrl zwX:=zg [.l [10] [(8, 1),(21, 26)],.d [(0, 19)] []] Tryz.func61 (by decide +kernel) (by kernel_rfl) fun {_ _ _ _ _ _ _}=>cast (by kernel_rfl)
def zwW (P:Program) (x0 x1 x2 x3 x4 x5:AV) (σ:LO) (Z:ZT):Prop :=
 zaT [x4,(iN 0)] σ fun v s a =>
 zax v fun b v=>zax v fun c v=>zal .sl x5 s fun d s =>
 bP .lss c d s fun e s =>
 zi e (il true 7 7 x5 c s fun f s =>
 cA P zrj [x0,x1,x2,f] s fun g s =>
 unC .not g s fun h s =>
 gFm h x5 s fun i s =>
 gFm h c s fun j s =>
 gF h (zE none 7 i j s) s fun l s =>
 gFl h 0 l s fun m s =>
 gFm h x3 s fun n s =>
 gF h (bP .geq m n s) s fun o s =>
 orC h o s fun p s =>
 gFm p x5 s fun q s =>
 gFm p c s fun r s =>
 gF p (zE none 7 q r s) s fun u s =>
 gFl p 1 u s fun w s =>
 gFm p b s fun y s =>
 gF p (bP .leq w y s) s fun z s =>
 orC p z s fun A s =>
 gFm A x5 s fun B s =>
 gFm A c s fun C s =>
 gF A (zE none 7 B C s) s fun D s =>
 gFl A 1 D s fun E s =>
 gFm A x4 s fun F s =>
 gF A (bP .leq E F s) s fun G s =>
 orC A G s fun H s =>
 gFm H x5 s fun I s =>
 gFm H c s fun J s =>
 gF H (zE none 7 I J s) s fun K s =>
 gFl H 1 K s fun L s =>
 gF H (bP .sub L (iN 8) s) s fun M s =>
 gFm H x4 s fun N s =>
 gF H (bP .gtr M N s) s fun O s =>
 orC H O s fun Q s =>
 zi Q (z1 Z bF s) (zE none 7 x5 c s fun R s =>
 fl 1 R s fun S s =>
 bP .add c (iN 1) s fun T s =>
 a [S,T] s)) (z1 Z bT s)
theorem zwe:F6 Tryz.prog zrk zwW:=zg [.l [13, 14] [(12, 1),(16, 57)]] Tryz.func62 (by decide +kernel) (by kernel_rfl) fun {_ _ _ _ _ _ _ _ _}=>cast (by kernel_rfl)
def zok (P:Program) (σ:LO) (Z:ZT):Prop :=
 zar σ fun a s =>
 zy (zP [eN,(.d .nilmap)] [(1, 1,a)]) s fun b s =>
 zaH b s fun c s =>
 z1 Z c s
theorem znO:F0 Tryz.prog zjp zok:=zg [] Tryz.func63 (by decide +kernel) (by kernel_rfl) fun {_ _ _}=>cast (by kernel_rfl)
def zlM (P:Program) (x0 x1:AV) (σ:LO) (Z:ZT):Prop :=
 cA P zdo [x0] σ fun a s =>
 zi a (z2 Z (iN 0) bF s) (nfl 1 x0 s fun b s =>
 zak .toStr x1 s fun c s =>
 zaK .str true (iN 0) b c s fun d s =>
 zc d 0 s fun e s =>
 zc d 1 s fun f s =>
 z2 Z e f s)
theorem zly:F2 Tryz.prog zdp zlM:=zg [.d [(0, 12)] []] Tryz.func64 (by decide +kernel) (by kernel_rfl) fun {_ _ _ _ _}=>cast (by kernel_rfl)
def zmK (P:Program) (x0 x1:AV) (σ:LO) (Z:ZT):Prop :=
 cA P zdo [x0] σ fun a s =>
 zi a (z1 Z (iN 0) s) (nfl 1 x0 s fun b s =>
 zak .toStr x1 s fun c s =>
 zaK .str true (iN 0) b c s fun d s =>
 zc d 0 s fun e s =>
 zc d 1 s fun f s =>
 zi f (z1 Z e s) (nfl 0 x0 s fun g s =>
 zal .sl g s fun h s =>
 bP .geq h (iN 1048576) s fun i s =>
 zi i (z1 Z (iN 0) s) (zbZ x0 s fun j s =>
 zb 0 j s fun l s =>
 zf false 1 l s fun m s =>
 cA P zdc [x1] s fun n t =>
 zI l s t/\(m1 1 [eN] n t fun o s =>
 zG 1 24 m o s fun p s =>
 zbZ x0 s fun q s =>
 zb 0 q s fun r s =>
 zj 1 r p s fun _ s =>
 nfl 0 x0 s fun w s =>
 zal .sl w s fun y s =>
 nfl 1 x0 s fun z s =>
 zak .toStr x1 s fun A s =>
 zaS .str z A y s fun _ s =>
 z1 Z y s))))
theorem zmu:F2 Tryz.prog zeZ zmK:=zg [.d [(0, 12)] [],.d [(0, 12)] [(6,[31])],.d [(0, 8)] []] Tryz.func65 (by decide +kernel) (by kernel_rfl) fun {_ _ _ _ _}=>cast (by kernel_rfl)
def zjq (P:Program) (x0 x1:AV) (σ:LO) (Z:ZT):Prop :=
 zaT [(iN 0)] σ fun v s a =>
 zax v fun b v=>nfl 0 x0 s fun c s =>
 zal .sl c s fun d s =>
 bP .lss b d s fun e s =>
 zi e (nfl 0 x0 s fun f s =>
 il false 1 1 f b s fun g s =>
 cA P zty [g,x1] s fun h s =>
 zi h (bP .add b (iN 1) s fun i s =>
 z2 Z i bT s) (bP .add b (iN 1) s fun j s =>
 a [j] s)) (z2 Z (iN 0) bF s)
theorem zgE:F2 Tryz.prog zcL zjq:=zg [.l [6] [(4, 2),(7, 20)]] Tryz.func66 (by decide +kernel) (by kernel_rfl) fun {_ _ _ _ _}=>cast (by kernel_rfl)
def zkO (P:Program) (x0 x1:AV) (σ:LO) (Z:ZT):Prop :=
 zaH x1 σ fun a s =>
 zaT [(iN 0)] s fun v s b =>
 zax v fun c v=>nfl 0 x0 s fun d s =>
 zal .sl d s fun e s =>
 bP .lss c e s fun f s =>
 zi f (nfl 0 x0 s fun g s =>
 il true 2 2 g c s fun h s =>
 zf true 2 a s fun i s =>
 zcB .eql (.ints 2) h i s fun j s =>
 zi j (z1 Z bT s) (bP .add c (iN 1) s fun l s =>
 b [l] s)) (z1 Z bF s)
theorem zky:F2 Tryz.prog zdU zkO:=zg [.l [5] [(4, 1),(6, 18)],.d [(0, 9)] []] Tryz.func67 (by decide +kernel) (by kernel_rfl) fun {_ _ _ _ _}=>cast (by kernel_rfl)
def zqZ (P:Program) (x0 x1:AV) (σ:LO) (Z:ZT):Prop :=
 cA P zdF [x1] σ fun a s =>
 bP .neq a (iN 0) s fun b s =>
 zi b (z1 Z (iN 0) s) (bP .mul x0 x1 s fun c s =>
 bP .add c (iN 1) s fun d s =>
 z1 Z d s)
theorem zqM:F2 Tryz.prog ziB zqZ:=zg [] Tryz.func68 (by decide +kernel) (by kernel_rfl) fun {_ _ _ _ _}=>cast (by kernel_rfl)
def zsW (P:Program) (x0 x1:AV) (σ:LO) (Z:ZT):Prop :=
 cA P zdF [x0] σ fun a s =>
 bP .eql a (iN 0) s fun b s =>
 gTm b x1 s fun c s =>
 gT b (bP .geq c (iN 0) s) s fun d s =>
 anC b d s fun e s =>
 gTm e x1 s fun f s =>
 gT e (bP .leq f (iN 9007199254740992) s) s fun g s =>
 anC e g s fun h s =>
 z1 Z h s
theorem zsy:F2 Tryz.prog zmZ zsW:=zg [] Tryz.func69 (by decide +kernel) (by kernel_rfl) fun {_ _ _ _ _}=>cast (by kernel_rfl)
def zxp (P:Program) (x0 x1:AV) (σ:LO) (Z:ZT):Prop :=
 cA P zcs [x0] σ fun a s =>
 zcB .neq .ptr a (.d .nilp) s fun b s =>
 gTm b x1 s fun c s =>
 gT b (cA P zcK [c] s) s fun d s =>
 gT b (zcB .neq .ptr d (.d .nilp) s) s fun e s =>
 anC b e s fun f s =>
 z1 Z f s
theorem zwx:F2 Tryz.prog zgK zxp:=zg [] Tryz.func70 (by decide +kernel) (by kernel_rfl) fun {_ _ _ _ _}=>cast (by kernel_rfl)
def znX (P:Program) (x0 x1:AV) (σ:LO) (Z:ZT):Prop :=
 cA P zbC [x1] σ fun a s =>
 bP .neq a (iN 0) s fun b s =>
 zi b (z2 Z (iN 0) a s) (cA P zki [x0] s fun c s =>
 unC .not c s fun d s =>
 zi d (z2 Z (iN 0) (iN 2) s) (cA P zdn [eN,x1] s fun e s =>
 cA P zeZ [x0,e] s fun f s =>
 bP .eql f (iN 0) s fun g s =>
 zi g (z2 Z (iN 0) (iN 6) s) (z2 Z f (iN 0) s)))
theorem znB:F2 Tryz.prog zji znX:=zg [] Tryz.func71 (by decide +kernel) (by kernel_rfl) fun {_ _ _ _ _}=>cast (by kernel_rfl)
def zxq (P:Program) (x0 x1 x2 x3 x4 x5 x6:AV) (σ:LO) (Z:ZT):Prop :=
 zT [iN 0,iN 0] σ fun a s =>
 cA P zgK [x0,x1] s fun b s =>
 unC .not b s fun c s =>
 zi c (zy (zP [iN 0,iN 0] []) s fun d s =>
 zj 2 a d s fun _ s =>
 Z (zA (zae a s true 2) (zA (some (iN 2)) (some []))) s) (cA P zqm [x3,x4,x5,x6] s fun f s =>
 unC .not f s fun g s =>
 zi g (zy (zP [iN 0,iN 0] []) s fun h s =>
 zj 2 a h s fun _ s =>
 Z (zA (zae a s true 2) (zA (some (iN 1)) (some []))) s) (cA P zdt [x3,x4,x5,x6] s fun j s =>
 cA P zne [x0,x1,x2,j] s fun l s =>
 zc l 0 s fun m s =>
 zc l 1 s fun n s =>
 zj 2 a m s fun _ s =>
 Z (zA (zae a s true 2) (zA (some n) (some []))) s))
theorem zwy:F7 Tryz.prog zrt zxq:=zg [] Tryz.func72 (by decide +kernel) (by kernel_rfl) fun {_ _ _ _ _ _ _ _ _ _}=>cast (by kernel_rfl)
def zlW (P:Program) (x0:AV) (σ:LO) (Z:ZT):Prop :=
 zaH x0 σ fun a s =>
 zf true 30 a s fun b s =>
 cA P zfJ [b] s fun c s =>
 zc c 0 s fun d s =>
 zc c 1 s fun e s =>
 bP .neq e (iN 0) s fun f s =>
 zi f (z2 Z eN e s) (fl 0 a s fun g s =>
 (fun (h:AV->LO->Prop)=>bP .eql g (iN 2) s fun U s =>
 zi U (h U s) (bP .eql g (iN 3) s fun V s =>
 zi V (h V s) (bP .eql g (iN 4) s fun W s =>
 h W s)))
 (fun i s=>zi i (fl 0 a s fun j s =>
 fl 2 a s fun l s =>
 fl 3 a s fun m s =>
 fl 4 a s fun n s =>
 cA P zdt [j,l,m,n] s fun o s =>
 z2 Z o (iN 0) s) (bP .eql g (iN 6) s fun p s =>
 zi p (fl 0 a s fun q s =>
 fl 3 a s fun r s =>
 fl 4 a s fun u s =>
 cA P zdt [q,(iN 0),r,u] s fun w s =>
 z2 Z w (iN 0) s) (bP .eql g (iN 9) s fun y s =>
 zi y (fl 0 a s fun z s =>
 fl 3 a s fun A s =>
 cA P zdt [z,(iN 0),A,(iN 0)] s fun B s =>
 z2 Z B (iN 0) s) (bP .eql g (iN 5) s fun C s =>
 zi C (m1 1 [(.d (.int .u8 0))] (.d (.int .u8 5)) s fun D s =>
 fl 2 a s fun E s =>
 fl 5 a s fun F s =>
 fl 6 a s fun G s =>
 zb 7 a s fun H s =>
 fl 0 H s fun I s =>
 zb 7 a s fun J s =>
 fl 1 J s fun K s =>
 zl false 1 5 (zP (rep [iN 0] 5) [(0, 1,E),(1, 1,F),(2, 1,G),(3, 1,I),(4, 1,K)]) s fun L s =>
 cA P zql [D,L] s fun M s =>
 z2 Z M (iN 0) s) ((fun (N:AV->LO->Prop)=>bP .eql g (iN 7) s fun S s =>
 zi S (N S s) (bP .eql g (iN 8) s fun T s =>
 N T s))
 (fun O s=>zi O (m1 1 [(.d (.int .u8 0))] (.d (.int .u8 6)) s fun Q s =>
 zG 1 1 Q d s fun R s =>
 z2 Z R (iN 0) s) (z2 Z eN (iN 0) s))))))))
theorem ziG:F1 Tryz.prog zgw zlW:=zg [] Tryz.func73 (by decide +kernel) (by kernel_rfl) fun {_ _ _ _}=>cast (by kernel_rfl)
def zxn (P:Program) (x0 x1:AV) (σ:LO) (Z:ZT):Prop :=
 zaH x0 σ fun a s =>
 zaH x1 s fun b s =>
 zT [iN 0,iN 0,iN 0,iN 0,iN 0,iN 0,iN 0,iN 0,iN 0,eN,iN 0,iN 0,eN,eN,eN,eN,(.d (.str [])),iN 0,(.d (.str [])),iN 0,eN,eN,iN 0,iN 0,eN,iN 0,iN 0,eN,iN 0,iN 0] s fun c s =>
 zf true 30 a s fun d s =>
 cA P zkq [d] s fun e s =>
 zj 30 a e s fun _ s =>
 fl 0 a s fun g s =>
 bP .eql g (iN 7) s fun h s =>
 gTl h 13 a s fun i s =>
 gT h (zal .sl i s) s fun j s =>
 gT h (bP .eql j (iN 1) s) s fun l s =>
 anC h l s fun m s =>
 zi m (fl 13 a s fun n s =>
 zf true 2 b s fun o s =>
 zE none 8 n (iN 0) s fun p s =>
 zb 6 p s fun q s =>
 zj 2 q o s fun _ s =>
 zf true 30 a s fun u s =>
 zj 30 c u s fun _ s =>
 Z (zA (zae c s true 30) (some [])) s) (zf true 2 b s fun y s =>
 zb 28 a s fun z s =>
 zj 2 z y s fun _ s =>
 zf true 30 a s fun B s =>
 zj 30 c B s fun _ s =>
 Z (zA (zae c s true 30) (some [])) s)
theorem zwv:F2 Tryz.prog znd zxn:=zg [] Tryz.func74 (by decide +kernel) (by kernel_rfl) fun {_ _ _ _ _}=>cast (by kernel_rfl)
def zxo (P:Program) (x0 x1 x2 x3:AV) (σ:LO) (Z:ZT):Prop :=
 zT [iN 0,iN 0] σ fun a s =>
 cA P zeZ [x0,x3] s fun b s =>
 bP .eql b (iN 0) s fun c s =>
 zi c (zy (zP [iN 0,iN 0] []) s fun d s =>
 zj 2 a d s fun _ s =>
 Z (zA (zae a s true 2) (zA (some (iN 6)) (some []))) s) (cA P zdW [x1,x2,b] s fun f s =>
 zc f 0 s fun g s =>
 zc f 1 s fun h s =>
 zj 2 a g s fun _ s =>
 Z (zA (zae a s true 2) (zA (some h) (some []))) s)
theorem zww:F4 Tryz.prog zne zxo:=zg [] Tryz.func75 (by decide +kernel) (by kernel_rfl) fun {_ _ _ _ _ _ _}=>cast (by kernel_rfl)
def zuH (P:Program) (x0 x1:AV) (σ:LO) (Z:ZT):Prop :=
 zT [iN 0,iN 0,iN 0,iN 0,iN 0,eN,eN] σ fun a s =>
 zaT [bF,(iN 0)] s fun v s b =>
 zax v fun c v=>zax v fun d v=>zal .sl x0 s fun e s =>
 bP .lss d e s fun f s =>
 zi f (zaT [c,(iN 0)] s fun v s g =>
 zax v fun h v=>zax v fun i v=>zE none 8 x0 d s fun j s =>
 fl 5 j s fun l s =>
 zal .sl l s fun m s =>
 bP .lss i m s fun n s =>
 zi n ((fun (o:AV->LO->Prop)=>zE none 8 x0 d s fun r s =>
 fl 5 r s fun u s =>
 il true 7 7 u i s fun w s =>
 cp [iN 0,iN 0,iN 0,iN 0,iN 0,eN,eN] 7 w s fun y s =>
 fl 1 y s fun z s =>
 bP .eql z x1 s fun A s =>
 gTm A h s fun B s =>
 gT A (unC .not B s) s fun C s =>
 gTm A C s fun D s =>
 gFl D 0 y s fun E s =>
 gFl D 0 a s fun F s =>
 gF D (bP .gtr E F s) s fun G s =>
 gT A (orC D G s) s fun H s =>
 anC A H s fun I s =>
 zi I (zf true 7 y s fun J s =>
 zj 7 a J s fun _ s =>
 o bT s) (o h s))
 (fun p s=>bP .add i (iN 1) s fun q s =>
 g [p,q] s)) (bP .add d (iN 1) s fun L s =>
 b [h,L] s)) (fl 6 a s fun M s =>
 z1 Z M s)
theorem zur:F2 Tryz.prog zoR zuH:=zg [.l [6, 7] [(8, 42)],.l [6, 8] [(9, 1),(16, 34)]] Tryz.func76 (by decide +kernel) (by kernel_rfl) fun {_ _ _ _ _}=>cast (by kernel_rfl)
def zuN (P:Program) (x0 x1:AV) (σ:LO) (Z:ZT):Prop :=
 cA P zcq [x1] σ fun a s =>
 bP .neq a (iN 0) s fun b s =>
 zi b (z2 Z (iN 0) a s) (cA P zdD [eN,x1] s fun c s =>
 cA P zhk [x0,c] s fun d s =>
 bP .eql d (iN 0) s fun e s =>
 zi e (z2 Z (iN 0) (iN 6) s) (z2 Z d (iN 0) s))
theorem zux:F2 Tryz.prog zoX zuN:=zg [] Tryz.func77 (by decide +kernel) (by kernel_rfl) fun {_ _ _ _ _}=>cast (by kernel_rfl)
def zzj (P:Program) (x0 x1 x2 x3 x4 x5 x6:AV) (σ:LO) (Z:ZT):Prop :=
 zT [iN 0,iN 0] σ fun a s =>
 cA P zsb [x3,x4,x5,x6] s fun b s =>
 unC .not b s fun c s =>
 zi c (zy (zP [iN 0,iN 0] []) s fun d s =>
 zj 2 a d s fun _ s =>
 Z (zA (zae a s true 2) (zA (some (iN 1)) (some []))) s) (cA P zdT [x3,x4,x5,x6] s fun f s =>
 cA P zqg [x0,x1,x2,f] s fun g s =>
 zc g 0 s fun h s =>
 zc g 1 s fun i s =>
 zj 2 a h s fun _ s =>
 Z (zA (zae a s true 2) (zA (some i) (some []))) s)
theorem zyx:F7 Tryz.prog ztu zzj:=zg [] Tryz.func78 (by decide +kernel) (by kernel_rfl) fun {_ _ _ _ _ _ _ _ _ _}=>cast (by kernel_rfl)
def znw (P:Program) (x0:AV) (σ:LO) (Z:ZT):Prop :=
 zaH x0 σ fun a s =>
 zf true 30 a s fun b s =>
 cA P ziA [b] s fun c s =>
 zc c 0 s fun d s =>
 zc c 1 s fun e s =>
 bP .neq e (iN 0) s fun f s =>
 zi f (z2 Z eN e s) (fl 0 a s fun g s =>
 (fun (h:AV->LO->Prop)=>bP .eql g (iN 2) s fun b0 s =>
 zi b0 (h b0 s) (bP .eql g (iN 3) s fun c0 s =>
 zi c0 (h c0 s) (bP .eql g (iN 4) s fun d0 s =>
 h d0 s)))
 (fun i s=>zi i (fl 0 a s fun j s =>
 fl 2 a s fun l s =>
 fl 3 a s fun m s =>
 fl 4 a s fun n s =>
 cA P zdT [j,l,m,n] s fun o s =>
 z2 Z o (iN 0) s) (bP .eql g (iN 6) s fun p s =>
 zi p (fl 0 a s fun q s =>
 fl 3 a s fun r s =>
 fl 4 a s fun u s =>
 cA P zdT [q,(iN 0),r,u] s fun w s =>
 z2 Z w (iN 0) s) (bP .eql g (iN 9) s fun y s =>
 zi y (fl 0 a s fun z s =>
 fl 3 a s fun A s =>
 cA P zdT [z,(iN 0),A,(iN 0)] s fun B s =>
 z2 Z B (iN 0) s) (bP .eql g (iN 5) s fun C s =>
 zi C (m1 1 [(.d (.int .u8 0))] (.d (.int .u8 5)) s fun D s =>
 fl 2 a s fun E s =>
 zb 5 a s fun F s =>
 zf false 1 F s fun G s =>
 zb 6 a s fun H s =>
 zf false 1 H s fun I s =>
 cA P zfT [D,E] s fun J t =>
 zI F s t/\(zI H s t/\(cA P zfT [J,G] t fun K s =>
 zI H t s/\(cA P zfT [K,I] s fun L s =>
 zb 7 a s fun M s =>
 fl 0 M s fun N s =>
 zb 7 a s fun O s =>
 zb 1 O s fun Q s =>
 zf false 1 Q s fun R s =>
 cA P zfT [L,N] s fun S t =>
 zI Q s t/\(cA P zfT [S,R] t fun T s =>
 z2 Z T (iN 0) s))))) ((fun (U:AV->LO->Prop)=>bP .eql g (iN 7) s fun Y s =>
 zi Y (U Y s) (bP .eql g (iN 8) s fun a0 s =>
 U a0 s))
 (fun V s=>zi V (m1 1 [(.d (.int .u8 0))] (.d (.int .u8 6)) s fun W s =>
 zG 1 1 W d s fun X s =>
 z2 Z X (iN 0) s) (z2 Z eN (iN 0) s))))))))
theorem zjU:F1 Tryz.prog zhe znw:=zg [.d [(0, 3),(4, 2),(7, 2),(3, 1),(6, 1),(9, 2)] [(3,[51, 54]),(6,[54])],.d [(0, 4),(5, 3),(4, 1),(8, 3)] [(4,[63])]] Tryz.func79 (by decide +kernel) (by kernel_rfl) fun {_ _ _ _}=>cast (by kernel_rfl)
def zzi (P:Program) (x0 x1 x2 x3:AV) (σ:LO) (Z:ZT):Prop :=
 zT [iN 0,iN 0] σ fun a s =>
 cA P zhk [x0,x3] s fun b s =>
 bP .eql b (iN 0) s fun c s =>
 zi c (zy (zP [iN 0,iN 0] []) s fun d s =>
 zj 2 a d s fun _ s =>
 Z (zA (zae a s true 2) (zA (some (iN 6)) (some []))) s) (cA P zgi [x1,x2,b] s fun f s =>
 zc f 0 s fun g s =>
 zc f 1 s fun h s =>
 zj 2 a g s fun _ s =>
 Z (zA (zae a s true 2) (zA (some h) (some []))) s)
theorem zyw:F4 Tryz.prog zqg zzi:=zg [] Tryz.func80 (by decide +kernel) (by kernel_rfl) fun {_ _ _ _ _ _ _}=>cast (by kernel_rfl)
end Go.Proofs.YtpgahkdjkanblaaGreat
