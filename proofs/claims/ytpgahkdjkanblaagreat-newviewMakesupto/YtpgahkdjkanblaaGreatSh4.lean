/- The conditions of each function, its slots as variables, and that the logic's conditions are these. Printed by program. -/
import Derived.Test.YtpgahkdjkanblaaGreatNm
import Derived.KernelRfl
set_option linter.all false
set_option maxRecDepth 100000
namespace Go.Proofs.YtpgahkdjkanblaaGreat
open Go.AW
def zpJ (P:Program) (x0:AV) (σ:LO) (Z:ZT):Prop :=
 zaH x0 σ fun a s =>
 fl 0 a s fun b s =>
 bP .lss b (iN 0) s fun c s =>
 gFl c 0 a s fun d s =>
 gF c (bP .geq d (iN 8) s) s fun e s =>
 orC c e s fun f s =>
 gFl f 1 a s fun g s =>
 gF f (bP .lss g (iN 1) s) s fun h s =>
 orC f h s fun i s =>
 gFl i 1 a s fun j s =>
 gF i (bP .gtr j (iN 9007199254740992) s) s fun l s =>
 orC i l s fun m s =>
 zi m (z1 Z (iN 80) s) (zb 2 a s fun n s =>
 zf true 5 n s fun o s =>
 cA P zqk [o] s fun p s =>
 z1 Z p s)
theorem zpk:F1 Tryz.prog zhc zpJ:=zg [] Tryz.func128 (by decide +kernel) (by kernel_rfl) fun {_ _ _ _}=>cast (by kernel_rfl)
def zkM (P:Program) (x0:AV) (σ:LO) (Z:ZT):Prop :=
 zaH x0 σ fun a s =>
 fl 0 a s fun b s =>
 bP .lss b (iN 0) s fun c s =>
 gFl c 0 a s fun d s =>
 gF c (bP .geq d (iN 21) s) s fun e s =>
 orC c e s fun f s =>
 gFl f 1 a s fun g s =>
 gF f (bP .lss g (iN 1) s) s fun h s =>
 orC f h s fun i s =>
 gFl i 1 a s fun j s =>
 gF i (bP .gtr j (iN 9007199254740992) s) s fun l s =>
 orC i l s fun m s =>
 zi m (z1 Z (iN 81) s) (z1 Z (iN 0) s)
theorem zkw:F1 Tryz.prog zbI zkM:=zg [] Tryz.func129 (by decide +kernel) (by kernel_rfl) fun {_ _ _ _}=>cast (by kernel_rfl)
def zgO (P:Program) (x0 x1:AV) (σ:LO) (Z:ZT):Prop :=
 zal .sl x0 σ fun a s =>
 zak (.int .u64) a s fun b s =>
 cA P zbE [x1,b] s fun c s =>
 zal .sl x0 s fun d s =>
 zaT [c,(iN 0)] s fun v s e =>
 zax v fun f v=>zax v fun g v=>bP .lss g d s fun h s =>
 zi h (il true 9 9 x0 g s fun i s =>
 cp [iN 0,iN 0,iN 0,(.d (.str [])),(.d (.str [])),iN 0,eN,iN 0,iN 0] 9 i s fun j s =>
 zb 0 j s fun l s =>
 zf true 7 l s fun m s =>
 cA P zhd [m] s fun n s =>
 zc n 0 s fun o s =>
 zc n 1 s fun _ s =>
 zb 7 j s fun q s =>
 zf true 2 q s fun r s =>
 cA P zej [f,o] s fun u t =>
 zI q s t/\(cA P zeX [u,r] t fun w s =>
 bP .add g (iN 1) s fun y s =>
 e [w,y] s)) (z1 Z f s)
theorem zfo:F2 Tryz.prog zfh zgO:=zg [.l [1, 16] [(6, 3),(17, 16)],.d [(0, 2),(3, 2),(2, 1),(5, 2)] [(2,[29])]] Tryz.func130 (by decide +kernel) (by kernel_rfl) fun {_ _ _ _ _}=>cast (by kernel_rfl)
def zrJ (P:Program) (x0:AV) (σ:LO) (Z:ZT):Prop :=
 zaH x0 σ fun a s =>
 zb 28 a s fun b s =>
 zf true 2 b s fun c s =>
 cA P zcm [c] s fun d s =>
 fl 0 a s fun e s =>
 bP .eql e (iN 1) s fun f s =>
 zi f (fl 9 a s fun g s =>
 zal .sl g s fun h s =>
 bP .neq h (iN 1) s fun i s =>
 zi i (z1 Z (iN 100) s) (fl 9 a s fun j s =>
 cA P zcq [j] s fun l s =>
 z1 Z l s)) (bP .eql e (iN 2) s fun m s =>
 zi m (zf true 30 a s fun n s =>
 fl 9 a s fun o s =>
 cA P zcq [o] s fun p t =>
 zI a s t/\(cA P zoV [n,p] t fun q s =>
 z1 Z q s)) ((fun (r:AV->LO->Prop)=>bP .eql e (iN 3) s fun H1 s =>
 zi H1 (r H1 s) (bP .eql e (iN 4) s fun I1 s =>
 r I1 s))
 (fun u s=>zi u (zf true 30 a s fun w s =>
 cA P zoV [w,(iN 0)] s fun y s =>
 z1 Z y s) (bP .eql e (iN 5) s fun z s =>
 zi z (fl 1 a s fun A s =>
 zb 2 a s fun B s =>
 zf false 1 B s fun C s =>
 zb 5 a s fun D s =>
 zf false 1 D s fun E s =>
 zb 6 a s fun F s =>
 zf false 1 F s fun G s =>
 zb 7 a s fun H s =>
 zb 0 H s fun I s =>
 zf false 1 I s fun J s =>
 zb 7 a s fun K s =>
 zb 1 K s fun L s =>
 zf false 1 L s fun M s =>
 cA P zem [A] s fun N t =>
 zI B s t/\(zI D s t/\(zI F s t/\(zI I s t/\(zI L s t/\(cA P zfV [C] t fun O s =>
 zI D t s/\(zI F t s/\(zI I t s/\(zI L t s/\(cA P ziz [E,(iN 0),(iN 7)] s fun Q t =>
 zI F s t/\(zI I s t/\(zI L s t/\(cA P zfV [G] t fun R s =>
 zI I t s/\(zI L t s/\(cA P ziz [J,(iN 0),(iN 65536)] s fun S t =>
 zI L s t/\(cA P zfV [M] t fun T s =>
 zl false 1 7 (zP (rep [iN 0] 7) [(0, 1,N),(1, 1,O),(2, 1,Q),(3, 1,R),(4, 1,S),(5, 1,T),(6, 1,d)]) s fun U s =>
 cA P zcD [U] s fun V s =>
 z1 Z V s)))))))))))))))) (bP .eql e (iN 6) s fun W s =>
 zi W (fl 1 a s fun X s =>
 zb 3 a s fun Y s =>
 zf false 1 Y s fun a0 s =>
 zb 4 a s fun b0 s =>
 zf false 1 b0 s fun c0 s =>
 cA P zem [X] s fun d0 t =>
 zI Y s t/\(zI b0 s t/\(cA P zhg [a0] t fun e0 s =>
 zI b0 t s/\(cA P zhg [c0] s fun f0 s =>
 zl false 1 4 (zP (rep [iN 0] 4) [(0, 1,d0),(1, 1,e0),(2, 1,f0),(3, 1,d)]) s fun g0 s =>
 cA P zcD [g0] s fun h0 s =>
 z1 Z h0 s)))) (bP .eql e (iN 7) s fun i0 s =>
 zi i0 (fl 13 a s fun j0 s =>
 zal .sl j0 s fun l0 s =>
 bP .neq l0 (iN 1) s fun m0 s =>
 zi m0 (z1 Z (iN 100) s) (fl 13 a s fun o0 s =>
 il true 8 8 o0 (iN 0) s fun p0 s =>
 cA P zgh [p0] s fun q0 s =>
 bP .neq q0 (iN 0) s fun r0 s =>
 zi r0 (z1 Z q0 s) (fl 1 a s fun u0 s =>
 fl 13 a s fun w0 s =>
 zE none 8 w0 (iN 0) s fun y0 s =>
 fl 1 y0 s fun z0 s =>
 bP .neq u0 z0 s fun A0 s =>
 gFl A0 2 a s fun B0 s =>
 gFl A0 13 a s fun C0 s =>
 gF A0 (zE none 8 C0 (iN 0) s) s fun D0 s =>
 gFl A0 0 D0 s fun E0 s =>
 gF A0 (bP .neq B0 E0 s) s fun F0 s =>
 orC A0 F0 s fun G0 s =>
 zi G0 (z1 Z (iN 100) s) (z1 Z (iN 0) s)))) (bP .eql e (iN 8) s fun H0 s =>
 zi H0 (zf true 30 a s fun I0 s =>
 cA P zhh [I0] s fun J0 s =>
 z1 Z J0 s) (bP .eql e (iN 9) s fun K0 s =>
 zi K0 (fl 1 a s fun L0 s =>
 zb 3 a s fun M0 s =>
 zf false 1 M0 s fun N0 s =>
 cA P zem [L0] s fun O0 t =>
 zI M0 s t/\(cA P zfV [N0] t fun Q0 s =>
 zl false 1 3 (zP (rep [iN 0] 3) [(0, 1,O0),(1, 1,Q0),(2, 1,d)]) s fun R0 s =>
 cA P zcD [R0] s fun S0 s =>
 z1 Z S0 s)) (bP .eql e (iN 10) s fun T0 s =>
 zi T0 (fl 1 a s fun U0 s =>
 zb 10 a s fun V0 s =>
 zf true 3 V0 s fun W0 s =>
 zb 15 a s fun X0 s =>
 zf false 1 X0 s fun Y0 s =>
 zal .sl Y0 s fun a1 s =>
 cA P zem [U0] s fun b1 t =>
 zI V0 s t/\(zI X0 s t/\(cA P zhj [W0] t fun c1 s =>
 zI X0 t s/\(cA P ziz [a1,(iN 0),(iN 262144)] s fun d1 s =>
 zl false 1 3 (zP (rep [iN 0] 3) [(0, 1,b1),(1, 1,c1),(2, 1,d1)]) s fun e1 s =>
 cA P zcD [e1] s fun f1 s =>
 z1 Z f1 s)))) (bP .eql e (iN 11) s fun g1 s =>
 zi g1 (fl 5 a s fun h1 s =>
 zb 16 a s fun i1 s =>
 zf false 1 i1 s fun j1 s =>
 zb 17 a s fun l1 s =>
 zf false 1 l1 s fun o1 s =>
 cA P ziz [h1,(iN 0),(iN 7)] s fun p1 t =>
 zI i1 s t/\(zI l1 s t/\(cA P n_r10_name [j1] t fun q1 s =>
 zI l1 t s/\(cA P zfV [o1] s fun r1 s =>
 zl false 1 3 (zP (rep [iN 0] 3) [(0, 1,p1),(1, 1,q1),(2, 1,r1)]) s fun u1 s =>
 cA P zcD [u1] s fun w1 s =>
 z1 Z w1 s)))) (bP .eql e (iN 12) s fun y1 s =>
 zi y1 (fl 1 a s fun A1 s =>
 zb 18 a s fun B1 s =>
 zf true 10 B1 s fun C1 s =>
 cA P zem [A1] s fun D1 t =>
 zI B1 s t/\(cA P zuZ [C1] t fun E1 s =>
 zl false 1 2 (zP (rep [iN 0] 2) [(0, 1,D1),(1, 1,E1)]) s fun F1 s =>
 cA P zcD [F1] s fun G1 s =>
 z1 Z G1 s)) (z1 Z (iN 100) s))))))))))))
theorem znk:F1 Tryz.prog zmU zrJ:=zg [.d [(0, 6)] [(3,[1])],.d [(0, 2),(3, 2),(6, 2),(9, 2),(12, 3),(16, 3),(20, 1),(2, 1),(5, 1),(8, 1),(11, 1),(15, 1),(19, 1),(21, 3)] [(2,[36, 39, 42, 46, 50]),(5,[39, 42, 46, 50]),(8,[42, 46, 50]),(11,[46, 50]),(15,[50])],.d [(0, 2),(3, 2),(6, 2),(9, 1),(2, 1),(5, 1),(8, 1),(10, 3)] [(2,[61, 64]),(5,[64])],.d [(0, 18)] [],.d [(0, 2),(3, 2),(6, 1),(2, 1),(5, 1),(7, 3)] [(2,[111])],.d [(0, 2),(3, 2),(6, 3),(2, 1),(5, 1),(9, 4)] [(2,[122, 125]),(5,[125])],.d [(0, 2),(3, 2),(6, 2),(2, 1),(5, 1),(8, 4)] [(2,[136, 139]),(5,[139])],.d [(0, 2),(3, 2),(2, 1),(5, 4)] [(2,[149])]] Tryz.func131 (by decide +kernel) (by kernel_rfl) fun {_ _ _ _}=>cast (by kernel_rfl)
def zub (P:Program) (x0:AV) (σ:LO) (Z:ZT):Prop :=
 zaH x0 σ fun a s =>
 zT [iN 0,iN 0,iN 0,iN 0,iN 0,iN 0,iN 0,iN 0,iN 0,eN,iN 0,iN 0,eN,eN,eN,eN,(.d (.str [])),iN 0,(.d (.str [])),iN 0,eN,eN,iN 0,iN 0,eN,iN 0,iN 0,eN,iN 0,iN 0] s fun b s =>
 fl 0 a s fun c s =>
 zy (zP [iN 0,iN 0,iN 0,iN 0,iN 0,iN 0,iN 0,iN 0,iN 0,eN,iN 0,iN 0,eN,eN,eN,eN,(.d (.str [])),iN 0,(.d (.str [])),iN 0,eN,eN,iN 0,iN 0,eN,iN 0,iN 0,eN,iN 0,iN 0] [(0, 1,c)]) s fun d s =>
 cp [iN 0,iN 0,iN 0,iN 0,iN 0,iN 0,iN 0,iN 0,iN 0,eN,iN 0,iN 0,eN,eN,eN,eN,(.d (.str [])),iN 0,(.d (.str [])),iN 0,eN,eN,iN 0,iN 0,eN,iN 0,iN 0,eN,iN 0,iN 0] 30 d s fun e s =>
 (fun (f:LO->Prop)=>fl 0 a s fun i s =>
 bP .eql i (iN 1) s fun j s =>
 zi j (fl 9 a s fun l s =>
 zb 9 e s fun m s =>
 zj 1 m l s fun _ s =>
 f s) (bP .eql i (iN 2) s fun o s =>
 zi o (fl 0 a s fun p s =>
 fl 1 a s fun q s =>
 fl 2 a s fun r s =>
 fl 3 a s fun u s =>
 fl 4 a s fun w s =>
 fl 9 a s fun y s =>
 zb 28 a s fun z s =>
 zf true 2 z s fun A s =>
 zy (zP [iN 0,iN 0,iN 0,iN 0,iN 0,iN 0,iN 0,iN 0,iN 0,eN,iN 0,iN 0,eN,eN,eN,eN,(.d (.str [])),iN 0,(.d (.str [])),iN 0,eN,eN,iN 0,iN 0,eN,iN 0,iN 0,eN,iN 0,iN 0] [(0, 1,p),(1, 1,q),(2, 1,r),(3, 1,u),(4, 1,w),(9, 1,y),(28, 2,A)]) s fun B s =>
 zj 30 e B s fun _ s =>
 f s) ((fun (D:AV->LO->Prop)=>bP .eql i (iN 3) s fun r1 s =>
 zi r1 (D r1 s) (bP .eql i (iN 4) s fun u1 s =>
 D u1 s))
 (fun E s=>zi E (fl 0 a s fun F s =>
 fl 1 a s fun G s =>
 fl 2 a s fun H s =>
 fl 3 a s fun I s =>
 fl 4 a s fun J s =>
 zb 28 a s fun K s =>
 zf true 2 K s fun L s =>
 zy (zP [iN 0,iN 0,iN 0,iN 0,iN 0,iN 0,iN 0,iN 0,iN 0,eN,iN 0,iN 0,eN,eN,eN,eN,(.d (.str [])),iN 0,(.d (.str [])),iN 0,eN,eN,iN 0,iN 0,eN,iN 0,iN 0,eN,iN 0,iN 0] [(0, 1,F),(1, 1,G),(2, 1,H),(3, 1,I),(4, 1,J),(28, 2,L)]) s fun M s =>
 zj 30 e M s fun _ s =>
 f s) (bP .eql i (iN 5) s fun O s =>
 zi O (fl 0 a s fun Q s =>
 fl 1 a s fun R s =>
 fl 2 a s fun S s =>
 fl 5 a s fun T s =>
 fl 6 a s fun U s =>
 zb 7 a s fun V s =>
 zf true 2 V s fun W s =>
 zb 28 a s fun X s =>
 zf true 2 X s fun Y s =>
 zy (zP [iN 0,iN 0,iN 0,iN 0,iN 0,iN 0,iN 0,iN 0,iN 0,eN,iN 0,iN 0,eN,eN,eN,eN,(.d (.str [])),iN 0,(.d (.str [])),iN 0,eN,eN,iN 0,iN 0,eN,iN 0,iN 0,eN,iN 0,iN 0] [(0, 1,Q),(1, 1,R),(2, 1,S),(5, 1,T),(6, 1,U),(7, 2,W),(28, 2,Y)]) s fun a0 s =>
 zj 30 e a0 s fun _ s =>
 f s) (bP .eql i (iN 6) s fun c0 s =>
 zi c0 (fl 0 a s fun d0 s =>
 fl 1 a s fun e0 s =>
 fl 3 a s fun f0 s =>
 fl 4 a s fun g0 s =>
 zb 28 a s fun h0 s =>
 zf true 2 h0 s fun i0 s =>
 zy (zP [iN 0,iN 0,iN 0,iN 0,iN 0,iN 0,iN 0,iN 0,iN 0,eN,iN 0,iN 0,eN,eN,eN,eN,(.d (.str [])),iN 0,(.d (.str [])),iN 0,eN,eN,iN 0,iN 0,eN,iN 0,iN 0,eN,iN 0,iN 0] [(0, 1,d0),(1, 1,e0),(3, 1,f0),(4, 1,g0),(28, 2,i0)]) s fun j0 s =>
 zj 30 e j0 s fun _ s =>
 f s) (bP .eql i (iN 7) s fun m0 s =>
 zi m0 (fl 0 a s fun o0 s =>
 fl 1 a s fun p0 s =>
 fl 2 a s fun q0 s =>
 fl 13 a s fun r0 s =>
 zy (zP [iN 0,iN 0,iN 0,iN 0,iN 0,iN 0,iN 0,iN 0,iN 0,eN,iN 0,iN 0,eN,eN,eN,eN,(.d (.str [])),iN 0,(.d (.str [])),iN 0,eN,eN,iN 0,iN 0,eN,iN 0,iN 0,eN,iN 0,iN 0] [(0, 1,o0),(1, 1,p0),(2, 1,q0),(13, 1,r0)]) s fun u0 s =>
 zj 30 e u0 s fun _ s =>
 f s) (bP .eql i (iN 8) s fun y0 s =>
 zi y0 (fl 0 a s fun z0 s =>
 fl 1 a s fun A0 s =>
 fl 2 a s fun B0 s =>
 fl 13 a s fun C0 s =>
 fl 14 a s fun D0 s =>
 zb 28 a s fun E0 s =>
 zf true 2 E0 s fun F0 s =>
 zy (zP [iN 0,iN 0,iN 0,iN 0,iN 0,iN 0,iN 0,iN 0,iN 0,eN,iN 0,iN 0,eN,eN,eN,eN,(.d (.str [])),iN 0,(.d (.str [])),iN 0,eN,eN,iN 0,iN 0,eN,iN 0,iN 0,eN,iN 0,iN 0] [(0, 1,z0),(1, 1,A0),(2, 1,B0),(13, 1,C0),(14, 1,D0),(28, 2,F0)]) s fun G0 s =>
 zj 30 e G0 s fun _ s =>
 f s) (bP .eql i (iN 9) s fun I0 s =>
 zi I0 (fl 0 a s fun J0 s =>
 fl 1 a s fun K0 s =>
 fl 3 a s fun L0 s =>
 zb 28 a s fun M0 s =>
 zf true 2 M0 s fun N0 s =>
 zy (zP [iN 0,iN 0,iN 0,iN 0,iN 0,iN 0,iN 0,iN 0,iN 0,eN,iN 0,iN 0,eN,eN,eN,eN,(.d (.str [])),iN 0,(.d (.str [])),iN 0,eN,eN,iN 0,iN 0,eN,iN 0,iN 0,eN,iN 0,iN 0] [(0, 1,J0),(1, 1,K0),(3, 1,L0),(28, 2,N0)]) s fun O0 s =>
 zj 30 e O0 s fun _ s =>
 f s) (bP .eql i (iN 10) s fun R0 s =>
 zi R0 (fl 0 a s fun S0 s =>
 fl 1 a s fun T0 s =>
 zb 10 a s fun U0 s =>
 zf true 3 U0 s fun V0 s =>
 fl 15 a s fun W0 s =>
 zy (zP [iN 0,iN 0,iN 0,iN 0,iN 0,iN 0,iN 0,iN 0,iN 0,eN,iN 0,iN 0,eN,eN,eN,eN,(.d (.str [])),iN 0,(.d (.str [])),iN 0,eN,eN,iN 0,iN 0,eN,iN 0,iN 0,eN,iN 0,iN 0] [(0, 1,S0),(1, 1,T0),(10, 3,V0),(15, 1,W0)]) s fun X0 s =>
 zj 30 e X0 s fun _ s =>
 f s) (bP .eql i (iN 11) s fun a1 s =>
 zi a1 (fl 0 a s fun b1 s =>
 fl 5 a s fun c1 s =>
 fl 16 a s fun d1 s =>
 fl 17 a s fun e1 s =>
 zy (zP [iN 0,iN 0,iN 0,iN 0,iN 0,iN 0,iN 0,iN 0,iN 0,eN,iN 0,iN 0,eN,eN,eN,eN,(.d (.str [])),iN 0,(.d (.str [])),iN 0,eN,eN,iN 0,iN 0,eN,iN 0,iN 0,eN,iN 0,iN 0] [(0, 1,b1),(5, 1,c1),(16, 1,d1),(17, 1,e1)]) s fun f1 s =>
 zj 30 e f1 s fun _ s =>
 f s) (bP .eql i (iN 12) s fun h1 s =>
 zi h1 (fl 0 a s fun i1 s =>
 fl 1 a s fun j1 s =>
 zb 18 a s fun l1 s =>
 zf true 10 l1 s fun o1 s =>
 zy (zP [iN 0,iN 0,iN 0,iN 0,iN 0,iN 0,iN 0,iN 0,iN 0,eN,iN 0,iN 0,eN,eN,eN,eN,(.d (.str [])),iN 0,(.d (.str [])),iN 0,eN,eN,iN 0,iN 0,eN,iN 0,iN 0,eN,iN 0,iN 0] [(0, 1,i1),(1, 1,j1),(18, 10,o1)]) s fun p1 s =>
 zj 30 e p1 s fun _ s =>
 f s) (f s)))))))))))))
 (fun  s=>zf true 30 e s fun g s =>
 zj 30 b g s fun _ s =>
 Z (zA (zae b s true 30) (some [])) s)
theorem zqp:F1 Tryz.prog zqh zub:=zg [] Tryz.func132 (by decide +kernel) (by kernel_rfl) fun {_ _ _ _}=>cast (by kernel_rfl)
def zxf (P:Program) (x0:AV) (σ:LO) (Z:ZT):Prop :=
 zaH x0 σ fun a s =>
 fl 0 a s fun b s =>
 cA P zoW [b] s fun c s =>
 bP .lss c (iN 0) s fun d s =>
 gFl d 1 a s fun e s =>
 gF d (bP .lss e (iN 1) s) s fun f s =>
 orC d f s fun g s =>
 gFl g 1 a s fun h s =>
 gF g (bP .gtr h (iN 9007199254740992) s) s fun i s =>
 orC g i s fun j s =>
 zi j (z1 Z (iN 80) s) (zb 2 a s fun l s =>
 zf true 5 l s fun m s =>
 cA P zmY [m] s fun n s =>
 z1 Z n s)
theorem zwn:F1 Tryz.prog zmW zxf:=zg [] Tryz.func133 (by decide +kernel) (by kernel_rfl) fun {_ _ _ _}=>cast (by kernel_rfl)
def zpS (P:Program) (x0:AV) (σ:LO) (Z:ZT):Prop :=
 zaH x0 σ fun a s =>
 fl 0 a s fun b s =>
 bP .lss b (iN 0) s fun c s =>
 gFl c 0 a s fun d s =>
 gF c (bP .geq d (iN 21) s) s fun e s =>
 orC c e s fun f s =>
 gFl f 1 a s fun g s =>
 gF f (bP .lss g (iN 1) s) s fun h s =>
 orC f h s fun i s =>
 gFl i 1 a s fun j s =>
 gF i (bP .gtr j (iN 9007199254740992) s) s fun l s =>
 orC i l s fun m s =>
 zi m (z1 Z (iN 81) s) (z1 Z (iN 0) s)
theorem zpt:F1 Tryz.prog zcm zpS:=zg [] Tryz.func134 (by decide +kernel) (by kernel_rfl) fun {_ _ _ _}=>cast (by kernel_rfl)
def zuP (P:Program) (x0 x1:AV) (σ:LO) (Z:ZT):Prop :=
 zG 1 1 eN x0 σ fun a s =>
 zaT [x1,a] s fun v s b =>
 zax v fun c v=>zax v fun d v=>bP .geq c (.d (.int .u64 128)) s fun e s =>
 zi e (bP .rem c (.d (.int .u64 128)) s fun f s =>
 zak (.int .u8) f s fun g s =>
 bP .add g (.d (.int .u8 128)) s fun h s =>
 m1 1 [(.d (.int .u8 0))] h s fun i s =>
 zG 1 1 d i s fun j s =>
 bP .quo c (.d (.int .u64 128)) s fun l s =>
 b [l,j] s) (zak (.int .u8) c s fun m s =>
 m1 1 [(.d (.int .u8 0))] m s fun n s =>
 zG 1 1 d n s fun o s =>
 z1 Z o s)
theorem zuz:F2 Tryz.prog zcw zuP:=zg [.l [1, 5] [(9, 11)]] Tryz.func135 (by decide +kernel) (by kernel_rfl) fun {_ _ _ _ _}=>cast (by kernel_rfl)
def zxg (P:Program) (x0:AV) (σ:LO) (Z:ZT):Prop :=
 zaH x0 σ fun a s =>
 zf true 7 a s fun b s =>
 cA P zmW [b] s fun c s =>
 bP .neq c (iN 0) s fun d s =>
 zi d (z2 Z eN c s) (fl 0 a s fun e s =>
 zak (.int .u64) e s fun f s =>
 cA P zcw [eN,f] s fun g s =>
 fl 1 a s fun h s =>
 zak (.int .u64) h s fun i s =>
 cA P zcw [g,i] s fun j s =>
 zb 2 a s fun l s =>
 zf true 5 l s fun m s =>
 cA P zvI [j,m] s fun n s =>
 z2 Z n (iN 0) s)
theorem zwo:F1 Tryz.prog zmX zxg:=zg [] Tryz.func136 (by decide +kernel) (by kernel_rfl) fun {_ _ _ _}=>cast (by kernel_rfl)
def zsV (P:Program) (x0 x1:AV) (σ:LO) (Z:ZT):Prop :=
 zaH x1 σ fun a s =>
 zf true 2 a s fun b s =>
 cA P zcm [b] s fun c s =>
 bP .neq c (iN 0) s fun d s =>
 zi d (z1 Z x0 s) (fl 0 a s fun e s =>
 zak (.int .u64) e s fun f s =>
 zb 1 a s fun g s =>
 zf false 1 g s fun h s =>
 zak (.int .u64) h s fun i s =>
 cA P zcw [x0,f] s fun j t =>
 zI g s t/\(cA P zcw [j,i] t fun l s =>
 z1 Z l s))
theorem zsx:F2 Tryz.prog zdA zsV:=zg [.d [(0, 4),(5, 3),(4, 1),(8, 2)] [(4,[14])]] Tryz.func137 (by decide +kernel) (by kernel_rfl) fun {_ _ _ _ _}=>cast (by kernel_rfl)
def zqY (P:Program) (x0 x1:AV) (σ:LO) (Z:ZT):Prop :=
 zal .sl x1 σ fun a s =>
 zak (.int .u64) a s fun b s =>
 cA P zcw [x0,b] s fun c s =>
 zG 1 1 c x1 s fun d s =>
 z1 Z d s
theorem zqL:F2 Tryz.prog zdE zqY:=zg [] Tryz.func138 (by decide +kernel) (by kernel_rfl) fun {_ _ _ _ _}=>cast (by kernel_rfl)
def zuR (P:Program) (x0:AV) (σ:LO) (Z:ZT):Prop :=
 zaH x0 σ fun a s =>
 fl 0 a s fun b s =>
 bP .eql b (iN 0) s fun c s =>
 gTl c 1 a s fun d s =>
 gT c (bP .eql d (iN 0) s) s fun e s =>
 anC c e s fun f s =>
 gTl f 2 a s fun g s =>
 gT f (zal .sl g s) s fun h s =>
 gT f (bP .eql h (iN 0) s) s fun i s =>
 anC f i s fun j s =>
 z1 Z j s
theorem zuB:F1 Tryz.prog zoY zuR:=zg [] Tryz.func139 (by decide +kernel) (by kernel_rfl) fun {_ _ _ _}=>cast (by kernel_rfl)
def zlG (P:Program) (x0 x1 x2 x3:AV) (σ:LO) (Z:ZT):Prop :=
 bP .geq x1 (iN 1) σ fun a s =>
 gTm a x1 s fun b s =>
 gT a (bP .leq b (iN 9007199254740992) s) s fun c s =>
 anC a c s fun d s =>
 gTm d x1 s fun e s =>
 gT d (bP .rem e (iN 4) s) s fun f s =>
 gT d (bP .eql f (iN 0) s) s fun g s =>
 anC d g s fun h s =>
 gTm h x2 s fun i s =>
 gT h (bP .geq i (iN 1) s) s fun j s =>
 anC h j s fun l s =>
 gTm l x2 s fun m s =>
 gT l (bP .leq m (iN 9007199254740992) s) s fun n s =>
 anC l n s fun o s =>
 gTm o x3 s fun p s =>
 gT o (bP .geq p (iN 0) s) s fun q s =>
 anC o q s fun r s =>
 gTm r x3 s fun u s =>
 gTm r x0 s fun w s =>
 gT r (zbZ w s) s fun y s =>
 gTl r 0 y s fun z s =>
 gT r (cA P zds [z] s) s fun A s =>
 gT r (bP .lss u A s) s fun B s =>
 anC r B s fun C s =>
 z1 Z C s
theorem zls:F4 Tryz.prog zhm zlG:=zg [] Tryz.func140 (by decide +kernel) (by kernel_rfl) fun {_ _ _ _ _ _ _}=>cast (by kernel_rfl)
def zdL (P:Program) (x0 x1:AV) (σ:LO) (Z:ZT):Prop :=
 zal .sl x0 σ fun a s =>
 zaT [(iN 0)] s fun v s b =>
 zax v fun c v=>bP .lss c a s fun d s =>
 zi d (il true 2 2 x0 c s fun e s =>
 zaj P x1 [dm e] s fun f s =>
 zi f (z1 Z c s) (bP .add c (iN 1) s fun g s =>
 b [g] s)) (z1 Z (iN (-1)) s)
theorem zdG:F2 Tryz.prog zcg zdL:=zg [.l [8] [(4, 2),(9, 10)]] Tryz.func141 (by decide +kernel) (by kernel_rfl) fun {_ _ _ _ _}=>cast (by kernel_rfl)
def zjE (P:Program) (x0 x1 x2:AV) (σ:LO) (Z:ZT):Prop :=
 zaH x0 σ fun a s =>
 zaH x1 s fun b s =>
 cA P zbC [x2] s fun c s =>
 bP .eql c (iN 0) s fun d s =>
 gTm d x2 s fun e s =>
 gT d (fun k=>k (.fn (.func zhG) [] [a,b]) s) s fun f s =>
 gT d (cA P zbJ [e,f] s) s fun g s =>
 gT d (unC .not g s) s fun h s =>
 anC d h s fun i s =>
 z1 Z i s
theorem zjw:F3 Tryz.prog zgq zjE:=zg [] Tryz.func142 (by decide +kernel) (by kernel_rfl) fun {_ _ _ _ _ _}=>cast (by kernel_rfl)
def zzg (P:Program) (x0:AV) (σ:LO) (Z:ZT):Prop :=
 zaH x0 σ fun a s =>
 fl 0 a s fun b s =>
 bP .eql b (iN 0) s fun c s =>
 gTl c 1 a s fun d s =>
 gT c (bP .eql d (iN 0) s) s fun e s =>
 anC c e s fun f s =>
 gTl f 2 a s fun g s =>
 gT f (zal .sl g s) s fun h s =>
 gT f (bP .eql h (iN 0) s) s fun i s =>
 anC f i s fun j s =>
 z1 Z j s
theorem zyu:F1 Tryz.prog zts zzg:=zg [] Tryz.func143 (by decide +kernel) (by kernel_rfl) fun {_ _ _ _}=>cast (by kernel_rfl)
def znY (P:Program) (x0 x1 x2 x3:AV) (σ:LO) (Z:ZT):Prop :=
 bP .geq x1 (iN 1) σ fun a s =>
 gTm a x1 s fun b s =>
 gT a (bP .leq b (iN 9007199254740992) s) s fun c s =>
 anC a c s fun d s =>
 gTm d x1 s fun e s =>
 gT d (bP .rem e (iN 4) s) s fun f s =>
 gT d (bP .eql f (iN 0) s) s fun g s =>
 anC d g s fun h s =>
 gTm h x2 s fun i s =>
 gT h (bP .geq i (iN 1) s) s fun j s =>
 anC h j s fun l s =>
 gTm l x2 s fun m s =>
 gT l (bP .leq m (iN 9007199254740992) s) s fun n s =>
 anC l n s fun o s =>
 gTm o x3 s fun p s =>
 gT o (bP .geq p (iN 0) s) s fun q s =>
 anC o q s fun r s =>
 gTm r x3 s fun u s =>
 gTm r x0 s fun w s =>
 gT r (zbZ w s) s fun y s =>
 gTl r 0 y s fun z s =>
 gT r (cA P zfj [z] s) s fun A s =>
 gT r (bP .lss u A s) s fun B s =>
 anC r B s fun C s =>
 z1 Z C s
theorem znC:F4 Tryz.prog zjj znY:=zg [] Tryz.func144 (by decide +kernel) (by kernel_rfl) fun {_ _ _ _ _ _ _}=>cast (by kernel_rfl)
def zob (P:Program) (x0 x1 x2:AV) (σ:LO) (Z:ZT):Prop :=
 cA P zcq [x2] σ fun a s =>
 bP .neq a (iN 0) s fun b s =>
 zi b (z1 Z bF s) (zaT [(iN 0)] s fun v s c =>
 zax v fun d v=>zal .sl x2 s fun e s =>
 bP .lss d e s fun f s =>
 zi f (il true 9 9 x2 d s fun g s =>
 cA P zrp [x0,x1,g] s fun h s =>
 unC .not h s fun i s =>
 zi i (z1 Z bF s) (bP .add d (iN 1) s fun j s =>
 c [j] s)) (z1 Z bT s))
theorem znF:F3 Tryz.prog zjm zob:=zg [.l [7] [(6, 1),(11, 14)]] Tryz.func145 (by decide +kernel) (by kernel_rfl) fun {_ _ _ _ _ _}=>cast (by kernel_rfl)
def zrc (P:Program) (σ:LO) (Z:ZT):Prop :=
 zT [iN 0,iN 0] σ fun a s =>
 zy (zP [iN 0,iN 0] [(1, 1,(iN 1))]) s fun b s =>
 zj 2 a b s fun _ s =>
 Z (zA (zae a s true 2) (some [])) s
theorem zqP:F0 Tryz.prog ziC zrc:=zg [] Tryz.func146 (by decide +kernel) (by kernel_rfl) fun {_ _ _}=>cast (by kernel_rfl)
def zoi (P:Program) (x0:AV) (σ:LO) (Z:ZT):Prop :=
 zl false 1 7 (zP (rep [iN 0] 7) [(0, 1,(iN 2)),(1, 1,(iN 3)),(2, 1,(iN 4)),(3, 1,(iN 5)),(4, 1,(iN 6)),(5, 1,(iN 8)),(6, 1,(iN 9))]) σ fun a s =>
 cA P zex [a,x0] s fun b s =>
 z1 Z b s
theorem znM:F1 Tryz.prog zei zoi:=zg [] Tryz.func147 (by decide +kernel) (by kernel_rfl) fun {_ _ _ _}=>cast (by kernel_rfl)
def zkW (P:Program) (x0:AV) (σ:LO) (Z:ZT):Prop :=
 zaH x0 σ fun a s =>
 zf true 30 a s fun b s =>
 cA P zfX [b] s fun c s =>
 bP .neq c (iN 0) s fun d s =>
 zi d (z2 Z eN c s) (zy (zP [eN] []) s fun e s =>
 zaH e s fun f s =>
 zf true 30 a s fun g s =>
 cA P zcn [f,g] s fun _ s =>
 (fun (i:LO->Prop)=>fl 0 a s fun n s =>
 bP .eql n (iN 7) s fun o s =>
 zi o (fl 13 a s fun p s =>
 zE none 8 p (iN 0) s fun q s =>
 zb 6 q s fun r s =>
 zf true 2 r s fun u s =>
 cA P zbe [f,u] s fun _ s =>
 i s) (fl 0 a s fun y s =>
 cA P zei [y] s fun z s =>
 zi z (zb 28 a s fun A s =>
 zf true 2 A s fun B s =>
 cA P zbe [f,B] s fun _ s =>
 i s) (i s)))
 (fun  s=>cA P zfE [f] s fun j s =>
 zc j 0 s fun l s =>
 zc j 1 s fun m s =>
 z2 Z l m s))
theorem zhw:F1 Tryz.prog zhn zkW:=zg [] Tryz.func148 (by decide +kernel) (by kernel_rfl) fun {_ _ _ _}=>cast (by kernel_rfl)
def zeA (P:Program) (x0 x1:AV) (σ:LO) (Z:ZT):Prop :=
 zaH x1 σ fun a s =>
 zbZ x0 s fun b s =>
 zb 0 b s fun c s =>
 fl 0 a s fun d s =>
 m1 1 [iN 0] d s fun e s =>
 cA P zam [c,e] s fun _ s =>
 fl 0 a s fun g s =>
 bP .eql g (iN 1) s fun h s =>
 zi h (fl 9 a s fun i s =>
 cA P zbO [x0,i] s fun _ s =>
 Z (some []) s) ((fun (l:AV->LO->Prop)=>bP .eql g (iN 2) s fun r2 s =>
 zi r2 (l r2 s) (bP .eql g (iN 3) s fun u2 s =>
 zi u2 (l u2 s) (bP .eql g (iN 4) s fun w2 s =>
 l w2 s)))
 (fun m s=>zi m (zbZ x0 s fun n s =>
 zb 0 n s fun o s =>
 fl 1 a s fun p s =>
 fl 2 a s fun q s =>
 fl 3 a s fun r s =>
 fl 4 a s fun u s =>
 zl false 1 4 (zP (rep [iN 0] 4) [(0, 1,p),(1, 1,q),(2, 1,r),(3, 1,u)]) s fun w s =>
 cA P zam [o,w] s fun _ s =>
 fl 0 a s fun z s =>
 bP .eql z (iN 2) s fun A s =>
 zi A (fl 9 a s fun B s =>
 cA P zbO [x0,B] s fun _ s =>
 Z (some []) s) (Z (some []) s)) (bP .eql g (iN 5) s fun D s =>
 zi D (zbZ x0 s fun E s =>
 zb 0 E s fun F s =>
 fl 1 a s fun G s =>
 fl 2 a s fun H s =>
 fl 5 a s fun I s =>
 fl 6 a s fun J s =>
 zl false 1 4 (zP (rep [iN 0] 4) [(0, 1,G),(1, 1,H),(2, 1,I),(3, 1,J)]) s fun K s =>
 cA P zam [F,K] s fun _ s =>
 zbZ x0 s fun M s =>
 zb 0 M s fun N s =>
 fl 0 N s fun O s =>
 zb 7 a s fun Q s =>
 zf true 2 Q s fun R s =>
 cA P zxz [O,R] s fun S s =>
 zbZ x0 s fun T s =>
 zb 0 T s fun U s =>
 zb 0 U s fun V s =>
 zj 1 V S s fun _ s =>
 Z (some []) s) (bP .eql g (iN 6) s fun X s =>
 zi X (zbZ x0 s fun Y s =>
 zb 0 Y s fun a0 s =>
 fl 1 a s fun b0 s =>
 fl 3 a s fun c0 s =>
 fl 4 a s fun d0 s =>
 zl false 1 3 (zP (rep [iN 0] 3) [(0, 1,b0),(1, 1,c0),(2, 1,d0)]) s fun e0 s =>
 cA P zam [a0,e0] s fun _ s =>
 Z (some []) s) (bP .eql g (iN 7) s fun g0 s =>
 zi g0 (fl 13 a s fun h0 s =>
 il true 8 8 h0 (iN 0) s fun i0 s =>
 cA P zen [x0,i0] s fun _ s =>
 Z (some []) s) (bP .eql g (iN 8) s fun l0 s =>
 zi l0 (zbZ x0 s fun m0 s =>
 zb 0 m0 s fun o0 s =>
 fl 1 a s fun p0 s =>
 fl 2 a s fun q0 s =>
 zl false 1 2 (zP (rep [iN 0] 2) [(0, 1,p0),(1, 1,q0)]) s fun r0 s =>
 cA P zam [o0,r0] s fun _ s =>
 zbZ x0 s fun w0 s =>
 zb 0 w0 s fun y0 s =>
 fl 13 a s fun z0 s =>
 zal .sl z0 s fun A0 s =>
 cA P zcr [y0,A0] s fun _ s =>
 fl 13 a s fun C0 s =>
 zal .sl C0 s fun D0 s =>
 zaT [(iN 0)] s fun v s E0 =>
 zax v fun F0 v=>bP .lss F0 D0 s fun G0 s =>
 zi G0 (il true 8 8 C0 F0 s fun H0 s =>
 cp [iN 0,iN 0,iN 0,iN 0,eN,eN,iN 0,iN 0] 8 H0 s fun I0 s =>
 zf true 8 I0 s fun J0 s =>
 cA P zfk [x0,J0] s fun _ s =>
 bP .add F0 (iN 1) s fun L0 s =>
 E0 [L0] s) (zbZ x0 s fun M0 s =>
 zb 0 M0 s fun N0 s =>
 fl 14 a s fun O0 s =>
 zal .sl O0 s fun Q0 s =>
 cA P zcr [N0,Q0] s fun _ s =>
 fl 14 a s fun S0 s =>
 zal .sl S0 s fun T0 s =>
 zaT [(iN 0)] s fun v s U0 =>
 zax v fun V0 v=>bP .lss V0 T0 s fun W0 s =>
 zi W0 (il true 5 5 S0 V0 s fun X0 s =>
 cp [iN 0,iN 0,eN,iN 0,iN 0] 5 X0 s fun Y0 s =>
 zbZ x0 s fun a1 s =>
 zb 0 a1 s fun b1 s =>
 fl 0 Y0 s fun c1 s =>
 fl 1 Y0 s fun d1 s =>
 zl false 1 2 (zP (rep [iN 0] 2) [(0, 1,c1),(1, 1,d1)]) s fun e1 s =>
 cA P zam [b1,e1] s fun _ s =>
 fl 2 Y0 s fun g1 s =>
 cA P zbO [x0,g1] s fun _ s =>
 zb 3 Y0 s fun i1 s =>
 zf true 2 i1 s fun j1 s =>
 cA P zbe [x0,j1] s fun _ s =>
 bP .add V0 (iN 1) s fun o1 s =>
 U0 [o1] s) (Z (some []) s))) (bP .eql g (iN 9) s fun p1 s =>
 zi p1 (zbZ x0 s fun q1 s =>
 zb 0 q1 s fun r1 s =>
 fl 1 a s fun u1 s =>
 fl 3 a s fun w1 s =>
 zl false 1 2 (zP (rep [iN 0] 2) [(0, 1,u1),(1, 1,w1)]) s fun y1 s =>
 cA P zam [r1,y1] s fun _ s =>
 Z (some []) s) (bP .eql g (iN 10) s fun B1 s =>
 zi B1 (zbZ x0 s fun C1 s =>
 zb 0 C1 s fun D1 s =>
 fl 1 a s fun E1 s =>
 m1 1 [iN 0] E1 s fun F1 s =>
 cA P zam [D1,F1] s fun _ s =>
 zb 10 a s fun H1 s =>
 zf true 3 H1 s fun I1 s =>
 cA P zdh [x0,I1] s fun _ s =>
 zbZ x0 s fun K1 s =>
 zb 0 K1 s fun L1 s =>
 fl 15 a s fun M1 s =>
 cA P zlm [L1,M1] s fun _ s =>
 Z (some []) s) (bP .eql g (iN 11) s fun O1 s =>
 zi O1 (zbZ x0 s fun Q1 s =>
 zb 0 Q1 s fun R1 s =>
 fl 5 a s fun S1 s =>
 m1 1 [iN 0] S1 s fun T1 s =>
 cA P zam [R1,T1] s fun _ s =>
 zbZ x0 s fun V1 s =>
 zb 0 V1 s fun W1 s =>
 fl 16 a s fun X1 s =>
 zak .toBytes X1 s fun Y1 s =>
 cA P zlm [W1,Y1] s fun _ s =>
 zbZ x0 s fun b2 s =>
 zb 0 b2 s fun c2 s =>
 fl 17 a s fun d2 s =>
 m1 1 [iN 0] d2 s fun e2 s =>
 cA P zam [c2,e2] s fun _ s =>
 Z (some []) s) (bP .eql g (iN 12) s fun g2 s =>
 zi g2 (zbZ x0 s fun h2 s =>
 zb 0 h2 s fun i2 s =>
 fl 1 a s fun j2 s =>
 m1 1 [iN 0] j2 s fun l2 s =>
 cA P zam [i2,l2] s fun _ s =>
 zb 18 a s fun o2 s =>
 zf true 10 o2 s fun p2 s =>
 cA P zor [x0,p2] s fun _ s =>
 Z (some []) s) (Z (some []) s)))))))))))
theorem zde:F2 Tryz.prog zcn zeA:=zg [.d [(0, 7)] [],.d [(0, 13)] [],.d [(0, 13)] [],.d [(0, 13)] [],.d [(0, 11)] [],.d [(0, 9)] [],.d [(0, 7)] [],.l [116] [(5, 1),(117, 7)],.d [(0, 7)] [],.l [134] [(7, 1),(135, 21)],.d [(0, 9)] [],.d [(0, 9)] [],.d [(0, 7)] [],.d [(0, 6)] [],.d [(0, 7)] [],.d [(0, 7)] [],.d [(0, 7)] [],.d [(0, 7)] []] Tryz.func149 (by decide +kernel) (by kernel_rfl) fun {_ _ _ _ _}=>cast (by kernel_rfl)
def zre (P:Program) (x0 x1:AV) (σ:LO) (Z:ZT):Prop :=
 cA P zpa [x1] σ fun a s =>
 zc a 0 s fun b s =>
 zc a 1 s fun c s =>
 cp [(.d (.int .u8 0)),(.d (.int .u8 0)),(.d (.int .u8 0)),(.d (.int .u8 0)),(.d (.int .u8 0)),(.d (.int .u8 0)),(.d (.int .u8 0)),(.d (.int .u8 0)),(.d (.int .u8 0)),(.d (.int .u8 0))] 10 b s fun d s =>
 zdb (.arr 10 1) d none (some c) none s fun e s =>
 cA P zfg [x0] s fun f s =>
 zG 1 1 f e s fun g s =>
 z1 Z g s
theorem zqR:F2 Tryz.prog zbE zre:=zg [.d [(0, 1),(2, 2),(1, 1),(4, 2)] []] Tryz.func150 (by decide +kernel) (by kernel_rfl) fun {_ _ _ _ _}=>cast (by kernel_rfl)
def zkS (P:Program) (x0:AV) (σ:LO) (Z:ZT):Prop :=
 zaH x0 σ fun a s =>
 zT [iN 0,iN 0,eN] s fun b s =>
 fl 2 a s fun c s =>
 cA P zbU [c] s fun d s =>
 zb 2 a s fun e s =>
 zj 1 e d s fun _ s =>
 zf true 3 a s fun g s =>
 zj 3 b g s fun _ s =>
 Z (zA (zae b s true 3) (some [])) s
theorem zkC:F1 Tryz.prog zdV zkS:=zg [] Tryz.func151 (by decide +kernel) (by kernel_rfl) fun {_ _ _ _}=>cast (by kernel_rfl)
def zdz (P:Program) (x0:AV) (σ:LO) (Z:ZT):Prop :=
 zaa false x0 σ fun a s =>
 zi a (z1 Z eN s) (zl true 8 0 (zP (rep [iN 0,iN 0,iN 0,iN 0,eN,eN,iN 0,iN 0] 0) []) s fun b s =>
 ziH 8 96 b x0 s fun c s =>
 z1 Z c s)
theorem zdy:F1 Tryz.prog zcl zdz:=zsn [] Tryz.func152 (by decide +kernel) (by kernel_rfl) fun {_ _ _ _}=>cast (by kernel_rfl)
def zea (P:Program) (x0:AV) (σ:LO) (Z:ZT):Prop :=
 zaa false x0 σ fun a s =>
 zi a (z1 Z eN s) (zl true 5 0 (zP (rep [iN 0,iN 0,eN,iN 0,iN 0] 0) []) s fun b s =>
 ziH 5 56 b x0 s fun c s =>
 z1 Z c s)
theorem zdZ:F1 Tryz.prog zcA zea:=zsn [] Tryz.func153 (by decide +kernel) (by kernel_rfl) fun {_ _ _ _}=>cast (by kernel_rfl)
def zhT (P:Program) (x0:AV) (σ:LO) (Z:ZT):Prop :=
 zaH x0 σ fun a s =>
 zT [iN 0,iN 0,iN 0,iN 0,eN,eN,iN 0,iN 0] s fun b s =>
 zb 2 a s fun c s =>
 zf true 3 c s fun d s =>
 zo P zdV [d] s fun e s =>
 zb 2 a s fun f s =>
 zj 3 f e s fun _ s =>
 fl 5 a s fun h s =>
 zo P zbQ [h] s fun i s =>
 zb 5 a s fun j s =>
 zj 1 j i s fun _ s =>
 fl 5 a s fun m s =>
 zal .sl m s fun n s =>
 zaT [(iN 0)] s fun v s o =>
 zax v fun p v=>bP .lss p n s fun q s =>
 zi q (zb 5 a s fun r s =>
 zf false 1 r s fun u s =>
 fl 5 a s fun w s =>
 zE none 7 w p s fun y s =>
 fl 5 y s fun z s =>
 zo P zbU [z] s fun A t =>
 zI r s t/\(zE none 7 u p t fun B s =>
 zb 5 B s fun C s =>
 zj 1 C A s fun _ s =>
 zb 5 a s fun E s =>
 zf false 1 E s fun F s =>
 fl 5 a s fun G s =>
 zE none 7 G p s fun H s =>
 fl 6 H s fun I s =>
 zo P zdS [I] s fun J t =>
 zI E s t/\(zE none 7 F p t fun K s =>
 zb 6 K s fun L s =>
 zj 1 L J s fun _ s =>
 bP .add p (iN 1) s fun N s =>
 o [N] s))) (zf true 8 a s fun O s =>
 zj 8 b O s fun _ s =>
 Z (zA (zae b s true 8) (some [])) s)
theorem zhJ:F1 Tryz.prog zfW zhT:=zsn [.l [15] [(3, 1),(16, 27)],.d [(0, 13)] [(9,[18])],.d [(0, 13)] [(9,[30])]] Tryz.func154 (by decide +kernel) (by kernel_rfl) fun {_ _ _ _}=>cast (by kernel_rfl)
def zdO (P:Program) (x0:AV) (σ:LO) (Z:ZT):Prop :=
 zaa false x0 σ fun a s =>
 zi a (z1 Z eN s) (zl false 5 0 (zP (rep [iN 0,iN 0,iN 0,iN 0,iN 0] 0) []) s fun b s =>
 zG 5 40 b x0 s fun c s =>
 z1 Z c s)
theorem zdJ:F1 Tryz.prog zcj zdO:=zg [] Tryz.func155 (by decide +kernel) (by kernel_rfl) fun {_ _ _ _}=>cast (by kernel_rfl)
def zdP (P:Program) (x0:AV) (σ:LO) (Z:ZT):Prop :=
 zaa false x0 σ fun a s =>
 zi a (z1 Z eN s) (zl false 1 0 (zP (rep [iN 0] 0) []) s fun b s =>
 zG 1 8 b x0 s fun c s =>
 z1 Z c s)
theorem zdK:F1 Tryz.prog zck zdP:=zg [] Tryz.func156 (by decide +kernel) (by kernel_rfl) fun {_ _ _ _}=>cast (by kernel_rfl)
def S_r11_num (P:Program) (x0:AV) (σ:LO) (Z:ZT):Prop :=
 bP .geq x0 (iN 0) σ fun a s =>
 gTm a x0 s fun b s =>
 gT a (bP .leq b (iN 9007199254740992) s) s fun c s =>
 anC a c s fun d s =>
 z1 Z d s
theorem e_r11_num:F1 Tryz.prog zmg S_r11_num:=zg [] Tryz.func157 (by decide +kernel) (by kernel_rfl) fun {_ _ _ _}=>cast (by kernel_rfl)
def zuL (P:Program) (x0:AV) (σ:LO) (Z:ZT):Prop :=
 bP .geq x0 (iN 2) σ fun a s =>
 gTm a x0 s fun b s =>
 gT a (bP .leq b (iN 9) s) s fun c s =>
 anC a c s fun d s =>
 gTm d x0 s fun e s =>
 gT d (bP .neq e (iN 7) s) s fun f s =>
 anC d f s fun g s =>
 z1 Z g s
theorem zuv:F1 Tryz.prog zoU zuL:=zg [] Tryz.func158 (by decide +kernel) (by kernel_rfl) fun {_ _ _ _}=>cast (by kernel_rfl)
def zrL (P:Program) (x0:AV) (σ:LO) (Z:ZT):Prop :=
 zaH x0 σ fun a s =>
 zf true 30 a s fun b s =>
 cA P zko [b] s fun c s =>
 bP .neq c (iN 0) s fun d s =>
 zi d (z2 Z eN c s) (zf true 30 a s fun e s =>
 cA P zmh [e] s fun f s =>
 zc f 0 s fun g s =>
 zc f 1 s fun h s =>
 (fun (i:AV->LO->Prop)=>fl 0 a s fun o s =>
 bP .eql o (iN 7) s fun p s =>
 zi p (fl 13 a s fun q s =>
 zE none 8 q (iN 0) s fun r s =>
 zb 6 r s fun u s =>
 zf true 2 u s fun w s =>
 cA P zdA [g,w] s fun y s =>
 i y s) (zi h (zb 28 a s fun z s =>
 zf true 2 z s fun A s =>
 cA P zdA [g,A] s fun B s =>
 i B s) (i g s)))
 (fun j s=>cA P zro [j,(iN 0)] s fun l s =>
 zc l 0 s fun m s =>
 zc l 1 s fun n s =>
 z2 Z m n s))
theorem znm:F1 Tryz.prog zmV zrL:=zg [] Tryz.func159 (by decide +kernel) (by kernel_rfl) fun {_ _ _ _}=>cast (by kernel_rfl)
def zuc (P:Program) (x0:AV) (σ:LO) (Z:ZT):Prop :=
 zaH x0 σ fun a s =>
 fl 0 a s fun b s =>
 m1 1 [iN 0] b s fun c s =>
 cA P zcv [eN,c] s fun d s =>
 fl 0 a s fun e s =>
 bP .eql e (iN 1) s fun f s =>
 zi f (fl 9 a s fun g s =>
 cA P zdD [d,g] s fun h s =>
 z2 Z h bF s) (bP .eql e (iN 2) s fun i s =>
 zi i (fl 1 a s fun j s =>
 fl 2 a s fun l s =>
 fl 3 a s fun m s =>
 fl 4 a s fun n s =>
 zl false 1 4 (zP (rep [iN 0] 4) [(0, 1,j),(1, 1,l),(2, 1,m),(3, 1,n)]) s fun o s =>
 zb 9 a s fun p s =>
 zf false 1 p s fun q s =>
 cA P zcv [d,o] s fun r t =>
 zI p s t/\(cA P zdD [r,q] t fun u s =>
 z2 Z u bT s)) ((fun (w:AV->LO->Prop)=>bP .eql e (iN 3) s fun N1 s =>
 zi N1 (w N1 s) (bP .eql e (iN 4) s fun O1 s =>
 w O1 s))
 (fun y s=>zi y (fl 1 a s fun z s =>
 fl 2 a s fun A s =>
 fl 3 a s fun B s =>
 fl 4 a s fun C s =>
 zl false 1 4 (zP (rep [iN 0] 4) [(0, 1,z),(1, 1,A),(2, 1,B),(3, 1,C)]) s fun D s =>
 cA P zcv [d,D] s fun E s =>
 z2 Z E bT s) (bP .eql e (iN 5) s fun F s =>
 zi F (fl 1 a s fun G s =>
 fl 2 a s fun H s =>
 fl 5 a s fun I s =>
 fl 6 a s fun J s =>
 zl false 1 4 (zP (rep [iN 0] 4) [(0, 1,G),(1, 1,H),(2, 1,I),(3, 1,J)]) s fun K s =>
 zb 7 a s fun L s =>
 zf true 2 L s fun M s =>
 cA P zcv [d,K] s fun N t =>
 zI L s t/\(cA P zvH [N,M] t fun O s =>
 z2 Z O bT s)) (bP .eql e (iN 6) s fun Q s =>
 zi Q (fl 1 a s fun R s =>
 fl 3 a s fun S s =>
 fl 4 a s fun T s =>
 zl false 1 3 (zP (rep [iN 0] 3) [(0, 1,R),(1, 1,S),(2, 1,T)]) s fun U s =>
 cA P zcv [d,U] s fun V s =>
 z2 Z V bT s) (bP .eql e (iN 7) s fun W s =>
 zi W (fl 13 a s fun X s =>
 il true 8 8 X (iN 0) s fun Y s =>
 cA P zjQ [d,Y] s fun a0 s =>
 z2 Z a0 bT s) (bP .eql e (iN 8) s fun b0 s =>
 zi b0 (fl 1 a s fun c0 s =>
 fl 2 a s fun d0 s =>
 fl 13 a s fun e0 s =>
 zal .sl e0 s fun f0 s =>
 zl false 1 3 (zP (rep [iN 0] 3) [(0, 1,c0),(1, 1,d0),(2, 1,f0)]) s fun g0 s =>
 cA P zcv [d,g0] s fun h0 s =>
 zaT [h0,(iN 0)] s fun v s i0 =>
 zax v fun j0 v=>zax v fun l0 v=>fl 13 a s fun m0 s =>
 zal .sl m0 s fun o0 s =>
 bP .lss l0 o0 s fun p0 s =>
 zi p0 (fl 13 a s fun q0 s =>
 il true 8 8 q0 l0 s fun r0 s =>
 cA P zkl [j0,r0] s fun u0 s =>
 bP .add l0 (iN 1) s fun w0 s =>
 i0 [u0,w0] s) (fl 14 a s fun y0 s =>
 zal .sl y0 s fun z0 s =>
 m1 1 [iN 0] z0 s fun A0 s =>
 cA P zcv [j0,A0] s fun B0 s =>
 zaT [B0,(iN 0)] s fun v s C0 =>
 zax v fun D0 v=>zax v fun E0 v=>fl 14 a s fun F0 s =>
 zal .sl F0 s fun G0 s =>
 bP .lss E0 G0 s fun H0 s =>
 zi H0 (fl 14 a s fun I0 s =>
 il true 5 5 I0 E0 s fun J0 s =>
 cp [iN 0,iN 0,eN,iN 0,iN 0] 5 J0 s fun K0 s =>
 fl 0 K0 s fun L0 s =>
 fl 1 K0 s fun M0 s =>
 zl false 1 2 (zP (rep [iN 0] 2) [(0, 1,L0),(1, 1,M0)]) s fun N0 s =>
 zb 2 K0 s fun O0 s =>
 zf false 1 O0 s fun Q0 s =>
 zb 3 K0 s fun R0 s =>
 zf true 2 R0 s fun S0 s =>
 cA P zcv [D0,N0] s fun T0 t =>
 zI O0 s t/\(zI R0 s t/\(cA P zdD [T0,Q0] t fun U0 s =>
 zI R0 t s/\(cA P zdA [U0,S0] s fun V0 s =>
 bP .add E0 (iN 1) s fun W0 s =>
 C0 [V0,W0] s)))) (z2 Z D0 bT s))) (bP .eql e (iN 9) s fun X0 s =>
 zi X0 (fl 1 a s fun Y0 s =>
 fl 3 a s fun a1 s =>
 zl false 1 2 (zP (rep [iN 0] 2) [(0, 1,Y0),(1, 1,a1)]) s fun b1 s =>
 cA P zcv [d,b1] s fun c1 s =>
 z2 Z c1 bT s) (bP .eql e (iN 10) s fun d1 s =>
 zi d1 (fl 1 a s fun e1 s =>
 m1 1 [iN 0] e1 s fun f1 s =>
 zb 10 a s fun g1 s =>
 zf true 3 g1 s fun h1 s =>
 zb 15 a s fun i1 s =>
 zf false 1 i1 s fun j1 s =>
 cA P zcv [d,f1] s fun l1 t =>
 zI g1 s t/\(zI i1 s t/\(cA P zjP [l1,h1] t fun o1 s =>
 zI i1 t s/\(cA P zdE [o1,j1] s fun p1 s =>
 z2 Z p1 bF s)))) (bP .eql e (iN 11) s fun q1 s =>
 zi q1 (fl 5 a s fun r1 s =>
 m1 1 [iN 0] r1 s fun u1 s =>
 zb 16 a s fun w1 s =>
 zf false 1 w1 s fun y1 s =>
 zak .toBytes y1 s fun A1 s =>
 zb 17 a s fun B1 s =>
 zf false 1 B1 s fun C1 s =>
 m1 1 [iN 0] C1 s fun D1 s =>
 cA P zcv [d,u1] s fun E1 t =>
 zI w1 s t/\(zI B1 s t/\(cA P zdE [E1,A1] t fun F1 s =>
 zI B1 t s/\(cA P zcv [F1,D1] s fun G1 s =>
 z2 Z G1 bF s)))) (fl 1 a s fun H1 s =>
 m1 1 [iN 0] H1 s fun I1 s =>
 zb 18 a s fun J1 s =>
 zf true 10 J1 s fun K1 s =>
 cA P zcv [d,I1] s fun L1 t =>
 zI J1 s t/\(cA P zxy [L1,K1] t fun M1 s =>
 z2 Z M1 bF s))))))))))))
theorem zqq:F1 Tryz.prog zmh zuc:=zg [.d [(0, 10),(11, 2),(10, 1),(13, 3)] [(10,[33])],.d [(0, 10),(11, 2),(10, 1),(13, 3)] [(10,[63])],.l [4, 5] [(97, 14)],.l [4, 6] [(7, 1),(117, 25)],.d [(0, 6),(7, 2),(10, 2),(6, 1),(9, 1),(12, 2)] [(6,[136, 139]),(9,[139])],.d [(0, 4),(5, 2),(8, 2),(4, 1),(7, 1),(10, 3)] [(4,[159, 162]),(7,[162])],.d [(0, 4),(5, 3),(9, 3),(4, 1),(8, 1),(12, 3)] [(4,[172, 176]),(8,[176])],.d [(0, 4),(5, 2),(4, 1),(7, 3)] [(4,[185])]] Tryz.func160 (by decide +kernel) (by kernel_rfl) fun {_ _ _ _}=>cast (by kernel_rfl)
def zlJ (P:Program) (x0 x1 x2 x3:AV) (σ:LO) (Z:ZT):Prop :=
 bP .lss x1 x2 σ fun a s =>
 gFm a x1 s fun b s =>
 gFm a x3 s fun c s =>
 gF a (bP .gtr b c s) s fun d s =>
 orC a d s fun e s =>
 zi e (cA P zW [x0,(iN 100)] s fun _ s =>
 Z (some []) s) (Z (some []) s)
theorem zlv:F4 Tryz.prog zaJ zlJ:=zg [] Tryz.func161 (by decide +kernel) (by kernel_rfl) fun {_ _ _ _ _ _ _}=>cast (by kernel_rfl)
def zjI (P:Program) (x0 x1:AV) (σ:LO) (Z:ZT):Prop :=
 nfl 0 x0 σ fun a s =>
 bP .eql a (iN 0) s fun b s =>
 zi b (zbZ x0 s fun c s =>
 zb 0 c s fun d s =>
 zj 1 d x1 s fun _ s =>
 Z (some []) s) (Z (some []) s)
theorem zjA:F2 Tryz.prog zW zjI:=zg [] Tryz.func162 (by decide +kernel) (by kernel_rfl) fun {_ _ _ _ _}=>cast (by kernel_rfl)
def zic (P:Program) (x0 x1:AV) (σ:LO) (Z:ZT):Prop :=
 cA P zaJ [x0,x1,(iN 0),(iN 12)] σ fun _ s =>
 Z (some []) s
theorem zhS:F2 Tryz.prog zaL zic:=zg [] Tryz.func164 (by decide +kernel) (by kernel_rfl) fun {_ _ _ _ _}=>cast (by kernel_rfl)
def zkU (P:Program) (x0 x1:AV) (σ:LO) (Z:ZT):Prop :=
 cA P zaJ [x0,x1,(iN 0),(iN 9007199254740992)] σ fun _ s =>
 Z (some []) s
theorem zkE:F2 Tryz.prog zaA zkU:=zg [] Tryz.func165 (by decide +kernel) (by kernel_rfl) fun {_ _ _ _ _}=>cast (by kernel_rfl)
def zkT (P:Program) (x0 x1:AV) (σ:LO) (Z:ZT):Prop :=
 cA P zaJ [x0,x1,(iN 1),(iN 9007199254740992)] σ fun _ s =>
 Z (some []) s
theorem zkD:F2 Tryz.prog zaM zkT:=zg [] Tryz.func166 (by decide +kernel) (by kernel_rfl) fun {_ _ _ _ _}=>cast (by kernel_rfl)
def zib (P:Program) (x0 x1:AV) (σ:LO) (Z:ZT):Prop :=
 zaH x1 σ fun a s =>
 fl 0 a s fun b s =>
 cA P zaM [x0,b] s fun _ s =>
 fl 1 a s fun d s =>
 cA P zaL [x0,d] s fun _ s =>
 zb 2 a s fun f s =>
 zf true 3 f s fun g s =>
 cA P zcJ [x0,g] s fun _ s =>
 fl 5 a s fun i s =>
 zal .sl i s fun j s =>
 cA P zbD [x0,j,(iN 8)] s fun _ s =>
 fl 5 a s fun m s =>
 zal .sl m s fun n s =>
 zaT [(iN 0)] s fun v s o =>
 zax v fun p v=>bP .lss p n s fun q s =>
 zi q (il true 7 7 m p s fun r s =>
 cp [iN 0,iN 0,iN 0,iN 0,iN 0,eN,eN] 7 r s fun u s =>
 zf true 7 u s fun w s =>
 cA P zeY [x0,w] s fun _ s =>
 bP .add p (iN 1) s fun z s =>
 o [z] s) (zb 6 a s fun A s =>
 zf true 2 A s fun B s =>
 cA P zbI [B] s fun C s =>
 cA P zW [x0,C] s fun _ s =>
 Z (some []) s)
theorem zhR:F2 Tryz.prog zec zib:=zg [.l [26] [(5, 1),(27, 7)]] Tryz.func167 (by decide +kernel) (by kernel_rfl) fun {_ _ _ _ _}=>cast (by kernel_rfl)
def zhB (P:Program) (x0 x1:AV) (σ:LO) (Z:ZT):Prop :=
 zaH x1 σ fun a s =>
 fl 1 a s fun b s =>
 cA P zaL [x0,b] s fun _ s =>
 fl 2 a s fun d s =>
 cA P zaM [x0,d] s fun _ s =>
 fl 13 a s fun f s =>
 zal .sl f s fun g s =>
 cA P zbD [x0,g,(iN 13)] s fun _ s =>
 fl 13 a s fun i s =>
 zal .sl i s fun j s =>
 zaT [(iN 0)] s fun v s l =>
 zax v fun m v=>bP .lss m j s fun n s =>
 zi n (il true 8 8 i m s fun o s =>
 cp [iN 0,iN 0,iN 0,iN 0,eN,eN,iN 0,iN 0] 8 o s fun p s =>
 zf true 8 p s fun q s =>
 cA P zec [x0,q] s fun _ s =>
 bP .add m (iN 1) s fun u s =>
 l [u] s) (fl 14 a s fun w s =>
 zal .sl w s fun y s =>
 cA P zbD [x0,y,(iN 8)] s fun _ s =>
 fl 14 a s fun A s =>
 zal .sl A s fun B s =>
 zaT [(iN 0)] s fun v s C =>
 zax v fun D v=>bP .lss D B s fun E s =>
 zi E (il true 5 5 A D s fun F s =>
 cp [iN 0,iN 0,eN,iN 0,iN 0] 5 F s fun G s =>
 fl 0 G s fun H s =>
 cA P zaA [x0,H] s fun _ s =>
 fl 1 G s fun J s =>
 cA P zaM [x0,J] s fun _ s =>
 fl 2 G s fun L s =>
 cA P zbC [L] s fun M s =>
 cA P zW [x0,M] s fun _ s =>
 zb 3 G s fun O s =>
 zf true 2 O s fun Q s =>
 cA P zbI [Q] s fun R s =>
 cA P zW [x0,R] s fun _ s =>
 bP .add D (iN 1) s fun T s =>
 C [T] s) (Z (some []) s))
theorem zhu:F2 Tryz.prog zfm zhB:=zg [.l [24] [(5, 1),(25, 7)],.l [40] [(7, 1),(41, 22)]] Tryz.func168 (by decide +kernel) (by kernel_rfl) fun {_ _ _ _ _}=>cast (by kernel_rfl)
def zjK (P:Program) (x0 x1:AV) (σ:LO) (Z:ZT):Prop :=
 zaH x1 σ fun a s =>
 fl 0 a s fun b s =>
 cA P zaA [x0,b] s fun _ s =>
 fl 1 a s fun d s =>
 cA P zaA [x0,d] s fun _ s =>
 (fun (f:LO->Prop)=>fl 0 a s fun i s =>
 bP .eql i (iN 0) s fun j s =>
 fl 1 a s fun l s =>
 bP .eql l (iN 0) s fun m s =>
 zcB .neq .bool j m s fun n s =>
 gFl n 0 a s fun o s =>
 gF n (bP .eql o (iN 0) s) s fun p s =>
 gFm n p s fun q s =>
 gTl q 2 a s fun r s =>
 gT q (zal .sl r s) s fun u s =>
 gT q (bP .gtr u (iN 0) s) s fun w s =>
 gF n (anC q w s) s fun y s =>
 orC n y s fun z s =>
 zi z (cA P zW [x0,(iN 100)] s fun _ s =>
 f s) (f s))
 (fun  s=>fl 2 a s fun g s =>
 cA P zbf [x0,g] s fun _ s =>
 Z (some []) s)
theorem zjC:F2 Tryz.prog zcJ zjK:=zg [] Tryz.func169 (by decide +kernel) (by kernel_rfl) fun {_ _ _ _ _}=>cast (by kernel_rfl)
def zjJ (P:Program) (x0 x1 x2:AV) (σ:LO) (Z:ZT):Prop :=
 cA P zaJ [x0,x1,(iN 0),x2] σ fun _ s =>
 Z (some []) s
theorem zjB:F3 Tryz.prog zbD zjJ:=zg [] Tryz.func170 (by decide +kernel) (by kernel_rfl) fun {_ _ _ _ _ _}=>cast (by kernel_rfl)
def zoj (P:Program) (x0:AV) (σ:LO) (Z:ZT):Prop :=
 zaH x0 σ fun a s =>
 zT [iN 0,iN 0,iN 0,iN 0,iN 0,iN 0,iN 0,iN 0,iN 0,iN 0,(.d (.str [])),iN 0,iN 0] s fun b s =>
 fl 0 a s fun c s =>
 fl 1 a s fun d s =>
 fl 5 a s fun e s =>
 fl 2 a s fun f s =>
 fl 3 a s fun g s =>
 fl 6 a s fun h s =>
 fl 17 a s fun i s =>
 fl 4 a s fun j s =>
 zb 7 a s fun l s =>
 zf true 2 l s fun m s =>
 fl 16 a s fun n s =>
 zb 28 a s fun o s =>
 zf true 2 o s fun p s =>
 zy (zP [iN 0,iN 0,iN 0,iN 0,iN 0,iN 0,iN 0,iN 0,iN 0,iN 0,(.d (.str [])),iN 0,iN 0] [(0, 1,c),(1, 1,d),(2, 1,e),(3, 1,f),(4, 1,g),(5, 1,h),(6, 1,i),(7, 1,j),(8, 2,m),(10, 1,n),(11, 2,p)]) s fun q s =>
 zj 13 b q s fun _ s =>
 Z (zA (zae b s true 13) (some [])) s
theorem znN:F1 Tryz.prog zgC zoj:=zg [] Tryz.func173 (by decide +kernel) (by kernel_rfl) fun {_ _ _ _}=>cast (by kernel_rfl)
def zlI (P:Program) (x0 x1:AV) (σ:LO) (Z:ZT):Prop :=
 zaH x0 σ fun a s =>
 zaH x1 s fun b s =>
 fl 0 a s fun c s =>
 fl 0 b s fun d s =>
 bP .eql c d s fun e s =>
 gTl e 1 a s fun f s =>
 gTl e 1 b s fun g s =>
 gT e (bP .eql f g s) s fun h s =>
 anC e h s fun i s =>
 gTl i 2 a s fun j s =>
 gTl i 2 b s fun l s =>
 gT i (cA P zbT [j,l] s) s fun m s =>
 anC i m s fun n s =>
 z1 Z n s
theorem zlu:F2 Tryz.prog zeo zlI:=zg [] Tryz.func174 (by decide +kernel) (by kernel_rfl) fun {_ _ _ _ _}=>cast (by kernel_rfl)
def zbl (P:Program) (x0 x1 x2:AV) (σ:LO) (Z:ZT):Prop :=
 zal .sl x0 σ fun a s =>
 zal .sl x1 s fun b s =>
 bP .neq a b s fun c s =>
 zi c (z1 Z bF s) (zal .sl x0 s fun d s =>
 zaT [(iN 0)] s fun v s e =>
 zax v fun f v=>bP .lss f d s fun g s =>
 zi g (il true 8 8 x0 f s fun h s =>
 zT [iN 0,iN 0,iN 0,iN 0,eN,eN,iN 0,iN 0] s fun i s =>
 zj 8 i h s fun _ s =>
 il true 8 8 x1 f s fun l s =>
 cp [iN 0,iN 0,iN 0,iN 0,eN,eN,iN 0,iN 0] 8 l s fun m s =>
 zf true 8 i s fun n s =>
 zf true 8 m s fun o s =>
 zaj P x2 [dm n,dm o] s fun p s =>
 unC .not p s fun q s =>
 zi q (z1 Z bF s) (bP .add f (iN 1) s fun r s =>
 e [r] s)) (z1 Z bT s))
theorem zbi:F3 Tryz.prog zaC zbl:=zg [.l [17] [(6, 4),(18, 14)]] Tryz.func175 (by decide +kernel) (by kernel_rfl) fun {_ _ _ _ _ _}=>cast (by kernel_rfl)
def zjH (P:Program) (x0 x1:AV) (σ:LO) (Z:ZT):Prop :=
 zaH x0 σ fun a s =>
 zaH x1 s fun b s =>
 fl 0 a s fun c s =>
 fl 0 b s fun d s =>
 bP .eql c d s fun e s =>
 gTl e 1 a s fun f s =>
 gTl e 1 b s fun g s =>
 gT e (bP .eql f g s) s fun h s =>
 anC e h s fun i s =>
 gT i (zb 2 a s) s fun j s =>
 gT i (zf true 3 j s) s fun l s =>
 gT i (zb 2 b s) s fun m s =>
 gT i (zf true 3 m s) s fun n s =>
 gT i (cA P zeo [l,n] s) s fun o s =>
 anC i o s fun p s =>
 gTl p 5 a s fun q s =>
 gTl p 5 b s fun r s =>
 gT p (cA P zau [q,r,(.fn (.func zeb) [] [])] s) s fun u s =>
 anC p u s fun w s =>
 gT w (zb 6 a s) s fun y s =>
 gT w (zf true 2 y s) s fun z s =>
 gT w (zb 6 b s) s fun A s =>
 gT w (zf true 2 A s) s fun B s =>
 gT w (zcB .eql (.ints 2) z B s) s fun C s =>
 anC w C s fun D s =>
 z1 Z D s
theorem zjz:F2 Tryz.prog zeT zjH:=zg [] Tryz.func176 (by decide +kernel) (by kernel_rfl) fun {_ _ _ _ _}=>cast (by kernel_rfl)
def zbG (P:Program) (x0 x1 x2:AV) (σ:LO) (Z:ZT):Prop :=
 zal .sl x0 σ fun a s =>
 zal .sl x1 s fun b s =>
 bP .neq a b s fun c s =>
 zi c (z1 Z bF s) (zal .sl x0 s fun d s =>
 zaT [(iN 0)] s fun v s e =>
 zax v fun f v=>bP .lss f d s fun g s =>
 zi g (il true 5 5 x0 f s fun h s =>
 zT [iN 0,iN 0,eN,iN 0,iN 0] s fun i s =>
 zj 5 i h s fun _ s =>
 il true 5 5 x1 f s fun l s =>
 cp [iN 0,iN 0,eN,iN 0,iN 0] 5 l s fun m s =>
 zf true 5 i s fun n s =>
 zf true 5 m s fun o s =>
 zaj P x2 [dm n,dm o] s fun p s =>
 unC .not p s fun q s =>
 zi q (z1 Z bF s) (bP .add f (iN 1) s fun r s =>
 e [r] s)) (z1 Z bT s))
theorem zbF:F3 Tryz.prog zaF zbG:=zg [.l [17] [(6, 4),(18, 14)]] Tryz.func177 (by decide +kernel) (by kernel_rfl) fun {_ _ _ _ _ _}=>cast (by kernel_rfl)
end Go.Proofs.YtpgahkdjkanblaaGreat
