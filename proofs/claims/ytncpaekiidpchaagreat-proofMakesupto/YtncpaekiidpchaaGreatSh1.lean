/- The conditions of each function, its slots as variables, and that the logic's conditions are these. Printed by program. -/
import Derived.Test.YtncpaekiidpchaaGreatNm
import Derived.KernelRfl
set_option linter.all false
set_option maxRecDepth 100000
namespace Go.Proofs.YtncpaekiidpchaaGreat
open Go.AW
def zke (P : Program) (x0 x1 x2 : AV) (σ : LO) (Z : ZT) : Prop :=
 zaX x0 σ fun a s =>
 zaX x2 s fun b s =>
 cA P zoM [] s fun c s =>
 unC .not c s fun d s =>
 zy d (z1 Z bF s) (zp true 7 a s fun e s =>
 cA P zcB [e] s fun f s =>
 ze f 0 s fun g s =>
 ze f 1 s fun h s =>
 unC .not h s fun i s =>
 zy i (z1 Z bF s) (nfl 4 g s fun j s =>
 zt 7 88 eN j s fun l s =>
 zt 7 88 l x1 s fun m s =>
 zp true 3 b s fun n s =>
 m1 3 [iN 0,iN 0,eN] n s fun o s =>
 nfl 5 g s fun p s =>
 zt 3 40 o p s fun q s =>
 zap .sl q s fun r s =>
 zbf [(iN 0)] s fun v s u =>
 zaA v fun w v => bP .lss w r s fun y s =>
 zy y (il true 3 3 q w s fun z s =>
 cp [iN 0,iN 0,eN] 3 z s fun A s =>
 zbg g s fun B s =>
 zi 0 B s fun C s =>
 zp false 1 C s fun D s =>
 zp true 3 A s fun E s =>
 zi 4 a s fun F s =>
 zp false 1 F s fun G s =>
 zi 5 a s fun H s =>
 zp false 1 H s fun I s =>
 (fun (J : AV → AV → LO → Prop) => (cA P zeE [D,m,E,G,I] s fun B0 s =>
 ze B0 0 s fun C0 s =>
 ze B0 1 s fun D0 s =>
 cp [(.d (.str [])),iN 0,eN,eN,iN 0,iN 0,eN,iN 0,iN 0,eN] 10 C0 s fun E0 s =>
 J E0 D0 s) ∧
 (zP [(.d (.str [])),iN 0,eN,eN,iN 0,iN 0,eN,iN 0,iN 0,eN] s fun F0 t =>
 zU C s t ∧ (zU A s t ∧ (zU F s t ∧ (zU H s t ∧ (cA P zeE [D,m,E,G,I] t fun G0 s =>
 ze G0 0 s fun H0 s =>
 ze G0 1 s fun I0 s =>
 zm 10 F0 H0 s fun _ s =>
 J F0 I0 s))))))
 (fun K L s => zbg g s fun M s =>
 zi 2 M s fun N s =>
 zp false 1 N s fun O s =>
 zp true 3 A s fun Q s =>
 zi 4 a s fun R s =>
 zp false 1 R s fun S s =>
 zi 5 a s fun T s =>
 zp false 1 T s fun U s =>
 (fun (V : AV → AV → LO → Prop) => (cA P zlz [O,m,Q,S,U] s fun o0 s =>
 ze o0 0 s fun p0 s =>
 ze o0 1 s fun q0 s =>
 cp [(.d (.str [])),iN 0,eN,eN,iN 0,iN 0,eN,iN 0,iN 0,eN] 10 p0 s fun r0 s =>
 V r0 q0 s) ∧
 (zP [(.d (.str [])),iN 0,eN,eN,iN 0,iN 0,eN,iN 0,iN 0,eN] s fun u0 t =>
 zU N s t ∧ (zU A s t ∧ (zU R s t ∧ (zU T s t ∧ (cA P zlz [O,m,Q,S,U] t fun w0 s =>
 ze w0 0 s fun y0 s =>
 ze w0 1 s fun z0 s =>
 zm 10 u0 y0 s fun _ s =>
 V u0 z0 s))))))
 (fun W X s => bP .neq L X s fun Y s =>
 gF Y (zp true 10 K s) s fun a0 s =>
 gF Y (zp true 10 W s) s fun b0 s =>
 gF Y (cA P zoL [a0,b0] s) s fun c0 s =>
 gF Y (unC .not c0 s) s fun d0 s =>
 orC Y d0 s fun e0 s =>
 gF e0 (zp true 10 K s) s fun f0 s =>
 gF e0 (zp true 10 W s) s fun g0 s =>
 gF e0 (cA P zjx [f0] s) s fun h0 t =>
 zU W s t ∧ (gF e0 (cA P zmG [g0] t) t fun i0 s =>
 gF e0 (bP .neq h0 i0 s) s fun j0 s =>
 orC e0 j0 s fun l0 s =>
 zy l0 (z1 Z bF s) (bP .add w (iN 1) s fun m0 s =>
 u [m0] s))))) (nfl 0 g s fun K0 s =>
 zbg g s fun L0 s =>
 zi 2 L0 s fun M0 s =>
 zp false 1 M0 s fun N0 s =>
 zbg N0 s fun O0 s =>
 zi 0 O0 s fun Q0 s =>
 zp false 1 Q0 s fun R0 s =>
 zap .sl R0 s fun S0 s =>
 cA P zdS [K0] s fun T0 t =>
 zU M0 s t ∧ (zU Q0 s t ∧ (bP .eql T0 S0 t fun U0 s =>
 z1 Z U0 s)))))
theorem zjR : F3 Tryz.prog zge zke := zo [.d [(0, 6),(8, 1),(6, 2)] [], .l [40] [(6, 1),(11, 5),(41, 48)], .dd [(0, []),(1, []),(2, []),(3, []),(4, []),(5, []),(6, []),(7, []),(8, []),(9, []),(10, []),(11, []),(12, []),(13, []),(14, []),(15, []),(16, []),(14, [47, 11, 51, 53]),(10, []),(11, []),(12, []),(13, []),(15, []),(16, [])] [10, 14, 10, 0, 1, 3, 7, 0, 0, 0, 64, 0, 256, 1023, 2047, 4095, 4095, 2047, 24575, 65535, 0, 1, 3, 7, 0, 0, 0, 64, 0, 256, 17407, 18431, 20479, 20479, 0, 24575, 65535], .dd [(0, []),(1, []),(2, []),(3, []),(4, []),(5, []),(6, []),(7, []),(8, []),(9, []),(10, []),(11, []),(12, []),(13, []),(14, []),(15, []),(16, []),(14, [61, 11, 65, 67]),(10, []),(11, []),(12, []),(13, []),(15, []),(16, [])] [10, 14, 10, 0, 1, 3, 7, 0, 0, 0, 64, 0, 256, 1023, 2047, 4095, 4095, 2047, 24575, 65535, 0, 1, 3, 7, 0, 0, 0, 64, 0, 256, 17407, 18431, 20479, 20479, 0, 24575, 65535], .d [(0, 11),(12, 1),(11, 1),(13, 3)] [(11, [14])], .d [(0, 4),(5, 8),(4, 1),(13, 2)] [(4, [96, 99])]] Tryz.func5 (by decide +kernel) (by kernel_rfl) fun {_ _ _ _ _ _} => cast (by kernel_rfl)
def zue (P : Program) (σ : LO) (Z : ZT) : Prop :=
 zC (zV [iN 0,(.d (.str [])),(.d (.str [])),iN 0,eN] [(0, 1,(iN 1)),(1, 1,(.d (.str [116])))]) σ fun a s =>
 zC (zV [iN 0,iN 0,iN 0,(.d (.str [])),(.d (.str [])),iN 0,eN] [(1, 1,(iN 1)),(2, 5,a)]) s fun b s =>
 m1 7 [iN 0,iN 0,iN 0,(.d (.str [])),(.d (.str [])),iN 0,eN] b s fun c s =>
 zaa P (.fn (.func zhP) [] []) [dm (iN 2),dm (.d (.int .u8 7))] s fun d s =>
 zaa P (.fn (.func zhP) [] []) [dm (iN 3),dm (.d (.int .u8 8))] s fun e s =>
 zr false 1 4 (zV (rep [eN] 4) [(0, 1,c),(1, 1,d),(2, 1,e),(3, 1,eN)]) s fun f s =>
 zC (zV [iN 0,eN,(.d (.int .u16 0)),eN,(.d (.str [])),iN 0,eN] [(0, 1,(iN 1)),(1, 1,f),(2, 1,(.d (.int .u16 7)))]) s fun g s =>
 cp [iN 0,eN,(.d (.int .u16 0)),eN,(.d (.str [])),iN 0,eN] 7 g s fun h s =>
 zp true 7 h s fun i s =>
 cA P zcB [i] s fun j s =>
 ze j 0 s fun l s =>
 ze j 1 s fun m s =>
 unC .not m s fun n s =>
 gFm n l s fun o s =>
 gF n (zbg o s) s fun p s =>
 gFl n 4 p s fun q s =>
 gF n (zap .sl q s) s fun r s =>
 gF n (bP .neq r (iN 4) s) s fun u s =>
 orC n u s fun w s =>
 gFm w l s fun y s =>
 gF w (zbg y s) s fun z s =>
 gFl w 5 z s fun A s =>
 gF w (zap .sl A s) s fun B s =>
 gF w (bP .neq B (iN 1) s) s fun C s =>
 orC w C s fun D s =>
 zy D (z1 Z bF s) (zbg l s fun E s =>
 zi 0 E s fun F s =>
 zp false 1 F s fun G s =>
 zbg l s fun H s =>
 zi 4 H s fun I s =>
 zp false 1 I s fun J s =>
 zbg l s fun K s =>
 zi 5 K s fun L s =>
 zp false 1 L s fun M s =>
 zB none 3 M (iN 0) s fun N s =>
 zp true 3 N s fun O s =>
 (fun (Q : AV → AV → LO → Prop) => (cA P zeE [G,J,O,(.d (.str [116])),(iN 0)] s fun o1 s =>
 ze o1 0 s fun p1 s =>
 ze o1 1 s fun q1 s =>
 cp [(.d (.str [])),iN 0,eN,eN,iN 0,iN 0,eN,iN 0,iN 0,eN] 10 p1 s fun r1 s =>
 Q r1 q1 s) ∧
 (zP [(.d (.str [])),iN 0,eN,eN,iN 0,iN 0,eN,iN 0,iN 0,eN] s fun u1 t =>
 zU F s t ∧ (zU I s t ∧ (zU L s t ∧ (zU N s t ∧ (cA P zeE [G,J,O,(.d (.str [116])),(iN 0)] t fun w1 s =>
 ze w1 0 s fun y1 s =>
 ze w1 1 s fun A1 s =>
 zm 10 u1 y1 s fun _ s =>
 Q u1 A1 s))))))
 (fun R S s => bP .eql S (iN 0) s fun T s =>
 gTl T 3 R s fun U s =>
 gT T (zap .sl U s) s fun V s =>
 gT T (bP .eql V (iN 3) s) s fun W s =>
 anC T W s fun X s =>
 gTm X l s fun Y s =>
 gT X (zbg Y s) s fun a0 s =>
 gTl X 0 a0 s fun b0 s =>
 gTm X l s fun c0 s =>
 gT X (zbg c0 s) s fun d0 s =>
 gTl X 1 d0 s fun e0 s =>
 gT X (zp true 10 R s) s fun f0 s =>
 gT X (cA P zdA [b0,e0,(iN 1),f0] s) s fun g0 s =>
 gT X (bP .eql g0 (iN 0) s) s fun h0 s =>
 anC X h0 s fun i0 s =>
 gTm i0 l s fun j0 s =>
 gT i0 (zbg j0 s) s fun l0 s =>
 gT i0 (zi 0 l0 s) s fun m0 s =>
 gT i0 (zp false 1 m0 s) s fun o0 s =>
 gTm i0 l s fun p0 s =>
 gT i0 (zbg p0 s) s fun q0 s =>
 gT i0 (zi 1 q0 s) s fun r0 s =>
 gT i0 (zp false 1 r0 s) s fun u0 s =>
 gT i0 (zp true 10 R s) s fun w0 s =>
 gT i0 (m1 1 [(.d (.int .u8 0))] (.d (.int .u8 9)) s) s fun y0 s =>
 gT i0 (zC (zV [iN 0,iN 0,iN 0,eN] [(0, 1,(iN 1)),(3, 1,y0)]) s) s fun z0 s =>
 gT i0 (m1 4 [iN 0,iN 0,iN 0,eN] z0 s) s fun A0 s =>
 gT i0 (cA P zfP [w0,A0] s) s fun B0 t =>
 zU m0 s t ∧ (zU r0 s t ∧ (gT i0 (cA P zdA [o0,u0,(iN 1),B0] t) t fun C0 s =>
 gT i0 (bP .eql C0 (iN 232) s) s fun D0 s =>
 anC i0 D0 s fun E0 s =>
 gTm E0 l s fun F0 s =>
 gT E0 (zbg F0 s) s fun G0 s =>
 gT E0 (zi 0 G0 s) s fun H0 s =>
 gT E0 (zp false 1 H0 s) s fun I0 s =>
 gTm E0 l s fun J0 s =>
 gT E0 (zbg J0 s) s fun K0 s =>
 gT E0 (zi 1 K0 s) s fun L0 s =>
 gT E0 (zp false 1 L0 s) s fun M0 s =>
 gT E0 (zp true 10 R s) s fun N0 s =>
 gT E0 (zC (zV [iN 0,iN 0,iN 0,eN] [(0, 1,(iN 7))]) s) s fun O0 s =>
 gT E0 (m1 4 [iN 0,iN 0,iN 0,eN] O0 s) s fun Q0 s =>
 gT E0 (cA P zfP [N0,Q0] s) s fun R0 t =>
 zU H0 s t ∧ (zU L0 s t ∧ (gT E0 (cA P zdA [I0,M0,(iN 1),R0] t) t fun S0 s =>
 gT E0 (bP .eql S0 (iN 230) s) s fun T0 s =>
 anC E0 T0 s fun U0 s =>
 gTm U0 l s fun V0 s =>
 gT U0 (zbg V0 s) s fun W0 s =>
 gT U0 (zi 0 W0 s) s fun X0 s =>
 gT U0 (zp false 1 X0 s) s fun Y0 s =>
 gTm U0 l s fun a1 s =>
 gT U0 (zbg a1 s) s fun b1 s =>
 gT U0 (zi 1 b1 s) s fun c1 s =>
 gT U0 (zp false 1 c1 s) s fun d1 s =>
 gT U0 (zp true 10 R s) s fun e1 s =>
 gT U0 (zC (zV [iN 0,iN 0,iN 0,eN] [(0, 1,(iN 9))]) s) s fun f1 s =>
 gT U0 (m1 4 [iN 0,iN 0,iN 0,eN] f1 s) s fun g1 s =>
 gT U0 (cA P zfP [e1,g1] s) s fun h1 t =>
 zU X0 s t ∧ (zU c1 s t ∧ (gT U0 (cA P zdA [Y0,d1,(iN 1),h1] t) t fun i1 s =>
 gT U0 (bP .eql i1 (iN 231) s) s fun j1 s =>
 anC U0 j1 s fun l1 s =>
 z1 Z l1 s))))))))
theorem ztr : F0 Tryz.prog zoM zue := zo [.dd [(0, []),(1, []),(2, []),(3, []),(4, []),(5, []),(6, []),(7, []),(8, []),(9, []),(10, []),(11, []),(12, []),(13, []),(14, []),(15, []),(16, []),(17, []),(18, []),(19, []),(20, []),(18, [42, 46, 50, 52]),(14, []),(15, []),(16, []),(17, []),(19, []),(20, [])] [14, 18, 14, 0, 1, 3, 7, 0, 16, 48, 112, 0, 256, 768, 1792, 3840, 7936, 16383, 32767, 65535, 65535, 32767, 393215, 1048575, 0, 1, 3, 7, 0, 16, 48, 112, 0, 256, 768, 1792, 3840, 7936, 278527, 294911, 327679, 327679, 0, 393215, 1048575], .d [(0, 71)] [(34, [81, 85]),(50, [98, 102]),(66, [114, 118])]] Tryz.func8 (by decide +kernel) (by kernel_rfl) fun {_ _ _} => cast (by kernel_rfl)
def zkf (P : Program) (x0 : AV) (σ : LO) (Z : ZT) : Prop :=
 zaX x0 σ fun a s =>
 zC (zV [eN] []) s fun b s =>
 zaX b s fun c s =>
 zC (zV [eN] []) s fun d s =>
 zaX d s fun e s =>
 cA P zet [] s fun f s =>
 cA P zdT [] s fun g s =>
 zC (zV [(.d .nilp),(.d .nilp),(.d .nilp),(.d .nilp),eN,eN] [(2, 1,c),(3, 1,e),(0, 1,f),(1, 1,g)]) s fun h s =>
 zaX h s fun i s =>
 nfl 2 i s fun j s =>
 cA P zjr [j] s fun l s =>
 ze l 0 s fun m s =>
 ze l 1 s fun _ s =>
 cp [iN 0,iN 0,iN 0,iN 0,iN 0] 5 m s fun o s =>
 zC (zV [eN,iN 0,iN 0,iN 0,iN 0,iN 0,iN 0,iN 0,iN 0,iN 0,iN 0,iN 0,iN 0,iN 0,iN 0,iN 0,iN 0,iN 0,iN 0,iN 0,iN 0,iN 0,iN 0,iN 0,iN 0] []) s fun p s =>
 zaX p s fun q s =>
 fl 1 a s fun r s =>
 fl 1 a s fun u s =>
 zap .sl u s fun w s =>
 zbY [w,(iN 20)] s fun y s =>
 zbp (.sl 1) r none (some y) none s fun z s =>
 zap .sl z s fun A s =>
 zbf [(iN 0)] s fun v s B =>
 zaA v fun C v => bP .lss C A s fun D s =>
 zy D ((fun (E : LO → Prop) => il false 1 1 z C s fun G s =>
 zap .sl G s fun H s =>
 zbf [eN,(iN 0)] s fun v s I =>
 zaA v fun J v => zaA v fun K v => bP .lss K H s fun L s =>
 zy L ((fun (M : AV → LO → Prop) => il true 7 7 G K s fun Q s =>
 cp [iN 0,iN 0,iN 0,(.d (.str [])),(.d (.str [])),iN 0,eN] 7 Q s fun R s =>
 zbg i s fun S s =>
 zi 2 S s fun T s =>
 zp false 1 T s fun U s =>
 zbg i s fun V s =>
 zi 3 V s fun W s =>
 zp false 1 W s fun X s =>
 zp true 7 R s fun Y s =>
 (fun (a0 : AV → AV → LO → Prop) => (cA P zix [U,X,Y] s fun h0 s =>
 ze h0 0 s fun i0 s =>
 ze h0 1 s fun j0 s =>
 cp [iN 0,iN 0,iN 0,(.d (.str [])),(.d (.str [])),iN 0,eN,iN 0,iN 0] 9 i0 s fun l0 s =>
 a0 l0 j0 s) ∧
 (zP [iN 0,iN 0,iN 0,(.d (.str [])),(.d (.str [])),iN 0,eN,iN 0,iN 0] s fun m0 t =>
 zU T s t ∧ (zU W s t ∧ (zU R s t ∧ (cA P zix [U,X,Y] t fun o0 s =>
 ze o0 0 s fun p0 s =>
 ze o0 1 s fun q0 s =>
 zm 9 m0 p0 s fun _ s =>
 a0 m0 q0 s)))))
 (fun b0 c0 s => bP .eql c0 (iN 0) s fun d0 s =>
 zy d0 (zp true 9 b0 s fun e0 s =>
 m1 9 [iN 0,iN 0,iN 0,(.d (.str [])),(.d (.str [])),iN 0,eN,iN 0,iN 0] e0 s fun f0 s =>
 zt 9 104 J f0 s fun g0 s =>
 M g0 s) (M J s)))
 (fun N s => bP .add K (iN 1) s fun O s =>
 I [N,O] s)) (zbg i s fun u0 s =>
 zi 2 u0 s fun w0 s =>
 zp false 1 w0 s fun y0 s =>
 zp true 5 o s fun z0 s =>
 (fun (A0 : AV → AV → AV → LO → Prop) => (cA P zgG [y0,q,z0,J] s fun h2 s =>
 ze h2 0 s fun i2 s =>
 ze h2 1 s fun j2 s =>
 ze h2 2 s fun _ s =>
 ze h2 3 s fun m2 s =>
 cp [iN 0,iN 0,iN 0,iN 0,iN 0] 5 i2 s fun o2 s =>
 A0 o2 j2 m2 s) ∧
 (zP [iN 0,iN 0,iN 0,iN 0,iN 0] s fun p2 t =>
 zU w0 s t ∧ (zU o s t ∧ (cA P zgG [y0,q,z0,J] t fun q2 s =>
 ze q2 0 s fun r2 s =>
 ze q2 1 s fun u2 s =>
 ze q2 2 s fun _ s =>
 ze q2 3 s fun y2 s =>
 zm 5 p2 r2 s fun _ s =>
 A0 p2 u2 y2 s))))
 (fun B0 C0 D0 s => bP .neq D0 (iN 0) s fun E0 s =>
 zy E0 (E s) (zp true 5 B0 s fun F0 s =>
 zm 5 o F0 s fun _ s =>
 nfl 4 i s fun H0 s =>
 zp true 5 o s fun I0 s =>
 zC (zV [iN 0,iN 0,iN 0,iN 0,iN 0,eN,eN] [(0, 5,I0),(5, 1,J),(6, 1,C0)]) s fun J0 s =>
 m1 7 [iN 0,iN 0,iN 0,iN 0,iN 0,eN,eN] J0 s fun K0 s =>
 zt 7 88 H0 K0 s fun L0 s =>
 zbg i s fun M0 s =>
 zi 4 M0 s fun N0 s =>
 zm 1 N0 L0 s fun _ s =>
 fl 0 o s fun Q0 s =>
 bP .rem Q0 (iN 4) s fun R0 s =>
 bP .neq R0 (iN 0) s fun S0 s =>
 zy S0 (E s) (nfl 2 i s fun T0 s =>
 zp true 5 o s fun U0 s =>
 cA P zhN [T0,U0] s fun V0 s =>
 ze V0 0 s fun W0 s =>
 ze V0 1 s fun _ s =>
 fl 0 o s fun Y0 s =>
 zC (zV [iN 0,iN 0,eN] [(0, 1,Y0),(1, 1,W0)]) s fun a1 s =>
 cp [iN 0,iN 0,eN] 3 a1 s fun b1 s =>
 zi 2 a s fun c1 s =>
 zp false 1 c1 s fun d1 s =>
 fl 0 a s fun e1 s =>
 cA P zqL [e1] s fun f1 t =>
 zU c1 s t ∧ (cA P zoA [d1,f1] t fun g1 s =>
 cA P zoz [g1] s fun h1 s =>
 zap .sl h1 s fun i1 s =>
 zbf [(iN 0)] s fun v s j1 =>
 zaA v fun l1 v => bP .lss l1 i1 s fun o1 s =>
 zy o1 ((fun (p1 : LO → Prop) => il false 1 1 h1 l1 s fun r1 s =>
 zbg i s fun u1 s =>
 zi 2 u1 s fun w1 s =>
 zp false 1 w1 s fun y1 s =>
 zbg i s fun A1 s =>
 zi 3 A1 s fun B1 s =>
 zp false 1 B1 s fun C1 s =>
 zi 0 o s fun D1 s =>
 zp false 1 D1 s fun E1 s =>
 (fun (F1 : AV → AV → LO → Prop) => (cA P ziw [y1,C1,r1,(iN 6),(iN 0),E1,W0] s fun Q1 s =>
 ze Q1 0 s fun R1 s =>
 ze Q1 1 s fun S1 s =>
 cp [iN 0,iN 0] 2 R1 s fun T1 s =>
 F1 T1 S1 s) ∧
 (zP [iN 0,iN 0] s fun U1 t =>
 zU w1 s t ∧ (zU B1 s t ∧ (zU D1 s t ∧ (cA P ziw [y1,C1,r1,(iN 6),(iN 0),E1,W0] t fun V1 s =>
 ze V1 0 s fun W1 s =>
 ze V1 1 s fun X1 s =>
 zm 2 U1 W1 s fun _ s =>
 F1 U1 X1 s)))))
 (fun G1 H1 s => bP .eql H1 (iN 0) s fun I1 s =>
 zy I1 (fl 2 b1 s fun J1 s =>
 zp true 2 G1 s fun K1 s =>
 m1 2 [iN 0,iN 0] K1 s fun L1 s =>
 zt 2 16 J1 L1 s fun M1 s =>
 zi 2 b1 s fun N1 s =>
 zm 1 N1 M1 s fun _ s =>
 p1 s) (p1 s)))
 (fun  s => bP .add l1 (iN 1) s fun q1 s =>
 j1 [q1] s)) (nfl 5 i s fun a2 s =>
 zp true 3 b1 s fun b2 s =>
 m1 3 [iN 0,iN 0,eN] b2 s fun c2 s =>
 zt 3 40 a2 c2 s fun d2 s =>
 zbg i s fun e2 s =>
 zi 5 e2 s fun f2 s =>
 zm 1 f2 d2 s fun _ s =>
 E s)))))))
 (fun  s => bP .add C (iN 1) s fun F s =>
 B [F] s)) (nfl 2 i s fun B2 s =>
 nfl 0 B2 s fun C2 s =>
 zap .sl C2 s fun D2 s =>
 zbf [(iN 0)] s fun v s E2 =>
 zaA v fun F2 v => bP .lss F2 D2 s fun G2 s =>
 zy G2 (il false 1 1 C2 F2 s fun H2 s =>
 nfl 0 i s fun I2 s =>
 cA P zbJ [I2,H2] s fun J2 s =>
 bP .eql J2 (iN 0) s fun K2 s =>
 zy K2 (z2 Z (.d .nilp) bF s) (bP .add F2 (iN 1) s fun L2 s =>
 E2 [L2] s)) (nfl 3 i s fun M2 s =>
 nfl 0 M2 s fun N2 s =>
 zap .sl N2 s fun O2 s =>
 zbf [(iN 0)] s fun v s Q2 =>
 zaA v fun R2 v => bP .lss R2 O2 s fun S2 s =>
 zy S2 (il true 2 2 N2 R2 s fun T2 s =>
 cp [iN 0,iN 0] 2 T2 s fun U2 s =>
 nfl 1 i s fun V2 s =>
 fl 0 U2 s fun W2 s =>
 fl 1 U2 s fun X2 s =>
 cA P zdr [V2,W2,X2] s fun _ s =>
 bP .add R2 (iN 1) s fun a3 s =>
 Q2 [a3] s) (nfl 1 i s fun b3 s =>
 zbg i s fun c3 s =>
 zi 3 c3 s fun d3 s =>
 zp false 1 d3 s fun e3 s =>
 zbg e3 s fun f3 s =>
 zi 0 f3 s fun g3 s =>
 zp false 1 g3 s fun h3 s =>
 zap .sl h3 s fun i3 s =>
 cA P zdG [b3] s fun j3 t =>
 zU d3 s t ∧ (zU g3 s t ∧ (bP .eql j3 i3 t fun l3 s =>
 z2 Z i l3 s)))))
theorem zjS : F1 Tryz.prog zcB zkf := zo [.l [56] [(9, 2),(12, 10),(23, 3),(57, 123)], .l [10, 62] [(12, 3),(63, 23)], .dd [(0, []),(1, []),(2, []),(3, []),(4, []),(5, []),(6, []),(7, []),(8, []),(9, []),(10, []),(11, []),(12, []),(13, []),(14, []),(15, []),(13, [69, 73, 12]),(9, []),(10, []),(11, []),(12, []),(14, []),(15, [])] [9, 13, 9, 0, 1, 3, 7, 0, 16, 48, 112, 0, 511, 1023, 2047, 2047, 1023, 12287, 32767, 0, 1, 3, 7, 0, 16, 48, 112, 0, 8703, 9215, 10239, 10239, 0, 12287, 32767], .dd [(0, []),(1, []),(2, []),(3, []),(4, []),(5, []),(6, []),(7, []),(8, []),(9, []),(10, []),(11, []),(12, []),(13, []),(14, []),(15, []),(16, []),(17, []),(13, [89, 5]),(7, []),(8, []),(9, []),(10, []),(11, []),(12, []),(14, []),(15, []),(16, []),(17, [])] [7, 13, 7, 0, 1, 3, 7, 0, 0, 0, 127, 255, 511, 511, 511, 511, 255, 9215, 26623, 61439, 131071, 0, 1, 3, 7, 0, 0, 0, 8319, 8447, 8703, 8703, 8703, 8703, 0, 9215, 26623, 61439, 131071], .d [(0, 14)] [], .d [(0, 11)] [], .d [(0, 4),(8, 1),(4, 4)] [(4, [132])], .l [140] [(23, 3),(141, 28)], .dd [(0, []),(1, []),(2, []),(3, []),(4, []),(5, []),(6, []),(7, []),(8, []),(9, []),(10, []),(11, []),(12, []),(13, []),(14, []),(15, []),(16, []),(17, []),(18, []),(16, [147, 151, 154]),(12, []),(13, []),(14, []),(15, []),(17, []),(18, [])] [12, 16, 12, 0, 1, 3, 7, 0, 16, 48, 112, 0, 0, 512, 0, 4095, 8191, 16383, 16383, 8191, 98303, 262143, 0, 1, 3, 7, 0, 16, 48, 112, 0, 0, 512, 0, 69631, 73727, 81919, 81919, 0, 98303, 262143], .d [(0, 11)] [], .l [188] [(2, 2),(27, 1),(189, 11)], .l [208] [(29, 1),(209, 13)], .d [(0, 9)] [], .d [(0, 5),(6, 8),(5, 1),(14, 3)] [(5, [230, 233])]] Tryz.func9 (by decide +kernel) (by kernel_rfl) fun {_ _ _ _} => cast (by kernel_rfl)
def ztM (P : Program) (x0 x1 x2 x3 x4 : AV) (σ : LO) (Z : ZT) : Prop :=
 zaX x2 σ fun a s =>
 zP [(.d (.str [])),iN 0,eN,eN,iN 0,iN 0,eN,iN 0,iN 0,eN] s fun b s =>
 cA P zoy [x1,x3,x4] s fun c s =>
 ze c 0 s fun d s =>
 ze c 1 s fun e s =>
 ze c 2 s fun f s =>
 unC .not f s fun g s =>
 zy g (zC (zV [(.d (.str [])),iN 0,eN,eN,iN 0,iN 0,eN,iN 0,iN 0,eN] []) s fun h s =>
 zm 10 b h s fun _ s =>
 Z (zD (zag b s true 10) (zD (some (iN 4)) (some []))) s) (il true 7 7 x1 d s fun j s =>
 cp [iN 0,iN 0,iN 0,iN 0,iN 0,eN,eN] 7 j s fun l s =>
 zi 6 l s fun m s =>
 zp false 1 m s fun n s =>
 zB none 3 n e s fun o s =>
 zi 2 o s fun p s =>
 zp false 1 p s fun q s =>
 zi 6 l s fun r s =>
 zp false 1 r s fun u s =>
 zap .sl u s fun w s =>
 zp true 3 a s fun y s =>
 zC (zV [(.d (.str [])),iN 0,eN,eN,iN 0,iN 0,eN,iN 0,iN 0,eN] [(0, 1,x3),(1, 1,x4),(2, 1,q),(4, 1,e),(5, 1,w),(7, 3,y)]) s fun z s =>
 zP [(.d (.str [])),iN 0,eN,eN,iN 0,iN 0,eN,iN 0,iN 0,eN] s fun A t =>
 zU m s t ∧ (zU p s t ∧ (zU r s t ∧ (zU a s t ∧ (zm 10 A z t fun _ s =>
 zbf [d] s fun v s C =>
 zaA v fun D v => zap .sl x1 s fun E s =>
 bP .eql D E s fun F s =>
 gFm F D s fun G s =>
 gFm F d s fun H s =>
 gF F (bP .gtr G H s) s fun I s =>
 gFm F I s fun J s =>
 gTm J x1 s fun K s =>
 gTm J D s fun L s =>
 gT J (bP .sub L (iN 1) s) s fun M s =>
 gT J (zB none 7 K M s) s fun N s =>
 gT J (zi 0 N s) s fun O s =>
 gTl J 0 O s fun Q s =>
 gT J (bP .add Q (iN 1) s) s fun R s =>
 gTm J x1 s fun S s =>
 gTm J D s fun T s =>
 gT J (zB none 7 S T s) s fun U s =>
 gT J (zi 0 U s) s fun V s =>
 gTl J 0 V s fun W s =>
 gT J (bP .neq R W s) s fun X s =>
 gF F (anC J X s) s fun Y s =>
 orC F Y s fun a0 s =>
 zy a0 (zC (zV [(.d (.str [])),iN 0,eN,eN,iN 0,iN 0,eN,iN 0,iN 0,eN] []) s fun b0 s =>
 zm 10 b b0 s fun _ s =>
 Z (zD (zag b s true 10) (zD (some (iN 7)) (some []))) s) (fl 3 A s fun d0 s =>
 zB none 7 x1 D s fun e0 s =>
 zi 0 e0 s fun f0 s =>
 zp true 5 f0 s fun g0 s =>
 m1 5 [iN 0,iN 0,iN 0,iN 0,iN 0] g0 s fun h0 s =>
 zt 5 40 d0 h0 s fun i0 s =>
 zi 3 A s fun j0 s =>
 zm 1 j0 i0 s fun _ s =>
 zB none 7 x1 D s fun m0 s =>
 zi 0 m0 s fun o0 s =>
 fl 0 o0 s fun p0 s =>
 fl 0 a s fun q0 s =>
 bP .eql p0 q0 s fun r0 s =>
 zy r0 (fl 6 l s fun u0 s =>
 cA P zhM [u0] s fun w0 s =>
 cA P zfy [x0,e,w0] s fun y0 s =>
 ze y0 0 s fun z0 s =>
 ze y0 1 s fun _ s =>
 zi 6 A s fun B0 s =>
 zm 1 B0 z0 s fun _ s =>
 zp true 10 A s fun D0 s =>
 zm 10 b D0 s fun _ s =>
 Z (zD (zag b s true 10) (zD (some (iN 0)) (some []))) s) (bP .add D (iN 1) s fun F0 s =>
 C [F0] s)))))))
theorem zsZ : F5 Tryz.prog zlz ztM := zo [.d [(0, 16)] [(14, [35, 39, 42, 7])], .l [17] [(11, 1),(48, 48)], .d [(0, 26)] [], .d [(0, 11)] [], .d [(0, 9)] []] Tryz.func10 (by decide +kernel) (by kernel_rfl) fun {_ _ _ _ _ _ _ _} => cast (by kernel_rfl)
def znT (P : Program) (x0 x1 : AV) (σ : LO) (Z : ZT) : Prop :=
 zaX x0 σ fun a s =>
 zP [(.d (.str [])),iN 0,eN,eN,iN 0,iN 0,eN,iN 0,iN 0,eN] s fun b s =>
 fl 3 a s fun c s =>
 zdt 5 40 eN c s fun d s =>
 zi 3 a s fun e s =>
 zm 1 e d s fun _ s =>
 fl 6 a s fun g s =>
 zdt 1 8 eN g s fun h s =>
 zi 6 a s fun i s =>
 zm 1 i h s fun _ s =>
 zi 7 a s fun l s =>
 fl 2 l s fun m s =>
 zdt 2 16 eN m s fun n s =>
 zi 7 a s fun o s =>
 zi 2 o s fun p s =>
 zm 1 p n s fun _ s =>
 zap .sl x1 s fun r s =>
 zbf [(iN 0)] s fun v s u =>
 zaA v fun w v => bP .lss w r s fun y s =>
 zy y ((fun (z : LO → Prop) => il true 4 4 x1 w s fun B s =>
 cp [iN 0,iN 0,iN 0,eN] 4 B s fun C s =>
 fl 0 C s fun D s =>
 bP .eql D (iN 1) s fun E s =>
 zy E (fl 3 C s fun F s =>
 zi 2 a s fun G s =>
 zm 1 G F s fun _ s =>
 z s) (bP .eql D (iN 2) s fun I s =>
 zy I (fl 1 a s fun J s =>
 bP .add J (iN 1) s fun K s =>
 zi 1 a s fun L s =>
 zm 1 L K s fun _ s =>
 z s) (bP .eql D (iN 3) s fun N s =>
 zy N (fl 4 a s fun O s =>
 bP .add O (iN 1) s fun Q s =>
 zi 4 a s fun R s =>
 zm 1 R Q s fun _ s =>
 z s) (bP .eql D (iN 4) s fun T s =>
 zy T (fl 5 a s fun U s =>
 fl 1 C s fun V s =>
 bP .rem V (iN 3) s fun W s =>
 bP .add U W s fun X s =>
 zi 5 a s fun Y s =>
 zm 1 Y X s fun _ s =>
 z s) (bP .eql D (iN 5) s fun b0 s =>
 zy b0 (fl 6 a s fun c0 s =>
 zap .sl c0 s fun d0 s =>
 bP .gtr d0 (iN 0) s fun e0 s =>
 zy e0 (fl 6 a s fun f0 s =>
 fl 1 C s fun g0 s =>
 zab (.int .u64) g0 s fun h0 s =>
 fl 6 a s fun i0 s =>
 zap .sl i0 s fun j0 s =>
 zab (.int .u64) j0 s fun l0 s =>
 bP .rem h0 l0 s fun m0 s =>
 zab (.int .i64) m0 s fun o0 s =>
 fl 2 C s fun p0 s =>
 zB none 1 f0 o0 s fun q0 s =>
 zm 1 q0 p0 s fun _ s =>
 z s) (z s)) (bP .eql D (iN 6) s fun u0 s =>
 zy u0 (fl 3 a s fun w0 s =>
 zap .sl w0 s fun y0 s =>
 bP .gtr y0 (iN 0) s fun z0 s =>
 zy z0 (fl 3 a s fun A0 s =>
 zbp (.sl 5) A0 (some (iN 1)) none none s fun B0 s =>
 zi 3 a s fun C0 s =>
 zm 1 C0 B0 s fun _ s =>
 z s) (z s)) (bP .eql D (iN 7) s fun E0 s =>
 zy E0 (fl 3 a s fun F0 s =>
 zap .sl F0 s fun G0 s =>
 bP .gtr G0 (iN 0) s fun H0 s =>
 zy H0 (fl 3 a s fun I0 s =>
 fl 3 a s fun J0 s =>
 zap .sl J0 s fun K0 s =>
 bP .sub K0 (iN 1) s fun L0 s =>
 zbp (.sl 5) I0 none (some L0) none s fun M0 s =>
 zi 3 a s fun N0 s =>
 zm 1 N0 M0 s fun _ s =>
 z s) (z s)) (bP .eql D (iN 8) s fun Q0 s =>
 zy Q0 (fl 3 a s fun R0 s =>
 zap .sl R0 s fun S0 s =>
 bP .gtr S0 (iN 0) s fun T0 s =>
 zy T0 (fl 3 a s fun U0 s =>
 fl 1 C s fun V0 s =>
 zab (.int .u64) V0 s fun W0 s =>
 fl 3 a s fun X0 s =>
 zap .sl X0 s fun Y0 s =>
 zab (.int .u64) Y0 s fun a1 s =>
 bP .rem W0 a1 s fun b1 s =>
 zab (.int .i64) b1 s fun c1 s =>
 fl 2 C s fun d1 s =>
 zB none 5 U0 c1 s fun e1 s =>
 zi 3 e1 s fun f1 s =>
 zm 1 f1 d1 s fun _ s =>
 z s) (z s)) (bP .eql D (iN 9) s fun h1 s =>
 zy h1 (zi 7 a s fun i1 s =>
 fl 2 i1 s fun j1 s =>
 zap .sl j1 s fun l1 s =>
 bP .gtr l1 (iN 0) s fun o1 s =>
 zy o1 (zi 7 a s fun p1 s =>
 fl 2 p1 s fun q1 s =>
 zbp (.sl 2) q1 (some (iN 1)) none none s fun r1 s =>
 zi 7 a s fun u1 s =>
 zi 2 u1 s fun w1 s =>
 zm 1 w1 r1 s fun _ s =>
 z s) (z s)) (bP .eql D (iN 10) s fun A1 s =>
 zy A1 (fl 2 C s fun B1 s =>
 zi 7 a s fun C1 s =>
 zi 1 C1 s fun D1 s =>
 zm 1 D1 B1 s fun _ s =>
 z s) (bP .eql D (iN 11) s fun F1 s =>
 zy F1 (zi 7 a s fun G1 s =>
 fl 2 G1 s fun H1 s =>
 fl 1 C s fun I1 s =>
 bP .rem I1 (iN 13) s fun J1 s =>
 fl 2 C s fun K1 s =>
 zC (zV [iN 0,iN 0] [(0, 1,J1),(1, 1,K1)]) s fun L1 s =>
 zr true 2 1 (zV (rep [iN 0,iN 0] 1) [(0, 2,L1)]) s fun M1 s =>
 zdt 2 16 H1 M1 s fun N1 s =>
 zi 7 a s fun O1 s =>
 zi 2 O1 s fun Q1 s =>
 zm 1 Q1 N1 s fun _ s =>
 z s) (bP .eql D (iN 12) s fun S1 s =>
 zy S1 (fl 6 a s fun T1 s =>
 fl 2 C s fun U1 s =>
 zr true 1 1 (zV (rep [iN 0] 1) [(0, 1,U1)]) s fun V1 s =>
 zdt 1 8 T1 V1 s fun W1 s =>
 zi 6 a s fun X1 s =>
 zm 1 X1 W1 s fun _ s =>
 z s) (z s)))))))))))))
 (fun  s => bP .add w (iN 1) s fun A s =>
 u [A] s)) (zp true 10 a s fun a2 s =>
 zm 10 b a2 s fun _ s =>
 Z (zD (zag b s true 10) (some [])) s)
theorem zns : F2 Tryz.prog zfP znT := formM_of [.l [23] [(6, 1),(24, 140)], .d [(0, 15)] [], .d [(0, 16)] []] Tryz.func11 (by decide +kernel) (by kernel_rfl) fun {_ _ _ _ _} => cast (by kernel_rfl)
def zje (P : Program) (x0 : AV) (σ : LO) (Z : ZT) : Prop :=
 cA P zbX [x0] σ fun a s =>
 zy a (z1 Z (iN 0) s) (nfl 0 x0 s fun b s =>
 zap .sl b s fun c s =>
 z1 Z c s)
theorem ziO : F1 Tryz.prog zdS zje := zo [] Tryz.func12 (by decide +kernel) (by kernel_rfl) fun {_ _ _ _} => cast (by kernel_rfl)
def zjd (P : Program) (x0 x1 : AV) (σ : LO) (Z : ZT) : Prop :=
 cA P zbX [x0] σ fun a s =>
 zy a (z1 Z (iN 0) s) (nfl 1 x0 s fun b s =>
 zab .toStr x1 s fun c s =>
 zau .str true (iN 0) b c s fun d s =>
 ze d 0 s fun e s =>
 ze d 1 s fun f s =>
 zy f (z1 Z e s) (nfl 0 x0 s fun g s =>
 zap .sl g s fun h s =>
 bP .geq h (iN 1048576) s fun i s =>
 zy i (z1 Z (iN 0) s) (zbg x0 s fun j s =>
 zi 0 j s fun l s =>
 zp false 1 l s fun m s =>
 cA P zjB [x1] s fun n t =>
 zU l s t ∧ (m1 1 [eN] n t fun o s =>
 zt 1 24 m o s fun p s =>
 zbg x0 s fun q s =>
 zi 0 q s fun r s =>
 zm 1 r p s fun _ s =>
 nfl 0 x0 s fun w s =>
 zap .sl w s fun y s =>
 nfl 1 x0 s fun z s =>
 zab .toStr x1 s fun A s =>
 zaB .str z A y s fun _ s =>
 z1 Z y s))))
theorem ziN : F2 Tryz.prog zbJ zjd := zo [.d [(0, 12)] [], .d [(0, 12)] [(6, [31])], .d [(0, 8)] []] Tryz.func13 (by decide +kernel) (by kernel_rfl) fun {_ _ _ _ _} => cast (by kernel_rfl)
def zif (P : Program) (x0 : AV) (σ : LO) (Z : ZT) : Prop :=
 cA P zbK [x0] σ fun a s =>
 zy a (z1 Z (iN 0) s) (nfl 0 x0 s fun b s =>
 zap .sl b s fun c s =>
 z1 Z c s)
theorem zhX : F1 Tryz.prog zdG zif := zo [] Tryz.func14 (by decide +kernel) (by kernel_rfl) fun {_ _ _ _} => cast (by kernel_rfl)
def zmr (P : Program) (x0 x1 x2 x3 : AV) (σ : LO) (Z : ZT) : Prop :=
 zaX x3 σ fun a s =>
 cA P zbi [x0] s fun b s =>
 zbI .eql .ptr b (.d .nilp) s fun c s =>
 gFm c x1 s fun d s =>
 gF c (cA P zcf [d] s) s fun e s =>
 gF c (zbI .eql .ptr e (.d .nilp) s) s fun f s =>
 orC c f s fun g s =>
 zy g (z1 Z (iN 2) s) (cA P zee [x2] s fun h s =>
 bP .neq h (iN 0) s fun i s =>
 zy i (z1 Z h s) (zp true 10 a s fun j s =>
 cA P zdZ [j] s fun l s =>
 bP .neq l (iN 0) s fun m s =>
 zy m (z1 Z l s) (zp true 10 a s fun n s =>
 cA P zhb [x0,n] s fun o s =>
 unC .not o s fun p s =>
 zy p (z1 Z (iN 230) s) (zi 7 a s fun q s =>
 zp true 3 q s fun r s =>
 cA P zjy [x0,x1,x2,r] s fun u s =>
 unC .not u s fun w s =>
 zy w (z1 Z (iN 231) s) (fl 0 a s fun y s =>
 fl 1 a s fun z s =>
 fl 2 a s fun A s =>
 zC (zV [(.d (.str [])),iN 0,eN] [(0, 1,y),(1, 1,z),(2, 1,A)]) s fun B s =>
 cA P zcZ [B] s fun C s =>
 fl 3 a s fun D s =>
 zB none 5 D (iN 0) s fun E s =>
 fl 3 E s fun F s =>
 fl 4 a s fun G s =>
 fl 5 a s fun H s =>
 fl 6 a s fun I s =>
 cA P zhc [x0,F,C,G,H,I] s fun J s =>
 unC .not J s fun K s =>
 zy K (z1 Z (iN 232) s) (z1 Z (iN 0) s))))))
theorem zmd : F4 Tryz.prog zdA zmr := zo [.d [(0, 15)] []] Tryz.func15 (by decide +kernel) (by kernel_rfl) fun {_ _ _ _ _ _ _} => cast (by kernel_rfl)
def zrJ (P : Program) (x0 : AV) (σ : LO) (Z : ZT) : Prop :=
 bP .lss x0 (iN 1) σ fun a s =>
 gFm a x0 s fun b s =>
 gF a (bP .gtr b (iN 4) s) s fun c s =>
 orC a c s fun d s =>
 zy d (z1 Z (iN 120) s) (z1 Z (iN 0) s)
theorem zrf : F1 Tryz.prog zmA zrJ := zo [] Tryz.func17 (by decide +kernel) (by kernel_rfl) fun {_ _ _ _} => cast (by kernel_rfl)
def ztO (P : Program) (x0 x1 : AV) (σ : LO) (Z : ZT) : Prop :=
 zbf [eN,(iN 0)] σ fun v s a =>
 zaA v fun b v => zaA v fun c v => bP .lss c (iN 13) s fun d s =>
 zy d ((fun (e : AV → LO → Prop) => cA P zkz [x0,c] s fun h s =>
 gTm h x1 s fun i s =>
 gTm h c s fun j s =>
 gT h (cA P zkz [i,j] s) s fun l s =>
 anC h l s fun m s =>
 zy m (m1 1 [iN 0] c s fun n s =>
 zt 1 8 b n s fun o s =>
 e o s) (e b s))
 (fun f s => bP .add c (iN 1) s fun g s =>
 a [f,g] s)) (cA P zqo [b] s fun p s =>
 z1 Z p s)
theorem ztb : F2 Tryz.prog zoA ztO := zo [.l [5, 6] [(7, 16)]] Tryz.func19 (by decide +kernel) (by kernel_rfl) fun {_ _ _ _ _} => cast (by kernel_rfl)
def S_r12_All (P : Program) (x0 : AV) (σ : LO) (Z : ZT) : Prop :=
 zbf [eN,(iN 0)] σ fun v s a =>
 zaA v fun b v => zaA v fun c v => cA P zjq [x0] s fun d s =>
 bP .lss c d s fun e s =>
 zy e (m1 1 [iN 0] c s fun f s =>
 zt 1 8 b f s fun g s =>
 bP .add c (iN 1) s fun h s =>
 a [g,h] s) (cA P zqo [b] s fun i s =>
 z1 Z i s)
theorem e_r12_All : F1 Tryz.prog zqL S_r12_All := zo [.l [3, 4] [(5, 10)]] Tryz.func20 (by decide +kernel) (by kernel_rfl) fun {_ _ _ _} => cast (by kernel_rfl)
def S_r12_Has (P : Program) (x0 x1 : AV) (σ : LO) (Z : ZT) : Prop :=
 zbf [x0,(iN 0)] σ fun v s a =>
 zaA v fun b v => zaA v fun c v => bP .lss c (iN 13) s fun d s =>
 zy d (bP .eql c x1 s fun e s =>
 gTm e b s fun f s =>
 gT e (bP .rem f (.d (.int .u16 2)) s) s fun g s =>
 gT e (bP .eql g (.d (.int .u16 1)) s) s fun h s =>
 anC e h s fun i s =>
 zy i (z1 Z bT s) (bP .quo b (.d (.int .u16 2)) s fun j s =>
 bP .add c (iN 1) s fun l s =>
 a [j,l] s)) (z1 Z bF s)
theorem e_r12_Has : F2 Tryz.prog zkz S_r12_Has := zo [.l [0, 5] [(4, 1),(6, 14)]] Tryz.func21 (by decide +kernel) (by kernel_rfl) fun {_ _ _ _ _} => cast (by kernel_rfl)
def zhG (P : Program) (x0 x1 x2 : AV) (σ : LO) (Z : ZT) : Prop :=
 zP [iN 0,iN 0] σ fun a s =>
 cA P zbK [x0] s fun b s =>
 zy b (zC (zV [iN 0,iN 0] []) s fun c s =>
 zm 2 a c s fun _ s =>
 Z (zD (zag a s true 2) (zD (some (iN 2)) (some []))) s) (bP .lss x1 (iN 0) s fun e s =>
 gFm e x1 s fun f s =>
 gF e (bP .geq f (iN 21) s) s fun g s =>
 orC e g s fun h s =>
 zy h (zC (zV [iN 0,iN 0] []) s fun i s =>
 zm 2 a i s fun _ s =>
 Z (zD (zag a s true 2) (zD (some (iN 20)) (some []))) s) (bP .lss x2 (iN 1) s fun l s =>
 zy l (zC (zV [iN 0,iN 0] []) s fun m s =>
 zm 2 a m s fun _ s =>
 Z (zD (zag a s true 2) (zD (some (iN 1)) (some []))) s) (zC (zV [iN 0,iN 0] [(0, 1,x1),(1, 1,x2)]) s fun o s =>
 cp [iN 0,iN 0] 2 o s fun p s =>
 (fun (q : LO → Prop) => nfl 1 x0 s fun w s =>
 zp true 2 p s fun y s =>
 zau (.ints 2) false bF w y s fun z s =>
 unC .not z s fun A s =>
 zy A (nfl 1 x0 s fun B s =>
 zp true 2 p s fun C s =>
 zaB (.ints 2) B C bT s fun _ s =>
 nfl 0 x0 s fun E s =>
 zp true 2 p s fun F s =>
 m1 2 [iN 0,iN 0] F s fun G s =>
 zt 2 16 E G s fun H s =>
 zbg x0 s fun I s =>
 zi 0 I s fun J s =>
 zm 1 J H s fun _ s =>
 q s) (q s))
 (fun  s => zp true 2 p s fun r s =>
 zm 2 a r s fun _ s =>
 Z (zD (zag a s true 2) (zD (some (iN 0)) (some []))) s))))
theorem zhr : F3 Tryz.prog zdr zhG := zo [.d [(0, 7)] [], .d [(0, 6)] [], .d [(0, 11)] []] Tryz.func22 (by decide +kernel) (by kernel_rfl) fun {_ _ _ _ _ _} => cast (by kernel_rfl)
def zpQ (P : Program) (x0 x1 x2 x3 x4 : AV) (σ : LO) (Z : ZT) : Prop :=
 zaX x2 σ fun a s =>
 zaX x3 s fun b s =>
 zaX x4 s fun c s =>
 zP [(.d (.str [])),iN 0,eN,eN,iN 0,iN 0,eN,iN 0,iN 0,eN] s fun d s =>
 cA P zbi [x0] s fun e s =>
 zbI .eql .ptr e (.d .nilp) s fun f s =>
 zy f (zC (zV [(.d (.str [])),iN 0,eN,eN,iN 0,iN 0,eN,iN 0,iN 0,eN] []) s fun g s =>
 zm 10 d g s fun _ s =>
 Z (zD (zag d s true 10) (zD (some (iN 2)) (some []))) s) (zap .sl x1 s fun i s =>
 zbf [(iN 0)] s fun v s j =>
 zaA v fun l v => bP .lss l i s fun m s =>
 zy m (il true 7 7 x1 l s fun n s =>
 zP [iN 0,iN 0,iN 0,iN 0,iN 0,eN,eN] s fun o s =>
 zm 7 o n s fun _ s =>
 fl 6 o s fun q s =>
 cA P zbd [q,(.fn (.func zii) [] [b,c])] s fun r s =>
 bP .lss r (iN 0) s fun u s =>
 zy u (bP .add l (iN 1) s fun w s =>
 j [w] s) (zbp (.sl 7) x1 (some l) none none s fun y s =>
 fl 0 a s fun z s =>
 cA P zmE [y,z] s fun A s =>
 ze A 0 s fun B s =>
 ze A 1 s fun C s =>
 unC .not C s fun D s =>
 zy D (zC (zV [(.d (.str [])),iN 0,eN,eN,iN 0,iN 0,eN,iN 0,iN 0,eN] []) s fun E s =>
 zm 10 d E s fun _ s =>
 Z (zD (zag d s true 10) (zD (some (iN 7)) (some []))) s) (fl 6 o s fun G s =>
 cA P zik [G] s fun H s =>
 cA P zij [x0,r,H] s fun I s =>
 ze I 0 s fun J s =>
 ze I 1 s fun K s =>
 bP .neq K (iN 0) s fun L s =>
 zy L (zC (zV [(.d (.str [])),iN 0,eN,eN,iN 0,iN 0,eN,iN 0,iN 0,eN] []) s fun M s =>
 zm 10 d M s fun _ s =>
 Z (zD (zag d s true 10) (zD (some K) (some []))) s) (fl 2 a s fun O s =>
 cA P zbG [O] s fun Q s =>
 zi 2 a s fun R s =>
 zm 1 R Q s fun _ s =>
 zp false 1 b s fun T s =>
 zp false 1 c s fun U s =>
 fl 6 o s fun V s =>
 zB none 3 V r s fun W s =>
 fl 2 W s fun X s =>
 zi 6 o s fun Y s =>
 zp false 1 Y s fun a0 s =>
 zap .sl a0 s fun b0 s =>
 zp true 3 a s fun c0 s =>
 cA P zbS [X] s fun d0 t =>
 zU b s t ∧ (zU c s t ∧ (zU Y s t ∧ (zU a s t ∧ (zC (zV [(.d (.str [])),iN 0,eN,eN,iN 0,iN 0,eN,iN 0,iN 0,eN] [(0, 1,T),(1, 1,U),(2, 1,d0),(3, 1,B),(4, 1,r),(5, 1,b0),(6, 1,J),(7, 3,c0)]) t fun e0 s =>
 zm 10 d e0 s fun _ s =>
 Z (zD (zag d s true 10) (zD (some (iN 0)) (some []))) s)))))))) (zC (zV [(.d (.str [])),iN 0,eN,eN,iN 0,iN 0,eN,iN 0,iN 0,eN] []) s fun g0 s =>
 zm 10 d g0 s fun _ s =>
 Z (zD (zag d s true 10) (zD (some (iN 4)) (some []))) s))
theorem zpC : F5 Tryz.prog zeE zpQ := zo [.l [25] [(11, 8),(26, 57)], .d [(0, 11)] [], .d [(0, 8),(9, 7),(8, 1),(16, 3)] [(8, [8, 9, 76, 7])]] Tryz.func23 (by decide +kernel) (by kernel_rfl) fun {_ _ _ _ _ _ _ _} => cast (by kernel_rfl)
def zud (P : Program) (x0 x1 : AV) (σ : LO) (Z : ZT) : Prop :=
 zaX x0 σ fun a s =>
 zaX x1 s fun b s =>
 zp true 10 a s fun c s =>
 zC (zV [iN 0,iN 0,iN 0,iN 0,iN 0,iN 0,iN 0,iN 0,iN 0,eN,iN 0,iN 0,eN,eN,eN,eN,(.d (.str [])),iN 0,(.d (.str [])),iN 0,eN,eN,iN 0,iN 0,eN,iN 0,iN 0,eN,iN 0,iN 0] [(18, 10,c)]) s fun d s =>
 zp true 10 b s fun e s =>
 zC (zV [iN 0,iN 0,iN 0,iN 0,iN 0,iN 0,iN 0,iN 0,iN 0,eN,iN 0,iN 0,eN,eN,eN,eN,(.d (.str [])),iN 0,(.d (.str [])),iN 0,eN,eN,iN 0,iN 0,eN,iN 0,iN 0,eN,iN 0,iN 0] [(18, 10,e)]) s fun f s =>
 cA P zoC [d,f] s fun g s =>
 z1 Z g s
theorem ztq : F2 Tryz.prog zoL zud := zo [] Tryz.func25 (by decide +kernel) (by kernel_rfl) fun {_ _ _ _ _} => cast (by kernel_rfl)
end Go.Proofs.YtncpaekiidpchaaGreat
