/- The conditions of each function, its slots as variables, and that the logic's conditions are these. Printed by program. -/
import Derived.Test.YtncpaekiidpchaaGreatNm
import Derived.KernelRfl
set_option linter.all false
set_option maxRecDepth 100000
namespace Go.Proofs.YtncpaekiidpchaaGreat
open Go.AW
def zhV (P : Program) (x0 x1 : AV) (σ : LO) (Z : ZT) : Prop :=
 zaV x0 σ fun a s =>
 zaV x1 s fun b s =>
 cA P zpn [] s fun c s =>
 unC .not c s fun d s =>
 zn d (z1 Z bF s) (zp true 7 a s fun e s =>
 cA P zcx [e] s fun f s =>
 ze f 0 s fun g s =>
 ze f 1 s fun h s =>
 unC .not h s fun i s =>
 zn i (z1 Z bF s) (zp true 10 b s fun j s =>
 m1 10 [(.d (.str [])),iN 0,eN,eN,iN 0,iN 0,eN,iN 0,iN 0,eN] j s fun l s =>
 nfl 5 g s fun m s =>
 zas .sl m s fun n s =>
 zaM [l,(iN 0)] s fun v s o =>
 zau v fun p v => zau v fun q v => bP .lss q n s fun r s =>
 zn r ((fun (u : AV → LO → Prop) => il true 3 3 m q s fun z s =>
 cp [iN 0,iN 0,eN] 3 z s fun A s =>
 zbr g s fun B s =>
 zk 2 B s fun C s =>
 zp false 1 C s fun D s =>
 zbr g s fun E s =>
 zk 4 E s fun F s =>
 zp false 1 F s fun G s =>
 zp true 3 A s fun H s =>
 zk 4 a s fun I s =>
 zp false 1 I s fun J s =>
 zk 5 a s fun K s =>
 zp false 1 K s fun L s =>
 (fun (M : AV → AV → LO → Prop) => (cA P zmh [D,G,H,J,L] s fun X s =>
 ze X 0 s fun Y s =>
 ze X 1 s fun a0 s =>
 cp [(.d (.str [])),iN 0,eN,eN,iN 0,iN 0,eN,iN 0,iN 0,eN] 10 Y s fun b0 s =>
 M b0 a0 s) ∧
 (zQ [(.d (.str [])),iN 0,eN,eN,iN 0,iN 0,eN,iN 0,iN 0,eN] s fun c0 t =>
 zM C s t ∧ (zM F s t ∧ (zM A s t ∧ (zM I s t ∧ (zM K s t ∧ (cA P zmh [D,G,H,J,L] t fun d0 s =>
 ze d0 0 s fun e0 s =>
 ze d0 1 s fun f0 s =>
 zo 10 c0 e0 s fun _ s =>
 M c0 f0 s)))))))
 (fun N O s => bP .eql O (iN 0) s fun Q s =>
 zn Q (zp true 10 N s fun R s =>
 zp true 10 N s fun S s =>
 fl 6 a s fun T s =>
 cA P zeP [S,T] s fun U t =>
 zM N s t ∧ (zr false 10 2 (zR (rep [(.d (.str [])),iN 0,eN,eN,iN 0,iN 0,eN,iN 0,iN 0,eN] 2) [(0, 10,R),(10, 10,U)]) t fun V s =>
 zw 10 152 p V s fun W s =>
 u W s)) (u p s)))
 (fun w s => bP .add q (iN 1) s fun y s =>
 o [w,y] s)) (nfl 2 g s fun h0 s =>
 nfl 0 h0 s fun i0 s =>
 zas .sl i0 s fun j0 s =>
 zaM [j0] s fun v s l0 =>
 zau v fun m0 v => nfl 0 g s fun o0 s =>
 cA P zbI [o0] s fun p0 s =>
 bP .gtr m0 p0 s fun q0 s =>
 zn q0 (zbr g s fun r0 s =>
 zk 0 r0 s fun u0 s =>
 zp false 1 u0 s fun w0 s =>
 zbr g s fun y0 s =>
 zk 2 y0 s fun z0 s =>
 zp false 1 z0 s fun A0 s =>
 zbr A0 s fun B0 s =>
 zk 0 B0 s fun C0 s =>
 zp false 1 C0 s fun D0 s =>
 nfl 0 g s fun E0 s =>
 cA P zbI [E0] s fun F0 t =>
 zM u0 s t ∧ (zM z0 s t ∧ (zM C0 s t ∧ (il false 1 1 D0 F0 t fun G0 s =>
 cA P zbx [w0,G0] s fun _ s =>
 nfl 2 g s fun I0 s =>
 nfl 0 I0 s fun J0 s =>
 zas .sl J0 s fun K0 s =>
 l0 [K0] s)))) (nfl 0 g s fun L0 s =>
 zbr g s fun M0 s =>
 zk 1 M0 s fun N0 s =>
 zp false 1 N0 s fun O0 s =>
 cA P zbI [L0] s fun Q0 t =>
 zM N0 s t ∧ (cA P zbX [O0] t fun R0 s =>
 zas .sl p s fun S0 s =>
 zaM [(iN 0)] s fun v s T0 =>
 zau v fun U0 v => bP .lss U0 S0 s fun V0 s =>
 zn V0 (il true 10 10 p U0 s fun W0 s =>
 cp [(.d (.str [])),iN 0,eN,eN,iN 0,iN 0,eN,iN 0,iN 0,eN] 10 W0 s fun X0 s =>
 nfl 0 g s fun Y0 s =>
 nfl 1 g s fun a1 s =>
 fl 0 a s fun b1 s =>
 zp true 10 X0 s fun c1 s =>
 zbr g s fun d1 s =>
 zk 2 d1 s fun e1 s =>
 zp false 1 e1 s fun f1 s =>
 zbr g s fun g1 s =>
 zk 3 g1 s fun h1 s =>
 zp false 1 h1 s fun i1 s =>
 zk 0 a s fun j1 s =>
 zp false 1 j1 s fun l1 s =>
 zp true 10 X0 s fun o1 s =>
 cA P zcG [Y0,a1,b1,c1] s fun p1 t =>
 zM e1 s t ∧ (zM h1 s t ∧ (zM j1 s t ∧ (zM X0 s t ∧ (cA P zlc [f1,i1,l1,o1] t fun q1 s =>
 bP .neq p1 q1 s fun r1 s =>
 zn r1 (z1 Z bF s) (bP .add U0 (iN 1) s fun u1 s =>
 T0 [u1] s)))))) (nfl 0 g s fun w1 s =>
 cA P zbI [w1] s fun y1 s =>
 bP .eql y1 Q0 s fun A1 s =>
 gTm A1 g s fun B1 s =>
 gT A1 (zbr B1 s) s fun C1 s =>
 gTl A1 1 C1 s fun D1 s =>
 gT A1 (cA P zbX [D1] s) s fun E1 s =>
 gTm A1 R0 s fun F1 s =>
 gT A1 (bP .eql E1 F1 s) s fun G1 s =>
 anC A1 G1 s fun H1 s =>
 z1 Z H1 s))))))
theorem zhH : F2 Tryz.prog zeL zhV := zl [.l [7, 33] [(9, 3),(34, 31)], .dd [(0, []),(1, []),(2, []),(3, []),(4, []),(5, []),(6, []),(7, []),(8, []),(9, []),(10, []),(11, []),(12, []),(13, []),(14, []),(15, []),(16, []),(17, []),(18, []),(19, []),(17, [40, 44, 9, 47, 49]),(13, []),(14, []),(15, []),(16, []),(18, []),(19, [])] [13, 17, 13, 0, 1, 3, 7, 0, 16, 48, 112, 0, 0, 512, 0, 2048, 8191, 16383, 32767, 32767, 16383, 196607, 524287, 0, 1, 3, 7, 0, 16, 48, 112, 0, 0, 512, 0, 2048, 139263, 147455, 163839, 163839, 0, 196607, 524287], .d [(0, 9)] [(5, [10])], .l [12] [(73, 34)], .d [(0, 19)] [(15, [90, 94, 97])], .d [(0, 4),(5, 4),(4, 1),(9, 3)] [(4, [114])], .l [119] [(4, 1),(16, 1),(120, 29)], .d [(0, 11),(12, 11),(11, 1),(23, 2)] [(11, [137, 141, 143, 16])]] Tryz.func3 (by decide +kernel) (by kernel_rfl) fun {_ _ _ _ _} => cast (by kernel_rfl)
def zuY (P : Program) (σ : LO) (Z : ZT) : Prop :=
 zE (zR [iN 0,(.d (.str [])),(.d (.str [])),iN 0,eN] [(0, 1,(iN 1)),(1, 1,(.d (.str [116])))]) σ fun a s =>
 zE (zR [iN 0,iN 0,iN 0,(.d (.str [])),(.d (.str [])),iN 0,eN] [(1, 1,(iN 1)),(2, 5,a)]) s fun b s =>
 m1 7 [iN 0,iN 0,iN 0,(.d (.str [])),(.d (.str [])),iN 0,eN] b s fun c s =>
 zak P (.fn (.func zim) [] []) [dm (iN 2),dm (.d (.int .u8 7))] s fun d s =>
 zak P (.fn (.func zim) [] []) [dm (iN 3),dm (.d (.int .u8 8))] s fun e s =>
 zr false 1 4 (zR (rep [eN] 4) [(0, 1,c),(1, 1,d),(2, 1,e),(3, 1,eN)]) s fun f s =>
 zE (zR [iN 0,eN,(.d (.int .u16 0)),eN,(.d (.str [])),iN 0,eN] [(0, 1,(iN 1)),(1, 1,f),(2, 1,(.d (.int .u16 7)))]) s fun g s =>
 cp [iN 0,eN,(.d (.int .u16 0)),eN,(.d (.str [])),iN 0,eN] 7 g s fun h s =>
 zp true 7 h s fun i s =>
 cA P zcx [i] s fun j s =>
 ze j 0 s fun l s =>
 ze j 1 s fun m s =>
 unC .not m s fun n s =>
 gFm n l s fun o s =>
 gF n (zbr o s) s fun p s =>
 gFl n 4 p s fun q s =>
 gF n (zas .sl q s) s fun r s =>
 gF n (bP .neq r (iN 4) s) s fun u s =>
 orC n u s fun w s =>
 gFm w l s fun y s =>
 gF w (zbr y s) s fun z s =>
 gFl w 5 z s fun A s =>
 gF w (zas .sl A s) s fun B s =>
 gF w (bP .neq B (iN 1) s) s fun C s =>
 orC w C s fun D s =>
 zn D (z1 Z bF s) (zbr l s fun E s =>
 zk 0 E s fun F s =>
 zp false 1 F s fun G s =>
 zbr l s fun H s =>
 zk 4 H s fun I s =>
 zp false 1 I s fun J s =>
 zbr l s fun K s =>
 zk 5 K s fun L s =>
 zp false 1 L s fun M s =>
 zG none 3 M (iN 0) s fun N s =>
 zp true 3 N s fun O s =>
 (fun (Q : AV → AV → LO → Prop) => (cA P zil [G,J,O,(.d (.str [116])),(iN 0)] s fun o1 s =>
 ze o1 0 s fun p1 s =>
 ze o1 1 s fun q1 s =>
 cp [(.d (.str [])),iN 0,eN,eN,iN 0,iN 0,eN,iN 0,iN 0,eN] 10 p1 s fun r1 s =>
 Q r1 q1 s) ∧
 (zQ [(.d (.str [])),iN 0,eN,eN,iN 0,iN 0,eN,iN 0,iN 0,eN] s fun u1 t =>
 zM F s t ∧ (zM I s t ∧ (zM L s t ∧ (zM N s t ∧ (cA P zil [G,J,O,(.d (.str [116])),(iN 0)] t fun w1 s =>
 ze w1 0 s fun y1 s =>
 ze w1 1 s fun A1 s =>
 zo 10 u1 y1 s fun _ s =>
 Q u1 A1 s))))))
 (fun R S s => bP .eql S (iN 0) s fun T s =>
 gTl T 3 R s fun U s =>
 gT T (zas .sl U s) s fun V s =>
 gT T (bP .eql V (iN 3) s) s fun W s =>
 anC T W s fun X s =>
 gTm X l s fun Y s =>
 gT X (zbr Y s) s fun a0 s =>
 gTl X 0 a0 s fun b0 s =>
 gTm X l s fun c0 s =>
 gT X (zbr c0 s) s fun d0 s =>
 gTl X 1 d0 s fun e0 s =>
 gT X (zp true 10 R s) s fun f0 s =>
 gT X (cA P zcG [b0,e0,(iN 1),f0] s) s fun g0 s =>
 gT X (bP .eql g0 (iN 0) s) s fun h0 s =>
 anC X h0 s fun i0 s =>
 gTm i0 l s fun j0 s =>
 gT i0 (zbr j0 s) s fun l0 s =>
 gT i0 (zk 0 l0 s) s fun m0 s =>
 gT i0 (zp false 1 m0 s) s fun o0 s =>
 gTm i0 l s fun p0 s =>
 gT i0 (zbr p0 s) s fun q0 s =>
 gT i0 (zk 1 q0 s) s fun r0 s =>
 gT i0 (zp false 1 r0 s) s fun u0 s =>
 gT i0 (zp true 10 R s) s fun w0 s =>
 gT i0 (m1 1 [(.d (.int .u8 0))] (.d (.int .u8 9)) s) s fun y0 s =>
 gT i0 (zE (zR [iN 0,iN 0,iN 0,eN] [(0, 1,(iN 1)),(3, 1,y0)]) s) s fun z0 s =>
 gT i0 (m1 4 [iN 0,iN 0,iN 0,eN] z0 s) s fun A0 s =>
 gT i0 (cA P zeP [w0,A0] s) s fun B0 t =>
 zM m0 s t ∧ (zM r0 s t ∧ (gT i0 (cA P zcG [o0,u0,(iN 1),B0] t) t fun C0 s =>
 gT i0 (bP .eql C0 (iN 232) s) s fun D0 s =>
 anC i0 D0 s fun E0 s =>
 gTm E0 l s fun F0 s =>
 gT E0 (zbr F0 s) s fun G0 s =>
 gT E0 (zk 0 G0 s) s fun H0 s =>
 gT E0 (zp false 1 H0 s) s fun I0 s =>
 gTm E0 l s fun J0 s =>
 gT E0 (zbr J0 s) s fun K0 s =>
 gT E0 (zk 1 K0 s) s fun L0 s =>
 gT E0 (zp false 1 L0 s) s fun M0 s =>
 gT E0 (zp true 10 R s) s fun N0 s =>
 gT E0 (zE (zR [iN 0,iN 0,iN 0,eN] [(0, 1,(iN 7))]) s) s fun O0 s =>
 gT E0 (m1 4 [iN 0,iN 0,iN 0,eN] O0 s) s fun Q0 s =>
 gT E0 (cA P zeP [N0,Q0] s) s fun R0 t =>
 zM H0 s t ∧ (zM L0 s t ∧ (gT E0 (cA P zcG [I0,M0,(iN 1),R0] t) t fun S0 s =>
 gT E0 (bP .eql S0 (iN 230) s) s fun T0 s =>
 anC E0 T0 s fun U0 s =>
 gTm U0 l s fun V0 s =>
 gT U0 (zbr V0 s) s fun W0 s =>
 gT U0 (zk 0 W0 s) s fun X0 s =>
 gT U0 (zp false 1 X0 s) s fun Y0 s =>
 gTm U0 l s fun a1 s =>
 gT U0 (zbr a1 s) s fun b1 s =>
 gT U0 (zk 1 b1 s) s fun c1 s =>
 gT U0 (zp false 1 c1 s) s fun d1 s =>
 gT U0 (zp true 10 R s) s fun e1 s =>
 gT U0 (zE (zR [iN 0,iN 0,iN 0,eN] [(0, 1,(iN 9))]) s) s fun f1 s =>
 gT U0 (m1 4 [iN 0,iN 0,iN 0,eN] f1 s) s fun g1 s =>
 gT U0 (cA P zeP [e1,g1] s) s fun h1 t =>
 zM X0 s t ∧ (zM c1 s t ∧ (gT U0 (cA P zcG [Y0,d1,(iN 1),h1] t) t fun i1 s =>
 gT U0 (bP .eql i1 (iN 231) s) s fun j1 s =>
 anC U0 j1 s fun l1 s =>
 z1 Z l1 s))))))))
theorem zul : F0 Tryz.prog zpn zuY := zl [.dd [(0, []),(1, []),(2, []),(3, []),(4, []),(5, []),(6, []),(7, []),(8, []),(9, []),(10, []),(11, []),(12, []),(13, []),(14, []),(15, []),(16, []),(17, []),(18, []),(19, []),(20, []),(18, [42, 46, 50, 52]),(14, []),(15, []),(16, []),(17, []),(19, []),(20, [])] [14, 18, 14, 0, 1, 3, 7, 0, 16, 48, 112, 0, 256, 768, 1792, 3840, 7936, 16383, 32767, 65535, 65535, 32767, 393215, 1048575, 0, 1, 3, 7, 0, 16, 48, 112, 0, 256, 768, 1792, 3840, 7936, 278527, 294911, 327679, 327679, 0, 393215, 1048575], .d [(0, 71)] [(34, [81, 85]),(50, [98, 102]),(66, [114, 118])]] Tryz.func8 (by decide +kernel) (by kernel_rfl) fun {_ _ _} => cast (by kernel_rfl)
def zkJ (P : Program) (x0 : AV) (σ : LO) (Z : ZT) : Prop :=
 zaV x0 σ fun a s =>
 zE (zR [eN] []) s fun b s =>
 zaV b s fun c s =>
 zE (zR [eN] []) s fun d s =>
 zaV d s fun e s =>
 cA P zeD [] s fun f s =>
 cA P zdY [] s fun g s =>
 zE (zR [(.d .nilp),(.d .nilp),(.d .nilp),(.d .nilp),eN,eN] [(2, 1,c),(3, 1,e),(0, 1,f),(1, 1,g)]) s fun h s =>
 zaV h s fun i s =>
 nfl 2 i s fun j s =>
 cA P zjT [j] s fun l s =>
 ze l 0 s fun m s =>
 ze l 1 s fun _ s =>
 cp [iN 0,iN 0,iN 0,iN 0,iN 0] 5 m s fun o s =>
 zE (zR [eN,iN 0,iN 0,iN 0,iN 0,iN 0,iN 0,iN 0,iN 0,iN 0,iN 0,iN 0,iN 0,iN 0,iN 0,iN 0,iN 0,iN 0,iN 0,iN 0,iN 0,iN 0,iN 0,iN 0,iN 0] []) s fun p s =>
 zaV p s fun q s =>
 fl 1 a s fun r s =>
 fl 1 a s fun u s =>
 zas .sl u s fun w s =>
 zcM [w,(iN 20)] s fun y s =>
 zbH (.sl 1) r none (some y) none s fun z s =>
 zas .sl z s fun A s =>
 zaM [(iN 0)] s fun v s B =>
 zau v fun C v => bP .lss C A s fun D s =>
 zn D ((fun (E : LO → Prop) => il false 1 1 z C s fun G s =>
 zas .sl G s fun H s =>
 zaM [eN,(iN 0)] s fun v s I =>
 zau v fun J v => zau v fun K v => bP .lss K H s fun L s =>
 zn L ((fun (M : AV → LO → Prop) => il true 7 7 G K s fun Q s =>
 cp [iN 0,iN 0,iN 0,(.d (.str [])),(.d (.str [])),iN 0,eN] 7 Q s fun R s =>
 zbr i s fun S s =>
 zk 2 S s fun T s =>
 zp false 1 T s fun U s =>
 zbr i s fun V s =>
 zk 3 V s fun W s =>
 zp false 1 W s fun X s =>
 zp true 7 R s fun Y s =>
 (fun (a0 : AV → AV → LO → Prop) => (cA P ziY [U,X,Y] s fun h0 s =>
 ze h0 0 s fun i0 s =>
 ze h0 1 s fun j0 s =>
 cp [iN 0,iN 0,iN 0,(.d (.str [])),(.d (.str [])),iN 0,eN,iN 0,iN 0] 9 i0 s fun l0 s =>
 a0 l0 j0 s) ∧
 (zQ [iN 0,iN 0,iN 0,(.d (.str [])),(.d (.str [])),iN 0,eN,iN 0,iN 0] s fun m0 t =>
 zM T s t ∧ (zM W s t ∧ (zM R s t ∧ (cA P ziY [U,X,Y] t fun o0 s =>
 ze o0 0 s fun p0 s =>
 ze o0 1 s fun q0 s =>
 zo 9 m0 p0 s fun _ s =>
 a0 m0 q0 s)))))
 (fun b0 c0 s => bP .eql c0 (iN 0) s fun d0 s =>
 zn d0 (zp true 9 b0 s fun e0 s =>
 m1 9 [iN 0,iN 0,iN 0,(.d (.str [])),(.d (.str [])),iN 0,eN,iN 0,iN 0] e0 s fun f0 s =>
 zw 9 104 J f0 s fun g0 s =>
 M g0 s) (M J s)))
 (fun N s => bP .add K (iN 1) s fun O s =>
 I [N,O] s)) (zbr i s fun u0 s =>
 zk 2 u0 s fun w0 s =>
 zp false 1 w0 s fun y0 s =>
 zp true 5 o s fun z0 s =>
 (fun (A0 : AV → AV → AV → LO → Prop) => (cA P zgW [y0,q,z0,J] s fun h2 s =>
 ze h2 0 s fun i2 s =>
 ze h2 1 s fun j2 s =>
 ze h2 2 s fun _ s =>
 ze h2 3 s fun m2 s =>
 cp [iN 0,iN 0,iN 0,iN 0,iN 0] 5 i2 s fun o2 s =>
 A0 o2 j2 m2 s) ∧
 (zQ [iN 0,iN 0,iN 0,iN 0,iN 0] s fun p2 t =>
 zM w0 s t ∧ (zM o s t ∧ (cA P zgW [y0,q,z0,J] t fun q2 s =>
 ze q2 0 s fun r2 s =>
 ze q2 1 s fun u2 s =>
 ze q2 2 s fun _ s =>
 ze q2 3 s fun y2 s =>
 zo 5 p2 r2 s fun _ s =>
 A0 p2 u2 y2 s))))
 (fun B0 C0 D0 s => bP .neq D0 (iN 0) s fun E0 s =>
 zn E0 (E s) (zp true 5 B0 s fun F0 s =>
 zo 5 o F0 s fun _ s =>
 nfl 4 i s fun H0 s =>
 zp true 5 o s fun I0 s =>
 zE (zR [iN 0,iN 0,iN 0,iN 0,iN 0,eN,eN] [(0, 5,I0),(5, 1,J),(6, 1,C0)]) s fun J0 s =>
 m1 7 [iN 0,iN 0,iN 0,iN 0,iN 0,eN,eN] J0 s fun K0 s =>
 zw 7 88 H0 K0 s fun L0 s =>
 zbr i s fun M0 s =>
 zk 4 M0 s fun N0 s =>
 zo 1 N0 L0 s fun _ s =>
 fl 0 o s fun Q0 s =>
 bP .rem Q0 (iN 4) s fun R0 s =>
 bP .neq R0 (iN 0) s fun S0 s =>
 zn S0 (E s) (nfl 2 i s fun T0 s =>
 zp true 5 o s fun U0 s =>
 cA P zij [T0,U0] s fun V0 s =>
 ze V0 0 s fun W0 s =>
 ze V0 1 s fun _ s =>
 fl 0 o s fun Y0 s =>
 zE (zR [iN 0,iN 0,eN] [(0, 1,Y0),(1, 1,W0)]) s fun a1 s =>
 cp [iN 0,iN 0,eN] 3 a1 s fun b1 s =>
 zk 2 a s fun c1 s =>
 zp false 1 c1 s fun d1 s =>
 fl 0 a s fun e1 s =>
 cA P zrw [e1] s fun f1 t =>
 zM c1 s t ∧ (cA P zpf [d1,f1] t fun g1 s =>
 cA P zpe [g1] s fun h1 s =>
 zas .sl h1 s fun i1 s =>
 zaM [(iN 0)] s fun v s j1 =>
 zau v fun l1 v => bP .lss l1 i1 s fun o1 s =>
 zn o1 ((fun (p1 : LO → Prop) => il false 1 1 h1 l1 s fun r1 s =>
 zbr i s fun u1 s =>
 zk 2 u1 s fun w1 s =>
 zp false 1 w1 s fun y1 s =>
 zbr i s fun A1 s =>
 zk 3 A1 s fun B1 s =>
 zp false 1 B1 s fun C1 s =>
 zk 0 o s fun D1 s =>
 zp false 1 D1 s fun E1 s =>
 (fun (F1 : AV → AV → LO → Prop) => (cA P ziX [y1,C1,r1,(iN 6),(iN 0),E1,W0] s fun Q1 s =>
 ze Q1 0 s fun R1 s =>
 ze Q1 1 s fun S1 s =>
 cp [iN 0,iN 0] 2 R1 s fun T1 s =>
 F1 T1 S1 s) ∧
 (zQ [iN 0,iN 0] s fun U1 t =>
 zM w1 s t ∧ (zM B1 s t ∧ (zM D1 s t ∧ (cA P ziX [y1,C1,r1,(iN 6),(iN 0),E1,W0] t fun V1 s =>
 ze V1 0 s fun W1 s =>
 ze V1 1 s fun X1 s =>
 zo 2 U1 W1 s fun _ s =>
 F1 U1 X1 s)))))
 (fun G1 H1 s => bP .eql H1 (iN 0) s fun I1 s =>
 zn I1 (fl 2 b1 s fun J1 s =>
 zp true 2 G1 s fun K1 s =>
 m1 2 [iN 0,iN 0] K1 s fun L1 s =>
 zw 2 16 J1 L1 s fun M1 s =>
 zk 2 b1 s fun N1 s =>
 zo 1 N1 M1 s fun _ s =>
 p1 s) (p1 s)))
 (fun  s => bP .add l1 (iN 1) s fun q1 s =>
 j1 [q1] s)) (nfl 5 i s fun a2 s =>
 zp true 3 b1 s fun b2 s =>
 m1 3 [iN 0,iN 0,eN] b2 s fun c2 s =>
 zw 3 40 a2 c2 s fun d2 s =>
 zbr i s fun e2 s =>
 zk 5 e2 s fun f2 s =>
 zo 1 f2 d2 s fun _ s =>
 E s)))))))
 (fun  s => bP .add C (iN 1) s fun F s =>
 B [F] s)) (nfl 2 i s fun B2 s =>
 nfl 0 B2 s fun C2 s =>
 zas .sl C2 s fun D2 s =>
 zaM [(iN 0)] s fun v s E2 =>
 zau v fun F2 v => bP .lss F2 D2 s fun G2 s =>
 zn G2 (il false 1 1 C2 F2 s fun H2 s =>
 nfl 0 i s fun I2 s =>
 cA P zbx [I2,H2] s fun J2 s =>
 bP .eql J2 (iN 0) s fun K2 s =>
 zn K2 (z2 Z (.d .nilp) bF s) (bP .add F2 (iN 1) s fun L2 s =>
 E2 [L2] s)) (nfl 3 i s fun M2 s =>
 nfl 0 M2 s fun N2 s =>
 zas .sl N2 s fun O2 s =>
 zaM [(iN 0)] s fun v s Q2 =>
 zau v fun R2 v => bP .lss R2 O2 s fun S2 s =>
 zn S2 (il true 2 2 N2 R2 s fun T2 s =>
 cp [iN 0,iN 0] 2 T2 s fun U2 s =>
 nfl 1 i s fun V2 s =>
 fl 0 U2 s fun W2 s =>
 fl 1 U2 s fun X2 s =>
 cA P zdj [V2,W2,X2] s fun _ s =>
 bP .add R2 (iN 1) s fun a3 s =>
 Q2 [a3] s) (nfl 1 i s fun b3 s =>
 zbr i s fun c3 s =>
 zk 3 c3 s fun d3 s =>
 zp false 1 d3 s fun e3 s =>
 zbr e3 s fun f3 s =>
 zk 0 f3 s fun g3 s =>
 zp false 1 g3 s fun h3 s =>
 zas .sl h3 s fun i3 s =>
 cA P zbX [b3] s fun j3 t =>
 zM d3 s t ∧ (zM g3 s t ∧ (bP .eql j3 i3 t fun l3 s =>
 z2 Z i l3 s)))))
theorem zkv : F1 Tryz.prog zcx zkJ := zl [.l [56] [(9, 2),(12, 10),(23, 3),(57, 123)], .l [10, 62] [(12, 3),(63, 23)], .dd [(0, []),(1, []),(2, []),(3, []),(4, []),(5, []),(6, []),(7, []),(8, []),(9, []),(10, []),(11, []),(12, []),(13, []),(14, []),(15, []),(13, [69, 73, 12]),(9, []),(10, []),(11, []),(12, []),(14, []),(15, [])] [9, 13, 9, 0, 1, 3, 7, 0, 16, 48, 112, 0, 511, 1023, 2047, 2047, 1023, 12287, 32767, 0, 1, 3, 7, 0, 16, 48, 112, 0, 8703, 9215, 10239, 10239, 0, 12287, 32767], .dd [(0, []),(1, []),(2, []),(3, []),(4, []),(5, []),(6, []),(7, []),(8, []),(9, []),(10, []),(11, []),(12, []),(13, []),(14, []),(15, []),(16, []),(17, []),(13, [89, 5]),(7, []),(8, []),(9, []),(10, []),(11, []),(12, []),(14, []),(15, []),(16, []),(17, [])] [7, 13, 7, 0, 1, 3, 7, 0, 0, 0, 127, 255, 511, 511, 511, 511, 255, 9215, 26623, 61439, 131071, 0, 1, 3, 7, 0, 0, 0, 8319, 8447, 8703, 8703, 8703, 8703, 0, 9215, 26623, 61439, 131071], .d [(0, 14)] [], .d [(0, 11)] [], .d [(0, 4),(8, 1),(4, 4)] [(4, [132])], .l [140] [(23, 3),(141, 28)], .dd [(0, []),(1, []),(2, []),(3, []),(4, []),(5, []),(6, []),(7, []),(8, []),(9, []),(10, []),(11, []),(12, []),(13, []),(14, []),(15, []),(16, []),(17, []),(18, []),(16, [147, 151, 154]),(12, []),(13, []),(14, []),(15, []),(17, []),(18, [])] [12, 16, 12, 0, 1, 3, 7, 0, 16, 48, 112, 0, 0, 512, 0, 4095, 8191, 16383, 16383, 8191, 98303, 262143, 0, 1, 3, 7, 0, 16, 48, 112, 0, 0, 512, 0, 69631, 73727, 81919, 81919, 0, 98303, 262143], .d [(0, 11)] [], .l [188] [(2, 2),(27, 1),(189, 11)], .l [208] [(29, 1),(209, 13)], .d [(0, 9)] [], .d [(0, 5),(6, 8),(5, 1),(14, 3)] [(5, [230, 233])]] Tryz.func9 (by decide +kernel) (by kernel_rfl) fun {_ _ _ _} => cast (by kernel_rfl)
def zuI (P : Program) (x0 x1 x2 x3 x4 : AV) (σ : LO) (Z : ZT) : Prop :=
 zaV x2 σ fun a s =>
 zQ [(.d (.str [])),iN 0,eN,eN,iN 0,iN 0,eN,iN 0,iN 0,eN] s fun b s =>
 cA P zpc [x1,x3,x4] s fun c s =>
 ze c 0 s fun d s =>
 ze c 1 s fun e s =>
 ze c 2 s fun f s =>
 unC .not f s fun g s =>
 zn g (zE (zR [(.d (.str [])),iN 0,eN,eN,iN 0,iN 0,eN,iN 0,iN 0,eN] []) s fun h s =>
 zo 10 b h s fun _ s =>
 Z (zC (zaj b s true 10) (zC (some (iN 4)) (some []))) s) (il true 7 7 x1 d s fun j s =>
 cp [iN 0,iN 0,iN 0,iN 0,iN 0,eN,eN] 7 j s fun l s =>
 zk 6 l s fun m s =>
 zp false 1 m s fun n s =>
 zG none 3 n e s fun o s =>
 zk 2 o s fun p s =>
 zp false 1 p s fun q s =>
 zk 6 l s fun r s =>
 zp false 1 r s fun u s =>
 zas .sl u s fun w s =>
 zp true 3 a s fun y s =>
 zE (zR [(.d (.str [])),iN 0,eN,eN,iN 0,iN 0,eN,iN 0,iN 0,eN] [(0, 1,x3),(1, 1,x4),(2, 1,q),(4, 1,e),(5, 1,w),(7, 3,y)]) s fun z s =>
 zQ [(.d (.str [])),iN 0,eN,eN,iN 0,iN 0,eN,iN 0,iN 0,eN] s fun A t =>
 zM m s t ∧ (zM p s t ∧ (zM r s t ∧ (zM a s t ∧ (zo 10 A z t fun _ s =>
 zaM [d] s fun v s C =>
 zau v fun D v => zas .sl x1 s fun E s =>
 bP .eql D E s fun F s =>
 gFm F D s fun G s =>
 gFm F d s fun H s =>
 gF F (bP .gtr G H s) s fun I s =>
 gFm F I s fun J s =>
 gTm J x1 s fun K s =>
 gTm J D s fun L s =>
 gT J (bP .sub L (iN 1) s) s fun M s =>
 gT J (zG none 7 K M s) s fun N s =>
 gT J (zk 0 N s) s fun O s =>
 gTl J 0 O s fun Q s =>
 gT J (bP .add Q (iN 1) s) s fun R s =>
 gTm J x1 s fun S s =>
 gTm J D s fun T s =>
 gT J (zG none 7 S T s) s fun U s =>
 gT J (zk 0 U s) s fun V s =>
 gTl J 0 V s fun W s =>
 gT J (bP .neq R W s) s fun X s =>
 gF F (anC J X s) s fun Y s =>
 orC F Y s fun a0 s =>
 zn a0 (zE (zR [(.d (.str [])),iN 0,eN,eN,iN 0,iN 0,eN,iN 0,iN 0,eN] []) s fun b0 s =>
 zo 10 b b0 s fun _ s =>
 Z (zC (zaj b s true 10) (zC (some (iN 7)) (some []))) s) (fl 3 A s fun d0 s =>
 zG none 7 x1 D s fun e0 s =>
 zk 0 e0 s fun f0 s =>
 zp true 5 f0 s fun g0 s =>
 m1 5 [iN 0,iN 0,iN 0,iN 0,iN 0] g0 s fun h0 s =>
 zw 5 40 d0 h0 s fun i0 s =>
 zk 3 A s fun j0 s =>
 zo 1 j0 i0 s fun _ s =>
 zG none 7 x1 D s fun m0 s =>
 zk 0 m0 s fun o0 s =>
 fl 0 o0 s fun p0 s =>
 fl 0 a s fun q0 s =>
 bP .eql p0 q0 s fun r0 s =>
 zn r0 (fl 6 l s fun u0 s =>
 cA P zii [u0] s fun w0 s =>
 cA P zfE [x0,e,w0] s fun y0 s =>
 ze y0 0 s fun z0 s =>
 ze y0 1 s fun _ s =>
 zk 6 A s fun B0 s =>
 zo 1 B0 z0 s fun _ s =>
 zp true 10 A s fun D0 s =>
 zo 10 b D0 s fun _ s =>
 Z (zC (zaj b s true 10) (zC (some (iN 0)) (some []))) s) (bP .add D (iN 1) s fun F0 s =>
 C [F0] s)))))))
theorem ztV : F5 Tryz.prog zmh zuI := zl [.d [(0, 16)] [(14, [35, 39, 42, 7])], .l [17] [(11, 1),(48, 48)], .d [(0, 26)] [], .d [(0, 11)] [], .d [(0, 9)] []] Tryz.func10 (by decide +kernel) (by kernel_rfl) fun {_ _ _ _ _ _ _ _} => cast (by kernel_rfl)
def zoA (P : Program) (x0 x1 : AV) (σ : LO) (Z : ZT) : Prop :=
 zaV x0 σ fun a s =>
 zQ [(.d (.str [])),iN 0,eN,eN,iN 0,iN 0,eN,iN 0,iN 0,eN] s fun b s =>
 fl 3 a s fun c s =>
 zdn 5 40 eN c s fun d s =>
 zk 3 a s fun e s =>
 zo 1 e d s fun _ s =>
 fl 6 a s fun g s =>
 zdn 1 8 eN g s fun h s =>
 zk 6 a s fun i s =>
 zo 1 i h s fun _ s =>
 zk 7 a s fun l s =>
 fl 2 l s fun m s =>
 zdn 2 16 eN m s fun n s =>
 zk 7 a s fun o s =>
 zk 2 o s fun p s =>
 zo 1 p n s fun _ s =>
 zas .sl x1 s fun r s =>
 zaM [(iN 0)] s fun v s u =>
 zau v fun w v => bP .lss w r s fun y s =>
 zn y ((fun (z : LO → Prop) => il true 4 4 x1 w s fun B s =>
 cp [iN 0,iN 0,iN 0,eN] 4 B s fun C s =>
 fl 0 C s fun D s =>
 bP .eql D (iN 1) s fun E s =>
 zn E (fl 3 C s fun F s =>
 zk 2 a s fun G s =>
 zo 1 G F s fun _ s =>
 z s) (bP .eql D (iN 2) s fun I s =>
 zn I (fl 1 a s fun J s =>
 bP .add J (iN 1) s fun K s =>
 zk 1 a s fun L s =>
 zo 1 L K s fun _ s =>
 z s) (bP .eql D (iN 3) s fun N s =>
 zn N (fl 4 a s fun O s =>
 bP .add O (iN 1) s fun Q s =>
 zk 4 a s fun R s =>
 zo 1 R Q s fun _ s =>
 z s) (bP .eql D (iN 4) s fun T s =>
 zn T (fl 5 a s fun U s =>
 fl 1 C s fun V s =>
 bP .rem V (iN 3) s fun W s =>
 bP .add U W s fun X s =>
 zk 5 a s fun Y s =>
 zo 1 Y X s fun _ s =>
 z s) (bP .eql D (iN 5) s fun b0 s =>
 zn b0 (fl 6 a s fun c0 s =>
 zas .sl c0 s fun d0 s =>
 bP .gtr d0 (iN 0) s fun e0 s =>
 zn e0 (fl 6 a s fun f0 s =>
 fl 1 C s fun g0 s =>
 zah (.int .u64) g0 s fun h0 s =>
 fl 6 a s fun i0 s =>
 zas .sl i0 s fun j0 s =>
 zah (.int .u64) j0 s fun l0 s =>
 bP .rem h0 l0 s fun m0 s =>
 zah (.int .i64) m0 s fun o0 s =>
 fl 2 C s fun p0 s =>
 zG none 1 f0 o0 s fun q0 s =>
 zo 1 q0 p0 s fun _ s =>
 z s) (z s)) (bP .eql D (iN 6) s fun u0 s =>
 zn u0 (fl 3 a s fun w0 s =>
 zas .sl w0 s fun y0 s =>
 bP .gtr y0 (iN 0) s fun z0 s =>
 zn z0 (fl 3 a s fun A0 s =>
 zbH (.sl 5) A0 (some (iN 1)) none none s fun B0 s =>
 zk 3 a s fun C0 s =>
 zo 1 C0 B0 s fun _ s =>
 z s) (z s)) (bP .eql D (iN 7) s fun E0 s =>
 zn E0 (fl 3 a s fun F0 s =>
 zas .sl F0 s fun G0 s =>
 bP .gtr G0 (iN 0) s fun H0 s =>
 zn H0 (fl 3 a s fun I0 s =>
 fl 3 a s fun J0 s =>
 zas .sl J0 s fun K0 s =>
 bP .sub K0 (iN 1) s fun L0 s =>
 zbH (.sl 5) I0 none (some L0) none s fun M0 s =>
 zk 3 a s fun N0 s =>
 zo 1 N0 M0 s fun _ s =>
 z s) (z s)) (bP .eql D (iN 8) s fun Q0 s =>
 zn Q0 (fl 3 a s fun R0 s =>
 zas .sl R0 s fun S0 s =>
 bP .gtr S0 (iN 0) s fun T0 s =>
 zn T0 (fl 3 a s fun U0 s =>
 fl 1 C s fun V0 s =>
 zah (.int .u64) V0 s fun W0 s =>
 fl 3 a s fun X0 s =>
 zas .sl X0 s fun Y0 s =>
 zah (.int .u64) Y0 s fun a1 s =>
 bP .rem W0 a1 s fun b1 s =>
 zah (.int .i64) b1 s fun c1 s =>
 fl 2 C s fun d1 s =>
 zG none 5 U0 c1 s fun e1 s =>
 zk 3 e1 s fun f1 s =>
 zo 1 f1 d1 s fun _ s =>
 z s) (z s)) (bP .eql D (iN 9) s fun h1 s =>
 zn h1 (zk 7 a s fun i1 s =>
 fl 2 i1 s fun j1 s =>
 zas .sl j1 s fun l1 s =>
 bP .gtr l1 (iN 0) s fun o1 s =>
 zn o1 (zk 7 a s fun p1 s =>
 fl 2 p1 s fun q1 s =>
 zbH (.sl 2) q1 (some (iN 1)) none none s fun r1 s =>
 zk 7 a s fun u1 s =>
 zk 2 u1 s fun w1 s =>
 zo 1 w1 r1 s fun _ s =>
 z s) (z s)) (bP .eql D (iN 10) s fun A1 s =>
 zn A1 (fl 2 C s fun B1 s =>
 zk 7 a s fun C1 s =>
 zk 1 C1 s fun D1 s =>
 zo 1 D1 B1 s fun _ s =>
 z s) (bP .eql D (iN 11) s fun F1 s =>
 zn F1 (zk 7 a s fun G1 s =>
 fl 2 G1 s fun H1 s =>
 fl 1 C s fun I1 s =>
 bP .rem I1 (iN 13) s fun J1 s =>
 fl 2 C s fun K1 s =>
 zE (zR [iN 0,iN 0] [(0, 1,J1),(1, 1,K1)]) s fun L1 s =>
 zr true 2 1 (zR (rep [iN 0,iN 0] 1) [(0, 2,L1)]) s fun M1 s =>
 zdn 2 16 H1 M1 s fun N1 s =>
 zk 7 a s fun O1 s =>
 zk 2 O1 s fun Q1 s =>
 zo 1 Q1 N1 s fun _ s =>
 z s) (bP .eql D (iN 12) s fun S1 s =>
 zn S1 (fl 6 a s fun T1 s =>
 fl 2 C s fun U1 s =>
 zr true 1 1 (zR (rep [iN 0] 1) [(0, 1,U1)]) s fun V1 s =>
 zdn 1 8 T1 V1 s fun W1 s =>
 zk 6 a s fun X1 s =>
 zo 1 X1 W1 s fun _ s =>
 z s) (z s)))))))))))))
 (fun  s => bP .add w (iN 1) s fun A s =>
 u [A] s)) (zp true 10 a s fun a2 s =>
 zo 10 b a2 s fun _ s =>
 Z (zC (zaj b s true 10) (some [])) s)
theorem znX : F2 Tryz.prog zeP zoA := formM_of [.l [23] [(6, 1),(24, 140)], .d [(0, 15)] [], .d [(0, 16)] []] Tryz.func11 (by decide +kernel) (by kernel_rfl) fun {_ _ _ _ _} => cast (by kernel_rfl)
def zjF (P : Program) (x0 : AV) (σ : LO) (Z : ZT) : Prop :=
 cA P zbW [x0] σ fun a s =>
 zn a (z1 Z (iN 0) s) (nfl 0 x0 s fun b s =>
 zas .sl b s fun c s =>
 z1 Z c s)
theorem zjq : F1 Tryz.prog zbI zjF := zl [] Tryz.func12 (by decide +kernel) (by kernel_rfl) fun {_ _ _ _} => cast (by kernel_rfl)
def zjE (P : Program) (x0 x1 : AV) (σ : LO) (Z : ZT) : Prop :=
 cA P zbW [x0] σ fun a s =>
 zn a (z1 Z (iN 0) s) (nfl 1 x0 s fun b s =>
 zah .toStr x1 s fun c s =>
 zaE .str true (iN 0) b c s fun d s =>
 ze d 0 s fun e s =>
 ze d 1 s fun f s =>
 zn f (z1 Z e s) (nfl 0 x0 s fun g s =>
 zas .sl g s fun h s =>
 bP .geq h (iN 1048576) s fun i s =>
 zn i (z1 Z (iN 0) s) (zbr x0 s fun j s =>
 zk 0 j s fun l s =>
 zp false 1 l s fun m s =>
 cA P zka [x1] s fun n t =>
 zM l s t ∧ (m1 1 [eN] n t fun o s =>
 zw 1 24 m o s fun p s =>
 zbr x0 s fun q s =>
 zk 0 q s fun r s =>
 zo 1 r p s fun _ s =>
 nfl 0 x0 s fun w s =>
 zas .sl w s fun y s =>
 nfl 1 x0 s fun z s =>
 zah .toStr x1 s fun A s =>
 zaJ .str z A y s fun _ s =>
 z1 Z y s))))
theorem zjp : F2 Tryz.prog zbx zjE := zl [.d [(0, 12)] [], .d [(0, 12)] [(6, [31])], .d [(0, 8)] []] Tryz.func13 (by decide +kernel) (by kernel_rfl) fun {_ _ _ _ _} => cast (by kernel_rfl)
def ziE (P : Program) (x0 : AV) (σ : LO) (Z : ZT) : Prop :=
 cA P zbJ [x0] σ fun a s =>
 zn a (z1 Z (iN 0) s) (nfl 0 x0 s fun b s =>
 zas .sl b s fun c s =>
 z1 Z c s)
theorem ziu : F1 Tryz.prog zbX ziE := zl [] Tryz.func14 (by decide +kernel) (by kernel_rfl) fun {_ _ _ _} => cast (by kernel_rfl)
def zmX (P : Program) (x0 x1 x2 x3 : AV) (σ : LO) (Z : ZT) : Prop :=
 zaV x3 σ fun a s =>
 cA P zaR [x0] s fun b s =>
 zcI .eql .ptr b (.d .nilp) s fun c s =>
 gFm c x1 s fun d s =>
 gF c (cA P zcg [d] s) s fun e s =>
 gF c (zcI .eql .ptr e (.d .nilp) s) s fun f s =>
 orC c f s fun g s =>
 zn g (z1 Z (iN 2) s) (cA P zey [x2] s fun h s =>
 bP .neq h (iN 0) s fun i s =>
 zn i (z1 Z h s) (zp true 10 a s fun j s =>
 cA P zet [j] s fun l s =>
 bP .neq l (iN 0) s fun m s =>
 zn m (z1 Z l s) (zp true 10 a s fun n s =>
 cA P zhu [x0,n] s fun o s =>
 unC .not o s fun p s =>
 zn p (z1 Z (iN 230) s) (zk 7 a s fun q s =>
 zp true 3 q s fun r s =>
 cA P zjX [x0,x1,x2,r] s fun u s =>
 unC .not u s fun w s =>
 zn w (z1 Z (iN 231) s) (fl 0 a s fun y s =>
 fl 1 a s fun z s =>
 fl 2 a s fun A s =>
 zE (zR [(.d (.str [])),iN 0,eN] [(0, 1,y),(1, 1,z),(2, 1,A)]) s fun B s =>
 cA P zcL [B] s fun C s =>
 fl 3 a s fun D s =>
 zG none 5 D (iN 0) s fun E s =>
 fl 3 E s fun F s =>
 fl 4 a s fun G s =>
 fl 5 a s fun H s =>
 fl 6 a s fun I s =>
 cA P zhv [x0,F,C,G,H,I] s fun J s =>
 unC .not J s fun K s =>
 zn K (z1 Z (iN 232) s) (z1 Z (iN 0) s))))))
theorem zmK : F4 Tryz.prog zcG zmX := zl [.d [(0, 15)] []] Tryz.func15 (by decide +kernel) (by kernel_rfl) fun {_ _ _ _ _ _ _} => cast (by kernel_rfl)
def zqq (P : Program) (x0 x1 x2 x3 : AV) (σ : LO) (Z : ZT) : Prop :=
 zaV x3 σ fun a s =>
 cA P zfz [x2] s fun b s =>
 bP .neq b (iN 0) s fun c s =>
 zn c (z1 Z b s) (zp true 10 a s fun d s =>
 cA P zgq [d] s fun e s =>
 bP .neq e (iN 0) s fun f s =>
 zn f (z1 Z e s) (fl 3 a s fun g s =>
 zas .sl g s fun h s =>
 bP .eql h (iN 0) s fun i s =>
 gFm i x0 s fun j s =>
 gFl i 3 a s fun l s =>
 gF i (cA P znh [j,l] s) s fun m s =>
 gF i (unC .not m s) s fun n s =>
 orC i n s fun o s =>
 zn o (z1 Z (iN 230) s) (fl 3 a s fun p s =>
 fl 3 a s fun q s =>
 zas .sl q s fun r s =>
 bP .sub r (iN 1) s fun u s =>
 il true 5 5 p u s fun w s =>
 cp [iN 0,iN 0,iN 0,iN 0,iN 0] 5 w s fun y s =>
 zp true 5 y s fun z s =>
 cA P zhr [z] s fun A s =>
 ze A 0 s fun B s =>
 ze A 1 s fun _ s =>
 cA P zbs [x0,B] s fun D s =>
 ze D 0 s fun E s =>
 ze D 1 s fun F s =>
 fl 0 y s fun G s =>
 zk 7 a s fun H s =>
 fl 0 H s fun I s =>
 bP .neq G I s fun J s =>
 gFm J F s fun K s =>
 gF J (unC .not K s) s fun L s =>
 orC J L s fun M s =>
 gFm M E s fun N s =>
 gF M (zk 7 a s) s fun O s =>
 gFl M 1 O s fun Q s =>
 gF M (bP .neq N Q s) s fun R s =>
 orC M R s fun S s =>
 zn S (z1 Z (iN 230) s) (zk 7 a s fun T s =>
 zp true 3 T s fun U s =>
 cA P zng [x0,x1,x2,U] s fun V s =>
 unC .not V s fun W s =>
 zn W (z1 Z (iN 231) s) (fl 0 a s fun X s =>
 fl 1 a s fun Y s =>
 fl 2 a s fun a0 s =>
 zE (zR [(.d (.str [])),iN 0,eN] [(0, 1,X),(1, 1,Y),(2, 1,a0)]) s fun b0 s =>
 cA P zdV [b0] s fun c0 s =>
 fl 3 a s fun d0 s =>
 zG none 5 d0 (iN 0) s fun e0 s =>
 fl 3 e0 s fun f0 s =>
 fl 4 a s fun g0 s =>
 fl 5 a s fun h0 s =>
 fl 6 a s fun i0 s =>
 cA P zlh [x0,f0,c0,g0,h0,i0] s fun j0 s =>
 unC .not j0 s fun l0 s =>
 zn l0 (z1 Z (iN 232) s) (z1 Z (iN 0) s))))))
theorem zpX : F4 Tryz.prog zlc zqq := zl [.d [(0, 15)] []] Tryz.func16 (by decide +kernel) (by kernel_rfl) fun {_ _ _ _ _ _ _} => cast (by kernel_rfl)
def zsD (P : Program) (x0 : AV) (σ : LO) (Z : ZT) : Prop :=
 bP .lss x0 (iN 1) σ fun a s =>
 gFm a x0 s fun b s =>
 gF a (bP .gtr b (iN 4) s) s fun c s =>
 orC a c s fun d s =>
 zn d (z1 Z (iN 120) s) (z1 Z (iN 0) s)
theorem zrS : F1 Tryz.prog zfz zsD := zl [] Tryz.func17 (by decide +kernel) (by kernel_rfl) fun {_ _ _ _} => cast (by kernel_rfl)
def zuL (P : Program) (x0 x1 : AV) (σ : LO) (Z : ZT) : Prop :=
 zaM [eN,(iN 0)] σ fun v s a =>
 zau v fun b v => zau v fun c v => bP .lss c (iN 13) s fun d s =>
 zn d ((fun (e : AV → LO → Prop) => cA P zld [x0,c] s fun h s =>
 gTm h x1 s fun i s =>
 gTm h c s fun j s =>
 gT h (cA P zld [i,j] s) s fun l s =>
 anC h l s fun m s =>
 zn m (m1 1 [iN 0] c s fun n s =>
 zw 1 8 b n s fun o s =>
 e o s) (e b s))
 (fun f s => bP .add c (iN 1) s fun g s =>
 a [f,g] s)) (cA P zqX [b] s fun p s =>
 z1 Z p s)
theorem ztY : F2 Tryz.prog zpf zuL := zl [.l [5, 6] [(7, 16)]] Tryz.func19 (by decide +kernel) (by kernel_rfl) fun {_ _ _ _ _} => cast (by kernel_rfl)
def S_r12_All (P : Program) (x0 : AV) (σ : LO) (Z : ZT) : Prop :=
 zaM [eN,(iN 0)] σ fun v s a =>
 zau v fun b v => zau v fun c v => cA P zgV [x0] s fun d s =>
 bP .lss c d s fun e s =>
 zn e (m1 1 [iN 0] c s fun f s =>
 zw 1 8 b f s fun g s =>
 bP .add c (iN 1) s fun h s =>
 a [g,h] s) (cA P zqX [b] s fun i s =>
 z1 Z i s)
theorem e_r12_All : F1 Tryz.prog zrw S_r12_All := zl [.l [3, 4] [(5, 10)]] Tryz.func20 (by decide +kernel) (by kernel_rfl) fun {_ _ _ _} => cast (by kernel_rfl)
def S_r12_Has (P : Program) (x0 x1 : AV) (σ : LO) (Z : ZT) : Prop :=
 zaM [x0,(iN 0)] σ fun v s a =>
 zau v fun b v => zau v fun c v => bP .lss c (iN 13) s fun d s =>
 zn d (bP .eql c x1 s fun e s =>
 gTm e b s fun f s =>
 gT e (bP .rem f (.d (.int .u16 2)) s) s fun g s =>
 gT e (bP .eql g (.d (.int .u16 1)) s) s fun h s =>
 anC e h s fun i s =>
 zn i (z1 Z bT s) (bP .quo b (.d (.int .u16 2)) s fun j s =>
 bP .add c (iN 1) s fun l s =>
 a [j,l] s)) (z1 Z bF s)
theorem e_r12_Has : F2 Tryz.prog zld S_r12_Has := zl [.l [0, 5] [(4, 1),(6, 14)]] Tryz.func21 (by decide +kernel) (by kernel_rfl) fun {_ _ _ _ _} => cast (by kernel_rfl)
def zhY (P : Program) (x0 x1 x2 : AV) (σ : LO) (Z : ZT) : Prop :=
 zQ [iN 0,iN 0] σ fun a s =>
 cA P zbJ [x0] s fun b s =>
 zn b (zE (zR [iN 0,iN 0] []) s fun c s =>
 zo 2 a c s fun _ s =>
 Z (zC (zaj a s true 2) (zC (some (iN 2)) (some []))) s) (bP .lss x1 (iN 0) s fun e s =>
 gFm e x1 s fun f s =>
 gF e (bP .geq f (iN 21) s) s fun g s =>
 orC e g s fun h s =>
 zn h (zE (zR [iN 0,iN 0] []) s fun i s =>
 zo 2 a i s fun _ s =>
 Z (zC (zaj a s true 2) (zC (some (iN 20)) (some []))) s) (bP .lss x2 (iN 1) s fun l s =>
 zn l (zE (zR [iN 0,iN 0] []) s fun m s =>
 zo 2 a m s fun _ s =>
 Z (zC (zaj a s true 2) (zC (some (iN 1)) (some []))) s) (zE (zR [iN 0,iN 0] [(0, 1,x1),(1, 1,x2)]) s fun o s =>
 cp [iN 0,iN 0] 2 o s fun p s =>
 (fun (q : LO → Prop) => nfl 1 x0 s fun w s =>
 zp true 2 p s fun y s =>
 zaE (.ints 2) false bF w y s fun z s =>
 unC .not z s fun A s =>
 zn A (nfl 1 x0 s fun B s =>
 zp true 2 p s fun C s =>
 zaJ (.ints 2) B C bT s fun _ s =>
 nfl 0 x0 s fun E s =>
 zp true 2 p s fun F s =>
 m1 2 [iN 0,iN 0] F s fun G s =>
 zw 2 16 E G s fun H s =>
 zbr x0 s fun I s =>
 zk 0 I s fun J s =>
 zo 1 J H s fun _ s =>
 q s) (q s))
 (fun  s => zp true 2 p s fun r s =>
 zo 2 a r s fun _ s =>
 Z (zC (zaj a s true 2) (zC (some (iN 0)) (some []))) s))))
theorem zhK : F3 Tryz.prog zdj zhY := zl [.d [(0, 7)] [], .d [(0, 6)] [], .d [(0, 11)] []] Tryz.func22 (by decide +kernel) (by kernel_rfl) fun {_ _ _ _ _ _} => cast (by kernel_rfl)
def zqA (P : Program) (x0 x1 x2 x3 x4 : AV) (σ : LO) (Z : ZT) : Prop :=
 zaV x2 σ fun a s =>
 zaV x3 s fun b s =>
 zaV x4 s fun c s =>
 zQ [(.d (.str [])),iN 0,eN,eN,iN 0,iN 0,eN,iN 0,iN 0,eN] s fun d s =>
 cA P zaR [x0] s fun e s =>
 zcI .eql .ptr e (.d .nilp) s fun f s =>
 zn f (zE (zR [(.d (.str [])),iN 0,eN,eN,iN 0,iN 0,eN,iN 0,iN 0,eN] []) s fun g s =>
 zo 10 d g s fun _ s =>
 Z (zC (zaj d s true 10) (zC (some (iN 2)) (some []))) s) (zas .sl x1 s fun i s =>
 zaM [(iN 0)] s fun v s j =>
 zau v fun l v => bP .lss l i s fun m s =>
 zn m (il true 7 7 x1 l s fun n s =>
 zQ [iN 0,iN 0,iN 0,iN 0,iN 0,eN,eN] s fun o s =>
 zo 7 o n s fun _ s =>
 fl 6 o s fun q s =>
 cA P zaO [q,(.fn (.func ziI) [] [b,c])] s fun r s =>
 bP .lss r (iN 0) s fun u s =>
 zn u (bP .add l (iN 1) s fun w s =>
 j [w] s) (zbH (.sl 7) x1 (some l) none none s fun y s =>
 fl 0 a s fun z s =>
 cA P znk [y,z] s fun A s =>
 ze A 0 s fun B s =>
 ze A 1 s fun C s =>
 unC .not C s fun D s =>
 zn D (zE (zR [(.d (.str [])),iN 0,eN,eN,iN 0,iN 0,eN,iN 0,iN 0,eN] []) s fun E s =>
 zo 10 d E s fun _ s =>
 Z (zC (zaj d s true 10) (zC (some (iN 7)) (some []))) s) (fl 6 o s fun G s =>
 cA P ziK [G] s fun H s =>
 cA P ziJ [x0,r,H] s fun I s =>
 ze I 0 s fun J s =>
 ze I 1 s fun K s =>
 bP .neq K (iN 0) s fun L s =>
 zn L (zE (zR [(.d (.str [])),iN 0,eN,eN,iN 0,iN 0,eN,iN 0,iN 0,eN] []) s fun M s =>
 zo 10 d M s fun _ s =>
 Z (zC (zaj d s true 10) (zC (some K) (some []))) s) (fl 2 a s fun O s =>
 cA P zbF [O] s fun Q s =>
 zk 2 a s fun R s =>
 zo 1 R Q s fun _ s =>
 zp false 1 b s fun T s =>
 zp false 1 c s fun U s =>
 fl 6 o s fun V s =>
 zG none 3 V r s fun W s =>
 fl 2 W s fun X s =>
 zk 6 o s fun Y s =>
 zp false 1 Y s fun a0 s =>
 zas .sl a0 s fun b0 s =>
 zp true 3 a s fun c0 s =>
 cA P zbP [X] s fun d0 t =>
 zM b s t ∧ (zM c s t ∧ (zM Y s t ∧ (zM a s t ∧ (zE (zR [(.d (.str [])),iN 0,eN,eN,iN 0,iN 0,eN,iN 0,iN 0,eN] [(0, 1,T),(1, 1,U),(2, 1,d0),(3, 1,B),(4, 1,r),(5, 1,b0),(6, 1,J),(7, 3,c0)]) t fun e0 s =>
 zo 10 d e0 s fun _ s =>
 Z (zC (zaj d s true 10) (zC (some (iN 0)) (some []))) s)))))))) (zE (zR [(.d (.str [])),iN 0,eN,eN,iN 0,iN 0,eN,iN 0,iN 0,eN] []) s fun g0 s =>
 zo 10 d g0 s fun _ s =>
 Z (zC (zaj d s true 10) (zC (some (iN 4)) (some []))) s))
theorem zqh : F5 Tryz.prog zil zqA := zl [.l [25] [(11, 8),(26, 57)], .d [(0, 11)] [], .d [(0, 8),(9, 7),(8, 1),(16, 3)] [(8, [8, 9, 76, 7])]] Tryz.func23 (by decide +kernel) (by kernel_rfl) fun {_ _ _ _ _ _ _ _} => cast (by kernel_rfl)
end Go.Proofs.YtncpaekiidpchaaGreat
