/- The conditions of each function, its slots as variables, and that the logic's conditions are these. Printed by program. -/
import Derived.Test.YtncpaekiidpchaaGreatNm
import Derived.KernelRfl
set_option linter.all false
set_option maxRecDepth 100000
namespace Go.Proofs.YtncpaekiidpchaaGreat
open Go.AW
def zhw (P : Program) (x0 : AV) (σ : LO) (Z : ZT) : Prop :=
 zbu x0 σ fun a s =>
 cA P zoG [] s fun b s =>
 unC .not b s fun c s =>
 zp c (z1 Z bF s) (zq true 7 a s fun d s =>
 cA P zcq [d] s fun e s =>
 ze e 0 s fun f s =>
 ze e 1 s fun g s =>
 unC .not g s fun h s =>
 zp h (z1 Z bF s) (zl 2 a s fun i s =>
 zq false 1 i s fun j s =>
 fl 0 a s fun l s =>
 zl 0 a s fun m s =>
 zq false 1 m s fun n s =>
 cA P zne [l] s fun o t =>
 zQ i s t ∧ (zQ m s t ∧ (cA P zlu [j,o] t fun p s =>
 zQ m t s ∧ (cA P zox [p] s fun q t =>
 zQ m s t ∧ (cA P zqC [n] t fun r s =>
 bP .lss q r s fun u s =>
 gFl u 0 a s fun w s =>
 gF u (cA P zgS [w] s) s fun y s =>
 gF u (bP .neq y (iN 0) s) s fun z s =>
 orC u z s fun A s =>
 zp A (z1 Z bT s) (nfl 5 f s fun B s =>
 zaw .sl B s fun C s =>
 zbe [(iN 0)] s fun v s D =>
 zay v fun E v => bP .lss E C s fun F s =>
 zp F (il true 3 3 B E s fun G s =>
 cp [iN 0,iN 0,eN] 3 G s fun H s =>
 nfl 4 f s fun I s =>
 zaw .sl I s fun J s =>
 zbe [(iN 0)] s fun v s K =>
 zay v fun L v => bP .lss L J s fun M s =>
 zp M (il true 7 7 I L s fun N s =>
 cp [iN 0,iN 0,iN 0,iN 0,iN 0,eN,eN] 7 N s fun O s =>
 fl 6 O s fun Q s =>
 zaw .sl Q s fun R s =>
 zbe [(iN 0)] s fun v s S =>
 zay v fun T v => bP .lss T R s fun U s =>
 zp U ((fun (V : LO → Prop) => il true 3 3 Q T s fun X s =>
 cp [(.d (.str [])),iN 0,eN] 3 X s fun Y s =>
 zby f s fun a0 s =>
 zl 0 a0 s fun b0 s =>
 zq false 1 b0 s fun c0 s =>
 zby f s fun d0 s =>
 zl 4 d0 s fun e0 s =>
 zq false 1 e0 s fun f0 s =>
 zq true 3 H s fun g0 s =>
 zl 0 Y s fun h0 s =>
 zq false 1 h0 s fun i0 s =>
 zl 1 Y s fun j0 s =>
 zq false 1 j0 s fun l0 s =>
 (fun (m0 : AV → AV → LO → Prop) => (cA P zeC [c0,f0,g0,i0,l0] s fun T0 s =>
 ze T0 0 s fun U0 s =>
 ze T0 1 s fun V0 s =>
 cp [(.d (.str [])),iN 0,eN,eN,iN 0,iN 0,eN,iN 0,iN 0,eN] 10 U0 s fun W0 s =>
 m0 W0 V0 s) ∧
 (zP [(.d (.str [])),iN 0,eN,eN,iN 0,iN 0,eN,iN 0,iN 0,eN] s fun X0 t =>
 zQ b0 s t ∧ (zQ e0 s t ∧ (zQ H s t ∧ (zQ h0 s t ∧ (zQ j0 s t ∧ (cA P zeC [c0,f0,g0,i0,l0] t fun Y0 s =>
 ze Y0 0 s fun a1 s =>
 ze Y0 1 s fun b1 s =>
 zo 10 X0 a1 s fun _ s =>
 m0 X0 b1 s)))))))
 (fun o0 p0 s => zl 0 O s fun q0 s =>
 fl 0 q0 s fun r0 s =>
 fl 0 H s fun u0 s =>
 bP .gtr r0 u0 s fun w0 s =>
 zp w0 (bP .neq p0 (iN 7) s fun y0 s =>
 zp y0 (z1 Z bF s) (V s)) (bP .neq p0 (iN 0) s fun z0 s =>
 gF z0 (zq true 10 o0 s) s fun A0 s =>
 gF z0 (zl 0 O s) s fun B0 s =>
 gF z0 (zl 0 B0 s) s fun C0 s =>
 gF z0 (zq false 1 C0 s) s fun D0 s =>
 gF z0 (cA P zjr [A0] s) s fun E0 t =>
 zQ C0 s t ∧ (gF z0 (bP .neq E0 D0 t) t fun F0 s =>
 orC z0 F0 s fun G0 s =>
 gFm G0 f s fun H0 s =>
 gF G0 (zby H0 s) s fun I0 s =>
 gFl G0 0 I0 s fun J0 s =>
 gFm G0 f s fun K0 s =>
 gF G0 (zby K0 s) s fun L0 s =>
 gFl G0 1 L0 s fun M0 s =>
 gFl G0 0 a s fun N0 s =>
 gF G0 (zq true 10 o0 s) s fun O0 s =>
 gF G0 (cA P zcB [J0,M0,N0,O0] s) s fun Q0 s =>
 gF G0 (bP .neq Q0 (iN 0) s) s fun R0 s =>
 orC G0 R0 s fun S0 s =>
 zp S0 (z1 Z bF s) (V s)))))
 (fun  s => bP .add T (iN 1) s fun W s =>
 S [W] s)) (bP .add L (iN 1) s fun d1 s =>
 K [d1] s)) (bP .add E (iN 1) s fun e1 s =>
 D [e1] s)) (z1 Z bT s))))))))
theorem zhj : F1 Tryz.prog zen zhw := zm [.d [(0, 4),(7, 2),(4, 3),(9, 8)] [(4, [22, 29]),(5, [29]),(6, [29])], .l [44] [(2, 1),(6, 1),(8, 1),(10, 3),(45, 72)], .l [53] [(2, 1),(8, 1),(10, 3),(54, 62)], .l [60] [(2, 1),(10, 3),(61, 54)], .dd [(0, []),(1, []),(2, []),(3, []),(4, []),(5, []),(6, []),(7, []),(8, []),(9, []),(10, []),(11, []),(12, []),(13, []),(14, []),(15, []),(16, []),(17, []),(18, []),(19, []),(17, [67, 71, 6, 74, 76]),(13, []),(14, []),(15, []),(16, []),(18, []),(19, [])] [13, 17, 13, 0, 1, 3, 7, 0, 16, 48, 112, 0, 0, 512, 0, 2048, 8191, 16383, 32767, 32767, 16383, 196607, 524287, 0, 1, 3, 7, 0, 16, 48, 112, 0, 0, 512, 0, 2048, 139263, 147455, 163839, 163839, 0, 196607, 524287], .d [(0, 4),(5, 3),(4, 1),(8, 17)] [(4, [95])]] Tryz.func6 (by decide +kernel) (by kernel_rfl) fun {_ _ _ _} => cast (by kernel_rfl)
def ztG (P : Program) (σ : LO) (Z : ZT) : Prop :=
 zC (zS [iN 0,(.d (.str [])),(.d (.str [])),iN 0,eN] [(0, 1,(iN 1)),(1, 1,(.d (.str [116])))]) σ fun a s =>
 zC (zS [iN 0,iN 0,iN 0,(.d (.str [])),(.d (.str [])),iN 0,eN] [(1, 1,(iN 1)),(2, 5,a)]) s fun b s =>
 m1 7 [iN 0,iN 0,iN 0,(.d (.str [])),(.d (.str [])),iN 0,eN] b s fun c s =>
 zal P (.fn (.func zhL) [] []) [dm (iN 2),dm (.d (.int .u8 7))] s fun d s =>
 zal P (.fn (.func zhL) [] []) [dm (iN 3),dm (.d (.int .u8 8))] s fun e s =>
 zt false 1 4 (zS (rep [eN] 4) [(0, 1,c),(1, 1,d),(2, 1,e),(3, 1,eN)]) s fun f s =>
 zC (zS [iN 0,eN,(.d (.int .u16 0)),eN,(.d (.str [])),iN 0,eN] [(0, 1,(iN 1)),(1, 1,f),(2, 1,(.d (.int .u16 7)))]) s fun g s =>
 cp [iN 0,eN,(.d (.int .u16 0)),eN,(.d (.str [])),iN 0,eN] 7 g s fun h s =>
 zq true 7 h s fun i s =>
 cA P zcq [i] s fun j s =>
 ze j 0 s fun l s =>
 ze j 1 s fun m s =>
 unC .not m s fun n s =>
 gFm n l s fun o s =>
 gF n (zby o s) s fun p s =>
 gFl n 4 p s fun q s =>
 gF n (zaw .sl q s) s fun r s =>
 gF n (bP .neq r (iN 4) s) s fun u s =>
 orC n u s fun w s =>
 gFm w l s fun y s =>
 gF w (zby y s) s fun z s =>
 gFl w 5 z s fun A s =>
 gF w (zaw .sl A s) s fun B s =>
 gF w (bP .neq B (iN 1) s) s fun C s =>
 orC w C s fun D s =>
 zp D (z1 Z bF s) (zby l s fun E s =>
 zl 0 E s fun F s =>
 zq false 1 F s fun G s =>
 zby l s fun H s =>
 zl 4 H s fun I s =>
 zq false 1 I s fun J s =>
 zby l s fun K s =>
 zl 5 K s fun L s =>
 zq false 1 L s fun M s =>
 zH none 3 M (iN 0) s fun N s =>
 zq true 3 N s fun O s =>
 (fun (Q : AV → AV → LO → Prop) => (cA P zeC [G,J,O,(.d (.str [116])),(iN 0)] s fun o1 s =>
 ze o1 0 s fun p1 s =>
 ze o1 1 s fun q1 s =>
 cp [(.d (.str [])),iN 0,eN,eN,iN 0,iN 0,eN,iN 0,iN 0,eN] 10 p1 s fun r1 s =>
 Q r1 q1 s) ∧
 (zP [(.d (.str [])),iN 0,eN,eN,iN 0,iN 0,eN,iN 0,iN 0,eN] s fun u1 t =>
 zQ F s t ∧ (zQ I s t ∧ (zQ L s t ∧ (zQ N s t ∧ (cA P zeC [G,J,O,(.d (.str [116])),(iN 0)] t fun w1 s =>
 ze w1 0 s fun y1 s =>
 ze w1 1 s fun A1 s =>
 zo 10 u1 y1 s fun _ s =>
 Q u1 A1 s))))))
 (fun R S s => bP .eql S (iN 0) s fun T s =>
 gTl T 3 R s fun U s =>
 gT T (zaw .sl U s) s fun V s =>
 gT T (bP .eql V (iN 3) s) s fun W s =>
 anC T W s fun X s =>
 gTm X l s fun Y s =>
 gT X (zby Y s) s fun a0 s =>
 gTl X 0 a0 s fun b0 s =>
 gTm X l s fun c0 s =>
 gT X (zby c0 s) s fun d0 s =>
 gTl X 1 d0 s fun e0 s =>
 gT X (zq true 10 R s) s fun f0 s =>
 gT X (cA P zcB [b0,e0,(iN 1),f0] s) s fun g0 s =>
 gT X (bP .eql g0 (iN 0) s) s fun h0 s =>
 anC X h0 s fun i0 s =>
 gTm i0 l s fun j0 s =>
 gT i0 (zby j0 s) s fun l0 s =>
 gT i0 (zl 0 l0 s) s fun m0 s =>
 gT i0 (zq false 1 m0 s) s fun o0 s =>
 gTm i0 l s fun p0 s =>
 gT i0 (zby p0 s) s fun q0 s =>
 gT i0 (zl 1 q0 s) s fun r0 s =>
 gT i0 (zq false 1 r0 s) s fun u0 s =>
 gT i0 (zq true 10 R s) s fun w0 s =>
 gT i0 (m1 1 [(.d (.int .u8 0))] (.d (.int .u8 9)) s) s fun y0 s =>
 gT i0 (zC (zS [iN 0,iN 0,iN 0,eN] [(0, 1,(iN 1)),(3, 1,y0)]) s) s fun z0 s =>
 gT i0 (m1 4 [iN 0,iN 0,iN 0,eN] z0 s) s fun A0 s =>
 gT i0 (cA P zfA [w0,A0] s) s fun B0 t =>
 zQ m0 s t ∧ (zQ r0 s t ∧ (gT i0 (cA P zcB [o0,u0,(iN 1),B0] t) t fun C0 s =>
 gT i0 (bP .eql C0 (iN 232) s) s fun D0 s =>
 anC i0 D0 s fun E0 s =>
 gTm E0 l s fun F0 s =>
 gT E0 (zby F0 s) s fun G0 s =>
 gT E0 (zl 0 G0 s) s fun H0 s =>
 gT E0 (zq false 1 H0 s) s fun I0 s =>
 gTm E0 l s fun J0 s =>
 gT E0 (zby J0 s) s fun K0 s =>
 gT E0 (zl 1 K0 s) s fun L0 s =>
 gT E0 (zq false 1 L0 s) s fun M0 s =>
 gT E0 (zq true 10 R s) s fun N0 s =>
 gT E0 (zC (zS [iN 0,iN 0,iN 0,eN] [(0, 1,(iN 7))]) s) s fun O0 s =>
 gT E0 (m1 4 [iN 0,iN 0,iN 0,eN] O0 s) s fun Q0 s =>
 gT E0 (cA P zfA [N0,Q0] s) s fun R0 t =>
 zQ H0 s t ∧ (zQ L0 s t ∧ (gT E0 (cA P zcB [I0,M0,(iN 1),R0] t) t fun S0 s =>
 gT E0 (bP .eql S0 (iN 230) s) s fun T0 s =>
 anC E0 T0 s fun U0 s =>
 gTm U0 l s fun V0 s =>
 gT U0 (zby V0 s) s fun W0 s =>
 gT U0 (zl 0 W0 s) s fun X0 s =>
 gT U0 (zq false 1 X0 s) s fun Y0 s =>
 gTm U0 l s fun a1 s =>
 gT U0 (zby a1 s) s fun b1 s =>
 gT U0 (zl 1 b1 s) s fun c1 s =>
 gT U0 (zq false 1 c1 s) s fun d1 s =>
 gT U0 (zq true 10 R s) s fun e1 s =>
 gT U0 (zC (zS [iN 0,iN 0,iN 0,eN] [(0, 1,(iN 9))]) s) s fun f1 s =>
 gT U0 (m1 4 [iN 0,iN 0,iN 0,eN] f1 s) s fun g1 s =>
 gT U0 (cA P zfA [e1,g1] s) s fun h1 t =>
 zQ X0 s t ∧ (zQ c1 s t ∧ (gT U0 (cA P zcB [Y0,d1,(iN 1),h1] t) t fun i1 s =>
 gT U0 (bP .eql i1 (iN 231) s) s fun j1 s =>
 anC U0 j1 s fun l1 s =>
 z1 Z l1 s))))))))
theorem ztc : F0 Tryz.prog zoG ztG := zm [.dd [(0, []),(1, []),(2, []),(3, []),(4, []),(5, []),(6, []),(7, []),(8, []),(9, []),(10, []),(11, []),(12, []),(13, []),(14, []),(15, []),(16, []),(17, []),(18, []),(19, []),(20, []),(18, [42, 46, 50, 52]),(14, []),(15, []),(16, []),(17, []),(19, []),(20, [])] [14, 18, 14, 0, 1, 3, 7, 0, 16, 48, 112, 0, 256, 768, 1792, 3840, 7936, 16383, 32767, 65535, 65535, 32767, 393215, 1048575, 0, 1, 3, 7, 0, 16, 48, 112, 0, 256, 768, 1792, 3840, 7936, 278527, 294911, 327679, 327679, 0, 393215, 1048575], .d [(0, 71)] [(34, [81, 85]),(50, [98, 102]),(66, [114, 118])]] Tryz.func8 (by decide +kernel) (by kernel_rfl) fun {_ _ _} => cast (by kernel_rfl)
def zka (P : Program) (x0 : AV) (σ : LO) (Z : ZT) : Prop :=
 zbu x0 σ fun a s =>
 zC (zS [eN] []) s fun b s =>
 zbu b s fun c s =>
 zC (zS [eN] []) s fun d s =>
 zbu d s fun e s =>
 cA P zeb [] s fun f s =>
 cA P zdK [] s fun g s =>
 zC (zS [(.d .nilp),(.d .nilp),(.d .nilp),(.d .nilp),eN,eN] [(2, 1,c),(3, 1,e),(0, 1,f),(1, 1,g)]) s fun h s =>
 zbu h s fun i s =>
 nfl 2 i s fun j s =>
 cA P zjm [j] s fun l s =>
 ze l 0 s fun m s =>
 ze l 1 s fun _ s =>
 cp [iN 0,iN 0,iN 0,iN 0,iN 0] 5 m s fun o s =>
 zC (zS [eN,iN 0,iN 0,iN 0,iN 0,iN 0,iN 0,iN 0,iN 0,iN 0,iN 0,iN 0,iN 0,iN 0,iN 0,iN 0,iN 0,iN 0,iN 0,iN 0,iN 0,iN 0,iN 0,iN 0,iN 0] []) s fun p s =>
 zbu p s fun q s =>
 fl 1 a s fun r s =>
 fl 1 a s fun u s =>
 zaw .sl u s fun w s =>
 zdb [w,(iN 20)] s fun y s =>
 zbT (.sl 1) r none (some y) none s fun z s =>
 zaw .sl z s fun A s =>
 zbe [(iN 0)] s fun v s B =>
 zay v fun C v => bP .lss C A s fun D s =>
 zp D ((fun (E : LO → Prop) => il false 1 1 z C s fun G s =>
 zaw .sl G s fun H s =>
 zbe [eN,(iN 0)] s fun v s I =>
 zay v fun J v => zay v fun K v => bP .lss K H s fun L s =>
 zp L ((fun (M : AV → LO → Prop) => il true 7 7 G K s fun Q s =>
 cp [iN 0,iN 0,iN 0,(.d (.str [])),(.d (.str [])),iN 0,eN] 7 Q s fun R s =>
 zby i s fun S s =>
 zl 2 S s fun T s =>
 zq false 1 T s fun U s =>
 zby i s fun V s =>
 zl 3 V s fun W s =>
 zq false 1 W s fun X s =>
 zq true 7 R s fun Y s =>
 (fun (a0 : AV → AV → LO → Prop) => (cA P ziy [U,X,Y] s fun h0 s =>
 ze h0 0 s fun i0 s =>
 ze h0 1 s fun j0 s =>
 cp [iN 0,iN 0,iN 0,(.d (.str [])),(.d (.str [])),iN 0,eN,iN 0,iN 0] 9 i0 s fun l0 s =>
 a0 l0 j0 s) ∧
 (zP [iN 0,iN 0,iN 0,(.d (.str [])),(.d (.str [])),iN 0,eN,iN 0,iN 0] s fun m0 t =>
 zQ T s t ∧ (zQ W s t ∧ (zQ R s t ∧ (cA P ziy [U,X,Y] t fun o0 s =>
 ze o0 0 s fun p0 s =>
 ze o0 1 s fun q0 s =>
 zo 9 m0 p0 s fun _ s =>
 a0 m0 q0 s)))))
 (fun b0 c0 s => bP .eql c0 (iN 0) s fun d0 s =>
 zp d0 (zq true 9 b0 s fun e0 s =>
 m1 9 [iN 0,iN 0,iN 0,(.d (.str [])),(.d (.str [])),iN 0,eN,iN 0,iN 0] e0 s fun f0 s =>
 zw 9 104 J f0 s fun g0 s =>
 M g0 s) (M J s)))
 (fun N s => bP .add K (iN 1) s fun O s =>
 I [N,O] s)) (zby i s fun u0 s =>
 zl 2 u0 s fun w0 s =>
 zq false 1 w0 s fun y0 s =>
 zq true 5 o s fun z0 s =>
 (fun (A0 : AV → AV → AV → LO → Prop) => (cA P zgo [y0,q,z0,J] s fun h2 s =>
 ze h2 0 s fun i2 s =>
 ze h2 1 s fun j2 s =>
 ze h2 2 s fun _ s =>
 ze h2 3 s fun m2 s =>
 cp [iN 0,iN 0,iN 0,iN 0,iN 0] 5 i2 s fun o2 s =>
 A0 o2 j2 m2 s) ∧
 (zP [iN 0,iN 0,iN 0,iN 0,iN 0] s fun p2 t =>
 zQ w0 s t ∧ (zQ o s t ∧ (cA P zgo [y0,q,z0,J] t fun q2 s =>
 ze q2 0 s fun r2 s =>
 ze q2 1 s fun u2 s =>
 ze q2 2 s fun _ s =>
 ze q2 3 s fun y2 s =>
 zo 5 p2 r2 s fun _ s =>
 A0 p2 u2 y2 s))))
 (fun B0 C0 D0 s => bP .neq D0 (iN 0) s fun E0 s =>
 zp E0 (E s) (zq true 5 B0 s fun F0 s =>
 zo 5 o F0 s fun _ s =>
 nfl 4 i s fun H0 s =>
 zq true 5 o s fun I0 s =>
 zC (zS [iN 0,iN 0,iN 0,iN 0,iN 0,eN,eN] [(0, 5,I0),(5, 1,J),(6, 1,C0)]) s fun J0 s =>
 m1 7 [iN 0,iN 0,iN 0,iN 0,iN 0,eN,eN] J0 s fun K0 s =>
 zw 7 88 H0 K0 s fun L0 s =>
 zby i s fun M0 s =>
 zl 4 M0 s fun N0 s =>
 zo 1 N0 L0 s fun _ s =>
 fl 0 o s fun Q0 s =>
 bP .rem Q0 (iN 4) s fun R0 s =>
 bP .neq R0 (iN 0) s fun S0 s =>
 zp S0 (E s) (nfl 2 i s fun T0 s =>
 zq true 5 o s fun U0 s =>
 cA P zhJ [T0,U0] s fun V0 s =>
 ze V0 0 s fun W0 s =>
 ze V0 1 s fun _ s =>
 fl 0 o s fun Y0 s =>
 zC (zS [iN 0,iN 0,eN] [(0, 1,Y0),(1, 1,W0)]) s fun a1 s =>
 cp [iN 0,iN 0,eN] 3 a1 s fun b1 s =>
 zl 2 a s fun c1 s =>
 zq false 1 c1 s fun d1 s =>
 fl 0 a s fun e1 s =>
 cA P zne [e1] s fun f1 t =>
 zQ c1 s t ∧ (cA P zlu [d1,f1] t fun g1 s =>
 cA P zlt [g1] s fun h1 s =>
 zaw .sl h1 s fun i1 s =>
 zbe [(iN 0)] s fun v s j1 =>
 zay v fun l1 v => bP .lss l1 i1 s fun o1 s =>
 zp o1 ((fun (p1 : LO → Prop) => il false 1 1 h1 l1 s fun r1 s =>
 zby i s fun u1 s =>
 zl 2 u1 s fun w1 s =>
 zq false 1 w1 s fun y1 s =>
 zby i s fun A1 s =>
 zl 3 A1 s fun B1 s =>
 zq false 1 B1 s fun C1 s =>
 zl 0 o s fun D1 s =>
 zq false 1 D1 s fun E1 s =>
 (fun (F1 : AV → AV → LO → Prop) => (cA P zix [y1,C1,r1,(iN 6),(iN 0),E1,W0] s fun Q1 s =>
 ze Q1 0 s fun R1 s =>
 ze Q1 1 s fun S1 s =>
 cp [iN 0,iN 0] 2 R1 s fun T1 s =>
 F1 T1 S1 s) ∧
 (zP [iN 0,iN 0] s fun U1 t =>
 zQ w1 s t ∧ (zQ B1 s t ∧ (zQ D1 s t ∧ (cA P zix [y1,C1,r1,(iN 6),(iN 0),E1,W0] t fun V1 s =>
 ze V1 0 s fun W1 s =>
 ze V1 1 s fun X1 s =>
 zo 2 U1 W1 s fun _ s =>
 F1 U1 X1 s)))))
 (fun G1 H1 s => bP .eql H1 (iN 0) s fun I1 s =>
 zp I1 (fl 2 b1 s fun J1 s =>
 zq true 2 G1 s fun K1 s =>
 m1 2 [iN 0,iN 0] K1 s fun L1 s =>
 zw 2 16 J1 L1 s fun M1 s =>
 zl 2 b1 s fun N1 s =>
 zo 1 N1 M1 s fun _ s =>
 p1 s) (p1 s)))
 (fun  s => bP .add l1 (iN 1) s fun q1 s =>
 j1 [q1] s)) (nfl 5 i s fun a2 s =>
 zq true 3 b1 s fun b2 s =>
 m1 3 [iN 0,iN 0,eN] b2 s fun c2 s =>
 zw 3 40 a2 c2 s fun d2 s =>
 zby i s fun e2 s =>
 zl 5 e2 s fun f2 s =>
 zo 1 f2 d2 s fun _ s =>
 E s)))))))
 (fun  s => bP .add C (iN 1) s fun F s =>
 B [F] s)) (nfl 2 i s fun B2 s =>
 nfl 0 B2 s fun C2 s =>
 zaw .sl C2 s fun D2 s =>
 zbe [(iN 0)] s fun v s E2 =>
 zay v fun F2 v => bP .lss F2 D2 s fun G2 s =>
 zp G2 (il false 1 1 C2 F2 s fun H2 s =>
 nfl 0 i s fun I2 s =>
 cA P zbE [I2,H2] s fun J2 s =>
 bP .eql J2 (iN 0) s fun K2 s =>
 zp K2 (z2 Z (.d .nilp) bF s) (bP .add F2 (iN 1) s fun L2 s =>
 E2 [L2] s)) (nfl 3 i s fun M2 s =>
 nfl 0 M2 s fun N2 s =>
 zaw .sl N2 s fun O2 s =>
 zbe [(iN 0)] s fun v s Q2 =>
 zay v fun R2 v => bP .lss R2 O2 s fun S2 s =>
 zp S2 (il true 2 2 N2 R2 s fun T2 s =>
 cp [iN 0,iN 0] 2 T2 s fun U2 s =>
 nfl 1 i s fun V2 s =>
 fl 0 U2 s fun W2 s =>
 fl 1 U2 s fun X2 s =>
 cA P zda [V2,W2,X2] s fun _ s =>
 bP .add R2 (iN 1) s fun a3 s =>
 Q2 [a3] s) (nfl 1 i s fun b3 s =>
 zby i s fun c3 s =>
 zl 3 c3 s fun d3 s =>
 zq false 1 d3 s fun e3 s =>
 zby e3 s fun f3 s =>
 zl 0 f3 s fun g3 s =>
 zq false 1 g3 s fun h3 s =>
 zaw .sl h3 s fun i3 s =>
 cA P zdr [b3] s fun j3 t =>
 zQ d3 s t ∧ (zQ g3 s t ∧ (bP .eql j3 i3 t fun l3 s =>
 z2 Z i l3 s)))))
theorem zjQ : F1 Tryz.prog zcq zka := zm [.l [56] [(9, 2),(12, 10),(23, 3),(57, 123)], .l [10, 62] [(12, 3),(63, 23)], .dd [(0, []),(1, []),(2, []),(3, []),(4, []),(5, []),(6, []),(7, []),(8, []),(9, []),(10, []),(11, []),(12, []),(13, []),(14, []),(15, []),(13, [69, 73, 12]),(9, []),(10, []),(11, []),(12, []),(14, []),(15, [])] [9, 13, 9, 0, 1, 3, 7, 0, 16, 48, 112, 0, 511, 1023, 2047, 2047, 1023, 12287, 32767, 0, 1, 3, 7, 0, 16, 48, 112, 0, 8703, 9215, 10239, 10239, 0, 12287, 32767], .dd [(0, []),(1, []),(2, []),(3, []),(4, []),(5, []),(6, []),(7, []),(8, []),(9, []),(10, []),(11, []),(12, []),(13, []),(14, []),(15, []),(16, []),(17, []),(13, [89, 5]),(7, []),(8, []),(9, []),(10, []),(11, []),(12, []),(14, []),(15, []),(16, []),(17, [])] [7, 13, 7, 0, 1, 3, 7, 0, 0, 0, 127, 255, 511, 511, 511, 511, 255, 9215, 26623, 61439, 131071, 0, 1, 3, 7, 0, 0, 0, 8319, 8447, 8703, 8703, 8703, 8703, 0, 9215, 26623, 61439, 131071], .d [(0, 14)] [], .d [(0, 11)] [], .d [(0, 4),(8, 1),(4, 4)] [(4, [132])], .l [140] [(23, 3),(141, 28)], .dd [(0, []),(1, []),(2, []),(3, []),(4, []),(5, []),(6, []),(7, []),(8, []),(9, []),(10, []),(11, []),(12, []),(13, []),(14, []),(15, []),(16, []),(17, []),(18, []),(16, [147, 151, 154]),(12, []),(13, []),(14, []),(15, []),(17, []),(18, [])] [12, 16, 12, 0, 1, 3, 7, 0, 16, 48, 112, 0, 0, 512, 0, 4095, 8191, 16383, 16383, 8191, 98303, 262143, 0, 1, 3, 7, 0, 16, 48, 112, 0, 0, 512, 0, 69631, 73727, 81919, 81919, 0, 98303, 262143], .d [(0, 11)] [], .l [188] [(2, 2),(27, 1),(189, 11)], .l [208] [(29, 1),(209, 13)], .d [(0, 9)] [], .d [(0, 5),(6, 8),(5, 1),(14, 3)] [(5, [230, 233])]] Tryz.func9 (by decide +kernel) (by kernel_rfl) fun {_ _ _ _} => cast (by kernel_rfl)
def znP (P : Program) (x0 x1 : AV) (σ : LO) (Z : ZT) : Prop :=
 zbu x0 σ fun a s =>
 zP [(.d (.str [])),iN 0,eN,eN,iN 0,iN 0,eN,iN 0,iN 0,eN] s fun b s =>
 fl 3 a s fun c s =>
 zdf 5 40 eN c s fun d s =>
 zl 3 a s fun e s =>
 zo 1 e d s fun _ s =>
 fl 6 a s fun g s =>
 zdf 1 8 eN g s fun h s =>
 zl 6 a s fun i s =>
 zo 1 i h s fun _ s =>
 zl 7 a s fun l s =>
 fl 2 l s fun m s =>
 zdf 2 16 eN m s fun n s =>
 zl 7 a s fun o s =>
 zl 2 o s fun p s =>
 zo 1 p n s fun _ s =>
 zaw .sl x1 s fun r s =>
 zbe [(iN 0)] s fun v s u =>
 zay v fun w v => bP .lss w r s fun y s =>
 zp y ((fun (z : LO → Prop) => il true 4 4 x1 w s fun B s =>
 cp [iN 0,iN 0,iN 0,eN] 4 B s fun C s =>
 fl 0 C s fun D s =>
 bP .eql D (iN 1) s fun E s =>
 zp E (fl 3 C s fun F s =>
 zl 2 a s fun G s =>
 zo 1 G F s fun _ s =>
 z s) (bP .eql D (iN 2) s fun I s =>
 zp I (fl 1 a s fun J s =>
 bP .add J (iN 1) s fun K s =>
 zl 1 a s fun L s =>
 zo 1 L K s fun _ s =>
 z s) (bP .eql D (iN 3) s fun N s =>
 zp N (fl 4 a s fun O s =>
 bP .add O (iN 1) s fun Q s =>
 zl 4 a s fun R s =>
 zo 1 R Q s fun _ s =>
 z s) (bP .eql D (iN 4) s fun T s =>
 zp T (fl 5 a s fun U s =>
 fl 1 C s fun V s =>
 bP .rem V (iN 3) s fun W s =>
 bP .add U W s fun X s =>
 zl 5 a s fun Y s =>
 zo 1 Y X s fun _ s =>
 z s) (bP .eql D (iN 5) s fun b0 s =>
 zp b0 (fl 6 a s fun c0 s =>
 zaw .sl c0 s fun d0 s =>
 bP .gtr d0 (iN 0) s fun e0 s =>
 zp e0 (fl 6 a s fun f0 s =>
 fl 1 C s fun g0 s =>
 zag (.int .u64) g0 s fun h0 s =>
 fl 6 a s fun i0 s =>
 zaw .sl i0 s fun j0 s =>
 zag (.int .u64) j0 s fun l0 s =>
 bP .rem h0 l0 s fun m0 s =>
 zag (.int .i64) m0 s fun o0 s =>
 fl 2 C s fun p0 s =>
 zH none 1 f0 o0 s fun q0 s =>
 zo 1 q0 p0 s fun _ s =>
 z s) (z s)) (bP .eql D (iN 6) s fun u0 s =>
 zp u0 (fl 3 a s fun w0 s =>
 zaw .sl w0 s fun y0 s =>
 bP .gtr y0 (iN 0) s fun z0 s =>
 zp z0 (fl 3 a s fun A0 s =>
 zbT (.sl 5) A0 (some (iN 1)) none none s fun B0 s =>
 zl 3 a s fun C0 s =>
 zo 1 C0 B0 s fun _ s =>
 z s) (z s)) (bP .eql D (iN 7) s fun E0 s =>
 zp E0 (fl 3 a s fun F0 s =>
 zaw .sl F0 s fun G0 s =>
 bP .gtr G0 (iN 0) s fun H0 s =>
 zp H0 (fl 3 a s fun I0 s =>
 fl 3 a s fun J0 s =>
 zaw .sl J0 s fun K0 s =>
 bP .sub K0 (iN 1) s fun L0 s =>
 zbT (.sl 5) I0 none (some L0) none s fun M0 s =>
 zl 3 a s fun N0 s =>
 zo 1 N0 M0 s fun _ s =>
 z s) (z s)) (bP .eql D (iN 8) s fun Q0 s =>
 zp Q0 (fl 3 a s fun R0 s =>
 zaw .sl R0 s fun S0 s =>
 bP .gtr S0 (iN 0) s fun T0 s =>
 zp T0 (fl 3 a s fun U0 s =>
 fl 1 C s fun V0 s =>
 zag (.int .u64) V0 s fun W0 s =>
 fl 3 a s fun X0 s =>
 zaw .sl X0 s fun Y0 s =>
 zag (.int .u64) Y0 s fun a1 s =>
 bP .rem W0 a1 s fun b1 s =>
 zag (.int .i64) b1 s fun c1 s =>
 fl 2 C s fun d1 s =>
 zH none 5 U0 c1 s fun e1 s =>
 zl 3 e1 s fun f1 s =>
 zo 1 f1 d1 s fun _ s =>
 z s) (z s)) (bP .eql D (iN 9) s fun h1 s =>
 zp h1 (zl 7 a s fun i1 s =>
 fl 2 i1 s fun j1 s =>
 zaw .sl j1 s fun l1 s =>
 bP .gtr l1 (iN 0) s fun o1 s =>
 zp o1 (zl 7 a s fun p1 s =>
 fl 2 p1 s fun q1 s =>
 zbT (.sl 2) q1 (some (iN 1)) none none s fun r1 s =>
 zl 7 a s fun u1 s =>
 zl 2 u1 s fun w1 s =>
 zo 1 w1 r1 s fun _ s =>
 z s) (z s)) (bP .eql D (iN 10) s fun A1 s =>
 zp A1 (fl 2 C s fun B1 s =>
 zl 7 a s fun C1 s =>
 zl 1 C1 s fun D1 s =>
 zo 1 D1 B1 s fun _ s =>
 z s) (bP .eql D (iN 11) s fun F1 s =>
 zp F1 (zl 7 a s fun G1 s =>
 fl 2 G1 s fun H1 s =>
 fl 1 C s fun I1 s =>
 bP .rem I1 (iN 13) s fun J1 s =>
 fl 2 C s fun K1 s =>
 zC (zS [iN 0,iN 0] [(0, 1,J1),(1, 1,K1)]) s fun L1 s =>
 zt true 2 1 (zS (rep [iN 0,iN 0] 1) [(0, 2,L1)]) s fun M1 s =>
 zdf 2 16 H1 M1 s fun N1 s =>
 zl 7 a s fun O1 s =>
 zl 2 O1 s fun Q1 s =>
 zo 1 Q1 N1 s fun _ s =>
 z s) (bP .eql D (iN 12) s fun S1 s =>
 zp S1 (fl 6 a s fun T1 s =>
 fl 2 C s fun U1 s =>
 zt true 1 1 (zS (rep [iN 0] 1) [(0, 1,U1)]) s fun V1 s =>
 zdf 1 8 T1 V1 s fun W1 s =>
 zl 6 a s fun X1 s =>
 zo 1 X1 W1 s fun _ s =>
 z s) (z s)))))))))))))
 (fun  s => bP .add w (iN 1) s fun A s =>
 u [A] s)) (zq true 10 a s fun a2 s =>
 zo 10 b a2 s fun _ s =>
 Z (zB (zak b s true 10) (some [])) s)
theorem znr : F2 Tryz.prog zfA znP := formM_of [.l [23] [(6, 1),(24, 140)], .d [(0, 15)] [], .d [(0, 16)] []] Tryz.func11 (by decide +kernel) (by kernel_rfl) fun {_ _ _ _ _} => cast (by kernel_rfl)
def zjd (P : Program) (x0 : AV) (σ : LO) (Z : ZT) : Prop :=
 cA P zbR [x0] σ fun a s =>
 zp a (z1 Z (iN 0) s) (nfl 0 x0 s fun b s =>
 zaw .sl b s fun c s =>
 z1 Z c s)
theorem ziO : F1 Tryz.prog zfo zjd := zm [] Tryz.func12 (by decide +kernel) (by kernel_rfl) fun {_ _ _ _} => cast (by kernel_rfl)
def zjc (P : Program) (x0 x1 : AV) (σ : LO) (Z : ZT) : Prop :=
 cA P zbR [x0] σ fun a s =>
 zp a (z1 Z (iN 0) s) (nfl 1 x0 s fun b s =>
 zag .toStr x1 s fun c s =>
 zaF .str true (iN 0) b c s fun d s =>
 ze d 0 s fun e s =>
 ze d 1 s fun f s =>
 zp f (z1 Z e s) (nfl 0 x0 s fun g s =>
 zaw .sl g s fun h s =>
 bP .geq h (iN 1048576) s fun i s =>
 zp i (z1 Z (iN 0) s) (zby x0 s fun j s =>
 zl 0 j s fun l s =>
 zq false 1 l s fun m s =>
 cA P zjv [x1] s fun n t =>
 zQ l s t ∧ (m1 1 [eN] n t fun o s =>
 zw 1 24 m o s fun p s =>
 zby x0 s fun q s =>
 zl 0 q s fun r s =>
 zo 1 r p s fun _ s =>
 nfl 0 x0 s fun w s =>
 zaw .sl w s fun y s =>
 nfl 1 x0 s fun z s =>
 zag .toStr x1 s fun A s =>
 zaP .str z A y s fun _ s =>
 z1 Z y s))))
theorem ziN : F2 Tryz.prog zbE zjc := zm [.d [(0, 12)] [], .d [(0, 12)] [(6, [31])], .d [(0, 8)] []] Tryz.func13 (by decide +kernel) (by kernel_rfl) fun {_ _ _ _ _} => cast (by kernel_rfl)
def zia (P : Program) (x0 : AV) (σ : LO) (Z : ZT) : Prop :=
 cA P zbF [x0] σ fun a s =>
 zp a (z1 Z (iN 0) s) (nfl 0 x0 s fun b s =>
 zaw .sl b s fun c s =>
 z1 Z c s)
theorem zhS : F1 Tryz.prog zdr zia := zm [] Tryz.func14 (by decide +kernel) (by kernel_rfl) fun {_ _ _ _} => cast (by kernel_rfl)
def zmh (P : Program) (x0 x1 x2 x3 : AV) (σ : LO) (Z : ZT) : Prop :=
 zbu x3 σ fun a s =>
 cA P zaS [x0] s fun b s =>
 zcS .eql .ptr b (.d .nilp) s fun c s =>
 gFm c x1 s fun d s =>
 gF c (cA P zbY [d] s) s fun e s =>
 gF c (zcS .eql .ptr e (.d .nilp) s) s fun f s =>
 orC c f s fun g s =>
 zp g (z1 Z (iN 2) s) (cA P zdW [x2] s fun h s =>
 bP .neq h (iN 0) s fun i s =>
 zp i (z1 Z h s) (zq true 10 a s fun j s =>
 cA P zdT [j] s fun l s =>
 bP .neq l (iN 0) s fun m s =>
 zp m (z1 Z l s) (zq true 10 a s fun n s =>
 cA P zgW [x0,n] s fun o s =>
 unC .not o s fun p s =>
 zp p (z1 Z (iN 230) s) (zl 7 a s fun q s =>
 zq true 3 q s fun r s =>
 cA P zjs [x0,x1,x2,r] s fun u s =>
 unC .not u s fun w s =>
 zp w (z1 Z (iN 231) s) (fl 0 a s fun y s =>
 fl 1 a s fun z s =>
 fl 2 a s fun A s =>
 zC (zS [(.d (.str [])),iN 0,eN] [(0, 1,y),(1, 1,z),(2, 1,A)]) s fun B s =>
 cA P zcK [B] s fun C s =>
 fl 3 a s fun D s =>
 zH none 5 D (iN 0) s fun E s =>
 fl 3 E s fun F s =>
 fl 4 a s fun G s =>
 fl 5 a s fun H s =>
 fl 6 a s fun I s =>
 cA P zgX [x0,F,C,G,H,I] s fun J s =>
 unC .not J s fun K s =>
 zp K (z1 Z (iN 232) s) (z1 Z (iN 0) s))))))
theorem zlT : F4 Tryz.prog zcB zmh := zm [.d [(0, 15)] []] Tryz.func15 (by decide +kernel) (by kernel_rfl) fun {_ _ _ _ _ _ _} => cast (by kernel_rfl)
def zrD (P : Program) (x0 : AV) (σ : LO) (Z : ZT) : Prop :=
 bP .lss x0 (iN 1) σ fun a s =>
 gFm a x0 s fun b s =>
 gF a (bP .gtr b (iN 4) s) s fun c s =>
 orC a c s fun d s =>
 zp d (z1 Z (iN 120) s) (z1 Z (iN 0) s)
theorem zqY : F1 Tryz.prog zgS zrD := zm [] Tryz.func17 (by decide +kernel) (by kernel_rfl) fun {_ _ _ _} => cast (by kernel_rfl)
def zts (P : Program) (x0 : AV) (σ : LO) (Z : ZT) : Prop :=
 cA P zlt [x0] σ fun a s =>
 zaw .sl a s fun b s =>
 z1 Z b s
theorem zsO : F1 Tryz.prog zox zts := zm [] Tryz.func18 (by decide +kernel) (by kernel_rfl) fun {_ _ _ _} => cast (by kernel_rfl)
def ztu (P : Program) (x0 x1 : AV) (σ : LO) (Z : ZT) : Prop :=
 zbe [eN,(iN 0)] σ fun v s a =>
 zay v fun b v => zay v fun c v => bP .lss c (iN 13) s fun d s =>
 zp d ((fun (e : AV → LO → Prop) => cA P zkt [x0,c] s fun h s =>
 gTm h x1 s fun i s =>
 gTm h c s fun j s =>
 gT h (cA P zkt [i,j] s) s fun l s =>
 anC h l s fun m s =>
 zp m (m1 1 [iN 0] c s fun n s =>
 zw 1 8 b n s fun o s =>
 e o s) (e b s))
 (fun f s => bP .add c (iN 1) s fun g s =>
 a [f,g] s)) (cA P zqe [b] s fun p s =>
 z1 Z p s)
theorem zsQ : F2 Tryz.prog zlu ztu := zm [.l [5, 6] [(7, 16)]] Tryz.func19 (by decide +kernel) (by kernel_rfl) fun {_ _ _ _ _} => cast (by kernel_rfl)
def S_r12_All (P : Program) (x0 : AV) (σ : LO) (Z : ZT) : Prop :=
 zbe [eN,(iN 0)] σ fun v s a =>
 zay v fun b v => zay v fun c v => cA P zjl [x0] s fun d s =>
 bP .lss c d s fun e s =>
 zp e (m1 1 [iN 0] c s fun f s =>
 zw 1 8 b f s fun g s =>
 bP .add c (iN 1) s fun h s =>
 a [g,h] s) (cA P zqe [b] s fun i s =>
 z1 Z i s)
theorem e_r12_All : F1 Tryz.prog zne S_r12_All := zm [.l [3, 4] [(5, 10)]] Tryz.func20 (by decide +kernel) (by kernel_rfl) fun {_ _ _ _} => cast (by kernel_rfl)
def S_r12_Has (P : Program) (x0 x1 : AV) (σ : LO) (Z : ZT) : Prop :=
 zbe [x0,(iN 0)] σ fun v s a =>
 zay v fun b v => zay v fun c v => bP .lss c (iN 13) s fun d s =>
 zp d (bP .eql c x1 s fun e s =>
 gTm e b s fun f s =>
 gT e (bP .rem f (.d (.int .u16 2)) s) s fun g s =>
 gT e (bP .eql g (.d (.int .u16 1)) s) s fun h s =>
 anC e h s fun i s =>
 zp i (z1 Z bT s) (bP .quo b (.d (.int .u16 2)) s fun j s =>
 bP .add c (iN 1) s fun l s =>
 a [j,l] s)) (z1 Z bF s)
theorem e_r12_Has : F2 Tryz.prog zkt S_r12_Has := zm [.l [0, 5] [(4, 1),(6, 14)]] Tryz.func21 (by decide +kernel) (by kernel_rfl) fun {_ _ _ _ _} => cast (by kernel_rfl)
def zhz (P : Program) (x0 x1 x2 : AV) (σ : LO) (Z : ZT) : Prop :=
 zP [iN 0,iN 0] σ fun a s =>
 cA P zbF [x0] s fun b s =>
 zp b (zC (zS [iN 0,iN 0] []) s fun c s =>
 zo 2 a c s fun _ s =>
 Z (zB (zak a s true 2) (zB (some (iN 2)) (some []))) s) (bP .lss x1 (iN 0) s fun e s =>
 gFm e x1 s fun f s =>
 gF e (bP .geq f (iN 21) s) s fun g s =>
 orC e g s fun h s =>
 zp h (zC (zS [iN 0,iN 0] []) s fun i s =>
 zo 2 a i s fun _ s =>
 Z (zB (zak a s true 2) (zB (some (iN 20)) (some []))) s) (bP .lss x2 (iN 1) s fun l s =>
 zp l (zC (zS [iN 0,iN 0] []) s fun m s =>
 zo 2 a m s fun _ s =>
 Z (zB (zak a s true 2) (zB (some (iN 1)) (some []))) s) (zC (zS [iN 0,iN 0] [(0, 1,x1),(1, 1,x2)]) s fun o s =>
 cp [iN 0,iN 0] 2 o s fun p s =>
 (fun (q : LO → Prop) => nfl 1 x0 s fun w s =>
 zq true 2 p s fun y s =>
 zaF (.ints 2) false bF w y s fun z s =>
 unC .not z s fun A s =>
 zp A (nfl 1 x0 s fun B s =>
 zq true 2 p s fun C s =>
 zaP (.ints 2) B C bT s fun _ s =>
 nfl 0 x0 s fun E s =>
 zq true 2 p s fun F s =>
 m1 2 [iN 0,iN 0] F s fun G s =>
 zw 2 16 E G s fun H s =>
 zby x0 s fun I s =>
 zl 0 I s fun J s =>
 zo 1 J H s fun _ s =>
 q s) (q s))
 (fun  s => zq true 2 p s fun r s =>
 zo 2 a r s fun _ s =>
 Z (zB (zak a s true 2) (zB (some (iN 0)) (some []))) s))))
theorem zhm : F3 Tryz.prog zda zhz := zm [.d [(0, 7)] [], .d [(0, 6)] [], .d [(0, 11)] []] Tryz.func22 (by decide +kernel) (by kernel_rfl) fun {_ _ _ _ _ _} => cast (by kernel_rfl)
def zpM (P : Program) (x0 x1 x2 x3 x4 : AV) (σ : LO) (Z : ZT) : Prop :=
 zbu x2 σ fun a s =>
 zbu x3 s fun b s =>
 zbu x4 s fun c s =>
 zP [(.d (.str [])),iN 0,eN,eN,iN 0,iN 0,eN,iN 0,iN 0,eN] s fun d s =>
 cA P zaS [x0] s fun e s =>
 zcS .eql .ptr e (.d .nilp) s fun f s =>
 zp f (zC (zS [(.d (.str [])),iN 0,eN,eN,iN 0,iN 0,eN,iN 0,iN 0,eN] []) s fun g s =>
 zo 10 d g s fun _ s =>
 Z (zB (zak d s true 10) (zB (some (iN 2)) (some []))) s) (zaw .sl x1 s fun i s =>
 zbe [(iN 0)] s fun v s j =>
 zay v fun l v => bP .lss l i s fun m s =>
 zp m (il true 7 7 x1 l s fun n s =>
 zP [iN 0,iN 0,iN 0,iN 0,iN 0,eN,eN] s fun o s =>
 zo 7 o n s fun _ s =>
 fl 6 o s fun q s =>
 cA P zaN [q,(.fn (.func zih) [] [b,c])] s fun r s =>
 bP .lss r (iN 0) s fun u s =>
 zp u (bP .add l (iN 1) s fun w s =>
 j [w] s) (zbT (.sl 7) x1 (some l) none none s fun y s =>
 fl 0 a s fun z s =>
 cA P zmy [y,z] s fun A s =>
 ze A 0 s fun B s =>
 ze A 1 s fun C s =>
 unC .not C s fun D s =>
 zp D (zC (zS [(.d (.str [])),iN 0,eN,eN,iN 0,iN 0,eN,iN 0,iN 0,eN] []) s fun E s =>
 zo 10 d E s fun _ s =>
 Z (zB (zak d s true 10) (zB (some (iN 7)) (some []))) s) (fl 6 o s fun G s =>
 cA P zij [G] s fun H s =>
 cA P zii [x0,r,H] s fun I s =>
 ze I 0 s fun J s =>
 ze I 1 s fun K s =>
 bP .neq K (iN 0) s fun L s =>
 zp L (zC (zS [(.d (.str [])),iN 0,eN,eN,iN 0,iN 0,eN,iN 0,iN 0,eN] []) s fun M s =>
 zo 10 d M s fun _ s =>
 Z (zB (zak d s true 10) (zB (some K) (some []))) s) (fl 2 a s fun O s =>
 cA P zbB [O] s fun Q s =>
 zl 2 a s fun R s =>
 zo 1 R Q s fun _ s =>
 zq false 1 b s fun T s =>
 zq false 1 c s fun U s =>
 fl 6 o s fun V s =>
 zH none 3 V r s fun W s =>
 fl 2 W s fun X s =>
 zl 6 o s fun Y s =>
 zq false 1 Y s fun a0 s =>
 zaw .sl a0 s fun b0 s =>
 zq true 3 a s fun c0 s =>
 cA P zbL [X] s fun d0 t =>
 zQ b s t ∧ (zQ c s t ∧ (zQ Y s t ∧ (zQ a s t ∧ (zC (zS [(.d (.str [])),iN 0,eN,eN,iN 0,iN 0,eN,iN 0,iN 0,eN] [(0, 1,T),(1, 1,U),(2, 1,d0),(3, 1,B),(4, 1,r),(5, 1,b0),(6, 1,J),(7, 3,c0)]) t fun e0 s =>
 zo 10 d e0 s fun _ s =>
 Z (zB (zak d s true 10) (zB (some (iN 0)) (some []))) s)))))))) (zC (zS [(.d (.str [])),iN 0,eN,eN,iN 0,iN 0,eN,iN 0,iN 0,eN] []) s fun g0 s =>
 zo 10 d g0 s fun _ s =>
 Z (zB (zak d s true 10) (zB (some (iN 4)) (some []))) s))
theorem zpx : F5 Tryz.prog zeC zpM := zm [.l [25] [(11, 8),(26, 57)], .d [(0, 11)] [], .d [(0, 8),(9, 7),(8, 1),(16, 3)] [(8, [8, 9, 76, 7])]] Tryz.func23 (by decide +kernel) (by kernel_rfl) fun {_ _ _ _ _ _ _ _} => cast (by kernel_rfl)
end Go.Proofs.YtncpaekiidpchaaGreat
