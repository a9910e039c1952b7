/- The conditions of each function, its slots as variables, and that the logic's conditions are these. Printed by program. -/
import Derived.Test.YtfgbofkdhfjegaaGreatNm
import Derived.KernelRfl
set_option linter.all false
set_option maxRecDepth 100000
namespace Go.Proofs.YtfgbofkdhfjegaaGreat
open Go.AW
def zku (P:Program) (x0 x1:AV) (σ:LO) (Z:ZT):Prop:=
 zbh x0 σ fun a s=>
 cA P zqk [] s fun b s=>
 unC .not b s fun c s=>
 zn c (z1 Z bF s) (fl 0 a s fun d s=>
 cA P zif [d] s fun e s=>
 bP .neq e (iN 0) s fun f s=>
 gFm f x1 s fun g s=>
 gFl f 0 a s fun h s=>
 gF f (zh 0 a s) s fun i s=>
 gF f (zp false 1 i s) s fun j s=>
 gF f (cA P zoR [h] s) s fun l t=>
 zQ i s t/\(gF f (cA P zmO [g,l] t) t fun m s=>
 zQ i t s/\(gF f (cA P zqb [m] s) s fun n t=>
 zQ i s t/\(gF f (bP .gtr n j t) t fun o s=>
 orC f o s fun p s=>
 zn p (z1 Z bT s) (zp true 8 a s fun q s=>
 cA P zcZ [q] s fun r s=>
 ze r 0 s fun u s=>
 ze r 1 s fun w s=>
 unC .not w s fun y s=>
 gFm y u s fun z s=>
 gF y (zbV z s) s fun A s=>
 gFl y 6 A s fun B s=>
 gF y (zcQ .eql .ptr B (.d .nilp) s) s fun C s=>
 orC y C s fun D s=>
 zn D (z1 Z w s) (fl 6 a s fun E s=>
 zax .sl E s fun F s=>
 zaZ [(iN 0)] s fun v s G=>
 zaC v fun H v=>bP .lss H F s fun I s=>
 zn I ((fun (J:LO->Prop)=>il true 2 2 E H s fun L s=>
 cp [iN 0,iN 0] 2 L s fun M s=>
 fl 0 M s fun N s=>
 cA P zjR [x1,N] s fun O s=>
 zn O (nfl 1 u s fun Q s=>
 fl 0 M s fun R s=>
 fl 1 M s fun S s=>
 cA P zcS [Q,R,S] s fun _ s=>
 J s) (J s))
 (fun  s=>bP .add H (iN 1) s fun K s=>
 G [K] s)) (fl 7 a s fun U s=>
 zax .sl U s fun V s=>
 zaZ [(iN 0)] s fun v s W=>
 zaC v fun X v=>bP .lss X V s fun Y s=>
 zn Y ((fun (a0:LO->Prop)=>il true 33 33 U X s fun c0 s=>
 cp zl0 33 c0 s fun d0 s=>
 fl 0 d0 s fun e0 s=>
 bP .neq e0 (iN 0) s fun f0 s=>
 zn f0 (zbV u s fun g0 s=>
 zh 6 g0 s fun h0 s=>
 zp false 1 h0 s fun i0 s=>
 zp true 33 d0 s fun j0 s=>
 cA P zds [u,j0] s fun l0 t=>
 zQ h0 s t/\(cA P zcA [i0,l0] t fun _ s=>
 a0 s)) (a0 s))
 (fun  s=>bP .add X (iN 1) s fun b0 s=>
 W [b0] s)) (nfl 6 u s fun o0 s=>
 cA P zcB [o0] s fun p0 s=>
 zax .sl p0 s fun q0 s=>
 zaZ [(iN 0)] s fun v s r0=>
 zaC v fun u0 v=>bP .lss u0 q0 s fun w0 s=>
 zn w0 (il true 3 3 p0 u0 s fun y0 s=>
 cp [(.d (.str [])),iN 0,eN] 3 y0 s fun z0 s=>
 fl 1 z0 s fun A0 s=>
 fl 4 a s fun B0 s=>
 zax .sl B0 s fun C0 s=>
 zdz [C0,(iN 24)] s fun D0 s=>
 bP .geq A0 D0 s fun E0 s=>
 gFl E0 0 z0 s fun F0 s=>
 gF E0 (bP .neq F0 (.d (.str [116])) s) s fun G0 s=>
 orC E0 G0 s fun H0 s=>
 gFm H0 u s fun I0 s=>
 gF H0 (zp true 3 z0 s) s fun J0 s=>
 gF H0 (cA P zin [I0,J0] s) s fun K0 s=>
 gF H0 (unC .not K0 s) s fun L0 s=>
 orC H0 L0 s fun M0 s=>
 zn M0 (z1 Z bF s) (bP .add u0 (iN 1) s fun N0 s=>
 r0 [N0] s)) (z1 Z bT s)))))))))
theorem zqx:F2 Tryz.prog zgA zku:=zi [.d [(0, 8),(11, 2),(8, 3),(13, 2)] [(8,[26]),(9,[26]),(10,[26])],.l [48] [(8, 1),(49, 17)],.d [(0, 9)] [],.l [69] [(10, 1),(70, 15)],.d [(0, 8)] [(6,[78])],.l [91] [(4, 1),(12, 1),(92, 22)]] Tryz.func3
def zvC (P:Program) (σ:LO) (Z:ZT):Prop:=
 m1 1 [(.d (.int .u8 0))] (.d (.int .u8 1)) σ fun a s=>
 m1 1 [(.d (.int .u8 0))] (.d (.int .u8 2)) s fun b s=>
 m1 1 [(.d (.int .u8 0))] (.d (.int .u8 3)) s fun c s=>
 zu false 1 3 (zS (rep [eN] 3) [(0, 1,a),(1, 1,b),(2, 1,c)]) s fun d s=>
 zD (zS [iN 0,iN 0,(.d (.str [])),iN 0,eN,(.d (.int .u16 0)),eN,eN] [(0, 1,(iN 1)),(2, 1,(.d (.str [116]))),(4, 1,d),(5, 1,(.d (.int .u16 7)))]) s fun e s=>
 cA P zcZ [e] s fun f s=>
 ze f 0 s fun g s=>
 ze f 1 s fun h s=>
 unC .not h s fun i s=>
 gFm i g s fun j s=>
 gF i (zbV j s) s fun l s=>
 gFl i 6 l s fun m s=>
 gF i (zcQ .eql .ptr m (.d .nilp) s) s fun n s=>
 orC i n s fun o s=>
 zn o (z1 Z bF s) (nfl 6 g s fun p s=>
 cA P zdJ [p] s fun q s=>
 zbV g s fun r s=>
 zh 6 r s fun u s=>
 zp false 1 u s fun w s=>
 zD (zS zl0 [(0, 1,(iN 2)),(1, 1,(iN 1))]) s fun y s=>
 cA P zds [g,y] s fun z t=>
 zQ u s t/\(cA P zcA [w,z] t fun A s=>
 ze A 0 s fun _ s=>
 ze A 1 s fun C s=>
 zbV g s fun D s=>
 zh 6 D s fun E s=>
 zp false 1 E s fun F s=>
 zD (zS zl0 [(0, 1,(iN 1))]) s fun G s=>
 cA P zds [g,G] s fun H t=>
 zQ E s t/\(cA P zcA [F,H] t fun I s=>
 ze I 0 s fun J s=>
 ze I 1 s fun K s=>
 zax .sl q s fun L s=>
 bP .eql L (iN 1) s fun M s=>
 gTm M q s fun N s=>
 gT M (zH none 31 N (iN 0) s) s fun O s=>
 gTl M 0 O s fun Q s=>
 gT M (bP .eql Q (iN 0) s) s fun R s=>
 anC M R s fun S s=>
 gTm S C s fun T s=>
 gT S (bP .eql T (iN 250) s) s fun U s=>
 anC S U s fun V s=>
 gTm V K s fun W s=>
 gT V (bP .eql W (iN 0) s) s fun X s=>
 anC V X s fun Y s=>
 gTm Y J s fun a0 s=>
 gT Y (zax .sl a0 s) s fun b0 s=>
 gT Y (bP .eql b0 (iN 1) s) s fun c0 s=>
 anC Y c0 s fun d0 s=>
 gTm d0 g s fun e0 s=>
 gT d0 (zbV e0 s) s fun f0 s=>
 gTl d0 6 f0 s fun g0 s=>
 gT d0 (cA P zdp [g0] s) s fun h0 s=>
 gT d0 (bP .eql h0 (iN 1) s) s fun i0 s=>
 anC d0 i0 s fun j0 s=>
 gTm j0 g s fun l0 s=>
 gT j0 (zbV l0 s) s fun m0 s=>
 gTl j0 6 m0 s fun o0 s=>
 gT j0 (cA P zcB [o0] s) s fun p0 s=>
 gT j0 (zax .sl p0 s) s fun q0 s=>
 gT j0 (bP .eql q0 (iN 1) s) s fun r0 s=>
 anC j0 r0 s fun u0 s=>
 z1 Z u0 s)))
theorem e_l25_live:F0 Tryz.prog zqk zvC:=zi [.d [(0, 13)] [(6,[34])],.d [(0, 13)] [(6,[45])]] Tryz.func7
def ztA (P:Program) (x0:AV) (σ:LO) (Z:ZT):Prop:=
 bP .lss x0 (iN 1) σ fun a s=>
 gFm a x0 s fun b s=>
 gF a (bP .gtr b (iN 4) s) s fun c s=>
 orC a c s fun d s=>
 zn d (z1 Z (iN 120) s) (z1 Z (iN 0) s)
theorem e_r12_Check:F1 Tryz.prog zif ztA:=zi [] Tryz.func8
def zvo (P:Program) (x0:AV) (σ:LO) (Z:ZT):Prop:=
 cA P zmN [x0] σ fun a s=>
 zax .sl a s fun b s=>
 z1 Z b s
theorem e_r12_Many:F1 Tryz.prog zqb zvo:=zi [] Tryz.func9
def zvq (P:Program) (x0 x1:AV) (σ:LO) (Z:ZT):Prop:=
 zaZ [eN,(iN 0)] σ fun v s a=>
 zaC v fun b v=>zaC v fun c v=>bP .lss c (iN 13) s fun d s=>
 zn d ((fun (e:AV->LO->Prop)=>cA P zjR [x0,c] s fun h s=>
 gTm h x1 s fun i s=>
 gTm h c s fun j s=>
 gT h (cA P zjR [i,j] s) s fun l s=>
 anC h l s fun m s=>
 zn m (m1 1 [iN 0] c s fun n s=>
 zB 1 8 b n s fun o s=>
 e o s) (e b s))
 (fun f s=>bP .add c (iN 1) s fun g s=>
 a [f,g] s)) (cA P zrL [b] s fun p s=>
 z1 Z p s)
theorem e_r12_Both:F2 Tryz.prog zmO zvq:=zi [.l [5, 6] [(7, 16)]] Tryz.func10
def S_r12_All (P:Program) (x0:AV) (σ:LO) (Z:ZT):Prop:=
 zaZ [eN,(iN 0)] σ fun v s a=>
 zaC v fun b v=>zaC v fun c v=>cA P zkI [x0] s fun d s=>
 bP .lss c d s fun e s=>
 zn e (m1 1 [iN 0] c s fun f s=>
 zB 1 8 b f s fun g s=>
 bP .add c (iN 1) s fun h s=>
 a [g,h] s) (cA P zrL [b] s fun i s=>
 z1 Z i s)
theorem e_r12_All:F1 Tryz.prog zoR S_r12_All:=zi [.l [3, 4] [(5, 10)]] Tryz.func11
def zlu (P:Program) (x0:AV) (σ:LO) (Z:ZT):Prop:=
 zbh x0 σ fun a s=>
 zD (zS [eN] []) s fun b s=>
 zbh b s fun c s=>
 zD (zS [eN] []) s fun d s=>
 zbh d s fun e s=>
 cA P zfi [] s fun f s=>
 cA P zeB [] s fun g s=>
 zD (zS [(.d .nilp),(.d .nilp),(.d .nilp),(.d .nilp),eN,eN,(.d .nilp),(.d .nilp)] [(2, 1,c),(3, 1,e),(0, 1,f),(1, 1,g)]) s fun h s=>
 zbh h s fun i s=>
 nfl 2 i s fun j s=>
 cA P zkJ [j] s fun l s=>
 ze l 0 s fun m s=>
 ze l 1 s fun _ s=>
 cp [iN 0,iN 0,iN 0,iN 0,iN 0] 5 m s fun o s=>
 zD (zS zl1 []) s fun p s=>
 zbh p s fun q s=>
 zp true 5 o s fun r s=>
 zD (zS zl2 [(0, 1,(iN 1)),(1, 1,(.d (.str [116])))]) s fun u s=>
 cA P zez [i,q,r,(iN 0),u] s fun w s=>
 zm 5 o w s fun _ s=>
 fl 4 a s fun z s=>
 fl 4 a s fun A s=>
 zax .sl A s fun B s=>
 zdz [B,(iN 24)] s fun C s=>
 zcK (.sl 1) z none (some C) none s fun D s=>
 zax .sl D s fun E s=>
 zaZ [(iN 0)] s fun v s F=>
 zaC v fun G v=>bP .lss G E s fun H s=>
 zn H (il false 1 1 D G s fun I s=>
 zp true 5 o s fun J s=>
 bP .add G (iN 1) s fun K s=>
 m1 1 [eN] I s fun L s=>
 zD (zS zl2 [(0, 1,(iN 2)),(1, 1,(.d (.str [116]))),(4, 1,L)]) s fun M s=>
 cA P zez [i,q,J,K,M] s fun N s=>
 zm 5 o N s fun _ s=>
 bP .add G (iN 1) s fun Q s=>
 F [Q] s) (nfl 4 i s fun R s=>
 zax .sl R s fun S s=>
 zaZ [(iN 0)] s fun v s T=>
 zaC v fun U v=>bP .lss U S s fun V s=>
 zn V ((fun (W:LO->Prop)=>il true 7 7 R U s fun Y s=>
 cp zl3 7 Y s fun a0 s=>
 nfl 2 i s fun b0 s=>
 zh 0 a0 s fun c0 s=>
 zp true 5 c0 s fun d0 s=>
 cA P zjh [b0,d0] s fun e0 s=>
 ze e0 0 s fun f0 s=>
 ze e0 1 s fun _ s=>
 zh 0 a0 s fun h0 s=>
 fl 0 h0 s fun i0 s=>
 bP .rem i0 (iN 4) s fun j0 s=>
 bP .neq j0 (iN 0) s fun l0 s=>
 zn l0 (W s) (zh 0 a0 s fun m0 s=>
 fl 0 m0 s fun o0 s=>
 zD (zS [iN 0,iN 0,eN] [(0, 1,o0),(1, 1,f0)]) s fun p0 s=>
 cp [iN 0,iN 0,eN] 3 p0 s fun q0 s=>
 zh 5 a s fun r0 s=>
 zp false 1 r0 s fun u0 s=>
 fl 0 a s fun w0 s=>
 cA P zoR [w0] s fun y0 t=>
 zQ r0 s t/\(cA P zmO [u0,y0] t fun z0 s=>
 cA P zmN [z0] s fun A0 s=>
 zax .sl A0 s fun B0 s=>
 zaZ [(iN 0)] s fun v s C0=>
 zaC v fun D0 v=>bP .lss D0 B0 s fun E0 s=>
 zn E0 ((fun (F0:LO->Prop)=>il false 1 1 A0 D0 s fun H0 s=>
 zbV i s fun I0 s=>
 zh 2 I0 s fun J0 s=>
 zp false 1 J0 s fun K0 s=>
 zbV i s fun L0 s=>
 zh 3 L0 s fun M0 s=>
 zp false 1 M0 s fun N0 s=>
 zh 0 q0 s fun O0 s=>
 zp false 1 O0 s fun Q0 s=>
 (fun (R0:AV->AV->LO->Prop)=>(cA P zjU [K0,N0,H0,(iN 6),(iN 0),Q0,f0] s fun c1 s=>
 ze c1 0 s fun d1 s=>
 ze c1 1 s fun e1 s=>
 cp [iN 0,iN 0] 2 d1 s fun f1 s=>
 R0 f1 e1 s) ∧
 (zR [iN 0,iN 0] s fun g1 t=>
 zQ J0 s t/\(zQ M0 s t/\(zQ O0 s t/\(cA P zjU [K0,N0,H0,(iN 6),(iN 0),Q0,f0] t fun h1 s=>
 ze h1 0 s fun i1 s=>
 ze h1 1 s fun j1 s=>
 zm 2 g1 i1 s fun _ s=>
 R0 g1 j1 s)))))
 (fun S0 T0 s=>bP .eql T0 (iN 0) s fun U0 s=>
 zn U0 (fl 2 q0 s fun V0 s=>
 zp true 2 S0 s fun W0 s=>
 m1 2 [iN 0,iN 0] W0 s fun X0 s=>
 zB 2 16 V0 X0 s fun Y0 s=>
 zh 2 q0 s fun a1 s=>
 zm 1 a1 Y0 s fun _ s=>
 F0 s) (F0 s)))
 (fun  s=>bP .add D0 (iN 1) s fun G0 s=>
 C0 [G0] s)) (nfl 5 i s fun o1 s=>
 zp true 3 q0 s fun p1 s=>
 m1 3 [iN 0,iN 0,eN] p1 s fun q1 s=>
 zB 3 40 o1 q1 s fun r1 s=>
 zbV i s fun u1 s=>
 zh 5 u1 s fun w1 s=>
 zm 1 w1 r1 s fun _ s=>
 W s))))
 (fun  s=>bP .add U (iN 1) s fun X s=>
 T [X] s)) (nfl 4 i s fun A1 s=>
 zax .sl A1 s fun B1 s=>
 zaZ [(iN 0)] s fun v s C1=>
 zaC v fun D1 v=>bP .lss D1 B1 s fun E1 s=>
 zn E1 (il true 7 7 A1 D1 s fun F1 s=>
 cp zl3 7 F1 s fun G1 s=>
 nfl 5 i s fun H1 s=>
 zax .sl H1 s fun I1 s=>
 zaZ [(iN 0)] s fun v s J1=>
 zaC v fun K1 v=>bP .lss K1 I1 s fun L1 s=>
 zn L1 (il true 3 3 H1 K1 s fun M1 s=>
 cp [iN 0,iN 0,eN] 3 M1 s fun N1 s=>
 fl 6 G1 s fun O1 s=>
 zax .sl O1 s fun Q1 s=>
 zaZ [(iN 0)] s fun v s R1=>
 zaC v fun S1 v=>bP .lss S1 Q1 s fun T1 s=>
 zn T1 (il true 3 3 O1 S1 s fun U1 s=>
 cp [(.d (.str [])),iN 0,eN] 3 U1 s fun V1 s=>
 nfl 2 i s fun W1 s=>
 nfl 4 i s fun X1 s=>
 zp true 3 N1 s fun Y1 s=>
 fl 0 V1 s fun a2 s=>
 fl 1 V1 s fun b2 s=>
 cA P zjQ [W1,X1,Y1,a2,b2] s fun _ s=>
 bP .add S1 (iN 1) s fun d2 s=>
 R1 [d2] s) (bP .add K1 (iN 1) s fun e2 s=>
 J1 [e2] s)) (bP .add D1 (iN 1) s fun f2 s=>
 C1 [f2] s)) (nfl 2 i s fun g2 s=>
 nfl 0 g2 s fun h2 s=>
 zax .sl h2 s fun i2 s=>
 zaZ [(iN 0)] s fun v s j2=>
 zaC v fun l2 v=>bP .lss l2 i2 s fun m2 s=>
 zn m2 (il false 1 1 h2 l2 s fun o2 s=>
 nfl 0 i s fun p2 s=>
 cA P zeA [p2,o2] s fun _ s=>
 bP .add l2 (iN 1) s fun r2 s=>
 j2 [r2] s) (nfl 3 i s fun u2 s=>
 nfl 0 u2 s fun w2 s=>
 zax .sl w2 s fun y2 s=>
 zaZ [(iN 0)] s fun v s A2=>
 zaC v fun B2 v=>bP .lss B2 y2 s fun C2 s=>
 zn C2 (il true 2 2 w2 B2 s fun D2 s=>
 cp [iN 0,iN 0] 2 D2 s fun E2 s=>
 nfl 1 i s fun F2 s=>
 fl 0 E2 s fun G2 s=>
 fl 1 E2 s fun H2 s=>
 cA P zcS [F2,G2,H2] s fun _ s=>
 bP .add B2 (iN 1) s fun J2 s=>
 A2 [J2] s) (fl 0 a s fun K2 s=>
 fl 1 a s fun L2 s=>
 fl 2 a s fun M2 s=>
 fl 3 a s fun N2 s=>
 nfl 0 i s fun O2 s=>
 nfl 1 i s fun Q2 s=>
 cA P zlS [K2,L2,M2,N2,O2,Q2] s fun R2 s=>
 ze R2 0 s fun S2 s=>
 ze R2 1 s fun T2 s=>
 fl 0 a s fun U2 s=>
 fl 1 a s fun V2 s=>
 fl 2 a s fun W2 s=>
 fl 3 a s fun X2 s=>
 nfl 2 i s fun Y2 s=>
 nfl 3 i s fun a3 s=>
 cA P zsl [U2,V2,W2,X2,Y2,a3] s fun b3 s=>
 ze b3 0 s fun c3 s=>
 ze b3 1 s fun d3 s=>
 zbV i s fun e3 s=>
 zh 6 e3 s fun f3 s=>
 zm 1 f3 S2 s fun _ s=>
 zbV i s fun h3 s=>
 zh 7 h3 s fun i3 s=>
 zm 1 i3 c3 s fun _ s=>
 bP .eql T2 d3 s fun l3 s=>
 gTm l3 S2 s fun m3 s=>
 gT l3 (zcQ .neq .ptr m3 (.d .nilp) s) s fun o3 s=>
 gTm l3 T2 s fun p3 s=>
 gT l3 (bP .eql p3 (iN 0) s) s fun q3 s=>
 gT l3 (zcQ .eql .bool o3 q3 s) s fun r3 s=>
 anC l3 r3 s fun u3 s=>
 z2 Z i u3 s)))))
theorem zlk:F1 Tryz.prog zcZ zlu:=zi [.l [64] [(8, 2),(65, 14)],.l [84] [(11, 4),(16, 3),(85, 71)],.d [(0, 12)] [],.d [(0, 4),(8, 1),(4, 4)] [(4,[108])],.l [116] [(16, 3),(117, 28)],.dd [(0,[]),(1,[]),(2,[]),(3,[]),(4,[]),(5,[]),(6,[]),(7,[]),(8,[]),(9,[]),(10,[]),(11,[]),(12,[]),(13,[]),(14,[]),(15,[]),(16,[]),(17,[]),(18,[]),(16,[123, 127, 130]),(12,[]),(13,[]),(14,[]),(15,[]),(17,[]),(18,[])] [12, 16, 12, 0, 1, 3, 7, 0, 16, 48, 112, 0, 0, 512, 0, 4095, 8191, 16383, 16383, 8191, 98303, 262143, 0, 1, 3, 7, 0, 16, 48, 112, 0, 0, 512, 0, 69631, 73727, 81919, 81919, 0, 98303, 262143],.d [(0, 11)] [],.l [161] [(20, 1),(22, 1),(24, 1),(162, 36)],.l [170] [(22, 1),(24, 1),(171, 26)],.l [177] [(24, 1),(178, 18)],.d [(0, 14)] [],.l [206] [(26, 1),(207, 10)],.l [225] [(28, 1),(226, 13)],.d [(0, 9)] [],.d [(0, 22)] [],.d [(0, 22)] []] Tryz.func12
def S_r12_Has (P:Program) (x0 x1:AV) (σ:LO) (Z:ZT):Prop:=
 zaZ [x0,(iN 0)] σ fun v s a=>
 zaC v fun b v=>zaC v fun c v=>bP .lss c (iN 13) s fun d s=>
 zn d (bP .eql c x1 s fun e s=>
 gTm e b s fun f s=>
 gT e (bP .rem f (.d (.int .u16 2)) s) s fun g s=>
 gT e (bP .eql g (.d (.int .u16 1)) s) s fun h s=>
 anC e h s fun i s=>
 zn i (z1 Z bT s) (bP .quo b (.d (.int .u16 2)) s fun j s=>
 bP .add c (iN 1) s fun l s=>
 a [j,l] s)) (z1 Z bF s)
theorem e_r12_Has:F2 Tryz.prog zjR S_r12_Has:=zi [.l [0, 5] [(4, 1),(6, 14)]] Tryz.func13
def ziI (P:Program) (x0 x1 x2:AV) (σ:LO) (Z:ZT):Prop:=
 zR [iN 0,iN 0] σ fun a s=>
 cA P zck [x0] s fun b s=>
 zn b (zD (zS [iN 0,iN 0] []) s fun c s=>
 zm 2 a c s fun _ s=>
 Z (zC (zah a s true 2) (zC (some (iN 2)) (some []))) s) (bP .lss x1 (iN 0) s fun e s=>
 gFm e x1 s fun f s=>
 gF e (bP .geq f (iN 21) s) s fun g s=>
 orC e g s fun h s=>
 zn h (zD (zS [iN 0,iN 0] []) s fun i s=>
 zm 2 a i s fun _ s=>
 Z (zC (zah a s true 2) (zC (some (iN 20)) (some []))) s) (bP .lss x2 (iN 1) s fun l s=>
 zn l (zD (zS [iN 0,iN 0] []) s fun m s=>
 zm 2 a m s fun _ s=>
 Z (zC (zah a s true 2) (zC (some (iN 1)) (some []))) s) (zD (zS [iN 0,iN 0] [(0, 1,x1),(1, 1,x2)]) s fun o s=>
 cp [iN 0,iN 0] 2 o s fun p s=>
 (fun (q:LO->Prop)=>nfl 1 x0 s fun w s=>
 zp true 2 p s fun y s=>
 zaV (.ints 2) false bF w y s fun z s=>
 unC .not z s fun A s=>
 zn A (nfl 1 x0 s fun B s=>
 zp true 2 p s fun C s=>
 zbf (.ints 2) B C bT s fun _ s=>
 nfl 0 x0 s fun E s=>
 zp true 2 p s fun F s=>
 m1 2 [iN 0,iN 0] F s fun G s=>
 zB 2 16 E G s fun H s=>
 zbV x0 s fun I s=>
 zh 0 I s fun J s=>
 zm 1 J H s fun _ s=>
 q s) (q s))
 (fun  s=>zp true 2 p s fun r s=>
 zm 2 a r s fun _ s=>
 Z (zC (zah a s true 2) (zC (some (iN 0)) (some []))) s))))
theorem zop:F3 Tryz.prog zcS ziI:=zi [.d [(0, 7)] [],.d [(0, 6)] [],.d [(0, 11)] []] Tryz.func14
def zhb (P:Program) (x0 x1:AV) (σ:LO) (Z:ZT):Prop:=
 zbh x1 σ fun a s=>
 zr P zca [x0] s fun b s=>
 zn b (z2 Z eN (iN 2) s) (zh 18 a s fun c s=>
 zp true 10 c s fun d s=>
 cp zl4 10 d s fun e s=>
 fl 0 a s fun f s=>
 bP .neq f (iN 12) s fun g s=>
 gF g (zp true 30 a s) s fun h s=>
 gF g (zr P zik [h] s) s fun i s=>
 gF g (bP .neq i (iN 0) s) s fun j s=>
 orC g j s fun l s=>
 gFl l 0 e s fun m s=>
 gFl l 1 e s fun n s=>
 gF l (zD (zS [(.d (.str [])),iN 0] [(0, 1,m),(1, 1,n)]) s) s fun o s=>
 gFm l x0 s fun p s=>
 gF l (zbV p s) s fun q s=>
 gF l (zh 2 q s) s fun r s=>
 gF l (zp true 2 r s) s fun u s=>
 gF l (zcQ .neq (.flat [true,false]) o u s) s fun w s=>
 orC l w s fun y s=>
 gFl y 1 e s fun z s=>
 gF y (bP .eql z (iN 9007199254740992) s) s fun A s=>
 orC y A s fun B s=>
 zn B (z2 Z eN (iN 250) s) (nfl 4 x0 s fun C s=>
 nfl 5 x0 s fun D s=>
 nfl 0 x0 s fun E s=>
 zp true 10 e s fun F s=>
 zr P zjA [C,D,E,F] s fun G s=>
 bP .neq G (iN 0) s fun H s=>
 zn H (z2 Z eN G s) (zbV x0 s fun I s=>
 zh 8 I s fun J s=>
 zp false 1 J s fun K s=>
 zh 0 e s fun L s=>
 zp false 1 L s fun M s=>
 zh 1 e s fun N s=>
 zp false 1 N s fun O s=>
 fl 2 e s fun Q s=>
 zr P zbq [Q] s fun R t=>
 zQ J s t/\(zQ L s t/\(zQ N s t/\(zD (zS [(.d (.str [])),iN 0,eN] [(0, 1,M),(1, 1,O),(2, 1,R)]) t fun S s=>
 zu true 3 1 (zS (rep [(.d (.str [])),iN 0,eN] 1) [(0, 3,S)]) s fun T t=>
 zQ J s t/\(zdP 3 48 K T t fun U s=>
 zbV x0 s fun V s=>
 zh 8 V s fun W s=>
 zm 1 W U s fun _ s=>
 zbV x0 s fun Y s=>
 zh 2 Y s fun a0 s=>
 fl 1 a0 s fun b0 s=>
 bP .add b0 (iN 1) s fun c0 s=>
 zbV x0 s fun d0 s=>
 zh 2 d0 s fun e0 s=>
 zh 1 e0 s fun f0 s=>
 zm 1 f0 c0 s fun _ s=>
 zbV x0 s fun h0 s=>
 zh 7 h0 s fun i0 s=>
 zm 1 i0 (iN 0) s fun _ s=>
 zr P zdJ [x0] s fun l0 s=>
 z2 Z l0 (iN 0) s)))))))
theorem zgV:F2 Tryz.prog zcA zhb:=zmS [.d [(0, 25)] [],.d [(0, 15)] [],.d [(0, 18)] [(11,[57, 59, 61]),(13,[57])]] Tryz.func15
def zjn (P:Program) (x0 x1:AV) (σ:LO) (Z:ZT):Prop:=
 zbh x1 σ fun a s=>
 zR zl5 s fun b s=>
 zD (zS zl5 [(0, 1,(iN 12)),(1, 1,(iN 1))]) s fun c s=>
 cp zl5 30 c s fun d s=>
 (fun (e:LO->Prop)=>fl 0 a s fun h s=>
 bP .eql h (iN 1) s fun i s=>
 zn i (nfl 6 x0 s fun j s=>
 zr P zdp [j] s fun l s=>
 zr P zey [x0,l] s fun m s=>
 zh 18 d s fun n s=>
 zm 10 n m s fun _ s=>
 e s) (bP .eql h (iN 2) s fun p s=>
 zn p (fl 1 a s fun q s=>
 zr P zey [x0,q] s fun r s=>
 zh 18 d s fun u s=>
 zm 10 u r s fun _ s=>
 fl 2 a s fun y s=>
 gT y (zh 18 d s) s fun z s=>
 gTl y 2 z s fun A s=>
 gT y (zax .sl A s) s fun B s=>
 gT y (bP .gtr B (iN 0) s) s fun C s=>
 anC y C s fun D s=>
 zn D (zh 18 d s fun E s=>
 fl 2 E s fun F s=>
 zr P zeD [F] s fun G s=>
 zh 18 d s fun H s=>
 zh 2 H s fun I s=>
 zm 1 I G s fun _ s=>
 zh 18 d s fun K s=>
 fl 2 K s fun L s=>
 il false 1 1 L (iN 0) s fun M s=>
 bP .xor M (.d (.int .u8 1)) s fun N s=>
 zH none 1 L (iN 0) s fun O s=>
 zm 1 O N s fun _ s=>
 e s) (e s)) (zh 3 a s fun R s=>
 zp true 30 R s fun S s=>
 zm 30 b S s fun _ s=>
 Z (zC (zah b s true 30) (some [])) s)))
 (fun  s=>zp true 30 d s fun f s=>
 zm 30 b f s fun _ s=>
 Z (zC (zah b s true 30) (some [])) s)
theorem zjj:F2 Tryz.prog zds zjn:=zmS [] Tryz.func16
def zhc (P:Program) (x0:AV) (σ:LO) (Z:ZT):Prop:=
 zr P zca [x0] σ fun a s=>
 zn a (z1 Z eN s) (nfl 8 x0 s fun b s=>
 zr P zbA [b] s fun c s=>
 zax .sl c s fun d s=>
 zaZ [(iN 0)] s fun v s e=>
 zaC v fun f v=>bP .lss f d s fun g s=>
 zn g (zH none 3 c f s fun h s=>
 fl 2 h s fun i s=>
 zr P zbq [i] s fun j s=>
 zH none 3 c f s fun l s=>
 zh 2 l s fun m s=>
 zm 1 m j s fun _ s=>
 bP .add f (iN 1) s fun o s=>
 e [o] s) (z1 Z c s))
theorem zgW:F1 Tryz.prog zcB zhc:=zmS [.l [14] [(4, 1),(15, 13)]] Tryz.func17
def zmz (P:Program) (x0 x1:AV) (σ:LO) (Z:ZT):Prop:=
 zbh x1 σ fun a s=>
 nfl 4 x0 s fun b s=>
 zax .sl b s fun c s=>
 zaZ [(iN 0)] s fun v s d=>
 zaC v fun e v=>bP .lss e c s fun f s=>
 zn f (il true 7 7 b e s fun g s=>
 cp zl3 7 g s fun h s=>
 fl 6 h s fun i s=>
 zax .sl i s fun j s=>
 zaZ [(iN 0)] s fun v s l=>
 zaC v fun m v=>bP .lss m j s fun n s=>
 zn n (il true 3 3 i m s fun o s=>
 cp [(.d (.str [])),iN 0,eN] 3 o s fun p s=>
 fl 0 p s fun q s=>
 fl 0 a s fun r s=>
 bP .eql q r s fun u s=>
 gTl u 1 p s fun w s=>
 gTl u 1 a s fun y s=>
 gT u (bP .eql w y s) s fun z s=>
 anC u z s fun A s=>
 gTl A 2 p s fun B s=>
 gTl A 2 a s fun C s=>
 gT A (cA P zeC [B,C] s) s fun D s=>
 anC A D s fun E s=>
 zn E (z1 Z bT s) (bP .add m (iN 1) s fun F s=>
 l [F] s)) (bP .add e (iN 1) s fun G s=>
 d [G] s)) (z1 Z bF s)
theorem zsX:F2 Tryz.prog zin zmz:=zi [.l [14] [(4, 1),(6, 1),(8, 1),(15, 31)],.l [21] [(4, 1),(8, 1),(22, 23)]] Tryz.func18
def zhx (P:Program) (x0:AV) (σ:LO) (Z:ZT):Prop:=
 cA P zca [x0] σ fun a s=>
 zn a (z1 Z (iN 0) s) (zbV x0 s fun b s=>
 zh 2 b s fun c s=>
 fl 1 c s fun d s=>
 z1 Z d s)
theorem znf:F1 Tryz.prog zdp zhx:=zi [] Tryz.func19
def ziy (P:Program) (x0:AV) (σ:LO) (Z:ZT):Prop:=
 cA P zca [x0] σ fun a s=>
 gFm a x0 s fun b s=>
 gF a (zbV b s) s fun c s=>
 gF a (zh 2 c s) s fun d s=>
 gFl a 1 d s fun e s=>
 gF a (bP .eql e (iN 9007199254740992) s) s fun f s=>
 orC a f s fun g s=>
 zn g (z1 Z eN s) (nfl 6 x0 s fun h s=>
 nfl 1 x0 s fun i s=>
 zbV x0 s fun j s=>
 zh 2 j s fun l s=>
 fl 0 l s fun m s=>
 zbV x0 s fun n s=>
 zh 2 n s fun o s=>
 fl 1 o s fun p s=>
 zD (zS zl5 [(0, 1,(iN 11)),(5, 1,i),(16, 1,m),(17, 1,p)]) s fun q s=>
 zD (zS zl6 [(0, 1,h),(1, 30,q)]) s fun r s=>
 m1 31 zl6 r s fun u s=>
 z1 Z u s)
theorem zoh:F1 Tryz.prog zdJ ziy:=zi [.d [(0, 22)] []] Tryz.func28
def zrc (P:Program) (x0 x1 x2 x3 x4 x5:AV) (σ:LO) (Z:ZT):Prop:=
 cA P zbR [x4] σ fun a s=>
 zcQ .eql .ptr a (.d .nilp) s fun b s=>
 gFm b x5 s fun c s=>
 gF b (cA P zcd [c] s) s fun d s=>
 gF b (zcQ .eql .ptr d (.d .nilp) s) s fun e s=>
 orC b e s fun f s=>
 zn f (z2 Z (.d .nilp) (iN 2) s) (cA P zeb [x0] s fun g s=>
 bP .neq g (iN 0) s fun h s=>
 zn h (z2 Z (.d .nilp) g s) (bP .lss x1 (iN 0) s fun i s=>
 gFm i x1 s fun j s=>
 gF i (bP .geq j (iN 8) s) s fun l s=>
 orC i l s fun m s=>
 zn m (z2 Z (.d .nilp) (iN 1) s) (cA P zoS [x2] s fun n s=>
 unC .not n s fun o s=>
 zn o (z2 Z (.d .nilp) (iN 61) s) (bP .lss x3 (iN 0) s fun p s=>
 gFm p x3 s fun q s=>
 gF p (bP .geq q (iN 9007199254740992) s) s fun r s=>
 orC p r s fun u s=>
 zn u (z2 Z (.d .nilp) (iN 1) s) (zD (zS [(.d (.str [])),iN 0] [(0, 1,x2),(1, 1,x3)]) s fun w s=>
 zD (zS [iN 0,iN 0,(.d (.str [])),iN 0,(.d .nilp),(.d .nilp),iN 0,iN 0,eN] [(0, 1,x0),(1, 1,x1),(2, 2,w),(4, 1,x4),(5, 1,x5)]) s fun y s=>
 zbh y s fun z s=>
 z2 Z z (iN 0) s)))))
theorem zqW:F6 Tryz.prog zlS zrc:=zi [] Tryz.func29
end Go.Proofs.YtfgbofkdhfjegaaGreat
