/- The conditions of each function, its slots as variables, and that the logic's conditions are these. Printed by program. -/
import Derived.Test.YtnfienilahfdjaaNm
import Derived.KernelRfl
set_option linter.all false
set_option maxRecDepth 100000
set_option linter.unusedVariables false
namespace Go.Proofs.Ytnfienilahfdjaa
open Go.AW
def Sm_l18_PoolNone (P : Program) (x0 : AV) (σ : LO) (Z : ZT) : Prop :=
 boxC x0 σ fun a s =>
 ACall P n_l18_begun [] s fun b s =>
 unC .not b s fun c s =>
 condC c (z1 Z bF s) (buildC (fillV zl0 []) s fun d s =>
 boxC d s fun e s =>
 mksliceC true 1 2 (fillV (rep [(.d .nilp)] 2) [(0, 1, (.d .nilp)), (1, 1, e)]) s fun f s =>
 lenC .sl f s fun g s =>
 loopC [(iN 0)] s fun v s h =>
 headC v fun i v => bP .lss i g s fun j s =>
 condC j (il false 1 1 f i s fun l s =>
 faddrC 0 a s fun m s =>
 fl 0 m s fun n s =>
 ACall P n_pool_Pool_Of [l, n] s fun o s =>
 extractC o 0 s fun p s =>
 extractC o 1 s fun q s =>
 cp zl1 9 p s fun _ s =>
 binC .neq .ptr l (.d .nilp) s fun u s =>
 gTm u l s fun w s =>
 gT u (ACall P n_pool_Pool_Len [w] s) s fun y s =>
 gT u (bP .eql y (iN 0) s) s fun z s =>
 anC u z s fun A s =>
 gTm A l s fun B s =>
 gT A (ACall P n_pool_Pool_Clone [B] s) s fun C s =>
 gT A (binC .neq .ptr C (.d .nilp) s) s fun D s =>
 anC A D s fun E s =>
 condC E (z1 Z bF s) (loadC true 9 a s fun F s =>
 ACall P n_pool_Pool_Put [l, F] s fun G s =>
 gFm G l s fun H s =>
 gF G (ACall P n_pool_Pool_Done [H, (iN 1), (iN 1)] s) s fun I s =>
 orC G I s fun J s =>
 gFm J q s fun K s =>
 orC J K s fun L s =>
 gFm L l s fun M s =>
 gF L (ACall P n_pool_Pool_Len [M] s) s fun N s =>
 gFm L l s fun O s =>
 gF L (ACall P n_pool_Pool_Waiting [O] s) s fun Q s =>
 gF L (lenC .sl Q s) s fun R s =>
 gF L (bP .add N R s) s fun S s =>
 gFm L l s fun T s =>
 gF L (ACall P n_pool_Pool_Pick [T, eN] s) s fun U s =>
 gF L (lenC .sl U s) s fun V s =>
 gF L (bP .add S V s) s fun W s =>
 gFm L l s fun X s =>
 gF L (ACall P n_pool_Pool_Plain [X] s) s fun Y s =>
 gF L (fieldC false 0 1 Y s) s fun a0 s =>
 gF L (lenC .sl a0 s) s fun b0 s =>
 gF L (bP .add W b0 s) s fun c0 s =>
 gF L (bP .neq c0 (iN 0) s) s fun d0 s =>
 orC L d0 s fun e0 s =>
 gFm e0 l s fun f0 s =>
 gF e0 (ACall P n_pool_Pool_Clone [f0] s) s fun g0 s =>
 gF e0 (binC .neq .ptr g0 (.d .nilp) s) s fun h0 s =>
 orC e0 h0 s fun i0 s =>
 condC i0 (z1 Z bF s) (bP .add i (iN 1) s fun j0 s =>
 h [j0] s))) (ACall P n_pool_New [] s fun l0 s =>
 mksliceC true 1 1 (fillV (rep [(.d (.int .u8 0))] 1) [(0, 1, (.d (.int .u8 7)))]) s fun m0 s =>
 mksliceC true 1 1 (fillV (rep [eN] 1) [(0, 1, m0)]) s fun o0 s =>
 buildC (fillV zl2 [(0, 1, (iN 2)), (1, 1, (.d (.str [116]))), (4, 1, o0)]) s fun p0 s =>
 buildC (fillV zl3 [(0, 1, (iN 1)), (1, 1, (iN 2)), (2, 5, p0)]) s fun q0 s =>
 buildC (fillV [iN 0, iN 0] [(0, 1, (iN 1)), (1, 1, (iN 1))]) s fun r0 s =>
 buildC (fillV zl1 [(0, 7, q0), (7, 2, r0)]) s fun u0 s =>
 cp zl1 9 u0 s fun w0 s =>
 binC .eql .ptr l0 (.d .nilp) s fun y0 s =>
 gFm y0 l0 s fun z0 s =>
 gF y0 (loadC true 9 w0 s) s fun A0 s =>
 gF y0 (ACall P n_pool_Pool_Put [z0, A0] s) s fun B0 s =>
 gF y0 (unC .not B0 s) s fun C0 s =>
 orC y0 C0 s fun D0 s =>
 condC D0 (z1 Z bF s) (faddrC 0 w0 s fun E0 s =>
 faddrC 2 E0 s fun F0 s =>
 fl 4 F0 s fun G0 s =>
 il false 1 1 G0 (iN 0) s fun H0 s =>
 iaddrC none 1 H0 (iN 0) s fun I0 s =>
 storeC 1 I0 (.d (.int .u8 8)) s fun _ s =>
 ACall P n_pool_Pool_Waiting [l0] s fun K0 s =>
 ACall P n_pool_Pool_Pick [l0, eN] s fun L0 s =>
 ACall P n_pool_Pool_Plain [l0] s fun M0 s =>
 fieldC false 0 1 M0 s fun N0 s =>
 mksliceC true 1 3 (fillV (rep [eN] 3) [(0, 1, K0), (1, 1, L0), (2, 1, N0)]) s fun O0 s =>
 lenC .sl O0 s fun Q0 s =>
 loopC [(iN 0)] s fun v s R0 =>
 headC v fun S0 v => bP .lss S0 Q0 s fun T0 s =>
 condC T0 (il false 1 1 O0 S0 s fun U0 s =>
 lenC .sl U0 s fun V0 s =>
 bP .neq V0 (iN 1) s fun W0 s =>
 gFm W0 U0 s fun X0 s =>
 gF W0 (iaddrC none 9 X0 (iN 0) s) s fun Y0 s =>
 gF W0 (faddrC 0 Y0 s) s fun a1 s =>
 gF W0 (faddrC 2 a1 s) s fun b1 s =>
 gFl W0 4 b1 s fun c1 s =>
 gF W0 (iaddrC none 1 c1 (iN 0) s) s fun d1 s =>
 gF W0 (loadC false 1 d1 s) s fun e1 s =>
 gF W0 (iaddrC none 1 e1 (iN 0) s) s fun f1 s =>
 gF W0 (loadC false 1 f1 s) s fun g1 s =>
 gF W0 (bP .neq g1 (.d (.int .u8 7)) s) s fun h1 s =>
 orC W0 h1 s fun i1 s =>
 condC i1 (z1 Z bF s) (iaddrC none 9 U0 (iN 0) s fun j1 s =>
 faddrC 0 j1 s fun l1 s =>
 faddrC 2 l1 s fun o1 s =>
 fl 4 o1 s fun p1 s =>
 il false 1 1 p1 (iN 0) s fun q1 s =>
 iaddrC none 1 q1 (iN 0) s fun r1 s =>
 storeC 1 r1 (.d (.int .u8 9)) s fun _ s =>
 bP .add S0 (iN 1) s fun w1 s =>
 R0 [w1] s)) (ACall P n_pool_Pool_Of [l0, (iN 1)] s fun y1 s =>
 extractC y1 0 s fun A1 s =>
 extractC y1 1 s fun B1 s =>
 cp zl1 9 A1 s fun C1 s =>
 gT B1 (faddrC 0 C1 s) s fun D1 s =>
 gT B1 (faddrC 2 D1 s) s fun E1 s =>
 gTl B1 4 E1 s fun F1 s =>
 gT B1 (iaddrC none 1 F1 (iN 0) s) s fun G1 s =>
 gT B1 (loadC false 1 G1 s) s fun H1 s =>
 gT B1 (iaddrC none 1 H1 (iN 0) s) s fun I1 s =>
 gT B1 (loadC false 1 I1 s) s fun J1 s =>
 gT B1 (bP .eql J1 (.d (.int .u8 7)) s) s fun K1 s =>
 anC B1 K1 s fun L1 s =>
 z1 Z L1 s))))
theorem em_l18_PoolNone : F1 Try.prog n_l18_PoolNone Sm_l18_PoolNone := formM_of [.l [19] [(2, 1), (4, 3), (20, 57)], .l [108] [(2, 1), (10, 1), (109, 29)]] Try.func3
def S_l18_begun (P : Program) (σ : LO) (Z : ZT) : Prop :=
 cA P n_pool_New [] σ fun a s =>
 binC .neq .ptr a (.d .nilp) s fun b s =>
 gTm b a s fun c s =>
 gT b (cA P n_l18_signed [(iN 2), (iN 5)] s) s fun d s =>
 gT b (cA P n_pool_Pool_Put [c, d] s) s fun e s =>
 anC b e s fun f s =>
 gTm f a s fun g s =>
 gT f (cA P n_l18_signed [(iN 2), (iN 4)] s) s fun h s =>
 gT f (cA P n_pool_Pool_Put [g, h] s) s fun i s =>
 gT f (unC .not i s) s fun j s =>
 anC f j s fun l s =>
 gTm l a s fun m s =>
 gT l (cA P n_l18_signed [(iN 2), (iN 7)] s) s fun n s =>
 gT l (cA P n_pool_Pool_Put [m, n] s) s fun o s =>
 anC l o s fun p s =>
 gTm p a s fun q s =>
 gT p (cA P n_pool_Pool_Len [q] s) s fun r s =>
 gT p (bP .eql r (iN 1) s) s fun u s =>
 anC p u s fun w s =>
 gTm w a s fun y s =>
 gT w (cA P n_pool_Pool_Pick [y, eN] s) s fun z s =>
 gT w (lenC .sl z s) s fun A s =>
 gT w (bP .eql A (iN 1) s) s fun B s =>
 anC w B s fun C s =>
 gTm C a s fun D s =>
 gT C (cA P n_l18_signed [(iN 2), (iN 7)] s) s fun E s =>
 gT C (m1 9 zl1 E s) s fun F s =>
 gT C (m1 1 [eN] F s) s fun G s =>
 gT C (cA P n_pool_Pool_Pick [D, G] s) s fun H s =>
 gT C (lenC .sl H s) s fun I s =>
 gT C (bP .eql I (iN 0) s) s fun J s =>
 anC C J s fun K s =>
 gTm K a s fun L s =>
 gT K (cA P n_pool_Pool_Done [L, (iN 2), (iN 6)] s) s fun M s =>
 gT K (unC .not M s) s fun N s =>
 anC K N s fun O s =>
 gTm O a s fun Q s =>
 gT O (cA P n_pool_Pool_Done [Q, (iN 2), (iN 7)] s) s fun R s =>
 anC O R s fun S s =>
 gTm S a s fun T s =>
 gT S (cA P n_pool_Pool_Len [T] s) s fun U s =>
 gT S (bP .eql U (iN 0) s) s fun V s =>
 anC S V s fun W s =>
 z1 Z W s
theorem e_l18_begun : F0 Try.prog n_l18_begun S_l18_begun := form_of [] Try.func4
def S_pool_Pool_Of (P : Program) (x0 x1 : AV) (σ : LO) (Z : ZT) : Prop :=
 allocC zl1 σ fun a s =>
 cA P n_pool_Pool_none [x0] s fun b s =>
 gFm b x1 s fun c s =>
 gF b (cA P n_pool_is [c] s) s fun d s =>
 gF b (unC .not d s) s fun e s =>
 orC b e s fun f s =>
 gFm f x0 s fun g s =>
 gFm f x1 s fun h s =>
 gF f (nilC g s) s fun i s =>
 gF f (faddrC 1 i s) s fun j s =>
 gF f (iaddrC (some 8) 1 j h s) s fun l s =>
 gF f (loadC false 1 l s) s fun m s =>
 gF f (lenC .sl m s) s fun n s =>
 gF f (bP .eql n (iN 0) s) s fun o s =>
 orC f o s fun p s =>
 condC p (buildC (fillV zl1 []) s fun q s =>
 storeC 9 a q s fun _ s =>
 Z (consO (cellA a s true 9) (consO (some bF) (some []))) s) (nilC x0 s fun u s =>
 faddrC 1 u s fun w s =>
 iaddrC (some 8) 1 w x1 s fun y s =>
 loadC false 1 y s fun z s =>
 cA P n_request_Clone [z] s fun A s =>
 il true 9 9 A (iN 0) s fun B s =>
 storeC 9 a B s fun _ s =>
 Z (consO (cellA a s true 9) (consO (some bT) (some []))) s)
theorem e_pool_Pool_Of : F2 Try.prog n_pool_Pool_Of S_pool_Pool_Of := form_of [] Try.func5
def Sm_pool_Pool_Of (P : Program) (x0 x1 : AV) (σ : LO) (Z : ZT) : Prop :=
 allocC zl1 σ fun a s =>
 ACall P n_pool_Pool_none [x0] s fun b s =>
 gFm b x1 s fun c s =>
 gF b (ACall P n_pool_is [c] s) s fun d s =>
 gF b (unC .not d s) s fun e s =>
 orC b e s fun f s =>
 gFm f x0 s fun g s =>
 gFm f x1 s fun h s =>
 gF f (nilC g s) s fun i s =>
 gF f (faddrC 1 i s) s fun j s =>
 gF f (iaddrC (some 8) 1 j h s) s fun l s =>
 gF f (loadC false 1 l s) s fun m s =>
 gF f (lenC .sl m s) s fun n s =>
 gF f (bP .eql n (iN 0) s) s fun o s =>
 orC f o s fun p s =>
 condC p (buildC (fillV zl1 []) s fun q s =>
 storeC 9 a q s fun _ s =>
 Z (consO (cellA a s true 9) (consO (some bF) (some []))) s) (nilC x0 s fun u s =>
 faddrC 1 u s fun w s =>
 iaddrC (some 8) 1 w x1 s fun y s =>
 loadC false 1 y s fun z s =>
 ACall P n_request_Clone [z] s fun A s =>
 il true 9 9 A (iN 0) s fun B s =>
 storeC 9 a B s fun _ s =>
 Z (consO (cellA a s true 9) (consO (some bT) (some []))) s)
theorem em_pool_Pool_Of : F2 Try.prog n_pool_Pool_Of Sm_pool_Pool_Of := formM_of [] Try.func5
def S_pool_Pool_Len (P : Program) (x0 : AV) (σ : LO) (Z : ZT) : Prop :=
 cA P n_pool_Pool_Waiting [x0] σ fun a s =>
 lenC .sl a s fun b s =>
 z1 Z b s
theorem e_pool_Pool_Len : F1 Try.prog n_pool_Pool_Len S_pool_Pool_Len := form_of [] Try.func6
def S_pool_Pool_Clone (P : Program) (x0 : AV) (σ : LO) (Z : ZT) : Prop :=
 cA P n_pool_Pool_none [x0] σ fun a s =>
 condC a (z1 Z (.d .nilp) s) (cA P n_pool_Pool_Plain [x0] s fun b s =>
 cA P n_pool_From [b] s fun c s =>
 extractC c 0 s fun d s =>
 extractC c 1 s fun _ s =>
 z1 Z d s)
theorem e_pool_Pool_Clone : F1 Try.prog n_pool_Pool_Clone S_pool_Pool_Clone := form_of [] Try.func7
def S_pool_Pool_Put (P : Program) (x0 x1 : AV) (σ : LO) (Z : ZT) : Prop :=
 boxC x1 σ fun a s =>
 cA P n_pool_Pool_none [x0] s fun b s =>
 gF b (loadC true 9 a s) s fun c s =>
 gF b (m1 9 zl1 c s) s fun d s =>
 gF b (cA P n_request_CheckBatch [d] s) s fun e s =>
 gF b (bP .neq e (iN 0) s) s fun f s =>
 orC b f s fun g s =>
 condC g (z1 Z bF s) (faddrC 0 a s fun h s =>
 fl 0 h s fun i s =>
 nilC x0 s fun j s =>
 faddrC 1 j s fun l s =>
 iaddrC (some 8) 1 l i s fun m s =>
 nilC m s fun n s =>
 loadC false 1 n s fun o s =>
 lenC .sl o s fun p s =>
 bP .gtr p (iN 0) s fun q s =>
 gTm q m s fun r s =>
 gT q (nilC r s) s fun u s =>
 gT q (loadC false 1 u s) s fun w s =>
 gT q (iaddrC none 9 w (iN 0) s) s fun y s =>
 gT q (faddrC 0 y s) s fun z s =>
 gTl q 1 z s fun A s =>
 gT q (faddrC 0 a s) s fun B s =>
 gTl q 1 B s fun C s =>
 gT q (bP .geq A C s) s fun D s =>
 anC q D s fun E s =>
 condC E (z1 Z bF s) (loadC true 9 a s fun F s =>
 m1 9 zl1 F s fun G s =>
 cA P n_request_Clone [G] s fun H s =>
 nilC m s fun I s =>
 storeC 1 I H s fun _ s =>
 z1 Z bT s))
theorem e_pool_Pool_Put : F2 Try.prog n_pool_Pool_Put S_pool_Pool_Put := form_of [.d [(0, 8)] [], .d [(0, 18)] []] Try.func8
def Sm_pool_Pool_Put (P : Program) (x0 x1 : AV) (σ : LO) (Z : ZT) : Prop :=
 boxC x1 σ fun a s =>
 ACall P n_pool_Pool_none [x0] s fun b s =>
 gF b (loadC true 9 a s) s fun c s =>
 gF b (mksliceC true 9 1 (fillV (rep zl1 1) [(0, 9, c)]) s) s fun d s =>
 gF b (ACall P n_request_CheckBatch [d] s) s fun e s =>
 gF b (bP .neq e (iN 0) s) s fun f s =>
 orC b f s fun g s =>
 condC g (z1 Z bF s) (faddrC 0 a s fun h s =>
 fl 0 h s fun i s =>
 nilC x0 s fun j s =>
 faddrC 1 j s fun l s =>
 iaddrC (some 8) 1 l i s fun m s =>
 nilC m s fun n s =>
 loadC false 1 n s fun o s =>
 lenC .sl o s fun p s =>
 bP .gtr p (iN 0) s fun q s =>
 gTm q m s fun r s =>
 gT q (nilC r s) s fun u s =>
 gT q (loadC false 1 u s) s fun w s =>
 gT q (iaddrC none 9 w (iN 0) s) s fun y s =>
 gT q (faddrC 0 y s) s fun z s =>
 gTl q 1 z s fun A s =>
 gT q (faddrC 0 a s) s fun B s =>
 gTl q 1 B s fun C s =>
 gT q (bP .geq A C s) s fun D s =>
 anC q D s fun E s =>
 condC E (z1 Z bF s) (loadC true 9 a s fun F s =>
 mksliceC true 9 1 (fillV (rep zl1 1) [(0, 9, F)]) s fun G s =>
 ACall P n_request_Clone [G] s fun H s =>
 nilC m s fun I s =>
 storeC 1 I H s fun _ s =>
 z1 Z bT s))
theorem em_pool_Pool_Put : F2 Try.prog n_pool_Pool_Put Sm_pool_Pool_Put := formM_of [.d [(0, 8)] [], .d [(0, 18)] []] Try.func8
def S_pool_Pool_Done (P : Program) (x0 x1 x2 : AV) (σ : LO) (Z : ZT) : Prop :=
 cA P n_pool_Pool_none [x0] σ fun a s =>
 gFm a x1 s fun b s =>
 gF a (cA P n_pool_is [b] s) s fun c s =>
 gF a (unC .not c s) s fun d s =>
 orC a d s fun e s =>
 gFm e x0 s fun f s =>
 gFm e x1 s fun g s =>
 gF e (nilC f s) s fun h s =>
 gF e (faddrC 1 h s) s fun i s =>
 gF e (iaddrC (some 8) 1 i g s) s fun j s =>
 gF e (loadC false 1 j s) s fun l s =>
 gF e (lenC .sl l s) s fun m s =>
 gF e (bP .eql m (iN 0) s) s fun n s =>
 orC e n s fun o s =>
 gFm o x0 s fun p s =>
 gFm o x1 s fun q s =>
 gF o (nilC p s) s fun r s =>
 gF o (faddrC 1 r s) s fun u s =>
 gF o (iaddrC (some 8) 1 u q s) s fun w s =>
 gF o (loadC false 1 w s) s fun y s =>
 gF o (iaddrC none 9 y (iN 0) s) s fun z s =>
 gF o (faddrC 0 z s) s fun A s =>
 gFl o 1 A s fun B s =>
 gFm o x2 s fun C s =>
 gF o (bP .gtr B C s) s fun D s =>
 orC o D s fun E s =>
 condC E (z1 Z bF s) (nilC x0 s fun F s =>
 faddrC 1 F s fun G s =>
 iaddrC (some 8) 1 G x1 s fun H s =>
 storeC 1 H eN s fun _ s =>
 z1 Z bT s)
theorem e_pool_Pool_Done : F3 Try.prog n_pool_Pool_Done S_pool_Pool_Done := form_of [] Try.func9
def S_pool_Pool_Waiting (P : Program) (x0 : AV) (σ : LO) (Z : ZT) : Prop :=
 cA P n_pool_Pool_none [x0] σ fun a s =>
 condC a (z1 Z eN s) (nilC x0 s fun b s =>
 faddrC 1 b s fun c s =>
 slcC (.arr 8 1) c none none none s fun d s =>
 cA P n_slices_Concat_api_Batch_api_Signed [d] s fun e s =>
 cA P n_request_Clone [e] s fun f s =>
 z1 Z f s)
theorem e_pool_Pool_Waiting : F1 Try.prog n_pool_Pool_Waiting S_pool_Pool_Waiting := form_of [] Try.func10
def Sm_pool_Pool_Waiting (P : Program) (x0 : AV) (σ : LO) (Z : ZT) : Prop :=
 ACall P n_pool_Pool_none [x0] σ fun a s =>
 condC a (z1 Z eN s) (nilC x0 s fun b s =>
 faddrC 1 b s fun c s =>
 slcC (.arr 8 1) c none none none s fun d s =>
 ACall P n_slices_Concat_api_Batch_api_Signed [d] s fun e s =>
 ACall P n_request_Clone [e] s fun f s =>
 z1 Z f s)
theorem em_pool_Pool_Waiting : F1 Try.prog n_pool_Pool_Waiting Sm_pool_Pool_Waiting := formM_of [] Try.func10
def S_pool_Pool_Pick (P : Program) (x0 x1 : AV) (σ : LO) (Z : ZT) : Prop :=
 cA P n_pool_Pool_Waiting [x0] σ fun a s =>
 lenC .sl a s fun b s =>
 loopC [eN, (iN 0)] s fun v s c =>
 headC v fun d v => headC v fun e v => bP .lss e b s fun f s =>
 condC f ((fun (g : AV → LO → Prop) => il true 9 9 a e s fun j s =>
 cp zl1 9 j s fun l s =>
 lenC .sl d s fun m s =>
 bP .lss m (iN 4) s fun n s =>
 gTm n x1 s fun o s =>
 gTm n (.fn (.func n_pool_Pool_Pick_1) [] [l]) s fun p s =>
 gT n (cA P n_slices_ContainsFunc_api_Batch_api_Batch [o, p] s) s fun q s =>
 gT n (unC .not q s) s fun r s =>
 anC n r s fun u s =>
 condC u (loadC true 9 l s fun w s =>
 m1 9 zl1 w s fun y s =>
 appendC 9 104 d y s fun z s =>
 g z s) (g d s))
 (fun h s => bP .add e (iN 1) s fun i s =>
 c [h, i] s)) (z1 Z d s)
theorem e_pool_Pool_Pick : F2 Try.prog n_pool_Pool_Pick S_pool_Pool_Pick := form_of [.l [5, 12] [(7, 2), (13, 18)]] Try.func11
def Sm_pool_Pool_Pick (P : Program) (x0 x1 : AV) (σ : LO) (Z : ZT) : Prop :=
 ACall P n_pool_Pool_Waiting [x0] σ fun a s =>
 lenC .sl a s fun b s =>
 loopC [eN, (iN 0)] s fun v s c =>
 headC v fun d v => headC v fun e v => bP .lss e b s fun f s =>
 condC f ((fun (g : AV → LO → Prop) => il true 9 9 a e s fun j s =>
 cp zl1 9 j s fun l s =>
 lenC .sl d s fun m s =>
 bP .lss m (iN 4) s fun n s =>
 gTm n x1 s fun o s =>
 gTm n (.fn (.func n_pool_Pool_Pick_1) [] [l]) s fun p s =>
 gT n (ACall P n_slices_ContainsFunc_api_Batch_api_Batch [o, p] s) s fun q s =>
 gT n (unC .not q s) s fun r s =>
 anC n r s fun u s =>
 condC u (loadC true 9 l s fun w s =>
 mksliceC true 9 1 (fillV (rep zl1 1) [(0, 9, w)]) s fun y s =>
 appendRC 9 104 d y s fun z s =>
 g z s) (g d s))
 (fun h s => bP .add e (iN 1) s fun i s =>
 c [h, i] s)) (z1 Z d s)
theorem em_pool_Pool_Pick : F2 Try.prog n_pool_Pool_Pick Sm_pool_Pool_Pick := formM_of [.l [5, 12] [(7, 2), (13, 18)]] Try.func11
def S_pool_Pool_Plain (P : Program) (x0 : AV) (σ : LO) (Z : ZT) : Prop :=
 allocC [eN] σ fun a s =>
 cA P n_pool_Pool_Waiting [x0] s fun b s =>
 buildC (fillV [eN] [(0, 1, b)]) s fun c s =>
 storeC 1 a c s fun _ s =>
 Z (consO (cellA a s true 1) (some [])) s
theorem e_pool_Pool_Plain : F1 Try.prog n_pool_Pool_Plain S_pool_Pool_Plain := form_of [] Try.func12
def Sm_pool_Pool_Plain (P : Program) (x0 : AV) (σ : LO) (Z : ZT) : Prop :=
 allocC [eN] σ fun a s =>
 ACall P n_pool_Pool_Waiting [x0] s fun b s =>
 buildC (fillV [eN] [(0, 1, b)]) s fun c s =>
 storeC 1 a c s fun _ s =>
 Z (consO (cellA a s true 1) (some [])) s
theorem em_pool_Pool_Plain : F1 Try.prog n_pool_Pool_Plain Sm_pool_Pool_Plain := formM_of [] Try.func12
def S_pool_New (P : Program) (σ : LO) (Z : ZT) : Prop :=
 buildC (fillV zl0 [(0, 1, bT)]) σ fun a s =>
 boxC a s fun b s =>
 z1 Z b s
theorem e_pool_New : F0 Try.prog n_pool_New S_pool_New := form_of [] Try.func13
def S_l18_signed (P : Program) (x0 x1 : AV) (σ : LO) (Z : ZT) : Prop :=
 allocC zl1 σ fun a s =>
 buildC (fillV zl3 [(0, 1, x0), (1, 1, x1)]) s fun b s =>
 buildC (fillV [iN 0, iN 0] [(0, 1, (iN 1)), (1, 1, (iN 1))]) s fun c s =>
 buildC (fillV zl1 [(0, 7, b), (7, 2, c)]) s fun d s =>
 storeC 9 a d s fun _ s =>
 Z (consO (cellA a s true 9) (some [])) s
theorem e_l18_signed : F2 Try.prog n_l18_signed S_l18_signed := form_of [] Try.func14
def S_pool_Pool_none (P : Program) (x0 : AV) (σ : LO) (Z : ZT) : Prop :=
 binC .eql .ptr x0 (.d .nilp) σ fun a s =>
 gFm a x0 s fun b s =>
 gF a (nilC b s) s fun c s =>
 gFl a 0 c s fun d s =>
 gF a (unC .not d s) s fun e s =>
 orC a e s fun f s =>
 z1 Z f s
theorem e_pool_Pool_none : F1 Try.prog n_pool_Pool_none S_pool_Pool_none := form_of [] Try.func15
def S_pool_is (P : Program) (x0 : AV) (σ : LO) (Z : ZT) : Prop :=
 bP .geq x0 (iN 0) σ fun a s =>
 gTm a x0 s fun b s =>
 gT a (bP .lss b (iN 8) s) s fun c s =>
 anC a c s fun d s =>
 z1 Z d s
theorem e_pool_is : F1 Try.prog n_pool_is S_pool_is := form_of [] Try.func16
def S_request_Clone (P : Program) (x0 : AV) (σ : LO) (Z : ZT) : Prop :=
 lenC .sl x0 σ fun a s =>
 loopC [eN, (iN 0)] s fun v s b =>
 headC v fun c v => headC v fun d v => bP .lss d a s fun e s =>
 condC e (il true 9 9 x0 d s fun f s =>
 cp zl1 9 f s fun g s =>
 faddrC 0 g s fun h s =>
 faddrC 2 h s fun i s =>
 loadC true 5 i s fun j s =>
 cA P n_op_Clone [j] s fun l s =>
 faddrC 0 g s fun m s =>
 faddrC 2 m s fun n s =>
 storeC 5 n l s fun _ s =>
 loadC true 9 g s fun p s =>
 m1 9 zl1 p s fun q s =>
 appendC 9 104 c q s fun r s =>
 bP .add d (iN 1) s fun u s =>
 b [r, u] s) (z1 Z c s)
theorem e_request_Clone : F1 Try.prog n_request_Clone S_request_Clone := form_of [.l [3, 8] [(5, 1), (9, 14)]] Try.func17
def Sm_request_Clone (P : Program) (x0 : AV) (σ : LO) (Z : ZT) : Prop :=
 lenC .sl x0 σ fun a s =>
 loopC [eN, (iN 0)] s fun v s b =>
 headC v fun c v => headC v fun d v => bP .lss d a s fun e s =>
 condC e (il true 9 9 x0 d s fun f s =>
 cp zl1 9 f s fun g s =>
 faddrC 0 g s fun h s =>
 faddrC 2 h s fun i s =>
 loadC true 5 i s fun j s =>
 ACall P n_op_Clone [j] s fun l s =>
 faddrC 0 g s fun m s =>
 faddrC 2 m s fun n s =>
 storeC 5 n l s fun _ s =>
 loadC true 9 g s fun p s =>
 mksliceC true 9 1 (fillV (rep zl1 1) [(0, 9, p)]) s fun q s =>
 appendRC 9 104 c q s fun r s =>
 bP .add d (iN 1) s fun u s =>
 b [r, u] s) (z1 Z c s)
theorem em_request_Clone : F1 Try.prog n_request_Clone Sm_request_Clone := formM_of [.l [3, 8] [(5, 1), (9, 14)]] Try.func17
def S_request_CheckBatch (P : Program) (x0 : AV) (σ : LO) (Z : ZT) : Prop :=
 lenC .sl x0 σ fun a s =>
 bP .gtr a (iN 4) s fun b s =>
 condC b (z1 Z (iN 3) s) (lenC .sl x0 s fun c s =>
 loopC [(iN 0)] s fun v s d =>
 headC v fun e v => bP .lss e c s fun f s =>
 condC f (il true 9 9 x0 e s fun g s =>
 cp zl1 9 g s fun h s =>
 faddrC 0 h s fun i s =>
 loadC true 7 i s fun j s =>
 cA P n_request_Check [j] s fun l s =>
 bP .neq l (iN 0) s fun m s =>
 condC m (z1 Z l s) (faddrC 7 h s fun n s =>
 loadC true 2 n s fun o s =>
 cA P n_request_CheckSign [o] s fun p s =>
 bP .neq p (iN 0) s fun q s =>
 condC q (z1 Z p s) (bP .add e (iN 1) s fun r s =>
 d [r] s))) (lenC .sl x0 s fun u s =>
 loopC [(iN 0)] s fun v s w =>
 headC v fun y v => bP .lss y u s fun z s =>
 condC z (il true 9 9 x0 y s fun A s =>
 allocC zl1 s fun B s =>
 storeC 9 B A s fun _ s =>
 slcC (.sl 9) x0 none (some y) none s fun D s =>
 lenC .sl D s fun E s =>
 loopC [(iN 0)] s fun v s F =>
 headC v fun G v => bP .lss G E s fun H s =>
 condC H (il true 9 9 D G s fun I s =>
 cp zl1 9 I s fun J s =>
 faddrC 0 B s fun K s =>
 fl 0 K s fun L s =>
 faddrC 0 J s fun M s =>
 fl 0 M s fun N s =>
 bP .eql L N s fun O s =>
 gT O (faddrC 0 B s) s fun Q s =>
 gTl O 1 Q s fun R s =>
 gT O (faddrC 0 J s) s fun S s =>
 gTl O 1 S s fun T s =>
 gT O (bP .eql R T s) s fun U s =>
 anC O U s fun V s =>
 condC V (z1 Z (iN 5) s) (bP .add G (iN 1) s fun W s =>
 F [W] s)) (bP .add y (iN 1) s fun X s =>
 w [X] s)) (z1 Z (iN 0) s)))
theorem e_request_CheckBatch : F1 Try.prog n_request_CheckBatch S_request_CheckBatch := form_of [.l [16] [(2, 1), (4, 3), (17, 16)], .l [35] [(2, 1), (7, 2), (10, 1), (36, 30)], .l [44] [(2, 1), (10, 1), (45, 20)]] Try.func19
def Sm_slices_Concat_api_Batch_api_Signed (P : Program) (x0 : AV) (σ : LO) (Z : ZT) : Prop :=
 lenC .sl x0 σ fun a s =>
 loopC [(iN 0), (iN 0)] s fun v s b =>
 headC v fun c v => headC v fun d v => bP .lss d a s fun e s =>
 condC e ((fun (f : AV → LO → Prop) => il false 1 1 x0 d s fun i s =>
 lenC .sl i s fun j s =>
 bP .add c j s fun l s =>
 bP .lss l (iN 0) s fun m s =>
 condC m (False) (f l s))
 (fun g s => bP .add d (iN 1) s fun h s =>
 b [g, h] s)) (ACall P n_slices_Grow_api_Batch_api_Signed [eN, c] s fun p s =>
 lenC .sl x0 s fun q s =>
 loopC [p, (iN 0)] s fun v s r =>
 headC v fun u v => headC v fun w v => bP .lss w q s fun y s =>
 condC y (il false 1 1 x0 w s fun z s =>
 appendRC 9 104 u z s fun A s =>
 bP .add w (iN 1) s fun B s =>
 r [A, B] s) (z1 Z u s))
theorem em_slices_Concat_api_Batch_api_Signed : F1 Try.prog n_slices_Concat_api_Batch_api_Signed Sm_slices_Concat_api_Batch_api_Signed := formM_of [.l [3, 11] [(5, 1), (12, 11)], .l [6, 27] [(8, 1), (28, 7)]] Try.func20
def S_pool_Pool_Pick_1 (P : Program) (x0 x1 : AV) (σ : LO) (Z : ZT) : Prop :=
 cA P n_slices_ContainsFunc_api_Batch_api_Signed [x0, (.fn (.func n_pool_Pool_Pick_1_1) [] [x1])] σ fun a s =>
 z1 Z a s
theorem e_pool_Pool_Pick_1 : F2 Try.prog n_pool_Pool_Pick_1 S_pool_Pool_Pick_1 := form_of [] Try.func21
def S_slices_ContainsFunc_api_Batch_api_Signed (P : Program) (x0 x1 : AV) (σ : LO) (Z : ZT) : Prop :=
 cA P n_slices_IndexFunc_api_Batch_api_Signed [x0, x1] σ fun a s =>
 bP .geq a (iN 0) s fun b s =>
 z1 Z b s
theorem e_slices_ContainsFunc_api_Batch_api_Signed : F2 Try.prog n_slices_ContainsFunc_api_Batch_api_Signed S_slices_ContainsFunc_api_Batch_api_Signed := form_of [] Try.func22
def S_pool_Pool_Pick_1_1 (P : Program) (x0 x1 : AV) (σ : LO) (Z : ZT) : Prop :=
 boxC x0 σ fun a s =>
 faddrC 0 a s fun b s =>
 fl 0 b s fun c s =>
 faddrC 0 x1 s fun d s =>
 fl 0 d s fun e s =>
 bP .eql c e s fun f s =>
 gT f (faddrC 0 a s) s fun g s =>
 gTl f 1 g s fun h s =>
 gT f (faddrC 0 x1 s) s fun i s =>
 gTl f 1 i s fun j s =>
 gT f (bP .eql h j s) s fun l s =>
 anC f l s fun m s =>
 z1 Z m s
theorem e_pool_Pool_Pick_1_1 : F2 Try.prog n_pool_Pool_Pick_1_1 S_pool_Pool_Pick_1_1 := form_of [] Try.func23
def S_slices_ContainsFunc_api_Batch_api_Batch (P : Program) (x0 x1 : AV) (σ : LO) (Z : ZT) : Prop :=
 cA P n_slices_IndexFunc_api_Batch_api_Batch [x0, x1] σ fun a s =>
 bP .geq a (iN 0) s fun b s =>
 z1 Z b s
theorem e_slices_ContainsFunc_api_Batch_api_Batch : F2 Try.prog n_slices_ContainsFunc_api_Batch_api_Batch S_slices_ContainsFunc_api_Batch_api_Batch := form_of [] Try.func24
def S_op_Clone (P : Program) (x0 : AV) (σ : LO) (Z : ZT) : Prop :=
 boxC x0 σ fun a s =>
 allocC zl2 s fun b s =>
 fl 4 a s fun c s =>
 lenC .sl c s fun d s =>
 loopC [eN, (iN 0)] s fun v s e =>
 headC v fun f v => headC v fun g v => bP .lss g d s fun h s =>
 condC h (il false 1 1 c g s fun i s =>
 cA P n_bytes_Clone [i] s fun j s =>
 m1 1 [eN] j s fun l s =>
 appendC 1 24 f l s fun m s =>
 bP .add g (iN 1) s fun n s =>
 e [m, n] s) (faddrC 4 a s fun o s =>
 storeC 1 o f s fun _ s =>
 loadC true 5 a s fun q s =>
 storeC 5 b q s fun _ s =>
 Z (consO (cellA b s true 5) (some [])) s)
theorem e_op_Clone : F1 Try.prog n_op_Clone S_op_Clone := form_of [.l [3, 9] [(5, 1), (10, 9)]] Try.func25
def Sm_op_Clone (P : Program) (x0 : AV) (σ : LO) (Z : ZT) : Prop :=
 boxC x0 σ fun a s =>
 allocC zl2 s fun b s =>
 fl 4 a s fun c s =>
 lenC .sl c s fun d s =>
 loopC [eN, (iN 0)] s fun v s e =>
 headC v fun f v => headC v fun g v => bP .lss g d s fun h s =>
 condC h (il false 1 1 c g s fun i s =>
 ACall P n_bytes_Clone [i] s fun j s =>
 mksliceC true 1 1 (fillV (rep [eN] 1) [(0, 1, j)]) s fun l s =>
 appendRC 1 24 f l s fun m s =>
 bP .add g (iN 1) s fun n s =>
 e [m, n] s) (faddrC 4 a s fun o s =>
 storeC 1 o f s fun _ s =>
 loadC true 5 a s fun q s =>
 storeC 5 b q s fun _ s =>
 Z (consO (cellA b s true 5) (some [])) s)
theorem em_op_Clone : F1 Try.prog n_op_Clone Sm_op_Clone := formM_of [.l [3, 9] [(5, 1), (10, 9)]] Try.func25
def S_request_Check (P : Program) (x0 : AV) (σ : LO) (Z : ZT) : Prop :=
 boxC x0 σ fun a s =>
 fl 0 a s fun b s =>
 bP .lss b (iN 0) s fun c s =>
 gFl c 0 a s fun d s =>
 gF c (bP .geq d (iN 8) s) s fun e s =>
 orC c e s fun f s =>
 gFl f 1 a s fun g s =>
 gF f (bP .lss g (iN 1) s) s fun h s =>
 orC f h s fun i s =>
 gFl i 1 a s fun j s =>
 gF i (bP .gtr j (iN 9007199254740992) s) s fun l s =>
 orC i l s fun m s =>
 condC m (z1 Z (iN 80) s) (faddrC 2 a s fun n s =>
 loadC true 5 n s fun o s =>
 cA P n_op_Check [o] s fun p s =>
 z1 Z p s)
theorem e_request_Check : F1 Try.prog n_request_Check S_request_Check := form_of [] Try.func26
def S_request_CheckSign (P : Program) (x0 : AV) (σ : LO) (Z : ZT) : Prop :=
 boxC x0 σ fun a s =>
 fl 0 a s fun b s =>
 bP .lss b (iN 0) s fun c s =>
 gFl c 0 a s fun d s =>
 gF c (bP .geq d (iN 21) s) s fun e s =>
 orC c e s fun f s =>
 gFl f 1 a s fun g s =>
 gF f (bP .lss g (iN 1) s) s fun h s =>
 orC f h s fun i s =>
 gFl i 1 a s fun j s =>
 gF i (bP .gtr j (iN 9007199254740992) s) s fun l s =>
 orC i l s fun m s =>
 condC m (z1 Z (iN 81) s) (z1 Z (iN 0) s)
theorem e_request_CheckSign : F1 Try.prog n_request_CheckSign S_request_CheckSign := form_of [] Try.func27
def Sm_slices_Grow_api_Batch_api_Signed (P : Program) (x0 x1 : AV) (σ : LO) (Z : ZT) : Prop :=
 (fun (a : LO → Prop) => bP .lss x1 (iN 0) σ fun o s =>
 condC o (False) (a s))
 (fun  s => (fun (b : AV → LO → Prop) => capC x0 s fun d s =>
 lenC .sl x0 s fun e s =>
 bP .sub d e s fun f s =>
 bP .sub x1 f s fun g s =>
 bP .gtr g (iN 0) s fun h s =>
 condC h (capC x0 s fun i s =>
 slcC (.sl 9) x0 none (some i) none s fun j s =>
 appzC 9 104 zl1 j g s fun l s =>
 lenC .sl x0 s fun m s =>
 slcC (.sl 9) l none (some m) none s fun n s =>
 b n s) (b x0 s))
 (fun c s => z1 Z c s))
theorem em_slices_Grow_api_Batch_api_Signed : F2 Try.prog n_slices_Grow_api_Batch_api_Signed Sm_slices_Grow_api_Batch_api_Signed := formM_of [] Try.func28
def S_slices_IndexFunc_api_Batch_api_Signed (P : Program) (x0 x1 : AV) (σ : LO) (Z : ZT) : Prop :=
 lenC .sl x0 σ fun a s =>
 loopC [(iN 0)] s fun v s b =>
 headC v fun c v => bP .lss c a s fun d s =>
 condC d (il true 9 9 x0 c s fun e s =>
 callvC P x1 [dm e] s fun f s =>
 condC f (z1 Z c s) (bP .add c (iN 1) s fun g s =>
 b [g] s)) (z1 Z (iN (-1)) s)
theorem e_slices_IndexFunc_api_Batch_api_Signed : F2 Try.prog n_slices_IndexFunc_api_Batch_api_Signed S_slices_IndexFunc_api_Batch_api_Signed := form_of [.l [8] [(4, 2), (9, 10)]] Try.func29
def S_slices_IndexFunc_api_Batch_api_Batch (P : Program) (x0 x1 : AV) (σ : LO) (Z : ZT) : Prop :=
 lenC .sl x0 σ fun a s =>
 loopC [(iN 0)] s fun v s b =>
 headC v fun c v => bP .lss c a s fun d s =>
 condC d (il false 1 1 x0 c s fun e s =>
 callvC P x1 [dm e] s fun f s =>
 condC f (z1 Z c s) (bP .add c (iN 1) s fun g s =>
 b [g] s)) (z1 Z (iN (-1)) s)
theorem e_slices_IndexFunc_api_Batch_api_Batch : F2 Try.prog n_slices_IndexFunc_api_Batch_api_Batch S_slices_IndexFunc_api_Batch_api_Batch := form_of [.l [8] [(4, 2), (9, 10)]] Try.func30
def S_bytes_Clone (P : Program) (x0 : AV) (σ : LO) (Z : ZT) : Prop :=
 isnilC false x0 σ fun a s =>
 condC a (z1 Z eN s) (mksliceC false 1 0 (fillV (rep [(.d (.int .u8 0))] 0) []) s fun b s =>
 appendC 1 1 b x0 s fun c s =>
 z1 Z c s)
theorem e_bytes_Clone : F1 Try.prog n_bytes_Clone S_bytes_Clone := form_of [] Try.func31
def Sm_bytes_Clone (P : Program) (x0 : AV) (σ : LO) (Z : ZT) : Prop :=
 isnilC false x0 σ fun a s =>
 condC a (z1 Z eN s) (mksliceC true 1 0 (fillV (rep [(.d (.int .u8 0))] 0) []) s fun b s =>
 appendRC 1 1 b x0 s fun c s =>
 z1 Z c s)
theorem em_bytes_Clone : F1 Try.prog n_bytes_Clone Sm_bytes_Clone := formM_of [] Try.func31
def S_op_Check (P : Program) (x0 : AV) (σ : LO) (Z : ZT) : Prop :=
 boxC x0 σ fun a s =>
 loadC true 5 a s fun b s =>
 cA P n_op_only [b] s fun c s =>
 extractC c 0 s fun d s =>
 extractC c 1 s fun e s =>
 cp zl2 5 d s fun f s =>
 unC .not e s fun g s =>
 gF g (loadC true 5 a s) s fun h s =>
 gF g (loadC true 5 f s) s fun i s =>
 gF g (cA P n_op_Same [h, i] s) s fun j s =>
 gF g (unC .not j s) s fun l s =>
 orC g l s fun m s =>
 condC m (z1 Z (iN 60) s) (fl 0 a s fun n s =>
 bP .neq n (iN 0) s fun o s =>
 gTl o 1 a s fun p s =>
 gT o (cA P n_op_Name [p] s) s fun q s =>
 gT o (unC .not q s) s fun r s =>
 anC o r s fun u s =>
 condC u (z1 Z (iN 61) s) (fl 0 a s fun w s =>
 bP .eql w (iN 3) s fun y s =>
 gTl y 2 a s fun z s =>
 gT y (cA P n_op_Name [z] s) s fun A s =>
 gT y (unC .not A s) s fun B s =>
 anC y B s fun C s =>
 condC C (z1 Z (iN 61) s) (fl 0 a s fun D s =>
 bP .eql D (iN 2) s fun E s =>
 gTl E 4 a s fun F s =>
 gT E (lenC .sl F s) s fun G s =>
 gT E (bP .lss G (iN 1) s) s fun H s =>
 gTm E H s fun I s =>
 gFl I 4 a s fun J s =>
 gF I (lenC .sl J s) s fun K s =>
 gF I (bP .gtr K (iN 4) s) s fun L s =>
 gT E (orC I L s) s fun M s =>
 gTm E M s fun N s =>
 gFl N 4 a s fun O s =>
 gFm N (.fn (.func n_op_Check_1) [] []) s fun Q s =>
 gF N (cA P n_slices_ContainsFunc_api_Record_api_Record [O, Q] s) s fun R s =>
 gT E (orC N R s) s fun S s =>
 anC E S s fun T s =>
 condC T (z1 Z (iN 62) s) (fl 3 a s fun U s =>
 bP .lss U (iN 0) s fun V s =>
 gFl V 3 a s fun W s =>
 gF V (bP .gtr W (iN 9007199254740992) s) s fun X s =>
 orC V X s fun Y s =>
 condC Y (z1 Z (iN 60) s) (z1 Z (iN 0) s)))))
theorem e_op_Check : F1 Try.prog n_op_Check S_op_Check := form_of [] Try.func32
def S_op_only (P : Program) (x0 : AV) (σ : LO) (Z : ZT) : Prop :=
 boxC x0 σ fun a s =>
 allocC zl2 s fun b s =>
 fl 0 a s fun c s =>
 buildC (fillV zl2 [(0, 1, c)]) s fun d s =>
 cp zl2 5 d s fun e s =>
 (fun (f : LO → Prop) => fl 0 a s fun i s =>
 bP .eql i (iN 0) s fun j s =>
 condC j (f s) (bP .eql i (iN 1) s fun l s =>
 condC l (fl 1 a s fun m s =>
 faddrC 1 e s fun n s =>
 storeC 1 n m s fun _ s =>
 f s) (bP .eql i (iN 2) s fun p s =>
 condC p (fl 1 a s fun q s =>
 faddrC 4 a s fun r s =>
 loadC false 1 r s fun u s =>
 faddrC 1 e s fun w s =>
 storeC 1 w q s fun _ t =>
 keepO r s t ∧ (faddrC 4 e t fun z s =>
 storeC 1 z u s fun _ s =>
 f s)) (bP .eql i (iN 3) s fun B s =>
 condC B (fl 1 a s fun C s =>
 faddrC 2 a s fun D s =>
 loadC false 1 D s fun E s =>
 faddrC 3 a s fun F s =>
 loadC false 1 F s fun G s =>
 faddrC 1 e s fun H s =>
 storeC 1 H C s fun _ t =>
 keepO D s t ∧ (keepO F s t ∧ (faddrC 2 e t fun J s =>
 storeC 1 J E s fun _ t =>
 keepO F s t ∧ (faddrC 3 e t fun L s =>
 storeC 1 L G s fun _ s =>
 f s)))) (bP .eql i (iN 4) s fun N s =>
 condC N (fl 1 a s fun O s =>
 faddrC 3 a s fun Q s =>
 loadC false 1 Q s fun R s =>
 faddrC 1 e s fun S s =>
 storeC 1 S O s fun _ t =>
 keepO Q s t ∧ (faddrC 3 e t fun U s =>
 storeC 1 U R s fun _ s =>
 f s)) (loadC true 5 e s fun W s =>
 storeC 5 b W s fun _ s =>
 Z (consO (cellA b s true 5) (consO (some bF) (some []))) s))))))
 (fun  s => loadC true 5 e s fun g s =>
 storeC 5 b g s fun _ s =>
 Z (consO (cellA b s true 5) (consO (some bT) (some []))) s)
theorem e_op_only : F1 Try.prog n_op_only S_op_only := form_of [.d [(0, 8)] [(5, [22])], .d [(0, 12)] [(7, [30, 32]), (9, [32])], .d [(0, 8)] [(5, [41])]] Try.func33
def S_op_Check_1 (P : Program) (x0 : AV) (σ : LO) (Z : ZT) : Prop :=
 lenC .sl x0 σ fun a s =>
 bP .gtr a (iN 64) s fun b s =>
 z1 Z b s
theorem e_op_Check_1 : F1 Try.prog n_op_Check_1 S_op_Check_1 := form_of [] Try.func34
def S_op_Same (P : Program) (x0 x1 : AV) (σ : LO) (Z : ZT) : Prop :=
 boxC x0 σ fun a s =>
 boxC x1 s fun b s =>
 fl 0 a s fun c s =>
 fl 0 b s fun d s =>
 bP .eql c d s fun e s =>
 gTl e 1 a s fun f s =>
 gTl e 1 b s fun g s =>
 gT e (bP .eql f g s) s fun h s =>
 anC e h s fun i s =>
 gTl i 2 a s fun j s =>
 gTl i 2 b s fun l s =>
 gT i (bP .eql j l s) s fun m s =>
 anC i m s fun n s =>
 gTl n 3 a s fun o s =>
 gTl n 3 b s fun p s =>
 gT n (bP .eql o p s) s fun q s =>
 anC n q s fun r s =>
 gTl r 4 a s fun u s =>
 gTl r 4 b s fun w s =>
 gT r (cA P n_slices_EqualFunc_api_Record_api_Record_api_Record_api_Record [u, w, (.fn (.func n_op_Same_1) [] [])] s) s fun y s =>
 anC r y s fun z s =>
 z1 Z z s
theorem e_op_Same : F2 Try.prog n_op_Same S_op_Same := form_of [] Try.func35
def S_op_Name (P : Program) (x0 : AV) (σ : LO) (Z : ZT) : Prop :=
 cA P n_op_Runes [x0] σ fun a s =>
 bP .gtr a (iN 0) s fun b s =>
 z1 Z b s
theorem e_op_Name : F1 Try.prog n_op_Name S_op_Name := form_of [] Try.func36
def S_slices_ContainsFunc_api_Record_api_Record (P : Program) (x0 x1 : AV) (σ : LO) (Z : ZT) : Prop :=
 cA P n_slices_IndexFunc_api_Record_api_Record [x0, x1] σ fun a s =>
 bP .geq a (iN 0) s fun b s =>
 z1 Z b s
theorem e_slices_ContainsFunc_api_Record_api_Record : F2 Try.prog n_slices_ContainsFunc_api_Record_api_Record S_slices_ContainsFunc_api_Record_api_Record := form_of [] Try.func37
def S_slices_EqualFunc_api_Record_api_Record_api_Record_api_Record (P : Program) (x0 x1 x2 : AV) (σ : LO) (Z : ZT) : Prop :=
 lenC .sl x0 σ fun a s =>
 lenC .sl x1 s fun b s =>
 bP .neq a b s fun c s =>
 condC c (z1 Z bF s) (lenC .sl x0 s fun d s =>
 loopC [(iN 0)] s fun v s e =>
 headC v fun f v => bP .lss f d s fun g s =>
 condC g (il false 1 1 x0 f s fun h s =>
 il false 1 1 x1 f s fun i s =>
 callvC P x2 [dm h, dm i] s fun j s =>
 unC .not j s fun l s =>
 condC l (z1 Z bF s) (bP .add f (iN 1) s fun m s =>
 e [m] s)) (z1 Z bT s))
theorem e_slices_EqualFunc_api_Record_api_Record_api_Record_api_Record : F3 Try.prog n_slices_EqualFunc_api_Record_api_Record_api_Record_api_Record S_slices_EqualFunc_api_Record_api_Record_api_Record_api_Record := form_of [.l [17] [(6, 4), (18, 14)]] Try.func38
def S_op_Same_1 (P : Program) (x0 x1 : AV) (σ : LO) (Z : ZT) : Prop :=
 cA P n_bytes_Equal [x0, x1] σ fun a s =>
 z1 Z a s
theorem e_op_Same_1 : F2 Try.prog n_op_Same_1 S_op_Same_1 := form_of [] Try.func39
def S_bytes_Equal (P : Program) (x0 x1 : AV) (σ : LO) (Z : ZT) : Prop :=
 convC .toStr x0 σ fun a s =>
 convC .toStr x1 s fun b s =>
 bP .eql a b s fun c s =>
 z1 Z c s
theorem e_bytes_Equal : F2 Try.prog n_bytes_Equal S_bytes_Equal := form_of [] Try.func40
def S_op_Runes (P : Program) (x0 : AV) (σ : LO) (Z : ZT) : Prop :=
 rangeC x0 σ fun a s =>
 loopC [(iN 0)] s fun v s b =>
 headC v fun c v => nextC a s fun d s =>
 extractC d 0 s fun e s =>
 condC e (extractC d 2 s fun f s =>
 bP .lss f (.d (.int .i32 33)) s fun g s =>
 gFm g f s fun h s =>
 gF g (bP .geq h (.d (.int .i32 127)) s) s fun i s =>
 gFm g i s fun j s =>
 gTm j f s fun l s =>
 gT j (bP .leq l (.d (.int .i32 159)) s) s fun m s =>
 gF g (anC j m s) s fun n s =>
 orC g n s fun o s =>
 gFm o f s fun p s =>
 gF o (bP .eql p (.d (.int .i32 47)) s) s fun q s =>
 orC o q s fun r s =>
 gFm r f s fun u s =>
 gF r (bP .eql u (.d (.int .i32 65533)) s) s fun w s =>
 orC r w s fun y s =>
 condC y (z1 Z (iN 0) s) (bP .add c (iN 1) s fun z s =>
 b [z] s)) (bP .gtr c (iN 16) s fun A s =>
 condC A (z1 Z (iN 0) s) (z1 Z c s))
theorem e_op_Runes : F1 Try.prog n_op_Runes S_op_Runes := form_of [.l [3] [(2, 1), (5, 1), (8, 23)]] Try.func41
def S_slices_IndexFunc_api_Record_api_Record (P : Program) (x0 x1 : AV) (σ : LO) (Z : ZT) : Prop :=
 lenC .sl x0 σ fun a s =>
 loopC [(iN 0)] s fun v s b =>
 headC v fun c v => bP .lss c a s fun d s =>
 condC d (il false 1 1 x0 c s fun e s =>
 callvC P x1 [dm e] s fun f s =>
 condC f (z1 Z c s) (bP .add c (iN 1) s fun g s =>
 b [g] s)) (z1 Z (iN (-1)) s)
theorem e_slices_IndexFunc_api_Record_api_Record : F2 Try.prog n_slices_IndexFunc_api_Record_api_Record S_slices_IndexFunc_api_Record_api_Record := form_of [.l [8] [(4, 2), (9, 10)]] Try.func42
end Go.Proofs.Ytnfienilahfdjaa
