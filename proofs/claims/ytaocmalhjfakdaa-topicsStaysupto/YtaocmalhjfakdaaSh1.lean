/- The conditions of each function, its slots as variables, and that the logic's conditions are these. Printed by program. -/
import Derived.Test.YtaocmalhjfakdaaNm
import Derived.KernelRfl
set_option linter.all false
set_option maxRecDepth 100000
set_option linter.unusedVariables false
namespace Go.Proofs.Ytaocmalhjfakdaa
open Go.AW
def S_l07_TopicsStays (P : Program) (x0 : AV) (σ : LO) (Z : ZT) : Prop :=
 cA P n_l07_live [] σ fun a s =>
 unC .not a s fun b s =>
 condC b (z1 Z bF s) (cA P n_topics_New [] s fun c s =>
 mkmapC s fun d s =>
 lenC .sl x0 s fun e s =>
 loopC [(iN 0)] s fun v s f =>
 headC v fun g v => bP .lss g e s fun h s =>
 condC h ((fun (i : LO → Prop) => il true 7 7 x0 g s fun l s =>
 cp zl0 7 l s fun m s =>
 loadC true 7 m s fun n s =>
 cA P n_topics_Topics_Apply [c, n] s fun o s =>
 extractC o 0 s fun p s =>
 extractC o 1 s fun q s =>
 extractC o 2 s fun _ s =>
 cp [iN 0, iN 0] 2 p s fun _ s =>
 lenC .sl q s fun w s =>
 loopC [(iN 0)] s fun v s y =>
 headC v fun z v => bP .lss z w s fun A s =>
 condC A (il true 3 3 q z s fun B s =>
 cp [(.d (.str [])), iN 0, eN] 3 B s fun C s =>
 fl 1 C s fun D s =>
 fl 0 C s fun E s =>
 mgetC .str false eN d E s fun F s =>
 lenC .sl F s fun G s =>
 bP .neq D G s fun H s =>
 condC H (z1 Z bF s) (faddrC 0 C s fun I s =>
 loadC false 1 I s fun J s =>
 fl 0 C s fun K s =>
 mgetC .str false eN d K s fun L s =>
 fl 2 C s fun M s =>
 m1 1 [eN] M s fun N s =>
 appendC 1 24 L N s fun O t =>
 keepO I s t ∧ (msetC .str d J O t fun _ s =>
 bP .add z (iN 1) s fun R s =>
 y [R] s))) (faddrC 2 m s fun S s =>
 fl 1 S s fun T s =>
 cA P n_topics_Topics_Bounds [c, T] s fun U s =>
 extractC U 0 s fun V s =>
 extractC U 1 s fun W s =>
 extractC U 2 s fun X s =>
 bP .neq X (iN 0) s fun Y s =>
 condC Y (i s) (faddrC 2 m s fun a0 s =>
 fl 1 a0 s fun b0 s =>
 mgetC .str false eN d b0 s fun c0 s =>
 lenC .sl c0 s fun d0 s =>
 bP .neq W d0 s fun e0 s =>
 gFm e0 V s fun f0 s =>
 gF e0 (bP .lss f0 (iN 0) s) s fun g0 s =>
 orC e0 g0 s fun h0 s =>
 gFm h0 V s fun i0 s =>
 gFm h0 W s fun j0 s =>
 gF h0 (bP .gtr i0 j0 s) s fun l0 s =>
 orC h0 l0 s fun m0 s =>
 condC m0 (z1 Z bF s) (loopC [V] s fun v s o0 =>
 headC v fun p0 v => bP .lss p0 W s fun q0 s =>
 condC q0 (faddrC 2 m s fun r0 s =>
 fl 1 r0 s fun u0 s =>
 cA P n_topics_Topics_Get [c, u0, p0] s fun w0 s =>
 extractC w0 0 s fun y0 s =>
 extractC w0 1 s fun z0 s =>
 bP .neq z0 (iN 0) s fun A0 s =>
 gFm A0 y0 s fun B0 s =>
 gFm A0 d s fun C0 s =>
 gF A0 (faddrC 2 m s) s fun D0 s =>
 gFl A0 1 D0 s fun E0 s =>
 gF A0 (mgetC .str false eN C0 E0 s) s fun F0 s =>
 gFm A0 p0 s fun G0 s =>
 gF A0 (iaddrC none 1 F0 G0 s) s fun H0 s =>
 gF A0 (loadC false 1 H0 s) s fun I0 s =>
 gF A0 (cA P n_l07_equal [B0, I0] s) s fun J0 s =>
 gF A0 (unC .not J0 s) s fun K0 s =>
 orC A0 K0 s fun L0 s =>
 condC L0 (z1 Z bF s) (bP .add p0 (iN 1) s fun M0 s =>
 o0 [M0] s)) (i s)))))
 (fun  s => bP .add g (iN 1) s fun j s =>
 f [j] s)) (z1 Z bT s))
theorem e_l07_TopicsStays : F1 Try.prog n_l07_TopicsStays S_l07_TopicsStays := form_of [.l [24] [(2, 1), (6, 4), (11, 7), (25, 95)], .l [37] [(2, 1), (11, 1), (38, 23)], .d [(0, 12)] [(10, [50])], .l [15] [(2, 1), (16, 2), (90, 29)]] Try.func3
def S_l07_live (P : Program) (σ : LO) (Z : ZT) : Prop :=
 cA P n_topics_New [] σ fun a s =>
 binC .eql .ptr a (.d .nilp) s fun b s =>
 condC b (z1 Z bF s) (buildC (fillV zl1 [(0, 1, (iN 1)), (1, 1, (.d (.str [116])))]) s fun c s =>
 buildC (fillV zl0 [(1, 1, (iN 1)), (2, 5, c)]) s fun d s =>
 cA P n_topics_Topics_Apply [a, d] s fun e s =>
 extractC e 0 s fun f s =>
 extractC e 1 s fun _ s =>
 extractC e 2 s fun h s =>
 cp [iN 0, iN 0] 2 f s fun i s =>
 m1 1 [(.d (.int .u8 0))] (.d (.int .u8 1)) s fun j s =>
 m1 1 [(.d (.int .u8 0))] (.d (.int .u8 2)) s fun l s =>
 mksliceC false 1 2 (fillV (rep [eN] 2) [(0, 1, j), (1, 1, l)]) s fun m s =>
 buildC (fillV zl1 [(0, 1, (iN 2)), (1, 1, (.d (.str [116]))), (4, 1, m)]) s fun n s =>
 buildC (fillV zl0 [(0, 1, (iN 1)), (1, 1, (iN 1)), (2, 5, n)]) s fun o s =>
 cA P n_topics_Topics_Apply [a, o] s fun p s =>
 extractC p 0 s fun q s =>
 extractC p 1 s fun r s =>
 extractC p 2 s fun u s =>
 cp [iN 0, iN 0] 2 q s fun w s =>
 buildC (fillV zl1 [(0, 1, (iN 0))]) s fun y s =>
 buildC (fillV zl0 [(0, 1, (iN 1)), (1, 1, (iN 1)), (2, 5, y)]) s fun z s =>
 cA P n_topics_Topics_Apply [a, z] s fun A s =>
 extractC A 0 s fun B s =>
 extractC A 1 s fun _ s =>
 extractC A 2 s fun D s =>
 cp [iN 0, iN 0] 2 B s fun E s =>
 cA P n_topics_Topics_Get [a, (.d (.str [116])), (iN 1)] s fun F s =>
 extractC F 0 s fun G s =>
 extractC F 1 s fun H s =>
 gTm h u s fun I s =>
 anC h I s fun J s =>
 gTm J D s fun K s =>
 gT J (unC .not K s) s fun L s =>
 anC J L s fun M s =>
 gTl M 0 i s fun N s =>
 gT M (bP .eql N (iN 0) s) s fun O s =>
 anC M O s fun Q s =>
 gT Q (loadC true 2 w s) s fun R s =>
 gT Q (buildC (fillV [iN 0, iN 0] []) s) s fun S s =>
 gT Q (binC .eql (.ints 2) R S s) s fun T s =>
 anC Q T s fun U s =>
 gT U (loadC true 2 E s) s fun V s =>
 gT U (loadC true 2 w s) s fun W s =>
 gT U (binC .eql (.ints 2) V W s) s fun X s =>
 anC U X s fun Y s =>
 gTm Y r s fun a0 s =>
 gT Y (lenC .sl a0 s) s fun b0 s =>
 gT Y (bP .eql b0 (iN 2) s) s fun c0 s =>
 anC Y c0 s fun d0 s =>
 gTm d0 r s fun e0 s =>
 gT d0 (iaddrC none 3 e0 (iN 1) s) s fun f0 s =>
 gTl d0 1 f0 s fun g0 s =>
 gT d0 (bP .eql g0 (iN 1) s) s fun h0 s =>
 anC d0 h0 s fun i0 s =>
 gTm i0 H s fun j0 s =>
 gT i0 (bP .eql j0 (iN 0) s) s fun l0 s =>
 anC i0 l0 s fun m0 s =>
 gTm m0 G s fun o0 s =>
 gT m0 (m1 1 [(.d (.int .u8 0))] (.d (.int .u8 2)) s) s fun p0 s =>
 gT m0 (cA P n_bytes_Equal [o0, p0] s) s fun q0 s =>
 anC m0 q0 s fun r0 s =>
 z1 Z r0 s)
theorem e_l07_live : F0 Try.prog n_l07_live S_l07_live := form_of [] Try.func8
def S_topics_New (P : Program) (σ : LO) (Z : ZT) : Prop :=
 mkmapC σ fun a s =>
 buildC (fillV [(.d .nilmap), iN 0, iN 0, iN 0, iN 0, iN 0, iN 0, iN 0, iN 0, iN 0, iN 0, iN 0, iN 0, iN 0, iN 0, iN 0, iN 0, iN 0, iN 0, iN 0, iN 0, iN 0, iN 0, iN 0, iN 0] [(0, 1, a)]) s fun b s =>
 boxC b s fun c s =>
 z1 Z c s
theorem e_topics_New : F0 Try.prog n_topics_New S_topics_New := form_of [] Try.func9
def S_topics_Topics_Apply (P : Program) (x0 x1 : AV) (σ : LO) (Z : ZT) : Prop :=
 boxC x1 σ fun a s =>
 allocC [iN 0, iN 0] s fun b s =>
 cA P n_topics_Topics_none [x0] s fun c s =>
 condC c (buildC (fillV [iN 0, iN 0] [(0, 1, (iN 2))]) s fun d s =>
 storeC 2 b d s fun _ s =>
 Z (consO (cellA b s true 2) (consO (some eN) (consO (some bF) (some [])))) s) (fl 0 a s fun f s =>
 bP .lss f (iN 0) s fun g s =>
 gFl g 0 a s fun h s =>
 gF g (bP .geq h (iN 8) s) s fun i s =>
 orC g i s fun j s =>
 gFl j 1 a s fun l s =>
 gF j (bP .lss l (iN 1) s) s fun m s =>
 orC j m s fun n s =>
 gFl n 1 a s fun o s =>
 gF n (bP .gtr o (iN 9007199254740992) s) s fun p s =>
 orC n p s fun q s =>
 condC q (buildC (fillV [iN 0, iN 0] [(0, 1, (iN 1))]) s fun r s =>
 storeC 2 b r s fun _ s =>
 Z (consO (cellA b s true 2) (consO (some eN) (consO (some bF) (some [])))) s) (fl 0 a s fun w s =>
 nilC x0 s fun y s =>
 faddrC 1 y s fun z s =>
 iaddrC (some 8) 3 z w s fun A s =>
 fl 1 a s fun B s =>
 nfl 0 A s fun C s =>
 bP .eql B C s fun D s =>
 condC D (nilC A s fun E s =>
 faddrC 1 E s fun F s =>
 loadC true 2 F s fun G s =>
 storeC 2 b G s fun _ s =>
 Z (consO (cellA b s true 2) (consO (some eN) (consO (some bF) (some [])))) s) (fl 1 a s fun I s =>
 nfl 0 A s fun J s =>
 bP .lss I J s fun K s =>
 condC K (buildC (fillV [iN 0, iN 0] [(0, 1, (iN 7))]) s fun L s =>
 storeC 2 b L s fun _ s =>
 Z (consO (cellA b s true 2) (consO (some eN) (consO (some bF) (some [])))) s) (faddrC 2 a s fun N s =>
 loadC true 5 N s fun O s =>
 cA P n_topics_Topics_does [x0, O] s fun Q s =>
 extractC Q 0 s fun R s =>
 extractC Q 1 s fun S s =>
 cp [iN 0, iN 0] 2 R s fun T s =>
 fl 1 a s fun U s =>
 loadC true 2 T s fun V s =>
 buildC (fillV [iN 0, iN 0, iN 0] [(0, 1, U), (1, 2, V)]) s fun W s =>
 nilC A s fun X s =>
 storeC 3 X W s fun _ s =>
 loadC true 2 T s fun a0 s =>
 storeC 2 b a0 s fun _ s =>
 Z (consO (cellA b s true 2) (consO (some S) (consO (some bT) (some [])))) s))))
theorem e_topics_Topics_Apply : F2 Try.prog n_topics_Topics_Apply S_topics_Topics_Apply := form_of [.d [(0, 7)] [], .d [(0, 8)] [], .d [(0, 8)] []] Try.func10
def S_topics_Topics_Bounds (P : Program) (x0 x1 : AV) (σ : LO) (Z : ZT) : Prop :=
 cA P n_topics_Topics_find [x0, x1] σ fun a s =>
 extractC a 0 s fun b s =>
 extractC a 1 s fun c s =>
 bP .neq c (iN 0) s fun d s =>
 condC d (Z (consO (some (iN 0)) (consO (some (iN 0)) (consO (some c) (some [])))) s) (nilC b s fun e s =>
 faddrC 0 e s fun f s =>
 loadC false 1 f s fun g s =>
 cA P n_topics_topic_next [b] s fun h t =>
 keepO f s t ∧ (Z (consO (some g) (consO (some h) (consO (some (iN 0)) (some [])))) t))
theorem e_topics_Topics_Bounds : F2 Try.prog n_topics_Topics_Bounds S_topics_Topics_Bounds := form_of [.d [(0, 9)] [(5, [20])]] Try.func11
def S_topics_Topics_Get (P : Program) (x0 x1 x2 : AV) (σ : LO) (Z : ZT) : Prop :=
 cA P n_topics_Topics_find [x0, x1] σ fun a s =>
 extractC a 0 s fun b s =>
 extractC a 1 s fun c s =>
 bP .neq c (iN 0) s fun d s =>
 condC d (z2 Z eN c s) (nfl 0 b s fun e s =>
 bP .lss x2 e s fun f s =>
 gFm f x2 s fun g s =>
 gFm f b s fun h s =>
 gF f (cA P n_topics_topic_next [h] s) s fun i s =>
 gF f (bP .geq g i s) s fun j s =>
 orC f j s fun l s =>
 condC l (z2 Z eN (iN 72) s) (nfl 1 b s fun m s =>
 nfl 0 b s fun n s =>
 bP .sub x2 n s fun o s =>
 il false 1 1 m o s fun p s =>
 cA P n_slices_Clone_api_Record_byte [p] s fun q s =>
 z2 Z q (iN 0) s))
theorem e_topics_Topics_Get : F3 Try.prog n_topics_Topics_Get S_topics_Topics_Get := form_of [.d [(0, 15)] []] Try.func12
def S_l07_equal (P : Program) (x0 x1 : AV) (σ : LO) (Z : ZT) : Prop :=
 cA P n_bytes_Equal [x0, x1] σ fun a s =>
 z1 Z a s
theorem e_l07_equal : F2 Try.prog n_l07_equal S_l07_equal := form_of [] Try.func13
def S_bytes_Equal (P : Program) (x0 x1 : AV) (σ : LO) (Z : ZT) : Prop :=
 convC .toStr x0 σ fun a s =>
 convC .toStr x1 s fun b s =>
 bP .eql a b s fun c s =>
 z1 Z c s
theorem e_bytes_Equal : F2 Try.prog n_bytes_Equal S_bytes_Equal := form_of [] Try.func15
def S_topics_Topics_none (P : Program) (x0 : AV) (σ : LO) (Z : ZT) : Prop :=
 binC .eql .ptr x0 (.d .nilp) σ fun a s =>
 gFm a x0 s fun b s =>
 gF a (nilC b s) s fun c s =>
 gFl a 0 c s fun d s =>
 gF a (binC .eql .map d (.d .nilmap) s) s fun e s =>
 orC a e s fun f s =>
 z1 Z f s
theorem e_topics_Topics_none : F1 Try.prog n_topics_Topics_none S_topics_Topics_none := form_of [] Try.func31
def S_topics_Topics_does (P : Program) (x0 x1 : AV) (σ : LO) (Z : ZT) : Prop :=
 boxC x1 σ fun a s =>
 allocC [iN 0, iN 0] s fun b s =>
 loadC true 5 a s fun c s =>
 cA P n_op_Check [c] s fun d s =>
 (fun (e : AV → AV → AV → LO → Prop) => bP .eql d (iN 0) s fun o s =>
 condC o (fl 0 a s fun p s =>
 bP .eql p (iN 1) s fun q s =>
 condC q (fl 1 a s fun r s =>
 cA P n_topics_Topics_create [x0, r] s fun u s =>
 e u (iN 0) eN s) (bP .eql p (iN 2) s fun w s =>
 condC w (loadC true 5 a s fun y s =>
 cA P n_topics_Topics_publish [x0, y] s fun z s =>
 extractC z 0 s fun A s =>
 extractC z 1 s fun B s =>
 extractC z 2 s fun C s =>
 e C A B s) (bP .eql p (iN 3) s fun D s =>
 condC D (loadC true 5 a s fun E s =>
 cA P n_topics_Topics_commit [x0, E] s fun F s =>
 extractC F 0 s fun G s =>
 extractC F 1 s fun H s =>
 e H G eN s) (bP .eql p (iN 4) s fun I s =>
 condC I (loadC true 5 a s fun J s =>
 cA P n_topics_Topics_trim [x0, J] s fun K s =>
 extractC K 0 s fun L s =>
 extractC K 1 s fun M s =>
 e M L eN s) (e d (iN 0) eN s))))) (e d (iN 0) eN s))
 (fun f g h s => bP .neq f (iN 0) s fun i s =>
 condC i (buildC (fillV [iN 0, iN 0] [(0, 1, f)]) s fun j s =>
 storeC 2 b j s fun _ s =>
 Z (consO (cellA b s true 2) (consO (some eN) (some []))) s) (buildC (fillV [iN 0, iN 0] [(1, 1, g)]) s fun m s =>
 storeC 2 b m s fun _ s =>
 Z (consO (cellA b s true 2) (consO (some h) (some []))) s))
theorem e_topics_Topics_does : F2 Try.prog n_topics_Topics_does S_topics_Topics_does := form_of [] Try.func32
def S_topics_Topics_find (P : Program) (x0 x1 : AV) (σ : LO) (Z : ZT) : Prop :=
 cA P n_topics_Topics_none [x0] σ fun a s =>
 condC a (z2 Z (.d .nilp) (iN 2) s) (nfl 0 x0 s fun b s =>
 mgetC .str false (.d .nilp) b x1 s fun c s =>
 binC .neq .ptr c (.d .nilp) s fun d s =>
 condC d (z2 Z c (iN 0) s) (z2 Z (.d .nilp) (iN 4) s))
theorem e_topics_Topics_find : F2 Try.prog n_topics_Topics_find S_topics_Topics_find := form_of [] Try.func33
def S_topics_topic_next (P : Program) (x0 : AV) (σ : LO) (Z : ZT) : Prop :=
 nfl 0 x0 σ fun a s =>
 nfl 1 x0 s fun b s =>
 lenC .sl b s fun c s =>
 bP .add a c s fun d s =>
 z1 Z d s
theorem e_topics_topic_next : F1 Try.prog n_topics_topic_next S_topics_topic_next := form_of [.d [(0, 11)] []] Try.func34
def S_slices_Clone_api_Record_byte (P : Program) (x0 : AV) (σ : LO) (Z : ZT) : Prop :=
 isnilC false x0 σ fun a s =>
 condC a (z1 Z eN s) (mksliceC false 1 0 (fillV (rep [(.d (.int .u8 0))] 0) []) s fun b s =>
 appendC 1 1 b x0 s fun c s =>
 z1 Z c s)
theorem e_slices_Clone_api_Record_byte : F1 Try.prog n_slices_Clone_api_Record_byte S_slices_Clone_api_Record_byte := form_of [] Try.func35
end Go.Proofs.Ytaocmalhjfakdaa
