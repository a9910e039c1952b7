/- The conditions of each function, its slots as variables, and that the logic's conditions are these. Printed by program. -/
import Derived.Test.YthpnelbciibjeaaNm
import Derived.KernelRfl
set_option linter.all false
set_option maxRecDepth 100000
set_option linter.unusedVariables false
namespace Go.Proofs.Ythpnelbciibjeaa
open Go.AW
def zdL (P : Program) (x0 x1 : AV) (σ : LO) (Z : ZT) : Prop :=
 zcA x1 σ fun a s =>
 nfl 0 x0 s fun b s =>
 fl 1 a s fun c s =>
 zaY .str false (.d .nilp) b c s fun d s =>
 zeU .eql .ptr d (.d .nilp) s fun e s =>
 zy e (Z (zA (some (iN 0)) (zA (some eN) (zA (some (iN 4)) (some [])))) s) (nfl 1 d s fun f s =>
 zbl .sl f s fun g s =>
 fl 4 a s fun h s =>
 zbl .sl h s fun i s =>
 bP .add g i s fun j s =>
 bP .gtr j (iN 64) s fun l s =>
 gFm l d s fun m s =>
 gF l (zi 4 a s) s fun n s =>
 gF l (zu false 1 n s) s fun o s =>
 gF l (zbl .sl o s) s fun p s =>
 gF l (cA P zaK [m] s) s fun q t =>
 zZ n s t ∧ (gF l (bP .add q p t) t fun r s =>
 gF l (bP .gtr r (iN 9007199254740992) s) s fun u s =>
 orC l u s fun w s =>
 zy w (Z (zA (some (iN 0)) (zA (some eN) (zA (some (iN 71)) (some [])))) s) (cA P zaK [d] s fun y s =>
 fl 4 a s fun z s =>
 zbl .sl z s fun A s =>
 zcO [eN, (iN 0)] s fun v s B =>
 zcc v fun C v => zcc v fun D v => bP .lss D A s fun E s =>
 zy E (il false 1 1 z D s fun F s =>
 zi 1 a s fun G s =>
 zu false 1 G s fun H s =>
 cA P zaK [d] s fun I t =>
 zZ G s t ∧ (cA P zO [F] t fun J s =>
 zZ G t s ∧ (zK (zaw [(.d (.str [])), iN 0, eN] [(0, 1, H), (1, 1, I), (2, 1, J)]) s fun K s =>
 m1 3 [(.d (.str [])), iN 0, eN] K s fun L s =>
 zJ 3 48 C L s fun M s =>
 zcT d s fun N s =>
 zi 1 N s fun O s =>
 zu false 1 O s fun Q s =>
 cA P zO [F] s fun R t =>
 zZ O s t ∧ (m1 1 [eN] R t fun S s =>
 zJ 1 24 Q S s fun T s =>
 zcT d s fun U s =>
 zi 1 U s fun V s =>
 zo 1 V T s fun _ s =>
 bP .add D (iN 1) s fun X s =>
 B [M, X] s)))) (Z (zA (some y) (zA (some C) (zA (some (iN 0)) (some [])))) s))))
theorem zdG : F2 Try.prog zbS zdL := zm [.d [(0, 8)] [], .d [(0, 12), (13, 3), (12, 1), (16, 3)] [(12, [34])], .l [9, 45] [(11, 1), (46, 25)], .d [(0, 4), (5, 1), (4, 1), (6, 5)] [(4, [50]), (6, [50])], .d [(0, 12)] [(6, [62])]] Try.func56
def zdX (P : Program) (x0 x1 : AV) (σ : LO) (Z : ZT) : Prop :=
 zcA x1 σ fun a s =>
 nfl 0 x0 s fun b s =>
 fl 1 a s fun c s =>
 zaY .str false (.d .nilp) b c s fun d s =>
 zeU .eql .ptr d (.d .nilp) s fun e s =>
 zy e (z2 Z (iN 0) (iN 4) s) (nfl 2 d s fun f s =>
 fl 2 a s fun g s =>
 zaY .str true (iN 0) f g s fun h s =>
 zd h 0 s fun i s =>
 zd h 1 s fun j s =>
 fl 3 a s fun l s =>
 bP .lss l i s fun m s =>
 gF m (zi 3 a s) s fun n s =>
 gF m (zu false 1 n s) s fun o s =>
 gFm m d s fun p s =>
 gF m (cA P zaK [p] s) s fun q t =>
 zZ n s t ∧ (gF m (bP .gtr o q t) t fun r s =>
 orC m r s fun u s =>
 zy u (z2 Z (iN 0) (iN 72) s) (unC .not j s fun w s =>
 gTm w d s fun y s =>
 gT w (zcT y s) s fun z s =>
 gTl w 2 z s fun A s =>
 gT w (zbl .map A s) s fun B s =>
 gT w (bP .geq B (iN 8) s) s fun C s =>
 anC w C s fun D s =>
 zy D (z2 Z (iN 0) (iN 6) s) (nfl 2 d s fun E s =>
 fl 2 a s fun F s =>
 fl 3 a s fun G s =>
 zbC .str E F G s fun _ s =>
 fl 3 a s fun I s =>
 z2 Z I (iN 0) s))))
theorem zdU : F2 Try.prog zci zdX := zm [.d [(0, 8)] [], .d [(0, 12)] [], .d [(0, 12)] [(8, [34])], .d [(0, 9)] []] Try.func57
def zeJ (P : Program) (x0 x1 : AV) (σ : LO) (Z : ZT) : Prop :=
 zcA x1 σ fun a s =>
 nfl 0 x0 s fun b s =>
 fl 1 a s fun c s =>
 zaY .str false (.d .nilp) b c s fun d s =>
 zeU .eql .ptr d (.d .nilp) s fun e s =>
 zy e (z2 Z (iN 0) (iN 4) s) (fl 3 a s fun f s =>
 nfl 0 d s fun g s =>
 bP .lss f g s fun h s =>
 gF h (zi 3 a s) s fun i s =>
 gF h (zu false 1 i s) s fun j s =>
 gFm h d s fun l s =>
 gF h (cA P zaK [l] s) s fun m t =>
 zZ i s t ∧ (gF h (bP .gtr j m t) t fun n s =>
 orC h n s fun o s =>
 zy o (z2 Z (iN 0) (iN 72) s) (nfl 1 d s fun p s =>
 fl 3 a s fun q s =>
 nfl 0 d s fun r s =>
 bP .sub q r s fun u s =>
 zea (.sl 1) p (some u) none none s fun w s =>
 cA P zaH [w] s fun y s =>
 zcT d s fun z s =>
 zi 1 z s fun A s =>
 zo 1 A y s fun _ s =>
 fl 3 a s fun C s =>
 zcT d s fun D s =>
 zi 0 D s fun E s =>
 zo 1 E C s fun _ s =>
 fl 3 a s fun G s =>
 z2 Z G (iN 0) s)))
theorem zeF : F2 Try.prog zcL zeJ := zm [.d [(0, 8)] [], .d [(0, 14)] [(11, [24])], .d [(0, 17)] []] Try.func58
def zdK (P : Program) (x0 : AV) (σ : LO) (Z : ZT) : Prop :=
 zj P zbT [x0] σ fun a s =>
 zj P zbn [a] s fun _ s =>
 z1 Z a s
theorem zdF : F1 Try.prog zbt zdK := zkU [] Try.func59
def zar (P : Program) (x0 : AV) (σ : LO) (Z : ZT) : Prop :=
 zcA x0 σ fun a s =>
 z1 Z (.fn (.func zx) [] [a]) s
theorem zam : F1 Try.prog zL zar := zm [] Try.func60
def zey (P : Program) (x0 x1 x2 : AV) (σ : LO) (Z : ZT) : Prop :=
 zu false 1 x1 σ fun a s =>
 zu false 1 x2 s fun b s =>
 cA P zbG [a, b] s fun c s =>
 zd c 0 s fun d s =>
 zd c 1 s fun e s =>
 bP .neq e (iN 0) s fun f s =>
 zy f (Z (some []) s) (nfl 1 d s fun g s =>
 zbl .sl g s fun h s =>
 zcO [(iN 0)] s fun v s i =>
 zcc v fun j v => bP .lss j h s fun l s =>
 zy l (il false 1 1 g j s fun m s =>
 zcT d s fun n s =>
 zi 0 n s fun o s =>
 zu false 1 o s fun p s =>
 bP .add p j s fun q s =>
 cA P zO [m] s fun r t =>
 zZ o s t ∧ (zat P x0 [dm q, dm r] t fun u s =>
 unC .not u s fun w s =>
 zy w (Z (some []) s) (bP .add j (iN 1) s fun y s =>
 i [y] s))) (Z (some []) s))
theorem zer : F3 Try.prog zbx zey := zm [.l [21] [(6, 2), (22, 16)], .d [(0, 11)] [(8, [29])]] Try.func61
def zeK (P : Program) (x0 x1 : AV) (σ : LO) (Z : ZT) : Prop :=
 cA P zY [x0] σ fun a s =>
 zy a (z2 Z (.d .nilp) (iN 2) s) (nfl 0 x0 s fun b s =>
 zaY .str false (.d .nilp) b x1 s fun c s =>
 zeU .neq .ptr c (.d .nilp) s fun d s =>
 zy d (z2 Z c (iN 0) s) (z2 Z (.d .nilp) (iN 4) s))
theorem zeH : F2 Try.prog zbG zeK := zm [] Try.func62
def zaU (P : Program) (x0 : AV) (σ : LO) (Z : ZT) : Prop :=
 zcA x0 σ fun a s =>
 z1 Z (.fn (.func zN) [] [a]) s
theorem zaS : F1 Try.prog zas zaU := zm [] Try.func63
def zhu (P : Program) (x0 : AV) (σ : LO) (Z : ZT) : Prop :=
 zcA x0 σ fun a s =>
 zu true 7 a s fun b s =>
 cA P zdB [b] s fun c s =>
 bP .neq c (iN 0) s fun d s =>
 zy d (z2 Z eN c s) (fl 0 a s fun e s =>
 zaj (.int .u64) e s fun f s =>
 zi 1 a s fun g s =>
 zu false 1 g s fun h s =>
 zaj (.int .u64) h s fun i s =>
 zi 2 a s fun j s =>
 zu true 5 j s fun l s =>
 cA P zp [eN, f] s fun m t =>
 zZ g s t ∧ (zZ j s t ∧ (cA P zp [m, i] t fun n s =>
 zZ j t s ∧ (cA P znH [n, l] s fun o s =>
 z2 Z o (iN 0) s))))
theorem zlS : F1 Try.prog zfg zhu := zm [.d [(0, 3), (4, 3), (8, 2), (3, 1), (7, 1), (10, 3)] [(3, [14, 18]), (7, [18])]] Try.func64
def zgj (P : Program) (x0 x1 : AV) (σ : LO) (Z : ZT) : Prop :=
 zcA x1 σ fun a s =>
 zu true 2 a s fun b s =>
 cA P zbV [b] s fun c s =>
 bP .neq c (iN 0) s fun d s =>
 zy d (cA P zcC [x0] s fun e s =>
 z1 Z e s) (fl 0 a s fun f s =>
 zaj (.int .u64) f s fun g s =>
 zi 1 a s fun h s =>
 zu false 1 h s fun i s =>
 zaj (.int .u64) i s fun j s =>
 cA P zp [x0, g] s fun l t =>
 zZ h s t ∧ (cA P zp [l, j] t fun m s =>
 z1 Z m s))
theorem zkf : F2 Try.prog zed zgj := zm [.d [(0, 4), (5, 3), (4, 1), (8, 2)] [(4, [15])]] Try.func65
def S_op_only (P : Program) (x0 : AV) (σ : LO) (Z : ZT) : Prop :=
 zcA x0 σ fun a s =>
 zau zl1 s fun b s =>
 fl 0 a s fun c s =>
 zK (zaw zl1 [(0, 1, c)]) s fun d s =>
 cp zl1 5 d s fun e s =>
 (fun (f : LO → Prop) => fl 0 a s fun i s =>
 bP .eql i (iN 0) s fun j s =>
 zy j (f s) (bP .eql i (iN 1) s fun l s =>
 zy l (fl 1 a s fun m s =>
 zi 1 e s fun n s =>
 zo 1 n m s fun _ s =>
 f s) (bP .eql i (iN 2) s fun p s =>
 zy p (fl 1 a s fun q s =>
 zi 4 a s fun r s =>
 zu false 1 r s fun u s =>
 zi 1 e s fun w s =>
 zo 1 w q s fun _ t =>
 zZ r s t ∧ (zi 4 e t fun z s =>
 zo 1 z u s fun _ s =>
 f s)) (bP .eql i (iN 3) s fun B s =>
 zy B (fl 1 a s fun C s =>
 zi 2 a s fun D s =>
 zu false 1 D s fun E s =>
 zi 3 a s fun F s =>
 zu false 1 F s fun G s =>
 zi 1 e s fun H s =>
 zo 1 H C s fun _ t =>
 zZ D s t ∧ (zZ F s t ∧ (zi 2 e t fun J s =>
 zo 1 J E s fun _ t =>
 zZ F s t ∧ (zi 3 e t fun L s =>
 zo 1 L G s fun _ s =>
 f s)))) (bP .eql i (iN 4) s fun N s =>
 zy N (fl 1 a s fun O s =>
 zi 3 a s fun Q s =>
 zu false 1 Q s fun R s =>
 zi 1 e s fun S s =>
 zo 1 S O s fun _ t =>
 zZ Q s t ∧ (zi 3 e t fun U s =>
 zo 1 U R s fun _ s =>
 f s)) (zu true 5 e s fun W s =>
 zo 5 b W s fun _ s =>
 Z (zA (zaT b s true 5) (zA (some bF) (some []))) s))))))
 (fun  s => zu true 5 e s fun g s =>
 zo 5 b g s fun _ s =>
 Z (zA (zaT b s true 5) (zA (some bT) (some []))) s)
theorem e_op_only : F1 Try.prog zlz S_op_only := zm [.d [(0, 8)] [(5, [22])], .d [(0, 12)] [(7, [30, 32]), (9, [32])], .d [(0, 8)] [(5, [41])]] Try.func66
def zkJ (P : Program) (x0 : AV) (σ : LO) (Z : ZT) : Prop :=
 zbl .sl x0 σ fun a s =>
 bP .gtr a (iN 64) s fun b s =>
 z1 Z b s
theorem e_op_Check_1 : F1 Try.prog zfA zkJ := zm [] Try.func67
def S_op_Same (P : Program) (x0 x1 : AV) (σ : LO) (Z : ZT) : Prop :=
 zcA x0 σ fun a s =>
 zcA x1 s fun b s =>
 fl 0 a s fun c s =>
 fl 0 b s fun d s =>
 bP .eql c d s fun e s =>
 gTl e 1 a s fun f s =>
 gTl e 1 b s fun g s =>
 gT e (bP .eql f g s) s fun h s =>
 anC e h s fun i s =>
 gTl i 2 a s fun j s =>
 gTl i 2 b s fun l s =>
 gT i (bP .eql j l s) s fun m s =>
 anC i m s fun n s =>
 gTl n 3 a s fun o s =>
 gTl n 3 b s fun p s =>
 gT n (bP .eql o p s) s fun q s =>
 anC n q s fun r s =>
 gTl r 4 a s fun u s =>
 gTl r 4 b s fun w s =>
 gT r (cA P zH [u, w, (.fn (.func zgs) [] [])] s) s fun y s =>
 anC r y s fun z s =>
 z1 Z z s
theorem e_op_Same : F2 Try.prog zlA S_op_Same := zm [] Try.func68
def S_op_Name (P : Program) (x0 : AV) (σ : LO) (Z : ZT) : Prop :=
 cA P zjY [x0] σ fun a s =>
 bP .gtr a (iN 0) s fun b s =>
 z1 Z b s
theorem e_op_Name : F1 Try.prog zji S_op_Name := zm [] Try.func69
def zaM (P : Program) (x0 x1 : AV) (σ : LO) (Z : ZT) : Prop :=
 cA P zaV [x0, x1] σ fun a s =>
 bP .geq a (iN 0) s fun b s =>
 z1 Z b s
theorem zbY : F2 Try.prog zag zaM := zm [] Try.func70
def zfr (P : Program) (x0 : AV) (σ : LO) (Z : ZT) : Prop :=
 nfl 0 x0 σ fun a s =>
 nfl 1 x0 s fun b s =>
 zbl .sl b s fun c s =>
 bP .add a c s fun d s =>
 z1 Z d s
theorem ziL : F1 Try.prog zaK zfr := zm [.d [(0, 11)] []] Try.func71
def zbk (P : Program) (x0 : AV) (σ : LO) (Z : ZT) : Prop :=
 zaI false x0 σ fun a s =>
 zy a (z1 Z eN s) (zq false 1 0 (zaw (rep [eN] 0) []) s fun b s =>
 zJ 1 24 b x0 s fun c s =>
 z1 Z c s)
theorem zbh : F1 Try.prog zaH zbk := zm [] Try.func72
def zdv (P : Program) (x0 : AV) (σ : LO) (Z : ZT) : Prop :=
 zj P zaQ [eN, x0] σ fun a s =>
 z1 Z a s
theorem zdt : F1 Try.prog zbT zdv := zkU [] Try.func73
def zbb (P : Program) (x0 x1 : AV) (σ : LO) (Z : ZT) : Prop :=
 zu false 1 x1 σ fun a s =>
 zfe a s fun b s =>
 zcO [] s fun v s c =>
 zgZ b s fun d s =>
 zd d 0 s fun e s =>
 zy e (zfn b s fun f s =>
 zd f 0 s fun g s =>
 zat P x0 [dm g] s fun h s =>
 unC .not h s fun i s =>
 zy i (Z (some []) s) (c [] s)) (Z (some []) s)
theorem zaZ : F2 Try.prog zx zbb := zm [.l [] [(3, 1), (6, 8)]] Try.func75
def zca (P : Program) (x0 x1 : AV) (σ : LO) (Z : ZT) : Prop :=
 zu false 1 x1 σ fun a s =>
 zfe a s fun b s =>
 zcO [] s fun v s c =>
 zgZ b s fun d s =>
 zd d 0 s fun e s =>
 zy e (zfn b s fun f s =>
 zd f 0 s fun g s =>
 zat P x0 [dm g] s fun h s =>
 unC .not h s fun i s =>
 zy i (Z (some []) s) (c [] s)) (Z (some []) s)
theorem zbZ : F2 Try.prog zN zca := zm [.l [] [(3, 1), (6, 8)]] Try.func76
def S_op_Put (P : Program) (x0 x1 : AV) (σ : LO) (Z : ZT) : Prop :=
 zcA x1 σ fun a s =>
 cA P zcC [x0] s fun b s =>
 zu true 5 a s fun c s =>
 cA P zfW [c] s fun d s =>
 bP .neq d (iN 0) s fun e s =>
 zy e (z1 Z b s) (fl 0 a s fun f s =>
 zaj (.int .u64) f s fun g s =>
 cA P zp [b, g] s fun h s =>
 (fun (i : AV → LO → Prop) => fl 0 a s fun T s =>
 bP .neq T (iN 0) s fun U s =>
 zy U (fl 1 a s fun V s =>
 zaj .toBytes V s fun W s =>
 cA P zaa [h, W] s fun X s =>
 i X s) (i h s))
 (fun j s => (fun (l : AV → LO → Prop) => fl 0 a s fun n s =>
 bP .eql n (iN 2) s fun o s =>
 zy o (fl 4 a s fun p s =>
 zbl .sl p s fun q s =>
 zaj (.int .u64) q s fun r s =>
 cA P zp [j, r] s fun u s =>
 fl 4 a s fun w s =>
 zbl .sl w s fun y s =>
 zcO [u, (iN 0)] s fun v s z =>
 zcc v fun A v => zcc v fun B v => bP .lss B y s fun C s =>
 zy C (il false 1 1 w B s fun D s =>
 cA P zaa [A, D] s fun E s =>
 bP .add B (iN 1) s fun F s =>
 z [E, F] s) (l A s)) (bP .eql n (iN 3) s fun G s =>
 zy G (fl 2 a s fun H s =>
 zaj .toBytes H s fun I s =>
 zi 3 a s fun J s =>
 zu false 1 J s fun K s =>
 zaj (.int .u64) K s fun L s =>
 cA P zaa [j, I] s fun M t =>
 zZ J s t ∧ (cA P zp [M, L] t fun N s =>
 l N s)) (bP .eql n (iN 4) s fun O s =>
 zy O (fl 3 a s fun Q s =>
 zaj (.int .u64) Q s fun R s =>
 cA P zp [j, R] s fun S s =>
 l S s) (l j s))))
 (fun m s => z1 Z m s)))
theorem e_op_Put : F2 Try.prog znH S_op_Put := zm [.l [5, 40] [(7, 1), (41, 7)], .d [(0, 4), (5, 3), (4, 1), (8, 2)] [(4, [55])]] Try.func77
def zU (P : Program) (x0 x1 x2 : AV) (σ : LO) (Z : ZT) : Prop :=
 zbl .sl x0 σ fun a s =>
 zbl .sl x1 s fun b s =>
 bP .neq a b s fun c s =>
 zy c (z1 Z bF s) (zbl .sl x0 s fun d s =>
 zcO [(iN 0)] s fun v s e =>
 zcc v fun f v => bP .lss f d s fun g s =>
 zy g (il false 1 1 x0 f s fun h s =>
 il false 1 1 x1 f s fun i s =>
 zat P x2 [dm h, dm i] s fun j s =>
 unC .not j s fun l s =>
 zy l (z1 Z bF s) (bP .add f (iN 1) s fun m s =>
 e [m] s)) (z1 Z bT s))
theorem zaO : F3 Try.prog zH zU := zm [.l [17] [(6, 4), (18, 14)]] Try.func78
def zmk (P : Program) (x0 x1 : AV) (σ : LO) (Z : ZT) : Prop :=
 cA P zgx [x0, x1] σ fun a s =>
 z1 Z a s
theorem e_op_Same_1 : F2 Try.prog zgs zmk := zm [] Try.func79
def zjF (P : Program) (x0 x1 : AV) (σ : LO) (Z : ZT) : Prop :=
 zaj .toStr x0 σ fun a s =>
 zaj .toStr x1 s fun b s =>
 bP .eql a b s fun c s =>
 z1 Z c s
theorem znV : F2 Try.prog zgx zjF := zm [] Try.func80
def znm (P : Program) (x0 : AV) (σ : LO) (Z : ZT) : Prop :=
 zaA x0 σ fun a s =>
 zcO [(iN 0)] s fun v s b =>
 zcc v fun c v => zjh a s fun d s =>
 zd d 0 s fun e s =>
 zy e (zd d 2 s fun f s =>
 bP .lss f (.d (.int .i32 33)) s fun g s =>
 gFm g f s fun h s =>
 gF g (bP .geq h (.d (.int .i32 127)) s) s fun i s =>
 gFm g i s fun j s =>
 gTm j f s fun l s =>
 gT j (bP .leq l (.d (.int .i32 159)) s) s fun m s =>
 gF g (anC j m s) s fun n s =>
 orC g n s fun o s =>
 gFm o f s fun p s =>
 gF o (bP .eql p (.d (.int .i32 47)) s) s fun q s =>
 orC o q s fun r s =>
 gFm r f s fun u s =>
 gF r (bP .eql u (.d (.int .i32 65533)) s) s fun w s =>
 orC r w s fun y s =>
 zy y (z1 Z (iN 0) s) (bP .add c (iN 1) s fun z s =>
 b [z] s)) (bP .gtr c (iN 16) s fun A s =>
 zy A (z1 Z (iN 0) s) (z1 Z c s))
theorem e_op_Runes : F1 Try.prog zjY znm := zm [.l [3] [(2, 1), (5, 1), (8, 23)]] Try.func81
def zaX (P : Program) (x0 x1 : AV) (σ : LO) (Z : ZT) : Prop :=
 zbl .sl x0 σ fun a s =>
 zcO [(iN 0)] s fun v s b =>
 zcc v fun c v => bP .lss c a s fun d s =>
 zy d (il false 1 1 x0 c s fun e s =>
 zat P x1 [dm e] s fun f s =>
 zy f (z1 Z c s) (bP .add c (iN 1) s fun g s =>
 b [g] s)) (z1 Z (iN (-1)) s)
theorem zco : F2 Try.prog zaV zaX := zm [.l [8] [(4, 2), (9, 10)]] Try.func82
def zbA (P : Program) (x0 x1 : AV) (σ : LO) (Z : ZT) : Prop :=
 zcA x0 σ fun a s =>
 zjT P x1 1 s (fun v s b c d e =>
 zcc v fun f v => s[b]? = some c ∧ ((fun s =>
 zu false 1 a s fun g s =>
 zq true 1 1 (zaw (rep [(.d (.str []))] 1) [(0, 1, f)]) s fun h s =>
 zgC 1 16 g h s fun i s =>
 zo 1 a i s fun _ s =>
 s[b]? = some d ∧ e (s.set b c)) (s.set b d))) fun s =>
 zu false 1 a s fun l s =>
 z1 Z l s
theorem zby : F2 Try.prog zaQ zbA := zkU [] Try.func83
end Go.Proofs.Ythpnelbciibjeaa
