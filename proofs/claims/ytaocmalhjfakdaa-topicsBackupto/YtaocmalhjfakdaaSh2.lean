/- The conditions of each function, its slots as variables, and that the logic's conditions are these. Printed by program. -/
import Derived.Test.YtaocmalhjfakdaaNm
import Derived.KernelRfl
set_option linter.all false
set_option maxRecDepth 100000
set_option linter.unusedVariables false
namespace Go.Proofs.Ytaocmalhjfakdaa
open Go.AW
def zdp (P : Program) (x0 : AV) (σ : LO) (Z : ZT) : Prop :=
 zt P zbL [x0] σ fun a s =>
 zt P zbh [a] s fun _ s =>
 z1 Z a s
theorem zdj : F1 Try.prog zbl zdp := zmJ [] Try.func46
def zaf (P : Program) (x0 : AV) (σ : LO) (Z : ZT) : Prop :=
 zcV x0 σ fun a s =>
 z1 Z (.fn (.func zm) [] [a]) s
theorem zad : F1 Try.prog zE zaf := zq [] Try.func47
def zaN (P : Program) (x0 : AV) (σ : LO) (Z : ZT) : Prop :=
 zcV x0 σ fun a s =>
 z1 Z (.fn (.func zH) [] [a]) s
theorem zaM : F1 Try.prog zah zaN := zq [] Try.func48
def zfT (P : Program) (x0 x1 : AV) (σ : LO) (Z : ZT) : Prop :=
 cA P zdd [x0] σ fun a s =>
 zB a (z1 Z (iN 0) s) (nfl 1 x0 s fun b s =>
 zan .toStr x1 s fun c s =>
 zaS .str true (iN 0) b c s fun d s =>
 ze d 0 s fun e s =>
 ze d 1 s fun f s =>
 zB f (z1 Z e s) (nfl 0 x0 s fun g s =>
 zbx .sl g s fun h s =>
 bP .geq h (iN 1048576) s fun i s =>
 zB i (z1 Z (iN 0) s) (zca x0 s fun j s =>
 zh 0 j s fun l s =>
 zn false 1 l s fun m s =>
 cA P zfZ [x1] s fun n t =>
 keepO l s t ∧ (m1 1 [eN] n t fun o s =>
 zA 1 24 m o s fun p s =>
 zca x0 s fun q s =>
 zh 0 q s fun r s =>
 zp 1 r p s fun _ s =>
 nfl 0 x0 s fun w s =>
 zbx .sl w s fun y s =>
 nfl 1 x0 s fun z s =>
 zan .toStr x1 s fun A s =>
 zbs .str z A y s fun _ s =>
 z1 Z y s))))
theorem zju : F2 Try.prog zdH zfT := zq [.d [(0, 12)] [], .d [(0, 12)] [(6, [31])], .d [(0, 8)] []] Try.func49
def zjW (P : Program) (x0 : AV) (σ : LO) (Z : ZT) : Prop :=
 cA P zaV [x0] σ fun a s =>
 zD (zaj [eN, iN 0, bF] [(0, 1, a), (2, 1, bT)]) s fun b s =>
 zcV b s fun c s =>
 z1 Z c s
theorem zjP : F1 Try.prog zgH zjW := zq [] Try.func52
def zff (P : Program) (x0 x1 : AV) (σ : LO) (Z : ZT) : Prop :=
 zcV x0 σ fun a s =>
 fl 0 a s fun b s =>
 zeB [(iN 0), x1] s fun c s =>
 zan (.int .u64) c s fun d s =>
 cA P zbr [b, d] s fun e s =>
 zan (.int .i64) e s fun f s =>
 z1 Z f s
theorem zeY : F2 Try.prog zU zff := zq [] Try.func53
def zes (P : Program) (x0 x1 : AV) (σ : LO) (Z : ZT) : Prop :=
 zcV x0 σ fun a s =>
 fl 0 a s fun b s =>
 cA P zaX [b, (iN 64)] s fun c s =>
 zan .toStr c s fun d s =>
 (fun (e : LO → Prop) => cA P zgF [d] s fun f s =>
 unC .not f s fun g s =>
 gFm g d s fun h s =>
 gFm g x1 s fun i s =>
 gF g (bP .leq h i s) s fun j s =>
 orC g j s fun l s =>
 zB l (fl 0 a s fun m s =>
 cA P zF [m, (iN 70)] s fun _ s =>
 e s) (e s))
 (fun  s => z1 Z d s)
theorem zem : F2 Try.prog zbA zes := zq [] Try.func54
def zdX (P : Program) (x0 : AV) (σ : LO) (Z : ZT) : Prop :=
 zcV x0 σ fun a s =>
 zn true 1 a s fun b s =>
 cA P zU [b, (iN 9007199254740992)] s fun c s =>
 zaP s fun d s =>
 zD (zaj [iN 0, eN, (.d .nilmap)] [(0, 1, c), (2, 1, d)]) s fun e s =>
 zcV e s fun f s =>
 zn true 1 a s fun g s =>
 cA P zU [g, (iN 64)] s fun h s =>
 zdO [(iN 0)] s fun v s i =>
 zdg v fun j v => bP .lss j h s fun l s =>
 zB l (zca f s fun m s =>
 zh 1 m s fun n s =>
 zn false 1 n s fun o s =>
 fl 0 a s fun p s =>
 cA P zaX [p, (iN 64)] s fun q t =>
 keepO n s t ∧ (m1 1 [eN] q t fun r s =>
 zA 1 24 o r s fun u s =>
 zca f s fun w s =>
 zh 1 w s fun y s =>
 zp 1 y u s fun _ s =>
 bP .add j (iN 1) s fun A s =>
 i [A] s)) ((fun (B : LO → Prop) => cA P zT [f] s fun T s =>
 bP .gtr T (iN 9007199254740992) s fun U s =>
 zB U (fl 0 a s fun V s =>
 cA P zF [V, (iN 70)] s fun _ s =>
 B s) (B s))
 (fun  s => zn true 1 a s fun C s =>
 cA P zU [C, (iN 8)] s fun D s =>
 zdO [(.d (.str [])), (iN 0)] s fun v s E =>
 zdg v fun F v => zdg v fun G v => bP .lss G D s fun H s =>
 zB H (zn true 1 a s fun I s =>
 cA P zbA [I, F] s fun J s =>
 zca f s fun K s =>
 zh 2 K s fun L s =>
 zn false 1 L s fun M s =>
 zn true 1 a s fun N s =>
 cA P zT [f] s fun O t =>
 keepO L s t ∧ (keepO a s t ∧ (cA P zU [N, O] t fun Q s =>
 keepO L t s ∧ (zbs .str M J Q s fun _ s =>
 bP .add G (iN 1) s fun S s =>
 E [J, S] s)))) (z1 Z f s)))
theorem zdR : F1 Try.prog zce zdX := zq [.l [12] [(13, 14)], .d [(0, 13)] [(7, [17])], .l [4, 35] [(36, 14)], .d [(0, 10)] [(7, [42, 1]), (8, [42])]] Try.func55
def zet (P : Program) (x0 : AV) (σ : LO) (Z : ZT) : Prop :=
 zcV x0 σ fun a s =>
 zaD [iN 0, iN 0, iN 0] s fun b s =>
 zn true 1 a s fun c s =>
 cA P zU [c, (iN 9007199254740992)] s fun d s =>
 zD (zaj [iN 0, iN 0, iN 0] [(0, 1, d)]) s fun e s =>
 cp [iN 0, iN 0, iN 0] 3 e s fun f s =>
 zn true 1 a s fun g s =>
 zn true 1 a s fun h s =>
 cA P zU [g, (iN 65536)] s fun i t =>
 keepO a s t ∧ (cA P zU [h, (iN 9007199254740992)] t fun j s =>
 zD (zaj [iN 0, iN 0] [(0, 1, i), (1, 1, j)]) s fun l s =>
 zh 1 f s fun m s =>
 zp 2 m l s fun _ s =>
 (fun (o : LO → Prop) => zh 1 f s fun F s =>
 fl 0 F s fun G s =>
 bP .eql G (iN 0) s fun H s =>
 zB H (o s) ((fun (I : AV → LO → Prop) => bP .eql G (iN 4) s fun S s =>
 zB S (I S s) (bP .eql G (iN 5) s fun T s =>
 zB T (I T s) (bP .eql G (iN 6) s fun U s =>
 zB U (I U s) (bP .eql G (iN 71) s fun V s =>
 zB V (I V s) (bP .eql G (iN 72) s fun W s =>
 zB W (I W s) (bP .eql G (iN 60) s fun X s =>
 zB X (I X s) (bP .eql G (iN 61) s fun Y s =>
 zB Y (I Y s) (bP .eql G (iN 62) s fun a0 s =>
 I a0 s))))))))
 (fun J s => zB J (zh 1 f s fun K s =>
 fl 1 K s fun L s =>
 bP .neq L (iN 0) s fun M s =>
 zB M (fl 0 a s fun N s =>
 cA P zF [N, (iN 70)] s fun _ s =>
 o s) (o s)) (fl 0 a s fun Q s =>
 cA P zF [Q, (iN 70)] s fun _ s =>
 o s))))
 (fun  s => (fun (p : LO → Prop) => fl 0 f s fun u s =>
 bP .eql u (iN 0) s fun w s =>
 gT w (zh 1 f s) s fun y s =>
 gT w (zn true 2 y s) s fun z s =>
 gT w (zD (zaj [iN 0, iN 0] []) s) s fun A s =>
 gT w (zdW .neq (.ints 2) z A s) s fun B s =>
 anC w B s fun C s =>
 zB C (fl 0 a s fun D s =>
 cA P zF [D, (iN 70)] s fun _ s =>
 p s) (p s))
 (fun  s => zn true 3 f s fun q s =>
 zp 3 b q s fun _ s =>
 Z (zV (zbo b s true 3) (some [])) s)))
theorem zen : F1 Try.prog zcq zet := zq [.d [(0, 1), (2, 1), (1, 1), (3, 4)] [(1, [1])]] Try.func56
def zfk (P : Program) (x0 : AV) (σ : LO) (Z : ZT) : Prop :=
 cA P zde [x0] σ fun a s =>
 bP .neq a (iN 0) s fun b s =>
 zB b (z1 Z a s) (nfl 0 x0 s fun c s =>
 zbx .sl c s fun d s =>
 bP .gtr d (iN 0) s fun e s =>
 zB e (z1 Z (iN 12) s) (z1 Z (iN 0) s))
theorem zih : F1 Try.prog zcO zfk := zq [] Try.func57
def zgr (P : Program) (x0 x1 : AV) (σ : LO) (Z : ZT) : Prop :=
 zdO [(iN 0)] σ fun v s a =>
 zdg v fun b v => nfl 0 x0 s fun c s =>
 zbx .sl c s fun d s =>
 bP .lss b d s fun e s =>
 zB e (nfl 0 x0 s fun f s =>
 il false 1 1 f b s fun g s =>
 cA P zjg [g, x1] s fun h s =>
 zB h (bP .add b (iN 1) s fun i s =>
 z2 Z i bT s) (bP .add b (iN 1) s fun j s =>
 a [j] s)) (z2 Z (iN 0) bF s)
theorem zkd : F2 Try.prog zef zgr := zq [.l [6] [(4, 2), (7, 20)]] Try.func58
def zmm (P : Program) (x0 : AV) (σ : LO) (Z : ZT) : Prop :=
 zcV x0 σ fun a s =>
 zn true 5 a s fun b s =>
 cA P zkG [b] s fun c s =>
 ze c 0 s fun d s =>
 ze c 1 s fun e s =>
 cp zl1 5 d s fun f s =>
 unC .not e s fun g s =>
 gF g (zn true 5 a s) s fun h s =>
 gF g (zn true 5 f s) s fun i s =>
 gF g (cA P zkH [h, i] s) s fun j s =>
 gF g (unC .not j s) s fun l s =>
 orC g l s fun m s =>
 zB m (z1 Z (iN 60) s) (fl 0 a s fun n s =>
 bP .neq n (iN 0) s fun o s =>
 gTl o 1 a s fun p s =>
 gT o (cA P zgF [p] s) s fun q s =>
 gT o (unC .not q s) s fun r s =>
 anC o r s fun u s =>
 zB u (z1 Z (iN 61) s) (fl 0 a s fun w s =>
 bP .eql w (iN 3) s fun y s =>
 gTl y 2 a s fun z s =>
 gT y (cA P zgF [z] s) s fun A s =>
 gT y (unC .not A s) s fun B s =>
 anC y B s fun C s =>
 zB C (z1 Z (iN 61) s) (fl 0 a s fun D s =>
 bP .eql D (iN 2) s fun E s =>
 gTl E 4 a s fun F s =>
 gT E (zbx .sl F s) s fun G s =>
 gT E (bP .lss G (iN 1) s) s fun H s =>
 gTm E H s fun I s =>
 gFl I 4 a s fun J s =>
 gF I (zbx .sl J s) s fun K s =>
 gF I (bP .gtr K (iN 4) s) s fun L s =>
 gT E (orC I L s) s fun M s =>
 gTm E M s fun N s =>
 gFl N 4 a s fun O s =>
 gFm N (.fn (.func zfq) [] []) s fun Q s =>
 gF N (cA P zac [O, Q] s) s fun R s =>
 gT E (orC N R s) s fun S s =>
 anC E S s fun T s =>
 zB T (z1 Z (iN 62) s) (fl 3 a s fun U s =>
 bP .lss U (iN 0) s fun V s =>
 gFl V 3 a s fun W s =>
 gF V (bP .gtr W (iN 9007199254740992) s) s fun X s =>
 orC V X s fun Y s =>
 zB Y (z1 Z (iN 60) s) (z1 Z (iN 0) s)))))
theorem e_op_Check : F1 Try.prog zji zmm := zq [] Try.func59
def zdy (P : Program) (x0 x1 : AV) (σ : LO) (Z : ZT) : Prop :=
 nfl 0 x0 σ fun a s =>
 zaS .str false (.d .nilp) a x1 s fun b s =>
 zdW .neq .ptr b (.d .nilp) s fun c s =>
 zB c (z1 Z (iN 5) s) (nfl 0 x0 s fun d s =>
 zbx .map d s fun e s =>
 bP .geq e (iN 8) s fun f s =>
 zB f (z1 Z (iN 6) s) (nfl 0 x0 s fun g s =>
 zaP s fun h s =>
 zD (zaj [iN 0, eN, (.d .nilmap)] [(2, 1, h)]) s fun i s =>
 zcV i s fun j s =>
 zbs .str g x1 j s fun _ s =>
 z1 Z (iN 0) s))
theorem zdu : F2 Try.prog zbT zdy := zq [] Try.func60
def zdq (P : Program) (x0 x1 : AV) (σ : LO) (Z : ZT) : Prop :=
 zcV x1 σ fun a s =>
 nfl 0 x0 s fun b s =>
 fl 1 a s fun c s =>
 zaS .str false (.d .nilp) b c s fun d s =>
 zdW .eql .ptr d (.d .nilp) s fun e s =>
 zB e (Z (zV (some (iN 0)) (zV (some eN) (zV (some (iN 4)) (some [])))) s) (nfl 1 d s fun f s =>
 zbx .sl f s fun g s =>
 fl 4 a s fun h s =>
 zbx .sl h s fun i s =>
 bP .add g i s fun j s =>
 bP .gtr j (iN 64) s fun l s =>
 gFm l d s fun m s =>
 gF l (zh 4 a s) s fun n s =>
 gF l (zn false 1 n s) s fun o s =>
 gF l (zbx .sl o s) s fun p s =>
 gF l (cA P zT [m] s) s fun q t =>
 keepO n s t ∧ (gF l (bP .add q p t) t fun r s =>
 gF l (bP .gtr r (iN 9007199254740992) s) s fun u s =>
 orC l u s fun w s =>
 zB w (Z (zV (some (iN 0)) (zV (some eN) (zV (some (iN 71)) (some [])))) s) (cA P zT [d] s fun y s =>
 fl 4 a s fun z s =>
 zbx .sl z s fun A s =>
 zdO [eN, (iN 0)] s fun v s B =>
 zdg v fun C v => zdg v fun D v => bP .lss D A s fun E s =>
 zB E (il false 1 1 z D s fun F s =>
 zh 1 a s fun G s =>
 zn false 1 G s fun H s =>
 cA P zT [d] s fun I t =>
 keepO G s t ∧ (cA P zL [F] t fun J s =>
 keepO G t s ∧ (zD (zaj [(.d (.str [])), iN 0, eN] [(0, 1, H), (1, 1, I), (2, 1, J)]) s fun K s =>
 m1 3 [(.d (.str [])), iN 0, eN] K s fun L s =>
 zA 3 48 C L s fun M s =>
 zca d s fun N s =>
 zh 1 N s fun O s =>
 zn false 1 O s fun Q s =>
 cA P zL [F] s fun R t =>
 keepO O s t ∧ (m1 1 [eN] R t fun S s =>
 zA 1 24 Q S s fun T s =>
 zca d s fun U s =>
 zh 1 U s fun V s =>
 zp 1 V T s fun _ s =>
 bP .add D (iN 1) s fun X s =>
 B [M, X] s)))) (Z (zV (some y) (zV (some C) (zV (some (iN 0)) (some [])))) s))))
theorem zdk : F2 Try.prog zbK zdq := zq [.d [(0, 8)] [], .d [(0, 12), (13, 3), (12, 1), (16, 3)] [(12, [34])], .l [9, 45] [(11, 1), (46, 25)], .d [(0, 4), (5, 1), (4, 1), (6, 5)] [(4, [50]), (6, [50])], .d [(0, 12)] [(6, [62])]] Try.func61
def zdz (P : Program) (x0 x1 : AV) (σ : LO) (Z : ZT) : Prop :=
 zcV x1 σ fun a s =>
 nfl 0 x0 s fun b s =>
 fl 1 a s fun c s =>
 zaS .str false (.d .nilp) b c s fun d s =>
 zdW .eql .ptr d (.d .nilp) s fun e s =>
 zB e (z2 Z (iN 0) (iN 4) s) (nfl 2 d s fun f s =>
 fl 2 a s fun g s =>
 zaS .str true (iN 0) f g s fun h s =>
 ze h 0 s fun i s =>
 ze h 1 s fun j s =>
 fl 3 a s fun l s =>
 bP .lss l i s fun m s =>
 gF m (zh 3 a s) s fun n s =>
 gF m (zn false 1 n s) s fun o s =>
 gFm m d s fun p s =>
 gF m (cA P zT [p] s) s fun q t =>
 keepO n s t ∧ (gF m (bP .gtr o q t) t fun r s =>
 orC m r s fun u s =>
 zB u (z2 Z (iN 0) (iN 72) s) (unC .not j s fun w s =>
 gTm w d s fun y s =>
 gT w (zca y s) s fun z s =>
 gTl w 2 z s fun A s =>
 gT w (zbx .map A s) s fun B s =>
 gT w (bP .geq B (iN 8) s) s fun C s =>
 anC w C s fun D s =>
 zB D (z2 Z (iN 0) (iN 6) s) (nfl 2 d s fun E s =>
 fl 2 a s fun F s =>
 fl 3 a s fun G s =>
 zbs .str E F G s fun _ s =>
 fl 3 a s fun I s =>
 z2 Z I (iN 0) s))))
theorem zdv : F2 Try.prog zbU zdz := zq [.d [(0, 8)] [], .d [(0, 12)] [], .d [(0, 12)] [(8, [34])], .d [(0, 9)] []] Try.func62
def zeu (P : Program) (x0 x1 : AV) (σ : LO) (Z : ZT) : Prop :=
 zcV x1 σ fun a s =>
 nfl 0 x0 s fun b s =>
 fl 1 a s fun c s =>
 zaS .str false (.d .nilp) b c s fun d s =>
 zdW .eql .ptr d (.d .nilp) s fun e s =>
 zB e (z2 Z (iN 0) (iN 4) s) (fl 3 a s fun f s =>
 nfl 0 d s fun g s =>
 bP .lss f g s fun h s =>
 gF h (zh 3 a s) s fun i s =>
 gF h (zn false 1 i s) s fun j s =>
 gFm h d s fun l s =>
 gF h (cA P zT [l] s) s fun m t =>
 keepO i s t ∧ (gF h (bP .gtr j m t) t fun n s =>
 orC h n s fun o s =>
 zB o (z2 Z (iN 0) (iN 72) s) (nfl 1 d s fun p s =>
 fl 3 a s fun q s =>
 nfl 0 d s fun r s =>
 bP .sub q r s fun u s =>
 zdD (.sl 1) p (some u) none none s fun w s =>
 cA P zay [w] s fun y s =>
 zca d s fun z s =>
 zh 1 z s fun A s =>
 zp 1 A y s fun _ s =>
 fl 3 a s fun C s =>
 zca d s fun D s =>
 zh 0 D s fun E s =>
 zp 1 E C s fun _ s =>
 fl 3 a s fun G s =>
 z2 Z G (iN 0) s)))
theorem zeo : F2 Try.prog zcr zeu := zq [.d [(0, 8)] [], .d [(0, 14)] [(11, [24])], .d [(0, 17)] []] Try.func63
def zjV (P : Program) (x0 : AV) (σ : LO) (Z : ZT) : Prop :=
 zaD [(.d (.int .u8 0)), (.d (.int .u8 0)), (.d (.int .u8 0)), (.d (.int .u8 0)), (.d (.int .u8 0)), (.d (.int .u8 0)), (.d (.int .u8 0)), (.d (.int .u8 0)), (.d (.int .u8 0)), (.d (.int .u8 0))] σ fun a s =>
 zaD [(.d (.int .u8 0)), (.d (.int .u8 0)), (.d (.int .u8 0)), (.d (.int .u8 0)), (.d (.int .u8 0)), (.d (.int .u8 0)), (.d (.int .u8 0)), (.d (.int .u8 0)), (.d (.int .u8 0)), (.d (.int .u8 0))] s fun b s =>
 zdO [x0, (iN 0)] s fun v s c =>
 zdg v fun d v => zdg v fun e v => bP .gtr d (.d (.int .u64 127)) s fun f s =>
 zB f (zan (.int .u8) d s fun g s =>
 bP .or g (.d (.int .u8 128)) s fun h s =>
 zN (some 10) 1 b e s fun i s =>
 zp 1 i h s fun _ s =>
 bP .shr d (.d (.int .u64 7)) s fun l s =>
 bP .add e (iN 1) s fun m s =>
 c [l, m] s) (zan (.int .u8) d s fun n s =>
 zN (some 10) 1 b e s fun o s =>
 zp 1 o n s fun _ s =>
 zn true 10 b s fun q s =>
 bP .add e (iN 1) s fun r s =>
 zp 10 a q s fun _ s =>
 Z (zV (zbo a s true 10) (zV (some r) (some []))) s)
theorem e_codec_form : F1 Try.prog zgG zjV := zq [.l [0, 5] [(6, 11)]] Try.func64
def zdr (P : Program) (x0 : AV) (σ : LO) (Z : ZT) : Prop :=
 zbx .sl x0 σ fun a s =>
 zbx .sl x0 s fun b s =>
 zdD (.sl 1) x0 none (some a) (some b) s fun c s =>
 z1 Z c s
theorem zdl : F1 Try.prog zbM zdr := zq [] Try.func65
def zeb (P : Program) (x0 x1 x2 : AV) (σ : LO) (Z : ZT) : Prop :=
 zn false 1 x1 σ fun a s =>
 zn false 1 x2 s fun b s =>
 cA P zaW [a, b] s fun c s =>
 ze c 0 s fun d s =>
 ze c 1 s fun e s =>
 bP .neq e (iN 0) s fun f s =>
 zB f (Z (some []) s) (nfl 1 d s fun g s =>
 zbx .sl g s fun h s =>
 zdO [(iN 0)] s fun v s i =>
 zdg v fun j v => bP .lss j h s fun l s =>
 zB l (il false 1 1 g j s fun m s =>
 zca d s fun n s =>
 zh 0 n s fun o s =>
 zn false 1 o s fun p s =>
 bP .add p j s fun q s =>
 cA P zL [m] s fun r t =>
 keepO o s t ∧ (zaC P x0 [dm q, dm r] t fun u s =>
 unC .not u s fun w s =>
 zB w (Z (some []) s) (bP .add j (iN 1) s fun y s =>
 i [y] s))) (Z (some []) s))
theorem zdT : F3 Try.prog zbq zeb := zq [.l [21] [(6, 2), (22, 16)], .d [(0, 11)] [(8, [29])]] Try.func66
def zcX (P : Program) (x0 : AV) (σ : LO) (Z : ZT) : Prop :=
 zt P zaK [eN, x0] σ fun a s =>
 z1 Z a s
theorem zcT : F1 Try.prog zbL zcX := zmJ [] Try.func76
def zaU (P : Program) (x0 x1 : AV) (σ : LO) (Z : ZT) : Prop :=
 zn false 1 x1 σ fun a s =>
 zfX a s fun b s =>
 zdO [] s fun v s c =>
 ziC b s fun d s =>
 ze d 0 s fun e s =>
 zB e (zgc b s fun f s =>
 ze f 0 s fun g s =>
 zaC P x0 [dm g] s fun h s =>
 unC .not h s fun i s =>
 zB i (Z (some []) s) (c [] s)) (Z (some []) s)
theorem zaT : F2 Try.prog zm zaU := zq [.l [] [(3, 1), (6, 8)]] Try.func78
def zbQ (P : Program) (x0 x1 : AV) (σ : LO) (Z : ZT) : Prop :=
 zn false 1 x1 σ fun a s =>
 zfX a s fun b s =>
 zdO [] s fun v s c =>
 ziC b s fun d s =>
 ze d 0 s fun e s =>
 zB e (zgc b s fun f s =>
 ze f 0 s fun g s =>
 zaC P x0 [dm g] s fun h s =>
 unC .not h s fun i s =>
 zB i (Z (some []) s) (c [] s)) (Z (some []) s)
theorem zbO : F2 Try.prog zH zbQ := zq [.l [] [(3, 1), (6, 8)]] Try.func79
def zfv (P : Program) (x0 : AV) (σ : LO) (Z : ZT) : Prop :=
 zdW .eql .ptr x0 (.d .nilp) σ fun a s =>
 gFm a x0 s fun b s =>
 gF a (zca b s) s fun c s =>
 gFl a 1 c s fun d s =>
 gF a (zdW .eql .map d (.d .nilmap) s) s fun e s =>
 orC a e s fun f s =>
 z1 Z f s
theorem ziL : F1 Try.prog zdd zfv := zq [] Try.func80
def ziX (P : Program) (x0 : AV) (σ : LO) (Z : ZT) : Prop :=
 zas false x0 σ fun a s =>
 zB a (z1 Z eN s) (zl false 1 0 (zaj (rep [(.d (.int .u8 0))] 0) []) s fun b s =>
 zA 1 1 b x0 s fun c s =>
 z1 Z c s)
theorem ziO : F1 Try.prog zfZ ziX := zq [] Try.func81
def zcY (P : Program) (x0 : AV) (σ : LO) (Z : ZT) : Prop :=
 zas false x0 σ fun a s =>
 zB a (z1 Z eN s) (zl false 1 0 (zaj (rep [(.d (.int .u8 0))] 0) []) s fun b s =>
 zA 1 1 b x0 s fun c s =>
 z1 Z c s)
theorem zcU : F1 Try.prog zaV zcY := zq [] Try.func83
def zfw (P : Program) (x0 x1 : AV) (σ : LO) (Z : ZT) : Prop :=
 cA P zaH [x0] σ fun a s =>
 zB a (z1 Z (.d (.int .u64 0)) s) ((fun (b : LO → Prop) => zdO [(.d (.int .u64 0)), (iN 0)] s fun v s d =>
 zdg v fun e v => zdg v fun f v => bP .lss f (iN 10) s fun g s =>
 zB g (nfl 0 x0 s fun h s =>
 zbx .sl h s fun i s =>
 bP .geq f i s fun j s =>
 zB j (cA P zF [x0, (iN 10)] s fun _ s =>
 z1 Z (.d (.int .u64 0)) s) (nfl 0 x0 s fun m s =>
 il false 1 1 m f s fun n s =>
 bP .and n (.d (.int .u8 127)) s fun o s =>
 zan (.int .u64) o s fun p s =>
 bP .mul (iN 7) f s fun q s =>
 bP .shl p q s fun r s =>
 bP .or e r s fun u s =>
 bP .gtr n (.d (.int .u8 127)) s fun w s =>
 zB w (bP .add f (iN 1) s fun y s =>
 d [u, y] s) (bP .gtr f (iN 0) s fun z s =>
 gTm z n s fun A s =>
 gT z (bP .eql A (.d (.int .u8 0)) s) s fun B s =>
 anC z B s fun C s =>
 gFm C f s fun D s =>
 gF C (bP .eql D (iN 9) s) s fun E s =>
 gFm C E s fun F s =>
 gTm F n s fun G s =>
 gT F (bP .gtr G (.d (.int .u8 1)) s) s fun H s =>
 gF C (anC F H s) s fun I s =>
 orC C I s fun J s =>
 gFm J u s fun K s =>
 gFm J x1 s fun L s =>
 gF J (bP .gtr K L s) s fun M s =>
 orC J M s fun N s =>
 zB N (b s) (nfl 0 x0 s fun O s =>
 bP .add f (iN 1) s fun Q s =>
 zdD (.sl 1) O (some Q) none none s fun R s =>
 zca x0 s fun S s =>
 zh 0 S s fun T s =>
 zp 1 T R s fun _ s =>
 z1 Z u s)))) (b s))
 (fun  s => cA P zF [x0, (iN 11)] s fun _ s =>
 z1 Z (.d (.int .u64 0)) s))
theorem ziM : F2 Try.prog zbr zfw := zq [.l [5, 10] [(4, 1), (6, 2), (11, 59)]] Try.func84
def zez (P : Program) (x0 x1 : AV) (σ : LO) (Z : ZT) : Prop :=
 zeB [(iN 0), x1] σ fun a s =>
 zan (.int .u64) a s fun b s =>
 cA P zbr [x0, b] s fun c s =>
 zan (.int .i64) c s fun d s =>
 cA P zcN [x0, d] s fun e s =>
 z1 Z e s
theorem zhr : F2 Try.prog zaX zez := zq [] Try.func85
def S_op_Name (P : Program) (x0 : AV) (σ : LO) (Z : ZT) : Prop :=
 cA P zjh [x0] σ fun a s =>
 bP .gtr a (iN 0) s fun b s =>
 z1 Z b s
theorem e_op_Name : F1 Try.prog zgF S_op_Name := zq [] Try.func86
def zfj (P : Program) (x0 x1 : AV) (σ : LO) (Z : ZT) : Prop :=
 cA P zaH [x0] σ fun a s =>
 unC .not a s fun b s =>
 zB b (zca x0 s fun c s =>
 zh 1 c s fun d s =>
 zp 1 d x1 s fun _ s =>
 Z (some []) s) (Z (some []) s)
theorem zig : F2 Try.prog zF zfj := zq [] Try.func87
def zfx (P : Program) (x0 : AV) (σ : LO) (Z : ZT) : Prop :=
 zdW .eql .ptr x0 (.d .nilp) σ fun a s =>
 gFm a x0 s fun b s =>
 gF a (zca b s) s fun c s =>
 gFl a 2 c s fun d s =>
 gF a (unC .not d s) s fun e s =>
 orC a e s fun f s =>
 zB f (z1 Z (iN 2) s) (nfl 1 x0 s fun g s =>
 z1 Z g s)
theorem ziN : F1 Try.prog zde zfx := zq [] Try.func88
def zmk (P : Program) (x0 x1 : AV) (σ : LO) (Z : ZT) : Prop :=
 zan .toStr x0 σ fun a s =>
 zan .toStr x1 s fun b s =>
 bP .eql a b s fun c s =>
 z1 Z c s
theorem e_r02_Same : F2 Try.prog zjg zmk := zq [] Try.func89
def S_op_only (P : Program) (x0 : AV) (σ : LO) (Z : ZT) : Prop :=
 zcV x0 σ fun a s =>
 zaD zl1 s fun b s =>
 fl 0 a s fun c s =>
 zD (zaj zl1 [(0, 1, c)]) s fun d s =>
 cp zl1 5 d s fun e s =>
 (fun (f : LO → Prop) => fl 0 a s fun i s =>
 bP .eql i (iN 0) s fun j s =>
 zB j (f s) (bP .eql i (iN 1) s fun l s =>
 zB l (fl 1 a s fun m s =>
 zh 1 e s fun n s =>
 zp 1 n m s fun _ s =>
 f s) (bP .eql i (iN 2) s fun p s =>
 zB p (fl 1 a s fun q s =>
 zh 4 a s fun r s =>
 zn false 1 r s fun u s =>
 zh 1 e s fun w s =>
 zp 1 w q s fun _ t =>
 keepO r s t ∧ (zh 4 e t fun z s =>
 zp 1 z u s fun _ s =>
 f s)) (bP .eql i (iN 3) s fun B s =>
 zB B (fl 1 a s fun C s =>
 zh 2 a s fun D s =>
 zn false 1 D s fun E s =>
 zh 3 a s fun F s =>
 zn false 1 F s fun G s =>
 zh 1 e s fun H s =>
 zp 1 H C s fun _ t =>
 keepO D s t ∧ (keepO F s t ∧ (zh 2 e t fun J s =>
 zp 1 J E s fun _ t =>
 keepO F s t ∧ (zh 3 e t fun L s =>
 zp 1 L G s fun _ s =>
 f s)))) (bP .eql i (iN 4) s fun N s =>
 zB N (fl 1 a s fun O s =>
 zh 3 a s fun Q s =>
 zn false 1 Q s fun R s =>
 zh 1 e s fun S s =>
 zp 1 S O s fun _ t =>
 keepO Q s t ∧ (zh 3 e t fun U s =>
 zp 1 U R s fun _ s =>
 f s)) (zn true 5 e s fun W s =>
 zp 5 b W s fun _ s =>
 Z (zV (zbo b s true 5) (zV (some bF) (some []))) s))))))
 (fun  s => zn true 5 e s fun g s =>
 zp 5 b g s fun _ s =>
 Z (zV (zbo b s true 5) (zV (some bT) (some []))) s)
theorem e_op_only : F1 Try.prog zkG S_op_only := zq [.d [(0, 8)] [(5, [22])], .d [(0, 12)] [(7, [30, 32]), (9, [32])], .d [(0, 8)] [(5, [41])]] Try.func90
def zjU (P : Program) (x0 : AV) (σ : LO) (Z : ZT) : Prop :=
 zbx .sl x0 σ fun a s =>
 bP .gtr a (iN 64) s fun b s =>
 z1 Z b s
theorem e_op_Check_1 : F1 Try.prog zfq zjU := zq [] Try.func91
def S_op_Same (P : Program) (x0 x1 : AV) (σ : LO) (Z : ZT) : Prop :=
 zcV x0 σ fun a s =>
 zcV x1 s fun b s =>
 fl 0 a s fun c s =>
 fl 0 b s fun d s =>
 bP .eql c d s fun e s =>
 gTl e 1 a s fun f s =>
 gTl e 1 b s fun g s =>
 gT e (bP .eql f g s) s fun h s =>
 anC e h s fun i s =>
 gTl i 2 a s fun j s =>
 gTl i 2 b s fun l s =>
 gT i (bP .eql j l s) s fun m s =>
 anC i m s fun n s =>
 gTl n 3 a s fun o s =>
 gTl n 3 b s fun p s =>
 gT n (bP .eql o p s) s fun q s =>
 anC n q s fun r s =>
 gTl r 4 a s fun u s =>
 gTl r 4 b s fun w s =>
 gT r (cA P zy [u, w, (.fn (.func zfY) [] [])] s) s fun y s =>
 anC r y s fun z s =>
 z1 Z z s
theorem e_op_Same : F2 Try.prog zkH S_op_Same := zq [] Try.func92
def zaG (P : Program) (x0 x1 : AV) (σ : LO) (Z : ZT) : Prop :=
 cA P zaO [x0, x1] σ fun a s =>
 bP .geq a (iN 0) s fun b s =>
 z1 Z b s
theorem zbN : F2 Try.prog zac zaG := zq [] Try.func93
def zbe (P : Program) (x0 : AV) (σ : LO) (Z : ZT) : Prop :=
 zas false x0 σ fun a s =>
 zB a (z1 Z eN s) (zl false 1 0 (zaj (rep [eN] 0) []) s fun b s =>
 zA 1 24 b x0 s fun c s =>
 z1 Z c s)
theorem zbb : F1 Try.prog zay zbe := zq [] Try.func94
def zbu (P : Program) (x0 x1 : AV) (σ : LO) (Z : ZT) : Prop :=
 zcV x0 σ fun a s =>
 zjd P x1 1 s (fun v s b c d e =>
 zdg v fun f v => s[b]? = some c ∧ ((fun s =>
 zn false 1 a s fun g s =>
 zl true 1 1 (zaj (rep [(.d (.str []))] 1) [(0, 1, f)]) s fun h s =>
 zgg 1 16 g h s fun i s =>
 zp 1 a i s fun _ s =>
 s[b]? = some d ∧ e (s.set b c)) (s.set b d))) fun s =>
 zn false 1 a s fun l s =>
 z1 Z l s
theorem zbt : F2 Try.prog zaK zbu := zmJ [] Try.func97
def zey (P : Program) (x0 : AV) (σ : LO) (Z : ZT) : Prop :=
 zdW .eql .ptr x0 (.d .nilp) σ fun a s =>
 gFm a x0 s fun b s =>
 gF a (zca b s) s fun c s =>
 gFl a 2 c s fun d s =>
 gF a (unC .not d s) s fun e s =>
 orC a e s fun f s =>
 gFm f x0 s fun g s =>
 gF f (zca g s) s fun h s =>
 gFl f 1 h s fun i s =>
 gF f (bP .neq i (iN 0) s) s fun j s =>
 orC f j s fun l s =>
 z1 Z l s
theorem zhq : F1 Try.prog zaH zey := zq [] Try.func100
def zfi (P : Program) (x0 x1 : AV) (σ : LO) (Z : ZT) : Prop :=
 (fun (a : LO → Prop) => bP .lss x1 (iN 0) σ fun A s =>
 zB A (cA P zF [x0, (iN 1)] s fun _ s =>
 a s) (a s))
 (fun  s => (fun (b : LO → Prop) => cA P zaH [x0] s fun m s =>
 unC .not m s fun n s =>
 gTm n x1 s fun o s =>
 gTm n x0 s fun p s =>
 gT n (zca p s) s fun q s =>
 gTl n 0 q s fun r s =>
 gT n (zbx .sl r s) s fun u s =>
 gT n (bP .gtr o u s) s fun w s =>
 anC n w s fun y s =>
 zB y (cA P zF [x0, (iN 10)] s fun _ s =>
 b s) (b s))
 (fun  s => cA P zaH [x0] s fun c s =>
 zB c (z1 Z eN s) (nfl 0 x0 s fun d s =>
 zdD (.sl 1) d none (some x1) none s fun e s =>
 cA P zaV [e] s fun f s =>
 nfl 0 x0 s fun g s =>
 zdD (.sl 1) g (some x1) none none s fun h s =>
 zca x0 s fun i s =>
 zh 0 i s fun j s =>
 zp 1 j h s fun _ s =>
 z1 Z f s)))
theorem zif : F2 Try.prog zcN zfi := zq [] Try.func101
def zml (P : Program) (x0 : AV) (σ : LO) (Z : ZT) : Prop :=
 zap x0 σ fun a s =>
 zdO [(iN 0)] s fun v s b =>
 zdg v fun c v => ziD a s fun d s =>
 ze d 0 s fun e s =>
 zB e (ze d 2 s fun f s =>
 bP .lss f (.d (.int .i32 33)) s fun g s =>
 gFm g f s fun h s =>
 gF g (bP .geq h (.d (.int .i32 127)) s) s fun i s =>
 gFm g i s fun j s =>
 gTm j f s fun l s =>
 gT j (bP .leq l (.d (.int .i32 159)) s) s fun m s =>
 gF g (anC j m s) s fun n s =>
 orC g n s fun o s =>
 gFm o f s fun p s =>
 gF o (bP .eql p (.d (.int .i32 47)) s) s fun q s =>
 orC o q s fun r s =>
 gFm r f s fun u s =>
 gF r (bP .eql u (.d (.int .i32 65533)) s) s fun w s =>
 orC r w s fun y s =>
 zB y (z1 Z (iN 0) s) (bP .add c (iN 1) s fun z s =>
 b [z] s)) (bP .gtr c (iN 16) s fun A s =>
 zB A (z1 Z (iN 0) s) (z1 Z c s))
theorem e_op_Runes : F1 Try.prog zjh zml := zq [.l [3] [(2, 1), (5, 1), (8, 23)]] Try.func102
def zS (P : Program) (x0 x1 x2 : AV) (σ : LO) (Z : ZT) : Prop :=
 zbx .sl x0 σ fun a s =>
 zbx .sl x1 s fun b s =>
 bP .neq a b s fun c s =>
 zB c (z1 Z bF s) (zbx .sl x0 s fun d s =>
 zdO [(iN 0)] s fun v s e =>
 zdg v fun f v => bP .lss f d s fun g s =>
 zB g (il false 1 1 x0 f s fun h s =>
 il false 1 1 x1 f s fun i s =>
 zaC P x2 [dm h, dm i] s fun j s =>
 unC .not j s fun l s =>
 zB l (z1 Z bF s) (bP .add f (iN 1) s fun m s =>
 e [m] s)) (z1 Z bT s))
theorem zaI : F3 Try.prog zy zS := zq [.l [17] [(6, 4), (18, 14)]] Try.func103
def zlk (P : Program) (x0 x1 : AV) (σ : LO) (Z : ZT) : Prop :=
 cA P zck [x0, x1] σ fun a s =>
 z1 Z a s
theorem e_op_Same_1 : F2 Try.prog zfY zlk := zq [] Try.func104
def zaQ (P : Program) (x0 x1 : AV) (σ : LO) (Z : ZT) : Prop :=
 zbx .sl x0 σ fun a s =>
 zdO [(iN 0)] s fun v s b =>
 zdg v fun c v => bP .lss c a s fun d s =>
 zB d (il false 1 1 x0 c s fun e s =>
 zaC P x1 [dm e] s fun f s =>
 zB f (z1 Z c s) (bP .add c (iN 1) s fun g s =>
 b [g] s)) (z1 Z (iN (-1)) s)
theorem zcb : F2 Try.prog zaO zaQ := zq [.l [8] [(4, 2), (9, 10)]] Try.func105
end Go.Proofs.Ytaocmalhjfakdaa
