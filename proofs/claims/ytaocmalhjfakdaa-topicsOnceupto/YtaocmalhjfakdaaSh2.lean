/- The conditions of each function, its slots as variables, and that the logic's conditions are these. Printed by program. -/
import Derived.Test.YtaocmalhjfakdaaNm
import Derived.KernelRfl
set_option linter.all false
set_option maxRecDepth 100000
set_option linter.unusedVariables false
namespace Go.Proofs.Ytaocmalhjfakdaa
open Go.AW
def zci (P : Program) (x0 : AV) (σ : LO) (Z : ZT) : Prop :=
 zC P zbn [x0] σ fun a s =>
 zC P zaQ [a] s fun _ s =>
 z1 Z a s
theorem zce : F1 Try.prog zaR zci := zke [] Try.func46
def zM (P : Program) (x0 : AV) (σ : LO) (Z : ZT) : Prop :=
 zdL x0 σ fun a s =>
 z1 Z (.fn (.func zi) [] [a]) s
theorem zK : F1 Try.prog zr zM := zJ [] Try.func47
def zaw (P : Program) (x0 : AV) (σ : LO) (Z : ZT) : Prop :=
 zdL x0 σ fun a s =>
 z1 Z (.fn (.func zu) [] [a]) s
theorem zav : F1 Try.prog zP zaw := zJ [] Try.func48
def zjI (P : Program) (x0 : AV) (σ : LO) (Z : ZT) : Prop :=
 zdL x0 σ fun a s =>
 zq true 5 a s fun b s =>
 cA P zij [b] s fun c s =>
 zd c 0 s fun d s =>
 zd c 1 s fun e s =>
 cp zl1 5 d s fun f s =>
 unC .not e s fun g s =>
 gF g (zq true 5 a s) s fun h s =>
 gF g (zq true 5 f s) s fun i s =>
 gF g (cA P zik [h, i] s) s fun j s =>
 gF g (unC .not j s) s fun l s =>
 orC g l s fun m s =>
 zac m (z1 Z (iN 60) s) (fl 0 a s fun n s =>
 bP .neq n (iN 0) s fun o s =>
 gTl o 1 a s fun p s =>
 gT o (cA P zgc [p] s) s fun q s =>
 gT o (unC .not q s) s fun r s =>
 anC o r s fun u s =>
 zac u (z1 Z (iN 61) s) (fl 0 a s fun w s =>
 bP .eql w (iN 3) s fun y s =>
 gTl y 2 a s fun z s =>
 gT y (cA P zgc [z] s) s fun A s =>
 gT y (unC .not A s) s fun B s =>
 anC y B s fun C s =>
 zac C (z1 Z (iN 61) s) (fl 0 a s fun D s =>
 bP .eql D (iN 2) s fun E s =>
 gTl E 4 a s fun F s =>
 gT E (zbO .sl F s) s fun G s =>
 gT E (bP .lss G (iN 1) s) s fun H s =>
 gTm E H s fun I s =>
 gFl I 4 a s fun J s =>
 gF I (zbO .sl J s) s fun K s =>
 gF I (bP .gtr K (iN 4) s) s fun L s =>
 gT E (orC I L s) s fun M s =>
 gTm E M s fun N s =>
 gFl N 4 a s fun O s =>
 gFm N (.fn (.func zdP) [] []) s fun Q s =>
 gF N (cA P zI [O, Q] s) s fun R s =>
 gT E (orC N R s) s fun S s =>
 anC E S s fun T s =>
 zac T (z1 Z (iN 62) s) (fl 3 a s fun U s =>
 bP .lss U (iN 0) s fun V s =>
 gFl V 3 a s fun W s =>
 gF V (bP .gtr W (iN 9007199254740992) s) s fun X s =>
 orC V X s fun Y s =>
 zac Y (z1 Z (iN 60) s) (z1 Z (iN 0) s)))))
theorem e_op_Check : F1 Try.prog zgD zjI := zJ [] Try.func59
def zcp (P : Program) (x0 x1 : AV) (σ : LO) (Z : ZT) : Prop :=
 nfl 0 x0 σ fun a s =>
 zaS .str false (.d .nilp) a x1 s fun b s =>
 zeB .neq .ptr b (.d .nilp) s fun c s =>
 zac c (z1 Z (iN 5) s) (nfl 0 x0 s fun d s =>
 zbO .map d s fun e s =>
 bP .geq e (iN 8) s fun f s =>
 zac f (z1 Z (iN 6) s) (nfl 0 x0 s fun g s =>
 zbc s fun h s =>
 zG (zaC [iN 0, eN, (.d .nilmap)] [(2, 1, h)]) s fun i s =>
 zdL i s fun j s =>
 zbN .str g x1 j s fun _ s =>
 z1 Z (iN 0) s))
theorem zcm : F2 Try.prog zbw zcp := zJ [] Try.func60
def zcj (P : Program) (x0 x1 : AV) (σ : LO) (Z : ZT) : Prop :=
 zdL x1 σ fun a s =>
 nfl 0 x0 s fun b s =>
 fl 1 a s fun c s =>
 zaS .str false (.d .nilp) b c s fun d s =>
 zeB .eql .ptr d (.d .nilp) s fun e s =>
 zac e (Z (zR (some (iN 0)) (zR (some eN) (zR (some (iN 4)) (some [])))) s) (nfl 1 d s fun f s =>
 zbO .sl f s fun g s =>
 fl 4 a s fun h s =>
 zbO .sl h s fun i s =>
 bP .add g i s fun j s =>
 bP .gtr j (iN 64) s fun l s =>
 gFm l d s fun m s =>
 gF l (zl 4 a s) s fun n s =>
 gF l (zq false 1 n s) s fun o s =>
 gF l (zbO .sl o s) s fun p s =>
 gF l (cA P zT [m] s) s fun q t =>
 zan n s t ∧ (gF l (bP .add q p t) t fun r s =>
 gF l (bP .gtr r (iN 9007199254740992) s) s fun u s =>
 orC l u s fun w s =>
 zac w (Z (zR (some (iN 0)) (zR (some eN) (zR (some (iN 71)) (some [])))) s) (cA P zT [d] s fun y s =>
 fl 4 a s fun z s =>
 zbO .sl z s fun A s =>
 zeH [eN, (iN 0)] s fun v s B =>
 zeI v fun C v => zeI v fun D v => bP .lss D A s fun E s =>
 zac E (il false 1 1 z D s fun F s =>
 zl 1 a s fun G s =>
 zq false 1 G s fun H s =>
 cA P zT [d] s fun I t =>
 zan G s t ∧ (cA P zy [F] t fun J s =>
 zan G t s ∧ (zG (zaC [(.d (.str [])), iN 0, eN] [(0, 1, H), (1, 1, I), (2, 1, J)]) s fun K s =>
 m1 3 [(.d (.str [])), iN 0, eN] K s fun L s =>
 zL 3 48 C L s fun M s =>
 zcV d s fun N s =>
 zl 1 N s fun O s =>
 zq false 1 O s fun Q s =>
 cA P zy [F] s fun R t =>
 zan O s t ∧ (m1 1 [eN] R t fun S s =>
 zL 1 24 Q S s fun T s =>
 zcV d s fun U s =>
 zl 1 U s fun V s =>
 zt 1 V T s fun _ s =>
 bP .add D (iN 1) s fun X s =>
 B [M, X] s)))) (Z (zR (some y) (zR (some C) (zR (some (iN 0)) (some [])))) s))))
theorem zcf : F2 Try.prog zbm zcj := zJ [.d [(0, 8)] [], .d [(0, 12), (13, 3), (12, 1), (16, 3)] [(12, [34])], .l [9, 45] [(11, 1), (46, 25)], .d [(0, 4), (5, 1), (4, 1), (6, 5)] [(4, [50]), (6, [50])], .d [(0, 12)] [(6, [62])]] Try.func61
def zcq (P : Program) (x0 x1 : AV) (σ : LO) (Z : ZT) : Prop :=
 zdL x1 σ fun a s =>
 nfl 0 x0 s fun b s =>
 fl 1 a s fun c s =>
 zaS .str false (.d .nilp) b c s fun d s =>
 zeB .eql .ptr d (.d .nilp) s fun e s =>
 zac e (z2 Z (iN 0) (iN 4) s) (nfl 2 d s fun f s =>
 fl 2 a s fun g s =>
 zaS .str true (iN 0) f g s fun h s =>
 zd h 0 s fun i s =>
 zd h 1 s fun j s =>
 fl 3 a s fun l s =>
 bP .lss l i s fun m s =>
 gF m (zl 3 a s) s fun n s =>
 gF m (zq false 1 n s) s fun o s =>
 gFm m d s fun p s =>
 gF m (cA P zT [p] s) s fun q t =>
 zan n s t ∧ (gF m (bP .gtr o q t) t fun r s =>
 orC m r s fun u s =>
 zac u (z2 Z (iN 0) (iN 72) s) (unC .not j s fun w s =>
 gTm w d s fun y s =>
 gT w (zcV y s) s fun z s =>
 gTl w 2 z s fun A s =>
 gT w (zbO .map A s) s fun B s =>
 gT w (bP .geq B (iN 8) s) s fun C s =>
 anC w C s fun D s =>
 zac D (z2 Z (iN 0) (iN 6) s) (nfl 2 d s fun E s =>
 fl 2 a s fun F s =>
 fl 3 a s fun G s =>
 zbN .str E F G s fun _ s =>
 fl 3 a s fun I s =>
 z2 Z I (iN 0) s))))
theorem zcn : F2 Try.prog zbx zcq := zJ [.d [(0, 8)] [], .d [(0, 12)] [], .d [(0, 12)] [(8, [34])], .d [(0, 9)] []] Try.func62
def zda (P : Program) (x0 x1 : AV) (σ : LO) (Z : ZT) : Prop :=
 zdL x1 σ fun a s =>
 nfl 0 x0 s fun b s =>
 fl 1 a s fun c s =>
 zaS .str false (.d .nilp) b c s fun d s =>
 zeB .eql .ptr d (.d .nilp) s fun e s =>
 zac e (z2 Z (iN 0) (iN 4) s) (fl 3 a s fun f s =>
 nfl 0 d s fun g s =>
 bP .lss f g s fun h s =>
 gF h (zl 3 a s) s fun i s =>
 gF h (zq false 1 i s) s fun j s =>
 gFm h d s fun l s =>
 gF h (cA P zT [l] s) s fun m t =>
 zan i s t ∧ (gF h (bP .gtr j m t) t fun n s =>
 orC h n s fun o s =>
 zac o (z2 Z (iN 0) (iN 72) s) (nfl 1 d s fun p s =>
 fl 3 a s fun q s =>
 nfl 0 d s fun r s =>
 bP .sub q r s fun u s =>
 zdM (.sl 1) p (some u) none none s fun w s =>
 cA P zae [w] s fun y s =>
 zcV d s fun z s =>
 zl 1 z s fun A s =>
 zt 1 A y s fun _ s =>
 fl 3 a s fun C s =>
 zcV d s fun D s =>
 zl 0 D s fun E s =>
 zt 1 E C s fun _ s =>
 fl 3 a s fun G s =>
 z2 Z G (iN 0) s)))
theorem zcW : F2 Try.prog zbL zda := zJ [.d [(0, 8)] [], .d [(0, 14)] [(11, [24])], .d [(0, 17)] []] Try.func63
def zhk (P : Program) (x0 : AV) (σ : LO) (Z : ZT) : Prop :=
 zaN [(.d (.int .u8 0)), (.d (.int .u8 0)), (.d (.int .u8 0)), (.d (.int .u8 0)), (.d (.int .u8 0)), (.d (.int .u8 0)), (.d (.int .u8 0)), (.d (.int .u8 0)), (.d (.int .u8 0)), (.d (.int .u8 0))] σ fun a s =>
 zaN [(.d (.int .u8 0)), (.d (.int .u8 0)), (.d (.int .u8 0)), (.d (.int .u8 0)), (.d (.int .u8 0)), (.d (.int .u8 0)), (.d (.int .u8 0)), (.d (.int .u8 0)), (.d (.int .u8 0)), (.d (.int .u8 0))] s fun b s =>
 zeH [x0, (iN 0)] s fun v s c =>
 zeI v fun d v => zeI v fun e v => bP .gtr d (.d (.int .u64 127)) s fun f s =>
 zac f (zaD (.int .u8) d s fun g s =>
 bP .or g (.d (.int .u8 128)) s fun h s =>
 zY (some 10) 1 b e s fun i s =>
 zt 1 i h s fun _ s =>
 bP .shr d (.d (.int .u64 7)) s fun l s =>
 bP .add e (iN 1) s fun m s =>
 c [l, m] s) (zaD (.int .u8) d s fun n s =>
 zY (some 10) 1 b e s fun o s =>
 zt 1 o n s fun _ s =>
 zq true 10 b s fun q s =>
 bP .add e (iN 1) s fun r s =>
 zt 10 a q s fun _ s =>
 Z (zR (zbD a s true 10) (zR (some r) (some []))) s)
theorem e_codec_form : F1 Try.prog zeP zhk := zJ [.l [0, 5] [(6, 11)]] Try.func64
def zck (P : Program) (x0 : AV) (σ : LO) (Z : ZT) : Prop :=
 zbO .sl x0 σ fun a s =>
 zbO .sl x0 s fun b s =>
 zdM (.sl 1) x0 none (some a) (some b) s fun c s =>
 z1 Z c s
theorem zcg : F1 Try.prog zbo zck := zJ [] Try.func65
def zcP (P : Program) (x0 x1 x2 : AV) (σ : LO) (Z : ZT) : Prop :=
 zq false 1 x1 σ fun a s =>
 zq false 1 x2 s fun b s =>
 cA P zaF [a, b] s fun c s =>
 zd c 0 s fun d s =>
 zd c 1 s fun e s =>
 bP .neq e (iN 0) s fun f s =>
 zac f (Z (some []) s) (nfl 1 d s fun g s =>
 zbO .sl g s fun h s =>
 zeH [(iN 0)] s fun v s i =>
 zeI v fun j v => bP .lss j h s fun l s =>
 zac l (il false 1 1 g j s fun m s =>
 zcV d s fun n s =>
 zl 0 n s fun o s =>
 zq false 1 o s fun p s =>
 bP .add p j s fun q s =>
 cA P zy [m] s fun r t =>
 zan o s t ∧ (zaH P x0 [dm q, dm r] t fun u s =>
 unC .not u s fun w s =>
 zac w (Z (some []) s) (bP .add j (iN 1) s fun y s =>
 i [y] s))) (Z (some []) s))
theorem zcH : F3 Try.prog zaV zcP := zJ [.l [21] [(6, 2), (22, 16)], .d [(0, 11)] [(8, [29])]] Try.func66
def zbX (P : Program) (x0 : AV) (σ : LO) (Z : ZT) : Prop :=
 zC P zar [eN, x0] σ fun a s =>
 z1 Z a s
theorem zbW : F1 Try.prog zbn zbX := zke [] Try.func76
def zaB (P : Program) (x0 x1 : AV) (σ : LO) (Z : ZT) : Prop :=
 zq false 1 x1 σ fun a s =>
 zej a s fun b s =>
 zeH [] s fun v s c =>
 zga b s fun d s =>
 zd d 0 s fun e s =>
 zac e (zep b s fun f s =>
 zd f 0 s fun g s =>
 zaH P x0 [dm g] s fun h s =>
 unC .not h s fun i s =>
 zac i (Z (some []) s) (c [] s)) (Z (some []) s)
theorem zaA : F2 Try.prog zi zaB := zJ [.l [] [(3, 1), (6, 8)]] Try.func78
def zbt (P : Program) (x0 x1 : AV) (σ : LO) (Z : ZT) : Prop :=
 zq false 1 x1 σ fun a s =>
 zej a s fun b s =>
 zeH [] s fun v s c =>
 zga b s fun d s =>
 zd d 0 s fun e s =>
 zac e (zep b s fun f s =>
 zd f 0 s fun g s =>
 zaH P x0 [dm g] s fun h s =>
 unC .not h s fun i s =>
 zac i (Z (some []) s) (c [] s)) (Z (some []) s)
theorem zbq : F2 Try.prog zu zbt := zJ [.l [] [(3, 1), (6, 8)]] Try.func79
def S_op_Name (P : Program) (x0 : AV) (σ : LO) (Z : ZT) : Prop :=
 cA P zgC [x0] σ fun a s =>
 bP .gtr a (iN 0) s fun b s =>
 z1 Z b s
theorem e_op_Name : F1 Try.prog zgc S_op_Name := zJ [] Try.func86
def S_op_only (P : Program) (x0 : AV) (σ : LO) (Z : ZT) : Prop :=
 zdL x0 σ fun a s =>
 zaN zl1 s fun b s =>
 fl 0 a s fun c s =>
 zG (zaC zl1 [(0, 1, c)]) s fun d s =>
 cp zl1 5 d s fun e s =>
 (fun (f : LO → Prop) => fl 0 a s fun i s =>
 bP .eql i (iN 0) s fun j s =>
 zac j (f s) (bP .eql i (iN 1) s fun l s =>
 zac l (fl 1 a s fun m s =>
 zl 1 e s fun n s =>
 zt 1 n m s fun _ s =>
 f s) (bP .eql i (iN 2) s fun p s =>
 zac p (fl 1 a s fun q s =>
 zl 4 a s fun r s =>
 zq false 1 r s fun u s =>
 zl 1 e s fun w s =>
 zt 1 w q s fun _ t =>
 zan r s t ∧ (zl 4 e t fun z s =>
 zt 1 z u s fun _ s =>
 f s)) (bP .eql i (iN 3) s fun B s =>
 zac B (fl 1 a s fun C s =>
 zl 2 a s fun D s =>
 zq false 1 D s fun E s =>
 zl 3 a s fun F s =>
 zq false 1 F s fun G s =>
 zl 1 e s fun H s =>
 zt 1 H C s fun _ t =>
 zan D s t ∧ (zan F s t ∧ (zl 2 e t fun J s =>
 zt 1 J E s fun _ t =>
 zan F s t ∧ (zl 3 e t fun L s =>
 zt 1 L G s fun _ s =>
 f s)))) (bP .eql i (iN 4) s fun N s =>
 zac N (fl 1 a s fun O s =>
 zl 3 a s fun Q s =>
 zq false 1 Q s fun R s =>
 zl 1 e s fun S s =>
 zt 1 S O s fun _ t =>
 zan Q s t ∧ (zl 3 e t fun U s =>
 zt 1 U R s fun _ s =>
 f s)) (zq true 5 e s fun W s =>
 zt 5 b W s fun _ s =>
 Z (zR (zbD b s true 5) (zR (some bF) (some []))) s))))))
 (fun  s => zq true 5 e s fun g s =>
 zt 5 b g s fun _ s =>
 Z (zR (zbD b s true 5) (zR (some bT) (some []))) s)
theorem e_op_only : F1 Try.prog zij S_op_only := zJ [.d [(0, 8)] [(5, [22])], .d [(0, 12)] [(7, [30, 32]), (9, [32])], .d [(0, 8)] [(5, [41])]] Try.func90
def zhj (P : Program) (x0 : AV) (σ : LO) (Z : ZT) : Prop :=
 zbO .sl x0 σ fun a s =>
 bP .gtr a (iN 64) s fun b s =>
 z1 Z b s
theorem e_op_Check_1 : F1 Try.prog zdP zhj := zJ [] Try.func91
def S_op_Same (P : Program) (x0 x1 : AV) (σ : LO) (Z : ZT) : Prop :=
 zdL x0 σ fun a s =>
 zdL x1 s fun b s =>
 fl 0 a s fun c s =>
 fl 0 b s fun d s =>
 bP .eql c d s fun e s =>
 gTl e 1 a s fun f s =>
 gTl e 1 b s fun g s =>
 gT e (bP .eql f g s) s fun h s =>
 anC e h s fun i s =>
 gTl i 2 a s fun j s =>
 gTl i 2 b s fun l s =>
 gT i (bP .eql j l s) s fun m s =>
 anC i m s fun n s =>
 gTl n 3 a s fun o s =>
 gTl n 3 b s fun p s =>
 gT n (bP .eql o p s) s fun q s =>
 anC n q s fun r s =>
 gTl r 4 a s fun u s =>
 gTl r 4 b s fun w s =>
 gT r (cA P zm [u, w, (.fn (.func zek) [] [])] s) s fun y s =>
 anC r y s fun z s =>
 z1 Z z s
theorem e_op_Same : F2 Try.prog zik S_op_Same := zJ [] Try.func92
def zal (P : Program) (x0 x1 : AV) (σ : LO) (Z : ZT) : Prop :=
 cA P zax [x0, x1] σ fun a s =>
 bP .geq a (iN 0) s fun b s =>
 z1 Z b s
theorem zbp : F2 Try.prog zI zal := zJ [] Try.func93
def zaP (P : Program) (x0 : AV) (σ : LO) (Z : ZT) : Prop :=
 zaG false x0 σ fun a s =>
 zac a (z1 Z eN s) (zp false 1 0 (zaC (rep [eN] 0) []) s fun b s =>
 zL 1 24 b x0 s fun c s =>
 z1 Z c s)
theorem zaM : F1 Try.prog zae zaP := zJ [] Try.func94
def zaZ (P : Program) (x0 x1 : AV) (σ : LO) (Z : ZT) : Prop :=
 zdL x0 σ fun a s =>
 zgz P x1 1 s (fun v s b c d e =>
 zeI v fun f v => s[b]? = some c ∧ ((fun s =>
 zq false 1 a s fun g s =>
 zp true 1 1 (zaC (rep [(.d (.str []))] 1) [(0, 1, f)]) s fun h s =>
 zes 1 16 g h s fun i s =>
 zt 1 a i s fun _ s =>
 s[b]? = some d ∧ e (s.set b c)) (s.set b d))) fun s =>
 zq false 1 a s fun l s =>
 z1 Z l s
theorem zaX : F2 Try.prog zar zaZ := zke [] Try.func97
def zjH (P : Program) (x0 : AV) (σ : LO) (Z : ZT) : Prop :=
 zaq x0 σ fun a s =>
 zeH [(iN 0)] s fun v s b =>
 zeI v fun c v => zgb a s fun d s =>
 zd d 0 s fun e s =>
 zac e (zd d 2 s fun f s =>
 bP .lss f (.d (.int .i32 33)) s fun g s =>
 gFm g f s fun h s =>
 gF g (bP .geq h (.d (.int .i32 127)) s) s fun i s =>
 gFm g i s fun j s =>
 gTm j f s fun l s =>
 gT j (bP .leq l (.d (.int .i32 159)) s) s fun m s =>
 gF g (anC j m s) s fun n s =>
 orC g n s fun o s =>
 gFm o f s fun p s =>
 gF o (bP .eql p (.d (.int .i32 47)) s) s fun q s =>
 orC o q s fun r s =>
 gFm r f s fun u s =>
 gF r (bP .eql u (.d (.int .i32 65533)) s) s fun w s =>
 orC r w s fun y s =>
 zac y (z1 Z (iN 0) s) (bP .add c (iN 1) s fun z s =>
 b [z] s)) (bP .gtr c (iN 16) s fun A s =>
 zac A (z1 Z (iN 0) s) (z1 Z c s))
theorem e_op_Runes : F1 Try.prog zgC zjH := zJ [.l [3] [(2, 1), (5, 1), (8, 23)]] Try.func102
def zF (P : Program) (x0 x1 x2 : AV) (σ : LO) (Z : ZT) : Prop :=
 zbO .sl x0 σ fun a s =>
 zbO .sl x1 s fun b s =>
 bP .neq a b s fun c s =>
 zac c (z1 Z bF s) (zbO .sl x0 s fun d s =>
 zeH [(iN 0)] s fun v s e =>
 zeI v fun f v => bP .lss f d s fun g s =>
 zac g (il false 1 1 x0 f s fun h s =>
 il false 1 1 x1 f s fun i s =>
 zaH P x2 [dm h, dm i] s fun j s =>
 unC .not j s fun l s =>
 zac l (z1 Z bF s) (bP .add f (iN 1) s fun m s =>
 e [m] s)) (z1 Z bT s))
theorem zao : F3 Try.prog zm zF := zJ [.l [17] [(6, 4), (18, 14)]] Try.func103
def ziU (P : Program) (x0 x1 : AV) (σ : LO) (Z : ZT) : Prop :=
 cA P zca [x0, x1] σ fun a s =>
 z1 Z a s
theorem e_op_Same_1 : F2 Try.prog zek ziU := zJ [] Try.func104
def zaz (P : Program) (x0 x1 : AV) (σ : LO) (Z : ZT) : Prop :=
 zbO .sl x0 σ fun a s =>
 zeH [(iN 0)] s fun v s b =>
 zeI v fun c v => bP .lss c a s fun d s =>
 zac d (il false 1 1 x0 c s fun e s =>
 zaH P x1 [dm e] s fun f s =>
 zac f (z1 Z c s) (bP .add c (iN 1) s fun g s =>
 b [g] s)) (z1 Z (iN (-1)) s)
theorem zbC : F2 Try.prog zax zaz := zJ [.l [8] [(4, 2), (9, 10)]] Try.func105
end Go.Proofs.Ytaocmalhjfakdaa
