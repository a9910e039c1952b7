/- The conditions of each function, its slots as variables, and that the logic's conditions are these. Printed by program. -/
import Derived.Test.YtpgahkdjkanblaaGreatNm
import Derived.KernelRfl
set_option linter.all false
set_option maxRecDepth 100000
set_option linter.unusedVariables false
namespace Go.Proofs.YtpgahkdjkanblaaGreat
open Go.AW
def ziT (P : Program) (x0 x1 : AV) (σ : LO) (Z : ZT) : Prop :=
 zaJ x0 σ fun a s =>
 zaJ x1 s fun b s =>
 fl 0 a s fun c s =>
 fl 0 b s fun d s =>
 bP .eql c d s fun e s =>
 gTl e 1 a s fun f s =>
 gTl e 1 b s fun g s =>
 gT e (bP .eql f g s) s fun h s =>
 anC e h s fun i s =>
 gTl i 2 a s fun j s =>
 gTl i 2 b s fun l s =>
 gT i (cA P zfa [j, l] s) s fun m s =>
 anC i m s fun n s =>
 gT n (zb 3 a s) s fun o s =>
 gT n (zg true 2 o s) s fun p s =>
 gT n (zb 3 b s) s fun q s =>
 gT n (zg true 2 q s) s fun r s =>
 gT n (zcv .eql (.ints 2) p r s) s fun u s =>
 anC n u s fun w s =>
 z1 Z w s
theorem ziF : F2 Tryz.prog zdM ziT := ze [] Tryz.func178 (by decide +kernel) (by kernel_rfl) fun {_ _ _ _ _} => cast (by kernel_rfl)
def zpN (P : Program) (x0 x1 : AV) (σ : LO) (Z : ZT) : Prop :=
 zai .toStr x0 σ fun a s =>
 zai .toStr x1 s fun b s =>
 bP .eql a b s fun c s =>
 z1 Z c s
theorem zpm : F2 Tryz.prog zfT zpN := ze [] Tryz.func179 (by decide +kernel) (by kernel_rfl) fun {_ _ _ _ _} => cast (by kernel_rfl)
def ziS (P : Program) (x0 x1 : AV) (σ : LO) (Z : ZT) : Prop :=
 zaJ x0 σ fun a s =>
 zaJ x1 s fun b s =>
 fl 0 a s fun c s =>
 fl 0 b s fun d s =>
 bP .eql c d s fun e s =>
 gTl e 1 a s fun f s =>
 gTl e 1 b s fun g s =>
 gT e (bP .eql f g s) s fun h s =>
 anC e h s fun i s =>
 gTl i 2 a s fun j s =>
 gTl i 2 b s fun l s =>
 gT i (cA P zfT [j, l] s) s fun m s =>
 anC i m s fun n s =>
 gTl n 3 a s fun o s =>
 gTl n 3 b s fun p s =>
 gT n (cA P zbM [o, p] s) s fun q s =>
 anC n q s fun r s =>
 gTl r 4 a s fun u s =>
 gTl r 4 b s fun w s =>
 gT r (bP .eql u w s) s fun y s =>
 anC r y s fun z s =>
 gTl z 5 a s fun A s =>
 gTl z 5 b s fun B s =>
 gT z (bP .eql A B s) s fun C s =>
 anC z C s fun D s =>
 gTl D 6 a s fun E s =>
 gTl D 6 b s fun F s =>
 gT D (cA P zbN [E, F] s) s fun G s =>
 anC D G s fun H s =>
 gT H (zb 7 a s) s fun I s =>
 gT H (zg true 3 I s) s fun J s =>
 gT H (zb 7 b s) s fun K s =>
 gT H (zg true 3 K s) s fun L s =>
 gT H (cA P zdf [J, L] s) s fun M s =>
 anC H M s fun N s =>
 z1 Z N s
theorem ziE : F2 Tryz.prog zfs ziS := ze [] Tryz.func180 (by decide +kernel) (by kernel_rfl) fun {_ _ _ _ _} => cast (by kernel_rfl)
def zaT (P : Program) (x0 x1 x2 : AV) (σ : LO) (Z : ZT) : Prop :=
 zal .sl x0 σ fun a s =>
 zal .sl x1 s fun b s =>
 bP .neq a b s fun c s =>
 zh c (z1 Z bF s) (zal .sl x0 s fun d s =>
 zbd [(iN 0)] s fun v s e =>
 zaC v fun f v => bP .lss f d s fun g s =>
 zh g (il false 1 1 x0 f s fun h s =>
 il false 1 1 x1 f s fun i s =>
 zak P x2 [dm h, dm i] s fun j s =>
 unC .not j s fun l s =>
 zh l (z1 Z bF s) (bP .add f (iN 1) s fun m s =>
 e [m] s)) (z1 Z bT s))
theorem zaR : F3 Tryz.prog zaq zaT := ze [.l [17] [(6, 4), (18, 14)]] Tryz.func181 (by decide +kernel) (by kernel_rfl) fun {_ _ _ _ _ _} => cast (by kernel_rfl)
def ztL (P : Program) (x0 x1 : AV) (σ : LO) (Z : ZT) : Prop :=
 cA P zfT [x0, x1] σ fun a s =>
 z1 Z a s
theorem zsV : F2 Tryz.prog zkS ztL := ze [] Tryz.func182 (by decide +kernel) (by kernel_rfl) fun {_ _ _ _ _} => cast (by kernel_rfl)
def zvD (P : Program) (x0 : AV) (σ : LO) (Z : ZT) : Prop :=
 zaJ x0 σ fun a s =>
 zg true 5 a s fun b s =>
 cA P zsp [b] s fun c s =>
 zd c 0 s fun d s =>
 zd c 1 s fun e s =>
 cp [iN 0, (.d (.str [])), (.d (.str [])), iN 0, eN] 5 d s fun f s =>
 unC .not e s fun g s =>
 gF g (zg true 5 a s) s fun h s =>
 gF g (zg true 5 f s) s fun i s =>
 gF g (cA P zoR [h, i] s) s fun j s =>
 gF g (unC .not j s) s fun l s =>
 orC g l s fun m s =>
 zh m (z1 Z (iN 60) s) (fl 0 a s fun n s =>
 bP .neq n (iN 0) s fun o s =>
 gTl o 1 a s fun p s =>
 gT o (cA P zoS [p] s) s fun q s =>
 gT o (unC .not q s) s fun r s =>
 anC o r s fun u s =>
 zh u (z1 Z (iN 61) s) (fl 0 a s fun w s =>
 bP .eql w (iN 3) s fun y s =>
 gTl y 2 a s fun z s =>
 gT y (cA P zoS [z] s) s fun A s =>
 gT y (unC .not A s) s fun B s =>
 anC y B s fun C s =>
 zh C (z1 Z (iN 61) s) (fl 0 a s fun D s =>
 bP .eql D (iN 2) s fun E s =>
 gTl E 4 a s fun F s =>
 gT E (zal .sl F s) s fun G s =>
 gT E (bP .lss G (iN 1) s) s fun H s =>
 gTm E H s fun I s =>
 gFl I 4 a s fun J s =>
 gF I (zal .sl J s) s fun K s =>
 gF I (bP .gtr K (iN 4) s) s fun L s =>
 gT E (orC I L s) s fun M s =>
 gTm E M s fun N s =>
 gFl N 4 a s fun O s =>
 gFm N (.fn (.func zjh) [] []) s fun Q s =>
 gF N (cA P zbe [O, Q] s) s fun R s =>
 gT E (orC N R s) s fun S s =>
 anC E S s fun T s =>
 zh T (z1 Z (iN 62) s) (fl 3 a s fun U s =>
 bP .lss U (iN 0) s fun V s =>
 gFl V 3 a s fun W s =>
 gF V (bP .gtr W (iN 9007199254740992) s) s fun X s =>
 orC V X s fun Y s =>
 zh Y (z1 Z (iN 60) s) (z1 Z (iN 0) s)))))
theorem zuW : F1 Tryz.prog znh zvD := ze [] Tryz.func183 (by decide +kernel) (by kernel_rfl) fun {_ _ _ _} => cast (by kernel_rfl)
def zmL (P : Program) (x0 : AV) (σ : LO) (Z : ZT) : Prop :=
 zaJ x0 σ fun a s =>
 zg true 7 a s fun b s =>
 cA P zfK [b] s fun c s =>
 bP .neq c (iN 0) s fun d s =>
 zh d (z2 Z eN c s) (fl 0 a s fun e s =>
 zai (.int .u64) e s fun f s =>
 zb 1 a s fun g s =>
 zg false 1 g s fun h s =>
 zai (.int .u64) h s fun i s =>
 zb 2 a s fun j s =>
 zg true 5 j s fun l s =>
 cA P zaZ [eN, f] s fun m t =>
 zw g s t ∧ (zw j s t ∧ (cA P zaZ [m, i] t fun n s =>
 zw j t s ∧ (cA P zvW [n, l] s fun o s =>
 z2 Z o (iN 0) s))))
theorem zmr : F1 Tryz.prog zfL zmL := ze [.d [(0, 3), (4, 3), (8, 2), (3, 1), (7, 1), (10, 3)] [(3, [14, 18]), (7, [18])]] Tryz.func184 (by decide +kernel) (by kernel_rfl) fun {_ _ _ _} => cast (by kernel_rfl)
def zgU (P : Program) (x0 x1 : AV) (σ : LO) (Z : ZT) : Prop :=
 zaJ x1 σ fun a s =>
 zg true 2 a s fun b s =>
 cA P zbF [b] s fun c s =>
 bP .neq c (iN 0) s fun d s =>
 zh d (cA P zdP [x0] s fun e s =>
 z1 Z e s) (fl 0 a s fun f s =>
 zai (.int .u64) f s fun g s =>
 zb 1 a s fun h s =>
 zg false 1 h s fun i s =>
 zai (.int .u64) i s fun j s =>
 cA P zaZ [x0, g] s fun l t =>
 zw h s t ∧ (cA P zaZ [l, j] t fun m s =>
 z1 Z m s))
theorem zeN : F2 Tryz.prog zdx zgU := ze [.d [(0, 4), (5, 3), (4, 1), (8, 2)] [(4, [15])]] Tryz.func185 (by decide +kernel) (by kernel_rfl) fun {_ _ _ _ _} => cast (by kernel_rfl)
def zlN (P : Program) (x0 x1 : AV) (σ : LO) (Z : ZT) : Prop :=
 zal .sl x1 σ fun a s =>
 zai (.int .u64) a s fun b s =>
 cA P zaZ [x0, b] s fun c s =>
 zG 1 1 c x1 s fun d s =>
 z1 Z d s
theorem zlv : F2 Tryz.prog zda zlN := ze [] Tryz.func186 (by decide +kernel) (by kernel_rfl) fun {_ _ _ _ _} => cast (by kernel_rfl)
def ztB (P : Program) (x0 : AV) (σ : LO) (Z : ZT) : Prop :=
 zbd [(iN 0)] σ fun v s a =>
 zaC v fun b v => zal .sl x0 s fun c s =>
 bP .lss b c s fun d s =>
 zh d (il false 1 1 x0 b s fun e s =>
 bP .neq e (iN 0) s fun f s =>
 zh f (il false 1 1 x0 b s fun g s =>
 z1 Z g s) (bP .add b (iN 1) s fun h s =>
 a [h] s)) (z1 Z (iN 0) s)
theorem zsL : F1 Tryz.prog zcD ztB := ze [.l [3] [(2, 1), (4, 15)]] Tryz.func188 (by decide +kernel) (by kernel_rfl) fun {_ _ _ _} => cast (by kernel_rfl)
def zrs (P : Program) (x0 : AV) (σ : LO) (Z : ZT) : Prop :=
 cA P zid [x0, (iN 0), (iN 12)] σ fun a s =>
 z1 Z a s
theorem zrh : F1 Tryz.prog zdI zrs := ze [] Tryz.func189 (by decide +kernel) (by kernel_rfl) fun {_ _ _ _} => cast (by kernel_rfl)
def S_r10_num (P : Program) (x0 : AV) (σ : LO) (Z : ZT) : Prop :=
 cA P zid [x0, (iN 0), (iN 9007199254740992)] σ fun a s =>
 z1 Z a s
theorem e_r10_num : F1 Tryz.prog zfb S_r10_num := ze [] Tryz.func190 (by decide +kernel) (by kernel_rfl) fun {_ _ _ _} => cast (by kernel_rfl)
def S_r10_in (P : Program) (x0 x1 x2 : AV) (σ : LO) (Z : ZT) : Prop :=
 bP .lss x0 x1 σ fun a s =>
 gFm a x0 s fun b s =>
 gFm a x2 s fun c s =>
 gF a (bP .gtr b c s) s fun d s =>
 orC a d s fun e s =>
 zh e (z1 Z (iN 100) s) (z1 Z (iN 0) s)
theorem e_r10_in : F3 Tryz.prog zid S_r10_in := ze [] Tryz.func191 (by decide +kernel) (by kernel_rfl) fun {_ _ _ _ _ _} => cast (by kernel_rfl)
def S_r10_pos (P : Program) (x0 : AV) (σ : LO) (Z : ZT) : Prop :=
 cA P zid [x0, (iN 1), (iN 9007199254740992)] σ fun a s =>
 z1 Z a s
theorem e_r10_pos : F1 Tryz.prog ziq S_r10_pos := ze [] Tryz.func192 (by decide +kernel) (by kernel_rfl) fun {_ _ _ _} => cast (by kernel_rfl)
def zkx (P : Program) (x0 : AV) (σ : LO) (Z : ZT) : Prop :=
 zaJ x0 σ fun a s =>
 zg true 8 a s fun b s =>
 zb 6 a s fun c s =>
 zg true 2 c s fun d s =>
 cA P zir [b] s fun e t =>
 zw c s t ∧ (cA P zcr [d] t fun f s =>
 zj false 1 2 (zO (rep [iN 0] 2) [(0, 1, e), (1, 1, f)]) s fun g s =>
 cA P zcD [g] s fun h s =>
 z1 Z h s)
theorem zki : F1 Tryz.prog zgI zkx := ze [.d [(0, 1), (2, 2), (1, 1), (4, 4)] [(1, [5])]] Tryz.func193 (by decide +kernel) (by kernel_rfl) fun {_ _ _ _} => cast (by kernel_rfl)
def zmR (P : Program) (x0 : AV) (σ : LO) (Z : ZT) : Prop :=
 zaJ x0 σ fun a s =>
 fl 0 a s fun b s =>
 zb 1 a s fun c s =>
 zg false 1 c s fun d s =>
 cA P zfb [b] s fun e t =>
 zw c s t ∧ (cA P zfb [d] t fun f s =>
 zj false 1 2 (zO (rep [iN 0] 2) [(0, 1, e), (1, 1, f)]) s fun g s =>
 cA P zcD [g] s fun h s =>
 bP .neq h (iN 0) s fun i s =>
 zh i (z1 Z h s) (fl 0 a s fun j s =>
 bP .eql j (iN 0) s fun l s =>
 gTl l 1 a s fun m s =>
 gT l (bP .neq m (iN 0) s) s fun n s =>
 gTm l n s fun o s =>
 gFl o 2 a s fun p s =>
 gF o (zal .sl p s) s fun q s =>
 gF o (bP .gtr q (iN 0) s) s fun r s =>
 gT l (orC o r s) s fun u s =>
 anC l u s fun w s =>
 gFl w 0 a s fun y s =>
 gF w (bP .gtr y (iN 0) s) s fun z s =>
 gFm w z s fun A s =>
 gTl A 1 a s fun B s =>
 gT A (bP .eql B (iN 0) s) s fun C s =>
 gF w (anC A C s) s fun D s =>
 orC w D s fun E s =>
 zh E (z1 Z (iN 100) s) (fl 2 a s fun F s =>
 cA P zio [F] s fun G s =>
 z1 Z G s)))
theorem zmx : F1 Tryz.prog zfO zmR := ze [.d [(0, 2), (3, 2), (2, 1), (5, 4)] [(2, [7])]] Tryz.func195 (by decide +kernel) (by kernel_rfl) fun {_ _ _ _} => cast (by kernel_rfl)
def S_r08_Key (P : Program) (x0 : AV) (σ : LO) (Z : ZT) : Prop :=
 bP .lss x0 (iN 0) σ fun a s =>
 gFm a x0 s fun b s =>
 gF a (bP .geq b (iN 8) s) s fun c s =>
 orC a c s fun d s =>
 zh d (z1 Z (iN (-1)) s) (bP .add (iN 13) x0 s fun e s =>
 z1 Z e s)
theorem e_r08_Key : F1 Tryz.prog zmh S_r08_Key := ze [] Tryz.func198 (by decide +kernel) (by kernel_rfl) fun {_ _ _ _} => cast (by kernel_rfl)
def ztJ (P : Program) (x0 : AV) (σ : LO) (Z : ZT) : Prop :=
 zaJ x0 σ fun a s =>
 fl 0 a s fun b s =>
 cA P zjf [b] s fun c s =>
 zd c 0 s fun d s =>
 zd c 1 s fun e s =>
 zd c 2 s fun f s =>
 zd c 3 s fun g s =>
 fl 0 a s fun h s =>
 bP .lss h (iN 0) s fun i s =>
 gFl i 0 a s fun j s =>
 gF i (bP .gtr j (iN 4) s) s fun l s =>
 orC i l s fun m s =>
 gFm m d s fun n s =>
 gF m (unC .not n s) s fun o s =>
 gFm m o s fun p s =>
 gTl p 1 a s fun q s =>
 gT p (bP .neq q (.d (.str [])) s) s fun r s =>
 gF m (anC p r s) s fun u s =>
 orC m u s fun w s =>
 gFm w e s fun y s =>
 gF w (unC .not y s) s fun z s =>
 gFm w z s fun A s =>
 gTl A 2 a s fun B s =>
 gT A (bP .neq B (.d (.str [])) s) s fun C s =>
 gF w (anC A C s) s fun D s =>
 orC w D s fun E s =>
 gFm E f s fun F s =>
 gF E (unC .not F s) s fun G s =>
 gFm E G s fun H s =>
 gTl H 3 a s fun I s =>
 gT H (bP .neq I (iN 0) s) s fun J s =>
 gF E (anC H J s) s fun K s =>
 orC E K s fun L s =>
 gFm L g s fun M s =>
 gF L (unC .not M s) s fun N s =>
 gFm L N s fun O s =>
 gTl O 4 a s fun Q s =>
 gT O (zal .sl Q s) s fun R s =>
 gT O (bP .gtr R (iN 0) s) s fun S s =>
 gF L (anC O S s) s fun T s =>
 orC L T s fun U s =>
 zh U (z1 Z (iN 60) s) (gTl d 1 a s fun V s =>
 gT d (cA P zng [V] s) s fun W s =>
 gT d (unC .not W s) s fun X s =>
 anC d X s fun Y s =>
 gFm Y e s fun a0 s =>
 gFm Y a0 s fun b0 s =>
 gTl b0 2 a s fun c0 s =>
 gT b0 (cA P zng [c0] s) s fun d0 s =>
 gT b0 (unC .not d0 s) s fun e0 s =>
 gF Y (anC b0 e0 s) s fun f0 s =>
 orC Y f0 s fun g0 s =>
 zh g0 (z1 Z (iN 61) s) (gTl g 4 a s fun h0 s =>
 gT g (zal .sl h0 s) s fun i0 s =>
 gT g (bP .lss i0 (iN 1) s) s fun j0 s =>
 gTm g j0 s fun l0 s =>
 gFl l0 4 a s fun m0 s =>
 gF l0 (zal .sl m0 s) s fun o0 s =>
 gF l0 (bP .gtr o0 (iN 4) s) s fun p0 s =>
 gT g (orC l0 p0 s) s fun q0 s =>
 anC g q0 s fun r0 s =>
 zh r0 (z1 Z (iN 62) s) (zbd [(iN 0)] s fun v s u0 =>
 zaC v fun w0 v => fl 4 a s fun y0 s =>
 zal .sl y0 s fun z0 s =>
 bP .lss w0 z0 s fun A0 s =>
 zh A0 (fl 4 a s fun B0 s =>
 il false 1 1 B0 w0 s fun C0 s =>
 zal .sl C0 s fun D0 s =>
 bP .gtr D0 (iN 64) s fun E0 s =>
 zh E0 (z1 Z (iN 62) s) (bP .add w0 (iN 1) s fun F0 s =>
 u0 [F0] s)) (fl 3 a s fun G0 s =>
 bP .lss G0 (iN 0) s fun H0 s =>
 gFl H0 3 a s fun I0 s =>
 gF H0 (bP .gtr I0 (iN 9007199254740992) s) s fun J0 s =>
 orC H0 J0 s fun K0 s =>
 zh K0 (z1 Z (iN 60) s) (z1 Z (iN 0) s)))))
theorem zsT : F1 Tryz.prog zkP ztJ := ze [.l [7] [(2, 1), (90, 14)]] Tryz.func199 (by decide +kernel) (by kernel_rfl) fun {_ _ _ _} => cast (by kernel_rfl)
def S_r06_Put (P : Program) (x0 x1 : AV) (σ : LO) (Z : ZT) : Prop :=
 zaJ x1 σ fun a s =>
 zg true 5 a s fun b s =>
 cA P zkP [b] s fun c s =>
 bP .neq c (iN 0) s fun d s =>
 zh d (z1 Z x0 s) (fl 0 a s fun e s =>
 cA P zjf [e] s fun f s =>
 zd f 0 s fun g s =>
 zd f 1 s fun h s =>
 zd f 2 s fun i s =>
 zd f 3 s fun j s =>
 fl 0 a s fun l s =>
 zai (.int .u64) l s fun m s =>
 cA P zbS [x0, m] s fun n s =>
 (fun (o : AV → LO → Prop) => zh g (fl 1 a s fun V s =>
 zai .toBytes V s fun W s =>
 cA P zcK [n, W] s fun X s =>
 o X s) (o n s))
 (fun p s => (fun (q : AV → LO → Prop) => zh h (fl 2 a s fun S s =>
 zai .toBytes S s fun T s =>
 cA P zcK [p, T] s fun U s =>
 q U s) (q p s))
 (fun r s => (fun (u : AV → LO → Prop) => zh i (fl 3 a s fun O s =>
 zai (.int .u64) O s fun Q s =>
 cA P zbS [r, Q] s fun R s =>
 u R s) (u r s))
 (fun w s => (fun (y : AV → LO → Prop) => zh j (fl 4 a s fun A s =>
 zal .sl A s fun B s =>
 zai (.int .u64) B s fun C s =>
 cA P zbS [w, C] s fun D s =>
 zbd [D, (iN 0)] s fun v s E =>
 zaC v fun F v => zaC v fun G v => fl 4 a s fun H s =>
 zal .sl H s fun I s =>
 bP .lss G I s fun J s =>
 zh J (fl 4 a s fun K s =>
 il false 1 1 K G s fun L s =>
 cA P zcK [F, L] s fun M s =>
 bP .add G (iN 1) s fun N s =>
 E [M, N] s) (y F s)) (y w s))
 (fun z s => z1 Z z s)))))
theorem e_r06_Put : F2 Tryz.prog zso S_r06_Put := ze [.l [0, 9] [(52, 14)]] Tryz.func200 (by decide +kernel) (by kernel_rfl) fun {_ _ _ _ _} => cast (by kernel_rfl)
def zce (P : Program) (x0 x1 : AV) (σ : LO) (Z : ZT) : Prop :=
 cA P zbE [x0, x1] σ fun a s =>
 bP .geq a (iN 0) s fun b s =>
 z1 Z b s
theorem zcd : F2 Tryz.prog zbg zce := ze [] Tryz.func201 (by decide +kernel) (by kernel_rfl) fun {_ _ _ _ _} => cast (by kernel_rfl)
def zgu (P : Program) (x0 x1 x2 : AV) (σ : LO) (Z : ZT) : Prop :=
 zaJ x0 σ fun a s =>
 zg false 1 x1 s fun b s =>
 zg false 1 x2 s fun c s =>
 zg true 9 a s fun d s =>
 cA P zim [b, c, d] s fun e s =>
 unC .not e s fun f s =>
 z1 Z f s
theorem zgk : F3 Tryz.prog zgh zgu := ze [] Tryz.func202 (by decide +kernel) (by kernel_rfl) fun {_ _ _ _ _ _} => cast (by kernel_rfl)
def zmI (P : Program) (x0 x1 x2 : AV) (σ : LO) (Z : ZT) : Prop :=
 zaJ x2 σ fun a s =>
 zb 0 a s fun b s =>
 zg true 7 b s fun c s =>
 cA P zfL [c] s fun d s =>
 zd d 0 s fun e s =>
 zd d 1 s fun f s =>
 bP .neq f (iN 0) s fun g s =>
 zh g (z1 Z bF s) (cA P zcA [x0, e] s fun h s =>
 zd h 0 s fun i s =>
 zd h 1 s fun j s =>
 gT j (zb 7 a s) s fun l s =>
 gT j (zg true 2 l s) s fun m s =>
 gT j (zb 0 a s) s fun n s =>
 gTl j 0 n s fun o s =>
 gTm j i s fun p s =>
 gT j (cA P zkI [o] s) s fun q t =>
 zw l s t ∧ (gT j (zF (zO [iN 0, iN 0] [(0, 1, q), (1, 1, p)]) t) t fun r s =>
 gT j (zcv .eql (.ints 2) m r s) s fun u s =>
 anC j u s fun w s =>
 gTm w x1 s fun y s =>
 gT w (zb 7 a s) s fun z s =>
 gT w (zg true 2 z s) s fun A s =>
 gT w (cA P zdg [y, A] s) s fun B s =>
 anC w B s fun C s =>
 z1 Z C s))
theorem zmo : F3 Tryz.prog zim zmI := ze [.d [(0, 7), (8, 1), (7, 1), (9, 10)] [(7, [27])]] Tryz.func203 (by decide +kernel) (by kernel_rfl) fun {_ _ _ _ _ _} => cast (by kernel_rfl)
def ztE (P : Program) (x0 x1 x2 : AV) (σ : LO) (Z : ZT) : Prop :=
 zaJ x2 σ fun a s =>
 zb 0 a s fun b s =>
 zg true 7 b s fun c s =>
 cA P zkO [c] s fun d s =>
 zd d 0 s fun e s =>
 zd d 1 s fun f s =>
 bP .neq f (iN 0) s fun g s =>
 gF g (zb 7 a s) s fun h s =>
 gF g (zb 0 h s) s fun i s =>
 gF g (zg false 1 i s) s fun j s =>
 gF g (zb 0 a s) s fun l s =>
 gFl g 0 l s fun m s =>
 gF g (cA P zmh [m] s) s fun n t =>
 zw i s t ∧ (gF g (bP .neq j n t) t fun o s =>
 orC g o s fun p s =>
 zh p (z1 Z bF s) (cA P zcF [x0, e] s fun q s =>
 zd q 0 s fun r s =>
 zd q 1 s fun u s =>
 gTm u r s fun w s =>
 gT u (zb 7 a s) s fun y s =>
 gTl u 1 y s fun z s =>
 gT u (bP .eql w z s) s fun A s =>
 anC u A s fun B s =>
 gTm B x1 s fun C s =>
 gT B (zb 7 a s) s fun D s =>
 gT B (zg true 2 D s) s fun E s =>
 gT B (cA P zcS [C, E] s) s fun F s =>
 anC B F s fun G s =>
 z1 Z G s))
theorem zsO : F3 Tryz.prog zoj ztE := ze [.d [(0, 12)] [(9, [21])]] Tryz.func204 (by decide +kernel) (by kernel_rfl) fun {_ _ _ _ _ _} => cast (by kernel_rfl)
def zfg (P : Program) (x0 x1 : AV) (σ : LO) (Z : ZT) : Prop :=
 cA P zeg [x0, x1] σ fun a s =>
 bP .geq a (iN 0) s fun b s =>
 z1 Z b s
theorem zfd : F2 Tryz.prog zdl zfg := ze [] Tryz.func205 (by decide +kernel) (by kernel_rfl) fun {_ _ _ _ _} => cast (by kernel_rfl)
def zhq (P : Program) (x0 x1 : AV) (σ : LO) (Z : ZT) : Prop :=
 zaJ x1 σ fun a s =>
 zbP x0 s fun b s =>
 zb 0 b s fun c s =>
 fl 0 c s fun d s =>
 zg true 2 a s fun e s =>
 cA P zdx [d, e] s fun f s =>
 zbP x0 s fun g s =>
 zb 0 g s fun h s =>
 zb 0 h s fun i s =>
 zn 1 i f s fun _ s =>
 Z (some []) s
theorem zhk : F2 Tryz.prog zbc zhq := ze [.d [(0, 12)] []] Tryz.func206 (by decide +kernel) (by kernel_rfl) fun {_ _ _ _ _} => cast (by kernel_rfl)
def zgx (P : Program) (x0 : AV) (σ : LO) (Z : ZT) : Prop :=
 zbP x0 σ fun a s =>
 zb 0 a s fun b s =>
 fl 0 b s fun c s =>
 zal .sl c s fun d s =>
 bP .gtr d (iN 262144) s fun e s =>
 zh e (z2 Z eN (iN 3) s) (zbP x0 s fun f s =>
 zb 0 f s fun g s =>
 fl 0 g s fun h s =>
 z2 Z h (iN 0) s)
theorem zgn : F1 Tryz.prog zei zgx := ze [] Tryz.func207 (by decide +kernel) (by kernel_rfl) fun {_ _ _ _} => cast (by kernel_rfl)
def zjD (P : Program) (x0 x1 : AV) (σ : LO) (Z : ZT) : Prop :=
 zal .sl x1 σ fun a s =>
 zbd [(iN 0)] s fun v s b =>
 zaC v fun c v => bP .lss c a s fun d s =>
 zh d (il false 1 1 x1 c s fun e s =>
 nfl 0 x0 s fun f s =>
 zai (.int .u64) e s fun g s =>
 cA P zaZ [f, g] s fun h s =>
 zbP x0 s fun i s =>
 zb 0 i s fun j s =>
 zn 1 j h s fun _ s =>
 bP .add c (iN 1) s fun m s =>
 b [m] s) (Z (some []) s)
theorem zjo : F2 Tryz.prog zab zjD := ze [.l [8] [(5, 1), (9, 14)]] Tryz.func208 (by decide +kernel) (by kernel_rfl) fun {_ _ _ _ _} => cast (by kernel_rfl)
def zgy (P : Program) (x0 x1 : AV) (σ : LO) (Z : ZT) : Prop :=
 zbP x0 σ fun a s =>
 zb 0 a s fun b s =>
 fl 0 b s fun c s =>
 cA P zdd [c, x1] s fun d s =>
 zbP x0 s fun e s =>
 zb 0 e s fun f s =>
 zb 0 f s fun g s =>
 zn 1 g d s fun _ s =>
 Z (some []) s
theorem zgo : F2 Tryz.prog zbl zgy := ze [] Tryz.func209 (by decide +kernel) (by kernel_rfl) fun {_ _ _ _ _} => cast (by kernel_rfl)
def zhs (P : Program) (x0 x1 : AV) (σ : LO) (Z : ZT) : Prop :=
 zaJ x1 σ fun a s =>
 zbP x0 s fun b s =>
 zb 0 b s fun c s =>
 fl 0 a s fun d s =>
 fl 1 a s fun e s =>
 zj false 1 2 (zO (rep [iN 0] 2) [(0, 1, d), (1, 1, e)]) s fun f s =>
 cA P zab [c, f] s fun _ s =>
 zb 2 a s fun h s =>
 zg true 3 h s fun i s =>
 cA P zcs [x0, i] s fun _ s =>
 zbP x0 s fun l s =>
 zb 0 l s fun m s =>
 fl 5 a s fun n s =>
 zal .sl n s fun o s =>
 cA P zbQ [m, o] s fun _ s =>
 fl 5 a s fun q s =>
 zal .sl q s fun r s =>
 zbd [(iN 0)] s fun v s u =>
 zaC v fun w v => bP .lss w r s fun y s =>
 zh y (il true 7 7 q w s fun z s =>
 cp [iN 0, iN 0, iN 0, iN 0, iN 0, eN, eN] 7 z s fun A s =>
 zbP x0 s fun B s =>
 zb 0 B s fun C s =>
 fl 0 A s fun D s =>
 fl 1 A s fun E s =>
 fl 2 A s fun F s =>
 zj false 1 3 (zO (rep [iN 0] 3) [(0, 1, D), (1, 1, E), (2, 1, F)]) s fun G s =>
 cA P zab [C, G] s fun _ s =>
 zb 3 A s fun I s =>
 zg true 2 I s fun J s =>
 cA P zbc [x0, J] s fun _ s =>
 fl 5 A s fun L s =>
 cA P zci [x0, L] s fun _ s =>
 fl 6 A s fun N s =>
 cA P zbl [x0, N] s fun _ s =>
 bP .add w (iN 1) s fun Q s =>
 u [Q] s) (Z (some []) s)
theorem zhm : F2 Tryz.prog zeF zhs := ze [.d [(0, 9)] [], .d [(0, 7)] [], .l [29] [(5, 1), (30, 27)], .d [(0, 11)] []] Tryz.func211 (by decide +kernel) (by kernel_rfl) fun {_ _ _ _ _} => cast (by kernel_rfl)
def ziR (P : Program) (x0 x1 : AV) (σ : LO) (Z : ZT) : Prop :=
 m1 1 [iN 0] x1 σ fun a s =>
 cA P zab [x0, a] s fun _ s =>
 Z (some []) s
theorem ziD : F2 Tryz.prog zbQ ziR := ze [] Tryz.func212 (by decide +kernel) (by kernel_rfl) fun {_ _ _ _ _} => cast (by kernel_rfl)
def zhr (P : Program) (x0 x1 : AV) (σ : LO) (Z : ZT) : Prop :=
 zaJ x1 σ fun a s =>
 zbP x0 s fun b s =>
 zb 0 b s fun c s =>
 fl 0 a s fun d s =>
 fl 1 a s fun e s =>
 zj false 1 2 (zO (rep [iN 0] 2) [(0, 1, d), (1, 1, e)]) s fun f s =>
 cA P zab [c, f] s fun _ s =>
 fl 2 a s fun h s =>
 cA P zci [x0, h] s fun _ s =>
 Z (some []) s
theorem zhl : F2 Tryz.prog zcs zhr := ze [.d [(0, 9)] []] Tryz.func214 (by decide +kernel) (by kernel_rfl) fun {_ _ _ _ _} => cast (by kernel_rfl)
def zry (P : Program) (x0 : AV) (σ : LO) (Z : ZT) : Prop :=
 zW [(.d (.int .u8 0)), (.d (.int .u8 0)), (.d (.int .u8 0)), (.d (.int .u8 0)), (.d (.int .u8 0)), (.d (.int .u8 0)), (.d (.int .u8 0)), (.d (.int .u8 0)), (.d (.int .u8 0)), (.d (.int .u8 0))] σ fun a s =>
 zW [(.d (.int .u8 0)), (.d (.int .u8 0)), (.d (.int .u8 0)), (.d (.int .u8 0)), (.d (.int .u8 0)), (.d (.int .u8 0)), (.d (.int .u8 0)), (.d (.int .u8 0)), (.d (.int .u8 0)), (.d (.int .u8 0))] s fun b s =>
 zbd [x0, (iN 0)] s fun v s c =>
 zaC v fun d v => zaC v fun e v => bP .gtr d (.d (.int .u64 127)) s fun f s =>
 zh f (zai (.int .u8) d s fun g s =>
 bP .or g (.d (.int .u8 128)) s fun h s =>
 zD (some 10) 1 b e s fun i s =>
 zn 1 i h s fun _ s =>
 bP .shr d (.d (.int .u64 7)) s fun l s =>
 bP .add e (iN 1) s fun m s =>
 c [l, m] s) (zai (.int .u8) d s fun n s =>
 zD (some 10) 1 b e s fun o s =>
 zn 1 o n s fun _ s =>
 zg true 10 b s fun q s =>
 bP .add e (iN 1) s fun r s =>
 zn 10 a q s fun _ s =>
 Z (zR (zaF a s true 10) (zR (some r) (some []))) s)
theorem zrn : F1 Tryz.prog zmk zry := ze [.l [0, 5] [(6, 11)]] Tryz.func217 (by decide +kernel) (by kernel_rfl) fun {_ _ _ _} => cast (by kernel_rfl)
def zfZ (P : Program) (x0 : AV) (σ : LO) (Z : ZT) : Prop :=
 zal .sl x0 σ fun a s =>
 zal .sl x0 s fun b s =>
 zcX (.sl 1) x0 none (some a) (some b) s fun c s =>
 z1 Z c s
theorem zfX : F1 Tryz.prog zdK zfZ := ze [] Tryz.func218 (by decide +kernel) (by kernel_rfl) fun {_ _ _ _} => cast (by kernel_rfl)
def ztz (P : Program) (x0 x1 : AV) (σ : LO) (Z : ZT) : Prop :=
 bP .neq x1 (iN 0) σ fun a s =>
 zh a (z2 Z eN x1 s) (zal .sl x0 s fun b s =>
 bP .gtr b (iN 262144) s fun c s =>
 zh c (z2 Z eN (iN 3) s) (z2 Z x0 (iN 0) s))
theorem zsJ : F2 Tryz.prog zog ztz := ze [] Tryz.func221 (by decide +kernel) (by kernel_rfl) fun {_ _ _ _ _} => cast (by kernel_rfl)
def S_r10_put (P : Program) (x0 x1 : AV) (σ : LO) (Z : ZT) : Prop :=
 zbd [x0, (iN 0)] σ fun v s a =>
 zaC v fun b v => zaC v fun c v => zal .sl x1 s fun d s =>
 bP .lss c d s fun e s =>
 zh e (il false 1 1 x1 c s fun f s =>
 zai (.int .u64) f s fun g s =>
 cA P zbS [b, g] s fun h s =>
 bP .add c (iN 1) s fun i s =>
 a [h, i] s) (z1 Z b s)
theorem e_r10_put : F2 Tryz.prog zbR S_r10_put := ze [.l [0, 5] [(6, 13)]] Tryz.func222 (by decide +kernel) (by kernel_rfl) fun {_ _ _ _ _} => cast (by kernel_rfl)
def zpI (P : Program) (x0 x1 : AV) (σ : LO) (Z : ZT) : Prop :=
 zaJ x1 σ fun a s =>
 fl 0 a s fun b s =>
 fl 1 a s fun c s =>
 zj false 1 2 (zO (rep [iN 0] 2) [(0, 1, b), (1, 1, c)]) s fun d s =>
 zb 2 a s fun e s =>
 zg true 3 e s fun f s =>
 cA P zbR [x0, d] s fun g t =>
 zw e s t ∧ (cA P zic [g, f] t fun h s =>
 fl 5 a s fun i s =>
 zal .sl i s fun j s =>
 m1 1 [iN 0] j s fun l s =>
 cA P zbR [h, l] s fun m s =>
 zbd [m, (iN 0)] s fun v s n =>
 zaC v fun o v => zaC v fun p v => fl 5 a s fun q s =>
 zal .sl q s fun r s =>
 bP .lss p r s fun u s =>
 zh u (fl 5 a s fun w s =>
 il true 7 7 w p s fun y s =>
 cp [iN 0, iN 0, iN 0, iN 0, iN 0, eN, eN] 7 y s fun z s =>
 fl 0 z s fun A s =>
 fl 1 z s fun B s =>
 fl 2 z s fun C s =>
 zj false 1 3 (zO (rep [iN 0] 3) [(0, 1, A), (1, 1, B), (2, 1, C)]) s fun D s =>
 zb 3 z s fun E s =>
 zg true 2 E s fun F s =>
 cA P zbR [o, D] s fun G t =>
 zw E s t ∧ (cA P zde [G, F] t fun H s =>
 fl 5 z s fun I s =>
 zb 6 z s fun J s =>
 zg false 1 J s fun K s =>
 cA P zgY [H, I] s fun L t =>
 zw J s t ∧ (cA P zdm [L, K] t fun M s =>
 bP .add p (iN 1) s fun N s =>
 n [M, N] s))) (z1 Z o s))
theorem zph : F2 Tryz.prog zkL zpI := ze [.d [(0, 6), (7, 2), (6, 1), (9, 2)] [(6, [14])], .l [0, 5] [(6, 1), (23, 31)], .d [(0, 8), (9, 2), (8, 1), (11, 2)] [(8, [44])], .d [(0, 3), (4, 2), (3, 1), (6, 2)] [(3, [51])]] Tryz.func224 (by decide +kernel) (by kernel_rfl) fun {_ _ _ _ _} => cast (by kernel_rfl)
def zpH (P : Program) (x0 x1 : AV) (σ : LO) (Z : ZT) : Prop :=
 zaJ x1 σ fun a s =>
 fl 0 a s fun b s =>
 fl 1 a s fun c s =>
 zj false 1 2 (zO (rep [iN 0] 2) [(0, 1, b), (1, 1, c)]) s fun d s =>
 zb 2 a s fun e s =>
 zg false 1 e s fun f s =>
 cA P zbR [x0, d] s fun g t =>
 zw e s t ∧ (cA P zgY [g, f] t fun h s =>
 z1 Z h s)
theorem zpg : F2 Tryz.prog zic zpH := ze [.d [(0, 6), (7, 2), (6, 1), (9, 2)] [(6, [12])]] Tryz.func226 (by decide +kernel) (by kernel_rfl) fun {_ _ _ _ _} => cast (by kernel_rfl)
def zfC (P : Program) (x0 x1 : AV) (σ : LO) (Z : ZT) : Prop :=
 zaJ x1 σ fun a s =>
 fl 0 a s fun b s =>
 cA P zaA [x0, b] s fun _ s =>
 fl 1 a s fun d s =>
 cA P zbf [x0, d] s fun _ s =>
 fl 2 a s fun f s =>
 cA P zbf [x0, f] s fun _ s =>
 zb 3 a s fun h s =>
 zg true 2 h s fun i s =>
 cA P zbF [i] s fun j s =>
 cA P zT [x0, j] s fun _ s =>
 fl 5 a s fun m s =>
 cA P zaO [x0, m] s fun _ s =>
 fl 6 a s fun o s =>
 cA P zbG [o] s fun p s =>
 cA P zT [x0, p] s fun _ s =>
 Z (some []) s
theorem zfA : F2 Tryz.prog zdz zfC := ze [] Tryz.func228 (by decide +kernel) (by kernel_rfl) fun {_ _ _ _ _} => cast (by kernel_rfl)
def zht (P : Program) (x0 x1 : AV) (σ : LO) (Z : ZT) : Prop :=
 zal .sl x1 σ fun a s =>
 cA P zbH [x0, a, (iN 13)] s fun _ s =>
 zal .sl x1 s fun c s =>
 zbd [(iN 0)] s fun v s d =>
 zaC v fun e v => bP .lss e c s fun f s =>
 zh f (il true 2 2 x1 e s fun g s =>
 cp [iN 0, iN 0] 2 g s fun h s =>
 zg true 2 h s fun i s =>
 cA P zbF [i] s fun j s =>
 cA P zT [x0, j] s fun _ s =>
 bP .add e (iN 1) s fun m s =>
 d [m] s) (Z (some []) s)
theorem zhn : F2 Tryz.prog zaO zht := ze [.l [12] [(5, 1), (13, 8)]] Tryz.func229 (by decide +kernel) (by kernel_rfl) fun {_ _ _ _ _} => cast (by kernel_rfl)
def S_op_Name (P : Program) (x0 : AV) (σ : LO) (Z : ZT) : Prop :=
 cA P zqt [x0] σ fun a s =>
 bP .gtr a (iN 0) s fun b s =>
 z1 Z b s
theorem e_op_Name : F1 Tryz.prog zoS S_op_Name := ze [] Tryz.func230 (by decide +kernel) (by kernel_rfl) fun {_ _ _ _} => cast (by kernel_rfl)
def zds (P : Program) (x0 x1 : AV) (σ : LO) (Z : ZT) : Prop :=
 zal .sl x0 σ fun a s =>
 zal .sl x1 s fun b s =>
 bP .neq a b s fun c s =>
 zh c (z1 Z bF s) (zal .sl x0 s fun d s =>
 zbd [(iN 0)] s fun v s e =>
 zaC v fun f v => bP .lss f d s fun g s =>
 zh g (il true 2 2 x0 f s fun h s =>
 il true 2 2 x1 f s fun i s =>
 zcv .neq (.ints 2) h i s fun j s =>
 zh j (z1 Z bF s) (bP .add f (iN 1) s fun l s =>
 e [l] s)) (z1 Z bT s))
theorem zdr : F2 Tryz.prog zbC zds := ze [.l [13] [(4, 2), (14, 12)], .d [(0, 9)] []] Tryz.func231 (by decide +kernel) (by kernel_rfl) fun {_ _ _ _ _} => cast (by kernel_rfl)
def zaE (P : Program) (x0 x1 x2 : AV) (σ : LO) (Z : ZT) : Prop :=
 zal .sl x0 σ fun a s =>
 zal .sl x1 s fun b s =>
 bP .neq a b s fun c s =>
 zh c (z1 Z bF s) (zal .sl x0 s fun d s =>
 zbd [(iN 0)] s fun v s e =>
 zaC v fun f v => bP .lss f d s fun g s =>
 zh g (il true 7 7 x0 f s fun h s =>
 zW [iN 0, iN 0, iN 0, iN 0, iN 0, eN, eN] s fun i s =>
 zn 7 i h s fun _ s =>
 il true 7 7 x1 f s fun l s =>
 cp [iN 0, iN 0, iN 0, iN 0, iN 0, eN, eN] 7 l s fun m s =>
 zg true 7 i s fun n s =>
 zg true 7 m s fun o s =>
 zak P x2 [dm n, dm o] s fun p s =>
 unC .not p s fun q s =>
 zh q (z1 Z bF s) (bP .add f (iN 1) s fun r s =>
 e [r] s)) (z1 Z bT s))
theorem zaD : F3 Tryz.prog zah zaE := ze [.l [17] [(6, 4), (18, 14)]] Tryz.func232 (by decide +kernel) (by kernel_rfl) fun {_ _ _ _ _ _} => cast (by kernel_rfl)
def zgz (P : Program) (x0 x1 : AV) (σ : LO) (Z : ZT) : Prop :=
 zaJ x0 σ fun a s =>
 zaJ x1 s fun b s =>
 fl 0 a s fun c s =>
 fl 0 b s fun d s =>
 bP .eql c d s fun e s =>
 gTl e 1 a s fun f s =>
 gTl e 1 b s fun g s =>
 gT e (bP .eql f g s) s fun h s =>
 anC e h s fun i s =>
 gTl i 2 a s fun j s =>
 gTl i 2 b s fun l s =>
 gT i (bP .eql j l s) s fun m s =>
 anC i m s fun n s =>
 gT n (zb 3 a s) s fun o s =>
 gT n (zg true 2 o s) s fun p s =>
 gT n (zb 3 b s) s fun q s =>
 gT n (zg true 2 q s) s fun r s =>
 gT n (zcv .eql (.ints 2) p r s) s fun u s =>
 anC n u s fun w s =>
 gTl w 5 a s fun y s =>
 gTl w 5 b s fun z s =>
 gT w (cA P zbC [y, z] s) s fun A s =>
 anC w A s fun B s =>
 gTl B 6 a s fun C s =>
 gTl B 6 b s fun D s =>
 gT B (cA P zfa [C, D] s) s fun E s =>
 anC B E s fun F s =>
 z1 Z F s
theorem zgp : F2 Tryz.prog zcW zgz := ze [] Tryz.func233 (by decide +kernel) (by kernel_rfl) fun {_ _ _ _ _} => cast (by kernel_rfl)
def zcQ (P : Program) (x0 x1 : AV) (σ : LO) (Z : ZT) : Prop :=
 zal .sl x0 σ fun a s =>
 zal .sl x1 s fun b s =>
 bP .neq a b s fun c s =>
 zh c (z1 Z bF s) (zal .sl x0 s fun d s =>
 zbd [(iN 0)] s fun v s e =>
 zaC v fun f v => bP .lss f d s fun g s =>
 zh g (il true 5 5 x0 f s fun h s =>
 il true 5 5 x1 f s fun i s =>
 zcv .neq (.ints 5) h i s fun j s =>
 zh j (z1 Z bF s) (bP .add f (iN 1) s fun l s =>
 e [l] s)) (z1 Z bT s))
theorem zcN : F2 Tryz.prog zbM zcQ := ze [.l [13] [(4, 2), (14, 12)], .d [(0, 9)] []] Tryz.func234 (by decide +kernel) (by kernel_rfl) fun {_ _ _ _ _} => cast (by kernel_rfl)
def zcR (P : Program) (x0 x1 : AV) (σ : LO) (Z : ZT) : Prop :=
 zal .sl x0 σ fun a s =>
 zal .sl x1 s fun b s =>
 bP .neq a b s fun c s =>
 zh c (z1 Z bF s) (zal .sl x0 s fun d s =>
 zbd [(iN 0)] s fun v s e =>
 zaC v fun f v => bP .lss f d s fun g s =>
 zh g (il false 1 1 x0 f s fun h s =>
 il false 1 1 x1 f s fun i s =>
 bP .neq h i s fun j s =>
 zh j (z1 Z bF s) (bP .add f (iN 1) s fun l s =>
 e [l] s)) (z1 Z bT s))
theorem zcO : F2 Tryz.prog zbN zcR := ze [.l [13] [(4, 2), (14, 12)], .d [(0, 9)] []] Tryz.func235 (by decide +kernel) (by kernel_rfl) fun {_ _ _ _ _} => cast (by kernel_rfl)
def S_op_only (P : Program) (x0 : AV) (σ : LO) (Z : ZT) : Prop :=
 zaJ x0 σ fun a s =>
 zW [iN 0, (.d (.str [])), (.d (.str [])), iN 0, eN] s fun b s =>
 fl 0 a s fun c s =>
 zF (zO [iN 0, (.d (.str [])), (.d (.str [])), iN 0, eN] [(0, 1, c)]) s fun d s =>
 cp [iN 0, (.d (.str [])), (.d (.str [])), iN 0, eN] 5 d s fun e s =>
 (fun (f : LO → Prop) => fl 0 a s fun i s =>
 bP .eql i (iN 0) s fun j s =>
 zh j (f s) (bP .eql i (iN 1) s fun l s =>
 zh l (fl 1 a s fun m s =>
 zb 1 e s fun n s =>
 zn 1 n m s fun _ s =>
 f s) (bP .eql i (iN 2) s fun p s =>
 zh p (fl 1 a s fun q s =>
 zb 4 a s fun r s =>
 zg false 1 r s fun u s =>
 zb 1 e s fun w s =>
 zn 1 w q s fun _ t =>
 zw r s t ∧ (zb 4 e t fun z s =>
 zn 1 z u s fun _ s =>
 f s)) (bP .eql i (iN 3) s fun B s =>
 zh B (fl 1 a s fun C s =>
 zb 2 a s fun D s =>
 zg false 1 D s fun E s =>
 zb 3 a s fun F s =>
 zg false 1 F s fun G s =>
 zb 1 e s fun H s =>
 zn 1 H C s fun _ t =>
 zw D s t ∧ (zw F s t ∧ (zb 2 e t fun J s =>
 zn 1 J E s fun _ t =>
 zw F s t ∧ (zb 3 e t fun L s =>
 zn 1 L G s fun _ s =>
 f s)))) (bP .eql i (iN 4) s fun N s =>
 zh N (fl 1 a s fun O s =>
 zb 3 a s fun Q s =>
 zg false 1 Q s fun R s =>
 zb 1 e s fun S s =>
 zn 1 S O s fun _ t =>
 zw Q s t ∧ (zb 3 e t fun U s =>
 zn 1 U R s fun _ s =>
 f s)) (zg true 5 e s fun W s =>
 zn 5 b W s fun _ s =>
 Z (zR (zaF b s true 5) (zR (some bF) (some []))) s))))))
 (fun  s => zg true 5 e s fun g s =>
 zn 5 b g s fun _ s =>
 Z (zR (zaF b s true 5) (zR (some bT) (some []))) s)
theorem e_op_only : F1 Tryz.prog zsp S_op_only := ze [.d [(0, 8)] [(5, [22])], .d [(0, 12)] [(7, [30, 32]), (9, [32])], .d [(0, 8)] [(5, [41])]] Tryz.func236 (by decide +kernel) (by kernel_rfl) fun {_ _ _ _} => cast (by kernel_rfl)
def zrx (P : Program) (x0 : AV) (σ : LO) (Z : ZT) : Prop :=
 zal .sl x0 σ fun a s =>
 bP .gtr a (iN 64) s fun b s =>
 z1 Z b s
theorem zrm : F1 Tryz.prog zjh zrx := ze [] Tryz.func237 (by decide +kernel) (by kernel_rfl) fun {_ _ _ _} => cast (by kernel_rfl)
def zbZ (P : Program) (x0 x1 : AV) (σ : LO) (Z : ZT) : Prop :=
 cA P zcm [x0, x1] σ fun a s =>
 bP .geq a (iN 0) s fun b s =>
 z1 Z b s
theorem zbY : F2 Tryz.prog zbe zbZ := ze [] Tryz.func238 (by decide +kernel) (by kernel_rfl) fun {_ _ _ _ _} => cast (by kernel_rfl)
def S_op_Put (P : Program) (x0 x1 : AV) (σ : LO) (Z : ZT) : Prop :=
 zaJ x1 σ fun a s =>
 cA P zdP [x0] s fun b s =>
 zg true 5 a s fun c s =>
 cA P znh [c] s fun d s =>
 bP .neq d (iN 0) s fun e s =>
 zh e (z1 Z b s) (fl 0 a s fun f s =>
 zai (.int .u64) f s fun g s =>
 cA P zaZ [b, g] s fun h s =>
 (fun (i : AV → LO → Prop) => fl 0 a s fun T s =>
 bP .neq T (iN 0) s fun U s =>
 zh U (fl 1 a s fun V s =>
 zai .toBytes V s fun W s =>
 cA P zda [h, W] s fun X s =>
 i X s) (i h s))
 (fun j s => (fun (l : AV → LO → Prop) => fl 0 a s fun n s =>
 bP .eql n (iN 2) s fun o s =>
 zh o (fl 4 a s fun p s =>
 zal .sl p s fun q s =>
 zai (.int .u64) q s fun r s =>
 cA P zaZ [j, r] s fun u s =>
 fl 4 a s fun w s =>
 zal .sl w s fun y s =>
 zbd [u, (iN 0)] s fun v s z =>
 zaC v fun A v => zaC v fun B v => bP .lss B y s fun C s =>
 zh C (il false 1 1 w B s fun D s =>
 cA P zda [A, D] s fun E s =>
 bP .add B (iN 1) s fun F s =>
 z [E, F] s) (l A s)) (bP .eql n (iN 3) s fun G s =>
 zh G (fl 2 a s fun H s =>
 zai .toBytes H s fun I s =>
 zb 3 a s fun J s =>
 zg false 1 J s fun K s =>
 zai (.int .u64) K s fun L s =>
 cA P zda [j, I] s fun M t =>
 zw J s t ∧ (cA P zaZ [M, L] t fun N s =>
 l N s)) (bP .eql n (iN 4) s fun O s =>
 zh O (fl 3 a s fun Q s =>
 zai (.int .u64) Q s fun R s =>
 cA P zaZ [j, R] s fun S s =>
 l S s) (l j s))))
 (fun m s => z1 Z m s)))
theorem e_op_Put : F2 Tryz.prog zvW S_op_Put := ze [.l [5, 40] [(7, 1), (41, 7)], .d [(0, 4), (5, 3), (4, 1), (8, 2)] [(4, [55])]] Tryz.func239 (by decide +kernel) (by kernel_rfl) fun {_ _ _ _ _} => cast (by kernel_rfl)
def zmP (P : Program) (x0 : AV) (σ : LO) (Z : ZT) : Prop :=
 zaJ x0 σ fun a s =>
 fl 0 a s fun b s =>
 zb 1 a s fun c s =>
 zg false 1 c s fun d s =>
 zb 2 a s fun e s =>
 zg true 3 e s fun f s =>
 cA P ziq [b] s fun g t =>
 zw c s t ∧ (zw e s t ∧ (cA P zdI [d] t fun h s =>
 zw e t s ∧ (cA P zfO [f] s fun i s =>
 zj false 1 3 (zO (rep [iN 0] 3) [(0, 1, g), (1, 1, h), (2, 1, i)]) s fun j s =>
 cA P zcD [j] s fun l s =>
 bP .neq l (iN 0) s fun m s =>
 zh m (z1 Z l s) (fl 5 a s fun n s =>
 zal .sl n s fun o s =>
 bP .gtr o (iN 8) s fun p s =>
 zh p (z1 Z (iN 100) s) (zbd [(iN 0)] s fun v s q =>
 zaC v fun r v => fl 5 a s fun u s =>
 zal .sl u s fun w s =>
 bP .lss r w s fun y s =>
 zh y (fl 5 a s fun z s =>
 il true 7 7 z r s fun A s =>
 cA P zfr [A] s fun B s =>
 bP .neq B (iN 0) s fun C s =>
 zh C (z1 Z B s) (bP .add r (iN 1) s fun D s =>
 q [D] s)) (z1 Z (iN 0) s))))))
theorem zmv : F1 Tryz.prog zir zmP := ze [.d [(0, 2), (3, 2), (6, 2), (2, 1), (5, 1), (8, 4)] [(2, [9, 12]), (5, [12])], .l [4] [(2, 1), (5, 1), (24, 16)]] Tryz.func240 (by decide +kernel) (by kernel_rfl) fun {_ _ _ _} => cast (by kernel_rfl)
def zty (P : Program) (x0 : AV) (σ : LO) (Z : ZT) : Prop :=
 zal .sl x0 σ fun a s =>
 bP .gtr a (iN 13) s fun b s =>
 zh b (z1 Z (iN 100) s) (zbd [(iN 0)] s fun v s c =>
 zaC v fun d v => zal .sl x0 s fun e s =>
 bP .lss d e s fun f s =>
 zh f (il true 2 2 x0 d s fun g s =>
 cA P zcr [g] s fun h s =>
 bP .neq h (iN 0) s fun i s =>
 zh i (z1 Z h s) (bP .add d (iN 1) s fun j s =>
 c [j] s)) (z1 Z (iN 0) s))
theorem zsI : F1 Tryz.prog zio zty := ze [.l [3] [(2, 1), (4, 1), (8, 14)]] Tryz.func242 (by decide +kernel) (by kernel_rfl) fun {_ _ _ _} => cast (by kernel_rfl)
def zvy (P : Program) (x0 : AV) (σ : LO) (Z : ZT) : Prop :=
 cA P zol [x0] σ fun a s =>
 bP .gtr a (iN 0) s fun b s =>
 z1 Z b s
theorem zuR : F1 Tryz.prog zng zvy := ze [] Tryz.func243 (by decide +kernel) (by kernel_rfl) fun {_ _ _ _} => cast (by kernel_rfl)
def zrt (P : Program) (x0 : AV) (σ : LO) (Z : ZT) : Prop :=
 bP .eql x0 (iN 1) σ fun a s =>
 zh a (Z (zR (some bT) (zR (some bF) (zR (some bF) (zR (some bF) (some []))))) s) (bP .eql x0 (iN 2) s fun b s =>
 zh b (Z (zR (some bT) (zR (some bF) (zR (some bF) (zR (some bT) (some []))))) s) (bP .eql x0 (iN 3) s fun c s =>
 zh c (Z (zR (some bT) (zR (some bT) (zR (some bT) (zR (some bF) (some []))))) s) (bP .eql x0 (iN 4) s fun d s =>
 zh d (Z (zR (some bT) (zR (some bF) (zR (some bT) (zR (some bF) (some []))))) s) (Z (zR (some bF) (zR (some bF) (zR (some bF) (zR (some bF) (some []))))) s))))
theorem zri : F1 Tryz.prog zjf zrt := ze [] Tryz.func245 (by decide +kernel) (by kernel_rfl) fun {_ _ _ _} => cast (by kernel_rfl)
end Go.Proofs.YtpgahkdjkanblaaGreat
