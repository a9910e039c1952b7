/- The conditions of each function, its slots as variables, and that the logic's conditions are these. Printed by program. -/
import Derived.Test.YtfgbofkdhfjegaaGreatNm
import Derived.KernelRfl
set_option linter.all false
set_option maxRecDepth 100000
namespace Go.Proofs.YtfgbofkdhfjegaaGreat
open Go.AW
def zpy (P : Program) (x0 x1 x2 x3 : AV) (σ : LO) (Z : ZT) : Prop :=
 zbj x0 σ fun a s =>
 zbj x1 s fun b s =>
 zbj x3 s fun c s =>
 cA P znS [x2] s fun d s =>
 ze d 0 s fun e s =>
 ze d 1 s fun f s =>
 bP .neq f (iN 0) s fun g s =>
 gFm g e s fun h s =>
 gF g (zo true 3 c s) s fun i s =>
 gF g (cA P zeb [h,i] s) s fun j s =>
 gF g (unC .not j s) s fun l s =>
 orC g l s fun m s =>
 gF m (zo false 1 a s) s fun n s =>
 gF m (cA P zgz [n] s) s fun o s =>
 gF m (bP .eql o (iN 0) s) s fun p s =>
 gFm m p s fun q s =>
 gT q (zo false 1 a s) s fun r s =>
 gT q (cA P zbS [r] s) s fun u s =>
 gT q (zcF .eql .ptr u (.d .nilp) s) s fun w s =>
 gF m (anC q w s) s fun y s =>
 orC m y s fun z s =>
 gF z (zo false 1 b s) s fun A s =>
 gF z (cA P zfW [A] s) s fun B s =>
 gF z (bP .eql B (iN 0) s) s fun C s =>
 gFm z C s fun D s =>
 gT D (zo false 1 b s) s fun E s =>
 gT D (cA P zcd [E] s) s fun F s =>
 gT D (zcF .eql .ptr F (.d .nilp) s) s fun G s =>
 gF z (anC D G s) s fun H s =>
 orC z H s fun I s =>
 zn I (z1 Z bF s) (fl 2 c s fun J s =>
 cA P zaK [J,(.fn (.func zfU) [] [a,b,c])] s fun K s =>
 unC .not K s fun L s =>
 z1 Z L s)
theorem zvT : F4 Tryz.prog zkJ zpy := zi [] Tryz.func81
def zhr (P : Program) (x0 : AV) (σ : LO) (Z : ZT) : Prop :=
 zbj x0 σ fun a s =>
 fl 0 a s fun b s =>
 zal .toBytes b s fun c s =>
 zg 1 a s fun d s =>
 zo false 1 d s fun e s =>
 zdb [(iN 0),e] s fun f s =>
 zal (.int .u64) f s fun g s =>
 cA P zfr [eN,c] s fun h t =>
 zP d s t ∧ (cA P zcG [h,g] t fun i s =>
 fl 2 a s fun j s =>
 cA P zfr [i,j] s fun l s =>
 z1 Z l s)
theorem zmZ : F1 Tryz.prog zeI zhr := zi [.d [(0, 3),(4, 4),(3, 1),(8, 2)] [(3, [8])]] Tryz.func82
def zmw (P : Program) (x0 x1 x2 x3 x4 x5 : AV) (σ : LO) (Z : ZT) : Prop :=
 zbj x0 σ fun a s =>
 zbj x2 s fun b s =>
 bP .lss x3 (iN 0) s fun c s =>
 gFm c x3 s fun d s =>
 gFm c x4 s fun e s =>
 gF c (bP .geq d e s) s fun f s =>
 orC c f s fun g s =>
 gFm g x5 s fun h s =>
 gF g (zax .sl h s) s fun i s =>
 gFm g x3 s fun j s =>
 gFm g x4 s fun l s =>
 gF g (cA P zib [j,l] s) s fun m s =>
 gF g (bP .neq i m s) s fun n s =>
 orC g n s fun o s =>
 zn o (z1 Z bF s) (zQ [(.d .nilfn)] s fun p s =>
 zj 1 p (.fn (.func zdq) [] [a,b,p]) s fun _ s =>
 zo false 1 p s fun r s =>
 zaq P r [dm x3,dm x4,dm x5] s fun u s =>
 ze u 0 s fun w s =>
 ze u 1 s fun y s =>
 gTm y w s fun z s =>
 gTm y x1 s fun A s =>
 gT y (bP .eql z A s) s fun B s =>
 anC y B s fun C s =>
 z1 Z C s)
theorem zsN : F6 Tryz.prog zia zmw := zi [] Tryz.func83
def znA (P : Program) (x0 x1 : AV) (σ : LO) (Z : ZT) : Prop :=
 cA P zdX [x1] σ fun a s =>
 bP .neq a (iN 0) s fun b s =>
 zn b (z1 Z (iN 0) s) (bP .mul x0 x1 s fun c s =>
 bP .add c (iN 1) s fun d s =>
 z1 Z d s)
theorem ztS : F2 Tryz.prog zgD znA := zi [] Tryz.func84
def zlo (P : Program) (x0 x1 : AV) (σ : LO) (Z : ZT) : Prop :=
 zbb [(iN 0)] σ fun v s a =>
 zaB v fun b v => nfl 0 x0 s fun c s =>
 zax .sl c s fun d s =>
 bP .lss b d s fun e s =>
 zn e (nfl 0 x0 s fun f s =>
 il false 1 1 f b s fun g s =>
 cA P zqc [g,x1] s fun h s =>
 zn h (bP .add b (iN 1) s fun i s =>
 z2 Z i bT s) (bP .add b (iN 1) s fun j s =>
 a [j] s)) (z2 Z (iN 0) bF s)
theorem zrs : F2 Tryz.prog zhd zlo := zi [.l [6] [(4, 2),(7, 20)]] Tryz.func94
def zkg (P : Program) (x0 : AV) (σ : LO) (Z : ZT) : Prop :=
 zbj x0 σ fun a s =>
 fl 0 a s fun b s =>
 zal .toBytes b s fun c s =>
 cA P zbm [eN,c] s fun d s =>
 fl 1 a s fun e s =>
 zdb [e,(iN 0)] s fun f s =>
 zg 2 a s fun g s =>
 zo false 1 g s fun h s =>
 cA P zek [d,f] s fun i t =>
 zP g s t ∧ (cA P zbm [i,h] t fun j s =>
 z1 Z j s)
theorem zqo : F1 Tryz.prog zgw zkg := zi [.d [(0, 4),(5, 2),(4, 1),(7, 2)] [(4, [13])]] Tryz.func96
def zre (P : Program) (x0 : AV) (σ : LO) (Z : ZT) : Prop :=
 zax .sl x0 σ fun a s =>
 bP .gtr a (iN 1048576) s fun b s =>
 zn b (z2 Z (.d .nilp) (iN 3) s) (cA P zfq [] s fun c s =>
 zax .sl x0 s fun d s =>
 zbb [(iN 0)] s fun v s e =>
 zaB v fun f v => bP .lss f d s fun g s =>
 zn g (il false 1 1 x0 f s fun h s =>
 cA P zbi [c,h] s fun i s =>
 ze i 0 s fun _ s =>
 ze i 1 s fun l s =>
 zn l (z2 Z (.d .nilp) (iN 5) s) (cA P zez [c,h] s fun _ s =>
 bP .add f (iN 1) s fun n s =>
 e [n] s)) (z2 Z c (iN 0) s))
theorem zqS : F1 Tryz.prog zlW zre := zi [.l [15] [(2, 2),(6, 3),(16, 14)]] Tryz.func98
def zvo (P : Program) (x0 : AV) (σ : LO) (Z : ZT) : Prop :=
 zan x0 σ fun a s =>
 zbb [(iN 0)] s fun v s b =>
 zaB v fun c v => zoL a s fun d s =>
 ze d 0 s fun e s =>
 zn e (ze d 2 s fun f s =>
 bP .lss f (.d (.int .i32 33)) s fun g s =>
 gFm g f s fun h s =>
 gF g (bP .geq h (.d (.int .i32 127)) s) s fun i s =>
 gFm g i s fun j s =>
 gTm j f s fun l s =>
 gT j (bP .leq l (.d (.int .i32 159)) s) s fun m s =>
 gF g (anC j m s) s fun n s =>
 orC g n s fun o s =>
 gFm o f s fun p s =>
 gF o (bP .eql p (.d (.int .i32 47)) s) s fun q s =>
 orC o q s fun r s =>
 gFm r f s fun u s =>
 gF r (bP .eql u (.d (.int .i32 65533)) s) s fun w s =>
 orC r w s fun y s =>
 zn y (z1 Z (iN 0) s) (bP .add c (iN 1) s fun z s =>
 b [z] s)) (bP .gtr c (iN 16) s fun A s =>
 zn A (z1 Z (iN 0) s) (z1 Z c s))
theorem e_op_Runes : F1 Tryz.prog zqd zvo := zi [.l [3] [(2, 1),(5, 1),(8, 23)]] Tryz.func99
def zvm (P : Program) (x0 x1 : AV) (σ : LO) (Z : ZT) : Prop :=
 cA P zpZ [x1] σ fun a s =>
 cA P zbP [x0,a] s fun b s =>
 z1 Z b s
theorem e_r05_Leaf : F2 Tryz.prog zqb zvm := zi [] Tryz.func100
def ztw (P : Program) (x0 : AV) (σ : LO) (Z : ZT) : Prop :=
 bP .lss x0 (iN 2) σ fun a s =>
 zn a (z1 Z (iN 0) s) (zbb [(iN 1)] s fun v s b =>
 zaB v fun c v => bP .sub x0 c s fun d s =>
 bP .lss c d s fun e s =>
 zn e (bP .mul c (iN 2) s fun f s =>
 b [f] s) (z1 Z c s))
theorem e_r05_Split : F1 Tryz.prog zkI ztw := zi [.l [3] [(6, 7)]] Tryz.func101
def zvl (P : Program) (x0 x1 x2 : AV) (σ : LO) (Z : ZT) : Prop :=
 cA P zpY [x1,x2] σ fun a s =>
 cA P zbP [x0,a] s fun b s =>
 z1 Z b s
theorem e_r05_Node : F3 Tryz.prog zqa zvl := zi [] Tryz.func102
def zjg (P : Program) (x0 : AV) (σ : LO) (Z : ZT) : Prop :=
 nfl 0 x0 σ fun a s =>
 zax .sl a s fun b s =>
 cA P zek [eN,b] s fun c s =>
 zbb [c,(iN 0)] s fun v s d =>
 zaB v fun e v => zaB v fun f v => nfl 0 x0 s fun g s =>
 zax .sl g s fun h s =>
 bP .lss f h s fun i s =>
 zn i (nfl 0 x0 s fun j s =>
 il true 4 4 j f s fun l s =>
 cp [(.d (.str [])),iN 0,eN,eN] 4 l s fun m s =>
 fl 0 m s fun n s =>
 zal .toBytes n s fun o s =>
 zg 1 m s fun p s =>
 zo false 1 p s fun q s =>
 cA P zbm [e,o] s fun r t =>
 zP p s t ∧ (cA P zek [r,q] t fun u s =>
 fl 2 m s fun w s =>
 zax .sl w s fun y s =>
 cA P zek [u,y] s fun z s =>
 zbb [z,(iN 0)] s fun v s A =>
 zaB v fun B v => zaB v fun C v => fl 2 m s fun D s =>
 zax .sl D s fun E s =>
 bP .lss C E s fun F s =>
 zn F (fl 2 m s fun G s =>
 il false 1 1 G C s fun H s =>
 cA P zbm [B,H] s fun I s =>
 bP .add C (iN 1) s fun J s =>
 A [I,J] s) (fl 3 m s fun K s =>
 zax .sl K s fun L s =>
 cA P zek [B,L] s fun M s =>
 zbb [M,(iN 0)] s fun v s N =>
 zaB v fun O v => zaB v fun Q v => fl 3 m s fun R s =>
 zax .sl R s fun S s =>
 bP .lss Q S s fun T s =>
 zn T (fl 3 m s fun U s =>
 zH none 2 U Q s fun V s =>
 fl 0 V s fun W s =>
 zal .toBytes W s fun X s =>
 zg 3 m s fun Y s =>
 zo false 1 Y s fun a0 s =>
 zH none 2 a0 Q s fun b0 s =>
 zg 1 b0 s fun c0 s =>
 zo false 1 c0 s fun d0 s =>
 cA P zbm [O,X] s fun e0 t =>
 zP Y s t ∧ (zP c0 s t ∧ (cA P zek [e0,d0] t fun f0 s =>
 bP .add Q (iN 1) s fun g0 s =>
 N [f0,g0] s))) (bP .add f (iN 1) s fun h0 s =>
 d [O,h0] s)))) (zbb [e,(iN 0)] s fun v s i0 =>
 zaB v fun j0 v => zaB v fun l0 v => bP .lss l0 (iN 8) s fun m0 s =>
 zn m0 (zbr x0 s fun o0 s =>
 zg 1 o0 s fun p0 s =>
 zH (some 8) 3 p0 l0 s fun q0 s =>
 zo true 3 q0 s fun r0 s =>
 cp [iN 0,iN 0,iN 0] 3 r0 s fun u0 s =>
 fl 0 u0 s fun w0 s =>
 zg 1 u0 s fun y0 s =>
 zg 0 y0 s fun z0 s =>
 zo false 1 z0 s fun A0 s =>
 zg 1 u0 s fun B0 s =>
 zg 1 B0 s fun C0 s =>
 zo false 1 C0 s fun D0 s =>
 cA P zek [j0,w0] s fun E0 t =>
 zP z0 s t ∧ (zP C0 s t ∧ (cA P zek [E0,A0] t fun F0 s =>
 zP C0 t s ∧ (cA P zek [F0,D0] s fun G0 s =>
 bP .add l0 (iN 1) s fun H0 s =>
 i0 [G0,H0] s)))) (z1 Z j0 s))
theorem zpb : F1 Tryz.prog zfS zjg := zi [.l [3, 4] [(5, 3),(16, 71)], .d [(0, 4),(5, 2),(4, 1),(7, 2)] [(4, [37])], .l [3, 6] [(45, 14)], .l [3, 7] [(64, 23)], .d [(0, 8),(9, 6),(8, 1),(15, 2)] [(8, [80, 84])], .l [3, 8] [(9, 1),(87, 22)], .d [(0, 3),(4, 3),(8, 3),(3, 1),(7, 1),(11, 2)] [(3, [102, 106]),(7, [106])]] Tryz.func103
def zts (P : Program) (x0 : AV) (σ : LO) (Z : ZT) : Prop :=
 zbj x0 σ fun a s =>
 zo true 7 a s fun b s =>
 cA P zkG [b] s fun c s =>
 bP .neq c (iN 0) s fun d s =>
 zn d (z2 Z eN c s) (fl 0 a s fun e s =>
 zal (.int .u64) e s fun f s =>
 cA P zaZ [eN,f] s fun g s =>
 fl 1 a s fun h s =>
 zal (.int .u64) h s fun i s =>
 cA P zaZ [g,i] s fun j s =>
 zg 2 a s fun l s =>
 zo true 5 l s fun m s =>
 cA P zsi [j,m] s fun n s =>
 z2 Z n (iN 0) s)
theorem e_r08_Bytes : F1 Tryz.prog zkH zts := zi [] Tryz.func104
def zki (P : Program) (x0 x1 x2 : AV) (σ : LO) (Z : ZT) : Prop :=
 zQ [iN 0,iN 0] σ fun a s =>
 bP .lss x1 (iN 0) s fun b s =>
 gFm b x1 s fun c s =>
 gF b (bP .geq c (iN 21) s) s fun d s =>
 orC b d s fun e s =>
 zn e (zD (zS [iN 0,iN 0] []) s fun f s =>
 zj 2 a f s fun _ s =>
 Z (zC (zah a s true 2) (zC (some (iN 20)) (some []))) s) (bP .lss x2 (iN 1) s fun h s =>
 zn h (zD (zS [iN 0,iN 0] []) s fun i s =>
 zj 2 a i s fun _ s =>
 Z (zC (zah a s true 2) (zC (some (iN 1)) (some []))) s) (zD (zS [iN 0,iN 0] [(0, 1,x1),(1, 1,x2)]) s fun l s =>
 cp [iN 0,iN 0] 2 l s fun m s =>
 (fun (n : LO → Prop) => zo true 2 m s fun q s =>
 cA P zfz [x0,q] s fun r s =>
 unC .not r s fun u s =>
 zn u (nfl 0 x0 s fun w s =>
 zo true 2 m s fun y s =>
 m1 2 [iN 0,iN 0] y s fun z s =>
 zB 2 16 eN w s fun A t =>
 zP m s t ∧ (zB 2 16 A z t fun B s =>
 zbr x0 s fun C s =>
 zg 0 C s fun D s =>
 zj 1 D B s fun _ s =>
 n s)) (n s))
 (fun  s => zo true 2 m s fun o s =>
 zj 2 a o s fun _ s =>
 Z (zC (zah a s true 2) (zC (some (iN 0)) (some []))) s)))
theorem zjV : F3 Tryz.prog zew zki := zi [.d [(0, 5),(6, 2),(5, 1),(8, 4)] [(5, [8])]] Tryz.func105
def S_r08_Key (P : Program) (x0 : AV) (σ : LO) (Z : ZT) : Prop :=
 bP .lss x0 (iN 0) σ fun a s =>
 gFm a x0 s fun b s =>
 gF a (bP .geq b (iN 8) s) s fun c s =>
 orC a c s fun d s =>
 zn d (z1 Z (iN (-1)) s) (bP .add (iN 13) x0 s fun e s =>
 z1 Z e s)
theorem e_r08_Key : F1 Tryz.prog zlS S_r08_Key := zi [] Tryz.func106
def ztp (P : Program) (x0 : AV) (σ : LO) (Z : ZT) : Prop :=
 zbj x0 σ fun a s =>
 fl 0 a s fun b s =>
 cA P zhW [b] s fun c s =>
 unC .not c s fun d s =>
 gFl d 1 a s fun e s =>
 gF d (cA P zhW [e] s) s fun f s =>
 gF d (unC .not f s) s fun g s =>
 orC d g s fun h s =>
 gFl h 2 a s fun i s =>
 gF h (cA P zhW [i] s) s fun j s =>
 gF h (unC .not j s) s fun l s =>
 orC h l s fun m s =>
 gFl m 3 a s fun n s =>
 gF m (cA P zhW [n] s) s fun o s =>
 gF m (unC .not o s) s fun p s =>
 orC m p s fun q s =>
 gFl q 4 a s fun r s =>
 gF q (cA P zhW [r] s) s fun u s =>
 gF q (unC .not u s) s fun w s =>
 orC q w s fun y s =>
 zn y (z1 Z (iN 90) s) (z1 Z (iN 0) s)
theorem e_r09_Check : F1 Tryz.prog zkE ztp := zi [] Tryz.func107
def zqZ (P : Program) (x0 x1 : AV) (σ : LO) (Z : ZT) : Prop :=
 cA P zfm [x1] σ fun a s =>
 bP .neq a (iN 0) s fun b s =>
 zn b (z2 Z (iN 0) a s) (cA P zjr [eN,x1] s fun c s =>
 cA P zbP [x0,c] s fun d s =>
 bP .eql d (iN 0) s fun e s =>
 zn e (z2 Z (iN 0) (iN 6) s) (z2 Z d (iN 0) s))
theorem e_r08_Digest : F2 Tryz.prog zlT zqZ := zi [] Tryz.func108
def zjh (P : Program) (x0 x1 : AV) (σ : LO) (Z : ZT) : Prop :=
 zbj x1 σ fun a s =>
 zQ [iN 0,iN 0] s fun b s =>
 fl 0 a s fun c s =>
 bP .lss c (iN 0) s fun d s =>
 gFl d 0 a s fun e s =>
 gF d (bP .geq e (iN 8) s) s fun f s =>
 orC d f s fun g s =>
 gFl g 1 a s fun h s =>
 gF g (bP .lss h (iN 1) s) s fun i s =>
 orC g i s fun j s =>
 gFl j 1 a s fun l s =>
 gF j (bP .gtr l (iN 9007199254740992) s) s fun m s =>
 orC j m s fun n s =>
 zn n (cA P zdT [(iN 1)] s fun o s =>
 zj 2 b o s fun _ s =>
 Z (zC (zah b s true 2) (zC (some eN) (zC (some bF) (some [])))) s) (zg 0 a s fun q s =>
 zo false 1 q s fun r s =>
 zbr x0 s fun u s =>
 zg 1 u s fun w s =>
 zH (some 8) 3 w r s fun y s =>
 zo true 3 y s fun z s =>
 zQ [iN 0,iN 0,iN 0] s fun A t =>
 zP q s t ∧ (zP y s t ∧ (zj 3 A z t fun _ s =>
 fl 1 a s fun C s =>
 fl 0 A s fun D s =>
 bP .eql C D s fun E s =>
 zn E (zg 1 A s fun F s =>
 zo true 2 F s fun G s =>
 zj 2 b G s fun _ s =>
 Z (zC (zah b s true 2) (zC (some eN) (zC (some bF) (some [])))) s) (fl 1 a s fun I s =>
 fl 0 A s fun J s =>
 bP .lss I J s fun K s =>
 zn K (cA P zdT [(iN 7)] s fun L s =>
 zj 2 b L s fun _ s =>
 Z (zC (zah b s true 2) (zC (some eN) (zC (some bF) (some [])))) s) (zg 2 a s fun N s =>
 zo true 5 N s fun O s =>
 cA P zgv [x0,O] s fun Q s =>
 ze Q 0 s fun R s =>
 ze Q 1 s fun S s =>
 cp [iN 0,iN 0] 2 R s fun T s =>
 fl 0 a s fun U s =>
 fl 1 a s fun V s =>
 zo true 2 T s fun W s =>
 zD (zS [iN 0,iN 0,iN 0] [(0, 1,V),(1, 2,W)]) s fun X s =>
 zbr x0 s fun Y s =>
 zg 1 Y s fun a0 s =>
 zH (some 8) 3 a0 U s fun b0 s =>
 zj 3 b0 X s fun _ s =>
 zo true 2 T s fun d0 s =>
 zj 2 b d0 s fun _ s =>
 Z (zC (zah b s true 2) (zC (some S) (zC (some bT) (some [])))) s)))))
theorem zjc : F2 Tryz.prog zfT zjh := zi [.d [(0, 9)] [(7, [30, 34])], .d [(0, 11)] []] Tryz.func109
def zrb (P : Program) (x0 x1 : AV) (σ : LO) (Z : ZT) : Prop :=
 zB 1 1 eN x0 σ fun a s =>
 zbb [x1,a] s fun v s b =>
 zaB v fun c v => zaB v fun d v => bP .geq c (.d (.int .u64 128)) s fun e s =>
 zn e (bP .rem c (.d (.int .u64 128)) s fun f s =>
 zal (.int .u8) f s fun g s =>
 bP .add g (.d (.int .u8 128)) s fun h s =>
 m1 1 [(.d (.int .u8 0))] h s fun i s =>
 zB 1 1 d i s fun j s =>
 bP .quo c (.d (.int .u64 128)) s fun l s =>
 b [l,j] s) (zal (.int .u8) c s fun m s =>
 m1 1 [(.d (.int .u8 0))] m s fun n s =>
 zB 1 1 d n s fun o s =>
 z1 Z o s)
theorem zqR : F2 Tryz.prog zaZ zrb := zi [.l [1, 5] [(9, 11)]] Tryz.func110
def S_r11_num (P : Program) (x0 : AV) (σ : LO) (Z : ZT) : Prop :=
 bP .geq x0 (iN 0) σ fun a s =>
 gTm a x0 s fun b s =>
 gT a (bP .leq b (iN 9007199254740992) s) s fun c s =>
 anC a c s fun d s =>
 z1 Z d s
theorem e_r11_num : F1 Tryz.prog zjK S_r11_num := zi [] Tryz.func111
def S_r11_put (P : Program) (x0 x1 : AV) (σ : LO) (Z : ZT) : Prop :=
 zdb [x1,(iN 0)] σ fun a s =>
 zal (.int .u64) a s fun b s =>
 cA P zaZ [x0,b] s fun c s =>
 z1 Z c s
theorem e_r11_put : F2 Tryz.prog zjJ S_r11_put := zi [] Tryz.func112
def ztu (P : Program) (x0 : AV) (σ : LO) (Z : ZT) : Prop :=
 zbb [x0,(iN 0)] σ fun v s a =>
 zaB v fun b v => zaB v fun c v => zax .str b s fun d s =>
 bP .gtr d (iN 0) s fun e s =>
 zn e (cA P znQ [b] s fun f s =>
 ze f 0 s fun g s =>
 ze f 1 s fun h s =>
 bP .eql h (iN 0) s fun i s =>
 gFm i g s fun j s =>
 gF i (bP .lss j (iN 33) s) s fun l s =>
 orC i l s fun m s =>
 gFm m g s fun n s =>
 gF m (bP .geq n (iN 127) s) s fun o s =>
 gFm m o s fun p s =>
 gTm p g s fun q s =>
 gT p (bP .lss q (iN 160) s) s fun r s =>
 gF m (anC p r s) s fun u s =>
 orC m u s fun w s =>
 gFm w g s fun y s =>
 gF w (bP .eql y (iN 47) s) s fun z s =>
 orC w z s fun A s =>
 gFm A g s fun B s =>
 gF A (bP .eql B (iN 65533) s) s fun C s =>
 orC A C s fun D s =>
 gFm D c s fun E s =>
 gF D (bP .geq E (iN 16) s) s fun F s =>
 orC D F s fun G s =>
 zn G (z1 Z (iN 0) s) (bP .add c (iN 1) s fun H s =>
 zcB .str b (some h) none none s fun I s =>
 a [I,H] s)) (z1 Z c s)
theorem e_r06_Runes : F1 Tryz.prog znR ztu := zi [.l [0, 3] [(2, 1),(4, 41)]] Tryz.func113
def zjk (P : Program) (x0 x1 x2 x3 : AV) (σ : LO) (Z : ZT) : Prop :=
 bP .lss x1 x2 σ fun a s =>
 gFm a x1 s fun b s =>
 gFm a x3 s fun c s =>
 gF a (bP .gtr b c s) s fun d s =>
 orC a d s fun e s =>
 zn e (cA P zap [x0,(iN 100)] s fun _ s =>
 Z (some []) s) (Z (some []) s)
theorem zpe : F4 Tryz.prog zau zjk := zi [] Tryz.func114
def zhx (P : Program) (x0 x1 : AV) (σ : LO) (Z : ZT) : Prop :=
 nfl 0 x0 σ fun a s =>
 bP .eql a (iN 0) s fun b s =>
 zn b (zbr x0 s fun c s =>
 zg 0 c s fun d s =>
 zj 1 d x1 s fun _ s =>
 Z (some []) s) (Z (some []) s)
theorem znd : F2 Tryz.prog zap zhx := zi [] Tryz.func115
def zgq (P : Program) (x0 x1 : AV) (σ : LO) (Z : ZT) : Prop :=
 cA P zau [x0,x1,(iN 0),(iN 12)] σ fun _ s =>
 Z (some []) s
theorem zlG : F2 Tryz.prog zaR zgq := zi [] Tryz.func118
def ziG (P : Program) (x0 x1 : AV) (σ : LO) (Z : ZT) : Prop :=
 cA P zau [x0,x1,(iN 0),(iN 9007199254740992)] σ fun _ s =>
 Z (some []) s
theorem zoi : F2 Tryz.prog zag ziG := zi [] Tryz.func119
def ziF (P : Program) (x0 x1 : AV) (σ : LO) (Z : ZT) : Prop :=
 cA P zau [x0,x1,(iN 1),(iN 9007199254740992)] σ fun _ s =>
 Z (some []) s
theorem zoh : F2 Tryz.prog zbR ziF := zi [] Tryz.func120
def zhA (P : Program) (x0 x1 : AV) (σ : LO) (Z : ZT) : Prop :=
 zbj x1 σ fun a s =>
 fl 0 a s fun b s =>
 cA P zag [x0,b] s fun _ s =>
 fl 1 a s fun d s =>
 cA P zag [x0,d] s fun _ s =>
 (fun (f : LO → Prop) => fl 0 a s fun i s =>
 bP .eql i (iN 0) s fun j s =>
 fl 1 a s fun l s =>
 bP .eql l (iN 0) s fun m s =>
 zcF .neq .bool j m s fun n s =>
 gFl n 0 a s fun o s =>
 gF n (bP .eql o (iN 0) s) s fun p s =>
 gFm n p s fun q s =>
 gTl q 2 a s fun r s =>
 gT q (zax .sl r s) s fun u s =>
 gT q (bP .gtr u (iN 0) s) s fun w s =>
 gF n (anC q w s) s fun y s =>
 orC n y s fun z s =>
 zn z (cA P zap [x0,(iN 100)] s fun _ s =>
 f s) (f s))
 (fun  s => fl 2 a s fun g s =>
 cA P zbU [x0,g] s fun _ s =>
 Z (some []) s)
theorem zng : F2 Tryz.prog zcc zhA := zi [] Tryz.func123
def zhz (P : Program) (x0 x1 x2 : AV) (σ : LO) (Z : ZT) : Prop :=
 cA P zau [x0,x1,(iN 0),x2] σ fun _ s =>
 Z (some []) s
theorem znf : F3 Tryz.prog zaH zhz := zi [] Tryz.func124
def zhy (P : Program) (x0 x1 : AV) (σ : LO) (Z : ZT) : Prop :=
 cA P zoM [x1] σ fun a s =>
 unC .not a s fun b s =>
 zn b (cA P zap [x0,(iN 61)] s fun _ s =>
 Z (some []) s) (Z (some []) s)
theorem zne : F2 Tryz.prog zcb zhy := zi [] Tryz.func125
def zes (P : Program) (x0 x1 : AV) (σ : LO) (Z : ZT) : Prop :=
 zbj x1 σ fun a s =>
 fl 0 a s fun b s =>
 cA P zcb [x0,b] s fun _ s =>
 fl 1 a s fun d s =>
 cA P zag [x0,d] s fun _ s =>
 fl 2 a s fun f s =>
 zax .sl f s fun g s =>
 cA P zaH [x0,g,(iN 64)] s fun _ s =>
 fl 3 a s fun i s =>
 zax .sl i s fun j s =>
 cA P zaH [x0,j,(iN 64)] s fun _ s =>
 fl 3 a s fun m s =>
 zax .sl m s fun n s =>
 zbb [(iN 0)] s fun v s o =>
 zaB v fun p v => bP .lss p n s fun q s =>
 zn q (il true 5 5 m p s fun r s =>
 cp [iN 0,iN 0,iN 0,iN 0,iN 0] 5 r s fun u s =>
 fl 0 u s fun w s =>
 cA P zbR [x0,w] s fun _ s =>
 fl 1 u s fun z s =>
 fl 2 u s fun A s =>
 fl 3 u s fun B s =>
 fl 4 u s fun C s =>
 zw false 1 4 (zS (rep [iN 0] 4) [(0, 1,z),(1, 1,A),(2, 1,B),(3, 1,C)]) s fun D s =>
 zax .sl D s fun E s =>
 zbb [(iN 0)] s fun v s F =>
 zaB v fun G v => bP .lss G E s fun H s =>
 zn H (il false 1 1 D G s fun I s =>
 cA P zag [x0,I] s fun _ s =>
 bP .add G (iN 1) s fun K s =>
 F [K] s) (bP .add p (iN 1) s fun L s =>
 o [L] s)) (fl 4 a s fun M s =>
 cA P zag [x0,M] s fun _ s =>
 fl 5 a s fun O s =>
 cA P zaH [x0,O,(iN 16)] s fun _ s =>
 fl 4 a s fun R s =>
 fl 5 a s fun S s =>
 bP .sub S (iN 1) s fun T s =>
 cA P zau [x0,R,(iN 0),T] s fun _ s =>
 fl 6 a s fun V s =>
 zax .sl V s fun W s =>
 cA P zaH [x0,W,(iN 8)] s fun _ s =>
 fl 6 a s fun Y s =>
 zax .sl Y s fun a0 s =>
 zbb [(iN 0)] s fun v s b0 =>
 zaB v fun c0 v => bP .lss c0 a0 s fun d0 s =>
 zn d0 (il false 1 1 Y c0 s fun e0 s =>
 cA P zag [x0,e0] s fun _ s =>
 bP .add c0 (iN 1) s fun g0 s =>
 b0 [g0] s) (zg 7 a s fun h0 s =>
 zo true 3 h0 s fun i0 s =>
 cA P zcc [x0,i0] s fun _ s =>
 Z (some []) s))
theorem zgV : F2 Tryz.prog zcp zes := zi [.l [31] [(5, 1),(7, 1),(32, 26)], .l [49] [(7, 1),(50, 7)], .l [81] [(9, 1),(82, 7)]] Tryz.func126
def zlq (P : Program) (x0 : AV) (σ : LO) (Z : ZT) : Prop :=
 zw false 1 7 (zS (rep [iN 0] 7) [(0, 1,(iN 2)),(1, 1,(iN 3)),(2, 1,(iN 4)),(3, 1,(iN 5)),(4, 1,(iN 6)),(5, 1,(iN 8)),(6, 1,(iN 9))]) σ fun a s =>
 cA P zdk [a,x0] s fun b s =>
 z1 Z b s
theorem zru : F1 Tryz.prog zfo zlq := zi [] Tryz.func127
def ziy (P : Program) (x0 : AV) (σ : LO) (Z : ZT) : Prop :=
 zbj x0 σ fun a s =>
 fl 0 a s fun b s =>
 bP .lss b (iN 0) s fun c s =>
 gFl c 0 a s fun d s =>
 gF c (bP .geq d (iN 21) s) s fun e s =>
 orC c e s fun f s =>
 gFl f 1 a s fun g s =>
 gF f (bP .lss g (iN 1) s) s fun h s =>
 orC f h s fun i s =>
 gFl i 1 a s fun j s =>
 gF i (bP .gtr j (iN 9007199254740992) s) s fun l s =>
 orC i l s fun m s =>
 zn m (z1 Z (iN 81) s) (z1 Z (iN 0) s)
theorem zob : F1 Tryz.prog zdH ziy := zi [] Tryz.func128
def zlr (P : Program) (x0 : AV) (σ : LO) (Z : ZT) : Prop :=
 zbj x0 σ fun a s =>
 zQ zl10 s fun b s =>
 fl 0 a s fun c s =>
 fl 1 a s fun d s =>
 fl 5 a s fun e s =>
 fl 2 a s fun f s =>
 fl 3 a s fun g s =>
 fl 6 a s fun h s =>
 fl 17 a s fun i s =>
 fl 4 a s fun j s =>
 zg 7 a s fun l s =>
 zo true 2 l s fun m s =>
 fl 16 a s fun n s =>
 zg 28 a s fun o s =>
 zo true 2 o s fun p s =>
 zD (zS zl10 [(0, 1,c),(1, 1,d),(2, 1,e),(3, 1,f),(4, 1,g),(5, 1,h),(6, 1,i),(7, 1,j),(8, 2,m),(10, 1,n),(11, 2,p)]) s fun q s =>
 zj 13 b q s fun _ s =>
 Z (zC (zah b s true 13) (some [])) s
theorem zrv : F1 Tryz.prog zfp zlr := zi [] Tryz.func129
def znx (P : Program) (x0 x1 : AV) (σ : LO) (Z : ZT) : Prop :=
 cA P zat [x0,x1,(.fn (.func zfl) [] [])] σ fun a s =>
 z1 Z a s
theorem ztQ : F2 Tryz.prog zfc znx := zi [] Tryz.func130
def zjj (P : Program) (x0 x1 : AV) (σ : LO) (Z : ZT) : Prop :=
 zbj x0 σ fun a s =>
 zbj x1 s fun b s =>
 fl 0 a s fun c s =>
 fl 0 b s fun d s =>
 bP .eql c d s fun e s =>
 gTl e 1 a s fun f s =>
 gTl e 1 b s fun g s =>
 gT e (bP .eql f g s) s fun h s =>
 anC e h s fun i s =>
 gTl i 2 a s fun j s =>
 gTl i 2 b s fun l s =>
 gT i (cA P zbk [j,l] s) s fun m s =>
 anC i m s fun n s =>
 z1 Z n s
theorem zpd : F2 Tryz.prog zda zjj := zi [] Tryz.func131
end Go.Proofs.YtfgbofkdhfjegaaGreat
