/- The conditions of each function, its slots as variables, and that the logic's conditions are these. Printed by program. -/
import Derived.Test.YtdgcepphjnoalaaGreatNm
import Derived.KernelRfl
set_option linter.all false
set_option maxRecDepth 100000
set_option linter.unusedVariables false
namespace Go.Proofs.YtdgcepphjnoalaaGreat
open Go.AW
def ziS (P : Program) (x0 x1 : AV) (σ : LO) (Z : ZT) : Prop :=
 zaV .sl x1 σ fun a s =>
 zay (.int .u64) a s fun b s =>
 cA P zav [x0, b] s fun c s =>
 zD 1 1 c x1 s fun d s =>
 z1 Z d s
theorem ziI : F2 Tryz.prog zdo ziS := zm [] Tryz.func140
def znl (P : Program) (x0 : AV) (σ : LO) (Z : ZT) : Prop :=
 zR [(.d (.int .u8 0)), (.d (.int .u8 0)), (.d (.int .u8 0)), (.d (.int .u8 0)), (.d (.int .u8 0)), (.d (.int .u8 0)), (.d (.int .u8 0)), (.d (.int .u8 0)), (.d (.int .u8 0)), (.d (.int .u8 0))] σ fun a s =>
 zR [(.d (.int .u8 0)), (.d (.int .u8 0)), (.d (.int .u8 0)), (.d (.int .u8 0)), (.d (.int .u8 0)), (.d (.int .u8 0)), (.d (.int .u8 0)), (.d (.int .u8 0)), (.d (.int .u8 0)), (.d (.int .u8 0))] s fun b s =>
 zec [x0, (iN 0)] s fun v s c =>
 zed v fun d v => zed v fun e v => bP .gtr d (.d (.int .u64 127)) s fun f s =>
 zo f (zay (.int .u8) d s fun g s =>
 bP .or g (.d (.int .u8 128)) s fun h s =>
 zO (some 10) 1 b e s fun i s =>
 zg 1 i h s fun _ s =>
 bP .shr d (.d (.int .u64 7)) s fun l s =>
 bP .add e (iN 1) s fun m s =>
 c [l, m] s) (zay (.int .u8) d s fun n s =>
 zO (some 10) 1 b e s fun o s =>
 zg 1 o n s fun _ s =>
 zi true 10 b s fun q s =>
 bP .add e (iN 1) s fun r s =>
 zg 10 a q s fun _ s =>
 Z (zQ (zaz a s true 10) (zQ (some r) (some []))) s)
theorem e_codec_form : F1 Tryz.prog zjp znl := zm [.l [0, 5] [(6, 11)]] Tryz.func141
def zeR (P : Program) (x0 : AV) (σ : LO) (Z : ZT) : Prop :=
 zaV .sl x0 σ fun a s =>
 zaV .sl x0 s fun b s =>
 zdU (.sl 1) x0 none (some a) (some b) s fun c s =>
 z1 Z c s
theorem zeO : F1 Tryz.prog zdh zeR := zm [] Tryz.func142
def zhW (P : Program) (x0 : AV) (σ : LO) (Z : ZT) : Prop :=
 cA P zbo [x0] σ fun a s =>
 zo a (z1 Z (iN 0) s) (nfl 0 x0 s fun b s =>
 zaV .sl b s fun c s =>
 z1 Z c s)
theorem zmu : F1 Tryz.prog zfm zhW := zm [] Tryz.func143
def zhk (P : Program) (x0 x1 x2 x3 : AV) (σ : LO) (Z : ZT) : Prop :=
 bP .lss x1 x2 σ fun a s =>
 gFm a x1 s fun b s =>
 gFm a x3 s fun c s =>
 gF a (bP .gtr b c s) s fun d s =>
 orC a d s fun e s =>
 zo e (cA P zag [x0, (iN 100)] s fun _ s =>
 Z (some []) s) (Z (some []) s)
theorem zly : F4 Tryz.prog zas zhk := zm [] Tryz.func144
def zfZ (P : Program) (x0 x1 : AV) (σ : LO) (Z : ZT) : Prop :=
 nfl 0 x0 σ fun a s =>
 bP .eql a (iN 0) s fun b s =>
 zo b (zbr x0 s fun c s =>
 zd 0 c s fun d s =>
 zg 1 d x1 s fun _ s =>
 Z (some []) s) (Z (some []) s)
theorem zjZ : F2 Tryz.prog zag zfZ := zm [] Tryz.func145
def zfh (P : Program) (x0 x1 : AV) (σ : LO) (Z : ZT) : Prop :=
 cA P zas [x0, x1, (iN 0), (iN 12)] σ fun _ s =>
 Z (some []) s
theorem zjb : F2 Tryz.prog zaw zfh := zm [] Tryz.func148
def zgQ (P : Program) (x0 x1 : AV) (σ : LO) (Z : ZT) : Prop :=
 cA P zas [x0, x1, (iN 0), (iN 9007199254740992)] σ fun _ s =>
 Z (some []) s
theorem zkN : F2 Tryz.prog zaE zgQ := zm [] Tryz.func149
def zgM (P : Program) (x0 : AV) (σ : LO) (Z : ZT) : Prop :=
 zbD x0 σ fun a s =>
 fl 0 a s fun b s =>
 bP .lss b (iN 0) s fun c s =>
 gFl c 0 a s fun d s =>
 gF c (bP .geq d (iN 21) s) s fun e s =>
 orC c e s fun f s =>
 gFl f 1 a s fun g s =>
 gF f (bP .lss g (iN 1) s) s fun h s =>
 orC f h s fun i s =>
 gFl i 1 a s fun j s =>
 gF i (bP .gtr j (iN 9007199254740992) s) s fun l s =>
 orC i l s fun m s =>
 zo m (z1 Z (iN 81) s) (z1 Z (iN 0) s)
theorem zkJ : F1 Tryz.prog zdi zgM := zm [] Tryz.func157
def ziQ (P : Program) (x0 : AV) (σ : LO) (Z : ZT) : Prop :=
 zbD x0 σ fun a s =>
 zR zl6 s fun b s =>
 fl 0 a s fun c s =>
 fl 1 a s fun d s =>
 fl 5 a s fun e s =>
 fl 2 a s fun f s =>
 fl 3 a s fun g s =>
 fl 6 a s fun h s =>
 fl 17 a s fun i s =>
 fl 4 a s fun j s =>
 zd 7 a s fun l s =>
 zi true 2 l s fun m s =>
 fl 16 a s fun n s =>
 zd 28 a s fun o s =>
 zi true 2 o s fun p s =>
 zB (zac zl6 [(0, 1, c), (1, 1, d), (2, 1, e), (3, 1, f), (4, 1, g), (5, 1, h), (6, 1, i), (7, 1, j), (8, 2, m), (10, 1, n), (11, 2, p)]) s fun q s =>
 zg 13 b q s fun _ s =>
 Z (zQ (zaz b s true 13) (some [])) s
theorem znx : F1 Tryz.prog zer ziQ := zm [] Tryz.func158
def zkn (P : Program) (x0 x1 : AV) (σ : LO) (Z : ZT) : Prop :=
 cA P zW [x0, x1, (.fn (.func zeq) [] [])] σ fun a s =>
 z1 Z a s
theorem zpo : F2 Tryz.prog zeg zkn := zm [] Tryz.func159
def zhj (P : Program) (x0 x1 : AV) (σ : LO) (Z : ZT) : Prop :=
 zbD x0 σ fun a s =>
 zbD x1 s fun b s =>
 fl 0 a s fun c s =>
 fl 0 b s fun d s =>
 bP .eql c d s fun e s =>
 gTl e 1 a s fun f s =>
 gTl e 1 b s fun g s =>
 gT e (bP .eql f g s) s fun h s =>
 anC e h s fun i s =>
 gTl i 2 a s fun j s =>
 gTl i 2 b s fun l s =>
 gT i (cA P zaK [j, l] s) s fun m s =>
 anC i m s fun n s =>
 z1 Z n s
theorem zlx : F2 Tryz.prog zcK zhj := zm [] Tryz.func160
def zau (P : Program) (x0 x1 x2 : AV) (σ : LO) (Z : ZT) : Prop :=
 zaV .sl x0 σ fun a s =>
 zaV .sl x1 s fun b s =>
 bP .neq a b s fun c s =>
 zo c (z1 Z bF s) (zaV .sl x0 s fun d s =>
 zec [(iN 0)] s fun v s e =>
 zed v fun f v => bP .lss f d s fun g s =>
 zo g (il true 8 8 x0 f s fun h s =>
 zR zl5 s fun i s =>
 zg 8 i h s fun _ s =>
 il true 8 8 x1 f s fun l s =>
 cp zl5 8 l s fun m s =>
 zi true 8 i s fun n s =>
 zi true 8 m s fun o s =>
 zaq P x2 [dm n, dm o] s fun p s =>
 unC .not p s fun q s =>
 zo q (z1 Z bF s) (bP .add f (iN 1) s fun r s =>
 e [r] s)) (z1 Z bT s))
theorem zbt : F3 Tryz.prog zU zau := zm [.l [17] [(6, 4), (18, 14)]] Tryz.func161
def zfY (P : Program) (x0 x1 : AV) (σ : LO) (Z : ZT) : Prop :=
 zbD x0 σ fun a s =>
 zbD x1 s fun b s =>
 fl 0 a s fun c s =>
 fl 0 b s fun d s =>
 bP .eql c d s fun e s =>
 gTl e 1 a s fun f s =>
 gTl e 1 b s fun g s =>
 gT e (bP .eql f g s) s fun h s =>
 anC e h s fun i s =>
 gT i (zd 2 a s) s fun j s =>
 gT i (zi true 3 j s) s fun l s =>
 gT i (zd 2 b s) s fun m s =>
 gT i (zi true 3 m s) s fun n s =>
 gT i (cA P zcK [l, n] s) s fun o s =>
 anC i o s fun p s =>
 gTl p 5 a s fun q s =>
 gTl p 5 b s fun r s =>
 gT p (cA P zH [q, r, (.fn (.func zcA) [] [])] s) s fun u s =>
 anC p u s fun w s =>
 gT w (zd 6 a s) s fun y s =>
 gT w (zi true 2 y s) s fun z s =>
 gT w (zd 6 b s) s fun A s =>
 gT w (zi true 2 A s) s fun B s =>
 gT w (zds .eql (.ints 2) z B s) s fun C s =>
 anC w C s fun D s =>
 z1 Z D s
theorem zjY : F2 Tryz.prog zcU zfY := zm [] Tryz.func162
def zaB (P : Program) (x0 x1 x2 : AV) (σ : LO) (Z : ZT) : Prop :=
 zaV .sl x0 σ fun a s =>
 zaV .sl x1 s fun b s =>
 bP .neq a b s fun c s =>
 zo c (z1 Z bF s) (zaV .sl x0 s fun d s =>
 zec [(iN 0)] s fun v s e =>
 zed v fun f v => bP .lss f d s fun g s =>
 zo g (il true 5 5 x0 f s fun h s =>
 zR [iN 0, iN 0, eN, iN 0, iN 0] s fun i s =>
 zg 5 i h s fun _ s =>
 il true 5 5 x1 f s fun l s =>
 cp [iN 0, iN 0, eN, iN 0, iN 0] 5 l s fun m s =>
 zi true 5 i s fun n s =>
 zi true 5 m s fun o s =>
 zaq P x2 [dm n, dm o] s fun p s =>
 unC .not p s fun q s =>
 zo q (z1 Z bF s) (bP .add f (iN 1) s fun r s =>
 e [r] s)) (z1 Z bT s))
theorem zbH : F3 Tryz.prog zaa zaB := zm [.l [17] [(6, 4), (18, 14)]] Tryz.func163
def zgO (P : Program) (x0 x1 : AV) (σ : LO) (Z : ZT) : Prop :=
 zbD x0 σ fun a s =>
 zbD x1 s fun b s =>
 fl 0 a s fun c s =>
 fl 0 b s fun d s =>
 bP .eql c d s fun e s =>
 gTl e 1 a s fun f s =>
 gTl e 1 b s fun g s =>
 gT e (bP .eql f g s) s fun h s =>
 anC e h s fun i s =>
 gTl i 2 a s fun j s =>
 gTl i 2 b s fun l s =>
 gT i (cA P zeg [j, l] s) s fun m s =>
 anC i m s fun n s =>
 gT n (zd 3 a s) s fun o s =>
 gT n (zi true 2 o s) s fun p s =>
 gT n (zd 3 b s) s fun q s =>
 gT n (zi true 2 q s) s fun r s =>
 gT n (zds .eql (.ints 2) p r s) s fun u s =>
 anC n u s fun w s =>
 z1 Z w s
theorem zkL : F2 Tryz.prog zdj zgO := zm [] Tryz.func164
def zgN (P : Program) (x0 x1 : AV) (σ : LO) (Z : ZT) : Prop :=
 zbD x0 σ fun a s =>
 zbD x1 s fun b s =>
 fl 0 a s fun c s =>
 fl 0 b s fun d s =>
 bP .eql c d s fun e s =>
 gTl e 1 a s fun f s =>
 gTl e 1 b s fun g s =>
 gT e (bP .eql f g s) s fun h s =>
 anC e h s fun i s =>
 gTl i 2 a s fun j s =>
 gTl i 2 b s fun l s =>
 gT i (cA P zeK [j, l] s) s fun m s =>
 anC i m s fun n s =>
 gTl n 3 a s fun o s =>
 gTl n 3 b s fun p s =>
 gT n (cA P zaY [o, p] s) s fun q s =>
 anC n q s fun r s =>
 gTl r 4 a s fun u s =>
 gTl r 4 b s fun w s =>
 gT r (bP .eql u w s) s fun y s =>
 anC r y s fun z s =>
 gTl z 5 a s fun A s =>
 gTl z 5 b s fun B s =>
 gT z (bP .eql A B s) s fun C s =>
 anC z C s fun D s =>
 gTl D 6 a s fun E s =>
 gTl D 6 b s fun F s =>
 gT D (cA P zaZ [E, F] s) s fun G s =>
 anC D G s fun H s =>
 gT H (zd 7 a s) s fun I s =>
 gT H (zi true 3 I s) s fun J s =>
 gT H (zd 7 b s) s fun K s =>
 gT H (zi true 3 K s) s fun L s =>
 gT H (cA P zcK [J, L] s) s fun M s =>
 anC H M s fun N s =>
 z1 Z N s
theorem zkK : F2 Tryz.prog zew zgN := zm [] Tryz.func165
def zeo (P : Program) (x0 x1 : AV) (σ : LO) (Z : ZT) : Prop :=
 cA P zdt [x0, x1] σ fun a s =>
 bP .geq a (iN 0) s fun b s =>
 z1 Z b s
theorem zhv : F2 Tryz.prog zcN zeo := zm [] Tryz.func166
def zfL (P : Program) (x0 x1 : AV) (σ : LO) (Z : ZT) : Prop :=
 zbD x1 σ fun a s =>
 zbr x0 s fun b s =>
 zd 0 b s fun c s =>
 fl 0 c s fun d s =>
 zi true 2 a s fun e s =>
 cA P zfk [d, e] s fun f s =>
 zbr x0 s fun g s =>
 zd 0 g s fun h s =>
 zd 0 h s fun i s =>
 zg 1 i f s fun _ s =>
 Z (some []) s
theorem zfI : F2 Tryz.prog zbJ zfL := zm [.d [(0, 12)] []] Tryz.func167
def zff (P : Program) (x0 : AV) (σ : LO) (Z : ZT) : Prop :=
 zbr x0 σ fun a s =>
 zd 0 a s fun b s =>
 fl 0 b s fun c s =>
 zaV .sl c s fun d s =>
 bP .gtr d (iN 262144) s fun e s =>
 zo e (z2 Z eN (iN 3) s) (zbr x0 s fun f s =>
 zd 0 f s fun g s =>
 fl 0 g s fun h s =>
 z2 Z h (iN 0) s)
theorem ziZ : F1 Tryz.prog zdu zff := zm [] Tryz.func168
def zhi (P : Program) (x0 x1 : AV) (σ : LO) (Z : ZT) : Prop :=
 zaV .sl x1 σ fun a s =>
 zec [(iN 0)] s fun v s b =>
 zed v fun c v => bP .lss c a s fun d s =>
 zo d (il false 1 1 x1 c s fun e s =>
 nfl 0 x0 s fun f s =>
 zay (.int .u64) e s fun g s =>
 cA P zav [f, g] s fun h s =>
 zbr x0 s fun i s =>
 zd 0 i s fun j s =>
 zg 1 j h s fun _ s =>
 bP .add c (iN 1) s fun m s =>
 b [m] s) (Z (some []) s)
theorem zhd : F2 Tryz.prog zY zhi := zm [.l [8] [(5, 1), (9, 14)]] Tryz.func169
def zkr (P : Program) (x0 x1 : AV) (σ : LO) (Z : ZT) : Prop :=
 zbD x1 σ fun a s =>
 fl 0 a s fun b s =>
 zeb [b, (iN 0)] s fun c s =>
 zay (.int .u64) c s fun d s =>
 zd 1 a s fun e s =>
 zi false 1 e s fun f s =>
 zeb [f, (iN 0)] s fun g s =>
 zay (.int .u64) g s fun h s =>
 cA P zav [x0, d] s fun i t =>
 zI e s t ∧ (cA P zav [i, h] t fun j s =>
 z1 Z j s)
theorem zps : F2 Tryz.prog zhs zkr := zm [.d [(0, 5), (6, 4), (5, 1), (10, 2)] [(5, [11])]] Tryz.func171
def zcT (P : Program) (x0 : AV) (σ : LO) (Z : ZT) : Prop :=
 zZ false x0 σ fun a s =>
 zo a (z1 Z eN s) (zn false 2 0 (zac (rep [iN 0, iN 0] 0) []) s fun b s =>
 zD 2 16 b x0 s fun c s =>
 z1 Z c s)
theorem zeY : F1 Tryz.prog zaL zcT := zm [] Tryz.func178
def zbz (P : Program) (x0 : AV) (σ : LO) (Z : ZT) : Prop :=
 zZ false x0 σ fun a s =>
 zo a (z1 Z eN s) (zn true 7 0 (zac (rep zl7 0) []) s fun b s =>
 zgp 7 88 b x0 s fun c s =>
 z1 Z c s)
theorem zbx : F1 Tryz.prog zaI zbz := zjP [] Tryz.func179
end Go.Proofs.YtdgcepphjnoalaaGreat
