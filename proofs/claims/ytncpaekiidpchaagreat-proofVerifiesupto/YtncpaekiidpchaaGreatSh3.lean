/- The conditions of each function, its slots as variables, and that the logic's conditions are these. Printed by program. -/
import Derived.Test.YtncpaekiidpchaaGreatNm
import Derived.KernelRfl
set_option linter.all false
set_option maxRecDepth 100000
namespace Go.Proofs.YtncpaekiidpchaaGreat
open Go.AW
def zkL (P : Program) (x0 x1 : AV) (σ : LO) (Z : ZT) : Prop :=
 zas .sl x1 σ fun a s =>
 zah (.int .u64) a s fun b s =>
 cA P zcj [x0,b] s fun c s =>
 zw 1 1 c x1 s fun d s =>
 z1 Z d s
theorem zkx : F2 Tryz.prog zeE zkL := zl [] Tryz.func94 (by decide +kernel) (by kernel_rfl) fun {_ _ _ _ _} => cast (by kernel_rfl)
def zlW (P : Program) (x0 x1 : AV) (σ : LO) (Z : ZT) : Prop :=
 bP .lss x0 (iN 0) σ fun a s =>
 gFm a x0 s fun b s =>
 gFm a x1 s fun c s =>
 gF a (bP .geq b c s) s fun d s =>
 orC a d s fun e s =>
 zn e (z1 Z (iN 0) s) (zaM [x0,x1,(iN 0)] s fun v s f =>
 zau v fun g v => zau v fun h v => zau v fun i v => bP .gtr h (iN 1) s fun j s =>
 zn j (cA P zdw [h] s fun l s =>
 (fun (m : AV → AV → LO → Prop) => bP .lss g l s fun q s =>
 zn q (m g l s) (bP .sub g l s fun r s =>
 bP .sub h l s fun u s =>
 m r u s))
 (fun n o s => bP .add i (iN 1) s fun p s =>
 f [n,o,p] s)) (z1 Z i s))
theorem zlC : F2 Tryz.prog zhw zlW := zl [.l [0, 1, 5] [(6, 1),(14, 16)]] Tryz.func95 (by decide +kernel) (by kernel_rfl) fun {_ _ _ _ _} => cast (by kernel_rfl)
def zjD (P : Program) (x0 x1 x2 x3 x4 x5 : AV) (σ : LO) (Z : ZT) : Prop :=
 bP .eql x1 (iN 1) σ fun a s =>
 zn a (zp false 1 x3 s fun b s =>
 zp false 1 x4 s fun c s =>
 cA P zgX [c] s fun d t =>
 zM x3 s t ∧ (cA P zaN [b,d] t fun e s =>
 ze e 0 s fun f s =>
 ze e 1 s fun g s =>
 z2 Z f g s)) (zas .sl x2 s fun h s =>
 bP .sub h (iN 1) s fun i s =>
 cA P zdw [x1] s fun j s =>
 bP .lss x0 j s fun l s =>
 zn l (zp false 1 x5 s fun m s =>
 zbH (.sl 1) x2 none (some i) none s fun n s =>
 zak P m [dm x0,dm j,dm n] s fun o s =>
 ze o 0 s fun p s =>
 ze o 1 s fun q s =>
 unC .not q s fun r s =>
 zn r (z2 Z (iN 0) bF s) (zp false 1 x3 s fun u s =>
 il false 1 1 x2 i s fun w s =>
 cA P zff [p,w] s fun y t =>
 zM x3 s t ∧ (cA P zaN [u,y] t fun z s =>
 ze z 0 s fun A s =>
 ze z 1 s fun B s =>
 z2 Z A B s))) (zp false 1 x5 s fun C s =>
 bP .sub x0 j s fun D s =>
 bP .sub x1 j s fun E s =>
 zbH (.sl 1) x2 none (some i) none s fun F s =>
 zak P C [dm D,dm E,dm F] s fun G s =>
 ze G 0 s fun H s =>
 ze G 1 s fun I s =>
 unC .not I s fun J s =>
 zn J (z2 Z (iN 0) bF s) (zp false 1 x3 s fun K s =>
 il false 1 1 x2 i s fun L s =>
 cA P zff [L,H] s fun M t =>
 zM x3 s t ∧ (cA P zaN [K,M] t fun N s =>
 ze N 0 s fun O s =>
 ze N 1 s fun Q s =>
 z2 Z O Q s))))
theorem zjo : F6 Tryz.prog zcP zjD := zl [.d [(0, 8)] [(2, [3])], .d [(0, 12)] [], .d [(0, 12)] [(6, [3])], .d [(0, 16)] [], .d [(0, 12)] [(6, [3])]] Tryz.func96 (by decide +kernel) (by kernel_rfl) fun {_ _ _ _ _ _ _ _ _} => cast (by kernel_rfl)
def zoH (P : Program) (x0 : AV) (σ : LO) (Z : ZT) : Prop :=
 m1 1 [(.d (.int .u8 0))] (.d (.int .u8 0)) σ fun a s =>
 zw 1 1 a x0 s fun b s =>
 z1 Z b s
theorem zoe : F1 Tryz.prog zgX zoH := zl [] Tryz.func97 (by decide +kernel) (by kernel_rfl) fun {_ _ _ _} => cast (by kernel_rfl)
def zmZ (P : Program) (x0 : AV) (σ : LO) (Z : ZT) : Prop :=
 bP .lss x0 (iN 2) σ fun a s =>
 zn a (z1 Z (iN 0) s) (zaM [(iN 1)] s fun v s b =>
 zau v fun c v => bP .sub x0 c s fun d s =>
 bP .lss c d s fun e s =>
 zn e (bP .mul c (iN 2) s fun f s =>
 b [f] s) (z1 Z c s))
theorem zmM : F1 Tryz.prog zdw zmZ := zl [.l [3] [(6, 7)]] Tryz.func98 (by decide +kernel) (by kernel_rfl) fun {_ _ _ _} => cast (by kernel_rfl)
def zoG (P : Program) (x0 x1 : AV) (σ : LO) (Z : ZT) : Prop :=
 m1 1 [(.d (.int .u8 0))] (.d (.int .u8 1)) σ fun a s =>
 zcs [(iN 0),x0] s fun b s =>
 zah (.int .u64) b s fun c s =>
 cA P zcj [a,c] s fun d s =>
 zcs [(iN 0),x1] s fun e s =>
 zah (.int .u64) e s fun f s =>
 cA P zcj [d,f] s fun g s =>
 z1 Z g s
theorem zod : F2 Tryz.prog zff zoG := zl [] Tryz.func99 (by decide +kernel) (by kernel_rfl) fun {_ _ _ _ _} => cast (by kernel_rfl)
def zsF (P : Program) (x0 : AV) (σ : LO) (Z : ZT) : Prop :=
 zaM [(iN 0)] σ fun v s a =>
 zau v fun b v => zas .sl x0 s fun c s =>
 bP .lss b c s fun d s =>
 zn d (il false 1 1 x0 b s fun e s =>
 bP .neq e (iN 0) s fun f s =>
 zn f (il false 1 1 x0 b s fun g s =>
 z1 Z g s) (bP .add b (iN 1) s fun h s =>
 a [h] s)) (z1 Z (iN 0) s)
theorem zrU : F1 Tryz.prog zfA zsF := zl [.l [3] [(2, 1),(4, 15)]] Tryz.func100 (by decide +kernel) (by kernel_rfl) fun {_ _ _ _} => cast (by kernel_rfl)
def zuO (P : Program) (x0 : AV) (σ : LO) (Z : ZT) : Prop :=
 cA P ziZ [x0] σ fun a s =>
 unC .not a s fun b s =>
 zn b (z1 Z (iN 61) s) (z1 Z (iN 0) s)
theorem zub : F1 Tryz.prog zph zuO := zl [] Tryz.func101 (by decide +kernel) (by kernel_rfl) fun {_ _ _ _} => cast (by kernel_rfl)
def S_r10_num (P : Program) (x0 : AV) (σ : LO) (Z : ZT) : Prop :=
 cA P zjS [x0,(iN 0),(iN 9007199254740992)] σ fun a s =>
 z1 Z a s
theorem e_r10_num : F1 Tryz.prog zdM S_r10_num := zl [] Tryz.func102 (by decide +kernel) (by kernel_rfl) fun {_ _ _ _} => cast (by kernel_rfl)
def S_r10_in (P : Program) (x0 x1 x2 : AV) (σ : LO) (Z : ZT) : Prop :=
 bP .lss x0 x1 σ fun a s =>
 gFm a x0 s fun b s =>
 gFm a x2 s fun c s =>
 gF a (bP .gtr b c s) s fun d s =>
 orC a d s fun e s =>
 zn e (z1 Z (iN 100) s) (z1 Z (iN 0) s)
theorem e_r10_in : F3 Tryz.prog zjS S_r10_in := zl [] Tryz.func103 (by decide +kernel) (by kernel_rfl) fun {_ _ _ _ _ _} => cast (by kernel_rfl)
def zjy (P : Program) (x0 : AV) (σ : LO) (Z : ZT) : Prop :=
 zaV x0 σ fun a s =>
 fl 0 a s fun b s =>
 zk 1 a s fun c s =>
 zp false 1 c s fun d s =>
 zk 2 a s fun e s =>
 zp false 1 e s fun f s =>
 zk 3 a s fun g s =>
 zp false 1 g s fun h s =>
 zk 4 a s fun i s =>
 zp false 1 i s fun j s =>
 cA P zrx [b] s fun l t =>
 zM c s t ∧ (zM e s t ∧ (zM g s t ∧ (zM i s t ∧ (cA P zdM [d] t fun m s =>
 zM e t s ∧ (zM g t s ∧ (zM i t s ∧ (cA P zdM [f] s fun n t =>
 zM g s t ∧ (zM i s t ∧ (cA P zdM [h] t fun o s =>
 zM i t s ∧ (cA P zdM [j] s fun p s =>
 zr false 1 5 (zR (rep [iN 0] 5) [(0, 1,l),(1, 1,m),(2, 1,n),(3, 1,o),(4, 1,p)]) s fun q s =>
 cA P zfA [q] s fun r s =>
 z1 Z r s))))))))))
theorem zjk : F1 Tryz.prog zfB zjy := zl [.d [(0, 2),(3, 2),(6, 2),(9, 2),(12, 2),(2, 1),(5, 1),(8, 1),(11, 1),(14, 4)] [(2, [6, 9, 12, 15]),(5, [9, 12, 15]),(8, [12, 15]),(11, [15])]] Tryz.func104 (by decide +kernel) (by kernel_rfl) fun {_ _ _ _} => cast (by kernel_rfl)
def zlP (P : Program) (x0 : AV) (σ : LO) (Z : ZT) : Prop :=
 zaV x0 σ fun a s =>
 fl 0 a s fun b s =>
 zk 1 a s fun c s =>
 zp false 1 c s fun d s =>
 cA P zdM [b] s fun e t =>
 zM c s t ∧ (cA P zdM [d] t fun f s =>
 zr false 1 2 (zR (rep [iN 0] 2) [(0, 1,e),(1, 1,f)]) s fun g s =>
 cA P zfA [g] s fun h s =>
 bP .neq h (iN 0) s fun i s =>
 zn i (z1 Z h s) (fl 0 a s fun j s =>
 bP .eql j (iN 0) s fun l s =>
 gTl l 1 a s fun m s =>
 gT l (bP .neq m (iN 0) s) s fun n s =>
 gTm l n s fun o s =>
 gFl o 2 a s fun p s =>
 gF o (zas .sl p s) s fun q s =>
 gF o (bP .gtr q (iN 0) s) s fun r s =>
 gT l (orC o r s) s fun u s =>
 anC l u s fun w s =>
 gFl w 0 a s fun y s =>
 gF w (bP .gtr y (iN 0) s) s fun z s =>
 gFm w z s fun A s =>
 gTl A 1 a s fun B s =>
 gT A (bP .eql B (iN 0) s) s fun C s =>
 gF w (anC A C s) s fun D s =>
 orC w D s fun E s =>
 zn E (z1 Z (iN 100) s) (fl 2 a s fun F s =>
 cA P zjR [F] s fun G s =>
 z1 Z G s)))
theorem zlv : F1 Tryz.prog zho zlP := zl [.d [(0, 2),(3, 2),(2, 1),(5, 4)] [(2, [7])]] Tryz.func105 (by decide +kernel) (by kernel_rfl) fun {_ _ _ _} => cast (by kernel_rfl)
def zqy (P : Program) (x0 x1 : AV) (σ : LO) (Z : ZT) : Prop :=
 zw 1 1 eN x0 σ fun a s =>
 zaM [x1,a] s fun v s b =>
 zau v fun c v => zau v fun d v => bP .geq c (.d (.int .u64 128)) s fun e s =>
 zn e (bP .rem c (.d (.int .u64 128)) s fun f s =>
 zah (.int .u8) f s fun g s =>
 bP .add g (.d (.int .u8 128)) s fun h s =>
 m1 1 [(.d (.int .u8 0))] h s fun i s =>
 zw 1 1 d i s fun j s =>
 bP .quo c (.d (.int .u64 128)) s fun l s =>
 b [l,j] s) (zah (.int .u8) c s fun m s =>
 m1 1 [(.d (.int .u8 0))] m s fun n s =>
 zw 1 1 d n s fun o s =>
 z1 Z o s)
theorem zqf : F2 Tryz.prog zaH zqy := zl [.l [1, 5] [(9, 11)]] Tryz.func106 (by decide +kernel) (by kernel_rfl) fun {_ _ _ _ _} => cast (by kernel_rfl)
def zuW (P : Program) (x0 x1 : AV) (σ : LO) (Z : ZT) : Prop :=
 zah .toStr x0 σ fun a s =>
 zah .toStr x1 s fun b s =>
 bP .eql a b s fun c s =>
 z1 Z c s
theorem zuj : F2 Tryz.prog zpl zuW := zl [] Tryz.func107 (by decide +kernel) (by kernel_rfl) fun {_ _ _ _ _} => cast (by kernel_rfl)
def zgK (P : Program) (x0 x1 : AV) (σ : LO) (Z : ZT) : Prop :=
 zaV x1 σ fun a s =>
 zp true 3 a s fun b s =>
 cA P zpd [b] s fun c s =>
 zn c (z1 Z bT s) (zk 2 a s fun d s =>
 zp false 1 d s fun e s =>
 zas .sl e s fun f s =>
 nfl 0 x0 s fun g s =>
 cA P zrv [g] s fun h t =>
 zM d s t ∧ (bP .lss f h t fun i s =>
 zn i (z1 Z bF s) (zaM [(iN 0)] s fun v s j =>
 zau v fun l v => fl 2 a s fun m s =>
 zas .sl m s fun n s =>
 bP .lss l n s fun o s =>
 zn o (fl 0 a s fun p s =>
 fl 1 a s fun q s =>
 fl 2 a s fun r s =>
 zG none 2 r l s fun u s =>
 fl 0 u s fun w s =>
 cA P zgp [x0,p,q,w] s fun y s =>
 unC .not y s fun z s =>
 gFm z l s fun A s =>
 gF z (bP .gtr A (iN 0) s) s fun B s =>
 gFm z B s fun C s =>
 gTl C 2 a s fun D s =>
 gTm C l s fun E s =>
 gT C (zG none 2 D E s) s fun F s =>
 gTl C 0 F s fun G s =>
 gTl C 2 a s fun H s =>
 gTm C l s fun I s =>
 gT C (bP .sub I (iN 1) s) s fun J s =>
 gT C (zG none 2 H J s) s fun K s =>
 gTl C 0 K s fun L s =>
 gT C (bP .leq G L s) s fun M s =>
 gF z (anC C M s) s fun N s =>
 orC z N s fun O s =>
 zn O (z1 Z bF s) (bP .add l (iN 1) s fun Q s =>
 j [Q] s)) (z1 Z bT s))))
theorem zgA : F2 Tryz.prog zep zgK := zl [.d [(0, 9)] [(7, [8])], .l [5] [(4, 1),(17, 40)], .d [(0, 33)] []] Tryz.func108 (by decide +kernel) (by kernel_rfl) fun {_ _ _ _ _} => cast (by kernel_rfl)
def zlO (P : Program) (x0 x1 x2 x3 x4 x5 x6 x7 : AV) (σ : LO) (Z : ZT) : Prop :=
 zaV x2 σ fun a s =>
 cA P znN [x4,x5,x6,x7] s fun b s =>
 gTm b x0 s fun c s =>
 gTm b x1 s fun d s =>
 gT b (zp true 2 a s) s fun e s =>
 gTm b x3 s fun f s =>
 gTm b x4 s fun g s =>
 gTm b x5 s fun h s =>
 gTm b x6 s fun i s =>
 gTm b x7 s fun j s =>
 gT b (cA P zeZ [g,h,i,j] s) s fun l t =>
 zM a s t ∧ (gT b (cA P zle [c,d,e,f,l] t) t fun m s =>
 anC b m s fun n s =>
 z1 Z n s)
theorem zlu : F8 Tryz.prog zhn zlO := zl [.d [(0, 18)] [(14, [10])]] Tryz.func109 (by decide +kernel) (by kernel_rfl) fun {_ _ _ _ _ _ _ _ _ _ _} => cast (by kernel_rfl)
def zmU (P : Program) (x0 x1 : AV) (σ : LO) (Z : ZT) : Prop :=
 zas .sl x1 σ fun a s =>
 zah (.int .u64) a s fun b s =>
 cA P zaH [x0,b] s fun c s =>
 zw 1 1 c x1 s fun d s =>
 z1 Z d s
theorem zmH : F2 Tryz.prog zaS zmU := zl [] Tryz.func110 (by decide +kernel) (by kernel_rfl) fun {_ _ _ _ _} => cast (by kernel_rfl)
def S_r07_put (P : Program) (x0 x1 : AV) (σ : LO) (Z : ZT) : Prop :=
 zah (.int .u64) x1 σ fun a s =>
 cA P zaH [x0,a] s fun b s =>
 z1 Z b s
theorem e_r07_put : F2 Tryz.prog zdO S_r07_put := zl [] Tryz.func111 (by decide +kernel) (by kernel_rfl) fun {_ _ _ _ _} => cast (by kernel_rfl)
def zqx (P : Program) (x0 x1 : AV) (σ : LO) (Z : ZT) : Prop :=
 bP .lss x0 (iN 0) σ fun a s =>
 gFm a x0 s fun b s =>
 gFm a x1 s fun c s =>
 gF a (bP .geq b c s) s fun d s =>
 orC a d s fun e s =>
 zn e (z1 Z (iN 0) s) (zaM [x0,x1,(iN 0)] s fun v s f =>
 zau v fun g v => zau v fun h v => zau v fun i v => bP .gtr h (iN 1) s fun j s =>
 zn j (cA P zfD [h] s fun l s =>
 (fun (m : AV → AV → LO → Prop) => bP .lss g l s fun q s =>
 zn q (m g l s) (bP .sub g l s fun r s =>
 bP .sub h l s fun u s =>
 m r u s))
 (fun n o s => bP .add i (iN 1) s fun p s =>
 f [n,o,p] s)) (z1 Z i s))
theorem zqe : F2 Tryz.prog zli zqx := zl [.l [0, 1, 5] [(6, 1),(14, 16)]] Tryz.func112 (by decide +kernel) (by kernel_rfl) fun {_ _ _ _ _} => cast (by kernel_rfl)
def zsO (P : Program) (x0 x1 x2 x3 x4 : AV) (σ : LO) (Z : ZT) : Prop :=
 bP .eql x3 (iN 1) σ fun a s =>
 zn a (cA P zmi [x1] s fun b s =>
 cA P zbs [x0,b] s fun c s =>
 ze c 0 s fun d s =>
 ze c 1 s fun e s =>
 z2 Z d e s) (cA P zfD [x3] s fun f s =>
 zas .sl x4 s fun g s =>
 bP .sub g (iN 1) s fun h s =>
 il false 1 1 x4 h s fun i s =>
 zas .sl x4 s fun j s =>
 bP .sub j (iN 1) s fun l s =>
 zbH (.sl 1) x4 none (some l) none s fun m s =>
 bP .lss x2 f s fun n s =>
 zn n (cA P zht [x0,x1,x2,f,m] s fun o s =>
 ze o 0 s fun p s =>
 ze o 1 s fun q s =>
 unC .not q s fun r s =>
 zn r (z2 Z (iN 0) bF s) (cA P zja [p,i] s fun u s =>
 cA P zbs [x0,u] s fun w s =>
 ze w 0 s fun y s =>
 ze w 1 s fun z s =>
 z2 Z y z s)) (bP .sub x2 f s fun A s =>
 bP .sub x3 f s fun B s =>
 cA P zht [x0,x1,A,B,m] s fun C s =>
 ze C 0 s fun D s =>
 ze C 1 s fun E s =>
 unC .not E s fun F s =>
 zn F (z2 Z (iN 0) bF s) (cA P zja [i,D] s fun G s =>
 cA P zbs [x0,G] s fun H s =>
 ze H 0 s fun I s =>
 ze H 1 s fun J s =>
 z2 Z I J s)))
theorem zsd : F5 Tryz.prog zht zsO := zl [] Tryz.func113 (by decide +kernel) (by kernel_rfl) fun {_ _ _ _ _ _ _ _} => cast (by kernel_rfl)
def zkI (P : Program) (x0 x1 x2 x3 x4 : AV) (σ : LO) (Z : ZT) : Prop :=
 zas .sl x1 σ fun a s =>
 bP .eql a (iN 1) s fun b s =>
 zn b (Z (some []) s) (zas .sl x1 s fun c s =>
 cA P zdw [c] s fun d s =>
 bP .lss x0 d s fun e s =>
 zn e (zp false 1 x2 s fun f s =>
 zbH (.sl 1) x1 none (some d) none s fun g s =>
 zak P f [dm x0,dm g] s fun _ s =>
 zp false 1 x3 s fun i s =>
 zp false 1 x4 s fun j s =>
 zbH (.sl 1) x1 (some d) none none s fun l s =>
 cA P zdi [j,l] s fun m t =>
 zM x3 s t ∧ (m1 1 [iN 0] m t fun n s =>
 zw 1 8 i n s fun o s =>
 zo 1 x3 o s fun _ s =>
 Z (some []) s)) (zp false 1 x2 s fun q s =>
 bP .sub x0 d s fun r s =>
 zbH (.sl 1) x1 (some d) none none s fun u s =>
 zak P q [dm r,dm u] s fun _ s =>
 zp false 1 x3 s fun y s =>
 zp false 1 x4 s fun z s =>
 zbH (.sl 1) x1 none (some d) none s fun A s =>
 cA P zdi [z,A] s fun B t =>
 zM x3 s t ∧ (m1 1 [iN 0] B t fun C s =>
 zw 1 8 y C s fun D s =>
 zo 1 x3 D s fun _ s =>
 Z (some []) s)))
theorem zku : F5 Tryz.prog zcw zkI := zl [.d [(0, 6)] [], .d [(0, 9)] [(5, [3])], .d [(0, 8)] [], .d [(0, 9)] [(5, [3])]] Tryz.func114 (by decide +kernel) (by kernel_rfl) fun {_ _ _ _ _ _ _ _} => cast (by kernel_rfl)
def zfm (P : Program) (x0 x1 : AV) (σ : LO) (Z : ZT) : Prop :=
 zas .sl x1 σ fun a s =>
 bP .eql a (iN 0) s fun b s =>
 zn b (m1 1 [(.d (.int .u8 0))] (.d (.int .u8 2)) s fun c s =>
 cA P zbx [x0,c] s fun d s =>
 z1 Z d s) (bP .eql a (iN 1) s fun e s =>
 zn e (il false 1 1 x1 (iN 0) s fun f s =>
 cA P zjZ [x0,f] s fun g s =>
 z1 Z g s) (zas .sl x1 s fun h s =>
 cA P zdw [h] s fun i s =>
 zbH (.sl 1) x1 none (some i) none s fun j s =>
 cA P zdi [x0,j] s fun l s =>
 zbH (.sl 1) x1 (some i) none none s fun m s =>
 cA P zdi [x0,m] s fun n s =>
 cA P zjY [x0,l,n] s fun o s =>
 z1 Z o s))
theorem zcA : F2 Tryz.prog zdi zfm := zl [] Tryz.func115 (by decide +kernel) (by kernel_rfl) fun {_ _ _ _ _} => cast (by kernel_rfl)
def zuV (P : Program) (x0 x1 : AV) (σ : LO) (Z : ZT) : Prop :=
 cA P zmi [x1] σ fun a s =>
 cA P zbq [x0,a] s fun b s =>
 z1 Z b s
theorem zui : F2 Tryz.prog zpk zuV := zl [] Tryz.func121 (by decide +kernel) (by kernel_rfl) fun {_ _ _ _ _} => cast (by kernel_rfl)
def zuU (P : Program) (x0 x1 x2 : AV) (σ : LO) (Z : ZT) : Prop :=
 cA P zja [x1,x2] σ fun a s =>
 cA P zbq [x0,a] s fun b s =>
 z1 Z b s
theorem zuh : F3 Tryz.prog zpj zuU := zl [] Tryz.func122 (by decide +kernel) (by kernel_rfl) fun {_ _ _ _ _ _} => cast (by kernel_rfl)
def ziy (P : Program) (x0 : AV) (σ : LO) (Z : ZT) : Prop :=
 nfl 0 x0 σ fun a s =>
 zas .sl a s fun b s =>
 cA P zdO [eN,b] s fun c s =>
 zaM [c,(iN 0)] s fun v s d =>
 zau v fun e v => zau v fun f v => nfl 0 x0 s fun g s =>
 zas .sl g s fun h s =>
 bP .lss f h s fun i s =>
 zn i (nfl 0 x0 s fun j s =>
 il true 4 4 j f s fun l s =>
 cp [(.d (.str [])),iN 0,eN,eN] 4 l s fun m s =>
 fl 0 m s fun n s =>
 zah .toBytes n s fun o s =>
 zk 1 m s fun p s =>
 zp false 1 p s fun q s =>
 cA P zaS [e,o] s fun r t =>
 zM p s t ∧ (cA P zdO [r,q] t fun u s =>
 fl 2 m s fun w s =>
 zas .sl w s fun y s =>
 cA P zdO [u,y] s fun z s =>
 zaM [z,(iN 0)] s fun v s A =>
 zau v fun B v => zau v fun C v => fl 2 m s fun D s =>
 zas .sl D s fun E s =>
 bP .lss C E s fun F s =>
 zn F (fl 2 m s fun G s =>
 il false 1 1 G C s fun H s =>
 cA P zaS [B,H] s fun I s =>
 bP .add C (iN 1) s fun J s =>
 A [I,J] s) (fl 3 m s fun K s =>
 zas .sl K s fun L s =>
 cA P zdO [B,L] s fun M s =>
 zaM [M,(iN 0)] s fun v s N =>
 zau v fun O v => zau v fun Q v => fl 3 m s fun R s =>
 zas .sl R s fun S s =>
 bP .lss Q S s fun T s =>
 zn T (fl 3 m s fun U s =>
 zG none 2 U Q s fun V s =>
 fl 0 V s fun W s =>
 zah .toBytes W s fun X s =>
 zk 3 m s fun Y s =>
 zp false 1 Y s fun a0 s =>
 zG none 2 a0 Q s fun b0 s =>
 zk 1 b0 s fun c0 s =>
 zp false 1 c0 s fun d0 s =>
 cA P zaS [O,X] s fun e0 t =>
 zM Y s t ∧ (zM c0 s t ∧ (cA P zdO [e0,d0] t fun f0 s =>
 bP .add Q (iN 1) s fun g0 s =>
 N [f0,g0] s))) (bP .add f (iN 1) s fun h0 s =>
 d [O,h0] s)))) (zaM [e,(iN 0)] s fun v s i0 =>
 zau v fun j0 v => zau v fun l0 v => bP .lss l0 (iN 8) s fun m0 s =>
 zn m0 (zbr x0 s fun o0 s =>
 zk 1 o0 s fun p0 s =>
 zG (some 8) 3 p0 l0 s fun q0 s =>
 zp true 3 q0 s fun r0 s =>
 cp [iN 0,iN 0,iN 0] 3 r0 s fun u0 s =>
 fl 0 u0 s fun w0 s =>
 zk 1 u0 s fun y0 s =>
 zk 0 y0 s fun z0 s =>
 zp false 1 z0 s fun A0 s =>
 zk 1 u0 s fun B0 s =>
 zk 1 B0 s fun C0 s =>
 zp false 1 C0 s fun D0 s =>
 cA P zdO [j0,w0] s fun E0 t =>
 zM z0 s t ∧ (zM C0 s t ∧ (cA P zdO [E0,A0] t fun F0 s =>
 zM C0 t s ∧ (cA P zdO [F0,D0] s fun G0 s =>
 bP .add l0 (iN 1) s fun H0 s =>
 i0 [G0,H0] s)))) (z1 Z j0 s))
theorem zin : F1 Tryz.prog zfb ziy := zl [.l [3, 4] [(5, 3),(16, 71)], .d [(0, 4),(5, 2),(4, 1),(7, 2)] [(4, [37])], .l [3, 6] [(45, 14)], .l [3, 7] [(64, 23)], .d [(0, 8),(9, 6),(8, 1),(15, 2)] [(8, [80, 84])], .l [3, 8] [(9, 1),(87, 22)], .d [(0, 3),(4, 3),(8, 3),(3, 1),(7, 1),(11, 2)] [(3, [102, 106]),(7, [106])]] Tryz.func123 (by decide +kernel) (by kernel_rfl) fun {_ _ _ _} => cast (by kernel_rfl)
def zsJ (P : Program) (x0 : AV) (σ : LO) (Z : ZT) : Prop :=
 zaV x0 σ fun a s =>
 fl 0 a s fun b s =>
 cA P zlf [b] s fun c s =>
 bP .lss c (iN 0) s fun d s =>
 gFl d 1 a s fun e s =>
 gF d (bP .lss e (iN 1) s) s fun f s =>
 orC d f s fun g s =>
 gFl g 1 a s fun h s =>
 gF g (bP .gtr h (iN 9007199254740992) s) s fun i s =>
 orC g i s fun j s =>
 zn j (z1 Z (iN 80) s) (zk 2 a s fun l s =>
 zp true 5 l s fun m s =>
 cA P zhs [m] s fun n s =>
 z1 Z n s)
theorem zrY : F1 Tryz.prog zjV zsJ := zl [] Tryz.func124 (by decide +kernel) (by kernel_rfl) fun {_ _ _ _} => cast (by kernel_rfl)
def S_r06_Put (P : Program) (x0 x1 : AV) (σ : LO) (Z : ZT) : Prop :=
 zaV x1 σ fun a s =>
 zp true 5 a s fun b s =>
 cA P zhs [b] s fun c s =>
 bP .neq c (iN 0) s fun d s =>
 zn d (z1 Z x0 s) (fl 0 a s fun e s =>
 cA P zik [e] s fun f s =>
 ze f 0 s fun g s =>
 ze f 1 s fun h s =>
 ze f 2 s fun i s =>
 ze f 3 s fun j s =>
 fl 0 a s fun l s =>
 zah (.int .u64) l s fun m s =>
 cA P zaH [x0,m] s fun n s =>
 (fun (o : AV → LO → Prop) => zn g (fl 1 a s fun V s =>
 zah .toBytes V s fun W s =>
 cA P zaS [n,W] s fun X s =>
 o X s) (o n s))
 (fun p s => (fun (q : AV → LO → Prop) => zn h (fl 2 a s fun S s =>
 zah .toBytes S s fun T s =>
 cA P zaS [p,T] s fun U s =>
 q U s) (q p s))
 (fun r s => (fun (u : AV → LO → Prop) => zn i (fl 3 a s fun O s =>
 zah (.int .u64) O s fun Q s =>
 cA P zaH [r,Q] s fun R s =>
 u R s) (u r s))
 (fun w s => (fun (y : AV → LO → Prop) => zn j (fl 4 a s fun A s =>
 zas .sl A s fun B s =>
 zah (.int .u64) B s fun C s =>
 cA P zaH [w,C] s fun D s =>
 zaM [D,(iN 0)] s fun v s E =>
 zau v fun F v => zau v fun G v => fl 4 a s fun H s =>
 zas .sl H s fun I s =>
 bP .lss G I s fun J s =>
 zn J (fl 4 a s fun K s =>
 il false 1 1 K G s fun L s =>
 cA P zaS [F,L] s fun M s =>
 bP .add G (iN 1) s fun N s =>
 E [M,N] s) (y F s)) (y w s))
 (fun z s => z1 Z z s)))))
theorem e_r06_Put : F2 Tryz.prog zry S_r06_Put := zl [.l [0, 9] [(52, 14)]] Tryz.func125 (by decide +kernel) (by kernel_rfl) fun {_ _ _ _ _} => cast (by kernel_rfl)
def zhS (P : Program) (x0 x1 : AV) (σ : LO) (Z : ZT) : Prop :=
 zaV x1 σ fun a s =>
 zaM [(iN 0)] s fun v s b =>
 zau v fun c v => nfl 0 x0 s fun d s =>
 zas .sl d s fun e s =>
 bP .lss c e s fun f s =>
 zn f (nfl 0 x0 s fun g s =>
 il true 2 2 g c s fun h s =>
 zp true 2 a s fun i s =>
 zcI .eql (.ints 2) h i s fun j s =>
 zn j (z1 Z bT s) (bP .add c (iN 1) s fun l s =>
 b [l] s)) (z1 Z bF s)
theorem zhE : F2 Tryz.prog zdh zhS := zl [.l [5] [(4, 1),(6, 18)], .d [(0, 9)] []] Tryz.func126 (by decide +kernel) (by kernel_rfl) fun {_ _ _ _ _} => cast (by kernel_rfl)
def S_r09_num (P : Program) (x0 : AV) (σ : LO) (Z : ZT) : Prop :=
 bP .geq x0 (iN 0) σ fun a s =>
 gTm a x0 s fun b s =>
 gT a (bP .leq b (iN 9007199254740992) s) s fun c s =>
 anC a c s fun d s =>
 z1 Z d s
theorem e_r09_num : F1 Tryz.prog zhp S_r09_num := zl [] Tryz.func127 (by decide +kernel) (by kernel_rfl) fun {_ _ _ _} => cast (by kernel_rfl)
def zkE (P : Program) (x0 : AV) (σ : LO) (Z : ZT) : Prop :=
 zas .sl x0 σ fun a s =>
 bP .gtr a (iN 4) s fun b s =>
 zn b (z1 Z (iN 3) s) (zaM [(iN 0)] s fun v s c =>
 zau v fun d v => zas .sl x0 s fun e s =>
 bP .lss d e s fun f s =>
 zn f (zG none 9 x0 d s fun g s =>
 zk 0 g s fun h s =>
 zp true 7 h s fun i s =>
 cA P zjV [i] s fun j s =>
 bP .neq j (iN 0) s fun l s =>
 zn l (z1 Z j s) (zG none 9 x0 d s fun m s =>
 zk 7 m s fun n s =>
 zp true 2 n s fun o s =>
 cA P zdN [o] s fun p s =>
 bP .neq p (iN 0) s fun q s =>
 zn q (z1 Z p s) (bP .add d (iN 1) s fun r s =>
 c [r] s))) (zaM [(iN 0)] s fun v s u =>
 zau v fun w v => zas .sl x0 s fun y s =>
 bP .lss w y s fun z s =>
 zn z (zaM [(iN 0)] s fun v s A =>
 zau v fun B v => bP .lss B w s fun C s =>
 zn C (zG none 9 x0 w s fun D s =>
 zk 0 D s fun E s =>
 fl 0 E s fun F s =>
 zG none 9 x0 B s fun G s =>
 zk 0 G s fun H s =>
 fl 0 H s fun I s =>
 bP .eql F I s fun J s =>
 gTm J x0 s fun K s =>
 gTm J w s fun L s =>
 gT J (zG none 9 K L s) s fun M s =>
 gT J (zk 0 M s) s fun N s =>
 gTl J 1 N s fun O s =>
 gTm J x0 s fun Q s =>
 gTm J B s fun R s =>
 gT J (zG none 9 Q R s) s fun S s =>
 gT J (zk 0 S s) s fun T s =>
 gTl J 1 T s fun U s =>
 gT J (bP .eql O U s) s fun V s =>
 anC J V s fun W s =>
 zn W (z1 Z (iN 5) s) (bP .add B (iN 1) s fun X s =>
 A [X] s)) (bP .add w (iN 1) s fun Y s =>
 u [Y] s)) (z1 Z (iN 0) s)))
theorem zkq : F1 Tryz.prog zeC zkE := zl [.l [3] [(2, 1),(4, 2),(11, 24)], .l [6] [(2, 1),(7, 1),(35, 39)], .l [7] [(2, 1),(41, 33)], .d [(0, 28)] []] Tryz.func128 (by decide +kernel) (by kernel_rfl) fun {_ _ _ _} => cast (by kernel_rfl)
def zmT (P : Program) (x0 x1 : AV) (σ : LO) (Z : ZT) : Prop :=
 cA P zeC [x1] σ fun a s =>
 bP .neq a (iN 0) s fun b s =>
 zn b (z1 Z x0 s) (zas .sl x1 s fun c s =>
 zah (.int .u64) c s fun d s =>
 cA P zaH [x0,d] s fun e s =>
 zaM [e,(iN 0)] s fun v s f =>
 zau v fun g v => zau v fun h v => zas .sl x1 s fun i s =>
 bP .lss h i s fun j s =>
 zn j (zG none 9 x1 h s fun l s =>
 zk 0 l s fun m s =>
 zp true 7 m s fun n s =>
 cA P zjW [n] s fun o s =>
 ze o 0 s fun p s =>
 ze o 1 s fun _ s =>
 zG none 9 x1 h s fun r s =>
 zk 7 r s fun u s =>
 zp true 2 u s fun w s =>
 cA P zaS [g,p] s fun y t =>
 zM u s t ∧ (cA P zjU [y,w] t fun z s =>
 bP .add h (iN 1) s fun A s =>
 f [z,A] s)) (z1 Z g s))
theorem zmG : F2 Tryz.prog ziH zmT := zl [.l [0, 5] [(6, 2),(17, 24)], .d [(0, 2),(3, 5),(2, 1),(8, 2)] [(2, [38])]] Tryz.func129 (by decide +kernel) (by kernel_rfl) fun {_ _ _ _ _} => cast (by kernel_rfl)
def S_r07_bad (P : Program) (x0 : AV) (σ : LO) (Z : ZT) : Prop :=
 zQ [iN 0,iN 0] σ fun a s =>
 zE (zR [iN 0,iN 0] [(0, 1,x0)]) s fun b s =>
 zo 2 a b s fun _ s =>
 Z (zC (zaj a s true 2) (some [])) s
theorem e_r07_bad : F1 Tryz.prog zdr S_r07_bad := zl [] Tryz.func130 (by decide +kernel) (by kernel_rfl) fun {_ _ _ _} => cast (by kernel_rfl)
def zjz (P : Program) (x0 x1 : AV) (σ : LO) (Z : ZT) : Prop :=
 zaV x1 σ fun a s =>
 zQ [iN 0,iN 0] s fun b s =>
 zp true 5 a s fun c s =>
 cA P zhs [c] s fun d s =>
 bP .neq d (iN 0) s fun e s =>
 zn e (cA P zdr [d] s fun f s =>
 zo 2 b f s fun _ s =>
 Z (zC (zaj b s true 2) (zC (some eN) (some []))) s) (fl 0 a s fun h s =>
 bP .eql h (iN 0) s fun i s =>
 zn i (zE (zR [iN 0,iN 0] []) s fun j s =>
 zo 2 b j s fun _ s =>
 Z (zC (zaj b s true 2) (zC (some eN) (some []))) s) (fl 0 a s fun m s =>
 bP .eql m (iN 1) s fun n s =>
 zn n (fl 1 a s fun o s =>
 cA P zeI [x0,o] s fun p s =>
 zo 2 b p s fun _ s =>
 Z (zC (zaj b s true 2) (zC (some eN) (some []))) s) (fl 1 a s fun r s =>
 cA P zfa [x0,r] s fun u s =>
 bP .lss u (iN 0) s fun w s =>
 zn w (cA P zdr [(iN 4)] s fun y s =>
 zo 2 b y s fun _ s =>
 Z (zC (zaj b s true 2) (zC (some eN) (some []))) s) (fl 0 a s fun A s =>
 bP .eql A (iN 2) s fun B s =>
 zn B (zp true 5 a s fun C s =>
 cA P zeq [x0,u,C] s fun D s =>
 ze D 0 s fun E s =>
 ze D 1 s fun F s =>
 zo 2 b E s fun _ s =>
 Z (zC (zaj b s true 2) (zC (some F) (some []))) s) (bP .eql A (iN 3) s fun H s =>
 zn H (zp true 5 a s fun I s =>
 cA P zeJ [x0,u,I] s fun J s =>
 zo 2 b J s fun _ s =>
 Z (zC (zaj b s true 2) (zC (some eN) (some []))) s) (nfl 0 x0 s fun L s =>
 il true 4 4 L u s fun M s =>
 cp [(.d (.str [])),iN 0,eN,eN] 4 M s fun N s =>
 fl 3 a s fun O s =>
 fl 1 N s fun Q s =>
 bP .lss O Q s fun R s =>
 gF R (zk 3 a s) s fun S s =>
 gF R (zp false 1 S s) s fun T s =>
 gF R (zp true 4 N s) s fun U s =>
 gF R (cA P zca [U] s) s fun V t =>
 zM S s t ∧ (gF R (bP .gtr T V t) t fun W s =>
 orC R W s fun X s =>
 zn X (cA P zdr [(iN 72)] s fun Y s =>
 zo 2 b Y s fun _ s =>
 Z (zC (zaj b s true 2) (zC (some eN) (some []))) s) (zbr x0 s fun b0 s =>
 zk 0 b0 s fun c0 s =>
 zp false 1 c0 s fun d0 s =>
 fl 2 N s fun e0 s =>
 fl 3 a s fun f0 s =>
 fl 1 N s fun g0 s =>
 bP .sub f0 g0 s fun h0 s =>
 zbH (.sl 1) e0 (some h0) none none s fun i0 s =>
 zw 1 24 eN i0 s fun j0 t =>
 zM c0 s t ∧ (zG none 4 d0 u t fun l0 s =>
 zk 2 l0 s fun m0 s =>
 zo 1 m0 j0 s fun _ s =>
 nfl 0 x0 s fun p0 s =>
 fl 3 a s fun q0 s =>
 zG none 4 p0 u s fun r0 s =>
 zk 1 r0 s fun u0 s =>
 zo 1 u0 q0 s fun _ s =>
 fl 3 a s fun y0 s =>
 zE (zR [iN 0,iN 0] [(1, 1,y0)]) s fun z0 s =>
 zo 2 b z0 s fun _ s =>
 Z (zC (zaj b s true 2) (zC (some eN) (some []))) s)))))))))
theorem zjl : F2 Tryz.prog zfC zjz := zl [.d [(0, 12)] [(9, [63])], .d [(0, 18)] [(14, [72])], .d [(0, 10)] []] Tryz.func131 (by decide +kernel) (by kernel_rfl) fun {_ _ _ _ _} => cast (by kernel_rfl)
def S_r11_num (P : Program) (x0 : AV) (σ : LO) (Z : ZT) : Prop :=
 bP .geq x0 (iN 0) σ fun a s =>
 gTm a x0 s fun b s =>
 gT a (bP .leq b (iN 9007199254740992) s) s fun c s =>
 anC a c s fun d s =>
 z1 Z d s
theorem e_r11_num : F1 Tryz.prog ziW S_r11_num := zl [] Tryz.func132 (by decide +kernel) (by kernel_rfl) fun {_ _ _ _} => cast (by kernel_rfl)
def S_r11_put (P : Program) (x0 x1 : AV) (σ : LO) (Z : ZT) : Prop :=
 zcs [x1,(iN 0)] σ fun a s =>
 zah (.int .u64) a s fun b s =>
 cA P zaH [x0,b] s fun c s =>
 z1 Z c s
theorem e_r11_put : F2 Tryz.prog ziV S_r11_put := zl [] Tryz.func133 (by decide +kernel) (by kernel_rfl) fun {_ _ _ _ _} => cast (by kernel_rfl)
def zgN (P : Program) (x0 x1 : AV) (σ : LO) (Z : ZT) : Prop :=
 cA P zrz [x1] σ fun a s =>
 unC .not a s fun b s =>
 zn b (cA P zaL [x0,(iN 61)] s fun _ s =>
 Z (some []) s) (Z (some []) s)
theorem zgD : F2 Tryz.prog zer zgN := zl [] Tryz.func134 (by decide +kernel) (by kernel_rfl) fun {_ _ _ _ _} => cast (by kernel_rfl)
def zhU (P : Program) (x0 x1 : AV) (σ : LO) (Z : ZT) : Prop :=
 cA P zbV [x0,x1,(iN 0),(iN 9007199254740992)] σ fun _ s =>
 Z (some []) s
theorem zhG : F2 Tryz.prog zaQ zhU := zl [] Tryz.func135 (by decide +kernel) (by kernel_rfl) fun {_ _ _ _ _} => cast (by kernel_rfl)
def zgO (P : Program) (x0 x1 x2 : AV) (σ : LO) (Z : ZT) : Prop :=
 cA P zbV [x0,x1,(iN 0),x2] σ fun _ s =>
 Z (some []) s
theorem zgE : F3 Tryz.prog zbk zgO := zl [] Tryz.func136 (by decide +kernel) (by kernel_rfl) fun {_ _ _ _ _ _} => cast (by kernel_rfl)
def zhT (P : Program) (x0 x1 : AV) (σ : LO) (Z : ZT) : Prop :=
 cA P zbV [x0,x1,(iN 1),(iN 9007199254740992)] σ fun _ s =>
 Z (some []) s
theorem zhF : F2 Tryz.prog zeK zhT := zl [] Tryz.func137 (by decide +kernel) (by kernel_rfl) fun {_ _ _ _ _} => cast (by kernel_rfl)
def ziB (P : Program) (x0 x1 x2 x3 : AV) (σ : LO) (Z : ZT) : Prop :=
 bP .lss x1 x2 σ fun a s =>
 gFm a x1 s fun b s =>
 gFm a x3 s fun c s =>
 gF a (bP .gtr b c s) s fun d s =>
 orC a d s fun e s =>
 zn e (cA P zaL [x0,(iN 100)] s fun _ s =>
 Z (some []) s) (Z (some []) s)
theorem zir : F4 Tryz.prog zbV ziB := zl [] Tryz.func138 (by decide +kernel) (by kernel_rfl) fun {_ _ _ _ _ _ _} => cast (by kernel_rfl)
def zgP (P : Program) (x0 x1 : AV) (σ : LO) (Z : ZT) : Prop :=
 zaV x1 σ fun a s =>
 fl 0 a s fun b s =>
 cA P zaQ [x0,b] s fun _ s =>
 fl 1 a s fun d s =>
 cA P zaQ [x0,d] s fun _ s =>
 (fun (f : LO → Prop) => fl 0 a s fun i s =>
 bP .eql i (iN 0) s fun j s =>
 fl 1 a s fun l s =>
 bP .eql l (iN 0) s fun m s =>
 zcI .neq .bool j m s fun n s =>
 gFl n 0 a s fun o s =>
 gF n (bP .eql o (iN 0) s) s fun p s =>
 gFm n p s fun q s =>
 gTl q 2 a s fun r s =>
 gT q (zas .sl r s) s fun u s =>
 gT q (bP .gtr u (iN 0) s) s fun w s =>
 gF n (anC q w s) s fun y s =>
 orC n y s fun z s =>
 zn z (cA P zaL [x0,(iN 100)] s fun _ s =>
 f s) (f s))
 (fun  s => fl 2 a s fun g s =>
 cA P zbw [x0,g] s fun _ s =>
 Z (some []) s)
theorem zgF : F2 Tryz.prog zes zgP := zl [] Tryz.func139 (by decide +kernel) (by kernel_rfl) fun {_ _ _ _ _} => cast (by kernel_rfl)
def zqF (P : Program) (x0 : AV) (σ : LO) (Z : ZT) : Prop :=
 cA P zaR [x0] σ fun a s =>
 zcI .neq .ptr a (.d .nilp) s fun b s =>
 z1 Z b s
theorem zqm : F1 Tryz.prog zln zqF := zl [] Tryz.func140 (by decide +kernel) (by kernel_rfl) fun {_ _ _ _} => cast (by kernel_rfl)
def zoL (P : Program) (x0 : AV) (σ : LO) (Z : ZT) : Prop :=
 zaV x0 σ fun a s =>
 fl 0 a s fun b s =>
 fl 1 a s fun c s =>
 fl 2 a s fun d s =>
 fl 3 a s fun e s =>
 fl 4 a s fun f s =>
 zr false 1 5 (zR (rep [iN 0] 5) [(0, 1,b),(1, 1,c),(2, 1,d),(3, 1,e),(4, 1,f)]) s fun g s =>
 zas .sl g s fun h s =>
 zaM [(iN 0)] s fun v s i =>
 zau v fun j v => bP .lss j h s fun l s =>
 zn l (il false 1 1 g j s fun m s =>
 bP .lss m (iN 0) s fun n s =>
 gFm n m s fun o s =>
 gF n (bP .gtr o (iN 9007199254740992) s) s fun p s =>
 orC n p s fun q s =>
 zn q (z1 Z (iN 90) s) (bP .add j (iN 1) s fun r s =>
 i [r] s)) (z1 Z (iN 0) s)
theorem zoi : F1 Tryz.prog zgY zoL := zl [.l [17] [(2, 1),(4, 1),(18, 10)]] Tryz.func141 (by decide +kernel) (by kernel_rfl) fun {_ _ _ _} => cast (by kernel_rfl)
def zqB (P : Program) (x0 : AV) (σ : LO) (Z : ZT) : Prop :=
 zaV x0 σ fun a s =>
 fl 0 a s fun b s =>
 bP .eql b (iN 0) s fun c s =>
 gTl c 1 a s fun d s =>
 gT c (bP .eql d (iN 0) s) s fun e s =>
 anC c e s fun f s =>
 gTl f 2 a s fun g s =>
 gT f (zas .sl g s) s fun h s =>
 gT f (bP .eql h (iN 0) s) s fun i s =>
 anC f i s fun j s =>
 z1 Z j s
theorem zqi : F1 Tryz.prog zlk zqB := zl [] Tryz.func142 (by decide +kernel) (by kernel_rfl) fun {_ _ _ _} => cast (by kernel_rfl)
def ziA (P : Program) (x0 x1 x2 x3 : AV) (σ : LO) (Z : ZT) : Prop :=
 bP .geq x1 (iN 1) σ fun a s =>
 gTm a x1 s fun b s =>
 gT a (bP .leq b (iN 9007199254740992) s) s fun c s =>
 anC a c s fun d s =>
 gTm d x1 s fun e s =>
 gT d (bP .rem e (iN 4) s) s fun f s =>
 gT d (bP .eql f (iN 0) s) s fun g s =>
 anC d g s fun h s =>
 gTm h x2 s fun i s =>
 gT h (bP .geq i (iN 1) s) s fun j s =>
 anC h j s fun l s =>
 gTm l x2 s fun m s =>
 gT l (bP .leq m (iN 9007199254740992) s) s fun n s =>
 anC l n s fun o s =>
 gTm o x3 s fun p s =>
 gT o (bP .geq p (iN 0) s) s fun q s =>
 anC o q s fun r s =>
 gTm r x3 s fun u s =>
 gTm r x0 s fun w s =>
 gT r (zbr w s) s fun y s =>
 gTl r 0 y s fun z s =>
 gT r (cA P zgr [z] s) s fun A s =>
 gT r (bP .lss u A s) s fun B s =>
 anC r B s fun C s =>
 z1 Z C s
theorem ziq : F4 Tryz.prog zfe ziA := zl [] Tryz.func143 (by decide +kernel) (by kernel_rfl) fun {_ _ _ _ _ _ _} => cast (by kernel_rfl)
def zqz (P : Program) (x0 : AV) (σ : LO) (Z : ZT) : Prop :=
 cA P zfN [(iN 2),x0] σ fun a s =>
 z1 Z a s
theorem zqg : F1 Tryz.prog zlj zqz := zl [] Tryz.func144 (by decide +kernel) (by kernel_rfl) fun {_ _ _ _} => cast (by kernel_rfl)
def zcl (P : Program) (x0 x1 : AV) (σ : LO) (Z : ZT) : Prop :=
 zas .sl x0 σ fun a s =>
 zaM [(iN 0)] s fun v s b =>
 zau v fun c v => bP .lss c a s fun d s =>
 zn d (il true 2 2 x0 c s fun e s =>
 zak P x1 [dm e] s fun f s =>
 zn f (z1 Z c s) (bP .add c (iN 1) s fun g s =>
 b [g] s)) (z1 Z (iN (-1)) s)
theorem zck : F2 Tryz.prog zbp zcl := zl [.l [8] [(4, 2),(9, 10)]] Tryz.func145 (by decide +kernel) (by kernel_rfl) fun {_ _ _ _ _} => cast (by kernel_rfl)
def zsT (P : Program) (x0 x1 : AV) (σ : LO) (Z : ZT) : Prop :=
 cA P zaR [x0] σ fun a s =>
 zcI .neq .ptr a (.d .nilp) s fun b s =>
 gTm b x1 s fun c s =>
 gT b (cA P zcg [c] s) s fun d s =>
 gT b (zcI .neq .ptr d (.d .nilp) s) s fun e s =>
 anC b e s fun f s =>
 z1 Z f s
theorem zsi : F2 Tryz.prog znm zsT := zl [] Tryz.func146 (by decide +kernel) (by kernel_rfl) fun {_ _ _ _ _} => cast (by kernel_rfl)
def zva (P : Program) (x0 x1 x2 x3 : AV) (σ : LO) (Z : ZT) : Prop :=
 zr false 1 4 (zR (rep [iN 0] 4) [(0, 1,x0),(1, 1,x1),(2, 1,x2),(3, 1,x3)]) σ fun a s =>
 zas .sl a s fun b s =>
 zaM [(iN 0)] s fun v s c =>
 zau v fun d v => bP .lss d b s fun e s =>
 zn e (il false 1 1 a d s fun f s =>
 bP .lss f (iN 0) s fun g s =>
 gFm g f s fun h s =>
 gF g (bP .gtr h (iN 9007199254740992) s) s fun i s =>
 orC g i s fun j s =>
 zn j (z1 Z bF s) (bP .add d (iN 1) s fun l s =>
 c [l] s)) (z1 Z bT s)
theorem zun : F4 Tryz.prog zpp zva := zl [.l [17] [(8, 1),(10, 1),(18, 10)]] Tryz.func147 (by decide +kernel) (by kernel_rfl) fun {_ _ _ _ _ _ _} => cast (by kernel_rfl)
def zoO (P : Program) (x0 x1 x2 x3 x4 : AV) (σ : LO) (Z : ZT) : Prop :=
 zaV x2 σ fun a s =>
 cA P zaN [x0,x4] s fun b s =>
 ze b 0 s fun c s =>
 ze b 1 s fun d s =>
 gT d (zp true 2 a s) s fun e s =>
 gTm d x3 s fun f s =>
 gTm d c s fun g s =>
 gT d (zE (zR [iN 0,iN 0] [(0, 1,f),(1, 1,g)]) s) s fun h s =>
 gT d (zcI .eql (.ints 2) e h s) s fun i s =>
 anC d i s fun j s =>
 gTm j x1 s fun l s =>
 gT j (zp true 2 a s) s fun m s =>
 gT j (cA P zdQ [l,m] s) s fun n s =>
 anC j n s fun o s =>
 z1 Z o s
theorem zol : F5 Tryz.prog zkc zoO := zl [] Tryz.func148 (by decide +kernel) (by kernel_rfl) fun {_ _ _ _ _ _ _ _} => cast (by kernel_rfl)
def zkM (P : Program) (x0 x1 x2 x3 : AV) (σ : LO) (Z : ZT) : Prop :=
 m1 1 [(.d (.int .u8 0))] (.d (.int .u8 4)) σ fun a s =>
 zr false 1 4 (zR (rep [iN 0] 4) [(0, 1,x0),(1, 1,x1),(2, 1,x2),(3, 1,x3)]) s fun b s =>
 cA P zpo [a,b] s fun c s =>
 z1 Z c s
theorem zky : F4 Tryz.prog zgs zkM := zl [] Tryz.func149 (by decide +kernel) (by kernel_rfl) fun {_ _ _ _ _ _ _} => cast (by kernel_rfl)
def zqE (P : Program) (x0 : AV) (σ : LO) (Z : ZT) : Prop :=
 zQ [(.d (.int .u8 0)),(.d (.int .u8 0)),(.d (.int .u8 0)),(.d (.int .u8 0)),(.d (.int .u8 0)),(.d (.int .u8 0)),(.d (.int .u8 0)),(.d (.int .u8 0)),(.d (.int .u8 0)),(.d (.int .u8 0))] σ fun a s =>
 zQ [(.d (.int .u8 0)),(.d (.int .u8 0)),(.d (.int .u8 0)),(.d (.int .u8 0)),(.d (.int .u8 0)),(.d (.int .u8 0)),(.d (.int .u8 0)),(.d (.int .u8 0)),(.d (.int .u8 0)),(.d (.int .u8 0))] s fun b s =>
 zaM [x0,(iN 0)] s fun v s c =>
 zau v fun d v => zau v fun e v => bP .gtr d (.d (.int .u64 127)) s fun f s =>
 zn f (zah (.int .u8) d s fun g s =>
 bP .or g (.d (.int .u8 128)) s fun h s =>
 zG (some 10) 1 b e s fun i s =>
 zo 1 i h s fun _ s =>
 bP .shr d (.d (.int .u64 7)) s fun l s =>
 bP .add e (iN 1) s fun m s =>
 c [l,m] s) (zah (.int .u8) d s fun n s =>
 zG (some 10) 1 b e s fun o s =>
 zo 1 o n s fun _ s =>
 zp true 10 b s fun q s =>
 bP .add e (iN 1) s fun r s =>
 zo 10 a q s fun _ s =>
 Z (zC (zaj a s true 10) (zC (some r) (some []))) s)
theorem zql : F1 Tryz.prog zlm zqE := zl [.l [0, 5] [(6, 11)]] Tryz.func150 (by decide +kernel) (by kernel_rfl) fun {_ _ _ _} => cast (by kernel_rfl)
def zfl (P : Program) (x0 : AV) (σ : LO) (Z : ZT) : Prop :=
 zas .sl x0 σ fun a s =>
 zas .sl x0 s fun b s =>
 zbH (.sl 1) x0 none (some a) (some b) s fun c s =>
 z1 Z c s
theorem zfh : F1 Tryz.prog zdf zfl := zl [] Tryz.func151 (by decide +kernel) (by kernel_rfl) fun {_ _ _ _} => cast (by kernel_rfl)
def zuR (P : Program) (x0 : AV) (σ : LO) (Z : ZT) : Prop :=
 cA P znj [x0] σ fun a s =>
 bP .gtr a (iN 0) s fun b s =>
 z1 Z b s
theorem zue : F1 Tryz.prog ziZ zuR := zl [] Tryz.func152 (by decide +kernel) (by kernel_rfl) fun {_ _ _ _} => cast (by kernel_rfl)
def S_r10_pos (P : Program) (x0 : AV) (σ : LO) (Z : ZT) : Prop :=
 cA P zjS [x0,(iN 1),(iN 9007199254740992)] σ fun a s =>
 z1 Z a s
theorem e_r10_pos : F1 Tryz.prog zrx S_r10_pos := zl [] Tryz.func153 (by decide +kernel) (by kernel_rfl) fun {_ _ _ _} => cast (by kernel_rfl)
def zsE (P : Program) (x0 : AV) (σ : LO) (Z : ZT) : Prop :=
 zas .sl x0 σ fun a s =>
 bP .gtr a (iN 13) s fun b s =>
 zn b (z1 Z (iN 100) s) (zaM [(iN 0)] s fun v s c =>
 zau v fun d v => zas .sl x0 s fun e s =>
 bP .lss d e s fun f s =>
 zn f (il true 2 2 x0 d s fun g s =>
 cA P zdN [g] s fun h s =>
 bP .neq h (iN 0) s fun i s =>
 zn i (z1 Z h s) (bP .add d (iN 1) s fun j s =>
 c [j] s)) (z1 Z (iN 0) s))
theorem zrT : F1 Tryz.prog zjR zsE := zl [.l [3] [(2, 1),(4, 1),(8, 14)]] Tryz.func154 (by decide +kernel) (by kernel_rfl) fun {_ _ _ _} => cast (by kernel_rfl)
def zuJ (P : Program) (x0 : AV) (σ : LO) (Z : ZT) : Prop :=
 zaV x0 σ fun a s =>
 fl 0 a s fun b s =>
 bP .eql b (iN 0) s fun c s =>
 gTl c 1 a s fun d s =>
 gT c (bP .eql d (iN 0) s) s fun e s =>
 anC c e s fun f s =>
 gTl f 2 a s fun g s =>
 gT f (zas .sl g s) s fun h s =>
 gT f (bP .eql h (iN 0) s) s fun i s =>
 anC f i s fun j s =>
 z1 Z j s
theorem ztW : F1 Tryz.prog zpd zuJ := zl [] Tryz.func155 (by decide +kernel) (by kernel_rfl) fun {_ _ _ _} => cast (by kernel_rfl)
def zkC (P : Program) (x0 x1 x2 x3 : AV) (σ : LO) (Z : ZT) : Prop :=
 bP .geq x1 (iN 1) σ fun a s =>
 gTm a x1 s fun b s =>
 gT a (bP .leq b (iN 9007199254740992) s) s fun c s =>
 anC a c s fun d s =>
 gTm d x1 s fun e s =>
 gT d (bP .rem e (iN 4) s) s fun f s =>
 gT d (bP .eql f (iN 0) s) s fun g s =>
 anC d g s fun h s =>
 gTm h x2 s fun i s =>
 gT h (bP .geq i (iN 1) s) s fun j s =>
 anC h j s fun l s =>
 gTm l x2 s fun m s =>
 gT l (bP .leq m (iN 9007199254740992) s) s fun n s =>
 anC l n s fun o s =>
 gTm o x3 s fun p s =>
 gT o (bP .geq p (iN 0) s) s fun q s =>
 anC o q s fun r s =>
 gTm r x3 s fun u s =>
 gTm r x0 s fun w s =>
 gT r (zbr w s) s fun y s =>
 gTl r 0 y s fun z s =>
 gT r (cA P zgV [z] s) s fun A s =>
 gT r (bP .lss u A s) s fun B s =>
 anC r B s fun C s =>
 z1 Z C s
theorem zko : F4 Tryz.prog zgp zkC := zl [] Tryz.func156 (by decide +kernel) (by kernel_rfl) fun {_ _ _ _ _ _ _} => cast (by kernel_rfl)
def zqr (P : Program) (x0 x1 x2 x3 x4 : AV) (σ : LO) (Z : ZT) : Prop :=
 zaV x2 σ fun a s =>
 cA P zbs [x0,x4] s fun b s =>
 ze b 0 s fun c s =>
 ze b 1 s fun d s =>
 gTl d 0 a s fun e s =>
 gTm d x3 s fun f s =>
 gT d (bP .eql e f s) s fun g s =>
 anC d g s fun h s =>
 gTl h 1 a s fun i s =>
 gTm h c s fun j s =>
 gT h (bP .eql i j s) s fun l s =>
 anC h l s fun m s =>
 gTm m x1 s fun n s =>
 gT m (zp true 2 a s) s fun o s =>
 gT m (cA P zdh [n,o] s) s fun p s =>
 anC m p s fun q s =>
 z1 Z q s
theorem zpY : F5 Tryz.prog zle zqr := zl [] Tryz.func157 (by decide +kernel) (by kernel_rfl) fun {_ _ _ _ _ _ _ _} => cast (by kernel_rfl)
def zuT (P : Program) (x0 : AV) (σ : LO) (Z : ZT) : Prop :=
 m1 1 [(.d (.int .u8 0))] (.d (.int .u8 0)) σ fun a s =>
 zw 1 1 a x0 s fun b s =>
 z1 Z b s
theorem zug : F1 Tryz.prog zmi zuT := zl [] Tryz.func158 (by decide +kernel) (by kernel_rfl) fun {_ _ _ _} => cast (by kernel_rfl)
def zuS (P : Program) (x0 x1 : AV) (σ : LO) (Z : ZT) : Prop :=
 m1 1 [(.d (.int .u8 0))] (.d (.int .u8 1)) σ fun a s =>
 zcs [x0,(iN 0)] s fun b s =>
 zah (.int .u64) b s fun c s =>
 cA P zaH [a,c] s fun d s =>
 zcs [x1,(iN 0)] s fun e s =>
 zah (.int .u64) e s fun f s =>
 cA P zaH [d,f] s fun g s =>
 z1 Z g s
theorem zuf : F2 Tryz.prog zja zuS := zl [] Tryz.func159 (by decide +kernel) (by kernel_rfl) fun {_ _ _ _ _} => cast (by kernel_rfl)
def zoJ (P : Program) (x0 x1 : AV) (σ : LO) (Z : ZT) : Prop :=
 cA P zgX [x1] σ fun a s =>
 cA P zbx [x0,a] s fun b s =>
 z1 Z b s
theorem zog : F2 Tryz.prog zjZ zoJ := zl [] Tryz.func160 (by decide +kernel) (by kernel_rfl) fun {_ _ _ _ _} => cast (by kernel_rfl)
def zoI (P : Program) (x0 x1 x2 : AV) (σ : LO) (Z : ZT) : Prop :=
 cA P zff [x1,x2] σ fun a s =>
 cA P zbx [x0,a] s fun b s =>
 z1 Z b s
theorem zof : F3 Tryz.prog zjY zoI := zl [] Tryz.func161 (by decide +kernel) (by kernel_rfl) fun {_ _ _ _ _ _} => cast (by kernel_rfl)
def zsN (P : Program) (x0 : AV) (σ : LO) (Z : ZT) : Prop :=
 zaV x0 σ fun a s =>
 fl 0 a s fun b s =>
 cA P zik [b] s fun c s =>
 ze c 0 s fun d s =>
 ze c 1 s fun e s =>
 ze c 2 s fun f s =>
 ze c 3 s fun g s =>
 fl 0 a s fun h s =>
 bP .lss h (iN 0) s fun i s =>
 gFl i 0 a s fun j s =>
 gF i (bP .gtr j (iN 4) s) s fun l s =>
 orC i l s fun m s =>
 gFm m d s fun n s =>
 gF m (unC .not n s) s fun o s =>
 gFm m o s fun p s =>
 gTl p 1 a s fun q s =>
 gT p (bP .neq q (.d (.str [])) s) s fun r s =>
 gF m (anC p r s) s fun u s =>
 orC m u s fun w s =>
 gFm w e s fun y s =>
 gF w (unC .not y s) s fun z s =>
 gFm w z s fun A s =>
 gTl A 2 a s fun B s =>
 gT A (bP .neq B (.d (.str [])) s) s fun C s =>
 gF w (anC A C s) s fun D s =>
 orC w D s fun E s =>
 gFm E f s fun F s =>
 gF E (unC .not F s) s fun G s =>
 gFm E G s fun H s =>
 gTl H 3 a s fun I s =>
 gT H (bP .neq I (iN 0) s) s fun J s =>
 gF E (anC H J s) s fun K s =>
 orC E K s fun L s =>
 gFm L g s fun M s =>
 gF L (unC .not M s) s fun N s =>
 gFm L N s fun O s =>
 gTl O 4 a s fun Q s =>
 gT O (zas .sl Q s) s fun R s =>
 gT O (bP .gtr R (iN 0) s) s fun S s =>
 gF L (anC O S s) s fun T s =>
 orC L T s fun U s =>
 zn U (z1 Z (iN 60) s) (gTl d 1 a s fun V s =>
 gT d (cA P ziZ [V] s) s fun W s =>
 gT d (unC .not W s) s fun X s =>
 anC d X s fun Y s =>
 gFm Y e s fun a0 s =>
 gFm Y a0 s fun b0 s =>
 gTl b0 2 a s fun c0 s =>
 gT b0 (cA P ziZ [c0] s) s fun d0 s =>
 gT b0 (unC .not d0 s) s fun e0 s =>
 gF Y (anC b0 e0 s) s fun f0 s =>
 orC Y f0 s fun g0 s =>
 zn g0 (z1 Z (iN 61) s) (gTl g 4 a s fun h0 s =>
 gT g (zas .sl h0 s) s fun i0 s =>
 gT g (bP .lss i0 (iN 1) s) s fun j0 s =>
 gTm g j0 s fun l0 s =>
 gFl l0 4 a s fun m0 s =>
 gF l0 (zas .sl m0 s) s fun o0 s =>
 gF l0 (bP .gtr o0 (iN 4) s) s fun p0 s =>
 gT g (orC l0 p0 s) s fun q0 s =>
 anC g q0 s fun r0 s =>
 zn r0 (z1 Z (iN 62) s) (zaM [(iN 0)] s fun v s u0 =>
 zau v fun w0 v => fl 4 a s fun y0 s =>
 zas .sl y0 s fun z0 s =>
 bP .lss w0 z0 s fun A0 s =>
 zn A0 (fl 4 a s fun B0 s =>
 il false 1 1 B0 w0 s fun C0 s =>
 zas .sl C0 s fun D0 s =>
 bP .gtr D0 (iN 64) s fun E0 s =>
 zn E0 (z1 Z (iN 62) s) (bP .add w0 (iN 1) s fun F0 s =>
 u0 [F0] s)) (fl 3 a s fun G0 s =>
 bP .lss G0 (iN 0) s fun H0 s =>
 gFl H0 3 a s fun I0 s =>
 gF H0 (bP .gtr I0 (iN 9007199254740992) s) s fun J0 s =>
 orC H0 J0 s fun K0 s =>
 zn K0 (z1 Z (iN 60) s) (z1 Z (iN 0) s)))))
theorem zsc : F1 Tryz.prog zhs zsN := zl [.l [7] [(2, 1),(90, 14)]] Tryz.func165 (by decide +kernel) (by kernel_rfl) fun {_ _ _ _} => cast (by kernel_rfl)
def zqv (P : Program) (x0 : AV) (σ : LO) (Z : ZT) : Prop :=
 bP .eql x0 (iN 1) σ fun a s =>
 zn a (Z (zC (some bT) (zC (some bF) (zC (some bF) (zC (some bF) (some []))))) s) (bP .eql x0 (iN 2) s fun b s =>
 zn b (Z (zC (some bT) (zC (some bF) (zC (some bF) (zC (some bT) (some []))))) s) (bP .eql x0 (iN 3) s fun c s =>
 zn c (Z (zC (some bT) (zC (some bT) (zC (some bT) (zC (some bF) (some []))))) s) (bP .eql x0 (iN 4) s fun d s =>
 zn d (Z (zC (some bT) (zC (some bF) (zC (some bT) (zC (some bF) (some []))))) s) (Z (zC (some bF) (zC (some bF) (zC (some bF) (zC (some bF) (some []))))) s))))
theorem zqc : F1 Tryz.prog zik zqv := zl [] Tryz.func166 (by decide +kernel) (by kernel_rfl) fun {_ _ _ _} => cast (by kernel_rfl)
def zlQ (P : Program) (x0 : AV) (σ : LO) (Z : ZT) : Prop :=
 zaV x0 σ fun a s =>
 fl 0 a s fun b s =>
 bP .lss b (iN 0) s fun c s =>
 gFl c 0 a s fun d s =>
 gF c (bP .geq d (iN 21) s) s fun e s =>
 orC c e s fun f s =>
 gFl f 1 a s fun g s =>
 gF f (bP .lss g (iN 1) s) s fun h s =>
 orC f h s fun i s =>
 gFl i 1 a s fun j s =>
 gF i (bP .gtr j (iN 9007199254740992) s) s fun l s =>
 orC i l s fun m s =>
 zn m (z1 Z (iN 81) s) (z1 Z (iN 0) s)
theorem zlw : F1 Tryz.prog zdN zlQ := zl [] Tryz.func167 (by decide +kernel) (by kernel_rfl) fun {_ _ _ _} => cast (by kernel_rfl)
end Go.Proofs.YtncpaekiidpchaaGreat
