/- The conditions of each function, its slots as variables, and that the logic's conditions are these. Printed by program. -/
import Derived.Test.YtpgahkdjkanblaaGreatNm
import Derived.KernelRfl
set_option linter.all false
set_option maxRecDepth 100000
namespace Go.Proofs.YtpgahkdjkanblaaGreat
open Go.AW
def zdn (P:Program) (x0 x1:AV) (σ:LO) (Z:ZT):Prop:=
 zag .sl x0 σ fun a s=>
 zaJ [(iN 0)] s fun v s b=>
 zaj v fun c v=>bP .lss c a s fun d s=>
 ze d (il true 9 9 x0 c s fun e s=>
 zaL P x1 [dm e] s fun f s=>
 ze f (z1 Z c s) (bP .add c (iN 1) s fun g s=>
 b [g] s)) (z1 Z (iN (-1)) s)
theorem zfU:F2 Tryz.prog zbL zdn:=zf [.l [8] [(4, 2),(9, 10)]] Tryz.func246
def zsG (P:Program) (x0:AV) (σ:LO) (Z:ZT):Prop:=
 bP .lss x0 (iN 0) σ fun a s=>
 gFm a x0 s fun b s=>
 gF a (bP .geq b (iN 8) s) s fun c s=>
 orC a c s fun d s=>
 ze d (z1 Z (iN (-1)) s) (bP .add (iN 13) x0 s fun e s=>
 z1 Z e s)
theorem zAr:F1 Tryz.prog zmJ zsG:=zf [] Tryz.func247
def zhV (P:Program) (x0 x1:AV) (σ:LO) (Z:ZT):Prop:=
 zag .sl x0 σ fun a s=>
 zaJ [(iN 0)] s fun v s b=>
 zaj v fun c v=>bP .lss c a s fun d s=>
 ze d (il false 1 1 x0 c s fun e s=>
 bP .eql x1 e s fun f s=>
 ze f (z1 Z c s) (bP .add c (iN 1) s fun g s=>
 b [g] s)) (z1 Z (iN (-1)) s)
theorem znZ:F2 Tryz.prog zfv zhV:=zf [.l [8] [(4, 2),(9, 10)]] Tryz.func248
def zhY (P:Program) (x0 x1:AV) (σ:LO) (Z:ZT):Prop:=
 zcW x0 σ fun a s=>
 zb 0 a s fun b s=>
 zag .sl x1 s fun c s=>
 cA P zce [b,c] s fun _ s=>
 zag .sl x1 s fun e s=>
 zaJ [(iN 0)] s fun v s f=>
 zaj v fun g v=>bP .lss g e s fun h s=>
 ze h (il true 2 2 x1 g s fun i s=>
 cp [iN 0,iN 0] 2 i s fun j s=>
 zg true 2 j s fun l s=>
 cA P zbb [x0,l] s fun _ s=>
 bP .add g (iN 1) s fun n s=>
 f [n] s) (Z (some []) s)
theorem zoc:F2 Tryz.prog zcX zhY:=zf [.l [14] [(5, 1),(15, 7)]] Tryz.func249
def zqw (P:Program) (x0 x1:AV) (σ:LO) (Z:ZT):Prop:=
 zag .sl x1 σ fun a s=>
 m1 1 [iN 0] a s fun b s=>
 cA P zch [x0,b] s fun c s=>
 zaJ [c,(iN 0)] s fun v s d=>
 zaj v fun e v=>zaj v fun f v=>zag .sl x1 s fun g s=>
 bP .lss f g s fun h s=>
 ze h (il true 2 2 x1 f s fun i s=>
 cA P zdA [e,i] s fun j s=>
 bP .add f (iN 1) s fun l s=>
 d [j,l] s) (z1 Z e s)
theorem zxZ:F2 Tryz.prog zix zqw:=zf [.l [0, 5] [(11, 12)]] Tryz.func250
def zzL (P:Program) (x0:AV) (σ:LO) (Z:ZT):Prop:=
 zaH x0 σ fun a s=>
 zaJ [(iN 0)] s fun v s b=>
 zaj v fun c v=>zrR a s fun d s=>
 zc d 0 s fun e s=>
 ze e (zc d 2 s fun f s=>
 bP .lss f (.d (.int .i32 33)) s fun g s=>
 gFm g f s fun h s=>
 gF g (bP .geq h (.d (.int .i32 127)) s) s fun i s=>
 gFm g i s fun j s=>
 gTm j f s fun l s=>
 gT j (bP .leq l (.d (.int .i32 159)) s) s fun m s=>
 gF g (anC j m s) s fun n s=>
 orC g n s fun o s=>
 gFm o f s fun p s=>
 gF o (bP .eql p (.d (.int .i32 47)) s) s fun q s=>
 orC o q s fun r s=>
 gFm r f s fun u s=>
 gF r (bP .eql u (.d (.int .i32 65533)) s) s fun w s=>
 orC r w s fun y s=>
 ze y (z1 Z (iN 0) s) (bP .add c (iN 1) s fun z s=>
 b [z] s)) (bP .gtr c (iN 16) s fun A s=>
 ze A (z1 Z (iN 0) s) (z1 Z c s))
theorem e_op_Runes:F1 Tryz.prog ztr zzL:=zf [.l [3] [(2, 1),(5, 1),(8, 23)]] Tryz.func251
def zdf (P:Program) (x0 x1:AV) (σ:LO) (Z:ZT):Prop:=
 zag .sl x0 σ fun a s=>
 zaJ [(iN 0)] s fun v s b=>
 zaj v fun c v=>bP .lss c a s fun d s=>
 ze d (il false 1 1 x0 c s fun e s=>
 zaL P x1 [dm e] s fun f s=>
 ze f (z1 Z c s) (bP .add c (iN 1) s fun g s=>
 b [g] s)) (z1 Z (iN (-1)) s)
theorem zfD:F2 Tryz.prog zde zdf:=zf [.l [8] [(4, 2),(9, 10)]] Tryz.func252
def zkI (P:Program) (x0:AV) (σ:LO) (Z:ZT):Prop:=
 zaQ x0 σ fun a s=>
 fl 0 a s fun b s=>
 zb 1 a s fun c s=>
 zg false 1 c s fun d s=>
 zb 2 a s fun e s=>
 zg false 1 e s fun f s=>
 zb 3 a s fun g s=>
 zg true 2 g s fun h s=>
 zb 5 a s fun i s=>
 zg false 1 i s fun j s=>
 zb 6 a s fun l s=>
 zg false 1 l s fun m s=>
 cA P zfP [b] s fun n t=>
 zH c s t/\(zH e s t/\(zH g s t/\(zH i s t/\(zH l s t/\(cA P zhe [d] t fun o s=>
 zH e t s/\(zH g t s/\(zH i t s/\(zH l t s/\(cA P zhe [f] s fun p t=>
 zH g s t/\(zH i s t/\(zH l s t/\(cA P zca [h] t fun q s=>
 zH i t s/\(zH l t s/\(cA P zki [j] s fun r t=>
 zH l s t/\(cA P zbM [m] t fun u s=>
 zq false 1 6 (zL (rep [iN 0] 6) [(0, 1,n),(1, 1,o),(2, 1,p),(3, 1,q),(4, 1,r),(5, 1,u)]) s fun w s=>
 cA P zcu [w] s fun y s=>
 z1 Z y s)))))))))))))))
theorem zrb:F1 Tryz.prog zgG zkI:=zf [.d [(0, 2),(3, 2),(6, 2),(9, 2),(12, 2),(15, 2),(2, 1),(5, 1),(8, 1),(11, 1),(14, 1),(17, 4)] [(2,[6, 9, 12, 15, 18]),(5,[9, 12, 15, 18]),(8,[12, 15, 18]),(11,[15, 18]),(14,[18])]] Tryz.func253
def zxD (P:Program) (x0:AV) (σ:LO) (Z:ZT):Prop:=
 zaJ [x0,(iN 0)] σ fun v s a=>
 zaj v fun b v=>zaj v fun c v=>zag .str b s fun d s=>
 bP .gtr d (iN 0) s fun e s=>
 ze e (cA P zqS [b] s fun f s=>
 zc f 0 s fun g s=>
 zc f 1 s fun h s=>
 bP .eql h (iN 0) s fun i s=>
 gFm i g s fun j s=>
 gF i (bP .lss j (iN 33) s) s fun l s=>
 orC i l s fun m s=>
 gFm m g s fun n s=>
 gF m (bP .geq n (iN 127) s) s fun o s=>
 gFm m o s fun p s=>
 gTm p g s fun q s=>
 gT p (bP .lss q (iN 160) s) s fun r s=>
 gF m (anC p r s) s fun u s=>
 orC m u s fun w s=>
 gFm w g s fun y s=>
 gF w (bP .eql y (iN 47) s) s fun z s=>
 orC w z s fun A s=>
 gFm A g s fun B s=>
 gF A (bP .eql B (iN 65533) s) s fun C s=>
 orC A C s fun D s=>
 gFm D c s fun E s=>
 gF D (bP .geq E (iN 16) s) s fun F s=>
 orC D F s fun G s=>
 ze G (z1 Z (iN 0) s) (bP .add c (iN 1) s fun H s=>
 zeQ .str b (some h) none none s fun I s=>
 a [I,H] s)) (z1 Z c s)
theorem e_r06_Runes:F1 Tryz.prog zqT zxD:=zf [.l [0, 3] [(2, 1),(4, 41)]] Tryz.func254
def zxC (P:Program) (x0:AV) (σ:LO) (Z:ZT):Prop:=
 zbv x0 (iN 0) σ fun a s=>
 cA P zto [a] s fun b s=>
 bP .eql b (iN 0) s fun c s=>
 gFm c b s fun d s=>
 gFm c x0 s fun e s=>
 gF c (zag .str e s) s fun f s=>
 gF c (bP .gtr d f s) s fun g s=>
 orC c g s fun h s=>
 ze h (z2 Z (iN 0) (iN 0) s) (bP .eql b (iN 1) s fun i s=>
 ze i (zbv x0 (iN 0) s fun j s=>
 zap (.int .i64) j s fun l s=>
 z2 Z l (iN 1) s) (zbv x0 (iN 0) s fun m s=>
 zap (.int .i64) m s fun n s=>
 bP .sub (iN 7) b s fun o s=>
 bP .shl (iN 1) o s fun p s=>
 bP .sub p (iN 1) s fun q s=>
 bP .and n q s fun r s=>
 zaJ [r,(iN 1)] s fun v s u=>
 zaj v fun w v=>zaj v fun y v=>bP .lss y b s fun z s=>
 ze z (zbv x0 y s fun A s=>
 bP .lss A (.d (.int .u8 128)) s fun B s=>
 gFm B x0 s fun C s=>
 gFm B y s fun D s=>
 gF B (zbv C D s) s fun E s=>
 gF B (bP .geq E (.d (.int .u8 192)) s) s fun F s=>
 orC B F s fun G s=>
 ze G (z2 Z (iN 0) (iN 0) s) (bP .mul w (iN 64) s fun H s=>
 zbv x0 y s fun I s=>
 zap (.int .i64) I s fun J s=>
 bP .rem J (iN 64) s fun K s=>
 bP .add H K s fun L s=>
 bP .add y (iN 1) s fun M s=>
 u [L,M] s)) (zq false 1 5 (zL (rep [iN 0] 5) [(0, 1,(iN 0)),(1, 1,(iN 0)),(2, 1,(iN 128)),(3, 1,(iN 2048)),(4, 1,(iN 65536))]) s fun N s=>
 il false 1 1 N b s fun O s=>
 bP .lss w O s fun Q s=>
 gFm Q w s fun R s=>
 gF Q (bP .gtr R (iN 1114111) s) s fun S s=>
 orC Q S s fun T s=>
 gFm T w s fun U s=>
 gF T (bP .geq U (iN 55296) s) s fun V s=>
 gFm T V s fun W s=>
 gTm W w s fun X s=>
 gT W (bP .lss X (iN 57344) s) s fun Y s=>
 gF T (anC W Y s) s fun a0 s=>
 orC T a0 s fun b0 s=>
 ze b0 (z2 Z (iN 0) (iN 0) s) (z2 Z w b s))))
theorem e_r06_rune1:F1 Tryz.prog zqS zxC:=zf [.d [(0, 9)] [],.l [5, 6] [(2, 2),(32, 23)]] Tryz.func255
def zzG (P:Program) (x0:AV) (σ:LO) (Z:ZT):Prop:=
 bP .lss x0 (.d (.int .u8 128)) σ fun a s=>
 ze a (z1 Z (iN 1) s) (bP .geq x0 (.d (.int .u8 194)) s fun b s=>
 gTm b x0 s fun c s=>
 gT b (bP .lss c (.d (.int .u8 224)) s) s fun d s=>
 anC b d s fun e s=>
 ze e (z1 Z (iN 2) s) (bP .geq x0 (.d (.int .u8 224)) s fun f s=>
 gTm f x0 s fun g s=>
 gT f (bP .lss g (.d (.int .u8 240)) s) s fun h s=>
 anC f h s fun i s=>
 ze i (z1 Z (iN 3) s) (bP .geq x0 (.d (.int .u8 240)) s fun j s=>
 gTm j x0 s fun l s=>
 gT j (bP .lss l (.d (.int .u8 245)) s) s fun m s=>
 anC j m s fun n s=>
 ze n (z1 Z (iN 4) s) (z1 Z (iN 0) s))))
theorem e_r06_size:F1 Tryz.prog zto zzG:=zf [] Tryz.func256
end Go.Proofs.YtpgahkdjkanblaaGreat
