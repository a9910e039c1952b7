/- The conditions of each function, its slots as variables, and that the logic's conditions are these. Printed by program. -/
import Derived.Test.YtpgahkdjkanblaaGreatNm
import Derived.KernelRfl
set_option linter.all false
set_option maxRecDepth 100000
namespace Go.Proofs.YtpgahkdjkanblaaGreat
open Go.AW
def zdk (P:Program) (x0 x1:AV) (σ:LO) (Z:ZT):Prop :=
 zal .sl x0 σ fun a s =>
 zaT [(iN 0)] s fun v s b =>
 zax v fun c v=>bP .lss c a s fun d s =>
 zi d (il true 9 9 x0 c s fun e s =>
 zaj P x1 [dm e] s fun f s =>
 zi f (z1 Z c s) (bP .add c (iN 1) s fun g s =>
 b [g] s)) (z1 Z (iN (-1)) s)
theorem zdi:F2 Tryz.prog zbX zdk:=zg [.l [8] [(4, 2),(9, 10)]] Tryz.func246 (by decide +kernel) (by kernel_rfl) fun {_ _ _ _ _}=>cast (by kernel_rfl)
def zsQ (P:Program) (x0:AV) (σ:LO) (Z:ZT):Prop :=
 bP .lss x0 (iN 0) σ fun a s =>
 gFm a x0 s fun b s =>
 gF a (bP .geq b (iN 8) s) s fun c s =>
 orC a c s fun d s =>
 zi d (z1 Z (iN (-1)) s) (bP .add (iN 13) x0 s fun e s =>
 z1 Z e s)
theorem zss:F1 Tryz.prog zmT zsQ:=zg [] Tryz.func247 (by decide +kernel) (by kernel_rfl) fun {_ _ _ _}=>cast (by kernel_rfl)
def zhU (P:Program) (x0 x1:AV) (σ:LO) (Z:ZT):Prop :=
 zal .sl x0 σ fun a s =>
 zaT [(iN 0)] s fun v s b =>
 zax v fun c v=>bP .lss c a s fun d s =>
 zi d (il false 1 1 x0 c s fun e s =>
 bP .eql x1 e s fun f s =>
 zi f (z1 Z c s) (bP .add c (iN 1) s fun g s =>
 b [g] s)) (z1 Z (iN (-1)) s)
theorem zhK:F2 Tryz.prog zfC zhU:=zg [.l [8] [(4, 2),(9, 10)]] Tryz.func248 (by decide +kernel) (by kernel_rfl) fun {_ _ _ _ _}=>cast (by kernel_rfl)
def zhX (P:Program) (x0 x1:AV) (σ:LO) (Z:ZT):Prop :=
 zbZ x0 σ fun a s =>
 zb 0 a s fun b s =>
 zal .sl x1 s fun c s =>
 cA P zcr [b,c] s fun _ s =>
 zal .sl x1 s fun e s =>
 zaT [(iN 0)] s fun v s f =>
 zax v fun g v=>bP .lss g e s fun h s =>
 zi h (il true 2 2 x1 g s fun i s =>
 cp [iN 0,iN 0] 2 i s fun j s =>
 zf true 2 j s fun l s =>
 cA P zbe [x0,l] s fun _ s =>
 bP .add g (iN 1) s fun n s =>
 f [n] s) (Z (some []) s)
theorem zhN:F2 Tryz.prog zcS zhX:=zg [.l [14] [(5, 1),(15, 7)]] Tryz.func249 (by decide +kernel) (by kernel_rfl) fun {_ _ _ _ _}=>cast (by kernel_rfl)
def zqV (P:Program) (x0 x1:AV) (σ:LO) (Z:ZT):Prop :=
 zal .sl x1 σ fun a s =>
 m1 1 [iN 0] a s fun b s =>
 cA P zcv [x0,b] s fun c s =>
 zaT [c,(iN 0)] s fun v s d =>
 zax v fun e v=>zax v fun f v=>zal .sl x1 s fun g s =>
 bP .lss f g s fun h s =>
 zi h (il true 2 2 x1 f s fun i s =>
 cA P zdA [e,i] s fun j s =>
 bP .add f (iN 1) s fun l s =>
 d [j,l] s) (z1 Z e s)
theorem zqI:F2 Tryz.prog ziy zqV:=zg [.l [0, 5] [(11, 12)]] Tryz.func250 (by decide +kernel) (by kernel_rfl) fun {_ _ _ _ _}=>cast (by kernel_rfl)
def zzs (P:Program) (x0:AV) (σ:LO) (Z:ZT):Prop :=
 zai x0 σ fun a s =>
 zaT [(iN 0)] s fun v s b =>
 zax v fun c v=>zrZ a s fun d s =>
 zc d 0 s fun e s =>
 zi e (zc d 2 s fun f s =>
 bP .lss f (.d (.int .i32 33)) s fun g s =>
 gFm g f s fun h s =>
 gF g (bP .geq h (.d (.int .i32 127)) s) s fun i s =>
 gFm g i s fun j s =>
 gTm j f s fun l s =>
 gT j (bP .leq l (.d (.int .i32 159)) s) s fun m s =>
 gF g (anC j m s) s fun n s =>
 orC g n s fun o s =>
 gFm o f s fun p s =>
 gF o (bP .eql p (.d (.int .i32 47)) s) s fun q s =>
 orC o q s fun r s =>
 gFm r f s fun u s =>
 gF r (bP .eql u (.d (.int .i32 65533)) s) s fun w s =>
 orC r w s fun y s =>
 zi y (z1 Z (iN 0) s) (bP .add c (iN 1) s fun z s =>
 b [z] s)) (bP .gtr c (iN 16) s fun A s =>
 zi A (z1 Z (iN 0) s) (z1 Z c s))
theorem zyG:F1 Tryz.prog ztz zzs:=zg [.l [3] [(2, 1),(5, 1),(8, 23)]] Tryz.func251 (by decide +kernel) (by kernel_rfl) fun {_ _ _ _}=>cast (by kernel_rfl)
def zda (P:Program) (x0 x1:AV) (σ:LO) (Z:ZT):Prop :=
 zal .sl x0 σ fun a s =>
 zaT [(iN 0)] s fun v s b =>
 zax v fun c v=>bP .lss c a s fun d s =>
 zi d (il false 1 1 x0 c s fun e s =>
 zaj P x1 [dm e] s fun f s =>
 zi f (z1 Z c s) (bP .add c (iN 1) s fun g s =>
 b [g] s)) (z1 Z (iN (-1)) s)
theorem zcZ:F2 Tryz.prog zcY zda:=zg [.l [8] [(4, 2),(9, 10)]] Tryz.func252 (by decide +kernel) (by kernel_rfl) fun {_ _ _ _ _}=>cast (by kernel_rfl)
def zkN (P:Program) (x0:AV) (σ:LO) (Z:ZT):Prop :=
 zaH x0 σ fun a s =>
 fl 0 a s fun b s =>
 zb 1 a s fun c s =>
 zf false 1 c s fun d s =>
 zb 2 a s fun e s =>
 zf false 1 e s fun f s =>
 zb 3 a s fun g s =>
 zf true 2 g s fun h s =>
 zb 5 a s fun i s =>
 zf false 1 i s fun j s =>
 zb 6 a s fun l s =>
 zf false 1 l s fun m s =>
 cA P zfV [b] s fun n t =>
 zI c s t/\(zI e s t/\(zI g s t/\(zI i s t/\(zI l s t/\(cA P zhg [d] t fun o s =>
 zI e t s/\(zI g t s/\(zI i t s/\(zI l t s/\(cA P zhg [f] s fun p t =>
 zI g s t/\(zI i s t/\(zI l s t/\(cA P zcm [h] t fun q s =>
 zI i t s/\(zI l t s/\(cA P zkk [j] s fun r t =>
 zI l s t/\(cA P zcq [m] t fun u s =>
 zl false 1 6 (zP (rep [iN 0] 6) [(0, 1,n),(1, 1,o),(2, 1,p),(3, 1,q),(4, 1,r),(5, 1,u)]) s fun w s =>
 cA P zcD [w] s fun y s =>
 z1 Z y s)))))))))))))))
theorem zkx:F1 Tryz.prog zgI zkN:=zg [.d [(0, 2),(3, 2),(6, 2),(9, 2),(12, 2),(15, 2),(2, 1),(5, 1),(8, 1),(11, 1),(14, 1),(17, 4)] [(2,[6, 9, 12, 15, 18]),(5,[9, 12, 15, 18]),(8,[12, 15, 18]),(11,[15, 18]),(14,[18])]] Tryz.func253 (by decide +kernel) (by kernel_rfl) fun {_ _ _ _}=>cast (by kernel_rfl)
def zxi (P:Program) (x0:AV) (σ:LO) (Z:ZT):Prop :=
 zaT [x0,(iN 0)] σ fun v s a =>
 zax v fun b v=>zax v fun c v=>zal .str b s fun d s =>
 bP .gtr d (iN 0) s fun e s =>
 zi e (cA P zrq [b] s fun f s =>
 zc f 0 s fun g s =>
 zc f 1 s fun h s =>
 bP .eql h (iN 0) s fun i s =>
 gFm i g s fun j s =>
 gF i (bP .lss j (iN 33) s) s fun l s =>
 orC i l s fun m s =>
 gFm m g s fun n s =>
 gF m (bP .geq n (iN 127) s) s fun o s =>
 gFm m o s fun p s =>
 gTm p g s fun q s =>
 gT p (bP .lss q (iN 160) s) s fun r s =>
 gF m (anC p r s) s fun u s =>
 orC m u s fun w s =>
 gFm w g s fun y s =>
 gF w (bP .eql y (iN 47) s) s fun z s =>
 orC w z s fun A s =>
 gFm A g s fun B s =>
 gF A (bP .eql B (iN 65533) s) s fun C s =>
 orC A C s fun D s =>
 gFm D c s fun E s =>
 gF D (bP .geq E (iN 16) s) s fun F s =>
 orC D F s fun G s =>
 zi G (z1 Z (iN 0) s) (bP .add c (iN 1) s fun H s =>
 zdb .str b (some h) none none s fun I s =>
 a [I,H] s)) (z1 Z c s)
theorem zwq:F1 Tryz.prog zrr zxi:=zg [.l [0, 3] [(2, 1),(4, 41)]] Tryz.func254 (by decide +kernel) (by kernel_rfl) fun {_ _ _ _}=>cast (by kernel_rfl)
def zxh (P:Program) (x0:AV) (σ:LO) (Z:ZT):Prop :=
 zaI x0 (iN 0) σ fun a s =>
 cA P ztw [a] s fun b s =>
 bP .eql b (iN 0) s fun c s =>
 gFm c b s fun d s =>
 gFm c x0 s fun e s =>
 gF c (zal .str e s) s fun f s =>
 gF c (bP .gtr d f s) s fun g s =>
 orC c g s fun h s =>
 zi h (z2 Z (iN 0) (iN 0) s) (bP .eql b (iN 1) s fun i s =>
 zi i (zaI x0 (iN 0) s fun j s =>
 zak (.int .i64) j s fun l s =>
 z2 Z l (iN 1) s) (zaI x0 (iN 0) s fun m s =>
 zak (.int .i64) m s fun n s =>
 bP .sub (iN 7) b s fun o s =>
 bP .shl (iN 1) o s fun p s =>
 bP .sub p (iN 1) s fun q s =>
 bP .and n q s fun r s =>
 zaT [r,(iN 1)] s fun v s u =>
 zax v fun w v=>zax v fun y v=>bP .lss y b s fun z s =>
 zi z (zaI x0 y s fun A s =>
 bP .lss A (.d (.int .u8 128)) s fun B s =>
 gFm B x0 s fun C s =>
 gFm B y s fun D s =>
 gF B (zaI C D s) s fun E s =>
 gF B (bP .geq E (.d (.int .u8 192)) s) s fun F s =>
 orC B F s fun G s =>
 zi G (z2 Z (iN 0) (iN 0) s) (bP .mul w (iN 64) s fun H s =>
 zaI x0 y s fun I s =>
 zak (.int .i64) I s fun J s =>
 bP .rem J (iN 64) s fun K s =>
 bP .add H K s fun L s =>
 bP .add y (iN 1) s fun M s =>
 u [L,M] s)) (zl false 1 5 (zP (rep [iN 0] 5) [(0, 1,(iN 0)),(1, 1,(iN 0)),(2, 1,(iN 128)),(3, 1,(iN 2048)),(4, 1,(iN 65536))]) s fun N s =>
 il false 1 1 N b s fun O s =>
 bP .lss w O s fun Q s =>
 gFm Q w s fun R s =>
 gF Q (bP .gtr R (iN 1114111) s) s fun S s =>
 orC Q S s fun T s =>
 gFm T w s fun U s =>
 gF T (bP .geq U (iN 55296) s) s fun V s =>
 gFm T V s fun W s =>
 gTm W w s fun X s =>
 gT W (bP .lss X (iN 57344) s) s fun Y s =>
 gF T (anC W Y s) s fun a0 s =>
 orC T a0 s fun b0 s =>
 zi b0 (z2 Z (iN 0) (iN 0) s) (z2 Z w b s))))
theorem zwp:F1 Tryz.prog zrq zxh:=zg [.d [(0, 9)] [],.l [5, 6] [(2, 2),(32, 23)]] Tryz.func255 (by decide +kernel) (by kernel_rfl) fun {_ _ _ _}=>cast (by kernel_rfl)
def zzn (P:Program) (x0:AV) (σ:LO) (Z:ZT):Prop :=
 bP .lss x0 (.d (.int .u8 128)) σ fun a s =>
 zi a (z1 Z (iN 1) s) (bP .geq x0 (.d (.int .u8 194)) s fun b s =>
 gTm b x0 s fun c s =>
 gT b (bP .lss c (.d (.int .u8 224)) s) s fun d s =>
 anC b d s fun e s =>
 zi e (z1 Z (iN 2) s) (bP .geq x0 (.d (.int .u8 224)) s fun f s =>
 gTm f x0 s fun g s =>
 gT f (bP .lss g (.d (.int .u8 240)) s) s fun h s =>
 anC f h s fun i s =>
 zi i (z1 Z (iN 3) s) (bP .geq x0 (.d (.int .u8 240)) s fun j s =>
 gTm j x0 s fun l s =>
 gT j (bP .lss l (.d (.int .u8 245)) s) s fun m s =>
 anC j m s fun n s =>
 zi n (z1 Z (iN 4) s) (z1 Z (iN 0) s))))
theorem zyB:F1 Tryz.prog ztw zzn:=zg [] Tryz.func256 (by decide +kernel) (by kernel_rfl) fun {_ _ _ _}=>cast (by kernel_rfl)
end Go.Proofs.YtpgahkdjkanblaaGreat
