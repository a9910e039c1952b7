/- Contract: what chapter 25 begins with: what lies where. -/
import Derived.Test.YtfgbofkdhfjegaaGreatBv1
set_option linter.all false
set_option maxRecDepth 100000
namespace Go.Proofs.YtfgbofkdhfjegaaGreat
open Go.AW
structure WJ (σ:List zh) (C:zh) (tb tc t g:Nat) (s:zaW) (S:List zh):Prop where
 cb:S[σ.length]? = some C
 xb:S[σ.length+1]? = some (rtO s.L)
 yb:S[σ.length+2]? = some (rlO s.G)
 tab:zdH S (σ.length+4) (σ.length+3) (σ.length+5) []
 led:zeY S (σ.length+7) (σ.length+6) (σ.length+8) []
 st:S[σ.length+9]? = some (.box [.box (σ.length+4) 0,.box (σ.length+7) 0,.box (σ.length+1) 0,.box (σ.length+2) 0,.own tb (zcd s.bs),.own tc (zfa s.cs),.d .nilp,.d .nilp])
 hb:S[σ.length+10]? = some (hdrC s.h)
 top:zcw S (σ.length+11) t g s.T
 kb:S[tb]? = some (.tok 7 s.bs.length)
 kc:S[tc]? = some (.tok 3 s.cs.length)
 ne : σ.length+11<tb/\tb<tc
 cn:∀ g sz cs,C≠.row g sz cs
 rest:∀ (j:Nat) (x:zh), σ[j]? = some x->(∀ g sz cs,x≠.row g sz cs)->S[j]? = some x
section
variable {σ S S':List zh} {C:zh} {tb tc t g t' g':Nat} {s:zaW}
theorem WJ.app (h:WJ σ C tb tc t g s S) (τ:List zh):WJ σ C tb tc t g s (S ++ τ):=
 ⟨zf h.cb,zf h.xb,zf h.yb,⟨zf h.tab.1,zf h.tab.2,zf h.tab.3⟩,⟨zf h.led.1,zf h.led.2,zf h.led.3⟩,zf h.st,zf h.hb,h.top.app τ,zf h.kb,zf h.kc,h.ne,h.cn,fun j x h1 h2=>zf (h.rest j x h1 h2)⟩
theorem WJ.x (h:WJ σ C tb tc t g s S) (L:List (List UInt8)):WJ σ C tb tc t g { s with L:=L } (S.set (σ.length+1) (rtO L)):=by
 have hn:=h.ne
 refine ⟨zc _ h.cb (by omega),List.getElem?_set_self (zB h.xb),zc _ h.yb (by omega),⟨zc _ h.tab.1 (by omega),zc _ h.tab.2 (by omega),zc _ h.tab.3 (by omega)⟩,⟨zc _ h.led.1 (by omega),zc _ h.led.2 (by omega),zc _ h.led.3 (by omega)⟩,
  zc _ h.st (by omega),zc _ h.hb (by omega),h.top.setN h.xb (fun _ _ _ e=>by cases e) (by omega),zc _ h.kb (by omega),zc _ h.kc (by omega),h.ne,h.cn,fun j x h1 h2=>zc _ (h.rest j x h1 h2) (by have:=zB h1;omega)⟩
theorem WJ.y (h:WJ σ C tb tc t g s S) (G:List zR):WJ σ C tb tc t g { s with G:=G } (S.set (σ.length+2) (rlO G)):=by
 have hn:=h.ne
 refine ⟨zc _ h.cb (by omega),zc _ h.xb (by omega),List.getElem?_set_self (zB h.yb),⟨zc _ h.tab.1 (by omega),zc _ h.tab.2 (by omega),zc _ h.tab.3 (by omega)⟩,⟨zc _ h.led.1 (by omega),zc _ h.led.2 (by omega),zc _ h.led.3 (by omega)⟩,
  zc _ h.st (by omega),zc _ h.hb (by omega),h.top.setN h.yb (fun _ _ _ e=>by cases e) (by omega),zc _ h.kb (by omega),zc _ h.kc (by omega),h.ne,h.cn,fun j x h1 h2=>zc _ (h.rest j x h1 h2) (by have:=zB h1;omega)⟩
theorem WJ.hdr (h:WJ σ C tb tc t g s S) (k:zdl):WJ σ C tb tc t g { s with h:=k } (S.set (σ.length+10) (hdrC k)):=by
 have hn:=h.ne
 refine ⟨zc _ h.cb (by omega),zc _ h.xb (by omega),zc _ h.yb (by omega),⟨zc _ h.tab.1 (by omega),zc _ h.tab.2 (by omega),zc _ h.tab.3 (by omega)⟩,⟨zc _ h.led.1 (by omega),zc _ h.led.2 (by omega),zc _ h.led.3 (by omega)⟩,
  zc _ h.st (by omega),List.getElem?_set_self (zB h.hb),h.top.setN h.hb (fun _ _ _ e=>by cases e) (by omega),zc _ h.kb (by omega),zc _ h.kc (by omega),h.ne,h.cn,fun j x h1 h2=>zc _ (h.rest j x h1 h2) (by have:=zB h1;omega)⟩
theorem WJ.oth {j:Nat} {x:zh} (h:WJ σ C tb tc t g s S) (hj:S[j]? = some x) (hr:∀ g sz cs,x≠.row g sz cs) (h1 : σ.length+11<j) (h2:j≠tb) (h3:j≠tc) (y:zh):WJ σ C tb tc t g s (S.set j y):=by
 refine ⟨zc _ h.cb (by omega),zc _ h.xb (by omega),zc _ h.yb (by omega),⟨zc _ h.tab.1 (by omega),zc _ h.tab.2 (by omega),zc _ h.tab.3 (by omega)⟩,⟨zc _ h.led.1 (by omega),zc _ h.led.2 (by omega),zc _ h.led.3 (by omega)⟩,
  zc _ h.st (by omega),zc _ h.hb (by omega),h.top.setN hj hr (by omega),zc _ h.kb (by omega),zc _ h.kc (by omega),h.ne,h.cn,fun j x h1 h2=>zc _ (h.rest j x h1 h2) (by have:=zB h1;omega)⟩
theorem WJ.blk (h:WJ σ C tb tc t g s S) (bs:List zbL):WJ σ C tb tc t g { s with bs:=bs } ((S.set tb (.tok 7 bs.length)).set (σ.length+9) (.box [.box (σ.length+4) 0,.box (σ.length+7) 0,.box (σ.length+1) 0,.box (σ.length+2) 0,.own tb (zcd bs),.own tc (zfa s.cs),.d .nilp,.d .nilp])):=by
 have hn:=h.ne
 refine ⟨zc _ (zc _ h.cb (by omega)) (by omega),zc _ (zc _ h.xb (by omega)) (by omega),zc _ (zc _ h.yb (by omega)) (by omega),⟨zc _ (zc _ h.tab.1 (by omega)) (by omega),zc _ (zc _ h.tab.2 (by omega)) (by omega),zc _ (zc _ h.tab.3 (by omega)) (by omega)⟩,⟨zc _ (zc _ h.led.1 (by omega)) (by omega),zc _ (zc _ h.led.2 (by omega)) (by omega),zc _ (zc _ h.led.3 (by omega)) (by omega)⟩,
  List.getElem?_set_self (by have:=zB h.st;simpa using this),zc _ (zc _ h.hb (by omega)) (by omega),(h.top.setN h.kb (fun _ _ _ e=>by cases e) (by omega)).setN (zc _ h.st (by omega)) (fun _ _ _ e=>by cases e) (by omega),zc _ (List.getElem?_set_self (zB h.kb)) (by omega),zc _ (zc _ h.kc (by omega)) (by omega),h.ne,h.cn,fun j x h1 h2=>zc _ (zc _ (h.rest j x h1 h2) (by have:=zB h1;omega)) (by have:=zB h1;omega)⟩
theorem WJ.crt (h:WJ σ C tb tc t g s S) (cs:List zeX):WJ σ C tb tc t g { s with cs:=cs } ((S.set tc (.tok 3 cs.length)).set (σ.length+9) (.box [.box (σ.length+4) 0,.box (σ.length+7) 0,.box (σ.length+1) 0,.box (σ.length+2) 0,.own tb (zcd s.bs),.own tc (zfa cs),.d .nilp,.d .nilp])):=by
 have hn:=h.ne
 refine ⟨zc _ (zc _ h.cb (by omega)) (by omega),zc _ (zc _ h.xb (by omega)) (by omega),zc _ (zc _ h.yb (by omega)) (by omega),⟨zc _ (zc _ h.tab.1 (by omega)) (by omega),zc _ (zc _ h.tab.2 (by omega)) (by omega),zc _ (zc _ h.tab.3 (by omega)) (by omega)⟩,⟨zc _ (zc _ h.led.1 (by omega)) (by omega),zc _ (zc _ h.led.2 (by omega)) (by omega),zc _ (zc _ h.led.3 (by omega)) (by omega)⟩,
  List.getElem?_set_self (by have:=zB h.st;simpa using this),zc _ (zc _ h.hb (by omega)) (by omega),(h.top.setN h.kc (fun _ _ _ e=>by cases e) (by omega)).setN (zc _ h.st (by omega)) (fun _ _ _ e=>by cases e) (by omega),zc _ (zc _ h.kb (by omega)) (by omega),zc _ (List.getElem?_set_self (zB h.kc)) (by omega),h.ne,h.cn,fun j x h1 h2=>zc _ (zc _ (h.rest j x h1 h2) (by have:=zB h1;omega)) (by have:=zB h1;omega)⟩
theorem WJ.exec {L:List (List UInt8)} {T:zcf} (h:WJ σ C tb tc t g s S) (hT:zcw S' (σ.length+11) t' g' T) (hL:S'[σ.length+1]? = some (rtO L)) (hS:zvH S S' (σ.length+1) (σ.length+11)):WJ σ C tb tc t' g' { s with L:=L,T:=T } S':=by
 have hn:=h.ne
 refine ⟨?_,hL,hS.get _ _ h.yb (by omega) (by omega) (fun _ _ _ e=>by cases e),⟨hS.get _ _ h.tab.1 (by omega) (by omega) (fun _ _ _ e=>by cases e),hS.get _ _ h.tab.2 (by omega) (by omega) (fun _ _ _ e=>by cases e),hS.get _ _ h.tab.3 (by omega) (by omega) (fun _ _ _ e=>by cases e)⟩,⟨hS.get _ _ h.led.1 (by omega) (by omega) (fun _ _ _ e=>by cases e),hS.get _ _ h.led.2 (by omega) (by omega) (fun _ _ _ e=>by cases e),hS.get _ _ h.led.3 (by omega) (by omega) (fun _ _ _ e=>by cases e)⟩,
  hS.get _ _ h.st (by omega) (by omega) (fun _ _ _ e=>by cases e),hS.get _ _ h.hb (by omega) (by omega) (fun _ _ _ e=>by cases e),hT,hS.get _ _ h.kb (by omega) (by omega) (fun _ _ _ e=>by cases e),hS.get _ _ h.kc (by omega) (by omega) (fun _ _ _ e=>by cases e),h.ne,h.cn,fun j x h1 h2=>hS.get _ _ (h.rest j x h1 h2) (by have:=zB h1;omega) (by have:=zB h1;omega) h2⟩
 exact hS.get _ _ h.cb (by omega) (by omega) h.cn
end
structure WE (σ:List zh) (C:zh) (r w:AV) (s:zaW) (L:List (List UInt8)) (G:List zR) (S:List zh):Prop where
 cb:S[σ.length]? = some C
 xb:S[σ.length+1]? = some (rtO s.L)
 yb:S[σ.length+2]? = some (rlO s.G)
 tab:zdH S (σ.length+4) (σ.length+3) (σ.length+5) L
 led:zeY S (σ.length+7) (σ.length+6) (σ.length+8) G
 st:S[σ.length+9]? = some (.box [.box (σ.length+4) 0,.box (σ.length+7) 0,.box (σ.length+1) 0,.box (σ.length+2) 0,.d (.slice (zcd s.bs)),.d (.slice (zfa s.cs)),r,w])
 rest:∀ (j:Nat) (x:zh), σ[j]? = some x->(∀ g sz cs,x≠.row g sz cs)->S[j]? = some x
section
variable {σ S:List zh} {C:zh} {r w:AV} {s:zaW} {L:List (List UInt8)} {G:List zR}
theorem WE.app (h:WE σ C r w s L G S) (τ:List zh):WE σ C r w s L G (S ++ τ):=
 ⟨zf h.cb,zf h.xb,zf h.yb,h.tab.app τ,h.led.app τ,zf h.st,fun j x h1 h2=>zf (h.rest j x h1 h2)⟩
theorem WE.putT (h:WE σ C r w s L G S) (L':List (List UInt8)):WE σ C r w s L' G (putTab S (σ.length+4) (σ.length+3) (σ.length+5) L'):=by
 unfold putTab
 refine ⟨?_,?_,?_,⟨?_,?_,?_⟩,⟨?_,?_,?_⟩,?_,fun j x h1 h2 => ?_⟩
 ·exact zc _ (zc _ (zc _ h.cb (by omega)) (by omega)) (by omega)
 ·exact zc _ (zc _ (zc _ h.xb (by omega)) (by omega)) (by omega)
 ·exact zc _ (zc _ (zc _ h.yb (by omega)) (by omega)) (by omega)
 ·exact zc _ (List.getElem?_set_self (by have:=zB h.tab.1;simpa using this)) (by omega)
 ·exact List.getElem?_set_self (by have:=zB h.tab.2;simpa using this)
 ·exact zc _ (zc _ (List.getElem?_set_self (zB h.tab.3)) (by omega)) (by omega)
 ·exact zc _ (zc _ (zc _ h.led.1 (by omega)) (by omega)) (by omega)
 ·exact zc _ (zc _ (zc _ h.led.2 (by omega)) (by omega)) (by omega)
 ·exact zc _ (zc _ (zc _ h.led.3 (by omega)) (by omega)) (by omega)
 ·exact zc _ (zc _ (zc _ h.st (by omega)) (by omega)) (by omega)
 ·have:=zB h1
  exact zc _ (zc _ (zc _ (h.rest j x h1 h2) (by omega)) (by omega)) (by omega)
theorem WE.putG (h:WE σ C r w s L G S) (G':List zR):WE σ C r w s L G' (putLed S (σ.length+7) (σ.length+6) (σ.length+8) G'):=by
 unfold putLed
 refine ⟨?_,?_,?_,⟨?_,?_,?_⟩,⟨?_,?_,?_⟩,?_,fun j x h1 h2 => ?_⟩
 ·exact zc _ (zc _ (zc _ h.cb (by omega)) (by omega)) (by omega)
 ·exact zc _ (zc _ (zc _ h.xb (by omega)) (by omega)) (by omega)
 ·exact zc _ (zc _ (zc _ h.yb (by omega)) (by omega)) (by omega)
 ·exact zc _ (zc _ (zc _ h.tab.1 (by omega)) (by omega)) (by omega)
 ·exact zc _ (zc _ (zc _ h.tab.2 (by omega)) (by omega)) (by omega)
 ·exact zc _ (zc _ (zc _ h.tab.3 (by omega)) (by omega)) (by omega)
 ·exact List.getElem?_set_self (by have:=zB h.led.1;simpa using this)
 ·exact zc _ (zc _ (List.getElem?_set_self (zB h.led.2)) (by omega)) (by omega)
 ·exact zc _ (List.getElem?_set_self (by have:=zB h.led.3;simpa using this)) (by omega)
 ·exact zc _ (zc _ (zc _ h.st (by omega)) (by omega)) (by omega)
 ·have:=zB h1
  exact zc _ (zc _ (zc _ (h.rest j x h1 h2) (by omega)) (by omega)) (by omega)
theorem WE.x (h:WE σ C r w s L G S) (L':List (List UInt8)):WE σ C r w { s with L:=L' } L G (S.set (σ.length+1) (rtO L')):=by
 refine ⟨zc _ h.cb (by omega),List.getElem?_set_self (zB h.xb),zc _ h.yb (by omega),⟨zc _ h.tab.1 (by omega),zc _ h.tab.2 (by omega),zc _ h.tab.3 (by omega)⟩,⟨zc _ h.led.1 (by omega),zc _ h.led.2 (by omega),zc _ h.led.3 (by omega)⟩,zc _ h.st (by omega),fun j x h1 h2=>zc _ (h.rest j x h1 h2) (by have:=zB h1;omega)⟩
theorem WE.oth {j:Nat} (h:WE σ C r w s L G S) (hj : σ.length+9<j) (y:zh):WE σ C r w s L G (S.set j y):=by
 refine ⟨zc _ h.cb (by omega),zc _ h.xb (by omega),zc _ h.yb (by omega),⟨zc _ h.tab.1 (by omega),zc _ h.tab.2 (by omega),zc _ h.tab.3 (by omega)⟩,⟨zc _ h.led.1 (by omega),zc _ h.led.2 (by omega),zc _ h.led.3 (by omega)⟩,zc _ h.st (by omega),fun j x h1 h2=>zc _ (h.rest j x h1 h2) (by have:=zB h1;omega)⟩
theorem WJ.done {tb tc t g:Nat} (h:WJ σ C tb tc t g s S):WE σ C (.d .nilp) (.d .nilp) s [] [] ((S.set (σ.length+9) (.box [.box (σ.length+4) 0,.box (σ.length+7) 0,.box (σ.length+1) 0,.box (σ.length+2) 0,.d (.slice (zcd s.bs)),.own tc (zfa s.cs),.d .nilp,.d .nilp])).set (σ.length+9) (.box [.box (σ.length+4) 0,.box (σ.length+7) 0,.box (σ.length+1) 0,.box (σ.length+2) 0,.d (.slice (zcd s.bs)),.d (.slice (zfa s.cs)),.d .nilp,.d .nilp])):=by
 rw [List.set_set]
 refine ⟨zc _ h.cb (by omega),zc _ h.xb (by omega),zc _ h.yb (by omega),⟨zc _ h.tab.1 (by omega),zc _ h.tab.2 (by omega),zc _ h.tab.3 (by omega)⟩,⟨zc _ h.led.1 (by omega),zc _ h.led.2 (by omega),zc _ h.led.3 (by omega)⟩,List.getElem?_set_self (zB h.st),fun j x h1 h2=>zc _ (h.rest j x h1 h2) (by have:=zB h1;omega)⟩
end
theorem WE.rdr {σ S:List zh} {C:zh} {r w:AV} {s:zaW} {L:List (List UInt8)} {G:List zR} (h:WE σ C r w s L G S) (r' w':AV):WE σ C r' w' s L G (S.set (σ.length+9) (.box [.box (σ.length+4) 0,.box (σ.length+7) 0,.box (σ.length+1) 0,.box (σ.length+2) 0,.d (.slice (zcd s.bs)),.d (.slice (zfa s.cs)),r',w'])):=
 ⟨zc _ h.cb (by omega),zc _ h.xb (by omega),zc _ h.yb (by omega),⟨zc _ h.tab.1 (by omega),zc _ h.tab.2 (by omega),zc _ h.tab.3 (by omega)⟩,⟨zc _ h.led.1 (by omega),zc _ h.led.2 (by omega),zc _ h.led.3 (by omega)⟩,List.getElem?_set_self (zB h.st),fun j x h1 h2=>zc _ (h.rest j x h1 h2) (by have:=zB h1;omega)⟩
theorem c_block {σ S:List zh} {C:zh} {tb tc t g N m:Nat} {s:zaW} {k:Int} {o:TOp} (h:WJ σ C tb tc t g s S) (hI:StI N m s) (hN:N<=1073741823) (hm:m<=1000) (hk:0<=k/\k<=1000) (ho:zlI o<=20971520)
  {K:KT} (hK:∀ S2 t' g',WJ σ C tb tc t' g' { blX s ⟨0,k+1,o, 0, 0⟩ with h:=s.h } S2->K (ztU (blX s ⟨0,k+1,o, 0, 0⟩).h) S2) :
  zp Tryz.prog zfu [.box (σ.length+9) 0,.box (σ.length+11) 0,ztU s.h,.d (.int .i64 k),opA o] S K:=by
 refine zcU zll.is rfl fun hl _=>zll.goes ?_
 have hw:IntKind.i64.wrap (k+1)=k+1:=zU (by omega) (by omega)
 have hn:=h.ne
 have hbl:=hI.bl
 have tbl:=zB h.kb
 have tcl:=zB h.kc
 have hled:=hI.led
 have f9:∀ τ,(S ++ τ)[σ.length+9]? = some _:=fun τ=>zf h.st
 have lS : σ.length+14<=S.length:=by have:=zB h.kc;omega
 simp only [zlD,iN,bT,bF,eN,zl4,zl7,zl8,ztU,opA]
 refine gq2 (zg f9 hw) ?_
 have hW1:=(h.x (zrK s.L ⟨0,k+1,o, 0, 0⟩)).y (zum s.L s.G ⟨0,k+1,o, 0, 0⟩)
 have y1:∀ τ A B,((S ++ τ).set (σ.length+1) A).set (σ.length+2) B=(S.set (σ.length+1) A).set (σ.length+2) B ++ τ:=fun τ A B=>by
  rw [List.set_append_left _ _ (by omega),List.set_append_left _ _ (by simp;omega)]
 obtain ⟨S1,hS1⟩:∃ S1,(S.set (σ.length+1) (rtO (zrK s.L ⟨0,k+1,o, 0, 0⟩))).set (σ.length+2) (rlO (zum s.L s.G ⟨0,k+1,o, 0, 0⟩))=S1:=⟨_,rfl⟩
 have l1:S1.length=S.length:=by rw [← hS1];simp
 rw [hS1] at hW1
 have hI1:=stI_sl (x:=⟨0,k+1,o, 0, 0⟩) hI ho
 have g9:∀ τ,(S1 ++ τ)[σ.length+9]? = some _:=fun τ=>zf hW1.st
 refine ⟨?_,?_⟩
 rotate_left
 refine gq2 f9 ?_
 all_goals
  refine c_rqrSeal (L:=s.L) (G:=s.G) (x:=⟨0,k+1,o, 0, 0⟩) (zf h.xb) (zf h.yb) (by omega) hI.tab (by omega) ho ?_
  rw [y1,hS1]
  simp only [← l1]
  cases he:(zwj s.L ⟨0,k+1,o, 0, 0⟩ != 0)
  rotate_left
  ·have hb:blX s ⟨0,k+1,o, 0, 0⟩=slX s ⟨0,k+1,o, 0, 0⟩:=by rw [blX,if_neg (by simpa using he)]
   rw [hb] at hK
   simp only [zkz]
   (repeat' (first|simp -dsimp only [↓zeU, ↓zaA, ↓zbp, ↓zeV, ↓zeO, ↓zeM, ↓zeP, ↓zeN, ↓zbu, ↓zbq, ↓zbv, ↓zbr, ↓zeQ, ↓zbo, ↓zbw, ↓zbs, ↓zbx, ↓zbt, ↓zeL, ↓zeT, ↓zbn, ↓zby, ↓zeG, ↓zeF, ↓zeK,iN,bT,bF,eN, ↓zco, ↓unC, ↓zX, ↓zM, ↓zN, ↓zQ, ↓zZ, ↓zai, ↓zcv, ↓zaf, ↓zaS, ↓zV, ↓zl, ↓zm, ↓zbg, ↓ze, ↓zae, ↓zC, ↓zaM, ↓zaT, ↓zd, ↓zA, ↓zr, ↓zD, ↓zao, ↓zcY, ↓zdn, ↓zap, ↓zaw, ↓zaN, ↓zaZ, ↓zbk, ↓zw, ↓zaj, ↓zO, ↓zE, ↓zY,zdr,zbm,zbl,unA,zdo,bnd,zdL,zab,zS,zdI,dm,dm1,zG,zak,zdZ,zdY,zH,Q0,Q1,Q2,Q3,Q4,Q5,zW,zx,zy,zT,zL,Q6,Q7,Q8,Q9,Q10,Q11,Q12,Q13,Q14,Nat.reduceAdd,Q15,Int.reduceToNat,Q16,Q17,Q18,Q19,Q20,reduceIte,Q21,Q22,zF,rep,zaa,zeC,toD,zag,Q23,Q24,Q25,Q26,Q27,Q28,Nat.reduceLeDiff,Q29,Nat.reduceSub,Q30,Q31,Q32,sc,Q33,Q34,Q35,Q36,Q37,Q26,Q38,Q39,zis,zio,zil,zit,zcN,ziq,zim,zir,zin,zcM,zcO,ziu,ziv,Bool.not_true,Bool.not_false,List.length_map,he, ← l1,List.length_set]|(with_reducible refine zix ?_)|fail))
   exact zeR (hK _ t g (hW1.app _))
  have he0:zwj s.L ⟨0,k+1,o, 0, 0⟩=0:=by simpa using he
  have hb:blX s ⟨0,k+1,o, 0, 0⟩=exX (slX s ⟨0,k+1,o, 0, 0⟩) [znh s.L ⟨0,k+1,o, 0, 0⟩]:=by rw [blX,if_pos he0]
  have hop:zlI (znh s.L ⟨0,k+1,o, 0, 0⟩).op<=20971520:=by rw [sealS_op he0];exact ho
  have hexI:=stI_ex (b := [znh s.L ⟨0,k+1,o, 0, 0⟩]) hI1 (by simpa using hop)
  rw [hb] at hK
  clear hb
  obtain ⟨x,hx⟩:∃ x,znh s.L ⟨0,k+1,o, 0, 0⟩=x:=⟨_,rfl⟩
  rw [hx] at hK hop hexI ⊢
  simp only [zkz]
  (repeat' (first|simp -dsimp only [↓zeU, ↓zaA, ↓zbp, ↓zeV, ↓zeO, ↓zeM, ↓zeP, ↓zeN, ↓zbu, ↓zbq, ↓zbv, ↓zbr, ↓zeQ, ↓zbo, ↓zbw, ↓zbs, ↓zbx, ↓zbt, ↓zeL, ↓zeT, ↓zbn, ↓zby, ↓zeG, ↓zeF, ↓zeK,iN,bT,bF,eN, ↓zco, ↓unC, ↓zX, ↓zM, ↓zN, ↓zQ, ↓zZ, ↓zai, ↓zcv, ↓zaf, ↓zaS, ↓zV, ↓zl, ↓zm, ↓zbg, ↓ze, ↓zae, ↓zC, ↓zaM, ↓zaT, ↓zd, ↓zA, ↓zr, ↓zD, ↓zao, ↓zcY, ↓zdn, ↓zap, ↓zaw, ↓zaN, ↓zaZ, ↓zbk, ↓zw, ↓zaj, ↓zO, ↓zE, ↓zY,zdr,zbm,zbl,unA,zdo,bnd,zdL,zab,zS,zdI,dm,dm1,zG,zak,zdZ,zdY,zH,Q0,Q1,Q2,Q3,Q4,Q5,zW,zx,zy,zT,zL,Q6,Q7,Q8,Q9,Q10,Q11,Q12,Q13,Q14,Nat.reduceAdd,Q15,Int.reduceToNat,Q16,Q17,Q18,Q19,Q20,reduceIte,Q21,Q22,zF,rep,zaa,zeC,toD,zag,Q23,Q24,Q25,Q26,Q27,Q28,Nat.reduceLeDiff,Q29,Nat.reduceSub,Q30,Q31,Q32,sc,Q33,Q34,Q35,Q36,Q37,Q26,Q38,Q39,zis,zio,zil,zit,zcN,ziq,zim,zir,zin,zcM,zcO,ziu,ziv,Bool.not_true,Bool.not_false,List.length_map,he, ← l1,List.length_set,g9]|(with_reducible refine zix ?_)|fail))
 all_goals
  refine ⟨?_,?_⟩
  ·refine zvq (L:=zrK s.L ⟨0,k+1,o, 0, 0⟩) (T:=s.T) (h:=s.h) (b := [x]) (hW1.top.app _) hI1.tops hI1.last (zf hW1.xb) hI1.tab (by omega) (by simpa using hop) (by simp) fun S2 t' g' N' hT2 hL2 hS2 => ?_
   have hJ2:=(hW1.app _).exec hT2 hL2 hS2
   have a2:=hS2.get S1.length _ (by rw [zy];rfl) (by omega) (by omega) (fun _ _ _ e=>by cases e)
   have c2:=hS2.get (S1.length+2) _ (by rw [zx];rfl) (by omega) (by omega) (fun _ _ _ e=>by cases e)
   have l2:=zB c2
   simp only [exX,slX] at hK hexI
   obtain ⟨r,hr⟩:∃ r,zdG (zrK s.L ⟨0,k+1,o, 0, 0⟩) s.T s.h [x]=r:=⟨_,rfl⟩
   simp only [hr] at hK hJ2 hexI ⊢
   refine gq2 hw ?_
   obtain ⟨p,hp⟩:∃ p,S2.length=p:=⟨_,rfl⟩
   obtain ⟨S3,hS3⟩:∃ S3,S2++[hdrC r.h]=S3:=⟨_,rfl⟩
   have hJ3:WJ σ C tb tc t' g' _ S3:=hS3▸hJ2.app _
   have a3:S3[S1.length]? = _:=hS3▸zf a2
   have c3:S3[S1.length+2]? = _:=hS3▸zf c2
   have n3:S3[p]? = some (hdrC r.h):=by rw [← hS3, ← hp,zy];rfl
   simp only [hdrC] at hS3
   have hpl:S1.length+2<p:=by omega
   have e3:(S2++[zh.box [.d (.int .i64 0),.d (.int .i64 0),.d (.int .i64 0),.d (.int .i64 0),.d (.int .i64 0)]]).set S2.length (.box (zaa [.d (.int .i64 0),.d (.int .i64 0),.d (.int .i64 0),.d (.int .i64 0),.d (.int .i64 0)] 0 [.d (.int .i64 r.h.seq),.d (.int .i64 r.h.prev),.d (.int .i64 r.h.batch),.d (.int .i64 r.h.root),.d (.int .i64 r.h.state)]))=S3:=by rw [← hS3,zL];rfl
   rw [e3,hp]
   have kb:=hJ3.kb
   have q0:=hJ3.st
   have hbe:(zcd s.bs).length=s.bs.length:=List.length_map ..
   cases hre:(r.e != 0)
   ·have hre':r.e=0:=by simpa using hre
    rw [if_neg (by simp [hre'])] at hK
    have q1:=fun Y=>zc (i:=tb) Y hJ3.st (by omega)
    have hJ5:=hJ3.blk (s.bs++[⟨r.h,[x],r.p⟩])
    have n5:=fun Y Z=>zc (i := σ.length+9) Z (zc (i:=tb) Y n3 (by omega)) (by omega)
    have c5:=fun Y Z=>zc (i := σ.length+9) Z (zc (i:=tb) Y c3 (by omega)) (by omega)
    rw [List.length_append,zcd,List.map_append] at hJ5
    obtain ⟨S5,hS5⟩:∃ S5,(S3.set tb (.tok 7 (s.bs.length+1))).set (σ.length+9) (.box [.box (σ.length+4) 0,.box (σ.length+7) 0,.box (σ.length+1) 0,.box (σ.length+2) 0,.own tb (zcd s.bs++[ziE ⟨r.h,[x],r.p⟩]),.own tc (zfa s.cs),.d .nilp,.d .nilp])=S5:=⟨_,rfl⟩
    have n6:S5[p]? = some (hdrC r.h):=hS5▸n5 _ _
    have c6:S5[S1.length+2]? = _:=hS5▸c5 _ _
    have c7:=fun Y=>List.getElem?_set_self (a:=Y) (zB c6)
    have hJ6:WJ σ C tb tc t' g' _ S5:=hS5▸hJ5
    simp only [ziE,zda,zbX,List.map_cons,List.map_nil] at hS5
    (repeat' (first|simp -dsimp only [↓zeU, ↓zaA, ↓zbp, ↓zeV, ↓zeO, ↓zeM, ↓zeP, ↓zeN, ↓zbu, ↓zbq, ↓zbv, ↓zbr, ↓zeQ, ↓zbo, ↓zbw, ↓zbs, ↓zbx, ↓zbt, ↓zeL, ↓zeT, ↓zbn, ↓zby, ↓zeG, ↓zeF, ↓zeK,iN,bT,bF,eN, ↓zco, ↓unC, ↓zX, ↓zM, ↓zN, ↓zQ, ↓zZ, ↓zai, ↓zcv, ↓zaf, ↓zaS, ↓zV, ↓zl, ↓zm, ↓zbg, ↓ze, ↓zae, ↓zC, ↓zaM, ↓zaT, ↓zd, ↓zA, ↓zr, ↓zD, ↓zao, ↓zcY, ↓zdn, ↓zap, ↓zaw, ↓zaN, ↓zaZ, ↓zbk, ↓zw, ↓zaj, ↓zO, ↓zE, ↓zY,zdr,zbm,zbl,unA,zdo,bnd,zdL,zab,zS,zdI,dm,dm1,zG,zak,zdZ,zdY,zH,Q0,Q1,Q2,Q3,Q4,Q5,zW,zx,zy,zT,zL,Q6,Q7,Q8,Q9,Q10,Q11,Q12,Q13,Q14,Nat.reduceAdd,Q15,Int.reduceToNat,Q16,Q17,Q18,Q19,Q20,reduceIte,Q21,Q22,zF,rep,zaa,zeC,toD,zag,Q23,Q24,Q25,Q26,Q27,Q28,Nat.reduceLeDiff,Q29,Nat.reduceSub,Q30,Q31,Q32,sc,Q33,Q34,Q35,Q36,Q37,Q26,Q38,Q39,zis,zio,zil,zit,zcN,ziq,zim,zir,zin,zcM,zcO,ziu,ziv,Bool.not_true,Bool.not_false,List.length_map,hre,hp,hS3,q0,q1,kb,hbe,hS5,n3,n6,c6,c7, ← l1]|(with_reducible refine zix ?_)|fail))
    refine zeR ?_
    exact hK _ _ _ (hJ6.oth c6 (fun _ _ _ e=>by cases e) (by omega) (by omega) (by omega) _)
   ·have hre':r.e≠0:=by simpa using hre
    rw [if_pos hre'] at hK
    have c4:=fun Y=>List.getElem?_set_self (a:=Y) (zB c3)
    (repeat' (first|simp -dsimp only [↓zeU, ↓zaA, ↓zbp, ↓zeV, ↓zeO, ↓zeM, ↓zeP, ↓zeN, ↓zbu, ↓zbq, ↓zbv, ↓zbr, ↓zeQ, ↓zbo, ↓zbw, ↓zbs, ↓zbx, ↓zbt, ↓zeL, ↓zeT, ↓zbn, ↓zby, ↓zeG, ↓zeF, ↓zeK,iN,bT,bF,eN, ↓zco, ↓unC, ↓zX, ↓zM, ↓zN, ↓zQ, ↓zZ, ↓zai, ↓zcv, ↓zaf, ↓zaS, ↓zV, ↓zl, ↓zm, ↓zbg, ↓ze, ↓zae, ↓zC, ↓zaM, ↓zaT, ↓zd, ↓zA, ↓zr, ↓zD, ↓zao, ↓zcY, ↓zdn, ↓zap, ↓zaw, ↓zaN, ↓zaZ, ↓zbk, ↓zw, ↓zaj, ↓zO, ↓zE, ↓zY,zdr,zbm,zbl,unA,zdo,bnd,zdL,zab,zS,zdI,dm,dm1,zG,zak,zdZ,zdY,zH,Q0,Q1,Q2,Q3,Q4,Q5,zW,zx,zy,zT,zL,Q6,Q7,Q8,Q9,Q10,Q11,Q12,Q13,Q14,Nat.reduceAdd,Q15,Int.reduceToNat,Q16,Q17,Q18,Q19,Q20,reduceIte,Q21,Q22,zF,rep,zaa,zeC,toD,zag,Q23,Q24,Q25,Q26,Q27,Q28,Nat.reduceLeDiff,Q29,Nat.reduceSub,Q30,Q31,Q32,sc,Q33,Q34,Q35,Q36,Q37,Q26,Q38,Q39,zis,zio,zil,zit,zcN,ziq,zim,zir,zin,zcM,zcO,ziu,ziv,Bool.not_true,Bool.not_false,List.length_map,hre,hp,hS3,a3,c3,c4, ← l1]|(with_reducible refine zix ?_)|fail))
    refine zeR ?_
    exact hK _ _ _ (hJ3.oth c3 (fun _ _ _ e=>by cases e) (by omega) (by omega) (by omega) _)
  ·refine gq2 g9 ?_
   refine zvq (L:=zrK s.L ⟨0,k+1,o, 0, 0⟩) (T:=s.T) (h:=s.h) (b := [x]) (hW1.top.app _) hI1.tops hI1.last (zf hW1.xb) hI1.tab (by omega) (by simpa using hop) (by simp) fun S2 t' g' N' hT2 hL2 hS2 => ?_
   have hJ2:=(hW1.app _).exec hT2 hL2 hS2
   have a2:=hS2.get S1.length _ (by rw [zy];rfl) (by omega) (by omega) (fun _ _ _ e=>by cases e)
   have c2:=hS2.get (S1.length+2) _ (by rw [zx];rfl) (by omega) (by omega) (fun _ _ _ e=>by cases e)
   have l2:=zB c2
   simp only [exX,slX] at hK hexI
   obtain ⟨r,hr⟩:∃ r,zdG (zrK s.L ⟨0,k+1,o, 0, 0⟩) s.T s.h [x]=r:=⟨_,rfl⟩
   simp only [hr] at hK hJ2 hexI ⊢
   have z2:=hS2.get (S1.length+4) _ (by rw [zx];rfl) (by omega) (by omega) (fun _ _ _ e=>by cases e)
   obtain ⟨p,hp⟩:∃ p,S1.length+4=p:=⟨_,rfl⟩
   rw [hp] at z2
   obtain ⟨S3,hS3⟩:∃ S3,S2.set p (hdrC r.h)=S3:=⟨_,rfl⟩
   have hJ3:WJ σ C tb tc t' g' _ S3:=hS3▸hJ2.oth z2 (fun _ _ _ e=>by cases e) (by omega) (by omega) (by omega) _
   have a3:S3[S1.length]? = _:=hS3▸zc _ a2 (by omega)
   have c3:S3[S1.length+2]? = _:=hS3▸zc _ c2 (by omega)
   have n3:S3[p]? = some (hdrC r.h):=by rw [← hS3];exact List.getElem?_set_self (zB z2)
   simp only [hdrC] at hS3
   have hpl:S1.length+2<p:=by omega
   (repeat' (first|simp -dsimp only [↓zeU, ↓zaA, ↓zbp, ↓zeV, ↓zeO, ↓zeM, ↓zeP, ↓zeN, ↓zbu, ↓zbq, ↓zbv, ↓zbr, ↓zeQ, ↓zbo, ↓zbw, ↓zbs, ↓zbx, ↓zbt, ↓zeL, ↓zeT, ↓zbn, ↓zby, ↓zeG, ↓zeF, ↓zeK,iN,bT,bF,eN, ↓zco, ↓unC, ↓zX, ↓zM, ↓zN, ↓zQ, ↓zZ, ↓zai, ↓zcv, ↓zaf, ↓zaS, ↓zV, ↓zl, ↓zm, ↓zbg, ↓ze, ↓zae, ↓zC, ↓zaM, ↓zaT, ↓zd, ↓zA, ↓zr, ↓zD, ↓zao, ↓zcY, ↓zdn, ↓zap, ↓zaw, ↓zaN, ↓zaZ, ↓zbk, ↓zw, ↓zaj, ↓zO, ↓zE, ↓zY,zdr,zbm,zbl,unA,zdo,bnd,zdL,zab,zS,zdI,dm,dm1,zG,zak,zdZ,zdY,zH,Q0,Q1,Q2,Q3,Q4,Q5,zW,zx,zy,zT,zL,Q6,Q7,Q8,Q9,Q10,Q11,Q12,Q13,Q14,Nat.reduceAdd,Q15,Int.reduceToNat,Q16,Q17,Q18,Q19,Q20,reduceIte,Q21,Q22,zF,rep,zaa,zeC,toD,zag,Q23,Q24,Q25,Q26,Q27,Q28,Nat.reduceLeDiff,Q29,Nat.reduceSub,Q30,Q31,Q32,sc,Q33,Q34,Q35,Q36,Q37,Q26,Q38,Q39,zis,zio,zil,zit,zcN,ziq,zim,zir,zin,zcM,zcO,ziu,ziv,Bool.not_true,Bool.not_false,List.length_map,hp,z2,hS3, ← l1]|(with_reducible refine zix ?_)|fail))
   have kb:=hJ3.kb
   have q0:=hJ3.st
   have hbe:(zcd s.bs).length=s.bs.length:=List.length_map ..
   cases hre:(r.e != 0)
   ·have hre':r.e=0:=by simpa using hre
    rw [if_neg (by simp [hre'])] at hK
    have q1:=fun Y=>zc (i:=tb) Y hJ3.st (by omega)
    have hJ5:=hJ3.blk (s.bs++[⟨r.h,[x],r.p⟩])
    have n5:=fun Y Z=>zc (i := σ.length+9) Z (zc (i:=tb) Y n3 (by omega)) (by omega)
    have c5:=fun Y Z=>zc (i := σ.length+9) Z (zc (i:=tb) Y c3 (by omega)) (by omega)
    rw [List.length_append,zcd,List.map_append] at hJ5
    obtain ⟨S5,hS5⟩:∃ S5,(S3.set tb (.tok 7 (s.bs.length+1))).set (σ.length+9) (.box [.box (σ.length+4) 0,.box (σ.length+7) 0,.box (σ.length+1) 0,.box (σ.length+2) 0,.own tb (zcd s.bs++[ziE ⟨r.h,[x],r.p⟩]),.own tc (zfa s.cs),.d .nilp,.d .nilp])=S5:=⟨_,rfl⟩
    have n6:S5[p]? = some (hdrC r.h):=hS5▸n5 _ _
    have c6:S5[S1.length+2]? = _:=hS5▸c5 _ _
    have c7:=fun Y=>List.getElem?_set_self (a:=Y) (zB c6)
    have hJ6:WJ σ C tb tc t' g' _ S5:=hS5▸hJ5
    simp only [ziE,zda,zbX,List.map_cons,List.map_nil] at hS5
    (repeat' (first|simp -dsimp only [↓zeU, ↓zaA, ↓zbp, ↓zeV, ↓zeO, ↓zeM, ↓zeP, ↓zeN, ↓zbu, ↓zbq, ↓zbv, ↓zbr, ↓zeQ, ↓zbo, ↓zbw, ↓zbs, ↓zbx, ↓zbt, ↓zeL, ↓zeT, ↓zbn, ↓zby, ↓zeG, ↓zeF, ↓zeK,iN,bT,bF,eN, ↓zco, ↓unC, ↓zX, ↓zM, ↓zN, ↓zQ, ↓zZ, ↓zai, ↓zcv, ↓zaf, ↓zaS, ↓zV, ↓zl, ↓zm, ↓zbg, ↓ze, ↓zae, ↓zC, ↓zaM, ↓zaT, ↓zd, ↓zA, ↓zr, ↓zD, ↓zao, ↓zcY, ↓zdn, ↓zap, ↓zaw, ↓zaN, ↓zaZ, ↓zbk, ↓zw, ↓zaj, ↓zO, ↓zE, ↓zY,zdr,zbm,zbl,unA,zdo,bnd,zdL,zab,zS,zdI,dm,dm1,zG,zak,zdZ,zdY,zH,Q0,Q1,Q2,Q3,Q4,Q5,zW,zx,zy,zT,zL,Q6,Q7,Q8,Q9,Q10,Q11,Q12,Q13,Q14,Nat.reduceAdd,Q15,Int.reduceToNat,Q16,Q17,Q18,Q19,Q20,reduceIte,Q21,Q22,zF,rep,zaa,zeC,toD,zag,Q23,Q24,Q25,Q26,Q27,Q28,Nat.reduceLeDiff,Q29,Nat.reduceSub,Q30,Q31,Q32,sc,Q33,Q34,Q35,Q36,Q37,Q26,Q38,Q39,zis,zio,zil,zit,zcN,ziq,zim,zir,zin,zcM,zcO,ziu,ziv,Bool.not_true,Bool.not_false,List.length_map,hre,hp,hS3,q0,q1,kb,hbe,hS5,n3,n6,c6,c7, ← l1]|(with_reducible refine zix ?_)|fail))
    refine zeR ?_
    exact hK _ _ _ (hJ6.oth c6 (fun _ _ _ e=>by cases e) (by omega) (by omega) (by omega) _)
   ·have hre':r.e≠0:=by simpa using hre
    rw [if_pos hre'] at hK
    have c4:=fun Y=>List.getElem?_set_self (a:=Y) (zB c3)
    (repeat' (first|simp -dsimp only [↓zeU, ↓zaA, ↓zbp, ↓zeV, ↓zeO, ↓zeM, ↓zeP, ↓zeN, ↓zbu, ↓zbq, ↓zbv, ↓zbr, ↓zeQ, ↓zbo, ↓zbw, ↓zbs, ↓zbx, ↓zbt, ↓zeL, ↓zeT, ↓zbn, ↓zby, ↓zeG, ↓zeF, ↓zeK,iN,bT,bF,eN, ↓zco, ↓unC, ↓zX, ↓zM, ↓zN, ↓zQ, ↓zZ, ↓zai, ↓zcv, ↓zaf, ↓zaS, ↓zV, ↓zl, ↓zm, ↓zbg, ↓ze, ↓zae, ↓zC, ↓zaM, ↓zaT, ↓zd, ↓zA, ↓zr, ↓zD, ↓zao, ↓zcY, ↓zdn, ↓zap, ↓zaw, ↓zaN, ↓zaZ, ↓zbk, ↓zw, ↓zaj, ↓zO, ↓zE, ↓zY,zdr,zbm,zbl,unA,zdo,bnd,zdL,zab,zS,zdI,dm,dm1,zG,zak,zdZ,zdY,zH,Q0,Q1,Q2,Q3,Q4,Q5,zW,zx,zy,zT,zL,Q6,Q7,Q8,Q9,Q10,Q11,Q12,Q13,Q14,Nat.reduceAdd,Q15,Int.reduceToNat,Q16,Q17,Q18,Q19,Q20,reduceIte,Q21,Q22,zF,rep,zaa,zeC,toD,zag,Q23,Q24,Q25,Q26,Q27,Q28,Nat.reduceLeDiff,Q29,Nat.reduceSub,Q30,Q31,Q32,sc,Q33,Q34,Q35,Q36,Q37,Q26,Q38,Q39,zis,zio,zil,zit,zcN,ziq,zim,zir,zin,zcM,zcO,ziu,ziv,Bool.not_true,Bool.not_false,List.length_map,hre,hp,hS3,a3,c3,c4, ← l1]|(with_reducible refine zix ?_)|fail))
    refine zeR ?_
    exact hK _ _ _ (hJ3.oth c3 (fun _ _ _ e=>by cases e) (by omega) (by omega) (by omega) _)
end Go.Proofs.YtfgbofkdhfjegaaGreat
