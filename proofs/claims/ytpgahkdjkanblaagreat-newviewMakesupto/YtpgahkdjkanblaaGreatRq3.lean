/- Contracts: requests sealed, and whether they are valid; a batch's number. -/
import Derived.Test.YtpgahkdjkanblaaGreatId4
import Derived.Test.YtpgahkdjkanblaaGreatOp6
import Derived.Test.YtpgahkdjkanblaaGreatSpTab
import Derived.Test.YtpgahkdjkanblaaGreatAwFrz
import Derived.Test.YtpgahkdjkanblaaGreatCk2
set_option linter.all false
set_option maxRecDepth 100000
namespace Go.Proofs.YtpgahkdjkanblaaGreat
open Go.AW
theorem zeS.put {σ:List zh} {id m t:Nat} {l:List (List UInt8)} (h:zeS σ id m t l) (l':List (List UInt8)):zeS (putTab σ id m t l') id m t l':=by
 obtain ⟨n1,n2,n3⟩:=h.ne
 have h1:=zcT h.box;have h2:=zcT h.map;have h3:=zcT h.tok
 unfold putTab
 refine ⟨?_,?_,?_⟩
 ·rw [List.getElem?_set_ne (Ne.symm n1),List.getElem?_set_self (by simpa using h1)]
 ·rw [List.getElem?_set_self (by simpa using h2)]
 ·rw [List.getElem?_set_ne n3,List.getElem?_set_ne n2,List.getElem?_set_self h3]
theorem zev.put {σ:List zh} {id m t:Nat} {g:List zK} (h:zev σ id m t g) (g':List zK):zev (putLed σ id m t g') id m t g':=by
 obtain ⟨n1,n2,n3⟩:=h.ne
 have h1:=zcT h.box;have h2:=zcT h.map;have h3:=zcT h.tok
 unfold putLed
 refine ⟨?_,?_,?_⟩
 ·rw [List.getElem?_set_self (by simpa using h1)]
 ·rw [List.getElem?_set_ne n1,List.getElem?_set_ne (Ne.symm n3),List.getElem?_set_self h2]
 ·rw [List.getElem?_set_ne n2,List.getElem?_set_self (by simpa using h3)]
theorem apart2 {σ:List zh} {id m t id2 m2 t2:Nat} {l:List (List UInt8)} {g:List zK} (hT:zeS σ id m t l) (hG:zev σ id2 m2 t2 g) (h1:id ≠ id2) (h2:m ≠ m2) :
  (id ≠ m2/\id ≠ t2)/\(m ≠ id2/\m ≠ t2)/\(t ≠ id2/\t ≠ m2/\t ≠ t2):=by
 refine ⟨⟨?_,?_⟩,⟨?_,?_⟩,⟨?_,?_,?_⟩⟩ <;> intro e <;> subst e
 ·have:=hT.box;rw [hG.map] at this;cases this
 ·have:=hT.box;rw [hG.tok] at this;cases this
 ·have:=hT.map;rw [hG.box] at this;cases this
 ·have:=hT.map;rw [hG.tok] at this;cases this
 ·have:=hT.tok;rw [hG.box] at this;cases this
 ·have:=hT.tok;rw [hG.map] at this;cases this
 ·have:=hT.tok;rw [hG.tok] at this;cases this
theorem zev.putTab {σ:List zh} {id m t id2 m2 t2:Nat} {l:List (List UInt8)} {g:List zK} (hT:zeS σ id m t l) (hG:zev σ id2 m2 t2 g) (h1:id ≠ id2) (h2:m ≠ m2) (l':List (List UInt8)) :
  zev (putTab σ id m t l') id2 m2 t2 g:=by
 obtain ⟨⟨a1,a2⟩,⟨b1,b2⟩,⟨c1,c2,c3⟩⟩:=apart2 hT hG h1 h2
 unfold Go.Proofs.YtpgahkdjkanblaaGreat.putTab
 refine ⟨?_,?_,?_⟩
 ·rw [List.getElem?_set_ne b1,List.getElem?_set_ne h1,List.getElem?_set_ne c1];exact hG.box
 ·rw [List.getElem?_set_ne h2,List.getElem?_set_ne a1,List.getElem?_set_ne c2];exact hG.map
 ·rw [List.getElem?_set_ne b2,List.getElem?_set_ne a2,List.getElem?_set_ne c3];exact hG.tok
theorem zeS.putLed {σ:List zh} {id m t id2 m2 t2:Nat} {l:List (List UInt8)} {g:List zK} (hT:zeS σ id m t l) (hG:zev σ id2 m2 t2 g) (h1:id ≠ id2) (h2:m ≠ m2) (g':List zK) :
  zeS (putLed σ id2 m2 t2 g') id m t l:=by
 obtain ⟨⟨a1,a2⟩,⟨b1,b2⟩,⟨c1,c2,c3⟩⟩:=apart2 hT hG h1 h2
 unfold Go.Proofs.YtpgahkdjkanblaaGreat.putLed
 refine ⟨?_,?_,?_⟩
 ·rw [List.getElem?_set_ne (Ne.symm h1),List.getElem?_set_ne (Ne.symm a2),List.getElem?_set_ne (Ne.symm a1)];exact hT.box
 ·rw [List.getElem?_set_ne (Ne.symm b1),List.getElem?_set_ne (Ne.symm b2),List.getElem?_set_ne (Ne.symm h2)];exact hT.map
 ·rw [List.getElem?_set_ne (Ne.symm c1),List.getElem?_set_ne (Ne.symm c3),List.getElem?_set_ne (Ne.symm c2)];exact hT.tok
structure znT (L:List (List UInt8)):Prop where
 nd:L.Nodup
 len:L.length<=1048576
 each:∀ b ∈ L,b.length<=1073741824
theorem znT.nil:znT []:=⟨.nil,by simp,by simp⟩
theorem znT.sum {L:List (List UInt8)} (h:znT L) {b:List UInt8} (hb:b.length<=1073741824):znT (zgz L b):=by
 unfold zgz
 cases ho:zfI L b with
 | some k=>exact h
 | none =>
  simp only
  split
  ·exact h
  ·rename_i hl
   have hn:b ∉ L:=fun hm=>by
    obtain ⟨i,hi⟩:=List.mem_iff_getElem?.1 hm
    exact zsj ho hm
   refine ⟨?_,by simp;omega,fun x hx => ?_⟩
   ·rw [List.nodup_append]
    refine ⟨h.nd,by simp,fun a ha c hc => ?_⟩
    simp at hc;subst hc
    exact fun e=>hn (e ▸ ha)
   ·rcases List.mem_append.1 hx with hx | hx
    ·exact h.each x hx
    ·simp at hx;subst hx;exact hb
end Go.Proofs.YtpgahkdjkanblaaGreat

/- Requests that wait: of each client at most one. No program in sight. -/
namespace Go.AW
abbrev PQ:=List (Option zJ)
structure zjZ (q:PQ):Prop where
 len:q.length=8
 at_:∀ (i:Nat) x,q[i]? = some (some x)->x.client=i/\zD [x]=0/\okO x.op
def zfP (q:PQ):List zJ:=q.filterMap id
def ofF (q:PQ) (c:Int):Option zJ:=if 0<=c/\c<8 then (q[c.toNat]?).join else none
def mayPut:Option zJ->Int->Bool
 | some y,t=>decide (y.time<t)
 | none,_=>true
def mayDone:Option zJ->Int->Bool
 | some y,t=>decide (y.time<=t)
 | none,_=>false
def canPut (q:PQ) (x:zJ):Bool:=decide (zD [x]=0) && mayPut (ofF q x.client) x.time
def putQ (q:PQ) (x:zJ):PQ:=if canPut q x=true then q.set x.client.toNat (some x) else q
def canDone (q:PQ) (c t:Int):Bool:=mayDone (ofF q c) t
def doneQ (q:PQ) (c t:Int):PQ:=if canDone q c t=true then q.set c.toNat none else q
theorem one_ok {x:zJ} (h:zD [x]=0):0<=x.client/\x.client<8/\1<=x.time/\x.time<=9007199254740992/\zcP zjN x.op=0/\zaq x=0/\zS x.key x.dig=0:=by
 simp only [zD,List.length_singleton,zoD,zyr] at h
 have h1:¬ (1 > 4):=by omega
 rw [if_neg h1] at h
 by_cases hr:zaq x=0
 ·by_cases hs:zS x.key x.dig=0
  ·unfold zaq at hr
   split at hr
   ·cases hr
   ·rename_i hc
    have hr':zaq x=0:=by unfold zaq;rw [if_neg hc];exact hr
    exact ⟨by omega,by omega,by omega,by omega,hr,hr',hs⟩
  ·exfalso
   simp [hr,hs] at h
 ·exfalso
  simp [hr] at h
theorem ofF_some {q:PQ} {c:Int} {x:zJ} (h:ofF q c=some x):0<=c/\c<8/\q[c.toNat]? = some (some x):=by
 unfold ofF at h
 split at h
 ·rename_i hc
  refine ⟨hc.1,hc.2,?_⟩
  cases hq:q[c.toNat]? with
  | none=>rw [hq] at h;cases h
  | some o=>rw [hq] at h;simp at h;rw [h]
 ·cases h
theorem zjZ.get {q:PQ} (hq:zjZ q) {c:Int} (h0:0<=c) (h8:c<8):q[c.toNat]? = some (ofF q c):=by
 have hl:=hq.len
 have:q[c.toNat]? = some (q[c.toNat]'(by omega)):=List.getElem?_eq_getElem _
 unfold ofF
 rw [if_pos ⟨h0,h8⟩,this]
 rfl
theorem zjZ.put {q:PQ} (hq:zjZ q) {x:zJ} (hx:okO x.op):zjZ (putQ q x):=by
 unfold putQ
 split
 ·rename_i hc
  simp only [canPut,Bool.and_eq_true,decide_eq_true_eq] at hc
  obtain ⟨h0,h8,_⟩:=one_ok hc.1
  refine ⟨by simp [hq.len],fun i y h => ?_⟩
  rw [List.getElem?_set] at h
  split at h
  ·rename_i e
   split at h
   ·simp at h;subst h
    exact ⟨by omega,hc.1,hx⟩
   ·cases h
  ·exact hq.at_ i y h
 ·exact hq
theorem zjZ.done {q:PQ} (hq:zjZ q) {c t:Int}:zjZ (doneQ q c t):=by
 unfold doneQ
 split
 ·refine ⟨by simp [hq.len],fun i y h => ?_⟩
  rw [List.getElem?_set] at h
  split at h
  ·split at h
   ·simp at h
   ·cases h
  ·exact hq.at_ i y h
 ·exact hq
theorem zrQ {q:PQ} {x:zJ} (h:x ∈ zfP q):∃ i:Nat,q[i]? = some (some x):=by
 simp only [zfP,List.mem_filterMap,id_eq,exists_eq_right] at h
 exact List.mem_iff_getElem?.1 h
end Go.AW

/- Contracts: a pool: made, asked, put into, done. -/
set_option maxRecDepth 100000
namespace Go.Proofs.YtpgahkdjkanblaaGreat
open Go.AW
end Go.Proofs.YtpgahkdjkanblaaGreat

/- Contracts: a pool: what waits. -/
set_option maxRecDepth 100000
namespace Go.Proofs.YtpgahkdjkanblaaGreat
open Go.AW
end Go.Proofs.YtpgahkdjkanblaaGreat

/- Contracts: what comes next out of a pool. -/
set_option maxRecDepth 100000
namespace Go.Proofs.YtpgahkdjkanblaaGreat
open Go.AW
theorem any_take {α:Type} {l:List α} {p : α->Bool} {k:Nat} {x : α} (h:l[k]? = some x) (h0:(l.take k).any p=false) (hx:p x=false):(l.take (k+1)).any p=false:=by
 rw [List.take_add_one,h];simp [List.any_append,h0,hx]
theorem any_mem {α:Type} {l:List α} {p : α->Bool} {k:Nat} {x : α} (h:l[k]? = some x) (hx:p x=true):l.any p=true:=List.any_eq_true.2 ⟨x,List.mem_of_getElem? h,hx⟩
theorem zsJ {σ:List zh} {b:List zJ} {f:FuncId} {cap:List AV} {p:zJ->Bool} (hb:b.length<=1073741824) (hf:∀ x ∈ b, ∀ K:AV->List zh->Prop,K (.d (.bool (p x))) σ->zo Tryz.prog f (zgZ x :: cap) σ K)
  {K:KT} (hK:∀ r:Int,decide (r ≥ 0)=b.any p->K (.d (.int .i64 r)) σ):zo Tryz.prog zbX [.d (.slice (zbj b)),.fn (.func f) [] cap] σ K:=by
 refine zd zdi.is rfl fun hl _=>zdi.goes ?_
 simp only [zdk,iN,bT,bF,eN]
 refine zab ?_
 refine zm b.length (fun k vs s=>vs = [.d (.int .i64 k)]/\s = σ/\(b.take k).any p=false) ⟨rfl,rfl,by simp⟩ ?_
 rintro k vs s hk ⟨rfl,rfl,hno⟩
 by_cases hlt:k<b.length
 ·have hd:decide ((k:Int)<(b.length:Int))=true:=by simp;omega
  have hx:b[k]? = some b[k]:=by simp [hlt]
  have hfx:=hf _ (List.getElem_mem hlt)
  have hgx:=zR (f:=zbc) hx
  obtain ⟨x,hxe⟩:∃ x,b[k]=x:=⟨_,rfl⟩
  rw [hxe] at hx hgx hfx
  rw [zgZ] at hfx
  refine zqn (ze hd hgx) ?_
  refine hfx _ ?_
  cases h1:p x
  ·refine zB (wk1 k (by omega)) ?_
   exact zaz.next hlt ⟨rfl,rfl,any_take hx hno h1⟩
  ·refine zab ?_
   refine zw hl ?_
   exact hK _ (by rw [any_mem hx h1];simp)
 ·have hd:decide ((k:Int)<(b.length:Int))=false:=by simp;omega
  refine zB hd ?_
  refine zw hl ?_
  rw [List.take_of_length_le (by omega)] at hno
  exact hK _ (by rw [hno];rfl)
theorem zpz {σ:List zh} {b:List zJ} {f:FuncId} {cap:List AV} {p:zJ->Bool} (hb:b.length<=1073741824) (hf:∀ x ∈ b, ∀ K:AV->List zh->Prop,K (.d (.bool (p x))) σ->zo Tryz.prog f (zgZ x :: cap) σ K)
  {K:KT} (hK:K (.d (.bool (b.any p))) σ):zo Tryz.prog zbJ [.d (.slice (zbj b)),.fn (.func f) [] cap] σ K:=by
 refine zd zcM.is rfl fun hl _=>zcM.goes ?_
 simp only [zcN,iN,bT,bF,eN]
 refine zab ?_
 refine zsJ hb hf fun r hr => ?_
 refine zB hr ?_
 refine zw hl ?_
 exact hK
end Go.Proofs.YtpgahkdjkanblaaGreat

/- Contracts: whether what was sealed is valid; a batch's number. -/
set_option maxRecDepth 100000
namespace Go.Proofs.YtpgahkdjkanblaaGreat
open Go.AW
def zhE (L:List (List UInt8)) (G:List zK) (s:zJ):Bool:=decide (zaq s=0) && match zfI L (reqB s) with
 | some i=>decide (s.key=keyF s.client/\s.dig=((i+1:Nat):Int)) && decide ((⟨s.key,s.dig⟩:zK) ∈ G)
 | none=>false
def zie (L:List (List UInt8)) (G:List zK) (b:List zJ):Bool:=decide (zD b=0) && !(b.any fun s => !zhE L G s)
def digE (L:List (List UInt8)) (l:List zJ):Int:=if zD l ≠ 0 then zD l else if zoJ L (zcy l)=0 then 6 else 0
def zpx (L:List (List UInt8)) (l:List zJ):Int:=if zD l ≠ 0 then 0 else zoJ L (zcy l)
def zqr (L:List (List UInt8)) (l:List zJ):List (List UInt8):=if zD l ≠ 0 then L else zgz L (zcy l)
theorem c_rqValid {σ:List zh} {id m t id2 m2 t2:Nat} {L:List (List UInt8)} {G:List zK} {s:zJ} (hT:zeS σ id m t L) (hG:zev σ id2 m2 t2 G)
  (hx:zlh s.op<=20971520) {K:KT} (hK:K (.d (.bool (zhE L G s))) σ):zo Tryz.prog zkj [.box id 0,.box id2 0,zgZ s] σ K:=by
 refine zd zpi.is rfl fun hl _=>zpi.goes ?_
 have fin:∀ z,zhE L G s=z->K (.d (.bool z)) σ:=fun z h=>h ▸ hK
 clear hK
 simp only [zpH,iN,bT,bF,eN,zgZ]
 refine zab ?_
 refine zwI (x:=s) hx ?_
 by_cases hc:zaq s=0
 ·have hb:(zaq s != 0)=false:=by simpa using hc
  rw [show zbV s=reqB s from if_pos hc]
  refine zB hb ?_
  refine zwE (hT.app _) ?_
  cases ho:zfI L (reqB s) with
  | none =>
   refine gq72 ?_
   refine zw hl ?_
   exact fin _ (by simp [zhE,ho])
  | some i =>
   refine gq72 ?_
   refine c_rqKey ?_
   simp only [zvG]
   cases h1:(s.key == keyF s.client)
   ·refine gq76 h1 ?_
    refine zw hl ?_
    exact fin _ (by simp at h1;simp [zhE,ho,h1])
   ·cases h2:(s.dig == ((i+1:Nat):Int))
    ·refine gq76 (ze h1 h2) ?_
     refine zw hl ?_
     exact fin _ (by simp at h1 h2;simp [zhE,ho,h1];intro _ h;omega)
    ·refine gq76 (ze h1 h2) ?_
     refine c_gSigned (s:=⟨s.key,s.dig⟩) (hG.app _) ?_
     refine zab ?_
     refine zw hl ?_
     exact fin _ (by simp at h1 h2;simp [zhE,ho,hc,h1,h2])
 ·have hb:(zaq s != 0)=true:=by simpa using hc
  refine zB hb ?_
  refine zw hl ?_
  exact fin _ (by simp [zhE,hc])
theorem zxE {σ:List zh} {id m t id2 m2 t2:Nat} {L:List (List UInt8)} {G:List zK} {b:List zJ} (hT:zeS σ id m t L) (hG:zev σ id2 m2 t2 G)
  (hx:∀ s ∈ b,zlh s.op<=20971520) (hbl:b.length<=1073741824) {K:KT} (hK:K (.d (.bool (zie L G b))) σ):zo Tryz.prog zgq [.box id 0,.box id2 0,.d (.slice (zbj b))] σ K:=by
 refine zd zjw.is rfl fun hl _=>zjw.goes ?_
 have hok:okB b:=⟨hbl,fun s hs=>ztj (hx s hs)⟩
 simp only [zjE,iN,bT,bF,eN]
 refine zab ?_
 refine zgU hok ?_
 by_cases hc:zD b=0
 ·have hq:(zD b == 0)=true:=by simpa using hc
  rw [zie,decide_eq_true hc,Bool.true_and] at hK
  refine zB hq ?_
  have e0:(σ++[zh.box [AV.box id 0],zh.box [AV.box id2 0]])[σ.length]? = some (zh.box [AV.box id 0]):=by rw [zt];rfl
  have e1:(σ++[zh.box [AV.box id 0],zh.box [AV.box id2 0]])[σ.length+1]? = some (zh.box [AV.box id2 0]):=by rw [zC];rfl
  have hT1:=hT.app [zh.box [AV.box id 0],zh.box [AV.box id2 0]]
  have hG1:=hG.app [zh.box [AV.box id 0],zh.box [AV.box id2 0]]
  refine zpz (p:=fun s => !zhE L G s) hbl (fun s hs K' hK' => ?_) ?_
  ·obtain ⟨S,hS⟩:∃ S, σ++[zh.box [AV.box id 0],zh.box [AV.box id2 0]]=S:=⟨_,rfl⟩
   rw [hS] at e0 e1 hT1 hG1 hK' ⊢
   refine zd zhL.is rfl fun hl _=>zhL.goes ?_
   have e0':∀ τ,(S ++ τ)[σ.length]? = some (zh.box [AV.box id 0]):=fun τ=>zx e0
   have e1':∀ τ,(S ++ τ)[σ.length+1]? = some (zh.box [AV.box id2 0]):=fun τ=>zx e1
   simp only [zhV,iN,bT,bF,eN,zgZ]
   refine zB (ze e0' e1') ?_
   refine c_rqValid (s:=s) (hT1.app _) (hG1.app _) (hx s hs) ?_
   refine zab ?_
   refine zw hl ?_
   exact hK'
  ·refine zB hq ?_
   refine zw hl ?_
   exact hK
 ·have hq:(zD b == 0)=false:=by simpa using hc
  rw [zie,decide_eq_false hc,Bool.false_and] at hK
  refine zB hq ?_
  refine zw hl ?_
  exact hK
theorem c_rqDigest {σ:List zh} {id m t:Nat} {L:List (List UInt8)} {l:List zJ} (hT:zeS σ id m t L) (hL:znT L)
  (hx:∀ s ∈ l,zlh s.op<=20971520) (hll:l.length<=1073741824) {K:KT} (hK:K (.tup [.d (.int .i64 (zpx L l)),.d (.int .i64 (digE L l))]) (putTab σ id m t (zqr L l))) :
  zo Tryz.prog zji [.box id 0,.d (.slice (zbj l))] σ K:=by
 refine zd znB.is rfl fun hl _=>znB.goes ?_
 have hok:okB l:=⟨hll,fun s hs=>ztj (hx s hs)⟩
 simp only [znX,iN,bT,bF,eN]
 refine zab ?_
 refine zgU hok ?_
 by_cases hc:zD l=0
 ·have hq:(zD l != 0)=false:=by simpa using hc
  have hbl:=zlT hx
  have hc':¬ zD l ≠ 0:=by simpa using hc
  rw [show zpx L l=zoJ L (zcy l) from if_neg hc',show zqr L l=zgz L (zcy l) from if_neg hc',show digE L l=if zoJ L (zcy l)=0 then 6 else 0 from if_neg hc'] at hK
  refine zB hq ?_
  refine c_known hT hL.nd hL.len hL.each ?_
  refine zab ?_
  refine zyY (b := []) (by simp) hx hll ?_
  rw [List.nil_append,show zbY l=zcy l from if_pos hc] at *
  refine zab ?_
  refine c_tSum hT (by omega) hL.len ?_
  have hl1:=hT.lows hl (zgz L (zcy l))
  have hs1:=zqe σ id m t (zgz L (zcy l))
  by_cases h0:zoJ L (zcy l)=0
  ·rw [if_pos h0] at hK
   rw [h0] at hK ⊢
   refine gq72 ?_
   refine zsr hs1 ?_ hl1 ?_
   ·simp [zfO,dmT,dm,dm1,zcO,zaU]
   ·exact hK
  ·rw [if_neg h0] at hK
   have h0':(zoJ L (zcy l) == 0)=false:=by simpa using h0
   refine zB h0' ?_
   refine zsr hs1 ?_ hl1 ?_
   ·simp [zfO,dmT,dm,dm1,zcO,zaU]
   ·exact hK
 ·have hq:(zD l != 0)=true:=by simpa using hc
  rw [zpx,digE,zqr,if_pos hc,if_pos hc,if_pos hc,hT.self] at hK
  refine zB hq ?_
  refine zw hl ?_
  exact hK
end Go.Proofs.YtpgahkdjkanblaaGreat

/- Contracts: what the document says of sealed requests. -/
set_option maxRecDepth 100000
namespace Go.Proofs.YtpgahkdjkanblaaGreat
open Go.AW
theorem c_rqrKey {σ:List zh} {c:Int} {K:KT} (hK:K (.d (.int .i64 (keyF c))) σ):zo Tryz.prog zoW [.d (.int .i64 c)] σ K:=c_rKey hK
theorem gq77 {A P Q:Prop} (a:A) (h:Q) (e:A->Hd Q->P:=by intro a h;(repeat' first | simp -dsimp only [↓zeN, ↓zav, ↓zbq, ↓zeO, ↓zeH, ↓zeF, ↓zeI, ↓zeG, ↓zbv, ↓zbr, ↓zbw, ↓zbs, ↓zeJ, ↓zbp, ↓zbx, ↓zbt, ↓zby, ↓zbu, ↓zeE, ↓zeM, ↓zbo, ↓zbz, ↓zeC, ↓zeB, ↓zeD,iN,bT,bF,eN, ↓zcB, ↓unC, ↓zV, ↓zM, ↓zN, ↓zQ, ↓zY, ↓zal, ↓zdb, ↓zak, ↓zaH, ↓zT, ↓zf, ↓zj, ↓zbZ, ↓zb, ↓zag, ↓zE, ↓zaI, ↓zaO, ↓zc, ↓zy, ↓zl, ↓zG, ↓zaa, ↓zdm, ↓zdw, ↓zaj, ↓zar, ↓zaK, ↓zaS, ↓zaY, ↓zq, ↓zai, ↓zO, ↓zu, ↓zX,zdx,zbg,zbb,unA,zdd,bnd,zdY,zaf,zP,zdR,dm,dm1,zA,zae,zeh,zeg,zI,Q0,Q1,Q2,Q3,Q4,Q5,zZ,zC,zt,zL,zF,Q6,Q7,Q8,Q9,Q10,Q11,Q12,Q13,Q14,Nat.reduceAdd,Q15,Int.reduceToNat,Q16,Q17,Q18,Q19,Q20,reduceIte,Q21,Q22,zH,rep,zac,zel,toD,zah,Q23,Q24,Q25,Q26,Q27,Q28,Nat.reduceLeDiff,Q29,Nat.reduceSub,Q30,Q31,Q32,sc,Q33,Q34,Q35,Q36,Q37,Q26,Q38,Q39,zoy,zov,zos,zoz,zfG,zow,zot,zox,zou,zfF,zfH,zoB,zoC,Bool.not_true,Bool.not_false,List.length_map,Bool.and_false,Bool.and_self,Bool.false_and,Bool.true_and,Option.isSome_none,Option.isSome_some,Option.map_none,Option.map_some,beq_self_eq_true,bne_self_eq_false,a] | with_reducible refine zoE ?_ | fail);exact h.go):P:=e a ⟨h⟩
theorem c_rqrValid {σ:List zh} {id id2:Nat} {L:List (List UInt8)} {G:List zK} {s:zJ} (hT : σ[id]? = some (rtO L)) (hG : σ[id2]? = some (rlO G)) (hL:znT L) (hGl:G.length<=1073741824)
  (hx:zlh s.op<=20971520) {K:KT} (hK:K (.d (.bool (zhE L G s))) σ):zo Tryz.prog zrp [.box id 0,.box id2 0,zgZ s] σ K:=by
 refine zd zwm.is rfl fun hl _=>zwm.goes ?_
 have fin:∀ z,zhE L G s=z->K (.d (.bool z)) σ:=fun z h=>h ▸ hK
 clear hK
 simp only [zxe,iN,bT,bF,eN,zgZ]
 refine zab ?_
 refine zyQ (x:=s) hx ?_
 by_cases hc:zaq s=0
 ·have hb:(zaq s != 0)=false:=by simpa using hc
  rw [show zbV s=reqB s from if_pos hc]
  refine zB hb ?_
  refine c_rqrKey ?_
  cases h1:(s.key != keyF s.client)
  ·refine zB h1 ?_
   refine zvl (zx hT) hL.len ?_
   cases ho:zfI L (reqB s) with
   | none =>
    refine gq72 ?_
    refine zw hl ?_
    exact fin _ (by simp [zhE,ho])
   | some i =>
    simp only [zvG]
    cases h2:(((i+1:Nat):Int) == s.dig)
    ·refine gq77 h2 ?_
     refine zw hl ?_
     exact fin _ (by simp at h1 h2;simp [zhE,ho,h1];intro _ h;omega)
    ·refine gq77 h2 ?_
     refine ztS (s:=⟨s.key,s.dig⟩) (zx hG) hGl ?_
     refine zab ?_
     refine zw hl ?_
     refine fin _ ?_
     have h2':s.dig=((i+1:Nat):Int):=by have:=eq_of_beq h2;exact this.symm
     have h1':s.key=keyF s.client:=by simpa using h1
     simp [zhE,ho,hc,h1',h2']
  ·refine zB h1 ?_
   refine zw hl ?_
   refine fin _ ?_
   have h1':¬ s.key=keyF s.client:=by simpa using h1
   simp only [zhE]
   cases zfI L (reqB s) <;> simp [h1']
 ·have hb:(zaq s != 0)=true:=by simpa using hc
  refine zB hb ?_
  refine zw hl ?_
  exact fin _ (by simp [zhE,hc])
theorem zwG {σ:List zh} {id id2:Nat} {L:List (List UInt8)} {G:List zK} {b:List zJ} (hT : σ[id]? = some (rtO L)) (hG : σ[id2]? = some (rlO G)) (hL:znT L) (hGl:G.length<=1073741824)
  (hx:∀ s ∈ b,zlh s.op<=20971520) (hbl:b.length<=1073741824) {K:KT} (hK:K (.d (.bool (zie L G b))) σ):zo Tryz.prog zjm [.box id 0,.box id2 0,.d (.slice (zbj b))] σ K:=by
 refine zd znF.is rfl fun hl _=>znF.goes ?_
 have hok:okB b:=⟨hbl,fun s hs=>ztj (hx s hs)⟩
 simp only [zob,iN,bT,bF,eN]
 refine zab ?_
 refine zhx hok ?_
 by_cases hc:zD b=0
 ·have hq:(zD b != 0)=false:=by simpa using hc
  rw [zie,decide_eq_true hc,Bool.true_and] at hK
  refine zB hq ?_
  refine zm b.length (fun k vs s=>vs = [.d (.int .i64 k)]/\s = σ/\(b.take k).any (fun s => !zhE L G s)=false) ⟨rfl,rfl,by simp⟩ ?_
  rintro k vs S hk ⟨rfl,rfl,hno⟩
  by_cases hlt:k<b.length
  ·have hd:decide ((k:Int)<(b.length:Int))=true:=by simp;omega
   have hy:b[k]? = some b[k]:=by simp [hlt]
   have hgx:=zR (f:=zbc) hy
   have hxx:=hx _ (List.getElem_mem hlt)
   obtain ⟨x,hxe⟩:∃ x,b[k]=x:=⟨_,rfl⟩
   rw [hxe] at hy hgx hxx
   refine zqn (ze hd hgx) ?_
   refine c_rqrValid (s:=x) hT hG hL hGl hxx ?_
   cases hv:zhE L G x
   ·rw [any_mem hy (by simp [hv])] at hK
    refine zab ?_
    refine zw hl ?_
    exact hK
   ·refine zB (wk1 k (by omega)) ?_
    exact zaz.next hlt ⟨rfl,rfl,any_take hy hno (by simp [hv])⟩
  ·have hd:decide ((k:Int)<(b.length:Int))=false:=by simp;omega
   rw [List.take_of_length_le (by omega)] at hno
   rw [hno] at hK
   refine zB hd ?_
   refine zw hl ?_
   exact hK
 ·have hq:(zD b != 0)=true:=by simpa using hc
  rw [zie,decide_eq_false hc,Bool.false_and] at hK
  refine zB hq ?_
  refine zw hl ?_
  exact hK
theorem c_rqrDigest {σ:List zh} {id:Nat} {L:List (List UInt8)} {l:List zJ} (hT : σ[id]? = some (rtO L)) (hL:znT L)
  (hx:∀ s ∈ l,zlh s.op<=20971520) (hll:l.length<=1073741824) {K:KT} (hK:K (.tup [.d (.int .i64 (zpx L l)),.d (.int .i64 (digE L l))]) (σ.set id (rtO (zqr L l)))) :
  zo Tryz.prog zoX [.box id 0,.d (.slice (zbj l))] σ K:=by
 refine zd zux.is rfl fun hl _=>zux.goes ?_
 have hok:okB l:=⟨hll,fun s hs=>ztj (hx s hs)⟩
 simp only [zuN,iN,bT,bF,eN]
 refine zab ?_
 refine zhx hok ?_
 by_cases hc:zD l=0
 ·have hq:(zD l != 0)=false:=by simpa using hc
  have hbl:=zlT hx
  have hc':¬ zD l ≠ 0:=by simpa using hc
  rw [show zpx L l=zoJ L (zcy l) from if_neg hc',show zqr L l=zgz L (zcy l) from if_neg hc',show digE L l=if zoJ L (zcy l)=0 then 6 else 0 from if_neg hc'] at hK
  refine zB hq ?_
  refine znp (b := []) (by simp) hx hll ?_
  rw [List.nil_append,show zbY l=zcy l from if_pos hc] at *
  refine zab ?_
  refine c_rtSum hT (by omega) hL.len ?_
  have hl1:ziu σ.length (σ.set id (rtO (zgz L (zcy l)))):=hl.setO (zmQ _ _)
  by_cases h0:zoJ L (zcy l)=0
  ·rw [if_pos h0] at hK
   rw [h0] at hK ⊢
   refine gq72 ?_
   refine zsr (by simp) ?_ hl1 ?_
   ·simp [zfO,dmT,dm,dm1,zcO,zaU]
   ·exact hK
  ·rw [if_neg h0] at hK
   have h0':(zoJ L (zcy l) == 0)=false:=by simpa using h0
   refine zB h0' ?_
   refine zsr (by simp) ?_ hl1 ?_
   ·simp [zfO,dmT,dm,dm1,zcO,zaU]
   ·exact hK
 ·have hq:(zD l != 0)=true:=by simpa using hc
  rw [zpx,digE,zqr,if_pos hc,if_pos hc,if_pos hc,zcz hT] at hK
  refine zB hq ?_
  refine zw hl ?_
  exact hK
end Go.Proofs.YtpgahkdjkanblaaGreat
