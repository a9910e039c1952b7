/- Contracts: requests sealed, and whether they are valid; a batch's number. -/
import Derived.Test.YtpgahkdjkanblaaGreatId3
import Derived.Test.YtpgahkdjkanblaaGreatRq2
import Derived.Test.YtpgahkdjkanblaaGreatSpTab
import Derived.Test.YtpgahkdjkanblaaGreatAwFrz
import Derived.Test.YtpgahkdjkanblaaGreatCk2
set_option linter.all false
set_option maxRecDepth 100000
namespace Go.Proofs.YtpgahkdjkanblaaGreat
open Go.AW
theorem zea.put {σ:List zd} {id m t:Nat} {l:List (List UInt8)} (h:zea σ id m t l) (l':List (List UInt8)):zea (putTab σ id m t l') id m t l':=by
 obtain ⟨n1,n2,n3⟩:=h.ne
 have h1:=zcY h.box;have h2:=zcY h.map;have h3:=zcY h.tok
 unfold putTab
 refine ⟨?_,?_,?_⟩
 ·rw [List.getElem?_set_ne (Ne.symm n1),List.getElem?_set_self (by simpa using h1)]
 ·rw [List.getElem?_set_self (by simpa using h2)]
 ·rw [List.getElem?_set_ne n3,List.getElem?_set_ne n2,List.getElem?_set_self h3]
theorem zdL.put {σ:List zd} {id m t:Nat} {g:List zy} (h:zdL σ id m t g) (g':List zy):zdL (putLed σ id m t g') id m t g':=by
 obtain ⟨n1,n2,n3⟩:=h.ne
 have h1:=zcY h.box;have h2:=zcY h.map;have h3:=zcY h.tok
 unfold putLed
 refine ⟨?_,?_,?_⟩
 ·rw [List.getElem?_set_self (by simpa using h1)]
 ·rw [List.getElem?_set_ne n1,List.getElem?_set_ne (Ne.symm n3),List.getElem?_set_self h2]
 ·rw [List.getElem?_set_ne n2,List.getElem?_set_self (by simpa using h3)]
theorem apart2 {σ:List zd} {id m t id2 m2 t2:Nat} {l:List (List UInt8)} {g:List zy} (hT:zea σ id m t l) (hG:zdL σ id2 m2 t2 g) (h1:id≠id2) (h2:m≠m2) :
  (id≠m2/\id≠t2)/\(m≠id2/\m≠t2)/\(t≠id2/\t≠m2/\t≠t2):=by
 refine ⟨⟨?_,?_⟩,⟨?_,?_⟩,⟨?_,?_,?_⟩⟩<;>intro e<;>subst e
 ·have:=hT.box;rw [hG.map] at this;cases this
 ·have:=hT.box;rw [hG.tok] at this;cases this
 ·have:=hT.map;rw [hG.box] at this;cases this
 ·have:=hT.map;rw [hG.tok] at this;cases this
 ·have:=hT.tok;rw [hG.box] at this;cases this
 ·have:=hT.tok;rw [hG.map] at this;cases this
 ·have:=hT.tok;rw [hG.tok] at this;cases this
theorem zdL.putTab {σ:List zd} {id m t id2 m2 t2:Nat} {l:List (List UInt8)} {g:List zy} (hT:zea σ id m t l) (hG:zdL σ id2 m2 t2 g) (h1:id≠id2) (h2:m≠m2) (l':List (List UInt8)) :
  zdL (putTab σ id m t l') id2 m2 t2 g:=by
 obtain ⟨⟨a1,a2⟩,⟨b1,b2⟩,⟨c1,c2,c3⟩⟩:=apart2 hT hG h1 h2
 unfold Go.Proofs.YtpgahkdjkanblaaGreat.putTab
 refine ⟨?_,?_,?_⟩
 ·rw [List.getElem?_set_ne b1,List.getElem?_set_ne h1,List.getElem?_set_ne c1];exact hG.box
 ·rw [List.getElem?_set_ne h2,List.getElem?_set_ne a1,List.getElem?_set_ne c2];exact hG.map
 ·rw [List.getElem?_set_ne b2,List.getElem?_set_ne a2,List.getElem?_set_ne c3];exact hG.tok
theorem zea.putLed {σ:List zd} {id m t id2 m2 t2:Nat} {l:List (List UInt8)} {g:List zy} (hT:zea σ id m t l) (hG:zdL σ id2 m2 t2 g) (h1:id≠id2) (h2:m≠m2) (g':List zy) :
  zea (putLed σ id2 m2 t2 g') id m t l:=by
 obtain ⟨⟨a1,a2⟩,⟨b1,b2⟩,⟨c1,c2,c3⟩⟩:=apart2 hT hG h1 h2
 unfold Go.Proofs.YtpgahkdjkanblaaGreat.putLed
 refine ⟨?_,?_,?_⟩
 ·rw [List.getElem?_set_ne (Ne.symm h1),List.getElem?_set_ne (Ne.symm a2),List.getElem?_set_ne (Ne.symm a1)];exact hT.box
 ·rw [List.getElem?_set_ne (Ne.symm b1),List.getElem?_set_ne (Ne.symm b2),List.getElem?_set_ne (Ne.symm h2)];exact hT.map
 ·rw [List.getElem?_set_ne (Ne.symm c1),List.getElem?_set_ne (Ne.symm c3),List.getElem?_set_ne (Ne.symm c2)];exact hT.tok
structure zka (L:List (List UInt8)):Prop where
 nd:L.Nodup
 len:L.length<=1048576
 each:∀ b∈L,b.length<=1073741824
theorem zka.nil:zka []:=⟨.nil,by simp,by simp⟩
theorem zka.sum {L:List (List UInt8)} (h:zka L) {b:List UInt8} (hb:b.length<=1073741824):zka (zgn L b):=by
 unfold zgn
 cases ho:zev L b with
 | some k=>exact h
 | none=>
  simp only
  split
  ·exact h
  ·rename_i hl
   have hn:b ∉ L:=fun hm=>by
    obtain ⟨i,hi⟩:=List.mem_iff_getElem?.1 hm
    exact zsa ho hm
   refine ⟨?_,by simp;omega,fun x hx => ?_⟩
   ·rw [List.nodup_append]
    refine ⟨h.nd,by simp,fun a ha c hc => ?_⟩
    simp at hc;subst hc
    exact fun e=>hn (e▸ha)
   ·rcases List.mem_append.1 hx with hx|hx
    ·exact h.each x hx
    ·simp at hx;subst hx;exact hb
end Go.Proofs.YtpgahkdjkanblaaGreat

/- Requests that wait: of each client at most one. No program in sight. -/
namespace Go.AW
abbrev PQ:=List (Option zC)
structure zjS (q:PQ):Prop where
 len:q.length=8
 at_:∀ (i:Nat) x,q[i]? = some (some x)->x.client=i/\zr [x]=0/\okO x.op
def zfH (q:PQ):List zC:=q.filterMap id
def ofF (q:PQ) (c:Int):Option zC:=if 0<=c/\c<8 then (q[c.toNat]?).join else none
def mayPut:Option zC->Int->Bool
 | some y,t=>decide (y.time<t)
 | none,_=>true
def mayDone:Option zC->Int->Bool
 | some y,t=>decide (y.time<=t)
 | none,_=>false
def canPut (q:PQ) (x:zC):Bool:=decide (zr [x]=0)&&mayPut (ofF q x.client) x.time
def putQ (q:PQ) (x:zC):PQ:=if canPut q x=true then q.set x.client.toNat (some x) else q
def canDone (q:PQ) (c t:Int):Bool:=mayDone (ofF q c) t
def doneQ (q:PQ) (c t:Int):PQ:=if canDone q c t=true then q.set c.toNat none else q
theorem one_ok {x:zC} (h:zr [x]=0):0<=x.client/\x.client<8/\1<=x.time/\x.time<=9007199254740992/\zcT zjG x.op=0/\zai x=0/\zN x.key x.dig=0:=by
 simp only [zr,List.length_singleton,znY,zzc] at h
 have h1:¬ (1 > 4):=by omega
 rw [if_neg h1] at h
 by_cases hr:zai x=0
 ·by_cases hs:zN x.key x.dig=0
  ·unfold zai at hr
   split at hr
   ·cases hr
   ·rename_i hc
    have hr':zai x=0:=by unfold zai;rw [if_neg hc];exact hr
    exact ⟨by omega,by omega,by omega,by omega,hr,hr',hs⟩
  ·exfalso
   simp [hr,hs] at h
 ·exfalso
  simp [hr] at h
theorem ofF_some {q:PQ} {c:Int} {x:zC} (h:ofF q c=some x):0<=c/\c<8/\q[c.toNat]? = some (some x):=by
 unfold ofF at h
 split at h
 ·rename_i hc
  refine ⟨hc.1,hc.2,?_⟩
  cases hq:q[c.toNat]? with
  | none=>rw [hq] at h;cases h
  | some o=>rw [hq] at h;simp at h;rw [h]
 ·cases h
theorem zjS.get {q:PQ} (hq:zjS q) {c:Int} (h0:0<=c) (h8:c<8):q[c.toNat]? = some (ofF q c):=by
 have hl:=hq.len
 have:q[c.toNat]? = some (q[c.toNat]'(by omega)):=List.getElem?_eq_getElem _
 unfold ofF
 rw [if_pos ⟨h0,h8⟩,this]
 rfl
theorem zjS.put {q:PQ} (hq:zjS q) {x:zC} (hx:okO x.op):zjS (putQ q x):=by
 unfold putQ
 split
 ·rename_i hc
  simp only [canPut,Bool.and_eq_true,decide_eq_true_eq] at hc
  obtain ⟨h0,h8,_⟩:=one_ok hc.1
  refine ⟨by simp [hq.len],fun i y h => ?_⟩
  rw [List.getElem?_set] at h
  split at h
  ·rename_i e
   split at h
   ·simp at h;subst h
    exact ⟨by omega,hc.1,hx⟩
   ·cases h
  ·exact hq.at_ i y h
 ·exact hq
theorem zjS.done {q:PQ} (hq:zjS q) {c t:Int}:zjS (doneQ q c t):=by
 unfold doneQ
 split
 ·refine ⟨by simp [hq.len],fun i y h => ?_⟩
  rw [List.getElem?_set] at h
  split at h
  ·split at h
   ·simp at h
   ·cases h
  ·exact hq.at_ i y h
 ·exact hq
theorem zrH {q:PQ} {x:zC} (h:x∈zfH q):∃ i:Nat,q[i]? = some (some x):=by
 simp only [zfH,List.mem_filterMap,id_eq,exists_eq_right] at h
 exact List.mem_iff_getElem?.1 h
end Go.AW

/- Contracts: a pool: made, asked, put into, done. -/
set_option maxRecDepth 100000
namespace Go.Proofs.YtpgahkdjkanblaaGreat
open Go.AW
theorem any_take {α:Type} {l:List α} {p : α->Bool} {k:Nat} {x : α} (h:l[k]? = some x) (h0:(l.take k).any p=false) (hx:p x=false):(l.take (k+1)).any p=false:=by
 rw [List.take_add_one,h];simp [List.any_append,h0,hx]
theorem any_mem {α:Type} {l:List α} {p : α->Bool} {k:Nat} {x : α} (h:l[k]? = some x) (hx:p x=true):l.any p=true:=List.any_eq_true.2 ⟨x,List.mem_of_getElem? h,hx⟩
theorem zsy {σ:List zd} {b:List zC} {f:FuncId} {cap:List AV} {p:zC->Bool} (hb:b.length<=1073741824) (hf:∀ x∈b, ∀ K:AV->List zd->Prop,K (.d (.bool (p x))) σ->zj Tryz.prog f (zfK x::cap) σ K)
  {K:KT} (hK:∀ r:Int,decide (r≥0)=b.any p->K (.d (.int .i64 r)) σ):zj Tryz.prog zbL [.d (.slice (zaP b)),.fn (.func f) [] cap] σ K:=by
 refine zeE zfU fun hl => ?_
 simp only [zdn,iN,bT,bF,eN]
 refine zQ ?_
 refine zl b.length (fun k vs s=>vs = [.d (.int .i64 k)]/\s = σ/\(b.take k).any p=false) ⟨rfl,rfl,by simp⟩ ?_
 rintro k vs s hk ⟨rfl,rfl,hno⟩
 by_cases hlt:k<b.length
 ·have hd:decide ((k:Int)<(b.length:Int))=true:=by simp;omega
  have hx:b[k]? = some b[k]:=by simp [hlt]
  have hfx:=hf _ (List.getElem_mem hlt)
  have hgx:=zF (f:=zaN) hx
  obtain ⟨x,hxe⟩:∃ x,b[k]=x:=⟨_,rfl⟩
  rw [hxe] at hx hgx hfx
  rw [zfK] at hfx
  refine zkZ (zo hd hgx) ?_
  refine hfx _ ?_
  cases h1:p x
  ·refine zA (wk1 k (by omega)) ?_
   exact zan.next hlt ⟨rfl,rfl,any_take hx hno h1⟩
  ·refine zQ ?_
   refine zt hl ?_
   exact hK _ (by rw [any_mem hx h1];simp)
 ·have hd:decide ((k:Int)<(b.length:Int))=false:=by simp;omega
  refine zA hd ?_
  refine zt hl ?_
  rw [List.take_of_length_le (by omega)] at hno
  exact hK _ (by rw [hno];rfl)
theorem zoV {σ:List zd} {b:List zC} {f:FuncId} {cap:List AV} {p:zC->Bool} (hb:b.length<=1073741824) (hf:∀ x∈b, ∀ K:AV->List zd->Prop,K (.d (.bool (p x))) σ->zj Tryz.prog f (zfK x::cap) σ K)
  {K:KT} (hK:K (.d (.bool (b.any p))) σ):zj Tryz.prog zbx [.d (.slice (zaP b)),.fn (.func f) [] cap] σ K:=by
 refine zeE zfo fun hl => ?_
 simp only [zcF,iN,bT,bF,eN]
 refine zQ ?_
 refine zsy hb hf fun r hr => ?_
 refine zA hr ?_
 refine zt hl ?_
 exact hK
def zgr (L:List (List UInt8)) (G:List zy) (s:zC):Bool:=decide (zai s=0)&&match zev L (reqB s) with
 | some i=>decide (s.key=keyF s.client/\s.dig=((i+1:Nat):Int))&&decide ((⟨s.key,s.dig⟩:zy)∈G)
 | none=>false
def zgm (L:List (List UInt8)) (G:List zy) (b:List zC):Bool:=decide (zr b=0) && !(b.any fun s => !zgr L G s)
def digE (L:List (List UInt8)) (l:List zC):Int:=if zr l≠0 then zr l else if zon L (zbN l)=0 then 6 else 0
def zoS (L:List (List UInt8)) (l:List zC):Int:=if zr l≠0 then 0 else zon L (zbN l)
def zom (L:List (List UInt8)) (l:List zC):List (List UInt8):=if zr l≠0 then L else zgn L (zbN l)
theorem c_rqValid {σ:List zd} {id m t id2 m2 t2:Nat} {L:List (List UInt8)} {G:List zy} {s:zC} (hT:zea σ id m t L) (hG:zdL σ id2 m2 t2 G)
  (hx:zlf s.op<=20971520) {K:KT} (hK:K (.d (.bool (zgr L G s))) σ):zj Tryz.prog zkg [.box id 0,.box id2 0,zfK s] σ K:=by
 refine zyo zwz fun hl => ?_
 have fin:∀ z,zgr L G s=z->K (.d (.bool z)) σ:=fun z h=>h▸hK
 clear hK
 simp only [zpb,iN,bT,bF,eN,zfK]
 refine zQ ?_
 refine zxa (x:=s) hx ?_
 by_cases hc:zai s=0
 ·have hb:(zai s != 0)=false:=by simpa using hc
  rw [show zbK s=reqB s from if_pos hc]
  refine zA hb ?_
  refine ztQ (hT.app _) ?_
  cases ho:zev L (reqB s) with
  | none=>
   refine gq50 ?_
   refine zt hl ?_
   exact fin _ (by simp [zgr,ho])
  | some i=>
   refine gq50 ?_
   refine c_rqKey ?_
   simp only [zlS]
   cases h1:(s.key==keyF s.client)
   ·refine zkZ h1 ?_
    refine zt hl ?_
    exact fin _ (by simp at h1;simp [zgr,ho,h1])
   ·cases h2:(s.dig==((i+1:Nat):Int))
    ·refine zkZ (zo h1 h2) ?_
     refine zt hl ?_
     exact fin _ (by simp at h1 h2;simp [zgr,ho,h1];intro _ h;omega)
    ·refine zkZ (zo h1 h2) ?_
     refine c_gSigned (s:=⟨s.key,s.dig⟩) (hG.app _) ?_
     refine zQ ?_
     refine zt hl ?_
     exact fin _ (by simp at h1 h2;simp [zgr,ho,hc,h1,h2])
 ·have hb:(zai s != 0)=true:=by simpa using hc
  refine zA hb ?_
  refine zt hl ?_
  exact fin _ (by simp [zgr,hc])
theorem zyi {σ:List zd} {id m t id2 m2 t2:Nat} {L:List (List UInt8)} {G:List zy} {b:List zC} (hT:zea σ id m t L) (hG:zdL σ id2 m2 t2 G)
  (hx:∀ s∈b,zlf s.op<=20971520) (hbl:b.length<=1073741824) {K:KT} (hK:K (.d (.bool (zgm L G b))) σ):zj Tryz.prog zgo [.box id 0,.box id2 0,.d (.slice (zaP b))] σ K:=by
 refine zyo zpY fun hl => ?_
 have hok:okB b:=⟨hbl,fun s hs=>zsZ (hx s hs)⟩
 simp only [zjx,iN,bT,bF,eN]
 refine zQ ?_
 refine zfY hok ?_
 by_cases hc:zr b=0
 ·have hq:(zr b==0)=true:=by simpa using hc
  rw [zgm,decide_eq_true hc,Bool.true_and] at hK
  refine zA hq ?_
  have e0:(σ++[zd.box [AV.box id 0],zd.box [AV.box id2 0]])[σ.length]? = some (zd.box [AV.box id 0]):=by rw [zD];rfl
  have e1:(σ++[zd.box [AV.box id 0],zd.box [AV.box id2 0]])[σ.length+1]? = some (zd.box [AV.box id2 0]):=by rw [zB];rfl
  have hT1:=hT.app [zd.box [AV.box id 0],zd.box [AV.box id2 0]]
  have hG1:=hG.app [zd.box [AV.box id 0],zd.box [AV.box id2 0]]
  refine zoV (p:=fun s => !zgr L G s) hbl (fun s hs K' hK' => ?_) ?_
  ·obtain ⟨S,hS⟩:∃ S, σ++[zd.box [AV.box id 0],zd.box [AV.box id2 0]]=S:=⟨_,rfl⟩
   rw [hS] at e0 e1 hT1 hG1 hK' ⊢
   refine zyo zoa fun hl => ?_
   have e0':∀ τ,(S ++ τ)[σ.length]? = some (zd.box [AV.box id 0]):=fun τ=>zn e0
   have e1':∀ τ,(S ++ τ)[σ.length+1]? = some (zd.box [AV.box id2 0]):=fun τ=>zn e1
   simp only [zhW,iN,bT,bF,eN,zfK]
   refine zA (zo e0' e1') ?_
   refine c_rqValid (s:=s) (hT1.app _) (hG1.app _) (hx s hs) ?_
   refine zQ ?_
   refine zt hl ?_
   exact hK'
  ·refine zA hq ?_
   refine zt hl ?_
   exact hK
 ·have hq:(zr b==0)=false:=by simpa using hc
  rw [zgm,decide_eq_false hc,Bool.false_and] at hK
  refine zA hq ?_
  refine zt hl ?_
  exact hK
theorem c_rqDigest {σ:List zd} {id m t:Nat} {L:List (List UInt8)} {l:List zC} (hT:zea σ id m t L) (hL:zka L)
  (hx:∀ s∈l,zlf s.op<=20971520) (hll:l.length<=1073741824) {K:KT} (hK:K (.tup [.d (.int .i64 (zoS L l)),.d (.int .i64 (digE L l))]) (putTab σ id m t (zom L l))) :
  zj Tryz.prog zje [.box id 0,.d (.slice (zaP l))] σ K:=by
 refine zeE zuY fun hl => ?_
 have hok:okB l:=⟨hll,fun s hs=>zsZ (hx s hs)⟩
 simp only [znz,iN,bT,bF,eN]
 refine zQ ?_
 refine zfY hok ?_
 by_cases hc:zr l=0
 ·have hq:(zr l != 0)=false:=by simpa using hc
  have hbl:=zlH hx
  have hc':¬ zr l≠0:=by simpa using hc
  rw [show zoS L l=zon L (zbN l) from if_neg hc',show zom L l=zgn L (zbN l) from if_neg hc',show digE L l=if zon L (zbN l)=0 then 6 else 0 from if_neg hc'] at hK
  refine zA hq ?_
  refine c_known hT hL.nd hL.len hL.each ?_
  refine zQ ?_
  refine ztV (b := []) (by simp) hx hll ?_
  rw [List.nil_append,show zbw l=zbN l from if_pos hc] at *
  refine zQ ?_
  refine c_tSum hT (by omega) hL.len ?_
  have hl1:=hT.lows hl (zgn L (zbN l))
  have hs1:=zpB σ id m t (zgn L (zbN l))
  by_cases h0:zon L (zbN l)=0
  ·rw [if_pos h0] at hK
   rw [h0] at hK ⊢
   refine gq50 ?_
   refine zsh hs1 ?_ hl1 ?_
   ·simp [zfF,dmT,dm,dm1,zcq,zaU]
   ·exact hK
  ·rw [if_neg h0] at hK
   have h0':(zon L (zbN l)==0)=false:=by simpa using h0
   refine zA h0' ?_
   refine zsh hs1 ?_ hl1 ?_
   ·simp [zfF,dmT,dm,dm1,zcq,zaU]
   ·exact hK
 ·have hq:(zr l != 0)=true:=by simpa using hc
  rw [zoS,digE,zom,if_pos hc,if_pos hc,if_pos hc,hT.self] at hK
  refine zA hq ?_
  refine zt hl ?_
  exact hK
theorem c_rqrKey {σ:List zd} {c:Int} {K:KT} (hK:K (.d (.int .i64 (keyF c))) σ):zj Tryz.prog zoA [.d (.int .i64 c)] σ K:=c_rKey hK
theorem gq54 {A P Q:Prop} (a:A) (h:Q) (e:A->Hd Q->P:=by intro a h;(repeat' first|simp -dsimp only [↓zhL, ↓zbi, ↓zcI, ↓zhM, ↓zhF, ↓zhD, ↓zhG, ↓zhE, ↓zcN, ↓zcJ, ↓zcO, ↓zcK, ↓zhH, ↓zcH, ↓zcP, ↓zcL, ↓zcQ, ↓zcM, ↓zhC, ↓zhK, ↓zcG, ↓zcR, ↓zhz, ↓zhy, ↓zhB,iN,bT,bF,eN, ↓zdT, ↓unC, ↓zam, ↓zY, ↓zZ, ↓zae, ↓zax, ↓zag, ↓zeQ, ↓zap, ↓zaQ, ↓zW, ↓zg, ↓zh, ↓zcW, ↓zb, ↓zaC, ↓zG, ↓zbv, ↓zbE, ↓zc, ↓zE, ↓zq, ↓zK, ↓zao, ↓zft, ↓zfB, ↓zaL, ↓zaX, ↓zbm, ↓zbC, ↓zcj, ↓zI, ↓zaH, ↓zaa, ↓zM, ↓zaw,zfE,zcw,zcp,unA,zeT,bnd,zgq,zaA,zL,zga,dm,dm1,zw,zad,zgP,zgO,zH,Q0,Q1,Q2,Q3,Q4,Q5,zay,zB,zD,zT,zP,Q6,Q7,Q8,Q9,Q10,Q11,Q12,Q13,Q14,Nat.reduceAdd,Q15,Int.reduceToNat,Q16,Q17,Q18,Q19,Q20,reduceIte,Q21,Q22,zU,rep,zar,zgW,toD,zaz,Q23,Q24,Q25,Q26,Q27,Q28,Nat.reduceLeDiff,Q29,Nat.reduceSub,Q30,Q31,Q32,sc,Q33,Q34,Q35,Q36,Q37,Q26,Q38,Q39,zwb,zvY,zvV,zwc,zks,zvZ,zvW,zwa,zvX,zkr,zkt,zwl,zwm,Bool.not_true,Bool.not_false,List.length_map,Bool.and_false,Bool.and_self,Bool.false_and,Bool.not_false,Bool.not_true,Bool.true_and,Int.toNat_natCast,Int.toNat_zero,List.drop_zero,List.length_map,List.length_nil,List.nil_append,List.take_length,Nat.sub_zero,Nat.zero_add,Option.isSome_none,Option.isSome_some,Option.map_none,Option.map_some,zX,beq_self_eq_true,bne_self_eq_false,a]|with_reducible refine zxk ?_|fail);exact h.go):P:=e a ⟨h⟩
theorem c_rqrValid {σ:List zd} {id id2:Nat} {L:List (List UInt8)} {G:List zy} {s:zC} (hT : σ[id]? = some (rtO L)) (hG : σ[id2]? = some (rlO G)) (hL:zka L) (hGl:G.length<=1073741824)
  (hx:zlf s.op<=20971520) {K:KT} (hK:K (.d (.bool (zgr L G s))) σ):zj Tryz.prog zqR [.box id 0,.box id2 0,zfK s] σ K:=by
 refine zyo e_r08_Valid fun hl => ?_
 have fin:∀ z,zgr L G s=z->K (.d (.bool z)) σ:=fun z h=>h▸hK
 clear hK
 simp only [zxz,iN,bT,bF,eN,zfK]
 refine zQ ?_
 refine zzm (x:=s) hx ?_
 by_cases hc:zai s=0
 ·have hb:(zai s != 0)=false:=by simpa using hc
  rw [show zbK s=reqB s from if_pos hc]
  refine zA hb ?_
  refine c_rqrKey ?_
  cases h1:(s.key != keyF s.client)
  ·refine zA h1 ?_
   refine zst (zn hT) hL.len ?_
   cases ho:zev L (reqB s) with
   | none=>
    refine gq50 ?_
    refine zt hl ?_
    exact fin _ (by simp [zgr,ho])
   | some i=>
    simp only [zlS]
    cases h2:(((i+1:Nat):Int)==s.dig)
    ·refine gq54 h2 ?_
     refine zt hl ?_
     exact fin _ (by simp at h1 h2;simp [zgr,ho,h1];intro _ h;omega)
    ·refine gq54 h2 ?_
     refine ztR (s:=⟨s.key,s.dig⟩) (zn hG) hGl ?_
     refine zQ ?_
     refine zt hl ?_
     refine fin _ ?_
     have h2':s.dig=((i+1:Nat):Int):=by have:=eq_of_beq h2;exact this.symm
     have h1':s.key=keyF s.client:=by simpa using h1
     simp [zgr,ho,hc,h1',h2']
  ·refine zA h1 ?_
   refine zt hl ?_
   refine fin _ ?_
   have h1':¬ s.key=keyF s.client:=by simpa using h1
   simp only [zgr]
   cases zev L (reqB s)<;>simp [h1']
 ·have hb:(zai s != 0)=true:=by simpa using hc
  refine zA hb ?_
  refine zt hl ?_
  exact fin _ (by simp [zgr,hc])
theorem zwZ {σ:List zd} {id id2:Nat} {L:List (List UInt8)} {G:List zy} {b:List zC} (hT : σ[id]? = some (rtO L)) (hG : σ[id2]? = some (rlO G)) (hL:zka L) (hGl:G.length<=1073741824)
  (hx:∀ s∈b,zlf s.op<=20971520) (hbl:b.length<=1073741824) {K:KT} (hK:K (.d (.bool (zgm L G b))) σ):zj Tryz.prog zjj [.box id 0,.box id2 0,.d (.slice (zaP b))] σ K:=by
 refine zyo zve fun hl => ?_
 have hok:okB b:=⟨hbl,fun s hs=>zsZ (hx s hs)⟩
 simp only [znF,iN,bT,bF,eN]
 refine zQ ?_
 refine zgh hok ?_
 by_cases hc:zr b=0
 ·have hq:(zr b != 0)=false:=by simpa using hc
  rw [zgm,decide_eq_true hc,Bool.true_and] at hK
  refine zA hq ?_
  refine zl b.length (fun k vs s=>vs = [.d (.int .i64 k)]/\s = σ/\(b.take k).any (fun s => !zgr L G s)=false) ⟨rfl,rfl,by simp⟩ ?_
  rintro k vs S hk ⟨rfl,rfl,hno⟩
  by_cases hlt:k<b.length
  ·have hd:decide ((k:Int)<(b.length:Int))=true:=by simp;omega
   have hy:b[k]? = some b[k]:=by simp [hlt]
   have hgx:=zF (f:=zaN) hy
   have hxx:=hx _ (List.getElem_mem hlt)
   obtain ⟨x,hxe⟩:∃ x,b[k]=x:=⟨_,rfl⟩
   rw [hxe] at hy hgx hxx
   refine zkZ (zo hd hgx) ?_
   refine c_rqrValid (s:=x) hT hG hL hGl hxx ?_
   cases hv:zgr L G x
   ·rw [any_mem hy (by simp [hv])] at hK
    refine zQ ?_
    refine zt hl ?_
    exact hK
   ·refine zA (wk1 k (by omega)) ?_
    exact zan.next hlt ⟨rfl,rfl,any_take hy hno (by simp [hv])⟩
  ·have hd:decide ((k:Int)<(b.length:Int))=false:=by simp;omega
   rw [List.take_of_length_le (by omega)] at hno
   rw [hno] at hK
   refine zA hd ?_
   refine zt hl ?_
   exact hK
 ·have hq:(zr b != 0)=true:=by simpa using hc
  rw [zgm,decide_eq_false hc,Bool.false_and] at hK
  refine zA hq ?_
  refine zt hl ?_
  exact hK
theorem c_rqrDigest {σ:List zd} {id:Nat} {L:List (List UInt8)} {l:List zC} (hT : σ[id]? = some (rtO L)) (hL:zka L)
  (hx:∀ s∈l,zlf s.op<=20971520) (hll:l.length<=1073741824) {K:KT} (hK:K (.tup [.d (.int .i64 (zoS L l)),.d (.int .i64 (digE L l))]) (σ.set id (rtO (zom L l)))) :
  zj Tryz.prog zoB [.box id 0,.d (.slice (zaP l))] σ K:=by
 refine zeE e_r08_Digest fun hl => ?_
 have hok:okB l:=⟨hll,fun s hs=>zsZ (hx s hs)⟩
 simp only [zuI,iN,bT,bF,eN]
 refine zQ ?_
 refine zgh hok ?_
 by_cases hc:zr l=0
 ·have hq:(zr l != 0)=false:=by simpa using hc
  have hbl:=zlH hx
  have hc':¬ zr l≠0:=by simpa using hc
  rw [show zoS L l=zon L (zbN l) from if_neg hc',show zom L l=zgn L (zbN l) from if_neg hc',show digE L l=if zon L (zbN l)=0 then 6 else 0 from if_neg hc'] at hK
  refine zA hq ?_
  refine zkD (b := []) (by simp) hx hll ?_
  rw [List.nil_append,show zbw l=zbN l from if_pos hc] at *
  refine zQ ?_
  refine c_rtSum hT (by omega) hL.len ?_
  have hl1:zgl σ.length (σ.set id (rtO (zgn L (zbN l)))):=hl.setO (zmF _ _)
  by_cases h0:zon L (zbN l)=0
  ·rw [if_pos h0] at hK
   rw [h0] at hK ⊢
   refine gq50 ?_
   refine zsh (by simp) ?_ hl1 ?_
   ·simp [zfF,dmT,dm,dm1,zcq,zaU]
   ·exact hK
  ·rw [if_neg h0] at hK
   have h0':(zon L (zbN l)==0)=false:=by simpa using h0
   refine zA h0' ?_
   refine zsh (by simp) ?_ hl1 ?_
   ·simp [zfF,dmT,dm,dm1,zcq,zaU]
   ·exact hK
 ·have hq:(zr l != 0)=true:=by simpa using hc
  rw [zoS,digE,zom,if_pos hc,if_pos hc,if_pos hc,zcm hT] at hK
  refine zA hq ?_
  refine zt hl ?_
  exact hK
end Go.Proofs.YtpgahkdjkanblaaGreat
