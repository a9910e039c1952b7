/- Topics: what the document says of them. No program in sight. -/
import Derived.Test.YtfgbofkdhfjegaaGreatMk3
import Derived.Test.YtfgbofkdhfjegaaGreatPf1
import Derived.Test.YtfgbofkdhfjegaaGreatCl1
set_option linter.all false
namespace Go.AW
structure zdh where
 name:List UInt8
 base:Int
 recs:List (List UInt8)
 groups:List (List UInt8 × Int)
structure zcf where
 l:List zdh
 last:List (Int × Int × Int)
def zff:zcf:=⟨[],List.replicate 8 (0, 0, 0)⟩
abbrev zsN (g:List UInt8 × Int):List D := [.str g.1,.int .i64 g.2]
abbrev zcP (l:List (List UInt8 × Int)):List (List D):=l.map zsN
def zdh.next (x:zdh):Int:=x.base+x.recs.length
def atF (n:List UInt8):List zdh->Nat->Option Nat
 | [],_=>none
 | x::r,i=>if (x.name==n)=true then some i else atF n r (i+1)
def zwn (n:List UInt8):List zdh->Nat
 | [] => 0
 | x::r=>if Op.bytesLess x.name n=true then zwn n r+1 else 0
def zwo (n:List UInt8):List (List UInt8 × Int)->Nat
 | [] => 0
 | g::r=>if Op.bytesLess g.1 n=true then zwo n r+1 else 0
abbrev TRes:=Int × Int
def zeS (T:zcf) (n:List UInt8):TRes × zcf:=
 if (atF n T.l 0).isSome then ((5, 0),T) else if 8<=T.l.length then ((6, 0),T)
 else ((0, 0), { T with l:=T.l.take (zwn n T.l)++⟨n, 0,[],[]⟩::T.l.drop (zwn n T.l) })
def zkR (t:List UInt8) (o:Int):List (List UInt8)->List zbi
 | [] => []
 | r::l=>⟨t,o,r⟩::zkR t (o+1) l
def zed (T:zcf) (i:Nat) (x:zdh) (o:TOp):TRes × List zbi × zcf:=
 if 64<x.recs.length+o.recs.length∨9007199254740992-(o.recs.length:Int)<x.next then ((71, 0),[],T)
 else ((0,x.next),zkR x.name x.next o.recs, { T with l:=T.l.set i { x with recs:=x.recs++o.recs } })
def hadG (n:List UInt8) (l:List (List UInt8 × Int)):Option Int:=match l[zwo n l]? with
 | some g=>if (g.1==n)=true then some g.2 else none
 | none=>none
def zdp (T:zcf) (i:Nat) (x:zdh) (o:TOp):TRes × zcf:=
 if o.offset<(hadG o.group x.groups).getD 0∨x.next<o.offset then ((72, 0),T)
 else if (hadG o.group x.groups).isSome=false/\8<=x.groups.length then ((6, 0),T)
 else ((0,o.offset), { T with l:=T.l.set i { x with groups:=x.groups.take (zwo o.group x.groups)++(o.group,o.offset)::x.groups.drop (zwo o.group x.groups+if (hadG o.group x.groups).isSome then 1 else 0) } })
def zto (T:zcf) (i:Nat) (x:zdh) (o:TOp):TRes × zcf:=
 if o.offset<x.base∨x.next<o.offset then ((72, 0),T)
 else ((0,o.offset), { T with l:=T.l.set i { x with recs:=x.recs.drop (o.offset-x.base).toNat,base:=o.offset } })
def zdg (T:zcf) (o:TOp):TRes × List zbi × zcf:=
 if zbG zex o≠0 then ((zbG zex o, 0),[],T)
 else if o.kind=0 then ((0, 0),[],T)
 else if o.kind=1 then ((zeS T o.topic).1,[],(zeS T o.topic).2)
 else match atF o.topic T.l 0 with
  | none=>((4, 0),[],T)
  | some i=>match T.l[i]? with
   | none=>((4, 0),[],T)
   | some x=>if o.kind=2 then zed T i x o
    else if o.kind=3 then ((zdp T i x o).1,[],(zdp T i x o).2)
    else ((zto T i x o).1,[],(zto T i x o).2)
def zcE (T:zcf) (c tm:Int) (o:TOp):TRes × List zbi × Bool × zcf:=
 if c<0∨8<=c∨tm<1∨9007199254740992<tm then ((1, 0),[],false,T)
 else if tm=(T.last.getD c.toNat (0, 0, 0)).1 then ((T.last.getD c.toNat (0, 0, 0)).2,[],false,T)
 else if tm<(T.last.getD c.toNat (0, 0, 0)).1 then ((7, 0),[],false,T)
 else ((zdg T o).1,(zdg T o).2.1,true, { (zdg T o).2.2 with last:=(zdg T o).2.2.last.set c.toNat (tm,(zdg T o).1.1,(zdg T o).1.2) })
theorem zst (T:zcf) (o:TOp):(zdg T o).2.2.last=T.last:=by
 unfold zdg zeS zed zdp zto
 repeat' (first|rfl|split)
theorem zon (t:List UInt8):∀ (l:List (List UInt8)) (o:Int),(zkR t o l).length=l.length
 | [],_=>rfl
 | _::l,o=>by simp [zkR,zon t l]
theorem zur (t:List UInt8):∀ (l:List (List UInt8)) (o:Int) (r:List UInt8),zkR t o (l++[r])=zkR t o l++[⟨t,o+l.length,r⟩]
 | [],o,r=>by simp [zkR]
 | a::l,o,r=>by
  simp only [List.cons_append,zkR,zur t l (o+1) r,List.length_cons]
  congr 3
  simp;omega
theorem atF_step {n:List UInt8} {l:List zdh} {k:Nat} {x:zdh} (h:l[k]? = some x):atF n (l.drop k) k=if (x.name==n)=true then some k else atF n (l.drop (k+1)) (k+1):=by
 have hk:k<l.length:=(List.getElem?_eq_some_iff.1 h).1
 rw [List.drop_eq_getElem_cons hk,(List.getElem?_eq_some_iff.1 h).2]
 rfl
theorem atF_lt {n:List UInt8}:∀ {l:List zdh} {i k:Nat},atF n l i=some k->i<=k/\k<i+l.length
 | [],_,_,h=>by simp [atF] at h
 | x::r,i,k,h=>by
  simp only [atF] at h
  split at h
  ·cases h;simp
  ·have:=atF_lt h;simp;omega
theorem zxa {n:List UInt8} {l:List zdh} {k:Nat} {x:zdh} (h:l[k]? = some x):zwn n (l.drop k)=if Op.bytesLess x.name n=true then zwn n (l.drop (k+1))+1 else 0:=by
 have hk:k<l.length:=(List.getElem?_eq_some_iff.1 h).1
 rw [List.drop_eq_getElem_cons hk,(List.getElem?_eq_some_iff.1 h).2]
 rfl
theorem zxb {n:List UInt8} {l:List (List UInt8 × Int)} {k:Nat} {x:List UInt8 × Int} (h:l[k]? = some x):zwo n (l.drop k)=if Op.bytesLess x.1 n=true then zwo n (l.drop (k+1))+1 else 0:=by
 have hk:k<l.length:=(List.getElem?_eq_some_iff.1 h).1
 rw [List.drop_eq_getElem_cons hk,(List.getElem?_eq_some_iff.1 h).2]
 rfl
abbrev topD (x:zdh):List D := [.str x.name,.int .i64 x.base,.slice (zbY x.recs),.slice (zcP x.groups)]
abbrev zce (l:List zdh):List (List D):=l.map topD
abbrev zaK (es:List (List D)):List AV:=es.flatten.map .d
theorem zfR {sz:Nat}:∀ {es:List (List D)},(∀ e∈es,e.length=sz)->(zaK es).length=es.length*sz
 | [],_=>by simp [zaK]
 | e::es,h=>by
  have h1:=zfR (es:=es) fun x hx=>h x (List.mem_cons_of_mem _ hx)
  have h2:=h e List.mem_cons_self
  simp only [zaK,List.length_map] at h1
  simp only [zaK,List.flatten_cons,List.map_append,List.length_append,List.length_map,h1,h2,List.length_cons,Nat.add_mul,Nat.one_mul]
  omega
theorem zxl {sz:Nat}:∀ {es:List (List D)},(∀ e∈es,e.length=sz)->∀ k,(zaK es).take (k*sz)=zaK (es.take k)
 | [],_,k=>by simp [zaK]
 | e::es,h,k=>by
  cases k with
  | zero=>simp [zaK]
  | succ k=>
   have h1:=zxl (es:=es) (fun x hx=>h x (List.mem_cons_of_mem _ hx)) k
   have h2:=h e List.mem_cons_self
   have e1:zaK (e::es)=e.map .d++zaK es:=by simp [zaK]
   have e2:zaK ((e::es).take (k+1))=e.map .d++zaK (es.take k):=by simp [zaK]
   rw [e1,e2, ← h1,List.take_append,List.length_map,h2,show (k+1)*sz-sz=k*sz by rw [Nat.add_mul];omega,List.take_of_length_le (by rw [List.length_map,h2,Nat.add_mul];omega)]
theorem zsk {sz:Nat}:∀ {es:List (List D)},(∀ e∈es,e.length=sz)->∀ k,(zaK es).drop (k*sz)=zaK (es.drop k)
 | [],_,k=>by simp [zaK]
 | e::es,h,k=>by
  cases k with
  | zero=>simp [zaK]
  | succ k=>
   have h1:=zsk (es:=es) (fun x hx=>h x (List.mem_cons_of_mem _ hx)) k
   have h2:=h e List.mem_cons_self
   have e1:zaK (e::es)=e.map .d++zaK es:=by simp [zaK]
   rw [e1,List.drop_succ_cons, ← h1,List.drop_append,List.length_map,h2,show (k+1)*sz-sz=k*sz by rw [Nat.add_mul];omega,List.drop_of_length_le (by rw [List.length_map,h2,Nat.add_mul];omega)]
   rfl
theorem znC {sz:Nat} {es:List (List D)} (h:∀ e∈es,e.length=sz) {k:Nat} {e:List D} (he:es[k]? = some e):((zaK es).drop (k*sz)).take sz=e.map .d:=by
 have hk:k<es.length:=(List.getElem?_eq_some_iff.1 he).1
 have hl:=h e (List.mem_of_getElem? he)
 rw [zsk h,List.drop_eq_getElem_cons hk,(List.getElem?_eq_some_iff.1 he).2]
 simp only [zaK,List.flatten_cons,List.map_append]
 rw [List.take_append_of_le_length (by rw [List.length_map,hl];exact Nat.le_refl _),List.take_of_length_le (by rw [List.length_map,hl];exact Nat.le_refl _)]
theorem zow {sz:Nat} {es:List (List D)} (h:∀ e∈es,e.length=sz) {k i:Nat} {e:List D} (he:es[k]? = some e) (hi:i<sz):(zaK es)[k*sz+i]?=(e[i]?).map .d:=by
 have h1:=znC h he
 have h2:(((zaK es).drop (k*sz)).take sz)[i]?=(zaK es)[k*sz+i]?:=by rw [List.getElem?_take,if_pos hi,List.getElem?_drop]
 rw [← h2,h1,List.getElem?_map]
theorem zqL {sz:Nat} {es:List (List D)} (h:∀ e∈es,e.length=sz) {k i:Nat} {e:List D} (he:es[k]? = some e) (hi:i<sz) (x:D):(zaK es).set (k*sz+i) (.d x)=zaK (es.set k (e.set i x)):=by
 have hk:k<es.length:=(List.getElem?_eq_some_iff.1 he).1
 have hl:=h e (List.mem_of_getElem? he)
 have e0:es=es.take k++e::es.drop (k+1):=by
  rw [← (List.getElem?_eq_some_iff.1 he).2, ← List.drop_eq_getElem_cons hk,List.take_append_drop]
 have e1:es.set k (e.set i x)=es.take k++e.set i x::es.drop (k+1):=by rw [List.set_eq_take_append_cons_drop,if_pos hk]
 have hlen:(zaK (es.take k)).length=k*sz:=by
  rw [zfR fun y hy=>h y (List.mem_of_mem_take hy),List.length_take,Nat.min_eq_left (by omega)]
 have e2:zaK es=zaK (es.take k)++(e.map .d++zaK (es.drop (k+1))):=by
  conv=>lhs;rw [e0]
  simp [zaK]
 have e3:zaK (es.set k (e.set i x))=zaK (es.take k)++((e.set i x).map .d++zaK (es.drop (k+1))):=by
  rw [e1];simp [zaK]
 rw [e2,e3,List.set_append_right _ _ (by omega),hlen,Nat.add_sub_cancel_left,List.set_append_left _ _ (by rw [List.length_map];omega),List.map_set]
theorem zeB (l:List zdh):∀ e∈zce l,e.length=4:=by
 intro e he
 obtain ⟨x,_,rfl⟩:=List.mem_map.1 he
 rfl
structure TopI (x:zdh):Prop where
 base:0<=x.base
 next:x.next<=9007199254740992
 recs:x.recs.length<=64
 groups:x.groups.length<=8
 name:x.name.length<=64
 each:∀ r∈x.recs,r.length<=64
 gs:∀ g∈x.groups,g.1.length<=64/\0<=g.2/\g.2<=9007199254740992
structure zhZ (T:zcf):Prop where
 len:T.l.length<=8
 tops:∀ x∈T.l,TopI x
theorem zhZ.none:zhZ zff:=⟨by simp [zff],by simp [zff]⟩
theorem check0 {o:TOp} (h:zbG zex o=0):0<=o.offset/\o.offset<=9007199254740992/\(o.kind≠0->zex o.topic=true)/\(o.kind=3->zex o.group=true)/\(o.kind=2->∀ r∈o.recs,r.length<=64):=by
 unfold zbG at h
 split at h
 ·cases h
 ·split at h
  ·cases h
  ·rename_i h2
   split at h
   ·cases h
   ·rename_i h3
    split at h
    ·cases h
    ·rename_i h4
     split at h
     ·cases h
     ·rename_i h5
      refine ⟨by omega,by omega,fun hk=>by simpa [hk] using h2,fun hk=>by simpa [hk] using h3,fun hk r hr => ?_⟩
      have:¬ (o.recs.any (fun r=>decide (r.length > 64))=true):=fun e=>h4 ⟨hk,.inr (.inr e)⟩
      simp only [List.any_eq_true,decide_eq_true_eq,not_exists,not_and] at this
      have:=this r hr
      omega
theorem zou {α:Type} {l:List α} {i:Nat} {x y : α} (h:y∈l.set i x):y∈l∨y=x:=List.mem_or_eq_of_mem_set h
theorem doesI {T:zcf} (h:zhZ T) (o:TOp):zhZ (zdg T o).2.2:=by
 unfold zdg
 split
 ·exact h
 ·rename_i hc
  have hc:zbG zex o=0:=by simpa using hc
  obtain ⟨q1,q2,q3,q4,q5⟩:=check0 hc
  split
  ·exact h
  ·rename_i k0
   have hn:=name_len (q3 k0)
   split
   ·unfold zeS
    split
    ·exact h
    ·split
     ·exact h
     ·refine ⟨by simp only [List.length_append,List.length_take,List.length_cons,List.length_drop];omega,fun x hx => ?_⟩
      rcases List.mem_append.1 hx with hx|hx
      ·exact h.tops x (List.mem_of_mem_take hx)
      ·rcases List.mem_cons.1 hx with rfl|hx
       ·exact ⟨by simp,by simp [zdh.next],by simp,by simp,hn,by simp,by simp⟩
       ·exact h.tops x (List.mem_of_mem_drop hx)
   ·split
    ·exact h
    ·rename_i i _
     split
     ·exact h
     ·rename_i x hx
      have hX:=h.tops x (List.mem_of_getElem? hx)
      have a1:=hX.base;have a2:=hX.next;have a3:=hX.recs;have a4:=hX.groups
      split
      ·rename_i k2
       unfold zed
       split
       ·exact h
       ·rename_i hq
        refine ⟨by simpa using h.len,fun y hy => ?_⟩
        rcases zou hy with hy|rfl
        ·exact h.tops y hy
        ·have e:x.next=x.base+x.recs.length:=rfl
         refine ⟨a1,by simp only [zdh.next,List.length_append];omega,by simp;omega,a4,hX.name,fun r hr => ?_,hX.gs⟩
         rcases List.mem_append.1 hr with hr|hr
         ·exact hX.each r hr
         ·exact q5 k2 r hr
      ·split
       ·rename_i k3
        have hg:=name_len (q4 k3)
        unfold zdp
        split
        ·exact h
        ·split
         ·exact h
         ·rename_i h6 h7
          refine ⟨by simpa using h.len,fun y hy => ?_⟩
          rcases zou hy with hy|rfl
          ·exact h.tops y hy
          ·refine ⟨a1,a2,a3,?_,hX.name,hX.each,fun g hg' => ?_⟩
           ·simp only [List.length_append,List.length_take,List.length_cons,List.length_drop]
            cases hh:hadG o.group x.groups with
            | none=>simp [hh] at h7 ⊢;omega
            | some v=>
             have:zwo o.group x.groups<x.groups.length:=by
              rw [hadG] at hh
              split at hh
              ·rename_i g0 hg0;exact (List.getElem?_eq_some_iff.1 hg0).1
              ·cases hh
             simp;omega
           ·rcases List.mem_append.1 hg' with hg' | hg'
            ·exact hX.gs g (List.mem_of_mem_take hg')
            ·rcases List.mem_cons.1 hg' with rfl|hg'
             ·exact ⟨hg,q1,q2⟩
             ·exact hX.gs g (List.mem_of_mem_drop hg')
       ·unfold zto
        split
        ·exact h
        ·rename_i h6
         refine ⟨by simpa using h.len,fun y hy => ?_⟩
         rcases zou hy with hy|rfl
         ·exact h.tops y hy
         ·have e:x.next=x.base+x.recs.length:=rfl
          exact ⟨q1,by simp only [zdh.next,List.length_drop];omega,by simp;omega,a4,hX.name,fun r hr=>hX.each r (List.mem_of_mem_drop hr),hX.gs⟩
theorem applyI {T:zcf} (h:zhZ T) (c tm:Int) (o:TOp):zhZ (zcE T c tm o).2.2.2:=by
 unfold zcE
 split
 ·exact h
 ·split
  ·exact h
  ·split
   ·exact h
   ·exact ⟨(doesI h o).len,(doesI h o).tops⟩
def groupB (g:List UInt8 × Int):List UInt8:=zqr g.1++zdi g.2.toNat
def zpJ (l:List (List UInt8 × Int)):List UInt8:=(l.map groupB).flatten
def topB (x:zdh):List UInt8:=zqr x.name++(zdi x.base.toNat++(zdi x.recs.length++(zmW x.recs++(zdi x.groups.length++zpJ x.groups))))
def zqm (l:List zdh):List UInt8:=(l.map topB).flatten
def lastB (a:Int × Int × Int):List UInt8:=zdi a.1.toNat++(zdi a.2.1.toNat++zdi a.2.2.toNat)
def zxd (l:List (Int × Int × Int)):List UInt8:=(l.map lastB).flatten
def zgj (T:zcf):List UInt8:=zdi T.l.length++(zqm T.l++zxd T.last)
theorem zpK {α:Type} {f : α->List UInt8} {n:Nat}:∀ {l:List α},(∀ x∈l,(f x).length<=n)->((l.map f).flatten).length<=l.length*n
 | [],_=>by simp
 | x::l,h=>by
  have h1:=h x List.mem_cons_self
  have h2:=zpK (l:=l) fun y hy=>h y (List.mem_cons_of_mem _ hy)
  simp only [List.map_cons,List.flatten_cons,List.length_append,List.length_cons,Nat.add_mul,Nat.one_mul]
  omega
theorem zxf {g:List UInt8 × Int} (h:g.1.length<=64/\0<=g.2/\g.2<=9007199254740992):(groupB g).length<=84:=by
 have h1:=zgC (x:=g.1) (by omega)
 have h2:=zJ (n:=g.2.toNat) (by omega)
 simp only [groupB,List.length_append];omega
theorem topB_len {x:zdh} (h:TopI x):(topB x).length<=5600:=by
 have h1:=zgC (x:=x.name) (by have:=h.name;omega)
 have e:x.next=x.base+x.recs.length:=rfl
 have a1:=h.base;have a2:=h.next;have a3:=h.recs;have a4:=h.groups;have a5:=h.name
 have h2:=zJ (n:=x.base.toNat) (by omega)
 have h3:=zJ (n:=x.recs.length) (by omega)
 have h4:=zJ (n:=x.groups.length) (by omega)
 have h5:(zmW x.recs).length<=x.recs.length*74:=zpK fun r hr=>by have:=h.each r hr;have:=zgC (x:=r) (by omega);omega
 have h6:(zpJ x.groups).length<=x.groups.length*84:=zpK fun g hg=>zxf (h.gs g hg)
 simp only [topB,List.length_append];omega
theorem zwH {l:List zdh} (h:∀ x∈l,TopI x):(zqm l).length<=l.length*5600:=zpK fun x hx=>topB_len (h x hx)
def zoh (l:List (Int × Int × Int)):Prop := ∀ a∈l,(0<=a.1/\a.1<=9007199254740992)/\(0<=a.2.1/\a.2.1<=9007199254740992)/\(0<=a.2.2/\a.2.2<=9007199254740992)
theorem lastB_len {a:Int × Int × Int} (h:(0<=a.1/\a.1<=9007199254740992)/\(0<=a.2.1/\a.2.1<=9007199254740992)/\(0<=a.2.2/\a.2.2<=9007199254740992)):(lastB a).length<=30:=by
 have h1:=zJ (n:=a.1.toNat) (by omega)
 have h2:=zJ (n:=a.2.1.toNat) (by omega)
 have h3:=zJ (n:=a.2.2.toNat) (by omega)
 simp only [lastB,List.length_append];omega
theorem zxc {l:List (Int × Int × Int)} (h:zoh l):(zxd l).length<=l.length*30:=zpK fun a ha=>lastB_len (h a ha)
def zal:zcf->List zt->List zbi × zcf
 | T,[]=>([],T)
 | T,x::r=>((zcE T x.client x.time x.op).2.1++(zal (zcE T x.client x.time x.op).2.2.2 r).1,(zal (zcE T x.client x.time x.op).2.2.2 r).2)
theorem zrj (x:zt):∀ (l:List zt) (T:zcf),zal T (l++[x])=((zal T l).1++(zcE (zal T l).2 x.client x.time x.op).2.1,(zcE (zal T l).2 x.client x.time x.op).2.2.2)
 | [],T=>by simp [zal]
 | y::l,T=>by
  simp only [List.cons_append,zal,zrj x l,List.append_assoc]
theorem zvF:∀ (l:List zt) {T:zcf},zhZ T->zhZ (zal T l).2
 | [],_,h=>h
 | x::l,_,h=>zvF l (applyI h x.client x.time x.op)
theorem checkOp_rng (n:List UInt8->Bool) (o:TOp):0<=zbG n o/\zbG n o<=100:=by
 unfold zbG
 repeat' split
 all_goals omega
theorem doesR {T:zcf} (h:zhZ T) (o:TOp):(0<=(zdg T o).1.1/\(zdg T o).1.1<=9007199254740992)/\(0<=(zdg T o).1.2/\(zdg T o).1.2<=9007199254740992):=by
 unfold zdg
 split
 ·have:=checkOp_rng zex o
  exact ⟨⟨this.1,by simp only;omega⟩,by simp,by simp⟩
 ·rename_i hc
  have hc:zbG zex o=0:=by simpa using hc
  obtain ⟨q1,q2,_⟩:=check0 hc
  split
  ·simp
  ·split
   ·unfold zeS
    repeat' split
    all_goals simp
   ·split
    ·simp
    ·split
     ·simp
     ·rename_i x hx
      have hX:=h.tops x (List.mem_of_getElem? hx)
      have a1:=hX.base;have a2:=hX.next
      have e:x.next=x.base+x.recs.length:=rfl
      split
      ·unfold zed
       split
       ·simp
       ·exact ⟨by simp,by simp only;omega,by simp only;omega⟩
      ·split
       ·unfold zdp
        repeat' split
        all_goals first|simp;done|exact ⟨by simp,q1,q2⟩
       ·unfold zto
        split
        ·simp
        ·exact ⟨by simp,q1,q2⟩
theorem applyL {T:zcf} (h:zhZ T) (hL:zoh T.last) (c tm:Int) (o:TOp):zoh (zcE T c tm o).2.2.2.last:=by
 unfold zcE
 split
 ·exact hL
 ·rename_i h1
  split
  ·exact hL
  ·split
   ·exact hL
   ·intro a ha
    rcases zou ha with ha|rfl
    ·rw [zst] at ha;exact hL a ha
    ·exact ⟨by simp only;omega,doesR h o⟩
theorem zvE:∀ (l:List zt) {T:zcf},zhZ T->zoh T.last->zoh (zal T l).2.last
 | [],_,_,h=>h
 | x::l,_,hI,h=>zvE l (applyI hI x.client x.time x.op) (applyL hI h x.client x.time x.op)
theorem applyF_last {T:zcf} (c tm:Int) (o:TOp):(zcE T c tm o).2.2.2.last.length=T.last.length:=by
 unfold zcE
 repeat' split
 all_goals simp [zst]
def PlI (p:zbi):Prop := 0<=p.offset/\p.offset<=9007199254740992/\p.topic.length<=64/\p.rec_.length<=64
theorem placeI {t:List UInt8} (ht:t.length<=64):∀ {l:List (List UInt8)} {o:Int}, 0<=o->o+l.length<=9007199254740992->(∀ r∈l,r.length<=64)->∀ p∈zkR t o l,PlI p
 | [],_,_,_,_,p,h=>by simp [zkR] at h
 | r::l,o,h0,h1,h2,p,h=>by
  simp only [List.length_cons] at h1
  rcases List.mem_cons.1 h with rfl|h
  ·exact ⟨h0,by simp only;omega,ht,h2 r List.mem_cons_self⟩
  ·exact placeI ht (l:=l) (o:=o+1) (by omega) (by omega) (fun r hr=>h2 r (List.mem_cons_of_mem _ hr)) p h
theorem doesP {T:zcf} (h:zhZ T) (o:TOp):(∀ p∈(zdg T o).2.1,PlI p)/\(zdg T o).2.1.length<=64:=by
 unfold zdg
 split
 ·simp
 ·rename_i hc
  have hc:zbG zex o=0:=by simpa using hc
  obtain ⟨q1,q2,q3,q4,q5⟩:=check0 hc
  split
  ·simp
  ·split
   ·simp
   ·split
    ·simp
    ·split
     ·simp
     ·rename_i x hx
      have hX:=h.tops x (List.mem_of_getElem? hx)
      have a1:=hX.base;have a2:=hX.next
      have e:x.next=x.base+x.recs.length:=rfl
      split
      ·rename_i k2
       unfold zed
       split
       ·simp
       ·exact ⟨placeI hX.name (by omega) (by omega) (q5 k2),by simp only [zon];omega⟩
      ·split<;>simp
theorem applyP {T:zcf} (h:zhZ T) (c tm:Int) (o:TOp):(∀ p∈(zcE T c tm o).2.1,PlI p)/\(zcE T c tm o).2.1.length<=64:=by
 unfold zcE
 repeat' split
 all_goals first|(simp;done)|exact doesP h o
theorem znO:∀ (l:List zt) {T:zcf},zhZ T->(∀ p∈(zal T l).1,PlI p)/\(zal T l).1.length<=l.length*64
 | [],_,_=>by simp [zal]
 | x::l,T,h=>by
  obtain ⟨h1,h2⟩:=applyP h x.client x.time x.op
  obtain ⟨h3,h4⟩:=znO l (applyI h x.client x.time x.op)
  refine ⟨fun p hp => ?_,by simp only [zal,List.length_append,List.length_cons,Nat.add_mul];omega⟩
  rcases List.mem_append.1 hp with hp|hp
  ·exact h1 p hp
  ·exact h3 p hp
end Go.AW
