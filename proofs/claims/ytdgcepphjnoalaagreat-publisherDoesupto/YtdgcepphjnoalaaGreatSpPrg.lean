/- Topics as the program zwg them: maps' entries against sorted lists. No program in sight. -/
import Derived.Test.YtdgcepphjnoalaaGreatQu1
import Derived.Test.YtdgcepphjnoalaaGreatJa3
import Derived.Test.YtdgcepphjnoalaaGreatOpC
import Derived.Test.YtdgcepphjnoalaaGreatSpTab
import Derived.Test.YtdgcepphjnoalaaGreatWr3
import Derived.Test.YtdgcepphjnoalaaGreatCl1
import Derived.Test.YtdgcepphjnoalaaGreatRq3
import Derived.Test.YtdgcepphjnoalaaGreatKr3
import Derived.Test.YtdgcepphjnoalaaGreatOp2
set_option linter.all false
namespace Go.AW
theorem less_lt:∀(x y:List UInt8),Op.bytesLess x y=decide (x<y)
 | [],[]=>by simp[Op.bytesLess]
 | _::_,[]=>by simp[Op.bytesLess]
 | [],_::_=>by simp[Op.bytesLess]
 | a::x,b::y=>by
  rw[Op.bytesLess,less_lt x y];simp only[List.cons_lt_cons_iff];by_cases h1:a<b<;>by_cases h2:a=b<;>by_cases h3:x<y<;>simp[h1,h2,h3]
abbrev ltN (a b:List UInt8):Prop:=Op.bytesLess a b=true
theorem ltN_iff {a b:List UInt8}:ltN a b↔a<b:=by rw[ltN,less_lt];simp
theorem ltN_irr (a:List UInt8):¬ltN a a:=by rw[ltN_iff];exact List.lt_irrefl a
theorem ltN_trans {a b c:List UInt8}(h:ltN a b)(h':ltN b c):ltN a c:=by rw[ltN_iff]at *;exact List.lt_trans h h'
theorem ltN_total {a b:List UInt8}(h:¬ltN a b)(hne:a≠b):ltN b a:=by
 rw[ltN_iff]at *;have h1:b<=a:=List.not_lt.1 h;rcases List.le_iff_lt_or_eq.1 h1 with h2|h2
 ·exact h2
 ·exact absurd h2.symm hne
section
variable {α:Type} (f:α->List UInt8)
def zwd (n:List UInt8):List α->Nat
 | []=>0
 | x::r=>if Op.bytesLess (f x) n=true then zwd n r+1 else 0
def zoU (l:List α):Prop:=(l.map f).Pairwise ltN
variable {f}
theorem zoU.nodup {l:List α}(h:zoU f l):(l.map f).Nodup:=by
 refine List.Pairwise.imp (fun{a b} hab e=>?_) h;subst e;exact ltN_irr _ hab
theorem zpq {a:α}{r:List α}:zoU f (a::r)↔(∀b∈r,ltN (f a) (f b))/\zoU f r:=by
 rw[zoU,List.map_cons,List.pairwise_cons];constructor
 ·rintro⟨h1,h2⟩;exact⟨fun b hb=>h1 _ (List.mem_map_of_mem hb),h2⟩
 ·rintro⟨h1,h2⟩;refine⟨fun b hb=>?_,h2⟩;obtain⟨c,hc,rfl⟩:=List.mem_map.1 hb;exact h1 c hc
theorem zwc {n:List UInt8}{x:α}(hx:f x=n):∀ {l:List α},zoU f l->(∀a∈l,f a≠n)->zoU f (l.take (zwd f n l)++x::l.drop (zwd f n l))
 | [],_,_=>by simp[zoU,zwd]
 | a::r,h,hn=>by
  obtain⟨h1,h2⟩:=zpq.1 h;simp only[zwd];split
  ·rename_i ha;simp only[List.take_succ_cons,List.drop_succ_cons,List.cons_append];refine zpq.2 ⟨fun b hb=>?_,zwc hx h2 fun a ha=>hn a (List.mem_cons_of_mem _ ha)⟩;rcases List.mem_append.1 hb with hb|hb
   ·exact h1 b (List.mem_of_mem_take hb)
   ·rcases List.mem_cons.1 hb with rfl|hb
    ·rw[hx];exact ha
    ·exact h1 b (List.mem_of_mem_drop hb)
  ·rename_i ha;simp only[List.take_zero,List.drop_zero,List.nil_append];have hna:ltN n (f a):=ltN_total ha (hn a List.mem_cons_self);refine zpq.2 ⟨fun b hb=>?_,h⟩;rw[hx];rcases List.mem_cons.1 hb with rfl|hb
   ·exact hna
   ·exact ltN_trans hna (h1 b hb)
theorem zoC {n:List UInt8}:∀ {l:List α},zoU f l->∀ {x:α},x∈l->f x=n->l[zwd f n l]? = some x
 | [],_,_,h,_=>by cases h
 | a::r,h,x,hx,e=>by
  obtain⟨h1,h2⟩:=zpq.1 h;simp only[zwd];rcases List.mem_cons.1 hx with rfl|hx
  ·rw[if_neg (by rw[e];exact ltN_irr n)];rfl
  ·have:=h1 x hx;rw[e]at this;rw[if_pos this,List.getElem?_cons_succ];exact zoC h2 hx e
theorem sortK_set {l:List α}(h:zoU f l){k:Nat}{x y:α}(hx:l[k]? = some x)(e:f y=f x):zoU f (l.set k y):=by
 rw[zoU,List.map_set,e];have:(l.map f).set k (f x)=l.map f:=by
  apply List.ext_getElem?;intro i;rw[List.getElem?_set];split
  ·rename_i hi;subst hi;split
   ·rw[List.getElem?_map,hx];rfl
   ·rename_i hk;have:=(List.getElem?_eq_some_iff.1 hx).1;simp at hk;omega
  ·rfl
 rw[this];exact h
theorem sortK_inj {l:List α}(h:zoU f l){x y:α}(hx:x∈l)(hy:y∈l)(e:f x=f y):x=y:=by
 have h1:=zoC h hx rfl;have h2:=zoC h hy e.symm;rw[h1]at h2;exact Option.some.inj h2
end
theorem lessN_K (n:List UInt8):∀l,lessN n l=zwd zer.name n l
 | []=>rfl
 | x::r=>by simp only[lessN,zwd,lessN_K n r]
theorem zzY (n:List UInt8):∀l,lessG n l=zwd Prod.fst n l
 | []=>rfl
 | x::r=>by simp only[lessG,zwd,zzY n r]
def zxJ (n:List UInt8):List (List UInt8 × Int)->Nat->Option (Nat × Int)
 | [],_=>none
 | g::r,i=>if n=g.1 then some (i,g.2)else zxJ n r (i+1)
def putA (n:List UInt8) (v:Int) (l:List (List UInt8 × Int)):List (List UInt8 × Int):=match zxJ n l 0 with
 | some (k,_)=>l.set k (n,v)
 | none=>l++[(n,v)]
theorem ztn {n:List UInt8}:∀ {l:List (List UInt8 × Int)} {i k:Nat} {v:Int},zxJ n l i=some (k,v)->∃j,k=i+j/\l[j]? = some (n,v)
 | [],_,_,_,h=>by simp[zxJ]at h
 | g::r,i,k,v,h=>by
  simp only[zxJ]at h;split at h
  ·rename_i e;cases h;exact⟨0,rfl,by rw[e];rfl⟩
  ·obtain⟨j,h1,h2⟩:=ztn h;exact⟨j+1,by omega,by simpa using h2⟩
theorem zto {n:List UInt8}:∀ {l:List (List UInt8 × Int)} {i:Nat},zxJ n l i=none->∀g∈l,g.1≠n
 | [],_,_,g,hg=>by cases hg
 | a::r,i,h,g,hg=>by
  simp only[zxJ]at h;split at h
  ·cases h
  ·rename_i e;rcases List.mem_cons.1 hg with rfl|hg
   ·exact fun e'=>e e'.symm
   ·exact zto h g hg
structure GR (G L:List (List UInt8 × Int)):Prop where
 len:G.length=L.length
 sort:zoU Prod.fst L
 nod:(G.map Prod.fst).Nodup
 mem:∀a,a∈G↔a∈L
theorem GR.nil:GR [] []:=⟨rfl,by simp[zoU],by simp,by simp⟩
theorem zrS {α β:Type}{f:α→β}:∀ {l:List α},(l.map f).Nodup->∀ {i j:Nat} {a b:α},l[i]? = some a->l[j]? = some b->f a=f b->i=j:=by
 intro l h i j a b hi hj e;have h1:(l.map f)[i]? = some (f a):=by rw[List.getElem?_map,hi];rfl
 have h2:(l.map f)[j]? = some (f a):=by rw[List.getElem?_map,hj,e];rfl
 obtain⟨g1,g2⟩:=List.getElem?_eq_some_iff.1 h1;obtain⟨g3,g4⟩:=List.getElem?_eq_some_iff.1 h2;rcases Nat.lt_trichotomy i j with hij|hij|hij
 ·exact absurd (g2.trans g4.symm) (List.pairwise_iff_getElem.1 h i j g1 g3 hij)
 ·exact hij
 ·exact absurd (g4.trans g2.symm) (List.pairwise_iff_getElem.1 h j i g3 g1 hij)
theorem GR.had {G L:List (List UInt8 × Int)}(h:GR G L)(n:List UInt8):hadG n L=(zxJ n G 0).map Prod.snd:=by
 cases hf:zxJ n G 0 with
 | none=>
  have h1:=zto hf
  unfold hadG
  split
  ·rename_i g hg
   rw[if_neg];rfl
   intro e
   exact h1 g ((h.mem g).2 (List.mem_of_getElem? hg)) (by simpa using e)
  ·rfl
 | some q=>
  obtain⟨k,v⟩:=q
  obtain⟨j,rfl,hj⟩:=ztn hf
  have h2:=(h.mem _).1 (List.mem_of_getElem? hj)
  unfold hadG
  rw[zzY,zoC h.sort h2 rfl]
  simp
theorem zps {α:Type}{l:List α}{k:Nat}{x y:α}:y∈l.set k x->y=x∨∃j,j≠k/\l[j]? = some y:=by
 intro h;obtain⟨j,hj⟩:=List.mem_iff_getElem?.1 h;by_cases e:j=k
 ·subst e;have hl:j<l.length:=by have:=(List.getElem?_eq_some_iff.1 hj).1;simpa using this
  rw[List.getElem?_set_self hl]at hj;exact .inl (Option.some.inj hj).symm
 ·rw[List.getElem?_set_ne (Ne.symm e)]at hj;exact .inr ⟨j,e,hj⟩
theorem zpE {α:Type}{l:List α}{j k:Nat}{x y:α}(h:l[j]? = some y)(e:j≠k):y∈l.set k x:=
 List.mem_iff_getElem?.2 ⟨j,by rw[List.getElem?_set_ne (Ne.symm e)];exact h⟩
theorem mem_set_self' {α:Type}{l:List α}{k:Nat}{x y:α}(h:l[k]? = some y):x∈l.set k x:=
 List.mem_iff_getElem?.2 ⟨k,by rw[List.getElem?_set_self (List.getElem?_eq_some_iff.1 h).1]⟩
theorem zzA {α:Type}{l:List α}{k:Nat}{x y:α}(h:l[k]? = some y):l.take k++x::l.drop (k+1)=l.set k x:=by
 rw[List.set_eq_take_append_cons_drop,if_pos (List.getElem?_eq_some_iff.1 h).1]
theorem zvZ {α:Type}{f:α->List UInt8}{l:List α}{k:Nat}{x y:α}(hx:l[k]? = some x)(e:f y=f x):(l.set k y).map f=l.map f:=by
 rw[List.map_set,e];apply List.ext_getElem?;intro i;rw[List.getElem?_set];split
 ·rename_i hi;subst hi;split
  ·rw[List.getElem?_map,hx];rfl
  ·rename_i hk;have:=(List.getElem?_eq_some_iff.1 hx).1;simp at hk;omega
 ·rfl
theorem GR.put {G L:List (List UInt8 × Int)}(h:GR G L)(n:List UInt8)(v:Int):GR (putA n v G) (L.take (lessG n L)++(n,v)::L.drop (lessG n L+if (hadG n L).isSome then 1 else 0)):=by
 have hh:=h.had n;unfold putA;cases hf:zxJ n G 0 with
 | none=>
  have h1:=zto hf
  have hL:∀a∈L,a.1≠n:=fun a ha=>h1 a ((h.mem a).2 ha)
  rw[hf]at hh
  rw[hh]
  simp only[Option.map_none,Option.isSome_none,Bool.false_eq_true,if_false,Nat.add_zero]
  refine⟨?_,?_,?_,fun a=>?_⟩
  ·have:=List.take_append_drop (lessG n L) L
   have h3:=congrArg List.length this
   have h4:=h.len
   simp only[List.length_append,List.length_cons,List.length_nil]at h3 ⊢;omega
  ·rw[zzY];exact zwc (f:=Prod.fst) (x:=(n,v)) rfl h.sort hL
  ·rw[List.map_append,List.nodup_append]
   refine⟨h.nod,by simp,?_⟩
   intro a ha b hb
   simp at hb;subst hb
   obtain⟨c,hc,rfl⟩:=List.mem_map.1 ha
   exact h1 c hc
  ·have:=List.take_append_drop (lessG n L) L
   rw[List.mem_append,h.mem]
   constructor
   ·rintro(ha|ha)
    ·rw[← this]at ha
     rcases List.mem_append.1 ha with ha|ha<;>simp[ha]
    ·simp at ha;subst ha;simp
   ·intro ha
    rcases List.mem_append.1 ha with ha|ha
    ·exact .inl (List.mem_of_mem_take ha)
    ·rcases List.mem_cons.1 ha with rfl|ha
     ·simp
     ·exact .inl (List.mem_of_mem_drop ha)
 | some q=>
  obtain⟨k,w⟩:=q
  obtain⟨j,rfl,hj⟩:=ztn hf
  have hm:=(h.mem _).1 (List.mem_of_getElem? hj)
  have hL:=zoC h.sort hm rfl
  rw[hf]at hh
  rw[hh]
  simp only[Option.map_some,Option.isSome_some,if_true,Nat.zero_add]
  rw[zzY]
  simp only at hL
  rw[zzA hL]
  refine⟨by simp[h.len],sortK_set h.sort hL rfl,by rw[zvZ (f:=Prod.fst) (y:=(n,v)) hj rfl];exact h.nod,fun a=>?_⟩
  constructor
  ·intro ha
   rcases zps ha with rfl|⟨i,hi,hx⟩
   ·exact mem_set_self' hL
   ·have:=(h.mem a).1 (List.mem_of_getElem? hx)
    obtain⟨i2,hi2⟩:=List.mem_iff_getElem?.1 this
    refine zpE hi2 fun e=>hi ?_
    subst e
    rw[hL]at hi2;cases hi2
    exact zrS h.nod hx hj rfl
  ·intro ha
   rcases zps ha with rfl|⟨i,hi,hx⟩
   ·exact mem_set_self' hj
   ·have:=(h.mem a).2 (List.mem_of_getElem? hx)
    obtain⟨i2,hi2⟩:=List.mem_iff_getElem?.1 this
    refine zpE hi2 fun e=>hi ?_
    subst e
    rw[hj]at hi2;cases hi2
    exact zrS h.sort.nodup hx hL rfl
structure PTop where
 x:zer
 id:Nat
 g:Nat
 t:Nat
abbrev PTop.name (p:PTop):List UInt8:=p.x.name
def zAf (n:List UInt8):List PTop->Nat->Option (Nat × PTop)
 | [],_=>none
 | p::r,i=>if n=p.x.name then some (i,p)else zAf n r (i+1)
theorem zyG {n:List UInt8}:∀ {l:List PTop} {i k:Nat} {p:PTop},zAf n l i=some (k,p)->∃j,k=i+j/\l[j]? = some p/\p.x.name=n
 | [],_,_,_,h=>by simp[zAf]at h
 | g::r,i,k,v,h=>by
  simp only[zAf]at h;split at h
  ·rename_i e;cases h;exact⟨0,rfl,rfl,e.symm⟩
  ·obtain⟨j,h1,h2,h3⟩:=zyG h;exact⟨j+1,by omega,by simpa using h2,h3⟩
theorem ztm {n:List UInt8}:∀ {l:List PTop} {i:Nat},zAf n l i=none->∀p∈l,p.x.name≠n
 | [],_,_,g,hg=>by cases hg
 | a::r,i,h,g,hg=>by
  simp only[zAf]at h;split at h
  ·cases h
  ·rename_i e;rcases List.mem_cons.1 hg with rfl|hg
   ·exact fun e'=>e e'.symm
   ·exact ztm h g hg
structure TR (x y:zer):Prop where
 name:x.name=y.name
 base:x.base=y.base
 recs:x.recs=y.recs
 gr:GR x.groups y.groups
theorem TR.next {x y:zer}(h:TR x y):x.next=y.next:=by rw[zer.next,h.base,h.recs];rfl
structure Rel (X:List PTop) (T:List zer):Prop where
 len:X.length=T.length
 sort:zoU zer.name T
 nod:(X.map PTop.name).Nodup
 fw:∀p∈X,∃y∈T,TR p.x y
 bw:∀y∈T,∃p∈X,TR p.x y
theorem Rel.nil:Rel [] []:=⟨rfl,by simp[zoU],by simp,by simp,by simp⟩
theorem zAF {n:List UInt8}:∀ {l:List zer} {i k:Nat},atF n l i=some k->∃j y,k=i+j/\l[j]? = some y/\y.name=n
 | [],_,_,h=>by simp[atF]at h
 | x::r,i,k,h=>by
  simp only[atF]at h;split at h
  ·rename_i e;cases h;exact⟨0,x,rfl,rfl,by simpa using e⟩
  ·obtain⟨j,y,h1,h2,h3⟩:=zAF h;exact⟨j+1,y,by omega,by simpa using h2,h3⟩
theorem atF_none {n:List UInt8}:∀ {l:List zer} {i:Nat},atF n l i=none->∀y∈l,y.name≠n
 | [],_,_,g,hg=>by cases hg
 | a::r,i,h,g,hg=>by
  simp only[atF]at h;split at h
  ·cases h
  ·rename_i e;rcases List.mem_cons.1 hg with rfl|hg
   ·simpa using e
   ·exact atF_none h g hg
theorem Rel.no {X:List PTop}{T:List zer}(h:Rel X T){n:List UInt8}(hf:zAf n X 0=none):atF n T 0=none:=by
 cases ha:atF n T 0 with
 | none=>rfl
 | some k=>
  obtain⟨j,y,_,h2,h3⟩:=zAF ha
  obtain⟨p,hp,hr⟩:=h.bw y (List.mem_of_getElem? h2)
  exact absurd (hr.name.trans h3) (ztm hf p hp)
theorem Rel.yes {X:List PTop}{T:List zer}(h:Rel X T){n:List UInt8}{i:Nat}{p:PTop}(hf:zAf n X 0=some (i,p)):X[i]? = some p/\p.x.name=n/\∃k y,atF n T 0=some k/\T[k]? = some y/\TR p.x y:=by
 obtain⟨j,e,h1,h2⟩:=zyG hf;rw[Nat.zero_add]at e;subst e;refine⟨h1,h2,?_⟩;obtain⟨y,hy,hr⟩:=h.fw p (List.mem_of_getElem? h1);cases ha:atF n T 0 with
 | none=>exact absurd (hr.name.symm.trans h2) (atF_none ha y hy)
 | some k=>
  obtain⟨j,z,e,h3,h4⟩:=zAF ha
  rw[Nat.zero_add]at e;subst e
  have:z=y:=sortK_inj h.sort (List.mem_of_getElem? h3) hy (h4.trans (h2.symm.trans hr.name))
  subst this
  exact⟨k,z,rfl,h3,hr⟩
theorem Rel.set {X:List PTop}{T:List zer}(h:Rel X T){i k:Nat}{p p':PTop}{y y':zer}(hp:X[i]? = some p)(hy:T[k]? = some y)(hr:TR p.x y)(hr':TR p'.x y')(hn:p'.x.name=p.x.name):Rel (X.set i p') (T.set k y'):=by
 have hn':y'.name=y.name:=hr'.name.symm.trans (hn.trans hr.name);refine⟨by simp[h.len],sortK_set h.sort hy hn',by rw[zvZ hp hn];exact h.nod,fun q hq=>?_,fun z hz=>?_⟩
 ·rcases zps hq with rfl|⟨j,hj,hx⟩
  ·exact⟨y',mem_set_self' hy,hr'⟩
  ·obtain⟨z,hz,hrz⟩:=h.fw q (List.mem_of_getElem? hx);obtain⟨j2,hj2⟩:=List.mem_iff_getElem?.1 hz;refine⟨z,zpE hj2 fun e=>hj ?_,hrz⟩;subst e;rw[hy]at hj2;cases hj2;exact zrS h.nod hx hp (hrz.name.trans hr.name.symm)
 ·rcases zps hz with rfl|⟨j,hj,hx⟩
  ·exact⟨p',mem_set_self' hp,hr'⟩
  ·obtain⟨q,hq,hrq⟩:=h.bw z (List.mem_of_getElem? hx);obtain⟨j2,hj2⟩:=List.mem_iff_getElem?.1 hq;refine⟨q,zpE hj2 fun e=>hj ?_,hrq⟩;subst e;rw[hp]at hj2;cases hj2;exact zrS h.sort.nodup hx hy (hrq.name.symm.trans hr.name)
theorem Rel.add {X:List PTop}{T:List zer}(h:Rel X T){n:List UInt8}(hf:zAf n X 0=none){p:PTop}{y:zer}(hr:TR p.x y)(hn:y.name=n):Rel (X++[p]) (T.take (lessN n T)++y::T.drop (lessN n T)):=by
 have h1:=ztm hf;have hT:∀a∈T,a.name≠n:=fun a ha e=>by
  obtain⟨q,hq,hrq⟩:=h.bw a ha;exact h1 q hq (hrq.name.trans e)
 have htd:=List.take_append_drop (lessN n T) T;refine⟨?_,?_,?_,fun q hq=>?_,fun z hz=>?_⟩
 ·have h3:=congrArg List.length htd;have h4:=h.len;simp only[List.length_append,List.length_cons,List.length_nil]at h3 ⊢;omega
 ·rw[lessN_K];exact zwc hn h.sort hT
 ·rw[List.map_append,List.nodup_append];refine⟨h.nod,by simp,?_⟩;intro a ha b hb;simp at hb;subst hb;obtain⟨c,hc,rfl⟩:=List.mem_map.1 ha;have:p.x.name=n:=hr.name.trans hn;intro e;exact h1 c hc (e.trans this)
 ·rcases List.mem_append.1 hq with hq|hq
  ·obtain⟨z,hz,hrz⟩:=h.fw q hq;rw[← htd]at hz;refine⟨z,?_,hrz⟩;rcases List.mem_append.1 hz with hz|hz<;>simp[hz]
  ·simp at hq;subst hq;exact⟨y,by simp,hr⟩
 ·rcases List.mem_append.1 hz with hz|hz
  ·obtain⟨q,hq,hrq⟩:=h.bw z (List.mem_of_mem_take hz);exact⟨q,by simp[hq],hrq⟩
  ·rcases List.mem_cons.1 hz with rfl|hz
   ·exact⟨p,by simp,hr⟩
   ·obtain⟨q,hq,hrq⟩:=h.bw z (List.mem_of_mem_drop hz);exact⟨q,by simp[hq],hrq⟩
theorem nodup_le:∀ {l m:List Nat},l.Nodup->(∀x∈l,x∈m)->l.length<=m.length
 | [],m,_,_=>by simp
 | a::r,m,hn,hs=>by
  have ha:=hs a List.mem_cons_self;obtain⟨h1,h2⟩:=List.nodup_cons.1 hn;have:=nodup_le (l:=r) (m:=m.erase a) h2 fun x hx=>(List.mem_erase_of_ne (a:=x) (b:=a) (fun e=>h1 (by rw[← e];exact hx))).2 (hs x (List.mem_cons_of_mem _ hx));rw[List.length_erase_of_mem ha]at this;have:=List.length_pos_of_mem ha;simp only[List.length_cons];omega
def zlJ {α:Type} (bs:List Nat) (names:List α) (seen:List Nat) (ys:List α):Prop:=
 seen.length=ys.length/\∀(j:Nat) (b:Nat) (y:α),seen[j]? = some b->ys[j]? = some y->∃i:Nat,bs[i]? = some b/\names[i]? = some y
theorem zlJ.nil {α:Type}{bs:List Nat}{names:List α}:zlJ bs names [] []:=⟨rfl,by simp⟩
theorem zlJ.snoc {α:Type}{bs:List Nat}{names:List α}{seen:List Nat}{ys:List α}(h:zlJ bs names seen ys){i b:Nat}{y:α}(h1:bs[i]? = some b)(h2:names[i]? = some y):zlJ bs names (seen++[b]) (ys++[y]):=by
 refine⟨by simp[h.1],fun j c z hc hz=>?_⟩;rw[List.getElem?_append]at hc hz;split at hc
 ·rename_i hj;rw[if_pos (by rw[← h.1];exact hj)]at hz;exact h.2 j c z hc hz
 ·rename_i hj;rw[if_neg (by rw[← h.1];exact hj)]at hz;have e1:=(List.getElem?_eq_some_iff.1 hc).1;simp only[List.length_cons,List.length_nil]at e1;rw[h.1]at hc hj e1;have e:j-ys.length=0:=by omega
  rw[e]at hc hz;simp at hc hz;subst hc;subst hz;exact⟨i,h1,h2⟩
theorem zlJ.sub {α:Type}{bs:List Nat}{names:List α}{seen:List Nat}{ys:List α}(h:zlJ bs names seen ys):∀b∈seen,b∈bs:=by
 intro b hb;obtain⟨j,hj⟩:=List.mem_iff_getElem?.1 hb;have hl:=(List.getElem?_eq_some_iff.1 hj).1;rw[h.1]at hl;obtain⟨i,h1,_⟩:=h.2 j b _ hj (List.getElem?_eq_getElem hl);exact List.mem_of_getElem? h1
theorem zlJ.lt {α:Type}{bs:List Nat}{names:List α}{seen:List Nat}{ys:List α}(h:zlJ bs names seen ys)(hn:seen.Nodup)(hl:bs.length=names.length){b:Nat}(h1:b∈bs)(h2:b∉seen):ys.length<names.length:=by
 have:=nodup_le (l:=b::seen) (m:=bs) (List.nodup_cons.2 ⟨h2,hn⟩) fun x hx=>by
  rcases List.mem_cons.1 hx with rfl|hx
  ·exact h1
  ·exact h.sub x hx
 simp only[List.length_cons]at this;rw[← hl,← h.1];omega
theorem nodup_get {l:List Nat}(h:l.Nodup){i j x:Nat}(hi:l[i]? = some x)(hj:l[j]? = some x):i=j:=by
 obtain⟨a,b⟩:=List.getElem?_eq_some_iff.1 hi;obtain⟨c,d⟩:=List.getElem?_eq_some_iff.1 hj;rcases Nat.lt_trichotomy i j with hij|hij|hij
 ·exact absurd (b.trans d.symm) (List.pairwise_iff_getElem.1 h i j a c hij)
 ·exact hij
 ·exact absurd (d.trans b.symm) (List.pairwise_iff_getElem.1 h j i c a hij)
theorem zvu {α:Type}:∀ {l:List Nat} {m:List α},l.Nodup->(l.zip m).Nodup
 | [],_,_=>by simp
 | _::_,[],_=>by simp
 | a::l,b::m,h=>by
  obtain⟨h1,h2⟩:=List.nodup_cons.1 h;rw[List.zip_cons_cons,List.nodup_cons];exact⟨fun hm=>h1 (List.of_mem_zip hm).1,zvu h2⟩
theorem zlJ.perm {α:Type}{bs:List Nat}{names:List α}{seen:List Nat}{ys:List α}(h:zlJ bs names seen ys)(hn:seen.Nodup)(hb:bs.Nodup)(hl:bs.length=names.length)(ha:∀b∈bs,b∈seen):ys.Perm names:=by
 have key:∀(i:Nat) b y,bs[i]? = some b->names[i]? = some y->(b,y)∈bs.zip names:=fun i b y h1 h2=>List.mem_iff_getElem?.2 ⟨i,List.getElem?_zip_eq_some.2 ⟨h1,h2⟩⟩;have hp:(seen.zip ys).Perm (bs.zip names):=by
  refine(List.perm_ext_iff_of_nodup (zvu hn) (zvu hb)).2 fun p=>?_;obtain⟨b,y⟩:=p;constructor
  ·intro hm;obtain⟨j,hj⟩:=List.mem_iff_getElem?.1 hm;obtain⟨h1,h2⟩:=List.getElem?_zip_eq_some.1 hj;obtain⟨i,h3,h4⟩:=h.2 j b y h1 h2;exact key i b y h3 h4
  ·intro hm;obtain⟨j,hj⟩:=List.mem_iff_getElem?.1 hm;obtain⟨h1,h2⟩:=List.getElem?_zip_eq_some.1 hj;obtain⟨k,hk⟩:=List.mem_iff_getElem?.1 (ha b (List.mem_of_getElem? h1));have hkl:=(List.getElem?_eq_some_iff.1 hk).1;rw[h.1]at hkl;obtain⟨i,h3,h4⟩:=h.2 k b _ hk (List.getElem?_eq_getElem hkl);have:=nodup_get hb h1 h3;subst this;rw[h2]at h4;refine List.mem_iff_getElem?.2 ⟨k,List.getElem?_zip_eq_some.2 ⟨hk,?_⟩⟩;rw[List.getElem?_eq_getElem hkl,h4]
 have:=hp.map Prod.snd;rwa [List.map_snd_zip (by rw[h.1];exact Nat.le_refl _),List.map_snd_zip (by rw[hl];exact Nat.le_refl _)]at this
end Go.AW

/- Contracts: publishers made, and not made. -/
set_option maxRecDepth 100000
namespace Go.Proofs.YtdgcepphjnoalaaGreat
open Go.AW
variable {σ:List AObj} {K:KT}
abbrev zna (f cl:Int) (t l:Nat) (time:Int) (w:List zr) (sy:AV) (ticks:Int) (la:List (List D)) (many:Int):List AV:=
 [.d (.bool true),.d (.int .i64 f),.d (.int .i64 cl),.box t 0,.box l 0,.d (.int .i64 time),.d (.slice (zbz w)),sy,.d (.int .i64 ticks),.d (.slice la),.d (.int .i64 many)]
theorem ztq {σ S:List AObj}{l:List AV}(h:S.take σ.length=σ)(h1:Low σ.length (dmT (zcm l)))(hl:zhp σ.length σ)(hK:K (dmT (zcm l)) σ):AW.Ends σ.length K (some l) S:=by
 unfold AW.Ends;rw[h];exact⟨h1,hl,hK⟩
section
variable {σ:List AObj} {K:KT}
theorem c_pNew {i:TGi}{f cl:Int}{L:List (List UInt8)}{G:List zI}(h:TG i σ L G)(hL:zmI L)(hg:G.length<=1073741824)(hf:zhj f=0)(h0:0<=cl)(h8:cl<8)
  (hK:∀S q,σ.length<=q->S[q]? = some (.box (zna f cl i.id i.id2 0 [] (.d .nilmap) 0 [] 0))->(∀(j:Nat) (x:AObj),σ[j]? = some x->S[j]? = some x)->K (.tup [.box q 0,.d (.int .i64 0)]) S) :
  zP zfL [.d (.int .i64 f),.d (.int .i64 cl),.box i.id 0,.box i.id2 0] σ K:=by
 refine ACall.weaken ?_;refine zeS zkK.is rfl fun hl _=>zkK.goes ?_;simp only[zkT,iN,bT,bF,eN];have d1:decide (cl<0)=false:=by simp;omega
 have d2:decide (cl≥8)=false:=by simp;omega
 refine zG ?_;refine zvm h.tab hL.nd hL.len hL.each ?_;refine zG ?_;refine zAC (h.led.app _) hg fun g'=>?_;refine zG ?_;refine zwR ?_;rw[hf];refine zm (zd d1 (zd d2 (show((0:Int) != 0)=false from rfl))) ?_;obtain⟨R,hR⟩:∃R,σ++[AObj.map (tabM L),AObj.box [AV.own (σ.length+2) (zvF L),AV.map σ.length],AObj.tok 1 L.length,AObj.map (zxD g'),AObj.box [AV.own (σ.length+5) (ztW g'),AV.map (σ.length+3)],AObj.tok 2 g'.length]=R:=⟨_,rfl⟩;have hRl:R.length=σ.length+6:=by rw[← hR];simp
 have hRp:∀(j:Nat) (x:AObj),σ[j]? = some x->∀τ,(R++τ)[j]? = some x:=fun j x hx τ=>zi (by rw[← hR];exact zi hx);rw[show ∀X:AObj,σ++[AObj.map (tabM L),AObj.box [AV.own (σ.length+2) (zvF L),AV.map σ.length],AObj.tok 1 L.length,AObj.map (zxD g'),AObj.box [AV.own (σ.length+5) (ztW g'),AV.map (σ.length+3)],AObj.tok 2 g'.length,X]=R++[X]from fun X=>by rw[← hR];simp,← hRl];refine zli ⟨.tup [.box R.length 0,.d (.int .i64 0)],R++[.box (zna f cl i.id i.id2 0 [] (.d .nilmap) 0 [] 0)],?_,hK _ R.length (by omega) (by rw[zB];rfl) fun j x hx=>hRp j x hx _⟩;refine .dataB R.length 6 _ (.exact []) [] (by rw[zB];rfl) rfl rfl ?_;rw[zab];refine .dataB R.length 9 _ (.exact []) [] (by rw[zB];rfl) rfl rfl ?_;rw[zab];exact .refl _ _
abbrev zde (l:List (Int × Int × Int)):List (AV × AV):=l.map fun e=>(.d (.int .i64 e.1),.agg [.d (.int .i64 e.2.1),.d (.int .i64 e.2.2)])
theorem zff {f cl:Int}{q t l:Nat}{time:Int}{w:List zr}{sy:AV}{ticks:Int}{la:List (List D)}{many:Int}(h:σ[q]? = some (.box (zna f cl t l time w sy ticks la many)))(hK:K (.d (.bool false)) σ):zP zV [.box q 0] σ K:=by
 refine zeA zlj fun hl=>?_;simp only[zgp,iN,bT,bF,eN];refine zm h ?_;refine zu hl ?_;exact hK
theorem says_get {l:List (Int × Int × Int)}{i:Nat}{e:AV × AV}(h:(zde l)[i]? = some e):∃x,l[i]? = some x/\e=(.d (.int .i64 x.1),.agg [.d (.int .i64 x.2.1),.d (.int .i64 x.2.2)]):=by
 simp only[zde,List.getElem?_map]at h;obtain⟨x,h1,h2⟩:=Option.map_eq_some_iff.1 h;exact⟨x,h1,h2.symm⟩
def zqh (l:List (Int × Int × Int)) (a b:Int):Nat:=l.countP fun e=>(a==e.2.1)&&(b==e.2.2)
theorem zvo {f cl:Int}{q t l n:Nat}{time:Int}{w:List zr}{ticks:Int}{la:List (List D)}{many a b:Int}{sy:List (Int × Int × Int)}(h:σ[q]? = some (.box (zna f cl t l time w (.map n) ticks la many)))(hn:σ[n]? = some (.map (zde sy)))(hb:sy.length<=1000000)
  (hK:K (.d (.int .i64 (zqh sy a b))) σ):zP zbF [.box q 0,.agg [.d (.int .i64 a),.d (.int .i64 b)]] σ K:=by
 refine zeq zfR fun hl=>?_;have hq:∀τ,(σ++τ)[q]? = some (.box (zna f cl t l time w (.map n) ticks la many)):=fun τ=>zi h;have hn':∀τ,(σ++τ)[n]? = some (.map (zde sy)):=fun τ=>zi hn;have hnl:=zaa hn;have hlen:(zde sy).length=sy.length:=List.length_map ..;simp only[zdP,iN,bT,bF,eN];refine zG ?_;refine zff (hq _) ?_;refine zm hq ?_;simp only[zko,hn'];intro c bs hbl hbn;rw[hlen]at hbl;obtain⟨X,hX⟩:∃X,AObj.box [.d (.int .i64 a),.d (.int .i64 b)]=X:=⟨_,rfl⟩;rw[hX];refine zn sy.length (fun k vs S=>∃seen ys T,vs=[.d (.int .i64 (zqh ys a b))]/\seen.length=k/\zlJ bs sy seen ys/\seen.Nodup/\S=(σ.set n (.mapr c bs (zde sy))++X::.mit (some n) c seen::T)) ⟨[],[],[],rfl,rfl,.nil,.nil,by rw[List.set_append_left _ _ hnl];simp⟩ ?_;rintro k vs S hk ⟨seen,ys,T,rfl,rfl,hS,hsn,rfl⟩;obtain⟨ρ,hρ⟩:∃ρ,σ.set n (.mapr c bs (zde sy))=ρ:=⟨_,rfl⟩;have hρl:ρ.length=σ.length:=by rw[← hρ];simp
 have r1:∀τ,(ρ++τ)[n]? = some (.mapr c bs (zde sy)):=fun τ=>zi (by rw[← hρ];exact List.getElem?_set_self hnl);have r2:∀Y τ,(ρ++X::Y::τ)[σ.length+1]? = some Y:=fun Y τ=>by rw[← hρl,zA];rfl
 have r3:∀Y τ,(ρ++X::Y::τ)[σ.length]? = some X:=fun Y τ=>by rw[← hρl,zB];rfl
 have el:(σ++[X]).length=σ.length+1:=by simp
 rw[hρ];simp only[el,zot,r1,r2,zJ];refine⟨trivial,fun hall=>?_,fun j b1 e hb1 he hnb=>?_⟩
 ·have hp:=hS.perm hsn hbn hbl hall;have hc:zqh ys a b=zqh sy a b:=hp.countP_eq _;rw[hc];refine zG ?_;refine ztq ?_ (by simp[zhe,dmT,dm,dm1,zcm]) hl hK;rw[List.set_append_left _ _ (by omega),List.take_append_of_le_length (by simp;omega),← hρ,List.set_set,zbR hn,List.take_length]
 ·obtain⟨⟨key,x1,x2⟩,hx,rfl⟩:=says_get he;have hlt:seen.length<sy.length:=by
   have:=hS.lt hsn hbl (List.mem_of_getElem? hb1) hnb;rw[hS.1];exact this
  have hs2:(ρ++X::AObj.mit (some n) c seen::T).set (σ.length+1) (AObj.mit (some n) c (seen++[b1]))=ρ++X::AObj.mit (some n) c (seen++[b1])::T:=by
   rw[← hρl,zY];rfl
  have hS2:=hS.snoc hb1 hx;have hsn2:(seen++[b1]).Nodup:=by
   rw[List.nodup_append];exact⟨hsn,by simp,fun x hx y hy=>by simp at hy;subst hy;exact fun e=>hnb (e▸hx)⟩
  have hyl:ys.length<=1000000:=by have:=hS.1;omega
  have hcn:zqh ys a b<=ys.length:=List.countP_le_length;have hst:zqh (ys++[(key,x1,x2)]) a b=zqh ys a b+if ((a==x1)&&(b==x2))=true then 1 else 0:=by
   simp only[zqh,List.countP_append,List.countP_singleton]
  refine zG ?_;rw[hs2];simp only[znm,r1,r2];refine⟨trivial,j,b1,_,by simp,hb1,he,?_⟩;have r3':∀τ,(ρ++X::AObj.mit (some n) c (seen++[b1])::τ)[σ.length]? = some (.box [.d (.int .i64 a),.d (.int .i64 b)]):=fun τ=>by rw[hX];exact r3 _ _
  have hxy:zch [AV.d (.int .i64 a),AV.d (.int .i64 b)] [AV.d (.int .i64 x1),AV.d (.int .i64 x2)]=some ((a==x1)&&(b==x2)):=by simp[zch]
  cases hq2:((a==x1)&&(b==x2))
  ·rw[hq2]at hxy hst;refine zm (zd r3' hxy) ?_;refine zaK.next hlt ⟨seen++[b1],ys++[(key,x1,x2)],_,by rw[hst];simp,by simp,hS2,hsn2,rfl⟩
  ·rw[hq2]at hxy hst;refine zm (zd r3' (zd hxy (wk1 (zqh ys a b) (by omega)))) ?_;exact zaK.next hlt ⟨seen++[b1],ys++[(key,x1,x2)],_,by rw[hst];simp,by simp,hS2,hsn2,rfl⟩
end
variable {σ:List AObj} {K:KT}
def fsay (k:Int):List (Int × Int × Int)->Nat->Option (Nat × (Int × Int))
 | [],_=>none
 | e::r,i=>if k=e.1 then some (i,e.2)else fsay k r (i+1)
theorem ztd (s:Int):∀(l:List (Int × Int × Int)) (i:Nat),zoA .int (.d (.int .i64 s)) (zde l) i=some ((fsay s l i).map fun q=>(q.1,.agg [.d (.int .i64 q.2.1),.d (.int .i64 q.2.2)]))
 | [],_=>rfl
 | e::r,i=>by
  simp only[zde,List.map_cons,zoA,ziz,if_true,fsay];by_cases h:s=e.1
  ·simp[h]
  ·have:(s==e.1)=false:=by simpa using h
   simp only[this,if_neg h];exact ztd s r (i+1)
def zht (l:List (Int × Int × Int)) (k a b:Int):List (Int × Int × Int):=match fsay k l 0 with
 | some q=>l.set q.1 (k,a,b)
 | none=>l++[(k,a,b)]
theorem says_set (l:List (Int × Int × Int))(i:Nat)(k a b:Int):(zde l).set i (.d (.int .i64 k),.agg [.d (.int .i64 a),.d (.int .i64 b)])=zde (l.set i (k,a,b)):=by
 simp only[zde,List.map_set]
theorem zzH (l:List (Int × Int × Int))(k a b:Int):zde l++[(.d (.int .i64 k),.agg [.d (.int .i64 a),.d (.int .i64 b)])]=zde (l++[(k,a,b)]):=by simp
theorem lowSays (n:Nat)(l:List (Int × Int × Int)):ztL n (.map (zde l)):=by
 intro e he;obtain⟨x,_,rfl⟩:=List.mem_map.1 he;refine⟨.d _,.agg _ fun c hc=>?_⟩;simp only[List.mem_cons,List.not_mem_nil,or_false]at hc;rcases hc with rfl|rfl<;>exact .d _
abbrev ansD (s:zr) (a b:Int):List D:=[.int .i64 s.client,.int .i64 s.time,.int .i64 s.op.kind,.str s.op.topic,.str s.op.group,.int .i64 s.op.offset,.slice (zdT s.op.recs),.int .i64 a,.int .i64 b]
theorem ends_take2 {n:Nat}{σ' S:List AObj}{l:List AV}(h:S.take n=σ')(h1:Low n (dmT (zcm l)))(hl:zhp n σ')(hK:K (dmT (zcm l)) σ'):AW.Ends n K (some l) S:=by
 unfold AW.Ends;rw[h];exact⟨h1,hl,hK⟩
section
variable {σ:List AObj} {K:KT}
theorem c_quSmall {f:Int}(hK:K (.d (.int .i64 (zgz 1 f))) σ):zP zmd [.d (.int .i64 f)] σ K:=by
 refine zeA zxU fun hl=>?_;simp only[zqF,iN,bT,bF,eN];refine zG ?_;refine c_times (by omega) ?_;refine zG ?_;refine zu hl ?_;exact hK
theorem c_pTake {f cl:Int}{q t l n:Nat}{time:Int}{s:zr}{ticks:Int}{la:List (List D)}{many:Int}{sy:List (Int × Int × Int)}{m:zbC}
  (h:σ[q]? = some (.box (zna f cl t l time [s] (.map n) ticks la many))) (hn:σ[n]? = some (.map (zde sy))) (hb:sy.length<=900000)
  (hv:∀τ (K:KT),K (.d (.bool true)) (σ++τ)->zP zhg [.box t 0,.box l 0,zgi m] (σ++τ) K)
  (hk:m.kind=5) (hcl:m.client=cl) (htm:m.time=time) (hf:1<=f/\f<=4) (hsr:m.src<3*f+1) (hmn:0<=many/\many<=1000000)
  (hK0:(zqh (zht sy m.src m.rerr m.roff) m.rerr m.roff:Int)<f+1->K (.d (.bool false)) (σ.set n (.map (zde (zht sy m.src m.rerr m.roff)))))
  (hK1:¬(zqh (zht sy m.src m.rerr m.roff) m.rerr m.roff:Int)<f+1->K (.d (.bool true)) ((σ.set n (.map (zde (zht sy m.src m.rerr m.roff)))).set q (.box (zna f cl t l time [] (.d .nilmap) ticks [ansD s m.rerr m.roff] (many+1))))) :
  zP zaH [.box q 0,zgi m] σ K:=by
 refine zjd zcJ.is rfl fun hl _=>zcJ.goes ?_;have hq:∀τ,(σ++τ)[q]? = some (.box (zna f cl t l time [s] (.map n) ticks la many)):=fun τ=>zi h;have hn':∀τ,(σ++τ)[n]? = some (.map (zde sy)):=fun τ=>zi hn;have hnl:=zaa hn;have hql:=zaa h;have hqn:q≠n:=fun e=>by rw[e,hn]at h;cases h
 have hmf:=ztd m.src sy 0;simp only[zcL,iN,bT,bF,eN,zl1];refine zG ?_;refine zff (hq _) ?_;refine zjB (zd hq (zd (show((1:Int)==0)=false from rfl) @List.length_cons)) ?_;refine hv _ _ ?_;have e1:(m.kind != 5)=false:=by rw[hk];rfl
 have e2:(m.client != cl)=false:=by rw[hcl];simp
 have e3:(m.time != time)=false:=by rw[htm];simp
 have e4:zgz 3 f=3*f+1:=by rw[zgz,if_neg (by omega)]
 have e5:zgz 1 f=f+1:=by rw[zgz,if_neg (by omega),Int.one_mul]
 have e6:decide (m.src≥3*f+1)=false:=by simp;omega
 refine zm (zd hq (zd e1 (zd e2 (zd e3 (show(false==false)=true from rfl))))) ?_;refine zwS ?_;rw[e4];obtain⟨sy2,hsy2⟩:∃s,zht sy m.src m.rerr m.roff=s:=⟨_,rfl⟩;rw[hsy2]at hK0 hK1;have hlen2:sy2.length<=1000000:=by
  rw[← hsy2];unfold zht;split<;>simp<;>omega
 obtain⟨X,hX⟩:∃X,AObj.box (msgL m)=X:=⟨_,rfl⟩;obtain⟨S,hS⟩:∃S,(σ++[X]).set n (.map (zde sy2))=S:=⟨_,rfl⟩;have hx0:∀τ,(σ++X::τ)[σ.length]? = some (.box (msgL m)):=fun τ=>by rw[hX,zB];rfl
 have s1:S[q]? = some (.box (zna f cl t l time [s] (.map n) ticks la many)):=by rw[← hS,List.getElem?_set_ne (Ne.symm hqn)];exact hq _
 have s2:S[n]? = some (.map (zde sy2)):=by rw[← hS];exact List.getElem?_set_self (by simp;omega)
 have s3:S[σ.length]? = some (.box (msgL m)):=by rw[← hS,List.getElem?_set_ne (by omega)];exact hx0 _
 rw[hX];have zs:∀Y,(S.set q Y)[q]? = some Y:=fun Y=>List.getElem?_set_self (zaa s1);have hmw:IntKind.i64.wrap (many+1)=many+1:=zaW (by omega) (by omega);have fin1:K (.d (.bool true)) ((σ.set n (.map (zde sy2))).set q (.box (zna f cl t l time [] (.d .nilmap) ticks [ansD s m.rerr m.roff] (many+1)))) →
   EndsW σ.length K (some [.d (.bool true)]) (S.set q (.box [.d (.bool true),.d (.int .i64 f),.d (.int .i64 cl),.box t 0,.box l 0,.d (.int .i64 time),.exact [],.d .nilmap,.d (.int .i64 ticks),.exact [ansD s m.rerr m.roff],.d (.int .i64 (many+1))])):=fun hK=>by
  refine⟨S.set q (.box (zna f cl t l time [] (.d .nilmap) ticks [ansD s m.rerr m.roff] (many+1))),?_,?_⟩
  ·refine .dataB q 6 _ (.exact []) [] (zs _) rfl rfl ?_;rw[List.set_set];refine .dataB q 9 _ (.exact [ansD s m.rerr m.roff]) [ansD s m.rerr m.roff] (zs _) rfl rfl ?_;rw[List.set_set];exact .refl _ _
  ·have hS':S=σ.set n (.map (zde sy2))++[X]:=by rw[← hS,List.set_append_left _ _ hnl]
   rw[hS',List.set_append_left _ _ (by simpa using hql)];refine ends_take2 (by rw[List.take_append_of_le_length (by simp),List.take_of_length_le (by simp)]) (by simp[zhe,dmT,dm,dm1,zcm]) ((hl.setO (lowSays _ _)).setO ?_) hK;intro c hc;have hb:=hl q _ h c;simp only[List.mem_cons,List.not_mem_nil,or_false]at hc;rcases hc with rfl|rfl|rfl|rfl|rfl|rfl|rfl|rfl|rfl|rfl|rfl;all_goals first
    | exact .d _
    | exact hb (by simp)
 unfold zht at hsy2;cases hfs:fsay m.src sy 0 with
 | none=>
  rw[hfs]at hmf hsy2
  simp only at hsy2
  refine gq26 (zd hq (zd e6 (zd hn' (zd hx0 (zd hmf (zd @zzH (zd hsy2 (zd hS (zd s1 (zd s2 s3)))))))))) ?_
  refine zvo s1 s2 hlen2 ?_
  refine zm (zd hq (zd hx0 (zd @zzH (zd hsy2 (zd hS (zd s1 (zd s2 s3))))))) ?_
  refine c_quSmall ?_
  rw[e5]
  cases hlt:decide ((zqh sy2 m.rerr m.roff:Int)<f+1)
  ·refine zdV (zd hlt (zd s1 (zd s3 (zd zs (zd @List.set_set (zd @List.length_cons hmw)))))) ?_
   exact fin1 (hK1 (by simpa using hlt))
  ·refine zm hlt ?_
   refine ziN ?_
   rw[← hS,List.set_append_left _ _ hnl]
   exact zeP (by simp[zhe,dmT,dm,dm1,zcm]) hl (lowSays _ _) (hK0 (by simpa using hlt))
 | some o=>
  rw[hfs]at hmf hsy2
  simp only at hsy2
  refine gq26 (zd hq (zd e6 (zd hn' (zd hx0 (zd hmf (zd @says_set (zd hsy2 (zd hS (zd s1 (zd s2 s3)))))))))) ?_
  refine zvo s1 s2 hlen2 ?_
  refine zm (zd hq (zd hx0 (zd @says_set (zd hsy2 (zd hS (zd s1 (zd s2 s3))))))) ?_
  refine c_quSmall ?_
  rw[e5]
  cases hlt:decide ((zqh sy2 m.rerr m.roff:Int)<f+1)
  ·refine zdV (zd hlt (zd s1 (zd s3 (zd zs (zd @List.set_set (zd @List.length_cons hmw)))))) ?_
   exact fin1 (hK1 (by simpa using hlt))
  ·refine zm hlt ?_
   refine ziN ?_
   rw[← hS,List.set_append_left _ _ hnl]
   exact zeP (by simp[zhe,dmT,dm,dm1,zcm]) hl (lowSays _ _) (hK0 (by simpa using hlt))
end
end Go.Proofs.YtdgcepphjnoalaaGreat

/- Bytes of requests and batches say where they end; who is in a ledger. No program in sight. -/
namespace Go.AW
def splitA:Nat->Nat->Nat->Nat
 | 0,k,_=>k
 | f+1,k,n=>if k<n-k then splitA f (k*2) n else k
def zcE (n:Nat):Nat:=if n<2 then 0 else splitA n 1 n
theorem splitA_lt:∀(f k n:Nat),1<=k->k<n→1<=splitA f k n/\splitA f k n<n
 | 0,k,n,h1,h2=>⟨h1,h2⟩
 | f+1,k,n,h1,h2=>by
  simp only[splitA];split
  ·exact splitA_lt f (k*2) n (by omega) (by omega)
  ·exact⟨h1,h2⟩
theorem splitF_lt {n:Nat}(h:2<=n):1<=zcE n/\zcE n<n:=by
 rw[zcE,if_neg (by omega)];exact splitA_lt n 1 n (by omega) (by omega)
def leafB (b:List UInt8):List UInt8:=0::b
def nodeB (l r:Int):List UInt8:=1::(zbv l.toNat++zbv r.toNat)
def zlX:Nat->List (List UInt8)->List (List UInt8)->Int × List (List UInt8)
 | _,L,[]=>(zhX L [2],zfZ L [2])
 | _,L,[x]=>(zhX L (leafB x),zfZ L (leafB x))
 | 0,L,_=>(0,L)
 | f+1,L,l=>
  let a:=zlX f L (l.take (zcE l.length))
  let b:=zlX f a.2 (l.drop (zcE l.length))
  (zhX b.2 (nodeB a.1 b.1),zfZ b.2 (nodeB a.1 b.1))
def rootF (L l:List (List UInt8)):Int × List (List UInt8):=zlX l.length L l
theorem zpt:∀(f g:Nat) (L l:List (List UInt8)),l.length<=f->l.length<=g->zlX f L l=zlX g L l
 | f,g,L,[],_,_=>by cases f<;>cases g<;>rfl
 | f,g,L,[x],_,_=>by cases f<;>cases g<;>rfl
 | 0,_,L,x::y::r,h,_=>by simp at h
 | _,0,L,x::y::r,_,h=>by simp at h
 | f+1,g+1,L,x::y::r,h1,h2=>by
  have hs:=splitF_lt (n:=(x::y::r).length) (by simp);have e:=zpt f g L ((x::y::r).take (zcE (x::y::r).length)) (by rw[List.length_take];omega) (by rw[List.length_take];omega);simp only[zlX,e];rw[zpt f g (zlX g L ((x::y::r).take (zcE (x::y::r).length))).2 ((x::y::r).drop (zcE (x::y::r).length)) (by rw[List.length_drop];omega) (by rw[List.length_drop];omega)]
theorem rootF_2 {L l:List (List UInt8)}(h:2<=l.length):rootF L l=(zhX (rootF (rootF L (l.take (zcE l.length))).2 (l.drop (zcE l.length))).2 (nodeB (rootF L (l.take (zcE l.length))).1 (rootF (rootF L (l.take (zcE l.length))).2 (l.drop (zcE l.length))).1),
  zfZ (rootF (rootF L (l.take (zcE l.length))).2 (l.drop (zcE l.length))).2 (nodeB (rootF L (l.take (zcE l.length))).1 (rootF (rootF L (l.take (zcE l.length))).2 (l.drop (zcE l.length))).1)):=by
 have hs:=splitF_lt h;have h1:(l.take (zcE l.length)).length=zcE l.length:=by rw[List.length_take];omega
 have h2:(l.drop (zcE l.length)).length=l.length-zcE l.length:=List.length_drop;obtain⟨m,hm⟩:∃m,l.length=m+1:=⟨l.length-1,by omega⟩;have e:∀l:List (List UInt8),2<=l.length->∀m,zlX (m+1) L l=(zhX (zlX m (zlX m L (l.take (zcE l.length))).2 (l.drop (zcE l.length))).2 (nodeB (zlX m L (l.take (zcE l.length))).1 (zlX m (zlX m L (l.take (zcE l.length))).2 (l.drop (zcE l.length))).1),zfZ (zlX m (zlX m L (l.take (zcE l.length))).2 (l.drop (zcE l.length))).2 (nodeB (zlX m L (l.take (zcE l.length))).1 (zlX m (zlX m L (l.take (zcE l.length))).2 (l.drop (zcE l.length))).1)):=by
  intro l hl m;match l,hl with
  | x::y::r,_=>simp only[zlX]
 have f1:=zpt m (l.take (zcE l.length)).length L (l.take (zcE l.length)) (by omega) (Nat.le_refl _);have f2:=fun L'=>zpt m (l.drop (zcE l.length)).length L' (l.drop (zcE l.length)) (by omega) (Nat.le_refl _);have f0:zlX l.length L l=zlX (m+1) L l:=by rw[hm]
 unfold rootF;rw[f0,e l h m,f1,f2]
theorem rootF_0 (L:List (List UInt8)):rootF L []=(zhX L [2],zfZ L [2]):=rfl
theorem rootF_1 (L:List (List UInt8))(x:List UInt8):rootF L [x]=(zhX L (leafB x),zfZ L (leafB x)):=rfl
end Go.AW

/- Contracts: where a list is parted, how long a proof is, leaves and nodes, on both sides. -/
set_option maxRecDepth 100000
namespace Go.Proofs.YtdgcepphjnoalaaGreat
open Go.AW
structure smallPl (p:znA):Prop where
 off:zqn p.offset
 topic:p.topic.length<=16777216
 rec_:p.rec_.length<=16777216
end Go.Proofs.YtdgcepphjnoalaaGreat

/- The proof of a record in blocks. No program in sight. -/
namespace Go.AW
structure znJ where
 header:zsK
 batch:List zr
 placed:List znA
end Go.AW

/- Contracts: the proof of a record: where it stands, which headers lead to the certificate; on both sides. -/
set_option maxRecDepth 100000
namespace Go.Proofs.YtdgcepphjnoalaaGreat
open Go.AW
structure smallBk (b:znJ):Prop where
 seq:zqn b.header.seq
 len:b.placed.length<=1048576
 each:∀p∈b.placed,smallPl p
end Go.Proofs.YtdgcepphjnoalaaGreat

/- Checkpoints' certificates: which are valid. No program in sight. -/
namespace Go.AW
end Go.AW

/- Contracts: checkpoints' certificates, on both sides. -/
set_option maxRecDepth 100000
namespace Go.Proofs.YtdgcepphjnoalaaGreat
open Go.AW
variable {σ:List AObj} {K:KT}
def lastC:List (Int × Int × Int)->List AV
 | []=>[]
 | a::r=>.d (.int .i64 a.1)::.d (.int .i64 a.2.1)::.d (.int .i64 a.2.2)::lastC r
structure TopsAt (σ:List AObj) (id t g:Nat) (T:ztJ):Prop where
 box:σ[id]? = some (.box (.rsl t g 4 0 T.l.length::lastC T.last))
 row:σ[t]? = some (.row g 4 (zcF (topsE T.l)))
 last:T.last.length=8
structure Stays (σ S:List AObj) (id:Nat):Prop where
 len:σ.length<=S.length
 get:∀(j:Nat) (x:AObj),σ[j]? = some x->j≠id->(∀g sz cs,x≠.row g sz cs)->S[j]? = some x
theorem Stays.app (σ τ:List AObj)(id:Nat):Stays σ (σ++τ) id:=⟨by simp,fun _ _ h _ _=>zi h⟩
theorem Stays.trans {σ S R:List AObj}{id:Nat}(h:Stays σ S id)(h':Stays S R id):Stays σ R id:=⟨Nat.le_trans h.len h'.len,fun j x hx hj hr=>h'.get j x (h.get j x hx hj hr) hj hr⟩
theorem TopsAt.app {id t g:Nat}{T:ztJ}(h:TopsAt σ id t g T)(τ:List AObj):TopsAt (σ++τ) id t g T:=⟨zi h.box,zi h.row,h.last⟩
abbrev zeroH:zsK:=⟨0,0,0,0,0⟩
def genF (L:List (List UInt8)):zsK × Int × List (List UInt8):=
 let r:=rootF L []
 let L2:=zfZ r.2 (topsB ztU)
 if r.1=0∨zhX r.2 (topsB ztU)=0 then(zeroH,6,L2)else(⟨0,0,0,r.1,zhX r.2 (topsB ztU)⟩,0,L2)
variable {σ:List AObj} {K:KT}
structure ExecR where
 e:Int
 h:zsK
 p:List znA
 L:List (List UInt8)
 T:ztJ
structure Stays2 (σ S:List AObj) (id tid:Nat):Prop where
 len:σ.length<=S.length
 get:∀(j:Nat) (x:AObj),σ[j]? = some x->j≠id->j≠tid->(∀g sz cs,x≠.row g sz cs)->S[j]? = some x
theorem Stays2.app {id tid:Nat}(X:AObj)(τ:List AObj):Stays2 σ (σ.set id X++τ) id tid:=
 ⟨by simp,fun j x hx h1 h2 h3=>zi ((List.getElem?_set_ne (Ne.symm h1)).trans hx)⟩
structure ExJ (σ:List AObj) (n tid:Nat) (H P:AObj) (A:List znA × ztJ) (N:List (List D)) (S:List AObj) (t g:Nat):Prop where
 top:TopsAt S tid t g A.2
 hb:S[n]? = some H
 zb:S[n+1]? = some (.box [.d (.int .i64 0),.d (.int .i64 0),.d (.int .i64 0),.d (.int .i64 0),.d (.int .i64 0)])
 pb:S[n+2]? = some P
 m:S[n+3]? = some (.tok 3 A.1.length)
 k:S[n+4]? = some (.tok 5 N.length)
 rest:∀(j:Nat) (x:AObj),σ[j]? = some x->j≠tid->(∀g sz cs,x≠.row g sz cs)->S[j]? = some x
end Go.Proofs.YtdgcepphjnoalaaGreat

/- What holds little has short lists. No program in sight. -/
namespace Go.AW
theorem zfp {α:Type}{f:α->List D}(h:∀a,1<=zcR (f a)):∀(l:List α),l.length<=zdu (l.map f)
 | []=>Nat.zero_le _
 | a::l=>by have:=h a;have:=zfp h l;simp only[List.map_cons,List.length_cons,zdu];omega
theorem zhk {α:Type}{f:α->List D}{a:α}:∀ {l:List α},a∈l->zcR (f a)<=zdu (l.map f)
 | b::l,h=>by
  simp only[List.map_cons,zdu];rcases List.mem_cons.1 h with rfl|h
  ·omega
  ·have:=zhk (f:=f) h;omega
theorem zqt (rs:List (List UInt8)):rs.length<=zdu (zdT rs)/\∀r∈rs,r.length<=zdu (zdT rs):=by
 refine⟨zfp (f:=fun r=>[D.slice (bcs r)]) (fun r=>by simp only[zcR,zfW];omega) rs,fun r hr=>?_⟩;have:=zhk (f:=fun r=>[D.slice (bcs r)]) hr;simp only[zcR,zfW,zvq]at this;unfold zdT;omega
def leB (n:Nat) (b:List zr):Prop:=b.length<=n/\∀x∈b,x.op.recs.length<=n/\∀r∈x.op.recs,r.length<=n
theorem leB_bulk {b:List zr}{n:Nat}(h:zdu (zbz b)<=n):leB n b:=by
 unfold zbz at h;refine⟨Nat.le_trans (zfp (f:=zaD) (fun a=>by simp only[zaD,zcR,zfW];omega) b) h,fun x hx=>?_⟩;have:=zhk (f:=zaD) hx;simp only[zaD,zcR,zfW]at this;have h2:=zqt x.op.recs;refine⟨by omega,fun r hr=>?_⟩;have:=h2.2 r hr;omega
theorem signs_bulk (l:List zI):l.length<=zdu (zat l):=zfp (f:=zgX) (fun a=>by simp only[zgX,zcR,zfW];omega) l
theorem zpm {q:PQ}{n:Nat}{o:Option zr}(h:q[n]? = some o):zfE q=zfE (q.take n)++(o.toList++zfE (q.drop (n+1))):=by
 obtain⟨hn,rfl⟩:=List.getElem?_eq_some_iff.1 h;have e:q=q.take n++q[n]::q.drop (n+1):=by rw[List.getElem_cons_drop];exact(List.take_append_drop n q).symm
 conv=>lhs;rw[e]
 simp only[zfE,List.filterMap_append,List.filterMap_cons,id_eq];cases q[n]<;>rfl
theorem zvb {q:PQ}{n:Nat}(o:Option zr)(h:n<q.length):zfE (q.set n o)=zfE (q.take n)++(o.toList++zfE (q.drop (n+1))):=by
 have:=zpm (q:=q.set n o) (n:=n) (o:=o) (by simp[h]);rwa [List.take_set_of_le (Nat.le_refl _),List.drop_set_of_lt (by omega)]at this
theorem zkd.before {q:PQ}(hq:zkd q){n:Nat}{y:zr}(h:y∈zfE (q.take n)):y.client<n:=by
 obtain⟨i,hi⟩:=zrD h;rw[List.getElem?_take]at hi;split at hi
 ·have:=(hq.at_ i y hi).1;omega
 ·cases hi
theorem zkd.behind {q:PQ}(hq:zkd q){n:Nat}{y:zr}(h:y∈zfE (q.drop (n+1))):(n:Int)<y.client:=by
 obtain⟨i,hi⟩:=zrD h;rw[List.getElem?_drop]at hi;have:=(hq.at_ _ y hi).1;omega
theorem of_wait {q:PQ}{c:Int}{x:zr}(h:ofF q c=some x):x∈zfE q:=by
 obtain⟨_,_,h⟩:=ofF_some h;simp only[zfE,List.mem_filterMap,id_eq,exists_eq_right];exact List.mem_of_getElem? h
theorem zkd.client {q:PQ}(hq:zkd q){c:Int}{x:zr}(h:ofF q c=some x):x.client=c:=by
 obtain⟨h0,h8,hg⟩:=ofF_some h;have:=(hq.at_ _ x hg).1;omega
theorem zkd.of_none {q:PQ}(hq:zkd q){c:Int}(h:∀y∈zfE q,y.client≠c):ofF q c=none:=by
 cases ho:ofF q c with
 | none=>rfl
 | some x=>exact absurd (hq.client ho) (h x (of_wait ho))
theorem zyH {α:Type}{l:List α}{p:α->Bool}(h:∀x∈l,p x=true):l.filter p=l:=List.filter_eq_self.2 h
theorem zkd.without {q:PQ}(hq:zkd q){c:Int}(h0:0<=c)(h8:c<8):(zfE q).filter (fun y=>y.client != c)=zfE (q.set c.toNat none):=by
 have hl:=hq.len;have hg:=hq.get h0 h8;rw[zpm hg,zvb none (by omega)];simp only[List.filter_append,Option.toList_none,List.nil_append];rw[zyH (l:=zfE (q.take c.toNat)) fun y hy=>by have:=hq.before hy;simp;omega,zyH (l:=zfE (q.drop (c.toNat+1))) fun y hy=>by have:=hq.behind hy;simp;omega];congr 1;cases ho:ofF q c with
 | none=>rfl
 | some x=>simp[hq.client ho]
theorem zkd.place {q:PQ}(hq:zkd q){c:Int}(h0:0<=c)(h8:c<8){k:Nat}(hlo:∀y∈(zfE (q.set c.toNat none)).take k,y.client<c)(hk:k<=(zfE (q.set c.toNat none)).length)
  (hhi:∀y,(zfE (q.set c.toNat none))[k]? = some y->¬y.client<c) (x:zr) :
  (zfE (q.set c.toNat none)).take k++(x::(zfE (q.set c.toNat none)).drop k)=zfE (q.set c.toNat (some x)):=by
 have hl:=hq.len;have e:=zvb (q:=q) none (show c.toNat<q.length by omega);have e2:=zvb (q:=q) (some x) (show c.toNat<q.length by omega);simp only[Option.toList_none,List.nil_append,Option.toList_some]at e e2;obtain⟨A,hA⟩:∃A,zfE (q.take c.toNat)=A:=⟨_,rfl⟩;obtain⟨B,hB⟩:∃B,zfE (q.drop (c.toNat+1))=B:=⟨_,rfl⟩;have hAlt:∀y∈A,y.client<c:=fun y hy=>by rw[← hA]at hy;have:=hq.before hy;omega
 have hBgt:∀y∈B,c<y.client:=fun y hy=>by rw[← hB]at hy;have:=hq.behind hy;omega
 rw[hA,hB]at e e2;rw[e]at hlo hk hhi ⊢;rw[e2];have hkA:k=A.length:=by
  rcases Nat.lt_trichotomy k A.length with h|h|h
  ·exact absurd (hAlt A[k] (List.getElem_mem h)) (hhi A[k] (by rw[List.getElem?_append_left h];simp[h]))
  ·exact h
  ·exfalso;rw[List.length_append]at hk;have hb:B[0]? = some (B[0]'(by omega)):=List.getElem?_eq_getElem _;have hm:B[0]'(by omega)∈(A++B).take k:=by
    refine List.mem_of_getElem? (i:=A.length) ?_;rw[List.getElem?_take,if_pos h,List.getElem?_append_right (Nat.le_refl _),Nat.sub_self];exact hb
   have h1:=hlo _ hm;have h2:=hBgt _ (List.getElem_mem (show 0<B.length by omega));omega
 subst hkA;simp
def prevC (w:List zr):Nat->Int
 | 0=>-1
 | k+1=>match w[k]? with|some x=>x.client|none=>-1
theorem zkd.push {q:PQ}(hq:zkd q){x:zr}(hx:zD [x]=0)(hlt:∀y∈zfE q,y.client<x.client):canPut q x=true/\zfE (putQ q x)=zfE q++[x]:=by
 obtain⟨h0,h8,_⟩:=one_ok hx;have hl:=hq.len;have hno:ofF q x.client=none:=hq.of_none fun y hy=>by have:=hlt y hy;omega
 have hc:canPut q x=true:=by simp[canPut,hx,hno,mayPut]
 refine⟨hc,?_⟩;have hg:=hq.get h0 h8;rw[hno]at hg;rw[putQ,if_pos hc,zvb _ (by omega),zpm hg];have hB:zfE (q.drop (x.client.toNat+1))=[]:=by
  rw[List.eq_nil_iff_forall_not_mem];intro y hy;have h1:=hq.behind hy;have h2:=hlt y (by rw[zpm hg];simp[hy]);omega
 rw[hB];simp
theorem zkd.prev {q:PQ}(hq:zkd q){k:Nat}{x:zr}(hx:(zfE q)[k]? = some x):prevC (zfE q) k<x.client:=by
 have hxm:=List.mem_of_getElem? hx;obtain⟨i,hi⟩:=zrD hxm;have hxc:=(hq.at_ i x hi).1;cases k with
 | zero=>simp only[prevC];omega
 | succ k=>
  have hk:=(List.getElem?_eq_some_iff.1 hx).1
  have hy:(zfE q)[k]? = some ((zfE q)[k]'(by omega)):=List.getElem?_eq_getElem _
  simp only[prevC,hy]
  have hp:(zfE q).Pairwise fun a b=>a.client<b.client:=by
   have key:∀(l:PQ) (a:Nat),(∀(i:Nat) x,l[i]? = some (some x)->x.client=((a+i:Nat):Int))->(l.filterMap id).Pairwise fun a b=>a.client<b.client:=by
    intro l;induction l with
    | nil=>intro a _;simp
    | cons o l ih=>
     intro a h
     have hr:=ih (a+1) fun i x hi=>by have:=h (i+1) x (by simpa using hi);rw[this];congr 1;omega
     cases o with
     | none=>simpa using hr
     | some x=>
      simp only[List.filterMap_cons,id_eq,List.pairwise_cons]
      refine⟨fun y hy=>?_,hr⟩
      obtain⟨j,hj⟩:=zrD (q:=l) hy
      have h1:=h 0 x rfl
      have h2:=h (j+1) y (by simpa using hj)
      omega
   exact key q 0 fun i x hi=>by have:=(hq.at_ i x hi).1;simpa using this
  have:=List.pairwise_iff_getElem.1 hp k (k+1) (by omega) hk (by omega)
  obtain⟨_,rfl⟩:=List.getElem?_eq_some_iff.1 hx
  exact this
theorem okB_bulk {b:List zr}{n:Nat}(h:zdu (zbz b)<=n)(hn:n<=1048576):okB b:=by
 obtain⟨h1,h2⟩:=leB_bulk h;refine⟨by omega,fun x hx=>?_⟩;obtain⟨h3,h4⟩:=h2 x hx;unfold zbz at h;have:=zhk (f:=zaD) hx;simp only[zaD,zcR,zfW]at this;exact⟨by omega,by omega,by omega,fun r hr=>by have:=h4 r hr;omega⟩
structure TStep where
 what:Int
 s:zr
 client:Int
 time:Int
 opn:List (List zr)
end Go.AW

/- Batches are sealed one after the other; what tables and ledgers hold. -/
set_option maxRecDepth 100000
namespace Go.Proofs.YtdgcepphjnoalaaGreat
open Go.AW
structure SeI (n m:Nat) (s:List (List UInt8) × List zI × List zr):Prop where
 tab:zmI s.1
 led:s.2.1.length<=n
 sz:∀x∈s.2.2,zmW x.op<=20971520
 len:s.2.2.length<=m
theorem sum_take {l:List (List UInt8)}{k:Nat}{x:List UInt8}(hn:l.Nodup)(hl0:l.length<=1048576)(hx:l[k]? = some x):zfZ (l.take k) x=l.take (k+1):=by
 have hk:=(List.getElem?_eq_some_iff.1 hx).1;have hnot:x∉l.take k:=fun hm=>by
  obtain⟨i,hi,he⟩:=List.mem_take_iff_getElem.1 hm;have:=(List.getElem_inj hn).1 (he.trans (List.getElem?_eq_some_iff.1 hx).2.symm);omega
 have hno:=zyy hnot;have h1:(l.take k).length=k:=by rw[List.length_take];omega
 rw[zfZ,hno];simp only[h1];rw[if_neg (by omega),List.take_add_one,hx];rfl
structure LedI (G:List zI):Prop where
 nd:G.Nodup
 ok:∀g∈G,zgW g.key g.dig=0
theorem LedI.sign {G:List zI}(h:LedI G)(k d:Int):LedI (zhs G k d):=by
 unfold zhs;split
 ·rename_i hs;unfold zzG;split
  ·exact h
  ·rename_i hn;refine⟨?_,fun g hg=>?_⟩
   ·rw[List.nodup_append];refine⟨h.nd,by simp,fun a ha b hb e=>?_⟩;simp only[List.mem_singleton]at hb;subst e hb;exact hn ha
   ·rcases List.mem_append.1 hg with hg|hg
    ·exact h.ok g hg
    ·simp only[List.mem_singleton]at hg;subst hg;exact hs
 ·exact h
end Go.Proofs.YtdgcepphjnoalaaGreat

/- Sets of brokers as numbers. No program in sight. -/
namespace Go.AW
def uptoL (n:Nat):List Int:=(List.range n).map Int.ofNat
theorem uptoL_next (n:Nat):uptoL (n+1)=uptoL n++[(n:Int)]:=by
 simp[uptoL,List.range_succ]
end Go.AW

/- Contracts: sets of brokers, the document's, to the last bit. -/
set_option maxRecDepth 100000
namespace Go.Proofs.YtdgcepphjnoalaaGreat
open Go.AW
structure zzg where
 L:List (List UInt8)
 G:List zI
 h:zsK
 T:ztJ
 bs:List znJ
 cs:List zjx
def st0:zzg:=⟨(genF []).2.2,[],(genF []).1,ztU,[],[]⟩
structure StI (N m:Nat) (s:zzg):Prop where
 tab:zmI s.L
 led:s.G.length<=N
 ledI:LedI s.G
 tops:TopsI s.T
 last:LastI s.T.last
 last8:s.T.last.length=8
 bs:∀b∈s.bs,smallBk b
 bl:s.bs.length<=m
 cs:∀c∈s.cs,c.signs.length<=13
 cl:s.cs.length<=m
structure VoI (N m:Nat) (s:List (List UInt8) × List zI × List zI):Prop where
 tab:zmI s.1
 led:s.2.1.length<=N
 ledI:LedI s.2.1
 len:s.2.2.length<=m
theorem signG_len (G:List zI)(k d:Int):(zhs G k d).length<=G.length+1:=by
 unfold zhs zzG;repeat' split
 all_goals simp
theorem LastI.none:LastI ztU.last:=fun a ha=>by
 have:=List.eq_of_mem_replicate ha;subst this;simp
end Go.Proofs.YtdgcepphjnoalaaGreat

/- Numbers of what a table knows; trees in a table: what a proof shows, and that a made proof shows it. No program in sight. -/
namespace Go.AW
def zmr (L:List (List UInt8)) (b:List UInt8) (d:Int):Prop:=∃i,zhJ L b=some i/\d=((i+1:Nat):Int)
theorem zmr.pre {L L':List (List UInt8)}{b:List UInt8}{d:Int}(h:zmr L b d)(hp:L <+: L'):zmr L' b d:=by
 obtain⟨i,h1,h2⟩:=h;obtain⟨m,rfl⟩:=hp;exact⟨i,look_more h1,h2⟩
theorem zmr.pos {L:List (List UInt8)}{b:List UInt8}{d:Int}(h:zmr L b d):1<=d/\d<=L.length:=by
 obtain⟨i,h1,h2⟩:=h;have:=(zvf h1).1;omega
theorem zmr.inj {L:List (List UInt8)}{a b:List UInt8}{d:Int}(ha:zmr L a d)(hb:zmr L b d):a=b:=by
 obtain⟨i,h1,h2⟩:=ha;obtain⟨j,h3,h4⟩:=hb;have:i=j:=by omega
 subst this;have:=(zvf h1).2;rw[(zvf h3).2]at this;exact(Option.some.inj this).symm
theorem zmr.one {L:List (List UInt8)}{b:List UInt8}{d e:Int}(ha:zmr L b d)(hb:zmr L b e):d=e:=by
 obtain⟨i,h1,h2⟩:=ha;obtain⟨j,h3,h4⟩:=hb;rw[h1]at h3;cases h3;omega
theorem zmr.sum {L:List (List UInt8)}{b:List UInt8}{d:Int}(h:zmr L b d):zhX L b=d/\zfZ L b=L:=by
 obtain⟨i,h1,h2⟩:=h;unfold zhX zfZ;rw[h1];exact⟨by simp only;omega,rfl⟩
inductive zmT (L:List (List UInt8)):List (List UInt8)->Int->Prop
 | nil (d:Int):zmr L [2] d->zmT L [] d
 | one (x:List UInt8) (d:Int):zmr L (leafB x) d->zmT L [x] d
 | two (l:List (List UInt8)) (a b d:Int):2<=l.length->zmT L (l.take (zcE l.length)) a->zmT L (l.drop (zcE l.length)) b->zmr L (nodeB a b) d->zmT L l d
theorem zmT.pre {L L':List (List UInt8)}{l:List (List UInt8)}{d:Int}(h:zmT L l d)(hp:L <+: L'):zmT L' l d:=by
 induction h with
 | nil d h=>exact .nil d (h.pre hp)
 | one x d h=>exact .one x d (h.pre hp)
 | two l a b d h2 _ _ hn ih1 ih2=>exact .two l a b d h2 ih1 ih2 (hn.pre hp)
theorem zmT.num {L l:List (List UInt8)}{d:Int}(h:zmT L l d):1<=d/\d<=L.length:=by
 cases h with
 | nil _ h=>exact h.pos
 | one _ _ h=>exact h.pos
 | two _ _ _ _ _ _ _ h=>exact h.pos
theorem zmT.rootF {L l:List (List UInt8)}{d:Int}(h:zmT L l d):rootF L l=(d,L):=by
 induction h with
 | nil d h=>rw[rootF_0,h.sum.1,h.sum.2]
 | one x d h=>rw[rootF_1,h.sum.1,h.sum.2]
 | two l a b d h2 _ _ hn ih1 ih2=>rw[rootF_2 h2,ih1];simp only;rw[ih2];simp only;rw[hn.sum.1,hn.sum.2]
end Go.AW
