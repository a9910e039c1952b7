/- Ends of calls that keep objects told at the end; a result whose rows are let go. -/
import Derived.Test.YtdgcepphjnoalaaGreatSpNum
import Derived.Test.YtdgcepphjnoalaaGreatSpTab
set_option linter.all false
namespace Go.AW
section
variable {P:Program} {σ:List AObj}
theorem ACall.frz {f:FuncId}{xs:List AV}{K:KT}(m:Nat)(h:ACall P f xs σ fun r s=>∃r',frzT s σ.length m r=some r'∧s.take σ.length=σ/\K r' σ):ACall P f xs σ K:=
 ⟨h.1,fun L w vs S hv=>(h.2 L w vs S hv).mono fun e w' he=>by
  cases e with
  | panicked _=>exact he
  | outgrown=>exact he
  | returned v=>
   obtain⟨L',σ',r,st,S',hr,r',hf,ht,hK⟩:=he
   have z2:zhl σ.length (σ'.take σ.length):=by rw[ht];exact S.lows
   have hS:=S'.take z2
   have hst:=st.take
   have hv:=zyC S' (L2:=L') (σ2:=σ'.take σ.length) (fun b o=>zrP) (fun t x ht hx hk b o hf hown=>by
    obtain⟨id,y,hy,hfy⟩:=hown;rw[List.getElem?_take]at hy;split at hy
    ·rename_i hid;exact S'.apart id t y x b o (by omega) hy hx hfy hf
    ·cases hy) hr hf
   rw[ht]at hS hst hv
   exact⟨L',σ,r',hst,hS,hv,hK⟩⟩
end
section
variable {P:Program} {σ:List AObj}
def zxy (K:KT) (out:Option (List AV)) (σ':List AObj):Prop:=match out with
 | some l=>∃s,zqb [] σ' [] s/\K (dmT (zcm l)) s
 | none=>False
theorem zeP {f:FuncId}{F:AF}{na:Nat}(hF:isFn P f F na){as0:List AV}(has:as0.length=na){K:KT}
  (h:zhl σ.length σ->(∀a∈as0,Low σ.length a)->awp P F.body (AtEnd fun fr' σ'=>zxy K (zux fr' σ' F.res) σ') (zlh 0 as0) σ):ACall P f as0 σ K:=
 zoQ hF has _ (fun{L w L' σ' w' fr' ts} S st S' F' hz=>by
  unfold zxy at hz;split at hz
  ·rename_i l hl;obtain⟨s,hw,hK⟩:=hz;obtain⟨L2,st2,S2,_⟩:=zmi hw S' (us:=[]) ⟨rfl,by simp⟩;exact⟨L2,s,l,dmT (zcm l),hl,st.trans st2,S2,fun v hr=>zwC (st2.rv hr),hK⟩
  ·exact hz.elim) h
theorem zld {K:KT}{l:List AV}{s:List AObj}(h:K (dmT (zcm l)) s):zxy K (some l) s:=⟨_,.refl _ _,h⟩
end
theorem less_lt:∀(x y:List UInt8),Op.bytesLess x y=decide (x<y)
 | [],[]=>by simp[Op.bytesLess]
 | _::_,[]=>by simp[Op.bytesLess]
 | [],_::_=>by simp[Op.bytesLess]
 | a::x,b::y=>by
  rw[Op.bytesLess,less_lt x y];simp only[List.cons_lt_cons_iff];by_cases h1:a<b<;>by_cases h2:a=b<;>by_cases h3:x<y<;>simp[h1,h2,h3]
abbrev ltN (a b:List UInt8):Prop:=Op.bytesLess a b=true
theorem ltN_iff {a b:List UInt8}:ltN a b↔a<b:=by rw[ltN,less_lt];simp
theorem ltN_irr (a:List UInt8):¬ltN a a:=by rw[ltN_iff];exact List.lt_irrefl a
theorem ltN_trans {a b c:List UInt8}(h:ltN a b)(h':ltN b c):ltN a c:=by rw[ltN_iff]at *;exact List.lt_trans h h'
theorem ltN_total {a b:List UInt8}(h:¬ltN a b)(hne:a≠b):ltN b a:=by
 rw[ltN_iff]at *;have h1:b<=a:=List.not_lt.1 h;rcases List.le_iff_lt_or_eq.1 h1 with h2|h2
 ·exact h2
 ·exact absurd h2.symm hne
section
variable {α:Type} (f:α->List UInt8)
def zvV (n:List UInt8):List α->Nat
 | []=>0
 | x::r=>if Op.bytesLess (f x) n=true then zvV n r+1 else 0
def zoS (l:List α):Prop:=(l.map f).Pairwise ltN
variable {f}
theorem zoS.nodup {l:List α}(h:zoS f l):(l.map f).Nodup:=by
 refine List.Pairwise.imp (fun{a b} hab e=>?_) h;subst e;exact ltN_irr _ hab
theorem zpo {a:α}{r:List α}:zoS f (a::r)↔(∀b∈r,ltN (f a) (f b))/\zoS f r:=by
 rw[zoS,List.map_cons,List.pairwise_cons];constructor
 ·rintro⟨h1,h2⟩;exact⟨fun b hb=>h1 _ (List.mem_map_of_mem hb),h2⟩
 ·rintro⟨h1,h2⟩;refine⟨fun b hb=>?_,h2⟩;obtain⟨c,hc,rfl⟩:=List.mem_map.1 hb;exact h1 c hc
theorem zvU {n:List UInt8}{x:α}(hx:f x=n):∀ {l:List α},zoS f l->(∀a∈l,f a≠n)->zoS f (l.take (zvV f n l)++x::l.drop (zvV f n l))
 | [],_,_=>by simp[zoS,zvV]
 | a::r,h,hn=>by
  obtain⟨h1,h2⟩:=zpo.1 h;simp only[zvV];split
  ·rename_i ha;simp only[List.take_succ_cons,List.drop_succ_cons,List.cons_append];refine zpo.2 ⟨fun b hb=>?_,zvU hx h2 fun a ha=>hn a (List.mem_cons_of_mem _ ha)⟩;rcases List.mem_append.1 hb with hb|hb
   ·exact h1 b (List.mem_of_mem_take hb)
   ·rcases List.mem_cons.1 hb with rfl|hb
    ·rw[hx];exact ha
    ·exact h1 b (List.mem_of_mem_drop hb)
  ·rename_i ha;simp only[List.take_zero,List.drop_zero,List.nil_append];have hna:ltN n (f a):=ltN_total ha (hn a List.mem_cons_self);refine zpo.2 ⟨fun b hb=>?_,h⟩;rw[hx];rcases List.mem_cons.1 hb with rfl|hb
   ·exact hna
   ·exact ltN_trans hna (h1 b hb)
theorem zoA {n:List UInt8}:∀ {l:List α},zoS f l->∀ {x:α},x∈l->f x=n->l[zvV f n l]? = some x
 | [],_,_,h,_=>by cases h
 | a::r,h,x,hx,e=>by
  obtain⟨h1,h2⟩:=zpo.1 h;simp only[zvV];rcases List.mem_cons.1 hx with rfl|hx
  ·rw[if_neg (by rw[e];exact ltN_irr n)];rfl
  ·have:=h1 x hx;rw[e]at this;rw[if_pos this,List.getElem?_cons_succ];exact zoA h2 hx e
theorem sortK_set {l:List α}(h:zoS f l){k:Nat}{x y:α}(hx:l[k]? = some x)(e:f y=f x):zoS f (l.set k y):=by
 rw[zoS,List.map_set,e];have:(l.map f).set k (f x)=l.map f:=by
  apply List.ext_getElem?;intro i;rw[List.getElem?_set];split
  ·rename_i hi;subst hi;split
   ·rw[List.getElem?_map,hx];rfl
   ·rename_i hk;have:=(List.getElem?_eq_some_iff.1 hx).1;simp at hk;omega
  ·rfl
 rw[this];exact h
theorem sortK_inj {l:List α}(h:zoS f l){x y:α}(hx:x∈l)(hy:y∈l)(e:f x=f y):x=y:=by
 have h1:=zoA h hx rfl;have h2:=zoA h hy e.symm;rw[h1]at h2;exact Option.some.inj h2
end
theorem lessN_K (n:List UInt8):∀l,lessN n l=zvV zeb.name n l
 | []=>rfl
 | x::r=>by simp only[lessN,zvV,lessN_K n r]
theorem zzW (n:List UInt8):∀l,lessG n l=zvV Prod.fst n l
 | []=>rfl
 | x::r=>by simp only[lessG,zvV,zzW n r]
def zxH (n:List UInt8):List (List UInt8 × Int)->Nat->Option (Nat × Int)
 | [],_=>none
 | g::r,i=>if n=g.1 then some (i,g.2)else zxH n r (i+1)
def putA (n:List UInt8) (v:Int) (l:List (List UInt8 × Int)):List (List UInt8 × Int):=match zxH n l 0 with
 | some (k,_)=>l.set k (n,v)
 | none=>l++[(n,v)]
theorem ztn {n:List UInt8}:∀ {l:List (List UInt8 × Int)} {i k:Nat} {v:Int},zxH n l i=some (k,v)->∃j,k=i+j/\l[j]? = some (n,v)
 | [],_,_,_,h=>by simp[zxH]at h
 | g::r,i,k,v,h=>by
  simp only[zxH]at h;split at h
  ·rename_i e;cases h;exact⟨0,rfl,by rw[e];rfl⟩
  ·obtain⟨j,h1,h2⟩:=ztn h;exact⟨j+1,by omega,by simpa using h2⟩
theorem zto {n:List UInt8}:∀ {l:List (List UInt8 × Int)} {i:Nat},zxH n l i=none->∀g∈l,g.1≠n
 | [],_,_,g,hg=>by cases hg
 | a::r,i,h,g,hg=>by
  simp only[zxH]at h;split at h
  ·cases h
  ·rename_i e;rcases List.mem_cons.1 hg with rfl|hg
   ·exact fun e'=>e e'.symm
   ·exact zto h g hg
structure GR (G L:List (List UInt8 × Int)):Prop where
 len:G.length=L.length
 sort:zoS Prod.fst L
 nod:(G.map Prod.fst).Nodup
 mem:∀a,a∈G↔a∈L
theorem GR.nil:GR [] []:=⟨rfl,by simp[zoS],by simp,by simp⟩
theorem zrR {α β:Type}{f:α→β}:∀ {l:List α},(l.map f).Nodup->∀ {i j:Nat} {a b:α},l[i]? = some a->l[j]? = some b->f a=f b->i=j:=by
 intro l h i j a b hi hj e;have h1:(l.map f)[i]? = some (f a):=by rw[List.getElem?_map,hi];rfl
 have h2:(l.map f)[j]? = some (f a):=by rw[List.getElem?_map,hj,e];rfl
 obtain⟨g1,g2⟩:=List.getElem?_eq_some_iff.1 h1;obtain⟨g3,g4⟩:=List.getElem?_eq_some_iff.1 h2;rcases Nat.lt_trichotomy i j with hij|hij|hij
 ·exact absurd (g2.trans g4.symm) (List.pairwise_iff_getElem.1 h i j g1 g3 hij)
 ·exact hij
 ·exact absurd (g4.trans g2.symm) (List.pairwise_iff_getElem.1 h j i g3 g1 hij)
theorem GR.had {G L:List (List UInt8 × Int)}(h:GR G L)(n:List UInt8):hadG n L=(zxH n G 0).map Prod.snd:=by
 cases hf:zxH n G 0 with
 | none=>
  have h1:=zto hf
  unfold hadG
  split
  ·rename_i g hg
   rw[if_neg];rfl
   intro e
   exact h1 g ((h.mem g).2 (List.mem_of_getElem? hg)) (by simpa using e)
  ·rfl
 | some q=>
  obtain⟨k,v⟩:=q
  obtain⟨j,rfl,hj⟩:=ztn hf
  have h2:=(h.mem _).1 (List.mem_of_getElem? hj)
  unfold hadG
  rw[zzW,zoA h.sort h2 rfl]
  simp
theorem zpq {α:Type}{l:List α}{k:Nat}{x y:α}:y∈l.set k x->y=x∨∃j,j≠k/\l[j]? = some y:=by
 intro h;obtain⟨j,hj⟩:=List.mem_iff_getElem?.1 h;by_cases e:j=k
 ·subst e;have hl:j<l.length:=by have:=(List.getElem?_eq_some_iff.1 hj).1;simpa using this
  rw[List.getElem?_set_self hl]at hj;exact .inl (Option.some.inj hj).symm
 ·rw[List.getElem?_set_ne (Ne.symm e)]at hj;exact .inr ⟨j,e,hj⟩
theorem zpC {α:Type}{l:List α}{j k:Nat}{x y:α}(h:l[j]? = some y)(e:j≠k):y∈l.set k x:=
 List.mem_iff_getElem?.2 ⟨j,by rw[List.getElem?_set_ne (Ne.symm e)];exact h⟩
theorem mem_set_self' {α:Type}{l:List α}{k:Nat}{x y:α}(h:l[k]? = some y):x∈l.set k x:=
 List.mem_iff_getElem?.2 ⟨k,by rw[List.getElem?_set_self (List.getElem?_eq_some_iff.1 h).1]⟩
theorem zzy {α:Type}{l:List α}{k:Nat}{x y:α}(h:l[k]? = some y):l.take k++x::l.drop (k+1)=l.set k x:=by
 rw[List.set_eq_take_append_cons_drop,if_pos (List.getElem?_eq_some_iff.1 h).1]
theorem zvR {α:Type}{f:α->List UInt8}{l:List α}{k:Nat}{x y:α}(hx:l[k]? = some x)(e:f y=f x):(l.set k y).map f=l.map f:=by
 rw[List.map_set,e];apply List.ext_getElem?;intro i;rw[List.getElem?_set];split
 ·rename_i hi;subst hi;split
  ·rw[List.getElem?_map,hx];rfl
  ·rename_i hk;have:=(List.getElem?_eq_some_iff.1 hx).1;simp at hk;omega
 ·rfl
theorem GR.put {G L:List (List UInt8 × Int)}(h:GR G L)(n:List UInt8)(v:Int):GR (putA n v G) (L.take (lessG n L)++(n,v)::L.drop (lessG n L+if (hadG n L).isSome then 1 else 0)):=by
 have hh:=h.had n;unfold putA;cases hf:zxH n G 0 with
 | none=>
  have h1:=zto hf
  have hL:∀a∈L,a.1≠n:=fun a ha=>h1 a ((h.mem a).2 ha)
  rw[hf]at hh
  rw[hh]
  simp only[Option.map_none,Option.isSome_none,Bool.false_eq_true,if_false,Nat.add_zero]
  refine⟨?_,?_,?_,fun a=>?_⟩
  ·have:=List.take_append_drop (lessG n L) L
   have h3:=congrArg List.length this
   have h4:=h.len
   simp only[List.length_append,List.length_cons,List.length_nil]at h3 ⊢;omega
  ·rw[zzW];exact zvU (f:=Prod.fst) (x:=(n,v)) rfl h.sort hL
  ·rw[List.map_append,List.nodup_append]
   refine⟨h.nod,by simp,?_⟩
   intro a ha b hb
   simp at hb;subst hb
   obtain⟨c,hc,rfl⟩:=List.mem_map.1 ha
   exact h1 c hc
  ·have:=List.take_append_drop (lessG n L) L
   rw[List.mem_append,h.mem]
   constructor
   ·rintro(ha|ha)
    ·rw[← this]at ha
     rcases List.mem_append.1 ha with ha|ha<;>simp[ha]
    ·simp at ha;subst ha;simp
   ·intro ha
    rcases List.mem_append.1 ha with ha|ha
    ·exact .inl (List.mem_of_mem_take ha)
    ·rcases List.mem_cons.1 ha with rfl|ha
     ·simp
     ·exact .inl (List.mem_of_mem_drop ha)
 | some q=>
  obtain⟨k,w⟩:=q
  obtain⟨j,rfl,hj⟩:=ztn hf
  have hm:=(h.mem _).1 (List.mem_of_getElem? hj)
  have hL:=zoA h.sort hm rfl
  rw[hf]at hh
  rw[hh]
  simp only[Option.map_some,Option.isSome_some,if_true,Nat.zero_add]
  rw[zzW]
  simp only at hL
  rw[zzy hL]
  refine⟨by simp[h.len],sortK_set h.sort hL rfl,by rw[zvR (f:=Prod.fst) (y:=(n,v)) hj rfl];exact h.nod,fun a=>?_⟩
  constructor
  ·intro ha
   rcases zpq ha with rfl|⟨i,hi,hx⟩
   ·exact mem_set_self' hL
   ·have:=(h.mem a).1 (List.mem_of_getElem? hx)
    obtain⟨i2,hi2⟩:=List.mem_iff_getElem?.1 this
    refine zpC hi2 fun e=>hi ?_
    subst e
    rw[hL]at hi2;cases hi2
    exact zrR h.nod hx hj rfl
  ·intro ha
   rcases zpq ha with rfl|⟨i,hi,hx⟩
   ·exact mem_set_self' hj
   ·have:=(h.mem a).2 (List.mem_of_getElem? hx)
    obtain⟨i2,hi2⟩:=List.mem_iff_getElem?.1 this
    refine zpC hi2 fun e=>hi ?_
    subst e
    rw[hj]at hi2;cases hi2
    exact zrR h.sort.nodup hx hL rfl
structure PTop where
 x:zeb
 id:Nat
 g:Nat
 t:Nat
abbrev PTop.name (p:PTop):List UInt8:=p.x.name
def zAd (n:List UInt8):List PTop->Nat->Option (Nat × PTop)
 | [],_=>none
 | p::r,i=>if n=p.x.name then some (i,p)else zAd n r (i+1)
theorem zyF {n:List UInt8}:∀ {l:List PTop} {i k:Nat} {p:PTop},zAd n l i=some (k,p)->∃j,k=i+j/\l[j]? = some p/\p.x.name=n
 | [],_,_,_,h=>by simp[zAd]at h
 | g::r,i,k,v,h=>by
  simp only[zAd]at h;split at h
  ·rename_i e;cases h;exact⟨0,rfl,rfl,e.symm⟩
  ·obtain⟨j,h1,h2,h3⟩:=zyF h;exact⟨j+1,by omega,by simpa using h2,h3⟩
theorem ztm {n:List UInt8}:∀ {l:List PTop} {i:Nat},zAd n l i=none->∀p∈l,p.x.name≠n
 | [],_,_,g,hg=>by cases hg
 | a::r,i,h,g,hg=>by
  simp only[zAd]at h;split at h
  ·cases h
  ·rename_i e;rcases List.mem_cons.1 hg with rfl|hg
   ·exact fun e'=>e e'.symm
   ·exact ztm h g hg
structure TR (x y:zeb):Prop where
 name:x.name=y.name
 base:x.base=y.base
 recs:x.recs=y.recs
 gr:GR x.groups y.groups
theorem TR.next {x y:zeb}(h:TR x y):x.next=y.next:=by rw[zeb.next,h.base,h.recs];rfl
structure Rel (X:List PTop) (T:List zeb):Prop where
 len:X.length=T.length
 sort:zoS zeb.name T
 nod:(X.map PTop.name).Nodup
 fw:∀p∈X,∃y∈T,TR p.x y
 bw:∀y∈T,∃p∈X,TR p.x y
theorem Rel.nil:Rel [] []:=⟨rfl,by simp[zoS],by simp,by simp,by simp⟩
theorem zAE {n:List UInt8}:∀ {l:List zeb} {i k:Nat},atF n l i=some k->∃j y,k=i+j/\l[j]? = some y/\y.name=n
 | [],_,_,h=>by simp[atF]at h
 | x::r,i,k,h=>by
  simp only[atF]at h;split at h
  ·rename_i e;cases h;exact⟨0,x,rfl,rfl,by simpa using e⟩
  ·obtain⟨j,y,h1,h2,h3⟩:=zAE h;exact⟨j+1,y,by omega,by simpa using h2,h3⟩
theorem atF_none {n:List UInt8}:∀ {l:List zeb} {i:Nat},atF n l i=none->∀y∈l,y.name≠n
 | [],_,_,g,hg=>by cases hg
 | a::r,i,h,g,hg=>by
  simp only[atF]at h;split at h
  ·cases h
  ·rename_i e;rcases List.mem_cons.1 hg with rfl|hg
   ·simpa using e
   ·exact atF_none h g hg
theorem Rel.no {X:List PTop}{T:List zeb}(h:Rel X T){n:List UInt8}(hf:zAd n X 0=none):atF n T 0=none:=by
 cases ha:atF n T 0 with
 | none=>rfl
 | some k=>
  obtain⟨j,y,_,h2,h3⟩:=zAE ha
  obtain⟨p,hp,hr⟩:=h.bw y (List.mem_of_getElem? h2)
  exact absurd (hr.name.trans h3) (ztm hf p hp)
theorem Rel.yes {X:List PTop}{T:List zeb}(h:Rel X T){n:List UInt8}{i:Nat}{p:PTop}(hf:zAd n X 0=some (i,p)):X[i]? = some p/\p.x.name=n/\∃k y,atF n T 0=some k/\T[k]? = some y/\TR p.x y:=by
 obtain⟨j,e,h1,h2⟩:=zyF hf;rw[Nat.zero_add]at e;subst e;refine⟨h1,h2,?_⟩;obtain⟨y,hy,hr⟩:=h.fw p (List.mem_of_getElem? h1);cases ha:atF n T 0 with
 | none=>exact absurd (hr.name.symm.trans h2) (atF_none ha y hy)
 | some k=>
  obtain⟨j,z,e,h3,h4⟩:=zAE ha
  rw[Nat.zero_add]at e;subst e
  have:z=y:=sortK_inj h.sort (List.mem_of_getElem? h3) hy (h4.trans (h2.symm.trans hr.name))
  subst this
  exact⟨k,z,rfl,h3,hr⟩
theorem Rel.set {X:List PTop}{T:List zeb}(h:Rel X T){i k:Nat}{p p':PTop}{y y':zeb}(hp:X[i]? = some p)(hy:T[k]? = some y)(hr:TR p.x y)(hr':TR p'.x y')(hn:p'.x.name=p.x.name):Rel (X.set i p') (T.set k y'):=by
 have hn':y'.name=y.name:=hr'.name.symm.trans (hn.trans hr.name);refine⟨by simp[h.len],sortK_set h.sort hy hn',by rw[zvR hp hn];exact h.nod,fun q hq=>?_,fun z hz=>?_⟩
 ·rcases zpq hq with rfl|⟨j,hj,hx⟩
  ·exact⟨y',mem_set_self' hy,hr'⟩
  ·obtain⟨z,hz,hrz⟩:=h.fw q (List.mem_of_getElem? hx);obtain⟨j2,hj2⟩:=List.mem_iff_getElem?.1 hz;refine⟨z,zpC hj2 fun e=>hj ?_,hrz⟩;subst e;rw[hy]at hj2;cases hj2;exact zrR h.nod hx hp (hrz.name.trans hr.name.symm)
 ·rcases zpq hz with rfl|⟨j,hj,hx⟩
  ·exact⟨p',mem_set_self' hp,hr'⟩
  ·obtain⟨q,hq,hrq⟩:=h.bw z (List.mem_of_getElem? hx);obtain⟨j2,hj2⟩:=List.mem_iff_getElem?.1 hq;refine⟨q,zpC hj2 fun e=>hj ?_,hrq⟩;subst e;rw[hp]at hj2;cases hj2;exact zrR h.sort.nodup hx hy (hrq.name.symm.trans hr.name)
theorem Rel.add {X:List PTop}{T:List zeb}(h:Rel X T){n:List UInt8}(hf:zAd n X 0=none){p:PTop}{y:zeb}(hr:TR p.x y)(hn:y.name=n):Rel (X++[p]) (T.take (lessN n T)++y::T.drop (lessN n T)):=by
 have h1:=ztm hf;have hT:∀a∈T,a.name≠n:=fun a ha e=>by
  obtain⟨q,hq,hrq⟩:=h.bw a ha;exact h1 q hq (hrq.name.trans e)
 have htd:=List.take_append_drop (lessN n T) T;refine⟨?_,?_,?_,fun q hq=>?_,fun z hz=>?_⟩
 ·have h3:=congrArg List.length htd;have h4:=h.len;simp only[List.length_append,List.length_cons,List.length_nil]at h3 ⊢;omega
 ·rw[lessN_K];exact zvU hn h.sort hT
 ·rw[List.map_append,List.nodup_append];refine⟨h.nod,by simp,?_⟩;intro a ha b hb;simp at hb;subst hb;obtain⟨c,hc,rfl⟩:=List.mem_map.1 ha;have:p.x.name=n:=hr.name.trans hn;intro e;exact h1 c hc (e.trans this)
 ·rcases List.mem_append.1 hq with hq|hq
  ·obtain⟨z,hz,hrz⟩:=h.fw q hq;rw[← htd]at hz;refine⟨z,?_,hrz⟩;rcases List.mem_append.1 hz with hz|hz<;>simp[hz]
  ·simp at hq;subst hq;exact⟨y,by simp,hr⟩
 ·rcases List.mem_append.1 hz with hz|hz
  ·obtain⟨q,hq,hrq⟩:=h.bw z (List.mem_of_mem_take hz);exact⟨q,by simp[hq],hrq⟩
  ·rcases List.mem_cons.1 hz with rfl|hz
   ·exact⟨p,by simp,hr⟩
   ·obtain⟨q,hq,hrq⟩:=h.bw z (List.mem_of_mem_drop hz);exact⟨q,by simp[hq],hrq⟩
theorem nodup_le:∀ {l m:List Nat},l.Nodup->(∀x∈l,x∈m)->l.length<=m.length
 | [],m,_,_=>by simp
 | a::r,m,hn,hs=>by
  have ha:=hs a List.mem_cons_self;obtain⟨h1,h2⟩:=List.nodup_cons.1 hn;have:=nodup_le (l:=r) (m:=m.erase a) h2 fun x hx=>(List.mem_erase_of_ne (a:=x) (b:=a) (fun e=>h1 (by rw[← e];exact hx))).2 (hs x (List.mem_cons_of_mem _ hx));rw[List.length_erase_of_mem ha]at this;have:=List.length_pos_of_mem ha;simp only[List.length_cons];omega
def zls {α:Type} (bs:List Nat) (names:List α) (seen:List Nat) (ys:List α):Prop:=
 seen.length=ys.length/\∀(j:Nat) (b:Nat) (y:α),seen[j]? = some b->ys[j]? = some y->∃i:Nat,bs[i]? = some b/\names[i]? = some y
theorem zls.nil {α:Type}{bs:List Nat}{names:List α}:zls bs names [] []:=⟨rfl,by simp⟩
theorem zls.snoc {α:Type}{bs:List Nat}{names:List α}{seen:List Nat}{ys:List α}(h:zls bs names seen ys){i b:Nat}{y:α}(h1:bs[i]? = some b)(h2:names[i]? = some y):zls bs names (seen++[b]) (ys++[y]):=by
 refine⟨by simp[h.1],fun j c z hc hz=>?_⟩;rw[List.getElem?_append]at hc hz;split at hc
 ·rename_i hj;rw[if_pos (by rw[← h.1];exact hj)]at hz;exact h.2 j c z hc hz
 ·rename_i hj;rw[if_neg (by rw[← h.1];exact hj)]at hz;have e1:=(List.getElem?_eq_some_iff.1 hc).1;simp only[List.length_cons,List.length_nil]at e1;rw[h.1]at hc hj e1;have e:j-ys.length=0:=by omega
  rw[e]at hc hz;simp at hc hz;subst hc;subst hz;exact⟨i,h1,h2⟩
theorem zls.sub {α:Type}{bs:List Nat}{names:List α}{seen:List Nat}{ys:List α}(h:zls bs names seen ys):∀b∈seen,b∈bs:=by
 intro b hb;obtain⟨j,hj⟩:=List.mem_iff_getElem?.1 hb;have hl:=(List.getElem?_eq_some_iff.1 hj).1;rw[h.1]at hl;obtain⟨i,h1,_⟩:=h.2 j b _ hj (List.getElem?_eq_getElem hl);exact List.mem_of_getElem? h1
theorem zls.lt {α:Type}{bs:List Nat}{names:List α}{seen:List Nat}{ys:List α}(h:zls bs names seen ys)(hn:seen.Nodup)(hl:bs.length=names.length){b:Nat}(h1:b∈bs)(h2:b∉seen):ys.length<names.length:=by
 have:=nodup_le (l:=b::seen) (m:=bs) (List.nodup_cons.2 ⟨h2,hn⟩) fun x hx=>by
  rcases List.mem_cons.1 hx with rfl|hx
  ·exact h1
  ·exact h.sub x hx
 simp only[List.length_cons]at this;rw[← hl,← h.1];omega
theorem nodup_get {l:List Nat}(h:l.Nodup){i j x:Nat}(hi:l[i]? = some x)(hj:l[j]? = some x):i=j:=by
 obtain⟨a,b⟩:=List.getElem?_eq_some_iff.1 hi;obtain⟨c,d⟩:=List.getElem?_eq_some_iff.1 hj;rcases Nat.lt_trichotomy i j with hij|hij|hij
 ·exact absurd (b.trans d.symm) (List.pairwise_iff_getElem.1 h i j a c hij)
 ·exact hij
 ·exact absurd (d.trans b.symm) (List.pairwise_iff_getElem.1 h j i c a hij)
theorem zvh {α:Type}:∀ {l:List Nat} {m:List α},l.Nodup->(l.zip m).Nodup
 | [],_,_=>by simp
 | _::_,[],_=>by simp
 | a::l,b::m,h=>by
  obtain⟨h1,h2⟩:=List.nodup_cons.1 h;rw[List.zip_cons_cons,List.nodup_cons];exact⟨fun hm=>h1 (List.of_mem_zip hm).1,zvh h2⟩
theorem zls.perm {α:Type}{bs:List Nat}{names:List α}{seen:List Nat}{ys:List α}(h:zls bs names seen ys)(hn:seen.Nodup)(hb:bs.Nodup)(hl:bs.length=names.length)(ha:∀b∈bs,b∈seen):ys.Perm names:=by
 have key:∀(i:Nat) b y,bs[i]? = some b->names[i]? = some y->(b,y)∈bs.zip names:=fun i b y h1 h2=>List.mem_iff_getElem?.2 ⟨i,List.getElem?_zip_eq_some.2 ⟨h1,h2⟩⟩;have hp:(seen.zip ys).Perm (bs.zip names):=by
  refine(List.perm_ext_iff_of_nodup (zvh hn) (zvh hb)).2 fun p=>?_;obtain⟨b,y⟩:=p;constructor
  ·intro hm;obtain⟨j,hj⟩:=List.mem_iff_getElem?.1 hm;obtain⟨h1,h2⟩:=List.getElem?_zip_eq_some.1 hj;obtain⟨i,h3,h4⟩:=h.2 j b y h1 h2;exact key i b y h3 h4
  ·intro hm;obtain⟨j,hj⟩:=List.mem_iff_getElem?.1 hm;obtain⟨h1,h2⟩:=List.getElem?_zip_eq_some.1 hj;obtain⟨k,hk⟩:=List.mem_iff_getElem?.1 (ha b (List.mem_of_getElem? h1));have hkl:=(List.getElem?_eq_some_iff.1 hk).1;rw[h.1]at hkl;obtain⟨i,h3,h4⟩:=h.2 k b _ hk (List.getElem?_eq_getElem hkl);have:=nodup_get hb h1 h3;subst this;rw[h2]at h4;refine List.mem_iff_getElem?.2 ⟨k,List.getElem?_zip_eq_some.2 ⟨hk,?_⟩⟩;rw[List.getElem?_eq_getElem hkl,h4]
 have:=hp.map Prod.snd;rwa [List.map_snd_zip (by rw[h.1];exact Nat.le_refl _),List.map_snd_zip (by rw[hl];exact Nat.le_refl _)]at this
def splitA:Nat->Nat->Nat->Nat
 | 0,k,_=>k
 | f+1,k,n=>if k<n-k then splitA f (k*2) n else k
def zcF (n:Nat):Nat:=if n<2 then 0 else splitA n 1 n
theorem splitA_lt:∀(f k n:Nat),1<=k->k<n→1<=splitA f k n/\splitA f k n<n
 | 0,k,n,h1,h2=>⟨h1,h2⟩
 | f+1,k,n,h1,h2=>by
  simp only[splitA];split
  ·exact splitA_lt f (k*2) n (by omega) (by omega)
  ·exact⟨h1,h2⟩
theorem splitF_lt {n:Nat}(h:2<=n):1<=zcF n/\zcF n<n:=by
 rw[zcF,if_neg (by omega)];exact splitA_lt n 1 n (by omega) (by omega)
def leafB (b:List UInt8):List UInt8:=0::b
def nodeB (l r:Int):List UInt8:=1::(zbx l.toNat++zbx r.toNat)
def zlG:Nat->List (List UInt8)->List (List UInt8)->Int × List (List UInt8)
 | _,L,[]=>(zhT L [2],zfX L [2])
 | _,L,[x]=>(zhT L (leafB x),zfX L (leafB x))
 | 0,L,_=>(0,L)
 | f+1,L,l=>
  let a:=zlG f L (l.take (zcF l.length))
  let b:=zlG f a.2 (l.drop (zcF l.length))
  (zhT b.2 (nodeB a.1 b.1),zfX b.2 (nodeB a.1 b.1))
def rootF (L l:List (List UInt8)):Int × List (List UInt8):=zlG l.length L l
theorem zpr:∀(f g:Nat) (L l:List (List UInt8)),l.length<=f->l.length<=g->zlG f L l=zlG g L l
 | f,g,L,[],_,_=>by cases f<;>cases g<;>rfl
 | f,g,L,[x],_,_=>by cases f<;>cases g<;>rfl
 | 0,_,L,x::y::r,h,_=>by simp at h
 | _,0,L,x::y::r,_,h=>by simp at h
 | f+1,g+1,L,x::y::r,h1,h2=>by
  have hs:=splitF_lt (n:=(x::y::r).length) (by simp);have e:=zpr f g L ((x::y::r).take (zcF (x::y::r).length)) (by rw[List.length_take];omega) (by rw[List.length_take];omega);simp only[zlG,e];rw[zpr f g (zlG g L ((x::y::r).take (zcF (x::y::r).length))).2 ((x::y::r).drop (zcF (x::y::r).length)) (by rw[List.length_drop];omega) (by rw[List.length_drop];omega)]
theorem rootF_2 {L l:List (List UInt8)}(h:2<=l.length):rootF L l=(zhT (rootF (rootF L (l.take (zcF l.length))).2 (l.drop (zcF l.length))).2 (nodeB (rootF L (l.take (zcF l.length))).1 (rootF (rootF L (l.take (zcF l.length))).2 (l.drop (zcF l.length))).1),
  zfX (rootF (rootF L (l.take (zcF l.length))).2 (l.drop (zcF l.length))).2 (nodeB (rootF L (l.take (zcF l.length))).1 (rootF (rootF L (l.take (zcF l.length))).2 (l.drop (zcF l.length))).1)):=by
 have hs:=splitF_lt h;have h1:(l.take (zcF l.length)).length=zcF l.length:=by rw[List.length_take];omega
 have h2:(l.drop (zcF l.length)).length=l.length-zcF l.length:=List.length_drop;obtain⟨m,hm⟩:∃m,l.length=m+1:=⟨l.length-1,by omega⟩;have e:∀l:List (List UInt8),2<=l.length->∀m,zlG (m+1) L l=(zhT (zlG m (zlG m L (l.take (zcF l.length))).2 (l.drop (zcF l.length))).2 (nodeB (zlG m L (l.take (zcF l.length))).1 (zlG m (zlG m L (l.take (zcF l.length))).2 (l.drop (zcF l.length))).1),zfX (zlG m (zlG m L (l.take (zcF l.length))).2 (l.drop (zcF l.length))).2 (nodeB (zlG m L (l.take (zcF l.length))).1 (zlG m (zlG m L (l.take (zcF l.length))).2 (l.drop (zcF l.length))).1)):=by
  intro l hl m;match l,hl with
  | x::y::r,_=>simp only[zlG]
 have f1:=zpr m (l.take (zcF l.length)).length L (l.take (zcF l.length)) (by omega) (Nat.le_refl _);have f2:=fun L'=>zpr m (l.drop (zcF l.length)).length L' (l.drop (zcF l.length)) (by omega) (Nat.le_refl _);have f0:zlG l.length L l=zlG (m+1) L l:=by rw[hm]
 unfold rootF;rw[f0,e l h m,f1,f2]
theorem rootF_0 (L:List (List UInt8)):rootF L []=(zhT L [2],zfX L [2]):=rfl
theorem rootF_1 (L:List (List UInt8))(x:List UInt8):rootF L [x]=(zhT L (leafB x),zfX L (leafB x)):=rfl
structure znG where
 header:zsJ
 batch:List zp
 placed:List znx
theorem zfm {α:Type}{f:α->List D}(h:∀a,1<=zcR (f a)):∀(l:List α),l.length<=zds (l.map f)
 | []=>Nat.zero_le _
 | a::l=>by have:=h a;have:=zfm h l;simp only[List.map_cons,List.length_cons,zds];omega
theorem zhh {α:Type}{f:α->List D}{a:α}:∀ {l:List α},a∈l->zcR (f a)<=zds (l.map f)
 | b::l,h=>by
  simp only[List.map_cons,zds];rcases List.mem_cons.1 h with rfl|h
  ·omega
  ·have:=zhh (f:=f) h;omega
theorem zqr (rs:List (List UInt8)):rs.length<=zds (zdQ rs)/\∀r∈rs,r.length<=zds (zdQ rs):=by
 refine⟨zfm (f:=fun r=>[D.slice (bcs r)]) (fun r=>by simp only[zcR,zfT];omega) rs,fun r hr=>?_⟩;have:=zhh (f:=fun r=>[D.slice (bcs r)]) hr;simp only[zcR,zfT,zvd]at this;unfold zdQ;omega
def leB (n:Nat) (b:List zp):Prop:=b.length<=n/\∀x∈b,x.op.recs.length<=n/\∀r∈x.op.recs,r.length<=n
theorem leB_bulk {b:List zp}{n:Nat}(h:zds (zbA b)<=n):leB n b:=by
 unfold zbA at h;refine⟨Nat.le_trans (zfm (f:=zaw) (fun a=>by simp only[zaw,zcR,zfT];omega) b) h,fun x hx=>?_⟩;have:=zhh (f:=zaw) hx;simp only[zaw,zcR,zfT]at this;have h2:=zqr x.op.recs;refine⟨by omega,fun r hr=>?_⟩;have:=h2.2 r hr;omega
theorem signs_bulk (l:List zI):l.length<=zds (zat l):=zfm (f:=zgo) (fun a=>by simp only[zgo,zcR,zfT];omega) l
theorem zpk {q:PQ}{n:Nat}{o:Option zp}(h:q[n]? = some o):zfA q=zfA (q.take n)++(o.toList++zfA (q.drop (n+1))):=by
 obtain⟨hn,rfl⟩:=List.getElem?_eq_some_iff.1 h;have e:q=q.take n++q[n]::q.drop (n+1):=by rw[List.getElem_cons_drop];exact(List.take_append_drop n q).symm
 conv=>lhs;rw[e]
 simp only[zfA,List.filterMap_append,List.filterMap_cons,id_eq];cases q[n]<;>rfl
theorem zuQ {q:PQ}{n:Nat}(o:Option zp)(h:n<q.length):zfA (q.set n o)=zfA (q.take n)++(o.toList++zfA (q.drop (n+1))):=by
 have:=zpk (q:=q.set n o) (n:=n) (o:=o) (by simp[h]);rwa [List.take_set_of_le (Nat.le_refl _),List.drop_set_of_lt (by omega)]at this
theorem zjV.before {q:PQ}(hq:zjV q){n:Nat}{y:zp}(h:y∈zfA (q.take n)):y.client<n:=by
 obtain⟨i,hi⟩:=zrC h;rw[List.getElem?_take]at hi;split at hi
 ·have:=(hq.at_ i y hi).1;omega
 ·cases hi
theorem zjV.behind {q:PQ}(hq:zjV q){n:Nat}{y:zp}(h:y∈zfA (q.drop (n+1))):(n:Int)<y.client:=by
 obtain⟨i,hi⟩:=zrC h;rw[List.getElem?_drop]at hi;have:=(hq.at_ _ y hi).1;omega
theorem of_wait {q:PQ}{c:Int}{x:zp}(h:ofF q c=some x):x∈zfA q:=by
 obtain⟨_,_,h⟩:=ofF_some h;simp only[zfA,List.mem_filterMap,id_eq,exists_eq_right];exact List.mem_of_getElem? h
theorem zjV.client {q:PQ}(hq:zjV q){c:Int}{x:zp}(h:ofF q c=some x):x.client=c:=by
 obtain⟨h0,h8,hg⟩:=ofF_some h;have:=(hq.at_ _ x hg).1;omega
theorem zjV.of_none {q:PQ}(hq:zjV q){c:Int}(h:∀y∈zfA q,y.client≠c):ofF q c=none:=by
 cases ho:ofF q c with
 | none=>rfl
 | some x=>exact absurd (hq.client ho) (h x (of_wait ho))
theorem zyG {α:Type}{l:List α}{p:α->Bool}(h:∀x∈l,p x=true):l.filter p=l:=List.filter_eq_self.2 h
theorem zjV.without {q:PQ}(hq:zjV q){c:Int}(h0:0<=c)(h8:c<8):(zfA q).filter (fun y=>y.client != c)=zfA (q.set c.toNat none):=by
 have hl:=hq.len;have hg:=hq.get h0 h8;rw[zpk hg,zuQ none (by omega)];simp only[List.filter_append,Option.toList_none,List.nil_append];rw[zyG (l:=zfA (q.take c.toNat)) fun y hy=>by have:=hq.before hy;simp;omega,zyG (l:=zfA (q.drop (c.toNat+1))) fun y hy=>by have:=hq.behind hy;simp;omega];congr 1;cases ho:ofF q c with
 | none=>rfl
 | some x=>simp[hq.client ho]
theorem zjV.place {q:PQ}(hq:zjV q){c:Int}(h0:0<=c)(h8:c<8){k:Nat}(hlo:∀y∈(zfA (q.set c.toNat none)).take k,y.client<c)(hk:k<=(zfA (q.set c.toNat none)).length)
  (hhi:∀y,(zfA (q.set c.toNat none))[k]? = some y->¬y.client<c) (x:zp) :
  (zfA (q.set c.toNat none)).take k++(x::(zfA (q.set c.toNat none)).drop k)=zfA (q.set c.toNat (some x)):=by
 have hl:=hq.len;have e:=zuQ (q:=q) none (show c.toNat<q.length by omega);have e2:=zuQ (q:=q) (some x) (show c.toNat<q.length by omega);simp only[Option.toList_none,List.nil_append,Option.toList_some]at e e2;obtain⟨A,hA⟩:∃A,zfA (q.take c.toNat)=A:=⟨_,rfl⟩;obtain⟨B,hB⟩:∃B,zfA (q.drop (c.toNat+1))=B:=⟨_,rfl⟩;have hAlt:∀y∈A,y.client<c:=fun y hy=>by rw[← hA]at hy;have:=hq.before hy;omega
 have hBgt:∀y∈B,c<y.client:=fun y hy=>by rw[← hB]at hy;have:=hq.behind hy;omega
 rw[hA,hB]at e e2;rw[e]at hlo hk hhi ⊢;rw[e2];have hkA:k=A.length:=by
  rcases Nat.lt_trichotomy k A.length with h|h|h
  ·exact absurd (hAlt A[k] (List.getElem_mem h)) (hhi A[k] (by rw[List.getElem?_append_left h];simp[h]))
  ·exact h
  ·exfalso;rw[List.length_append]at hk;have hb:B[0]? = some (B[0]'(by omega)):=List.getElem?_eq_getElem _;have hm:B[0]'(by omega)∈(A++B).take k:=by
    refine List.mem_of_getElem? (i:=A.length) ?_;rw[List.getElem?_take,if_pos h,List.getElem?_append_right (Nat.le_refl _),Nat.sub_self];exact hb
   have h1:=hlo _ hm;have h2:=hBgt _ (List.getElem_mem (show 0<B.length by omega));omega
 subst hkA;simp
def prevC (w:List zp):Nat->Int
 | 0=>-1
 | k+1=>match w[k]? with|some x=>x.client|none=>-1
theorem zjV.push {q:PQ}(hq:zjV q){x:zp}(hx:zD [x]=0)(hlt:∀y∈zfA q,y.client<x.client):canPut q x=true/\zfA (putQ q x)=zfA q++[x]:=by
 obtain⟨h0,h8,_⟩:=one_ok hx;have hl:=hq.len;have hno:ofF q x.client=none:=hq.of_none fun y hy=>by have:=hlt y hy;omega
 have hc:canPut q x=true:=by simp[canPut,hx,hno,mayPut]
 refine⟨hc,?_⟩;have hg:=hq.get h0 h8;rw[hno]at hg;rw[putQ,if_pos hc,zuQ _ (by omega),zpk hg];have hB:zfA (q.drop (x.client.toNat+1))=[]:=by
  rw[List.eq_nil_iff_forall_not_mem];intro y hy;have h1:=hq.behind hy;have h2:=hlt y (by rw[zpk hg];simp[hy]);omega
 rw[hB];simp
theorem zjV.prev {q:PQ}(hq:zjV q){k:Nat}{x:zp}(hx:(zfA q)[k]? = some x):prevC (zfA q) k<x.client:=by
 have hxm:=List.mem_of_getElem? hx;obtain⟨i,hi⟩:=zrC hxm;have hxc:=(hq.at_ i x hi).1;cases k with
 | zero=>simp only[prevC];omega
 | succ k=>
  have hk:=(List.getElem?_eq_some_iff.1 hx).1
  have hy:(zfA q)[k]? = some ((zfA q)[k]'(by omega)):=List.getElem?_eq_getElem _
  simp only[prevC,hy]
  have hp:(zfA q).Pairwise fun a b=>a.client<b.client:=by
   have key:∀(l:PQ) (a:Nat),(∀(i:Nat) x,l[i]? = some (some x)->x.client=((a+i:Nat):Int))->(l.filterMap id).Pairwise fun a b=>a.client<b.client:=by
    intro l;induction l with
    | nil=>intro a _;simp
    | cons o l ih=>
     intro a h
     have hr:=ih (a+1) fun i x hi=>by have:=h (i+1) x (by simpa using hi);rw[this];congr 1;omega
     cases o with
     | none=>simpa using hr
     | some x=>
      simp only[List.filterMap_cons,id_eq,List.pairwise_cons]
      refine⟨fun y hy=>?_,hr⟩
      obtain⟨j,hj⟩:=zrC (q:=l) hy
      have h1:=h 0 x rfl
      have h2:=h (j+1) y (by simpa using hj)
      omega
   exact key q 0 fun i x hi=>by have:=(hq.at_ i x hi).1;simpa using this
  have:=List.pairwise_iff_getElem.1 hp k (k+1) (by omega) hk (by omega)
  obtain⟨_,rfl⟩:=List.getElem?_eq_some_iff.1 hx
  exact this
theorem okB_bulk {b:List zp}{n:Nat}(h:zds (zbA b)<=n)(hn:n<=1048576):okB b:=by
 obtain⟨h1,h2⟩:=leB_bulk h;refine⟨by omega,fun x hx=>?_⟩;obtain⟨h3,h4⟩:=h2 x hx;unfold zbA at h;have:=zhh (f:=zaw) hx;simp only[zaw,zcR,zfT]at this;exact⟨by omega,by omega,by omega,fun r hr=>by have:=h4 r hr;omega⟩
structure TStep where
 what:Int
 s:zp
 client:Int
 time:Int
 opn:List (List zp)
def uptoL (n:Nat):List Int:=(List.range n).map Int.ofNat
theorem uptoL_next (n:Nat):uptoL (n+1)=uptoL n++[(n:Int)]:=by
 simp[uptoL,List.range_succ]
def zmn (L:List (List UInt8)) (b:List UInt8) (d:Int):Prop:=∃i,zhE L b=some i/\d=((i+1:Nat):Int)
theorem zmn.pre {L L':List (List UInt8)}{b:List UInt8}{d:Int}(h:zmn L b d)(hp:L <+: L'):zmn L' b d:=by
 obtain⟨i,h1,h2⟩:=h;obtain⟨m,rfl⟩:=hp;exact⟨i,look_more h1,h2⟩
theorem zmn.pos {L:List (List UInt8)}{b:List UInt8}{d:Int}(h:zmn L b d):1<=d/\d<=L.length:=by
 obtain⟨i,h1,h2⟩:=h;have:=(zuU h1).1;omega
theorem zmn.inj {L:List (List UInt8)}{a b:List UInt8}{d:Int}(ha:zmn L a d)(hb:zmn L b d):a=b:=by
 obtain⟨i,h1,h2⟩:=ha;obtain⟨j,h3,h4⟩:=hb;have:i=j:=by omega
 subst this;have:=(zuU h1).2;rw[(zuU h3).2]at this;exact(Option.some.inj this).symm
theorem zmn.one {L:List (List UInt8)}{b:List UInt8}{d e:Int}(ha:zmn L b d)(hb:zmn L b e):d=e:=by
 obtain⟨i,h1,h2⟩:=ha;obtain⟨j,h3,h4⟩:=hb;rw[h1]at h3;cases h3;omega
theorem zmn.sum {L:List (List UInt8)}{b:List UInt8}{d:Int}(h:zmn L b d):zhT L b=d/\zfX L b=L:=by
 obtain⟨i,h1,h2⟩:=h;unfold zhT zfX;rw[h1];exact⟨by simp only;omega,rfl⟩
inductive zmQ (L:List (List UInt8)):List (List UInt8)->Int->Prop
 | nil (d:Int):zmn L [2] d->zmQ L [] d
 | one (x:List UInt8) (d:Int):zmn L (leafB x) d->zmQ L [x] d
 | two (l:List (List UInt8)) (a b d:Int):2<=l.length->zmQ L (l.take (zcF l.length)) a->zmQ L (l.drop (zcF l.length)) b->zmn L (nodeB a b) d->zmQ L l d
theorem zmQ.pre {L L':List (List UInt8)}{l:List (List UInt8)}{d:Int}(h:zmQ L l d)(hp:L <+: L'):zmQ L' l d:=by
 induction h with
 | nil d h=>exact .nil d (h.pre hp)
 | one x d h=>exact .one x d (h.pre hp)
 | two l a b d h2 _ _ hn ih1 ih2=>exact .two l a b d h2 ih1 ih2 (hn.pre hp)
theorem zmQ.num {L l:List (List UInt8)}{d:Int}(h:zmQ L l d):1<=d/\d<=L.length:=by
 cases h with
 | nil _ h=>exact h.pos
 | one _ _ h=>exact h.pos
 | two _ _ _ _ _ _ _ h=>exact h.pos
theorem zmQ.rootF {L l:List (List UInt8)}{d:Int}(h:zmQ L l d):rootF L l=(d,L):=by
 induction h with
 | nil d h=>rw[rootF_0,h.sum.1,h.sum.2]
 | one x d h=>rw[rootF_1,h.sum.1,h.sum.2]
 | two l a b d h2 _ _ hn ih1 ih2=>rw[rootF_2 h2,ih1];simp only;rw[ih2];simp only;rw[hn.sum.1,hn.sum.2]
theorem zvG:∀(n:Nat) (A:List Int),A.Nodup->(∀x∈A,0<=x/\x<n)->A.length<=(uptoL n).countP (fun i=>decide (i∈A))
 | 0,A,_,h=>by
  cases A with
  | nil=>simp
  | cons x A=>have:=h x (by simp);omega
 | n+1,A,hA,h=>by
  have hE:(A.erase (n:Int)).Nodup:=hA.erase _;have ih:=zvG n (A.erase (n:Int)) hE fun x hx=>by
   have:=(List.Nodup.mem_erase_iff hA).1 hx;have:=h x this.2;omega
  have hm:(uptoL n).countP (fun i=>decide (i∈A.erase (n:Int)))<=(uptoL n).countP (fun i=>decide (i∈A)):=
   List.countP_mono_left fun x hx hp=>by
    have hp:x∈A.erase (n:Int):=by simpa using hp
    simpa using List.mem_of_mem_erase hp
  rw[uptoL_next,List.countP_append];by_cases hn:(n:Int)∈A
  ·have e:[(n:Int)].countP (fun i=>decide (i∈A))=1:=by simp[List.countP_cons,hn]
   have l:=List.length_erase_of_mem hn;have:0<A.length:=List.length_pos_of_mem hn;omega
  ·rw[List.erase_of_not_mem hn]at ih hm;omega
end Go.AW
