/- Byte strings and their numbers; what was signed. No program in sight. -/
import Derived.Test.YtdgcepphjnoalaaGreatSpNum
import Derived.Test.YtdgcepphjnoalaaGreatAwLoop
set_option linter.all false
namespace Go.AW
def zjB:List (List UInt8)->List UInt8->Nat->Option Nat
 | [],_,_=>none
 | x::r,b,i=>if b=x then some i else zjB r b (i+1)
def zhJ (l:List (List UInt8)) (b:List UInt8):Option Nat:=zjB l b 0
def zou:Option Nat->Int
 | some i=>((i+1:Nat):Int)
 | none=>0
def zhY (l:List (List UInt8)) (b:List UInt8):Int:=match zhJ l b with
 | some i=>((i+1:Nat):Int)
 | none=>if l.length≥1048576 then 0 else((l.length+1:Nat):Int)
def zga (l:List (List UInt8)) (b:List UInt8):List (List UInt8):=match zhJ l b with
 | some _=>l
 | none=>if l.length≥1048576 then l else l++[b]
abbrev zvH (l:List (List UInt8)):List (List D):=l.map fun b=>[D.slice (bcs b)]
def zxG:List (List UInt8)->Nat->List (AV × AV)
 | [],_=>[]
 | x::r,i=>(.d (.str x),.d (.int .i64 ((i+1:Nat):Int)))::zxG r (i+1)
def tabM (l:List (List UInt8)):List (AV × AV):=zxG l 0
theorem zyv (b:List UInt8):∀(l:List (List UInt8)) (i:Nat),zoC .str (.d (.str b)) (zxG l i) i=some ((zjB l b i).map fun k=>(k,.d (.int .i64 ((k+1:Nat):Int))))
 | [],_=>rfl
 | x::r,i=>by
  simp only[zxG,zoC,ziA,zjB];by_cases h:b=x
  ·simp[h]
  ·have:(b==x)=false:=by simpa using h
   simp only[this,if_neg h];exact zyv b r (i+1)
theorem mfind_tab (l:List (List UInt8))(b:List UInt8):zoC .str (.d (.str b)) (tabM l) 0=some ((zhJ l b).map fun k=>(k,.d (.int .i64 ((k+1:Nat):Int)))):=zyv b l 0
theorem tabMA_add (x:List UInt8):∀(l:List (List UInt8)) (i:Nat),zxG (l++[x]) i=zxG l i++[(.d (.str x),.d (.int .i64 ((i+l.length+1:Nat):Int)))]
 | [],i=>by simp[zxG]
 | y::r,i=>by
  simp only[List.cons_append,zxG,tabMA_add x r (i+1),List.length_cons];rw[show i+1+r.length+1=i+(r.length+1)+1 by omega]
theorem tabM_add (l:List (List UInt8))(x:List UInt8):tabM l++[(.d (.str x),.d (.int .i64 ((l.length+1:Nat):Int)))]=tabM (l++[x]):=by
 unfold tabM;rw[tabMA_add];simp
theorem lookAt_lt {b:List UInt8}:∀ {l:List (List UInt8)} {i k:Nat},zjB l b i=some k->i<=k/\k<i+l.length/\l[k-i]? = some b
 | [],_,_,h=>by simp[zjB]at h
 | x::r,i,k,h=>by
  simp only[zjB]at h;split at h
  ·rename_i e;cases h;subst e;simp
  ·obtain⟨h1,h2,h3⟩:=lookAt_lt h;refine⟨by omega,by simp;omega,?_⟩;obtain⟨m,hm⟩:∃m,k-i=m+1:=⟨k-i-1,by omega⟩;rw[hm,List.getElem?_cons_succ];rw[show k-(i+1)=m by omega]at h3;exact h3
theorem zvh {l:List (List UInt8)}{b:List UInt8}{k:Nat}(h:zhJ l b=some k):k<l.length/\l[k]? = some b:=by
 have:=lookAt_lt h;simpa using this.2
theorem zpH {b:List UInt8}{m:List (List UInt8)}:∀ {l:List (List UInt8)} {i:Nat},zjB (l++m) b i=match zjB l b i with|some k=>some k|none=>zjB m b (i+l.length)
 | [],i=>by simp[zjB]
 | x::r,i=>by
  simp only[List.cons_append,zjB,List.length_cons];split
  ·rfl
  ·rw[zpH,show i+1+r.length=i+(r.length+1) by omega]
theorem look_next {l:List (List UInt8)}{b x:List UInt8}{k:Nat}(h:l[k]? = some x)(h0:zhJ (l.take k) b=none)(hx:(x==b)=false):zhJ (l.take (k+1)) b=none:=by
 have e:¬b=x:=fun e=>by subst e;simp at hx
 rw[List.take_add_one,h];unfold zhJ at h0 ⊢;rw[zpH,h0];simp[zjB,e]
theorem look_hit {l:List (List UInt8)}{b x:List UInt8}{k:Nat}(h:l[k]? = some x)(h0:zhJ (l.take k) b=none)(hx:(x==b)=true):zhJ l b=some k:=by
 have e:x=b:=by simpa using hx
 subst e;obtain⟨hk,hh⟩:=List.getElem?_eq_some_iff.1 h;have e2:l=l.take k++(x::l.drop (k+1)):=by rw[← hh,List.getElem_cons_drop,List.take_append_drop]
 rw[e2];unfold zhJ at h0 ⊢;rw[zpH,h0];simp[zjB];omega
theorem zyz {l:List (List UInt8)}{b:List UInt8}(h:b∉l):zhJ l b=none:=by
 cases e:zhJ l b with
 | none=>rfl
 | some k=>exact absurd (List.mem_of_getElem? (zvh e).2) h
theorem zzY {l:List (List UInt8)}{b:List UInt8}(h:zhJ l b=none):b∉l:=by
 have key:∀(l:List (List UInt8)) (i:Nat),zjB l b i=none->b∉l:=by
  intro l;induction l with
  | nil=>intro i _;simp
  | cons x r ih=>
   intro i h
   simp only[zjB]at h
   split at h
   ·cases h
   ·rename_i hne
    simp only[List.mem_cons,not_or]
    exact⟨hne,ih _ h⟩
 exact key l 0 h
theorem look_more {l m:List (List UInt8)}{b:List UInt8}{k:Nat}(h:zhJ l b=some k):zhJ (l++m) b=some k:=by
 unfold zhJ at h ⊢;rw[zpH,h]
abbrev ztZ (l:List zI):List (List D):=zat l
def zxF (l:List zI):List (AV × AV):=l.map fun s=>(.agg [.d (.int .i64 s.key),.d (.int .i64 s.dig)],.d (.bool true))
def ledAt:List zI->zI->Nat->Option Nat
 | [],_,_=>none
 | x::r,s,i=>if s=x then some i else ledAt r s (i+1)
theorem sign_keyEq (s x:zI):ziA (.ints 2) (.agg [.d (.int .i64 s.key),.d (.int .i64 s.dig)]) (.agg [.d (.int .i64 x.key),.d (.int .i64 x.dig)])=some (decide (s=x)):=by
 have e:s=x↔s.key=x.key/\s.dig=x.dig:=by cases s;cases x;simp
 by_cases h1:s.key=x.key
 ·by_cases h2:s.dig=x.dig
  ·rw[decide_eq_true (e.2 ⟨h1,h2⟩)];simp[ziA,zch,h1,h2]
  ·rw[decide_eq_false (fun h=>h2 (e.1 h).2)];have h2':(s.dig==x.dig)=false:=by simpa using h2
   simp[ziA,zch,h1,h2']
 ·rw[decide_eq_false (fun h=>h1 (e.1 h).1)];have h1':(s.key==x.key)=false:=by simpa using h1
  simp[ziA,zch,h1'];try exact fun h=>absurd h h1
theorem zth (s:zI):∀(l:List zI) (i:Nat),zoC (.ints 2) (.agg [.d (.int .i64 s.key),.d (.int .i64 s.dig)]) (zxF l) i=some ((ledAt l s i).map fun k=>(k,.d (.bool true)))
 | [],_=>rfl
 | x::r,i=>by
  have ih:=zth s r (i+1);simp only[zxF]at ih;simp only[zxF,List.map_cons,zoC,sign_keyEq,ledAt];by_cases h:s=x
  ·simp[h]
  ·rw[decide_eq_false h,if_neg h];exact ih
theorem ztj {s:zI}:∀ {l:List zI} {i:Nat},ledAt l s i=none↔s∉l
 | [],i=>by simp[ledAt]
 | x::r,i=>by
  simp only[ledAt,List.mem_cons,not_or];by_cases h:s=x
  ·simp[h]
  ·rw[if_neg h,ztj];simp[h]
theorem zrY {l:List zI}{s:zI}(h:s∈l):∃k,zoC (.ints 2) (.agg [.d (.int .i64 s.key),.d (.int .i64 s.dig)]) (zxF l) 0=some (some (k,.d (.bool true))):=by
 rw[zth];cases e:ledAt l s 0 with
 | none=>exact absurd h (ztj.1 e)
 | some k=>exact⟨k,rfl⟩
theorem ztY {l:List zI}{s:zI}(h:s∉l):zoC (.ints 2) (.agg [.d (.int .i64 s.key),.d (.int .i64 s.dig)]) (zxF l) 0=some none:=by
 rw[zth,ztj.2 h];rfl
theorem ledM_add (l:List zI)(s:zI):zxF l++[(.agg [.d (.int .i64 s.key),.d (.int .i64 s.dig)],.d (.bool true))]=zxF (l++[s]):=by simp[zxF]
def zzH (l:List zI) (s:zI):List zI:=if s∈l then l else l++[s]
def zgX (k d:Int):Int:=if k<0∨k≥21 then 20 else if d<1 then 1 else 0
theorem zfc {n:Nat}{σ' τ:List AObj}{K:KT}{l:List AV}(hn:σ'.length=n)(h1:Low n (dmT (zcm l)))(hl:zhp n σ')(h:K (dmT (zcm l)) σ'):Ends n K (some l) (σ'++τ):=by
 subst hn;unfold Ends;rw[zmY];exact⟨h1,hl,h⟩
theorem zkl {σ τ:List AObj}{id t:Nat}{es:List (List D)}{X:AObj}{K:KT}{l:List AV}(hT:σ[id]? = some X)(h1:Low σ.length (dmT (zcm l)))(hl:zhp σ.length σ)
  (h:K (dmT (zcm l)) (σ.set id (.box [.d (.slice es)]))):EndsW σ.length K (some l) (σ.set id (.box [.own t es])++τ):=by
 refine⟨_,.dataB id 0 [.own t es] (.own t es) es (zi (zdu hT)) rfl rfl (.refl _ _),?_⟩;rw[zdl (zdu hT),List.set_set];refine zeP h1 hl ?_ h;intro c hc;simp only[List.set_cons_zero,List.mem_cons,List.not_mem_nil,or_false]at hc;subst hc;exact .d _
def numR (most:Nat):Nat->Nat->List UInt8->Except Int (Nat × List UInt8)
 | _,_,[]=>.error 10
 | i,acc,c::r=>
  if i=9/\c.toNat>1 then .error 11
  else if c.toNat<128 then(if (i>0/\c.toNat=0)∨acc+c.toNat*128 ^ i>most then .error 11 else .ok (acc+c.toNat*128 ^ i,r))
  else numR most (i+1) (acc+c.toNat % 128*128 ^ i) r
def znC (x:zr):List UInt8:=zbv x.client.toNat++(zbv x.time.toNat++opB x.op)
def zbV (x:zr):List UInt8:=if zT x=0 then znC x else []
def zgu (k d:Int):List UInt8:=zbv k.toNat++zbv d.toNat
def zcv (k d:Int):List UInt8:=if zx k d=0 then zgu k d else []
def oneB (x:zr):List UInt8:=zkr (znC x)++zgu x.key x.dig
def zdN (l:List zr):List UInt8:=(l.map oneB).flatten
def zhl (l:List zr):List UInt8:=zbv l.length++zdN l
def zdM (l:List zr):List UInt8:=if zD l=0 then zhl l else []
theorem req_ok {x:zr}(h:zT x=0):0<=x.client/\x.client<8/\1<=x.time/\x.time<=9007199254740992/\zaN zev x.op=0:=by
 unfold zT at h;split at h
 ·cases h
 ·refine⟨by omega,by omega,by omega,by omega,h⟩
theorem sign_ok {k d:Int}(h:zx k d=0):0<=k/\k<21/\1<=d/\d<=9007199254740992:=by
 unfold zx at h;split at h
 ·cases h
 ·omega
theorem errs_mem {l:List zr}(h:znZ l=0):∀x∈l,zyK x=0:=by
 induction l with
 | nil=>simp
 | cons s r ih=>
  simp only[znZ]at h
  split at h
  ·rename_i hs;exact absurd h hs
  ·rename_i hs
   intro x hx
   rcases List.mem_cons.1 hx with rfl|hx
   ·simpa using hs
   ·exact ih h x hx
theorem zkc {l:List zr}(h:zD l=0):l.length<=4/\(∀x∈l,zT x=0/\zx x.key x.dig=0)/\l.Pairwise ndup:=by
 unfold zD at h;split at h
 ·cases h
 ·split at h
  ·rename_i h1;exact absurd h h1
  ·split at h
   ·rename_i h0 h1 h2;refine⟨by omega,fun x hx=>?_,h2⟩;have:=errs_mem (by simpa using h1) x hx;unfold zyK at this;split at this
    ·rename_i h3;exact absurd this h3
    ·rename_i h3;exact⟨by simpa using h3,this⟩
   ·cases h
theorem opB_len {o:TOp}(h:zmW o<=268435456)(hc:zaN zev o=0):(opB o).length<=zmW o+60:=by
 obtain⟨k0,k4,o0,o1,_⟩:=zvn hc;have hr:=zmZ o.recs;have hrb:=zlZ o.recs (by unfold zmW at h;omega) o.recs.length;rw[List.take_length]at hrb;unfold zmW at h ⊢;have n1:=zl (n:=o.kind.toNat) (by omega);have n2:=zl (n:=o.topic.length) (by omega);have n3:=zl (n:=o.group.length) (by omega);have n4:=zl (n:=o.offset.toNat) (by omega);have n5:=zl (n:=o.recs.length) (by omega);have hk:o.kind=0∨o.kind=1∨o.kind=2∨o.kind=3∨o.kind=4:=by omega
 rcases hk with hk|hk|hk|hk|hk
 ·rw[opB_0 hk];omega
 ·rw[opB_1 hk];simp only[List.length_append];omega
 ·rw[opB_2 hk];simp only[List.length_append];omega
 ·rw[opB_3 hk];simp only[List.length_append];omega
 ·rw[opB_4 hk];simp only[List.length_append];omega
theorem zpw {x:zr}(h:zmW x.op<=268435456)(hc:zT x=0):(znC x).length<=zmW x.op+80:=by
 obtain⟨c0,c8,t1,t2,ho⟩:=req_ok hc;have:=opB_len h ho;have n1:=zl (n:=x.client.toNat) (by omega);have n2:=zl (n:=x.time.toNat) (by omega);simp only[znC,List.length_append];omega
theorem zgC {k d:Int}(h:zx k d=0):(zgu k d).length<=20:=by
 obtain⟨k0,k1,d0,d1⟩:=sign_ok h;have n1:=zl (n:=k.toNat) (by omega);have n2:=zl (n:=d.toNat) (by omega);simp only[zgu,List.length_append];omega
theorem oneB_len {x:zr}(h:zmW x.op<=20971520)(h1:zT x=0)(h2:zx x.key x.dig=0):(oneB x).length<=20971700:=by
 have a:=zpw (by omega) h1;have b:=zgC h2;have c:=zdm (x:=znC x) (by omega);simp only[oneB,List.length_append];omega
theorem zxb {l:List zr}(h:∀x∈l,zmW x.op<=20971520)(hc:zD l=0)(k:Nat):(zdN (l.take k)).length<=83886800:=by
 obtain⟨h4,hm,_⟩:=zkc hc;have key:∀(m:List zr),(∀x∈m,x∈l)->(zdN m).length<=m.length*20971700:=by
  intro m;induction m with
  | nil=>intro _;simp[zdN]
  | cons x m ih=>
   intro hsub
   have h1:=ih fun y hy=>hsub y (by simp[hy])
   have hx:=hsub x (by simp)
   have h2:=oneB_len (h x hx) (hm x hx).1 (hm x hx).2
   simp only[zdN,List.map_cons,List.flatten_cons,List.length_append,List.length_cons]at h1 ⊢
   omega
 have:=key (l.take k) fun x hx=>List.mem_of_mem_take hx;have h5:(l.take k).length<=4:=by rw[List.length_take];omega
 have h6:(l.take k).length*20971700<=4*20971700:=Nat.mul_le_mul_right _ h5;omega
theorem zoS {l:List zr}{k:Nat}{x:zr}(h:l[k]? = some x):zdN (l.take (k+1))=zdN (l.take k)++oneB x:=by
 rw[List.take_add_one,h];simp[zdN]
theorem ztV {x:zr}(h:zmW x.op<=20971520):(zbV x).length<=20971600:=by
 unfold zbV;split
 ·rename_i hc;have:=zpw (by omega) hc;omega
 ·simp
abbrev zhZ (l:List Int):List (List D):=l.map fun t=>[D.int .i64 t]
def zvX (x:Int):Bool:=decide (0<=x/\x<=9007199254740992)
def mayV (a b c d:Int):Bool:=zvX a&&(zvX b&&(zvX c&&zvX d))
def zS (l:List Int):List UInt8:=(l.map fun x=>zbv x.toNat).flatten
def zvB (a b c d:Int):List UInt8:=4::zS [a,b,c,d]
theorem zvW {x:Int}:zvX x=true↔0<=x/\x<=9007199254740992:=by simp[zvX]
theorem zpy {l:List Int}{k:Nat}{x:Int}(h:l[k]? = some x):zS (l.take (k+1))=zS (l.take k)++zbv x.toNat:=by
 rw[List.take_add_one,h];simp[zS]
theorem zot {l:List Int}(h:∀x∈l,x<9223372036854775808):(zS l).length<=l.length*10:=by
 induction l with
 | nil=>simp[zS]
 | cons x l ih=>
  have h1:=h x (by simp)
  have h2:=zl (n:=x.toNat) (by omega)
  have h3:=ih fun y hy=>h y (by simp[hy])
  simp only[zS,List.map_cons,List.flatten_cons,List.length_append,List.length_cons]at h3 ⊢
  omega
theorem mayV_all (a b c d:Int):mayV a b c d=[a,b,c,d].all zvX:=by simp[mayV]
def zir (L:List (List UInt8)) (G:List zI) (s:zI) (key:Int) (b:List UInt8):Bool:=match zhJ L b with
 | some i=>decide (s.key=key/\s.dig=((i+1:Nat):Int))&&decide (s∈G)
 | none=>false
structure zsN where
 seq:Int
 prev:Int
 batch:Int
 root:Int
 state:Int
deriving DecidableEq
def hdrL (h:zsN):List Int:=[h.seq,h.prev,h.batch,h.root,h.state]
abbrev zsb (h:zsN):List D:=[.int .i64 h.seq,.int .i64 h.prev,.int .i64 h.batch,.int .i64 h.root,.int .i64 h.state]
abbrev hdrA (h:zsN):AV:=.agg [.d (.int .i64 h.seq),.d (.int .i64 h.prev),.d (.int .i64 h.batch),.d (.int .i64 h.root),.d (.int .i64 h.state)]
abbrev zmw (l:List zsN):List (List D):=l.map zsb
def hdrOk (h:zsN):Bool:=(hdrL h).all zvX
def hdrB (h:zsN):List UInt8:=3::zS (hdrL h)
structure znA where
 topic:List UInt8
 offset:Int
 rec_:List UInt8
def placedB (p:znA):List UInt8:=zkr p.topic++(zbv p.offset.toNat++zkr p.rec_)
def zax:List Int->Int
 | []=>0
 | e::r=>if e≠0 then e else zax r
theorem zeH (a b:List Int):zax (a++b)=if zax a≠0 then zax a else zax b:=by
 induction a with
 | nil=>simp[zax]
 | cons e r ih=>
  simp only[List.cons_append,zax,ih]
  by_cases h:e=0
  ·simp[h]
  ·simp[h]
theorem zgK {a b:List Int}(h:zax a=0):zax (a++b)=zax b:=by rw[zeH,if_neg (by simpa using h)]
theorem zhK {a b:List Int}(h:zax a≠0):zax (a++b)=zax a:=by rw[zeH,if_pos h]
def znX (e x:Int):Int:=if e≠0 then e else x
theorem thn_fst (e:Int)(l:List Int):znX e (zax l)=zax (e::l):=rfl
def inE (n lo hi:Int):Int:=if n<lo∨n>hi then 100 else 0
def zeU (n:Int):Int:=inE n 0 9007199254740992
def zks (n:Int):Int:=inE n 1 9007199254740992
def zlg (s:List UInt8):Int:=if zev s=true then 0 else 61
def zco (l:List zI):List Int:=inE l.length 0 13::l.map fun s=>zx s.key s.dig
def zfe (c:zjy):Int:=if ((c.seq=0)≠(c.dig=0))∨(c.seq=0/\0<c.signs.length)then 100 else 0
def zbx (c:zjy):List Int:=zeU c.seq::zeU c.dig::zfe c::zco c.signs
def zhi (h:zsN):List Int:=[zks h.seq,zeU h.prev,zeU h.batch,zeU h.root,zeU h.state]
structure zfl where
 topic:List UInt8
 offset:Int
 rec_:List UInt8
 headers:List zsN
 index:Int
 count:Int
 path:List Int
 cert:zjy
abbrev proofD (p:zfl):List D:=[.str p.topic,.int .i64 p.offset,.slice (bcs p.rec_),.slice (zmw p.headers),.int .i64 p.index,.int .i64 p.count,.slice (zhZ p.path),.int .i64 p.cert.seq,.int .i64 p.cert.dig,.slice (zat p.cert.signs)]
abbrev znD (p:zfl):AV:=.agg [.d (.str p.topic),.d (.int .i64 p.offset),.d (.slice (bcs p.rec_)),.d (.slice (zmw p.headers)),.d (.int .i64 p.index),.d (.int .i64 p.count),.d (.slice (zhZ p.path)),.d (.int .i64 p.cert.seq),.d (.int .i64 p.cert.dig),.d (.slice (zat p.cert.signs))]
abbrev zhO (c:zjy):AV:=.agg [.d (.int .i64 c.seq),.d (.int .i64 c.dig),.d (.slice (zat c.signs))]
def zgE (p:zfl):List Int:=[zlg p.topic,zeU p.offset,inE p.rec_.length 0 64,inE p.headers.length 0 64]
def zfH (p:zfl):List Int:=[zeU p.index,inE p.count 0 16]
def zhu (p:zfl):List Int:=[inE p.index 0 (p.count-1),inE p.path.length 0 8]
def zcU (p:zfl):List Int:=zgE p++((p.headers.map zhi).flatten++(zfH p++(zhu p++(p.path.map zeU++zbx p.cert))))
def zmk (p:zfl):Int:=zax (zcU p)
theorem zkG {n lo hi:Int}(h:inE n lo hi=0):lo<=n/\n<=hi:=by
 unfold inE at h;split at h
 ·cases h
 ·omega
theorem zrT {n:Int}(h:zeU n=0):0<=n/\n<=9007199254740992:=zkG h
structure zbC where
 kind:Int
 src:Int
 view:Int
 seq:Int
 dig:Int
 client:Int
 time:Int
 rerr:Int
 roff:Int
 batch:List zr
 cert:zjy
 changes:List zbj
 entries:List zhT
 state:List UInt8
 topic:List UInt8
 offset:Int
 proof:zfl
 key:Int
 sdig:Int
def zCert:zjy:=⟨0,0,[]⟩
def zsX:zfl:=⟨[],0,[],[],0,0,[],zCert⟩
def zeu:zbC:=⟨0,0,0,0,0,0,0,0,0,[],zCert,[],[],[],[],0,zsX,0,0⟩
abbrev msgL (m:zbC):List AV:=
 [.d (.int .i64 m.kind),.d (.int .i64 m.src),.d (.int .i64 m.view),.d (.int .i64 m.seq),.d (.int .i64 m.dig),.d (.int .i64 m.client),.d (.int .i64 m.time),.d (.int .i64 m.rerr),.d (.int .i64 m.roff),.d (.slice (zbz m.batch)),
  .d (.int .i64 m.cert.seq),.d (.int .i64 m.cert.dig),.d (.slice (zat m.cert.signs)),.d (.slice (zap m.changes)),.d (.slice (zbo m.entries)),.d (.slice (bcs m.state)),.d (.str m.topic),.d (.int .i64 m.offset),
  .d (.str m.proof.topic),.d (.int .i64 m.proof.offset),.d (.slice (bcs m.proof.rec_)),.d (.slice (zmw m.proof.headers)),.d (.int .i64 m.proof.index),.d (.int .i64 m.proof.count),.d (.slice (zhZ m.proof.path)),.d (.int .i64 m.proof.cert.seq),.d (.int .i64 m.proof.cert.dig),.d (.slice (zat m.proof.cert.signs)),.d (.int .i64 m.key),.d (.int .i64 m.sdig)]
abbrev zgi (m:zbC):AV:=.agg (msgL m)
abbrev zlh (m:zbC):AObj:=.box (msgL m)
def zjF (n:Int):Int:=inE n 0 12
def zdX (p:zkd):List Int:=zeU p.view::zks p.seq::zks p.dig::zx p.fkey p.fdig::(zco p.signs++[zD p.batch])
def zez (c:zbj):List Int:=zks c.view::zjF c.src::(zbx c.cert++(inE c.above.length 0 8::(c.above.map zdX).flatten))
def zaT (c:zbj):List Int:=zez c++[zx c.key c.dig]
def zen (x:zhT):List Int:=[zeU x.view,zks x.seq,zD x.batch,zx x.key x.dig]
def zet (m:zbC):List Int:=[zjF m.src,zeU m.view,zks m.seq,zks m.dig]
def zfI (m:zbC):List Int:=zjF m.src::zks m.view::inE m.changes.length 0 13::((m.changes.map zaT).flatten++(inE m.entries.length 0 8::(m.entries.map zen).flatten))
def zeT (k:Int):Bool:=decide (2<=k/\k<=9/\k≠7)
def zC (m:zbC):List Int:=
 if m.kind=1 then [inE m.batch.length 1 1,zD m.batch]
 else if m.kind=2 then zet m++[zD m.batch]
 else if m.kind=3∨m.kind=4 then zet m
 else if m.kind=5 then [zjF m.src,zeU m.view,inE m.client 0 7,zeU m.time,inE m.rerr 0 65536,zeU m.roff]
 else if m.kind=6 then [zjF m.src,zks m.seq,zks m.dig]
 else if m.kind=7 then inE m.changes.length 1 1::(m.changes.map fun c=>zaT c++[if c.src≠m.src∨c.view≠m.view then 100 else 0]).flatten
 else if m.kind=8 then zfI m
 else if m.kind=9 then [zjF m.src,zeU m.seq]
 else if m.kind=10 then zjF m.src::(zbx m.cert++[inE m.state.length 0 262144])
 else if m.kind=11 then [inE m.client 0 7,zlg m.topic,zeU m.offset]
 else if m.kind=12 then zjF m.src::zcU m.proof
 else [100]
def zac (m:zbC):List Int:=zC m++(if zeT m.kind=true then [zx m.key m.sdig]else [])
def zfE (m:zbC):zbC:=
 if m.kind=1 then{ zeu with kind:=m.kind,batch:=m.batch }
 else if m.kind=2 then{ zeu with kind:=m.kind,src:=m.src,view:=m.view,seq:=m.seq,dig:=m.dig,batch:=m.batch,key:=m.key,sdig:=m.sdig }
 else if m.kind=3∨m.kind=4 then{ zeu with kind:=m.kind,src:=m.src,view:=m.view,seq:=m.seq,dig:=m.dig,key:=m.key,sdig:=m.sdig }
 else if m.kind=5 then{ zeu with kind:=m.kind,src:=m.src,view:=m.view,client:=m.client,time:=m.time,rerr:=m.rerr,roff:=m.roff,key:=m.key,sdig:=m.sdig }
 else if m.kind=6 then{ zeu with kind:=m.kind,src:=m.src,seq:=m.seq,dig:=m.dig,key:=m.key,sdig:=m.sdig }
 else if m.kind=7 then{ zeu with kind:=m.kind,src:=m.src,view:=m.view,changes:=m.changes }
 else if m.kind=8 then{ zeu with kind:=m.kind,src:=m.src,view:=m.view,changes:=m.changes,entries:=m.entries,key:=m.key,sdig:=m.sdig }
 else if m.kind=9 then{ zeu with kind:=m.kind,src:=m.src,seq:=m.seq,key:=m.key,sdig:=m.sdig }
 else if m.kind=10 then{ zeu with kind:=m.kind,src:=m.src,cert:=m.cert,state:=m.state }
 else if m.kind=11 then{ zeu with kind:=m.kind,client:=m.client,topic:=m.topic,offset:=m.offset }
 else if m.kind=12 then{ zeu with kind:=m.kind,src:=m.src,proof:=m.proof }
 else{ zeu with kind:=m.kind,src:=m.src }
deriving instance DecidableEq for zfl
deriving instance DecidableEq for zbC
def zbK (m:zbC):Int:=if zax (zac m)≠0 then zax (zac m)else if m=zfE m then 0 else 100
theorem zyO:∀ {f:Nat} {s:List UInt8} {n:Nat},zfk f s=some n->s.length<=4*n
 | 0,_,_,h=>by simp[zfk]at h
 | f+1,s,n,h=>by
  unfold zfk at h;split at h
  ·rename_i h0;simp[h0]
  ·split at h
   ·cases h
   ·simp only[Option.map_eq_some_iff]at h;obtain⟨k,hk,rfl⟩:=h;have h1:=zyO hk;have h2:=zmG s;simp only[List.length_drop]at h1;omega
theorem zyt {s:List UInt8}(h:zev s=true):s.length<=64:=by
 unfold zev ziQ at h;simp only[decide_eq_true_eq]at h;split at h
 ·rename_i n hn;have:=zyO hn;split at h
  ·omega
  ·omega
 ·omega
theorem op_small {o:TOp}(h:zaN zev o=0):zmW o<=500:=by
 obtain⟨k0,k4,o0,o1,ho⟩:=zvn h;unfold zaN at h;split at h
 ·cases h
 split at h
 ·cases h
 rename_i h1;split at h
 ·cases h
 rename_i h2;split at h
 ·cases h
 rename_i h3;have e1:o.topic=(zor o).topic:=congrArg _ ho;have e2:o.group=(zor o).group:=congrArg _ ho;have e3:o.recs=(zor o).recs:=congrArg _ ho;have hk:o.kind=0∨o.kind=1∨o.kind=2∨o.kind=3∨o.kind=4:=by omega
 have ht:o.kind≠0->o.topic.length<=64:=fun hk=>zyt (by simpa [hk] using h1);have hg:o.kind=3->o.group.length<=64:=fun hk=>zyt (by simpa [hk] using h2);have hr:o.kind=2->(o.recs.map fun r=>r.length+10).sum<=296:=by
  intro hk;simp only[hk,true_and,not_or,Int.not_lt]at h3;obtain⟨h4,h5,h6⟩:=h3;have h7:∀r∈o.recs,r.length<=64:=by
   intro r hr;simp only[List.any_eq_true,not_exists,not_and,decide_eq_true_eq]at h6;have:=h6 r hr;omega
  have key:∀l:List (List UInt8),(∀r∈l,r.length<=64)->(l.map fun r=>r.length+10).sum<=l.length*74:=by
   intro l;induction l with
   | nil=>simp
   | cons r l ih=>
    intro h
    have h8:=ih fun r hr=>h r (by simp[hr])
    have h9:=h r (by simp)
    simp only[List.map_cons,List.sum_cons,List.length_cons]
    omega
  have:=key o.recs h7;have:o.recs.length*74<=4*74:=Nat.mul_le_mul_right _ (by omega);omega
 unfold zmW;rcases hk with hk|hk|hk|hk|hk
 ·simp[zor,hk,noOp]at e1 e2 e3;simp[e1,e2,e3]
 ·simp[zor,hk,noOp]at e1 e2 e3;have:=ht (by omega);simp[e2,e3];omega
 ·simp[zor,hk,noOp]at e1 e2 e3;have:=ht (by omega);have:=hr hk;simp only[e2,List.length_nil];omega
 ·simp[zor,hk,noOp]at e1 e2 e3;have:=ht (by omega);have:=hg hk;simp[e3];omega
 ·simp[zor,hk,noOp]at e1 e2 e3;have:=ht (by omega);simp[e2,e3];omega
theorem zcz {α β:Type}{f:α->List β}{n:Nat}{l:List α}(h:∀x∈l,(f x).length<=n):((l.map f).flatten).length<=l.length*n:=by
 induction l with
 | nil=>simp
 | cons x l ih=>
  have h1:=ih fun y hy=>h y (by simp[hy])
  have h2:=h x (by simp)
  simp only[List.map_cons,List.flatten_cons,List.length_append,List.length_cons,Nat.add_mul,Nat.one_mul]
  omega
theorem zdL {l:List zr}(h:zD l=0):(∀x∈l,zmW x.op<=500)/\(zhl l).length<=4000:=by
 obtain⟨h4,hm,_⟩:=zkc h;have hz:∀x∈l,zmW x.op<=500:=fun x hx=>op_small (req_ok (hm x hx).1).2.2.2.2;refine⟨hz,?_⟩;have h1:∀x∈l,(oneB x).length<=700:=by
  intro x hx;have a:=zpw (Nat.le_trans (hz x hx) (by omega)) (hm x hx).1;have b:=zgC (hm x hx).2;have c:=zdm (x:=znC x) (by have:=hz x hx;omega);have:=hz x hx;simp only[oneB,List.length_append];omega
 have h2:(zdN l).length<=l.length*700:=zcz h1;have:l.length*700<=4*700:=Nat.mul_le_mul_right _ h4;have n1:=zl (n:=l.length) (by omega);simp only[zhl,List.length_append];omega
theorem fstE_mem {l:List Int}(h:zax l=0):∀e∈l,e=0:=by
 induction l with
 | nil=>simp
 | cons x l ih=>
  unfold zax at h
  split at h
  ·rename_i hx;exact absurd h hx
  ·rename_i hx
   intro e he
   rcases List.mem_cons.1 he with rfl|he
   ·simpa using hx
   ·exact ih h e he
def zvN (l:List zI):List UInt8:=zbv l.length++(l.map fun s=>zgu s.key s.dig).flatten
def zrx (c:zjy):List UInt8:=zbv c.seq.toNat++(zbv c.dig.toNat++zvN c.signs)
def zuA (p:zkd):List UInt8:=zbv p.view.toNat++(zbv p.seq.toNat++(zbv p.dig.toNat++(zgu p.fkey p.fdig++(zvN p.signs++zhl p.batch))))
def zuY (c:zbj):List UInt8:=zbv c.view.toNat++(zbv c.src.toNat++(zrx c.cert++(zbv c.above.length++(c.above.map zuA).flatten)))
def zfV (c:zbj):List UInt8:=zuY c++zgu c.key c.dig
def znE (x:zhT):List UInt8:=zbv x.view.toNat++(zbv x.seq.toNat++(zhl x.batch++zgu x.key x.dig))
def newvB (m:zbC):List UInt8:=zbv m.src.toNat++(zbv m.view.toNat++(zbv m.changes.length++((m.changes.map zfV).flatten++(zbv m.entries.length++(m.entries.map znE).flatten))))
theorem zzG {l:List zI}(h:∀e∈zco l,e=0):l.length<=13/\∀s∈l,zx s.key s.dig=0:=by
 refine⟨?_,fun s hs=>h _ (List.mem_cons_of_mem _ (List.mem_map_of_mem hs))⟩;have:=zkG (h _ List.mem_cons_self);omega
theorem zpt {l:List zI}(h:∀e∈zco l,e=0):(zvN l).length<=270:=by
 obtain⟨h1,h2⟩:=zzG h;have h3:((l.map fun s=>zgu s.key s.dig).flatten).length<=l.length*20:=zcz fun s hs=>zgC (h2 s hs);have n1:=zl (n:=l.length) (by omega);have:l.length*20<=13*20:=Nat.mul_le_mul_right _ h1;simp only[zvN,List.length_append];omega
theorem cert_ok {c:zjy}(h:∀e∈zbx c,e=0):(0<=c.seq/\c.seq<=9007199254740992)/\(0<=c.dig/\c.dig<=9007199254740992)/\∀e∈zco c.signs,e=0:=
 ⟨zrT (h _ (by simp[zbx])),zrT (h _ (by simp[zbx])),fun e he=>h e (by simp only[zbx,List.mem_cons];exact .inr (.inr (.inr he)))⟩
theorem zhN {c:zjy}(h:∀e∈zbx c,e=0):(zrx c).length<=290:=by
 obtain⟨h1,h2,h3⟩:=cert_ok h;have:=zpt h3;have n1:=zl (n:=c.seq.toNat) (by omega);have n2:=zl (n:=c.dig.toNat) (by omega);simp only[zrx,List.length_append];omega
theorem posE_0 {n:Int}(h:zks n=0):1<=n/\n<=9007199254740992:=zkG h
structure prepOkE (p:zkd):Prop where
 view:0<=p.view/\p.view<=9007199254740992
 seq:1<=p.seq/\p.seq<=9007199254740992
 dig:1<=p.dig/\p.dig<=9007199254740992
 first:zx p.fkey p.fdig=0
 signs:∀e∈zco p.signs,e=0
 batch:zD p.batch=0
theorem prep_ok {p:zkd}(h:∀e∈zdX p,e=0):prepOkE p:=
 ⟨zrT (h _ (by simp[zdX])),posE_0 (h _ (by simp[zdX])),posE_0 (h _ (by simp[zdX])),h _ (by simp[zdX]),fun e he=>h e (by simp only[zdX,List.mem_cons,List.mem_append];exact .inr (.inr (.inr (.inr (.inl he))))),h _ (by simp[zdX])⟩
theorem zvT {p:zkd}(h:∀e∈zdX p,e=0):(zuA p).length<=4400:=by
 obtain⟨h1,h2,h3,h4,h5,h6⟩:=prep_ok h;have:=zpt h5;have:=zgC h4;have:=(zdL h6).2;have n1:=zl (n:=p.view.toNat) (by omega);have n2:=zl (n:=p.seq.toNat) (by omega);have n3:=zl (n:=p.dig.toNat) (by omega);simp only[zuA,List.length_append];omega
structure bodyOkE (c:zbj):Prop where
 view:1<=c.view/\c.view<=9007199254740992
 src:0<=c.src/\c.src<=12
 cert:∀e∈zbx c.cert,e=0
 many:c.above.length<=8
 above:∀p∈c.above,∀e∈zdX p,e=0
theorem body_ok {c:zbj}(h:∀e∈zez c,e=0):bodyOkE c:=by
 refine⟨posE_0 (h _ (by simp[zez])),zkG (h (zjF c.src) (by simp[zez])),fun e he=>h e (by simp[zez,he]),?_,fun p hp e he=>h e ?_⟩
 ·have:=zkG (h (inE c.above.length 0 8) (by simp[zez]));omega
 ·simp only[zez,List.mem_cons,List.mem_append,List.mem_flatten,List.mem_map];exact .inr (.inr (.inr (.inr ⟨_,⟨p,hp,rfl⟩,he⟩)))
theorem zsx {c:zbj}(h:∀e∈zez c,e=0):(zuY c).length<=36000:=by
 obtain⟨h1,h2,h3,h4,h5⟩:=body_ok h;have:=zhN h3;have h6:((c.above.map zuA).flatten).length<=c.above.length*4400:=zcz fun p hp=>zvT (h5 p hp);have:c.above.length*4400<=8*4400:=Nat.mul_le_mul_right _ h4;have n1:=zl (n:=c.view.toNat) (by omega);have n2:=zl (n:=c.src.toNat) (by omega);have n3:=zl (n:=c.above.length) (by omega);simp only[zuY,List.length_append];omega
theorem ziY {c:zbj}(h:∀e∈zaT c,e=0):(∀e∈zez c,e=0)/\zx c.key c.dig=0:=
 ⟨fun e he=>h e (by simp[zaT,he]),h _ (by simp[zaT])⟩
theorem zrw {c:zbj}(h:∀e∈zaT c,e=0):(zfV c).length<=36020:=by
 obtain⟨h1,h2⟩:=ziY h;have:=zsx h1;have:=zgC h2;simp only[zfV,List.length_append];omega
structure entryOkE (x:zhT):Prop where
 view:0<=x.view/\x.view<=9007199254740992
 seq:1<=x.seq/\x.seq<=9007199254740992
 batch:zD x.batch=0
 sign:zx x.key x.dig=0
theorem zAj {x:zhT}(h:∀e∈zen x,e=0):entryOkE x:=
 ⟨zrT (h _ (by simp[zen])),posE_0 (h _ (by simp[zen])),h _ (by simp[zen]),h _ (by simp[zen])⟩
theorem zts {x:zhT}(h:∀e∈zen x,e=0):(znE x).length<=4040:=by
 obtain⟨h1,h2,h3,h4⟩:=zAj h;have:=zgC h4;have:=(zdL h3).2;have n1:=zl (n:=x.view.toNat) (by omega);have n2:=zl (n:=x.seq.toNat) (by omega);simp only[znE,List.length_append];omega
structure newvOkE (m:zbC):Prop where
 src:0<=m.src/\m.src<=12
 view:1<=m.view/\m.view<=9007199254740992
 manyC:m.changes.length<=13
 change:∀c∈m.changes,∀e∈zaT c,e=0
 manyE:m.entries.length<=8
 entry:∀x∈m.entries,∀e∈zen x,e=0
theorem newv_ok {m:zbC}(h:∀e∈zfI m,e=0):newvOkE m:=by
 refine⟨zkG (h (zjF m.src) (by simp[zfI])),posE_0 (h _ (by simp[zfI])),?_,fun p hp e he=>h e ?_,?_,fun p hp e he=>h e ?_⟩
 ·have:=zkG (h (inE m.changes.length 0 13) (by simp[zfI]));omega
 ·simp only[zfI,List.mem_cons,List.mem_append,List.mem_flatten,List.mem_map];exact .inr (.inr (.inr (.inl ⟨_,⟨p,hp,rfl⟩,he⟩)))
 ·have:=zkG (h (inE m.entries.length 0 8) (by simp[zfI]));omega
 ·simp only[zfI,List.mem_cons,List.mem_append,List.mem_flatten,List.mem_map];exact .inr (.inr (.inr (.inr (.inr ⟨_,⟨p,hp,rfl⟩,he⟩))))
theorem newvB_len {m:zbC}(h:∀e∈zfI m,e=0):(newvB m).length<=600000:=by
 obtain⟨h1,h2,h3,h4,h5,h6⟩:=newv_ok h;have a:((m.changes.map zfV).flatten).length<=m.changes.length*36020:=zcz fun p hp=>zrw (h4 p hp);have b:((m.entries.map znE).flatten).length<=m.entries.length*4040:=zcz fun p hp=>zts (h6 p hp);have:m.changes.length*36020<=13*36020:=Nat.mul_le_mul_right _ h3;have:m.entries.length*4040<=8*4040:=Nat.mul_le_mul_right _ h5;have n1:=zl (n:=m.src.toNat) (by omega);have n2:=zl (n:=m.view.toNat) (by omega);have n3:=zl (n:=m.changes.length) (by omega);have n4:=zl (n:=m.entries.length) (by omega);simp only[newvB,List.length_append];omega
def unsB (m:zbC):List UInt8:=zbv m.kind.toNat++(if m.kind=7 then(match m.changes with|c::_=>zuY c|[]=>[])else if m.kind=8 then newvB m else [])
def ownS (m:zbC):zI:=if m.kind=7 then(match m.changes with|c::_=>⟨c.key,c.dig⟩|[]=>⟨m.key,m.sdig⟩)else⟨m.key,m.sdig⟩
def zbr (m:zbC):zbC:=if m.kind=7 then(match m.changes with|[c]=>{ m with changes:=[{ c with key:=0,dig:=1 }] }|_=>m)else if zeT m.kind=true then{ m with key:=0,sdig:=1 }else m
theorem zgP {m:zbC}(h:zbK m=0):(∀e∈zac m,e=0)/\m=zfE m:=by
 unfold zbK at h;split at h
 ·rename_i h1;exact absurd h h1
 ·rename_i h1;split at h
  ·rename_i h2;exact⟨fstE_mem (by simpa using h1),h2⟩
  ·cases h
theorem zwO {m:zbC}(hk:m.kind=7)(h:zbK m=0):∃c,m.changes=[c]/\∀e∈zaT c,e=0:=by
 have h1:=(zgP h).1;simp only[zac,zC,hk]at h1;have h2:=zkG (h1 (inE m.changes.length 1 1) (by simp));obtain⟨c,hc⟩:∃c,m.changes=[c]:=List.length_eq_one_iff.1 (by omega);refine⟨c,hc,fun e he=>h1 e ?_⟩;simp[hc,he]
theorem check8 {m:zbC}(hk:m.kind=8)(h:zbK m=0):(∀e∈zfI m,e=0)/\zx m.key m.sdig=0:=by
 have h1:=(zgP h).1;simp only[zac,zC,hk]at h1;exact⟨fun e he=>h1 e (by simp[he]),h1 _ (by simp[show zeT 8=true from rfl])⟩
def replyB (m:zbC):List UInt8:=5::zS [m.view,m.client,m.time,m.rerr,m.roff]
structure ReplyOk (m:zbC):Prop where
 src:0<=m.src/\m.src<=12
 view:0<=m.view/\m.view<=9007199254740992
 client:0<=m.client/\m.client<=7
 time:0<=m.time/\m.time<=9007199254740992
 rerr:0<=m.rerr/\m.rerr<=65536
 roff:0<=m.roff/\m.roff<=9007199254740992
 sign:zx m.key m.sdig=0
theorem zyP {m:zbC}(hk:m.kind=5)(h:zbK m=0):ReplyOk m:=by
 have h1:=(zgP h).1;simp only[zac,zC,hk]at h1;exact⟨zkG (h1 (zjF m.src) (by simp)),zrT (h1 _ (by simp)),zkG (h1 (inE m.client 0 7) (by simp)),zrT (h1 (zeU m.time) (by simp)),zkG (h1 (inE m.rerr 0 65536) (by simp)),zrT (h1 (zeU m.roff) (by simp)),h1 _ (by simp[show zeT 5=true from rfl])⟩
theorem K1 {x:Int}(h:x=1):(x==1)=true/\(x==2)=false/\(x==3)=false/\(x==4)=false/\(x==5)=false/\(x==6)=false/\(x==7)=false/\(x==8)=false/\(x==9)=false/\(x==10)=false/\(x==11)=false/\(x==12)=false:=by subst h;decide
theorem K2 {x:Int}(h:x=2):(x==1)=false/\(x==2)=true/\(x==3)=false/\(x==4)=false/\(x==5)=false/\(x==6)=false/\(x==7)=false/\(x==8)=false/\(x==9)=false/\(x==10)=false/\(x==11)=false/\(x==12)=false:=by subst h;decide
theorem K3 {x:Int}(h:x=3):(x==1)=false/\(x==2)=false/\(x==3)=true/\(x==4)=false/\(x==5)=false/\(x==6)=false/\(x==7)=false/\(x==8)=false/\(x==9)=false/\(x==10)=false/\(x==11)=false/\(x==12)=false:=by subst h;decide
theorem K4 {x:Int}(h:x=4):(x==1)=false/\(x==2)=false/\(x==3)=false/\(x==4)=true/\(x==5)=false/\(x==6)=false/\(x==7)=false/\(x==8)=false/\(x==9)=false/\(x==10)=false/\(x==11)=false/\(x==12)=false:=by subst h;decide
theorem K5 {x:Int}(h:x=5):(x==1)=false/\(x==2)=false/\(x==3)=false/\(x==4)=false/\(x==5)=true/\(x==6)=false/\(x==7)=false/\(x==8)=false/\(x==9)=false/\(x==10)=false/\(x==11)=false/\(x==12)=false:=by subst h;decide
theorem K6 {x:Int}(h:x=6):(x==1)=false/\(x==2)=false/\(x==3)=false/\(x==4)=false/\(x==5)=false/\(x==6)=true/\(x==7)=false/\(x==8)=false/\(x==9)=false/\(x==10)=false/\(x==11)=false/\(x==12)=false:=by subst h;decide
theorem K7 {x:Int}(h:x=7):(x==1)=false/\(x==2)=false/\(x==3)=false/\(x==4)=false/\(x==5)=false/\(x==6)=false/\(x==7)=true/\(x==8)=false/\(x==9)=false/\(x==10)=false/\(x==11)=false/\(x==12)=false:=by subst h;decide
theorem K8 {x:Int}(h:x=8):(x==1)=false/\(x==2)=false/\(x==3)=false/\(x==4)=false/\(x==5)=false/\(x==6)=false/\(x==7)=false/\(x==8)=true/\(x==9)=false/\(x==10)=false/\(x==11)=false/\(x==12)=false:=by subst h;decide
theorem K9 {x:Int}(h:x=9):(x==1)=false/\(x==2)=false/\(x==3)=false/\(x==4)=false/\(x==5)=false/\(x==6)=false/\(x==7)=false/\(x==8)=false/\(x==9)=true/\(x==10)=false/\(x==11)=false/\(x==12)=false:=by subst h;decide
theorem K10 {x:Int}(h:x=10):(x==1)=false/\(x==2)=false/\(x==3)=false/\(x==4)=false/\(x==5)=false/\(x==6)=false/\(x==7)=false/\(x==8)=false/\(x==9)=false/\(x==10)=true/\(x==11)=false/\(x==12)=false:=by subst h;decide
theorem K11 {x:Int}(h:x=11):(x==1)=false/\(x==2)=false/\(x==3)=false/\(x==4)=false/\(x==5)=false/\(x==6)=false/\(x==7)=false/\(x==8)=false/\(x==9)=false/\(x==10)=false/\(x==11)=true/\(x==12)=false:=by subst h;decide
theorem K12 {x:Int}(h:x=12):(x==1)=false/\(x==2)=false/\(x==3)=false/\(x==4)=false/\(x==5)=false/\(x==6)=false/\(x==7)=false/\(x==8)=false/\(x==9)=false/\(x==10)=false/\(x==11)=false/\(x==12)=true:=by subst h;decide
theorem K0 {x:Int}(h:¬(1<=x/\x<=12)):(x==1)=false/\(x==2)=false/\(x==3)=false/\(x==4)=false/\(x==5)=false/\(x==6)=false/\(x==7)=false/\(x==8)=false/\(x==9)=false/\(x==10)=false/\(x==11)=false/\(x==12)=false:=by simp;omega
def hdB (h:zsN):List UInt8:=zS [h.seq,h.prev,h.batch,h.root,h.state]
def ztW (p:zfl):List UInt8:=zkr p.topic++(zS [p.offset]++(zkr p.rec_++(zbv p.headers.length++((p.headers.map hdB).flatten++(zS [p.index,p.count]++(zbv p.path.length++(zS p.path++zrx p.cert)))))))
structure zrD (p:zfl):Prop where
 topic:p.topic.length<=64
 offset:0<=p.offset/\p.offset<=9007199254740992
 record:p.rec_.length<=64
 many:p.headers.length<=64
 hdr:∀h∈p.headers,∀e∈zhi h,e=0
 index:0<=p.index/\p.index<=9007199254740992
 count:0<=p.count/\p.count<=16
 path:p.path.length<=8
 num:∀x∈p.path,0<=x/\x<=9007199254740992
 cert:∀e∈zbx p.cert,e=0
theorem zzP {p:zfl}(h:∀e∈zcU p,e=0):zrD p:=by
 have g:∀n lo hi:Int,inE n lo hi∈zcU p->lo<=n/\n<=hi:=fun n lo hi hm=>zkG (h _ hm);refine⟨?_,g _ _ _ (by simp[zcU,zgE,zeU]),?_,?_,fun x hx e he=>h e ?_,g _ _ _ (by simp[zcU,zfH,zeU]),g _ _ _ (by simp[zcU,zfH]),?_,fun x hx=>?_,fun e he=>h e (by simp[zcU,he])⟩
 ·have:=h (zlg p.topic) (by simp[zcU,zgE]);refine zyt ?_;unfold zlg at this;split at this
  ·assumption
  ·cases this
 ·have:=g p.rec_.length 0 64 (by simp[zcU,zgE]);omega
 ·have:=g p.headers.length 0 64 (by simp[zcU,zgE]);omega
 ·simp only[zcU,List.mem_append,List.mem_flatten,List.mem_map];exact .inr (.inl ⟨_,⟨x,hx,rfl⟩,he⟩)
 ·have:=g p.path.length 0 8 (by simp[zcU,zhu]);omega
 ·exact g x 0 9007199254740992 (by simp only[zcU,List.mem_append,List.mem_map];exact .inr (.inr (.inr (.inr (.inl ⟨x,hx,rfl⟩)))))
theorem hdr_ok {h:zsN}(he:∀e∈zhi h,e=0):∀x∈[h.seq,h.prev,h.batch,h.root,h.state],0<=x/\x<=9007199254740992:=by
 have g:∀n lo hi:Int,inE n lo hi∈zhi h->lo<=n/\n<=hi:=fun n lo hi hm=>zkG (he _ hm);have h1:=g h.seq 1 9007199254740992 (by simp[zhi,zks]);have h2:=g h.prev 0 9007199254740992 (by simp[zhi,zeU]);have h3:=g h.batch 0 9007199254740992 (by simp[zhi,zeU]);have h4:=g h.root 0 9007199254740992 (by simp[zhi,zeU]);have h5:=g h.state 0 9007199254740992 (by simp[zhi,zeU]);simp;omega
theorem zce {l:List Int}(h:∀x∈l,0<=x/\x<=9007199254740992):(zS l).length<=l.length*10:=zot fun x hx=>by have:=h x hx;omega
theorem hdB_len {h:zsN}(he:∀e∈zhi h,e=0):(hdB h).length<=50:=zce (hdr_ok he)
theorem proofB_len {p:zfl}(h:zrD p):(ztW p).length<=5000:=by
 obtain⟨h1,h2,h3,h4,h5,h6,h7,h8,h9,h10⟩:=h;have p1:=zdm (x:=p.topic) (by omega);have p2:=zdm (x:=p.rec_) (by omega);have n1:=zce (l:=[p.offset]) (by simp;omega);have n2:=zl (n:=p.headers.length) (by omega);have n3:=zce (l:=[p.index,p.count]) (by simp;omega);have n5:=zl (n:=p.path.length) (by omega);have n6:=zce h9;have q1:=zhN h10;have q2:((p.headers.map hdB).flatten).length<=p.headers.length*50:=zcz fun s hm=>hdB_len (h5 s hm);have:p.headers.length*50<=64*50:=Nat.mul_le_mul_right _ h4;simp only[List.length_cons,List.length_nil]at n1 n3;simp only[ztW,List.length_append];omega
def zft (m:zbC):List UInt8:=
 if m.kind=1 then zhl m.batch
 else if m.kind=2 then zS [m.src,m.view,m.seq,m.dig]++zhl m.batch
 else if m.kind=3∨m.kind=4 then zS [m.src,m.view,m.seq,m.dig]
 else if m.kind=5 then zS [m.src,m.view,m.client,m.time]++(zbv m.rerr.toNat++zbv m.roff.toNat)
 else if m.kind=6 then zS [m.src,m.seq,m.dig]
 else if m.kind=7 then(match m.changes with|c::_=>zuY c|[]=>[])
 else if m.kind=8 then newvB m
 else if m.kind=9 then zS [m.src,m.seq]
 else if m.kind=10 then zS [m.src]++(zrx m.cert++zkr m.state)
 else if m.kind=11 then zS [m.client]++(zkr m.topic++zS [m.offset])
 else if m.kind=12 then zS [m.src]++ztW m.proof
 else []
def znW (m:zbC):List UInt8:=zbv m.kind.toNat++zft m
def ztm (m:zbC):List UInt8:=znW m++if m.kind=7∨zeT m.kind=true then zgu (ownS m).key (ownS m).dig else []
def zfW (m:zbC):Int:=if zbK m≠0 then zbK m else if (ztm m).length>262144 then 3 else 0
def nilK (k:Int):Bool:=decide (k=1∨k=10∨k=11∨k=12)
def zdj (m:zbC):List UInt8:=
 if m.kind=2∨m.kind=3∨m.kind=4 then zvB m.kind m.view m.seq m.dig
 else if m.kind=6 then zvB m.kind 0 m.seq m.dig
 else if m.kind=9 then zvB m.kind 0 m.seq 0
 else if m.kind=5 then replyB m
 else 6::znW (zbr m)
theorem kinds {m:zbC}(h:zbK m=0):1<=m.kind/\m.kind<=12:=by
 by_cases hk:1<=m.kind/\m.kind<=12
 ·exact hk
 have:=(zgP h).1 100 (by
  have e:∀j:Int,1<=j->j<=12->m.kind≠j:=fun j h1 h2 h3=>hk (by omega);simp[zac,zC,e])
 cases this
theorem own_ok {m:zbC}(h:zbK m=0)(ho:zeT m.kind=true):zx m.key m.sdig=0:=(zgP h).1 _ (by simp[zac,ho])
theorem zzA {m:zbC}(h:zbK m=0)(hk:m.kind=2∨m.kind=3∨m.kind=4):(0<=m.src/\m.src<=12)/\(0<=m.view/\m.view<=9007199254740992)/\(1<=m.seq/\m.seq<=9007199254740992)/\(1<=m.dig/\m.dig<=9007199254740992):=by
 have h1:=(zgP h).1;have g:∀n lo hi:Int,inE n lo hi∈zet m->lo<=n/\n<=hi:=fun n lo hi hm=>zkG (h1 _ (by rcases hk with hk|hk|hk<;>simp[zac,zC,hk,hm]));exact⟨g _ _ _ (by simp[zet,zjF]),g _ _ _ (by simp[zet,zeU]),g _ _ _ (by simp[zet,zks]),g _ _ _ (by simp[zet,zks])⟩
structure Rd where
 b:List UInt8
 e:Int
def Rd.fail (cut:Bool) (s:Rd) (x:Int):Rd:=if s.e=0/\x≠0 then⟨if cut then []else s.b,x⟩else s
def zsL (cut:Bool) (most:Nat) (s:Rd):Nat × Rd:=
 if s.e=0 then(match numR most 0 0 s.b with|.ok (n,r)=>(n,⟨r,0⟩)|.error x=>(0,s.fail cut x))else(0,s)
def takeP (cut:Bool) (n:Nat) (s:Rd):List UInt8 × Rd:=
 if s.e=0 then(if n>s.b.length then([],s.fail cut 10)else(s.b.take n,⟨s.b.drop n,0⟩))else([],s)
def zmH (cut:Bool) (most:Nat) (s:Rd):List UInt8 × Rd:=takeP cut (zsL cut most s).1 (zsL cut most s).2
def zzO (cut:Bool):Nat->Rd->List (List UInt8) × Rd
 | 0,s=>([],s)
 | k+1,s=>((zzO cut k s).1++[(zmH cut 64 (zzO cut k s).2).1],(zmH cut 64 (zzO cut k s).2).2)
def zrg (cut:Bool) (k:Nat) (s:Rd):TOp × Rd:=
 let t:=zmH cut 64 s
 if k=0 then(noOp,s)
 else if k=2 then(let n:=zsL cut 4 t.2;let r:=zzO cut n.1 n.2;(⟨k,t.1,[],0,r.1⟩,r.2))
 else if k=3 then(let g:=zmH cut 64 t.2;let f:=zsL cut 9007199254740992 g.2;(⟨k,t.1,g.1,f.1,[]⟩,f.2))
 else if k=4 then(let f:=zsL cut 9007199254740992 t.2;(⟨k,t.1,[],f.1,[]⟩,f.2))
 else(⟨k,t.1,[],0,[]⟩,t.2)
def zsR (cut:Bool) (name:List UInt8->Bool) (s:Rd):TOp × Rd:=
 let k:=zsL cut 4 s
 let x:=zrg cut k.1 k.2
 let z:=x.2.fail cut (zaN name x.1)
 (if z.e=0 then x.1 else noOp,z)
def Rd.like (s t:Rd):Prop:=s.e=t.e/\(s.e=0->s.b=t.b)
theorem Rd.like.fail {s t:Rd}{c d:Bool}{x:Int}(h:s.like t):(s.fail c x).like (t.fail d x):=by
 obtain⟨h1,h2⟩:=h;unfold Rd.fail Rd.like;grind
theorem Rd.like.num {s t:Rd}{c d:Bool}{m:Nat}(h:s.like t):(zsL c m s).1=(zsL d m t).1/\(zsL c m s).2.like (zsL d m t).2:=by
 have hf:∀x,(s.fail c x).like (t.fail d x):=fun x=>h.fail;obtain⟨h1,h2⟩:=h;unfold zsL;by_cases h0:s.e=0
 ·rw[if_pos h0,if_pos (show t.e=0 from h1▸h0),h2 h0];cases numR m 0 0 t.b with
  | ok x=>exact⟨rfl,rfl,fun _=>rfl⟩
  | error x=>exact⟨rfl,hf x⟩
 ·rw[if_neg h0,if_neg (h1▸h0)];exact⟨rfl,h1,h2⟩
theorem Rd.like.take {s t:Rd}{c d:Bool}{m:Nat}(h:s.like t):(takeP c m s).1=(takeP d m t).1/\(takeP c m s).2.like (takeP d m t).2:=by
 have hf:∀x,(s.fail c x).like (t.fail d x):=fun x=>h.fail;obtain⟨h1,h2⟩:=h;unfold takeP;by_cases h0:s.e=0
 ·rw[if_pos h0,if_pos (show t.e=0 from h1▸h0),h2 h0];split
  ·exact⟨rfl,hf 10⟩
  ·exact⟨rfl,rfl,fun _=>rfl⟩
 ·rw[if_neg h0,if_neg (h1▸h0)];exact⟨rfl,h1,h2⟩
theorem Rd.like.bytes {s t:Rd}{c d:Bool}{m:Nat}(h:s.like t):(zmH c m s).1=(zmH d m t).1/\(zmH c m s).2.like (zmH d m t).2:=by
 have a:=h.num (c:=c) (d:=d) (m:=m);have:=a.2.take (c:=c) (d:=d) (m:=(zsL c m s).1);unfold zmH;rw[← a.1];exact this
theorem Rd.like.recs {s t:Rd}{c d:Bool}(h:s.like t):∀k,(zzO c k s).1=(zzO d k t).1/\(zzO c k s).2.like (zzO d k t).2
 | 0=>⟨rfl,h⟩
 | k+1=>by
  obtain⟨a,b⟩:=Rd.like.recs h (c:=c) (d:=d) k;have e:=b.bytes (c:=c) (d:=d) (m:=64);exact⟨by simp only[zzO,a,e.1],e.2⟩
theorem Rd.like.fields {s t:Rd}{c d:Bool}(h:s.like t)(k:Nat):(zrg c k s).1=(zrg d k t).1/\(zrg c k s).2.like (zrg d k t).2:=by
 obtain⟨t1,t2⟩:=h.bytes (c:=c) (d:=d) (m:=64);obtain⟨n1,n2⟩:=t2.num (c:=c) (d:=d) (m:=4);obtain⟨r1,r2⟩:=n2.recs (c:=c) (d:=d) (zsL c 4 (zmH c 64 s).2).1;obtain⟨g1,g2⟩:=t2.bytes (c:=c) (d:=d) (m:=64);obtain⟨f1,f2⟩:=g2.num (c:=c) (d:=d) (m:=9007199254740992);obtain⟨e1,e2⟩:=t2.num (c:=c) (d:=d) (m:=9007199254740992);unfold zrg;simp only;split
 ·exact⟨rfl,h⟩
 ·split
  ·rw[← n1,← r1,← t1];exact⟨rfl,r2⟩
  ·split
   ·rw[← t1,← g1,← f1];exact⟨rfl,f2⟩
   ·split
    ·rw[← t1,← e1];exact⟨rfl,e2⟩
    ·rw[← t1];exact⟨rfl,t2⟩
theorem Rd.like.takeOp {s t:Rd}{c d:Bool}{name:List UInt8->Bool}(h:s.like t):(zsR c name s).1=(zsR d name t).1/\(zsR c name s).2.like (zsR d name t).2:=by
 obtain⟨k1,k2⟩:=h.num (c:=c) (d:=d) (m:=4);obtain⟨x1,x2⟩:=k2.fields (c:=c) (d:=d) (zsL c 4 s).1;have z:=x2.fail (c:=c) (d:=d) (x:=zaN name (zrg c (zsL c 4 s).1 (zsL c 4 s).2).1);unfold zsR;simp only;rw[← k1,← x1,← z.1];exact⟨rfl,z⟩
open Go
def nilRq:zr:=⟨0,0,noOp,0,0⟩
def doneE (s:Rd):Int:=if s.e=0/\0<s.b.length then 12 else s.e
def lateE (e:Int) (t:Nat):Int:=if e=0/\t=0 then 80 else e
def pickR (f:Int) (x:zr):zr:=if f=0 then x else nilRq
def signZ (c:Bool) (d:Nat × Rd):Rd:=if d.2.e=0/\d.1=0 then d.2.fail c 81 else d.2
def reqP (c:Bool) (b:List UInt8):zr × Int:=
 let k:=zsL c 7 ⟨b,0⟩
 let t:=zsL c 9007199254740992 k.2
 let o:=zsR c zev t.2
 let f:=lateE (doneE o.2) t.1
 (pickR f ⟨k.1,t.1,o.1,0,0⟩,f)
def signP (c:Bool) (s:Rd):(Nat × Nat) × Rd:=
 let k:=zsL c 20 s
 let d:=zsL c 9007199254740992 k.2
 let z:=signZ c d
 (if z.e=0 then(k.1,d.1)else(0,0),z)
def oneP (c:Bool) (s:Rd):zr × Rd:=
 let b:=zmH c 1024 s
 let x:=reqP c b.1
 let g:=signP c (b.2.fail c x.2)
 (⟨x.1.client,x.1.time,x.1.op,g.1.1,g.1.2⟩,g.2)
def zqo (c:Bool):Nat->Rd->List zr × Rd
 | 0,s=>([],s)
 | k+1,s=>((zqo c k s).1++[(oneP c (zqo c k s).2).1],(oneP c (zqo c k s).2).2)
def batchP (c:Bool) (s:Rd):List zr × Rd:=
 let n:=zsL c 4 s
 let p:=zqo c n.1 n.2
 let z:=p.2.fail c (zD p.1)
 (if z.e=0 then p.1 else [],z)
theorem Rd.like.refl (s:Rd):s.like s:=⟨rfl,fun _=>rfl⟩
theorem done_like {s t:Rd}(h:s.like t):doneE s=doneE t:=by
 unfold doneE;obtain⟨h1,h2⟩:=h;by_cases h0:s.e=0
 ·rw[h2 h0,h1]
 ·rw[if_neg (fun g=>h0 g.1),if_neg (fun g=>h0 (h1▸g.1)),h1]
theorem reqP_like (c d:Bool)(b:List UInt8):reqP c b=reqP d b:=by
 obtain⟨k1,k2⟩:=(Rd.like.refl ⟨b,0⟩).num (c:=c) (d:=d) (m:=7);obtain⟨t1,t2⟩:=k2.num (c:=c) (d:=d) (m:=9007199254740992);obtain⟨o1,o2⟩:=t2.takeOp (c:=c) (d:=d) (name:=zev);have e:=done_like o2;unfold reqP;simp only;rw[e,t1,k1,o1]
theorem Rd.like.sign {s t:Rd}{c d:Bool}(h:s.like t):(signP c s).1=(signP d t).1/\(signP c s).2.like (signP d t).2:=by
 obtain⟨k1,k2⟩:=h.num (c:=c) (d:=d) (m:=20);obtain⟨t1,t2⟩:=k2.num (c:=c) (d:=d) (m:=9007199254740992);have z:=t2.fail (c:=c) (d:=d) (x:=81);have hz:(signZ c (zsL c 9007199254740992 (zsL c 20 s).2)).like (signZ d (zsL d 9007199254740992 (zsL d 20 t).2)):=by
  unfold signZ;rw[← t1,← t2.1];split
  ·exact z
  ·exact t2
 unfold signP;simp only;rw[← k1,← t1,← hz.1];exact⟨rfl,hz⟩
theorem Rd.like.one {s t:Rd}{c d:Bool}(h:s.like t):(oneP c s).1=(oneP d t).1/\(oneP c s).2.like (oneP d t).2:=by
 obtain⟨b1,b2⟩:=h.bytes (c:=c) (d:=d) (m:=1024);have e:=reqP_like c d (zmH c 1024 s).1;have f:=b2.fail (c:=c) (d:=d) (x:=(reqP c (zmH c 1024 s).1).2);obtain⟨g1,g2⟩:=f.sign (c:=c) (d:=d);unfold oneP;simp only;rw[← b1,← e,← g1];exact⟨rfl,g2⟩
theorem Rd.like.items {s t:Rd}{c d:Bool}(h:s.like t):∀k,(zqo c k s).1=(zqo d k t).1/\(zqo c k s).2.like (zqo d k t).2
 | 0=>⟨rfl,h⟩
 | k+1=>by
  obtain⟨a,b⟩:=Rd.like.items h (c:=c) (d:=d) k;obtain⟨e1,e2⟩:=b.one (c:=c) (d:=d);exact⟨by simp only[zqo,a,e1],e2⟩
theorem Rd.like.batch {s t:Rd}{c d:Bool}(h:s.like t):(batchP c s).1=(batchP d t).1/\(batchP c s).2.like (batchP d t).2:=by
 obtain⟨n1,n2⟩:=h.num (c:=c) (d:=d) (m:=4);obtain⟨p1,p2⟩:=n2.items (c:=c) (d:=d) (zsL c 4 s).1;have z:=p2.fail (c:=c) (d:=d) (x:=zD (zqo c (zsL c 4 s).1 (zsL c 4 s).2).1);unfold batchP;simp only;rw[← n1,← p1,← z.1];exact⟨rfl,z⟩
abbrev PQ:=List (Option zr)
structure zke (q:PQ):Prop where
 len:q.length=8
 at_:∀(i:Nat) x,q[i]? = some (some x)->x.client=i/\zD [x]=0/\okO x.op
def zfF (q:PQ):List zr:=q.filterMap id
def ofF (q:PQ) (c:Int):Option zr:=if 0<=c/\c<8 then(q[c.toNat]?).join else none
def mayPut:Option zr->Int->Bool
 | some y,t=>decide (y.time<t)
 | none,_=>true
def mayDone:Option zr->Int->Bool
 | some y,t=>decide (y.time<=t)
 | none,_=>false
def canPut (q:PQ) (x:zr):Bool:=decide (zD [x]=0)&&mayPut (ofF q x.client) x.time
def putQ (q:PQ) (x:zr):PQ:=if canPut q x=true then q.set x.client.toNat (some x)else q
def canDone (q:PQ) (c t:Int):Bool:=mayDone (ofF q c) t
def doneQ (q:PQ) (c t:Int):PQ:=if canDone q c t=true then q.set c.toNat none else q
theorem one_ok {x:zr}(h:zD [x]=0):0<=x.client/\x.client<8/\1<=x.time/\x.time<=9007199254740992/\zaN zev x.op=0/\zT x=0/\zx x.key x.dig=0:=by
 simp only[zD,List.length_singleton,znZ,zyK]at h;have h1:¬(1>4):=by omega
 rw[if_neg h1]at h;by_cases hr:zT x=0
 ·by_cases hs:zx x.key x.dig=0
  ·unfold zT at hr;split at hr
   ·cases hr
   ·rename_i hc;have hr':zT x=0:=by unfold zT;rw[if_neg hc];exact hr
    exact⟨by omega,by omega,by omega,by omega,hr,hr',hs⟩
  ·exfalso;simp[hr,hs]at h
 ·exfalso;simp[hr]at h
theorem ofF_some {q:PQ}{c:Int}{x:zr}(h:ofF q c=some x):0<=c/\c<8/\q[c.toNat]? = some (some x):=by
 unfold ofF at h;split at h
 ·rename_i hc;refine⟨hc.1,hc.2,?_⟩;cases hq:q[c.toNat]? with
  | none=>rw[hq]at h;cases h
  | some o=>rw[hq]at h;simp at h;rw[h]
 ·cases h
theorem zke.get {q:PQ}(hq:zke q){c:Int}(h0:0<=c)(h8:c<8):q[c.toNat]? = some (ofF q c):=by
 have hl:=hq.len;have:q[c.toNat]? = some (q[c.toNat]'(by omega)):=List.getElem?_eq_getElem _;unfold ofF;rw[if_pos ⟨h0,h8⟩,this];rfl
theorem zke.put {q:PQ}(hq:zke q){x:zr}(hx:okO x.op):zke (putQ q x):=by
 unfold putQ;split
 ·rename_i hc;simp only[canPut,Bool.and_eq_true,decide_eq_true_eq]at hc;obtain⟨h0,h8,_⟩:=one_ok hc.1;refine⟨by simp[hq.len],fun i y h=>?_⟩;rw[List.getElem?_set]at h;split at h
  ·rename_i e;split at h
   ·simp at h;subst h;exact⟨by omega,hc.1,hx⟩
   ·cases h
  ·exact hq.at_ i y h
 ·exact hq
theorem zke.done {q:PQ}(hq:zke q){c t:Int}:zke (doneQ q c t):=by
 unfold doneQ;split
 ·refine⟨by simp[hq.len],fun i y h=>?_⟩;rw[List.getElem?_set]at h;split at h
  ·split at h
   ·simp at h
   ·cases h
  ·exact hq.at_ i y h
 ·exact hq
theorem zrF {q:PQ}{x:zr}(h:x∈zfF q):∃i:Nat,q[i]? = some (some x):=by
 simp only[zfF,List.mem_filterMap,id_eq,exists_eq_right]at h;exact List.mem_iff_getElem?.1 h
def zhj (f:Int):Int:=if f<1∨f>4 then 120 else 0
def zgA (n f:Int):Int:=if f<1∨f>4 then 0 else n*f+1
abbrev ents (l:List (Int × AV)):List (AV × AV):=l.map fun e=>(.d (.int .i64 e.1),e.2)
structure zer where
 name:List UInt8
 base:Int
 recs:List (List UInt8)
 groups:List (List UInt8 × Int)
structure ztM where
 l:List zer
 last:List (Int × Int × Int)
def ztX:ztM:=⟨[],List.replicate 8 (0,0,0)⟩
abbrev groupD (g:List UInt8 × Int):List D:=[.str g.1,.int .i64 g.2]
abbrev groupsE (l:List (List UInt8 × Int)):List (List D):=l.map groupD
def zer.next (x:zer):Int:=x.base+x.recs.length
def atF (n:List UInt8):List zer->Nat->Option Nat
 | [],_=>none
 | x::r,i=>if (x.name==n)=true then some i else atF n r (i+1)
def lessN (n:List UInt8):List zer->Nat
 | []=>0
 | x::r=>if Op.bytesLess x.name n=true then lessN n r+1 else 0
def lessG (n:List UInt8):List (List UInt8 × Int)->Nat
 | []=>0
 | g::r=>if Op.bytesLess g.1 n=true then lessG n r+1 else 0
def hadG (n:List UInt8) (l:List (List UInt8 × Int)):Option Int:=match l[lessG n l]? with
 | some g=>if (g.1==n)=true then some g.2 else none
 | none=>none
abbrev topD (x:zer):List D:=[.str x.name,.int .i64 x.base,.slice (zdU x.recs),.slice (groupsE x.groups)]
abbrev topsE (l:List zer):List (List D):=l.map topD
abbrev zcF (es:List (List D)):List AV:=es.flatten.map .d
theorem zoF {sz:Nat}:∀ {es:List (List D)},(∀e∈es,e.length=sz)->(zcF es).length=es.length*sz
 | [],_=>by simp[zcF]
 | e::es,h=>by
  have h1:=zoF (es:=es) fun x hx=>h x (List.mem_cons_of_mem _ hx);have h2:=h e List.mem_cons_self;simp only[zcF,List.length_map]at h1;simp only[zcF,List.flatten_cons,List.map_append,List.length_append,List.length_map,h1,h2,List.length_cons,Nat.add_mul,Nat.one_mul];omega
theorem zyG {sz:Nat}:∀ {es:List (List D)},(∀e∈es,e.length=sz)->∀k,(zcF es).drop (k*sz)=zcF (es.drop k)
 | [],_,k=>by simp[zcF]
 | e::es,h,k=>by
  cases k with
  | zero=>simp[zcF]
  | succ k=>
   have h1:=zyG (es:=es) (fun x hx=>h x (List.mem_cons_of_mem _ hx)) k
   have h2:=h e List.mem_cons_self
   have e1:zcF (e::es)=e.map .d++zcF es:=by simp[zcF]
   rw[e1,List.drop_succ_cons,← h1,List.drop_append,List.length_map,h2,show(k+1)*sz-sz=k*sz by rw[Nat.add_mul];omega,List.drop_of_length_le (by rw[List.length_map,h2,Nat.add_mul];omega)]
   rfl
theorem zwo {sz:Nat}{es:List (List D)}(h:∀e∈es,e.length=sz){k:Nat}{e:List D}(he:es[k]? = some e):((zcF es).drop (k*sz)).take sz=e.map .d:=by
 have hk:k<es.length:=(List.getElem?_eq_some_iff.1 he).1;have hl:=h e (List.mem_of_getElem? he);rw[zyG h,List.drop_eq_getElem_cons hk,(List.getElem?_eq_some_iff.1 he).2];simp only[zcF,List.flatten_cons,List.map_append];rw[List.take_append_of_le_length (by rw[List.length_map,hl];exact Nat.le_refl _),List.take_of_length_le (by rw[List.length_map,hl];exact Nat.le_refl _)]
theorem zto {sz:Nat}{es:List (List D)}(h:∀e∈es,e.length=sz){k i:Nat}{e:List D}(he:es[k]? = some e)(hi:i<sz):(zcF es)[k*sz+i]?=(e[i]?).map .d:=by
 have h1:=zwo h he;have h2:(((zcF es).drop (k*sz)).take sz)[i]?=(zcF es)[k*sz+i]?:=by rw[List.getElem?_take,if_pos hi,List.getElem?_drop]
 rw[← h2,h1,List.getElem?_map]
structure TopI (x:zer):Prop where
 base:0<=x.base
 next:x.next<=9007199254740992
 recs:x.recs.length<=64
 groups:x.groups.length<=8
 name:x.name.length<=64
 each:∀r∈x.recs,r.length<=64
 gs:∀g∈x.groups,g.1.length<=64/\0<=g.2/\g.2<=9007199254740992
structure TopsI (T:ztM):Prop where
 len:T.l.length<=8
 tops:∀x∈T.l,TopI x
theorem TopsI.none:TopsI ztX:=⟨by simp[ztX],by simp[ztX]⟩
def groupB (g:List UInt8 × Int):List UInt8:=zkr g.1++zbv g.2.toNat
def groupsB (l:List (List UInt8 × Int)):List UInt8:=(l.map groupB).flatten
def topB (x:zer):List UInt8:=zkr x.name++(zbv x.base.toNat++(zbv x.recs.length++(zrQ x.recs++(zbv x.groups.length++groupsB x.groups))))
def topsBl (l:List zer):List UInt8:=(l.map topB).flatten
def lastB (a:Int × Int × Int):List UInt8:=zbv a.1.toNat++(zbv a.2.1.toNat++zbv a.2.2.toNat)
def lastsB (l:List (Int × Int × Int)):List UInt8:=(l.map lastB).flatten
def topsB (T:ztM):List UInt8:=zbv T.l.length++(topsBl T.l++lastsB T.last)
def LastI (l:List (Int × Int × Int)):Prop:=∀a∈l,(0<=a.1/\a.1<=9007199254740992)/\(0<=a.2.1/\a.2.1<=9007199254740992)/\(0<=a.2.2/\a.2.2<=9007199254740992)
def PlI (p:znA):Prop:=0<=p.offset/\p.offset<=9007199254740992/\p.topic.length<=64/\p.rec_.length<=64
end Go.AW
