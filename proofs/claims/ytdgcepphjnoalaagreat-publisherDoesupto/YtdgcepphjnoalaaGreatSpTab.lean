/- Byte strings and their numbers; what was signed. No program in sight. -/
import Derived.Test.YtdgcepphjnoalaaGreatOpC
import Derived.Test.YtdgcepphjnoalaaGreatRc2
import Derived.Test.YtdgcepphjnoalaaGreatCl1
import Derived.Test.YtdgcepphjnoalaaGreatOp2
set_option linter.all false
namespace Go.AW
variable {σ:List AObj} {K:KT}
def zjA:List (List UInt8)->List UInt8->Nat->Option Nat
 | [],_,_=>none
 | x::r,b,i=>if b=x then some i else zjA r b (i+1)
def zhJ (l:List (List UInt8)) (b:List UInt8):Option Nat:=zjA l b 0
def zuy:Option Nat->Int
 | some i=>((i+1:Nat):Int)
 | none=>0
def zhX (l:List (List UInt8)) (b:List UInt8):Int:=match zhJ l b with
 | some i=>((i+1:Nat):Int)
 | none=>if l.length≥1048576 then 0 else((l.length+1:Nat):Int)
def zfZ (l:List (List UInt8)) (b:List UInt8):List (List UInt8):=match zhJ l b with
 | some _=>l
 | none=>if l.length≥1048576 then l else l++[b]
abbrev zvF (l:List (List UInt8)):List (List D):=l.map fun b=>[D.slice (bcs b)]
def zxE:List (List UInt8)->Nat->List (AV × AV)
 | [],_=>[]
 | x::r,i=>(.d (.str x),.d (.int .i64 ((i+1:Nat):Int)))::zxE r (i+1)
def tabM (l:List (List UInt8)):List (AV × AV):=zxE l 0
theorem zyu (b:List UInt8):∀(l:List (List UInt8)) (i:Nat),zoA .str (.d (.str b)) (zxE l i) i=some ((zjA l b i).map fun k=>(k,.d (.int .i64 ((k+1:Nat):Int))))
 | [],_=>rfl
 | x::r,i=>by
  simp only[zxE,zoA,ziz,zjA];by_cases h:b=x
  ·simp[h]
  ·have:(b==x)=false:=by simpa using h
   simp only[this,if_neg h];exact zyu b r (i+1)
theorem mfind_tab (l:List (List UInt8))(b:List UInt8):zoA .str (.d (.str b)) (tabM l) 0=some ((zhJ l b).map fun k=>(k,.d (.int .i64 ((k+1:Nat):Int)))):=zyu b l 0
theorem tabMA_add (x:List UInt8):∀(l:List (List UInt8)) (i:Nat),zxE (l++[x]) i=zxE l i++[(.d (.str x),.d (.int .i64 ((i+l.length+1:Nat):Int)))]
 | [],i=>by simp[zxE]
 | y::r,i=>by
  simp only[List.cons_append,zxE,tabMA_add x r (i+1),List.length_cons];rw[show i+1+r.length+1=i+(r.length+1)+1 by omega]
theorem tabM_add (l:List (List UInt8))(x:List UInt8):tabM l++[(.d (.str x),.d (.int .i64 ((l.length+1:Nat):Int)))]=tabM (l++[x]):=by
 unfold tabM;rw[tabMA_add];simp
theorem lookAt_lt {b:List UInt8}:∀ {l:List (List UInt8)} {i k:Nat},zjA l b i=some k->i<=k/\k<i+l.length/\l[k-i]? = some b
 | [],_,_,h=>by simp[zjA]at h
 | x::r,i,k,h=>by
  simp only[zjA]at h;split at h
  ·rename_i e;cases h;subst e;simp
  ·obtain⟨h1,h2,h3⟩:=lookAt_lt h;refine⟨by omega,by simp;omega,?_⟩;obtain⟨m,hm⟩:∃m,k-i=m+1:=⟨k-i-1,by omega⟩;rw[hm,List.getElem?_cons_succ];rw[show k-(i+1)=m by omega]at h3;exact h3
theorem zvf {l:List (List UInt8)}{b:List UInt8}{k:Nat}(h:zhJ l b=some k):k<l.length/\l[k]? = some b:=by
 have:=lookAt_lt h;simpa using this.2
theorem zpF {b:List UInt8}{m:List (List UInt8)}:∀ {l:List (List UInt8)} {i:Nat},zjA (l++m) b i=match zjA l b i with|some k=>some k|none=>zjA m b (i+l.length)
 | [],i=>by simp[zjA]
 | x::r,i=>by
  simp only[List.cons_append,zjA,List.length_cons];split
  ·rfl
  ·rw[zpF,show i+1+r.length=i+(r.length+1) by omega]
theorem look_next {l:List (List UInt8)}{b x:List UInt8}{k:Nat}(h:l[k]? = some x)(h0:zhJ (l.take k) b=none)(hx:(x==b)=false):zhJ (l.take (k+1)) b=none:=by
 have e:¬b=x:=fun e=>by subst e;simp at hx
 rw[List.take_add_one,h];unfold zhJ at h0 ⊢;rw[zpF,h0];simp[zjA,e]
theorem look_hit {l:List (List UInt8)}{b x:List UInt8}{k:Nat}(h:l[k]? = some x)(h0:zhJ (l.take k) b=none)(hx:(x==b)=true):zhJ l b=some k:=by
 have e:x=b:=by simpa using hx
 subst e;obtain⟨hk,hh⟩:=List.getElem?_eq_some_iff.1 h;have e2:l=l.take k++(x::l.drop (k+1)):=by rw[← hh,List.getElem_cons_drop,List.take_append_drop]
 rw[e2];unfold zhJ at h0 ⊢;rw[zpF,h0];simp[zjA];omega
theorem zyy {l:List (List UInt8)}{b:List UInt8}(h:b∉l):zhJ l b=none:=by
 cases e:zhJ l b with
 | none=>rfl
 | some k=>exact absurd (List.mem_of_getElem? (zvf e).2) h
theorem zzX {l:List (List UInt8)}{b:List UInt8}(h:zhJ l b=none):b∉l:=by
 have key:∀(l:List (List UInt8)) (i:Nat),zjA l b i=none->b∉l:=by
  intro l;induction l with
  | nil=>intro i _;simp
  | cons x r ih=>
   intro i h
   simp only[zjA]at h
   split at h
   ·cases h
   ·rename_i hne
    simp only[List.mem_cons,not_or]
    exact⟨hne,ih _ h⟩
 exact key l 0 h
theorem look_more {l m:List (List UInt8)}{b:List UInt8}{k:Nat}(h:zhJ l b=some k):zhJ (l++m) b=some k:=by
 unfold zhJ at h ⊢;rw[zpF,h]
abbrev ztW (l:List zI):List (List D):=zat l
def zxD (l:List zI):List (AV × AV):=l.map fun s=>(.agg [.d (.int .i64 s.key),.d (.int .i64 s.dig)],.d (.bool true))
def ledAt:List zI->zI->Nat->Option Nat
 | [],_,_=>none
 | x::r,s,i=>if s=x then some i else ledAt r s (i+1)
theorem sign_keyEq (s x:zI):ziz (.ints 2) (.agg [.d (.int .i64 s.key),.d (.int .i64 s.dig)]) (.agg [.d (.int .i64 x.key),.d (.int .i64 x.dig)])=some (decide (s=x)):=by
 have e:s=x↔s.key=x.key/\s.dig=x.dig:=by cases s;cases x;simp
 by_cases h1:s.key=x.key
 ·by_cases h2:s.dig=x.dig
  ·rw[decide_eq_true (e.2 ⟨h1,h2⟩)];simp[ziz,zch,h1,h2]
  ·rw[decide_eq_false (fun h=>h2 (e.1 h).2)];have h2':(s.dig==x.dig)=false:=by simpa using h2
   simp[ziz,zch,h1,h2']
 ·rw[decide_eq_false (fun h=>h1 (e.1 h).1)];have h1':(s.key==x.key)=false:=by simpa using h1
  simp[ziz,zch,h1'];try exact fun h=>absurd h h1
theorem zte (s:zI):∀(l:List zI) (i:Nat),zoA (.ints 2) (.agg [.d (.int .i64 s.key),.d (.int .i64 s.dig)]) (zxD l) i=some ((ledAt l s i).map fun k=>(k,.d (.bool true)))
 | [],_=>rfl
 | x::r,i=>by
  have ih:=zte s r (i+1);simp only[zxD]at ih;simp only[zxD,List.map_cons,zoA,sign_keyEq,ledAt];by_cases h:s=x
  ·simp[h]
  ·rw[decide_eq_false h,if_neg h];exact ih
theorem ztg {s:zI}:∀ {l:List zI} {i:Nat},ledAt l s i=none↔s∉l
 | [],i=>by simp[ledAt]
 | x::r,i=>by
  simp only[ledAt,List.mem_cons,not_or];by_cases h:s=x
  ·simp[h]
  ·rw[if_neg h,ztg];simp[h]
theorem zrW {l:List zI}{s:zI}(h:s∈l):∃k,zoA (.ints 2) (.agg [.d (.int .i64 s.key),.d (.int .i64 s.dig)]) (zxD l) 0=some (some (k,.d (.bool true))):=by
 rw[zte];cases e:ledAt l s 0 with
 | none=>exact absurd h (ztg.1 e)
 | some k=>exact⟨k,rfl⟩
theorem ztV {l:List zI}{s:zI}(h:s∉l):zoA (.ints 2) (.agg [.d (.int .i64 s.key),.d (.int .i64 s.dig)]) (zxD l) 0=some none:=by
 rw[zte,ztg.2 h];rfl
theorem ledM_add (l:List zI)(s:zI):zxD l++[(.agg [.d (.int .i64 s.key),.d (.int .i64 s.dig)],.d (.bool true))]=zxD (l++[s]):=by simp[zxD]
def zzG (l:List zI) (s:zI):List zI:=if s∈l then l else l++[s]
def zgW (k d:Int):Int:=if k<0∨k≥21 then 20 else if d<1 then 1 else 0
theorem zfc {n:Nat}{σ' τ:List AObj}{l:List AV}(hn:σ'.length=n)(h1:Low n (dmT (zcm l)))(hl:zhp n σ')(h:K (dmT (zcm l)) σ'):Ends n K (some l) (σ'++τ):=by
 subst hn;unfold Ends;rw[zmY];exact⟨h1,hl,h⟩
theorem zkk {σ τ:List AObj}{id t:Nat}{es:List (List D)}{X:AObj}{l:List AV}(hT:σ[id]? = some X)(h1:Low σ.length (dmT (zcm l)))(hl:zhp σ.length σ)
  (h:K (dmT (zcm l)) (σ.set id (.box [.d (.slice es)]))):EndsW σ.length K (some l) (σ.set id (.box [.own t es])++τ):=by
 refine⟨_,.dataB id 0 [.own t es] (.own t es) es (zi (zdt hT)) rfl rfl (.refl _ _),?_⟩;rw[zdk (zdt hT),List.set_set];refine zeP h1 hl ?_ h;intro c hc;simp only[List.set_cons_zero,List.mem_cons,List.not_mem_nil,or_false]at hc;subst hc;exact .d _
def numR (most:Nat):Nat->Nat->List UInt8->Except Int (Nat × List UInt8)
 | _,_,[]=>.error 10
 | i,acc,c::r=>
  if i=9/\c.toNat>1 then .error 11
  else if c.toNat<128 then(if (i>0/\c.toNat=0)∨acc+c.toNat*128 ^ i>most then .error 11 else .ok (acc+c.toNat*128 ^ i,r))
  else numR most (i+1) (acc+c.toNat % 128*128 ^ i) r
def znC (x:zr):List UInt8:=zbv x.client.toNat++(zbv x.time.toNat++opB x.op)
def zbV (x:zr):List UInt8:=if zT x=0 then znC x else []
def zgt (k d:Int):List UInt8:=zbv k.toNat++zbv d.toNat
def zcv (k d:Int):List UInt8:=if zx k d=0 then zgt k d else []
def oneB (x:zr):List UInt8:=zkq (znC x)++zgt x.key x.dig
def zdM (l:List zr):List UInt8:=(l.map oneB).flatten
def zhl (l:List zr):List UInt8:=zbv l.length++zdM l
def zdL (l:List zr):List UInt8:=if zD l=0 then zhl l else []
theorem req_ok {x:zr}(h:zT x=0):0<=x.client/\x.client<8/\1<=x.time/\x.time<=9007199254740992/\zaN zev x.op=0:=by
 unfold zT at h;split at h
 ·cases h
 ·refine⟨by omega,by omega,by omega,by omega,h⟩
theorem sign_ok {k d:Int}(h:zx k d=0):0<=k/\k<21/\1<=d/\d<=9007199254740992:=by
 unfold zx at h;split at h
 ·cases h
 ·omega
theorem errs_mem {l:List zr}(h:znZ l=0):∀x∈l,zyJ x=0:=by
 induction l with
 | nil=>simp
 | cons s r ih=>
  simp only[znZ]at h
  split at h
  ·rename_i hs;exact absurd h hs
  ·rename_i hs
   intro x hx
   rcases List.mem_cons.1 hx with rfl|hx
   ·simpa using hs
   ·exact ih h x hx
theorem zkb {l:List zr}(h:zD l=0):l.length<=4/\(∀x∈l,zT x=0/\zx x.key x.dig=0)/\l.Pairwise ndup:=by
 unfold zD at h;split at h
 ·cases h
 ·split at h
  ·rename_i h1;exact absurd h h1
  ·split at h
   ·rename_i h0 h1 h2;refine⟨by omega,fun x hx=>?_,h2⟩;have:=errs_mem (by simpa using h1) x hx;unfold zyJ at this;split at this
    ·rename_i h3;exact absurd this h3
    ·rename_i h3;exact⟨by simpa using h3,this⟩
   ·cases h
theorem opB_len {o:TOp}(h:zmW o<=268435456)(hc:zaN zev o=0):(opB o).length<=zmW o+60:=by
 obtain⟨k0,k4,o0,o1,_⟩:=zvl hc;have hr:=zmZ o.recs;have hrb:=zlY o.recs (by unfold zmW at h;omega) o.recs.length;rw[List.take_length]at hrb;unfold zmW at h ⊢;have n1:=zl (n:=o.kind.toNat) (by omega);have n2:=zl (n:=o.topic.length) (by omega);have n3:=zl (n:=o.group.length) (by omega);have n4:=zl (n:=o.offset.toNat) (by omega);have n5:=zl (n:=o.recs.length) (by omega);have hk:o.kind=0∨o.kind=1∨o.kind=2∨o.kind=3∨o.kind=4:=by omega
 rcases hk with hk|hk|hk|hk|hk
 ·rw[opB_0 hk];omega
 ·rw[opB_1 hk];simp only[List.length_append];omega
 ·rw[opB_2 hk];simp only[List.length_append];omega
 ·rw[opB_3 hk];simp only[List.length_append];omega
 ·rw[opB_4 hk];simp only[List.length_append];omega
theorem zpu {x:zr}(h:zmW x.op<=268435456)(hc:zT x=0):(znC x).length<=zmW x.op+80:=by
 obtain⟨c0,c8,t1,t2,ho⟩:=req_ok hc;have:=opB_len h ho;have n1:=zl (n:=x.client.toNat) (by omega);have n2:=zl (n:=x.time.toNat) (by omega);simp only[znC,List.length_append];omega
theorem zgB {k d:Int}(h:zx k d=0):(zgt k d).length<=20:=by
 obtain⟨k0,k1,d0,d1⟩:=sign_ok h;have n1:=zl (n:=k.toNat) (by omega);have n2:=zl (n:=d.toNat) (by omega);simp only[zgt,List.length_append];omega
theorem oneB_len {x:zr}(h:zmW x.op<=20971520)(h1:zT x=0)(h2:zx x.key x.dig=0):(oneB x).length<=20971700:=by
 have a:=zpu (by omega) h1;have b:=zgB h2;have c:=zdl (x:=znC x) (by omega);simp only[oneB,List.length_append];omega
theorem zwZ {l:List zr}(h:∀x∈l,zmW x.op<=20971520)(hc:zD l=0)(k:Nat):(zdM (l.take k)).length<=83886800:=by
 obtain⟨h4,hm,_⟩:=zkb hc;have key:∀(m:List zr),(∀x∈m,x∈l)->(zdM m).length<=m.length*20971700:=by
  intro m;induction m with
  | nil=>intro _;simp[zdM]
  | cons x m ih=>
   intro hsub
   have h1:=ih fun y hy=>hsub y (by simp[hy])
   have hx:=hsub x (by simp)
   have h2:=oneB_len (h x hx) (hm x hx).1 (hm x hx).2
   simp only[zdM,List.map_cons,List.flatten_cons,List.length_append,List.length_cons]at h1 ⊢
   omega
 have:=key (l.take k) fun x hx=>List.mem_of_mem_take hx;have h5:(l.take k).length<=4:=by rw[List.length_take];omega
 have h6:(l.take k).length*20971700<=4*20971700:=Nat.mul_le_mul_right _ h5;omega
theorem zoQ {l:List zr}{k:Nat}{x:zr}(h:l[k]? = some x):zdM (l.take (k+1))=zdM (l.take k)++oneB x:=by
 rw[List.take_add_one,h];simp[zdM]
theorem ztS {x:zr}(h:zmW x.op<=20971520):(zbV x).length<=20971600:=by
 unfold zbV;split
 ·rename_i hc;have:=zpu (by omega) hc;omega
 ·simp
abbrev zhY (l:List Int):List (List D):=l.map fun t=>[D.int .i64 t]
def zvV (x:Int):Bool:=decide (0<=x/\x<=9007199254740992)
def mayV (a b c d:Int):Bool:=zvV a&&(zvV b&&(zvV c&&zvV d))
def zS (l:List Int):List UInt8:=(l.map fun x=>zbv x.toNat).flatten
def zvz (a b c d:Int):List UInt8:=4::zS [a,b,c,d]
theorem zvU {x:Int}:zvV x=true↔0<=x/\x<=9007199254740992:=by simp[zvV]
theorem zpw {l:List Int}{k:Nat}{x:Int}(h:l[k]? = some x):zS (l.take (k+1))=zS (l.take k)++zbv x.toNat:=by
 rw[List.take_add_one,h];simp[zS]
theorem zos {l:List Int}(h:∀x∈l,x<9223372036854775808):(zS l).length<=l.length*10:=by
 induction l with
 | nil=>simp[zS]
 | cons x l ih=>
  have h1:=h x (by simp)
  have h2:=zl (n:=x.toNat) (by omega)
  have h3:=ih fun y hy=>h y (by simp[hy])
  simp only[zS,List.map_cons,List.flatten_cons,List.length_append,List.length_cons]at h3 ⊢
  omega
theorem mayV_all (a b c d:Int):mayV a b c d=[a,b,c,d].all zvV:=by simp[mayV]
def ziq (L:List (List UInt8)) (G:List zI) (s:zI) (key:Int) (b:List UInt8):Bool:=match zhJ L b with
 | some i=>decide (s.key=key/\s.dig=((i+1:Nat):Int))&&decide (s∈G)
 | none=>false
structure zsK where
 seq:Int
 prev:Int
 batch:Int
 root:Int
 state:Int
deriving DecidableEq
def hdrL (h:zsK):List Int:=[h.seq,h.prev,h.batch,h.root,h.state]
abbrev zxI (h:zsK):List D:=[.int .i64 h.seq,.int .i64 h.prev,.int .i64 h.batch,.int .i64 h.root,.int .i64 h.state]
abbrev hdrA (h:zsK):AV:=.agg [.d (.int .i64 h.seq),.d (.int .i64 h.prev),.d (.int .i64 h.batch),.d (.int .i64 h.root),.d (.int .i64 h.state)]
abbrev zmw (l:List zsK):List (List D):=l.map zxI
def hdrOk (h:zsK):Bool:=(hdrL h).all zvV
def hdrB (h:zsK):List UInt8:=3::zS (hdrL h)
structure znA where
 topic:List UInt8
 offset:Int
 rec_:List UInt8
def placedB (p:znA):List UInt8:=zkq p.topic++(zbv p.offset.toNat++zkq p.rec_)
def zax:List Int->Int
 | []=>0
 | e::r=>if e≠0 then e else zax r
theorem zeH (a b:List Int):zax (a++b)=if zax a≠0 then zax a else zax b:=by
 induction a with
 | nil=>simp[zax]
 | cons e r ih=>
  simp only[List.cons_append,zax,ih]
  by_cases h:e=0
  ·simp[h]
  ·simp[h]
theorem zgJ {a b:List Int}(h:zax a=0):zax (a++b)=zax b:=by rw[zeH,if_neg (by simpa using h)]
theorem zhK {a b:List Int}(h:zax a≠0):zax (a++b)=zax a:=by rw[zeH,if_pos h]
def znX (e x:Int):Int:=if e≠0 then e else x
theorem thn_fst (e:Int)(l:List Int):znX e (zax l)=zax (e::l):=rfl
def inE (n lo hi:Int):Int:=if n<lo∨n>hi then 100 else 0
def zeU (n:Int):Int:=inE n 0 9007199254740992
def zkr (n:Int):Int:=inE n 1 9007199254740992
def zlf (s:List UInt8):Int:=if zev s=true then 0 else 61
def zco (l:List zI):List Int:=inE l.length 0 13::l.map fun s=>zx s.key s.dig
def zfe (c:zjx):Int:=if ((c.seq=0)≠(c.dig=0))∨(c.seq=0/\0<c.signs.length)then 100 else 0
def zbx (c:zjx):List Int:=zeU c.seq::zeU c.dig::zfe c::zco c.signs
def zhi (h:zsK):List Int:=[zkr h.seq,zeU h.prev,zeU h.batch,zeU h.root,zeU h.state]
structure zfl where
 topic:List UInt8
 offset:Int
 rec_:List UInt8
 headers:List zsK
 index:Int
 count:Int
 path:List Int
 cert:zjx
abbrev proofD (p:zfl):List D:=[.str p.topic,.int .i64 p.offset,.slice (bcs p.rec_),.slice (zmw p.headers),.int .i64 p.index,.int .i64 p.count,.slice (zhY p.path),.int .i64 p.cert.seq,.int .i64 p.cert.dig,.slice (zat p.cert.signs)]
abbrev znD (p:zfl):AV:=.agg [.d (.str p.topic),.d (.int .i64 p.offset),.d (.slice (bcs p.rec_)),.d (.slice (zmw p.headers)),.d (.int .i64 p.index),.d (.int .i64 p.count),.d (.slice (zhY p.path)),.d (.int .i64 p.cert.seq),.d (.int .i64 p.cert.dig),.d (.slice (zat p.cert.signs))]
abbrev zmk (c:zjx):AV:=.agg [.d (.int .i64 c.seq),.d (.int .i64 c.dig),.d (.slice (zat c.signs))]
def zgD (p:zfl):List Int:=[zlf p.topic,zeU p.offset,inE p.rec_.length 0 64,inE p.headers.length 0 64]
def zfG (p:zfl):List Int:=[zeU p.index,inE p.count 0 16]
def zhu (p:zfl):List Int:=[inE p.index 0 (p.count-1),inE p.path.length 0 8]
def zcU (p:zfl):List Int:=zgD p++((p.headers.map zhi).flatten++(zfG p++(zhu p++(p.path.map zeU++zbx p.cert))))
def zmj (p:zfl):Int:=zax (zcU p)
theorem zkF {n lo hi:Int}(h:inE n lo hi=0):lo<=n/\n<=hi:=by
 unfold inE at h;split at h
 ·cases h
 ·omega
theorem zrR {n:Int}(h:zeU n=0):0<=n/\n<=9007199254740992:=zkF h
end Go.AW

/- Contracts: what is asked of a proof, the program's. -/
set_option maxRecDepth 100000
namespace Go.Proofs.YtdgcepphjnoalaaGreat
open Go.AW
variable {σ:List AObj} {K:KT}
abbrev zfu (e:Int):AObj:=.box [.d (.int .i64 e)]
theorem ziO (n:Nat)(e:Int):ztL n (zfu e):=by
 intro c hc;simp only[List.mem_cons,List.not_mem_nil,or_false]at hc;subst hc;exact .d _
theorem c_says {id:Nat}{e x:Int}(hσ:σ[id]? = some (zfu e))(hK:K (.tup []) (σ.set id (zfu (znX e x)))):zP zE [.box id 0,.d (.int .i64 x)] σ K:=by
 refine zeq zpY fun hl=>?_;simp only[zjL,iN,bT,bF,eN];cases h:(e==0)
 ·rw[znX,if_pos (by simpa using h),zbR hσ]at hK;refine zm (zd hσ h) ?_;refine zu hl ?_;exact hK
 ·rw[znX,if_neg (by simpa using h)]at hK;refine zm (zd hσ h) ?_;exact zfb (by simp[zcm,dmT,zbu]) hl (ziO _ _) hK
theorem thn_0 (e:Int):znX e 0=e:=by
 unfold znX;split
 ·rfl
 ·rename_i h;simp at h;exact h.symm
theorem zAE {id:Nat}{e n lo hi:Int}(hσ:σ[id]? = some (zfu e))(hK:K (.tup []) (σ.set id (zfu (znX e (inE n lo hi))))) :
  zP zau [.box id 0,.d (.int .i64 n),.d (.int .i64 lo),.d (.int .i64 hi)] σ K:=by
 refine acE4 zsi fun hl=>?_;simp only[zlQ,iN,bT,bF,eN];have bad:(n<lo∨n>hi)->zP zE [.box id 0,.d (.int .i64 100)] σ fun _ s=>AW.Ends σ.length K (some []) s:=fun h=>by
  rw[inE,if_pos h]at hK;refine c_says hσ ?_;exact zfb (by simp[zcm,dmT,zbu]) hl (ziO _ _) hK
 cases h1:decide (n<lo)
 ·cases h2:decide (n>hi)
  ·rw[inE,if_neg (by simp at h1 h2;omega),thn_0,zbR hσ]at hK;refine zm (zd h1 h2) ?_;refine zu hl ?_;exact hK
  ·refine zm (zd h1 h2) ?_;exact bad (.inr (by simpa using h2))
 ·refine zm h1 ?_;exact bad (.inl (by simpa using h1))
theorem zAD {id:Nat}{e n:Int}(hσ:σ[id]? = some (zfu e))(hK:K (.tup []) (σ.set id (zfu (znX e (zeU n))))) :
  zP zQ [.box id 0,.d (.int .i64 n)] σ K:=by
 refine zeq zrn fun hl=>?_;simp only[zkZ,iN,bT,bF,eN];refine zG ?_;refine zAE hσ ?_;exact zfb (by simp[zcm,dmT,zbu]) hl (ziO _ _) hK
theorem c_askPos {id:Nat}{e n:Int}(hσ:σ[id]? = some (zfu e))(hK:K (.tup []) (σ.set id (zfu (znX e (zkr n))))) :
  zP zaf [.box id 0,.d (.int .i64 n)] σ K:=by
 refine zeq zrm fun hl=>?_;simp only[zkY,iN,bT,bF,eN];refine zG ?_;refine zAE hσ ?_;exact zfb (by simp[zcm,dmT,zbu]) hl (ziO _ _) hK
theorem c_askMany {id:Nat}{e n hi:Int}(hσ:σ[id]? = some (zfu e))(hK:K (.tup []) (σ.set id (zfu (znX e (inE n 0 hi))))) :
  zP zal [.box id 0,.d (.int .i64 n),.d (.int .i64 hi)] σ K:=by
 refine acE3 zqa fun hl=>?_;simp only[zjN,iN,bT,bF,eN];refine zG ?_;refine zAE hσ ?_;exact zfb (by simp[zcm,dmT,zbu]) hl (ziO _ _) hK
theorem c_askName {id:Nat}{e:Int}{x:List UInt8}(hσ:σ[id]? = some (zfu e))(hx:x.length<=1073741824)(hK:K (.tup []) (σ.set id (zfu (znX e (zlf x))))) :
  zP zcw [.box id 0,.d (.str x)] σ K:=by
 refine zeq zpZ fun hl=>?_;simp only[zjM,iN,bT,bF,eN];refine zG ?_;refine c_Name hx ?_;cases h:zev x
 ·rw[zlf,if_neg (by simp[h])]at hK;refine zG ?_;refine c_says hσ ?_;exact zfb (by simp[zcm,dmT,zbu]) hl (ziO _ _) hK
 ·rw[zlf,if_pos h,thn_0,zbR hσ]at hK;refine zG ?_;refine zu hl ?_;exact hK
theorem fst_snoc (e:Int)(l:List Int)(x:Int):znX (zax (e::l)) x=zax (e::(l++[x])):=by
 rw[show e::(l++[x])=(e::l)++[x]from rfl,zeH];unfold znX;split
 ·rfl
 ·simp[zax]
theorem zjX {α β:Type}{f:α→β}{l:List α}{k:Nat}{x:α}(h:l[k]? = some x):(l.take (k+1)).map f=(l.take k).map f++[f x]:=by
 rw[List.take_add_one,h];simp
theorem wkc (k:Nat)(h:k<=1073741824):IntKind.i64.wrap ((k:Int)+1)=((k+1:Nat):Int):=by rw[zaW (by omega) (by omega)];rfl
theorem fst1 (e x:Int):zax [e,x]=znX e x:=by
 unfold znX;simp only[zax];split
 ·rfl
 ·split
  ·rfl
  ·rename_i h;simp at h;exact h.symm
theorem bft:((false:Bool)==true)=false:=rfl
theorem btf:((true:Bool)==false)=false:=rfl
theorem gq19 {A P Q:Prop}(a:A)(h:Q)(e:A->Hd Q->P:=by intro a h;(repeat' first|simp -dsimp only[↓zlG,↓zbS,↓zee,↓zlH,↓zly,↓zlw,↓zlz,↓zlx,↓zej,↓zef,↓zek,↓zeg,↓zlA,↓zeb,↓zel,↓zeh,↓zem,↓zei,↓zlv,↓zlE,↓zea,↓zep,↓zln,↓zlm,↓zlt,iN,bT,bF,eN,↓zes,↓unC,↓zaB,↓zah,↓zai,↓zav,↓zaX,↓zag,↓zgA,↓zaw,↓zbf,↓zad,↓ze,↓zj,↓zaR,↓zc,↓zaV,↓zN,↓zbT,↓zcl,↓zf,↓zF,↓zp,↓zM,↓zaA,↓zgH,↓zhI,↓zbc,↓zby,↓zcf,↓zcA,↓zdo,↓zJ,↓zbb,↓zak,↓zO,↓zaU,zhr,zdU,zdB,unA,zgx,bnd,ziS,zaO,zL,zic,dm,dm1,zH,zaF,zjW,zjV,keepO,Q0,Q1,Q2,Q3,Q4,Q5,zba,zA,zB,zY,zab,Q6,Q7,Q8,Q9,Q10,Q11,Q12,Q13,Q14,Nat.reduceAdd,Q15,Int.reduceToNat,Q16,Q17,Q18,Q19,Q20,reduceIte,Q21,Q22,zy,rep,zaq,zhW,toD,zaC,Q23,Q24,Q25,Q26,Q27,Q28,Nat.reduceLeDiff,Q29,Nat.reduceSub,Q30,Q31,Q32,sc,Q33,Q34,Q35,Q36,Q37,Q26,Q38,Q39,zuF,zuC,zuz,zuG,zjv,zuD,zuA,zuE,zuB,zju,zjw,zuI,zuJ,Bool.not_true,Bool.not_false,List.length_map,Bool.and_false,Bool.and_self,Bool.false_and,Bool.not_false,Bool.not_true,Bool.true_and,Int.toNat_natCast,Int.toNat_zero,List.drop_zero,List.length_map,List.length_nil,List.nil_append,List.take_length,Nat.sub_zero,Nat.zero_add,Option.isSome_none,Option.isSome_some,Option.map_none,Option.map_some,zam,beq_self_eq_true,bft,bne_self_eq_false,btf,zck,zmk,zaj,zdI,zxI,zch,zuy,opA,opD,zgb,zgX,zir,zaD,a]|with_reducible refine zuX ?_|fail);exact h.go):P:=e a ⟨h⟩
theorem zyW {id:Nat}{e:Int}{l:List zI}(hσ:σ[id]? = some (zfu e))(hl0:l.length<=1073741824)(hK:K (.tup []) (σ.set id (zfu (znX e (zax (zco l)))))) :
  zP zaZ [.box id 0,.d (.slice (zat l))] σ K:=by
 refine zeq zoL fun hl=>?_;have hlen:(zat l).length=l.length:=List.length_map ..;have hid:=zaa hσ;rw[thn_fst,zco]at hK;simp only[zjj,iN,bT,bF,eN];refine zm hlen ?_;refine c_askMany hσ ?_;refine zm hlen ?_;refine zn l.length (fun k vs s=>vs=[.d (.int .i64 k)]/\∃T,s=σ.set id (zfu (zax (e::(inE l.length 0 13::(l.take k).map fun s=>zx s.key s.dig))))++T) ⟨rfl,[],by rw[List.take_zero,List.map_nil,fst1,List.append_nil]⟩ ?_;rintro k vs s hk ⟨rfl,T,rfl⟩;by_cases hlt:k<l.length
 ·have hd:decide ((k:Int)<(l.length:Int))=true:=by simp;omega
  have hx:l[k]? = some l[k]:=by simp[hlt]
  have hgx:=zR (f:=zgX) hx;obtain⟨x,hxe⟩:∃x,l[k]=x:=⟨_,rfl⟩;rw[hxe]at hx hgx;have hmn:=zjX (f:=fun s:zI=>zx s.key s.dig) hx;have fs:=fst_snoc e (inE l.length 0 13::(l.take k).map fun s=>zx s.key s.dig) (zx x.key x.dig);simp only[List.cons_append]at fs;rw[← hmn]at fs;obtain⟨E,hE⟩:∃E,zax (e::(inE l.length 0 13::(l.take k).map fun s=>zx s.key s.dig))=E:=⟨_,rfl⟩;rw[hE]at fs ⊢;have hS:∀τ,(σ.set id (zfu E)++τ)[id]? = some (zfu E):=fun τ=>zi (zdt hσ);refine gq19 (zd hd (zd hgx hlen)) ?_;refine zbM ?_;refine zG ?_;refine c_says (e:=E) (hS _) ?_;rw[zdk (zdt hσ),List.set_set];refine zm (wkc k (by omega)) ?_;exact zaK.next hlt ⟨rfl,_,by rw[fs]⟩
 ·have hd:decide ((k:Int)<(l.length:Int))=false:=by simp;omega
  rw[List.take_of_length_le (by omega)];refine zm hd ?_;exact zeP (by simp[zcm,dmT,zbu]) hl (ziO _ _) hK
theorem zjB {A P Q:Prop}(a:A)(h:Q)(e:A->Hd Q->P:=by intro a h;(repeat' first|simp -dsimp only[↓zlG,↓zbS,↓zee,↓zlH,↓zly,↓zlw,↓zlz,↓zlx,↓zej,↓zef,↓zek,↓zeg,↓zlA,↓zeb,↓zel,↓zeh,↓zem,↓zei,↓zlv,↓zlE,↓zea,↓zep,↓zln,↓zlm,↓zlt,iN,bT,bF,eN,↓zes,↓unC,↓zaB,↓zah,↓zai,↓zav,↓zaX,↓zag,↓zgA,↓zaw,↓zbf,↓zad,↓ze,↓zj,↓zaR,↓zc,↓zaV,↓zN,↓zbT,↓zcl,↓zf,↓zF,↓zp,↓zM,↓zaA,↓zgH,↓zhI,↓zbc,↓zby,↓zcf,↓zcA,↓zdo,↓zJ,↓zbb,↓zak,↓zO,↓zaU,zhr,zdU,zdB,unA,zgx,bnd,ziS,zaO,zL,zic,dm,dm1,zH,zaF,zjW,zjV,keepO,Q0,Q1,Q2,Q3,Q4,Q5,zba,zA,zB,zY,zab,Q6,Q7,Q8,Q9,Q10,Q11,Q12,Q13,Q14,Nat.reduceAdd,Q15,Int.reduceToNat,Q16,Q17,Q18,Q19,Q20,reduceIte,Q21,Q22,zy,rep,zaq,zhW,toD,zaC,Q23,Q24,Q25,Q26,Q27,Q28,Nat.reduceLeDiff,Q29,Nat.reduceSub,Q30,Q31,Q32,sc,Q33,Q34,Q35,Q36,Q37,Q26,Q38,Q39,zuF,zuC,zuz,zuG,zjv,zuD,zuA,zuE,zuB,zju,zjw,zuI,zuJ,Bool.not_true,Bool.not_false,List.length_map,Bool.and_false,Bool.and_self,Bool.false_and,Bool.not_false,Bool.not_true,Bool.true_and,Int.toNat_natCast,Int.toNat_zero,List.drop_zero,List.length_map,List.length_nil,List.nil_append,List.take_length,Nat.sub_zero,Nat.zero_add,Option.isSome_none,Option.isSome_some,Option.map_none,Option.map_some,zam,beq_self_eq_true,bft,bne_self_eq_false,btf,a]|with_reducible refine zuX ?_|fail);exact h.go):P:=e a ⟨h⟩
theorem c_askCert {id:Nat}{e:Int}{c:zjx}(hσ:σ[id]? = some (zfu e))(hl0:c.signs.length<=1073741824)(hK:K (.tup []) (σ.set id (zfu (znX e (zax (zbx c)))))) :
  zP zbQ [.box id 0,zmk c] σ K:=by
 refine zeq zqb fun hl=>?_;have hlen:(zat c.signs).length=c.signs.length:=List.length_map ..;simp only[zjO,iN,bT,bF,eN,zmk];have hB:∀X,(σ.set id X++[AObj.box [AV.d (D.int .i64 c.seq),AV.d (D.int .i64 c.dig),AV.d (D.slice (zat c.signs))]])[σ.length]? = some (AObj.box [AV.d (D.int .i64 c.seq),AV.d (D.int .i64 c.dig),AV.d (D.slice (zat c.signs))]):=fun X=>by
  rw[List.getElem?_append_right (by simp)];simp
 have hS:∀E τ,(σ.set id (zfu E)++τ)[id]? = some (zfu E):=fun E τ=>zi (zdt hσ);have hP:∀E Y τ,(σ.set id (zfu E)++τ).set id Y=σ.set id Y++τ:=fun E Y τ=>by rw[zdk (zdt hσ),List.set_set]
 have e4:znX e (zax (zbx c))=znX (znX (znX (znX e (zeU c.seq)) (zeU c.dig)) (zfe c)) (zax (zco c.signs)):=by
  simp only[zbx,zax,znX];by_cases h0:e=0
  ·by_cases h1:zeU c.seq=0
   ·by_cases h2:zeU c.dig=0
    ·by_cases h3:zfe c=0
     ·simp[h0,h1,h2,h3]
     ·simp[h0,h1,h2,h3]
    ·simp[h0,h1,h2]
   ·simp[h0,h1]
  ·simp[h0]
 rw[e4]at hK;refine zG ?_;refine zAD (zi hσ) ?_;rw[zdk hσ];refine zm hB ?_;refine zAD (hS _ _) ?_;rw[hP];obtain⟨E,hE⟩:∃E,znX (znX e (zeU c.seq)) (zeU c.dig)=E:=⟨_,rfl⟩;rw[hE]at hK ⊢;have tail:∀M,M=zfe c->zP zaZ [.box id 0,.d (.slice (zat c.signs))] (σ.set id (zfu (znX E M))++[AObj.box [AV.d (D.int .i64 c.seq),AV.d (D.int .i64 c.dig),AV.d (D.slice (zat c.signs))]]) fun _ s=>AW.Ends σ.length K (some []) s:=fun M hM=>by
  subst hM;refine zyW (hS _ _) hl0 ?_;rw[hP];exact zeP (by simp[zcm,dmT,zbu]) hl (ziO _ _) hK
 have no:zfe c=100->zP zE [.box id 0,.d (.int .i64 100)] (σ.set id (zfu E)++[AObj.box [AV.d (D.int .i64 c.seq),AV.d (D.int .i64 c.dig),AV.d (D.slice (zat c.signs))]]) fun _ s=>fl 2 (.box σ.length 0) s fun g s=>cA Tryz.prog zaZ [.box id 0,g] s fun _ s=>AW.Ends σ.length K (some []) s:=fun h=>by
  refine c_says (hS _ _) ?_;rw[hP];refine zm hB ?_;exact tail 100 h.symm
 have yes:zfe c=0->zP zaZ [.box id 0,.d (.slice (zat c.signs))] (σ.set id (zfu E)++[AObj.box [AV.d (D.int .i64 c.seq),AV.d (D.int .i64 c.dig),AV.d (D.slice (zat c.signs))]]) fun _ s=>AW.Ends σ.length K (some []) s:=fun h=>by
  have:=tail 0 h.symm;rw[thn_0]at this;exact this
 cases h1:(c.seq==0)
 ·cases h2:(c.dig==0)
  ·refine zjB (zd hB (zd h1 h2)) ?_;exact yes (by simp at h1 h2;simp[zfe,h1,h2])
  ·refine zjB (zd hB (zd h1 h2)) ?_;exact no (by simp at h1 h2;simp[zfe,h1,h2])
 ·cases h2:(c.dig==0)
  ·refine zjB (zd hB (zd h1 h2)) ?_;exact no (by simp at h1 h2;simp[zfe,h1,h2])
  ·cases h3:decide ((c.signs.length:Int)>0)
   ·refine zjB (zd hB (zd h1 (zd h2 (zd hlen h3)))) ?_;exact yes (by simp at h1 h2 h3;simp[zfe,h1,h2,h3])
   ·refine zjB (zd hB (zd h1 (zd h2 (zd hlen h3)))) ?_;exact no (by simp only[beq_iff_eq,decide_eq_true_eq]at h1 h2 h3;rw[zfe,if_pos (.inr ⟨h1,by omega⟩)])
structure zqN (p:zfl):Prop where
 topic:p.topic.length<=16777216
 rec_:p.rec_.length<=16777216
 headers:p.headers.length<=1073741824
 path:p.path.length<=1073741824
 signs:p.cert.signs.length<=1073741824
 off:zqn p.offset
 index:zqn p.index
 count:zqn p.count
 paths:∀x∈p.path,zqn x
abbrev zop (p:zfl):AObj:=.box [.d (.str p.topic),.d (.int .i64 p.offset),.d (.slice (bcs p.rec_)),.d (.slice (zmw p.headers)),.d (.int .i64 p.index),.d (.int .i64 p.count),.d (.slice (zhY p.path)),.d (.int .i64 p.cert.seq),.d (.int .i64 p.cert.dig),.d (.slice (zat p.cert.signs))]
theorem thnE_app (e:Int)(a b:List Int):znX (znX e (zax a)) (zax b)=znX e (zax (a++b)):=by
 rw[zeH];unfold znX;by_cases h:e=0
 ·by_cases h2:zax a=0
  ·simp[h,h2]
  ·simp[h,h2]
 ·simp[h]
theorem thnE_app1 (e:Int)(a:List Int)(x:Int):znX (znX e (zax a)) x=znX e (zax (a++[x])):=by
 have:x=zax [x]:=by simp only[zax];split<;>simp_all
 conv=>lhs;rw[this]
 exact thnE_app e a [x]
theorem thnE_z (x:Int):znX 0 x=x:=by simp[znX]
theorem zpo (l:List Int)(x:Int):znX (zax l) x=zax (l++[x]):=by rw[← thnE_z (zax l),thnE_app1,thnE_z]
end Go.Proofs.YtdgcepphjnoalaaGreat

/- Messages: which may be. No program in sight. -/
namespace Go.AW
structure zbC where
 kind:Int
 src:Int
 view:Int
 seq:Int
 dig:Int
 client:Int
 time:Int
 rerr:Int
 roff:Int
 batch:List zr
 cert:zjx
 changes:List zbj
 entries:List zhS
 state:List UInt8
 topic:List UInt8
 offset:Int
 proof:zfl
 key:Int
 sdig:Int
def zCert:zjx:=⟨0,0,[]⟩
def zsU:zfl:=⟨[],0,[],[],0,0,[],zCert⟩
def zeu:zbC:=⟨0,0,0,0,0,0,0,0,0,[],zCert,[],[],[],[],0,zsU,0,0⟩
abbrev msgL (m:zbC):List AV:=
 [.d (.int .i64 m.kind),.d (.int .i64 m.src),.d (.int .i64 m.view),.d (.int .i64 m.seq),.d (.int .i64 m.dig),.d (.int .i64 m.client),.d (.int .i64 m.time),.d (.int .i64 m.rerr),.d (.int .i64 m.roff),.d (.slice (zbz m.batch)),
  .d (.int .i64 m.cert.seq),.d (.int .i64 m.cert.dig),.d (.slice (zat m.cert.signs)),.d (.slice (zap m.changes)),.d (.slice (zbo m.entries)),.d (.slice (bcs m.state)),.d (.str m.topic),.d (.int .i64 m.offset),
  .d (.str m.proof.topic),.d (.int .i64 m.proof.offset),.d (.slice (bcs m.proof.rec_)),.d (.slice (zmw m.proof.headers)),.d (.int .i64 m.proof.index),.d (.int .i64 m.proof.count),.d (.slice (zhY m.proof.path)),.d (.int .i64 m.proof.cert.seq),.d (.int .i64 m.proof.cert.dig),.d (.slice (zat m.proof.cert.signs)),.d (.int .i64 m.key),.d (.int .i64 m.sdig)]
abbrev zgi (m:zbC):AV:=.agg (msgL m)
abbrev zlg (m:zbC):AObj:=.box (msgL m)
def zjE (n:Int):Int:=inE n 0 12
def zdX (p:zkc):List Int:=zeU p.view::zkr p.seq::zkr p.dig::zx p.fkey p.fdig::(zco p.signs++[zD p.batch])
def zez (c:zbj):List Int:=zkr c.view::zjE c.src::(zbx c.cert++(inE c.above.length 0 8::(c.above.map zdX).flatten))
def zaT (c:zbj):List Int:=zez c++[zx c.key c.dig]
def zen (x:zhS):List Int:=[zeU x.view,zkr x.seq,zD x.batch,zx x.key x.dig]
def zet (m:zbC):List Int:=[zjE m.src,zeU m.view,zkr m.seq,zkr m.dig]
def zfH (m:zbC):List Int:=zjE m.src::zkr m.view::inE m.changes.length 0 13::((m.changes.map zaT).flatten++(inE m.entries.length 0 8::(m.entries.map zen).flatten))
def zeT (k:Int):Bool:=decide (2<=k/\k<=9/\k≠7)
def zC (m:zbC):List Int:=
 if m.kind=1 then [inE m.batch.length 1 1,zD m.batch]
 else if m.kind=2 then zet m++[zD m.batch]
 else if m.kind=3∨m.kind=4 then zet m
 else if m.kind=5 then [zjE m.src,zeU m.view,inE m.client 0 7,zeU m.time,inE m.rerr 0 65536,zeU m.roff]
 else if m.kind=6 then [zjE m.src,zkr m.seq,zkr m.dig]
 else if m.kind=7 then inE m.changes.length 1 1::(m.changes.map fun c=>zaT c++[if c.src≠m.src∨c.view≠m.view then 100 else 0]).flatten
 else if m.kind=8 then zfH m
 else if m.kind=9 then [zjE m.src,zeU m.seq]
 else if m.kind=10 then zjE m.src::(zbx m.cert++[inE m.state.length 0 262144])
 else if m.kind=11 then [inE m.client 0 7,zlf m.topic,zeU m.offset]
 else if m.kind=12 then zjE m.src::zcU m.proof
 else [100]
def zac (m:zbC):List Int:=zC m++(if zeT m.kind=true then [zx m.key m.sdig]else [])
def zfD (m:zbC):zbC:=
 if m.kind=1 then{ zeu with kind:=m.kind,batch:=m.batch }
 else if m.kind=2 then{ zeu with kind:=m.kind,src:=m.src,view:=m.view,seq:=m.seq,dig:=m.dig,batch:=m.batch,key:=m.key,sdig:=m.sdig }
 else if m.kind=3∨m.kind=4 then{ zeu with kind:=m.kind,src:=m.src,view:=m.view,seq:=m.seq,dig:=m.dig,key:=m.key,sdig:=m.sdig }
 else if m.kind=5 then{ zeu with kind:=m.kind,src:=m.src,view:=m.view,client:=m.client,time:=m.time,rerr:=m.rerr,roff:=m.roff,key:=m.key,sdig:=m.sdig }
 else if m.kind=6 then{ zeu with kind:=m.kind,src:=m.src,seq:=m.seq,dig:=m.dig,key:=m.key,sdig:=m.sdig }
 else if m.kind=7 then{ zeu with kind:=m.kind,src:=m.src,view:=m.view,changes:=m.changes }
 else if m.kind=8 then{ zeu with kind:=m.kind,src:=m.src,view:=m.view,changes:=m.changes,entries:=m.entries,key:=m.key,sdig:=m.sdig }
 else if m.kind=9 then{ zeu with kind:=m.kind,src:=m.src,seq:=m.seq,key:=m.key,sdig:=m.sdig }
 else if m.kind=10 then{ zeu with kind:=m.kind,src:=m.src,cert:=m.cert,state:=m.state }
 else if m.kind=11 then{ zeu with kind:=m.kind,client:=m.client,topic:=m.topic,offset:=m.offset }
 else if m.kind=12 then{ zeu with kind:=m.kind,src:=m.src,proof:=m.proof }
 else{ zeu with kind:=m.kind,src:=m.src }
deriving instance DecidableEq for zfl
deriving instance DecidableEq for zbC
def zbK (m:zbC):Int:=if zax (zac m)≠0 then zax (zac m)else if m=zfD m then 0 else 100
end Go.AW

/- Contracts: parts of messages that are the same, the program's. -/
set_option maxRecDepth 100000
namespace Go.Proofs.YtdgcepphjnoalaaGreat
open Go.AW
variable {σ:List AObj} {K:KT}
theorem gq21 {A P Q:Prop}(a:A)(h:Q)(e:A->Hd Q->P:=by intro a h;(repeat' first|simp -dsimp only[↓zlG,↓zbS,↓zee,↓zlH,↓zly,↓zlw,↓zlz,↓zlx,↓zej,↓zef,↓zek,↓zeg,↓zlA,↓zeb,↓zel,↓zeh,↓zem,↓zei,↓zlv,↓zlE,↓zea,↓zep,↓zln,↓zlm,↓zlt,iN,bT,bF,eN,↓zes,↓unC,↓zaB,↓zah,↓zai,↓zav,↓zaX,↓zag,↓zgA,↓zaw,↓zbf,↓zad,↓ze,↓zj,↓zaR,↓zc,↓zaV,↓zN,↓zbT,↓zcl,↓zf,↓zF,↓zp,↓zM,↓zaA,↓zgH,↓zhI,↓zbc,↓zby,↓zcf,↓zcA,↓zdo,↓zJ,↓zbb,↓zak,↓zO,↓zaU,zhr,zdU,zdB,unA,zgx,bnd,ziS,zaO,zL,zic,dm,dm1,zH,zaF,zjW,zjV,keepO,Q0,Q1,Q2,Q3,Q4,Q5,zba,zA,zB,zY,zab,Q6,Q7,Q8,Q9,Q10,Q11,Q12,Q13,Q14,Nat.reduceAdd,Q15,Int.reduceToNat,Q16,Q17,Q18,Q19,Q20,reduceIte,Q21,Q22,zy,rep,zaq,zhW,toD,zaC,Q23,Q24,Q25,Q26,Q27,Q28,Nat.reduceLeDiff,Q29,Nat.reduceSub,Q30,Q31,Q32,sc,Q33,Q34,Q35,Q36,Q37,Q26,Q38,Q39,zuF,zuC,zuz,zuG,zjv,zuD,zuA,zuE,zuB,zju,zjw,zuI,zuJ,Bool.not_true,Bool.not_false,List.length_map,Bool.and_false,Bool.and_self,Bool.false_and,Bool.not_false,Bool.not_true,Bool.true_and,Int.toNat_natCast,Int.toNat_zero,List.drop_zero,List.length_map,List.length_nil,List.nil_append,List.take_length,Nat.sub_zero,Nat.zero_add,Option.isSome_none,Option.isSome_some,Option.map_none,Option.map_some,zam,beq_self_eq_true,bft,bne,bne_self_eq_false,btf,zck,zmk,zaj,zdI,zxI,zch,zuy,opA,opD,zgb,zgX,zir,zaD,a]|with_reducible refine zuX ?_|fail);exact h.go):P:=e a ⟨h⟩
theorem c_eqSign {a b:List zI}(ha1:a.length<=1073741824)(hK:K (.d (.bool (decide (a=b)))) σ) :
  zP zbA [.d (.slice (zat a)),.d (.slice (zat b))] σ K:=by
 refine zeq zhZ fun hl=>?_;have fin:∀z,decide (a=b)=z->K (.d (.bool z)) σ:=fun z h=>h▸hK;clear hK;simp only[zeB,iN,bT,bF,eN];cases hl0:((a.length:Int) != (b.length:Int));rotate_left
 ·refine zm hl0 ?_;refine zu hl ?_;refine fin _ (decide_eq_false fun h=>?_);rw[h]at hl0;simp at hl0
 have hl2:a.length=b.length:=by simp at hl0;omega
 refine zm hl0 ?_;refine zn a.length (fun k vs s=>vs=[.d (.int .i64 k)]/\(∃T,s=σ++T)/\a.take k=b.take k) ⟨rfl,⟨[],by simp⟩,by simp⟩ ?_;rintro k vs s hk ⟨rfl,⟨T,rfl⟩,htk⟩;by_cases hlt:k<a.length
 ·have hd:decide ((k:Int)<(a.length:Int))=true:=by simp;omega
  have hx:a[k]? = some a[k]:=by simp[hlt]
  have hy:b[k]? = some (b[k]'(by omega)):=List.getElem?_eq_getElem _;have hgx:=zR (f:=zgX) hx;have hgy:=zR (f:=zgX) hy;obtain⟨x,hxe⟩:∃x,a[k]=x:=⟨_,rfl⟩;obtain⟨y,hye⟩:∃y,(b[k]'(by omega))=y:=⟨_,rfl⟩;rw[hxe]at hx hgx;rw[hye]at hy hgy;obtain⟨S,hS⟩:∃S,σ++T=S:=⟨_,rfl⟩;rw[hS];have hxy:x=y↔((x.key==y.key&&x.dig==y.dig))=true:=by cases x;cases y;simp
  cases h2:((x.key==y.key&&x.dig==y.dig))
  ·refine gq21 (zd hd (zd hgx (zd hgy h2))) ?_;rw[← hS];refine zu hl ?_;refine fin _ (decide_eq_false fun h=>?_);subst h;rw[hx]at hy;rw[hxy.1 (Option.some.inj hy)]at h2;cases h2
  ·refine gq21 (zd hd (zd hgx (zd hgy (zd h2 (wk1 k (by omega)))))) ?_;exact zaK.next hlt ⟨rfl,⟨_,hS.symm⟩,zbq hx hy htk (hxy.2 h2)⟩
 ·have hd:decide ((k:Int)<(a.length:Int))=false:=by simp;omega
  refine zm hd ?_;refine zu hl ?_;exact fin _ (decide_eq_true (zcu hl2 (k:=k) (by omega) htk))
theorem c_eqHdr {a b:List zsK}(ha1:a.length<=1073741824)(hK:K (.d (.bool (decide (a=b)))) σ) :
  zP zbW [.d (.slice (zmw a)),.d (.slice (zmw b))] σ K:=by
 refine zeq zgK fun hl=>?_;have fin:∀z,decide (a=b)=z->K (.d (.bool z)) σ:=fun z h=>h▸hK;clear hK;simp only[zdv,iN,bT,bF,eN];cases hl0:((a.length:Int) != (b.length:Int));rotate_left
 ·refine zm hl0 ?_;refine zu hl ?_;refine fin _ (decide_eq_false fun h=>?_);rw[h]at hl0;simp at hl0
 have hl2:a.length=b.length:=by simp at hl0;omega
 refine zm hl0 ?_;refine zn a.length (fun k vs s=>vs=[.d (.int .i64 k)]/\(∃T,s=σ++T)/\a.take k=b.take k) ⟨rfl,⟨[],by simp⟩,by simp⟩ ?_;rintro k vs s hk ⟨rfl,⟨T,rfl⟩,htk⟩;by_cases hlt:k<a.length
 ·have hd:decide ((k:Int)<(a.length:Int))=true:=by simp;omega
  have hx:a[k]? = some a[k]:=by simp[hlt]
  have hy:b[k]? = some (b[k]'(by omega)):=List.getElem?_eq_getElem _;have hgx:=zR (f:=zxI) hx;have hgy:=zR (f:=zxI) hy;obtain⟨x,hxe⟩:∃x,a[k]=x:=⟨_,rfl⟩;obtain⟨y,hye⟩:∃y,(b[k]'(by omega))=y:=⟨_,rfl⟩;rw[hxe]at hx hgx;rw[hye]at hy hgy;obtain⟨S,hS⟩:∃S,σ++T=S:=⟨_,rfl⟩;rw[hS];have hxy:x=y↔((x.seq==y.seq&&(x.prev==y.prev&&(x.batch==y.batch&&(x.root==y.root&&x.state==y.state)))))=true:=by cases x;cases y;simp
  cases h2:((x.seq==y.seq&&(x.prev==y.prev&&(x.batch==y.batch&&(x.root==y.root&&x.state==y.state)))))
  ·refine gq21 (zd hd (zd hgx (zd hgy h2))) ?_;rw[← hS];refine zu hl ?_;refine fin _ (decide_eq_false fun h=>?_);subst h;rw[hx]at hy;rw[hxy.1 (Option.some.inj hy)]at h2;cases h2
  ·refine gq21 (zd hd (zd hgx (zd hgy (zd h2 (wk1 k (by omega)))))) ?_;exact zaK.next hlt ⟨rfl,⟨_,hS.symm⟩,zbq hx hy htk (hxy.2 h2)⟩
 ·have hd:decide ((k:Int)<(a.length:Int))=false:=by simp;omega
  refine zm hd ?_;refine zu hl ?_;exact fin _ (decide_eq_true (zcu hl2 (k:=k) (by omega) htk))
theorem c_eqDig {a b:List Int}(ha1:a.length<=1073741824)(hK:K (.d (.bool (decide (a=b)))) σ) :
  zP zbX [.d (.slice (zhY a)),.d (.slice (zhY b))] σ K:=by
 refine zeq zgL fun hl=>?_;have fin:∀z,decide (a=b)=z->K (.d (.bool z)) σ:=fun z h=>h▸hK;clear hK;simp only[zdw,iN,bT,bF,eN];cases hl0:((a.length:Int) != (b.length:Int));rotate_left
 ·refine zm hl0 ?_;refine zu hl ?_;refine fin _ (decide_eq_false fun h=>?_);rw[h]at hl0;simp at hl0
 have hl2:a.length=b.length:=by simp at hl0;omega
 refine zm hl0 ?_;refine zn a.length (fun k vs s=>vs=[.d (.int .i64 k)]/\(∃T,s=σ++T)/\a.take k=b.take k) ⟨rfl,⟨[],by simp⟩,by simp⟩ ?_;rintro k vs s hk ⟨rfl,⟨T,rfl⟩,htk⟩;by_cases hlt:k<a.length
 ·have hd:decide ((k:Int)<(a.length:Int))=true:=by simp;omega
  have hx:a[k]? = some a[k]:=by simp[hlt]
  have hy:b[k]? = some (b[k]'(by omega)):=List.getElem?_eq_getElem _;have hgx:=zR (f:=fun t=>[D.int .i64 t]) hx;have hgy:=zR (f:=fun t=>[D.int .i64 t]) hy;obtain⟨x,hxe⟩:∃x,a[k]=x:=⟨_,rfl⟩;obtain⟨y,hye⟩:∃y,(b[k]'(by omega))=y:=⟨_,rfl⟩;rw[hxe]at hx hgx;rw[hye]at hy hgy;obtain⟨S,hS⟩:∃S,σ++T=S:=⟨_,rfl⟩;rw[hS];have hxy:x=y↔(x==y)=true:=by simp
  cases h2:(x==y)
  ·refine gq21 (zd hd (zd hgx (zd hgy h2))) ?_;rw[← hS];refine zu hl ?_;refine fin _ (decide_eq_false fun h=>?_);subst h;rw[hx]at hy;rw[hxy.1 (Option.some.inj hy)]at h2;cases h2
  ·refine gq21 (zd hd (zd hgx (zd hgy (zd h2 (wk1 k (by omega)))))) ?_;exact zaK.next hlt ⟨rfl,⟨_,hS.symm⟩,zbq hx hy htk (hxy.2 h2)⟩
 ·have hd:decide ((k:Int)<(a.length:Int))=false:=by simp;omega
  refine zm hd ?_;refine zu hl ?_;exact fin _ (decide_eq_true (zcu hl2 (k:=k) (by omega) htk))
structure zqM (p:zkc):Prop where
 signs:p.signs.length<=1073741824
 batch:zgl p.batch
structure zjR (c:zbj):Prop where
 signs:c.cert.signs.length<=1073741824
 above:c.above.length<=1073741824
 each:∀p∈c.above,zqM p
def zvK (x:zhS):Prop:=zgl x.batch
abbrev entryA (x:zhS):AV:=.agg [.d (.int .i64 x.view),.d (.int .i64 x.seq),.d (.slice (zbz x.batch)),.d (.int .i64 x.key),.d (.int .i64 x.dig)]
theorem zrx {a b:zjx}(ha:a.signs.length<=1073741824)(hK:K (.d (.bool (decide (a=b)))) σ):zP zed [zmk a,zmk b] σ K:=by
 refine zeq zsh fun hl=>?_;have fin:∀z,decide (a=b)=z->K (.d (.bool z)) σ:=fun z h=>h▸hK;clear hK;simp only[zlP,iN,bT,bF,eN];cases h1:(a.seq==b.seq)
 ·refine zm h1 ?_;refine zu hl ?_;exact fin _ (decide_eq_false fun h=>by subst h;simp at h1)
 cases h2:(a.dig==b.dig)
 ·refine zm (zd h1 h2) ?_;refine zu hl ?_;exact fin _ (decide_eq_false fun h=>by subst h;simp at h2)
 refine zm (zd h1 h2) ?_;refine c_eqSign ha ?_;cases h3:decide (a.signs=b.signs)
 ·refine zG ?_;refine zu hl ?_;exact fin _ (decide_eq_false fun h=>by subst h;simp at h3)
 ·refine zG ?_;refine zu hl ?_;exact fin _ (decide_eq_true (by cases a;cases b;simp_all))
theorem c_mSamePrep {a b:zkc}(ha:zqM a)(hb:zqM b)(hK:K (.d (.bool (decide (a=b)))) σ) :
  zP zdR [.agg [.d (.int .i64 a.view),.d (.int .i64 a.seq),.d (.int .i64 a.dig),.d (.int .i64 a.fkey),.d (.int .i64 a.fdig),.d (.slice (zat a.signs)),.d (.slice (zbz a.batch))],.agg [.d (.int .i64 b.view),.d (.int .i64 b.seq),.d (.int .i64 b.dig),.d (.int .i64 b.fkey),.d (.int .i64 b.fdig),.d (.slice (zat b.signs)),.d (.slice (zbz b.batch))]] σ K:=by
 refine zeq zoe fun hl=>?_;have fin:∀z,decide (a=b)=z->K (.d (.bool z)) σ:=fun z h=>h▸hK;clear hK;simp only[zim,iN,bT,bF,eN];cases h1:(a.view==b.view)
 ·refine zm h1 ?_;refine zu hl ?_;exact fin _ (decide_eq_false fun h=>by subst h;simp at h1)
 cases h2:(a.seq==b.seq)
 ·refine zm (zd h1 h2) ?_;refine zu hl ?_;exact fin _ (decide_eq_false fun h=>by subst h;simp at h2)
 cases h3:(a.dig==b.dig)
 ·refine zm (zd h1 (zd h2 h3)) ?_;refine zu hl ?_;exact fin _ (decide_eq_false fun h=>by subst h;simp at h3)
 cases h4:(a.fkey==b.fkey&&a.fdig==b.fdig)
 ·refine zdV (zd h1 (zd h2 (zd h3 h4))) ?_;refine zu hl ?_;exact fin _ (decide_eq_false fun h=>by subst h;simp at h4)
 refine zdV (zd h1 (zd h2 (zd h3 h4))) ?_;refine c_eqSign ha.signs ?_;cases h5:decide (a.signs=b.signs)
 ·refine zG ?_;refine zu hl ?_;exact fin _ (decide_eq_false fun h=>by subst h;simp at h5)
 refine zG ?_;refine zwQ ha.batch hb.batch ?_;cases h6:decide (a.batch=b.batch)
 ·refine zG ?_;refine zu hl ?_;exact fin _ (decide_eq_false fun h=>by subst h;simp at h6)
 ·refine zG ?_;refine zu hl ?_;exact fin _ (decide_eq_true (by cases a;cases b;simp_all))
theorem c_eqPreps {a b:List zkc}(ha1:a.length<=1073741824)(ha2:∀x∈a,zqM x)(hb2:∀x∈b,zqM x)(hK:K (.d (.bool (decide (a=b)))) σ) :
  zP zae [.d (.slice (zfw a)),.d (.slice (zfw b)),.fn (.func zdR) [] []] σ K:=by
 refine acE3 zbU fun hl=>?_;have fin:∀z,decide (a=b)=z->K (.d (.bool z)) σ:=fun z h=>h▸hK;clear hK;simp only[zaL,iN,bT,bF,eN,zl7];cases hl0:((a.length:Int) != (b.length:Int));rotate_left
 ·refine zm hl0 ?_;refine zu hl ?_;refine fin _ (decide_eq_false fun h=>?_);rw[h]at hl0;simp at hl0
 have hl2:a.length=b.length:=by simp at hl0;omega
 refine zm hl0 ?_;refine zn a.length (fun k vs s=>vs=[.d (.int .i64 k)]/\(∃T,s=σ++T)/\a.take k=b.take k) ⟨rfl,⟨[],by simp⟩,by simp⟩ ?_;rintro k vs s hk ⟨rfl,⟨T,rfl⟩,htk⟩;by_cases hlt:k<a.length
 ·have hd:decide ((k:Int)<(a.length:Int))=true:=by simp;omega
  have hx:a[k]? = some a[k]:=by simp[hlt]
  have hy:b[k]? = some (b[k]'(by omega)):=List.getElem?_eq_getElem _;have hgx:=zR (f:=zgb) hx;have hgy:=zR (f:=zgb) hy;have hxs:=ha2 _ (List.getElem_mem hlt);have hys:=hb2 _ (List.getElem_mem (show k<b.length by omega));obtain⟨x,hxe⟩:∃x,a[k]=x:=⟨_,rfl⟩;obtain⟨y,hye⟩:∃y,(b[k]'(by omega))=y:=⟨_,rfl⟩;rw[hxe]at hx hgx hxs;rw[hye]at hy hgy hys;obtain⟨S,hS⟩:∃S,σ++T=S:=⟨_,rfl⟩;rw[hS];refine zdV (zd hd (zd hgx hgy)) ?_;refine c_mSamePrep (a:=x) (b:=y) hxs hys ?_;cases he:decide (x=y)
  ·refine zm hd ?_;rw[← hS,List.append_assoc];refine zu hl ?_;refine fin _ (decide_eq_false fun h=>?_);subst h;rw[hx]at hy;have:=Option.some.inj hy;simp[this]at he
  ·refine zm (wk1 k (by omega)) ?_;exact zaK.next hlt ⟨rfl,⟨_,by rw[← hS,List.append_assoc]⟩,zbq hx hy htk (by simpa using he)⟩
 ·have hd:decide ((k:Int)<(a.length:Int))=false:=by simp;omega
  refine zm hd ?_;refine zu hl ?_;exact fin _ (decide_eq_true (zcu hl2 (k:=k) (by omega) htk))
theorem zAy {a b:zbj}(ha:zjR a)(hb:zjR b)(hK:K (.d (.bool (decide (a=b)))) σ) :
  zP zeF [.agg [.d (.int .i64 a.view),.d (.int .i64 a.src),.d (.int .i64 a.cert.seq),.d (.int .i64 a.cert.dig),.d (.slice (zat a.cert.signs)),.d (.slice (zfw a.above)),.d (.int .i64 a.key),.d (.int .i64 a.dig)],.agg [.d (.int .i64 b.view),.d (.int .i64 b.src),.d (.int .i64 b.cert.seq),.d (.int .i64 b.cert.dig),.d (.slice (zat b.cert.signs)),.d (.slice (zfw b.above)),.d (.int .i64 b.key),.d (.int .i64 b.dig)]] σ K:=by
 refine zeq zpW fun hl=>?_;have fin:∀z,decide (a=b)=z->K (.d (.bool z)) σ:=fun z h=>h▸hK;clear hK;simp only[zjJ,iN,bT,bF,eN];cases h1:(a.view==b.view)
 ·refine zm h1 ?_;refine zu hl ?_;exact fin _ (decide_eq_false fun h=>by subst h;simp at h1)
 cases h2:(a.src==b.src)
 ·refine zm (zd h1 h2) ?_;refine zu hl ?_;exact fin _ (decide_eq_false fun h=>by subst h;simp at h2)
 refine zm (zd h1 h2) ?_;refine zrx (a:=a.cert) (b:=b.cert) ha.signs ?_;cases h3:decide (a.cert=b.cert)
 ·refine zG ?_;refine zu hl ?_;exact fin _ (decide_eq_false fun h=>by subst h;simp at h3)
 refine zG ?_;refine c_eqPreps ha.above ha.each hb.each ?_;cases h4:decide (a.above=b.above)
 ·refine zG ?_;refine zu hl ?_;exact fin _ (decide_eq_false fun h=>by subst h;simp at h4)
 cases h5:(a.key==b.key&&a.dig==b.dig)
 ·refine zdV h5 ?_;refine zu hl ?_;exact fin _ (decide_eq_false fun h=>by subst h;simp at h5)
 ·refine zdV h5 ?_;refine zu hl ?_;exact fin _ (decide_eq_true (by cases a;cases b;simp_all))
theorem c_eqChanges {a b:List zbj}(ha1:a.length<=1073741824)(ha2:∀x∈a,zjR x)(hb2:∀x∈b,zjR x)(hK:K (.d (.bool (decide (a=b)))) σ) :
  zP zao [.d (.slice (zap a)),.d (.slice (zap b)),.fn (.func zeF) [] []] σ K:=by
 refine acE3 zcC fun hl=>?_;have fin:∀z,decide (a=b)=z->K (.d (.bool z)) σ:=fun z h=>h▸hK;clear hK;simp only[zbe,iN,bT,bF,eN,zl6];cases hl0:((a.length:Int) != (b.length:Int));rotate_left
 ·refine zm hl0 ?_;refine zu hl ?_;refine fin _ (decide_eq_false fun h=>?_);rw[h]at hl0;simp at hl0
 have hl2:a.length=b.length:=by simp at hl0;omega
 refine zm hl0 ?_;refine zn a.length (fun k vs s=>vs=[.d (.int .i64 k)]/\(∃T,s=σ++T)/\a.take k=b.take k) ⟨rfl,⟨[],by simp⟩,by simp⟩ ?_;rintro k vs s hk ⟨rfl,⟨T,rfl⟩,htk⟩;by_cases hlt:k<a.length
 ·have hd:decide ((k:Int)<(a.length:Int))=true:=by simp;omega
  have hx:a[k]? = some a[k]:=by simp[hlt]
  have hy:b[k]? = some (b[k]'(by omega)):=List.getElem?_eq_getElem _;have hgx:=zR (f:=zaj) hx;have hgy:=zR (f:=zaj) hy;have hxs:=ha2 _ (List.getElem_mem hlt);have hys:=hb2 _ (List.getElem_mem (show k<b.length by omega));obtain⟨x,hxe⟩:∃x,a[k]=x:=⟨_,rfl⟩;obtain⟨y,hye⟩:∃y,(b[k]'(by omega))=y:=⟨_,rfl⟩;rw[hxe]at hx hgx hxs;rw[hye]at hy hgy hys;obtain⟨S,hS⟩:∃S,σ++T=S:=⟨_,rfl⟩;rw[hS];refine zdV (zd hd (zd hgx hgy)) ?_;refine zAy (a:=x) (b:=y) hxs hys ?_;cases he:decide (x=y)
  ·refine zm hd ?_;rw[← hS,List.append_assoc];refine zu hl ?_;refine fin _ (decide_eq_false fun h=>?_);subst h;rw[hx]at hy;have:=Option.some.inj hy;simp[this]at he
  ·refine zm (wk1 k (by omega)) ?_;exact zaK.next hlt ⟨rfl,⟨_,by rw[← hS,List.append_assoc]⟩,zbq hx hy htk (by simpa using he)⟩
 ·have hd:decide ((k:Int)<(a.length:Int))=false:=by simp;omega
  refine zm hd ?_;refine zu hl ?_;exact fin _ (decide_eq_true (zcu hl2 (k:=k) (by omega) htk))
theorem c_mSameEntry {a b:zhS}(ha:zvK a)(hb:zvK b)(hK:K (.d (.bool (decide (a=b)))) σ) :
  zP zeZ [entryA a,entryA b] σ K:=by
 refine zeq zrk fun hl=>?_;have fin:∀z,decide (a=b)=z->K (.d (.bool z)) σ:=fun z h=>h▸hK;clear hK;simp only[zkW,iN,bT,bF,eN];cases h1:(a.view==b.view)
 ·refine zm h1 ?_;refine zu hl ?_;exact fin _ (decide_eq_false fun h=>by subst h;simp at h1)
 cases h2:(a.seq==b.seq)
 ·refine zm (zd h1 h2) ?_;refine zu hl ?_;exact fin _ (decide_eq_false fun h=>by subst h;simp at h2)
 refine zm (zd h1 h2) ?_;refine zwQ ha hb ?_;cases h3:decide (a.batch=b.batch)
 ·refine zG ?_;refine zu hl ?_;exact fin _ (decide_eq_false fun h=>by subst h;simp at h3)
 cases h5:(a.key==b.key&&a.dig==b.dig)
 ·refine zdV h5 ?_;refine zu hl ?_;exact fin _ (decide_eq_false fun h=>by subst h;simp at h5)
 ·refine zdV h5 ?_;refine zu hl ?_;exact fin _ (decide_eq_true (by cases a;cases b;simp_all))
theorem c_eqEntries {a b:List zhS}(ha1:a.length<=1073741824)(ha2:∀x∈a,zvK x)(hb2:∀x∈b,zvK x)(hK:K (.d (.bool (decide (a=b)))) σ) :
  zP zay [.d (.slice (zbo a)),.d (.slice (zbo b)),.fn (.func zeZ) [] []] σ K:=by
 refine acE3 zcW fun hl=>?_;have fin:∀z,decide (a=b)=z->K (.d (.bool z)) σ:=fun z h=>h▸hK;clear hK;simp only[zbi,iN,bT,bF,eN];cases hl0:((a.length:Int) != (b.length:Int));rotate_left
 ·refine zm hl0 ?_;refine zu hl ?_;refine fin _ (decide_eq_false fun h=>?_);rw[h]at hl0;simp at hl0
 have hl2:a.length=b.length:=by simp at hl0;omega
 refine zm hl0 ?_;refine zn a.length (fun k vs s=>vs=[.d (.int .i64 k)]/\(∃T,s=σ++T)/\a.take k=b.take k) ⟨rfl,⟨[],by simp⟩,by simp⟩ ?_;rintro k vs s hk ⟨rfl,⟨T,rfl⟩,htk⟩;by_cases hlt:k<a.length
 ·have hd:decide ((k:Int)<(a.length:Int))=true:=by simp;omega
  have hx:a[k]? = some a[k]:=by simp[hlt]
  have hy:b[k]? = some (b[k]'(by omega)):=List.getElem?_eq_getElem _;have hgx:=zR (f:=zdI) hx;have hgy:=zR (f:=zdI) hy;have hxs:=ha2 _ (List.getElem_mem hlt);have hys:=hb2 _ (List.getElem_mem (show k<b.length by omega));obtain⟨x,hxe⟩:∃x,a[k]=x:=⟨_,rfl⟩;obtain⟨y,hye⟩:∃y,(b[k]'(by omega))=y:=⟨_,rfl⟩;rw[hxe]at hx hgx hxs;rw[hye]at hy hgy hys;obtain⟨S,hS⟩:∃S,σ++T=S:=⟨_,rfl⟩;rw[hS];refine zdV (zd hd (zd hgx hgy)) ?_;refine c_mSameEntry (a:=x) (b:=y) hxs hys ?_;cases he:decide (x=y)
  ·refine zm hd ?_;rw[← hS,List.append_assoc];refine zu hl ?_;refine fin _ (decide_eq_false fun h=>?_);subst h;rw[hx]at hy;have:=Option.some.inj hy;simp[this]at he
  ·refine zm (wk1 k (by omega)) ?_;exact zaK.next hlt ⟨rfl,⟨_,by rw[← hS,List.append_assoc]⟩,zbq hx hy htk (by simpa using he)⟩
 ·have hd:decide ((k:Int)<(a.length:Int))=false:=by simp;omega
  refine zm hd ?_;refine zu hl ?_;exact fin _ (decide_eq_true (zcu hl2 (k:=k) (by omega) htk))
theorem thn_apps (P l:List Int):znX (zax P) (zax l)=zax (P++l):=by rw[← thnE_z (zax P),thnE_app,thnE_z]
section
variable {σ:List AObj} {id:Nat} {P:List Int} {K:KT}
theorem c_aSays {x:Int}(hσ:σ[id]? = some (zfu (zax P)))(hK:K (.tup []) (σ.set id (zfu (zax (P++[x]))))):zP zE [.box id 0,.d (.int .i64 x)] σ K:=c_says hσ (by rw[zpo];exact hK)
theorem c_aIn {n lo hi:Int}(hσ:σ[id]? = some (zfu (zax P)))(hK:K (.tup []) (σ.set id (zfu (zax (P++[inE n lo hi]))))):zP zau [.box id 0,.d (.int .i64 n),.d (.int .i64 lo),.d (.int .i64 hi)] σ K:=zAE hσ (by rw[zpo];exact hK)
theorem c_aNum {n:Int}(hσ:σ[id]? = some (zfu (zax P)))(hK:K (.tup []) (σ.set id (zfu (zax (P++[zeU n]))))):zP zQ [.box id 0,.d (.int .i64 n)] σ K:=zAD hσ (by rw[zpo];exact hK)
theorem c_aPos {n:Int}(hσ:σ[id]? = some (zfu (zax P)))(hK:K (.tup []) (σ.set id (zfu (zax (P++[zkr n]))))):zP zaf [.box id 0,.d (.int .i64 n)] σ K:=c_askPos hσ (by rw[zpo];exact hK)
theorem c_aMany {n hi:Int}(hσ:σ[id]? = some (zfu (zax P)))(hK:K (.tup []) (σ.set id (zfu (zax (P++[inE n 0 hi]))))):zP zal [.box id 0,.d (.int .i64 n),.d (.int .i64 hi)] σ K:=c_askMany hσ (by rw[zpo];exact hK)
theorem c_aName {x:List UInt8}(hσ:σ[id]? = some (zfu (zax P)))(hx:x.length<=1073741824)(hK:K (.tup []) (σ.set id (zfu (zax (P++[zlf x]))))):zP zcw [.box id 0,.d (.str x)] σ K:=c_askName hσ hx (by rw[zpo];exact hK)
theorem c_aSigns {l:List zI}(hσ:σ[id]? = some (zfu (zax P)))(hl0:l.length<=1073741824)(hK:K (.tup []) (σ.set id (zfu (zax (P++zco l))))):zP zaZ [.box id 0,.d (.slice (zat l))] σ K:=zyW hσ hl0 (by rw[thn_apps];exact hK)
theorem c_aCert {c:zjx}(hσ:σ[id]? = some (zfu (zax P)))(hl0:c.signs.length<=1073741824)(hK:K (.tup []) (σ.set id (zfu (zax (P++zbx c))))):zP zbQ [.box id 0,zmk c] σ K:=c_askCert hσ hl0 (by rw[thn_apps];exact hK)
end
variable {σ:List AObj} {K:KT}
structure zjP (σ:List AObj) (id:Nat) (B:AObj) (P:List Int) (S:List AObj):Prop where
 a:S[id]? = some (zfu (zax P))
 b:S[σ.length]? = some B
 pre:∃τ,S=σ.set id (zfu (zax P))++τ
section
variable {σ S:List AObj} {id:Nat} {B:AObj} {P P':List Int}
theorem zjP.first (hσ:σ[id]? = some (zfu (zax P)))(B:AObj):zjP σ id B P (σ++[B]):=⟨zi hσ,by rw[zB];rfl,[B],by rw[zbR hσ]⟩
theorem zjP.set (h:zjP σ id B P S)(hid:id<σ.length)(P':List Int):zjP σ id B P' (S.set id (zfu (zax P'))):=by
 obtain⟨h1,h2,τ,h3⟩:=h;refine⟨List.getElem?_set_self (zaa h1),(List.getElem?_set_ne (by omega)).trans h2,τ,?_⟩;rw[h3,List.set_append_left _ _ (by simpa using hid),List.set_set]
theorem zjP.app (h:zjP σ id B P S)(τ:List AObj):zjP σ id B P (S++τ):=by
 obtain⟨h1,h2,τ',h3⟩:=h;exact⟨zi h1,zi h2,τ'++τ,by rw[h3,List.append_assoc]⟩
theorem zjP.done (h:zjP σ id B P S)(hl:zhp σ.length σ)(hK:K (.tup []) (σ.set id (zfu (zax P)))):AW.Ends σ.length K (some []) S:=by
 obtain⟨_,_,τ,rfl⟩:=h;exact zeP (by simp[zcm,dmT,zbu]) hl (ziO _ _) hK
theorem zjP.as (h:zjP σ id B P S)(e:P=P'):zjP σ id B P' S:=e▸h
end
section
variable {σ:List AObj} {id:Nat} {P:List Int} {K:KT}
theorem c_aBroker {n:Int}(hσ:σ[id]? = some (zfu (zax P)))(hK:K (.tup []) (σ.set id (zfu (zax (P++[zjE n]))))):zP zas [.box id 0,.d (.int .i64 n)] σ K:=by
 refine zeq zog fun hl=>?_;simp only[zio,iN,bT,bF,eN];refine zG ?_;refine c_aIn hσ ?_;exact zfb (by simp[zcm,dmT,zbu]) hl (ziO _ _) hK
end
section
variable {σ S:List AObj} {id:Nat} {B:AObj} {P:List Int} {K:KT} (j:zjP σ id B P S) (hid:id<σ.length)
include j hid
theorem zkE {x:Int}(hK:∀S,zjP σ id B (P++[x]) S->K (.tup []) S):zP zE [.box id 0,.d (.int .i64 x)] S K:=c_aSays j.a (hK _ (j.set hid _))
theorem j_in {n lo hi:Int}(hK:∀S,zjP σ id B (P++[inE n lo hi]) S->K (.tup []) S):zP zau [.box id 0,.d (.int .i64 n),.d (.int .i64 lo),.d (.int .i64 hi)] S K:=c_aIn j.a (hK _ (j.set hid _))
theorem zwi {n:Int}(hK:∀S,zjP σ id B (P++[zeU n]) S->K (.tup []) S):zP zQ [.box id 0,.d (.int .i64 n)] S K:=c_aNum j.a (hK _ (j.set hid _))
theorem j_pos {n:Int}(hK:∀S,zjP σ id B (P++[zkr n]) S->K (.tup []) S):zP zaf [.box id 0,.d (.int .i64 n)] S K:=c_aPos j.a (hK _ (j.set hid _))
theorem ztY {n hi:Int}(hK:∀S,zjP σ id B (P++[inE n 0 hi]) S->K (.tup []) S):zP zal [.box id 0,.d (.int .i64 n),.d (.int .i64 hi)] S K:=c_aMany j.a (hK _ (j.set hid _))
theorem zlu {n:Int}(hK:∀S,zjP σ id B (P++[zjE n]) S->K (.tup []) S):zP zas [.box id 0,.d (.int .i64 n)] S K:=c_aBroker j.a (hK _ (j.set hid _))
theorem j_name {x:List UInt8}(hx:x.length<=1073741824)(hK:∀S,zjP σ id B (P++[zlf x]) S->K (.tup []) S):zP zcw [.box id 0,.d (.str x)] S K:=c_aName j.a hx (hK _ (j.set hid _))
theorem j_signs {l:List zI}(hl0:l.length<=1073741824)(hK:∀S,zjP σ id B (P++zco l) S->K (.tup []) S):zP zaZ [.box id 0,.d (.slice (zat l))] S K:=c_aSigns j.a hl0 (hK _ (j.set hid _))
theorem j_cert {c:zjx}(hl0:c.signs.length<=1073741824)(hK:∀S,zjP σ id B (P++zbx c) S->K (.tup []) S):zP zbQ [.box id 0,zmk c] S K:=c_aCert j.a hl0 (hK _ (j.set hid _))
end
abbrev prepL (p:zkc):List AV:=[.d (.int .i64 p.view),.d (.int .i64 p.seq),.d (.int .i64 p.dig),.d (.int .i64 p.fkey),.d (.int .i64 p.fdig),.d (.slice (zat p.signs)),.d (.slice (zbz p.batch))]
abbrev zbL (c:zbj):List AV:=[.d (.int .i64 c.view),.d (.int .i64 c.src),.d (.int .i64 c.cert.seq),.d (.int .i64 c.cert.dig),.d (.slice (zat c.cert.signs)),.d (.slice (zfw c.above)),.d (.int .i64 c.key),.d (.int .i64 c.dig)]
theorem c_aPrep {id:Nat}{P:List Int}{p:zkc}(hσ:σ[id]? = some (zfu (zax P)))(hs:p.signs.length<=1073741824)(hb:okB p.batch)(hK:K (.tup []) (σ.set id (zfu (zax (P++zdX p))))) :
  zP zeM [.box id 0,.agg (prepL p)] σ K:=by
 refine zeq zmD fun hl=>?_;have hid:=zaa hσ;simp only[zhm,iN,bT,bF,eN];have j:=zjP.first hσ (.box (prepL p));refine zG ?_;refine zwi j hid fun S j=>?_;have b:=j.b;refine zm b ?_;refine j_pos j hid fun S j=>?_;have b:=j.b;refine zm b ?_;refine j_pos j hid fun S j=>?_;have b:=j.b;refine zm b ?_;refine zbM ?_;refine zm b ?_;refine zkE j hid fun S j=>?_;have b:=j.b;refine zm b ?_;refine j_signs j hid hs fun S j=>?_;have b:=j.b;refine zm b ?_;refine zjb hb ?_;refine zG ?_;refine zkE j hid fun S j=>?_;refine zG ?_;exact(j.as (by simp[zdX])).done hl hK
structure okCh (c:zbj):Prop where
 signs:c.cert.signs.length<=1073741824
 above:c.above.length<=1073741824
 each:∀p∈c.above,p.signs.length<=1073741824/\okB p.batch
theorem zda {α β:Type}{f:α->List β}{l:List α}{k:Nat}{x:α}(h:l[k]? = some x):((l.take (k+1)).map f).flatten=((l.take k).map f).flatten++f x:=by
 rw[zjX h];simp
theorem c_aChange {id:Nat}{P:List Int}{c:zbj}(hσ:σ[id]? = some (zfu (zax P)))(hc:okCh c)(hK:K (.tup []) (σ.set id (zfu (zax (P++zaT c))))) :
  zP zdS [.box id 0,.agg (zbL c)] σ K:=by
 refine zeq zof fun hl=>?_;have hid:=zaa hσ;have hpl:(zfw c.above).length=c.above.length:=List.length_map ..;have hal:=hc.above;simp only[zin,iN,bT,bF,eN,zl7];have j:=zjP.first hσ (.box (zbL c));refine zG ?_;refine j_pos j hid fun S j=>?_;have b:=j.b;refine zm b ?_;refine zlu j hid fun S j=>?_;have b:=j.b;refine zm b ?_;refine j_cert (c:=c.cert) j hid hc.signs fun S j=>?_;have b:=j.b;refine zm (zd b hpl) ?_;refine ztY j hid fun S j=>?_;have b:=j.b;obtain⟨Q,hQ⟩:∃Q,P++[zkr c.view]++[zjE c.src]++zbx c.cert++[inE c.above.length 0 8]=Q:=⟨_,rfl⟩;rw[hQ]at j;refine zm (zd b hpl) ?_;refine zn c.above.length (fun k vs S=>vs=[.d (.int .i64 k)]/\zjP σ id (.box (zbL c)) (Q++((c.above.take k).map zdX).flatten) S) ⟨rfl,by simpa using j⟩ ?_;rintro k vs S hk ⟨rfl,j⟩;by_cases hlt:k<c.above.length
 ·have hd:decide ((k:Int)<(c.above.length:Int))=true:=by simp;omega
  have hx:c.above[k]? = some c.above[k]:=by simp[hlt]
  have hpx:=hc.each _ (List.getElem_mem hlt);have hgx:=zR (f:=zgb) hx;obtain⟨p,hp⟩:∃p,c.above[k]=p:=⟨_,rfl⟩;rw[hp]at hx hgx hpx;refine zdV (zd hd (zd hgx hpl)) ?_;refine c_aPrep (p:=p) (zi j.a) hpx.1 hpx.2 ?_;have j2:=(j.app [.box (prepL p)]).set hid (Q++((c.above.take k).map zdX).flatten++zdX p);refine zm (wkc k (by omega)) ?_;refine zaK.next hlt ⟨rfl,?_⟩;rw[zda hx,← List.append_assoc];exact j2
 ·have hd:decide ((k:Int)<(c.above.length:Int))=false:=by simp;omega
  rw[show c.above.take k=c.above from List.take_of_length_le (by omega)]at j;have b:=j.b;refine zm (zd hd (zd hpl b)) ?_;refine zbM ?_;refine zG ?_;refine zkE j hid fun S j=>?_;refine zG ?_;exact(j.as (by rw[← hQ];simp[zaT,zez])).done hl hK
end Go.Proofs.YtdgcepphjnoalaaGreat
