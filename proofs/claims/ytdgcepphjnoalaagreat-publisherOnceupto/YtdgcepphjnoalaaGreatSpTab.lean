/- Byte strings and their numbers; what was signed. No program in sight. -/
import Derived.Test.YtdgcepphjnoalaaGreatSpNum
import Derived.Test.YtdgcepphjnoalaaGreatAwLoop
set_option linter.all false
namespace Go.AW
def zjv:List (List UInt8)->List UInt8->Nat->Option Nat
 | [],_,_=>none
 | x::r,b,i=>if b=x then some i else zjv r b (i+1)
def zhE (l:List (List UInt8)) (b:List UInt8):Option Nat:=zjv l b 0
def zor:Option Nat->Int
 | some i=>((i+1:Nat):Int)
 | none=>0
def zhT (l:List (List UInt8)) (b:List UInt8):Int:=match zhE l b with
 | some i=>((i+1:Nat):Int)
 | none=>if l.length≥1048576 then 0 else((l.length+1:Nat):Int)
def zfX (l:List (List UInt8)) (b:List UInt8):List (List UInt8):=match zhE l b with
 | some _=>l
 | none=>if l.length≥1048576 then l else l++[b]
abbrev zvp (l:List (List UInt8)):List (List D):=l.map fun b=>[D.slice (bcs b)]
def zxD:List (List UInt8)->Nat->List (AV × AV)
 | [],_=>[]
 | x::r,i=>(.d (.str x),.d (.int .i64 ((i+1:Nat):Int)))::zxD r (i+1)
def tabM (l:List (List UInt8)):List (AV × AV):=zxD l 0
theorem zyt (b:List UInt8):∀(l:List (List UInt8)) (i:Nat),zoy .str (.d (.str b)) (zxD l i) i=some ((zjv l b i).map fun k=>(k,.d (.int .i64 ((k+1:Nat):Int))))
 | [],_=>rfl
 | x::r,i=>by
  simp only[zxD,zoy,ziw,zjv];by_cases h:b=x
  ·simp[h]
  ·have:(b==x)=false:=by simpa using h
   simp only[this,if_neg h];exact zyt b r (i+1)
theorem mfind_tab (l:List (List UInt8))(b:List UInt8):zoy .str (.d (.str b)) (tabM l) 0=some ((zhE l b).map fun k=>(k,.d (.int .i64 ((k+1:Nat):Int)))):=zyt b l 0
theorem tabMA_add (x:List UInt8):∀(l:List (List UInt8)) (i:Nat),zxD (l++[x]) i=zxD l i++[(.d (.str x),.d (.int .i64 ((i+l.length+1:Nat):Int)))]
 | [],i=>by simp[zxD]
 | y::r,i=>by
  simp only[List.cons_append,zxD,tabMA_add x r (i+1),List.length_cons];rw[show i+1+r.length+1=i+(r.length+1)+1 by omega]
theorem tabM_add (l:List (List UInt8))(x:List UInt8):tabM l++[(.d (.str x),.d (.int .i64 ((l.length+1:Nat):Int)))]=tabM (l++[x]):=by
 unfold tabM;rw[tabMA_add];simp
theorem lookAt_lt {b:List UInt8}:∀ {l:List (List UInt8)} {i k:Nat},zjv l b i=some k->i<=k/\k<i+l.length/\l[k-i]? = some b
 | [],_,_,h=>by simp[zjv]at h
 | x::r,i,k,h=>by
  simp only[zjv]at h;split at h
  ·rename_i e;cases h;subst e;simp
  ·obtain⟨h1,h2,h3⟩:=lookAt_lt h;refine⟨by omega,by simp;omega,?_⟩;obtain⟨m,hm⟩:∃m,k-i=m+1:=⟨k-i-1,by omega⟩;rw[hm,List.getElem?_cons_succ];rw[show k-(i+1)=m by omega]at h3;exact h3
theorem zuU {l:List (List UInt8)}{b:List UInt8}{k:Nat}(h:zhE l b=some k):k<l.length/\l[k]? = some b:=by
 have:=lookAt_lt h;simpa using this.2
theorem zpD {b:List UInt8}{m:List (List UInt8)}:∀ {l:List (List UInt8)} {i:Nat},zjv (l++m) b i=match zjv l b i with|some k=>some k|none=>zjv m b (i+l.length)
 | [],i=>by simp[zjv]
 | x::r,i=>by
  simp only[List.cons_append,zjv,List.length_cons];split
  ·rfl
  ·rw[zpD,show i+1+r.length=i+(r.length+1) by omega]
theorem look_next {l:List (List UInt8)}{b x:List UInt8}{k:Nat}(h:l[k]? = some x)(h0:zhE (l.take k) b=none)(hx:(x==b)=false):zhE (l.take (k+1)) b=none:=by
 have e:¬b=x:=fun e=>by subst e;simp at hx
 rw[List.take_add_one,h];unfold zhE at h0 ⊢;rw[zpD,h0];simp[zjv,e]
theorem look_hit {l:List (List UInt8)}{b x:List UInt8}{k:Nat}(h:l[k]? = some x)(h0:zhE (l.take k) b=none)(hx:(x==b)=true):zhE l b=some k:=by
 have e:x=b:=by simpa using hx
 subst e;obtain⟨hk,hh⟩:=List.getElem?_eq_some_iff.1 h;have e2:l=l.take k++(x::l.drop (k+1)):=by rw[← hh,List.getElem_cons_drop,List.take_append_drop]
 rw[e2];unfold zhE at h0 ⊢;rw[zpD,h0];simp[zjv];omega
theorem zyx {l:List (List UInt8)}{b:List UInt8}(h:b∉l):zhE l b=none:=by
 cases e:zhE l b with
 | none=>rfl
 | some k=>exact absurd (List.mem_of_getElem? (zuU e).2) h
theorem zzV {l:List (List UInt8)}{b:List UInt8}(h:zhE l b=none):b∉l:=by
 have key:∀(l:List (List UInt8)) (i:Nat),zjv l b i=none->b∉l:=by
  intro l;induction l with
  | nil=>intro i _;simp
  | cons x r ih=>
   intro i h
   simp only[zjv]at h
   split at h
   ·cases h
   ·rename_i hne
    simp only[List.mem_cons,not_or]
    exact⟨hne,ih _ h⟩
 exact key l 0 h
theorem look_more {l m:List (List UInt8)}{b:List UInt8}{k:Nat}(h:zhE l b=some k):zhE (l++m) b=some k:=by
 unfold zhE at h ⊢;rw[zpD,h]
abbrev ztW (l:List zI):List (List D):=zat l
def zxB (l:List zI):List (AV × AV):=l.map fun s=>(.agg [.d (.int .i64 s.key),.d (.int .i64 s.dig)],.d (.bool true))
def ledAt:List zI->zI->Nat->Option Nat
 | [],_,_=>none
 | x::r,s,i=>if s=x then some i else ledAt r s (i+1)
theorem sign_keyEq (s x:zI):ziw (.ints 2) (.agg [.d (.int .i64 s.key),.d (.int .i64 s.dig)]) (.agg [.d (.int .i64 x.key),.d (.int .i64 x.dig)])=some (decide (s=x)):=by
 have e:s=x↔s.key=x.key/\s.dig=x.dig:=by cases s;cases x;simp
 by_cases h1:s.key=x.key
 ·by_cases h2:s.dig=x.dig
  ·rw[decide_eq_true (e.2 ⟨h1,h2⟩)];simp[ziw,zcl,h1,h2]
  ·rw[decide_eq_false (fun h=>h2 (e.1 h).2)];have h2':(s.dig==x.dig)=false:=by simpa using h2
   simp[ziw,zcl,h1,h2']
 ·rw[decide_eq_false (fun h=>h1 (e.1 h).1)];have h1':(s.key==x.key)=false:=by simpa using h1
  simp[ziw,zcl,h1'];try exact fun h=>absurd h h1
theorem zte (s:zI):∀(l:List zI) (i:Nat),zoy (.ints 2) (.agg [.d (.int .i64 s.key),.d (.int .i64 s.dig)]) (zxB l) i=some ((ledAt l s i).map fun k=>(k,.d (.bool true)))
 | [],_=>rfl
 | x::r,i=>by
  have ih:=zte s r (i+1);simp only[zxB]at ih;simp only[zxB,List.map_cons,zoy,sign_keyEq,ledAt];by_cases h:s=x
  ·simp[h]
  ·rw[decide_eq_false h,if_neg h];exact ih
theorem ztg {s:zI}:∀ {l:List zI} {i:Nat},ledAt l s i=none↔s∉l
 | [],i=>by simp[ledAt]
 | x::r,i=>by
  simp only[ledAt,List.mem_cons,not_or];by_cases h:s=x
  ·simp[h]
  ·rw[if_neg h,ztg];simp[h]
theorem zrV {l:List zI}{s:zI}(h:s∈l):∃k,zoy (.ints 2) (.agg [.d (.int .i64 s.key),.d (.int .i64 s.dig)]) (zxB l) 0=some (some (k,.d (.bool true))):=by
 rw[zte];cases e:ledAt l s 0 with
 | none=>exact absurd h (ztg.1 e)
 | some k=>exact⟨k,rfl⟩
theorem ztV {l:List zI}{s:zI}(h:s∉l):zoy (.ints 2) (.agg [.d (.int .i64 s.key),.d (.int .i64 s.dig)]) (zxB l) 0=some none:=by
 rw[zte,ztg.2 h];rfl
theorem ledM_add (l:List zI)(s:zI):zxB l++[(.agg [.d (.int .i64 s.key),.d (.int .i64 s.dig)],.d (.bool true))]=zxB (l++[s]):=by simp[zxB]
def zzE (l:List zI) (s:zI):List zI:=if s∈l then l else l++[s]
def zgS (k d:Int):Int:=if k<0∨k≥21 then 20 else if d<1 then 1 else 0
theorem zfa {n:Nat}{σ' τ:List AObj}{K:KT}{l:List AV}(hn:σ'.length=n)(h1:Low n (dmT (zcm l)))(hl:zhl n σ')(h:K (dmT (zcm l)) σ'):Ends n K (some l) (σ'++τ):=by
 subst hn;unfold Ends;rw[zmV];exact⟨h1,hl,h⟩
theorem zkb {σ τ:List AObj}{id t:Nat}{es:List (List D)}{X:AObj}{K:KT}{l:List AV}(hT:σ[id]? = some X)(h1:Low σ.length (dmT (zcm l)))(hl:zhl σ.length σ)
  (h:K (dmT (zcm l)) (σ.set id (.box [.d (.slice es)]))):EndsW σ.length K (some l) (σ.set id (.box [.own t es])++τ):=by
 refine⟨_,.dataB id 0 [.own t es] (.own t es) es (zi (zdr hT)) rfl rfl (.refl _ _),?_⟩;rw[zdk (zdr hT),List.set_set];refine zeL h1 hl ?_ h;intro c hc;simp only[List.set_cons_zero,List.mem_cons,List.not_mem_nil,or_false]at hc;subst hc;exact .d _
def numR (most:Nat):Nat->Nat->List UInt8->Except Int (Nat × List UInt8)
 | _,_,[]=>.error 10
 | i,acc,c::r=>
  if i=9/\c.toNat>1 then .error 11
  else if c.toNat<128 then(if (i>0/\c.toNat=0)∨acc+c.toNat*128 ^ i>most then .error 11 else .ok (acc+c.toNat*128 ^ i,r))
  else numR most (i+1) (acc+c.toNat % 128*128 ^ i) r
def znz (x:zp):List UInt8:=zbx x.client.toNat++(zbx x.time.toNat++opB x.op)
def zbU (x:zp):List UInt8:=if zT x=0 then znz x else []
def zgp (k d:Int):List UInt8:=zbx k.toNat++zbx d.toNat
def zcw (k d:Int):List UInt8:=if zx k d=0 then zgp k d else []
def oneB (x:zp):List UInt8:=zkf (znz x)++zgp x.key x.dig
def zdK (l:List zp):List UInt8:=(l.map oneB).flatten
def zhi (l:List zp):List UInt8:=zbx l.length++zdK l
def zdJ (l:List zp):List UInt8:=if zD l=0 then zhi l else []
theorem req_ok {x:zp}(h:zT x=0):0<=x.client/\x.client<8/\1<=x.time/\x.time<=9007199254740992/\zaN zef x.op=0:=by
 unfold zT at h;split at h
 ·cases h
 ·refine⟨by omega,by omega,by omega,by omega,h⟩
theorem sign_ok {k d:Int}(h:zx k d=0):0<=k/\k<21/\1<=d/\d<=9007199254740992:=by
 unfold zx at h;split at h
 ·cases h
 ·omega
theorem errs_mem {l:List zp}(h:znW l=0):∀x∈l,zyI x=0:=by
 induction l with
 | nil=>simp
 | cons s r ih=>
  simp only[znW]at h
  split at h
  ·rename_i hs;exact absurd h hs
  ·rename_i hs
   intro x hx
   rcases List.mem_cons.1 hx with rfl|hx
   ·simpa using hs
   ·exact ih h x hx
theorem zjT {l:List zp}(h:zD l=0):l.length<=4/\(∀x∈l,zT x=0/\zx x.key x.dig=0)/\l.Pairwise ndup:=by
 unfold zD at h;split at h
 ·cases h
 ·split at h
  ·rename_i h1;exact absurd h h1
  ·split at h
   ·rename_i h0 h1 h2;refine⟨by omega,fun x hx=>?_,h2⟩;have:=errs_mem (by simpa using h1) x hx;unfold zyI at this;split at this
    ·rename_i h3;exact absurd this h3
    ·rename_i h3;exact⟨by simpa using h3,this⟩
   ·cases h
theorem opB_len {o:TOp}(h:zmT o<=268435456)(hc:zaN zef o=0):(opB o).length<=zmT o+60:=by
 obtain⟨k0,k4,o0,o1,_⟩:=zva hc;have hr:=zmW o.recs;have hrb:=zlH o.recs (by unfold zmT at h;omega) o.recs.length;rw[List.take_length]at hrb;unfold zmT at h ⊢;have n1:=zj (n:=o.kind.toNat) (by omega);have n2:=zj (n:=o.topic.length) (by omega);have n3:=zj (n:=o.group.length) (by omega);have n4:=zj (n:=o.offset.toNat) (by omega);have n5:=zj (n:=o.recs.length) (by omega);have hk:o.kind=0∨o.kind=1∨o.kind=2∨o.kind=3∨o.kind=4:=by omega
 rcases hk with hk|hk|hk|hk|hk
 ·rw[opB_0 hk];omega
 ·rw[opB_1 hk];simp only[List.length_append];omega
 ·rw[opB_2 hk];simp only[List.length_append];omega
 ·rw[opB_3 hk];simp only[List.length_append];omega
 ·rw[opB_4 hk];simp only[List.length_append];omega
theorem zps {x:zp}(h:zmT x.op<=268435456)(hc:zT x=0):(znz x).length<=zmT x.op+80:=by
 obtain⟨c0,c8,t1,t2,ho⟩:=req_ok hc;have:=opB_len h ho;have n1:=zj (n:=x.client.toNat) (by omega);have n2:=zj (n:=x.time.toNat) (by omega);simp only[znz,List.length_append];omega
theorem zgw {k d:Int}(h:zx k d=0):(zgp k d).length<=20:=by
 obtain⟨k0,k1,d0,d1⟩:=sign_ok h;have n1:=zj (n:=k.toNat) (by omega);have n2:=zj (n:=d.toNat) (by omega);simp only[zgp,List.length_append];omega
theorem oneB_len {x:zp}(h:zmT x.op<=20971520)(h1:zT x=0)(h2:zx x.key x.dig=0):(oneB x).length<=20971700:=by
 have a:=zps (by omega) h1;have b:=zgw h2;have c:=zdl (x:=znz x) (by omega);simp only[oneB,List.length_append];omega
theorem zwV {l:List zp}(h:∀x∈l,zmT x.op<=20971520)(hc:zD l=0)(k:Nat):(zdK (l.take k)).length<=83886800:=by
 obtain⟨h4,hm,_⟩:=zjT hc;have key:∀(m:List zp),(∀x∈m,x∈l)->(zdK m).length<=m.length*20971700:=by
  intro m;induction m with
  | nil=>intro _;simp[zdK]
  | cons x m ih=>
   intro hsub
   have h1:=ih fun y hy=>hsub y (by simp[hy])
   have hx:=hsub x (by simp)
   have h2:=oneB_len (h x hx) (hm x hx).1 (hm x hx).2
   simp only[zdK,List.map_cons,List.flatten_cons,List.length_append,List.length_cons]at h1 ⊢
   omega
 have:=key (l.take k) fun x hx=>List.mem_of_mem_take hx;have h5:(l.take k).length<=4:=by rw[List.length_take];omega
 have h6:(l.take k).length*20971700<=4*20971700:=Nat.mul_le_mul_right _ h5;omega
theorem zoO {l:List zp}{k:Nat}{x:zp}(h:l[k]? = some x):zdK (l.take (k+1))=zdK (l.take k)++oneB x:=by
 rw[List.take_add_one,h];simp[zdK]
theorem ztS {x:zp}(h:zmT x.op<=20971520):(zbU x).length<=20971600:=by
 unfold zbU;split
 ·rename_i hc;have:=zps (by omega) hc;omega
 ·simp
abbrev zhV (l:List Int):List (List D):=l.map fun t=>[D.int .i64 t]
def zvF (x:Int):Bool:=decide (0<=x/\x<=9007199254740992)
def mayV (a b c d:Int):Bool:=zvF a&&(zvF b&&(zvF c&&zvF d))
def zS (l:List Int):List UInt8:=(l.map fun x=>zbx x.toNat).flatten
def zvk (a b c d:Int):List UInt8:=4::zS [a,b,c,d]
theorem zvE {x:Int}:zvF x=true↔0<=x/\x<=9007199254740992:=by simp[zvF]
theorem zpu {l:List Int}{k:Nat}{x:Int}(h:l[k]? = some x):zS (l.take (k+1))=zS (l.take k)++zbx x.toNat:=by
 rw[List.take_add_one,h];simp[zS]
theorem zoq {l:List Int}(h:∀x∈l,x<9223372036854775808):(zS l).length<=l.length*10:=by
 induction l with
 | nil=>simp[zS]
 | cons x l ih=>
  have h1:=h x (by simp)
  have h2:=zj (n:=x.toNat) (by omega)
  have h3:=ih fun y hy=>h y (by simp[hy])
  simp only[zS,List.map_cons,List.flatten_cons,List.length_append,List.length_cons]at h3 ⊢
  omega
theorem mayV_all (a b c d:Int):mayV a b c d=[a,b,c,d].all zvF:=by simp[mayV]
def zim (L:List (List UInt8)) (G:List zI) (s:zI) (key:Int) (b:List UInt8):Bool:=match zhE L b with
 | some i=>decide (s.key=key/\s.dig=((i+1:Nat):Int))&&decide (s∈G)
 | none=>false
structure zsJ where
 seq:Int
 prev:Int
 batch:Int
 root:Int
 state:Int
deriving DecidableEq
def hdrL (h:zsJ):List Int:=[h.seq,h.prev,h.batch,h.root,h.state]
abbrev zrY (h:zsJ):List D:=[.int .i64 h.seq,.int .i64 h.prev,.int .i64 h.batch,.int .i64 h.root,.int .i64 h.state]
abbrev hdrA (h:zsJ):AV:=.agg [.d (.int .i64 h.seq),.d (.int .i64 h.prev),.d (.int .i64 h.batch),.d (.int .i64 h.root),.d (.int .i64 h.state)]
abbrev zmt (l:List zsJ):List (List D):=l.map zrY
def hdrOk (h:zsJ):Bool:=(hdrL h).all zvF
def hdrB (h:zsJ):List UInt8:=3::zS (hdrL h)
structure znx where
 topic:List UInt8
 offset:Int
 rec_:List UInt8
def placedB (p:znx):List UInt8:=zkf p.topic++(zbx p.offset.toNat++zkf p.rec_)
def zav:List Int->Int
 | []=>0
 | e::r=>if e≠0 then e else zav r
theorem zeD (a b:List Int):zav (a++b)=if zav a≠0 then zav a else zav b:=by
 induction a with
 | nil=>simp[zav]
 | cons e r ih=>
  simp only[List.cons_append,zav,ih]
  by_cases h:e=0
  ·simp[h]
  ·simp[h]
theorem zgD {a b:List Int}(h:zav a=0):zav (a++b)=zav b:=by rw[zeD,if_neg (by simpa using h)]
theorem zhF {a b:List Int}(h:zav a≠0):zav (a++b)=zav a:=by rw[zeD,if_pos h]
def znU (e x:Int):Int:=if e≠0 then e else x
theorem thn_fst (e:Int)(l:List Int):znU e (zav l)=zav (e::l):=rfl
def inE (n lo hi:Int):Int:=if n<lo∨n>hi then 100 else 0
def zeR (n:Int):Int:=inE n 0 9007199254740992
def zkg (n:Int):Int:=inE n 1 9007199254740992
def zla (s:List UInt8):Int:=if zef s=true then 0 else 61
def zco (l:List zI):List Int:=inE l.length 0 13::l.map fun s=>zx s.key s.dig
def zfc (c:zjs):Int:=if ((c.seq=0)≠(c.dig=0))∨(c.seq=0/\0<c.signs.length)then 100 else 0
def zbz (c:zjs):List Int:=zeR c.seq::zeR c.dig::zfc c::zco c.signs
def zhf (h:zsJ):List Int:=[zkg h.seq,zeR h.prev,zeR h.batch,zeR h.root,zeR h.state]
structure zfi where
 topic:List UInt8
 offset:Int
 rec_:List UInt8
 headers:List zsJ
 index:Int
 count:Int
 path:List Int
 cert:zjs
abbrev proofD (p:zfi):List D:=[.str p.topic,.int .i64 p.offset,.slice (bcs p.rec_),.slice (zmt p.headers),.int .i64 p.index,.int .i64 p.count,.slice (zhV p.path),.int .i64 p.cert.seq,.int .i64 p.cert.dig,.slice (zat p.cert.signs)]
abbrev znA (p:zfi):AV:=.agg [.d (.str p.topic),.d (.int .i64 p.offset),.d (.slice (bcs p.rec_)),.d (.slice (zmt p.headers)),.d (.int .i64 p.index),.d (.int .i64 p.count),.d (.slice (zhV p.path)),.d (.int .i64 p.cert.seq),.d (.int .i64 p.cert.dig),.d (.slice (zat p.cert.signs))]
abbrev zhJ (c:zjs):AV:=.agg [.d (.int .i64 c.seq),.d (.int .i64 c.dig),.d (.slice (zat c.signs))]
def zgy (p:zfi):List Int:=[zla p.topic,zeR p.offset,inE p.rec_.length 0 64,inE p.headers.length 0 64]
def zfC (p:zfi):List Int:=[zeR p.index,inE p.count 0 16]
def zhq (p:zfi):List Int:=[inE p.index 0 (p.count-1),inE p.path.length 0 8]
def zcU (p:zfi):List Int:=zgy p++((p.headers.map zhf).flatten++(zfC p++(zhq p++(p.path.map zeR++zbz p.cert))))
def zlT (p:zfi):Int:=zav (zcU p)
theorem zkz {n lo hi:Int}(h:inE n lo hi=0):lo<=n/\n<=hi:=by
 unfold inE at h;split at h
 ·cases h
 ·omega
theorem zrQ {n:Int}(h:zeR n=0):0<=n/\n<=9007199254740992:=zkz h
structure zbD where
 kind:Int
 src:Int
 view:Int
 seq:Int
 dig:Int
 client:Int
 time:Int
 rerr:Int
 roff:Int
 batch:List zp
 cert:zjs
 changes:List zbl
 entries:List zhO
 state:List UInt8
 topic:List UInt8
 offset:Int
 proof:zfi
 key:Int
 sdig:Int
def zCert:zjs:=⟨0,0,[]⟩
def zsU:zfi:=⟨[],0,[],[],0,0,[],zCert⟩
def zee:zbD:=⟨0,0,0,0,0,0,0,0,0,[],zCert,[],[],[],[],0,zsU,0,0⟩
abbrev msgL (m:zbD):List AV:=
 [.d (.int .i64 m.kind),.d (.int .i64 m.src),.d (.int .i64 m.view),.d (.int .i64 m.seq),.d (.int .i64 m.dig),.d (.int .i64 m.client),.d (.int .i64 m.time),.d (.int .i64 m.rerr),.d (.int .i64 m.roff),.d (.slice (zbA m.batch)),
  .d (.int .i64 m.cert.seq),.d (.int .i64 m.cert.dig),.d (.slice (zat m.cert.signs)),.d (.slice (zam m.changes)),.d (.slice (zbq m.entries)),.d (.slice (bcs m.state)),.d (.str m.topic),.d (.int .i64 m.offset),
  .d (.str m.proof.topic),.d (.int .i64 m.proof.offset),.d (.slice (bcs m.proof.rec_)),.d (.slice (zmt m.proof.headers)),.d (.int .i64 m.proof.index),.d (.int .i64 m.proof.count),.d (.slice (zhV m.proof.path)),.d (.int .i64 m.proof.cert.seq),.d (.int .i64 m.proof.cert.dig),.d (.slice (zat m.proof.cert.signs)),.d (.int .i64 m.key),.d (.int .i64 m.sdig)]
abbrev zge (m:zbD):AV:=.agg (msgL m)
abbrev zlb (m:zbD):AObj:=.box (msgL m)
def zjy (n:Int):Int:=inE n 0 12
def zdT (p:zjU):List Int:=zeR p.view::zkg p.seq::zkg p.dig::zx p.fkey p.fdig::(zco p.signs++[zD p.batch])
def zej (c:zbl):List Int:=zkg c.view::zjy c.src::(zbz c.cert++(inE c.above.length 0 8::(c.above.map zdT).flatten))
def zaT (c:zbl):List Int:=zej c++[zx c.key c.dig]
def zdZ (x:zhO):List Int:=[zeR x.view,zkg x.seq,zD x.batch,zx x.key x.dig]
def zed (m:zbD):List Int:=[zjy m.src,zeR m.view,zkg m.seq,zkg m.dig]
def zfD (m:zbD):List Int:=zjy m.src::zkg m.view::inE m.changes.length 0 13::((m.changes.map zaT).flatten++(inE m.entries.length 0 8::(m.entries.map zdZ).flatten))
def zeQ (k:Int):Bool:=decide (2<=k/\k<=9/\k≠7)
def zB (m:zbD):List Int:=
 if m.kind=1 then [inE m.batch.length 1 1,zD m.batch]
 else if m.kind=2 then zed m++[zD m.batch]
 else if m.kind=3∨m.kind=4 then zed m
 else if m.kind=5 then [zjy m.src,zeR m.view,inE m.client 0 7,zeR m.time,inE m.rerr 0 65536,zeR m.roff]
 else if m.kind=6 then [zjy m.src,zkg m.seq,zkg m.dig]
 else if m.kind=7 then inE m.changes.length 1 1::(m.changes.map fun c=>zaT c++[if c.src≠m.src∨c.view≠m.view then 100 else 0]).flatten
 else if m.kind=8 then zfD m
 else if m.kind=9 then [zjy m.src,zeR m.seq]
 else if m.kind=10 then zjy m.src::(zbz m.cert++[inE m.state.length 0 262144])
 else if m.kind=11 then [inE m.client 0 7,zla m.topic,zeR m.offset]
 else if m.kind=12 then zjy m.src::zcU m.proof
 else [100]
def zab (m:zbD):List Int:=zB m++(if zeQ m.kind=true then [zx m.key m.sdig]else [])
def zfz (m:zbD):zbD:=
 if m.kind=1 then{ zee with kind:=m.kind,batch:=m.batch }
 else if m.kind=2 then{ zee with kind:=m.kind,src:=m.src,view:=m.view,seq:=m.seq,dig:=m.dig,batch:=m.batch,key:=m.key,sdig:=m.sdig }
 else if m.kind=3∨m.kind=4 then{ zee with kind:=m.kind,src:=m.src,view:=m.view,seq:=m.seq,dig:=m.dig,key:=m.key,sdig:=m.sdig }
 else if m.kind=5 then{ zee with kind:=m.kind,src:=m.src,view:=m.view,client:=m.client,time:=m.time,rerr:=m.rerr,roff:=m.roff,key:=m.key,sdig:=m.sdig }
 else if m.kind=6 then{ zee with kind:=m.kind,src:=m.src,seq:=m.seq,dig:=m.dig,key:=m.key,sdig:=m.sdig }
 else if m.kind=7 then{ zee with kind:=m.kind,src:=m.src,view:=m.view,changes:=m.changes }
 else if m.kind=8 then{ zee with kind:=m.kind,src:=m.src,view:=m.view,changes:=m.changes,entries:=m.entries,key:=m.key,sdig:=m.sdig }
 else if m.kind=9 then{ zee with kind:=m.kind,src:=m.src,seq:=m.seq,key:=m.key,sdig:=m.sdig }
 else if m.kind=10 then{ zee with kind:=m.kind,src:=m.src,cert:=m.cert,state:=m.state }
 else if m.kind=11 then{ zee with kind:=m.kind,client:=m.client,topic:=m.topic,offset:=m.offset }
 else if m.kind=12 then{ zee with kind:=m.kind,src:=m.src,proof:=m.proof }
 else{ zee with kind:=m.kind,src:=m.src }
deriving instance DecidableEq for zfi
deriving instance DecidableEq for zbD
def zbL (m:zbD):Int:=if zav (zab m)≠0 then zav (zab m)else if m=zfz m then 0 else 100
theorem zyM:∀ {f:Nat} {s:List UInt8} {n:Nat},zfh f s=some n->s.length<=4*n
 | 0,_,_,h=>by simp[zfh]at h
 | f+1,s,n,h=>by
  unfold zfh at h;split at h
  ·rename_i h0;simp[h0]
  ·split at h
   ·cases h
   ·simp only[Option.map_eq_some_iff]at h;obtain⟨k,hk,rfl⟩:=h;have h1:=zyM hk;have h2:=zmD s;simp only[List.length_drop]at h1;omega
theorem zyr {s:List UInt8}(h:zef s=true):s.length<=64:=by
 unfold zef ziN at h;simp only[decide_eq_true_eq]at h;split at h
 ·rename_i n hn;have:=zyM hn;split at h
  ·omega
  ·omega
 ·omega
theorem op_small {o:TOp}(h:zaN zef o=0):zmT o<=500:=by
 obtain⟨k0,k4,o0,o1,ho⟩:=zva h;unfold zaN at h;split at h
 ·cases h
 split at h
 ·cases h
 rename_i h1;split at h
 ·cases h
 rename_i h2;split at h
 ·cases h
 rename_i h3;have e1:o.topic=(zoo o).topic:=congrArg _ ho;have e2:o.group=(zoo o).group:=congrArg _ ho;have e3:o.recs=(zoo o).recs:=congrArg _ ho;have hk:o.kind=0∨o.kind=1∨o.kind=2∨o.kind=3∨o.kind=4:=by omega
 have ht:o.kind≠0->o.topic.length<=64:=fun hk=>zyr (by simpa [hk] using h1);have hg:o.kind=3->o.group.length<=64:=fun hk=>zyr (by simpa [hk] using h2);have hr:o.kind=2->(o.recs.map fun r=>r.length+10).sum<=296:=by
  intro hk;simp only[hk,true_and,not_or,Int.not_lt]at h3;obtain⟨h4,h5,h6⟩:=h3;have h7:∀r∈o.recs,r.length<=64:=by
   intro r hr;simp only[List.any_eq_true,not_exists,not_and,decide_eq_true_eq]at h6;have:=h6 r hr;omega
  have key:∀l:List (List UInt8),(∀r∈l,r.length<=64)->(l.map fun r=>r.length+10).sum<=l.length*74:=by
   intro l;induction l with
   | nil=>simp
   | cons r l ih=>
    intro h
    have h8:=ih fun r hr=>h r (by simp[hr])
    have h9:=h r (by simp)
    simp only[List.map_cons,List.sum_cons,List.length_cons]
    omega
  have:=key o.recs h7;have:o.recs.length*74<=4*74:=Nat.mul_le_mul_right _ (by omega);omega
 unfold zmT;rcases hk with hk|hk|hk|hk|hk
 ·simp[zoo,hk,noOp]at e1 e2 e3;simp[e1,e2,e3]
 ·simp[zoo,hk,noOp]at e1 e2 e3;have:=ht (by omega);simp[e2,e3];omega
 ·simp[zoo,hk,noOp]at e1 e2 e3;have:=ht (by omega);have:=hr hk;simp only[e2,List.length_nil];omega
 ·simp[zoo,hk,noOp]at e1 e2 e3;have:=ht (by omega);have:=hg hk;simp[e3];omega
 ·simp[zoo,hk,noOp]at e1 e2 e3;have:=ht (by omega);simp[e2,e3];omega
theorem zcA {α β:Type}{f:α->List β}{n:Nat}{l:List α}(h:∀x∈l,(f x).length<=n):((l.map f).flatten).length<=l.length*n:=by
 induction l with
 | nil=>simp
 | cons x l ih=>
  have h1:=ih fun y hy=>h y (by simp[hy])
  have h2:=h x (by simp)
  simp only[List.map_cons,List.flatten_cons,List.length_append,List.length_cons,Nat.add_mul,Nat.one_mul]
  omega
theorem zdI {l:List zp}(h:zD l=0):(∀x∈l,zmT x.op<=500)/\(zhi l).length<=4000:=by
 obtain⟨h4,hm,_⟩:=zjT h;have hz:∀x∈l,zmT x.op<=500:=fun x hx=>op_small (req_ok (hm x hx).1).2.2.2.2;refine⟨hz,?_⟩;have h1:∀x∈l,(oneB x).length<=700:=by
  intro x hx;have a:=zps (Nat.le_trans (hz x hx) (by omega)) (hm x hx).1;have b:=zgw (hm x hx).2;have c:=zdl (x:=znz x) (by have:=hz x hx;omega);have:=hz x hx;simp only[oneB,List.length_append];omega
 have h2:(zdK l).length<=l.length*700:=zcA h1;have:l.length*700<=4*700:=Nat.mul_le_mul_right _ h4;have n1:=zj (n:=l.length) (by omega);simp only[zhi,List.length_append];omega
theorem fstE_mem {l:List Int}(h:zav l=0):∀e∈l,e=0:=by
 induction l with
 | nil=>simp
 | cons x l ih=>
  unfold zav at h
  split at h
  ·rename_i hx;exact absurd h hx
  ·rename_i hx
   intro e he
   rcases List.mem_cons.1 he with rfl|he
   ·simpa using hx
   ·exact ih h e he
def zvv (l:List zI):List UInt8:=zbx l.length++(l.map fun s=>zgp s.key s.dig).flatten
def zrt (c:zjs):List UInt8:=zbx c.seq.toNat++(zbx c.dig.toNat++zvv c.signs)
def zuy (p:zjU):List UInt8:=zbx p.view.toNat++(zbx p.seq.toNat++(zbx p.dig.toNat++(zgp p.fkey p.fdig++(zvv p.signs++zhi p.batch))))
def zuM (c:zbl):List UInt8:=zbx c.view.toNat++(zbx c.src.toNat++(zrt c.cert++(zbx c.above.length++(c.above.map zuy).flatten)))
def zfQ (c:zbl):List UInt8:=zuM c++zgp c.key c.dig
def znB (x:zhO):List UInt8:=zbx x.view.toNat++(zbx x.seq.toNat++(zhi x.batch++zgp x.key x.dig))
def newvB (m:zbD):List UInt8:=zbx m.src.toNat++(zbx m.view.toNat++(zbx m.changes.length++((m.changes.map zfQ).flatten++(zbx m.entries.length++(m.entries.map znB).flatten))))
theorem zzD {l:List zI}(h:∀e∈zco l,e=0):l.length<=13/\∀s∈l,zx s.key s.dig=0:=by
 refine⟨?_,fun s hs=>h _ (List.mem_cons_of_mem _ (List.mem_map_of_mem hs))⟩;have:=zkz (h _ List.mem_cons_self);omega
theorem zpp {l:List zI}(h:∀e∈zco l,e=0):(zvv l).length<=270:=by
 obtain⟨h1,h2⟩:=zzD h;have h3:((l.map fun s=>zgp s.key s.dig).flatten).length<=l.length*20:=zcA fun s hs=>zgw (h2 s hs);have n1:=zj (n:=l.length) (by omega);have:l.length*20<=13*20:=Nat.mul_le_mul_right _ h1;simp only[zvv,List.length_append];omega
theorem cert_ok {c:zjs}(h:∀e∈zbz c,e=0):(0<=c.seq/\c.seq<=9007199254740992)/\(0<=c.dig/\c.dig<=9007199254740992)/\∀e∈zco c.signs,e=0:=
 ⟨zrQ (h _ (by simp[zbz])),zrQ (h _ (by simp[zbz])),fun e he=>h e (by simp only[zbz,List.mem_cons];exact .inr (.inr (.inr he)))⟩
theorem zhI {c:zjs}(h:∀e∈zbz c,e=0):(zrt c).length<=290:=by
 obtain⟨h1,h2,h3⟩:=cert_ok h;have:=zpp h3;have n1:=zj (n:=c.seq.toNat) (by omega);have n2:=zj (n:=c.dig.toNat) (by omega);simp only[zrt,List.length_append];omega
theorem posE_0 {n:Int}(h:zkg n=0):1<=n/\n<=9007199254740992:=zkz h
structure prepOkE (p:zjU):Prop where
 view:0<=p.view/\p.view<=9007199254740992
 seq:1<=p.seq/\p.seq<=9007199254740992
 dig:1<=p.dig/\p.dig<=9007199254740992
 first:zx p.fkey p.fdig=0
 signs:∀e∈zco p.signs,e=0
 batch:zD p.batch=0
theorem prep_ok {p:zjU}(h:∀e∈zdT p,e=0):prepOkE p:=
 ⟨zrQ (h _ (by simp[zdT])),posE_0 (h _ (by simp[zdT])),posE_0 (h _ (by simp[zdT])),h _ (by simp[zdT]),fun e he=>h e (by simp only[zdT,List.mem_cons,List.mem_append];exact .inr (.inr (.inr (.inr (.inl he))))),h _ (by simp[zdT])⟩
theorem zvB {p:zjU}(h:∀e∈zdT p,e=0):(zuy p).length<=4400:=by
 obtain⟨h1,h2,h3,h4,h5,h6⟩:=prep_ok h;have:=zpp h5;have:=zgw h4;have:=(zdI h6).2;have n1:=zj (n:=p.view.toNat) (by omega);have n2:=zj (n:=p.seq.toNat) (by omega);have n3:=zj (n:=p.dig.toNat) (by omega);simp only[zuy,List.length_append];omega
structure bodyOkE (c:zbl):Prop where
 view:1<=c.view/\c.view<=9007199254740992
 src:0<=c.src/\c.src<=12
 cert:∀e∈zbz c.cert,e=0
 many:c.above.length<=8
 above:∀p∈c.above,∀e∈zdT p,e=0
theorem body_ok {c:zbl}(h:∀e∈zej c,e=0):bodyOkE c:=by
 refine⟨posE_0 (h _ (by simp[zej])),zkz (h (zjy c.src) (by simp[zej])),fun e he=>h e (by simp[zej,he]),?_,fun p hp e he=>h e ?_⟩
 ·have:=zkz (h (inE c.above.length 0 8) (by simp[zej]));omega
 ·simp only[zej,List.mem_cons,List.mem_append,List.mem_flatten,List.mem_map];exact .inr (.inr (.inr (.inr ⟨_,⟨p,hp,rfl⟩,he⟩)))
theorem zsu {c:zbl}(h:∀e∈zej c,e=0):(zuM c).length<=36000:=by
 obtain⟨h1,h2,h3,h4,h5⟩:=body_ok h;have:=zhI h3;have h6:((c.above.map zuy).flatten).length<=c.above.length*4400:=zcA fun p hp=>zvB (h5 p hp);have:c.above.length*4400<=8*4400:=Nat.mul_le_mul_right _ h4;have n1:=zj (n:=c.view.toNat) (by omega);have n2:=zj (n:=c.src.toNat) (by omega);have n3:=zj (n:=c.above.length) (by omega);simp only[zuM,List.length_append];omega
theorem ziU {c:zbl}(h:∀e∈zaT c,e=0):(∀e∈zej c,e=0)/\zx c.key c.dig=0:=
 ⟨fun e he=>h e (by simp[zaT,he]),h _ (by simp[zaT])⟩
theorem zrs {c:zbl}(h:∀e∈zaT c,e=0):(zfQ c).length<=36020:=by
 obtain⟨h1,h2⟩:=ziU h;have:=zsu h1;have:=zgw h2;simp only[zfQ,List.length_append];omega
structure entryOkE (x:zhO):Prop where
 view:0<=x.view/\x.view<=9007199254740992
 seq:1<=x.seq/\x.seq<=9007199254740992
 batch:zD x.batch=0
 sign:zx x.key x.dig=0
theorem zAg {x:zhO}(h:∀e∈zdZ x,e=0):entryOkE x:=
 ⟨zrQ (h _ (by simp[zdZ])),posE_0 (h _ (by simp[zdZ])),h _ (by simp[zdZ]),h _ (by simp[zdZ])⟩
theorem ztp {x:zhO}(h:∀e∈zdZ x,e=0):(znB x).length<=4040:=by
 obtain⟨h1,h2,h3,h4⟩:=zAg h;have:=zgw h4;have:=(zdI h3).2;have n1:=zj (n:=x.view.toNat) (by omega);have n2:=zj (n:=x.seq.toNat) (by omega);simp only[znB,List.length_append];omega
structure newvOkE (m:zbD):Prop where
 src:0<=m.src/\m.src<=12
 view:1<=m.view/\m.view<=9007199254740992
 manyC:m.changes.length<=13
 change:∀c∈m.changes,∀e∈zaT c,e=0
 manyE:m.entries.length<=8
 entry:∀x∈m.entries,∀e∈zdZ x,e=0
theorem newv_ok {m:zbD}(h:∀e∈zfD m,e=0):newvOkE m:=by
 refine⟨zkz (h (zjy m.src) (by simp[zfD])),posE_0 (h _ (by simp[zfD])),?_,fun p hp e he=>h e ?_,?_,fun p hp e he=>h e ?_⟩
 ·have:=zkz (h (inE m.changes.length 0 13) (by simp[zfD]));omega
 ·simp only[zfD,List.mem_cons,List.mem_append,List.mem_flatten,List.mem_map];exact .inr (.inr (.inr (.inl ⟨_,⟨p,hp,rfl⟩,he⟩)))
 ·have:=zkz (h (inE m.entries.length 0 8) (by simp[zfD]));omega
 ·simp only[zfD,List.mem_cons,List.mem_append,List.mem_flatten,List.mem_map];exact .inr (.inr (.inr (.inr (.inr ⟨_,⟨p,hp,rfl⟩,he⟩))))
theorem newvB_len {m:zbD}(h:∀e∈zfD m,e=0):(newvB m).length<=600000:=by
 obtain⟨h1,h2,h3,h4,h5,h6⟩:=newv_ok h;have a:((m.changes.map zfQ).flatten).length<=m.changes.length*36020:=zcA fun p hp=>zrs (h4 p hp);have b:((m.entries.map znB).flatten).length<=m.entries.length*4040:=zcA fun p hp=>ztp (h6 p hp);have:m.changes.length*36020<=13*36020:=Nat.mul_le_mul_right _ h3;have:m.entries.length*4040<=8*4040:=Nat.mul_le_mul_right _ h5;have n1:=zj (n:=m.src.toNat) (by omega);have n2:=zj (n:=m.view.toNat) (by omega);have n3:=zj (n:=m.changes.length) (by omega);have n4:=zj (n:=m.entries.length) (by omega);simp only[newvB,List.length_append];omega
def unsB (m:zbD):List UInt8:=zbx m.kind.toNat++(if m.kind=7 then(match m.changes with|c::_=>zuM c|[]=>[])else if m.kind=8 then newvB m else [])
def ownS (m:zbD):zI:=if m.kind=7 then(match m.changes with|c::_=>⟨c.key,c.dig⟩|[]=>⟨m.key,m.sdig⟩)else⟨m.key,m.sdig⟩
def zbt (m:zbD):zbD:=if m.kind=7 then(match m.changes with|[c]=>{ m with changes:=[{ c with key:=0,dig:=1 }] }|_=>m)else if zeQ m.kind=true then{ m with key:=0,sdig:=1 }else m
theorem zgJ {m:zbD}(h:zbL m=0):(∀e∈zab m,e=0)/\m=zfz m:=by
 unfold zbL at h;split at h
 ·rename_i h1;exact absurd h h1
 ·rename_i h1;split at h
  ·rename_i h2;exact⟨fstE_mem (by simpa using h1),h2⟩
  ·cases h
theorem zwG {m:zbD}(hk:m.kind=7)(h:zbL m=0):∃c,m.changes=[c]/\∀e∈zaT c,e=0:=by
 have h1:=(zgJ h).1;simp only[zab,zB,hk]at h1;have h2:=zkz (h1 (inE m.changes.length 1 1) (by simp));obtain⟨c,hc⟩:∃c,m.changes=[c]:=List.length_eq_one_iff.1 (by omega);refine⟨c,hc,fun e he=>h1 e ?_⟩;simp[hc,he]
theorem check8 {m:zbD}(hk:m.kind=8)(h:zbL m=0):(∀e∈zfD m,e=0)/\zx m.key m.sdig=0:=by
 have h1:=(zgJ h).1;simp only[zab,zB,hk]at h1;exact⟨fun e he=>h1 e (by simp[he]),h1 _ (by simp[show zeQ 8=true from rfl])⟩
def replyB (m:zbD):List UInt8:=5::zS [m.view,m.client,m.time,m.rerr,m.roff]
structure ReplyOk (m:zbD):Prop where
 src:0<=m.src/\m.src<=12
 view:0<=m.view/\m.view<=9007199254740992
 client:0<=m.client/\m.client<=7
 time:0<=m.time/\m.time<=9007199254740992
 rerr:0<=m.rerr/\m.rerr<=65536
 roff:0<=m.roff/\m.roff<=9007199254740992
 sign:zx m.key m.sdig=0
theorem zyN {m:zbD}(hk:m.kind=5)(h:zbL m=0):ReplyOk m:=by
 have h1:=(zgJ h).1;simp only[zab,zB,hk]at h1;exact⟨zkz (h1 (zjy m.src) (by simp)),zrQ (h1 _ (by simp)),zkz (h1 (inE m.client 0 7) (by simp)),zrQ (h1 (zeR m.time) (by simp)),zkz (h1 (inE m.rerr 0 65536) (by simp)),zrQ (h1 (zeR m.roff) (by simp)),h1 _ (by simp[show zeQ 5=true from rfl])⟩
theorem K1 {x:Int}(h:x=1):(x==1)=true/\(x==2)=false/\(x==3)=false/\(x==4)=false/\(x==5)=false/\(x==6)=false/\(x==7)=false/\(x==8)=false/\(x==9)=false/\(x==10)=false/\(x==11)=false/\(x==12)=false:=by subst h;decide
theorem K2 {x:Int}(h:x=2):(x==1)=false/\(x==2)=true/\(x==3)=false/\(x==4)=false/\(x==5)=false/\(x==6)=false/\(x==7)=false/\(x==8)=false/\(x==9)=false/\(x==10)=false/\(x==11)=false/\(x==12)=false:=by subst h;decide
theorem K3 {x:Int}(h:x=3):(x==1)=false/\(x==2)=false/\(x==3)=true/\(x==4)=false/\(x==5)=false/\(x==6)=false/\(x==7)=false/\(x==8)=false/\(x==9)=false/\(x==10)=false/\(x==11)=false/\(x==12)=false:=by subst h;decide
theorem K4 {x:Int}(h:x=4):(x==1)=false/\(x==2)=false/\(x==3)=false/\(x==4)=true/\(x==5)=false/\(x==6)=false/\(x==7)=false/\(x==8)=false/\(x==9)=false/\(x==10)=false/\(x==11)=false/\(x==12)=false:=by subst h;decide
theorem K5 {x:Int}(h:x=5):(x==1)=false/\(x==2)=false/\(x==3)=false/\(x==4)=false/\(x==5)=true/\(x==6)=false/\(x==7)=false/\(x==8)=false/\(x==9)=false/\(x==10)=false/\(x==11)=false/\(x==12)=false:=by subst h;decide
theorem K6 {x:Int}(h:x=6):(x==1)=false/\(x==2)=false/\(x==3)=false/\(x==4)=false/\(x==5)=false/\(x==6)=true/\(x==7)=false/\(x==8)=false/\(x==9)=false/\(x==10)=false/\(x==11)=false/\(x==12)=false:=by subst h;decide
theorem K7 {x:Int}(h:x=7):(x==1)=false/\(x==2)=false/\(x==3)=false/\(x==4)=false/\(x==5)=false/\(x==6)=false/\(x==7)=true/\(x==8)=false/\(x==9)=false/\(x==10)=false/\(x==11)=false/\(x==12)=false:=by subst h;decide
theorem K8 {x:Int}(h:x=8):(x==1)=false/\(x==2)=false/\(x==3)=false/\(x==4)=false/\(x==5)=false/\(x==6)=false/\(x==7)=false/\(x==8)=true/\(x==9)=false/\(x==10)=false/\(x==11)=false/\(x==12)=false:=by subst h;decide
theorem K9 {x:Int}(h:x=9):(x==1)=false/\(x==2)=false/\(x==3)=false/\(x==4)=false/\(x==5)=false/\(x==6)=false/\(x==7)=false/\(x==8)=false/\(x==9)=true/\(x==10)=false/\(x==11)=false/\(x==12)=false:=by subst h;decide
theorem K10 {x:Int}(h:x=10):(x==1)=false/\(x==2)=false/\(x==3)=false/\(x==4)=false/\(x==5)=false/\(x==6)=false/\(x==7)=false/\(x==8)=false/\(x==9)=false/\(x==10)=true/\(x==11)=false/\(x==12)=false:=by subst h;decide
theorem K11 {x:Int}(h:x=11):(x==1)=false/\(x==2)=false/\(x==3)=false/\(x==4)=false/\(x==5)=false/\(x==6)=false/\(x==7)=false/\(x==8)=false/\(x==9)=false/\(x==10)=false/\(x==11)=true/\(x==12)=false:=by subst h;decide
theorem K12 {x:Int}(h:x=12):(x==1)=false/\(x==2)=false/\(x==3)=false/\(x==4)=false/\(x==5)=false/\(x==6)=false/\(x==7)=false/\(x==8)=false/\(x==9)=false/\(x==10)=false/\(x==11)=false/\(x==12)=true:=by subst h;decide
theorem K0 {x:Int}(h:¬(1<=x/\x<=12)):(x==1)=false/\(x==2)=false/\(x==3)=false/\(x==4)=false/\(x==5)=false/\(x==6)=false/\(x==7)=false/\(x==8)=false/\(x==9)=false/\(x==10)=false/\(x==11)=false/\(x==12)=false:=by simp;omega
def hdB (h:zsJ):List UInt8:=zS [h.seq,h.prev,h.batch,h.root,h.state]
def ztT (p:zfi):List UInt8:=zkf p.topic++(zS [p.offset]++(zkf p.rec_++(zbx p.headers.length++((p.headers.map hdB).flatten++(zS [p.index,p.count]++(zbx p.path.length++(zS p.path++zrt p.cert)))))))
structure zrA (p:zfi):Prop where
 topic:p.topic.length<=64
 offset:0<=p.offset/\p.offset<=9007199254740992
 record:p.rec_.length<=64
 many:p.headers.length<=64
 hdr:∀h∈p.headers,∀e∈zhf h,e=0
 index:0<=p.index/\p.index<=9007199254740992
 count:0<=p.count/\p.count<=16
 path:p.path.length<=8
 num:∀x∈p.path,0<=x/\x<=9007199254740992
 cert:∀e∈zbz p.cert,e=0
theorem zzM {p:zfi}(h:∀e∈zcU p,e=0):zrA p:=by
 have g:∀n lo hi:Int,inE n lo hi∈zcU p->lo<=n/\n<=hi:=fun n lo hi hm=>zkz (h _ hm);refine⟨?_,g _ _ _ (by simp[zcU,zgy,zeR]),?_,?_,fun x hx e he=>h e ?_,g _ _ _ (by simp[zcU,zfC,zeR]),g _ _ _ (by simp[zcU,zfC]),?_,fun x hx=>?_,fun e he=>h e (by simp[zcU,he])⟩
 ·have:=h (zla p.topic) (by simp[zcU,zgy]);refine zyr ?_;unfold zla at this;split at this
  ·assumption
  ·cases this
 ·have:=g p.rec_.length 0 64 (by simp[zcU,zgy]);omega
 ·have:=g p.headers.length 0 64 (by simp[zcU,zgy]);omega
 ·simp only[zcU,List.mem_append,List.mem_flatten,List.mem_map];exact .inr (.inl ⟨_,⟨x,hx,rfl⟩,he⟩)
 ·have:=g p.path.length 0 8 (by simp[zcU,zhq]);omega
 ·exact g x 0 9007199254740992 (by simp only[zcU,List.mem_append,List.mem_map];exact .inr (.inr (.inr (.inr (.inl ⟨x,hx,rfl⟩)))))
theorem hdr_ok {h:zsJ}(he:∀e∈zhf h,e=0):∀x∈[h.seq,h.prev,h.batch,h.root,h.state],0<=x/\x<=9007199254740992:=by
 have g:∀n lo hi:Int,inE n lo hi∈zhf h->lo<=n/\n<=hi:=fun n lo hi hm=>zkz (he _ hm);have h1:=g h.seq 1 9007199254740992 (by simp[zhf,zkg]);have h2:=g h.prev 0 9007199254740992 (by simp[zhf,zeR]);have h3:=g h.batch 0 9007199254740992 (by simp[zhf,zeR]);have h4:=g h.root 0 9007199254740992 (by simp[zhf,zeR]);have h5:=g h.state 0 9007199254740992 (by simp[zhf,zeR]);simp;omega
theorem zcd {l:List Int}(h:∀x∈l,0<=x/\x<=9007199254740992):(zS l).length<=l.length*10:=zoq fun x hx=>by have:=h x hx;omega
theorem hdB_len {h:zsJ}(he:∀e∈zhf h,e=0):(hdB h).length<=50:=zcd (hdr_ok he)
theorem proofB_len {p:zfi}(h:zrA p):(ztT p).length<=5000:=by
 obtain⟨h1,h2,h3,h4,h5,h6,h7,h8,h9,h10⟩:=h;have p1:=zdl (x:=p.topic) (by omega);have p2:=zdl (x:=p.rec_) (by omega);have n1:=zcd (l:=[p.offset]) (by simp;omega);have n2:=zj (n:=p.headers.length) (by omega);have n3:=zcd (l:=[p.index,p.count]) (by simp;omega);have n5:=zj (n:=p.path.length) (by omega);have n6:=zcd h9;have q1:=zhI h10;have q2:((p.headers.map hdB).flatten).length<=p.headers.length*50:=zcA fun s hm=>hdB_len (h5 s hm);have:p.headers.length*50<=64*50:=Nat.mul_le_mul_right _ h4;simp only[List.length_cons,List.length_nil]at n1 n3;simp only[ztT,List.length_append];omega
def zfq (m:zbD):List UInt8:=
 if m.kind=1 then zhi m.batch
 else if m.kind=2 then zS [m.src,m.view,m.seq,m.dig]++zhi m.batch
 else if m.kind=3∨m.kind=4 then zS [m.src,m.view,m.seq,m.dig]
 else if m.kind=5 then zS [m.src,m.view,m.client,m.time]++(zbx m.rerr.toNat++zbx m.roff.toNat)
 else if m.kind=6 then zS [m.src,m.seq,m.dig]
 else if m.kind=7 then(match m.changes with|c::_=>zuM c|[]=>[])
 else if m.kind=8 then newvB m
 else if m.kind=9 then zS [m.src,m.seq]
 else if m.kind=10 then zS [m.src]++(zrt m.cert++zkf m.state)
 else if m.kind=11 then zS [m.client]++(zkf m.topic++zS [m.offset])
 else if m.kind=12 then zS [m.src]++ztT m.proof
 else []
def znT (m:zbD):List UInt8:=zbx m.kind.toNat++zfq m
def ztj (m:zbD):List UInt8:=znT m++if m.kind=7∨zeQ m.kind=true then zgp (ownS m).key (ownS m).dig else []
def zfS (m:zbD):Int:=if zbL m≠0 then zbL m else if (ztj m).length>262144 then 3 else 0
def nilK (k:Int):Bool:=decide (k=1∨k=10∨k=11∨k=12)
def zdi (m:zbD):List UInt8:=
 if m.kind=2∨m.kind=3∨m.kind=4 then zvk m.kind m.view m.seq m.dig
 else if m.kind=6 then zvk m.kind 0 m.seq m.dig
 else if m.kind=9 then zvk m.kind 0 m.seq 0
 else if m.kind=5 then replyB m
 else 6::znT (zbt m)
theorem kinds {m:zbD}(h:zbL m=0):1<=m.kind/\m.kind<=12:=by
 by_cases hk:1<=m.kind/\m.kind<=12
 ·exact hk
 have:=(zgJ h).1 100 (by
  have e:∀j:Int,1<=j->j<=12->m.kind≠j:=fun j h1 h2 h3=>hk (by omega);simp[zab,zB,e])
 cases this
theorem own_ok {m:zbD}(h:zbL m=0)(ho:zeQ m.kind=true):zx m.key m.sdig=0:=(zgJ h).1 _ (by simp[zab,ho])
theorem zzx {m:zbD}(h:zbL m=0)(hk:m.kind=2∨m.kind=3∨m.kind=4):(0<=m.src/\m.src<=12)/\(0<=m.view/\m.view<=9007199254740992)/\(1<=m.seq/\m.seq<=9007199254740992)/\(1<=m.dig/\m.dig<=9007199254740992):=by
 have h1:=(zgJ h).1;have g:∀n lo hi:Int,inE n lo hi∈zed m->lo<=n/\n<=hi:=fun n lo hi hm=>zkz (h1 _ (by rcases hk with hk|hk|hk<;>simp[zab,zB,hk,hm]));exact⟨g _ _ _ (by simp[zed,zjy]),g _ _ _ (by simp[zed,zeR]),g _ _ _ (by simp[zed,zkg]),g _ _ _ (by simp[zed,zkg])⟩
structure Rd where
 b:List UInt8
 e:Int
def Rd.fail (cut:Bool) (s:Rd) (x:Int):Rd:=if s.e=0/\x≠0 then⟨if cut then []else s.b,x⟩else s
def zsI (cut:Bool) (most:Nat) (s:Rd):Nat × Rd:=
 if s.e=0 then(match numR most 0 0 s.b with|.ok (n,r)=>(n,⟨r,0⟩)|.error x=>(0,s.fail cut x))else(0,s)
def takeP (cut:Bool) (n:Nat) (s:Rd):List UInt8 × Rd:=
 if s.e=0 then(if n>s.b.length then([],s.fail cut 10)else(s.b.take n,⟨s.b.drop n,0⟩))else([],s)
def zmE (cut:Bool) (most:Nat) (s:Rd):List UInt8 × Rd:=takeP cut (zsI cut most s).1 (zsI cut most s).2
def zzL (cut:Bool):Nat->Rd->List (List UInt8) × Rd
 | 0,s=>([],s)
 | k+1,s=>((zzL cut k s).1++[(zmE cut 64 (zzL cut k s).2).1],(zmE cut 64 (zzL cut k s).2).2)
def zrc (cut:Bool) (k:Nat) (s:Rd):TOp × Rd:=
 let t:=zmE cut 64 s
 if k=0 then(noOp,s)
 else if k=2 then(let n:=zsI cut 4 t.2;let r:=zzL cut n.1 n.2;(⟨k,t.1,[],0,r.1⟩,r.2))
 else if k=3 then(let g:=zmE cut 64 t.2;let f:=zsI cut 9007199254740992 g.2;(⟨k,t.1,g.1,f.1,[]⟩,f.2))
 else if k=4 then(let f:=zsI cut 9007199254740992 t.2;(⟨k,t.1,[],f.1,[]⟩,f.2))
 else(⟨k,t.1,[],0,[]⟩,t.2)
def zsO (cut:Bool) (name:List UInt8->Bool) (s:Rd):TOp × Rd:=
 let k:=zsI cut 4 s
 let x:=zrc cut k.1 k.2
 let z:=x.2.fail cut (zaN name x.1)
 (if z.e=0 then x.1 else noOp,z)
def Rd.like (s t:Rd):Prop:=s.e=t.e/\(s.e=0->s.b=t.b)
theorem Rd.like.fail {s t:Rd}{c d:Bool}{x:Int}(h:s.like t):(s.fail c x).like (t.fail d x):=by
 obtain⟨h1,h2⟩:=h;unfold Rd.fail Rd.like;grind
theorem Rd.like.num {s t:Rd}{c d:Bool}{m:Nat}(h:s.like t):(zsI c m s).1=(zsI d m t).1/\(zsI c m s).2.like (zsI d m t).2:=by
 have hf:∀x,(s.fail c x).like (t.fail d x):=fun x=>h.fail;obtain⟨h1,h2⟩:=h;unfold zsI;by_cases h0:s.e=0
 ·rw[if_pos h0,if_pos (show t.e=0 from h1▸h0),h2 h0];cases numR m 0 0 t.b with
  | ok x=>exact⟨rfl,rfl,fun _=>rfl⟩
  | error x=>exact⟨rfl,hf x⟩
 ·rw[if_neg h0,if_neg (h1▸h0)];exact⟨rfl,h1,h2⟩
theorem Rd.like.take {s t:Rd}{c d:Bool}{m:Nat}(h:s.like t):(takeP c m s).1=(takeP d m t).1/\(takeP c m s).2.like (takeP d m t).2:=by
 have hf:∀x,(s.fail c x).like (t.fail d x):=fun x=>h.fail;obtain⟨h1,h2⟩:=h;unfold takeP;by_cases h0:s.e=0
 ·rw[if_pos h0,if_pos (show t.e=0 from h1▸h0),h2 h0];split
  ·exact⟨rfl,hf 10⟩
  ·exact⟨rfl,rfl,fun _=>rfl⟩
 ·rw[if_neg h0,if_neg (h1▸h0)];exact⟨rfl,h1,h2⟩
theorem Rd.like.bytes {s t:Rd}{c d:Bool}{m:Nat}(h:s.like t):(zmE c m s).1=(zmE d m t).1/\(zmE c m s).2.like (zmE d m t).2:=by
 have a:=h.num (c:=c) (d:=d) (m:=m);have:=a.2.take (c:=c) (d:=d) (m:=(zsI c m s).1);unfold zmE;rw[← a.1];exact this
theorem Rd.like.recs {s t:Rd}{c d:Bool}(h:s.like t):∀k,(zzL c k s).1=(zzL d k t).1/\(zzL c k s).2.like (zzL d k t).2
 | 0=>⟨rfl,h⟩
 | k+1=>by
  obtain⟨a,b⟩:=Rd.like.recs h (c:=c) (d:=d) k;have e:=b.bytes (c:=c) (d:=d) (m:=64);exact⟨by simp only[zzL,a,e.1],e.2⟩
theorem Rd.like.fields {s t:Rd}{c d:Bool}(h:s.like t)(k:Nat):(zrc c k s).1=(zrc d k t).1/\(zrc c k s).2.like (zrc d k t).2:=by
 obtain⟨t1,t2⟩:=h.bytes (c:=c) (d:=d) (m:=64);obtain⟨n1,n2⟩:=t2.num (c:=c) (d:=d) (m:=4);obtain⟨r1,r2⟩:=n2.recs (c:=c) (d:=d) (zsI c 4 (zmE c 64 s).2).1;obtain⟨g1,g2⟩:=t2.bytes (c:=c) (d:=d) (m:=64);obtain⟨f1,f2⟩:=g2.num (c:=c) (d:=d) (m:=9007199254740992);obtain⟨e1,e2⟩:=t2.num (c:=c) (d:=d) (m:=9007199254740992);unfold zrc;simp only;split
 ·exact⟨rfl,h⟩
 ·split
  ·rw[← n1,← r1,← t1];exact⟨rfl,r2⟩
  ·split
   ·rw[← t1,← g1,← f1];exact⟨rfl,f2⟩
   ·split
    ·rw[← t1,← e1];exact⟨rfl,e2⟩
    ·rw[← t1];exact⟨rfl,t2⟩
theorem Rd.like.takeOp {s t:Rd}{c d:Bool}{name:List UInt8->Bool}(h:s.like t):(zsO c name s).1=(zsO d name t).1/\(zsO c name s).2.like (zsO d name t).2:=by
 obtain⟨k1,k2⟩:=h.num (c:=c) (d:=d) (m:=4);obtain⟨x1,x2⟩:=k2.fields (c:=c) (d:=d) (zsI c 4 s).1;have z:=x2.fail (c:=c) (d:=d) (x:=zaN name (zrc c (zsI c 4 s).1 (zsI c 4 s).2).1);unfold zsO;simp only;rw[← k1,← x1,← z.1];exact⟨rfl,z⟩
open Go
def nilRq:zp:=⟨0,0,noOp,0,0⟩
def doneE (s:Rd):Int:=if s.e=0/\0<s.b.length then 12 else s.e
def lateE (e:Int) (t:Nat):Int:=if e=0/\t=0 then 80 else e
def pickR (f:Int) (x:zp):zp:=if f=0 then x else nilRq
def signZ (c:Bool) (d:Nat × Rd):Rd:=if d.2.e=0/\d.1=0 then d.2.fail c 81 else d.2
def reqP (c:Bool) (b:List UInt8):zp × Int:=
 let k:=zsI c 7 ⟨b,0⟩
 let t:=zsI c 9007199254740992 k.2
 let o:=zsO c zef t.2
 let f:=lateE (doneE o.2) t.1
 (pickR f ⟨k.1,t.1,o.1,0,0⟩,f)
def signP (c:Bool) (s:Rd):(Nat × Nat) × Rd:=
 let k:=zsI c 20 s
 let d:=zsI c 9007199254740992 k.2
 let z:=signZ c d
 (if z.e=0 then(k.1,d.1)else(0,0),z)
def oneP (c:Bool) (s:Rd):zp × Rd:=
 let b:=zmE c 1024 s
 let x:=reqP c b.1
 let g:=signP c (b.2.fail c x.2)
 (⟨x.1.client,x.1.time,x.1.op,g.1.1,g.1.2⟩,g.2)
def zql (c:Bool):Nat->Rd->List zp × Rd
 | 0,s=>([],s)
 | k+1,s=>((zql c k s).1++[(oneP c (zql c k s).2).1],(oneP c (zql c k s).2).2)
def batchP (c:Bool) (s:Rd):List zp × Rd:=
 let n:=zsI c 4 s
 let p:=zql c n.1 n.2
 let z:=p.2.fail c (zD p.1)
 (if z.e=0 then p.1 else [],z)
theorem Rd.like.refl (s:Rd):s.like s:=⟨rfl,fun _=>rfl⟩
theorem done_like {s t:Rd}(h:s.like t):doneE s=doneE t:=by
 unfold doneE;obtain⟨h1,h2⟩:=h;by_cases h0:s.e=0
 ·rw[h2 h0,h1]
 ·rw[if_neg (fun g=>h0 g.1),if_neg (fun g=>h0 (h1▸g.1)),h1]
theorem reqP_like (c d:Bool)(b:List UInt8):reqP c b=reqP d b:=by
 obtain⟨k1,k2⟩:=(Rd.like.refl ⟨b,0⟩).num (c:=c) (d:=d) (m:=7);obtain⟨t1,t2⟩:=k2.num (c:=c) (d:=d) (m:=9007199254740992);obtain⟨o1,o2⟩:=t2.takeOp (c:=c) (d:=d) (name:=zef);have e:=done_like o2;unfold reqP;simp only;rw[e,t1,k1,o1]
theorem Rd.like.sign {s t:Rd}{c d:Bool}(h:s.like t):(signP c s).1=(signP d t).1/\(signP c s).2.like (signP d t).2:=by
 obtain⟨k1,k2⟩:=h.num (c:=c) (d:=d) (m:=20);obtain⟨t1,t2⟩:=k2.num (c:=c) (d:=d) (m:=9007199254740992);have z:=t2.fail (c:=c) (d:=d) (x:=81);have hz:(signZ c (zsI c 9007199254740992 (zsI c 20 s).2)).like (signZ d (zsI d 9007199254740992 (zsI d 20 t).2)):=by
  unfold signZ;rw[← t1,← t2.1];split
  ·exact z
  ·exact t2
 unfold signP;simp only;rw[← k1,← t1,← hz.1];exact⟨rfl,hz⟩
theorem Rd.like.one {s t:Rd}{c d:Bool}(h:s.like t):(oneP c s).1=(oneP d t).1/\(oneP c s).2.like (oneP d t).2:=by
 obtain⟨b1,b2⟩:=h.bytes (c:=c) (d:=d) (m:=1024);have e:=reqP_like c d (zmE c 1024 s).1;have f:=b2.fail (c:=c) (d:=d) (x:=(reqP c (zmE c 1024 s).1).2);obtain⟨g1,g2⟩:=f.sign (c:=c) (d:=d);unfold oneP;simp only;rw[← b1,← e,← g1];exact⟨rfl,g2⟩
theorem Rd.like.items {s t:Rd}{c d:Bool}(h:s.like t):∀k,(zql c k s).1=(zql d k t).1/\(zql c k s).2.like (zql d k t).2
 | 0=>⟨rfl,h⟩
 | k+1=>by
  obtain⟨a,b⟩:=Rd.like.items h (c:=c) (d:=d) k;obtain⟨e1,e2⟩:=b.one (c:=c) (d:=d);exact⟨by simp only[zql,a,e1],e2⟩
theorem Rd.like.batch {s t:Rd}{c d:Bool}(h:s.like t):(batchP c s).1=(batchP d t).1/\(batchP c s).2.like (batchP d t).2:=by
 obtain⟨n1,n2⟩:=h.num (c:=c) (d:=d) (m:=4);obtain⟨p1,p2⟩:=n2.items (c:=c) (d:=d) (zsI c 4 s).1;have z:=p2.fail (c:=c) (d:=d) (x:=zD (zql c (zsI c 4 s).1 (zsI c 4 s).2).1);unfold batchP;simp only;rw[← n1,← p1,← z.1];exact⟨rfl,z⟩
abbrev PQ:=List (Option zp)
structure zjV (q:PQ):Prop where
 len:q.length=8
 at_:∀(i:Nat) x,q[i]? = some (some x)->x.client=i/\zD [x]=0/\okO x.op
def zfA (q:PQ):List zp:=q.filterMap id
def ofF (q:PQ) (c:Int):Option zp:=if 0<=c/\c<8 then(q[c.toNat]?).join else none
def mayPut:Option zp->Int->Bool
 | some y,t=>decide (y.time<t)
 | none,_=>true
def mayDone:Option zp->Int->Bool
 | some y,t=>decide (y.time<=t)
 | none,_=>false
def canPut (q:PQ) (x:zp):Bool:=decide (zD [x]=0)&&mayPut (ofF q x.client) x.time
def putQ (q:PQ) (x:zp):PQ:=if canPut q x=true then q.set x.client.toNat (some x)else q
def canDone (q:PQ) (c t:Int):Bool:=mayDone (ofF q c) t
def doneQ (q:PQ) (c t:Int):PQ:=if canDone q c t=true then q.set c.toNat none else q
theorem one_ok {x:zp}(h:zD [x]=0):0<=x.client/\x.client<8/\1<=x.time/\x.time<=9007199254740992/\zaN zef x.op=0/\zT x=0/\zx x.key x.dig=0:=by
 simp only[zD,List.length_singleton,znW,zyI]at h;have h1:¬(1>4):=by omega
 rw[if_neg h1]at h;by_cases hr:zT x=0
 ·by_cases hs:zx x.key x.dig=0
  ·unfold zT at hr;split at hr
   ·cases hr
   ·rename_i hc;have hr':zT x=0:=by unfold zT;rw[if_neg hc];exact hr
    exact⟨by omega,by omega,by omega,by omega,hr,hr',hs⟩
  ·exfalso;simp[hr,hs]at h
 ·exfalso;simp[hr]at h
theorem ofF_some {q:PQ}{c:Int}{x:zp}(h:ofF q c=some x):0<=c/\c<8/\q[c.toNat]? = some (some x):=by
 unfold ofF at h;split at h
 ·rename_i hc;refine⟨hc.1,hc.2,?_⟩;cases hq:q[c.toNat]? with
  | none=>rw[hq]at h;cases h
  | some o=>rw[hq]at h;simp at h;rw[h]
 ·cases h
theorem zjV.get {q:PQ}(hq:zjV q){c:Int}(h0:0<=c)(h8:c<8):q[c.toNat]? = some (ofF q c):=by
 have hl:=hq.len;have:q[c.toNat]? = some (q[c.toNat]'(by omega)):=List.getElem?_eq_getElem _;unfold ofF;rw[if_pos ⟨h0,h8⟩,this];rfl
theorem zjV.put {q:PQ}(hq:zjV q){x:zp}(hx:okO x.op):zjV (putQ q x):=by
 unfold putQ;split
 ·rename_i hc;simp only[canPut,Bool.and_eq_true,decide_eq_true_eq]at hc;obtain⟨h0,h8,_⟩:=one_ok hc.1;refine⟨by simp[hq.len],fun i y h=>?_⟩;rw[List.getElem?_set]at h;split at h
  ·rename_i e;split at h
   ·simp at h;subst h;exact⟨by omega,hc.1,hx⟩
   ·cases h
  ·exact hq.at_ i y h
 ·exact hq
theorem zjV.done {q:PQ}(hq:zjV q){c t:Int}:zjV (doneQ q c t):=by
 unfold doneQ;split
 ·refine⟨by simp[hq.len],fun i y h=>?_⟩;rw[List.getElem?_set]at h;split at h
  ·split at h
   ·simp at h
   ·cases h
  ·exact hq.at_ i y h
 ·exact hq
theorem zrC {q:PQ}{x:zp}(h:x∈zfA q):∃i:Nat,q[i]? = some (some x):=by
 simp only[zfA,List.mem_filterMap,id_eq,exists_eq_right]at h;exact List.mem_iff_getElem?.1 h
def zhg (f:Int):Int:=if f<1∨f>4 then 120 else 0
def zgu (n f:Int):Int:=if f<1∨f>4 then 0 else n*f+1
abbrev ents (l:List (Int × AV)):List (AV × AV):=l.map fun e=>(.d (.int .i64 e.1),e.2)
structure zeb where
 name:List UInt8
 base:Int
 recs:List (List UInt8)
 groups:List (List UInt8 × Int)
structure ztJ where
 l:List zeb
 last:List (Int × Int × Int)
def ztU:ztJ:=⟨[],List.replicate 8 (0,0,0)⟩
abbrev groupD (g:List UInt8 × Int):List D:=[.str g.1,.int .i64 g.2]
abbrev groupsE (l:List (List UInt8 × Int)):List (List D):=l.map groupD
def zeb.next (x:zeb):Int:=x.base+x.recs.length
def atF (n:List UInt8):List zeb->Nat->Option Nat
 | [],_=>none
 | x::r,i=>if (x.name==n)=true then some i else atF n r (i+1)
def lessN (n:List UInt8):List zeb->Nat
 | []=>0
 | x::r=>if Op.bytesLess x.name n=true then lessN n r+1 else 0
def lessG (n:List UInt8):List (List UInt8 × Int)->Nat
 | []=>0
 | g::r=>if Op.bytesLess g.1 n=true then lessG n r+1 else 0
def hadG (n:List UInt8) (l:List (List UInt8 × Int)):Option Int:=match l[lessG n l]? with
 | some g=>if (g.1==n)=true then some g.2 else none
 | none=>none
abbrev topD (x:zeb):List D:=[.str x.name,.int .i64 x.base,.slice (zdQ x.recs),.slice (groupsE x.groups)]
abbrev topsE (l:List zeb):List (List D):=l.map topD
abbrev zcG (es:List (List D)):List AV:=es.flatten.map .d
theorem zoB {sz:Nat}:∀ {es:List (List D)},(∀e∈es,e.length=sz)->(zcG es).length=es.length*sz
 | [],_=>by simp[zcG]
 | e::es,h=>by
  have h1:=zoB (es:=es) fun x hx=>h x (List.mem_cons_of_mem _ hx);have h2:=h e List.mem_cons_self;simp only[zcG,List.length_map]at h1;simp only[zcG,List.flatten_cons,List.map_append,List.length_append,List.length_map,h1,h2,List.length_cons,Nat.add_mul,Nat.one_mul];omega
theorem zyE {sz:Nat}:∀ {es:List (List D)},(∀e∈es,e.length=sz)->∀k,(zcG es).drop (k*sz)=zcG (es.drop k)
 | [],_,k=>by simp[zcG]
 | e::es,h,k=>by
  cases k with
  | zero=>simp[zcG]
  | succ k=>
   have h1:=zyE (es:=es) (fun x hx=>h x (List.mem_cons_of_mem _ hx)) k
   have h2:=h e List.mem_cons_self
   have e1:zcG (e::es)=e.map .d++zcG es:=by simp[zcG]
   rw[e1,List.drop_succ_cons,← h1,List.drop_append,List.length_map,h2,show(k+1)*sz-sz=k*sz by rw[Nat.add_mul];omega,List.drop_of_length_le (by rw[List.length_map,h2,Nat.add_mul];omega)]
   rfl
theorem zwg {sz:Nat}{es:List (List D)}(h:∀e∈es,e.length=sz){k:Nat}{e:List D}(he:es[k]? = some e):((zcG es).drop (k*sz)).take sz=e.map .d:=by
 have hk:k<es.length:=(List.getElem?_eq_some_iff.1 he).1;have hl:=h e (List.mem_of_getElem? he);rw[zyE h,List.drop_eq_getElem_cons hk,(List.getElem?_eq_some_iff.1 he).2];simp only[zcG,List.flatten_cons,List.map_append];rw[List.take_append_of_le_length (by rw[List.length_map,hl];exact Nat.le_refl _),List.take_of_length_le (by rw[List.length_map,hl];exact Nat.le_refl _)]
theorem ztl {sz:Nat}{es:List (List D)}(h:∀e∈es,e.length=sz){k i:Nat}{e:List D}(he:es[k]? = some e)(hi:i<sz):(zcG es)[k*sz+i]?=(e[i]?).map .d:=by
 have h1:=zwg h he;have h2:(((zcG es).drop (k*sz)).take sz)[i]?=(zcG es)[k*sz+i]?:=by rw[List.getElem?_take,if_pos hi,List.getElem?_drop]
 rw[← h2,h1,List.getElem?_map]
structure TopI (x:zeb):Prop where
 base:0<=x.base
 next:x.next<=9007199254740992
 recs:x.recs.length<=64
 groups:x.groups.length<=8
 name:x.name.length<=64
 each:∀r∈x.recs,r.length<=64
 gs:∀g∈x.groups,g.1.length<=64/\0<=g.2/\g.2<=9007199254740992
structure TopsI (T:ztJ):Prop where
 len:T.l.length<=8
 tops:∀x∈T.l,TopI x
theorem TopsI.none:TopsI ztU:=⟨by simp[ztU],by simp[ztU]⟩
def groupB (g:List UInt8 × Int):List UInt8:=zkf g.1++zbx g.2.toNat
def groupsB (l:List (List UInt8 × Int)):List UInt8:=(l.map groupB).flatten
def topB (x:zeb):List UInt8:=zkf x.name++(zbx x.base.toNat++(zbx x.recs.length++(zrN x.recs++(zbx x.groups.length++groupsB x.groups))))
def topsBl (l:List zeb):List UInt8:=(l.map topB).flatten
def lastB (a:Int × Int × Int):List UInt8:=zbx a.1.toNat++(zbx a.2.1.toNat++zbx a.2.2.toNat)
def lastsB (l:List (Int × Int × Int)):List UInt8:=(l.map lastB).flatten
def topsB (T:ztJ):List UInt8:=zbx T.l.length++(topsBl T.l++lastsB T.last)
def LastI (l:List (Int × Int × Int)):Prop:=∀a∈l,(0<=a.1/\a.1<=9007199254740992)/\(0<=a.2.1/\a.2.1<=9007199254740992)/\(0<=a.2.2/\a.2.2<=9007199254740992)
def PlI (p:znx):Prop:=0<=p.offset/\p.offset<=9007199254740992/\p.topic.length<=64/\p.rec_.length<=64
end Go.AW
