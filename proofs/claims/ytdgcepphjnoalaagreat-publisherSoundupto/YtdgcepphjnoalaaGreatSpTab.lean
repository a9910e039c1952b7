/- Byte strings and their numbers; what was signed. No program in sight. -/
import Derived.Test.YtdgcepphjnoalaaGreatAwLoop
set_option linter.all false
namespace Go.AW
def ziN:List (List UInt8)->List UInt8->Nat->Option Nat
 | [],_,_=>none
 | x::r,b,i=>if b=x then some i else ziN r b (i+1)
def zge (l:List (List UInt8)) (b:List UInt8):Option Nat:=ziN l b 0
def zow:Option Nat->Int
 | some i=>((i+1:Nat):Int)
 | none=>0
def zgw (l:List (List UInt8)) (b:List UInt8):Int:=match zge l b with
 | some i=>((i+1:Nat):Int)
 | none=>if l.length≥1048576 then 0 else((l.length+1:Nat):Int)
def zfb (l:List (List UInt8)) (b:List UInt8):List (List UInt8):=match zge l b with
 | some _=>l
 | none=>if l.length≥1048576 then l else l++[b]
abbrev zvJ (l:List (List UInt8)):List (List D):=l.map fun b=>[D.slice (bcs b)]
def zxK:List (List UInt8)->Nat->List (AV × AV)
 | [],_=>[]
 | x::r,i=>(.d (.str x),.d (.int .i64 ((i+1:Nat):Int)))::zxK r (i+1)
def tabM (l:List (List UInt8)):List (AV × AV):=zxK l 0
theorem zyF (b:List UInt8):∀(l:List (List UInt8)) (i:Nat),zoD .str (.d (.str b)) (zxK l i) i=some ((ziN l b i).map fun k=>(k,.d (.int .i64 ((k+1:Nat):Int))))
 | [],_=>rfl
 | x::r,i=>by
  simp only[zxK,zoD,ziu,ziN];by_cases h:b=x
  ·simp[h]
  ·have:(b==x)=false:=by simpa using h
   simp only[this,if_neg h];exact zyF b r (i+1)
theorem mfind_tab (l:List (List UInt8))(b:List UInt8):zoD .str (.d (.str b)) (tabM l) 0=some ((zge l b).map fun k=>(k,.d (.int .i64 ((k+1:Nat):Int)))):=zyF b l 0
theorem tabMA_add (x:List UInt8):∀(l:List (List UInt8)) (i:Nat),zxK (l++[x]) i=zxK l i++[(.d (.str x),.d (.int .i64 ((i+l.length+1:Nat):Int)))]
 | [],i=>by simp[zxK]
 | y::r,i=>by
  simp only[List.cons_append,zxK,tabMA_add x r (i+1),List.length_cons];rw[show i+1+r.length+1=i+(r.length+1)+1 by omega]
theorem tabM_add (l:List (List UInt8))(x:List UInt8):tabM l++[(.d (.str x),.d (.int .i64 ((l.length+1:Nat):Int)))]=tabM (l++[x]):=by
 unfold tabM;rw[tabMA_add];simp
theorem lookAt_lt {b:List UInt8}:∀ {l:List (List UInt8)} {i k:Nat},ziN l b i=some k->i<=k/\k<i+l.length/\l[k-i]? = some b
 | [],_,_,h=>by simp[ziN]at h
 | x::r,i,k,h=>by
  simp only[ziN]at h;split at h
  ·rename_i e;cases h;subst e;simp
  ·obtain⟨h1,h2,h3⟩:=lookAt_lt h;refine⟨by omega,by simp;omega,?_⟩;obtain⟨m,hm⟩:∃m,k-i=m+1:=⟨k-i-1,by omega⟩;rw[hm,List.getElem?_cons_succ];rw[show k-(i+1)=m by omega]at h3;exact h3
theorem zpJ {l:List (List UInt8)}{b:List UInt8}{k:Nat}(h:zge l b=some k):k<l.length/\l[k]? = some b:=by
 have:=lookAt_lt h;simpa using this.2
theorem zmu {b:List UInt8}{m:List (List UInt8)}:∀ {l:List (List UInt8)} {i:Nat},ziN (l++m) b i=match ziN l b i with|some k=>some k|none=>ziN m b (i+l.length)
 | [],i=>by simp[ziN]
 | x::r,i=>by
  simp only[List.cons_append,ziN,List.length_cons];split
  ·rfl
  ·rw[zmu,show i+1+r.length=i+(r.length+1) by omega]
theorem look_next {l:List (List UInt8)}{b x:List UInt8}{k:Nat}(h:l[k]? = some x)(h0:zge (l.take k) b=none)(hx:(x==b)=false):zge (l.take (k+1)) b=none:=by
 have e:¬b=x:=fun e=>by subst e;simp at hx
 rw[List.take_add_one,h];unfold zge at h0 ⊢;rw[zmu,h0];simp[ziN,e]
theorem look_hit {l:List (List UInt8)}{b x:List UInt8}{k:Nat}(h:l[k]? = some x)(h0:zge (l.take k) b=none)(hx:(x==b)=true):zge l b=some k:=by
 have e:x=b:=by simpa using hx
 subst e;obtain⟨hk,hh⟩:=List.getElem?_eq_some_iff.1 h;have e2:l=l.take k++(x::l.drop (k+1)):=by rw[← hh,List.getElem_cons_drop,List.take_append_drop]
 rw[e2];unfold zge at h0 ⊢;rw[zmu,h0];simp[ziN];omega
theorem zyJ {l:List (List UInt8)}{b:List UInt8}(h:b∉l):zge l b=none:=by
 cases e:zge l b with
 | none=>rfl
 | some k=>exact absurd (List.mem_of_getElem? (zpJ e).2) h
theorem zAg {l:List (List UInt8)}{b:List UInt8}(h:zge l b=none):b∉l:=by
 have key:∀(l:List (List UInt8)) (i:Nat),ziN l b i=none->b∉l:=by
  intro l;induction l with
  | nil=>intro i _;simp
  | cons x r ih=>
   intro i h
   simp only[ziN]at h
   split at h
   ·cases h
   ·rename_i hne
    simp only[List.mem_cons,not_or]
    exact⟨hne,ih _ h⟩
 exact key l 0 h
theorem look_new (l:List (List UInt8))(b:List UInt8)(h:zge l b=none):zge (l++[b]) b=some l.length:=by
 unfold zge at h ⊢;rw[zmu,h];simp[ziN]
theorem look_more {l m:List (List UInt8)}{b:List UInt8}{k:Nat}(h:zge l b=some k):zge (l++m) b=some k:=by
 unfold zge at h ⊢;rw[zmu,h]
abbrev zug (l:List zK):List (List D):=zat l
def zxG (l:List zK):List (AV × AV):=l.map fun s=>(.agg [.d (.int .i64 s.key),.d (.int .i64 s.dig)],.d (.bool true))
def ledAt:List zK->zK->Nat->Option Nat
 | [],_,_=>none
 | x::r,s,i=>if s=x then some i else ledAt r s (i+1)
theorem sign_keyEq (s x:zK):ziu (.ints 2) (.agg [.d (.int .i64 s.key),.d (.int .i64 s.dig)]) (.agg [.d (.int .i64 x.key),.d (.int .i64 x.dig)])=some (decide (s=x)):=by
 have e:s=x↔s.key=x.key/\s.dig=x.dig:=by cases s;cases x;simp
 by_cases h1:s.key=x.key
 ·by_cases h2:s.dig=x.dig
  ·rw[decide_eq_true (e.2 ⟨h1,h2⟩)];simp[ziu,zce,h1,h2]
  ·rw[decide_eq_false (fun h=>h2 (e.1 h).2)];have h2':(s.dig==x.dig)=false:=by simpa using h2
   simp[ziu,zce,h1,h2']
 ·rw[decide_eq_false (fun h=>h1 (e.1 h).1)];have h1':(s.key==x.key)=false:=by simpa using h1
  simp[ziu,zce,h1'];try exact fun h=>absurd h h1
theorem ztq (s:zK):∀(l:List zK) (i:Nat),zoD (.ints 2) (.agg [.d (.int .i64 s.key),.d (.int .i64 s.dig)]) (zxG l) i=some ((ledAt l s i).map fun k=>(k,.d (.bool true)))
 | [],_=>rfl
 | x::r,i=>by
  have ih:=ztq s r (i+1);simp only[zxG]at ih;simp only[zxG,List.map_cons,zoD,sign_keyEq,ledAt];by_cases h:s=x
  ·simp[h]
  ·rw[decide_eq_false h,if_neg h];exact ih
theorem zts {s:zK}:∀ {l:List zK} {i:Nat},ledAt l s i=none↔s∉l
 | [],i=>by simp[ledAt]
 | x::r,i=>by
  simp only[ledAt,List.mem_cons,not_or];by_cases h:s=x
  ·simp[h]
  ·rw[if_neg h,zts];simp[h]
theorem zsd {l:List zK}{s:zK}(h:s∈l):∃k,zoD (.ints 2) (.agg [.d (.int .i64 s.key),.d (.int .i64 s.dig)]) (zxG l) 0=some (some (k,.d (.bool true))):=by
 rw[ztq];cases e:ledAt l s 0 with
 | none=>exact absurd h (zts.1 e)
 | some k=>exact⟨k,rfl⟩
theorem zuf {l:List zK}{s:zK}(h:s∉l):zoD (.ints 2) (.agg [.d (.int .i64 s.key),.d (.int .i64 s.dig)]) (zxG l) 0=some none:=by
 rw[ztq,zts.2 h];rfl
theorem ledM_add (l:List zK)(s:zK):zxG l++[(.agg [.d (.int .i64 s.key),.d (.int .i64 s.dig)],.d (.bool true))]=zxG (l++[s]):=by simp[zxG]
def zvP (l:List zK) (s:zK):List zK:=if s∈l then l else l++[s]
def zfx (k d:Int):Int:=if k<0∨k≥21 then 20 else if d<1 then 1 else 0
theorem zeX {n:Nat}{σ' τ:List AObj}{K:KT}{l:List AV}(hn:σ'.length=n)(h1:Low n (dmT (zck l)))(hl:zhm n σ')(h:K (dmT (zck l)) σ'):Ends n K (some l) (σ'++τ):=by
 subst hn;unfold Ends;rw[zmZ];exact⟨h1,hl,h⟩
theorem zkf {σ τ:List AObj}{id t:Nat}{es:List (List D)}{X:AObj}{K:KT}{l:List AV}(hT:σ[id]? = some X)(h1:Low σ.length (dmT (zck l)))(hl:zhm σ.length σ)
  (h:K (dmT (zck l)) (σ.set id (.box [.d (.slice es)]))):EndsW σ.length K (some l) (σ.set id (.box [.own t es])++τ):=by
 refine⟨_,.dataB id 0 [.own t es] (.own t es) es (zi (zdo hT)) rfl rfl (.refl _ _),?_⟩;rw[zdg (zdo hT),List.set_set];refine zeK h1 hl ?_ h;intro c hc;simp only[List.set_cons_zero,List.mem_cons,List.not_mem_nil,or_false]at hc;subst hc;exact .d _
def numR (most:Nat):Nat->Nat->List UInt8->Except Int (Nat × List UInt8)
 | _,_,[]=>.error 10
 | i,acc,c::r=>
  if i=9/\c.toNat>1 then .error 11
  else if c.toNat<128 then(if (i>0/\c.toNat=0)∨acc+c.toNat*128 ^ i>most then .error 11 else .ok (acc+c.toNat*128 ^ i,r))
  else numR most (i+1) (acc+c.toNat % 128*128 ^ i) r
theorem numR_put (most:Nat):∀(m i acc:Nat) (rest:List UInt8),i<=9->m<128 ^ (9-i)*2->(i>0->m≠0)->acc+m*128 ^ i<=most->numR most i acc (zbt m++rest)=.ok (acc+m*128 ^ i,rest):=by
 intro m;induction m using Nat.strongRecOn with
 | ind m ih=>
  intro i acc rest hi hm h0 hle
  by_cases hs:m<128
  ·have e:(UInt8.ofNat m).toNat=m:=by simp;omega
   rw[zmn hs]
   simp only[List.cons_append,List.nil_append,numR,e]
   rw[if_neg (by rintro⟨rfl,h⟩;simp at hm;omega),if_pos hs,if_neg (by rintro(⟨h1,h2⟩|h);exact h0 h1 h2;omega)]
  ·have e:(UInt8.ofNat (m % 128+128)).toNat=m % 128+128:=by simp;omega
   have hi9:i<9:=by
    rcases Nat.lt_or_ge i 9 with h|h
    ·exact h
    ·have:i=9:=by omega
     subst this;simp at hm;omega
   rw[zvq hs]
   simp only[List.cons_append,numR,e]
   rw[if_neg (by omega),if_neg (by omega)]
   have hp:128 ^ (9-i)=128 ^ (9-(i+1))*128:=by rw[show 9-i=(9-(i+1))+1 by omega,Nat.pow_succ]
   have hpi:128 ^ (i+1)=128 ^ i*128:=Nat.pow_succ ..
   have hmod:(m % 128+128) % 128=m % 128:=by omega
   have hsum:acc+m % 128*128 ^ i+m / 128*128 ^ (i+1)=acc+m*128 ^ i:=by
    rw[hpi];have:m*128 ^ i=(m % 128+m / 128*128)*128 ^ i:=by rw[show m % 128+m / 128*128=m by omega]
    rw[this,Nat.add_mul,Nat.mul_comm (128 ^ i) 128,← Nat.mul_assoc,Nat.add_assoc]
   rw[hmod,ih (m / 128) (by omega) (i+1) _ rest (by omega) (by rw[hp]at hm;rw[Nat.div_lt_iff_lt_mul (by omega)];rw[Nat.mul_right_comm]at hm;exact hm) (by omega) (by rw[hsum];exact hle),hsum]
theorem zrX {m n:Nat}{s t:List UInt8}(hm:m<18446744073709551616)(hn:n<18446744073709551616)(h:zbt m++s=zbt n++t):m=n/\s=t:=by
 have a:=numR_put 18446744073709551616 m 0 0 s (by omega) (by simp;omega) (by omega) (by simp;omega);have b:=numR_put 18446744073709551616 n 0 0 t (by omega) (by simp;omega) (by omega) (by simp;omega);rw[h,b]at a;simp only[Except.ok.injEq,Prod.mk.injEq,Nat.pow_zero,Nat.mul_one,Nat.zero_add]at a;exact⟨a.1.symm,a.2.symm⟩
def zlT (x:zr):List UInt8:=zbt x.client.toNat++(zbt x.time.toNat++opB x.op)
def zbU (x:zr):List UInt8:=if zT x=0 then zlT x else []
def zgp (k d:Int):List UInt8:=zbt k.toNat++zbt d.toNat
def zcu (k d:Int):List UInt8:=if zx k d=0 then zgp k d else []
def oneB (x:zr):List UInt8:=zkk (zlT x)++zgp x.key x.dig
def zdJ (l:List zr):List UInt8:=(l.map oneB).flatten
def zhj (l:List zr):List UInt8:=zbt l.length++zdJ l
def zdI (l:List zr):List UInt8:=if zD l=0 then zhj l else []
theorem req_ok {x:zr}(h:zT x=0):0<=x.client/\x.client<8/\1<=x.time/\x.time<=9007199254740992/\zaM zdY x.op=0:=by
 unfold zT at h;split at h
 ·cases h
 ·refine⟨by omega,by omega,by omega,by omega,h⟩
theorem sign_ok {k d:Int}(h:zx k d=0):0<=k/\k<21/\1<=d/\d<=9007199254740992:=by
 unfold zx at h;split at h
 ·cases h
 ·omega
theorem errs_mem {l:List zr}(h:zoa l=0):∀x∈l,zyU x=0:=by
 induction l with
 | nil=>simp
 | cons s r ih=>
  simp only[zoa]at h
  split at h
  ·rename_i hs;exact absurd h hs
  ·rename_i hs
   intro x hx
   rcases List.mem_cons.1 hx with rfl|hx
   ·simpa using hs
   ·exact ih h x hx
theorem zjX {l:List zr}(h:zD l=0):l.length<=4/\(∀x∈l,zT x=0/\zx x.key x.dig=0)/\l.Pairwise ndup:=by
 unfold zD at h;split at h
 ·cases h
 ·split at h
  ·rename_i h1;exact absurd h h1
  ·split at h
   ·rename_i h0 h1 h2;refine⟨by omega,fun x hx=>?_,h2⟩;have:=errs_mem (by simpa using h1) x hx;unfold zyU at this;split at this
    ·rename_i h3;exact absurd this h3
    ·rename_i h3;exact⟨by simpa using h3,this⟩
   ·cases h
theorem opB_len {o:TOp}(h:zmW o<=268435456)(hc:zaM zdY o=0):(opB o).length<=zmW o+60:=by
 obtain⟨k0,k4,o0,o1,_⟩:=zvv hc;have hr:=znb o.recs;have hrb:=zlU o.recs (by unfold zmW at h;omega) o.recs.length;rw[List.take_length]at hrb;unfold zmW at h ⊢;have n1:=zj (n:=o.kind.toNat) (by omega);have n2:=zj (n:=o.topic.length) (by omega);have n3:=zj (n:=o.group.length) (by omega);have n4:=zj (n:=o.offset.toNat) (by omega);have n5:=zj (n:=o.recs.length) (by omega);have hk:o.kind=0∨o.kind=1∨o.kind=2∨o.kind=3∨o.kind=4:=by omega
 rcases hk with hk|hk|hk|hk|hk
 ·rw[opB_0 hk];omega
 ·rw[opB_1 hk];simp only[List.length_append];omega
 ·rw[opB_2 hk];simp only[List.length_append];omega
 ·rw[opB_3 hk];simp only[List.length_append];omega
 ·rw[opB_4 hk];simp only[List.length_append];omega
theorem zpy {x:zr}(h:zmW x.op<=268435456)(hc:zT x=0):(zlT x).length<=zmW x.op+80:=by
 obtain⟨c0,c8,t1,t2,ho⟩:=req_ok hc;have:=opB_len h ho;have n1:=zj (n:=x.client.toNat) (by omega);have n2:=zj (n:=x.time.toNat) (by omega);simp only[zlT,List.length_append];omega
theorem zgz {k d:Int}(h:zx k d=0):(zgp k d).length<=20:=by
 obtain⟨k0,k1,d0,d1⟩:=sign_ok h;have n1:=zj (n:=k.toNat) (by omega);have n2:=zj (n:=d.toNat) (by omega);simp only[zgp,List.length_append];omega
theorem oneB_len {x:zr}(h:zmW x.op<=20971520)(h1:zT x=0)(h2:zx x.key x.dig=0):(oneB x).length<=20971700:=by
 have a:=zpy (by omega) h1;have b:=zgz h2;have c:=zdh (x:=zlT x) (by omega);simp only[oneB,List.length_append];omega
theorem zxd {l:List zr}(h:∀x∈l,zmW x.op<=20971520)(hc:zD l=0)(k:Nat):(zdJ (l.take k)).length<=83886800:=by
 obtain⟨h4,hm,_⟩:=zjX hc;have key:∀(m:List zr),(∀x∈m,x∈l)->(zdJ m).length<=m.length*20971700:=by
  intro m;induction m with
  | nil=>intro _;simp[zdJ]
  | cons x m ih=>
   intro hsub
   have h1:=ih fun y hy=>hsub y (by simp[hy])
   have hx:=hsub x (by simp)
   have h2:=oneB_len (h x hx) (hm x hx).1 (hm x hx).2
   simp only[zdJ,List.map_cons,List.flatten_cons,List.length_append,List.length_cons]at h1 ⊢
   omega
 have:=key (l.take k) fun x hx=>List.mem_of_mem_take hx;have h5:(l.take k).length<=4:=by rw[List.length_take];omega
 have h6:(l.take k).length*20971700<=4*20971700:=Nat.mul_le_mul_right _ h5;omega
theorem zoT {l:List zr}{k:Nat}{x:zr}(h:l[k]? = some x):zdJ (l.take (k+1))=zdJ (l.take k)++oneB x:=by
 rw[List.take_add_one,h];simp[zdJ]
theorem zuc {x:zr}(h:zmW x.op<=20971520):(zbU x).length<=20971600:=by
 unfold zbU;split
 ·rename_i hc;have:=zpy (by omega) hc;omega
 ·simp
abbrev zgH (l:List Int):List (List D):=l.map fun t=>[D.int .i64 t]
def zvZ (x:Int):Bool:=decide (0<=x/\x<=9007199254740992)
def mayV (a b c d:Int):Bool:=zvZ a&&(zvZ b&&(zvZ c&&zvZ d))
def zS (l:List Int):List UInt8:=(l.map fun x=>zbt x.toNat).flatten
def zrI (a b c d:Int):List UInt8:=4::zS [a,b,c,d]
theorem zvY {x:Int}:zvZ x=true↔0<=x/\x<=9007199254740992:=by simp[zvZ]
theorem zpB {l:List Int}{k:Nat}{x:Int}(h:l[k]? = some x):zS (l.take (k+1))=zS (l.take k)++zbt x.toNat:=by
 rw[List.take_add_one,h];simp[zS]
theorem zov {l:List Int}(h:∀x∈l,x<9223372036854775808):(zS l).length<=l.length*10:=by
 induction l with
 | nil=>simp[zS]
 | cons x l ih=>
  have h1:=h x (by simp)
  have h2:=zj (n:=x.toNat) (by omega)
  have h3:=ih fun y hy=>h y (by simp[hy])
  simp only[zS,List.map_cons,List.flatten_cons,List.length_append,List.length_cons]at h3 ⊢
  omega
theorem mayV_all (a b c d:Int):mayV a b c d=[a,b,c,d].all zvZ:=by simp[mayV]
def zhp (L:List (List UInt8)) (G:List zK) (s:zK) (key:Int) (b:List UInt8):Bool:=match zge L b with
 | some i=>decide (s.key=key/\s.dig=((i+1:Nat):Int))&&decide (s∈G)
 | none=>false
structure zsU where
 seq:Int
 prev:Int
 batch:Int
 root:Int
 state:Int
deriving DecidableEq
def hdrL (h:zsU):List Int:=[h.seq,h.prev,h.batch,h.root,h.state]
abbrev zsi (h:zsU):List D:=[.int .i64 h.seq,.int .i64 h.prev,.int .i64 h.batch,.int .i64 h.root,.int .i64 h.state]
abbrev hdrA (h:zsU):AV:=.agg [.d (.int .i64 h.seq),.d (.int .i64 h.prev),.d (.int .i64 h.batch),.d (.int .i64 h.root),.d (.int .i64 h.state)]
abbrev zmv (l:List zsU):List (List D):=l.map zsi
def hdrOk (h:zsU):Bool:=(hdrL h).all zvZ
def hdrB (h:zsU):List UInt8:=3::zS (hdrL h)
structure znA where
 topic:List UInt8
 offset:Int
 rec_:List UInt8
def placedB (p:znA):List UInt8:=zkk p.topic++(zbt p.offset.toNat++zkk p.rec_)
def zax:List Int->Int
 | []=>0
 | e::r=>if e≠0 then e else zax r
theorem zeC (a b:List Int):zax (a++b)=if zax a≠0 then zax a else zax b:=by
 induction a with
 | nil=>simp[zax]
 | cons e r ih=>
  simp only[List.cons_append,zax,ih]
  by_cases h:e=0
  ·simp[h]
  ·simp[h]
theorem zgI {a b:List Int}(h:zax a=0):zax (a++b)=zax b:=by rw[zeC,if_neg (by simpa using h)]
theorem zhH {a b:List Int}(h:zax a≠0):zax (a++b)=zax a:=by rw[zeC,if_pos h]
def znX (e x:Int):Int:=if e≠0 then e else x
theorem thn_fst (e:Int)(l:List Int):znX e (zax l)=zax (e::l):=rfl
def inE (n lo hi:Int):Int:=if n<lo∨n>hi then 100 else 0
def zeP (n:Int):Int:=inE n 0 9007199254740992
def zkl (n:Int):Int:=inE n 1 9007199254740992
def zkZ (s:List UInt8):Int:=if zdY s=true then 0 else 61
def zcn (l:List zK):List Int:=inE l.length 0 13::l.map fun s=>zx s.key s.dig
def zeZ (c:zjt):Int:=if ((c.seq=0)≠(c.dig=0))∨(c.seq=0/\0<c.signs.length)then 100 else 0
def zby (c:zjt):List Int:=zeP c.seq::zeP c.dig::zeZ c::zcn c.signs
def zhg (h:zsU):List Int:=[zkl h.seq,zeP h.prev,zeP h.batch,zeP h.root,zeP h.state]
structure zfi where
 topic:List UInt8
 offset:Int
 rec_:List UInt8
 headers:List zsU
 index:Int
 count:Int
 path:List Int
 cert:zjt
abbrev proofD (p:zfi):List D:=[.str p.topic,.int .i64 p.offset,.slice (bcs p.rec_),.slice (zmv p.headers),.int .i64 p.index,.int .i64 p.count,.slice (zgH p.path),.int .i64 p.cert.seq,.int .i64 p.cert.dig,.slice (zat p.cert.signs)]
abbrev znD (p:zfi):AV:=.agg [.d (.str p.topic),.d (.int .i64 p.offset),.d (.slice (bcs p.rec_)),.d (.slice (zmv p.headers)),.d (.int .i64 p.index),.d (.int .i64 p.count),.d (.slice (zgH p.path)),.d (.int .i64 p.cert.seq),.d (.int .i64 p.cert.dig),.d (.slice (zat p.cert.signs))]
abbrev zhL (c:zjt):AV:=.agg [.d (.int .i64 c.seq),.d (.int .i64 c.dig),.d (.slice (zat c.signs))]
def zgB (p:zfi):List Int:=[zkZ p.topic,zeP p.offset,inE p.rec_.length 0 64,inE p.headers.length 0 64]
def zfF (p:zfi):List Int:=[zeP p.index,inE p.count 0 16]
def zhs (p:zfi):List Int:=[inE p.index 0 (p.count-1),inE p.path.length 0 8]
def zcS (p:zfi):List Int:=zgB p++((p.headers.map zhg).flatten++(zfF p++(zhs p++(p.path.map zeP++zby p.cert))))
def zmh (p:zfi):Int:=zax (zcS p)
theorem zkB {n lo hi:Int}(h:inE n lo hi=0):lo<=n/\n<=hi:=by
 unfold inE at h;split at h
 ·cases h
 ·omega
theorem zrW {n:Int}(h:zeP n=0):0<=n/\n<=9007199254740992:=zkB h
structure zbj where
 kind:Int
 src:Int
 view:Int
 seq:Int
 dig:Int
 client:Int
 time:Int
 rerr:Int
 roff:Int
 batch:List zr
 cert:zjt
 changes:List zbk
 entries:List zhQ
 state:List UInt8
 topic:List UInt8
 offset:Int
 proof:zfi
 key:Int
 sdig:Int
def zCert:zjt:=⟨0,0,[]⟩
def zte:zfi:=⟨[],0,[],[],0,0,[],zCert⟩
def zeq:zbj:=⟨0,0,0,0,0,0,0,0,0,[],zCert,[],[],[],[],0,zte,0,0⟩
abbrev msgL (m:zbj):List AV:=
 [.d (.int .i64 m.kind),.d (.int .i64 m.src),.d (.int .i64 m.view),.d (.int .i64 m.seq),.d (.int .i64 m.dig),.d (.int .i64 m.client),.d (.int .i64 m.time),.d (.int .i64 m.rerr),.d (.int .i64 m.roff),.d (.slice (zbA m.batch)),
  .d (.int .i64 m.cert.seq),.d (.int .i64 m.cert.dig),.d (.slice (zat m.cert.signs)),.d (.slice (zap m.changes)),.d (.slice (zbq m.entries)),.d (.slice (bcs m.state)),.d (.str m.topic),.d (.int .i64 m.offset),
  .d (.str m.proof.topic),.d (.int .i64 m.proof.offset),.d (.slice (bcs m.proof.rec_)),.d (.slice (zmv m.proof.headers)),.d (.int .i64 m.proof.index),.d (.int .i64 m.proof.count),.d (.slice (zgH m.proof.path)),.d (.int .i64 m.proof.cert.seq),.d (.int .i64 m.proof.cert.dig),.d (.slice (zat m.proof.cert.signs)),.d (.int .i64 m.key),.d (.int .i64 m.sdig)]
abbrev zgd (m:zbj):AV:=.agg (msgL m)
abbrev zla (m:zbj):AObj:=.box (msgL m)
def zjz (n:Int):Int:=inE n 0 12
def zdR (p:zjY):List Int:=zeP p.view::zkl p.seq::zkl p.dig::zx p.fkey p.fdig::(zcn p.signs++[zD p.batch])
def zeu (c:zbk):List Int:=zkl c.view::zjz c.src::(zby c.cert++(inE c.above.length 0 8::(c.above.map zdR).flatten))
def zaS (c:zbk):List Int:=zeu c++[zx c.key c.dig]
def zek (x:zhQ):List Int:=[zeP x.view,zkl x.seq,zD x.batch,zx x.key x.dig]
def zep (m:zbj):List Int:=[zjz m.src,zeP m.view,zkl m.seq,zkl m.dig]
def zfG (m:zbj):List Int:=zjz m.src::zkl m.view::inE m.changes.length 0 13::((m.changes.map zaS).flatten++(inE m.entries.length 0 8::(m.entries.map zek).flatten))
def zeO (k:Int):Bool:=decide (2<=k/\k<=9/\k≠7)
def zC (m:zbj):List Int:=
 if m.kind=1 then [inE m.batch.length 1 1,zD m.batch]
 else if m.kind=2 then zep m++[zD m.batch]
 else if m.kind=3∨m.kind=4 then zep m
 else if m.kind=5 then [zjz m.src,zeP m.view,inE m.client 0 7,zeP m.time,inE m.rerr 0 65536,zeP m.roff]
 else if m.kind=6 then [zjz m.src,zkl m.seq,zkl m.dig]
 else if m.kind=7 then inE m.changes.length 1 1::(m.changes.map fun c=>zaS c++[if c.src≠m.src∨c.view≠m.view then 100 else 0]).flatten
 else if m.kind=8 then zfG m
 else if m.kind=9 then [zjz m.src,zeP m.seq]
 else if m.kind=10 then zjz m.src::(zby m.cert++[inE m.state.length 0 262144])
 else if m.kind=11 then [inE m.client 0 7,zkZ m.topic,zeP m.offset]
 else if m.kind=12 then zjz m.src::zcS m.proof
 else [100]
def zab (m:zbj):List Int:=zC m++(if zeO m.kind=true then [zx m.key m.sdig]else [])
def zfB (m:zbj):zbj:=
 if m.kind=1 then{ zeq with kind:=m.kind,batch:=m.batch }
 else if m.kind=2 then{ zeq with kind:=m.kind,src:=m.src,view:=m.view,seq:=m.seq,dig:=m.dig,batch:=m.batch,key:=m.key,sdig:=m.sdig }
 else if m.kind=3∨m.kind=4 then{ zeq with kind:=m.kind,src:=m.src,view:=m.view,seq:=m.seq,dig:=m.dig,key:=m.key,sdig:=m.sdig }
 else if m.kind=5 then{ zeq with kind:=m.kind,src:=m.src,view:=m.view,client:=m.client,time:=m.time,rerr:=m.rerr,roff:=m.roff,key:=m.key,sdig:=m.sdig }
 else if m.kind=6 then{ zeq with kind:=m.kind,src:=m.src,seq:=m.seq,dig:=m.dig,key:=m.key,sdig:=m.sdig }
 else if m.kind=7 then{ zeq with kind:=m.kind,src:=m.src,view:=m.view,changes:=m.changes }
 else if m.kind=8 then{ zeq with kind:=m.kind,src:=m.src,view:=m.view,changes:=m.changes,entries:=m.entries,key:=m.key,sdig:=m.sdig }
 else if m.kind=9 then{ zeq with kind:=m.kind,src:=m.src,seq:=m.seq,key:=m.key,sdig:=m.sdig }
 else if m.kind=10 then{ zeq with kind:=m.kind,src:=m.src,cert:=m.cert,state:=m.state }
 else if m.kind=11 then{ zeq with kind:=m.kind,client:=m.client,topic:=m.topic,offset:=m.offset }
 else if m.kind=12 then{ zeq with kind:=m.kind,src:=m.src,proof:=m.proof }
 else{ zeq with kind:=m.kind,src:=m.src }
deriving instance DecidableEq for zfi
deriving instance DecidableEq for zbj
def zbJ (m:zbj):Int:=if zax (zab m)≠0 then zax (zab m)else if m=zfB m then 0 else 100
theorem zyY:∀ {f:Nat} {s:List UInt8} {n:Nat},zfh f s=some n->s.length<=4*n
 | 0,_,_,h=>by simp[zfh]at h
 | f+1,s,n,h=>by
  unfold zfh at h;split at h
  ·rename_i h0;simp[h0]
  ·split at h
   ·cases h
   ·simp only[Option.map_eq_some_iff]at h;obtain⟨k,hk,rfl⟩:=h;have h1:=zyY hk;have h2:=zmF s;simp only[List.length_drop]at h1;omega
theorem zyD {s:List UInt8}(h:zdY s=true):s.length<=64:=by
 unfold zdY ziL at h;simp only[decide_eq_true_eq]at h;split at h
 ·rename_i n hn;have:=zyY hn;split at h
  ·omega
  ·omega
 ·omega
theorem op_small {o:TOp}(h:zaM zdY o=0):zmW o<=500:=by
 obtain⟨k0,k4,o0,o1,ho⟩:=zvv h;unfold zaM at h;split at h
 ·cases h
 split at h
 ·cases h
 rename_i h1;split at h
 ·cases h
 rename_i h2;split at h
 ·cases h
 rename_i h3;have e1:o.topic=(zot o).topic:=congrArg _ ho;have e2:o.group=(zot o).group:=congrArg _ ho;have e3:o.recs=(zot o).recs:=congrArg _ ho;have hk:o.kind=0∨o.kind=1∨o.kind=2∨o.kind=3∨o.kind=4:=by omega
 have ht:o.kind≠0->o.topic.length<=64:=fun hk=>zyD (by simpa [hk] using h1);have hg:o.kind=3->o.group.length<=64:=fun hk=>zyD (by simpa [hk] using h2);have hr:o.kind=2->(o.recs.map fun r=>r.length+10).sum<=296:=by
  intro hk;simp only[hk,true_and,not_or,Int.not_lt]at h3;obtain⟨h4,h5,h6⟩:=h3;have h7:∀r∈o.recs,r.length<=64:=by
   intro r hr;simp only[List.any_eq_true,not_exists,not_and,decide_eq_true_eq]at h6;have:=h6 r hr;omega
  have key:∀l:List (List UInt8),(∀r∈l,r.length<=64)->(l.map fun r=>r.length+10).sum<=l.length*74:=by
   intro l;induction l with
   | nil=>simp
   | cons r l ih=>
    intro h
    have h8:=ih fun r hr=>h r (by simp[hr])
    have h9:=h r (by simp)
    simp only[List.map_cons,List.sum_cons,List.length_cons]
    omega
  have:=key o.recs h7;have:o.recs.length*74<=4*74:=Nat.mul_le_mul_right _ (by omega);omega
 unfold zmW;rcases hk with hk|hk|hk|hk|hk
 ·simp[zot,hk,noOp]at e1 e2 e3;simp[e1,e2,e3]
 ·simp[zot,hk,noOp]at e1 e2 e3;have:=ht (by omega);simp[e2,e3];omega
 ·simp[zot,hk,noOp]at e1 e2 e3;have:=ht (by omega);have:=hr hk;simp only[e2,List.length_nil];omega
 ·simp[zot,hk,noOp]at e1 e2 e3;have:=ht (by omega);have:=hg hk;simp[e3];omega
 ·simp[zot,hk,noOp]at e1 e2 e3;have:=ht (by omega);simp[e2,e3];omega
theorem zcy {α β:Type}{f:α->List β}{n:Nat}{l:List α}(h:∀x∈l,(f x).length<=n):((l.map f).flatten).length<=l.length*n:=by
 induction l with
 | nil=>simp
 | cons x l ih=>
  have h1:=ih fun y hy=>h y (by simp[hy])
  have h2:=h x (by simp)
  simp only[List.map_cons,List.flatten_cons,List.length_append,List.length_cons,Nat.add_mul,Nat.one_mul]
  omega
theorem zdH {l:List zr}(h:zD l=0):(∀x∈l,zmW x.op<=500)/\(zhj l).length<=4000:=by
 obtain⟨h4,hm,_⟩:=zjX h;have hz:∀x∈l,zmW x.op<=500:=fun x hx=>op_small (req_ok (hm x hx).1).2.2.2.2;refine⟨hz,?_⟩;have h1:∀x∈l,(oneB x).length<=700:=by
  intro x hx;have a:=zpy (Nat.le_trans (hz x hx) (by omega)) (hm x hx).1;have b:=zgz (hm x hx).2;have c:=zdh (x:=zlT x) (by have:=hz x hx;omega);have:=hz x hx;simp only[oneB,List.length_append];omega
 have h2:(zdJ l).length<=l.length*700:=zcy h1;have:l.length*700<=4*700:=Nat.mul_le_mul_right _ h4;have n1:=zj (n:=l.length) (by omega);simp only[zhj,List.length_append];omega
theorem fstE_mem {l:List Int}(h:zax l=0):∀e∈l,e=0:=by
 induction l with
 | nil=>simp
 | cons x l ih=>
  unfold zax at h
  split at h
  ·rename_i hx;exact absurd h hx
  ·rename_i hx
   intro e he
   rcases List.mem_cons.1 he with rfl|he
   ·simpa using hx
   ·exact ih h e he
def zvO (l:List zK):List UInt8:=zbt l.length++(l.map fun s=>zgp s.key s.dig).flatten
def zrz (c:zjt):List UInt8:=zbt c.seq.toNat++(zbt c.dig.toNat++zvO c.signs)
def zuI (p:zjY):List UInt8:=zbt p.view.toNat++(zbt p.seq.toNat++(zbt p.dig.toNat++(zgp p.fkey p.fdig++(zvO p.signs++zhj p.batch))))
def zvg (c:zbk):List UInt8:=zbt c.view.toNat++(zbt c.src.toNat++(zrz c.cert++(zbt c.above.length++(c.above.map zuI).flatten)))
def zfS (c:zbk):List UInt8:=zvg c++zgp c.key c.dig
def znE (x:zhQ):List UInt8:=zbt x.view.toNat++(zbt x.seq.toNat++(zhj x.batch++zgp x.key x.dig))
def newvB (m:zbj):List UInt8:=zbt m.src.toNat++(zbt m.view.toNat++(zbt m.changes.length++((m.changes.map zfS).flatten++(zbt m.entries.length++(m.entries.map znE).flatten))))
theorem zzR {l:List zK}(h:∀e∈zcn l,e=0):l.length<=13/\∀s∈l,zx s.key s.dig=0:=by
 refine⟨?_,fun s hs=>h _ (List.mem_cons_of_mem _ (List.mem_map_of_mem hs))⟩;have:=zkB (h _ List.mem_cons_self);omega
theorem zpv {l:List zK}(h:∀e∈zcn l,e=0):(zvO l).length<=270:=by
 obtain⟨h1,h2⟩:=zzR h;have h3:((l.map fun s=>zgp s.key s.dig).flatten).length<=l.length*20:=zcy fun s hs=>zgz (h2 s hs);have n1:=zj (n:=l.length) (by omega);have:l.length*20<=13*20:=Nat.mul_le_mul_right _ h1;simp only[zvO,List.length_append];omega
theorem cert_ok {c:zjt}(h:∀e∈zby c,e=0):(0<=c.seq/\c.seq<=9007199254740992)/\(0<=c.dig/\c.dig<=9007199254740992)/\∀e∈zcn c.signs,e=0:=
 ⟨zrW (h _ (by simp[zby])),zrW (h _ (by simp[zby])),fun e he=>h e (by simp only[zby,List.mem_cons];exact .inr (.inr (.inr he)))⟩
theorem zhK {c:zjt}(h:∀e∈zby c,e=0):(zrz c).length<=290:=by
 obtain⟨h1,h2,h3⟩:=cert_ok h;have:=zpv h3;have n1:=zj (n:=c.seq.toNat) (by omega);have n2:=zj (n:=c.dig.toNat) (by omega);simp only[zrz,List.length_append];omega
theorem posE_0 {n:Int}(h:zkl n=0):1<=n/\n<=9007199254740992:=zkB h
structure prepOkE (p:zjY):Prop where
 view:0<=p.view/\p.view<=9007199254740992
 seq:1<=p.seq/\p.seq<=9007199254740992
 dig:1<=p.dig/\p.dig<=9007199254740992
 first:zx p.fkey p.fdig=0
 signs:∀e∈zcn p.signs,e=0
 batch:zD p.batch=0
theorem prep_ok {p:zjY}(h:∀e∈zdR p,e=0):prepOkE p:=
 ⟨zrW (h _ (by simp[zdR])),posE_0 (h _ (by simp[zdR])),posE_0 (h _ (by simp[zdR])),h _ (by simp[zdR]),fun e he=>h e (by simp only[zdR,List.mem_cons,List.mem_append];exact .inr (.inr (.inr (.inr (.inl he))))),h _ (by simp[zdR])⟩
theorem zvV {p:zjY}(h:∀e∈zdR p,e=0):(zuI p).length<=4400:=by
 obtain⟨h1,h2,h3,h4,h5,h6⟩:=prep_ok h;have:=zpv h5;have:=zgz h4;have:=(zdH h6).2;have n1:=zj (n:=p.view.toNat) (by omega);have n2:=zj (n:=p.seq.toNat) (by omega);have n3:=zj (n:=p.dig.toNat) (by omega);simp only[zuI,List.length_append];omega
structure bodyOkE (c:zbk):Prop where
 view:1<=c.view/\c.view<=9007199254740992
 src:0<=c.src/\c.src<=12
 cert:∀e∈zby c.cert,e=0
 many:c.above.length<=8
 above:∀p∈c.above,∀e∈zdR p,e=0
theorem body_ok {c:zbk}(h:∀e∈zeu c,e=0):bodyOkE c:=by
 refine⟨posE_0 (h _ (by simp[zeu])),zkB (h (zjz c.src) (by simp[zeu])),fun e he=>h e (by simp[zeu,he]),?_,fun p hp e he=>h e ?_⟩
 ·have:=zkB (h (inE c.above.length 0 8) (by simp[zeu]));omega
 ·simp only[zeu,List.mem_cons,List.mem_append,List.mem_flatten,List.mem_map];exact .inr (.inr (.inr (.inr ⟨_,⟨p,hp,rfl⟩,he⟩)))
theorem zsE {c:zbk}(h:∀e∈zeu c,e=0):(zvg c).length<=36000:=by
 obtain⟨h1,h2,h3,h4,h5⟩:=body_ok h;have:=zhK h3;have h6:((c.above.map zuI).flatten).length<=c.above.length*4400:=zcy fun p hp=>zvV (h5 p hp);have:c.above.length*4400<=8*4400:=Nat.mul_le_mul_right _ h4;have n1:=zj (n:=c.view.toNat) (by omega);have n2:=zj (n:=c.src.toNat) (by omega);have n3:=zj (n:=c.above.length) (by omega);simp only[zvg,List.length_append];omega
theorem ziU {c:zbk}(h:∀e∈zaS c,e=0):(∀e∈zeu c,e=0)/\zx c.key c.dig=0:=
 ⟨fun e he=>h e (by simp[zaS,he]),h _ (by simp[zaS])⟩
theorem zry {c:zbk}(h:∀e∈zaS c,e=0):(zfS c).length<=36020:=by
 obtain⟨h1,h2⟩:=ziU h;have:=zsE h1;have:=zgz h2;simp only[zfS,List.length_append];omega
structure entryOkE (x:zhQ):Prop where
 view:0<=x.view/\x.view<=9007199254740992
 seq:1<=x.seq/\x.seq<=9007199254740992
 batch:zD x.batch=0
 sign:zx x.key x.dig=0
theorem zAr {x:zhQ}(h:∀e∈zek x,e=0):entryOkE x:=
 ⟨zrW (h _ (by simp[zek])),posE_0 (h _ (by simp[zek])),h _ (by simp[zek]),h _ (by simp[zek])⟩
theorem ztA {x:zhQ}(h:∀e∈zek x,e=0):(znE x).length<=4040:=by
 obtain⟨h1,h2,h3,h4⟩:=zAr h;have:=zgz h4;have:=(zdH h3).2;have n1:=zj (n:=x.view.toNat) (by omega);have n2:=zj (n:=x.seq.toNat) (by omega);simp only[znE,List.length_append];omega
structure newvOkE (m:zbj):Prop where
 src:0<=m.src/\m.src<=12
 view:1<=m.view/\m.view<=9007199254740992
 manyC:m.changes.length<=13
 change:∀c∈m.changes,∀e∈zaS c,e=0
 manyE:m.entries.length<=8
 entry:∀x∈m.entries,∀e∈zek x,e=0
theorem newv_ok {m:zbj}(h:∀e∈zfG m,e=0):newvOkE m:=by
 refine⟨zkB (h (zjz m.src) (by simp[zfG])),posE_0 (h _ (by simp[zfG])),?_,fun p hp e he=>h e ?_,?_,fun p hp e he=>h e ?_⟩
 ·have:=zkB (h (inE m.changes.length 0 13) (by simp[zfG]));omega
 ·simp only[zfG,List.mem_cons,List.mem_append,List.mem_flatten,List.mem_map];exact .inr (.inr (.inr (.inl ⟨_,⟨p,hp,rfl⟩,he⟩)))
 ·have:=zkB (h (inE m.entries.length 0 8) (by simp[zfG]));omega
 ·simp only[zfG,List.mem_cons,List.mem_append,List.mem_flatten,List.mem_map];exact .inr (.inr (.inr (.inr (.inr ⟨_,⟨p,hp,rfl⟩,he⟩))))
theorem newvB_len {m:zbj}(h:∀e∈zfG m,e=0):(newvB m).length<=600000:=by
 obtain⟨h1,h2,h3,h4,h5,h6⟩:=newv_ok h;have a:((m.changes.map zfS).flatten).length<=m.changes.length*36020:=zcy fun p hp=>zry (h4 p hp);have b:((m.entries.map znE).flatten).length<=m.entries.length*4040:=zcy fun p hp=>ztA (h6 p hp);have:m.changes.length*36020<=13*36020:=Nat.mul_le_mul_right _ h3;have:m.entries.length*4040<=8*4040:=Nat.mul_le_mul_right _ h5;have n1:=zj (n:=m.src.toNat) (by omega);have n2:=zj (n:=m.view.toNat) (by omega);have n3:=zj (n:=m.changes.length) (by omega);have n4:=zj (n:=m.entries.length) (by omega);simp only[newvB,List.length_append];omega
def unsB (m:zbj):List UInt8:=zbt m.kind.toNat++(if m.kind=7 then(match m.changes with|c::_=>zvg c|[]=>[])else if m.kind=8 then newvB m else [])
def ownS (m:zbj):zK:=if m.kind=7 then(match m.changes with|c::_=>⟨c.key,c.dig⟩|[]=>⟨m.key,m.sdig⟩)else⟨m.key,m.sdig⟩
def zbo (m:zbj):zbj:=if m.kind=7 then(match m.changes with|[c]=>{ m with changes:=[{ c with key:=0,dig:=1 }] }|_=>m)else if zeO m.kind=true then{ m with key:=0,sdig:=1 }else m
theorem zgN {m:zbj}(h:zbJ m=0):(∀e∈zab m,e=0)/\m=zfB m:=by
 unfold zbJ at h;split at h
 ·rename_i h1;exact absurd h h1
 ·rename_i h1;split at h
  ·rename_i h2;exact⟨fstE_mem (by simpa using h1),h2⟩
  ·cases h
theorem zwQ {m:zbj}(hk:m.kind=7)(h:zbJ m=0):∃c,m.changes=[c]/\∀e∈zaS c,e=0:=by
 have h1:=(zgN h).1;simp only[zab,zC,hk]at h1;have h2:=zkB (h1 (inE m.changes.length 1 1) (by simp));obtain⟨c,hc⟩:∃c,m.changes=[c]:=List.length_eq_one_iff.1 (by omega);refine⟨c,hc,fun e he=>h1 e ?_⟩;simp[hc,he]
theorem check8 {m:zbj}(hk:m.kind=8)(h:zbJ m=0):(∀e∈zfG m,e=0)/\zx m.key m.sdig=0:=by
 have h1:=(zgN h).1;simp only[zab,zC,hk]at h1;exact⟨fun e he=>h1 e (by simp[he]),h1 _ (by simp[show zeO 8=true from rfl])⟩
def zoo (m:zbj):List UInt8:=5::zS [m.view,m.client,m.time,m.rerr,m.roff]
structure ReplyOk (m:zbj):Prop where
 src:0<=m.src/\m.src<=12
 view:0<=m.view/\m.view<=9007199254740992
 client:0<=m.client/\m.client<=7
 time:0<=m.time/\m.time<=9007199254740992
 rerr:0<=m.rerr/\m.rerr<=65536
 roff:0<=m.roff/\m.roff<=9007199254740992
 sign:zx m.key m.sdig=0
theorem zur {m:zbj}(hk:m.kind=5)(h:zbJ m=0):ReplyOk m:=by
 have h1:=(zgN h).1;simp only[zab,zC,hk]at h1;exact⟨zkB (h1 (zjz m.src) (by simp)),zrW (h1 _ (by simp)),zkB (h1 (inE m.client 0 7) (by simp)),zrW (h1 (zeP m.time) (by simp)),zkB (h1 (inE m.rerr 0 65536) (by simp)),zrW (h1 (zeP m.roff) (by simp)),h1 _ (by simp[show zeO 5=true from rfl])⟩
theorem K1 {x:Int}(h:x=1):(x==1)=true/\(x==2)=false/\(x==3)=false/\(x==4)=false/\(x==5)=false/\(x==6)=false/\(x==7)=false/\(x==8)=false/\(x==9)=false/\(x==10)=false/\(x==11)=false/\(x==12)=false:=by subst h;decide
theorem K2 {x:Int}(h:x=2):(x==1)=false/\(x==2)=true/\(x==3)=false/\(x==4)=false/\(x==5)=false/\(x==6)=false/\(x==7)=false/\(x==8)=false/\(x==9)=false/\(x==10)=false/\(x==11)=false/\(x==12)=false:=by subst h;decide
theorem K3 {x:Int}(h:x=3):(x==1)=false/\(x==2)=false/\(x==3)=true/\(x==4)=false/\(x==5)=false/\(x==6)=false/\(x==7)=false/\(x==8)=false/\(x==9)=false/\(x==10)=false/\(x==11)=false/\(x==12)=false:=by subst h;decide
theorem K4 {x:Int}(h:x=4):(x==1)=false/\(x==2)=false/\(x==3)=false/\(x==4)=true/\(x==5)=false/\(x==6)=false/\(x==7)=false/\(x==8)=false/\(x==9)=false/\(x==10)=false/\(x==11)=false/\(x==12)=false:=by subst h;decide
theorem K5 {x:Int}(h:x=5):(x==1)=false/\(x==2)=false/\(x==3)=false/\(x==4)=false/\(x==5)=true/\(x==6)=false/\(x==7)=false/\(x==8)=false/\(x==9)=false/\(x==10)=false/\(x==11)=false/\(x==12)=false:=by subst h;decide
theorem K6 {x:Int}(h:x=6):(x==1)=false/\(x==2)=false/\(x==3)=false/\(x==4)=false/\(x==5)=false/\(x==6)=true/\(x==7)=false/\(x==8)=false/\(x==9)=false/\(x==10)=false/\(x==11)=false/\(x==12)=false:=by subst h;decide
theorem K7 {x:Int}(h:x=7):(x==1)=false/\(x==2)=false/\(x==3)=false/\(x==4)=false/\(x==5)=false/\(x==6)=false/\(x==7)=true/\(x==8)=false/\(x==9)=false/\(x==10)=false/\(x==11)=false/\(x==12)=false:=by subst h;decide
theorem K8 {x:Int}(h:x=8):(x==1)=false/\(x==2)=false/\(x==3)=false/\(x==4)=false/\(x==5)=false/\(x==6)=false/\(x==7)=false/\(x==8)=true/\(x==9)=false/\(x==10)=false/\(x==11)=false/\(x==12)=false:=by subst h;decide
theorem K9 {x:Int}(h:x=9):(x==1)=false/\(x==2)=false/\(x==3)=false/\(x==4)=false/\(x==5)=false/\(x==6)=false/\(x==7)=false/\(x==8)=false/\(x==9)=true/\(x==10)=false/\(x==11)=false/\(x==12)=false:=by subst h;decide
theorem K10 {x:Int}(h:x=10):(x==1)=false/\(x==2)=false/\(x==3)=false/\(x==4)=false/\(x==5)=false/\(x==6)=false/\(x==7)=false/\(x==8)=false/\(x==9)=false/\(x==10)=true/\(x==11)=false/\(x==12)=false:=by subst h;decide
theorem K11 {x:Int}(h:x=11):(x==1)=false/\(x==2)=false/\(x==3)=false/\(x==4)=false/\(x==5)=false/\(x==6)=false/\(x==7)=false/\(x==8)=false/\(x==9)=false/\(x==10)=false/\(x==11)=true/\(x==12)=false:=by subst h;decide
theorem K12 {x:Int}(h:x=12):(x==1)=false/\(x==2)=false/\(x==3)=false/\(x==4)=false/\(x==5)=false/\(x==6)=false/\(x==7)=false/\(x==8)=false/\(x==9)=false/\(x==10)=false/\(x==11)=false/\(x==12)=true:=by subst h;decide
theorem K0 {x:Int}(h:¬(1<=x/\x<=12)):(x==1)=false/\(x==2)=false/\(x==3)=false/\(x==4)=false/\(x==5)=false/\(x==6)=false/\(x==7)=false/\(x==8)=false/\(x==9)=false/\(x==10)=false/\(x==11)=false/\(x==12)=false:=by simp;omega
def hdB (h:zsU):List UInt8:=zS [h.seq,h.prev,h.batch,h.root,h.state]
def zud (p:zfi):List UInt8:=zkk p.topic++(zS [p.offset]++(zkk p.rec_++(zbt p.headers.length++((p.headers.map hdB).flatten++(zS [p.index,p.count]++(zbt p.path.length++(zS p.path++zrz p.cert)))))))
structure zrF (p:zfi):Prop where
 topic:p.topic.length<=64
 offset:0<=p.offset/\p.offset<=9007199254740992
 record:p.rec_.length<=64
 many:p.headers.length<=64
 hdr:∀h∈p.headers,∀e∈zhg h,e=0
 index:0<=p.index/\p.index<=9007199254740992
 count:0<=p.count/\p.count<=16
 path:p.path.length<=8
 num:∀x∈p.path,0<=x/\x<=9007199254740992
 cert:∀e∈zby p.cert,e=0
theorem zzZ {p:zfi}(h:∀e∈zcS p,e=0):zrF p:=by
 have g:∀n lo hi:Int,inE n lo hi∈zcS p->lo<=n/\n<=hi:=fun n lo hi hm=>zkB (h _ hm);refine⟨?_,g _ _ _ (by simp[zcS,zgB,zeP]),?_,?_,fun x hx e he=>h e ?_,g _ _ _ (by simp[zcS,zfF,zeP]),g _ _ _ (by simp[zcS,zfF]),?_,fun x hx=>?_,fun e he=>h e (by simp[zcS,he])⟩
 ·have:=h (zkZ p.topic) (by simp[zcS,zgB]);refine zyD ?_;unfold zkZ at this;split at this
  ·assumption
  ·cases this
 ·have:=g p.rec_.length 0 64 (by simp[zcS,zgB]);omega
 ·have:=g p.headers.length 0 64 (by simp[zcS,zgB]);omega
 ·simp only[zcS,List.mem_append,List.mem_flatten,List.mem_map];exact .inr (.inl ⟨_,⟨x,hx,rfl⟩,he⟩)
 ·have:=g p.path.length 0 8 (by simp[zcS,zhs]);omega
 ·exact g x 0 9007199254740992 (by simp only[zcS,List.mem_append,List.mem_map];exact .inr (.inr (.inr (.inr (.inl ⟨x,hx,rfl⟩)))))
theorem hdr_ok {h:zsU}(he:∀e∈zhg h,e=0):∀x∈[h.seq,h.prev,h.batch,h.root,h.state],0<=x/\x<=9007199254740992:=by
 have g:∀n lo hi:Int,inE n lo hi∈zhg h->lo<=n/\n<=hi:=fun n lo hi hm=>zkB (he _ hm);have h1:=g h.seq 1 9007199254740992 (by simp[zhg,zkl]);have h2:=g h.prev 0 9007199254740992 (by simp[zhg,zeP]);have h3:=g h.batch 0 9007199254740992 (by simp[zhg,zeP]);have h4:=g h.root 0 9007199254740992 (by simp[zhg,zeP]);have h5:=g h.state 0 9007199254740992 (by simp[zhg,zeP]);simp;omega
theorem zcd {l:List Int}(h:∀x∈l,0<=x/\x<=9007199254740992):(zS l).length<=l.length*10:=zov fun x hx=>by have:=h x hx;omega
theorem hdB_len {h:zsU}(he:∀e∈zhg h,e=0):(hdB h).length<=50:=zcd (hdr_ok he)
theorem proofB_len {p:zfi}(h:zrF p):(zud p).length<=5000:=by
 obtain⟨h1,h2,h3,h4,h5,h6,h7,h8,h9,h10⟩:=h;have p1:=zdh (x:=p.topic) (by omega);have p2:=zdh (x:=p.rec_) (by omega);have n1:=zcd (l:=[p.offset]) (by simp;omega);have n2:=zj (n:=p.headers.length) (by omega);have n3:=zcd (l:=[p.index,p.count]) (by simp;omega);have n5:=zj (n:=p.path.length) (by omega);have n6:=zcd h9;have q1:=zhK h10;have q2:((p.headers.map hdB).flatten).length<=p.headers.length*50:=zcy fun s hm=>hdB_len (h5 s hm);have:p.headers.length*50<=64*50:=Nat.mul_le_mul_right _ h4;simp only[List.length_cons,List.length_nil]at n1 n3;simp only[zud,List.length_append];omega
def zfq (m:zbj):List UInt8:=
 if m.kind=1 then zhj m.batch
 else if m.kind=2 then zS [m.src,m.view,m.seq,m.dig]++zhj m.batch
 else if m.kind=3∨m.kind=4 then zS [m.src,m.view,m.seq,m.dig]
 else if m.kind=5 then zS [m.src,m.view,m.client,m.time]++(zbt m.rerr.toNat++zbt m.roff.toNat)
 else if m.kind=6 then zS [m.src,m.seq,m.dig]
 else if m.kind=7 then(match m.changes with|c::_=>zvg c|[]=>[])
 else if m.kind=8 then newvB m
 else if m.kind=9 then zS [m.src,m.seq]
 else if m.kind=10 then zS [m.src]++(zrz m.cert++zkk m.state)
 else if m.kind=11 then zS [m.client]++(zkk m.topic++zS [m.offset])
 else if m.kind=12 then zS [m.src]++zud m.proof
 else []
def znW (m:zbj):List UInt8:=zbt m.kind.toNat++zfq m
def ztu (m:zbj):List UInt8:=znW m++if m.kind=7∨zeO m.kind=true then zgp (ownS m).key (ownS m).dig else []
def zfA (m:zbj):Int:=if zbJ m≠0 then zbJ m else if (ztu m).length>262144 then 3 else 0
def nilK (k:Int):Bool:=decide (k=1∨k=10∨k=11∨k=12)
def zcF (m:zbj):List UInt8:=
 if m.kind=2∨m.kind=3∨m.kind=4 then zrI m.kind m.view m.seq m.dig
 else if m.kind=6 then zrI m.kind 0 m.seq m.dig
 else if m.kind=9 then zrI m.kind 0 m.seq 0
 else if m.kind=5 then zoo m
 else 6::znW (zbo m)
theorem kinds {m:zbj}(h:zbJ m=0):1<=m.kind/\m.kind<=12:=by
 by_cases hk:1<=m.kind/\m.kind<=12
 ·exact hk
 have:=(zgN h).1 100 (by
  have e:∀j:Int,1<=j->j<=12->m.kind≠j:=fun j h1 h2 h3=>hk (by omega);simp[zab,zC,e])
 cases this
theorem own_ok {m:zbj}(h:zbJ m=0)(ho:zeO m.kind=true):zx m.key m.sdig=0:=(zgN h).1 _ (by simp[zab,ho])
theorem zzL {m:zbj}(h:zbJ m=0)(hk:m.kind=2∨m.kind=3∨m.kind=4):(0<=m.src/\m.src<=12)/\(0<=m.view/\m.view<=9007199254740992)/\(1<=m.seq/\m.seq<=9007199254740992)/\(1<=m.dig/\m.dig<=9007199254740992):=by
 have h1:=(zgN h).1;have g:∀n lo hi:Int,inE n lo hi∈zep m->lo<=n/\n<=hi:=fun n lo hi hm=>zkB (h1 _ (by rcases hk with hk|hk|hk<;>simp[zab,zC,hk,hm]));exact⟨g _ _ _ (by simp[zep,zjz]),g _ _ _ (by simp[zep,zeP]),g _ _ _ (by simp[zep,zkl]),g _ _ _ (by simp[zep,zkl])⟩
structure Rd where
 b:List UInt8
 e:Int
def Rd.fail (cut:Bool) (s:Rd) (x:Int):Rd:=if s.e=0/\x≠0 then⟨if cut then []else s.b,x⟩else s
def zsS (cut:Bool) (most:Nat) (s:Rd):Nat × Rd:=
 if s.e=0 then(match numR most 0 0 s.b with|.ok (n,r)=>(n,⟨r,0⟩)|.error x=>(0,s.fail cut x))else(0,s)
def takeP (cut:Bool) (n:Nat) (s:Rd):List UInt8 × Rd:=
 if s.e=0 then(if n>s.b.length then([],s.fail cut 10)else(s.b.take n,⟨s.b.drop n,0⟩))else([],s)
def zmH (cut:Bool) (most:Nat) (s:Rd):List UInt8 × Rd:=takeP cut (zsS cut most s).1 (zsS cut most s).2
def zzY (cut:Bool):Nat->Rd->List (List UInt8) × Rd
 | 0,s=>([],s)
 | k+1,s=>((zzY cut k s).1++[(zmH cut 64 (zzY cut k s).2).1],(zmH cut 64 (zzY cut k s).2).2)
def zrj (cut:Bool) (k:Nat) (s:Rd):TOp × Rd:=
 let t:=zmH cut 64 s
 if k=0 then(noOp,s)
 else if k=2 then(let n:=zsS cut 4 t.2;let r:=zzY cut n.1 n.2;(⟨k,t.1,[],0,r.1⟩,r.2))
 else if k=3 then(let g:=zmH cut 64 t.2;let f:=zsS cut 9007199254740992 g.2;(⟨k,t.1,g.1,f.1,[]⟩,f.2))
 else if k=4 then(let f:=zsS cut 9007199254740992 t.2;(⟨k,t.1,[],f.1,[]⟩,f.2))
 else(⟨k,t.1,[],0,[]⟩,t.2)
def zsY (cut:Bool) (name:List UInt8->Bool) (s:Rd):TOp × Rd:=
 let k:=zsS cut 4 s
 let x:=zrj cut k.1 k.2
 let z:=x.2.fail cut (zaM name x.1)
 (if z.e=0 then x.1 else noOp,z)
def Rd.like (s t:Rd):Prop:=s.e=t.e/\(s.e=0->s.b=t.b)
theorem Rd.like.fail {s t:Rd}{c d:Bool}{x:Int}(h:s.like t):(s.fail c x).like (t.fail d x):=by
 obtain⟨h1,h2⟩:=h;unfold Rd.fail Rd.like;grind
theorem Rd.like.num {s t:Rd}{c d:Bool}{m:Nat}(h:s.like t):(zsS c m s).1=(zsS d m t).1/\(zsS c m s).2.like (zsS d m t).2:=by
 have hf:∀x,(s.fail c x).like (t.fail d x):=fun x=>h.fail;obtain⟨h1,h2⟩:=h;unfold zsS;by_cases h0:s.e=0
 ·rw[if_pos h0,if_pos (show t.e=0 from h1▸h0),h2 h0];cases numR m 0 0 t.b with
  | ok x=>exact⟨rfl,rfl,fun _=>rfl⟩
  | error x=>exact⟨rfl,hf x⟩
 ·rw[if_neg h0,if_neg (h1▸h0)];exact⟨rfl,h1,h2⟩
theorem Rd.like.take {s t:Rd}{c d:Bool}{m:Nat}(h:s.like t):(takeP c m s).1=(takeP d m t).1/\(takeP c m s).2.like (takeP d m t).2:=by
 have hf:∀x,(s.fail c x).like (t.fail d x):=fun x=>h.fail;obtain⟨h1,h2⟩:=h;unfold takeP;by_cases h0:s.e=0
 ·rw[if_pos h0,if_pos (show t.e=0 from h1▸h0),h2 h0];split
  ·exact⟨rfl,hf 10⟩
  ·exact⟨rfl,rfl,fun _=>rfl⟩
 ·rw[if_neg h0,if_neg (h1▸h0)];exact⟨rfl,h1,h2⟩
theorem Rd.like.bytes {s t:Rd}{c d:Bool}{m:Nat}(h:s.like t):(zmH c m s).1=(zmH d m t).1/\(zmH c m s).2.like (zmH d m t).2:=by
 have a:=h.num (c:=c) (d:=d) (m:=m);have:=a.2.take (c:=c) (d:=d) (m:=(zsS c m s).1);unfold zmH;rw[← a.1];exact this
theorem Rd.like.recs {s t:Rd}{c d:Bool}(h:s.like t):∀k,(zzY c k s).1=(zzY d k t).1/\(zzY c k s).2.like (zzY d k t).2
 | 0=>⟨rfl,h⟩
 | k+1=>by
  obtain⟨a,b⟩:=Rd.like.recs h (c:=c) (d:=d) k;have e:=b.bytes (c:=c) (d:=d) (m:=64);exact⟨by simp only[zzY,a,e.1],e.2⟩
theorem Rd.like.fields {s t:Rd}{c d:Bool}(h:s.like t)(k:Nat):(zrj c k s).1=(zrj d k t).1/\(zrj c k s).2.like (zrj d k t).2:=by
 obtain⟨t1,t2⟩:=h.bytes (c:=c) (d:=d) (m:=64);obtain⟨n1,n2⟩:=t2.num (c:=c) (d:=d) (m:=4);obtain⟨r1,r2⟩:=n2.recs (c:=c) (d:=d) (zsS c 4 (zmH c 64 s).2).1;obtain⟨g1,g2⟩:=t2.bytes (c:=c) (d:=d) (m:=64);obtain⟨f1,f2⟩:=g2.num (c:=c) (d:=d) (m:=9007199254740992);obtain⟨e1,e2⟩:=t2.num (c:=c) (d:=d) (m:=9007199254740992);unfold zrj;simp only;split
 ·exact⟨rfl,h⟩
 ·split
  ·rw[← n1,← r1,← t1];exact⟨rfl,r2⟩
  ·split
   ·rw[← t1,← g1,← f1];exact⟨rfl,f2⟩
   ·split
    ·rw[← t1,← e1];exact⟨rfl,e2⟩
    ·rw[← t1];exact⟨rfl,t2⟩
theorem Rd.like.takeOp {s t:Rd}{c d:Bool}{name:List UInt8->Bool}(h:s.like t):(zsY c name s).1=(zsY d name t).1/\(zsY c name s).2.like (zsY d name t).2:=by
 obtain⟨k1,k2⟩:=h.num (c:=c) (d:=d) (m:=4);obtain⟨x1,x2⟩:=k2.fields (c:=c) (d:=d) (zsS c 4 s).1;have z:=x2.fail (c:=c) (d:=d) (x:=zaM name (zrj c (zsS c 4 s).1 (zsS c 4 s).2).1);unfold zsY;simp only;rw[← k1,← x1,← z.1];exact⟨rfl,z⟩
open Go
def nilRq:zr:=⟨0,0,noOp,0,0⟩
def doneE (s:Rd):Int:=if s.e=0/\0<s.b.length then 12 else s.e
def lateE (e:Int) (t:Nat):Int:=if e=0/\t=0 then 80 else e
def pickR (f:Int) (x:zr):zr:=if f=0 then x else nilRq
def signZ (c:Bool) (d:Nat × Rd):Rd:=if d.2.e=0/\d.1=0 then d.2.fail c 81 else d.2
def reqP (c:Bool) (b:List UInt8):zr × Int:=
 let k:=zsS c 7 ⟨b,0⟩
 let t:=zsS c 9007199254740992 k.2
 let o:=zsY c zdY t.2
 let f:=lateE (doneE o.2) t.1
 (pickR f ⟨k.1,t.1,o.1,0,0⟩,f)
def signP (c:Bool) (s:Rd):(Nat × Nat) × Rd:=
 let k:=zsS c 20 s
 let d:=zsS c 9007199254740992 k.2
 let z:=signZ c d
 (if z.e=0 then(k.1,d.1)else(0,0),z)
def oneP (c:Bool) (s:Rd):zr × Rd:=
 let b:=zmH c 1024 s
 let x:=reqP c b.1
 let g:=signP c (b.2.fail c x.2)
 (⟨x.1.client,x.1.time,x.1.op,g.1.1,g.1.2⟩,g.2)
def zqs (c:Bool):Nat->Rd->List zr × Rd
 | 0,s=>([],s)
 | k+1,s=>((zqs c k s).1++[(oneP c (zqs c k s).2).1],(oneP c (zqs c k s).2).2)
def batchP (c:Bool) (s:Rd):List zr × Rd:=
 let n:=zsS c 4 s
 let p:=zqs c n.1 n.2
 let z:=p.2.fail c (zD p.1)
 (if z.e=0 then p.1 else [],z)
theorem Rd.like.refl (s:Rd):s.like s:=⟨rfl,fun _=>rfl⟩
theorem done_like {s t:Rd}(h:s.like t):doneE s=doneE t:=by
 unfold doneE;obtain⟨h1,h2⟩:=h;by_cases h0:s.e=0
 ·rw[h2 h0,h1]
 ·rw[if_neg (fun g=>h0 g.1),if_neg (fun g=>h0 (h1▸g.1)),h1]
theorem reqP_like (c d:Bool)(b:List UInt8):reqP c b=reqP d b:=by
 obtain⟨k1,k2⟩:=(Rd.like.refl ⟨b,0⟩).num (c:=c) (d:=d) (m:=7);obtain⟨t1,t2⟩:=k2.num (c:=c) (d:=d) (m:=9007199254740992);obtain⟨o1,o2⟩:=t2.takeOp (c:=c) (d:=d) (name:=zdY);have e:=done_like o2;unfold reqP;simp only;rw[e,t1,k1,o1]
theorem Rd.like.sign {s t:Rd}{c d:Bool}(h:s.like t):(signP c s).1=(signP d t).1/\(signP c s).2.like (signP d t).2:=by
 obtain⟨k1,k2⟩:=h.num (c:=c) (d:=d) (m:=20);obtain⟨t1,t2⟩:=k2.num (c:=c) (d:=d) (m:=9007199254740992);have z:=t2.fail (c:=c) (d:=d) (x:=81);have hz:(signZ c (zsS c 9007199254740992 (zsS c 20 s).2)).like (signZ d (zsS d 9007199254740992 (zsS d 20 t).2)):=by
  unfold signZ;rw[← t1,← t2.1];split
  ·exact z
  ·exact t2
 unfold signP;simp only;rw[← k1,← t1,← hz.1];exact⟨rfl,hz⟩
theorem Rd.like.one {s t:Rd}{c d:Bool}(h:s.like t):(oneP c s).1=(oneP d t).1/\(oneP c s).2.like (oneP d t).2:=by
 obtain⟨b1,b2⟩:=h.bytes (c:=c) (d:=d) (m:=1024);have e:=reqP_like c d (zmH c 1024 s).1;have f:=b2.fail (c:=c) (d:=d) (x:=(reqP c (zmH c 1024 s).1).2);obtain⟨g1,g2⟩:=f.sign (c:=c) (d:=d);unfold oneP;simp only;rw[← b1,← e,← g1];exact⟨rfl,g2⟩
theorem Rd.like.items {s t:Rd}{c d:Bool}(h:s.like t):∀k,(zqs c k s).1=(zqs d k t).1/\(zqs c k s).2.like (zqs d k t).2
 | 0=>⟨rfl,h⟩
 | k+1=>by
  obtain⟨a,b⟩:=Rd.like.items h (c:=c) (d:=d) k;obtain⟨e1,e2⟩:=b.one (c:=c) (d:=d);exact⟨by simp only[zqs,a,e1],e2⟩
theorem Rd.like.batch {s t:Rd}{c d:Bool}(h:s.like t):(batchP c s).1=(batchP d t).1/\(batchP c s).2.like (batchP d t).2:=by
 obtain⟨n1,n2⟩:=h.num (c:=c) (d:=d) (m:=4);obtain⟨p1,p2⟩:=n2.items (c:=c) (d:=d) (zsS c 4 s).1;have z:=p2.fail (c:=c) (d:=d) (x:=zD (zqs c (zsS c 4 s).1 (zsS c 4 s).2).1);unfold batchP;simp only;rw[← n1,← p1,← z.1];exact⟨rfl,z⟩
abbrev PQ:=List (Option zr)
structure zjZ (q:PQ):Prop where
 len:q.length=8
 at_:∀(i:Nat) x,q[i]? = some (some x)->x.client=i/\zD [x]=0/\okO x.op
def zfC (q:PQ):List zr:=q.filterMap id
def ofF (q:PQ) (c:Int):Option zr:=if 0<=c/\c<8 then(q[c.toNat]?).join else none
def mayPut:Option zr->Int->Bool
 | some y,t=>decide (y.time<t)
 | none,_=>true
def mayDone:Option zr->Int->Bool
 | some y,t=>decide (y.time<=t)
 | none,_=>false
def canPut (q:PQ) (x:zr):Bool:=decide (zD [x]=0)&&mayPut (ofF q x.client) x.time
def putQ (q:PQ) (x:zr):PQ:=if canPut q x=true then q.set x.client.toNat (some x)else q
def canDone (q:PQ) (c t:Int):Bool:=mayDone (ofF q c) t
def doneQ (q:PQ) (c t:Int):PQ:=if canDone q c t=true then q.set c.toNat none else q
theorem one_ok {x:zr}(h:zD [x]=0):0<=x.client/\x.client<8/\1<=x.time/\x.time<=9007199254740992/\zaM zdY x.op=0/\zT x=0/\zx x.key x.dig=0:=by
 simp only[zD,List.length_singleton,zoa,zyU]at h;have h1:¬(1>4):=by omega
 rw[if_neg h1]at h;by_cases hr:zT x=0
 ·by_cases hs:zx x.key x.dig=0
  ·unfold zT at hr;split at hr
   ·cases hr
   ·rename_i hc;have hr':zT x=0:=by unfold zT;rw[if_neg hc];exact hr
    exact⟨by omega,by omega,by omega,by omega,hr,hr',hs⟩
  ·exfalso;simp[hr,hs]at h
 ·exfalso;simp[hr]at h
theorem ofF_some {q:PQ}{c:Int}{x:zr}(h:ofF q c=some x):0<=c/\c<8/\q[c.toNat]? = some (some x):=by
 unfold ofF at h;split at h
 ·rename_i hc;refine⟨hc.1,hc.2,?_⟩;cases hq:q[c.toNat]? with
  | none=>rw[hq]at h;cases h
  | some o=>rw[hq]at h;simp at h;rw[h]
 ·cases h
theorem zjZ.get {q:PQ}(hq:zjZ q){c:Int}(h0:0<=c)(h8:c<8):q[c.toNat]? = some (ofF q c):=by
 have hl:=hq.len;have:q[c.toNat]? = some (q[c.toNat]'(by omega)):=List.getElem?_eq_getElem _;unfold ofF;rw[if_pos ⟨h0,h8⟩,this];rfl
theorem zjZ.put {q:PQ}(hq:zjZ q){x:zr}(hx:okO x.op):zjZ (putQ q x):=by
 unfold putQ;split
 ·rename_i hc;simp only[canPut,Bool.and_eq_true,decide_eq_true_eq]at hc;obtain⟨h0,h8,_⟩:=one_ok hc.1;refine⟨by simp[hq.len],fun i y h=>?_⟩;rw[List.getElem?_set]at h;split at h
  ·rename_i e;split at h
   ·simp at h;subst h;exact⟨by omega,hc.1,hx⟩
   ·cases h
  ·exact hq.at_ i y h
 ·exact hq
theorem zjZ.done {q:PQ}(hq:zjZ q){c t:Int}:zjZ (doneQ q c t):=by
 unfold doneQ;split
 ·refine⟨by simp[hq.len],fun i y h=>?_⟩;rw[List.getElem?_set]at h;split at h
  ·split at h
   ·simp at h
   ·cases h
  ·exact hq.at_ i y h
 ·exact hq
theorem zrH {q:PQ}{x:zr}(h:x∈zfC q):∃i:Nat,q[i]? = some (some x):=by
 simp only[zfC,List.mem_filterMap,id_eq,exists_eq_right]at h;exact List.mem_iff_getElem?.1 h
def zhh (f:Int):Int:=if f<1∨f>4 then 120 else 0
def zfD (n f:Int):Int:=if f<1∨f>4 then 0 else n*f+1
abbrev ents (l:List (Int × AV)):List (AV × AV):=l.map fun e=>(.d (.int .i64 e.1),e.2)
structure zeo where
 name:List UInt8
 base:Int
 recs:List (List UInt8)
 groups:List (List UInt8 × Int)
structure ztT where
 l:List zeo
 last:List (Int × Int × Int)
def zue:ztT:=⟨[],List.replicate 8 (0,0,0)⟩
abbrev groupD (g:List UInt8 × Int):List D:=[.str g.1,.int .i64 g.2]
abbrev groupsE (l:List (List UInt8 × Int)):List (List D):=l.map groupD
def zeo.next (x:zeo):Int:=x.base+x.recs.length
def atF (n:List UInt8):List zeo->Nat->Option Nat
 | [],_=>none
 | x::r,i=>if (x.name==n)=true then some i else atF n r (i+1)
def lessN (n:List UInt8):List zeo->Nat
 | []=>0
 | x::r=>if Op.bytesLess x.name n=true then lessN n r+1 else 0
def lessG (n:List UInt8):List (List UInt8 × Int)->Nat
 | []=>0
 | g::r=>if Op.bytesLess g.1 n=true then lessG n r+1 else 0
def hadG (n:List UInt8) (l:List (List UInt8 × Int)):Option Int:=match l[lessG n l]? with
 | some g=>if (g.1==n)=true then some g.2 else none
 | none=>none
abbrev topD (x:zeo):List D:=[.str x.name,.int .i64 x.base,.slice (zdv x.recs),.slice (groupsE x.groups)]
abbrev topsE (l:List zeo):List (List D):=l.map topD
abbrev zcE (es:List (List D)):List AV:=es.flatten.map .d
theorem zoG {sz:Nat}:∀ {es:List (List D)},(∀e∈es,e.length=sz)->(zcE es).length=es.length*sz
 | [],_=>by simp[zcE]
 | e::es,h=>by
  have h1:=zoG (es:=es) fun x hx=>h x (List.mem_cons_of_mem _ hx);have h2:=h e List.mem_cons_self;simp only[zcE,List.length_map]at h1;simp only[zcE,List.flatten_cons,List.map_append,List.length_append,List.length_map,h1,h2,List.length_cons,Nat.add_mul,Nat.one_mul];omega
theorem zyQ {sz:Nat}:∀ {es:List (List D)},(∀e∈es,e.length=sz)->∀k,(zcE es).drop (k*sz)=zcE (es.drop k)
 | [],_,k=>by simp[zcE]
 | e::es,h,k=>by
  cases k with
  | zero=>simp[zcE]
  | succ k=>
   have h1:=zyQ (es:=es) (fun x hx=>h x (List.mem_cons_of_mem _ hx)) k
   have h2:=h e List.mem_cons_self
   have e1:zcE (e::es)=e.map .d++zcE es:=by simp[zcE]
   rw[e1,List.drop_succ_cons,← h1,List.drop_append,List.length_map,h2,show(k+1)*sz-sz=k*sz by rw[Nat.add_mul];omega,List.drop_of_length_le (by rw[List.length_map,h2,Nat.add_mul];omega)]
   rfl
theorem zwp {sz:Nat}{es:List (List D)}(h:∀e∈es,e.length=sz){k:Nat}{e:List D}(he:es[k]? = some e):((zcE es).drop (k*sz)).take sz=e.map .d:=by
 have hk:k<es.length:=(List.getElem?_eq_some_iff.1 he).1;have hl:=h e (List.mem_of_getElem? he);rw[zyQ h,List.drop_eq_getElem_cons hk,(List.getElem?_eq_some_iff.1 he).2];simp only[zcE,List.flatten_cons,List.map_append];rw[List.take_append_of_le_length (by rw[List.length_map,hl];exact Nat.le_refl _),List.take_of_length_le (by rw[List.length_map,hl];exact Nat.le_refl _)]
theorem ztw {sz:Nat}{es:List (List D)}(h:∀e∈es,e.length=sz){k i:Nat}{e:List D}(he:es[k]? = some e)(hi:i<sz):(zcE es)[k*sz+i]?=(e[i]?).map .d:=by
 have h1:=zwp h he;have h2:(((zcE es).drop (k*sz)).take sz)[i]?=(zcE es)[k*sz+i]?:=by rw[List.getElem?_take,if_pos hi,List.getElem?_drop]
 rw[← h2,h1,List.getElem?_map]
structure TopI (x:zeo):Prop where
 base:0<=x.base
 next:x.next<=9007199254740992
 recs:x.recs.length<=64
 groups:x.groups.length<=8
 name:x.name.length<=64
 each:∀r∈x.recs,r.length<=64
 gs:∀g∈x.groups,g.1.length<=64/\0<=g.2/\g.2<=9007199254740992
structure TopsI (T:ztT):Prop where
 len:T.l.length<=8
 tops:∀x∈T.l,TopI x
theorem TopsI.none:TopsI zue:=⟨by simp[zue],by simp[zue]⟩
def groupB (g:List UInt8 × Int):List UInt8:=zkk g.1++zbt g.2.toNat
def groupsB (l:List (List UInt8 × Int)):List UInt8:=(l.map groupB).flatten
def topB (x:zeo):List UInt8:=zkk x.name++(zbt x.base.toNat++(zbt x.recs.length++(zrT x.recs++(zbt x.groups.length++groupsB x.groups))))
def topsBl (l:List zeo):List UInt8:=(l.map topB).flatten
def lastB (a:Int × Int × Int):List UInt8:=zbt a.1.toNat++(zbt a.2.1.toNat++zbt a.2.2.toNat)
def lastsB (l:List (Int × Int × Int)):List UInt8:=(l.map lastB).flatten
def topsB (T:ztT):List UInt8:=zbt T.l.length++(topsBl T.l++lastsB T.last)
def LastI (l:List (Int × Int × Int)):Prop:=∀a∈l,(0<=a.1/\a.1<=9007199254740992)/\(0<=a.2.1/\a.2.1<=9007199254740992)/\(0<=a.2.2/\a.2.2<=9007199254740992)
def PlI (p:znA):Prop:=0<=p.offset/\p.offset<=9007199254740992/\p.topic.length<=64/\p.rec_.length<=64
section
variable {P:Program} {σ:List AObj}
theorem ACall.frz {f:FuncId}{xs:List AV}{K:KT}(m:Nat)(h:ACall P f xs σ fun r s=>∃r',frzT s σ.length m r=some r'∧s.take σ.length=σ/\K r' σ):ACall P f xs σ K:=
 ⟨h.1,fun L w vs S hv=>(h.2 L w vs S hv).mono fun e w' he=>by
  cases e with
  | panicked _=>exact he
  | outgrown=>exact he
  | returned v=>
   obtain⟨L',σ',r,st,S',hr,r',hf,ht,hK⟩:=he
   have z2:zhm σ.length (σ'.take σ.length):=by rw[ht];exact S.lows
   have hS:=S'.take z2
   have hst:=st.take
   have hv:=zyO S' (L2:=L') (σ2:=σ'.take σ.length) (fun b o=>zrV) (fun t x ht hx hk b o hf hown=>by
    obtain⟨id,y,hy,hfy⟩:=hown;rw[List.getElem?_take]at hy;split at hy
    ·rename_i hid;exact S'.apart id t y x b o (by omega) hy hx hfy hf
    ·cases hy) hr hf
   rw[ht]at hS hst hv
   exact⟨L',σ,r',hst,hS,hv,hK⟩⟩
end
section
variable {P:Program} {σ:List AObj}
def zxE (K:KT) (out:Option (List AV)) (σ':List AObj):Prop:=match out with
 | some l=>∃s,zqk [] σ' [] s/\K (dmT (zck l)) s
 | none=>False
theorem zeN {f:FuncId}{F:AF}{na:Nat}(hF:isFn P f F na){as0:List AV}(has:as0.length=na){K:KT}
  (h:zhm σ.length σ->(∀a∈as0,Low σ.length a)->awp P F.body (AtEnd fun fr' σ'=>zxE K (zuH fr' σ' F.res) σ') (zlj 0 as0) σ):ACall P f as0 σ K:=
 zoV hF has _ (fun{L w L' σ' w' fr' ts} S st S' F' hz=>by
  unfold zxE at hz;split at hz
  ·rename_i l hl;obtain⟨s,hw,hK⟩:=hz;obtain⟨L2,st2,S2,_⟩:=zmj hw S' (us:=[]) ⟨rfl,by simp⟩;exact⟨L2,s,l,dmT (zck l),hl,st.trans st2,S2,fun v hr=>zwM (st2.rv hr),hK⟩
  ·exact hz.elim) h
theorem zlc {K:KT}{l:List AV}{s:List AObj}(h:K (dmT (zck l)) s):zxE K (some l) s:=⟨_,.refl _ _,h⟩
end
theorem less_lt:∀(x y:List UInt8),Op.bytesLess x y=decide (x<y)
 | [],[]=>by simp[Op.bytesLess]
 | _::_,[]=>by simp[Op.bytesLess]
 | [],_::_=>by simp[Op.bytesLess]
 | a::x,b::y=>by
  rw[Op.bytesLess,less_lt x y];simp only[List.cons_lt_cons_iff];by_cases h1:a<b<;>by_cases h2:a=b<;>by_cases h3:x<y<;>simp[h1,h2,h3]
abbrev ltN (a b:List UInt8):Prop:=Op.bytesLess a b=true
theorem ltN_iff {a b:List UInt8}:ltN a b↔a<b:=by rw[ltN,less_lt];simp
theorem ltN_irr (a:List UInt8):¬ltN a a:=by rw[ltN_iff];exact List.lt_irrefl a
theorem ltN_trans {a b c:List UInt8}(h:ltN a b)(h':ltN b c):ltN a c:=by rw[ltN_iff]at *;exact List.lt_trans h h'
theorem ltN_total {a b:List UInt8}(h:¬ltN a b)(hne:a≠b):ltN b a:=by
 rw[ltN_iff]at *;have h1:b<=a:=List.not_lt.1 h;rcases List.le_iff_lt_or_eq.1 h1 with h2|h2
 ·exact h2
 ·exact absurd h2.symm hne
section
variable {α:Type} (f:α->List UInt8)
def zwg (n:List UInt8):List α->Nat
 | []=>0
 | x::r=>if Op.bytesLess (f x) n=true then zwg n r+1 else 0
def zoX (l:List α):Prop:=(l.map f).Pairwise ltN
variable {f}
theorem zoX.nodup {l:List α}(h:zoX f l):(l.map f).Nodup:=by
 refine List.Pairwise.imp (fun{a b} hab e=>?_) h;subst e;exact ltN_irr _ hab
theorem zpu {a:α}{r:List α}:zoX f (a::r)↔(∀b∈r,ltN (f a) (f b))/\zoX f r:=by
 rw[zoX,List.map_cons,List.pairwise_cons];constructor
 ·rintro⟨h1,h2⟩;exact⟨fun b hb=>h1 _ (List.mem_map_of_mem hb),h2⟩
 ·rintro⟨h1,h2⟩;refine⟨fun b hb=>?_,h2⟩;obtain⟨c,hc,rfl⟩:=List.mem_map.1 hb;exact h1 c hc
theorem zwf {n:List UInt8}{x:α}(hx:f x=n):∀ {l:List α},zoX f l->(∀a∈l,f a≠n)->zoX f (l.take (zwg f n l)++x::l.drop (zwg f n l))
 | [],_,_=>by simp[zoX,zwg]
 | a::r,h,hn=>by
  obtain⟨h1,h2⟩:=zpu.1 h;simp only[zwg];split
  ·rename_i ha;simp only[List.take_succ_cons,List.drop_succ_cons,List.cons_append];refine zpu.2 ⟨fun b hb=>?_,zwf hx h2 fun a ha=>hn a (List.mem_cons_of_mem _ ha)⟩;rcases List.mem_append.1 hb with hb|hb
   ·exact h1 b (List.mem_of_mem_take hb)
   ·rcases List.mem_cons.1 hb with rfl|hb
    ·rw[hx];exact ha
    ·exact h1 b (List.mem_of_mem_drop hb)
  ·rename_i ha;simp only[List.take_zero,List.drop_zero,List.nil_append];have hna:ltN n (f a):=ltN_total ha (hn a List.mem_cons_self);refine zpu.2 ⟨fun b hb=>?_,h⟩;rw[hx];rcases List.mem_cons.1 hb with rfl|hb
   ·exact hna
   ·exact ltN_trans hna (h1 b hb)
theorem zoF {n:List UInt8}:∀ {l:List α},zoX f l->∀ {x:α},x∈l->f x=n->l[zwg f n l]? = some x
 | [],_,_,h,_=>by cases h
 | a::r,h,x,hx,e=>by
  obtain⟨h1,h2⟩:=zpu.1 h;simp only[zwg];rcases List.mem_cons.1 hx with rfl|hx
  ·rw[if_neg (by rw[e];exact ltN_irr n)];rfl
  ·have:=h1 x hx;rw[e]at this;rw[if_pos this,List.getElem?_cons_succ];exact zoF h2 hx e
theorem sortK_set {l:List α}(h:zoX f l){k:Nat}{x y:α}(hx:l[k]? = some x)(e:f y=f x):zoX f (l.set k y):=by
 rw[zoX,List.map_set,e];have:(l.map f).set k (f x)=l.map f:=by
  apply List.ext_getElem?;intro i;rw[List.getElem?_set];split
  ·rename_i hi;subst hi;split
   ·rw[List.getElem?_map,hx];rfl
   ·rename_i hk;have:=(List.getElem?_eq_some_iff.1 hx).1;simp at hk;omega
  ·rfl
 rw[this];exact h
theorem sortK_inj {l:List α}(h:zoX f l){x y:α}(hx:x∈l)(hy:y∈l)(e:f x=f y):x=y:=by
 have h1:=zoF h hx rfl;have h2:=zoF h hy e.symm;rw[h1]at h2;exact Option.some.inj h2
end
theorem lessN_K (n:List UInt8):∀l,lessN n l=zwg zeo.name n l
 | []=>rfl
 | x::r=>by simp only[lessN,zwg,lessN_K n r]
theorem zAh (n:List UInt8):∀l,lessG n l=zwg Prod.fst n l
 | []=>rfl
 | x::r=>by simp only[lessG,zwg,zAh n r]
def zxP (n:List UInt8):List (List UInt8 × Int)->Nat->Option (Nat × Int)
 | [],_=>none
 | g::r,i=>if n=g.1 then some (i,g.2)else zxP n r (i+1)
def putA (n:List UInt8) (v:Int) (l:List (List UInt8 × Int)):List (List UInt8 × Int):=match zxP n l 0 with
 | some (k,_)=>l.set k (n,v)
 | none=>l++[(n,v)]
theorem zty {n:List UInt8}:∀ {l:List (List UInt8 × Int)} {i k:Nat} {v:Int},zxP n l i=some (k,v)->∃j,k=i+j/\l[j]? = some (n,v)
 | [],_,_,_,h=>by simp[zxP]at h
 | g::r,i,k,v,h=>by
  simp only[zxP]at h;split at h
  ·rename_i e;cases h;exact⟨0,rfl,by rw[e];rfl⟩
  ·obtain⟨j,h1,h2⟩:=zty h;exact⟨j+1,by omega,by simpa using h2⟩
theorem ztz {n:List UInt8}:∀ {l:List (List UInt8 × Int)} {i:Nat},zxP n l i=none->∀g∈l,g.1≠n
 | [],_,_,g,hg=>by cases hg
 | a::r,i,h,g,hg=>by
  simp only[zxP]at h;split at h
  ·cases h
  ·rename_i e;rcases List.mem_cons.1 hg with rfl|hg
   ·exact fun e'=>e e'.symm
   ·exact ztz h g hg
structure GR (G L:List (List UInt8 × Int)):Prop where
 len:G.length=L.length
 sort:zoX Prod.fst L
 nod:(G.map Prod.fst).Nodup
 mem:∀a,a∈G↔a∈L
theorem GR.nil:GR [] []:=⟨rfl,by simp[zoX],by simp,by simp⟩
theorem zrY {α β:Type}{f:α→β}:∀ {l:List α},(l.map f).Nodup->∀ {i j:Nat} {a b:α},l[i]? = some a->l[j]? = some b->f a=f b->i=j:=by
 intro l h i j a b hi hj e;have h1:(l.map f)[i]? = some (f a):=by rw[List.getElem?_map,hi];rfl
 have h2:(l.map f)[j]? = some (f a):=by rw[List.getElem?_map,hj,e];rfl
 obtain⟨g1,g2⟩:=List.getElem?_eq_some_iff.1 h1;obtain⟨g3,g4⟩:=List.getElem?_eq_some_iff.1 h2;rcases Nat.lt_trichotomy i j with hij|hij|hij
 ·exact absurd (g2.trans g4.symm) (List.pairwise_iff_getElem.1 h i j g1 g3 hij)
 ·exact hij
 ·exact absurd (g4.trans g2.symm) (List.pairwise_iff_getElem.1 h j i g3 g1 hij)
theorem GR.had {G L:List (List UInt8 × Int)}(h:GR G L)(n:List UInt8):hadG n L=(zxP n G 0).map Prod.snd:=by
 cases hf:zxP n G 0 with
 | none=>
  have h1:=ztz hf
  unfold hadG
  split
  ·rename_i g hg
   rw[if_neg];rfl
   intro e
   exact h1 g ((h.mem g).2 (List.mem_of_getElem? hg)) (by simpa using e)
  ·rfl
 | some q=>
  obtain⟨k,v⟩:=q
  obtain⟨j,rfl,hj⟩:=zty hf
  have h2:=(h.mem _).1 (List.mem_of_getElem? hj)
  unfold hadG
  rw[zAh,zoF h.sort h2 rfl]
  simp
theorem zpw {α:Type}{l:List α}{k:Nat}{x y:α}:y∈l.set k x->y=x∨∃j,j≠k/\l[j]? = some y:=by
 intro h;obtain⟨j,hj⟩:=List.mem_iff_getElem?.1 h;by_cases e:j=k
 ·subst e;have hl:j<l.length:=by have:=(List.getElem?_eq_some_iff.1 hj).1;simpa using this
  rw[List.getElem?_set_self hl]at hj;exact .inl (Option.some.inj hj).symm
 ·rw[List.getElem?_set_ne (Ne.symm e)]at hj;exact .inr ⟨j,e,hj⟩
theorem zpI {α:Type}{l:List α}{j k:Nat}{x y:α}(h:l[j]? = some y)(e:j≠k):y∈l.set k x:=
 List.mem_iff_getElem?.2 ⟨j,by rw[List.getElem?_set_ne (Ne.symm e)];exact h⟩
theorem mem_set_self' {α:Type}{l:List α}{k:Nat}{x y:α}(h:l[k]? = some y):x∈l.set k x:=
 List.mem_iff_getElem?.2 ⟨k,by rw[List.getElem?_set_self (List.getElem?_eq_some_iff.1 h).1]⟩
theorem zzM {α:Type}{l:List α}{k:Nat}{x y:α}(h:l[k]? = some y):l.take k++x::l.drop (k+1)=l.set k x:=by
 rw[List.set_eq_take_append_cons_drop,if_pos (List.getElem?_eq_some_iff.1 h).1]
theorem zwc {α:Type}{f:α->List UInt8}{l:List α}{k:Nat}{x y:α}(hx:l[k]? = some x)(e:f y=f x):(l.set k y).map f=l.map f:=by
 rw[List.map_set,e];apply List.ext_getElem?;intro i;rw[List.getElem?_set];split
 ·rename_i hi;subst hi;split
  ·rw[List.getElem?_map,hx];rfl
  ·rename_i hk;have:=(List.getElem?_eq_some_iff.1 hx).1;simp at hk;omega
 ·rfl
theorem GR.put {G L:List (List UInt8 × Int)}(h:GR G L)(n:List UInt8)(v:Int):GR (putA n v G) (L.take (lessG n L)++(n,v)::L.drop (lessG n L+if (hadG n L).isSome then 1 else 0)):=by
 have hh:=h.had n;unfold putA;cases hf:zxP n G 0 with
 | none=>
  have h1:=ztz hf
  have hL:∀a∈L,a.1≠n:=fun a ha=>h1 a ((h.mem a).2 ha)
  rw[hf]at hh
  rw[hh]
  simp only[Option.map_none,Option.isSome_none,Bool.false_eq_true,if_false,Nat.add_zero]
  refine⟨?_,?_,?_,fun a=>?_⟩
  ·have:=List.take_append_drop (lessG n L) L
   have h3:=congrArg List.length this
   have h4:=h.len
   simp only[List.length_append,List.length_cons,List.length_nil]at h3 ⊢;omega
  ·rw[zAh];exact zwf (f:=Prod.fst) (x:=(n,v)) rfl h.sort hL
  ·rw[List.map_append,List.nodup_append]
   refine⟨h.nod,by simp,?_⟩
   intro a ha b hb
   simp at hb;subst hb
   obtain⟨c,hc,rfl⟩:=List.mem_map.1 ha
   exact h1 c hc
  ·have:=List.take_append_drop (lessG n L) L
   rw[List.mem_append,h.mem]
   constructor
   ·rintro(ha|ha)
    ·rw[← this]at ha
     rcases List.mem_append.1 ha with ha|ha<;>simp[ha]
    ·simp at ha;subst ha;simp
   ·intro ha
    rcases List.mem_append.1 ha with ha|ha
    ·exact .inl (List.mem_of_mem_take ha)
    ·rcases List.mem_cons.1 ha with rfl|ha
     ·simp
     ·exact .inl (List.mem_of_mem_drop ha)
 | some q=>
  obtain⟨k,w⟩:=q
  obtain⟨j,rfl,hj⟩:=zty hf
  have hm:=(h.mem _).1 (List.mem_of_getElem? hj)
  have hL:=zoF h.sort hm rfl
  rw[hf]at hh
  rw[hh]
  simp only[Option.map_some,Option.isSome_some,if_true,Nat.zero_add]
  rw[zAh]
  simp only at hL
  rw[zzM hL]
  refine⟨by simp[h.len],sortK_set h.sort hL rfl,by rw[zwc (f:=Prod.fst) (y:=(n,v)) hj rfl];exact h.nod,fun a=>?_⟩
  constructor
  ·intro ha
   rcases zpw ha with rfl|⟨i,hi,hx⟩
   ·exact mem_set_self' hL
   ·have:=(h.mem a).1 (List.mem_of_getElem? hx)
    obtain⟨i2,hi2⟩:=List.mem_iff_getElem?.1 this
    refine zpI hi2 fun e=>hi ?_
    subst e
    rw[hL]at hi2;cases hi2
    exact zrY h.nod hx hj rfl
  ·intro ha
   rcases zpw ha with rfl|⟨i,hi,hx⟩
   ·exact mem_set_self' hj
   ·have:=(h.mem a).2 (List.mem_of_getElem? hx)
    obtain⟨i2,hi2⟩:=List.mem_iff_getElem?.1 this
    refine zpI hi2 fun e=>hi ?_
    subst e
    rw[hj]at hi2;cases hi2
    exact zrY h.sort.nodup hx hL rfl
structure PTop where
 x:zeo
 id:Nat
 g:Nat
 t:Nat
abbrev PTop.name (p:PTop):List UInt8:=p.x.name
def zAo (n:List UInt8):List PTop->Nat->Option (Nat × PTop)
 | [],_=>none
 | p::r,i=>if n=p.x.name then some (i,p)else zAo n r (i+1)
theorem zyR {n:List UInt8}:∀ {l:List PTop} {i k:Nat} {p:PTop},zAo n l i=some (k,p)->∃j,k=i+j/\l[j]? = some p/\p.x.name=n
 | [],_,_,_,h=>by simp[zAo]at h
 | g::r,i,k,v,h=>by
  simp only[zAo]at h;split at h
  ·rename_i e;cases h;exact⟨0,rfl,rfl,e.symm⟩
  ·obtain⟨j,h1,h2,h3⟩:=zyR h;exact⟨j+1,by omega,by simpa using h2,h3⟩
theorem ztx {n:List UInt8}:∀ {l:List PTop} {i:Nat},zAo n l i=none->∀p∈l,p.x.name≠n
 | [],_,_,g,hg=>by cases hg
 | a::r,i,h,g,hg=>by
  simp only[zAo]at h;split at h
  ·cases h
  ·rename_i e;rcases List.mem_cons.1 hg with rfl|hg
   ·exact fun e'=>e e'.symm
   ·exact ztx h g hg
structure TR (x y:zeo):Prop where
 name:x.name=y.name
 base:x.base=y.base
 recs:x.recs=y.recs
 gr:GR x.groups y.groups
theorem TR.next {x y:zeo}(h:TR x y):x.next=y.next:=by rw[zeo.next,h.base,h.recs];rfl
structure Rel (X:List PTop) (T:List zeo):Prop where
 len:X.length=T.length
 sort:zoX zeo.name T
 nod:(X.map PTop.name).Nodup
 fw:∀p∈X,∃y∈T,TR p.x y
 bw:∀y∈T,∃p∈X,TR p.x y
theorem Rel.nil:Rel [] []:=⟨rfl,by simp[zoX],by simp,by simp,by simp⟩
theorem zAP {n:List UInt8}:∀ {l:List zeo} {i k:Nat},atF n l i=some k->∃j y,k=i+j/\l[j]? = some y/\y.name=n
 | [],_,_,h=>by simp[atF]at h
 | x::r,i,k,h=>by
  simp only[atF]at h;split at h
  ·rename_i e;cases h;exact⟨0,x,rfl,rfl,by simpa using e⟩
  ·obtain⟨j,y,h1,h2,h3⟩:=zAP h;exact⟨j+1,y,by omega,by simpa using h2,h3⟩
theorem atF_none {n:List UInt8}:∀ {l:List zeo} {i:Nat},atF n l i=none->∀y∈l,y.name≠n
 | [],_,_,g,hg=>by cases hg
 | a::r,i,h,g,hg=>by
  simp only[atF]at h;split at h
  ·cases h
  ·rename_i e;rcases List.mem_cons.1 hg with rfl|hg
   ·simpa using e
   ·exact atF_none h g hg
theorem Rel.no {X:List PTop}{T:List zeo}(h:Rel X T){n:List UInt8}(hf:zAo n X 0=none):atF n T 0=none:=by
 cases ha:atF n T 0 with
 | none=>rfl
 | some k=>
  obtain⟨j,y,_,h2,h3⟩:=zAP ha
  obtain⟨p,hp,hr⟩:=h.bw y (List.mem_of_getElem? h2)
  exact absurd (hr.name.trans h3) (ztx hf p hp)
theorem Rel.yes {X:List PTop}{T:List zeo}(h:Rel X T){n:List UInt8}{i:Nat}{p:PTop}(hf:zAo n X 0=some (i,p)):X[i]? = some p/\p.x.name=n/\∃k y,atF n T 0=some k/\T[k]? = some y/\TR p.x y:=by
 obtain⟨j,e,h1,h2⟩:=zyR hf;rw[Nat.zero_add]at e;subst e;refine⟨h1,h2,?_⟩;obtain⟨y,hy,hr⟩:=h.fw p (List.mem_of_getElem? h1);cases ha:atF n T 0 with
 | none=>exact absurd (hr.name.symm.trans h2) (atF_none ha y hy)
 | some k=>
  obtain⟨j,z,e,h3,h4⟩:=zAP ha
  rw[Nat.zero_add]at e;subst e
  have:z=y:=sortK_inj h.sort (List.mem_of_getElem? h3) hy (h4.trans (h2.symm.trans hr.name))
  subst this
  exact⟨k,z,rfl,h3,hr⟩
theorem Rel.set {X:List PTop}{T:List zeo}(h:Rel X T){i k:Nat}{p p':PTop}{y y':zeo}(hp:X[i]? = some p)(hy:T[k]? = some y)(hr:TR p.x y)(hr':TR p'.x y')(hn:p'.x.name=p.x.name):Rel (X.set i p') (T.set k y'):=by
 have hn':y'.name=y.name:=hr'.name.symm.trans (hn.trans hr.name);refine⟨by simp[h.len],sortK_set h.sort hy hn',by rw[zwc hp hn];exact h.nod,fun q hq=>?_,fun z hz=>?_⟩
 ·rcases zpw hq with rfl|⟨j,hj,hx⟩
  ·exact⟨y',mem_set_self' hy,hr'⟩
  ·obtain⟨z,hz,hrz⟩:=h.fw q (List.mem_of_getElem? hx);obtain⟨j2,hj2⟩:=List.mem_iff_getElem?.1 hz;refine⟨z,zpI hj2 fun e=>hj ?_,hrz⟩;subst e;rw[hy]at hj2;cases hj2;exact zrY h.nod hx hp (hrz.name.trans hr.name.symm)
 ·rcases zpw hz with rfl|⟨j,hj,hx⟩
  ·exact⟨p',mem_set_self' hp,hr'⟩
  ·obtain⟨q,hq,hrq⟩:=h.bw z (List.mem_of_getElem? hx);obtain⟨j2,hj2⟩:=List.mem_iff_getElem?.1 hq;refine⟨q,zpI hj2 fun e=>hj ?_,hrq⟩;subst e;rw[hp]at hj2;cases hj2;exact zrY h.sort.nodup hx hy (hrq.name.symm.trans hr.name)
theorem Rel.add {X:List PTop}{T:List zeo}(h:Rel X T){n:List UInt8}(hf:zAo n X 0=none){p:PTop}{y:zeo}(hr:TR p.x y)(hn:y.name=n):Rel (X++[p]) (T.take (lessN n T)++y::T.drop (lessN n T)):=by
 have h1:=ztx hf;have hT:∀a∈T,a.name≠n:=fun a ha e=>by
  obtain⟨q,hq,hrq⟩:=h.bw a ha;exact h1 q hq (hrq.name.trans e)
 have htd:=List.take_append_drop (lessN n T) T;refine⟨?_,?_,?_,fun q hq=>?_,fun z hz=>?_⟩
 ·have h3:=congrArg List.length htd;have h4:=h.len;simp only[List.length_append,List.length_cons,List.length_nil]at h3 ⊢;omega
 ·rw[lessN_K];exact zwf hn h.sort hT
 ·rw[List.map_append,List.nodup_append];refine⟨h.nod,by simp,?_⟩;intro a ha b hb;simp at hb;subst hb;obtain⟨c,hc,rfl⟩:=List.mem_map.1 ha;have:p.x.name=n:=hr.name.trans hn;intro e;exact h1 c hc (e.trans this)
 ·rcases List.mem_append.1 hq with hq|hq
  ·obtain⟨z,hz,hrz⟩:=h.fw q hq;rw[← htd]at hz;refine⟨z,?_,hrz⟩;rcases List.mem_append.1 hz with hz|hz<;>simp[hz]
  ·simp at hq;subst hq;exact⟨y,by simp,hr⟩
 ·rcases List.mem_append.1 hz with hz|hz
  ·obtain⟨q,hq,hrq⟩:=h.bw z (List.mem_of_mem_take hz);exact⟨q,by simp[hq],hrq⟩
  ·rcases List.mem_cons.1 hz with rfl|hz
   ·exact⟨p,by simp,hr⟩
   ·obtain⟨q,hq,hrq⟩:=h.bw z (List.mem_of_mem_drop hz);exact⟨q,by simp[hq],hrq⟩
theorem nodup_le:∀ {l m:List Nat},l.Nodup->(∀x∈l,x∈m)->l.length<=m.length
 | [],m,_,_=>by simp
 | a::r,m,hn,hs=>by
  have ha:=hs a List.mem_cons_self;obtain⟨h1,h2⟩:=List.nodup_cons.1 hn;have:=nodup_le (l:=r) (m:=m.erase a) h2 fun x hx=>(List.mem_erase_of_ne (a:=x) (b:=a) (fun e=>h1 (by rw[← e];exact hx))).2 (hs x (List.mem_cons_of_mem _ hx));rw[List.length_erase_of_mem ha]at this;have:=List.length_pos_of_mem ha;simp only[List.length_cons];omega
def zlF {α:Type} (bs:List Nat) (names:List α) (seen:List Nat) (ys:List α):Prop:=
 seen.length=ys.length/\∀(j:Nat) (b:Nat) (y:α),seen[j]? = some b->ys[j]? = some y->∃i:Nat,bs[i]? = some b/\names[i]? = some y
theorem zlF.nil {α:Type}{bs:List Nat}{names:List α}:zlF bs names [] []:=⟨rfl,by simp⟩
theorem zlF.snoc {α:Type}{bs:List Nat}{names:List α}{seen:List Nat}{ys:List α}(h:zlF bs names seen ys){i b:Nat}{y:α}(h1:bs[i]? = some b)(h2:names[i]? = some y):zlF bs names (seen++[b]) (ys++[y]):=by
 refine⟨by simp[h.1],fun j c z hc hz=>?_⟩;rw[List.getElem?_append]at hc hz;split at hc
 ·rename_i hj;rw[if_pos (by rw[← h.1];exact hj)]at hz;exact h.2 j c z hc hz
 ·rename_i hj;rw[if_neg (by rw[← h.1];exact hj)]at hz;have e1:=(List.getElem?_eq_some_iff.1 hc).1;simp only[List.length_cons,List.length_nil]at e1;rw[h.1]at hc hj e1;have e:j-ys.length=0:=by omega
  rw[e]at hc hz;simp at hc hz;subst hc;subst hz;exact⟨i,h1,h2⟩
theorem zlF.sub {α:Type}{bs:List Nat}{names:List α}{seen:List Nat}{ys:List α}(h:zlF bs names seen ys):∀b∈seen,b∈bs:=by
 intro b hb;obtain⟨j,hj⟩:=List.mem_iff_getElem?.1 hb;have hl:=(List.getElem?_eq_some_iff.1 hj).1;rw[h.1]at hl;obtain⟨i,h1,_⟩:=h.2 j b _ hj (List.getElem?_eq_getElem hl);exact List.mem_of_getElem? h1
theorem zlF.lt {α:Type}{bs:List Nat}{names:List α}{seen:List Nat}{ys:List α}(h:zlF bs names seen ys)(hn:seen.Nodup)(hl:bs.length=names.length){b:Nat}(h1:b∈bs)(h2:b∉seen):ys.length<names.length:=by
 have:=nodup_le (l:=b::seen) (m:=bs) (List.nodup_cons.2 ⟨h2,hn⟩) fun x hx=>by
  rcases List.mem_cons.1 hx with rfl|hx
  ·exact h1
  ·exact h.sub x hx
 simp only[List.length_cons]at this;rw[← hl,← h.1];omega
theorem nodup_get {l:List Nat}(h:l.Nodup){i j x:Nat}(hi:l[i]? = some x)(hj:l[j]? = some x):i=j:=by
 obtain⟨a,b⟩:=List.getElem?_eq_some_iff.1 hi;obtain⟨c,d⟩:=List.getElem?_eq_some_iff.1 hj;rcases Nat.lt_trichotomy i j with hij|hij|hij
 ·exact absurd (b.trans d.symm) (List.pairwise_iff_getElem.1 h i j a c hij)
 ·exact hij
 ·exact absurd (d.trans b.symm) (List.pairwise_iff_getElem.1 h j i c a hij)
theorem zvC {α:Type}:∀ {l:List Nat} {m:List α},l.Nodup->(l.zip m).Nodup
 | [],_,_=>by simp
 | _::_,[],_=>by simp
 | a::l,b::m,h=>by
  obtain⟨h1,h2⟩:=List.nodup_cons.1 h;rw[List.zip_cons_cons,List.nodup_cons];exact⟨fun hm=>h1 (List.of_mem_zip hm).1,zvC h2⟩
theorem zlF.perm {α:Type}{bs:List Nat}{names:List α}{seen:List Nat}{ys:List α}(h:zlF bs names seen ys)(hn:seen.Nodup)(hb:bs.Nodup)(hl:bs.length=names.length)(ha:∀b∈bs,b∈seen):ys.Perm names:=by
 have key:∀(i:Nat) b y,bs[i]? = some b->names[i]? = some y->(b,y)∈bs.zip names:=fun i b y h1 h2=>List.mem_iff_getElem?.2 ⟨i,List.getElem?_zip_eq_some.2 ⟨h1,h2⟩⟩;have hp:(seen.zip ys).Perm (bs.zip names):=by
  refine(List.perm_ext_iff_of_nodup (zvC hn) (zvC hb)).2 fun p=>?_;obtain⟨b,y⟩:=p;constructor
  ·intro hm;obtain⟨j,hj⟩:=List.mem_iff_getElem?.1 hm;obtain⟨h1,h2⟩:=List.getElem?_zip_eq_some.1 hj;obtain⟨i,h3,h4⟩:=h.2 j b y h1 h2;exact key i b y h3 h4
  ·intro hm;obtain⟨j,hj⟩:=List.mem_iff_getElem?.1 hm;obtain⟨h1,h2⟩:=List.getElem?_zip_eq_some.1 hj;obtain⟨k,hk⟩:=List.mem_iff_getElem?.1 (ha b (List.mem_of_getElem? h1));have hkl:=(List.getElem?_eq_some_iff.1 hk).1;rw[h.1]at hkl;obtain⟨i,h3,h4⟩:=h.2 k b _ hk (List.getElem?_eq_getElem hkl);have:=nodup_get hb h1 h3;subst this;rw[h2]at h4;refine List.mem_iff_getElem?.2 ⟨k,List.getElem?_zip_eq_some.2 ⟨hk,?_⟩⟩;rw[List.getElem?_eq_getElem hkl,h4]
 have:=hp.map Prod.snd;rwa [List.map_snd_zip (by rw[h.1];exact Nat.le_refl _),List.map_snd_zip (by rw[hl];exact Nat.le_refl _)]at this
theorem sum_pos {l:List (List UInt8)}{b:List UInt8}(h:zgw l b≠0):∃i:Nat,zgw l b=((i+1:Nat):Int)/\zge (zfb l b) b=some i/\(zfb l b)[i]? = some b:=by
 unfold zgw at h ⊢;unfold zfb;cases ho:zge l b with
 | some i=>exact⟨i,rfl,ho,(zpJ ho).2⟩
 | none=>
  simp only[ho]at h
  simp only
  split at h
  ·exact absurd rfl h
  ·rename_i hl
   rw[if_neg hl,if_neg hl]
   exact⟨l.length,rfl,look_new l b ho,by simp⟩
def splitA:Nat->Nat->Nat->Nat
 | 0,k,_=>k
 | f+1,k,n=>if k<n-k then splitA f (k*2) n else k
def zcD (n:Nat):Nat:=if n<2 then 0 else splitA n 1 n
theorem splitA_lt:∀(f k n:Nat),1<=k->k<n→1<=splitA f k n/\splitA f k n<n
 | 0,k,n,h1,h2=>⟨h1,h2⟩
 | f+1,k,n,h1,h2=>by
  simp only[splitA];split
  ·exact splitA_lt f (k*2) n (by omega) (by omega)
  ·exact⟨h1,h2⟩
theorem splitF_lt {n:Nat}(h:2<=n):1<=zcD n/\zcD n<n:=by
 rw[zcD,if_neg (by omega)];exact splitA_lt n 1 n (by omega) (by omega)
def leafB (b:List UInt8):List UInt8:=0::b
def nodeB (l r:Int):List UInt8:=1::(zbt l.toNat++zbt r.toNat)
def zlS:Nat->List (List UInt8)->List (List UInt8)->Int × List (List UInt8)
 | _,L,[]=>(zgw L [2],zfb L [2])
 | _,L,[x]=>(zgw L (leafB x),zfb L (leafB x))
 | 0,L,_=>(0,L)
 | f+1,L,l=>
  let a:=zlS f L (l.take (zcD l.length))
  let b:=zlS f a.2 (l.drop (zcD l.length))
  (zgw b.2 (nodeB a.1 b.1),zfb b.2 (nodeB a.1 b.1))
def rootF (L l:List (List UInt8)):Int × List (List UInt8):=zlS l.length L l
theorem zpx:∀(f g:Nat) (L l:List (List UInt8)),l.length<=f->l.length<=g->zlS f L l=zlS g L l
 | f,g,L,[],_,_=>by cases f<;>cases g<;>rfl
 | f,g,L,[x],_,_=>by cases f<;>cases g<;>rfl
 | 0,_,L,x::y::r,h,_=>by simp at h
 | _,0,L,x::y::r,_,h=>by simp at h
 | f+1,g+1,L,x::y::r,h1,h2=>by
  have hs:=splitF_lt (n:=(x::y::r).length) (by simp);have e:=zpx f g L ((x::y::r).take (zcD (x::y::r).length)) (by rw[List.length_take];omega) (by rw[List.length_take];omega);simp only[zlS,e];rw[zpx f g (zlS g L ((x::y::r).take (zcD (x::y::r).length))).2 ((x::y::r).drop (zcD (x::y::r).length)) (by rw[List.length_drop];omega) (by rw[List.length_drop];omega)]
theorem rootF_2 {L l:List (List UInt8)}(h:2<=l.length):rootF L l=(zgw (rootF (rootF L (l.take (zcD l.length))).2 (l.drop (zcD l.length))).2 (nodeB (rootF L (l.take (zcD l.length))).1 (rootF (rootF L (l.take (zcD l.length))).2 (l.drop (zcD l.length))).1),
  zfb (rootF (rootF L (l.take (zcD l.length))).2 (l.drop (zcD l.length))).2 (nodeB (rootF L (l.take (zcD l.length))).1 (rootF (rootF L (l.take (zcD l.length))).2 (l.drop (zcD l.length))).1)):=by
 have hs:=splitF_lt h;have h1:(l.take (zcD l.length)).length=zcD l.length:=by rw[List.length_take];omega
 have h2:(l.drop (zcD l.length)).length=l.length-zcD l.length:=List.length_drop;obtain⟨m,hm⟩:∃m,l.length=m+1:=⟨l.length-1,by omega⟩;have e:∀l:List (List UInt8),2<=l.length->∀m,zlS (m+1) L l=(zgw (zlS m (zlS m L (l.take (zcD l.length))).2 (l.drop (zcD l.length))).2 (nodeB (zlS m L (l.take (zcD l.length))).1 (zlS m (zlS m L (l.take (zcD l.length))).2 (l.drop (zcD l.length))).1),zfb (zlS m (zlS m L (l.take (zcD l.length))).2 (l.drop (zcD l.length))).2 (nodeB (zlS m L (l.take (zcD l.length))).1 (zlS m (zlS m L (l.take (zcD l.length))).2 (l.drop (zcD l.length))).1)):=by
  intro l hl m;match l,hl with
  | x::y::r,_=>simp only[zlS]
 have f1:=zpx m (l.take (zcD l.length)).length L (l.take (zcD l.length)) (by omega) (Nat.le_refl _);have f2:=fun L'=>zpx m (l.drop (zcD l.length)).length L' (l.drop (zcD l.length)) (by omega) (Nat.le_refl _);have f0:zlS l.length L l=zlS (m+1) L l:=by rw[hm]
 unfold rootF;rw[f0,e l h m,f1,f2]
theorem rootF_0 (L:List (List UInt8)):rootF L []=(zgw L [2],zfb L [2]):=rfl
theorem rootF_1 (L:List (List UInt8))(x:List UInt8):rootF L [x]=(zgw L (leafB x),zfb L (leafB x)):=rfl
structure znJ where
 header:zsU
 batch:List zr
 placed:List znA
theorem zfm {α:Type}{f:α->List D}(h:∀a,1<=zcP (f a)):∀(l:List α),l.length<=zdp (l.map f)
 | []=>Nat.zero_le _
 | a::l=>by have:=h a;have:=zfm h l;simp only[List.map_cons,List.length_cons,zdp];omega
theorem zhi {α:Type}{f:α->List D}{a:α}:∀ {l:List α},a∈l->zcP (f a)<=zdp (l.map f)
 | b::l,h=>by
  simp only[List.map_cons,zdp];rcases List.mem_cons.1 h with rfl|h
  ·omega
  ·have:=zhi (f:=f) h;omega
theorem zqy (rs:List (List UInt8)):rs.length<=zdp (zdv rs)/\∀r∈rs,r.length<=zdp (zdv rs):=by
 refine⟨zfm (f:=fun r=>[D.slice (bcs r)]) (fun r=>by simp only[zcP,zfT];omega) rs,fun r hr=>?_⟩;have:=zhi (f:=fun r=>[D.slice (bcs r)]) hr;simp only[zcP,zfT,zvy]at this;unfold zdv;omega
def leB (n:Nat) (b:List zr):Prop:=b.length<=n/\∀x∈b,x.op.recs.length<=n/\∀r∈x.op.recs,r.length<=n
theorem leB_bulk {b:List zr}{n:Nat}(h:zdp (zbA b)<=n):leB n b:=by
 unfold zbA at h;refine⟨Nat.le_trans (zfm (f:=zay) (fun a=>by simp only[zay,zcP,zfT];omega) b) h,fun x hx=>?_⟩;have:=zhi (f:=zay) hx;simp only[zay,zcP,zfT]at this;have h2:=zqy x.op.recs;refine⟨by omega,fun r hr=>?_⟩;have:=h2.2 r hr;omega
theorem signs_bulk (l:List zK):l.length<=zdp (zat l):=zfm (f:=zgo) (fun a=>by simp only[zgo,zcP,zfT];omega) l
theorem zpq {q:PQ}{n:Nat}{o:Option zr}(h:q[n]? = some o):zfC q=zfC (q.take n)++(o.toList++zfC (q.drop (n+1))):=by
 obtain⟨hn,rfl⟩:=List.getElem?_eq_some_iff.1 h;have e:q=q.take n++q[n]::q.drop (n+1):=by rw[List.getElem_cons_drop];exact(List.take_append_drop n q).symm
 conv=>lhs;rw[e]
 simp only[zfC,List.filterMap_append,List.filterMap_cons,id_eq];cases q[n]<;>rfl
theorem zvk {q:PQ}{n:Nat}(o:Option zr)(h:n<q.length):zfC (q.set n o)=zfC (q.take n)++(o.toList++zfC (q.drop (n+1))):=by
 have:=zpq (q:=q.set n o) (n:=n) (o:=o) (by simp[h]);rwa [List.take_set_of_le (Nat.le_refl _),List.drop_set_of_lt (by omega)]at this
theorem zjZ.before {q:PQ}(hq:zjZ q){n:Nat}{y:zr}(h:y∈zfC (q.take n)):y.client<n:=by
 obtain⟨i,hi⟩:=zrH h;rw[List.getElem?_take]at hi;split at hi
 ·have:=(hq.at_ i y hi).1;omega
 ·cases hi
theorem zjZ.behind {q:PQ}(hq:zjZ q){n:Nat}{y:zr}(h:y∈zfC (q.drop (n+1))):(n:Int)<y.client:=by
 obtain⟨i,hi⟩:=zrH h;rw[List.getElem?_drop]at hi;have:=(hq.at_ _ y hi).1;omega
theorem of_wait {q:PQ}{c:Int}{x:zr}(h:ofF q c=some x):x∈zfC q:=by
 obtain⟨_,_,h⟩:=ofF_some h;simp only[zfC,List.mem_filterMap,id_eq,exists_eq_right];exact List.mem_of_getElem? h
theorem zjZ.client {q:PQ}(hq:zjZ q){c:Int}{x:zr}(h:ofF q c=some x):x.client=c:=by
 obtain⟨h0,h8,hg⟩:=ofF_some h;have:=(hq.at_ _ x hg).1;omega
theorem zjZ.of_none {q:PQ}(hq:zjZ q){c:Int}(h:∀y∈zfC q,y.client≠c):ofF q c=none:=by
 cases ho:ofF q c with
 | none=>rfl
 | some x=>exact absurd (hq.client ho) (h x (of_wait ho))
theorem zyS {α:Type}{l:List α}{p:α->Bool}(h:∀x∈l,p x=true):l.filter p=l:=List.filter_eq_self.2 h
theorem zjZ.without {q:PQ}(hq:zjZ q){c:Int}(h0:0<=c)(h8:c<8):(zfC q).filter (fun y=>y.client != c)=zfC (q.set c.toNat none):=by
 have hl:=hq.len;have hg:=hq.get h0 h8;rw[zpq hg,zvk none (by omega)];simp only[List.filter_append,Option.toList_none,List.nil_append];rw[zyS (l:=zfC (q.take c.toNat)) fun y hy=>by have:=hq.before hy;simp;omega,zyS (l:=zfC (q.drop (c.toNat+1))) fun y hy=>by have:=hq.behind hy;simp;omega];congr 1;cases ho:ofF q c with
 | none=>rfl
 | some x=>simp[hq.client ho]
theorem zjZ.place {q:PQ}(hq:zjZ q){c:Int}(h0:0<=c)(h8:c<8){k:Nat}(hlo:∀y∈(zfC (q.set c.toNat none)).take k,y.client<c)(hk:k<=(zfC (q.set c.toNat none)).length)
  (hhi:∀y,(zfC (q.set c.toNat none))[k]? = some y->¬y.client<c) (x:zr) :
  (zfC (q.set c.toNat none)).take k++(x::(zfC (q.set c.toNat none)).drop k)=zfC (q.set c.toNat (some x)):=by
 have hl:=hq.len;have e:=zvk (q:=q) none (show c.toNat<q.length by omega);have e2:=zvk (q:=q) (some x) (show c.toNat<q.length by omega);simp only[Option.toList_none,List.nil_append,Option.toList_some]at e e2;obtain⟨A,hA⟩:∃A,zfC (q.take c.toNat)=A:=⟨_,rfl⟩;obtain⟨B,hB⟩:∃B,zfC (q.drop (c.toNat+1))=B:=⟨_,rfl⟩;have hAlt:∀y∈A,y.client<c:=fun y hy=>by rw[← hA]at hy;have:=hq.before hy;omega
 have hBgt:∀y∈B,c<y.client:=fun y hy=>by rw[← hB]at hy;have:=hq.behind hy;omega
 rw[hA,hB]at e e2;rw[e]at hlo hk hhi ⊢;rw[e2];have hkA:k=A.length:=by
  rcases Nat.lt_trichotomy k A.length with h|h|h
  ·exact absurd (hAlt A[k] (List.getElem_mem h)) (hhi A[k] (by rw[List.getElem?_append_left h];simp[h]))
  ·exact h
  ·exfalso;rw[List.length_append]at hk;have hb:B[0]? = some (B[0]'(by omega)):=List.getElem?_eq_getElem _;have hm:B[0]'(by omega)∈(A++B).take k:=by
    refine List.mem_of_getElem? (i:=A.length) ?_;rw[List.getElem?_take,if_pos h,List.getElem?_append_right (Nat.le_refl _),Nat.sub_self];exact hb
   have h1:=hlo _ hm;have h2:=hBgt _ (List.getElem_mem (show 0<B.length by omega));omega
 subst hkA;simp
def prevC (w:List zr):Nat->Int
 | 0=>-1
 | k+1=>match w[k]? with|some x=>x.client|none=>-1
theorem zjZ.push {q:PQ}(hq:zjZ q){x:zr}(hx:zD [x]=0)(hlt:∀y∈zfC q,y.client<x.client):canPut q x=true/\zfC (putQ q x)=zfC q++[x]:=by
 obtain⟨h0,h8,_⟩:=one_ok hx;have hl:=hq.len;have hno:ofF q x.client=none:=hq.of_none fun y hy=>by have:=hlt y hy;omega
 have hc:canPut q x=true:=by simp[canPut,hx,hno,mayPut]
 refine⟨hc,?_⟩;have hg:=hq.get h0 h8;rw[hno]at hg;rw[putQ,if_pos hc,zvk _ (by omega),zpq hg];have hB:zfC (q.drop (x.client.toNat+1))=[]:=by
  rw[List.eq_nil_iff_forall_not_mem];intro y hy;have h1:=hq.behind hy;have h2:=hlt y (by rw[zpq hg];simp[hy]);omega
 rw[hB];simp
theorem zjZ.prev {q:PQ}(hq:zjZ q){k:Nat}{x:zr}(hx:(zfC q)[k]? = some x):prevC (zfC q) k<x.client:=by
 have hxm:=List.mem_of_getElem? hx;obtain⟨i,hi⟩:=zrH hxm;have hxc:=(hq.at_ i x hi).1;cases k with
 | zero=>simp only[prevC];omega
 | succ k=>
  have hk:=(List.getElem?_eq_some_iff.1 hx).1
  have hy:(zfC q)[k]? = some ((zfC q)[k]'(by omega)):=List.getElem?_eq_getElem _
  simp only[prevC,hy]
  have hp:(zfC q).Pairwise fun a b=>a.client<b.client:=by
   have key:∀(l:PQ) (a:Nat),(∀(i:Nat) x,l[i]? = some (some x)->x.client=((a+i:Nat):Int))->(l.filterMap id).Pairwise fun a b=>a.client<b.client:=by
    intro l;induction l with
    | nil=>intro a _;simp
    | cons o l ih=>
     intro a h
     have hr:=ih (a+1) fun i x hi=>by have:=h (i+1) x (by simpa using hi);rw[this];congr 1;omega
     cases o with
     | none=>simpa using hr
     | some x=>
      simp only[List.filterMap_cons,id_eq,List.pairwise_cons]
      refine⟨fun y hy=>?_,hr⟩
      obtain⟨j,hj⟩:=zrH (q:=l) hy
      have h1:=h 0 x rfl
      have h2:=h (j+1) y (by simpa using hj)
      omega
   exact key q 0 fun i x hi=>by have:=(hq.at_ i x hi).1;simpa using this
  have:=List.pairwise_iff_getElem.1 hp k (k+1) (by omega) hk (by omega)
  obtain⟨_,rfl⟩:=List.getElem?_eq_some_iff.1 hx
  exact this
theorem okB_bulk {b:List zr}{n:Nat}(h:zdp (zbA b)<=n)(hn:n<=1048576):okB b:=by
 obtain⟨h1,h2⟩:=leB_bulk h;refine⟨by omega,fun x hx=>?_⟩;obtain⟨h3,h4⟩:=h2 x hx;unfold zbA at h;have:=zhi (f:=zay) hx;simp only[zay,zcP,zfT]at this;exact⟨by omega,by omega,by omega,fun r hr=>by have:=h4 r hr;omega⟩
structure TStep where
 what:Int
 s:zr
 client:Int
 time:Int
 opn:List (List zr)
def inF (s:Nat) (b:Int):Bool:=decide (0<=b/\b<13/\s / 2 ^ b.toNat % 2=1)
def memN (s:Nat) (k:Nat):List Int:=((List.range k).map Int.ofNat).filter (inF s)
def memF (s:Nat):List Int:=memN s 13
theorem memN_next (s k:Nat):memN s (k+1)=memN s k++if inF s (k:Int)=true then [(k:Int)]else []:=by
 simp only[memN,List.range_succ,List.map_append,List.filter_append,List.map_cons,List.map_nil];congr 1;show List.filter (inF s) [(k:Int)]=_;rw[List.filter_cons];split<;>rfl
theorem memN_len (s k:Nat):(memN s k).length<=k:=by
 have:=List.length_filter_le (inF s) ((List.range k).map Int.ofNat);simpa [memN] using this
def zvF (n:Nat):List Int:=(List.range n).map Int.ofNat
theorem uptoL_next (n:Nat):zvF (n+1)=zvF n++[(n:Int)]:=by
 simp[zvF,List.range_succ]
def zmo (L:List (List UInt8)) (b:List UInt8) (d:Int):Prop:=∃i,zge L b=some i/\d=((i+1:Nat):Int)
theorem zmo.pre {L L':List (List UInt8)}{b:List UInt8}{d:Int}(h:zmo L b d)(hp:L <+: L'):zmo L' b d:=by
 obtain⟨i,h1,h2⟩:=h;obtain⟨m,rfl⟩:=hp;exact⟨i,look_more h1,h2⟩
theorem zmo.pos {L:List (List UInt8)}{b:List UInt8}{d:Int}(h:zmo L b d):1<=d/\d<=L.length:=by
 obtain⟨i,h1,h2⟩:=h;have:=(zpJ h1).1;omega
theorem zmo.inj {L:List (List UInt8)}{a b:List UInt8}{d:Int}(ha:zmo L a d)(hb:zmo L b d):a=b:=by
 obtain⟨i,h1,h2⟩:=ha;obtain⟨j,h3,h4⟩:=hb;have:i=j:=by omega
 subst this;have:=(zpJ h1).2;rw[(zpJ h3).2]at this;exact(Option.some.inj this).symm
theorem zmo.one {L:List (List UInt8)}{b:List UInt8}{d e:Int}(ha:zmo L b d)(hb:zmo L b e):d=e:=by
 obtain⟨i,h1,h2⟩:=ha;obtain⟨j,h3,h4⟩:=hb;rw[h1]at h3;cases h3;omega
theorem zmo.sum {L:List (List UInt8)}{b:List UInt8}{d:Int}(h:zmo L b d):zgw L b=d/\zfb L b=L:=by
 obtain⟨i,h1,h2⟩:=h;unfold zgw zfb;rw[h1];exact⟨by simp only;omega,rfl⟩
theorem sumL_ext (L:List (List UInt8))(b:List UInt8):L <+: zfb L b:=by
 unfold zfb;split
 ·exact List.prefix_refl L
 ·split
  ·exact List.prefix_refl L
  ·exact List.prefix_append ..
inductive zmT (L:List (List UInt8)):List (List UInt8)->Int->Prop
 | nil (d:Int):zmo L [2] d->zmT L [] d
 | one (x:List UInt8) (d:Int):zmo L (leafB x) d->zmT L [x] d
 | two (l:List (List UInt8)) (a b d:Int):2<=l.length->zmT L (l.take (zcD l.length)) a->zmT L (l.drop (zcD l.length)) b->zmo L (nodeB a b) d->zmT L l d
theorem zmT.pre {L L':List (List UInt8)}{l:List (List UInt8)}{d:Int}(h:zmT L l d)(hp:L <+: L'):zmT L' l d:=by
 induction h with
 | nil d h=>exact .nil d (h.pre hp)
 | one x d h=>exact .one x d (h.pre hp)
 | two l a b d h2 _ _ hn ih1 ih2=>exact .two l a b d h2 ih1 ih2 (hn.pre hp)
theorem zmT.num {L l:List (List UInt8)}{d:Int}(h:zmT L l d):1<=d/\d<=L.length:=by
 cases h with
 | nil _ h=>exact h.pos
 | one _ _ h=>exact h.pos
 | two _ _ _ _ _ _ _ h=>exact h.pos
theorem zmT.rootF {L l:List (List UInt8)}{d:Int}(h:zmT L l d):rootF L l=(d,L):=by
 induction h with
 | nil d h=>rw[rootF_0,h.sum.1,h.sum.2]
 | one x d h=>rw[rootF_1,h.sum.1,h.sum.2]
 | two l a b d h2 _ _ hn ih1 ih2=>rw[rootF_2 h2,ih1];simp only;rw[ih2];simp only;rw[hn.sum.1,hn.sum.2]
theorem zqV:∀(n:Nat) (A:List Int),A.Nodup->(∀x∈A,0<=x/\x<n)->A.length<=(zvF n).countP (fun i=>decide (i∈A))
 | 0,A,_,h=>by
  cases A with
  | nil=>simp
  | cons x A=>have:=h x (by simp);omega
 | n+1,A,hA,h=>by
  have hE:(A.erase (n:Int)).Nodup:=hA.erase _;have ih:=zqV n (A.erase (n:Int)) hE fun x hx=>by
   have:=(List.Nodup.mem_erase_iff hA).1 hx;have:=h x this.2;omega
  have hm:(zvF n).countP (fun i=>decide (i∈A.erase (n:Int)))<=(zvF n).countP (fun i=>decide (i∈A)):=
   List.countP_mono_left fun x hx hp=>by
    have hp:x∈A.erase (n:Int):=by simpa using hp
    simpa using List.mem_of_mem_erase hp
  rw[uptoL_next,List.countP_append];by_cases hn:(n:Int)∈A
  ·have e:[(n:Int)].countP (fun i=>decide (i∈A))=1:=by simp[List.countP_cons,hn]
   have l:=List.length_erase_of_mem hn;have:0<A.length:=List.length_pos_of_mem hn;omega
  ·rw[List.erase_of_not_mem hn]at ih hm;omega
end Go.AW
