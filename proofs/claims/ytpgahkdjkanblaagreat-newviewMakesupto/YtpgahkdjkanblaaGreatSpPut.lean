/- The bytes of view-changes and new views, and how many they are at most. No program in sight. -/
import Derived.Test.YtpgahkdjkanblaaGreatSpMsg
import Derived.Test.YtpgahkdjkanblaaGreatSpTab
import Derived.Test.YtpgahkdjkanblaaGreatCk2
import Derived.Test.YtpgahkdjkanblaaGreatRq1
import Derived.Test.YtpgahkdjkanblaaGreatCodec1
set_option linter.all false
namespace Go.AW
theorem zyN:∀ {f:Nat} {s:List UInt8} {n:Nat},zfz f s=some n->s.length<=4 * n
 | 0,_,_,h=>by simp [zfz] at h
 | f+1,s,n,h=>by
  unfold zfz at h
  split at h
  ·rename_i h0;simp [h0]
  ·split at h
   ·cases h
   ·simp only [Option.map_eq_some_iff] at h
    obtain ⟨k,hk,rfl⟩:=h
    have h1:=zyN hk
    have h2:=zmy s
    simp only [List.length_drop] at h1
    omega
theorem name64 {s:List UInt8} (h:zjN s=true):s.length<=64:=by
 unfold zjN ziL at h
 simp only [decide_eq_true_eq] at h
 split at h
 ·rename_i n hn
  have:=zyN hn
  split at h
  ·omega
  ·omega
 ·omega
theorem op_small {o:TOp} (h:zcP zjN o=0):zlh o<=500:=by
 obtain ⟨k0,k4,o0,o1,ho⟩:=zvk h
 unfold zcP at h
 split at h
 ·cases h
 split at h
 ·cases h
 rename_i h1
 split at h
 ·cases h
 rename_i h2
 split at h
 ·cases h
 rename_i h3
 have e1:o.topic=(zoP o).topic:=congrArg _ ho
 have e2:o.group=(zoP o).group:=congrArg _ ho
 have e3:o.recs=(zoP o).recs:=congrArg _ ho
 have hk:o.kind=0 ∨ o.kind=1 ∨ o.kind=2 ∨ o.kind=3 ∨ o.kind=4:=by omega
 have ht:o.kind ≠ 0->o.topic.length<=64:=fun hk=>name64 (by simpa [hk] using h1)
 have hg:o.kind=3->o.group.length<=64:=fun hk=>name64 (by simpa [hk] using h2)
 have hr:o.kind=2->(o.recs.map fun r=>r.length+10).sum<=296:=by
  intro hk
  simp only [hk,true_and,not_or,Int.not_lt] at h3
  obtain ⟨h4,h5,h6⟩:=h3
  have h7:∀ r ∈ o.recs,r.length<=64:=by
   intro r hr
   simp only [List.any_eq_true,not_exists,not_and,decide_eq_true_eq] at h6
   have:=h6 r hr
   omega
  have key:∀ l:List (List UInt8),(∀ r ∈ l,r.length<=64)->(l.map fun r=>r.length+10).sum<=l.length * 74:=by
   intro l
   induction l with
   | nil=>simp
   | cons r l ih =>
    intro h
    have h8:=ih fun r hr=>h r (by simp [hr])
    have h9:=h r (by simp)
    simp only [List.map_cons,List.sum_cons,List.length_cons]
    omega
  have:=key o.recs h7
  have:o.recs.length * 74<=4 * 74:=Nat.mul_le_mul_right _ (by omega)
  omega
 unfold zlh
 rcases hk with hk | hk | hk | hk | hk
 ·simp [zoP,hk,noOp] at e1 e2 e3;simp [e1,e2,e3]
 ·simp [zoP,hk,noOp] at e1 e2 e3;have:=ht (by omega);simp [e2,e3];omega
 ·simp [zoP,hk,noOp] at e1 e2 e3;have:=ht (by omega);have:=hr hk;simp only [e2,List.length_nil];omega
 ·simp [zoP,hk,noOp] at e1 e2 e3;have:=ht (by omega);have:=hg hk;simp [e3];omega
 ·simp [zoP,hk,noOp] at e1 e2 e3;have:=ht (by omega);simp [e2,e3];omega
theorem zdQ {α β:Type} {f : α->List β} {n:Nat} {l:List α} (h:∀ x ∈ l,(f x).length<=n):((l.map f).flatten).length<=l.length * n:=by
 induction l with
 | nil=>simp
 | cons x l ih =>
  have h1:=ih fun y hy=>h y (by simp [hy])
  have h2:=h x (by simp)
  simp only [List.map_cons,List.flatten_cons,List.length_append,List.length_cons,Nat.add_mul,Nat.one_mul]
  omega
theorem zgN {l:List zJ} (h:zD l=0):(∀ x ∈ l,zlh x.op<=500)/\(zcy l).length<=4000:=by
 obtain ⟨h4,hm,_⟩:=zjX h
 have hz:∀ x ∈ l,zlh x.op<=500:=fun x hx=>op_small (req_ok (hm x hx).1).2.2.2.2
 refine ⟨hz,?_⟩
 have h1:∀ x ∈ l,(oneB x).length<=700:=by
  intro x hx
  have a:=zzJ (Nat.le_trans (hz x hx) (by omega)) (hm x hx).1
  have b:=zfv (hm x hx).2
  have c:=ziw (x:=reqB x) (by have:=hz x hx;omega)
  have:=hz x hx
  simp only [oneB,List.length_append];omega
 have h2:(zdu l).length<=l.length * 700:=zdQ h1
 have:l.length * 700<=4 * 700:=Nat.mul_le_mul_right _ h4
 have n1:=zp (n:=l.length) (by omega)
 simp only [zcy,List.length_append];omega
theorem fstE_mem {l:List Int} (h:zbn l=0):∀ e ∈ l,e=0:=by
 induction l with
 | nil=>simp
 | cons x l ih =>
  unfold zbn at h
  split at h
  ·rename_i hx;exact absurd h hx
  ·rename_i hx
   intro e he
   rcases List.mem_cons.1 he with rfl | he
   ·simpa using hx
   ·exact ih h e he
def zvx (l:List zK):List UInt8:=zcI l.length++(l.map fun s=>zfR s.key s.dig).flatten
def zwC (c:zft):List UInt8:=zcI c.seq.toNat++(zcI c.dig.toNat++zvx c.signs)
def zuY (p:zcb):List UInt8:=zcI p.view.toNat++(zcI p.seq.toNat++(zcI p.dig.toNat++(zfR p.fkey p.fdig++(zvx p.signs++zcy p.batch))))
def ztT (c:zU):List UInt8:=zcI c.view.toNat++(zcI c.src.toNat++(zwC c.cert++(zcI c.above.length++(c.above.map zuY).flatten)))
def zgb (c:zU):List UInt8:=ztT c++zfR c.key c.dig
def zny (x:zbL):List UInt8:=zcI x.view.toNat++(zcI x.seq.toNat++(zcy x.batch++zfR x.key x.dig))
def newvB (m:zee):List UInt8:=zcI m.src.toNat++(zcI m.view.toNat++(zcI m.changes.length++((m.changes.map zgb).flatten++(zcI m.entries.length++(m.entries.map zny).flatten))))
theorem zzA {l:List zK} (h:∀ e ∈ zcC l,e=0):l.length<=13/\∀ s ∈ l,zS s.key s.dig=0:=by
 refine ⟨?_,fun s hs=>h _ (List.mem_cons_of_mem _ (List.mem_map_of_mem hs))⟩
 have:=zzS (h _ List.mem_cons_self)
 omega
theorem zqd {l:List zK} (h:∀ e ∈ zcC l,e=0):(zvx l).length<=270:=by
 obtain ⟨h1,h2⟩:=zzA h
 have h3:((l.map fun s=>zfR s.key s.dig).flatten).length<=l.length * 20:=zdQ fun s hs=>zfv (h2 s hs)
 have n1:=zp (n:=l.length) (by omega)
 have:l.length * 20<=13 * 20:=Nat.mul_le_mul_right _ h1
 simp only [zvx,List.length_append];omega
theorem cert_ok {c:zft} (h:∀ e ∈ zcX c,e=0):(0<=c.seq/\c.seq<=9007199254740992)/\(0<=c.dig/\c.dig<=9007199254740992)/\∀ e ∈ zcC c.signs,e=0 :=
 ⟨numE_0 (h _ (by simp [zcX])),numE_0 (h _ (by simp [zcX])),fun e he=>h e (by simp only [zcX,List.mem_cons];exact .inr (.inr (.inr he)))⟩
theorem zwB {c:zft} (h:∀ e ∈ zcX c,e=0):(zwC c).length<=290:=by
 obtain ⟨h1,h2,h3⟩:=cert_ok h
 have:=zqd h3
 have n1:=zp (n:=c.seq.toNat) (by omega)
 have n2:=zp (n:=c.dig.toNat) (by omega)
 simp only [zwC,List.length_append];omega
theorem posE_0 {n:Int} (h:zrN n=0):1<=n/\n<=9007199254740992:=zzS h
structure prepOkE (p:zcb):Prop where
 view:0<=p.view/\p.view<=9007199254740992
 seq:1<=p.seq/\p.seq<=9007199254740992
 dig:1<=p.dig/\p.dig<=9007199254740992
 first:zS p.fkey p.fdig=0
 signs:∀ e ∈ zcC p.signs,e=0
 batch:zD p.batch=0
theorem prep_ok {p:zcb} (h:∀ e ∈ zef p,e=0):prepOkE p :=
 ⟨numE_0 (h _ (by simp [zef])),posE_0 (h _ (by simp [zef])),posE_0 (h _ (by simp [zef])),h _ (by simp [zef]),fun e he=>h e (by simp only [zef,List.mem_cons,List.mem_append];exact .inr (.inr (.inr (.inr (.inl he))))),h _ (by simp [zef])⟩
theorem zvB {p:zcb} (h:∀ e ∈ zef p,e=0):(zuY p).length<=4400:=by
 obtain ⟨h1,h2,h3,h4,h5,h6⟩:=prep_ok h
 have:=zqd h5
 have:=zfv h4
 have:=(zgN h6).2
 have n1:=zp (n:=p.view.toNat) (by omega)
 have n2:=zp (n:=p.seq.toNat) (by omega)
 have n3:=zp (n:=p.dig.toNat) (by omega)
 simp only [zuY,List.length_append];omega
structure bodyOkE (c:zU):Prop where
 view:1<=c.view/\c.view<=9007199254740992
 src:0<=c.src/\c.src<=12
 cert:∀ e ∈ zcX c.cert,e=0
 many:c.above.length<=8
 above:∀ p ∈ c.above, ∀ e ∈ zef p,e=0
theorem body_ok {c:zU} (h:∀ e ∈ zez c,e=0):bodyOkE c:=by
 refine ⟨posE_0 (h _ (by simp [zez])),zzS (h (zwN c.src) (by simp [zez])),fun e he=>h e (by simp [zez,he]),?_,fun p hp e he=>h e ?_⟩
 ·have:=zzS (h (inE c.above.length 0 8) (by simp [zez]));omega
 ·simp only [zez,List.mem_cons,List.mem_append,List.mem_flatten,List.mem_map]
  exact .inr (.inr (.inr (.inr ⟨_,⟨p,hp,rfl⟩,he⟩)))
theorem zpB {c:zU} (h:∀ e ∈ zez c,e=0):(ztT c).length<=36000:=by
 obtain ⟨h1,h2,h3,h4,h5⟩:=body_ok h
 have:=zwB h3
 have h6:((c.above.map zuY).flatten).length<=c.above.length * 4400:=zdQ fun p hp=>zvB (h5 p hp)
 have:c.above.length * 4400<=8 * 4400:=Nat.mul_le_mul_right _ h4
 have n1:=zp (n:=c.view.toNat) (by omega)
 have n2:=zp (n:=c.src.toNat) (by omega)
 have n3:=zp (n:=c.above.length) (by omega)
 simp only [ztT,List.length_append];omega
theorem zkJ {c:zU} (h:∀ e ∈ zaX c,e=0):(∀ e ∈ zez c,e=0)/\zS c.key c.dig=0 :=
 ⟨fun e he=>h e (by simp [zaX,he]),h _ (by simp [zaX])⟩
theorem zrB {c:zU} (h:∀ e ∈ zaX c,e=0):(zgb c).length<=36020:=by
 obtain ⟨h1,h2⟩:=zkJ h
 have:=zpB h1
 have:=zfv h2
 simp only [zgb,List.length_append];omega
structure entryOkE (x:zbL):Prop where
 view:0<=x.view/\x.view<=9007199254740992
 seq:1<=x.seq/\x.seq<=9007199254740992
 batch:zD x.batch=0
 sign:zS x.key x.dig=0
theorem zAa {x:zbL} (h:∀ e ∈ zer x,e=0):entryOkE x :=
 ⟨numE_0 (h _ (by simp [zer])),posE_0 (h _ (by simp [zer])),h _ (by simp [zer]),h _ (by simp [zer])⟩
theorem ztN {x:zbL} (h:∀ e ∈ zer x,e=0):(zny x).length<=4040:=by
 obtain ⟨h1,h2,h3,h4⟩:=zAa h
 have:=zfv h4
 have:=(zgN h3).2
 have n1:=zp (n:=x.view.toNat) (by omega)
 have n2:=zp (n:=x.seq.toNat) (by omega)
 simp only [zny,List.length_append];omega
structure newvOkE (m:zee):Prop where
 src:0<=m.src/\m.src<=12
 view:1<=m.view/\m.view<=9007199254740992
 manyC:m.changes.length<=13
 change:∀ c ∈ m.changes, ∀ e ∈ zaX c,e=0
 manyE:m.entries.length<=8
 entry:∀ x ∈ m.entries, ∀ e ∈ zer x,e=0
theorem newv_ok {m:zee} (h:∀ e ∈ zfS m,e=0):newvOkE m:=by
 refine ⟨zzS (h (zwN m.src) (by simp [zfS])),posE_0 (h _ (by simp [zfS])),?_,fun p hp e he=>h e ?_,?_,fun p hp e he=>h e ?_⟩
 ·have:=zzS (h (inE m.changes.length 0 13) (by simp [zfS]));omega
 ·simp only [zfS,List.mem_cons,List.mem_append,List.mem_flatten,List.mem_map]
  exact .inr (.inr (.inr (.inl ⟨_,⟨p,hp,rfl⟩,he⟩)))
 ·have:=zzS (h (inE m.entries.length 0 8) (by simp [zfS]));omega
 ·simp only [zfS,List.mem_cons,List.mem_append,List.mem_flatten,List.mem_map]
  exact .inr (.inr (.inr (.inr (.inr ⟨_,⟨p,hp,rfl⟩,he⟩))))
theorem newvB_len {m:zee} (h:∀ e ∈ zfS m,e=0):(newvB m).length<=600000:=by
 obtain ⟨h1,h2,h3,h4,h5,h6⟩:=newv_ok h
 have a:((m.changes.map zgb).flatten).length<=m.changes.length * 36020:=zdQ fun p hp=>zrB (h4 p hp)
 have b:((m.entries.map zny).flatten).length<=m.entries.length * 4040:=zdQ fun p hp=>ztN (h6 p hp)
 have:m.changes.length * 36020<=13 * 36020:=Nat.mul_le_mul_right _ h3
 have:m.entries.length * 4040<=8 * 4040:=Nat.mul_le_mul_right _ h5
 have n1:=zp (n:=m.src.toNat) (by omega)
 have n2:=zp (n:=m.view.toNat) (by omega)
 have n3:=zp (n:=m.changes.length) (by omega)
 have n4:=zp (n:=m.entries.length) (by omega)
 simp only [newvB,List.length_append];omega
def zkb (m:zee):List UInt8:=zcI m.kind.toNat++(if m.kind=7 then (match m.changes with | c :: _=>ztT c | [] => []) else if m.kind=8 then newvB m else [])
def ownS (m:zee):zK:=if m.kind=7 then (match m.changes with | c :: _=>⟨c.key,c.dig⟩ | []=>⟨m.key,m.sdig⟩) else ⟨m.key,m.sdig⟩
def zlc (m:zee):List UInt8:=zkb m++zfR (ownS m).key (ownS m).dig
def zba (m:zee):Int:=if zaN m ≠ 0 then zaN m else if (zlc m).length > 262144 then 3 else 0
def zhq (m:zee):List UInt8:=if zba m=0 then zlc m else []
def zcu (m:zee):zee:=if m.kind=7 then (match m.changes with | [c]=>{ m with changes := [{ c with key := 0,dig := 1 }] } | _=>m) else if zvE m.kind=true then { m with key := 0,sdig := 1 } else m
def zfc (m:zee):List UInt8:=if zba (zcu m)=0 then 6 :: zkb (zcu m) else []
def zid (L:List (List UInt8)) (G:List zK) (m:zee):Bool:=decide (zaN m=0) && (decide (zba (zcu m)=0) && zgY L G (ownS m) m.src (zfc m))
def vcM (c:zU):zee:={ zeW with kind := 7,src:=c.src,view:=c.view,changes := [c] }
theorem check_all {m:zee} (h:zaN m=0):(∀ e ∈ zfK m,e=0)/\m=zmD m:=by
 unfold zaN at h
 split at h
 ·rename_i h1;exact absurd h h1
 ·rename_i h1
  split at h
  ·rename_i h2;exact ⟨fstE_mem (by simpa using h1),h2⟩
  ·cases h
theorem check7 {m:zee} (hk:m.kind=7) (h:zaN m=0):∃ c,m.changes = [c]/\∀ e ∈ zaX c,e=0:=by
 have h1:=(check_all h).1
 simp only [zfK,zmS,hk] at h1
 have h2:=zzS (h1 (inE m.changes.length 1 1) (by simp))
 obtain ⟨c,hc⟩:∃ c,m.changes = [c]:=List.length_eq_one_iff.1 (by omega)
 refine ⟨c,hc,fun e he=>h1 e ?_⟩
 simp [hc,he]
theorem check8 {m:zee} (hk:m.kind=8) (h:zaN m=0):(∀ e ∈ zfS m,e=0)/\zS m.key m.sdig=0:=by
 have h1:=(check_all h).1
 simp only [zfK,zmS,hk] at h1
 exact ⟨fun e he=>h1 e (by simp [he]),h1 _ (by simp [show zvE 8=true from rfl])⟩
end Go.AW

/- Contracts: which view-changes and new views may be, the document's. -/
set_option maxRecDepth 100000
namespace Go.Proofs.YtpgahkdjkanblaaGreat
open Go.AW
theorem zvW (l r:List Int):zbn (zbn l :: r)=zbn (l++r):=by
 rw [zjT];rfl
theorem zzV {α:Type} {f : α->List Int} {l:List α} {k:Nat} {x : α} (h:l[k]? = some x) (h0:∀ y ∈ l.take k,zbn (f y)=0) (hx:zbn (f x) ≠ 0) (r:List Int):zbn ((l.map f).flatten++r)=zbn (f x):=by
 have e:l=l.take k++x :: l.drop (k+1):=by
  obtain ⟨hk,rfl⟩:=List.getElem?_eq_some_iff.1 h
  simp
 have z:∀ m:List α,(∀ y ∈ m,zbn (f y)=0)->zbn ((m.map f).flatten)=0:=by
  intro m
  induction m with
  | nil=>intro _;rfl
  | cons y m ih=>intro h;simp only [List.map_cons,List.flatten_cons];rw [zku (h y (by simp))];exact ih fun z hz=>h z (by simp [hz])
 rw [e,List.map_append,List.flatten_append,List.append_assoc,zku (z _ h0),List.map_cons,List.flatten_cons,List.append_assoc,zvX hx]
theorem zsm {α:Type} {f : α->List Int}:∀ {l:List α},(∀ y ∈ l,zbn (f y)=0)->zbn ((l.map f).flatten)=0
 | [],_=>rfl
 | y :: l,h=>by simp only [List.map_cons,List.flatten_cons];rw [zku (h y (by simp))];exact zsm fun z hz=>h z (by simp [hz])
theorem c_kBroker {σ:List zh} {n:Int} {K:KT} (hK:K (.d (.int .i64 (zwN n))) σ):zo Tryz.prog zem [.d (.int .i64 n)] σ K:=by
 refine zd zuw.is rfl fun hl _=>zuw.goes ?_
 simp only [zuM,iN,bT,bF,eN]
 refine zab ?_
 refine c_kIn ?_
 refine zab ?_
 refine zw hl ?_
 exact hK
theorem c_kPrep {σ:List zh} {p:zcb} (hs:p.signs.length<=1073741824) (hb:okB p.batch) {K:KT} (hK:K (.d (.int .i64 (zbn (zef p)))) σ) :
  zo Tryz.prog zgI [.agg [.d (.int .i64 p.view),.d (.int .i64 p.seq),.d (.int .i64 p.dig),.d (.int .i64 p.fkey),.d (.int .i64 p.fdig),.d (.slice (zap p.signs)),.d (.slice (zbj p.batch))]] σ K:=by
 refine zd zkx.is rfl fun hl _=>zkx.goes ?_
 simp only [zkN,iN,bT,bF,eN]
 refine zab ?_
 refine c_kNum ?_
 refine zab ?_
 refine c_kPos ?_
 refine zab ?_
 refine c_kPos ?_
 refine zab ?_
 refine zdg ?_
 refine zab ?_
 refine c_kSigns hs ?_
 refine zab ?_
 refine zhx hb ?_
 refine zab ?_
 refine zqt (l := [zlX p.view,zrN p.seq,zrN p.dig,zS p.fkey p.fdig,zbn (zcC p.signs),zD p.batch]) (by simp) ?_
 have e:zbn [zlX p.view,zrN p.seq,zrN p.dig,zS p.fkey p.fdig,zbn (zcC p.signs),zD p.batch]=zbn (zef p):=by
  simp only [zef,zvW,zbn]
  rw [← zvW];rfl
 rw [e]
 refine zab ?_
 refine zw hl ?_
 exact hK
theorem c_kBody {σ:List zh} {c:zU} (hc:okCh c) {K:KT} (hK:K (.d (.int .i64 (zbn (zez c)))) σ):zo Tryz.prog zkm [.agg (zbK c)] σ K:=by
 refine zd zpq.is rfl fun hl _=>zpq.goes ?_
 have fin:∀ z,zbn (zez c)=z->K (.d (.int .i64 z)) σ:=fun z h=>h ▸ hK
 clear hK
 have hpl:(zeV c.above).length=c.above.length:=List.length_map ..
 have hal:=hc.above
 simp only [zpP,iN,bT,bF,eN]
 refine zab ?_
 refine c_kPos ?_
 refine zab ?_
 refine c_kBroker ?_
 refine zab ?_
 refine c_kCert (c:=c.cert) hc.signs ?_
 refine zab ?_
 refine zqt (l := [zrN c.view,zwN c.src,zbn (zcX c.cert)]) (by simp) ?_
 have e:∀ r,zbn (zrN c.view :: zwN c.src :: (zcX c.cert++r))=if zbn [zrN c.view,zwN c.src,zbn (zcX c.cert)] ≠ 0 then zbn [zrN c.view,zwN c.src,zbn (zcX c.cert)] else zbn r:=by
  intro r
  rw [← zjT]
  simp only [List.cons_append,List.nil_append,zbn]
  rw [zjT]
 cases h1:(zbn [zrN c.view,zwN c.src,zbn (zcX c.cert)] != 0)
 rotate_left
 ·refine zB h1 ?_
  refine zw hl ?_
  exact fin _ (by rw [zez,e,if_pos (by simpa using h1)])
 have e1:zbn (zez c)=zbn (inE c.above.length 0 8 :: (c.above.map zef).flatten):=by rw [zez,e,if_neg (by simpa using h1)]
 by_cases h2:c.above.length > 8
 ·have h2':decide ((c.above.length:Int) > 8)=true:=by simp;omega
  refine zB (ze h1 (ze hpl h2')) ?_
  refine zw hl ?_
  exact fin _ (by rw [e1,inE,if_pos (by omega)];rfl)
 have h2':decide ((c.above.length:Int) > 8)=false:=by simp;omega
 have e2:zbn (zez c)=zbn ((c.above.map zef).flatten):=by rw [e1,inE,if_neg (by omega)];rfl
 refine zB (ze h1 (ze hpl h2')) ?_
 refine zm c.above.length (fun k vs s=>vs = [.d (.int .i64 k)]/\s = σ++[.box (zbK c)]/\∀ p ∈ c.above.take k,zbn (zef p)=0) ⟨rfl,rfl,by simp⟩ ?_
 rintro k vs s hk ⟨rfl,rfl,h0⟩
 by_cases hlt:k<c.above.length
 ·have hd:decide ((k:Int)<(c.above.length:Int))=true:=by simp;omega
  have hx:c.above[k]? = some c.above[k]:=by simp [hlt]
  have hpx:=hc.each _ (List.getElem_mem hlt)
  have hgx:=zR (f:=zew) hx
  obtain ⟨p,hp⟩:∃ p,c.above[k]=p:=⟨_,rfl⟩
  rw [hp] at hx hgx hpx
  refine zhH (ze hd (ze hgx hpl)) ?_
  refine c_kPrep (p:=p) hpx.1 hpx.2 ?_
  cases h3:(zbn (zef p) != 0)
  ·refine zB (ze h3 (wkc k (by omega))) ?_
   refine zaz.next hlt ⟨rfl,rfl,?_⟩
   intro q hq
   rw [List.take_add_one,hx] at hq
   simp at hq
   rcases hq with hq | rfl
   ·exact h0 q hq
   ·simpa using h3
  ·refine zB h3 ?_
   refine zw hl ?_
   refine fin _ ?_
   have:=zzV hx h0 (by simpa using h3) []
   rw [List.append_nil] at this
   rw [e2,this]
 ·have hd:decide ((k:Int)<(c.above.length:Int))=false:=by simp;omega
  rw [List.take_of_length_le (by omega)] at h0
  refine zB (ze hd hpl) ?_
  refine zw hl ?_
  exact fin _ (by rw [e2,zsm h0])
theorem c_kChange {σ:List zh} {c:zU} (hc:okCh c) {K:KT} (hK:K (.d (.int .i64 (zbn (zaX c)))) σ):zo Tryz.prog zgh [.agg (zbK c)] σ K:=by
 refine zd zmr.is rfl fun hl _=>zmr.goes ?_
 simp only [zmH,iN,bT,bF,eN]
 refine zab ?_
 refine c_kBody (c:=c) hc ?_
 refine zab ?_
 refine zdg ?_
 refine zab ?_
 refine zqt (l := [zbn (zez c),zS c.key c.dig]) (by simp) ?_
 rw [zvW]
 refine zab ?_
 refine zw hl ?_
 exact hK
end Go.Proofs.YtpgahkdjkanblaaGreat

/- Contracts: batches that are the same, the program's. -/
set_option maxRecDepth 100000
namespace Go.Proofs.YtpgahkdjkanblaaGreat
open Go.AW
theorem gq55 {A P Q:Prop} (a:A) (h:Q) (e:A->Hd Q->P:=by intro a h;(repeat' first | simp -dsimp only [↓zeN, ↓zav, ↓zbq, ↓zeO, ↓zeH, ↓zeF, ↓zeI, ↓zeG, ↓zbv, ↓zbr, ↓zbw, ↓zbs, ↓zeJ, ↓zbp, ↓zbx, ↓zbt, ↓zby, ↓zbu, ↓zeE, ↓zeM, ↓zbo, ↓zbz, ↓zeC, ↓zeB, ↓zeD,iN,bT,bF,eN, ↓zcB, ↓unC, ↓zV, ↓zM, ↓zN, ↓zQ, ↓zY, ↓zal, ↓zdb, ↓zak, ↓zaH, ↓zT, ↓zf, ↓zj, ↓zbZ, ↓zb, ↓zag, ↓zE, ↓zaI, ↓zaO, ↓zc, ↓zy, ↓zl, ↓zG, ↓zaa, ↓zdm, ↓zdw, ↓zaj, ↓zar, ↓zaK, ↓zaS, ↓zaY, ↓zq, ↓zai, ↓zO, ↓zu, ↓zX,zdx,zbg,zbb,unA,zdd,bnd,zdY,zaf,zP,zdR,dm,dm1,zA,zae,zeh,zeg,zI,Q0,Q1,Q2,Q3,Q4,Q5,zZ,zC,zt,zL,zF,Q6,Q7,Q8,Q9,Q10,Q11,Q12,Q13,Q14,Nat.reduceAdd,Q15,Int.reduceToNat,Q16,Q17,Q18,Q19,Q20,reduceIte,Q21,Q22,zH,rep,zac,zel,toD,zah,Q23,Q24,Q25,Q26,Q27,Q28,Nat.reduceLeDiff,Q29,Nat.reduceSub,Q30,Q31,Q32,sc,Q33,Q34,Q35,Q36,Q37,Q26,Q38,Q39,zoy,zov,zos,zoz,zfG,zow,zot,zox,zou,zfF,zfH,zoB,zoC,Bool.not_true,Bool.not_false,List.length_map,Bool.and_false,Bool.and_self,Bool.false_and,Bool.true_and,Option.isSome_none,Option.isSome_some,Option.map_none,Option.map_some,beq_self_eq_true,bne_self_eq_false,zaE,zed,zdX,opA,zew,zgf,zgZ,zbc,a] | with_reducible refine zoE ?_ | fail);exact h.go):P:=e a ⟨h⟩
theorem c_Same1 {σ:List zh} {a b:zJ} (ha:a.op.recs.length<=1073741824) (hb:b.op.recs.length<=1073741824) {K:KT} (hK:K (.d (.bool (decide (a=b)))) σ):zo Tryz.prog zgA [zgZ a,zgZ b] σ K:=by
 refine zd znA.is rfl fun hl _=>znA.goes ?_
 have e:a=b ↔ a.key=b.key/\a.dig=b.dig/\a.client=b.client/\a.time=b.time/\a.op=b.op:=by cases a;cases b;simp;constructor <;> (intro h;simp_all)
 have fin:∀ z,decide (a=b)=z->K (.d (.bool z)) σ:=fun z h=>h ▸ hK
 clear hK
 simp only [znW,iN,bT,bF,eN,zgZ]
 cases h1:(a.key == b.key)
 ·refine gq55 h1 ?_
  refine zw hl ?_
  refine fin _ (decide_eq_false fun h => ?_)
  have:=(e.1 h).1;simp [this] at h1
 cases h2:(a.dig == b.dig)
 ·refine gq55 (ze h1 h2) ?_
  refine zw hl ?_
  refine fin _ (decide_eq_false fun h => ?_)
  have:=(e.1 h).2.1;simp [this] at h2
 cases h3:(a.client == b.client)
 ·refine gq55 (ze h1 (ze h2 h3)) ?_
  refine zw hl ?_
  refine fin _ (decide_eq_false fun h => ?_)
  have:=(e.1 h).2.2.1;simp [this] at h3
 cases h4:(a.time == b.time)
 ·refine gq55 (ze h1 (ze h2 (ze h3 h4))) ?_
  refine zw hl ?_
  refine fin _ (decide_eq_false fun h => ?_)
  have:=(e.1 h).2.2.2.1;simp [this] at h4
 refine gq55 (ze h1 (ze h2 (ze h3 h4))) ?_
 refine c_Same (a:=a.op) (b:=b.op) ha hb ?_
 refine zab ?_
 refine zw hl ?_
 refine fin _ ?_
 rw [Bool.eq_iff_iff,decide_eq_true_eq,decide_eq_true_eq,e]
 simp only [beq_iff_eq] at h1 h2 h3 h4
 simp [h1,h2,h3,h4]
theorem zsK {σ:List zh} {a b:List zJ} (ha:ziK a) (hb:ziK b) {K:KT} (hK:K (.d (.bool (decide (a=b)))) σ) :
  zo Tryz.prog zaD [.d (.slice (zbj a)),.d (.slice (zbj b)),.fn (.func zgA) [] []] σ K:=by
 refine zd zbA.is rfl fun hl _=>zbA.goes ?_
 have fin:∀ z,decide (a=b)=z->K (.d (.bool z)) σ:=fun z h=>h ▸ hK
 clear hK
 obtain ⟨ha1,ha2⟩:=ha
 obtain ⟨hb1,hb2⟩:=hb
 simp only [zbB,iN,bT,bF,eN]
 cases hl0:((a.length:Int) != (b.length:Int))
 rotate_left
 ·refine zB hl0 ?_
  refine zw hl ?_
  refine fin _ (decide_eq_false fun h => ?_)
  rw [h] at hl0;simp at hl0
 have hl2:a.length=b.length:=by simp at hl0;omega
 refine zB hl0 ?_
 refine zm a.length (fun k vs s=>vs = [.d (.int .i64 k)]/\(∃ T,s = σ++T)/\a.take k=b.take k) ⟨rfl,⟨[],by simp⟩,by simp⟩ ?_
 rintro k vs s hk ⟨rfl,⟨T,rfl⟩,htk⟩
 by_cases hlt:k<a.length
 ·have hd:decide ((k:Int)<(a.length:Int))=true:=by simp;omega
  have hx:a[k]? = some a[k]:=by simp [hlt]
  have hy:b[k]? = some (b[k]'(by omega)):=List.getElem?_eq_getElem _
  have hgx:=zR (f:=zbc) hx
  have hgy:=zR (f:=zbc) hy
  have hxs:=(ha2 _ (List.getElem_mem hlt)).1
  have hys:=(hb2 _ (List.getElem_mem (show k<b.length by omega))).1
  obtain ⟨x,hxe⟩:∃ x,a[k]=x:=⟨_,rfl⟩
  obtain ⟨y,hye⟩:∃ y,(b[k]'(by omega))=y:=⟨_,rfl⟩
  rw [hxe] at hx hgx hxs
  rw [hye] at hy hgy hys
  obtain ⟨S,hS⟩:∃ S, σ++T=S:=⟨_,rfl⟩
  rw [hS]
  refine zqn (ze hd (ze hgx hgy)) ?_
  refine c_Same1 (a:=x) (b:=y) hxs hys ?_
  cases he:decide (x=y)
  ·refine zB hd ?_
   rw [← hS,List.append_assoc]
   refine zw hl ?_
   refine fin _ (decide_eq_false fun h => ?_)
   subst h
   rw [hx] at hy
   have:=Option.some.inj hy
   simp [this] at he
  ·refine zB (wk1 k (by omega)) ?_
   exact zaz.next hlt ⟨rfl,⟨_,by rw [← hS,List.append_assoc]⟩,zbM hx hy htk (by simpa using he)⟩
 ·have hd:decide ((k:Int)<(a.length:Int))=false:=by simp;omega
  refine zB hd ?_
  refine zw hl ?_
  exact fin _ (decide_eq_true (zcH hl2 (k:=k) (by omega) htk))
theorem zwH {σ:List zh} {a b:List zJ} (ha:ziK a) (hb:ziK b) {K:KT} (hK:K (.d (.bool (decide (a=b)))) σ):zo Tryz.prog zgu [.d (.slice (zbj a)),.d (.slice (zbj b))] σ K:=by
 refine zd zqH.is rfl fun hl _=>zqH.goes ?_
 simp only [zqU,iN,bT,bF,eN]
 refine zab ?_
 refine zsK ha hb ?_
 refine zab ?_
 refine zw hl ?_
 exact hK
end Go.Proofs.YtpgahkdjkanblaaGreat
