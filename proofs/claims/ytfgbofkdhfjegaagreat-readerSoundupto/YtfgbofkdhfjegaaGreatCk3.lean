/- Contracts: whether a proof may be, the document's. -/
import Derived.Test.YtfgbofkdhfjegaaGreatPt2
import Derived.Test.YtfgbofkdhfjegaaGreatOp1
import Derived.Test.YtfgbofkdhfjegaaGreatMk2
import Derived.Test.YtfgbofkdhfjegaaGreatHd1
import Derived.Test.YtfgbofkdhfjegaaGreatAwEnd
import Derived.Test.YtfgbofkdhfjegaaGreatSpUtf
import Derived.Test.YtfgbofkdhfjegaaGreatQu1
import Derived.Test.YtfgbofkdhfjegaaGreatOpC
import Derived.Test.YtfgbofkdhfjegaaGreatCk1
import Derived.Test.YtfgbofkdhfjegaaGreatAwFrz
set_option linter.all false
set_option maxRecDepth 100000
namespace Go.Proofs.YtfgbofkdhfjegaaGreat
open Go.AW
def lastF (L:List (List UInt8)) (p:zbX) (h:zcF):Bool:=match zcv L (zmR h) with
 | some i=>(((i+1:Nat):Int)==p.cert.dig)&&(h.seq==p.cert.seq)
 | none=>false
def zfs (L:List (List UInt8)) (p:zbX):Bool:=match p.headers.getLast? with
 | none=>false
 | some h=>zuX L p.headers&&lastF L p h
def zvV (p:zbX):zaI:=⟨p.topic,p.offset,p.rec_⟩
def rootP (p:zbX):Int:=match p.headers with
 | [] => 0
 | h::_=>h.root
def ztT (L:List (List UInt8)) (G:List zI) (f:Int) (p:zbX):Int:=
 if zcM f≠0 then zcM f else if zfH p≠0 then zfH p else if zfs L p=false then 230 else if zth L G f p.cert=false then 231 else
  if zia L (rootP p) (zaz (zvV p)) p.index p.count p.path=false then 232 else 0
theorem ztg {L:List (List UInt8)}:∀ {l:List zcF} {q:Option zcF},zmj L q l=true->∀ h∈l,zgC h=true
 | [],_,_,h,hm=>by simp at hm
 | x::l,q,hc,h,hm=>by
  simp only [zmj,Bool.and_eq_true] at hc
  rcases List.mem_cons.1 hm with rfl|hm
  ·exact hc.1
  ·exact ztg hc.2.2 h hm
theorem c_pfChained {σ:List zg} {id m t:Nat} {L:List (List UInt8)} {p:zbX} (hT:zdo σ id m t L) (hL:zlJ L) (hp:zfy p) {K:KT} (hK:K (.d (.bool (zfs L p))) σ):zr Tryz.prog zij [.box id 0,zhl p] σ K:=by
 refine zfP zsR fun hl => ?_
 have fin:∀ z,zfs L p=z->K (.d (.bool z)) σ:=fun z h=>h▸hK
 clear hK
 have hhl:(ziW p.headers).length=p.headers.length:=List.length_map ..
 have hph:=hp.headers
 simp only [zmu,iN,bT,bF,eN,zhl]
 cases h0:((p.headers.length:Int)==0)
 rotate_left
 ·have:p.headers = []:=List.eq_nil_of_length_eq_zero (by simp only [beq_iff_eq] at h0;omega)
  refine gq2 (zf hhl h0) ?_
  refine zT hl ?_
  exact fin _ (by simp [zfs,this])
 have hne:p.headers≠[]:=by
  intro e;rw [e] at h0;simp at h0
 obtain ⟨h,hlast⟩:∃ h,p.headers.getLast? = some h:=⟨_,List.getLast?_eq_some_getLast hne⟩
 have hcf:zfs L p=(zuX L p.headers&&lastF L p h):=by rw [zfs,hlast]
 have hpos:0<p.headers.length:=List.length_pos_iff.2 hne
 have hget:p.headers[p.headers.length-1]? = some h:=by rw [← List.getLast?_eq_getElem?];exact hlast
 have hgh:=zP (f:=hdrD) hget
 have hw:IntKind.i64.wrap ((p.headers.length:Int)-1)=((p.headers.length-1:Nat):Int):=by rw [zab (by omega) (by omega)];omega
 refine gq2 (zf hhl h0) ?_
 refine c_blChain (hT.app _) hL hph ?_
 cases h1:zuX L p.headers
 ·refine gq1 ?_
  refine zT hl ?_
  exact fin _ (by rw [hcf,h1];rfl)
 have hok:=ztg h1 h (List.mem_of_getLast? hlast)
 have hc0:=zdY.2 hok
 refine gq2 (zf hhl (zf hw hgh)) ?_
 refine c_blBytes (h:=h) ?_
 rw [zvY hc0,hc0]
 refine gq2 (show ((0:Int) != 0)=false from rfl) ?_
 refine zov (hT.app _) ?_
 cases h2:zcv L (zmR h) with
 | none=>
  refine gq5 ?_
  refine zT hl ?_
  exact fin _ (by rw [hcf,lastF,h2,Bool.and_false])
 | some i=>
  simp only [zfN]
  cases h3:(((i+1:Nat):Int)==p.cert.dig)
  ·refine zrM h3 ?_
   refine zT hl ?_
   exact fin _ (by rw [hcf,lastF,h1,h2];simp only [h3];rfl)
  ·refine zrM h3 ?_
   refine zT hl ?_
   exact fin _ (by rw [hcf,lastF,h1,h2];simp only [h3];rfl)
theorem zsu {p:zbX} (hp:zfy p):zlL (zvV p):=⟨hp.off,hp.topic,hp.rec_⟩
theorem znR {p:zaI} (hp:zlL p):(zaz p).length<=1073740000:=by
 have ht:=hp.topic;have hr:=hp.rec_;have ho:=hp.off.2
 have l1:=zE (n:=p.topic.length) (by omega)
 have l2:=zE (n:=p.offset.toNat) (by omega)
 have l3:=zE (n:=p.rec_.length) (by omega)
 simp only [zaz,zmJ,List.length_append]
 omega
theorem chained_head {L:List (List UInt8)} {p:zbX} (h:zfs L p=true):∃ x r,p.headers=x::r:=by
 cases e:p.headers with
 | nil=>simp [zfs,e] at h
 | cons x r=>exact ⟨x,r,rfl⟩
theorem zwq {p:zbX} (h:zfH p=0):p.count<=16:=by
 rw [zfH,zgG,zhQ] at h
 split at h
 ·rename_i h1;exact absurd h h1
 ·rw [zhQ] at h
  split at h
  ·rename_i h1;exact absurd h h1
  ·rw [zhQ] at h
   split at h
   ·rename_i h1;exact absurd h h1
   ·rename_i h1
    have h1':zcC (zdc p)=0:=by simpa using h1
    simp only [zdc,zcC] at h1'
    split at h1'
    ·rename_i h2;exact absurd h1' h2
    ·split at h1'
     ·rename_i h3;exact absurd h1' h3
     ·rename_i h3
      exact (inE_0 (by simpa using h3)).2
theorem c_pfVerify {σ:List zg} {id m t id2 m2 t2:Nat} {L:List (List UInt8)} {G:List zI} {f:Int} {p:zbX} (hT:zdo σ id m t L) (hG:zee σ id2 m2 t2 G) (hL:zlJ L) (hg:G.length<=1073741824) (hp:zfy p)
  {K:KT} (hK:K (.d (.int .i64 (ztT L G f p))) σ):zr Tryz.prog zjA [.box id 0,.box id2 0,.d (.int .i64 f),zhl p] σ K:=by
 refine acE4 zuf fun hl => ?_
 have fin:∀ z,ztT L G f p=z->K (.d (.int .i64 z)) σ:=fun z h=>h▸hK
 clear hK
 simp only [znG,iN,bT,bF,eN,zhl]
 refine gq1 ?_
 refine zpo (hT.app _) hL.nd hL.len hL.each ?_
 refine gq1 ?_
 refine zpr (hG.app _) hg fun g' => ?_
 refine gq1 ?_
 refine zpq ?_
 cases h0:(zcM f != 0)
 rotate_left
 ·refine gq2 h0 ?_
  refine zT hl ?_
  exact fin _ (by rw [ztT,if_pos (by simpa using h0)])
 have v0:ztT L G f p=if zfH p≠0 then zfH p else if zfs L p=false then 230 else if zth L G f p.cert=false then 231 else if zia L (rootP p) (zaz (zvV p)) p.index p.count p.path=false then 232 else 0:=by
  rw [ztT,if_neg (by simpa using h0)]
 refine gq2 h0 ?_
 refine zuj (p:=p) hp ?_
 cases h1:(zfH p != 0)
 rotate_left
 ·refine gq2 h1 ?_
  refine zT hl ?_
  exact fin _ (by rw [v0,if_pos (by simpa using h1)])
 have h1':zfH p=0:=by simpa using h1
 rw [if_neg (by simpa using h1)] at v0
 refine gq2 h1 ?_
 refine c_pfChained (p:=p) (hT.app _) hL hp ?_
 cases h2:zfs L p
 ·refine gq1 ?_
  refine zT hl ?_
  exact fin _ (by rw [v0,if_pos h2])
 rw [if_neg (by simp [h2])] at v0
 refine gq1 ?_
 refine c_ptValid (c:=p.cert) (hT.app _) (hG.app _) hL hg hp.signs ?_
 cases h3:zth L G f p.cert
 ·refine gq1 ?_
  refine zT hl ?_
  exact fin _ (by rw [v0,if_pos h3])
 rw [if_neg (by simp [h3])] at v0
 obtain ⟨x,r,hxr⟩:=chained_head h2
 have hgx:(ziW p.headers)[0]? = some (hdrD x):=by rw [hxr];rfl
 have hrt:rootP p=x.root:=by rw [rootP,hxr]
 refine gq1 ?_
 refine c_toPlaced (p:=zvV p) (zsu hp) ?_
 refine gq2 hgx ?_
 refine c_mkVerify (by have:=zwq h1';omega) (hT.app _) hL.len (znR (zsu hp)) (fun y hy=>(hp.paths y hy).2) ?_
 rw [hrt] at v0
 cases h4:zia L x.root (zaz (zvV p)) p.index p.count p.path
 ·refine gq1 ?_
  refine zT hl ?_
  exact fin _ (by rw [v0,if_pos h4])
 ·refine gq1 ?_
  refine zT hl ?_
  exact fin _ (by rw [v0,if_neg (by simp [h4])])
end Go.Proofs.YtfgbofkdhfjegaaGreat

/- Maps keyed by integers: what is found after a put. -/
namespace Go.AW
abbrev ents (l:List (Int × AV)):List (AV × AV):=l.map fun e=>(.d (.int .i64 e.1),e.2)
structure Rd where
 b:List UInt8
 e:Int
def Rd.fail (cut:Bool) (s:Rd) (x:Int):Rd:=if s.e=0/\x≠0 then ⟨if cut then [] else s.b,x⟩ else s
def numP (cut:Bool) (most:Nat) (s:Rd):Nat × Rd:=
 if s.e=0 then (match numR most 0 0 s.b with|.ok (n,r)=>(n,⟨r, 0⟩)|.error x=>(0,s.fail cut x)) else (0,s)
def takeP (cut:Bool) (n:Nat) (s:Rd):List UInt8 × Rd:=
 if s.e=0 then (if n > s.b.length then ([],s.fail cut 10) else (s.b.take n,⟨s.b.drop n, 0⟩)) else ([],s)
def znx (cut:Bool) (most:Nat) (s:Rd):List UInt8 × Rd:=takeP cut (numP cut most s).1 (numP cut most s).2
def zvR (cut:Bool):Nat->Rd->List (List UInt8) × Rd
 | 0,s=>([],s)
 | k+1,s=>((zvR cut k s).1++[(znx cut 64 (zvR cut k s).2).1],(znx cut 64 (zvR cut k s).2).2)
def zsL (cut:Bool) (k:Nat) (s:Rd):TOp × Rd:=
 let t:=znx cut 64 s
 if k=0 then (noOp,s)
 else if k=2 then (let n:=numP cut 4 t.2;let r:=zvR cut n.1 n.2;(⟨k,t.1,[], 0,r.1⟩,r.2))
 else if k=3 then (let g:=znx cut 64 t.2;let f:=numP cut 9007199254740992 g.2;(⟨k,t.1,g.1,f.1,[]⟩,f.2))
 else if k=4 then (let f:=numP cut 9007199254740992 t.2;(⟨k,t.1,[],f.1,[]⟩,f.2))
 else (⟨k,t.1,[], 0,[]⟩,t.2)
def Rd.like (s t:Rd):Prop:=s.e=t.e/\(s.e=0->s.b=t.b)
theorem Rd.like.fail {s t:Rd} {c d:Bool} {x:Int} (h:s.like t):(s.fail c x).like (t.fail d x):=by
 obtain ⟨h1,h2⟩:=h
 unfold Rd.fail Rd.like
 grind
theorem Rd.like.num {s t:Rd} {c d:Bool} {m:Nat} (h:s.like t):(numP c m s).1=(numP d m t).1/\(numP c m s).2.like (numP d m t).2:=by
 have hf:∀ x,(s.fail c x).like (t.fail d x):=fun x=>h.fail
 obtain ⟨h1,h2⟩:=h
 unfold numP
 by_cases h0:s.e=0
 ·rw [if_pos h0,if_pos (show t.e=0 from h1▸h0),h2 h0]
  cases numR m 0 0 t.b with
  | ok x=>exact ⟨rfl,rfl,fun _=>rfl⟩
  | error x=>exact ⟨rfl,hf x⟩
 ·rw [if_neg h0,if_neg (h1▸h0)]
  exact ⟨rfl,h1,h2⟩
theorem Rd.like.take {s t:Rd} {c d:Bool} {m:Nat} (h:s.like t):(takeP c m s).1=(takeP d m t).1/\(takeP c m s).2.like (takeP d m t).2:=by
 have hf:∀ x,(s.fail c x).like (t.fail d x):=fun x=>h.fail
 obtain ⟨h1,h2⟩:=h
 unfold takeP
 by_cases h0:s.e=0
 ·rw [if_pos h0,if_pos (show t.e=0 from h1▸h0),h2 h0]
  split
  ·exact ⟨rfl,hf 10⟩
  ·exact ⟨rfl,rfl,fun _=>rfl⟩
 ·rw [if_neg h0,if_neg (h1▸h0)]
  exact ⟨rfl,h1,h2⟩
theorem Rd.like.bytes {s t:Rd} {c d:Bool} {m:Nat} (h:s.like t):(znx c m s).1=(znx d m t).1/\(znx c m s).2.like (znx d m t).2:=by
 have a:=h.num (c:=c) (d:=d) (m:=m)
 have:=a.2.take (c:=c) (d:=d) (m:=(numP c m s).1)
 unfold znx
 rw [← a.1]
 exact this
theorem Rd.like.recs {s t:Rd} {c d:Bool} (h:s.like t):∀ k,(zvR c k s).1=(zvR d k t).1/\(zvR c k s).2.like (zvR d k t).2
 | 0=>⟨rfl,h⟩
 | k+1=>by
  obtain ⟨a,b⟩:=Rd.like.recs h (c:=c) (d:=d) k
  have e:=b.bytes (c:=c) (d:=d) (m := 64)
  exact ⟨by simp only [zvR,a,e.1],e.2⟩
theorem Rd.like.fields {s t:Rd} {c d:Bool} (h:s.like t) (k:Nat):(zsL c k s).1=(zsL d k t).1/\(zsL c k s).2.like (zsL d k t).2:=by
 obtain ⟨t1,t2⟩:=h.bytes (c:=c) (d:=d) (m := 64)
 obtain ⟨n1,n2⟩:=t2.num (c:=c) (d:=d) (m := 4)
 obtain ⟨r1,r2⟩:=n2.recs (c:=c) (d:=d) (numP c 4 (znx c 64 s).2).1
 obtain ⟨g1,g2⟩:=t2.bytes (c:=c) (d:=d) (m := 64)
 obtain ⟨f1,f2⟩:=g2.num (c:=c) (d:=d) (m := 9007199254740992)
 obtain ⟨e1,e2⟩:=t2.num (c:=c) (d:=d) (m := 9007199254740992)
 unfold zsL
 simp only
 split
 ·exact ⟨rfl,h⟩
 ·split
  ·rw [← n1, ← r1, ← t1];exact ⟨rfl,r2⟩
  ·split
   ·rw [← t1, ← g1, ← f1];exact ⟨rfl,f2⟩
   ·split
    ·rw [← t1, ← e1];exact ⟨rfl,e2⟩
    ·rw [← t1];exact ⟨rfl,t2⟩
theorem ztc:∀ (f:Nat) (s:List UInt8) (n:Nat),zdD f s=some n->s.length<=4*n
 | 0,_,_,h=>by simp [zdD] at h
 | f+1,s,n,h=>by
  simp only [zdD] at h
  split at h
  ·rename_i h0;cases h;simp [h0]
  ·split at h
   ·cases h
   ·simp only [Option.map_eq_some_iff] at h
    obtain ⟨m,hm,rfl⟩:=h
    have:=ztc f _ m hm
    have h4:=(zkh s).2.1
    simp only [List.length_drop] at *
    omega
theorem name_len {s:List UInt8} (h:zdV s=true):s.length<=64:=by
 simp only [zdV,zgL,decide_eq_true_eq] at h
 cases e:zdD (s.length+1) s with
 | none=>simp [e] at h
 | some n=>
  have:=ztc _ s n e
  simp only [e] at h
  by_cases h16:n > 16
  ·simp [h16] at h
  ·omega
end Go.AW

/- Contracts: certificates that are kept. -/
set_option maxRecDepth 100000
namespace Go.Proofs.YtfgbofkdhfjegaaGreat
open Go.AW
abbrev hE (l:List (Int × zoB)):List (AV × AV):=ents (l.map fun e=>(e.1,prepA e.2))
structure HeldAt (σ:List zg) (h m:Nat) (l:List (Int × zoB)):Prop where
 box : σ[h]? = some (.box [.map m])
 map : σ[m]? = some (.map (hE l))
theorem HeldAt.app {σ:List zg} {h m:Nat} {l:List (Int × zoB)} (H:HeldAt σ h m l) (τ:List zg):HeldAt (σ ++ τ) h m l:=⟨zd H.box,zd H.map⟩
theorem c_clRec {σ:List zg} {l:List UInt8} (hn:l.length<=1073741824) {K:KT} (hK:K (.d (.slice (bcs l))) σ):zr Tryz.prog zbq [.d (.slice (bcs l))] σ K:=by
 refine zgp zgY fun hl => ?_
 have hlen:=zaL l
 have h2:∀ e∈bcs l,e.length=1:=zgd
 simp only [zdF,iN,bT,bF,eN,zar,zdC]
 obtain ⟨es,hes⟩:∃ es,bcs l=es:=⟨_,rfl⟩
 rw [hes] at hlen h2 hK ⊢
 cases es with
 | nil=>
  refine ⟨?_,?_⟩
  ·refine gq1 ?_
   refine zT hl ?_
   exact hK
  ·refine gq1 ?_
   refine zT hl ?_
   exact hK
 | cons e es=>
  simp only [zY,zF,zC,zS,rep,zu,zeQ,zal,zB,zeh]
  refine ⟨h2,by simp,by rw [hlen];simp;omega,?_⟩
  refine zT hl ?_
  exact hK
abbrev nilPf:zg := .box [.d (.str []),.d (.int .i64 0),.exact [],.exact [],.d (.int .i64 0),.d (.int .i64 0),.exact [],.d (.int .i64 0),.d (.int .i64 0),.exact []]
def findR:Option (Nat × Nat)->AV
 | none => .tup [.d (.int .i64 0),.d (.int .i64 0),.d (.bool false)]
 | some (i,k) => .tup [.d (.int .i64 i),.d (.int .i64 k),.d (.bool true)]
theorem c_r23find {σ:List zg} {l:List zbc} {tp:List UInt8} {o:Int} (hl0:l.length<=1073741824) (hb:∀ b∈l,zpT b) {K:KT}
  (hK:K (findR (zoe tp o l 0)) σ):zr Tryz.prog zqa [.d (.slice (zbC l)),.d (.str tp),.d (.int .i64 o)] σ K:=by
 refine acE3 e_r23_find fun hl => ?_
 have fin:∀ z,zoe tp o l 0=z->K (findR z) σ:=fun z h=>h▸hK
 clear hK
 have hlen:(zbC l).length=l.length:=List.length_map ..
 simp only [zvm,iN,bT,bF,eN]
 refine gq2 hlen ?_
 refine zt l.length (fun k vs s=>vs = [.d (.int .i64 k)]/\s = σ/\zoe tp o l 0=zoe tp o (l.drop k) k) ⟨rfl,rfl,by simp⟩ ?_
 rintro k vs s hk ⟨rfl,hs,hpf⟩
 rw [hs]
 by_cases hlt:k<l.length
 ·have hd:decide ((k:Int)<(l.length:Int))=true:=by simp;omega
  have hx:l[k]? = some l[k]:=by simp [hlt]
  have hbx:=hb _ (List.getElem_mem hlt)
  have hgx:=zP (f:=zha) hx
  obtain ⟨b,hbe⟩:∃ b,l[k]=b:=⟨_,rfl⟩
  rw [hbe] at hx hgx hbx
  rw [findB_step hx] at hpf
  have hplen:(zbg b.placed).length=b.placed.length:=List.length_map ..
  have hn:=hbx.len
  refine gq2 (zf hd (zf hgx hlen)) ?_
  refine zt b.placed.length (fun j vs s=>vs = [.d (.int .i64 j)]/\s = σ/\plAt tp o b.placed 0=plAt tp o (b.placed.drop j) j) ⟨rfl,rfl,by simp⟩ ?_
  rintro j vs s hj ⟨rfl,hs,hpj⟩
  rw [hs]
  by_cases hlj:j<b.placed.length
  ·have hdj:decide ((j:Int)<(b.placed.length:Int))=true:=by simp;omega
   have hy:b.placed[j]? = some b.placed[j]:=by simp [hlj]
   have hgy:=zP (f:=zel) hy
   obtain ⟨p,hpe⟩:∃ p,b.placed[j]=p:=⟨_,rfl⟩
   rw [hpe] at hy hgy
   rw [plAt_step hy] at hpj
   have next:isP tp o p=false->zaB b.placed.length (fun j vs s=>vs = [.d (.int .i64 j)]/\s = σ/\plAt tp o b.placed 0=plAt tp o (b.placed.drop j) j) j [.d (.int .i64 ((j:Int)+1))] σ:=fun h=>by
    rw [if_neg (by simp [h])] at hpj
    exact zaB.next hlj ⟨rfl,rfl,hpj⟩
   cases h1:(p.topic==tp)
   ·refine gq2 (zf hdj (zf hgx (zf hgy (zf hplen (zf h1 (wkc j (by omega))))))) ?_
    exact next (by rw [isP,h1];rfl)
   ·cases h2:(p.offset==o)
    ·refine gq2 (zf hdj (zf hgx (zf hgy (zf hplen (zf h1 (zf h2 (wkc j (by omega)))))))) ?_
     exact next (by rw [isP,h2,Bool.and_false])
    ·rw [if_pos (by rw [isP,h1,h2];rfl)] at hpj
     simp only [hpj] at hpf
     refine gq2 (zf hdj (zf hgx (zf hgy (zf hplen (zf h1 h2))))) ?_
     refine zT hl ?_
     exact fin _ hpf
  ·have hdj:decide ((j:Int)<(b.placed.length:Int))=false:=by simp;omega
   rw [List.drop_eq_nil_of_le (by omega)] at hpj
   simp only [hpj,plAt] at hpf
   refine gq2 (zf hdj (zf hgx (zf hplen (wkc k (by omega))))) ?_
   exact zaB.next hlt ⟨rfl,rfl,hpf⟩
 ·have hd:decide ((k:Int)<(l.length:Int))=false:=by simp;omega
  rw [List.drop_eq_nil_of_le (by omega)] at hpf
  refine gq2 hd ?_
  refine zT hl ?_
  exact fin none hpf
abbrev pfBox (tp:List UInt8) (o:Int) (rec:List UInt8) (h:AV) (j n:Int) (c:zfa):zg := .box [.d (.str tp),.d (.int .i64 o),.d (.slice (bcs rec)),h,.d (.int .i64 j),.d (.int .i64 n),.exact [],.d (.int .i64 c.seq),.d (.int .i64 c.dig),.d (.slice (zaW c.signs))]
abbrev ztq (b:zbc):zg := .box [.d (.int .i64 b.header.seq),.d (.int .i64 b.header.prev),.d (.int .i64 b.header.batch),.d (.int .i64 b.header.root),.d (.int .i64 b.header.state),.d (.slice (zdm b.batch)),.d (.slice (zbg b.placed))]
theorem gq37 {A P Q:Prop} (a:A) (h:Q) (e:A->Hd Q->P:=by intro a h;(repeat' first|simp -dsimp only [↓zft, ↓zaH, ↓zbG, ↓zfu, ↓zfo, ↓zfm, ↓zfp, ↓zfn, ↓zbL, ↓zbH, ↓zbM, ↓zbI, ↓zfq, ↓zbF, ↓zbN, ↓zbJ, ↓zbO, ↓zbK, ↓zfl, ↓zfr, ↓zbE, ↓zbP, ↓zfd, ↓zfc, ↓zfk,iN,bT,bF,eN, ↓zcQ, ↓unC, ↓zY, ↓zK, ↓zL, ↓zN, ↓zae, ↓zax, ↓zcK, ↓zaq, ↓zbh, ↓zR, ↓zp, ↓zm, ↓zbV, ↓zh, ↓zak, ↓zH, ↓zaR, ↓zaY, ↓ze, ↓zD, ↓zu, ↓zB, ↓zar, ↓zdk, ↓zdz, ↓zas, ↓zaD, ↓zaV, ↓zbf, ↓zbm, ↓zA, ↓zan, ↓zM, ↓zF, ↓zad,zdE,zbu,zbo,unA,zdC,bnd,zej,zag,zS,zeh,dm,dm1,zC,zah,zeF,zeE,zQ,Q0,Q1,Q2,Q3,Q4,Q5,zV,zx,zw,zO,zJ,Q6,Q7,Q8,Q9,Q10,Q11,Q12,Q13,Q14,Nat.reduceAdd,Q15,Int.reduceToNat,Q16,Q17,Q18,Q19,Q20,reduceIte,Q21,Q22,zG,rep,zZ,zeQ,toD,zal,Q23,Q24,Q25,Q26,Q27,Q28,Nat.reduceLeDiff,Q29,Nat.reduceSub,Q30,Q31,Q32,sc,Q33,Q34,Q35,Q36,Q37,Q26,Q38,Q39,ziR,ziO,ziL,ziS,zcX,ziP,ziM,ziQ,ziN,zcW,zcY,ziU,ziV,Bool.not_true,Bool.not_false,List.length_map,List.length_set,a]|with_reducible refine ziX ?_|fail);exact h.go):P:=e a ⟨h⟩
theorem c_r23Make {σ:List zg} {id:Nat} {L:List (List UInt8)} {l:List zbc} {c:zfa} {tp:List UInt8} {o:Int} (hT : σ[id]? = some (rtO L)) (hL:L.length<=1048576) (hl0:l.length<=1073741824) (hb:∀ b∈l,zpT b) (hc:c.signs.length<=1073741824) {K:KT}
  (hK:K (.tup [zhl (zhO L l c tp o).2.1,.d (.int .i64 (zhO L l c tp o).1)]) (σ.set id (rtO (zhO L l c tp o).2.2))):zr Tryz.prog zjQ [.box id 0,.d (.slice (zbC l)),zot c,.d (.str tp),.d (.int .i64 o)] σ K:=by
 refine acE5 e_r23_Make fun hl => ?_
 have fin:∀ z,zhO L l c tp o=z->K (.tup [zhl z.2.1,.d (.int .i64 z.1)]) (σ.set id (rtO z.2.2)):=fun z h=>h▸hK
 clear hK
 have hself:=zbl hT
 have hlen:(zbC l).length=l.length:=List.length_map ..
 simp only [zvn,iN,bT,bF,eN,zl3,zl4]
 refine gq1 ?_
 refine c_r23find hl0 hb ?_
 cases hf:zoe tp o l 0 with
 | none=>
  simp only [findR]
  refine gq1 ?_
  refine zT hl ?_
  have:=fin (4,ztP,L) (by rw [zhO,hf])
  rw [hself] at this
  exact this
 | some ij=>
  obtain ⟨i,j⟩:=ij
  obtain ⟨n0,b,hi0,hx,hj⟩:=zwb hf
  have hi0:i=n0:=by omega
  subst hi0
  have hil:=(List.getElem?_eq_some_iff.1 hx).1
  have hbx:=hb b (List.mem_of_getElem? hx)
  have hgx:=zP (f:=zha) hx
  have hp0:b.placed[j]? = some b.placed[j]:=by simp [hj]
  have hps:=hbx.each _ (List.getElem_mem hj)
  obtain ⟨pl,hpl⟩:∃ x,b.placed[j]=x:=⟨_,rfl⟩
  rw [hpl] at hp0 hps
  have hgp:=zP (f:=zel) hp0
  have hplen:(zbg b.placed).length=b.placed.length:=List.length_map ..
  have hn:=hbx.len
  have hmk:zhO L l c tp o=match runF c.seq none (l.drop i) with
   | none=>(7,ztP,L)
   | some hs=>(0,⟨tp,o,pl.rec_,hs,j,b.placed.length,(zbd b.placed.length L j (b.placed.map zaz)).1,c⟩,(zbd b.placed.length L j (b.placed.map zaz)).2):=by
   rw [zhO,hf]
   have e1:l.getD i ⟨⟨0, 0, 0, 0, 0⟩,[],[]⟩=b:=by rw [List.getD_eq_getElem?_getD,hx];rfl
   have e2:b.placed.getD j ⟨[], 0,[]⟩=pl:=by rw [List.getD_eq_getElem?_getD,hp0];rfl
   simp only [e1,e2]
   cases runF c.seq none (l.drop i)<;>rfl
  simp only [findR]
  refine gq2 (zf hgx (zf hgp (zf hplen hlen))) ?_
  refine zcq (l.length-i) (fun k vs s => ∃ (acc:List zcF) (T:List zg),vs = [.d (.int .i64 ((i+k:Nat):Int))]/\s = σ++([certO c,nilPf,ztq b,pfBox tp o pl.rec_ (.own (σ.length+4) (ziW acc)) j b.placed.length c,.tok 5 acc.length]++T)/\acc.length=k/\runF c.seq none (l.drop i)=(runF c.seq (zmm (l.drop i) k) ((l.drop i).drop k)).map (acc ++ ·))
   (.tokB (σ.length+3) 3 _ [] 5 (by rw [zx];rfl) rfl (by simp) (by
    rw [zO,zV]
    simp only [List.set_cons_succ,List.set_cons_zero,List.length_cons,List.length_nil,List.append_assoc,List.cons_append,List.nil_append]
    exact .refl _ _)) ⟨[],[],rfl,rfl,rfl,by simp [zmm]⟩ ?_
  rintro k vs s hk ⟨acc,T,rfl,rfl,hak,hpf⟩
  have hal:(ziW acc).length=acc.length:=List.length_map ..
  obtain ⟨n,hin⟩:∃ n,i+k=n:=⟨_,rfl⟩
  rw [hin]
  by_cases hlt:n<l.length
  ·have hF:((n:Int)==(l.length:Int))=false:=by simp;omega
   have hxn:l[n]? = some l[n]:=by simp [hlt]
   have hxd:(l.drop i)[k]? = some l[n]:=by rw [List.getElem?_drop,hin];exact hxn
   have hbn:=hb _ (List.getElem_mem hlt)
   have hgn:=zP (f:=zha) hxn
   obtain ⟨x,hxe⟩:∃ x,l[n]=x:=⟨_,rfl⟩
   rw [hxe] at hxn hxd hgn hbn
   rw [runF_step hxd] at hpf
   obtain ⟨acc2,ha2⟩:∃ a,acc++[x.header]=a:=⟨_,rfl⟩
   have g1:acc.length+1=acc2.length:=by rw [← ha2];simp
   have g2:ziW acc++[[.int .i64 x.header.seq,.int .i64 x.header.prev,.int .i64 x.header.batch,.int .i64 x.header.root,.int .i64 x.header.state]]=ziW acc2:=by rw [← ha2];simp
   have hkey:(decide ((n:Int) > (i:Int))=false/\stepS (zmm (l.drop i) k) x.header.seq=true)∨(∃ y:zbc,decide ((n:Int) > (i:Int))=true/\IntKind.i64.wrap ((n:Int)-1)=((n-1:Nat):Int)/\(l.map zha)[n-1]? = some (zha y)/\(IntKind.i64.wrap (y.header.seq+1) != x.header.seq) = !stepS (zmm (l.drop i) k) x.header.seq):=by
    cases k with
    | zero=>exact .inl ⟨decide_eq_false (by omega),rfl⟩
    | succ k'=>
     have hy:l[n-1]? = some l[n-1]:=by simp [show n-1<l.length by omega]
     have hyd:(l.drop i)[k']? = some l[n-1]:=by rw [List.getElem?_drop,show i+k' = n-1 by omega];exact hy
     refine .inr ⟨l[n-1],decide_eq_true (by omega),by rw [zab (by omega) (by omega)];omega,zP hy,?_⟩
     rw [zmm,hyd];rfl
   have bad:stepS (zmm (l.drop i) k) x.header.seq=false->runF c.seq none (l.drop i)=none:=fun h=>by
    rw [hpf,if_pos h];rfl
   have nx:∀ τ:List zg,stepS (zmm (l.drop i) k) x.header.seq=true->(x.header.seq==c.seq)=false->zaB (l.length-i) (fun k vs s => ∃ (acc:List zcF) (T:List zg),vs = [.d (.int .i64 ((i+k:Nat):Int))]/\s = σ++([certO c,nilPf,ztq b,pfBox tp o pl.rec_ (.own (σ.length+4) (ziW acc)) j b.placed.length c,.tok 5 acc.length]++T)/\acc.length=k/\runF c.seq none (l.drop i)=(runF c.seq (zmm (l.drop i) k) ((l.drop i).drop k)).map (acc ++ ·)) k [.d (.int .i64 ((n:Int)+1))] (σ++certO c::nilPf::ztq b::pfBox tp o pl.rec_ (.own (σ.length+4) (ziW acc2)) j b.placed.length c::.tok 5 acc2.length::τ):=fun τ hst h2=>by
    rw [if_neg (by simp [hst]),if_neg (by simpa using h2)] at hpf
    refine zaB.next (by omega) ⟨acc2, τ,by rw [← hin];congr 3,rfl,by omega,?_⟩
    rw [hpf,zmm,hxd,Option.map_map]
    simp only [Option.map_some, ← ha2]
    congr 1
    funext z
    simp
   have st:stepS (zmm (l.drop i) k) x.header.seq=true->(x.header.seq==c.seq)=true->runF c.seq none (l.drop i)=some acc2:=fun hst h2=>by
    rw [hpf,if_neg (by simp [hst]),if_pos (by simpa using h2), ← ha2];rfl
   cases hst:stepS (zmm (l.drop i) k) x.header.seq
   ·rcases hkey with ⟨_,h⟩|⟨y,d1,d2,d3,d4⟩
    ·rw [hst] at h;cases h
    rw [hst] at d4
    refine gq2 (zf hF (zf hlen (zf hgn (zf d1 (zf d2 (zf d3 d4)))))) ?_
    refine zT hl ?_
    have:=fin (7,ztP,L) (by rw [hmk,bad hst])
    rw [hself] at this
    exact this
   ·cases h2:(x.header.seq==c.seq)
    ·rcases hkey with ⟨d1,_⟩|⟨y,d1,d2,d3,d4⟩
     ·refine gq2 (zf hF (zf hlen (zf hgn (zf d1 (zf hal (zf g1 (zf g2 (zf h2 (wkc n (by omega)))))))))) ?_
      exact nx _ hst h2
     ·rw [hst] at d4
      refine gq2 (zf hF (zf hlen (zf hgn (zf d1 (zf d2 (zf d3 (zf d4 (zf hal (zf g1 (zf g2 (zf h2 (wkc n (by omega))))))))))))) ?_
      exact nx _ hst h2
    ·have fin0:=fin _ (hmk.trans (by rw [st hst h2]))
     rcases hkey with ⟨d1,_⟩|⟨y,d1,d2,d3,d4⟩
     case' inl=>refine gq2 (zf hF (zf hlen (zf hgn (zf d1 (zf hal (zf g1 (zf g2 h2))))))) ?_
     case' inr=>
      rw [hst] at d4
      refine gq2 (zf hF (zf hlen (zf hgn (zf d1 (zf d2 (zf d3 (zf d4 (zf hal (zf g1 (zf g2 h2)))))))))) ?_
     all_goals
      refine zvb (by omega) hbx.each ?_
      refine gq1 ?_
      refine c_r5Prove (l:=b.placed.map zaz) (by rw [List.length_map];omega) (zd hT) hL (by rw [List.length_map];omega) (fun x hx'=>by
       obtain ⟨p,hp,rfl⟩:=List.mem_map.1 hx'
       exact znR (hbx.each p hp)) ?_
      rw [List.length_map,List.set_append_left _ _ (zy hT)]
      obtain ⟨A,hA⟩:∃ A,zbd b.placed.length L j (b.placed.map zaz)=A:=⟨_,rfl⟩
      rw [hA] at fin0 ⊢
      have hl2 : σ.length=(σ.set id (rtO A.2)).length:=(List.length_set ..).symm
      obtain ⟨S,hS⟩:∃ S, σ.set id (rtO A.2)=S:=⟨_,rfl⟩
      have hlo:zfv σ.length S:=hS▸hl.set (zfB _ _)
      simp only [hS] at fin0 hl2 ⊢
      clear nx hpf bad st
      refine ⟨fun hp => ?_,fun hp => ?_⟩
      all_goals
       refine gq37 hl2 ?_
       rw [← hl2]
       refine zef hl2.symm ?_ hlo ?_
       ·simp [zeH,dmT,dm,dm1,zcH,zbS,zeP]
       ·first|exact fin0|(rw [hp] at fin0;exact fin0)
  ·have hF:((n:Int)==(l.length:Int))=true:=by simp;omega
   have hr:runF c.seq none (l.drop i)=none:=by
    rw [hpf,show (l.drop i).drop k = [] from List.drop_eq_nil_of_le (by rw [List.length_drop];omega)];rfl
   refine gq2 (zf hF hlen) ?_
   refine zT hl ?_
   have:=fin (7,ztP,L) (by rw [hmk,hr])
   rw [hself] at this
   exact this
end Go.Proofs.YtfgbofkdhfjegaaGreat

/- An end of a call that zvW all that it made: what the caller's objects name now lies there. -/
namespace Go.AW
section
variable {P:Program} {σ:List zg}
def ztO (K:KT) (out:Option (List AV)) (σ':List zg):Prop:=match out with
 | some l => ∃ s,zoA [] σ' [] s/\K (dmT (zcH l)) s
 | none=>False
theorem zdZ {f:FuncId} {F:AF} {na:Nat} (hF:isFn P f F na) {as0:List AV} (has:as0.length=na) {K:KT}
  (h:zfv σ.length σ->(∀ a∈as0,Low σ.length a)->awp P F.body (AtEnd fun fr' σ'=>ztO K (zrn fr' σ' F.res) σ') (zjb 0 as0) σ):zr P f as0 σ K:=
 zmo hF has _ (fun {L w L' σ' w' fr' ts} S st S' F' hz=>by
  unfold ztO at hz
  split at hz
  ·rename_i l hl
   obtain ⟨s,hw,hK⟩:=hz
   obtain ⟨L2,st2,S2,_⟩:=zjI hw S' (us := []) ⟨rfl,by simp⟩
   exact ⟨L2,s,l,dmT (zcH l),hl,st.trans st2,S2,fun v hr=>zsY (st2.rv hr),hK⟩
  ·exact hz.elim) h
theorem zfO {K:KT} {l:List AV} {s:List zg} (h:K (dmT (zcH l)) s):ztO K (some l) s:=⟨_,.refl _ _,h⟩
end
end Go.AW
