/- Contracts: whether a proof shows what it says, on both sides. -/
import Derived.Test.YtfgbofkdhfjegaaGreatPt2
import Derived.Test.YtfgbofkdhfjegaaGreatCk3
import Derived.Test.YtfgbofkdhfjegaaGreatMk3
import Derived.Test.YtfgbofkdhfjegaaGreatHd1
import Derived.Test.YtfgbofkdhfjegaaGreatAwEnd
import Derived.Test.YtfgbofkdhfjegaaGreatSpUtf
import Derived.Test.YtfgbofkdhfjegaaGreatAu3
import Derived.Test.YtfgbofkdhfjegaaGreatOpC
import Derived.Test.YtfgbofkdhfjegaaGreatSpChk
set_option linter.all false
set_option maxRecDepth 100000
namespace Go.Proofs.YtfgbofkdhfjegaaGreat
open Go.AW
def zyx (L:List (List UInt8)) (p:zbW) (h:zdl):Bool:=match zdf L (zpI h) with
 | some i=>(((i+1:Nat):Int)==p.cert.dig)&&(h.seq==p.cert.seq)
 | none=>false
def zdM (L:List (List UInt8)) (p:zbW):Bool:=match p.headers.getLast? with
 | none=>false
 | some h=>znK L p.headers&&zyx L p h
def leafP (p:zbW):zbi:=⟨p.topic,p.offset,p.rec_⟩
def rootP (p:zbW):Int:=match p.headers with
 | [] => 0
 | h::_=>h.root
def zoF (L:List (List UInt8)) (G:List zR) (f:Int) (p:zbW):Int:=
 if zcZ f≠0 then zcZ f else if zcp p≠0 then zcp p else if zdM L p=false then 230 else if znL L G f p.cert=false then 231 else
  if zhi L (rootP p) (zaL (leafP p)) p.index p.count p.path=false then 232 else 0
theorem zvm {L:List (List UInt8)}:∀ {l:List zdl} {q:Option zdl},zsV L q l=true->∀ h∈l,zla h=true
 | [],_,_,h,hm=>by simp at hm
 | x::l,q,hc,h,hm=>by
  simp only [zsV,Bool.and_eq_true] at hc
  rcases List.mem_cons.1 hm with rfl|hm
  ·exact hc.1
  ·exact zvm hc.2.2 h hm
theorem c_pfChained {σ:List zh} {id m t:Nat} {L:List (List UInt8)} {p:zbW} (hT:zdH σ id m t L) (hL:zne L) (hp:zfe p) {K:KT} (hK:K (.d (.bool (zdM L p))) σ):zp Tryz.prog zjt [.box id 0,zfB p] σ K:=by
 refine zeW zuZ fun hl => ?_
 have fin:∀ z,zdM L p=z->K (.d (.bool z)) σ:=fun z h=>h▸hK
 clear hK
 have hhl:(zgR p.headers).length=p.headers.length:=List.length_map ..
 have hph:=hp.headers
 simp only [zob,iN,bT,bF,eN,zfB]
 cases h0:((p.headers.length:Int)==0)
 rotate_left
 ·have:p.headers = []:=List.eq_nil_of_length_eq_zero (by simp only [beq_iff_eq] at h0;omega)
  refine gq2 (zg hhl h0) ?_
  refine zI hl ?_
  exact fin _ (by simp [zdM,this])
 have hne:p.headers≠[]:=by
  intro e;rw [e] at h0;simp at h0
 obtain ⟨h,hlast⟩:∃ h,p.headers.getLast? = some h:=⟨_,List.getLast?_eq_some_getLast hne⟩
 have hcf:zdM L p=(znK L p.headers&&zyx L p h):=by rw [zdM,hlast]
 have hpos:0<p.headers.length:=List.length_pos_iff.2 hne
 have hget:p.headers[p.headers.length-1]? = some h:=by rw [← List.getLast?_eq_getElem?];exact hlast
 have hgh:=zK (f:=ztT) hget
 have hw:IntKind.i64.wrap ((p.headers.length:Int)-1)=((p.headers.length-1:Nat):Int):=by rw [zU (by omega) (by omega)];omega
 refine gq2 (zg hhl h0) ?_
 refine c_blChain (hT.app _) hL hph ?_
 cases h1:znK L p.headers
 ·refine gq1 ?_
  refine zI hl ?_
  exact fin _ (by rw [hcf,h1];rfl)
 have hok:=zvm h1 h (List.mem_of_getLast? hlast)
 have hc0:=zdx.2 hok
 refine gq2 (zg hhl (zg hw hgh)) ?_
 refine c_blBytes (h:=h) ?_
 rw [zqH hc0,hc0]
 refine gq2 (show ((0:Int) != 0)=false from rfl) ?_
 refine zqa (hT.app _) ?_
 cases h2:zdf L (zpI h) with
 | none=>
  refine gq5 ?_
  refine zI hl ?_
  exact fin _ (by rw [hcf,zyx,h2,Bool.and_false])
 | some i=>
  simp only [zjl]
  cases h3:(((i+1:Nat):Int)==p.cert.dig)
  ·refine zmY h3 ?_
   refine zI hl ?_
   exact fin _ (by rw [hcf,zyx,h1,h2];simp only [h3];rfl)
  ·refine zmY h3 ?_
   refine zI hl ?_
   exact fin _ (by rw [hcf,zyx,h1,h2];simp only [h3];rfl)
theorem zme {p:zbW} (hp:zfe p):zng (leafP p):=⟨hp.off,hp.topic,hp.rec_⟩
theorem zlP {p:zbi} (hp:zng p):(zaL p).length<=1073740000:=by
 have ht:=hp.topic;have hr:=hp.rec_;have ho:=hp.off.2
 have l1:=zJ (n:=p.topic.length) (by omega)
 have l2:=zJ (n:=p.offset.toNat) (by omega)
 have l3:=zJ (n:=p.rec_.length) (by omega)
 simp only [zaL,zqr,List.length_append]
 omega
theorem zsU {L:List (List UInt8)} {p:zbW} (h:zdM L p=true):∃ x r,p.headers=x::r:=by
 cases e:p.headers with
 | nil=>simp [zdM,e] at h
 | cons x r=>exact ⟨x,r,rfl⟩
theorem zqX {p:zbW} (h:zcp p=0):p.count<=16:=by
 rw [zcp,zgD,zgg] at h
 split at h
 ·rename_i h1;exact absurd h h1
 ·rw [zgg] at h
  split at h
  ·rename_i h1;exact absurd h h1
  ·rw [zgg] at h
   split at h
   ·rename_i h1;exact absurd h h1
   ·rename_i h1
    have h1':zbz (zbO p)=0:=by simpa using h1
    simp only [zbO,zbz] at h1'
    split at h1'
    ·rename_i h2;exact absurd h1' h2
    ·split at h1'
     ·rename_i h3;exact absurd h1' h3
     ·rename_i h3
      exact (inE_0 (by simpa using h3)).2
theorem c_pfVerify {σ:List zh} {id m t id2 m2 t2:Nat} {L:List (List UInt8)} {G:List zR} {f:Int} {p:zbW} (hT:zdH σ id m t L) (hG:zeY σ id2 m2 t2 G) (hL:zne L) (hg:G.length<=1073741824) (hp:zfe p)
  {K:KT} (hK:K (.d (.int .i64 (zoF L G f p))) σ):zp Tryz.prog zkC [.box id 0,.box id2 0,.d (.int .i64 f),zfB p] σ K:=by
 refine acE4 zww fun hl => ?_
 have fin:∀ z,zoF L G f p=z->K (.d (.int .i64 z)) σ:=fun z h=>h▸hK
 clear hK
 simp only [zpm,iN,bT,bF,eN,zfB]
 refine gq1 ?_
 refine zqY (hT.app _) hL.nd hL.len hL.each ?_
 refine gq1 ?_
 refine zrf (hG.app _) hg fun g' => ?_
 refine gq1 ?_
 refine zrc ?_
 cases h0:(zcZ f != 0)
 rotate_left
 ·refine gq2 h0 ?_
  refine zI hl ?_
  exact fin _ (by rw [zoF,if_pos (by simpa using h0)])
 have v0:zoF L G f p=if zcp p≠0 then zcp p else if zdM L p=false then 230 else if znL L G f p.cert=false then 231 else if zhi L (rootP p) (zaL (leafP p)) p.index p.count p.path=false then 232 else 0:=by
  rw [zoF,if_neg (by simpa using h0)]
 refine gq2 h0 ?_
 refine zwC (p:=p) hp ?_
 cases h1:(zcp p != 0)
 rotate_left
 ·refine gq2 h1 ?_
  refine zI hl ?_
  exact fin _ (by rw [v0,if_pos (by simpa using h1)])
 have h1':zcp p=0:=by simpa using h1
 rw [if_neg (by simpa using h1)] at v0
 refine gq2 h1 ?_
 refine c_pfChained (p:=p) (hT.app _) hL hp ?_
 cases h2:zdM L p
 ·refine gq1 ?_
  refine zI hl ?_
  exact fin _ (by rw [v0,if_pos h2])
 rw [if_neg (by simp [h2])] at v0
 refine gq1 ?_
 refine c_ptValid (c:=p.cert) (hT.app _) (hG.app _) hL hg hp.signs ?_
 cases h3:znL L G f p.cert
 ·refine gq1 ?_
  refine zI hl ?_
  exact fin _ (by rw [v0,if_pos h3])
 rw [if_neg (by simp [h3])] at v0
 obtain ⟨x,r,hxr⟩:=zsU h2
 have hgx:(zgR p.headers)[0]? = some (ztT x):=by rw [hxr];rfl
 have hrt:rootP p=x.root:=by rw [rootP,hxr]
 refine gq1 ?_
 refine c_toPlaced (p:=leafP p) (zme hp) ?_
 refine gq2 hgx ?_
 refine c_mkVerify (by have:=zqX h1';omega) (hT.app _) hL.len (zlP (zme hp)) (fun y hy=>(hp.paths y hy).2) ?_
 rw [hrt] at v0
 cases h4:zhi L x.root (zaL (leafP p)) p.index p.count p.path
 ·refine gq1 ?_
  refine zI hl ?_
  exact fin _ (by rw [v0,if_pos h4])
 ·refine gq1 ?_
  refine zI hl ?_
  exact fin _ (by rw [v0,if_neg (by simp [h4])])
theorem c_r23Verify {σ:List zh} {id id2:Nat} {L:List (List UInt8)} {G:List zR} {f:Int} {p:zbW} (hT : σ[id]? = some (rtO L)) (hG : σ[id2]? = some (rlO G)) (hL:L.length<=1048576) (hg:G.length<=1073741824) (hp:zfe p)
  {K:KT} (hK:K (.d (.int .i64 (zoF L G f p))) σ):zp Tryz.prog zno [.box id 0,.box id2 0,.d (.int .i64 f),zfB p] σ K:=by
 refine acE4 e_r23_Verify fun hl => ?_
 have fin:∀ z,zoF L G f p=z->K (.d (.int .i64 z)) σ:=fun z h=>h▸hK
 clear hK
 have hhl:(zgR p.headers).length=p.headers.length:=List.length_map ..
 have hph:=hp.headers
 have xT:∀ τ,(σ ++ τ)[id]? = some (rtO L):=fun τ=>zf hT
 have xG:∀ τ,(σ ++ τ)[id2]? = some (rlO G):=fun τ=>zf hG
 simp only [zsZ,iN,bT,bF,eN,zfB]
 refine gq1 ?_
 refine znN ?_
 cases h0:(zcZ f != 0)
 rotate_left
 ·refine gq2 h0 ?_
  refine zI hl ?_
  exact fin _ (by rw [zoF,if_pos (by simpa using h0)])
 have v0:zoF L G f p=if zcp p≠0 then zcp p else if zdM L p=false then 230 else if znL L G f p.cert=false then 231 else if zhi L (rootP p) (zaL (leafP p)) p.index p.count p.path=false then 232 else 0:=by
  rw [zoF,if_neg (by simpa using h0)]
 refine gq2 h0 ?_
 refine c_kProof (p:=p) hp ?_
 cases h1:(zcp p != 0)
 rotate_left
 ·refine gq2 h1 ?_
  refine zI hl ?_
  exact fin _ (by rw [v0,if_pos (by simpa using h1)])
 have h1':zcp p=0:=by simpa using h1
 rw [if_neg (by simpa using h1)] at v0
 cases h9:((p.headers.length:Int)==0)
 rotate_left
 ·have:p.headers = []:=List.eq_nil_of_length_eq_zero (by simp only [beq_iff_eq] at h9;omega)
  refine gq2 (zg h1 (zg hhl h9)) ?_
  refine zI hl ?_
  exact fin _ (by rw [v0,if_pos (by simp [zdM,this])])
 have hne:p.headers≠[]:=by
  intro e;rw [e] at h9;simp at h9
 obtain ⟨h,hlast⟩:∃ h,p.headers.getLast? = some h:=⟨_,List.getLast?_eq_some_getLast hne⟩
 have hcf:zdM L p=(znK L p.headers&&zyx L p h):=by rw [zdM,hlast]
 have hpos:0<p.headers.length:=List.length_pos_iff.2 hne
 have hget:p.headers[p.headers.length-1]? = some h:=by rw [← List.getLast?_eq_getElem?];exact hlast
 have hgh:=zK (f:=ztT) hget
 have hw:IntKind.i64.wrap ((p.headers.length:Int)-1)=((p.headers.length-1:Nat):Int):=by rw [zU (by omega) (by omega)];omega
 have no:zdM L p=false->zoF L G f p=230:=fun h=>by rw [v0,if_pos h]
 refine gq2 (zg h1 (zg hhl h9)) ?_
 refine c_hrChain (xT _) hL hph ?_
 cases h2:znK L p.headers
 ·refine gq1 ?_
  refine zI hl ?_
  exact fin _ (no (by rw [hcf,h2];rfl))
 have hok:=zvm h2 h (List.mem_of_getLast? hlast)
 have hc0:=zdx.2 hok
 rw [h2,Bool.true_and] at hcf
 refine gq2 (zg hhl (zg hw hgh)) ?_
 refine zvu (h:=h) ?_
 rw [zqH hc0,hc0]
 refine gq1 ?_
 refine zmp (xT _) hL ?_
 cases h3:(h.seq != p.cert.seq)
 rotate_left
 ·refine gq2 h3 ?_
  refine zI hl ?_
  refine fin _ (no ?_)
  have:(h.seq==p.cert.seq)=false:=by simpa using h3
  rw [hcf,zyx]
  split
  ·rw [this,Bool.and_false]
  ·rfl
 have h3':(h.seq==p.cert.seq)=true:=by simpa using h3
 cases h4:zdf L (zpI h) with
 | none=>
  refine zmY h3 ?_
  refine zI hl ?_
  exact fin _ (no (by rw [hcf,zyx,h4]))
 | some i=>
  simp only [zjl]
  simp only [zyx,h4,h3',Bool.and_true] at hcf
  cases h5:(((i+1:Nat):Int) != p.cert.dig)
  rotate_left
  ·refine zmY (zg h3 h5) ?_
   refine zI hl ?_
   exact fin _ (no (by rw [hcf];simpa using h5))
  have hcf1:zdM L p=true:=by rw [hcf];simpa using h5
  rw [if_neg (by simp [hcf1])] at v0
  refine zmY (zg h3 h5) ?_
  refine c_r14Valid (c:=p.cert) (xT _) (xG _) hL hg hp.signs ?_
  cases h6:znL L G f p.cert
  ·refine gq1 ?_
   refine zI hl ?_
   exact fin _ (by rw [v0,if_pos h6])
  rw [if_neg (by simp [h6])] at v0
  obtain ⟨x,r,hxr⟩:=zsU hcf1
  have hgx:(zgR p.headers)[0]? = some (ztT x):=by rw [hxr];rfl
  have hrt:rootP p=x.root:=by rw [rootP,hxr]
  refine gq1 ?_
  refine zxw (p:=leafP p) (zme hp) ?_
  refine gq2 hgx ?_
  refine c_r5Verify (by have:=zqX h1';omega) (xT _) hL (zlP (zme hp)) (fun y hy=>(hp.paths y hy).2) ?_
  rw [hrt] at v0
  cases h7:zhi L x.root (zaL (leafP p)) p.index p.count p.path
  ·refine gq1 ?_
   refine zI hl ?_
   exact fin _ (by rw [v0,if_pos h7])
  ·refine gq1 ?_
   refine zI hl ?_
   exact fin _ (by rw [v0,if_neg (by simp [h7])])
end Go.Proofs.YtfgbofkdhfjegaaGreat

/- Maps keyed by integers: what is found after a put. -/
namespace Go.AW
abbrev ents (l:List (Int × AV)):List (AV × AV):=l.map fun e=>(.d (.int .i64 e.1),e.2)
structure Rd where
 b:List UInt8
 e:Int
def Rd.fail (cut:Bool) (s:Rd) (x:Int):Rd:=if s.e=0/\x≠0 then ⟨if cut then [] else s.b,x⟩ else s
def numP (cut:Bool) (most:Nat) (s:Rd):Nat × Rd:=
 if s.e=0 then (match numR most 0 0 s.b with|.ok (n,r)=>(n,⟨r, 0⟩)|.error x=>(0,s.fail cut x)) else (0,s)
def takeP (cut:Bool) (n:Nat) (s:Rd):List UInt8 × Rd:=
 if s.e=0 then (if n > s.b.length then ([],s.fail cut 10) else (s.b.take n,⟨s.b.drop n, 0⟩)) else ([],s)
def zpc (cut:Bool) (most:Nat) (s:Rd):List UInt8 × Rd:=takeP cut (numP cut most s).1 (numP cut most s).2
def zyq (cut:Bool):Nat->Rd->List (List UInt8) × Rd
 | 0,s=>([],s)
 | k+1,s=>((zyq cut k s).1++[(zpc cut 64 (zyq cut k s).2).1],(zpc cut 64 (zyq cut k s).2).2)
def zuP (cut:Bool) (k:Nat) (s:Rd):TOp × Rd:=
 let t:=zpc cut 64 s
 if k=0 then (noOp,s)
 else if k=2 then (let n:=numP cut 4 t.2;let r:=zyq cut n.1 n.2;(⟨k,t.1,[], 0,r.1⟩,r.2))
 else if k=3 then (let g:=zpc cut 64 t.2;let f:=numP cut 9007199254740992 g.2;(⟨k,t.1,g.1,f.1,[]⟩,f.2))
 else if k=4 then (let f:=numP cut 9007199254740992 t.2;(⟨k,t.1,[],f.1,[]⟩,f.2))
 else (⟨k,t.1,[], 0,[]⟩,t.2)
def Rd.like (s t:Rd):Prop:=s.e=t.e/\(s.e=0->s.b=t.b)
theorem Rd.like.fail {s t:Rd} {c d:Bool} {x:Int} (h:s.like t):(s.fail c x).like (t.fail d x):=by
 obtain ⟨h1,h2⟩:=h
 unfold Rd.fail Rd.like
 grind
theorem Rd.like.num {s t:Rd} {c d:Bool} {m:Nat} (h:s.like t):(numP c m s).1=(numP d m t).1/\(numP c m s).2.like (numP d m t).2:=by
 have hf:∀ x,(s.fail c x).like (t.fail d x):=fun x=>h.fail
 obtain ⟨h1,h2⟩:=h
 unfold numP
 by_cases h0:s.e=0
 ·rw [if_pos h0,if_pos (show t.e=0 from h1▸h0),h2 h0]
  cases numR m 0 0 t.b with
  | ok x=>exact ⟨rfl,rfl,fun _=>rfl⟩
  | error x=>exact ⟨rfl,hf x⟩
 ·rw [if_neg h0,if_neg (h1▸h0)]
  exact ⟨rfl,h1,h2⟩
theorem Rd.like.take {s t:Rd} {c d:Bool} {m:Nat} (h:s.like t):(takeP c m s).1=(takeP d m t).1/\(takeP c m s).2.like (takeP d m t).2:=by
 have hf:∀ x,(s.fail c x).like (t.fail d x):=fun x=>h.fail
 obtain ⟨h1,h2⟩:=h
 unfold takeP
 by_cases h0:s.e=0
 ·rw [if_pos h0,if_pos (show t.e=0 from h1▸h0),h2 h0]
  split
  ·exact ⟨rfl,hf 10⟩
  ·exact ⟨rfl,rfl,fun _=>rfl⟩
 ·rw [if_neg h0,if_neg (h1▸h0)]
  exact ⟨rfl,h1,h2⟩
theorem Rd.like.bytes {s t:Rd} {c d:Bool} {m:Nat} (h:s.like t):(zpc c m s).1=(zpc d m t).1/\(zpc c m s).2.like (zpc d m t).2:=by
 have a:=h.num (c:=c) (d:=d) (m:=m)
 have:=a.2.take (c:=c) (d:=d) (m:=(numP c m s).1)
 unfold zpc
 rw [← a.1]
 exact this
theorem Rd.like.recs {s t:Rd} {c d:Bool} (h:s.like t):∀ k,(zyq c k s).1=(zyq d k t).1/\(zyq c k s).2.like (zyq d k t).2
 | 0=>⟨rfl,h⟩
 | k+1=>by
  obtain ⟨a,b⟩:=Rd.like.recs h (c:=c) (d:=d) k
  have e:=b.bytes (c:=c) (d:=d) (m := 64)
  exact ⟨by simp only [zyq,a,e.1],e.2⟩
theorem Rd.like.fields {s t:Rd} {c d:Bool} (h:s.like t) (k:Nat):(zuP c k s).1=(zuP d k t).1/\(zuP c k s).2.like (zuP d k t).2:=by
 obtain ⟨t1,t2⟩:=h.bytes (c:=c) (d:=d) (m := 64)
 obtain ⟨n1,n2⟩:=t2.num (c:=c) (d:=d) (m := 4)
 obtain ⟨r1,r2⟩:=n2.recs (c:=c) (d:=d) (numP c 4 (zpc c 64 s).2).1
 obtain ⟨g1,g2⟩:=t2.bytes (c:=c) (d:=d) (m := 64)
 obtain ⟨f1,f2⟩:=g2.num (c:=c) (d:=d) (m := 9007199254740992)
 obtain ⟨e1,e2⟩:=t2.num (c:=c) (d:=d) (m := 9007199254740992)
 unfold zuP
 simp only
 split
 ·exact ⟨rfl,h⟩
 ·split
  ·rw [← n1, ← r1, ← t1];exact ⟨rfl,r2⟩
  ·split
   ·rw [← t1, ← g1, ← f1];exact ⟨rfl,f2⟩
   ·split
    ·rw [← t1, ← e1];exact ⟨rfl,e2⟩
    ·rw [← t1];exact ⟨rfl,t2⟩
theorem zvj:∀ (f:Nat) (s:List UInt8) (n:Nat),zeb f s=some n->s.length<=4*n
 | 0,_,_,h=>by simp [zeb] at h
 | f+1,s,n,h=>by
  simp only [zeb] at h
  split at h
  ·rename_i h0;cases h;simp [h0]
  ·split at h
   ·cases h
   ·simp only [Option.map_eq_some_iff] at h
    obtain ⟨m,hm,rfl⟩:=h
    have:=zvj f _ m hm
    have h4:=(zln s).2.1
    simp only [List.length_drop] at *
    omega
theorem name_len {s:List UInt8} (h:zex s=true):s.length<=64:=by
 simp only [zex,zhJ,decide_eq_true_eq] at h
 cases e:zeb (s.length+1) s with
 | none=>simp [e] at h
 | some n=>
  have:=zvj _ s n e
  simp only [e] at h
  by_cases h16:n > 16
  ·simp [h16] at h
  ·omega
end Go.AW

/- Contracts: certificates that are kept. -/
set_option maxRecDepth 100000
namespace Go.Proofs.YtfgbofkdhfjegaaGreat
open Go.AW
abbrev hE (l:List (Int × zoQ)):List (AV × AV):=ents (l.map fun e=>(e.1,prepA e.2))
structure HeldAt (σ:List zh) (h m:Nat) (l:List (Int × zoQ)):Prop where
 box : σ[h]? = some (.box [.map m])
 map : σ[m]? = some (.map (hE l))
theorem HeldAt.app {σ:List zh} {h m:Nat} {l:List (Int × zoQ)} (H:HeldAt σ h m l) (τ:List zh):HeldAt (σ ++ τ) h m l:=⟨zf H.box,zf H.map⟩
theorem c_clRec {σ:List zh} {l:List UInt8} (hn:l.length<=1073741824) {K:KT} (hK:K (.d (.slice (bcs l))) σ):zp Tryz.prog zbI [.d (.slice (bcs l))] σ K:=by
 refine zfc zhX fun hl => ?_
 have hlen:=zav l
 have h2:∀ e∈bcs l,e.length=1:=zgs
 simp only [zec,iN,bT,bF,eN,zao,zdo]
 obtain ⟨es,hes⟩:∃ es,bcs l=es:=⟨_,rfl⟩
 rw [hes] at hlen h2 hK ⊢
 cases es with
 | nil=>
  refine ⟨?_,?_⟩
  ·refine gq1 ?_
   refine zI hl ?_
   exact hK
  ·refine gq1 ?_
   refine zI hl ?_
   exact hK
 | cons e es=>
  simp only [zX,zE,zG,zS,rep,zr,zeC,zag,zD,zdI]
  refine ⟨h2,by simp,by rw [hlen];simp;omega,?_⟩
  refine zI hl ?_
  exact hK
abbrev nilPf:zh := .box [.d (.str []),.d (.int .i64 0),.exact [],.exact [],.d (.int .i64 0),.d (.int .i64 0),.exact [],.d (.int .i64 0),.d (.int .i64 0),.exact []]
end Go.Proofs.YtfgbofkdhfjegaaGreat
