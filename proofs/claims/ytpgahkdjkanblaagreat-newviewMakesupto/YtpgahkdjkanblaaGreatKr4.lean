/- Contracts: the bytes of view-changes, the document's. -/
import Derived.Test.YtpgahkdjkanblaaGreatSm7
import Derived.Test.YtpgahkdjkanblaaGreatKr3
import Derived.Test.YtpgahkdjkanblaaGreatOp6
import Derived.Test.YtpgahkdjkanblaaGreatCodec1
import Derived.Test.YtpgahkdjkanblaaGreatSpTab
import Derived.Test.YtpgahkdjkanblaaGreatAwEnd
import Derived.Test.YtpgahkdjkanblaaGreatSh
set_option linter.all false
set_option maxRecDepth 100000
namespace Go.Proofs.YtpgahkdjkanblaaGreat
open Go.AW
theorem w64k {x:Int} (h0:0<=x) (h1:x<=9007199254740992):IntKind.u64.wrap x=((x.toNat:Nat):Int):=by
 rw [show x=((x.toNat:Nat):Int) by omega,zdq (by omega)];rfl
theorem zqS {σ:List zh} {b:List UInt8} {l:List Int} (hb:b.length<=536870912) (hl0:l.length<=1000) (hi:∀ x ∈ l, 0<=x/\x<=9007199254740992) {K:KT} (hK:K (.d (.slice (bcs (b++zaV l)))) σ) :
  zo Tryz.prog zcv [.d (.slice (bcs b)),.d (.slice (zpd l))] σ K:=by
 refine zd e_r10_put.is rfl fun hl _=>e_r10_put.goes ?_
 simp only [S_r10_put,iN,bT,bF,eN]
 refine zab ?_
 refine zm l.length (fun k vs s=>(∃ x,vs = [x,.d (.int .i64 k)]/\(x = .d (.slice (bcs (b++zaV (l.take k)))) ∨ ∃ t,x = .own t (bcs (b++zaV (l.take k)))))/\∃ T,s = σ++T) ⟨⟨_,rfl,.inl (by simp [zaV])⟩,[],by simp⟩ ?_
 rintro k vs s hk ⟨⟨y,rfl,hy⟩,T,rfl⟩
 by_cases hlt:k<l.length
 ·have hd:decide ((k:Int)<(l.length:Int))=true:=by simp;omega
  have hx:l[k]? = some l[k]:=by simp [hlt]
  have hxi:=hi _ (List.getElem_mem hlt)
  have hgx:=zR (f:=fun t => [D.int .i64 t]) hx
  obtain ⟨x,hxe⟩:∃ x,l[k]=x:=⟨_,rfl⟩
  rw [hxe] at hx hgx hxi
  have hw:=w64k hxi.1 hxi.2
  have hln:=zrY (l:=l.take k) (fun y hy=>by have:=hi y (List.mem_of_mem_take hy);omega)
  have hlk:(l.take k).length=k:=by rw [List.length_take];omega
  have hbl:(b++zaV (l.take k)).length<=1073741824:=by rw [List.length_append];omega
  have hnx:b++zaV (l.take (k+1))=b++(zaV (l.take k)++zcI x.toNat):=by rw [List.take_add_one,hx];simp [zaV]
  have fin:∀ t τ,(∃ z,[AV.own t (bcs (b++(zaV (l.take k)++zcI x.toNat))),.d (.int .i64 (k+1:Nat))] = [z,.d (.int .i64 (k+1:Nat))]/\(z = .d (.slice (bcs (b++zaV (l.take (k+1))))) ∨ ∃ t,z = .own t (bcs (b++zaV (l.take (k+1))))))/\∃ T', σ++T ++ τ = σ++T':=fun t τ =>
   ⟨⟨_,rfl,.inr ⟨t,by rw [hnx]⟩⟩,_,List.append_assoc _ _ _⟩
  obtain ⟨S,hS⟩:∃ S, σ++T=S:=⟨_,rfl⟩
  rw [hS] at fin ⊢
  rcases hy with rfl | ⟨t,rfl⟩
  ·refine zB (ze hd (ze hgx hw)) ?_
   refine zgd (by omega) hbl ?_
   refine zB (wkc k (by omega)) ?_
   exact zaz.next hlt (fin _ _)
  ·refine zB (ze hd (ze hgx hw)) ?_
   refine zgd (by omega) hbl ?_
   refine zB (wkc k (by omega)) ?_
   exact zaz.next hlt (fin _ _)
 ·have hd:decide ((k:Int)<(l.length:Int))=false:=by simp;omega
  rw [List.take_of_length_le (by omega)] at hy
  rcases hy with rfl | ⟨t,rfl⟩
  ·refine zB hd ?_
   refine zw hl ?_
   exact hK
  ·refine zB hd ?_
   refine zw hl ?_
   exact hK
theorem zwL {σ:List zh} {b:List UInt8} {l:List zK} (hb:b.length<=268435456) (hc:∀ e ∈ zcC l,e=0) {K:KT} (hK:K (.d (.slice (bcs (b++zvx l)))) σ) :
  zo Tryz.prog ziy [.d (.slice (bcs b)),.d (.slice (zap l))] σ K:=by
 refine zd zqI.is rfl fun hl _=>zqI.goes ?_
 obtain ⟨h13,hs⟩:=zzA hc
 have hll:(zap l).length=l.length:=List.length_map ..
 have n1:=zp (n:=l.length) (by omega)
 simp only [zqV,iN,bT,bF,eN]
 refine zB hll ?_
 refine zqS (l := [(l.length:Int)]) (by omega) (by simp) (by simp;omega) ?_
 rw [show zaV [(l.length:Int)]=zcI l.length by simp [zaV]]
 refine zB hll ?_
 refine zm l.length (fun k vs s=>vs = [.d (.slice (bcs (b++(zcI l.length++((l.take k).map fun s=>zfR s.key s.dig).flatten)))),.d (.int .i64 k)]/\s = σ) ⟨by simp,rfl⟩ ?_
 rintro k vs s hk ⟨rfl,rfl⟩
 by_cases hlt:k<l.length
 ·have hd:decide ((k:Int)<(l.length:Int))=true:=by simp;omega
  have hx:l[k]? = some l[k]:=by simp [hlt]
  have hxi:=hs _ (List.getElem_mem hlt)
  have hgx:=zR (f:=zgf) hx
  obtain ⟨x,hxe⟩:∃ x,l[k]=x:=⟨_,rfl⟩
  rw [hxe] at hx hgx hxi
  have hlen:(((l.take k).map fun s=>zfR s.key s.dig).flatten).length<=(l.take k).length * 20:=zdQ fun s hm=>zfv (hs s (List.mem_of_mem_take hm))
  have hlk:(l.take k).length=k:=by rw [List.length_take];omega
  have hsb:zbR x.key x.dig=zfR x.key x.dig:=by simp [zbR,hxi]
  refine zhH (ze hd (ze hgx hll)) ?_
  refine ziq (by simp only [List.length_append];omega) ?_
  rw [hsb]
  refine zB (wkc k (by omega)) ?_
  exact zaz.next hlt ⟨by rw [zeq hx];try simp,rfl⟩
 ·have hd:decide ((k:Int)<(l.length:Int))=false:=by simp;omega
  rw [List.take_of_length_le (by omega)]
  refine zB (ze hd hll) ?_
  refine zw hl ?_
  exact hK
theorem c_kPutCert {σ:List zh} {b:List UInt8} {c:zft} (hb:b.length<=134217728) (hc:∀ e ∈ zcX c,e=0) {K:KT} (hK:K (.d (.slice (bcs (b++zwC c)))) σ) :
  zo Tryz.prog zjP [.d (.slice (bcs b)),zgc c] σ K:=by
 refine zd zsv.is rfl fun hl _=>zsv.goes ?_
 obtain ⟨h1,h2,h3⟩:=cert_ok hc
 have n1:=zp (n:=c.seq.toNat) (by omega)
 have n2:=zp (n:=c.dig.toNat) (by omega)
 simp only [zsT,iN,bT,bF,eN]
 refine zab ?_
 refine zqS (l := [c.seq,c.dig]) (by omega) (by simp) (by simp;omega) ?_
 refine zab ?_
 refine zwL (by simp [zaV];omega) h3 ?_
 refine zab ?_
 refine zw hl ?_
 have fin:∀ x,x=b++zwC c->K (dmT (zcO [.d (.slice (bcs x))])) σ:=by rintro _ rfl;exact hK
 exact fin _ (by simp [zwC,zaV])
theorem zyU {σ:List zh} {b:List UInt8} {c:zU} (hb:b.length<=67108864) (hc:∀ e ∈ zez c,e=0) {K:KT} (hK:K (.d (.slice (bcs (b++ztT c)))) σ) :
  zo Tryz.prog zjQ [.d (.slice (bcs b)),.agg (zbK c)] σ K:=by
 refine zd zsw.is rfl fun hl _=>zsw.goes ?_
 have hpl:(zeV c.above).length=c.above.length:=List.length_map ..
 obtain ⟨h1,h2,h3,h4,h5⟩:=body_ok hc
 have n1:=zp (n:=c.view.toNat) (by omega)
 have n2:=zp (n:=c.src.toNat) (by omega)
 have n3:=zp (n:=c.above.length) (by omega)
 have n4:=zwB h3
 simp only [zsU,iN,bT,bF,eN]
 refine zab ?_
 refine zqS (l := [c.view,c.src]) (by omega) (by simp) (by simp;omega) ?_
 refine zab ?_
 refine c_kPutCert (c:=c.cert) (by simp [zaV];omega) h3 ?_
 refine zB hpl ?_
 refine zqS (l := [(c.above.length:Int)]) (by simp [zaV];omega) (by simp) (by simp;omega) ?_
 rw [show zaV [(c.above.length:Int)]=zcI c.above.length by simp [zaV]]
 obtain ⟨Q,hQ⟩:∃ Q,b++(zaV [c.view,c.src]++zwC c.cert)++zcI c.above.length=Q:=⟨_,rfl⟩
 have hQl:Q.length<=67108864+400:=by rw [← hQ];simp [zaV];omega
 rw [hQ]
 refine zB hpl ?_
 refine zm c.above.length (fun k vs s=>vs = [.d (.slice (bcs (Q++((c.above.take k).map zuY).flatten))),.d (.int .i64 k)]/\∃ T,s = σ++[.box (zbK c)]++T) ⟨by simp,[],by simp⟩ ?_
 rintro k vs s hk ⟨rfl,T,rfl⟩
 by_cases hlt:k<c.above.length
 ·have hd:decide ((k:Int)<(c.above.length:Int))=true:=by simp;omega
  have hx:c.above[k]? = some c.above[k]:=by simp [hlt]
  have hpx:=h5 _ (List.getElem_mem hlt)
  have hgx:=zR (f:=zew) hx
  obtain ⟨p,hp⟩:∃ p,c.above[k]=p:=⟨_,rfl⟩
  rw [hp] at hx hgx hpx
  have hlen:(((c.above.take k).map zuY).flatten).length<=(c.above.take k).length * 4400:=zdQ fun s hm=>zvB (h5 s (List.mem_of_mem_take hm))
  have hlk:(c.above.take k).length=k:=by rw [List.length_take];omega
  obtain ⟨R,hR⟩:∃ R,Q++((c.above.take k).map zuY).flatten=R:=⟨_,rfl⟩
  have hRl:R.length<=67108864+36000:=by rw [← hR,List.length_append];omega
  rw [hR]
  obtain ⟨p1,p2,p3,p4,p5,p6⟩:=prep_ok hpx
  have m1:=zp (n:=p.view.toNat) (by omega)
  have m2:=zp (n:=p.seq.toNat) (by omega)
  have m3:=zp (n:=p.dig.toNat) (by omega)
  have m4:=zfv p4
  have m5:=zqd p5
  have hsb:zbR p.fkey p.fdig=zfR p.fkey p.fdig:=by simp [zbR,p4]
  have hbb:zbY p.batch=zcy p.batch:=by simp [zbY,p6]
  have hbx:∀ τ,(σ++[zh.box (zbK c)]++T ++ τ)[σ.length]? = some (.box (zbK c)):=fun τ=>zx (zx (by rw [zt];rfl))
  have hbx0:=hbx []
  rw [List.append_nil] at hbx0
  have fin:∀ τ, ∃ T', σ++[zh.box (zbK c)]++T ++ τ = σ++zh.box (zbK c) :: T':=fun τ=>⟨T ++ τ,by simp⟩
  obtain ⟨S,hS⟩:∃ S, σ++[zh.box (zbK c)]++T=S:=⟨_,rfl⟩
  rw [hS] at hbx hbx0 fin ⊢
  refine zhH (ze hd (ze hgx (ze hpl (ze hbx hbx0)))) ?_
  refine zqS (l := [p.view,p.seq,p.dig]) (by omega) (by simp) (by simp;omega) ?_
  refine zab ?_
  refine ziq (by simp [zaV];omega) ?_
  rw [hsb]
  refine zab ?_
  refine zwL (by simp [zaV];omega) p5 ?_
  refine zab ?_
  refine znp (by simp [zaV];omega) (fun x hx=>Nat.le_trans ((zgN p6).1 x hx) (by omega)) (by have:=(zjX p6).1;omega) ?_
  rw [hbb]
  refine zB (wkc k (by omega)) ?_
  refine zaz.next hlt ⟨?_,fin _⟩
  rw [zeq hx, ← hR]
  simp [zuY,zaV]
 ·have hd:decide ((k:Int)<(c.above.length:Int))=false:=by simp;omega
  have hbx0:(σ++[zh.box (zbK c)]++T)[σ.length]? = some (.box (zbK c)):=zx (by rw [zt];rfl)
  rw [show c.above.take k=c.above from List.take_of_length_le (by omega)]
  obtain ⟨S,hS⟩:∃ S,[zh.box (zbK c)]++T=S:=⟨_,rfl⟩
  rw [List.append_assoc,hS] at hbx0 ⊢
  refine zB (ze hd (ze hpl hbx0)) ?_
  refine zw hl ?_
  rw [← hQ]
  have fin:∀ x,x=b++ztT c->K (dmT (zcO [.d (.slice (bcs x))])) σ:=by rintro _ rfl;exact hK
  exact fin _ (by simp [ztT,zaV])
theorem c_kPutChange {σ:List zh} {b:List UInt8} {c:zU} (hb:b.length<=67108864) (hc:∀ e ∈ zaX c,e=0) {K:KT} (hK:K (.d (.slice (bcs (b++zgb c)))) σ) :
  zo Tryz.prog zkl [.d (.slice (bcs b)),.agg (zbK c)] σ K:=by
 refine zd zpp.is rfl fun hl _=>zpp.goes ?_
 obtain ⟨h1,h2⟩:=zkJ hc
 have n1:=zpB h1
 have hsb:zbR c.key c.dig=zfR c.key c.dig:=by simp [zbR,h2]
 simp only [zpO,iN,bT,bF,eN]
 refine zab ?_
 refine zyU (c:=c) hb h1 ?_
 refine zab ?_
 refine ziq (by simp only [List.length_append];omega) ?_
 rw [hsb]
 refine zab ?_
 refine zw hl ?_
 have fin:∀ x,x=b++zgb c->K (dmT (zcO [.d (.slice (bcs x))])) σ:=by rintro _ rfl;exact hK
 exact fin _ (by simp [zgb,zaV])
end Go.Proofs.YtpgahkdjkanblaaGreat

/- Readers: a reader's bytes and its error; what is taken from them. 'cut': an error drops the bytes. No program in sight. -/
namespace Go.AW
structure Rd where
 b:List UInt8
 e:Int
def Rd.fail (cut:Bool) (s:Rd) (x:Int):Rd:=if s.e=0/\x ≠ 0 then ⟨if cut then [] else s.b,x⟩ else s
def ztc (cut:Bool) (most:Nat) (s:Rd):Nat × Rd :=
 if s.e=0 then (match numR most 0 0 s.b with | .ok (n,r)=>(n,⟨r, 0⟩) | .error x=>(0,s.fail cut x)) else (0,s)
def takeP (cut:Bool) (n:Nat) (s:Rd):List UInt8 × Rd :=
 if s.e=0 then (if n > s.b.length then ([],s.fail cut 10) else (s.b.take n,⟨s.b.drop n, 0⟩)) else ([],s)
def zmC (cut:Bool) (most:Nat) (s:Rd):List UInt8 × Rd:=takeP cut (ztc cut most s).1 (ztc cut most s).2
def zzK (cut:Bool):Nat->Rd->List (List UInt8) × Rd
 | 0,s=>([],s)
 | k+1,s=>((zzK cut k s).1++[(zmC cut 64 (zzK cut k s).2).1],(zmC cut 64 (zzK cut k s).2).2)
def zry (cut:Bool) (k:Nat) (s:Rd):TOp × Rd :=
 let t:=zmC cut 64 s
 if k=0 then (noOp,s)
 else if k=2 then (let n:=ztc cut 4 t.2;let r:=zzK cut n.1 n.2;(⟨k,t.1,[], 0,r.1⟩,r.2))
 else if k=3 then (let g:=zmC cut 64 t.2;let f:=ztc cut 9007199254740992 g.2;(⟨k,t.1,g.1,f.1,[]⟩,f.2))
 else if k=4 then (let f:=ztc cut 9007199254740992 t.2;(⟨k,t.1,[],f.1,[]⟩,f.2))
 else (⟨k,t.1,[], 0,[]⟩,t.2)
def ztg (cut:Bool) (name:List UInt8->Bool) (s:Rd):TOp × Rd :=
 let k:=ztc cut 4 s
 let x:=zry cut k.1 k.2
 let z:=x.2.fail cut (zcP name x.1)
 (if z.e=0 then x.1 else noOp,z)
def Rd.like (s t:Rd):Prop:=s.e=t.e/\(s.e=0->s.b=t.b)
theorem Rd.like.fail {s t:Rd} {c d:Bool} {x:Int} (h:s.like t):(s.fail c x).like (t.fail d x):=by
 obtain ⟨h1,h2⟩:=h
 unfold Rd.fail Rd.like
 grind
theorem Rd.like.num {s t:Rd} {c d:Bool} {m:Nat} (h:s.like t):(ztc c m s).1=(ztc d m t).1/\(ztc c m s).2.like (ztc d m t).2:=by
 have hf:∀ x,(s.fail c x).like (t.fail d x):=fun x=>h.fail
 obtain ⟨h1,h2⟩:=h
 unfold ztc
 by_cases h0:s.e=0
 ·rw [if_pos h0,if_pos (show t.e=0 from h1 ▸ h0),h2 h0]
  cases numR m 0 0 t.b with
  | ok x=>exact ⟨rfl,rfl,fun _=>rfl⟩
  | error x=>exact ⟨rfl,hf x⟩
 ·rw [if_neg h0,if_neg (h1 ▸ h0)]
  exact ⟨rfl,h1,h2⟩
theorem Rd.like.take {s t:Rd} {c d:Bool} {m:Nat} (h:s.like t):(takeP c m s).1=(takeP d m t).1/\(takeP c m s).2.like (takeP d m t).2:=by
 have hf:∀ x,(s.fail c x).like (t.fail d x):=fun x=>h.fail
 obtain ⟨h1,h2⟩:=h
 unfold takeP
 by_cases h0:s.e=0
 ·rw [if_pos h0,if_pos (show t.e=0 from h1 ▸ h0),h2 h0]
  split
  ·exact ⟨rfl,hf 10⟩
  ·exact ⟨rfl,rfl,fun _=>rfl⟩
 ·rw [if_neg h0,if_neg (h1 ▸ h0)]
  exact ⟨rfl,h1,h2⟩
theorem Rd.like.bytes {s t:Rd} {c d:Bool} {m:Nat} (h:s.like t):(zmC c m s).1=(zmC d m t).1/\(zmC c m s).2.like (zmC d m t).2:=by
 have a:=h.num (c:=c) (d:=d) (m:=m)
 have:=a.2.take (c:=c) (d:=d) (m:=(ztc c m s).1)
 unfold zmC
 rw [← a.1]
 exact this
theorem Rd.like.recs {s t:Rd} {c d:Bool} (h:s.like t):∀ k,(zzK c k s).1=(zzK d k t).1/\(zzK c k s).2.like (zzK d k t).2
 | 0=>⟨rfl,h⟩
 | k+1=>by
  obtain ⟨a,b⟩:=Rd.like.recs h (c:=c) (d:=d) k
  have e:=b.bytes (c:=c) (d:=d) (m := 64)
  exact ⟨by simp only [zzK,a,e.1],e.2⟩
theorem Rd.like.fields {s t:Rd} {c d:Bool} (h:s.like t) (k:Nat):(zry c k s).1=(zry d k t).1/\(zry c k s).2.like (zry d k t).2:=by
 obtain ⟨t1,t2⟩:=h.bytes (c:=c) (d:=d) (m := 64)
 obtain ⟨n1,n2⟩:=t2.num (c:=c) (d:=d) (m := 4)
 obtain ⟨r1,r2⟩:=n2.recs (c:=c) (d:=d) (ztc c 4 (zmC c 64 s).2).1
 obtain ⟨g1,g2⟩:=t2.bytes (c:=c) (d:=d) (m := 64)
 obtain ⟨f1,f2⟩:=g2.num (c:=c) (d:=d) (m := 9007199254740992)
 obtain ⟨e1,e2⟩:=t2.num (c:=c) (d:=d) (m := 9007199254740992)
 unfold zry
 simp only
 split
 ·exact ⟨rfl,h⟩
 ·split
  ·rw [← n1, ← r1, ← t1];exact ⟨rfl,r2⟩
  ·split
   ·rw [← t1, ← g1, ← f1];exact ⟨rfl,f2⟩
   ·split
    ·rw [← t1, ← e1];exact ⟨rfl,e2⟩
    ·rw [← t1];exact ⟨rfl,t2⟩
theorem Rd.like.takeOp {s t:Rd} {c d:Bool} {name:List UInt8->Bool} (h:s.like t):(ztg c name s).1=(ztg d name t).1/\(ztg c name s).2.like (ztg d name t).2:=by
 obtain ⟨k1,k2⟩:=h.num (c:=c) (d:=d) (m := 4)
 obtain ⟨x1,x2⟩:=k2.fields (c:=c) (d:=d) (ztc c 4 s).1
 have z:=x2.fail (c:=c) (d:=d) (x:=zcP name (zry c (ztc c 4 s).1 (ztc c 4 s).2).1)
 unfold ztg
 simp only
 rw [← k1, ← x1, ← z.1]
 exact ⟨rfl,z⟩
end Go.AW
namespace Go.AW
end Go.AW
namespace Go.AW
end Go.AW
namespace Go.AW
end Go.AW
namespace Go.AW
end Go.AW
namespace Go.AW
end Go.AW

/- One byte of a number, as a loop over at most ten reads it. No program in sight. -/
namespace Go.AW
open Go
end Go.AW
namespace Go.AW
end Go.AW

/- Contracts: the reader's small methods. -/
set_option maxRecDepth 100000
namespace Go.Proofs.YtpgahkdjkanblaaGreat
open Go.AW
def Cell (c:AV) (B:List UInt8):Prop:=c = .d (.slice (bcs B)) ∨ ∃ t,c = .own t (bcs B)
end Go.Proofs.YtpgahkdjkanblaaGreat
set_option maxRecDepth 100000
namespace Go.Proofs.YtpgahkdjkanblaaGreat
open Go.AW
def Nxt (c c':AV):Prop:=c' = c ∨ ∃ x,c' = .d x
theorem Nxt.rfl {c:AV}:Nxt c c := .inl (Eq.refl c)
theorem Nxt.trans {a b c:AV} (h:Nxt a b) (g:Nxt b c):Nxt a c:=by
 rcases g with rfl | g
 ·exact h
 ·exact .inr g
theorem Nxt.low {n:Nat} {a b:AV} (h:Nxt a b) (g:Low n a):Low n b:=by
 rcases h with rfl | ⟨x,rfl⟩
 ·exact g
 ·exact .d _
end Go.Proofs.YtpgahkdjkanblaaGreat

/- Contracts: reading byte strings, operations. -/
set_option maxRecDepth 100000
namespace Go.Proofs.YtpgahkdjkanblaaGreat
open Go.AW
end Go.Proofs.YtpgahkdjkanblaaGreat

/- Contracts: Parse. -/
set_option maxRecDepth 100000
namespace Go.Proofs.YtpgahkdjkanblaaGreat
open Go.AW
end Go.Proofs.YtpgahkdjkanblaaGreat

/- Requests, signatures and batches, as they are read. No program in sight. -/
namespace Go.AW
def nilRq:zJ:=⟨0, 0,noOp, 0, 0⟩
def doneE (s:Rd):Int:=if s.e=0/\0<s.b.length then 12 else s.e
def lateE (e:Int) (t:Nat):Int:=if e=0/\t=0 then 80 else e
def pickR (f:Int) (x:zJ):zJ:=if f=0 then x else nilRq
def signZ (c:Bool) (d:Nat × Rd):Rd:=if d.2.e=0/\d.1=0 then d.2.fail c 81 else d.2
def reqP (c:Bool) (b:List UInt8):zJ × Int :=
 let k:=ztc c 7 ⟨b, 0⟩
 let t:=ztc c 9007199254740992 k.2
 let o:=ztg c zjN t.2
 let f:=lateE (doneE o.2) t.1
 (pickR f ⟨k.1,t.1,o.1, 0, 0⟩,f)
def signP (c:Bool) (s:Rd):(Nat × Nat) × Rd :=
 let k:=ztc c 20 s
 let d:=ztc c 9007199254740992 k.2
 let z:=signZ c d
 (if z.e=0 then (k.1,d.1) else (0, 0),z)
def oneP (c:Bool) (s:Rd):zJ × Rd :=
 let b:=zmC c 1024 s
 let x:=reqP c b.1
 let g:=signP c (b.2.fail c x.2)
 (⟨x.1.client,x.1.time,x.1.op,g.1.1,g.1.2⟩,g.2)
def zqF (c:Bool):Nat->Rd->List zJ × Rd
 | 0,s=>([],s)
 | k+1,s=>((zqF c k s).1++[(oneP c (zqF c k s).2).1],(oneP c (zqF c k s).2).2)
def batchP (c:Bool) (s:Rd):List zJ × Rd :=
 let n:=ztc c 4 s
 let p:=zqF c n.1 n.2
 let z:=p.2.fail c (zD p.1)
 (if z.e=0 then p.1 else [],z)
theorem Rd.like.refl (s:Rd):s.like s:=⟨rfl,fun _=>rfl⟩
theorem done_like {s t:Rd} (h:s.like t):doneE s=doneE t:=by
 unfold doneE
 obtain ⟨h1,h2⟩:=h
 by_cases h0:s.e=0
 ·rw [h2 h0,h1]
 ·rw [if_neg (fun g=>h0 g.1),if_neg (fun g=>h0 (h1 ▸ g.1)),h1]
theorem reqP_like (c d:Bool) (b:List UInt8):reqP c b=reqP d b:=by
 obtain ⟨k1,k2⟩:=(Rd.like.refl ⟨b, 0⟩).num (c:=c) (d:=d) (m := 7)
 obtain ⟨t1,t2⟩:=k2.num (c:=c) (d:=d) (m := 9007199254740992)
 obtain ⟨o1,o2⟩:=t2.takeOp (c:=c) (d:=d) (name:=zjN)
 have e:=done_like o2
 unfold reqP
 simp only
 rw [e,t1,k1,o1]
theorem Rd.like.sign {s t:Rd} {c d:Bool} (h:s.like t):(signP c s).1=(signP d t).1/\(signP c s).2.like (signP d t).2:=by
 obtain ⟨k1,k2⟩:=h.num (c:=c) (d:=d) (m := 20)
 obtain ⟨t1,t2⟩:=k2.num (c:=c) (d:=d) (m := 9007199254740992)
 have z:=t2.fail (c:=c) (d:=d) (x := 81)
 have hz:(signZ c (ztc c 9007199254740992 (ztc c 20 s).2)).like (signZ d (ztc d 9007199254740992 (ztc d 20 t).2)):=by
  unfold signZ
  rw [← t1, ← t2.1]
  split
  ·exact z
  ·exact t2
 unfold signP
 simp only
 rw [← k1, ← t1, ← hz.1]
 exact ⟨rfl,hz⟩
theorem Rd.like.one {s t:Rd} {c d:Bool} (h:s.like t):(oneP c s).1=(oneP d t).1/\(oneP c s).2.like (oneP d t).2:=by
 obtain ⟨b1,b2⟩:=h.bytes (c:=c) (d:=d) (m := 1024)
 have e:=reqP_like c d (zmC c 1024 s).1
 have f:=b2.fail (c:=c) (d:=d) (x:=(reqP c (zmC c 1024 s).1).2)
 obtain ⟨g1,g2⟩:=f.sign (c:=c) (d:=d)
 unfold oneP
 simp only
 rw [← b1, ← e, ← g1]
 exact ⟨rfl,g2⟩
theorem Rd.like.items {s t:Rd} {c d:Bool} (h:s.like t):∀ k,(zqF c k s).1=(zqF d k t).1/\(zqF c k s).2.like (zqF d k t).2
 | 0=>⟨rfl,h⟩
 | k+1=>by
  obtain ⟨a,b⟩:=Rd.like.items h (c:=c) (d:=d) k
  obtain ⟨e1,e2⟩:=b.one (c:=c) (d:=d)
  exact ⟨by simp only [zqF,a,e1],e2⟩
theorem Rd.like.batch {s t:Rd} {c d:Bool} (h:s.like t):(batchP c s).1=(batchP d t).1/\(batchP c s).2.like (batchP d t).2:=by
 obtain ⟨n1,n2⟩:=h.num (c:=c) (d:=d) (m := 4)
 obtain ⟨p1,p2⟩:=n2.items (c:=c) (d:=d) (ztc c 4 s).1
 have z:=p2.fail (c:=c) (d:=d) (x:=zD (zqF c (ztc c 4 s).1 (ztc c 4 s).2).1)
 unfold batchP
 simp only
 rw [← n1, ← p1, ← z.1]
 exact ⟨rfl,z⟩
end Go.AW

/- Contracts: requests, signatures and batches are read. -/
set_option maxRecDepth 100000
namespace Go.Proofs.YtpgahkdjkanblaaGreat
open Go.AW
end Go.Proofs.YtpgahkdjkanblaaGreat
