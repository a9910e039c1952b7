/- Contracts: the bytes of view-changes and new views, the program's. -/
import Derived.Test.YtpgahkdjkanblaaGreatRq9
import Derived.Test.YtpgahkdjkanblaaGreatSm7
set_option linter.all false
set_option maxRecDepth 100000
namespace Go.Proofs.YtpgahkdjkanblaaGreat
open Go.AW
theorem zpZ.trans {σ S S2:List zh} {id:Nat} {B X O O':zh} (h:zpZ σ id B O S) (hid:id < σ.length) (h2:zpZ S id X O' S2):zpZ σ id B O' S2:=by
 obtain ⟨_,_, τ,rfl⟩:=h2
 exact (h.set hid O').app τ
section
variable {σ S:List zh} {id:Nat} {B:zh} {b:List UInt8} {K:KT} (j:zpZ σ id B (wO b) S) (hid:id < σ.length)
include j hid
theorem zyi {l:List Int} (hb:b.length<=536870912) (hl0:l.length<=1000) (hi:∀ x ∈ l, 0<=x/\x<=9007199254740992) (hK:∀ S,zpZ σ id B (wO (b++zaV l)) S->K (.tup []) S) :
  zo Tryz.prog zam [.box id 0,.d (.slice (zpd l))] S K:=c_wNum j.a hb hl0 hi (hK _ (j.set hid _))
theorem jw_many {n:Nat} (hb:b.length<=536870912) (hn:n<=1073741824) (hK:∀ S,zpZ σ id B (wO (b++zcI n)) S->K (.tup []) S) :
  zo Tryz.prog zcr [.box id 0,.d (.int .i64 n)] S K:=c_wMany j.a hb hn (hK _ (j.set hid _))
theorem jw_sign {k d:Int} (hb:b.length<=536870912) (hc:zS k d=0) (hK:∀ S,zpZ σ id B (wO (b++zfR k d)) S->K (.tup []) S) :
  zo Tryz.prog zbe [.box id 0,.agg [.d (.int .i64 k),.d (.int .i64 d)]] S K:=zAe j.a hb hc (hK _ (j.set hid _))
theorem jw_batch {l:List zJ} (hb:b.length<=268435456) (hc:zD l=0) (hK:∀ S,zpZ σ id B (wO (b++zcy l)) S->K (.tup []) S) :
  zo Tryz.prog zbO [.box id 0,.d (.slice (zbj l))] S K:=c_wBatch j.a hb hc (hK _ (j.set hid _))
theorem jw_signs {l:List zK} (hb:b.length<=268435456) (hc:∀ e ∈ zcC l,e=0) (hK:∀ S,zpZ σ id B (wO (b++zvx l)) S->K (.tup []) S) :
  zo Tryz.prog zcS [.box id 0,.d (.slice (zap l))] S K:=c_wSigns j.a hb hc (hK _ (j.set hid _))
theorem jw_cert {c:zft} (hb:b.length<=134217728) (hc:∀ e ∈ zcX c,e=0) (hK:∀ S,zpZ σ id B (wO (b++zwC c)) S->K (.tup []) S) :
  zo Tryz.prog zdh [.box id 0,zgc c] S K:=c_wCert j.a hb hc (hK _ (j.set hid _))
end
theorem c_wBody {σ:List zh} {id:Nat} {b:List UInt8} {c:zU} (hσ : σ[id]? = some (wO b)) (hb:b.length<=67108864) (hc:∀ e ∈ zez c,e=0) {K:KT} (hK:K (.tup []) (σ.set id (wO (b++ztT c)))) :
  zo Tryz.prog zen [.box id 0,.agg (zbK c)] σ K:=by
 refine zd ziU.is rfl fun hl _=>ziU.goes ?_
 have hid:=zcT hσ
 have hpl:(zeV c.above).length=c.above.length:=List.length_map ..
 obtain ⟨h1,h2,h3,h4,h5⟩:=body_ok hc
 have n1:=zp (n:=c.view.toNat) (by omega)
 have n2:=zp (n:=c.src.toNat) (by omega)
 have n3:=zp (n:=c.above.length) (by omega)
 have n4:=zwB h3
 simp only [zjb,iN,bT,bF,eN]
 have j:=zpZ.first hσ (.box (zbK c))
 refine zab ?_
 refine zyi (l := [c.view,c.src]) j hid (by omega) (by simp) (by simp;omega) fun S j => ?_
 have b0:=j.b
 refine zB b0 ?_
 refine jw_cert (c:=c.cert) j hid (by simp [zaV];omega) h3 fun S j => ?_
 have b0:=j.b
 refine zB (ze b0 hpl) ?_
 refine jw_many (n:=c.above.length) j hid (by simp [zaV];omega) (by omega) fun S j => ?_
 have b0:=j.b
 obtain ⟨Q,hQ⟩:∃ Q,b++zaV [c.view,c.src]++zwC c.cert++zcI c.above.length=Q:=⟨_,rfl⟩
 have hQl:Q.length<=67108864+400:=by rw [← hQ];simp [zaV];omega
 rw [hQ] at j
 refine zB (ze b0 hpl) ?_
 refine zm c.above.length (fun k vs S=>vs = [.d (.int .i64 k)]/\zpZ σ id (.box (zbK c)) (wO (Q++((c.above.take k).map zuY).flatten)) S) ⟨rfl,by simpa using j⟩ ?_
 rintro k vs S hk ⟨rfl,j⟩
 by_cases hlt:k<c.above.length
 ·have hd:decide ((k:Int)<(c.above.length:Int))=true:=by simp;omega
  have hx:c.above[k]? = some c.above[k]:=by simp [hlt]
  have hpx:=h5 _ (List.getElem_mem hlt)
  have hgx:=zR (f:=zew) hx
  obtain ⟨p,hp⟩:∃ p,c.above[k]=p:=⟨_,rfl⟩
  rw [hp] at hx hgx hpx
  have hlen:(((c.above.take k).map zuY).flatten).length<=(c.above.take k).length * 4400:=zdQ fun s hm=>zvB (h5 s (List.mem_of_mem_take hm))
  have hlk:(c.above.take k).length=k:=by rw [List.length_take];omega
  obtain ⟨R,hR⟩:∃ R,Q++((c.above.take k).map zuY).flatten=R:=⟨_,rfl⟩
  have hRl:R.length<=67108864+36000:=by rw [← hR,List.length_append];omega
  rw [hR] at j
  obtain ⟨p1,p2,p3,p4,p5,p6⟩:=prep_ok hpx
  have m1:=zp (n:=p.view.toNat) (by omega)
  have m2:=zp (n:=p.seq.toNat) (by omega)
  have m3:=zp (n:=p.dig.toNat) (by omega)
  have m4:=zfv p4
  have m5:=zqd p5
  have hS:id<S.length:=zcT j.a
  have i:=zpZ.first j.a (.box (prepL p))
  refine zhH (ze hd (ze hgx hpl)) ?_
  refine zyi (l := [p.view,p.seq,p.dig]) i hS (by omega) (by simp) (by simp;omega) fun S2 i => ?_
  have b0:=i.b
  refine zB b0 ?_
  refine jw_sign i hS (by simp [zaV];omega) p4 fun S2 i => ?_
  have b0:=i.b
  refine zB b0 ?_
  refine jw_signs i hS (by simp [zaV];omega) p5 fun S2 i => ?_
  have b0:=i.b
  refine zB b0 ?_
  refine jw_batch i hS (by simp [zaV];omega) p6 fun S2 i => ?_
  refine zB (wkc k (by omega)) ?_
  refine zaz.next hlt ⟨rfl,(j.trans hid i).as ?_⟩
  rw [zeq hx, ← hR]
  simp [zuY,zaV]
 ·have hd:decide ((k:Int)<(c.above.length:Int))=false:=by simp;omega
  rw [show c.above.take k=c.above from List.take_of_length_le (by omega)] at j
  refine zB (ze hd hpl) ?_
  exact (j.as (by rw [← hQ];simp [ztT,zaV])).done (zue _ _) hl hK
theorem c_wChange {σ:List zh} {id:Nat} {b:List UInt8} {c:zU} (hσ : σ[id]? = some (wO b)) (hb:b.length<=67108864) (hc:∀ e ∈ zaX c,e=0) {K:KT} (hK:K (.tup []) (σ.set id (wO (b++zgb c)))) :
  zo Tryz.prog zfk [.box id 0,.agg (zbK c)] σ K:=by
 refine zd zht.is rfl fun hl _=>zht.goes ?_
 have hid:=zcT hσ
 obtain ⟨h1,h2⟩:=zkJ hc
 have n1:=zpB h1
 simp only [zhA,iN,bT,bF,eN]
 have j:=zpZ.first hσ (.box (zbK c))
 refine zab ?_
 refine c_wBody (c:=c) j.a hb h1 ?_
 have j:=j.set hid (wO (b++ztT c))
 obtain ⟨S,hS⟩:∃ S,(σ++[zh.box (zbK c)]).set id (wO (b++ztT c))=S:=⟨_,rfl⟩
 rw [hS] at j ⊢
 have b0:=j.b
 refine zB b0 ?_
 refine jw_sign j hid (by simp;omega) h2 fun S j => ?_
 refine zab ?_
 exact (j.as (by simp [zgb])).done (zue _ _) hl hK
end Go.Proofs.YtpgahkdjkanblaaGreat

/- Contracts: the bytes of messages, the program's: view-changes and new views. -/
set_option maxRecDepth 100000
namespace Go.Proofs.YtpgahkdjkanblaaGreat
open Go.AW
theorem c_wUns7 {σ:List zh} {id:Nat} {b:List UInt8} {m:zee} {c:zU} (hσ : σ[id]? = some (wO b)) (hb:b.length<=1000000) (hk:m.kind=7) (hch:m.changes = [c]) (hc:∀ e ∈ zez c,e=0) {K:KT} (hK:K (.tup []) (σ.set id (wO (b++zkb m)))) :
  zo Tryz.prog zcn [.box id 0,zge m] σ K:=by
 refine zd zde.is rfl fun hl _=>zde.goes ?_
 have hid:=zcT hσ
 have hgx:(zan m.changes)[0]? = some (zaE c):=by rw [hch];rfl
 have hgl:(zan m.changes).length=1:=by rw [hch];rfl
 have n1:=zp (n:=m.kind.toNat) (by omega)
 simp only [zeA,iN,bT,bF,eN]
 have j:=zpZ.first hσ (zqE m)
 refine zab ?_
 refine zyi (l := [m.kind]) j hid (by omega) (by simp) (by simp;omega) fun S j => ?_
 have b0:=j.b
 refine zhH (ze b0 (ze (show (m.kind == 1)=false by rw [hk];rfl) (ze (show (m.kind == 2)=false by rw [hk];rfl) (ze (show (m.kind == 3)=false by rw [hk];rfl) (ze (show (m.kind == 4)=false by rw [hk];rfl) (ze (show (m.kind == 5)=false by rw [hk];rfl) (ze (show (m.kind == 6)=false by rw [hk];rfl) (ze (show (m.kind == 7)=true by rw [hk];rfl) (ze (show (m.kind == 8)=false by rw [hk];rfl) (ze (show (m.kind == 9)=false by rw [hk];rfl) (ze (show (m.kind == 10)=false by rw [hk];rfl) (ze (show (m.kind == 11)=false by rw [hk];rfl) (ze (show (m.kind == 12)=false by rw [hk];rfl) (ze hgx hgl)))))))))))))) ?_
 refine c_wBody (c:=c) j.a (by simp [zaV];omega) hc ?_
 refine zab ?_
 exact ((j.set hid _).as (by simp [zkb,hk,hch,zaV])).done (zue _ _) hl hK
theorem c_wUns8 {σ:List zh} {id:Nat} {b:List UInt8} {m:zee} (hσ : σ[id]? = some (wO b)) (hb:b.length<=1000000) (hk:m.kind=8) (hc:∀ e ∈ zfS m,e=0) {K:KT} (hK:K (.tup []) (σ.set id (wO (b++zkb m)))) :
  zo Tryz.prog zcn [.box id 0,zge m] σ K:=by
 refine zd zde.is rfl fun hl _=>zde.goes ?_
 have hid:=zcT hσ
 have hcl:(zan m.changes).length=m.changes.length:=List.length_map ..
 have hel:(zaw m.entries).length=m.entries.length:=List.length_map ..
 obtain ⟨h1,h2,h3,h4,h5,h6⟩:=newv_ok hc
 have n0:=zp (n:=m.kind.toNat) (by omega)
 have n1:=zp (n:=m.src.toNat) (by omega)
 have n2:=zp (n:=m.view.toNat) (by omega)
 have n3:=zp (n:=m.changes.length) (by omega)
 have n4:=zp (n:=m.entries.length) (by omega)
 simp only [zeA,iN,bT,bF,eN]
 have j:=zpZ.first hσ (zqE m)
 refine zab ?_
 refine zyi (l := [m.kind]) j hid (by omega) (by simp) (by simp;omega) fun S j => ?_
 have b0:=j.b
 refine zB (ze b0 (ze (show (m.kind == 1)=false by rw [hk];rfl) (ze (show (m.kind == 2)=false by rw [hk];rfl) (ze (show (m.kind == 3)=false by rw [hk];rfl) (ze (show (m.kind == 4)=false by rw [hk];rfl) (ze (show (m.kind == 5)=false by rw [hk];rfl) (ze (show (m.kind == 6)=false by rw [hk];rfl) (ze (show (m.kind == 7)=false by rw [hk];rfl) (ze (show (m.kind == 8)=true by rw [hk];rfl) (ze (show (m.kind == 9)=false by rw [hk];rfl) (ze (show (m.kind == 10)=false by rw [hk];rfl) (ze (show (m.kind == 11)=false by rw [hk];rfl) (show (m.kind == 12)=false by rw [hk];rfl))))))))))))) ?_
 refine zyi (l := [m.src,m.view]) j hid (by simp [zaV];omega) (by simp) (by simp;omega) fun S j => ?_
 have b0:=j.b
 refine zB (ze b0 hcl) ?_
 refine jw_many (n:=m.changes.length) j hid (by simp [zaV];omega) (by omega) fun S j => ?_
 have b0:=j.b
 obtain ⟨Q,hQ⟩:∃ Q,b++zaV [m.kind]++zaV [m.src,m.view]++zcI m.changes.length=Q:=⟨_,rfl⟩
 have hQl:Q.length<=1001000:=by rw [← hQ];simp [zaV];omega
 rw [hQ] at j
 refine zB (ze b0 hcl) ?_
 refine zm m.changes.length (fun k vs S=>vs = [.d (.int .i64 k)]/\zpZ σ id (zqE m) (wO (Q++((m.changes.take k).map zgb).flatten)) S) ⟨rfl,by simpa using j⟩ ?_
 rintro k vs S hk0 ⟨rfl,j⟩
 have hlenC:∀ k,(((m.changes.take k).map zgb).flatten).length<=13 * 36020:=by
  intro k
  have:=zdQ (f:=zgb) (n := 36020) (l:=m.changes.take k) fun s hm=>zrB (h4 s (List.mem_of_mem_take hm))
  have hlk:(m.changes.take k).length<=13:=by rw [List.length_take];omega
  have:(m.changes.take k).length * 36020<=13 * 36020:=Nat.mul_le_mul_right _ hlk
  omega
 have hlk1:=hlenC k
 by_cases hlt:k<m.changes.length
 ·have hd:decide ((k:Int)<(m.changes.length:Int))=true:=by simp;omega
  have hx:m.changes[k]? = some m.changes[k]:=by simp [hlt]
  have hpx:=h4 _ (List.getElem_mem hlt)
  have hgx:=zR (f:=zaE) hx
  obtain ⟨p,hp⟩:∃ p,m.changes[k]=p:=⟨_,rfl⟩
  rw [hp] at hx hgx hpx
  have hS:id<S.length:=zcT j.a
  have i:=zpZ.first j.a (.box (zbK p))
  refine zhH (ze hd (ze hgx hcl)) ?_
  refine c_wChange (c:=p) i.a (by simp only [List.length_append];omega) hpx ?_
  refine zB (wkc k (by omega)) ?_
  refine zaz.next hlt ⟨rfl,(j.trans hid (i.set hS _)).as ?_⟩
  rw [zeq hx]
  try simp
 ·have hd:decide ((k:Int)<(m.changes.length:Int))=false:=by simp;omega
  rw [show m.changes.take k=m.changes from List.take_of_length_le (by omega)] at j hlk1
  have b0:=j.b
  refine zB (ze hd (ze hcl (ze b0 hel))) ?_
  refine jw_many (n:=m.entries.length) j hid (by simp only [List.length_append];omega) (by omega) fun S j => ?_
  have b0:=j.b
  obtain ⟨R,hR⟩:∃ R,Q++(m.changes.map zgb).flatten++zcI m.entries.length=R:=⟨_,rfl⟩
  have hRl:R.length<=2000000:=by rw [← hR];simp only [List.length_append];omega
  rw [hR] at j
  refine zB (ze b0 hel) ?_
  refine zm m.entries.length (fun k vs S=>vs = [.d (.int .i64 k)]/\zpZ σ id (zqE m) (wO (R++((m.entries.take k).map zny).flatten)) S) ⟨rfl,by simpa using j⟩ ?_
  rintro k vs S hk1 ⟨rfl,j⟩
  by_cases hlt:k<m.entries.length
  ·have hd:decide ((k:Int)<(m.entries.length:Int))=true:=by simp;omega
   have hx:m.entries[k]? = some m.entries[k]:=by simp [hlt]
   have hpx:=h6 _ (List.getElem_mem hlt)
   have hgx:=zR (f:=zed) hx
   obtain ⟨p,hp⟩:∃ p,m.entries[k]=p:=⟨_,rfl⟩
   rw [hp] at hx hgx hpx
   have hlen:(((m.entries.take k).map zny).flatten).length<=(m.entries.take k).length * 4040:=zdQ fun s hm=>ztN (h6 s (List.mem_of_mem_take hm))
   have hlk:(m.entries.take k).length=k:=by rw [List.length_take];omega
   obtain ⟨T,hT⟩:∃ T,R++((m.entries.take k).map zny).flatten=T:=⟨_,rfl⟩
   have hTl:T.length<=3000000:=by rw [← hT,List.length_append];omega
   rw [hT] at j
   obtain ⟨p1,p2,p3,p4⟩:=zAa hpx
   have m1:=zp (n:=p.view.toNat) (by omega)
   have m2:=zp (n:=p.seq.toNat) (by omega)
   have m3:=(zgN p3).2
   have hS:id<S.length:=zcT j.a
   have i:=zpZ.first j.a (.box [.d (.int .i64 p.view),.d (.int .i64 p.seq),.d (.slice (zbj p.batch)),.d (.int .i64 p.key),.d (.int .i64 p.dig)])
   refine zhH (ze hd (ze hgx hel)) ?_
   refine zyi (l := [p.view,p.seq]) i hS (by omega) (by simp) (by simp;omega) fun S2 i => ?_
   have b0:=i.b
   refine zB b0 ?_
   refine jw_batch i hS (by simp [zaV];omega) p3 fun S2 i => ?_
   have b0:=i.b
   refine zB b0 ?_
   refine jw_sign i hS (by simp [zaV];omega) p4 fun S2 i => ?_
   refine zB (wkc k (by omega)) ?_
   refine zaz.next hlt ⟨rfl,(j.trans hid i).as ?_⟩
   rw [zeq hx, ← hT]
   simp [zny,zaV]
  ·have hd:decide ((k:Int)<(m.entries.length:Int))=false:=by simp;omega
   rw [show m.entries.take k=m.entries from List.take_of_length_le (by omega)] at j
   refine zB (ze hd hel) ?_
   exact (j.as (by rw [← hR, ← hQ];simp [zkb,hk,newvB,zaV])).done (zue _ _) hl hK
theorem c_wShort {σ:List zh} {id:Nat} {b:List UInt8} (hσ : σ[id]? = some (wO b)) {K:KT} (hK:K (.tup [.d (.slice (bcs (if b.length > 262144 then [] else b))),.d (.int .i64 (if b.length > 262144 then 3 else 0))]) σ) :
  zo Tryz.prog zfE [.box id 0] σ K:=by
 refine zd zhO.is rfl fun hl _=>zhO.goes ?_
 simp only [zhY,iN,bT,bF,eN]
 by_cases h:b.length > 262144
 ·have hd:decide ((b.length:Int) > 262144)=true:=by simp;omega
  rw [if_pos h,if_pos h] at hK
  refine zB (ze hσ hd) ?_
  refine zw hl ?_
  exact hK
 ·have hd:decide ((b.length:Int) > 262144)=false:=by simp;omega
  rw [if_neg h,if_neg h] at hK
  refine zB (ze hσ hd) ?_
  refine zw hl ?_
  exact hK
end Go.Proofs.YtpgahkdjkanblaaGreat
