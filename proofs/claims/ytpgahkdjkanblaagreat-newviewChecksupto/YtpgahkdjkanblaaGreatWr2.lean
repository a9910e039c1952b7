/- Contracts: the bytes of view-changes and new views, the program's. -/
import Derived.Test.YtpgahkdjkanblaaGreatSpRdN
import Derived.Test.YtpgahkdjkanblaaGreatSm4
import Derived.Test.YtpgahkdjkanblaaGreatQu1
import Derived.Test.YtpgahkdjkanblaaGreatSpTab
set_option linter.all false
set_option maxRecDepth 100000
namespace Go.Proofs.YtpgahkdjkanblaaGreat
open Go.AW
theorem zpv.trans {σ S S2:List zd} {id:Nat} {B X O O':zd} (h:zpv σ id B O S) (hid:id < σ.length) (h2:zpv S id X O' S2):zpv σ id B O' S2:=by
 obtain ⟨_,_, τ,rfl⟩:=h2
 exact (h.set hid O').app τ
section
variable {σ S:List zd} {id:Nat} {B:zd} {b:List UInt8} {K:KT} (j:zpv σ id B (wO b) S) (hid:id < σ.length)
include j hid
theorem zyR {l:List Int} (hb:b.length<=536870912) (hl0:l.length<=1000) (hi:∀ x∈l, 0<=x/\x<=9007199254740992) (hK:∀ S,zpv σ id B (wO (b++zaV l)) S->K (.tup []) S) :
  zj Tryz.prog zaf [.box id 0,.d (.slice (ziN l))] S K:=c_wNum j.a hb hl0 hi (hK _ (j.set hid _))
theorem jw_many {n:Nat} (hb:b.length<=536870912) (hn:n<=1073741824) (hK:∀ S,zpv σ id B (wO (b++zcA n)) S->K (.tup []) S) :
  zj Tryz.prog zce [.box id 0,.d (.int .i64 n)] S K:=c_wMany j.a hb hn (hK _ (j.set hid _))
theorem jw_sign {k d:Int} (hb:b.length<=536870912) (hc:zN k d=0) (hK:∀ S,zpv σ id B (wO (b++zfL k d)) S->K (.tup []) S) :
  zj Tryz.prog zbb [.box id 0,.agg [.d (.int .i64 k),.d (.int .i64 d)]] S K:=zAH j.a hb hc (hK _ (j.set hid _))
theorem jw_batch {l:List zC} (hb:b.length<=268435456) (hc:zr l=0) (hK:∀ S,zpv σ id B (wO (b++zbN l)) S->K (.tup []) S) :
  zj Tryz.prog zbA [.box id 0,.d (.slice (zaP l))] S K:=c_wBatch j.a hb hc (hK _ (j.set hid _))
theorem jw_signs {l:List zy} (hb:b.length<=268435456) (hc:∀ e∈zcs l,e=0) (hK:∀ S,zpv σ id B (wO (b++zvI l)) S->K (.tup []) S) :
  zj Tryz.prog zcX [.box id 0,.d (.slice (zO l))] S K:=c_wSigns j.a hb hc (hK _ (j.set hid _))
theorem jw_cert {c:zeP} (hb:b.length<=134217728) (hc:∀ e∈zdd c,e=0) (hK:∀ S,zpv σ id B (wO (b++zwW c)) S->K (.tup []) S) :
  zj Tryz.prog zdm [.box id 0,zdu c] S K:=c_wCert j.a hb hc (hK _ (j.set hid _))
end
theorem c_wBody {σ:List zd} {id:Nat} {b:List UInt8} {c:zJ} (hσ : σ[id]? = some (wO b)) (hb:b.length<=67108864) (hc:∀ e∈zey c,e=0) {K:KT} (hK:K (.tup []) (σ.set id (wO (b++ztW c)))) :
  zj Tryz.prog zek [.box id 0,.agg (zbj c)] σ K:=by
 refine zeE zoM fun hl => ?_
 have hid:=zcY hσ
 have hpl:(zdC c.above).length=c.above.length:=List.length_map ..
 obtain ⟨h1,h2,h3,h4,h5⟩:=body_ok hc
 have n1:=zm (n:=c.view.toNat) (by omega)
 have n2:=zm (n:=c.src.toNat) (by omega)
 have n3:=zm (n:=c.above.length) (by omega)
 have n4:=zwV h3
 simp only [ziX,iN,bT,bF,eN,zl3]
 have j:=zpv.first hσ (.box (zbj c))
 refine zQ ?_
 refine zyR (l := [c.view,c.src]) j hid (by omega) (by simp) (by simp;omega) fun S j => ?_
 have b0:=j.b
 refine zA b0 ?_
 refine jw_cert (c:=c.cert) j hid (by simp [zaV];omega) h3 fun S j => ?_
 have b0:=j.b
 refine zA (zo b0 hpl) ?_
 refine jw_many (n:=c.above.length) j hid (by simp [zaV];omega) (by omega) fun S j => ?_
 have b0:=j.b
 obtain ⟨Q,hQ⟩:∃ Q,b++zaV [c.view,c.src]++zwW c.cert++zcA c.above.length=Q:=⟨_,rfl⟩
 have hQl:Q.length<=67108864+400:=by rw [← hQ];simp [zaV];omega
 rw [hQ] at j
 refine zA (zo b0 hpl) ?_
 refine zl c.above.length (fun k vs S=>vs = [.d (.int .i64 k)]/\zpv σ id (.box (zbj c)) (wO (Q++((c.above.take k).map zuQ).flatten)) S) ⟨rfl,by simpa using j⟩ ?_
 rintro k vs S hk ⟨rfl,j⟩
 by_cases hlt:k<c.above.length
 ·have hd:decide ((k:Int)<(c.above.length:Int))=true:=by simp;omega
  have hx:c.above[k]? = some c.above[k]:=by simp [hlt]
  have hpx:=h5 _ (List.getElem_mem hlt)
  have hgx:=zF (f:=zei) hx
  obtain ⟨p,hp⟩:∃ p,c.above[k]=p:=⟨_,rfl⟩
  rw [hp] at hx hgx hpx
  have hlen:(((c.above.take k).map zuQ).flatten).length<=(c.above.take k).length*4400:=zdK fun s hm=>zvN (h5 s (List.mem_of_mem_take hm))
  have hlk:(c.above.take k).length=k:=by rw [List.length_take];omega
  obtain ⟨R,hR⟩:∃ R,Q++((c.above.take k).map zuQ).flatten=R:=⟨_,rfl⟩
  have hRl:R.length<=67108864+36000:=by rw [← hR,List.length_append];omega
  rw [hR] at j
  obtain ⟨p1,p2,p3,p4,p5,p6⟩:=prep_ok hpx
  have m1:=zm (n:=p.view.toNat) (by omega)
  have m2:=zm (n:=p.seq.toNat) (by omega)
  have m3:=zm (n:=p.dig.toNat) (by omega)
  have m4:=zfj p4
  have m5:=zpz p5
  have hS:id<S.length:=zcY j.a
  have i:=zpv.first j.a (.box (prepL p))
  refine zfG (zo hd (zo hgx hpl)) ?_
  refine zyR (l := [p.view,p.seq,p.dig]) i hS (by omega) (by simp) (by simp;omega) fun S2 i => ?_
  have b0:=i.b
  refine zA b0 ?_
  refine jw_sign i hS (by simp [zaV];omega) p4 fun S2 i => ?_
  have b0:=i.b
  refine zA b0 ?_
  refine jw_signs i hS (by simp [zaV];omega) p5 fun S2 i => ?_
  have b0:=i.b
  refine zA b0 ?_
  refine jw_batch i hS (by simp [zaV];omega) p6 fun S2 i => ?_
  refine zA (wkc k (by omega)) ?_
  refine zan.next hlt ⟨rfl,(j.trans hid i).as ?_⟩
  rw [zeo hx, ← hR]
  simp [zuQ,zaV]
 ·have hd:decide ((k:Int)<(c.above.length:Int))=false:=by simp;omega
  rw [show c.above.take k=c.above from List.take_of_length_le (by omega)] at j
  refine zA (zo hd hpl) ?_
  exact (j.as (by rw [← hQ];simp [ztW,zaV])).done (zuh _ _) hl hK
theorem c_wChange {σ:List zd} {id:Nat} {b:List UInt8} {c:zJ} (hσ : σ[id]? = some (wO b)) (hb:b.length<=67108864) (hc:∀ e∈zaY c,e=0) {K:KT} (hK:K (.tup []) (σ.set id (wO (b++zfW c)))) :
  zj Tryz.prog zeY [.box id 0,.agg (zbj c)] σ K:=by
 refine zeE zna fun hl => ?_
 have hid:=zcY hσ
 obtain ⟨h1,h2⟩:=zkC hc
 have n1:=zoX h1
 simp only [zhv,iN,bT,bF,eN]
 have j:=zpv.first hσ (.box (zbj c))
 refine zQ ?_
 refine c_wBody (c:=c) j.a hb h1 ?_
 have j:=j.set hid (wO (b++ztW c))
 obtain ⟨S,hS⟩:∃ S,(σ++[zd.box (zbj c)]).set id (wO (b++ztW c))=S:=⟨_,rfl⟩
 rw [hS] at j ⊢
 have b0:=j.b
 refine zA b0 ?_
 refine jw_sign j hid (by simp;omega) h2 fun S j => ?_
 refine zQ ?_
 exact (j.as (by simp [zfW])).done (zuh _ _) hl hK
theorem c_wUns7 {σ:List zd} {id:Nat} {b:List UInt8} {m:zcS} {c:zJ} (hσ : σ[id]? = some (wO b)) (hb:b.length<=1000000) (hk:m.kind=7) (hch:m.changes = [c]) (hc:∀ e∈zey c,e=0) {K:KT} (hK:K (.tup []) (σ.set id (wO (b++zjb m)))) :
  zj Tryz.prog zcb [.box id 0,zeR m] σ K:=by
 refine zeE zgz fun hl => ?_
 have hid:=zcY hσ
 have hgx:(zR m.changes)[0]? = some (zat c):=by rw [hch];rfl
 have hgl:(zR m.changes).length=1:=by rw [hch];rfl
 have n1:=zm (n:=m.kind.toNat) (by omega)
 simp only [zeA,iN,bT,bF,eN,zl4]
 have j:=zpv.first hσ (zqk m)
 refine zQ ?_
 refine zyR (l := [m.kind]) j hid (by omega) (by simp) (by simp;omega) fun S j => ?_
 have b0:=j.b
 refine zfG (zo b0 (zo (kk7 hk) (zo hgx hgl))) ?_
 refine c_wBody (c:=c) j.a (by simp [zaV];omega) hc ?_
 refine zQ ?_
 exact ((j.set hid _).as (by simp [zjb,hk,hch,zaV])).done (zuh _ _) hl hK
theorem c_wUns8 {σ:List zd} {id:Nat} {b:List UInt8} {m:zcS} (hσ : σ[id]? = some (wO b)) (hb:b.length<=1000000) (hk:m.kind=8) (hc:∀ e∈zfN m,e=0) {K:KT} (hK:K (.tup []) (σ.set id (wO (b++zjb m)))) :
  zj Tryz.prog zcb [.box id 0,zeR m] σ K:=by
 refine zeE zgz fun hl => ?_
 have hid:=zcY hσ
 have hcl:(zR m.changes).length=m.changes.length:=List.length_map ..
 have hel:(zu m.entries).length=m.entries.length:=List.length_map ..
 obtain ⟨h1,h2,h3,h4,h5,h6⟩:=newv_ok hc
 have n0:=zm (n:=m.kind.toNat) (by omega)
 have n1:=zm (n:=m.src.toNat) (by omega)
 have n2:=zm (n:=m.view.toNat) (by omega)
 have n3:=zm (n:=m.changes.length) (by omega)
 have n4:=zm (n:=m.entries.length) (by omega)
 simp only [zeA,iN,bT,bF,eN,zl4]
 have j:=zpv.first hσ (zqk m)
 refine zQ ?_
 refine zyR (l := [m.kind]) j hid (by omega) (by simp) (by simp;omega) fun S j => ?_
 have b0:=j.b
 refine zA (zo b0 (kk8 hk)) ?_
 refine zyR (l := [m.src,m.view]) j hid (by simp [zaV];omega) (by simp) (by simp;omega) fun S j => ?_
 have b0:=j.b
 refine zA (zo b0 hcl) ?_
 refine jw_many (n:=m.changes.length) j hid (by simp [zaV];omega) (by omega) fun S j => ?_
 have b0:=j.b
 obtain ⟨Q,hQ⟩:∃ Q,b++zaV [m.kind]++zaV [m.src,m.view]++zcA m.changes.length=Q:=⟨_,rfl⟩
 have hQl:Q.length<=1001000:=by rw [← hQ];simp [zaV];omega
 rw [hQ] at j
 refine zA (zo b0 hcl) ?_
 refine zl m.changes.length (fun k vs S=>vs = [.d (.int .i64 k)]/\zpv σ id (zqk m) (wO (Q++((m.changes.take k).map zfW).flatten)) S) ⟨rfl,by simpa using j⟩ ?_
 rintro k vs S hk0 ⟨rfl,j⟩
 have hlenC:∀ k,(((m.changes.take k).map zfW).flatten).length<=13*36020:=by
  intro k
  have:=zdK (f:=zfW) (n := 36020) (l:=m.changes.take k) fun s hm=>zro (h4 s (List.mem_of_mem_take hm))
  have hlk:(m.changes.take k).length<=13:=by rw [List.length_take];omega
  have:(m.changes.take k).length*36020<=13*36020:=Nat.mul_le_mul_right _ hlk
  omega
 have hlk1:=hlenC k
 by_cases hlt:k<m.changes.length
 ·have hd:decide ((k:Int)<(m.changes.length:Int))=true:=by simp;omega
  have hx:m.changes[k]? = some m.changes[k]:=by simp [hlt]
  have hpx:=h4 _ (List.getElem_mem hlt)
  have hgx:=zF (f:=zat) hx
  obtain ⟨p,hp⟩:∃ p,m.changes[k]=p:=⟨_,rfl⟩
  rw [hp] at hx hgx hpx
  have hS:id<S.length:=zcY j.a
  have i:=zpv.first j.a (.box (zbj p))
  refine zfG (zo hd (zo hgx hcl)) ?_
  refine c_wChange (c:=p) i.a (by simp only [List.length_append];omega) hpx ?_
  refine zA (wkc k (by omega)) ?_
  refine zan.next hlt ⟨rfl,(j.trans hid (i.set hS _)).as ?_⟩
  rw [zeo hx]
  try simp
 ·have hd:decide ((k:Int)<(m.changes.length:Int))=false:=by simp;omega
  rw [show m.changes.take k=m.changes from List.take_of_length_le (by omega)] at j hlk1
  have b0:=j.b
  refine zA (zo hd (zo hcl (zo b0 hel))) ?_
  refine jw_many (n:=m.entries.length) j hid (by simp only [List.length_append];omega) (by omega) fun S j => ?_
  have b0:=j.b
  obtain ⟨R,hR⟩:∃ R,Q++(m.changes.map zfW).flatten++zcA m.entries.length=R:=⟨_,rfl⟩
  have hRl:R.length<=2000000:=by rw [← hR];simp only [List.length_append];omega
  rw [hR] at j
  refine zA (zo b0 hel) ?_
  refine zl m.entries.length (fun k vs S=>vs = [.d (.int .i64 k)]/\zpv σ id (zqk m) (wO (R++((m.entries.take k).map znn).flatten)) S) ⟨rfl,by simpa using j⟩ ?_
  rintro k vs S hk1 ⟨rfl,j⟩
  by_cases hlt:k<m.entries.length
  ·have hd:decide ((k:Int)<(m.entries.length:Int))=true:=by simp;omega
   have hx:m.entries[k]? = some m.entries[k]:=by simp [hlt]
   have hpx:=h6 _ (List.getElem_mem hlt)
   have hgx:=zF (f:=zbh) hx
   obtain ⟨p,hp⟩:∃ p,m.entries[k]=p:=⟨_,rfl⟩
   rw [hp] at hx hgx hpx
   have hlen:(((m.entries.take k).map znn).flatten).length<=(m.entries.take k).length*4040:=zdK fun s hm=>ztE (h6 s (List.mem_of_mem_take hm))
   have hlk:(m.entries.take k).length=k:=by rw [List.length_take];omega
   obtain ⟨T,hT⟩:∃ T,R++((m.entries.take k).map znn).flatten=T:=⟨_,rfl⟩
   have hTl:T.length<=3000000:=by rw [← hT,List.length_append];omega
   rw [hT] at j
   obtain ⟨p1,p2,p3,p4⟩:=zAq hpx
   have m1:=zm (n:=p.view.toNat) (by omega)
   have m2:=zm (n:=p.seq.toNat) (by omega)
   have m3:=(zff p3).2
   have hS:id<S.length:=zcY j.a
   have i:=zpv.first j.a (.box [.d (.int .i64 p.view),.d (.int .i64 p.seq),.d (.slice (zaP p.batch)),.d (.int .i64 p.key),.d (.int .i64 p.dig)])
   refine zfG (zo hd (zo hgx hel)) ?_
   refine zyR (l := [p.view,p.seq]) i hS (by omega) (by simp) (by simp;omega) fun S2 i => ?_
   have b0:=i.b
   refine zA b0 ?_
   refine jw_batch i hS (by simp [zaV];omega) p3 fun S2 i => ?_
   have b0:=i.b
   refine zA b0 ?_
   refine jw_sign i hS (by simp [zaV];omega) p4 fun S2 i => ?_
   refine zA (wkc k (by omega)) ?_
   refine zan.next hlt ⟨rfl,(j.trans hid i).as ?_⟩
   rw [zeo hx, ← hT]
   simp [znn,zaV]
  ·have hd:decide ((k:Int)<(m.entries.length:Int))=false:=by simp;omega
   rw [show m.entries.take k=m.entries from List.take_of_length_le (by omega)] at j
   refine zA (zo hd hel) ?_
   exact (j.as (by rw [← hR, ← hQ];simp [zjb,hk,newvB,zaV])).done (zuh _ _) hl hK
theorem c_wShort {σ:List zd} {id:Nat} {b:List UInt8} (hσ : σ[id]? = some (wO b)) {K:KT} (hK:K (.tup [.d (.slice (bcs (if b.length > 262144 then [] else b))),.d (.int .i64 (if b.length > 262144 then 3 else 0))]) σ) :
  zj Tryz.prog zfx [.box id 0] σ K:=by
 refine zdZ zod fun hl => ?_
 simp only [zhZ,iN,bT,bF,eN]
 by_cases h:b.length > 262144
 ·have hd:decide ((b.length:Int) > 262144)=true:=by simp;omega
  rw [if_pos h,if_pos h] at hK
  refine zA (zo hσ hd) ?_
  refine zt hl ?_
  exact hK
 ·have hd:decide ((b.length:Int) > 262144)=false:=by simp;omega
  rw [if_neg h,if_neg h] at hK
  refine zA (zo hσ hd) ?_
  refine zt hl ?_
  exact hK
theorem c_mBytes7 {σ:List zd} {m:zcS} (hm:zbn m) (hk:m.kind=7) {K:KT} (hK:K (.tup [.d (.slice (bcs (zho m))),.d (.int .i64 (zaT m))]) σ) :
  zj Tryz.prog zhm [zeR m] σ K:=by
 refine zdZ zoP fun hl => ?_
 have fin:∀ x z,zho m=x->zaT m=z->K (.tup [.d (.slice (bcs x)),.d (.int .i64 z)]) σ:=fun x z h h'=>h▸h' ▸ hK
 clear hK
 simp only [zkR,iN,bT,bF,eN]
 refine zQ ?_
 refine c_mCheck7 (m:=m) hm hk ?_
 cases h1:(zaD m != 0)
 rotate_left
 ·have h1':zaD m≠0:=by simpa using h1
  have e1:zaT m=zaD m:=by simp [zaT,h1']
  have e2:zho m = []:=by simp [zho,e1,h1']
  refine zA h1 ?_
  refine zt hl ?_
  exact fin _ _ e2 e1
 have h1':zaD m=0:=by simpa using h1
 obtain ⟨c,hc,he⟩:=check7 hk h1'
 obtain ⟨he1,he2⟩:=zkC he
 have hgx:(zR m.changes)[0]? = some (zat c):=by rw [hc];rfl
 have hgl:(zR m.changes).length=1:=by rw [hc];rfl
 have n0:=zm (n:=m.kind.toNat) (by omega)
 have n1:=zoX he1
 have n2:=zfj he2
 have hu:zjb m=zcA m.kind.toNat++ztW c:=by simp [zjb,hk,hc]
 have hf:zla m=zjb m++zfL c.key c.dig:=by simp [zla,zuR,hk,hc]
 refine zA h1 ?_
 refine zj.pre (.dataB (σ.length+1) 0 [.exact []] (.exact []) [] (by simp) rfl rfl (.refl _ _)) ?_
 have hW:((σ++[zqk m,.box [.exact []]]).set (σ.length+1) (.box (([AV.exact []]:List AV).set 0 (.d (.slice []))))) = σ++[zqk m,wO []]:=by rw [zT];rfl
 rw [hW]
 refine c_wUns7 (b := []) (m:=m) (c:=c) (by rw [zB];rfl) (by simp) hk hc he1 ?_
 rw [zT]
 refine zfG (zo (kk7 hk) (zo hgx hgl)) ?_
 refine zAH (b:=zjb m) (by rw [zB];rfl) (by rw [hu];simp only [List.length_append];omega) he2 ?_
 rw [zT]
 refine zQ ?_
 refine c_wShort (b:=zjb m++zfL c.key c.dig) (by rw [zB];rfl) ?_
 have hlen:¬ (zjb m++zfL c.key c.dig).length > 262144:=by rw [hu];simp only [List.length_append];omega
 rw [if_neg hlen,if_neg hlen]
 refine zQ ?_
 refine zt hl ?_
 have e1:zaT m=0:=by simp only [zaT,h1',ne_eq,not_true,if_false,hf,hlen]
 refine fin _ _ ?_ e1
 simp [zho,e1,hf]
theorem c_mBytes8 {σ:List zd} {m:zcS} (hm:zbn m) (hk:m.kind=8) {K:KT} (hK:K (.tup [.d (.slice (bcs (zho m))),.d (.int .i64 (zaT m))]) σ) :
  zj Tryz.prog zhm [zeR m] σ K:=by
 refine zdZ zoP fun hl => ?_
 have fin:∀ x z,zho m=x->zaT m=z->K (.tup [.d (.slice (bcs x)),.d (.int .i64 z)]) σ:=fun x z h h'=>h▸h' ▸ hK
 clear hK
 simp only [zkR,iN,bT,bF,eN]
 refine zQ ?_
 refine c_mCheck8 (m:=m) hm hk ?_
 cases h1:(zaD m != 0)
 rotate_left
 ·have h1':zaD m≠0:=by simpa using h1
  have e1:zaT m=zaD m:=by simp [zaT,h1']
  have e2:zho m = []:=by simp [zho,e1,h1']
  refine zA h1 ?_
  refine zt hl ?_
  exact fin _ _ e2 e1
 have h1':zaD m=0:=by simpa using h1
 obtain ⟨he1,he2⟩:=check8 hk h1'
 have n0:=zm (n:=m.kind.toNat) (by omega)
 have n1:=newvB_len he1
 have n2:=zfj he2
 have hu:zjb m=zcA m.kind.toNat++newvB m:=by simp [zjb,hk]
 have hf:zla m=zjb m++zfL m.key m.sdig:=by simp [zla,zuR,hk]
 refine zA h1 ?_
 refine zj.pre (.dataB (σ.length+1) 0 [.exact []] (.exact []) [] (by simp) rfl rfl (.refl _ _)) ?_
 have hW:((σ++[zqk m,.box [.exact []]]).set (σ.length+1) (.box (([AV.exact []]:List AV).set 0 (.d (.slice []))))) = σ++[zqk m,wO []]:=by rw [zT];rfl
 rw [hW]
 refine c_wUns8 (b := []) (m:=m) (by rw [zB];rfl) (by simp) hk he1 ?_
 rw [zT]
 refine zA (kk8 hk) ?_
 refine zml ?_
 refine zA (show zvQ m.kind=true by rw [hk];rfl) ?_
 refine zAH (b:=zjb m) (by rw [zB];rfl) (by rw [hu];simp only [List.length_append];omega) he2 ?_
 rw [zT]
 refine zQ ?_
 rw [← hf]
 have hS:(σ++List.set [zqk m,wO (zjb m)] 1 (wO (zla m)))[σ.length+1]? = some (wO (zla m)):=by rw [zB];rfl
 refine c_wShort (b:=zla m) hS ?_
 by_cases hlen:(zla m).length > 262144
 ·have e1:zaT m=3:=by simp only [zaT,h1',ne_eq,not_true,if_false,hlen,if_true]
  have e2:zho m = []:=by simp [zho,e1]
  rw [if_pos hlen,if_pos hlen]
  refine zQ ?_
  refine zt hl ?_
  exact fin _ _ e2 e1
 ·have e1:zaT m=0:=by simp only [zaT,h1',ne_eq,not_true,if_false,hlen]
  have e2:zho m=zla m:=by simp [zho,e1]
  rw [if_neg hlen,if_neg hlen]
  refine zQ ?_
  refine zt hl ?_
  exact fin _ _ e2 e1
theorem c_mSome {σ:List zd} {K:KT} (hK:K (.agg [.d (.int .i64 0),.d (.int .i64 1)]) σ):zj Tryz.prog ziB [] σ K:=by
 refine acE0 zyg fun hl => ?_
 simp only [zqE,iN,bT,bF,eN]
 refine zQ ?_
 refine zt hl ?_
 exact hK
structure zea (σ:List zd) (id m t:Nat) (l:List (List UInt8)):Prop where
 box : σ[id]? = some (.box [.own t (ziF l),.map m])
 map : σ[m]? = some (.map (tabM l))
 tok : σ[t]? = some (.tok 1 l.length)
structure zdL (σ:List zd) (id m t:Nat) (g:List zy):Prop where
 box : σ[id]? = some (.box [.own t (zwg g),.map m])
 map : σ[m]? = some (.map (ledM g))
 tok : σ[t]? = some (.tok 2 g.length)
def putTab (σ:List zd) (id m t:Nat) (l:List (List UInt8)):List zd:=((σ.set t (.tok 1 l.length)).set id (.box [.own t (ziF l),.map m])).set m (.map (tabM l))
def putLed (σ:List zd) (id m t:Nat) (g:List zy):List zd:=((σ.set m (.map (ledM g))).set t (.tok 2 g.length)).set id (.box [.own t (zwg g),.map m])
abbrev zvF (n:Nat) (l:List (List UInt8)):List zd := [.map (tabM l),.box [.own (n+2) (ziF l),.map n],.tok 1 l.length]
abbrev ledO (n:Nat) (g:List zy):List zd := [.map (ledM g),.box [.own (n+2) (zwg g),.map n],.tok 2 g.length]
theorem zea.ne {σ:List zd} {id m t:Nat} {l:List (List UInt8)} (h:zea σ id m t l):id≠m/\id≠t/\m≠t:=by
 refine ⟨fun e => ?_,fun e => ?_,fun e => ?_⟩<;>subst e
 ·have:=h.box;rw [h.map] at this;cases this
 ·have:=h.box;rw [h.tok] at this;cases this
 ·have:=h.map;rw [h.tok] at this;cases this
theorem zdL.ne {σ:List zd} {id m t:Nat} {g:List zy} (h:zdL σ id m t g):id≠m/\id≠t/\m≠t:=by
 refine ⟨fun e => ?_,fun e => ?_,fun e => ?_⟩<;>subst e
 ·have:=h.box;rw [h.map] at this;cases this
 ·have:=h.box;rw [h.tok] at this;cases this
 ·have:=h.map;rw [h.tok] at this;cases this
theorem zea.self {σ:List zd} {id m t:Nat} {l:List (List UInt8)} (h:zea σ id m t l):putTab σ id m t l = σ:=by
 unfold putTab
 rw [zcm h.tok,zcm h.box,zcm h.map]
theorem zdL.self {σ:List zd} {id m t:Nat} {g:List zy} (h:zdL σ id m t g):putLed σ id m t g = σ:=by
 unfold putLed
 rw [zcm h.map,zcm h.tok,zcm h.box]
theorem zea.app {σ:List zd} {id m t:Nat} {l:List (List UInt8)} (h:zea σ id m t l) (τ:List zd):zea (σ ++ τ) id m t l:=⟨zn h.box,zn h.map,zn h.tok⟩
theorem zdL.app {σ:List zd} {id m t:Nat} {g:List zy} (h:zdL σ id m t g) (τ:List zd):zdL (σ ++ τ) id m t g:=⟨zn h.box,zn h.map,zn h.tok⟩
theorem tabAt_new (σ:List zd) (l:List (List UInt8)) (τ:List zd):zea (σ++(zvF σ.length l ++ τ)) (σ.length+1) σ.length (σ.length+2) l:=
 ⟨by rw [zB];rfl,by rw [zD];rfl,by rw [zB];rfl⟩
theorem ledAt_new (σ:List zd) (g:List zy) (τ:List zd):zdL (σ++(ledO σ.length g ++ τ)) (σ.length+1) σ.length (σ.length+2) g:=
 ⟨by rw [zB];rfl,by rw [zD];rfl,by rw [zB];rfl⟩
theorem zyD (σ:List zd) (l l':List (List UInt8)) (τ:List zd):putTab (σ++(zvF σ.length l ++ τ)) (σ.length+1) σ.length (σ.length+2) l' = σ++(zvF σ.length l' ++ τ):=by
 unfold putTab
 rw [zT,zT,zP];rfl
theorem putLed_new (σ:List zd) (g g':List zy) (τ:List zd):putLed (σ++(ledO σ.length g ++ τ)) (σ.length+1) σ.length (σ.length+2) g' = σ++(ledO σ.length g' ++ τ):=by
 unfold putLed
 rw [zP,zT,zT];rfl
theorem ztg {σ:List zd} {id m t:Nat} {l:List (List UInt8)} (h:zea σ id m t l) (l':List (List UInt8)) (τ:List zd):putTab (σ ++ τ) id m t l' = putTab σ id m t l' ++ τ:=by
 have h1:=zcY h.box;have h2:=zcY h.map;have h3:=zcY h.tok
 unfold putTab
 rw [List.set_append_left _ _ h3,List.set_append_left _ _ (by simpa using h1),List.set_append_left _ _ (by simpa using h2)]
theorem zth {σ:List zd} {id m t:Nat} {g:List zy} (h:zdL σ id m t g) (g':List zy) (τ:List zd):putLed (σ ++ τ) id m t g' = putLed σ id m t g' ++ τ:=by
 have h1:=zcY h.box;have h2:=zcY h.map;have h3:=zcY h.tok
 unfold putLed
 rw [List.set_append_left _ _ h2,List.set_append_left _ _ (by simpa using h3),List.set_append_left _ _ (by simpa using h1)]
theorem zpB (σ:List zd) (id m t:Nat) (l:List (List UInt8)):(putTab σ id m t l).length = σ.length:=by simp [putTab]
theorem zyE (σ:List zd) (id m t:Nat) (g:List zy):(putLed σ id m t g).length = σ.length:=by simp [putLed]
theorem ztw {n:Nat} (l:List (List UInt8)):zvA n (.map (tabM l)):=by
 have key:∀ (l:List (List UInt8)) (i:Nat), ∀ e∈zxQ l i,Low n e.1/\Low n e.2:=by
  intro l
  induction l with
  | nil=>intro i e h;cases h
  | cons x r ih=>
   intro i e h
   simp only [zxQ,List.mem_cons] at h
   rcases h with rfl|h
   ·exact ⟨.d _,.d _⟩
   ·exact ih _ e h
 exact fun e he=>key l 0 e he
theorem ztx {n:Nat} (g:List zy):zvA n (.map (ledM g)):=by
 intro e he
 simp only [ledM,List.mem_map] at he
 obtain ⟨s,_,rfl⟩:=he
 exact ⟨.agg _ (by simp [zfF]),.d _⟩
theorem zyP {n t m:Nat} {es:List (List D)} (ht:t<n) (hm:m<n):zvA n (.box [.own t es,.map m]):=by
 intro c hc
 simp only [List.mem_cons,List.not_mem_nil,or_false] at hc
 rcases hc with rfl|rfl
 ·exact .own _ _ ht
 ·exact .map _ hm
theorem zea.lows {σ:List zd} {id m t:Nat} {l:List (List UInt8)} (h:zea σ id m t l) (hl:zgl σ.length σ) (l':List (List UInt8)):zgl σ.length (putTab σ id m t l'):=
 ((hl.setO (show zvA _ (.tok 1 l'.length) from trivial)).setO (zyP (zcY h.tok) (zcY h.map))).setO (ztw l')
theorem zdL.lows {σ:List zd} {id m t:Nat} {g:List zy} (h:zdL σ id m t g) (hl:zgl σ.length σ) (g':List zy):zgl σ.length (putLed σ id m t g'):=
 ((hl.setO (ztx g')).setO (show zvA _ (.tok 2 g'.length) from trivial)).setO (zyP (zcY h.tok) (zcY h.map))
theorem low_tabO (n:Nat) (l:List (List UInt8)):∀ x∈zvF n l,zvA (n+(zvF n l).length) x:=by
 intro x hx
 simp only [List.mem_cons,List.not_mem_nil,or_false] at hx
 rcases hx with rfl|rfl|rfl
 ·exact ztw l
 ·exact zyP (by simp) (by simp)
 ·trivial
theorem low_ledO (n:Nat) (g:List zy):∀ x∈ledO n g,zvA (n+(ledO n g).length) x:=by
 intro x hx
 simp only [List.mem_cons,List.not_mem_nil,or_false] at hx
 rcases hx with rfl|rfl|rfl
 ·exact ztx g
 ·exact zyP (by simp) (by simp)
 ·trivial
end Go.Proofs.YtpgahkdjkanblaaGreat
