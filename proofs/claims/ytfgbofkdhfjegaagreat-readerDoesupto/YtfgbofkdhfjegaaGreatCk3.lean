/- Contracts: whether a proof may be, the document's. -/
import Derived.Test.YtfgbofkdhfjegaaGreatPt2
import Derived.Test.YtfgbofkdhfjegaaGreatOp1
set_option linter.all false
set_option maxRecDepth 100000
namespace Go.Proofs.YtfgbofkdhfjegaaGreat
open Go.AW
theorem c_kIn {σ:List zh} {n lo hi:Int} {K:KT} (hK:K (.d (.int .i64 (inE n lo hi))) σ):zp Tryz.prog zfX [.d (.int .i64 n),.d (.int .i64 lo),.d (.int .i64 hi)] σ K:=by
 refine acE3 e_r10_in fun hl => ?_
 have fin:∀ z,inE n lo hi=z->K (.d (.int .i64 z)) σ:=fun z h=>h▸hK
 clear hK
 simp only [S_r10_in,iN,bT,bF,eN]
 cases h1:decide (n<lo)
 ·cases h2:decide (n > hi)
  ·refine zaQ (zP h1 h2) ?_
   refine zI hl ?_
   exact fin 0 (by rw [inE,if_neg];simp at h1 h2;omega)
  ·refine zaQ (zP h1 h2) ?_
   refine zI hl ?_
   exact fin 100 (by rw [inE,if_pos];simp at h1 h2;omega)
 ·refine zaQ h1 ?_
  refine zI hl ?_
  exact fin 100 (by rw [inE,if_pos];simp at h1;omega)
theorem zrd {σ:List zh} {n:Int} {K:KT} (hK:K (.d (.int .i64 (zgm n))) σ):zp Tryz.prog zcS [.d (.int .i64 n)] σ K:=by
 refine zfc e_r10_num fun hl => ?_
 simp only [S_r10_num,iN,bT,bF,eN]
 refine zdS ?_
 refine c_kIn ?_
 refine zdS ?_
 refine zI hl ?_
 exact hK
theorem c_kPos {σ:List zh} {n:Int} {K:KT} (hK:K (.d (.int .i64 (zwO n))) σ):zp Tryz.prog znr [.d (.int .i64 n)] σ K:=by
 refine zfc e_r10_pos fun hl => ?_
 simp only [S_r10_pos,iN,bT,bF,eN]
 refine zdS ?_
 refine c_kIn ?_
 refine zdS ?_
 refine zI hl ?_
 exact hK
theorem c_kName {σ:List zh} {x:List UInt8} (hx:x.length<=1073741824) {K:KT} (hK:K (.d (.int .i64 (zqy x))) σ):zp Tryz.prog zoq [.d (.str x)] σ K:=by
 refine zfc e_r10_name fun hl => ?_
 have fin:∀ z,zqy x=z->K (.d (.int .i64 z)) σ:=fun z h=>h▸hK
 clear hK
 simp only [zxP,iN,bT,bF,eN]
 refine zdS ?_
 refine zze hx ?_
 cases h:zex x
 ·refine zdS ?_
  refine zI hl ?_
  exact fin 61 (by rw [zqy,if_neg (by simp [h])])
 ·refine zdS ?_
  refine zI hl ?_
  exact fin 0 (by rw [zqy,if_pos h])
theorem fst_drop {l:List Int} {k:Nat} {x:Int} (hx:l[k]? = some x):zbz (l.drop k)=if x≠0 then x else zbz (l.drop (k+1)):=by
 have hk:k<l.length:=(List.getElem?_eq_some_iff.1 hx).1
 rw [List.drop_eq_getElem_cons hk,(List.getElem?_eq_some_iff.1 hx).2]
 rfl
theorem zre {σ:List zh} {l:List Int} (hl0:l.length<=1073741824) {K:KT} (hK:K (.d (.int .i64 (zbz l))) σ):zp Tryz.prog zcK [.d (.slice (zcH l))] σ K:=by
 refine zfc e_r10_first fun hl => ?_
 have fin:∀ z,zbz l=z->K (.d (.int .i64 z)) σ:=fun z h=>h▸hK
 clear hK
 have hlen:(zcH l).length=l.length:=List.length_map ..
 simp only [zvN,iN,bT,bF,eN]
 refine zo l.length (fun k vs s=>vs = [.d (.int .i64 k)]/\s = σ/\zbz l=zbz (l.drop k)) ⟨rfl,rfl,by simp⟩ ?_
 rintro k vs s hk ⟨rfl,rfl,hpf⟩
 by_cases hlt:k<l.length
 ·have hd:decide ((k:Int)<(l.length:Int))=true:=by simp;omega
  have hx:l[k]? = some l[k]:=by simp [hlt]
  have hgx:=zK (f:=fun t => [D.int .i64 t]) hx
  obtain ⟨x,hxe⟩:∃ x,l[k]=x:=⟨_,rfl⟩
  rw [hxe] at hx hgx
  rw [fst_drop hx] at hpf
  cases h1:(x != 0)
  ·rw [if_neg (by simpa using h1)] at hpf
   refine zaQ (zP hd (zP hgx (zP hlen (zP h1 (wkc k (by omega)))))) ?_
   exact zas.next hlt ⟨rfl,rfl,hpf⟩
  ·rw [if_pos (by simpa using h1)] at hpf
   refine zaQ (zP hd (zP hgx (zP hlen h1))) ?_
   refine zI hl ?_
   exact fin _ hpf
 ·have hd:decide ((k:Int)<(l.length:Int))=false:=by simp;omega
  rw [List.drop_eq_nil_of_le (by omega)] at hpf
  refine zaQ (zP hd hlen) ?_
  refine zI hl ?_
  exact fin _ hpf
theorem c_kSigns {σ:List zh} {l:List zR} (hl0:l.length<=1073741824) {K:KT} (hK:K (.d (.int .i64 (zbz (zfo l)))) σ):zp Tryz.prog zlR [.d (.slice (zaI l))] σ K:=by
 refine zfc e_r10_signs fun hl => ?_
 have fin:∀ z,zbz (zfo l)=z->K (.d (.int .i64 z)) σ:=fun z h=>h▸hK
 clear hK
 have hlen:(zaI l).length=l.length:=List.length_map ..
 simp only [zvL,iN,bT,bF,eN]
 cases h0:decide ((l.length:Int) > 13)
 rotate_left
 ·refine zaQ (zP hlen h0) ?_
  refine zI hl ?_
  refine fin 100 ?_
  have:inE l.length 0 13=100:=by rw [inE,if_pos];simp at h0;omega
  simp [zfo,zbz,this]
 refine zaQ (zP hlen h0) ?_
 have e0:zbz (zfo l)=zbz (l.map fun s=>zah s.key s.dig):=by
  have:inE l.length 0 13=0:=by rw [inE,if_neg];simp at h0;omega
  simp [zfo,zbz,this]
 refine zo l.length (fun k vs s=>vs = [.d (.int .i64 k)]/\s = σ/\zbz (zfo l)=zbz ((l.map fun s=>zah s.key s.dig).drop k)) ⟨rfl,rfl,by simpa using e0⟩ ?_
 rintro k vs s hk ⟨rfl,rfl,hpf⟩
 by_cases hlt:k<l.length
 ·have hd:decide ((k:Int)<(l.length:Int))=true:=by simp;omega
  have hx:l[k]? = some l[k]:=by simp [hlt]
  have hgx:=zK (f:=zgz) hx
  obtain ⟨x,hxe⟩:∃ x,l[k]=x:=⟨_,rfl⟩
  rw [hxe] at hx hgx
  rw [fst_drop (x:=zah x.key x.dig) (by simp [hx])] at hpf
  refine gq38 (zP hd (zP hgx hlen)) ?_
  refine zhG ?_
  cases h1:(zah x.key x.dig != 0)
  ·rw [if_neg (by simpa using h1)] at hpf
   refine zaQ (zP h1 (wkc k (by omega))) ?_
   exact zas.next hlt ⟨rfl,rfl,hpf⟩
  ·rw [if_pos (by simpa using h1)] at hpf
   refine zaQ h1 ?_
   refine zI hl ?_
   exact fin _ hpf
 ·have hd:decide ((k:Int)<(l.length:Int))=false:=by simp;omega
  rw [List.drop_eq_nil_of_le (by simp;omega)] at hpf
  refine zaQ (zP hd hlen) ?_
  refine zI hl ?_
  exact fin _ hpf
theorem c_kCert {σ:List zh} {c:zeX} (hl0:c.signs.length<=1073741824) {K:KT} (hK:K (.d (.int .i64 (zbz (zep c)))) σ):zp Tryz.prog zgJ [ziw c] σ K:=by
 refine zfc zuV fun hl => ?_
 have fin:∀ z,zbz (zep c)=z->K (.d (.int .i64 z)) σ:=fun z h=>h▸hK
 clear hK
 have hlen:(zaI c.signs).length=c.signs.length:=List.length_map ..
 simp only [znX,iN,bT,bF,eN,ziw]
 refine zdS ?_
 refine zrd ?_
 refine zdS ?_
 refine zrd ?_
 refine zdS ?_
 refine zre (l := [zgm c.seq,zgm c.dig]) (by simp) ?_
 have e2:zbz (zep c)=if zbz [zgm c.seq,zgm c.dig]≠0 then zbz [zgm c.seq,zgm c.dig] else zbz (zeo c::zfo c.signs):=by
  rw [← zgg];rfl
 cases h1:(zbz [zgm c.seq,zgm c.dig] != 0)
 rotate_left
 ·refine zaQ h1 ?_
  refine zI hl ?_
  exact fin _ (by rw [e2,if_pos (by simpa using h1)])
 have h1':zbz [zgm c.seq,zgm c.dig]=0:=by simpa using h1
 rw [if_neg (by simpa using h1)] at e2
 have hs:zgm c.seq=0:=by
  simp only [zbz] at h1';split at h1'
  ·rename_i h;exact absurd h1' h
  ·rename_i h;simpa using h
 have hsq:=numE_0 hs
 have yes:zeo c=0->zp Tryz.prog zlR [.d (.slice (zaI c.signs))] (σ++[zh.box [AV.d (D.int .i64 c.seq),AV.d (D.int .i64 c.dig),AV.d (D.slice (zaI c.signs))]]) fun G s=>z1 (AW.Ends σ.length K) G s:=fun h=>by
  refine c_kSigns hl0 ?_
  refine zdS ?_
  refine zI hl ?_
  refine fin _ ?_
  rw [e2];simp [zbz,h]
 have no:zeo c=100->zbz (zep c)=100:=fun h=>by rw [e2];simp [zbz,h]
 cases h2:(c.seq==0)
 ·have h2':¬ c.seq=0:=by simpa using h2
  have h3:decide (c.seq > 0)=true:=by simp;omega
  cases h4:(c.dig==0)
  ·refine zaQ (zP h1 (zP h2 (zP h3 h4))) ?_
   exact yes (by simp at h4;simp [zeo,h2',h4])
  ·refine zaQ (zP h1 (zP h2 (zP h3 h4))) ?_
   refine zI hl ?_
   exact fin 100 (no (by simp at h4;simp [zeo,h2',h4]))
 ·have h2':c.seq=0:=by simpa using h2
  have h3:decide (c.seq > 0)=false:=by simp;omega
  cases h4:(c.dig != 0)
  ·cases h5:decide ((c.signs.length:Int) > 0)
   ·refine zaQ (zP h1 (zP h2 (zP h3 (zP h4 (zP hlen h5))))) ?_
    exact yes (by simp at h4 h5;simp [zeo,h2',h4,h5])
   ·refine zaQ (zP h1 (zP h2 (zP h3 (zP h4 (zP hlen h5))))) ?_
    refine zI hl ?_
    refine fin 100 (no ?_)
    simp only [decide_eq_true_eq] at h5
    rw [zeo,if_pos (.inr ⟨h2',by omega⟩)]
  ·refine zaQ (zP h1 (zP h2 (zP h3 h4))) ?_
   refine zI hl ?_
   exact fin 100 (no (by simp at h4;simp [zeo,h2',h4]))
theorem c_kHdr {σ:List zh} {h:zdl} {K:KT} (hK:K (.d (.int .i64 (zbz (zgw h)))) σ):zp Tryz.prog zhr [ztU h] σ K:=by
 refine zfc zsm fun hl => ?_
 simp only [zlu,iN,bT,bF,eN,ztU]
 refine zdS ?_
 refine c_kPos ?_
 refine zdS ?_
 refine zrd ?_
 refine zdS ?_
 refine zrd ?_
 refine zdS ?_
 refine zrd ?_
 refine zdS ?_
 refine zrd ?_
 refine zdS ?_
 refine zre (l:=zgw h) (by simp [zgw]) ?_
 refine zdS ?_
 refine zI hl ?_
 exact hK
theorem c_kProof {σ:List zh} {p:zbW} (hp:zfe p) {K:KT} (hK:K (.d (.int .i64 (zcp p))) σ):zp Tryz.prog zfY [zfB p] σ K:=by
 refine zfc zty fun hl => ?_
 have fin:∀ z,zcp p=z->K (.d (.int .i64 z)) σ:=fun z h=>h▸hK
 clear hK
 have hrl:=zav p.rec_
 have hhl:(zgR p.headers).length=p.headers.length:=List.length_map ..
 have hpl:(zcH p.path).length=p.path.length:=List.length_map ..
 simp only [zmE,iN,bT,bF,eN,zfB]
 refine zaQ (zP hrl hhl) ?_
 refine c_kName (by have:=hp.topic;omega) ?_
 refine zdS ?_
 refine zrd ?_
 refine zdS ?_
 refine c_kIn ?_
 refine zdS ?_
 refine c_kIn ?_
 refine zdS ?_
 refine zre (l:=zew p) (by simp [zew]) ?_
 cases h1:(zbz (zew p) != 0)
 rotate_left
 ·refine zaQ h1 ?_
  refine zI hl ?_
  exact fin _ (by rw [zcp,zgD,zjB (by simpa using h1)])
 have e1:zcp p=zbz ((p.headers.map zgw).flatten++(zbO p++(zev p++(p.path.map zgm++zep p.cert)))):=by
  rw [zcp,zgD,zuK (by simpa using h1)]
 obtain ⟨Q,hQ⟩:∃ Q,zbO p++(zev p++(p.path.map zgm++zep p.cert))=Q:=⟨_,rfl⟩
 rw [hQ] at e1
 refine zaQ h1 ?_
 refine zo p.headers.length (fun k vs s=>vs = [.d (.int .i64 k)]/\s = σ++[zhN p]/\zcp p=zbz (((p.headers.drop k).map zgw).flatten++Q)) ⟨rfl,rfl,by simpa using e1⟩ ?_
 rintro k vs s hk ⟨rfl,rfl,hpf⟩
 by_cases hlt:k<p.headers.length
 ·have hd:decide ((k:Int)<(p.headers.length:Int))=true:=by simp;omega
  have hx:p.headers[k]? = some p.headers[k]:=by simp [hlt]
  have hgx:=zK (f:=ztT) hx
  have hdr:p.headers.drop k=p.headers[k]::p.headers.drop (k+1):=List.drop_eq_getElem_cons hlt
  obtain ⟨h,hhe⟩:∃ h,p.headers[k]=h:=⟨_,rfl⟩
  rw [hhe] at hx hgx hdr
  have hph:=hp.headers
  rw [hdr,List.map_cons,List.flatten_cons,List.append_assoc,zgg] at hpf
  refine zaQ (zP hd (zP hgx hhl)) ?_
  refine c_kHdr (h:=h) ?_
  cases h2:(zbz (zgw h) != 0)
  ·rw [if_neg (by simpa using h2)] at hpf
   refine zaQ (zP h2 (wkc k (by omega))) ?_
   exact zas.next hlt ⟨rfl,rfl,hpf⟩
  ·rw [if_pos (by simpa using h2)] at hpf
   refine zaQ h2 ?_
   refine zI hl ?_
   exact fin _ hpf
 ·have hd:decide ((k:Int)<(p.headers.length:Int))=false:=by simp;omega
  rw [List.drop_eq_nil_of_le (by omega),List.map_nil,List.flatten_nil,List.nil_append, ← hQ] at hpf
  refine zaQ (zP hd hhl) ?_
  refine zrd ?_
  refine zdS ?_
  refine c_kIn ?_
  refine zdS ?_
  refine zre (l:=zbO p) (by simp [zbO]) ?_
  cases h2:(zbz (zbO p) != 0)
  rotate_left
  ·refine zaQ h2 ?_
   refine zI hl ?_
   exact fin _ (by rw [hpf,zjB (by simpa using h2)])
  have h2':zbz (zbO p)=0:=by simpa using h2
  rw [zuK h2'] at hpf
  have hix:zgm p.index=0/\inE p.count 0 16=0:=by
   simp only [zbO,zbz] at h2'
   split at h2'
   ·rename_i h;exact absurd h2' h
   ·rename_i h
    split at h2'
    ·rename_i h3;exact absurd h2' h3
    ·rename_i h3;exact ⟨by simpa using h,by simpa using h3⟩
  have i1:=numE_0 hix.1
  have i2:=inE_0 hix.2
  have bad:(p.index≥p.count∨(p.path.length:Int) > 8)->zbz (zev p)=100:=fun h=>by
   simp only [zev,zbz]
   by_cases hh:p.index≥p.count
   ·have:inE p.index 0 (p.count-1)=100:=by rw [inE,if_pos];omega
    simp [this]
   ·have a:inE p.index 0 (p.count-1)=0:=by rw [inE,if_neg];omega
    have b:inE p.path.length 0 8=100:=by rw [inE,if_pos];omega
    simp [a,b]
  cases h3:decide (p.index≥p.count)
  rotate_left
  ·refine zaQ (zP h2 h3) ?_
   refine zI hl ?_
   refine fin _ ?_
   have:=bad (.inl (by simpa using h3))
   rw [hpf,zjB (by rw [this];decide),this]
  cases h4:decide ((p.path.length:Int) > 8)
  rotate_left
  ·refine zaQ (zP h2 (zP h3 (zP hpl h4))) ?_
   refine zI hl ?_
   refine fin _ ?_
   have:=bad (.inr (by simpa using h4))
   rw [hpf,zjB (by rw [this];decide),this]
  have h5:zbz (zev p)=0:=by
   simp only [decide_eq_false_iff_not] at h3 h4
   have a:inE p.index 0 (p.count-1)=0:=by rw [inE,if_neg];omega
   have b:inE p.path.length 0 8=0:=by rw [inE,if_neg];omega
   simp [zev,zbz,a,b]
  rw [zuK h5] at hpf
  refine zaQ (zP h2 (zP h3 (zP hpl h4))) ?_
  have hpb:=hp.path
  refine zo p.path.length (fun k vs s=>vs = [.d (.int .i64 k)]/\s = σ++[zhN p]/\zcp p=zbz ((p.path.drop k).map zgm++zep p.cert)) ⟨rfl,rfl,by simpa using hpf⟩ ?_
  rintro j vs s hj ⟨rfl,rfl,hpf2⟩
  by_cases hjl:j<p.path.length
  ·have hd2:decide ((j:Int)<(p.path.length:Int))=true:=by simp;omega
   have hy:p.path[j]? = some p.path[j]:=by simp [hjl]
   have hgy:=zK (f:=fun t => [D.int .i64 t]) hy
   have hdr:p.path.drop j=p.path[j]::p.path.drop (j+1):=List.drop_eq_getElem_cons hjl
   obtain ⟨y,hye⟩:∃ y,p.path[j]=y:=⟨_,rfl⟩
   rw [hye] at hy hgy hdr
   rw [hdr,List.map_cons,List.cons_append] at hpf2
   simp only [zbz] at hpf2
   refine zaQ (zP hd2 (zP hgy hpl)) ?_
   refine zrd ?_
   cases h6:(zgm y != 0)
   ·rw [if_neg (by simpa using h6)] at hpf2
    refine zaQ (zP h6 (wkc j (by omega))) ?_
    exact zas.next hjl ⟨rfl,rfl,hpf2⟩
   ·rw [if_pos (by simpa using h6)] at hpf2
    refine zaQ h6 ?_
    refine zI hl ?_
    exact fin _ hpf2
  ·have hd2:decide ((j:Int)<(p.path.length:Int))=false:=by simp;omega
   rw [List.drop_eq_nil_of_le (by omega),List.map_nil,List.nil_append] at hpf2
   refine zaQ (zP hd2 hpl) ?_
   refine c_kCert (c:=p.cert) hp.signs ?_
   refine zdS ?_
   refine zI hl ?_
   exact fin _ hpf2
end Go.Proofs.YtfgbofkdhfjegaaGreat
