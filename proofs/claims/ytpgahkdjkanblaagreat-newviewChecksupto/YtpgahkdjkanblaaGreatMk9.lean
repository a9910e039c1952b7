/- Contracts: clones of messages' parts, the document's. -/
import Derived.Test.YtpgahkdjkanblaaGreatMc2
set_option linter.all false
set_option maxRecDepth 100000
namespace Go.Proofs.YtpgahkdjkanblaaGreat
open Go.AW
theorem znf {σ:List zd} {l:List zC} (hl0:l.length<=1073741824) (hs:∀ x∈l,okO x.op) {K:KT} (hK:K (.d (.slice (zaP l))) σ):zj Tryz.prog zfl [.d (.slice (zaP l))] σ K:=by
 refine zdZ zvb fun hl => ?_
 have hbl:(zaP l).length=l.length:=List.length_map ..
 simp only [znC,iN,bT,bF,eN,zl2]
 refine zck l.length (fun k vs s=>vs = [.own σ.length (zaP (l.take k)),.d (.int .i64 k)]/\∃ T,s = σ++(.tok 9 k::T)) (.tok 0 [] 9 rfl (by simp) (.refl _ _)) ⟨rfl,[],rfl⟩ ?_
 rintro k vs s hk ⟨rfl,T,rfl⟩
 by_cases hlt:k<l.length
 ·have hd:decide ((k:Int)<(l.length:Int))=true:=by simp;omega
  have hx:l[k]? = some l[k]:=by simp [hlt]
  have hgx:=zF (f:=zaN) hx
  obtain ⟨o1,o2,o3,o4⟩:=hs _ (List.getElem_mem hlt)
  obtain ⟨x,hxe⟩:∃ c,l[k]=c:=⟨_,rfl⟩
  rw [hxe] at hx hgx o1 o2 o3 o4
  obtain ⟨S,hS⟩:∃ S, σ++(zd.tok 9 k::T)=S:=⟨_,rfl⟩
  have ht:S[σ.length]? = some (.tok 9 k):=by rw [← hS,zD];rfl
  have hst:∀ Y,S.set σ.length Y = σ++(Y::T):=fun Y=>by rw [← hS,zP];rfl
  rw [hS]
  refine zfG (zi hd (zi hgx hbl)) ?_
  refine zck x.op.recs.length (fun j vs s=>vs = [.own (S.length+1) (zeU (x.op.recs.take j)),.d (.int .i64 j)]/\∃ T2,s=S++(.box [.d (.int .i64 x.client),.d (.int .i64 x.time),.d (.int .i64 x.op.kind),.d (.str x.op.topic),.d (.str x.op.group),.d (.int .i64 x.op.offset),.d (.slice (zeU x.op.recs)),.d (.int .i64 x.key),.d (.int .i64 x.dig)]::.tok 1 j::T2))
   (.tok 0 [] 1 rfl (by simp) (.refl _ _)) ⟨by simp [zeU],[],by simp⟩ ?_
  rintro j vs s hj ⟨rfl,T2,rfl⟩
  by_cases hjt:j<x.op.recs.length
  ·have hd:decide ((j:Int)<(x.op.recs.length:Int))=true:=by simp;omega
   have hy:x.op.recs[j]? = some x.op.recs[j]:=by simp [hjt]
   have hyl:=o4 _ (List.getElem_mem hjt)
   obtain ⟨r,hr⟩:∃ c,x.op.recs[j]=c:=⟨_,rfl⟩
   rw [hr] at hy hyl
   have hb1:∀ e∈bcs r,e.length=1:=zez
   have hbn:(bcs r).length=r.length:=zX r
   have hrl:(zeU (x.op.recs.take j)).length=j:=by rw [zU,List.length_take];omega
   have hr1:∀ e∈zeU (x.op.recs.take j),e.length=1:=zec (f:=fun b => [D.slice (bcs b)]) (fun _=>rfl) _
   refine zfC (zi hd (zi (zfM hy) (zi hb1 (zi hbn (zi hrl (zi hr1 (wki j (by omega)))))))) ?_
   refine zan.next hjt ⟨?_,T2++[.tok 1 r.length],rfl⟩
   rw [List.take_add_one,hy];simp [zeU]
  ·have hd:decide ((j:Int)<(x.op.recs.length:Int))=false:=by simp;omega
   have hbk:(zaP (l.take k)).length=k:=by rw [List.length_map,List.length_take];omega
   have hb9:∀ e∈zaP (l.take k),e.length=9:=zec (f:=zaN) (fun _=>rfl) _
   have gt:∀ τ,(S ++ τ)[σ.length]? = some (.tok 9 k):=fun τ=>zn ht
   have st:∀ τ Y,(S ++ τ).set σ.length Y = σ++(Y::(T ++ τ)):=fun τ Y=>by rw [zbB ht,hst,List.append_assoc];rfl
   rw [List.take_of_length_le (by omega)]
   refine zfC (zi hd (zi hbk (zi hb9 (zi gt (zi st (wki k (by omega))))))) ?_
   refine zan.next hlt ⟨?_,_,rfl⟩
   rw [List.take_add_one,hx];simp [zaP,zaN]
 ·have hd:decide ((k:Int)<(l.length:Int))=false:=by simp;omega
  rw [List.take_of_length_le (by omega)]
  refine zfC (zi hd hbl) ?_
  refine zt hl ?_
  exact hK
theorem zoU {σ:List zd} {c:zeP} (hn:c.signs.length<=1073741824) {K:KT} (hK:K (zdu c) σ):zj Tryz.prog zfQ [zdu c] σ K:=by
 refine zdZ zwJ fun hl => ?_
 have h2:=zoo c.signs
 have hsl:(zO c.signs).length=c.signs.length:=List.length_map ..
 simp only [zpj,iN,bT,bF,eN,zdu]
 refine zfC (zi h2 hsl) ?_
 refine zt hl ?_
 exact hK
theorem zyl {σ:List zd} {c:zJ} (hc:okCh c) {K:KT} (hK:K (.agg (zbj c)) σ):zj Tryz.prog zii [.agg (zbj c)] σ K:=by
 refine zdZ ztI fun hl => ?_
 have hpl:(zdC c.above).length=c.above.length:=List.length_map ..
 have hal:=hc.above
 simp only [zmu,iN,bT,bF,eN,zl3,zl4]
 refine zQ ?_
 refine zoU (c:=c.cert) hc.signs ?_
 refine zQ ?_
 refine zck c.above.length (fun k vs s=>vs = [.own (σ.length+2) (zdC (c.above.take k)),.d (.int .i64 k)]/\∃ T,s = σ++(.box (zbj c)::.box [.d (.int .i64 0),.d (.int .i64 0),.d (.int .i64 0),.d (.int .i64 0),.exact [],.exact [],.d (.int .i64 0),.d (.int .i64 0)]::.tok 7 k::T)) (.tok 0 [] 7 rfl (by simp) (.refl _ _)) ⟨by simp,[],by simp⟩ ?_
 rintro k vs s hk ⟨rfl,T,rfl⟩
 by_cases hlt:k<c.above.length
 ·have hd:decide ((k:Int)<(c.above.length:Int))=true:=by simp;omega
  have hx:c.above[k]? = some c.above[k]:=by simp [hlt]
  have hgx:=zF (f:=zei) hx
  obtain ⟨hx1,hx2⟩:=hc.each _ (List.getElem_mem hlt)
  obtain ⟨p,hp⟩:∃ p,c.above[k]=p:=⟨_,rfl⟩
  rw [hp] at hx hgx hx1 hx2
  have h2:=zoo p.signs
  have hsl:(zO p.signs).length=p.signs.length:=List.length_map ..
  have hpk:(zdC (c.above.take k)).length=k:=by rw [List.length_map,List.length_take];omega
  have hp7:∀ e∈zdC (c.above.take k),e.length=7:=preps_seven _
  refine zfG (zi hd (zi hpl (zi hgx (zi h2 hsl)))) ?_
  refine znf hx2.1 hx2.2 ?_
  refine zfC (zi hpk (zi hp7 (wki k (by omega)))) ?_
  refine zan.next hlt ⟨?_,_,rfl⟩
  rw [List.take_add_one,hx];simp [zdC,zei]
 ·have hd:decide ((k:Int)<(c.above.length:Int))=false:=by simp;omega
  rw [List.take_of_length_le (by omega)]
  refine zfC (zi hd hpl) ?_
  refine zt hl ?_
  exact hK
abbrev msgL6 (m:zcS) (a b c d e f:AV):List AV:=
 [.d (.int .i64 m.kind),.d (.int .i64 m.src),.d (.int .i64 m.view),.d (.int .i64 m.seq),.d (.int .i64 m.dig),.d (.int .i64 m.client),.d (.int .i64 m.time),.d (.int .i64 m.rerr),.d (.int .i64 m.roff),.d (.slice (zaP m.batch)),
  .d (.int .i64 m.cert.seq),.d (.int .i64 m.cert.dig),.d (.slice (zO m.cert.signs)),a,b,c,.d (.str m.topic),.d (.int .i64 m.offset),
  .d (.str m.proof.topic),.d (.int .i64 m.proof.offset),d,e,.d (.int .i64 m.proof.index),.d (.int .i64 m.proof.count),f,.d (.int .i64 m.proof.cert.seq),.d (.int .i64 m.proof.cert.dig),.d (.slice (zO m.proof.cert.signs)),.d (.int .i64 m.key),.d (.int .i64 m.sdig)]
abbrev msgR (m:zcS) (g1 g2 g3 g4 g5 g6:Nat):List zd:=
 [.row g1 8 (zac (zR m.changes)),.row g2 5 (zac (zu m.entries)),.row g3 1 (zac (bcs m.state)),.row g4 1 (zac (bcs m.proof.rec_)),.row g5 5 (zac (znX m.proof.headers)),.row g6 1 (zac (ziN m.proof.path))]
theorem c_kCloneM {σ:List zd} {m:zcS} (hm:zbn m) {K:KT}
  (hK:∀ g1 g2 g3 g4 g5 g6,K (.agg (msgL6 m (.rsl σ.length g1 8 0 m.changes.length) (.rsl (σ.length+1) g2 5 0 m.entries.length) (.rsl (σ.length+2) g3 1 0 m.state.length) (.rsl (σ.length+3) g4 1 0 m.proof.rec_.length) (.rsl (σ.length+4) g5 5 0 m.proof.headers.length) (.rsl (σ.length+5) g6 1 0 m.proof.path.length))) (σ++msgR m g1 g2 g3 g4 g5 g6)) :
  zj Tryz.prog zqQ [zeR m] σ K:=by
 refine zxm zuv.is rfl fun hl _=>zuv.goes ?_
 have hcl:(zR m.changes).length=m.changes.length:=List.length_map ..
 have hel:(zu m.entries).length=m.entries.length:=List.length_map ..
 have hal:=hm.changes
 have hbl:=hm.entries
 simp only [zuB,iN,bT,bF,eN,zl0,zl4]
 refine zQ ?_
 refine znf hm.batch.1 hm.batch.2 ?_
 refine zQ ?_
 refine zoU (c:=m.cert) hm.signs ?_
 refine zQ ?_
 refine zck m.changes.length (fun k vs s=>vs = [.rsl (σ.length+2) k 8 0 k,.d (.int .i64 k)]/\∃ T,s = σ++(.box (msgL m)::.box zkb::.row k 8 (zac (zR (m.changes.take k)))::T)) (.row 0 8 rfl (by omega) (.refl _ _)) ⟨by simp,[],by simp [zac,zR]⟩ ?_
 rintro k vs s hk ⟨rfl,T,rfl⟩
 have hfl:(zac (zR (m.changes.take k))).length=k*8:=by
  rw [zeM (changes_eight _),List.length_map,List.length_take,Nat.min_eq_left hk]
 by_cases hlt:k<m.changes.length
 ·have hd:decide ((k:Int)<(m.changes.length:Int))=true:=by simp;omega
  have hx:m.changes[k]? = some m.changes[k]:=by simp [hlt]
  have hgx:=zF (f:=zat) hx
  have hsm:=(hm.change _ (List.getElem_mem hlt)).1
  obtain ⟨c,hc⟩:∃ c,m.changes[k]=c:=⟨_,rfl⟩
  rw [hc] at hx hgx hsm
  have hol:(k+1)*96<=140737488355328:=by omega
  have hnx:zac (zR (m.changes.take k))++(zat c).map AV.d=zac (zR (m.changes.take (k+1))):=by
   rw [List.take_add_one,hx];simp [zac,zR]
  obtain ⟨Q,hQ⟩:∃ Q,zac (zR (m.changes.take k))=Q:=⟨_,rfl⟩
  rw [hQ] at hfl hnx ⊢
  refine zfG (zi hd (zi hgx hcl)) ?_
  refine zyl (c:=c) hsm ?_
  refine gq14 (zi hfl (zi hol (wki k (by omega)))) ?_
  exact zan.next hlt ⟨rfl,T++[.row 0 8 (zbj c)],by rw [← hnx];rfl⟩
 have hk':k=m.changes.length:=by omega
 subst hk'
 have hd:decide ((m.changes.length:Int)<(m.changes.length:Int))=false:=by simp
 rw [List.take_length]
 obtain ⟨Q,hQ⟩:∃ Q,zac (zR m.changes)=Q:=⟨_,rfl⟩
 rw [hQ]
 refine zfC (zi hd hcl) ?_
 obtain ⟨S,hS⟩:∃ S, σ++zd.box (msgL2 m (.rsl (σ.length+2) m.changes.length 8 0 m.changes.length) (.d (.slice (zu m.entries))))::.box zkb::.row m.changes.length 8 Q::T=S:=⟨_,rfl⟩
 rw [show (σ++_::_::_::T:List zd)=S from hS]
 have gA:∀ τ,(S ++ τ)[σ.length]? = some (.box (msgL2 m (.rsl (σ.length+2) m.changes.length 8 0 m.changes.length) (.d (.slice (zu m.entries))))):=fun τ=>zn (by rw [← hS,zD];rfl)
 have hSl:S.length = σ.length+(T.length+3):=by rw [← hS];simp
 have sA:∀ τ Y,(S ++ τ).set σ.length Y = σ++(Y::.box zkb::.row m.changes.length 8 Q::(T ++ τ)):=fun τ Y=>by rw [← hS,List.append_assoc,zP];rfl
 refine zck m.entries.length (fun k vs s=>vs = [.rsl S.length k 5 0 k,.d (.int .i64 k)]/\∃ T2,s=S++(.row k 5 (zac (zu (m.entries.take k)))::T2)) (.row 0 5 rfl (by omega) (.refl _ _)) ⟨rfl,[],by simp [zac,zu]⟩ ?_
 rintro k vs s hk ⟨rfl,T2,rfl⟩
 have hfl2:(zac (zu (m.entries.take k))).length=k*5:=by
  rw [zeM (entries_five _),List.length_map,List.length_take,Nat.min_eq_left hk]
 by_cases hlt:k<m.entries.length
 ·have hd:decide ((k:Int)<(m.entries.length:Int))=true:=by simp;omega
  have hx:m.entries[k]? = some m.entries[k]:=by simp [hlt]
  have hgx:=zF (f:=zbh) hx
  have hsm:=(hm.entry _ (List.getElem_mem hlt)).1
  obtain ⟨c,hc⟩:∃ c,m.entries[k]=c:=⟨_,rfl⟩
  rw [hc] at hx hgx hsm
  have hol:(k+1)*56<=140737488355328:=by omega
  have hnx:zac (zu (m.entries.take k))++(zbh c).map AV.d=zac (zu (m.entries.take (k+1))):=by
   rw [List.take_add_one,hx];simp [zac,zu]
  obtain ⟨QE,hQE⟩:∃ Q,zac (zu (m.entries.take k))=Q:=⟨_,rfl⟩
  rw [hQE] at hfl2 hnx ⊢
  refine zfG (zi hd (zi hgx (zi hel gA))) ?_
  refine znf hsm.1 hsm.2 ?_
  refine gq14 (zi hfl2 (zi hol (wki k (by omega)))) ?_
  refine zan.next hlt ⟨rfl,_,by rw [← hnx];rfl⟩
 have hk':k=m.entries.length:=by omega
 subst hk'
 have hd:decide ((m.entries.length:Int)<(m.entries.length:Int))=false:=by simp
 rw [List.take_length]
 obtain ⟨QE,hQE⟩:∃ Q,zac (zu m.entries)=Q:=⟨_,rfl⟩
 rw [hQE]
 have b1:∀ e∈bcs m.state,e.length=1:=zez
 have l1:(bcs m.state).length=m.state.length:=zX _
 have b2:∀ e∈bcs m.proof.rec_,e.length=1:=zez
 have l2:(bcs m.proof.rec_).length=m.proof.rec_.length:=zX _
 have b3:∀ e∈znX m.proof.headers,e.length=5:=zec (f:=hdrD) (fun _=>rfl) _
 have l3:(znX m.proof.headers).length=m.proof.headers.length:=List.length_map ..
 have b4:∀ e∈ziN m.proof.path,e.length=1:=zec (f:=fun x => [D.int .i64 x]) (fun _=>rfl) _
 have l4:(ziN m.proof.path).length=m.proof.path.length:=List.length_map ..
 have n1:m.state.length*1<=140737488355328:=by have:=hm.state;omega
 have n2:m.proof.rec_.length*1<=140737488355328:=by have:=hm.proof.rec_;omega
 have n3:m.proof.headers.length*40<=140737488355328:=by have:=hm.proof.headers;omega
 have n4:m.proof.path.length*8<=140737488355328:=by have:=hm.proof.path;omega
 refine gq14 (zi hd (zi hel (zi gA (zi sA (zi b1 (zi l1 (zi b2 (zi l2 (zi b3 (zi l3 (zi b4 (zi l4 (zi n1 (zi n2 (zi n3 n4))))))))))))))) ?_
 refine zoU (c:=m.proof.cert) hm.proof.signs ?_
 refine zQ ?_
 obtain ⟨V,hV⟩:∃ V, σ++zd.box zkb::zd.box zkb::zd.row m.changes.length 8 Q::(T++zd.row m.entries.length 5 QE::T2)=V:=⟨_,rfl⟩
 have hVl:V.length = σ.length+(T.length+(T2.length+4)):=by rw [← hV];simp;omega
 obtain ⟨i1,h1⟩:∃ i, σ.length+2=i:=⟨_,rfl⟩
 obtain ⟨i2,h2⟩:∃ i,S.length=i:=⟨_,rfl⟩
 obtain ⟨i3,h3⟩:∃ i, σ.length+(T.length+(T2.length+4))=i:=⟨_,rfl⟩
 obtain ⟨i4,h4⟩:∃ i, σ.length+(T.length+(T2.length+5))=i:=⟨_,rfl⟩
 obtain ⟨i5,h5⟩:∃ i, σ.length+(T.length+(T2.length+6))=i:=⟨_,rfl⟩
 obtain ⟨i6,h6⟩:∃ i, σ.length+(T.length+(T2.length+7))=i:=⟨_,rfl⟩
 rw [h1,h2,h3,h4,h5,h6]
 have w1:¬ i1 < σ.length:=by omega
 have w2:¬ i2 < σ.length:=by omega
 have w3:¬ i3 < σ.length:=by omega
 have w4:¬ i4 < σ.length:=by omega
 have w5:¬ i5 < σ.length:=by omega
 have w6:¬ i6 < σ.length:=by omega
 have v12:¬ i2=i1:=by omega
 have v13:¬ i3=i1:=by omega
 have v14:¬ i4=i1:=by omega
 have v15:¬ i5=i1:=by omega
 have v16:¬ i6=i1:=by omega
 have v23:¬ i3=i2:=by omega
 have v24:¬ i4=i2:=by omega
 have v25:¬ i5=i2:=by omega
 have v26:¬ i6=i2:=by omega
 have v34:¬ i4=i3:=by omega
 have v35:¬ i5=i3:=by omega
 have v36:¬ i6=i3:=by omega
 have v45:¬ i5=i4:=by omega
 have v46:¬ i6=i4:=by omega
 have v56:¬ i6=i5:=by omega
 obtain ⟨Y,hY⟩:∃ Y,zd.box (msgL6 m (.rsl i1 m.changes.length 8 0 m.changes.length) (.rsl i2 m.entries.length 5 0 m.entries.length) (.rsl i3 0 1 0 m.state.length) (.rsl i4 0 1 0 m.proof.rec_.length) (.rsl i5 0 5 0 m.proof.headers.length) (.rsl i6 0 1 0 m.proof.path.length))=Y:=⟨_,rfl⟩
 rw [show zd.box _=Y from hY]
 have gv:∀ R:List zd, σ++Y::Y::zd.row m.changes.length 8 Q::(T++zd.row m.entries.length 5 QE::(T2++R))=(σ++Y::Y::zd.row m.changes.length 8 Q::(T++zd.row m.entries.length 5 QE::T2))++R:=fun R=>by simp
 have gl:(σ++Y::Y::zd.row m.changes.length 8 Q::(T++zd.row m.entries.length 5 QE::T2)).length=i3:=by rw [← h3];simp;omega
 obtain ⟨X,hX⟩:∃ X,Y::Y::zd.row m.changes.length 8 Q::(T++zd.row m.entries.length 5 QE::(T2++[zd.row 0 1 (List.map AV.d (bcs m.state).flatten),zd.row 0 1 (List.map AV.d (bcs m.proof.rec_).flatten),zd.row 0 5 (List.map AV.d (znX m.proof.headers).flatten),zd.row 0 1 (List.map AV.d (ziN m.proof.path).flatten)]))=X:=⟨_,rfl⟩
 have e1:(σ++X)[i1]? = some (.row m.changes.length 8 Q):=by rw [← hX, ← h1,zB];rfl
 have e2:(σ++X)[i2]? = some (.row m.entries.length 5 QE):=by
  rw [← hX, ← h2,hSl,zB]
  simp [List.getElem?_append_right]
 have e3:(σ++X)[i3]? = some (.row 0 1 (zac (bcs m.state))):=by rw [← hX,gv, ← gl,zD];rfl
 have e4:(σ++X)[i4]? = some (.row 0 1 (zac (bcs m.proof.rec_))):=by rw [← hX,gv,show i4=i3+1 by omega, ← gl,zB];rfl
 have e5:(σ++X)[i5]? = some (.row 0 5 (zac (znX m.proof.headers))):=by rw [← hX,gv,show i5=i3+2 by omega, ← gl,zB];rfl
 have e6:(σ++X)[i6]? = some (.row 0 1 (zac (ziN m.proof.path))):=by rw [← hX,gv,show i6=i3+3 by omega, ← gl,zB];rfl
 rw [hX]
 refine zpN (ks := [i1,i2,i3,i4,i5,i6]) (os:=msgR m m.changes.length m.entries.length 0 0 0 0) (r := .agg (msgL6 m (.rsl σ.length m.changes.length 8 0 m.changes.length) (.rsl (σ.length+1) m.entries.length 5 0 m.entries.length) (.rsl (σ.length+2) 0 1 0 m.state.length) (.rsl (σ.length+3) 0 1 0 m.proof.rec_.length) (.rsl (σ.length+4) 0 5 0 m.proof.headers.length) (.rsl (σ.length+5) 0 1 0 m.proof.path.length))) hl ?_ ?_ ?_ ?_ ?_ (hK _ _ _ _ _ _)
 ·simp;omega
 ·simp;omega
 ·simp only [getL,e1,e2,e3,e4,e5,e6,msgR,hQ,hQE]
 ·intro x hx
  simp only [msgR,List.mem_cons,List.not_mem_nil,or_false] at hx
  rcases hx with rfl|rfl|rfl|rfl|rfl|rfl<;>exact zwf _ _ _ _
 ·simp only [zcq,zdY,zjr,zkW,idxK,w1,w2,w3,w4,w5,w6,v12,v13,v14,v15,v16,v23,v24,v25,v26,v34,v35,v36,v45,v46,v56,if_false,if_true]
end Go.Proofs.YtpgahkdjkanblaaGreat
