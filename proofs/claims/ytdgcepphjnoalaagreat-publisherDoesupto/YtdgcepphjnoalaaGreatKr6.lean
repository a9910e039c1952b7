/- Contracts: which view-changes and new views are signed, the document's. -/
import Derived.Test.YtdgcepphjnoalaaGreatKr3
import Derived.Test.YtdgcepphjnoalaaGreatPp1
import Derived.Test.YtdgcepphjnoalaaGreatId3
import Derived.Test.YtdgcepphjnoalaaGreatSpTab
import Derived.Test.YtdgcepphjnoalaaGreatWr3
set_option linter.all false
set_option maxRecDepth 100000
namespace Go.Proofs.YtdgcepphjnoalaaGreat
open Go.AW
abbrev withS (m:zbC) (s:zI):zbC:={ m with key:=s.key,sdig:=s.dig }
theorem zzT:msgL zeu=[.d (.int .i64 0),.d (.int .i64 0),.d (.int .i64 0),.d (.int .i64 0),.d (.int .i64 0),.d (.int .i64 0),.d (.int .i64 0),.d (.int .i64 0),.d (.int .i64 0),.d (.slice []),.d (.int .i64 0),.d (.int .i64 0),.d (.slice []),.d (.slice []),.d (.slice []),.d (.slice []),.d (.str []),.d (.int .i64 0),.d (.str []),.d (.int .i64 0),.d (.slice []),.d (.slice []),.d (.int .i64 0),.d (.int .i64 0),.d (.slice []),.d (.int .i64 0),.d (.int .i64 0),.d (.slice []),.d (.int .i64 0),.d (.int .i64 0)]:=rfl
variable {σ:List AObj}
def zqe (m:zbC):AV:=if zfW (zbr m)=0/\nilK m.kind=false then .d (.slice (bcs (zdj m)))else .nils
theorem zzF {m:zbC}(h7:m.kind≠7):zbr m=if zeT m.kind=true then zvC m else m:=by rw[zbr,if_neg h7]
theorem zrN (m:zbC):(zbr m).kind=m.kind:=by
 unfold zbr;split
 ·split<;>rfl
 ·split<;>rfl
theorem zzX {m:zbC}(h:zfW (zbr m)=0):(m.kind=2∨m.kind=3∨m.kind=4->mayV m.kind m.view m.seq m.dig=true)/\(m.kind=6->mayV m.kind 0 m.seq m.dig=true)/\(m.kind=9->mayV m.kind 0 m.seq 0=true):=by
 have hc:=(zjE h).1;have hall:=(zgP hc).1;refine⟨fun hk=>?_,fun hk=>?_,fun hk=>?_⟩
 ·have ho:zeT m.kind=true:=by simp only[zeT,decide_eq_true_eq];omega
  have e:zbr m=zvC m:=by rw[zzF (by omega),if_pos ho]
  obtain⟨v1,v2,v3,v4⟩:=zzA hc (by rw[zrN];exact hk);rw[e]at v1 v2 v3 v4;simp only[mayV,zvX,Bool.and_eq_true,decide_eq_true_eq];simp only at v2 v3 v4;omega
 ·have e:zbr m=zvC m:=by rw[zzF (by omega),if_pos (by rw[hk];rfl)]
  rw[e]at hall;have g2:=zkG (hall (zks m.seq) (by simp[zac,zC,hk]));have g3:=zkG (hall (zks m.dig) (by simp[zac,zC,hk]));simp only[mayV,zvX,Bool.and_eq_true,decide_eq_true_eq];omega
 ·have e:zbr m=zvC m:=by rw[zzF (by omega),if_pos (by rw[hk];rfl)]
  rw[e]at hall;have g2:=zkG (hall (zeU m.seq) (by simp[zac,zC,hk]));simp only[mayV,zvX,Bool.and_eq_true,decide_eq_true_eq];omega
theorem zsS {m:zbC}(hk:m.kind=5)(h:zfW (zbr m)=0):ReplyOk (zvC m):=by
 have e:zbr m=zvC m:=by rw[zzF (by omega),if_pos (by rw[hk];rfl)]
 have:=(zjE h).1;rw[e]at this;exact zyP (m:=zvC m) hk this
theorem zum {m:zbC}(hm:zaI m){K:KT}
  (hK:K (.tup [zqe m,.d (.int .i64 (zfW (zbr m)))]) σ):zP ziN [zgi m] σ K:=by
 refine zlJ zoH.is rfl fun hl _=>zoH.goes ?_;simp only[zoV];refine zG ?_;refine c_mUnsignedG (m:=m) hm ?_;by_cases h1:zfW (zbr m)=0;rotate_left
 ·have h1':(zfW (zbr m) != 0)=true:=by simp[h1]
  refine zm h1' ?_;refine zu hl ?_;rw[zqe,if_neg (fun h=>h1 h.1)]at hK;exact hK
 have h1':(zfW (zbr m) != 0)=false:=by simp[h1]
 have hkk:=kinds (zjE h1).1;rw[zrN]at hkk;obtain⟨y1,y2,y3⟩:=zzX h1;have hlen:=(zjE h1).2;rw[if_pos h1];have hn:nilK m.kind=true->K (.tup [.nils,.d (.int .i64 0)]) σ:=fun hk=>by
  rw[zqe,if_neg (fun h=>by rw[hk]at h;cases h.2),h1]at hK;exact hK
 have hs:nilK m.kind=false->∀b,zdj m=b->K (.tup [.d (.slice (bcs b)),.d (.int .i64 0)]) σ:=fun hk b hb=>by
  rw[zqe,if_pos ⟨h1,hk⟩,h1,hb]at hK;exact hK
 clear hK;have ulen:(znW (zbr m)).length<=262144:=by rw[ztm,List.length_append]at hlen;omega
 by_cases hk:m.kind=2
 ·refine zm (zd h1' (K2 hk)) ?_;refine zhR (a:=m.kind) (b:=m.view) (c:=m.seq) (d:=m.dig) (y1 (by omega)) ?_;refine zG ?_;refine zu hl ?_;exact hs (by rw[hk];rfl) _ (by simp[zdj,hk])
 by_cases hk:m.kind=3
 ·refine zm (zd h1' (K3 hk)) ?_;refine zhR (a:=m.kind) (b:=m.view) (c:=m.seq) (d:=m.dig) (y1 (by omega)) ?_;refine zG ?_;refine zu hl ?_;exact hs (by rw[hk];rfl) _ (by simp[zdj,hk])
 by_cases hk:m.kind=4
 ·refine zm (zd h1' (K4 hk)) ?_;refine zhR (a:=m.kind) (b:=m.view) (c:=m.seq) (d:=m.dig) (y1 (by omega)) ?_;refine zG ?_;refine zu hl ?_;exact hs (by rw[hk];rfl) _ (by simp[zdj,hk])
 by_cases hk:m.kind=6
 ·refine zm (zd h1' (K6 hk)) ?_;refine zhR (a:=m.kind) (b:=0) (c:=m.seq) (d:=m.dig) (y2 hk) ?_;refine zG ?_;refine zu hl ?_;exact hs (by rw[hk];rfl) _ (by simp[zdj,hk])
 by_cases hk:m.kind=9
 ·refine zm (zd h1' (K9 hk)) ?_;refine zhR (a:=m.kind) (b:=0) (c:=m.seq) (d:=0) (y3 hk) ?_;refine zG ?_;refine zu hl ?_;exact hs (by rw[hk];rfl) _ (by simp[zdj,hk])
 by_cases hk:m.kind=5
 ·have hc:=zsS hk h1;refine zm (zd h1' (K5 hk)) ?_;refine c_auPut (b:=[5]) (l:=[m.view,m.client,m.time,m.rerr,m.roff]) (by simp) (by simp) ?_ ?_
  ·have a1:=hc.view;have a2:=hc.client;have a3:=hc.time;have a4:=hc.rerr;have a5:=hc.roff;simp only[zvC]at a1 a2 a3 a4 a5;simp;omega
  refine zG ?_;refine zu hl ?_;exact hs (by rw[hk];rfl) (replyB m) (by simp[zdj,hk])
 by_cases hk:m.kind=7
 ·refine zm (zd h1' (K7 hk)) ?_;refine⟨bcs1 _,by simp,by omega,?_⟩;refine zu hl ?_;exact hs (by rw[hk];rfl) (6::znW (zbr m)) (by simp[zdj,hk])
 by_cases hk:m.kind=8
 ·refine zm (zd h1' (K8 hk)) ?_;refine⟨bcs1 _,by simp,by omega,?_⟩;refine zu hl ?_;exact hs (by rw[hk];rfl) (6::znW (zbr m)) (by simp[zdj,hk])
 by_cases hk:m.kind=1
 ·refine zm (zd h1' (K1 hk)) ?_;refine zu hl ?_;exact hn (by rw[hk];rfl)
 by_cases hk:m.kind=10
 ·refine zm (zd h1' (K10 hk)) ?_;refine zu hl ?_;exact hn (by rw[hk];rfl)
 by_cases hk:m.kind=11
 ·refine zm (zd h1' (K11 hk)) ?_;refine zu hl ?_;exact hn (by rw[hk];rfl)
 have hk:m.kind=12:=by omega
 refine zm (zd h1' (K12 hk)) ?_;refine zu hl ?_;exact hn (by rw[hk];rfl)
variable {σ:List AObj}
theorem mgWalk {m:zbC}(hm:zaI m){Z:ZT}
  (hZ:∀g g2 A B,ztO (σ.length+4) A->ztO (σ.length+4) B->Z (some [.agg (msgL2 m (.rsl (σ.length+2) g 8 0 m.changes.length) (.rsl (σ.length+3) g2 5 0 m.entries.length))]) (σ++[A,B,.row g 8 (zcF (zap m.changes)),.row g2 5 (zcF (zbo m.entries))])) :
  zjz Tryz.prog (zgi m) σ Z:=by
 have hcl:(zap m.changes).length=m.changes.length:=List.length_map ..;have hel:(zbo m.entries).length=m.entries.length:=List.length_map ..;have h8:=changes_eight m.changes;have h5:=entries_five m.entries;have hal:=hm.changes;have hbl:=hm.entries;simp only[zjz,iN,bT,bF,eN,zl3];refine zG ?_;refine zkN (b:=m.batch) hm.batchS ?_;refine zG ?_;refine znw (c:=m.cert) hm.signs ?_;refine zG ?_;refine c_clByt ziE (by rw[zam];exact hm.state) ?_;refine zG ?_;refine c_clChangeM h8 (by omega) fun g=>?_;refine zm hcl ?_;refine c_clEntryM h5 (by omega) fun g2=>?_;refine zm (zd hcl hel) ?_;obtain⟨R,hR⟩:∃R,zcF (zap m.changes)=R:=⟨_,rfl⟩;obtain⟨Q,hQ⟩:∃R,zcF (zbo m.entries)=R:=⟨_,rfl⟩;have hRl:R.length=m.changes.length*8:=by rw[← hR,zoF h8,hcl]
 have hQl:Q.length=m.entries.length*5:=by rw[← hQ,zoF h5,hel]
 rw[hR,hQ];refine zn m.changes.length (fun k vs s=>vs=[.d (.int .i64 k)]/\s=σ++[AObj.box (msgL2 m (.rsl (σ.length+2) g 8 0 m.changes.length) (.rsl (σ.length+3) g2 5 0 m.entries.length)),.box zero30,.row g 8 R,.row g2 5 Q]) ⟨rfl,rfl⟩ ?_;rintro k vs s hk ⟨rfl,rfl⟩;by_cases hlt:k<m.changes.length
 ·have hd:decide ((k:Int)<(m.changes.length:Int))=true:=by simp;omega
  have hx:m.changes[k]? = some m.changes[k]:=by simp[hlt]
  have hgx:=zR (f:=zag) hx;have hsm:=(hm.change _ (List.getElem_mem hlt)).2;obtain⟨c,hc⟩:∃c,m.changes[k]=c:=⟨_,rfl⟩;rw[hc]at hx hgx hsm;have g8:=zwo h8 hgx;have s8:=row_same8 h8 hgx;rw[hR]at g8 s8;have zz8:k*8+8<=R.length:=by omega
  have zk:0<=(k:Int):=by omega
  refine zdB (zd hd (zd zk (zd zz8 g8))) ?_;refine zwV (c:=c) hsm ?_;refine zm (zd hd (zd zk (zd zz8 (wki k (by omega))))) ?_;simp only[zag,List.map_cons,List.map_nil,List.cons_append,List.nil_append]at s8;exact zaK.next hlt ⟨rfl,by rw[s8]⟩
 ·have hd:decide ((k:Int)<(m.changes.length:Int))=false:=by simp;omega
  refine zm hd ?_;refine zn m.entries.length (fun k vs s=>vs=[.d (.int .i64 k)]/\s=σ++[AObj.box (msgL2 m (.rsl (σ.length+2) g 8 0 m.changes.length) (.rsl (σ.length+3) g2 5 0 m.entries.length)),.box zero30,.row g 8 R,.row g2 5 Q]) ⟨rfl,rfl⟩ ?_;rintro k vs s hk ⟨rfl,rfl⟩;by_cases hlt:k<m.entries.length
  ·have hd:decide ((k:Int)<(m.entries.length:Int))=true:=by simp;omega
   have hx:m.entries[k]? = some m.entries[k]:=by simp[hlt]
   have hgx:=zR (f:=zdh) hx;have hsm:=(hm.entry _ (List.getElem_mem hlt)).2;obtain⟨x,hxe⟩:∃c,m.entries[k]=c:=⟨_,rfl⟩;rw[hxe]at hx hgx hsm;have g2':=zto h5 hgx (i:=2) (by omega);have s2:=zzM g2';simp only[zdh,List.getElem?_cons_succ,List.getElem?_cons_zero,Option.map_some]at g2' s2;rw[hQ]at g2' s2;have zz2:k*5+2+1<=Q.length:=by omega
   have zk:0<=(k:Int):=by omega
   refine zjC (zd hd (zd zk (zd zz2 g2'))) ?_;refine zkN (b:=x.batch) hsm ?_;refine zjC (zd hd (zd zk (zd zz2 (zd s2 (wki k (by omega)))))) ?_;exact zaK.next hlt ⟨rfl,rfl⟩
  ·have hd:decide ((k:Int)<(m.entries.length:Int))=false:=by simp;omega
   have hp:=hm.proof;have hh5:∀e∈zmw m.proof.headers,e.length=5:=zjo (f:=zsb) (fun _=>rfl) _;have hh1:∀e∈zhZ m.proof.path,e.length=1:=zjo (f:=fun x=>[D.int .i64 x]) (fun _=>rfl) _;refine zjC hd ?_;refine c_clByt ziE (by rw[zam];have:=hp.rec_;omega) ?_;refine zG ?_;refine c_clHdr hh5 (by rw[List.length_map];exact hp.headers) ?_;refine zG ?_;refine c_clDig hh1 (by rw[List.length_map];exact hp.path) ?_;refine zG ?_;refine znw (c:=m.proof.cert) hp.signs ?_;refine zG ?_;have z0:=hZ g g2;rw[hR,hQ]at z0;refine z0 _ _ ?_ ?_
   ·intro c hc;simp only[List.mem_cons,List.not_mem_nil,or_false]at hc;rcases hc with rfl|rfl|rfl|rfl|rfl|rfl|rfl|rfl|rfl|rfl|rfl|rfl|rfl|rfl|rfl|rfl|rfl|rfl|rfl|rfl|rfl|rfl|rfl|rfl|rfl|rfl|rfl|rfl|rfl|rfl<;>first|exact .d _|exact .rsl _ _ _ _ _ (by omega)
   ·intro c hc;simp only[List.mem_cons,List.not_mem_nil,or_false]at hc;rcases hc with rfl|rfl|rfl|rfl|rfl|rfl|rfl|rfl|rfl|rfl|rfl|rfl|rfl|rfl|rfl|rfl|rfl|rfl|rfl|rfl|rfl|rfl|rfl|rfl|rfl|rfl|rfl|rfl|rfl|rfl<;>first|exact .d _|exact .rsl _ _ _ _ _ (by omega)
variable {σ:List AObj}
theorem c_kParts12 {m:zbC}(hm:zaI m)(hk:m.kind=12){K:KT}(hK:K (.d (.int .i64 (zax (zac m)))) σ):zP ziv [zgi m] σ K:=by
 refine zeA zno fun hl=>?_;have e0:zax (zac m)=zax [zjF m.src,zmk m.proof]:=by
  have e1:∀(x:Int) (l:List Int),zax (x::l)=zax [x,zax l]:=fun x l=>by
   simp only[zax];split
   ·rfl
   ·split<;>simp_all
  rw[show zac m=zjF m.src::zcU m.proof by simp[zac,zC,hk,show zeT 12=false from rfl],e1,zmk]
 rw[e0]at hK;simp only[zkR,iN,bT,bF,eN];refine zG ?_;refine zbI ?_;refine zm (kk12 hk) ?_;refine zjb ?_;refine zm (kk12 hk) ?_;refine c_kProof (p:=m.proof) hm.proof ?_;refine zG ?_;refine zeJ (l:=[zjF m.src,zmk m.proof]) (by simp) ?_;refine zG ?_;refine zu hl ?_;exact hK
variable {σ:List AObj}
theorem c_kVote {m:zbC}{e:Int}{K:KT}(hK:K (.d (.int .i64 (zax (zet m++[e,zx m.key m.sdig])))) σ):zP zhA [zgi m,.d (.int .i64 e)] σ K:=by
 refine zeq zwA fun hl=>?_;simp only[zpe,iN,bT,bF,eN];refine zG ?_;refine zjb ?_;refine zG ?_;refine zja ?_;refine zG ?_;refine zqu ?_;refine zG ?_;refine zqu ?_;refine zG ?_;refine zbI ?_;refine zG ?_;refine zeJ (l:=zet m++[e,zx m.key m.sdig]) (by simp[zet]) ?_;refine zG ?_;refine zu hl ?_;exact hK
theorem c_kPartsG {m:zbC}(hm:zaI m){K:KT}(hK:K (.d (.int .i64 (zax (zac m)))) σ):zP ziv [zgi m] σ K:=by
 by_cases h7:m.kind=7
 ·exact c_kParts7 hm h7 hK
 by_cases h8:m.kind=8
 ·exact c_kParts8 hm h8 hK
 by_cases h12:m.kind=12
 ·exact c_kParts12 hm h12 hK
 refine zeA zno fun hl=>?_;have hbl:(zbz m.batch).length=m.batch.length:=List.length_map ..;have fin:∀l:List Int,zax (zac m)=zax l->K (.d (.int .i64 (zax l))) σ:=fun z h=>h▸hK;have fin1:∀x:Int,zax (zac m)=x->K (.d (.int .i64 x)) σ:=fun z h=>h▸hK;clear hK;simp only[zkR,iN,bT,bF,eN];refine zG ?_;refine zbI ?_;by_cases hk:m.kind=1
 ·have e0:zac m=[inE m.batch.length 1 1,zD m.batch]:=by simp[zac,zC,hk,show zeT 1=false from rfl]
  cases h1:((m.batch.length:Int) != 1)
  ·refine zm (zd (K1 hk) (zd hbl h1)) ?_;refine zhQ (b:=m.batch) hm.batch ?_;refine zG ?_;refine zu hl ?_;refine fin1 _ ?_;simp only[bne_eq_false_iff_eq]at h1;rw[e0,inE,if_neg (by omega)];simp only[zax];split<;>simp_all
  ·refine zm (zd (K1 hk) (zd hbl h1)) ?_;refine zu hl ?_;refine fin1 _ ?_;simp only[bne_iff_ne,ne_eq]at h1;rw[e0,inE,if_pos (by omega)];rfl
 by_cases hk:m.kind=2
 ·have e0:zac m=zet m++[zD m.batch,zx m.key m.sdig]:=by simp[zac,zC,hk,show zeT 2=true from rfl]
  refine zm (K2 hk) ?_;refine zhQ (b:=m.batch) hm.batch ?_;refine zm (K2 hk) ?_;refine c_kVote (m:=m) ?_;refine zG ?_;refine zu hl ?_;exact fin _ (by rw[e0])
 by_cases hk:m.kind=3
 ·have e0:zac m=zet m++[zx m.key m.sdig]:=by simp[zac,zC,hk,show zeT 3=true from rfl]
  refine zm (K3 hk) ?_;refine c_kVote (m:=m) ?_;refine zG ?_;refine zu hl ?_;exact fin _ (by rw[e0,zeH,zeH];rfl)
 by_cases hk:m.kind=4
 ·have e0:zac m=zet m++[zx m.key m.sdig]:=by simp[zac,zC,hk,show zeT 4=true from rfl]
  refine zm (K4 hk) ?_;refine c_kVote (m:=m) ?_;refine zG ?_;refine zu hl ?_;exact fin _ (by rw[e0,zeH,zeH];rfl)
 by_cases hk:m.kind=5
 ·have e0:zac m=[zjF m.src,zeU m.view,inE m.client 0 7,zeU m.time,inE m.rerr 0 65536,zeU m.roff,zx m.key m.sdig]:=by simp[zac,zC,hk,show zeT 5=true from rfl]
  refine zm (K5 hk) ?_;refine zjb ?_;refine zm (K5 hk) ?_;refine zja ?_;refine zm (K5 hk) ?_;refine zwY ?_;refine zm (K5 hk) ?_;refine zja ?_;refine zm (K5 hk) ?_;refine zwY ?_;refine zm (K5 hk) ?_;refine zja ?_;refine zm (K5 hk) ?_;refine zeJ (l:=[zjF m.src,zeU m.view,inE m.client 0 7,zeU m.time,inE m.rerr 0 65536,zeU m.roff,zx m.key m.sdig]) (by simp) ?_;refine zG ?_;refine zu hl ?_;exact fin _ (by rw[e0])
 by_cases hk:m.kind=6
 ·have e0:zac m=[zjF m.src,zks m.seq,zks m.dig,zx m.key m.sdig]:=by simp[zac,zC,hk,show zeT 6=true from rfl]
  refine zm (K6 hk) ?_;refine zjb ?_;refine zm (K6 hk) ?_;refine zqu ?_;refine zm (K6 hk) ?_;refine zqu ?_;refine zm (K6 hk) ?_;refine zeJ (l:=[zjF m.src,zks m.seq,zks m.dig,zx m.key m.sdig]) (by simp) ?_;refine zG ?_;refine zu hl ?_;exact fin _ (by rw[e0])
 by_cases hk:m.kind=9
 ·have e0:zac m=[zjF m.src,zeU m.seq,zx m.key m.sdig]:=by simp[zac,zC,hk,show zeT 9=true from rfl]
  refine zm (K9 hk) ?_;refine zjb ?_;refine zm (K9 hk) ?_;refine zja ?_;refine zm (K9 hk) ?_;refine zeJ (l:=[zjF m.src,zeU m.seq,zx m.key m.sdig]) (by simp) ?_;refine zG ?_;refine zu hl ?_;exact fin _ (by rw[e0])
 by_cases hk:m.kind=10
 ·have e0:zac m=zjF m.src::(zbx m.cert++[inE m.state.length 0 262144]):=by simp[zac,zC,hk,show zeT 10=false from rfl]
  refine zm (K10 hk) ?_;refine zjb ?_;refine zm (K10 hk) ?_;refine c_kCert (c:=m.cert) hm.signs ?_;refine zjC (K10 hk) ?_;refine zwY ?_;refine zm (K10 hk) ?_;refine zeJ (l:=[zjF m.src,zax (zbx m.cert),inE m.state.length 0 262144]) (by simp) ?_;refine zG ?_;refine zu hl ?_;exact fin _ (by rw[e0];simp only[zax];rw[zeH];rfl)
 by_cases hk:m.kind=11
 ·have e0:zac m=[inE m.client 0 7,zlg m.topic,zeU m.offset]:=by simp[zac,zC,hk,show zeT 11=false from rfl]
  refine zm (K11 hk) ?_;refine zwY ?_;refine zm (K11 hk) ?_;refine c_kName (x:=m.topic) (by have:=hm.topic;omega) ?_;refine zm (K11 hk) ?_;refine zja ?_;refine zm (K11 hk) ?_;refine zeJ (l:=[inE m.client 0 7,zlg m.topic,zeU m.offset]) (by simp) ?_;refine zG ?_;refine zu hl ?_;exact fin _ (by rw[e0])
 have hr:¬(1<=m.kind/\m.kind<=12):=by omega
 refine zm (K0 hr) ?_;refine zu hl ?_;refine fin1 _ ?_;have ho:zeT m.kind=false:=by simp[zeT];omega
 have e0:zac m=[100]:=by
  simp only[zac,zC,ho];rw[if_neg (by omega),if_neg (by omega),if_neg (by omega),if_neg (by omega),if_neg (by omega),if_neg (by omega),if_neg (by omega),if_neg (by omega),if_neg (by omega),if_neg (by omega),if_neg (by omega)];rfl
 rw[e0];rfl
theorem c_kOnlyG {m:zbC}(hk0:1<=m.kind/\m.kind<=12){K:KT}(hK:K (zgi (zfE m)) σ):zP zsZ [zgi m] σ K:=by
 refine zeA e_r10_only fun hl=>?_;simp only[zzk,iN,bT,bF,eN,zl3];have hks:m.kind=1∨m.kind=2∨m.kind=3∨m.kind=4∨m.kind=5∨m.kind=6∨m.kind=7∨m.kind=8∨m.kind=9∨m.kind=10∨m.kind=11∨m.kind=12:=by omega
 rcases hks with hk|hk|hk|hk|hk|hk|hk|hk|hk|hk|hk|hk
 ·refine zm (K1 hk) ?_;refine zu hl ?_;simp only[zfE,hk,reduceIte]at hK;rw[hk];exact hK
 ·refine zm (K2 hk) ?_;refine zu hl ?_;simp only[zfE,hk,reduceIte]at hK;rw[hk];exact hK
 ·refine zm (K3 hk) ?_;refine zu hl ?_;simp only[zfE,hk,reduceIte]at hK;rw[hk];exact hK
 ·refine zm (K4 hk) ?_;refine zu hl ?_;simp only[zfE,hk,reduceIte]at hK;rw[hk];exact hK
 ·refine zm (K5 hk) ?_;refine zu hl ?_;simp only[zfE,hk,reduceIte]at hK;rw[hk];exact hK
 ·refine zm (K6 hk) ?_;refine zu hl ?_;simp only[zfE,hk,reduceIte]at hK;rw[hk];exact hK
 ·refine zm (K7 hk) ?_;refine zu hl ?_;simp only[zfE,hk,reduceIte]at hK;rw[hk];exact hK
 ·refine zm (K8 hk) ?_;refine zu hl ?_;simp only[zfE,hk,reduceIte]at hK;rw[hk];exact hK
 ·refine zm (K9 hk) ?_;refine zu hl ?_;simp only[zfE,hk,reduceIte]at hK;rw[hk];exact hK
 ·refine zm (K10 hk) ?_;refine zu hl ?_;simp only[zfE,hk,reduceIte]at hK;rw[hk];exact hK
 ·refine zm (K11 hk) ?_;refine zu hl ?_;simp only[zfE,hk,reduceIte]at hK;rw[hk];exact hK
 ·refine zm (K12 hk) ?_;refine zu hl ?_;simp only[zfE,hk,reduceIte]at hK;rw[hk];exact hK
theorem kinds0 {m:zbC}(h:zax (zac m)=0):1<=m.kind/\m.kind<=12:=by
 by_cases hk:1<=m.kind/\m.kind<=12
 ·exact hk
 have:=fstE_mem h 100 (by
  have e:∀j:Int,1<=j->j<=12->m.kind≠j:=fun j h1 h2 h3=>hk (by omega);simp[zac,zC,e])
 cases this
theorem c_kCheckG {m:zbC}(hm:zaI m){K:KT}(hK:K (.d (.int .i64 (zbK m))) σ):zP zne [zgi m] σ K:=by
 refine zeA e_r10_Check fun hl=>?_;have fin:∀z,zbK m=z->K (.d (.int .i64 z)) σ:=fun z h=>h▸hK;clear hK;simp only[zxo,iN,bT,bF,eN];refine zG ?_;refine c_kPartsG (m:=m) hm ?_;cases h1:(zax (zac m) != 0);rotate_left
 ·refine zm h1 ?_;refine zu hl ?_;exact fin _ (by simp at h1;simp[zbK,h1])
 refine zm h1 ?_;refine c_kOnlyG (m:=m) (kinds0 (by simpa using h1)) ?_;refine zG ?_;refine c_kSame (a:=m) (b:=zfE m) hm (zzb hm) ?_;cases h2:decide (m=zfE m)
 ·refine zG ?_;refine zu hl ?_;exact fin _ (by simp at h1 h2;simp[zbK,h1,h2])
 ·refine zG ?_;refine zu hl ?_;exact fin _ (by simp at h1 h2;simp[zbK,h1,← h2])
variable {σ:List AObj}
abbrev zoq (p:zfl):List AV:=[.d (.str p.topic),.d (.int .i64 p.offset),.d (.slice (bcs p.rec_)),.d (.slice (zmw p.headers)),.d (.int .i64 p.index),.d (.int .i64 p.count),.d (.slice (zhZ p.path)),.d (.int .i64 p.cert.seq),.d (.int .i64 p.cert.dig),.d (.slice (zat p.cert.signs))]
theorem c_kPutProof {b:List UInt8}{p:zfl}(hb:b.length<=1000000)(hp:zrD p){K:KT}(hK:K (.d (.slice (bcs (b++ztW p)))) σ) :
  zP zmc [.d (.slice (bcs b)),znD p] σ K:=by
 refine zeq zxQ fun hl=>?_;have hhl:(zmw p.headers).length=p.headers.length:=List.length_map ..;have hpl:(zhZ p.path).length=p.path.length:=List.length_map ..;obtain⟨h1,h2,h3,h4,h5,h6,h7,h8,h9,h10⟩:=hp;have p1:=zdm (x:=p.topic) (by omega);have p2:=zdm (x:=p.rec_) (by omega);have n1:=zl (n:=p.offset.toNat) (by omega);have n2:=zl (n:=p.headers.length) (by omega);have n3:=zl (n:=p.index.toNat) (by omega);have n4:=zl (n:=p.count.toNat) (by omega);have n5:=zl (n:=p.path.length) (by omega);have q1:=zhN h10;simp only[zqB,iN,bT,bF,eN,znD];refine zG ?_;refine zhd (b:=b) (x:=p.topic) (by omega) (by omega) ?_;rw[show zbv p.topic.length++p.topic=zkr p.topic from rfl];refine zG ?_;refine zeV (l:=[p.offset]) (by simp only[List.length_append];omega) (by simp) (by simp;omega) ?_;refine zm hhl ?_;refine zhd (b:=b++(zkr p.topic++zS [p.offset])) (x:=p.rec_) (by omega) (by simp[zS];omega) ?_;rw[show zbv p.rec_.length++p.rec_=zkr p.rec_ from rfl];refine zm hhl ?_;refine zeV (b:=b++(zkr p.topic++(zS [p.offset]++zkr p.rec_))) (l:=[(p.headers.length:Int)]) (by simp[zS];omega) (by simp) (by simp;omega) ?_;rw[show zS [(p.headers.length:Int)]=zbv p.headers.length by simp[zS]];obtain⟨Q,hQ⟩:∃Q,b++(zkr p.topic++(zS [p.offset]++zkr p.rec_))++zbv p.headers.length=Q:=⟨_,rfl⟩;have hQl:Q.length<=1000400:=by rw[← hQ];simp[zS];omega
 rw[hQ];refine zm hhl ?_;refine zn p.headers.length (fun k vs s=>vs=[.d (.slice (bcs (Q++((p.headers.take k).map hdB).flatten))),.d (.int .i64 k)]/\∃T,s=σ++.box (zoq p)::T) ⟨by simp,_,rfl⟩ ?_;rintro k vs s hk ⟨rfl,T,rfl⟩;have hlenC:(((p.headers.take k).map hdB).flatten).length<=64*50:=by
  have:=zcz (f:=hdB) (n:=50) (l:=p.headers.take k) fun s hm=>hdB_len (h5 s (List.mem_of_mem_take hm));have hlk:(p.headers.take k).length<=64:=by rw[List.length_take];omega
  have:(p.headers.take k).length*50<=64*50:=Nat.mul_le_mul_right _ hlk;omega
 have hbx0:(σ++AObj.box (zoq p)::T)[σ.length]? = some (.box (zoq p)):=by rw[zB];rfl
 by_cases hlt:k<p.headers.length
 ·have hd:decide ((k:Int)<(p.headers.length:Int))=true:=by simp;omega
  have hx:p.headers[k]? = some p.headers[k]:=by simp[hlt]
  have hpx:=hdr_ok (h5 _ (List.getElem_mem hlt));have hgx:=zR (f:=zsb) hx;obtain⟨h,hh⟩:∃h,p.headers[k]=h:=⟨_,rfl⟩;rw[hh]at hx hgx hpx;have hbx:∀τ,(σ++AObj.box (zoq p)::T++τ)[σ.length]? = some (.box (zoq p)):=fun τ=>zi hbx0;have fin:∀τ,∃T',σ++AObj.box (zoq p)::T++τ=σ++AObj.box (zoq p)::T':=fun τ=>⟨T++τ,by simp⟩;obtain⟨S,hS⟩:∃S,σ++AObj.box (zoq p)::T=S:=⟨_,rfl⟩;rw[hS]at hbx hbx0 fin ⊢;refine zdB (zd hd (zd hgx (zd hhl (zd hbx hbx0)))) ?_;refine zeV (l:=[h.seq,h.prev,h.batch,h.root,h.state]) (by simp only[List.length_append];omega) (by simp) hpx ?_;refine zm (wkc k (by omega)) ?_;refine zaK.next hlt ⟨?_,fin _⟩;rw[zda hx,hdB,← List.append_assoc]
 have hd:decide ((k:Int)<(p.headers.length:Int))=false:=by simp;omega
 rw[show p.headers.take k=p.headers from List.take_of_length_le (by omega)]at hlenC ⊢;obtain⟨T1,hT1⟩:∃T1,AObj.box (zoq p)::T=T1:=⟨_,rfl⟩;rw[hT1]at hbx0 ⊢;refine zm (zd hd (zd hhl (zd hpl hbx0))) ?_;refine zeV (l:=[p.index,p.count,(p.path.length:Int)]) (by simp only[List.length_append];omega) (by simp) (by simp;omega) ?_;obtain⟨R,hR⟩:∃R,Q++(p.headers.map hdB).flatten++zS [p.index,p.count,(p.path.length:Int)]=R:=⟨_,rfl⟩;have hRl:R.length<=1004000:=by rw[← hR];simp[zS]at hlenC ⊢;omega
 rw[hR];refine zm hpl ?_;refine zn p.path.length (fun k vs s=>vs=[.d (.slice (bcs (R++zS (p.path.take k)))),.d (.int .i64 k)]/\∃T,s=σ++T/\T[0]? = some (.box (zoq p))) ⟨by simp[zS],T1,by first|rfl|simp,by rw[← hT1];rfl⟩ ?_;rintro k vs s hk1 ⟨rfl,T2,rfl,hx2⟩;have hbx2:(σ++T2)[σ.length]? = some (.box (zoq p)):=by rw[zB];exact hx2
 have hlenP:(zS (p.path.take k)).length<=80:=by
  have:=zce (l:=p.path.take k) fun s hm=>h9 s (List.mem_of_mem_take hm);have hlk:(p.path.take k).length<=8:=by rw[List.length_take];omega
  omega
 by_cases hlt:k<p.path.length
 ·have hd:decide ((k:Int)<(p.path.length:Int))=true:=by simp;omega
  have hx:p.path[k]? = some p.path[k]:=by simp[hlt]
  have hpx:=h9 _ (List.getElem_mem hlt);have hgx:=zR (f:=fun t=>[D.int .i64 t]) hx;obtain⟨h,hh⟩:∃h,p.path[k]=h:=⟨_,rfl⟩;rw[hh]at hx hgx hpx;refine zm (zd hd (zd hgx (zd hpl hbx2))) ?_;refine zeV (l:=[h]) (by simp only[List.length_append];omega) (by simp) (by simp;omega) ?_;refine zm (wkc k (by omega)) ?_;refine zaK.next hlt ⟨?_,T2,by first|rfl|simp,hx2⟩;rw[zpy hx,← List.append_assoc];simp[zS]
 have hd:decide ((k:Int)<(p.path.length:Int))=false:=by simp;omega
 rw[show p.path.take k=p.path from List.take_of_length_le (by omega)]at hlenP ⊢;refine zm (zd hd (zd hpl hbx2)) ?_;refine ztH (c:=p.cert) (by simp only[List.length_append];omega) h10 ?_;refine zG ?_;refine zu hl ?_;have fin:∀x,x=b++ztW p->K (dmT (zcm [.d (.slice (bcs x))])) σ:=by rintro _ rfl;exact hK
 exact fin _ (by rw[← hR,← hQ];simp[ztW,zS])
variable {σ:List AObj}
def sigK (k:Int):Bool:=decide (k=7∨zeT k=true)
theorem zsu {m:zbC}(h:zbK m=0){K:KT}(hK:K (.tup [.d (.slice (bcs (znW m))),.d (.bool (sigK m.kind))]) σ) :
  zP zkj [zgi m] σ K:=by
 have hkk:=kinds h;by_cases h7:m.kind=7
 ·obtain⟨c,hc,he⟩:=zwO h7 h;exact c_kBody7 h7 hc (ziY he).1 (by rw[unsG7 (.inl h7)];rw[h7]at hK;exact hK)
 by_cases h8:m.kind=8
 ·exact c_kBody8 h8 (check8 h8 h).1 (by rw[unsG7 (.inr h8)];rw[h8]at hK;exact hK)
 have hall:=(zgP h).1;have gi:∀n lo hi:Int,inE n lo hi∈zC m->lo<=n/\n<=hi:=fun n lo hi hm=>zkG (hall _ (by simp[zac,hm]));refine zeA ztw fun hl=>?_;have n0:=zl (n:=m.kind.toNat) (by omega);have hf:∀(b':List UInt8) (z:Bool),b'=znW m->sigK m.kind=z->K (dmT (zcm [.d (.slice (bcs b')),.d (.bool z)])) σ:=fun b' z e e'=>by subst e;subst e';exact hK
 clear hK;simp only[zpR,iN,bT,bF,eN];refine zG ?_;refine zeV (b:=[]) (l:=[m.kind]) (by simp) (by simp) (by simp;omega) ?_;have e0:[]++zS [m.kind]=zbv m.kind.toNat:=by simp[zS]
 rw[e0];have hu:znW m=zbv m.kind.toNat++zft m:=rfl;obtain⟨b1,hb1⟩:∃b1,zbv m.kind.toNat=b1:=⟨_,rfl⟩;rw[hb1]at hu n0 ⊢;by_cases hv:m.kind=2∨m.kind=3∨m.kind=4
 ·obtain⟨v1,v2,v3,v4⟩:=zzA h hv;have q:=zce (l:=[m.src,m.view,m.seq,m.dig]) (by simp;omega);simp only[List.length_cons,List.length_nil]at q;rcases hv with hk|hk|hk
  ·have hcb:zD m.batch=0:=hall _ (by simp[zac,zC,hk]);have hbb:zdM m.batch=zhl m.batch:=by simp[zdM,hcb]
   refine zm (K2 hk) ?_;refine zeV (b:=b1) (l:=[m.src,m.view,m.seq,m.dig]) (by omega) (by simp) (by simp;omega) ?_;refine zm (K2 hk) ?_;refine znv (b:=b1++zS [m.src,m.view,m.seq,m.dig]) (l:=m.batch) (by simp only[List.length_append];omega) (fun x hx=>Nat.le_trans ((zdL hcb).1 x hx) (by omega)) (by have:=(zkc hcb).1;omega) ?_;rw[hbb];refine zG ?_;refine zu hl ?_;exact hf _ _ (by rw[hu];simp[zft,hk]) (by rw[hk];rfl)
  ·refine zm (K3 hk) ?_;refine zeV (b:=b1) (l:=[m.src,m.view,m.seq,m.dig]) (by omega) (by simp) (by simp;omega) ?_;refine zG ?_;refine zu hl ?_;exact hf _ _ (by rw[hu];simp[zft,hk]) (by rw[hk];rfl)
  ·refine zm (K4 hk) ?_;refine zeV (b:=b1) (l:=[m.src,m.view,m.seq,m.dig]) (by omega) (by simp) (by simp;omega) ?_;refine zG ?_;refine zu hl ?_;exact hf _ _ (by rw[hu];simp[zft,hk]) (by rw[hk];rfl)
 by_cases hk:m.kind=1
 ·have hcb:zD m.batch=0:=hall _ (by simp[zac,zC,hk]);have hbb:zdM m.batch=zhl m.batch:=by simp[zdM,hcb]
  refine zm (K1 hk) ?_;refine znv (b:=b1) (l:=m.batch) (by omega) (fun x hx=>Nat.le_trans ((zdL hcb).1 x hx) (by omega)) (by have:=(zkc hcb).1;omega) ?_;rw[hbb];refine zG ?_;refine zu hl ?_;exact hf _ _ (by rw[hu];simp[zft,hk]) (by rw[hk];rfl)
 by_cases hk:m.kind=5
 ·obtain⟨h1,h2,h3,h4,h5,h6,_⟩:=zyP hk h;have q:=zce (l:=[m.src,m.view,m.client,m.time]) (by simp;omega);simp only[List.length_cons,List.length_nil]at q;refine zm (K5 hk) ?_;refine zeV (b:=b1) (l:=[m.src,m.view,m.client,m.time]) (by omega) (by simp) (by simp;omega) ?_;refine zm (K5 hk) ?_;refine c_rPutResult (e:=m.rerr) (o:=m.roff) (b:=b1++zS [m.src,m.view,m.client,m.time]) (by rw[List.length_append];omega) (by omega) (by omega) ?_;refine zG ?_;refine zu hl ?_;exact hf _ _ (by rw[hu];simp[zft,hk,res_eq h5.1 h6.1]) (by rw[hk];rfl)
 by_cases hk:m.kind=6
 ·have g1:=gi m.src 0 12 (by simp[zC,hk,zjF]);have g2:=gi m.seq 1 9007199254740992 (by simp[zC,hk,zks]);have g3:=gi m.dig 1 9007199254740992 (by simp[zC,hk,zks]);refine zm (K6 hk) ?_;refine zeV (b:=b1) (l:=[m.src,m.seq,m.dig]) (by omega) (by simp) (by simp;omega) ?_;refine zG ?_;refine zu hl ?_;exact hf _ _ (by rw[hu];simp[zft,hk]) (by rw[hk];rfl)
 by_cases hk:m.kind=9
 ·have g1:=gi m.src 0 12 (by simp[zC,hk,zjF]);have g2:=gi m.seq 0 9007199254740992 (by simp[zC,hk,zeU]);refine zm (K9 hk) ?_;refine zeV (b:=b1) (l:=[m.src,m.seq]) (by omega) (by simp) (by simp;omega) ?_;refine zG ?_;refine zu hl ?_;exact hf _ _ (by rw[hu];simp[zft,hk]) (by rw[hk];rfl)
 by_cases hk:m.kind=10
 ·have g1:=gi m.src 0 12 (by simp[zC,hk,zjF]);have g2:∀e∈zbx m.cert,e=0:=fun e he=>hall e (by simp[zac,zC,hk,he]);have g3:=gi m.state.length 0 262144 (by simp[zC,hk]);have q:=zce (l:=[m.src]) (by simp;omega);have q2:=zhN g2;simp only[List.length_cons,List.length_nil]at q;refine zm (K10 hk) ?_;refine zeV (b:=b1) (l:=[m.src]) (by omega) (by simp) (by simp;omega) ?_;refine zG ?_;refine ztH (b:=b1++zS [m.src]) (c:=m.cert) (by rw[List.length_append];omega) g2 ?_;refine zG ?_;refine zhd (b:=b1++(zS [m.src]++zrx m.cert)) (x:=m.state) (by omega) (by simp only[List.length_append];omega) ?_;rw[show zbv m.state.length++m.state=zkr m.state from rfl];refine zG ?_;refine zu hl ?_;exact hf _ _ (by rw[hu];simp[zft,hk]) (by rw[hk];rfl)
 by_cases hk:m.kind=11
 ·have g1:=gi m.client 0 7 (by simp[zC,hk]);have g2:=gi m.offset 0 9007199254740992 (by simp[zC,hk,zeU]);have g3:m.topic.length<=64:=by
   refine zyt ?_;have:=hall (zlg m.topic) (by simp[zac,zC,hk]);unfold zlg at this;split at this
   ·assumption
   ·cases this
  have q:=zce (l:=[m.client]) (by simp;omega);have p1:=zdm (x:=m.topic) (by omega);simp only[List.length_cons,List.length_nil]at q;refine zm (K11 hk) ?_;refine zeV (b:=b1) (l:=[m.client]) (by omega) (by simp) (by simp;omega) ?_;refine zG ?_;refine zhd (b:=b1++zS [m.client]) (x:=m.topic) (by omega) (by rw[List.length_append];omega) ?_;rw[show zbv m.topic.length++m.topic=zkr m.topic from rfl];refine zG ?_;refine zeV (b:=b1++(zS [m.client]++zkr m.topic)) (l:=[m.offset]) (by simp only[List.length_append];omega) (by simp) (by simp;omega) ?_;refine zG ?_;refine zu hl ?_;exact hf _ _ (by rw[hu];simp[zft,hk]) (by rw[hk];rfl)
 have hk:m.kind=12:=by omega
 have g1:=gi m.src 0 12 (by simp[zC,hk,zjF]);have g2:zrD m.proof:=zzP fun e he=>hall e (by simp[zac,zC,hk,he]);have q:=zce (l:=[m.src]) (by simp;omega);simp only[List.length_cons,List.length_nil]at q;refine zm (K12 hk) ?_;refine zeV (b:=b1) (l:=[m.src]) (by omega) (by simp) (by simp;omega) ?_;refine zG ?_;refine c_kPutProof (b:=b1++zS [m.src]) (p:=m.proof) (by rw[List.length_append];omega) g2 ?_;refine zG ?_;refine zu hl ?_;exact hf _ _ (by rw[hu];simp[zft,hk]) (by rw[hk];rfl)
theorem zst {m:zbC}(hm:zaI m){K:KT}(hK:∀b:List UInt8,K (.tup [.d (.slice (bcs b)),.d (.int .i64 (zfW m))]) σ) :
  zP zqX [zgi m] σ K:=by
 refine zeA e_r10_Bytes fun hl=>?_;have fin:∀b z,zfW m=z->K (.tup [.d (.slice (bcs b)),.d (.int .i64 z)]) σ:=fun b z h=>h▸hK b;clear hK;simp only[zxp,iN,bT,bF,eN];refine zG ?_;refine c_kCheckG (m:=m) hm ?_;cases h1:(zbK m != 0);rotate_left
 ·refine zm h1 ?_;refine zu hl ?_;exact fin [] _ (by simp at h1;simp[zfW,h1])
 have h1':zbK m=0:=by simpa using h1
 have hul:=unsG_len hm.state h1';have fin2:∀u,ztm m=u->∀b,K (.tup [.d (.slice (bcs b)),.d (.int .i64 (if u.length>262144 then 3 else 0))]) σ:=fun u hu b=>fin b _ (by simp[zfW,h1',hu]);refine zm h1 ?_;refine zsu (m:=m) h1' ?_;by_cases h7:m.kind=7
 ·obtain⟨c,hc,he⟩:=zwO h7 h1';have hgx:(zap m.changes)[0]? = some (zag c):=by rw[hc];rfl
  have hgl:(zap m.changes).length=1:=by rw[hc];rfl
  have hsb:zcv c.key c.dig=zgu c.key c.dig:=by simp[zcv,(ziY he).2]
  refine zdB (zd (K7 h7) (zd hgx hgl)) ?_;refine ziC (b:=znW m) (by omega) ?_;rw[hsb];refine zG ?_;obtain⟨u,hu⟩:∃u,znW m++zgu c.key c.dig=u:=⟨_,rfl⟩;rw[hu];refine zAA (b:=u) ?_;refine zG ?_;refine zu hl ?_;exact fin2 u (by rw[← hu];simp[ztm,ownS,h7,hc]) _
 have h7':(m.kind==7)=false:=by simpa using h7
 by_cases ho:zeT m.kind=true
 ·have hs:=own_ok h1' ho;have hsb:zcv m.key m.sdig=zgu m.key m.sdig:=by simp[zcv,hs]
  have hsk:sigK m.kind=true:=by simp[sigK,ho]
  refine zm (zd h7' hsk) ?_;refine ziC (b:=znW m) (by omega) ?_;rw[hsb];refine zG ?_;obtain⟨u,hu⟩:∃u,znW m++zgu m.key m.sdig=u:=⟨_,rfl⟩;rw[hu];refine zAA (b:=u) ?_;refine zG ?_;refine zu hl ?_;exact fin2 u (by rw[← hu];simp[ztm,ownS,h7,ho]) _
 ·have hsk:sigK m.kind=false:=by simp[sigK,h7,ho]
  refine zm (zd h7' hsk) ?_;refine zAA (b:=znW m) ?_;refine zG ?_;refine zu hl ?_;exact fin2 (znW m) (by simp[ztm,h7,ho]) _
variable {σ:List AObj}
theorem c_kUnsignedG {m:zbC}(hm:zaI m){K:KT}
  (hK:K (.tup [.d (.slice (bcs (if zfW (zbr m)=0 then znW (zbr m)else []))),.d (.int .i64 (zfW (zbr m)))]) σ):zP zmd [zgi m] σ K:=by
 refine zeA zxR fun hl=>?_;have hs:=zyh hm;have hgl:(zap m.changes).length=m.changes.length:=List.length_map ..;have fin:∀b z,(if zfW (zbr m)=0 then znW (zbr m)else [])=b->zfW (zbr m)=z->K (.tup [.d (.slice (bcs b)),.d (.int .i64 z)]) σ:=fun b z h h'=>h▸h'▸hK;clear hK;obtain⟨M,hM⟩:∃M,zbr m=M:=⟨_,rfl⟩;rw[hM]at fin hs;simp only[zqC,iN,bT,bF,eN,zl6];by_cases h7:m.kind=7
 ·by_cases h1:m.changes.length=1
  ·obtain⟨c,hc⟩:=List.length_eq_one_iff.1 h1;have hgx:(zap m.changes)[0]? = some (zag c):=by rw[hc];rfl
   rw[some7 h7 hc]at hM;refine zdB (zd (K7 h7) (zd hgx (zd hgl h1))) ?_;subst hM;refine zst (m:=uns7 m c) hs fun b0=>?_;cases hb:(zfW (uns7 m c) != 0)
   ·have hb':zfW (uns7 m c)=0:=by simpa using hb
    refine zm hb ?_;refine zsu (m:=uns7 m c) (zjE hb').1 ?_;refine zG ?_;refine zu hl ?_;exact fin _ _ (by rw[if_pos hb']) hb'
   ·have hb':zfW (uns7 m c)≠0:=by simpa using hb
    refine zm hb ?_;refine zu hl ?_;exact fin [] _ (by rw[if_neg hb']) rfl
  ·have hb1:(((m.changes.length:Nat):Int)==1)=false:=by simp;omega
   have e:zbr m=m:=by
    unfold zbr;rw[if_pos h7];split
    ·rename_i c hc;simp[hc]at h1
    ·rfl
   rw[e]at hM;refine zm (zd (K7 h7) (zd hgl hb1)) ?_;refine zwW ?_;refine zm (show zeT m.kind=false by rw[h7];rfl) ?_;subst hM;refine zst (m:=m) hs fun b0=>?_;cases hb:(zfW (m) != 0)
   ·have hb':zfW (m)=0:=by simpa using hb
    refine zm hb ?_;refine zsu (m:=m) (zjE hb').1 ?_;refine zG ?_;refine zu hl ?_;exact fin _ _ (by rw[if_pos hb']) hb'
   ·have hb':zfW (m)≠0:=by simpa using hb
    refine zm hb ?_;refine zu hl ?_;exact fin [] _ (by rw[if_neg hb']) rfl
 by_cases ho:zeT m.kind=true
 ·have e:zbr m=zvC m:=by simp[zbr,h7,ho]
  rw[e]at hM;refine zm (show(m.kind==7)=false by simpa using h7) ?_;refine zwW ?_;refine zm ho ?_;subst hM;refine zst (m:=zvC m) hs fun b0=>?_;cases hb:(zfW (zvC m) != 0)
  ·have hb':zfW (zvC m)=0:=by simpa using hb
   refine zm hb ?_;refine zsu (m:=zvC m) (zjE hb').1 ?_;refine zG ?_;refine zu hl ?_;exact fin _ _ (by rw[if_pos hb']) hb'
  ·have hb':zfW (zvC m)≠0:=by simpa using hb
   refine zm hb ?_;refine zu hl ?_;exact fin [] _ (by rw[if_neg hb']) rfl
 ·have ho':zeT m.kind=false:=by simpa using ho
  have e:zbr m=m:=by simp[zbr,h7,ho]
  rw[e]at hM;refine zm (show(m.kind==7)=false by simpa using h7) ?_;refine zwW ?_;refine zm ho' ?_;subst hM;refine zst (m:=m) hs fun b0=>?_;cases hb:(zfW (m) != 0)
  ·have hb':zfW (m)=0:=by simpa using hb
   refine zm hb ?_;refine zsu (m:=m) (zjE hb').1 ?_;refine zG ?_;refine zu hl ?_;exact fin _ _ (by rw[if_pos hb']) hb'
  ·have hb':zfW (m)≠0:=by simpa using hb
   refine zm hb ?_;refine zu hl ?_;exact fin [] _ (by rw[if_neg hb']) rfl
theorem zul {m:zbC}(hm:zaI m){K:KT}
  (hK:K (.tup [zqe m,.d (.int .i64 (zfW (zbr m)))]) σ):zP zjU [zgi m] σ K:=by
 refine zlJ zqq.is rfl fun hl _=>zqq.goes ?_;simp only[zqw];refine zG ?_;refine c_kUnsignedG (m:=m) hm ?_;by_cases h1:zfW (zbr m)=0;rotate_left
 ·have h1':(zfW (zbr m) != 0)=true:=by simp[h1]
  refine zm h1' ?_;refine zu hl ?_;rw[zqe,if_neg (fun h=>h1 h.1)]at hK;exact hK
 have h1':(zfW (zbr m) != 0)=false:=by simp[h1]
 have hkk:=kinds (zjE h1).1;rw[zrN]at hkk;obtain⟨y1,y2,y3⟩:=zzX h1;have hlen:=(zjE h1).2;rw[if_pos h1];have hn:nilK m.kind=true->K (.tup [.nils,.d (.int .i64 0)]) σ:=fun hk=>by
  rw[zqe,if_neg (fun h=>by rw[hk]at h;cases h.2),h1]at hK;exact hK
 have hs:nilK m.kind=false->∀b,zdj m=b->K (.tup [.d (.slice (bcs b)),.d (.int .i64 0)]) σ:=fun hk b hb=>by
  rw[zqe,if_pos ⟨h1,hk⟩,h1,hb]at hK;exact hK
 clear hK;have ulen:(znW (zbr m)).length<=262144:=by rw[ztm,List.length_append]at hlen;omega
 by_cases hk:m.kind=2
 ·refine zm (zd h1' (K2 hk)) ?_;refine zhP (a:=m.kind) (b:=m.view) (c:=m.seq) (d:=m.dig) (y1 (by omega)) ?_;refine zG ?_;refine zu hl ?_;exact hs (by rw[hk];rfl) _ (by simp[zdj,hk])
 by_cases hk:m.kind=3
 ·refine zm (zd h1' (K3 hk)) ?_;refine zhP (a:=m.kind) (b:=m.view) (c:=m.seq) (d:=m.dig) (y1 (by omega)) ?_;refine zG ?_;refine zu hl ?_;exact hs (by rw[hk];rfl) _ (by simp[zdj,hk])
 by_cases hk:m.kind=4
 ·refine zm (zd h1' (K4 hk)) ?_;refine zhP (a:=m.kind) (b:=m.view) (c:=m.seq) (d:=m.dig) (y1 (by omega)) ?_;refine zG ?_;refine zu hl ?_;exact hs (by rw[hk];rfl) _ (by simp[zdj,hk])
 by_cases hk:m.kind=6
 ·refine zm (zd h1' (K6 hk)) ?_;refine zhP (a:=m.kind) (b:=0) (c:=m.seq) (d:=m.dig) (y2 hk) ?_;refine zG ?_;refine zu hl ?_;exact hs (by rw[hk];rfl) _ (by simp[zdj,hk])
 by_cases hk:m.kind=9
 ·refine zm (zd h1' (K9 hk)) ?_;refine zhP (a:=m.kind) (b:=0) (c:=m.seq) (d:=0) (y3 hk) ?_;refine zG ?_;refine zu hl ?_;exact hs (by rw[hk];rfl) _ (by simp[zdj,hk])
 by_cases hk:m.kind=5
 ·have hc:=zsS hk h1;have a1:=hc.view;have a2:=hc.client;have a3:=hc.time;have a4:=hc.rerr;have a5:=hc.roff;simp only[zvC]at a1 a2 a3 a4 a5;have n1:=zl (n:=m.view.toNat) (by omega);have n2:=zl (n:=m.client.toNat) (by omega);have n3:=zl (n:=m.time.toNat) (by omega);have n4:=zl (n:=m.rerr.toNat) (by omega);refine zm (zd h1' (K5 hk)) ?_;refine znu (b:=[5]) (x:=m.view) (by simp) (by omega) (by omega) ?_;obtain⟨B,hB⟩:∃B,([5]:List UInt8)++zbv m.view.toNat=B:=⟨_,rfl⟩;have hBl:B.length<=11:=by rw[← hB];simp;omega
  rw[hB];refine zG ?_;refine znu (b:=B) (x:=m.client) (by omega) (by omega) (by omega) ?_;refine zG ?_;refine znu (x:=m.time) (by first|omega|(simp;omega)) (by omega) (by omega) ?_;refine zG ?_;refine znu (x:=m.rerr) (by first|omega|(simp;omega)) (by omega) (by omega) ?_;refine zG ?_;refine znu (x:=m.roff) (by first|omega|(simp;omega)) (by omega) (by omega) ?_;refine zG ?_;refine zu hl ?_;exact hs (by rw[hk];rfl) _ (by rw[← hB];simp[zdj,hk,replyB,zS])
 by_cases hk:m.kind=7
 ·refine zm (zd h1' (K7 hk)) ?_;refine⟨bcs1 _,by simp,by omega,?_⟩;refine zu hl ?_;exact hs (by rw[hk];rfl) (6::znW (zbr m)) (by simp[zdj,hk])
 by_cases hk:m.kind=8
 ·refine zm (zd h1' (K8 hk)) ?_;refine⟨bcs1 _,by simp,by omega,?_⟩;refine zu hl ?_;exact hs (by rw[hk];rfl) (6::znW (zbr m)) (by simp[zdj,hk])
 by_cases hk:m.kind=1
 ·refine zm (zd h1' (K1 hk)) ?_;refine zu hl ?_;exact hn (by rw[hk];rfl)
 by_cases hk:m.kind=10
 ·refine zm (zd h1' (K10 hk)) ?_;refine zu hl ?_;exact hn (by rw[hk];rfl)
 by_cases hk:m.kind=11
 ·refine zm (zd h1' (K11 hk)) ?_;refine zu hl ?_;exact hn (by rw[hk];rfl)
 have hk:m.kind=12:=by omega
 refine zm (zd h1' (K12 hk)) ?_;refine zu hl ?_;exact hn (by rw[hk];rfl)
variable {σ:List AObj}
theorem c_mgCloneF {m:zbC}(hm:zaI m){K:KT}(hK:K (zgi m) σ):zP zfP [zgi m] σ K:=by
 refine zsA zgV.is rfl 2 fun hl _=>zgV.goes (mgWalk hm fun g g2 A B _ _=>?_);have hcl:(zap m.changes).length=m.changes.length:=List.length_map ..;have hel:(zbo m.entries).length=m.entries.length:=List.length_map ..;have h8:=changes_eight m.changes;have h5:=entries_five m.entries;obtain⟨R,hR⟩:∃R,zcF (zap m.changes)=R:=⟨_,rfl⟩;obtain⟨Q,hQ⟩:∃R,zcF (zbo m.entries)=R:=⟨_,rfl⟩;rw[hR,hQ];have hr1:frz (σ++[A,B,.row g 8 R,.row g2 5 Q]) σ.length 2 (.rsl (σ.length+2) g 8 0 m.changes.length)=some (.slice (zap m.changes)):=by
  rw[← hcl,← hR];exact ztn (m:=0) (by rw[zA];rfl) (by omega) h8
 have hr2:frz (σ++[A,B,.row g 8 R,.row g2 5 Q]) σ.length 2 (.rsl (σ.length+3) g2 5 0 m.entries.length)=some (.slice (zbo m.entries)):=by
  rw[← hel,← hQ];exact ztn (m:=0) (by rw[zA];rfl) (by omega) h5
 refine zsh (r:=zgi m) ?_ hl hK;simp only[zcm,frzT,frz1,List.map_cons,List.map_nil,frz_d,hr1,hr2,allO]
theorem c_mgCloneM {m:zbC}(hm:zaI m){K:KT}
  (hK:∀g g2 A B,K (.agg (msgL2 m (.rsl (σ.length+2) g 8 0 m.changes.length) (.rsl (σ.length+3) g2 5 0 m.entries.length))) (σ++[A,B,.row g 8 (zcF (zap m.changes)),.row g2 5 (zcF (zbo m.entries))])) :
  zP zfP [zgi m] σ K:=by
 refine zbN zgV.is rfl (fun s=>List.range' σ.length (s.length-σ.length)) fun hl _=>zgV.goes (mgWalk hm fun g g2 A B hA hB=>?_);refine zdq (σ':=σ) (os:=[A,B,.row g 8 (zcF (zap m.changes)),.row g2 5 (zcF (zbo m.entries))]) rfl (by simp) hl ?_ ?_ (hK g g2 A B)
 ·intro x hx;simp only[List.mem_cons,List.not_mem_nil,or_false]at hx;rcases hx with rfl|rfl|rfl|rfl
  ·exact hA
  ·exact hB
  ·exact zmv _ _
  ·exact zmv _ _
 ·simp only[zcm];refine .agg _ fun c hc=>?_;simp only[List.mem_cons,List.not_mem_nil,or_false]at hc;rcases hc with rfl|rfl|rfl|rfl|rfl|rfl|rfl|rfl|rfl|rfl|rfl|rfl|rfl|rfl|rfl|rfl|rfl|rfl|rfl|rfl|rfl|rfl|rfl|rfl|rfl|rfl|rfl|rfl|rfl|rfl<;>first|exact .d _|exact .rsl _ _ _ _ _ (by simp)
def zjR (m:zbC) (s:zI):zbC:=if m.kind=7 then(match m.changes with|c::_=>{ m with changes:=[{ c with key:=s.key,dig:=s.dig }] }|[]=>m)else withS m s
theorem c_auWithG {m:zbC}{s:zI}(hm:zaI m)(h1:m.kind=7->m.changes.length=1){K:KT}(hK:K (zgi (zjR m s)) σ):zP zkC [zgi m,.agg [.d (.int .i64 s.key),.d (.int .i64 s.dig)]] σ K:=by
 by_cases hk:m.kind=7;rotate_left
 ·rw[zjR,if_neg hk]at hK;have h7:(m.kind==7)=false:=by simpa using hk
  refine zeq e_auth_with fun hl=>?_;simp only[zxx,iN,bT,bF,eN,zl3];refine zG ?_;refine c_mgCloneF (m:=m) hm ?_;refine zm h7 ?_;refine zu hl ?_;exact hK
 obtain⟨c,hc⟩:=List.length_eq_one_iff.1 (h1 hk);have hw:zjR m s={ m with changes:=[{ c with key:=s.key,dig:=s.dig }] }:=by rw[zjR,if_pos hk,hc]
 rw[hw]at hK;clear hw;refine zsA zuh.is rfl 2 fun hl _=>zuh.goes ?_;have hel:(zbo m.entries).length=m.entries.length:=List.length_map ..;have h5:=entries_five m.entries;have hl1:m.changes.length=1:=h1 hk;have hR:zcF (zap m.changes)=(zag c).map .d:=by rw[hc];simp[zcF,zap]
 simp only[zun,iN,bT,bF,eN,zl3];refine zG ?_;refine c_mgCloneM (m:=m) hm fun g g2 A B=>?_;obtain⟨Q,hQ⟩:∃R,zcF (zbo m.entries)=R:=⟨_,rfl⟩;rw[hR,hQ,hl1];refine zdB (K7 hk) ?_;obtain⟨c',hc'⟩:∃c':zbj,{ c with key:=s.key,dig:=s.dig }=c':=⟨_,rfl⟩;have hR':zcF [zag c']=[AV.d (.int .i64 c.view),.d (.int .i64 c.src),.d (.int .i64 c.cert.seq),.d (.int .i64 c.cert.dig),.d (.slice (zat c.cert.signs)),.d (.slice (zfw c.above)),.d (.int .i64 s.key),.d (.int .i64 s.dig)]:=by rw[← hc'];rfl
 rw[hc']at hK;rw[← hR',← hel,← hQ];have hr1:∀X Y Z:AObj,frz (σ++[X,Y,Z,A,B,.row g 8 (zcF [zag c']),.row g2 5 (zcF (zbo m.entries))]) σ.length 2 (.rsl (σ.length+5) g 8 0 1)=some (.slice [zag c']):=fun X Y Z=>
  ztn (m:=0) (es:=[zag c']) (by rw[zA];rfl) (by omega) (by simp[zag])
 have hr2:∀X Y Z:AObj,frz (σ++[X,Y,Z,A,B,.row g 8 (zcF [zag c']),.row g2 5 (zcF (zbo m.entries))]) σ.length 2 (.rsl (σ.length+6) g2 5 0 (zbo m.entries).length)=some (.slice (zbo m.entries)):=fun X Y Z=>
  ztn (m:=0) (by rw[zA];rfl) (by omega) h5
 refine zsh (r:=zgi { m with changes:=[c'] }) ?_ hl hK;simp only[zcm,frzT,frz1,List.map_cons,List.map_nil,frz_d,hr1,hr2,allO];rfl
theorem gq39 {A P Q:Prop}(a:A)(h:Q)(e:A->Hd Q->P:=by intro a h;(repeat' first|simp -dsimp only[↓zlH,↓zbS,↓zee,↓zlI,↓zlz,↓zlx,↓zlA,↓zly,↓zej,↓zef,↓zek,↓zeg,↓zlB,↓zeb,↓zel,↓zeh,↓zem,↓zei,↓zlw,↓zlF,↓zea,↓zep,↓zlo,↓zln,↓zlu,iN,bT,bF,eN,↓zes,↓unC,↓zaC,↓zai,↓zaj,↓zav,↓zaX,↓zah,↓zgB,↓zaw,↓zbf,↓zad,↓ze,↓zj,↓zaR,↓zc,↓zaV,↓zN,↓zbT,↓zcl,↓zf,↓zF,↓zp,↓zM,↓zaB,↓zgI,↓zhI,↓zbc,↓zby,↓zcf,↓zcA,↓zdp,↓zJ,↓zbb,↓zak,↓zO,↓zaU,zhr,zdV,zdD,unA,zgy,bnd,ziT,zaO,zL,zid,dm,dm1,zH,zaF,zjX,zjW,keepO,Q0,Q1,Q2,Q3,Q4,Q5,zba,zA,zB,zY,zab,Q6,Q7,Q8,Q9,Q10,Q11,Q12,Q13,Q14,Nat.reduceAdd,Q15,Int.reduceToNat,Q16,Q17,Q18,Q19,Q20,reduceIte,Q21,Q22,zy,rep,zaq,zhX,toD,zaD,Q23,Q24,Q25,Q26,Q27,Q28,Nat.reduceLeDiff,Q29,Nat.reduceSub,Q30,Q31,Q32,sc,Q33,Q34,Q35,Q36,Q37,Q26,Q38,Q39,zuH,zuE,zuB,zuI,zjw,zuF,zuC,zuG,zuD,zjv,zjx,zuK,zuL,Bool.not_true,Bool.not_false,List.length_map,Bool.and_false,Bool.and_self,Bool.false_and,Bool.not_false,Bool.not_true,Bool.true_and,Int.toNat_natCast,Int.toNat_zero,List.drop_zero,List.length_map,List.length_nil,List.nil_append,List.take_length,Nat.sub_zero,Nat.zero_add,Option.isSome_none,Option.isSome_some,Option.map_none,Option.map_some,zhS,zam,beq_self_eq_true,bft,bne,bne_self_eq_false,btf,bytesE,zck,zhO,zag,zdh,zuM,zsb,zch,zou,opA,opD,zfC,zgt,zis,zay,zid,a]|with_reducible refine zuZ ?_|fail);exact h.go):P:=e a ⟨h⟩
theorem c_raWithG {m:zbC}{s:zI}(h1:m.kind=7->m.changes.length=1){K:KT}(hK:K (zgi (zjR m s)) σ):zP zpA [zgi m,.agg [.d (.int .i64 s.key),.d (.int .i64 s.dig)]] σ K:=by
 by_cases hk:m.kind=7;rotate_left
 ·rw[zjR,if_neg hk]at hK;have h7:(m.kind==7)=false:=by simpa using hk
  refine zeq e_r11_with fun hl=>?_;simp only[ztN,iN,bT,bF,eN,zl3];refine zAa h7 ?_;refine zu hl ?_;exact hK
 obtain⟨c,hc⟩:=List.length_eq_one_iff.1 (h1 hk);have hw:zjR m s={ m with changes:=[{ c with key:=s.key,dig:=s.dig }] }:=by rw[zjR,if_pos hk,hc]
 rw[hw]at hK;clear hw;refine zsA zwr.is rfl 2 fun hl _=>zwr.goes ?_;obtain⟨c',hc'⟩:∃c':zbj,{ c with key:=s.key,dig:=s.dig }=c':=⟨_,rfl⟩;have hR':zcF [zag c']=[AV.d (.int .i64 c.view),.d (.int .i64 c.src),.d (.int .i64 c.cert.seq),.d (.int .i64 c.cert.dig),.d (.slice (zat c.cert.signs)),.d (.slice (zfw c.above)),.d (.int .i64 s.key),.d (.int .i64 s.dig)]:=by rw[← hc'];rfl
 rw[hc']at hK;have hce:zap m.changes=[zag c]:=by rw[hc];rfl
 simp only[ztN,iN,bT,bF,eN,zl3,zxg,zl3];refine gq39 (zd (K7 hk) hce) ?_;refine zn 1 (fun k vs S=>vs=[.d (.int .i64 k)]/\S=σ++[.box (msgL2 m (.rsl (σ.length+3) 0 8 0 1) (.d (.slice (zbo m.entries)))),.box [.d (.int .i64 s.key),.d (.int .i64 s.dig)],.box zero30,.row 0 8 (zcF [zag (if k=0 then c else c')])]) ⟨rfl,rfl⟩ ?_;rintro k vs S hk1 ⟨rfl,rfl⟩;match k,hk1 with
 | 0,_=>
  have hR:zcF [zag (if 0=0 then c else c')]=[AV.d (.int .i64 c.view),.d (.int .i64 c.src),.d (.int .i64 c.cert.seq),.d (.int .i64 c.cert.dig),.d (.slice (zat c.cert.signs)),.d (.slice (zfw c.above)),.d (.int .i64 c.key),.d (.int .i64 c.dig)]:=rfl
  rw[hR]
  refine zm (zd (show decide (((0:Nat):Int)<1)=true from rfl) (zd (show decide (((0:Nat):Int)<((1:Nat):Int))=true from rfl) (show decide ((0:Int)<1)=true from rfl))) ?_
  refine zaK.next (by omega) ⟨rfl,?_⟩
  rw[if_neg (by omega),hR']
 | 1,_=>
  rw[if_neg (by omega)]
  refine zm (zd (show decide (((1:Nat):Int)<1)=false from rfl) (zd (show decide (((1:Nat):Int)<((1:Nat):Int))=false from rfl) (show decide ((1:Int)<1)=false from rfl))) ?_
  have hr1:∀X Y Z:AObj,frz (σ++[X,Y,Z,.row 0 8 (zcF [zag c'])]) σ.length 2 (.rsl (σ.length+3) 0 8 0 1)=some (.slice [zag c']):=fun X Y Z=>
   ztn (m:=0) (es:=[zag c']) (by rw[zA];rfl) (by omega) (by simp[zag])
  refine zsh (r:=zgi { m with changes:=[c'] }) ?_ hl hK
  simp only[zcm,frzT,frz1,List.map_cons,List.map_nil,frz_d,hr1,allO]
  rfl
variable {σ:List AObj}
def zgk (L:List (List UInt8)) (G:List zI) (m:zbC):Bool:=decide (zbK m=0)&&(decide (zfW (zbr m)=0)&&(nilK m.kind || zir L G (ownS m) m.src (zdj m)))
def zeD (L:List (List UInt8)) (G:List zI) (m:zbC):zyc:=
 if zfW (zbr m)≠0 then⟨zeu,zfW (zbr m),L,G⟩
 else if nilK m.kind=true then⟨zjR m ⟨0,0⟩,0,L,G⟩
 else if zxE L m.src (zdj m)≠0 then⟨zeu,zxE L m.src (zdj m),zga L (zdj m),zqi L G m.src (zdj m)⟩
 else⟨zjR m (sgnS L m.src (zdj m)),0,zga L (zdj m),zqi L G m.src (zdj m)⟩
theorem zzE {m:zbC}(h:zfW (zbr m)=0)(hk:m.kind=7):m.changes.length=1:=by
 obtain⟨c,hc,_⟩:=zwO (m:=zbr m) (by rw[zrN];exact hk) (zjE h).1;unfold zbr at hc;rw[if_pos hk]at hc;split at hc
 ·rename_i c' h';rw[h'];rfl
 ·rw[hc];rfl
theorem check_one {m:zbC}(h:zbK m=0)(hk:m.kind=7):m.changes.length=1:=by
 obtain⟨c,hc,_⟩:=zwO hk h;rw[hc];rfl
theorem zwM {m:zbC}(h:zfW (zbr m)=0):(zdj m).length<=1073741824:=by
 have hlen:=(zjE h).2;rw[ztm,List.length_append]at hlen;obtain⟨y1,y2,y3⟩:=zzX h;have vl:∀a b c d:Int,mayV a b c d=true->(zvB a b c d).length<=1073741824:=fun a b c d hm=>by
  simp only[mayV,Bool.and_eq_true,zvW]at hm;have:=zce (l:=[a,b,c,d]) (by simp;omega);simp only[zvB,List.length_cons,List.length_nil]at this ⊢;omega
 unfold zdj;split
 ·exact vl _ _ _ _ (y1 (by assumption))
 ·split
  ·exact vl _ _ _ _ (y2 (by assumption))
  ·split
   ·exact vl _ _ _ _ (y3 (by assumption))
   ·split
    ·rename_i hk;have hc:=zsS hk h;have a1:=hc.view;have a2:=hc.client;have a3:=hc.time;have a4:=hc.rerr;have a5:=hc.roff;simp only[zvC]at a1 a2 a3 a4 a5;have:=zot (l:=[m.view,m.client,m.time,m.rerr,m.roff]) (by simp;omega);simp only[replyB,List.length_cons,List.length_nil]at this ⊢;omega
    ·simp only[List.length_cons];omega
theorem zpK (m:zbC):∃x u,zdj m=x::u:=by
 unfold zdj;split
 ·exact⟨_,_,rfl⟩
 ·split
  ·exact⟨_,_,rfl⟩
  ·split
   ·exact⟨_,_,rfl⟩
   ·split<;>exact⟨_,_,rfl⟩
theorem own7 {m:zbC}{c:zbj}(hk:m.kind=7)(hc:m.changes=[c]):ownS m=⟨c.key,c.dig⟩:=by rw[ownS,if_pos hk,hc]
theorem ownN {m:zbC}(hk:m.kind≠7):ownS m=⟨m.key,m.sdig⟩:=by rw[ownS,if_neg hk]
theorem c_auOwnG {m:zbC}(h1:m.kind=7->m.changes.length=1){K:KT}(hK:K (.agg [.d (.int .i64 (ownS m).key),.d (.int .i64 (ownS m).dig)]) σ):zP ztf [zgi m] σ K:=by
 refine zeA e_auth_own fun hl=>?_;simp only[zzz,iN,bT,bF,eN];by_cases hk:m.kind=7
 ·obtain⟨c,hc⟩:=List.length_eq_one_iff.1 (h1 hk);have hgx:(zap m.changes)[0]? = some (zag c):=by rw[hc];rfl
  have hgl:(zap m.changes).length=1:=by rw[hc];rfl
  rw[own7 hk hc]at hK;refine zdB (zd (K7 hk) (zd hgx hgl)) ?_;refine zu hl ?_;exact hK
 ·rw[ownN hk]at hK;refine zm (show(m.kind==7)=false by simpa using hk) ?_;refine zu hl ?_;exact hK
theorem c_raOfG {m:zbC}(h1:m.kind=7->m.changes.length=1){K:KT}(hK:K (.agg [.d (.int .i64 (ownS m).key),.d (.int .i64 (ownS m).dig)]) σ):zP zzU [zgi m] σ K:=by
 refine zeA e_r11_of fun hl=>?_;simp only[S_r11_of,iN,bT,bF,eN];by_cases hk:m.kind=7
 ·obtain⟨c,hc⟩:=List.length_eq_one_iff.1 (h1 hk);have hgx:(zap m.changes)[0]? = some (zag c):=by rw[hc];rfl
  have hgl:(zap m.changes).length=1:=by rw[hc];rfl
  rw[own7 hk hc]at hK;refine zdB (zd (K7 hk) (zd hgx (zd hgl (show decide (((1:Nat):Int)>0)=true from rfl)))) ?_;refine zu hl ?_;exact hK
 ·rw[ownN hk]at hK;refine zm (show(m.kind==7)=false by simpa using hk) ?_;refine zu hl ?_;exact hK
theorem zyW {id m t id2 m2 t2:Nat}{L:List (List UInt8)}{G:List zI}{M:zbC}(hT:zgQ σ id m t L)(hG:zfm σ id2 m2 t2 G)(hL:zmI L)(hg:G.length<=1073741824)(hm:zaI M){K:KT}
  (hK:K (.d (.bool (zgk L G M))) σ):zP zhg [.box id 0,.box id2 0,zgi M] σ K:=by
 refine acE3 e_auth_Valid fun hl=>?_;have fin:∀z,zgk L G M=z->K (.d (.bool z)) σ:=fun z h=>h▸hK;clear hK;have hT1:=fun τ=>hT.app τ;have hG1:=fun τ=>hG.app τ;simp only[zuw,iN,bT,bF,eN];refine zG ?_;refine c_auMade (hT1 _) (hG1 _) hL hg ?_;refine zG ?_;refine c_mCheckG (m:=M) hm ?_;cases h1:(zbK M != 0);rotate_left
 ·refine zm h1 ?_;refine zu hl ?_;exact fin _ (by simp at h1;simp[zgk,h1])
 have h1':zbK M=0:=by simpa using h1
 refine zm h1 ?_;refine zum (m:=M) hm ?_;cases h2:(zfW (zbr M)==0)
 ·refine zm h2 ?_;refine zu hl ?_;exact fin _ (by simp at h2;simp[zgk,h2])
 have h2':zfW (zbr M)=0:=by simpa using h2
 cases h3:nilK M.kind;rotate_left
 ·rw[zqe,if_neg (fun h=>by rw[h3]at h;cases h.2)];refine zm h2 ?_;refine zu hl ?_;exact fin _ (by simp[zgk,h1',h2',h3])
 rw[zqe,if_pos ⟨h2',h3⟩];obtain⟨x,u,hxu⟩:=zpK M;obtain⟨C,hC⟩:∃C,zdj M=C:=⟨_,rfl⟩;rw[hC]at hxu ⊢;have hbc:bcs C=zci x::bcs u:=by rw[hxu];rfl
 rw[hbc];refine zm h2 ?_;refine c_auOwnG (m:=M) (check_one h1') ?_;refine zG ?_;rw[← hbc];refine c_auSigned (s:=ownS M) (key:=M.src) (b:=C) (hT1 _) (hG1 _) ?_;refine zG ?_;refine zu hl ?_;refine fin _ ?_;simp[zgk,h1',h2',h3,hC]
theorem c_raValidG {id id2:Nat}{L:List (List UInt8)}{G:List zI}{M:zbC}(hT:σ[id]? = some (rtO L))(hG:σ[id2]? = some (rlO G))(hL:L.length<=1048576)(hg:G.length<=1073741824)(hm:zaI M){K:KT}
  (hK:K (.d (.bool (zgk L G M))) σ):zP zqV [.box id 0,.box id2 0,zgi M] σ K:=by
 refine acE3 e_r11_Valid fun hl=>?_;have fin:∀z,zgk L G M=z->K (.d (.bool z)) σ:=fun z h=>h▸hK;clear hK;have hT1:=fun τ=>zi (τ:=τ) hT;have hG1:=fun τ=>zi (τ:=τ) hG;simp only[zxk,iN,bT,bF,eN];refine zG ?_;refine zul (m:=M) hm ?_;cases h2:(zfW (zbr M) != 0);rotate_left
 ·refine zm h2 ?_;refine zu hl ?_;exact fin _ (by simp at h2;simp[zgk,h2])
 have h2':zfW (zbr M)=0:=by simpa using h2
 refine zm h2 ?_;refine c_kCheckG (m:=M) hm ?_;cases h1:(zbK M != 0);rotate_left
 ·refine zm h1 ?_;refine zu hl ?_;exact fin _ (by simp at h1;simp[zgk,h1])
 have h1':zbK M=0:=by simpa using h1
 cases h3:nilK M.kind;rotate_left
 ·rw[zqe,if_neg (fun h=>by rw[h3]at h;cases h.2)];refine zm h1 ?_;refine zu hl ?_;exact fin _ (by simp[zgk,h1',h2',h3])
 rw[zqe,if_pos ⟨h2',h3⟩];obtain⟨x,u,hxu⟩:=zpK M;obtain⟨C,hC⟩:∃C,zdj M=C:=⟨_,rfl⟩;rw[hC]at hxu ⊢;have hbc:bcs C=zci x::bcs u:=by rw[hxu];rfl
 rw[hbc];refine zm h1 ?_;refine c_raOfG (m:=M) (check_one h1') ?_;refine zG ?_;rw[← hbc];refine c_raSigned (s:=ownS M) (key:=M.src) (b:=C) (hT1 _) (hG1 _) hL hg ?_;refine zG ?_;refine zu hl ?_;refine fin _ ?_;simp[zgk,h1',h2',h3,hC]
theorem c_auSealG {i:TGi}{L:List (List UInt8)}{G:List zI}{m:zbC}(h:TG i σ L G)(hL:zmI L)(hg:G.length<=1073741824)(hm:zaI m){K:KT}
  (hK:K (.tup [zgi (zeD L G m).m,.d (.int .i64 (zeD L G m).e)]) (zho i σ (zeD L G m).L (zeD L G m).G)):zP zkD [.box i.id 0,.box i.id2 0,zgi m] σ K:=by
 refine acE3 e_auth_Seal fun hl=>?_;simp only[zxA,iN,bT,bF,eN,zl3];refine zG ?_;refine c_auMade (h.tab.app _) (h.led.app _) hL hg ?_;refine zG ?_;refine zum (m:=m) hm ?_;by_cases h1:zfW (zbr m)=0;rotate_left
 ·have h1':(zfW (zbr m) != 0)=true:=by simpa using h1
  have e:zeD L G m=⟨zeu,zfW (zbr m),L,G⟩:=if_pos h1;rw[e]at hK;simp only[h.self,zgi,zzT]at hK;refine zm h1' ?_;refine zu hl ?_;exact hK
 have h1':(zfW (zbr m) != 0)=false:=by simpa using h1
 cases h3:nilK m.kind;rotate_left
 ·have e:zeD L G m=⟨zjR m ⟨0,0⟩,0,L,G⟩:=by rw[zeD,if_neg (by simpa using h1),if_pos h3]
  rw[e]at hK;simp only[h.self]at hK;rw[zqe,if_neg (fun h=>by rw[h3]at h;cases h.2)];refine zm h1' ?_;refine c_auWithG (m:=m) (s:=⟨0,0⟩) hm (zzE h1) ?_;refine zG ?_;refine zu hl ?_;exact hK
 rw[zqe,if_pos ⟨h1,h3⟩];have hbl:=zwM h1;have e:zeD L G m=if zxE L m.src (zdj m)≠0 then⟨zeu,zxE L m.src (zdj m),zga L (zdj m),zqi L G m.src (zdj m)⟩
   else⟨zjR m (sgnS L m.src (zdj m)),0,zga L (zdj m),zqi L G m.src (zdj m)⟩:=by rw[zeD,if_neg (by simpa using h1),if_neg (by rw[h3];simp)]
 obtain⟨x,u,hxu⟩:=zpK m;obtain⟨C,hC⟩:∃C,zdj m=C:=⟨_,rfl⟩;rw[hC]at hxu hbl e ⊢;rw[e]at hK;have hbc:bcs C=zci x::bcs u:=by rw[hxu];rfl
 rw[hbc];refine zm h1' ?_;rw[← hbc];refine c_auSign (h.app _) hL hbl hg ?_;rw[h.put_app];have h2:=h.put (zga L C) (zqi L G m.src C);have hl2:=h.lows hl (zga L C) (zqi L G m.src C);have hs2:=zkq i σ (zga L C) (zqi L G m.src C);have hpp:(if zxE L m.src C≠0 then(⟨zeu,zxE L m.src C,zga L C,zqi L G m.src C⟩:zyc)else⟨zjR m (sgnS L m.src C),0,zga L C,zqi L G m.src C⟩).L=zga L C:=by split<;>rfl
 have hpg:(if zxE L m.src C≠0 then(⟨zeu,zxE L m.src C,zga L C,zqi L G m.src C⟩:zyc)else⟨zjR m (sgnS L m.src C),0,zga L C,zqi L G m.src C⟩).G=zqi L G m.src C:=by split<;>rfl
 rw[hpp,hpg]at hK;clear hpp hpg e;obtain⟨S2,hS2⟩:∃S,zho i σ (zga L C) (zqi L G m.src C)=S:=⟨_,rfl⟩;rw[hS2]at hK hs2 hl2 h2 ⊢;have r2:σ.length=S2.length:=hs2.symm;rw[r2]at hl2;obtain⟨sg,hsg⟩:∃s,sgnS L m.src C=s:=⟨_,rfl⟩;obtain⟨N,hN⟩:∃s,zxE L m.src C=s:=⟨_,rfl⟩;rw[hsg,hN]at hK;rw[hsg,hN];simp only[zuy];by_cases hn:N=0
 ·have hq2:(N != 0)=false:=by simpa using hn
  rw[if_neg (by simpa using hn)]at hK;refine zm (zd hq2 r2) ?_;refine c_auWithG (m:=m) (s:=sg) hm (zzE h1) ?_;refine zm r2 ?_;refine zfc rfl ?_ hl2 hK;simp[zhe,dmT,dm,dm1,zcm,zbu,zfv]
 ·have hq2:(N != 0)=true:=by simpa using hn
  rw[if_pos hn]at hK;simp only[zgi,zzT]at hK;refine zm (zd hq2 r2) ?_;refine zfc rfl ?_ hl2 hK;simp[zhe,dmT,dm,dm1,zcm,zbu,zfv]
theorem c_raSealG {id id2:Nat}{L:List (List UInt8)}{G:List zI}{m:zbC}(hT:σ[id]? = some (rtO L))(hG:σ[id2]? = some (rlO G))(hne:id≠id2)(hL:L.length<=1048576)(hg:G.length<=1073741824)(hm:zaI m){K:KT}
  (hK:K (.tup [zgi (zeD L G m).m,.d (.int .i64 (zeD L G m).e)]) ((σ.set id (rtO (zeD L G m).L)).set id2 (rlO (zeD L G m).G))):zP zpB [.box id 0,.box id2 0,zgi m] σ K:=by
 refine acE3 e_r11_Seal fun hl=>?_;simp only[zzj,iN,bT,bF,eN,zl3];refine zG ?_;refine zul (m:=m) hm ?_;by_cases h1:zfW (zbr m)=0;rotate_left
 ·have h1':(zfW (zbr m) != 0)=true:=by simpa using h1
  have e:zeD L G m=⟨zeu,zfW (zbr m),L,G⟩:=if_pos h1;rw[e]at hK;simp only[zbR hT,zbR hG,zgi,zzT]at hK;refine zm h1' ?_;refine zu hl ?_;exact hK
 have h1':(zfW (zbr m) != 0)=false:=by simpa using h1
 cases h3:nilK m.kind;rotate_left
 ·have e:zeD L G m=⟨zjR m ⟨0,0⟩,0,L,G⟩:=by rw[zeD,if_neg (by simpa using h1),if_pos h3]
  rw[e]at hK;simp only[zbR hT,zbR hG]at hK;rw[zqe,if_neg (fun h=>by rw[h3]at h;cases h.2)];have hw:zjR m ⟨0,0⟩=withS m ⟨0,0⟩:=by rw[zjR,if_neg (fun hk=>by rw[hk]at h3;cases h3)]
  rw[hw]at hK;refine zm h1' ?_;refine zu hl ?_;exact hK
 rw[zqe,if_pos ⟨h1,h3⟩];have hbl:=zwM h1;have e:zeD L G m=if zxE L m.src (zdj m)≠0 then⟨zeu,zxE L m.src (zdj m),zga L (zdj m),zqi L G m.src (zdj m)⟩
   else⟨zjR m (sgnS L m.src (zdj m)),0,zga L (zdj m),zqi L G m.src (zdj m)⟩:=by rw[zeD,if_neg (by simpa using h1),if_neg (by rw[h3];simp)]
 obtain⟨x,u,hxu⟩:=zpK m;obtain⟨C,hC⟩:∃C,zdj m=C:=⟨_,rfl⟩;rw[hC]at hxu hbl e ⊢;rw[e]at hK;have hbc:bcs C=zci x::bcs u:=by rw[hxu];rfl
 rw[hbc];refine zm h1' ?_;rw[← hbc];refine c_raSign (zi hT) (zi hG) hne hbl hL hg ?_;rw[zdl hT,zdl (by rw[List.getElem?_set_ne hne];exact hG)];have hl2:zhp σ.length ((σ.set id (rtO (zga L C))).set id2 (rlO (zqi L G m.src C))):=(hl.setO (rtO_low _ _)).setO (rlO_low _ _);have hs2:((σ.set id (rtO (zga L C))).set id2 (rlO (zqi L G m.src C))).length=σ.length:=by simp
 have hpp:(if zxE L m.src C≠0 then(⟨zeu,zxE L m.src C,zga L C,zqi L G m.src C⟩:zyc)else⟨zjR m (sgnS L m.src C),0,zga L C,zqi L G m.src C⟩).L=zga L C:=by split<;>rfl
 have hpg:(if zxE L m.src C≠0 then(⟨zeu,zxE L m.src C,zga L C,zqi L G m.src C⟩:zyc)else⟨zjR m (sgnS L m.src C),0,zga L C,zqi L G m.src C⟩).G=zqi L G m.src C:=by split<;>rfl
 rw[hpp,hpg]at hK;clear hpp hpg e;obtain⟨S2,hS2⟩:∃S,(σ.set id (rtO (zga L C))).set id2 (rlO (zqi L G m.src C))=S:=⟨_,rfl⟩;rw[hS2]at hK hs2 hl2 ⊢;have r2:σ.length=S2.length:=hs2.symm;rw[r2]at hl2;obtain⟨sg,hsg⟩:∃s,sgnS L m.src C=s:=⟨_,rfl⟩;obtain⟨N,hN⟩:∃s,zxE L m.src C=s:=⟨_,rfl⟩;rw[hsg,hN]at hK;rw[hsg,hN];simp only[zuy];by_cases hn:N=0
 ·have hq2:(N != 0)=false:=by simpa using hn
  rw[if_neg (by simpa using hn)]at hK;refine zm (zd hq2 r2) ?_;refine c_raWithG (m:=m) (s:=sg) (zzE h1) ?_;refine zm r2 ?_;refine zfc rfl ?_ hl2 hK;simp[zhe,dmT,dm,dm1,zcm,zbu,zfv]
 ·have hq2:(N != 0)=true:=by simpa using hn
  rw[if_pos hn]at hK;simp only[zgi,zzT]at hK;refine zm (zd hq2 r2) ?_;refine zfc rfl ?_ hl2 hK;simp[zhe,dmT,dm,dm1,zcm,zbu,zfv]
end Go.Proofs.YtdgcepphjnoalaaGreat
