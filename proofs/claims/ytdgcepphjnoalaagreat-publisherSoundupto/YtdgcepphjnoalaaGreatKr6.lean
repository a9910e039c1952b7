/- Contracts: which view-changes and new views are signed, the document's. -/
import Derived.Test.YtdgcepphjnoalaaGreatPp1
import Derived.Test.YtdgcepphjnoalaaGreatId3
import Derived.Test.YtdgcepphjnoalaaGreatSpTab
import Derived.Test.YtdgcepphjnoalaaGreatRd1
import Derived.Test.YtdgcepphjnoalaaGreatOpC
set_option linter.all false
set_option maxRecDepth 100000
namespace Go.Proofs.YtdgcepphjnoalaaGreat
open Go.AW
abbrev withS (m:zbj) (s:zK):zbj:={ m with key:=s.key,sdig:=s.dig }
theorem zAb:msgL zeq=[.d (.int .i64 0),.d (.int .i64 0),.d (.int .i64 0),.d (.int .i64 0),.d (.int .i64 0),.d (.int .i64 0),.d (.int .i64 0),.d (.int .i64 0),.d (.int .i64 0),.d (.slice []),.d (.int .i64 0),.d (.int .i64 0),.d (.slice []),.d (.slice []),.d (.slice []),.d (.slice []),.d (.str []),.d (.int .i64 0),.d (.str []),.d (.int .i64 0),.d (.slice []),.d (.slice []),.d (.int .i64 0),.d (.int .i64 0),.d (.slice []),.d (.int .i64 0),.d (.int .i64 0),.d (.slice []),.d (.int .i64 0),.d (.int .i64 0)]:=rfl
variable {σ:List AObj}
def zqi (m:zbj):AV:=if zfA (zbo m)=0/\nilK m.kind=false then .d (.slice (bcs (zcF m)))else .nils
theorem zzQ {m:zbj}(h7:m.kind≠7):zbo m=if zeO m.kind=true then zvl m else m:=by rw[zbo,if_neg h7]
theorem zrQ (m:zbj):(zbo m).kind=m.kind:=by
 unfold zbo;split
 ·split<;>rfl
 ·split<;>rfl
theorem zAf {m:zbj}(h:zfA (zbo m)=0):(m.kind=2∨m.kind=3∨m.kind=4->mayV m.kind m.view m.seq m.dig=true)/\(m.kind=6->mayV m.kind 0 m.seq m.dig=true)/\(m.kind=9->mayV m.kind 0 m.seq 0=true):=by
 have hc:=(zjy h).1;have hall:=(zgN hc).1;refine⟨fun hk=>?_,fun hk=>?_,fun hk=>?_⟩
 ·have ho:zeO m.kind=true:=by simp only[zeO,decide_eq_true_eq];omega
  have e:zbo m=zvl m:=by rw[zzQ (by omega),if_pos ho]
  obtain⟨v1,v2,v3,v4⟩:=zzL hc (by rw[zrQ];exact hk);rw[e]at v1 v2 v3 v4;simp only[mayV,zvZ,Bool.and_eq_true,decide_eq_true_eq];simp only at v2 v3 v4;omega
 ·have e:zbo m=zvl m:=by rw[zzQ (by omega),if_pos (by rw[hk];rfl)]
  rw[e]at hall;have g2:=zkB (hall (zkl m.seq) (by simp[zab,zC,hk]));have g3:=zkB (hall (zkl m.dig) (by simp[zab,zC,hk]));simp only[mayV,zvZ,Bool.and_eq_true,decide_eq_true_eq];omega
 ·have e:zbo m=zvl m:=by rw[zzQ (by omega),if_pos (by rw[hk];rfl)]
  rw[e]at hall;have g2:=zkB (hall (zeP m.seq) (by simp[zab,zC,hk]));simp only[mayV,zvZ,Bool.and_eq_true,decide_eq_true_eq];omega
theorem zpz {m:zbj}(hk:m.kind=5)(h:zfA (zbo m)=0):ReplyOk (zvl m):=by
 have e:zbo m=zvl m:=by rw[zzQ (by omega),if_pos (by rw[hk];rfl)]
 have:=(zjy h).1;rw[e]at this;exact zur (m:=zvl m) hk this
theorem zuu {m:zbj}(hm:zaK m){K:KT}
  (hK:K (.tup [zqi m,.d (.int .i64 (zfA (zbo m)))]) σ):zP ziH [zgd m] σ K:=by
 refine zlE zoI.is rfl fun hl _=>zoI.goes ?_;simp only[zoW];refine zG ?_;refine c_mUnsignedG (m:=m) hm ?_;by_cases h1:zfA (zbo m)=0;rotate_left
 ·have h1':(zfA (zbo m) != 0)=true:=by simp[h1]
  refine zm h1' ?_;refine zu hl ?_;rw[zqi,if_neg (fun h=>h1 h.1)]at hK;exact hK
 have h1':(zfA (zbo m) != 0)=false:=by simp[h1]
 have hkk:=kinds (zjy h1).1;rw[zrQ]at hkk;obtain⟨y1,y2,y3⟩:=zAf h1;have hlen:=(zjy h1).2;rw[if_pos h1];have hn:nilK m.kind=true->K (.tup [.nils,.d (.int .i64 0)]) σ:=fun hk=>by
  rw[zqi,if_neg (fun h=>by rw[hk]at h;cases h.2),h1]at hK;exact hK
 have hs:nilK m.kind=false->∀b,zcF m=b->K (.tup [.d (.slice (bcs b)),.d (.int .i64 0)]) σ:=fun hk b hb=>by
  rw[zqi,if_pos ⟨h1,hk⟩,h1,hb]at hK;exact hK
 clear hK;have ulen:(znW (zbo m)).length<=262144:=by rw[ztu,List.length_append]at hlen;omega
 by_cases hk:m.kind=2
 ·refine zm (zd h1' (K2 hk)) ?_;refine zhO (a:=m.kind) (b:=m.view) (c:=m.seq) (d:=m.dig) (y1 (by omega)) ?_;refine zG ?_;refine zu hl ?_;exact hs (by rw[hk];rfl) _ (by simp[zcF,hk])
 by_cases hk:m.kind=3
 ·refine zm (zd h1' (K3 hk)) ?_;refine zhO (a:=m.kind) (b:=m.view) (c:=m.seq) (d:=m.dig) (y1 (by omega)) ?_;refine zG ?_;refine zu hl ?_;exact hs (by rw[hk];rfl) _ (by simp[zcF,hk])
 by_cases hk:m.kind=4
 ·refine zm (zd h1' (K4 hk)) ?_;refine zhO (a:=m.kind) (b:=m.view) (c:=m.seq) (d:=m.dig) (y1 (by omega)) ?_;refine zG ?_;refine zu hl ?_;exact hs (by rw[hk];rfl) _ (by simp[zcF,hk])
 by_cases hk:m.kind=6
 ·refine zm (zd h1' (K6 hk)) ?_;refine zhO (a:=m.kind) (b:=0) (c:=m.seq) (d:=m.dig) (y2 hk) ?_;refine zG ?_;refine zu hl ?_;exact hs (by rw[hk];rfl) _ (by simp[zcF,hk])
 by_cases hk:m.kind=9
 ·refine zm (zd h1' (K9 hk)) ?_;refine zhO (a:=m.kind) (b:=0) (c:=m.seq) (d:=0) (y3 hk) ?_;refine zG ?_;refine zu hl ?_;exact hs (by rw[hk];rfl) _ (by simp[zcF,hk])
 by_cases hk:m.kind=5
 ·have hc:=zpz hk h1;refine zm (zd h1' (K5 hk)) ?_;refine c_auPut (b:=[5]) (l:=[m.view,m.client,m.time,m.rerr,m.roff]) (by simp) (by simp) ?_ ?_
  ·have a1:=hc.view;have a2:=hc.client;have a3:=hc.time;have a4:=hc.rerr;have a5:=hc.roff;simp only[zvl]at a1 a2 a3 a4 a5;simp;omega
  refine zG ?_;refine zu hl ?_;exact hs (by rw[hk];rfl) (zoo m) (by simp[zcF,hk])
 by_cases hk:m.kind=7
 ·refine zm (zd h1' (K7 hk)) ?_;refine⟨bcs1 _,by simp,by omega,?_⟩;refine zu hl ?_;exact hs (by rw[hk];rfl) (6::znW (zbo m)) (by simp[zcF,hk])
 by_cases hk:m.kind=8
 ·refine zm (zd h1' (K8 hk)) ?_;refine⟨bcs1 _,by simp,by omega,?_⟩;refine zu hl ?_;exact hs (by rw[hk];rfl) (6::znW (zbo m)) (by simp[zcF,hk])
 by_cases hk:m.kind=1
 ·refine zm (zd h1' (K1 hk)) ?_;refine zu hl ?_;exact hn (by rw[hk];rfl)
 by_cases hk:m.kind=10
 ·refine zm (zd h1' (K10 hk)) ?_;refine zu hl ?_;exact hn (by rw[hk];rfl)
 by_cases hk:m.kind=11
 ·refine zm (zd h1' (K11 hk)) ?_;refine zu hl ?_;exact hn (by rw[hk];rfl)
 have hk:m.kind=12:=by omega
 refine zm (zd h1' (K12 hk)) ?_;refine zu hl ?_;exact hn (by rw[hk];rfl)
variable {σ:List AObj}
theorem mgWalk {m:zbj}(hm:zaK m){Z:ZT}
  (hZ:∀g g2 A B,ztV (σ.length+4) A->ztV (σ.length+4) B->Z (some [.agg (msgL2 m (.rsl (σ.length+2) g 8 0 m.changes.length) (.rsl (σ.length+3) g2 5 0 m.entries.length))]) (σ++[A,B,.row g 8 (zcE (zap m.changes)),.row g2 5 (zcE (zbq m.entries))])) :
  zju Tryz.prog (zgd m) σ Z:=by
 have hcl:(zap m.changes).length=m.changes.length:=List.length_map ..;have hel:(zbq m.entries).length=m.entries.length:=List.length_map ..;have h8:=changes_eight m.changes;have h5:=entries_five m.entries;have hal:=hm.changes;have hbl:=hm.entries;simp only[zju,iN,bT,bF,eN,zl3];refine zG ?_;refine zmG (b:=m.batch) hm.batchS ?_;refine zG ?_;refine znw (c:=m.cert) hm.signs ?_;refine zG ?_;refine c_clByt ziy (by rw[zam];exact hm.state) ?_;refine zG ?_;refine c_clChangeM h8 (by omega) fun g=>?_;refine zm hcl ?_;refine c_clEntryM h5 (by omega) fun g2=>?_;refine zm (zd hcl hel) ?_;obtain⟨R,hR⟩:∃R,zcE (zap m.changes)=R:=⟨_,rfl⟩;obtain⟨Q,hQ⟩:∃R,zcE (zbq m.entries)=R:=⟨_,rfl⟩;have hRl:R.length=m.changes.length*8:=by rw[← hR,zoG h8,hcl]
 have hQl:Q.length=m.entries.length*5:=by rw[← hQ,zoG h5,hel]
 rw[hR,hQ];refine zn m.changes.length (fun k vs s=>vs=[.d (.int .i64 k)]/\s=σ++[AObj.box (msgL2 m (.rsl (σ.length+2) g 8 0 m.changes.length) (.rsl (σ.length+3) g2 5 0 m.entries.length)),.box zero30,.row g 8 R,.row g2 5 Q]) ⟨rfl,rfl⟩ ?_;rintro k vs s hk ⟨rfl,rfl⟩;by_cases hlt:k<m.changes.length
 ·have hd:decide ((k:Int)<(m.changes.length:Int))=true:=by simp;omega
  have hx:m.changes[k]? = some m.changes[k]:=by simp[hlt]
  have hgx:=zQ (f:=zag) hx;have hsm:=(hm.change _ (List.getElem_mem hlt)).2;obtain⟨c,hc⟩:∃c,m.changes[k]=c:=⟨_,rfl⟩;rw[hc]at hx hgx hsm;have g8:=zwp h8 hgx;have s8:=row_same8 h8 hgx;rw[hR]at g8 s8;have zz8:k*8+8<=R.length:=by omega
  have zk:0<=(k:Int):=by omega
  refine zdO (zd hd (zd zk (zd zz8 g8))) ?_;refine zwX (c:=c) hsm ?_;refine zm (zd hd (zd zk (zd zz8 (wki k (by omega))))) ?_;simp only[zag,List.map_cons,List.map_nil,List.cons_append,List.nil_append]at s8;exact zaF.next hlt ⟨rfl,by rw[s8]⟩
 ·have hd:decide ((k:Int)<(m.changes.length:Int))=false:=by simp;omega
  refine zm hd ?_;refine zn m.entries.length (fun k vs s=>vs=[.d (.int .i64 k)]/\s=σ++[AObj.box (msgL2 m (.rsl (σ.length+2) g 8 0 m.changes.length) (.rsl (σ.length+3) g2 5 0 m.entries.length)),.box zero30,.row g 8 R,.row g2 5 Q]) ⟨rfl,rfl⟩ ?_;rintro k vs s hk ⟨rfl,rfl⟩;by_cases hlt:k<m.entries.length
  ·have hd:decide ((k:Int)<(m.entries.length:Int))=true:=by simp;omega
   have hx:m.entries[k]? = some m.entries[k]:=by simp[hlt]
   have hgx:=zQ (f:=zdd) hx;have hsm:=(hm.entry _ (List.getElem_mem hlt)).2;obtain⟨x,hxe⟩:∃c,m.entries[k]=c:=⟨_,rfl⟩;rw[hxe]at hx hgx hsm;have g2':=ztw h5 hgx (i:=2) (by omega);have s2:=zzW g2';simp only[zdd,List.getElem?_cons_succ,List.getElem?_cons_zero,Option.map_some]at g2' s2;rw[hQ]at g2' s2;have zz2:k*5+2+1<=Q.length:=by omega
   have zk:0<=(k:Int):=by omega
   refine zlr (zd hd (zd zk (zd zz2 g2'))) ?_;refine zmG (b:=x.batch) hsm ?_;refine zlr (zd hd (zd zk (zd zz2 (zd s2 (wki k (by omega)))))) ?_;exact zaF.next hlt ⟨rfl,rfl⟩
  ·have hd:decide ((k:Int)<(m.entries.length:Int))=false:=by simp;omega
   have hp:=hm.proof;have hh5:∀e∈zmv m.proof.headers,e.length=5:=zjj (f:=zsi) (fun _=>rfl) _;have hh1:∀e∈zgH m.proof.path,e.length=1:=zjj (f:=fun x=>[D.int .i64 x]) (fun _=>rfl) _;refine zlr hd ?_;refine c_clByt ziy (by rw[zam];have:=hp.rec_;omega) ?_;refine zG ?_;refine c_clHdr hh5 (by rw[List.length_map];exact hp.headers) ?_;refine zG ?_;refine c_clDig hh1 (by rw[List.length_map];exact hp.path) ?_;refine zG ?_;refine znw (c:=m.proof.cert) hp.signs ?_;refine zG ?_;have z0:=hZ g g2;rw[hR,hQ]at z0;refine z0 _ _ ?_ ?_
   ·intro c hc;simp only[List.mem_cons,List.not_mem_nil,or_false]at hc;rcases hc with rfl|rfl|rfl|rfl|rfl|rfl|rfl|rfl|rfl|rfl|rfl|rfl|rfl|rfl|rfl|rfl|rfl|rfl|rfl|rfl|rfl|rfl|rfl|rfl|rfl|rfl|rfl|rfl|rfl|rfl<;>first|exact .d _|exact .rsl _ _ _ _ _ (by omega)
   ·intro c hc;simp only[List.mem_cons,List.not_mem_nil,or_false]at hc;rcases hc with rfl|rfl|rfl|rfl|rfl|rfl|rfl|rfl|rfl|rfl|rfl|rfl|rfl|rfl|rfl|rfl|rfl|rfl|rfl|rfl|rfl|rfl|rfl|rfl|rfl|rfl|rfl|rfl|rfl|rfl<;>first|exact .d _|exact .rsl _ _ _ _ _ (by omega)
variable {σ:List AObj}
theorem c_kParts12 {m:zbj}(hm:zaK m)(hk:m.kind=12){K:KT}(hK:K (.d (.int .i64 (zax (zab m)))) σ):zP zin [zgd m] σ K:=by
 refine zey znp fun hl=>?_;have e0:zax (zab m)=zax [zjz m.src,zmh m.proof]:=by
  have e1:∀(x:Int) (l:List Int),zax (x::l)=zax [x,zax l]:=fun x l=>by
   simp only[zax];split
   ·rfl
   ·split<;>simp_all
  rw[show zab m=zjz m.src::zcS m.proof by simp[zab,zC,hk,show zeO 12=false from rfl],e1,zmh]
 rw[e0]at hK;simp only[zkM,iN,bT,bF,eN];refine zG ?_;refine zbH ?_;refine zm (kk12 hk) ?_;refine ziX ?_;refine zm (kk12 hk) ?_;refine c_kProof (p:=m.proof) hm.proof ?_;refine zG ?_;refine zeE (l:=[zjz m.src,zmh m.proof]) (by simp) ?_;refine zG ?_;refine zu hl ?_;exact hK
variable {σ:List AObj}
theorem c_kVote {m:zbj}{e:Int}{K:KT}(hK:K (.d (.int .i64 (zax (zep m++[e,zx m.key m.sdig])))) σ):zP zhy [zgd m,.d (.int .i64 e)] σ K:=by
 refine zen zwB fun hl=>?_;simp only[zpf,iN,bT,bF,eN];refine zG ?_;refine ziX ?_;refine zG ?_;refine ziW ?_;refine zG ?_;refine zqx ?_;refine zG ?_;refine zqx ?_;refine zG ?_;refine zbH ?_;refine zG ?_;refine zeE (l:=zep m++[e,zx m.key m.sdig]) (by simp[zep]) ?_;refine zG ?_;refine zu hl ?_;exact hK
theorem c_kPartsG {m:zbj}(hm:zaK m){K:KT}(hK:K (.d (.int .i64 (zax (zab m)))) σ):zP zin [zgd m] σ K:=by
 by_cases h7:m.kind=7
 ·exact c_kParts7 hm h7 hK
 by_cases h8:m.kind=8
 ·exact c_kParts8 hm h8 hK
 by_cases h12:m.kind=12
 ·exact c_kParts12 hm h12 hK
 refine zey znp fun hl=>?_;have hbl:(zbA m.batch).length=m.batch.length:=List.length_map ..;have fin:∀l:List Int,zax (zab m)=zax l->K (.d (.int .i64 (zax l))) σ:=fun z h=>h▸hK;have fin1:∀x:Int,zax (zab m)=x->K (.d (.int .i64 x)) σ:=fun z h=>h▸hK;clear hK;simp only[zkM,iN,bT,bF,eN];refine zG ?_;refine zbH ?_;by_cases hk:m.kind=1
 ·have e0:zab m=[inE m.batch.length 1 1,zD m.batch]:=by simp[zab,zC,hk,show zeO 1=false from rfl]
  cases h1:((m.batch.length:Int) != 1)
  ·refine zm (zd (K1 hk) (zd hbl h1)) ?_;refine zhN (b:=m.batch) hm.batch ?_;refine zG ?_;refine zu hl ?_;refine fin1 _ ?_;simp only[bne_eq_false_iff_eq]at h1;rw[e0,inE,if_neg (by omega)];simp only[zax];split<;>simp_all
  ·refine zm (zd (K1 hk) (zd hbl h1)) ?_;refine zu hl ?_;refine fin1 _ ?_;simp only[bne_iff_ne,ne_eq]at h1;rw[e0,inE,if_pos (by omega)];rfl
 by_cases hk:m.kind=2
 ·have e0:zab m=zep m++[zD m.batch,zx m.key m.sdig]:=by simp[zab,zC,hk,show zeO 2=true from rfl]
  refine zm (K2 hk) ?_;refine zhN (b:=m.batch) hm.batch ?_;refine zm (K2 hk) ?_;refine c_kVote (m:=m) ?_;refine zG ?_;refine zu hl ?_;exact fin _ (by rw[e0])
 by_cases hk:m.kind=3
 ·have e0:zab m=zep m++[zx m.key m.sdig]:=by simp[zab,zC,hk,show zeO 3=true from rfl]
  refine zm (K3 hk) ?_;refine c_kVote (m:=m) ?_;refine zG ?_;refine zu hl ?_;exact fin _ (by rw[e0,zeC,zeC];rfl)
 by_cases hk:m.kind=4
 ·have e0:zab m=zep m++[zx m.key m.sdig]:=by simp[zab,zC,hk,show zeO 4=true from rfl]
  refine zm (K4 hk) ?_;refine c_kVote (m:=m) ?_;refine zG ?_;refine zu hl ?_;exact fin _ (by rw[e0,zeC,zeC];rfl)
 by_cases hk:m.kind=5
 ·have e0:zab m=[zjz m.src,zeP m.view,inE m.client 0 7,zeP m.time,inE m.rerr 0 65536,zeP m.roff,zx m.key m.sdig]:=by simp[zab,zC,hk,show zeO 5=true from rfl]
  refine zm (K5 hk) ?_;refine ziX ?_;refine zm (K5 hk) ?_;refine ziW ?_;refine zm (K5 hk) ?_;refine zxa ?_;refine zm (K5 hk) ?_;refine ziW ?_;refine zm (K5 hk) ?_;refine zxa ?_;refine zm (K5 hk) ?_;refine ziW ?_;refine zm (K5 hk) ?_;refine zeE (l:=[zjz m.src,zeP m.view,inE m.client 0 7,zeP m.time,inE m.rerr 0 65536,zeP m.roff,zx m.key m.sdig]) (by simp) ?_;refine zG ?_;refine zu hl ?_;exact fin _ (by rw[e0])
 by_cases hk:m.kind=6
 ·have e0:zab m=[zjz m.src,zkl m.seq,zkl m.dig,zx m.key m.sdig]:=by simp[zab,zC,hk,show zeO 6=true from rfl]
  refine zm (K6 hk) ?_;refine ziX ?_;refine zm (K6 hk) ?_;refine zqx ?_;refine zm (K6 hk) ?_;refine zqx ?_;refine zm (K6 hk) ?_;refine zeE (l:=[zjz m.src,zkl m.seq,zkl m.dig,zx m.key m.sdig]) (by simp) ?_;refine zG ?_;refine zu hl ?_;exact fin _ (by rw[e0])
 by_cases hk:m.kind=9
 ·have e0:zab m=[zjz m.src,zeP m.seq,zx m.key m.sdig]:=by simp[zab,zC,hk,show zeO 9=true from rfl]
  refine zm (K9 hk) ?_;refine ziX ?_;refine zm (K9 hk) ?_;refine ziW ?_;refine zm (K9 hk) ?_;refine zeE (l:=[zjz m.src,zeP m.seq,zx m.key m.sdig]) (by simp) ?_;refine zG ?_;refine zu hl ?_;exact fin _ (by rw[e0])
 by_cases hk:m.kind=10
 ·have e0:zab m=zjz m.src::(zby m.cert++[inE m.state.length 0 262144]):=by simp[zab,zC,hk,show zeO 10=false from rfl]
  refine zm (K10 hk) ?_;refine ziX ?_;refine zm (K10 hk) ?_;refine c_kCert (c:=m.cert) hm.signs ?_;refine zlr (K10 hk) ?_;refine zxa ?_;refine zm (K10 hk) ?_;refine zeE (l:=[zjz m.src,zax (zby m.cert),inE m.state.length 0 262144]) (by simp) ?_;refine zG ?_;refine zu hl ?_;exact fin _ (by rw[e0];simp only[zax];rw[zeC];rfl)
 by_cases hk:m.kind=11
 ·have e0:zab m=[inE m.client 0 7,zkZ m.topic,zeP m.offset]:=by simp[zab,zC,hk,show zeO 11=false from rfl]
  refine zm (K11 hk) ?_;refine zxa ?_;refine zm (K11 hk) ?_;refine c_kName (x:=m.topic) (by have:=hm.topic;omega) ?_;refine zm (K11 hk) ?_;refine ziW ?_;refine zm (K11 hk) ?_;refine zeE (l:=[inE m.client 0 7,zkZ m.topic,zeP m.offset]) (by simp) ?_;refine zG ?_;refine zu hl ?_;exact fin _ (by rw[e0])
 have hr:¬(1<=m.kind/\m.kind<=12):=by omega
 refine zm (K0 hr) ?_;refine zu hl ?_;refine fin1 _ ?_;have ho:zeO m.kind=false:=by simp[zeO];omega
 have e0:zab m=[100]:=by
  simp only[zab,zC,ho];rw[if_neg (by omega),if_neg (by omega),if_neg (by omega),if_neg (by omega),if_neg (by omega),if_neg (by omega),if_neg (by omega),if_neg (by omega),if_neg (by omega),if_neg (by omega),if_neg (by omega)];rfl
 rw[e0];rfl
theorem c_kOnlyG {m:zbj}(hk0:1<=m.kind/\m.kind<=12){K:KT}(hK:K (zgd (zfB m)) σ):zP zti [zgd m] σ K:=by
 refine zey e_r10_only fun hl=>?_;simp only[zzv,iN,bT,bF,eN,zl3];have hks:m.kind=1∨m.kind=2∨m.kind=3∨m.kind=4∨m.kind=5∨m.kind=6∨m.kind=7∨m.kind=8∨m.kind=9∨m.kind=10∨m.kind=11∨m.kind=12:=by omega
 rcases hks with hk|hk|hk|hk|hk|hk|hk|hk|hk|hk|hk|hk
 ·refine zm (K1 hk) ?_;refine zu hl ?_;simp only[zfB,hk,reduceIte]at hK;rw[hk];exact hK
 ·refine zm (K2 hk) ?_;refine zu hl ?_;simp only[zfB,hk,reduceIte]at hK;rw[hk];exact hK
 ·refine zm (K3 hk) ?_;refine zu hl ?_;simp only[zfB,hk,reduceIte]at hK;rw[hk];exact hK
 ·refine zm (K4 hk) ?_;refine zu hl ?_;simp only[zfB,hk,reduceIte]at hK;rw[hk];exact hK
 ·refine zm (K5 hk) ?_;refine zu hl ?_;simp only[zfB,hk,reduceIte]at hK;rw[hk];exact hK
 ·refine zm (K6 hk) ?_;refine zu hl ?_;simp only[zfB,hk,reduceIte]at hK;rw[hk];exact hK
 ·refine zm (K7 hk) ?_;refine zu hl ?_;simp only[zfB,hk,reduceIte]at hK;rw[hk];exact hK
 ·refine zm (K8 hk) ?_;refine zu hl ?_;simp only[zfB,hk,reduceIte]at hK;rw[hk];exact hK
 ·refine zm (K9 hk) ?_;refine zu hl ?_;simp only[zfB,hk,reduceIte]at hK;rw[hk];exact hK
 ·refine zm (K10 hk) ?_;refine zu hl ?_;simp only[zfB,hk,reduceIte]at hK;rw[hk];exact hK
 ·refine zm (K11 hk) ?_;refine zu hl ?_;simp only[zfB,hk,reduceIte]at hK;rw[hk];exact hK
 ·refine zm (K12 hk) ?_;refine zu hl ?_;simp only[zfB,hk,reduceIte]at hK;rw[hk];exact hK
theorem kinds0 {m:zbj}(h:zax (zab m)=0):1<=m.kind/\m.kind<=12:=by
 by_cases hk:1<=m.kind/\m.kind<=12
 ·exact hk
 have:=fstE_mem h 100 (by
  have e:∀j:Int,1<=j->j<=12->m.kind≠j:=fun j h1 h2 h3=>hk (by omega);simp[zab,zC,e])
 cases this
theorem c_kCheckG {m:zbj}(hm:zaK m){K:KT}(hK:K (.d (.int .i64 (zbJ m))) σ):zP znf [zgd m] σ K:=by
 refine zey e_r10_Check fun hl=>?_;have fin:∀z,zbJ m=z->K (.d (.int .i64 z)) σ:=fun z h=>h▸hK;clear hK;simp only[zxq,iN,bT,bF,eN];refine zG ?_;refine c_kPartsG (m:=m) hm ?_;cases h1:(zax (zab m) != 0);rotate_left
 ·refine zm h1 ?_;refine zu hl ?_;exact fin _ (by simp at h1;simp[zbJ,h1])
 refine zm h1 ?_;refine c_kOnlyG (m:=m) (kinds0 (by simpa using h1)) ?_;refine zG ?_;refine c_kSame (a:=m) (b:=zfB m) hm (zzl hm) ?_;cases h2:decide (m=zfB m)
 ·refine zG ?_;refine zu hl ?_;exact fin _ (by simp at h1 h2;simp[zbJ,h1,h2])
 ·refine zG ?_;refine zu hl ?_;exact fin _ (by simp at h1 h2;simp[zbJ,h1,← h2])
variable {σ:List AObj}
abbrev zos (p:zfi):List AV:=[.d (.str p.topic),.d (.int .i64 p.offset),.d (.slice (bcs p.rec_)),.d (.slice (zmv p.headers)),.d (.int .i64 p.index),.d (.int .i64 p.count),.d (.slice (zgH p.path)),.d (.int .i64 p.cert.seq),.d (.int .i64 p.cert.dig),.d (.slice (zat p.cert.signs))]
theorem c_kPutProof {b:List UInt8}{p:zfi}(hb:b.length<=1000000)(hp:zrF p){K:KT}(hK:K (.d (.slice (bcs (b++zud p)))) σ) :
  zP zlY [.d (.slice (bcs b)),znD p] σ K:=by
 refine zen zxV fun hl=>?_;have hhl:(zmv p.headers).length=p.headers.length:=List.length_map ..;have hpl:(zgH p.path).length=p.path.length:=List.length_map ..;obtain⟨h1,h2,h3,h4,h5,h6,h7,h8,h9,h10⟩:=hp;have p1:=zdh (x:=p.topic) (by omega);have p2:=zdh (x:=p.rec_) (by omega);have n1:=zj (n:=p.offset.toNat) (by omega);have n2:=zj (n:=p.headers.length) (by omega);have n3:=zj (n:=p.index.toNat) (by omega);have n4:=zj (n:=p.count.toNat) (by omega);have n5:=zj (n:=p.path.length) (by omega);have q1:=zhK h10;simp only[zqE,iN,bT,bF,eN,znD];refine zG ?_;refine zha (b:=b) (x:=p.topic) (by omega) (by omega) ?_;rw[show zbt p.topic.length++p.topic=zkk p.topic from rfl];refine zG ?_;refine zeQ (l:=[p.offset]) (by simp only[List.length_append];omega) (by simp) (by simp;omega) ?_;refine zm hhl ?_;refine zha (b:=b++(zkk p.topic++zS [p.offset])) (x:=p.rec_) (by omega) (by simp[zS];omega) ?_;rw[show zbt p.rec_.length++p.rec_=zkk p.rec_ from rfl];refine zm hhl ?_;refine zeQ (b:=b++(zkk p.topic++(zS [p.offset]++zkk p.rec_))) (l:=[(p.headers.length:Int)]) (by simp[zS];omega) (by simp) (by simp;omega) ?_;rw[show zS [(p.headers.length:Int)]=zbt p.headers.length by simp[zS]];obtain⟨Q,hQ⟩:∃Q,b++(zkk p.topic++(zS [p.offset]++zkk p.rec_))++zbt p.headers.length=Q:=⟨_,rfl⟩;have hQl:Q.length<=1000400:=by rw[← hQ];simp[zS];omega
 rw[hQ];refine zm hhl ?_;refine zn p.headers.length (fun k vs s=>vs=[.d (.slice (bcs (Q++((p.headers.take k).map hdB).flatten))),.d (.int .i64 k)]/\∃T,s=σ++.box (zos p)::T) ⟨by simp,_,rfl⟩ ?_;rintro k vs s hk ⟨rfl,T,rfl⟩;have hlenC:(((p.headers.take k).map hdB).flatten).length<=64*50:=by
  have:=zcy (f:=hdB) (n:=50) (l:=p.headers.take k) fun s hm=>hdB_len (h5 s (List.mem_of_mem_take hm));have hlk:(p.headers.take k).length<=64:=by rw[List.length_take];omega
  have:(p.headers.take k).length*50<=64*50:=Nat.mul_le_mul_right _ hlk;omega
 have hbx0:(σ++AObj.box (zos p)::T)[σ.length]? = some (.box (zos p)):=by rw[zB];rfl
 by_cases hlt:k<p.headers.length
 ·have hd:decide ((k:Int)<(p.headers.length:Int))=true:=by simp;omega
  have hx:p.headers[k]? = some p.headers[k]:=by simp[hlt]
  have hpx:=hdr_ok (h5 _ (List.getElem_mem hlt));have hgx:=zQ (f:=zsi) hx;obtain⟨h,hh⟩:∃h,p.headers[k]=h:=⟨_,rfl⟩;rw[hh]at hx hgx hpx;have hbx:∀τ,(σ++AObj.box (zos p)::T++τ)[σ.length]? = some (.box (zos p)):=fun τ=>zi hbx0;have fin:∀τ,∃T',σ++AObj.box (zos p)::T++τ=σ++AObj.box (zos p)::T':=fun τ=>⟨T++τ,by simp⟩;obtain⟨S,hS⟩:∃S,σ++AObj.box (zos p)::T=S:=⟨_,rfl⟩;rw[hS]at hbx hbx0 fin ⊢;refine zdO (zd hd (zd hgx (zd hhl (zd hbx hbx0)))) ?_;refine zeQ (l:=[h.seq,h.prev,h.batch,h.root,h.state]) (by simp only[List.length_append];omega) (by simp) hpx ?_;refine zm (wkc k (by omega)) ?_;refine zaF.next hlt ⟨?_,fin _⟩;rw[zcW hx,hdB,← List.append_assoc]
 have hd:decide ((k:Int)<(p.headers.length:Int))=false:=by simp;omega
 rw[show p.headers.take k=p.headers from List.take_of_length_le (by omega)]at hlenC ⊢;obtain⟨T1,hT1⟩:∃T1,AObj.box (zos p)::T=T1:=⟨_,rfl⟩;rw[hT1]at hbx0 ⊢;refine zm (zd hd (zd hhl (zd hpl hbx0))) ?_;refine zeQ (l:=[p.index,p.count,(p.path.length:Int)]) (by simp only[List.length_append];omega) (by simp) (by simp;omega) ?_;obtain⟨R,hR⟩:∃R,Q++(p.headers.map hdB).flatten++zS [p.index,p.count,(p.path.length:Int)]=R:=⟨_,rfl⟩;have hRl:R.length<=1004000:=by rw[← hR];simp[zS]at hlenC ⊢;omega
 rw[hR];refine zm hpl ?_;refine zn p.path.length (fun k vs s=>vs=[.d (.slice (bcs (R++zS (p.path.take k)))),.d (.int .i64 k)]/\∃T,s=σ++T/\T[0]? = some (.box (zos p))) ⟨by simp[zS],T1,by first|rfl|simp,by rw[← hT1];rfl⟩ ?_;rintro k vs s hk1 ⟨rfl,T2,rfl,hx2⟩;have hbx2:(σ++T2)[σ.length]? = some (.box (zos p)):=by rw[zB];exact hx2
 have hlenP:(zS (p.path.take k)).length<=80:=by
  have:=zcd (l:=p.path.take k) fun s hm=>h9 s (List.mem_of_mem_take hm);have hlk:(p.path.take k).length<=8:=by rw[List.length_take];omega
  omega
 by_cases hlt:k<p.path.length
 ·have hd:decide ((k:Int)<(p.path.length:Int))=true:=by simp;omega
  have hx:p.path[k]? = some p.path[k]:=by simp[hlt]
  have hpx:=h9 _ (List.getElem_mem hlt);have hgx:=zQ (f:=fun t=>[D.int .i64 t]) hx;obtain⟨h,hh⟩:∃h,p.path[k]=h:=⟨_,rfl⟩;rw[hh]at hx hgx hpx;refine zm (zd hd (zd hgx (zd hpl hbx2))) ?_;refine zeQ (l:=[h]) (by simp only[List.length_append];omega) (by simp) (by simp;omega) ?_;refine zm (wkc k (by omega)) ?_;refine zaF.next hlt ⟨?_,T2,by first|rfl|simp,hx2⟩;rw[zpB hx,← List.append_assoc];simp[zS]
 have hd:decide ((k:Int)<(p.path.length:Int))=false:=by simp;omega
 rw[show p.path.take k=p.path from List.take_of_length_le (by omega)]at hlenP ⊢;refine zm (zd hd (zd hpl hbx2)) ?_;refine ztO (c:=p.cert) (by simp only[List.length_append];omega) h10 ?_;refine zG ?_;refine zu hl ?_;have fin:∀x,x=b++zud p->K (dmT (zck [.d (.slice (bcs x))])) σ:=by rintro _ rfl;exact hK
 exact fin _ (by rw[← hR,← hQ];simp[zud,zS])
variable {σ:List AObj}
def sigK (k:Int):Bool:=decide (k=7∨zeO k=true)
theorem zsB {m:zbj}(h:zbJ m=0){K:KT}(hK:K (.tup [.d (.slice (bcs (znW m))),.d (.bool (sigK m.kind))]) σ) :
  zP zke [zgd m] σ K:=by
 have hkk:=kinds h;by_cases h7:m.kind=7
 ·obtain⟨c,hc,he⟩:=zwQ h7 h;exact c_kBody7 h7 hc (ziU he).1 (by rw[unsG7 (.inl h7)];rw[h7]at hK;exact hK)
 by_cases h8:m.kind=8
 ·exact c_kBody8 h8 (check8 h8 h).1 (by rw[unsG7 (.inr h8)];rw[h8]at hK;exact hK)
 have hall:=(zgN h).1;have gi:∀n lo hi:Int,inE n lo hi∈zC m->lo<=n/\n<=hi:=fun n lo hi hm=>zkB (hall _ (by simp[zab,hm]));refine zey ztD fun hl=>?_;have n0:=zj (n:=m.kind.toNat) (by omega);have hf:∀(b':List UInt8) (z:Bool),b'=znW m->sigK m.kind=z->K (dmT (zck [.d (.slice (bcs b')),.d (.bool z)])) σ:=fun b' z e e'=>by subst e;subst e';exact hK
 clear hK;simp only[zpU,iN,bT,bF,eN];refine zG ?_;refine zeQ (b:=[]) (l:=[m.kind]) (by simp) (by simp) (by simp;omega) ?_;have e0:[]++zS [m.kind]=zbt m.kind.toNat:=by simp[zS]
 rw[e0];have hu:znW m=zbt m.kind.toNat++zfq m:=rfl;obtain⟨b1,hb1⟩:∃b1,zbt m.kind.toNat=b1:=⟨_,rfl⟩;rw[hb1]at hu n0 ⊢;by_cases hv:m.kind=2∨m.kind=3∨m.kind=4
 ·obtain⟨v1,v2,v3,v4⟩:=zzL h hv;have q:=zcd (l:=[m.src,m.view,m.seq,m.dig]) (by simp;omega);simp only[List.length_cons,List.length_nil]at q;rcases hv with hk|hk|hk
  ·have hcb:zD m.batch=0:=hall _ (by simp[zab,zC,hk]);have hbb:zdI m.batch=zhj m.batch:=by simp[zdI,hcb]
   refine zm (K2 hk) ?_;refine zeQ (b:=b1) (l:=[m.src,m.view,m.seq,m.dig]) (by omega) (by simp) (by simp;omega) ?_;refine zm (K2 hk) ?_;refine znv (b:=b1++zS [m.src,m.view,m.seq,m.dig]) (l:=m.batch) (by simp only[List.length_append];omega) (fun x hx=>Nat.le_trans ((zdH hcb).1 x hx) (by omega)) (by have:=(zjX hcb).1;omega) ?_;rw[hbb];refine zG ?_;refine zu hl ?_;exact hf _ _ (by rw[hu];simp[zfq,hk]) (by rw[hk];rfl)
  ·refine zm (K3 hk) ?_;refine zeQ (b:=b1) (l:=[m.src,m.view,m.seq,m.dig]) (by omega) (by simp) (by simp;omega) ?_;refine zG ?_;refine zu hl ?_;exact hf _ _ (by rw[hu];simp[zfq,hk]) (by rw[hk];rfl)
  ·refine zm (K4 hk) ?_;refine zeQ (b:=b1) (l:=[m.src,m.view,m.seq,m.dig]) (by omega) (by simp) (by simp;omega) ?_;refine zG ?_;refine zu hl ?_;exact hf _ _ (by rw[hu];simp[zfq,hk]) (by rw[hk];rfl)
 by_cases hk:m.kind=1
 ·have hcb:zD m.batch=0:=hall _ (by simp[zab,zC,hk]);have hbb:zdI m.batch=zhj m.batch:=by simp[zdI,hcb]
  refine zm (K1 hk) ?_;refine znv (b:=b1) (l:=m.batch) (by omega) (fun x hx=>Nat.le_trans ((zdH hcb).1 x hx) (by omega)) (by have:=(zjX hcb).1;omega) ?_;rw[hbb];refine zG ?_;refine zu hl ?_;exact hf _ _ (by rw[hu];simp[zfq,hk]) (by rw[hk];rfl)
 by_cases hk:m.kind=5
 ·obtain⟨h1,h2,h3,h4,h5,h6,_⟩:=zur hk h;have q:=zcd (l:=[m.src,m.view,m.client,m.time]) (by simp;omega);simp only[List.length_cons,List.length_nil]at q;refine zm (K5 hk) ?_;refine zeQ (b:=b1) (l:=[m.src,m.view,m.client,m.time]) (by omega) (by simp) (by simp;omega) ?_;refine zm (K5 hk) ?_;refine c_rPutResult (e:=m.rerr) (o:=m.roff) (b:=b1++zS [m.src,m.view,m.client,m.time]) (by rw[List.length_append];omega) (by omega) (by omega) ?_;refine zG ?_;refine zu hl ?_;exact hf _ _ (by rw[hu];simp[zfq,hk,res_eq h5.1 h6.1]) (by rw[hk];rfl)
 by_cases hk:m.kind=6
 ·have g1:=gi m.src 0 12 (by simp[zC,hk,zjz]);have g2:=gi m.seq 1 9007199254740992 (by simp[zC,hk,zkl]);have g3:=gi m.dig 1 9007199254740992 (by simp[zC,hk,zkl]);refine zm (K6 hk) ?_;refine zeQ (b:=b1) (l:=[m.src,m.seq,m.dig]) (by omega) (by simp) (by simp;omega) ?_;refine zG ?_;refine zu hl ?_;exact hf _ _ (by rw[hu];simp[zfq,hk]) (by rw[hk];rfl)
 by_cases hk:m.kind=9
 ·have g1:=gi m.src 0 12 (by simp[zC,hk,zjz]);have g2:=gi m.seq 0 9007199254740992 (by simp[zC,hk,zeP]);refine zm (K9 hk) ?_;refine zeQ (b:=b1) (l:=[m.src,m.seq]) (by omega) (by simp) (by simp;omega) ?_;refine zG ?_;refine zu hl ?_;exact hf _ _ (by rw[hu];simp[zfq,hk]) (by rw[hk];rfl)
 by_cases hk:m.kind=10
 ·have g1:=gi m.src 0 12 (by simp[zC,hk,zjz]);have g2:∀e∈zby m.cert,e=0:=fun e he=>hall e (by simp[zab,zC,hk,he]);have g3:=gi m.state.length 0 262144 (by simp[zC,hk]);have q:=zcd (l:=[m.src]) (by simp;omega);have q2:=zhK g2;simp only[List.length_cons,List.length_nil]at q;refine zm (K10 hk) ?_;refine zeQ (b:=b1) (l:=[m.src]) (by omega) (by simp) (by simp;omega) ?_;refine zG ?_;refine ztO (b:=b1++zS [m.src]) (c:=m.cert) (by rw[List.length_append];omega) g2 ?_;refine zG ?_;refine zha (b:=b1++(zS [m.src]++zrz m.cert)) (x:=m.state) (by omega) (by simp only[List.length_append];omega) ?_;rw[show zbt m.state.length++m.state=zkk m.state from rfl];refine zG ?_;refine zu hl ?_;exact hf _ _ (by rw[hu];simp[zfq,hk]) (by rw[hk];rfl)
 by_cases hk:m.kind=11
 ·have g1:=gi m.client 0 7 (by simp[zC,hk]);have g2:=gi m.offset 0 9007199254740992 (by simp[zC,hk,zeP]);have g3:m.topic.length<=64:=by
   refine zyD ?_;have:=hall (zkZ m.topic) (by simp[zab,zC,hk]);unfold zkZ at this;split at this
   ·assumption
   ·cases this
  have q:=zcd (l:=[m.client]) (by simp;omega);have p1:=zdh (x:=m.topic) (by omega);simp only[List.length_cons,List.length_nil]at q;refine zm (K11 hk) ?_;refine zeQ (b:=b1) (l:=[m.client]) (by omega) (by simp) (by simp;omega) ?_;refine zG ?_;refine zha (b:=b1++zS [m.client]) (x:=m.topic) (by omega) (by rw[List.length_append];omega) ?_;rw[show zbt m.topic.length++m.topic=zkk m.topic from rfl];refine zG ?_;refine zeQ (b:=b1++(zS [m.client]++zkk m.topic)) (l:=[m.offset]) (by simp only[List.length_append];omega) (by simp) (by simp;omega) ?_;refine zG ?_;refine zu hl ?_;exact hf _ _ (by rw[hu];simp[zfq,hk]) (by rw[hk];rfl)
 have hk:m.kind=12:=by omega
 have g1:=gi m.src 0 12 (by simp[zC,hk,zjz]);have g2:zrF m.proof:=zzZ fun e he=>hall e (by simp[zab,zC,hk,he]);have q:=zcd (l:=[m.src]) (by simp;omega);simp only[List.length_cons,List.length_nil]at q;refine zm (K12 hk) ?_;refine zeQ (b:=b1) (l:=[m.src]) (by omega) (by simp) (by simp;omega) ?_;refine zG ?_;refine c_kPutProof (b:=b1++zS [m.src]) (p:=m.proof) (by rw[List.length_append];omega) g2 ?_;refine zG ?_;refine zu hl ?_;exact hf _ _ (by rw[hu];simp[zfq,hk]) (by rw[hk];rfl)
theorem zsA {m:zbj}(hm:zaK m){K:KT}(hK:∀b:List UInt8,K (.tup [.d (.slice (bcs b)),.d (.int .i64 (zfA m))]) σ) :
  zP zra [zgd m] σ K:=by
 refine zey e_r10_Bytes fun hl=>?_;have fin:∀b z,zfA m=z->K (.tup [.d (.slice (bcs b)),.d (.int .i64 z)]) σ:=fun b z h=>h▸hK b;clear hK;simp only[zxr,iN,bT,bF,eN];refine zG ?_;refine c_kCheckG (m:=m) hm ?_;cases h1:(zbJ m != 0);rotate_left
 ·refine zm h1 ?_;refine zu hl ?_;exact fin [] _ (by simp at h1;simp[zfA,h1])
 have h1':zbJ m=0:=by simpa using h1
 have hul:=unsG_len hm.state h1';have fin2:∀u,ztu m=u->∀b,K (.tup [.d (.slice (bcs b)),.d (.int .i64 (if u.length>262144 then 3 else 0))]) σ:=fun u hu b=>fin b _ (by simp[zfA,h1',hu]);refine zm h1 ?_;refine zsB (m:=m) h1' ?_;by_cases h7:m.kind=7
 ·obtain⟨c,hc,he⟩:=zwQ h7 h1';have hgx:(zap m.changes)[0]? = some (zag c):=by rw[hc];rfl
  have hgl:(zap m.changes).length=1:=by rw[hc];rfl
  have hsb:zcu c.key c.dig=zgp c.key c.dig:=by simp[zcu,(ziU he).2]
  refine zdO (zd (K7 h7) (zd hgx hgl)) ?_;refine ziw (b:=znW m) (by omega) ?_;rw[hsb];refine zG ?_;obtain⟨u,hu⟩:∃u,znW m++zgp c.key c.dig=u:=⟨_,rfl⟩;rw[hu];refine zAJ (b:=u) ?_;refine zG ?_;refine zu hl ?_;exact fin2 u (by rw[← hu];simp[ztu,ownS,h7,hc]) _
 have h7':(m.kind==7)=false:=by simpa using h7
 by_cases ho:zeO m.kind=true
 ·have hs:=own_ok h1' ho;have hsb:zcu m.key m.sdig=zgp m.key m.sdig:=by simp[zcu,hs]
  have hsk:sigK m.kind=true:=by simp[sigK,ho]
  refine zm (zd h7' hsk) ?_;refine ziw (b:=znW m) (by omega) ?_;rw[hsb];refine zG ?_;obtain⟨u,hu⟩:∃u,znW m++zgp m.key m.sdig=u:=⟨_,rfl⟩;rw[hu];refine zAJ (b:=u) ?_;refine zG ?_;refine zu hl ?_;exact fin2 u (by rw[← hu];simp[ztu,ownS,h7,ho]) _
 ·have hsk:sigK m.kind=false:=by simp[sigK,h7,ho]
  refine zm (zd h7' hsk) ?_;refine zAJ (b:=znW m) ?_;refine zG ?_;refine zu hl ?_;exact fin2 (znW m) (by simp[ztu,h7,ho]) _
variable {σ:List AObj}
theorem c_kUnsignedG {m:zbj}(hm:zaK m){K:KT}
  (hK:K (.tup [.d (.slice (bcs (if zfA (zbo m)=0 then znW (zbo m)else []))),.d (.int .i64 (zfA (zbo m)))]) σ):zP zlZ [zgd m] σ K:=by
 refine zey zxW fun hl=>?_;have hs:=zyq hm;have hgl:(zap m.changes).length=m.changes.length:=List.length_map ..;have fin:∀b z,(if zfA (zbo m)=0 then znW (zbo m)else [])=b->zfA (zbo m)=z->K (.tup [.d (.slice (bcs b)),.d (.int .i64 z)]) σ:=fun b z h h'=>h▸h'▸hK;clear hK;obtain⟨M,hM⟩:∃M,zbo m=M:=⟨_,rfl⟩;rw[hM]at fin hs;simp only[zqF,iN,bT,bF,eN,zl6];by_cases h7:m.kind=7
 ·by_cases h1:m.changes.length=1
  ·obtain⟨c,hc⟩:=List.length_eq_one_iff.1 h1;have hgx:(zap m.changes)[0]? = some (zag c):=by rw[hc];rfl
   rw[some7 h7 hc]at hM;refine zdO (zd (K7 h7) (zd hgx (zd hgl h1))) ?_;subst hM;refine zsA (m:=uns7 m c) hs fun b0=>?_;cases hb:(zfA (uns7 m c) != 0)
   ·have hb':zfA (uns7 m c)=0:=by simpa using hb
    refine zm hb ?_;refine zsB (m:=uns7 m c) (zjy hb').1 ?_;refine zG ?_;refine zu hl ?_;exact fin _ _ (by rw[if_pos hb']) hb'
   ·have hb':zfA (uns7 m c)≠0:=by simpa using hb
    refine zm hb ?_;refine zu hl ?_;exact fin [] _ (by rw[if_neg hb']) rfl
  ·have hb1:(((m.changes.length:Nat):Int)==1)=false:=by simp;omega
   have e:zbo m=m:=by
    unfold zbo;rw[if_pos h7];split
    ·rename_i c hc;simp[hc]at h1
    ·rfl
   rw[e]at hM;refine zm (zd (K7 h7) (zd hgl hb1)) ?_;refine zwY ?_;refine zm (show zeO m.kind=false by rw[h7];rfl) ?_;subst hM;refine zsA (m:=m) hs fun b0=>?_;cases hb:(zfA (m) != 0)
   ·have hb':zfA (m)=0:=by simpa using hb
    refine zm hb ?_;refine zsB (m:=m) (zjy hb').1 ?_;refine zG ?_;refine zu hl ?_;exact fin _ _ (by rw[if_pos hb']) hb'
   ·have hb':zfA (m)≠0:=by simpa using hb
    refine zm hb ?_;refine zu hl ?_;exact fin [] _ (by rw[if_neg hb']) rfl
 by_cases ho:zeO m.kind=true
 ·have e:zbo m=zvl m:=by simp[zbo,h7,ho]
  rw[e]at hM;refine zm (show(m.kind==7)=false by simpa using h7) ?_;refine zwY ?_;refine zm ho ?_;subst hM;refine zsA (m:=zvl m) hs fun b0=>?_;cases hb:(zfA (zvl m) != 0)
  ·have hb':zfA (zvl m)=0:=by simpa using hb
   refine zm hb ?_;refine zsB (m:=zvl m) (zjy hb').1 ?_;refine zG ?_;refine zu hl ?_;exact fin _ _ (by rw[if_pos hb']) hb'
  ·have hb':zfA (zvl m)≠0:=by simpa using hb
   refine zm hb ?_;refine zu hl ?_;exact fin [] _ (by rw[if_neg hb']) rfl
 ·have ho':zeO m.kind=false:=by simpa using ho
  have e:zbo m=m:=by simp[zbo,h7,ho]
  rw[e]at hM;refine zm (show(m.kind==7)=false by simpa using h7) ?_;refine zwY ?_;refine zm ho' ?_;subst hM;refine zsA (m:=m) hs fun b0=>?_;cases hb:(zfA (m) != 0)
  ·have hb':zfA (m)=0:=by simpa using hb
   refine zm hb ?_;refine zsB (m:=m) (zjy hb').1 ?_;refine zG ?_;refine zu hl ?_;exact fin _ _ (by rw[if_pos hb']) hb'
  ·have hb':zfA (m)≠0:=by simpa using hb
   refine zm hb ?_;refine zu hl ?_;exact fin [] _ (by rw[if_neg hb']) rfl
theorem zut {m:zbj}(hm:zaK m){K:KT}
  (hK:K (.tup [zqi m,.d (.int .i64 (zfA (zbo m)))]) σ):zP zjQ [zgd m] σ K:=by
 refine zlE zqu.is rfl fun hl _=>zqu.goes ?_;simp only[zqz];refine zG ?_;refine c_kUnsignedG (m:=m) hm ?_;by_cases h1:zfA (zbo m)=0;rotate_left
 ·have h1':(zfA (zbo m) != 0)=true:=by simp[h1]
  refine zm h1' ?_;refine zu hl ?_;rw[zqi,if_neg (fun h=>h1 h.1)]at hK;exact hK
 have h1':(zfA (zbo m) != 0)=false:=by simp[h1]
 have hkk:=kinds (zjy h1).1;rw[zrQ]at hkk;obtain⟨y1,y2,y3⟩:=zAf h1;have hlen:=(zjy h1).2;rw[if_pos h1];have hn:nilK m.kind=true->K (.tup [.nils,.d (.int .i64 0)]) σ:=fun hk=>by
  rw[zqi,if_neg (fun h=>by rw[hk]at h;cases h.2),h1]at hK;exact hK
 have hs:nilK m.kind=false->∀b,zcF m=b->K (.tup [.d (.slice (bcs b)),.d (.int .i64 0)]) σ:=fun hk b hb=>by
  rw[zqi,if_pos ⟨h1,hk⟩,h1,hb]at hK;exact hK
 clear hK;have ulen:(znW (zbo m)).length<=262144:=by rw[ztu,List.length_append]at hlen;omega
 by_cases hk:m.kind=2
 ·refine zm (zd h1' (K2 hk)) ?_;refine zhM (a:=m.kind) (b:=m.view) (c:=m.seq) (d:=m.dig) (y1 (by omega)) ?_;refine zG ?_;refine zu hl ?_;exact hs (by rw[hk];rfl) _ (by simp[zcF,hk])
 by_cases hk:m.kind=3
 ·refine zm (zd h1' (K3 hk)) ?_;refine zhM (a:=m.kind) (b:=m.view) (c:=m.seq) (d:=m.dig) (y1 (by omega)) ?_;refine zG ?_;refine zu hl ?_;exact hs (by rw[hk];rfl) _ (by simp[zcF,hk])
 by_cases hk:m.kind=4
 ·refine zm (zd h1' (K4 hk)) ?_;refine zhM (a:=m.kind) (b:=m.view) (c:=m.seq) (d:=m.dig) (y1 (by omega)) ?_;refine zG ?_;refine zu hl ?_;exact hs (by rw[hk];rfl) _ (by simp[zcF,hk])
 by_cases hk:m.kind=6
 ·refine zm (zd h1' (K6 hk)) ?_;refine zhM (a:=m.kind) (b:=0) (c:=m.seq) (d:=m.dig) (y2 hk) ?_;refine zG ?_;refine zu hl ?_;exact hs (by rw[hk];rfl) _ (by simp[zcF,hk])
 by_cases hk:m.kind=9
 ·refine zm (zd h1' (K9 hk)) ?_;refine zhM (a:=m.kind) (b:=0) (c:=m.seq) (d:=0) (y3 hk) ?_;refine zG ?_;refine zu hl ?_;exact hs (by rw[hk];rfl) _ (by simp[zcF,hk])
 by_cases hk:m.kind=5
 ·have hc:=zpz hk h1;have a1:=hc.view;have a2:=hc.client;have a3:=hc.time;have a4:=hc.rerr;have a5:=hc.roff;simp only[zvl]at a1 a2 a3 a4 a5;have n1:=zj (n:=m.view.toNat) (by omega);have n2:=zj (n:=m.client.toNat) (by omega);have n3:=zj (n:=m.time.toNat) (by omega);have n4:=zj (n:=m.rerr.toNat) (by omega);refine zm (zd h1' (K5 hk)) ?_;refine znu (b:=[5]) (x:=m.view) (by simp) (by omega) (by omega) ?_;obtain⟨B,hB⟩:∃B,([5]:List UInt8)++zbt m.view.toNat=B:=⟨_,rfl⟩;have hBl:B.length<=11:=by rw[← hB];simp;omega
  rw[hB];refine zG ?_;refine znu (b:=B) (x:=m.client) (by omega) (by omega) (by omega) ?_;refine zG ?_;refine znu (x:=m.time) (by first|omega|(simp;omega)) (by omega) (by omega) ?_;refine zG ?_;refine znu (x:=m.rerr) (by first|omega|(simp;omega)) (by omega) (by omega) ?_;refine zG ?_;refine znu (x:=m.roff) (by first|omega|(simp;omega)) (by omega) (by omega) ?_;refine zG ?_;refine zu hl ?_;exact hs (by rw[hk];rfl) _ (by rw[← hB];simp[zcF,hk,zoo,zS])
 by_cases hk:m.kind=7
 ·refine zm (zd h1' (K7 hk)) ?_;refine⟨bcs1 _,by simp,by omega,?_⟩;refine zu hl ?_;exact hs (by rw[hk];rfl) (6::znW (zbo m)) (by simp[zcF,hk])
 by_cases hk:m.kind=8
 ·refine zm (zd h1' (K8 hk)) ?_;refine⟨bcs1 _,by simp,by omega,?_⟩;refine zu hl ?_;exact hs (by rw[hk];rfl) (6::znW (zbo m)) (by simp[zcF,hk])
 by_cases hk:m.kind=1
 ·refine zm (zd h1' (K1 hk)) ?_;refine zu hl ?_;exact hn (by rw[hk];rfl)
 by_cases hk:m.kind=10
 ·refine zm (zd h1' (K10 hk)) ?_;refine zu hl ?_;exact hn (by rw[hk];rfl)
 by_cases hk:m.kind=11
 ·refine zm (zd h1' (K11 hk)) ?_;refine zu hl ?_;exact hn (by rw[hk];rfl)
 have hk:m.kind=12:=by omega
 refine zm (zd h1' (K12 hk)) ?_;refine zu hl ?_;exact hn (by rw[hk];rfl)
variable {σ:List AObj}
theorem c_mgCloneF {m:zbj}(hm:zaK m){K:KT}(hK:K (zgd m) σ):zP zfO [zgd m] σ K:=by
 refine zsH zgU.is rfl 2 fun hl _=>zgU.goes (mgWalk hm fun g g2 A B _ _=>?_);have hcl:(zap m.changes).length=m.changes.length:=List.length_map ..;have hel:(zbq m.entries).length=m.entries.length:=List.length_map ..;have h8:=changes_eight m.changes;have h5:=entries_five m.entries;obtain⟨R,hR⟩:∃R,zcE (zap m.changes)=R:=⟨_,rfl⟩;obtain⟨Q,hQ⟩:∃R,zcE (zbq m.entries)=R:=⟨_,rfl⟩;rw[hR,hQ];have hr1:frz (σ++[A,B,.row g 8 R,.row g2 5 Q]) σ.length 2 (.rsl (σ.length+2) g 8 0 m.changes.length)=some (.slice (zap m.changes)):=by
  rw[← hcl,← hR];exact ztv (m:=0) (by rw[zA];rfl) (by omega) h8
 have hr2:frz (σ++[A,B,.row g 8 R,.row g2 5 Q]) σ.length 2 (.rsl (σ.length+3) g2 5 0 m.entries.length)=some (.slice (zbq m.entries)):=by
  rw[← hel,← hQ];exact ztv (m:=0) (by rw[zA];rfl) (by omega) h5
 refine zso (r:=zgd m) ?_ hl hK;simp only[zck,frzT,frz1,List.map_cons,List.map_nil,frz_d,hr1,hr2,allO]
theorem c_mgCloneM {m:zbj}(hm:zaK m){K:KT}
  (hK:∀g g2 A B,K (.agg (msgL2 m (.rsl (σ.length+2) g 8 0 m.changes.length) (.rsl (σ.length+3) g2 5 0 m.entries.length))) (σ++[A,B,.row g 8 (zcE (zap m.changes)),.row g2 5 (zcE (zbq m.entries))])) :
  zP zfO [zgd m] σ K:=by
 refine zbM zgU.is rfl (fun s=>List.range' σ.length (s.length-σ.length)) fun hl _=>zgU.goes (mgWalk hm fun g g2 A B hA hB=>?_);refine zdk (σ':=σ) (os:=[A,B,.row g 8 (zcE (zap m.changes)),.row g2 5 (zcE (zbq m.entries))]) rfl (by simp) hl ?_ ?_ (hK g g2 A B)
 ·intro x hx;simp only[List.mem_cons,List.not_mem_nil,or_false]at hx;rcases hx with rfl|rfl|rfl|rfl
  ·exact hA
  ·exact hB
  ·exact zmt _ _
  ·exact zmt _ _
 ·simp only[zck];refine .agg _ fun c hc=>?_;simp only[List.mem_cons,List.not_mem_nil,or_false]at hc;rcases hc with rfl|rfl|rfl|rfl|rfl|rfl|rfl|rfl|rfl|rfl|rfl|rfl|rfl|rfl|rfl|rfl|rfl|rfl|rfl|rfl|rfl|rfl|rfl|rfl|rfl|rfl|rfl|rfl|rfl|rfl<;>first|exact .d _|exact .rsl _ _ _ _ _ (by simp)
def ziK (m:zbj) (s:zK):zbj:=if m.kind=7 then(match m.changes with|c::_=>{ m with changes:=[{ c with key:=s.key,dig:=s.dig }] }|[]=>m)else withS m s
theorem c_auWithG {m:zbj}{s:zK}(hm:zaK m)(h1:m.kind=7->m.changes.length=1){K:KT}(hK:K (zgd (ziK m s)) σ):zP zkx [zgd m,.agg [.d (.int .i64 s.key),.d (.int .i64 s.dig)]] σ K:=by
 by_cases hk:m.kind=7;rotate_left
 ·rw[ziK,if_neg hk]at hK;have h7:(m.kind==7)=false:=by simpa using hk
  refine zen e_auth_with fun hl=>?_;simp only[zxz,iN,bT,bF,eN,zl3];refine zG ?_;refine c_mgCloneF (m:=m) hm ?_;refine zm h7 ?_;refine zu hl ?_;exact hK
 obtain⟨c,hc⟩:=List.length_eq_one_iff.1 (h1 hk);have hw:ziK m s={ m with changes:=[{ c with key:=s.key,dig:=s.dig }] }:=by rw[ziK,if_pos hk,hc]
 rw[hw]at hK;clear hw;refine zsH zuo.is rfl 2 fun hl _=>zuo.goes ?_;have hel:(zbq m.entries).length=m.entries.length:=List.length_map ..;have h5:=entries_five m.entries;have hl1:m.changes.length=1:=h1 hk;have hR:zcE (zap m.changes)=(zag c).map .d:=by rw[hc];simp[zcE,zap]
 simp only[zuv,iN,bT,bF,eN,zl3];refine zG ?_;refine c_mgCloneM (m:=m) hm fun g g2 A B=>?_;obtain⟨Q,hQ⟩:∃R,zcE (zbq m.entries)=R:=⟨_,rfl⟩;rw[hR,hQ,hl1];refine zdO (K7 hk) ?_;obtain⟨c',hc'⟩:∃c':zbk,{ c with key:=s.key,dig:=s.dig }=c':=⟨_,rfl⟩;have hR':zcE [zag c']=[AV.d (.int .i64 c.view),.d (.int .i64 c.src),.d (.int .i64 c.cert.seq),.d (.int .i64 c.cert.dig),.d (.slice (zat c.cert.signs)),.d (.slice (zft c.above)),.d (.int .i64 s.key),.d (.int .i64 s.dig)]:=by rw[← hc'];rfl
 rw[hc']at hK;rw[← hR',← hel,← hQ];have hr1:∀X Y Z:AObj,frz (σ++[X,Y,Z,A,B,.row g 8 (zcE [zag c']),.row g2 5 (zcE (zbq m.entries))]) σ.length 2 (.rsl (σ.length+5) g 8 0 1)=some (.slice [zag c']):=fun X Y Z=>
  ztv (m:=0) (es:=[zag c']) (by rw[zA];rfl) (by omega) (by simp[zag])
 have hr2:∀X Y Z:AObj,frz (σ++[X,Y,Z,A,B,.row g 8 (zcE [zag c']),.row g2 5 (zcE (zbq m.entries))]) σ.length 2 (.rsl (σ.length+6) g2 5 0 (zbq m.entries).length)=some (.slice (zbq m.entries)):=fun X Y Z=>
  ztv (m:=0) (by rw[zA];rfl) (by omega) h5
 refine zso (r:=zgd { m with changes:=[c'] }) ?_ hl hK;simp only[zck,frzT,frz1,List.map_cons,List.map_nil,frz_d,hr1,hr2,allO];rfl
theorem gq39 {A P Q:Prop}(a:A)(h:Q)(e:A->Hd Q->P:=by intro a h;(repeat' first|simp -dsimp only[↓zlC,↓zbR,↓zeb,↓zlD,↓zlu,↓zls,↓zlv,↓zlt,↓zeg,↓zec,↓zeh,↓zed,↓zlw,↓zdX,↓zei,↓zee,↓zej,↓zef,↓zlq,↓zlA,↓zdW,↓zem,↓zli,↓zlh,↓zln,iN,bT,bF,eN,↓zev,↓unC,↓zaC,↓zai,↓zaj,↓zav,↓zaW,↓zah,↓zgy,↓zaw,↓zbd,↓zad,↓ze,↓zl,↓zbg,↓zc,↓zaV,↓zN,↓zbS,↓zcl,↓zf,↓zF,↓zp,↓zM,↓zaB,↓zgF,↓zhG,↓zbc,↓zbz,↓zcf,↓zcz,↓zdj,↓zJ,↓zbb,↓zak,↓zO,↓zaU,zho,zdP,zdy,unA,zgu,bnd,ziP,zaO,zL,zhY,dm,dm1,zH,zaJ,zjT,zjS,keepO,Q0,Q1,Q2,Q3,Q4,Q5,zba,zA,zB,zX,zaa,Q6,Q7,Q8,Q9,Q10,Q11,Q12,Q13,Q14,Nat.reduceAdd,Q15,Int.reduceToNat,Q16,Q17,Q18,Q19,Q20,reduceIte,Q21,Q22,zy,rep,zaq,zhV,toD,zaD,Q23,Q24,Q25,Q26,Q27,Q28,Nat.reduceLeDiff,Q29,Nat.reduceSub,Q30,Q31,Q32,sc,Q33,Q34,Q35,Q36,Q37,Q26,Q38,Q39,zuP,zuM,zuJ,zuQ,zjr,zuN,zuK,zuO,zuL,zjq,zjs,zuS,zuT,Bool.not_true,Bool.not_false,List.length_map,Bool.and_false,Bool.and_self,Bool.false_and,Bool.not_false,Bool.not_true,Bool.true_and,Int.toNat_natCast,Int.toNat_zero,List.drop_zero,List.length_map,List.length_nil,List.nil_append,List.take_length,Nat.sub_zero,Nat.zero_add,Option.isSome_none,Option.isSome_some,Option.map_none,Option.map_some,zhP,zam,beq_self_eq_true,bft,bne,bne_self_eq_false,btf,bytesE,zcj,zhL,zag,zdd,zuU,zsi,zce,zow,opA,opD,zfy,zgo,zki,zay,zhY,a]|with_reducible refine zvh ?_|fail);exact h.go):P:=e a ⟨h⟩
theorem c_raWithG {m:zbj}{s:zK}(h1:m.kind=7->m.changes.length=1){K:KT}(hK:K (zgd (ziK m s)) σ):zP zpC [zgd m,.agg [.d (.int .i64 s.key),.d (.int .i64 s.dig)]] σ K:=by
 by_cases hk:m.kind=7;rotate_left
 ·rw[ziK,if_neg hk]at hK;have h7:(m.kind==7)=false:=by simpa using hk
  refine zen e_r11_with fun hl=>?_;simp only[ztU,iN,bT,bF,eN,zl3];refine zAi h7 ?_;refine zu hl ?_;exact hK
 obtain⟨c,hc⟩:=List.length_eq_one_iff.1 (h1 hk);have hw:ziK m s={ m with changes:=[{ c with key:=s.key,dig:=s.dig }] }:=by rw[ziK,if_pos hk,hc]
 rw[hw]at hK;clear hw;refine zsH zws.is rfl 2 fun hl _=>zws.goes ?_;obtain⟨c',hc'⟩:∃c':zbk,{ c with key:=s.key,dig:=s.dig }=c':=⟨_,rfl⟩;have hR':zcE [zag c']=[AV.d (.int .i64 c.view),.d (.int .i64 c.src),.d (.int .i64 c.cert.seq),.d (.int .i64 c.cert.dig),.d (.slice (zat c.cert.signs)),.d (.slice (zft c.above)),.d (.int .i64 s.key),.d (.int .i64 s.dig)]:=by rw[← hc'];rfl
 rw[hc']at hK;have hce:zap m.changes=[zag c]:=by rw[hc];rfl
 simp only[ztU,iN,bT,bF,eN,zl3,zxi,zl3];refine gq39 (zd (K7 hk) hce) ?_;refine zn 1 (fun k vs S=>vs=[.d (.int .i64 k)]/\S=σ++[.box (msgL2 m (.rsl (σ.length+3) 0 8 0 1) (.d (.slice (zbq m.entries)))),.box [.d (.int .i64 s.key),.d (.int .i64 s.dig)],.box zero30,.row 0 8 (zcE [zag (if k=0 then c else c')])]) ⟨rfl,rfl⟩ ?_;rintro k vs S hk1 ⟨rfl,rfl⟩;match k,hk1 with
 | 0,_=>
  have hR:zcE [zag (if 0=0 then c else c')]=[AV.d (.int .i64 c.view),.d (.int .i64 c.src),.d (.int .i64 c.cert.seq),.d (.int .i64 c.cert.dig),.d (.slice (zat c.cert.signs)),.d (.slice (zft c.above)),.d (.int .i64 c.key),.d (.int .i64 c.dig)]:=rfl
  rw[hR]
  refine zm (zd (show decide (((0:Nat):Int)<1)=true from rfl) (zd (show decide (((0:Nat):Int)<((1:Nat):Int))=true from rfl) (show decide ((0:Int)<1)=true from rfl))) ?_
  refine zaF.next (by omega) ⟨rfl,?_⟩
  rw[if_neg (by omega),hR']
 | 1,_=>
  rw[if_neg (by omega)]
  refine zm (zd (show decide (((1:Nat):Int)<1)=false from rfl) (zd (show decide (((1:Nat):Int)<((1:Nat):Int))=false from rfl) (show decide ((1:Int)<1)=false from rfl))) ?_
  have hr1:∀X Y Z:AObj,frz (σ++[X,Y,Z,.row 0 8 (zcE [zag c'])]) σ.length 2 (.rsl (σ.length+3) 0 8 0 1)=some (.slice [zag c']):=fun X Y Z=>
   ztv (m:=0) (es:=[zag c']) (by rw[zA];rfl) (by omega) (by simp[zag])
  refine zso (r:=zgd { m with changes:=[c'] }) ?_ hl hK
  simp only[zck,frzT,frz1,List.map_cons,List.map_nil,frz_d,hr1,allO]
  rfl
variable {σ:List AObj} {L:List (List UInt8)} {G:List zK}
def zfa (L:List (List UInt8)) (G:List zK) (m:zbj):Bool:=decide (zbJ m=0)&&(decide (zfA (zbo m)=0)&&(nilK m.kind || zhp L G (ownS m) m.src (zcF m)))
def zdu (L:List (List UInt8)) (G:List zK) (m:zbj):zyk:=
 if zfA (zbo m)≠0 then⟨zeq,zfA (zbo m),L,G⟩
 else if nilK m.kind=true then⟨ziK m ⟨0,0⟩,0,L,G⟩
 else if zvp L m.src (zcF m)≠0 then⟨zeq,zvp L m.src (zcF m),zfb L (zcF m),zol L G m.src (zcF m)⟩
 else⟨ziK m (sgnS L m.src (zcF m)),0,zfb L (zcF m),zol L G m.src (zcF m)⟩
theorem zzP {m:zbj}(h:zfA (zbo m)=0)(hk:m.kind=7):m.changes.length=1:=by
 obtain⟨c,hc,_⟩:=zwQ (m:=zbo m) (by rw[zrQ];exact hk) (zjy h).1;unfold zbo at hc;rw[if_pos hk]at hc;split at hc
 ·rename_i c' h';rw[h'];rfl
 ·rw[hc];rfl
theorem check_one {m:zbj}(h:zbJ m=0)(hk:m.kind=7):m.changes.length=1:=by
 obtain⟨c,hc,_⟩:=zwQ hk h;rw[hc];rfl
theorem zwO {m:zbj}(h:zfA (zbo m)=0):(zcF m).length<=1073741824:=by
 have hlen:=(zjy h).2;rw[ztu,List.length_append]at hlen;obtain⟨y1,y2,y3⟩:=zAf h;have vl:∀a b c d:Int,mayV a b c d=true->(zrI a b c d).length<=1073741824:=fun a b c d hm=>by
  simp only[mayV,Bool.and_eq_true,zvY]at hm;have:=zcd (l:=[a,b,c,d]) (by simp;omega);simp only[zrI,List.length_cons,List.length_nil]at this ⊢;omega
 unfold zcF;split
 ·exact vl _ _ _ _ (y1 (by assumption))
 ·split
  ·exact vl _ _ _ _ (y2 (by assumption))
  ·split
   ·exact vl _ _ _ _ (y3 (by assumption))
   ·split
    ·rename_i hk;have hc:=zpz hk h;have a1:=hc.view;have a2:=hc.client;have a3:=hc.time;have a4:=hc.rerr;have a5:=hc.roff;simp only[zvl]at a1 a2 a3 a4 a5;have:=zov (l:=[m.view,m.client,m.time,m.rerr,m.roff]) (by simp;omega);simp only[zoo,List.length_cons,List.length_nil]at this ⊢;omega
    ·simp only[List.length_cons];omega
theorem zpN (m:zbj):∃x u,zcF m=x::u:=by
 unfold zcF;split
 ·exact⟨_,_,rfl⟩
 ·split
  ·exact⟨_,_,rfl⟩
  ·split
   ·exact⟨_,_,rfl⟩
   ·split<;>exact⟨_,_,rfl⟩
theorem own7 {m:zbj}{c:zbk}(hk:m.kind=7)(hc:m.changes=[c]):ownS m=⟨c.key,c.dig⟩:=by rw[ownS,if_pos hk,hc]
theorem ownN {m:zbj}(hk:m.kind≠7):ownS m=⟨m.key,m.sdig⟩:=by rw[ownS,if_neg hk]
theorem c_auOwnG {m:zbj}(h1:m.kind=7->m.changes.length=1){K:KT}(hK:K (.agg [.d (.int .i64 (ownS m).key),.d (.int .i64 (ownS m).dig)]) σ):zP zto [zgd m] σ K:=by
 refine zey e_auth_own fun hl=>?_;simp only[zzK,iN,bT,bF,eN];by_cases hk:m.kind=7
 ·obtain⟨c,hc⟩:=List.length_eq_one_iff.1 (h1 hk);have hgx:(zap m.changes)[0]? = some (zag c):=by rw[hc];rfl
  have hgl:(zap m.changes).length=1:=by rw[hc];rfl
  rw[own7 hk hc]at hK;refine zdO (zd (K7 hk) (zd hgx hgl)) ?_;refine zu hl ?_;exact hK
 ·rw[ownN hk]at hK;refine zm (show(m.kind==7)=false by simpa using hk) ?_;refine zu hl ?_;exact hK
theorem c_raOfG {m:zbj}(h1:m.kind=7->m.changes.length=1){K:KT}(hK:K (.agg [.d (.int .i64 (ownS m).key),.d (.int .i64 (ownS m).dig)]) σ):zP zAc [zgd m] σ K:=by
 refine zey e_r11_of fun hl=>?_;simp only[S_r11_of,iN,bT,bF,eN];by_cases hk:m.kind=7
 ·obtain⟨c,hc⟩:=List.length_eq_one_iff.1 (h1 hk);have hgx:(zap m.changes)[0]? = some (zag c):=by rw[hc];rfl
  have hgl:(zap m.changes).length=1:=by rw[hc];rfl
  rw[own7 hk hc]at hK;refine zdO (zd (K7 hk) (zd hgx (zd hgl (show decide (((1:Nat):Int)>0)=true from rfl)))) ?_;refine zu hl ?_;exact hK
 ·rw[ownN hk]at hK;refine zm (show(m.kind==7)=false by simpa using hk) ?_;refine zu hl ?_;exact hK
theorem zzg {id m t id2 m2 t2:Nat}{M:zbj}(hT:zgO σ id m t L)(hG:zfj σ id2 m2 t2 G)(hL:zmI L)(hg:G.length<=1073741824)(hm:zaK M){K:KT}
  (hK:K (.d (.bool (zfa L G M))) σ):zP zhe [.box id 0,.box id2 0,zgd M] σ K:=by
 refine acE3 e_auth_Valid fun hl=>?_;have fin:∀z,zfa L G M=z->K (.d (.bool z)) σ:=fun z h=>h▸hK;clear hK;have hT1:=fun τ=>hT.app τ;have hG1:=fun τ=>hG.app τ;simp only[zuE,iN,bT,bF,eN];refine zG ?_;refine c_auMade (hT1 _) (hG1 _) hL hg ?_;refine zG ?_;refine c_mCheckG (m:=M) hm ?_;cases h1:(zbJ M != 0);rotate_left
 ·refine zm h1 ?_;refine zu hl ?_;exact fin _ (by simp at h1;simp[zfa,h1])
 have h1':zbJ M=0:=by simpa using h1
 refine zm h1 ?_;refine zuu (m:=M) hm ?_;cases h2:(zfA (zbo M)==0)
 ·refine zm h2 ?_;refine zu hl ?_;exact fin _ (by simp at h2;simp[zfa,h2])
 have h2':zfA (zbo M)=0:=by simpa using h2
 cases h3:nilK M.kind;rotate_left
 ·rw[zqi,if_neg (fun h=>by rw[h3]at h;cases h.2)];refine zm h2 ?_;refine zu hl ?_;exact fin _ (by simp[zfa,h1',h2',h3])
 rw[zqi,if_pos ⟨h2',h3⟩];obtain⟨x,u,hxu⟩:=zpN M;obtain⟨C,hC⟩:∃C,zcF M=C:=⟨_,rfl⟩;rw[hC]at hxu ⊢;have hbc:bcs C=zch x::bcs u:=by rw[hxu];rfl
 rw[hbc];refine zm h2 ?_;refine c_auOwnG (m:=M) (check_one h1') ?_;refine zG ?_;rw[← hbc];refine c_auSigned (s:=ownS M) (key:=M.src) (b:=C) (hT1 _) (hG1 _) ?_;refine zG ?_;refine zu hl ?_;refine fin _ ?_;simp[zfa,h1',h2',h3,hC]
theorem c_raValidG {id id2:Nat}{M:zbj}(hT:σ[id]? = some (rtO L))(hG:σ[id2]? = some (rlO G))(hL:L.length<=1048576)(hg:G.length<=1073741824)(hm:zaK M){K:KT}
  (hK:K (.d (.bool (zfa L G M))) σ):zP zqY [.box id 0,.box id2 0,zgd M] σ K:=by
 refine acE3 e_r11_Valid fun hl=>?_;have fin:∀z,zfa L G M=z->K (.d (.bool z)) σ:=fun z h=>h▸hK;clear hK;have hT1:=fun τ=>zi (τ:=τ) hT;have hG1:=fun τ=>zi (τ:=τ) hG;simp only[zxm,iN,bT,bF,eN];refine zG ?_;refine zut (m:=M) hm ?_;cases h2:(zfA (zbo M) != 0);rotate_left
 ·refine zm h2 ?_;refine zu hl ?_;exact fin _ (by simp at h2;simp[zfa,h2])
 have h2':zfA (zbo M)=0:=by simpa using h2
 refine zm h2 ?_;refine c_kCheckG (m:=M) hm ?_;cases h1:(zbJ M != 0);rotate_left
 ·refine zm h1 ?_;refine zu hl ?_;exact fin _ (by simp at h1;simp[zfa,h1])
 have h1':zbJ M=0:=by simpa using h1
 cases h3:nilK M.kind;rotate_left
 ·rw[zqi,if_neg (fun h=>by rw[h3]at h;cases h.2)];refine zm h1 ?_;refine zu hl ?_;exact fin _ (by simp[zfa,h1',h2',h3])
 rw[zqi,if_pos ⟨h2',h3⟩];obtain⟨x,u,hxu⟩:=zpN M;obtain⟨C,hC⟩:∃C,zcF M=C:=⟨_,rfl⟩;rw[hC]at hxu ⊢;have hbc:bcs C=zch x::bcs u:=by rw[hxu];rfl
 rw[hbc];refine zm h1 ?_;refine c_raOfG (m:=M) (check_one h1') ?_;refine zG ?_;rw[← hbc];refine c_raSigned (s:=ownS M) (key:=M.src) (b:=C) (hT1 _) (hG1 _) hL hg ?_;refine zG ?_;refine zu hl ?_;refine fin _ ?_;simp[zfa,h1',h2',h3,hC]
theorem c_auSealG {i:TGi}{m:zbj}(h:TG i σ L G)(hL:zmI L)(hg:G.length<=1073741824)(hm:zaK m){K:KT}
  (hK:K (.tup [zgd (zdu L G m).m,.d (.int .i64 (zdu L G m).e)]) (zhl i σ (zdu L G m).L (zdu L G m).G)):zP zky [.box i.id 0,.box i.id2 0,zgd m] σ K:=by
 refine acE3 e_auth_Seal fun hl=>?_;simp only[zxC,iN,bT,bF,eN,zl3];refine zG ?_;refine c_auMade (h.tab.app _) (h.led.app _) hL hg ?_;refine zG ?_;refine zuu (m:=m) hm ?_;by_cases h1:zfA (zbo m)=0;rotate_left
 ·have h1':(zfA (zbo m) != 0)=true:=by simpa using h1
  have e:zdu L G m=⟨zeq,zfA (zbo m),L,G⟩:=if_pos h1;rw[e]at hK;simp only[h.self,zgd,zAb]at hK;refine zm h1' ?_;refine zu hl ?_;exact hK
 have h1':(zfA (zbo m) != 0)=false:=by simpa using h1
 cases h3:nilK m.kind;rotate_left
 ·have e:zdu L G m=⟨ziK m ⟨0,0⟩,0,L,G⟩:=by rw[zdu,if_neg (by simpa using h1),if_pos h3]
  rw[e]at hK;simp only[h.self]at hK;rw[zqi,if_neg (fun h=>by rw[h3]at h;cases h.2)];refine zm h1' ?_;refine c_auWithG (m:=m) (s:=⟨0,0⟩) hm (zzP h1) ?_;refine zG ?_;refine zu hl ?_;exact hK
 rw[zqi,if_pos ⟨h1,h3⟩];have hbl:=zwO h1;have e:zdu L G m=if zvp L m.src (zcF m)≠0 then⟨zeq,zvp L m.src (zcF m),zfb L (zcF m),zol L G m.src (zcF m)⟩
   else⟨ziK m (sgnS L m.src (zcF m)),0,zfb L (zcF m),zol L G m.src (zcF m)⟩:=by rw[zdu,if_neg (by simpa using h1),if_neg (by rw[h3];simp)]
 obtain⟨x,u,hxu⟩:=zpN m;obtain⟨C,hC⟩:∃C,zcF m=C:=⟨_,rfl⟩;rw[hC]at hxu hbl e ⊢;rw[e]at hK;have hbc:bcs C=zch x::bcs u:=by rw[hxu];rfl
 rw[hbc];refine zm h1' ?_;rw[← hbc];refine c_auSign (h.app _) hL hbl hg ?_;rw[h.put_app];have h2:=h.put (zfb L C) (zol L G m.src C);have hl2:=h.lows hl (zfb L C) (zol L G m.src C);have hs2:=zkj i σ (zfb L C) (zol L G m.src C);have hpp:(if zvp L m.src C≠0 then(⟨zeq,zvp L m.src C,zfb L C,zol L G m.src C⟩:zyk)else⟨ziK m (sgnS L m.src C),0,zfb L C,zol L G m.src C⟩).L=zfb L C:=by split<;>rfl
 have hpg:(if zvp L m.src C≠0 then(⟨zeq,zvp L m.src C,zfb L C,zol L G m.src C⟩:zyk)else⟨ziK m (sgnS L m.src C),0,zfb L C,zol L G m.src C⟩).G=zol L G m.src C:=by split<;>rfl
 rw[hpp,hpg]at hK;clear hpp hpg e;obtain⟨S2,hS2⟩:∃S,zhl i σ (zfb L C) (zol L G m.src C)=S:=⟨_,rfl⟩;rw[hS2]at hK hs2 hl2 h2 ⊢;have r2:σ.length=S2.length:=hs2.symm;rw[r2]at hl2;obtain⟨sg,hsg⟩:∃s,sgnS L m.src C=s:=⟨_,rfl⟩;obtain⟨N,hN⟩:∃s,zvp L m.src C=s:=⟨_,rfl⟩;rw[hsg,hN]at hK;rw[hsg,hN];simp only[zuG];by_cases hn:N=0
 ·have hq2:(N != 0)=false:=by simpa using hn
  rw[if_neg (by simpa using hn)]at hK;refine zm (zd hq2 r2) ?_;refine c_auWithG (m:=m) (s:=sg) hm (zzP h1) ?_;refine zm r2 ?_;refine zeX rfl ?_ hl2 hK;simp[zgQ,dmT,dm,dm1,zck,zbw,zfs]
 ·have hq2:(N != 0)=true:=by simpa using hn
  rw[if_pos hn]at hK;simp only[zgd,zAb]at hK;refine zm (zd hq2 r2) ?_;refine zeX rfl ?_ hl2 hK;simp[zgQ,dmT,dm,dm1,zck,zbw,zfs]
theorem c_raSealG {id id2:Nat}{m:zbj}(hT:σ[id]? = some (rtO L))(hG:σ[id2]? = some (rlO G))(hne:id≠id2)(hL:L.length<=1048576)(hg:G.length<=1073741824)(hm:zaK m){K:KT}
  (hK:K (.tup [zgd (zdu L G m).m,.d (.int .i64 (zdu L G m).e)]) ((σ.set id (rtO (zdu L G m).L)).set id2 (rlO (zdu L G m).G))):zP zpD [.box id 0,.box id2 0,zgd m] σ K:=by
 refine acE3 e_r11_Seal fun hl=>?_;simp only[zzu,iN,bT,bF,eN,zl3];refine zG ?_;refine zut (m:=m) hm ?_;by_cases h1:zfA (zbo m)=0;rotate_left
 ·have h1':(zfA (zbo m) != 0)=true:=by simpa using h1
  have e:zdu L G m=⟨zeq,zfA (zbo m),L,G⟩:=if_pos h1;rw[e]at hK;simp only[zbQ hT,zbQ hG,zgd,zAb]at hK;refine zm h1' ?_;refine zu hl ?_;exact hK
 have h1':(zfA (zbo m) != 0)=false:=by simpa using h1
 cases h3:nilK m.kind;rotate_left
 ·have e:zdu L G m=⟨ziK m ⟨0,0⟩,0,L,G⟩:=by rw[zdu,if_neg (by simpa using h1),if_pos h3]
  rw[e]at hK;simp only[zbQ hT,zbQ hG]at hK;rw[zqi,if_neg (fun h=>by rw[h3]at h;cases h.2)];have hw:ziK m ⟨0,0⟩=withS m ⟨0,0⟩:=by rw[ziK,if_neg (fun hk=>by rw[hk]at h3;cases h3)]
  rw[hw]at hK;refine zm h1' ?_;refine zu hl ?_;exact hK
 rw[zqi,if_pos ⟨h1,h3⟩];have hbl:=zwO h1;have e:zdu L G m=if zvp L m.src (zcF m)≠0 then⟨zeq,zvp L m.src (zcF m),zfb L (zcF m),zol L G m.src (zcF m)⟩
   else⟨ziK m (sgnS L m.src (zcF m)),0,zfb L (zcF m),zol L G m.src (zcF m)⟩:=by rw[zdu,if_neg (by simpa using h1),if_neg (by rw[h3];simp)]
 obtain⟨x,u,hxu⟩:=zpN m;obtain⟨C,hC⟩:∃C,zcF m=C:=⟨_,rfl⟩;rw[hC]at hxu hbl e ⊢;rw[e]at hK;have hbc:bcs C=zch x::bcs u:=by rw[hxu];rfl
 rw[hbc];refine zm h1' ?_;rw[← hbc];refine c_raSign (zi hT) (zi hG) hne hbl hL hg ?_;rw[zdg hT,zdg (by rw[List.getElem?_set_ne hne];exact hG)];have hl2:zhm σ.length ((σ.set id (rtO (zfb L C))).set id2 (rlO (zol L G m.src C))):=(hl.setO (rtO_low _ _)).setO (rlO_low _ _);have hs2:((σ.set id (rtO (zfb L C))).set id2 (rlO (zol L G m.src C))).length=σ.length:=by simp
 have hpp:(if zvp L m.src C≠0 then(⟨zeq,zvp L m.src C,zfb L C,zol L G m.src C⟩:zyk)else⟨ziK m (sgnS L m.src C),0,zfb L C,zol L G m.src C⟩).L=zfb L C:=by split<;>rfl
 have hpg:(if zvp L m.src C≠0 then(⟨zeq,zvp L m.src C,zfb L C,zol L G m.src C⟩:zyk)else⟨ziK m (sgnS L m.src C),0,zfb L C,zol L G m.src C⟩).G=zol L G m.src C:=by split<;>rfl
 rw[hpp,hpg]at hK;clear hpp hpg e;obtain⟨S2,hS2⟩:∃S,(σ.set id (rtO (zfb L C))).set id2 (rlO (zol L G m.src C))=S:=⟨_,rfl⟩;rw[hS2]at hK hs2 hl2 ⊢;have r2:σ.length=S2.length:=hs2.symm;rw[r2]at hl2;obtain⟨sg,hsg⟩:∃s,sgnS L m.src C=s:=⟨_,rfl⟩;obtain⟨N,hN⟩:∃s,zvp L m.src C=s:=⟨_,rfl⟩;rw[hsg,hN]at hK;rw[hsg,hN];simp only[zuG];by_cases hn:N=0
 ·have hq2:(N != 0)=false:=by simpa using hn
  rw[if_neg (by simpa using hn)]at hK;refine zm (zd hq2 r2) ?_;refine c_raWithG (m:=m) (s:=sg) (zzP h1) ?_;refine zm r2 ?_;refine zeX rfl ?_ hl2 hK;simp[zgQ,dmT,dm,dm1,zck,zbw,zfs]
 ·have hq2:(N != 0)=true:=by simpa using hn
  rw[if_pos hn]at hK;simp only[zgd,zAb]at hK;refine zm (zd hq2 r2) ?_;refine zeX rfl ?_ hl2 hK;simp[zgQ,dmT,dm,dm1,zck,zbw,zfs]
abbrev zSigned:zr:=⟨0,0,⟨0,[],[],0,[]⟩,0,0⟩
section
variable {σ:List AObj} {x:AV} {K:KT}
end
variable {σ:List AObj} {L:List (List UInt8)} {G:List zK}
abbrev znc (f cl:Int) (t l:Nat) (time:Int) (w:List zr) (sy:AV) (ticks:Int) (la:List (List D)) (many:Int):List AV:=
 [.d (.bool true),.d (.int .i64 f),.d (.int .i64 cl),.box t 0,.box l 0,.d (.int .i64 time),.d (.slice (zbA w)),sy,.d (.int .i64 ticks),.d (.slice la),.d (.int .i64 many)]
theorem ztB {σ S:List AObj}{K:KT}{l:List AV}(h:S.take σ.length=σ)(h1:Low σ.length (dmT (zck l)))(hl:zhm σ.length σ)(hK:K (dmT (zck l)) σ):AW.Ends σ.length K (some l) S:=by
 unfold AW.Ends;rw[h];exact⟨h1,hl,hK⟩
section
variable {σ:List AObj} {K:KT}
theorem c_pNew {i:TGi}{f cl:Int}(h:TG i σ L G)(hL:zmI L)(hg:G.length<=1073741824)(hf:zhh f=0)(h0:0<=cl)(h8:cl<8)
  (hK:∀S q,σ.length<=q->S[q]? = some (.box (znc f cl i.id i.id2 0 [] (.d .nilmap) 0 [] 0))->(∀(j:Nat) (x:AObj),σ[j]? = some x->S[j]? = some x)->K (.tup [.box q 0,.d (.int .i64 0)]) S) :
  zP zfL [.d (.int .i64 f),.d (.int .i64 cl),.box i.id 0,.box i.id2 0] σ K:=by
 refine ACall.weaken ?_;refine zeN zkH.is rfl fun hl _=>zkH.goes ?_;simp only[zkP,iN,bT,bF,eN];have d1:decide (cl<0)=false:=by simp;omega
 have d2:decide (cl≥8)=false:=by simp;omega
 refine zG ?_;refine zvw h.tab hL.nd hL.len hL.each ?_;refine zG ?_;refine zAM (h.led.app _) hg fun g'=>?_;refine zG ?_;refine zwV ?_;rw[hf];refine zm (zd d1 (zd d2 (show((0:Int) != 0)=false from rfl))) ?_;obtain⟨R,hR⟩:∃R,σ++[AObj.map (tabM L),AObj.box [AV.own (σ.length+2) (zvJ L),AV.map σ.length],AObj.tok 1 L.length,AObj.map (zxG g'),AObj.box [AV.own (σ.length+5) (zug g'),AV.map (σ.length+3)],AObj.tok 2 g'.length]=R:=⟨_,rfl⟩;have hRl:R.length=σ.length+6:=by rw[← hR];simp
 have hRp:∀(j:Nat) (x:AObj),σ[j]? = some x->∀τ,(R++τ)[j]? = some x:=fun j x hx τ=>zi (by rw[← hR];exact zi hx);rw[show ∀X:AObj,σ++[AObj.map (tabM L),AObj.box [AV.own (σ.length+2) (zvJ L),AV.map σ.length],AObj.tok 1 L.length,AObj.map (zxG g'),AObj.box [AV.own (σ.length+5) (zug g'),AV.map (σ.length+3)],AObj.tok 2 g'.length,X]=R++[X]from fun X=>by rw[← hR];simp,← hRl];refine zlc ⟨.tup [.box R.length 0,.d (.int .i64 0)],R++[.box (znc f cl i.id i.id2 0 [] (.d .nilmap) 0 [] 0)],?_,hK _ R.length (by omega) (by rw[zB];rfl) fun j x hx=>hRp j x hx _⟩;refine .dataB R.length 6 _ (.exact []) [] (by rw[zB];rfl) rfl rfl ?_;rw[zaa];refine .dataB R.length 9 _ (.exact []) [] (by rw[zB];rfl) rfl rfl ?_;rw[zaa];exact .refl _ _
abbrev zda (l:List (Int × Int × Int)):List (AV × AV):=l.map fun e=>(.d (.int .i64 e.1),.agg [.d (.int .i64 e.2.1),.d (.int .i64 e.2.2)])
theorem zhb {f cl:Int}{q t l:Nat}{time:Int}{w:List zr}{sy:AV}{ticks:Int}{la:List (List D)}{many:Int}(h:σ[q]? = some (.box (znc f cl t l time w sy ticks la many)))(hK:K (.d (.bool false)) σ):zP zaf [.box q 0] σ K:=by
 refine zey zld fun hl=>?_;simp only[zgj,iN,bT,bF,eN];refine zm h ?_;refine zu hl ?_;exact hK
theorem says_get {l:List (Int × Int × Int)}{i:Nat}{e:AV × AV}(h:(zda l)[i]? = some e):∃x,l[i]? = some x/\e=(.d (.int .i64 x.1),.agg [.d (.int .i64 x.2.1),.d (.int .i64 x.2.2)]):=by
 simp only[zda,List.getElem?_map]at h;obtain⟨x,h1,h2⟩:=Option.map_eq_some_iff.1 h;exact⟨x,h1,h2.symm⟩
def zpW (l:List (Int × Int × Int)) (a b:Int):Nat:=l.countP fun e=>(a==e.2.1)&&(b==e.2.2)
theorem c_pVotes {f cl:Int}{q t l n:Nat}{time:Int}{w:List zr}{ticks:Int}{la:List (List D)}{many a b:Int}{sy:List (Int × Int × Int)}(h:σ[q]? = some (.box (znc f cl t l time w (.map n) ticks la many)))(hn:σ[n]? = some (.map (zda sy)))(hb:sy.length<=1000000)
  (hK:K (.d (.int .i64 (zpW sy a b))) σ):zP zdA [.box q 0,.agg [.d (.int .i64 a),.d (.int .i64 b)]] σ K:=by
 refine zen zkG fun hl=>?_;have hq:∀τ,(σ++τ)[q]? = some (.box (znc f cl t l time w (.map n) ticks la many)):=fun τ=>zi h;have hn':∀τ,(σ++τ)[n]? = some (.map (zda sy)):=fun τ=>zi hn;have hnl:=zZ hn;have hlen:(zda sy).length=sy.length:=List.length_map ..;simp only[zfV,iN,bT,bF,eN];refine zG ?_;refine zhb (hq _) ?_;refine zm hq ?_;simp only[zlV,hn'];intro c bs hbl hbn;rw[hlen]at hbl;obtain⟨X,hX⟩:∃X,AObj.box [.d (.int .i64 a),.d (.int .i64 b)]=X:=⟨_,rfl⟩;rw[hX];refine zn sy.length (fun k vs S=>∃seen ys T,vs=[.d (.int .i64 (zpW ys a b))]/\seen.length=k/\zlF bs sy seen ys/\seen.Nodup/\S=(σ.set n (.mapr c bs (zda sy))++X::.mit (some n) c seen::T)) ⟨[],[],[],rfl,rfl,.nil,.nil,by rw[List.set_append_left _ _ hnl];simp⟩ ?_;rintro k vs S hk ⟨seen,ys,T,rfl,rfl,hS,hsn,rfl⟩;obtain⟨ρ,hρ⟩:∃ρ,σ.set n (.mapr c bs (zda sy))=ρ:=⟨_,rfl⟩;have hρl:ρ.length=σ.length:=by rw[← hρ];simp
 have r1:∀τ,(ρ++τ)[n]? = some (.mapr c bs (zda sy)):=fun τ=>zi (by rw[← hρ];exact List.getElem?_set_self hnl);have r2:∀Y τ,(ρ++X::Y::τ)[σ.length+1]? = some Y:=fun Y τ=>by rw[← hρl,zA];rfl
 have r3:∀Y τ,(ρ++X::Y::τ)[σ.length]? = some X:=fun Y τ=>by rw[← hρl,zB];rfl
 have el:(σ++[X]).length=σ.length+1:=by simp
 rw[hρ];simp only[el,zqr,r1,r2,zJ];refine⟨trivial,fun hall=>?_,fun j b1 e hb1 he hnb=>?_⟩
 ·have hp:=hS.perm hsn hbn hbl hall;have hc:zpW ys a b=zpW sy a b:=hp.countP_eq _;rw[hc];refine zG ?_;refine ztB ?_ (by simp[zgQ,dmT,dm,dm1,zck]) hl hK;rw[List.set_append_left _ _ (by omega),List.take_append_of_le_length (by simp;omega),← hρ,List.set_set,zbQ hn,List.take_length]
 ·obtain⟨⟨key,x1,x2⟩,hx,rfl⟩:=says_get he;have hlt:seen.length<sy.length:=by
   have:=hS.lt hsn hbl (List.mem_of_getElem? hb1) hnb;rw[hS.1];exact this
  have hs2:(ρ++X::AObj.mit (some n) c seen::T).set (σ.length+1) (AObj.mit (some n) c (seen++[b1]))=ρ++X::AObj.mit (some n) c (seen++[b1])::T:=by
   rw[← hρl,zX];rfl
  have hS2:=hS.snoc hb1 hx;have hsn2:(seen++[b1]).Nodup:=by
   rw[List.nodup_append];exact⟨hsn,by simp,fun x hx y hy=>by simp at hy;subst hy;exact fun e=>hnb (e▸hx)⟩
  have hyl:ys.length<=1000000:=by have:=hS.1;omega
  have hcn:zpW ys a b<=ys.length:=List.countP_le_length;have hst:zpW (ys++[(key,x1,x2)]) a b=zpW ys a b+if ((a==x1)&&(b==x2))=true then 1 else 0:=by
   simp only[zpW,List.countP_append,List.countP_singleton]
  refine zG ?_;rw[hs2];simp only[znn,r1,r2];refine⟨trivial,j,b1,_,by simp,hb1,he,?_⟩;have r3':∀τ,(ρ++X::AObj.mit (some n) c (seen++[b1])::τ)[σ.length]? = some (.box [.d (.int .i64 a),.d (.int .i64 b)]):=fun τ=>by rw[hX];exact r3 _ _
  have hxy:zce [AV.d (.int .i64 a),AV.d (.int .i64 b)] [AV.d (.int .i64 x1),AV.d (.int .i64 x2)]=some ((a==x1)&&(b==x2)):=by simp[zce]
  cases hq2:((a==x1)&&(b==x2))
  ·rw[hq2]at hxy hst;refine zm (zd r3' hxy) ?_;refine zaF.next hlt ⟨seen++[b1],ys++[(key,x1,x2)],_,by rw[hst];simp,by simp,hS2,hsn2,rfl⟩
  ·rw[hq2]at hxy hst;refine zm (zd r3' (zd hxy (wk1 (zpW ys a b) (by omega)))) ?_;exact zaF.next hlt ⟨seen++[b1],ys++[(key,x1,x2)],_,by rw[hst];simp,by simp,hS2,hsn2,rfl⟩
end
def fsay (k:Int):List (Int × Int × Int)->Nat->Option (Nat × (Int × Int))
 | [],_=>none
 | e::r,i=>if k=e.1 then some (i,e.2)else fsay k r (i+1)
theorem ztp (s:Int):∀(l:List (Int × Int × Int)) (i:Nat),zoD .int (.d (.int .i64 s)) (zda l) i=some ((fsay s l i).map fun q=>(q.1,.agg [.d (.int .i64 q.2.1),.d (.int .i64 q.2.2)]))
 | [],_=>rfl
 | e::r,i=>by
  simp only[zda,List.map_cons,zoD,ziu,if_true,fsay];by_cases h:s=e.1
  ·simp[h]
  ·have:(s==e.1)=false:=by simpa using h
   simp only[this,if_neg h];exact ztp s r (i+1)
def zhr (l:List (Int × Int × Int)) (k a b:Int):List (Int × Int × Int):=match fsay k l 0 with
 | some q=>l.set q.1 (k,a,b)
 | none=>l++[(k,a,b)]
theorem says_set (l:List (Int × Int × Int))(i:Nat)(k a b:Int):(zda l).set i (.d (.int .i64 k),.agg [.d (.int .i64 a),.d (.int .i64 b)])=zda (l.set i (k,a,b)):=by
 simp only[zda,List.map_set]
theorem zzS (l:List (Int × Int × Int))(k a b:Int):zda l++[(.d (.int .i64 k),.agg [.d (.int .i64 a),.d (.int .i64 b)])]=zda (l++[(k,a,b)]):=by simp
theorem lowSays (n:Nat)(l:List (Int × Int × Int)):ztV n (.map (zda l)):=by
 intro e he;obtain⟨x,_,rfl⟩:=List.mem_map.1 he;refine⟨.d _,.agg _ fun c hc=>?_⟩;simp only[List.mem_cons,List.not_mem_nil,or_false]at hc;rcases hc with rfl|rfl<;>exact .d _
abbrev ansD (s:zr) (a b:Int):List D:=[.int .i64 s.client,.int .i64 s.time,.int .i64 s.op.kind,.str s.op.topic,.str s.op.group,.int .i64 s.op.offset,.slice (zdv s.op.recs),.int .i64 a,.int .i64 b]
theorem ends_take2 {n:Nat}{σ' S:List AObj}{K:KT}{l:List AV}(h:S.take n=σ')(h1:Low n (dmT (zck l)))(hl:zhm n σ')(hK:K (dmT (zck l)) σ'):AW.Ends n K (some l) S:=by
 unfold AW.Ends;rw[h];exact⟨h1,hl,hK⟩
section
variable {σ:List AObj} {K:KT}
theorem c_quSmall {f:Int}(hK:K (.d (.int .i64 (zfD 1 f))) σ):zP zma [.d (.int .i64 f)] σ K:=by
 refine zey zya fun hl=>?_;simp only[zqK,iN,bT,bF,eN];refine zG ?_;refine c_times (by omega) ?_;refine zG ?_;refine zu hl ?_;exact hK
theorem c_pTake {f cl:Int}{q t l n:Nat}{time:Int}{s:zr}{ticks:Int}{la:List (List D)}{many:Int}{sy:List (Int × Int × Int)}{m:zbj}
  (h:σ[q]? = some (.box (znc f cl t l time [s] (.map n) ticks la many))) (hn:σ[n]? = some (.map (zda sy))) (hb:sy.length<=900000)
  (hv:∀τ (K:KT),K (.d (.bool true)) (σ++τ)->zP zhe [.box t 0,.box l 0,zgd m] (σ++τ) K)
  (hk:m.kind=5) (hcl:m.client=cl) (htm:m.time=time) (hf:1<=f/\f<=4) (hsr:m.src<3*f+1) (hmn:0<=many/\many<=1000000)
  (hK0:(zpW (zhr sy m.src m.rerr m.roff) m.rerr m.roff:Int)<f+1->K (.d (.bool false)) (σ.set n (.map (zda (zhr sy m.src m.rerr m.roff)))))
  (hK1:¬(zpW (zhr sy m.src m.rerr m.roff) m.rerr m.roff:Int)<f+1->K (.d (.bool true)) ((σ.set n (.map (zda (zhr sy m.src m.rerr m.roff)))).set q (.box (znc f cl t l time [] (.d .nilmap) ticks [ansD s m.rerr m.roff] (many+1))))) :
  zP zaI [.box q 0,zgd m] σ K:=by
 refine zja zcH.is rfl fun hl _=>zcH.goes ?_;have hq:∀τ,(σ++τ)[q]? = some (.box (znc f cl t l time [s] (.map n) ticks la many)):=fun τ=>zi h;have hn':∀τ,(σ++τ)[n]? = some (.map (zda sy)):=fun τ=>zi hn;have hnl:=zZ hn;have hql:=zZ h;have hqn:q≠n:=fun e=>by rw[e,hn]at h;cases h
 have hmf:=ztp m.src sy 0;simp only[zcJ,iN,bT,bF,eN,zl1];refine zG ?_;refine zhb (hq _) ?_;refine zlr (zd hq (zd (show((1:Int)==0)=false from rfl) @List.length_cons.{0})) ?_;refine hv _ _ ?_;have e1:(m.kind != 5)=false:=by rw[hk];rfl
 have e2:(m.client != cl)=false:=by rw[hcl];simp
 have e3:(m.time != time)=false:=by rw[htm];simp
 have e4:zfD 3 f=3*f+1:=by rw[zfD,if_neg (by omega)]
 have e5:zfD 1 f=f+1:=by rw[zfD,if_neg (by omega),Int.one_mul]
 have e6:decide (m.src≥3*f+1)=false:=by simp;omega
 refine zm (zd hq (zd e1 (zd e2 (zd e3 (show(false==false)=true from rfl))))) ?_;refine zwW ?_;rw[e4];obtain⟨sy2,hsy2⟩:∃s,zhr sy m.src m.rerr m.roff=s:=⟨_,rfl⟩;rw[hsy2]at hK0 hK1;have hlen2:sy2.length<=1000000:=by
  rw[← hsy2];unfold zhr;split<;>simp<;>omega
 obtain⟨X,hX⟩:∃X,AObj.box (msgL m)=X:=⟨_,rfl⟩;obtain⟨S,hS⟩:∃S,(σ++[X]).set n (.map (zda sy2))=S:=⟨_,rfl⟩;have hx0:∀τ,(σ++X::τ)[σ.length]? = some (.box (msgL m)):=fun τ=>by rw[hX,zB];rfl
 have s1:S[q]? = some (.box (znc f cl t l time [s] (.map n) ticks la many)):=by rw[← hS,List.getElem?_set_ne (Ne.symm hqn)];exact hq _
 have s2:S[n]? = some (.map (zda sy2)):=by rw[← hS];exact List.getElem?_set_self (by simp;omega)
 have s3:S[σ.length]? = some (.box (msgL m)):=by rw[← hS,List.getElem?_set_ne (by omega)];exact hx0 _
 rw[hX];have zs:∀Y,(S.set q Y)[q]? = some Y:=fun Y=>List.getElem?_set_self (zZ s1);have hmw:IntKind.i64.wrap (many+1)=many+1:=zaT (by omega) (by omega);have fin1:K (.d (.bool true)) ((σ.set n (.map (zda sy2))).set q (.box (znc f cl t l time [] (.d .nilmap) ticks [ansD s m.rerr m.roff] (many+1)))) →
   EndsW σ.length K (some [.d (.bool true)]) (S.set q (.box [.d (.bool true),.d (.int .i64 f),.d (.int .i64 cl),.box t 0,.box l 0,.d (.int .i64 time),.exact [],.d .nilmap,.d (.int .i64 ticks),.exact [ansD s m.rerr m.roff],.d (.int .i64 (many+1))])):=fun hK=>by
  refine⟨S.set q (.box (znc f cl t l time [] (.d .nilmap) ticks [ansD s m.rerr m.roff] (many+1))),?_,?_⟩
  ·refine .dataB q 6 _ (.exact []) [] (zs _) rfl rfl ?_;rw[List.set_set];refine .dataB q 9 _ (.exact [ansD s m.rerr m.roff]) [ansD s m.rerr m.roff] (zs _) rfl rfl ?_;rw[List.set_set];exact .refl _ _
  ·have hS':S=σ.set n (.map (zda sy2))++[X]:=by rw[← hS,List.set_append_left _ _ hnl]
   rw[hS',List.set_append_left _ _ (by simpa using hql)];refine ends_take2 (by rw[List.take_append_of_le_length (by simp),List.take_of_length_le (by simp)]) (by simp[zgQ,dmT,dm,dm1,zck]) ((hl.setO (lowSays _ _)).setO ?_) hK;intro c hc;have hb:=hl q _ h c;simp only[List.mem_cons,List.not_mem_nil,or_false]at hc;rcases hc with rfl|rfl|rfl|rfl|rfl|rfl|rfl|rfl|rfl|rfl|rfl;all_goals first
    | exact .d _
    | exact hb (by simp)
 unfold zhr at hsy2;cases hfs:fsay m.src sy 0 with
 | none=>
  rw[hfs]at hmf hsy2
  simp only at hsy2
  refine gq26 (zd hq (zd e6 (zd hn' (zd hx0 (zd hmf (zd @zzS (zd hsy2 (zd hS (zd s1 (zd s2 s3)))))))))) ?_
  refine c_pVotes s1 s2 hlen2 ?_
  refine zm (zd hq (zd hx0 (zd @zzS (zd hsy2 (zd hS (zd s1 (zd s2 s3))))))) ?_
  refine c_quSmall ?_
  rw[e5]
  cases hlt:decide ((zpW sy2 m.rerr m.roff:Int)<f+1)
  ·refine zdO (zd hlt (zd s1 (zd s3 (zd zs (zd @List.set_set.{0} (zd @List.length_cons.{0} hmw)))))) ?_
   exact fin1 (hK1 (by simpa using hlt))
  ·refine zm hlt ?_
   refine ziI ?_
   rw[← hS,List.set_append_left _ _ hnl]
   exact zeK (by simp[zgQ,dmT,dm,dm1,zck]) hl (lowSays _ _) (hK0 (by simpa using hlt))
 | some o=>
  rw[hfs]at hmf hsy2
  simp only at hsy2
  refine gq26 (zd hq (zd e6 (zd hn' (zd hx0 (zd hmf (zd @says_set (zd hsy2 (zd hS (zd s1 (zd s2 s3)))))))))) ?_
  refine c_pVotes s1 s2 hlen2 ?_
  refine zm (zd hq (zd hx0 (zd @says_set (zd hsy2 (zd hS (zd s1 (zd s2 s3))))))) ?_
  refine c_quSmall ?_
  rw[e5]
  cases hlt:decide ((zpW sy2 m.rerr m.roff:Int)<f+1)
  ·refine zdO (zd hlt (zd s1 (zd s3 (zd zs (zd @List.set_set.{0} (zd @List.length_cons.{0} hmw)))))) ?_
   exact fin1 (hK1 (by simpa using hlt))
  ·refine zm hlt ?_
   refine ziI ?_
   rw[← hS,List.set_append_left _ _ hnl]
   exact zeK (by simp[zgQ,dmT,dm,dm1,zck]) hl (lowSays _ _) (hK0 (by simpa using hlt))
end
end Go.Proofs.YtdgcepphjnoalaaGreat
