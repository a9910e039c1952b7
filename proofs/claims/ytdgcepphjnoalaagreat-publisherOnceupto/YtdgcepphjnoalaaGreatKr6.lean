/- Contracts: which view-changes and new views are signed, the document's. -/
import Derived.Test.YtdgcepphjnoalaaGreatKr3
import Derived.Test.YtdgcepphjnoalaaGreatPp1
import Derived.Test.YtdgcepphjnoalaaGreatId3
import Derived.Test.YtdgcepphjnoalaaGreatSpTab
import Derived.Test.YtdgcepphjnoalaaGreatWr3
set_option linter.all false
set_option maxRecDepth 100000
namespace Go.Proofs.YtdgcepphjnoalaaGreat
open Go.AW
abbrev withS (m:zbD) (s:zI):zbD:={ m with key:=s.key,sdig:=s.dig }
theorem zzQ:msgL zee=[.d (.int .i64 0),.d (.int .i64 0),.d (.int .i64 0),.d (.int .i64 0),.d (.int .i64 0),.d (.int .i64 0),.d (.int .i64 0),.d (.int .i64 0),.d (.int .i64 0),.d (.slice []),.d (.int .i64 0),.d (.int .i64 0),.d (.slice []),.d (.slice []),.d (.slice []),.d (.slice []),.d (.str []),.d (.int .i64 0),.d (.str []),.d (.int .i64 0),.d (.slice []),.d (.slice []),.d (.int .i64 0),.d (.int .i64 0),.d (.slice []),.d (.int .i64 0),.d (.int .i64 0),.d (.slice []),.d (.int .i64 0),.d (.int .i64 0)]:=rfl
variable {σ:List AObj}
def zqa (m:zbD):AV:=if zfS (zbt m)=0/\nilK m.kind=false then .d (.slice (bcs (zdi m)))else .nils
theorem zzC {m:zbD}(h7:m.kind≠7):zbt m=if zeQ m.kind=true then zvl m else m:=by rw[zbt,if_neg h7]
theorem zrK (m:zbD):(zbt m).kind=m.kind:=by
 unfold zbt;split
 ·split<;>rfl
 ·split<;>rfl
theorem zzU {m:zbD}(h:zfS (zbt m)=0):(m.kind=2∨m.kind=3∨m.kind=4->mayV m.kind m.view m.seq m.dig=true)/\(m.kind=6->mayV m.kind 0 m.seq m.dig=true)/\(m.kind=9->mayV m.kind 0 m.seq 0=true):=by
 have hc:=(zjx h).1;have hall:=(zgJ hc).1;refine⟨fun hk=>?_,fun hk=>?_,fun hk=>?_⟩
 ·have ho:zeQ m.kind=true:=by simp only[zeQ,decide_eq_true_eq];omega
  have e:zbt m=zvl m:=by rw[zzC (by omega),if_pos ho]
  obtain⟨v1,v2,v3,v4⟩:=zzx hc (by rw[zrK];exact hk);rw[e]at v1 v2 v3 v4;simp only[mayV,zvF,Bool.and_eq_true,decide_eq_true_eq];simp only at v2 v3 v4;omega
 ·have e:zbt m=zvl m:=by rw[zzC (by omega),if_pos (by rw[hk];rfl)]
  rw[e]at hall;have g2:=zkz (hall (zkg m.seq) (by simp[zab,zB,hk]));have g3:=zkz (hall (zkg m.dig) (by simp[zab,zB,hk]));simp only[mayV,zvF,Bool.and_eq_true,decide_eq_true_eq];omega
 ·have e:zbt m=zvl m:=by rw[zzC (by omega),if_pos (by rw[hk];rfl)]
  rw[e]at hall;have g2:=zkz (hall (zeR m.seq) (by simp[zab,zB,hk]));simp only[mayV,zvF,Bool.and_eq_true,decide_eq_true_eq];omega
theorem zsP {m:zbD}(hk:m.kind=5)(h:zfS (zbt m)=0):ReplyOk (zvl m):=by
 have e:zbt m=zvl m:=by rw[zzC (by omega),if_pos (by rw[hk];rfl)]
 have:=(zjx h).1;rw[e]at this;exact zyN (m:=zvl m) hk this
theorem zuj {m:zbD}(hm:zaJ m){K:KT}
  (hK:K (.tup [zqa m,.d (.int .i64 (zfS (zbt m)))]) σ):zP ziK [zge m] σ K:=by
 refine zlr zoD.is rfl fun hl _=>zoD.goes ?_;simp only[zoR];refine zG ?_;refine c_mUnsignedG (m:=m) hm ?_;by_cases h1:zfS (zbt m)=0;rotate_left
 ·have h1':(zfS (zbt m) != 0)=true:=by simp[h1]
  refine zm h1' ?_;refine zu hl ?_;rw[zqa,if_neg (fun h=>h1 h.1)]at hK;exact hK
 have h1':(zfS (zbt m) != 0)=false:=by simp[h1]
 have hkk:=kinds (zjx h1).1;rw[zrK]at hkk;obtain⟨y1,y2,y3⟩:=zzU h1;have hlen:=(zjx h1).2;rw[if_pos h1];have hn:nilK m.kind=true->K (.tup [.nils,.d (.int .i64 0)]) σ:=fun hk=>by
  rw[zqa,if_neg (fun h=>by rw[hk]at h;cases h.2),h1]at hK;exact hK
 have hs:nilK m.kind=false->∀b,zdi m=b->K (.tup [.d (.slice (bcs b)),.d (.int .i64 0)]) σ:=fun hk b hb=>by
  rw[zqa,if_pos ⟨h1,hk⟩,h1,hb]at hK;exact hK
 clear hK;have ulen:(znT (zbt m)).length<=262144:=by rw[ztj,List.length_append]at hlen;omega
 by_cases hk:m.kind=2
 ·refine zm (zd h1' (K2 hk)) ?_;refine zhM (a:=m.kind) (b:=m.view) (c:=m.seq) (d:=m.dig) (y1 (by omega)) ?_;refine zG ?_;refine zu hl ?_;exact hs (by rw[hk];rfl) _ (by simp[zdi,hk])
 by_cases hk:m.kind=3
 ·refine zm (zd h1' (K3 hk)) ?_;refine zhM (a:=m.kind) (b:=m.view) (c:=m.seq) (d:=m.dig) (y1 (by omega)) ?_;refine zG ?_;refine zu hl ?_;exact hs (by rw[hk];rfl) _ (by simp[zdi,hk])
 by_cases hk:m.kind=4
 ·refine zm (zd h1' (K4 hk)) ?_;refine zhM (a:=m.kind) (b:=m.view) (c:=m.seq) (d:=m.dig) (y1 (by omega)) ?_;refine zG ?_;refine zu hl ?_;exact hs (by rw[hk];rfl) _ (by simp[zdi,hk])
 by_cases hk:m.kind=6
 ·refine zm (zd h1' (K6 hk)) ?_;refine zhM (a:=m.kind) (b:=0) (c:=m.seq) (d:=m.dig) (y2 hk) ?_;refine zG ?_;refine zu hl ?_;exact hs (by rw[hk];rfl) _ (by simp[zdi,hk])
 by_cases hk:m.kind=9
 ·refine zm (zd h1' (K9 hk)) ?_;refine zhM (a:=m.kind) (b:=0) (c:=m.seq) (d:=0) (y3 hk) ?_;refine zG ?_;refine zu hl ?_;exact hs (by rw[hk];rfl) _ (by simp[zdi,hk])
 by_cases hk:m.kind=5
 ·have hc:=zsP hk h1;refine zm (zd h1' (K5 hk)) ?_;refine c_auPut (b:=[5]) (l:=[m.view,m.client,m.time,m.rerr,m.roff]) (by simp) (by simp) ?_ ?_
  ·have a1:=hc.view;have a2:=hc.client;have a3:=hc.time;have a4:=hc.rerr;have a5:=hc.roff;simp only[zvl]at a1 a2 a3 a4 a5;simp;omega
  refine zG ?_;refine zu hl ?_;exact hs (by rw[hk];rfl) (replyB m) (by simp[zdi,hk])
 by_cases hk:m.kind=7
 ·refine zm (zd h1' (K7 hk)) ?_;refine⟨bcs1 _,by simp,by omega,?_⟩;refine zu hl ?_;exact hs (by rw[hk];rfl) (6::znT (zbt m)) (by simp[zdi,hk])
 by_cases hk:m.kind=8
 ·refine zm (zd h1' (K8 hk)) ?_;refine⟨bcs1 _,by simp,by omega,?_⟩;refine zu hl ?_;exact hs (by rw[hk];rfl) (6::znT (zbt m)) (by simp[zdi,hk])
 by_cases hk:m.kind=1
 ·refine zm (zd h1' (K1 hk)) ?_;refine zu hl ?_;exact hn (by rw[hk];rfl)
 by_cases hk:m.kind=10
 ·refine zm (zd h1' (K10 hk)) ?_;refine zu hl ?_;exact hn (by rw[hk];rfl)
 by_cases hk:m.kind=11
 ·refine zm (zd h1' (K11 hk)) ?_;refine zu hl ?_;exact hn (by rw[hk];rfl)
 have hk:m.kind=12:=by omega
 refine zm (zd h1' (K12 hk)) ?_;refine zu hl ?_;exact hn (by rw[hk];rfl)
variable {σ:List AObj}
theorem mgWalk {m:zbD}(hm:zaJ m){Z:ZT}
  (hZ:∀g g2 A B,ztL (σ.length+4) A->ztL (σ.length+4) B->Z (some [.agg (msgL2 m (.rsl (σ.length+2) g 8 0 m.changes.length) (.rsl (σ.length+3) g2 5 0 m.entries.length))]) (σ++[A,B,.row g 8 (zcG (zam m.changes)),.row g2 5 (zcG (zbq m.entries))])) :
  zjt Tryz.prog (zge m) σ Z:=by
 have hcl:(zam m.changes).length=m.changes.length:=List.length_map ..;have hel:(zbq m.entries).length=m.entries.length:=List.length_map ..;have h8:=changes_eight m.changes;have h5:=entries_five m.entries;have hal:=hm.changes;have hbl:=hm.entries;simp only[zjt,iN,bT,bF,eN,zl3];refine zG ?_;refine zkH (b:=m.batch) hm.batchS ?_;refine zG ?_;refine znt (c:=m.cert) hm.signs ?_;refine zG ?_;refine c_clByt ziA (by rw[zaj];exact hm.state) ?_;refine zG ?_;refine c_clChangeM h8 (by omega) fun g=>?_;refine zm hcl ?_;refine c_clEntryM h5 (by omega) fun g2=>?_;refine zm (zd hcl hel) ?_;obtain⟨R,hR⟩:∃R,zcG (zam m.changes)=R:=⟨_,rfl⟩;obtain⟨Q,hQ⟩:∃R,zcG (zbq m.entries)=R:=⟨_,rfl⟩;have hRl:R.length=m.changes.length*8:=by rw[← hR,zoB h8,hcl]
 have hQl:Q.length=m.entries.length*5:=by rw[← hQ,zoB h5,hel]
 rw[hR,hQ];refine zn m.changes.length (fun k vs s=>vs=[.d (.int .i64 k)]/\s=σ++[AObj.box (msgL2 m (.rsl (σ.length+2) g 8 0 m.changes.length) (.rsl (σ.length+3) g2 5 0 m.entries.length)),.box zero30,.row g 8 R,.row g2 5 Q]) ⟨rfl,rfl⟩ ?_;rintro k vs s hk ⟨rfl,rfl⟩;by_cases hlt:k<m.changes.length
 ·have hd:decide ((k:Int)<(m.changes.length:Int))=true:=by simp;omega
  have hx:m.changes[k]? = some m.changes[k]:=by simp[hlt]
  have hgx:=zQ (f:=zag) hx;have hsm:=(hm.change _ (List.getElem_mem hlt)).2;obtain⟨c,hc⟩:∃c,m.changes[k]=c:=⟨_,rfl⟩;rw[hc]at hx hgx hsm;have g8:=zwg h8 hgx;have s8:=row_same8 h8 hgx;rw[hR]at g8 s8;have zz8:k*8+8<=R.length:=by omega
  have zk:0<=(k:Int):=by omega
  refine zdy (zd hd (zd zk (zd zz8 g8))) ?_;refine zwP (c:=c) hsm ?_;refine zm (zd hd (zd zk (zd zz8 (wki k (by omega))))) ?_;simp only[zag,List.map_cons,List.map_nil,List.cons_append,List.nil_append]at s8;exact zaK.next hlt ⟨rfl,by rw[s8]⟩
 ·have hd:decide ((k:Int)<(m.changes.length:Int))=false:=by simp;omega
  refine zm hd ?_;refine zn m.entries.length (fun k vs s=>vs=[.d (.int .i64 k)]/\s=σ++[AObj.box (msgL2 m (.rsl (σ.length+2) g 8 0 m.changes.length) (.rsl (σ.length+3) g2 5 0 m.entries.length)),.box zero30,.row g 8 R,.row g2 5 Q]) ⟨rfl,rfl⟩ ?_;rintro k vs s hk ⟨rfl,rfl⟩;by_cases hlt:k<m.entries.length
  ·have hd:decide ((k:Int)<(m.entries.length:Int))=true:=by simp;omega
   have hx:m.entries[k]? = some m.entries[k]:=by simp[hlt]
   have hgx:=zQ (f:=zdg) hx;have hsm:=(hm.entry _ (List.getElem_mem hlt)).2;obtain⟨x,hxe⟩:∃c,m.entries[k]=c:=⟨_,rfl⟩;rw[hxe]at hx hgx hsm;have g2':=ztl h5 hgx (i:=2) (by omega);have s2:=zzJ g2';simp only[zdg,List.getElem?_cons_succ,List.getElem?_cons_zero,Option.map_some]at g2' s2;rw[hQ]at g2' s2;have zz2:k*5+2+1<=Q.length:=by omega
   have zk:0<=(k:Int):=by omega
   refine zkZ (zd hd (zd zk (zd zz2 g2'))) ?_;refine zkH (b:=x.batch) hsm ?_;refine zkZ (zd hd (zd zk (zd zz2 (zd s2 (wki k (by omega)))))) ?_;exact zaK.next hlt ⟨rfl,rfl⟩
  ·have hd:decide ((k:Int)<(m.entries.length:Int))=false:=by simp;omega
   have hp:=hm.proof;have hh5:∀e∈zmt m.proof.headers,e.length=5:=zjk (f:=zrY) (fun _=>rfl) _;have hh1:∀e∈zhV m.proof.path,e.length=1:=zjk (f:=fun x=>[D.int .i64 x]) (fun _=>rfl) _;refine zkZ hd ?_;refine c_clByt ziA (by rw[zaj];have:=hp.rec_;omega) ?_;refine zG ?_;refine c_clHdr hh5 (by rw[List.length_map];exact hp.headers) ?_;refine zG ?_;refine c_clDig hh1 (by rw[List.length_map];exact hp.path) ?_;refine zG ?_;refine znt (c:=m.proof.cert) hp.signs ?_;refine zG ?_;have z0:=hZ g g2;rw[hR,hQ]at z0;refine z0 _ _ ?_ ?_
   ·intro c hc;simp only[List.mem_cons,List.not_mem_nil,or_false]at hc;rcases hc with rfl|rfl|rfl|rfl|rfl|rfl|rfl|rfl|rfl|rfl|rfl|rfl|rfl|rfl|rfl|rfl|rfl|rfl|rfl|rfl|rfl|rfl|rfl|rfl|rfl|rfl|rfl|rfl|rfl|rfl<;>first|exact .d _|exact .rsl _ _ _ _ _ (by omega)
   ·intro c hc;simp only[List.mem_cons,List.not_mem_nil,or_false]at hc;rcases hc with rfl|rfl|rfl|rfl|rfl|rfl|rfl|rfl|rfl|rfl|rfl|rfl|rfl|rfl|rfl|rfl|rfl|rfl|rfl|rfl|rfl|rfl|rfl|rfl|rfl|rfl|rfl|rfl|rfl|rfl<;>first|exact .d _|exact .rsl _ _ _ _ _ (by omega)
variable {σ:List AObj}
theorem c_kParts12 {m:zbD}(hm:zaJ m)(hk:m.kind=12){K:KT}(hK:K (.d (.int .i64 (zav (zab m)))) σ):zP ziq [zge m] σ K:=by
 refine zez znl fun hl=>?_;have e0:zav (zab m)=zav [zjy m.src,zlT m.proof]:=by
  have e1:∀(x:Int) (l:List Int),zav (x::l)=zav [x,zav l]:=fun x l=>by
   simp only[zav];split
   ·rfl
   ·split<;>simp_all
  rw[show zab m=zjy m.src::zcU m.proof by simp[zab,zB,hk,show zeQ 12=false from rfl],e1,zlT]
 rw[e0]at hK;simp only[zkL,iN,bT,bF,eN];refine zG ?_;refine zbI ?_;refine zm (kk12 hk) ?_;refine ziX ?_;refine zm (kk12 hk) ?_;refine c_kProof (p:=m.proof) hm.proof ?_;refine zG ?_;refine zeF (l:=[zjy m.src,zlT m.proof]) (by simp) ?_;refine zG ?_;refine zu hl ?_;exact hK
variable {σ:List AObj}
theorem c_kVote {m:zbD}{e:Int}{K:KT}(hK:K (.d (.int .i64 (zav (zed m++[e,zx m.key m.sdig])))) σ):zP zhw [zge m,.d (.int .i64 e)] σ K:=by
 refine zec zws fun hl=>?_;simp only[zpa,iN,bT,bF,eN];refine zG ?_;refine ziX ?_;refine zG ?_;refine ziW ?_;refine zG ?_;refine zqq ?_;refine zG ?_;refine zqq ?_;refine zG ?_;refine zbI ?_;refine zG ?_;refine zeF (l:=zed m++[e,zx m.key m.sdig]) (by simp[zed]) ?_;refine zG ?_;refine zu hl ?_;exact hK
theorem c_kPartsG {m:zbD}(hm:zaJ m){K:KT}(hK:K (.d (.int .i64 (zav (zab m)))) σ):zP ziq [zge m] σ K:=by
 by_cases h7:m.kind=7
 ·exact c_kParts7 hm h7 hK
 by_cases h8:m.kind=8
 ·exact c_kParts8 hm h8 hK
 by_cases h12:m.kind=12
 ·exact c_kParts12 hm h12 hK
 refine zez znl fun hl=>?_;have hbl:(zbA m.batch).length=m.batch.length:=List.length_map ..;have fin:∀l:List Int,zav (zab m)=zav l->K (.d (.int .i64 (zav l))) σ:=fun z h=>h▸hK;have fin1:∀x:Int,zav (zab m)=x->K (.d (.int .i64 x)) σ:=fun z h=>h▸hK;clear hK;simp only[zkL,iN,bT,bF,eN];refine zG ?_;refine zbI ?_;by_cases hk:m.kind=1
 ·have e0:zab m=[inE m.batch.length 1 1,zD m.batch]:=by simp[zab,zB,hk,show zeQ 1=false from rfl]
  cases h1:((m.batch.length:Int) != 1)
  ·refine zm (zd (K1 hk) (zd hbl h1)) ?_;refine zhL (b:=m.batch) hm.batch ?_;refine zG ?_;refine zu hl ?_;refine fin1 _ ?_;simp only[bne_eq_false_iff_eq]at h1;rw[e0,inE,if_neg (by omega)];simp only[zav];split<;>simp_all
  ·refine zm (zd (K1 hk) (zd hbl h1)) ?_;refine zu hl ?_;refine fin1 _ ?_;simp only[bne_iff_ne,ne_eq]at h1;rw[e0,inE,if_pos (by omega)];rfl
 by_cases hk:m.kind=2
 ·have e0:zab m=zed m++[zD m.batch,zx m.key m.sdig]:=by simp[zab,zB,hk,show zeQ 2=true from rfl]
  refine zm (K2 hk) ?_;refine zhL (b:=m.batch) hm.batch ?_;refine zm (K2 hk) ?_;refine c_kVote (m:=m) ?_;refine zG ?_;refine zu hl ?_;exact fin _ (by rw[e0])
 by_cases hk:m.kind=3
 ·have e0:zab m=zed m++[zx m.key m.sdig]:=by simp[zab,zB,hk,show zeQ 3=true from rfl]
  refine zm (K3 hk) ?_;refine c_kVote (m:=m) ?_;refine zG ?_;refine zu hl ?_;exact fin _ (by rw[e0,zeD,zeD];rfl)
 by_cases hk:m.kind=4
 ·have e0:zab m=zed m++[zx m.key m.sdig]:=by simp[zab,zB,hk,show zeQ 4=true from rfl]
  refine zm (K4 hk) ?_;refine c_kVote (m:=m) ?_;refine zG ?_;refine zu hl ?_;exact fin _ (by rw[e0,zeD,zeD];rfl)
 by_cases hk:m.kind=5
 ·have e0:zab m=[zjy m.src,zeR m.view,inE m.client 0 7,zeR m.time,inE m.rerr 0 65536,zeR m.roff,zx m.key m.sdig]:=by simp[zab,zB,hk,show zeQ 5=true from rfl]
  refine zm (K5 hk) ?_;refine ziX ?_;refine zm (K5 hk) ?_;refine ziW ?_;refine zm (K5 hk) ?_;refine zwS ?_;refine zm (K5 hk) ?_;refine ziW ?_;refine zm (K5 hk) ?_;refine zwS ?_;refine zm (K5 hk) ?_;refine ziW ?_;refine zm (K5 hk) ?_;refine zeF (l:=[zjy m.src,zeR m.view,inE m.client 0 7,zeR m.time,inE m.rerr 0 65536,zeR m.roff,zx m.key m.sdig]) (by simp) ?_;refine zG ?_;refine zu hl ?_;exact fin _ (by rw[e0])
 by_cases hk:m.kind=6
 ·have e0:zab m=[zjy m.src,zkg m.seq,zkg m.dig,zx m.key m.sdig]:=by simp[zab,zB,hk,show zeQ 6=true from rfl]
  refine zm (K6 hk) ?_;refine ziX ?_;refine zm (K6 hk) ?_;refine zqq ?_;refine zm (K6 hk) ?_;refine zqq ?_;refine zm (K6 hk) ?_;refine zeF (l:=[zjy m.src,zkg m.seq,zkg m.dig,zx m.key m.sdig]) (by simp) ?_;refine zG ?_;refine zu hl ?_;exact fin _ (by rw[e0])
 by_cases hk:m.kind=9
 ·have e0:zab m=[zjy m.src,zeR m.seq,zx m.key m.sdig]:=by simp[zab,zB,hk,show zeQ 9=true from rfl]
  refine zm (K9 hk) ?_;refine ziX ?_;refine zm (K9 hk) ?_;refine ziW ?_;refine zm (K9 hk) ?_;refine zeF (l:=[zjy m.src,zeR m.seq,zx m.key m.sdig]) (by simp) ?_;refine zG ?_;refine zu hl ?_;exact fin _ (by rw[e0])
 by_cases hk:m.kind=10
 ·have e0:zab m=zjy m.src::(zbz m.cert++[inE m.state.length 0 262144]):=by simp[zab,zB,hk,show zeQ 10=false from rfl]
  refine zm (K10 hk) ?_;refine ziX ?_;refine zm (K10 hk) ?_;refine c_kCert (c:=m.cert) hm.signs ?_;refine zkZ (K10 hk) ?_;refine zwS ?_;refine zm (K10 hk) ?_;refine zeF (l:=[zjy m.src,zav (zbz m.cert),inE m.state.length 0 262144]) (by simp) ?_;refine zG ?_;refine zu hl ?_;exact fin _ (by rw[e0];simp only[zav];rw[zeD];rfl)
 by_cases hk:m.kind=11
 ·have e0:zab m=[inE m.client 0 7,zla m.topic,zeR m.offset]:=by simp[zab,zB,hk,show zeQ 11=false from rfl]
  refine zm (K11 hk) ?_;refine zwS ?_;refine zm (K11 hk) ?_;refine c_kName (x:=m.topic) (by have:=hm.topic;omega) ?_;refine zm (K11 hk) ?_;refine ziW ?_;refine zm (K11 hk) ?_;refine zeF (l:=[inE m.client 0 7,zla m.topic,zeR m.offset]) (by simp) ?_;refine zG ?_;refine zu hl ?_;exact fin _ (by rw[e0])
 have hr:¬(1<=m.kind/\m.kind<=12):=by omega
 refine zm (K0 hr) ?_;refine zu hl ?_;refine fin1 _ ?_;have ho:zeQ m.kind=false:=by simp[zeQ];omega
 have e0:zab m=[100]:=by
  simp only[zab,zB,ho];rw[if_neg (by omega),if_neg (by omega),if_neg (by omega),if_neg (by omega),if_neg (by omega),if_neg (by omega),if_neg (by omega),if_neg (by omega),if_neg (by omega),if_neg (by omega),if_neg (by omega)];rfl
 rw[e0];rfl
theorem c_kOnlyG {m:zbD}(hk0:1<=m.kind/\m.kind<=12){K:KT}(hK:K (zge (zfz m)) σ):zP zsW [zge m] σ K:=by
 refine zez e_r10_only fun hl=>?_;simp only[zzh,iN,bT,bF,eN,zl3];have hks:m.kind=1∨m.kind=2∨m.kind=3∨m.kind=4∨m.kind=5∨m.kind=6∨m.kind=7∨m.kind=8∨m.kind=9∨m.kind=10∨m.kind=11∨m.kind=12:=by omega
 rcases hks with hk|hk|hk|hk|hk|hk|hk|hk|hk|hk|hk|hk
 ·refine zm (K1 hk) ?_;refine zu hl ?_;simp only[zfz,hk,reduceIte]at hK;rw[hk];exact hK
 ·refine zm (K2 hk) ?_;refine zu hl ?_;simp only[zfz,hk,reduceIte]at hK;rw[hk];exact hK
 ·refine zm (K3 hk) ?_;refine zu hl ?_;simp only[zfz,hk,reduceIte]at hK;rw[hk];exact hK
 ·refine zm (K4 hk) ?_;refine zu hl ?_;simp only[zfz,hk,reduceIte]at hK;rw[hk];exact hK
 ·refine zm (K5 hk) ?_;refine zu hl ?_;simp only[zfz,hk,reduceIte]at hK;rw[hk];exact hK
 ·refine zm (K6 hk) ?_;refine zu hl ?_;simp only[zfz,hk,reduceIte]at hK;rw[hk];exact hK
 ·refine zm (K7 hk) ?_;refine zu hl ?_;simp only[zfz,hk,reduceIte]at hK;rw[hk];exact hK
 ·refine zm (K8 hk) ?_;refine zu hl ?_;simp only[zfz,hk,reduceIte]at hK;rw[hk];exact hK
 ·refine zm (K9 hk) ?_;refine zu hl ?_;simp only[zfz,hk,reduceIte]at hK;rw[hk];exact hK
 ·refine zm (K10 hk) ?_;refine zu hl ?_;simp only[zfz,hk,reduceIte]at hK;rw[hk];exact hK
 ·refine zm (K11 hk) ?_;refine zu hl ?_;simp only[zfz,hk,reduceIte]at hK;rw[hk];exact hK
 ·refine zm (K12 hk) ?_;refine zu hl ?_;simp only[zfz,hk,reduceIte]at hK;rw[hk];exact hK
theorem kinds0 {m:zbD}(h:zav (zab m)=0):1<=m.kind/\m.kind<=12:=by
 by_cases hk:1<=m.kind/\m.kind<=12
 ·exact hk
 have:=fstE_mem h 100 (by
  have e:∀j:Int,1<=j->j<=12->m.kind≠j:=fun j h1 h2 h3=>hk (by omega);simp[zab,zB,e])
 cases this
theorem c_kCheckG {m:zbD}(hm:zaJ m){K:KT}(hK:K (.d (.int .i64 (zbL m))) σ):zP znb [zge m] σ K:=by
 refine zez e_r10_Check fun hl=>?_;have fin:∀z,zbL m=z->K (.d (.int .i64 z)) σ:=fun z h=>h▸hK;clear hK;simp only[zxk,iN,bT,bF,eN];refine zG ?_;refine c_kPartsG (m:=m) hm ?_;cases h1:(zav (zab m) != 0);rotate_left
 ·refine zm h1 ?_;refine zu hl ?_;exact fin _ (by simp at h1;simp[zbL,h1])
 refine zm h1 ?_;refine c_kOnlyG (m:=m) (kinds0 (by simpa using h1)) ?_;refine zG ?_;refine c_kSame (a:=m) (b:=zfz m) hm (zyZ hm) ?_;cases h2:decide (m=zfz m)
 ·refine zG ?_;refine zu hl ?_;exact fin _ (by simp at h1 h2;simp[zbL,h1,h2])
 ·refine zG ?_;refine zu hl ?_;exact fin _ (by simp at h1 h2;simp[zbL,h1,← h2])
variable {σ:List AObj}
abbrev zon (p:zfi):List AV:=[.d (.str p.topic),.d (.int .i64 p.offset),.d (.slice (bcs p.rec_)),.d (.slice (zmt p.headers)),.d (.int .i64 p.index),.d (.int .i64 p.count),.d (.slice (zhV p.path)),.d (.int .i64 p.cert.seq),.d (.int .i64 p.cert.dig),.d (.slice (zat p.cert.signs))]
theorem c_kPutProof {b:List UInt8}{p:zfi}(hb:b.length<=1000000)(hp:zrA p){K:KT}(hK:K (.d (.slice (bcs (b++ztT p)))) σ) :
  zP zlL [.d (.slice (bcs b)),znA p] σ K:=by
 refine zec zxN fun hl=>?_;have hhl:(zmt p.headers).length=p.headers.length:=List.length_map ..;have hpl:(zhV p.path).length=p.path.length:=List.length_map ..;obtain⟨h1,h2,h3,h4,h5,h6,h7,h8,h9,h10⟩:=hp;have p1:=zdl (x:=p.topic) (by omega);have p2:=zdl (x:=p.rec_) (by omega);have n1:=zj (n:=p.offset.toNat) (by omega);have n2:=zj (n:=p.headers.length) (by omega);have n3:=zj (n:=p.index.toNat) (by omega);have n4:=zj (n:=p.count.toNat) (by omega);have n5:=zj (n:=p.path.length) (by omega);have q1:=zhI h10;simp only[zqx,iN,bT,bF,eN,znA];refine zG ?_;refine zgZ (b:=b) (x:=p.topic) (by omega) (by omega) ?_;rw[show zbx p.topic.length++p.topic=zkf p.topic from rfl];refine zG ?_;refine zeS (l:=[p.offset]) (by simp only[List.length_append];omega) (by simp) (by simp;omega) ?_;refine zm hhl ?_;refine zgZ (b:=b++(zkf p.topic++zS [p.offset])) (x:=p.rec_) (by omega) (by simp[zS];omega) ?_;rw[show zbx p.rec_.length++p.rec_=zkf p.rec_ from rfl];refine zm hhl ?_;refine zeS (b:=b++(zkf p.topic++(zS [p.offset]++zkf p.rec_))) (l:=[(p.headers.length:Int)]) (by simp[zS];omega) (by simp) (by simp;omega) ?_;rw[show zS [(p.headers.length:Int)]=zbx p.headers.length by simp[zS]];obtain⟨Q,hQ⟩:∃Q,b++(zkf p.topic++(zS [p.offset]++zkf p.rec_))++zbx p.headers.length=Q:=⟨_,rfl⟩;have hQl:Q.length<=1000400:=by rw[← hQ];simp[zS];omega
 rw[hQ];refine zm hhl ?_;refine zn p.headers.length (fun k vs s=>vs=[.d (.slice (bcs (Q++((p.headers.take k).map hdB).flatten))),.d (.int .i64 k)]/\∃T,s=σ++.box (zon p)::T) ⟨by simp,_,rfl⟩ ?_;rintro k vs s hk ⟨rfl,T,rfl⟩;have hlenC:(((p.headers.take k).map hdB).flatten).length<=64*50:=by
  have:=zcA (f:=hdB) (n:=50) (l:=p.headers.take k) fun s hm=>hdB_len (h5 s (List.mem_of_mem_take hm));have hlk:(p.headers.take k).length<=64:=by rw[List.length_take];omega
  have:(p.headers.take k).length*50<=64*50:=Nat.mul_le_mul_right _ hlk;omega
 have hbx0:(σ++AObj.box (zon p)::T)[σ.length]? = some (.box (zon p)):=by rw[zC];rfl
 by_cases hlt:k<p.headers.length
 ·have hd:decide ((k:Int)<(p.headers.length:Int))=true:=by simp;omega
  have hx:p.headers[k]? = some p.headers[k]:=by simp[hlt]
  have hpx:=hdr_ok (h5 _ (List.getElem_mem hlt));have hgx:=zQ (f:=zrY) hx;obtain⟨h,hh⟩:∃h,p.headers[k]=h:=⟨_,rfl⟩;rw[hh]at hx hgx hpx;have hbx:∀τ,(σ++AObj.box (zon p)::T++τ)[σ.length]? = some (.box (zon p)):=fun τ=>zi hbx0;have fin:∀τ,∃T',σ++AObj.box (zon p)::T++τ=σ++AObj.box (zon p)::T':=fun τ=>⟨T++τ,by simp⟩;obtain⟨S,hS⟩:∃S,σ++AObj.box (zon p)::T=S:=⟨_,rfl⟩;rw[hS]at hbx hbx0 fin ⊢;refine zdy (zd hd (zd hgx (zd hhl (zd hbx hbx0)))) ?_;refine zeS (l:=[h.seq,h.prev,h.batch,h.root,h.state]) (by simp only[List.length_append];omega) (by simp) hpx ?_;refine zm (wkc k (by omega)) ?_;refine zaK.next hlt ⟨?_,fin _⟩;rw[zcZ hx,hdB,← List.append_assoc]
 have hd:decide ((k:Int)<(p.headers.length:Int))=false:=by simp;omega
 rw[show p.headers.take k=p.headers from List.take_of_length_le (by omega)]at hlenC ⊢;obtain⟨T1,hT1⟩:∃T1,AObj.box (zon p)::T=T1:=⟨_,rfl⟩;rw[hT1]at hbx0 ⊢;refine zm (zd hd (zd hhl (zd hpl hbx0))) ?_;refine zeS (l:=[p.index,p.count,(p.path.length:Int)]) (by simp only[List.length_append];omega) (by simp) (by simp;omega) ?_;obtain⟨R,hR⟩:∃R,Q++(p.headers.map hdB).flatten++zS [p.index,p.count,(p.path.length:Int)]=R:=⟨_,rfl⟩;have hRl:R.length<=1004000:=by rw[← hR];simp[zS]at hlenC ⊢;omega
 rw[hR];refine zm hpl ?_;refine zn p.path.length (fun k vs s=>vs=[.d (.slice (bcs (R++zS (p.path.take k)))),.d (.int .i64 k)]/\∃T,s=σ++T/\T[0]? = some (.box (zon p))) ⟨by simp[zS],T1,by first|rfl|simp,by rw[← hT1];rfl⟩ ?_;rintro k vs s hk1 ⟨rfl,T2,rfl,hx2⟩;have hbx2:(σ++T2)[σ.length]? = some (.box (zon p)):=by rw[zC];exact hx2
 have hlenP:(zS (p.path.take k)).length<=80:=by
  have:=zcd (l:=p.path.take k) fun s hm=>h9 s (List.mem_of_mem_take hm);have hlk:(p.path.take k).length<=8:=by rw[List.length_take];omega
  omega
 by_cases hlt:k<p.path.length
 ·have hd:decide ((k:Int)<(p.path.length:Int))=true:=by simp;omega
  have hx:p.path[k]? = some p.path[k]:=by simp[hlt]
  have hpx:=h9 _ (List.getElem_mem hlt);have hgx:=zQ (f:=fun t=>[D.int .i64 t]) hx;obtain⟨h,hh⟩:∃h,p.path[k]=h:=⟨_,rfl⟩;rw[hh]at hx hgx hpx;refine zm (zd hd (zd hgx (zd hpl hbx2))) ?_;refine zeS (l:=[h]) (by simp only[List.length_append];omega) (by simp) (by simp;omega) ?_;refine zm (wkc k (by omega)) ?_;refine zaK.next hlt ⟨?_,T2,by first|rfl|simp,hx2⟩;rw[zpu hx,← List.append_assoc];simp[zS]
 have hd:decide ((k:Int)<(p.path.length:Int))=false:=by simp;omega
 rw[show p.path.take k=p.path from List.take_of_length_le (by omega)]at hlenP ⊢;refine zm (zd hd (zd hpl hbx2)) ?_;refine ztE (c:=p.cert) (by simp only[List.length_append];omega) h10 ?_;refine zG ?_;refine zu hl ?_;have fin:∀x,x=b++ztT p->K (dmT (zcm [.d (.slice (bcs x))])) σ:=by rintro _ rfl;exact hK
 exact fin _ (by rw[← hR,← hQ];simp[ztT,zS])
variable {σ:List AObj}
def sigK (k:Int):Bool:=decide (k=7∨zeQ k=true)
theorem zsr {m:zbD}(h:zbL m=0){K:KT}(hK:K (.tup [.d (.slice (bcs (znT m))),.d (.bool (sigK m.kind))]) σ) :
  zP zka [zge m] σ K:=by
 have hkk:=kinds h;by_cases h7:m.kind=7
 ·obtain⟨c,hc,he⟩:=zwG h7 h;exact c_kBody7 h7 hc (ziU he).1 (by rw[unsG7 (.inl h7)];rw[h7]at hK;exact hK)
 by_cases h8:m.kind=8
 ·exact c_kBody8 h8 (check8 h8 h).1 (by rw[unsG7 (.inr h8)];rw[h8]at hK;exact hK)
 have hall:=(zgJ h).1;have gi:∀n lo hi:Int,inE n lo hi∈zB m->lo<=n/\n<=hi:=fun n lo hi hm=>zkz (hall _ (by simp[zab,hm]));refine zez ztt fun hl=>?_;have n0:=zj (n:=m.kind.toNat) (by omega);have hf:∀(b':List UInt8) (z:Bool),b'=znT m->sigK m.kind=z->K (dmT (zcm [.d (.slice (bcs b')),.d (.bool z)])) σ:=fun b' z e e'=>by subst e;subst e';exact hK
 clear hK;simp only[zpN,iN,bT,bF,eN];refine zG ?_;refine zeS (b:=[]) (l:=[m.kind]) (by simp) (by simp) (by simp;omega) ?_;have e0:[]++zS [m.kind]=zbx m.kind.toNat:=by simp[zS]
 rw[e0];have hu:znT m=zbx m.kind.toNat++zfq m:=rfl;obtain⟨b1,hb1⟩:∃b1,zbx m.kind.toNat=b1:=⟨_,rfl⟩;rw[hb1]at hu n0 ⊢;by_cases hv:m.kind=2∨m.kind=3∨m.kind=4
 ·obtain⟨v1,v2,v3,v4⟩:=zzx h hv;have q:=zcd (l:=[m.src,m.view,m.seq,m.dig]) (by simp;omega);simp only[List.length_cons,List.length_nil]at q;rcases hv with hk|hk|hk
  ·have hcb:zD m.batch=0:=hall _ (by simp[zab,zB,hk]);have hbb:zdJ m.batch=zhi m.batch:=by simp[zdJ,hcb]
   refine zm (K2 hk) ?_;refine zeS (b:=b1) (l:=[m.src,m.view,m.seq,m.dig]) (by omega) (by simp) (by simp;omega) ?_;refine zm (K2 hk) ?_;refine zns (b:=b1++zS [m.src,m.view,m.seq,m.dig]) (l:=m.batch) (by simp only[List.length_append];omega) (fun x hx=>Nat.le_trans ((zdI hcb).1 x hx) (by omega)) (by have:=(zjT hcb).1;omega) ?_;rw[hbb];refine zG ?_;refine zu hl ?_;exact hf _ _ (by rw[hu];simp[zfq,hk]) (by rw[hk];rfl)
  ·refine zm (K3 hk) ?_;refine zeS (b:=b1) (l:=[m.src,m.view,m.seq,m.dig]) (by omega) (by simp) (by simp;omega) ?_;refine zG ?_;refine zu hl ?_;exact hf _ _ (by rw[hu];simp[zfq,hk]) (by rw[hk];rfl)
  ·refine zm (K4 hk) ?_;refine zeS (b:=b1) (l:=[m.src,m.view,m.seq,m.dig]) (by omega) (by simp) (by simp;omega) ?_;refine zG ?_;refine zu hl ?_;exact hf _ _ (by rw[hu];simp[zfq,hk]) (by rw[hk];rfl)
 by_cases hk:m.kind=1
 ·have hcb:zD m.batch=0:=hall _ (by simp[zab,zB,hk]);have hbb:zdJ m.batch=zhi m.batch:=by simp[zdJ,hcb]
  refine zm (K1 hk) ?_;refine zns (b:=b1) (l:=m.batch) (by omega) (fun x hx=>Nat.le_trans ((zdI hcb).1 x hx) (by omega)) (by have:=(zjT hcb).1;omega) ?_;rw[hbb];refine zG ?_;refine zu hl ?_;exact hf _ _ (by rw[hu];simp[zfq,hk]) (by rw[hk];rfl)
 by_cases hk:m.kind=5
 ·obtain⟨h1,h2,h3,h4,h5,h6,_⟩:=zyN hk h;have q:=zcd (l:=[m.src,m.view,m.client,m.time]) (by simp;omega);simp only[List.length_cons,List.length_nil]at q;refine zm (K5 hk) ?_;refine zeS (b:=b1) (l:=[m.src,m.view,m.client,m.time]) (by omega) (by simp) (by simp;omega) ?_;refine zm (K5 hk) ?_;refine c_rPutResult (e:=m.rerr) (o:=m.roff) (b:=b1++zS [m.src,m.view,m.client,m.time]) (by rw[List.length_append];omega) (by omega) (by omega) ?_;refine zG ?_;refine zu hl ?_;exact hf _ _ (by rw[hu];simp[zfq,hk,res_eq h5.1 h6.1]) (by rw[hk];rfl)
 by_cases hk:m.kind=6
 ·have g1:=gi m.src 0 12 (by simp[zB,hk,zjy]);have g2:=gi m.seq 1 9007199254740992 (by simp[zB,hk,zkg]);have g3:=gi m.dig 1 9007199254740992 (by simp[zB,hk,zkg]);refine zm (K6 hk) ?_;refine zeS (b:=b1) (l:=[m.src,m.seq,m.dig]) (by omega) (by simp) (by simp;omega) ?_;refine zG ?_;refine zu hl ?_;exact hf _ _ (by rw[hu];simp[zfq,hk]) (by rw[hk];rfl)
 by_cases hk:m.kind=9
 ·have g1:=gi m.src 0 12 (by simp[zB,hk,zjy]);have g2:=gi m.seq 0 9007199254740992 (by simp[zB,hk,zeR]);refine zm (K9 hk) ?_;refine zeS (b:=b1) (l:=[m.src,m.seq]) (by omega) (by simp) (by simp;omega) ?_;refine zG ?_;refine zu hl ?_;exact hf _ _ (by rw[hu];simp[zfq,hk]) (by rw[hk];rfl)
 by_cases hk:m.kind=10
 ·have g1:=gi m.src 0 12 (by simp[zB,hk,zjy]);have g2:∀e∈zbz m.cert,e=0:=fun e he=>hall e (by simp[zab,zB,hk,he]);have g3:=gi m.state.length 0 262144 (by simp[zB,hk]);have q:=zcd (l:=[m.src]) (by simp;omega);have q2:=zhI g2;simp only[List.length_cons,List.length_nil]at q;refine zm (K10 hk) ?_;refine zeS (b:=b1) (l:=[m.src]) (by omega) (by simp) (by simp;omega) ?_;refine zG ?_;refine ztE (b:=b1++zS [m.src]) (c:=m.cert) (by rw[List.length_append];omega) g2 ?_;refine zG ?_;refine zgZ (b:=b1++(zS [m.src]++zrt m.cert)) (x:=m.state) (by omega) (by simp only[List.length_append];omega) ?_;rw[show zbx m.state.length++m.state=zkf m.state from rfl];refine zG ?_;refine zu hl ?_;exact hf _ _ (by rw[hu];simp[zfq,hk]) (by rw[hk];rfl)
 by_cases hk:m.kind=11
 ·have g1:=gi m.client 0 7 (by simp[zB,hk]);have g2:=gi m.offset 0 9007199254740992 (by simp[zB,hk,zeR]);have g3:m.topic.length<=64:=by
   refine zyr ?_;have:=hall (zla m.topic) (by simp[zab,zB,hk]);unfold zla at this;split at this
   ·assumption
   ·cases this
  have q:=zcd (l:=[m.client]) (by simp;omega);have p1:=zdl (x:=m.topic) (by omega);simp only[List.length_cons,List.length_nil]at q;refine zm (K11 hk) ?_;refine zeS (b:=b1) (l:=[m.client]) (by omega) (by simp) (by simp;omega) ?_;refine zG ?_;refine zgZ (b:=b1++zS [m.client]) (x:=m.topic) (by omega) (by rw[List.length_append];omega) ?_;rw[show zbx m.topic.length++m.topic=zkf m.topic from rfl];refine zG ?_;refine zeS (b:=b1++(zS [m.client]++zkf m.topic)) (l:=[m.offset]) (by simp only[List.length_append];omega) (by simp) (by simp;omega) ?_;refine zG ?_;refine zu hl ?_;exact hf _ _ (by rw[hu];simp[zfq,hk]) (by rw[hk];rfl)
 have hk:m.kind=12:=by omega
 have g1:=gi m.src 0 12 (by simp[zB,hk,zjy]);have g2:zrA m.proof:=zzM fun e he=>hall e (by simp[zab,zB,hk,he]);have q:=zcd (l:=[m.src]) (by simp;omega);simp only[List.length_cons,List.length_nil]at q;refine zm (K12 hk) ?_;refine zeS (b:=b1) (l:=[m.src]) (by omega) (by simp) (by simp;omega) ?_;refine zG ?_;refine c_kPutProof (b:=b1++zS [m.src]) (p:=m.proof) (by rw[List.length_append];omega) g2 ?_;refine zG ?_;refine zu hl ?_;exact hf _ _ (by rw[hu];simp[zfq,hk]) (by rw[hk];rfl)
theorem zsq {m:zbD}(hm:zaJ m){K:KT}(hK:∀b:List UInt8,K (.tup [.d (.slice (bcs b)),.d (.int .i64 (zfS m))]) σ) :
  zP zqT [zge m] σ K:=by
 refine zez e_r10_Bytes fun hl=>?_;have fin:∀b z,zfS m=z->K (.tup [.d (.slice (bcs b)),.d (.int .i64 z)]) σ:=fun b z h=>h▸hK b;clear hK;simp only[zxl,iN,bT,bF,eN];refine zG ?_;refine c_kCheckG (m:=m) hm ?_;cases h1:(zbL m != 0);rotate_left
 ·refine zm h1 ?_;refine zu hl ?_;exact fin [] _ (by simp at h1;simp[zfS,h1])
 have h1':zbL m=0:=by simpa using h1
 have hul:=unsG_len hm.state h1';have fin2:∀u,ztj m=u->∀b,K (.tup [.d (.slice (bcs b)),.d (.int .i64 (if u.length>262144 then 3 else 0))]) σ:=fun u hu b=>fin b _ (by simp[zfS,h1',hu]);refine zm h1 ?_;refine zsr (m:=m) h1' ?_;by_cases h7:m.kind=7
 ·obtain⟨c,hc,he⟩:=zwG h7 h1';have hgx:(zam m.changes)[0]? = some (zag c):=by rw[hc];rfl
  have hgl:(zam m.changes).length=1:=by rw[hc];rfl
  have hsb:zcw c.key c.dig=zgp c.key c.dig:=by simp[zcw,(ziU he).2]
  refine zdy (zd (K7 h7) (zd hgx hgl)) ?_;refine ziy (b:=znT m) (by omega) ?_;rw[hsb];refine zG ?_;obtain⟨u,hu⟩:∃u,znT m++zgp c.key c.dig=u:=⟨_,rfl⟩;rw[hu];refine zAy (b:=u) ?_;refine zG ?_;refine zu hl ?_;exact fin2 u (by rw[← hu];simp[ztj,ownS,h7,hc]) _
 have h7':(m.kind==7)=false:=by simpa using h7
 by_cases ho:zeQ m.kind=true
 ·have hs:=own_ok h1' ho;have hsb:zcw m.key m.sdig=zgp m.key m.sdig:=by simp[zcw,hs]
  have hsk:sigK m.kind=true:=by simp[sigK,ho]
  refine zm (zd h7' hsk) ?_;refine ziy (b:=znT m) (by omega) ?_;rw[hsb];refine zG ?_;obtain⟨u,hu⟩:∃u,znT m++zgp m.key m.sdig=u:=⟨_,rfl⟩;rw[hu];refine zAy (b:=u) ?_;refine zG ?_;refine zu hl ?_;exact fin2 u (by rw[← hu];simp[ztj,ownS,h7,ho]) _
 ·have hsk:sigK m.kind=false:=by simp[sigK,h7,ho]
  refine zm (zd h7' hsk) ?_;refine zAy (b:=znT m) ?_;refine zG ?_;refine zu hl ?_;exact fin2 (znT m) (by simp[ztj,h7,ho]) _
variable {σ:List AObj}
theorem c_kUnsignedG {m:zbD}(hm:zaJ m){K:KT}
  (hK:K (.tup [.d (.slice (bcs (if zfS (zbt m)=0 then znT (zbt m)else []))),.d (.int .i64 (zfS (zbt m)))]) σ):zP zlM [zge m] σ K:=by
 refine zez zxO fun hl=>?_;have hs:=zyf hm;have hgl:(zam m.changes).length=m.changes.length:=List.length_map ..;have fin:∀b z,(if zfS (zbt m)=0 then znT (zbt m)else [])=b->zfS (zbt m)=z->K (.tup [.d (.slice (bcs b)),.d (.int .i64 z)]) σ:=fun b z h h'=>h▸h'▸hK;clear hK;obtain⟨M,hM⟩:∃M,zbt m=M:=⟨_,rfl⟩;rw[hM]at fin hs;simp only[zqy,iN,bT,bF,eN,zl6];by_cases h7:m.kind=7
 ·by_cases h1:m.changes.length=1
  ·obtain⟨c,hc⟩:=List.length_eq_one_iff.1 h1;have hgx:(zam m.changes)[0]? = some (zag c):=by rw[hc];rfl
   rw[some7 h7 hc]at hM;refine zdy (zd (K7 h7) (zd hgx (zd hgl h1))) ?_;subst hM;refine zsq (m:=uns7 m c) hs fun b0=>?_;cases hb:(zfS (uns7 m c) != 0)
   ·have hb':zfS (uns7 m c)=0:=by simpa using hb
    refine zm hb ?_;refine zsr (m:=uns7 m c) (zjx hb').1 ?_;refine zG ?_;refine zu hl ?_;exact fin _ _ (by rw[if_pos hb']) hb'
   ·have hb':zfS (uns7 m c)≠0:=by simpa using hb
    refine zm hb ?_;refine zu hl ?_;exact fin [] _ (by rw[if_neg hb']) rfl
  ·have hb1:(((m.changes.length:Nat):Int)==1)=false:=by simp;omega
   have e:zbt m=m:=by
    unfold zbt;rw[if_pos h7];split
    ·rename_i c hc;simp[hc]at h1
    ·rfl
   rw[e]at hM;refine zm (zd (K7 h7) (zd hgl hb1)) ?_;refine zwQ ?_;refine zm (show zeQ m.kind=false by rw[h7];rfl) ?_;subst hM;refine zsq (m:=m) hs fun b0=>?_;cases hb:(zfS (m) != 0)
   ·have hb':zfS (m)=0:=by simpa using hb
    refine zm hb ?_;refine zsr (m:=m) (zjx hb').1 ?_;refine zG ?_;refine zu hl ?_;exact fin _ _ (by rw[if_pos hb']) hb'
   ·have hb':zfS (m)≠0:=by simpa using hb
    refine zm hb ?_;refine zu hl ?_;exact fin [] _ (by rw[if_neg hb']) rfl
 by_cases ho:zeQ m.kind=true
 ·have e:zbt m=zvl m:=by simp[zbt,h7,ho]
  rw[e]at hM;refine zm (show(m.kind==7)=false by simpa using h7) ?_;refine zwQ ?_;refine zm ho ?_;subst hM;refine zsq (m:=zvl m) hs fun b0=>?_;cases hb:(zfS (zvl m) != 0)
  ·have hb':zfS (zvl m)=0:=by simpa using hb
   refine zm hb ?_;refine zsr (m:=zvl m) (zjx hb').1 ?_;refine zG ?_;refine zu hl ?_;exact fin _ _ (by rw[if_pos hb']) hb'
  ·have hb':zfS (zvl m)≠0:=by simpa using hb
   refine zm hb ?_;refine zu hl ?_;exact fin [] _ (by rw[if_neg hb']) rfl
 ·have ho':zeQ m.kind=false:=by simpa using ho
  have e:zbt m=m:=by simp[zbt,h7,ho]
  rw[e]at hM;refine zm (show(m.kind==7)=false by simpa using h7) ?_;refine zwQ ?_;refine zm ho' ?_;subst hM;refine zsq (m:=m) hs fun b0=>?_;cases hb:(zfS (m) != 0)
  ·have hb':zfS (m)=0:=by simpa using hb
   refine zm hb ?_;refine zsr (m:=m) (zjx hb').1 ?_;refine zG ?_;refine zu hl ?_;exact fin _ _ (by rw[if_pos hb']) hb'
  ·have hb':zfS (m)≠0:=by simpa using hb
   refine zm hb ?_;refine zu hl ?_;exact fin [] _ (by rw[if_neg hb']) rfl
theorem zui {m:zbD}(hm:zaJ m){K:KT}
  (hK:K (.tup [zqa m,.d (.int .i64 (zfS (zbt m)))]) σ):zP zjO [zge m] σ K:=by
 refine zlr zqn.is rfl fun hl _=>zqn.goes ?_;simp only[zqs];refine zG ?_;refine c_kUnsignedG (m:=m) hm ?_;by_cases h1:zfS (zbt m)=0;rotate_left
 ·have h1':(zfS (zbt m) != 0)=true:=by simp[h1]
  refine zm h1' ?_;refine zu hl ?_;rw[zqa,if_neg (fun h=>h1 h.1)]at hK;exact hK
 have h1':(zfS (zbt m) != 0)=false:=by simp[h1]
 have hkk:=kinds (zjx h1).1;rw[zrK]at hkk;obtain⟨y1,y2,y3⟩:=zzU h1;have hlen:=(zjx h1).2;rw[if_pos h1];have hn:nilK m.kind=true->K (.tup [.nils,.d (.int .i64 0)]) σ:=fun hk=>by
  rw[zqa,if_neg (fun h=>by rw[hk]at h;cases h.2),h1]at hK;exact hK
 have hs:nilK m.kind=false->∀b,zdi m=b->K (.tup [.d (.slice (bcs b)),.d (.int .i64 0)]) σ:=fun hk b hb=>by
  rw[zqa,if_pos ⟨h1,hk⟩,h1,hb]at hK;exact hK
 clear hK;have ulen:(znT (zbt m)).length<=262144:=by rw[ztj,List.length_append]at hlen;omega
 by_cases hk:m.kind=2
 ·refine zm (zd h1' (K2 hk)) ?_;refine zhK (a:=m.kind) (b:=m.view) (c:=m.seq) (d:=m.dig) (y1 (by omega)) ?_;refine zG ?_;refine zu hl ?_;exact hs (by rw[hk];rfl) _ (by simp[zdi,hk])
 by_cases hk:m.kind=3
 ·refine zm (zd h1' (K3 hk)) ?_;refine zhK (a:=m.kind) (b:=m.view) (c:=m.seq) (d:=m.dig) (y1 (by omega)) ?_;refine zG ?_;refine zu hl ?_;exact hs (by rw[hk];rfl) _ (by simp[zdi,hk])
 by_cases hk:m.kind=4
 ·refine zm (zd h1' (K4 hk)) ?_;refine zhK (a:=m.kind) (b:=m.view) (c:=m.seq) (d:=m.dig) (y1 (by omega)) ?_;refine zG ?_;refine zu hl ?_;exact hs (by rw[hk];rfl) _ (by simp[zdi,hk])
 by_cases hk:m.kind=6
 ·refine zm (zd h1' (K6 hk)) ?_;refine zhK (a:=m.kind) (b:=0) (c:=m.seq) (d:=m.dig) (y2 hk) ?_;refine zG ?_;refine zu hl ?_;exact hs (by rw[hk];rfl) _ (by simp[zdi,hk])
 by_cases hk:m.kind=9
 ·refine zm (zd h1' (K9 hk)) ?_;refine zhK (a:=m.kind) (b:=0) (c:=m.seq) (d:=0) (y3 hk) ?_;refine zG ?_;refine zu hl ?_;exact hs (by rw[hk];rfl) _ (by simp[zdi,hk])
 by_cases hk:m.kind=5
 ·have hc:=zsP hk h1;have a1:=hc.view;have a2:=hc.client;have a3:=hc.time;have a4:=hc.rerr;have a5:=hc.roff;simp only[zvl]at a1 a2 a3 a4 a5;have n1:=zj (n:=m.view.toNat) (by omega);have n2:=zj (n:=m.client.toNat) (by omega);have n3:=zj (n:=m.time.toNat) (by omega);have n4:=zj (n:=m.rerr.toNat) (by omega);refine zm (zd h1' (K5 hk)) ?_;refine znr (b:=[5]) (x:=m.view) (by simp) (by omega) (by omega) ?_;obtain⟨B,hB⟩:∃B,([5]:List UInt8)++zbx m.view.toNat=B:=⟨_,rfl⟩;have hBl:B.length<=11:=by rw[← hB];simp;omega
  rw[hB];refine zG ?_;refine znr (b:=B) (x:=m.client) (by omega) (by omega) (by omega) ?_;refine zG ?_;refine znr (x:=m.time) (by first|omega|(simp;omega)) (by omega) (by omega) ?_;refine zG ?_;refine znr (x:=m.rerr) (by first|omega|(simp;omega)) (by omega) (by omega) ?_;refine zG ?_;refine znr (x:=m.roff) (by first|omega|(simp;omega)) (by omega) (by omega) ?_;refine zG ?_;refine zu hl ?_;exact hs (by rw[hk];rfl) _ (by rw[← hB];simp[zdi,hk,replyB,zS])
 by_cases hk:m.kind=7
 ·refine zm (zd h1' (K7 hk)) ?_;refine⟨bcs1 _,by simp,by omega,?_⟩;refine zu hl ?_;exact hs (by rw[hk];rfl) (6::znT (zbt m)) (by simp[zdi,hk])
 by_cases hk:m.kind=8
 ·refine zm (zd h1' (K8 hk)) ?_;refine⟨bcs1 _,by simp,by omega,?_⟩;refine zu hl ?_;exact hs (by rw[hk];rfl) (6::znT (zbt m)) (by simp[zdi,hk])
 by_cases hk:m.kind=1
 ·refine zm (zd h1' (K1 hk)) ?_;refine zu hl ?_;exact hn (by rw[hk];rfl)
 by_cases hk:m.kind=10
 ·refine zm (zd h1' (K10 hk)) ?_;refine zu hl ?_;exact hn (by rw[hk];rfl)
 by_cases hk:m.kind=11
 ·refine zm (zd h1' (K11 hk)) ?_;refine zu hl ?_;exact hn (by rw[hk];rfl)
 have hk:m.kind=12:=by omega
 refine zm (zd h1' (K12 hk)) ?_;refine zu hl ?_;exact hn (by rw[hk];rfl)
variable {σ:List AObj}
theorem c_mgCloneF {m:zbD}(hm:zaJ m){K:KT}(hK:K (zge m) σ):zP zfL [zge m] σ K:=by
 refine zsx zgP.is rfl 2 fun hl _=>zgP.goes (mgWalk hm fun g g2 A B _ _=>?_);have hcl:(zam m.changes).length=m.changes.length:=List.length_map ..;have hel:(zbq m.entries).length=m.entries.length:=List.length_map ..;have h8:=changes_eight m.changes;have h5:=entries_five m.entries;obtain⟨R,hR⟩:∃R,zcG (zam m.changes)=R:=⟨_,rfl⟩;obtain⟨Q,hQ⟩:∃R,zcG (zbq m.entries)=R:=⟨_,rfl⟩;rw[hR,hQ];have hr1:frz (σ++[A,B,.row g 8 R,.row g2 5 Q]) σ.length 2 (.rsl (σ.length+2) g 8 0 m.changes.length)=some (.slice (zam m.changes)):=by
  rw[← hcl,← hR];exact ztk (m:=0) (by rw[zA];rfl) (by omega) h8
 have hr2:frz (σ++[A,B,.row g 8 R,.row g2 5 Q]) σ.length 2 (.rsl (σ.length+3) g2 5 0 m.entries.length)=some (.slice (zbq m.entries)):=by
  rw[← hel,← hQ];exact ztk (m:=0) (by rw[zA];rfl) (by omega) h5
 refine zse (r:=zge m) ?_ hl hK;simp only[zcm,frzT,frz1,List.map_cons,List.map_nil,frz_d,hr1,hr2,allO]
theorem c_mgCloneM {m:zbD}(hm:zaJ m){K:KT}
  (hK:∀g g2 A B,K (.agg (msgL2 m (.rsl (σ.length+2) g 8 0 m.changes.length) (.rsl (σ.length+3) g2 5 0 m.entries.length))) (σ++[A,B,.row g 8 (zcG (zam m.changes)),.row g2 5 (zcG (zbq m.entries))])) :
  zP zfL [zge m] σ K:=by
 refine zbO zgP.is rfl (fun s=>List.range' σ.length (s.length-σ.length)) fun hl _=>zgP.goes (mgWalk hm fun g g2 A B hA hB=>?_);refine zdn (σ':=σ) (os:=[A,B,.row g 8 (zcG (zam m.changes)),.row g2 5 (zcG (zbq m.entries))]) rfl (by simp) hl ?_ ?_ (hK g g2 A B)
 ·intro x hx;simp only[List.mem_cons,List.not_mem_nil,or_false]at hx;rcases hx with rfl|rfl|rfl|rfl
  ·exact hA
  ·exact hB
  ·exact zms _ _
  ·exact zms _ _
 ·simp only[zcm];refine .agg _ fun c hc=>?_;simp only[List.mem_cons,List.not_mem_nil,or_false]at hc;rcases hc with rfl|rfl|rfl|rfl|rfl|rfl|rfl|rfl|rfl|rfl|rfl|rfl|rfl|rfl|rfl|rfl|rfl|rfl|rfl|rfl|rfl|rfl|rfl|rfl|rfl|rfl|rfl|rfl|rfl|rfl<;>first|exact .d _|exact .rsl _ _ _ _ _ (by simp)
def zjK (m:zbD) (s:zI):zbD:=if m.kind=7 then(match m.changes with|c::_=>{ m with changes:=[{ c with key:=s.key,dig:=s.dig }] }|[]=>m)else withS m s
theorem c_auWithG {m:zbD}{s:zI}(hm:zaJ m)(h1:m.kind=7->m.changes.length=1){K:KT}(hK:K (zge (zjK m s)) σ):zP zkq [zge m,.agg [.d (.int .i64 s.key),.d (.int .i64 s.dig)]] σ K:=by
 by_cases hk:m.kind=7;rotate_left
 ·rw[zjK,if_neg hk]at hK;have h7:(m.kind==7)=false:=by simpa using hk
  refine zec e_auth_with fun hl=>?_;simp only[zxt,iN,bT,bF,eN,zl3];refine zG ?_;refine c_mgCloneF (m:=m) hm ?_;refine zm h7 ?_;refine zu hl ?_;exact hK
 obtain⟨c,hc⟩:=List.length_eq_one_iff.1 (h1 hk);have hw:zjK m s={ m with changes:=[{ c with key:=s.key,dig:=s.dig }] }:=by rw[zjK,if_pos hk,hc]
 rw[hw]at hK;clear hw;refine zsx zue.is rfl 2 fun hl _=>zue.goes ?_;have hel:(zbq m.entries).length=m.entries.length:=List.length_map ..;have h5:=entries_five m.entries;have hl1:m.changes.length=1:=h1 hk;have hR:zcG (zam m.changes)=(zag c).map .d:=by rw[hc];simp[zcG,zam]
 simp only[zuk,iN,bT,bF,eN,zl3];refine zG ?_;refine c_mgCloneM (m:=m) hm fun g g2 A B=>?_;obtain⟨Q,hQ⟩:∃R,zcG (zbq m.entries)=R:=⟨_,rfl⟩;rw[hR,hQ,hl1];refine zdy (K7 hk) ?_;obtain⟨c',hc'⟩:∃c':zbl,{ c with key:=s.key,dig:=s.dig }=c':=⟨_,rfl⟩;have hR':zcG [zag c']=[AV.d (.int .i64 c.view),.d (.int .i64 c.src),.d (.int .i64 c.cert.seq),.d (.int .i64 c.cert.dig),.d (.slice (zat c.cert.signs)),.d (.slice (zft c.above)),.d (.int .i64 s.key),.d (.int .i64 s.dig)]:=by rw[← hc'];rfl
 rw[hc']at hK;rw[← hR',← hel,← hQ];have hr1:∀X Y Z:AObj,frz (σ++[X,Y,Z,A,B,.row g 8 (zcG [zag c']),.row g2 5 (zcG (zbq m.entries))]) σ.length 2 (.rsl (σ.length+5) g 8 0 1)=some (.slice [zag c']):=fun X Y Z=>
  ztk (m:=0) (es:=[zag c']) (by rw[zA];rfl) (by omega) (by simp[zag])
 have hr2:∀X Y Z:AObj,frz (σ++[X,Y,Z,A,B,.row g 8 (zcG [zag c']),.row g2 5 (zcG (zbq m.entries))]) σ.length 2 (.rsl (σ.length+6) g2 5 0 (zbq m.entries).length)=some (.slice (zbq m.entries)):=fun X Y Z=>
  ztk (m:=0) (by rw[zA];rfl) (by omega) h5
 refine zse (r:=zge { m with changes:=[c'] }) ?_ hl hK;simp only[zcm,frzT,frz1,List.map_cons,List.map_nil,frz_d,hr1,hr2,allO];rfl
theorem gq39 {A P Q:Prop}(a:A)(h:Q)(e:A->Hd Q->P:=by intro a h;(repeat' first|simp -dsimp only[↓zmg,↓zcf,↓zep,↓zmh,↓zmb,↓zlZ,↓zmc,↓zma,↓zeu,↓zeq,↓zev,↓zer,↓zmd,↓zeo,↓zew,↓zes,↓zex,↓zet,↓zlY,↓zmf,↓zen,↓zey,↓zlW,↓zlV,↓zlX,iN,bT,bF,eN,↓zeO,↓unC,↓zaE,↓zan,↓zao,↓zaA,↓zbf,↓zah,↓zgR,↓zaz,↓zbe,↓zae,↓ze,↓zl,↓zbc,↓zc,↓zaY,↓zM,↓zce,↓zcB,↓zf,↓zF,↓zr,↓zN,↓zaC,↓zgY,↓zhU,↓zbi,↓zbJ,↓zcj,↓zcM,↓zdG,↓zL,↓zbh,↓zap,↓zR,↓zbb,zhS,zdY,zdS,unA,zgE,bnd,zjr,zaP,zK,ziD,dm,dm1,zH,zaI,zkw,zkv,keepO,Q0,Q1,Q2,Q3,Q4,Q5,zbg,zA,zC,zZ,zad,Q6,Q7,Q8,Q9,Q10,Q11,Q12,Q13,Q14,Nat.reduceAdd,Q15,Int.reduceToNat,Q16,Q17,Q18,Q19,Q20,reduceIte,Q21,Q22,zy,rep,zaq,zil,toD,zaD,Q23,Q24,Q25,Q26,Q27,Q28,Nat.reduceLeDiff,Q29,Nat.reduceSub,Q30,Q31,Q32,sc,Q33,Q34,Q35,Q36,Q37,Q26,Q38,Q39,zvP,zvM,zvJ,zvQ,zkt,zvN,zvK,zvO,zvL,zks,zku,zwb,zwc,Bool.not_true,Bool.not_false,List.length_map,Bool.and_false,Bool.and_self,Bool.false_and,Bool.not_false,Bool.not_true,Bool.true_and,Int.toNat_natCast,Int.toNat_zero,List.drop_zero,List.length_map,List.length_nil,List.nil_append,List.take_length,Nat.sub_zero,Nat.zero_add,Option.isSome_none,Option.isSome_some,Option.map_none,Option.map_some,zhN,zaj,beq_self_eq_true,bft,bne,bne_self_eq_false,btf,bytesE,zck,zhJ,zag,zdg,zuA,zrY,zcl,zor,opA,opD,zfx,zgo,zjj,zaw,ziD,a]|with_reducible refine zxa ?_|fail);exact h.go):P:=e a ⟨h⟩
theorem c_raWithG {m:zbD}{s:zI}(h1:m.kind=7->m.changes.length=1){K:KT}(hK:K (zge (zjK m s)) σ):zP zpw [zge m,.agg [.d (.int .i64 s.key),.d (.int .i64 s.dig)]] σ K:=by
 by_cases hk:m.kind=7;rotate_left
 ·rw[zjK,if_neg hk]at hK;have h7:(m.kind==7)=false:=by simpa using hk
  refine zec e_r11_with fun hl=>?_;simp only[ztK,iN,bT,bF,eN,zl3];refine zzX h7 ?_;refine zu hl ?_;exact hK
 obtain⟨c,hc⟩:=List.length_eq_one_iff.1 (h1 hk);have hw:zjK m s={ m with changes:=[{ c with key:=s.key,dig:=s.dig }] }:=by rw[zjK,if_pos hk,hc]
 rw[hw]at hK;clear hw;refine zsx zwj.is rfl 2 fun hl _=>zwj.goes ?_;obtain⟨c',hc'⟩:∃c':zbl,{ c with key:=s.key,dig:=s.dig }=c':=⟨_,rfl⟩;have hR':zcG [zag c']=[AV.d (.int .i64 c.view),.d (.int .i64 c.src),.d (.int .i64 c.cert.seq),.d (.int .i64 c.cert.dig),.d (.slice (zat c.cert.signs)),.d (.slice (zft c.above)),.d (.int .i64 s.key),.d (.int .i64 s.dig)]:=by rw[← hc'];rfl
 rw[hc']at hK;have hce:zam m.changes=[zag c]:=by rw[hc];rfl
 simp only[ztK,iN,bT,bF,eN,zl3,zxc,zl3];refine gq39 (zd (K7 hk) hce) ?_;refine zn 1 (fun k vs S=>vs=[.d (.int .i64 k)]/\S=σ++[.box (msgL2 m (.rsl (σ.length+3) 0 8 0 1) (.d (.slice (zbq m.entries)))),.box [.d (.int .i64 s.key),.d (.int .i64 s.dig)],.box zero30,.row 0 8 (zcG [zag (if k=0 then c else c')])]) ⟨rfl,rfl⟩ ?_;rintro k vs S hk1 ⟨rfl,rfl⟩;match k,hk1 with
 | 0,_=>
  have hR:zcG [zag (if 0=0 then c else c')]=[AV.d (.int .i64 c.view),.d (.int .i64 c.src),.d (.int .i64 c.cert.seq),.d (.int .i64 c.cert.dig),.d (.slice (zat c.cert.signs)),.d (.slice (zft c.above)),.d (.int .i64 c.key),.d (.int .i64 c.dig)]:=rfl
  rw[hR]
  refine zm (zd (show decide (((0:Nat):Int)<1)=true from rfl) (zd (show decide (((0:Nat):Int)<((1:Nat):Int))=true from rfl) (show decide ((0:Int)<1)=true from rfl))) ?_
  refine zaK.next (by omega) ⟨rfl,?_⟩
  rw[if_neg (by omega),hR']
 | 1,_=>
  rw[if_neg (by omega)]
  refine zm (zd (show decide (((1:Nat):Int)<1)=false from rfl) (zd (show decide (((1:Nat):Int)<((1:Nat):Int))=false from rfl) (show decide ((1:Int)<1)=false from rfl))) ?_
  have hr1:∀X Y Z:AObj,frz (σ++[X,Y,Z,.row 0 8 (zcG [zag c'])]) σ.length 2 (.rsl (σ.length+3) 0 8 0 1)=some (.slice [zag c']):=fun X Y Z=>
   ztk (m:=0) (es:=[zag c']) (by rw[zA];rfl) (by omega) (by simp[zag])
  refine zse (r:=zge { m with changes:=[c'] }) ?_ hl hK
  simp only[zcm,frzT,frz1,List.map_cons,List.map_nil,frz_d,hr1,allO]
  rfl
variable {σ:List AObj}
def zgg (L:List (List UInt8)) (G:List zI) (m:zbD):Bool:=decide (zbL m=0)&&(decide (zfS (zbt m)=0)&&(nilK m.kind || zim L G (ownS m) m.src (zdi m)))
def zem (L:List (List UInt8)) (G:List zI) (m:zbD):zya:=
 if zfS (zbt m)≠0 then⟨zee,zfS (zbt m),L,G⟩
 else if nilK m.kind=true then⟨zjK m ⟨0,0⟩,0,L,G⟩
 else if zxA L m.src (zdi m)≠0 then⟨zee,zxA L m.src (zdi m),zfX L (zdi m),zqe L G m.src (zdi m)⟩
 else⟨zjK m (sgnS L m.src (zdi m)),0,zfX L (zdi m),zqe L G m.src (zdi m)⟩
theorem zzB {m:zbD}(h:zfS (zbt m)=0)(hk:m.kind=7):m.changes.length=1:=by
 obtain⟨c,hc,_⟩:=zwG (m:=zbt m) (by rw[zrK];exact hk) (zjx h).1;unfold zbt at hc;rw[if_pos hk]at hc;split at hc
 ·rename_i c' h';rw[h'];rfl
 ·rw[hc];rfl
theorem check_one {m:zbD}(h:zbL m=0)(hk:m.kind=7):m.changes.length=1:=by
 obtain⟨c,hc,_⟩:=zwG hk h;rw[hc];rfl
theorem zwE {m:zbD}(h:zfS (zbt m)=0):(zdi m).length<=1073741824:=by
 have hlen:=(zjx h).2;rw[ztj,List.length_append]at hlen;obtain⟨y1,y2,y3⟩:=zzU h;have vl:∀a b c d:Int,mayV a b c d=true->(zvk a b c d).length<=1073741824:=fun a b c d hm=>by
  simp only[mayV,Bool.and_eq_true,zvE]at hm;have:=zcd (l:=[a,b,c,d]) (by simp;omega);simp only[zvk,List.length_cons,List.length_nil]at this ⊢;omega
 unfold zdi;split
 ·exact vl _ _ _ _ (y1 (by assumption))
 ·split
  ·exact vl _ _ _ _ (y2 (by assumption))
  ·split
   ·exact vl _ _ _ _ (y3 (by assumption))
   ·split
    ·rename_i hk;have hc:=zsP hk h;have a1:=hc.view;have a2:=hc.client;have a3:=hc.time;have a4:=hc.rerr;have a5:=hc.roff;simp only[zvl]at a1 a2 a3 a4 a5;have:=zoq (l:=[m.view,m.client,m.time,m.rerr,m.roff]) (by simp;omega);simp only[replyB,List.length_cons,List.length_nil]at this ⊢;omega
    ·simp only[List.length_cons];omega
theorem zpG (m:zbD):∃x u,zdi m=x::u:=by
 unfold zdi;split
 ·exact⟨_,_,rfl⟩
 ·split
  ·exact⟨_,_,rfl⟩
  ·split
   ·exact⟨_,_,rfl⟩
   ·split<;>exact⟨_,_,rfl⟩
theorem own7 {m:zbD}{c:zbl}(hk:m.kind=7)(hc:m.changes=[c]):ownS m=⟨c.key,c.dig⟩:=by rw[ownS,if_pos hk,hc]
theorem ownN {m:zbD}(hk:m.kind≠7):ownS m=⟨m.key,m.sdig⟩:=by rw[ownS,if_neg hk]
theorem c_auOwnG {m:zbD}(h1:m.kind=7->m.changes.length=1){K:KT}(hK:K (.agg [.d (.int .i64 (ownS m).key),.d (.int .i64 (ownS m).dig)]) σ):zP ztc [zge m] σ K:=by
 refine zez e_auth_own fun hl=>?_;simp only[zzw,iN,bT,bF,eN];by_cases hk:m.kind=7
 ·obtain⟨c,hc⟩:=List.length_eq_one_iff.1 (h1 hk);have hgx:(zam m.changes)[0]? = some (zag c):=by rw[hc];rfl
  have hgl:(zam m.changes).length=1:=by rw[hc];rfl
  rw[own7 hk hc]at hK;refine zdy (zd (K7 hk) (zd hgx hgl)) ?_;refine zu hl ?_;exact hK
 ·rw[ownN hk]at hK;refine zm (show(m.kind==7)=false by simpa using hk) ?_;refine zu hl ?_;exact hK
theorem c_raOfG {m:zbD}(h1:m.kind=7->m.changes.length=1){K:KT}(hK:K (.agg [.d (.int .i64 (ownS m).key),.d (.int .i64 (ownS m).dig)]) σ):zP zzR [zge m] σ K:=by
 refine zez e_r11_of fun hl=>?_;simp only[S_r11_of,iN,bT,bF,eN];by_cases hk:m.kind=7
 ·obtain⟨c,hc⟩:=List.length_eq_one_iff.1 (h1 hk);have hgx:(zam m.changes)[0]? = some (zag c):=by rw[hc];rfl
  have hgl:(zam m.changes).length=1:=by rw[hc];rfl
  rw[own7 hk hc]at hK;refine zdy (zd (K7 hk) (zd hgx (zd hgl (show decide (((1:Nat):Int)>0)=true from rfl)))) ?_;refine zu hl ?_;exact hK
 ·rw[ownN hk]at hK;refine zm (show(m.kind==7)=false by simpa using hk) ?_;refine zu hl ?_;exact hK
theorem zyU {id m t id2 m2 t2:Nat}{L:List (List UInt8)}{G:List zI}{M:zbD}(hT:zgK σ id m t L)(hG:zfj σ id2 m2 t2 G)(hL:zmF L)(hg:G.length<=1073741824)(hm:zaJ M){K:KT}
  (hK:K (.d (.bool (zgg L G M))) σ):zP zhd [.box id 0,.box id2 0,zge M] σ K:=by
 refine acE3 e_auth_Valid fun hl=>?_;have fin:∀z,zgg L G M=z->K (.d (.bool z)) σ:=fun z h=>h▸hK;clear hK;have hT1:=fun τ=>hT.app τ;have hG1:=fun τ=>hG.app τ;simp only[zut,iN,bT,bF,eN];refine zG ?_;refine c_auMade (hT1 _) (hG1 _) hL hg ?_;refine zG ?_;refine c_mCheckG (m:=M) hm ?_;cases h1:(zbL M != 0);rotate_left
 ·refine zm h1 ?_;refine zu hl ?_;exact fin _ (by simp at h1;simp[zgg,h1])
 have h1':zbL M=0:=by simpa using h1
 refine zm h1 ?_;refine zuj (m:=M) hm ?_;cases h2:(zfS (zbt M)==0)
 ·refine zm h2 ?_;refine zu hl ?_;exact fin _ (by simp at h2;simp[zgg,h2])
 have h2':zfS (zbt M)=0:=by simpa using h2
 cases h3:nilK M.kind;rotate_left
 ·rw[zqa,if_neg (fun h=>by rw[h3]at h;cases h.2)];refine zm h2 ?_;refine zu hl ?_;exact fin _ (by simp[zgg,h1',h2',h3])
 rw[zqa,if_pos ⟨h2',h3⟩];obtain⟨x,u,hxu⟩:=zpG M;obtain⟨C,hC⟩:∃C,zdi M=C:=⟨_,rfl⟩;rw[hC]at hxu ⊢;have hbc:bcs C=zch x::bcs u:=by rw[hxu];rfl
 rw[hbc];refine zm h2 ?_;refine c_auOwnG (m:=M) (check_one h1') ?_;refine zG ?_;rw[← hbc];refine c_auSigned (s:=ownS M) (key:=M.src) (b:=C) (hT1 _) (hG1 _) ?_;refine zG ?_;refine zu hl ?_;refine fin _ ?_;simp[zgg,h1',h2',h3,hC]
theorem c_raValidG {id id2:Nat}{L:List (List UInt8)}{G:List zI}{M:zbD}(hT:σ[id]? = some (rtO L))(hG:σ[id2]? = some (rlO G))(hL:L.length<=1048576)(hg:G.length<=1073741824)(hm:zaJ M){K:KT}
  (hK:K (.d (.bool (zgg L G M))) σ):zP zqR [.box id 0,.box id2 0,zge M] σ K:=by
 refine acE3 e_r11_Valid fun hl=>?_;have fin:∀z,zgg L G M=z->K (.d (.bool z)) σ:=fun z h=>h▸hK;clear hK;have hT1:=fun τ=>zi (τ:=τ) hT;have hG1:=fun τ=>zi (τ:=τ) hG;simp only[zxg,iN,bT,bF,eN];refine zG ?_;refine zui (m:=M) hm ?_;cases h2:(zfS (zbt M) != 0);rotate_left
 ·refine zm h2 ?_;refine zu hl ?_;exact fin _ (by simp at h2;simp[zgg,h2])
 have h2':zfS (zbt M)=0:=by simpa using h2
 refine zm h2 ?_;refine c_kCheckG (m:=M) hm ?_;cases h1:(zbL M != 0);rotate_left
 ·refine zm h1 ?_;refine zu hl ?_;exact fin _ (by simp at h1;simp[zgg,h1])
 have h1':zbL M=0:=by simpa using h1
 cases h3:nilK M.kind;rotate_left
 ·rw[zqa,if_neg (fun h=>by rw[h3]at h;cases h.2)];refine zm h1 ?_;refine zu hl ?_;exact fin _ (by simp[zgg,h1',h2',h3])
 rw[zqa,if_pos ⟨h2',h3⟩];obtain⟨x,u,hxu⟩:=zpG M;obtain⟨C,hC⟩:∃C,zdi M=C:=⟨_,rfl⟩;rw[hC]at hxu ⊢;have hbc:bcs C=zch x::bcs u:=by rw[hxu];rfl
 rw[hbc];refine zm h1 ?_;refine c_raOfG (m:=M) (check_one h1') ?_;refine zG ?_;rw[← hbc];refine c_raSigned (s:=ownS M) (key:=M.src) (b:=C) (hT1 _) (hG1 _) hL hg ?_;refine zG ?_;refine zu hl ?_;refine fin _ ?_;simp[zgg,h1',h2',h3,hC]
theorem c_auSealG {i:TGi}{L:List (List UInt8)}{G:List zI}{m:zbD}(h:TG i σ L G)(hL:zmF L)(hg:G.length<=1073741824)(hm:zaJ m){K:KT}
  (hK:K (.tup [zge (zem L G m).m,.d (.int .i64 (zem L G m).e)]) (zhk i σ (zem L G m).L (zem L G m).G)):zP zkr [.box i.id 0,.box i.id2 0,zge m] σ K:=by
 refine acE3 e_auth_Seal fun hl=>?_;simp only[zxw,iN,bT,bF,eN,zl3];refine zG ?_;refine c_auMade (h.tab.app _) (h.led.app _) hL hg ?_;refine zG ?_;refine zuj (m:=m) hm ?_;by_cases h1:zfS (zbt m)=0;rotate_left
 ·have h1':(zfS (zbt m) != 0)=true:=by simpa using h1
  have e:zem L G m=⟨zee,zfS (zbt m),L,G⟩:=if_pos h1;rw[e]at hK;simp only[h.self,zge,zzQ]at hK;refine zm h1' ?_;refine zu hl ?_;exact hK
 have h1':(zfS (zbt m) != 0)=false:=by simpa using h1
 cases h3:nilK m.kind;rotate_left
 ·have e:zem L G m=⟨zjK m ⟨0,0⟩,0,L,G⟩:=by rw[zem,if_neg (by simpa using h1),if_pos h3]
  rw[e]at hK;simp only[h.self]at hK;rw[zqa,if_neg (fun h=>by rw[h3]at h;cases h.2)];refine zm h1' ?_;refine c_auWithG (m:=m) (s:=⟨0,0⟩) hm (zzB h1) ?_;refine zG ?_;refine zu hl ?_;exact hK
 rw[zqa,if_pos ⟨h1,h3⟩];have hbl:=zwE h1;have e:zem L G m=if zxA L m.src (zdi m)≠0 then⟨zee,zxA L m.src (zdi m),zfX L (zdi m),zqe L G m.src (zdi m)⟩
   else⟨zjK m (sgnS L m.src (zdi m)),0,zfX L (zdi m),zqe L G m.src (zdi m)⟩:=by rw[zem,if_neg (by simpa using h1),if_neg (by rw[h3];simp)]
 obtain⟨x,u,hxu⟩:=zpG m;obtain⟨C,hC⟩:∃C,zdi m=C:=⟨_,rfl⟩;rw[hC]at hxu hbl e ⊢;rw[e]at hK;have hbc:bcs C=zch x::bcs u:=by rw[hxu];rfl
 rw[hbc];refine zm h1' ?_;rw[← hbc];refine c_auSign (h.app _) hL hbl hg ?_;rw[h.put_app];have h2:=h.put (zfX L C) (zqe L G m.src C);have hl2:=h.lows hl (zfX L C) (zqe L G m.src C);have hs2:=zke i σ (zfX L C) (zqe L G m.src C);have hpp:(if zxA L m.src C≠0 then(⟨zee,zxA L m.src C,zfX L C,zqe L G m.src C⟩:zya)else⟨zjK m (sgnS L m.src C),0,zfX L C,zqe L G m.src C⟩).L=zfX L C:=by split<;>rfl
 have hpg:(if zxA L m.src C≠0 then(⟨zee,zxA L m.src C,zfX L C,zqe L G m.src C⟩:zya)else⟨zjK m (sgnS L m.src C),0,zfX L C,zqe L G m.src C⟩).G=zqe L G m.src C:=by split<;>rfl
 rw[hpp,hpg]at hK;clear hpp hpg e;obtain⟨S2,hS2⟩:∃S,zhk i σ (zfX L C) (zqe L G m.src C)=S:=⟨_,rfl⟩;rw[hS2]at hK hs2 hl2 h2 ⊢;have r2:σ.length=S2.length:=hs2.symm;rw[r2]at hl2;obtain⟨sg,hsg⟩:∃s,sgnS L m.src C=s:=⟨_,rfl⟩;obtain⟨N,hN⟩:∃s,zxA L m.src C=s:=⟨_,rfl⟩;rw[hsg,hN]at hK;rw[hsg,hN];simp only[zuw];by_cases hn:N=0
 ·have hq2:(N != 0)=false:=by simpa using hn
  rw[if_neg (by simpa using hn)]at hK;refine zm (zd hq2 r2) ?_;refine c_auWithG (m:=m) (s:=sg) hm (zzB h1) ?_;refine zm r2 ?_;refine zfa rfl ?_ hl2 hK;simp[zha,dmT,dm,dm1,zcm,zbw,zfs]
 ·have hq2:(N != 0)=true:=by simpa using hn
  rw[if_pos hn]at hK;simp only[zge,zzQ]at hK;refine zm (zd hq2 r2) ?_;refine zfa rfl ?_ hl2 hK;simp[zha,dmT,dm,dm1,zcm,zbw,zfs]
theorem c_raSealG {id id2:Nat}{L:List (List UInt8)}{G:List zI}{m:zbD}(hT:σ[id]? = some (rtO L))(hG:σ[id2]? = some (rlO G))(hne:id≠id2)(hL:L.length<=1048576)(hg:G.length<=1073741824)(hm:zaJ m){K:KT}
  (hK:K (.tup [zge (zem L G m).m,.d (.int .i64 (zem L G m).e)]) ((σ.set id (rtO (zem L G m).L)).set id2 (rlO (zem L G m).G))):zP zpx [.box id 0,.box id2 0,zge m] σ K:=by
 refine acE3 e_r11_Seal fun hl=>?_;simp only[zzg,iN,bT,bF,eN,zl3];refine zG ?_;refine zui (m:=m) hm ?_;by_cases h1:zfS (zbt m)=0;rotate_left
 ·have h1':(zfS (zbt m) != 0)=true:=by simpa using h1
  have e:zem L G m=⟨zee,zfS (zbt m),L,G⟩:=if_pos h1;rw[e]at hK;simp only[zbS hT,zbS hG,zge,zzQ]at hK;refine zm h1' ?_;refine zu hl ?_;exact hK
 have h1':(zfS (zbt m) != 0)=false:=by simpa using h1
 cases h3:nilK m.kind;rotate_left
 ·have e:zem L G m=⟨zjK m ⟨0,0⟩,0,L,G⟩:=by rw[zem,if_neg (by simpa using h1),if_pos h3]
  rw[e]at hK;simp only[zbS hT,zbS hG]at hK;rw[zqa,if_neg (fun h=>by rw[h3]at h;cases h.2)];have hw:zjK m ⟨0,0⟩=withS m ⟨0,0⟩:=by rw[zjK,if_neg (fun hk=>by rw[hk]at h3;cases h3)]
  rw[hw]at hK;refine zm h1' ?_;refine zu hl ?_;exact hK
 rw[zqa,if_pos ⟨h1,h3⟩];have hbl:=zwE h1;have e:zem L G m=if zxA L m.src (zdi m)≠0 then⟨zee,zxA L m.src (zdi m),zfX L (zdi m),zqe L G m.src (zdi m)⟩
   else⟨zjK m (sgnS L m.src (zdi m)),0,zfX L (zdi m),zqe L G m.src (zdi m)⟩:=by rw[zem,if_neg (by simpa using h1),if_neg (by rw[h3];simp)]
 obtain⟨x,u,hxu⟩:=zpG m;obtain⟨C,hC⟩:∃C,zdi m=C:=⟨_,rfl⟩;rw[hC]at hxu hbl e ⊢;rw[e]at hK;have hbc:bcs C=zch x::bcs u:=by rw[hxu];rfl
 rw[hbc];refine zm h1' ?_;rw[← hbc];refine c_raSign (zi hT) (zi hG) hne hbl hL hg ?_;rw[zdk hT,zdk (by rw[List.getElem?_set_ne hne];exact hG)];have hl2:zhl σ.length ((σ.set id (rtO (zfX L C))).set id2 (rlO (zqe L G m.src C))):=(hl.setO (rtO_low _ _)).setO (rlO_low _ _);have hs2:((σ.set id (rtO (zfX L C))).set id2 (rlO (zqe L G m.src C))).length=σ.length:=by simp
 have hpp:(if zxA L m.src C≠0 then(⟨zee,zxA L m.src C,zfX L C,zqe L G m.src C⟩:zya)else⟨zjK m (sgnS L m.src C),0,zfX L C,zqe L G m.src C⟩).L=zfX L C:=by split<;>rfl
 have hpg:(if zxA L m.src C≠0 then(⟨zee,zxA L m.src C,zfX L C,zqe L G m.src C⟩:zya)else⟨zjK m (sgnS L m.src C),0,zfX L C,zqe L G m.src C⟩).G=zqe L G m.src C:=by split<;>rfl
 rw[hpp,hpg]at hK;clear hpp hpg e;obtain⟨S2,hS2⟩:∃S,(σ.set id (rtO (zfX L C))).set id2 (rlO (zqe L G m.src C))=S:=⟨_,rfl⟩;rw[hS2]at hK hs2 hl2 ⊢;have r2:σ.length=S2.length:=hs2.symm;rw[r2]at hl2;obtain⟨sg,hsg⟩:∃s,sgnS L m.src C=s:=⟨_,rfl⟩;obtain⟨N,hN⟩:∃s,zxA L m.src C=s:=⟨_,rfl⟩;rw[hsg,hN]at hK;rw[hsg,hN];simp only[zuw];by_cases hn:N=0
 ·have hq2:(N != 0)=false:=by simpa using hn
  rw[if_neg (by simpa using hn)]at hK;refine zm (zd hq2 r2) ?_;refine c_raWithG (m:=m) (s:=sg) (zzB h1) ?_;refine zm r2 ?_;refine zfa rfl ?_ hl2 hK;simp[zha,dmT,dm,dm1,zcm,zbw,zfs]
 ·have hq2:(N != 0)=true:=by simpa using hn
  rw[if_pos hn]at hK;simp only[zge,zzQ]at hK;refine zm (zd hq2 r2) ?_;refine zfa rfl ?_ hl2 hK;simp[zha,dmT,dm,dm1,zcm,zbw,zfs]
end Go.Proofs.YtdgcepphjnoalaaGreat
