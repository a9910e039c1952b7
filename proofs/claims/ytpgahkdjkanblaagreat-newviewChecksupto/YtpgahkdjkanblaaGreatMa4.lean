/- Contracts: a message's clone. -/
import Derived.Test.YtpgahkdjkanblaaGreatMa2
import Derived.Test.YtpgahkdjkanblaaGreatNv2
import Derived.Test.YtpgahkdjkanblaaGreatWr6
import Derived.Test.YtpgahkdjkanblaaGreatKr6
set_option linter.all false
set_option maxRecDepth 100000
namespace Go.Proofs.YtpgahkdjkanblaaGreat
open Go.AW
theorem preps_seven (l:List zbO):∀ e∈zdC l,e.length=7:=zec (f:=zei) (fun _=>rfl) l
theorem changes_eight (l:List zJ):∀ e∈zR l,e.length=8:=zec (f:=zat) (fun _=>rfl) l
theorem entries_five (l:List zaI):∀ e∈zu l,e.length=5:=zec (f:=zbh) (fun _=>rfl) l
theorem zxe {σ:List zd} {c:zJ} (hc:zjF c) {K:KT} (hK:K (.agg (zbj c)) σ):zj Tryz.prog zfR [.agg (zbj c)] σ K:=by
 refine zsF zhS.is rfl 2 fun hl _=>zhS.goes ?_
 have hlen:(zdC c.above).length=c.above.length:=List.length_map ..
 have h7:=preps_seven c.above
 have hal:=hc.above
 simp only [zhU,iN,bT,bF,eN,zl4]
 refine zQ ?_
 refine zne (c:=c.cert) hc.signs ?_
 refine zQ ?_
 refine c_clPrepM h7 (by omega) fun g => ?_
 refine zfC hlen ?_
 refine zl c.above.length (fun k vs s=>vs = [.d (.int .i64 k)]/\s = σ++[zd.box [.d (.int .i64 c.view),.d (.int .i64 c.src),.d (.int .i64 c.cert.seq),.d (.int .i64 c.cert.dig),.d (.slice (zO c.cert.signs)),.rsl (σ.length+2) g 7 0 c.above.length,.d (.int .i64 c.key),.d (.int .i64 c.dig)],
  .box [.d (.int .i64 0),.d (.int .i64 0),.d (.int .i64 0),.d (.int .i64 0),.exact [],.exact [],.d (.int .i64 0),.d (.int .i64 0)],.row g 7 (zac (zdC c.above))]) ⟨rfl,by first|rfl|simp⟩ ?_
 rintro k vs s hk ⟨rfl,rfl⟩
 by_cases hlt:k<c.above.length
 ·have hd:decide ((k:Int)<(c.above.length:Int))=true:=by simp;omega
  have hx:c.above[k]? = some c.above[k]:=by simp [hlt]
  have hgx:=zF (f:=zei) hx
  have hsm:=hc.each _ (List.getElem_mem hlt)
  obtain ⟨p,hp⟩:∃ p,c.above[k]=p:=⟨_,rfl⟩
  rw [hp] at hx hgx hsm
  have g5:=zjY h7 hgx (i := 5) (by omega)
  have g6:=zjY h7 hgx (i := 6) (by omega)
  have s5:=zzZ g5
  have s6:=zzZ g6
  have hfl:(zac (zdC c.above)).length=c.above.length*7:=by rw [zeM h7,hlen]
  simp only [zei,List.getElem?_cons_succ,List.getElem?_cons_zero,Option.map_some] at g5 g6 s5 s6
  obtain ⟨R,hR⟩:∃ R,zac (zdC c.above)=R:=⟨_,rfl⟩
  rw [hR] at g5 g6 s5 s6 hfl ⊢
  have zz5:k*7+5+1<=R.length:=by omega
  have zz6:k*7+6+1<=R.length:=by omega
  have zk:0<=(k:Int):=by omega
  refine zfC (zi hd (zi g5 (zi g6 (zi s5 (zi s6 (zi zk (zi zz5 (zi zz6 hd)))))))) ?_
  refine c_clSign hsm.signs ?_
  refine zfC (zi hd (zi g5 (zi g6 (zi s5 (zi s6 (zi zk (zi zz5 (zi zz6 hd)))))))) ?_
  refine zmj (b:=p.batch) hsm.batch ?_
  refine zfC (zi hd (zi g5 (zi g6 (zi s5 (zi s6 (zi zk (zi zz5 (zi zz6 (wki k (by omega)))))))))) ?_
  exact zan.next hlt ⟨rfl,rfl⟩
 ·have hd:decide ((k:Int)<(c.above.length:Int))=false:=by simp;omega
  refine zfC hd ?_
  have hr:∀ A B:zd,frz (σ++[A,B,.row g 7 (zac (zdC c.above))]) σ.length 2 (.rsl (σ.length+2) g 7 0 c.above.length)=some (.slice (zdC c.above)):=fun A B=>by
   rw [← hlen]
   exact zky (m := 0) (by rw [zB];rfl) (by omega) h7
  refine zmc (r := .agg (zbj c)) ?_ hl hK
  simp only [zcq,frzT,zxW,List.map_cons,List.map_nil,frz_d,hr,zyn]
abbrev zkb:List AV := [.d (.int .i64 0),.d (.int .i64 0),.d (.int .i64 0),.d (.int .i64 0),.d (.int .i64 0),.d (.int .i64 0),.d (.int .i64 0),.d (.int .i64 0),.d (.int .i64 0),.exact [],.d (.int .i64 0),.d (.int .i64 0),.exact [],.exact [],.exact [],.exact [],.d (.str []),.d (.int .i64 0),.d (.str []),.d (.int .i64 0),.exact [],.exact [],.d (.int .i64 0),.d (.int .i64 0),.exact [],.d (.int .i64 0),.d (.int .i64 0),.exact [],.d (.int .i64 0),.d (.int .i64 0)]
abbrev msgL2 (m:zcS) (a b:AV):List AV:=
 [.d (.int .i64 m.kind),.d (.int .i64 m.src),.d (.int .i64 m.view),.d (.int .i64 m.seq),.d (.int .i64 m.dig),.d (.int .i64 m.client),.d (.int .i64 m.time),.d (.int .i64 m.rerr),.d (.int .i64 m.roff),.d (.slice (zaP m.batch)),
  .d (.int .i64 m.cert.seq),.d (.int .i64 m.cert.dig),.d (.slice (zO m.cert.signs)),a,b,.d (.slice (bcs m.state)),.d (.str m.topic),.d (.int .i64 m.offset),
  .d (.str m.proof.topic),.d (.int .i64 m.proof.offset),.d (.slice (bcs m.proof.rec_)),.d (.slice (znX m.proof.headers)),.d (.int .i64 m.proof.index),.d (.int .i64 m.proof.count),.d (.slice (ziN m.proof.path)),.d (.int .i64 m.proof.cert.seq),.d (.int .i64 m.proof.cert.dig),.d (.slice (zO m.proof.cert.signs)),.d (.int .i64 m.key),.d (.int .i64 m.sdig)]
theorem c_mgClone {σ:List zd} {m:zcS} (hm:zbn m) {K:KT} (hK:K (zeR m) σ):zj Tryz.prog zko [zeR m] σ K:=by
 refine zsF znp.is rfl 2 fun hl _=>znp.goes ?_
 have hcl:(zR m.changes).length=m.changes.length:=List.length_map ..
 have hel:(zu m.entries).length=m.entries.length:=List.length_map ..
 have h8:=changes_eight m.changes
 have h5:=entries_five m.entries
 have hal:=hm.changes
 have hbl:=hm.entries
 simp only [znw,iN,bT,bF,eN,zl0]
 refine zQ ?_
 refine zmj (b:=m.batch) hm.batchS ?_
 refine zQ ?_
 refine zne (c:=m.cert) hm.signs ?_
 refine zQ ?_
 refine c_clByt zez (by rw [zX];exact hm.state) ?_
 refine zQ ?_
 refine c_clChangeM h8 (by omega) fun g => ?_
 refine zfC hcl ?_
 refine c_clEntryM h5 (by omega) fun g2 => ?_
 refine zfC (zi hcl hel) ?_
 obtain ⟨R,hR⟩:∃ R,zac (zR m.changes)=R:=⟨_,rfl⟩
 obtain ⟨Q,hQ⟩:∃ R,zac (zu m.entries)=R:=⟨_,rfl⟩
 have hRl:R.length=m.changes.length*8:=by rw [← hR,zeM h8,hcl]
 have hQl:Q.length=m.entries.length*5:=by rw [← hQ,zeM h5,hel]
 rw [hR,hQ]
 refine zl m.changes.length (fun k vs s=>vs = [.d (.int .i64 k)]/\s = σ++[zd.box (msgL2 m (.rsl (σ.length+2) g 8 0 m.changes.length) (.rsl (σ.length+3) g2 5 0 m.entries.length)),.box zkb,.row g 8 R,.row g2 5 Q]) ⟨rfl,rfl⟩ ?_
 rintro k vs s hk ⟨rfl,rfl⟩
 by_cases hlt:k<m.changes.length
 ·have hd:decide ((k:Int)<(m.changes.length:Int))=true:=by simp;omega
  have hx:m.changes[k]? = some m.changes[k]:=by simp [hlt]
  have hgx:=zF (f:=zat) hx
  have hsm:=(hm.change _ (List.getElem_mem hlt)).2
  obtain ⟨c,hc⟩:∃ c,m.changes[k]=c:=⟨_,rfl⟩
  rw [hc] at hx hgx hsm
  have g8:=zse h8 hgx
  have s8:=row_same8 h8 hgx
  rw [hR] at g8 s8
  have zz8:k*8+8<=R.length:=by omega
  have zk:0<=(k:Int):=by omega
  refine zfG (zi hd (zi zk (zi zz8 g8))) ?_
  refine zxe (c:=c) hsm ?_
  refine zfC (zi hd (zi zk (zi zz8 (wki k (by omega))))) ?_
  simp only [zat,List.map_cons,List.map_nil,List.cons_append,List.nil_append] at s8
  exact zan.next hlt ⟨rfl,by rw [s8]⟩
 ·have hd:decide ((k:Int)<(m.changes.length:Int))=false:=by simp;omega
  refine zfC hd ?_
  refine zl m.entries.length (fun k vs s=>vs = [.d (.int .i64 k)]/\s = σ++[zd.box (msgL2 m (.rsl (σ.length+2) g 8 0 m.changes.length) (.rsl (σ.length+3) g2 5 0 m.entries.length)),.box zkb,.row g 8 R,.row g2 5 Q]) ⟨rfl,rfl⟩ ?_
  rintro k vs s hk ⟨rfl,rfl⟩
  by_cases hlt:k<m.entries.length
  ·have hd:decide ((k:Int)<(m.entries.length:Int))=true:=by simp;omega
   have hx:m.entries[k]? = some m.entries[k]:=by simp [hlt]
   have hgx:=zF (f:=zbh) hx
   have hsm:=(hm.entry _ (List.getElem_mem hlt)).2
   obtain ⟨x,hxe⟩:∃ c,m.entries[k]=c:=⟨_,rfl⟩
   rw [hxe] at hx hgx hsm
   have g2':=zjY h5 hgx (i := 2) (by omega)
   have s2:=zzZ g2'
   simp only [zbh,List.getElem?_cons_succ,List.getElem?_cons_zero,Option.map_some] at g2' s2
   rw [hQ] at g2' s2
   have zz2:k*5+2+1<=Q.length:=by omega
   have zk:0<=(k:Int):=by omega
   refine zmD (zi hd (zi zk (zi zz2 g2'))) ?_
   refine zmj (b:=x.batch) hsm ?_
   refine zmD (zi hd (zi zk (zi zz2 (zi s2 (wki k (by omega)))))) ?_
   exact zan.next hlt ⟨rfl,rfl⟩
  ·have hd:decide ((k:Int)<(m.entries.length:Int))=false:=by simp;omega
   have hp:=hm.proof
   have hh5:∀ e∈znX m.proof.headers,e.length=5:=zec (f:=hdrD) (fun _=>rfl) _
   have hh1:∀ e∈ziN m.proof.path,e.length=1:=zec (f:=fun x => [D.int .i64 x]) (fun _=>rfl) _
   refine zmD hd ?_
   refine c_clByt zez (by rw [zX];have:=hp.rec_;omega) ?_
   refine zQ ?_
   refine c_clHdr hh5 (by rw [List.length_map];exact hp.headers) ?_
   refine zQ ?_
   refine c_clDig hh1 (by rw [List.length_map];exact hp.path) ?_
   refine zQ ?_
   refine zne (c:=m.proof.cert) hp.signs ?_
   refine zQ ?_
   have hr1:∀ A B:zd,frz (σ++[A,B,.row g 8 R,.row g2 5 Q]) σ.length 2 (.rsl (σ.length+2) g 8 0 m.changes.length)=some (.slice (zR m.changes)):=fun A B=>by
    rw [← hcl, ← hR]
    exact zky (m := 0) (by rw [zB];rfl) (by omega) h8
   have hr2:∀ A B:zd,frz (σ++[A,B,.row g 8 R,.row g2 5 Q]) σ.length 2 (.rsl (σ.length+3) g2 5 0 m.entries.length)=some (.slice (zu m.entries)):=fun A B=>by
    rw [← hel, ← hQ]
    exact zky (m := 0) (by rw [zB];rfl) (by omega) h5
   refine zmc (r:=zeR m) ?_ hl hK
   simp only [zcq,frzT,zxW,List.map_cons,List.map_nil,frz_d,hr1,hr2,zyn]
abbrev withS (m:zcS) (s:zy):zcS:={ m with key:=s.key,sdig:=s.dig }
theorem c_auWith8 {σ:List zd} {m:zcS} {s:zy} (hm:zbn m) (hk:m.kind=8) {K:KT} (hK:K (zeR (withS m s)) σ):zj Tryz.prog zmU [zeR m,.agg [.d (.int .i64 s.key),.d (.int .i64 s.dig)]] σ K:=by
 refine zeE e_auth_with fun hl => ?_
 simp only [zxI,iN,bT,bF,eN,zl0]
 refine zQ ?_
 refine c_mgClone (m:=m) hm ?_
 refine zfC (kk8 hk) ?_
 refine zt hl ?_
 exact hK
theorem c_raWith8 {σ:List zd} {m:zcS} {s:zy} (hk:m.kind=8) {K:KT} (hK:K (zeR (withS m s)) σ):zj Tryz.prog ztl [zeR m,.agg [.d (.int .i64 s.key),.d (.int .i64 s.dig)]] σ K:=by
 refine zeE e_r11_with fun hl => ?_
 have h7:(m.kind==7)=false:=by rw [hk];rfl
 simp only [zzA,iN,bT,bF,eN,zl0]
 refine zol h7 ?_
 refine zt hl ?_
 exact hK
theorem zlC:msgL zed = [.d (.int .i64 0),.d (.int .i64 0),.d (.int .i64 0),.d (.int .i64 0),.d (.int .i64 0),.d (.int .i64 0),.d (.int .i64 0),.d (.int .i64 0),.d (.int .i64 0),.d (.slice []),.d (.int .i64 0),.d (.int .i64 0),.d (.slice []),.d (.slice []),.d (.slice []),.d (.slice []),.d (.str []),.d (.int .i64 0),.d (.str []),.d (.int .i64 0),.d (.slice []),.d (.slice []),.d (.int .i64 0),.d (.int .i64 0),.d (.slice []),.d (.int .i64 0),.d (.int .i64 0),.d (.slice []),.d (.int .i64 0),.d (.int .i64 0)]:=rfl
theorem zvu {m:zcS} (h:zaT (zbJ m)=0):(zee m).length<=1073741824:=by
 have:=zvD h
 simp only [zee,h,if_true,List.length_cons]
 omega
theorem c_auSeal8 {i:TGi} {σ:List zd} {L:List (List UInt8)} {G:List zy} {m:zcS} (h:TG i σ L G) (hL:zka L) (hg:G.length<=1073741824) (hm:zbn m) (hk:m.kind=8) {K:KT}
  (hK:K (.tup [zeR (zhA L G m).m,.d (.int .i64 (zhA L G m).e)]) (zeD i σ (zhA L G m).L (zhA L G m).G)):zj Tryz.prog zqW [.box i.id 0,.box i.id2 0,zeR m] σ K:=by
 refine zyo e_auth_Seal fun hl => ?_
 simp only [zxM,iN,bT,bF,eN,zl0]
 refine zQ ?_
 refine zpR (h.tab.app _) (h.led.app _) hL hg ?_
 refine zQ ?_
 refine zuA (m:=m) hm hk ?_
 by_cases h1:zaT (zbJ m)=0
 rotate_left
 ·have h1':(zaT (zbJ m) != 0)=true:=by simpa using h1
  have e:zhA L G m=⟨zed,zaT (zbJ m),L,G⟩:=if_pos h1
  rw [e] at hK
  simp only [h.self,zeR,zlC] at hK
  refine zfC h1' ?_
  refine zt hl ?_
  exact hK
 have h1':(zaT (zbJ m) != 0)=false:=by simpa using h1
 have hcb:zee m=6::zjb (zbJ m):=by simp [zee,h1]
 have hbl:=zvu h1
 obtain ⟨u,hu⟩:∃ u,zjb (zbJ m)=u:=⟨_,rfl⟩
 obtain ⟨C,hC⟩:∃ C,zee m=C:=⟨_,rfl⟩
 have e:zhA L G m=if zvJ L m.src C≠0 then ⟨zed,zvJ L m.src C,zgn L C,zlP L G m.src C⟩
   else ⟨withS m (sgnS L m.src C), 0,zgn L C,zlP L G m.src C⟩:=by rw [← hC];exact if_neg (by simpa using h1)
 rw [e] at hK
 have hCu:C=6::u:=by rw [← hC,hcb,hu]
 rw [hC] at hbl ⊢
 have hbc:bcs C=zcU 6::bcs u:=by rw [hCu];rfl
 rw [hbc]
 refine zfC h1' ?_
 rw [← hbc]
 refine c_auSign (h.app _) hL hbl hg ?_
 rw [h.put_app]
 have h2:=h.put (zgn L C) (zlP L G m.src C)
 have hl2:=h.lows hl (zgn L C) (zlP L G m.src C)
 have hs2:=zfk i σ (zgn L C) (zlP L G m.src C)
 have hpp:(if zvJ L m.src C≠0 then (⟨zed,zvJ L m.src C,zgn L C,zlP L G m.src C⟩:MakeR) else ⟨withS m (sgnS L m.src C), 0,zgn L C,zlP L G m.src C⟩).L=zgn L C:=by split<;>rfl
 have hpg:(if zvJ L m.src C≠0 then (⟨zed,zvJ L m.src C,zgn L C,zlP L G m.src C⟩:MakeR) else ⟨withS m (sgnS L m.src C), 0,zgn L C,zlP L G m.src C⟩).G=zlP L G m.src C:=by split<;>rfl
 rw [hpp,hpg] at hK
 clear hpp hpg e
 obtain ⟨S2,hS2⟩:∃ S,zeD i σ (zgn L C) (zlP L G m.src C)=S:=⟨_,rfl⟩
 rw [hS2] at hK hs2 hl2 h2 ⊢
 have r2 : σ.length=S2.length:=hs2.symm
 rw [r2] at hl2
 obtain ⟨sg,hsg⟩:∃ s,sgnS L m.src C=s:=⟨_,rfl⟩
 obtain ⟨N,hN⟩:∃ s,zvJ L m.src C=s:=⟨_,rfl⟩
 rw [hsg,hN] at hK
 rw [hsg,hN]
 simp only [znT]
 by_cases hn:N=0
 ·have hq2:(N != 0)=false:=by simpa using hn
  rw [if_neg (by simpa using hn)] at hK
  refine zfC (zi hq2 r2) ?_
  refine c_auWith8 (m:=m) (s:=sg) hm hk ?_
  refine zfC r2 ?_
  refine zcx rfl ?_ hl2 hK
  simp [zfF,dmT,dm,dm1,zcq,zaU,zdw]
 ·have hq2:(N != 0)=true:=by simpa using hn
  rw [if_pos hn] at hK
  simp only [zeR,zlC] at hK
  refine zfC (zi hq2 r2) ?_
  refine zcx rfl ?_ hl2 hK
  simp [zfF,dmT,dm,dm1,zcq,zaU,zdw]
theorem c_raSeal8 {σ:List zd} {id id2:Nat} {L:List (List UInt8)} {G:List zy} {m:zcS} (hT : σ[id]? = some (rtO L)) (hG : σ[id2]? = some (rlO G)) (hne:id≠id2) (hL:L.length<=1048576) (hg:G.length<=1073741824) (hm:zbn m) (hk:m.kind=8) {K:KT}
  (hK:K (.tup [zeR (zhA L G m).m,.d (.int .i64 (zhA L G m).e)]) ((σ.set id (rtO (zhA L G m).L)).set id2 (rlO (zhA L G m).G))):zj Tryz.prog ztn [.box id 0,.box id2 0,zeR m] σ K:=by
 refine zyo e_r11_Seal fun hl => ?_
 simp only [zzD,iN,bT,bF,eN,zl0]
 refine zQ ?_
 refine zuz (m:=m) hm hk ?_
 by_cases h1:zaT (zbJ m)=0
 rotate_left
 ·have h1':(zaT (zbJ m) != 0)=true:=by simpa using h1
  have e:zhA L G m=⟨zed,zaT (zbJ m),L,G⟩:=if_pos h1
  rw [e] at hK
  simp only [zcm hT,zcm hG,zeR,zlC] at hK
  refine zfC h1' ?_
  refine zt hl ?_
  exact hK
 have h1':(zaT (zbJ m) != 0)=false:=by simpa using h1
 have hcb:zee m=6::zjb (zbJ m):=by simp [zee,h1]
 have hbl:=zvu h1
 obtain ⟨u,hu⟩:∃ u,zjb (zbJ m)=u:=⟨_,rfl⟩
 obtain ⟨C,hC⟩:∃ C,zee m=C:=⟨_,rfl⟩
 have e:zhA L G m=if zvJ L m.src C≠0 then ⟨zed,zvJ L m.src C,zgn L C,zlP L G m.src C⟩
   else ⟨withS m (sgnS L m.src C), 0,zgn L C,zlP L G m.src C⟩:=by rw [← hC];exact if_neg (by simpa using h1)
 rw [e] at hK
 have hCu:C=6::u:=by rw [← hC,hcb,hu]
 rw [hC] at hbl ⊢
 have hbc:bcs C=zcU 6::bcs u:=by rw [hCu];rfl
 rw [hbc]
 refine zfC h1' ?_
 rw [← hbc]
 refine c_raSign (zn hT) (zn hG) hne hbl hL hg ?_
 rw [zbB hT,zbB (by rw [List.getElem?_set_ne hne];exact hG)]
 have hl2:zgl σ.length ((σ.set id (rtO (zgn L C))).set id2 (rlO (zlP L G m.src C))):=(hl.setO (zmF _ _)).setO (ztc _ _)
 have hs2:((σ.set id (rtO (zgn L C))).set id2 (rlO (zlP L G m.src C))).length = σ.length:=by simp
 have hpp:(if zvJ L m.src C≠0 then (⟨zed,zvJ L m.src C,zgn L C,zlP L G m.src C⟩:MakeR) else ⟨withS m (sgnS L m.src C), 0,zgn L C,zlP L G m.src C⟩).L=zgn L C:=by split<;>rfl
 have hpg:(if zvJ L m.src C≠0 then (⟨zed,zvJ L m.src C,zgn L C,zlP L G m.src C⟩:MakeR) else ⟨withS m (sgnS L m.src C), 0,zgn L C,zlP L G m.src C⟩).G=zlP L G m.src C:=by split<;>rfl
 rw [hpp,hpg] at hK
 clear hpp hpg e
 obtain ⟨S2,hS2⟩:∃ S,(σ.set id (rtO (zgn L C))).set id2 (rlO (zlP L G m.src C))=S:=⟨_,rfl⟩
 rw [hS2] at hK hs2 hl2 ⊢
 have r2 : σ.length=S2.length:=hs2.symm
 rw [r2] at hl2
 obtain ⟨sg,hsg⟩:∃ s,sgnS L m.src C=s:=⟨_,rfl⟩
 obtain ⟨N,hN⟩:∃ s,zvJ L m.src C=s:=⟨_,rfl⟩
 rw [hsg,hN] at hK
 rw [hsg,hN]
 simp only [znT]
 by_cases hn:N=0
 ·have hq2:(N != 0)=false:=by simpa using hn
  rw [if_neg (by simpa using hn)] at hK
  refine zfC (zi hq2 r2) ?_
  refine c_raWith8 (m:=m) (s:=sg) hk ?_
  refine zfC r2 ?_
  refine zcx rfl ?_ hl2 hK
  simp [zfF,dmT,dm,dm1,zcq,zaU,zdw]
 ·have hq2:(N != 0)=true:=by simpa using hn
  rw [if_pos hn] at hK
  simp only [zeR,zlC] at hK
  refine zfC (zi hq2 r2) ?_
  refine zcx rfl ?_ hl2 hK
  simp [zfF,dmT,dm,dm1,zcq,zaU,zdw]
end Go.Proofs.YtpgahkdjkanblaaGreat
