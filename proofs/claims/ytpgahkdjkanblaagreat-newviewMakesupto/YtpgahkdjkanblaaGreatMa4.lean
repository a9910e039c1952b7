/- Contracts: a message's clone. -/
import Derived.Test.YtpgahkdjkanblaaGreatMa2
import Derived.Test.YtpgahkdjkanblaaGreatWr6
import Derived.Test.YtpgahkdjkanblaaGreatKr6
set_option linter.all false
set_option maxRecDepth 100000
namespace Go.Proofs.YtpgahkdjkanblaaGreat
open Go.AW
theorem preps_seven (l:List zcb):∀ e ∈ zeV l,e.length=7:=zhb (f:=zew) (fun _=>rfl) l
theorem changes_eight (l:List zU):∀ e ∈ zan l,e.length=8:=zhb (f:=zaE) (fun _=>rfl) l
theorem entries_five (l:List zbL):∀ e ∈ zaw l,e.length=5:=zhb (f:=zed) (fun _=>rfl) l
theorem frz_row {σ:List zh} {n₀ m t g sz:Nat} {es:List (List D)} (ht : σ[t]? = some (.row g sz (zfN es))) (hn:n₀<=t) (h:∀ e ∈ es,e.length=sz):frz σ n₀ (m+2) (.rsl t g sz 0 es.length)=some (.slice es):=by
 have hf:∀ ds:List D,allO ((ds.map AV.d).map (frz σ n₀ (m+1)))=some ds:=by
  intro ds
  induction ds with
  | nil=>rfl
  | cons d ds ih =>
   have:frz σ n₀ (m+1) (.d d)=some d:=rfl
   simp only [List.map_cons,this,allO,ih]
 have hc:∀ (es:List (List D)),(∀ e ∈ es,e.length=sz)->zah sz es.length es.flatten=es:=by
  intro es
  induction es with
  | nil=>intro _;rfl
  | cons e es ih =>
   intro h
   have he:=h e List.mem_cons_self
   simp only [List.length_cons,zah,List.flatten_cons]
   rw [List.take_left' he,List.drop_left' he,ih fun x hx=>h x (List.mem_cons_of_mem _ hx)]
 have hl:(zfN es).length=es.length * sz:=zpe h
 simp only [frz,ht,hn,true_and,and_self,if_true,Nat.zero_mul,List.drop_zero,Nat.sub_zero]
 rw [List.take_of_length_le (by omega),hf]
 simp only
 rw [hc es h]
theorem frz_d (σ:List zh) (n m:Nat) (x:D):frz σ n m (.d x)=some x:=by cases m <;> rfl
theorem zwK {σ:List zh} {c:zU} (hc:zjM c) {K:KT} (hK:K (.agg (zbK c)) σ):zo Tryz.prog zfW [.agg (zbK c)] σ K:=by
 refine acall_frz zhJ.is rfl 2 fun hl _=>zhJ.goes ?_
 have hlen:(zeV c.above).length=c.above.length:=List.length_map ..
 have h7:=preps_seven c.above
 have hal:=hc.above
 simp only [zhT,iN,bT,bF,eN]
 refine zab ?_
 refine znq (c:=c.cert) hc.signs ?_
 refine zab ?_
 refine c_clPrepM h7 (by omega) fun g => ?_
 refine zB hlen ?_
 refine zm c.above.length (fun k vs s=>vs = [.d (.int .i64 k)]/\s = σ++[zh.box [.d (.int .i64 c.view),.d (.int .i64 c.src),.d (.int .i64 c.cert.seq),.d (.int .i64 c.cert.dig),.d (.slice (zap c.cert.signs)),.rsl (σ.length+2) g 7 0 c.above.length,.d (.int .i64 c.key),.d (.int .i64 c.dig)],
  .box [.d (.int .i64 0),.d (.int .i64 0),.d (.int .i64 0),.d (.int .i64 0),.exact [],.exact [],.d (.int .i64 0),.d (.int .i64 0)],.row g 7 (zfN (zeV c.above))]) ⟨rfl,by first | rfl | simp⟩ ?_
 rintro k vs s hk ⟨rfl,rfl⟩
 by_cases hlt:k<c.above.length
 ·have hd:decide ((k:Int)<(c.above.length:Int))=true:=by simp;omega
  have hx:c.above[k]? = some c.above[k]:=by simp [hlt]
  have hgx:=zR (f:=zew) hx
  have hsm:=hc.each _ (List.getElem_mem hlt)
  obtain ⟨p,hp⟩:∃ p,c.above[k]=p:=⟨_,rfl⟩
  rw [hp] at hx hgx hsm
  have g5:=ztM h7 hgx (i := 5) (by omega)
  have g6:=ztM h7 hgx (i := 6) (by omega)
  have s5:=zzH g5
  have s6:=zzH g6
  have hfl:(zfN (zeV c.above)).length=c.above.length * 7:=by rw [zpe h7,hlen]
  simp only [zew,List.getElem?_cons_succ,List.getElem?_cons_zero,Option.map_some] at g5 g6 s5 s6
  obtain ⟨R,hR⟩:∃ R,zfN (zeV c.above)=R:=⟨_,rfl⟩
  rw [hR] at g5 g6 s5 s6 hfl ⊢
  have z5:k * 7+5+1<=R.length:=by omega
  have z6:k * 7+6+1<=R.length:=by omega
  have zk:0<=(k:Int):=by omega
  refine zB (zn hd (zn g5 (zn g6 (zn s5 (zn s6 (zn zk (zn z5 (zn z6 hd)))))))) ?_
  refine c_clSign hsm.signs ?_
  refine zB (zn hd (zn g5 (zn g6 (zn s5 (zn s6 (zn zk (zn z5 (zn z6 hd)))))))) ?_
  refine ziX (b:=p.batch) hsm.batch ?_
  refine zB (zn hd (zn g5 (zn g6 (zn s5 (zn s6 (zn zk (zn z5 (zn z6 (wki k (by omega)))))))))) ?_
  exact zaz.next hlt ⟨rfl,rfl⟩
 ·have hd:decide ((k:Int)<(c.above.length:Int))=false:=by simp;omega
  refine zB hd ?_
  have hr:∀ A B:zh,frz (σ++[A,B,.row g 7 (zfN (zeV c.above))]) σ.length 2 (.rsl (σ.length+2) g 7 0 c.above.length)=some (.slice (zeV c.above)):=fun A B=>by
   rw [← hlen]
   exact frz_row (m := 0) (by rw [zC];rfl) (by omega) h7
  refine endsF_app (r := .agg (zbK c)) ?_ hl hK
  simp only [zcO,frzT,frz1,List.map_cons,List.map_nil,frz_d,hr,allO]
abbrev zqz:List AV := [.d (.int .i64 0),.d (.int .i64 0),.d (.int .i64 0),.d (.int .i64 0),.d (.int .i64 0),.d (.int .i64 0),.d (.int .i64 0),.d (.int .i64 0),.d (.int .i64 0),.exact [],.d (.int .i64 0),.d (.int .i64 0),.exact [],.exact [],.exact [],.exact [],.d (.str []),.d (.int .i64 0),.d (.str []),.d (.int .i64 0),.exact [],.exact [],.d (.int .i64 0),.d (.int .i64 0),.exact [],.d (.int .i64 0),.d (.int .i64 0),.exact [],.d (.int .i64 0),.d (.int .i64 0)]
abbrev msgL2 (m:zee) (a b:AV):List AV :=
 [.d (.int .i64 m.kind),.d (.int .i64 m.src),.d (.int .i64 m.view),.d (.int .i64 m.seq),.d (.int .i64 m.dig),.d (.int .i64 m.client),.d (.int .i64 m.time),.d (.int .i64 m.rerr),.d (.int .i64 m.roff),.d (.slice (zbj m.batch)),
  .d (.int .i64 m.cert.seq),.d (.int .i64 m.cert.dig),.d (.slice (zap m.cert.signs)),a,b,.d (.slice (bcs m.state)),.d (.str m.topic),.d (.int .i64 m.offset),
  .d (.str m.proof.topic),.d (.int .i64 m.proof.offset),.d (.slice (bcs m.proof.rec_)),.d (.slice (zzT m.proof.headers)),.d (.int .i64 m.proof.index),.d (.int .i64 m.proof.count),.d (.slice (zpd m.proof.path)),.d (.int .i64 m.proof.cert.seq),.d (.int .i64 m.proof.cert.dig),.d (.slice (zap m.proof.cert.signs)),.d (.int .i64 m.key),.d (.int .i64 m.sdig)]
theorem gq82 {A P Q:Prop} (a:A) (h:Q) (e:A->Hd Q->P:=by intro a h;(repeat' first | simp -dsimp only [↓zeN, ↓zav, ↓zbq, ↓zeO, ↓zeH, ↓zeF, ↓zeI, ↓zeG, ↓zbv, ↓zbr, ↓zbw, ↓zbs, ↓zeJ, ↓zbp, ↓zbx, ↓zbt, ↓zby, ↓zbu, ↓zeE, ↓zeM, ↓zbo, ↓zbz, ↓zeC, ↓zeB, ↓zeD,iN,bT,bF,eN, ↓zcB, ↓unC, ↓zV, ↓zM, ↓zN, ↓zQ, ↓zY, ↓zal, ↓zdb, ↓zak, ↓zaH, ↓zT, ↓zf, ↓zj, ↓zbZ, ↓zb, ↓zag, ↓zE, ↓zaI, ↓zaO, ↓zc, ↓zy, ↓zl, ↓zG, ↓zaa, ↓zdm, ↓zdw, ↓zaj, ↓zar, ↓zaK, ↓zaS, ↓zaY, ↓zq, ↓zai, ↓zO, ↓zu, ↓zX,zdx,zbg,zbb,unA,zdd,bnd,zdY,zaf,zP,zdR,dm,dm1,zA,zae,zeh,zeg,zI,Q0,Q1,Q2,Q3,Q4,Q5,zZ,zC,zt,zL,zF,Q6,Q7,Q8,Q9,Q10,Q11,Q12,Q13,Q14,Nat.reduceAdd,Q15,Int.reduceToNat,Q16,Q17,Q18,Q19,Q20,reduceIte,Q21,Q22,zH,rep,zac,zel,toD,zah,Q23,Q24,Q25,Q26,Q27,Q28,Nat.reduceLeDiff,Q29,Nat.reduceSub,Q30,Q31,Q32,sc,Q33,Q34,Q35,Q36,Q37,Q26,Q38,Q39,zoy,zov,zos,zoz,zfG,zow,zot,zox,zou,zfF,zfH,zoB,zoC,Bool.not_true,Bool.not_false,List.length_map,Nat.sub_zero,z2,a] | with_reducible refine zoE ?_ | fail);exact h.go):P:=e a ⟨h⟩
theorem gq83 {A P Q:Prop} (a:A) (h:Q) (e:A->Hd Q->P:=by intro a h;(repeat' first | simp -dsimp only [↓zeN, ↓zav, ↓zbq, ↓zeO, ↓zeH, ↓zeF, ↓zeI, ↓zeG, ↓zbv, ↓zbr, ↓zbw, ↓zbs, ↓zeJ, ↓zbp, ↓zbx, ↓zbt, ↓zby, ↓zbu, ↓zeE, ↓zeM, ↓zbo, ↓zbz, ↓zeC, ↓zeB, ↓zeD,iN,bT,bF,eN, ↓zcB, ↓unC, ↓zV, ↓zM, ↓zN, ↓zQ, ↓zY, ↓zal, ↓zdb, ↓zak, ↓zaH, ↓zT, ↓zf, ↓zj, ↓zbZ, ↓zb, ↓zag, ↓zE, ↓zaI, ↓zaO, ↓zc, ↓zy, ↓zl, ↓zG, ↓zaa, ↓zdm, ↓zdw, ↓zaj, ↓zar, ↓zaK, ↓zaS, ↓zaY, ↓zq, ↓zai, ↓zO, ↓zu, ↓zX,zdx,zbg,zbb,unA,zdd,bnd,zdY,zaf,zP,zdR,dm,dm1,zA,zae,zeh,zeg,zI,Q0,Q1,Q2,Q3,Q4,Q5,zZ,zC,zt,zL,zF,Q6,Q7,Q8,Q9,Q10,Q11,Q12,Q13,Q14,Nat.reduceAdd,Q15,Int.reduceToNat,Q16,Q17,Q18,Q19,Q20,reduceIte,Q21,Q22,zH,rep,zac,zel,toD,zah,Q23,Q24,Q25,Q26,Q27,Q28,Nat.reduceLeDiff,Q29,Nat.reduceSub,Q30,Q31,Q32,sc,Q33,Q34,Q35,Q36,Q37,Q26,Q38,Q39,zoy,zov,zos,zoz,zfG,zow,zot,zox,zou,zfF,zfH,zoB,zoC,Bool.not_true,Bool.not_false,List.length_map,Nat.sub_zero,a] | with_reducible refine zoE ?_ | fail);exact h.go):P:=e a ⟨h⟩
theorem c_mgClone {σ:List zh} {m:zee} (hm:zbP m) {K:KT} (hK:K (zge m) σ):zo Tryz.prog zkq [zge m] σ K:=by
 refine acall_frz znz.is rfl 2 fun hl _=>znz.goes ?_
 have hcl:(zan m.changes).length=m.changes.length:=List.length_map ..
 have hel:(zaw m.entries).length=m.entries.length:=List.length_map ..
 have h8:=changes_eight m.changes
 have h5:=entries_five m.entries
 have hal:=hm.changes
 have hbl:=hm.entries
 simp only [znV,iN,bT,bF,eN]
 refine zab ?_
 refine ziX (b:=m.batch) hm.batchS ?_
 refine zab ?_
 refine znq (c:=m.cert) hm.signs ?_
 refine zab ?_
 refine c_clByt zgs (by rw [zek];exact hm.state) ?_
 refine zab ?_
 refine c_clChangeM h8 (by omega) fun g => ?_
 refine zB hcl ?_
 refine c_clEntryM h5 (by omega) fun g2 => ?_
 refine zB (zn hcl hel) ?_
 obtain ⟨R,hR⟩:∃ R,zfN (zan m.changes)=R:=⟨_,rfl⟩
 obtain ⟨Q,hQ⟩:∃ R,zfN (zaw m.entries)=R:=⟨_,rfl⟩
 have hRl:R.length=m.changes.length * 8:=by rw [← hR,zpe h8,hcl]
 have hQl:Q.length=m.entries.length * 5:=by rw [← hQ,zpe h5,hel]
 rw [hR,hQ]
 refine zm m.changes.length (fun k vs s=>vs = [.d (.int .i64 k)]/\s = σ++[zh.box (msgL2 m (.rsl (σ.length+2) g 8 0 m.changes.length) (.rsl (σ.length+3) g2 5 0 m.entries.length)),.box zqz,.row g 8 R,.row g2 5 Q]) ⟨rfl,rfl⟩ ?_
 rintro k vs s hk ⟨rfl,rfl⟩
 by_cases hlt:k<m.changes.length
 ·have hd:decide ((k:Int)<(m.changes.length:Int))=true:=by simp;omega
  have hx:m.changes[k]? = some m.changes[k]:=by simp [hlt]
  have hgx:=zR (f:=zaE) hx
  have hsm:=(hm.change _ (List.getElem_mem hlt)).2
  obtain ⟨c,hc⟩:∃ c,m.changes[k]=c:=⟨_,rfl⟩
  rw [hc] at hx hgx hsm
  have g8:=zvY h8 hgx
  have s8:=row_same8 h8 hgx
  rw [hR] at g8 s8
  have z8:k * 8+8<=R.length:=by omega
  have zk:0<=(k:Int):=by omega
  refine zhH (zn hd (zn zk (zn z8 g8))) ?_
  refine zwK (c:=c) hsm ?_
  refine zB (zn hd (zn zk (zn z8 (wki k (by omega))))) ?_
  simp only [zaE,List.map_cons,List.map_nil,List.cons_append,List.nil_append] at s8
  exact zaz.next hlt ⟨rfl,by rw [s8]⟩
 ·have hd:decide ((k:Int)<(m.changes.length:Int))=false:=by simp;omega
  refine zB hd ?_
  refine zm m.entries.length (fun k vs s=>vs = [.d (.int .i64 k)]/\s = σ++[zh.box (msgL2 m (.rsl (σ.length+2) g 8 0 m.changes.length) (.rsl (σ.length+3) g2 5 0 m.entries.length)),.box zqz,.row g 8 R,.row g2 5 Q]) ⟨rfl,rfl⟩ ?_
  rintro k vs s hk ⟨rfl,rfl⟩
  by_cases hlt:k<m.entries.length
  ·have hd:decide ((k:Int)<(m.entries.length:Int))=true:=by simp;omega
   have hx:m.entries[k]? = some m.entries[k]:=by simp [hlt]
   have hgx:=zR (f:=zed) hx
   have hsm:=(hm.entry _ (List.getElem_mem hlt)).2
   obtain ⟨x,hxe⟩:∃ c,m.entries[k]=c:=⟨_,rfl⟩
   rw [hxe] at hx hgx hsm
   have g2':=ztM h5 hgx (i := 2) (by omega)
   have s2:=zzH g2'
   simp only [zed,List.getElem?_cons_succ,List.getElem?_cons_zero,Option.map_some] at g2' s2
   rw [hQ] at g2' s2
   have z2:k * 5+2+1<=Q.length:=by omega
   have zk:0<=(k:Int):=by omega
   refine gq82 (zn hd (zn zk g2')) ?_
   refine ziX (b:=x.batch) hsm ?_
   refine gq82 (zn hd (zn zk (zn s2 (wki k (by omega))))) ?_
   exact zaz.next hlt ⟨rfl,rfl⟩
  ·have hd:decide ((k:Int)<(m.entries.length:Int))=false:=by simp;omega
   have hp:=hm.proof
   have hh5:∀ e ∈ zzT m.proof.headers,e.length=5:=zhb (f:=hdrD) (fun _=>rfl) _
   have hh1:∀ e ∈ zpd m.proof.path,e.length=1:=zhb (f:=fun x => [D.int .i64 x]) (fun _=>rfl) _
   refine gq83 hd ?_
   refine c_clByt zgs (by rw [zek];have:=hp.rec_;omega) ?_
   refine zab ?_
   refine c_clHdr hh5 (by rw [List.length_map];exact hp.headers) ?_
   refine zab ?_
   refine c_clDig hh1 (by rw [List.length_map];exact hp.path) ?_
   refine zab ?_
   refine znq (c:=m.proof.cert) hp.signs ?_
   refine zab ?_
   have hr1:∀ A B:zh,frz (σ++[A,B,.row g 8 R,.row g2 5 Q]) σ.length 2 (.rsl (σ.length+2) g 8 0 m.changes.length)=some (.slice (zan m.changes)):=fun A B=>by
    rw [← hcl, ← hR]
    exact frz_row (m := 0) (by rw [zC];rfl) (by omega) h8
   have hr2:∀ A B:zh,frz (σ++[A,B,.row g 8 R,.row g2 5 Q]) σ.length 2 (.rsl (σ.length+3) g2 5 0 m.entries.length)=some (.slice (zaw m.entries)):=fun A B=>by
    rw [← hel, ← hQ]
    exact frz_row (m := 0) (by rw [zC];rfl) (by omega) h5
   refine endsF_app (r:=zge m) ?_ hl hK
   simp only [zcO,frzT,frz1,List.map_cons,List.map_nil,frz_d,hr1,hr2,allO]
end Go.Proofs.YtpgahkdjkanblaaGreat

/- Contracts: a new view is sealed, both sides. -/
set_option maxRecDepth 100000
namespace Go.Proofs.YtpgahkdjkanblaaGreat
open Go.AW
abbrev withS (m:zee) (s:zK):zee:={ m with key:=s.key,sdig:=s.dig }
theorem c_auWith8 {σ:List zh} {m:zee} {s:zK} (hm:zbP m) (hk:m.kind=8) {K:KT} (hK:K (zge (withS m s)) σ):zo Tryz.prog znd [zge m,.agg [.d (.int .i64 s.key),.d (.int .i64 s.dig)]] σ K:=by
 refine zd zwv.is rfl fun hl _=>zwv.goes ?_
 simp only [zxn,iN,bT,bF,eN]
 refine zab ?_
 refine c_mgClone (m:=m) hm ?_
 refine zB (zn (show (m.kind == 1)=false by rw [hk];rfl) (zn (show (m.kind == 2)=false by rw [hk];rfl) (zn (show (m.kind == 3)=false by rw [hk];rfl) (zn (show (m.kind == 4)=false by rw [hk];rfl) (zn (show (m.kind == 5)=false by rw [hk];rfl) (zn (show (m.kind == 6)=false by rw [hk];rfl) (zn (show (m.kind == 7)=false by rw [hk];rfl) (zn (show (m.kind == 8)=true by rw [hk];rfl) (zn (show (m.kind == 9)=false by rw [hk];rfl) (zn (show (m.kind == 10)=false by rw [hk];rfl) (zn (show (m.kind == 11)=false by rw [hk];rfl) (show (m.kind == 12)=false by rw [hk];rfl)))))))))))) ?_
 refine zw hl ?_
 exact hK
theorem c_raWith8 {σ:List zh} {m:zee} {s:zK} (hk:m.kind=8) {K:KT} (hK:K (zge (withS m s)) σ):zo Tryz.prog ztt [zge m,.agg [.d (.int .i64 s.key),.d (.int .i64 s.dig)]] σ K:=by
 refine zd zyv.is rfl fun hl _=>zyv.goes ?_
 have h7:(m.kind == 7)=false:=by rw [hk];rfl
 simp only [zzh,iN,bT,bF,eN]
 refine gq62 h7 ?_
 refine zw hl ?_
 exact hK
theorem zlQ:msgL zeW = [.d (.int .i64 0),.d (.int .i64 0),.d (.int .i64 0),.d (.int .i64 0),.d (.int .i64 0),.d (.int .i64 0),.d (.int .i64 0),.d (.int .i64 0),.d (.int .i64 0),.d (.slice []),.d (.int .i64 0),.d (.int .i64 0),.d (.slice []),.d (.slice []),.d (.slice []),.d (.slice []),.d (.str []),.d (.int .i64 0),.d (.str []),.d (.int .i64 0),.d (.slice []),.d (.slice []),.d (.int .i64 0),.d (.int .i64 0),.d (.slice []),.d (.int .i64 0),.d (.int .i64 0),.d (.slice []),.d (.int .i64 0),.d (.int .i64 0)]:=rfl
theorem cont_len {m:zee} (h:zba (zcu m)=0):(zfc m).length<=1073741824:=by
 have:=zvr h
 simp only [zfc,h,if_true,List.length_cons]
 omega
theorem c_auSeal8 {i:TGi} {σ:List zh} {L:List (List UInt8)} {G:List zK} {m:zee} (h:TG i σ L G) (hL:znT L) (hg:G.length<=1073741824) (hm:zbP m) (hk:m.kind=8) {K:KT}
  (hK:K (.tup [zge (zlO L G m).m,.d (.int .i64 (zlO L G m).e)]) (zeU i σ (zlO L G m).L (zlO L G m).G)):zo Tryz.prog zru [.box i.id 0,.box i.id2 0,zge m] σ K:=by
 refine zd zwz.is rfl fun hl _=>zwz.goes ?_
 simp only [zxr,iN,bT,bF,eN]
 refine zab ?_
 refine zsI (h.tab.app _) (h.led.app _) hL hg ?_
 refine zab ?_
 refine c_auContent8 (m:=m) hm hk ?_
 by_cases h1:zba (zcu m)=0
 rotate_left
 ·have h1':(zba (zcu m) != 0)=true:=by simpa using h1
  have e:zlO L G m=⟨zeW,zba (zcu m),L,G⟩:=if_pos h1
  rw [e] at hK
  simp only [h.self,zge,zlQ] at hK
  refine zB h1' ?_
  refine zw hl ?_
  exact hK
 have h1':(zba (zcu m) != 0)=false:=by simpa using h1
 have hcb:zfc m=6 :: zkb (zcu m):=by simp [zfc,h1]
 have hbl:=cont_len h1
 obtain ⟨u,hu⟩:∃ u,zkb (zcu m)=u:=⟨_,rfl⟩
 obtain ⟨C,hC⟩:∃ C,zfc m=C:=⟨_,rfl⟩
 have e:zlO L G m=if zvy L m.src C ≠ 0 then ⟨zeW,zvy L m.src C,zgz L C,zmO L G m.src C⟩
   else ⟨withS m (sgnS L m.src C), 0,zgz L C,zmO L G m.src C⟩:=by rw [← hC];exact if_neg (by simpa using h1)
 rw [e] at hK
 have hCu:C=6 :: u:=by rw [← hC,hcb,hu]
 rw [hC] at hbl ⊢
 have hbc:bcs C=zcQ 6 :: bcs u:=by rw [hCu];rfl
 rw [hbc]
 refine zB h1' ?_
 rw [← hbc]
 refine c_auSign (h.app _) hL hbl hg ?_
 rw [h.put_app]
 have h2:=h.put (zgz L C) (zmO L G m.src C)
 have hl2:=h.lows hl (zgz L C) (zmO L G m.src C)
 have hs2:=zfw i σ (zgz L C) (zmO L G m.src C)
 have hpp:(if zvy L m.src C ≠ 0 then (⟨zeW,zvy L m.src C,zgz L C,zmO L G m.src C⟩:MakeR) else ⟨withS m (sgnS L m.src C), 0,zgz L C,zmO L G m.src C⟩).L=zgz L C:=by split <;> rfl
 have hpg:(if zvy L m.src C ≠ 0 then (⟨zeW,zvy L m.src C,zgz L C,zmO L G m.src C⟩:MakeR) else ⟨withS m (sgnS L m.src C), 0,zgz L C,zmO L G m.src C⟩).G=zmO L G m.src C:=by split <;> rfl
 rw [hpp,hpg] at hK
 clear hpp hpg e
 obtain ⟨S2,hS2⟩:∃ S,zeU i σ (zgz L C) (zmO L G m.src C)=S:=⟨_,rfl⟩
 rw [hS2] at hK hs2 hl2 h2 ⊢
 have r2 : σ.length=S2.length:=hs2.symm
 rw [r2] at hl2
 obtain ⟨sg,hsg⟩:∃ s,sgnS L m.src C=s:=⟨_,rfl⟩
 obtain ⟨N,hN⟩:∃ s,zvy L m.src C=s:=⟨_,rfl⟩
 rw [hsg,hN] at hK
 rw [hsg,hN]
 simp only [zoq]
 by_cases hn:N=0
 ·have hq2:(N != 0)=false:=by simpa using hn
  rw [if_neg (by simpa using hn)] at hK
  refine zB (zn hq2 r2) ?_
  refine c_auWith8 (m:=m) (s:=sg) hm hk ?_
  refine zB r2 ?_
  refine zcE rfl ?_ hl2 hK
  simp [zfO,dmT,dm,dm1,zcO,zaU,zdv]
 ·have hq2:(N != 0)=true:=by simpa using hn
  rw [if_pos hn] at hK
  simp only [zge,zlQ] at hK
  refine zB (zn hq2 r2) ?_
  refine zcE rfl ?_ hl2 hK
  simp [zfO,dmT,dm,dm1,zcO,zaU,zdv]
theorem c_raSeal8 {σ:List zh} {id id2:Nat} {L:List (List UInt8)} {G:List zK} {m:zee} (hT : σ[id]? = some (rtO L)) (hG : σ[id2]? = some (rlO G)) (hne:id ≠ id2) (hL:L.length<=1048576) (hg:G.length<=1073741824) (hm:zbP m) (hk:m.kind=8) {K:KT}
  (hK:K (.tup [zge (zlO L G m).m,.d (.int .i64 (zlO L G m).e)]) ((σ.set id (rtO (zlO L G m).L)).set id2 (rlO (zlO L G m).G))):zo Tryz.prog ztv [.box id 0,.box id2 0,zge m] σ K:=by
 refine zd zyy.is rfl fun hl _=>zyy.goes ?_
 simp only [zzk,iN,bT,bF,eN]
 refine zab ?_
 refine c_raContent8 (m:=m) hm hk ?_
 by_cases h1:zba (zcu m)=0
 rotate_left
 ·have h1':(zba (zcu m) != 0)=true:=by simpa using h1
  have e:zlO L G m=⟨zeW,zba (zcu m),L,G⟩:=if_pos h1
  rw [e] at hK
  simp only [zcz hT,zcz hG,zge,zlQ] at hK
  refine zB h1' ?_
  refine zw hl ?_
  exact hK
 have h1':(zba (zcu m) != 0)=false:=by simpa using h1
 have hcb:zfc m=6 :: zkb (zcu m):=by simp [zfc,h1]
 have hbl:=cont_len h1
 obtain ⟨u,hu⟩:∃ u,zkb (zcu m)=u:=⟨_,rfl⟩
 obtain ⟨C,hC⟩:∃ C,zfc m=C:=⟨_,rfl⟩
 have e:zlO L G m=if zvy L m.src C ≠ 0 then ⟨zeW,zvy L m.src C,zgz L C,zmO L G m.src C⟩
   else ⟨withS m (sgnS L m.src C), 0,zgz L C,zmO L G m.src C⟩:=by rw [← hC];exact if_neg (by simpa using h1)
 rw [e] at hK
 have hCu:C=6 :: u:=by rw [← hC,hcb,hu]
 rw [hC] at hbl ⊢
 have hbc:bcs C=zcQ 6 :: bcs u:=by rw [hCu];rfl
 rw [hbc]
 refine zB h1' ?_
 rw [← hbc]
 refine c_raSign (zx hT) (zx hG) hne hbl hL hg ?_
 rw [zbS hT,zbS (by rw [List.getElem?_set_ne hne];exact hG)]
 have hl2:ziu σ.length ((σ.set id (rtO (zgz L C))).set id2 (rlO (zmO L G m.src C))):=(hl.setO (zmQ _ _)).setO (ztm _ _)
 have hs2:((σ.set id (rtO (zgz L C))).set id2 (rlO (zmO L G m.src C))).length = σ.length:=by simp
 have hpp:(if zvy L m.src C ≠ 0 then (⟨zeW,zvy L m.src C,zgz L C,zmO L G m.src C⟩:MakeR) else ⟨withS m (sgnS L m.src C), 0,zgz L C,zmO L G m.src C⟩).L=zgz L C:=by split <;> rfl
 have hpg:(if zvy L m.src C ≠ 0 then (⟨zeW,zvy L m.src C,zgz L C,zmO L G m.src C⟩:MakeR) else ⟨withS m (sgnS L m.src C), 0,zgz L C,zmO L G m.src C⟩).G=zmO L G m.src C:=by split <;> rfl
 rw [hpp,hpg] at hK
 clear hpp hpg e
 obtain ⟨S2,hS2⟩:∃ S,(σ.set id (rtO (zgz L C))).set id2 (rlO (zmO L G m.src C))=S:=⟨_,rfl⟩
 rw [hS2] at hK hs2 hl2 ⊢
 have r2 : σ.length=S2.length:=hs2.symm
 rw [r2] at hl2
 obtain ⟨sg,hsg⟩:∃ s,sgnS L m.src C=s:=⟨_,rfl⟩
 obtain ⟨N,hN⟩:∃ s,zvy L m.src C=s:=⟨_,rfl⟩
 rw [hsg,hN] at hK
 rw [hsg,hN]
 simp only [zoq]
 by_cases hn:N=0
 ·have hq2:(N != 0)=false:=by simpa using hn
  rw [if_neg (by simpa using hn)] at hK
  refine zB (zn hq2 r2) ?_
  refine c_raWith8 (m:=m) (s:=sg) hk ?_
  refine zB r2 ?_
  refine zcE rfl ?_ hl2 hK
  simp [zfO,dmT,dm,dm1,zcO,zaU,zdv]
 ·have hq2:(N != 0)=true:=by simpa using hn
  rw [if_pos hn] at hK
  simp only [zge,zlQ] at hK
  refine zB (zn hq2 r2) ?_
  refine zcE rfl ?_ hl2 hK
  simp [zfO,dmT,dm,dm1,zcO,zaU,zdv]
end Go.Proofs.YtpgahkdjkanblaaGreat
