/- Contracts: which view-changes and new views may be, as messages: bare, Check: the program's. -/
import Derived.Test.YtpgahkdjkanblaaGreatSm4
import Derived.Test.YtpgahkdjkanblaaGreatSpPut
set_option linter.all false
set_option maxRecDepth 100000
namespace Go.Proofs.YtpgahkdjkanblaaGreat
open Go.AW
theorem c_bare7 {σ:List zh} {m:zee} (hk:m.kind=7) {K:KT} (hK:K (zge (zmD m)) σ):zo Tryz.prog ziD [zge m] σ K:=by
 refine zd ziF.is rfl fun hl _=>ziF.goes ?_
 simp only [zlV,iN,bT,bF,eN]
 refine zB (ze (show (m.kind == 1)=false by rw [hk];rfl) (ze (show (m.kind == 2)=false by rw [hk];rfl) (ze (show (m.kind == 3)=false by rw [hk];rfl) (ze (show (m.kind == 4)=false by rw [hk];rfl) (ze (show (m.kind == 5)=false by rw [hk];rfl) (ze (show (m.kind == 6)=false by rw [hk];rfl) (ze (show (m.kind == 7)=true by rw [hk];rfl) (ze (show (m.kind == 8)=false by rw [hk];rfl) (ze (show (m.kind == 9)=false by rw [hk];rfl) (ze (show (m.kind == 10)=false by rw [hk];rfl) (ze (show (m.kind == 11)=false by rw [hk];rfl) (show (m.kind == 12)=false by rw [hk];rfl)))))))))))) ?_
 refine zmB ?_
 refine zB (show zvE m.kind=false by rw [hk];rfl) ?_
 refine zw hl ?_
 simp only [zmD,hk] at hK
 rw [hk]
 exact hK
theorem c_bare8 {σ:List zh} {m:zee} (hk:m.kind=8) {K:KT} (hK:K (zge (zmD m)) σ):zo Tryz.prog ziD [zge m] σ K:=by
 refine zd ziF.is rfl fun hl _=>ziF.goes ?_
 simp only [zlV,iN,bT,bF,eN]
 refine zB (ze (show (m.kind == 1)=false by rw [hk];rfl) (ze (show (m.kind == 2)=false by rw [hk];rfl) (ze (show (m.kind == 3)=false by rw [hk];rfl) (ze (show (m.kind == 4)=false by rw [hk];rfl) (ze (show (m.kind == 5)=false by rw [hk];rfl) (ze (show (m.kind == 6)=false by rw [hk];rfl) (ze (show (m.kind == 7)=false by rw [hk];rfl) (ze (show (m.kind == 8)=true by rw [hk];rfl) (ze (show (m.kind == 9)=false by rw [hk];rfl) (ze (show (m.kind == 10)=false by rw [hk];rfl) (ze (show (m.kind == 11)=false by rw [hk];rfl) (show (m.kind == 12)=false by rw [hk];rfl)))))))))))) ?_
 refine zmB ?_
 refine zB (show zvE m.kind=true by rw [hk];rfl) ?_
 refine zw hl ?_
 simp only [zmD,hk] at hK
 rw [hk]
 exact hK
theorem noPf_small:zzz ztq:=⟨by decide,by decide,by decide,by decide,by decide,by simp [ztq,zqG],by simp [ztq,zqG],by simp [ztq,zqG],by simp [ztq]⟩
theorem zfQ:zbP zeW:=⟨⟨by decide,by simp [zeW]⟩,⟨by decide,by simp [zeW]⟩,by decide,by decide,by simp [zeW],by decide,by simp [zeW],noPf_small,by decide,by decide⟩
theorem ite_small {c:Prop} [h:Decidable c] {a b:zee} (ha:zbP a) (hb:zbP b):zbP (if c then a else b):=by
 cases h
 ·rw [if_neg ‹_›];exact hb
 ·rw [if_pos ‹_›];exact ha
theorem zqw {m:zee} (h:zbP m):zbP (zmD m):=by
 obtain ⟨h1,h2,h3,h4,h5,h6,h7,h8,h9,h10⟩:=h
 obtain ⟨n1,n2,n3,n4,n5,n6,n7,n8,n9,n10⟩:=zfQ
 unfold zmD
 repeat' refine ite_small ?_ ?_
 all_goals constructor <;> assumption
theorem gq61 {A P Q:Prop} (a:A) (h:Q) (e:A->Hd Q->P:=by intro a h;(repeat' first | simp -dsimp only [↓zeN, ↓zav, ↓zbq, ↓zeO, ↓zeH, ↓zeF, ↓zeI, ↓zeG, ↓zbv, ↓zbr, ↓zbw, ↓zbs, ↓zeJ, ↓zbp, ↓zbx, ↓zbt, ↓zby, ↓zbu, ↓zeE, ↓zeM, ↓zbo, ↓zbz, ↓zeC, ↓zeB, ↓zeD,iN,bT,bF,eN, ↓zcB, ↓unC, ↓zV, ↓zM, ↓zN, ↓zQ, ↓zY, ↓zal, ↓zdb, ↓zak, ↓zaH, ↓zT, ↓zf, ↓zj, ↓zbZ, ↓zb, ↓zag, ↓zE, ↓zaI, ↓zaO, ↓zc, ↓zy, ↓zl, ↓zG, ↓zaa, ↓zdm, ↓zdw, ↓zaj, ↓zar, ↓zaK, ↓zaS, ↓zaY, ↓zq, ↓zai, ↓zO, ↓zu, ↓zX,zdx,zbg,zbb,unA,zdd,bnd,zdY,zaf,zP,zdR,dm,dm1,zA,zae,zeh,zeg,zI,Q0,Q1,Q2,Q3,Q4,Q5,zZ,zC,zt,zL,zF,Q6,Q7,Q8,Q9,Q10,Q11,Q12,Q13,Q14,Nat.reduceAdd,Q15,Int.reduceToNat,Q16,Q17,Q18,Q19,Q20,reduceIte,Q21,Q22,zH,rep,zac,zel,toD,zah,Q23,Q24,Q25,Q26,Q27,Q28,Nat.reduceLeDiff,Q29,Nat.reduceSub,Q30,Q31,Q32,sc,Q33,Q34,Q35,Q36,Q37,Q26,Q38,Q39,zoy,zov,zos,zoz,zfG,zow,zot,zox,zou,zfF,zfH,zoB,zoC,Bool.not_true,Bool.not_false,List.length_map,List.nil_append,a] | with_reducible refine zoE ?_ | fail);exact h.go):P:=e a ⟨h⟩
theorem c_mCheck7 {σ:List zh} {m:zee} (hm:zbP m) (hk:m.kind=7) {K:KT} (hK:K (.d (.int .i64 (zaN m))) σ):zo Tryz.prog zfX [zge m] σ K:=by
 refine zd zhv.is rfl fun hl _=>zhv.goes ?_
 have fin:∀ z,zaN m=z->K (.d (.int .i64 z)) σ:=fun z h=>h ▸ hK
 clear hK
 simp only [zkV,iN,bT,bF,eN]
 refine zab ?_
 refine c_aMsg7 (P := []) (m:=m) (by rw [List.getElem?_append_right (by omega)];simp [zgX,zbn]) hm hk ?_
 cases h1:(zbn (zfK m) == 0)
 ·refine gq61 h1 ?_
  refine zw hl ?_
  exact fin _ (by simp at h1;simp [zaN,h1])
 refine gq61 h1 ?_
 refine c_bare7 (m:=m) hk ?_
 refine zab ?_
 refine c_mSame (a:=m) (b:=zmD m) hm (zqw hm) ?_
 cases h2:decide (m=zmD m)
 ·refine zab ?_
  refine zw hl ?_
  exact fin _ (by simp at h1 h2;simp [zaN,h1,h2])
 ·refine zB h1 ?_
  refine zw hl ?_
  exact fin _ (by simp at h1 h2;simp [zaN,h1, ← h2])
theorem c_mCheck8 {σ:List zh} {m:zee} (hm:zbP m) (hk:m.kind=8) {K:KT} (hK:K (.d (.int .i64 (zaN m))) σ):zo Tryz.prog zfX [zge m] σ K:=by
 refine zd zhv.is rfl fun hl _=>zhv.goes ?_
 have fin:∀ z,zaN m=z->K (.d (.int .i64 z)) σ:=fun z h=>h ▸ hK
 clear hK
 simp only [zkV,iN,bT,bF,eN]
 refine zab ?_
 refine c_aMsg8 (P := []) (m:=m) (by rw [List.getElem?_append_right (by omega)];simp [zgX,zbn]) hm hk ?_
 cases h1:(zbn (zfK m) == 0)
 ·refine gq61 h1 ?_
  refine zw hl ?_
  exact fin _ (by simp at h1;simp [zaN,h1])
 refine gq61 h1 ?_
 refine c_bare8 (m:=m) hk ?_
 refine zab ?_
 refine c_mSame (a:=m) (b:=zmD m) hm (zqw hm) ?_
 cases h2:decide (m=zmD m)
 ·refine zab ?_
  refine zw hl ?_
  exact fin _ (by simp at h1 h2;simp [zaN,h1,h2])
 ·refine zB h1 ?_
  refine zw hl ?_
  exact fin _ (by simp at h1 h2;simp [zaN,h1, ← h2])
end Go.Proofs.YtpgahkdjkanblaaGreat

/- Contracts: which view-changes and new views may be, as messages: the document's. -/
set_option maxRecDepth 100000
namespace Go.Proofs.YtpgahkdjkanblaaGreat
open Go.AW
theorem c_kEntry {σ:List zh} {x:zbL} (hb:okB x.batch) {K:KT} (hK:K (.d (.int .i64 (zbn (zer x)))) σ):zo Tryz.prog zjk [zwa x] σ K:=by
 refine zd znD.is rfl fun hl _=>znD.goes ?_
 simp only [znZ,iN,bT,bF,eN]
 refine zab ?_
 refine c_kNum ?_
 refine zab ?_
 refine c_kPos ?_
 refine zab ?_
 refine zhx hb ?_
 refine zab ?_
 refine zdg ?_
 refine zab ?_
 refine zqt (l:=zer x) (by simp [zer]) ?_
 refine zab ?_
 refine zw hl ?_
 exact hK
theorem zsf {α:Type} {P : α->Prop} {l:List α} {k:Nat} {x : α} (hx:l[k]? = some x) (h0:∀ y ∈ l.take k,P y) (h:P x):∀ y ∈ l.take (k+1),P y:=by
 intro q hq
 rw [List.take_add_one,hx] at hq
 simp at hq
 rcases hq with hq | rfl
 ·exact h0 q hq
 ·exact h
theorem c_kNewView {σ:List zh} {m:zee} (hm:zbP m) (hk:m.kind=8) {K:KT} (hK:K (.d (.int .i64 (zbn (zfK m)))) σ):zo Tryz.prog zhh [zge m] σ K:=by
 refine zd zlq.is rfl fun hl _=>zlq.goes ?_
 have fin:∀ z,zbn (zfK m)=z->K (.d (.int .i64 z)) σ:=fun z h=>h ▸ hK
 clear hK
 have hcl:(zan m.changes).length=m.changes.length:=List.length_map ..
 have hel:(zaw m.entries).length=m.entries.length:=List.length_map ..
 have hcl1:=hm.changes
 have hel1:=hm.entries
 have e0:zbn (zfK m)=zbn ([zwN m.src,zrN m.view,inE m.changes.length 0 13]++((m.changes.map zaX).flatten++(inE m.entries.length 0 8 :: ((m.entries.map zer).flatten++[zS m.key m.sdig])))):=by
  simp [zfK,zmS,hk,zfS,show zvE 8=true from rfl]
 simp only [zlE,iN,bT,bF,eN]
 refine zab ?_
 refine c_kBroker ?_
 refine zab ?_
 refine c_kPos ?_
 refine zB hcl ?_
 refine c_kIn ?_
 refine zab ?_
 refine zqt (l := [zwN m.src,zrN m.view,inE m.changes.length 0 13]) (by simp) ?_
 cases h1:(zbn [zwN m.src,zrN m.view,inE m.changes.length 0 13] != 0)
 rotate_left
 ·refine zB h1 ?_
  refine zw hl ?_
  exact fin _ (by rw [e0,zvX (by simpa using h1)])
 rw [zku (by simpa using h1)] at e0
 refine zB h1 ?_
 refine zm m.changes.length (fun k vs s=>vs = [.d (.int .i64 k)]/\s = σ++[zqE m]/\∀ c ∈ m.changes.take k,zbn (zaX c)=0) ⟨rfl,rfl,by simp⟩ ?_
 rintro k vs s hk0 ⟨rfl,rfl,h0⟩
 by_cases hlt:k<m.changes.length
 ·have hd:decide ((k:Int)<(m.changes.length:Int))=true:=by simp;omega
  have hx:m.changes[k]? = some m.changes[k]:=by simp [hlt]
  have hpx:=hm.change _ (List.getElem_mem hlt)
  have hgx:=zR (f:=zaE) hx
  obtain ⟨p,hp⟩:∃ p,m.changes[k]=p:=⟨_,rfl⟩
  rw [hp] at hx hgx hpx
  refine zhH (ze hd (ze hgx hcl)) ?_
  refine c_kChange (c:=p) hpx.1 ?_
  cases h3:(zbn (zaX p) != 0)
  ·refine zB (ze h3 (wkc k (by omega))) ?_
   exact zaz.next hlt ⟨rfl,rfl,zsf hx h0 (by simpa using h3)⟩
  ·refine zB h3 ?_
   refine zw hl ?_
   exact fin _ (by rw [e0,zzV hx h0 (by simpa using h3)])
 have hd:decide ((k:Int)<(m.changes.length:Int))=false:=by simp;omega
 rw [List.take_of_length_le (by omega)] at h0
 rw [zku (zsm h0)] at e0
 by_cases h2:m.entries.length > 8
 ·have h2':decide ((m.entries.length:Int) > 8)=true:=by simp;omega
  refine zB (ze hd (ze hcl (ze hel h2'))) ?_
  refine zw hl ?_
  exact fin _ (by rw [e0,inE,if_pos (by omega)];rfl)
 have h2':decide ((m.entries.length:Int) > 8)=false:=by simp;omega
 have e1:zbn (zfK m)=zbn ((m.entries.map zer).flatten++[zS m.key m.sdig]):=by rw [e0,inE,if_neg (by omega)];rfl
 refine zB (ze hd (ze hcl (ze hel h2'))) ?_
 refine zm m.entries.length (fun k vs s=>vs = [.d (.int .i64 k)]/\s = σ++[zqE m]/\∀ c ∈ m.entries.take k,zbn (zer c)=0) ⟨rfl,rfl,by simp⟩ ?_
 rintro k vs s hk1 ⟨rfl,rfl,h0⟩
 by_cases hlt:k<m.entries.length
 ·have hd:decide ((k:Int)<(m.entries.length:Int))=true:=by simp;omega
  have hx:m.entries[k]? = some m.entries[k]:=by simp [hlt]
  have hpx:=hm.entry _ (List.getElem_mem hlt)
  have hgx:=zR (f:=zed) hx
  obtain ⟨p,hp⟩:∃ p,m.entries[k]=p:=⟨_,rfl⟩
  rw [hp] at hx hgx hpx
  refine zhH (ze hd (ze hgx hel)) ?_
  refine c_kEntry (x:=p) hpx.1 ?_
  cases h3:(zbn (zer p) != 0)
  ·refine zB (ze h3 (wkc k (by omega))) ?_
   exact zaz.next hlt ⟨rfl,rfl,zsf hx h0 (by simpa using h3)⟩
  ·refine zB h3 ?_
   refine zw hl ?_
   exact fin _ (by rw [e1,zzV hx h0 (by simpa using h3)])
 ·have hd:decide ((k:Int)<(m.entries.length:Int))=false:=by simp;omega
  rw [List.take_of_length_le (by omega)] at h0
  refine zB (ze hd hel) ?_
  refine zdg ?_
  refine zab ?_
  refine zw hl ?_
  refine fin _ ?_
  rw [e1,zku (zsm h0)]
  simp only [zbn]
  split <;> simp_all
theorem c_kParts8 {σ:List zh} {m:zee} (hm:zbP m) (hk:m.kind=8) {K:KT} (hK:K (.d (.int .i64 (zbn (zfK m)))) σ):zo Tryz.prog zmU [zge m] σ K:=by
 refine zd znk.is rfl fun hl _=>znk.goes ?_
 simp only [zrJ,iN,bT,bF,eN]
 refine zab ?_
 refine zdg ?_
 refine zB (ze (show (m.kind == 1)=false by rw [hk];rfl) (ze (show (m.kind == 2)=false by rw [hk];rfl) (ze (show (m.kind == 3)=false by rw [hk];rfl) (ze (show (m.kind == 4)=false by rw [hk];rfl) (ze (show (m.kind == 5)=false by rw [hk];rfl) (ze (show (m.kind == 6)=false by rw [hk];rfl) (ze (show (m.kind == 7)=false by rw [hk];rfl) (ze (show (m.kind == 8)=true by rw [hk];rfl) (ze (show (m.kind == 9)=false by rw [hk];rfl) (ze (show (m.kind == 10)=false by rw [hk];rfl) (ze (show (m.kind == 11)=false by rw [hk];rfl) (show (m.kind == 12)=false by rw [hk];rfl)))))))))))) ?_
 refine c_kNewView (m:=m) hm hk ?_
 refine zab ?_
 refine zw hl ?_
 exact hK
theorem c_kParts7 {σ:List zh} {m:zee} (hm:zbP m) (hk:m.kind=7) {K:KT} (hK:K (.d (.int .i64 (zbn (zfK m)))) σ):zo Tryz.prog zmU [zge m] σ K:=by
 refine zd znk.is rfl fun hl _=>znk.goes ?_
 have fin:∀ z,zbn (zfK m)=z->K (.d (.int .i64 z)) σ:=fun z h=>h ▸ hK
 clear hK
 have hcl:(zan m.changes).length=m.changes.length:=List.length_map ..
 have hcl1:=hm.changes
 have e0:zbn (zfK m)=zbn (inE m.changes.length 1 1 :: (m.changes.map fun c=>zaX c++[if c.src ≠ m.src ∨ c.view ≠ m.view then 100 else 0]).flatten):=by
  simp [zfK,zmS,hk,show zvE 7=false from rfl]
 simp only [zrJ,iN,bT,bF,eN]
 refine zab ?_
 refine zdg ?_
 cases h1:((m.changes.length:Int) != 1)
 rotate_left
 ·refine zB (ze (show (m.kind == 1)=false by rw [hk];rfl) (ze (show (m.kind == 2)=false by rw [hk];rfl) (ze (show (m.kind == 3)=false by rw [hk];rfl) (ze (show (m.kind == 4)=false by rw [hk];rfl) (ze (show (m.kind == 5)=false by rw [hk];rfl) (ze (show (m.kind == 6)=false by rw [hk];rfl) (ze (show (m.kind == 7)=true by rw [hk];rfl) (ze (show (m.kind == 8)=false by rw [hk];rfl) (ze (show (m.kind == 9)=false by rw [hk];rfl) (ze (show (m.kind == 10)=false by rw [hk];rfl) (ze (show (m.kind == 11)=false by rw [hk];rfl) (ze (show (m.kind == 12)=false by rw [hk];rfl) (ze hcl h1))))))))))))) ?_
  refine zw hl ?_
  refine fin _ ?_
  simp only [bne_iff_ne,ne_eq] at h1
  rw [e0,inE,if_pos (by omega)];rfl
 simp only [bne_eq_false_iff_eq] at h1
 obtain ⟨c,hc⟩:∃ c,m.changes = [c]:=List.length_eq_one_iff.1 (by omega)
 have hgx:(zan m.changes)[0]? = some (zaE c):=by rw [hc];rfl
 have hgl:(zan m.changes).length=1:=by rw [hc];rfl
 have e1:zbn (zfK m)=zbn (zaX c++[if c.src ≠ m.src ∨ c.view ≠ m.view then 100 else 0]):=by
  rw [e0,hc,inE,if_neg (by simp)]
  simp [zbn]
 have hpx:=(hm.change c (by rw [hc];simp)).1
 refine zhH (ze (show (m.kind == 1)=false by rw [hk];rfl) (ze (show (m.kind == 2)=false by rw [hk];rfl) (ze (show (m.kind == 3)=false by rw [hk];rfl) (ze (show (m.kind == 4)=false by rw [hk];rfl) (ze (show (m.kind == 5)=false by rw [hk];rfl) (ze (show (m.kind == 6)=false by rw [hk];rfl) (ze (show (m.kind == 7)=true by rw [hk];rfl) (ze (show (m.kind == 8)=false by rw [hk];rfl) (ze (show (m.kind == 9)=false by rw [hk];rfl) (ze (show (m.kind == 10)=false by rw [hk];rfl) (ze (show (m.kind == 11)=false by rw [hk];rfl) (ze (show (m.kind == 12)=false by rw [hk];rfl) (ze hgl hgx))))))))))))) ?_
 refine c_kChange (c:=c) hpx ?_
 cases h2:(zbn (zaX c) != 0)
 rotate_left
 ·refine zB h2 ?_
  refine zw hl ?_
  exact fin _ (by rw [e1,zvX (by simpa using h2)])
 rw [zku (by simpa using h2)] at e1
 cases h3:(m.src != c.src)
 ·cases h4:(m.view != c.view)
  ·refine zhH (ze h2 (ze h3 (ze h4 (ze hgl hgx)))) ?_
   refine zw hl ?_
   refine fin _ ?_
   simp at h3 h4
   rw [e1,if_neg (by simp [h3,h4])];rfl
  ·refine zhH (ze h2 (ze h3 (ze h4 (ze hgl hgx)))) ?_
   refine zw hl ?_
   refine fin _ ?_
   simp at h4
   rw [e1,if_pos (.inr fun h=>h4 h.symm)];rfl
 ·refine zhH (ze h2 (ze h3 (ze hgl hgx))) ?_
  refine zw hl ?_
  refine fin _ ?_
  simp at h3
  rw [e1,if_pos (.inl fun h=>h3 h.symm)];rfl
theorem c_kOnly7 {σ:List zh} {m:zee} (hk:m.kind=7) {K:KT} (hK:K (zge (zmD m)) σ):zo Tryz.prog zqh [zge m] σ K:=by
 refine zd zqp.is rfl fun hl _=>zqp.goes ?_
 simp only [zub,iN,bT,bF,eN]
 refine zB (ze (show (m.kind == 1)=false by rw [hk];rfl) (ze (show (m.kind == 2)=false by rw [hk];rfl) (ze (show (m.kind == 3)=false by rw [hk];rfl) (ze (show (m.kind == 4)=false by rw [hk];rfl) (ze (show (m.kind == 5)=false by rw [hk];rfl) (ze (show (m.kind == 6)=false by rw [hk];rfl) (ze (show (m.kind == 7)=true by rw [hk];rfl) (ze (show (m.kind == 8)=false by rw [hk];rfl) (ze (show (m.kind == 9)=false by rw [hk];rfl) (ze (show (m.kind == 10)=false by rw [hk];rfl) (ze (show (m.kind == 11)=false by rw [hk];rfl) (show (m.kind == 12)=false by rw [hk];rfl)))))))))))) ?_
 refine zw hl ?_
 simp only [zmD,hk] at hK
 rw [hk]
 exact hK
theorem c_kOnly8 {σ:List zh} {m:zee} (hk:m.kind=8) {K:KT} (hK:K (zge (zmD m)) σ):zo Tryz.prog zqh [zge m] σ K:=by
 refine zd zqp.is rfl fun hl _=>zqp.goes ?_
 simp only [zub,iN,bT,bF,eN]
 refine zB (ze (show (m.kind == 1)=false by rw [hk];rfl) (ze (show (m.kind == 2)=false by rw [hk];rfl) (ze (show (m.kind == 3)=false by rw [hk];rfl) (ze (show (m.kind == 4)=false by rw [hk];rfl) (ze (show (m.kind == 5)=false by rw [hk];rfl) (ze (show (m.kind == 6)=false by rw [hk];rfl) (ze (show (m.kind == 7)=false by rw [hk];rfl) (ze (show (m.kind == 8)=true by rw [hk];rfl) (ze (show (m.kind == 9)=false by rw [hk];rfl) (ze (show (m.kind == 10)=false by rw [hk];rfl) (ze (show (m.kind == 11)=false by rw [hk];rfl) (show (m.kind == 12)=false by rw [hk];rfl)))))))))))) ?_
 refine zw hl ?_
 simp only [zmD,hk] at hK
 rw [hk]
 exact hK
end Go.Proofs.YtpgahkdjkanblaaGreat
