/- Contracts: whether a proof may be, the program's. -/
import Derived.Test.YtpgahkdjkanblaaGreatRc1
import Derived.Test.YtpgahkdjkanblaaGreatCodec1
set_option linter.all false
set_option maxRecDepth 100000
namespace Go.Proofs.YtpgahkdjkanblaaGreat
open Go.AW
structure zzz (p:znU):Prop where
 topic:p.topic.length<=16777216
 rec_:p.rec_.length<=16777216
 headers:p.headers.length<=1073741824
 path:p.path.length<=1073741824
 signs:p.cert.signs.length<=1073741824
 off:zqG p.offset
 index:zqG p.index
 count:zqG p.count
 paths:∀ x ∈ p.path,zqG x
abbrev proofO (p:znU):zh := .box [.d (.str p.topic),.d (.int .i64 p.offset),.d (.slice (bcs p.rec_)),.d (.slice (zzT p.headers)),.d (.int .i64 p.index),.d (.int .i64 p.count),.d (.slice (zpd p.path)),.d (.int .i64 p.cert.seq),.d (.int .i64 p.cert.dig),.d (.slice (zap p.cert.signs))]
theorem thnE_app (e:Int) (a b:List Int):zoH (zoH e (zbn a)) (zbn b)=zoH e (zbn (a++b)):=by
 rw [zjT]
 unfold zoH
 by_cases h:e=0
 ·by_cases h2:zbn a=0
  ·simp [h,h2]
  ·simp [h,h2]
 ·simp [h]
theorem thnE_app1 (e:Int) (a:List Int) (x:Int):zoH (zoH e (zbn a)) x=zoH e (zbn (a++[x])):=by
 have:x=zbn [x]:=by simp only [zbn];split <;> simp_all
 conv=>lhs;rw [this]
 exact thnE_app e a [x]
theorem thnE_z (x:Int):zoH 0 x=x:=by simp [zoH]
theorem zrR (l:List Int) (x:Int):zoH (zbn l) x=zbn (l++[x]):=by rw [← thnE_z (zbn l),thnE_app1,thnE_z]
end Go.Proofs.YtpgahkdjkanblaaGreat

/- Contracts: whether a proof may be, the document's. -/
set_option maxRecDepth 100000
namespace Go.Proofs.YtpgahkdjkanblaaGreat
open Go.AW
theorem c_kIn {σ:List zh} {n lo hi:Int} {K:KT} (hK:K (.d (.int .i64 (inE n lo hi))) σ):zo Tryz.prog ziz [.d (.int .i64 n),.d (.int .i64 lo),.d (.int .i64 hi)] σ K:=by
 refine zd e_r10_in.is rfl fun hl _=>e_r10_in.goes ?_
 have fin:∀ z,inE n lo hi=z->K (.d (.int .i64 z)) σ:=fun z h=>h ▸ hK
 clear hK
 simp only [S_r10_in,iN,bT,bF,eN]
 cases h1:decide (n<lo)
 ·cases h2:decide (n > hi)
  ·refine zB (ze h1 h2) ?_
   refine zw hl ?_
   exact fin 0 (by rw [inE,if_neg];simp at h1 h2;omega)
  ·refine zB (ze h1 h2) ?_
   refine zw hl ?_
   exact fin 100 (by rw [inE,if_pos];simp at h1 h2;omega)
 ·refine zB h1 ?_
  refine zw hl ?_
  exact fin 100 (by rw [inE,if_pos];simp at h1;omega)
theorem c_kNum {σ:List zh} {n:Int} {K:KT} (hK:K (.d (.int .i64 (zlX n))) σ):zo Tryz.prog zfV [.d (.int .i64 n)] σ K:=by
 refine zd e_r10_num.is rfl fun hl _=>e_r10_num.goes ?_
 simp only [S_r10_num,iN,bT,bF,eN]
 refine zab ?_
 refine c_kIn ?_
 refine zab ?_
 refine zw hl ?_
 exact hK
theorem c_kPos {σ:List zh} {n:Int} {K:KT} (hK:K (.d (.int .i64 (zrN n))) σ):zo Tryz.prog zhg [.d (.int .i64 n)] σ K:=by
 refine zd e_r10_pos.is rfl fun hl _=>e_r10_pos.goes ?_
 simp only [S_r10_pos,iN,bT,bF,eN]
 refine zab ?_
 refine c_kIn ?_
 refine zab ?_
 refine zw hl ?_
 exact hK
theorem fst_drop {l:List Int} {k:Nat} {x:Int} (hx:l[k]? = some x):zbn (l.drop k)=if x ≠ 0 then x else zbn (l.drop (k+1)):=by
 have hk:k<l.length:=(List.getElem?_eq_some_iff.1 hx).1
 rw [List.drop_eq_getElem_cons hk,(List.getElem?_eq_some_iff.1 hx).2]
 rfl
theorem zqt {σ:List zh} {l:List Int} (hl0:l.length<=1073741824) {K:KT} (hK:K (.d (.int .i64 (zbn l))) σ):zo Tryz.prog zcD [.d (.slice (zpd l))] σ K:=by
 refine zd zwl.is rfl fun hl _=>zwl.goes ?_
 have fin:∀ z,zbn l=z->K (.d (.int .i64 z)) σ:=fun z h=>h ▸ hK
 clear hK
 have hlen:(zpd l).length=l.length:=List.length_map ..
 simp only [zxd,iN,bT,bF,eN]
 refine zm l.length (fun k vs s=>vs = [.d (.int .i64 k)]/\s = σ/\zbn l=zbn (l.drop k)) ⟨rfl,rfl,by simp⟩ ?_
 rintro k vs s hk ⟨rfl,rfl,hpf⟩
 by_cases hlt:k<l.length
 ·have hd:decide ((k:Int)<(l.length:Int))=true:=by simp;omega
  have hx:l[k]? = some l[k]:=by simp [hlt]
  have hgx:=zR (f:=fun t => [D.int .i64 t]) hx
  obtain ⟨x,hxe⟩:∃ x,l[k]=x:=⟨_,rfl⟩
  rw [hxe] at hx hgx
  rw [fst_drop hx] at hpf
  cases h1:(x != 0)
  ·rw [if_neg (by simpa using h1)] at hpf
   refine zB (ze hd (ze hgx (ze hlen (ze h1 (wkc k (by omega)))))) ?_
   exact zaz.next hlt ⟨rfl,rfl,hpf⟩
  ·rw [if_pos (by simpa using h1)] at hpf
   refine zB (ze hd (ze hgx (ze hlen h1))) ?_
   refine zw hl ?_
   exact fin _ hpf
 ·have hd:decide ((k:Int)<(l.length:Int))=false:=by simp;omega
  rw [List.drop_eq_nil_of_le (by omega)] at hpf
  refine zB (ze hd hlen) ?_
  refine zw hl ?_
  exact fin _ hpf
theorem c_kSigns {σ:List zh} {l:List zK} (hl0:l.length<=1073741824) {K:KT} (hK:K (.d (.int .i64 (zbn (zcC l)))) σ):zo Tryz.prog zkk [.d (.slice (zap l))] σ K:=by
 refine zd zwj.is rfl fun hl _=>zwj.goes ?_
 have fin:∀ z,zbn (zcC l)=z->K (.d (.int .i64 z)) σ:=fun z h=>h ▸ hK
 clear hK
 have hlen:(zap l).length=l.length:=List.length_map ..
 simp only [zxb,iN,bT,bF,eN]
 cases h0:decide ((l.length:Int) > 13)
 rotate_left
 ·refine zB (ze hlen h0) ?_
  refine zw hl ?_
  refine fin 100 ?_
  have:inE l.length 0 13=100:=by rw [inE,if_pos];simp at h0;omega
  simp [zcC,zbn,this]
 refine zB (ze hlen h0) ?_
 have e0:zbn (zcC l)=zbn (l.map fun s=>zS s.key s.dig):=by
  have:inE l.length 0 13=0:=by rw [inE,if_neg];simp at h0;omega
  simp [zcC,zbn,this]
 refine zm l.length (fun k vs s=>vs = [.d (.int .i64 k)]/\s = σ/\zbn (zcC l)=zbn ((l.map fun s=>zS s.key s.dig).drop k)) ⟨rfl,rfl,by simpa using e0⟩ ?_
 rintro k vs s hk ⟨rfl,rfl,hpf⟩
 by_cases hlt:k<l.length
 ·have hd:decide ((k:Int)<(l.length:Int))=true:=by simp;omega
  have hx:l[k]? = some l[k]:=by simp [hlt]
  have hgx:=zR (f:=zgf) hx
  obtain ⟨x,hxe⟩:∃ x,l[k]=x:=⟨_,rfl⟩
  rw [hxe] at hx hgx
  rw [fst_drop (x:=zS x.key x.dig) (by simp [hx])] at hpf
  refine zhH (ze hd (ze hgx hlen)) ?_
  refine zdg ?_
  cases h1:(zS x.key x.dig != 0)
  ·rw [if_neg (by simpa using h1)] at hpf
   refine zB (ze h1 (wkc k (by omega))) ?_
   exact zaz.next hlt ⟨rfl,rfl,hpf⟩
  ·rw [if_pos (by simpa using h1)] at hpf
   refine zB h1 ?_
   refine zw hl ?_
   exact fin _ hpf
 ·have hd:decide ((k:Int)<(l.length:Int))=false:=by simp;omega
  rw [List.drop_eq_nil_of_le (by simp;omega)] at hpf
  refine zB (ze hd hlen) ?_
  refine zw hl ?_
  exact fin _ hpf
theorem c_kCert {σ:List zh} {c:zft} (hl0:c.signs.length<=1073741824) {K:KT} (hK:K (.d (.int .i64 (zbn (zcX c)))) σ):zo Tryz.prog zhj [zgc c] σ K:=by
 refine zd zps.is rfl fun hl _=>zps.goes ?_
 have fin:∀ z,zbn (zcX c)=z->K (.d (.int .i64 z)) σ:=fun z h=>h ▸ hK
 clear hK
 have hlen:(zap c.signs).length=c.signs.length:=List.length_map ..
 simp only [zpR,iN,bT,bF,eN,zgc]
 refine zab ?_
 refine c_kNum ?_
 refine zab ?_
 refine c_kNum ?_
 refine zab ?_
 refine zqt (l := [zlX c.seq,zlX c.dig]) (by simp) ?_
 have e2:zbn (zcX c)=if zbn [zlX c.seq,zlX c.dig] ≠ 0 then zbn [zlX c.seq,zlX c.dig] else zbn (zfp c :: zcC c.signs):=by
  rw [← zjT];rfl
 cases h1:(zbn [zlX c.seq,zlX c.dig] != 0)
 rotate_left
 ·refine zB h1 ?_
  refine zw hl ?_
  exact fin _ (by rw [e2,if_pos (by simpa using h1)])
 have h1':zbn [zlX c.seq,zlX c.dig]=0:=by simpa using h1
 rw [if_neg (by simpa using h1)] at e2
 have hs:zlX c.seq=0:=by
  simp only [zbn] at h1';split at h1'
  ·rename_i h;exact absurd h1' h
  ·rename_i h;simpa using h
 have hsq:=numE_0 hs
 have yes:zfp c=0->zo Tryz.prog zkk [.d (.slice (zap c.signs))] (σ++[zh.box [AV.d (D.int .i64 c.seq),AV.d (D.int .i64 c.dig),AV.d (D.slice (zap c.signs))]]) fun G s=>z1 (AW.Ends σ.length K) G s:=fun h=>by
  refine c_kSigns hl0 ?_
  refine zab ?_
  refine zw hl ?_
  refine fin _ ?_
  rw [e2];simp [zbn,h]
 have no:zfp c=100->zbn (zcX c)=100:=fun h=>by rw [e2];simp [zbn,h]
 cases h2:(c.seq == 0)
 ·have h2':¬ c.seq=0:=by simpa using h2
  have h3:decide (c.seq > 0)=true:=by simp;omega
  cases h4:(c.dig == 0)
  ·refine zB (ze h1 (ze h2 (ze h3 h4))) ?_
   exact yes (by simp at h4;simp [zfp,h2',h4])
  ·refine zB (ze h1 (ze h2 (ze h3 h4))) ?_
   refine zw hl ?_
   exact fin 100 (no (by simp at h4;simp [zfp,h2',h4]))
 ·have h2':c.seq=0:=by simpa using h2
  have h3:decide (c.seq > 0)=false:=by simp;omega
  cases h4:(c.dig != 0)
  ·cases h5:decide ((c.signs.length:Int) > 0)
   ·refine zB (ze h1 (ze h2 (ze h3 (ze h4 (ze hlen h5))))) ?_
    exact yes (by simp at h4 h5;simp [zfp,h2',h4,h5])
   ·refine zB (ze h1 (ze h2 (ze h3 (ze h4 (ze hlen h5))))) ?_
    refine zw hl ?_
    refine fin 100 (no ?_)
    simp only [decide_eq_true_eq] at h5
    rw [zfp,if_pos (.inr ⟨h2',by omega⟩)]
  ·refine zB (ze h1 (ze h2 (ze h3 h4))) ?_
   refine zw hl ?_
   exact fin 100 (no (by simp at h4;simp [zfp,h2',h4]))
end Go.Proofs.YtpgahkdjkanblaaGreat

/- Contracts: what is asked, as a list of errors that grows. -/
set_option maxRecDepth 100000
namespace Go.Proofs.YtpgahkdjkanblaaGreat
open Go.AW
theorem thn_apps (P l:List Int):zoH (zbn P) (zbn l)=zbn (P++l):=by rw [← thnE_z (zbn P),thnE_app,thnE_z]
section
variable {σ:List zh} {id:Nat} {P:List Int} {K:KT}
theorem c_aSays {x:Int} (hσ : σ[id]? = some (zgX (zbn P))) (hK:K (.tup []) (σ.set id (zgX (zbn (P++[x]))))):zo Tryz.prog zW [.box id 0,.d (.int .i64 x)] σ K:=c_says hσ (by rw [zrR];exact hK)
theorem c_aIn {n lo hi:Int} (hσ : σ[id]? = some (zgX (zbn P))) (hK:K (.tup []) (σ.set id (zgX (zbn (P++[inE n lo hi]))))):zo Tryz.prog zaJ [.box id 0,.d (.int .i64 n),.d (.int .i64 lo),.d (.int .i64 hi)] σ K:=zAq hσ (by rw [zrR];exact hK)
theorem c_aNum {n:Int} (hσ : σ[id]? = some (zgX (zbn P))) (hK:K (.tup []) (σ.set id (zgX (zbn (P++[zlX n]))))):zo Tryz.prog zaA [.box id 0,.d (.int .i64 n)] σ K:=zAp hσ (by rw [zrR];exact hK)
theorem c_aPos {n:Int} (hσ : σ[id]? = some (zgX (zbn P))) (hK:K (.tup []) (σ.set id (zgX (zbn (P++[zrN n]))))):zo Tryz.prog zaM [.box id 0,.d (.int .i64 n)] σ K:=c_askPos hσ (by rw [zrR];exact hK)
theorem c_aMany {n hi:Int} (hσ : σ[id]? = some (zgX (zbn P))) (hK:K (.tup []) (σ.set id (zgX (zbn (P++[inE n 0 hi]))))):zo Tryz.prog zbD [.box id 0,.d (.int .i64 n),.d (.int .i64 hi)] σ K:=c_askMany hσ (by rw [zrR];exact hK)
theorem c_aSigns {l:List zK} (hσ : σ[id]? = some (zgX (zbn P))) (hl0:l.length<=1073741824) (hK:K (.tup []) (σ.set id (zgX (zbn (P++zcC l))))):zo Tryz.prog zbf [.box id 0,.d (.slice (zap l))] σ K:=zyW hσ hl0 (by rw [thn_apps];exact hK)
theorem c_aCert {c:zft} (hσ : σ[id]? = some (zgX (zbn P))) (hl0:c.signs.length<=1073741824) (hK:K (.tup []) (σ.set id (zgX (zbn (P++zcX c))))):zo Tryz.prog zcJ [.box id 0,zgc c] σ K:=c_askCert hσ hl0 (by rw [thn_apps];exact hK)
end
end Go.Proofs.YtpgahkdjkanblaaGreat

/- Contracts: what is wrong with batches, on both sides. -/
set_option maxRecDepth 100000
namespace Go.Proofs.YtpgahkdjkanblaaGreat
open Go.AW
theorem wk1 (k:Nat) (h:k<=1073741824):IntKind.i64.wrap ((k:Int)+1)=((k+1:Nat):Int):=by rw [zas (by omega) (by omega)];rfl
theorem zqn {A P Q:Prop} (a:A) (h:Q) (e:A->Hd Q->P:=by intro a h;(repeat' first | simp -dsimp only [↓zeN, ↓zav, ↓zbq, ↓zeO, ↓zeH, ↓zeF, ↓zeI, ↓zeG, ↓zbv, ↓zbr, ↓zbw, ↓zbs, ↓zeJ, ↓zbp, ↓zbx, ↓zbt, ↓zby, ↓zbu, ↓zeE, ↓zeM, ↓zbo, ↓zbz, ↓zeC, ↓zeB, ↓zeD,iN,bT,bF,eN, ↓zcB, ↓unC, ↓zV, ↓zM, ↓zN, ↓zQ, ↓zY, ↓zal, ↓zdb, ↓zak, ↓zaH, ↓zT, ↓zf, ↓zj, ↓zbZ, ↓zb, ↓zag, ↓zE, ↓zaI, ↓zaO, ↓zc, ↓zy, ↓zl, ↓zG, ↓zaa, ↓zdm, ↓zdw, ↓zaj, ↓zar, ↓zaK, ↓zaS, ↓zaY, ↓zq, ↓zai, ↓zO, ↓zu, ↓zX,zdx,zbg,zbb,unA,zdd,bnd,zdY,zaf,zP,zdR,dm,dm1,zA,zae,zeh,zeg,zI,Q0,Q1,Q2,Q3,Q4,Q5,zZ,zC,zt,zL,zF,Q6,Q7,Q8,Q9,Q10,Q11,Q12,Q13,Q14,Nat.reduceAdd,Q15,Int.reduceToNat,Q16,Q17,Q18,Q19,Q20,reduceIte,Q21,Q22,zH,rep,zac,zel,toD,zah,Q23,Q24,Q25,Q26,Q27,Q28,Nat.reduceLeDiff,Q29,Nat.reduceSub,Q30,Q31,Q32,sc,Q33,Q34,Q35,Q36,Q37,Q26,Q38,Q39,zoy,zov,zos,zoz,zfG,zow,zot,zox,zou,zfF,zfH,zoB,zoC,Bool.not_true,Bool.not_false,List.length_map,zaE,zed,zdX,opA,zew,zgf,zgZ,zbc,a] | with_reducible refine zoE ?_ | fail);exact h.go):P:=e a ⟨h⟩
theorem zgU {σ:List zh} {b:List zJ} (hb:okB b) {K:KT} (hK:K (.d (.int .i64 (zD b))) σ):zo Tryz.prog zbC [.d (.slice (zbj b))] σ K:=by
 refine zd zjx.is rfl fun hl _=>zjx.goes ?_
 have fin:∀ z,zD b=z->K (.d (.int .i64 z)) σ:=fun z h=>h ▸ hK
 clear hK
 obtain ⟨hb1,hb2⟩:=hb
 simp only [zjF,iN,bT,bF,eN]
 cases h4:decide ((b.length:Int) > 4)
 rotate_left
 ·refine zB h4 ?_
  refine zw hl ?_
  exact fin _ (by rw [zD,if_pos (by simp at h4;omega)])
 have h4':¬ b.length > 4:=by simp at h4;omega
 refine zB h4 ?_
 refine zm b.length (fun k vs s=>vs = [.d (.int .i64 k)]/\(∃ T,s = σ++T)/\zoD (b.take k)=0) ⟨rfl,⟨[],by simp⟩,rfl⟩ ?_
 rintro k vs s hk ⟨rfl,⟨T,rfl⟩,he⟩
 by_cases hlt:k<b.length
 ·have hd:decide ((k:Int)<(b.length:Int))=true:=by simp;omega
  have hx:b[k]? = some b[k]:=by simp [hlt]
  have hbx:=hb2 _ (List.getElem_mem hlt)
  have hgx:=zR (f:=zbc) hx
  obtain ⟨x,hxe⟩:∃ x,b[k]=x:=⟨_,rfl⟩
  rw [hxe] at hx hgx hbx
  have bad:zyr x ≠ 0->K (.d (.int .i64 (zyr x))) σ:=fun h=>fin _ (by rw [zD,if_neg h4',if_pos (by rw [zqo hx he h];exact h)];exact zqo hx he h)
  refine zqn (ze hd hgx) ?_
  refine c_rqCheck (x:=x) hbx ?_
  cases h1:(zaq x != 0)
  rotate_left
  ·have h1':zaq x ≠ 0:=by simpa using h1
   refine zB h1 ?_
   refine zw hl ?_
   have e:zyr x=zaq x:=by rw [zyr,if_pos h1']
   rw [e] at bad
   exact bad h1'
  refine zB h1 ?_
  have h1':¬ zaq x ≠ 0:=by simpa using h1
  have e:zyr x=zS x.key x.dig:=by rw [zyr,if_neg h1']
  refine zet ?_
  cases h2:(zS x.key x.dig != 0)
  rotate_left
  ·refine zB h2 ?_
   refine zw hl ?_
   rw [e] at bad
   exact bad (by simpa using h2)
  refine zB (ze h2 (wk1 k (by omega))) ?_
  exact zaz.next hlt ⟨rfl,⟨_,rfl⟩,zyq hx he (by rw [e];simpa using h2)⟩
 ·have hn:k=b.length:=by omega
  subst hn
  rw [List.take_length] at he
  have hd:decide ((b.length:Int)<(b.length:Int))=false:=by simp
  refine zB hd ?_
  refine zm b.length (fun k vs s=>vs = [.d (.int .i64 k)]/\(∃ T,s = σ++T)/\(b.take k).Pairwise ndup) ⟨rfl,⟨T,rfl⟩,by simp⟩ ?_
  rintro k vs s hk' ⟨rfl,⟨T,rfl⟩,hp⟩
  by_cases hlt:k<b.length
  ·have hd:decide ((k:Int)<(b.length:Int))=true:=by simp;omega
   have hx:b[k]? = some b[k]:=by simp [hlt]
   have hgx:=zR (f:=zbc) hx
   obtain ⟨x,hxe⟩:∃ x,b[k]=x:=⟨_,rfl⟩
   rw [hxe] at hx hgx
   have htk:List.take k (List.map zbc b)=List.map zbc (b.take k):=by rw [List.map_take]
   have hlk:(b.take k).length=k:=by rw [List.length_take];omega
   refine zqn (ze hd (ze hgx (ze htk hlk))) ?_
   refine ⟨batch_nine b,?_⟩
   refine zqn (ze hd (ze hgx (ze htk hlk))) ?_
   refine zm k (fun j vs s=>vs = [.d (.int .i64 j)]/\(∃ T',s = σ++(T ++ .box [.d (.int .i64 x.client),.d (.int .i64 x.time),.d (.int .i64 x.op.kind),.d (.str x.op.topic),.d (.str x.op.group),.d (.int .i64 x.op.offset),.d (.slice (zgp x.op.recs)),.d (.int .i64 x.key),.d (.int .i64 x.dig)] :: T'))/\∀ y ∈ b.take j, ¬ (x.client=y.client/\x.time=y.time)) ⟨rfl,⟨[],by simp⟩,by simp⟩ ?_
   rintro j vs s hj ⟨rfl,⟨T',rfl⟩,hno⟩
   by_cases hjk:j<k
   ·have hd:decide ((j:Int)<(k:Int))=true:=by simp;omega
    have hy:b[j]? = some (b[j]'(by omega)):=List.getElem?_eq_getElem _
    have hy':(b.take k)[j]? = some (b[j]'(by omega)):=by rw [List.getElem?_take,if_pos hjk];exact hy
    have hgy:=zR (f:=zbc) hy'
    obtain ⟨y,hye⟩:∃ y,b[j]'(by omega)=y:=⟨_,rfl⟩
    rw [hye] at hy hgy hy'
    have hyt:b.take (j+1)=b.take j++[y]:=by rw [List.take_add_one,hy];rfl
    have next:¬ (x.client=y.client/\x.time=y.time)->∀ z ∈ b.take (j+1), ¬ (x.client=z.client/\x.time=z.time):=fun h z hz=>by
     rw [hyt] at hz
     rcases List.mem_append.1 hz with hz | hz
     ·exact hno z hz
     ·simp at hz;subst hz;exact h
    cases h1:(x.client == y.client)
    ·refine zqn (ze hd (ze htk (ze hlk (ze hgy (ze h1 (wk1 j (by omega))))))) ?_
     exact zaz.next hjk ⟨rfl,⟨_,rfl⟩,next (by simp at h1;exact fun h=>h1 h.1)⟩
    cases h2:(x.time == y.time)
    ·refine zqn (ze hd (ze htk (ze hlk (ze hgy (ze h1 (ze h2 (wk1 j (by omega)))))))) ?_
     exact zaz.next hjk ⟨rfl,⟨_,rfl⟩,next (by simp at h2;exact fun h=>h2 h.2)⟩
    ·refine zqn (ze hd (ze htk (ze hlk (ze hgy (ze h1 h2))))) ?_
     refine zw hl ?_
     have hnp:=pairs_not hx hy hjk ⟨by simpa using h1,by simpa using h2⟩
     exact fin _ (by rw [zD,if_neg h4',if_neg (by simpa using he),if_neg hnp])
   ·have hd:decide ((j:Int)<(k:Int))=false:=by simp;omega
    have hn:j=k:=by omega
    subst hn
    refine zB (ze hd (ze htk (ze hlk (wk1 j (by omega))))) ?_
    exact zaz.next hlt ⟨rfl,⟨_,rfl⟩,zxW hx hp hno⟩
  ·have hd:decide ((k:Int)<(b.length:Int))=false:=by simp;omega
   refine zB hd ?_
   refine zw hl ?_
   have hn:k=b.length:=by omega
   subst hn
   rw [List.take_length] at hp
   exact fin _ (by rw [zD,if_neg h4',if_neg (by simpa using he),if_pos hp])
theorem zhx {σ:List zh} {b:List zJ} (hb:okB b) {K:KT} (hK:K (.d (.int .i64 (zD b))) σ):zo Tryz.prog zcq [.d (.slice (zbj b))] σ K:=by
 refine zd znG.is rfl fun hl _=>znG.goes ?_
 have fin:∀ z,zD b=z->K (.d (.int .i64 z)) σ:=fun z h=>h ▸ hK
 clear hK
 obtain ⟨hb1,hb2⟩:=hb
 simp only [zoc,iN,bT,bF,eN]
 cases h4:decide ((b.length:Int) > 4)
 rotate_left
 ·refine zB h4 ?_
  refine zw hl ?_
  exact fin _ (by rw [zD,if_pos (by simp at h4;omega)])
 have h4':¬ b.length > 4:=by simp at h4;omega
 refine zB h4 ?_
 refine zm b.length (fun k vs s=>vs = [.d (.int .i64 k)]/\s = σ/\zoD (b.take k)=0) ⟨rfl,rfl,rfl⟩ ?_
 rintro k vs s hk ⟨rfl,rfl,he⟩
 by_cases hlt:k<b.length
 ·have hd:decide ((k:Int)<(b.length:Int))=true:=by simp;omega
  have hx:b[k]? = some b[k]:=by simp [hlt]
  have hbx:=hb2 _ (List.getElem_mem hlt)
  have hgx:=zR (f:=zbc) hx
  obtain ⟨x,hxe⟩:∃ x,b[k]=x:=⟨_,rfl⟩
  rw [hxe] at hx hgx hbx
  have bad:zyr x ≠ 0->K (.d (.int .i64 (zyr x))) s:=fun h=>fin _ (by rw [zD,if_neg h4',if_pos (by rw [zqo hx he h];exact h)];exact zqo hx he h)
  refine zqn (ze hd hgx) ?_
  refine zyP (x:=x) hbx ?_
  cases h1:(zaq x != 0)
  rotate_left
  ·have h1':zaq x ≠ 0:=by simpa using h1
   refine zB h1 ?_
   refine zw hl ?_
   have e:zyr x=zaq x:=by rw [zyr,if_pos h1']
   rw [e] at bad
   exact bad h1'
  refine zqn (ze h1 hgx) ?_
  have h1':¬ zaq x ≠ 0:=by simpa using h1
  have e:zyr x=zS x.key x.dig:=by rw [zyr,if_neg h1']
  refine zdg ?_
  cases h2:(zS x.key x.dig != 0)
  rotate_left
  ·refine zB h2 ?_
   refine zw hl ?_
   rw [e] at bad
   exact bad (by simpa using h2)
  refine zB (ze h2 (wk1 k (by omega))) ?_
  exact zaz.next hlt ⟨rfl,rfl,zyq hx he (by rw [e];simpa using h2)⟩
 ·have hn:k=b.length:=by omega
  subst hn
  rw [List.take_length] at he
  have hd:decide ((b.length:Int)<(b.length:Int))=false:=by simp
  refine zB hd ?_
  refine zm b.length (fun k vs q=>vs = [.d (.int .i64 k)]/\q=s/\(b.take k).Pairwise ndup) ⟨rfl,rfl,by simp⟩ ?_
  rintro k vs s hk' ⟨rfl,rfl,hp⟩
  by_cases hlt:k<b.length
  ·have hd:decide ((k:Int)<(b.length:Int))=true:=by simp;omega
   have hx:b[k]? = some b[k]:=by simp [hlt]
   have hgx:=zR (f:=zbc) hx
   obtain ⟨x,hxe⟩:∃ x,b[k]=x:=⟨_,rfl⟩
   rw [hxe] at hx hgx
   refine zB hd ?_
   refine zm k (fun j vs q=>vs = [.d (.int .i64 j)]/\q=s/\∀ y ∈ b.take j, ¬ (x.client=y.client/\x.time=y.time)) ⟨rfl,rfl,by simp⟩ ?_
   rintro j vs s hj ⟨rfl,rfl,hno⟩
   by_cases hjk:j<k
   ·have hd:decide ((j:Int)<(k:Int))=true:=by simp;omega
    have hy:b[j]? = some (b[j]'(by omega)):=List.getElem?_eq_getElem _
    have hgy:=zR (f:=zbc) hy
    obtain ⟨y,hye⟩:∃ y,b[j]'(by omega)=y:=⟨_,rfl⟩
    rw [hye] at hy hgy
    have hyt:b.take (j+1)=b.take j++[y]:=by rw [List.take_add_one,hy];rfl
    have next:¬ (x.client=y.client/\x.time=y.time)->∀ z ∈ b.take (j+1), ¬ (x.client=z.client/\x.time=z.time):=fun h z hz=>by
     rw [hyt] at hz
     rcases List.mem_append.1 hz with hz | hz
     ·exact hno z hz
     ·simp at hz;subst hz;exact h
    cases h1:(x.client == y.client)
    ·refine zqn (ze hd (ze hgx (ze hgy (ze h1 (wk1 j (by omega)))))) ?_
     exact zaz.next hjk ⟨rfl,rfl,next (by simp at h1;exact fun h=>h1 h.1)⟩
    cases h2:(x.time == y.time)
    ·refine zqn (ze hd (ze hgx (ze hgy (ze h1 (ze h2 (wk1 j (by omega))))))) ?_
     exact zaz.next hjk ⟨rfl,rfl,next (by simp at h2;exact fun h=>h2 h.2)⟩
    ·refine zqn (ze hd (ze hgx (ze hgy (ze h1 h2)))) ?_
     refine zw hl ?_
     have hnp:=pairs_not hx hy hjk ⟨by simpa using h1,by simpa using h2⟩
     exact fin _ (by rw [zD,if_neg h4',if_neg (by simpa using he),if_neg hnp])
   ·have hd:decide ((j:Int)<(k:Int))=false:=by simp;omega
    have hn:j=k:=by omega
    subst hn
    refine zB (ze hd (wk1 j (by omega))) ?_
    exact zaz.next hlt ⟨rfl,rfl,zxW hx hp hno⟩
  ·have hd:decide ((k:Int)<(b.length:Int))=false:=by simp;omega
   refine zB hd ?_
   refine zw hl ?_
   have hn:k=b.length:=by omega
   subst hn
   rw [List.take_length] at hp
   exact fin _ (by rw [zD,if_neg h4',if_neg (by simpa using he),if_pos hp])
end Go.Proofs.YtpgahkdjkanblaaGreat
