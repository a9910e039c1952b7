/- Contracts: whether a proof may be, the program's. -/
import Derived.Test.YtpgahkdjkanblaaGreatRc1
import Derived.Test.YtpgahkdjkanblaaGreatCodec1
set_option linter.all false
set_option maxRecDepth 100000
namespace Go.Proofs.YtpgahkdjkanblaaGreat
open Go.AW
structure zzR (p:znu):Prop where
 topic:p.topic.length<=16777216
 rec_:p.rec_.length<=16777216
 headers:p.headers.length<=1073741824
 path:p.path.length<=1073741824
 signs:p.cert.signs.length<=1073741824
 off:zrF p.offset
 index:zrF p.index
 count:zrF p.count
 paths:∀ x∈p.path,zrF x
abbrev proofO (p:znu):zd := .box [.d (.str p.topic),.d (.int .i64 p.offset),.d (.slice (bcs p.rec_)),.d (.slice (znX p.headers)),.d (.int .i64 p.index),.d (.int .i64 p.count),.d (.slice (ziN p.path)),.d (.int .i64 p.cert.seq),.d (.int .i64 p.cert.dig),.d (.slice (zO p.cert.signs))]
theorem thnE_app (e:Int) (a b:List Int):zok (zok e (zbg a)) (zbg b)=zok e (zbg (a++b)):=by
 rw [zjL]
 unfold zok
 by_cases h:e=0
 ·by_cases h2:zbg a=0
  ·simp [h,h2]
  ·simp [h,h2]
 ·simp [h]
theorem thnE_app1 (e:Int) (a:List Int) (x:Int):zok (zok e (zbg a)) x=zok e (zbg (a++[x])):=by
 have:x=zbg [x]:=by simp only [zbg];split<;>simp_all
 conv=>lhs;rw [this]
 exact thnE_app e a [x]
theorem thnE_z (x:Int):zok 0 x=x:=by simp [zok]
theorem zrJ (l:List Int) (x:Int):zok (zbg l) x=zbg (l++[x]):=by rw [← thnE_z (zbg l),thnE_app1,thnE_z]
theorem c_kIn {σ:List zd} {n lo hi:Int} {K:KT} (hK:K (.d (.int .i64 (inE n lo hi))) σ):zj Tryz.prog ziy [.d (.int .i64 n),.d (.int .i64 lo),.d (.int .i64 hi)] σ K:=by
 refine zyo e_r10_in fun hl => ?_
 have fin:∀ z,inE n lo hi=z->K (.d (.int .i64 z)) σ:=fun z h=>h▸hK
 clear hK
 simp only [S_r10_in,iN,bT,bF,eN]
 cases h1:decide (n<lo)
 ·cases h2:decide (n > hi)
  ·refine zA (zo h1 h2) ?_
   refine zt hl ?_
   exact fin 0 (by rw [inE,if_neg];simp at h1 h2;omega)
  ·refine zA (zo h1 h2) ?_
   refine zt hl ?_
   exact fin 100 (by rw [inE,if_pos];simp at h1 h2;omega)
 ·refine zA h1 ?_
  refine zt hl ?_
  exact fin 100 (by rw [inE,if_pos];simp at h1;omega)
theorem c_kNum {σ:List zd} {n:Int} {K:KT} (hK:K (.d (.int .i64 (zlL n))) σ):zj Tryz.prog zfP [.d (.int .i64 n)] σ K:=by
 refine zdZ e_r10_num fun hl => ?_
 simp only [S_r10_num,iN,bT,bF,eN]
 refine zQ ?_
 refine c_kIn ?_
 refine zQ ?_
 refine zt hl ?_
 exact hK
theorem c_kPos {σ:List zd} {n:Int} {K:KT} (hK:K (.d (.int .i64 (zrD n))) σ):zj Tryz.prog zhe [.d (.int .i64 n)] σ K:=by
 refine zdZ e_r10_pos fun hl => ?_
 simp only [S_r10_pos,iN,bT,bF,eN]
 refine zQ ?_
 refine c_kIn ?_
 refine zQ ?_
 refine zt hl ?_
 exact hK
theorem fst_drop {l:List Int} {k:Nat} {x:Int} (hx:l[k]? = some x):zbg (l.drop k)=if x≠0 then x else zbg (l.drop (k+1)):=by
 have hk:k<l.length:=(List.getElem?_eq_some_iff.1 hx).1
 rw [List.drop_eq_getElem_cons hk,(List.getElem?_eq_some_iff.1 hx).2]
 rfl
theorem zpQ {σ:List zd} {l:List Int} (hl0:l.length<=1073741824) {K:KT} (hK:K (.d (.int .i64 (zbg l))) σ):zj Tryz.prog zcu [.d (.slice (ziN l))] σ K:=by
 refine zdZ e_r10_first fun hl => ?_
 have fin:∀ z,zbg l=z->K (.d (.int .i64 z)) σ:=fun z h=>h▸hK
 clear hK
 have hlen:(ziN l).length=l.length:=List.length_map ..
 simp only [zxy,iN,bT,bF,eN]
 refine zl l.length (fun k vs s=>vs = [.d (.int .i64 k)]/\s = σ/\zbg l=zbg (l.drop k)) ⟨rfl,rfl,by simp⟩ ?_
 rintro k vs s hk ⟨rfl,rfl,hpf⟩
 by_cases hlt:k<l.length
 ·have hd:decide ((k:Int)<(l.length:Int))=true:=by simp;omega
  have hx:l[k]? = some l[k]:=by simp [hlt]
  have hgx:=zF (f:=fun t => [D.int .i64 t]) hx
  obtain ⟨x,hxe⟩:∃ x,l[k]=x:=⟨_,rfl⟩
  rw [hxe] at hx hgx
  rw [fst_drop hx] at hpf
  cases h1:(x != 0)
  ·rw [if_neg (by simpa using h1)] at hpf
   refine zA (zo hd (zo hgx (zo hlen (zo h1 (wkc k (by omega)))))) ?_
   exact zan.next hlt ⟨rfl,rfl,hpf⟩
  ·rw [if_pos (by simpa using h1)] at hpf
   refine zA (zo hd (zo hgx (zo hlen h1))) ?_
   refine zt hl ?_
   exact fin _ hpf
 ·have hd:decide ((k:Int)<(l.length:Int))=false:=by simp;omega
  rw [List.drop_eq_nil_of_le (by omega)] at hpf
  refine zA (zo hd hlen) ?_
  refine zt hl ?_
  exact fin _ hpf
theorem c_kSigns {σ:List zd} {l:List zy} (hl0:l.length<=1073741824) {K:KT} (hK:K (.d (.int .i64 (zbg (zcs l)))) σ):zj Tryz.prog zki [.d (.slice (zO l))] σ K:=by
 refine zdZ e_r10_signs fun hl => ?_
 have fin:∀ z,zbg (zcs l)=z->K (.d (.int .i64 z)) σ:=fun z h=>h▸hK
 clear hK
 have hlen:(zO l).length=l.length:=List.length_map ..
 simp only [zxw,iN,bT,bF,eN]
 cases h0:decide ((l.length:Int) > 13)
 rotate_left
 ·refine zA (zo hlen h0) ?_
  refine zt hl ?_
  refine fin 100 ?_
  have:inE l.length 0 13=100:=by rw [inE,if_pos];simp at h0;omega
  simp [zcs,zbg,this]
 refine zA (zo hlen h0) ?_
 have e0:zbg (zcs l)=zbg (l.map fun s=>zN s.key s.dig):=by
  have:inE l.length 0 13=0:=by rw [inE,if_neg];simp at h0;omega
  simp [zcs,zbg,this]
 refine zl l.length (fun k vs s=>vs = [.d (.int .i64 k)]/\s = σ/\zbg (zcs l)=zbg ((l.map fun s=>zN s.key s.dig).drop k)) ⟨rfl,rfl,by simpa using e0⟩ ?_
 rintro k vs s hk ⟨rfl,rfl,hpf⟩
 by_cases hlt:k<l.length
 ·have hd:decide ((k:Int)<(l.length:Int))=true:=by simp;omega
  have hx:l[k]? = some l[k]:=by simp [hlt]
  have hgx:=zF (f:=zfi) hx
  obtain ⟨x,hxe⟩:∃ x,l[k]=x:=⟨_,rfl⟩
  rw [hxe] at hx hgx
  rw [fst_drop (x:=zN x.key x.dig) (by simp [hx])] at hpf
  refine zfG (zo hd (zo hgx hlen)) ?_
  refine zdl ?_
  cases h1:(zN x.key x.dig != 0)
  ·rw [if_neg (by simpa using h1)] at hpf
   refine zA (zo h1 (wkc k (by omega))) ?_
   exact zan.next hlt ⟨rfl,rfl,hpf⟩
  ·rw [if_pos (by simpa using h1)] at hpf
   refine zA h1 ?_
   refine zt hl ?_
   exact fin _ hpf
 ·have hd:decide ((k:Int)<(l.length:Int))=false:=by simp;omega
  rw [List.drop_eq_nil_of_le (by simp;omega)] at hpf
  refine zA (zo hd hlen) ?_
  refine zt hl ?_
  exact fin _ hpf
theorem c_kCert {σ:List zd} {c:zeP} (hl0:c.signs.length<=1073741824) {K:KT} (hK:K (.d (.int .i64 (zbg (zdd c)))) σ):zj Tryz.prog zhh [zdu c] σ K:=by
 refine zdZ zwM fun hl => ?_
 have fin:∀ z,zbg (zdd c)=z->K (.d (.int .i64 z)) σ:=fun z h=>h▸hK
 clear hK
 have hlen:(zO c.signs).length=c.signs.length:=List.length_map ..
 simp only [zpm,iN,bT,bF,eN,zdu]
 refine zQ ?_
 refine c_kNum ?_
 refine zQ ?_
 refine c_kNum ?_
 refine zQ ?_
 refine zpQ (l := [zlL c.seq,zlL c.dig]) (by simp) ?_
 have e2:zbg (zdd c)=if zbg [zlL c.seq,zlL c.dig]≠0 then zbg [zlL c.seq,zlL c.dig] else zbg (zfd c::zcs c.signs):=by
  rw [← zjL];rfl
 cases h1:(zbg [zlL c.seq,zlL c.dig] != 0)
 rotate_left
 ·refine zA h1 ?_
  refine zt hl ?_
  exact fin _ (by rw [e2,if_pos (by simpa using h1)])
 have h1':zbg [zlL c.seq,zlL c.dig]=0:=by simpa using h1
 rw [if_neg (by simpa using h1)] at e2
 have hs:zlL c.seq=0:=by
  simp only [zbg] at h1';split at h1'
  ·rename_i h;exact absurd h1' h
  ·rename_i h;simpa using h
 have hsq:=numE_0 hs
 have yes:zfd c=0->zj Tryz.prog zki [.d (.slice (zO c.signs))] (σ++[zd.box [AV.d (D.int .i64 c.seq),AV.d (D.int .i64 c.dig),AV.d (D.slice (zO c.signs))]]) fun G s=>z1 (AW.Ends σ.length K) G s:=fun h=>by
  refine c_kSigns hl0 ?_
  refine zQ ?_
  refine zt hl ?_
  refine fin _ ?_
  rw [e2];simp [zbg,h]
 have no:zfd c=100->zbg (zdd c)=100:=fun h=>by rw [e2];simp [zbg,h]
 cases h2:(c.seq==0)
 ·have h2':¬ c.seq=0:=by simpa using h2
  have h3:decide (c.seq > 0)=true:=by simp;omega
  cases h4:(c.dig==0)
  ·refine zA (zo h1 (zo h2 (zo h3 h4))) ?_
   exact yes (by simp at h4;simp [zfd,h2',h4])
  ·refine zA (zo h1 (zo h2 (zo h3 h4))) ?_
   refine zt hl ?_
   exact fin 100 (no (by simp at h4;simp [zfd,h2',h4]))
 ·have h2':c.seq=0:=by simpa using h2
  have h3:decide (c.seq > 0)=false:=by simp;omega
  cases h4:(c.dig != 0)
  ·cases h5:decide ((c.signs.length:Int) > 0)
   ·refine zA (zo h1 (zo h2 (zo h3 (zo h4 (zo hlen h5))))) ?_
    exact yes (by simp at h4 h5;simp [zfd,h2',h4,h5])
   ·refine zA (zo h1 (zo h2 (zo h3 (zo h4 (zo hlen h5))))) ?_
    refine zt hl ?_
    refine fin 100 (no ?_)
    simp only [decide_eq_true_eq] at h5
    rw [zfd,if_pos (.inr ⟨h2',by omega⟩)]
  ·refine zA (zo h1 (zo h2 (zo h3 h4))) ?_
   refine zt hl ?_
   exact fin 100 (no (by simp at h4;simp [zfd,h2',h4]))
theorem thn_apps (P l:List Int):zok (zbg P) (zbg l)=zbg (P++l):=by rw [← thnE_z (zbg P),thnE_app,thnE_z]
section
variable {σ:List zd} {id:Nat} {P:List Int} {K:KT}
theorem c_aSays {x:Int} (hσ : σ[id]? = some (zgX (zbg P))) (hK:K (.tup []) (σ.set id (zgX (zbg (P++[x]))))):zj Tryz.prog zS [.box id 0,.d (.int .i64 x)] σ K:=c_says hσ (by rw [zrJ];exact hK)
theorem c_aIn {n lo hi:Int} (hσ : σ[id]? = some (zgX (zbg P))) (hK:K (.tup []) (σ.set id (zgX (zbg (P++[inE n lo hi]))))):zj Tryz.prog zaK [.box id 0,.d (.int .i64 n),.d (.int .i64 lo),.d (.int .i64 hi)] σ K:=zAR hσ (by rw [zrJ];exact hK)
theorem c_aNum {n:Int} (hσ : σ[id]? = some (zgX (zbg P))) (hK:K (.tup []) (σ.set id (zgX (zbg (P++[zlL n]))))):zj Tryz.prog zas [.box id 0,.d (.int .i64 n)] σ K:=zAQ hσ (by rw [zrJ];exact hK)
theorem c_aPos {n:Int} (hσ : σ[id]? = some (zgX (zbg P))) (hK:K (.tup []) (σ.set id (zgX (zbg (P++[zrD n]))))):zj Tryz.prog zaO [.box id 0,.d (.int .i64 n)] σ K:=c_askPos hσ (by rw [zrJ];exact hK)
theorem c_aMany {n hi:Int} (hσ : σ[id]? = some (zgX (zbg P))) (hK:K (.tup []) (σ.set id (zgX (zbg (P++[inE n 0 hi]))))):zj Tryz.prog zbl [.box id 0,.d (.int .i64 n),.d (.int .i64 hi)] σ K:=c_askMany hσ (by rw [zrJ];exact hK)
theorem c_aSigns {l:List zy} (hσ : σ[id]? = some (zgX (zbg P))) (hl0:l.length<=1073741824) (hK:K (.tup []) (σ.set id (zgX (zbg (P++zcs l))))):zj Tryz.prog zbc [.box id 0,.d (.slice (zO l))] σ K:=zzq hσ hl0 (by rw [thn_apps];exact hK)
theorem c_aCert {c:zeP} (hσ : σ[id]? = some (zgX (zbg P))) (hl0:c.signs.length<=1073741824) (hK:K (.tup []) (σ.set id (zgX (zbg (P++zdd c))))):zj Tryz.prog zcB [.box id 0,zdu c] σ K:=c_askCert hσ hl0 (by rw [thn_apps];exact hK)
end
theorem wk1 (k:Nat) (h:k<=1073741824):IntKind.i64.wrap ((k:Int)+1)=((k+1:Nat):Int):=by rw [zab (by omega) (by omega)];rfl
theorem zkZ {A P Q:Prop} (a:A) (h:Q) (e:A->Hd Q->P:=by intro a h;(repeat' first|simp -dsimp only [↓zhL, ↓zbi, ↓zcI, ↓zhM, ↓zhF, ↓zhD, ↓zhG, ↓zhE, ↓zcN, ↓zcJ, ↓zcO, ↓zcK, ↓zhH, ↓zcH, ↓zcP, ↓zcL, ↓zcQ, ↓zcM, ↓zhC, ↓zhK, ↓zcG, ↓zcR, ↓zhz, ↓zhy, ↓zhB,iN,bT,bF,eN, ↓zdT, ↓unC, ↓zam, ↓zY, ↓zZ, ↓zae, ↓zax, ↓zag, ↓zeQ, ↓zap, ↓zaQ, ↓zW, ↓zg, ↓zh, ↓zcW, ↓zb, ↓zaC, ↓zG, ↓zbv, ↓zbE, ↓zc, ↓zE, ↓zq, ↓zK, ↓zao, ↓zft, ↓zfB, ↓zaL, ↓zaX, ↓zbm, ↓zbC, ↓zcj, ↓zI, ↓zaH, ↓zaa, ↓zM, ↓zaw,zfE,zcw,zcp,unA,zeT,bnd,zgq,zaA,zL,zga,dm,dm1,zw,zad,zgP,zgO,zH,Q0,Q1,Q2,Q3,Q4,Q5,zay,zB,zD,zT,zP,Q6,Q7,Q8,Q9,Q10,Q11,Q12,Q13,Q14,Nat.reduceAdd,Q15,Int.reduceToNat,Q16,Q17,Q18,Q19,Q20,reduceIte,Q21,Q22,zU,rep,zar,zgW,toD,zaz,Q23,Q24,Q25,Q26,Q27,Q28,Nat.reduceLeDiff,Q29,Nat.reduceSub,Q30,Q31,Q32,sc,Q33,Q34,Q35,Q36,Q37,Q26,Q38,Q39,zwb,zvY,zvV,zwc,zks,zvZ,zvW,zwa,zvX,zkr,zkt,zwl,zwm,Bool.not_true,Bool.not_false,List.length_map,Bool.and_false,Bool.and_self,Bool.false_and,Bool.not_false,Bool.not_true,Bool.true_and,Int.toNat_natCast,Int.toNat_zero,List.drop_zero,List.length_map,List.length_nil,List.nil_append,List.take_length,Nat.sub_zero,Nat.zero_add,Option.isSome_none,Option.isSome_some,Option.map_none,Option.map_some,zX,beq_self_eq_true,bne_self_eq_false,zco,zat,zbh,zdR,opA,zei,zfi,zfK,zaN,a]|with_reducible refine zxk ?_|fail);exact h.go):P:=e a ⟨h⟩
theorem zfY {σ:List zd} {b:List zC} (hb:okB b) {K:KT} (hK:K (.d (.int .i64 (zr b))) σ):zj Tryz.prog zaW [.d (.slice (zaP b))] σ K:=by
 refine zdZ zpZ fun hl => ?_
 have fin:∀ z,zr b=z->K (.d (.int .i64 z)) σ:=fun z h=>h▸hK
 clear hK
 obtain ⟨hb1,hb2⟩:=hb
 simp only [zjy,iN,bT,bF,eN,zl2]
 cases h4:decide ((b.length:Int) > 4)
 rotate_left
 ·refine zA h4 ?_
  refine zt hl ?_
  exact fin _ (by rw [zr,if_pos (by simp at h4;omega)])
 have h4':¬ b.length > 4:=by simp at h4;omega
 refine zA h4 ?_
 refine zl b.length (fun k vs s=>vs = [.d (.int .i64 k)]/\(∃ T,s = σ++T)/\znY (b.take k)=0) ⟨rfl,⟨[],by simp⟩,rfl⟩ ?_
 rintro k vs s hk ⟨rfl,⟨T,rfl⟩,he⟩
 by_cases hlt:k<b.length
 ·have hd:decide ((k:Int)<(b.length:Int))=true:=by simp;omega
  have hx:b[k]? = some b[k]:=by simp [hlt]
  have hbx:=hb2 _ (List.getElem_mem hlt)
  have hgx:=zF (f:=zaN) hx
  obtain ⟨x,hxe⟩:∃ x,b[k]=x:=⟨_,rfl⟩
  rw [hxe] at hx hgx hbx
  have bad:zzc x≠0->K (.d (.int .i64 (zzc x))) σ:=fun h=>fin _ (by rw [zr,if_neg h4',if_pos (by rw [zpM hx he h];exact h)];exact zpM hx he h)
  refine zkZ (zo hd hgx) ?_
  refine c_rqCheck (x:=x) hbx ?_
  cases h1:(zai x != 0)
  rotate_left
  ·have h1':zai x≠0:=by simpa using h1
   refine zA h1 ?_
   refine zt hl ?_
   have e:zzc x=zai x:=by rw [zzc,if_pos h1']
   rw [e] at bad
   exact bad h1'
  refine zA h1 ?_
  have h1':¬ zai x≠0:=by simpa using h1
  have e:zzc x=zN x.key x.dig:=by rw [zzc,if_neg h1']
  refine zer ?_
  cases h2:(zN x.key x.dig != 0)
  rotate_left
  ·refine zA h2 ?_
   refine zt hl ?_
   rw [e] at bad
   exact bad (by simpa using h2)
  refine zA (zo h2 (wk1 k (by omega))) ?_
  exact zan.next hlt ⟨rfl,⟨_,rfl⟩,zzb hx he (by rw [e];simpa using h2)⟩
 ·have hn:k=b.length:=by omega
  subst hn
  rw [List.take_length] at he
  have hd:decide ((b.length:Int)<(b.length:Int))=false:=by simp
  refine zA hd ?_
  refine zl b.length (fun k vs s=>vs = [.d (.int .i64 k)]/\(∃ T,s = σ++T)/\(b.take k).Pairwise ndup) ⟨rfl,⟨T,rfl⟩,by simp⟩ ?_
  rintro k vs s hk' ⟨rfl,⟨T,rfl⟩,hp⟩
  by_cases hlt:k<b.length
  ·have hd:decide ((k:Int)<(b.length:Int))=true:=by simp;omega
   have hx:b[k]? = some b[k]:=by simp [hlt]
   have hgx:=zF (f:=zaN) hx
   obtain ⟨x,hxe⟩:∃ x,b[k]=x:=⟨_,rfl⟩
   rw [hxe] at hx hgx
   have htk:List.take k (List.map zaN b)=List.map zaN (b.take k):=by rw [List.map_take]
   have hlk:(b.take k).length=k:=by rw [List.length_take];omega
   refine zkZ (zo hd (zo hgx (zo htk hlk))) ?_
   refine ⟨batch_nine b,?_⟩
   refine zkZ (zo hd (zo hgx (zo htk hlk))) ?_
   refine zl k (fun j vs s=>vs = [.d (.int .i64 j)]/\(∃ T',s = σ++(T ++ .box [.d (.int .i64 x.client),.d (.int .i64 x.time),.d (.int .i64 x.op.kind),.d (.str x.op.topic),.d (.str x.op.group),.d (.int .i64 x.op.offset),.d (.slice (zeU x.op.recs)),.d (.int .i64 x.key),.d (.int .i64 x.dig)]::T'))/\∀ y∈b.take j, ¬ (x.client=y.client/\x.time=y.time)) ⟨rfl,⟨[],by simp⟩,by simp⟩ ?_
   rintro j vs s hj ⟨rfl,⟨T',rfl⟩,hno⟩
   by_cases hjk:j<k
   ·have hd:decide ((j:Int)<(k:Int))=true:=by simp;omega
    have hy:b[j]? = some (b[j]'(by omega)):=List.getElem?_eq_getElem _
    have hy':(b.take k)[j]? = some (b[j]'(by omega)):=by rw [List.getElem?_take,if_pos hjk];exact hy
    have hgy:=zF (f:=zaN) hy'
    obtain ⟨y,hye⟩:∃ y,b[j]'(by omega)=y:=⟨_,rfl⟩
    rw [hye] at hy hgy hy'
    have hyt:b.take (j+1)=b.take j++[y]:=by rw [List.take_add_one,hy];rfl
    have next:¬ (x.client=y.client/\x.time=y.time)->∀ z∈b.take (j+1), ¬ (x.client=z.client/\x.time=z.time):=fun h z hz=>by
     rw [hyt] at hz
     rcases List.mem_append.1 hz with hz|hz
     ·exact hno z hz
     ·simp at hz;subst hz;exact h
    cases h1:(x.client==y.client)
    ·refine zkZ (zo hd (zo htk (zo hlk (zo hgy (zo h1 (wk1 j (by omega))))))) ?_
     exact zan.next hjk ⟨rfl,⟨_,rfl⟩,next (by simp at h1;exact fun h=>h1 h.1)⟩
    cases h2:(x.time==y.time)
    ·refine zkZ (zo hd (zo htk (zo hlk (zo hgy (zo h1 (zo h2 (wk1 j (by omega)))))))) ?_
     exact zan.next hjk ⟨rfl,⟨_,rfl⟩,next (by simp at h2;exact fun h=>h2 h.2)⟩
    ·refine zkZ (zo hd (zo htk (zo hlk (zo hgy (zo h1 h2))))) ?_
     refine zt hl ?_
     have hnp:=pairs_not hx hy hjk ⟨by simpa using h1,by simpa using h2⟩
     exact fin _ (by rw [zr,if_neg h4',if_neg (by simpa using he),if_neg hnp])
   ·have hd:decide ((j:Int)<(k:Int))=false:=by simp;omega
    have hn:j=k:=by omega
    subst hn
    refine zA (zo hd (zo htk (zo hlk (wk1 j (by omega))))) ?_
    exact zan.next hlt ⟨rfl,⟨_,rfl⟩,zyG hx hp hno⟩
  ·have hd:decide ((k:Int)<(b.length:Int))=false:=by simp;omega
   refine zA hd ?_
   refine zt hl ?_
   have hn:k=b.length:=by omega
   subst hn
   rw [List.take_length] at hp
   exact fin _ (by rw [zr,if_neg h4',if_neg (by simpa using he),if_pos hp])
theorem zgh {σ:List zd} {b:List zC} (hb:okB b) {K:KT} (hK:K (.d (.int .i64 (zr b))) σ):zj Tryz.prog zbM [.d (.slice (zaP b))] σ K:=by
 refine zdZ zvf fun hl => ?_
 have fin:∀ z,zr b=z->K (.d (.int .i64 z)) σ:=fun z h=>h▸hK
 clear hK
 obtain ⟨hb1,hb2⟩:=hb
 simp only [znG,iN,bT,bF,eN]
 cases h4:decide ((b.length:Int) > 4)
 rotate_left
 ·refine zA h4 ?_
  refine zt hl ?_
  exact fin _ (by rw [zr,if_pos (by simp at h4;omega)])
 have h4':¬ b.length > 4:=by simp at h4;omega
 refine zA h4 ?_
 refine zl b.length (fun k vs s=>vs = [.d (.int .i64 k)]/\s = σ/\znY (b.take k)=0) ⟨rfl,rfl,rfl⟩ ?_
 rintro k vs s hk ⟨rfl,rfl,he⟩
 by_cases hlt:k<b.length
 ·have hd:decide ((k:Int)<(b.length:Int))=true:=by simp;omega
  have hx:b[k]? = some b[k]:=by simp [hlt]
  have hbx:=hb2 _ (List.getElem_mem hlt)
  have hgx:=zF (f:=zaN) hx
  obtain ⟨x,hxe⟩:∃ x,b[k]=x:=⟨_,rfl⟩
  rw [hxe] at hx hgx hbx
  have bad:zzc x≠0->K (.d (.int .i64 (zzc x))) s:=fun h=>fin _ (by rw [zr,if_neg h4',if_pos (by rw [zpM hx he h];exact h)];exact zpM hx he h)
  refine zkZ (zo hd hgx) ?_
  refine zzl (x:=x) hbx ?_
  cases h1:(zai x != 0)
  rotate_left
  ·have h1':zai x≠0:=by simpa using h1
   refine zA h1 ?_
   refine zt hl ?_
   have e:zzc x=zai x:=by rw [zzc,if_pos h1']
   rw [e] at bad
   exact bad h1'
  refine zkZ (zo h1 hgx) ?_
  have h1':¬ zai x≠0:=by simpa using h1
  have e:zzc x=zN x.key x.dig:=by rw [zzc,if_neg h1']
  refine zdl ?_
  cases h2:(zN x.key x.dig != 0)
  rotate_left
  ·refine zA h2 ?_
   refine zt hl ?_
   rw [e] at bad
   exact bad (by simpa using h2)
  refine zA (zo h2 (wk1 k (by omega))) ?_
  exact zan.next hlt ⟨rfl,rfl,zzb hx he (by rw [e];simpa using h2)⟩
 ·have hn:k=b.length:=by omega
  subst hn
  rw [List.take_length] at he
  have hd:decide ((b.length:Int)<(b.length:Int))=false:=by simp
  refine zA hd ?_
  refine zl b.length (fun k vs q=>vs = [.d (.int .i64 k)]/\q=s/\(b.take k).Pairwise ndup) ⟨rfl,rfl,by simp⟩ ?_
  rintro k vs s hk' ⟨rfl,rfl,hp⟩
  by_cases hlt:k<b.length
  ·have hd:decide ((k:Int)<(b.length:Int))=true:=by simp;omega
   have hx:b[k]? = some b[k]:=by simp [hlt]
   have hgx:=zF (f:=zaN) hx
   obtain ⟨x,hxe⟩:∃ x,b[k]=x:=⟨_,rfl⟩
   rw [hxe] at hx hgx
   refine zA hd ?_
   refine zl k (fun j vs q=>vs = [.d (.int .i64 j)]/\q=s/\∀ y∈b.take j, ¬ (x.client=y.client/\x.time=y.time)) ⟨rfl,rfl,by simp⟩ ?_
   rintro j vs s hj ⟨rfl,rfl,hno⟩
   by_cases hjk:j<k
   ·have hd:decide ((j:Int)<(k:Int))=true:=by simp;omega
    have hy:b[j]? = some (b[j]'(by omega)):=List.getElem?_eq_getElem _
    have hgy:=zF (f:=zaN) hy
    obtain ⟨y,hye⟩:∃ y,b[j]'(by omega)=y:=⟨_,rfl⟩
    rw [hye] at hy hgy
    have hyt:b.take (j+1)=b.take j++[y]:=by rw [List.take_add_one,hy];rfl
    have next:¬ (x.client=y.client/\x.time=y.time)->∀ z∈b.take (j+1), ¬ (x.client=z.client/\x.time=z.time):=fun h z hz=>by
     rw [hyt] at hz
     rcases List.mem_append.1 hz with hz|hz
     ·exact hno z hz
     ·simp at hz;subst hz;exact h
    cases h1:(x.client==y.client)
    ·refine zkZ (zo hd (zo hgx (zo hgy (zo h1 (wk1 j (by omega)))))) ?_
     exact zan.next hjk ⟨rfl,rfl,next (by simp at h1;exact fun h=>h1 h.1)⟩
    cases h2:(x.time==y.time)
    ·refine zkZ (zo hd (zo hgx (zo hgy (zo h1 (zo h2 (wk1 j (by omega))))))) ?_
     exact zan.next hjk ⟨rfl,rfl,next (by simp at h2;exact fun h=>h2 h.2)⟩
    ·refine zkZ (zo hd (zo hgx (zo hgy (zo h1 h2)))) ?_
     refine zt hl ?_
     have hnp:=pairs_not hx hy hjk ⟨by simpa using h1,by simpa using h2⟩
     exact fin _ (by rw [zr,if_neg h4',if_neg (by simpa using he),if_neg hnp])
   ·have hd:decide ((j:Int)<(k:Int))=false:=by simp;omega
    have hn:j=k:=by omega
    subst hn
    refine zA (zo hd (wk1 j (by omega))) ?_
    exact zan.next hlt ⟨rfl,rfl,zyG hx hp hno⟩
  ·have hd:decide ((k:Int)<(b.length:Int))=false:=by simp;omega
   refine zA hd ?_
   refine zt hl ?_
   have hn:k=b.length:=by omega
   subst hn
   rw [List.take_length] at hp
   exact fin _ (by rw [zr,if_neg h4',if_neg (by simpa using he),if_pos hp])
end Go.Proofs.YtpgahkdjkanblaaGreat
