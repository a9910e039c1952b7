/- Contracts: what is wrong with batches, on both sides. -/
import Derived.Test.YtdgcepphjnoalaaGreatOpC
import Derived.Test.YtdgcepphjnoalaaGreatSh
import Derived.Test.YtdgcepphjnoalaaGreatSpTab
set_option linter.all false
set_option maxRecDepth 100000
namespace Go.Proofs.YtdgcepphjnoalaaGreat
open Go.AW
variable {σ:List AObj}
theorem wk1 (k:Nat)(h:k<=1073741824):IntKind.i64.wrap ((k:Int)+1)=((k+1:Nat):Int):=by rw[zaW (by omega) (by omega)];rfl
theorem zdB {A P Q:Prop}(a:A)(h:Q)(e:A->Hd Q->P:=by intro a h;(repeat' first|simp -dsimp only[↓zlH,↓zbS,↓zee,↓zlI,↓zlz,↓zlx,↓zlA,↓zly,↓zej,↓zef,↓zek,↓zeg,↓zlB,↓zeb,↓zel,↓zeh,↓zem,↓zei,↓zlw,↓zlF,↓zea,↓zep,↓zlo,↓zln,↓zlu,iN,bT,bF,eN,↓zes,↓unC,↓zaC,↓zai,↓zaj,↓zav,↓zaX,↓zah,↓zgB,↓zaw,↓zbf,↓zad,↓ze,↓zj,↓zaR,↓zc,↓zaV,↓zN,↓zbT,↓zcl,↓zf,↓zF,↓zp,↓zM,↓zaB,↓zgI,↓zhI,↓zbc,↓zby,↓zcf,↓zcA,↓zdp,↓zJ,↓zbb,↓zak,↓zO,↓zaU,zhr,zdV,zdD,unA,zgy,bnd,ziT,zaO,zL,zid,dm,dm1,zH,zaF,zjX,zjW,keepO,Q0,Q1,Q2,Q3,Q4,Q5,zba,zA,zB,zY,zab,Q6,Q7,Q8,Q9,Q10,Q11,Q12,Q13,Q14,Nat.reduceAdd,Q15,Int.reduceToNat,Q16,Q17,Q18,Q19,Q20,reduceIte,Q21,Q22,zy,rep,zaq,zhX,toD,zaD,Q23,Q24,Q25,Q26,Q27,Q28,Nat.reduceLeDiff,Q29,Nat.reduceSub,Q30,Q31,Q32,sc,Q33,Q34,Q35,Q36,Q37,Q26,Q38,Q39,zuH,zuE,zuB,zuI,zjw,zuF,zuC,zuG,zuD,zjv,zjx,zuK,zuL,Bool.not_true,Bool.not_false,List.length_map,Bool.and_false,Bool.and_self,Bool.false_and,Bool.not_false,Bool.not_true,Bool.true_and,Int.toNat_natCast,Int.toNat_zero,List.drop_zero,List.length_map,List.length_nil,List.nil_append,List.take_length,Nat.sub_zero,Nat.zero_add,Option.isSome_none,Option.isSome_some,Option.map_none,Option.map_some,zam,beq_self_eq_true,bne_self_eq_false,zck,zhO,zag,zdh,zsb,zch,zou,opA,opD,zfC,zgt,zis,zay,a]|with_reducible refine zuZ ?_|fail);exact h.go):P:=e a ⟨h⟩
theorem zjc {b:List zr}(hb:okB b){K:KT}(hK:K (.d (.int .i64 (zD b))) σ):zP zbP [.d (.slice (zbz b))] σ K:=by
 refine zeA zpV fun hl=>?_;have fin:∀z,zD b=z->K (.d (.int .i64 z)) σ:=fun z h=>h▸hK;clear hK;obtain⟨hb1,hb2⟩:=hb;simp only[zjG,iN,bT,bF,eN,zl1];cases h4:decide ((b.length:Int)>4);rotate_left
 ·refine zm h4 ?_;refine zu hl ?_;exact fin _ (by rw[zD,if_pos (by simp at h4;omega)])
 have h4':¬b.length>4:=by simp at h4;omega
 refine zm h4 ?_;refine zn b.length (fun k vs s=>vs=[.d (.int .i64 k)]/\(∃T,s=σ++T)/\znZ (b.take k)=0) ⟨rfl,⟨[],by simp⟩,rfl⟩ ?_;rintro k vs s hk ⟨rfl,⟨T,rfl⟩,he⟩;by_cases hlt:k<b.length
 ·have hd:decide ((k:Int)<(b.length:Int))=true:=by simp;omega
  have hx:b[k]? = some b[k]:=by simp[hlt]
  have hbx:=hb2 _ (List.getElem_mem hlt);have hgx:=zR (f:=zay) hx;obtain⟨x,hxe⟩:∃x,b[k]=x:=⟨_,rfl⟩;rw[hxe]at hx hgx hbx;have bad:zyK x≠0->K (.d (.int .i64 (zyK x))) σ:=fun h=>fin _ (by rw[zD,if_neg h4',if_pos (by rw[zpJ hx he h];exact h)];exact zpJ hx he h);refine zdB (zd hd hgx) ?_;refine c_rqCheck (x:=x) hbx ?_;cases h1:(zT x != 0);rotate_left
  ·have h1':zT x≠0:=by simpa using h1
   refine zm h1 ?_;refine zu hl ?_;have e:zyK x=zT x:=by rw[zyK,if_pos h1']
   rw[e]at bad;exact bad h1'
  refine zm h1 ?_;have h1':¬zT x≠0:=by simpa using h1
  have e:zyK x=zx x.key x.dig:=by rw[zyK,if_neg h1']
  refine zbM ?_;cases h2:(zx x.key x.dig != 0);rotate_left
  ·refine zm h2 ?_;refine zu hl ?_;rw[e]at bad;exact bad (by simpa using h2)
  refine zm (zd h2 (wk1 k (by omega))) ?_;exact zaK.next hlt ⟨rfl,⟨_,rfl⟩,zyJ hx he (by rw[e];simpa using h2)⟩
 ·have hn:k=b.length:=by omega
  subst hn;rw[List.take_length]at he;have hd:decide ((b.length:Int)<(b.length:Int))=false:=by simp
  refine zm hd ?_;refine zn b.length (fun k vs s=>vs=[.d (.int .i64 k)]/\(∃T,s=σ++T)/\(b.take k).Pairwise ndup) ⟨rfl,⟨T,rfl⟩,by simp⟩ ?_;rintro k vs s hk' ⟨rfl,⟨T,rfl⟩,hp⟩;by_cases hlt:k<b.length
  ·have hd:decide ((k:Int)<(b.length:Int))=true:=by simp;omega
   have hx:b[k]? = some b[k]:=by simp[hlt]
   have hgx:=zR (f:=zay) hx;obtain⟨x,hxe⟩:∃x,b[k]=x:=⟨_,rfl⟩;rw[hxe]at hx hgx;have htk:List.take k (List.map zay b)=List.map zay (b.take k):=by rw[List.map_take]
   have hlk:(b.take k).length=k:=by rw[List.length_take];omega
   refine zdB (zd hd (zd hgx (zd htk hlk))) ?_;refine⟨batch_nine b,?_⟩;refine zdB (zd hd (zd hgx (zd htk hlk))) ?_;refine zn k (fun j vs s=>vs=[.d (.int .i64 j)]/\(∃T',s=σ++(T++.box [.d (.int .i64 x.client),.d (.int .i64 x.time),.d (.int .i64 x.op.kind),.d (.str x.op.topic),.d (.str x.op.group),.d (.int .i64 x.op.offset),.d (.slice (zdU x.op.recs)),.d (.int .i64 x.key),.d (.int .i64 x.dig)]::T'))/\∀y∈b.take j,¬(x.client=y.client/\x.time=y.time)) ⟨rfl,⟨[],by simp⟩,by simp⟩ ?_;rintro j vs s hj ⟨rfl,⟨T',rfl⟩,hno⟩;by_cases hjk:j<k
   ·have hd:decide ((j:Int)<(k:Int))=true:=by simp;omega
    have hy:b[j]? = some (b[j]'(by omega)):=List.getElem?_eq_getElem _;have hy':(b.take k)[j]? = some (b[j]'(by omega)):=by rw[List.getElem?_take,if_pos hjk];exact hy
    have hgy:=zR (f:=zay) hy';obtain⟨y,hye⟩:∃y,b[j]'(by omega)=y:=⟨_,rfl⟩;rw[hye]at hy hgy hy';have hyt:b.take (j+1)=b.take j++[y]:=by rw[List.take_add_one,hy];rfl
    have next:¬(x.client=y.client/\x.time=y.time)->∀z∈b.take (j+1),¬(x.client=z.client/\x.time=z.time):=fun h z hz=>by
     rw[hyt]at hz;rcases List.mem_append.1 hz with hz|hz
     ·exact hno z hz
     ·simp at hz;subst hz;exact h
    cases h1:(x.client==y.client)
    ·refine zdB (zd hd (zd htk (zd hlk (zd hgy (zd h1 (wk1 j (by omega))))))) ?_;exact zaK.next hjk ⟨rfl,⟨_,rfl⟩,next (by simp at h1;exact fun h=>h1 h.1)⟩
    cases h2:(x.time==y.time)
    ·refine zdB (zd hd (zd htk (zd hlk (zd hgy (zd h1 (zd h2 (wk1 j (by omega)))))))) ?_;exact zaK.next hjk ⟨rfl,⟨_,rfl⟩,next (by simp at h2;exact fun h=>h2 h.2)⟩
    ·refine zdB (zd hd (zd htk (zd hlk (zd hgy (zd h1 h2))))) ?_;refine zu hl ?_;have hnp:=pairs_not hx hy hjk ⟨by simpa using h1,by simpa using h2⟩;exact fin _ (by rw[zD,if_neg h4',if_neg (by simpa using he),if_neg hnp])
   ·have hd:decide ((j:Int)<(k:Int))=false:=by simp;omega
    have hn:j=k:=by omega
    subst hn;refine zm (zd hd (zd htk (zd hlk (wk1 j (by omega))))) ?_;exact zaK.next hlt ⟨rfl,⟨_,rfl⟩,zyo hx hp hno⟩
  ·have hd:decide ((k:Int)<(b.length:Int))=false:=by simp;omega
   refine zm hd ?_;refine zu hl ?_;have hn:k=b.length:=by omega
   subst hn;rw[List.take_length]at hp;exact fin _ (by rw[zD,if_neg h4',if_neg (by simpa using he),if_pos hp])
theorem zhQ {b:List zr}(hb:okB b){K:KT}(hK:K (.d (.int .i64 (zD b))) σ):zP zdf [.d (.slice (zbz b))] σ K:=by
 refine zeA zuS fun hl=>?_;have fin:∀z,zD b=z->K (.d (.int .i64 z)) σ:=fun z h=>h▸hK;clear hK;obtain⟨hb1,hb2⟩:=hb;simp only[znO,iN,bT,bF,eN];cases h4:decide ((b.length:Int)>4);rotate_left
 ·refine zm h4 ?_;refine zu hl ?_;exact fin _ (by rw[zD,if_pos (by simp at h4;omega)])
 have h4':¬b.length>4:=by simp at h4;omega
 refine zm h4 ?_;refine zn b.length (fun k vs s=>vs=[.d (.int .i64 k)]/\s=σ/\znZ (b.take k)=0) ⟨rfl,rfl,rfl⟩ ?_;rintro k vs s hk ⟨rfl,rfl,he⟩;by_cases hlt:k<b.length
 ·have hd:decide ((k:Int)<(b.length:Int))=true:=by simp;omega
  have hx:b[k]? = some b[k]:=by simp[hlt]
  have hbx:=hb2 _ (List.getElem_mem hlt);have hgx:=zR (f:=zay) hx;obtain⟨x,hxe⟩:∃x,b[k]=x:=⟨_,rfl⟩;rw[hxe]at hx hgx hbx;have bad:zyK x≠0->K (.d (.int .i64 (zyK x))) s:=fun h=>fin _ (by rw[zD,if_neg h4',if_pos (by rw[zpJ hx he h];exact h)];exact zpJ hx he h);refine zdB (zd hd hgx) ?_;refine zyS (x:=x) hbx ?_;cases h1:(zT x != 0);rotate_left
  ·have h1':zT x≠0:=by simpa using h1
   refine zm h1 ?_;refine zu hl ?_;have e:zyK x=zT x:=by rw[zyK,if_pos h1']
   rw[e]at bad;exact bad h1'
  refine zdB (zd h1 hgx) ?_;have h1':¬zT x≠0:=by simpa using h1
  have e:zyK x=zx x.key x.dig:=by rw[zyK,if_neg h1']
  refine zbI ?_;cases h2:(zx x.key x.dig != 0);rotate_left
  ·refine zm h2 ?_;refine zu hl ?_;rw[e]at bad;exact bad (by simpa using h2)
  refine zm (zd h2 (wk1 k (by omega))) ?_;exact zaK.next hlt ⟨rfl,rfl,zyJ hx he (by rw[e];simpa using h2)⟩
 ·have hn:k=b.length:=by omega
  subst hn;rw[List.take_length]at he;have hd:decide ((b.length:Int)<(b.length:Int))=false:=by simp
  refine zm hd ?_;refine zn b.length (fun k vs q=>vs=[.d (.int .i64 k)]/\q=s/\(b.take k).Pairwise ndup) ⟨rfl,rfl,by simp⟩ ?_;rintro k vs s hk' ⟨rfl,rfl,hp⟩;by_cases hlt:k<b.length
  ·have hd:decide ((k:Int)<(b.length:Int))=true:=by simp;omega
   have hx:b[k]? = some b[k]:=by simp[hlt]
   have hgx:=zR (f:=zay) hx;obtain⟨x,hxe⟩:∃x,b[k]=x:=⟨_,rfl⟩;rw[hxe]at hx hgx;refine zm hd ?_;refine zn k (fun j vs q=>vs=[.d (.int .i64 j)]/\q=s/\∀y∈b.take j,¬(x.client=y.client/\x.time=y.time)) ⟨rfl,rfl,by simp⟩ ?_;rintro j vs s hj ⟨rfl,rfl,hno⟩;by_cases hjk:j<k
   ·have hd:decide ((j:Int)<(k:Int))=true:=by simp;omega
    have hy:b[j]? = some (b[j]'(by omega)):=List.getElem?_eq_getElem _;have hgy:=zR (f:=zay) hy;obtain⟨y,hye⟩:∃y,b[j]'(by omega)=y:=⟨_,rfl⟩;rw[hye]at hy hgy;have hyt:b.take (j+1)=b.take j++[y]:=by rw[List.take_add_one,hy];rfl
    have next:¬(x.client=y.client/\x.time=y.time)->∀z∈b.take (j+1),¬(x.client=z.client/\x.time=z.time):=fun h z hz=>by
     rw[hyt]at hz;rcases List.mem_append.1 hz with hz|hz
     ·exact hno z hz
     ·simp at hz;subst hz;exact h
    cases h1:(x.client==y.client)
    ·refine zdB (zd hd (zd hgx (zd hgy (zd h1 (wk1 j (by omega)))))) ?_;exact zaK.next hjk ⟨rfl,rfl,next (by simp at h1;exact fun h=>h1 h.1)⟩
    cases h2:(x.time==y.time)
    ·refine zdB (zd hd (zd hgx (zd hgy (zd h1 (zd h2 (wk1 j (by omega))))))) ?_;exact zaK.next hjk ⟨rfl,rfl,next (by simp at h2;exact fun h=>h2 h.2)⟩
    ·refine zdB (zd hd (zd hgx (zd hgy (zd h1 h2)))) ?_;refine zu hl ?_;have hnp:=pairs_not hx hy hjk ⟨by simpa using h1,by simpa using h2⟩;exact fin _ (by rw[zD,if_neg h4',if_neg (by simpa using he),if_neg hnp])
   ·have hd:decide ((j:Int)<(k:Int))=false:=by simp;omega
    have hn:j=k:=by omega
    subst hn;refine zm (zd hd (wk1 j (by omega))) ?_;exact zaK.next hlt ⟨rfl,rfl,zyo hx hp hno⟩
  ·have hd:decide ((k:Int)<(b.length:Int))=false:=by simp;omega
   refine zm hd ?_;refine zu hl ?_;have hn:k=b.length:=by omega
   subst hn;rw[List.take_length]at hp;exact fin _ (by rw[zD,if_neg h4',if_neg (by simpa using he),if_pos hp])
variable {σ:List AObj}
theorem c_Same1 {a b:zr}(ha:a.op.recs.length<=1073741824)(hb:b.op.recs.length<=1073741824){K:KT}(hK:K (.d (.bool (decide (a=b)))) σ):zP zgS [zis a,zis b] σ K:=by
 refine zeq zuO fun hl=>?_;have e:a=b↔a.key=b.key/\a.dig=b.dig/\a.client=b.client/\a.time=b.time/\a.op=b.op:=by cases a;cases b;simp;constructor<;>(intro h;simp_all)
 have fin:∀z,decide (a=b)=z->K (.d (.bool z)) σ:=fun z h=>h▸hK;clear hK;simp only[znK,iN,bT,bF,eN,zis];cases h1:(a.key==b.key)
 ·refine zdB h1 ?_;refine zu hl ?_;refine fin _ (decide_eq_false fun h=>?_);have:=(e.1 h).1;simp[this]at h1
 cases h2:(a.dig==b.dig)
 ·refine zdB (zd h1 h2) ?_;refine zu hl ?_;refine fin _ (decide_eq_false fun h=>?_);have:=(e.1 h).2.1;simp[this]at h2
 cases h3:(a.client==b.client)
 ·refine zdB (zd h1 (zd h2 h3)) ?_;refine zu hl ?_;refine fin _ (decide_eq_false fun h=>?_);have:=(e.1 h).2.2.1;simp[this]at h3
 cases h4:(a.time==b.time)
 ·refine zdB (zd h1 (zd h2 (zd h3 h4))) ?_;refine zu hl ?_;refine fin _ (decide_eq_false fun h=>?_);have:=(e.1 h).2.2.2.1;simp[this]at h4
 refine zdB (zd h1 (zd h2 (zd h3 h4))) ?_;refine c_Same (a:=a.op) (b:=b.op) ha hb ?_;refine zG ?_;refine zu hl ?_;refine fin _ ?_;rw[Bool.eq_iff_iff,decide_eq_true_eq,decide_eq_true_eq,e];simp only[beq_iff_eq]at h1 h2 h3 h4;simp[h1,h2,h3,h4]
theorem zsv {a b:List zr}(ha:zgl a)(hb:zgl b){K:KT}(hK:K (.d (.bool (decide (a=b)))) σ) :
  zP zar [.d (.slice (zbz a)),.d (.slice (zbz b)),.fn (.func zgS) [] []] σ K:=by
 refine acE3 zcO fun hl=>?_;have fin:∀z,decide (a=b)=z->K (.d (.bool z)) σ:=fun z h=>h▸hK;clear hK;obtain⟨ha1,ha2⟩:=ha;obtain⟨hb1,hb2⟩:=hb;simp only[zbh,iN,bT,bF,eN,zl1];cases hl0:((a.length:Int) != (b.length:Int));rotate_left
 ·refine zm hl0 ?_;refine zu hl ?_;refine fin _ (decide_eq_false fun h=>?_);rw[h]at hl0;simp at hl0
 have hl2:a.length=b.length:=by simp at hl0;omega
 refine zm hl0 ?_;refine zn a.length (fun k vs s=>vs=[.d (.int .i64 k)]/\(∃T,s=σ++T)/\a.take k=b.take k) ⟨rfl,⟨[],by simp⟩,by simp⟩ ?_;rintro k vs s hk ⟨rfl,⟨T,rfl⟩,htk⟩;by_cases hlt:k<a.length
 ·have hd:decide ((k:Int)<(a.length:Int))=true:=by simp;omega
  have hx:a[k]? = some a[k]:=by simp[hlt]
  have hy:b[k]? = some (b[k]'(by omega)):=List.getElem?_eq_getElem _;have hgx:=zR (f:=zay) hx;have hgy:=zR (f:=zay) hy;have hxs:=(ha2 _ (List.getElem_mem hlt)).1;have hys:=(hb2 _ (List.getElem_mem (show k<b.length by omega))).1;obtain⟨x,hxe⟩:∃x,a[k]=x:=⟨_,rfl⟩;obtain⟨y,hye⟩:∃y,(b[k]'(by omega))=y:=⟨_,rfl⟩;rw[hxe]at hx hgx hxs;rw[hye]at hy hgy hys;obtain⟨S,hS⟩:∃S,σ++T=S:=⟨_,rfl⟩;rw[hS];refine zdB (zd hd (zd hgx hgy)) ?_;refine c_Same1 (a:=x) (b:=y) hxs hys ?_;cases he:decide (x=y)
  ·refine zm hd ?_;rw[← hS,List.append_assoc];refine zu hl ?_;refine fin _ (decide_eq_false fun h=>?_);subst h;rw[hx]at hy;have:=Option.some.inj hy;simp[this]at he
  ·refine zm (wk1 k (by omega)) ?_;exact zaK.next hlt ⟨rfl,⟨_,by rw[← hS,List.append_assoc]⟩,zbq hx hy htk (by simpa using he)⟩
 ·have hd:decide ((k:Int)<(a.length:Int))=false:=by simp;omega
  refine zm hd ?_;refine zu hl ?_;exact fin _ (decide_eq_true (zcu hl2 (k:=k) (by omega) htk))
theorem zwS {a b:List zr}(ha:zgl a)(hb:zgl b){K:KT}(hK:K (.d (.bool (decide (a=b)))) σ):zP zgG [.d (.slice (zbz a)),.d (.slice (zbz b))] σ K:=by
 refine zeq zxO fun hl=>?_;simp only[zqz,iN,bT,bF,eN];refine zG ?_;refine zsv ha hb ?_;refine zG ?_;refine zu hl ?_;exact hK
variable {σ:List AObj}
abbrev zfu (e:Int):AObj:=.box [.d (.int .i64 e)]
theorem ziP (n:Nat)(e:Int):ztO n (zfu e):=by
 intro c hc;simp only[List.mem_cons,List.not_mem_nil,or_false]at hc;subst hc;exact .d _
theorem c_says {id:Nat}{e x:Int}(hσ:σ[id]? = some (zfu e)){K:KT}(hK:K (.tup []) (σ.set id (zfu (znX e x)))):zP zE [.box id 0,.d (.int .i64 x)] σ K:=by
 refine zeq zqa fun hl=>?_;simp only[zjM,iN,bT,bF,eN];cases h:(e==0)
 ·rw[znX,if_pos (by simpa using h),zbR hσ]at hK;refine zm (zd hσ h) ?_;refine zu hl ?_;exact hK
 ·rw[znX,if_neg (by simpa using h)]at hK;refine zm (zd hσ h) ?_;exact zfb (by simp[zcm,dmT,zbu]) hl (ziP _ _) hK
theorem thn_0 (e:Int):znX e 0=e:=by
 unfold znX;split
 ·rfl
 ·rename_i h;simp at h;exact h.symm
theorem zAF {id:Nat}{e n lo hi:Int}(hσ:σ[id]? = some (zfu e)){K:KT}(hK:K (.tup []) (σ.set id (zfu (znX e (inE n lo hi))))) :
  zP zau [.box id 0,.d (.int .i64 n),.d (.int .i64 lo),.d (.int .i64 hi)] σ K:=by
 refine acE4 zsl fun hl=>?_;simp only[zlR,iN,bT,bF,eN];have bad:(n<lo∨n>hi)->zP zE [.box id 0,.d (.int .i64 100)] σ fun _ s=>AW.Ends σ.length K (some []) s:=fun h=>by
  rw[inE,if_pos h]at hK;refine c_says hσ ?_;exact zfb (by simp[zcm,dmT,zbu]) hl (ziP _ _) hK
 cases h1:decide (n<lo)
 ·cases h2:decide (n>hi)
  ·rw[inE,if_neg (by simp at h1 h2;omega),thn_0,zbR hσ]at hK;refine zm (zd h1 h2) ?_;refine zu hl ?_;exact hK
  ·refine zm (zd h1 h2) ?_;exact bad (.inr (by simpa using h2))
 ·refine zm h1 ?_;exact bad (.inl (by simpa using h1))
theorem zAE {id:Nat}{e n:Int}(hσ:σ[id]? = some (zfu e)){K:KT}(hK:K (.tup []) (σ.set id (zfu (znX e (zeU n))))) :
  zP zQ [.box id 0,.d (.int .i64 n)] σ K:=by
 refine zeq zrp fun hl=>?_;simp only[zla,iN,bT,bF,eN];refine zG ?_;refine zAF hσ ?_;exact zfb (by simp[zcm,dmT,zbu]) hl (ziP _ _) hK
theorem c_askPos {id:Nat}{e n:Int}(hσ:σ[id]? = some (zfu e)){K:KT}(hK:K (.tup []) (σ.set id (zfu (znX e (zks n))))) :
  zP zaf [.box id 0,.d (.int .i64 n)] σ K:=by
 refine zeq zro fun hl=>?_;simp only[zkZ,iN,bT,bF,eN];refine zG ?_;refine zAF hσ ?_;exact zfb (by simp[zcm,dmT,zbu]) hl (ziP _ _) hK
theorem c_askMany {id:Nat}{e n hi:Int}(hσ:σ[id]? = some (zfu e)){K:KT}(hK:K (.tup []) (σ.set id (zfu (znX e (inE n 0 hi))))) :
  zP zal [.box id 0,.d (.int .i64 n),.d (.int .i64 hi)] σ K:=by
 refine acE3 zqc fun hl=>?_;simp only[zjO,iN,bT,bF,eN];refine zG ?_;refine zAF hσ ?_;exact zfb (by simp[zcm,dmT,zbu]) hl (ziP _ _) hK
theorem c_askName {id:Nat}{e:Int}{x:List UInt8}(hσ:σ[id]? = some (zfu e))(hx:x.length<=1073741824){K:KT}(hK:K (.tup []) (σ.set id (zfu (znX e (zlg x))))) :
  zP zcw [.box id 0,.d (.str x)] σ K:=by
 refine zeq zqb fun hl=>?_;simp only[zjN,iN,bT,bF,eN];refine zG ?_;refine c_Name hx ?_;cases h:zev x
 ·rw[zlg,if_neg (by simp[h])]at hK;refine zG ?_;refine c_says hσ ?_;exact zfb (by simp[zcm,dmT,zbu]) hl (ziP _ _) hK
 ·rw[zlg,if_pos h,thn_0,zbR hσ]at hK;refine zG ?_;refine zu hl ?_;exact hK
theorem fst_snoc (e:Int)(l:List Int)(x:Int):znX (zax (e::l)) x=zax (e::(l++[x])):=by
 rw[show e::(l++[x])=(e::l)++[x]from rfl,zeH];unfold znX;split
 ·rfl
 ·simp[zax]
theorem zjY {α β:Type}{f:α→β}{l:List α}{k:Nat}{x:α}(h:l[k]? = some x):(l.take (k+1)).map f=(l.take k).map f++[f x]:=by
 rw[List.take_add_one,h];simp
theorem wkc (k:Nat)(h:k<=1073741824):IntKind.i64.wrap ((k:Int)+1)=((k+1:Nat):Int):=by rw[zaW (by omega) (by omega)];rfl
theorem fst1 (e x:Int):zax [e,x]=znX e x:=by
 unfold znX;simp only[zax];split
 ·rfl
 ·split
  ·rfl
  ·rename_i h;simp at h;exact h.symm
theorem bft:((false:Bool)==true)=false:=rfl
theorem btf:((true:Bool)==false)=false:=rfl
theorem gq19 {A P Q:Prop}(a:A)(h:Q)(e:A->Hd Q->P:=by intro a h;(repeat' first|simp -dsimp only[↓zlH,↓zbS,↓zee,↓zlI,↓zlz,↓zlx,↓zlA,↓zly,↓zej,↓zef,↓zek,↓zeg,↓zlB,↓zeb,↓zel,↓zeh,↓zem,↓zei,↓zlw,↓zlF,↓zea,↓zep,↓zlo,↓zln,↓zlu,iN,bT,bF,eN,↓zes,↓unC,↓zaC,↓zai,↓zaj,↓zav,↓zaX,↓zah,↓zgB,↓zaw,↓zbf,↓zad,↓ze,↓zj,↓zaR,↓zc,↓zaV,↓zN,↓zbT,↓zcl,↓zf,↓zF,↓zp,↓zM,↓zaB,↓zgI,↓zhI,↓zbc,↓zby,↓zcf,↓zcA,↓zdp,↓zJ,↓zbb,↓zak,↓zO,↓zaU,zhr,zdV,zdD,unA,zgy,bnd,ziT,zaO,zL,zid,dm,dm1,zH,zaF,zjX,zjW,keepO,Q0,Q1,Q2,Q3,Q4,Q5,zba,zA,zB,zY,zab,Q6,Q7,Q8,Q9,Q10,Q11,Q12,Q13,Q14,Nat.reduceAdd,Q15,Int.reduceToNat,Q16,Q17,Q18,Q19,Q20,reduceIte,Q21,Q22,zy,rep,zaq,zhX,toD,zaD,Q23,Q24,Q25,Q26,Q27,Q28,Nat.reduceLeDiff,Q29,Nat.reduceSub,Q30,Q31,Q32,sc,Q33,Q34,Q35,Q36,Q37,Q26,Q38,Q39,zuH,zuE,zuB,zuI,zjw,zuF,zuC,zuG,zuD,zjv,zjx,zuK,zuL,Bool.not_true,Bool.not_false,List.length_map,Bool.and_false,Bool.and_self,Bool.false_and,Bool.not_false,Bool.not_true,Bool.true_and,Int.toNat_natCast,Int.toNat_zero,List.drop_zero,List.length_map,List.length_nil,List.nil_append,List.take_length,Nat.sub_zero,Nat.zero_add,Option.isSome_none,Option.isSome_some,Option.map_none,Option.map_some,zam,beq_self_eq_true,bft,bne_self_eq_false,btf,zck,zhO,zag,zdh,zsb,zch,zou,opA,opD,zfC,zgt,zis,zay,a]|with_reducible refine zuZ ?_|fail);exact h.go):P:=e a ⟨h⟩
theorem zyX {id:Nat}{e:Int}{l:List zI}(hσ:σ[id]? = some (zfu e))(hl0:l.length<=1073741824){K:KT}(hK:K (.tup []) (σ.set id (zfu (znX e (zax (zco l)))))) :
  zP zaZ [.box id 0,.d (.slice (zat l))] σ K:=by
 refine zeq zoN fun hl=>?_;have hlen:(zat l).length=l.length:=List.length_map ..;have hid:=zaa hσ;rw[thn_fst,zco]at hK;simp only[zjk,iN,bT,bF,eN];refine zm hlen ?_;refine c_askMany hσ ?_;refine zm hlen ?_;refine zn l.length (fun k vs s=>vs=[.d (.int .i64 k)]/\∃T,s=σ.set id (zfu (zax (e::(inE l.length 0 13::(l.take k).map fun s=>zx s.key s.dig))))++T) ⟨rfl,[],by rw[List.take_zero,List.map_nil,fst1,List.append_nil]⟩ ?_;rintro k vs s hk ⟨rfl,T,rfl⟩;by_cases hlt:k<l.length
 ·have hd:decide ((k:Int)<(l.length:Int))=true:=by simp;omega
  have hx:l[k]? = some l[k]:=by simp[hlt]
  have hgx:=zR (f:=zgt) hx;obtain⟨x,hxe⟩:∃x,l[k]=x:=⟨_,rfl⟩;rw[hxe]at hx hgx;have hmn:=zjY (f:=fun s:zI=>zx s.key s.dig) hx;have fs:=fst_snoc e (inE l.length 0 13::(l.take k).map fun s=>zx s.key s.dig) (zx x.key x.dig);simp only[List.cons_append]at fs;rw[← hmn]at fs;obtain⟨E,hE⟩:∃E,zax (e::(inE l.length 0 13::(l.take k).map fun s=>zx s.key s.dig))=E:=⟨_,rfl⟩;rw[hE]at fs ⊢;have hS:∀τ,(σ.set id (zfu E)++τ)[id]? = some (zfu E):=fun τ=>zi (zdu hσ);refine gq19 (zd hd (zd hgx hlen)) ?_;refine zbM ?_;refine zG ?_;refine c_says (e:=E) (hS _) ?_;rw[zdl (zdu hσ),List.set_set];refine zm (wkc k (by omega)) ?_;exact zaK.next hlt ⟨rfl,_,by rw[fs]⟩
 ·have hd:decide ((k:Int)<(l.length:Int))=false:=by simp;omega
  rw[List.take_of_length_le (by omega)];refine zm hd ?_;exact zeP (by simp[zcm,dmT,zbu]) hl (ziP _ _) hK
theorem zjC {A P Q:Prop}(a:A)(h:Q)(e:A->Hd Q->P:=by intro a h;(repeat' first|simp -dsimp only[↓zlH,↓zbS,↓zee,↓zlI,↓zlz,↓zlx,↓zlA,↓zly,↓zej,↓zef,↓zek,↓zeg,↓zlB,↓zeb,↓zel,↓zeh,↓zem,↓zei,↓zlw,↓zlF,↓zea,↓zep,↓zlo,↓zln,↓zlu,iN,bT,bF,eN,↓zes,↓unC,↓zaC,↓zai,↓zaj,↓zav,↓zaX,↓zah,↓zgB,↓zaw,↓zbf,↓zad,↓ze,↓zj,↓zaR,↓zc,↓zaV,↓zN,↓zbT,↓zcl,↓zf,↓zF,↓zp,↓zM,↓zaB,↓zgI,↓zhI,↓zbc,↓zby,↓zcf,↓zcA,↓zdp,↓zJ,↓zbb,↓zak,↓zO,↓zaU,zhr,zdV,zdD,unA,zgy,bnd,ziT,zaO,zL,zid,dm,dm1,zH,zaF,zjX,zjW,keepO,Q0,Q1,Q2,Q3,Q4,Q5,zba,zA,zB,zY,zab,Q6,Q7,Q8,Q9,Q10,Q11,Q12,Q13,Q14,Nat.reduceAdd,Q15,Int.reduceToNat,Q16,Q17,Q18,Q19,Q20,reduceIte,Q21,Q22,zy,rep,zaq,zhX,toD,zaD,Q23,Q24,Q25,Q26,Q27,Q28,Nat.reduceLeDiff,Q29,Nat.reduceSub,Q30,Q31,Q32,sc,Q33,Q34,Q35,Q36,Q37,Q26,Q38,Q39,zuH,zuE,zuB,zuI,zjw,zuF,zuC,zuG,zuD,zjv,zjx,zuK,zuL,Bool.not_true,Bool.not_false,List.length_map,Bool.and_false,Bool.and_self,Bool.false_and,Bool.not_false,Bool.not_true,Bool.true_and,Int.toNat_natCast,Int.toNat_zero,List.drop_zero,List.length_map,List.length_nil,List.nil_append,List.take_length,Nat.sub_zero,Nat.zero_add,Option.isSome_none,Option.isSome_some,Option.map_none,Option.map_some,zam,beq_self_eq_true,bft,bne_self_eq_false,btf,a]|with_reducible refine zuZ ?_|fail);exact h.go):P:=e a ⟨h⟩
theorem c_askCert {id:Nat}{e:Int}{c:zjy}(hσ:σ[id]? = some (zfu e))(hl0:c.signs.length<=1073741824){K:KT}(hK:K (.tup []) (σ.set id (zfu (znX e (zax (zbx c)))))) :
  zP zbQ [.box id 0,zhO c] σ K:=by
 refine zeq zqd fun hl=>?_;have hlen:(zat c.signs).length=c.signs.length:=List.length_map ..;simp only[zjP,iN,bT,bF,eN,zhO];have hB:∀X,(σ.set id X++[AObj.box [AV.d (D.int .i64 c.seq),AV.d (D.int .i64 c.dig),AV.d (D.slice (zat c.signs))]])[σ.length]? = some (AObj.box [AV.d (D.int .i64 c.seq),AV.d (D.int .i64 c.dig),AV.d (D.slice (zat c.signs))]):=fun X=>by
  rw[List.getElem?_append_right (by simp)];simp
 have hS:∀E τ,(σ.set id (zfu E)++τ)[id]? = some (zfu E):=fun E τ=>zi (zdu hσ);have hP:∀E Y τ,(σ.set id (zfu E)++τ).set id Y=σ.set id Y++τ:=fun E Y τ=>by rw[zdl (zdu hσ),List.set_set]
 have e4:znX e (zax (zbx c))=znX (znX (znX (znX e (zeU c.seq)) (zeU c.dig)) (zfe c)) (zax (zco c.signs)):=by
  simp only[zbx,zax,znX];by_cases h0:e=0
  ·by_cases h1:zeU c.seq=0
   ·by_cases h2:zeU c.dig=0
    ·by_cases h3:zfe c=0
     ·simp[h0,h1,h2,h3]
     ·simp[h0,h1,h2,h3]
    ·simp[h0,h1,h2]
   ·simp[h0,h1]
  ·simp[h0]
 rw[e4]at hK;refine zG ?_;refine zAE (zi hσ) ?_;rw[zdl hσ];refine zm hB ?_;refine zAE (hS _ _) ?_;rw[hP];obtain⟨E,hE⟩:∃E,znX (znX e (zeU c.seq)) (zeU c.dig)=E:=⟨_,rfl⟩;rw[hE]at hK ⊢;have tail:∀M,M=zfe c->zP zaZ [.box id 0,.d (.slice (zat c.signs))] (σ.set id (zfu (znX E M))++[AObj.box [AV.d (D.int .i64 c.seq),AV.d (D.int .i64 c.dig),AV.d (D.slice (zat c.signs))]]) fun _ s=>AW.Ends σ.length K (some []) s:=fun M hM=>by
  subst hM;refine zyX (hS _ _) hl0 ?_;rw[hP];exact zeP (by simp[zcm,dmT,zbu]) hl (ziP _ _) hK
 have no:zfe c=100->zP zE [.box id 0,.d (.int .i64 100)] (σ.set id (zfu E)++[AObj.box [AV.d (D.int .i64 c.seq),AV.d (D.int .i64 c.dig),AV.d (D.slice (zat c.signs))]]) fun _ s=>fl 2 (.box σ.length 0) s fun g s=>cA Tryz.prog zaZ [.box id 0,g] s fun _ s=>AW.Ends σ.length K (some []) s:=fun h=>by
  refine c_says (hS _ _) ?_;rw[hP];refine zm hB ?_;exact tail 100 h.symm
 have yes:zfe c=0->zP zaZ [.box id 0,.d (.slice (zat c.signs))] (σ.set id (zfu E)++[AObj.box [AV.d (D.int .i64 c.seq),AV.d (D.int .i64 c.dig),AV.d (D.slice (zat c.signs))]]) fun _ s=>AW.Ends σ.length K (some []) s:=fun h=>by
  have:=tail 0 h.symm;rw[thn_0]at this;exact this
 cases h1:(c.seq==0)
 ·cases h2:(c.dig==0)
  ·refine zjC (zd hB (zd h1 h2)) ?_;exact yes (by simp at h1 h2;simp[zfe,h1,h2])
  ·refine zjC (zd hB (zd h1 h2)) ?_;exact no (by simp at h1 h2;simp[zfe,h1,h2])
 ·cases h2:(c.dig==0)
  ·refine zjC (zd hB (zd h1 h2)) ?_;exact no (by simp at h1 h2;simp[zfe,h1,h2])
  ·cases h3:decide ((c.signs.length:Int)>0)
   ·refine zjC (zd hB (zd h1 (zd h2 (zd hlen h3)))) ?_;exact yes (by simp at h1 h2 h3;simp[zfe,h1,h2,h3])
   ·refine zjC (zd hB (zd h1 (zd h2 (zd hlen h3)))) ?_;exact no (by simp only[beq_iff_eq,decide_eq_true_eq]at h1 h2 h3;rw[zfe,if_pos (.inr ⟨h1,by omega⟩)])
structure zqP (p:zfl):Prop where
 topic:p.topic.length<=16777216
 rec_:p.rec_.length<=16777216
 headers:p.headers.length<=1073741824
 path:p.path.length<=1073741824
 signs:p.cert.signs.length<=1073741824
 off:zqp p.offset
 index:zqp p.index
 count:zqp p.count
 paths:∀x∈p.path,zqp x
abbrev zop (p:zfl):AObj:=.box [.d (.str p.topic),.d (.int .i64 p.offset),.d (.slice (bcs p.rec_)),.d (.slice (zmw p.headers)),.d (.int .i64 p.index),.d (.int .i64 p.count),.d (.slice (zhZ p.path)),.d (.int .i64 p.cert.seq),.d (.int .i64 p.cert.dig),.d (.slice (zat p.cert.signs))]
theorem thnE_app (e:Int)(a b:List Int):znX (znX e (zax a)) (zax b)=znX e (zax (a++b)):=by
 rw[zeH];unfold znX;by_cases h:e=0
 ·by_cases h2:zax a=0
  ·simp[h,h2]
  ·simp[h,h2]
 ·simp[h]
theorem thnE_app1 (e:Int)(a:List Int)(x:Int):znX (znX e (zax a)) x=znX e (zax (a++[x])):=by
 have:x=zax [x]:=by simp only[zax];split<;>simp_all
 conv=>lhs;rw[this]
 exact thnE_app e a [x]
theorem thnE_z (x:Int):znX 0 x=x:=by simp[znX]
theorem zpq (l:List Int)(x:Int):znX (zax l) x=zax (l++[x]):=by rw[← thnE_z (zax l),thnE_app1,thnE_z]
variable {σ:List AObj}
theorem gq21 {A P Q:Prop}(a:A)(h:Q)(e:A->Hd Q->P:=by intro a h;(repeat' first|simp -dsimp only[↓zlH,↓zbS,↓zee,↓zlI,↓zlz,↓zlx,↓zlA,↓zly,↓zej,↓zef,↓zek,↓zeg,↓zlB,↓zeb,↓zel,↓zeh,↓zem,↓zei,↓zlw,↓zlF,↓zea,↓zep,↓zlo,↓zln,↓zlu,iN,bT,bF,eN,↓zes,↓unC,↓zaC,↓zai,↓zaj,↓zav,↓zaX,↓zah,↓zgB,↓zaw,↓zbf,↓zad,↓ze,↓zj,↓zaR,↓zc,↓zaV,↓zN,↓zbT,↓zcl,↓zf,↓zF,↓zp,↓zM,↓zaB,↓zgI,↓zhI,↓zbc,↓zby,↓zcf,↓zcA,↓zdp,↓zJ,↓zbb,↓zak,↓zO,↓zaU,zhr,zdV,zdD,unA,zgy,bnd,ziT,zaO,zL,zid,dm,dm1,zH,zaF,zjX,zjW,keepO,Q0,Q1,Q2,Q3,Q4,Q5,zba,zA,zB,zY,zab,Q6,Q7,Q8,Q9,Q10,Q11,Q12,Q13,Q14,Nat.reduceAdd,Q15,Int.reduceToNat,Q16,Q17,Q18,Q19,Q20,reduceIte,Q21,Q22,zy,rep,zaq,zhX,toD,zaD,Q23,Q24,Q25,Q26,Q27,Q28,Nat.reduceLeDiff,Q29,Nat.reduceSub,Q30,Q31,Q32,sc,Q33,Q34,Q35,Q36,Q37,Q26,Q38,Q39,zuH,zuE,zuB,zuI,zjw,zuF,zuC,zuG,zuD,zjv,zjx,zuK,zuL,Bool.not_true,Bool.not_false,List.length_map,Bool.and_false,Bool.and_self,Bool.false_and,Bool.not_false,Bool.not_true,Bool.true_and,Int.toNat_natCast,Int.toNat_zero,List.drop_zero,List.length_map,List.length_nil,List.nil_append,List.take_length,Nat.sub_zero,Nat.zero_add,Option.isSome_none,Option.isSome_some,Option.map_none,Option.map_some,zam,beq_self_eq_true,bft,bne,bne_self_eq_false,btf,zck,zhO,zag,zdh,zsb,zch,zou,opA,opD,zfC,zgt,zis,zay,a]|with_reducible refine zuZ ?_|fail);exact h.go):P:=e a ⟨h⟩
theorem c_eqSign {a b:List zI}(ha1:a.length<=1073741824){K:KT}(hK:K (.d (.bool (decide (a=b)))) σ) :
  zP zbA [.d (.slice (zat a)),.d (.slice (zat b))] σ K:=by
 refine zeq zia fun hl=>?_;have fin:∀z,decide (a=b)=z->K (.d (.bool z)) σ:=fun z h=>h▸hK;clear hK;simp only[zeB,iN,bT,bF,eN];cases hl0:((a.length:Int) != (b.length:Int));rotate_left
 ·refine zm hl0 ?_;refine zu hl ?_;refine fin _ (decide_eq_false fun h=>?_);rw[h]at hl0;simp at hl0
 have hl2:a.length=b.length:=by simp at hl0;omega
 refine zm hl0 ?_;refine zn a.length (fun k vs s=>vs=[.d (.int .i64 k)]/\(∃T,s=σ++T)/\a.take k=b.take k) ⟨rfl,⟨[],by simp⟩,by simp⟩ ?_;rintro k vs s hk ⟨rfl,⟨T,rfl⟩,htk⟩;by_cases hlt:k<a.length
 ·have hd:decide ((k:Int)<(a.length:Int))=true:=by simp;omega
  have hx:a[k]? = some a[k]:=by simp[hlt]
  have hy:b[k]? = some (b[k]'(by omega)):=List.getElem?_eq_getElem _;have hgx:=zR (f:=zgt) hx;have hgy:=zR (f:=zgt) hy;obtain⟨x,hxe⟩:∃x,a[k]=x:=⟨_,rfl⟩;obtain⟨y,hye⟩:∃y,(b[k]'(by omega))=y:=⟨_,rfl⟩;rw[hxe]at hx hgx;rw[hye]at hy hgy;obtain⟨S,hS⟩:∃S,σ++T=S:=⟨_,rfl⟩;rw[hS];have hxy:x=y↔((x.key==y.key&&x.dig==y.dig))=true:=by cases x;cases y;simp
  cases h2:((x.key==y.key&&x.dig==y.dig))
  ·refine gq21 (zd hd (zd hgx (zd hgy h2))) ?_;rw[← hS];refine zu hl ?_;refine fin _ (decide_eq_false fun h=>?_);subst h;rw[hx]at hy;rw[hxy.1 (Option.some.inj hy)]at h2;cases h2
  ·refine gq21 (zd hd (zd hgx (zd hgy (zd h2 (wk1 k (by omega)))))) ?_;exact zaK.next hlt ⟨rfl,⟨_,hS.symm⟩,zbq hx hy htk (hxy.2 h2)⟩
 ·have hd:decide ((k:Int)<(a.length:Int))=false:=by simp;omega
  refine zm hd ?_;refine zu hl ?_;exact fin _ (decide_eq_true (zcu hl2 (k:=k) (by omega) htk))
theorem c_eqHdr {a b:List zsN}(ha1:a.length<=1073741824){K:KT}(hK:K (.d (.bool (decide (a=b)))) σ) :
  zP zbW [.d (.slice (zmw a)),.d (.slice (zmw b))] σ K:=by
 refine zeq zgL fun hl=>?_;have fin:∀z,decide (a=b)=z->K (.d (.bool z)) σ:=fun z h=>h▸hK;clear hK;simp only[zdw,iN,bT,bF,eN];cases hl0:((a.length:Int) != (b.length:Int));rotate_left
 ·refine zm hl0 ?_;refine zu hl ?_;refine fin _ (decide_eq_false fun h=>?_);rw[h]at hl0;simp at hl0
 have hl2:a.length=b.length:=by simp at hl0;omega
 refine zm hl0 ?_;refine zn a.length (fun k vs s=>vs=[.d (.int .i64 k)]/\(∃T,s=σ++T)/\a.take k=b.take k) ⟨rfl,⟨[],by simp⟩,by simp⟩ ?_;rintro k vs s hk ⟨rfl,⟨T,rfl⟩,htk⟩;by_cases hlt:k<a.length
 ·have hd:decide ((k:Int)<(a.length:Int))=true:=by simp;omega
  have hx:a[k]? = some a[k]:=by simp[hlt]
  have hy:b[k]? = some (b[k]'(by omega)):=List.getElem?_eq_getElem _;have hgx:=zR (f:=zsb) hx;have hgy:=zR (f:=zsb) hy;obtain⟨x,hxe⟩:∃x,a[k]=x:=⟨_,rfl⟩;obtain⟨y,hye⟩:∃y,(b[k]'(by omega))=y:=⟨_,rfl⟩;rw[hxe]at hx hgx;rw[hye]at hy hgy;obtain⟨S,hS⟩:∃S,σ++T=S:=⟨_,rfl⟩;rw[hS];have hxy:x=y↔((x.seq==y.seq&&(x.prev==y.prev&&(x.batch==y.batch&&(x.root==y.root&&x.state==y.state)))))=true:=by cases x;cases y;simp
  cases h2:((x.seq==y.seq&&(x.prev==y.prev&&(x.batch==y.batch&&(x.root==y.root&&x.state==y.state)))))
  ·refine gq21 (zd hd (zd hgx (zd hgy h2))) ?_;rw[← hS];refine zu hl ?_;refine fin _ (decide_eq_false fun h=>?_);subst h;rw[hx]at hy;rw[hxy.1 (Option.some.inj hy)]at h2;cases h2
  ·refine gq21 (zd hd (zd hgx (zd hgy (zd h2 (wk1 k (by omega)))))) ?_;exact zaK.next hlt ⟨rfl,⟨_,hS.symm⟩,zbq hx hy htk (hxy.2 h2)⟩
 ·have hd:decide ((k:Int)<(a.length:Int))=false:=by simp;omega
  refine zm hd ?_;refine zu hl ?_;exact fin _ (decide_eq_true (zcu hl2 (k:=k) (by omega) htk))
theorem c_eqDig {a b:List Int}(ha1:a.length<=1073741824){K:KT}(hK:K (.d (.bool (decide (a=b)))) σ) :
  zP zbX [.d (.slice (zhZ a)),.d (.slice (zhZ b))] σ K:=by
 refine zeq zgM fun hl=>?_;have fin:∀z,decide (a=b)=z->K (.d (.bool z)) σ:=fun z h=>h▸hK;clear hK;simp only[zdx,iN,bT,bF,eN];cases hl0:((a.length:Int) != (b.length:Int));rotate_left
 ·refine zm hl0 ?_;refine zu hl ?_;refine fin _ (decide_eq_false fun h=>?_);rw[h]at hl0;simp at hl0
 have hl2:a.length=b.length:=by simp at hl0;omega
 refine zm hl0 ?_;refine zn a.length (fun k vs s=>vs=[.d (.int .i64 k)]/\(∃T,s=σ++T)/\a.take k=b.take k) ⟨rfl,⟨[],by simp⟩,by simp⟩ ?_;rintro k vs s hk ⟨rfl,⟨T,rfl⟩,htk⟩;by_cases hlt:k<a.length
 ·have hd:decide ((k:Int)<(a.length:Int))=true:=by simp;omega
  have hx:a[k]? = some a[k]:=by simp[hlt]
  have hy:b[k]? = some (b[k]'(by omega)):=List.getElem?_eq_getElem _;have hgx:=zR (f:=fun t=>[D.int .i64 t]) hx;have hgy:=zR (f:=fun t=>[D.int .i64 t]) hy;obtain⟨x,hxe⟩:∃x,a[k]=x:=⟨_,rfl⟩;obtain⟨y,hye⟩:∃y,(b[k]'(by omega))=y:=⟨_,rfl⟩;rw[hxe]at hx hgx;rw[hye]at hy hgy;obtain⟨S,hS⟩:∃S,σ++T=S:=⟨_,rfl⟩;rw[hS];have hxy:x=y↔(x==y)=true:=by simp
  cases h2:(x==y)
  ·refine gq21 (zd hd (zd hgx (zd hgy h2))) ?_;rw[← hS];refine zu hl ?_;refine fin _ (decide_eq_false fun h=>?_);subst h;rw[hx]at hy;rw[hxy.1 (Option.some.inj hy)]at h2;cases h2
  ·refine gq21 (zd hd (zd hgx (zd hgy (zd h2 (wk1 k (by omega)))))) ?_;exact zaK.next hlt ⟨rfl,⟨_,hS.symm⟩,zbq hx hy htk (hxy.2 h2)⟩
 ·have hd:decide ((k:Int)<(a.length:Int))=false:=by simp;omega
  refine zm hd ?_;refine zu hl ?_;exact fin _ (decide_eq_true (zcu hl2 (k:=k) (by omega) htk))
structure zqO (p:zkd):Prop where
 signs:p.signs.length<=1073741824
 batch:zgl p.batch
structure zjS (c:zbj):Prop where
 signs:c.cert.signs.length<=1073741824
 above:c.above.length<=1073741824
 each:∀p∈c.above,zqO p
def zvM (x:zhT):Prop:=zgl x.batch
abbrev entryA (x:zhT):AV:=.agg [.d (.int .i64 x.view),.d (.int .i64 x.seq),.d (.slice (zbz x.batch)),.d (.int .i64 x.key),.d (.int .i64 x.dig)]
theorem zrz {a b:zjy}(ha:a.signs.length<=1073741824){K:KT}(hK:K (.d (.bool (decide (a=b)))) σ):zP zed [zhO a,zhO b] σ K:=by
 refine zeq zsk fun hl=>?_;have fin:∀z,decide (a=b)=z->K (.d (.bool z)) σ:=fun z h=>h▸hK;clear hK;simp only[zlQ,iN,bT,bF,eN];cases h1:(a.seq==b.seq)
 ·refine zm h1 ?_;refine zu hl ?_;exact fin _ (decide_eq_false fun h=>by subst h;simp at h1)
 cases h2:(a.dig==b.dig)
 ·refine zm (zd h1 h2) ?_;refine zu hl ?_;exact fin _ (decide_eq_false fun h=>by subst h;simp at h2)
 refine zm (zd h1 h2) ?_;refine c_eqSign ha ?_;cases h3:decide (a.signs=b.signs)
 ·refine zG ?_;refine zu hl ?_;exact fin _ (decide_eq_false fun h=>by subst h;simp at h3)
 ·refine zG ?_;refine zu hl ?_;exact fin _ (decide_eq_true (by cases a;cases b;simp_all))
theorem c_mSamePrep {a b:zkd}(ha:zqO a)(hb:zqO b){K:KT}(hK:K (.d (.bool (decide (a=b)))) σ) :
  zP zdS [.agg [.d (.int .i64 a.view),.d (.int .i64 a.seq),.d (.int .i64 a.dig),.d (.int .i64 a.fkey),.d (.int .i64 a.fdig),.d (.slice (zat a.signs)),.d (.slice (zbz a.batch))],.agg [.d (.int .i64 b.view),.d (.int .i64 b.seq),.d (.int .i64 b.dig),.d (.int .i64 b.fkey),.d (.int .i64 b.fdig),.d (.slice (zat b.signs)),.d (.slice (zbz b.batch))]] σ K:=by
 refine zeq zoe fun hl=>?_;have fin:∀z,decide (a=b)=z->K (.d (.bool z)) σ:=fun z h=>h▸hK;clear hK;simp only[zin,iN,bT,bF,eN];cases h1:(a.view==b.view)
 ·refine zm h1 ?_;refine zu hl ?_;exact fin _ (decide_eq_false fun h=>by subst h;simp at h1)
 cases h2:(a.seq==b.seq)
 ·refine zm (zd h1 h2) ?_;refine zu hl ?_;exact fin _ (decide_eq_false fun h=>by subst h;simp at h2)
 cases h3:(a.dig==b.dig)
 ·refine zm (zd h1 (zd h2 h3)) ?_;refine zu hl ?_;exact fin _ (decide_eq_false fun h=>by subst h;simp at h3)
 cases h4:(a.fkey==b.fkey&&a.fdig==b.fdig)
 ·refine zdB (zd h1 (zd h2 (zd h3 h4))) ?_;refine zu hl ?_;exact fin _ (decide_eq_false fun h=>by subst h;simp at h4)
 refine zdB (zd h1 (zd h2 (zd h3 h4))) ?_;refine c_eqSign ha.signs ?_;cases h5:decide (a.signs=b.signs)
 ·refine zG ?_;refine zu hl ?_;exact fin _ (decide_eq_false fun h=>by subst h;simp at h5)
 refine zG ?_;refine zwS ha.batch hb.batch ?_;cases h6:decide (a.batch=b.batch)
 ·refine zG ?_;refine zu hl ?_;exact fin _ (decide_eq_false fun h=>by subst h;simp at h6)
 ·refine zG ?_;refine zu hl ?_;exact fin _ (decide_eq_true (by cases a;cases b;simp_all))
theorem c_eqPreps {a b:List zkd}(ha1:a.length<=1073741824)(ha2:∀x∈a,zqO x)(hb2:∀x∈b,zqO x){K:KT}(hK:K (.d (.bool (decide (a=b)))) σ) :
  zP zae [.d (.slice (zfw a)),.d (.slice (zfw b)),.fn (.func zdS) [] []] σ K:=by
 refine acE3 zbU fun hl=>?_;have fin:∀z,decide (a=b)=z->K (.d (.bool z)) σ:=fun z h=>h▸hK;clear hK;simp only[zaL,iN,bT,bF,eN,zl7];cases hl0:((a.length:Int) != (b.length:Int));rotate_left
 ·refine zm hl0 ?_;refine zu hl ?_;refine fin _ (decide_eq_false fun h=>?_);rw[h]at hl0;simp at hl0
 have hl2:a.length=b.length:=by simp at hl0;omega
 refine zm hl0 ?_;refine zn a.length (fun k vs s=>vs=[.d (.int .i64 k)]/\(∃T,s=σ++T)/\a.take k=b.take k) ⟨rfl,⟨[],by simp⟩,by simp⟩ ?_;rintro k vs s hk ⟨rfl,⟨T,rfl⟩,htk⟩;by_cases hlt:k<a.length
 ·have hd:decide ((k:Int)<(a.length:Int))=true:=by simp;omega
  have hx:a[k]? = some a[k]:=by simp[hlt]
  have hy:b[k]? = some (b[k]'(by omega)):=List.getElem?_eq_getElem _;have hgx:=zR (f:=zfC) hx;have hgy:=zR (f:=zfC) hy;have hxs:=ha2 _ (List.getElem_mem hlt);have hys:=hb2 _ (List.getElem_mem (show k<b.length by omega));obtain⟨x,hxe⟩:∃x,a[k]=x:=⟨_,rfl⟩;obtain⟨y,hye⟩:∃y,(b[k]'(by omega))=y:=⟨_,rfl⟩;rw[hxe]at hx hgx hxs;rw[hye]at hy hgy hys;obtain⟨S,hS⟩:∃S,σ++T=S:=⟨_,rfl⟩;rw[hS];refine zdB (zd hd (zd hgx hgy)) ?_;refine c_mSamePrep (a:=x) (b:=y) hxs hys ?_;cases he:decide (x=y)
  ·refine zm hd ?_;rw[← hS,List.append_assoc];refine zu hl ?_;refine fin _ (decide_eq_false fun h=>?_);subst h;rw[hx]at hy;have:=Option.some.inj hy;simp[this]at he
  ·refine zm (wk1 k (by omega)) ?_;exact zaK.next hlt ⟨rfl,⟨_,by rw[← hS,List.append_assoc]⟩,zbq hx hy htk (by simpa using he)⟩
 ·have hd:decide ((k:Int)<(a.length:Int))=false:=by simp;omega
  refine zm hd ?_;refine zu hl ?_;exact fin _ (decide_eq_true (zcu hl2 (k:=k) (by omega) htk))
theorem zAz {a b:zbj}(ha:zjS a)(hb:zjS b){K:KT}(hK:K (.d (.bool (decide (a=b)))) σ) :
  zP zeF [.agg [.d (.int .i64 a.view),.d (.int .i64 a.src),.d (.int .i64 a.cert.seq),.d (.int .i64 a.cert.dig),.d (.slice (zat a.cert.signs)),.d (.slice (zfw a.above)),.d (.int .i64 a.key),.d (.int .i64 a.dig)],.agg [.d (.int .i64 b.view),.d (.int .i64 b.src),.d (.int .i64 b.cert.seq),.d (.int .i64 b.cert.dig),.d (.slice (zat b.cert.signs)),.d (.slice (zfw b.above)),.d (.int .i64 b.key),.d (.int .i64 b.dig)]] σ K:=by
 refine zeq zpY fun hl=>?_;have fin:∀z,decide (a=b)=z->K (.d (.bool z)) σ:=fun z h=>h▸hK;clear hK;simp only[zjK,iN,bT,bF,eN];cases h1:(a.view==b.view)
 ·refine zm h1 ?_;refine zu hl ?_;exact fin _ (decide_eq_false fun h=>by subst h;simp at h1)
 cases h2:(a.src==b.src)
 ·refine zm (zd h1 h2) ?_;refine zu hl ?_;exact fin _ (decide_eq_false fun h=>by subst h;simp at h2)
 refine zm (zd h1 h2) ?_;refine zrz (a:=a.cert) (b:=b.cert) ha.signs ?_;cases h3:decide (a.cert=b.cert)
 ·refine zG ?_;refine zu hl ?_;exact fin _ (decide_eq_false fun h=>by subst h;simp at h3)
 refine zG ?_;refine c_eqPreps ha.above ha.each hb.each ?_;cases h4:decide (a.above=b.above)
 ·refine zG ?_;refine zu hl ?_;exact fin _ (decide_eq_false fun h=>by subst h;simp at h4)
 cases h5:(a.key==b.key&&a.dig==b.dig)
 ·refine zdB h5 ?_;refine zu hl ?_;exact fin _ (decide_eq_false fun h=>by subst h;simp at h5)
 ·refine zdB h5 ?_;refine zu hl ?_;exact fin _ (decide_eq_true (by cases a;cases b;simp_all))
theorem c_eqChanges {a b:List zbj}(ha1:a.length<=1073741824)(ha2:∀x∈a,zjS x)(hb2:∀x∈b,zjS x){K:KT}(hK:K (.d (.bool (decide (a=b)))) σ) :
  zP zao [.d (.slice (zap a)),.d (.slice (zap b)),.fn (.func zeF) [] []] σ K:=by
 refine acE3 zcC fun hl=>?_;have fin:∀z,decide (a=b)=z->K (.d (.bool z)) σ:=fun z h=>h▸hK;clear hK;simp only[zbe,iN,bT,bF,eN,zl6];cases hl0:((a.length:Int) != (b.length:Int));rotate_left
 ·refine zm hl0 ?_;refine zu hl ?_;refine fin _ (decide_eq_false fun h=>?_);rw[h]at hl0;simp at hl0
 have hl2:a.length=b.length:=by simp at hl0;omega
 refine zm hl0 ?_;refine zn a.length (fun k vs s=>vs=[.d (.int .i64 k)]/\(∃T,s=σ++T)/\a.take k=b.take k) ⟨rfl,⟨[],by simp⟩,by simp⟩ ?_;rintro k vs s hk ⟨rfl,⟨T,rfl⟩,htk⟩;by_cases hlt:k<a.length
 ·have hd:decide ((k:Int)<(a.length:Int))=true:=by simp;omega
  have hx:a[k]? = some a[k]:=by simp[hlt]
  have hy:b[k]? = some (b[k]'(by omega)):=List.getElem?_eq_getElem _;have hgx:=zR (f:=zag) hx;have hgy:=zR (f:=zag) hy;have hxs:=ha2 _ (List.getElem_mem hlt);have hys:=hb2 _ (List.getElem_mem (show k<b.length by omega));obtain⟨x,hxe⟩:∃x,a[k]=x:=⟨_,rfl⟩;obtain⟨y,hye⟩:∃y,(b[k]'(by omega))=y:=⟨_,rfl⟩;rw[hxe]at hx hgx hxs;rw[hye]at hy hgy hys;obtain⟨S,hS⟩:∃S,σ++T=S:=⟨_,rfl⟩;rw[hS];refine zdB (zd hd (zd hgx hgy)) ?_;refine zAz (a:=x) (b:=y) hxs hys ?_;cases he:decide (x=y)
  ·refine zm hd ?_;rw[← hS,List.append_assoc];refine zu hl ?_;refine fin _ (decide_eq_false fun h=>?_);subst h;rw[hx]at hy;have:=Option.some.inj hy;simp[this]at he
  ·refine zm (wk1 k (by omega)) ?_;exact zaK.next hlt ⟨rfl,⟨_,by rw[← hS,List.append_assoc]⟩,zbq hx hy htk (by simpa using he)⟩
 ·have hd:decide ((k:Int)<(a.length:Int))=false:=by simp;omega
  refine zm hd ?_;refine zu hl ?_;exact fin _ (decide_eq_true (zcu hl2 (k:=k) (by omega) htk))
theorem c_mSameEntry {a b:zhT}(ha:zvM a)(hb:zvM b){K:KT}(hK:K (.d (.bool (decide (a=b)))) σ) :
  zP zeZ [entryA a,entryA b] σ K:=by
 refine zeq zrm fun hl=>?_;have fin:∀z,decide (a=b)=z->K (.d (.bool z)) σ:=fun z h=>h▸hK;clear hK;simp only[zkX,iN,bT,bF,eN];cases h1:(a.view==b.view)
 ·refine zm h1 ?_;refine zu hl ?_;exact fin _ (decide_eq_false fun h=>by subst h;simp at h1)
 cases h2:(a.seq==b.seq)
 ·refine zm (zd h1 h2) ?_;refine zu hl ?_;exact fin _ (decide_eq_false fun h=>by subst h;simp at h2)
 refine zm (zd h1 h2) ?_;refine zwS ha hb ?_;cases h3:decide (a.batch=b.batch)
 ·refine zG ?_;refine zu hl ?_;exact fin _ (decide_eq_false fun h=>by subst h;simp at h3)
 cases h5:(a.key==b.key&&a.dig==b.dig)
 ·refine zdB h5 ?_;refine zu hl ?_;exact fin _ (decide_eq_false fun h=>by subst h;simp at h5)
 ·refine zdB h5 ?_;refine zu hl ?_;exact fin _ (decide_eq_true (by cases a;cases b;simp_all))
theorem c_eqEntries {a b:List zhT}(ha1:a.length<=1073741824)(ha2:∀x∈a,zvM x)(hb2:∀x∈b,zvM x){K:KT}(hK:K (.d (.bool (decide (a=b)))) σ) :
  zP zaz [.d (.slice (zbo a)),.d (.slice (zbo b)),.fn (.func zeZ) [] []] σ K:=by
 refine acE3 zcW fun hl=>?_;have fin:∀z,decide (a=b)=z->K (.d (.bool z)) σ:=fun z h=>h▸hK;clear hK;simp only[zbi,iN,bT,bF,eN];cases hl0:((a.length:Int) != (b.length:Int));rotate_left
 ·refine zm hl0 ?_;refine zu hl ?_;refine fin _ (decide_eq_false fun h=>?_);rw[h]at hl0;simp at hl0
 have hl2:a.length=b.length:=by simp at hl0;omega
 refine zm hl0 ?_;refine zn a.length (fun k vs s=>vs=[.d (.int .i64 k)]/\(∃T,s=σ++T)/\a.take k=b.take k) ⟨rfl,⟨[],by simp⟩,by simp⟩ ?_;rintro k vs s hk ⟨rfl,⟨T,rfl⟩,htk⟩;by_cases hlt:k<a.length
 ·have hd:decide ((k:Int)<(a.length:Int))=true:=by simp;omega
  have hx:a[k]? = some a[k]:=by simp[hlt]
  have hy:b[k]? = some (b[k]'(by omega)):=List.getElem?_eq_getElem _;have hgx:=zR (f:=zdh) hx;have hgy:=zR (f:=zdh) hy;have hxs:=ha2 _ (List.getElem_mem hlt);have hys:=hb2 _ (List.getElem_mem (show k<b.length by omega));obtain⟨x,hxe⟩:∃x,a[k]=x:=⟨_,rfl⟩;obtain⟨y,hye⟩:∃y,(b[k]'(by omega))=y:=⟨_,rfl⟩;rw[hxe]at hx hgx hxs;rw[hye]at hy hgy hys;obtain⟨S,hS⟩:∃S,σ++T=S:=⟨_,rfl⟩;rw[hS];refine zdB (zd hd (zd hgx hgy)) ?_;refine c_mSameEntry (a:=x) (b:=y) hxs hys ?_;cases he:decide (x=y)
  ·refine zm hd ?_;rw[← hS,List.append_assoc];refine zu hl ?_;refine fin _ (decide_eq_false fun h=>?_);subst h;rw[hx]at hy;have:=Option.some.inj hy;simp[this]at he
  ·refine zm (wk1 k (by omega)) ?_;exact zaK.next hlt ⟨rfl,⟨_,by rw[← hS,List.append_assoc]⟩,zbq hx hy htk (by simpa using he)⟩
 ·have hd:decide ((k:Int)<(a.length:Int))=false:=by simp;omega
  refine zm hd ?_;refine zu hl ?_;exact fin _ (decide_eq_true (zcu hl2 (k:=k) (by omega) htk))
end Go.Proofs.YtdgcepphjnoalaaGreat
