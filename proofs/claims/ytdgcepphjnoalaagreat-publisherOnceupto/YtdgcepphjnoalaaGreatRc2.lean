/- Contracts: what is wrong with batches, on both sides. -/
import Derived.Test.YtdgcepphjnoalaaGreatOpC
import Derived.Test.YtdgcepphjnoalaaGreatSh
import Derived.Test.YtdgcepphjnoalaaGreatSpTab
set_option linter.all false
set_option maxRecDepth 100000
namespace Go.Proofs.YtdgcepphjnoalaaGreat
open Go.AW
variable {σ:List AObj}
theorem wk1 (k:Nat)(h:k<=1073741824):IntKind.i64.wrap ((k:Int)+1)=((k+1:Nat):Int):=by rw[zaQ (by omega) (by omega)];rfl
theorem zdy {A P Q:Prop}(a:A)(h:Q)(e:A->Hd Q->P:=by intro a h;(repeat' first|simp -dsimp only[↓zmg,↓zcf,↓zep,↓zmh,↓zmb,↓zlZ,↓zmc,↓zma,↓zeu,↓zeq,↓zev,↓zer,↓zmd,↓zeo,↓zew,↓zes,↓zex,↓zet,↓zlY,↓zmf,↓zen,↓zey,↓zlW,↓zlV,↓zlX,iN,bT,bF,eN,↓zeO,↓unC,↓zaE,↓zan,↓zao,↓zaA,↓zbf,↓zah,↓zgR,↓zaz,↓zbe,↓zae,↓ze,↓zl,↓zbc,↓zc,↓zaY,↓zM,↓zce,↓zcB,↓zf,↓zF,↓zr,↓zN,↓zaC,↓zgY,↓zhU,↓zbi,↓zbJ,↓zcj,↓zcM,↓zdG,↓zL,↓zbh,↓zap,↓zR,↓zbb,zhS,zdY,zdS,unA,zgE,bnd,zjr,zaP,zK,ziD,dm,dm1,zH,zaI,zkw,zkv,keepO,Q0,Q1,Q2,Q3,Q4,Q5,zbg,zA,zC,zZ,zad,Q6,Q7,Q8,Q9,Q10,Q11,Q12,Q13,Q14,Nat.reduceAdd,Q15,Int.reduceToNat,Q16,Q17,Q18,Q19,Q20,reduceIte,Q21,Q22,zy,rep,zaq,zil,toD,zaD,Q23,Q24,Q25,Q26,Q27,Q28,Nat.reduceLeDiff,Q29,Nat.reduceSub,Q30,Q31,Q32,sc,Q33,Q34,Q35,Q36,Q37,Q26,Q38,Q39,zvP,zvM,zvJ,zvQ,zkt,zvN,zvK,zvO,zvL,zks,zku,zwb,zwc,Bool.not_true,Bool.not_false,List.length_map,Bool.and_false,Bool.and_self,Bool.false_and,Bool.not_false,Bool.not_true,Bool.true_and,Int.toNat_natCast,Int.toNat_zero,List.drop_zero,List.length_map,List.length_nil,List.nil_append,List.take_length,Nat.sub_zero,Nat.zero_add,Option.isSome_none,Option.isSome_some,Option.map_none,Option.map_some,zaj,beq_self_eq_true,bne_self_eq_false,zck,zhJ,zag,zdg,zrY,zcl,zor,opA,opD,zfx,zgo,zjj,zaw,a]|with_reducible refine zxa ?_|fail);exact h.go):P:=e a ⟨h⟩
theorem ziY {b:List zp}(hb:okB b){K:KT}(hK:K (.d (.int .i64 (zD b))) σ):zP zbQ [.d (.slice (zbA b))] σ K:=by
 refine zez zpR fun hl=>?_;have fin:∀z,zD b=z->K (.d (.int .i64 z)) σ:=fun z h=>h▸hK;clear hK;obtain⟨hb1,hb2⟩:=hb;simp only[zjz,iN,bT,bF,eN,zl1];cases h4:decide ((b.length:Int)>4);rotate_left
 ·refine zm h4 ?_;refine zu hl ?_;exact fin _ (by rw[zD,if_pos (by simp at h4;omega)])
 have h4':¬b.length>4:=by simp at h4;omega
 refine zm h4 ?_;refine zn b.length (fun k vs s=>vs=[.d (.int .i64 k)]/\(∃T,s=σ++T)/\znW (b.take k)=0) ⟨rfl,⟨[],by simp⟩,rfl⟩ ?_;rintro k vs s hk ⟨rfl,⟨T,rfl⟩,he⟩;by_cases hlt:k<b.length
 ·have hd:decide ((k:Int)<(b.length:Int))=true:=by simp;omega
  have hx:b[k]? = some b[k]:=by simp[hlt]
  have hbx:=hb2 _ (List.getElem_mem hlt);have hgx:=zQ (f:=zaw) hx;obtain⟨x,hxe⟩:∃x,b[k]=x:=⟨_,rfl⟩;rw[hxe]at hx hgx hbx;have bad:zyI x≠0->K (.d (.int .i64 (zyI x))) σ:=fun h=>fin _ (by rw[zD,if_neg h4',if_pos (by rw[zpF hx he h];exact h)];exact zpF hx he h);refine zdy (zd hd hgx) ?_;refine c_rqCheck (x:=x) hbx ?_;cases h1:(zT x != 0);rotate_left
  ·have h1':zT x≠0:=by simpa using h1
   refine zm h1 ?_;refine zu hl ?_;have e:zyI x=zT x:=by rw[zyI,if_pos h1']
   rw[e]at bad;exact bad h1'
  refine zm h1 ?_;have h1':¬zT x≠0:=by simpa using h1
  have e:zyI x=zx x.key x.dig:=by rw[zyI,if_neg h1']
  refine zbN ?_;cases h2:(zx x.key x.dig != 0);rotate_left
  ·refine zm h2 ?_;refine zu hl ?_;rw[e]at bad;exact bad (by simpa using h2)
  refine zm (zd h2 (wk1 k (by omega))) ?_;exact zaK.next hlt ⟨rfl,⟨_,rfl⟩,zyH hx he (by rw[e];simpa using h2)⟩
 ·have hn:k=b.length:=by omega
  subst hn;rw[List.take_length]at he;have hd:decide ((b.length:Int)<(b.length:Int))=false:=by simp
  refine zm hd ?_;refine zn b.length (fun k vs s=>vs=[.d (.int .i64 k)]/\(∃T,s=σ++T)/\(b.take k).Pairwise ndup) ⟨rfl,⟨T,rfl⟩,by simp⟩ ?_;rintro k vs s hk' ⟨rfl,⟨T,rfl⟩,hp⟩;by_cases hlt:k<b.length
  ·have hd:decide ((k:Int)<(b.length:Int))=true:=by simp;omega
   have hx:b[k]? = some b[k]:=by simp[hlt]
   have hgx:=zQ (f:=zaw) hx;obtain⟨x,hxe⟩:∃x,b[k]=x:=⟨_,rfl⟩;rw[hxe]at hx hgx;have htk:List.take k (List.map zaw b)=List.map zaw (b.take k):=by rw[List.map_take]
   have hlk:(b.take k).length=k:=by rw[List.length_take];omega
   refine zdy (zd hd (zd hgx (zd htk hlk))) ?_;refine⟨batch_nine b,?_⟩;refine zdy (zd hd (zd hgx (zd htk hlk))) ?_;refine zn k (fun j vs s=>vs=[.d (.int .i64 j)]/\(∃T',s=σ++(T++.box [.d (.int .i64 x.client),.d (.int .i64 x.time),.d (.int .i64 x.op.kind),.d (.str x.op.topic),.d (.str x.op.group),.d (.int .i64 x.op.offset),.d (.slice (zdQ x.op.recs)),.d (.int .i64 x.key),.d (.int .i64 x.dig)]::T'))/\∀y∈b.take j,¬(x.client=y.client/\x.time=y.time)) ⟨rfl,⟨[],by simp⟩,by simp⟩ ?_;rintro j vs s hj ⟨rfl,⟨T',rfl⟩,hno⟩;by_cases hjk:j<k
   ·have hd:decide ((j:Int)<(k:Int))=true:=by simp;omega
    have hy:b[j]? = some (b[j]'(by omega)):=List.getElem?_eq_getElem _;have hy':(b.take k)[j]? = some (b[j]'(by omega)):=by rw[List.getElem?_take,if_pos hjk];exact hy
    have hgy:=zQ (f:=zaw) hy';obtain⟨y,hye⟩:∃y,b[j]'(by omega)=y:=⟨_,rfl⟩;rw[hye]at hy hgy hy';have hyt:b.take (j+1)=b.take j++[y]:=by rw[List.take_add_one,hy];rfl
    have next:¬(x.client=y.client/\x.time=y.time)->∀z∈b.take (j+1),¬(x.client=z.client/\x.time=z.time):=fun h z hz=>by
     rw[hyt]at hz;rcases List.mem_append.1 hz with hz|hz
     ·exact hno z hz
     ·simp at hz;subst hz;exact h
    cases h1:(x.client==y.client)
    ·refine zdy (zd hd (zd htk (zd hlk (zd hgy (zd h1 (wk1 j (by omega))))))) ?_;exact zaK.next hjk ⟨rfl,⟨_,rfl⟩,next (by simp at h1;exact fun h=>h1 h.1)⟩
    cases h2:(x.time==y.time)
    ·refine zdy (zd hd (zd htk (zd hlk (zd hgy (zd h1 (zd h2 (wk1 j (by omega)))))))) ?_;exact zaK.next hjk ⟨rfl,⟨_,rfl⟩,next (by simp at h2;exact fun h=>h2 h.2)⟩
    ·refine zdy (zd hd (zd htk (zd hlk (zd hgy (zd h1 h2))))) ?_;refine zu hl ?_;have hnp:=pairs_not hx hy hjk ⟨by simpa using h1,by simpa using h2⟩;exact fin _ (by rw[zD,if_neg h4',if_neg (by simpa using he),if_neg hnp])
   ·have hd:decide ((j:Int)<(k:Int))=false:=by simp;omega
    have hn:j=k:=by omega
    subst hn;refine zm (zd hd (zd htk (zd hlk (wk1 j (by omega))))) ?_;exact zaK.next hlt ⟨rfl,⟨_,rfl⟩,zym hx hp hno⟩
  ·have hd:decide ((k:Int)<(b.length:Int))=false:=by simp;omega
   refine zm hd ?_;refine zu hl ?_;have hn:k=b.length:=by omega
   subst hn;rw[List.take_length]at hp;exact fin _ (by rw[zD,if_neg h4',if_neg (by simpa using he),if_pos hp])
theorem zhL {b:List zp}(hb:okB b){K:KT}(hK:K (.d (.int .i64 (zD b))) σ):zP zde [.d (.slice (zbA b))] σ K:=by
 refine zez zuG fun hl=>?_;have fin:∀z,zD b=z->K (.d (.int .i64 z)) σ:=fun z h=>h▸hK;clear hK;obtain⟨hb1,hb2⟩:=hb;simp only[znL,iN,bT,bF,eN];cases h4:decide ((b.length:Int)>4);rotate_left
 ·refine zm h4 ?_;refine zu hl ?_;exact fin _ (by rw[zD,if_pos (by simp at h4;omega)])
 have h4':¬b.length>4:=by simp at h4;omega
 refine zm h4 ?_;refine zn b.length (fun k vs s=>vs=[.d (.int .i64 k)]/\s=σ/\znW (b.take k)=0) ⟨rfl,rfl,rfl⟩ ?_;rintro k vs s hk ⟨rfl,rfl,he⟩;by_cases hlt:k<b.length
 ·have hd:decide ((k:Int)<(b.length:Int))=true:=by simp;omega
  have hx:b[k]? = some b[k]:=by simp[hlt]
  have hbx:=hb2 _ (List.getElem_mem hlt);have hgx:=zQ (f:=zaw) hx;obtain⟨x,hxe⟩:∃x,b[k]=x:=⟨_,rfl⟩;rw[hxe]at hx hgx hbx;have bad:zyI x≠0->K (.d (.int .i64 (zyI x))) s:=fun h=>fin _ (by rw[zD,if_neg h4',if_pos (by rw[zpF hx he h];exact h)];exact zpF hx he h);refine zdy (zd hd hgx) ?_;refine zyQ (x:=x) hbx ?_;cases h1:(zT x != 0);rotate_left
  ·have h1':zT x≠0:=by simpa using h1
   refine zm h1 ?_;refine zu hl ?_;have e:zyI x=zT x:=by rw[zyI,if_pos h1']
   rw[e]at bad;exact bad h1'
  refine zdy (zd h1 hgx) ?_;have h1':¬zT x≠0:=by simpa using h1
  have e:zyI x=zx x.key x.dig:=by rw[zyI,if_neg h1']
  refine zbI ?_;cases h2:(zx x.key x.dig != 0);rotate_left
  ·refine zm h2 ?_;refine zu hl ?_;rw[e]at bad;exact bad (by simpa using h2)
  refine zm (zd h2 (wk1 k (by omega))) ?_;exact zaK.next hlt ⟨rfl,rfl,zyH hx he (by rw[e];simpa using h2)⟩
 ·have hn:k=b.length:=by omega
  subst hn;rw[List.take_length]at he;have hd:decide ((b.length:Int)<(b.length:Int))=false:=by simp
  refine zm hd ?_;refine zn b.length (fun k vs q=>vs=[.d (.int .i64 k)]/\q=s/\(b.take k).Pairwise ndup) ⟨rfl,rfl,by simp⟩ ?_;rintro k vs s hk' ⟨rfl,rfl,hp⟩;by_cases hlt:k<b.length
  ·have hd:decide ((k:Int)<(b.length:Int))=true:=by simp;omega
   have hx:b[k]? = some b[k]:=by simp[hlt]
   have hgx:=zQ (f:=zaw) hx;obtain⟨x,hxe⟩:∃x,b[k]=x:=⟨_,rfl⟩;rw[hxe]at hx hgx;refine zm hd ?_;refine zn k (fun j vs q=>vs=[.d (.int .i64 j)]/\q=s/\∀y∈b.take j,¬(x.client=y.client/\x.time=y.time)) ⟨rfl,rfl,by simp⟩ ?_;rintro j vs s hj ⟨rfl,rfl,hno⟩;by_cases hjk:j<k
   ·have hd:decide ((j:Int)<(k:Int))=true:=by simp;omega
    have hy:b[j]? = some (b[j]'(by omega)):=List.getElem?_eq_getElem _;have hgy:=zQ (f:=zaw) hy;obtain⟨y,hye⟩:∃y,b[j]'(by omega)=y:=⟨_,rfl⟩;rw[hye]at hy hgy;have hyt:b.take (j+1)=b.take j++[y]:=by rw[List.take_add_one,hy];rfl
    have next:¬(x.client=y.client/\x.time=y.time)->∀z∈b.take (j+1),¬(x.client=z.client/\x.time=z.time):=fun h z hz=>by
     rw[hyt]at hz;rcases List.mem_append.1 hz with hz|hz
     ·exact hno z hz
     ·simp at hz;subst hz;exact h
    cases h1:(x.client==y.client)
    ·refine zdy (zd hd (zd hgx (zd hgy (zd h1 (wk1 j (by omega)))))) ?_;exact zaK.next hjk ⟨rfl,rfl,next (by simp at h1;exact fun h=>h1 h.1)⟩
    cases h2:(x.time==y.time)
    ·refine zdy (zd hd (zd hgx (zd hgy (zd h1 (zd h2 (wk1 j (by omega))))))) ?_;exact zaK.next hjk ⟨rfl,rfl,next (by simp at h2;exact fun h=>h2 h.2)⟩
    ·refine zdy (zd hd (zd hgx (zd hgy (zd h1 h2)))) ?_;refine zu hl ?_;have hnp:=pairs_not hx hy hjk ⟨by simpa using h1,by simpa using h2⟩;exact fin _ (by rw[zD,if_neg h4',if_neg (by simpa using he),if_neg hnp])
   ·have hd:decide ((j:Int)<(k:Int))=false:=by simp;omega
    have hn:j=k:=by omega
    subst hn;refine zm (zd hd (wk1 j (by omega))) ?_;exact zaK.next hlt ⟨rfl,rfl,zym hx hp hno⟩
  ·have hd:decide ((k:Int)<(b.length:Int))=false:=by simp;omega
   refine zm hd ?_;refine zu hl ?_;have hn:k=b.length:=by omega
   subst hn;rw[List.take_length]at hp;exact fin _ (by rw[zD,if_neg h4',if_neg (by simpa using he),if_pos hp])
variable {σ:List AObj}
theorem c_Same1 {a b:zp}(ha:a.op.recs.length<=1073741824)(hb:b.op.recs.length<=1073741824){K:KT}(hK:K (.d (.bool (decide (a=b)))) σ):zP zgM [zjj a,zjj b] σ K:=by
 refine zec zuC fun hl=>?_;have e:a=b↔a.key=b.key/\a.dig=b.dig/\a.client=b.client/\a.time=b.time/\a.op=b.op:=by cases a;cases b;simp;constructor<;>(intro h;simp_all)
 have fin:∀z,decide (a=b)=z->K (.d (.bool z)) σ:=fun z h=>h▸hK;clear hK;simp only[znH,iN,bT,bF,eN,zjj];cases h1:(a.key==b.key)
 ·refine zdy h1 ?_;refine zu hl ?_;refine fin _ (decide_eq_false fun h=>?_);have:=(e.1 h).1;simp[this]at h1
 cases h2:(a.dig==b.dig)
 ·refine zdy (zd h1 h2) ?_;refine zu hl ?_;refine fin _ (decide_eq_false fun h=>?_);have:=(e.1 h).2.1;simp[this]at h2
 cases h3:(a.client==b.client)
 ·refine zdy (zd h1 (zd h2 h3)) ?_;refine zu hl ?_;refine fin _ (decide_eq_false fun h=>?_);have:=(e.1 h).2.2.1;simp[this]at h3
 cases h4:(a.time==b.time)
 ·refine zdy (zd h1 (zd h2 (zd h3 h4))) ?_;refine zu hl ?_;refine fin _ (decide_eq_false fun h=>?_);have:=(e.1 h).2.2.2.1;simp[this]at h4
 refine zdy (zd h1 (zd h2 (zd h3 h4))) ?_;refine c_Same (a:=a.op) (b:=b.op) ha hb ?_;refine zG ?_;refine zu hl ?_;refine fin _ ?_;rw[Bool.eq_iff_iff,decide_eq_true_eq,decide_eq_true_eq,e];simp only[beq_iff_eq]at h1 h2 h3 h4;simp[h1,h2,h3,h4]
theorem zss {a b:List zp}(ha:zgv a)(hb:zgv b){K:KT}(hK:K (.d (.bool (decide (a=b)))) σ) :
  zP zar [.d (.slice (zbA a)),.d (.slice (zbA b)),.fn (.func zgM) [] []] σ K:=by
 refine acE3 zcO fun hl=>?_;have fin:∀z,decide (a=b)=z->K (.d (.bool z)) σ:=fun z h=>h▸hK;clear hK;obtain⟨ha1,ha2⟩:=ha;obtain⟨hb1,hb2⟩:=hb;simp only[zbj,iN,bT,bF,eN,zl1];cases hl0:((a.length:Int) != (b.length:Int));rotate_left
 ·refine zm hl0 ?_;refine zu hl ?_;refine fin _ (decide_eq_false fun h=>?_);rw[h]at hl0;simp at hl0
 have hl2:a.length=b.length:=by simp at hl0;omega
 refine zm hl0 ?_;refine zn a.length (fun k vs s=>vs=[.d (.int .i64 k)]/\(∃T,s=σ++T)/\a.take k=b.take k) ⟨rfl,⟨[],by simp⟩,by simp⟩ ?_;rintro k vs s hk ⟨rfl,⟨T,rfl⟩,htk⟩;by_cases hlt:k<a.length
 ·have hd:decide ((k:Int)<(a.length:Int))=true:=by simp;omega
  have hx:a[k]? = some a[k]:=by simp[hlt]
  have hy:b[k]? = some (b[k]'(by omega)):=List.getElem?_eq_getElem _;have hgx:=zQ (f:=zaw) hx;have hgy:=zQ (f:=zaw) hy;have hxs:=(ha2 _ (List.getElem_mem hlt)).1;have hys:=(hb2 _ (List.getElem_mem (show k<b.length by omega))).1;obtain⟨x,hxe⟩:∃x,a[k]=x:=⟨_,rfl⟩;obtain⟨y,hye⟩:∃y,(b[k]'(by omega))=y:=⟨_,rfl⟩;rw[hxe]at hx hgx hxs;rw[hye]at hy hgy hys;obtain⟨S,hS⟩:∃S,σ++T=S:=⟨_,rfl⟩;rw[hS];refine zdy (zd hd (zd hgx hgy)) ?_;refine c_Same1 (a:=x) (b:=y) hxs hys ?_;cases he:decide (x=y)
  ·refine zm hd ?_;rw[← hS,List.append_assoc];refine zu hl ?_;refine fin _ (decide_eq_false fun h=>?_);subst h;rw[hx]at hy;have:=Option.some.inj hy;simp[this]at he
  ·refine zm (wk1 k (by omega)) ?_;exact zaK.next hlt ⟨rfl,⟨_,by rw[← hS,List.append_assoc]⟩,zbs hx hy htk (by simpa using he)⟩
 ·have hd:decide ((k:Int)<(a.length:Int))=false:=by simp;omega
  refine zm hd ?_;refine zu hl ?_;exact fin _ (decide_eq_true (zcv hl2 (k:=k) (by omega) htk))
theorem zwK {a b:List zp}(ha:zgv a)(hb:zgv b){K:KT}(hK:K (.d (.bool (decide (a=b)))) σ):zP zgA [.d (.slice (zbA a)),.d (.slice (zbA b))] σ K:=by
 refine zec zxL fun hl=>?_;simp only[zqv,iN,bT,bF,eN];refine zG ?_;refine zss ha hb ?_;refine zG ?_;refine zu hl ?_;exact hK
variable {σ:List AObj}
abbrev zfr (e:Int):AObj:=.box [.d (.int .i64 e)]
theorem ziM (n:Nat)(e:Int):ztL n (zfr e):=by
 intro c hc;simp only[List.mem_cons,List.not_mem_nil,or_false]at hc;subst hc;exact .d _
theorem c_says {id:Nat}{e x:Int}(hσ:σ[id]? = some (zfr e)){K:KT}(hK:K (.tup []) (σ.set id (zfr (znU e x)))):zP zE [.box id 0,.d (.int .i64 x)] σ K:=by
 refine zec zpW fun hl=>?_;simp only[zjF,iN,bT,bF,eN];cases h:(e==0)
 ·rw[znU,if_pos (by simpa using h),zbS hσ]at hK;refine zm (zd hσ h) ?_;refine zu hl ?_;exact hK
 ·rw[znU,if_neg (by simpa using h)]at hK;refine zm (zd hσ h) ?_;exact zeZ (by simp[zcm,dmT,zbw]) hl (ziM _ _) hK
theorem thn_0 (e:Int):znU e 0=e:=by
 unfold znU;split
 ·rfl
 ·rename_i h;simp at h;exact h.symm
theorem zAD {id:Nat}{e n lo hi:Int}(hσ:σ[id]? = some (zfr e)){K:KT}(hK:K (.tup []) (σ.set id (zfr (znU e (inE n lo hi))))) :
  zP zau [.box id 0,.d (.int .i64 n),.d (.int .i64 lo),.d (.int .i64 hi)] σ K:=by
 refine acE4 zsi fun hl=>?_;simp only[zlz,iN,bT,bF,eN];have bad:(n<lo∨n>hi)->zP zE [.box id 0,.d (.int .i64 100)] σ fun _ s=>AW.Ends σ.length K (some []) s:=fun h=>by
  rw[inE,if_pos h]at hK;refine c_says hσ ?_;exact zeZ (by simp[zcm,dmT,zbw]) hl (ziM _ _) hK
 cases h1:decide (n<lo)
 ·cases h2:decide (n>hi)
  ·rw[inE,if_neg (by simp at h1 h2;omega),thn_0,zbS hσ]at hK;refine zm (zd h1 h2) ?_;refine zu hl ?_;exact hK
  ·refine zm (zd h1 h2) ?_;exact bad (.inr (by simpa using h2))
 ·refine zm h1 ?_;exact bad (.inl (by simpa using h1))
theorem zAC {id:Nat}{e n:Int}(hσ:σ[id]? = some (zfr e)){K:KT}(hK:K (.tup []) (σ.set id (zfr (znU e (zeR n))))) :
  zP zO [.box id 0,.d (.int .i64 n)] σ K:=by
 refine zec zrl fun hl=>?_;simp only[zkU,iN,bT,bF,eN];refine zG ?_;refine zAD hσ ?_;exact zeZ (by simp[zcm,dmT,zbw]) hl (ziM _ _) hK
theorem c_askPos {id:Nat}{e n:Int}(hσ:σ[id]? = some (zfr e)){K:KT}(hK:K (.tup []) (σ.set id (zfr (znU e (zkg n))))) :
  zP zaf [.box id 0,.d (.int .i64 n)] σ K:=by
 refine zec zrk fun hl=>?_;simp only[zkT,iN,bT,bF,eN];refine zG ?_;refine zAD hσ ?_;exact zeZ (by simp[zcm,dmT,zbw]) hl (ziM _ _) hK
theorem c_askMany {id:Nat}{e n hi:Int}(hσ:σ[id]? = some (zfr e)){K:KT}(hK:K (.tup []) (σ.set id (zfr (znU e (inE n 0 hi))))) :
  zP zai [.box id 0,.d (.int .i64 n),.d (.int .i64 hi)] σ K:=by
 refine acE3 zpY fun hl=>?_;simp only[zjH,iN,bT,bF,eN];refine zG ?_;refine zAD hσ ?_;exact zeZ (by simp[zcm,dmT,zbw]) hl (ziM _ _) hK
theorem c_askName {id:Nat}{e:Int}{x:List UInt8}(hσ:σ[id]? = some (zfr e))(hx:x.length<=1073741824){K:KT}(hK:K (.tup []) (σ.set id (zfr (znU e (zla x))))) :
  zP zcx [.box id 0,.d (.str x)] σ K:=by
 refine zec zpX fun hl=>?_;simp only[zjG,iN,bT,bF,eN];refine zG ?_;refine c_Name hx ?_;cases h:zef x
 ·rw[zla,if_neg (by simp[h])]at hK;refine zG ?_;refine c_says hσ ?_;exact zeZ (by simp[zcm,dmT,zbw]) hl (ziM _ _) hK
 ·rw[zla,if_pos h,thn_0,zbS hσ]at hK;refine zG ?_;refine zu hl ?_;exact hK
theorem fst_snoc (e:Int)(l:List Int)(x:Int):znU (zav (e::l)) x=zav (e::(l++[x])):=by
 rw[show e::(l++[x])=(e::l)++[x]from rfl,zeD];unfold znU;split
 ·rfl
 ·simp[zav]
theorem zjQ {α β:Type}{f:α→β}{l:List α}{k:Nat}{x:α}(h:l[k]? = some x):(l.take (k+1)).map f=(l.take k).map f++[f x]:=by
 rw[List.take_add_one,h];simp
theorem wkc (k:Nat)(h:k<=1073741824):IntKind.i64.wrap ((k:Int)+1)=((k+1:Nat):Int):=by rw[zaQ (by omega) (by omega)];rfl
theorem fst1 (e x:Int):zav [e,x]=znU e x:=by
 unfold znU;simp only[zav];split
 ·rfl
 ·split
  ·rfl
  ·rename_i h;simp at h;exact h.symm
theorem bft:((false:Bool)==true)=false:=rfl
theorem btf:((true:Bool)==false)=false:=rfl
theorem gq19 {A P Q:Prop}(a:A)(h:Q)(e:A->Hd Q->P:=by intro a h;(repeat' first|simp -dsimp only[↓zmg,↓zcf,↓zep,↓zmh,↓zmb,↓zlZ,↓zmc,↓zma,↓zeu,↓zeq,↓zev,↓zer,↓zmd,↓zeo,↓zew,↓zes,↓zex,↓zet,↓zlY,↓zmf,↓zen,↓zey,↓zlW,↓zlV,↓zlX,iN,bT,bF,eN,↓zeO,↓unC,↓zaE,↓zan,↓zao,↓zaA,↓zbf,↓zah,↓zgR,↓zaz,↓zbe,↓zae,↓ze,↓zl,↓zbc,↓zc,↓zaY,↓zM,↓zce,↓zcB,↓zf,↓zF,↓zr,↓zN,↓zaC,↓zgY,↓zhU,↓zbi,↓zbJ,↓zcj,↓zcM,↓zdG,↓zL,↓zbh,↓zap,↓zR,↓zbb,zhS,zdY,zdS,unA,zgE,bnd,zjr,zaP,zK,ziD,dm,dm1,zH,zaI,zkw,zkv,keepO,Q0,Q1,Q2,Q3,Q4,Q5,zbg,zA,zC,zZ,zad,Q6,Q7,Q8,Q9,Q10,Q11,Q12,Q13,Q14,Nat.reduceAdd,Q15,Int.reduceToNat,Q16,Q17,Q18,Q19,Q20,reduceIte,Q21,Q22,zy,rep,zaq,zil,toD,zaD,Q23,Q24,Q25,Q26,Q27,Q28,Nat.reduceLeDiff,Q29,Nat.reduceSub,Q30,Q31,Q32,sc,Q33,Q34,Q35,Q36,Q37,Q26,Q38,Q39,zvP,zvM,zvJ,zvQ,zkt,zvN,zvK,zvO,zvL,zks,zku,zwb,zwc,Bool.not_true,Bool.not_false,List.length_map,Bool.and_false,Bool.and_self,Bool.false_and,Bool.not_false,Bool.not_true,Bool.true_and,Int.toNat_natCast,Int.toNat_zero,List.drop_zero,List.length_map,List.length_nil,List.nil_append,List.take_length,Nat.sub_zero,Nat.zero_add,Option.isSome_none,Option.isSome_some,Option.map_none,Option.map_some,zaj,beq_self_eq_true,bft,bne_self_eq_false,btf,zck,zhJ,zag,zdg,zrY,zcl,zor,opA,opD,zfx,zgo,zjj,zaw,a]|with_reducible refine zxa ?_|fail);exact h.go):P:=e a ⟨h⟩
theorem zyV {id:Nat}{e:Int}{l:List zI}(hσ:σ[id]? = some (zfr e))(hl0:l.length<=1073741824){K:KT}(hK:K (.tup []) (σ.set id (zfr (znU e (zav (zco l)))))) :
  zP zaX [.box id 0,.d (.slice (zat l))] σ K:=by
 refine zec zoJ fun hl=>?_;have hlen:(zat l).length=l.length:=List.length_map ..;have hid:=zY hσ;rw[thn_fst,zco]at hK;simp only[zjf,iN,bT,bF,eN];refine zm hlen ?_;refine c_askMany hσ ?_;refine zm hlen ?_;refine zn l.length (fun k vs s=>vs=[.d (.int .i64 k)]/\∃T,s=σ.set id (zfr (zav (e::(inE l.length 0 13::(l.take k).map fun s=>zx s.key s.dig))))++T) ⟨rfl,[],by rw[List.take_zero,List.map_nil,fst1,List.append_nil]⟩ ?_;rintro k vs s hk ⟨rfl,T,rfl⟩;by_cases hlt:k<l.length
 ·have hd:decide ((k:Int)<(l.length:Int))=true:=by simp;omega
  have hx:l[k]? = some l[k]:=by simp[hlt]
  have hgx:=zQ (f:=zgo) hx;obtain⟨x,hxe⟩:∃x,l[k]=x:=⟨_,rfl⟩;rw[hxe]at hx hgx;have hmn:=zjQ (f:=fun s:zI=>zx s.key s.dig) hx;have fs:=fst_snoc e (inE l.length 0 13::(l.take k).map fun s=>zx s.key s.dig) (zx x.key x.dig);simp only[List.cons_append]at fs;rw[← hmn]at fs;obtain⟨E,hE⟩:∃E,zav (e::(inE l.length 0 13::(l.take k).map fun s=>zx s.key s.dig))=E:=⟨_,rfl⟩;rw[hE]at fs ⊢;have hS:∀τ,(σ.set id (zfr E)++τ)[id]? = some (zfr E):=fun τ=>zi (zdr hσ);refine gq19 (zd hd (zd hgx hlen)) ?_;refine zbN ?_;refine zG ?_;refine c_says (e:=E) (hS _) ?_;rw[zdk (zdr hσ),List.set_set];refine zm (wkc k (by omega)) ?_;exact zaK.next hlt ⟨rfl,_,by rw[fs]⟩
 ·have hd:decide ((k:Int)<(l.length:Int))=false:=by simp;omega
  rw[List.take_of_length_le (by omega)];refine zm hd ?_;exact zeL (by simp[zcm,dmT,zbw]) hl (ziM _ _) hK
theorem zkZ {A P Q:Prop}(a:A)(h:Q)(e:A->Hd Q->P:=by intro a h;(repeat' first|simp -dsimp only[↓zmg,↓zcf,↓zep,↓zmh,↓zmb,↓zlZ,↓zmc,↓zma,↓zeu,↓zeq,↓zev,↓zer,↓zmd,↓zeo,↓zew,↓zes,↓zex,↓zet,↓zlY,↓zmf,↓zen,↓zey,↓zlW,↓zlV,↓zlX,iN,bT,bF,eN,↓zeO,↓unC,↓zaE,↓zan,↓zao,↓zaA,↓zbf,↓zah,↓zgR,↓zaz,↓zbe,↓zae,↓ze,↓zl,↓zbc,↓zc,↓zaY,↓zM,↓zce,↓zcB,↓zf,↓zF,↓zr,↓zN,↓zaC,↓zgY,↓zhU,↓zbi,↓zbJ,↓zcj,↓zcM,↓zdG,↓zL,↓zbh,↓zap,↓zR,↓zbb,zhS,zdY,zdS,unA,zgE,bnd,zjr,zaP,zK,ziD,dm,dm1,zH,zaI,zkw,zkv,keepO,Q0,Q1,Q2,Q3,Q4,Q5,zbg,zA,zC,zZ,zad,Q6,Q7,Q8,Q9,Q10,Q11,Q12,Q13,Q14,Nat.reduceAdd,Q15,Int.reduceToNat,Q16,Q17,Q18,Q19,Q20,reduceIte,Q21,Q22,zy,rep,zaq,zil,toD,zaD,Q23,Q24,Q25,Q26,Q27,Q28,Nat.reduceLeDiff,Q29,Nat.reduceSub,Q30,Q31,Q32,sc,Q33,Q34,Q35,Q36,Q37,Q26,Q38,Q39,zvP,zvM,zvJ,zvQ,zkt,zvN,zvK,zvO,zvL,zks,zku,zwb,zwc,Bool.not_true,Bool.not_false,List.length_map,Bool.and_false,Bool.and_self,Bool.false_and,Bool.not_false,Bool.not_true,Bool.true_and,Int.toNat_natCast,Int.toNat_zero,List.drop_zero,List.length_map,List.length_nil,List.nil_append,List.take_length,Nat.sub_zero,Nat.zero_add,Option.isSome_none,Option.isSome_some,Option.map_none,Option.map_some,zaj,beq_self_eq_true,bft,bne_self_eq_false,btf,a]|with_reducible refine zxa ?_|fail);exact h.go):P:=e a ⟨h⟩
theorem c_askCert {id:Nat}{e:Int}{c:zjs}(hσ:σ[id]? = some (zfr e))(hl0:c.signs.length<=1073741824){K:KT}(hK:K (.tup []) (σ.set id (zfr (znU e (zav (zbz c)))))) :
  zP zbR [.box id 0,zhJ c] σ K:=by
 refine zec zpZ fun hl=>?_;have hlen:(zat c.signs).length=c.signs.length:=List.length_map ..;simp only[zjI,iN,bT,bF,eN,zhJ];have hB:∀X,(σ.set id X++[AObj.box [AV.d (D.int .i64 c.seq),AV.d (D.int .i64 c.dig),AV.d (D.slice (zat c.signs))]])[σ.length]? = some (AObj.box [AV.d (D.int .i64 c.seq),AV.d (D.int .i64 c.dig),AV.d (D.slice (zat c.signs))]):=fun X=>by
  rw[List.getElem?_append_right (by simp)];simp
 have hS:∀E τ,(σ.set id (zfr E)++τ)[id]? = some (zfr E):=fun E τ=>zi (zdr hσ);have hP:∀E Y τ,(σ.set id (zfr E)++τ).set id Y=σ.set id Y++τ:=fun E Y τ=>by rw[zdk (zdr hσ),List.set_set]
 have e4:znU e (zav (zbz c))=znU (znU (znU (znU e (zeR c.seq)) (zeR c.dig)) (zfc c)) (zav (zco c.signs)):=by
  simp only[zbz,zav,znU];by_cases h0:e=0
  ·by_cases h1:zeR c.seq=0
   ·by_cases h2:zeR c.dig=0
    ·by_cases h3:zfc c=0
     ·simp[h0,h1,h2,h3]
     ·simp[h0,h1,h2,h3]
    ·simp[h0,h1,h2]
   ·simp[h0,h1]
  ·simp[h0]
 rw[e4]at hK;refine zG ?_;refine zAC (zi hσ) ?_;rw[zdk hσ];refine zm hB ?_;refine zAC (hS _ _) ?_;rw[hP];obtain⟨E,hE⟩:∃E,znU (znU e (zeR c.seq)) (zeR c.dig)=E:=⟨_,rfl⟩;rw[hE]at hK ⊢;have tail:∀M,M=zfc c->zP zaX [.box id 0,.d (.slice (zat c.signs))] (σ.set id (zfr (znU E M))++[AObj.box [AV.d (D.int .i64 c.seq),AV.d (D.int .i64 c.dig),AV.d (D.slice (zat c.signs))]]) fun _ s=>AW.Ends σ.length K (some []) s:=fun M hM=>by
  subst hM;refine zyV (hS _ _) hl0 ?_;rw[hP];exact zeL (by simp[zcm,dmT,zbw]) hl (ziM _ _) hK
 have no:zfc c=100->zP zE [.box id 0,.d (.int .i64 100)] (σ.set id (zfr E)++[AObj.box [AV.d (D.int .i64 c.seq),AV.d (D.int .i64 c.dig),AV.d (D.slice (zat c.signs))]]) fun _ s=>fl 2 (.box σ.length 0) s fun g s=>cA Tryz.prog zaX [.box id 0,g] s fun _ s=>AW.Ends σ.length K (some []) s:=fun h=>by
  refine c_says (hS _ _) ?_;rw[hP];refine zm hB ?_;exact tail 100 h.symm
 have yes:zfc c=0->zP zaX [.box id 0,.d (.slice (zat c.signs))] (σ.set id (zfr E)++[AObj.box [AV.d (D.int .i64 c.seq),AV.d (D.int .i64 c.dig),AV.d (D.slice (zat c.signs))]]) fun _ s=>AW.Ends σ.length K (some []) s:=fun h=>by
  have:=tail 0 h.symm;rw[thn_0]at this;exact this
 cases h1:(c.seq==0)
 ·cases h2:(c.dig==0)
  ·refine zkZ (zd hB (zd h1 h2)) ?_;exact yes (by simp at h1 h2;simp[zfc,h1,h2])
  ·refine zkZ (zd hB (zd h1 h2)) ?_;exact no (by simp at h1 h2;simp[zfc,h1,h2])
 ·cases h2:(c.dig==0)
  ·refine zkZ (zd hB (zd h1 h2)) ?_;exact no (by simp at h1 h2;simp[zfc,h1,h2])
  ·cases h3:decide ((c.signs.length:Int)>0)
   ·refine zkZ (zd hB (zd h1 (zd h2 (zd hlen h3)))) ?_;exact yes (by simp at h1 h2 h3;simp[zfc,h1,h2,h3])
   ·refine zkZ (zd hB (zd h1 (zd h2 (zd hlen h3)))) ?_;exact no (by simp only[beq_iff_eq,decide_eq_true_eq]at h1 h2 h3;rw[zfc,if_pos (.inr ⟨h1,by omega⟩)])
structure zqL (p:zfi):Prop where
 topic:p.topic.length<=16777216
 rec_:p.rec_.length<=16777216
 headers:p.headers.length<=1073741824
 path:p.path.length<=1073741824
 signs:p.cert.signs.length<=1073741824
 off:zqm p.offset
 index:zqm p.index
 count:zqm p.count
 paths:∀x∈p.path,zqm x
abbrev zom (p:zfi):AObj:=.box [.d (.str p.topic),.d (.int .i64 p.offset),.d (.slice (bcs p.rec_)),.d (.slice (zmt p.headers)),.d (.int .i64 p.index),.d (.int .i64 p.count),.d (.slice (zhV p.path)),.d (.int .i64 p.cert.seq),.d (.int .i64 p.cert.dig),.d (.slice (zat p.cert.signs))]
theorem thnE_app (e:Int)(a b:List Int):znU (znU e (zav a)) (zav b)=znU e (zav (a++b)):=by
 rw[zeD];unfold znU;by_cases h:e=0
 ·by_cases h2:zav a=0
  ·simp[h,h2]
  ·simp[h,h2]
 ·simp[h]
theorem thnE_app1 (e:Int)(a:List Int)(x:Int):znU (znU e (zav a)) x=znU e (zav (a++[x])):=by
 have:x=zav [x]:=by simp only[zav];split<;>simp_all
 conv=>lhs;rw[this]
 exact thnE_app e a [x]
theorem thnE_z (x:Int):znU 0 x=x:=by simp[znU]
theorem zpm (l:List Int)(x:Int):znU (zav l) x=zav (l++[x]):=by rw[← thnE_z (zav l),thnE_app1,thnE_z]
variable {σ:List AObj}
theorem gq21 {A P Q:Prop}(a:A)(h:Q)(e:A->Hd Q->P:=by intro a h;(repeat' first|simp -dsimp only[↓zmg,↓zcf,↓zep,↓zmh,↓zmb,↓zlZ,↓zmc,↓zma,↓zeu,↓zeq,↓zev,↓zer,↓zmd,↓zeo,↓zew,↓zes,↓zex,↓zet,↓zlY,↓zmf,↓zen,↓zey,↓zlW,↓zlV,↓zlX,iN,bT,bF,eN,↓zeO,↓unC,↓zaE,↓zan,↓zao,↓zaA,↓zbf,↓zah,↓zgR,↓zaz,↓zbe,↓zae,↓ze,↓zl,↓zbc,↓zc,↓zaY,↓zM,↓zce,↓zcB,↓zf,↓zF,↓zr,↓zN,↓zaC,↓zgY,↓zhU,↓zbi,↓zbJ,↓zcj,↓zcM,↓zdG,↓zL,↓zbh,↓zap,↓zR,↓zbb,zhS,zdY,zdS,unA,zgE,bnd,zjr,zaP,zK,ziD,dm,dm1,zH,zaI,zkw,zkv,keepO,Q0,Q1,Q2,Q3,Q4,Q5,zbg,zA,zC,zZ,zad,Q6,Q7,Q8,Q9,Q10,Q11,Q12,Q13,Q14,Nat.reduceAdd,Q15,Int.reduceToNat,Q16,Q17,Q18,Q19,Q20,reduceIte,Q21,Q22,zy,rep,zaq,zil,toD,zaD,Q23,Q24,Q25,Q26,Q27,Q28,Nat.reduceLeDiff,Q29,Nat.reduceSub,Q30,Q31,Q32,sc,Q33,Q34,Q35,Q36,Q37,Q26,Q38,Q39,zvP,zvM,zvJ,zvQ,zkt,zvN,zvK,zvO,zvL,zks,zku,zwb,zwc,Bool.not_true,Bool.not_false,List.length_map,Bool.and_false,Bool.and_self,Bool.false_and,Bool.not_false,Bool.not_true,Bool.true_and,Int.toNat_natCast,Int.toNat_zero,List.drop_zero,List.length_map,List.length_nil,List.nil_append,List.take_length,Nat.sub_zero,Nat.zero_add,Option.isSome_none,Option.isSome_some,Option.map_none,Option.map_some,zaj,beq_self_eq_true,bft,bne,bne_self_eq_false,btf,zck,zhJ,zag,zdg,zrY,zcl,zor,opA,opD,zfx,zgo,zjj,zaw,a]|with_reducible refine zxa ?_|fail);exact h.go):P:=e a ⟨h⟩
theorem c_eqSign {a b:List zI}(ha1:a.length<=1073741824){K:KT}(hK:K (.d (.bool (decide (a=b)))) σ) :
  zP zbB [.d (.slice (zat a)),.d (.slice (zat b))] σ K:=by
 refine zec zhW fun hl=>?_;have fin:∀z,decide (a=b)=z->K (.d (.bool z)) σ:=fun z h=>h▸hK;clear hK;simp only[zek,iN,bT,bF,eN];cases hl0:((a.length:Int) != (b.length:Int));rotate_left
 ·refine zm hl0 ?_;refine zu hl ?_;refine fin _ (decide_eq_false fun h=>?_);rw[h]at hl0;simp at hl0
 have hl2:a.length=b.length:=by simp at hl0;omega
 refine zm hl0 ?_;refine zn a.length (fun k vs s=>vs=[.d (.int .i64 k)]/\(∃T,s=σ++T)/\a.take k=b.take k) ⟨rfl,⟨[],by simp⟩,by simp⟩ ?_;rintro k vs s hk ⟨rfl,⟨T,rfl⟩,htk⟩;by_cases hlt:k<a.length
 ·have hd:decide ((k:Int)<(a.length:Int))=true:=by simp;omega
  have hx:a[k]? = some a[k]:=by simp[hlt]
  have hy:b[k]? = some (b[k]'(by omega)):=List.getElem?_eq_getElem _;have hgx:=zQ (f:=zgo) hx;have hgy:=zQ (f:=zgo) hy;obtain⟨x,hxe⟩:∃x,a[k]=x:=⟨_,rfl⟩;obtain⟨y,hye⟩:∃y,(b[k]'(by omega))=y:=⟨_,rfl⟩;rw[hxe]at hx hgx;rw[hye]at hy hgy;obtain⟨S,hS⟩:∃S,σ++T=S:=⟨_,rfl⟩;rw[hS];have hxy:x=y↔((x.key==y.key&&x.dig==y.dig))=true:=by cases x;cases y;simp
  cases h2:((x.key==y.key&&x.dig==y.dig))
  ·refine gq21 (zd hd (zd hgx (zd hgy h2))) ?_;rw[← hS];refine zu hl ?_;refine fin _ (decide_eq_false fun h=>?_);subst h;rw[hx]at hy;rw[hxy.1 (Option.some.inj hy)]at h2;cases h2
  ·refine gq21 (zd hd (zd hgx (zd hgy (zd h2 (wk1 k (by omega)))))) ?_;exact zaK.next hlt ⟨rfl,⟨_,hS.symm⟩,zbs hx hy htk (hxy.2 h2)⟩
 ·have hd:decide ((k:Int)<(a.length:Int))=false:=by simp;omega
  refine zm hd ?_;refine zu hl ?_;exact fin _ (decide_eq_true (zcv hl2 (k:=k) (by omega) htk))
theorem c_eqHdr {a b:List zsJ}(ha1:a.length<=1073741824){K:KT}(hK:K (.d (.bool (decide (a=b)))) σ) :
  zP zbV [.d (.slice (zmt a)),.d (.slice (zmt b))] σ K:=by
 refine zec zgF fun hl=>?_;have fin:∀z,decide (a=b)=z->K (.d (.bool z)) σ:=fun z h=>h▸hK;clear hK;simp only[zdt,iN,bT,bF,eN];cases hl0:((a.length:Int) != (b.length:Int));rotate_left
 ·refine zm hl0 ?_;refine zu hl ?_;refine fin _ (decide_eq_false fun h=>?_);rw[h]at hl0;simp at hl0
 have hl2:a.length=b.length:=by simp at hl0;omega
 refine zm hl0 ?_;refine zn a.length (fun k vs s=>vs=[.d (.int .i64 k)]/\(∃T,s=σ++T)/\a.take k=b.take k) ⟨rfl,⟨[],by simp⟩,by simp⟩ ?_;rintro k vs s hk ⟨rfl,⟨T,rfl⟩,htk⟩;by_cases hlt:k<a.length
 ·have hd:decide ((k:Int)<(a.length:Int))=true:=by simp;omega
  have hx:a[k]? = some a[k]:=by simp[hlt]
  have hy:b[k]? = some (b[k]'(by omega)):=List.getElem?_eq_getElem _;have hgx:=zQ (f:=zrY) hx;have hgy:=zQ (f:=zrY) hy;obtain⟨x,hxe⟩:∃x,a[k]=x:=⟨_,rfl⟩;obtain⟨y,hye⟩:∃y,(b[k]'(by omega))=y:=⟨_,rfl⟩;rw[hxe]at hx hgx;rw[hye]at hy hgy;obtain⟨S,hS⟩:∃S,σ++T=S:=⟨_,rfl⟩;rw[hS];have hxy:x=y↔((x.seq==y.seq&&(x.prev==y.prev&&(x.batch==y.batch&&(x.root==y.root&&x.state==y.state)))))=true:=by cases x;cases y;simp
  cases h2:((x.seq==y.seq&&(x.prev==y.prev&&(x.batch==y.batch&&(x.root==y.root&&x.state==y.state)))))
  ·refine gq21 (zd hd (zd hgx (zd hgy h2))) ?_;rw[← hS];refine zu hl ?_;refine fin _ (decide_eq_false fun h=>?_);subst h;rw[hx]at hy;rw[hxy.1 (Option.some.inj hy)]at h2;cases h2
  ·refine gq21 (zd hd (zd hgx (zd hgy (zd h2 (wk1 k (by omega)))))) ?_;exact zaK.next hlt ⟨rfl,⟨_,hS.symm⟩,zbs hx hy htk (hxy.2 h2)⟩
 ·have hd:decide ((k:Int)<(a.length:Int))=false:=by simp;omega
  refine zm hd ?_;refine zu hl ?_;exact fin _ (decide_eq_true (zcv hl2 (k:=k) (by omega) htk))
theorem c_eqDig {a b:List Int}(ha1:a.length<=1073741824){K:KT}(hK:K (.d (.bool (decide (a=b)))) σ) :
  zP zbW [.d (.slice (zhV a)),.d (.slice (zhV b))] σ K:=by
 refine zec zgG fun hl=>?_;have fin:∀z,decide (a=b)=z->K (.d (.bool z)) σ:=fun z h=>h▸hK;clear hK;simp only[zdu,iN,bT,bF,eN];cases hl0:((a.length:Int) != (b.length:Int));rotate_left
 ·refine zm hl0 ?_;refine zu hl ?_;refine fin _ (decide_eq_false fun h=>?_);rw[h]at hl0;simp at hl0
 have hl2:a.length=b.length:=by simp at hl0;omega
 refine zm hl0 ?_;refine zn a.length (fun k vs s=>vs=[.d (.int .i64 k)]/\(∃T,s=σ++T)/\a.take k=b.take k) ⟨rfl,⟨[],by simp⟩,by simp⟩ ?_;rintro k vs s hk ⟨rfl,⟨T,rfl⟩,htk⟩;by_cases hlt:k<a.length
 ·have hd:decide ((k:Int)<(a.length:Int))=true:=by simp;omega
  have hx:a[k]? = some a[k]:=by simp[hlt]
  have hy:b[k]? = some (b[k]'(by omega)):=List.getElem?_eq_getElem _;have hgx:=zQ (f:=fun t=>[D.int .i64 t]) hx;have hgy:=zQ (f:=fun t=>[D.int .i64 t]) hy;obtain⟨x,hxe⟩:∃x,a[k]=x:=⟨_,rfl⟩;obtain⟨y,hye⟩:∃y,(b[k]'(by omega))=y:=⟨_,rfl⟩;rw[hxe]at hx hgx;rw[hye]at hy hgy;obtain⟨S,hS⟩:∃S,σ++T=S:=⟨_,rfl⟩;rw[hS];have hxy:x=y↔(x==y)=true:=by simp
  cases h2:(x==y)
  ·refine gq21 (zd hd (zd hgx (zd hgy h2))) ?_;rw[← hS];refine zu hl ?_;refine fin _ (decide_eq_false fun h=>?_);subst h;rw[hx]at hy;rw[hxy.1 (Option.some.inj hy)]at h2;cases h2
  ·refine gq21 (zd hd (zd hgx (zd hgy (zd h2 (wk1 k (by omega)))))) ?_;exact zaK.next hlt ⟨rfl,⟨_,hS.symm⟩,zbs hx hy htk (hxy.2 h2)⟩
 ·have hd:decide ((k:Int)<(a.length:Int))=false:=by simp;omega
  refine zm hd ?_;refine zu hl ?_;exact fin _ (decide_eq_true (zcv hl2 (k:=k) (by omega) htk))
structure zqK (p:zjU):Prop where
 signs:p.signs.length<=1073741824
 batch:zgv p.batch
structure zjL (c:zbl):Prop where
 signs:c.cert.signs.length<=1073741824
 above:c.above.length<=1073741824
 each:∀p∈c.above,zqK p
def zvu (x:zhO):Prop:=zgv x.batch
abbrev entryA (x:zhO):AV:=.agg [.d (.int .i64 x.view),.d (.int .i64 x.seq),.d (.slice (zbA x.batch)),.d (.int .i64 x.key),.d (.int .i64 x.dig)]
theorem zrv {a b:zjs}(ha:a.signs.length<=1073741824){K:KT}(hK:K (.d (.bool (decide (a=b)))) σ):zP zdX [zhJ a,zhJ b] σ K:=by
 refine zec zsh fun hl=>?_;have fin:∀z,decide (a=b)=z->K (.d (.bool z)) σ:=fun z h=>h▸hK;clear hK;simp only[zly,iN,bT,bF,eN];cases h1:(a.seq==b.seq)
 ·refine zm h1 ?_;refine zu hl ?_;exact fin _ (decide_eq_false fun h=>by subst h;simp at h1)
 cases h2:(a.dig==b.dig)
 ·refine zm (zd h1 h2) ?_;refine zu hl ?_;exact fin _ (decide_eq_false fun h=>by subst h;simp at h2)
 refine zm (zd h1 h2) ?_;refine c_eqSign ha ?_;cases h3:decide (a.signs=b.signs)
 ·refine zG ?_;refine zu hl ?_;exact fin _ (decide_eq_false fun h=>by subst h;simp at h3)
 ·refine zG ?_;refine zu hl ?_;exact fin _ (decide_eq_true (by cases a;cases b;simp_all))
theorem c_mSamePrep {a b:zjU}(ha:zqK a)(hb:zqK b){K:KT}(hK:K (.d (.bool (decide (a=b)))) σ) :
  zP zdO [.agg [.d (.int .i64 a.view),.d (.int .i64 a.seq),.d (.int .i64 a.dig),.d (.int .i64 a.fkey),.d (.int .i64 a.fdig),.d (.slice (zat a.signs)),.d (.slice (zbA a.batch))],.agg [.d (.int .i64 b.view),.d (.int .i64 b.seq),.d (.int .i64 b.dig),.d (.int .i64 b.fkey),.d (.int .i64 b.fdig),.d (.slice (zat b.signs)),.d (.slice (zbA b.batch))]] σ K:=by
 refine zec zob fun hl=>?_;have fin:∀z,decide (a=b)=z->K (.d (.bool z)) σ:=fun z h=>h▸hK;clear hK;simp only[zii,iN,bT,bF,eN];cases h1:(a.view==b.view)
 ·refine zm h1 ?_;refine zu hl ?_;exact fin _ (decide_eq_false fun h=>by subst h;simp at h1)
 cases h2:(a.seq==b.seq)
 ·refine zm (zd h1 h2) ?_;refine zu hl ?_;exact fin _ (decide_eq_false fun h=>by subst h;simp at h2)
 cases h3:(a.dig==b.dig)
 ·refine zm (zd h1 (zd h2 h3)) ?_;refine zu hl ?_;exact fin _ (decide_eq_false fun h=>by subst h;simp at h3)
 cases h4:(a.fkey==b.fkey&&a.fdig==b.fdig)
 ·refine zdy (zd h1 (zd h2 (zd h3 h4))) ?_;refine zu hl ?_;exact fin _ (decide_eq_false fun h=>by subst h;simp at h4)
 refine zdy (zd h1 (zd h2 (zd h3 h4))) ?_;refine c_eqSign ha.signs ?_;cases h5:decide (a.signs=b.signs)
 ·refine zG ?_;refine zu hl ?_;exact fin _ (decide_eq_false fun h=>by subst h;simp at h5)
 refine zG ?_;refine zwK ha.batch hb.batch ?_;cases h6:decide (a.batch=b.batch)
 ·refine zG ?_;refine zu hl ?_;exact fin _ (decide_eq_false fun h=>by subst h;simp at h6)
 ·refine zG ?_;refine zu hl ?_;exact fin _ (decide_eq_true (by cases a;cases b;simp_all))
theorem c_eqPreps {a b:List zjU}(ha1:a.length<=1073741824)(ha2:∀x∈a,zqK x)(hb2:∀x∈b,zqK x){K:KT}(hK:K (.d (.bool (decide (a=b)))) σ) :
  zP zac [.d (.slice (zft a)),.d (.slice (zft b)),.fn (.func zdO) [] []] σ K:=by
 refine acE3 zbT fun hl=>?_;have fin:∀z,decide (a=b)=z->K (.d (.bool z)) σ:=fun z h=>h▸hK;clear hK;simp only[zaL,iN,bT,bF,eN,zl7];cases hl0:((a.length:Int) != (b.length:Int));rotate_left
 ·refine zm hl0 ?_;refine zu hl ?_;refine fin _ (decide_eq_false fun h=>?_);rw[h]at hl0;simp at hl0
 have hl2:a.length=b.length:=by simp at hl0;omega
 refine zm hl0 ?_;refine zn a.length (fun k vs s=>vs=[.d (.int .i64 k)]/\(∃T,s=σ++T)/\a.take k=b.take k) ⟨rfl,⟨[],by simp⟩,by simp⟩ ?_;rintro k vs s hk ⟨rfl,⟨T,rfl⟩,htk⟩;by_cases hlt:k<a.length
 ·have hd:decide ((k:Int)<(a.length:Int))=true:=by simp;omega
  have hx:a[k]? = some a[k]:=by simp[hlt]
  have hy:b[k]? = some (b[k]'(by omega)):=List.getElem?_eq_getElem _;have hgx:=zQ (f:=zfx) hx;have hgy:=zQ (f:=zfx) hy;have hxs:=ha2 _ (List.getElem_mem hlt);have hys:=hb2 _ (List.getElem_mem (show k<b.length by omega));obtain⟨x,hxe⟩:∃x,a[k]=x:=⟨_,rfl⟩;obtain⟨y,hye⟩:∃y,(b[k]'(by omega))=y:=⟨_,rfl⟩;rw[hxe]at hx hgx hxs;rw[hye]at hy hgy hys;obtain⟨S,hS⟩:∃S,σ++T=S:=⟨_,rfl⟩;rw[hS];refine zdy (zd hd (zd hgx hgy)) ?_;refine c_mSamePrep (a:=x) (b:=y) hxs hys ?_;cases he:decide (x=y)
  ·refine zm hd ?_;rw[← hS,List.append_assoc];refine zu hl ?_;refine fin _ (decide_eq_false fun h=>?_);subst h;rw[hx]at hy;have:=Option.some.inj hy;simp[this]at he
  ·refine zm (wk1 k (by omega)) ?_;exact zaK.next hlt ⟨rfl,⟨_,by rw[← hS,List.append_assoc]⟩,zbs hx hy htk (by simpa using he)⟩
 ·have hd:decide ((k:Int)<(a.length:Int))=false:=by simp;omega
  refine zm hd ?_;refine zu hl ?_;exact fin _ (decide_eq_true (zcv hl2 (k:=k) (by omega) htk))
theorem zAx {a b:zbl}(ha:zjL a)(hb:zjL b){K:KT}(hK:K (.d (.bool (decide (a=b)))) σ) :
  zP zeB [.agg [.d (.int .i64 a.view),.d (.int .i64 a.src),.d (.int .i64 a.cert.seq),.d (.int .i64 a.cert.dig),.d (.slice (zat a.cert.signs)),.d (.slice (zft a.above)),.d (.int .i64 a.key),.d (.int .i64 a.dig)],.agg [.d (.int .i64 b.view),.d (.int .i64 b.src),.d (.int .i64 b.cert.seq),.d (.int .i64 b.cert.dig),.d (.slice (zat b.cert.signs)),.d (.slice (zft b.above)),.d (.int .i64 b.key),.d (.int .i64 b.dig)]] σ K:=by
 refine zec zpU fun hl=>?_;have fin:∀z,decide (a=b)=z->K (.d (.bool z)) σ:=fun z h=>h▸hK;clear hK;simp only[zjD,iN,bT,bF,eN];cases h1:(a.view==b.view)
 ·refine zm h1 ?_;refine zu hl ?_;exact fin _ (decide_eq_false fun h=>by subst h;simp at h1)
 cases h2:(a.src==b.src)
 ·refine zm (zd h1 h2) ?_;refine zu hl ?_;exact fin _ (decide_eq_false fun h=>by subst h;simp at h2)
 refine zm (zd h1 h2) ?_;refine zrv (a:=a.cert) (b:=b.cert) ha.signs ?_;cases h3:decide (a.cert=b.cert)
 ·refine zG ?_;refine zu hl ?_;exact fin _ (decide_eq_false fun h=>by subst h;simp at h3)
 refine zG ?_;refine c_eqPreps ha.above ha.each hb.each ?_;cases h4:decide (a.above=b.above)
 ·refine zG ?_;refine zu hl ?_;exact fin _ (decide_eq_false fun h=>by subst h;simp at h4)
 cases h5:(a.key==b.key&&a.dig==b.dig)
 ·refine zdy h5 ?_;refine zu hl ?_;exact fin _ (decide_eq_false fun h=>by subst h;simp at h5)
 ·refine zdy h5 ?_;refine zu hl ?_;exact fin _ (decide_eq_true (by cases a;cases b;simp_all))
theorem c_eqChanges {a b:List zbl}(ha1:a.length<=1073741824)(ha2:∀x∈a,zjL x)(hb2:∀x∈b,zjL x){K:KT}(hK:K (.d (.bool (decide (a=b)))) σ) :
  zP zal [.d (.slice (zam a)),.d (.slice (zam b)),.fn (.func zeB) [] []] σ K:=by
 refine acE3 zcD fun hl=>?_;have fin:∀z,decide (a=b)=z->K (.d (.bool z)) σ:=fun z h=>h▸hK;clear hK;simp only[zba,iN,bT,bF,eN,zl6];cases hl0:((a.length:Int) != (b.length:Int));rotate_left
 ·refine zm hl0 ?_;refine zu hl ?_;refine fin _ (decide_eq_false fun h=>?_);rw[h]at hl0;simp at hl0
 have hl2:a.length=b.length:=by simp at hl0;omega
 refine zm hl0 ?_;refine zn a.length (fun k vs s=>vs=[.d (.int .i64 k)]/\(∃T,s=σ++T)/\a.take k=b.take k) ⟨rfl,⟨[],by simp⟩,by simp⟩ ?_;rintro k vs s hk ⟨rfl,⟨T,rfl⟩,htk⟩;by_cases hlt:k<a.length
 ·have hd:decide ((k:Int)<(a.length:Int))=true:=by simp;omega
  have hx:a[k]? = some a[k]:=by simp[hlt]
  have hy:b[k]? = some (b[k]'(by omega)):=List.getElem?_eq_getElem _;have hgx:=zQ (f:=zag) hx;have hgy:=zQ (f:=zag) hy;have hxs:=ha2 _ (List.getElem_mem hlt);have hys:=hb2 _ (List.getElem_mem (show k<b.length by omega));obtain⟨x,hxe⟩:∃x,a[k]=x:=⟨_,rfl⟩;obtain⟨y,hye⟩:∃y,(b[k]'(by omega))=y:=⟨_,rfl⟩;rw[hxe]at hx hgx hxs;rw[hye]at hy hgy hys;obtain⟨S,hS⟩:∃S,σ++T=S:=⟨_,rfl⟩;rw[hS];refine zdy (zd hd (zd hgx hgy)) ?_;refine zAx (a:=x) (b:=y) hxs hys ?_;cases he:decide (x=y)
  ·refine zm hd ?_;rw[← hS,List.append_assoc];refine zu hl ?_;refine fin _ (decide_eq_false fun h=>?_);subst h;rw[hx]at hy;have:=Option.some.inj hy;simp[this]at he
  ·refine zm (wk1 k (by omega)) ?_;exact zaK.next hlt ⟨rfl,⟨_,by rw[← hS,List.append_assoc]⟩,zbs hx hy htk (by simpa using he)⟩
 ·have hd:decide ((k:Int)<(a.length:Int))=false:=by simp;omega
  refine zm hd ?_;refine zu hl ?_;exact fin _ (decide_eq_true (zcv hl2 (k:=k) (by omega) htk))
theorem c_mSameEntry {a b:zhO}(ha:zvu a)(hb:zvu b){K:KT}(hK:K (.d (.bool (decide (a=b)))) σ) :
  zP zeX [entryA a,entryA b] σ K:=by
 refine zec zri fun hl=>?_;have fin:∀z,decide (a=b)=z->K (.d (.bool z)) σ:=fun z h=>h▸hK;clear hK;simp only[zkR,iN,bT,bF,eN];cases h1:(a.view==b.view)
 ·refine zm h1 ?_;refine zu hl ?_;exact fin _ (decide_eq_false fun h=>by subst h;simp at h1)
 cases h2:(a.seq==b.seq)
 ·refine zm (zd h1 h2) ?_;refine zu hl ?_;exact fin _ (decide_eq_false fun h=>by subst h;simp at h2)
 refine zm (zd h1 h2) ?_;refine zwK ha hb ?_;cases h3:decide (a.batch=b.batch)
 ·refine zG ?_;refine zu hl ?_;exact fin _ (decide_eq_false fun h=>by subst h;simp at h3)
 cases h5:(a.key==b.key&&a.dig==b.dig)
 ·refine zdy h5 ?_;refine zu hl ?_;exact fin _ (decide_eq_false fun h=>by subst h;simp at h5)
 ·refine zdy h5 ?_;refine zu hl ?_;exact fin _ (decide_eq_true (by cases a;cases b;simp_all))
theorem c_eqEntries {a b:List zhO}(ha1:a.length<=1073741824)(ha2:∀x∈a,zvu x)(hb2:∀x∈b,zvu x){K:KT}(hK:K (.d (.bool (decide (a=b)))) σ) :
  zP zax [.d (.slice (zbq a)),.d (.slice (zbq b)),.fn (.func zeX) [] []] σ K:=by
 refine acE3 zcW fun hl=>?_;have fin:∀z,decide (a=b)=z->K (.d (.bool z)) σ:=fun z h=>h▸hK;clear hK;simp only[zbk,iN,bT,bF,eN];cases hl0:((a.length:Int) != (b.length:Int));rotate_left
 ·refine zm hl0 ?_;refine zu hl ?_;refine fin _ (decide_eq_false fun h=>?_);rw[h]at hl0;simp at hl0
 have hl2:a.length=b.length:=by simp at hl0;omega
 refine zm hl0 ?_;refine zn a.length (fun k vs s=>vs=[.d (.int .i64 k)]/\(∃T,s=σ++T)/\a.take k=b.take k) ⟨rfl,⟨[],by simp⟩,by simp⟩ ?_;rintro k vs s hk ⟨rfl,⟨T,rfl⟩,htk⟩;by_cases hlt:k<a.length
 ·have hd:decide ((k:Int)<(a.length:Int))=true:=by simp;omega
  have hx:a[k]? = some a[k]:=by simp[hlt]
  have hy:b[k]? = some (b[k]'(by omega)):=List.getElem?_eq_getElem _;have hgx:=zQ (f:=zdg) hx;have hgy:=zQ (f:=zdg) hy;have hxs:=ha2 _ (List.getElem_mem hlt);have hys:=hb2 _ (List.getElem_mem (show k<b.length by omega));obtain⟨x,hxe⟩:∃x,a[k]=x:=⟨_,rfl⟩;obtain⟨y,hye⟩:∃y,(b[k]'(by omega))=y:=⟨_,rfl⟩;rw[hxe]at hx hgx hxs;rw[hye]at hy hgy hys;obtain⟨S,hS⟩:∃S,σ++T=S:=⟨_,rfl⟩;rw[hS];refine zdy (zd hd (zd hgx hgy)) ?_;refine c_mSameEntry (a:=x) (b:=y) hxs hys ?_;cases he:decide (x=y)
  ·refine zm hd ?_;rw[← hS,List.append_assoc];refine zu hl ?_;refine fin _ (decide_eq_false fun h=>?_);subst h;rw[hx]at hy;have:=Option.some.inj hy;simp[this]at he
  ·refine zm (wk1 k (by omega)) ?_;exact zaK.next hlt ⟨rfl,⟨_,by rw[← hS,List.append_assoc]⟩,zbs hx hy htk (by simpa using he)⟩
 ·have hd:decide ((k:Int)<(a.length:Int))=false:=by simp;omega
  refine zm hd ?_;refine zu hl ?_;exact fin _ (decide_eq_true (zcv hl2 (k:=k) (by omega) htk))
end Go.Proofs.YtdgcepphjnoalaaGreat
