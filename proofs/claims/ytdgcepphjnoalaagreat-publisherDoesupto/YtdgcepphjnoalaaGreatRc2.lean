/- Contracts: what is wrong with batches, on both sides. -/
import Derived.Test.YtdgcepphjnoalaaGreatOpC
import Derived.Test.YtdgcepphjnoalaaGreatOp2
import Derived.Test.YtdgcepphjnoalaaGreatSh
set_option linter.all false
set_option maxRecDepth 100000
namespace Go.Proofs.YtdgcepphjnoalaaGreat
open Go.AW
variable {σ:List AObj} {K:KT}
theorem wk1 (k:Nat)(h:k<=1073741824):IntKind.i64.wrap ((k:Int)+1)=((k+1:Nat):Int):=by rw[zaW (by omega) (by omega)];rfl
theorem zdV {A P Q:Prop}(a:A)(h:Q)(e:A->Hd Q->P:=by intro a h;(repeat' first|simp -dsimp only[↓zlG,↓zbS,↓zee,↓zlH,↓zly,↓zlw,↓zlz,↓zlx,↓zej,↓zef,↓zek,↓zeg,↓zlA,↓zeb,↓zel,↓zeh,↓zem,↓zei,↓zlv,↓zlE,↓zea,↓zep,↓zln,↓zlm,↓zlt,iN,bT,bF,eN,↓zes,↓unC,↓zaB,↓zah,↓zai,↓zav,↓zaX,↓zag,↓zgA,↓zaw,↓zbf,↓zad,↓ze,↓zj,↓zaR,↓zc,↓zaV,↓zN,↓zbT,↓zcl,↓zf,↓zF,↓zp,↓zM,↓zaA,↓zgH,↓zhI,↓zbc,↓zby,↓zcf,↓zcA,↓zdo,↓zJ,↓zbb,↓zak,↓zO,↓zaU,zhr,zdU,zdB,unA,zgx,bnd,ziS,zaO,zL,zic,dm,dm1,zH,zaF,zjW,zjV,keepO,Q0,Q1,Q2,Q3,Q4,Q5,zba,zA,zB,zY,zab,Q6,Q7,Q8,Q9,Q10,Q11,Q12,Q13,Q14,Nat.reduceAdd,Q15,Int.reduceToNat,Q16,Q17,Q18,Q19,Q20,reduceIte,Q21,Q22,zy,rep,zaq,zhW,toD,zaC,Q23,Q24,Q25,Q26,Q27,Q28,Nat.reduceLeDiff,Q29,Nat.reduceSub,Q30,Q31,Q32,sc,Q33,Q34,Q35,Q36,Q37,Q26,Q38,Q39,zuF,zuC,zuz,zuG,zjv,zuD,zuA,zuE,zuB,zju,zjw,zuI,zuJ,Bool.not_true,Bool.not_false,List.length_map,Bool.and_false,Bool.and_self,Bool.false_and,Bool.not_false,Bool.not_true,Bool.true_and,Int.toNat_natCast,Int.toNat_zero,List.drop_zero,List.length_map,List.length_nil,List.nil_append,List.take_length,Nat.sub_zero,Nat.zero_add,Option.isSome_none,Option.isSome_some,Option.map_none,Option.map_some,zam,beq_self_eq_true,bne_self_eq_false,zck,zaj,zdI,zch,opA,opD,zgb,zgX,zir,zaD,a]|with_reducible refine zuX ?_|fail);exact h.go):P:=e a ⟨h⟩
theorem zjb {b:List zr}(hb:okB b)(hK:K (.d (.int .i64 (zD b))) σ):zP zbP [.d (.slice (zbz b))] σ K:=by
 refine zeA zpT fun hl=>?_;have fin:∀z,zD b=z->K (.d (.int .i64 z)) σ:=fun z h=>h▸hK;clear hK;obtain⟨hb1,hb2⟩:=hb;simp only[zjF,iN,bT,bF,eN,zl1];cases h4:decide ((b.length:Int)>4);rotate_left
 ·refine zm h4 ?_;refine zu hl ?_;exact fin _ (by rw[zD,if_pos (by simp at h4;omega)])
 have h4':¬b.length>4:=by simp at h4;omega
 refine zm h4 ?_;refine zn b.length (fun k vs s=>vs=[.d (.int .i64 k)]/\(∃T,s=σ++T)/\znZ (b.take k)=0) ⟨rfl,⟨[],by simp⟩,rfl⟩ ?_;rintro k vs s hk ⟨rfl,⟨T,rfl⟩,he⟩;by_cases hlt:k<b.length
 ·have hd:decide ((k:Int)<(b.length:Int))=true:=by simp;omega
  have hx:b[k]? = some b[k]:=by simp[hlt]
  have hbx:=hb2 _ (List.getElem_mem hlt);have hgx:=zR (f:=zaD) hx;obtain⟨x,hxe⟩:∃x,b[k]=x:=⟨_,rfl⟩;rw[hxe]at hx hgx hbx;have bad:zyJ x≠0->K (.d (.int .i64 (zyJ x))) σ:=fun h=>fin _ (by rw[zD,if_neg h4',if_pos (by rw[zpH hx he h];exact h)];exact zpH hx he h);refine zdV (zd hd hgx) ?_;refine c_rqCheck (x:=x) hbx ?_;cases h1:(zT x != 0);rotate_left
  ·have h1':zT x≠0:=by simpa using h1
   refine zm h1 ?_;refine zu hl ?_;have e:zyJ x=zT x:=by rw[zyJ,if_pos h1']
   rw[e]at bad;exact bad h1'
  refine zm h1 ?_;have h1':¬zT x≠0:=by simpa using h1
  have e:zyJ x=zx x.key x.dig:=by rw[zyJ,if_neg h1']
  refine zbM ?_;cases h2:(zx x.key x.dig != 0);rotate_left
  ·refine zm h2 ?_;refine zu hl ?_;rw[e]at bad;exact bad (by simpa using h2)
  refine zm (zd h2 (wk1 k (by omega))) ?_;exact zaK.next hlt ⟨rfl,⟨_,rfl⟩,zyI hx he (by rw[e];simpa using h2)⟩
 ·have hn:k=b.length:=by omega
  subst hn;rw[List.take_length]at he;have hd:decide ((b.length:Int)<(b.length:Int))=false:=by simp
  refine zm hd ?_;refine zn b.length (fun k vs s=>vs=[.d (.int .i64 k)]/\(∃T,s=σ++T)/\(b.take k).Pairwise ndup) ⟨rfl,⟨T,rfl⟩,by simp⟩ ?_;rintro k vs s hk' ⟨rfl,⟨T,rfl⟩,hp⟩;by_cases hlt:k<b.length
  ·have hd:decide ((k:Int)<(b.length:Int))=true:=by simp;omega
   have hx:b[k]? = some b[k]:=by simp[hlt]
   have hgx:=zR (f:=zaD) hx;obtain⟨x,hxe⟩:∃x,b[k]=x:=⟨_,rfl⟩;rw[hxe]at hx hgx;have htk:List.take k (List.map zaD b)=List.map zaD (b.take k):=by rw[List.map_take]
   have hlk:(b.take k).length=k:=by rw[List.length_take];omega
   refine zdV (zd hd (zd hgx (zd htk hlk))) ?_;refine⟨batch_nine b,?_⟩;refine zdV (zd hd (zd hgx (zd htk hlk))) ?_;refine zn k (fun j vs s=>vs=[.d (.int .i64 j)]/\(∃T',s=σ++(T++.box [.d (.int .i64 x.client),.d (.int .i64 x.time),.d (.int .i64 x.op.kind),.d (.str x.op.topic),.d (.str x.op.group),.d (.int .i64 x.op.offset),.d (.slice (zdT x.op.recs)),.d (.int .i64 x.key),.d (.int .i64 x.dig)]::T'))/\∀y∈b.take j,¬(x.client=y.client/\x.time=y.time)) ⟨rfl,⟨[],by simp⟩,by simp⟩ ?_;rintro j vs s hj ⟨rfl,⟨T',rfl⟩,hno⟩;by_cases hjk:j<k
   ·have hd:decide ((j:Int)<(k:Int))=true:=by simp;omega
    have hy:b[j]? = some (b[j]'(by omega)):=List.getElem?_eq_getElem _;have hy':(b.take k)[j]? = some (b[j]'(by omega)):=by rw[List.getElem?_take,if_pos hjk];exact hy
    have hgy:=zR (f:=zaD) hy';obtain⟨y,hye⟩:∃y,b[j]'(by omega)=y:=⟨_,rfl⟩;rw[hye]at hy hgy hy';have hyt:b.take (j+1)=b.take j++[y]:=by rw[List.take_add_one,hy];rfl
    have next:¬(x.client=y.client/\x.time=y.time)->∀z∈b.take (j+1),¬(x.client=z.client/\x.time=z.time):=fun h z hz=>by
     rw[hyt]at hz;rcases List.mem_append.1 hz with hz|hz
     ·exact hno z hz
     ·simp at hz;subst hz;exact h
    cases h1:(x.client==y.client)
    ·refine zdV (zd hd (zd htk (zd hlk (zd hgy (zd h1 (wk1 j (by omega))))))) ?_;exact zaK.next hjk ⟨rfl,⟨_,rfl⟩,next (by simp at h1;exact fun h=>h1 h.1)⟩
    cases h2:(x.time==y.time)
    ·refine zdV (zd hd (zd htk (zd hlk (zd hgy (zd h1 (zd h2 (wk1 j (by omega)))))))) ?_;exact zaK.next hjk ⟨rfl,⟨_,rfl⟩,next (by simp at h2;exact fun h=>h2 h.2)⟩
    ·refine zdV (zd hd (zd htk (zd hlk (zd hgy (zd h1 h2))))) ?_;refine zu hl ?_;have hnp:=pairs_not hx hy hjk ⟨by simpa using h1,by simpa using h2⟩;exact fin _ (by rw[zD,if_neg h4',if_neg (by simpa using he),if_neg hnp])
   ·have hd:decide ((j:Int)<(k:Int))=false:=by simp;omega
    have hn:j=k:=by omega
    subst hn;refine zm (zd hd (zd htk (zd hlk (wk1 j (by omega))))) ?_;exact zaK.next hlt ⟨rfl,⟨_,rfl⟩,zyn hx hp hno⟩
  ·have hd:decide ((k:Int)<(b.length:Int))=false:=by simp;omega
   refine zm hd ?_;refine zu hl ?_;have hn:k=b.length:=by omega
   subst hn;rw[List.take_length]at hp;exact fin _ (by rw[zD,if_neg h4',if_neg (by simpa using he),if_pos hp])
theorem zhP {b:List zr}(hb:okB b)(hK:K (.d (.int .i64 (zD b))) σ):zP zdf [.d (.slice (zbz b))] σ K:=by
 refine zeA zuQ fun hl=>?_;have fin:∀z,zD b=z->K (.d (.int .i64 z)) σ:=fun z h=>h▸hK;clear hK;obtain⟨hb1,hb2⟩:=hb;simp only[znO,iN,bT,bF,eN];cases h4:decide ((b.length:Int)>4);rotate_left
 ·refine zm h4 ?_;refine zu hl ?_;exact fin _ (by rw[zD,if_pos (by simp at h4;omega)])
 have h4':¬b.length>4:=by simp at h4;omega
 refine zm h4 ?_;refine zn b.length (fun k vs s=>vs=[.d (.int .i64 k)]/\s=σ/\znZ (b.take k)=0) ⟨rfl,rfl,rfl⟩ ?_;rintro k vs s hk ⟨rfl,rfl,he⟩;by_cases hlt:k<b.length
 ·have hd:decide ((k:Int)<(b.length:Int))=true:=by simp;omega
  have hx:b[k]? = some b[k]:=by simp[hlt]
  have hbx:=hb2 _ (List.getElem_mem hlt);have hgx:=zR (f:=zaD) hx;obtain⟨x,hxe⟩:∃x,b[k]=x:=⟨_,rfl⟩;rw[hxe]at hx hgx hbx;have bad:zyJ x≠0->K (.d (.int .i64 (zyJ x))) s:=fun h=>fin _ (by rw[zD,if_neg h4',if_pos (by rw[zpH hx he h];exact h)];exact zpH hx he h);refine zdV (zd hd hgx) ?_;refine zyR (x:=x) hbx ?_;cases h1:(zT x != 0);rotate_left
  ·have h1':zT x≠0:=by simpa using h1
   refine zm h1 ?_;refine zu hl ?_;have e:zyJ x=zT x:=by rw[zyJ,if_pos h1']
   rw[e]at bad;exact bad h1'
  refine zdV (zd h1 hgx) ?_;have h1':¬zT x≠0:=by simpa using h1
  have e:zyJ x=zx x.key x.dig:=by rw[zyJ,if_neg h1']
  refine zbI ?_;cases h2:(zx x.key x.dig != 0);rotate_left
  ·refine zm h2 ?_;refine zu hl ?_;rw[e]at bad;exact bad (by simpa using h2)
  refine zm (zd h2 (wk1 k (by omega))) ?_;exact zaK.next hlt ⟨rfl,rfl,zyI hx he (by rw[e];simpa using h2)⟩
 ·have hn:k=b.length:=by omega
  subst hn;rw[List.take_length]at he;have hd:decide ((b.length:Int)<(b.length:Int))=false:=by simp
  refine zm hd ?_;refine zn b.length (fun k vs q=>vs=[.d (.int .i64 k)]/\q=s/\(b.take k).Pairwise ndup) ⟨rfl,rfl,by simp⟩ ?_;rintro k vs s hk' ⟨rfl,rfl,hp⟩;by_cases hlt:k<b.length
  ·have hd:decide ((k:Int)<(b.length:Int))=true:=by simp;omega
   have hx:b[k]? = some b[k]:=by simp[hlt]
   have hgx:=zR (f:=zaD) hx;obtain⟨x,hxe⟩:∃x,b[k]=x:=⟨_,rfl⟩;rw[hxe]at hx hgx;refine zm hd ?_;refine zn k (fun j vs q=>vs=[.d (.int .i64 j)]/\q=s/\∀y∈b.take j,¬(x.client=y.client/\x.time=y.time)) ⟨rfl,rfl,by simp⟩ ?_;rintro j vs s hj ⟨rfl,rfl,hno⟩;by_cases hjk:j<k
   ·have hd:decide ((j:Int)<(k:Int))=true:=by simp;omega
    have hy:b[j]? = some (b[j]'(by omega)):=List.getElem?_eq_getElem _;have hgy:=zR (f:=zaD) hy;obtain⟨y,hye⟩:∃y,b[j]'(by omega)=y:=⟨_,rfl⟩;rw[hye]at hy hgy;have hyt:b.take (j+1)=b.take j++[y]:=by rw[List.take_add_one,hy];rfl
    have next:¬(x.client=y.client/\x.time=y.time)->∀z∈b.take (j+1),¬(x.client=z.client/\x.time=z.time):=fun h z hz=>by
     rw[hyt]at hz;rcases List.mem_append.1 hz with hz|hz
     ·exact hno z hz
     ·simp at hz;subst hz;exact h
    cases h1:(x.client==y.client)
    ·refine zdV (zd hd (zd hgx (zd hgy (zd h1 (wk1 j (by omega)))))) ?_;exact zaK.next hjk ⟨rfl,rfl,next (by simp at h1;exact fun h=>h1 h.1)⟩
    cases h2:(x.time==y.time)
    ·refine zdV (zd hd (zd hgx (zd hgy (zd h1 (zd h2 (wk1 j (by omega))))))) ?_;exact zaK.next hjk ⟨rfl,rfl,next (by simp at h2;exact fun h=>h2 h.2)⟩
    ·refine zdV (zd hd (zd hgx (zd hgy (zd h1 h2)))) ?_;refine zu hl ?_;have hnp:=pairs_not hx hy hjk ⟨by simpa using h1,by simpa using h2⟩;exact fin _ (by rw[zD,if_neg h4',if_neg (by simpa using he),if_neg hnp])
   ·have hd:decide ((j:Int)<(k:Int))=false:=by simp;omega
    have hn:j=k:=by omega
    subst hn;refine zm (zd hd (wk1 j (by omega))) ?_;exact zaK.next hlt ⟨rfl,rfl,zyn hx hp hno⟩
  ·have hd:decide ((k:Int)<(b.length:Int))=false:=by simp;omega
   refine zm hd ?_;refine zu hl ?_;have hn:k=b.length:=by omega
   subst hn;rw[List.take_length]at hp;exact fin _ (by rw[zD,if_neg h4',if_neg (by simpa using he),if_pos hp])
variable {σ:List AObj} {K:KT}
theorem c_Same1 {a b:zr}(ha:a.op.recs.length<=1073741824)(hb:b.op.recs.length<=1073741824)(hK:K (.d (.bool (decide (a=b)))) σ):zP zgR [zir a,zir b] σ K:=by
 refine zeq zuM fun hl=>?_;have e:a=b↔a.key=b.key/\a.dig=b.dig/\a.client=b.client/\a.time=b.time/\a.op=b.op:=by cases a;cases b;simp;constructor<;>(intro h;simp_all)
 have fin:∀z,decide (a=b)=z->K (.d (.bool z)) σ:=fun z h=>h▸hK;clear hK;simp only[znK,iN,bT,bF,eN,zir];cases h1:(a.key==b.key)
 ·refine zdV h1 ?_;refine zu hl ?_;refine fin _ (decide_eq_false fun h=>?_);have:=(e.1 h).1;simp[this]at h1
 cases h2:(a.dig==b.dig)
 ·refine zdV (zd h1 h2) ?_;refine zu hl ?_;refine fin _ (decide_eq_false fun h=>?_);have:=(e.1 h).2.1;simp[this]at h2
 cases h3:(a.client==b.client)
 ·refine zdV (zd h1 (zd h2 h3)) ?_;refine zu hl ?_;refine fin _ (decide_eq_false fun h=>?_);have:=(e.1 h).2.2.1;simp[this]at h3
 cases h4:(a.time==b.time)
 ·refine zdV (zd h1 (zd h2 (zd h3 h4))) ?_;refine zu hl ?_;refine fin _ (decide_eq_false fun h=>?_);have:=(e.1 h).2.2.2.1;simp[this]at h4
 refine zdV (zd h1 (zd h2 (zd h3 h4))) ?_;refine c_Same (a:=a.op) (b:=b.op) ha hb ?_;refine zG ?_;refine zu hl ?_;refine fin _ ?_;rw[Bool.eq_iff_iff,decide_eq_true_eq,decide_eq_true_eq,e];simp only[beq_iff_eq]at h1 h2 h3 h4;simp[h1,h2,h3,h4]
theorem zss {a b:List zr}(ha:zgl a)(hb:zgl b)(hK:K (.d (.bool (decide (a=b)))) σ) :
  zP zar [.d (.slice (zbz a)),.d (.slice (zbz b)),.fn (.func zgR) [] []] σ K:=by
 refine acE3 zcO fun hl=>?_;have fin:∀z,decide (a=b)=z->K (.d (.bool z)) σ:=fun z h=>h▸hK;clear hK;obtain⟨ha1,ha2⟩:=ha;obtain⟨hb1,hb2⟩:=hb;simp only[zbh,iN,bT,bF,eN,zl1];cases hl0:((a.length:Int) != (b.length:Int));rotate_left
 ·refine zm hl0 ?_;refine zu hl ?_;refine fin _ (decide_eq_false fun h=>?_);rw[h]at hl0;simp at hl0
 have hl2:a.length=b.length:=by simp at hl0;omega
 refine zm hl0 ?_;refine zn a.length (fun k vs s=>vs=[.d (.int .i64 k)]/\(∃T,s=σ++T)/\a.take k=b.take k) ⟨rfl,⟨[],by simp⟩,by simp⟩ ?_;rintro k vs s hk ⟨rfl,⟨T,rfl⟩,htk⟩;by_cases hlt:k<a.length
 ·have hd:decide ((k:Int)<(a.length:Int))=true:=by simp;omega
  have hx:a[k]? = some a[k]:=by simp[hlt]
  have hy:b[k]? = some (b[k]'(by omega)):=List.getElem?_eq_getElem _;have hgx:=zR (f:=zaD) hx;have hgy:=zR (f:=zaD) hy;have hxs:=(ha2 _ (List.getElem_mem hlt)).1;have hys:=(hb2 _ (List.getElem_mem (show k<b.length by omega))).1;obtain⟨x,hxe⟩:∃x,a[k]=x:=⟨_,rfl⟩;obtain⟨y,hye⟩:∃y,(b[k]'(by omega))=y:=⟨_,rfl⟩;rw[hxe]at hx hgx hxs;rw[hye]at hy hgy hys;obtain⟨S,hS⟩:∃S,σ++T=S:=⟨_,rfl⟩;rw[hS];refine zdV (zd hd (zd hgx hgy)) ?_;refine c_Same1 (a:=x) (b:=y) hxs hys ?_;cases he:decide (x=y)
  ·refine zm hd ?_;rw[← hS,List.append_assoc];refine zu hl ?_;refine fin _ (decide_eq_false fun h=>?_);subst h;rw[hx]at hy;have:=Option.some.inj hy;simp[this]at he
  ·refine zm (wk1 k (by omega)) ?_;exact zaK.next hlt ⟨rfl,⟨_,by rw[← hS,List.append_assoc]⟩,zbq hx hy htk (by simpa using he)⟩
 ·have hd:decide ((k:Int)<(a.length:Int))=false:=by simp;omega
  refine zm hd ?_;refine zu hl ?_;exact fin _ (decide_eq_true (zcu hl2 (k:=k) (by omega) htk))
theorem zwQ {a b:List zr}(ha:zgl a)(hb:zgl b)(hK:K (.d (.bool (decide (a=b)))) σ):zP zgF [.d (.slice (zbz a)),.d (.slice (zbz b))] σ K:=by
 refine zeq zxN fun hl=>?_;simp only[zqx,iN,bT,bF,eN];refine zG ?_;refine zss ha hb ?_;refine zG ?_;refine zu hl ?_;exact hK
end Go.Proofs.YtdgcepphjnoalaaGreat

/- Rows of the call's own that are let go: what they hold is data from then on. A function that only reads may be told of rows as of data. -/
namespace Go.AW
def allO {α:Type}:List (Option α)->Option (List α)
 | []=>some []
 | some a::l=>match allO l with|some r=>some (a::r)|none=>none
 | none::_=>none
theorem zvs {α:Type}:∀ {l:List (Option α)} {r:List α},allO l=some r->r.length=l.length/\∀(i:Nat) a b,l[i]? = some a->r[i]? = some b->a=some b
 | [],r,h=>by simp[allO]at h;subst h;simp
 | none::l,r,h=>by simp[allO]at h
 | some a::l,r,h=>by
  simp only[allO]at h;split at h
  ·rename_i r' hr;cases h;obtain⟨h1,h2⟩:=zvs hr;refine⟨by simp[h1],fun i x y hx hy=>?_⟩;cases i with
   | zero=>simp at hx hy;subst hx hy;rfl
   | succ i=>simp at hx hy;exact h2 i x y hx hy
  ·cases h
def frz (σ:List AObj) (n₀:Nat):Nat->AV->Option D
 | _,.d x=>some x
 | _,.own _ es=>some (.slice es)
 | _,.exact es=>some (.slice es)
 | n+1,.rsl t g sz lo hi=>match σ[t]? with
  | some (.row g' sz' cs)=>if n₀<=t/\g'=g/\sz'=sz then
    match allO (((cs.drop (lo*sz)).take ((hi-lo)*sz)).map (frz σ n₀ n))with
    | some ds=>some (.slice (zaC sz (hi-lo) ds))
    | none=>none
   else none
  | _=>none
 | _,_=>none
def frz1 (σ:List AObj) (n₀ n:Nat):AV->Option AV
 | .agg cs=>match allO (cs.map (frz σ n₀ n))with|some ds=>some (.agg (ds.map .d))|none=>none
 | a=>match frz σ n₀ n a with|some x=>some (.d x)|none=>none
def frzT (σ:List AObj) (n₀ n:Nat):AV->Option AV
 | .tup vs=>match allO (vs.map (frz1 σ n₀ n))with|some l=>some (.tup l)|none=>none
 | a=>frz1 σ n₀ n a
section
variable {P:Program} {w:World} {L:Nat->Loc} {σ:List AObj}
theorem frz_sound (S:Sim L σ w){O:Nat->Nat->Prop}{n₀:Nat}(hO:∀b o,O b o->Own L σ b o)(hno:∀t x,n₀<=t→σ[t]? = some x->x.kind=5->∀b o,zfA (L t) x b o->¬O b o) :
  ∀(n:Nat) (a:AV) (x:D) (v:Value),RV w L σ a v->frz σ n₀ n a=some x->RD w O x v:=by
 intro n;induction n with
 | zero=>
  intro a x v h hx
  cases h with
  | d _ _ h=>simp[frz]at hx;subst hx;exact ziQ hO h
  | own _ _ _ _ _ _ _ _ h=>simp[frz]at hx;subst hx;exact ziQ hO h
  | exact _ _ h=>simp[frz]at hx;subst hx;exact ziQ hO h
  | _=>simp[frz]at hx
 | succ n ih=>
  intro a x v h hx
  cases h with
  | d _ _ h=>simp[frz]at hx;subst hx;exact ziQ hO h
  | own _ _ _ _ _ _ _ _ h=>simp[frz]at hx;subst hx;exact ziQ hO h
  | exact _ _ h=>simp[frz]at hx;subst hx;exact ziQ hO h
  | rsl t g sz lo hi b c h1 h2 h3 h4 h5 h6 h7=>
   simp only[frz]at hx
   split at hx
   ·rename_i g' sz' cs hcs
    split at hx
    ·rename_i hc
     obtain⟨hn,rfl,rfl⟩:=hc
     split at hx
     ·rename_i ds hds
      cases hx
      obtain⟨a1,a2⟩:=zvs hds
      obtain⟨_,q2,q3,q4,q5⟩:=h7 sz' cs hcs
      obtain⟨p0,⟨m,p1,p1'⟩,p2,p3,p4,p5⟩:=S.obj t _ hcs
      have hmul:hi*sz'≤(L t).cap*sz':=Nat.mul_le_mul_right _ q3
      have hsub:lo*sz'+(hi-lo)*sz'=hi*sz':=by rw[← Nat.add_mul];congr 1;omega
      have hdl:ds.length=(hi-lo)*sz':=by rw[a1];simp;omega
      have hcl:(zaC sz' (hi-lo) ds).length=hi-lo:=zkl _ _ _
      rcases Nat.eq_zero_or_pos (hi-lo)with h0|h0
      ·rw[h0]at hcl ⊢
       rw[List.eq_nil_of_length_eq_zero hcl]
       exact .empty _ _ h5
      ·rw[q5 (by omega)]
       have hch:=zrt sz' (hi-lo) ds hdl
       generalize hes:zaC sz' (hi-lo) ds=es at hcl hch
       rw[← hcl]
       refine RD.of_block (sz:=sz') (by rw[hcl];exact h4) hch fun i e j d hi' hj=>?_
       rw[← hes]at hi'
       obtain⟨c1,c2,c3⟩:=zpJ sz' (hi-lo) ds i e j d hi' hj
       have hlt:=zo c3
       rw[hdl]at hlt
       have hc:cs[lo*sz'+(i*sz'+j)]? = some (cs[lo*sz'+(i*sz'+j)]'(by omega)):=List.getElem?_eq_getElem _
       obtain⟨u,u1,u2⟩:=p5 _ _ hc
       refine⟨u,by rw[Nat.add_assoc];exact u1,hno t _ hn hcs rfl _ _ ⟨rfl,by omega,by omega⟩,ih _ d u u2 ?_⟩
       refine a2 (i*sz'+j) _ d ?_ c3
       rw[List.getElem?_map,List.getElem?_take,if_pos hlt,List.getElem?_drop,hc]
       rfl
     ·cases hx
    ·cases hx
   ·cases hx
  | _=>simp[frz]at hx
theorem zyE (S:Sim L σ w){L2:Nat->Loc}{σ2:List AObj}{n₀ n:Nat}(hO:∀b o,Own L2 σ2 b o->Own L σ b o)(hno:∀t x,n₀<=t→σ[t]? = some x->x.kind=5->∀b o,zfA (L t) x b o->¬Own L2 σ2 b o)
  {a r:AV} {v:Value} (h:RV w L σ a v) (hr:frz1 σ n₀ n a=some r):RV w L2 σ2 r v:=by
 have one:(match frz σ n₀ n a with|some x=>some (AV.d x)|none=>none)=some r->RV w L2 σ2 r v:=fun hr=>by
  split at hr
  ·rename_i x hx;cases hr;exact .d _ _ (frz_sound S hO hno n a x v h hx)
  ·cases hr
 cases a with
 | agg cs=>
  simp only[frz1]at hr
  split at hr
  ·rename_i ds hds
   cases hr
   obtain⟨vs,rfl,h1,h2⟩:=h.agg_inv
   obtain⟨a1,a2⟩:=zvs hds
   refine .agg _ _ (by simp at a1 ⊢;omega) fun i c u hc hu=>?_
   simp only[List.getElem?_map,Option.map_eq_some_iff]at hc
   obtain⟨d,hd,rfl⟩:=hc
   have hlt:=zo hd
   have hcs:cs[i]? = some (cs[i]'(by simp at a1;omega)):=List.getElem?_eq_getElem _
   exact .d _ _ (frz_sound S hO hno n _ d u (h2 i _ u hcs hu) (a2 i _ d (by rw[List.getElem?_map,hcs];rfl) hd))
  ·cases hr
 | _=>exact one hr
theorem zyD (S:Sim L σ w){L2:Nat->Loc}{σ2:List AObj}{n₀ n:Nat}(hO:∀b o,Own L2 σ2 b o->Own L σ b o)(hno:∀t x,n₀<=t→σ[t]? = some x->x.kind=5->∀b o,zfA (L t) x b o->¬Own L2 σ2 b o)
  {a r:AV} {v:Value} (h:RV w L σ a v) (hr:frzT σ n₀ n a=some r):RV w L2 σ2 r v:=by
 cases a with
 | tup cs=>
  simp only[frzT]at hr
  split at hr
  ·rename_i l hl
   cases hr
   obtain⟨vs,rfl,h1,h2⟩:=h.tup_inv
   obtain⟨a1,a2⟩:=zvs hl
   refine .tup _ _ (by simp at a1 ⊢;omega) fun i c u hc hu=>?_
   have hlt:=zo hc
   have hcs:cs[i]? = some (cs[i]'(by simp at a1;omega)):=List.getElem?_eq_getElem _
   exact zyE S hO hno (h2 i _ u hcs hu) (a2 i _ c (by rw[List.getElem?_map,hcs];rfl) hc)
  ·cases hr
 | _=>exact zyE S hO hno h hr
def EndsF (m n:Nat) (K:KT) (out:Option (List AV)) (σ':List AObj):Prop:=
 match out with
 | some l=>match frzT σ' n m (zcm l)with
  | some r=>zhp n (σ'.take n)/\K r (σ'.take n)
  | none=>False
 | none=>False
theorem zsx {f:FuncId}{F:AF}{na:Nat}(hF:isFn P f F na){as0:List AV}(has:as0.length=na){K:KT}(m:Nat)
  (h:zhp σ.length σ->(∀a∈as0,Low σ.length a)->awp P F.body (AtEnd fun fr' σ'=>EndsF m σ.length K (zuw fr' σ' F.res) σ') (zlo 0 as0) σ):ACall P f as0 σ K:=
 zoS hF has _ (fun{L w L' σ' w' fr' ts} S st S' F' hz=>by
  unfold EndsF at hz;split at hz
  ·rename_i l hl;split at hz
   ·rename_i r hr;obtain⟨z2,z3⟩:=hz;refine⟨L',_,l,r,hl,st.take,S'.take z2,fun v hv=>zyD S' (fun b o=>zrQ) (fun t x ht hx hk b o hf hown=>?_) hv hr,z3⟩;obtain⟨id,y,hy,hfy⟩:=hown;rw[List.getElem?_take]at hy;split at hy
    ·rename_i hid;exact S'.apart id t y x b o (by omega) hy hx hfy hf
    ·cases hy
   ·exact hz.elim
  ·exact hz.elim) h
theorem zse {τ:List AObj}{K:KT}{l:List AV}{m:Nat}{r:AV}(hr:frzT (σ++τ) σ.length m (zcm l)=some r)(hl:zhp σ.length σ)(h:K r σ):EndsF m σ.length K (some l) (σ++τ):=by
 simp only[EndsF,hr,zmY];exact⟨hl,h⟩
end
section
variable {P:Program} {σ:List AObj}
theorem renId_range {n m id:Nat}(h:id<n+m):zqP n (List.range' n m) id=some id:=by
 unfold zqP;split
 ·rfl
 ·rename_i hn;have:∀(m a:Nat),a<=id->id<a+m->idxK (List.range' a m) id a=some id:=by
   intro m;induction m with
   | zero=>intro a h1 h2;omega
   | succ m ih=>
    intro a h1 h2
    simp only[List.range'_succ,idxK]
    by_cases e:a=id
    ·subst e;simp
    ·have e':¬id=a:=fun h=>e h.symm
     first
      | (rw[if_neg e];exact ih (a+1) (by omega) (by omega))
      | (rw[if_neg e'];exact ih (a+1) (by omega) (by omega))
  exact this m n (by omega) h
theorem zyB:∀(os:List AObj) (σ τ:List AObj),getL (σ++(os++τ)) (List.range' σ.length os.length)=some os
 | [],σ,τ=>rfl
 | x::os,σ,τ=>by
  simp only[List.length_cons,List.range'_succ,getL];have h1:(σ++(x::os++τ))[σ.length]? = some x:=by rw[List.getElem?_append_right (Nat.le_refl _),Nat.sub_self];rfl
  rw[h1];have h2:=zyB os (σ++[x]) τ;simp only[List.length_append,List.length_cons,List.length_nil,Nat.zero_add,List.append_assoc,List.cons_append,List.nil_append]at h2;simp only[List.cons_append];rw[h2]
theorem renOs_low {n:Nat}{f:Nat->Option Nat}(hf:∀id,id<n->f id=some id):∀ {l:List AObj},(∀x∈l,ztL n x)->zvQ f l=some l
 | [],_=>rfl
 | x::l,h=>by simp only[zvQ,renO_low hf (h x List.mem_cons_self),renOs_low hf fun y hy=>h y (List.mem_cons_of_mem _ hy)]
theorem zud {n:Nat}{σ' os τ:List AObj}{ks:List AObj->List Nat}{K:KT}{l:List AV}(hn:σ'.length=n)(hks:ks (σ'++(os++τ))=List.range' n os.length)(hl:zhp n σ')(hos:∀x∈os,ztL (n+os.length) x)
  (hr:Low (n+os.length) (zcm l)) (h:K (zcm l) (σ'++os)):zsH n ks K (some l) (σ'++(os++τ)):=by
 subst hn;unfold zsH zAL;rw[hks];have ht:(σ'++(os++τ)).take σ'.length=σ':=zmY _ _;simp only[zyB,ht];have hf:∀id,id<σ'.length+os.length->zqP σ'.length (List.range' σ'.length os.length) id=some id:=fun id h=>renId_range h;refine⟨by simp,hl,fun k hk=>by simp[List.mem_range'_1]at hk;exact hk.1,List.nodup_range',?_⟩;rw[renOs_low hf hos,zrN hf hr];exact h
theorem zdp {n:Nat}{σ' os:List AObj}{ks:List AObj->List Nat}{K:KT}{l:List AV}(hn:σ'.length=n)(hks:ks (σ'++os)=List.range' n os.length)(hl:zhp n σ')(hos:∀x∈os,ztL (n+os.length) x)
  (hr:Low (n+os.length) (zcm l)) (h:K (zcm l) (σ'++os)):zsH n ks K (some l) (σ'++os):=by
 have:=zud (os:=os) (τ:=[]) (ks:=ks) (K:=K) hn (by simpa using hks) hl hos hr h;simpa using this
theorem ACall.weaken {f:FuncId}{xs:List AV}{K:KT}(h:ACall P f xs σ fun r s=>∃r' s',zqd [r] s [r'] s'∧K r' s'):ACall P f xs σ K:=
 ⟨h.1,fun L w vs S hv=>(h.2 L w vs S hv).mono fun e w' he=>by
  cases e with
  | panicked _=>exact he
  | outgrown=>exact he
  | returned v=>
   obtain⟨L',σ',r,st,S',hr,r',s',hw,hK⟩:=he
   obtain⟨L2,st2,S2,hv2⟩:=zmn hw S' (us:=[v]) ⟨rfl,fun i c u hc hu=>by cases i<;>simp at hc hu;subst hc hu;exact hr⟩
   exact⟨L2,s',r',st.trans st2,S2,hv2.2 0 r' v rfl rfl,hK⟩⟩
theorem ACall.dm {f:FuncId}{xs:List AV}{K:KT}(h:ACall P f (xs.map AW.dm) σ K):ACall P f xs σ K:=
 ⟨h.1,fun L w vs S hv=>h.2 L w vs S ⟨by rw[List.length_map];exact hv.1,fun i a v ha hu=>by
  simp only[List.getElem?_map,Option.map_eq_some_iff]at ha;obtain⟨a',ha',rfl⟩:=ha;exact zvi (hv.2 i a' v ha' hu)⟩⟩
theorem ACall.pre {f:FuncId}{xs xs':List AV}{σ':List AObj}{K:KT}(hw:zqd xs σ xs' σ')(h:ACall P f xs' σ' K):ACall P f xs σ K:=
 ⟨h.1,fun L w vs S hv=>by
  obtain⟨L1,st,S1,hv1⟩:=zmn hw S hv;refine(h.2 L1 w vs S1 hv1).mono fun e w' he=>?_;cases e with
  | panicked _=>exact he
  | outgrown=>exact he
  | returned v=>
   obtain⟨L',s',r,st',S',hr,hK⟩:=he
   exact⟨L',s',r,st.trans st',S',hr,hK⟩⟩
def EndsW (n:Nat) (K:KT) (out:Option (List AV)) (σ':List AObj):Prop:=∃s,zqd [] σ' [] s/\Ends n K out s
theorem zjd {f:FuncId}{F:AF}{na:Nat}(hF:isFn P f F na){as0:List AV}(has:as0.length=na){K:KT}
  (h:zhp σ.length σ->(∀a∈as0,Low σ.length a)->awp P F.body (AtEnd fun fr' σ'=>EndsW σ.length K (zuw fr' σ' F.res) σ') (zlo 0 as0) σ):ACall P f as0 σ K:=
 zoS hF has _ (fun{L w L' σ' w' fr' ts} S st S' F' hz=>by
  obtain⟨s,hw,hz⟩:=hz;obtain⟨L2,st2,S2,_⟩:=zmn hw S' (us:=[]) ⟨rfl,by simp⟩;unfold Ends at hz;split at hz
  ·rename_i l hl;obtain⟨z1,z2,z3⟩:=hz;exact⟨L2,_,l,dmT (zcm l),hl,(st.trans st2).take,S2.take z2,fun v hr=>(zwI (st2.rv hr)).take z1,z3⟩
  ·exact hz.elim) h
theorem ziN {n:Nat}{K:KT}{out:Option (List AV)}(h:Ends n K out σ):EndsW n K out σ:=⟨σ,.refl _ _,h⟩
theorem zhp.setO {n:Nat}(h:zhp n σ){id:Nat}{x:AObj}(hx:ztL n x):zhp n (σ.set id x):=zhp.set h hx
theorem zeP {τ:List AObj}{id:Nat}{x:AObj}{K:KT}{l:List AV}(h1:Low σ.length (dmT (zcm l)))(hl:zhp σ.length σ)(hx:ztL σ.length x)(h:K (dmT (zcm l)) (σ.set id x)):Ends σ.length K (some l) (σ.set id x++τ):=by
 unfold Ends;have:(σ.set id x++τ).take σ.length=σ.set id x:=by
  have e:(σ.set id x).length=σ.length:=List.length_set;rw[← e];exact zmY _ _
 rw[this];exact⟨h1,hl.setO hx,h⟩
theorem zfb {id:Nat}{x:AObj}{K:KT}{l:List AV}(h1:Low σ.length (dmT (zcm l)))(hl:zhp σ.length σ)(hx:ztL σ.length x)(h:K (dmT (zcm l)) (σ.set id x)):Ends σ.length K (some l) (σ.set id x):=by
 have:=zeP (τ:=[]) h1 hl hx h;simpa using this
theorem zbR {α:Type}{σ:List α}{id:Nat}{x:α}(h:σ[id]? = some x):σ.set id x=σ:=by
 obtain⟨hl,hh⟩:=List.getElem?_eq_some_iff.1 h;rw[← hh];exact List.set_getElem_self hl
theorem zdt {α:Type}{σ:List α}{id:Nat}{x y:α}(h:σ[id]? = some x):(σ.set id y)[id]? = some y:=by
 simp[(List.getElem?_eq_some_iff.1 h).1]
theorem zaa {α:Type}{σ:List α}{id:Nat}{x:α}(h:σ[id]? = some x):id<σ.length:=(List.getElem?_eq_some_iff.1 h).1
end
end Go.AW
