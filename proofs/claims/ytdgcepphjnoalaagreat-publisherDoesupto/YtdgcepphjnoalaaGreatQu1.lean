/- Contracts: how many brokers there are, and a quorum has. -/
import Derived.Test.YtdgcepphjnoalaaGreatSh
import Derived.Test.YtdgcepphjnoalaaGreatRq3
import Derived.Test.YtdgcepphjnoalaaGreatGa1
import Derived.Test.YtdgcepphjnoalaaGreatOpC
import Derived.Test.YtdgcepphjnoalaaGreatSpTab
import Derived.Test.YtdgcepphjnoalaaGreatCl1
import Derived.Test.YtdgcepphjnoalaaGreatSm4
import Derived.Test.YtdgcepphjnoalaaGreatRc2
import Derived.Test.YtdgcepphjnoalaaGreatOp2
set_option linter.all false
set_option maxRecDepth 100000
namespace Go.Proofs.YtdgcepphjnoalaaGreat
open Go.AW
variable {σ:List AObj} {K:KT}
theorem gqc4 {A B:Prop}(a:A)(b:B):A/\B:=⟨a,b⟩
theorem gq33 {A P Q:Prop}(a:A)(h:Q)(e:A->P=Q:=by intro a;simp -dsimp only[↓zlG,↓zbS,↓zee,↓zlH,↓zly,↓zlw,↓zlz,↓zlx,↓zej,↓zef,↓zek,↓zeg,↓zlA,↓zeb,↓zel,↓zeh,↓zem,↓zei,↓zlv,↓zlE,↓zea,↓zep,↓zln,↓zlm,↓zlt,iN,bT,bF,eN,↓zes,↓unC,↓zaB,↓zah,↓zai,↓zav,↓zaX,↓zag,↓zgA,↓zaw,↓zbf,↓zad,↓ze,↓zj,↓zaR,↓zc,↓zaV,↓zN,↓zbT,↓zcl,↓zf,↓zF,↓zp,↓zM,↓zaA,↓zgH,↓zhI,↓zbc,↓zby,↓zcf,↓zcA,↓zdo,↓zJ,↓zbb,↓zak,↓zO,↓zaU,zhr,zdU,zdB,unA,zgx,bnd,ziS,zaO,zL,zic,dm,dm1,zH,zaF,zjW,zjV,keepO,Q0,Q1,Q2,Q3,Q4,Q5,zba,zA,zB,zY,zab,Q6,Q7,Q8,Q9,Q10,Q11,Q12,Q13,Q14,Nat.reduceAdd,Q15,Int.reduceToNat,Q16,Q17,Q18,Q19,Q20,reduceIte,Q21,Q22,zy,rep,zaq,zhW,toD,zaC,Q23,Q24,Q25,Q26,Q27,Q28,Nat.reduceLeDiff,Q29,Nat.reduceSub,Q30,Q31,Q32,sc,Q33,Q34,Q35,a];rfl):P:=(e a).mpr h
theorem zwR {f:Int}(hK:K (.d (.int .i64 (zhj f))) σ):zP ziK [.d (.int .i64 f)] σ K:=by
 refine zeA zxV fun hl=>?_;simp only[zqG,iN,bT,bF,eN];cases h1:decide (f<1)<;>cases h2:decide (f>4);all_goals
  (refine gq33 (gqc4 h1 h2) ?_;try with_reducible exact True.intro)
  refine zu hl ?_
  simp only[decide_eq_true_eq,decide_eq_false_iff_not]at h1 h2
 ·rw[zhj,if_neg (by omega)]at hK;exact hK
 all_goals(rw[zhj,if_pos (by omega)]at hK;exact hK)
theorem zso {f:Int}(hK:K (.d (.int .i64 (zhj f))) σ):zP zkt [.d (.int .i64 f)] σ K:=by
 refine zeA e_r12_Check fun hl=>?_;simp only[zxh,iN,bT,bF,eN];cases h1:decide (f<1)<;>cases h2:decide (f>4);all_goals
  (refine gq33 (gqc4 h1 h2) ?_;try with_reducible exact True.intro)
  refine zu hl ?_
  simp only[decide_eq_true_eq,decide_eq_false_iff_not]at h1 h2
 ·rw[zhj,if_neg (by omega)]at hK;exact hK
 all_goals(rw[zhj,if_pos (by omega)]at hK;exact hK)
theorem gq34 {P Q:Prop}(h:Q)(e:P=Q:=by simp -dsimp only[↓zlG,↓zbS,↓zee,↓zlH,↓zly,↓zlw,↓zlz,↓zlx,↓zej,↓zef,↓zek,↓zeg,↓zlA,↓zeb,↓zel,↓zeh,↓zem,↓zei,↓zlv,↓zlE,↓zea,↓zep,↓zln,↓zlm,↓zlt,iN,bT,bF,eN,↓zes,↓unC,↓zaB,↓zah,↓zai,↓zav,↓zaX,↓zag,↓zgA,↓zaw,↓zbf,↓zad,↓ze,↓zj,↓zaR,↓zc,↓zaV,↓zN,↓zbT,↓zcl,↓zf,↓zF,↓zp,↓zM,↓zaA,↓zgH,↓zhI,↓zbc,↓zby,↓zcf,↓zcA,↓zdo,↓zJ,↓zbb,↓zak,↓zO,↓zaU,zhr,zdU,zdB,unA,zgx,bnd,ziS,zaO,zL,zic,dm,dm1,zH,zaF,zjW,zjV,keepO,Q0,Q1,Q2,Q3,Q4,Q5,zba,zA,zB,zY,zab,Q6,Q7,Q8,Q9,Q10,Q11,Q12,Q13,Q14,Nat.reduceAdd,Q15,Int.reduceToNat,Q16,Q17,Q18,Q19,Q20,reduceIte,Q21,Q22,zy,rep,zaq,zhW,toD,zaC,Q23,Q24,Q25,Q26,Q27,Q28,Nat.reduceLeDiff,Q29,Nat.reduceSub,Q30,Q31,Q32,sc,Q33,Q34,Q35];rfl):P:=e.mpr h
theorem c_times {n f:Int}(hn:0<=n/\n<=3)(hK:K (.d (.int .i64 (zgz n f))) σ):zP ziJ [.d (.int .i64 n),.d (.int .i64 f)] σ K:=by
 refine zeq zxT fun hl=>?_;simp only[zqE,iN,bT,bF,eN];(refine gq34 ?_;try with_reducible exact True.intro);refine zwR ?_;by_cases h:f<1∨f>4
 ·rw[zgz,if_pos h]at hK;rw[zhj,if_pos h];(refine gq33 (show((120:Int) != 0)=true from rfl) ?_;try with_reducible exact True.intro);refine zu hl ?_;exact hK
 ·rw[zgz,if_neg h]at hK;rw[zhj,if_neg h];have h1:0<=n*f:=Int.mul_nonneg hn.1 (by omega);have h2:n*f<=3*4:=Int.mul_le_mul hn.2 (by omega) (by omega) (by omega);have w1:IntKind.i64.wrap (n*f)=n*f:=zaW (by omega) (by omega);have w2:IntKind.i64.wrap (n*f+1)=n*f+1:=zaW (by omega) (by omega);(refine gq33 (gqc4 (show((0:Int) != 0)=false from rfl) (gqc4 w1 w2)) ?_;try with_reducible exact True.intro);refine zu hl ?_;exact hK
theorem zwS {f:Int}(hK:K (.d (.int .i64 (zgz 3 f))) σ):zP zjs [.d (.int .i64 f)] σ K:=by
 refine zeA zuS fun hl=>?_;simp only[znQ,iN,bT,bF,eN];(refine gq34 ?_;try with_reducible exact True.intro);refine c_times (by omega) ?_;(refine gq34 ?_;try with_reducible exact True.intro);refine zu hl ?_;exact hK
theorem c_rBrokers {f:Int}(hK:K (.d (.int .i64 (zgz 3 f))) σ):zP znd [.d (.int .i64 f)] σ K:=by
 refine zeA zAk fun hl=>?_;simp only[zsz,iN,bT,bF,eN];(refine gq34 ?_;try with_reducible exact True.intro);refine zso ?_;by_cases h:f<1∨f>4
 ·rw[zgz,if_pos h]at hK;rw[zhj,if_pos h];(refine gq33 (show((120:Int) != 0)=true from rfl) ?_;try with_reducible exact True.intro);refine zu hl ?_;exact hK
 ·rw[zgz,if_neg h]at hK;rw[zhj,if_neg h];have w1:IntKind.i64.wrap (3*f)=3*f:=zaW (by omega) (by omega);have w2:IntKind.i64.wrap (3*f+1)=3*f+1:=zaW (by omega) (by omega);(refine gq33 (gqc4 (show((0:Int) != 0)=false from rfl) (gqc4 w1 w2)) ?_;try with_reducible exact True.intro);refine zu hl ?_;exact hK
structure smallP (p:zkc):Prop where
 ops:∀x∈p.batch,zmW x.op<=20971520
 batch:p.batch.length<=1073741824
 signs:p.signs.length<=1073741824
end Go.Proofs.YtdgcepphjnoalaaGreat

/- Maps keyed by integers: what is found after a put. -/
namespace Go.AW
abbrev ents (l:List (Int × AV)):List (AV × AV):=l.map fun e=>(.d (.int .i64 e.1),e.2)
end Go.AW

/- Contracts: certificates that are zrb. -/
set_option maxRecDepth 100000
namespace Go.Proofs.YtdgcepphjnoalaaGreat
open Go.AW
variable {σ:List AObj} {K:KT}
theorem c_clSign {l:List zI}(hn:l.length<=1073741824)(hK:K (.d (.slice (zat l))) σ):zP zbB [.d (.slice (zat l))] σ K:=by
 refine zeA zia fun hl=>?_;have hlen:(zat l).length=l.length:=List.length_map ..;have h2:∀e∈zat l,e.length=2:=zjn (f:=zgX) (fun _=>rfl) l;simp only[zeC,iN,bT,bF,eN,zaA,zgx];obtain⟨es,hes⟩:∃es,zat l=es:=⟨_,rfl⟩;rw[hes]at hlen h2 hK ⊢;cases es with
 | nil=>
  refine⟨?_,?_⟩
  ·refine zG ?_
   refine zu hl ?_
   exact hK
  ·refine zG ?_
   refine zu hl ?_
   exact hK
 | cons e es=>
  simp only[zaB,zO,zH,zL,rep,zp,zhW,zaC,zM,zic]
  refine⟨h2,by simp,by rw[hlen];simp;omega,?_⟩
  refine zu hl ?_
  exact hK
abbrev hE (l:List (Int × zkc)):List (AV × AV):=ents (l.map fun e=>(e.1,prepA e.2))
structure HeldAt (σ:List AObj) (h m:Nat) (l:List (Int × zkc)):Prop where
 box:σ[h]? = some (.box [.map m])
 map:σ[m]? = some (.map (hE l))
theorem HeldAt.app {h m:Nat}{l:List (Int × zkc)}(H:HeldAt σ h m l)(τ:List AObj):HeldAt (σ++τ) h m l:=⟨zi H.box,zi H.map⟩
end Go.Proofs.YtdgcepphjnoalaaGreat

/- Topics: what the document says of them. No program in sight. -/
namespace Go.AW
structure zer where
 name:List UInt8
 base:Int
 recs:List (List UInt8)
 groups:List (List UInt8 × Int)
structure ztJ where
 l:List zer
 last:List (Int × Int × Int)
def ztU:ztJ:=⟨[],List.replicate 8 (0,0,0)⟩
abbrev groupD (g:List UInt8 × Int):List D:=[.str g.1,.int .i64 g.2]
abbrev groupsE (l:List (List UInt8 × Int)):List (List D):=l.map groupD
def zer.next (x:zer):Int:=x.base+x.recs.length
def atF (n:List UInt8):List zer->Nat->Option Nat
 | [],_=>none
 | x::r,i=>if (x.name==n)=true then some i else atF n r (i+1)
def lessN (n:List UInt8):List zer->Nat
 | []=>0
 | x::r=>if Op.bytesLess x.name n=true then lessN n r+1 else 0
def lessG (n:List UInt8):List (List UInt8 × Int)->Nat
 | []=>0
 | g::r=>if Op.bytesLess g.1 n=true then lessG n r+1 else 0
def hadG (n:List UInt8) (l:List (List UInt8 × Int)):Option Int:=match l[lessG n l]? with
 | some g=>if (g.1==n)=true then some g.2 else none
 | none=>none
abbrev topD (x:zer):List D:=[.str x.name,.int .i64 x.base,.slice (zdT x.recs),.slice (groupsE x.groups)]
abbrev topsE (l:List zer):List (List D):=l.map topD
abbrev zcF (es:List (List D)):List AV:=es.flatten.map .d
theorem zoD {sz:Nat}:∀ {es:List (List D)},(∀e∈es,e.length=sz)->(zcF es).length=es.length*sz
 | [],_=>by simp[zcF]
 | e::es,h=>by
  have h1:=zoD (es:=es) fun x hx=>h x (List.mem_cons_of_mem _ hx);have h2:=h e List.mem_cons_self;simp only[zcF,List.length_map]at h1;simp only[zcF,List.flatten_cons,List.map_append,List.length_append,List.length_map,h1,h2,List.length_cons,Nat.add_mul,Nat.one_mul];omega
theorem zyF {sz:Nat}:∀ {es:List (List D)},(∀e∈es,e.length=sz)->∀k,(zcF es).drop (k*sz)=zcF (es.drop k)
 | [],_,k=>by simp[zcF]
 | e::es,h,k=>by
  cases k with
  | zero=>simp[zcF]
  | succ k=>
   have h1:=zyF (es:=es) (fun x hx=>h x (List.mem_cons_of_mem _ hx)) k
   have h2:=h e List.mem_cons_self
   have e1:zcF (e::es)=e.map .d++zcF es:=by simp[zcF]
   rw[e1,List.drop_succ_cons,← h1,List.drop_append,List.length_map,h2,show(k+1)*sz-sz=k*sz by rw[Nat.add_mul];omega,List.drop_of_length_le (by rw[List.length_map,h2,Nat.add_mul];omega)]
   rfl
theorem zwm {sz:Nat}{es:List (List D)}(h:∀e∈es,e.length=sz){k:Nat}{e:List D}(he:es[k]? = some e):((zcF es).drop (k*sz)).take sz=e.map .d:=by
 have hk:k<es.length:=(List.getElem?_eq_some_iff.1 he).1;have hl:=h e (List.mem_of_getElem? he);rw[zyF h,List.drop_eq_getElem_cons hk,(List.getElem?_eq_some_iff.1 he).2];simp only[zcF,List.flatten_cons,List.map_append];rw[List.take_append_of_le_length (by rw[List.length_map,hl];exact Nat.le_refl _),List.take_of_length_le (by rw[List.length_map,hl];exact Nat.le_refl _)]
theorem ztl {sz:Nat}{es:List (List D)}(h:∀e∈es,e.length=sz){k i:Nat}{e:List D}(he:es[k]? = some e)(hi:i<sz):(zcF es)[k*sz+i]?=(e[i]?).map .d:=by
 have h1:=zwm h he;have h2:(((zcF es).drop (k*sz)).take sz)[i]?=(zcF es)[k*sz+i]?:=by rw[List.getElem?_take,if_pos hi,List.getElem?_drop]
 rw[← h2,h1,List.getElem?_map]
structure TopI (x:zer):Prop where
 base:0<=x.base
 next:x.next<=9007199254740992
 recs:x.recs.length<=64
 groups:x.groups.length<=8
 name:x.name.length<=64
 each:∀r∈x.recs,r.length<=64
 gs:∀g∈x.groups,g.1.length<=64/\0<=g.2/\g.2<=9007199254740992
structure TopsI (T:ztJ):Prop where
 len:T.l.length<=8
 tops:∀x∈T.l,TopI x
theorem TopsI.none:TopsI ztU:=⟨by simp[ztU],by simp[ztU]⟩
def groupB (g:List UInt8 × Int):List UInt8:=zkq g.1++zbv g.2.toNat
def groupsB (l:List (List UInt8 × Int)):List UInt8:=(l.map groupB).flatten
def topB (x:zer):List UInt8:=zkq x.name++(zbv x.base.toNat++(zbv x.recs.length++(zrO x.recs++(zbv x.groups.length++groupsB x.groups))))
def topsBl (l:List zer):List UInt8:=(l.map topB).flatten
def lastB (a:Int × Int × Int):List UInt8:=zbv a.1.toNat++(zbv a.2.1.toNat++zbv a.2.2.toNat)
def lastsB (l:List (Int × Int × Int)):List UInt8:=(l.map lastB).flatten
def topsB (T:ztJ):List UInt8:=zbv T.l.length++(topsBl T.l++lastsB T.last)
def LastI (l:List (Int × Int × Int)):Prop:=∀a∈l,(0<=a.1/\a.1<=9007199254740992)/\(0<=a.2.1/\a.2.1<=9007199254740992)/\(0<=a.2.2/\a.2.2<=9007199254740992)
def PlI (p:znA):Prop:=0<=p.offset/\p.offset<=9007199254740992/\p.topic.length<=64/\p.rec_.length<=64
end Go.AW

/- Contracts: clones of slices, as rows and as data. -/
set_option maxRecDepth 100000
namespace Go.Proofs.YtdgcepphjnoalaaGreat
open Go.AW
variable {σ:List AObj} {K:KT}
theorem gq35 {P Q:Prop}(h:Q)(e:Hd Q->P:=by intro h;(repeat' first|simp -dsimp only[↓zlG,↓zbS,↓zee,↓zlH,↓zly,↓zlw,↓zlz,↓zlx,↓zej,↓zef,↓zek,↓zeg,↓zlA,↓zeb,↓zel,↓zeh,↓zem,↓zei,↓zlv,↓zlE,↓zea,↓zep,↓zln,↓zlm,↓zlt,iN,bT,bF,eN,↓zes,↓unC,↓zaB,↓zah,↓zai,↓zav,↓zaX,↓zag,↓zgA,↓zaw,↓zbf,↓zad,↓ze,↓zj,↓zaR,↓zc,↓zaV,↓zN,↓zbT,↓zcl,↓zf,↓zF,↓zp,↓zM,↓zaA,↓zgH,↓zhI,↓zbc,↓zby,↓zcf,↓zcA,↓zdo,↓zJ,↓zbb,↓zak,↓zO,↓zaU,zhr,zdU,zdB,unA,zgx,bnd,ziS,zaO,zL,zic,dm,dm1,zH,zaF,zjW,zjV,keepO,Q0,Q1,Q2,Q3,Q4,Q5,zba,zA,zB,zY,zab,Q6,Q7,Q8,Q9,Q10,Q11,Q12,Q13,Q14,Nat.reduceAdd,Q15,Int.reduceToNat,Q16,Q17,Q18,Q19,Q20,reduceIte,Q21,Q22,zy,rep,zaq,zhW,toD,zaC,Q23,Q24,Q25,Q26,Q27,Q28,Nat.reduceLeDiff,Q29,Nat.reduceSub,Q30,Q31,Q32,sc,Q33,Q34,Q35,Q36,Q37,Q26,Q38,Q39,zuF,zuC,zuz,zuG,zjv,zuD,zuA,zuE,zuB,zju,zjw,zuI,zuJ,Bool.not_true,Bool.not_false,List.length_map,Bool.and_false,Bool.and_self,Bool.false_and,Bool.not_false,Bool.not_true,Bool.true_and,Int.toNat_natCast,Int.toNat_zero,List.drop_zero,List.length_map,List.length_nil,List.nil_append,List.take_length,Nat.sub_zero,Nat.zero_add,Option.isSome_none,Option.isSome_some,Option.map_none,Option.map_some,zhR,zam,beq_self_eq_true,bft,bne_self_eq_false,btf,zuK,zic]|with_reducible refine zuX ?_|fail);exact h.go):P:=e ⟨h⟩
theorem c_clChangeM {es:List (List D)}(h8:∀e∈es,e.length=8)(hn:es.length<=1073741824)(hK:∀g,K (.rsl σ.length g 8 0 es.length) (σ++[.row g 8 (zcF es)])) :
  zP zca [.d (.slice es)] σ K:=by
 refine ACall.weaken ?_;refine zbN zdh.is rfl (fun s=>List.range' σ.length (s.length-σ.length)) fun hl _=>zdh.goes ?_;have fin:∀g,zsH σ.length (fun s=>List.range' σ.length (s.length-σ.length)) (fun r s=>∃r' s',zqd [r] s [r'] s'∧K r' s') (some [.rsl σ.length g 8 0 es.length]) (σ++[.row g 8 (zcF es)]):=fun g=>
  zdp (σ':=σ) (os:=[.row g 8 (zcF es)]) rfl (by simp) hl (by intro x hx;simp only[List.mem_cons,List.not_mem_nil,or_false]at hx;subst hx;exact zmv _ _) (.rsl _ _ _ _ _ (by simp)) ⟨_,_,.refl _ _,hK g⟩
 simp only[zdj,iN,bT,bF,eN,zl6];cases es with
 | nil=>
  simp only[zaA,zgx]
  refine⟨?_,?_⟩
  ·refine zG ?_
   refine znn (r:=.exact []) (by simp) hl rfl ?_
   exact⟨.rsl σ.length 0 8 0 0,σ++[.row 0 8 []],.row 0 8 rfl (by omega) (.refl _ _),hK 0⟩
  ·refine gq35 ?_
   exact fin 1
 | cons e es=>
  simp only[zaA,zgx]
  refine gq35 ?_
  exact⟨by simp at hn;omega,fin 1⟩
theorem c_clEntryM {es:List (List D)}(h8:∀e∈es,e.length=5)(hn:es.length<=1073741824)(hK:∀g,K (.rsl σ.length g 5 0 es.length) (σ++[.row g 5 (zcF es)])) :
  zP zcj [.d (.slice es)] σ K:=by
 refine ACall.weaken ?_;refine zbN zdJ.is rfl (fun s=>List.range' σ.length (s.length-σ.length)) fun hl _=>zdJ.goes ?_;have fin:∀g,zsH σ.length (fun s=>List.range' σ.length (s.length-σ.length)) (fun r s=>∃r' s',zqd [r] s [r'] s'∧K r' s') (some [.rsl σ.length g 5 0 es.length]) (σ++[.row g 5 (zcF es)]):=fun g=>
  zdp (σ':=σ) (os:=[.row g 5 (zcF es)]) rfl (by simp) hl (by intro x hx;simp only[List.mem_cons,List.not_mem_nil,or_false]at hx;subst hx;exact zmv _ _) (.rsl _ _ _ _ _ (by simp)) ⟨_,_,.refl _ _,hK g⟩
 simp only[zdN,iN,bT,bF,eN];cases es with
 | nil=>
  simp only[zaA,zgx]
  refine⟨?_,?_⟩
  ·refine zG ?_
   refine znn (r:=.exact []) (by simp) hl rfl ?_
   exact⟨.rsl σ.length 0 5 0 0,σ++[.row 0 5 []],.row 0 5 rfl (by omega) (.refl _ _),hK 0⟩
  ·refine gq35 ?_
   exact fin 1
 | cons e es=>
  simp only[zaA,zgx]
  refine gq35 ?_
  exact⟨by simp at hn;omega,fin 1⟩
theorem c_clPrepM {es:List (List D)}(h8:∀e∈es,e.length=7)(hn:es.length<=1073741824)(hK:∀g,K (.rsl σ.length g 7 0 es.length) (σ++[.row g 7 (zcF es)])) :
  zP zbw [.d (.slice es)] σ K:=by
 refine ACall.weaken ?_;refine zbN zcN.is rfl (fun s=>List.range' σ.length (s.length-σ.length)) fun hl _=>zcN.goes ?_;have fin:∀g,zsH σ.length (fun s=>List.range' σ.length (s.length-σ.length)) (fun r s=>∃r' s',zqd [r] s [r'] s'∧K r' s') (some [.rsl σ.length g 7 0 es.length]) (σ++[.row g 7 (zcF es)]):=fun g=>
  zdp (σ':=σ) (os:=[.row g 7 (zcF es)]) rfl (by simp) hl (by intro x hx;simp only[List.mem_cons,List.not_mem_nil,or_false]at hx;subst hx;exact zmv _ _) (.rsl _ _ _ _ _ (by simp)) ⟨_,_,.refl _ _,hK g⟩
 simp only[zcP,iN,bT,bF,eN,zl7];cases es with
 | nil=>
  simp only[zaA,zgx]
  refine⟨?_,?_⟩
  ·refine zG ?_
   refine znn (r:=.exact []) (by simp) hl rfl ?_
   exact⟨.rsl σ.length 0 7 0 0,σ++[.row 0 7 []],.row 0 7 rfl (by omega) (.refl _ _),hK 0⟩
  ·refine gq35 ?_
   exact fin 1
 | cons e es=>
  simp only[zaA,zgx]
  refine gq35 ?_
  exact⟨by simp at hn;omega,fin 1⟩
theorem c_clHdr {es:List (List D)}(h8:∀e∈es,e.length=5)(hn:es.length<=1073741824)(hK:K (.d (.slice es)) σ) :
  zP zbY [.d (.slice es)] σ K:=by
 refine zeA zgM fun hl=>?_;simp only[zdx,iN,bT,bF,eN,zaA,zgx];cases es with
 | nil=>
  refine⟨?_,?_⟩
  ·refine zG ?_
   refine zu hl ?_
   exact hK
  ·refine zG ?_
   refine zu hl ?_
   exact hK
 | cons e es=>
  simp only[zaB,zO,zH,zL,rep,zp,zhW,zaC,zM,zic]
  refine⟨h8,by simp,by simp at hn ⊢;omega,?_⟩
  refine zu hl ?_
  exact hK
theorem c_clDig {es:List (List D)}(h8:∀e∈es,e.length=1)(hn:es.length<=1073741824)(hK:K (.d (.slice es)) σ) :
  zP zbZ [.d (.slice es)] σ K:=by
 refine zeA zgN fun hl=>?_;simp only[zdy,iN,bT,bF,eN,zaA,zgx];cases es with
 | nil=>
  refine⟨?_,?_⟩
  ·refine zG ?_
   refine zu hl ?_
   exact hK
  ·refine zG ?_
   refine zu hl ?_
   exact hK
 | cons e es=>
  simp only[zaB,zO,zH,zL,rep,zp,zhW,zaC,zM,zic]
  refine⟨h8,by simp,by simp at hn ⊢;omega,?_⟩
  refine zu hl ?_
  exact hK
theorem c_clByt {es:List (List D)}(h8:∀e∈es,e.length=1)(hn:es.length<=1073741824)(hK:K (.d (.slice es)) σ) :
  zP zcV [.d (.slice es)] σ K:=by
 refine zeA znr fun hl=>?_;simp only[znB,iN,bT,bF,eN,zaA,zgx];cases es with
 | nil=>
  refine⟨?_,?_⟩
  ·refine zG ?_
   refine zu hl ?_
   exact hK
  ·refine zG ?_
   refine zu hl ?_
   exact hK
 | cons e es=>
  simp only[zaB,zO,zH,zL,rep,zp,zhW,zaC,zM,zic]
  refine⟨h8,by simp,by simp at hn ⊢;omega,?_⟩
  refine zu hl ?_
  exact hK
theorem znw {c:zjx}(hn:c.signs.length<=1073741824)(hK:K (zmk c) σ):zP zdE [zmk c] σ K:=by
 refine zeA zrl fun hl=>?_;simp only[zkX,iN,bT,bF,eN,zmk];refine zG ?_;refine c_clSign hn ?_;refine zG ?_;refine zu hl ?_;exact hK
theorem zzL {α:Type}{l:List α}{i:Nat}{x:α}(h:l[i]? = some x):l.take i++x::l.drop (i+1)=l:=by
 obtain⟨hi,hx⟩:=List.getElem?_eq_some_iff.1 h;rw[← hx,← List.drop_eq_getElem_cons hi,List.take_append_drop]
theorem row_same8 {es:List (List D)}{sz k:Nat}{e:List D}(h:∀e∈es,e.length=sz)(he:es[k]? = some e):(zcF es).take (k*sz)++(e.map AV.d++(zcF es).drop (k*sz+sz))=zcF es:=by
 have h1:=zwm h he;rw[← h1,← List.drop_drop,List.take_append_drop,List.take_append_drop]
variable {σ:List AObj} {K:KT}
theorem zwP {a b:List zI}(ha:a.length<=1073741824)(hK:K (.d (.bool (decide (a=b)))) σ) :
  zP zhy [.d (.slice (zat a)),.d (.slice (zat b))] σ K:=by
 refine zeq zww fun hl=>?_;have fin:∀z:Bool,decide (a=b)=z->K (.d (.bool z)) σ:=fun z hz=>by rw[← hz];exact hK
 clear hK;simp only[zpa,iN,bT,bF,eN];(refine gq11 ?_;try with_reducible exact True.intro);by_cases hl2:a.length=b.length
 ·have hne:((a.length:Int) != (b.length:Int))=false:=by simp[hl2]
  (refine gq10 hne ?_;try with_reducible exact True.intro);refine zn a.length (fun k vs s=>vs=[.d (.int .i64 k)]/\s=σ/\a.take k=b.take k) ⟨rfl,rfl,by simp⟩ ?_;rintro k vs s hk ⟨rfl,rfl,htk⟩;(refine gq11 ?_;try with_reducible exact True.intro);refine zW (fun h=>?_) (fun h=>?_)
  ·have hka:k<a.length:=by simp at h;omega
   have hx:a[k]? = some a[k]:=by simp[hka]
   have hy:b[k]? = some (b[k]'(by omega)):=List.getElem?_eq_getElem _;have hgx:=zR (f:=zgX) hx;have hgy:=zR (f:=zgX) hy;obtain⟨x,hxe⟩:∃x,a[k]=x:=⟨_,rfl⟩;obtain⟨y,hye⟩:∃y,b[k]'(by omega)=y:=⟨_,rfl⟩;rw[hxe]at hgx hx;rw[hye]at hgy hy;have hxy:x=y↔x.key=y.key/\x.dig=y.dig:=by cases x;cases y;simp
   cases h2:(x.key==y.key&&x.dig==y.dig)
   ·(refine gq14 (zjY hgx (zjY hgy h2)) ?_;try with_reducible exact True.intro);repeat'((with_reducible refine And.intro ?_ ?_);focus(first|omega|rfl|decide))
    try(refine gq14 (zjY hgx (zjY hgy h2)) ?_;try with_reducible exact True.intro)
    refine zu hl ?_;refine fin _ (decide_eq_false (by rintro rfl;rw[hx]at hy;have:=hxy.1 (Option.some.inj hy);simp[this.1,this.2]at h2))
   ·(refine gq14 (zjY hgx (zjY hgy h2)) ?_;try with_reducible exact True.intro);repeat'((with_reducible refine And.intro ?_ ?_);focus(first|omega|rfl|decide))
    try(refine gq14 (zjY hgx (zjY hgy h2)) ?_;try with_reducible exact True.intro)
    simp only[Bool.and_eq_true,beq_iff_eq]at h2;refine zaK.next hka ⟨?_,rfl,zbq hx hy htk (hxy.2 h2)⟩;rw[show(k:Int)+1=((k+1:Nat):Int) by omega,zaW (by omega) (by omega)]
  ·refine zu hl ?_;refine fin _ (decide_eq_true (zcu hl2 (k:=k) (by simp at h;omega) htk))
 ·have hne:((a.length:Int) != (b.length:Int))=true:=by simp;omega
  (refine gq10 hne ?_;try with_reducible exact True.intro);refine zu hl ?_;exact fin _ (decide_eq_false (by rintro rfl;exact hl2 rfl))
theorem ztD {a b:zjx}(ha:a.signs.length<=1073741824)(hK:K (.d (.bool (decide (a=b)))) σ) :
  zP zgG [zmk a,zmk b] σ K:=by
 refine zeq zxR fun hl=>?_;have fin:∀z:Bool,decide (a=b)=z->K (.d (.bool z)) σ:=fun z hz=>by rw[← hz];exact hK
 clear hK;have hab:a=b↔a.seq=b.seq/\a.dig=b.dig/\a.signs=b.signs:=by cases a;cases b;simp
 simp only[zqB,iN,bT,bF,eN];cases h1:(a.seq==b.seq)
 ·(refine gq10 h1 ?_;try with_reducible exact True.intro);refine zu hl ?_;refine fin _ (decide_eq_false fun h=>?_);simp[(hab.1 h).1]at h1
 cases h2:(a.dig==b.dig)
 ·(refine gq10 (zjY h1 h2) ?_;try with_reducible exact True.intro);refine zu hl ?_;refine fin _ (decide_eq_false fun h=>?_);simp[(hab.1 h).2.1]at h2
 (refine gq10 (zjY h1 h2) ?_;try with_reducible exact True.intro);refine zwP ha ?_;(refine gq9 ?_;try with_reducible exact True.intro);refine zu hl ?_;refine fin _ ?_;simp only[beq_iff_eq]at h1 h2;by_cases h3:a.signs=b.signs
 ·rw[decide_eq_true h3,decide_eq_true (hab.2 ⟨h1,h2,h3⟩)]
 ·rw[decide_eq_false h3,decide_eq_false (fun h=>h3 (hab.1 h).2.2)]
theorem zAw {a b:List zhS}(ha:a.length<=1073741824)(hA:∀x∈a,zgl x.batch)(hB:∀x∈b,zgl x.batch)(hK:K (.d (.bool (decide (a=b)))) σ) :
  zP ziw [.d (.slice (zbo a)),.d (.slice (zbo b))] σ K:=by
 refine zeq ztu fun hl=>?_;have fin:∀z:Bool,decide (a=b)=z->K (.d (.bool z)) σ:=fun z hz=>by rw[← hz];exact hK
 clear hK;simp only[zmM,iN,bT,bF,eN];(refine gq11 ?_;try with_reducible exact True.intro);by_cases hl2:a.length=b.length
 ·have hne:((a.length:Int) != (b.length:Int))=false:=by simp[hl2]
  (refine gq10 hne ?_;try with_reducible exact True.intro);refine zn a.length (fun k vs s=>vs=[.d (.int .i64 k)]/\s=σ/\a.take k=b.take k) ⟨rfl,rfl,by simp⟩ ?_;rintro k vs s hk ⟨rfl,rfl,htk⟩;(refine gq11 ?_;try with_reducible exact True.intro);refine zW (fun h=>?_) (fun h=>?_)
  ·have hka:k<a.length:=by simp at h;omega
   have hx:a[k]? = some a[k]:=by simp[hka]
   have hy:b[k]? = some (b[k]'(by omega)):=List.getElem?_eq_getElem _;have ax:=hA _ (List.getElem_mem hka);have bx:=hB _ (List.getElem_mem (show k<b.length by omega));have hgx:=zR (f:=zdI) hx;have hgy:=zR (f:=zdI) hy;obtain⟨x,hxe⟩:∃x,a[k]=x:=⟨_,rfl⟩;obtain⟨y,hye⟩:∃y,b[k]'(by omega)=y:=⟨_,rfl⟩;rw[hxe]at hgx hx ax;rw[hye]at hgy hy bx;have hxy:x=y↔x.view=y.view/\x.seq=y.seq/\(x.key=y.key/\x.dig=y.dig)/\x.batch=y.batch:=by cases x;cases y;simp;grind
   have neq:¬(x.view=y.view/\x.seq=y.seq/\(x.key=y.key/\x.dig=y.dig)/\x.batch=y.batch)->K (.d (.bool false)) s:=fun h=>fin _ (decide_eq_false (by rintro rfl;rw[hx]at hy;exact h (hxy.1 (Option.some.inj hy))));cases h1:(x.view != y.view);rotate_left
   ·(refine gq14 (zjY hgx (zjY hgy h1)) ?_;try with_reducible exact True.intro);repeat'((with_reducible refine And.intro ?_ ?_);focus(first|omega|rfl|decide))
    try(refine gq14 (zjY hgx (zjY hgy h1)) ?_;try with_reducible exact True.intro)
    refine zu hl ?_;refine neq (fun h=>?_);simp[h.1]at h1
   cases h2:(x.seq != y.seq);rotate_left
   ·(refine gq14 (zjY hgx (zjY hgy (zjY h1 h2))) ?_;try with_reducible exact True.intro);repeat'((with_reducible refine And.intro ?_ ?_);focus(first|omega|rfl|decide))
    try(refine gq14 (zjY hgx (zjY hgy (zjY h1 h2))) ?_;try with_reducible exact True.intro)
    refine zu hl ?_;refine neq (fun h=>?_);simp[h.2.1]at h2
   cases h3:(x.key==y.key&&x.dig==y.dig)
   ·(refine gq14 (zjY hgx (zjY hgy (zjY h1 (zjY h2 h3)))) ?_;try with_reducible exact True.intro);repeat'((with_reducible refine And.intro ?_ ?_);focus(first|omega|rfl|decide))
    try(refine gq14 (zjY hgx (zjY hgy (zjY h1 (zjY h2 h3)))) ?_;try with_reducible exact True.intro)
    refine zu hl ?_;refine neq (fun h=>?_);simp[h.2.2.1.1,h.2.2.1.2]at h3
   (refine gq14 (zjY hgx (zjY hgy (zjY h1 (zjY h2 h3)))) ?_;try with_reducible exact True.intro);repeat'((with_reducible refine And.intro ?_ ?_);focus(first|omega|rfl|decide))
   try(refine gq14 (zjY hgx (zjY hgy (zjY h1 (zjY h2 h3)))) ?_;try with_reducible exact True.intro)
   refine zvn ax bx ?_;by_cases h4:x.batch=y.batch
   ·rw[decide_eq_true h4];(refine gq11 ?_;try with_reducible exact True.intro);simp only[Bool.and_eq_true,beq_iff_eq,bne_eq_false_iff_eq]at h1 h2 h3;refine zaK.next hka ⟨?_,rfl,zbq hx hy htk (hxy.2 ⟨h1,h2,h3,h4⟩)⟩;rw[show(k:Int)+1=((k+1:Nat):Int) by omega,zaW (by omega) (by omega)]
   ·rw[decide_eq_false h4];(refine gq11 ?_;try with_reducible exact True.intro);refine zu hl ?_;exact neq (fun h=>h4 h.2.2.2)
  ·refine zu hl ?_;refine fin _ (decide_eq_true (zcu hl2 (k:=k) (by simp at h;omega) htk))
 ·have hne:((a.length:Int) != (b.length:Int))=true:=by simp;omega
  (refine gq10 hne ?_;try with_reducible exact True.intro);refine zu hl ?_;exact fin _ (decide_eq_false (by rintro rfl;exact hl2 rfl))
end Go.Proofs.YtdgcepphjnoalaaGreat

/- The numbers of a new view's entries fit. No program in sight. -/
namespace Go.AW
section
variable {P:Program} {σ:List AObj}
theorem ACall.frz {f:FuncId}{xs:List AV}{K:KT}(m:Nat)(h:ACall P f xs σ fun r s=>∃r',frzT s σ.length m r=some r'∧s.take σ.length=σ/\K r' σ):ACall P f xs σ K:=
 ⟨h.1,fun L w vs S hv=>(h.2 L w vs S hv).mono fun e w' he=>by
  cases e with
  | panicked _=>exact he
  | outgrown=>exact he
  | returned v=>
   obtain⟨L',σ',r,st,S',hr,r',hf,ht,hK⟩:=he
   have z2:zhp σ.length (σ'.take σ.length):=by rw[ht];exact S.lows
   have hS:=S'.take z2
   have hst:=st.take
   have hv:=zyD S' (L2:=L') (σ2:=σ'.take σ.length) (fun b o=>zrQ) (fun t x ht hx hk b o hf hown=>by
    obtain⟨id,y,hy,hfy⟩:=hown;rw[List.getElem?_take]at hy;split at hy
    ·rename_i hid;exact S'.apart id t y x b o (by omega) hy hx hfy hf
    ·cases hy) hr hf
   rw[ht]at hS hst hv
   exact⟨L',σ,r',hst,hS,hv,hK⟩⟩
end
end Go.AW

/- Rows: what is told of their cells. -/
set_option maxRecDepth 100000
namespace Go.Proofs.YtdgcepphjnoalaaGreat
open Go.AW
variable {σ:List AObj} {K:KT}
theorem ztk {n₀ m t g sz:Nat}{es:List (List D)}(ht:σ[t]? = some (.row g sz (zcF es)))(hn:n₀<=t)(h:∀e∈es,e.length=sz):frz σ n₀ (m+2) (.rsl t g sz 0 es.length)=some (.slice es):=by
 have hf:∀ds:List D,allO ((ds.map AV.d).map (frz σ n₀ (m+1)))=some ds:=by
  intro ds;induction ds with
  | nil=>rfl
  | cons d ds ih=>
   have:frz σ n₀ (m+1) (.d d)=some d:=rfl
   simp only[List.map_cons,this,allO,ih]
 have hc:∀(es:List (List D)),(∀e∈es,e.length=sz)->zaC sz es.length es.flatten=es:=by
  intro es;induction es with
  | nil=>intro _;rfl
  | cons e es ih=>
   intro h
   have he:=h e List.mem_cons_self
   simp only[List.length_cons,zaC,List.flatten_cons]
   rw[List.take_left' he,List.drop_left' he,ih fun x hx=>h x (List.mem_cons_of_mem _ hx)]
 have hl:(zcF es).length=es.length*sz:=zoD h;simp only[frz,ht,hn,true_and,and_self,if_true,Nat.zero_mul,List.drop_zero,Nat.sub_zero];rw[List.take_of_length_le (by omega),hf];simp only;rw[hc es h]
theorem frz_d (σ:List AObj)(n m:Nat)(x:D):frz σ n m (.d x)=some x:=by cases m<;>rfl
variable {σ:List AObj} {K:KT}
theorem preps_seven (l:List zkc):∀e∈zfw l,e.length=7:=zjn (f:=zgb) (fun _=>rfl) l
theorem changes_eight (l:List zbj):∀e∈zap l,e.length=8:=zjn (f:=zaj) (fun _=>rfl) l
theorem entries_five (l:List zhS):∀e∈zbo l,e.length=5:=zjn (f:=zdI) (fun _=>rfl) l
theorem zwT {c:zbj}(hc:zjR c)(hK:K (.agg (zbL c)) σ):zP zfM [.agg (zbL c)] σ K:=by
 refine zsx zid.is rfl 2 fun hl _=>zid.goes ?_;have hlen:(zfw c.above).length=c.above.length:=List.length_map ..;have h7:=preps_seven c.above;have hal:=hc.above;simp only[zig,iN,bT,bF,eN,zl6];refine zG ?_;refine znw (c:=c.cert) hc.signs ?_;refine zG ?_;refine c_clPrepM h7 (by omega) fun g=>?_;refine zm hlen ?_;refine zn c.above.length (fun k vs s=>vs=[.d (.int .i64 k)]/\s=σ++[AObj.box [.d (.int .i64 c.view),.d (.int .i64 c.src),.d (.int .i64 c.cert.seq),.d (.int .i64 c.cert.dig),.d (.slice (zat c.cert.signs)),.rsl (σ.length+2) g 7 0 c.above.length,.d (.int .i64 c.key),.d (.int .i64 c.dig)],
  .box [.d (.int .i64 0),.d (.int .i64 0),.d (.int .i64 0),.d (.int .i64 0),.exact [],.exact [],.d (.int .i64 0),.d (.int .i64 0)],.row g 7 (zcF (zfw c.above))]) ⟨rfl,by first|rfl|simp⟩ ?_
 rintro k vs s hk ⟨rfl,rfl⟩;by_cases hlt:k<c.above.length
 ·have hd:decide ((k:Int)<(c.above.length:Int))=true:=by simp;omega
  have hx:c.above[k]? = some c.above[k]:=by simp[hlt]
  have hgx:=zR (f:=zgb) hx;have hsm:=hc.each _ (List.getElem_mem hlt);obtain⟨p,hp⟩:∃p,c.above[k]=p:=⟨_,rfl⟩;rw[hp]at hx hgx hsm;have g5:=ztl h7 hgx (i:=5) (by omega);have g6:=ztl h7 hgx (i:=6) (by omega);have s5:=zzL g5;have s6:=zzL g6;have hfl:(zcF (zfw c.above)).length=c.above.length*7:=by rw[zoD h7,hlen]
  simp only[zgb,List.getElem?_cons_succ,List.getElem?_cons_zero,Option.map_some]at g5 g6 s5 s6;obtain⟨R,hR⟩:∃R,zcF (zfw c.above)=R:=⟨_,rfl⟩;rw[hR]at g5 g6 s5 s6 hfl ⊢;have zz5:k*7+5+1<=R.length:=by omega
  have zz6:k*7+6+1<=R.length:=by omega
  have zk:0<=(k:Int):=by omega
  refine zm (zd hd (zd g5 (zd g6 (zd s5 (zd s6 (zd zk (zd zz5 (zd zz6 hd)))))))) ?_;refine c_clSign hsm.signs ?_;refine zm (zd hd (zd g5 (zd g6 (zd s5 (zd s6 (zd zk (zd zz5 (zd zz6 hd)))))))) ?_;refine zkM (b:=p.batch) hsm.batch ?_;refine zm (zd hd (zd g5 (zd g6 (zd s5 (zd s6 (zd zk (zd zz5 (zd zz6 (wki k (by omega)))))))))) ?_;exact zaK.next hlt ⟨rfl,rfl⟩
 ·have hd:decide ((k:Int)<(c.above.length:Int))=false:=by simp;omega
  refine zm hd ?_;have hr:∀A B:AObj,frz (σ++[A,B,.row g 7 (zcF (zfw c.above))]) σ.length 2 (.rsl (σ.length+2) g 7 0 c.above.length)=some (.slice (zfw c.above)):=fun A B=>by
   rw[← hlen];exact ztk (m:=0) (by rw[zA];rfl) (by omega) h7
  refine zse (r:=.agg (zbL c)) ?_ hl hK;simp only[zcm,frzT,frz1,List.map_cons,List.map_nil,frz_d,hr,allO]
abbrev zero30:List AV:=[.d (.int .i64 0),.d (.int .i64 0),.d (.int .i64 0),.d (.int .i64 0),.d (.int .i64 0),.d (.int .i64 0),.d (.int .i64 0),.d (.int .i64 0),.d (.int .i64 0),.exact [],.d (.int .i64 0),.d (.int .i64 0),.exact [],.exact [],.exact [],.exact [],.d (.str []),.d (.int .i64 0),.d (.str []),.d (.int .i64 0),.exact [],.exact [],.d (.int .i64 0),.d (.int .i64 0),.exact [],.d (.int .i64 0),.d (.int .i64 0),.exact [],.d (.int .i64 0),.d (.int .i64 0)]
abbrev msgL2 (m:zbC) (a b:AV):List AV:=
 [.d (.int .i64 m.kind),.d (.int .i64 m.src),.d (.int .i64 m.view),.d (.int .i64 m.seq),.d (.int .i64 m.dig),.d (.int .i64 m.client),.d (.int .i64 m.time),.d (.int .i64 m.rerr),.d (.int .i64 m.roff),.d (.slice (zbz m.batch)),
  .d (.int .i64 m.cert.seq),.d (.int .i64 m.cert.dig),.d (.slice (zat m.cert.signs)),a,b,.d (.slice (bcs m.state)),.d (.str m.topic),.d (.int .i64 m.offset),
  .d (.str m.proof.topic),.d (.int .i64 m.proof.offset),.d (.slice (bcs m.proof.rec_)),.d (.slice (zmw m.proof.headers)),.d (.int .i64 m.proof.index),.d (.int .i64 m.proof.count),.d (.slice (zhY m.proof.path)),.d (.int .i64 m.proof.cert.seq),.d (.int .i64 m.proof.cert.dig),.d (.slice (zat m.proof.cert.signs)),.d (.int .i64 m.key),.d (.int .i64 m.sdig)]
variable {σ:List AObj} {K:KT}
theorem zwW {n lo hi:Int}(hK:K (.d (.int .i64 (inE n lo hi))) σ):zP zgd [.d (.int .i64 n),.d (.int .i64 lo),.d (.int .i64 hi)] σ K:=by
 refine acE3 e_r10_in fun hl=>?_;have fin:∀z,inE n lo hi=z->K (.d (.int .i64 z)) σ:=fun z h=>h▸hK;clear hK;simp only[S_r10_in,iN,bT,bF,eN];cases h1:decide (n<lo)
 ·cases h2:decide (n>hi)
  ·refine zm (zd h1 h2) ?_;refine zu hl ?_;exact fin 0 (by rw[inE,if_neg];simp at h1 h2;omega)
  ·refine zm (zd h1 h2) ?_;refine zu hl ?_;exact fin 100 (by rw[inE,if_pos];simp at h1 h2;omega)
 ·refine zm h1 ?_;refine zu hl ?_;exact fin 100 (by rw[inE,if_pos];simp at h1;omega)
theorem ziZ {n:Int}(hK:K (.d (.int .i64 (zeU n))) σ):zP zcp [.d (.int .i64 n)] σ K:=by
 refine zeA e_r10_num fun hl=>?_;simp only[S_r10_num,iN,bT,bF,eN];refine zG ?_;refine zwW ?_;refine zG ?_;refine zu hl ?_;exact hK
theorem zqs {n:Int}(hK:K (.d (.int .i64 (zkr n))) σ):zP zfg [.d (.int .i64 n)] σ K:=by
 refine zeA e_r10_pos fun hl=>?_;simp only[S_r10_pos,iN,bT,bF,eN];refine zG ?_;refine zwW ?_;refine zG ?_;refine zu hl ?_;exact hK
theorem c_kName {x:List UInt8}(hx:x.length<=1073741824)(hK:K (.d (.int .i64 (zlf x))) σ):zP zpA [.d (.str x)] σ K:=by
 refine zeA e_r10_name fun hl=>?_;have fin:∀z,zlf x=z->K (.d (.int .i64 z)) σ:=fun z h=>h▸hK;clear hK;simp only[zzk,iN,bT,bF,eN];refine zG ?_;refine c_rName hx ?_;cases h:zev x
 ·refine zG ?_;refine zu hl ?_;exact fin 61 (by rw[zlf,if_neg (by simp[h])])
 ·refine zG ?_;refine zu hl ?_;exact fin 0 (by rw[zlf,if_pos h])
theorem fst_drop {l:List Int}{k:Nat}{x:Int}(hx:l[k]? = some x):zax (l.drop k)=if x≠0 then x else zax (l.drop (k+1)):=by
 have hk:k<l.length:=(List.getElem?_eq_some_iff.1 hx).1;rw[List.drop_eq_getElem_cons hk,(List.getElem?_eq_some_iff.1 hx).2];rfl
theorem zeJ {l:List Int}(hl0:l.length<=1073741824)(hK:K (.d (.int .i64 (zax l))) σ):zP zbs [.d (.slice (zhY l))] σ K:=by
 refine zeA e_r10_first fun hl=>?_;have fin:∀z,zax l=z->K (.d (.int .i64 z)) σ:=fun z h=>h▸hK;clear hK;have hlen:(zhY l).length=l.length:=List.length_map ..;simp only[zxl,iN,bT,bF,eN];refine zn l.length (fun k vs s=>vs=[.d (.int .i64 k)]/\s=σ/\zax l=zax (l.drop k)) ⟨rfl,rfl,by simp⟩ ?_;rintro k vs s hk ⟨rfl,rfl,hpf⟩;by_cases hlt:k<l.length
 ·have hd:decide ((k:Int)<(l.length:Int))=true:=by simp;omega
  have hx:l[k]? = some l[k]:=by simp[hlt]
  have hgx:=zR (f:=fun t=>[D.int .i64 t]) hx;obtain⟨x,hxe⟩:∃x,l[k]=x:=⟨_,rfl⟩;rw[hxe]at hx hgx;rw[fst_drop hx]at hpf;cases h1:(x != 0)
  ·rw[if_neg (by simpa using h1)]at hpf;refine zm (zd hd (zd hgx (zd hlen (zd h1 (wkc k (by omega)))))) ?_;exact zaK.next hlt ⟨rfl,rfl,hpf⟩
  ·rw[if_pos (by simpa using h1)]at hpf;refine zm (zd hd (zd hgx (zd hlen h1))) ?_;refine zu hl ?_;exact fin _ hpf
 ·have hd:decide ((k:Int)<(l.length:Int))=false:=by simp;omega
  rw[List.drop_eq_nil_of_le (by omega)]at hpf;refine zm (zd hd hlen) ?_;refine zu hl ?_;exact fin _ hpf
theorem c_kSigns {l:List zI}(hl0:l.length<=1073741824)(hK:K (.d (.int .i64 (zax (zco l)))) σ):zP zku [.d (.slice (zat l))] σ K:=by
 refine zeA e_r10_signs fun hl=>?_;have fin:∀z,zax (zco l)=z->K (.d (.int .i64 z)) σ:=fun z h=>h▸hK;clear hK;have hlen:(zat l).length=l.length:=List.length_map ..;simp only[zxj,iN,bT,bF,eN];cases h0:decide ((l.length:Int)>13);rotate_left
 ·refine zm (zd hlen h0) ?_;refine zu hl ?_;refine fin 100 ?_;have:inE l.length 0 13=100:=by rw[inE,if_pos];simp at h0;omega
  simp[zco,zax,this]
 refine zm (zd hlen h0) ?_;have e0:zax (zco l)=zax (l.map fun s=>zx s.key s.dig):=by
  have:inE l.length 0 13=0:=by rw[inE,if_neg];simp at h0;omega
  simp[zco,zax,this]
 refine zn l.length (fun k vs s=>vs=[.d (.int .i64 k)]/\s=σ/\zax (zco l)=zax ((l.map fun s=>zx s.key s.dig).drop k)) ⟨rfl,rfl,by simpa using e0⟩ ?_;rintro k vs s hk ⟨rfl,rfl,hpf⟩;by_cases hlt:k<l.length
 ·have hd:decide ((k:Int)<(l.length:Int))=true:=by simp;omega
  have hx:l[k]? = some l[k]:=by simp[hlt]
  have hgx:=zR (f:=zgX) hx;obtain⟨x,hxe⟩:∃x,l[k]=x:=⟨_,rfl⟩;rw[hxe]at hx hgx;rw[fst_drop (x:=zx x.key x.dig) (by simp[hx])]at hpf;refine gq19 (zd hd (zd hgx hlen)) ?_;refine zbI ?_;cases h1:(zx x.key x.dig != 0)
  ·rw[if_neg (by simpa using h1)]at hpf;refine zm (zd h1 (wkc k (by omega))) ?_;exact zaK.next hlt ⟨rfl,rfl,hpf⟩
  ·rw[if_pos (by simpa using h1)]at hpf;refine zm h1 ?_;refine zu hl ?_;exact fin _ hpf
 ·have hd:decide ((k:Int)<(l.length:Int))=false:=by simp;omega
  rw[List.drop_eq_nil_of_le (by simp;omega)]at hpf;refine zm (zd hd hlen) ?_;refine zu hl ?_;exact fin _ hpf
theorem c_kCert {c:zjx}(hl0:c.signs.length<=1073741824)(hK:K (.d (.int .i64 (zax (zbx c)))) σ):zP zfK [zmk c] σ K:=by
 refine zeA zwB fun hl=>?_;have fin:∀z,zax (zbx c)=z->K (.d (.int .i64 z)) σ:=fun z h=>h▸hK;clear hK;have hlen:(zat c.signs).length=c.signs.length:=List.length_map ..;simp only[zpf,iN,bT,bF,eN,zmk];refine zG ?_;refine ziZ ?_;refine zG ?_;refine ziZ ?_;refine zG ?_;refine zeJ (l:=[zeU c.seq,zeU c.dig]) (by simp) ?_;have e2:zax (zbx c)=if zax [zeU c.seq,zeU c.dig]≠0 then zax [zeU c.seq,zeU c.dig]else zax (zfe c::zco c.signs):=by
  rw[← zeH];rfl
 cases h1:(zax [zeU c.seq,zeU c.dig] != 0);rotate_left
 ·refine zm h1 ?_;refine zu hl ?_;exact fin _ (by rw[e2,if_pos (by simpa using h1)])
 have h1':zax [zeU c.seq,zeU c.dig]=0:=by simpa using h1
 rw[if_neg (by simpa using h1)]at e2;have hs:zeU c.seq=0:=by
  simp only[zax]at h1';split at h1'
  ·rename_i h;exact absurd h1' h
  ·rename_i h;simpa using h
 have hsq:=zrR hs;have yes:zfe c=0->zP zku [.d (.slice (zat c.signs))] (σ++[AObj.box [AV.d (D.int .i64 c.seq),AV.d (D.int .i64 c.dig),AV.d (D.slice (zat c.signs))]]) fun G s=>z1 (AW.Ends σ.length K) G s:=fun h=>by
  refine c_kSigns hl0 ?_;refine zG ?_;refine zu hl ?_;refine fin _ ?_;rw[e2];simp[zax,h]
 have no:zfe c=100->zax (zbx c)=100:=fun h=>by rw[e2];simp[zax,h]
 cases h2:(c.seq==0)
 ·have h2':¬c.seq=0:=by simpa using h2
  have h3:decide (c.seq>0)=true:=by simp;omega
  cases h4:(c.dig==0)
  ·refine zm (zd h1 (zd h2 (zd h3 h4))) ?_;exact yes (by simp at h4;simp[zfe,h2',h4])
  ·refine zm (zd h1 (zd h2 (zd h3 h4))) ?_;refine zu hl ?_;exact fin 100 (no (by simp at h4;simp[zfe,h2',h4]))
 ·have h2':c.seq=0:=by simpa using h2
  have h3:decide (c.seq>0)=false:=by simp;omega
  cases h4:(c.dig != 0)
  ·cases h5:decide ((c.signs.length:Int)>0)
   ·refine zm (zd h1 (zd h2 (zd h3 (zd h4 (zd hlen h5))))) ?_;exact yes (by simp at h4 h5;simp[zfe,h2',h4,h5])
   ·refine zm (zd h1 (zd h2 (zd h3 (zd h4 (zd hlen h5))))) ?_;refine zu hl ?_;refine fin 100 (no ?_);simp only[decide_eq_true_eq]at h5;rw[zfe,if_pos (.inr ⟨h2',by omega⟩)]
  ·refine zm (zd h1 (zd h2 (zd h3 h4))) ?_;refine zu hl ?_;exact fin 100 (no (by simp at h4;simp[zfe,h2',h4]))
theorem c_kHdr {h:zsK}(hK:K (.d (.int .i64 (zax (zhi h)))) σ):zP ziv [hdrA h] σ K:=by
 refine zeA zts fun hl=>?_;simp only[zmL,iN,bT,bF,eN,hdrA];refine zG ?_;refine zqs ?_;refine zG ?_;refine ziZ ?_;refine zG ?_;refine ziZ ?_;refine zG ?_;refine ziZ ?_;refine zG ?_;refine ziZ ?_;refine zG ?_;refine zeJ (l:=zhi h) (by simp[zhi]) ?_;refine zG ?_;refine zu hl ?_;exact hK
theorem c_kProof {p:zfl}(hp:zqN p)(hK:K (.d (.int .i64 (zmj p))) σ):zP zjr [znD p] σ K:=by
 refine zeA zuP fun hl=>?_;have fin:∀z,zmj p=z->K (.d (.int .i64 z)) σ:=fun z h=>h▸hK;clear hK;have hrl:=zam p.rec_;have hhl:(zmw p.headers).length=p.headers.length:=List.length_map ..;have hpl:(zhY p.path).length=p.path.length:=List.length_map ..;simp only[znN,iN,bT,bF,eN,znD];refine zm (zd hrl hhl) ?_;refine c_kName (by have:=hp.topic;omega) ?_;refine zG ?_;refine ziZ ?_;refine zG ?_;refine zwW ?_;refine zG ?_;refine zwW ?_;refine zG ?_;refine zeJ (l:=zgD p) (by simp[zgD]) ?_;cases h1:(zax (zgD p) != 0);rotate_left
 ·refine zm h1 ?_;refine zu hl ?_;exact fin _ (by rw[zmj,zcU,zhK (by simpa using h1)])
 have e1:zmj p=zax ((p.headers.map zhi).flatten++(zfG p++(zhu p++(p.path.map zeU++zbx p.cert)))):=by
  rw[zmj,zcU,zgJ (by simpa using h1)]
 obtain⟨Q,hQ⟩:∃Q,zfG p++(zhu p++(p.path.map zeU++zbx p.cert))=Q:=⟨_,rfl⟩;rw[hQ]at e1;refine zm h1 ?_;refine zn p.headers.length (fun k vs s=>vs=[.d (.int .i64 k)]/\s=σ++[zop p]/\zmj p=zax (((p.headers.drop k).map zhi).flatten++Q)) ⟨rfl,rfl,by simpa using e1⟩ ?_;rintro k vs s hk ⟨rfl,rfl,hpf⟩;by_cases hlt:k<p.headers.length
 ·have hd:decide ((k:Int)<(p.headers.length:Int))=true:=by simp;omega
  have hx:p.headers[k]? = some p.headers[k]:=by simp[hlt]
  have hgx:=zR (f:=zxI) hx;have hdr:p.headers.drop k=p.headers[k]::p.headers.drop (k+1):=List.drop_eq_getElem_cons hlt;obtain⟨h,hhe⟩:∃h,p.headers[k]=h:=⟨_,rfl⟩;rw[hhe]at hx hgx hdr;have hph:=hp.headers;rw[hdr,List.map_cons,List.flatten_cons,List.append_assoc,zeH]at hpf;refine zm (zd hd (zd hgx hhl)) ?_;refine c_kHdr (h:=h) ?_;cases h2:(zax (zhi h) != 0)
  ·rw[if_neg (by simpa using h2)]at hpf;refine zm (zd h2 (wkc k (by omega))) ?_;exact zaK.next hlt ⟨rfl,rfl,hpf⟩
  ·rw[if_pos (by simpa using h2)]at hpf;refine zm h2 ?_;refine zu hl ?_;exact fin _ hpf
 ·have hd:decide ((k:Int)<(p.headers.length:Int))=false:=by simp;omega
  rw[List.drop_eq_nil_of_le (by omega),List.map_nil,List.flatten_nil,List.nil_append,← hQ]at hpf;refine zm (zd hd hhl) ?_;refine ziZ ?_;refine zG ?_;refine zwW ?_;refine zG ?_;refine zeJ (l:=zfG p) (by simp[zfG]) ?_;cases h2:(zax (zfG p) != 0);rotate_left
  ·refine zm h2 ?_;refine zu hl ?_;exact fin _ (by rw[hpf,zhK (by simpa using h2)])
  have h2':zax (zfG p)=0:=by simpa using h2
  rw[zgJ h2']at hpf;have hix:zeU p.index=0/\inE p.count 0 16=0:=by
   simp only[zfG,zax]at h2';split at h2'
   ·rename_i h;exact absurd h2' h
   ·rename_i h;split at h2'
    ·rename_i h3;exact absurd h2' h3
    ·rename_i h3;exact⟨by simpa using h,by simpa using h3⟩
  have i1:=zrR hix.1;have i2:=zkF hix.2;have bad:(p.index≥p.count∨(p.path.length:Int)>8)->zax (zhu p)=100:=fun h=>by
   simp only[zhu,zax];by_cases hh:p.index≥p.count
   ·have:inE p.index 0 (p.count-1)=100:=by rw[inE,if_pos];omega
    simp[this]
   ·have a:inE p.index 0 (p.count-1)=0:=by rw[inE,if_neg];omega
    have b:inE p.path.length 0 8=100:=by rw[inE,if_pos];omega
    simp[a,b]
  cases h3:decide (p.index≥p.count);rotate_left
  ·refine zm (zd h2 h3) ?_;refine zu hl ?_;refine fin _ ?_;have:=bad (.inl (by simpa using h3));rw[hpf,zhK (by rw[this];decide),this]
  cases h4:decide ((p.path.length:Int)>8);rotate_left
  ·refine zm (zd h2 (zd h3 (zd hpl h4))) ?_;refine zu hl ?_;refine fin _ ?_;have:=bad (.inr (by simpa using h4));rw[hpf,zhK (by rw[this];decide),this]
  have h5:zax (zhu p)=0:=by
   simp only[decide_eq_false_iff_not]at h3 h4;have a:inE p.index 0 (p.count-1)=0:=by rw[inE,if_neg];omega
   have b:inE p.path.length 0 8=0:=by rw[inE,if_neg];omega
   simp[zhu,zax,a,b]
  rw[zgJ h5]at hpf;refine zm (zd h2 (zd h3 (zd hpl h4))) ?_;have hpb:=hp.path;refine zn p.path.length (fun k vs s=>vs=[.d (.int .i64 k)]/\s=σ++[zop p]/\zmj p=zax ((p.path.drop k).map zeU++zbx p.cert)) ⟨rfl,rfl,by simpa using hpf⟩ ?_;rintro j vs s hj ⟨rfl,rfl,hpf2⟩;by_cases hjl:j<p.path.length
  ·have hd2:decide ((j:Int)<(p.path.length:Int))=true:=by simp;omega
   have hy:p.path[j]? = some p.path[j]:=by simp[hjl]
   have hgy:=zR (f:=fun t=>[D.int .i64 t]) hy;have hdr:p.path.drop j=p.path[j]::p.path.drop (j+1):=List.drop_eq_getElem_cons hjl;obtain⟨y,hye⟩:∃y,p.path[j]=y:=⟨_,rfl⟩;rw[hye]at hy hgy hdr;rw[hdr,List.map_cons,List.cons_append]at hpf2;simp only[zax]at hpf2;refine zm (zd hd2 (zd hgy hpl)) ?_;refine ziZ ?_;cases h6:(zeU y != 0)
   ·rw[if_neg (by simpa using h6)]at hpf2;refine zm (zd h6 (wkc j (by omega))) ?_;exact zaK.next hjl ⟨rfl,rfl,hpf2⟩
   ·rw[if_pos (by simpa using h6)]at hpf2;refine zm h6 ?_;refine zu hl ?_;exact fin _ hpf2
  ·have hd2:decide ((j:Int)<(p.path.length:Int))=false:=by simp;omega
   rw[List.drop_eq_nil_of_le (by omega),List.map_nil,List.nil_append]at hpf2;refine zm (zd hd2 hpl) ?_;refine c_kCert (c:=p.cert) hp.signs ?_;refine zG ?_;refine zu hl ?_;exact fin _ hpf2
variable {σ:List AObj} {K:KT}
theorem zwl (l r:List Int):zax (zax l::r)=zax (l++r):=by
 rw[zeH];rfl
theorem zAc {α:Type}{f:α->List Int}{l:List α}{k:Nat}{x:α}(h:l[k]? = some x)(h0:∀y∈l.take k,zax (f y)=0)(hx:zax (f x)≠0)(r:List Int):zax ((l.map f).flatten++r)=zax (f x):=by
 have e:l=l.take k++x::l.drop (k+1):=by
  obtain⟨hk,rfl⟩:=List.getElem?_eq_some_iff.1 h;simp
 have z:∀m:List α,(∀y∈m,zax (f y)=0)->zax ((m.map f).flatten)=0:=by
  intro m;induction m with
  | nil=>intro _;rfl
  | cons y m ih=>intro h;simp only[List.map_cons,List.flatten_cons];rw[zgJ (h y (by simp))];exact ih fun z hz=>h z (by simp[hz])
 rw[e,List.map_append,List.flatten_append,List.append_assoc,zgJ (z _ h0),List.map_cons,List.flatten_cons,List.append_assoc,zhK hx]
theorem zsc {α:Type}{f:α->List Int}:∀ {l:List α},(∀y∈l,zax (f y)=0)->zax ((l.map f).flatten)=0
 | [],_=>rfl
 | y::l,h=>by simp only[List.map_cons,List.flatten_cons];rw[zgJ (h y (by simp))];exact zsc fun z hz=>h z (by simp[hz])
theorem zja {n:Int}(hK:K (.d (.int .i64 (zjE n))) σ):zP zdr [.d (.int .i64 n)] σ K:=by
 refine zeA e_r10_broker fun hl=>?_;simp only[zun,iN,bT,bF,eN];refine zG ?_;refine zwW ?_;refine zG ?_;refine zu hl ?_;exact hK
theorem c_kPrep {p:zkc}(hs:p.signs.length<=1073741824)(hb:okB p.batch)(hK:K (.d (.int .i64 (zax (zdX p)))) σ) :
  zP zha [.agg [.d (.int .i64 p.view),.d (.int .i64 p.seq),.d (.int .i64 p.dig),.d (.int .i64 p.fkey),.d (.int .i64 p.fdig),.d (.slice (zat p.signs)),.d (.slice (zbz p.batch))]] σ K:=by
 refine zeA zrg fun hl=>?_;simp only[zkR,iN,bT,bF,eN];refine zG ?_;refine ziZ ?_;refine zG ?_;refine zqs ?_;refine zG ?_;refine zqs ?_;refine zG ?_;refine zbI ?_;refine zG ?_;refine c_kSigns hs ?_;refine zG ?_;refine zhP hb ?_;refine zG ?_;refine zeJ (l:=[zeU p.view,zkr p.seq,zkr p.dig,zx p.fkey p.fdig,zax (zco p.signs),zD p.batch]) (by simp) ?_;have e:zax [zeU p.view,zkr p.seq,zkr p.dig,zx p.fkey p.fdig,zax (zco p.signs),zD p.batch]=zax (zdX p):=by
  simp only[zdX,zwl,zax];rw[← zwl];rfl
 rw[e];refine zG ?_;refine zu hl ?_;exact hK
theorem c_kBody {c:zbj}(hc:okCh c)(hK:K (.d (.int .i64 (zax (zez c)))) σ):zP zkw [.agg (zbL c)] σ K:=by
 refine zeA zwz fun hl=>?_;have fin:∀z,zax (zez c)=z->K (.d (.int .i64 z)) σ:=fun z h=>h▸hK;clear hK;have hpl:(zfw c.above).length=c.above.length:=List.length_map ..;have hal:=hc.above;simp only[zpd,iN,bT,bF,eN];refine zG ?_;refine zqs ?_;refine zG ?_;refine zja ?_;refine zG ?_;refine c_kCert (c:=c.cert) hc.signs ?_;refine zG ?_;refine zeJ (l:=[zkr c.view,zjE c.src,zax (zbx c.cert)]) (by simp) ?_;have e:∀r,zax (zkr c.view::zjE c.src::(zbx c.cert++r))=if zax [zkr c.view,zjE c.src,zax (zbx c.cert)]≠0 then zax [zkr c.view,zjE c.src,zax (zbx c.cert)]else zax r:=by
  intro r;rw[← zeH];simp only[List.cons_append,List.nil_append,zax];rw[zeH]
 cases h1:(zax [zkr c.view,zjE c.src,zax (zbx c.cert)] != 0);rotate_left
 ·refine zm h1 ?_;refine zu hl ?_;exact fin _ (by rw[zez,e,if_pos (by simpa using h1)])
 have e1:zax (zez c)=zax (inE c.above.length 0 8::(c.above.map zdX).flatten):=by rw[zez,e,if_neg (by simpa using h1)]
 by_cases h2:c.above.length>8
 ·have h2':decide ((c.above.length:Int)>8)=true:=by simp;omega
  refine zm (zd h1 (zd hpl h2')) ?_;refine zu hl ?_;exact fin _ (by rw[e1,inE,if_pos (by omega)];rfl)
 have h2':decide ((c.above.length:Int)>8)=false:=by simp;omega
 have e2:zax (zez c)=zax ((c.above.map zdX).flatten):=by rw[e1,inE,if_neg (by omega)];rfl
 refine zm (zd h1 (zd hpl h2')) ?_;refine zn c.above.length (fun k vs s=>vs=[.d (.int .i64 k)]/\s=σ++[.box (zbL c)]/\∀p∈c.above.take k,zax (zdX p)=0) ⟨rfl,rfl,by simp⟩ ?_;rintro k vs s hk ⟨rfl,rfl,h0⟩;by_cases hlt:k<c.above.length
 ·have hd:decide ((k:Int)<(c.above.length:Int))=true:=by simp;omega
  have hx:c.above[k]? = some c.above[k]:=by simp[hlt]
  have hpx:=hc.each _ (List.getElem_mem hlt);have hgx:=zR (f:=zgb) hx;obtain⟨p,hp⟩:∃p,c.above[k]=p:=⟨_,rfl⟩;rw[hp]at hx hgx hpx;refine zdV (zd hd (zd hgx hpl)) ?_;refine c_kPrep (p:=p) hpx.1 hpx.2 ?_;cases h3:(zax (zdX p) != 0)
  ·refine zm (zd h3 (wkc k (by omega))) ?_;refine zaK.next hlt ⟨rfl,rfl,?_⟩;intro q hq;rw[List.take_add_one,hx]at hq;simp at hq;rcases hq with hq|rfl
   ·exact h0 q hq
   ·simpa using h3
  ·refine zm h3 ?_;refine zu hl ?_;refine fin _ ?_;have:=zAc hx h0 (by simpa using h3) [];rw[List.append_nil]at this;rw[e2,this]
 ·have hd:decide ((k:Int)<(c.above.length:Int))=false:=by simp;omega
  rw[List.take_of_length_le (by omega)]at h0;refine zm (zd hd hpl) ?_;refine zu hl ?_;exact fin _ (by rw[e2,zsc h0])
theorem c_kChange {c:zbj}(hc:okCh c)(hK:K (.d (.int .i64 (zax (zaT c)))) σ):zP zge [.agg (zbL c)] σ K:=by
 refine zeA ztv fun hl=>?_;simp only[zmN,iN,bT,bF,eN];refine zG ?_;refine c_kBody (c:=c) hc ?_;refine zG ?_;refine zbI ?_;refine zG ?_;refine zeJ (l:=[zax (zez c),zx c.key c.dig]) (by simp) ?_;rw[zwl];refine zG ?_;refine zu hl ?_;exact hK
variable {σ:List AObj} {K:KT}
theorem c_kEntry {x:zhS}(hb:okB x.batch)(hK:K (.d (.int .i64 (zax (zen x)))) σ):zP zjp [entryA x] σ K:=by
 refine zeA zuN fun hl=>?_;simp only[znL,iN,bT,bF,eN];refine zG ?_;refine ziZ ?_;refine zG ?_;refine zqs ?_;refine zG ?_;refine zhP hb ?_;refine zG ?_;refine zbI ?_;refine zG ?_;refine zeJ (l:=zen x) (by simp[zen]) ?_;refine zG ?_;refine zu hl ?_;exact hK
theorem zrX {α:Type}{P:α->Prop}{l:List α}{k:Nat}{x:α}(hx:l[k]? = some x)(h0:∀y∈l.take k,P y)(h:P x):∀y∈l.take (k+1),P y:=by
 intro q hq;rw[List.take_add_one,hx]at hq;simp at hq;rcases hq with hq|rfl
 ·exact h0 q hq
 ·exact h
theorem c_kNewView {m:zbC}(hm:zaI m)(hk:m.kind=8)(hK:K (.d (.int .i64 (zax (zac m)))) σ):zP zhB [zgi m] σ K:=by
 refine zeA zsf fun hl=>?_;have fin:∀z,zax (zac m)=z->K (.d (.int .i64 z)) σ:=fun z h=>h▸hK;clear hK;have hcl:(zap m.changes).length=m.changes.length:=List.length_map ..;have hel:(zbo m.entries).length=m.entries.length:=List.length_map ..;have hcl1:=hm.changes;have hel1:=hm.entries;have e0:zax (zac m)=zax ([zjE m.src,zkr m.view,inE m.changes.length 0 13]++((m.changes.map zaT).flatten++(inE m.entries.length 0 8::((m.entries.map zen).flatten++[zx m.key m.sdig])))):=by
  simp[zac,zC,hk,zfH,show zeT 8=true from rfl]
 simp only[zlL,iN,bT,bF,eN];refine zG ?_;refine zja ?_;refine zG ?_;refine zqs ?_;refine zm hcl ?_;refine zwW ?_;refine zG ?_;refine zeJ (l:=[zjE m.src,zkr m.view,inE m.changes.length 0 13]) (by simp) ?_;cases h1:(zax [zjE m.src,zkr m.view,inE m.changes.length 0 13] != 0);rotate_left
 ·refine zm h1 ?_;refine zu hl ?_;exact fin _ (by rw[e0,zhK (by simpa using h1)])
 rw[zgJ (by simpa using h1)]at e0;refine zm h1 ?_;refine zn m.changes.length (fun k vs s=>vs=[.d (.int .i64 k)]/\s=σ++[zlg m]/\∀c∈m.changes.take k,zax (zaT c)=0) ⟨rfl,rfl,by simp⟩ ?_;rintro k vs s hk0 ⟨rfl,rfl,h0⟩;by_cases hlt:k<m.changes.length
 ·have hd:decide ((k:Int)<(m.changes.length:Int))=true:=by simp;omega
  have hx:m.changes[k]? = some m.changes[k]:=by simp[hlt]
  have hpx:=hm.change _ (List.getElem_mem hlt);have hgx:=zR (f:=zaj) hx;obtain⟨p,hp⟩:∃p,m.changes[k]=p:=⟨_,rfl⟩;rw[hp]at hx hgx hpx;refine zdV (zd hd (zd hgx hcl)) ?_;refine c_kChange (c:=p) hpx.1 ?_;cases h3:(zax (zaT p) != 0)
  ·refine zm (zd h3 (wkc k (by omega))) ?_;exact zaK.next hlt ⟨rfl,rfl,zrX hx h0 (by simpa using h3)⟩
  ·refine zm h3 ?_;refine zu hl ?_;exact fin _ (by rw[e0,zAc hx h0 (by simpa using h3)])
 have hd:decide ((k:Int)<(m.changes.length:Int))=false:=by simp;omega
 rw[List.take_of_length_le (by omega)]at h0;rw[zgJ (zsc h0)]at e0;by_cases h2:m.entries.length>8
 ·have h2':decide ((m.entries.length:Int)>8)=true:=by simp;omega
  refine zm (zd hd (zd hcl (zd hel h2'))) ?_;refine zu hl ?_;exact fin _ (by rw[e0,inE,if_pos (by omega)];rfl)
 have h2':decide ((m.entries.length:Int)>8)=false:=by simp;omega
 have e1:zax (zac m)=zax ((m.entries.map zen).flatten++[zx m.key m.sdig]):=by rw[e0,inE,if_neg (by omega)];rfl
 refine zm (zd hd (zd hcl (zd hel h2'))) ?_;refine zn m.entries.length (fun k vs s=>vs=[.d (.int .i64 k)]/\s=σ++[zlg m]/\∀c∈m.entries.take k,zax (zen c)=0) ⟨rfl,rfl,by simp⟩ ?_;rintro k vs s hk1 ⟨rfl,rfl,h0⟩;by_cases hlt:k<m.entries.length
 ·have hd:decide ((k:Int)<(m.entries.length:Int))=true:=by simp;omega
  have hx:m.entries[k]? = some m.entries[k]:=by simp[hlt]
  have hpx:=hm.entry _ (List.getElem_mem hlt);have hgx:=zR (f:=zdI) hx;obtain⟨p,hp⟩:∃p,m.entries[k]=p:=⟨_,rfl⟩;rw[hp]at hx hgx hpx;refine zdV (zd hd (zd hgx hel)) ?_;refine c_kEntry (x:=p) hpx.1 ?_;cases h3:(zax (zen p) != 0)
  ·refine zm (zd h3 (wkc k (by omega))) ?_;exact zaK.next hlt ⟨rfl,rfl,zrX hx h0 (by simpa using h3)⟩
  ·refine zm h3 ?_;refine zu hl ?_;exact fin _ (by rw[e1,zAc hx h0 (by simpa using h3)])
 ·have hd:decide ((k:Int)<(m.entries.length:Int))=false:=by simp;omega
  rw[List.take_of_length_le (by omega)]at h0;refine zm (zd hd hel) ?_;refine zbI ?_;refine zG ?_;refine zu hl ?_;refine fin _ ?_;rw[e1,zgJ (zsc h0)];simp only[zax];split<;>simp_all
theorem c_kParts8 {m:zbC}(hm:zaI m)(hk:m.kind=8)(hK:K (.d (.int .i64 (zax (zac m)))) σ):zP ziu [zgi m] σ K:=by
 refine zeA zno fun hl=>?_;simp only[zkQ,iN,bT,bF,eN];refine zG ?_;refine zbI ?_;refine zm (kk8 hk) ?_;refine c_kNewView (m:=m) hm hk ?_;refine zG ?_;refine zu hl ?_;exact hK
theorem c_kParts7 {m:zbC}(hm:zaI m)(hk:m.kind=7)(hK:K (.d (.int .i64 (zax (zac m)))) σ):zP ziu [zgi m] σ K:=by
 refine zeA zno fun hl=>?_;have fin:∀z,zax (zac m)=z->K (.d (.int .i64 z)) σ:=fun z h=>h▸hK;clear hK;have hcl:(zap m.changes).length=m.changes.length:=List.length_map ..;have hcl1:=hm.changes;have e0:zax (zac m)=zax (inE m.changes.length 1 1::(m.changes.map fun c=>zaT c++[if c.src≠m.src∨c.view≠m.view then 100 else 0]).flatten):=by
  simp[zac,zC,hk,show zeT 7=false from rfl]
 simp only[zkQ,iN,bT,bF,eN];refine zG ?_;refine zbI ?_;cases h1:((m.changes.length:Int) != 1);rotate_left
 ·refine zm (zd (kk7 hk) (zd hcl h1)) ?_;refine zu hl ?_;refine fin _ ?_;simp only[bne_iff_ne,ne_eq]at h1;rw[e0,inE,if_pos (by omega)];rfl
 simp only[bne_eq_false_iff_eq]at h1;obtain⟨c,hc⟩:∃c,m.changes=[c]:=List.length_eq_one_iff.1 (by omega);have hgx:(zap m.changes)[0]? = some (zaj c):=by rw[hc];rfl
 have hgl:(zap m.changes).length=1:=by rw[hc];rfl
 have e1:zax (zac m)=zax (zaT c++[if c.src≠m.src∨c.view≠m.view then 100 else 0]):=by
  rw[e0,hc,inE,if_neg (by simp)];simp[zax]
 have hpx:=(hm.change c (by rw[hc];simp)).1;refine zdV (zd (kk7 hk) (zd hgl hgx)) ?_;refine c_kChange (c:=c) hpx ?_;cases h2:(zax (zaT c) != 0);rotate_left
 ·refine zm h2 ?_;refine zu hl ?_;exact fin _ (by rw[e1,zhK (by simpa using h2)])
 rw[zgJ (by simpa using h2)]at e1;cases h3:(m.src != c.src)
 ·cases h4:(m.view != c.view)
  ·refine zdV (zd h2 (zd h3 (zd h4 (zd hgl hgx)))) ?_;refine zu hl ?_;refine fin _ ?_;simp at h3 h4;rw[e1,if_neg (by simp[h3,h4])];rfl
  ·refine zdV (zd h2 (zd h3 (zd h4 (zd hgl hgx)))) ?_;refine zu hl ?_;refine fin _ ?_;simp at h4;rw[e1,if_pos (.inr fun h=>h4 h.symm)];rfl
 ·refine zdV (zd h2 (zd h3 (zd hgl hgx))) ?_;refine zu hl ?_;refine fin _ ?_;simp at h3;rw[e1,if_pos (.inl fun h=>h3 h.symm)];rfl
end Go.Proofs.YtdgcepphjnoalaaGreat
