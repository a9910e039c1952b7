/- Contracts: where a list is parted, how long a proof is, leaves and nodes, on both sides. -/
import Derived.Test.YtdgcepphjnoalaaGreatId3
import Derived.Test.YtdgcepphjnoalaaGreatSh
import Derived.Test.YtdgcepphjnoalaaGreatSpTab
import Derived.Test.YtdgcepphjnoalaaGreatOpC
import Derived.Test.YtdgcepphjnoalaaGreatPp1
import Derived.Test.YtdgcepphjnoalaaGreatCk4
import Derived.Test.YtdgcepphjnoalaaGreatAwLoop
import Derived.Test.YtdgcepphjnoalaaGreatKr6
set_option linter.all false
set_option maxRecDepth 100000
namespace Go.Proofs.YtdgcepphjnoalaaGreat
open Go.AW
structure smallPl (p:znA):Prop where
 off:zqt p.offset
 topic:p.topic.length<=16777216
 rec_:p.rec_.length<=16777216
structure smallBk (b:znJ):Prop where
 seq:zqt b.header.seq
 len:b.placed.length<=1048576
 each:∀p∈b.placed,smallPl p
variable {σ:List AObj}
def lastC:List (Int × Int × Int)->List AV
 | []=>[]
 | a::r=>.d (.int .i64 a.1)::.d (.int .i64 a.2.1)::.d (.int .i64 a.2.2)::lastC r
structure TopsAt (σ:List AObj) (id t g:Nat) (T:ztT):Prop where
 box:σ[id]? = some (.box (.rsl t g 4 0 T.l.length::lastC T.last))
 row:σ[t]? = some (.row g 4 (zcE (topsE T.l)))
 last:T.last.length=8
structure Stays (σ S:List AObj) (id:Nat):Prop where
 len:σ.length<=S.length
 get:∀(j:Nat) (x:AObj),σ[j]? = some x->j≠id->(∀g sz cs,x≠.row g sz cs)->S[j]? = some x
theorem Stays.app (σ τ:List AObj)(id:Nat):Stays σ (σ++τ) id:=⟨by simp,fun _ _ h _ _=>zi h⟩
theorem Stays.trans {σ S R:List AObj}{id:Nat}(h:Stays σ S id)(h':Stays S R id):Stays σ R id:=⟨Nat.le_trans h.len h'.len,fun j x hx hj hr=>h'.get j x (h.get j x hx hj hr) hj hr⟩
theorem TopsAt.app {id t g:Nat}{T:ztT}(h:TopsAt σ id t g T)(τ:List AObj):TopsAt (σ++τ) id t g T:=⟨zi h.box,zi h.row,h.last⟩
abbrev zeroH:zsU:=⟨0,0,0,0,0⟩
def genF (L:List (List UInt8)):zsU × Int × List (List UInt8):=
 let r:=rootF L []
 let L2:=zfb r.2 (topsB zue)
 if r.1=0∨zgw r.2 (topsB zue)=0 then(zeroH,6,L2)else(⟨0,0,0,r.1,zgw r.2 (topsB zue)⟩,0,L2)
variable {σ:List AObj}
structure ExecR where
 e:Int
 h:zsU
 p:List znA
 L:List (List UInt8)
 T:ztT
structure Stays2 (σ S:List AObj) (id tid:Nat):Prop where
 len:σ.length<=S.length
 get:∀(j:Nat) (x:AObj),σ[j]? = some x->j≠id->j≠tid->(∀g sz cs,x≠.row g sz cs)->S[j]? = some x
theorem Stays2.app {id tid:Nat}(X:AObj)(τ:List AObj):Stays2 σ (σ.set id X++τ) id tid:=
 ⟨by simp,fun j x hx h1 h2 h3=>zi ((List.getElem?_set_ne (Ne.symm h1)).trans hx)⟩
structure ExJ (σ:List AObj) (n tid:Nat) (H P:AObj) (A:List znA × ztT) (N:List (List D)) (S:List AObj) (t g:Nat):Prop where
 top:TopsAt S tid t g A.2
 hb:S[n]? = some H
 zb:S[n+1]? = some (.box [.d (.int .i64 0),.d (.int .i64 0),.d (.int .i64 0),.d (.int .i64 0),.d (.int .i64 0)])
 pb:S[n+2]? = some P
 m:S[n+3]? = some (.tok 3 A.1.length)
 k:S[n+4]? = some (.tok 5 N.length)
 rest:∀(j:Nat) (x:AObj),σ[j]? = some x->j≠tid->(∀g sz cs,x≠.row g sz cs)->S[j]? = some x
variable {σ:List AObj} {G:List zK}
structure SeI (n m:Nat) (s:List (List UInt8) × List zK × List zr):Prop where
 tab:zmI s.1
 led:s.2.1.length<=n
 sz:∀x∈s.2.2,zmW x.op<=20971520
 len:s.2.2.length<=m
theorem sum_take {l:List (List UInt8)}{k:Nat}{x:List UInt8}(hn:l.Nodup)(hl0:l.length<=1048576)(hx:l[k]? = some x):zfb (l.take k) x=l.take (k+1):=by
 have hk:=(List.getElem?_eq_some_iff.1 hx).1;have hnot:x∉l.take k:=fun hm=>by
  obtain⟨i,hi,he⟩:=List.mem_take_iff_getElem.1 hm;have:=(List.getElem_inj hn).1 (he.trans (List.getElem?_eq_some_iff.1 hx).2.symm);omega
 have hno:=zyJ hnot;have h1:(l.take k).length=k:=by rw[List.length_take];omega
 rw[zfb,hno];simp only[h1];rw[if_neg (by omega),List.take_add_one,hx];rfl
structure LedI (G:List zK):Prop where
 nd:G.Nodup
 ok:∀g∈G,zfx g.key g.dig=0
theorem LedI.sign (h:LedI G)(k d:Int):LedI (zgn G k d):=by
 unfold zgn;split
 ·rename_i hs;unfold zvP;split
  ·exact h
  ·rename_i hn;refine⟨?_,fun g hg=>?_⟩
   ·rw[List.nodup_append];refine⟨h.nd,by simp,fun a ha b hb e=>?_⟩;simp only[List.mem_singleton]at hb;subst e hb;exact hn ha
   ·rcases List.mem_append.1 hg with hg|hg
    ·exact h.ok g hg
    ·simp only[List.mem_singleton]at hg;subst hg;exact hs
 ·exact h
variable {σ:List AObj}
theorem wk13 (k:Nat)(h:k<=1073741824):IntKind.i64.wrap ((k:Int)+1)=((k+1:Nat):Int):=by rw[zaT (by omega) (by omega)];rfl
theorem gq40 {A P Q:Prop}(a:A)(h:Q)(e:A->Hd Q->P:=by intro a h;(repeat' first|simp -dsimp only[↓zlC,↓zbR,↓zeb,↓zlD,↓zlu,↓zls,↓zlv,↓zlt,↓zeg,↓zec,↓zeh,↓zed,↓zlw,↓zdX,↓zei,↓zee,↓zej,↓zef,↓zlq,↓zlA,↓zdW,↓zem,↓zli,↓zlh,↓zln,iN,bT,bF,eN,↓zev,↓unC,↓zaC,↓zai,↓zaj,↓zav,↓zaW,↓zah,↓zgy,↓zaw,↓zbd,↓zad,↓ze,↓zl,↓zbg,↓zc,↓zaV,↓zN,↓zbS,↓zcl,↓zf,↓zF,↓zp,↓zM,↓zaB,↓zgF,↓zhG,↓zbc,↓zbz,↓zcf,↓zcz,↓zdj,↓zJ,↓zbb,↓zak,↓zO,↓zaU,zho,zdP,zdy,unA,zgu,bnd,ziP,zaO,zL,zhY,dm,dm1,zH,zaJ,zjT,zjS,keepO,Q0,Q1,Q2,Q3,Q4,Q5,zba,zA,zB,zX,zaa,Q6,Q7,Q8,Q9,Q10,Q11,Q12,Q13,Q14,Nat.reduceAdd,Q15,Int.reduceToNat,Q16,Q17,Q18,Q19,Q20,reduceIte,Q21,Q22,zy,rep,zaq,zhV,toD,zaD,Q23,Q24,Q25,Q26,Q27,Q28,Nat.reduceLeDiff,Q29,Nat.reduceSub,Q30,Q31,Q32,sc,Q33,Q34,Q35,Q36,Q37,Q26,Q38,Q39,zuP,zuM,zuJ,zuQ,zjr,zuN,zuK,zuO,zuL,zjq,zjs,zuS,zuT,Bool.not_true,Bool.not_false,List.length_map,a]|with_reducible refine zvh ?_|fail);exact h.go):P:=e a ⟨h⟩
theorem c_rIn {s:Nat}{b:Int}(hs:s<65536){K:KT}(hK:K (.d (.bool (inF s b))) σ):zP zsb [.d (.int .u16 s),.d (.int .i64 b)] σ K:=by
 refine zen e_r12_Has fun hl=>?_;have fin:∀z:Bool,inF s b=z->K (.d (.bool z)) σ:=fun z hz=>by rw[← hz];exact hK
 clear hK;simp only[S_r12_Has,iN,bT,bF,eN];refine zn 13 (fun k vs q=>q=σ/\vs=[.d (.int .u16 (s / 2 ^ k:Nat)),.d (.int .i64 k)]/\¬(0<=b/\b<k/\s / 2 ^ b.toNat % 2=1)) ⟨rfl,by simp,by omega⟩ ?_;rintro k vs q hk ⟨rfl,rfl,hno⟩;have hle:s / 2 ^ k<=s:=Nat.div_le_self _ _;have hz1:s / 2 ^ (k+1)=s / 2 ^ k / 2:=by rw[Nat.pow_succ,← Nat.div_div_eq_div_mul]
 have hbit:b=(k:Int)->s / 2 ^ b.toNat=s / 2 ^ k:=fun h=>by rw[h];rfl
 obtain⟨z,hz⟩:∃z,s / 2 ^ k=z:=⟨_,rfl⟩;rw[hz]at hle hz1 hbit ⊢;by_cases hlt:k<13
 ·have hd:decide ((k:Int)<13)=true:=by simp;omega
  have hw:=wk13 k (by omega);have hrem:(z:Int).tmod 2=((z % 2:Nat):Int):=by rw[Int.tmod_eq_emod_of_nonneg (by omega)];rfl
  have hquo:IntKind.u16.wrap ((z:Int).tdiv 2)=((z / 2:Nat):Int):=by
   rw[Int.tdiv_eq_ediv_of_nonneg (by omega),show(z:Int) / 2=((z / 2:Nat):Int)from rfl];simp[IntKind.wrap,IntKind.bits,IntKind.signed];omega
  cases h1:((k:Int)==b)
  ·refine gq40 (zxO hd (zxO h1 (zxO hrem (zxO hquo hw)))) ?_;refine zaF.next hlt ⟨rfl,by rw[hz1],?_⟩;have:¬(k:Int)=b:=by simpa using h1
   rintro⟨g1,g2,g3⟩;exact hno ⟨g1,by omega,g3⟩
  ·have hb:(k:Int)=b:=by simpa using h1
   have hbt:b.toNat=k:=by omega
   cases h2:(((z % 2:Nat):Int)==1)
   ·have h2':¬z % 2=1:=by simp at h2;omega
    refine gq40 (zxO hd (zxO h1 (zxO h2 (zxO hrem (zxO hquo hw))))) ?_;refine zaF.next hlt ⟨rfl,by rw[hz1],?_⟩;rintro⟨g1,g2,g3⟩;rw[hbit hb.symm]at g3;exact h2' g3
   ·have h2':z % 2=1:=by simp at h2;omega
    refine gq40 (zxO hd (zxO h1 (zxO h2 (zxO hrem (zxO hquo hw))))) ?_;refine zu hl ?_;exact fin _ (decide_eq_true ⟨by omega,by omega,by rw[hbit hb.symm];exact h2'⟩)
 ·have hd:decide ((k:Int)<13)=false:=by simp;omega
  refine gq40 hd ?_;refine zu hl ?_;exact fin _ (decide_eq_false fun h=>hno ⟨h.1,by omega,h.2.2⟩)
theorem c_rList {s:Nat}(hs:s<65536){K:KT}(hK:K (.d (.slice (zgH (memF s)))) σ):zP ztg [.d (.int .u16 s)] σ K:=by
 refine zey e_r12_List fun hl=>?_;simp only[zzs,iN,bT,bF,eN];refine zlo 13 (fun k vs q=>vs=[.own σ.length (zgH (memN s k)),.d (.int .i64 k)]/\q=σ++[.tok 1 (memN s k).length]) (.tok 0 [] 1 rfl (by simp) (.refl _ _)) ⟨rfl,rfl⟩ ?_;rintro k vs q hk ⟨rfl,rfl⟩;have hln:=memN_len s k;have hlm:(zgH (memN s k)).length=(memN s k).length:=List.length_map ..;by_cases hlt:k<13
 ·have hd:decide ((k:Int)<13)=true:=by simp;omega
  have hw:=wk13 k (by omega);refine gq40 hd ?_;refine c_rIn hs ?_;have hnx:=memN_next s k;cases h1:inF s (k:Int)
  ·rw[h1]at hnx;simp only[Bool.false_eq_true,if_false,List.append_nil]at hnx;refine gq40 hw ?_;exact zaF.next hlt ⟨by rw[hnx],by rw[hnx]⟩
  ·rw[h1,if_pos rfl]at hnx;refine gq40 (zxO hw hlm) ?_;exact zaF.next hlt ⟨by rw[hnx];simp,by rw[hnx];simp⟩
 ·have hd:decide ((k:Int)<13)=false:=by simp;omega
  have hk13:k=13:=by omega
  subst hk13;refine gq40 hd ?_;refine zu hl ?_;exact hK
theorem gq41 {P Q:Prop}(h:Q)(e:Hd Q->P:=by intro h;(repeat' first|simp -dsimp only[↓zlC,↓zbR,↓zeb,↓zlD,↓zlu,↓zls,↓zlv,↓zlt,↓zeg,↓zec,↓zeh,↓zed,↓zlw,↓zdX,↓zei,↓zee,↓zej,↓zef,↓zlq,↓zlA,↓zdW,↓zem,↓zli,↓zlh,↓zln,iN,bT,bF,eN,↓zev,↓unC,↓zaC,↓zai,↓zaj,↓zav,↓zaW,↓zah,↓zgy,↓zaw,↓zbd,↓zad,↓ze,↓zl,↓zbg,↓zc,↓zaV,↓zN,↓zbS,↓zcl,↓zf,↓zF,↓zp,↓zM,↓zaB,↓zgF,↓zhG,↓zbc,↓zbz,↓zcf,↓zcz,↓zdj,↓zJ,↓zbb,↓zak,↓zO,↓zaU,zho,zdP,zdy,unA,zgu,bnd,ziP,zaO,zL,zhY,dm,dm1,zH,zaJ,zjT,zjS,keepO,Q0,Q1,Q2,Q3,Q4,Q5,zba,zA,zB,zX,zaa,Q6,Q7,Q8,Q9,Q10,Q11,Q12,Q13,Q14,Nat.reduceAdd,Q15,Int.reduceToNat,Q16,Q17,Q18,Q19,Q20,reduceIte,Q21,Q22,zy,rep,zaq,zhV,toD,zaD,Q23,Q24,Q25,Q26,Q27,Q28,Nat.reduceLeDiff,Q29,Nat.reduceSub,Q30,Q31,Q32,sc,Q33,Q34,Q35,Q36,Q37,Q26,Q38,Q39,zuP,zuM,zuJ,zuQ,zjr,zuN,zuK,zuO,zuL,zjq,zjs,zuS,zuT,Bool.not_true,Bool.not_false,List.length_map]|with_reducible refine zvh ?_|fail);exact h.go):P:=e ⟨h⟩
theorem c_rMany {s:Nat}(hs:s<65536){K:KT}(hK:K (.d (.int .i64 (memF s).length)) σ):zP ztf [.d (.int .u16 s)] σ K:=by
 refine zey e_r12_Many fun hl=>?_;have hlm:(zgH (memF s)).length=(memF s).length:=List.length_map ..;simp only[zzr,iN,bT,bF,eN];refine gq41 ?_;refine c_rList hs ?_;refine gq40 hlm ?_;refine zu hl ?_;exact hK
structure zzq where
 L:List (List UInt8)
 G:List zK
 h:zsU
 T:ztT
 bs:List znJ
 cs:List zjt
def st0:zzq:=⟨(genF []).2.2,[],(genF []).1,zue,[],[]⟩
structure StI (N m:Nat) (s:zzq):Prop where
 tab:zmI s.L
 led:s.G.length<=N
 ledI:LedI s.G
 tops:TopsI s.T
 last:LastI s.T.last
 last8:s.T.last.length=8
 bs:∀b∈s.bs,smallBk b
 bl:s.bs.length<=m
 cs:∀c∈s.cs,c.signs.length<=13
 cl:s.cs.length<=m
structure VoI (N m:Nat) (s:List (List UInt8) × List zK × List zK):Prop where
 tab:zmI s.1
 led:s.2.1.length<=N
 ledI:LedI s.2.1
 len:s.2.2.length<=m
theorem signG_len (G:List zK)(k d:Int):(zgn G k d).length<=G.length+1:=by
 unfold zgn zvP;repeat' split
 all_goals simp
theorem LastI.none:LastI zue.last:=fun a ha=>by
 have:=List.eq_of_mem_replicate ha;subst this;simp
variable {σ:List AObj} {L:List (List UInt8)} {G:List zK}
structure BlkI (L:List (List UInt8)) (b:znJ):Prop where
 ok:hdrOk b.header=true
 root:zmT L (b.placed.map placedB) b.header.root
 pl:∀p∈b.placed,PlI p/\zdY p.topic=true
 cnt:b.placed.length<=16
theorem BlkI.pre {L L':List (List UInt8)}{b:znJ}(h:BlkI L b)(hp:L <+: L'):BlkI L' b:=⟨h.ok,h.root.pre hp,h.pl,h.cnt⟩
def LinkI (L:List (List UInt8)) (q h:zsU):Prop:=zmo L (hdrB q) h.prev/\h.seq=q.seq+1
def lastH:zsU->List znJ->zsU
 | q,[]=>q
 | _,b::r=>lastH b.header r
def ChI (L:List (List UInt8)):zsU->List znJ->Prop
 | _,[]=>True
 | q,b::r=>LinkI L q b.header/\ChI L b.header r
theorem ChI.pre {L L':List (List UInt8)}(hp:L <+: L'):∀ {bs:List znJ} {q:zsU},ChI L q bs->ChI L' q bs
 | [],_,_=>trivial
 | b::r,q,h=>⟨⟨h.1.1.pre hp,h.1.2⟩,ChI.pre hp h.2⟩
theorem ChI.snoc {b:znJ}:∀ {bs:List znJ} {q:zsU},ChI L q bs->LinkI L (lastH q bs) b.header->ChI L q (bs++[b])
 | [],_,_,h=>⟨h,trivial⟩
 | c::r,q,h,hl=>⟨h.1,ChI.snoc h.2 hl⟩
theorem signL_mem' {s x:zK}(h:x∈zvP G s):x∈G∨x=s:=by
 unfold zvP at h;split at h
 ·exact .inl h
 ·rcases List.mem_append.1 h with h|h
  ·exact .inl h
  ·exact .inr (by simpa using h)
theorem signG_mem' {k d:Int}{x:zK}(h:x∈zgn G k d):x∈G∨(x=⟨k,d⟩/\zfx k d=0):=by
 unfold zgn at h;split at h
 ·rename_i e;rcases signL_mem' h with h|h
  ·exact .inl h
  ·exact .inr ⟨h,e⟩
 ·exact .inl h
theorem keyF_sign' {c d:Int}(h:zfx (zsh c) d=0):13<=zsh c:=by
 unfold zfx at h;unfold zsh at h ⊢;split
 ·rename_i e;rw[if_pos e]at h;simp at h
 ·omega
structure CrtI (ks:List Int) (L:List (List UInt8)) (G:List zK) (bs:List znJ) (c:zjt):Prop where
 blk:∃b∈bs,c.seq=b.header.seq/\zmo L (hdrB b.header) c.dig
 four:c.seq.tmod 4=0
 sgs:∃v,c.signs=ks.map (fun k=>⟨k,v⟩)/\∀k∈ks,(⟨k,v⟩:zK)∈G/\zmo L (zrI 6 0 c.seq c.dig) v
theorem CrtI.pre {ks:List Int}{L L':List (List UInt8)}{G G':List zK}{bs bs':List znJ}{c:zjt}(h:CrtI ks L G bs c)(hp:L <+: L')(hg:∀x∈G,x∈G')(hb:∀x∈bs,x∈bs'):CrtI ks L' G' bs' c:=by
 obtain⟨⟨b,h1,h2,h3⟩,h4,v,h5,h6⟩:=h;exact⟨⟨b,hb b h1,h2,h3.pre hp⟩,h4,v,h5,fun k hk=>⟨hg _ (h6 k hk).1,(h6 k hk).2.pre hp⟩⟩
structure HistI (ks:List Int) (g:zsU) (s:zzq):Prop where
 ch:ChI s.L g s.bs
 blk:∀b∈s.bs,BlkI s.L b
 last:s.h=lastH g s.bs
 crt:∀c∈s.cs,CrtI ks s.L s.G s.bs c
 sg:∀x∈s.G,13<=x.key∨∃c∈s.cs,zmo s.L (zrI 6 0 c.seq c.dig) x.dig
def zyC (T:ztT):List (List UInt8):=T.l.map zeo.name
structure ApU (T T':ztT) (P:List znA):Prop where
 nd:(zyC T').Nodup
 mono:∀x∈T.l,∃x'∈T'.l,x'.name=x.name/\x.next<=x'.next
 old:∀p∈P,∃x'∈T'.l,x'.name=p.topic/\p.offset<x'.next
 new:∀p∈P,∀x∈T.l,x.name=p.topic->x.next<=p.offset
theorem ApU.trans {T T1 T2:ztT}{P Q:List znA}(h:ApU T T1 P)(g:ApU T1 T2 Q):ApU T T2 (P++Q):=by
 refine⟨g.nd,fun x hx=>?_,fun p hp=>?_,fun p hp x hx hn=>?_⟩
 ·obtain⟨y,h1,h2,h3⟩:=h.mono x hx;obtain⟨z,g1,g2,g3⟩:=g.mono y h1;exact⟨z,g1,g2.trans h2,Int.le_trans h3 g3⟩
 ·rcases List.mem_append.1 hp with hp|hp
  ·obtain⟨y,h1,h2,h3⟩:=h.old p hp;obtain⟨z,g1,g2,g3⟩:=g.mono y h1;exact⟨z,g1,g2.trans h2,by omega⟩
  ·exact g.old p hp
 ·rcases List.mem_append.1 hp with hp|hp
  ·exact h.new p hp x hx hn
  ·obtain⟨y,h1,h2,h3⟩:=h.mono x hx;have:=g.new p hp y h1 (h2.trans hn);omega
theorem ApU.set {T:ztT}{i:Nat}{x x':zeo}(h:(zyC T).Nodup)(hx:T.l[i]? = some x)(hn:x'.name=x.name)(hx':x.next<=x'.next)(la:List (Int × Int × Int)):ApU T ⟨T.l.set i x',la⟩ []:=by
 have hi:=(List.getElem?_eq_some_iff.1 hx).1;refine⟨?_,fun y hy=>?_,by simp,by simp⟩
 ·have:zyC ⟨T.l.set i x',la⟩=zyC T:=by
   simp only[zyC,List.map_set];rw[hn];have hg:(T.l.map zeo.name)[i]? = some x.name:=by rw[List.getElem?_map,hx];rfl
   exact zbQ hg
  rw[this];exact h
 ·obtain⟨j,hj,rfl⟩:=List.mem_iff_getElem.1 hy;by_cases e:i=j
  ·subst e;have:T.l[i]=x:=(List.getElem?_eq_some_iff.1 hx).2;refine⟨x',List.mem_iff_getElem.2 ⟨i,by simpa using hi,by simp⟩,by rw[hn,this],by rw[this];exact hx'⟩
  ·exact⟨T.l[j],List.mem_iff_getElem.2 ⟨j,by simpa using hj,by simp[e]⟩,rfl,Int.le_refl _⟩
theorem atF_none {n:List UInt8}:∀ {l:List zeo} {j:Nat},atF n l j=none->∀x∈l,x.name≠n
 | [],_,_,x,hx=>by cases hx
 | y::r,j,h,x,hx=>by
  simp only[atF]at h;split at h
  ·cases h
  ·rename_i e;rcases List.mem_cons.1 hx with rfl|hx
   ·simpa using e
   ·exact atF_none h x hx
theorem ApU.last {T T':ztT}{P:List znA}(h:ApU T T' P)(la:List (Int × Int × Int)):ApU T { T' with last:=la } P:=⟨h.nd,h.mono,h.old,h.new⟩
structure UqI (s:zzq):Prop where
 nd:(zyC s.T).Nodup
 old:∀b∈s.bs,∀p∈b.placed,∃x∈s.T.l,x.name=p.topic/\p.offset<x.next
 one:∀(i j:Nat) (a b:znJ),s.bs[i]? = some a->s.bs[j]? = some b->∀p∈a.placed,∀q∈b.placed,p.topic=q.topic->p.offset=q.offset->i=j
variable {σ:List AObj} {L:List (List UInt8)} {G:List zK}
theorem StI.mono {N m N' m':Nat}{s:zzq}(h:StI N m s)(h1:N<=N')(h2:m<=m'):StI N' m' s:=
 ⟨h.tab,Nat.le_trans h.led h1,h.ledI,h.tops,h.last,h.last8,h.bs,Nat.le_trans h.bl h2,h.cs,Nat.le_trans h.cl h2⟩
theorem HistI.grow {ks:List Int}{g:zsU}{s:zzq}(h:HistI ks g s)(hp:s.L <+: L)(hg:∀x∈s.G,x∈G)(hn:∀x∈G,x∈s.G∨13<=x.key):HistI ks g { s with L:=L,G:=G }:=
 ⟨h.ch.pre hp,fun b hb=>(h.blk b hb).pre hp,h.last,fun c hc=>(h.crt c hc).pre hp hg fun x hx=>hx,fun x hx=>by
  rcases hn x hx with hx|hx
  ·rcases h.sg x hx with h1|⟨c,h1,h2⟩
   ·exact .inl h1
   ·exact .inr ⟨c,h1,h2.pre hp⟩
  ·exact .inl hx⟩
def tyHdr:List Ty:=[.int .i64,.int .i64,.int .i64,.int .i64,.int .i64]
def tyCert:List Ty:=[.int .i64,.int .i64,.slice zvG]
def tyProof:List Ty:=[.str,.int .i64,.slice [.int .u8],.slice tyHdr,.int .i64,.int .i64,.slice [.int .i64],.int .i64,.int .i64,.slice zvG]
theorem dec_hdr {ds:List D}(h:zcZ tyHdr ds):∃x:zsU,ds=zsi x/\zqt x.seq:=by
 obtain⟨d1,ds,rfl,h1,h⟩:=zt h;obtain⟨d2,ds,rfl,h2,h⟩:=zt h;obtain⟨d3,ds,rfl,h3,h⟩:=zt h;obtain⟨d4,ds,rfl,h4,h⟩:=zt h;obtain⟨d5,ds,rfl,h5,h⟩:=zt h;obtain rfl:=zeF h;obtain⟨a1,rfl,k1⟩:=zaG h1;obtain⟨a2,rfl,_⟩:=zaG h2;obtain⟨a3,rfl,_⟩:=zaG h3;obtain⟨a4,rfl,_⟩:=zaG h4;obtain⟨a5,rfl,_⟩:=zaG h5;exact⟨⟨a1,a2,a3,a4,a5⟩,rfl,k1⟩
theorem dec_int1 {ds:List D}(h:zcZ [.int .i64] ds):∃x:Int,ds=[.int .i64 x]/\zqt x:=by
 obtain⟨d1,ds,rfl,h1,h⟩:=zt h;obtain rfl:=zeF h;obtain⟨a1,rfl,k1⟩:=zaG h1;exact⟨a1,rfl,k1⟩
theorem dec_signs {d:D}(h:zlg (.slice zvG) d):∃l:List zK,d=.slice (zat l):=by
 obtain⟨l,rfl⟩:=zfR (f:=zgo) h (fun e he=>(zvu he).imp fun _ h=>h.1);exact⟨l,rfl⟩
theorem signs_bulk (l:List zK):l.length<=zdp (zat l):=zfm (f:=zgo) (fun a=>by simp only[zgo,zcP,zfT];omega) l
theorem dec_cert {ds:List D}(h:zcZ tyCert ds)(hb:zcP ds<=1048576):∃c:zjt,ds=certD c/\c.signs.length<=1048576:=by
 obtain⟨d1,ds,rfl,h1,h⟩:=zt h;obtain⟨d2,ds,rfl,h2,h⟩:=zt h;obtain⟨d3,ds,rfl,h3,h⟩:=zt h;obtain rfl:=zeF h;obtain⟨a1,rfl,k1⟩:=zaG h1;obtain⟨a2,rfl,_⟩:=zaG h2;obtain⟨a3,rfl⟩:=dec_signs h3;simp only[zcP,zfT]at hb;have:=signs_bulk a3;exact⟨⟨a1,a2,a3⟩,rfl,by simp only;omega⟩
structure PfS (p:zfi):Prop where
 small:zqS p
 path:p.path.length<=1048576
 headers:p.headers.length<=1048576
 signs:p.cert.signs.length<=1048576
theorem dec_proof {ds:List D}(h:zcZ tyProof ds)(hb:zcP ds<=1048576):∃p:zfi,ds=proofD p/\PfS p:=by
 obtain⟨d1,ds,rfl,h1,h⟩:=zt h;obtain⟨d2,ds,rfl,h2,h⟩:=zt h;obtain⟨d3,ds,rfl,h3,h⟩:=zt h;obtain⟨d4,ds,rfl,h4,h⟩:=zt h;obtain⟨d5,ds,rfl,h5,h⟩:=zt h;obtain⟨d6,ds,rfl,h6,h⟩:=zt h;obtain⟨d7,ds,rfl,h7,h⟩:=zt h;obtain⟨d8,ds,rfl,h8,h⟩:=zt h;obtain⟨d9,ds,rfl,h9,h⟩:=zt h;obtain⟨d10,ds,rfl,h10,h⟩:=zt h;obtain rfl:=zeF h;obtain⟨a1,rfl⟩:=ztK h1;obtain⟨a2,rfl,k2⟩:=zaG h2;obtain⟨a3,rfl⟩:=zwN h3;obtain⟨a4,rfl⟩:=zfR (f:=zsi) h4 fun e he=>(dec_hdr he).imp fun _ h=>h.1;obtain⟨a5,rfl,k5⟩:=zaG h5;obtain⟨a6,rfl,k6⟩:=zaG h6;obtain⟨a7,rfl,k7⟩:=zyX (f:=fun x:Int=>[D.int .i64 x]) h7 fun e he=>dec_int1 he;obtain⟨a8,rfl,k8⟩:=zaG h8;obtain⟨a9,rfl,k9⟩:=zaG h9;obtain⟨a10,rfl⟩:=dec_signs h10;simp only[zcP,zfT,zvy]at hb;have b4:=zfm (f:=zsi) (fun a=>by simp only[zsi,zcP,zfT];omega) a4;have b7:=zfm (f:=fun x:Int=>[D.int .i64 x]) (fun a=>by simp only[zcP,zfT];omega) a7;have b10:=signs_bulk a10;refine⟨⟨a1,a2,a3,a4,a5,a6,a7,⟨a8,a9,a10⟩⟩,rfl,⟨?_,?_,?_,?_,?_,k2,k5,k6,k7⟩,?_,?_,?_⟩<;>simp only<;>omega
theorem dec_bool {d:D}(h:zlg .bool d):∃b,d=.bool b:=by cases h with|bool b=>exact⟨b,rfl⟩
def tyEntry:List Ty:=[.int .i64,.int .i64,.slice zvm,.int .i64,.int .i64]
def tyM1:List Ty:=[.int .i64,.int .i64,.int .i64,.int .i64,.int .i64,.int .i64,.int .i64,.int .i64,.int .i64,.slice zvm]
def tyM2:List Ty:=[.slice tyChange,.slice tyEntry,.slice [.int .u8],.str,.int .i64]
def tyMsg:List Ty:=tyM1++(tyCert++(tyM2++(tyProof++zvG)))
theorem zkh {b:List Ty}:∀ {a:List Ty} {ds:List D},zcZ (a++b) ds->∃x y,ds=x++y/\zcZ a x/\zcZ b y
 | [],ds,h=>⟨[],ds,rfl,⟨rfl,by simp⟩,h⟩
 | t::a,ds,h=>by
  obtain⟨d,ds,rfl,h1,h⟩:=zt (t:=t) (ts:=a++b) h;obtain⟨x,y,rfl,h2,h3⟩:=zkh (a:=a) h;refine⟨d::x,y,rfl,⟨by simp[h2.1],fun i t' d' ht hd=>?_⟩,h3⟩;cases i with
  | zero=>simp only[List.getElem?_cons_zero,Option.some.injEq]at ht hd;subst ht;subst hd;exact h1
  | succ i=>exact h2.2 i t' d' (by simpa using ht) (by simpa using hd)
theorem dec_entry {ds:List D}(h:zcZ tyEntry ds):∃s:zhQ,ds=zdd s:=by
 obtain⟨d1,ds,rfl,h1,h⟩:=zt h;obtain⟨d2,ds,rfl,h2,h⟩:=zt h;obtain⟨d3,ds,rfl,h3,h⟩:=zt h;obtain⟨d4,ds,rfl,h4,h⟩:=zt h;obtain⟨d5,ds,rfl,h5,h⟩:=zt h;obtain rfl:=zeF h;obtain⟨a1,rfl,_⟩:=zaG h1;obtain⟨a2,rfl,_⟩:=zaG h2;obtain⟨a3,rfl⟩:=zfR (f:=zay) h3 (fun e he=>(ztL he).imp fun _ h=>h.1);obtain⟨a4,rfl,_⟩:=zaG h4;obtain⟨a5,rfl,_⟩:=zaG h5;exact⟨⟨a1,a2,a3,a4,a5⟩,rfl⟩
theorem okB_bulk {b:List zr}(h:zdp (zbA b)<=1048576):okB b/\zgx b:=by
 have hl:=leB_bulk h;refine⟨⟨by have:=hl.1;omega,fun x hx=>?_⟩,by have:=hl.1;omega,fun x hx=>⟨by have:=(hl.2 x hx).1;omega,fun r hr=>by have:=(hl.2 x hx).2 r hr;omega⟩⟩;have e:=zhi (l:=b) (f:=zay) hx;unfold zbA at h;simp only[zay,zcP,zfT]at e;exact⟨by omega,by omega,by have:=(hl.2 x hx).1;omega,fun r hr=>by have:=(hl.2 x hx).2 r hr;omega⟩
theorem okCh_bulk {c:zbk}(h:zcP (zag c)<=1048576):okCh c/\zjM c:=by
 simp only[zag,zcP,zfT]at h;have b1:=signs_bulk c.cert.signs;have b2:=zfm (f:=zfy) (fun a=>by simp only[zfy,zcP,zfT];omega) c.above;have e2:zdp (c.above.map zfy)=zdp (zft c.above):=rfl;have key:∀p∈c.above,p.signs.length<=1048576/\okB p.batch/\zgx p.batch:=fun p hp=>by
  have e:=zhi (l:=c.above) (f:=zfy) hp;simp only[zfy,zcP,zfT]at e;have b3:=signs_bulk p.signs;exact⟨by omega,okB_bulk (by omega)⟩
 exact⟨⟨by omega,by omega,fun p hp=>⟨by have:=(key p hp).1;omega,(key p hp).2.1⟩⟩,by omega,by omega,fun p hp=>⟨by have:=(key p hp).1;omega,(key p hp).2.2⟩⟩
structure TM1 where
 kind:Int
 src:Int
 view:Int
 seq:Int
 dig:Int
 client:Int
 time:Int
 rerr:Int
 roff:Int
 batch:List zr
structure TM2 where
 changes:List zbk
 entries:List zhQ
 state:List UInt8
 topic:List UInt8
 offset:Int
def m1D (m:TM1):List D:=[.int .i64 m.kind,.int .i64 m.src,.int .i64 m.view,.int .i64 m.seq,.int .i64 m.dig,.int .i64 m.client,.int .i64 m.time,.int .i64 m.rerr,.int .i64 m.roff,.slice (zbA m.batch)]
def m2D (m:TM2):List D:=[.slice (zap m.changes),.slice (zbq m.entries),.slice (bcs m.state),.str m.topic,.int .i64 m.offset]
theorem dec_m1 {ds:List D}(h:zcZ tyM1 ds):∃m:TM1,ds=m1D m:=by
 obtain⟨d1,ds,rfl,h1,h⟩:=zt h;obtain⟨d2,ds,rfl,h2,h⟩:=zt h;obtain⟨d3,ds,rfl,h3,h⟩:=zt h;obtain⟨d4,ds,rfl,h4,h⟩:=zt h;obtain⟨d5,ds,rfl,h5,h⟩:=zt h;obtain⟨d6,ds,rfl,h6,h⟩:=zt h;obtain⟨d7,ds,rfl,h7,h⟩:=zt h;obtain⟨d8,ds,rfl,h8,h⟩:=zt h;obtain⟨d9,ds,rfl,h9,h⟩:=zt h;obtain⟨d10,ds,rfl,h10,h⟩:=zt h;obtain rfl:=zeF h;obtain⟨a1,rfl,_⟩:=zaG h1;obtain⟨a2,rfl,_⟩:=zaG h2;obtain⟨a3,rfl,_⟩:=zaG h3;obtain⟨a4,rfl,_⟩:=zaG h4;obtain⟨a5,rfl,_⟩:=zaG h5;obtain⟨a6,rfl,_⟩:=zaG h6;obtain⟨a7,rfl,_⟩:=zaG h7;obtain⟨a8,rfl,_⟩:=zaG h8;obtain⟨a9,rfl,_⟩:=zaG h9;obtain⟨a10,rfl⟩:=zfR (f:=zay) h10 (fun e he=>(ztL he).imp fun _ h=>h.1);exact⟨⟨a1,a2,a3,a4,a5,a6,a7,a8,a9,a10⟩,rfl⟩
theorem dec_m2 {ds:List D}(h:zcZ tyM2 ds):∃m:TM2,ds=m2D m:=by
 obtain⟨d1,ds,rfl,h1,h⟩:=zt h;obtain⟨d2,ds,rfl,h2,h⟩:=zt h;obtain⟨d3,ds,rfl,h3,h⟩:=zt h;obtain⟨d4,ds,rfl,h4,h⟩:=zt h;obtain⟨d5,ds,rfl,h5,h⟩:=zt h;obtain rfl:=zeF h;obtain⟨a1,rfl⟩:=zfR (f:=zag) h1 (fun e he=>(dec_change he).imp fun _ h=>h.1);obtain⟨a2,rfl⟩:=zfR (f:=zdd) h2 (fun e he=>dec_entry he);obtain⟨a3,rfl⟩:=zwN h3;obtain⟨a4,rfl⟩:=ztK h4;obtain⟨a5,rfl,_⟩:=zaG h5;exact⟨⟨a1,a2,a3,a4,a5⟩,rfl⟩
abbrev msgD (m:zbj):List D:=
 [.int .i64 m.kind,.int .i64 m.src,.int .i64 m.view,.int .i64 m.seq,.int .i64 m.dig,.int .i64 m.client,.int .i64 m.time,.int .i64 m.rerr,.int .i64 m.roff,.slice (zbA m.batch),
  .int .i64 m.cert.seq,.int .i64 m.cert.dig,.slice (zat m.cert.signs),.slice (zap m.changes),.slice (zbq m.entries),.slice (bcs m.state),.str m.topic,.int .i64 m.offset,
  .str m.proof.topic,.int .i64 m.proof.offset,.slice (bcs m.proof.rec_),.slice (zmv m.proof.headers),.int .i64 m.proof.index,.int .i64 m.proof.count,.slice (zgH m.proof.path),.int .i64 m.proof.cert.seq,.int .i64 m.proof.cert.dig,.slice (zat m.proof.cert.signs),.int .i64 m.key,.int .i64 m.sdig]
theorem dec_msg {ds:List D}(h:zcZ tyMsg ds)(hb:zcP ds<=1048576):∃m:zbj,ds=msgD m/\zaK m:=by
 obtain⟨x1,ds,rfl,h1,h⟩:=zkh h;obtain⟨x2,ds,rfl,h2,h⟩:=zkh h;obtain⟨x3,ds,rfl,h3,h⟩:=zkh h;obtain⟨x4,x5,rfl,h4,h5⟩:=zkh h;simp only[zoS]at hb;obtain⟨m1,rfl⟩:=dec_m1 h1;obtain⟨c,rfl,hc⟩:=dec_cert h2 (by omega);obtain⟨m2,rfl⟩:=dec_m2 h3;obtain⟨p,rfl,hp⟩:=dec_proof h4 (by omega);obtain⟨g,rfl,_⟩:=zvu h5;have b1:zcP (m1D m1)<=1048576:=by omega
 have b2:zcP (m2D m2)<=1048576:=by omega
 clear hb h h1 h2 h3 h4 h5;refine⟨⟨m1.kind,m1.src,m1.view,m1.seq,m1.dig,m1.client,m1.time,m1.rerr,m1.roff,m1.batch,c,m2.changes,m2.entries,m2.state,m2.topic,m2.offset,p,g.key,g.dig⟩,rfl,?_⟩;simp only[m1D,zcP,zfT]at b1;simp only[m2D,zcP,zfT,zvy]at b2;have b10:=okB_bulk (b:=m1.batch) (by omega);have b14:=zfm (f:=zag) (fun a=>by simp only[zag,zcP,zfT];omega) m2.changes;have b15:=zfm (f:=zdd) (fun a=>by simp only[zdd,zcP,zfT];omega) m2.entries;have e14:zdp (m2.changes.map zag)=zdp (zap m2.changes):=rfl;have e15:zdp (m2.entries.map zdd)=zdp (zbq m2.entries):=rfl;refine⟨b10.1,b10.2,?_,?_,fun y hy=>?_,?_,fun x hx=>?_,hp.small,?_,?_⟩
 ·simp only;omega
 ·simp only;omega
 ·have e:=zhi (l:=m2.changes) (f:=zag) hy;exact okCh_bulk (by omega)
 ·simp only;omega
 ·have e:=zhi (l:=m2.entries) (f:=zdd) hx;simp only[zdd,zcP,zfT]at e;exact okB_bulk (by omega)
 ·simp only;omega
 ·simp only;omega
structure zsT where
 do_:Int
 op:TOp
 key:Int
 m:zbj
 now:Bool
abbrev sopD (o:zsT):List D:=.int .i64 o.do_::(opD o.op++(.int .i64 o.key::(msgD o.m++[.bool o.now])))
def tySop:List Ty:=.int .i64::(tyOp++(.int .i64::(tyMsg++[.bool])))
theorem dec_sop {ds:List D}(h:zcZ tySop ds)(hb:zcP ds<=1048576):∃o:zsT,ds=sopD o/\zqt o.do_/\zqt o.key/\opR o.op/\zcP (opD o.op)<=1048576/\zaK o.m:=by
 obtain⟨d1,ds,rfl,h1,h⟩:=zt h;obtain⟨x1,ds,rfl,h2,h⟩:=zkh h;obtain⟨d3,ds,rfl,h3,h⟩:=zt h;obtain⟨x4,ds,rfl,h4,h⟩:=zkh h;obtain⟨d5,ds,rfl,h5,h⟩:=zt h;obtain rfl:=zeF h;simp only[zcP,zoS]at hb;obtain⟨a1,rfl,k1⟩:=zaG h1;obtain⟨o,rfl,ho⟩:=dec_op h2;obtain⟨a3,rfl,k3⟩:=zaG h3;obtain⟨m,rfl,hm⟩:=dec_msg h4 (by omega);obtain⟨b,rfl⟩:=dec_bool h5;exact⟨⟨a1,o,a3,m,b⟩,rfl,k1,k3,ho,by simp only;omega,hm⟩
variable {σ:List AObj} {L:List (List UInt8)} {G:List zK}
section
variable {σ:List AObj} {K:KT} {f cl:Int} {q t l:Nat} {time:Int} {w:List zr} {sy:AV} {ticks:Int} {la:List (List D)} {many:Int}
theorem c_pTime (h:σ[q]? = some (.box (znc f cl t l time w sy ticks la many)))(hK:K (.d (.int .i64 time)) σ):zP zdS [.box q 0] σ K:=by
 refine zey zle fun hl=>?_;simp only[zgk,iN,bT,bF,eN];refine zG ?_;refine zhb h ?_;refine zm h ?_;refine zu hl ?_;exact hK
theorem c_pMany (h:σ[q]? = some (.box (znc f cl t l time w sy ticks la many)))(hK:K (.d (.int .i64 many)) σ):zP zdT [.box q 0] σ K:=by
 refine zey zlf fun hl=>?_;simp only[zgm,iN,bT,bF,eN];refine zG ?_;refine zhb h ?_;refine zm h ?_;refine zu hl ?_;exact hK
abbrev ansA (s:zr) (a b:Int):AV:=.agg [.d (.int .i64 s.client),.d (.int .i64 s.time),.d (.int .i64 s.op.kind),.d (.str s.op.topic),.d (.str s.op.group),.d (.int .i64 s.op.offset),.d (.slice (zdv s.op.recs)),.d (.int .i64 a),.d (.int .i64 b)]
theorem c_pLast {s:zr}{a b:Int}(h:σ[q]? = some (.box (znc f cl t l time w sy ticks [ansD s a b] many)))(hr:s.op.recs.length<=1073741824)(hb:∀r∈s.op.recs,r.length<=1073741824)(hK:K (.tup [ansA s a b,.d (.bool true)]) σ):zP zbN [.box q 0] σ K:=by
 refine zey zgi fun hl=>?_;simp only[zdU,iN,bT,bF,eN,zl1];have h':∀τ,(σ++τ)[q]? = some (.box (znc f cl t l time w sy ticks [ansD s a b] many)):=fun τ=>zi h;refine zG ?_;refine zhb (h' _) ?_;refine zlr (zd h' (zd (show((1:Int)==0)=false from rfl) @List.length_cons.{0})) ?_;refine ziV (o:=s.op) hr hb ?_;refine gq31 ?_;refine zu hl ?_;exact hK
def reqM (w:List zr):zbj:={ zeq with kind:=1,batch:=w }
def outD (w:List zr):List D:=.int .i64 (-1)::msgD (reqM w)
theorem zvx (h:σ[q]? = some (.box (znc f cl t l time w sy ticks la many)))(hw:zgx w)(hK:K (.d (.slice [outD w])) σ):zP zcp [.box q 0] σ K:=by
 refine zey zkF fun hl=>?_;simp only[zfU,iN,bT,bF,eN,zl3,zl5];refine zm h ?_;refine zmG hw ?_;refine zG ?_;refine zu hl ?_;exact hK
theorem c_pAsk {i:TGi}{o:TOp}(h:TG i σ L G)(hL:zmI L)(hg:G.length<=1073741824)(hq:σ[q]? = some (.box (znc f cl i.id i.id2 time [] sy ticks la many)))(hqk:q≠i.id/\q≠i.m/\q≠i.t/\q≠i.id2/\q≠i.m2/\q≠i.t2)(hos:zmW o<=20971520)(ho:okO o)(hc:zaM zdY o=0)(ht0:0<=time/\time<=1000000)
  (hx:zjN L ⟨cl,time+1,o,0,0⟩=0) {K:KT}
  (hK:∀(S:List AObj) (n:Nat),S[q]? = some (.box (znc f cl i.id i.id2 (time+1) [zfc L ⟨cl,time+1,o,0,0⟩] (.map n) 0 la many))->S[n]? = some (.map (zda []))->TG i S (zna L ⟨cl,time+1,o,0,0⟩) (znZ L G ⟨cl,time+1,o,0,0⟩)->n≠q→σ.length<=n →
   (∀(j:Nat) (y:AObj),j≠q->j≠i.id->j≠i.m->j≠i.t->j≠i.id2->j≠i.m2->j≠i.t2→σ[j]? = some y->S[j]? = some y)->K (.tup [.d (.slice [outD [zfc L ⟨cl,time+1,o,0,0⟩]]),.d (.int .i64 0)]) S) :
  zP zaN [.box q 0,opA o] σ K:=by
 refine ACall.weaken ?_;refine zeN zca.is rfl fun hl _=>zca.goes ?_;simp only[zcb,iN,bT,bF,eN,zl1,zl4,opA];have hq':∀τ,(σ++τ)[q]? = some (.box (znc f cl i.id i.id2 time [] sy ticks la many)):=fun τ=>zi hq;have hw1:IntKind.i64.wrap (time+1)=time+1:=zaT (by omega) (by omega);refine zG ?_;refine zhb (hq' _) ?_;refine zlr (zd hq' (show decide ((0:Int)>0)=false from rfl)) ?_;refine zxc (o:=o) ho.1 ho.2.1 ho.2.2.1 ?_;rw[hc];refine zm (zd hq' (zd hw1 (show((0:Int) != 0)=false from rfl))) ?_;obtain⟨x,hxe⟩:∃x:zr,(⟨cl,time+1,o,0,0⟩:zr)=x:=⟨_,rfl⟩;have hxo:x.op=o:=by rw[← hxe]
 rw[hxe]at hx hK;have hsm:zgx [zfc L x]:=by
  refine⟨by simp,fun s hs=>?_⟩;simp only[List.mem_singleton]at hs;subst hs;have:(zfc L x).op=o:=by rw[zfc,if_pos hx];exact hxo
  rw[this];exact⟨ho.2.2.1,ho.2.2.2⟩
 obtain⟨sg,hsg⟩:∃s,zfc L x=s:=⟨_,rfl⟩;obtain⟨L',hL'⟩:∃s,zna L x=s:=⟨_,rfl⟩;obtain⟨G',hG'⟩:∃s,znZ L G x=s:=⟨_,rfl⟩;obtain⟨P,hP⟩:∃P,zhl i σ L' G'=P:=⟨_,rfl⟩;have hPl:P.length=σ.length:=by rw[← hP];exact zkj ..
 have hPs:σ.length=P.length:=hPl.symm;have hql:=zZ hq;have hPq:P[q]? = some (.box (znc f cl i.id i.id2 time [] sy ticks la many)):=by rw[← hP,TG.other hqk];exact hq
 have hPT:TG i P L' G':=by rw[← hP];exact h.put L' G'
 have hPk:∀(j:Nat) (y:AObj),j≠i.id->j≠i.m->j≠i.t->j≠i.id2->j≠i.m2->j≠i.t2→σ[j]? = some y->P[j]? = some y:=fun j y a1 a2 a3 a4 a5 a6 hy=>by rw[← hP,TG.other ⟨a1,a2,a3,a4,a5,a6⟩];exact hy
 have hput:∀τ,putLed (putTab (σ++τ) i.id i.m i.t L') i.id2 i.m2 i.t2 G'=P++τ:=fun τ=>by rw[← hP];exact h.put_app L' G' τ
 have hPq':∀τ,(P++τ)[q]? = some (.box (znc f cl i.id i.id2 time [] sy ticks la many)):=fun τ=>zi hPq;have sq:∀τ Z,(P++τ).set q Z=P.set q Z++τ:=fun τ Z=>List.set_append_left _ _ (by omega);have sq2:∀τ Y Z,(P.set q Y++τ).set q Z=P.set q Z++τ:=fun τ Y Z=>by rw[List.set_append_left _ _ (by rw[List.length_set];omega),List.set_set]
 have zq:∀Z τ,(P.set q Z++τ)[q]? = some Z:=fun Z τ=>zi (List.getElem?_set_self (by omega));have gq:∀Z k τ,(P.set q Z++τ)[P.length+k]? = τ[k]?:=fun Z k τ=>by
  have:=zA (P.set q Z) τ k;rwa [List.length_set]at this
 have gq0:∀Z τ,(P.set q Z++τ)[P.length]? = τ[0]?:=fun Z τ=>by
  have:=zB (P.set q Z) τ;rw[List.length_set]at this;exact this
 rw[hsg,hL',hG']at hK;rw[hsg]at hsm;have done:∀(n:Nat) (B1 B2:AObj),n=P.length+2->zxE (fun r s=>∃r' s',zqk [r] s [r'] s'∧K r' s') (some [.d (.slice [outD [sg]]),.d (.int .i64 0)]) (P.set q (.box (znc f cl i.id i.id2 (time+1) [sg] (.map n) 0 la many))++[B1,B2,.map []]):=fun n B1 B2 hn=>by
  subst hn;have nes:=h.ne;refine zlc ⟨_,_,.refl _ _,hK (P.set q (.box (znc f cl i.id i.id2 (time+1) [sg] (.map (P.length+2)) 0 la many))++[B1,B2,.map []]) (P.length+2) (zq _ _) (by rw[gq];rfl) ?_ (by omega) (by omega) fun j y b0 b1 b2 b3 b4 b5 b6 hy=>zi (by rw[List.getElem?_set_ne (Ne.symm b0)];exact hPk j y b1 b2 b3 b4 b5 b6 hy)⟩;refine TG.app ⟨⟨?_,?_,?_⟩,⟨?_,?_,?_⟩,h.n1,h.n2⟩ _
  ·rw[List.getElem?_set_ne hqk.1];exact hPT.tab.box
  ·rw[List.getElem?_set_ne hqk.2.1];exact hPT.tab.map
  ·rw[List.getElem?_set_ne hqk.2.2.1];exact hPT.tab.tok
  ·rw[List.getElem?_set_ne hqk.2.2.2.1];exact hPT.led.box
  ·rw[List.getElem?_set_ne hqk.2.2.2.2.1];exact hPT.led.map
  ·rw[List.getElem?_set_ne hqk.2.2.2.2.2];exact hPT.led.tok
 have hsz:zmW x.op<=20971520:=by rw[hxo];exact hos
 have hreq:reqA x=.agg [.d (.int .i64 cl),.d (.int .i64 (time+1)),.d (.int .i64 o.kind),.d (.str o.topic),.d (.str o.group),.d (.int .i64 o.offset),.d (.slice (zdv o.recs))]:=by rw[← hxe];rfl
 refine⟨?_,?_⟩
 ·refine ziV (o:=o) ho.2.2.1 ho.2.2.2 ?_;refine zdO (zd hq' hw1) ?_;refine⟨?_,?_⟩
  ·rw[← hreq];refine zpP (x:=x) (h.tab.app _) (h.led.app _) h.n1 h.n2 hL hg hsz ?_;rw[hL',hG',hput,hx,hsg];refine zdO (zd hPq' (zd sq (zd sq2 (zd zq (zd gq (zd gq0 (zd hw1 (zd @List.length_set.{0} (zd hPs (show((0:Int) != 0)=false from rfl)))))))))) ?_;refine ACall.pre (.dataB q 6 _ (.exact [zay sg]) [zay sg] (zq _ _) rfl rfl (.refl _ _)) ?_;rw[sq2];refine zvx (zq _ _) hsm ?_;refine zG ?_;exact done _ _ _ rfl
  ·refine zdO (zd hq' hw1) ?_;rw[← hreq];refine zpP (x:=x) (h.tab.app _) (h.led.app _) h.n1 h.n2 hL hg hsz ?_;rw[hL',hG',hput,hx,hsg];refine zdO (zd hPq' (zd sq (zd sq2 (zd zq (zd gq (zd gq0 (zd hw1 (zd @List.length_set.{0} (zd hPs (show((0:Int) != 0)=false from rfl)))))))))) ?_;refine ACall.pre (.dataB q 6 _ (.exact [zay sg]) [zay sg] (zq _ _) rfl rfl (.refl _ _)) ?_;rw[sq2];refine zvx (zq _ _) hsm ?_;refine zG ?_;exact done _ _ _ rfl
 ·refine zdO (zd hq' hw1) ?_;refine ziV (o:=o) ho.2.2.1 ho.2.2.2 ?_;refine zdO (zd hq' hw1) ?_
  ·rw[← hreq];refine zpP (x:=x) (h.tab.app _) (h.led.app _) h.n1 h.n2 hL hg hsz ?_;rw[hL',hG',hput,hx,hsg];refine zdO (zd hPq' (zd sq (zd sq2 (zd zq (zd gq (zd gq0 (zd hw1 (zd @List.length_set.{0} (zd hPs (show((0:Int) != 0)=false from rfl)))))))))) ?_;refine ACall.pre (.dataB q 6 _ (.exact [zay sg]) [zay sg] (zq _ _) rfl rfl (.refl _ _)) ?_;rw[sq2];refine zvx (zq _ _) hsm ?_;refine zG ?_;exact done _ _ _ rfl
end
structure zhU where
 f:Int
 cl:Int
 time:Int
 waits:Bool
 s:zr
 says:List (Int × Int × Int)
 ticks:Int
 ls:zr
 la:Int
 lo:Int
 many:Int
def zyh (d:zhU) (o:TOp):zr:=⟨d.cl,d.time+1,o,0,0⟩
def zxJ (L:List (List UInt8)) (d:zhU) (o:TOp):Int:=if d.waits=true then 240 else if zaM zdY o≠0 then zaM zdY o else zjN L (zyh d o)
def zxH (L:List (List UInt8)) (d:zhU) (o:TOp):List (List UInt8):=if d.waits=true then L else if zaM zdY o≠0 then L else zna L (zyh d o)
def zxI (L:List (List UInt8)) (G:List zK) (d:zhU) (o:TOp):List zK:=if d.waits=true then G else if zaM zdY o≠0 then G else znZ L G (zyh d o)
def zqj (L:List (List UInt8)) (d:zhU) (o:TOp):zhU:=if zxJ L d o≠0 then d else{ d with time:=d.time+1,waits:=true,s:=zfc L (zyh d o),says:=[],ticks:=0 }
def zzn (L:List (List UInt8)) (d:zhU) (o:TOp):List (List D):=if zxJ L d o≠0 then []else [outD [zfc L (zyh d o)]]
def zhc (L:List (List UInt8)) (G:List zK) (d:zhU) (m:zbj):Bool:=d.waits&&(decide (m.kind=5)&&(decide (m.client=d.cl)&&(decide (m.time=d.time)&&(zfa L G m&&decide (m.src<3*d.f+1)))))
def sayD (l:List (Int × Int × Int)) (k a b:Int):List (Int × Int × Int):=l.filter (fun e=>decide (e.1≠k))++[(k,a,b)]
def zsZ (d:zhU) (m:zbj):Bool:=decide (¬(zpW (sayD d.says m.src m.rerr m.roff) m.rerr m.roff:Int)<d.f+1)
def zrN (L:List (List UInt8)) (G:List zK) (d:zhU) (m:zbj):Bool:=zhc L G d m&&zsZ d m
def takeP (L:List (List UInt8)) (G:List zK) (d:zhU) (m:zbj):zhU:=
 if zhc L G d m=true then
  if zsZ d m=true then{ d with says:=sayD d.says m.src m.rerr m.roff,waits:=false,ls:=d.s,la:=m.rerr,lo:=m.roff,many:=d.many+1 }
  else{ d with says:=sayD d.says m.src m.rerr m.roff }
 else d
def zfX (d:zhU):zhU:={ d with ticks:=d.ticks+1 }
def zok (d:zhU):List (List D):=if d.waits=true/\(d.ticks+1).tmod 4=0 then [outD [d.s]]else []
def voteN (d:zhU) (a b:Int):Int:=if d.waits=true then(zpW d.says a b:Int)else 0
def zlb (d:zhU):List (List D):=if d.many=0 then []else [ansD d.ls d.la d.lo]
def zmX (d:zhU):List zr:=if d.waits=true then [d.s]else []
abbrev znC (d:zhU) (t l:Nat) (sy:AV):List AV:=znc d.f d.cl t l d.time (zmX d) sy d.ticks (zlb d) d.many
abbrev zhq (l:List (Int × Int × Int)):List (List D):=l.map fun e=>[.int .i64 e.1,.int .i64 e.2.1,.int .i64 e.2.2]
abbrev zlW (d:zhU) (t l:Nat) (sy:AV):List AV:=
 [.d (.int .i64 d.f),.d (.int .i64 d.cl),.box t 0,.box l 0,.d (.int .i64 d.time),.d (.bool d.waits),
  .d (.int .i64 d.s.client),.d (.int .i64 d.s.time),.d (.int .i64 d.s.op.kind),.d (.str d.s.op.topic),.d (.str d.s.op.group),.d (.int .i64 d.s.op.offset),.d (.slice (zdv d.s.op.recs)),.d (.int .i64 d.s.key),.d (.int .i64 d.s.dig),
  sy,.d (.int .i64 d.ticks),
  .d (.int .i64 d.ls.client),.d (.int .i64 d.ls.time),.d (.int .i64 d.ls.op.kind),.d (.str d.ls.op.topic),.d (.str d.ls.op.group),.d (.int .i64 d.ls.op.offset),.d (.slice (zdv d.ls.op.recs)),.d (.int .i64 d.la),.d (.int .i64 d.lo),.d (.int .i64 d.many)]
structure SayI (sy l:List (Int × Int × Int)):Prop where
 perm:sy.Perm l
 nd:(sy.map (·.1)).Nodup
 key:∀e∈sy,0<=e.1/\e.1<=12
theorem SayI.nil:SayI [] []:=⟨.nil,.nil,by simp⟩
theorem SayI.len {sy l:List (Int × Int × Int)}(h:SayI sy l):sy.length<=13:=by
 have h1:=zqV 13 _ h.nd fun x hx=>by
  obtain⟨e,he,rfl⟩:=List.mem_map.1 hx;have:=h.key e he;omega
 have h2:(zvF 13).length=13:=by decide
 have h3:=List.countP_le_length (p:=fun i=>decide (i∈sy.map (·.1))) (l:=zvF 13);rw[List.length_map]at h1;omega
theorem SayI.votes {sy l:List (Int × Int × Int)}(h:SayI sy l)(a b:Int):zpW sy a b=zpW l a b:=h.perm.countP_eq _
theorem fsay_none {k:Int}:∀ {l:List (Int × Int × Int)} {i:Nat},fsay k l i=none->∀e∈l,e.1≠k
 | [],_,_=>by simp
 | e::r,i,h=>by
  simp only[fsay]at h;split at h
  ·cases h
  ·rename_i hk;intro x hx;rcases List.mem_cons.1 hx with rfl|hx
   ·exact fun h=>hk h.symm
   ·exact fsay_none h x hx
theorem fsay_some {k:Int}:∀ {l:List (Int × Int × Int)} {i:Nat} {q:Nat × (Int × Int)},fsay k l i=some q->∃j,q.1=i+j/\l[j]? = some (k,q.2)
 | [],_,_,h=>by simp[fsay]at h
 | e::r,i,q,h=>by
  simp only[fsay]at h;split at h
  ·rename_i hk;cases h;exact⟨0,rfl,by rw[hk];rfl⟩
  ·obtain⟨j,h1,h2⟩:=fsay_some h;exact⟨j+1,by omega,by simpa using h2⟩
theorem zme {k:Int}{l:List (Int × Int × Int)}(h:∀e∈l,e.1≠k):l.filter (fun e=>decide (e.1≠k))=l:=List.filter_eq_self.2 fun e he=>by simpa using h e he
theorem SayI.put {sy l:List (Int × Int × Int)}(h:SayI sy l){k a b:Int}(hk:0<=k/\k<=12):SayI (zhr sy k a b) (sayD l k a b):=by
 unfold zhr;cases hf:fsay k sy 0 with
 | none=>
  have hn:=fsay_none hf
  refine⟨?_,?_,?_⟩
  ·unfold sayD
   rw[zme (fun e he=>hn e (h.perm.mem_iff.2 he))]
   exact h.perm.append_right _
  ·rw[List.map_append,List.nodup_append]
   refine⟨h.nd,by simp,fun x hx y hy=>?_⟩
   obtain⟨e,he,rfl⟩:=List.mem_map.1 hx
   simp at hy
   subst hy
   exact hn e he
  ·intro e he
   rcases List.mem_append.1 he with he|he
   ·exact h.key e he
   ·simp at he;subst he;exact hk
 | some q=>
  obtain⟨j,h1,h2⟩:=fsay_some hf
  simp only[Nat.zero_add]at h1
  simp only[h1]
  obtain⟨hj,he⟩:=List.getElem?_eq_some_iff.1 h2
  have e1:sy=sy.take j++(k,q.2)::sy.drop (j+1):=by rw[← he];simp
  have e2:sy.set j (k,a,b)=sy.take j++(k,a,b)::sy.drop (j+1):=by
   rw[List.set_eq_take_append_cons_drop,if_pos hj]
  obtain⟨A,hA⟩:∃A,sy.take j=A:=⟨_,rfl⟩
  obtain⟨B,hB⟩:∃A,sy.drop (j+1)=A:=⟨_,rfl⟩
  rw[hA,hB]at e1 e2
  rw[e2]
  have hnd:=h.nd
  have hkey:=h.key
  have hp:=h.perm
  rw[e1]at hnd hkey hp
  have hAk:∀e∈A,e.1≠k:=fun e he hc=>by
   rw[List.map_append,List.nodup_append]at hnd;exact hnd.2.2 e.1 (List.mem_map.2 ⟨e,he,rfl⟩) k (by simp) hc
  have hBk:∀e∈B,e.1≠k:=fun e he hc=>by
   rw[List.map_append,List.nodup_append]at hnd;have:=hnd.2.1;simp only[List.map_cons,List.nodup_cons]at this;exact this.1 (List.mem_map.2 ⟨e,he,hc⟩)
  refine⟨?_,?_,?_⟩
  ·have hf2:=hp.filter (fun e=>decide (e.1≠k))
   rw[List.filter_append,zme hAk,List.filter_cons,if_neg (by simp),zme hBk]at hf2
   unfold sayD
   refine List.Perm.trans ?_ (hf2.append_right [(k,a,b)])
   rw[List.append_assoc]
   exact(List.perm_append_comm (l₁:=[(k,a,b)]) (l₂:=B)).append_left A
  ·simpa [List.map_append] using hnd
  ·intro e he
   rcases List.mem_append.1 he with he|he
   ·exact hkey e (by simp[he])
   ·rcases List.mem_cons.1 he with rfl|he
    ·exact hk
    ·exact hkey e (by simp[he])
variable {σ:List AObj} {L:List (List UInt8)} {G:List zK}
section
variable {σ:List AObj} {K:KT} {f cl:Int} {q t l:Nat} {time:Int} {w:List zr} {sy:AV} {ticks:Int} {la:List (List D)} {many:Int}
theorem c_pAskBusy {o:TOp}{s:zr}(hq:σ[q]? = some (.box (znc f cl t l time [s] sy ticks la many)))(hK:K (.tup [.d (.slice []),.d (.int .i64 240)]) σ):zP zaN [.box q 0,opA o] σ K:=by
 refine zen zca fun hl=>?_;have hq':∀τ,(σ++τ)[q]? = some (.box (znc f cl t l time [s] sy ticks la many)):=fun τ=>zi hq;simp only[zcb,iN,bT,bF,eN,zl1,zl4,opA];refine zG ?_;refine zhb (hq' _) ?_;refine zlr (zd hq' (zd (show decide (((1:Nat):Int)>0)=true from rfl) (zd (show decide ((1:Int)>0)=true from rfl) @List.length_cons.{0}))) ?_;refine zu hl ?_;exact hK
theorem c_pAskBad {o:TOp}(hq:σ[q]? = some (.box (znc f cl t l time [] sy ticks la many)))(ho:okO o)(hc:zaM zdY o≠0)(hK:K (.tup [.d (.slice []),.d (.int .i64 (zaM zdY o))]) σ):zP zaN [.box q 0,opA o] σ K:=by
 refine zen zca fun hl=>?_;have hq':∀τ,(σ++τ)[q]? = some (.box (znc f cl t l time [] sy ticks la many)):=fun τ=>zi hq;have hb:(zaM zdY o != 0)=true:=by simpa using hc
 simp only[zcb,iN,bT,bF,eN,zl1,zl4,opA];refine zG ?_;refine zhb (hq' _) ?_;refine zlr (zd hq' (show decide ((0:Int)>0)=false from rfl)) ?_;refine zxc (o:=o) ho.1 ho.2.1 ho.2.2.1 ?_;refine zm hb ?_;refine zu hl ?_;exact hK
theorem c_pAskErr {i:TGi}{o:TOp}(h:TG i σ L G)(hL:zmI L)(hg:G.length<=1073741824)(hq:σ[q]? = some (.box (znc f cl i.id i.id2 time [] sy ticks la many)))(hos:zmW o<=20971520)(ho:okO o)(hc:zaM zdY o=0)(ht0:0<=time/\time<=1000000)
  (hx:zjN L ⟨cl,time+1,o,0,0⟩≠0)
  (hK:K (.tup [.d (.slice []),.d (.int .i64 (zjN L ⟨cl,time+1,o,0,0⟩))]) (zhl i σ (zna L ⟨cl,time+1,o,0,0⟩) (znZ L G ⟨cl,time+1,o,0,0⟩))) :
  zP zaN [.box q 0,opA o] σ K:=by
 refine zen zca fun hl=>?_;simp only[zcb,iN,bT,bF,eN,zl1,zl4,opA];have hq':∀τ,(σ++τ)[q]? = some (.box (znc f cl i.id i.id2 time [] sy ticks la many)):=fun τ=>zi hq;have hw1:IntKind.i64.wrap (time+1)=time+1:=zaT (by omega) (by omega);refine zG ?_;refine zhb (hq' _) ?_;refine zlr (zd hq' (show decide ((0:Int)>0)=false from rfl)) ?_;refine zxc (o:=o) ho.1 ho.2.1 ho.2.2.1 ?_;rw[hc];refine zm (zd hq' (zd hw1 (show((0:Int) != 0)=false from rfl))) ?_;obtain⟨x,hxe⟩:∃x:zr,(⟨cl,time+1,o,0,0⟩:zr)=x:=⟨_,rfl⟩;have hxo:x.op=o:=by rw[← hxe]
 rw[hxe]at hx hK;have hxb:(zjN L x != 0)=true:=by simpa using hx
 obtain⟨sg,hsg⟩:∃s,zfc L x=s:=⟨_,rfl⟩;obtain⟨L',hL'⟩:∃s,zna L x=s:=⟨_,rfl⟩;obtain⟨G',hG'⟩:∃s,znZ L G x=s:=⟨_,rfl⟩;obtain⟨e,he⟩:∃e,zjN L x=e:=⟨_,rfl⟩;have hl2:=h.lows hl L' G';obtain⟨P,hP⟩:∃P,zhl i σ L' G'=P:=⟨_,rfl⟩;have hPl:P.length=σ.length:=by rw[← hP];exact zkj ..
 have hPs:σ.length=P.length:=hPl.symm;have hput:∀τ,putLed (putTab (σ++τ) i.id i.m i.t L') i.id2 i.m2 i.t2 G'=P++τ:=fun τ=>by rw[← hP];exact h.put_app L' G' τ
 rw[hL',hG',he,hP]at hK;rw[he]at hxb;rw[hP,hPs]at hl2;have hsz:zmW x.op<=20971520:=by rw[hxo];exact hos
 have hreq:reqA x=.agg [.d (.int .i64 cl),.d (.int .i64 (time+1)),.d (.int .i64 o.kind),.d (.str o.topic),.d (.str o.group),.d (.int .i64 o.offset),.d (.slice (zdv o.recs))]:=by rw[← hxe];rfl
 have done:∀τ,AW.Ends P.length K (some [.d (.slice []),.d (.int .i64 e)]) (P++τ):=fun τ=>zeX rfl (by simp[zgQ,dmT,dm,dm1,zck,zbw,zfs]) hl2 hK;refine⟨?_,?_⟩
 ·refine ziV (o:=o) ho.2.2.1 ho.2.2.2 ?_;refine zdO (zd hq' hw1) ?_;refine⟨?_,?_⟩
  ·rw[← hreq];refine zpP (x:=x) (h.tab.app _) (h.led.app _) h.n1 h.n2 hL hg hsz ?_;rw[hL',hG',hput,he,hsg];refine zdO (zd hxb hPs) ?_;exact done _
  ·refine zdO (zd hq' hw1) ?_;rw[← hreq];refine zpP (x:=x) (h.tab.app _) (h.led.app _) h.n1 h.n2 hL hg hsz ?_;rw[hL',hG',hput,he,hsg];refine zdO (zd hxb hPs) ?_;exact done _
 ·refine zdO (zd hq' hw1) ?_;refine ziV (o:=o) ho.2.2.1 ho.2.2.2 ?_;refine zdO (zd hq' hw1) ?_
  ·rw[← hreq];refine zpP (x:=x) (h.tab.app _) (h.led.app _) h.n1 h.n2 hL hg hsz ?_;rw[hL',hG',hput,he,hsg];refine zdO (zd hxb hPs) ?_;exact done _
end
variable {σ:List AObj} {L:List (List UInt8)} {G:List zK}
structure PubI (N:Nat) (d:zhU):Prop where
 f:1<=d.f/\d.f<=4
 time:0<=d.time/\d.time<=N
 ticks:0<=d.ticks/\d.ticks<=N
 many:0<=d.many/\d.many<=N
 z:d.many=0->d.ls=zSigned/\d.la=0/\d.lo=0
 so:d.s.op.recs.length<=1073741824/\∀r∈d.s.op.recs,r.length<=1073741824
 lo:d.ls.op.recs.length<=1073741824/\∀r∈d.ls.op.recs,r.length<=1073741824
structure SyAt (S:List AObj) (d:zhU) (x:AV) (n:Nat):Prop where
 yes:d.waits=true->x=.map n/\∃sy,S[n]? = some (.map (zda sy))/\SayI sy d.says
 no:d.waits=false->x=.d .nilmap∨(x=.map n/\S[n]? = some (.map (zda [])))
section
variable {σ:List AObj} {K:KT} {f cl:Int} {q t l:Nat} {time:Int} {w:List zr} {sy:AV} {ticks:Int} {la:List (List D)} {many:Int}
theorem c_pTake0 {m:zbj}(h:σ[q]? = some (.box (znc f cl t l time [] sy ticks la many)))(hK:K (.d (.bool false)) σ):zP zaI [.box q 0,zgd m] σ K:=by
 refine zen zcH fun hl=>?_;have hq:∀τ,(σ++τ)[q]? = some (.box (znc f cl t l time [] sy ticks la many)):=fun τ=>zi h;simp only[zcJ,iN,bT,bF,eN,zl1];refine zG ?_;refine zhb (hq _) ?_;refine zlr (zd hq (show((0:Int)==0)=true from rfl)) ?_;refine zu hl ?_;exact hK
theorem c_pTakeNo {s:zr}{m:zbj}{v:Bool}(h:σ[q]? = some (.box (znc f cl t l time [s] sy ticks la many)))(hf:1<=f/\f<=4)
  (hv:∀τ (K:KT),K (.d (.bool v)) (σ++τ)->zP zhe [.box t 0,.box l 0,zgd m] (σ++τ) K)
  (hn:¬(v=true/\m.kind=5/\m.client=cl/\m.time=time/\m.src<3*f+1)) (hK:K (.d (.bool false)) σ):zP zaI [.box q 0,zgd m] σ K:=by
 refine zen zcH fun hl=>?_;have hq:∀τ,(σ++τ)[q]? = some (.box (znc f cl t l time [s] sy ticks la many)):=fun τ=>zi h;simp only[zcJ,iN,bT,bF,eN,zl1];refine zG ?_;refine zhb (hq _) ?_;refine zlr (zd hq (zd (show((1:Int)==0)=false from rfl) @List.length_cons.{0})) ?_;refine hv _ _ ?_;cases v with
 | false=>
  refine zm (zd hq (show(false==false)=true from rfl)) ?_
  refine zu hl ?_
  exact hK
 | true=>
  by_cases e1:m.kind=5
  rotate_left
  ·refine zm (zd hq (zd (show(m.kind != 5)=true by simpa using e1) (show(false==false)=true from rfl))) ?_
   refine zu hl ?_
   exact hK
  by_cases e2:m.client=cl
  rotate_left
  ·refine zm (zd hq (zd (show(m.kind != 5)=false by simpa using e1) (zd (show(m.client != cl)=true by simpa using e2) (show(false==false)=true from rfl)))) ?_
   refine zu hl ?_
   exact hK
  by_cases e3:m.time=time
  rotate_left
  ·refine zm (zd hq (zd (show(m.kind != 5)=false by simpa using e1) (zd (show(m.client != cl)=false by simpa using e2) (zd (show(m.time != time)=true by simpa using e3) (show(false==false)=true from rfl))))) ?_
   refine zu hl ?_
   exact hK
  refine zm (zd hq (zd (show(m.kind != 5)=false by simpa using e1) (zd (show(m.client != cl)=false by simpa using e2) (zd (show(m.time != time)=false by simpa using e3) (show(false==false)=true from rfl))))) ?_
  refine zwW ?_
  rw[show zfD 3 f=3*f+1 by rw[zfD,if_neg (by omega)]]
  have e6:decide (m.src≥3*f+1)=true:=by
   simp;have:¬m.src<3*f+1:=fun h=>hn ⟨rfl,e1,e2,e3,h⟩;omega
  refine zm (zd hq e6) ?_
  refine zu hl ?_
  exact hK
theorem c_pTakeG {i:TGi}{N n p:Nat}{d:zhU}{x:AV}{m:zbj}(h:TG i σ L G)(hL:zmI L)(hg:G.length<=1073741824)(hp:σ[p]? = some (.box (znC d i.id i.id2 x)))(hI:PubI N d)(hN:N<=900000)(hx:SyAt σ d x n)(hm:zaK m)
  (hK:∀S x',S.length=σ.length->S[p]? = some (.box (znC (takeP L G d m) i.id i.id2 x'))->SyAt S (takeP L G d m) x' n->(∀(j:Nat) (y:AObj),j≠p->j≠n→σ[j]? = some y->S[j]? = some y)->K (.d (.bool (zrN L G d m))) S) :
  zP zaI [.box p 0,zgd m] σ K:=by
 have hv:∀τ (K:KT),K (.d (.bool (zfa L G m))) (σ++τ)->zP zhe [.box i.id 0,.box i.id2 0,zgd m] (σ++τ) K:=fun τ K hk=>zzg (h.tab.app _) (h.led.app _) hL hg hm hk;have same:zhc L G d m=false->K (.d (.bool false)) σ:=fun ho=>by
  have e1:takeP L G d m=d:=by rw[takeP,if_neg (by rw[ho];simp)]
  have e2:zrN L G d m=false:=by rw[zrN,ho];rfl
  have:=hK σ x rfl (by rw[e1];exact hp) (by rw[e1];exact hx) (fun j y _ _ h=>h);rwa [e2]at this
 cases hw:d.waits with
 | false=>
  have hp':=hp
  simp only[znC,zmX,hw,Bool.false_eq_true,if_false]at hp'
  exact c_pTake0 hp' (same (by simp[zhc,hw]))
 | true=>
  obtain⟨rfl,sy,hn,hS⟩:=hx.yes hw
  have hp':=hp
  simp only[znC,zmX,hw,if_true]at hp'
  by_cases ho:zhc L G d m=true
  rotate_left
  ·refine c_pTakeNo hp' hI.f hv (fun hc=>ho ?_) (same (by simpa using ho))
   simp[zhc,hw,hc]
  have hc:=ho
  simp only[zhc,hw,Bool.true_and,Bool.and_eq_true,decide_eq_true_eq]at hc
  obtain⟨c1,c2,c3,c4,c5⟩:=hc
  have hsrc:0<=m.src/\m.src<=12:=by
   simp only[zfa,Bool.and_eq_true,decide_eq_true_eq]at c4;exact(zur c1 c4.1).src
  have hS2:=hS.put (a:=m.rerr) (b:=m.roff) hsrc
  have hlen:=hS.len
  have hmn:=hI.many
  have hnp:n≠p:=fun e=>by subst e;rw[hp]at hn;cases hn
  have hvo:=hS2.votes m.rerr m.roff
  refine c_pTake hp' hn (by omega) (fun τ K hk=>hv τ K (by rw[c4];exact hk)) c1 c2 c3 hI.f c5 (by omega) (fun hlt=>?_) (fun hlt=>?_)
  ·rw[hvo]at hlt
   have hB:zsZ d m=false:=by simpa [zsZ] using hlt
   have e1:takeP L G d m={ d with says:=sayD d.says m.src m.rerr m.roff }:=by rw[takeP,if_pos ho,if_neg (by rw[hB];simp)]
   have e2:zrN L G d m=false:=by rw[zrN,hB,Bool.and_false]
   rw[← e2]
   refine hK _ (.map n) (by simp) ?_ ⟨fun _=>⟨rfl,_,List.getElem?_set_self (zZ hn),by rw[e1];exact hS2⟩,fun h'=>?_⟩ fun j y _ hj hy=>by rw[List.getElem?_set_ne (Ne.symm hj)];exact hy
   ·rw[List.getElem?_set_ne hnp,hp,e1]
    rfl
   ·rw[e1]at h';rw[hw]at h';cases h'
  ·rw[hvo]at hlt
   have hB:zsZ d m=true:=by simpa [zsZ] using hlt
   have e1:takeP L G d m={ d with says:=sayD d.says m.src m.rerr m.roff,waits:=false,ls:=d.s,la:=m.rerr,lo:=m.roff,many:=d.many+1 }:=by rw[takeP,if_pos ho,if_pos hB]
   have e2:zrN L G d m=true:=by rw[zrN,hB,ho];rfl
   rw[← e2]
   refine hK _ (.d .nilmap) (by simp) ?_ ⟨fun h'=>?_,fun _=>.inl rfl⟩ fun j y hj1 hj hy=>by rw[List.getElem?_set_ne (Ne.symm hj1),List.getElem?_set_ne (Ne.symm hj)];exact hy
   ·rw[List.getElem?_set_self (by simpa using zZ hp),e1]
    have:zlb { d with says:=sayD d.says m.src m.rerr m.roff,waits:=false,ls:=d.s,la:=m.rerr,lo:=m.roff,many:=d.many+1 }=[ansD d.s m.rerr m.roff]:=by
     rw[zlb,if_neg (by simp only;omega)]
    simp only[znC,this,zmX,Bool.false_eq_true,if_false]
   ·rw[e1]at h';cases h'
end
variable {σ:List AObj}
section
variable {σ:List AObj} {K:KT} {p t l n N:Nat} {d:zhU} {x:AV}
theorem c_pLastG (h:σ[p]? = some (.box (znC d t l x)))(hI:PubI N d)(hK:K (.tup [ansA d.ls d.la d.lo,.d (.bool (decide (d.many>0)))]) σ):zP zbN [.box p 0] σ K:=by
 by_cases hm:d.many=0;rotate_left
 ·have hl:zlb d=[ansD d.ls d.la d.lo]:=by rw[zlb,if_neg hm]
  have:=hI.many;rw[show decide (d.many>0)=true by simp;omega]at hK;rw[znC,hl]at h;exact c_pLast h hI.lo.1 hI.lo.2 hK
 have hl:zlb d=[]:=by rw[zlb,if_pos hm]
 obtain⟨z1,z2,z3⟩:=hI.z hm;rw[show decide (d.many>0)=false by simp;omega,z1,z2,z3]at hK;rw[znC,hl]at h;have h':∀τ,(σ++τ)[p]? = _:=fun τ=>zi h;refine zey zgi fun hl=>?_;simp only[zdU,iN,bT,bF,eN,zl1];refine zG ?_;refine zhb (h' _) ?_;refine zlr (zd h' (show((0:Int)==0)=true from rfl)) ?_;refine zu hl ?_;exact hK
theorem pubP_low {d d':zhU}{k:Nat}(hl:zhm k σ)(h:σ[p]? = some (.box (znC d t l x))):ztV k (.box (znC d' t l x)):=by
 intro c hc;have hb:=hl p _ h c;simp only[znC,List.mem_cons,List.not_mem_nil,or_false]at hc;rcases hc with rfl|rfl|rfl|rfl|rfl|rfl|rfl|rfl|rfl|rfl|rfl;all_goals first
  | exact .d _
  | exact hb (by simp)
theorem c_pTickG (h:σ[p]? = some (.box (znC d t l x)))(hI:PubI N d)(hN:N<=900000)(hK:K (.d (.slice (zok d))) (σ.set p (.box (znC (zfX d) t l x)))):zP zcG [.box p 0] σ K:=by
 refine zja zgh.is rfl fun hl _=>zgh.goes ?_;have hp:=zZ h;have ht:=hI.ticks;have hw:IntKind.i64.wrap (d.ticks+1)=d.ticks+1:=zaT (by omega) (by omega);have hlw:ztV σ.length (.box (znC (zfX d) t l x)):=pubP_low hl h;have z:∀Y τ,(σ.set p Y++τ)[p]? = some Y:=fun Y τ=>zi (List.getElem?_set_self hp);have z0:∀Y,(σ.set p Y)[p]? = some Y:=fun Y=>List.getElem?_set_self hp;obtain⟨B,hB⟩:∃B,AObj.box (znC (zfX d) t l x)=B:=⟨_,rfl⟩;have done:∀r,r=AV.d (.slice (zok d))->∀τ,EndsW σ.length K (some [r]) (σ.set p (.box (znC (zfX d) t l x))++τ):=by
  rintro r rfl τ;exact ziI (zeK (by simp[zgQ,dmT,dm,dm1,zck]) hl hlw hK)
 have done0:∀r,r=AV.d (.slice (zok d))->EndsW σ.length K (some [r]) (σ.set p (.box (znC (zfX d) t l x))):=fun r hr=>by simpa using done r hr []
 simp only[zgl,iN,bT,bF,eN];refine zG ?_;refine zhb h ?_;have hB':∀τ,(σ.set p B++τ)[p]? = some (.box (znC (zfX d) t l x)):=fun τ=>by rw[hB];exact z _ _
 cases hwt:d.waits with
 | false=>
  have e1:zmX d=[]:=by rw[zmX,hwt,if_neg (by simp)]
  have e2:zok d=[]:=by rw[zok,if_neg (by rw[hwt];simp)]
  rw[znC,e1]at h
  refine zlr (zd h (zd hw (zd z0 (show((0:Int)==0)=true from rfl)))) ?_
  have:=done0 (.d (.slice [])) (by rw[e2])
  rw[znC,show zmX (zfX d)=[]from e1]at this
  exact this
 | true=>
  have e1:zmX d=[d.s]:=by rw[zmX,hwt,if_pos rfl]
  rw[znC,e1]at h
  cases hr:((d.ticks+1).tmod 4 != 0)
  ·have e2:zok d=[outD [d.s]]:=by rw[zok,if_pos ⟨hwt,by simpa using hr⟩]
   refine zlr (zd h (zd hw (zd z0 (zd hr (zd (show((1:Int)==0)=false from rfl) @List.length_cons.{0}))))) ?_
   refine zvx (w:=[d.s]) (z0 _) ⟨by simp,fun s hs=>by simp only[List.mem_singleton]at hs;subst hs;exact hI.so⟩ ?_
   have:=done0 (.d (.slice [outD [d.s]])) (by rw[e2])
   rw[znC,show zmX (zfX d)=[d.s]from e1]at this
   refine zG ?_
   exact this
  ·have e2:zok d=[]:=by rw[zok,if_neg (fun hc=>by simp at hr;exact hr hc.2)]
   refine zlr (zd h (zd hw (zd z0 (zd hr (zd (show((1:Int)==0)=false from rfl) @List.length_cons.{0}))))) ?_
   have:=done0 (.d (.slice [])) (by rw[e2])
   rw[znC,show zmX (zfX d)=[d.s]from e1]at this
   exact this
end
variable {σ:List AObj} {L:List (List UInt8)} {G:List zK}
def Off (i:TGi) (j:Nat):Prop:=j≠i.id/\j≠i.m/\j≠i.t/\j≠i.id2/\j≠i.m2/\j≠i.t2
theorem SyAt.keep {σ S:List AObj}{d:zhU}{x:AV}{n:Nat}(h:SyAt σ d x n)(hk:∀y,σ[n]? = some y->S[n]? = some y):SyAt S d x n:=
 ⟨fun hw=>by obtain⟨h1,sy,h2,h3⟩:=h.yes hw;exact⟨h1,sy,hk _ h2,h3⟩,fun hw=>(h.no hw).imp id fun h=>⟨h.1,hk _ h.2⟩⟩
section
variable {σ:List AObj} {K:KT} {p n N:Nat} {d:zhU} {x:AV}
theorem c_pAskG {i:TGi}{o:TOp}(h:TG i σ L G)(hL:zmI L)(hg:G.length<=1073741824)(hp:σ[p]? = some (.box (znC d i.id i.id2 x)))(hpk:Off i p)(hnk:Off i n)(hnp:n≠p)
  (hos:zmW o<=20971520) (ho:okO o) (hI:PubI N d) (hN:N<=900000) (hx:SyAt σ d x n)
  (hK:∀(S:List AObj) (x':AV) (n':Nat),TG i S (zxH L d o) (zxI L G d o)->S[p]? = some (.box (znC (zqj L d o) i.id i.id2 x'))->SyAt S (zqj L d o) x' n'→n'≠p->(n'=n∨(σ.length<=n'∧n'<S.length)) →
   (∀(j:Nat) (y:AObj),j≠p->Off i j→σ[j]? = some y->S[j]? = some y)->K (.tup [.d (.slice (zzn L d o)),.d (.int .i64 (zxJ L d o))]) S) :
  zP zaN [.box p 0,opA o] σ K:=by
 cases hw:d.waits with
 | true=>
  have e0:zxJ L d o=240:=by rw[zxJ,if_pos hw]
  have e1:zxH L d o=L:=by rw[zxH,if_pos hw]
  have e2:zxI L G d o=G:=by rw[zxI,if_pos hw]
  have e3:zqj L d o=d:=by rw[zqj,e0,if_pos (by decide)]
  have e4:zzn L d o=[]:=by rw[zzn,e0,if_pos (by decide)]
  rw[e0,e1,e2,e3,e4]at hK
  have hp':=hp
  rw[znC,zmX,hw,if_pos rfl]at hp'
  exact c_pAskBusy hp' (hK σ x n h hp hx hnp (.inl rfl) fun _ _ _ _ h=>h)
 | false=>
  have hp':=hp
  rw[znC,zmX,hw,if_neg (by simp)]at hp'
  have ht:=hI.time
  by_cases hc:zaM zdY o=0
  rotate_left
  ·have e0:zxJ L d o=zaM zdY o:=by rw[zxJ,if_neg (by rw[hw];simp),if_pos hc]
   have e1:zxH L d o=L:=by rw[zxH,if_neg (by rw[hw];simp),if_pos hc]
   have e2:zxI L G d o=G:=by rw[zxI,if_neg (by rw[hw];simp),if_pos hc]
   have e3:zqj L d o=d:=by rw[zqj,e0,if_pos hc]
   have e4:zzn L d o=[]:=by rw[zzn,e0,if_pos hc]
   rw[e0,e1,e2,e3,e4]at hK
   exact c_pAskBad hp' ho hc (hK σ x n h hp hx hnp (.inl rfl) fun _ _ _ _ h=>h)
  have e0:zxJ L d o=zjN L (zyh d o):=by rw[zxJ,if_neg (by rw[hw];simp),if_neg (by simpa using hc)]
  have e1:zxH L d o=zna L (zyh d o):=by rw[zxH,if_neg (by rw[hw];simp),if_neg (by simpa using hc)]
  have e2:zxI L G d o=znZ L G (zyh d o):=by rw[zxI,if_neg (by rw[hw];simp),if_neg (by simpa using hc)]
  by_cases hs:zjN L (zyh d o)=0
  rotate_left
  ·have e3:zqj L d o=d:=by rw[zqj,e0,if_pos hs]
   have e4:zzn L d o=[]:=by rw[zzn,e0,if_pos hs]
   rw[e0,e1,e2,e3,e4]at hK
   exact c_pAskErr h hL hg hp' hos ho hc (by omega) hs (hK _ x n (h.put _ _) (by rw[TG.other hpk];exact hp) (hx.keep fun y hy=>by rw[TG.other hnk];exact hy) hnp (.inl rfl) fun j y _ hj hy=>by rw[TG.other hj];exact hy)
  have e3:zqj L d o={ d with time:=d.time+1,waits:=true,s:=zfc L (zyh d o),says:=[],ticks:=0 }:=by rw[zqj,e0,if_neg (by simpa using hs)]
  have e4:zzn L d o=[outD [zfc L (zyh d o)]]:=by rw[zzn,e0,if_neg (by simpa using hs)]
  rw[e0,hs,e1,e2,e3,e4]at hK
  refine c_pAsk h hL hg hp' hpk hos ho hc (by omega) hs fun S n' hq hn hT hne hle hkp=>hK S (.map n') n' hT hq ⟨fun _=>⟨rfl,_,hn,.nil⟩,fun h=>by cases h⟩ hne (.inr ⟨hle,zZ hn⟩) fun j y hj ho hy=>hkp j y hj ho.1 ho.2.1 ho.2.2.1 ho.2.2.2.1 ho.2.2.2.2.1 ho.2.2.2.2.2 hy
end
theorem zyN {k:Int}:∀ {l:List (Int × Int × Int)} {i:Nat},(∀e∈l,e.1≠k)->fsay k l i=none
 | [],_,_=>rfl
 | e::r,i,h=>by
  simp only[fsay];rw[if_neg (fun hc=>h e (by simp) hc.symm)];exact zyN fun x hx=>h x (by simp[hx])
theorem seen_fresh {bs seen:List Nat}{sy ys:List (Int × Int × Int)}(h:zlF bs sy seen ys)(hn:(sy.map (·.1)).Nodup){j b:Nat}{y:Int × Int × Int}(hb:bs[j]? = some b)(hy:sy[j]? = some y)(hs:b∉seen):∀e∈ys,e.1≠y.1:=by
 intro e he hk;obtain⟨k,hk2⟩:=List.mem_iff_getElem?.1 he;have hl:=(List.getElem?_eq_some_iff.1 hk2).1;rw[← h.1]at hl;obtain⟨i,h1,h2⟩:=h.2 k _ e (List.getElem?_eq_getElem hl) hk2;have hil:=(List.getElem?_eq_some_iff.1 h2).1;have e1:(sy.map (·.1))[i]? = some e.1:=by rw[List.getElem?_map,h2];rfl
 have e2:(sy.map (·.1))[j]? = some e.1:=by rw[List.getElem?_map,hy,hk];rfl
 have:i=j:=(List.getElem?_inj (by simpa using hil) hn).1 (e1.trans e2.symm);subst this;rw[hb]at h1;cases h1;exact hs (List.getElem_mem hl)
section
variable {σ:List AObj} {K:KT} {p t l n N:Nat} {d:zhU} {x:AV}
theorem gq42 {A P Q:Prop}(a:A)(h:Q)(e:A->Hd Q->P:=by intro a h;(repeat' first|simp -dsimp only[↓zlC,↓zbR,↓zeb,↓zlD,↓zlu,↓zls,↓zlv,↓zlt,↓zeg,↓zec,↓zeh,↓zed,↓zlw,↓zdX,↓zei,↓zee,↓zej,↓zef,↓zlq,↓zlA,↓zdW,↓zem,↓zli,↓zlh,↓zln,iN,bT,bF,eN,↓zev,↓unC,↓zaC,↓zai,↓zaj,↓zav,↓zaW,↓zah,↓zgy,↓zaw,↓zbd,↓zad,↓ze,↓zl,↓zbg,↓zc,↓zaV,↓zN,↓zbS,↓zcl,↓zf,↓zF,↓zp,↓zM,↓zaB,↓zgF,↓zhG,↓zbc,↓zbz,↓zcf,↓zcz,↓zdj,↓zJ,↓zbb,↓zak,↓zO,↓zaU,zho,zdP,zdy,unA,zgu,bnd,ziP,zaO,zL,zhY,dm,dm1,zH,zaJ,zjT,zjS,keepO,Q0,Q1,Q2,Q3,Q4,Q5,zba,zA,zB,zX,zaa,Q6,Q7,Q8,Q9,Q10,Q11,Q12,Q13,Q14,Nat.reduceAdd,Q15,Int.reduceToNat,Q16,Q17,Q18,Q19,Q20,reduceIte,Q21,Q22,zy,rep,zaq,zhV,toD,zaD,Q23,Q24,Q25,Q26,Q27,Q28,Nat.reduceLeDiff,Q29,Nat.reduceSub,Q30,Q31,Q32,sc,Q33,Q34,Q35,Q36,Q37,Q26,Q38,Q39,zuP,zuM,zuJ,zuQ,zjr,zuN,zuK,zuO,zuL,zjq,zjs,zuS,zuT,Bool.not_true,Bool.not_false,List.length_map,Bool.and_false,Bool.and_self,Bool.false_and,Bool.not_false,Bool.not_true,Bool.true_and,Int.toNat_natCast,Int.toNat_zero,List.drop_zero,List.length_map,List.length_nil,List.nil_append,List.take_length,Nat.sub_zero,Nat.zero_add,Option.isSome_none,Option.isSome_some,Option.map_none,Option.map_some,ansD,zam,beq_self_eq_true,bft,bne_self_eq_false,btf,bytesE,zcj,zhL,zag,zdd,zsi,zce,zow,opA,opD,outD,zfy,zgo,zki,zay,a]|with_reducible refine zvh ?_|fail);exact h.go):P:=e a ⟨h⟩
theorem c_pCloneG (h:σ[p]? = some (.box (znC d t l x)))(hI:PubI N d)(hx:SyAt σ d x n)
  (hK:∀(S:List AObj) (p' n':Nat),S[p']? = some (.box (znC d t l (.map n')))->SyAt S d (.map n') n'→σ.length<=p'→σ.length<=n'→n'≠p'→(∀(j:Nat) (y:AObj),σ[j]? = some y->S[j]? = some y)->K (.box p' 0) S) :
  zP zdB [.box p 0] σ K:=by
 refine ACall.weaken ?_;refine zeN zfQ.is rfl fun hl _=>zfQ.goes ?_;have h':∀τ,(σ++τ)[p]? = _:=fun τ=>zi h;have hsm:zgx (zmX d):=by
  unfold zmX;split
  ·exact⟨by simp,fun s hs=>by simp only[List.mem_singleton]at hs;subst hs;exact hI.so⟩
  ·exact⟨by simp,by simp⟩
 have hcase:(x=.d .nilmap/\d.waits=false)∨(x=.map n/\∃sy,σ[n]? = some (.map (zda sy))/\sy.length<=13/\(sy.map (·.1)).Nodup/\∀ys,ys.Perm sy->(d.waits=true->SayI ys d.says)/\(d.waits=false->ys=[])):=by
  cases hw:d.waits with
  | true=>
   obtain⟨h1,sy,h2,h3⟩:=hx.yes hw
   exact .inr ⟨h1,sy,h2,h3.len,h3.nd,fun ys hp=>⟨fun _=>⟨hp.trans h3.perm,(hp.map _).nodup_iff.2 h3.nd,fun e he=>h3.key e (hp.mem_iff.1 he)⟩,fun h=>by cases h⟩⟩
  | false=>
   rcases hx.no hw with h1|⟨h1,h2⟩
   ·exact .inl ⟨h1,rfl⟩
   ·exact .inr ⟨h1,[],h2,by simp,.nil,fun ys hp=>⟨fun h=>(by cases h),fun _=>hp.eq_nil⟩⟩
 obtain⟨R,hR⟩:∃R:AV->List AV,(fun y=>[AV.d (.bool true),.d (.int .i64 d.f),.d (.int .i64 d.cl),.box t 0,.box l 0,.d (.int .i64 d.time),.d (.slice (zbA (zmX d))),.map (σ.length+1),.d (.int .i64 d.ticks),y,.d (.int .i64 d.many)])=R:=⟨_,rfl⟩;have fin:∀(ys:List (Int × Int × Int)) (y:AV) (T:List AObj),(d.waits=true->SayI ys d.says)/\(d.waits=false->ys=[])->(∃o,y=.own o (zlb d)) →
   zxE (fun r s=>∃r' s',zqk [r] s [r'] s'∧K r' s') (some [.box σ.length 0]) (σ++AObj.box (R y)::AObj.map (zda ys)::T):=fun ys y T hq hy=>by
  have g0:(σ++AObj.box (R y)::AObj.map (zda ys)::T)[σ.length]? = some (.box (R y)):=by rw[zB];rfl
  have e1:(σ++AObj.box (R y)::AObj.map (zda ys)::T).set σ.length (.box ((R y).set 9 (.d (.slice (zlb d)))))=σ++AObj.box (znC d t l (.map (σ.length+1)))::AObj.map (zda ys)::T:=by
   rw[zaa,← hR];rfl
  have g1:(σ++AObj.box (znC d t l (.map (σ.length+1)))::AObj.map (zda ys)::T)[σ.length+1]? = some (.map (zda ys)):=by rw[zA];rfl
  refine zlc ⟨_,σ++AObj.box (znC d t l (.map (σ.length+1)))::AObj.map (zda ys)::T,?_,hK _ σ.length (σ.length+1) (by rw[zB];rfl) ⟨fun hw=>⟨rfl,ys,g1,hq.1 hw⟩,fun hw=>.inr ⟨rfl,by rw[g1,hq.2 hw]⟩⟩ (by omega) (by omega) (by omega) fun j y hy=>zi hy⟩;obtain⟨o,rfl⟩:=hy;refine .dataB σ.length 9 _ (.own o (zlb d)) (zlb d) g0 (by rw[← hR];rfl) rfl ?_;rw[e1];exact .refl _ _
 have tail:∀(ys:List (Int × Int × Int)) (T:List AObj),(d.waits=true->SayI ys d.says)/\(d.waits=false->ys=[]) →
   (nfl 9 (.box p 0) (σ++AObj.box (R (.d (.slice (zlb d))))::AObj.map (zda ys)::T) fun D s=>zM 9 104 (.exact []) D s fun E s=>zc 9 (.box σ.length 0) s fun F s=>zl 1 F E s fun _ s=>
    z1 (zxE fun r s=>∃r' s',zqk [r] s [r'] s'∧K r' s') (.box σ.length 0) s):=fun ys T hq=>by
  have fin:=fin ys;subst hR;cases hla:decide (d.many=0)
  ·have e:zlb d=[ansD d.ls d.la d.lo]:=by rw[zlb,if_neg (by simpa using hla)]
   rw[e]at fin;refine gq42 (zd h' (zd e @List.length_cons.{0})) ?_;exact fin _ _ hq ⟨_,rfl⟩
  ·have e:zlb d=[]:=by rw[zlb,if_pos (by simpa using hla)]
   rw[e]at fin;refine zlr (zd h' e) ?_;exact fin _ _ hq ⟨_,rfl⟩
 have h0:=h;rcases hcase with⟨rfl,hw⟩|⟨rfl,sy,hn,hle,hnd,hsy⟩
 ·simp only[zdL,iN,bT,bF,eN];refine zG ?_;refine zhb h0 ?_;refine zm (zd h h') ?_;refine zmG (b:=zmX d) hsm ?_;refine zm h' ?_;simp only[zlV];have r2:∀B C:AObj,(σ++[B,C]++[AObj.mit none 0 []])[σ.length+2]? = some (.mit none 0 []):=fun B C=>by rw[List.append_assoc,zA];rfl
  refine zn 0 (fun k vs S=>vs=[]/\S=σ++[.box (R (.d (.slice (zlb d)))),.map []]++[.mit none 0 []]) ⟨rfl,by rw[← hR]⟩ ?_;rintro k vs S hk ⟨rfl,rfl⟩;have el:∀B C:AObj,(σ++[B,C]).length=σ.length+2:=fun B C=>by simp
  simp only[el,zqr,r2,zJ];have tl:=tail [] [.mit none 0 []] ⟨fun h=>(by rw[hw]at h;cases h),fun _=>rfl⟩;have eS:σ++[AObj.box (R (.d (.slice (zlb d)))),.map []]++[.mit none 0 []]=σ++AObj.box (R (.d (.slice (zlb d))))::AObj.map (zda [])::[.mit none 0 []]:=by simp
  rw[eS];simp only[zf,List.getElem?_cons_zero,zaC,zO];exact tl
 ·simp only[zdL,iN,bT,bF,eN];refine zG ?_;refine zhb h0 ?_;refine zm (zd h h') ?_;refine zmG (b:=zmX d) hsm ?_;refine zm h' ?_;simp only[zlV];have hnl:=zZ hn;have hn':∀τ,(σ++τ)[n]? = some (.map (zda sy)):=fun τ=>zi hn;have hlen:(zda sy).length=sy.length:=List.length_map ..;simp only[hn'];intro c bs hbl hbn;rw[hlen]at hbl;obtain⟨B,hB⟩:∃B,AObj.box (R (.d (.slice (zlb d))))=B:=⟨_,rfl⟩;refine zn sy.length (fun k vs S=>∃seen ys T,vs=[]/\seen.length=k/\zlF bs sy seen ys/\seen.Nodup/\S=(σ.set n (.mapr c bs (zda sy))++B::.map (zda ys)::.mit (some n) c seen::T)) ⟨[],[],[],rfl,rfl,.nil,.nil,by rw[List.set_append_left _ _ hnl,← hB,← hR];simp⟩ ?_;rintro k vs S hk ⟨seen,ys,T,rfl,rfl,hS,hsn,rfl⟩;obtain⟨ρ,hρ⟩:∃ρ,σ.set n (.mapr c bs (zda sy))=ρ:=⟨_,rfl⟩;have hρl:ρ.length=σ.length:=by rw[← hρ];simp
  have r1:∀τ,(ρ++τ)[n]? = some (.mapr c bs (zda sy)):=fun τ=>zi (by rw[← hρ];exact List.getElem?_set_self hnl);have r2:∀X Y τ,(ρ++B::X::Y::τ)[σ.length+2]? = some Y:=fun X Y τ=>by rw[← hρl,zA];rfl
  have el:∀B C:AObj,(σ++[B,C]).length=σ.length+2:=fun B C=>by simp
  rw[hρ];simp only[el,zqr,r1,r2,zJ];refine⟨trivial,fun hall=>?_,fun j b1 e hb1 he hnb=>?_⟩
  ·have hp:=hS.perm hsn hbn hbl hall;have tl:=tail ys (.mit (some n) c seen::T) (hsy ys hp);have eS:(ρ++B::AObj.map (zda ys)::AObj.mit (some n) c seen::T).set n (.map (zda sy))=σ++AObj.box (R (.d (.slice (zlb d))))::AObj.map (zda ys)::.mit (some n) c seen::T:=by
    rw[List.set_append_left _ _ (by omega),← hρ,List.set_set,zbQ hn,hB]
   rw[eS];simp only[zf,List.getElem?_cons_zero,zaC,zO];exact tl
  ·obtain⟨⟨key,x1,x2⟩,hx2,rfl⟩:=says_get he;have hlt:seen.length<sy.length:=by
    have:=hS.lt hsn hbl (List.mem_of_getElem? hb1) hnb;rw[hS.1];exact this
   have hs2:∀τ,(ρ++B::AObj.map (zda ys)::AObj.mit (some n) c seen::τ).set (σ.length+2) (AObj.mit (some n) c (seen++[b1]))=ρ++B::AObj.map (zda ys)::AObj.mit (some n) c (seen++[b1])::τ:=fun τ=>by
    rw[← hρl,zX];rfl
   have hS2:=hS.snoc hb1 hx2;have hsn2:(seen++[b1]).Nodup:=by
    rw[List.nodup_append];exact⟨hsn,by simp,fun x hx y hy=>by simp at hy;subst hy;exact fun e=>hnb (e▸hx)⟩
   have hfr:=seen_fresh hS hnd hb1 hx2 hnb;have hmf:=ztp key ys 0;rw[zyN hfr]at hmf;refine zG ?_;rw[hs2];simp only[znn,r1,r2];refine⟨trivial,j,b1,_,by simp,hb1,he,?_⟩;have r3:∀X Y τ,(ρ++B::X::Y::τ)[σ.length]? = some (.box [AV.d (.bool true),.d (.int .i64 d.f),.d (.int .i64 d.cl),.box t 0,.box l 0,.d (.int .i64 d.time),.d (.slice (zbA (zmX d))),.map (σ.length+1),.d (.int .i64 d.ticks),.d (.slice (zlb d)),.d (.int .i64 d.many)]):=fun X Y τ=>by
    rw[← hB,← hR,← hρl,zB];rfl
   have r4:∀X Y τ,(ρ++B::X::Y::τ)[σ.length+1]? = some X:=fun X Y τ=>by rw[← hρl,zA];rfl
   have r5:∀X Y Z τ,(ρ++B::X::Y::τ).set (σ.length+1) Z=ρ++B::Z::Y::τ:=fun X Y Z τ=>by rw[← hρl,zX];rfl
   refine gq26 (zd r3 (zd r4 (zd r5 (zd hmf @zzS)))) ?_;exact zaF.next hlt ⟨seen++[b1],ys++[(key,x1,x2)],_,rfl,by simp,hS2,hsn2,rfl⟩
end
section
variable {σ:List AObj} {K:KT} {q u g N:Nat} {d:zhU} {sy:AV}
theorem c_xSend (h:σ[q]? = some (.box (zlW d u g sy)))(hK:K (.d (.slice [outD [d.s]])) σ):zP zez [.box q 0] σ K:=by
 refine zey zpZ fun hl=>?_;simp only[zjB,iN,bT,bF,eN,zl1,zl3,zl5];refine zm h ?_;refine zu hl ?_;exact hK
theorem c_xVotesS {a b:Int}(hs:sy=.d (.slice (zhq d.says))∨∃t,sy=.own t (zhq d.says))(h:σ[q]? = some (.box (zlW d u g sy)))(hb:d.says.length<=1000000)(hK:K (.d (.int .i64 (voteN d a b))) σ) :
  zP zfH [.box q 0,.agg [.d (.int .i64 a),.d (.int .i64 b)]] σ K:=by
 rcases hs with rfl|⟨t,rfl⟩;all_goals
  refine zen zoK fun hl=>?_
  have h':∀τ,(σ++τ)[q]? = _:=fun τ=>zi h
  have hlen:(zhq d.says).length=d.says.length:=List.length_map ..
  have fin:∀z:Int,voteN d a b=z->K (.d (.int .i64 z)) σ:=fun z h=>h▸hK
  clear hK
  simp only[zjb,iN,bT,bF,eN]
  refine zG ?_
  cases hw:d.waits with
  | false=>
   have h2:∀τ,(σ++τ)[q]? = _:=h'
   simp only[zlW,hw]at h2
   refine zn 0 (fun k vs S=>vs=[.d (.int .i64 0),.d (.int .i64 0)]/\S=σ++[.box [.d (.int .i64 a),.d (.int .i64 b)]]) ⟨rfl,rfl⟩ ?_
   rintro k vs S hk ⟨rfl,rfl⟩
   cases hd:decide ((0:Int)<(d.says.length:Int))
   ·refine zm (zd h2 (zd hlen hd)) ?_
    refine zu hl ?_
    exact fin 0 (by rw[voteN,if_neg (by rw[hw];simp)])
   ·refine zm (zd h2 (zd hlen hd)) ?_
    refine zu hl ?_
    exact fin 0 (by rw[voteN,if_neg (by rw[hw];simp)])
  | true=>
   have h2:∀τ,(σ++τ)[q]? = _:=h'
   simp only[zlW,hw]at h2
   refine zn d.says.length (fun k vs S=>vs=[.d (.int .i64 (zpW (d.says.take k) a b:Nat)),.d (.int .i64 k)]/\S=σ++[.box [.d (.int .i64 a),.d (.int .i64 b)]]) ⟨by simp[zpW],rfl⟩ ?_
   rintro k vs S hk ⟨rfl,rfl⟩
   by_cases hlt:k<d.says.length
   ·have hd:decide ((k:Int)<(d.says.length:Int))=true:=by simp;omega
    have hx:d.says[k]? = some d.says[k]:=by simp[hlt]
    have hgx:=zQ (f:=fun e:Int × Int × Int=>[D.int .i64 e.1,D.int .i64 e.2.1,D.int .i64 e.2.2]) hx
    obtain⟨e,he⟩:∃e,d.says[k]=e:=⟨_,rfl⟩
    rw[he]at hx hgx
    obtain⟨e1,e2,e3⟩:=e
    have hst:zpW (d.says.take (k+1)) a b=zpW (d.says.take k) a b+if ((a==e2)&&(b==e3))=true then 1 else 0:=by
     rw[List.take_add_one,hx];simp only[zpW,Option.toList_some,List.countP_append,List.countP_singleton]
    have hcn:zpW (d.says.take k) a b<=k:=Nat.le_trans List.countP_le_length (by simp;omega)
    have hxy:zce [AV.d (.int .i64 e2),AV.d (.int .i64 e3)] [AV.d (.int .i64 a),AV.d (.int .i64 b)]=some ((a==e2)&&(b==e3)):=by
     simp only[zce];rw[show(e2==a)=(a==e2)from Bool.beq_comm,show(e3==b)=(b==e3)from Bool.beq_comm];simp
    cases hq2:((a==e2)&&(b==e3))
    ·rw[hq2]at hst hxy
     refine zm (zd h2 (zd hlen (zd hd (zd hgx (zd hxy (wkc k (by omega))))))) ?_
     exact zaF.next hlt ⟨by rw[hst];simp,rfl⟩
    ·rw[hq2]at hst hxy
     refine zm (zd h2 (zd hlen (zd hd (zd hgx (zd hxy (zd (wkc k (by omega)) (wk1 (zpW (d.says.take k) a b) (by omega)))))))) ?_
     exact zaF.next hlt ⟨by rw[hst];simp,rfl⟩
   ·have hd:decide ((k:Int)<(d.says.length:Int))=false:=by simp;omega
    rw[List.take_of_length_le (by omega)]
    refine zm (zd h2 (zd hlen hd)) ?_
    refine zu hl ?_
    exact fin _ (by rw[voteN,if_pos hw])
end
variable {σ:List AObj}
theorem c_rSmall {f:Int}{K:KT}(hK:K (.d (.int .i64 (zfD 1 f))) σ):zP zqX [.d (.int .i64 f)] σ K:=by
 refine zey e_r12_Small fun hl=>?_;simp only[zxk,iN,bT,bF,eN];(refine gq9 ?_;try with_reducible exact True.intro);refine zsy ?_;by_cases h:f<1∨f>4
 ·rw[zfD,if_pos h]at hK;rw[zhh,if_pos h];(refine gq10 (show((120:Int) != 0)=true from rfl) ?_;try with_reducible exact True.intro);refine zu hl ?_;exact hK
 ·rw[zfD,if_neg h,Int.one_mul]at hK;rw[zhh,if_neg h];have w2:IntKind.i64.wrap (f+1)=f+1:=zaT (by omega) (by omega);(refine gq10 (zjV (show((0:Int) != 0)=false from rfl) w2) ?_;try with_reducible exact True.intro);refine zu hl ?_;exact hK
variable {σ:List AObj}
theorem zrg {j k:Nat}{x y:AObj}(h:σ[j]? = some y)(hk:j≠k):(σ.set k x)[j]? = some y:=by rw[List.getElem?_set_ne (Ne.symm hk)];exact h
def zyy (l:List (Int × Int × Int)) (k:Int):List (Int × Int × Int):=l.filter fun e=>decide (e.1≠k)
section
variable {σ:List AObj} {K:KT} {q u g N:Nat} {d:zhU} {sy:AV}
theorem c_xTick (h:σ[q]? = some (.box (zlW d u g sy)))(hI:PubI N d)(hN:N<=900000)(hsy:∀k,zhm k σ->Low k sy)(hK:K (.d (.slice (zok d))) (σ.set q (.box (zlW (zfX d) u g sy)))):zP zgr [.box q 0] σ K:=by
 refine zey zqa fun hl=>?_;have hq:=zZ h;have ht:=hI.ticks;have hw:IntKind.i64.wrap (d.ticks+1)=d.ticks+1:=zaT (by omega) (by omega);have z0:∀Y,(σ.set q Y)[q]? = some Y:=fun Y=>List.getElem?_set_self hq;have hlw:ztV σ.length (.box (zlW (zfX d) u g sy)):=by
  intro c hc;have hb:=hl q _ h c;simp only[zlW,List.mem_cons,List.not_mem_nil,or_false]at hc;rcases hc with rfl|rfl|rfl|rfl|rfl|rfl|rfl|rfl|rfl|rfl|rfl|rfl|rfl|rfl|rfl|rfl|rfl|rfl|rfl|rfl|rfl|rfl|rfl|rfl|rfl|rfl|rfl;all_goals first
   | exact .d _
   | exact hb (by simp)
 have done:∀l,l=zok d->AW.Ends σ.length K (some [.d (.slice l)]) (σ.set q (.box (zlW (zfX d) u g sy))):=by
  rintro l rfl;exact zeW (by simp[zgQ,dmT,dm,dm1,zck]) hl hlw hK
 simp only[zjC,iN,bT,bF,eN];cases hwt:d.waits with
 | false=>
  simp only[zlW,hwt]at h
  have:=done [] (by rw[zok,if_neg (by rw[hwt];simp)])
  simp only[zlW,zfX,hwt]at this
  refine zm (zd h (zd hw z0)) ?_
  exact this
 | true=>
  have h1:=h
  simp only[zlW,hwt]at h
  cases hr:((d.ticks+1).tmod 4==0)
  ·have:=done [] (by rw[zok,if_neg (fun hc=>by simp at hr;exact hr hc.2)])
   simp only[zlW,zfX,hwt]at this
   refine zm (zd h (zd hw (zd z0 hr))) ?_
   exact this
  ·have:=done [outD [d.s]] (by rw[zok,if_pos ⟨hwt,by simpa using hr⟩])
   have z1:(σ.set q (.box (zlW (zfX d) u g sy)))[q]? = some (.box (zlW (zfX d) u g sy)):=z0 _
   simp only[zlW,zfX,hwt]at this z1
   refine zm (zd h (zd hw (zd z0 hr))) ?_
   refine c_xSend (d:=zfX d) (u:=u) (g:=g) (sy:=sy) (by simp only[zlW,zfX,hwt];exact z1) ?_
   refine zG ?_
   exact this
end
variable {σ:List AObj} {L:List (List UInt8)} {G:List zK}
section
variable {σ:List AObj} {K:KT} {q u g N:Nat} {d:zhU} {sy:AV}
theorem c_xAskG {o:TOp}(hT:σ[u]? = some (rtO L))(hG:σ[g]? = some (rlO G))(hug:u≠g)(hqu:q≠u)(hqg:q≠g)(hL:zmI L)(hg:G.length<=1073741824)(h:σ[q]? = some (.box (zlW d u g (.d (.slice (zhq d.says))))))
  (hos:zmW o<=20971520) (ho:okO o) (hI:PubI N d) (hN:N<=900000)
  (hK:∀S:List AObj,S[u]? = some (rtO (zxH L d o))->S[g]? = some (rlO (zxI L G d o))->S[q]? = some (.box (zlW (zqj L d o) u g (.d (.slice (zhq (zqj L d o).says))))) →
   (∀(j:Nat) (y:AObj),j≠q->j≠u->j≠g→σ[j]? = some y->S[j]? = some y)->K (.tup [.d (.slice (zzn L d o)),.d (.int .i64 (zxJ L d o))]) S) :
  zP zgX [.box q 0,opA o] σ K:=by
 refine ACall.weaken ?_;refine zeN zkE.is rfl fun hl _=>zkE.goes ?_;simp only[zkL,iN,bT,bF,eN,zl1,zl4,opA];have hq':∀τ,(σ++τ)[q]? = _:=fun τ=>zi h;have ht:=hI.time;have hw1:IntKind.i64.wrap (d.time+1)=d.time+1:=zaT (by omega) (by omega);cases hw:d.waits with
 | true=>
  have e0:zxJ L d o=240:=by rw[zxJ,if_pos hw]
  have e1:zxH L d o=L:=by rw[zxH,if_pos hw]
  have e2:zxI L G d o=G:=by rw[zxI,if_pos hw]
  have e3:zqj L d o=d:=by rw[zqj,e0,if_pos (by decide)]
  have e4:zzn L d o=[]:=by rw[zzn,e0,if_pos (by decide)]
  rw[e0,e1,e2,e3,e4]at hK
  have h2:=hq'
  simp only[zlW,hw]at h2
  refine zm h2 ?_
  exact zlc ⟨_,_,.refl _ _,hK _ (zi hT) (zi hG) (zi h) fun _ _ _ _ _ h=>zi h⟩
 | false=>
  have h2:=hq'
  simp only[zlW,hw]at h2
  refine zm h2 ?_
  refine zAH (o:=o) ho.1 ho.2.1 ho.2.2.1 ?_
  by_cases hc:zaM zdY o=0
  rotate_left
  ·have e0:zxJ L d o=zaM zdY o:=by rw[zxJ,if_neg (by rw[hw];simp),if_pos hc]
   have e1:zxH L d o=L:=by rw[zxH,if_neg (by rw[hw];simp),if_pos hc]
   have e2:zxI L G d o=G:=by rw[zxI,if_neg (by rw[hw];simp),if_pos hc]
   have e3:zqj L d o=d:=by rw[zqj,e0,if_pos hc]
   have e4:zzn L d o=[]:=by rw[zzn,e0,if_pos hc]
   rw[e0,e1,e2,e3,e4]at hK
   refine zm (show(zaM zdY o != 0)=true by simpa using hc) ?_
   exact zlc ⟨_,_,.refl _ _,hK _ (zi hT) (zi hG) (zi h) fun _ _ _ _ _ h=>zi h⟩
  have e0:zxJ L d o=zjN L (zyh d o):=by rw[zxJ,if_neg (by rw[hw];simp),if_neg (by simpa using hc)]
  have e1:zxH L d o=zna L (zyh d o):=by rw[zxH,if_neg (by rw[hw];simp),if_neg (by simpa using hc)]
  have e2:zxI L G d o=znZ L G (zyh d o):=by rw[zxI,if_neg (by rw[hw];simp),if_neg (by simpa using hc)]
  obtain⟨x,hxe⟩:∃x:zr,zyh d o=x:=⟨_,rfl⟩
  have hxo:x.op=o:=by rw[← hxe];rfl
  have hsz:zmW x.op<=20971520:=by rw[hxo];exact hos
  have hreq:reqA x=.agg [.d (.int .i64 d.cl),.d (.int .i64 (d.time+1)),.d (.int .i64 o.kind),.d (.str o.topic),.d (.str o.group),.d (.int .i64 o.offset),.d (.slice (zdv o.recs))]:=by rw[← hxe];rfl
  rw[hxe]at e0 e1 e2
  have e3:zqj L d o=if zjN L x≠0 then d else{ d with time:=d.time+1,waits:=true,s:=zfc L x,says:=[],ticks:=0 }:=by rw[zqj,e0,hxe]
  have e4:zzn L d o=if zjN L x≠0 then []else [outD [zfc L x]]:=by rw[zzn,e0,hxe]
  rw[e0,e1,e2,e3,e4]at hK
  obtain⟨sg,hsg⟩:∃s,zfc L x=s:=⟨_,rfl⟩
  obtain⟨L',hL'⟩:∃s,zna L x=s:=⟨_,rfl⟩
  obtain⟨G',hG'⟩:∃s,znZ L G x=s:=⟨_,rfl⟩
  obtain⟨e,he⟩:∃e,zjN L x=e:=⟨_,rfl⟩
  rw[hsg,hL',hG',he]at hK
  obtain⟨P,hP⟩:∃P,(σ.set u (rtO L')).set g (rlO G')=P:=⟨_,rfl⟩
  have hul:=zZ hT
  have hgl:=zZ hG
  have hql:=zZ h
  have hPs:σ.length=P.length:=by rw[← hP];simp
  have hput:∀τ,((σ++τ).set u (rtO L')).set g (rlO G')=P++τ:=fun τ=>by rw[List.set_append_left _ _ hul,List.set_append_left _ _ (by simpa using hgl),hP]
  have pu:P[u]? = some (rtO L'):=by rw[← hP,List.getElem?_set_ne (Ne.symm hug)];exact List.getElem?_set_self hul
  have pg:P[g]? = some (rlO G'):=by rw[← hP];exact List.getElem?_set_self (by simpa using hgl)
  have pq:P[q]? = some (.box (zlW d u g (.d (.slice (zhq d.says))))):=by rw[← hP,List.getElem?_set_ne (Ne.symm hqg),List.getElem?_set_ne (Ne.symm hqu)];exact h
  have pk:∀(j:Nat) (y:AObj),j≠q->j≠u->j≠g→σ[j]? = some y->P[j]? = some y:=fun j y h1 h2 h3 hy=>by rw[← hP,List.getElem?_set_ne (Ne.symm h3),List.getElem?_set_ne (Ne.symm h2)];exact hy
  have pq2:∀τ,(P++τ)[q]? = _:=fun τ=>zi pq
  simp only[zlW,hw]at pq2
  have sq:∀τ Z,(P++τ).set q Z=P.set q Z++τ:=fun τ Z=>List.set_append_left _ _ (by omega)
  have sq2:∀τ Y Z,(P.set q Y++τ).set q Z=P.set q Z++τ:=fun τ Y Z=>by rw[List.set_append_left _ _ (by rw[List.length_set];omega),List.set_set]
  have zq:∀Z τ,(P.set q Z++τ)[q]? = some Z:=fun Z τ=>zi (List.getElem?_set_self (by omega))
  have gq:∀Z k τ,(P.set q Z++τ)[P.length+k]? = τ[k]?:=fun Z k τ=>by
   have:=zA (P.set q Z) τ k;rwa [List.length_set]at this
  have gq0:∀Z τ,(P.set q Z++τ)[P.length]? = τ[0]?:=fun Z τ=>by
   have:=zB (P.set q Z) τ;rw[List.length_set]at this;exact this
  obtain⟨d',hd'⟩:∃d':zhU,{ d with time:=d.time+1,waits:=true,s:=sg,says:=[],ticks:=0 }=d':=⟨_,rfl⟩
  rw[hd']at hK
  have bad:e≠0->∀τ,zxE (fun r s=>∃r' s',zqk [r] s [r'] s'∧K r' s') (some [.d (.slice []),.d (.int .i64 e)]) (P++τ):=fun hz τ=>by
   rw[if_pos hz,if_pos hz]at hK;exact zlc ⟨_,_,.refl _ _,hK _ (zi pu) (zi pg) (zi pq) fun j y a1 a2 a3 hy=>zi (pk j y a1 a2 a3 hy)⟩
  have good:e=0->∀τ,zxE (fun r s=>∃r' s',zqk [r] s [r'] s'∧K r' s') (some [.d (.slice [outD [sg]]),.d (.int .i64 0)]) (P.set q (.box (zlW d' u g (.exact [])))++τ):=fun hz τ=>by
   have hK2:=hK;rw[if_neg (by simpa using hz),if_neg (by simpa using hz),hz]at hK2;refine zlc ⟨_,P.set q (.box (zlW d' u g (.d (.slice []))))++τ,?_,hK2 _ (zi (zrg pu (by omega))) (zi (zrg pg (by omega))) ?_ fun j y a1 a2 a3 hy=>zi (zrg (pk j y a1 a2 a3 hy) (by omega))⟩
   ·refine .dataB q 15 _ (.exact []) [] (zq _ _) rfl rfl ?_;rw[sq2];exact .refl _ _
   ·rw[zq,← hd'];rfl
  have sd:zlW d' u g (.exact [])=[.d (.int .i64 d.f),.d (.int .i64 d.cl),.box u 0,.box g 0,.d (.int .i64 (d.time+1)),.d (.bool true),.d (.int .i64 sg.client),.d (.int .i64 sg.time),.d (.int .i64 sg.op.kind),.d (.str sg.op.topic),.d (.str sg.op.group),.d (.int .i64 sg.op.offset),.d (.slice (zdv sg.op.recs)),.d (.int .i64 sg.key),.d (.int .i64 sg.dig),
    .exact [],.d (.int .i64 0),.d (.int .i64 d.ls.client),.d (.int .i64 d.ls.time),.d (.int .i64 d.ls.op.kind),.d (.str d.ls.op.topic),.d (.str d.ls.op.group),.d (.int .i64 d.ls.op.offset),.d (.slice (zdv d.ls.op.recs)),.d (.int .i64 d.la),.d (.int .i64 d.lo),.d (.int .i64 d.many)]:=by rw[← hd']
  have hds:d'.s=sg:=by rw[← hd']
  refine zm (zd (show(zaM zdY o != 0)=false by simpa using hc) (zd h2 hw1)) ?_
  refine⟨?_,?_⟩
  all_goals
   try refine zm (zd h2 hw1) ?_
   rw[← hreq]
   refine c_rqrSeal (x:=x) (zi hT) (zi hG) hug hL hg hsz ?_
   rw[hL',hG',hput,he,hsg]
   by_cases hz:e=0
   ·rw[hz]
    refine zdO (zd pq2 (zd sq (zd sq2 (zd zq (zd gq (zd gq0 (zd hw1 (zd @List.length_set.{0} (zd hPs (show((0:Int) != 0)=false from rfl)))))))))) ?_
    rw[← sd]
    refine c_xSend (d:=d') (zq _ _) ?_
    rw[hds]
    refine zG ?_
    exact good hz _
   ·refine zdO (zd (show(e != 0)=true by simpa using hz) hPs) ?_
    exact bad hz _
end
variable {σ:List AObj} {L:List (List UInt8)} {G:List zK}
theorem sayD_eq (l:List (Int × Int × Int))(k a b:Int):sayD l k a b=zyy l k++[(k,a,b)]:=rfl
theorem othD_len (l:List (Int × Int × Int))(k:Int):(zyy l k).length<=l.length:=List.length_filter_le _ _
section
variable {σ:List AObj} {K:KT} {q u g N:Nat} {d:zhU} {sy:AV}
theorem c_xTakeG {m:zbj}(hT:σ[u]? = some (rtO L))(hG:σ[g]? = some (rlO G))(hL:L.length<=1048576)(hg:G.length<=1073741824)(h:σ[q]? = some (.box (zlW d u g (.d (.slice (zhq d.says))))))
  (hm:zaK m) (hlen:d.says.length<=1000) (hI:PubI N d) (hN:N<=900000)
  (hK:∀S:List AObj,S[q]? = some (.box (zlW (takeP L G d m) u g (.d (.slice (zhq (takeP L G d m).says)))))->(∀(j:Nat) (y:AObj),j≠q→σ[j]? = some y->S[j]? = some y)->K (.d (.bool (zrN L G d m))) S) :
  zP zgs [.box q 0,zgd m] σ K:=by
 have h':∀τ,(σ++τ)[q]? = _:=fun τ=>zi h;have hf:=hI.f;have hmn:=hI.many;refine ACall.weaken ?_;refine zeN zjx.is rfl fun hl _=>zjx.goes ?_;have no:zhc L G d m=false->∀τ,zxE (fun r s=>∃r' s',zqk [r] s [r'] s'∧K r' s') (some [.d (.bool false)]) (σ++τ):=fun ho τ=>by
  have e1:takeP L G d m=d:=by rw[takeP,if_neg (by rw[ho];simp)]
  have e2:zrN L G d m=false:=by rw[zrN,ho];rfl
  rw[e1,e2]at hK;exact zlc ⟨_,_,.refl _ _,hK _ (zi h) fun _ _ _ h=>zi h⟩
 simp only[zjD,iN,bT,bF,eN,zl1];cases hw:d.waits with
 | false=>
  have h2:=h'
  simp only[zlW,hw]at h2
  refine zm (zd h2 (show(false==false)=true from rfl)) ?_
  exact no (by rw[zhc,hw];rfl) _
 | true=>
 have h2:=h';simp only[zlW,hw]at h2;by_cases e1:m.kind=5;rotate_left
 ·refine zm (zd h2 (zd (show(m.kind != 5)=true by simpa using e1) (show(false==false)=true from rfl))) ?_;exact no (by simp[zhc,e1]) _
 by_cases e2:m.client=d.cl;rotate_left
 ·refine zm (zd h2 (zd (show(m.kind != 5)=false by simpa using e1) (zd (show(m.client != d.cl)=true by simpa using e2) (show(false==false)=true from rfl)))) ?_;exact no (by simp[zhc,e2]) _
 by_cases e3:m.time=d.time;rotate_left
 ·refine zm (zd h2 (zd (show(m.kind != 5)=false by simpa using e1) (zd (show(m.client != d.cl)=false by simpa using e2) (zd (show(m.time != d.time)=true by simpa using e3) (show(false==false)=true from rfl))))) ?_;exact no (by simp[zhc,e3]) _
 refine zm (zd h2 (zd (show(m.kind != 5)=false by simpa using e1) (zd (show(m.client != d.cl)=false by simpa using e2) (zd (show(m.time != d.time)=false by simpa using e3) (show(false==false)=true from rfl))))) ?_;refine c_raValidG (zi hT) (zi hG) hL hg hm ?_;cases e4:zfa L G m
 ·refine zm (zd h2 (show(false==false)=true from rfl)) ?_;exact no (by simp[zhc,e4]) _
 refine zm (zd h2 (show(false==false)=true from rfl)) ?_;refine zze ?_;rw[show zfD 3 d.f=3*d.f+1 by rw[zfD,if_neg (by omega)]];by_cases e5:m.src<3*d.f+1;rotate_left
 ·refine zm (zd h2 (show decide (m.src≥3*d.f+1)=true by simp;omega)) ?_;exact no (by simp[zhc];intros;omega) _
 have ho:zhc L G d m=true:=by simp[zhc,hw,e1,e2,e3,e4,e5]
 refine zm (zd h2 (show decide (m.src≥3*d.f+1)=false by simp;omega)) ?_;have hll:(zhq d.says).length=d.says.length:=List.length_map ..;refine zlo d.says.length (fun k vs S=>vs=[.own (σ.length+1) (zhq (zyy (d.says.take k) m.src)),.d (.int .i64 k)]/\S=σ++[zla m,.tok 3 (zyy (d.says.take k) m.src).length]) (.tok 0 [] 3 rfl (by simp) (.refl _ _)) ⟨by simp[zyy],by simp[zyy]⟩ ?_;rintro k vs S hk ⟨rfl,rfl⟩;have hpl:(zhq (zyy (d.says.take k) m.src)).length=(zyy (d.says.take k) m.src).length:=List.length_map ..;have hfl:(zyy (d.says.take k) m.src).length<=k:=Nat.le_trans (othD_len _ _) (by simp;omega);by_cases hlt:k<d.says.length
 ·have hd:decide ((k:Int)<(d.says.length:Int))=true:=by simp;omega
  have hx:d.says[k]? = some d.says[k]:=by simp[hlt]
  have hgx:=zQ (f:=fun e:Int × Int × Int=>[D.int .i64 e.1,D.int .i64 e.2.1,D.int .i64 e.2.2]) hx;obtain⟨e,he⟩:∃e,d.says[k]=e:=⟨_,rfl⟩;rw[he]at hx hgx;obtain⟨y1,y2,y3⟩:=e;have htk:zyy (d.says.take (k+1)) m.src=zyy (d.says.take k) m.src++zyy [(y1,y2,y3)] m.src:=by
   rw[List.take_add_one,hx];simp only[zyy,Option.toList_some,List.filter_append]
  by_cases h1:y1=m.src
  ·have e1:zyy [(y1,y2,y3)] m.src=[]:=by simp[zyy,h1]
   rw[e1,List.append_nil]at htk;refine zm (zd h2 (zd hd (zd hll (zd hgx (zd (show(y1 != m.src)=false by simpa using h1) (wkc k (by omega))))))) ?_;exact zaF.next hlt ⟨by rw[htk],by rw[htk]⟩
  ·have e1:zyy [(y1,y2,y3)] m.src=[(y1,y2,y3)]:=by simp[zyy,h1]
   rw[e1]at htk;refine zm (zd h2 (zd hd (zd hll (zd hgx (zd hpl (zd (show(y1 != m.src)=true by simpa using h1) (wkc k (by omega)))))))) ?_;exact zaF.next hlt ⟨by rw[htk];simp,by rw[htk];simp⟩
 have hd:decide ((k:Int)<(d.says.length:Int))=false:=by simp;omega
 rw[List.take_of_length_le (by omega)]at hpl hfl ⊢;obtain⟨y,hy⟩:∃y,sayD d.says m.src m.rerr m.roff=y:=⟨_,rfl⟩;have hX:zhq (zyy d.says m.src)++[[D.int .i64 m.src,.int .i64 m.rerr,.int .i64 m.roff]]=zhq y:=by rw[← hy,sayD_eq];simp
 have hyl:y.length<=1001:=by rw[← hy,sayD_eq];simp;omega
 have hql:=zZ h;have sq:∀τ Z,(σ++τ).set q Z=σ.set q Z++τ:=fun τ Z=>List.set_append_left _ _ (by omega);have sq2:∀τ Y Z,(σ.set q Y++τ).set q Z=σ.set q Z++τ:=fun τ Y Z=>by rw[List.set_append_left _ _ (by rw[List.length_set];omega),List.set_set]
 have zq:∀Z τ,(σ.set q Z++τ)[q]? = some Z:=fun Z τ=>zi (List.getElem?_set_self (by omega));have gq0:∀Z τ,(σ.set q Z++τ)[σ.length]? = τ[0]?:=fun Z τ=>by
  have:=zB (σ.set q Z) τ;rw[List.length_set]at this;exact this
 obtain⟨d1,hd1⟩:∃d1:zhU,{ d with says:=y }=d1:=⟨_,rfl⟩;have w1:d1.waits=true:=by rw[← hd1];exact hw
 have y1:d1.says=y:=by rw[← hd1]
 have f1:d1.f=d.f:=by rw[← hd1]
 have hmw:IntKind.i64.wrap (d.many+1)=d.many+1:=zaT (by omega) (by omega);have sd:zlW d1 u g (.d (.slice (zhq y)))=[.d (.int .i64 d.f),.d (.int .i64 d.cl),.box u 0,.box g 0,.d (.int .i64 d.time),.d (.bool true),.d (.int .i64 d.s.client),.d (.int .i64 d.s.time),.d (.int .i64 d.s.op.kind),.d (.str d.s.op.topic),.d (.str d.s.op.group),.d (.int .i64 d.s.op.offset),.d (.slice (zdv d.s.op.recs)),.d (.int .i64 d.s.key),.d (.int .i64 d.s.dig),
    .d (.slice (zhq y)),.d (.int .i64 d.ticks),.d (.int .i64 d.ls.client),.d (.int .i64 d.ls.time),.d (.int .i64 d.ls.op.kind),.d (.str d.ls.op.topic),.d (.str d.ls.op.group),.d (.int .i64 d.ls.op.offset),.d (.slice (zdv d.ls.op.recs)),.d (.int .i64 d.la),.d (.int .i64 d.lo),.d (.int .i64 d.many)]:=by rw[← hd1,zlW,hw]
 refine zm (zd h2 (zd hd (zd hll (zd hpl (zd hX (zd sq (zd sq2 (zd zq gq0)))))))) ?_;have sd2:zlW d1 u g (.own (σ.length+1) (zhq y))=(zlW d1 u g (.d (.slice (zhq y)))).set 15 (.own (σ.length+1) (zhq y)):=rfl;refine c_xVotesS (d:=d1) (u:=u) (g:=g) (sy:=.own (σ.length+1) (zhq y)) (.inr ⟨_,by rw[y1]⟩) (by rw[sd2,sd];exact zq _ _) (by rw[y1];omega) ?_;have hv:voteN d1 m.rerr m.roff=(zpW y m.rerr m.roff:Int):=by rw[voteN,if_pos w1,y1]
 rw[hv];refine zm (zd hpl (zd hX (zd sq (zd sq2 (zd zq gq0))))) ?_;refine c_rSmall ?_;rw[show zfD 1 d.f=d.f+1 by rw[zfD,if_neg (by omega),Int.one_mul]];cases hlt:decide ((zpW y m.rerr m.roff:Int)<d.f+1)
 ·have hB:zsZ d m=true:=by rw[zsZ,hy];simpa using hlt
  obtain⟨d2,hd2⟩:∃d2:zhU,{ d with says:=y,waits:=false,ls:=d.s,la:=m.rerr,lo:=m.roff,many:=d.many+1 }=d2:=⟨_,rfl⟩;have e1:takeP L G d m=d2:=by rw[takeP,if_pos ho,if_pos hB,hy,hd2]
  have e2:zrN L G d m=true:=by rw[zrN,hB,ho];rfl
  rw[e1,e2]at hK;refine zm (zd hlt (zd sq2 (zd zq (zd gq0 hmw)))) ?_;refine zlc ⟨_,σ.set q (.box (zlW d2 u g (.d (.slice (zhq y)))))++[zla m,.tok 3 ((zyy d.says m.src).length+1)],?_,hK _ ?_ fun j y hj hy=>zi (zrg hy hj)⟩
  ·refine .dataB q 15 _ (.own (σ.length+1) (zhq y)) (zhq y) (zq _ _) rfl rfl ?_;rw[sq2,← hd2];exact .refl _ _
  ·rw[zq,← hd2]
 ·have hB:zsZ d m=false:=by rw[zsZ,hy];simpa using hlt
  have e1:takeP L G d m=d1:=by rw[takeP,if_pos ho,if_neg (by rw[hB];simp),hy,hd1]
  have e2:zrN L G d m=false:=by rw[zrN,hB,ho];rfl
  rw[e1,e2]at hK;refine zm hlt ?_;refine zlc ⟨_,σ.set q (.box (zlW d1 u g (.d (.slice (zhq y)))))++[zla m,.tok 3 ((zyy d.says m.src).length+1)],?_,hK _ ?_ fun j y hj hy=>zi (zrg hy hj)⟩
  ·refine .dataB q 15 _ (.own (σ.length+1) (zhq y)) (zhq y) (zq _ _) rfl rfl ?_;rw[sq2,sd];exact .refl _ _
  ·rw[zq,y1]
end
variable {σ:List AObj} {L:List (List UInt8)} {G:List zK}
abbrev repM (a n:Int):zbj:={ zeq with kind:=5,src:=a,client:=2,time:=1,roff:=n }
theorem zta (a n:Int):zaK (repM a n):=by
 obtain⟨n1,n2,n3,n4,n5,n6,n7,n8,n9,n10⟩:=zvM;constructor<;>assumption
theorem zvD {m:zbj}{s:zK}(h:zaK m):zaK (withS m s):=by
 obtain⟨h1,h2,h3,h4,h5,h6,h7,h8,h9,h10⟩:=h;exact⟨h1,h2,h3,h4,h5,h6,h7,h8,h9,h10⟩
theorem sealX_ok {m:zbj}(hk:m.kind=5)(h:(zdu L G m).e=0):(zdu L G m).m=withS m (sgnS L m.src (zcF m)):=by
 have hn:nilK m.kind=false:=by rw[hk];rfl
 have hw:∀s,ziK m s=withS m s:=fun s=>by rw[ziK,if_neg (by omega)]
 unfold zdu at h ⊢;split
 ·rename_i h1;rw[if_pos h1]at h;exact absurd h h1
 ·rename_i h1;rw[if_neg h1,if_neg (by rw[hn];simp)]at h;rw[if_neg (by rw[hn];simp)];split
  ·rename_i h2;rw[if_pos h2]at h;exact absurd h h2
  ·exact hw _
section
variable {σ:List AObj} {K:KT}
theorem c_b1 {i:TGi}{a n:Int}{c d m q sn:Nat}{s:zr}{ticks:Int}{la:List (List D)}{many:Int}{sy:List (Int × Int × Int)}
  (h:TG i σ L G) (hL:zmI L) (hg:G.length<=1000000) (hc:σ[c]? = some (.box [.box i.id 0])) (hd:σ[d]? = some (.box [.box i.id2 0])) (hm:σ[m]? = some (.box [.box q 0]))
  (hq:σ[q]? = some (.box (znc 1 2 i.id i.id2 1 [s] (.map sn) ticks la many))) (hs:σ[sn]? = some (.map (zda sy))) (hb:sy.length<=900000) (hmn:0<=many/\many<=1000000) (ha:a<4)
  (hk1:c≠i.id/\c≠i.m/\c≠i.t/\c≠i.id2/\c≠i.m2/\c≠i.t2) (hk2:d≠i.id/\d≠i.m/\d≠i.t/\d≠i.id2/\d≠i.m2/\d≠i.t2) (hk3:m≠i.id/\m≠i.m/\m≠i.t/\m≠i.id2/\m≠i.m2/\m≠i.t2)
  (hk4:q≠i.id/\q≠i.m/\q≠i.t/\q≠i.id2/\q≠i.m2/\q≠i.t2) (hk5:sn≠i.id/\sn≠i.m/\sn≠i.t/\sn≠i.id2/\sn≠i.m2/\sn≠i.t2)
  (he:(zdu L G (repM a n)).e=0) (hL2:zmI (zdu L G (repM a n)).L) (hg2:(zdu L G (repM a n)).G.length<=1000000) (hv:zfa (zdu L G (repM a n)).L (zdu L G (repM a n)).G (zdu L G (repM a n)).m=true)
  (hK0:(zpW (zhr sy a 0 n) 0 n:Int)<2->∀S,TG i S (zdu L G (repM a n)).L (zdu L G (repM a n)).G->S[q]? = some (.box (znc 1 2 i.id i.id2 1 [s] (.map sn) ticks la many))->S[sn]? = some (.map (zda (zhr sy a 0 n)))->(∀(j:Nat) (y:AObj),j≠q->j≠sn->(j≠i.id/\j≠i.m/\j≠i.t/\j≠i.id2/\j≠i.m2/\j≠i.t2)→σ[j]? = some y->S[j]? = some y)->K (.d (.bool false)) S)
  (hK1:¬(zpW (zhr sy a 0 n) 0 n:Int)<2->∀S,S[q]? = some (.box (znc 1 2 i.id i.id2 1 [] (.d .nilmap) ticks [ansD s 0 n] (many+1)))->(∀(j:Nat) (y:AObj),j≠q->j≠sn->(j≠i.id/\j≠i.m/\j≠i.t/\j≠i.id2/\j≠i.m2/\j≠i.t2)→σ[j]? = some y->S[j]? = some y)->K (.d (.bool true)) S) :
  zP zgc [.d (.int .i64 a),.d (.int .i64 n),.box c 0,.box d 0,.box m 0] σ K:=by
 refine zeN zsu.is rfl fun hl _=>zsu.goes ?_;simp only[zsN,iN,bT,bF,eN,zl3];have hM:=sealX_ok (m:=repM a n) rfl he;obtain⟨R,hR⟩:∃R,zdu L G (repM a n)=R:=⟨_,rfl⟩;have hms:zaK R.m:=by rw[← hR,hM];exact zvD (zta a n)
 have k1:R.m.kind=5:=by rw[← hR,hM]
 have k2:R.m.client=2:=by rw[← hR,hM]
 have k3:R.m.time=1:=by rw[← hR,hM]
 have k4:R.m.src=a:=by rw[← hR,hM]
 have k5:R.m.rerr=0:=by rw[← hR,hM];rfl
 have k6:R.m.roff=n:=by rw[← hR,hM]
 refine zm (zd hc hd) ?_;refine c_auSealG (m:=repM a n) h hL (by omega) (zta a n) ?_;rw[hR]at he hL2 hg2 hv hK0 ⊢;rw[he];obtain⟨S,hS⟩:∃S,zhl i σ R.L R.G=S:=⟨_,rfl⟩;have hT:TG i S R.L R.G:=by rw[← hS];exact h.put _ _
 have c':∀τ,(S++τ)[c]? = some (.box [.box i.id 0]):=fun τ=>zi (by rw[← hS,TG.other hk1];exact hc);have d':∀τ,(S++τ)[d]? = some (.box [.box i.id2 0]):=fun τ=>zi (by rw[← hS,TG.other hk2];exact hd);have m':∀τ,(S++τ)[m]? = some (.box [.box q 0]):=fun τ=>zi (by rw[← hS,TG.other hk3];exact hm);have q':∀τ,(S++τ)[q]? = some (.box (znc 1 2 i.id i.id2 1 [s] (.map sn) ticks la many)):=fun τ=>zi (by rw[← hS,TG.other hk4];exact hq);have s':∀τ,(S++τ)[sn]? = some (.map (zda sy)):=fun τ=>zi (by rw[← hS,TG.other hk5];exact hs);rw[hS];refine zm (zd m' (show((0:Int)==0)=true from rfl)) ?_;obtain⟨X,hX⟩:∃X,AObj.box (msgL R.m)=X:=⟨_,rfl⟩;rw[hX];have nes:=hT.ne;have qs:q≠sn:=fun e=>by rw[e,hs]at hq;cases hq
 have hsl:=zZ (s' [X]);have hql:=zZ (q' [X]);have kp:∀(j:Nat) (y:AObj),(j≠i.id/\j≠i.m/\j≠i.t/\j≠i.id2/\j≠i.m2/\j≠i.t2)→σ[j]? = some y->(S++[X])[j]? = some y:=fun j y hj hy=>zi (by rw[← hS,TG.other hj];exact hy);refine c_pTake (m:=R.m) (q' _) (s' _) hb (fun τ K hk=>?_) k1 k2 k3 (by omega) (by rw[k4];omega) hmn (fun hlt=>?_) fun hlt=>?_
 ·refine zzg (M:=R.m) ((hT.app _).app _).tab ((hT.app _).app _).led hL2 (by omega) hms ?_;rw[hv];exact hk
 ·rw[k4,k5,k6]at hlt ⊢;refine zG ?_;refine zlc (hK0 hlt _ ?_ ?_ ?_ fun j y b1 b2 b3 hy=>?_)
  ·have h2:=hT.app [X];refine⟨⟨?_,?_,?_⟩,⟨?_,?_,?_⟩,h2.n1,h2.n2⟩
   ·rw[List.getElem?_set_ne hk5.1];exact h2.tab.box
   ·rw[List.getElem?_set_ne hk5.2.1];exact h2.tab.map
   ·rw[List.getElem?_set_ne hk5.2.2.1];exact h2.tab.tok
   ·rw[List.getElem?_set_ne hk5.2.2.2.1];exact h2.led.box
   ·rw[List.getElem?_set_ne hk5.2.2.2.2.1];exact h2.led.map
   ·rw[List.getElem?_set_ne hk5.2.2.2.2.2];exact h2.led.tok
  ·rw[List.getElem?_set_ne (Ne.symm qs)];exact q' _
  ·exact List.getElem?_set_self hsl
  ·rw[List.getElem?_set_ne (Ne.symm b2)];exact kp j y b3 hy
 ·rw[k4,k5,k6]at hlt ⊢;refine zG ?_;refine zlc (hK1 hlt _ (List.getElem?_set_self (by simpa using hql)) fun j y b1 b2 b3 hy=>?_);rw[List.getElem?_set_ne (Ne.symm b1),List.getElem?_set_ne (Ne.symm b2)];exact kp j y b3 hy
end
end Go.Proofs.YtdgcepphjnoalaaGreat
