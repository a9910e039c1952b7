/- Contracts: what a publisher tells; the program's. -/
import Derived.Test.YtdgcepphjnoalaaGreatHi1
import Derived.Test.YtdgcepphjnoalaaGreatPp1
import Derived.Test.YtdgcepphjnoalaaGreatId3
set_option linter.all false
set_option maxRecDepth 100000
namespace Go.Proofs.YtdgcepphjnoalaaGreat
open Go.AW
variable {σ:List AObj}
section
variable {σ:List AObj} {K:KT} {p t l n N:Nat} {d:zjf} {x:AV}
theorem c_pClient (h:σ[p]? = some (.box (zma d t l x)))(hK:K (.d (.int .i64 d.cl)) σ):zP zdo [.box p 0] σ K:=by
 refine zeA zka fun hl=>?_;simp only[zfz,iN,bT,bF,eN];refine zG ?_;refine zff h ?_;refine zm h ?_;refine zu hl ?_;exact hK
theorem c_pLastG (h:σ[p]? = some (.box (zma d t l x)))(hI:PubI N d)(hK:K (.tup [ansA d.ls d.la d.lo,.d (.bool (decide (d.many>0)))]) σ):zP zbO [.box p 0] σ K:=by
 by_cases hm:d.many=0;rotate_left
 ·have hl:zli d=[ansD d.ls d.la d.lo]:=by rw[zli,if_neg hm]
  have:=hI.many;rw[show decide (d.many>0)=true by simp;omega]at hK;rw[zma,hl]at h;exact c_pLast h hI.lo.1 hI.lo.2 hK
 have hl:zli d=[]:=by rw[zli,if_pos hm]
 obtain⟨z1,z2,z3⟩:=hI.z hm;rw[show decide (d.many>0)=false by simp;omega,z1,z2,z3]at hK;rw[zma,hl]at h;have h':∀τ,(σ++τ)[p]? = _:=fun τ=>zi h;refine zeA zgo fun hl=>?_;simp only[zdY,iN,bT,bF,eN,zl1];refine zG ?_;refine zff (h' _) ?_;refine zjC (zd h' (show((0:Int)==0)=true from rfl)) ?_;refine zu hl ?_;exact hK
theorem c_pWaitsG (h:σ[p]? = some (.box (zma d t l x)))(hI:PubI N d)(hK:K (.tup [zis (if d.waits=true then d.s else zvx),.d (.bool d.waits)]) σ):zP zdE [.box p 0] σ K:=by
 cases hw:d.waits with
 | true=>
  rw[hw,if_pos rfl]at hK
  rw[zma,zlX,hw,if_pos rfl]at h
  have h':∀τ,(σ++τ)[p]? = _:=fun τ=>zi h
  refine zeA zfR fun hl=>?_
  simp only[zdP,iN,bT,bF,eN,zl1]
  refine zG ?_
  refine zff (h' _) ?_
  refine zjC (zd h' (zd (show((1:Int)==0)=false from rfl) @List.length_cons.{0})) ?_
  refine zkN (b:=[d.s]) ⟨by simp,fun s hs=>by simp only[List.mem_singleton]at hs;subst hs;exact hI.so⟩ ?_
  refine gq31 ?_
  refine zu hl ?_
  exact hK
 | false=>
  rw[hw,if_neg (by simp)]at hK
  rw[zma,zlX,hw,if_neg (by simp)]at h
  have h':∀τ,(σ++τ)[p]? = _:=fun τ=>zi h
  refine zeA zfR fun hl=>?_
  simp only[zdP,iN,bT,bF,eN,zl1]
  refine zG ?_
  refine zff (h' _) ?_
  refine zjC (zd h' (show((0:Int)==0)=true from rfl)) ?_
  refine zu hl ?_
  exact hK
theorem c_pVotesG {a b:Int}(h:σ[p]? = some (.box (zma d t l x)))(hx:SyAt σ d x n)(hK:K (.d (.int .i64 (zvA d a b))) σ) :
  zP zbF [.box p 0,.agg [.d (.int .i64 a),.d (.int .i64 b)]] σ K:=by
 cases hw:d.waits with
 | true=>
  obtain⟨rfl,sy,hn,hS⟩:=hx.yes hw
  have:=hS.len
  refine zvq h hn (by omega) ?_
  rw[hS.votes]
  rwa [zvA,if_pos hw]at hK
 | false=>
  rw[zvA,if_neg (by rw[hw];simp)]at hK
  rcases hx.no hw with rfl|⟨rfl,hn⟩
  ·have h':∀τ,(σ++τ)[p]? = _:=fun τ=>zi h
   refine zeq zfS fun hl=>?_
   simp only[zdQ,iN,bT,bF,eN]
   refine zG ?_
   refine zff (h' _) ?_
   refine zm h' ?_
   simp only[zkp]
   refine zn 0 (fun k vs S=>vs=[.d (.int .i64 0)]/\S=σ++[.box [.d (.int .i64 a),.d (.int .i64 b)],.mit none 0 []]) ⟨rfl,by simp⟩ ?_
   rintro k vs S hk ⟨rfl,rfl⟩
   have r2:(σ++[AObj.box [.d (.int .i64 a),.d (.int .i64 b)],.mit none 0 []])[σ.length+1]? = some (.mit none 0 []):=by rw[zA];rfl
   have el:(σ++[AObj.box [.d (.int .i64 a),.d (.int .i64 b)]]).length=σ.length+1:=by simp
   simp only[el,zov,r2,zJ]
   refine zG ?_
   refine zu hl ?_
   exact hK
  ·refine zvq h hn (by simp) ?_
   exact hK
theorem pubP_low {d d':zjf}{k:Nat}(hl:zhp k σ)(h:σ[p]? = some (.box (zma d t l x))):ztO k (.box (zma d' t l x)):=by
 intro c hc;have hb:=hl p _ h c;simp only[zma,List.mem_cons,List.not_mem_nil,or_false]at hc;rcases hc with rfl|rfl|rfl|rfl|rfl|rfl|rfl|rfl|rfl|rfl|rfl;all_goals first
  | exact .d _
  | exact hb (by simp)
theorem c_pTickG (h:σ[p]? = some (.box (zma d t l x)))(hI:PubI N d)(hN:N<=900000)(hK:K (.d (.slice (zoj d))) (σ.set p (.box (zma (zgb d) t l x)))):zP zcH [.box p 0] σ K:=by
 refine zje zgn.is rfl fun hl _=>zgn.goes ?_;have hp:=zaa h;have ht:=hI.ticks;have hw:IntKind.i64.wrap (d.ticks+1)=d.ticks+1:=zaW (by omega) (by omega);have hlw:ztO σ.length (.box (zma (zgb d) t l x)):=pubP_low hl h;have z:∀Y τ,(σ.set p Y++τ)[p]? = some Y:=fun Y τ=>zi (List.getElem?_set_self hp);have z0:∀Y,(σ.set p Y)[p]? = some Y:=fun Y=>List.getElem?_set_self hp;obtain⟨B,hB⟩:∃B,AObj.box (zma (zgb d) t l x)=B:=⟨_,rfl⟩;have done:∀r,r=AV.d (.slice (zoj d))->∀τ,EndsW σ.length K (some [r]) (σ.set p (.box (zma (zgb d) t l x))++τ):=by
  rintro r rfl τ;exact ziO (zeP (by simp[zhe,dmT,dm,dm1,zcm]) hl hlw hK)
 have done0:∀r,r=AV.d (.slice (zoj d))->EndsW σ.length K (some [r]) (σ.set p (.box (zma (zgb d) t l x))):=fun r hr=>by simpa using done r hr []
 simp only[zgr,iN,bT,bF,eN];refine zG ?_;refine zff h ?_;have hB':∀τ,(σ.set p B++τ)[p]? = some (.box (zma (zgb d) t l x)):=fun τ=>by rw[hB];exact z _ _
 cases hwt:d.waits with
 | false=>
  have e1:zlX d=[]:=by rw[zlX,hwt,if_neg (by simp)]
  have e2:zoj d=[]:=by rw[zoj,if_neg (by rw[hwt];simp)]
  rw[zma,e1]at h
  refine zjC (zd h (zd hw (zd z0 (show((0:Int)==0)=true from rfl)))) ?_
  have:=done0 (.d (.slice [])) (by rw[e2])
  rw[zma,show zlX (zgb d)=[]from e1]at this
  exact this
 | true=>
  have e1:zlX d=[d.s]:=by rw[zlX,hwt,if_pos rfl]
  rw[zma,e1]at h
  cases hr:((d.ticks+1).tmod 4 != 0)
  ·have e2:zoj d=[outD [d.s]]:=by rw[zoj,if_pos ⟨hwt,by simpa using hr⟩]
   refine zjC (zd h (zd hw (zd z0 (zd hr (zd (show((1:Int)==0)=false from rfl) @List.length_cons.{0}))))) ?_
   refine zvr (w:=[d.s]) (z0 _) ⟨by simp,fun s hs=>by simp only[List.mem_singleton]at hs;subst hs;exact hI.so⟩ ?_
   have:=done0 (.d (.slice [outD [d.s]])) (by rw[e2])
   rw[zma,show zlX (zgb d)=[d.s]from e1]at this
   refine zG ?_
   exact this
  ·have e2:zoj d=[]:=by rw[zoj,if_neg (fun hc=>by simp at hr;exact hr hc.2)]
   refine zjC (zd h (zd hw (zd z0 (zd hr (zd (show((1:Int)==0)=false from rfl) @List.length_cons.{0}))))) ?_
   have:=done0 (.d (.slice [])) (by rw[e2])
   rw[zma,show zlX (zgb d)=[d.s]from e1]at this
   exact this
end
def Off (i:TGi) (j:Nat):Prop:=j≠i.id/\j≠i.m/\j≠i.t/\j≠i.id2/\j≠i.m2/\j≠i.t2
theorem SyAt.keep {σ S:List AObj}{d:zjf}{x:AV}{n:Nat}(h:SyAt σ d x n)(hk:∀y,σ[n]? = some y->S[n]? = some y):SyAt S d x n:=
 ⟨fun hw=>by obtain⟨h1,sy,h2,h3⟩:=h.yes hw;exact⟨h1,sy,hk _ h2,h3⟩,fun hw=>(h.no hw).imp id fun h=>⟨h.1,hk _ h.2⟩⟩
section
variable {σ:List AObj} {K:KT} {p n N:Nat} {d:zjf} {x:AV}
theorem c_pAskG {i:TGi}{L:List (List UInt8)}{G:List zI}{o:TOp}(h:TG i σ L G)(hL:zmI L)(hg:G.length<=1073741824)(hp:σ[p]? = some (.box (zma d i.id i.id2 x)))(hpk:Off i p)(hnk:Off i n)(hnp:n≠p)
  (hos:zmW o<=20971520) (ho:okO o) (hI:PubI N d) (hN:N<=900000) (hx:SyAt σ d x n)
  (hK:∀(S:List AObj) (x':AV) (n':Nat),TG i S (zAI L d o) (zAJ L G d o)->S[p]? = some (.box (zma (zsM L d o) i.id i.id2 x'))->SyAt S (zsM L d o) x' n'→n'≠p->(n'=n∨(σ.length<=n'∧n'<S.length)) →
   (∀(j:Nat) (y:AObj),j≠p->Off i j→σ[j]? = some y->S[j]? = some y)->K (.tup [.d (.slice (zze L d o)),.d (.int .i64 (zzd L d o))]) S) :
  zP zaM [.box p 0,opA o] σ K:=by
 cases hw:d.waits with
 | true=>
  have e0:zzd L d o=240:=by rw[zzd,if_pos hw]
  have e1:zAI L d o=L:=by rw[zAI,if_pos hw]
  have e2:zAJ L G d o=G:=by rw[zAJ,if_pos hw]
  have e3:zsM L d o=d:=by rw[zsM,e0,if_pos (by decide)]
  have e4:zze L d o=[]:=by rw[zze,e0,if_pos (by decide)]
  rw[e0,e1,e2,e3,e4]at hK
  have hp':=hp
  rw[zma,zlX,hw,if_pos rfl]at hp'
  exact c_pAskBusy hp' (hK σ x n h hp hx hnp (.inl rfl) fun _ _ _ _ h=>h)
 | false=>
  have hp':=hp
  rw[zma,zlX,hw,if_neg (by simp)]at hp'
  have ht:=hI.time
  by_cases hc:zaN zev o=0
  rotate_left
  ·have e0:zzd L d o=zaN zev o:=by rw[zzd,if_neg (by rw[hw];simp),if_pos hc]
   have e1:zAI L d o=L:=by rw[zAI,if_neg (by rw[hw];simp),if_pos hc]
   have e2:zAJ L G d o=G:=by rw[zAJ,if_neg (by rw[hw];simp),if_pos hc]
   have e3:zsM L d o=d:=by rw[zsM,e0,if_pos hc]
   have e4:zze L d o=[]:=by rw[zze,e0,if_pos hc]
   rw[e0,e1,e2,e3,e4]at hK
   exact c_pAskBad hp' ho hc (hK σ x n h hp hx hnp (.inl rfl) fun _ _ _ _ h=>h)
  have e0:zzd L d o=zko L (zAH d o):=by rw[zzd,if_neg (by rw[hw];simp),if_neg (by simpa using hc)]
  have e1:zAI L d o=zok L (zAH d o):=by rw[zAI,if_neg (by rw[hw];simp),if_neg (by simpa using hc)]
  have e2:zAJ L G d o=zpS L G (zAH d o):=by rw[zAJ,if_neg (by rw[hw];simp),if_neg (by simpa using hc)]
  by_cases hs:zko L (zAH d o)=0
  rotate_left
  ·have e3:zsM L d o=d:=by rw[zsM,e0,if_pos hs]
   have e4:zze L d o=[]:=by rw[zze,e0,if_pos hs]
   rw[e0,e1,e2,e3,e4]at hK
   exact c_pAskErr h hL hg hp' hos ho hc (by omega) hs (hK _ x n (h.put _ _) (by rw[TG.other hpk];exact hp) (hx.keep fun y hy=>by rw[TG.other hnk];exact hy) hnp (.inl rfl) fun j y _ hj hy=>by rw[TG.other hj];exact hy)
  have e3:zsM L d o={ d with time:=d.time+1,waits:=true,s:=zfB L (zAH d o),says:=[],ticks:=0 }:=by rw[zsM,e0,if_neg (by simpa using hs)]
  have e4:zze L d o=[outD [zfB L (zAH d o)]]:=by rw[zze,e0,if_neg (by simpa using hs)]
  rw[e0,hs,e1,e2,e3,e4]at hK
  refine c_pAsk h hL hg hp' hpk hos ho hc (by omega) hs fun S n' hq hn hT hne hle hkp=>hK S (.map n') n' hT hq ⟨fun _=>⟨rfl,_,hn,.nil⟩,fun h=>by cases h⟩ hne (.inr ⟨hle,zaa hn⟩) fun j y hj ho hy=>hkp j y hj ho.1 ho.2.1 ho.2.2.1 ho.2.2.2.1 ho.2.2.2.2.1 ho.2.2.2.2.2 hy
end
theorem zyD {k:Int}:∀ {l:List (Int × Int × Int)} {i:Nat},(∀e∈l,e.1≠k)->fsay k l i=none
 | [],_,_=>rfl
 | e::r,i,h=>by
  simp only[fsay];rw[if_neg (fun hc=>h e (by simp) hc.symm)];exact zyD fun x hx=>h x (by simp[hx])
theorem seen_fresh {bs seen:List Nat}{sy ys:List (Int × Int × Int)}(h:zlK bs sy seen ys)(hn:(sy.map (·.1)).Nodup){j b:Nat}{y:Int × Int × Int}(hb:bs[j]? = some b)(hy:sy[j]? = some y)(hs:b∉seen):∀e∈ys,e.1≠y.1:=by
 intro e he hk;obtain⟨k,hk2⟩:=List.mem_iff_getElem?.1 he;have hl:=(List.getElem?_eq_some_iff.1 hk2).1;rw[← h.1]at hl;obtain⟨i,h1,h2⟩:=h.2 k _ e (List.getElem?_eq_getElem hl) hk2;have hil:=(List.getElem?_eq_some_iff.1 h2).1;have e1:(sy.map (·.1))[i]? = some e.1:=by rw[List.getElem?_map,h2];rfl
 have e2:(sy.map (·.1))[j]? = some e.1:=by rw[List.getElem?_map,hy,hk];rfl
 have:i=j:=(List.getElem?_inj (by simpa using hil) hn).1 (e1.trans e2.symm);subst this;rw[hb]at h1;cases h1;exact hs (List.getElem_mem hl)
section
variable {σ:List AObj} {K:KT} {p t l n N:Nat} {d:zjf} {x:AV}
theorem gq40 {A P Q:Prop}(a:A)(h:Q)(e:A->Hd Q->P:=by intro a h;(repeat' first|simp -dsimp only[↓zlH,↓zbS,↓zee,↓zlI,↓zlz,↓zlx,↓zlA,↓zly,↓zej,↓zef,↓zek,↓zeg,↓zlB,↓zeb,↓zel,↓zeh,↓zem,↓zei,↓zlw,↓zlF,↓zea,↓zep,↓zlo,↓zln,↓zlu,iN,bT,bF,eN,↓zes,↓unC,↓zaC,↓zai,↓zaj,↓zav,↓zaX,↓zah,↓zgB,↓zaw,↓zbf,↓zad,↓ze,↓zj,↓zaR,↓zc,↓zaV,↓zN,↓zbT,↓zcl,↓zf,↓zF,↓zp,↓zM,↓zaB,↓zgI,↓zhI,↓zbc,↓zby,↓zcf,↓zcA,↓zdp,↓zJ,↓zbb,↓zak,↓zO,↓zaU,zhr,zdV,zdD,unA,zgy,bnd,ziT,zaO,zL,zid,dm,dm1,zH,zaF,zjX,zjW,keepO,Q0,Q1,Q2,Q3,Q4,Q5,zba,zA,zB,zY,zab,Q6,Q7,Q8,Q9,Q10,Q11,Q12,Q13,Q14,Nat.reduceAdd,Q15,Int.reduceToNat,Q16,Q17,Q18,Q19,Q20,reduceIte,Q21,Q22,zy,rep,zaq,zhX,toD,zaD,Q23,Q24,Q25,Q26,Q27,Q28,Nat.reduceLeDiff,Q29,Nat.reduceSub,Q30,Q31,Q32,sc,Q33,Q34,Q35,Q36,Q37,Q26,Q38,Q39,zuH,zuE,zuB,zuI,zjw,zuF,zuC,zuG,zuD,zjv,zjx,zuK,zuL,Bool.not_true,Bool.not_false,List.length_map,Bool.and_false,Bool.and_self,Bool.false_and,Bool.not_false,Bool.not_true,Bool.true_and,Int.toNat_natCast,Int.toNat_zero,List.drop_zero,List.length_map,List.length_nil,List.nil_append,List.take_length,Nat.sub_zero,Nat.zero_add,Option.isSome_none,Option.isSome_some,Option.map_none,Option.map_some,ansD,zam,beq_self_eq_true,bft,bne_self_eq_false,btf,bytesE,zck,zhO,zag,zdh,zsb,zch,zou,opA,opD,outD,zfC,zgt,zis,zay,a]|with_reducible refine zuZ ?_|fail);exact h.go):P:=e a ⟨h⟩
theorem c_pCloneG (h:σ[p]? = some (.box (zma d t l x)))(hI:PubI N d)(hx:SyAt σ d x n)
  (hK:∀(S:List AObj) (p' n':Nat),S[p']? = some (.box (zma d t l (.map n')))->SyAt S d (.map n') n'→σ.length<=p'→σ.length<=n'→n'≠p'→(∀(j:Nat) (y:AObj),σ[j]? = some y->S[j]? = some y)->K (.box p' 0) S) :
  zP zdF [.box p 0] σ K:=by
 refine ACall.weaken ?_;refine zeS zfT.is rfl fun hl _=>zfT.goes ?_;have h':∀τ,(σ++τ)[p]? = _:=fun τ=>zi h;have hsm:zgl (zlX d):=by
  unfold zlX;split
  ·exact⟨by simp,fun s hs=>by simp only[List.mem_singleton]at hs;subst hs;exact hI.so⟩
  ·exact⟨by simp,by simp⟩
 have hcase:(x=.d .nilmap/\d.waits=false)∨(x=.map n/\∃sy,σ[n]? = some (.map (zde sy))/\sy.length<=13/\(sy.map (·.1)).Nodup/\∀ys,ys.Perm sy->(d.waits=true->SayI ys d.says)/\(d.waits=false->ys=[])):=by
  cases hw:d.waits with
  | true=>
   obtain⟨h1,sy,h2,h3⟩:=hx.yes hw
   exact .inr ⟨h1,sy,h2,h3.len,h3.nd,fun ys hp=>⟨fun _=>⟨hp.trans h3.perm,(hp.map _).nodup_iff.2 h3.nd,fun e he=>h3.key e (hp.mem_iff.1 he)⟩,fun h=>by cases h⟩⟩
  | false=>
   rcases hx.no hw with h1|⟨h1,h2⟩
   ·exact .inl ⟨h1,rfl⟩
   ·exact .inr ⟨h1,[],h2,by simp,.nil,fun ys hp=>⟨fun h=>(by cases h),fun _=>hp.eq_nil⟩⟩
 obtain⟨R,hR⟩:∃R:AV->List AV,(fun y=>[AV.d (.bool true),.d (.int .i64 d.f),.d (.int .i64 d.cl),.box t 0,.box l 0,.d (.int .i64 d.time),.d (.slice (zbz (zlX d))),.map (σ.length+1),.d (.int .i64 d.ticks),y,.d (.int .i64 d.many)])=R:=⟨_,rfl⟩;have fin:∀(ys:List (Int × Int × Int)) (y:AV) (T:List AObj),(d.waits=true->SayI ys d.says)/\(d.waits=false->ys=[])->(∃o,y=.own o (zli d)) →
   zxC (fun r s=>∃r' s',zqf [r] s [r'] s'∧K r' s') (some [.box σ.length 0]) (σ++AObj.box (R y)::AObj.map (zde ys)::T):=fun ys y T hq hy=>by
  have g0:(σ++AObj.box (R y)::AObj.map (zde ys)::T)[σ.length]? = some (.box (R y)):=by rw[zB];rfl
  have e1:(σ++AObj.box (R y)::AObj.map (zde ys)::T).set σ.length (.box ((R y).set 9 (.d (.slice (zli d)))))=σ++AObj.box (zma d t l (.map (σ.length+1)))::AObj.map (zde ys)::T:=by
   rw[zab,← hR];rfl
  have g1:(σ++AObj.box (zma d t l (.map (σ.length+1)))::AObj.map (zde ys)::T)[σ.length+1]? = some (.map (zde ys)):=by rw[zA];rfl
  refine zlj ⟨_,σ++AObj.box (zma d t l (.map (σ.length+1)))::AObj.map (zde ys)::T,?_,hK _ σ.length (σ.length+1) (by rw[zB];rfl) ⟨fun hw=>⟨rfl,ys,g1,hq.1 hw⟩,fun hw=>.inr ⟨rfl,by rw[g1,hq.2 hw]⟩⟩ (by omega) (by omega) (by omega) fun j y hy=>zi hy⟩;obtain⟨o,rfl⟩:=hy;refine .dataB σ.length 9 _ (.own o (zli d)) (zli d) g0 (by rw[← hR];rfl) rfl ?_;rw[e1];exact .refl _ _
 have tail:∀(ys:List (Int × Int × Int)) (T:List AObj),(d.waits=true->SayI ys d.says)/\(d.waits=false->ys=[]) →
   (nfl 9 (.box p 0) (σ++AObj.box (R (.d (.slice (zli d))))::AObj.map (zde ys)::T) fun D s=>zM 9 104 (.exact []) D s fun E s=>zc 9 (.box σ.length 0) s fun F s=>zj 1 F E s fun _ s=>
    z1 (zxC fun r s=>∃r' s',zqf [r] s [r'] s'∧K r' s') (.box σ.length 0) s):=fun ys T hq=>by
  have fin:=fin ys;subst hR;cases hla:decide (d.many=0)
  ·have e:zli d=[ansD d.ls d.la d.lo]:=by rw[zli,if_neg (by simpa using hla)]
   rw[e]at fin;refine gq40 (zd h' (zd e @List.length_cons.{0})) ?_;exact fin _ _ hq ⟨_,rfl⟩
  ·have e:zli d=[]:=by rw[zli,if_pos (by simpa using hla)]
   rw[e]at fin;refine zjC (zd h' e) ?_;exact fin _ _ hq ⟨_,rfl⟩
 have h0:=h;rcases hcase with⟨rfl,hw⟩|⟨rfl,sy,hn,hle,hnd,hsy⟩
 ·simp only[zdR,iN,bT,bF,eN];refine zG ?_;refine zff h0 ?_;refine zm (zd h h') ?_;refine zkN (b:=zlX d) hsm ?_;refine zm h' ?_;simp only[zkp];have r2:∀B C:AObj,(σ++[B,C]++[AObj.mit none 0 []])[σ.length+2]? = some (.mit none 0 []):=fun B C=>by rw[List.append_assoc,zA];rfl
  refine zn 0 (fun k vs S=>vs=[]/\S=σ++[.box (R (.d (.slice (zli d)))),.map []]++[.mit none 0 []]) ⟨rfl,by rw[← hR]⟩ ?_;rintro k vs S hk ⟨rfl,rfl⟩;have el:∀B C:AObj,(σ++[B,C]).length=σ.length+2:=fun B C=>by simp
  simp only[el,zov,r2,zJ];have tl:=tail [] [.mit none 0 []] ⟨fun h=>(by rw[hw]at h;cases h),fun _=>rfl⟩;have eS:σ++[AObj.box (R (.d (.slice (zli d)))),.map []]++[.mit none 0 []]=σ++AObj.box (R (.d (.slice (zli d))))::AObj.map (zde [])::[.mit none 0 []]:=by simp
  rw[eS];simp only[zf,List.getElem?_cons_zero,zaC,zO];exact tl
 ·simp only[zdR,iN,bT,bF,eN];refine zG ?_;refine zff h0 ?_;refine zm (zd h h') ?_;refine zkN (b:=zlX d) hsm ?_;refine zm h' ?_;simp only[zkp];have hnl:=zaa hn;have hn':∀τ,(σ++τ)[n]? = some (.map (zde sy)):=fun τ=>zi hn;have hlen:(zde sy).length=sy.length:=List.length_map ..;simp only[hn'];intro c bs hbl hbn;rw[hlen]at hbl;obtain⟨B,hB⟩:∃B,AObj.box (R (.d (.slice (zli d))))=B:=⟨_,rfl⟩;refine zn sy.length (fun k vs S=>∃seen ys T,vs=[]/\seen.length=k/\zlK bs sy seen ys/\seen.Nodup/\S=(σ.set n (.mapr c bs (zde sy))++B::.map (zde ys)::.mit (some n) c seen::T)) ⟨[],[],[],rfl,rfl,.nil,.nil,by rw[List.set_append_left _ _ hnl,← hB,← hR];simp⟩ ?_;rintro k vs S hk ⟨seen,ys,T,rfl,rfl,hS,hsn,rfl⟩;obtain⟨ρ,hρ⟩:∃ρ,σ.set n (.mapr c bs (zde sy))=ρ:=⟨_,rfl⟩;have hρl:ρ.length=σ.length:=by rw[← hρ];simp
  have r1:∀τ,(ρ++τ)[n]? = some (.mapr c bs (zde sy)):=fun τ=>zi (by rw[← hρ];exact List.getElem?_set_self hnl);have r2:∀X Y τ,(ρ++B::X::Y::τ)[σ.length+2]? = some Y:=fun X Y τ=>by rw[← hρl,zA];rfl
  have el:∀B C:AObj,(σ++[B,C]).length=σ.length+2:=fun B C=>by simp
  rw[hρ];simp only[el,zov,r1,r2,zJ];refine⟨trivial,fun hall=>?_,fun j b1 e hb1 he hnb=>?_⟩
  ·have hp:=hS.perm hsn hbn hbl hall;have tl:=tail ys (.mit (some n) c seen::T) (hsy ys hp);have eS:(ρ++B::AObj.map (zde ys)::AObj.mit (some n) c seen::T).set n (.map (zde sy))=σ++AObj.box (R (.d (.slice (zli d))))::AObj.map (zde ys)::.mit (some n) c seen::T:=by
    rw[List.set_append_left _ _ (by omega),← hρ,List.set_set,zbR hn,hB]
   rw[eS];simp only[zf,List.getElem?_cons_zero,zaC,zO];exact tl
  ·obtain⟨⟨key,x1,x2⟩,hx2,rfl⟩:=says_get he;have hlt:seen.length<sy.length:=by
    have:=hS.lt hsn hbl (List.mem_of_getElem? hb1) hnb;rw[hS.1];exact this
   have hs2:∀τ,(ρ++B::AObj.map (zde ys)::AObj.mit (some n) c seen::τ).set (σ.length+2) (AObj.mit (some n) c (seen++[b1]))=ρ++B::AObj.map (zde ys)::AObj.mit (some n) c (seen++[b1])::τ:=fun τ=>by
    rw[← hρl,zY];rfl
   have hS2:=hS.snoc hb1 hx2;have hsn2:(seen++[b1]).Nodup:=by
    rw[List.nodup_append];exact⟨hsn,by simp,fun x hx y hy=>by simp at hy;subst hy;exact fun e=>hnb (e▸hx)⟩
   have hfr:=seen_fresh hS hnd hb1 hx2 hnb;have hmf:=ztg key ys 0;rw[zyD hfr]at hmf;refine zG ?_;rw[hs2];simp only[znm,r1,r2];refine⟨trivial,j,b1,_,by simp,hb1,he,?_⟩;have r3:∀X Y τ,(ρ++B::X::Y::τ)[σ.length]? = some (.box [AV.d (.bool true),.d (.int .i64 d.f),.d (.int .i64 d.cl),.box t 0,.box l 0,.d (.int .i64 d.time),.d (.slice (zbz (zlX d))),.map (σ.length+1),.d (.int .i64 d.ticks),.d (.slice (zli d)),.d (.int .i64 d.many)]):=fun X Y τ=>by
    rw[← hB,← hR,← hρl,zB];rfl
   have r4:∀X Y τ,(ρ++B::X::Y::τ)[σ.length+1]? = some X:=fun X Y τ=>by rw[← hρl,zA];rfl
   have r5:∀X Y Z τ,(ρ++B::X::Y::τ).set (σ.length+1) Z=ρ++B::Z::Y::τ:=fun X Y Z τ=>by rw[← hρl,zY];rfl
   refine gq26 (zd r3 (zd r4 (zd r5 (zd hmf @zzI)))) ?_;exact zaK.next hlt ⟨seen++[b1],ys++[(key,x1,x2)],_,rfl,by simp,hS2,hsn2,rfl⟩
end
section
variable {σ:List AObj} {K:KT} {q u g N:Nat} {d:zjf} {sy:AV}
theorem c_xSend (h:σ[q]? = some (.box (zlf d u g sy)))(hK:K (.d (.slice [outD [d.s]])) σ):zP zeE [.box q 0] σ K:=by
 refine zeA zpW fun hl=>?_;simp only[zjH,iN,bT,bF,eN,zl1,zl3,zl5];refine zm h ?_;refine zu hl ?_;exact hK
theorem c_xVotesS {a b:Int}(hs:sy=.d (.slice (zhn d.says))∨∃t,sy=.own t (zhn d.says))(h:σ[q]? = some (.box (zlf d u g sy)))(hb:d.says.length<=1000000)(hK:K (.d (.int .i64 (zvA d a b))) σ) :
  zP zcZ [.box q 0,.agg [.d (.int .i64 a),.d (.int .i64 b)]] σ K:=by
 rcases hs with rfl|⟨t,rfl⟩;all_goals
  refine zeq zoJ fun hl=>?_
  have h':∀τ,(σ++τ)[q]? = _:=fun τ=>zi h
  have hlen:(zhn d.says).length=d.says.length:=List.length_map ..
  have fin:∀z:Int,zvA d a b=z->K (.d (.int .i64 z)) σ:=fun z h=>h▸hK
  clear hK
  simp only[zjg,iN,bT,bF,eN]
  refine zG ?_
  cases hw:d.waits with
  | false=>
   have h2:∀τ,(σ++τ)[q]? = _:=h'
   simp only[zlf,hw]at h2
   refine zn 0 (fun k vs S=>vs=[.d (.int .i64 0),.d (.int .i64 0)]/\S=σ++[.box [.d (.int .i64 a),.d (.int .i64 b)]]) ⟨rfl,rfl⟩ ?_
   rintro k vs S hk ⟨rfl,rfl⟩
   cases hd:decide ((0:Int)<(d.says.length:Int))
   ·refine zm (zd h2 (zd hlen hd)) ?_
    refine zu hl ?_
    exact fin 0 (by rw[zvA,if_neg (by rw[hw];simp)])
   ·refine zm (zd h2 (zd hlen hd)) ?_
    refine zu hl ?_
    exact fin 0 (by rw[zvA,if_neg (by rw[hw];simp)])
  | true=>
   have h2:∀τ,(σ++τ)[q]? = _:=h'
   simp only[zlf,hw]at h2
   refine zn d.says.length (fun k vs S=>vs=[.d (.int .i64 (zqj (d.says.take k) a b:Nat)),.d (.int .i64 k)]/\S=σ++[.box [.d (.int .i64 a),.d (.int .i64 b)]]) ⟨by simp[zqj],rfl⟩ ?_
   rintro k vs S hk ⟨rfl,rfl⟩
   by_cases hlt:k<d.says.length
   ·have hd:decide ((k:Int)<(d.says.length:Int))=true:=by simp;omega
    have hx:d.says[k]? = some d.says[k]:=by simp[hlt]
    have hgx:=zR (f:=fun e:Int × Int × Int=>[D.int .i64 e.1,D.int .i64 e.2.1,D.int .i64 e.2.2]) hx
    obtain⟨e,he⟩:∃e,d.says[k]=e:=⟨_,rfl⟩
    rw[he]at hx hgx
    obtain⟨e1,e2,e3⟩:=e
    have hst:zqj (d.says.take (k+1)) a b=zqj (d.says.take k) a b+if ((a==e2)&&(b==e3))=true then 1 else 0:=by
     rw[List.take_add_one,hx];simp only[zqj,Option.toList_some,List.countP_append,List.countP_singleton]
    have hcn:zqj (d.says.take k) a b<=k:=Nat.le_trans List.countP_le_length (by simp;omega)
    have hxy:zch [AV.d (.int .i64 e2),AV.d (.int .i64 e3)] [AV.d (.int .i64 a),AV.d (.int .i64 b)]=some ((a==e2)&&(b==e3)):=by
     simp only[zch];rw[show(e2==a)=(a==e2)from Bool.beq_comm,show(e3==b)=(b==e3)from Bool.beq_comm];simp
    cases hq2:((a==e2)&&(b==e3))
    ·rw[hq2]at hst hxy
     refine zm (zd h2 (zd hlen (zd hd (zd hgx (zd hxy (wkc k (by omega))))))) ?_
     exact zaK.next hlt ⟨by rw[hst];simp,rfl⟩
    ·rw[hq2]at hst hxy
     refine zm (zd h2 (zd hlen (zd hd (zd hgx (zd hxy (zd (wkc k (by omega)) (wk1 (zqj (d.says.take k) a b) (by omega)))))))) ?_
     exact zaK.next hlt ⟨by rw[hst];simp,rfl⟩
   ·have hd:decide ((k:Int)<(d.says.length:Int))=false:=by simp;omega
    rw[List.take_of_length_le (by omega)]
    refine zm (zd h2 (zd hlen hd)) ?_
    refine zu hl ?_
    exact fin _ (by rw[zvA,if_pos hw])
theorem c_xVotes {a b:Int}(h:σ[q]? = some (.box (zlf d u g (.d (.slice (zhn d.says))))))(hb:d.says.length<=1000000)(hK:K (.d (.int .i64 (zvA d a b))) σ) :
  zP zcZ [.box q 0,.agg [.d (.int .i64 a),.d (.int .i64 b)]] σ K:=c_xVotesS (.inl rfl) h hb hK
end
variable {σ:List AObj}
theorem c_rSmall {f:Int}{K:KT}(hK:K (.d (.int .i64 (zgA 1 f))) σ):zP zqU [.d (.int .i64 f)] σ K:=by
 refine zeA e_r12_Small fun hl=>?_;simp only[zxi,iN,bT,bF,eN];(refine gq9 ?_;try with_reducible exact True.intro);refine zsr ?_;by_cases h:f<1∨f>4
 ·rw[zgA,if_pos h]at hK;rw[zhj,if_pos h];(refine gq10 (show((120:Int) != 0)=true from rfl) ?_;try with_reducible exact True.intro);refine zu hl ?_;exact hK
 ·rw[zgA,if_neg h,Int.one_mul]at hK;rw[zhj,if_neg h];have w2:IntKind.i64.wrap (f+1)=f+1:=zaW (by omega) (by omega);(refine gq10 (zjZ (show((0:Int) != 0)=false from rfl) w2) ?_;try with_reducible exact True.intro);refine zu hl ?_;exact hK
variable {σ:List AObj}
theorem zrd {j k:Nat}{x y:AObj}(h:σ[j]? = some y)(hk:j≠k):(σ.set k x)[j]? = some y:=by rw[List.getElem?_set_ne (Ne.symm hk)];exact h
def zyp (l:List (Int × Int × Int)) (k:Int):List (Int × Int × Int):=l.filter fun e=>decide (e.1≠k)
section
variable {σ:List AObj} {K:KT} {q u g N:Nat} {d:zjf} {sy:AV}
theorem c_xTick (h:σ[q]? = some (.box (zlf d u g sy)))(hI:PubI N d)(hN:N<=900000)(hsy:∀k,zhp k σ->Low k sy)(hK:K (.d (.slice (zoj d))) (σ.set q (.box (zlf (zgb d) u g sy)))):zP zgw [.box q 0] σ K:=by
 refine zeA zpX fun hl=>?_;have hq:=zaa h;have ht:=hI.ticks;have hw:IntKind.i64.wrap (d.ticks+1)=d.ticks+1:=zaW (by omega) (by omega);have z0:∀Y,(σ.set q Y)[q]? = some Y:=fun Y=>List.getElem?_set_self hq;have hlw:ztO σ.length (.box (zlf (zgb d) u g sy)):=by
  intro c hc;have hb:=hl q _ h c;simp only[zlf,List.mem_cons,List.not_mem_nil,or_false]at hc;rcases hc with rfl|rfl|rfl|rfl|rfl|rfl|rfl|rfl|rfl|rfl|rfl|rfl|rfl|rfl|rfl|rfl|rfl|rfl|rfl|rfl|rfl|rfl|rfl|rfl|rfl|rfl|rfl;all_goals first
   | exact .d _
   | exact hb (by simp)
 have done:∀l,l=zoj d->AW.Ends σ.length K (some [.d (.slice l)]) (σ.set q (.box (zlf (zgb d) u g sy))):=by
  rintro l rfl;exact zfb (by simp[zhe,dmT,dm,dm1,zcm]) hl hlw hK
 simp only[zjI,iN,bT,bF,eN];cases hwt:d.waits with
 | false=>
  simp only[zlf,hwt]at h
  have:=done [] (by rw[zoj,if_neg (by rw[hwt];simp)])
  simp only[zlf,zgb,hwt]at this
  refine zm (zd h (zd hw z0)) ?_
  exact this
 | true=>
  have h1:=h
  simp only[zlf,hwt]at h
  cases hr:((d.ticks+1).tmod 4==0)
  ·have:=done [] (by rw[zoj,if_neg (fun hc=>by simp at hr;exact hr hc.2)])
   simp only[zlf,zgb,hwt]at this
   refine zm (zd h (zd hw (zd z0 hr))) ?_
   exact this
  ·have:=done [outD [d.s]] (by rw[zoj,if_pos ⟨hwt,by simpa using hr⟩])
   have z1:(σ.set q (.box (zlf (zgb d) u g sy)))[q]? = some (.box (zlf (zgb d) u g sy)):=z0 _
   simp only[zlf,zgb,hwt]at this z1
   refine zm (zd h (zd hw (zd z0 hr))) ?_
   refine c_xSend (d:=zgb d) (u:=u) (g:=g) (sy:=sy) (by simp only[zlf,zgb,hwt];exact z1) ?_
   refine zG ?_
   exact this
end
section
variable {σ:List AObj} {K:KT} {q u g N:Nat} {d:zjf} {sy:AV}
theorem c_xAskG {L:List (List UInt8)}{G:List zI}{o:TOp}(hT:σ[u]? = some (rtO L))(hG:σ[g]? = some (rlO G))(hug:u≠g)(hqu:q≠u)(hqg:q≠g)(hL:zmI L)(hg:G.length<=1073741824)(h:σ[q]? = some (.box (zlf d u g (.d (.slice (zhn d.says))))))
  (hos:zmW o<=20971520) (ho:okO o) (hI:PubI N d) (hN:N<=900000)
  (hK:∀S:List AObj,S[u]? = some (rtO (zAI L d o))->S[g]? = some (rlO (zAJ L G d o))->S[q]? = some (.box (zlf (zsM L d o) u g (.d (.slice (zhn (zsM L d o).says))))) →
   (∀(j:Nat) (y:AObj),j≠q->j≠u->j≠g→σ[j]? = some y->S[j]? = some y)->K (.tup [.d (.slice (zze L d o)),.d (.int .i64 (zzd L d o))]) S) :
  zP zgZ [.box q 0,opA o] σ K:=by
 refine ACall.weaken ?_;refine zeS zkJ.is rfl fun hl _=>zkJ.goes ?_;simp only[zkQ,iN,bT,bF,eN,zl1,zl4,opA];have hq':∀τ,(σ++τ)[q]? = _:=fun τ=>zi h;have ht:=hI.time;have hw1:IntKind.i64.wrap (d.time+1)=d.time+1:=zaW (by omega) (by omega);cases hw:d.waits with
 | true=>
  have e0:zzd L d o=240:=by rw[zzd,if_pos hw]
  have e1:zAI L d o=L:=by rw[zAI,if_pos hw]
  have e2:zAJ L G d o=G:=by rw[zAJ,if_pos hw]
  have e3:zsM L d o=d:=by rw[zsM,e0,if_pos (by decide)]
  have e4:zze L d o=[]:=by rw[zze,e0,if_pos (by decide)]
  rw[e0,e1,e2,e3,e4]at hK
  have h2:=hq'
  simp only[zlf,hw]at h2
  refine zm h2 ?_
  exact zlj ⟨_,_,.refl _ _,hK _ (zi hT) (zi hG) (zi h) fun _ _ _ _ _ h=>zi h⟩
 | false=>
  have h2:=hq'
  simp only[zlf,hw]at h2
  refine zm h2 ?_
  refine zAy (o:=o) ho.1 ho.2.1 ho.2.2.1 ?_
  by_cases hc:zaN zev o=0
  rotate_left
  ·have e0:zzd L d o=zaN zev o:=by rw[zzd,if_neg (by rw[hw];simp),if_pos hc]
   have e1:zAI L d o=L:=by rw[zAI,if_neg (by rw[hw];simp),if_pos hc]
   have e2:zAJ L G d o=G:=by rw[zAJ,if_neg (by rw[hw];simp),if_pos hc]
   have e3:zsM L d o=d:=by rw[zsM,e0,if_pos hc]
   have e4:zze L d o=[]:=by rw[zze,e0,if_pos hc]
   rw[e0,e1,e2,e3,e4]at hK
   refine zm (show(zaN zev o != 0)=true by simpa using hc) ?_
   exact zlj ⟨_,_,.refl _ _,hK _ (zi hT) (zi hG) (zi h) fun _ _ _ _ _ h=>zi h⟩
  have e0:zzd L d o=zko L (zAH d o):=by rw[zzd,if_neg (by rw[hw];simp),if_neg (by simpa using hc)]
  have e1:zAI L d o=zok L (zAH d o):=by rw[zAI,if_neg (by rw[hw];simp),if_neg (by simpa using hc)]
  have e2:zAJ L G d o=zpS L G (zAH d o):=by rw[zAJ,if_neg (by rw[hw];simp),if_neg (by simpa using hc)]
  obtain⟨x,hxe⟩:∃x:zr,zAH d o=x:=⟨_,rfl⟩
  have hxo:x.op=o:=by rw[← hxe];rfl
  have hsz:zmW x.op<=20971520:=by rw[hxo];exact hos
  have hreq:reqA x=.agg [.d (.int .i64 d.cl),.d (.int .i64 (d.time+1)),.d (.int .i64 o.kind),.d (.str o.topic),.d (.str o.group),.d (.int .i64 o.offset),.d (.slice (zdU o.recs))]:=by rw[← hxe];rfl
  rw[hxe]at e0 e1 e2
  have e3:zsM L d o=if zko L x≠0 then d else{ d with time:=d.time+1,waits:=true,s:=zfB L x,says:=[],ticks:=0 }:=by rw[zsM,e0,hxe]
  have e4:zze L d o=if zko L x≠0 then []else [outD [zfB L x]]:=by rw[zze,e0,hxe]
  rw[e0,e1,e2,e3,e4]at hK
  obtain⟨sg,hsg⟩:∃s,zfB L x=s:=⟨_,rfl⟩
  obtain⟨L',hL'⟩:∃s,zok L x=s:=⟨_,rfl⟩
  obtain⟨G',hG'⟩:∃s,zpS L G x=s:=⟨_,rfl⟩
  obtain⟨e,he⟩:∃e,zko L x=e:=⟨_,rfl⟩
  rw[hsg,hL',hG',he]at hK
  obtain⟨P,hP⟩:∃P,(σ.set u (rtO L')).set g (rlO G')=P:=⟨_,rfl⟩
  have hul:=zaa hT
  have hgl:=zaa hG
  have hql:=zaa h
  have hPs:σ.length=P.length:=by rw[← hP];simp
  have hput:∀τ,((σ++τ).set u (rtO L')).set g (rlO G')=P++τ:=fun τ=>by rw[List.set_append_left _ _ hul,List.set_append_left _ _ (by simpa using hgl),hP]
  have pu:P[u]? = some (rtO L'):=by rw[← hP,List.getElem?_set_ne (Ne.symm hug)];exact List.getElem?_set_self hul
  have pg:P[g]? = some (rlO G'):=by rw[← hP];exact List.getElem?_set_self (by simpa using hgl)
  have pq:P[q]? = some (.box (zlf d u g (.d (.slice (zhn d.says))))):=by rw[← hP,List.getElem?_set_ne (Ne.symm hqg),List.getElem?_set_ne (Ne.symm hqu)];exact h
  have pk:∀(j:Nat) (y:AObj),j≠q->j≠u->j≠g→σ[j]? = some y->P[j]? = some y:=fun j y h1 h2 h3 hy=>by rw[← hP,List.getElem?_set_ne (Ne.symm h3),List.getElem?_set_ne (Ne.symm h2)];exact hy
  have pq2:∀τ,(P++τ)[q]? = _:=fun τ=>zi pq
  simp only[zlf,hw]at pq2
  have sq:∀τ Z,(P++τ).set q Z=P.set q Z++τ:=fun τ Z=>List.set_append_left _ _ (by omega)
  have sq2:∀τ Y Z,(P.set q Y++τ).set q Z=P.set q Z++τ:=fun τ Y Z=>by rw[List.set_append_left _ _ (by rw[List.length_set];omega),List.set_set]
  have zq:∀Z τ,(P.set q Z++τ)[q]? = some Z:=fun Z τ=>zi (List.getElem?_set_self (by omega))
  have gq:∀Z k τ,(P.set q Z++τ)[P.length+k]? = τ[k]?:=fun Z k τ=>by
   have:=zA (P.set q Z) τ k;rwa [List.length_set]at this
  have gq0:∀Z τ,(P.set q Z++τ)[P.length]? = τ[0]?:=fun Z τ=>by
   have:=zB (P.set q Z) τ;rw[List.length_set]at this;exact this
  obtain⟨d',hd'⟩:∃d':zjf,{ d with time:=d.time+1,waits:=true,s:=sg,says:=[],ticks:=0 }=d':=⟨_,rfl⟩
  rw[hd']at hK
  have bad:e≠0->∀τ,zxC (fun r s=>∃r' s',zqf [r] s [r'] s'∧K r' s') (some [.d (.slice []),.d (.int .i64 e)]) (P++τ):=fun hz τ=>by
   rw[if_pos hz,if_pos hz]at hK;exact zlj ⟨_,_,.refl _ _,hK _ (zi pu) (zi pg) (zi pq) fun j y a1 a2 a3 hy=>zi (pk j y a1 a2 a3 hy)⟩
  have good:e=0->∀τ,zxC (fun r s=>∃r' s',zqf [r] s [r'] s'∧K r' s') (some [.d (.slice [outD [sg]]),.d (.int .i64 0)]) (P.set q (.box (zlf d' u g (.exact [])))++τ):=fun hz τ=>by
   have hK2:=hK;rw[if_neg (by simpa using hz),if_neg (by simpa using hz),hz]at hK2;refine zlj ⟨_,P.set q (.box (zlf d' u g (.d (.slice []))))++τ,?_,hK2 _ (zi (zrd pu (by omega))) (zi (zrd pg (by omega))) ?_ fun j y a1 a2 a3 hy=>zi (zrd (pk j y a1 a2 a3 hy) (by omega))⟩
   ·refine .dataB q 15 _ (.exact []) [] (zq _ _) rfl rfl ?_;rw[sq2];exact .refl _ _
   ·rw[zq,← hd'];rfl
  have sd:zlf d' u g (.exact [])=[.d (.int .i64 d.f),.d (.int .i64 d.cl),.box u 0,.box g 0,.d (.int .i64 (d.time+1)),.d (.bool true),.d (.int .i64 sg.client),.d (.int .i64 sg.time),.d (.int .i64 sg.op.kind),.d (.str sg.op.topic),.d (.str sg.op.group),.d (.int .i64 sg.op.offset),.d (.slice (zdU sg.op.recs)),.d (.int .i64 sg.key),.d (.int .i64 sg.dig),
    .exact [],.d (.int .i64 0),.d (.int .i64 d.ls.client),.d (.int .i64 d.ls.time),.d (.int .i64 d.ls.op.kind),.d (.str d.ls.op.topic),.d (.str d.ls.op.group),.d (.int .i64 d.ls.op.offset),.d (.slice (zdU d.ls.op.recs)),.d (.int .i64 d.la),.d (.int .i64 d.lo),.d (.int .i64 d.many)]:=by rw[← hd']
  have hds:d'.s=sg:=by rw[← hd']
  refine zm (zd (show(zaN zev o != 0)=false by simpa using hc) (zd h2 hw1)) ?_
  refine⟨?_,?_⟩
  all_goals
   try refine zm (zd h2 hw1) ?_
   rw[← hreq]
   refine c_rqrSeal (x:=x) (zi hT) (zi hG) hug hL hg hsz ?_
   rw[hL',hG',hput,he,hsg]
   by_cases hz:e=0
   ·rw[hz]
    refine zdB (zd pq2 (zd sq (zd sq2 (zd zq (zd gq (zd gq0 (zd hw1 (zd @List.length_set.{0} (zd hPs (show((0:Int) != 0)=false from rfl)))))))))) ?_
    rw[← sd]
    refine c_xSend (d:=d') (zq _ _) ?_
    rw[hds]
    refine zG ?_
    exact good hz _
   ·refine zdB (zd (show(e != 0)=true by simpa using hz) hPs) ?_
    exact bad hz _
end
theorem sayD_eq (l:List (Int × Int × Int))(k a b:Int):sayD l k a b=zyp l k++[(k,a,b)]:=rfl
theorem othD_len (l:List (Int × Int × Int))(k:Int):(zyp l k).length<=l.length:=List.length_filter_le _ _
section
variable {σ:List AObj} {K:KT} {q u g N:Nat} {d:zjf} {sy:AV}
theorem c_xTakeG {L:List (List UInt8)}{G:List zI}{m:zbC}(hT:σ[u]? = some (rtO L))(hG:σ[g]? = some (rlO G))(hL:L.length<=1048576)(hg:G.length<=1073741824)(h:σ[q]? = some (.box (zlf d u g (.d (.slice (zhn d.says))))))
  (hm:zaI m) (hlen:d.says.length<=1000) (hI:PubI N d) (hN:N<=900000)
  (hK:∀S:List AObj,S[q]? = some (.box (zlf (takeP L G d m) u g (.d (.slice (zhn (takeP L G d m).says)))))->(∀(j:Nat) (y:AObj),j≠q→σ[j]? = some y->S[j]? = some y)->K (.d (.bool (zrK L G d m))) S) :
  zP zgx [.box q 0,zgi m] σ K:=by
 have h':∀τ,(σ++τ)[q]? = _:=fun τ=>zi h;have hf:=hI.f;have hmn:=hI.many;refine ACall.weaken ?_;refine zeS zjD.is rfl fun hl _=>zjD.goes ?_;have no:zic L G d m=false->∀τ,zxC (fun r s=>∃r' s',zqf [r] s [r'] s'∧K r' s') (some [.d (.bool false)]) (σ++τ):=fun ho τ=>by
  have e1:takeP L G d m=d:=by rw[takeP,if_neg (by rw[ho];simp)]
  have e2:zrK L G d m=false:=by rw[zrK,ho];rfl
  rw[e1,e2]at hK;exact zlj ⟨_,_,.refl _ _,hK _ (zi h) fun _ _ _ h=>zi h⟩
 simp only[zjJ,iN,bT,bF,eN,zl1];cases hw:d.waits with
 | false=>
  have h2:=h'
  simp only[zlf,hw]at h2
  refine zm (zd h2 (show(false==false)=true from rfl)) ?_
  exact no (by rw[zic,hw];rfl) _
 | true=>
 have h2:=h';simp only[zlf,hw]at h2;by_cases e1:m.kind=5;rotate_left
 ·refine zm (zd h2 (zd (show(m.kind != 5)=true by simpa using e1) (show(false==false)=true from rfl))) ?_;exact no (by simp[zic,e1]) _
 by_cases e2:m.client=d.cl;rotate_left
 ·refine zm (zd h2 (zd (show(m.kind != 5)=false by simpa using e1) (zd (show(m.client != d.cl)=true by simpa using e2) (show(false==false)=true from rfl)))) ?_;exact no (by simp[zic,e2]) _
 by_cases e3:m.time=d.time;rotate_left
 ·refine zm (zd h2 (zd (show(m.kind != 5)=false by simpa using e1) (zd (show(m.client != d.cl)=false by simpa using e2) (zd (show(m.time != d.time)=true by simpa using e3) (show(false==false)=true from rfl))))) ?_;exact no (by simp[zic,e3]) _
 refine zm (zd h2 (zd (show(m.kind != 5)=false by simpa using e1) (zd (show(m.client != d.cl)=false by simpa using e2) (zd (show(m.time != d.time)=false by simpa using e3) (show(false==false)=true from rfl))))) ?_;refine c_raValidG (zi hT) (zi hG) hL hg hm ?_;cases e4:zgk L G m
 ·refine zm (zd h2 (show(false==false)=true from rfl)) ?_;exact no (by simp[zic,e4]) _
 refine zm (zd h2 (show(false==false)=true from rfl)) ?_;refine c_rBrokers ?_;rw[show zgA 3 d.f=3*d.f+1 by rw[zgA,if_neg (by omega)]];by_cases e5:m.src<3*d.f+1;rotate_left
 ·refine zm (zd h2 (show decide (m.src≥3*d.f+1)=true by simp;omega)) ?_;exact no (by simp[zic];intros;omega) _
 have ho:zic L G d m=true:=by simp[zic,hw,e1,e2,e3,e4,e5]
 refine zm (zd h2 (show decide (m.src≥3*d.f+1)=false by simp;omega)) ?_;have hll:(zhn d.says).length=d.says.length:=List.length_map ..;refine zoD d.says.length (fun k vs S=>vs=[.own (σ.length+1) (zhn (zyp (d.says.take k) m.src)),.d (.int .i64 k)]/\S=σ++[zlh m,.tok 3 (zyp (d.says.take k) m.src).length]) (.tok 0 [] 3 rfl (by simp) (.refl _ _)) ⟨by simp[zyp],by simp[zyp]⟩ ?_;rintro k vs S hk ⟨rfl,rfl⟩;have hpl:(zhn (zyp (d.says.take k) m.src)).length=(zyp (d.says.take k) m.src).length:=List.length_map ..;have hfl:(zyp (d.says.take k) m.src).length<=k:=Nat.le_trans (othD_len _ _) (by simp;omega);by_cases hlt:k<d.says.length
 ·have hd:decide ((k:Int)<(d.says.length:Int))=true:=by simp;omega
  have hx:d.says[k]? = some d.says[k]:=by simp[hlt]
  have hgx:=zR (f:=fun e:Int × Int × Int=>[D.int .i64 e.1,D.int .i64 e.2.1,D.int .i64 e.2.2]) hx;obtain⟨e,he⟩:∃e,d.says[k]=e:=⟨_,rfl⟩;rw[he]at hx hgx;obtain⟨y1,y2,y3⟩:=e;have htk:zyp (d.says.take (k+1)) m.src=zyp (d.says.take k) m.src++zyp [(y1,y2,y3)] m.src:=by
   rw[List.take_add_one,hx];simp only[zyp,Option.toList_some,List.filter_append]
  by_cases h1:y1=m.src
  ·have e1:zyp [(y1,y2,y3)] m.src=[]:=by simp[zyp,h1]
   rw[e1,List.append_nil]at htk;refine zm (zd h2 (zd hd (zd hll (zd hgx (zd (show(y1 != m.src)=false by simpa using h1) (wkc k (by omega))))))) ?_;exact zaK.next hlt ⟨by rw[htk],by rw[htk]⟩
  ·have e1:zyp [(y1,y2,y3)] m.src=[(y1,y2,y3)]:=by simp[zyp,h1]
   rw[e1]at htk;refine zm (zd h2 (zd hd (zd hll (zd hgx (zd hpl (zd (show(y1 != m.src)=true by simpa using h1) (wkc k (by omega)))))))) ?_;exact zaK.next hlt ⟨by rw[htk];simp,by rw[htk];simp⟩
 have hd:decide ((k:Int)<(d.says.length:Int))=false:=by simp;omega
 rw[List.take_of_length_le (by omega)]at hpl hfl ⊢;obtain⟨y,hy⟩:∃y,sayD d.says m.src m.rerr m.roff=y:=⟨_,rfl⟩;have hX:zhn (zyp d.says m.src)++[[D.int .i64 m.src,.int .i64 m.rerr,.int .i64 m.roff]]=zhn y:=by rw[← hy,sayD_eq];simp
 have hyl:y.length<=1001:=by rw[← hy,sayD_eq];simp;omega
 have hql:=zaa h;have sq:∀τ Z,(σ++τ).set q Z=σ.set q Z++τ:=fun τ Z=>List.set_append_left _ _ (by omega);have sq2:∀τ Y Z,(σ.set q Y++τ).set q Z=σ.set q Z++τ:=fun τ Y Z=>by rw[List.set_append_left _ _ (by rw[List.length_set];omega),List.set_set]
 have zq:∀Z τ,(σ.set q Z++τ)[q]? = some Z:=fun Z τ=>zi (List.getElem?_set_self (by omega));have gq0:∀Z τ,(σ.set q Z++τ)[σ.length]? = τ[0]?:=fun Z τ=>by
  have:=zB (σ.set q Z) τ;rw[List.length_set]at this;exact this
 obtain⟨d1,hd1⟩:∃d1:zjf,{ d with says:=y }=d1:=⟨_,rfl⟩;have w1:d1.waits=true:=by rw[← hd1];exact hw
 have y1:d1.says=y:=by rw[← hd1]
 have f1:d1.f=d.f:=by rw[← hd1]
 have hmw:IntKind.i64.wrap (d.many+1)=d.many+1:=zaW (by omega) (by omega);have sd:zlf d1 u g (.d (.slice (zhn y)))=[.d (.int .i64 d.f),.d (.int .i64 d.cl),.box u 0,.box g 0,.d (.int .i64 d.time),.d (.bool true),.d (.int .i64 d.s.client),.d (.int .i64 d.s.time),.d (.int .i64 d.s.op.kind),.d (.str d.s.op.topic),.d (.str d.s.op.group),.d (.int .i64 d.s.op.offset),.d (.slice (zdU d.s.op.recs)),.d (.int .i64 d.s.key),.d (.int .i64 d.s.dig),
    .d (.slice (zhn y)),.d (.int .i64 d.ticks),.d (.int .i64 d.ls.client),.d (.int .i64 d.ls.time),.d (.int .i64 d.ls.op.kind),.d (.str d.ls.op.topic),.d (.str d.ls.op.group),.d (.int .i64 d.ls.op.offset),.d (.slice (zdU d.ls.op.recs)),.d (.int .i64 d.la),.d (.int .i64 d.lo),.d (.int .i64 d.many)]:=by rw[← hd1,zlf,hw]
 refine zm (zd h2 (zd hd (zd hll (zd hpl (zd hX (zd sq (zd sq2 (zd zq gq0)))))))) ?_;have sd2:zlf d1 u g (.own (σ.length+1) (zhn y))=(zlf d1 u g (.d (.slice (zhn y)))).set 15 (.own (σ.length+1) (zhn y)):=rfl;refine c_xVotesS (d:=d1) (u:=u) (g:=g) (sy:=.own (σ.length+1) (zhn y)) (.inr ⟨_,by rw[y1]⟩) (by rw[sd2,sd];exact zq _ _) (by rw[y1];omega) ?_;have hv:zvA d1 m.rerr m.roff=(zqj y m.rerr m.roff:Int):=by rw[zvA,if_pos w1,y1]
 rw[hv];refine zm (zd hpl (zd hX (zd sq (zd sq2 (zd zq gq0))))) ?_;refine c_rSmall ?_;rw[show zgA 1 d.f=d.f+1 by rw[zgA,if_neg (by omega),Int.one_mul]];cases hlt:decide ((zqj y m.rerr m.roff:Int)<d.f+1)
 ·have hB:zvG d m=true:=by rw[zvG,hy];simpa using hlt
  obtain⟨d2,hd2⟩:∃d2:zjf,{ d with says:=y,waits:=false,ls:=d.s,la:=m.rerr,lo:=m.roff,many:=d.many+1 }=d2:=⟨_,rfl⟩;have e1:takeP L G d m=d2:=by rw[takeP,if_pos ho,if_pos hB,hy,hd2]
  have e2:zrK L G d m=true:=by rw[zrK,hB,ho];rfl
  rw[e1,e2]at hK;refine zm (zd hlt (zd sq2 (zd zq (zd gq0 hmw)))) ?_;refine zlj ⟨_,σ.set q (.box (zlf d2 u g (.d (.slice (zhn y)))))++[zlh m,.tok 3 ((zyp d.says m.src).length+1)],?_,hK _ ?_ fun j y hj hy=>zi (zrd hy hj)⟩
  ·refine .dataB q 15 _ (.own (σ.length+1) (zhn y)) (zhn y) (zq _ _) rfl rfl ?_;rw[sq2,← hd2];exact .refl _ _
  ·rw[zq,← hd2]
 ·have hB:zvG d m=false:=by rw[zvG,hy];simpa using hlt
  have e1:takeP L G d m=d1:=by rw[takeP,if_pos ho,if_neg (by rw[hB];simp),hy,hd1]
  have e2:zrK L G d m=false:=by rw[zrK,hB,ho];rfl
  rw[e1,e2]at hK;refine zm hlt ?_;refine zlj ⟨_,σ.set q (.box (zlf d1 u g (.d (.slice (zhn y)))))++[zlh m,.tok 3 ((zyp d.says m.src).length+1)],?_,hK _ ?_ fun j y hj hy=>zi (zrd hy hj)⟩
  ·refine .dataB q 15 _ (.own (σ.length+1) (zhn y)) (zhn y) (zq _ _) rfl rfl ?_;rw[sq2,sd];exact .refl _ _
  ·rw[zq,y1]
end
abbrev repM (a n:Int):zbC:={ zeu with kind:=5,src:=a,client:=2,time:=1,roff:=n }
theorem zsT (a n:Int):zaI (repM a n):=by
 obtain⟨n1,n2,n3,n4,n5,n6,n7,n8,n9,n10⟩:=zvL;constructor<;>assumption
theorem zvy {m:zbC}{s:zI}(h:zaI m):zaI (withS m s):=by
 obtain⟨h1,h2,h3,h4,h5,h6,h7,h8,h9,h10⟩:=h;exact⟨h1,h2,h3,h4,h5,h6,h7,h8,h9,h10⟩
theorem sealX_ok {L:List (List UInt8)}{G:List zI}{m:zbC}(hk:m.kind=5)(h:(zeD L G m).e=0):(zeD L G m).m=withS m (sgnS L m.src (zdj m)):=by
 have hn:nilK m.kind=false:=by rw[hk];rfl
 have hw:∀s,zjR m s=withS m s:=fun s=>by rw[zjR,if_neg (by omega)]
 unfold zeD at h ⊢;split
 ·rename_i h1;rw[if_pos h1]at h;exact absurd h h1
 ·rename_i h1;rw[if_neg h1,if_neg (by rw[hn];simp)]at h;rw[if_neg (by rw[hn];simp)];split
  ·rename_i h2;rw[if_pos h2]at h;exact absurd h h2
  ·exact hw _
section
variable {σ:List AObj} {K:KT}
theorem c_b1 {i:TGi}{L:List (List UInt8)}{G:List zI}{a n:Int}{c d m q sn:Nat}{s:zr}{ticks:Int}{la:List (List D)}{many:Int}{sy:List (Int × Int × Int)}
  (h:TG i σ L G) (hL:zmI L) (hg:G.length<=1000000) (hc:σ[c]? = some (.box [.box i.id 0])) (hd:σ[d]? = some (.box [.box i.id2 0])) (hm:σ[m]? = some (.box [.box q 0]))
  (hq:σ[q]? = some (.box (zna 1 2 i.id i.id2 1 [s] (.map sn) ticks la many))) (hs:σ[sn]? = some (.map (zde sy))) (hb:sy.length<=900000) (hmn:0<=many/\many<=1000000) (ha:a<4)
  (hk1:c≠i.id/\c≠i.m/\c≠i.t/\c≠i.id2/\c≠i.m2/\c≠i.t2) (hk2:d≠i.id/\d≠i.m/\d≠i.t/\d≠i.id2/\d≠i.m2/\d≠i.t2) (hk3:m≠i.id/\m≠i.m/\m≠i.t/\m≠i.id2/\m≠i.m2/\m≠i.t2)
  (hk4:q≠i.id/\q≠i.m/\q≠i.t/\q≠i.id2/\q≠i.m2/\q≠i.t2) (hk5:sn≠i.id/\sn≠i.m/\sn≠i.t/\sn≠i.id2/\sn≠i.m2/\sn≠i.t2)
  (he:(zeD L G (repM a n)).e=0) (hL2:zmI (zeD L G (repM a n)).L) (hg2:(zeD L G (repM a n)).G.length<=1000000) (hv:zgk (zeD L G (repM a n)).L (zeD L G (repM a n)).G (zeD L G (repM a n)).m=true)
  (hK0:(zqj (zht sy a 0 n) 0 n:Int)<2->∀S,TG i S (zeD L G (repM a n)).L (zeD L G (repM a n)).G->S[q]? = some (.box (zna 1 2 i.id i.id2 1 [s] (.map sn) ticks la many))->S[sn]? = some (.map (zde (zht sy a 0 n)))->(∀(j:Nat) (y:AObj),j≠q->j≠sn->(j≠i.id/\j≠i.m/\j≠i.t/\j≠i.id2/\j≠i.m2/\j≠i.t2)→σ[j]? = some y->S[j]? = some y)->K (.d (.bool false)) S)
  (hK1:¬(zqj (zht sy a 0 n) 0 n:Int)<2->∀S,S[q]? = some (.box (zna 1 2 i.id i.id2 1 [] (.d .nilmap) ticks [ansD s 0 n] (many+1)))->(∀(j:Nat) (y:AObj),j≠q->j≠sn->(j≠i.id/\j≠i.m/\j≠i.t/\j≠i.id2/\j≠i.m2/\j≠i.t2)→σ[j]? = some y->S[j]? = some y)->K (.d (.bool true)) S) :
  zP zgh [.d (.int .i64 a),.d (.int .i64 n),.box c 0,.box d 0,.box m 0] σ K:=by
 refine zeS zsn.is rfl fun hl _=>zsn.goes ?_;simp only[zsG,iN,bT,bF,eN,zl3];have hM:=sealX_ok (m:=repM a n) rfl he;obtain⟨R,hR⟩:∃R,zeD L G (repM a n)=R:=⟨_,rfl⟩;have hms:zaI R.m:=by rw[← hR,hM];exact zvy (zsT a n)
 have k1:R.m.kind=5:=by rw[← hR,hM]
 have k2:R.m.client=2:=by rw[← hR,hM]
 have k3:R.m.time=1:=by rw[← hR,hM]
 have k4:R.m.src=a:=by rw[← hR,hM]
 have k5:R.m.rerr=0:=by rw[← hR,hM];rfl
 have k6:R.m.roff=n:=by rw[← hR,hM]
 refine zm (zd hc hd) ?_;refine c_auSealG (m:=repM a n) h hL (by omega) (zsT a n) ?_;rw[hR]at he hL2 hg2 hv hK0 ⊢;rw[he];obtain⟨S,hS⟩:∃S,zho i σ R.L R.G=S:=⟨_,rfl⟩;have hT:TG i S R.L R.G:=by rw[← hS];exact h.put _ _
 have c':∀τ,(S++τ)[c]? = some (.box [.box i.id 0]):=fun τ=>zi (by rw[← hS,TG.other hk1];exact hc);have d':∀τ,(S++τ)[d]? = some (.box [.box i.id2 0]):=fun τ=>zi (by rw[← hS,TG.other hk2];exact hd);have m':∀τ,(S++τ)[m]? = some (.box [.box q 0]):=fun τ=>zi (by rw[← hS,TG.other hk3];exact hm);have q':∀τ,(S++τ)[q]? = some (.box (zna 1 2 i.id i.id2 1 [s] (.map sn) ticks la many)):=fun τ=>zi (by rw[← hS,TG.other hk4];exact hq);have s':∀τ,(S++τ)[sn]? = some (.map (zde sy)):=fun τ=>zi (by rw[← hS,TG.other hk5];exact hs);rw[hS];refine zm (zd m' (show((0:Int)==0)=true from rfl)) ?_;obtain⟨X,hX⟩:∃X,AObj.box (msgL R.m)=X:=⟨_,rfl⟩;rw[hX];have nes:=hT.ne;have qs:q≠sn:=fun e=>by rw[e,hs]at hq;cases hq
 have hsl:=zaa (s' [X]);have hql:=zaa (q' [X]);have kp:∀(j:Nat) (y:AObj),(j≠i.id/\j≠i.m/\j≠i.t/\j≠i.id2/\j≠i.m2/\j≠i.t2)→σ[j]? = some y->(S++[X])[j]? = some y:=fun j y hj hy=>zi (by rw[← hS,TG.other hj];exact hy);refine c_pTake (m:=R.m) (q' _) (s' _) hb (fun τ K hk=>?_) k1 k2 k3 (by omega) (by rw[k4];omega) hmn (fun hlt=>?_) fun hlt=>?_
 ·refine zyW (M:=R.m) ((hT.app _).app _).tab ((hT.app _).app _).led hL2 (by omega) hms ?_;rw[hv];exact hk
 ·rw[k4,k5,k6]at hlt ⊢;refine zG ?_;refine zlj (hK0 hlt _ ?_ ?_ ?_ fun j y b1 b2 b3 hy=>?_)
  ·have h2:=hT.app [X];refine⟨⟨?_,?_,?_⟩,⟨?_,?_,?_⟩,h2.n1,h2.n2⟩
   ·rw[List.getElem?_set_ne hk5.1];exact h2.tab.box
   ·rw[List.getElem?_set_ne hk5.2.1];exact h2.tab.map
   ·rw[List.getElem?_set_ne hk5.2.2.1];exact h2.tab.tok
   ·rw[List.getElem?_set_ne hk5.2.2.2.1];exact h2.led.box
   ·rw[List.getElem?_set_ne hk5.2.2.2.2.1];exact h2.led.map
   ·rw[List.getElem?_set_ne hk5.2.2.2.2.2];exact h2.led.tok
  ·rw[List.getElem?_set_ne (Ne.symm qs)];exact q' _
  ·exact List.getElem?_set_self hsl
  ·rw[List.getElem?_set_ne (Ne.symm b2)];exact kp j y b3 hy
 ·rw[k4,k5,k6]at hlt ⊢;refine zG ?_;refine zlj (hK1 hlt _ (List.getElem?_set_self (by simpa using hql)) fun j y b1 b2 b3 hy=>?_);rw[List.getElem?_set_ne (Ne.symm b1),List.getElem?_set_ne (Ne.symm b2)];exact kp j y b3 hy
end
end Go.Proofs.YtdgcepphjnoalaaGreat
