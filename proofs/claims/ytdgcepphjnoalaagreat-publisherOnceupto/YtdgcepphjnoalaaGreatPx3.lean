/- Contracts: what a publisher tells; the program's. -/
import Derived.Test.YtdgcepphjnoalaaGreatHi1
import Derived.Test.YtdgcepphjnoalaaGreatPp1
import Derived.Test.YtdgcepphjnoalaaGreatId3
set_option linter.all false
set_option maxRecDepth 100000
namespace Go.Proofs.YtdgcepphjnoalaaGreat
open Go.AW
variable {σ:List AObj}
section
variable {σ:List AObj} {K:KT} {p t l n N:Nat} {d:zib} {x:AV}
theorem c_pLastG (h:σ[p]? = some (.box (zmm d t l x)))(hI:PubI N d)(hK:K (.tup [ansA d.ls d.la d.lo,.d (.bool (decide (d.many>0)))]) σ):zP zbP [.box p 0] σ K:=by
 by_cases hm:d.many=0;rotate_left
 ·have hl:zlc d=[ansD d.ls d.la d.lo]:=by rw[zlc,if_neg hm]
  have:=hI.many;rw[show decide (d.many>0)=true by simp;omega]at hK;rw[zmm,hl]at h;exact c_pLast h hI.lo.1 hI.lo.2 hK
 have hl:zlc d=[]:=by rw[zlc,if_pos hm]
 obtain⟨z1,z2,z3⟩:=hI.z hm;rw[show decide (d.many>0)=false by simp;omega,z1,z2,z3]at hK;rw[zmm,hl]at h;have h':∀τ,(σ++τ)[p]? = _:=fun τ=>zi h;refine zez zgj fun hl=>?_;simp only[zdU,iN,bT,bF,eN,zl1];refine zG ?_;refine zfR (h' _) ?_;refine zkZ (zd h' (show((0:Int)==0)=true from rfl)) ?_;refine zu hl ?_;exact hK
theorem c_pWaitsG (h:σ[p]? = some (.box (zmm d t l x)))(hI:PubI N d)(hK:K (.tup [zjj (if d.waits=true then d.s else zsL),.d (.bool d.waits)]) σ):zP zcr [.box p 0] σ K:=by
 cases hw:d.waits with
 | true=>
  rw[hw,if_pos rfl]at hK
  rw[zmm,zlF,hw,if_pos rfl]at h
  have h':∀τ,(σ++τ)[p]? = _:=fun τ=>zi h
  refine zez zfN fun hl=>?_
  simp only[zdM,iN,bT,bF,eN,zl1]
  refine zG ?_
  refine zfR (h' _) ?_
  refine zkZ (zd h' (zd (show((1:Int)==0)=false from rfl) @List.length_cons.{0})) ?_
  refine zkH (b:=[d.s]) ⟨by simp,fun s hs=>by simp only[List.mem_singleton]at hs;subst hs;exact hI.so⟩ ?_
  refine gq31 ?_
  refine zu hl ?_
  exact hK
 | false=>
  rw[hw,if_neg (by simp)]at hK
  rw[zmm,zlF,hw,if_neg (by simp)]at h
  have h':∀τ,(σ++τ)[p]? = _:=fun τ=>zi h
  refine zez zfN fun hl=>?_
  simp only[zdM,iN,bT,bF,eN,zl1]
  refine zG ?_
  refine zfR (h' _) ?_
  refine zkZ (zd h' (show((0:Int)==0)=true from rfl)) ?_
  refine zu hl ?_
  exact hK
theorem pubP_low {d d':zib}{k:Nat}(hl:zhl k σ)(h:σ[p]? = some (.box (zmm d t l x))):ztL k (.box (zmm d' t l x)):=by
 intro c hc;have hb:=hl p _ h c;simp only[zmm,List.mem_cons,List.not_mem_nil,or_false]at hc;rcases hc with rfl|rfl|rfl|rfl|rfl|rfl|rfl|rfl|rfl|rfl|rfl;all_goals first
  | exact .d _
  | exact hb (by simp)
theorem c_pTickG (h:σ[p]? = some (.box (zmm d t l x)))(hI:PubI N d)(hN:N<=900000)(hK:K (.d (.slice (zog d))) (σ.set p (.box (zmm (zfY d) t l x)))):zP zcH [.box p 0] σ K:=by
 refine zja zgi.is rfl fun hl _=>zgi.goes ?_;have hp:=zY h;have ht:=hI.ticks;have hw:IntKind.i64.wrap (d.ticks+1)=d.ticks+1:=zaQ (by omega) (by omega);have hlw:ztL σ.length (.box (zmm (zfY d) t l x)):=pubP_low hl h;have z:∀Y τ,(σ.set p Y++τ)[p]? = some Y:=fun Y τ=>zi (List.getElem?_set_self hp);have z0:∀Y,(σ.set p Y)[p]? = some Y:=fun Y=>List.getElem?_set_self hp;obtain⟨B,hB⟩:∃B,AObj.box (zmm (zfY d) t l x)=B:=⟨_,rfl⟩;have done:∀r,r=AV.d (.slice (zog d))->∀τ,EndsW σ.length K (some [r]) (σ.set p (.box (zmm (zfY d) t l x))++τ):=by
  rintro r rfl τ;exact ziL (zeL (by simp[zha,dmT,dm,dm1,zcm]) hl hlw hK)
 have done0:∀r,r=AV.d (.slice (zog d))->EndsW σ.length K (some [r]) (σ.set p (.box (zmm (zfY d) t l x))):=fun r hr=>by simpa using done r hr []
 simp only[zgm,iN,bT,bF,eN];refine zG ?_;refine zfR h ?_;have hB':∀τ,(σ.set p B++τ)[p]? = some (.box (zmm (zfY d) t l x)):=fun τ=>by rw[hB];exact z _ _
 cases hwt:d.waits with
 | false=>
  have e1:zlF d=[]:=by rw[zlF,hwt,if_neg (by simp)]
  have e2:zog d=[]:=by rw[zog,if_neg (by rw[hwt];simp)]
  rw[zmm,e1]at h
  refine zkZ (zd h (zd hw (zd z0 (show((0:Int)==0)=true from rfl)))) ?_
  have:=done0 (.d (.slice [])) (by rw[e2])
  rw[zmm,show zlF (zfY d)=[]from e1]at this
  exact this
 | true=>
  have e1:zlF d=[d.s]:=by rw[zlF,hwt,if_pos rfl]
  rw[zmm,e1]at h
  cases hr:((d.ticks+1).tmod 4 != 0)
  ·have e2:zog d=[outD [d.s]]:=by rw[zog,if_pos ⟨hwt,by simpa using hr⟩]
   refine zkZ (zd h (zd hw (zd z0 (zd hr (zd (show((1:Int)==0)=false from rfl) @List.length_cons.{0}))))) ?_
   refine zvc (w:=[d.s]) (z0 _) ⟨by simp,fun s hs=>by simp only[List.mem_singleton]at hs;subst hs;exact hI.so⟩ ?_
   have:=done0 (.d (.slice [outD [d.s]])) (by rw[e2])
   rw[zmm,show zlF (zfY d)=[d.s]from e1]at this
   refine zG ?_
   exact this
  ·have e2:zog d=[]:=by rw[zog,if_neg (fun hc=>by simp at hr;exact hr hc.2)]
   refine zkZ (zd h (zd hw (zd z0 (zd hr (zd (show((1:Int)==0)=false from rfl) @List.length_cons.{0}))))) ?_
   have:=done0 (.d (.slice [])) (by rw[e2])
   rw[zmm,show zlF (zfY d)=[d.s]from e1]at this
   exact this
end
def Off (i:TGi) (j:Nat):Prop:=j≠i.id/\j≠i.m/\j≠i.t/\j≠i.id2/\j≠i.m2/\j≠i.t2
theorem SyAt.keep {σ S:List AObj}{d:zib}{x:AV}{n:Nat}(h:SyAt σ d x n)(hk:∀y,σ[n]? = some y->S[n]? = some y):SyAt S d x n:=
 ⟨fun hw=>by obtain⟨h1,sy,h2,h3⟩:=h.yes hw;exact⟨h1,sy,hk _ h2,h3⟩,fun hw=>(h.no hw).imp id fun h=>⟨h.1,hk _ h.2⟩⟩
section
variable {σ:List AObj} {K:KT} {p n N:Nat} {d:zib} {x:AV}
theorem c_pAskG {i:TGi}{L:List (List UInt8)}{G:List zI}{o:TOp}(h:TG i σ L G)(hL:zmF L)(hg:G.length<=1073741824)(hp:σ[p]? = some (.box (zmm d i.id i.id2 x)))(hpk:Off i p)(hnk:Off i n)(hnp:n≠p)
  (hos:zmT o<=20971520) (ho:okO o) (hI:PubI N d) (hN:N<=900000) (hx:SyAt σ d x n)
  (hK:∀(S:List AObj) (x':AV) (n':Nat),TG i S (zAF L d o) (zAG L G d o)->S[p]? = some (.box (zmm (zrx L d o) i.id i.id2 x'))->SyAt S (zrx L d o) x' n'→n'≠p->(n'=n∨(σ.length<=n'∧n'<S.length)) →
   (∀(j:Nat) (y:AObj),j≠p->Off i j→σ[j]? = some y->S[j]? = some y)->K (.tup [.d (.slice (zzb L d o)),.d (.int .i64 (zwY L d o))]) S) :
  zP zaM [.box p 0,opA o] σ K:=by
 cases hw:d.waits with
 | true=>
  have e0:zwY L d o=240:=by rw[zwY,if_pos hw]
  have e1:zAF L d o=L:=by rw[zAF,if_pos hw]
  have e2:zAG L G d o=G:=by rw[zAG,if_pos hw]
  have e3:zrx L d o=d:=by rw[zrx,e0,if_pos (by decide)]
  have e4:zzb L d o=[]:=by rw[zzb,e0,if_pos (by decide)]
  rw[e0,e1,e2,e3,e4]at hK
  have hp':=hp
  rw[zmm,zlF,hw,if_pos rfl]at hp'
  exact c_pAskBusy hp' (hK σ x n h hp hx hnp (.inl rfl) fun _ _ _ _ h=>h)
 | false=>
  have hp':=hp
  rw[zmm,zlF,hw,if_neg (by simp)]at hp'
  have ht:=hI.time
  by_cases hc:zaN zef o=0
  rotate_left
  ·have e0:zwY L d o=zaN zef o:=by rw[zwY,if_neg (by rw[hw];simp),if_pos hc]
   have e1:zAF L d o=L:=by rw[zAF,if_neg (by rw[hw];simp),if_pos hc]
   have e2:zAG L G d o=G:=by rw[zAG,if_neg (by rw[hw];simp),if_pos hc]
   have e3:zrx L d o=d:=by rw[zrx,e0,if_pos hc]
   have e4:zzb L d o=[]:=by rw[zzb,e0,if_pos hc]
   rw[e0,e1,e2,e3,e4]at hK
   exact c_pAskBad hp' ho hc (hK σ x n h hp hx hnp (.inl rfl) fun _ _ _ _ h=>h)
  have e0:zwY L d o=zjM L (zxC d o):=by rw[zwY,if_neg (by rw[hw];simp),if_neg (by simpa using hc)]
  have e1:zAF L d o=zoh L (zxC d o):=by rw[zAF,if_neg (by rw[hw];simp),if_neg (by simpa using hc)]
  have e2:zAG L G d o=zpO L G (zxC d o):=by rw[zAG,if_neg (by rw[hw];simp),if_neg (by simpa using hc)]
  by_cases hs:zjM L (zxC d o)=0
  rotate_left
  ·have e3:zrx L d o=d:=by rw[zrx,e0,if_pos hs]
   have e4:zzb L d o=[]:=by rw[zzb,e0,if_pos hs]
   rw[e0,e1,e2,e3,e4]at hK
   exact c_pAskErr h hL hg hp' hos ho hc (by omega) hs (hK _ x n (h.put _ _) (by rw[TG.other hpk];exact hp) (hx.keep fun y hy=>by rw[TG.other hnk];exact hy) hnp (.inl rfl) fun j y _ hj hy=>by rw[TG.other hj];exact hy)
  have e3:zrx L d o={ d with time:=d.time+1,waits:=true,s:=zeT L (zxC d o),says:=[],ticks:=0 }:=by rw[zrx,e0,if_neg (by simpa using hs)]
  have e4:zzb L d o=[outD [zeT L (zxC d o)]]:=by rw[zzb,e0,if_neg (by simpa using hs)]
  rw[e0,hs,e1,e2,e3,e4]at hK
  refine c_pAsk h hL hg hp' hpk hos ho hc (by omega) hs fun S n' hq hn hT hne hle hkp=>hK S (.map n') n' hT hq ⟨fun _=>⟨rfl,_,hn,.nil⟩,fun h=>by cases h⟩ hne (.inr ⟨hle,zY hn⟩) fun j y hj ho hy=>hkp j y hj ho.1 ho.2.1 ho.2.2.1 ho.2.2.2.1 ho.2.2.2.2.1 ho.2.2.2.2.2 hy
end
theorem zyB {k:Int}:∀ {l:List (Int × Int × Int)} {i:Nat},(∀e∈l,e.1≠k)->fsay k l i=none
 | [],_,_=>rfl
 | e::r,i,h=>by
  simp only[fsay];rw[if_neg (fun hc=>h e (by simp) hc.symm)];exact zyB fun x hx=>h x (by simp[hx])
theorem seen_fresh {bs seen:List Nat}{sy ys:List (Int × Int × Int)}(h:zls bs sy seen ys)(hn:(sy.map (·.1)).Nodup){j b:Nat}{y:Int × Int × Int}(hb:bs[j]? = some b)(hy:sy[j]? = some y)(hs:b∉seen):∀e∈ys,e.1≠y.1:=by
 intro e he hk;obtain⟨k,hk2⟩:=List.mem_iff_getElem?.1 he;have hl:=(List.getElem?_eq_some_iff.1 hk2).1;rw[← h.1]at hl;obtain⟨i,h1,h2⟩:=h.2 k _ e (List.getElem?_eq_getElem hl) hk2;have hil:=(List.getElem?_eq_some_iff.1 h2).1;have e1:(sy.map (·.1))[i]? = some e.1:=by rw[List.getElem?_map,h2];rfl
 have e2:(sy.map (·.1))[j]? = some e.1:=by rw[List.getElem?_map,hy,hk];rfl
 have:i=j:=(List.getElem?_inj (by simpa using hil) hn).1 (e1.trans e2.symm);subst this;rw[hb]at h1;cases h1;exact hs (List.getElem_mem hl)
section
variable {σ:List AObj} {K:KT} {p t l n N:Nat} {d:zib} {x:AV}
theorem gq40 {A P Q:Prop}(a:A)(h:Q)(e:A->Hd Q->P:=by intro a h;(repeat' first|simp -dsimp only[↓zmg,↓zcf,↓zep,↓zmh,↓zmb,↓zlZ,↓zmc,↓zma,↓zeu,↓zeq,↓zev,↓zer,↓zmd,↓zeo,↓zew,↓zes,↓zex,↓zet,↓zlY,↓zmf,↓zen,↓zey,↓zlW,↓zlV,↓zlX,iN,bT,bF,eN,↓zeO,↓unC,↓zaE,↓zan,↓zao,↓zaA,↓zbf,↓zah,↓zgR,↓zaz,↓zbe,↓zae,↓ze,↓zl,↓zbc,↓zc,↓zaY,↓zM,↓zce,↓zcB,↓zf,↓zF,↓zr,↓zN,↓zaC,↓zgY,↓zhU,↓zbi,↓zbJ,↓zcj,↓zcM,↓zdG,↓zL,↓zbh,↓zap,↓zR,↓zbb,zhS,zdY,zdS,unA,zgE,bnd,zjr,zaP,zK,ziD,dm,dm1,zH,zaI,zkw,zkv,keepO,Q0,Q1,Q2,Q3,Q4,Q5,zbg,zA,zC,zZ,zad,Q6,Q7,Q8,Q9,Q10,Q11,Q12,Q13,Q14,Nat.reduceAdd,Q15,Int.reduceToNat,Q16,Q17,Q18,Q19,Q20,reduceIte,Q21,Q22,zy,rep,zaq,zil,toD,zaD,Q23,Q24,Q25,Q26,Q27,Q28,Nat.reduceLeDiff,Q29,Nat.reduceSub,Q30,Q31,Q32,sc,Q33,Q34,Q35,Q36,Q37,Q26,Q38,Q39,zvP,zvM,zvJ,zvQ,zkt,zvN,zvK,zvO,zvL,zks,zku,zwb,zwc,Bool.not_true,Bool.not_false,List.length_map,Bool.and_false,Bool.and_self,Bool.false_and,Bool.not_false,Bool.not_true,Bool.true_and,Int.toNat_natCast,Int.toNat_zero,List.drop_zero,List.length_map,List.length_nil,List.nil_append,List.take_length,Nat.sub_zero,Nat.zero_add,Option.isSome_none,Option.isSome_some,Option.map_none,Option.map_some,ansD,zaj,beq_self_eq_true,bft,bne_self_eq_false,btf,bytesE,zck,zhJ,zag,zdg,zrY,zcl,zor,opA,opD,outD,zfx,zgo,zjj,zaw,a]|with_reducible refine zxa ?_|fail);exact h.go):P:=e a ⟨h⟩
theorem c_pCloneG (h:σ[p]? = some (.box (zmm d t l x)))(hI:PubI N d)(hx:SyAt σ d x n)
  (hK:∀(S:List AObj) (p' n':Nat),S[p']? = some (.box (zmm d t l (.map n')))->SyAt S d (.map n') n'→σ.length<=p'→σ.length<=n'→n'≠p'→(∀(j:Nat) (y:AObj),σ[j]? = some y->S[j]? = some y)->K (.box p' 0) S) :
  zP zdB [.box p 0] σ K:=by
 refine ACall.weaken ?_;refine zeP zfO.is rfl fun hl _=>zfO.goes ?_;have h':∀τ,(σ++τ)[p]? = _:=fun τ=>zi h;have hsm:zgv (zlF d):=by
  unfold zlF;split
  ·exact⟨by simp,fun s hs=>by simp only[List.mem_singleton]at hs;subst hs;exact hI.so⟩
  ·exact⟨by simp,by simp⟩
 have hcase:(x=.d .nilmap/\d.waits=false)∨(x=.map n/\∃sy,σ[n]? = some (.map (zdd sy))/\sy.length<=13/\(sy.map (·.1)).Nodup/\∀ys,ys.Perm sy->(d.waits=true->SayI ys d.says)/\(d.waits=false->ys=[])):=by
  cases hw:d.waits with
  | true=>
   obtain⟨h1,sy,h2,h3⟩:=hx.yes hw
   exact .inr ⟨h1,sy,h2,h3.len,h3.nd,fun ys hp=>⟨fun _=>⟨hp.trans h3.perm,(hp.map _).nodup_iff.2 h3.nd,fun e he=>h3.key e (hp.mem_iff.1 he)⟩,fun h=>by cases h⟩⟩
  | false=>
   rcases hx.no hw with h1|⟨h1,h2⟩
   ·exact .inl ⟨h1,rfl⟩
   ·exact .inr ⟨h1,[],h2,by simp,.nil,fun ys hp=>⟨fun h=>(by cases h),fun _=>hp.eq_nil⟩⟩
 obtain⟨R,hR⟩:∃R:AV->List AV,(fun y=>[AV.d (.bool true),.d (.int .i64 d.f),.d (.int .i64 d.cl),.box t 0,.box l 0,.d (.int .i64 d.time),.d (.slice (zbA (zlF d))),.map (σ.length+1),.d (.int .i64 d.ticks),y,.d (.int .i64 d.many)])=R:=⟨_,rfl⟩;have fin:∀(ys:List (Int × Int × Int)) (y:AV) (T:List AObj),(d.waits=true->SayI ys d.says)/\(d.waits=false->ys=[])->(∃o,y=.own o (zlc d)) →
   zxy (fun r s=>∃r' s',zqb [r] s [r'] s'∧K r' s') (some [.box σ.length 0]) (σ++AObj.box (R y)::AObj.map (zdd ys)::T):=fun ys y T hq hy=>by
  have g0:(σ++AObj.box (R y)::AObj.map (zdd ys)::T)[σ.length]? = some (.box (R y)):=by rw[zC];rfl
  have e1:(σ++AObj.box (R y)::AObj.map (zdd ys)::T).set σ.length (.box ((R y).set 9 (.d (.slice (zlc d)))))=σ++AObj.box (zmm d t l (.map (σ.length+1)))::AObj.map (zdd ys)::T:=by
   rw[zad,← hR];rfl
  have g1:(σ++AObj.box (zmm d t l (.map (σ.length+1)))::AObj.map (zdd ys)::T)[σ.length+1]? = some (.map (zdd ys)):=by rw[zA];rfl
  refine zld ⟨_,σ++AObj.box (zmm d t l (.map (σ.length+1)))::AObj.map (zdd ys)::T,?_,hK _ σ.length (σ.length+1) (by rw[zC];rfl) ⟨fun hw=>⟨rfl,ys,g1,hq.1 hw⟩,fun hw=>.inr ⟨rfl,by rw[g1,hq.2 hw]⟩⟩ (by omega) (by omega) (by omega) fun j y hy=>zi hy⟩;obtain⟨o,rfl⟩:=hy;refine .dataB σ.length 9 _ (.own o (zlc d)) (zlc d) g0 (by rw[← hR];rfl) rfl ?_;rw[e1];exact .refl _ _
 have tail:∀(ys:List (Int × Int × Int)) (T:List AObj),(d.waits=true->SayI ys d.says)/\(d.waits=false->ys=[]) →
   (nfl 9 (.box p 0) (σ++AObj.box (R (.d (.slice (zlc d))))::AObj.map (zdd ys)::T) fun D s=>zN 9 104 (.exact []) D s fun E s=>zc 9 (.box σ.length 0) s fun F s=>zl 1 F E s fun _ s=>
    z1 (zxy fun r s=>∃r' s',zqb [r] s [r'] s'∧K r' s') (.box σ.length 0) s):=fun ys T hq=>by
  have fin:=fin ys;subst hR;cases hla:decide (d.many=0)
  ·have e:zlc d=[ansD d.ls d.la d.lo]:=by rw[zlc,if_neg (by simpa using hla)]
   rw[e]at fin;refine gq40 (zd h' (zd e @List.length_cons.{0})) ?_;exact fin _ _ hq ⟨_,rfl⟩
  ·have e:zlc d=[]:=by rw[zlc,if_pos (by simpa using hla)]
   rw[e]at fin;refine zkZ (zd h' e) ?_;exact fin _ _ hq ⟨_,rfl⟩
 have h0:=h;rcases hcase with⟨rfl,hw⟩|⟨rfl,sy,hn,hle,hnd,hsy⟩
 ·simp only[zdN,iN,bT,bF,eN];refine zG ?_;refine zfR h0 ?_;refine zm (zd h h') ?_;refine zkH (b:=zlF d) hsm ?_;refine zm h' ?_;simp only[zlI];have r2:∀B C:AObj,(σ++[B,C]++[AObj.mit none 0 []])[σ.length+2]? = some (.mit none 0 []):=fun B C=>by rw[List.append_assoc,zA];rfl
  refine zn 0 (fun k vs S=>vs=[]/\S=σ++[.box (R (.d (.slice (zlc d)))),.map []]++[.mit none 0 []]) ⟨rfl,by rw[← hR]⟩ ?_;rintro k vs S hk ⟨rfl,rfl⟩;have el:∀B C:AObj,(σ++[B,C]).length=σ.length+2:=fun B C=>by simp
  simp only[el,zqk,r2,zL];have tl:=tail [] [.mit none 0 []] ⟨fun h=>(by rw[hw]at h;cases h),fun _=>rfl⟩;have eS:σ++[AObj.box (R (.d (.slice (zlc d)))),.map []]++[.mit none 0 []]=σ++AObj.box (R (.d (.slice (zlc d))))::AObj.map (zdd [])::[.mit none 0 []]:=by simp
  rw[eS];simp only[zf,List.getElem?_cons_zero,zaE,zR];exact tl
 ·simp only[zdN,iN,bT,bF,eN];refine zG ?_;refine zfR h0 ?_;refine zm (zd h h') ?_;refine zkH (b:=zlF d) hsm ?_;refine zm h' ?_;simp only[zlI];have hnl:=zY hn;have hn':∀τ,(σ++τ)[n]? = some (.map (zdd sy)):=fun τ=>zi hn;have hlen:(zdd sy).length=sy.length:=List.length_map ..;simp only[hn'];intro c bs hbl hbn;rw[hlen]at hbl;obtain⟨B,hB⟩:∃B,AObj.box (R (.d (.slice (zlc d))))=B:=⟨_,rfl⟩;refine zn sy.length (fun k vs S=>∃seen ys T,vs=[]/\seen.length=k/\zls bs sy seen ys/\seen.Nodup/\S=(σ.set n (.mapr c bs (zdd sy))++B::.map (zdd ys)::.mit (some n) c seen::T)) ⟨[],[],[],rfl,rfl,.nil,.nil,by rw[List.set_append_left _ _ hnl,← hB,← hR];simp⟩ ?_;rintro k vs S hk ⟨seen,ys,T,rfl,rfl,hS,hsn,rfl⟩;obtain⟨ρ,hρ⟩:∃ρ,σ.set n (.mapr c bs (zdd sy))=ρ:=⟨_,rfl⟩;have hρl:ρ.length=σ.length:=by rw[← hρ];simp
  have r1:∀τ,(ρ++τ)[n]? = some (.mapr c bs (zdd sy)):=fun τ=>zi (by rw[← hρ];exact List.getElem?_set_self hnl);have r2:∀X Y τ,(ρ++B::X::Y::τ)[σ.length+2]? = some Y:=fun X Y τ=>by rw[← hρl,zA];rfl
  have el:∀B C:AObj,(σ++[B,C]).length=σ.length+2:=fun B C=>by simp
  rw[hρ];simp only[el,zqk,r1,r2,zL];refine⟨trivial,fun hall=>?_,fun j b1 e hb1 he hnb=>?_⟩
  ·have hp:=hS.perm hsn hbn hbl hall;have tl:=tail ys (.mit (some n) c seen::T) (hsy ys hp);have eS:(ρ++B::AObj.map (zdd ys)::AObj.mit (some n) c seen::T).set n (.map (zdd sy))=σ++AObj.box (R (.d (.slice (zlc d))))::AObj.map (zdd ys)::.mit (some n) c seen::T:=by
    rw[List.set_append_left _ _ (by omega),← hρ,List.set_set,zbS hn,hB]
   rw[eS];simp only[zf,List.getElem?_cons_zero,zaE,zR];exact tl
  ·obtain⟨⟨key,x1,x2⟩,hx2,rfl⟩:=says_get he;have hlt:seen.length<sy.length:=by
    have:=hS.lt hsn hbl (List.mem_of_getElem? hb1) hnb;rw[hS.1];exact this
   have hs2:∀τ,(ρ++B::AObj.map (zdd ys)::AObj.mit (some n) c seen::τ).set (σ.length+2) (AObj.mit (some n) c (seen++[b1]))=ρ++B::AObj.map (zdd ys)::AObj.mit (some n) c (seen++[b1])::τ:=fun τ=>by
    rw[← hρl,zZ];rfl
   have hS2:=hS.snoc hb1 hx2;have hsn2:(seen++[b1]).Nodup:=by
    rw[List.nodup_append];exact⟨hsn,by simp,fun x hx y hy=>by simp at hy;subst hy;exact fun e=>hnb (e▸hx)⟩
   have hfr:=seen_fresh hS hnd hb1 hx2 hnb;have hmf:=ztd key ys 0;rw[zyB hfr]at hmf;refine zG ?_;rw[hs2];simp only[znj,r1,r2];refine⟨trivial,j,b1,_,by simp,hb1,he,?_⟩;have r3:∀X Y τ,(ρ++B::X::Y::τ)[σ.length]? = some (.box [AV.d (.bool true),.d (.int .i64 d.f),.d (.int .i64 d.cl),.box t 0,.box l 0,.d (.int .i64 d.time),.d (.slice (zbA (zlF d))),.map (σ.length+1),.d (.int .i64 d.ticks),.d (.slice (zlc d)),.d (.int .i64 d.many)]):=fun X Y τ=>by
    rw[← hB,← hR,← hρl,zC];rfl
   have r4:∀X Y τ,(ρ++B::X::Y::τ)[σ.length+1]? = some X:=fun X Y τ=>by rw[← hρl,zA];rfl
   have r5:∀X Y Z τ,(ρ++B::X::Y::τ).set (σ.length+1) Z=ρ++B::Z::Y::τ:=fun X Y Z τ=>by rw[← hρl,zZ];rfl
   refine gq26 (zd r3 (zd r4 (zd r5 (zd hmf @zzF)))) ?_;exact zaK.next hlt ⟨seen++[b1],ys++[(key,x1,x2)],_,rfl,by simp,hS2,hsn2,rfl⟩
end
section
variable {σ:List AObj} {K:KT} {q u g N:Nat} {d:zib} {sy:AV}
theorem c_xSend (h:σ[q]? = some (.box (zlJ d u g sy)))(hK:K (.d (.slice [outD [d.s]])) σ):zP zeA [.box q 0] σ K:=by
 refine zez zpS fun hl=>?_;simp only[zjA,iN,bT,bF,eN,zl1,zl3,zl5];refine zm h ?_;refine zu hl ?_;exact hK
theorem c_xVotesS {a b:Int}(hs:sy=.d (.slice (zho d.says))∨∃t,sy=.own t (zho d.says))(h:σ[q]? = some (.box (zlJ d u g sy)))(hb:d.says.length<=1000000)(hK:K (.d (.int .i64 (voteN d a b))) σ) :
  zP zfE [.box q 0,.agg [.d (.int .i64 a),.d (.int .i64 b)]] σ K:=by
 rcases hs with rfl|⟨t,rfl⟩;all_goals
  refine zec zoF fun hl=>?_
  have h':∀τ,(σ++τ)[q]? = _:=fun τ=>zi h
  have hlen:(zho d.says).length=d.says.length:=List.length_map ..
  have fin:∀z:Int,voteN d a b=z->K (.d (.int .i64 z)) σ:=fun z h=>h▸hK
  clear hK
  simp only[zjb,iN,bT,bF,eN]
  refine zG ?_
  cases hw:d.waits with
  | false=>
   have h2:∀τ,(σ++τ)[q]? = _:=h'
   simp only[zlJ,hw]at h2
   refine zn 0 (fun k vs S=>vs=[.d (.int .i64 0),.d (.int .i64 0)]/\S=σ++[.box [.d (.int .i64 a),.d (.int .i64 b)]]) ⟨rfl,rfl⟩ ?_
   rintro k vs S hk ⟨rfl,rfl⟩
   cases hd:decide ((0:Int)<(d.says.length:Int))
   ·refine zm (zd h2 (zd hlen hd)) ?_
    refine zu hl ?_
    exact fin 0 (by rw[voteN,if_neg (by rw[hw];simp)])
   ·refine zm (zd h2 (zd hlen hd)) ?_
    refine zu hl ?_
    exact fin 0 (by rw[voteN,if_neg (by rw[hw];simp)])
  | true=>
   have h2:∀τ,(σ++τ)[q]? = _:=h'
   simp only[zlJ,hw]at h2
   refine zn d.says.length (fun k vs S=>vs=[.d (.int .i64 (zqf (d.says.take k) a b:Nat)),.d (.int .i64 k)]/\S=σ++[.box [.d (.int .i64 a),.d (.int .i64 b)]]) ⟨by simp[zqf],rfl⟩ ?_
   rintro k vs S hk ⟨rfl,rfl⟩
   by_cases hlt:k<d.says.length
   ·have hd:decide ((k:Int)<(d.says.length:Int))=true:=by simp;omega
    have hx:d.says[k]? = some d.says[k]:=by simp[hlt]
    have hgx:=zQ (f:=fun e:Int × Int × Int=>[D.int .i64 e.1,D.int .i64 e.2.1,D.int .i64 e.2.2]) hx
    obtain⟨e,he⟩:∃e,d.says[k]=e:=⟨_,rfl⟩
    rw[he]at hx hgx
    obtain⟨e1,e2,e3⟩:=e
    have hst:zqf (d.says.take (k+1)) a b=zqf (d.says.take k) a b+if ((a==e2)&&(b==e3))=true then 1 else 0:=by
     rw[List.take_add_one,hx];simp only[zqf,Option.toList_some,List.countP_append,List.countP_singleton]
    have hcn:zqf (d.says.take k) a b<=k:=Nat.le_trans List.countP_le_length (by simp;omega)
    have hxy:zcl [AV.d (.int .i64 e2),AV.d (.int .i64 e3)] [AV.d (.int .i64 a),AV.d (.int .i64 b)]=some ((a==e2)&&(b==e3)):=by
     simp only[zcl];rw[show(e2==a)=(a==e2)from Bool.beq_comm,show(e3==b)=(b==e3)from Bool.beq_comm];simp
    cases hq2:((a==e2)&&(b==e3))
    ·rw[hq2]at hst hxy
     refine zm (zd h2 (zd hlen (zd hd (zd hgx (zd hxy (wkc k (by omega))))))) ?_
     exact zaK.next hlt ⟨by rw[hst];simp,rfl⟩
    ·rw[hq2]at hst hxy
     refine zm (zd h2 (zd hlen (zd hd (zd hgx (zd hxy (zd (wkc k (by omega)) (wk1 (zqf (d.says.take k) a b) (by omega)))))))) ?_
     exact zaK.next hlt ⟨by rw[hst];simp,rfl⟩
   ·have hd:decide ((k:Int)<(d.says.length:Int))=false:=by simp;omega
    rw[List.take_of_length_le (by omega)]
    refine zm (zd h2 (zd hlen hd)) ?_
    refine zu hl ?_
    exact fin _ (by rw[voteN,if_pos hw])
end
variable {σ:List AObj}
theorem c_rSmall {f:Int}{K:KT}(hK:K (.d (.int .i64 (zgu 1 f))) σ):zP zqQ [.d (.int .i64 f)] σ K:=by
 refine zez e_r12_Small fun hl=>?_;simp only[zxe,iN,bT,bF,eN];(refine gq9 ?_;try with_reducible exact True.intro);refine zso ?_;by_cases h:f<1∨f>4
 ·rw[zgu,if_pos h]at hK;rw[zhg,if_pos h];(refine gq10 (show((120:Int) != 0)=true from rfl) ?_;try with_reducible exact True.intro);refine zu hl ?_;exact hK
 ·rw[zgu,if_neg h,Int.one_mul]at hK;rw[zhg,if_neg h];have w2:IntKind.i64.wrap (f+1)=f+1:=zaQ (by omega) (by omega);(refine gq10 (zjR (show((0:Int) != 0)=false from rfl) w2) ?_;try with_reducible exact True.intro);refine zu hl ?_;exact hK
variable {σ:List AObj}
theorem zqZ {j k:Nat}{x y:AObj}(h:σ[j]? = some y)(hk:j≠k):(σ.set k x)[j]? = some y:=by rw[List.getElem?_set_ne (Ne.symm hk)];exact h
def zyn (l:List (Int × Int × Int)) (k:Int):List (Int × Int × Int):=l.filter fun e=>decide (e.1≠k)
section
variable {σ:List AObj} {K:KT} {q u g N:Nat} {d:zib} {sy:AV}
theorem c_xTick (h:σ[q]? = some (.box (zlJ d u g sy)))(hI:PubI N d)(hN:N<=900000)(hsy:∀k,zhl k σ->Low k sy)(hK:K (.d (.slice (zog d))) (σ.set q (.box (zlJ (zfY d) u g sy)))):zP zgr [.box q 0] σ K:=by
 refine zez zpT fun hl=>?_;have hq:=zY h;have ht:=hI.ticks;have hw:IntKind.i64.wrap (d.ticks+1)=d.ticks+1:=zaQ (by omega) (by omega);have z0:∀Y,(σ.set q Y)[q]? = some Y:=fun Y=>List.getElem?_set_self hq;have hlw:ztL σ.length (.box (zlJ (zfY d) u g sy)):=by
  intro c hc;have hb:=hl q _ h c;simp only[zlJ,List.mem_cons,List.not_mem_nil,or_false]at hc;rcases hc with rfl|rfl|rfl|rfl|rfl|rfl|rfl|rfl|rfl|rfl|rfl|rfl|rfl|rfl|rfl|rfl|rfl|rfl|rfl|rfl|rfl|rfl|rfl|rfl|rfl|rfl|rfl;all_goals first
   | exact .d _
   | exact hb (by simp)
 have done:∀l,l=zog d->AW.Ends σ.length K (some [.d (.slice l)]) (σ.set q (.box (zlJ (zfY d) u g sy))):=by
  rintro l rfl;exact zeZ (by simp[zha,dmT,dm,dm1,zcm]) hl hlw hK
 simp only[zjB,iN,bT,bF,eN];cases hwt:d.waits with
 | false=>
  simp only[zlJ,hwt]at h
  have:=done [] (by rw[zog,if_neg (by rw[hwt];simp)])
  simp only[zlJ,zfY,hwt]at this
  refine zm (zd h (zd hw z0)) ?_
  exact this
 | true=>
  have h1:=h
  simp only[zlJ,hwt]at h
  cases hr:((d.ticks+1).tmod 4==0)
  ·have:=done [] (by rw[zog,if_neg (fun hc=>by simp at hr;exact hr hc.2)])
   simp only[zlJ,zfY,hwt]at this
   refine zm (zd h (zd hw (zd z0 hr))) ?_
   exact this
  ·have:=done [outD [d.s]] (by rw[zog,if_pos ⟨hwt,by simpa using hr⟩])
   have z1:(σ.set q (.box (zlJ (zfY d) u g sy)))[q]? = some (.box (zlJ (zfY d) u g sy)):=z0 _
   simp only[zlJ,zfY,hwt]at this z1
   refine zm (zd h (zd hw (zd z0 hr))) ?_
   refine c_xSend (d:=zfY d) (u:=u) (g:=g) (sy:=sy) (by simp only[zlJ,zfY,hwt];exact z1) ?_
   refine zG ?_
   exact this
end
section
variable {σ:List AObj} {K:KT} {q u g N:Nat} {d:zib} {sy:AV}
theorem c_xAskG {L:List (List UInt8)}{G:List zI}{o:TOp}(hT:σ[u]? = some (rtO L))(hG:σ[g]? = some (rlO G))(hug:u≠g)(hqu:q≠u)(hqg:q≠g)(hL:zmF L)(hg:G.length<=1073741824)(h:σ[q]? = some (.box (zlJ d u g (.d (.slice (zho d.says))))))
  (hos:zmT o<=20971520) (ho:okO o) (hI:PubI N d) (hN:N<=900000)
  (hK:∀S:List AObj,S[u]? = some (rtO (zAF L d o))->S[g]? = some (rlO (zAG L G d o))->S[q]? = some (.box (zlJ (zrx L d o) u g (.d (.slice (zho (zrx L d o).says))))) →
   (∀(j:Nat) (y:AObj),j≠q->j≠u->j≠g→σ[j]? = some y->S[j]? = some y)->K (.tup [.d (.slice (zzb L d o)),.d (.int .i64 (zwY L d o))]) S) :
  zP zgU [.box q 0,opA o] σ K:=by
 refine ACall.weaken ?_;refine zeP zkC.is rfl fun hl _=>zkC.goes ?_;simp only[zkK,iN,bT,bF,eN,zl1,zl4,opA];have hq':∀τ,(σ++τ)[q]? = _:=fun τ=>zi h;have ht:=hI.time;have hw1:IntKind.i64.wrap (d.time+1)=d.time+1:=zaQ (by omega) (by omega);cases hw:d.waits with
 | true=>
  have e0:zwY L d o=240:=by rw[zwY,if_pos hw]
  have e1:zAF L d o=L:=by rw[zAF,if_pos hw]
  have e2:zAG L G d o=G:=by rw[zAG,if_pos hw]
  have e3:zrx L d o=d:=by rw[zrx,e0,if_pos (by decide)]
  have e4:zzb L d o=[]:=by rw[zzb,e0,if_pos (by decide)]
  rw[e0,e1,e2,e3,e4]at hK
  have h2:=hq'
  simp only[zlJ,hw]at h2
  refine zm h2 ?_
  exact zld ⟨_,_,.refl _ _,hK _ (zi hT) (zi hG) (zi h) fun _ _ _ _ _ h=>zi h⟩
 | false=>
  have h2:=hq'
  simp only[zlJ,hw]at h2
  refine zm h2 ?_
  refine zAw (o:=o) ho.1 ho.2.1 ho.2.2.1 ?_
  by_cases hc:zaN zef o=0
  rotate_left
  ·have e0:zwY L d o=zaN zef o:=by rw[zwY,if_neg (by rw[hw];simp),if_pos hc]
   have e1:zAF L d o=L:=by rw[zAF,if_neg (by rw[hw];simp),if_pos hc]
   have e2:zAG L G d o=G:=by rw[zAG,if_neg (by rw[hw];simp),if_pos hc]
   have e3:zrx L d o=d:=by rw[zrx,e0,if_pos hc]
   have e4:zzb L d o=[]:=by rw[zzb,e0,if_pos hc]
   rw[e0,e1,e2,e3,e4]at hK
   refine zm (show(zaN zef o != 0)=true by simpa using hc) ?_
   exact zld ⟨_,_,.refl _ _,hK _ (zi hT) (zi hG) (zi h) fun _ _ _ _ _ h=>zi h⟩
  have e0:zwY L d o=zjM L (zxC d o):=by rw[zwY,if_neg (by rw[hw];simp),if_neg (by simpa using hc)]
  have e1:zAF L d o=zoh L (zxC d o):=by rw[zAF,if_neg (by rw[hw];simp),if_neg (by simpa using hc)]
  have e2:zAG L G d o=zpO L G (zxC d o):=by rw[zAG,if_neg (by rw[hw];simp),if_neg (by simpa using hc)]
  obtain⟨x,hxe⟩:∃x:zp,zxC d o=x:=⟨_,rfl⟩
  have hxo:x.op=o:=by rw[← hxe];rfl
  have hsz:zmT x.op<=20971520:=by rw[hxo];exact hos
  have hreq:reqA x=.agg [.d (.int .i64 d.cl),.d (.int .i64 (d.time+1)),.d (.int .i64 o.kind),.d (.str o.topic),.d (.str o.group),.d (.int .i64 o.offset),.d (.slice (zdQ o.recs))]:=by rw[← hxe];rfl
  rw[hxe]at e0 e1 e2
  have e3:zrx L d o=if zjM L x≠0 then d else{ d with time:=d.time+1,waits:=true,s:=zeT L x,says:=[],ticks:=0 }:=by rw[zrx,e0,hxe]
  have e4:zzb L d o=if zjM L x≠0 then []else [outD [zeT L x]]:=by rw[zzb,e0,hxe]
  rw[e0,e1,e2,e3,e4]at hK
  obtain⟨sg,hsg⟩:∃s,zeT L x=s:=⟨_,rfl⟩
  obtain⟨L',hL'⟩:∃s,zoh L x=s:=⟨_,rfl⟩
  obtain⟨G',hG'⟩:∃s,zpO L G x=s:=⟨_,rfl⟩
  obtain⟨e,he⟩:∃e,zjM L x=e:=⟨_,rfl⟩
  rw[hsg,hL',hG',he]at hK
  obtain⟨P,hP⟩:∃P,(σ.set u (rtO L')).set g (rlO G')=P:=⟨_,rfl⟩
  have hul:=zY hT
  have hgl:=zY hG
  have hql:=zY h
  have hPs:σ.length=P.length:=by rw[← hP];simp
  have hput:∀τ,((σ++τ).set u (rtO L')).set g (rlO G')=P++τ:=fun τ=>by rw[List.set_append_left _ _ hul,List.set_append_left _ _ (by simpa using hgl),hP]
  have pu:P[u]? = some (rtO L'):=by rw[← hP,List.getElem?_set_ne (Ne.symm hug)];exact List.getElem?_set_self hul
  have pg:P[g]? = some (rlO G'):=by rw[← hP];exact List.getElem?_set_self (by simpa using hgl)
  have pq:P[q]? = some (.box (zlJ d u g (.d (.slice (zho d.says))))):=by rw[← hP,List.getElem?_set_ne (Ne.symm hqg),List.getElem?_set_ne (Ne.symm hqu)];exact h
  have pk:∀(j:Nat) (y:AObj),j≠q->j≠u->j≠g→σ[j]? = some y->P[j]? = some y:=fun j y h1 h2 h3 hy=>by rw[← hP,List.getElem?_set_ne (Ne.symm h3),List.getElem?_set_ne (Ne.symm h2)];exact hy
  have pq2:∀τ,(P++τ)[q]? = _:=fun τ=>zi pq
  simp only[zlJ,hw]at pq2
  have sq:∀τ Z,(P++τ).set q Z=P.set q Z++τ:=fun τ Z=>List.set_append_left _ _ (by omega)
  have sq2:∀τ Y Z,(P.set q Y++τ).set q Z=P.set q Z++τ:=fun τ Y Z=>by rw[List.set_append_left _ _ (by rw[List.length_set];omega),List.set_set]
  have zq:∀Z τ,(P.set q Z++τ)[q]? = some Z:=fun Z τ=>zi (List.getElem?_set_self (by omega))
  have gq:∀Z k τ,(P.set q Z++τ)[P.length+k]? = τ[k]?:=fun Z k τ=>by
   have:=zA (P.set q Z) τ k;rwa [List.length_set]at this
  have gq0:∀Z τ,(P.set q Z++τ)[P.length]? = τ[0]?:=fun Z τ=>by
   have:=zC (P.set q Z) τ;rw[List.length_set]at this;exact this
  obtain⟨d',hd'⟩:∃d':zib,{ d with time:=d.time+1,waits:=true,s:=sg,says:=[],ticks:=0 }=d':=⟨_,rfl⟩
  rw[hd']at hK
  have bad:e≠0->∀τ,zxy (fun r s=>∃r' s',zqb [r] s [r'] s'∧K r' s') (some [.d (.slice []),.d (.int .i64 e)]) (P++τ):=fun hz τ=>by
   rw[if_pos hz,if_pos hz]at hK;exact zld ⟨_,_,.refl _ _,hK _ (zi pu) (zi pg) (zi pq) fun j y a1 a2 a3 hy=>zi (pk j y a1 a2 a3 hy)⟩
  have good:e=0->∀τ,zxy (fun r s=>∃r' s',zqb [r] s [r'] s'∧K r' s') (some [.d (.slice [outD [sg]]),.d (.int .i64 0)]) (P.set q (.box (zlJ d' u g (.exact [])))++τ):=fun hz τ=>by
   have hK2:=hK;rw[if_neg (by simpa using hz),if_neg (by simpa using hz),hz]at hK2;refine zld ⟨_,P.set q (.box (zlJ d' u g (.d (.slice []))))++τ,?_,hK2 _ (zi (zqZ pu (by omega))) (zi (zqZ pg (by omega))) ?_ fun j y a1 a2 a3 hy=>zi (zqZ (pk j y a1 a2 a3 hy) (by omega))⟩
   ·refine .dataB q 15 _ (.exact []) [] (zq _ _) rfl rfl ?_;rw[sq2];exact .refl _ _
   ·rw[zq,← hd'];rfl
  have sd:zlJ d' u g (.exact [])=[.d (.int .i64 d.f),.d (.int .i64 d.cl),.box u 0,.box g 0,.d (.int .i64 (d.time+1)),.d (.bool true),.d (.int .i64 sg.client),.d (.int .i64 sg.time),.d (.int .i64 sg.op.kind),.d (.str sg.op.topic),.d (.str sg.op.group),.d (.int .i64 sg.op.offset),.d (.slice (zdQ sg.op.recs)),.d (.int .i64 sg.key),.d (.int .i64 sg.dig),
    .exact [],.d (.int .i64 0),.d (.int .i64 d.ls.client),.d (.int .i64 d.ls.time),.d (.int .i64 d.ls.op.kind),.d (.str d.ls.op.topic),.d (.str d.ls.op.group),.d (.int .i64 d.ls.op.offset),.d (.slice (zdQ d.ls.op.recs)),.d (.int .i64 d.la),.d (.int .i64 d.lo),.d (.int .i64 d.many)]:=by rw[← hd']
  have hds:d'.s=sg:=by rw[← hd']
  refine zm (zd (show(zaN zef o != 0)=false by simpa using hc) (zd h2 hw1)) ?_
  refine⟨?_,?_⟩
  all_goals
   try refine zm (zd h2 hw1) ?_
   rw[← hreq]
   refine c_rqrSeal (x:=x) (zi hT) (zi hG) hug hL hg hsz ?_
   rw[hL',hG',hput,he,hsg]
   by_cases hz:e=0
   ·rw[hz]
    refine zdy (zd pq2 (zd sq (zd sq2 (zd zq (zd gq (zd gq0 (zd hw1 (zd @List.length_set.{0} (zd hPs (show((0:Int) != 0)=false from rfl)))))))))) ?_
    rw[← sd]
    refine c_xSend (d:=d') (zq _ _) ?_
    rw[hds]
    refine zG ?_
    exact good hz _
   ·refine zdy (zd (show(e != 0)=true by simpa using hz) hPs) ?_
    exact bad hz _
end
theorem sayD_eq (l:List (Int × Int × Int))(k a b:Int):sayD l k a b=zyn l k++[(k,a,b)]:=rfl
theorem othD_len (l:List (Int × Int × Int))(k:Int):(zyn l k).length<=l.length:=List.length_filter_le _ _
section
variable {σ:List AObj} {K:KT} {q u g N:Nat} {d:zib} {sy:AV}
theorem c_xTakeG {L:List (List UInt8)}{G:List zI}{m:zbD}(hT:σ[u]? = some (rtO L))(hG:σ[g]? = some (rlO G))(hL:L.length<=1048576)(hg:G.length<=1073741824)(h:σ[q]? = some (.box (zlJ d u g (.d (.slice (zho d.says))))))
  (hm:zaJ m) (hlen:d.says.length<=1000) (hI:PubI N d) (hN:N<=900000)
  (hK:∀S:List AObj,S[q]? = some (.box (zlJ (takeP L G d m) u g (.d (.slice (zho (takeP L G d m).says)))))->(∀(j:Nat) (y:AObj),j≠q→σ[j]? = some y->S[j]? = some y)->K (.d (.bool (zrH L G d m))) S) :
  zP zgs [.box q 0,zge m] σ K:=by
 have h':∀τ,(σ++τ)[q]? = _:=fun τ=>zi h;have hf:=hI.f;have hmn:=hI.many;refine ACall.weaken ?_;refine zeP zjw.is rfl fun hl _=>zjw.goes ?_;have no:zhb L G d m=false->∀τ,zxy (fun r s=>∃r' s',zqb [r] s [r'] s'∧K r' s') (some [.d (.bool false)]) (σ++τ):=fun ho τ=>by
  have e1:takeP L G d m=d:=by rw[takeP,if_neg (by rw[ho];simp)]
  have e2:zrH L G d m=false:=by rw[zrH,ho];rfl
  rw[e1,e2]at hK;exact zld ⟨_,_,.refl _ _,hK _ (zi h) fun _ _ _ h=>zi h⟩
 simp only[zjC,iN,bT,bF,eN,zl1];cases hw:d.waits with
 | false=>
  have h2:=h'
  simp only[zlJ,hw]at h2
  refine zm (zd h2 (show(false==false)=true from rfl)) ?_
  exact no (by rw[zhb,hw];rfl) _
 | true=>
 have h2:=h';simp only[zlJ,hw]at h2;by_cases e1:m.kind=5;rotate_left
 ·refine zm (zd h2 (zd (show(m.kind != 5)=true by simpa using e1) (show(false==false)=true from rfl))) ?_;exact no (by simp[zhb,e1]) _
 by_cases e2:m.client=d.cl;rotate_left
 ·refine zm (zd h2 (zd (show(m.kind != 5)=false by simpa using e1) (zd (show(m.client != d.cl)=true by simpa using e2) (show(false==false)=true from rfl)))) ?_;exact no (by simp[zhb,e2]) _
 by_cases e3:m.time=d.time;rotate_left
 ·refine zm (zd h2 (zd (show(m.kind != 5)=false by simpa using e1) (zd (show(m.client != d.cl)=false by simpa using e2) (zd (show(m.time != d.time)=true by simpa using e3) (show(false==false)=true from rfl))))) ?_;exact no (by simp[zhb,e3]) _
 refine zm (zd h2 (zd (show(m.kind != 5)=false by simpa using e1) (zd (show(m.client != d.cl)=false by simpa using e2) (zd (show(m.time != d.time)=false by simpa using e3) (show(false==false)=true from rfl))))) ?_;refine c_raValidG (zi hT) (zi hG) hL hg hm ?_;cases e4:zgg L G m
 ·refine zm (zd h2 (show(false==false)=true from rfl)) ?_;exact no (by simp[zhb,e4]) _
 refine zm (zd h2 (show(false==false)=true from rfl)) ?_;refine c_rBrokers ?_;rw[show zgu 3 d.f=3*d.f+1 by rw[zgu,if_neg (by omega)]];by_cases e5:m.src<3*d.f+1;rotate_left
 ·refine zm (zd h2 (show decide (m.src≥3*d.f+1)=true by simp;omega)) ?_;exact no (by simp[zhb];intros;omega) _
 have ho:zhb L G d m=true:=by simp[zhb,hw,e1,e2,e3,e4,e5]
 refine zm (zd h2 (show decide (m.src≥3*d.f+1)=false by simp;omega)) ?_;have hll:(zho d.says).length=d.says.length:=List.length_map ..;refine zoz d.says.length (fun k vs S=>vs=[.own (σ.length+1) (zho (zyn (d.says.take k) m.src)),.d (.int .i64 k)]/\S=σ++[zlb m,.tok 3 (zyn (d.says.take k) m.src).length]) (.tok 0 [] 3 rfl (by simp) (.refl _ _)) ⟨by simp[zyn],by simp[zyn]⟩ ?_;rintro k vs S hk ⟨rfl,rfl⟩;have hpl:(zho (zyn (d.says.take k) m.src)).length=(zyn (d.says.take k) m.src).length:=List.length_map ..;have hfl:(zyn (d.says.take k) m.src).length<=k:=Nat.le_trans (othD_len _ _) (by simp;omega);by_cases hlt:k<d.says.length
 ·have hd:decide ((k:Int)<(d.says.length:Int))=true:=by simp;omega
  have hx:d.says[k]? = some d.says[k]:=by simp[hlt]
  have hgx:=zQ (f:=fun e:Int × Int × Int=>[D.int .i64 e.1,D.int .i64 e.2.1,D.int .i64 e.2.2]) hx;obtain⟨e,he⟩:∃e,d.says[k]=e:=⟨_,rfl⟩;rw[he]at hx hgx;obtain⟨y1,y2,y3⟩:=e;have htk:zyn (d.says.take (k+1)) m.src=zyn (d.says.take k) m.src++zyn [(y1,y2,y3)] m.src:=by
   rw[List.take_add_one,hx];simp only[zyn,Option.toList_some,List.filter_append]
  by_cases h1:y1=m.src
  ·have e1:zyn [(y1,y2,y3)] m.src=[]:=by simp[zyn,h1]
   rw[e1,List.append_nil]at htk;refine zm (zd h2 (zd hd (zd hll (zd hgx (zd (show(y1 != m.src)=false by simpa using h1) (wkc k (by omega))))))) ?_;exact zaK.next hlt ⟨by rw[htk],by rw[htk]⟩
  ·have e1:zyn [(y1,y2,y3)] m.src=[(y1,y2,y3)]:=by simp[zyn,h1]
   rw[e1]at htk;refine zm (zd h2 (zd hd (zd hll (zd hgx (zd hpl (zd (show(y1 != m.src)=true by simpa using h1) (wkc k (by omega)))))))) ?_;exact zaK.next hlt ⟨by rw[htk];simp,by rw[htk];simp⟩
 have hd:decide ((k:Int)<(d.says.length:Int))=false:=by simp;omega
 rw[List.take_of_length_le (by omega)]at hpl hfl ⊢;obtain⟨y,hy⟩:∃y,sayD d.says m.src m.rerr m.roff=y:=⟨_,rfl⟩;have hX:zho (zyn d.says m.src)++[[D.int .i64 m.src,.int .i64 m.rerr,.int .i64 m.roff]]=zho y:=by rw[← hy,sayD_eq];simp
 have hyl:y.length<=1001:=by rw[← hy,sayD_eq];simp;omega
 have hql:=zY h;have sq:∀τ Z,(σ++τ).set q Z=σ.set q Z++τ:=fun τ Z=>List.set_append_left _ _ (by omega);have sq2:∀τ Y Z,(σ.set q Y++τ).set q Z=σ.set q Z++τ:=fun τ Y Z=>by rw[List.set_append_left _ _ (by rw[List.length_set];omega),List.set_set]
 have zq:∀Z τ,(σ.set q Z++τ)[q]? = some Z:=fun Z τ=>zi (List.getElem?_set_self (by omega));have gq0:∀Z τ,(σ.set q Z++τ)[σ.length]? = τ[0]?:=fun Z τ=>by
  have:=zC (σ.set q Z) τ;rw[List.length_set]at this;exact this
 obtain⟨d1,hd1⟩:∃d1:zib,{ d with says:=y }=d1:=⟨_,rfl⟩;have w1:d1.waits=true:=by rw[← hd1];exact hw
 have y1:d1.says=y:=by rw[← hd1]
 have f1:d1.f=d.f:=by rw[← hd1]
 have hmw:IntKind.i64.wrap (d.many+1)=d.many+1:=zaQ (by omega) (by omega);have sd:zlJ d1 u g (.d (.slice (zho y)))=[.d (.int .i64 d.f),.d (.int .i64 d.cl),.box u 0,.box g 0,.d (.int .i64 d.time),.d (.bool true),.d (.int .i64 d.s.client),.d (.int .i64 d.s.time),.d (.int .i64 d.s.op.kind),.d (.str d.s.op.topic),.d (.str d.s.op.group),.d (.int .i64 d.s.op.offset),.d (.slice (zdQ d.s.op.recs)),.d (.int .i64 d.s.key),.d (.int .i64 d.s.dig),
    .d (.slice (zho y)),.d (.int .i64 d.ticks),.d (.int .i64 d.ls.client),.d (.int .i64 d.ls.time),.d (.int .i64 d.ls.op.kind),.d (.str d.ls.op.topic),.d (.str d.ls.op.group),.d (.int .i64 d.ls.op.offset),.d (.slice (zdQ d.ls.op.recs)),.d (.int .i64 d.la),.d (.int .i64 d.lo),.d (.int .i64 d.many)]:=by rw[← hd1,zlJ,hw]
 refine zm (zd h2 (zd hd (zd hll (zd hpl (zd hX (zd sq (zd sq2 (zd zq gq0)))))))) ?_;have sd2:zlJ d1 u g (.own (σ.length+1) (zho y))=(zlJ d1 u g (.d (.slice (zho y)))).set 15 (.own (σ.length+1) (zho y)):=rfl;refine c_xVotesS (d:=d1) (u:=u) (g:=g) (sy:=.own (σ.length+1) (zho y)) (.inr ⟨_,by rw[y1]⟩) (by rw[sd2,sd];exact zq _ _) (by rw[y1];omega) ?_;have hv:voteN d1 m.rerr m.roff=(zqf y m.rerr m.roff:Int):=by rw[voteN,if_pos w1,y1]
 rw[hv];refine zm (zd hpl (zd hX (zd sq (zd sq2 (zd zq gq0))))) ?_;refine c_rSmall ?_;rw[show zgu 1 d.f=d.f+1 by rw[zgu,if_neg (by omega),Int.one_mul]];cases hlt:decide ((zqf y m.rerr m.roff:Int)<d.f+1)
 ·have hB:zuv d m=true:=by rw[zuv,hy];simpa using hlt
  obtain⟨d2,hd2⟩:∃d2:zib,{ d with says:=y,waits:=false,ls:=d.s,la:=m.rerr,lo:=m.roff,many:=d.many+1 }=d2:=⟨_,rfl⟩;have e1:takeP L G d m=d2:=by rw[takeP,if_pos ho,if_pos hB,hy,hd2]
  have e2:zrH L G d m=true:=by rw[zrH,hB,ho];rfl
  rw[e1,e2]at hK;refine zm (zd hlt (zd sq2 (zd zq (zd gq0 hmw)))) ?_;refine zld ⟨_,σ.set q (.box (zlJ d2 u g (.d (.slice (zho y)))))++[zlb m,.tok 3 ((zyn d.says m.src).length+1)],?_,hK _ ?_ fun j y hj hy=>zi (zqZ hy hj)⟩
  ·refine .dataB q 15 _ (.own (σ.length+1) (zho y)) (zho y) (zq _ _) rfl rfl ?_;rw[sq2,← hd2];exact .refl _ _
  ·rw[zq,← hd2]
 ·have hB:zuv d m=false:=by rw[zuv,hy];simpa using hlt
  have e1:takeP L G d m=d1:=by rw[takeP,if_pos ho,if_neg (by rw[hB];simp),hy,hd1]
  have e2:zrH L G d m=false:=by rw[zrH,hB,ho];rfl
  rw[e1,e2]at hK;refine zm hlt ?_;refine zld ⟨_,σ.set q (.box (zlJ d1 u g (.d (.slice (zho y)))))++[zlb m,.tok 3 ((zyn d.says m.src).length+1)],?_,hK _ ?_ fun j y hj hy=>zi (zqZ hy hj)⟩
  ·refine .dataB q 15 _ (.own (σ.length+1) (zho y)) (zho y) (zq _ _) rfl rfl ?_;rw[sq2,sd];exact .refl _ _
  ·rw[zq,y1]
end
abbrev repM (a n:Int):zbD:={ zee with kind:=5,src:=a,client:=2,time:=1,roff:=n }
theorem zsQ (a n:Int):zaJ (repM a n):=by
 obtain⟨n1,n2,n3,n4,n5,n6,n7,n8,n9,n10⟩:=zvt;constructor<;>assumption
theorem zvi {m:zbD}{s:zI}(h:zaJ m):zaJ (withS m s):=by
 obtain⟨h1,h2,h3,h4,h5,h6,h7,h8,h9,h10⟩:=h;exact⟨h1,h2,h3,h4,h5,h6,h7,h8,h9,h10⟩
theorem sealX_ok {L:List (List UInt8)}{G:List zI}{m:zbD}(hk:m.kind=5)(h:(zem L G m).e=0):(zem L G m).m=withS m (sgnS L m.src (zdi m)):=by
 have hn:nilK m.kind=false:=by rw[hk];rfl
 have hw:∀s,zjK m s=withS m s:=fun s=>by rw[zjK,if_neg (by omega)]
 unfold zem at h ⊢;split
 ·rename_i h1;rw[if_pos h1]at h;exact absurd h h1
 ·rename_i h1;rw[if_neg h1,if_neg (by rw[hn];simp)]at h;rw[if_neg (by rw[hn];simp)];split
  ·rename_i h2;rw[if_pos h2]at h;exact absurd h h2
  ·exact hw _
section
variable {σ:List AObj} {K:KT}
theorem c_b1 {i:TGi}{L:List (List UInt8)}{G:List zI}{a n:Int}{c d m q sn:Nat}{s:zp}{ticks:Int}{la:List (List D)}{many:Int}{sy:List (Int × Int × Int)}
  (h:TG i σ L G) (hL:zmF L) (hg:G.length<=1000000) (hc:σ[c]? = some (.box [.box i.id 0])) (hd:σ[d]? = some (.box [.box i.id2 0])) (hm:σ[m]? = some (.box [.box q 0]))
  (hq:σ[q]? = some (.box (zmX 1 2 i.id i.id2 1 [s] (.map sn) ticks la many))) (hs:σ[sn]? = some (.map (zdd sy))) (hb:sy.length<=900000) (hmn:0<=many/\many<=1000000) (ha:a<4)
  (hk1:c≠i.id/\c≠i.m/\c≠i.t/\c≠i.id2/\c≠i.m2/\c≠i.t2) (hk2:d≠i.id/\d≠i.m/\d≠i.t/\d≠i.id2/\d≠i.m2/\d≠i.t2) (hk3:m≠i.id/\m≠i.m/\m≠i.t/\m≠i.id2/\m≠i.m2/\m≠i.t2)
  (hk4:q≠i.id/\q≠i.m/\q≠i.t/\q≠i.id2/\q≠i.m2/\q≠i.t2) (hk5:sn≠i.id/\sn≠i.m/\sn≠i.t/\sn≠i.id2/\sn≠i.m2/\sn≠i.t2)
  (he:(zem L G (repM a n)).e=0) (hL2:zmF (zem L G (repM a n)).L) (hg2:(zem L G (repM a n)).G.length<=1000000) (hv:zgg (zem L G (repM a n)).L (zem L G (repM a n)).G (zem L G (repM a n)).m=true)
  (hK0:(zqf (zhp sy a 0 n) 0 n:Int)<2->∀S,TG i S (zem L G (repM a n)).L (zem L G (repM a n)).G->S[q]? = some (.box (zmX 1 2 i.id i.id2 1 [s] (.map sn) ticks la many))->S[sn]? = some (.map (zdd (zhp sy a 0 n)))->(∀(j:Nat) (y:AObj),j≠q->j≠sn->(j≠i.id/\j≠i.m/\j≠i.t/\j≠i.id2/\j≠i.m2/\j≠i.t2)→σ[j]? = some y->S[j]? = some y)->K (.d (.bool false)) S)
  (hK1:¬(zqf (zhp sy a 0 n) 0 n:Int)<2->∀S,S[q]? = some (.box (zmX 1 2 i.id i.id2 1 [] (.d .nilmap) ticks [ansD s 0 n] (many+1)))->(∀(j:Nat) (y:AObj),j≠q->j≠sn->(j≠i.id/\j≠i.m/\j≠i.t/\j≠i.id2/\j≠i.m2/\j≠i.t2)→σ[j]? = some y->S[j]? = some y)->K (.d (.bool true)) S) :
  zP zgd [.d (.int .i64 a),.d (.int .i64 n),.box c 0,.box d 0,.box m 0] σ K:=by
 refine zeP zsk.is rfl fun hl _=>zsk.goes ?_;simp only[zsD,iN,bT,bF,eN,zl3];have hM:=sealX_ok (m:=repM a n) rfl he;obtain⟨R,hR⟩:∃R,zem L G (repM a n)=R:=⟨_,rfl⟩;have hms:zaJ R.m:=by rw[← hR,hM];exact zvi (zsQ a n)
 have k1:R.m.kind=5:=by rw[← hR,hM]
 have k2:R.m.client=2:=by rw[← hR,hM]
 have k3:R.m.time=1:=by rw[← hR,hM]
 have k4:R.m.src=a:=by rw[← hR,hM]
 have k5:R.m.rerr=0:=by rw[← hR,hM];rfl
 have k6:R.m.roff=n:=by rw[← hR,hM]
 refine zm (zd hc hd) ?_;refine c_auSealG (m:=repM a n) h hL (by omega) (zsQ a n) ?_;rw[hR]at he hL2 hg2 hv hK0 ⊢;rw[he];obtain⟨S,hS⟩:∃S,zhk i σ R.L R.G=S:=⟨_,rfl⟩;have hT:TG i S R.L R.G:=by rw[← hS];exact h.put _ _
 have c':∀τ,(S++τ)[c]? = some (.box [.box i.id 0]):=fun τ=>zi (by rw[← hS,TG.other hk1];exact hc);have d':∀τ,(S++τ)[d]? = some (.box [.box i.id2 0]):=fun τ=>zi (by rw[← hS,TG.other hk2];exact hd);have m':∀τ,(S++τ)[m]? = some (.box [.box q 0]):=fun τ=>zi (by rw[← hS,TG.other hk3];exact hm);have q':∀τ,(S++τ)[q]? = some (.box (zmX 1 2 i.id i.id2 1 [s] (.map sn) ticks la many)):=fun τ=>zi (by rw[← hS,TG.other hk4];exact hq);have s':∀τ,(S++τ)[sn]? = some (.map (zdd sy)):=fun τ=>zi (by rw[← hS,TG.other hk5];exact hs);rw[hS];refine zm (zd m' (show((0:Int)==0)=true from rfl)) ?_;obtain⟨X,hX⟩:∃X,AObj.box (msgL R.m)=X:=⟨_,rfl⟩;rw[hX];have nes:=hT.ne;have qs:q≠sn:=fun e=>by rw[e,hs]at hq;cases hq
 have hsl:=zY (s' [X]);have hql:=zY (q' [X]);have kp:∀(j:Nat) (y:AObj),(j≠i.id/\j≠i.m/\j≠i.t/\j≠i.id2/\j≠i.m2/\j≠i.t2)→σ[j]? = some y->(S++[X])[j]? = some y:=fun j y hj hy=>zi (by rw[← hS,TG.other hj];exact hy);refine c_pTake (m:=R.m) (q' _) (s' _) hb (fun τ K hk=>?_) k1 k2 k3 (by omega) (by rw[k4];omega) hmn (fun hlt=>?_) fun hlt=>?_
 ·refine zyU (M:=R.m) ((hT.app _).app _).tab ((hT.app _).app _).led hL2 (by omega) hms ?_;rw[hv];exact hk
 ·rw[k4,k5,k6]at hlt ⊢;refine zG ?_;refine zld (hK0 hlt _ ?_ ?_ ?_ fun j y b1 b2 b3 hy=>?_)
  ·have h2:=hT.app [X];refine⟨⟨?_,?_,?_⟩,⟨?_,?_,?_⟩,h2.n1,h2.n2⟩
   ·rw[List.getElem?_set_ne hk5.1];exact h2.tab.box
   ·rw[List.getElem?_set_ne hk5.2.1];exact h2.tab.map
   ·rw[List.getElem?_set_ne hk5.2.2.1];exact h2.tab.tok
   ·rw[List.getElem?_set_ne hk5.2.2.2.1];exact h2.led.box
   ·rw[List.getElem?_set_ne hk5.2.2.2.2.1];exact h2.led.map
   ·rw[List.getElem?_set_ne hk5.2.2.2.2.2];exact h2.led.tok
  ·rw[List.getElem?_set_ne (Ne.symm qs)];exact q' _
  ·exact List.getElem?_set_self hsl
  ·rw[List.getElem?_set_ne (Ne.symm b2)];exact kp j y b3 hy
 ·rw[k4,k5,k6]at hlt ⊢;refine zG ?_;refine zld (hK1 hlt _ (List.getElem?_set_self (by simpa using hql)) fun j y b1 b2 b3 hy=>?_);rw[List.getElem?_set_ne (Ne.symm b1),List.getElem?_set_ne (Ne.symm b2)];exact kp j y b3 hy
end
end Go.Proofs.YtdgcepphjnoalaaGreat
