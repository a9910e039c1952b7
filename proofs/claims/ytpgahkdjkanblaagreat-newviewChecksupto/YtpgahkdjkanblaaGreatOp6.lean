/- Contracts: an operation's bytes. -/
import Derived.Test.YtpgahkdjkanblaaGreatCodec1
set_option linter.all false
set_option maxRecDepth 100000
namespace Go.Proofs.YtpgahkdjkanblaaGreat
open Go.AW
theorem u64_of {n:Int} (h:0<=n) (h2:n<9223372036854775808):IntKind.u64.wrap n=(n.toNat:Int):=by
 obtain ⟨m,rfl⟩:=Int.eq_ofNat_of_zero_le h
 rw [Int.toNat_natCast];exact zdq (by omega)
theorem bytesE (s:List UInt8):s.map zcU=bcs s:=rfl
theorem gq45 {A P Q:Prop} (a:A) (h:Q) (e:A->P=Q:=by intro a;simp -dsimp only [↓zhL, ↓zbi, ↓zcI, ↓zhM, ↓zhF, ↓zhD, ↓zhG, ↓zhE, ↓zcN, ↓zcJ, ↓zcO, ↓zcK, ↓zhH, ↓zcH, ↓zcP, ↓zcL, ↓zcQ, ↓zcM, ↓zhC, ↓zhK, ↓zcG, ↓zcR, ↓zhz, ↓zhy, ↓zhB,iN,bT,bF,eN, ↓zdT, ↓unC, ↓zam, ↓zY, ↓zZ, ↓zae, ↓zax, ↓zag, ↓zeQ, ↓zap, ↓zaQ, ↓zW, ↓zg, ↓zh, ↓zcW, ↓zb, ↓zaC, ↓zG, ↓zbv, ↓zbE, ↓zc, ↓zE, ↓zq, ↓zK, ↓zao, ↓zft, ↓zfB, ↓zaL, ↓zaX, ↓zbm, ↓zbC, ↓zcj, ↓zI, ↓zaH, ↓zaa, ↓zM, ↓zaw,zfE,zcw,zcp,unA,zeT,bnd,zgq,zaA,zL,zga,dm,dm1,zw,zad,zgP,zgO,zH,Q0,Q1,Q2,Q3,Q4,Q5,zay,zB,zD,zT,zP,Q6,Q7,Q8,Q9,Q10,Q11,Q12,Q13,Q14,Nat.reduceAdd,Q15,Int.reduceToNat,Q16,Q17,Q18,Q19,Q20,reduceIte,Q21,Q22,zU,rep,zar,zgW,toD,zaz,Q23,Q24,Q25,Q26,Q27,Q28,Nat.reduceLeDiff,Q29,Nat.reduceSub,Q30,Q31,Q32,sc,Q33,Q34,Q35,Bool.and_false,Bool.and_self,Bool.false_and,Bool.not_false,Bool.not_true,Bool.true_and,Int.toNat_natCast,Int.toNat_zero,List.drop_zero,List.length_map,List.length_nil,List.nil_append,List.take_length,Nat.sub_zero,Nat.zero_add,Option.isSome_none,Option.isSome_some,Option.map_none,Option.map_some,zX,beq_self_eq_true,bne_self_eq_false,bytesE,zco,zdR,opA,a];rfl):P:=(e a).mpr h
theorem c_Put {σ:List zd} {b:List UInt8} {o:TOp} (hb:b.length<=268435456) (ho:zlf o<=268435456) {K:KT} (hK:K (.d (.slice (bcs (b++if zcT zjG o=0 then opB o else [])))) σ) :
  zj Tryz.prog zAf [.d (.slice (bcs b)),opA o] σ K:=by
 refine zeE e_op_Put fun hl => ?_
 have hsz:=ho
 simp only [zlf] at hsz
 have hrl:=zmG o.recs
 simp only [S_op_Put,iN,bT,bF,eN,opA]
 (refine zyT ?_;try with_reducible exact True.intro)
 refine zgi zez (by simp [bcs];omega) ?_
 (refine zyT ?_;try with_reducible exact True.intro)
 refine c_Check (o:=o) (by omega) (by omega) (by omega) ?_
 (refine zyT ?_;try with_reducible exact True.intro)
 refine zV (fun h => ?_) (fun h => ?_)
 ·refine zt hl ?_
  (try simp only [decide_eq_true_eq,decide_eq_false_iff_not,beq_iff_eq,beq_eq_false_iff_ne,bne_iff_ne,ne_eq,Bool.not_eq_true',Bool.not_eq_false',bne_eq_false_iff_eq] at *)
  rw [if_neg h,List.append_nil] at hK
  exact hK
 have hc:zcT zjG o=0:=by (try simp only [decide_eq_true_eq,decide_eq_false_iff_not,beq_iff_eq,beq_eq_false_iff_ne,bne_iff_ne,ne_eq,Bool.not_eq_true',Bool.not_eq_false',bne_eq_false_iff_eq] at *);omega
 obtain ⟨k0,k4,o0,o1,hon⟩:=zvv hc
 rw [if_pos hc] at hK
 have hkn:=zm (n:=o.kind.toNat) (by omega)
 have hon':=zm (n:=o.offset.toNat) (by omega)
 have hrn:=zm (n:=o.recs.length) (by omega)
 have htp:=ziv (x:=o.topic) (by omega)
 have hgp:=ziv (x:=o.group) (by omega)
 (refine gq34 (u64_of k0 (by omega)) ?_;try with_reducible exact True.intro)
 refine zfe (by omega) (by omega) ?_
 have wo:=u64_of o0 (by omega:o.offset<9223372036854775808)
 have wl:IntKind.u64.wrap ((zeU o.recs).length:Int)=(o.recs.length:Int):=by rw [zU];exact zdq (by omega)
 have wl':IntKind.u64.wrap (o.recs.length:Int)=(o.recs.length:Int):=zdq (by omega)
 repeat' first
  | (refine gq45 (gqc3 wo (gqc3 wl wl')) ?_;try with_reducible exact True.intro)
  | (refine zV (fun h => ?_) (fun h => ?_)<;>(try rw [h]))
  | ((with_reducible refine And.intro ?_ ?_);focus (first|omega|rfl|decide))
  | refine zpS (by omega) (by simp only [zup,List.length_append] at *;omega) ?_
  | refine zfe (by omega) (by simp only [zup,List.length_append] at *;omega) ?_
 -- the ways that end
 all_goals first
  | (exfalso;(try simp only [decide_eq_true_eq,decide_eq_false_iff_not,beq_iff_eq,beq_eq_false_iff_ne,bne_iff_ne,ne_eq,Bool.not_eq_true',Bool.not_eq_false',bne_eq_false_iff_eq] at *);omega)
  | (
   refine zt hl ?_
   (try simp only [decide_eq_true_eq,decide_eq_false_iff_not,beq_iff_eq,beq_eq_false_iff_ne,bne_iff_ne,ne_eq,Bool.not_eq_true',Bool.not_eq_false',bne_eq_false_iff_eq] at *)
   simp only [zcq,dmT,dm,dm1]
   (first|rw [opB_0 (by omega)] at hK|rw [opB_1 (by omega)] at hK|rw [opB_3 (by omega)] at hK|rw [opB_4 (by omega)] at hK)
   exact hK)
  | skip
 -- the records
 have hk2:o.kind=2:=by (try simp only [decide_eq_true_eq,decide_eq_false_iff_not,beq_iff_eq,beq_eq_false_iff_ne,bne_iff_ne,ne_eq,Bool.not_eq_true',Bool.not_eq_false',bne_eq_false_iff_eq] at *);omega
 rw [opB_2 hk2] at hK
 refine zl o.recs.length (fun k vs s => ∃ t τ,vs = [.own t (bcs (b++(zcA o.kind.toNat++(zcA o.topic.length++(o.topic++(zcA o.recs.length++ztf (o.recs.take k))))))),.d (.int .i64 k)]/\s = σ ++ τ) ⟨σ.length+4,_,by rw [List.take_zero,show ztf [] = [] from rfl,List.append_nil];rfl,rfl⟩ ?_
 rintro k vs s hk ⟨t, τ,rfl,rfl⟩
 (refine zyT ?_;try with_reducible exact True.intro)
 refine zV (fun h => ?_) (fun h => ?_)
 ·have hka:k<o.recs.length:=by (try simp only [decide_eq_true_eq,decide_eq_false_iff_not,beq_iff_eq,beq_eq_false_iff_ne,bne_iff_ne,ne_eq,Bool.not_eq_true',Bool.not_eq_false',bne_eq_false_iff_eq] at *);omega
  have hx:o.recs[k]? = some o.recs[k]:=by simp [hka]
  have hle:=rec_le (List.getElem_mem hka)
  have htl:=zlB o.recs (by omega) k
  (refine gq34 (zfM hx) ?_;try with_reducible exact True.intro)
  refine And.intro (by omega) (zpS (by omega) (by simp only [zup,List.length_append] at *;omega) ?_)
  (refine zyT ?_;try with_reducible exact True.intro)
  refine zan.next hka ⟨σ.length + τ.length,_,?_,rfl⟩
  rw [zab (by omega) (by omega),zyB hx]
  simp only [zup,List.append_assoc]
  rfl
 ·have hke:k=o.recs.length:=by (try simp only [decide_eq_true_eq,decide_eq_false_iff_not,beq_iff_eq,beq_eq_false_iff_ne,bne_iff_ne,ne_eq,Bool.not_eq_true',Bool.not_eq_false',bne_eq_false_iff_eq] at *);omega
  subst hke
  refine zt hl ?_
  rw [List.take_length]
  exact hK
theorem c_rPut {σ:List zd} {b:List UInt8} {o:TOp} (hb:b.length<=268435456) (ho:zlf o<=268435456) {K:KT} (hK:K (.d (.slice (bcs (b++if zcT zjG o=0 then opB o else [])))) σ) :
  zj Tryz.prog zvT [.d (.slice (bcs b)),opA o] σ K:=by
 refine zeE e_r06_Put fun hl => ?_
 have hsz:=ho
 simp only [zlf] at hsz
 have hrl:=zmG o.recs
 simp only [S_r06_Put,iN,bT,bF,eN,opA]
 (refine zyT ?_;try with_reducible exact True.intro)
 refine c_rCheck (o:=o) (by omega) (by omega) (by omega) ?_
 (refine zyT ?_;try with_reducible exact True.intro)
 refine zV (fun h => ?_) (fun h => ?_)
 ·refine zt hl ?_
  (try simp only [decide_eq_true_eq,decide_eq_false_iff_not,beq_iff_eq,beq_eq_false_iff_ne,bne_iff_ne,ne_eq,Bool.not_eq_true',Bool.not_eq_false',bne_eq_false_iff_eq] at *)
  rw [if_neg h,List.append_nil] at hK
  exact hK
 have hc:zcT zjG o=0:=by (try simp only [decide_eq_true_eq,decide_eq_false_iff_not,beq_iff_eq,beq_eq_false_iff_ne,bne_iff_ne,ne_eq,Bool.not_eq_true',Bool.not_eq_false',bne_eq_false_iff_eq] at *);omega
 obtain ⟨k0,k4,o0,o1,hon⟩:=zvv hc
 rw [if_pos hc] at hK
 have hkn:=zm (n:=o.kind.toNat) (by omega)
 have hon':=zm (n:=o.offset.toNat) (by omega)
 have hrn:=zm (n:=o.recs.length) (by omega)
 have htp:=ziv (x:=o.topic) (by omega)
 have hgp:=ziv (x:=o.group) (by omega)
 (refine gq34 (u64_of k0 (by omega)) ?_;try with_reducible exact True.intro)
 refine c_fields ?_
 (refine gq34 (u64_of k0 (by omega)) ?_;try with_reducible exact True.intro)
 refine zfX (by omega) (by omega) ?_
 have wo:=u64_of o0 (by omega:o.offset<9223372036854775808)
 have wl:IntKind.u64.wrap ((zeU o.recs).length:Int)=(o.recs.length:Int):=by rw [zU];exact zdq (by omega)
 have wl':IntKind.u64.wrap (o.recs.length:Int)=(o.recs.length:Int):=zdq (by omega)
 have f1:zoH o.kind=true↔o.kind≠0:=by simp [zoH];omega
 have f2:zsf o.kind=true↔o.kind=3:=by simp [zsf]
 have f3:fOff o.kind=true↔(o.kind=3∨o.kind=4):=by simp [fOff]
 have f4:zAo o.kind=true↔o.kind=2:=by simp [zAo]
 repeat' first
  | (refine gq45 (gqc3 wo (gqc3 wl wl')) ?_;try with_reducible exact True.intro)
  | (refine zV (fun h => ?_) (fun h => ?_)<;>(try rw [h]))
  | ((with_reducible refine And.intro ?_ ?_);focus (first|omega|rfl|decide))
  | refine zrq (by omega) (by simp only [zup,List.length_append] at *;omega) ?_
  | refine zfX (by omega) (by simp only [zup,List.length_append] at *;omega) ?_
 -- the ways that end,those that can't be
 all_goals first
  | (exfalso;clear hK;grind)
  | (
   refine zt hl ?_
   (try simp only [decide_eq_true_eq,decide_eq_false_iff_not,beq_iff_eq,beq_eq_false_iff_ne,bne_iff_ne,ne_eq,Bool.not_eq_true',Bool.not_eq_false',bne_eq_false_iff_eq] at *)
   simp only [zcq,dmT,dm,dm1]
   (first|rw [opB_0 (by grind)] at hK|rw [opB_1 (by grind)] at hK|rw [opB_3 (by grind)] at hK|rw [opB_4 (by grind)] at hK)
   exact hK)
  | skip
 -- the records
 have hk2:o.kind=2:=by grind
 rw [opB_2 hk2] at hK
 refine zl o.recs.length (fun k vs s => ∃ t τ,vs = [.own t (bcs (b++(zcA o.kind.toNat++(zcA o.topic.length++(o.topic++(zcA o.recs.length++ztf (o.recs.take k))))))),.d (.int .i64 k)]/\s = σ ++ .box [.d (.int .i64 o.kind),.d (.str o.topic),.d (.str o.group),.d (.int .i64 o.offset),.d (.slice (zeU o.recs))]::τ)
  ⟨σ.length+3,_,by rw [List.take_zero,show ztf [] = [] from rfl,List.append_nil];rfl,rfl⟩ ?_
 rintro k vs s hk ⟨t, τ,rfl,rfl⟩
 (refine zyT ?_;try with_reducible exact True.intro)
 refine zV (fun h => ?_) (fun h => ?_)
 ·have hka:k<o.recs.length:=by (try simp only [decide_eq_true_eq,decide_eq_false_iff_not,beq_iff_eq,beq_eq_false_iff_ne,bne_iff_ne,ne_eq,Bool.not_eq_true',Bool.not_eq_false',bne_eq_false_iff_eq] at *);omega
  have hx:o.recs[k]? = some o.recs[k]:=by simp [hka]
  have hle:=rec_le (List.getElem_mem hka)
  have htl:=zlB o.recs (by omega) k
  (refine gq34 (zfM hx) ?_;try with_reducible exact True.intro)
  refine And.intro (by omega) (zrq (by omega) (by simp only [zup,List.length_append] at *;omega) ?_)
  (refine zyT ?_;try with_reducible exact True.intro)
  refine zan.next hka ⟨σ.length+(τ.length+1),_,?_,rfl⟩
  rw [zab (by omega) (by omega),zyB hx]
  simp only [zup,List.append_assoc]
  rfl
 ·have hke:k=o.recs.length:=by (try simp only [decide_eq_true_eq,decide_eq_false_iff_not,beq_iff_eq,beq_eq_false_iff_ne,bne_iff_ne,ne_eq,Bool.not_eq_true',Bool.not_eq_false',bne_eq_false_iff_eq] at *);omega
  subst hke
  refine zt hl ?_
  rw [List.take_length]
  exact hK
end Go.Proofs.YtpgahkdjkanblaaGreat
