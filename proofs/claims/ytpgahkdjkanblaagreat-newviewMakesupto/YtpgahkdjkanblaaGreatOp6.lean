/- Contracts: an operation's bytes. -/
import Derived.Test.YtpgahkdjkanblaaGreatCodec1
import Derived.Test.YtpgahkdjkanblaaGreatCk2
import Derived.Test.YtpgahkdjkanblaaGreatSpTab
set_option linter.all false
set_option maxRecDepth 100000
namespace Go.Proofs.YtpgahkdjkanblaaGreat
open Go.AW
theorem u64_of {n:Int} (h:0<=n) (h2:n<9223372036854775808):IntKind.u64.wrap n=(n.toNat:Int):=by
 obtain ⟨m,rfl⟩:=Int.eq_ofNat_of_zero_le h
 rw [Int.toNat_natCast];exact zdq (by omega)
theorem bytesE (s:List UInt8):s.map zcQ=bcs s:=rfl
theorem gq67 {A P Q:Prop} (a:A) (h:Q) (e:A->P=Q:=by intro a;simp -dsimp only [↓zeN, ↓zav, ↓zbq, ↓zeO, ↓zeH, ↓zeF, ↓zeI, ↓zeG, ↓zbv, ↓zbr, ↓zbw, ↓zbs, ↓zeJ, ↓zbp, ↓zbx, ↓zbt, ↓zby, ↓zbu, ↓zeE, ↓zeM, ↓zbo, ↓zbz, ↓zeC, ↓zeB, ↓zeD,iN,bT,bF,eN, ↓zcB, ↓unC, ↓zV, ↓zM, ↓zN, ↓zQ, ↓zY, ↓zal, ↓zdb, ↓zak, ↓zaH, ↓zT, ↓zf, ↓zj, ↓zbZ, ↓zb, ↓zag, ↓zE, ↓zaI, ↓zaO, ↓zc, ↓zy, ↓zl, ↓zG, ↓zaa, ↓zdm, ↓zdw, ↓zaj, ↓zar, ↓zaK, ↓zaS, ↓zaY, ↓zq, ↓zai, ↓zO, ↓zu, ↓zX,zdx,zbg,zbb,unA,zdd,bnd,zdY,zaf,zP,zdR,dm,dm1,zA,zae,zeh,zeg,zI,Q0,Q1,Q2,Q3,Q4,Q5,zZ,zC,zt,zL,zF,Q6,Q7,Q8,Q9,Q10,Q11,Q12,Q13,Q14,Nat.reduceAdd,Q15,Int.reduceToNat,Q16,Q17,Q18,Q19,Q20,reduceIte,Q21,Q22,zH,rep,zac,zel,toD,zah,Q23,Q24,Q25,Q26,Q27,Q28,Nat.reduceLeDiff,Q29,Nat.reduceSub,Q30,Q31,Q32,sc,Q33,Q34,Q35,bytesE,a];rfl):P:=(e a).mpr h
theorem c_Put {σ:List zh} {b:List UInt8} {o:TOp} (hb:b.length<=268435456) (ho:zlh o<=268435456) {K:KT} (hK:K (.d (.slice (bcs (b++if zcP zjN o=0 then opB o else [])))) σ) :
  zo Tryz.prog zzN [.d (.slice (bcs b)),opA o] σ K:=by
 refine zd e_op_Put.is rfl fun hl _=>e_op_Put.goes ?_
 have hsz:=ho
 simp only [zlh] at hsz
 have hrl:=zmR o.recs
 simp only [S_op_Put,iN,bT,bF,eN,opA]
 (refine zyk ?_;try with_reducible exact True.intro)
 refine zgm zgs (by simp [bcs];omega) ?_
 (refine zyk ?_;try with_reducible exact True.intro)
 refine c_Check (o:=o) (by omega) (by omega) (by omega) ?_
 (refine zyk ?_;try with_reducible exact True.intro)
 refine zad (fun h => ?_) (fun h => ?_)
 ·refine zw hl ?_
  (try simp only [decide_eq_true_eq,decide_eq_false_iff_not,beq_iff_eq,beq_eq_false_iff_ne,bne_iff_ne,ne_eq,Bool.not_eq_true',Bool.not_eq_false',bne_eq_false_iff_eq] at *)
  rw [if_neg h,List.append_nil] at hK
  exact hK
 have hc:zcP zjN o=0:=by (try simp only [decide_eq_true_eq,decide_eq_false_iff_not,beq_iff_eq,beq_eq_false_iff_ne,bne_iff_ne,ne_eq,Bool.not_eq_true',Bool.not_eq_false',bne_eq_false_iff_eq] at *);omega
 obtain ⟨k0,k4,o0,o1,hon⟩:=zvk hc
 rw [if_pos hc] at hK
 have hkn:=zp (n:=o.kind.toNat) (by omega)
 have hon':=zp (n:=o.offset.toNat) (by omega)
 have hrn:=zp (n:=o.recs.length) (by omega)
 have htp:=ziw (x:=o.topic) (by omega)
 have hgp:=ziw (x:=o.group) (by omega)
 (refine gq46 (u64_of k0 (by omega)) ?_;try with_reducible exact True.intro)
 refine zfr (by omega) (by omega) ?_
 have wo:=u64_of o0 (by omega:o.offset<9223372036854775808)
 have wl:IntKind.u64.wrap ((zgp o.recs).length:Int)=(o.recs.length:Int):=by rw [zH];exact zdq (by omega)
 have wl':IntKind.u64.wrap (o.recs.length:Int)=(o.recs.length:Int):=zdq (by omega)
 repeat' first
  | (refine gq67 (gqc3 wo (gqc3 wl wl')) ?_;try with_reducible exact True.intro)
  | (refine zad (fun h => ?_) (fun h => ?_) <;> (try rw [h]))
  | ((with_reducible refine And.intro ?_ ?_);focus (first | omega | rfl | decide))
  | refine zqu (by omega) (by simp only [zul,List.length_append] at *;omega) ?_
  | refine zfr (by omega) (by simp only [zul,List.length_append] at *;omega) ?_
 -- the ways that end
 all_goals first
  | (exfalso;(try simp only [decide_eq_true_eq,decide_eq_false_iff_not,beq_iff_eq,beq_eq_false_iff_ne,bne_iff_ne,ne_eq,Bool.not_eq_true',Bool.not_eq_false',bne_eq_false_iff_eq] at *);omega)
  | (
   refine zw hl ?_
   (try simp only [decide_eq_true_eq,decide_eq_false_iff_not,beq_iff_eq,beq_eq_false_iff_ne,bne_iff_ne,ne_eq,Bool.not_eq_true',Bool.not_eq_false',bne_eq_false_iff_eq] at *)
   simp only [zcO,dmT,dm,dm1]
   (first | rw [opB_0 (by omega)] at hK | rw [opB_1 (by omega)] at hK | rw [opB_3 (by omega)] at hK | rw [opB_4 (by omega)] at hK)
   exact hK)
  | skip
 -- the records
 have hk2:o.kind=2:=by (try simp only [decide_eq_true_eq,decide_eq_false_iff_not,beq_iff_eq,beq_eq_false_iff_ne,bne_iff_ne,ne_eq,Bool.not_eq_true',Bool.not_eq_false',bne_eq_false_iff_eq] at *);omega
 rw [opB_2 hk2] at hK
 refine zm o.recs.length (fun k vs s => ∃ t τ,vs = [.own t (bcs (b++(zcI o.kind.toNat++(zcI o.topic.length++(o.topic++(zcI o.recs.length++ztn (o.recs.take k))))))),.d (.int .i64 k)]/\s = σ ++ τ) ⟨σ.length+4,_,by rw [List.take_zero,show ztn [] = [] from rfl,List.append_nil];rfl,rfl⟩ ?_
 rintro k vs s hk ⟨t, τ,rfl,rfl⟩
 (refine zyk ?_;try with_reducible exact True.intro)
 refine zad (fun h => ?_) (fun h => ?_)
 ·have hka:k<o.recs.length:=by (try simp only [decide_eq_true_eq,decide_eq_false_iff_not,beq_iff_eq,beq_eq_false_iff_ne,bne_iff_ne,ne_eq,Bool.not_eq_true',Bool.not_eq_false',bne_eq_false_iff_eq] at *);omega
  have hx:o.recs[k]? = some o.recs[k]:=by simp [hka]
  have hle:=rec_le (List.getElem_mem hka)
  have htl:=zlP o.recs (by omega) k
  (refine gq46 (zgt hx) ?_;try with_reducible exact True.intro)
  refine And.intro (by omega) (zqu (by omega) (by simp only [zul,List.length_append] at *;omega) ?_)
  (refine zyk ?_;try with_reducible exact True.intro)
  refine zaz.next hka ⟨σ.length + τ.length,_,?_,rfl⟩
  rw [zas (by omega) (by omega),zxS hx]
  simp only [zul,List.append_assoc]
  rfl
 ·have hke:k=o.recs.length:=by (try simp only [decide_eq_true_eq,decide_eq_false_iff_not,beq_iff_eq,beq_eq_false_iff_ne,bne_iff_ne,ne_eq,Bool.not_eq_true',Bool.not_eq_false',bne_eq_false_iff_eq] at *);omega
  subst hke
  refine zw hl ?_
  rw [List.take_length]
  exact hK
theorem c_rPut {σ:List zh} {b:List UInt8} {o:TOp} (hb:b.length<=268435456) (ho:zlh o<=268435456) {K:KT} (hK:K (.d (.slice (bcs (b++if zcP zjN o=0 then opB o else [])))) σ) :
  zo Tryz.prog zvI [.d (.slice (bcs b)),opA o] σ K:=by
 refine zd e_r06_Put.is rfl fun hl _=>e_r06_Put.goes ?_
 have hsz:=ho
 simp only [zlh] at hsz
 have hrl:=zmR o.recs
 simp only [S_r06_Put,iN,bT,bF,eN,opA]
 (refine zyk ?_;try with_reducible exact True.intro)
 refine c_rCheck (o:=o) (by omega) (by omega) (by omega) ?_
 (refine zyk ?_;try with_reducible exact True.intro)
 refine zad (fun h => ?_) (fun h => ?_)
 ·refine zw hl ?_
  (try simp only [decide_eq_true_eq,decide_eq_false_iff_not,beq_iff_eq,beq_eq_false_iff_ne,bne_iff_ne,ne_eq,Bool.not_eq_true',Bool.not_eq_false',bne_eq_false_iff_eq] at *)
  rw [if_neg h,List.append_nil] at hK
  exact hK
 have hc:zcP zjN o=0:=by (try simp only [decide_eq_true_eq,decide_eq_false_iff_not,beq_iff_eq,beq_eq_false_iff_ne,bne_iff_ne,ne_eq,Bool.not_eq_true',Bool.not_eq_false',bne_eq_false_iff_eq] at *);omega
 obtain ⟨k0,k4,o0,o1,hon⟩:=zvk hc
 rw [if_pos hc] at hK
 have hkn:=zp (n:=o.kind.toNat) (by omega)
 have hon':=zp (n:=o.offset.toNat) (by omega)
 have hrn:=zp (n:=o.recs.length) (by omega)
 have htp:=ziw (x:=o.topic) (by omega)
 have hgp:=ziw (x:=o.group) (by omega)
 (refine gq46 (u64_of k0 (by omega)) ?_;try with_reducible exact True.intro)
 refine c_fields ?_
 (refine gq46 (u64_of k0 (by omega)) ?_;try with_reducible exact True.intro)
 refine zgd (by omega) (by omega) ?_
 have wo:=u64_of o0 (by omega:o.offset<9223372036854775808)
 have wl:IntKind.u64.wrap ((zgp o.recs).length:Int)=(o.recs.length:Int):=by rw [zH];exact zdq (by omega)
 have wl':IntKind.u64.wrap (o.recs.length:Int)=(o.recs.length:Int):=zdq (by omega)
 have f1:zpf o.kind=true ↔ o.kind ≠ 0:=by simp [zpf];omega
 have f2:zso o.kind=true ↔ o.kind=3:=by simp [zso]
 have f3:fOff o.kind=true ↔ (o.kind=3 ∨ o.kind=4):=by simp [fOff]
 have f4:zzY o.kind=true ↔ o.kind=2:=by simp [zzY]
 repeat' first
  | (refine gq67 (gqc3 wo (gqc3 wl wl')) ?_;try with_reducible exact True.intro)
  | (refine zad (fun h => ?_) (fun h => ?_) <;> (try rw [h]))
  | ((with_reducible refine And.intro ?_ ?_);focus (first | omega | rfl | decide))
  | refine zrE (by omega) (by simp only [zul,List.length_append] at *;omega) ?_
  | refine zgd (by omega) (by simp only [zul,List.length_append] at *;omega) ?_
 -- the ways that end,those that can't be
 all_goals first
  | (exfalso;clear hK;grind)
  | (
   refine zw hl ?_
   (try simp only [decide_eq_true_eq,decide_eq_false_iff_not,beq_iff_eq,beq_eq_false_iff_ne,bne_iff_ne,ne_eq,Bool.not_eq_true',Bool.not_eq_false',bne_eq_false_iff_eq] at *)
   simp only [zcO,dmT,dm,dm1]
   (first | rw [opB_0 (by grind)] at hK | rw [opB_1 (by grind)] at hK | rw [opB_3 (by grind)] at hK | rw [opB_4 (by grind)] at hK)
   exact hK)
  | skip
 -- the records
 have hk2:o.kind=2:=by grind
 rw [opB_2 hk2] at hK
 refine zm o.recs.length (fun k vs s => ∃ t τ,vs = [.own t (bcs (b++(zcI o.kind.toNat++(zcI o.topic.length++(o.topic++(zcI o.recs.length++ztn (o.recs.take k))))))),.d (.int .i64 k)]/\s = σ ++ .box [.d (.int .i64 o.kind),.d (.str o.topic),.d (.str o.group),.d (.int .i64 o.offset),.d (.slice (zgp o.recs))] :: τ)
  ⟨σ.length+3,_,by rw [List.take_zero,show ztn [] = [] from rfl,List.append_nil];rfl,rfl⟩ ?_
 rintro k vs s hk ⟨t, τ,rfl,rfl⟩
 (refine zyk ?_;try with_reducible exact True.intro)
 refine zad (fun h => ?_) (fun h => ?_)
 ·have hka:k<o.recs.length:=by (try simp only [decide_eq_true_eq,decide_eq_false_iff_not,beq_iff_eq,beq_eq_false_iff_ne,bne_iff_ne,ne_eq,Bool.not_eq_true',Bool.not_eq_false',bne_eq_false_iff_eq] at *);omega
  have hx:o.recs[k]? = some o.recs[k]:=by simp [hka]
  have hle:=rec_le (List.getElem_mem hka)
  have htl:=zlP o.recs (by omega) k
  (refine gq46 (zgt hx) ?_;try with_reducible exact True.intro)
  refine And.intro (by omega) (zrE (by omega) (by simp only [zul,List.length_append] at *;omega) ?_)
  (refine zyk ?_;try with_reducible exact True.intro)
  refine zaz.next hka ⟨σ.length+(τ.length+1),_,?_,rfl⟩
  rw [zas (by omega) (by omega),zxS hx]
  simp only [zul,List.append_assoc]
  rfl
 ·have hke:k=o.recs.length:=by (try simp only [decide_eq_true_eq,decide_eq_false_iff_not,beq_iff_eq,beq_eq_false_iff_ne,bne_iff_ne,ne_eq,Bool.not_eq_true',Bool.not_eq_false',bne_eq_false_iff_eq] at *);omega
  subst hke
  refine zw hl ?_
  rw [List.take_length]
  exact hK
end Go.Proofs.YtpgahkdjkanblaaGreat

/- Contracts: the bytes of requests, signatures and batches. -/
set_option maxRecDepth 100000
namespace Go.Proofs.YtpgahkdjkanblaaGreat
open Go.AW
def keyF (c:Int):Int:=if c<0 ∨ c ≥ 8 then -1 else 13+c
theorem c_rqKey {σ:List zh} {c:Int} {K:KT} (hK:K (.d (.int .i64 (keyF c))) σ):zo Tryz.prog zmT [.d (.int .i64 c)] σ K:=by
 refine zd zss.is rfl fun hl _=>zss.goes ?_
 simp only [zsQ,iN,bT,bF,eN]
 (repeat' (first | (refine gq3 ?_;try with_reducible exact True.intro) | (refine zad (fun h => ?_) (fun h => ?_) <;> (try rw [h])) | ((with_reducible refine And.intro ?_ ?_);focus (first | omega | rfl | decide))))
 all_goals (
  refine zw hl ?_
  (try simp only [decide_eq_true_eq,decide_eq_false_iff_not,beq_iff_eq,beq_eq_false_iff_ne,bne_iff_ne,ne_eq,Bool.not_eq_true',Bool.not_eq_false',bne_eq_false_iff_eq] at *)
  unfold keyF at hK)
 ·rw [if_pos (by omega)] at hK;exact hK
 ·rw [if_pos (by omega)] at hK;exact hK
 ·rw [if_neg (by omega)] at hK;rw [zas (by omega) (by omega)];exact hK
theorem ztj {x:zJ} (h:zlh x.op<=20971520):okO x.op:=by
 have h0:=h
 unfold zlh at h
 refine ⟨by omega,by omega,?_,fun r hr => ?_⟩
 ·have:=zmR x.op.recs;omega
 ·have:=rec_le hr;omega
theorem zwI {σ:List zh} {x:zJ} (hx:zlh x.op<=20971520) {K:KT} (hK:K (.tup [.d (.slice (bcs (zbV x))),.d (.int .i64 (zaq x))]) σ):zo Tryz.prog zhd [reqA x] σ K:=by
 refine zd zpl.is rfl fun hl _=>zpl.goes ?_
 have hsz:=ztj hx
 simp only [zpK,iN,bT,bF,eN,reqA]
 refine zab ?_
 refine c_rqCheck (x:=x) hsz ?_
 by_cases hc:zaq x=0
 ·obtain ⟨c0,c8,t1,t2,ho⟩:=req_ok hc
  have hb:(zaq x != 0)=false:=by simpa using hc
  have n1:=zp (n:=x.client.toNat) (by omega)
  have n2:=zp (n:=x.time.toNat) (by omega)
  have w1:IntKind.u64.wrap x.client=((x.client.toNat:Nat):Int):=by
   rw [show x.client=((x.client.toNat:Nat):Int) by omega,zdq (by omega)];rfl
  have w2:IntKind.u64.wrap x.time=((x.time.toNat:Nat):Int):=by
   rw [show x.time=((x.time.toNat:Nat):Int) by omega,zdq (by omega)];rfl
  rw [hc,zbV,if_pos hc] at hK
  refine zB (ze hb (ze w1 w2)) ?_
  refine zfr (b := []) (by omega) (by simp) ?_
  refine zB (ze w1 w2) ?_
  refine zfr (by omega) (by first | omega | (simp;omega)) ?_
  refine zB (ze w1 w2) ?_
  refine c_Put (o:=x.op) (by first | omega | (simp;omega)) (by omega) ?_
  refine zab ?_
  refine zw hl ?_
  rw [if_pos ho]
  exact hK
 ·have hb:(zaq x != 0)=true:=by simpa using hc
  rw [zbV,if_neg hc] at hK
  refine zB hb ?_
  refine zw hl ?_
  exact hK
theorem zyQ {σ:List zh} {x:zJ} (hx:zlh x.op<=20971520) {K:KT} (hK:K (.tup [.d (.slice (bcs (zbV x))),.d (.int .i64 (zaq x))]) σ):zo Tryz.prog zmX [reqA x] σ K:=by
 refine zd zwo.is rfl fun hl _=>zwo.goes ?_
 have hsz:=ztj hx
 simp only [zxg,iN,bT,bF,eN,reqA]
 refine zab ?_
 refine zyP (x:=x) hsz ?_
 by_cases hc:zaq x=0
 ·obtain ⟨c0,c8,t1,t2,ho⟩:=req_ok hc
  have hb:(zaq x != 0)=false:=by simpa using hc
  have n1:=zp (n:=x.client.toNat) (by omega)
  have n2:=zp (n:=x.time.toNat) (by omega)
  have w1:IntKind.u64.wrap x.client=((x.client.toNat:Nat):Int):=by
   rw [show x.client=((x.client.toNat:Nat):Int) by omega,zdq (by omega)];rfl
  have w2:IntKind.u64.wrap x.time=((x.time.toNat:Nat):Int):=by
   rw [show x.time=((x.time.toNat:Nat):Int) by omega,zdq (by omega)];rfl
  rw [hc,zbV,if_pos hc] at hK
  refine zB (ze hb (ze w1 w2)) ?_
  refine zgd (b := []) (by omega) (by simp) ?_
  refine zB (ze w1 w2) ?_
  refine zgd (by omega) (by first | omega | (simp;omega)) ?_
  refine zB (ze w1 w2) ?_
  refine c_rPut (o:=x.op) (by first | omega | (simp;omega)) (by omega) ?_
  refine zab ?_
  refine zw hl ?_
  rw [if_pos ho]
  exact hK
 ·have hb:(zaq x != 0)=true:=by simpa using hc
  rw [zbV,if_neg hc] at hK
  refine zB hb ?_
  refine zw hl ?_
  exact hK
theorem c_PutSign {σ:List zh} {b:List UInt8} {k d:Int} (hb:b.length<=1073741700) {K:KT} (hK:K (.d (.slice (bcs (b++zbR k d)))) σ) :
  zo Tryz.prog zeX [.d (.slice (bcs b)),.agg [.d (.int .i64 k),.d (.int .i64 d)]] σ K:=by
 refine zd zgl.is rfl fun hl _=>zgl.goes ?_
 simp only [zit,iN,bT,bF,eN]
 refine zab ?_
 refine zet ?_
 by_cases hc:zS k d=0
 ·obtain ⟨k0,k1,d0,d1⟩:=zzB hc
  have hq:(zS k d != 0)=false:=by simpa using hc
  have n1:=zp (n:=k.toNat) (by omega)
  have w1:IntKind.u64.wrap k=((k.toNat:Nat):Int):=by
   rw [show k=((k.toNat:Nat):Int) by omega,zdq (by omega)];rfl
  have w2:IntKind.u64.wrap d=((d.toNat:Nat):Int):=by
   rw [show d=((d.toNat:Nat):Int) by omega,zdq (by omega)];rfl
  rw [zbR,if_pos hc] at hK
  refine zB (ze hq (ze w1 w2)) ?_
  refine zfr (by omega) (by omega) ?_
  refine zB (ze w1 w2) ?_
  refine zfr (by omega) (by first | omega | (simp;omega)) ?_
  refine zab ?_
  refine zw hl ?_
  exact hK
 ·have hq:(zS k d != 0)=true:=by simpa using hc
  rw [zbR,if_neg hc,List.append_nil] at hK
  refine zB hq ?_
  refine zgm zgs (by rw [zek];omega) ?_
  refine zab ?_
  refine zw hl ?_
  exact hK
theorem ziq {σ:List zh} {b:List UInt8} {k d:Int} (hb:b.length<=1073741700) {K:KT} (hK:K (.d (.slice (bcs (b++zbR k d)))) σ) :
  zo Tryz.prog zdA [.d (.slice (bcs b)),.agg [.d (.int .i64 k),.d (.int .i64 d)]] σ K:=by
 refine zd zsx.is rfl fun hl _=>zsx.goes ?_
 simp only [zsV,iN,bT,bF,eN]
 refine zab ?_
 refine zdg ?_
 by_cases hc:zS k d=0
 ·obtain ⟨k0,k1,d0,d1⟩:=zzB hc
  have hq:(zS k d != 0)=false:=by simpa using hc
  have n1:=zp (n:=k.toNat) (by omega)
  have w1:IntKind.u64.wrap k=((k.toNat:Nat):Int):=by
   rw [show k=((k.toNat:Nat):Int) by omega,zdq (by omega)];rfl
  have w2:IntKind.u64.wrap d=((d.toNat:Nat):Int):=by
   rw [show d=((d.toNat:Nat):Int) by omega,zdq (by omega)];rfl
  rw [zbR,if_pos hc] at hK
  refine zB (ze hq (ze w1 w2)) ?_
  refine zgd (by omega) (by omega) ?_
  refine zB (ze w1 w2) ?_
  refine zgd (by omega) (by first | omega | (simp;omega)) ?_
  refine zab ?_
  refine zw hl ?_
  exact hK
 ·have hq:(zS k d != 0)=true:=by simpa using hc
  rw [zbR,if_neg hc,List.append_nil] at hK
  refine zB hq ?_
  refine zw hl ?_
  exact hK
theorem c_partsPut {σ:List zh} {b:List UInt8} {l:List zJ} (hb:b.length<=268435456) (hs:∀ x ∈ l,zlh x.op<=20971520) (hc:zD l=0) {K:KT} (hK:K (.d (.slice (bcs (b++zcy l)))) σ) :
  zo Tryz.prog zfh [.d (.slice (zbj l)),.d (.slice (bcs b))] σ K:=by
 refine zd zfo.is rfl fun hl _=>zfo.goes ?_
 obtain ⟨h4,hm,_⟩:=zjX hc
 have n1:=zp (n:=l.length) (by omega)
 have w1:IntKind.u64.wrap (l.length:Int)=(l.length:Int):=zdq (by omega)
 simp only [zgO,iN,bT,bF,eN]
 refine zB w1 ?_
 refine zfr (by omega) (by omega) ?_
 refine zab ?_
 refine zfY l.length (fun k vs s=>(∃ T,s = σ++T)/\vs = [.d (.slice (bcs (b++(zcI l.length++zdu (l.take k))))),.d (.int .i64 k)])
  (.data 0 _ _ rfl rfl (.refl _ _)) ⟨⟨_,rfl⟩,by simp [zdu]⟩ ?_
 rintro k vs s hk ⟨⟨T,rfl⟩,rfl⟩
 by_cases hlt:k<l.length
 ·have hd:decide ((k:Int)<(l.length:Int))=true:=by simp;omega
  have hx:l[k]? = some l[k]:=by simp [hlt]
  have hgx:=zR (f:=zbc) hx
  have hxs:=hs _ (List.getElem_mem hlt)
  have hxm:=hm _ (List.getElem_mem hlt)
  obtain ⟨x,hxe⟩:∃ x,l[k]=x:=⟨_,rfl⟩
  rw [hxe] at hx hgx hxs hxm
  have hbl:=znu hs hc k
  have hrl:=zoM hxs
  have hpl:=ziw (x:=zbV x) (by omega)
  obtain ⟨S,hS⟩:∃ S, σ++T=S:=⟨_,rfl⟩
  rw [hS]
  refine zqn (ze hd hgx) ?_
  refine zwI (x:=x) hxs ?_
  refine zqn (ze hd hgx) ?_
  refine zqu (by omega) (by simp;omega) ?_
  refine zqn (ze hd hgx) ?_
  refine c_PutSign (by simp only [zul,List.length_append] at hpl ⊢;omega) ?_
  refine zB (wk1 k (by omega)) ?_
  refine zaz.next hlt ⟨⟨_,by rw [← hS,List.append_assoc]⟩,?_⟩
  rw [zlC hx]
  simp [oneB,zul,zbV,zbR,hxm.1,hxm.2]
 ·have hd:decide ((k:Int)<(l.length:Int))=false:=by simp;omega
  rw [List.take_of_length_le (by omega)]
  refine zB hd ?_
  refine zw hl ?_
  exact hK
theorem zyY {σ:List zh} {b:List UInt8} {l:List zJ} (hb:b.length<=268435456) (hs:∀ x ∈ l,zlh x.op<=20971520) (hl0:l.length<=1073741824) {K:KT} (hK:K (.d (.slice (bcs (b++zbY l)))) σ) :
  zo Tryz.prog zdn [.d (.slice (bcs b)),.d (.slice (zbj l))] σ K:=by
 refine zd zfL.is rfl fun hl _=>zfL.goes ?_
 have hok:okB l:=⟨hl0,fun x hx=>ztj (hs x hx)⟩
 simp only [zhz,iN,bT,bF,eN]
 refine zab ?_
 refine zgU hok ?_
 by_cases hc:zD l=0
 ·have hq:(zD l != 0)=false:=by simpa using hc
  rw [zbY,if_pos hc] at hK
  refine zB hq ?_
  refine c_partsPut hb hs hc ?_
  refine zab ?_
  refine zw hl ?_
  exact hK
 ·have hq:(zD l != 0)=true:=by simpa using hc
  rw [zbY,if_neg hc,List.append_nil] at hK
  refine zB hq ?_
  refine zgm zgs (by rw [zek];omega) ?_
  refine zab ?_
  refine zw hl ?_
  exact hK
theorem znp {σ:List zh} {b:List UInt8} {l:List zJ} (hb:b.length<=268435456) (hs:∀ x ∈ l,zlh x.op<=20971520) (hl0:l.length<=1073741824) {K:KT} (hK:K (.d (.slice (bcs (b++zbY l)))) σ) :
  zo Tryz.prog zdD [.d (.slice (bcs b)),.d (.slice (zbj l))] σ K:=by
 refine zd zqK.is rfl fun hl _=>zqK.goes ?_
 have hok:okB l:=⟨hl0,fun x hx=>ztj (hs x hx)⟩
 simp only [zqX,iN,bT,bF,eN]
 refine zab ?_
 refine zhx hok ?_
 by_cases hc:zD l=0
 ·have hq:(zD l != 0)=false:=by simpa using hc
  obtain ⟨h4,hm,_⟩:=zjX hc
  have n1:=zp (n:=l.length) (by omega)
  have w1:IntKind.u64.wrap (l.length:Int)=(l.length:Int):=zdq (by omega)
  rw [zbY,if_pos hc] at hK
  refine zB (ze hq w1) ?_
  refine zgd (by omega) (by omega) ?_
  refine zab ?_
  refine zfY l.length (fun k vs s=>(∃ T,s = σ++T)/\vs = [.d (.slice (bcs (b++(zcI l.length++zdu (l.take k))))),.d (.int .i64 k)])
   (.data 0 _ _ rfl rfl (.refl _ _)) ⟨⟨_,rfl⟩,by simp [zdu]⟩ ?_
  rintro k vs s hk ⟨⟨T,rfl⟩,rfl⟩
  by_cases hlt:k<l.length
  ·have hd:decide ((k:Int)<(l.length:Int))=true:=by simp;omega
   have hx:l[k]? = some l[k]:=by simp [hlt]
   have hgx:=zR (f:=zbc) hx
   have hxs:=hs _ (List.getElem_mem hlt)
   have hxm:=hm _ (List.getElem_mem hlt)
   obtain ⟨x,hxe⟩:∃ x,l[k]=x:=⟨_,rfl⟩
   rw [hxe] at hx hgx hxs hxm
   have hbl:=znu hs hc k
   have hrl:=zoM hxs
   have hpl:=ziw (x:=zbV x) (by omega)
   obtain ⟨S,hS⟩:∃ S, σ++T=S:=⟨_,rfl⟩
   rw [hS]
   refine zqn (ze hd hgx) ?_
   refine zyQ (x:=x) hxs ?_
   refine zqn (ze hd hgx) ?_
   refine zrE (by omega) (by simp;omega) ?_
   refine zqn (ze hd hgx) ?_
   refine ziq (by simp only [zul,List.length_append] at hpl ⊢;omega) ?_
   refine zB (wk1 k (by omega)) ?_
   refine zaz.next hlt ⟨⟨_,by rw [← hS,List.append_assoc]⟩,?_⟩
   rw [zlC hx]
   simp [oneB,zul,zbV,zbR,hxm.1,hxm.2]
  ·have hd:decide ((k:Int)<(l.length:Int))=false:=by simp;omega
   rw [List.take_of_length_le (by omega)]
   refine zB hd ?_
   refine zw hl ?_
   exact hK
 ·have hq:(zD l != 0)=true:=by simpa using hc
  rw [zbY,if_neg hc,List.append_nil] at hK
  refine zB hq ?_
  refine zw hl ?_
  exact hK
end Go.Proofs.YtpgahkdjkanblaaGreat
