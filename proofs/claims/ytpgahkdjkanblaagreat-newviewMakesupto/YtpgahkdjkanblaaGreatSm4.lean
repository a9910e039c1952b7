/- Contracts: messages that are the same, the program's. -/
import Derived.Test.YtpgahkdjkanblaaGreatSm2
import Derived.Test.YtpgahkdjkanblaaGreatSpMsg
set_option linter.all false
set_option maxRecDepth 100000
namespace Go.Proofs.YtpgahkdjkanblaaGreat
open Go.AW
theorem gq58 {A P Q:Prop} (a:A) (h:Q) (e:A->Hd Q->P:=by intro a h;(repeat' first | simp -dsimp only [↓zeN, ↓zav, ↓zbq, ↓zeO, ↓zeH, ↓zeF, ↓zeI, ↓zeG, ↓zbv, ↓zbr, ↓zbw, ↓zbs, ↓zeJ, ↓zbp, ↓zbx, ↓zbt, ↓zby, ↓zbu, ↓zeE, ↓zeM, ↓zbo, ↓zbz, ↓zeC, ↓zeB, ↓zeD,iN,bT,bF,eN, ↓zcB, ↓unC, ↓zV, ↓zM, ↓zN, ↓zQ, ↓zY, ↓zal, ↓zdb, ↓zak, ↓zaH, ↓zT, ↓zf, ↓zj, ↓zbZ, ↓zb, ↓zag, ↓zE, ↓zaI, ↓zaO, ↓zc, ↓zy, ↓zl, ↓zG, ↓zaa, ↓zdm, ↓zdw, ↓zaj, ↓zar, ↓zaK, ↓zaS, ↓zaY, ↓zq, ↓zai, ↓zO, ↓zu, ↓zX,zdx,zbg,zbb,unA,zdd,bnd,zdY,zaf,zP,zdR,dm,dm1,zA,zae,zeh,zeg,zI,Q0,Q1,Q2,Q3,Q4,Q5,zZ,zC,zt,zL,zF,Q6,Q7,Q8,Q9,Q10,Q11,Q12,Q13,Q14,Nat.reduceAdd,Q15,Int.reduceToNat,Q16,Q17,Q18,Q19,Q20,reduceIte,Q21,Q22,zH,rep,zac,zel,toD,zah,Q23,Q24,Q25,Q26,Q27,Q28,Nat.reduceLeDiff,Q29,Nat.reduceSub,Q30,Q31,Q32,sc,Q33,Q34,Q35,Q36,Q37,Q26,Q38,Q39,zoy,zov,zos,zoz,zfG,zow,zot,zox,zou,zfF,zfH,zoB,zoC,Bool.not_true,Bool.not_false,List.length_map,Bool.and_false,Bool.and_self,Bool.false_and,Bool.true_and,Option.isSome_none,Option.isSome_some,Option.map_none,Option.map_some,beq_self_eq_true,bne_self_eq_false,a] | with_reducible refine zoE ?_ | fail);exact h.go):P:=e a ⟨h⟩
theorem c_mSameProof {σ:List zh} {a b:znU} (ha:zzz a) {K:KT} (hK:K (.d (.bool (decide (a=b)))) σ):zo Tryz.prog zgJ [proofA a,proofA b] σ K:=by
 refine zd zkA.is rfl fun hl _=>zkA.goes ?_
 have fin:∀ z,decide (a=b)=z->K (.d (.bool z)) σ:=fun z h=>h ▸ hK
 clear hK
 simp only [zkQ,iN,bT,bF,eN]
 cases h1:(a.topic == b.topic)
 ·refine zB h1 ?_
  refine zw hl ?_
  exact fin _ (decide_eq_false fun h=>by subst h;simp at h1)
 cases h2:(a.offset == b.offset)
 ·refine zB (ze h1 h2) ?_
  refine zw hl ?_
  exact fin _ (decide_eq_false fun h=>by subst h;simp at h2)
 refine gq58 (ze h1 h2) ?_
 refine znr ?_
 cases h3:(a.rec_ == b.rec_)
 ·refine zB h3 ?_
  refine zw hl ?_
  exact fin _ (decide_eq_false fun h=>by subst h;simp at h3)
 refine gq58 h3 ?_
 refine c_eqHdr ha.headers ?_
 cases h4:decide (a.headers=b.headers)
 ·refine zB h4 ?_
  refine zw hl ?_
  exact fin _ (decide_eq_false fun h=>by subst h;simp at h4)
 cases h5:(a.index == b.index)
 ·refine zB (ze h4 h5) ?_
  refine zw hl ?_
  exact fin _ (decide_eq_false fun h=>by subst h;simp at h5)
 cases h6:(a.count == b.count)
 ·refine zB (ze h4 (ze h5 h6)) ?_
  refine zw hl ?_
  exact fin _ (decide_eq_false fun h=>by subst h;simp at h6)
 refine gq58 (ze h4 (ze h5 h6)) ?_
 refine c_eqDig ha.path ?_
 cases h7:decide (a.path=b.path)
 ·refine zB h7 ?_
  refine zw hl ?_
  exact fin _ (decide_eq_false fun h=>by subst h;simp at h7)
 refine gq58 h7 ?_
 refine zrF (a:=a.cert) (b:=b.cert) ha.signs ?_
 cases h8:decide (a.cert=b.cert)
 ·refine zB h8 ?_
  refine zw hl ?_
  exact fin _ (decide_eq_false fun h=>by subst h;simp at h8)
 refine zB h8 ?_
 refine zw hl ?_
 exact fin _ (decide_eq_true (by cases a;cases b;simp_all))
abbrev fltMA (a:zee):AV := .agg [.d (.int .i64 a.kind),.d (.int .i64 a.src),.d (.int .i64 a.client),.d (.int .i64 a.view),.d (.int .i64 a.seq),.d (.int .i64 a.time),.d (.int .i64 a.offset),.d (.int .i64 a.dig),.d (.int .i64 a.rerr),.d (.int .i64 a.roff),.d (.str a.topic),.d (.int .i64 a.key),.d (.int .i64 a.sdig)]
theorem c_flatOf {σ:List zh} {a:zee} {K:KT} (hK:K (fltMA a) σ):zo Tryz.prog zgC [zge a] σ K:=by
 refine zd znN.is rfl fun hl _=>znN.goes ?_
 simp only [zoj,iN,bT,bF,eN]
 refine zab ?_
 refine zw hl ?_
 exact hK
structure zbP (m:zee):Prop where
 batch:okB m.batch
 batchS:ziK m.batch
 signs:m.cert.signs.length<=1073741824
 changes:m.changes.length<=1073741824
 change:∀ c ∈ m.changes,okCh c/\zjM c
 entries:m.entries.length<=1073741824
 entry:∀ x ∈ m.entries,okB x.batch/\zti x
 proof:zzz m.proof
 topic:m.topic.length<=16777216
 state:m.state.length<=1073741824
theorem gq59 {A P Q:Prop} (a:A) (h:Q) (e:A->Hd Q->P:=by intro a h;(repeat' first | simp -dsimp only [↓zeN, ↓zav, ↓zbq, ↓zeO, ↓zeH, ↓zeF, ↓zeI, ↓zeG, ↓zbv, ↓zbr, ↓zbw, ↓zbs, ↓zeJ, ↓zbp, ↓zbx, ↓zbt, ↓zby, ↓zbu, ↓zeE, ↓zeM, ↓zbo, ↓zbz, ↓zeC, ↓zeB, ↓zeD,iN,bT,bF,eN, ↓zcB, ↓unC, ↓zV, ↓zM, ↓zN, ↓zQ, ↓zY, ↓zal, ↓zdb, ↓zak, ↓zaH, ↓zT, ↓zf, ↓zj, ↓zbZ, ↓zb, ↓zag, ↓zE, ↓zaI, ↓zaO, ↓zc, ↓zy, ↓zl, ↓zG, ↓zaa, ↓zdm, ↓zdw, ↓zaj, ↓zar, ↓zaK, ↓zaS, ↓zaY, ↓zq, ↓zai, ↓zO, ↓zu, ↓zX,zdx,zbg,zbb,unA,zdd,bnd,zdY,zaf,zP,zdR,dm,dm1,zA,zae,zeh,zeg,zI,Q0,Q1,Q2,Q3,Q4,Q5,zZ,zC,zt,zL,zF,Q6,Q7,Q8,Q9,Q10,Q11,Q12,Q13,Q14,Nat.reduceAdd,Q15,Int.reduceToNat,Q16,Q17,Q18,Q19,Q20,reduceIte,Q21,Q22,zH,rep,zac,zel,toD,zah,Q23,Q24,Q25,Q26,Q27,Q28,Nat.reduceLeDiff,Q29,Nat.reduceSub,Q30,Q31,Q32,sc,Q33,Q34,Q35,Q36,Q37,Q26,Q38,Q39,zoy,zov,zos,zoz,zfG,zow,zot,zox,zou,zfF,zfH,zoB,zoC,Bool.not_true,Bool.not_false,List.length_map,Option.map_none,Option.map_some,zfq,a] | with_reducible refine zoE ?_ | fail);exact h.go):P:=e a ⟨h⟩
theorem gq60 {A P Q:Prop} (a:A) (h:Q) (e:A->Hd Q->P:=by intro a h;(repeat' first | simp -dsimp only [↓zeN, ↓zav, ↓zbq, ↓zeO, ↓zeH, ↓zeF, ↓zeI, ↓zeG, ↓zbv, ↓zbr, ↓zbw, ↓zbs, ↓zeJ, ↓zbp, ↓zbx, ↓zbt, ↓zby, ↓zbu, ↓zeE, ↓zeM, ↓zbo, ↓zbz, ↓zeC, ↓zeB, ↓zeD,iN,bT,bF,eN, ↓zcB, ↓unC, ↓zV, ↓zM, ↓zN, ↓zQ, ↓zY, ↓zal, ↓zdb, ↓zak, ↓zaH, ↓zT, ↓zf, ↓zj, ↓zbZ, ↓zb, ↓zag, ↓zE, ↓zaI, ↓zaO, ↓zc, ↓zy, ↓zl, ↓zG, ↓zaa, ↓zdm, ↓zdw, ↓zaj, ↓zar, ↓zaK, ↓zaS, ↓zaY, ↓zq, ↓zai, ↓zO, ↓zu, ↓zX,zdx,zbg,zbb,unA,zdd,bnd,zdY,zaf,zP,zdR,dm,dm1,zA,zae,zeh,zeg,zI,Q0,Q1,Q2,Q3,Q4,Q5,zZ,zC,zt,zL,zF,Q6,Q7,Q8,Q9,Q10,Q11,Q12,Q13,Q14,Nat.reduceAdd,Q15,Int.reduceToNat,Q16,Q17,Q18,Q19,Q20,reduceIte,Q21,Q22,zH,rep,zac,zel,toD,zah,Q23,Q24,Q25,Q26,Q27,Q28,Nat.reduceLeDiff,Q29,Nat.reduceSub,Q30,Q31,Q32,sc,Q33,Q34,Q35,Q36,Q37,Q26,Q38,Q39,zoy,zov,zos,zoz,zfG,zow,zot,zox,zou,zfF,zfH,zoB,zoC,Bool.not_true,Bool.not_false,List.length_map,Option.map_none,Option.map_some,beq_self_eq_true,zfq,a] | with_reducible refine zoE ?_ | fail);exact h.go):P:=e a ⟨h⟩
theorem c_mSame {σ:List zh} {a b:zee} (ha:zbP a) (hb:zbP b) {K:KT} (hK:K (.d (.bool (decide (a=b)))) σ):zo Tryz.prog zlS [zge a,zge b] σ K:=by
 refine zd zqQ.is rfl fun hl _=>zqQ.goes ?_
 have fin:∀ z,decide (a=b)=z->K (.d (.bool z)) σ:=fun z h=>h ▸ hK
 clear hK
 simp only [zrd,iN,bT,bF,eN]
 refine zab ?_
 refine c_flatOf (a:=a) ?_
 refine zab ?_
 refine c_flatOf (a:=b) ?_
 cases h1:((a.kind == b.kind && (a.src == b.src && (a.client == b.client && (a.view == b.view && (a.seq == b.seq && (a.time == b.time && (a.offset == b.offset && (a.dig == b.dig && (a.rerr == b.rerr && (a.roff == b.roff && (a.topic == b.topic && (a.key == b.key && a.sdig == b.sdig)))))))))))))
 ·refine gq59 h1 ?_
  refine zw hl ?_
  exact fin _ (decide_eq_false fun h=>by subst h;simp at h1)
 refine gq60 h1 ?_
 refine zwH ha.batchS hb.batchS ?_
 cases h2:decide (a.batch=b.batch)
 ·refine zB h2 ?_
  refine zw hl ?_
  exact fin _ (decide_eq_false fun h=>by subst h;simp at h2)
 refine gq58 h2 ?_
 refine zrF (a:=a.cert) (b:=b.cert) ha.signs ?_
 cases h3:decide (a.cert=b.cert)
 ·refine zB h3 ?_
  refine zw hl ?_
  exact fin _ (decide_eq_false fun h=>by subst h;simp at h3)
 refine gq58 h3 ?_
 refine c_eqChanges ha.changes (fun x hx=>(ha.change x hx).2) (fun x hx=>(hb.change x hx).2) ?_
 cases h4:decide (a.changes=b.changes)
 ·refine zB h4 ?_
  refine zw hl ?_
  exact fin _ (decide_eq_false fun h=>by subst h;simp at h4)
 refine gq58 h4 ?_
 refine c_eqEntries ha.entries (fun x hx=>(ha.entry x hx).2) (fun x hx=>(hb.entry x hx).2) ?_
 cases h5:decide (a.entries=b.entries)
 ·refine zB h5 ?_
  refine zw hl ?_
  exact fin _ (decide_eq_false fun h=>by subst h;simp at h5)
 refine gq58 h5 ?_
 refine znr ?_
 cases h6:(a.state == b.state)
 ·refine zB h6 ?_
  refine zw hl ?_
  exact fin _ (decide_eq_false fun h=>by subst h;simp at h6)
 refine gq58 h6 ?_
 refine c_mSameProof (a:=a.proof) (b:=b.proof) ha.proof ?_
 cases h7:decide (a.proof=b.proof)
 ·refine zB h7 ?_
  refine zw hl ?_
  exact fin _ (decide_eq_false fun h=>by subst h;simp at h7)
 refine zB h7 ?_
 refine zw hl ?_
 exact fin _ (decide_eq_true (by cases a;cases b;simp_all))
end Go.Proofs.YtpgahkdjkanblaaGreat

/- Contracts: which messages may be, the program's: view-changes and new views. -/
set_option maxRecDepth 100000
namespace Go.Proofs.YtpgahkdjkanblaaGreat
open Go.AW
theorem c_intIndex {σ:List zh} {l:List Int} {x:Int} (hl0:l.length<=1073741824) {K:KT} (hK:∀ i:Int,(0<=i ↔ x ∈ l)->K (.d (.int .i64 i)) σ) :
  zo Tryz.prog zfC [.d (.slice (zpd l)),.d (.int .i64 x)] σ K:=by
 refine zd zhK.is rfl fun hl _=>zhK.goes ?_
 simp only [zhU,iN,bT,bF,eN]
 refine zab ?_
 refine zm l.length (fun k vs s=>vs = [.d (.int .i64 k)]/\(∃ T,s = σ++T)/\x ∉ l.take k) ⟨rfl,⟨[],by simp⟩,by simp⟩ ?_
 rintro k vs s hk ⟨rfl,⟨T,rfl⟩,htk⟩
 by_cases hlt:k<l.length
 ·have hd:decide ((k:Int)<(l.length:Int))=true:=by simp;omega
  have hx:l[k]? = some l[k]:=by simp [hlt]
  have hmem:=List.getElem_mem hlt
  have hgx:=zR (f:=fun t => [D.int .i64 t]) hx
  obtain ⟨y,hye⟩:∃ y,l[k]=y:=⟨_,rfl⟩
  rw [hye] at hx hgx hmem
  cases h:(x == y)
  ·refine zB (ze hd (ze hgx (ze h (wk1 k (by omega))))) ?_
   refine zaz.next hlt ⟨rfl,⟨_,rfl⟩,?_⟩
   rw [List.take_add_one,hx]
   simp at h
   simp [htk,h]
  ·refine zB (ze hd (ze hgx h)) ?_
   refine zw hl ?_
   refine hK _ ?_
   simp at h
   simp [h,hmem]
 ·have hd:decide ((k:Int)<(l.length:Int))=false:=by simp;omega
  refine zB hd ?_
  refine zw hl ?_
  refine hK _ ?_
  rw [List.take_of_length_le (by omega)] at htk
  simp [htk]
theorem zAn {σ:List zh} {l:List Int} {x:Int} (hl0:l.length<=1073741824) {K:KT} (hK:K (.d (.bool (decide (x ∈ l)))) σ) :
  zo Tryz.prog zex [.d (.slice (zpd l)),.d (.int .i64 x)] σ K:=by
 refine zd zgx.is rfl fun hl _=>zgx.goes ?_
 simp only [zgy,iN,bT,bF,eN]
 refine zab ?_
 refine c_intIndex hl0 fun i hi => ?_
 have e:decide (i ≥ 0)=decide (x ∈ l):=by rw [decide_eq_decide,ge_iff_le,hi]
 refine zab ?_
 rw [e]
 refine zw hl ?_
 exact hK
theorem zmB {σ:List zh} {k:Int} {K:KT} (hK:K (.d (.bool (zvE k))) σ):zo Tryz.prog zei [.d (.int .i64 k)] σ K:=by
 refine zd znM.is rfl fun hl _=>znM.goes ?_
 simp only [zoi,iN,bT,bF,eN]
 refine zab ?_
 refine zAn (l := [2, 3, 4, 5, 6, 8, 9]) (by simp) ?_
 have e:decide (k ∈ [2, 3, 4, 5, 6, 8, 9])=zvE k:=by
  unfold zvE
  rw [decide_eq_decide]
  simp
  omega
 rw [e]
 refine zab ?_
 refine zw hl ?_
 exact hK
theorem zoo.zero {σ S:List zh} {id:Nat} {B:zh} {P:List Int} (h:zoo σ id B P S):zoo σ id B (P++[0]) S:=by
 have e:zbn (P++[0])=zbn P:=by
  rw [zjT]
  by_cases h:zbn P=0
  ·rw [if_neg (by simpa using h),h];rfl
  ·rw [if_pos h]
 obtain ⟨h1,h2,h3⟩:=h
 exact ⟨by rw [e];exact h1,h2,by rw [e];exact h3⟩
end Go.Proofs.YtpgahkdjkanblaaGreat

/- Contracts: which view-changes and new views may be, as messages: the program's. -/
set_option maxRecDepth 100000
namespace Go.Proofs.YtpgahkdjkanblaaGreat
open Go.AW
section
variable {σ S:List zh} {id n:Nat} {B X:zh} {P:List Int} {K:KT} (j:zoo σ id B P S) (hid:id < σ.length) (hne:n ≠ id) (c:S[n]? = some X)
include j hid hne c
theorem jx_says {x:Int} (hK:∀ S,zoo σ id B (P++[x]) S->S[n]? = some X->K (.tup []) S):zo Tryz.prog zW [.box id 0,.d (.int .i64 x)] S K:=c_aSays j.a (hK _ (j.set hid _) ((List.getElem?_set_ne hne.symm).trans c))
theorem jx_num {x:Int} (hK:∀ S,zoo σ id B (P++[zlX x]) S->S[n]? = some X->K (.tup []) S):zo Tryz.prog zaA [.box id 0,.d (.int .i64 x)] S K:=c_aNum j.a (hK _ (j.set hid _) ((List.getElem?_set_ne hne.symm).trans c))
theorem jx_pos {x:Int} (hK:∀ S,zoo σ id B (P++[zrN x]) S->S[n]? = some X->K (.tup []) S):zo Tryz.prog zaM [.box id 0,.d (.int .i64 x)] S K:=c_aPos j.a (hK _ (j.set hid _) ((List.getElem?_set_ne hne.symm).trans c))
end
theorem c_aNewView {σ:List zh} {id:Nat} {P:List Int} {m:zee} (hσ : σ[id]? = some (zgX (zbn P))) (hm:zbP m) {K:KT} (hK:K (.tup []) (σ.set id (zgX (zbn (P++zfS m))))) :
  zo Tryz.prog zfm [.box id 0,zge m] σ K:=by
 refine zd zhu.is rfl fun hl _=>zhu.goes ?_
 have hid:=zcT hσ
 have hcl:(zan m.changes).length=m.changes.length:=List.length_map ..
 have hel:(zaw m.entries).length=m.entries.length:=List.length_map ..
 have hc:=hm.changes
 have he:=hm.entries
 simp only [zhB,iN,bT,bF,eN]
 have j:=zoo.first hσ (zqE m)
 refine zab ?_
 refine j_broker j hid fun S j => ?_
 have b:=j.b
 refine zB b ?_
 refine j_pos j hid fun S j => ?_
 have b:=j.b
 refine zB (ze b hcl) ?_
 refine j_many j hid fun S j => ?_
 have b:=j.b
 obtain ⟨Q,hQ⟩:∃ Q,P++[zwN m.src]++[zrN m.view]++[inE m.changes.length 0 13]=Q:=⟨_,rfl⟩
 rw [hQ] at j
 refine zB (ze b hcl) ?_
 refine zm m.changes.length (fun k vs S=>vs = [.d (.int .i64 k)]/\zoo σ id (zqE m) (Q++((m.changes.take k).map zaX).flatten) S) ⟨rfl,by simpa using j⟩ ?_
 rintro k vs S hk ⟨rfl,j⟩
 by_cases hlt:k<m.changes.length
 ·have hd:decide ((k:Int)<(m.changes.length:Int))=true:=by simp;omega
  have hx:m.changes[k]? = some m.changes[k]:=by simp [hlt]
  have hpx:=hm.change _ (List.getElem_mem hlt)
  have hgx:=zR (f:=zaE) hx
  obtain ⟨p,hp⟩:∃ p,m.changes[k]=p:=⟨_,rfl⟩
  rw [hp] at hx hgx hpx
  refine zhH (ze hd (ze hgx hcl)) ?_
  refine c_aChange (c:=p) (zx j.a) hpx.1 ?_
  have j2:=(j.app [.box (zbK p)]).set hid (Q++((m.changes.take k).map zaX).flatten++zaX p)
  refine zB (wkc k (by omega)) ?_
  refine zaz.next hlt ⟨rfl,?_⟩
  rw [zeq hx, ← List.append_assoc]
  exact j2
 ·have hd:decide ((k:Int)<(m.changes.length:Int))=false:=by simp;omega
  rw [show m.changes.take k=m.changes from List.take_of_length_le (by omega)] at j
  have b:=j.b
  refine zB (ze hd (ze hcl (ze b hel))) ?_
  refine j_many j hid fun S j => ?_
  have b:=j.b
  obtain ⟨R,hR⟩:∃ R,Q++(m.changes.map zaX).flatten++[inE m.entries.length 0 8]=R:=⟨_,rfl⟩
  rw [hR] at j
  refine zB (ze b hel) ?_
  refine zm m.entries.length (fun k vs S=>vs = [.d (.int .i64 k)]/\zoo σ id (zqE m) (R++((m.entries.take k).map zer).flatten) S) ⟨rfl,by simpa using j⟩ ?_
  rintro k vs S hk ⟨rfl,j⟩
  by_cases hlt:k<m.entries.length
  ·have hd:decide ((k:Int)<(m.entries.length:Int))=true:=by simp;omega
   have hx:m.entries[k]? = some m.entries[k]:=by simp [hlt]
   have hpx:=hm.entry _ (List.getElem_mem hlt)
   have hgx:=zR (f:=zed) hx
   obtain ⟨x,hp⟩:∃ x,m.entries[k]=x:=⟨_,rfl⟩
   rw [hp] at hx hgx hpx
   obtain ⟨X,hX⟩:∃ X,zh.box [.d (.int .i64 x.view),.d (.int .i64 x.seq),.d (.slice (zbj x.batch)),.d (.int .i64 x.key),.d (.int .i64 x.dig)]=X:=⟨_,rfl⟩
   have c:(S++[X])[S.length]? = some X:=by rw [zt];rfl
   have hne:S.length ≠ id:=by obtain ⟨τ,h1⟩:=j.pre;rw [h1];simp;omega
   have j:=j.app [X]
   subst hX
   refine zhH (ze hd (ze hgx hel)) ?_
   obtain ⟨n,hn⟩:∃ n,S.length=n:=⟨_,rfl⟩
   obtain ⟨S0,hS0⟩:∃ S0,S++[zh.box [.d (.int .i64 x.view),.d (.int .i64 x.seq),.d (.slice (zbj x.batch)),.d (.int .i64 x.key),.d (.int .i64 x.dig)]]=S0:=⟨_,rfl⟩
   rw [hn] at c hne
   rw [hS0] at c j
   rw [hn,hS0]
   refine jx_num j hid hne c fun S j c => ?_
   refine zB c ?_
   refine jx_pos j hid hne c fun S j c => ?_
   refine zB c ?_
   refine zgU hpx.1 ?_
   refine zab ?_
   refine jx_says j hid hne c fun S j c => ?_
   refine zB c ?_
   refine zet ?_
   refine zab ?_
   refine jx_says j hid hne c fun S j c => ?_
   refine zB (wkc k (by omega)) ?_
   exact zaz.next hlt ⟨rfl,j.as (by rw [zeq hx];simp [zer])⟩
  ·have hd:decide ((k:Int)<(m.entries.length:Int))=false:=by simp;omega
   rw [show m.entries.take k=m.entries from List.take_of_length_le (by omega)] at j
   refine zB (ze hd hel) ?_
   exact (j.as (by rw [← hR, ← hQ];simp [zfS])).done hl hK
theorem c_aMsg7 {σ:List zh} {id:Nat} {P:List Int} {m:zee} (hσ : σ[id]? = some (zgX (zbn P))) (hm:zbP m) (hk:m.kind=7) {K:KT} (hK:K (.tup []) (σ.set id (zgX (zbn (P++zfK m))))) :
  zo Tryz.prog zdB [.box id 0,zge m] σ K:=by
 refine zd zdC.is rfl fun hl _=>zdC.goes ?_
 have hid:=zcT hσ
 have hcl:(zan m.changes).length=m.changes.length:=List.length_map ..
 have hc:=hm.changes
 simp only [zfu,iN,bT,bF,eN]
 have j:=zoo.first hσ (zqE m)
 refine zB (ze (show (m.kind == 1)=false by rw [hk];rfl) (ze (show (m.kind == 2)=false by rw [hk];rfl) (ze (show (m.kind == 3)=false by rw [hk];rfl) (ze (show (m.kind == 4)=false by rw [hk];rfl) (ze (show (m.kind == 5)=false by rw [hk];rfl) (ze (show (m.kind == 6)=false by rw [hk];rfl) (ze (show (m.kind == 7)=true by rw [hk];rfl) (ze (show (m.kind == 8)=false by rw [hk];rfl) (ze (show (m.kind == 9)=false by rw [hk];rfl) (ze (show (m.kind == 10)=false by rw [hk];rfl) (ze (show (m.kind == 11)=false by rw [hk];rfl) (ze (show (m.kind == 12)=false by rw [hk];rfl) hcl)))))))))))) ?_
 refine j_in j hid fun S j => ?_
 have b:=j.b
 obtain ⟨Q,hQ⟩:∃ Q,P++[inE m.changes.length 1 1]=Q:=⟨_,rfl⟩
 rw [hQ] at j
 refine zB (ze b (ze hcl (ze (show (m.kind == 1)=false by rw [hk];rfl) (ze (show (m.kind == 2)=false by rw [hk];rfl) (ze (show (m.kind == 3)=false by rw [hk];rfl) (ze (show (m.kind == 4)=false by rw [hk];rfl) (ze (show (m.kind == 5)=false by rw [hk];rfl) (ze (show (m.kind == 6)=false by rw [hk];rfl) (ze (show (m.kind == 7)=true by rw [hk];rfl) (ze (show (m.kind == 8)=false by rw [hk];rfl) (ze (show (m.kind == 9)=false by rw [hk];rfl) (ze (show (m.kind == 10)=false by rw [hk];rfl) (ze (show (m.kind == 11)=false by rw [hk];rfl) (show (m.kind == 12)=false by rw [hk];rfl)))))))))))))) ?_
 refine zm m.changes.length (fun k vs S=>vs = [.d (.int .i64 k)]/\zoo σ id (zqE m) (Q++((m.changes.take k).map fun c=>zaX c++[if c.src ≠ m.src ∨ c.view ≠ m.view then 100 else 0]).flatten) S) ⟨rfl,by simpa using j⟩ ?_
 rintro k vs S hk0 ⟨rfl,j⟩
 by_cases hlt:k<m.changes.length
 ·have hd:decide ((k:Int)<(m.changes.length:Int))=true:=by simp;omega
  have hx:m.changes[k]? = some m.changes[k]:=by simp [hlt]
  have hpx:=hm.change _ (List.getElem_mem hlt)
  have hgx:=zR (f:=zaE) hx
  obtain ⟨p,hp⟩:∃ p,m.changes[k]=p:=⟨_,rfl⟩
  rw [hp] at hx hgx hpx
  have c:(S++[.box (zbK p)])[S.length]? = some (.box (zbK p)):=by rw [zt];rfl
  have hne:S.length ≠ id:=by obtain ⟨τ,h1⟩:=j.pre;rw [h1];simp;omega
  have j:=j.app [.box (zbK p)]
  refine zhH (ze hd (ze hgx hcl)) ?_
  obtain ⟨n,hn⟩:∃ n,S.length=n:=⟨_,rfl⟩
  obtain ⟨S0,hS0⟩:∃ S0,S++[zh.box (zbK p)]=S0:=⟨_,rfl⟩
  rw [hn] at c hne
  rw [hS0] at c j
  rw [hn,hS0]
  refine c_aChange (c:=p) j.a hpx.1 ?_
  have j:=j.set hid (Q++((m.changes.take k).map fun c=>zaX c++[if c.src ≠ m.src ∨ c.view ≠ m.view then 100 else 0]).flatten++zaX p)
  have c:=(List.getElem?_set_ne (a:=zgX (zbn (Q++((m.changes.take k).map fun c=>zaX c++[if c.src ≠ m.src ∨ c.view ≠ m.view then 100 else 0]).flatten++zaX p))) hne.symm).trans c
  obtain ⟨S1,hS1⟩:∃ S1,S0.set id (zgX (zbn (Q++((m.changes.take k).map fun c=>zaX c++[if c.src ≠ m.src ∨ c.view ≠ m.view then 100 else 0]).flatten++zaX p)))=S1:=⟨_,rfl⟩
  rw [hS1] at c j ⊢
  have b:=j.b
  cases h1:(p.src != m.src)
  ·cases h2:(p.view != m.view)
   ·refine zB (ze b (ze c (ze h1 (ze h2 (ze (show (m.kind == 1)=false by rw [hk];rfl) (ze (show (m.kind == 2)=false by rw [hk];rfl) (ze (show (m.kind == 3)=false by rw [hk];rfl) (ze (show (m.kind == 4)=false by rw [hk];rfl) (ze (show (m.kind == 5)=false by rw [hk];rfl) (ze (show (m.kind == 6)=false by rw [hk];rfl) (ze (show (m.kind == 7)=true by rw [hk];rfl) (ze (show (m.kind == 8)=false by rw [hk];rfl) (ze (show (m.kind == 9)=false by rw [hk];rfl) (ze (show (m.kind == 10)=false by rw [hk];rfl) (ze (show (m.kind == 11)=false by rw [hk];rfl) (ze (show (m.kind == 12)=false by rw [hk];rfl) (wkc k (by omega)))))))))))))))))) ?_
    refine zaz.next hlt ⟨rfl,?_⟩
    rw [zeq hx, ← List.append_assoc, ← List.append_assoc,if_neg (by simp at h1 h2;simp [h1,h2])]
    exact j.zero
   ·refine zB (ze b (ze c (ze h1 (ze h2 (ze (show (m.kind == 1)=false by rw [hk];rfl) (ze (show (m.kind == 2)=false by rw [hk];rfl) (ze (show (m.kind == 3)=false by rw [hk];rfl) (ze (show (m.kind == 4)=false by rw [hk];rfl) (ze (show (m.kind == 5)=false by rw [hk];rfl) (ze (show (m.kind == 6)=false by rw [hk];rfl) (ze (show (m.kind == 7)=true by rw [hk];rfl) (ze (show (m.kind == 8)=false by rw [hk];rfl) (ze (show (m.kind == 9)=false by rw [hk];rfl) (ze (show (m.kind == 10)=false by rw [hk];rfl) (ze (show (m.kind == 11)=false by rw [hk];rfl) (ze (show (m.kind == 12)=false by rw [hk];rfl) (wkc k (by omega)))))))))))))))))) ?_
    refine zyj j hid fun S j => ?_
    refine zB (wkc k (by omega)) ?_
    refine zaz.next hlt ⟨rfl,?_⟩
    rw [zeq hx, ← List.append_assoc, ← List.append_assoc,if_pos (by simp at h1 h2;simp [h2])]
    exact j
  ·refine zB (ze b (ze c (ze h1 (ze (show (m.kind == 1)=false by rw [hk];rfl) (ze (show (m.kind == 2)=false by rw [hk];rfl) (ze (show (m.kind == 3)=false by rw [hk];rfl) (ze (show (m.kind == 4)=false by rw [hk];rfl) (ze (show (m.kind == 5)=false by rw [hk];rfl) (ze (show (m.kind == 6)=false by rw [hk];rfl) (ze (show (m.kind == 7)=true by rw [hk];rfl) (ze (show (m.kind == 8)=false by rw [hk];rfl) (ze (show (m.kind == 9)=false by rw [hk];rfl) (ze (show (m.kind == 10)=false by rw [hk];rfl) (ze (show (m.kind == 11)=false by rw [hk];rfl) (ze (show (m.kind == 12)=false by rw [hk];rfl) (wkc k (by omega))))))))))))))))) ?_
   refine zyj j hid fun S j => ?_
   refine zB (wkc k (by omega)) ?_
   refine zaz.next hlt ⟨rfl,?_⟩
   rw [zeq hx, ← List.append_assoc, ← List.append_assoc,if_pos (by simp at h1;simp [h1])]
   exact j
 ·have hd:decide ((k:Int)<(m.changes.length:Int))=false:=by simp;omega
  rw [show m.changes.take k=m.changes from List.take_of_length_le (by omega)] at j
  have b:=j.b
  refine zB (ze hd (ze hcl (ze b (ze (show (m.kind == 1)=false by rw [hk];rfl) (ze (show (m.kind == 2)=false by rw [hk];rfl) (ze (show (m.kind == 3)=false by rw [hk];rfl) (ze (show (m.kind == 4)=false by rw [hk];rfl) (ze (show (m.kind == 5)=false by rw [hk];rfl) (ze (show (m.kind == 6)=false by rw [hk];rfl) (ze (show (m.kind == 7)=true by rw [hk];rfl) (ze (show (m.kind == 8)=false by rw [hk];rfl) (ze (show (m.kind == 9)=false by rw [hk];rfl) (ze (show (m.kind == 10)=false by rw [hk];rfl) (ze (show (m.kind == 11)=false by rw [hk];rfl) (show (m.kind == 12)=false by rw [hk];rfl))))))))))))))) ?_
  refine zmB ?_
  refine zB (show zvE m.kind=false by rw [hk];rfl) ?_
  exact (j.as (by rw [← hQ];simp [zfK,zmS,hk,show zvE 7=false from rfl])).done hl hK
theorem c_aMsg8 {σ:List zh} {id:Nat} {P:List Int} {m:zee} (hσ : σ[id]? = some (zgX (zbn P))) (hm:zbP m) (hk:m.kind=8) {K:KT} (hK:K (.tup []) (σ.set id (zgX (zbn (P++zfK m))))) :
  zo Tryz.prog zdB [.box id 0,zge m] σ K:=by
 refine zd zdC.is rfl fun hl _=>zdC.goes ?_
 have hid:=zcT hσ
 simp only [zfu,iN,bT,bF,eN]
 have j:=zoo.first hσ (zqE m)
 refine zB (ze (show (m.kind == 1)=false by rw [hk];rfl) (ze (show (m.kind == 2)=false by rw [hk];rfl) (ze (show (m.kind == 3)=false by rw [hk];rfl) (ze (show (m.kind == 4)=false by rw [hk];rfl) (ze (show (m.kind == 5)=false by rw [hk];rfl) (ze (show (m.kind == 6)=false by rw [hk];rfl) (ze (show (m.kind == 7)=false by rw [hk];rfl) (ze (show (m.kind == 8)=true by rw [hk];rfl) (ze (show (m.kind == 9)=false by rw [hk];rfl) (ze (show (m.kind == 10)=false by rw [hk];rfl) (ze (show (m.kind == 11)=false by rw [hk];rfl) (show (m.kind == 12)=false by rw [hk];rfl)))))))))))) ?_
 refine c_aNewView (m:=m) j.a hm ?_
 have j:=j.set hid (P++zfS m)
 obtain ⟨S1,hS1⟩:∃ S1,(σ++[zqE m]).set id (zgX (zbn (P++zfS m)))=S1:=⟨_,rfl⟩
 rw [hS1] at j
 have b:=j.b
 refine zB (ze hS1 (ze b (ze (show (m.kind == 1)=false by rw [hk];rfl) (ze (show (m.kind == 2)=false by rw [hk];rfl) (ze (show (m.kind == 3)=false by rw [hk];rfl) (ze (show (m.kind == 4)=false by rw [hk];rfl) (ze (show (m.kind == 5)=false by rw [hk];rfl) (ze (show (m.kind == 6)=false by rw [hk];rfl) (ze (show (m.kind == 7)=false by rw [hk];rfl) (ze (show (m.kind == 8)=true by rw [hk];rfl) (ze (show (m.kind == 9)=false by rw [hk];rfl) (ze (show (m.kind == 10)=false by rw [hk];rfl) (ze (show (m.kind == 11)=false by rw [hk];rfl) (show (m.kind == 12)=false by rw [hk];rfl)))))))))))))) ?_
 refine zmB ?_
 refine zB (ze (show zvE m.kind=true by rw [hk];rfl) b) ?_
 refine zet ?_
 refine zab ?_
 refine zyj j hid fun S j => ?_
 refine zab ?_
 exact (j.as (by simp [zfK,zmS,hk,show zvE 8=true from rfl])).done hl hK
end Go.Proofs.YtpgahkdjkanblaaGreat
