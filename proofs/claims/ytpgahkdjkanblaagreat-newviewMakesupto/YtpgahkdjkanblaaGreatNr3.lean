/- Contracts: certificates and entries that are the same. -/
import Derived.Test.YtpgahkdjkanblaaGreatRq1
import Derived.Test.YtpgahkdjkanblaaGreatSpTab
import Derived.Test.YtpgahkdjkanblaaGreatSpOp
import Derived.Test.YtpgahkdjkanblaaGreatSpMap
set_option linter.all false
set_option maxRecDepth 100000
namespace Go.Proofs.YtpgahkdjkanblaaGreat
open Go.AW
theorem gq21 {A P Q:Prop} (a:A) (h:Q) (e:A->P=Q:=by intro a;simp -dsimp only [↓zeN, ↓zav, ↓zbq, ↓zeO, ↓zeH, ↓zeF, ↓zeI, ↓zeG, ↓zbv, ↓zbr, ↓zbw, ↓zbs, ↓zeJ, ↓zbp, ↓zbx, ↓zbt, ↓zby, ↓zbu, ↓zeE, ↓zeM, ↓zbo, ↓zbz, ↓zeC, ↓zeB, ↓zeD,iN,bT,bF,eN, ↓zcB, ↓unC, ↓zV, ↓zM, ↓zN, ↓zQ, ↓zY, ↓zal, ↓zdb, ↓zak, ↓zaH, ↓zT, ↓zf, ↓zj, ↓zbZ, ↓zb, ↓zag, ↓zE, ↓zaI, ↓zaO, ↓zc, ↓zy, ↓zl, ↓zG, ↓zaa, ↓zdm, ↓zdw, ↓zaj, ↓zar, ↓zaK, ↓zaS, ↓zaY, ↓zq, ↓zai, ↓zO, ↓zu, ↓zX,zdx,zbg,zbb,unA,zdd,bnd,zdY,zaf,zP,zdR,dm,dm1,zA,zae,zeh,zeg,zI,Q0,Q1,Q2,Q3,Q4,Q5,zZ,zC,zt,zL,zF,Q6,Q7,Q8,Q9,Q10,Q11,Q12,Q13,Q14,Nat.reduceAdd,Q15,Int.reduceToNat,Q16,Q17,Q18,Q19,Q20,reduceIte,Q21,Q22,zH,rep,zac,zel,toD,zah,Q23,Q24,Q25,Q26,Q27,Q28,Nat.reduceLeDiff,Q29,Nat.reduceSub,Q30,Q31,Q32,sc,Q33,Q34,Q35,Bool.not_false,Bool.not_true,zdX,zgf,a];rfl):P:=(e a).mpr h
theorem zwF {σ:List zh} {a b:List zK} (ha:a.length<=1073741824) {K:KT} (hK:K (.d (.bool (decide (a=b)))) σ) :
  zo Tryz.prog zhf [.d (.slice (zap a)),.d (.slice (zap b))] σ K:=by
 refine zd zpo.is rfl fun hl _=>zpo.goes ?_
 have fin:∀ z:Bool,decide (a=b)=z->K (.d (.bool z)) σ:=fun z hz=>by rw [← hz];exact hK
 clear hK
 simp only [zpN,iN,bT,bF,eN]
 (refine gq11 ?_;try with_reducible exact True.intro)
 by_cases hl2:a.length=b.length
 ·have hne:((a.length:Int) != (b.length:Int))=false:=by simp [hl2]
  (refine gq4 hne ?_;try with_reducible exact True.intro)
  refine zm a.length (fun k vs s=>vs = [.d (.int .i64 k)]/\s = σ/\a.take k=b.take k) ⟨rfl,rfl,by simp⟩ ?_
  rintro k vs s hk ⟨rfl,rfl,htk⟩
  (refine gq11 ?_;try with_reducible exact True.intro)
  refine zad (fun h => ?_) (fun h => ?_)
  ·have hka:k<a.length:=by simp at h;omega
   have hx:a[k]? = some a[k]:=by simp [hka]
   have hy:b[k]? = some (b[k]'(by omega)):=List.getElem?_eq_getElem _
   have hgx:=zR (f:=zgf) hx
   have hgy:=zR (f:=zgf) hy
   obtain ⟨x,hxe⟩:∃ x,a[k]=x:=⟨_,rfl⟩
   obtain ⟨y,hye⟩:∃ y,b[k]'(by omega)=y:=⟨_,rfl⟩
   rw [hxe] at hgx hx
   rw [hye] at hgy hy
   have hxy:x=y ↔ x.key=y.key/\x.dig=y.dig:=by cases x;cases y;simp
   cases h2:(x.key == y.key && x.dig == y.dig)
   ·(refine gq21 (ze hgx (ze hgy h2)) ?_;try with_reducible exact True.intro)
    repeat' ((with_reducible refine And.intro ?_ ?_);focus (first | omega | rfl | decide))
    try (refine gq21 (ze hgx (ze hgy h2)) ?_;try with_reducible exact True.intro)
    refine zw hl ?_
    refine fin _ (decide_eq_false (by rintro rfl;rw [hx] at hy;have:=hxy.1 (Option.some.inj hy);simp [this.1,this.2] at h2))
   ·(refine gq21 (ze hgx (ze hgy h2)) ?_;try with_reducible exact True.intro)
    repeat' ((with_reducible refine And.intro ?_ ?_);focus (first | omega | rfl | decide))
    try (refine gq21 (ze hgx (ze hgy h2)) ?_;try with_reducible exact True.intro)
    simp only [Bool.and_eq_true,beq_iff_eq] at h2
    refine zaz.next hka ⟨?_,rfl,zbM hx hy htk (hxy.2 h2)⟩
    rw [show (k:Int)+1=((k+1:Nat):Int) by omega,zas (by omega) (by omega)]
  ·refine zw hl ?_
   refine fin _ (decide_eq_true (zcH hl2 (k:=k) (by simp at h;omega) htk))
 ·have hne:((a.length:Int) != (b.length:Int))=true:=by simp;omega
  (refine gq4 hne ?_;try with_reducible exact True.intro)
  refine zw hl ?_
  exact fin _ (decide_eq_false (by rintro rfl;exact hl2 rfl))
theorem ztR {σ:List zh} {a b:zft} (ha:a.signs.length<=1073741824) {K:KT} (hK:K (.d (.bool (decide (a=b)))) σ) :
  zo Tryz.prog zgv [zgc a,zgc b] σ K:=by
 refine zd zqJ.is rfl fun hl _=>zqJ.goes ?_
 have fin:∀ z:Bool,decide (a=b)=z->K (.d (.bool z)) σ:=fun z hz=>by rw [← hz];exact hK
 clear hK
 have hab:a=b ↔ a.seq=b.seq/\a.dig=b.dig/\a.signs=b.signs:=by cases a;cases b;simp
 simp only [zqW,iN,bT,bF,eN]
 cases h1:(a.seq == b.seq)
 ·(refine gq4 h1 ?_;try with_reducible exact True.intro)
  refine zw hl ?_
  refine fin _ (decide_eq_false fun h => ?_)
  simp [(hab.1 h).1] at h1
 cases h2:(a.dig == b.dig)
 ·(refine gq4 (ze h1 h2) ?_;try with_reducible exact True.intro)
  refine zw hl ?_
  refine fin _ (decide_eq_false fun h => ?_)
  simp [(hab.1 h).2.1] at h2
 (refine gq4 (ze h1 h2) ?_;try with_reducible exact True.intro)
 refine zwF ha ?_
 (refine gq3 ?_;try with_reducible exact True.intro)
 refine zw hl ?_
 refine fin _ ?_
 simp only [beq_iff_eq] at h1 h2
 by_cases h3:a.signs=b.signs
 ·rw [decide_eq_true h3,decide_eq_true (hab.2 ⟨h1,h2,h3⟩)]
 ·rw [decide_eq_false h3,decide_eq_false (fun h=>h3 (hab.1 h).2.2)]
theorem gq22 {A P Q:Prop} (a:A) (h:Q) (e:A->P=Q:=by intro a;simp -dsimp only [↓zeN, ↓zav, ↓zbq, ↓zeO, ↓zeH, ↓zeF, ↓zeI, ↓zeG, ↓zbv, ↓zbr, ↓zbw, ↓zbs, ↓zeJ, ↓zbp, ↓zbx, ↓zbt, ↓zby, ↓zbu, ↓zeE, ↓zeM, ↓zbo, ↓zbz, ↓zeC, ↓zeB, ↓zeD,iN,bT,bF,eN, ↓zcB, ↓unC, ↓zV, ↓zM, ↓zN, ↓zQ, ↓zY, ↓zal, ↓zdb, ↓zak, ↓zaH, ↓zT, ↓zf, ↓zj, ↓zbZ, ↓zb, ↓zag, ↓zE, ↓zaI, ↓zaO, ↓zc, ↓zy, ↓zl, ↓zG, ↓zaa, ↓zdm, ↓zdw, ↓zaj, ↓zar, ↓zaK, ↓zaS, ↓zaY, ↓zq, ↓zai, ↓zO, ↓zu, ↓zX,zdx,zbg,zbb,unA,zdd,bnd,zdY,zaf,zP,zdR,dm,dm1,zA,zae,zeh,zeg,zI,Q0,Q1,Q2,Q3,Q4,Q5,zZ,zC,zt,zL,zF,Q6,Q7,Q8,Q9,Q10,Q11,Q12,Q13,Q14,Nat.reduceAdd,Q15,Int.reduceToNat,Q16,Q17,Q18,Q19,Q20,reduceIte,Q21,Q22,zH,rep,zac,zel,toD,zah,Q23,Q24,Q25,Q26,Q27,Q28,Nat.reduceLeDiff,Q29,Nat.reduceSub,Q30,Q31,Q32,sc,Q33,Q34,Q35,Bool.not_false,Bool.not_true,zed,zdX,a];rfl):P:=(e a).mpr h
theorem zAh {σ:List zh} {a b:List zbL} (ha:a.length<=1073741824) (hA:∀ x ∈ a,ziK x.batch) (hB:∀ x ∈ b,ziK x.batch) {K:KT} (hK:K (.d (.bool (decide (a=b)))) σ) :
  zo Tryz.prog zii [.d (.slice (zaw a)),.d (.slice (zaw b))] σ K:=by
 refine zd zmq.is rfl fun hl _=>zmq.goes ?_
 have fin:∀ z:Bool,decide (a=b)=z->K (.d (.bool z)) σ:=fun z hz=>by rw [← hz];exact hK
 clear hK
 simp only [zmG,iN,bT,bF,eN]
 (refine gq11 ?_;try with_reducible exact True.intro)
 by_cases hl2:a.length=b.length
 ·have hne:((a.length:Int) != (b.length:Int))=false:=by simp [hl2]
  (refine gq4 hne ?_;try with_reducible exact True.intro)
  refine zm a.length (fun k vs s=>vs = [.d (.int .i64 k)]/\s = σ/\a.take k=b.take k) ⟨rfl,rfl,by simp⟩ ?_
  rintro k vs s hk ⟨rfl,rfl,htk⟩
  (refine gq11 ?_;try with_reducible exact True.intro)
  refine zad (fun h => ?_) (fun h => ?_)
  ·have hka:k<a.length:=by simp at h;omega
   have hx:a[k]? = some a[k]:=by simp [hka]
   have hy:b[k]? = some (b[k]'(by omega)):=List.getElem?_eq_getElem _
   have ax:=hA _ (List.getElem_mem hka)
   have bx:=hB _ (List.getElem_mem (show k<b.length by omega))
   have hgx:=zR (f:=zed) hx
   have hgy:=zR (f:=zed) hy
   obtain ⟨x,hxe⟩:∃ x,a[k]=x:=⟨_,rfl⟩
   obtain ⟨y,hye⟩:∃ y,b[k]'(by omega)=y:=⟨_,rfl⟩
   rw [hxe] at hgx hx ax
   rw [hye] at hgy hy bx
   have hxy:x=y ↔ x.view=y.view/\x.seq=y.seq/\(x.key=y.key/\x.dig=y.dig)/\x.batch=y.batch:=by cases x;cases y;simp;grind
   have neq:¬ (x.view=y.view/\x.seq=y.seq/\(x.key=y.key/\x.dig=y.dig)/\x.batch=y.batch)->K (.d (.bool false)) s:=fun h=>fin _ (decide_eq_false (by rintro rfl;rw [hx] at hy;exact h (hxy.1 (Option.some.inj hy))))
   cases h1:(x.view != y.view)
   rotate_left
   ·(refine gq22 (ze hgx (ze hgy h1)) ?_;try with_reducible exact True.intro)
    repeat' ((with_reducible refine And.intro ?_ ?_);focus (first | omega | rfl | decide))
    try (refine gq22 (ze hgx (ze hgy h1)) ?_;try with_reducible exact True.intro)
    refine zw hl ?_
    refine neq (fun h => ?_)
    simp [h.1] at h1
   cases h2:(x.seq != y.seq)
   rotate_left
   ·(refine gq22 (ze hgx (ze hgy (ze h1 h2))) ?_;try with_reducible exact True.intro)
    repeat' ((with_reducible refine And.intro ?_ ?_);focus (first | omega | rfl | decide))
    try (refine gq22 (ze hgx (ze hgy (ze h1 h2))) ?_;try with_reducible exact True.intro)
    refine zw hl ?_
    refine neq (fun h => ?_)
    simp [h.2.1] at h2
   cases h3:(x.key == y.key && x.dig == y.dig)
   ·(refine gq22 (ze hgx (ze hgy (ze h1 (ze h2 h3)))) ?_;try with_reducible exact True.intro)
    repeat' ((with_reducible refine And.intro ?_ ?_);focus (first | omega | rfl | decide))
    try (refine gq22 (ze hgx (ze hgy (ze h1 (ze h2 h3)))) ?_;try with_reducible exact True.intro)
    refine zw hl ?_
    refine neq (fun h => ?_)
    simp [h.2.2.1.1,h.2.2.1.2] at h3
   (refine gq22 (ze hgx (ze hgy (ze h1 (ze h2 h3)))) ?_;try with_reducible exact True.intro)
   repeat' ((with_reducible refine And.intro ?_ ?_);focus (first | omega | rfl | decide))
   try (refine gq22 (ze hgx (ze hgy (ze h1 (ze h2 h3)))) ?_;try with_reducible exact True.intro)
   refine zAi ax bx ?_
   by_cases h4:x.batch=y.batch
   ·rw [decide_eq_true h4]
    (refine gq13 ?_;try with_reducible exact True.intro)
    simp only [Bool.and_eq_true,beq_iff_eq,bne_eq_false_iff_eq] at h1 h2 h3
    refine zaz.next hka ⟨?_,rfl,zbM hx hy htk (hxy.2 ⟨h1,h2,h3,h4⟩)⟩
    rw [show (k:Int)+1=((k+1:Nat):Int) by omega,zas (by omega) (by omega)]
   ·rw [decide_eq_false h4]
    (refine gq13 ?_;try with_reducible exact True.intro)
    refine zw hl ?_
    exact neq (fun h=>h4 h.2.2.2)
  ·refine zw hl ?_
   refine fin _ (decide_eq_true (zcH hl2 (k:=k) (by simp at h;omega) htk))
 ·have hne:((a.length:Int) != (b.length:Int))=true:=by simp;omega
  (refine gq4 hne ?_;try with_reducible exact True.intro)
  refine zw hl ?_
  exact fin _ (decide_eq_false (by rintro rfl;exact hl2 rfl))
end Go.Proofs.YtpgahkdjkanblaaGreat

/- The numbers of a new view's entries fit. No program in sight. -/
namespace Go.AW
theorem zrg {cs:List zU} {k:Nat} {p:zcb} (h:p ∈ zbW cs k):∃ c ∈ cs,p ∈ c.above:=by
 simp only [zbW,List.mem_flatten,List.mem_map] at h
 obtain ⟨_,⟨c,hc,rfl⟩,hp⟩:=h
 exact ⟨c,List.mem_of_mem_take hc,hp⟩
theorem great_le {cs:List zU} (hR:∀ c ∈ cs,zio c) (k:Nat):zco (zbW cs k)<=9223372036854775807 :=
 greatF_lt (by omega) fun p hp=>by
  obtain ⟨c,hc,hp⟩:=zrg hp
  exact ((hR c hc).2.2.2.2.1 p hp).2.1.2
theorem zza {cs:List zU} (hR:∀ c ∈ cs,zio c) {k:Nat} (hk:k<=cs.length) (h:cs ≠ []):zqG (zjW cs k).seq:=by
 obtain ⟨c,hc,e⟩:=zwO hk h
 rw [e]
 exact (hR c hc).2.2.1
theorem mayF_ne {f view:Int} {cs:List zU} (h:zlY f view cs=0):cs ≠ []/\zbN f=0:=by
 unfold zlY at h
 by_cases h0:zbN f ≠ 0
 ·rw [if_pos h0] at h;exact absurd h h0
 ·rw [if_neg h0] at h
  have h0:zbN f=0:=by simpa using h0
  refine ⟨?_,h0⟩
  rintro rfl
  have hf:¬ (f<1 ∨ f > 4):=by
   intro hf
   rw [zbN,if_pos hf] at h0
   omega
  have ht:zaW 2 f=2 * f+1:=by rw [zaW,if_neg hf]
  split at h
  ·omega
  ·split at h
   ·omega
   ·rw [ht] at h
    simp only [List.length_nil] at h
    split at h <;> omega
theorem zvM (g b:Int):zsh g b<=8:=by unfold zsh;omega
theorem manyF_ge {g b:Int} {n:Nat} (hb:b<g) (h:n=zsh g b):8<=n ∨ g - b<=(n:Int):=by unfold zsh at h;omega
end Go.AW
