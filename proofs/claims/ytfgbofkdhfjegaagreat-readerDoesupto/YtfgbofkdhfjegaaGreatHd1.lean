/- Contracts: headers, and records at their places, on both sides. -/
import Derived.Test.YtfgbofkdhfjegaaGreatMk3
import Derived.Test.YtfgbofkdhfjegaaGreatId3
import Derived.Test.YtfgbofkdhfjegaaGreatCodec1
import Derived.Test.YtfgbofkdhfjegaaGreatRq2
set_option linter.all false
set_option maxRecDepth 100000
namespace Go.Proofs.YtfgbofkdhfjegaaGreat
open Go.AW
theorem zvs {σ:List zh} {x:Int} {K:KT} (hK:K (.d (.bool (zdB x))) σ):zp Tryz.prog zjo [.d (.int .i64 x)] σ K:=by
 refine zfc e_r09_num fun hl => ?_
 have fin:∀ z,zdB x=z->K (.d (.bool z)) σ:=fun z h=>h▸hK
 clear hK
 simp only [S_r09_num,iN,bT,bF,eN]
 cases h1:decide (x≥0)
 ·refine gq2 h1 ?_
  refine zI hl ?_
  exact fin _ (by simp at h1;simp [zdB];omega)
 ·refine gq2 h1 ?_
  refine zI hl ?_
  exact fin _ (by simp at h1;simp [zdB];omega)
theorem zvt {σ:List zh} {h:zdl} {K:KT} (hK:K (.d (.int .i64 (zba h))) σ):zp Tryz.prog zjp [ztU h] σ K:=by
 refine zfc e_r09_Check fun hl => ?_
 have fin:∀ z,zla h=z->K (.d (.int .i64 (if z=true then 0 else 90))) σ:=fun z e=>by subst e;exact hK
 clear hK
 simp only [zvP,iN,bT,bF,eN,ztU]
 refine gq1 ?_
 refine zvs ?_
 cases h1:zdB h.seq
 ·refine gq1 ?_
  refine zI hl ?_
  exact fin false (by simp [zla,zrB,h1])
 refine gq1 ?_
 refine zvs ?_
 cases h2:zdB h.prev
 ·refine gq1 ?_
  refine zI hl ?_
  exact fin false (by simp [zla,zrB,h2])
 refine gq1 ?_
 refine zvs ?_
 cases h3:zdB h.batch
 ·refine gq1 ?_
  refine zI hl ?_
  exact fin false (by simp [zla,zrB,h3])
 refine gq1 ?_
 refine zvs ?_
 cases h4:zdB h.root
 ·refine gq1 ?_
  refine zI hl ?_
  exact fin false (by simp [zla,zrB,h4])
 refine gq1 ?_
 refine zvs ?_
 cases h5:zdB h.state
 ·refine gq1 ?_
  refine zI hl ?_
  exact fin false (by simp [zla,zrB,h5])
 refine gq1 ?_
 refine zI hl ?_
 exact fin true (by simp [zla,zrB,h1,h2,h3,h4,h5])
theorem c_blCheck {σ:List zh} {h:zdl} {K:KT} (hK:K (.d (.int .i64 (zba h))) σ):zp Tryz.prog ziX [ztU h] σ K:=by
 refine zfc zyM fun hl => ?_
 have fin:∀ z,zla h=z->K (.d (.int .i64 (if z=true then 0 else 90))) σ:=fun z e=>by subst e;exact hK
 clear hK
 simp only [zrw,iN,bT,bF,eN,ztU]
 refine gq1 ?_
 have hg:∀ (k:Nat) x,(zrB h)[k]? = some x → [[D.int .i64 h.seq],[D.int .i64 h.prev],[D.int .i64 h.batch],[D.int .i64 h.root],[D.int .i64 h.state]][k]? = some [D.int .i64 x]:=fun k x hx=>by
  have:=zK (f:=fun t => [D.int .i64 t]) hx
  simpa [zrB] using this
 have hl5:(zrB h).length=5:=rfl
 unfold zla at fin
 obtain ⟨l,hlq⟩:∃ l,zrB h=l:=⟨_,rfl⟩
 rw [hlq] at fin hl5 hg
 refine zo 5 (fun k vs s=>vs = [.d (.int .i64 k)]/\(∃ T,s = σ++T)/\(l.take k).all zdB=true) ⟨rfl,⟨_,rfl⟩,by simp⟩ ?_
 rintro k vs s hk ⟨rfl,⟨T,rfl⟩,hok⟩
 by_cases hlt:k<5
 ·have hd:decide ((k:Int)<((5:Nat):Int))=true:=by simp;omega
  have hx:l[k]? = some (l[k]'(by omega)):=List.getElem?_eq_getElem _
  have hgx:=hg k _ hx
  obtain ⟨x,hxe⟩:∃ x,(l[k]'(by omega))=x:=⟨_,rfl⟩
  rw [hxe] at hx hgx
  have bad:zdB x=false->l.all zdB=false:=fun h=>by
   rw [Bool.eq_false_iff]
   intro hall
   have:=List.all_eq_true.1 hall x (List.mem_of_getElem? hx)
   rw [h] at this;cases this
  cases h1:decide (x<0)
  ·cases h2:decide (x > 9007199254740992)
   ·refine gq2 (zg hd (zg hgx (zg h1 (zg h2 (wki k (by omega)))))) ?_
    refine zas.next hlt ⟨rfl,⟨_,rfl⟩,?_⟩
    rw [List.take_add_one,hx]
    simp only [List.all_append,hok,Option.toList_some,List.all_cons,List.all_nil,Bool.true_and,Bool.and_true]
    simp at h1 h2
    simp [zdB];omega
   ·refine gq2 (zg hd (zg hgx (zg h1 h2))) ?_
    refine zI hl ?_
    exact fin false (bad (by simp at h2;simp [zdB];omega))
  ·refine gq2 (zg hd (zg hgx h1)) ?_
   refine zI hl ?_
   exact fin false (bad (by simp at h1;simp [zdB];omega))
 ·have hd:decide ((k:Int)<((5:Nat):Int))=false:=by simp;omega
  rw [List.take_of_length_le (by omega)] at hok
  refine gq2 hd ?_
  refine zI hl ?_
  exact fin true hok
theorem c_blBytes {σ:List zh} {h:zdl} {K:KT} (hK:K (.tup [.d (.slice (bcs (hdrBF h))),.d (.int .i64 (zba h))]) σ):zp Tryz.prog ziY [ztU h] σ K:=by
 refine zfc zyO fun hl => ?_
 simp only [zry,iN,bT,bF,eN,ztU]
 refine gq1 ?_
 refine c_blCheck (h:=h) ?_
 cases hk:(zba h==0)
 ·have hk':(zba h != 0)=true:=by simpa using hk
  have hk0:¬ zba h=0:=by simpa using hk
  refine gq2 hk' ?_
  refine zI hl ?_
  rw [hdrBF,if_neg hk0] at hK
  exact hK
 have hk0:zba h=0:=by simpa using hk
 have hr:=zhR (zdx.1 hk0)
 rw [hdrBF,if_pos hk0,hk0] at hK
 rw [hk0]
 refine gq2 (show ((0:Int) != 0)=false from rfl) ?_
 have hg:∀ (k:Nat) x,(zrB h)[k]? = some x → [[D.int .i64 h.seq],[D.int .i64 h.prev],[D.int .i64 h.batch],[D.int .i64 h.root],[D.int .i64 h.state]][k]? = some [D.int .i64 x]:=fun k x hx=>by
  have:=zK (f:=fun t => [D.int .i64 t]) hx
  simpa [zrB] using this
 have hl5:(zrB h).length=5:=rfl
 unfold zpI at hK
 obtain ⟨l,hlq⟩:∃ l,zrB h=l:=⟨_,rfl⟩
 rw [hlq] at hK hl5 hg hr
 refine zo 5 (fun k vs s=>(∃ x,vs = [x,.d (.int .i64 k)]/\(x = .exact (bcs (3::ziU (l.take k)))∨∃ t,x = .own t (bcs (3::ziU (l.take k)))))/\∃ T,s = σ++T) ⟨⟨_,rfl,.inl rfl⟩,_,rfl⟩ ?_
 rintro k vs s hk ⟨⟨y,rfl,hy⟩,T,rfl⟩
 by_cases hlt:k<5
 ·have hd:decide ((k:Int)<((5:Nat):Int))=true:=by simp;omega
  have hx:l[k]? = some (l[k]'(by omega)):=List.getElem?_eq_getElem _
  have hgx:=hg k _ hx
  obtain ⟨x,hxe⟩:∃ x,(l[k]'(by omega))=x:=⟨_,rfl⟩
  rw [hxe] at hx hgx
  have hxr:=hr x (List.mem_of_getElem? hx)
  have hw:IntKind.u64.wrap x=((x.toNat:Nat):Int):=by
   rw [show x=((x.toNat:Nat):Int) by omega,zdm (by omega)];rfl
  have hln:=znl (l:=l.take k) (fun y hy=>by have:=hr y (List.mem_of_mem_take hy);omega)
  have hlk:(l.take k).length=k:=by rw [List.length_take];omega
  have hbl:(3::ziU (l.take k)).length<=1073741824:=by rw [List.length_cons];omega
  rcases hy with rfl|⟨t,rfl⟩
  all_goals
   refine gq2 (zg hd (zg hgx hw)) ?_
   refine zmu (b := 3::ziU (l.take k)) (by omega) hbl ?_
   refine gq2 (wki k (by omega)) ?_
   exact zas.next hlt ⟨⟨_,rfl,.inr ⟨_,by rw [zoo hx]⟩⟩,_,rfl⟩
 ·have hd:decide ((k:Int)<((5:Nat):Int))=false:=by simp;omega
  rw [List.take_of_length_le (by omega)] at hy
  rcases hy with rfl|⟨t,rfl⟩
  all_goals
   refine gq2 hd ?_
   refine zI hl ?_
   exact hK
theorem zvu {σ:List zh} {h:zdl} {K:KT} (hK:K (.tup [.d (.slice (bcs (hdrBF h))),.d (.int .i64 (zba h))]) σ):zp Tryz.prog zjq [ztU h] σ K:=by
 refine zfc e_r09_Bytes fun hl => ?_
 simp only [zvR,iN,bT,bF,eN,ztU]
 refine gq1 ?_
 refine zvt (h:=h) ?_
 cases hk:(zba h==0)
 ·have hk':(zba h != 0)=true:=by simpa using hk
  have hk0:¬ zba h=0:=by simpa using hk
  refine gq2 hk' ?_
  refine zI hl ?_
  rw [hdrBF,if_neg hk0] at hK
  exact hK
 have hk0:zba h=0:=by simpa using hk
 have hr:=zhR (zdx.1 hk0)
 rw [hdrBF,if_pos hk0,hk0] at hK
 rw [hk0]
 have h0:=hr h.seq (by simp [zrB])
 have hw0:IntKind.u64.wrap h.seq=((h.seq.toNat:Nat):Int):=by
  rw [show h.seq=((h.seq.toNat:Nat):Int) by omega,zdm (by omega)];rfl
 refine gq2 (zg (show ((0:Int) != 0)=false from rfl) hw0) ?_
 refine zdy (b := [3]) (by omega) (by simp) ?_
 refine gq1 ?_
 have hg:∀ (k:Nat) x,[h.prev,h.batch,h.root,h.state][k]? = some x → [[D.int .i64 h.prev],[D.int .i64 h.batch],[D.int .i64 h.root],[D.int .i64 h.state]][k]? = some [D.int .i64 x]:=fun k x hx=>by
  have:=zK (f:=fun t => [D.int .i64 t]) hx
  simpa using this
 have hB:zpI h = [3]++zdi h.seq.toNat++ziU [h.prev,h.batch,h.root,h.state]:=by simp [zpI,zrB,ziU]
 rw [hB] at hK
 have hr4:∀ x∈[h.prev,h.batch,h.root,h.state], 0<=x/\x<=9007199254740992:=fun x hx=>hr x (by rw [zrB];exact List.mem_cons_of_mem _ hx)
 have hl4 : [h.prev,h.batch,h.root,h.state].length=4:=rfl
 have hb0:([3]++zdi h.seq.toNat).length<=11:=by
  have:=zJ (n:=h.seq.toNat) (by omega)
  simp;omega
 obtain ⟨l,hlq⟩:∃ l,[h.prev,h.batch,h.root,h.state]=l:=⟨_,rfl⟩
 rw [hlq] at hK hl4 hg hr4
 obtain ⟨b,hbe⟩:∃ b,[3]++zdi h.seq.toNat=b:=⟨_,rfl⟩
 have hbc:zcz 3::bcs (zdi h.seq.toNat)=bcs b:=by rw [← hbe];rfl
 rw [hbe] at hK hb0
 rw [hbc]
 refine zo 4 (fun k vs s=>(∃ t,vs = [.own t (bcs (b++ziU (l.take k))),.d (.int .i64 k)])/\∃ T,s = σ++T) ⟨⟨_,by simp [ziU];rfl⟩,_,rfl⟩ ?_
 rintro k vs s hk ⟨⟨t,rfl⟩,T,rfl⟩
 by_cases hlt:k<4
 ·have hd:decide ((k:Int)<((4:Nat):Int))=true:=by simp;omega
  have hx:l[k]? = some (l[k]'(by omega)):=List.getElem?_eq_getElem _
  have hgx:=hg k _ hx
  obtain ⟨x,hxe⟩:∃ x,(l[k]'(by omega))=x:=⟨_,rfl⟩
  rw [hxe] at hx hgx
  have hxr:=hr4 x (List.mem_of_getElem? hx)
  have hw:IntKind.u64.wrap x=((x.toNat:Nat):Int):=by
   rw [show x=((x.toNat:Nat):Int) by omega,zdm (by omega)];rfl
  have hln:=znl (l:=l.take k) (fun y hy=>by have:=hr4 y (List.mem_of_mem_take hy);omega)
  have hlk:(l.take k).length=k:=by rw [List.length_take];omega
  have hbl:(b++ziU (l.take k)).length<=1073741824:=by rw [List.length_append];omega
  refine gq2 (zg hd (zg hgx hw)) ?_
  refine zdy (by omega) hbl ?_
  refine gq2 (wki k (by omega)) ?_
  exact zas.next hlt ⟨⟨_,by rw [zoo hx]⟩,_,rfl⟩
 ·have hd:decide ((k:Int)<((4:Nat):Int))=false:=by simp;omega
  rw [List.take_of_length_le (by omega)]
  refine gq2 hd ?_
  refine zI hl ?_
  exact hK
theorem max0 (x:Int):(if 0 > x then 0 else x)=((x.toNat:Nat):Int)/\(if x > 0 then x else 0)=((x.toNat:Nat):Int):=by
 constructor<;>split<;>omega
theorem zmr {σ:List zh} {b:List UInt8} {n:Nat} (hb:b.length<=1073741000) (hn:n<9223372036854775808) {K:KT} (hK:K (.d (.slice (bcs (b++zdi n)))) σ):zp Tryz.prog zfi [.d (.slice (bcs b)),.d (.int .i64 n)] σ K:=by
 refine zeW e_r07_put fun hl => ?_
 have hw:IntKind.u64.wrap (n:Int)=(n:Int):=zdm (by omega)
 simp only [S_r07_put,iN,bT,bF,eN]
 refine gq2 hw ?_
 refine zdy (by omega) (by omega) ?_
 refine gq1 ?_
 refine zI hl ?_
 exact hK
structure zng (p:zbi):Prop where
 off:zjT p.offset
 topic:p.topic.length<=16777216
 rec_:p.rec_.length<=16777216
theorem gq36 {A P Q:Prop} (a:A) (h:Q) (e:A->Hd Q->P:=by intro a h;(repeat' first|simp -dsimp only [↓zeU, ↓zaA, ↓zbp, ↓zeV, ↓zeO, ↓zeM, ↓zeP, ↓zeN, ↓zbu, ↓zbq, ↓zbv, ↓zbr, ↓zeQ, ↓zbo, ↓zbw, ↓zbs, ↓zbx, ↓zbt, ↓zeL, ↓zeT, ↓zbn, ↓zby, ↓zeG, ↓zeF, ↓zeK,iN,bT,bF,eN, ↓zco, ↓unC, ↓zX, ↓zM, ↓zN, ↓zQ, ↓zZ, ↓zai, ↓zcv, ↓zaf, ↓zaS, ↓zV, ↓zl, ↓zm, ↓zbg, ↓ze, ↓zae, ↓zC, ↓zaM, ↓zaT, ↓zd, ↓zA, ↓zr, ↓zD, ↓zao, ↓zcY, ↓zdn, ↓zap, ↓zaw, ↓zaN, ↓zaZ, ↓zbk, ↓zw, ↓zaj, ↓zO, ↓zE, ↓zY,zdr,zbm,zbl,unA,zdo,bnd,zdL,zab,zS,zdI,dm,dm1,zG,zak,zdZ,zdY,zH,Q0,Q1,Q2,Q3,Q4,Q5,zW,zx,zy,zT,zL,Q6,Q7,Q8,Q9,Q10,Q11,Q12,Q13,Q14,Nat.reduceAdd,Q15,Int.reduceToNat,Q16,Q17,Q18,Q19,Q20,reduceIte,Q21,Q22,zF,rep,zaa,zeC,toD,zag,Q23,Q24,Q25,Q26,Q27,Q28,Nat.reduceLeDiff,Q29,Nat.reduceSub,Q30,Q31,Q32,sc,Q33,Q34,Q35,Q36,Q37,Q26,Q38,Q39,zis,zio,zil,zit,zcN,ziq,zim,zir,zin,zcM,zcO,ziu,ziv,Bool.not_true,Bool.not_false,List.length_map,List.nil_append,m1,a]|with_reducible refine zix ?_|fail);exact h.go):P:=e a ⟨h⟩
theorem zxw {σ:List zh} {p:zbi} (hp:zng p) {K:KT} (hK:K (.d (.slice (bcs (zaL p)))) σ):zp Tryz.prog zfq [.agg [.d (.str p.topic),.d (.int .i64 p.offset),.d (.slice (bcs p.rec_))]] σ K:=by
 refine zfc zsp fun hl => ?_
 have ht:=hp.topic;have hr:=hp.rec_;have ho:=hp.off
 have hlt:=zJ (n:=p.topic.length) (by omega)
 have hon:p.offset.toNat<9223372036854775808:=by have:=ho.2;omega
 have hlo:=zJ (n:=p.offset.toNat) (by omega)
 obtain ⟨m1,m2⟩:=max0 p.offset
 simp only [zly,iN,bT,bF,eN]
 refine gq1 ?_
 refine zhB (b := []) (x:=p.topic) (by omega) (by simp) ?_
 refine gq36 m2 ?_
 refine zmr (b:=zdi p.topic.length++p.topic) (by simp;omega) hon ?_
 refine gq1 ?_
 refine zhB (by omega) (by simp;omega) ?_
 refine gq1 ?_
 refine zI hl ?_
 simp only [zaL,zqr,List.append_assoc] at hK ⊢
 exact hK
theorem c_toPlaced {σ:List zh} {p:zbi} (hp:zng p) {K:KT} (hK:K (.d (.slice (bcs (zaL p)))) σ):zp Tryz.prog zfF [.agg [.d (.str p.topic),.d (.int .i64 p.offset),.d (.slice (bcs p.rec_))]] σ K:=by
 refine zfc zoG fun hl => ?_
 have ht:=hp.topic;have hr:=hp.rec_;have ho:=hp.off
 have hlt:=zJ (n:=p.topic.length) (by omega)
 have hon:p.offset.toNat<9223372036854775808:=by have:=ho.2;omega
 have hlo:=zJ (n:=p.offset.toNat) (by omega)
 obtain ⟨m1,m2⟩:=max0 p.offset
 have m3:(if p.offset > 0 then p.offset else 0)=((p.offset.toNat:Nat):Int):=m2
 have hw:IntKind.u64.wrap ((p.offset.toNat:Nat):Int)=((p.offset.toNat:Nat):Int):=zdm (by omega)
 simp only [ziG,iN,bT,bF,eN]
 refine gq1 ?_
 refine zxA (b := []) (x:=p.topic) (by omega) (by simp) ?_
 refine gq36 (zg m2 hw) ?_
 refine zmu (b:=zdi p.topic.length++p.topic) (by omega) (by simp;omega) ?_
 refine gq1 ?_
 refine zxA (by omega) (by simp;omega) ?_
 refine gq1 ?_
 refine zI hl ?_
 simp only [zaL,zqr,List.append_assoc] at hK ⊢
 exact hK
theorem hdr_seq {h:zdl} (hk:zba h=0):0<=h.seq/\h.seq<=9007199254740992:=zhR (zdx.1 hk) h.seq (by simp [zrB])
theorem zxq {h:zdl} (hk:(zba h==0)=false):zla h=false:=by
 cases e:zla h with
 | false=>rfl
 | true=>rw [zdx.2 e] at hk;cases hk
def zrl (l:List zdl):Nat->Option zdl
 | 0=>none
 | k+1=>l[k]?
theorem zeE {l:List zdl} {k:Nat} {h:zdl} (hx:l[k]? = some h):zrl l (k+1)=some h:=hx
theorem zqH {h:zdl} (hk:zba h=0):hdrBF h=zpI h:=if_pos hk
theorem zmY {A P Q:Prop} (a:A) (h:Q) (e:A->Hd Q->P:=by intro a h;(repeat' first|simp -dsimp only [↓zeU, ↓zaA, ↓zbp, ↓zeV, ↓zeO, ↓zeM, ↓zeP, ↓zeN, ↓zbu, ↓zbq, ↓zbv, ↓zbr, ↓zeQ, ↓zbo, ↓zbw, ↓zbs, ↓zbx, ↓zbt, ↓zeL, ↓zeT, ↓zbn, ↓zby, ↓zeG, ↓zeF, ↓zeK,iN,bT,bF,eN, ↓zco, ↓unC, ↓zX, ↓zM, ↓zN, ↓zQ, ↓zZ, ↓zai, ↓zcv, ↓zaf, ↓zaS, ↓zV, ↓zl, ↓zm, ↓zbg, ↓ze, ↓zae, ↓zC, ↓zaM, ↓zaT, ↓zd, ↓zA, ↓zr, ↓zD, ↓zao, ↓zcY, ↓zdn, ↓zap, ↓zaw, ↓zaN, ↓zaZ, ↓zbk, ↓zw, ↓zaj, ↓zO, ↓zE, ↓zY,zdr,zbm,zbl,unA,zdo,bnd,zdL,zab,zS,zdI,dm,dm1,zG,zak,zdZ,zdY,zH,Q0,Q1,Q2,Q3,Q4,Q5,zW,zx,zy,zT,zL,Q6,Q7,Q8,Q9,Q10,Q11,Q12,Q13,Q14,Nat.reduceAdd,Q15,Int.reduceToNat,Q16,Q17,Q18,Q19,Q20,reduceIte,Q21,Q22,zF,rep,zaa,zeC,toD,zag,Q23,Q24,Q25,Q26,Q27,Q28,Nat.reduceLeDiff,Q29,Nat.reduceSub,Q30,Q31,Q32,sc,Q33,Q34,Q35,Q36,Q37,Q26,Q38,Q39,zis,zio,zil,zit,zcN,ziq,zim,zir,zin,zcM,zcO,ziu,ziv,Bool.not_true,Bool.not_false,List.length_map,Bool.and_false,Bool.and_self,Bool.false_and,Bool.not_false,Bool.not_true,Bool.true_and,Int.toNat_natCast,Int.toNat_zero,List.drop_zero,List.length_map,List.length_nil,List.nil_append,List.take_length,Nat.sub_zero,Nat.zero_add,Option.isSome_none,Option.isSome_some,Option.map_none,Option.map_some,zav,beq_self_eq_true,bne_self_eq_false,a]|with_reducible refine zix ?_|fail);exact h.go):P:=e a ⟨h⟩
theorem c_hrChain {σ:List zh} {id:Nat} {L:List (List UInt8)} {l:List zdl} (hT : σ[id]? = some (rtO L)) (hL:L.length<=1048576) (hl0:l.length<=1073741824) {K:KT} (hK:K (.d (.bool (znK L l))) σ) :
  zp Tryz.prog zpB [.box id 0,.d (.slice (zgR l))] σ K:=by
 refine zeW e_r09_Chain fun hl => ?_
 have fin:∀ z,znK L l=z->K (.d (.bool z)) σ:=fun z h=>h▸hK
 clear hK
 have hlen:(zgR l).length=l.length:=List.length_map ..
 simp only [zvQ,iN,bT,bF,eN]
 refine zo l.length (fun k vs s=>vs = [.d (.int .i64 k)]/\s = σ/\znK L l=zsV L (zrl l k) (l.drop k)/\∀ q,zrl l k=some q->zba q=0) ⟨rfl,rfl,rfl,by simp [zrl]⟩ ?_
 rintro k vs s hk ⟨rfl,rfl,hpf,hq⟩
 by_cases hlt:k<l.length
 ·have hd:decide ((k:Int)<(l.length:Int))=true:=by simp;omega
  have hx:l[k]? = some l[k]:=by simp [hlt]
  have hgx:=zK (f:=ztT) hx
  obtain ⟨h,hhe⟩:∃ h,l[k]=h:=⟨_,rfl⟩
  rw [hhe] at hx hgx
  rw [zxr hx] at hpf
  refine gq2 (zg hd (zg hgx hlen)) ?_
  refine zvt (h:=h) ?_
  cases hc:(zba h==0)
  ·have hc':(zba h != 0)=true:=by simpa using hc
   refine gq2 hc' ?_
   refine zI hl ?_
   exact fin _ (by rw [hpf,zxq hc];rfl)
  have hc0:zba h=0:=by simpa using hc
  rw [zdx.1 hc0,Bool.true_and] at hpf
  rw [hc0]
  cases k with
  | zero=>
   refine gq2 (zg (show ((0:Int) != 0)=false from rfl) (zg (show (((0:Nat):Int)==0)=true from rfl) (wki 0 (by omega)))) ?_
   refine zas.next hlt ⟨rfl,rfl,?_,?_⟩
   ·rw [hpf];simp [zrl,linkF,hx]
   ·intro q hq2
    rw [zeE hx] at hq2
    cases hq2;exact hc0
  | succ j=>
   have hz:(((j+1:Nat):Int)==0)=false:=by simp;omega
   have hy:l[j]? = some l[j]:=by simp [show j<l.length by omega]
   have hgy:=zK (f:=ztT) hy
   obtain ⟨q,hqe⟩:∃ q,l[j]=q:=⟨_,rfl⟩
   rw [hqe] at hy hgy
   have hqc:=hq q (zeE hy)
   have hqs:=hdr_seq hqc
   have hw1:IntKind.i64.wrap (((j+1:Nat):Int)-1)=(j:Int):=by rw [zU (by omega) (by omega)];omega
   have hw2:IntKind.i64.wrap (q.seq+1)=q.seq+1:=zU (by omega) (by omega)
   have hw3:=wki (j+1) (by omega)
   rw [zeE hy] at hpf
   refine gq2 (zg (show ((0:Int) != 0)=false from rfl) (zg hz (zg hw1 (zg hgy hlen)))) ?_
   refine zvu (h:=q) ?_
   rw [zqH hqc,hqc]
   refine gq1 ?_
   refine zmp hT hL ?_
   cases hlk:zdf L (zpI q) with
   | none=>
    refine gq5 ?_
    refine zI hl ?_
    exact fin _ (by rw [hpf];simp [linkF,hlk])
   | some i=>
    simp only [linkF,hlk] at hpf
    simp only [zjl]
    cases h1:(h.prev==((i+1:Nat):Int))
    ·have h1':(h.prev != ((i+1:Nat):Int))=true:=by simpa using h1
     refine zmY (zg hgx h1') ?_
     refine zI hl ?_
     exact fin _ (by rw [hpf,h1];rfl)
    have h1':(h.prev != ((i+1:Nat):Int))=false:=by simpa using h1
    cases h2:(h.seq==q.seq+1)
    ·have h2':(h.seq != q.seq+1)=true:=by simpa using h2
     refine zmY (zg hgx (zg hgy (zg hw1 (zg hw2 (zg h1' h2'))))) ?_
     refine zI hl ?_
     exact fin _ (by rw [hpf,h1,h2];rfl)
    have h2':(h.seq != q.seq+1)=false:=by simpa using h2
    refine zmY (zg hgx (zg hgy (zg hw1 (zg hw2 (zg h1' (zg h2' hw3)))))) ?_
    refine zas.next hlt ⟨rfl,rfl,?_,?_⟩
    ·rw [hpf,h1,h2,zeE hx];rfl
    ·intro q2 hq2
     rw [zeE hx] at hq2
     cases hq2;exact hc0
 ·have hd:decide ((k:Int)<(l.length:Int))=false:=by simp;omega
  rw [List.drop_eq_nil_of_le (by omega)] at hpf
  refine gq2 (zg hd hlen) ?_
  refine zI hl ?_
  exact fin _ hpf
theorem c_blMade {σ:List zh} {id m t:Nat} {L:List (List UInt8)} (hT:zdH σ id m t L) (hL:zne L) {K:KT} (hK:K (.d (.bool true)) σ):zp Tryz.prog znB [.box id 0] σ K:=by
 refine zfc e_block_made fun hl => ?_
 simp only [ztn,iN,bT,bF,eN]
 refine gq1 ?_
 refine zqY hT hL.nd hL.len hL.each ?_
 refine gq1 ?_
 refine zI hl ?_
 exact hK
theorem c_blChain {σ:List zh} {id m t:Nat} {L:List (List UInt8)} {l:List zdl} (hT:zdH σ id m t L) (hL:zne L) (hl0:l.length<=1073741824) {K:KT} (hK:K (.d (.bool (znK L l))) σ) :
  zp Tryz.prog zma [.box id 0,.d (.slice (zgR l))] σ K:=by
 refine zeW zyN fun hl => ?_
 have fin:∀ z,znK L l=z->K (.d (.bool z)) σ:=fun z h=>h▸hK
 clear hK
 have hlen:(zgR l).length=l.length:=List.length_map ..
 simp only [zrx,iN,bT,bF,eN]
 refine gq1 ?_
 refine c_blMade hT hL ?_
 refine gq2 hlen ?_
 refine zo l.length (fun k vs s=>vs = [.d (.int .i64 k)]/\(∃ T,s = σ++T)/\znK L l=zsV L (zrl l k) (l.drop k)/\∀ q,zrl l k=some q->zba q=0) ⟨rfl,⟨[],by simp⟩,rfl,by simp [zrl]⟩ ?_
 rintro k vs s hk ⟨rfl,⟨T,rfl⟩,hpf,hq⟩
 by_cases hlt:k<l.length
 ·have hd:decide ((k:Int)<(l.length:Int))=true:=by simp;omega
  have hx:l[k]? = some l[k]:=by simp [hlt]
  have hgx:=zK (f:=ztT) hx
  obtain ⟨h,hhe⟩:∃ h,l[k]=h:=⟨_,rfl⟩
  rw [hhe] at hx hgx
  rw [zxr hx] at hpf
  refine gq2 (zg hd (zg hgx hlen)) ?_
  refine c_blCheck (h:=h) ?_
  cases hc:(zba h==0)
  ·have hc':(zba h != 0)=true:=by simpa using hc
   refine gq2 hc' ?_
   refine zI hl ?_
   exact fin _ (by rw [hpf,zxq hc];rfl)
  have hc0:zba h=0:=by simpa using hc
  have hhs:=hdr_seq hc0
  rw [zdx.1 hc0,Bool.true_and] at hpf
  rw [hc0]
  cases k with
  | zero=>
   refine gq2 (zg (show ((0:Int) != 0)=false from rfl) (zg (show (((0:Nat):Int)==0)=true from rfl) (wki 0 (by omega)))) ?_
   refine zas.next hlt ⟨rfl,⟨_,rfl⟩,?_,?_⟩
   ·rw [hpf];simp [zrl,linkF,hx]
   ·intro q hq2
    rw [zeE hx] at hq2
    cases hq2;exact hc0
  | succ j=>
   have hz:(((j+1:Nat):Int)==0)=false:=by simp;omega
   have hy:l[j]? = some l[j]:=by simp [show j<l.length by omega]
   have hgy:=zK (f:=ztT) hy
   obtain ⟨q,hqe⟩:∃ q,l[j]=q:=⟨_,rfl⟩
   rw [hqe] at hy hgy
   have hqc:=hq q (zeE hy)
   have hqs:=hdr_seq hqc
   have hw1:IntKind.i64.wrap (((j+1:Nat):Int)-1)=(j:Int):=by rw [zU (by omega) (by omega)];omega
   have hw2:IntKind.i64.wrap (h.seq-1)=h.seq-1:=zU (by omega) (by omega)
   have hw3:=wki (j+1) (by omega)
   rw [zeE hy] at hpf
   refine gq2 (zg (show ((0:Int) != 0)=false from rfl) (zg hz (zg hw1 (zg hgy hlen)))) ?_
   refine c_blBytes (h:=q) ?_
   rw [zqH hqc,hqc]
   refine gq1 ?_
   refine zqa (hT.app _) ?_
   cases hlk:zdf L (zpI q) with
   | none=>
    refine gq5 ?_
    refine zI hl ?_
    exact fin _ (by rw [hpf];simp [linkF,hlk])
   | some i=>
    simp only [linkF,hlk] at hpf
    simp only [zjl]
    cases h1:(h.prev==((i+1:Nat):Int))
    ·have h1':(h.prev != ((i+1:Nat):Int))=true:=by simpa using h1
     refine zmY (zg hgx h1') ?_
     refine zI hl ?_
     exact fin _ (by rw [hpf,h1];rfl)
    have h1':(h.prev != ((i+1:Nat):Int))=false:=by simpa using h1
    have e2:(h.seq-1 != q.seq) = !(h.seq==q.seq+1):=by
     rw [Bool.eq_iff_iff]
     simp only [bne_iff_ne,Bool.not_eq_true',beq_eq_false_iff_ne,ne_eq]
     omega
    cases h2:(h.seq==q.seq+1)
    ·rw [h2] at e2
     refine zmY (zg hgx (zg hgy (zg hw1 (zg hw2 (zg h1' e2))))) ?_
     refine zI hl ?_
     exact fin _ (by rw [hpf,h1,h2];rfl)
    rw [h2] at e2
    refine zmY (zg hgx (zg hgy (zg hw1 (zg hw2 (zg h1' (zg e2 hw3)))))) ?_
    refine zas.next hlt ⟨rfl,⟨_,rfl⟩,?_,?_⟩
    ·rw [hpf,h1,h2,zeE hx];rfl
    ·intro q2 hq2
     rw [zeE hx] at hq2
     cases hq2;exact hc0
 ·have hd:decide ((k:Int)<(l.length:Int))=false:=by simp;omega
  rw [List.drop_eq_nil_of_le (by omega)] at hpf
  refine gq2 (zg hd hlen) ?_
  refine zI hl ?_
  exact fin _ hpf
theorem zxx {σ:List zh} {l:List zbi} (hl0:l.length<=1073741824) (hp:∀ p∈l,zng p) {K:KT} (hK:K (.d (.slice (zhI (l.map zaL)))) σ):zp Tryz.prog zke [.d (.slice (zaH l))] σ K:=by
 refine zfc e_r09_Leaves fun hl => ?_
 have hlen:(zaH l).length=l.length:=List.length_map ..
 simp only [ztc,iN,bT,bF,eN]
 refine zcD l.length (fun k vs s=>vs = [.own σ.length (zhI ((l.take k).map zaL)),.d (.int .i64 k)]/\∃ T,s = σ++(.tok 1 k::T)) (.tok 0 [] 1 rfl (by simp) (.refl _ _)) ⟨by simp,[],rfl⟩ ?_
 rintro k vs s hk ⟨rfl,T,rfl⟩
 by_cases hlt:k<l.length
 ·have hd:decide ((k:Int)<(l.length:Int))=true:=by simp;omega
  have hx:l[k]? = some l[k]:=by simp [hlt]
  have hpx:=hp _ (List.getElem_mem hlt)
  have hgx:=zK (f:=zdN) hx
  obtain ⟨p,hpe⟩:∃ p,l[k]=p:=⟨_,rfl⟩
  rw [hpe] at hx hgx hpx
  have hnx:zhI ((l.take k).map zaL)++[[D.slice (bcs (zaL p))]]=zhI ((l.take (k+1)).map zaL):=by
   rw [List.take_add_one,hx];simp
  have hk2:(zhI ((l.take k).map zaL)).length=k:=by simp;omega
  refine gq2 (zg hd (zg hgx hlen)) ?_
  refine zxw hpx ?_
  refine gq2 (zg hk2 (zg hnx (wki k (by omega)))) ?_
  exact zas.next hlt ⟨rfl,_,rfl⟩
 ·have hd:decide ((k:Int)<(l.length:Int))=false:=by simp;omega
  rw [List.take_of_length_le (by omega)]
  refine gq2 (zg hd hlen) ?_
  refine zI hl ?_
  exact hK
def hdigE (L:List (List UInt8)) (h:zdl):Int:=if zba h≠0 then zba h else if zdX L (zpI h)=0 then 6 else 0
def zmg (L:List (List UInt8)) (h:zdl):Int:=if zba h≠0 then 0 else zdX L (zpI h)
def zfy (L:List (List UInt8)) (h:zdl):List (List UInt8):=if zba h≠0 then L else zfD L (zpI h)
theorem zxz {σ:List zh} {id:Nat} {L:List (List UInt8)} {h:zdl} (hT : σ[id]? = some (rtO L)) (hL:L.length<=1048576) {K:KT}
  (hK:K (.tup [.d (.int .i64 (zmg L h)),.d (.int .i64 (hdigE L h))]) (σ.set id (rtO (zfy L h)))):zp Tryz.prog zkf [.box id 0,ztU h] σ K:=by
 refine zeW e_r09_Digest fun hl => ?_
 simp only [ztd,iN,bT,bF,eN,ztU]
 refine gq1 ?_
 refine zvu (h:=h) ?_
 cases hc:(zba h==0)
 ·have hc':(zba h != 0)=true:=by simpa using hc
  have hc0:zba h≠0:=by simpa using hc
  simp only [hdigE,zmg,zfy,if_pos hc0] at hK
  rw [zbF hT] at hK
  refine gq2 hc' ?_
  refine zI hl ?_
  exact hK
 have hc0:zba h=0:=by simpa using hc
 have hbl:=hdrB_len (zdx.1 hc0)
 simp only [hdigE,zmg,zfy,hc0,ne_eq,not_true_eq_false,if_false] at hK
 rw [zqH hc0,hc0]
 refine gq2 (show ((0:Int) != 0)=false from rfl) ?_
 refine zmo (zf hT) (by omega) hL ?_
 rw [zcg hT]
 have hl1:zgh σ.length (σ.set id (rtO (zfD L (zpI h)))):=hl.setO (zgl _ _)
 have hs1:(σ.set id (rtO (zfD L (zpI h)))).length = σ.length:=by simp
 obtain ⟨S1,hS1⟩:∃ S1, σ.set id (rtO (zfD L (zpI h)))=S1:=⟨_,rfl⟩
 rw [hS1] at hK hs1 hl1 ⊢
 by_cases hz:zdX L (zpI h)=0
 ·rw [if_pos hz,hz] at hK
  rw [hz]
  refine gq2 (show ((0:Int)==0)=true from rfl) ?_
  refine zeZ hs1 ?_ hl1 ?_
  ·simp [zfz,dmT,dm,dm1,zcJ,zcb,zfL]
  ·exact hK
 ·have hq:(zdX L (zpI h)==0)=false:=by simpa using hz
  rw [if_neg hz] at hK
  refine gq2 hq ?_
  refine zeZ hs1 ?_ hl1 ?_
  ·simp [zfz,dmT,dm,dm1,zcJ,zcb,zfL]
  ·exact hK
end Go.Proofs.YtfgbofkdhfjegaaGreat
