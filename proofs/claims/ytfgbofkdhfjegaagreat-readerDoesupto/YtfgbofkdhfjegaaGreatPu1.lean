/- Contract: whether a block has put what a proof names. -/
import Derived.Test.YtfgbofkdhfjegaaGreatBv1
import Derived.Test.YtfgbofkdhfjegaaGreatPt2
import Derived.Test.YtfgbofkdhfjegaaGreatCodec1
import Derived.Test.YtfgbofkdhfjegaaGreatBv5
set_option linter.all false
set_option maxRecDepth 100000
namespace Go.Proofs.YtfgbofkdhfjegaaGreat
open Go.AW
def zhO (s:zaW) (o:Int):zbW:=match s.cs.find? (fun k=>(ziZ s.L s.bs k [116] o).1==0) with
 | some k=>(ziZ s.L s.bs k [116] o).2.1
 | none=>znm
theorem c_proof25 {σ S:List zh} {C:zh} {r w:AV} {s:zaW} {L:List (List UInt8)} {G:List zR} {o:Int} {N m:Nat} {ks:List Int} {h0:zdl} (hE:WE σ C r w s L G S) (hI:StI N m s) (hm:m<=1000) (hH:zjY ks h0 s)
  {K:KT} (hK:∀ τ,K (zfB (zhO s o)) (S ++ τ)):zp Tryz.prog zft [.box (σ.length+9) 0,.d (.int .i64 o)] S K:=by
 refine zcU zlk.is rfl fun hl _=>zlk.goes ?_
 have hcl:=hI.cl
 have hbl:=hI.bl
 have hcq:(zfa s.cs).length=s.cs.length:=List.length_map ..
 have w9:=fun τ=>zf (τ := τ) hE.st
 simp only [zlC,iN,bT,bF,eN,zl5]
 refine gq2 (zg w9 hcq) ?_
 refine zo s.cs.length (fun k vs S'=>vs = [.d (.int .i64 k)]/\(∃ τ,S' = S ++ τ)/\S'[S.length]? = some (.box [.d (.str []),.d (.int .i64 0),.exact [],.exact [],.d (.int .i64 0),.d (.int .i64 0),.exact [],.d (.int .i64 0),.d (.int .i64 0),.exact []])/\∀ x∈s.cs.take k,((ziZ s.L s.bs x [116] o).1==0)=false) ⟨rfl,⟨_,rfl⟩,by rw [zy];rfl,by simp⟩ ?_
 rintro k vs S' hk ⟨rfl,⟨τ,hτ⟩,hz,hno⟩
 have hE':WE σ C r w s L G S':=hτ▸hE.app τ
 have v9:=hE'.st
 have v9':=fun τ=>zf (τ := τ) hE'.st
 have z':=fun τ=>zf (τ := τ) hz
 have lz:=zB hz
 by_cases hlt:k<s.cs.length
 ·have hd:decide ((k:Int)<(s.cs.length:Int))=true:=by simp;omega
  have hx:s.cs[k]? = some s.cs[k]:=by simp [hlt]
  have hgx:=zK (f:=certD) hx
  have hsc:=hI.cs _ (List.getElem_mem hlt)
  obtain ⟨x,hxx⟩:∃ x,s.cs[k]=x:=⟨_,rfl⟩
  rw [hxx] at hx hgx hsc
  have hgx:(zfa s.cs)[k]? = some (certD x):=hgx
  have hw:IntKind.i64.wrap ((k:Int)+1)=((k+1:Nat):Int):=by rw [zU (by omega) (by omega)];rfl
  have hnx:((ziZ s.L s.bs x [116] o).1==0)=false->∀ y∈s.cs.take (k+1),((ziZ s.L s.bs y [116] o).1==0)=false:=fun h y hy=>by
   rw [List.take_add_one,hx] at hy
   rcases List.mem_append.1 hy with hy|hy
   ·exact hno y hy
   ·simp at hy;subst hy;exact h
  have hfd:((ziZ s.L s.bs x [116] o).1==0)=true->zhO s o=(ziZ s.L s.bs x [116] o).2.1:=fun h=>by
   have e:s.cs=s.cs.take k++x::s.cs.drop (k+1):=by
    obtain ⟨hk',rfl⟩:=List.getElem?_eq_some_iff.1 hx
    simp
   have hf:s.cs.find? (fun k=>(ziZ s.L s.bs k [116] o).1==0)=some x:=by
    rw [e,List.find?_append,List.find?_eq_none.2 (fun y hy=>by simp [hno y hy]),Option.none_or,List.find?_cons,h]
   rw [zhO,hf]
  refine gq59 (zg hd (zg hgx (zg hcq (zg v9 v9')))) ?_
  refine ⟨?_,?_⟩
  rotate_left
  refine gq2 (zg v9 v9') ?_
  all_goals
   refine c_r23Make (L:=s.L) (l:=s.bs) (c:=x) (tp := [116]) (o:=o) (zf hE'.xb) hI.tab.len (by omega) hI.bs (by omega) ?_
   rw [make_same hH,zbF (zf hE'.xb)]
   obtain ⟨M,hM⟩:∃ M,ziZ s.L s.bs x [116] o=M:=⟨_,rfl⟩
   rw [hM] at hnx hfd ⊢
   cases he:(M.1==0)
   ·refine gq2 (zg he hw) ?_
    exact zas.next hlt ⟨rfl,⟨_,by rw [hτ,List.append_assoc]⟩,z' _,hnx he⟩
   ·have hf:=hfd he
    have s0:∀ τ Y,(S' ++ τ).set S.length Y=S'.set S.length Y ++ τ:=fun τ Y=>List.set_append_left _ _ lz
    have s1:∀ Y,(S'.set S.length Y)[S.length]? = some Y:=fun Y=>List.getElem?_set_self lz
    have s2:∀ Y τ,(S'.set S.length Y ++ τ)[S.length]? = some Y:=fun Y τ=>zf (s1 Y)
    have fin:∀ Y τ',K (zfB M.2.1) (S'.set S.length Y ++ τ'):=fun Y τ'=>by
     have e:S'.set S.length Y ++ τ' = S++(τ.set 0 Y ++ τ'):=by
      rw [hτ,List.set_append_right _ _ (Nat.le_refl _),Nat.sub_self,List.append_assoc]
     rw [e, ← hf];exact hK _
    refine gq2 (zg he (zg z' (zg s0 (zg s1 s2)))) ?_
    refine zeR ?_
    exact fin _ _
 ·have hd:decide ((k:Int)<(s.cs.length:Int))=false:=by simp;omega
  rw [show s.cs.take k=s.cs from List.take_of_length_le (by omega)] at hno
  have hf:zhO s o=znm:=by
   rw [zhO,List.find?_eq_none.2 (fun y hy=>by simp [hno y hy])]
  have s1:∀ Y,(S'.set S.length Y)[S.length]? = some Y:=fun Y=>List.getElem?_set_self lz
  refine gq2 (zg hd (zg hcq (zg hz s1))) ?_
  have e:∀ Y,S'.set S.length Y=S ++ τ.set 0 Y:=fun Y=>by
   rw [hτ,List.set_append_right _ _ (Nat.le_refl _),Nat.sub_self]
  rw [e]
  refine zeR ?_
  rw [hf] at hK
  exact hK _
deriving instance DecidableEq for zbi
theorem placed_ext {x y:zbi} (h1:(x.topic==y.topic)=true) (h2:(x.offset != y.offset)=false) (h3:(x.rec_==y.rec_)=true):x=y:=by
 cases x;cases y;simp at h1 h2 h3;simp [h1,h2,h3]
theorem gq62 {A P Q:Prop} (a:A) (h:Q) (e:A->Hd Q->P:=by intro a h;(repeat' first|simp -dsimp only [↓zeU, ↓zaA, ↓zbp, ↓zeV, ↓zeO, ↓zeM, ↓zeP, ↓zeN, ↓zbu, ↓zbq, ↓zbv, ↓zbr, ↓zeQ, ↓zbo, ↓zbw, ↓zbs, ↓zbx, ↓zbt, ↓zeL, ↓zeT, ↓zbn, ↓zby, ↓zeG, ↓zeF, ↓zeK,iN,bT,bF,eN, ↓zco, ↓unC, ↓zX, ↓zM, ↓zN, ↓zQ, ↓zZ, ↓zai, ↓zcv, ↓zaf, ↓zaS, ↓zV, ↓zl, ↓zm, ↓zbg, ↓ze, ↓zae, ↓zC, ↓zaM, ↓zaT, ↓zd, ↓zA, ↓zr, ↓zD, ↓zao, ↓zcY, ↓zdn, ↓zap, ↓zaw, ↓zaN, ↓zaZ, ↓zbk, ↓zw, ↓zaj, ↓zO, ↓zE, ↓zY,zdr,zbm,zbl,unA,zdo,bnd,zdL,zab,zS,zdI,dm,dm1,zG,zak,zdZ,zdY,zH,Q0,Q1,Q2,Q3,Q4,Q5,zW,zx,zy,zT,zL,Q6,Q7,Q8,Q9,Q10,Q11,Q12,Q13,Q14,Nat.reduceAdd,Q15,Int.reduceToNat,Q16,Q17,Q18,Q19,Q20,reduceIte,Q21,Q22,zF,rep,zaa,zeC,toD,zag,Q23,Q24,Q25,Q26,Q27,Q28,Nat.reduceLeDiff,Q29,Nat.reduceSub,Q30,Q31,Q32,sc,Q33,Q34,Q35,Q36,Q37,Q26,Q38,Q39,zis,zio,zil,zit,zcN,ziq,zim,zir,zin,zcM,zcO,ziu,ziv,Bool.not_true,Bool.not_false,List.length_map,zgr,zdN,a]|with_reducible refine zix ?_|fail);exact h.go):P:=e a ⟨h⟩
theorem c_samePlaced {σ:List zh} {a b:List zbi} (ha1:a.length<=1073741824) {K:KT} (hK:K (.d (.bool (decide (a=b)))) σ) :
  zp Tryz.prog zih [.d (.slice (zaH a)),.d (.slice (zaH b))] σ K:=by
 refine zeW ztB fun hl => ?_
 have fin:∀ z,decide (a=b)=z->K (.d (.bool z)) σ:=fun z h=>h▸hK
 clear hK
 have hla:(zaH a).length=a.length:=List.length_map ..
 have hlb:(zaH b).length=b.length:=List.length_map ..
 simp only [zmH,iN,bT,bF,eN]
 cases hl0:((a.length:Int) != (b.length:Int))
 rotate_left
 ·refine gq2 (zg hla (zg hlb hl0)) ?_
  refine zI hl ?_
  refine fin _ (decide_eq_false fun h => ?_)
  rw [h] at hl0;simp at hl0
 have hl2:a.length=b.length:=by simp at hl0;omega
 refine gq2 (zg hla (zg hlb hl0)) ?_
 refine zo a.length (fun k vs s=>vs = [.d (.int .i64 k)]/\s = σ/\a.take k=b.take k) ⟨rfl,rfl,by simp⟩ ?_
 rintro k vs s hk ⟨rfl,rfl,htk⟩
 by_cases hlt:k<a.length
 ·have hd:decide ((k:Int)<(a.length:Int))=true:=by simp;omega
  have hx:a[k]? = some a[k]:=by simp [hlt]
  have hy:b[k]? = some (b[k]'(by omega)):=List.getElem?_eq_getElem _
  have hgx:=zK (f:=zdN) hx
  have hgy:=zK (f:=zdN) hy
  obtain ⟨x,hxe⟩:∃ x,a[k]=x:=⟨_,rfl⟩
  obtain ⟨y,hye⟩:∃ y,(b[k]'(by omega))=y:=⟨_,rfl⟩
  rw [hxe] at hx hgx
  rw [hye] at hy hgy
  have hgx:(zaH a)[k]? = some (zdN x):=hgx
  have hgy:(zaH b)[k]? = some (zdN y):=hgy
  have hw:IntKind.i64.wrap ((k:Int)+1)=((k+1:Nat):Int):=by rw [zU (by omega) (by omega)];rfl
  have ne:x≠y->decide (a=b)=false:=fun h=>decide_eq_false fun e=>by
   subst e;rw [hx] at hy;exact h (Option.some.inj hy)
  cases e1:(x.topic==y.topic)
  ·refine gq60 (zg hd (zg hgx (zg hgy (zg hla (zg hlb e1))))) ?_
   refine zI hl ?_
   exact fin _ (ne fun h=>by subst h;simp at e1)
  cases e2:(x.offset != y.offset)
  rotate_left
  ·refine gq60 (zg hd (zg hgx (zg hgy (zg hla (zg hlb (zg e1 e2)))))) ?_
   refine zI hl ?_
   exact fin _ (ne fun h=>by subst h;simp at e2)
  cases e3:(x.rec_==y.rec_)
  ·refine gq62 (zg hd (zg hgx (zg hgy (zg hla (zg hlb (zg e1 (zg e2 e3))))))) ?_
   refine zI hl ?_
   exact fin _ (ne fun h=>by subst h;simp at e3)
  ·refine gq62 (zg hd (zg hgx (zg hgy (zg hla (zg hlb (zg e1 (zg e2 (zg e3 hw)))))))) ?_
   exact zas.next hlt ⟨rfl,rfl,zbc hx hy htk (placed_ext e1 e2 e3)⟩
 ·have hd:decide ((k:Int)<(a.length:Int))=false:=by simp;omega
  refine gq2 (zg hd (zg hla hlb)) ?_
  refine zI hl ?_
  exact fin _ (decide_eq_true (zbN hl2 (k:=k) (by omega) htk))
abbrev outA (o:Int × zjF):AV := .agg (.d (.int .i64 o.1)::msgL o.2)
theorem c_sameOut {σ:List zh} {a b:Int × zjF} (ha:zdD a.2) (hb:zdD b.2) {K:KT} (hK:K (.d (.bool (decide (a=b)))) σ):zp Tryz.prog zgd [outA a,outA b] σ K:=by
 refine zeW ztH fun hl => ?_
 have fin:∀ z,decide (a=b)=z->K (.d (.bool z)) σ:=fun z h=>h▸hK
 clear hK
 simp only [zmN,iN,bT,bF,eN]
 cases h1:(a.1==b.1)
 ·refine gq2 h1 ?_
  refine zI hl ?_
  exact fin _ (decide_eq_false fun h=>by subst h;simp at h1)
 refine gq2 h1 ?_
 refine c_kSame (a:=a.2) (b:=b.2) ha hb ?_
 cases h2:decide (a.2=b.2)
 ·refine gq1 ?_
  refine zI hl ?_
  exact fin _ (decide_eq_false fun h=>by subst h;simp at h2)
 ·refine gq1 ?_
  refine zI hl ?_
  exact fin _ (decide_eq_true (by cases a;cases b;simp_all))
theorem gq63 {A P Q:Prop} (a:A) (h:Q) (e:A->Hd Q->P:=by intro a h;(repeat' first|simp -dsimp only [↓zeU, ↓zaA, ↓zbp, ↓zeV, ↓zeO, ↓zeM, ↓zeP, ↓zeN, ↓zbu, ↓zbq, ↓zbv, ↓zbr, ↓zeQ, ↓zbo, ↓zbw, ↓zbs, ↓zbx, ↓zbt, ↓zeL, ↓zeT, ↓zbn, ↓zby, ↓zeG, ↓zeF, ↓zeK,iN,bT,bF,eN, ↓zco, ↓unC, ↓zX, ↓zM, ↓zN, ↓zQ, ↓zZ, ↓zai, ↓zcv, ↓zaf, ↓zaS, ↓zV, ↓zl, ↓zm, ↓zbg, ↓ze, ↓zae, ↓zC, ↓zaM, ↓zaT, ↓zd, ↓zA, ↓zr, ↓zD, ↓zao, ↓zcY, ↓zdn, ↓zap, ↓zaw, ↓zaN, ↓zaZ, ↓zbk, ↓zw, ↓zaj, ↓zO, ↓zE, ↓zY,zdr,zbm,zbl,unA,zdo,bnd,zdL,zab,zS,zdI,dm,dm1,zG,zak,zdZ,zdY,zH,Q0,Q1,Q2,Q3,Q4,Q5,zW,zx,zy,zT,zL,Q6,Q7,Q8,Q9,Q10,Q11,Q12,Q13,Q14,Nat.reduceAdd,Q15,Int.reduceToNat,Q16,Q17,Q18,Q19,Q20,reduceIte,Q21,Q22,zF,rep,zaa,zeC,toD,zag,Q23,Q24,Q25,Q26,Q27,Q28,Nat.reduceLeDiff,Q29,Nat.reduceSub,Q30,Q31,Q32,sc,Q33,Q34,Q35,Q36,Q37,Q26,Q38,Q39,zis,zio,zil,zit,zcN,ziq,zim,zir,zin,zcM,zcO,ziu,ziv,Bool.not_true,Bool.not_false,List.length_map,msgD,outD,a]|with_reducible refine zix ?_|fail);exact h.go):P:=e a ⟨h⟩
theorem c_eqOuts {σ:List zh} {a b:List (Int × zjF)} (ha1:a.length<=1073741824) (ha2:∀ x∈a,zdD x.2) (hb2:∀ x∈b,zdD x.2) {K:KT} (hK:K (.d (.bool (decide (a=b)))) σ) :
  zp Tryz.prog zaO [.d (.slice (zqw a)),.d (.slice (zqw b)),.fn (.func zgd) [] []] σ K:=by
 refine acE3 zdk fun hl => ?_
 have fin:∀ z,decide (a=b)=z->K (.d (.bool z)) σ:=fun z h=>h▸hK
 clear hK
 have hla:(zqw a).length=a.length:=List.length_map ..
 have hlb:(zqw b).length=b.length:=List.length_map ..
 simp only [zbE,iN,bT,bF,eN,zl6]
 cases hl0:((a.length:Int) != (b.length:Int))
 rotate_left
 ·refine gq2 (zg hla (zg hlb hl0)) ?_
  refine zI hl ?_
  refine fin _ (decide_eq_false fun h => ?_)
  rw [h] at hl0;simp at hl0
 have hl2:a.length=b.length:=by simp at hl0;omega
 refine gq2 (zg hla (zg hlb hl0)) ?_
 refine zo a.length (fun k vs s=>vs = [.d (.int .i64 k)]/\(∃ T,s = σ++T)/\a.take k=b.take k) ⟨rfl,⟨[],by simp⟩,by simp⟩ ?_
 rintro k vs s hk ⟨rfl,⟨T,rfl⟩,htk⟩
 by_cases hlt:k<a.length
 ·have hd:decide ((k:Int)<(a.length:Int))=true:=by simp;omega
  have hx:a[k]? = some a[k]:=by simp [hlt]
  have hy:b[k]? = some (b[k]'(by omega)):=List.getElem?_eq_getElem _
  have hgx:=zK (f:=outD) hx
  have hgy:=zK (f:=outD) hy
  have hxs:=ha2 _ (List.getElem_mem hlt)
  have hys:=hb2 _ (List.getElem_mem (show k<b.length by omega))
  obtain ⟨x,hxe⟩:∃ x,a[k]=x:=⟨_,rfl⟩
  obtain ⟨y,hye⟩:∃ y,(b[k]'(by omega))=y:=⟨_,rfl⟩
  rw [hxe] at hx hgx hxs
  rw [hye] at hy hgy hys
  have hgx:(zqw a)[k]? = some (outD x):=hgx
  have hgy:(zqw b)[k]? = some (outD y):=hgy
  obtain ⟨S,hS⟩:∃ S, σ++T=S:=⟨_,rfl⟩
  rw [hS]
  refine gq63 (zg hd (zg hgx (zg hgy (zg hla hlb)))) ?_
  refine c_sameOut (a:=x) (b:=y) hxs hys ?_
  cases he:decide (x=y)
  ·refine gq2 hd ?_
   rw [← hS,List.append_assoc]
   refine zI hl ?_
   refine fin _ (decide_eq_false fun h => ?_)
   subst h
   rw [hx] at hy
   have:=Option.some.inj hy
   simp [this] at he
  ·refine gq2 (wk1 k (by omega)) ?_
   exact zas.next hlt ⟨rfl,⟨_,by rw [← hS,List.append_assoc]⟩,zbc hx hy htk (by simpa using he)⟩
 ·have hd:decide ((k:Int)<(a.length:Int))=false:=by simp;omega
  refine gq2 hd ?_
  refine zI hl ?_
  exact fin _ (decide_eq_true (zbN hl2 (k:=k) (by omega) htk))
theorem zoA {σ:List zh} {a b:List (Int × zjF)} (ha1:a.length<=1073741824) (ha2:∀ x∈a,zdD x.2) (hb2:∀ x∈b,zdD x.2) {K:KT} (hK:K (.d (.bool (decide (a=b)))) σ) :
  zp Tryz.prog zfP [.d (.slice (zqw a)),.d (.slice (zqw b))] σ K:=by
 refine zeW zwA fun hl => ?_
 simp only [zpq,iN,bT,bF,eN]
 refine gq1 ?_
 refine c_eqOuts ha1 ha2 hb2 ?_
 refine gq1 ?_
 refine zI hl ?_
 exact hK
theorem small_ask {r:zkJ} (h:r.topic.length<=1048576):zdD (askM r):=by
 obtain ⟨n1,n2,n3,n4,n5,n6,n7,n8,n9,n10⟩:=zhj
 exact ⟨n1,n2,n3,n4,n5,n6,n7,n8,by simp only [askM];omega,n10⟩
theorem zrJ {r:zkJ} (h:r.topic.length<=1048576):(zvD r).length<=1/\∀ x∈zvD r,zdD x.2:=by
 unfold zvD
 split
 ·simp
 ·exact ⟨by simp,fun x hx=>by simp at hx;subst hx;exact small_ask h⟩
theorem gq64 {A P Q:Prop} (a:A) (h:Q) (e:A->Hd Q->P:=by intro a h;(repeat' first|simp -dsimp only [↓zeU, ↓zaA, ↓zbp, ↓zeV, ↓zeO, ↓zeM, ↓zeP, ↓zeN, ↓zbu, ↓zbq, ↓zbv, ↓zbr, ↓zeQ, ↓zbo, ↓zbw, ↓zbs, ↓zbx, ↓zbt, ↓zeL, ↓zeT, ↓zbn, ↓zby, ↓zeG, ↓zeF, ↓zeK,iN,bT,bF,eN, ↓zco, ↓unC, ↓zX, ↓zM, ↓zN, ↓zQ, ↓zZ, ↓zai, ↓zcv, ↓zaf, ↓zaS, ↓zV, ↓zl, ↓zm, ↓zbg, ↓ze, ↓zae, ↓zC, ↓zaM, ↓zaT, ↓zd, ↓zA, ↓zr, ↓zD, ↓zao, ↓zcY, ↓zdn, ↓zap, ↓zaw, ↓zaN, ↓zaZ, ↓zbk, ↓zw, ↓zaj, ↓zO, ↓zE, ↓zY,zdr,zbm,zbl,unA,zdo,bnd,zdL,zab,zS,zdI,dm,dm1,zG,zak,zdZ,zdY,zH,Q0,Q1,Q2,Q3,Q4,Q5,zW,zx,zy,zT,zL,Q6,Q7,Q8,Q9,Q10,Q11,Q12,Q13,Q14,Nat.reduceAdd,Q15,Int.reduceToNat,Q16,Q17,Q18,Q19,Q20,reduceIte,Q21,Q22,zF,rep,zaa,zeC,toD,zag,Q23,Q24,Q25,Q26,Q27,Q28,Nat.reduceLeDiff,Q29,Nat.reduceSub,Q30,Q31,Q32,sc,Q33,Q34,Q35,Q36,Q37,Q26,Q38,Q39,zis,zio,zil,zit,zcN,ziq,zim,zir,zin,zcM,zcO,ziu,ziv,Bool.not_true,Bool.not_false,List.length_map,beq_self_eq_true,decide_true,a]|with_reducible refine zix ?_|fail);exact h.go):P:=e a ⟨h⟩
theorem zyV {σ S:List zh} {C:zh} {a b tid lid t2 l2 u g v n:Nat} {s:zaW} {L:List (List UInt8)} {G:List zR} {r:zkJ} (hE:WE σ C (.box a 0) (.box b 0) s L G S)
  (ha:S[a]? = some (rdB r (.box tid 0) (.box lid 0) (rsv u g r.L))) (hu:S[u]? = some (.row g 3 (zqg r.L))) (hb:S[b]? = some (rdX r (.own v (zaH r.L)) (.box t2 0) (.box l2 0))) (hI:zwg n r) (hn:n<=1048576)
  {K:KT} (hK:K (.d (.bool true)) S):zp Tryz.prog zgc [.box (σ.length+9) 0] S K:=by
 refine zfc ztG fun hl => ?_
 have st:=hE.st
 have hln:=hI.len
 obtain ⟨k1,k2⟩:=zrJ hI.topic
 simp only [zmM,iN,bT,bF,eN]
 refine gq2 (zg st (zg ha hb)) ?_
 refine zyZ ha ?_
 refine zmY (zg st (zg ha hb)) ?_
 refine c_rdBroker ha ?_
 refine zmY (zg st (zg ha hb)) ?_
 refine c_rdRead ha hu (by omega) (fun p hp=>(hI.recs p hp).1) ?_
 refine zmY (zg st (zg ha hb)) ?_
 refine c_samePlaced (a:=r.L) (b:=r.L) (by omega) ?_
 rw [show decide (r.L=r.L)=true by simp]
 refine gq64 (zg st (zg ha hb)) ?_
 refine zza ha ?_
 refine zmY (zg st (zg ha hb)) ?_
 refine c_rxAsk hb ?_
 refine zmY (zg st (zg ha hb)) ?_
 refine zoA (a:=zvD r) (b:=zvD r) (by omega) k2 k2 ?_
 rw [show decide (zvD r=zvD r)=true by simp]
 refine gq1 ?_
 refine zI hl ?_
 exact hK
structure OnR (σ:List zh) (C:zh) (s:zaW) (L:List (List UInt8)) (G:List zR) (n a b u g v:Nat) (r q:zkJ) (S:List zh):Prop where
 e:WE σ C (.box a 0) (.box b 0) s L G S
 ra:S[a]? = some (rdB r (.box (σ.length+4) 0) (.box (σ.length+7) 0) (rsv u g r.L))
 ru:S[u]? = some (.row g 3 (zqg r.L))
 rb:S[b]? = some (rdX q (.own v (zaH q.L)) (.box (σ.length+1) 0) (.box (σ.length+2) 0))
 rv:S[v]? = some (.tok 3 q.L.length)
 ha : σ.length+9<a
 hb : σ.length+9<b
 hu : σ.length+9<u
 hv : σ.length+9<v
 ab:a≠b
 i:zwg n r
 j:zwg n q
section
variable {σ S:List zh} {C:zh} {s:zaW} {L:List (List UInt8)} {G:List zR} {n a b u g v:Nat} {r q:zkJ}
theorem OnR.ua (h:OnR σ C s L G n a b u g v r q S):u≠a:=fun e=>by have:=h.ru;rw [e,h.ra] at this;cases this
theorem OnR.ub (h:OnR σ C s L G n a b u g v r q S):u≠b:=fun e=>by have:=h.ru;rw [e,h.rb] at this;cases this
theorem OnR.va (h:OnR σ C s L G n a b u g v r q S):v≠a:=fun e=>by have:=h.rv;rw [e,h.ra] at this;cases this
theorem OnR.vb (h:OnR σ C s L G n a b u g v r q S):v≠b:=fun e=>by have:=h.rv;rw [e,h.rb] at this;cases this
theorem OnR.uv (h:OnR σ C s L G n a b u g v r q S):u≠v:=fun e=>by have:=h.ru;rw [e,h.rv] at this;cases this
theorem OnR.app (h:OnR σ C s L G n a b u g v r q S) (τ:List zh):OnR σ C s L G n a b u g v r q (S ++ τ):=
 ⟨h.e.app τ,zf h.ra,zf h.ru,zf h.rb,zf h.rv,h.ha,h.hb,h.hu,h.hv,h.ab,h.i,h.j⟩
theorem OnR.mono {m:Nat} (h:OnR σ C s L G n a b u g v r q S) (hm:n<=m):OnR σ C s L G m a b u g v r q S:=
 ⟨h.e,h.ra,h.ru,h.rb,h.rv,h.ha,h.hb,h.hu,h.hv,h.ab,h.i.mono hm,h.j.mono hm⟩
theorem OnR.take {g':Nat} {r':zkJ} (h:OnR σ C s L G n a b u g v r q S) (hI:zwg n r'):OnR σ C s L G n a b u g' v r' q ((S.set u (.row g' 3 (zqg r'.L))).set a (rdB r' (.box (σ.length+4) 0) (.box (σ.length+7) 0) (rsv u g' r'.L))):=by
 have h1:=h.ha;have h2:=h.hb;have h3:=h.hu;have h4:=h.hv
 have k1:=h.ua;have k2:=h.ub;have k3:=h.va;have k4:=h.uv;have k5:=h.ab
 refine ⟨(h.e.oth h3 _).oth h1 _,List.getElem?_set_self (by have:=zB h.ra;simpa using this),zc _ (List.getElem?_set_self (zB h.ru)) (by omega),zc _ (zc _ h.rb (by omega)) (by omega),zc _ (zc _ h.rv (by omega)) (by omega),h1,h2,h3,h4,k5,hI,h.j⟩
theorem OnR.tick {r':zkJ} (h:OnR σ C s L G n a b u g v r q S) (hI:zwg n r') (hL:r'.L=r.L):OnR σ C s L G n a b u g v r' q (S.set a (rdB r' (.box (σ.length+4) 0) (.box (σ.length+7) 0) (rsv u g r.L))):=by
 have h1:=h.ha;have h2:=h.hb;have h3:=h.hu;have h4:=h.hv
 have k1:=h.ua;have k2:=h.ub;have k3:=h.va;have k4:=h.uv;have k5:=h.ab
 refine ⟨h.e.oth h1 _,by rw [hL];exact List.getElem?_set_self (zB h.ra),by rw [hL];exact zc _ h.ru (by omega),zc _ h.rb (by omega),zc _ h.rv (by omega),h1,h2,h3,h4,k5,hI,h.j⟩
theorem OnR.takeX {q':zkJ} (h:OnR σ C s L G n a b u g v r q S) (hI:zwg n q'):OnR σ C s L G n a b u g v r q' ((S.set v (.tok 3 q'.L.length)).set b (rdX q' (.own v (zaH q'.L)) (.box (σ.length+1) 0) (.box (σ.length+2) 0))):=by
 have h1:=h.ha;have h2:=h.hb;have h3:=h.hu;have h4:=h.hv
 have k1:=h.ua;have k2:=h.ub;have k3:=h.va;have k4:=h.uv;have k5:=h.ab;have k6:=h.vb
 refine ⟨(h.e.oth h4 _).oth h2 _,zc _ (zc _ h.ra (by omega)) (by omega),zc _ (zc _ h.ru (by omega)) (by omega),List.getElem?_set_self (by have:=zB h.rb;simpa using this),zc _ (List.getElem?_set_self (zB h.rv)) (by omega),h1,h2,h3,h4,k5,h.i,hI⟩
theorem OnR.tickX {q':zkJ} (h:OnR σ C s L G n a b u g v r q S) (hI:zwg n q') (hL:q'.L=q.L):OnR σ C s L G n a b u g v r q' (S.set b (rdX q' (.own v (zaH q.L)) (.box (σ.length+1) 0) (.box (σ.length+2) 0))):=by
 have h1:=h.ha;have h2:=h.hb;have h3:=h.hu;have h4:=h.hv
 have k1:=h.ua;have k2:=h.ub;have k3:=h.va;have k4:=h.uv;have k5:=h.ab;have k6:=h.vb
 refine ⟨h.e.oth h2 _,zc _ h.ra (by omega),zc _ h.ru (by omega),by rw [hL];exact List.getElem?_set_self (zB h.rb),by rw [hL];exact zc _ h.rv (by omega),h1,h2,h3,h4,k5,h.i,hI⟩
theorem OnR.clone {a' u' g':Nat} {r':zkJ} (h:OnR σ C s L G n a b u g v r q S) (hI:zwg n r') (ha:S[a']? = some (rdB r' (.box (σ.length+4) 0) (.box (σ.length+7) 0) (rsv u' g' r'.L))) (hu:S[u']? = some (.row g' 3 (zqg r'.L))) (h1 : σ.length+9<a') (h2 : σ.length+9<u') (h3:a' ≠ b) :
  OnR σ C s L G n a' b u' g' v r' q (S.set (σ.length+9) (.box [.box (σ.length+4) 0,.box (σ.length+7) 0,.box (σ.length+1) 0,.box (σ.length+2) 0,.d (.slice (zcd s.bs)),.d (.slice (zfa s.cs)),.box a' 0,.box b 0])):=by
 have h2':=h.hb;have h4:=h.hv
 exact ⟨h.e.rdr _ _,zc _ ha (by omega),zc _ hu (by omega),zc _ h.rb (by omega),zc _ h.rv (by omega),h1,h2',h2,h4,h3,hI,h.j⟩
theorem OnR.putG (h:OnR σ C s L G n a b u g v r q S) (G':List zR):OnR σ C s L G' n a b u g v r q (putLed S (σ.length+7) (σ.length+6) (σ.length+8) G'):=by
 have h1:=h.ha;have h2:=h.hb;have h3:=h.hu;have h4:=h.hv
 refine ⟨h.e.putG G',?_,?_,?_,?_,h1,h2,h3,h4,h.ab,h.i,h.j⟩<;>unfold putLed
 ·exact zc _ (zc _ (zc _ h.ra (by omega)) (by omega)) (by omega)
 ·exact zc _ (zc _ (zc _ h.ru (by omega)) (by omega)) (by omega)
 ·exact zc _ (zc _ (zc _ h.rb (by omega)) (by omega)) (by omega)
 ·exact zc _ (zc _ (zc _ h.rv (by omega)) (by omega)) (by omega)
end
theorem on_weak {S:List zh} {A B:List AV} {a b:Nat} (ha:S[a]? = some (.box A)) (hb:S[b]? = some (.box B)) (hab:a≠b) (hA:A[8]? = some (.exact [])) (hB:B[4]? = some (.exact [])) (vs:List AV) :
  zqe vs S vs ((S.set a (.box (A.set 8 (.rsl S.length 0 3 0 0)))++[zh.row 0 3 []]).set b (.box (B.set 4 (.own (S.length+1) [])))++[zh.tok 3 0]) ∧
  ((S.set a (.box (A.set 8 (.rsl S.length 0 3 0 0)))++[zh.row 0 3 []]).set b (.box (B.set 4 (.own (S.length+1) [])))++[zh.tok 3 0])[a]? = some (.box (A.set 8 (.rsl S.length 0 3 0 0))) ∧
  ((S.set a (.box (A.set 8 (.rsl S.length 0 3 0 0)))++[zh.row 0 3 []]).set b (.box (B.set 4 (.own (S.length+1) [])))++[zh.tok 3 0])[S.length]? = some (.row 0 3 []) ∧
  ((S.set a (.box (A.set 8 (.rsl S.length 0 3 0 0)))++[zh.row 0 3 []]).set b (.box (B.set 4 (.own (S.length+1) [])))++[zh.tok 3 0])[b]? = some (.box (B.set 4 (.own (S.length+1) []))) ∧
  ((S.set a (.box (A.set 8 (.rsl S.length 0 3 0 0)))++[zh.row 0 3 []]).set b (.box (B.set 4 (.own (S.length+1) [])))++[zh.tok 3 0])[S.length+1]? = some (.tok 3 0):=by
 have la:=zB ha
 have lb:=zB hb
 obtain ⟨A',hA'⟩:∃ A',zh.box (A.set 8 (.rsl S.length 0 3 0 0))=A':=⟨_,rfl⟩
 obtain ⟨S1,hS1⟩:∃ S1,S.set a A' ++ [zh.row 0 3 []]=S1:=⟨_,rfl⟩
 have l1:S1.length=S.length+1:=by rw [← hS1];simp
 have b1:S1[b]? = some (.box B):=by rw [← hS1];exact zf (zc _ hb hab)
 have a1:S1[a]? = some A':=by rw [← hS1];exact zf (List.getElem?_set_self la)
 have r1:S1[S.length]? = some (.row 0 3 []):=by
  rw [← hS1]
  have:=zy (S.set a A') [zh.row 0 3 []]
  rw [List.length_set] at this
  exact this
 rw [hA',hS1]
 refine ⟨?_,zf (zc _ a1 (by omega)),zf (zc _ r1 (by omega)),zf (List.getElem?_set_self (by omega)),?_⟩
 ·refine .rowB a 8 A 3 ha hA (by omega) ?_
  rw [hA',hS1]
  refine .tokB b 4 B [] 3 b1 hB (by simp) ?_
  rw [l1]
  exact .refl _ _
 ·have:=zy (S1.set b (.box (B.set 4 (.own (S.length+1) [])))) [zh.tok 3 0]
  rw [List.length_set,l1] at this
  exact this
theorem c_begunOn {σ:List zh} {c:TCas} (hc:casOk c) {K:KT}
  (hK1:zfE c.f c.me c.topic c.offset≠0->∀ S,WE σ (.box (zpb c)) (.d .nilp) (.d .nilp) (bgF (ksC c) (zrL c.recs)) (bgF (ksC c) (zrL c.recs)).L (bgF (ksC c) (zrL c.recs)).G S->K (.tup [.box (σ.length+9) 0,.d (.bool true)]) S)
  (hK2:zfE c.f c.me c.topic c.offset=0->∀ S a b u v,OnR σ (.box (zpb c)) (bgF (ksC c) (zrL c.recs)) (bgF (ksC c) (zrL c.recs)).L (bgF (ksC c) (zrL c.recs)).G 0 a b u 0 v (zqh c.f c.me c.topic c.offset) (zqh c.f c.me c.topic c.offset) S->K (.tup [.box (σ.length+9) 0,.d (.bool true)]) S) :
  zp Tryz.prog zdt [.agg (zpb c)] σ K:=by
 refine zp.weaken (c_begun25 hc (fun hz S hE=>⟨_,_,.refl _ _,hK1 hz S hE⟩) (fun hz S a b h1 h2 hE ha hb => ?_))
 have hI:=newR_I hz hc.topic
 obtain ⟨k1,k2,k3,k4,k5⟩:=on_weak ha hb (by omega) rfl rfl [.tup [.box (σ.length+9) 0,.d (.bool true)]]
 have la:=zB ha
 refine ⟨_,_,k1,hK2 hz _ a b S.length (S.length+1) ⟨(((hE.oth h1 _).app _).oth (by omega) _).app _,k2,k3,k4,k5,h1,by omega,by omega,by omega,by omega,hI,hI⟩⟩
end Go.Proofs.YtfgbofkdhfjegaaGreat
