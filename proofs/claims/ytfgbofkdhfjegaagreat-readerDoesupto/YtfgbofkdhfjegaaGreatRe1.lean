/- Contracts: a client that reads: the program's. -/
import Derived.Test.YtfgbofkdhfjegaaGreatBt3
import Derived.Test.YtfgbofkdhfjegaaGreatCk4
import Derived.Test.YtfgbofkdhfjegaaGreatPf1
import Derived.Test.YtfgbofkdhfjegaaGreatMk8
import Derived.Test.YtfgbofkdhfjegaaGreatSpTop
import Derived.Test.YtfgbofkdhfjegaaGreatOpC
import Derived.Test.YtfgbofkdhfjegaaGreatSpChk
set_option linter.all false
set_option maxRecDepth 100000
namespace Go.Proofs.YtfgbofkdhfjegaaGreat
open Go.AW
abbrev rdB (r:zkJ) (tp lp rv:AV):zh := .box [.d (.int .i64 r.f),.d (.int .i64 r.me),.d (.str r.topic),.d (.int .i64 r.next),tp,lp,.d (.int .i64 r.broker),.d (.int .i64 r.wait),rv]
section
variable {σ:List zh} {id a b a2 b2:Nat} {r:zkJ} {rv:AV} {K:KT} (hσ : σ[id]? = some (rdB r (.box a b) (.box a2 b2) rv))
include hσ
theorem zmq (hK:K (.d (.bool false)) σ):zp Tryz.prog zbf [.box id 0] σ K:=by
 refine zfc zoH fun hl => ?_
 simp only [ziH,iN,bT,bF,eN]
 refine gq2 hσ ?_
 refine zI hl ?_
 exact hK
theorem zyZ (hK:K (.d (.int .i64 r.next)) σ):zp Tryz.prog zcR [.box id 0] σ K:=by
 refine zfc zoI fun hl => ?_
 simp only [ziJ,iN,bT,bF,eN]
 refine gq1 ?_
 refine zmq hσ ?_
 refine gq2 hσ ?_
 refine zI hl ?_
 exact hK
theorem c_rdBroker (hK:K (.d (.int .i64 r.broker)) σ):zp Tryz.prog zeI [.box id 0] σ K:=by
 refine zfc zna fun hl => ?_
 simp only [zhe,iN,bT,bF,eN]
 refine gq1 ?_
 refine zmq hσ ?_
 refine gq2 hσ ?_
 refine zI hl ?_
 exact hK
theorem zza (hK:K (.d (.slice (zqw (zvD r)))) σ):zp Tryz.prog zcs [.box id 0] σ K:=by
 refine zfc zpO fun hl => ?_
 simp only [zjH,iN,bT,bF,eN,zl1,zl6]
 refine gq1 ?_
 refine zmq hσ ?_
 cases h:(r.next==9007199254740992)
 ·rw [zvD,if_neg (by simpa using h)] at hK
  refine gq2 (zg hσ h) ?_
  refine zI hl ?_
  exact hK
 ·rw [zvD,if_pos (by simpa using h)] at hK
  refine gq2 (zg hσ h) ?_
  refine zI hl ?_
  exact hK
end
theorem gq50 {A P Q:Prop} (a:A) (h:Q) (e:A->Hd Q->P:=by intro a h;(repeat' first|simp -dsimp only [↓zeU, ↓zaA, ↓zbp, ↓zeV, ↓zeO, ↓zeM, ↓zeP, ↓zeN, ↓zbu, ↓zbq, ↓zbv, ↓zbr, ↓zeQ, ↓zbo, ↓zbw, ↓zbs, ↓zbx, ↓zbt, ↓zeL, ↓zeT, ↓zbn, ↓zby, ↓zeG, ↓zeF, ↓zeK,iN,bT,bF,eN, ↓zco, ↓unC, ↓zX, ↓zM, ↓zN, ↓zQ, ↓zZ, ↓zai, ↓zcv, ↓zaf, ↓zaS, ↓zV, ↓zl, ↓zm, ↓zbg, ↓ze, ↓zae, ↓zC, ↓zaM, ↓zaT, ↓zd, ↓zA, ↓zr, ↓zD, ↓zao, ↓zcY, ↓zdn, ↓zap, ↓zaw, ↓zaN, ↓zaZ, ↓zbk, ↓zw, ↓zaj, ↓zO, ↓zE, ↓zY,zdr,zbm,zbl,unA,zdo,bnd,zdL,zab,zS,zdI,dm,dm1,zG,zak,zdZ,zdY,zH,Q0,Q1,Q2,Q3,Q4,Q5,zW,zx,zy,zT,zL,Q6,Q7,Q8,Q9,Q10,Q11,Q12,Q13,Q14,Nat.reduceAdd,Q15,Int.reduceToNat,Q16,Q17,Q18,Q19,Q20,reduceIte,Q21,Q22,zF,rep,zaa,zeC,toD,zag,Q23,Q24,Q25,Q26,Q27,Q28,Nat.reduceLeDiff,Q29,Nat.reduceSub,Q30,Q31,Q32,sc,Q33,Q34,Q35,Q36,Q37,Q26,Q38,Q39,zis,zio,zil,zit,zcN,ziq,zim,zir,zin,zcM,zcO,ziu,ziv,Bool.not_true,Bool.not_false,List.length_map,List.set_set,a]|with_reducible refine zix ?_|fail);exact h.go):P:=e a ⟨h⟩
theorem c_rdTick {σ:List zh} {id a b a2 b2 n:Nat} {r:zkJ} {rv:AV} {K:KT} (hσ : σ[id]? = some (rdB r (.box a b) (.box a2 b2) rv)) (hI:zwg n r)
  (hK:∀ τ,K (.d (.slice (zqw (zrG r)))) (σ.set id (rdB (zrF r) (.box a b) (.box a2 b2) rv) ++ τ)):zp Tryz.prog zdJ [.box id 0] σ K:=by
 refine zcU ziB.is rfl fun hl _=>ziB.goes ?_
 have hw:=hI.wait
 have hb:=hI.broker
 have hf:=hI.f
 have w1:IntKind.i64.wrap (r.wait+1)=r.wait+1:=zU (by omega) (by omega)
 have w2:IntKind.i64.wrap (r.broker+1)=r.broker+1:=zU (by omega) (by omega)
 have g0:∀ Y,(σ.set id Y)[id]? = some Y:=fun Y=>List.getElem?_set_self (zB hσ)
 have ht:zcA 3 r.f=3*r.f+1:=by rw [zcA,if_neg (by omega)]
 have nz:(zcA 3 r.f==0)=false:=by rw [ht];simp;omega
 simp only [ziI,iN,bT,bF,eN]
 refine gq1 ?_
 refine zmq hσ ?_
 cases h:decide (r.wait+1<4)
 ·have h':¬ (r.wait+1<4):=by simpa using h
  simp only [zrG,zrF,if_neg h'] at hK
  refine gq50 (zg hσ (zg g0 (zg w1 (zg h w2)))) ?_
  refine zvr ?_
  refine gq50 (zg g0 (zg w2 nz)) ?_
  refine zza (r:={ r with wait := 0,broker:=(r.broker+1).tmod (zcA 3 r.f) }) (a:=a) (b:=b) (a2:=a2) (b2:=b2) (rv:=rv) (g0 _) ?_
  refine gq1 ?_
  have:=hK []
  rw [List.append_nil] at this
  exact zeR this
 ·have h':r.wait+1<4:=by simpa using h
  simp only [zrG,zrF,if_pos h'] at hK
  refine gq50 (zg hσ (zg g0 (zg w1 h))) ?_
  have:=hK []
  rw [List.append_nil] at this
  exact zeR this
abbrev zqg (l:List zbi):List AV:=(zaH l).flatten.map .d
abbrev rsv (t g:Nat) (l:List zbi):AV := .rsl t g 3 0 l.length
theorem gq51 {A P Q:Prop} (a:A) (h:Q) (e:A->Hd Q->P:=by intro a h;(repeat' first|simp -dsimp only [↓zeU, ↓zaA, ↓zbp, ↓zeV, ↓zeO, ↓zeM, ↓zeP, ↓zeN, ↓zbu, ↓zbq, ↓zbv, ↓zbr, ↓zeQ, ↓zbo, ↓zbw, ↓zbs, ↓zbx, ↓zbt, ↓zeL, ↓zeT, ↓zbn, ↓zby, ↓zeG, ↓zeF, ↓zeK,iN,bT,bF,eN, ↓zco, ↓unC, ↓zX, ↓zM, ↓zN, ↓zQ, ↓zZ, ↓zai, ↓zcv, ↓zaf, ↓zaS, ↓zV, ↓zl, ↓zm, ↓zbg, ↓ze, ↓zae, ↓zC, ↓zaM, ↓zaT, ↓zd, ↓zA, ↓zr, ↓zD, ↓zao, ↓zcY, ↓zdn, ↓zap, ↓zaw, ↓zaN, ↓zaZ, ↓zbk, ↓zw, ↓zaj, ↓zO, ↓zE, ↓zY,zdr,zbm,zbl,unA,zdo,bnd,zdL,zab,zS,zdI,dm,dm1,zG,zak,zdZ,zdY,zH,Q0,Q1,Q2,Q3,Q4,Q5,zW,zx,zy,zT,zL,Q6,Q7,Q8,Q9,Q10,Q11,Q12,Q13,Q14,Nat.reduceAdd,Q15,Int.reduceToNat,Q16,Q17,Q18,Q19,Q20,reduceIte,Q21,Q22,zF,rep,zaa,zeC,toD,zag,Q23,Q24,Q25,Q26,Q27,Q28,Nat.reduceLeDiff,Q29,Nat.reduceSub,Q30,Q31,Q32,sc,Q33,Q34,Q35,Q36,Q37,Q26,Q38,Q39,zis,zio,zil,zit,zcN,ziq,zim,zir,zin,zcM,zcO,ziu,ziv,Bool.not_true,Bool.not_false,List.length_map,Bool.and_false,Bool.and_self,Bool.false_and,Bool.not_false,Bool.not_true,Bool.true_and,Int.toNat_natCast,Int.toNat_zero,List.drop_zero,List.length_map,List.length_nil,List.nil_append,List.take_length,Nat.sub_zero,Nat.zero_add,Option.isSome_none,Option.isSome_some,Option.map_none,Option.map_some,zer,zav,beq_self_eq_true,bft,bne_self_eq_false,btf,zqI,zdI,a]|with_reducible refine zix ?_|fail);exact h.go):P:=e a ⟨h⟩
theorem zyY {σ:List zh} {id tid m t lid m2 t2 u g n:Nat} {r:zkJ} {L:List (List UInt8)} {G:List zR} {x:zjF} {K:KT} (hσ : σ[id]? = some (rdB r (.box tid 0) (.box lid 0) (rsv u g r.L))) (hu : σ[u]? = some (.row g 3 (zqg r.L)))
  (hT:zdH σ tid m t L) (hG:zeY σ lid m2 t2 G) (hL:zne L) (hg:G.length<=1073741824) (hI:zwg n r) (hn:n<=1048576) (hx:zdD x)
  (hbad:zdu L G r x≠0->∀ τ,K (.tup [.d (.slice []),.d (.int .i64 (zdu L G r x))]) (σ ++ τ))
  (hok:zdu L G r x=0->∀ g' τ,K (.tup [.d (.slice (zqw (zvD (zde r x)))),.d (.int .i64 0)]) ((σ.set u (.row g' 3 (zqg (zde r x).L))).set id (rdB (zde r x) (.box tid 0) (.box lid 0) (rsv u g' (zde r x).L)) ++ τ)) :
  zp Tryz.prog zcQ [.box id 0,zwl x] σ K:=by
 refine zcU zhU.is rfl fun hl _=>zhU.goes ?_
 have hnx:=hI.next
 have hln:=hI.len
 have g0:∀ τ,(σ ++ τ)[id]? = some _:=fun τ=>zf hσ
 have bad:∀ z,zdu L G r x=z->z≠0->∀ τ,ztL K (some [.exact [],.d (.int .i64 z)]) (σ ++ τ):=fun z h h0 τ=>zeR (by subst h;exact hbad h0 τ)
 simp only [zia,iN,bT,bF,eN,zl5]
 refine gq1 ?_
 refine zmq (zf hσ) ?_
 cases h1:(x.kind != 12)
 rotate_left
 ·refine gq2 (zg h1 g0) ?_
  exact bad 250 (by rw [zdu,if_pos (.inl (by simpa using h1))]) (by omega) _
 have hk:x.kind=12:=by simpa using h1
 refine gq2 (zg h1 g0) ?_
 refine c_mCheck12 hx hk ?_
 cases h2:(zhA x != 0)
 rotate_left
 ·refine gq2 (zg h2 g0) ?_
  exact bad 250 (by rw [zdu,if_pos (.inr (.inl (by simpa using h2)))]) (by omega) _
 refine gq2 (zg h2 g0) ?_
 have hce:zcu [true,false] [.d (.str x.proof.topic),.d (.int .i64 x.proof.offset)] [.d (.str r.topic),.d (.int .i64 r.next)]=some ((x.proof.topic==r.topic)&&(x.proof.offset==r.next)):=by simp [zcu]
 cases h3:((x.proof.topic==r.topic)&&(x.proof.offset==r.next))
 ·rw [h3] at hce
  refine gq2 (zg hce g0) ?_
  refine bad 250 ?_ (by omega) _
  rw [zdu,if_pos]
  simp only [Bool.and_eq_false_iff,beq_eq_false_iff_ne] at h3
  rcases h3 with h3|h3
  ·exact .inr (.inr (.inl h3))
  ·exact .inr (.inr (.inr (.inl h3)))
 rw [h3] at hce
 simp only [Bool.and_eq_true,beq_iff_eq] at h3
 obtain ⟨h3,h3'⟩:=h3
 cases h4:(x.proof.offset==9007199254740992)
 rotate_left
 ·refine gq2 (zg hce (zg h4 g0)) ?_
  refine bad 250 ?_ (by omega) _
  rw [zdu,if_pos (.inr (.inr (.inr (.inr (by rw [← h3'];simpa using h4)))))]
 have h4':r.next≠9007199254740992:=by rw [← h3'];simpa using h4
 have ht:zdu L G r x=zoF L G r.f x.proof:=by
  rw [zdu,if_neg]
  rintro (h|h|h|h|h)
  ·exact h hk
  ·exact h (by simpa using h2)
  ·exact h h3
  ·exact h h3'
  ·exact h4' h
 refine gq2 (zg hce (zg h4 g0)) ?_
 refine c_pfVerify (p:=x.proof) (f:=r.f) (hT.app _) (hG.app _) hL hg hx.proof ?_
 cases h5:(zoF L G r.f x.proof != 0)
 rotate_left
 ·refine gq2 h5 ?_
  exact bad _ ht (by simpa using h5) _
 have h5':zdu L G r x=0:=by rw [ht];simpa using h5
 have hok:=hok h5'
 clear bad hbad
 have hui:u≠id:=fun e=>by rw [e,hσ] at hu;cases hu
 have hpc:(zqg r.L).length=r.L.length*3:=by
  simp only [zqg,List.length_map]
  induction r.L with
  | nil=>rfl
  | cons p l ih=>simp only [zaH,List.map_cons,List.flatten_cons,List.length_append,List.length_cons] at ih ⊢;simp only [zdN,List.length_cons,List.length_nil];omega
 have g1:∀ τ,(σ ++ τ)[u]? = some _:=fun τ=>zf hu
 have s1:∀ τ Y,(σ ++ τ).set u Y = σ.set u Y ++ τ:=fun τ Y=>List.set_append_left _ _ (zB hu)
 have f1':∀ Y,(σ.set u Y)[id]? = some _:=fun Y=>(List.getElem?_set_ne hui).trans hσ
 have f1:∀ Y τ,(σ.set u Y ++ τ)[id]? = some _:=fun Y τ=>zf (f1' Y)
 have s2:∀ Y τ Z,(σ.set u Y ++ τ).set id Z=(σ.set u Y).set id Z ++ τ:=fun Y τ Z=>List.set_append_left _ _ (zB (f1' Y))
 have f2:∀ Y Z τ,((σ.set u Y).set id Z ++ τ)[id]? = some Z:=fun Y Z τ=>zf (List.getElem?_set_self (zB (f1' Y)))
 have s3:∀ Y Z τ Z',((σ.set u Y).set id Z ++ τ).set id Z'=(σ.set u Y).set id Z' ++ τ:=fun Y Z τ Z'=>by
  rw [List.set_append_left _ _ (by simpa using zB hσ),List.set_set]
 have w1:IntKind.i64.wrap (r.next+1)=r.next+1:=zU (by omega) (by omega)
 refine gq2 (zg h5 g0) ?_
 refine c_clRec (by have:=hx.proof.rec_;omega) ?_
 refine gq51 (zg g0 (zg g1 (zg s1 (zg f1 (zg s2 (zg f2 (zg s3 (zg w1 hpc)))))))) ?_
 have e1:zqg (zde r x).L=zqg r.L++[.d (.str x.proof.topic),.d (.int .i64 x.proof.offset),.d (.slice (bcs x.proof.rec_))]:=by
  simp only [zqg,zde,zaH,List.map_append,List.flatten_append,List.map_cons,List.map_nil,List.flatten_cons,List.flatten_nil,List.append_nil,zdN,h3,h3']
 have e2:(zde r x).L.length=r.L.length+1:=by simp [zde]
 have hok:=hok (g+1)
 rw [e1] at hok
 simp only [rsv,e2] at hok
 refine zza (r:=zde r x) (rv := .rsl u (g+1) 3 0 (r.L.length+1)) (f2 _ _ _) ?_
 refine gq1 ?_
 refine zeR ?_
 exact hok _
theorem plCs_len (l:List zbi):(zqg l).length=l.length*3:=by
 simp only [zqg,List.length_map]
 induction l with
 | nil=>rfl
 | cons p l ih=>simp only [zaH,List.map_cons,List.flatten_cons,List.length_append,List.length_cons] at ih ⊢;simp only [zdN,List.length_cons,List.length_nil];omega
theorem gq52 {A P Q:Prop} (a:A) (h:Q) (e:A->Hd Q->P:=by intro a h;(repeat' first|simp -dsimp only [↓zeU, ↓zaA, ↓zbp, ↓zeV, ↓zeO, ↓zeM, ↓zeP, ↓zeN, ↓zbu, ↓zbq, ↓zbv, ↓zbr, ↓zeQ, ↓zbo, ↓zbw, ↓zbs, ↓zbx, ↓zbt, ↓zeL, ↓zeT, ↓zbn, ↓zby, ↓zeG, ↓zeF, ↓zeK,iN,bT,bF,eN, ↓zco, ↓unC, ↓zX, ↓zM, ↓zN, ↓zQ, ↓zZ, ↓zai, ↓zcv, ↓zaf, ↓zaS, ↓zV, ↓zl, ↓zm, ↓zbg, ↓ze, ↓zae, ↓zC, ↓zaM, ↓zaT, ↓zd, ↓zA, ↓zr, ↓zD, ↓zao, ↓zcY, ↓zdn, ↓zap, ↓zaw, ↓zaN, ↓zaZ, ↓zbk, ↓zw, ↓zaj, ↓zO, ↓zE, ↓zY,zdr,zbm,zbl,unA,zdo,bnd,zdL,zab,zS,zdI,dm,dm1,zG,zak,zdZ,zdY,zH,Q0,Q1,Q2,Q3,Q4,Q5,zW,zx,zy,zT,zL,Q6,Q7,Q8,Q9,Q10,Q11,Q12,Q13,Q14,Nat.reduceAdd,Q15,Int.reduceToNat,Q16,Q17,Q18,Q19,Q20,reduceIte,Q21,Q22,zF,rep,zaa,zeC,toD,zag,Q23,Q24,Q25,Q26,Q27,Q28,Nat.reduceLeDiff,Q29,Nat.reduceSub,Q30,Q31,Q32,sc,Q33,Q34,Q35,Q36,Q37,Q26,Q38,Q39,zis,zio,zil,zit,zcN,ziq,zim,zir,zin,zcM,zcO,ziu,ziv,Bool.not_true,Bool.not_false,List.length_map,List.drop_zero,Nat.sub_zero,Nat.zero_mul,zer,zqI,a]|with_reducible refine zix ?_|fail);exact h.go):P:=e a ⟨h⟩
theorem c_clPlacedR {σ:List zh} {u g:Nat} {l:List zbi} (hu : σ[u]? = some (.row g 3 (zqg l))) (hn:l.length<=1048576) {K:KT} (hK:∀ g',K (rsv σ.length g' l) (σ++[.row g' 3 (zqg l)])) :
  zp Tryz.prog zbS [rsv u g l] σ K:=by
 refine zp.weaken ?_
 refine zcl zcT.is rfl (fun s=>List.range' σ.length (s.length-σ.length)) fun hl _=>zcT.goes ?_
 have fin:∀ g,zoR σ.length (fun s=>List.range' σ.length (s.length-σ.length)) (fun r s => ∃ r' s',zqe [r] s [r'] s' ∧ K r' s') (some [rsv σ.length g l]) (σ++[.row g 3 (zqg l)]):=fun g=>
  zdw (σ' := σ) (os := [.row g 3 (zqg l)]) rfl (by simp) hl (by intro x hx;simp only [List.mem_cons,List.not_mem_nil,or_false] at hx;subst hx;exact zuB _ _) (.rsl _ _ _ _ _ (by simp)) ⟨_,_,.refl _ _,hK g⟩
 have hpc:=plCs_len l
 simp only [zcV,iN,bT,bF,eN]
 have g1:∀ τ,(σ ++ τ)[u]? = some _:=fun τ=>zf hu
 have tk:List.take (l.length*3) (zqg l)=zqg l:=List.take_of_length_le (by omega)
 simp only [zao,rsv,zdo]
 refine ⟨fun h0=>⟨?_,?_⟩,fun h0 => ?_⟩
 ·have hz:l = []:=List.eq_nil_of_length_eq_zero (by omega)
  subst hz
  refine gq1 ?_
  refine zmk (r := .exact []) (by simp) hl rfl ?_
  exact ⟨.rsl σ.length 0 3 0 0, σ++[.row 0 3 []],.row 0 3 rfl (by omega) (.refl _ _),hK 0⟩
 all_goals
  refine gq52 (zg g1 tk) ?_
  exact fin 1
theorem row_sm {α:Type} {l:List α} {i:Nat} {x : α} (h:l[i]? = some x):l.take i++x::l.drop (i+1)=l:=by
 obtain ⟨hi,rfl⟩:=List.getElem?_eq_some_iff.1 h
 simp
theorem zsK (l:List zbi):∀ e∈zaH l,e.length=3:=zjk (f:=zdN) (fun _=>rfl) l
theorem c_rdReadM {σ:List zh} {id a b a2 b2 u g:Nat} {r:zkJ} {K:KT} (hσ : σ[id]? = some (rdB r (.box a b) (.box a2 b2) (rsv u g r.L))) (hu : σ[u]? = some (.row g 3 (zqg r.L))) (hn:r.L.length<=1048576) (hr:∀ p∈r.L,p.rec_.length<=16777216)
  (hK:∀ g',K (rsv σ.length g' r.L) (σ++[.row g' 3 (zqg r.L)])):zp Tryz.prog zch [.box id 0] σ K:=by
 refine zcl zhV.is rfl (fun s=>List.range' σ.length 1) fun hl _=>zhV.goes ?_
 have h3:=zsK r.L
 have hlen:(zaH r.L).length=r.L.length:=List.length_map ..
 simp only [zib,iN,bT,bF,eN]
 refine gq1 ?_
 refine zmq hσ ?_
 refine gq2 hσ ?_
 refine c_clPlacedR hu hn fun g' => ?_
 refine gq5 ?_
 refine zo r.L.length (fun k vs s=>vs = [.d (.int .i64 k)]/\s = σ++[.row g' 3 (zqg r.L)]) ⟨rfl,rfl⟩ ?_
 rintro k vs s hk ⟨rfl,rfl⟩
 by_cases hlt:k<r.L.length
 ·have hd:decide ((k:Int)<(r.L.length:Int))=true:=by simp;omega
  have hx:r.L[k]? = some r.L[k]:=by simp [hlt]
  have hgx:=zK (f:=zdN) hx
  have hsm:=hr _ (List.getElem_mem hlt)
  obtain ⟨p,hp⟩:∃ p,r.L[k]=p:=⟨_,rfl⟩
  rw [hp] at hx hgx hsm
  have g5:=zow h3 hgx (i := 2) (by omega)
  have s5:=row_sm g5
  have hfl:(zaK (zaH r.L)).length=r.L.length*3:=by rw [zfR h3,hlen]
  have e5:zaK (zaH r.L)=zqg r.L:=rfl
  simp only [zdN,List.getElem?_cons_succ,List.getElem?_cons_zero,Option.map_some] at g5 s5
  rw [e5] at g5 s5 hfl
  obtain ⟨R,hR⟩:∃ R,zqg r.L=R:=⟨_,rfl⟩
  rw [hR] at g5 s5 hfl ⊢
  have z5:k*3+2+1<=R.length:=by omega
  have zk:0<=(k:Int):=by omega
  refine gq2 (zg hd (zg g5 (zg s5 (zg zk z5)))) ?_
  refine c_clRec (by omega) ?_
  refine gq2 (zg hd (zg g5 (zg s5 (zg zk (zg z5 (wki k (by omega))))))) ?_
  exact zas.next hlt ⟨rfl,rfl⟩
 ·have hd:decide ((k:Int)<(r.L.length:Int))=false:=by simp;omega
  refine gq2 hd ?_
  exact zdw (σ' := σ) (os := [.row g' 3 (zqg r.L)]) rfl rfl hl (by intro x hx;simp only [List.mem_cons,List.not_mem_nil,or_false] at hx;subst hx;exact zuB _ _) (.rsl _ _ _ _ _ (by simp)) (hK g')
theorem frz_rw {σ:List zh} {n₀ m t g sz:Nat} {es:List (List D)} (ht : σ[t]? = some (.row g sz (zaK es))) (hn:n₀<=t) (h:∀ e∈es,e.length=sz):frz σ n₀ (m+2) (.rsl t g sz 0 es.length)=some (.slice es):=by
 have hf:∀ ds:List D,allO ((ds.map AV.d).map (frz σ n₀ (m+1)))=some ds:=by
  intro ds
  induction ds with
  | nil=>rfl
  | cons d ds ih=>
   have:frz σ n₀ (m+1) (.d d)=some d:=rfl
   simp only [List.map_cons,this,allO,ih]
 have hc:∀ (es:List (List D)),(∀ e∈es,e.length=sz)->zag sz es.length es.flatten=es:=by
  intro es
  induction es with
  | nil=>intro _;rfl
  | cons e es ih=>
   intro h
   have he:=h e List.mem_cons_self
   simp only [List.length_cons,zag,List.flatten_cons]
   rw [List.take_left' he,List.drop_left' he,ih fun x hx=>h x (List.mem_cons_of_mem _ hx)]
 have hl:(zaK es).length=es.length*sz:=zfR h
 simp only [frz,ht,hn,true_and,and_self,if_true,Nat.zero_mul,List.drop_zero,Nat.sub_zero]
 rw [List.take_of_length_le (by omega),hf]
 simp only
 rw [hc es h]
theorem frz_dd (σ:List zh) (n m:Nat) (x:D):frz σ n m (.d x)=some x:=by cases m<;>rfl
theorem c_rdRead {σ:List zh} {id a b a2 b2 u g:Nat} {r:zkJ} {K:KT} (hσ : σ[id]? = some (rdB r (.box a b) (.box a2 b2) (rsv u g r.L))) (hu : σ[u]? = some (.row g 3 (zqg r.L))) (hn:r.L.length<=1048576) (hr:∀ p∈r.L,p.rec_.length<=16777216)
  (hK:K (.d (.slice (zaH r.L))) σ):zp Tryz.prog zch [.box id 0] σ K:=by
 have hlen:(zaH r.L).length=r.L.length:=List.length_map ..
 refine zp.frz 2 (c_rdReadM hσ hu hn hr fun g'=>⟨_,?_,by simp,hK⟩)
 have f1:frz (σ++[.row g' 3 (zqg r.L)]) σ.length 2 (rsv σ.length g' r.L)=some (.slice (zaH r.L)):=by
  rw [rsv, ← hlen]
  exact frz_rw (m := 0) (by rw [zy];rfl) (Nat.le_refl _) (zsK _)
 simp only [frzT,frz1,f1]
theorem c_rdClone {σ:List zh} {id a b a2 b2 u g:Nat} {r:zkJ} {K:KT} (hσ : σ[id]? = some (rdB r (.box a b) (.box a2 b2) (rsv u g r.L))) (hu : σ[u]? = some (.row g 3 (zqg r.L))) (hn:r.L.length<=1048576) (hr:∀ p∈r.L,p.rec_.length<=16777216)
  (hK:∀ g',K (.box σ.length 0) (σ++[rdB r (.box a b) (.box a2 b2) (rsv (σ.length+1) g' r.L),.row g' 3 (zqg r.L)])):zp Tryz.prog zfg [.box id 0] σ K:=by
 refine zcU zhb.is rfl fun hl _=>zhb.goes ?_
 have g0:∀ τ,(σ ++ τ)[id]? = some _:=fun τ=>zf hσ
 simp only [zhc,iN,bT,bF,eN]
 refine gq1 ?_
 refine zmq hσ ?_
 refine gq2 hσ ?_
 refine c_rdReadM (g0 _) (zf hu) hn hr fun g' => ?_
 refine gq1 ?_
 refine zeR ?_
 exact hK g'
theorem zvo {σ:List zh} {a b:List zR} (ha:a.length<=1073741824) {K:KT} (hK:K (.d (.bool (decide (a=b)))) σ) :
  zp Tryz.prog zgH [.d (.slice (zaI a)),.d (.slice (zaI b))] σ K:=by
 refine zeW zuT fun hl => ?_
 have fin:∀ z:Bool,decide (a=b)=z->K (.d (.bool z)) σ:=fun z hz=>by rw [← hz];exact hK
 clear hK
 simp only [znV,iN,bT,bF,eN]
 (refine gq30 ?_;try with_reducible exact True.intro)
 by_cases hl2:a.length=b.length
 ·have hne:((a.length:Int) != (b.length:Int))=false:=by simp [hl2]
  (refine gq29 hne ?_;try with_reducible exact True.intro)
  refine zo a.length (fun k vs s=>vs = [.d (.int .i64 k)]/\s = σ/\a.take k=b.take k) ⟨rfl,rfl,by simp⟩ ?_
  rintro k vs s hk ⟨rfl,rfl,htk⟩
  (refine gq30 ?_;try with_reducible exact True.intro)
  refine zaE (fun h => ?_) (fun h => ?_)
  ·have hka:k<a.length:=by simp at h;omega
   have hx:a[k]? = some a[k]:=by simp [hka]
   have hy:b[k]? = some (b[k]'(by omega)):=List.getElem?_eq_getElem _
   have hgx:=zK (f:=zgz) hx
   have hgy:=zK (f:=zgz) hy
   obtain ⟨x,hxe⟩:∃ x,a[k]=x:=⟨_,rfl⟩
   obtain ⟨y,hye⟩:∃ y,b[k]'(by omega)=y:=⟨_,rfl⟩
   rw [hxe] at hgx hx
   rw [hye] at hgy hy
   have hxy:x=y↔x.key=y.key/\x.dig=y.dig:=by cases x;cases y;simp
   cases h2:(x.key==y.key&&x.dig==y.dig)
   ·(refine gq31 (zjz hgx (zjz hgy h2)) ?_;try with_reducible exact True.intro)
    repeat' ((with_reducible refine And.intro ?_ ?_);focus (first|omega|rfl|decide))
    try (refine gq31 (zjz hgx (zjz hgy h2)) ?_;try with_reducible exact True.intro)
    refine zI hl ?_
    refine fin _ (decide_eq_false (by rintro rfl;rw [hx] at hy;have:=hxy.1 (Option.some.inj hy);simp [this.1,this.2] at h2))
   ·(refine gq31 (zjz hgx (zjz hgy h2)) ?_;try with_reducible exact True.intro)
    repeat' ((with_reducible refine And.intro ?_ ?_);focus (first|omega|rfl|decide))
    try (refine gq31 (zjz hgx (zjz hgy h2)) ?_;try with_reducible exact True.intro)
    simp only [Bool.and_eq_true,beq_iff_eq] at h2
    refine zas.next hka ⟨?_,rfl,zbc hx hy htk (hxy.2 h2)⟩
    rw [show (k:Int)+1=((k+1:Nat):Int) by omega,zU (by omega) (by omega)]
  ·refine zI hl ?_
   refine fin _ (decide_eq_true (zbN hl2 (k:=k) (by simp at h;omega) htk))
 ·have hne:((a.length:Int) != (b.length:Int))=true:=by simp;omega
  (refine gq29 hne ?_;try with_reducible exact True.intro)
  refine zI hl ?_
  exact fin _ (decide_eq_false (by rintro rfl;exact hl2 rfl))
theorem zsx {σ:List zh} {a b:zeX} (ha:a.signs.length<=1073741824) {K:KT} (hK:K (.d (.bool (decide (a=b)))) σ) :
  zp Tryz.prog zfO [ziw a,ziw b] σ K:=by
 refine zeW zws fun hl => ?_
 have fin:∀ z:Bool,decide (a=b)=z->K (.d (.bool z)) σ:=fun z hz=>by rw [← hz];exact hK
 clear hK
 have hab:a=b↔a.seq=b.seq/\a.dig=b.dig/\a.signs=b.signs:=by cases a;cases b;simp
 simp only [zph,iN,bT,bF,eN]
 cases h1:(a.seq==b.seq)
 ·(refine gq29 h1 ?_;try with_reducible exact True.intro)
  refine zI hl ?_
  refine fin _ (decide_eq_false fun h => ?_)
  simp [(hab.1 h).1] at h1
 cases h2:(a.dig==b.dig)
 ·(refine gq29 (zjz h1 h2) ?_;try with_reducible exact True.intro)
  refine zI hl ?_
  refine fin _ (decide_eq_false fun h => ?_)
  simp [(hab.1 h).2.1] at h2
 (refine gq29 (zjz h1 h2) ?_;try with_reducible exact True.intro)
 refine zvo ha ?_
 (refine gq27 ?_;try with_reducible exact True.intro)
 refine zI hl ?_
 refine fin _ ?_
 simp only [beq_iff_eq] at h1 h2
 by_cases h3:a.signs=b.signs
 ·rw [decide_eq_true h3,decide_eq_true (hab.2 ⟨h1,h2,h3⟩)]
 ·rw [decide_eq_false h3,decide_eq_false (fun h=>h3 (hab.1 h).2.2)]
theorem zyU {σ:List zh} {a b:List zmz} (ha:a.length<=1073741824) (hA:∀ x∈a,zkO x.batch) (hB:∀ x∈b,zkO x.batch) {K:KT} (hK:K (.d (.bool (decide (a=b)))) σ) :
  zp Tryz.prog zhs [.d (.slice (zkh a)),.d (.slice (zkh b))] σ K:=by
 refine zeW zsn fun hl => ?_
 have fin:∀ z:Bool,decide (a=b)=z->K (.d (.bool z)) σ:=fun z hz=>by rw [← hz];exact hK
 clear hK
 simp only [zlv,iN,bT,bF,eN]
 (refine gq30 ?_;try with_reducible exact True.intro)
 by_cases hl2:a.length=b.length
 ·have hne:((a.length:Int) != (b.length:Int))=false:=by simp [hl2]
  (refine gq29 hne ?_;try with_reducible exact True.intro)
  refine zo a.length (fun k vs s=>vs = [.d (.int .i64 k)]/\s = σ/\a.take k=b.take k) ⟨rfl,rfl,by simp⟩ ?_
  rintro k vs s hk ⟨rfl,rfl,htk⟩
  (refine gq30 ?_;try with_reducible exact True.intro)
  refine zaE (fun h => ?_) (fun h => ?_)
  ·have hka:k<a.length:=by simp at h;omega
   have hx:a[k]? = some a[k]:=by simp [hka]
   have hy:b[k]? = some (b[k]'(by omega)):=List.getElem?_eq_getElem _
   have ax:=hA _ (List.getElem_mem hka)
   have bx:=hB _ (List.getElem_mem (show k<b.length by omega))
   have hgx:=zK (f:=zgT) hx
   have hgy:=zK (f:=zgT) hy
   obtain ⟨x,hxe⟩:∃ x,a[k]=x:=⟨_,rfl⟩
   obtain ⟨y,hye⟩:∃ y,b[k]'(by omega)=y:=⟨_,rfl⟩
   rw [hxe] at hgx hx ax
   rw [hye] at hgy hy bx
   have hxy:x=y↔x.view=y.view/\x.seq=y.seq/\(x.key=y.key/\x.dig=y.dig)/\x.batch=y.batch:=by cases x;cases y;simp;grind
   have neq:¬ (x.view=y.view/\x.seq=y.seq/\(x.key=y.key/\x.dig=y.dig)/\x.batch=y.batch)->K (.d (.bool false)) s:=fun h=>fin _ (decide_eq_false (by rintro rfl;rw [hx] at hy;exact h (hxy.1 (Option.some.inj hy))))
   cases h1:(x.view != y.view)
   rotate_left
   ·(refine gq31 (zjz hgx (zjz hgy h1)) ?_;try with_reducible exact True.intro)
    repeat' ((with_reducible refine And.intro ?_ ?_);focus (first|omega|rfl|decide))
    try (refine gq31 (zjz hgx (zjz hgy h1)) ?_;try with_reducible exact True.intro)
    refine zI hl ?_
    refine neq (fun h => ?_)
    simp [h.1] at h1
   cases h2:(x.seq != y.seq)
   rotate_left
   ·(refine gq31 (zjz hgx (zjz hgy (zjz h1 h2))) ?_;try with_reducible exact True.intro)
    repeat' ((with_reducible refine And.intro ?_ ?_);focus (first|omega|rfl|decide))
    try (refine gq31 (zjz hgx (zjz hgy (zjz h1 h2))) ?_;try with_reducible exact True.intro)
    refine zI hl ?_
    refine neq (fun h => ?_)
    simp [h.2.1] at h2
   cases h3:(x.key==y.key&&x.dig==y.dig)
   ·(refine gq31 (zjz hgx (zjz hgy (zjz h1 (zjz h2 h3)))) ?_;try with_reducible exact True.intro)
    repeat' ((with_reducible refine And.intro ?_ ?_);focus (first|omega|rfl|decide))
    try (refine gq31 (zjz hgx (zjz hgy (zjz h1 (zjz h2 h3)))) ?_;try with_reducible exact True.intro)
    refine zI hl ?_
    refine neq (fun h => ?_)
    simp [h.2.2.1.1,h.2.2.1.2] at h3
   (refine gq31 (zjz hgx (zjz hgy (zjz h1 (zjz h2 h3)))) ?_;try with_reducible exact True.intro)
   repeat' ((with_reducible refine And.intro ?_ ?_);focus (first|omega|rfl|decide))
   try (refine gq31 (zjz hgx (zjz hgy (zjz h1 (zjz h2 h3)))) ?_;try with_reducible exact True.intro)
   refine zyW ax bx ?_
   by_cases h4:x.batch=y.batch
   ·rw [decide_eq_true h4]
    (refine gq30 ?_;try with_reducible exact True.intro)
    simp only [Bool.and_eq_true,beq_iff_eq,bne_eq_false_iff_eq] at h1 h2 h3
    refine zas.next hka ⟨?_,rfl,zbc hx hy htk (hxy.2 ⟨h1,h2,h3,h4⟩)⟩
    rw [show (k:Int)+1=((k+1:Nat):Int) by omega,zU (by omega) (by omega)]
   ·rw [decide_eq_false h4]
    (refine gq30 ?_;try with_reducible exact True.intro)
    refine zI hl ?_
    exact neq (fun h=>h4 h.2.2.2)
  ·refine zI hl ?_
   refine fin _ (decide_eq_true (zbN hl2 (k:=k) (by simp at h;omega) htk))
 ·have hne:((a.length:Int) != (b.length:Int))=true:=by simp;omega
  (refine gq29 hne ?_;try with_reducible exact True.intro)
  refine zI hl ?_
  exact fin _ (decide_eq_false (by rintro rfl;exact hl2 rfl))
end Go.Proofs.YtfgbofkdhfjegaaGreat
