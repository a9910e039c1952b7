/- Contracts: the document's tables and ledgers. -/
import Derived.Test.YtpgahkdjkanblaaGreatId2
set_option linter.all false
set_option maxRecDepth 100000
namespace Go.Proofs.YtpgahkdjkanblaaGreat
open Go.AW
def rtO (l:List (List UInt8)):zh := .box [.d (.slice (zjf l))]
def rlO (g:List zK):zh := .box [.d (.slice (zvN g))]
theorem zmQ (n:Nat) (l:List (List UInt8)):zxv n (rtO l):=by
 intro c hc
 simp only [List.mem_cons,List.not_mem_nil,or_false] at hc
 subst hc;exact .d _
theorem ztm (n:Nat) (g:List zK):zxv n (rlO g):=by
 intro c hc
 simp only [List.mem_cons,List.not_mem_nil,or_false] at hc
 subst hc;exact .d _
theorem wki (k:Nat) (h:k<=1073741824):IntKind.i64.wrap ((k:Int)+1)=((k+1:Nat):Int):=by rw [zas (by omega) (by omega)];rfl
theorem gq73 {P Q:Prop} (h:Q) (e:Hd Q->P:=by intro h;(repeat' first | simp -dsimp only [↓zeN, ↓zav, ↓zbq, ↓zeO, ↓zeH, ↓zeF, ↓zeI, ↓zeG, ↓zbv, ↓zbr, ↓zbw, ↓zbs, ↓zeJ, ↓zbp, ↓zbx, ↓zbt, ↓zby, ↓zbu, ↓zeE, ↓zeM, ↓zbo, ↓zbz, ↓zeC, ↓zeB, ↓zeD,iN,bT,bF,eN, ↓zcB, ↓unC, ↓zV, ↓zM, ↓zN, ↓zQ, ↓zY, ↓zal, ↓zdb, ↓zak, ↓zaH, ↓zT, ↓zf, ↓zj, ↓zbZ, ↓zb, ↓zag, ↓zE, ↓zaI, ↓zaO, ↓zc, ↓zy, ↓zl, ↓zG, ↓zaa, ↓zdm, ↓zdw, ↓zaj, ↓zar, ↓zaK, ↓zaS, ↓zaY, ↓zq, ↓zai, ↓zO, ↓zu, ↓zX,zdx,zbg,zbb,unA,zdd,bnd,zdY,zaf,zP,zdR,dm,dm1,zA,zae,zeh,zeg,zI,Q0,Q1,Q2,Q3,Q4,Q5,zZ,zC,zt,zL,zF,Q6,Q7,Q8,Q9,Q10,Q11,Q12,Q13,Q14,Nat.reduceAdd,Q15,Int.reduceToNat,Q16,Q17,Q18,Q19,Q20,reduceIte,Q21,Q22,zH,rep,zac,zel,toD,zah,Q23,Q24,Q25,Q26,Q27,Q28,Nat.reduceLeDiff,Q29,Nat.reduceSub,Q30,Q31,Q32,sc,Q33,Q34,Q35,Q36,Q37,Q26,Q38,Q39,zoy,zov,zos,zoz,zfG,zow,zot,zox,zou,zfF,zfH,zoB,zoC,Bool.not_true,Bool.not_false,List.length_map,zgM,zfb,zdX,zga,zaK,zzQ,zaS] | with_reducible refine zoE ?_ | fail);exact h.go):P:=e ⟨h⟩
theorem c_rtSame {σ:List zh} {a b:List UInt8} {K:KT} (hK:K (.d (.bool (a == b))) σ):zo Tryz.prog zty [.d (.slice (bcs a)),.d (.slice (bcs b))] σ K:=by
 refine zd zyE.is rfl fun hl _=>zyE.goes ?_
 simp only [zzq,iN,bT,bF,eN]
 refine gq73 ?_
 refine zw hl ?_
 exact hK
theorem zvl {σ:List zh} {id:Nat} {l:List (List UInt8)} {b:List UInt8} (hT : σ[id]? = some (rtO l)) (hl0:l.length<=1048576) {K:KT}
  (hK:K (.tup [.d (.int .i64 (zvG (zfI l b))),.d (.bool (zfI l b).isSome)]) σ):zo Tryz.prog zcL [.box id 0,.d (.slice (bcs b))] σ K:=by
 refine zd zgE.is rfl fun hl _=>zgE.goes ?_
 have hlen:(zjf l).length=l.length:=List.length_map ..
 have hb : σ[id]? = some (.box [.d (.slice (zjf l))]):=hT
 simp only [zjq,iN,bT,bF,eN]
 refine zm l.length (fun k vs s=>vs = [.d (.int .i64 k)]/\s = σ/\zfI (l.take k) b=none) ⟨rfl,rfl,rfl⟩ ?_
 rintro k vs s hk ⟨rfl,rfl,hno⟩
 by_cases hlt:k<l.length
 ·have hd:decide ((k:Int)<(l.length:Int))=true:=by simp;omega
  have hx:l[k]? = some l[k]:=by simp [hlt]
  have hgx:=zR (f:=fun b => [D.slice (bcs b)]) hx
  obtain ⟨x,hxe⟩:∃ x,l[k]=x:=⟨_,rfl⟩
  rw [hxe] at hx hgx
  refine zjv (zct hlen (zct hd (zct hb hgx))) ?_
  refine c_rtSame ?_
  cases he:(x == b)
  ·refine zjv (wki k (by omega)) ?_
   exact zaz.next hlt ⟨rfl,rfl,look_next hx hno he⟩
  ·rw [look_hit hx hno he] at hK
   refine zjv (wki k (by omega)) ?_
   refine zw hl ?_
   exact hK
 ·have hd:decide ((k:Int)<(l.length:Int))=false:=by simp;omega
  rw [List.take_of_length_le (by omega)] at hno
  rw [hno] at hK
  refine zjv (zct hlen (zct hd hb)) ?_
  refine zw hl ?_
  exact hK
theorem gq74 {P Q:Prop} (h:Q) (e:Hd Q->P:=by intro h;(repeat' first | simp -dsimp only [↓zeN, ↓zav, ↓zbq, ↓zeO, ↓zeH, ↓zeF, ↓zeI, ↓zeG, ↓zbv, ↓zbr, ↓zbw, ↓zbs, ↓zeJ, ↓zbp, ↓zbx, ↓zbt, ↓zby, ↓zbu, ↓zeE, ↓zeM, ↓zbo, ↓zbz, ↓zeC, ↓zeB, ↓zeD,iN,bT,bF,eN, ↓zcB, ↓unC, ↓zV, ↓zM, ↓zN, ↓zQ, ↓zY, ↓zal, ↓zdb, ↓zak, ↓zaH, ↓zT, ↓zf, ↓zj, ↓zbZ, ↓zb, ↓zag, ↓zE, ↓zaI, ↓zaO, ↓zc, ↓zy, ↓zl, ↓zG, ↓zaa, ↓zdm, ↓zdw, ↓zaj, ↓zar, ↓zaK, ↓zaS, ↓zaY, ↓zq, ↓zai, ↓zO, ↓zu, ↓zX,zdx,zbg,zbb,unA,zdd,bnd,zdY,zaf,zP,zdR,dm,dm1,zA,zae,zeh,zeg,zI,Q0,Q1,Q2,Q3,Q4,Q5,zZ,zC,zt,zL,zF,Q6,Q7,Q8,Q9,Q10,Q11,Q12,Q13,Q14,Nat.reduceAdd,Q15,Int.reduceToNat,Q16,Q17,Q18,Q19,Q20,reduceIte,Q21,Q22,zH,rep,zac,zel,toD,zah,Q23,Q24,Q25,Q26,Q27,Q28,Nat.reduceLeDiff,Q29,Nat.reduceSub,Q30,Q31,Q32,sc,Q33,Q34,Q35,Q36,Q37,Q26,Q38,Q39,zoy,zov,zos,zoz,zfG,zow,zot,zox,zou,zfF,zfH,zoB,zoC,Bool.not_true,Bool.not_false,List.length_map,Option.isSome_some,zvG] | with_reducible refine zoE ?_ | fail);exact h.go):P:=e ⟨h⟩
theorem gq75 {A P Q:Prop} (a:A) (h:Q) (e:A->Hd Q->P:=by intro a h;(repeat' first | simp -dsimp only [↓zeN, ↓zav, ↓zbq, ↓zeO, ↓zeH, ↓zeF, ↓zeI, ↓zeG, ↓zbv, ↓zbr, ↓zbw, ↓zbs, ↓zeJ, ↓zbp, ↓zbx, ↓zbt, ↓zby, ↓zbu, ↓zeE, ↓zeM, ↓zbo, ↓zbz, ↓zeC, ↓zeB, ↓zeD,iN,bT,bF,eN, ↓zcB, ↓unC, ↓zV, ↓zM, ↓zN, ↓zQ, ↓zY, ↓zal, ↓zdb, ↓zak, ↓zaH, ↓zT, ↓zf, ↓zj, ↓zbZ, ↓zb, ↓zag, ↓zE, ↓zaI, ↓zaO, ↓zc, ↓zy, ↓zl, ↓zG, ↓zaa, ↓zdm, ↓zdw, ↓zaj, ↓zar, ↓zaK, ↓zaS, ↓zaY, ↓zq, ↓zai, ↓zO, ↓zu, ↓zX,zdx,zbg,zbb,unA,zdd,bnd,zdY,zaf,zP,zdR,dm,dm1,zA,zae,zeh,zeg,zI,Q0,Q1,Q2,Q3,Q4,Q5,zZ,zC,zt,zL,zF,Q6,Q7,Q8,Q9,Q10,Q11,Q12,Q13,Q14,Nat.reduceAdd,Q15,Int.reduceToNat,Q16,Q17,Q18,Q19,Q20,reduceIte,Q21,Q22,zH,rep,zac,zel,toD,zah,Q23,Q24,Q25,Q26,Q27,Q28,Nat.reduceLeDiff,Q29,Nat.reduceSub,Q30,Q31,Q32,sc,Q33,Q34,Q35,Q36,Q37,Q26,Q38,Q39,zoy,zov,zos,zoz,zfG,zow,zot,zox,zou,zfF,zfH,zoB,zoC,Bool.not_true,Bool.not_false,List.length_map,Option.isSome_none,zvG,a] | with_reducible refine zoE ?_ | fail);exact h.go):P:=e a ⟨h⟩
theorem c_rtSum {σ:List zh} {id:Nat} {l:List (List UInt8)} {b:List UInt8} (hT : σ[id]? = some (rtO l)) (hbl:b.length<=1073741824) (hl0:l.length<=1048576) {K:KT}
  (hK:K (.d (.int .i64 (zoJ l b))) (σ.set id (rtO (zgz l b)))):zo Tryz.prog zhk [.box id 0,.d (.slice (bcs b))] σ K:=by
 refine zpE zpu.is rfl fun hl _=>zpu.goes ?_
 have hlen:(zjf l).length=l.length:=List.length_map ..
 have hb:∀ τ,(σ ++ τ)[id]? = some (.box [.d (.slice (zjf l))]):=fun τ=>zx hT
 have hb0 : σ[id]? = some (.box [.d (.slice (zjf l))]):=hT
 have hlt:=zcT hT
 simp only [zpT,iN,bT,bF,eN]
 refine zxB ?_
 refine zvl hT hl0 ?_
 cases ho:zfI l b with
 | some k =>
  simp only [zoJ,zgz,ho] at hK
  rw [zcz hT] at hK
  refine gq74 ?_
  refine znj ?_
  refine zw hl ?_
  exact hK
 | none =>
  simp only [zoJ,zgz,ho] at hK
  by_cases hfull:l.length ≥ 1048576
  ·rw [if_pos hfull,if_pos hfull,zcz hT] at hK
   have hd:decide ((l.length:Int) ≥ 1048576)=true:=by simp;omega
   refine gq75 (zct hb0 (zct hlen hd)) ?_
   refine znj ?_
   refine zw hl ?_
   exact hK
  ·rw [if_neg hfull,if_neg hfull] at hK
   have hd:decide ((l.length:Int) ≥ 1048576)=false:=by simp;omega
   have s1:∀ X τ,(σ ++ τ).set id X = σ.set id X ++ τ:=fun X τ=>zbS hT
   have g1:∀ X τ,(σ.set id X ++ τ)[id]? = some X:=fun X τ=>zx (zcx hT)
   have bl:(bcs b).length=b.length:=zek b
   have b1:∀ e ∈ bcs b,e.length=1:=zgs
   have t1:∀ e ∈ zjf l,e.length=1:=zhb (f:=fun b => [D.slice (bcs b)]) (fun _=>rfl) l
   refine gq75 (zct hb (zct hb0 (zct hlen (zct hd (zct s1 (zct g1 bl)))))) ?_
   have e:zjf l++[[D.slice (bcs b)]]=zjf (l++[b]):=by simp [zjf]
   rw [e]
   exact zmo hT (by simp [zfO,dmT,dm,dm1,zcO]) hl hK
theorem gq76 {A P Q:Prop} (a:A) (h:Q) (e:A->Hd Q->P:=by intro a h;(repeat' first | simp -dsimp only [↓zeN, ↓zav, ↓zbq, ↓zeO, ↓zeH, ↓zeF, ↓zeI, ↓zeG, ↓zbv, ↓zbr, ↓zbw, ↓zbs, ↓zeJ, ↓zbp, ↓zbx, ↓zbt, ↓zby, ↓zbu, ↓zeE, ↓zeM, ↓zbo, ↓zbz, ↓zeC, ↓zeB, ↓zeD,iN,bT,bF,eN, ↓zcB, ↓unC, ↓zV, ↓zM, ↓zN, ↓zQ, ↓zY, ↓zal, ↓zdb, ↓zak, ↓zaH, ↓zT, ↓zf, ↓zj, ↓zbZ, ↓zb, ↓zag, ↓zE, ↓zaI, ↓zaO, ↓zc, ↓zy, ↓zl, ↓zG, ↓zaa, ↓zdm, ↓zdw, ↓zaj, ↓zar, ↓zaK, ↓zaS, ↓zaY, ↓zq, ↓zai, ↓zO, ↓zu, ↓zX,zdx,zbg,zbb,unA,zdd,bnd,zdY,zaf,zP,zdR,dm,dm1,zA,zae,zeh,zeg,zI,Q0,Q1,Q2,Q3,Q4,Q5,zZ,zC,zt,zL,zF,Q6,Q7,Q8,Q9,Q10,Q11,Q12,Q13,Q14,Nat.reduceAdd,Q15,Int.reduceToNat,Q16,Q17,Q18,Q19,Q20,reduceIte,Q21,Q22,zH,rep,zac,zel,toD,zah,Q23,Q24,Q25,Q26,Q27,Q28,Nat.reduceLeDiff,Q29,Nat.reduceSub,Q30,Q31,Q32,sc,Q33,Q34,Q35,Q36,Q37,Q26,Q38,Q39,zoy,zov,zos,zoz,zfG,zow,zot,zox,zou,zfF,zfH,zoB,zoC,Bool.not_true,Bool.not_false,List.length_map,Bool.and_false,Bool.and_self,Bool.false_and,Bool.true_and,Option.isSome_none,Option.isSome_some,Option.map_none,Option.map_some,beq_self_eq_true,bne_self_eq_false,zaE,zed,zdX,opA,zew,zgf,zbc,a] | with_reducible refine zoE ?_ | fail);exact h.go):P:=e a ⟨h⟩
theorem ztS {σ:List zh} {id:Nat} {g:List zK} {s:zK} (hG : σ[id]? = some (rlO g)) (hg0:g.length<=1073741824) {K:KT} (hK:K (.d (.bool (decide (s ∈ g)))) σ) :
  zo Tryz.prog zdU [.box id 0,.agg [.d (.int .i64 s.key),.d (.int .i64 s.dig)]] σ K:=by
 refine zd zky.is rfl fun hl _=>zky.goes ?_
 have hlen:(zvN g).length=g.length:=List.length_map ..
 have hb:∀ τ,(σ ++ τ)[id]? = some (.box [.d (.slice (zvN g))]):=fun τ=>zx hG
 simp only [zkO,iN,bT,bF,eN]
 refine zxB ?_
 refine zm g.length (fun k vs q=>vs = [.d (.int .i64 k)]/\q = σ++[.box [.d (.int .i64 s.key),.d (.int .i64 s.dig)]]/\s ∉ g.take k) ⟨rfl,rfl,by simp⟩ ?_
 rintro k vs q hk ⟨rfl,rfl,hno⟩
 by_cases hlt:k<g.length
 ·have hd:decide ((k:Int)<(g.length:Int))=true:=by simp;omega
  have hx:g[k]? = some g[k]:=by simp [hlt]
  have hgx:=zR (f:=zgf) hx
  obtain ⟨x,hxe⟩:∃ x,g[k]=x:=⟨_,rfl⟩
  rw [hxe] at hx hgx
  by_cases he:x=s
  ·subst he
   rw [decide_eq_true (List.mem_of_getElem? hx)] at hK
   refine gq76 (zct hlen (zct hd (zct hb hgx))) ?_
   refine zw hl ?_
   exact hK
  ·have hn2:s ∉ g.take (k+1):=by
    rw [List.take_add_one,hx];simp
    exact ⟨hno,fun h=>he h.symm⟩
   have e:x=s ↔ x.key=s.key/\x.dig=s.dig:=by cases s;cases x;simp
   cases h1:(x.key == s.key)
   ·refine gq76 (zct hlen (zct hd (zct hb (zct hgx (zct h1 (wki k (by omega))))))) ?_
    exact zaz.next hlt ⟨rfl,rfl,hn2⟩
   ·have h2:(x.dig == s.dig)=false:=by
     have:¬ x.dig=s.dig:=fun h=>he (e.2 ⟨by simpa using h1,h⟩)
     simpa using this
    refine gq76 (zct hlen (zct hd (zct hb (zct hgx (zct h1 (zct h2 (wki k (by omega)))))))) ?_
    exact zaz.next hlt ⟨rfl,rfl,hn2⟩
 ·have hd:decide ((k:Int)<(g.length:Int))=false:=by simp;omega
  rw [List.take_of_length_le (by omega)] at hno
  rw [decide_eq_false hno] at hK
  refine zjv (zct hlen (zct hd hb)) ?_
  refine zw hl ?_
  exact hK
theorem c_rgSign {σ:List zh} {id:Nat} {g:List zK} {k d:Int} (hG : σ[id]? = some (rlO g)) (hgl:g.length<=1073741824) {K:KT}
  (hK:K (.tup [zoq (signR k d),.d (.int .i64 (zjh k d))]) (σ.set id (rlO (zjg g k d)))):zo Tryz.prog zgi [.box id 0,.d (.int .i64 k),.d (.int .i64 d)] σ K:=by
 refine zpE zmt.is rfl fun hl _=>zmt.goes ?_
 have hb:∀ τ,(σ ++ τ)[id]? = some (.box [.d (.slice (zvN g))]):=fun τ=>zx hG
 have hlen:(zvN g).length=g.length:=List.length_map ..
 have bad:zjh k d ≠ 0->K (.tup [.agg [.d (.int .i64 0),.d (.int .i64 0)],.d (.int .i64 (zjh k d))]) σ:=fun h=>by
  rw [signR,zjg,if_neg h,if_neg h,zcz hG] at hK
  exact hK
 simp only [zmJ,iN,bT,bF,eN]
 refine zxB ?_
 cases h1:decide (k<0)
 ·cases h2:decide (k ≥ 21)
  ·have hk:¬ (k<0 ∨ k ≥ 21):=by simp at h1 h2;omega
   cases h3:decide (d<1)
   ·have he:zjh k d=0:=by rw [zjh,if_neg hk,if_neg (by simpa using h3)]
    rw [he,signR,zjg,if_pos he,if_pos he] at hK
    refine zjv (zct h1 (zct h2 h3)) ?_
    refine ztS (s:=⟨k,d⟩) (zx hG) hgl ?_
    by_cases hs:(⟨k,d⟩:zK) ∈ g
    ·rw [decide_eq_true hs]
     rw [signL,if_pos hs,zcz hG] at hK
     refine zjv hb ?_
     refine znj ?_
     refine zw hl ?_
     exact hK
    ·rw [decide_eq_false hs]
     rw [signL,if_neg hs] at hK
     have s1:∀ X τ,(σ ++ τ).set id X = σ.set id X ++ τ:=fun X τ=>zbS hG
     have L1:∀ X:zh, σ.length=(σ.set id X).length:=fun X=>by simp
     have e1:∀ X τ n,(σ.set id X ++ τ)[σ.length+n]? = τ[n]?:=fun X τ n=>by rw [L1 X];exact zC ..
     have e3:∀ X τ W,(σ.set id X ++ τ).set σ.length W = σ.set id X ++ τ.set 0 W:=fun X τ W=>by rw [L1 X];exact zF ..
     have e4:∀ X τ,(σ.set id X ++ τ)[σ.length]? = τ[0]?:=fun X τ=>by rw [L1 X];exact zt ..
     refine zjv (zct hb (zct hlen (zct s1 (zct e1 (zct e3 e4))))) ?_
     have e:zvN g++[[D.int .i64 k,D.int .i64 d]]=zvN (g++[⟨k,d⟩]):=by simp [zvN,zap,zgf]
     refine ⟨zhb (f:=zgf) (fun _=>rfl) g,by simp,by omega,by simp,by omega,?_⟩
     rw [e]
     exact zmo hG (by simp [zfO,dmT,dm,dm1,zcO,zaU,zdv]) hl hK
   ·have he:zjh k d=1:=by rw [zjh,if_neg hk,if_pos (by simpa using h3)]
    have:=bad (by rw [he];decide)
    rw [he] at this
    refine zjv (zct h1 (zct h2 h3)) ?_
    refine znj ?_
    refine zw hl ?_
    exact this
  ·have he:zjh k d=20:=by rw [zjh,if_pos (by simp at h2;omega)]
   have:=bad (by rw [he];decide)
   rw [he] at this
   refine zjv (zct h1 h2) ?_
   refine znj ?_
   refine zw hl ?_
   exact this
 ·have he:zjh k d=20:=by rw [zjh,if_pos (by simp at h1;omega)]
  have:=bad (by rw [he];decide)
  rw [he] at this
  refine zjv h1 ?_
  refine znj ?_
  refine zw hl ?_
  exact this
end Go.Proofs.YtpgahkdjkanblaaGreat
