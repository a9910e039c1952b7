/- Contracts: what a new view goes on with. -/
import Derived.Test.YtpgahkdjkanblaaGreatSpMap
import Derived.Test.YtpgahkdjkanblaaGreatNr3
set_option linter.all false
set_option maxRecDepth 100000
namespace Go.Proofs.YtpgahkdjkanblaaGreat
open Go.AW
def zha (p:zcb):AV := .agg (latC (some p))
theorem latStep_map (q:zcb) (o:Int->Option zcb):(fun s=>(zfZ s (o s) q).map zha)=fun s=>if s=q.seq then (zfZ q.seq (o q.seq) q).map zha else (o s).map zha:=by
 funext s
 by_cases h:s=q.seq
 ·subst h;rw [if_pos rfl]
 ·rw [if_neg h];unfold zfZ;rw [if_neg (fun e=>h e.symm)]
theorem gq23 {A P Q:Prop} (a:A) (h:Q) (e:A->P=Q:=by intro a;simp -dsimp only [↓zeN, ↓zav, ↓zbq, ↓zeO, ↓zeH, ↓zeF, ↓zeI, ↓zeG, ↓zbv, ↓zbr, ↓zbw, ↓zbs, ↓zeJ, ↓zbp, ↓zbx, ↓zbt, ↓zby, ↓zbu, ↓zeE, ↓zeM, ↓zbo, ↓zbz, ↓zeC, ↓zeB, ↓zeD,iN,bT,bF,eN, ↓zcB, ↓unC, ↓zV, ↓zM, ↓zN, ↓zQ, ↓zY, ↓zal, ↓zdb, ↓zak, ↓zaH, ↓zT, ↓zf, ↓zj, ↓zbZ, ↓zb, ↓zag, ↓zE, ↓zaI, ↓zaO, ↓zc, ↓zy, ↓zl, ↓zG, ↓zaa, ↓zdm, ↓zdw, ↓zaj, ↓zar, ↓zaK, ↓zaS, ↓zaY, ↓zq, ↓zai, ↓zO, ↓zu, ↓zX,zdx,zbg,zbb,unA,zdd,bnd,zdY,zaf,zP,zdR,dm,dm1,zA,zae,zeh,zeg,zI,Q0,Q1,Q2,Q3,Q4,Q5,zZ,zC,zt,zL,zF,Q6,Q7,Q8,Q9,Q10,Q11,Q12,Q13,Q14,Nat.reduceAdd,Q15,Int.reduceToNat,Q16,Q17,Q18,Q19,Q20,reduceIte,Q21,Q22,zH,rep,zac,zel,toD,zah,Q23,Q24,Q25,Q26,Q27,Q28,Nat.reduceLeDiff,Q29,Nat.reduceSub,Q30,Q31,Q32,sc,Q33,Q34,Q35,Int.toNat_zero,List.length_map,zaE,a];rfl):P:=(e a).mpr h
theorem gq24 {A P Q:Prop} (a:A) (h:Q) (e:A->P=Q:=by intro a;simp -dsimp only [↓zeN, ↓zav, ↓zbq, ↓zeO, ↓zeH, ↓zeF, ↓zeI, ↓zeG, ↓zbv, ↓zbr, ↓zbw, ↓zbs, ↓zeJ, ↓zbp, ↓zbx, ↓zbt, ↓zby, ↓zbu, ↓zeE, ↓zeM, ↓zbo, ↓zbz, ↓zeC, ↓zeB, ↓zeD,iN,bT,bF,eN, ↓zcB, ↓unC, ↓zV, ↓zM, ↓zN, ↓zQ, ↓zY, ↓zal, ↓zdb, ↓zak, ↓zaH, ↓zT, ↓zf, ↓zj, ↓zbZ, ↓zb, ↓zag, ↓zE, ↓zaI, ↓zaO, ↓zc, ↓zy, ↓zl, ↓zG, ↓zaa, ↓zdm, ↓zdw, ↓zaj, ↓zar, ↓zaK, ↓zaS, ↓zaY, ↓zq, ↓zai, ↓zO, ↓zu, ↓zX,zdx,zbg,zbb,unA,zdd,bnd,zdY,zaf,zP,zdR,dm,dm1,zA,zae,zeh,zeg,zI,Q0,Q1,Q2,Q3,Q4,Q5,zZ,zC,zt,zL,zF,Q6,Q7,Q8,Q9,Q10,Q11,Q12,Q13,Q14,Nat.reduceAdd,Q15,Int.reduceToNat,Q16,Q17,Q18,Q19,Q20,reduceIte,Q21,Q22,zH,rep,zac,zel,toD,zah,Q23,Q24,Q25,Q26,Q27,Q28,Nat.reduceLeDiff,Q29,Nat.reduceSub,Q30,Q31,Q32,sc,Q33,Q34,Q35,Bool.not_false,Bool.not_true,zfb,ents_add,zga,zzQ,zew,a];rfl):P:=(e a).mpr h
theorem gq25 {A P Q:Prop} (a:A) (h:Q) (e:A->P=Q:=by intro a;simp -dsimp only [↓zeN, ↓zav, ↓zbq, ↓zeO, ↓zeH, ↓zeF, ↓zeI, ↓zeG, ↓zbv, ↓zbr, ↓zbw, ↓zbs, ↓zeJ, ↓zbp, ↓zbx, ↓zbt, ↓zby, ↓zbu, ↓zeE, ↓zeM, ↓zbo, ↓zbz, ↓zeC, ↓zeB, ↓zeD,iN,bT,bF,eN, ↓zcB, ↓unC, ↓zV, ↓zM, ↓zN, ↓zQ, ↓zY, ↓zal, ↓zdb, ↓zak, ↓zaH, ↓zT, ↓zf, ↓zj, ↓zbZ, ↓zb, ↓zag, ↓zE, ↓zaI, ↓zaO, ↓zc, ↓zy, ↓zl, ↓zG, ↓zaa, ↓zdm, ↓zdw, ↓zaj, ↓zar, ↓zaK, ↓zaS, ↓zaY, ↓zq, ↓zai, ↓zO, ↓zu, ↓zX,zdx,zbg,zbb,unA,zdd,bnd,zdY,zaf,zP,zdR,dm,dm1,zA,zae,zeh,zeg,zI,Q0,Q1,Q2,Q3,Q4,Q5,zZ,zC,zt,zL,zF,Q6,Q7,Q8,Q9,Q10,Q11,Q12,Q13,Q14,Nat.reduceAdd,Q15,Int.reduceToNat,Q16,Q17,Q18,Q19,Q20,reduceIte,Q21,Q22,zH,rep,zac,zel,toD,zah,Q23,Q24,Q25,Q26,Q27,Q28,Nat.reduceLeDiff,Q29,Nat.reduceSub,Q30,Q31,Q32,sc,Q33,Q34,Q35,Bool.not_false,Bool.not_true,zfb,zga,latC,zzQ,zew,zha,a];rfl):P:=(e a).mpr h
theorem gq26 {A P Q:Prop} (a:A) (h:Q) (e:A->P=Q:=by intro a;simp -dsimp only [↓zeN, ↓zav, ↓zbq, ↓zeO, ↓zeH, ↓zeF, ↓zeI, ↓zeG, ↓zbv, ↓zbr, ↓zbw, ↓zbs, ↓zeJ, ↓zbp, ↓zbx, ↓zbt, ↓zby, ↓zbu, ↓zeE, ↓zeM, ↓zbo, ↓zbz, ↓zeC, ↓zeB, ↓zeD,iN,bT,bF,eN, ↓zcB, ↓unC, ↓zV, ↓zM, ↓zN, ↓zQ, ↓zY, ↓zal, ↓zdb, ↓zak, ↓zaH, ↓zT, ↓zf, ↓zj, ↓zbZ, ↓zb, ↓zag, ↓zE, ↓zaI, ↓zaO, ↓zc, ↓zy, ↓zl, ↓zG, ↓zaa, ↓zdm, ↓zdw, ↓zaj, ↓zar, ↓zaK, ↓zaS, ↓zaY, ↓zq, ↓zai, ↓zO, ↓zu, ↓zX,zdx,zbg,zbb,unA,zdd,bnd,zdY,zaf,zP,zdR,dm,dm1,zA,zae,zeh,zeg,zI,Q0,Q1,Q2,Q3,Q4,Q5,zZ,zC,zt,zL,zF,Q6,Q7,Q8,Q9,Q10,Q11,Q12,Q13,Q14,Nat.reduceAdd,Q15,Int.reduceToNat,Q16,Q17,Q18,Q19,Q20,reduceIte,Q21,Q22,zH,rep,zac,zel,toD,zah,Q23,Q24,Q25,Q26,Q27,Q28,Nat.reduceLeDiff,Q29,Nat.reduceSub,Q30,Q31,Q32,sc,Q33,Q34,Q35,Bool.not_false,Bool.not_true,zfb,ents_set,zga,latC,zzQ,zew,zha,a];rfl):P:=(e a).mpr h
theorem gq27 {A P Q:Prop} (a:A) (h:Q) (e:A->P=Q:=by intro a;simp -dsimp only [↓zeN, ↓zav, ↓zbq, ↓zeO, ↓zeH, ↓zeF, ↓zeI, ↓zeG, ↓zbv, ↓zbr, ↓zbw, ↓zbs, ↓zeJ, ↓zbp, ↓zbx, ↓zbt, ↓zby, ↓zbu, ↓zeE, ↓zeM, ↓zbo, ↓zbz, ↓zeC, ↓zeB, ↓zeD,iN,bT,bF,eN, ↓zcB, ↓unC, ↓zV, ↓zM, ↓zN, ↓zQ, ↓zY, ↓zal, ↓zdb, ↓zak, ↓zaH, ↓zT, ↓zf, ↓zj, ↓zbZ, ↓zb, ↓zag, ↓zE, ↓zaI, ↓zaO, ↓zc, ↓zy, ↓zl, ↓zG, ↓zaa, ↓zdm, ↓zdw, ↓zaj, ↓zar, ↓zaK, ↓zaS, ↓zaY, ↓zq, ↓zai, ↓zO, ↓zu, ↓zX,zdx,zbg,zbb,unA,zdd,bnd,zdY,zaf,zP,zdR,dm,dm1,zA,zae,zeh,zeg,zI,Q0,Q1,Q2,Q3,Q4,Q5,zZ,zC,zt,zL,zF,Q6,Q7,Q8,Q9,Q10,Q11,Q12,Q13,Q14,Nat.reduceAdd,Q15,Int.reduceToNat,Q16,Q17,Q18,Q19,Q20,reduceIte,Q21,Q22,zH,rep,zac,zel,toD,zah,Q23,Q24,Q25,Q26,Q27,Q28,Nat.reduceLeDiff,Q29,Nat.reduceSub,Q30,Q31,Q32,sc,Q33,Q34,Q35,zfb,zga,latC,zzQ,zha,a];rfl):P:=(e a).mpr h
theorem zyT {σ:List zh} {f view:Int} {cs:List zU} (hs:zxR cs) (hR:∀ c ∈ cs,zio c) {K:KT}
  (hK:K (.tup [zgc (zkh f view cs).1,.d (.slice (zaw (zkh f view cs).2.1)),.d (.int .i64 (zkh f view cs).2.2)]) σ) :
  zo Tryz.prog zfx [.d (.int .i64 f),.d (.int .i64 view),.d (.slice (zan cs))] σ K:=by
 refine zd znL.is rfl fun hl _=>znL.goes ?_
 obtain ⟨hs1,hs2⟩:=hs
 simp only [zoh,iN,bT,bF,eN]
 (refine gq2 ?_;try with_reducible exact True.intro)
 refine c_may hs1 ?_
 have fin:∀ r:zft × List zbL × Int,zkh f view cs=r->K (.tup [zgc r.1,.d (.slice (zaw r.2.1)),.d (.int .i64 r.2.2)]) σ:=fun r h=>h ▸ hK
 clear hK
 cases h0:(zlY f view cs != 0)
 rotate_left
 ·(refine gq1 h0 ?_;try with_reducible exact True.intro)
  refine zw hl ?_
  exact fin (zoQ,[],zlY f view cs) (by rw [zkh,if_pos (by simpa using h0)])
 have h0':zlY f view cs=0:=by simpa using h0
 obtain ⟨hne,hcf⟩:=mayF_ne h0'
 have hlen:0<cs.length:=List.length_pos_iff.2 hne
 have hx0:cs[0]? = some cs[0]:=by simp [hlen]
 have hgx0:=zR (f:=zaE) hx0
 have hb0:zjW cs 0=cs[0].cert:=by
  cases cs with
  | nil=>exact absurd rfl hne
  | cons c cs=>rfl
 (refine gq23 (zn h0 hgx0) ?_;try with_reducible exact True.intro)
 refine ⟨by omega,?_⟩
 try (refine gq2 ?_;try with_reducible exact True.intro)
 refine zm cs.length (fun k vs s=>vs = [.d (.int .i64 (zco (zbW cs k))),.d (.int .i64 k)]/\∃ l T,zpX l (fun q=>(zrO (zbW cs k) q).map zha)/\s = σ++(.box [.d (.int .i64 0),.d (.int .i64 0),.exact []] :: .box [.d (.int .i64 (zjW cs k).seq),.d (.int .i64 (zjW cs k).dig),.d (.slice (zap (zjW cs k).signs))] :: .map (ents l) :: T)) ⟨rfl,[],[],zpX.nil,by rw [hb0];rfl⟩ ?_
 rintro k vs s hk ⟨rfl,l,T,hmap,rfl⟩
 (refine gq2 ?_;try with_reducible exact True.intro)
 refine zad (fun h => ?_) (fun h => ?_)
 ·have hlt:k<cs.length:=by simp at h;omega
  have hx:cs[k]? = some cs[k]:=by simp [hlt]
  have hgx:=zR (f:=zaE) hx
  obtain ⟨_,ha,_⟩:=hs2 _ (List.getElem_mem hlt)
  obtain ⟨c,hce⟩:∃ c,cs[k]=c:=⟨_,rfl⟩
  rw [hce] at hx hgx ha
  have hps:=zoO hx
  have hbs:=ztW hx
  have hwk:IntKind.i64.wrap ((k:Int)+1)=((k+1:Nat):Int):=by rw [zas (by omega) (by omega)];rfl
  (refine zzU hgx ?_;try with_reducible exact True.intro)
  refine ⟨by omega,?_⟩
  obtain ⟨b,hbe⟩:∃ b,zjW cs (k+1)=b:=⟨_,rfl⟩
  cases h2:decide (c.cert.seq > (zjW cs k).seq)
  all_goals
   first
    | (have hcb:zjW cs k=b:=by rw [← hbe,hbs,znt,if_neg (by simpa using h2)])
    | (have hcb:c.cert=b:=by rw [← hbe,hbs,znt,if_pos (by simpa using h2)])
   (refine zzU (zn hgx h2) ?_;try with_reducible exact True.intro)
   rw [hcb]
   refine zm c.above.length (fun j vs s=>vs = [.d (.int .i64 (zco (zbW cs k++c.above.take j))),.d (.int .i64 j)]/\∃ l T,zpX l (fun q=>(zrO (zbW cs k++c.above.take j) q).map zha)/\s = σ++(.box [.d (.int .i64 0),.d (.int .i64 0),.exact []] :: .box [.d (.int .i64 b.seq),.d (.int .i64 b.dig),.d (.slice (zap b.signs))] :: .map (ents l) :: T)) ⟨by simp,l,_,by simpa using hmap,rfl⟩ ?_
   rintro j vs s hj ⟨rfl,l,T,hmap,rfl⟩
   (refine gq11 ?_;try with_reducible exact True.intro)
   refine zad (fun h => ?_) (fun h => ?_)
   ·have hjt:j<c.above.length:=by simp at h;omega
    have hy:c.above[j]? = some c.above[j]:=by simp [hjt]
    have hgy:=zR (f:=zew) hy
    obtain ⟨p,hpe⟩:∃ p,c.above[j]=p:=⟨_,rfl⟩
    rw [hpe] at hy hgy
    have htk:c.above.take (j+1)=c.above.take j++[p]:=by rw [List.take_add_one,hy];rfl
    have hw:IntKind.i64.wrap ((j:Int)+1)=((j+1:Nat):Int):=by rw [zas (by omega) (by omega)];rfl
    obtain ⟨L,hLe⟩:∃ L,zbW cs k++c.above.take j=L:=⟨_,rfl⟩
    have hL1:zbW cs k++c.above.take (j+1)=L++[p]:=by rw [htk, ← List.append_assoc,hLe]
    rw [hLe] at hmap ⊢
    have hg:(if p.seq > zco L then p.seq else zco L)=zco (L++[p]):=by rw [zvT];rfl
    have hm2:(fun q=>(zrO (L++[p]) q).map zha)=fun s=>if s=p.seq then (zfZ p.seq (zrO L p.seq) p).map zha else (zrO L s).map zha:=by
     rw [← latStep_map];funext q;rw [zvO]
    have next:∀ l T,zpX l (fun q=>(zrO (L++[p]) q).map zha)->zaz c.above.length (fun j vs s=>vs = [.d (.int .i64 (zco (zbW cs k++c.above.take j))),.d (.int .i64 j)]/\∃ l T,zpX l (fun q=>(zrO (zbW cs k++c.above.take j) q).map zha)/\s = σ++(.box [.d (.int .i64 0),.d (.int .i64 0),.exact []] :: .box [.d (.int .i64 b.seq),.d (.int .i64 b.dig),.d (.slice (zap b.signs))] :: .map (ents l) :: T)) j
      [.d (.int .i64 (zco (L++[p]))),.d (.int .i64 (j+1:Nat))] (σ++(.box [.d (.int .i64 0),.d (.int .i64 0),.exact []] :: .box [.d (.int .i64 b.seq),.d (.int .i64 b.dig),.d (.slice (zap b.signs))] :: .map (ents l) :: T)):=fun l T h=>zaz.next hjt ⟨by rw [hL1],l,T,by rw [hL1];exact h,rfl⟩
    cases ho:zrO L p.seq with
    | none =>
     have hf:=hmap.none (s:=p.seq) (by simp only [ho];rfl)
     have hnew:=hmap.add (t:=p.seq) (x:=zha p) (by simp only [ho];rfl)
     (refine gq24 (zn hgy (zn hf (zn hg hw))) ?_;try with_reducible exact True.intro)
     repeat' ((with_reducible refine And.intro ?_ ?_);focus (first | omega | rfl | decide))
     try (refine gq24 (zn hgy (zn hf (zn hg hw))) ?_;try with_reducible exact True.intro)
     refine next _ _ ?_
     rw [hm2,ho]
     simp only [zfZ,if_true,Option.map_some]
     exact hnew
    | some r =>
     obtain ⟨i,hf,hfi⟩:=hmap.some (s:=p.seq) (v:=zha r) (by simp only [ho];rfl)
     cases h3:decide (p.view > r.view)
     ·(refine gq25 (zn hgy (zn hf (zn hg (zn hw h3)))) ?_;try with_reducible exact True.intro)
      repeat' ((with_reducible refine And.intro ?_ ?_);focus (first | omega | rfl | decide))
      try (refine gq25 (zn hgy (zn hf (zn hg (zn hw h3)))) ?_;try with_reducible exact True.intro)
      refine next _ _ ?_
      have:(fun q=>(zrO (L++[p]) q).map zha)=fun q=>(zrO L q).map zha:=by
       funext q
       rw [zvO]
       unfold zfZ
       by_cases e:p.seq=q
       ·subst e
        rw [if_pos rfl,ho]
        simp only
        rw [if_neg (by simpa using h3)]
       ·rw [if_neg e]
      rw [this]
      exact hmap
     ·have hnew:=hmap.put (x:=zha p) hfi
      (refine gq26 (zn hgy (zn hf (zn hg (zn hw h3)))) ?_;try with_reducible exact True.intro)
      repeat' ((with_reducible refine And.intro ?_ ?_);focus (first | omega | rfl | decide))
      try (refine gq26 (zn hgy (zn hf (zn hg (zn hw h3)))) ?_;try with_reducible exact True.intro)
      refine next _ _ ?_
      rw [hm2,ho]
      simp only [zfZ,if_true]
      rw [if_pos (by simpa using h3)]
      exact hnew
   ·have hn:j=c.above.length:=by simp at h;omega
    subst hn
    rw [List.take_length, ← hps] at hmap ⊢
    (refine gq1 hwk ?_;try with_reducible exact True.intro)
    exact zaz.next hlt ⟨rfl,l,T,hmap,by rw [hbe]⟩
 ·have hn:k=cs.length:=by simp at h;omega
  subst hn
  obtain ⟨L,hLe⟩:∃ L,zbW cs cs.length=L:=⟨_,rfl⟩
  obtain ⟨b,hbe⟩:∃ b,zjW cs cs.length=b:=⟨_,rfl⟩
  have hg1:=great_le hR cs.length
  have hg0:=greatF_nn L
  have hbR:=zza hR (Nat.le_refl _) hne
  obtain ⟨c0,hc0,hcb⟩:=zwO (cs:=cs) (Nat.le_refl _) hne
  have hbs:b.signs.length<=1073741824:=by rw [← hbe,hcb];exact (hs2 c0 hc0).1
  have hLs:∀ p ∈ L,ziK p.batch:=fun p hp=>by
   rw [← hLe] at hp
   obtain ⟨c,hc,hp⟩:=zrg hp
   exact (hs2 c hc).2.2 p hp
  have hsel:zkh f view cs=if b.seq<0 ∨ zco L<=b.seq then (b,[], 0) else (b,zin view L b.seq (zsh (zco L) b.seq), 0):=by
   rw [zkh,if_neg (by rw [h0'];simp)];simp only [hLe,hbe]
  rw [hLe] at hg1 hmap ⊢
  rw [hbe] at hbR ⊢
  clear hcb hbe hLe
  cases h6:decide (b.seq<0)
  rotate_left
  ·(refine gq14 h6 ?_;try with_reducible exact True.intro)
   repeat' ((with_reducible refine And.intro ?_ ?_);focus (first | omega | rfl | decide | exact zvw _ | simp))
   try (refine gq14 h6 ?_;try with_reducible exact True.intro)
   refine zw hl ?_
   exact fin (b,[], 0) (by rw [hsel,if_pos (.inl (by simpa using h6))])
  cases h7:decide (zco L<=b.seq)
  rotate_left
  ·(refine gq14 (zn h6 h7) ?_;try with_reducible exact True.intro)
   repeat' ((with_reducible refine And.intro ?_ ?_);focus (first | omega | rfl | decide | exact zvw _ | simp))
   try (refine gq14 (zn h6 h7) ?_;try with_reducible exact True.intro)
   refine zw hl ?_
   exact fin (b,[], 0) (by rw [hsel,if_pos (.inr (by simpa using h7))])
  have h6':0<=b.seq:=by simpa using h6
  have h7':b.seq<zco L:=by simpa using h7
  have hw1:IntKind.i64.wrap (zco L - b.seq)=zco L - b.seq:=zas (by omega) (by omega)
  obtain ⟨N,hN⟩:∃ N,zsh (zco L) b.seq=N:=⟨_,rfl⟩
  have hmin:(if (8:Int)<zco L - b.seq then (8:Int) else zco L - b.seq)=(N:Int):=by
   rw [← hN];unfold zsh;split <;> omega
  have hN8:=zvM (zco L) b.seq
  rw [hN] at hN8
  have hNg:(N:Int)<=zco L - b.seq:=by rw [← hN];unfold zsh;omega
  have hN0:0<N:=by rw [← hN];unfold zsh;omega
  (refine gq14 (zn h6 (zn h7 (zn hw1 hmin))) ?_;try with_reducible exact True.intro)
  repeat' ((with_reducible refine And.intro ?_ ?_);focus (first | omega | rfl | decide | exact zvw _ | simp))
  try (refine gq14 (zn h6 (zn h7 (zn hw1 hmin))) ?_;try with_reducible exact True.intro)
  obtain ⟨T1,hT1⟩:∃ T1,T++[zh.tok 2 b.signs.length]=T1:=⟨_,rfl⟩
  obtain ⟨t0,ht0⟩:∃ t0, σ.length+(T.length+3)=t0:=⟨_,rfl⟩
  rw [hT1,ht0]
  clear hT1 ht0
  refine zm N (fun n vs s=>vs = [if n=0 then .exact [] else .own (σ.length+(T1.length+3)) (zaw (zin view L b.seq n)),.d (.int .i64 n)]/\s = σ++(.box [.d (.int .i64 0),.d (.int .i64 0),.exact []] :: .box [.d (.int .i64 b.seq),.d (.int .i64 b.dig),.own t0 (zap b.signs)] :: .map (ents l) :: (T1++if n=0 then [] else [.tok 5 (zaw (zin view L b.seq n)).length]))) ⟨rfl,by simp⟩ ?_
  rintro n vs s hn ⟨rfl,rfl⟩
  have hel:(zin view L b.seq n).length=n:=by simp [zin]
  by_cases hnN:n=N
  ·have hd:decide ((n:Int)<(N:Int))=false:=by simp;omega
   have hn0:¬ n=0:=by omega
   simp only [if_neg hn0]
   (refine gq1 hd ?_;try with_reducible exact True.intro)
   repeat' ((with_reducible refine And.intro ?_ ?_);focus (first | omega | rfl | decide))
   try (refine gq1 hd ?_;try with_reducible exact True.intro)
   refine zw hl ?_
   exact fin (b,zin view L b.seq n, 0) (by rw [hsel,if_neg (by omega),hN,hnN])
  ·have hd:decide ((n:Int)<(N:Int))=true:=by simp;omega
   have hw2:IntKind.i64.wrap (b.seq+(n:Int))=b.seq+n:=zas (by omega) (by omega)
   have hw3:IntKind.i64.wrap (b.seq+(n:Int)+1)=b.seq+n+1:=zas (by omega) (by omega)
   have hw4:IntKind.i64.wrap ((n:Int)+1)=((n+1:Nat):Int):=by rw [zas (by omega) (by omega)];rfl
   have hsn:zaw (zin view L b.seq n)++[zed (zxD view L b.seq n)]=zaw (zin view L b.seq (n+1)):=by rw [← zys];simp
   have hel1:(zin view L b.seq (n+1)).length=n+1:=by simp [zin]
   cases ho:zrO L (b.seq+n+1) with
   | none =>
    have hf:=hmap.none (s:=b.seq+n+1) (by simp only [ho];rfl)
    have hlat:ztY (zrO L (b.seq+n+1)) = []:=by rw [ho];rfl
    have hbt:ziK []:=⟨by simp,by simp⟩
    have hent:zed (zxD view L b.seq n) = [.int .i64 view,.int .i64 (b.seq+n+1),.slice (zbj []),.int .i64 0,.int .i64 0]:=by simp only [zxD,zed,hlat]
    rw [hent] at hsn
    by_cases hn0:n=0
    ·subst hn0
     simp only [if_true,List.append_nil]
     (refine gq27 (zn hf (zn hd (zn hw2 (zn hw3 hw4)))) ?_;try with_reducible exact True.intro)
     refine ziX (b := []) hbt ?_
     (refine gq27 (zn hf (zn hd (zn hw2 (zn hw3 hw4)))) ?_;try with_reducible exact True.intro)
     repeat' ((with_reducible refine And.intro ?_ ?_);focus (first | omega | rfl | decide | simp))
     try (refine gq27 (zn hf (zn hd (zn hw2 (zn hw3 hw4)))) ?_;try with_reducible exact True.intro)
     refine zaz.next (by omega) ⟨?_,?_⟩
     ·rw [if_neg (by omega), ← hsn];rfl
     ·rw [if_neg (by omega),List.length_map,hel1]
    ·simp only [if_neg hn0]
     (refine gq27 (zn hf (zn hd (zn hw2 (zn hw3 hw4)))) ?_;try with_reducible exact True.intro)
     refine ziX (b := []) hbt ?_
     (refine gq27 (zn hf (zn hd (zn hw2 (zn hw3 hw4)))) ?_;try with_reducible exact True.intro)
     repeat' ((with_reducible refine And.intro ?_ ?_);focus (first | omega | (simp only [List.length_map,hel];omega) | rfl | decide | simp))
     try (refine gq27 (zn hf (zn hd (zn hw2 (zn hw3 hw4)))) ?_;try with_reducible exact True.intro)
     refine zaz.next (by omega) ⟨?_,?_⟩
     ·rw [if_neg (by omega), ← hsn];try rfl
     ·rw [if_neg (by omega)];simp only [List.length_map,hel,hel1,List.cons_append]
   | some r =>
    have hbt:=hLs r (latF_seq ho).2
    obtain ⟨i,hf,hfi⟩:=hmap.some (s:=b.seq+n+1) (v:=zha r) (by simp only [ho];rfl)
    have hlat:ztY (zrO L (b.seq+n+1))=r.batch:=by rw [ho];rfl
    have hent:zed (zxD view L b.seq n) = [.int .i64 view,.int .i64 (b.seq+n+1),.slice (zbj r.batch),.int .i64 0,.int .i64 0]:=by simp only [zxD,zed,hlat]
    rw [hent] at hsn
    by_cases hn0:n=0
    ·subst hn0
     simp only [if_true,List.append_nil]
     (refine gq27 (zn hf (zn hd (zn hw2 (zn hw3 hw4)))) ?_;try with_reducible exact True.intro)
     refine ziX (b:=r.batch) hbt ?_
     (refine gq27 (zn hf (zn hd (zn hw2 (zn hw3 hw4)))) ?_;try with_reducible exact True.intro)
     repeat' ((with_reducible refine And.intro ?_ ?_);focus (first | omega | rfl | decide | simp))
     try (refine gq27 (zn hf (zn hd (zn hw2 (zn hw3 hw4)))) ?_;try with_reducible exact True.intro)
     refine zaz.next (by omega) ⟨?_,?_⟩
     ·rw [if_neg (by omega), ← hsn];rfl
     ·rw [if_neg (by omega),List.length_map,hel1]
    ·simp only [if_neg hn0]
     (refine gq27 (zn hf (zn hd (zn hw2 (zn hw3 hw4)))) ?_;try with_reducible exact True.intro)
     refine ziX (b:=r.batch) hbt ?_
     (refine gq27 (zn hf (zn hd (zn hw2 (zn hw3 hw4)))) ?_;try with_reducible exact True.intro)
     repeat' ((with_reducible refine And.intro ?_ ?_);focus (first | omega | (simp only [List.length_map,hel];omega) | rfl | decide | simp))
     try (refine gq27 (zn hf (zn hd (zn hw2 (zn hw3 hw4)))) ?_;try with_reducible exact True.intro)
     refine zaz.next (by omega) ⟨?_,?_⟩
     ·rw [if_neg (by omega), ← hsn];try rfl
     ·rw [if_neg (by omega)];simp only [List.length_map,hel,hel1,List.cons_append]
end Go.Proofs.YtpgahkdjkanblaaGreat
