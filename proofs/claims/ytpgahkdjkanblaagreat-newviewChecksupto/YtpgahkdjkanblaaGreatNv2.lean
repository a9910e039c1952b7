/- Contracts: what a new view goes on with. -/
import Derived.Test.YtpgahkdjkanblaaGreatRq1
import Derived.Test.YtpgahkdjkanblaaGreatNr3
set_option linter.all false
set_option maxRecDepth 100000
namespace Go.Proofs.YtpgahkdjkanblaaGreat
open Go.AW
def zhP (p:zbO):AV := .agg (latC (some p))
theorem latStep_map (q:zbO) (o:Int->Option zbO):(fun s=>(zfT s (o s) q).map zhP)=fun s=>if s=q.seq then (zfT q.seq (o q.seq) q).map zhP else (o s).map zhP:=by
 funext s
 by_cases h:s=q.seq
 ·subst h;rw [if_pos rfl]
 ·rw [if_neg h];unfold zfT;rw [if_neg (fun e=>h e.symm)]
def SelR (n:Nat) (xs:List zaI) (G:AV) (R:List zd):Prop:=(xs = []/\G = .exact []/\R = [])∨(xs≠[]/\∃ g,G = .rsl n g 5 0 xs.length/\R = [.row g 5 (zac (zu xs))])
theorem gq13 {A P Q:Prop} (a:A) (h:Q) (e:A->P=Q:=by intro a;simp -dsimp only [↓zhL, ↓zbi, ↓zcI, ↓zhM, ↓zhF, ↓zhD, ↓zhG, ↓zhE, ↓zcN, ↓zcJ, ↓zcO, ↓zcK, ↓zhH, ↓zcH, ↓zcP, ↓zcL, ↓zcQ, ↓zcM, ↓zhC, ↓zhK, ↓zcG, ↓zcR, ↓zhz, ↓zhy, ↓zhB,iN,bT,bF,eN, ↓zdT, ↓unC, ↓zam, ↓zY, ↓zZ, ↓zae, ↓zax, ↓zag, ↓zeQ, ↓zap, ↓zaQ, ↓zW, ↓zg, ↓zh, ↓zcW, ↓zb, ↓zaC, ↓zG, ↓zbv, ↓zbE, ↓zc, ↓zE, ↓zq, ↓zK, ↓zao, ↓zft, ↓zfB, ↓zaL, ↓zaX, ↓zbm, ↓zbC, ↓zcj, ↓zI, ↓zaH, ↓zaa, ↓zM, ↓zaw,zfE,zcw,zcp,unA,zeT,bnd,zgq,zaA,zL,zga,dm,dm1,zw,zad,zgP,zgO,zH,Q0,Q1,Q2,Q3,Q4,Q5,zay,zB,zD,zT,zP,Q6,Q7,Q8,Q9,Q10,Q11,Q12,Q13,Q14,Nat.reduceAdd,Q15,Int.reduceToNat,Q16,Q17,Q18,Q19,Q20,reduceIte,Q21,Q22,zU,rep,zar,zgW,toD,zaz,Q23,Q24,Q25,Q26,Q27,Q28,Nat.reduceLeDiff,Q29,Nat.reduceSub,Q30,Q31,Q32,sc,Q33,Q34,Q35,Bool.and_false,Bool.and_self,Bool.false_and,Bool.not_false,Bool.not_true,Bool.true_and,Int.toNat_natCast,Int.toNat_zero,List.drop_zero,List.length_map,List.length_nil,List.nil_append,List.take_length,Nat.sub_zero,Nat.zero_add,Option.isSome_none,Option.isSome_some,Option.map_none,Option.map_some,zX,beq_self_eq_true,bne_self_eq_false,zex,zco,zdu,zat,zdx,zbh,ents_add,ents_set,hdrD,zdR,zfn,latC,zbm,zuT,zbC,zlS,opA,zei,zhP,zfi,zfK,zaN,a];rfl):P:=(e a).mpr h
theorem gq14 {A P Q:Prop} (a:A) (h:Q) (e:A->Hd Q->P:=by intro a h;(repeat' first|simp -dsimp only [↓zhL, ↓zbi, ↓zcI, ↓zhM, ↓zhF, ↓zhD, ↓zhG, ↓zhE, ↓zcN, ↓zcJ, ↓zcO, ↓zcK, ↓zhH, ↓zcH, ↓zcP, ↓zcL, ↓zcQ, ↓zcM, ↓zhC, ↓zhK, ↓zcG, ↓zcR, ↓zhz, ↓zhy, ↓zhB,iN,bT,bF,eN, ↓zdT, ↓unC, ↓zam, ↓zY, ↓zZ, ↓zae, ↓zax, ↓zag, ↓zeQ, ↓zap, ↓zaQ, ↓zW, ↓zg, ↓zh, ↓zcW, ↓zb, ↓zaC, ↓zG, ↓zbv, ↓zbE, ↓zc, ↓zE, ↓zq, ↓zK, ↓zao, ↓zft, ↓zfB, ↓zaL, ↓zaX, ↓zbm, ↓zbC, ↓zcj, ↓zI, ↓zaH, ↓zaa, ↓zM, ↓zaw,zfE,zcw,zcp,unA,zeT,bnd,zgq,zaA,zL,zga,dm,dm1,zw,zad,zgP,zgO,zH,Q0,Q1,Q2,Q3,Q4,Q5,zay,zB,zD,zT,zP,Q6,Q7,Q8,Q9,Q10,Q11,Q12,Q13,Q14,Nat.reduceAdd,Q15,Int.reduceToNat,Q16,Q17,Q18,Q19,Q20,reduceIte,Q21,Q22,zU,rep,zar,zgW,toD,zaz,Q23,Q24,Q25,Q26,Q27,Q28,Nat.reduceLeDiff,Q29,Nat.reduceSub,Q30,Q31,Q32,sc,Q33,Q34,Q35,Q36,Q37,Q26,Q38,Q39,zwb,zvY,zvV,zwc,zks,zvZ,zvW,zwa,zvX,zkr,zkt,zwl,zwm,Bool.not_true,Bool.not_false,List.length_map,Bool.and_false,Bool.and_self,Bool.false_and,Bool.not_false,Bool.not_true,Bool.true_and,Int.toNat_natCast,Int.toNat_zero,List.drop_zero,List.length_map,List.length_nil,List.nil_append,List.take_length,Nat.sub_zero,Nat.zero_add,Option.isSome_none,Option.isSome_some,Option.map_none,Option.map_some,zdX,zX,beq_self_eq_true,bne_self_eq_false,zuV,zga,a]|with_reducible refine zxk ?_|fail);exact h.go):P:=e a ⟨h⟩
theorem zfC {A P Q:Prop} (a:A) (h:Q) (e:A->Hd Q->P:=by intro a h;(repeat' first|simp -dsimp only [↓zhL, ↓zbi, ↓zcI, ↓zhM, ↓zhF, ↓zhD, ↓zhG, ↓zhE, ↓zcN, ↓zcJ, ↓zcO, ↓zcK, ↓zhH, ↓zcH, ↓zcP, ↓zcL, ↓zcQ, ↓zcM, ↓zhC, ↓zhK, ↓zcG, ↓zcR, ↓zhz, ↓zhy, ↓zhB,iN,bT,bF,eN, ↓zdT, ↓unC, ↓zam, ↓zY, ↓zZ, ↓zae, ↓zax, ↓zag, ↓zeQ, ↓zap, ↓zaQ, ↓zW, ↓zg, ↓zh, ↓zcW, ↓zb, ↓zaC, ↓zG, ↓zbv, ↓zbE, ↓zc, ↓zE, ↓zq, ↓zK, ↓zao, ↓zft, ↓zfB, ↓zaL, ↓zaX, ↓zbm, ↓zbC, ↓zcj, ↓zI, ↓zaH, ↓zaa, ↓zM, ↓zaw,zfE,zcw,zcp,unA,zeT,bnd,zgq,zaA,zL,zga,dm,dm1,zw,zad,zgP,zgO,zH,Q0,Q1,Q2,Q3,Q4,Q5,zay,zB,zD,zT,zP,Q6,Q7,Q8,Q9,Q10,Q11,Q12,Q13,Q14,Nat.reduceAdd,Q15,Int.reduceToNat,Q16,Q17,Q18,Q19,Q20,reduceIte,Q21,Q22,zU,rep,zar,zgW,toD,zaz,Q23,Q24,Q25,Q26,Q27,Q28,Nat.reduceLeDiff,Q29,Nat.reduceSub,Q30,Q31,Q32,sc,Q33,Q34,Q35,Q36,Q37,Q26,Q38,Q39,zwb,zvY,zvV,zwc,zks,zvZ,zvW,zwa,zvX,zkr,zkt,zwl,zwm,Bool.not_true,Bool.not_false,List.length_map,a]|with_reducible refine zxk ?_|fail);exact h.go):P:=e a ⟨h⟩
theorem gq16 {A P Q:Prop} (a:A) (h:Q) (e:A->Hd Q->P:=by intro a h;(repeat' first|simp -dsimp only [↓zhL, ↓zbi, ↓zcI, ↓zhM, ↓zhF, ↓zhD, ↓zhG, ↓zhE, ↓zcN, ↓zcJ, ↓zcO, ↓zcK, ↓zhH, ↓zcH, ↓zcP, ↓zcL, ↓zcQ, ↓zcM, ↓zhC, ↓zhK, ↓zcG, ↓zcR, ↓zhz, ↓zhy, ↓zhB,iN,bT,bF,eN, ↓zdT, ↓unC, ↓zam, ↓zY, ↓zZ, ↓zae, ↓zax, ↓zag, ↓zeQ, ↓zap, ↓zaQ, ↓zW, ↓zg, ↓zh, ↓zcW, ↓zb, ↓zaC, ↓zG, ↓zbv, ↓zbE, ↓zc, ↓zE, ↓zq, ↓zK, ↓zao, ↓zft, ↓zfB, ↓zaL, ↓zaX, ↓zbm, ↓zbC, ↓zcj, ↓zI, ↓zaH, ↓zaa, ↓zM, ↓zaw,zfE,zcw,zcp,unA,zeT,bnd,zgq,zaA,zL,zga,dm,dm1,zw,zad,zgP,zgO,zH,Q0,Q1,Q2,Q3,Q4,Q5,zay,zB,zD,zT,zP,Q6,Q7,Q8,Q9,Q10,Q11,Q12,Q13,Q14,Nat.reduceAdd,Q15,Int.reduceToNat,Q16,Q17,Q18,Q19,Q20,reduceIte,Q21,Q22,zU,rep,zar,zgW,toD,zaz,Q23,Q24,Q25,Q26,Q27,Q28,Nat.reduceLeDiff,Q29,Nat.reduceSub,Q30,Q31,Q32,sc,Q33,Q34,Q35,Q36,Q37,Q26,Q38,Q39,zwb,zvY,zvV,zwc,zks,zvZ,zvW,zwa,zvX,zkr,zkt,zwl,zwm,Bool.not_true,Bool.not_false,List.length_map,Bool.and_false,Bool.and_self,Bool.false_and,Bool.not_false,Bool.not_true,Bool.true_and,Int.toNat_natCast,Int.toNat_zero,List.drop_zero,List.length_map,List.length_nil,List.nil_append,List.take_length,Nat.sub_zero,Nat.zero_add,Option.isSome_none,Option.isSome_some,Option.map_none,Option.map_some,zX,beq_self_eq_true,bne_self_eq_false,zex,zdx,ents_add,ents_set,zfn,latC,zbm,zuT,zbC,zhP,a]|with_reducible refine zxk ?_|fail);exact h.go):P:=e a ⟨h⟩
theorem zxd {σ:List zd} {f view:Int} {cs:List zJ} (hs:zuj cs) (hR:∀ c∈cs,zgL c) {K:KT}
  (hK0:zjn f view cs≠0->K (.tup [.agg [.d (.int .i64 0),.d (.int .i64 0),.exact []],.exact [],.d (.int .i64 (zjn f view cs))]) σ)
  (hK:zjn f view cs=0->∀ g G R,SelR (σ.length+1) (zfZ f view cs).2.1 G R->K (.tup [.agg [.d (.int .i64 (zfZ f view cs).1.seq),.d (.int .i64 (zfZ f view cs).1.dig),.rsl σ.length g 2 0 (zfZ f view cs).1.signs.length],G,.d (.int .i64 0)]) (σ++(.row g 2 (zac (zO (zfZ f view cs).1.signs))::R))) :
  zj Tryz.prog zds [.d (.int .i64 f),.d (.int .i64 view),.d (.slice (zR cs))] σ K:=by
 refine zxm zmd.is rfl fun hl _=>zmd.goes ?_
 obtain ⟨hs1,hs2⟩:=hs
 simp only [zms,iN,bT,bF,eN,zl3,zl4]
 (refine gq2 ?_;try with_reducible exact True.intro)
 refine c_may hs1 ?_
 cases h0:(zjn f view cs != 0)
 rotate_left
 ·(refine gq1 h0 ?_;try with_reducible exact True.intro)
  exact zpN (ks := []) (os := []) hl (by simp) (by simp) rfl (by simp) rfl (by rw [List.append_nil];exact hK0 (by simpa using h0))
 have h0':zjn f view cs=0:=by simpa using h0
 obtain ⟨hne,hcf⟩:=mayF_ne h0'
 have hlen:0<cs.length:=List.length_pos_iff.2 hne
 have hx0:cs[0]? = some cs[0]:=by simp [hlen]
 have hgx0:=zF (f:=zat) hx0
 have hb0:ziT cs 0=cs[0].cert:=by
  cases cs with
  | nil=>exact absurd rfl hne
  | cons c cs=>rfl
 (refine gq8 (zi h0 hgx0) ?_;try with_reducible exact True.intro)
 refine ⟨by omega,?_⟩
 try (refine gq2 ?_;try with_reducible exact True.intro)
 refine zl cs.length (fun k vs s=>vs = [.d (.int .i64 (zbQ (zbz cs k))),.d (.int .i64 k)]/\∃ l T,zpt l (fun q=>(zrE (zbz cs k) q).map zhP)/\s = σ++(.box [.d (.int .i64 0),.d (.int .i64 0),.exact []]::.box [.d (.int .i64 (ziT cs k).seq),.d (.int .i64 (ziT cs k).dig),.d (.slice (zO (ziT cs k).signs))]::.map (zww l)::T)) ⟨rfl,[],[],zpt.nil,by rw [hb0];rfl⟩ ?_
 rintro k vs s hk ⟨rfl,l,T,hmap,rfl⟩
 (refine gq2 ?_;try with_reducible exact True.intro)
 refine zV (fun h => ?_) (fun h => ?_)
 ·have hlt:k<cs.length:=by simp at h;omega
  have hx:cs[k]? = some cs[k]:=by simp [hlt]
  have hgx:=zF (f:=zat) hx
  obtain ⟨_,ha,_⟩:=hs2 _ (List.getElem_mem hlt)
  obtain ⟨c,hce⟩:∃ c,cs[k]=c:=⟨_,rfl⟩
  rw [hce] at hx hgx ha
  have hps:=zot hx
  have hbs:=ztZ hx
  have hwk:IntKind.i64.wrap ((k:Int)+1)=((k+1:Nat):Int):=by rw [zab (by omega) (by omega)];rfl
  (refine gq8 hgx ?_;try with_reducible exact True.intro)
  refine ⟨by omega,?_⟩
  obtain ⟨b,hbe⟩:∃ b,ziT cs (k+1)=b:=⟨_,rfl⟩
  cases h2:decide (c.cert.seq > (ziT cs k).seq)
  all_goals
   first
    | (have hcb:ziT cs k=b:=by rw [← hbe,hbs,znh,if_neg (by simpa using h2)])
    | (have hcb:c.cert=b:=by rw [← hbe,hbs,znh,if_pos (by simpa using h2)])
   (refine gq8 (zi hgx h2) ?_;try with_reducible exact True.intro)
   rw [hcb]
   refine zl c.above.length (fun j vs s=>vs = [.d (.int .i64 (zbQ (zbz cs k++c.above.take j))),.d (.int .i64 j)]/\∃ l T,zpt l (fun q=>(zrE (zbz cs k++c.above.take j) q).map zhP)/\s = σ++(.box [.d (.int .i64 0),.d (.int .i64 0),.exact []]::.box [.d (.int .i64 b.seq),.d (.int .i64 b.dig),.d (.slice (zO b.signs))]::.map (zww l)::T)) ⟨by simp,l,_,by simpa using hmap,rfl⟩ ?_
   rintro j vs s hj ⟨rfl,l,T,hmap,rfl⟩
   (refine gq5 ?_;try with_reducible exact True.intro)
   refine zV (fun h => ?_) (fun h => ?_)
   ·have hjt:j<c.above.length:=by simp at h;omega
    have hy:c.above[j]? = some c.above[j]:=by simp [hjt]
    have hgy:=zF (f:=zei) hy
    obtain ⟨p,hpe⟩:∃ p,c.above[j]=p:=⟨_,rfl⟩
    rw [hpe] at hy hgy
    have htk:c.above.take (j+1)=c.above.take j++[p]:=by rw [List.take_add_one,hy];rfl
    have hw:IntKind.i64.wrap ((j:Int)+1)=((j+1:Nat):Int):=by rw [zab (by omega) (by omega)];rfl
    obtain ⟨L,hLe⟩:∃ L,zbz cs k++c.above.take j=L:=⟨_,rfl⟩
    have hL1:zbz cs k++c.above.take (j+1)=L++[p]:=by rw [htk, ← List.append_assoc,hLe]
    rw [hLe] at hmap ⊢
    have hg:(if p.seq > zbQ L then p.seq else zbQ L)=zbQ (L++[p]):=by rw [zwo];rfl
    have hm2:(fun q=>(zrE (L++[p]) q).map zhP)=fun s=>if s=p.seq then (zfT p.seq (zrE L p.seq) p).map zhP else (zrE L s).map zhP:=by
     rw [← latStep_map];funext q;rw [zwh]
    have next:∀ l T,zpt l (fun q=>(zrE (L++[p]) q).map zhP)->zan c.above.length (fun j vs s=>vs = [.d (.int .i64 (zbQ (zbz cs k++c.above.take j))),.d (.int .i64 j)]/\∃ l T,zpt l (fun q=>(zrE (zbz cs k++c.above.take j) q).map zhP)/\s = σ++(.box [.d (.int .i64 0),.d (.int .i64 0),.exact []]::.box [.d (.int .i64 b.seq),.d (.int .i64 b.dig),.d (.slice (zO b.signs))]::.map (zww l)::T)) j
      [.d (.int .i64 (zbQ (L++[p]))),.d (.int .i64 (j+1:Nat))] (σ++(.box [.d (.int .i64 0),.d (.int .i64 0),.exact []]::.box [.d (.int .i64 b.seq),.d (.int .i64 b.dig),.d (.slice (zO b.signs))]::.map (zww l)::T)):=fun l T h=>zan.next hjt ⟨by rw [hL1],l,T,by rw [hL1];exact h,rfl⟩
    cases ho:zrE L p.seq with
    | none=>
     have hf:=hmap.none (s:=p.seq) (by simp only [ho];rfl)
     have hnew:=hmap.add (t:=p.seq) (x:=zhP p) (by simp only [ho];rfl)
     (refine gq13 (zi hgy (zi hf (zi hg hw))) ?_;try with_reducible exact True.intro)
     repeat' ((with_reducible refine And.intro ?_ ?_);focus (first|omega|rfl|decide))
     try (refine gq13 (zi hgy (zi hf (zi hg hw))) ?_;try with_reducible exact True.intro)
     refine next _ _ ?_
     rw [hm2,ho]
     simp only [zfT,if_true,Option.map_some]
     exact hnew
    | some r=>
     obtain ⟨i,hf,hfi⟩:=hmap.some (s:=p.seq) (v:=zhP r) (by simp only [ho];rfl)
     cases h3:decide (p.view > r.view)
     ·(refine gq13 (zi hgy (zi hf (zi hg (zi hw h3)))) ?_;try with_reducible exact True.intro)
      repeat' ((with_reducible refine And.intro ?_ ?_);focus (first|omega|rfl|decide))
      try (refine gq13 (zi hgy (zi hf (zi hg (zi hw h3)))) ?_;try with_reducible exact True.intro)
      refine next _ _ ?_
      have:(fun q=>(zrE (L++[p]) q).map zhP)=fun q=>(zrE L q).map zhP:=by
       funext q
       rw [zwh]
       unfold zfT
       by_cases e:p.seq=q
       ·subst e
        rw [if_pos rfl,ho]
        simp only
        rw [if_neg (by simpa using h3)]
       ·rw [if_neg e]
      rw [this]
      exact hmap
     ·have hnew:=hmap.put (x:=zhP p) hfi
      (refine gq13 (zi hgy (zi hf (zi hg (zi hw h3)))) ?_;try with_reducible exact True.intro)
      repeat' ((with_reducible refine And.intro ?_ ?_);focus (first|omega|rfl|decide))
      try (refine gq13 (zi hgy (zi hf (zi hg (zi hw h3)))) ?_;try with_reducible exact True.intro)
      refine next _ _ ?_
      rw [hm2,ho]
      simp only [zfT,if_true]
      rw [if_pos (by simpa using h3)]
      exact hnew
   ·have hn:j=c.above.length:=by simp at h;omega
    subst hn
    rw [List.take_length, ← hps] at hmap ⊢
    (refine gq1 hwk ?_;try with_reducible exact True.intro)
    exact zan.next hlt ⟨rfl,l,T,hmap,by rw [hbe]⟩
 ·have hn:k=cs.length:=by simp at h;omega
  subst hn
  obtain ⟨L,hLe⟩:∃ L,zbz cs cs.length=L:=⟨_,rfl⟩
  obtain ⟨b,hbe⟩:∃ b,ziT cs cs.length=b:=⟨_,rfl⟩
  have hg1:=great_le hR cs.length
  have hg0:=greatF_nn L
  have hbR:=zzt hR (Nat.le_refl _) hne
  obtain ⟨c0,hc0,hcb⟩:=zsB (cs:=cs) (Nat.le_refl _) hne
  have hbs:b.signs.length<=1073741824:=by rw [← hbe,hcb];exact (hs2 c0 hc0).1
  have hLs:∀ p∈L,zhN p.batch:=fun p hp=>by
   rw [← hLe] at hp
   obtain ⟨c,hc,hp⟩:=zmH hp
   exact (hs2 c hc).2.2 p hp
  have hsel:zfZ f view cs=if b.seq<0∨zbQ L<=b.seq then (b,[], 0) else (b,zgt view L b.seq (zrZ (zbQ L) b.seq), 0):=by
   rw [zfZ,if_neg (by rw [h0'];simp)];simp only [hLe,hbe]
  rw [hLe] at hg1 hmap ⊢
  rw [hbe] at hbR ⊢
  have hK:=hK h0'
  rw [hsel] at hK
  clear hcb hbe hLe hK0 hsel
  have hsl:(zO b.signs).length=b.signs.length:=List.length_map ..
  have hs2':=zoo b.signs
  have hs16:b.signs.length*16<=140737488355328:=by omega
  have none0:∀ τ t0,(σ ++ τ)[t0]? = some (.row 0 2 (zac (zO b.signs))) → σ.length<=t0->(∀ g,K (.tup [.agg [.d (.int .i64 b.seq),.d (.int .i64 b.dig),.rsl σ.length g 2 0 b.signs.length],.exact [],.d (.int .i64 0)]) (σ++[.row g 2 (zac (zO b.signs))])) →
    EndsX σ.length K (some [.agg [.d (.int .i64 b.seq),.d (.int .i64 b.dig),.rsl t0 0 2 0 b.signs.length],.exact [],.d (.int .i64 0)]) (σ ++ τ):=fun τ t0 ht h0 h=>by
   have h1:¬ t0 < σ.length:=by omega
   exact zpN (ks := [t0]) (os := [.row 0 2 (zac (zO b.signs))]) hl (by simpa using h0) (by simp) (by simp only [getL,ht]) (by intro x hx;simp only [List.mem_singleton] at hx;subst hx;exact zwf _ _ _ _)
    (by simp only [zcq,zdY,zjr,zkW,idxK,h1,if_false,if_true]) (h 0)
  cases h6:decide (b.seq<0)
  rotate_left
  ·rw [if_pos (.inl (by simpa using h6))] at hK
   refine gq14 (zi hsl (zi hs2' (zi hs16 h6))) ?_
   exact none0 _ _ (by rw [zB];simp) (by omega) fun g=>hK g _ [] (.inl ⟨rfl,rfl,rfl⟩)
  cases h7:decide (zbQ L<=b.seq)
  rotate_left
  ·rw [if_pos (.inr (by simpa using h7))] at hK
   refine gq14 (zi hsl (zi hs2' (zi hs16 (zi h6 h7)))) ?_
   exact none0 _ _ (by rw [zB];simp) (by omega) fun g=>hK g _ [] (.inl ⟨rfl,rfl,rfl⟩)
  have h6':0<=b.seq:=by simpa using h6
  have h7':b.seq<zbQ L:=by simpa using h7
  rw [if_neg (by omega)] at hK
  have hw1:IntKind.i64.wrap (zbQ L-b.seq)=zbQ L-b.seq:=zab (by omega) (by omega)
  obtain ⟨N,hN⟩:∃ N,zrZ (zbQ L) b.seq=N:=⟨_,rfl⟩
  have hmin:(if (8:Int)<zbQ L-b.seq then (8:Int) else zbQ L-b.seq)=(N:Int):=by
   rw [← hN];unfold zrZ;split<;>omega
  have hN8:=zrY (zbQ L) b.seq
  rw [hN] at hN8 hK
  have hNg:(N:Int)<=zbQ L-b.seq:=by rw [← hN];unfold zrZ;omega
  have hN0:0<N:=by rw [← hN];unfold zrZ;omega
  refine gq14 (zi hsl (zi hs2' (zi hs16 (zi h6 (zi h7 (zi hw1 hmin)))))) ?_
  obtain ⟨t0,ht0⟩:∃ t0, σ.length+(T.length+3)=t0:=⟨_,rfl⟩
  rw [ht0]
  obtain ⟨S0,hS0⟩:∃ S0, σ++zd.box [.d (.int .i64 0),.d (.int .i64 0),.exact []]::zd.box [.d (.int .i64 b.seq),.d (.int .i64 b.dig),.rsl t0 0 2 0 b.signs.length]::zd.map (zww l)::(T++[zd.row 0 2 (List.map AV.d (zO b.signs).flatten)])=S0:=⟨_,rfl⟩
  have gA:∀ τ,(S0 ++ τ)[σ.length]? = some (.box [.d (.int .i64 0),.d (.int .i64 0),.exact []]):=fun τ=>zn (by rw [← hS0,zD];rfl)
  have gB:∀ τ,(S0 ++ τ)[σ.length+1]? = some (.box [.d (.int .i64 b.seq),.d (.int .i64 b.dig),.rsl t0 0 2 0 b.signs.length]):=fun τ=>zn (by rw [← hS0,zB];rfl)
  have gM:∀ τ,(S0 ++ τ)[σ.length+2]? = some (.map (zww l)):=fun τ=>zn (by rw [← hS0,zB];rfl)
  have gT:∀ τ,(S0 ++ τ)[t0]? = some (.row 0 2 (zac (zO b.signs))):=fun τ=>zn (by rw [← hS0, ← ht0,zB];simp)
  have sA:∀ τ Y,(S0 ++ τ).set σ.length Y = σ++(Y::zd.box [.d (.int .i64 b.seq),.d (.int .i64 b.dig),.rsl t0 0 2 0 b.signs.length]::zd.map (zww l)::(T++[zd.row 0 2 (List.map AV.d (zO b.signs).flatten)] ++ τ)):=fun τ Y=>by
   rw [← hS0,List.append_assoc,zP];rfl
  have hSl:S0.length=t0+1:=by rw [← hS0, ← ht0];simp;omega
  rw [hS0]
  refine zck N (fun n vs s=>vs = [.rsl S0.length n 5 0 n,.d (.int .i64 n)]/\∃ T2,s=S0++(.row n 5 (zac (zu (zgt view L b.seq n)))::T2)) (.row 0 5 rfl (by omega) (.refl _ _)) ⟨rfl,[],rfl⟩ ?_
  rintro n vs s hn ⟨rfl,T2,rfl⟩
  have hel:(zgt view L b.seq n).length=n:=by simp [zgt]
  have hfl:(zac (zu (zgt view L b.seq n))).length=n*5:=by
   rw [zeM (sz := 5) (zec (f:=zbh) (fun _=>rfl) _),List.length_map,hel]
  by_cases hnN:n=N
  ·have hd:decide ((n:Int)<(N:Int))=false:=by simp;omega
   refine zfC (zi hd (zi gB (zi gA sA))) ?_
   obtain ⟨X,hX⟩:∃ X,zd.box [.d (.int .i64 b.seq),.d (.int .i64 b.dig),.rsl t0 0 2 0 b.signs.length]::zd.box [.d (.int .i64 b.seq),.d (.int .i64 b.dig),.rsl t0 0 2 0 b.signs.length]::zd.map (zww l)::(T++zd.row 0 2 (List.map AV.d (zO b.signs).flatten)::zd.row n 5 (zac (zu (zgt view L b.seq n)))::T2)=X:=⟨_,rfl⟩
   have g1:(σ++X)[t0]? = some (.row 0 2 (zac (zO b.signs))):=by rw [← hX, ← ht0,zB];simp
   have g2:(σ++X)[t0+1]? = some (.row n 5 (zac (zu (zgt view L b.seq n)))):=by
    rw [← hX, ← ht0,Nat.add_assoc,zB]
    simp [List.getElem?_append_right]
   rw [hX,hSl]
   have n1:¬ t0 < σ.length:=by omega
   have n2:¬ t0+1 < σ.length:=by omega
   have n3:¬ t0+1=t0:=by omega
   have hne:zgt view L b.seq N≠[]:=fun h=>by have:=congrArg List.length h;rw [← hnN,hel] at this;simp at this;omega
   exact zpN (ks := [t0,t0+1]) (os := [.row 0 2 (zac (zO b.signs)),.row n 5 (zac (zu (zgt view L b.seq n)))]) hl (by simp;omega) (by simp) (by simp only [getL,g1,g2])
    (by
     intro x hx
     simp only [List.mem_cons,List.not_mem_nil,or_false] at hx
     rcases hx with rfl|rfl<;>exact zwf _ _ _ _)
    (by simp only [zcq,zdY,zjr,zkW,idxK,n1,n2,n3,if_false,if_true]) (hK 0 (.rsl (σ.length+1) n 5 0 n) _ (.inr ⟨hne,n,by rw [← hnN,hel],by rw [← hnN]⟩))
  ·have hd:decide ((n:Int)<(N:Int))=true:=by simp;omega
   have hw2:IntKind.i64.wrap (b.seq+(n:Int))=b.seq+n:=zab (by omega) (by omega)
   have hw3:IntKind.i64.wrap (b.seq+(n:Int)+1)=b.seq+n+1:=zab (by omega) (by omega)
   have hw4:IntKind.i64.wrap ((n:Int)+1)=((n+1:Nat):Int):=by rw [zab (by omega) (by omega)];rfl
   have hsn:zu (zgt view L b.seq n)++[zbh (entAt view L b.seq n)]=zu (zgt view L b.seq (n+1)):=by rw [← zzd];simp
   have next:∀ bt,zrv (zrE L (b.seq+n+1))=bt->zac (zu (zgt view L b.seq n))++[AV.d (.int .i64 view),.d (.int .i64 (b.seq+n+1)),.d (.slice (zaP bt)),.d (.int .i64 0),.d (.int .i64 0)]=zac (zu (zgt view L b.seq (n+1))):=fun bt h=>by
    rw [← hsn];simp [zac,entAt,zbh,h]
   have hol:(n+1)*56<=140737488355328:=by omega
   cases ho:zrE L (b.seq+n+1) with
   | none=>
    have hf:=hmap.none (s:=b.seq+n+1) (by simp only [ho];rfl)
    refine gq16 (zi hf (zi hd (zi hw2 (zi hw3 (zi hw4 (zi gB gM)))))) ?_
    refine zj.pre (.data 0 (.exact []) [] rfl rfl (.refl _ _)) ?_
    refine zmj (b := []) ⟨by simp,by simp⟩ ?_
    refine gq14 (zi hw4 (zi hfl hol)) ?_
    refine zan.next (by omega) ⟨rfl,T2++[.row 0 5 [.d (.int .i64 view),.d (.int .i64 (b.seq+n+1)),.d (.slice (zaP [])),.d (.int .i64 0),.d (.int .i64 0)]],?_⟩
    rw [← next [] (by rw [ho];rfl)];rfl
   | some r=>
    obtain ⟨i,hf,hfi⟩:=hmap.some (s:=b.seq+n+1) (v:=zhP r) (by simp only [ho];rfl)
    refine gq16 (zi hf (zi hd (zi hw2 (zi hw3 (zi hw4 (zi gB gM)))))) ?_
    refine zmj (b:=r.batch) (hLs r (zAj ho).2) ?_
    refine gq14 (zi hw4 (zi hfl hol)) ?_
    refine zan.next (by omega) ⟨rfl,T2++[.row 0 5 [.d (.int .i64 view),.d (.int .i64 (b.seq+n+1)),.d (.slice (zaP r.batch)),.d (.int .i64 0),.d (.int .i64 0)]],?_⟩
    rw [← next r.batch (by rw [ho];rfl)]
theorem zky {σ:List zd} {n₀ m t g sz:Nat} {es:List (List D)} (ht : σ[t]? = some (.row g sz (zac es))) (hn:n₀<=t) (h:∀ e∈es,e.length=sz):frz σ n₀ (m+2) (.rsl t g sz 0 es.length)=some (.slice es):=by
 have hf:∀ ds:List D,zyn ((ds.map AV.d).map (frz σ n₀ (m+1)))=some ds:=by
  intro ds
  induction ds with
  | nil=>rfl
  | cons d ds ih=>
   have:frz σ n₀ (m+1) (.d d)=some d:=rfl
   simp only [List.map_cons,this,zyn,ih]
 have hc:∀ (es:List (List D)),(∀ e∈es,e.length=sz)->zaz sz es.length es.flatten=es:=by
  intro es
  induction es with
  | nil=>intro _;rfl
  | cons e es ih=>
   intro h
   have he:=h e List.mem_cons_self
   simp only [List.length_cons,zaz,List.flatten_cons]
   rw [List.take_left' he,List.drop_left' he,ih fun x hx=>h x (List.mem_cons_of_mem _ hx)]
 have hl:(zac es).length=es.length*sz:=zeM h
 simp only [frz,ht,hn,true_and,and_self,if_true,Nat.zero_mul,List.drop_zero,Nat.sub_zero]
 rw [List.take_of_length_le (by omega),hf]
 simp only
 rw [hc es h]
theorem frz_d (σ:List zd) (n m:Nat) (x:D):frz σ n m (.d x)=some x:=by cases m<;>rfl
theorem zzo {σ:List zd} {f view:Int} {cs:List zJ} (hs:zuj cs) (hR:∀ c∈cs,zgL c) {K:KT}
  (hK:K (.tup [zdu (zfZ f view cs).1,.d (.slice (zu (zfZ f view cs).2.1)),.d (.int .i64 (zfZ f view cs).2.2)]) σ) :
  zj Tryz.prog zds [.d (.int .i64 f),.d (.int .i64 view),.d (.slice (zR cs))] σ K:=by
 refine zj.frz 2 (zxd hs hR (fun h => ?_) fun h g G R hG => ?_)
 ·have e:zfZ f view cs=(zgN,[],zjn f view cs):=by rw [zfZ,if_pos h]
  rw [e] at hK
  exact ⟨_,rfl,List.take_length,hK⟩
 ·have e2:(zfZ f view cs).2.2=0:=by
   unfold zfZ
   rw [if_neg (by simpa using h)]
   simp only
   split<;>rfl
  rw [e2] at hK
  obtain ⟨c,hc⟩:∃ c,(zfZ f view cs).1=c:=⟨_,rfl⟩
  obtain ⟨xs,hxs⟩:∃ c,(zfZ f view cs).2.1=c:=⟨_,rfl⟩
  rw [hc,hxs] at hK
  rw [hxs] at hG
  rw [hc]
  have hsl:(zO c.signs).length=c.signs.length:=List.length_map ..
  have hel:(zu xs).length=xs.length:=List.length_map ..
  have f1:frz (σ ++ .row g 2 (zac (zO c.signs))::R) σ.length 2 (.rsl σ.length g 2 0 c.signs.length)=some (.slice (zO c.signs)):=by
   rw [← hsl]
   exact zky (m := 0) (by rw [zD];rfl) (Nat.le_refl _) (zoo _)
  have f2:frz (σ ++ .row g 2 (zac (zO c.signs))::R) σ.length 2 G=some (.slice (zu xs)):=by
   rcases hG with ⟨rfl,rfl,rfl⟩|⟨_,g2,rfl,rfl⟩
   ·rfl
   ·rw [← hel]
    exact zky (m := 0) (by rw [zB];rfl) (by omega) (zec (f:=zbh) (fun _=>rfl) _)
  have f2':zxW (σ ++ .row g 2 (zac (zO c.signs))::R) σ.length 2 G=some (.d (.slice (zu xs))):=by
   rcases hG with ⟨rfl,rfl,rfl⟩|⟨_,g2,rfl,rfl⟩
   ·rfl
   ·simp only [zxW,f2]
  refine ⟨.tup [zdu c,.d (.slice (zu xs)),.d (.int .i64 0)],?_,by simp,hK⟩
  have f1':zxW (σ ++ .row g 2 (zac (zO c.signs))::R) σ.length 2 (.agg [.d (.int .i64 c.seq),.d (.int .i64 c.dig),.rsl σ.length g 2 0 c.signs.length])=some (zdu c):=by
   simp only [zxW,List.map_cons,List.map_nil,frz_d,f1,zyn]
  have f3:∀ x,zxW (σ ++ .row g 2 (zac (zO c.signs))::R) σ.length 2 (.d x)=some (.d x):=fun _=>rfl
  simp only [frzT,List.map_cons,List.map_nil,f1',f2',f3,zyn]
end Go.Proofs.YtpgahkdjkanblaaGreat
