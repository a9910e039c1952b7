/- Contracts: what a new view goes on with, by the reference. -/
import Derived.Test.YtpgahkdjkanblaaGreatNv2
import Derived.Test.YtpgahkdjkanblaaGreatSpOp
set_option linter.all false
set_option maxRecDepth 100000
namespace Go.Proofs.YtpgahkdjkanblaaGreat
open Go.AW
theorem gq28 {A P Q:Prop} (a:A) (h:Q) (e:A->P=Q:=by intro a;simp -dsimp only [↓zeN, ↓zav, ↓zbq, ↓zeO, ↓zeH, ↓zeF, ↓zeI, ↓zeG, ↓zbv, ↓zbr, ↓zbw, ↓zbs, ↓zeJ, ↓zbp, ↓zbx, ↓zbt, ↓zby, ↓zbu, ↓zeE, ↓zeM, ↓zbo, ↓zbz, ↓zeC, ↓zeB, ↓zeD,iN,bT,bF,eN, ↓zcB, ↓unC, ↓zV, ↓zM, ↓zN, ↓zQ, ↓zY, ↓zal, ↓zdb, ↓zak, ↓zaH, ↓zT, ↓zf, ↓zj, ↓zbZ, ↓zb, ↓zag, ↓zE, ↓zaI, ↓zaO, ↓zc, ↓zy, ↓zl, ↓zG, ↓zaa, ↓zdm, ↓zdw, ↓zaj, ↓zar, ↓zaK, ↓zaS, ↓zaY, ↓zq, ↓zai, ↓zO, ↓zu, ↓zX,zdx,zbg,zbb,unA,zdd,bnd,zdY,zaf,zP,zdR,dm,dm1,zA,zae,zeh,zeg,zI,Q0,Q1,Q2,Q3,Q4,Q5,zZ,zC,zt,zL,zF,Q6,Q7,Q8,Q9,Q10,Q11,Q12,Q13,Q14,Nat.reduceAdd,Q15,Int.reduceToNat,Q16,Q17,Q18,Q19,Q20,reduceIte,Q21,Q22,zH,rep,zac,zel,toD,zah,Q23,Q24,Q25,Q26,Q27,Q28,Nat.reduceLeDiff,Q29,Nat.reduceSub,Q30,Q31,Q32,sc,Q33,Q34,Q35,List.length_map,zaE,zew,a];rfl):P:=(e a).mpr h
theorem c_rSelect {σ:List zh} {f view:Int} {cs:List zU} (hs:zxR cs) (hR:∀ c ∈ cs,zio c) {K:KT}
  (hK:K (.tup [zgc (zkh f view cs).1,.d (.slice (zaw (zkh f view cs).2.1)),.d (.int .i64 (zkh f view cs).2.2)]) σ) :
  zo Tryz.prog zli [.d (.int .i64 f),.d (.int .i64 view),.d (.slice (zan cs))] σ K:=by
 refine zd zus.is rfl fun hl _=>zus.goes ?_
 have hsC:=hs
 obtain ⟨hs1,hs2⟩:=hs
 simp only [zuI,iN,bT,bF,eN]
 (refine gq2 ?_;try with_reducible exact True.intro)
 refine zkK ?_
 have fin:∀ r:zft × List zbL × Int,zkh f view cs=r->K (.tup [zgc r.1,.d (.slice (zaw r.2.1)),.d (.int .i64 r.2.2)]) σ:=fun r h=>h ▸ hK
 have bad:∀ e,e ≠ 0->zlY f view cs=e->K (.tup [zgc zoQ,.d (.slice (zaw [])),.d (.int .i64 e)]) σ:=fun e he h=>fin (zoQ,[],e) (by rw [zkh,if_pos (by rw [h];exact he),h])
 clear hK
 cases h0:(zbN f != 0)
 rotate_left
 ·(refine gq1 h0 ?_;try with_reducible exact True.intro)
  refine zw hl ?_
  exact bad _ (by simpa using h0) (by rw [zlY,if_pos (by simpa using h0)])
 have h0':¬ zbN f ≠ 0:=by simpa using h0
 cases h1:decide (view<1)
 rotate_left
 ·(refine gq1 (zn h0 h1) ?_;try with_reducible exact True.intro)
  refine zw hl ?_
  exact bad 1 (by omega) (by rw [zlY,if_neg h0',if_pos (by simp at h1;omega)])
 cases h2:decide (view > 9007199254740992)
 rotate_left
 ·(refine gq1 (zn h0 (zn h1 h2)) ?_;try with_reducible exact True.intro)
  refine zw hl ?_
  exact bad 1 (by omega) (by rw [zlY,if_neg h0',if_pos (by simp at h2;omega)])
 have h12:¬ (view<1 ∨ view > 9007199254740992):=by simp at h1 h2;omega
 (refine gq14 (zn h0 (zn h1 h2)) ?_;try with_reducible exact True.intro)
 refine zm cs.length (fun k vs s=>vs = [.d (.int .i64 k)]/\s = σ++[.box [.d (.int .i64 0),.d (.int .i64 0),.exact []]]/\zlf f cs k=true) ⟨rfl,rfl,rfl⟩ ?_
 rintro k vs s hk ⟨rfl,rfl,hok⟩
 by_cases hlt:k<cs.length
 ·have hd:decide ((k:Int)<(cs.length:Int))=true:=by simp;omega
  have hx:cs[k]? = some cs[k]:=by simp [hlt]
  have hgx:=zR (f:=zaE) hx
  obtain ⟨c,hce⟩:∃ c,cs[k]=c:=⟨_,rfl⟩
  rw [hce] at hx hgx
  have hwk:IntKind.i64.wrap ((k:Int)+1)=((k+1:Nat):Int):=by rw [zas (by omega) (by omega)];rfl
  have hbad:zrT f cs k=false->zlY f view cs=1:=fun h=>by rw [zlY,if_neg h0',if_neg h12,if_pos (zxN hlt h)]
  have hval:zrT f cs k=decide (zfB cs k<c.src/\c.src<zaW 3 f):=by simp only [zrT,hx]
  have hpos:=zth hk hok
  cases h3:decide (c.src<0)
  rotate_left
  ·(refine zzU (zn hgx (zn h3 hd)) ?_;try with_reducible exact True.intro)
   repeat' ((with_reducible refine And.intro ?_ ?_);focus (first | omega | rfl | decide))
   try (refine zzU (zn hgx (zn h3 hd)) ?_;try with_reducible exact True.intro)
   refine zw hl ?_
   exact bad 1 (by omega) (hbad (by rw [hval];simp at h3 ⊢;omega))
  ·(refine zzU (zn hgx (zn h3 hd)) ?_;try with_reducible exact True.intro)
   repeat' ((with_reducible refine And.intro ?_ ?_);focus (first | omega | rfl | decide))
   try (refine zzU (zn hgx (zn h3 hd)) ?_;try with_reducible exact True.intro)
   refine zmz ?_
   cases h4:decide (c.src ≥ zaW 3 f)
   rotate_left
   ·(refine zzU (zn hgx (zn h3 h4)) ?_;try with_reducible exact True.intro)
    repeat' ((with_reducible refine And.intro ?_ ?_);focus (first | omega | rfl | decide))
    try (refine zzU (zn hgx (zn h3 h4)) ?_;try with_reducible exact True.intro)
    refine zw hl ?_
    exact bad 1 (by omega) (hbad (by rw [hval];simp at h4 ⊢;omega))
   ·cases k with
    | zero =>
     have hz:decide (((0:Nat):Int) > 0)=false:=by simp
     (refine zzU (zn hgx (zn h3 (zn h4 (zn hz hwk)))) ?_;try with_reducible exact True.intro)
     repeat' ((with_reducible refine And.intro ?_ ?_);focus (first | omega | rfl | decide))
     try (refine zzU (zn hgx (zn h3 (zn h4 (zn hz hwk)))) ?_;try with_reducible exact True.intro)
     refine zaz.next hlt ⟨rfl,rfl,?_⟩
     rw [zkg,hok,hval,Bool.true_and,decide_eq_true_eq];simp only [zfB];simp at h3 h4;omega
    | succ m =>
     have hz:decide (((m+1:Nat):Int) > 0)=true:=decide_eq_true (by omega)
     have hwm:IntKind.i64.wrap (((m+1:Nat):Int) - 1)=(m:Int):=by rw [zas (by omega) (by omega)];omega
     have hy:cs[m]? = some cs[m]:=by simp [show m<cs.length by omega]
     have hgy:=zR (f:=zaE) hy
     have hp:zfB cs (m+1)=cs[m].src:=by simp only [zfB,hy]
     have hp0:=srcsOk_pos1 (show m<cs.length by omega) hok
     obtain ⟨d,hde⟩:∃ d,cs[m]=d:=⟨_,rfl⟩
     rw [hde] at hgy hp
     cases h5:decide (c.src<=d.src)
     ·(refine zzU (zn hgx (zn hgy (zn h3 (zn h4 (zn h5 (zn hz (zn hwk hwm))))))) ?_;try with_reducible exact True.intro)
      repeat' ((with_reducible refine And.intro ?_ ?_);focus (first | omega | rfl | decide))
      try (refine zzU (zn hgx (zn hgy (zn h3 (zn h4 (zn h5 (zn hz (zn hwk hwm))))))) ?_;try with_reducible exact True.intro)
      refine zaz.next hlt ⟨rfl,rfl,?_⟩
      rw [zkg,hok,hval,hp];simp at h3 h4 h5 ⊢;omega
     ·(refine zzU (zn hgx (zn hgy (zn h3 (zn h4 (zn h5 (zn hz (zn hwk hwm))))))) ?_;try with_reducible exact True.intro)
      repeat' ((with_reducible refine And.intro ?_ ?_);focus (first | omega | rfl | decide))
      try (refine zzU (zn hgx (zn hgy (zn h3 (zn h4 (zn h5 (zn hz (zn hwk hwm))))))) ?_;try with_reducible exact True.intro)
      refine zw hl ?_
      exact bad 1 (by omega) (hbad (by rw [hval,hp];simp at h5 ⊢;omega))
 have hd:decide ((k:Int)<(cs.length:Int))=false:=by simp;omega
 have hn:k=cs.length:=by omega
 subst hn
 (refine gq14 hd ?_;try with_reducible exact True.intro)
 refine c_rBig ?_
 cases h5:decide ((cs.length:Int)<zaW 2 f)
 rotate_left
 ·(refine gq14 h5 ?_;try with_reducible exact True.intro)
  refine zw hl ?_
  exact bad 160 (by omega) (by rw [zlY,if_neg h0',if_neg h12,if_neg (by rw [hok];simp),if_pos (by simpa using h5)])
 have h0':zlY f view cs=0:=by rw [zlY,if_neg h0',if_neg h12,if_neg (by rw [hok];simp),if_neg (by simpa using h5)]
 obtain ⟨hne,hcf⟩:=mayF_ne h0'
 have hlen:0<cs.length:=List.length_pos_iff.2 hne
 have hx0:cs[0]? = some cs[0]:=by simp [hlen]
 have hgx0:=zR (f:=zaE) hx0
 have hb0:zjW cs 0=cs[0].cert:=by
  cases cs with
  | nil=>exact absurd rfl hne
  | cons c cs=>rfl
 (refine gq23 (zn h5 hgx0) ?_;try with_reducible exact True.intro)
 refine ⟨by omega,?_⟩
 try (refine gq23 (zn h5 hgx0) ?_;try with_reducible exact True.intro)
 clear hd
 refine zm cs.length (fun k vs s=>vs = [.d (.int .i64 (zco (zbW cs k))),.d (.int .i64 k)]/\s = σ++[.box [.d (.int .i64 0),.d (.int .i64 0),.exact []],.box [.d (.int .i64 (zjW cs k).seq),.d (.int .i64 (zjW cs k).dig),.d (.slice (zap (zjW cs k).signs))]]) ⟨rfl,by rw [hb0]⟩ ?_
 rintro k vs s hk ⟨rfl,rfl⟩
 by_cases hlt:k<cs.length
 ·have hd:decide ((k:Int)<(cs.length:Int))=true:=by simp;omega
  have hx:cs[k]? = some cs[k]:=by simp [hlt]
  have hgx:=zR (f:=zaE) hx
  obtain ⟨_,ha,_⟩:=hs2 _ (List.getElem_mem hlt)
  obtain ⟨c,hce⟩:∃ c,cs[k]=c:=⟨_,rfl⟩
  rw [hce] at hx hgx ha
  have hps:=zoO hx
  have hbs:=ztW hx
  have hwk:IntKind.i64.wrap ((k:Int)+1)=((k+1:Nat):Int):=by rw [zas (by omega) (by omega)];rfl
  obtain ⟨b,hbe⟩:∃ b,zjW cs (k+1)=b:=⟨_,rfl⟩
  cases h2:decide (c.cert.seq > (zjW cs k).seq)
  all_goals
   first
    | (have hcb:zjW cs k=b:=by rw [← hbe,hbs,znt,if_neg (by simpa using h2)])
    | (have hcb:c.cert=b:=by rw [← hbe,hbs,znt,if_pos (by simpa using h2)])
   (refine zzU (zn hgx (zn h2 hd)) ?_;try with_reducible exact True.intro)
   repeat' ((with_reducible refine And.intro ?_ ?_);focus (first | omega | rfl | decide))
   try (refine zzU (zn hgx (zn h2 hd)) ?_;try with_reducible exact True.intro)
   rw [hcb]
   refine zm c.above.length (fun j vs s=>vs = [.d (.int .i64 (zco (zbW cs k++c.above.take j))),.d (.int .i64 j)]/\s = σ++[.box [.d (.int .i64 0),.d (.int .i64 0),.exact []],.box [.d (.int .i64 b.seq),.d (.int .i64 b.dig),.d (.slice (zap b.signs))]]) ⟨by simp,rfl⟩ ?_
   rintro j vs s hj ⟨rfl,rfl⟩
   by_cases hjt:j<c.above.length
   ·have hdj:decide ((j:Int)<(c.above.length:Int))=true:=by simp;omega
    have hy:c.above[j]? = some c.above[j]:=by simp [hjt]
    have hgy:=zR (f:=zew) hy
    obtain ⟨p,hpe⟩:∃ p,c.above[j]=p:=⟨_,rfl⟩
    rw [hpe] at hy hgy
    have htk:c.above.take (j+1)=c.above.take j++[p]:=by rw [List.take_add_one,hy];rfl
    have hw:IntKind.i64.wrap ((j:Int)+1)=((j+1:Nat):Int):=by rw [zas (by omega) (by omega)];rfl
    have hg:(if p.seq > zco (zbW cs k++c.above.take j) then p.seq else zco (zbW cs k++c.above.take j))=zco (zbW cs k++c.above.take (j+1)):=by rw [htk, ← List.append_assoc,zvT];rfl
    (refine gq28 (zn hgx (zn hgy (zn hdj (zn hg hw)))) ?_;try with_reducible exact True.intro)
    repeat' ((with_reducible refine And.intro ?_ ?_);focus (first | omega | rfl | decide))
    try (refine gq28 (zn hgx (zn hgy (zn hdj (zn hg hw)))) ?_;try with_reducible exact True.intro)
    exact zaz.next hjt ⟨rfl,rfl⟩
   ·have hdj:decide ((j:Int)<(c.above.length:Int))=false:=by simp;omega
    have hn:j=c.above.length:=by omega
    subst hn
    rw [List.take_length, ← hps]
    (refine zzU (zn hgx (zn hdj hwk)) ?_;try with_reducible exact True.intro)
    repeat' ((with_reducible refine And.intro ?_ ?_);focus (first | omega | rfl | decide))
    try (refine zzU (zn hgx (zn hdj hwk)) ?_;try with_reducible exact True.intro)
    exact zaz.next hlt ⟨rfl,by rw [hbe]⟩
 ·have hd:decide ((k:Int)<(cs.length:Int))=false:=by simp;omega
  have hn:k=cs.length:=by omega
  subst hn
  obtain ⟨L,hLe⟩:∃ L,zbW cs cs.length=L:=⟨_,rfl⟩
  obtain ⟨b,hbe⟩:∃ b,zjW cs cs.length=b:=⟨_,rfl⟩
  have hg1:=great_le hR cs.length
  have hg0:=greatF_nn L
  have hbR:=zza hR (Nat.le_refl _) hne
  have hsel:zkh f view cs=if b.seq<0 ∨ zco L<=b.seq then (b,[], 0) else (b,zin view L b.seq (zsh (zco L) b.seq), 0):=by
   rw [zkh,if_neg (by rw [h0'];simp)];simp only [hLe,hbe]
  rw [hLe] at hg1 ⊢
  rw [hbe] at hbR ⊢
  cases h6:decide (b.seq<0)
  rotate_left
  ·(refine gq14 (zn h6 hd) ?_;try with_reducible exact True.intro)
   repeat' ((with_reducible refine And.intro ?_ ?_);focus (first | omega | rfl | decide))
   try (refine gq14 (zn h6 hd) ?_;try with_reducible exact True.intro)
   refine zw hl ?_
   exact fin (b,[], 0) (by rw [hsel,if_pos (.inl (by simpa using h6))])
  cases h7:decide (zco L<=b.seq)
  rotate_left
  ·(refine gq14 (zn h6 (zn h7 hd)) ?_;try with_reducible exact True.intro)
   repeat' ((with_reducible refine And.intro ?_ ?_);focus (first | omega | rfl | decide))
   try (refine gq14 (zn h6 (zn h7 hd)) ?_;try with_reducible exact True.intro)
   refine zw hl ?_
   exact fin (b,[], 0) (by rw [hsel,if_pos (.inr (by simpa using h7))])
  have h6':0<=b.seq:=by simpa using h6
  have h7':b.seq<zco L:=by simpa using h7
  have hw1:IntKind.i64.wrap (zco L - b.seq)=zco L - b.seq:=zas (by omega) (by omega)
  obtain ⟨N,hN⟩:∃ N,zsh (zco L) b.seq=N:=⟨_,rfl⟩
  have hN8:=zvM (zco L) b.seq
  rw [hN] at hN8
  have hNg:(N:Int)<=zco L - b.seq:=by rw [← hN];unfold zsh;omega
  have hN0:0<N:=by rw [← hN];unfold zsh;omega
  (refine gq14 (zn h6 (zn h7 hd)) ?_;try with_reducible exact True.intro)
  repeat' ((with_reducible refine And.intro ?_ ?_);focus (first | omega | rfl | decide))
  try (refine gq14 (zn h6 (zn h7 hd)) ?_;try with_reducible exact True.intro)
  clear hd
  refine zm N (fun n vs s=>vs = [if n=0 then .exact [] else .own (σ.length+2) (zaw (zin view L b.seq n)),.d (.int .i64 n)]/\s = σ++([.box [.d (.int .i64 0),.d (.int .i64 0),.exact []],.box [.d (.int .i64 b.seq),.d (.int .i64 b.dig),.d (.slice (zap b.signs))]]++if n=0 then [] else [.tok 5 (zaw (zin view L b.seq n)).length])) ⟨rfl,by simp⟩ ?_
  rintro n vs s hn ⟨rfl,rfl⟩
  have hel:(zin view L b.seq n).length=n:=by simp [zin]
  by_cases hnN:n=N
  ·have hn0:¬ n=0:=by omega
   simp only [if_neg hn0]
   cases hd:decide ((n:Int)<8)
   ·(refine gq1 (zn hd hw1) ?_;try with_reducible exact True.intro)
    repeat' ((with_reducible refine And.intro ?_ ?_);focus (first | omega | rfl | decide))
    try (refine gq1 (zn hd hw1) ?_;try with_reducible exact True.intro)
    refine zw hl ?_
    exact fin (b,zin view L b.seq n, 0) (by rw [hsel,if_neg (by omega),hN,hnN])
   ·have hd2:decide ((n:Int)<zco L - b.seq)=false:=by
     have:=manyF_ge h7' (hnN.trans hN.symm)
     simp at hd ⊢;omega
    (refine gq1 (zn hd (zn hd2 hw1)) ?_;try with_reducible exact True.intro)
    repeat' ((with_reducible refine And.intro ?_ ?_);focus (first | omega | rfl | decide))
    try (refine gq1 (zn hd (zn hd2 hw1)) ?_;try with_reducible exact True.intro)
    refine zw hl ?_
    exact fin (b,zin view L b.seq n, 0) (by rw [hsel,if_neg (by omega),hN,hnN])
  ·have hd:decide ((n:Int)<8)=true:=by simp;omega
   have hd2:decide ((n:Int)<zco L - b.seq)=true:=by simp;omega
   have hw2:IntKind.i64.wrap (b.seq+(n:Int))=b.seq+n:=zas (by omega) (by omega)
   have hw3:IntKind.i64.wrap (b.seq+(n:Int)+1)=b.seq+n+1:=zas (by omega) (by omega)
   have hw4:IntKind.i64.wrap ((n:Int)+1)=((n+1:Nat):Int):=by rw [zas (by omega) (by omega)];rfl
   have hsn:zaw (zin view L b.seq n)++[zed (zxD view L b.seq n)]=zaw (zin view L b.seq (n+1)):=by rw [← zys];simp
   have hel1:(zin view L b.seq (n+1)).length=n+1:=by simp [zin]
   simp only [zxD,zed] at hsn
   by_cases hn0:n=0
   ·subst hn0
    simp only [if_true,List.append_nil]
    (refine gq1 (zn hd (zn hd2 (zn hw1 (zn hw2 (zn hw3 hw4))))) ?_;try with_reducible exact True.intro)
    refine c_rLatest hsC ?_
    rw [hLe]
    (refine gq1 (zn hd (zn hd2 (zn hw1 (zn hw2 (zn hw3 hw4))))) ?_;try with_reducible exact True.intro)
    repeat' ((with_reducible refine And.intro ?_ ?_);focus (first | omega | rfl | decide | simp))
    try (refine gq1 (zn hd (zn hd2 (zn hw1 (zn hw2 (zn hw3 hw4))))) ?_;try with_reducible exact True.intro)
    refine zaz.next (by omega) ⟨?_,?_⟩
    ·rw [if_neg (by omega), ← hsn];rfl
    ·rw [if_neg (by omega),List.length_map,hel1]
   ·simp only [if_neg hn0]
    (refine gq1 (zn hd (zn hd2 (zn hw1 (zn hw2 (zn hw3 hw4))))) ?_;try with_reducible exact True.intro)
    refine c_rLatest hsC ?_
    rw [hLe]
    (refine gq1 (zn hd (zn hd2 (zn hw1 (zn hw2 (zn hw3 hw4))))) ?_;try with_reducible exact True.intro)
    repeat' ((with_reducible refine And.intro ?_ ?_);focus (first | omega | (simp only [List.length_map,hel];omega) | rfl | decide | simp))
    try (refine gq1 (zn hd (zn hd2 (zn hw1 (zn hw2 (zn hw3 hw4))))) ?_;try with_reducible exact True.intro)
    refine zaz.next (by omega) ⟨?_,?_⟩
    ·rw [if_neg (by omega), ← hsn];try rfl
    ·rw [if_neg (by omega)];simp only [List.length_map,hel,hel1,List.cons_append]
end Go.Proofs.YtpgahkdjkanblaaGreat

/- What holds little has short lists. No program in sight. -/
namespace Go.AW
theorem zir {α:Type} {f : α->List D} (h:∀ a, 1<=zff (f a)):∀ (l:List α),l.length<=zfA (l.map f)
 | []=>Nat.zero_le _
 | a :: l=>by have:=h a;have:=zir h l;simp only [List.map_cons,List.length_cons,zfA];omega
theorem zgV {α:Type} {f : α->List D} {a : α}:∀ {l:List α},a ∈ l->zff (f a)<=zfA (l.map f)
 | b :: l,h=>by
  simp only [List.map_cons,zfA]
  rcases List.mem_cons.1 h with rfl | h
  ·omega
  ·have:=zgV (f:=f) h;omega
theorem zqT (rs:List (List UInt8)):rs.length<=zfA (zgp rs)/\∀ r ∈ rs,r.length<=zfA (zgp rs):=by
 refine ⟨zir (f:=fun r => [D.slice (bcs r)]) (fun r=>by simp only [zff,ziY];omega) rs,fun r hr => ?_⟩
 have:=zgV (f:=fun r => [D.slice (bcs r)]) hr
 simp only [zff,ziY,bulk_bcs] at this
 unfold zgp
 omega
def leB (n:Nat) (b:List zJ):Prop:=b.length<=n/\∀ x ∈ b,x.op.recs.length<=n/\∀ r ∈ x.op.recs,r.length<=n
theorem leB_bulk {b:List zJ} {n:Nat} (h:zfA (zbj b)<=n):leB n b:=by
 unfold zbj at h
 refine ⟨Nat.le_trans (zir (f:=zbc) (fun a=>by simp only [zbc,zff,ziY];omega) b) h,fun x hx => ?_⟩
 have:=zgV (f:=zbc) hx
 simp only [zbc,zff,ziY] at this
 have h2:=zqT x.op.recs
 refine ⟨by omega,fun r hr => ?_⟩
 have:=h2.2 r hr
 omega
def leP (n:Nat) (p:zcb):Prop:=p.signs.length<=n/\leB n p.batch
theorem ztk (l:List zK):l.length<=zfA (zap l):=zir (f:=zgf) (fun a=>by simp only [zgf,zff,ziY];omega) l
theorem leP_bulk {p:zcb} {n:Nat} (h:zff (zew p)<=n):leP n p:=by
 simp only [zew,zff,ziY] at h
 have:=ztk p.signs
 exact ⟨by omega,leB_bulk (by omega)⟩
theorem leC_bulk {cs:List zU} {n:Nat} (h:zfA (zan cs)<=n):cs.length<=n/\∀ c ∈ cs,c.cert.signs.length<=n/\c.above.length<=n/\∀ p ∈ c.above,leP n p:=by
 unfold zan at h
 refine ⟨Nat.le_trans (zir (f:=zaE) (fun a=>by simp only [zaE,zff,ziY];omega) cs) h,fun c hc => ?_⟩
 have:=zgV (f:=zaE) hc
 simp only [zaE,zff,ziY] at this
 have h1:=ztk c.cert.signs
 have h2:=zir (f:=zew) (fun a=>by simp only [zew,zff,ziY];omega) c.above
 refine ⟨by omega,by unfold zeV at this;omega,fun p hp=>leP_bulk ?_⟩
 have:=zgV (f:=zew) hp
 unfold zeV at *
 omega
end Go.AW

/- The laws NewviewSelects and NewviewGaps, from the contracts. -/
set_option maxRecDepth 100000
namespace Go.Proofs.YtpgahkdjkanblaaGreat
open Go.AW
def one16:List zJ := [⟨1, 1,noOp, 14, 1⟩]
def l16:List zU := [⟨0, 0,zoQ,[⟨0, 1, 0, 0, 0,[],one16⟩,⟨0, 3, 0, 0, 0,[],[]⟩], 0, 0⟩,⟨0, 1,zoQ,[], 0, 0⟩,⟨0, 3,zoQ,[⟨1, 3, 0, 0, 0,[],one16⟩], 0, 0⟩]
theorem sel16:zkh 1 2 l16=(zoQ,[⟨2, 1,one16, 0, 0⟩,⟨2, 2,[], 0, 0⟩,⟨2, 3,one16, 0, 0⟩], 0):=by decide +kernel
theorem small16:zxR l16:=by simp [zxR,l16,ziK,one16,zoQ,noOp]
theorem range16:∀ c ∈ l16,zio c:=by simp [l16,zio,prepR,zqG,zoQ]
theorem gq29 {P Q:Prop} (h:Q) (e:P=Q:=by simp -dsimp only [↓zeN, ↓zav, ↓zbq, ↓zeO, ↓zeH, ↓zeF, ↓zeI, ↓zeG, ↓zbv, ↓zbr, ↓zbw, ↓zbs, ↓zeJ, ↓zbp, ↓zbx, ↓zbt, ↓zby, ↓zbu, ↓zeE, ↓zeM, ↓zbo, ↓zbz, ↓zeC, ↓zeB, ↓zeD,iN,bT,bF,eN, ↓zcB, ↓unC, ↓zV, ↓zM, ↓zN, ↓zQ, ↓zY, ↓zal, ↓zdb, ↓zak, ↓zaH, ↓zT, ↓zf, ↓zj, ↓zbZ, ↓zb, ↓zag, ↓zE, ↓zaI, ↓zaO, ↓zc, ↓zy, ↓zl, ↓zG, ↓zaa, ↓zdm, ↓zdw, ↓zaj, ↓zar, ↓zaK, ↓zaS, ↓zaY, ↓zq, ↓zai, ↓zO, ↓zu, ↓zX,zdx,zbg,zbb,unA,zdd,bnd,zdY,zaf,zP,zdR,dm,dm1,zA,zae,zeh,zeg,zI,Q0,Q1,Q2,Q3,Q4,Q5,zZ,zC,zt,zL,zF,Q6,Q7,Q8,Q9,Q10,Q11,Q12,Q13,Q14,Nat.reduceAdd,Q15,Int.reduceToNat,Q16,Q17,Q18,Q19,Q20,reduceIte,Q21,Q22,zH,rep,zac,zel,toD,zah,Q23,Q24,Q25,Q26,Q27,Q28,Nat.reduceLeDiff,Q29,Nat.reduceSub,Q30,Q31,Q32,sc,Q33,Q34,Q35,beq_self_eq_true,Bool.not_false,Bool.not_true,bne_self_eq_false];rfl):P:=e.mpr h
theorem gq30 {A P Q:Prop} (a:A) (h:Q) (e:A->P=Q:=by intro a;simp -dsimp only [↓zeN, ↓zav, ↓zbq, ↓zeO, ↓zeH, ↓zeF, ↓zeI, ↓zeG, ↓zbv, ↓zbr, ↓zbw, ↓zbs, ↓zeJ, ↓zbp, ↓zbx, ↓zbt, ↓zby, ↓zbu, ↓zeE, ↓zeM, ↓zbo, ↓zbz, ↓zeC, ↓zeB, ↓zeD,iN,bT,bF,eN, ↓zcB, ↓unC, ↓zV, ↓zM, ↓zN, ↓zQ, ↓zY, ↓zal, ↓zdb, ↓zak, ↓zaH, ↓zT, ↓zf, ↓zj, ↓zbZ, ↓zb, ↓zag, ↓zE, ↓zaI, ↓zaO, ↓zc, ↓zy, ↓zl, ↓zG, ↓zaa, ↓zdm, ↓zdw, ↓zaj, ↓zar, ↓zaK, ↓zaS, ↓zaY, ↓zq, ↓zai, ↓zO, ↓zu, ↓zX,zdx,zbg,zbb,unA,zdd,bnd,zdY,zaf,zP,zdR,dm,dm1,zA,zae,zeh,zeg,zI,Q0,Q1,Q2,Q3,Q4,Q5,zZ,zC,zt,zL,zF,Q6,Q7,Q8,Q9,Q10,Q11,Q12,Q13,Q14,Nat.reduceAdd,Q15,Int.reduceToNat,Q16,Q17,Q18,Q19,Q20,reduceIte,Q21,Q22,zH,rep,zac,zel,toD,zah,Q23,Q24,Q25,Q26,Q27,Q28,Nat.reduceLeDiff,Q29,Nat.reduceSub,Q30,Q31,Q32,sc,Q33,Q34,Q35,beq_self_eq_true,Bool.not_false,Bool.not_true,bne_self_eq_false,a];rfl):P:=(e a).mpr h
theorem zwM {σ:List zh} {K:KT} (hK:K (.d (.bool true)) σ):zo Tryz.prog znc [] σ K:=by
 refine zd zwu.is rfl fun hl _=>zwu.goes ?_
 simp only [zxm,iN,bT,bF,eN]
 (refine gq29 ?_;try with_reducible exact True.intro)
 have key:∃ B1:List (List D),B1.length=1/\∀ (σ:List zh) (K:KT),K (.tup [.agg [.d (.int .i64 0),.d (.int .i64 0),.d (.slice [])],.d (.slice [[.int .i64 2,.int .i64 1,.slice B1,.int .i64 0,.int .i64 0],[.int .i64 2,.int .i64 2,.slice [],.int .i64 0,.int .i64 0],[.int .i64 2,.int .i64 3,.slice B1,.int .i64 0,.int .i64 0]]),.d (.int .i64 0)]) σ->zo Tryz.prog zfx [.d (.int .i64 1),.d (.int .i64 2),.d (.slice (zan l16))] σ K:=by
  refine ⟨zbj one16,rfl,fun σ K hK => ?_⟩
  refine zyT small16 range16 ?_
  rw [sel16]
  exact hK
 obtain ⟨B1,hB1,key⟩:=key
 refine key _ _ ?_
 clear key
 have hB2:((B1.length:Int) == 1)=true:=by rw [hB1];rfl
 have e3:(((3:Nat):Int) == 3)=true:=rfl
 have e0:(((0:Nat):Int) == 0)=true:=rfl
 (refine gq30 (zn e3 (zn e0 hB2)) ?_;try with_reducible exact True.intro)
 refine ⟨by omega,by omega,by omega,by omega,by omega,?_⟩
 refine zw hl ?_
 exact hK
end Go.Proofs.YtpgahkdjkanblaaGreat
