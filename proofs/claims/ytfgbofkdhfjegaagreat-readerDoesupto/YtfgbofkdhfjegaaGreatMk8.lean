/- Contracts: the document's proof of a record. -/
import Derived.Test.YtfgbofkdhfjegaaGreatPf1
import Derived.Test.YtfgbofkdhfjegaaGreatAwFrz
set_option linter.all false
set_option maxRecDepth 100000
namespace Go.Proofs.YtfgbofkdhfjegaaGreat
open Go.AW
def findR:Option (Nat × Nat)->AV
 | none => .tup [.d (.int .i64 0),.d (.int .i64 0),.d (.bool false)]
 | some (i,k) => .tup [.d (.int .i64 i),.d (.int .i64 k),.d (.bool true)]
theorem c_r23find {σ:List zh} {l:List zbL} {tp:List UInt8} {o:Int} (hl0:l.length<=1073741824) (hb:∀ b∈l,zuk b) {K:KT}
  (hK:K (findR (zpL tp o l 0)) σ):zp Tryz.prog zrN [.d (.slice (zcd l)),.d (.str tp),.d (.int .i64 o)] σ K:=by
 refine acE3 e_r23_find fun hl => ?_
 have fin:∀ z,zpL tp o l 0=z->K (findR z) σ:=fun z h=>h▸hK
 clear hK
 have hlen:(zcd l).length=l.length:=List.length_map ..
 simp only [zxH,iN,bT,bF,eN]
 refine gq2 hlen ?_
 refine zo l.length (fun k vs s=>vs = [.d (.int .i64 k)]/\s = σ/\zpL tp o l 0=zpL tp o (l.drop k) k) ⟨rfl,rfl,by simp⟩ ?_
 rintro k vs s hk ⟨rfl,hs,hpf⟩
 rw [hs]
 by_cases hlt:k<l.length
 ·have hd:decide ((k:Int)<(l.length:Int))=true:=by simp;omega
  have hx:l[k]? = some l[k]:=by simp [hlt]
  have hbx:=hb _ (List.getElem_mem hlt)
  have hgx:=zK (f:=ziE) hx
  obtain ⟨b,hbe⟩:∃ b,l[k]=b:=⟨_,rfl⟩
  rw [hbe] at hx hgx hbx
  rw [findB_step hx] at hpf
  have hplen:(zaH b.placed).length=b.placed.length:=List.length_map ..
  have hn:=hbx.len
  refine gq2 (zg hd (zg hgx hlen)) ?_
  refine zo b.placed.length (fun j vs s=>vs = [.d (.int .i64 j)]/\s = σ/\plAt tp o b.placed 0=plAt tp o (b.placed.drop j) j) ⟨rfl,rfl,by simp⟩ ?_
  rintro j vs s hj ⟨rfl,hs,hpj⟩
  rw [hs]
  by_cases hlj:j<b.placed.length
  ·have hdj:decide ((j:Int)<(b.placed.length:Int))=true:=by simp;omega
   have hy:b.placed[j]? = some b.placed[j]:=by simp [hlj]
   have hgy:=zK (f:=zdN) hy
   obtain ⟨p,hpe⟩:∃ p,b.placed[j]=p:=⟨_,rfl⟩
   rw [hpe] at hy hgy
   rw [plAt_step hy] at hpj
   have next:isP tp o p=false->zas b.placed.length (fun j vs s=>vs = [.d (.int .i64 j)]/\s = σ/\plAt tp o b.placed 0=plAt tp o (b.placed.drop j) j) j [.d (.int .i64 ((j:Int)+1))] σ:=fun h=>by
    rw [if_neg (by simp [h])] at hpj
    exact zas.next hlj ⟨rfl,rfl,hpj⟩
   cases h1:(p.topic==tp)
   ·refine gq2 (zg hdj (zg hgx (zg hgy (zg hplen (zg h1 (wkc j (by omega))))))) ?_
    exact next (by rw [isP,h1];rfl)
   ·cases h2:(p.offset==o)
    ·refine gq2 (zg hdj (zg hgx (zg hgy (zg hplen (zg h1 (zg h2 (wkc j (by omega)))))))) ?_
     exact next (by rw [isP,h2,Bool.and_false])
    ·rw [if_pos (by rw [isP,h1,h2];rfl)] at hpj
     simp only [hpj] at hpf
     refine gq2 (zg hdj (zg hgx (zg hgy (zg hplen (zg h1 h2))))) ?_
     refine zI hl ?_
     exact fin _ hpf
  ·have hdj:decide ((j:Int)<(b.placed.length:Int))=false:=by simp;omega
   rw [List.drop_eq_nil_of_le (by omega)] at hpj
   simp only [hpj,plAt] at hpf
   refine gq2 (zg hdj (zg hgx (zg hplen (wkc k (by omega))))) ?_
   exact zas.next hlt ⟨rfl,rfl,hpf⟩
 ·have hd:decide ((k:Int)<(l.length:Int))=false:=by simp;omega
  rw [List.drop_eq_nil_of_le (by omega)] at hpf
  refine gq2 hd ?_
  refine zI hl ?_
  exact fin none hpf
abbrev pfBox (tp:List UInt8) (o:Int) (rec:List UInt8) (h:AV) (j n:Int) (c:zeX):zh := .box [.d (.str tp),.d (.int .i64 o),.d (.slice (bcs rec)),h,.d (.int .i64 j),.d (.int .i64 n),.exact [],.d (.int .i64 c.seq),.d (.int .i64 c.dig),.d (.slice (zaI c.signs))]
abbrev zvy (b:zbL):zh := .box [.d (.int .i64 b.header.seq),.d (.int .i64 b.header.prev),.d (.int .i64 b.header.batch),.d (.int .i64 b.header.root),.d (.int .i64 b.header.state),.d (.slice (zda b.batch)),.d (.slice (zaH b.placed))]
theorem gq43 {A P Q:Prop} (a:A) (h:Q) (e:A->Hd Q->P:=by intro a h;(repeat' first|simp -dsimp only [↓zeU, ↓zaA, ↓zbp, ↓zeV, ↓zeO, ↓zeM, ↓zeP, ↓zeN, ↓zbu, ↓zbq, ↓zbv, ↓zbr, ↓zeQ, ↓zbo, ↓zbw, ↓zbs, ↓zbx, ↓zbt, ↓zeL, ↓zeT, ↓zbn, ↓zby, ↓zeG, ↓zeF, ↓zeK,iN,bT,bF,eN, ↓zco, ↓unC, ↓zX, ↓zM, ↓zN, ↓zQ, ↓zZ, ↓zai, ↓zcv, ↓zaf, ↓zaS, ↓zV, ↓zl, ↓zm, ↓zbg, ↓ze, ↓zae, ↓zC, ↓zaM, ↓zaT, ↓zd, ↓zA, ↓zr, ↓zD, ↓zao, ↓zcY, ↓zdn, ↓zap, ↓zaw, ↓zaN, ↓zaZ, ↓zbk, ↓zw, ↓zaj, ↓zO, ↓zE, ↓zY,zdr,zbm,zbl,unA,zdo,bnd,zdL,zab,zS,zdI,dm,dm1,zG,zak,zdZ,zdY,zH,Q0,Q1,Q2,Q3,Q4,Q5,zW,zx,zy,zT,zL,Q6,Q7,Q8,Q9,Q10,Q11,Q12,Q13,Q14,Nat.reduceAdd,Q15,Int.reduceToNat,Q16,Q17,Q18,Q19,Q20,reduceIte,Q21,Q22,zF,rep,zaa,zeC,toD,zag,Q23,Q24,Q25,Q26,Q27,Q28,Nat.reduceLeDiff,Q29,Nat.reduceSub,Q30,Q31,Q32,sc,Q33,Q34,Q35,Q36,Q37,Q26,Q38,Q39,zis,zio,zil,zit,zcN,ziq,zim,zir,zin,zcM,zcO,ziu,ziv,Bool.not_true,Bool.not_false,List.length_map,List.length_set,a]|with_reducible refine zix ?_|fail);exact h.go):P:=e a ⟨h⟩
theorem c_r23Make {σ:List zh} {id:Nat} {L:List (List UInt8)} {l:List zbL} {c:zeX} {tp:List UInt8} {o:Int} (hT : σ[id]? = some (rtO L)) (hL:L.length<=1048576) (hl0:l.length<=1073741824) (hb:∀ b∈l,zuk b) (hc:c.signs.length<=1073741824) {K:KT}
  (hK:K (.tup [zfB (ziZ L l c tp o).2.1,.d (.int .i64 (ziZ L l c tp o).1)]) (σ.set id (rtO (ziZ L l c tp o).2.2))):zp Tryz.prog zkS [.box id 0,.d (.slice (zcd l)),ziw c,.d (.str tp),.d (.int .i64 o)] σ K:=by
 refine acE5 e_r23_Make fun hl => ?_
 have fin:∀ z,ziZ L l c tp o=z->K (.tup [zfB z.2.1,.d (.int .i64 z.1)]) (σ.set id (rtO z.2.2)):=fun z h=>h▸hK
 clear hK
 have hself:=zbF hT
 have hlen:(zcd l).length=l.length:=List.length_map ..
 simp only [zxI,iN,bT,bF,eN,zl4,zl5]
 refine gq1 ?_
 refine c_r23find hl0 hb ?_
 cases hf:zpL tp o l 0 with
 | none=>
  simp only [findR]
  refine gq1 ?_
  refine zI hl ?_
  have:=fin (4,zwe,L) (by rw [ziZ,hf])
  rw [hself] at this
  exact this
 | some ij=>
  obtain ⟨i,j⟩:=ij
  obtain ⟨n0,b,hi0,hx,hj⟩:=zyC hf
  have hi0:i=n0:=by omega
  subst hi0
  have hil:=(List.getElem?_eq_some_iff.1 hx).1
  have hbx:=hb b (List.mem_of_getElem? hx)
  have hgx:=zK (f:=ziE) hx
  have hp0:b.placed[j]? = some b.placed[j]:=by simp [hj]
  have hps:=hbx.each _ (List.getElem_mem hj)
  obtain ⟨pl,hpl⟩:∃ x,b.placed[j]=x:=⟨_,rfl⟩
  rw [hpl] at hp0 hps
  have hgp:=zK (f:=zdN) hp0
  have hplen:(zaH b.placed).length=b.placed.length:=List.length_map ..
  have hn:=hbx.len
  have hmk:ziZ L l c tp o=match runF c.seq none (l.drop i) with
   | none=>(7,zwe,L)
   | some hs=>(0,⟨tp,o,pl.rec_,hs,j,b.placed.length,(zbA b.placed.length L j (b.placed.map zaL)).1,c⟩,(zbA b.placed.length L j (b.placed.map zaL)).2):=by
   rw [ziZ,hf]
   have e1:l.getD i ⟨⟨0, 0, 0, 0, 0⟩,[],[]⟩=b:=by rw [List.getD_eq_getElem?_getD,hx];rfl
   have e2:b.placed.getD j ⟨[], 0,[]⟩=pl:=by rw [List.getD_eq_getElem?_getD,hp0];rfl
   simp only [e1,e2]
   cases runF c.seq none (l.drop i)<;>rfl
  simp only [findR]
  refine gq2 (zg hgx (zg hgp (zg hplen hlen))) ?_
  refine zcD (l.length-i) (fun k vs s => ∃ (acc:List zdl) (T:List zh),vs = [.d (.int .i64 ((i+k:Nat):Int))]/\s = σ++([zyR c,nilPf,zvy b,pfBox tp o pl.rec_ (.own (σ.length+4) (zgR acc)) j b.placed.length c,.tok 5 acc.length]++T)/\acc.length=k/\runF c.seq none (l.drop i)=(runF c.seq (znP (l.drop i) k) ((l.drop i).drop k)).map (acc ++ ·))
   (.tokB (σ.length+3) 3 _ [] 5 (by rw [zx];rfl) rfl (by simp) (by
    rw [zT,zW]
    simp only [List.set_cons_succ,List.set_cons_zero,List.length_cons,List.length_nil,List.append_assoc,List.cons_append,List.nil_append]
    exact .refl _ _)) ⟨[],[],rfl,rfl,rfl,by simp [znP]⟩ ?_
  rintro k vs s hk ⟨acc,T,rfl,rfl,hak,hpf⟩
  have hal:(zgR acc).length=acc.length:=List.length_map ..
  obtain ⟨n,hin⟩:∃ n,i+k=n:=⟨_,rfl⟩
  rw [hin]
  by_cases hlt:n<l.length
  ·have hF:((n:Int)==(l.length:Int))=false:=by simp;omega
   have hxn:l[n]? = some l[n]:=by simp [hlt]
   have hxd:(l.drop i)[k]? = some l[n]:=by rw [List.getElem?_drop,hin];exact hxn
   have hbn:=hb _ (List.getElem_mem hlt)
   have hgn:=zK (f:=ziE) hxn
   obtain ⟨x,hxe⟩:∃ x,l[n]=x:=⟨_,rfl⟩
   rw [hxe] at hxn hxd hgn hbn
   rw [runF_step hxd] at hpf
   obtain ⟨acc2,ha2⟩:∃ a,acc++[x.header]=a:=⟨_,rfl⟩
   have g1:acc.length+1=acc2.length:=by rw [← ha2];simp
   have g2:zgR acc++[[.int .i64 x.header.seq,.int .i64 x.header.prev,.int .i64 x.header.batch,.int .i64 x.header.root,.int .i64 x.header.state]]=zgR acc2:=by rw [← ha2];simp
   have hkey:(decide ((n:Int) > (i:Int))=false/\stepS (znP (l.drop i) k) x.header.seq=true)∨(∃ y:zbL,decide ((n:Int) > (i:Int))=true/\IntKind.i64.wrap ((n:Int)-1)=((n-1:Nat):Int)/\(l.map ziE)[n-1]? = some (ziE y)/\(IntKind.i64.wrap (y.header.seq+1) != x.header.seq) = !stepS (znP (l.drop i) k) x.header.seq):=by
    cases k with
    | zero=>exact .inl ⟨decide_eq_false (by omega),rfl⟩
    | succ k'=>
     have hy:l[n-1]? = some l[n-1]:=by simp [show n-1<l.length by omega]
     have hyd:(l.drop i)[k']? = some l[n-1]:=by rw [List.getElem?_drop,show i+k' = n-1 by omega];exact hy
     refine .inr ⟨l[n-1],decide_eq_true (by omega),by rw [zU (by omega) (by omega)];omega,zK hy,?_⟩
     rw [znP,hyd];rfl
   have bad:stepS (znP (l.drop i) k) x.header.seq=false->runF c.seq none (l.drop i)=none:=fun h=>by
    rw [hpf,if_pos h];rfl
   have nx:∀ τ:List zh,stepS (znP (l.drop i) k) x.header.seq=true->(x.header.seq==c.seq)=false->zas (l.length-i) (fun k vs s => ∃ (acc:List zdl) (T:List zh),vs = [.d (.int .i64 ((i+k:Nat):Int))]/\s = σ++([zyR c,nilPf,zvy b,pfBox tp o pl.rec_ (.own (σ.length+4) (zgR acc)) j b.placed.length c,.tok 5 acc.length]++T)/\acc.length=k/\runF c.seq none (l.drop i)=(runF c.seq (znP (l.drop i) k) ((l.drop i).drop k)).map (acc ++ ·)) k [.d (.int .i64 ((n:Int)+1))] (σ++zyR c::nilPf::zvy b::pfBox tp o pl.rec_ (.own (σ.length+4) (zgR acc2)) j b.placed.length c::.tok 5 acc2.length::τ):=fun τ hst h2=>by
    rw [if_neg (by simp [hst]),if_neg (by simpa using h2)] at hpf
    refine zas.next (by omega) ⟨acc2, τ,by rw [← hin];congr 3,rfl,by omega,?_⟩
    rw [hpf,znP,hxd,Option.map_map]
    simp only [Option.map_some, ← ha2]
    congr 1
    funext z
    simp
   have st:stepS (znP (l.drop i) k) x.header.seq=true->(x.header.seq==c.seq)=true->runF c.seq none (l.drop i)=some acc2:=fun hst h2=>by
    rw [hpf,if_neg (by simp [hst]),if_pos (by simpa using h2), ← ha2];rfl
   cases hst:stepS (znP (l.drop i) k) x.header.seq
   ·rcases hkey with ⟨_,h⟩|⟨y,d1,d2,d3,d4⟩
    ·rw [hst] at h;cases h
    rw [hst] at d4
    refine gq2 (zg hF (zg hlen (zg hgn (zg d1 (zg d2 (zg d3 d4)))))) ?_
    refine zI hl ?_
    have:=fin (7,zwe,L) (by rw [hmk,bad hst])
    rw [hself] at this
    exact this
   ·cases h2:(x.header.seq==c.seq)
    ·rcases hkey with ⟨d1,_⟩|⟨y,d1,d2,d3,d4⟩
     ·refine gq2 (zg hF (zg hlen (zg hgn (zg d1 (zg hal (zg g1 (zg g2 (zg h2 (wkc n (by omega)))))))))) ?_
      exact nx _ hst h2
     ·rw [hst] at d4
      refine gq2 (zg hF (zg hlen (zg hgn (zg d1 (zg d2 (zg d3 (zg d4 (zg hal (zg g1 (zg g2 (zg h2 (wkc n (by omega))))))))))))) ?_
      exact nx _ hst h2
    ·have fin0:=fin _ (hmk.trans (by rw [st hst h2]))
     rcases hkey with ⟨d1,_⟩|⟨y,d1,d2,d3,d4⟩
     case' inl=>refine gq2 (zg hF (zg hlen (zg hgn (zg d1 (zg hal (zg g1 (zg g2 h2))))))) ?_
     case' inr=>
      rw [hst] at d4
      refine gq2 (zg hF (zg hlen (zg hgn (zg d1 (zg d2 (zg d3 (zg d4 (zg hal (zg g1 (zg g2 h2)))))))))) ?_
     all_goals
      refine zxx (by omega) hbx.each ?_
      refine gq1 ?_
      refine c_r5Prove (l:=b.placed.map zaL) (by rw [List.length_map];omega) (zf hT) hL (by rw [List.length_map];omega) (fun x hx'=>by
       obtain ⟨p,hp,rfl⟩:=List.mem_map.1 hx'
       exact zlP (hbx.each p hp)) ?_
      rw [List.length_map,List.set_append_left _ _ (zB hT)]
      obtain ⟨A,hA⟩:∃ A,zbA b.placed.length L j (b.placed.map zaL)=A:=⟨_,rfl⟩
      rw [hA] at fin0 ⊢
      have hl2 : σ.length=(σ.set id (rtO A.2)).length:=(List.length_set ..).symm
      obtain ⟨S,hS⟩:∃ S, σ.set id (rtO A.2)=S:=⟨_,rfl⟩
      have hlo:zgh σ.length S:=hS▸hl.set (zgl _ _)
      simp only [hS] at fin0 hl2 ⊢
      clear nx hpf bad st
      refine ⟨fun hp => ?_,fun hp => ?_⟩
      all_goals
       refine gq43 hl2 ?_
       rw [← hl2]
       refine zeZ hl2.symm ?_ hlo ?_
       ·simp [zfz,dmT,dm,dm1,zcJ,zcb,zfL]
       ·first|exact fin0|(rw [hp] at fin0;exact fin0)
  ·have hF:((n:Int)==(l.length:Int))=true:=by simp;omega
   have hr:runF c.seq none (l.drop i)=none:=by
    rw [hpf,show (l.drop i).drop k = [] from List.drop_eq_nil_of_le (by rw [List.length_drop];omega)];rfl
   refine gq2 (zg hF hlen) ?_
   refine zI hl ?_
   have:=fin (7,zwe,L) (by rw [hmk,hr])
   rw [hself] at this
   exact this
end Go.Proofs.YtfgbofkdhfjegaaGreat

/- An end of a call that zyy all that it made: what the caller's objects name now lies there. -/
namespace Go.AW
section
variable {P:Program} {σ:List zh}
def ztL (K:KT) (out:Option (List AV)) (σ':List zh):Prop:=match out with
 | some l => ∃ s,zqe [] σ' [] s/\K (dmT (zcJ l)) s
 | none=>False
theorem zcU {f:FuncId} {F:AF} {na:Nat} (hF:isFn P f F na) {as0:List AV} (has:as0.length=na) {K:KT}
  (h:zgh σ.length σ->(∀ a∈as0,Low σ.length a)->awp P F.body (AtEnd fun fr' σ'=>ztL K (ztq fr' σ' F.res) σ') (zkb 0 as0) σ):zp P f as0 σ K:=
 znR hF has _ (fun {L w L' σ' w' fr' ts} S st S' F' hz=>by
  unfold ztL at hz
  split at hz
  ·rename_i l hl
   obtain ⟨s,hw,hK⟩:=hz
   obtain ⟨L2,st2,S2,_⟩:=zkK hw S' (us := []) ⟨rfl,by simp⟩
   exact ⟨L2,s,l,dmT (zcJ l),hl,st.trans st2,S2,fun v hr=>zvf (st2.rv hr),hK⟩
  ·exact hz.elim) h
theorem zeR {K:KT} {l:List AV} {s:List zh} (h:K (dmT (zcJ l)) s):ztL K (some l) s:=⟨_,.refl _ _,h⟩
end
end Go.AW
