/- Contracts: a leaf's proof, on both sides. -/
import Derived.Test.YtfgbofkdhfjegaaGreatMk2
import Derived.Test.YtfgbofkdhfjegaaGreatId3
import Derived.Test.YtfgbofkdhfjegaaGreatCl1
set_option linter.all false
set_option maxRecDepth 100000
namespace Go.Proofs.YtfgbofkdhfjegaaGreat
open Go.AW
theorem zoN {f:Nat} {L:List (List UInt8)} {i:Nat} {l:List (List UInt8)} (h:l.length<=1):zbd f L i l=([],L):=by
 cases f with
 | zero=>rfl
 | succ f=>simp only [zbd];rw [if_pos h]
theorem zjN:∀ (f:Nat) {L:List (List UInt8)} {i:Nat} {l:List (List UInt8)},l.length<=f->L.length<=1048576->(zbd f L i l).2.length<=1048576/\(zbd f L i l).1.length<=l.length
 | 0,L,i,l,_,h=>⟨h,by simp [zbd]⟩
 | f+1,L,i,l,hf,h=>by
  by_cases h1:l.length<=1
  ·rw [zoN h1];exact ⟨h,by simp⟩
  ·have hs:=zcR (n:=l.length) (by omega)
   simp only [zbd]
   rw [if_neg h1]
   split
   ·have h2:=zjN f (L:=L) (i:=i) (l:=l.take (zj l.length)) (by rw [List.length_take];omega) h
    refine ⟨(zdS l.length (by rw [List.length_drop];omega) h2.1).1,?_⟩
    have:=h2.2
    rw [List.length_take] at this
    simp only [List.length_append,List.length_cons,List.length_nil]
    omega
   ·have h2:=zjN f (L:=L) (i:=i-zj l.length) (l:=l.drop (zj l.length)) (by rw [List.length_drop];omega) h
    refine ⟨(zdS l.length (by rw [List.length_take];omega) h2.1).1,?_⟩
    have:=h2.2
    rw [List.length_drop] at this
    simp only [List.length_append,List.length_cons,List.length_nil]
    omega
theorem proveA_2 {f:Nat} {L:List (List UInt8)} {i:Nat} {l:List (List UInt8)} (h:2<=l.length):zbd (f+1) L i l =
  if i<zj l.length then ((zbd f L i (l.take (zj l.length))).1++[(rootF (zbd f L i (l.take (zj l.length))).2 (l.drop (zj l.length))).1],(rootF (zbd f L i (l.take (zj l.length))).2 (l.drop (zj l.length))).2)
  else ((zbd f L (i-zj l.length) (l.drop (zj l.length))).1++[(rootF (zbd f L (i-zj l.length) (l.drop (zj l.length))).2 (l.take (zj l.length))).1],(rootF (zbd f L (i-zj l.length) (l.drop (zj l.length))).2 (l.take (zj l.length))).2):=by
 simp only [zbd]
 rw [if_neg (by omega)]
def PathR (σ σ1:List zg) (p:List Int) (K:KT):Prop:=
 (p = []->K (.tup [.exact [],.d (.int .i64 0)]) σ1)/\(p≠[]->K (.tup [.own σ.length (zdA p),.d (.int .i64 0)]) (σ1++[.tok 1 p.length]))
theorem gq30 {P Q:Prop} (h:Q) (e:Hd Q->P:=by intro h;(repeat' first|simp -dsimp only [↓zft, ↓zaH, ↓zbG, ↓zfu, ↓zfo, ↓zfm, ↓zfp, ↓zfn, ↓zbL, ↓zbH, ↓zbM, ↓zbI, ↓zfq, ↓zbF, ↓zbN, ↓zbJ, ↓zbO, ↓zbK, ↓zfl, ↓zfr, ↓zbE, ↓zbP, ↓zfd, ↓zfc, ↓zfk,iN,bT,bF,eN, ↓zcQ, ↓unC, ↓zY, ↓zK, ↓zL, ↓zN, ↓zae, ↓zax, ↓zcK, ↓zaq, ↓zbh, ↓zR, ↓zp, ↓zm, ↓zbV, ↓zh, ↓zak, ↓zH, ↓zaR, ↓zaY, ↓ze, ↓zD, ↓zu, ↓zB, ↓zar, ↓zdk, ↓zdz, ↓zas, ↓zaD, ↓zaV, ↓zbf, ↓zbm, ↓zA, ↓zan, ↓zM, ↓zF, ↓zad,zdE,zbu,zbo,unA,zdC,bnd,zej,zag,zS,zeh,dm,dm1,zC,zah,zeF,zeE,zQ,Q0,Q1,Q2,Q3,Q4,Q5,zV,zx,zw,zO,zJ,Q6,Q7,Q8,Q9,Q10,Q11,Q12,Q13,Q14,Nat.reduceAdd,Q15,Int.reduceToNat,Q16,Q17,Q18,Q19,Q20,reduceIte,Q21,Q22,zG,rep,zZ,zeQ,toD,zal,Q23,Q24,Q25,Q26,Q27,Q28,Nat.reduceLeDiff,Q29,Nat.reduceSub,Q30,Q31,Q32,sc,Q33,Q34,Q35,Q36,Q37,Q26,Q38,Q39,ziR,ziO,ziL,ziS,zcX,ziP,ziM,ziQ,ziN,zcW,zcY,ziU,ziV,Bool.not_true,Bool.not_false,List.length_map,List.length_set]|with_reducible refine ziX ?_|fail);exact h.go):P:=e ⟨h⟩
theorem c_r5ProveA:∀ (f:Nat) {σ:List zg} {id:Nat} {L l:List (List UInt8)} {i:Nat},l.length<=f->i<l.length → σ[id]? = some (rtO L)->L.length<=1048576->l.length<=1073741824->(∀ x∈l,x.length<=1073740000)->∀ {K:KT},
  PathR σ (σ.set id (rtO (zbd f L i l).2)) (zbd f L i l).1 K->zr Tryz.prog zgz [.box id 0,.d (.int .i64 i),.d (.slice (zgK l))] σ K:=by
 intro f
 induction f with
 | zero=>intros;omega
 | succ f ih=>
  intro σ id L l i hf hi hT hL hn hx K hK
  refine zce zsQ.is rfl (fun s=>if s.length = σ.length then [] else [σ.length]) fun hl _=>zsQ.goes ?_
  have hlen:(zgK l).length=l.length:=List.length_map ..
  have d1:decide ((i:Int)<0)=false:=by simp
  have d2:decide ((i:Int)≥(l.length:Int))=false:=by simp;omega
  simp only [ztJ,iN,bT,bF,eN]
  by_cases h1:l.length<=1
  ·have e1:((l.length:Int)==1)=true:=by simp;omega
   rw [zoN h1,zbl hT] at hK
   refine gq2 (zf d1 (zf d2 (zf hlen e1))) ?_
   exact zkY (by simp) hl rfl (hK.1 rfl)
  ·have h2:2<=l.length:=by omega
   have hs:=zcR h2
   rw [proveA_2 h2] at hK
   have e1:((l.length:Int)==1)=false:=by rw [beq_eq_false_iff_ne];omega
   have htk:List.take (zj l.length) (zgK l)=zgK (l.take (zj l.length)):=by rw [zgK, ← List.map_take]
   have hdr:List.drop (zj l.length) (zgK l)=zgK (l.drop (zj l.length)):=by rw [zgK, ← List.map_drop]
   have htl:List.take l.length (zgK l)=zgK l:=List.take_of_length_le (by omega)
   have hone:∀ e∈zgK l,e.length=1:=zjy (f:=fun b => [D.slice (bcs b)]) (fun _=>rfl) l
   have hl1:(l.take (zj l.length)).length=zj l.length:=by rw [List.length_take];omega
   have hl2:(l.drop (zj l.length)).length=l.length-zj l.length:=List.length_drop
   refine gq2 (zf d1 (zf d2 (zf hlen e1))) ?_
   refine c_r5Split (by omega) ?_
   have last:∀ (A:List Int × List (List UInt8)) (R:Int × List (List UInt8)) (tk:zg),A.1.length<=l.length->PathR σ (σ.set id (rtO R.2)) (A.1++[R.1]) K →
     znn σ.length (fun s=>if s.length = σ.length then [] else [σ.length]) K (some [.own σ.length (zdA A.1++[[.int .i64 R.1]]),.d (.int .i64 0)]) (σ.set id (rtO R.2)++[.tok 1 (A.1.length+1)]):=fun A R tk _ hR=>by
    refine endsK_one (t := σ.length) (x := .tok 1 (A.1.length+1)) (r := .tup [.own σ.length (zdA (A.1++[R.1])),.d (.int .i64 0)]) (by simp) (by simp) (Nat.le_refl _) (by rw [List.getElem?_append_right (by simp)];simp) (hl.setO (zfB _ _)) (by trivial) ?_ ?_
    ·simp [zcH,zdi,zjc,zkG,idxK,zdA]
    ·have:=hR.2 (by simp)
     simpa using this
   by_cases hc:i<zj l.length
   ·have hd:decide ((i:Int)<((zj l.length:Nat):Int))=true:=by simp;omega
    rw [if_pos hc] at hK
    obtain ⟨g1,g2⟩:=zjN f (L:=L) (i:=i) (l:=l.take (zj l.length)) (by omega) hL
    refine gq2 (zf hd (zf hlen htk)) ?_
    refine ih (i:=i) (by omega) (by omega) hT hL (by omega) (fun z hz=>hx z (List.mem_of_mem_take hz)) ?_
    obtain ⟨A,hA⟩:∃ A,zbd f L i (l.take (zj l.length))=A:=⟨_,rfl⟩
    rw [hA] at hK g1 g2 ⊢
    have hT1:(σ.set id (rtO A.2))[id]? = some (rtO A.2):=zbr hT
    refine ⟨fun hp => ?_,fun hp => ?_⟩
    ·have hlast:=last A (rootF A.2 (l.drop (zj l.length))) (.tok 1 0) (by omega) hK
     rw [hp] at hlast
     refine gq2 (zf hlen (zf htl hdr)) ?_
     refine zna hT1 g1 (by omega) (fun z hz=>hx z (List.mem_of_mem_drop hz)) ?_
     rw [List.set_set]
     refine gq30 ?_
     exact hlast
    ·have hpl:(zdA A.1).length=A.1.length:=List.length_map ..
     have hlast:=last A (rootF A.2 (l.drop (zj l.length))) (.tok 1 0) (by omega) hK
     refine gq2 (zf hlen (zf htl hdr)) ?_
     refine zna (zd hT1) g1 (by omega) (fun z hz=>hx z (List.mem_of_mem_drop hz)) ?_
     rw [zbZ hT1,List.set_set]
     have hgt:∀ X,(σ.set id X++[zg.tok 1 A.1.length])[σ.length]? = some (.tok 1 A.1.length):=fun X=>by rw [List.getElem?_append_right (by simp)];simp
     have hst:∀ X Y,(σ.set id X++[zg.tok 1 A.1.length]).set σ.length Y = σ.set id X++[Y]:=fun X Y=>by rw [List.set_append_right _ _ (by simp)];simp
     refine gq2 (zf hpl (zf hgt hst)) ?_
     exact hlast
   ·have hd:decide ((i:Int)<((zj l.length:Nat):Int))=false:=by simp;omega
    have hw2:IntKind.i64.wrap ((i:Int)-((zj l.length:Nat):Int))=((i-zj l.length:Nat):Int):=by rw [zab (by omega) (by omega)];omega
    rw [if_neg hc] at hK
    obtain ⟨g1,g2⟩:=zjN f (L:=L) (i:=i-zj l.length) (l:=l.drop (zj l.length)) (by omega) hL
    refine gq2 (zf hd (zf hw2 (zf hlen (zf htl hdr)))) ?_
    refine ih (i:=i-zj l.length) (by omega) (by omega) hT hL (by omega) (fun z hz=>hx z (List.mem_of_mem_drop hz)) ?_
    obtain ⟨A,hA⟩:∃ A,zbd f L (i-zj l.length) (l.drop (zj l.length))=A:=⟨_,rfl⟩
    rw [hA] at hK g1 g2 ⊢
    have hT1:(σ.set id (rtO A.2))[id]? = some (rtO A.2):=zbr hT
    refine ⟨fun hp => ?_,fun hp => ?_⟩
    ·have hlast:=last A (rootF A.2 (l.take (zj l.length))) (.tok 1 0) (by omega) hK
     rw [hp] at hlast
     refine gq2 (zf hlen htk) ?_
     refine zna hT1 g1 (by omega) (fun z hz=>hx z (List.mem_of_mem_take hz)) ?_
     rw [List.set_set]
     refine gq30 ?_
     exact hlast
    ·have hpl:(zdA A.1).length=A.1.length:=List.length_map ..
     have hlast:=last A (rootF A.2 (l.take (zj l.length))) (.tok 1 0) (by omega) hK
     refine gq2 (zf hlen htk) ?_
     refine zna (zd hT1) g1 (by omega) (fun z hz=>hx z (List.mem_of_mem_take hz)) ?_
     rw [zbZ hT1,List.set_set]
     have hgt:∀ X,(σ.set id X++[zg.tok 1 A.1.length])[σ.length]? = some (.tok 1 A.1.length):=fun X=>by rw [List.getElem?_append_right (by simp)];simp
     have hst:∀ X Y,(σ.set id X++[zg.tok 1 A.1.length]).set σ.length Y = σ.set id X++[Y]:=fun X Y=>by rw [List.set_append_right _ _ (by simp)];simp
     refine gq2 (zf hpl (zf hgt hst)) ?_
     exact hlast
theorem c_r5Prove {σ:List zg} {id:Nat} {L l:List (List UInt8)} {i:Nat} (hi:i<l.length) (hT : σ[id]? = some (rtO L)) (hL:L.length<=1048576) (hn:l.length<=1073741824) (hx:∀ x∈l,x.length<=1073740000) {K:KT}
  (hK:PathR σ (σ.set id (rtO (zbd l.length L i l).2)) (zbd l.length L i l).1 K):zr Tryz.prog zgz [.box id 0,.d (.int .i64 i),.d (.slice (zgK l))] σ K:=c_r5ProveA l.length (Nat.le_refl _) hi hT hL hn hx hK
theorem zpr {σ:List zg} {id m t:Nat} {g:List zI} (hG:zee σ id m t g) (hg:g.length<=1073741824) {K:KT}
  (hK:∀ g':List zI,K (.box (σ.length+1) 0) (σ++ledO σ.length g')):zr Tryz.prog zcd [.box id 0] σ K:=by
 refine zce zhs.is rfl (fun s=>List.range' σ.length 3) fun hl _=>zhs.goes ?_
 have hbx:∀ τ,(σ ++ τ)[id]? = _:=fun τ=>zd hG.box
 have hlen:(zpL g).length=g.length:=List.length_map ..
 simp only [zhF,iN,bT,bF,eN]
 refine gq1 ?_
 refine zwB hG ?_
 refine gq2 hbx ?_
 refine zto ?_
 refine gq2 (zf hbx hlen) ?_
 refine zt g.length (fun k vs s=>vs = [.d (.int .i64 k)]/\∃ g' τ,g'.length<=k/\s = σ++(ledO σ.length g' ++ τ)) ⟨rfl,[],[],by simp,by simp [zpL,ztQ]⟩ ?_
 rintro k vs s hk ⟨rfl,g', τ,hg',rfl⟩
 by_cases hlt:k<g.length
 ·have hd:decide ((k:Int)<(g.length:Int))=true:=by simp;omega
  have hx:g[k]? = some g[k]:=by simp [hlt]
  obtain ⟨x,hxe⟩:∃ x,g[k]=x:=⟨_,rfl⟩
  rw [hxe] at hx
  have hgx:(zpL g)[k]? = some [D.int .i64 x.key,D.int .i64 x.dig]:=by rw [zpL];exact zP hx
  refine gq2 (zf hd (zf hgx hlen)) ?_
  have hL:∀ τ',zee (σ++(ledO σ.length g' ++ τ')) (σ.length+1) σ.length (σ.length+2) g':=fun τ'=>ledAt_new σ g' τ'
  refine c_gSign (hL (τ++[.box [.d (.int .i64 x.key),.d (.int .i64 x.dig)]])) (by omega) ?_
  have hP:=putLed_new σ g' (zfz g' x.key x.dig) (τ++[.box [.d (.int .i64 x.key),.d (.int .i64 x.dig)]])
  rw [hP]
  have hw:IntKind.i64.wrap ((k:Int)+1)=((k+1:Nat):Int):=by rw [zab (by omega) (by omega)];rfl
  refine gq2 hw ?_
  refine zaB.next hlt ⟨rfl,zfz g' x.key x.dig, τ++[.box [.d (.int .i64 x.key),.d (.int .i64 x.dig)]],?_,by simp [ledO]⟩
  unfold zfz zlA
  split
  ·split
   ·omega
   ·simp;omega
  ·omega
 ·have hd:decide ((k:Int)<(g.length:Int))=false:=by simp;omega
  refine gq2 (zf hlen hd) ?_
  exact zqV (σ' := σ) (os:=ledO σ.length g') (τ := τ) rfl rfl hl (low_ledO _ _) (.box _ _ (by simp)) (hK g')
end Go.Proofs.YtfgbofkdhfjegaaGreat

/- Headers, and records at their places: their bytes; chains. No program in sight. -/
namespace Go.AW
structure zcF where
 seq:Int
 prev:Int
 batch:Int
 root:Int
 state:Int
deriving DecidableEq
def zkz (h:zcF):List Int := [h.seq,h.prev,h.batch,h.root,h.state]
abbrev hdrD (h:zcF):List D := [.int .i64 h.seq,.int .i64 h.prev,.int .i64 h.batch,.int .i64 h.root,.int .i64 h.state]
abbrev ztR (h:zcF):AV := .agg [.d (.int .i64 h.seq),.d (.int .i64 h.prev),.d (.int .i64 h.batch),.d (.int .i64 h.root),.d (.int .i64 h.state)]
abbrev ziW (l:List zcF):List (List D):=l.map hdrD
def zgC (h:zcF):Bool:=(zkz h).all zdd
def zba (h:zcF):Int:=if zgC h=true then 0 else 90
def zmR (h:zcF):List UInt8 := 3::zgP (zkz h)
def hdrBF (h:zcF):List UInt8:=if zba h=0 then zmR h else []
theorem zdY {h:zcF}:zba h=0↔zgC h=true:=by
 unfold zba;split<;>simp_all
theorem zeo {h:zcF} (hk:zgC h=true):∀ x∈zkz h, 0<=x/\x<=9007199254740992:=fun x hx=>zdT.1 (List.all_eq_true.1 hk x hx)
theorem hdrB_len {h:zcF} (hk:zgC h=true):(zmR h).length<=51:=by
 have:=zlQ (l:=zkz h) fun x hx=>by have:=zeo hk x hx;omega
 simp only [zmR,zkz,List.length_cons,List.length_nil] at this ⊢
 omega
def linkF (L:List (List UInt8)):Option zcF->zcF->Bool
 | none,_=>true
 | some q,h=>match zcv L (zmR q) with
  | some i=>(h.prev==((i+1:Nat):Int))&&(h.seq==q.seq+1)
  | none=>false
def zmj (L:List (List UInt8)):Option zcF->List zcF->Bool
 | _,[]=>true
 | p,h::r=>zgC h&&(linkF L p h&&zmj L (some h) r)
def zuX (L:List (List UInt8)) (l:List zcF):Bool:=zmj L none l
structure zaI where
 topic:List UInt8
 offset:Int
 rec_:List UInt8
abbrev zel (p:zaI):List D := [.str p.topic,.int .i64 p.offset,.slice (bcs p.rec_)]
abbrev zbg (l:List zaI):List (List D):=l.map zel
def zaz (p:zaI):List UInt8:=zmJ p.topic++(zcu p.offset.toNat++zmJ p.rec_)
theorem chain_drop {L:List (List UInt8)} {p:Option zcF} {l:List zcF} {k:Nat} {h:zcF} (hx:l[k]? = some h):zmj L p (l.drop k)=(zgC h&&(linkF L p h&&zmj L (some h) (l.drop (k+1)))):=by
 have hk:k<l.length:=(List.getElem?_eq_some_iff.1 hx).1
 rw [List.drop_eq_getElem_cons hk,(List.getElem?_eq_some_iff.1 hx).2]
 rfl
end Go.AW
