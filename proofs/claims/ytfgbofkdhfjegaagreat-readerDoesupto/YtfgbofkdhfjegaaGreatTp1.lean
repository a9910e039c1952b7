/- Contracts: the document's topics: where one stands; one is made. -/
import Derived.Test.YtfgbofkdhfjegaaGreatMk8
import Derived.Test.YtfgbofkdhfjegaaGreatSpTop
import Derived.Test.YtfgbofkdhfjegaaGreatOp1
set_option linter.all false
set_option maxRecDepth 100000
namespace Go.Proofs.YtfgbofkdhfjegaaGreat
open Go.AW
def zkF:List (Int × Int × Int)->List AV
 | [] => []
 | a::r => .d (.int .i64 a.1)::.d (.int .i64 a.2.1)::.d (.int .i64 a.2.2)::zkF r
structure zcw (σ:List zh) (id t g:Nat) (T:zcf):Prop where
 box : σ[id]? = some (.box (.rsl t g 4 0 T.l.length::zkF T.last))
 row : σ[t]? = some (.row g 4 (zaK (zce T.l)))
 last:T.last.length=8
structure znS (σ S:List zh) (id:Nat):Prop where
 len : σ.length<=S.length
 get:∀ (j:Nat) (x:zh), σ[j]? = some x->j≠id->(∀ g sz cs,x≠.row g sz cs)->S[j]? = some x
theorem znS.app (σ τ:List zh) (id:Nat):znS σ (σ ++ τ) id:=⟨by simp,fun _ _ h _ _=>zf h⟩
theorem znS.trans {σ S R:List zh} {id:Nat} (h:znS σ S id) (h':znS S R id):znS σ R id:=⟨Nat.le_trans h.len h'.len,fun j x hx hj hr=>h'.get j x (h.get j x hx hj hr) hj hr⟩
theorem zcw.app {σ:List zh} {id t g:Nat} {T:zcf} (h:zcw σ id t g T) (τ:List zh):zcw (σ ++ τ) id t g T:=⟨zf h.box,zf h.row,h.last⟩
theorem zeq {σ:List zh} {e:Int} {K:KT} (hK:K (.agg [.d (.int .i64 e),.d (.int .i64 0)]) σ):zp Tryz.prog zez [.d (.int .i64 e)] σ K:=by
 refine zfc e_r07_bad fun hl => ?_
 simp only [S_r07_bad,iN,bT,bF,eN]
 refine gq1 ?_
 refine zI hl ?_
 exact hK
theorem zoB {σ:List zh} {x:zdh} (hb : -9223372036854775808<=x.next/\x.next<=9223372036854775807) {K:KT} (hK:K (.d (.int .i64 x.next)) σ):zp Tryz.prog zcL [.agg [.d (.str x.name),.d (.int .i64 x.base),.d (.slice (zbY x.recs)),.d (.slice (zcP x.groups))]] σ K:=by
 refine zfc ztA fun hl => ?_
 have hlen:=zF x.recs
 have hw:IntKind.i64.wrap (x.base+(x.recs.length:Int))=x.next:=zU hb.1 hb.2
 simp only [zmG,iN,bT,bF,eN]
 refine gq2 (zg hlen hw) ?_
 refine zI hl ?_
 exact hK
theorem c_r7at {σ:List zh} {id t g:Nat} {T:zcf} {n:List UInt8} (hT:zcw σ id t g T) (hn:T.l.length<=1073741824) {K:KT}
  (hK:K (.d (.int .i64 (match atF n T.l 0 with|some k=>(k:Int)|none => -1))) σ):zp Tryz.prog zgK [.box id 0,.d (.str n)] σ K:=by
 refine zeW zuX fun hl => ?_
 have hb:=hT.box
 have hr:=hT.row
 simp only [znZ,iN,bT,bF,eN]
 refine gq1 ?_
 refine zo T.l.length (fun k vs s=>vs = [.d (.int .i64 k)]/\s = σ/\atF n T.l 0=atF n (T.l.drop k) k) ⟨rfl,rfl,by simp⟩ ?_
 rintro k vs s hk ⟨rfl,hs,hpf⟩
 rw [hs]
 by_cases hlt:k<T.l.length
 ·have hd:decide ((k:Int)<(T.l.length:Int))=true:=by simp;omega
  have hx:T.l[k]? = some T.l[k]:=by simp [hlt]
  obtain ⟨x,hxe⟩:∃ x,T.l[k]=x:=⟨_,rfl⟩
  rw [hxe] at hx
  have e2:(zaK (zce T.l))[k*4]? = some (.d (.str x.name)):=zow (i := 0) (zeB T.l) (zK hx) (by omega)
  rw [atF_step hx] at hpf
  cases h1:(x.name==n)
  ·rw [if_neg (by simp [h1])] at hpf
   refine zmY (zg hb (zg hr (zg hd (zg e2 (zg h1 (wkc k (by omega))))))) ?_
   exact zas.next hlt ⟨rfl,rfl,hpf⟩
  ·rw [if_pos h1] at hpf
   rw [hpf] at hK
   refine zmY (zg hb (zg hr (zg hd (zg e2 h1)))) ?_
   refine zI hl ?_
   exact hK
 ·have hd:decide ((k:Int)<(T.l.length:Int))=false:=by simp;omega
  rw [List.drop_eq_nil_of_le (by omega)] at hpf
  rw [hpf] at hK
  refine zmY (zg hb hd) ?_
  refine zI hl ?_
  exact hK
theorem gq44 {A P Q:Prop} (a:A) (h:Q) (e:A->Hd Q->P:=by intro a h;(repeat' first|simp -dsimp only [↓zeU, ↓zaA, ↓zbp, ↓zeV, ↓zeO, ↓zeM, ↓zeP, ↓zeN, ↓zbu, ↓zbq, ↓zbv, ↓zbr, ↓zeQ, ↓zbo, ↓zbw, ↓zbs, ↓zbx, ↓zbt, ↓zeL, ↓zeT, ↓zbn, ↓zby, ↓zeG, ↓zeF, ↓zeK,iN,bT,bF,eN, ↓zco, ↓unC, ↓zX, ↓zM, ↓zN, ↓zQ, ↓zZ, ↓zai, ↓zcv, ↓zaf, ↓zaS, ↓zV, ↓zl, ↓zm, ↓zbg, ↓ze, ↓zae, ↓zC, ↓zaM, ↓zaT, ↓zd, ↓zA, ↓zr, ↓zD, ↓zao, ↓zcY, ↓zdn, ↓zap, ↓zaw, ↓zaN, ↓zaZ, ↓zbk, ↓zw, ↓zaj, ↓zO, ↓zE, ↓zY,zdr,zbm,zbl,unA,zdo,bnd,zdL,zab,zS,zdI,dm,dm1,zG,zak,zdZ,zdY,zH,Q0,Q1,Q2,Q3,Q4,Q5,zW,zx,zy,zT,zL,Q6,Q7,Q8,Q9,Q10,Q11,Q12,Q13,Q14,Nat.reduceAdd,Q15,Int.reduceToNat,Q16,Q17,Q18,Q19,Q20,reduceIte,Q21,Q22,zF,rep,zaa,zeC,toD,zag,Q23,Q24,Q25,Q26,Q27,Q28,Nat.reduceLeDiff,Q29,Nat.reduceSub,Q30,Q31,Q32,sc,Q33,Q34,Q35,Q36,Q37,Q26,Q38,Q39,zis,zio,zil,zit,zcN,ziq,zim,zir,zin,zcM,zcO,ziu,ziv,Bool.not_true,Bool.not_false,List.length_map,List.drop_zero,Nat.sub_zero,Nat.zero_add,Nat.zero_mul, ↓zer, ↓zqI,a]|with_reducible refine zix ?_|fail);exact h.go):P:=e a ⟨h⟩
theorem c_r7create {σ:List zh} {id t g:Nat} {T:zcf} {n:List UInt8} (hT:zcw σ id t g T) (hn:T.l.length<=8) {K:KT}
  (hK:∀ S t' g',zcw S id t' g' (zeS T n).2->znS σ S id->K (.agg [.d (.int .i64 (zeS T n).1.1),.d (.int .i64 (zeS T n).1.2)]) S):zp Tryz.prog zgo [.box id 0,.d (.str n)] σ K:=by
 refine zcU ziA.is rfl fun hl _=>ziA.goes ?_
 have hb:=hT.box
 have hr:=hT.row
 have xb:∀ τ,(σ ++ τ)[id]? = _:=fun τ=>zf hb
 have xr:∀ τ,(σ ++ τ)[t]? = _:=fun τ=>zf hr
 simp only [ziF,iN,bT,bF,eN]
 refine gq1 ?_
 refine c_r7at (hT.app _) (by omega) ?_
 cases h1:atF n T.l 0 with
 | some k=>
  have hd:decide ((k:Int)≥0)=true:=by simp
  have hF:zeS T n=((5, 0),T):=by rw [zeS,h1];rfl
  rw [hF] at hK
  simp only []
  refine gq2 hd ?_
  refine zeq ?_
  refine gq1 ?_
  exact zeR (hK _ t g (hT.app _) (.app _ _ _))
 | none=>
  simp only []
  cases h2:decide ((T.l.length:Int)≥8)
  rotate_left
  ·have hF:zeS T n=((6, 0),T):=by
    rw [zeS,h1,if_neg (by simp),if_pos (by simp at h2;omega)]
   rw [hF] at hK
   refine zmY (zg (show decide ((-1:Int)≥0)=false from rfl) (zg xb h2)) ?_
   refine zeq ?_
   refine gq1 ?_
   exact zeR (hK _ t g (hT.app _) (.app _ _ _))
  have hF:zeS T n=((0, 0), { T with l:=T.l.take (zwn n T.l)++⟨n, 0,[],[]⟩::T.l.drop (zwn n T.l) }):=by
   rw [zeS,h1,if_neg (by simp),if_neg (by simp at h2;omega)]
  rw [hF] at hK
  refine zmY (zg (show decide ((-1:Int)≥0)=false from rfl) (zg xb h2)) ?_
  refine zo T.l.length (fun k vs s=>vs = [.d (.int .i64 k)]/\s = σ++[.box [.d (.int .i64 0),.d (.int .i64 0)]]/\zwn n T.l=k+zwn n (T.l.drop k)) ⟨rfl,rfl,by simp⟩ ?_
  rintro k vs s hk ⟨rfl,rfl,hpf⟩
  have f4:=zeB T.l
  have hid:=zB hb
  have xs:∀ Y τ,(σ ++ τ).set id Y = σ.set id Y ++ τ:=fun Y τ=>List.set_append_left _ _ hid
  have ys:∀ Y a τ,(σ.set id Y++a::τ)[σ.length]? = some a:=fun Y a τ=>by rw [List.getElem?_append_right (by simp)];simp
  have zs:∀ Y a τ b,(σ.set id Y++a::τ).set σ.length b = σ.set id Y++b::τ:=fun Y a τ b=>by rw [List.set_append_right _ _ (by simp)];simp
  have f4t:=zeB (T.l.take k)
  have ht:List.take (k*4) (zaK (zce T.l))=zaK (zce (T.l.take k)):=by rw [zxl f4, ← List.map_take]
  have hdp:List.take ((T.l.length-k)*4) (List.drop (k*4) (zaK (zce T.l)))=zaK (zce (T.l.drop k)):=by
   rw [zsk f4, ← List.map_drop,List.take_of_length_le]
   rw [zfR (zeB _)];simp
  have hl1:(zaK (zce (T.l.take k))).length=k*4:=by rw [zfR f4t];simp [hk]
  by_cases hlt:k<T.l.length/\(T.l[k]?.map fun x=>Op.bytesLess x.name n)=some true
  ·obtain ⟨hlt,hx3⟩:=hlt
   have hd:decide ((k:Int)<(T.l.length:Int))=true:=by simp;omega
   have hx:T.l[k]? = some T.l[k]:=by simp [hlt]
   obtain ⟨x,hxe⟩:∃ x,T.l[k]=x:=⟨_,rfl⟩
   rw [hxe] at hx
   have e2:(zaK (zce T.l))[k*4]? = some (.d (.str x.name)):=zow (i := 0) (zeB T.l) (zK hx) (by omega)
   rw [zxa hx] at hpf
   have h3:Op.bytesLess x.name n=true:=by rw [hx] at hx3;simpa using hx3
   rw [if_pos h3] at hpf
   refine zmY (zg xb (zg xr (zg hd (zg e2 (zg h3 (wkc k (by omega))))))) ?_
   exact zas.next hlt ⟨rfl,rfl,by omega⟩
  ·have hk0:zwn n T.l=k:=by
    by_cases h:k<T.l.length
    ·have hx:T.l[k]? = some T.l[k]:=by simp [h]
     rw [hpf,zxa hx,if_neg]
     ·rfl
     ·intro h3;exact hlt ⟨h,by rw [hx];simp [h3]⟩
    ·rw [hpf,List.drop_eq_nil_of_le (by omega)];rfl
   rw [hk0] at hK
   rcases Nat.lt_or_ge k T.l.length with h|h
   case' inl=>
    have hd:decide ((k:Int)<(T.l.length:Int))=true:=by simp;omega
    have hx:T.l[k]? = some T.l[k]:=by simp [h]
    obtain ⟨x,hxe⟩:∃ x,T.l[k]=x:=⟨_,rfl⟩
    rw [hxe] at hx
    have e2:(zaK (zce T.l))[k*4]? = some (.d (.str x.name)):=zow (i := 0) (zeB T.l) (zK hx) (by omega)
    have h3:Op.bytesLess x.name n=false:=by
     cases h3:Op.bytesLess x.name n
     ·rfl
     ·exact (hlt ⟨h,by rw [hx];simp [h3]⟩).elim
    refine gq44 (zg xb (zg xr (zg hd (zg e2 (zg h3 (zg ht (zg hdp (zg hl1 (zg xs (zg ys zs)))))))))) ?_
   case' inr=>
    have hd:decide ((k:Int)<(T.l.length:Int))=false:=by simp;omega
    refine gq44 (zg xb (zg xr (zg hd (zg ht (zg hdp (zg hl1 (zg xs (zg ys zs)))))))) ?_
   all_goals
    have hlen1:(zce (T.l.take k)).length=k:=by simp [hk]
    have c1:(zaK (zce (T.l.take k))++AV.d (.str n)::AV.d (.int .i64 0)::AV.exact []::AV.exact []::zaK (zce (T.l.drop k)))[k*4+2]? = some (.exact []):=by
     rw [List.getElem?_append_right (by omega),hl1,Nat.add_sub_cancel_left];rfl
    have c2:((zaK (zce (T.l.take k))++AV.d (.str n)::AV.d (.int .i64 0)::AV.exact []::AV.exact []::zaK (zce (T.l.drop k))).set (k*4+2) (.d (.slice [])))[k*4+3]? = some (.exact []):=by
     rw [List.getElem?_set_ne (by omega),List.getElem?_append_right (by omega),hl1,Nat.add_sub_cancel_left];rfl
    have c3:((zaK (zce (T.l.take k))++AV.d (.str n)::AV.d (.int .i64 0)::AV.exact []::AV.exact []::zaK (zce (T.l.drop k))).set (k*4+2) (.d (.slice []))).set (k*4+3) (.d (.slice []))=zaK (zce (T.l.take k++⟨n, 0,[],[]⟩::T.l.drop k)):=by
     rw [List.set_append_right _ _ (by omega),List.set_append_right _ _ (by omega),hl1,Nat.add_sub_cancel_left,Nat.add_sub_cancel_left]
     simp [zaK,zbY]
    have g1:∀ X Y,(σ.set id X++[zh.box [.d (.int .i64 0),.d (.int .i64 0)],Y,.row 0 4 [AV.d (.str n),AV.d (.int .i64 0),AV.exact [],AV.exact []]])[σ.length+1]? = some Y:=fun X Y=>by
     rw [List.getElem?_append_right (by simp)];simp
    have g2:∀ X Y Z,(σ.set id X++[zh.box [.d (.int .i64 0),.d (.int .i64 0)],Y,.row 0 4 [AV.d (.str n),AV.d (.int .i64 0),AV.exact [],AV.exact []]]).set (σ.length+1) Z = σ.set id X++[zh.box [.d (.int .i64 0),.d (.int .i64 0)],Z,.row 0 4 [AV.d (.str n),AV.d (.int .i64 0),AV.exact [],AV.exact []]]:=fun X Y Z=>by
     rw [List.set_append_right _ _ (by simp)];simp
    refine ⟨_,.dataR (σ.length+1) (k*4+2) 2 4 _ (.exact []) [] (g1 _ _) c1 rfl (.dataR (σ.length+1) (k*4+3) 2 4 _ (.exact []) [] (by rw [g2];exact g1 _ _) c2 rfl (.refl _ _)),?_⟩
    rw [g2,g2,c3]
    refine hK _ (σ.length+1) 2 ⟨?_,g1 _ _,hT.last⟩ ⟨by simp,fun j x hx hj hr => ?_⟩
    ·rw [List.getElem?_append_left (by simpa using hid)]
     simp [hid]
     omega
    ·rw [List.getElem?_append_left (by simpa using zB hx),List.getElem?_set_ne (Ne.symm hj)]
     exact hx
theorem c_r7publish {σ:List zh} {id t g:Nat} {T:zcf} {i:Nat} {x:zdh} {o:TOp} (hT:zcw σ id t g T) (hn:T.l.length<=8) (hx:T.l[i]? = some x) (hX:TopI x) (ho:o.recs.length<=20971520) (hr:∀ r∈o.recs,r.length<=1073741824) {K:KT}
  (hK:∀ S,zcw S id t g (zed T i x o).2.2->znS σ S id->K (.tup [.agg [.d (.int .i64 (zed T i x o).1.1),.d (.int .i64 (zed T i x o).1.2)],.d (.slice (zaH (zed T i x o).2.1))]) S):zp Tryz.prog zfH [.box id 0,.d (.int .i64 i),opA o] σ K:=by
 refine zcU ziC.is rfl fun hl _=>ziC.goes ?_
 have hb:=hT.box
 have hrw:=hT.row
 have hi:i<T.l.length:=(List.getElem?_eq_some_iff.1 hx).1
 have xb:∀ τ,(σ ++ τ)[id]? = _:=fun τ=>zf hb
 have xr:∀ τ,(σ ++ τ)[t]? = _:=fun τ=>zf hrw
 have f4:=zeB T.l
 have hgt:List.take 4 (List.drop (i*4) (zaK (zce T.l)))=(topD x).map .d:=znC f4 (zK hx)
 have hol:=zF o.recs
 have hxl:=zF x.recs
 have hlenA:(zaK (zce T.l)).length=T.l.length*4:=by rw [zfR f4,List.length_map]
 have h1:=hX.base;have h2:=hX.next;have h3:=hX.recs
 have w1:IntKind.i64.wrap ((x.recs.length:Int)+(o.recs.length:Int))=(x.recs.length:Int)+o.recs.length:=zU (by omega) (by omega)
 have w2:IntKind.i64.wrap (9007199254740992-(o.recs.length:Int))=9007199254740992-(o.recs.length:Int):=zU (by omega) (by omega)
 have hlf:(zce T.l).flatten.length=T.l.length*4:=by rw [← hlenA,zaK,List.length_map]
 have hi4:i*4+4<=T.l.length*4:=by omega
 have n64 : -9223372036854775808<=x.next/\x.next<=9223372036854775807:=by
  have:x.next=x.base+x.recs.length:=rfl
  omega
 have bad:(64<x.recs.length+o.recs.length∨9007199254740992-(o.recs.length:Int)<x.next)->∀ τ,K (.tup [.agg [.d (.int .i64 71),.d (.int .i64 0)],.d (.slice [])]) (σ ++ τ):=fun h τ=>by
  have:=hK (σ ++ τ)
  rw [zed,if_pos h] at this
  exact this (hT.app τ) (.app _ _ _)
 simp only [ziL,iN,bT,bF,eN,opA]
 cases c1:decide ((x.recs.length:Int)+(o.recs.length:Int) > 64)
 rotate_left
 ·refine zmY (zg xb (zg xr (zg hgt (zg hol (zg hxl (zg w1 (zg w2 (zg hlf (zg hi4 c1))))))))) ?_
  refine zeq ?_
  refine gq1 ?_
  exact zeR (bad (.inl (by simp at c1;omega)) _)
 ·refine zmY (zg xb (zg xr (zg hgt (zg hol (zg hxl (zg w1 (zg w2 (zg hlf (zg hi4 c1))))))))) ?_
  refine zoB n64 ?_
  cases c2:decide (x.next > 9007199254740992-(o.recs.length:Int))
  rotate_left
  ·refine gq2 (zg hol (zg w2 c2)) ?_
   refine zeq ?_
   refine gq1 ?_
   exact zeR (bad (.inr (by simp at c2;omega)) _)
  ·refine gq2 (zg hol (zg w2 c2)) ?_
   refine ⟨zuq _,by simp,by omega,?_⟩
   refine zcD o.recs.length (fun k vs s => ∃ (A:List zbi) (B:List (List UInt8)) (τ:List zh),vs = [.own (σ.length+4) (zaH A),.own (σ.length+3) (zbY B),.d (.int .i64 k)]/\s = σ++([.box [.d (.int .i64 o.kind),.d (.str o.topic),.d (.str o.group),.d (.int .i64 o.offset),.d (.slice (zbY o.recs))],.box [.d (.int .i64 0),.d (.int .i64 0)],.box [.d (.str x.name),.d (.int .i64 x.base),.d (.slice (zbY x.recs)),.d (.slice (zcP x.groups))],.tok 1 (zbY B).length,.tok 3 A.length] ++ τ)/\A=zkR x.name x.next (o.recs.take k)/\B=x.recs++o.recs.take k)
    (.tok 0 [] 3 rfl (by simp) (.refl _ _)) ⟨[],x.recs,[],by simp,by simp [hxl],rfl,by simp⟩ ?_
   rintro k vs s hk ⟨A,B, τ,rfl,rfl,hA,hB⟩
   have hal:(zaH A).length=A.length:=List.length_map ..
   by_cases hlt:k<o.recs.length
   ·have hd:decide ((k:Int)<(o.recs.length:Int))=true:=by simp;omega
    have hy:o.recs[k]? = some o.recs[k]:=by simp [hlt]
    have hgy:=zhL hy
    have hry:=hr _ (List.getElem_mem hlt)
    obtain ⟨y,hye⟩:∃ y,o.recs[k]=y:=⟨_,rfl⟩
    rw [hye] at hy hgy hry
    have htk:o.recs.take (k+1)=o.recs.take k++[y]:=by rw [List.take_add_one,hy];rfl
    have hbl:=zav y
    have w3:IntKind.i64.wrap (x.next+(k:Int))=x.next+k:=zU (by have:x.next=x.base+x.recs.length:=rfl;omega) (by omega)
    have hbk:B.length=x.recs.length+k:=by rw [hB];simp;omega
    have hak:A.length=k:=by rw [hA,zon];simp;omega
    obtain ⟨A2,hA2⟩:∃ a,A++[⟨x.name,x.next+k,y⟩]=a:=⟨_,rfl⟩
    obtain ⟨B2,hB2⟩:∃ a,B++[y]=a:=⟨_,rfl⟩
    have gA:zaH A++[[.str x.name,.int .i64 (x.next+k),.slice (bcs y)]]=zaH A2:=by rw [← hA2];simp
    have gB:zbY B++[[.slice (bcs y)]]=zbY B2:=by rw [← hB2];simp [zbY]
    have lA:A.length+1=A2.length:=by rw [← hA2];simp
    have lB:B.length+1=(zbY B2).length:=by rw [← hB2,zF];simp
    have lA3:∀ e∈zaH A,e.length=3:=zjk (f:=zdN) (fun _=>rfl) A
    refine gq2 (zg hd (zg hol (zg hgy hbl))) ?_
    refine ⟨zgs,by simp,by omega,?_⟩
    refine zoB n64 ?_
    refine gq2 (zg w3 (zg hal (zg gA (zg gB (zg lA (zg lB (wkc k (by omega)))))))) ?_
    rw [zF] at lB
    refine ⟨by omega,zas.next hlt ⟨A2,B2, τ++[.tok 1 y.length],rfl,by simp [zF],?_,?_⟩⟩
    ·rw [htk,zur, ← hA2,hA,List.length_take,Nat.min_eq_left (by omega)]
    ·rw [htk, ← hB2,hB,List.append_assoc]
   ·have hd:decide ((k:Int)<(o.recs.length:Int))=false:=by simp;omega
    have hko:o.recs.take k=o.recs:=List.take_of_length_le (by omega)
    rw [hko] at hA hB
    have ht:=zB hrw
    have xs:∀ Y τ,(σ ++ τ).set t Y = σ.set t Y ++ τ:=fun Y τ=>List.set_append_left _ _ ht
    have gs2:∀ Y τ,(σ.set t Y ++ τ)[σ.length+2]? = τ[2]?:=fun Y τ=>by rw [List.getElem?_append_right (by simp)];simp
    have gs1:∀ Y τ,(σ.set t Y ++ τ)[σ.length+1]? = τ[1]?:=fun Y τ=>by rw [List.getElem?_append_right (by simp)];simp
    have ss1:∀ Y τ b,(σ.set t Y ++ τ).set (σ.length+1) b = σ.set t Y ++ τ.set 1 b:=fun Y τ b=>by rw [List.set_append_right _ _ (by simp)];simp
    refine zmY (zg hd (zg hol (zg xb (zg xr (zg xs (zg gs1 (zg gs2 (zg hlf hi4)))))))) ?_
    refine zoB n64 ?_
    refine gq2 (zg gs1 (zg gs2 ss1)) ?_
    have hpF:zed T i x o=((0,x.next),A, { T with l:=T.l.set i { x with recs:=B } }):=by
     rw [zed,if_neg (by simp at c1 c2;omega),hA,hB]
    rw [hpF] at hK
    have hcut:List.take (i*4+2) (zaK (zce T.l))++AV.own (σ.length+3) (zbY B)::List.drop (i*4+3) (zaK (zce T.l))=(zaK (zce T.l)).set (i*4+2) (.own (σ.length+3) (zbY B)):=by
     rw [List.set_eq_take_append_cons_drop,if_pos (by omega)]
    rw [hcut]
    have hset:(zaK (zce T.l)).set (i*4+2) (.d (.slice (zbY B)))=zaK (zce (T.l.set i { x with recs:=B })):=by
     rw [zqL f4 (zK hx) (by omega),zce,zce,List.map_set];rfl
    refine ⟨_,.dataR t (i*4+2) g 4 ((zaK (zce T.l)).set (i*4+2) (.own (σ.length+3) (zbY B))) (.own (σ.length+3) (zbY B)) (zbY B) (zf (List.getElem?_set_self ht)) (by rw [List.getElem?_set_self (by omega)]) rfl (.refl _ _),?_⟩
    rw [List.set_append_left _ _ (by simpa using ht),List.set_set,List.set_set,hset]
    refine hK _ ⟨?_,?_,hT.last⟩ ⟨by simp,fun j y hy hj hr => ?_⟩
    ·rw [zf]
     rw [List.getElem?_set_ne (fun e=>by subst e;rw [hb] at hrw;cases hrw),hb]
     simp
    ·exact zf (List.getElem?_set_self ht)
    ·refine zf ?_
     rw [List.getElem?_set_ne (fun e=>by subst e;rw [hrw] at hy;cases hy;exact hr _ _ _ rfl)]
     exact hy
theorem c_r7commit {σ:List zh} {id t g:Nat} {T:zcf} {i:Nat} {x:zdh} {o:TOp} (hT:zcw σ id t g T) (hn:T.l.length<=8) (hx:T.l[i]? = some x) (hX:TopI x) {K:KT}
  (hK:∀ S,zcw S id t g (zdp T i x o).2->znS σ S id->K (.agg [.d (.int .i64 (zdp T i x o).1.1),.d (.int .i64 (zdp T i x o).1.2)]) S):zp Tryz.prog zgp [.box id 0,.d (.int .i64 i),opA o] σ K:=by
 refine zcU zjC.is rfl fun hl _=>zjC.goes ?_
 have hb:=hT.box
 have hrw:=hT.row
 have hi:i<T.l.length:=(List.getElem?_eq_some_iff.1 hx).1
 have xb:∀ τ,(σ ++ τ)[id]? = _:=fun τ=>zf hb
 have xr:∀ τ,(σ ++ τ)[t]? = _:=fun τ=>zf hrw
 have f4:=zeB T.l
 have hgt:List.take 4 (List.drop (i*4) (zaK (zce T.l)))=(topD x).map .d:=znC f4 (zK hx)
 have hlenA:(zaK (zce T.l)).length=T.l.length*4:=by rw [zfR f4,List.length_map]
 have hlf:(zce T.l).flatten.length=T.l.length*4:=by rw [← hlenA,zaK,List.length_map]
 have hi4:i*4+4<=T.l.length*4:=by omega
 have h1:=hX.base;have h2:=hX.next;have h3:=hX.recs;have h4:=hX.groups
 have n64 : -9223372036854775808<=x.next/\x.next<=9223372036854775807:=by
  have:x.next=x.base+x.recs.length:=rfl
  omega
 have hgl:(zcP x.groups).length=x.groups.length:=List.length_map ..
 have hg2:∀ e∈zcP x.groups,e.length=2:=zjk (f:=zsN) (fun _=>rfl) x.groups
 have ht:=zB hrw
 have xs:∀ Y τ,(σ ++ τ).set t Y = σ.set t Y ++ τ:=fun Y τ=>List.set_append_left _ _ ht
 have gs0:∀ Y τ,(σ.set t Y ++ τ)[σ.length]? = τ[0]?:=fun Y τ=>by rw [List.getElem?_append_right (by simp)];simp
 have gs1:∀ Y τ,(σ.set t Y ++ τ)[σ.length+1]? = τ[1]?:=fun Y τ=>by rw [List.getElem?_append_right (by simp)];simp
 have ss1:∀ Y τ b,(σ.set t Y ++ τ).set (σ.length+1) b = σ.set t Y ++ τ.set 1 b:=fun Y τ b=>by rw [List.set_append_right _ _ (by simp)];simp
 have hcut:∀ X,List.take (i*4+3) (zaK (zce T.l))++X::List.drop (i*4+4) (zaK (zce T.l))=(zaK (zce T.l)).set (i*4+3) X:=fun X=>by
  rw [List.set_eq_take_append_cons_drop,if_pos (by omega)]
 have final:∀ (G2:List (List UInt8 × Int)) (a:Nat) (τ:List zh),zdp T i x o=((0,o.offset), { T with l:=T.l.set i { x with groups:=G2 } })->ztL K (some [.agg [.d (.int .i64 0),.d (.int .i64 o.offset)]]) (σ.set t (.row g 4 ((zaK (zce T.l)).set (i*4+3) (.own a (zcP G2)))) ++ τ):=fun G2 a τ hF=>by
  rw [hF] at hK
  have hset:(zaK (zce T.l)).set (i*4+3) (.d (.slice (zcP G2)))=zaK (zce (T.l.set i { x with groups:=G2 })):=by
   rw [zqL f4 (zK hx) (by omega),zce,zce,List.map_set];rfl
  refine ⟨_,.dataR t (i*4+3) g 4 ((zaK (zce T.l)).set (i*4+3) (.own a (zcP G2))) (.own a (zcP G2)) (zcP G2) (zf (List.getElem?_set_self ht)) (by rw [List.getElem?_set_self (by omega)]) rfl (.refl _ _),?_⟩
  rw [List.set_append_left _ _ (by simpa using ht),List.set_set,List.set_set,hset]
  refine hK _ ⟨?_,?_,hT.last⟩ ⟨by simp,fun j y hy hj hr => ?_⟩
  ·rw [zf]
   rw [List.getElem?_set_ne (fun e=>by subst e;rw [hb] at hrw;cases hrw),hb]
   simp
  ·exact zf (List.getElem?_set_self ht)
  ·refine zf ?_
   rw [List.getElem?_set_ne (fun e=>by subst e;rw [hrw] at hy;cases hy;exact hr _ _ _ rfl)]
   exact hy
 have bad:∀ e τ,zdp T i x o=((e, 0),T)->ztL K (some [.agg [.d (.int .i64 e),.d (.int .i64 0)]]) (σ ++ τ):=fun e τ h=>by
  rw [h] at hK
  exact zeR (hK _ (hT.app _) (.app _ _ _))
 simp only [zjI,iN,bT,bF,eN,opA]
 refine zmY (zg xb (zg xr (zg hgt (zg hlf hi4)))) ?_
 refine zo x.groups.length (fun k vs s=>vs = [.d (.int .i64 k)]/\s = σ++[.box [.d (.int .i64 o.kind),.d (.str o.topic),.d (.str o.group),.d (.int .i64 o.offset),.d (.slice (zbY o.recs))],.box [.d (.int .i64 0),.d (.int .i64 0)],.box [.d (.str x.name),.d (.int .i64 x.base),.d (.slice (zbY x.recs)),.d (.slice (zcP x.groups))]]/\zwo o.group x.groups=k+zwo o.group (x.groups.drop k)) ⟨rfl,rfl,by simp⟩ ?_
 rintro k vs s hk ⟨rfl,rfl,hpf⟩
 by_cases hlt:∃ y,x.groups[k]? = some y/\Op.bytesLess y.1 o.group=true
 ·obtain ⟨y,hy,h5⟩:=hlt
  have hlt:=zq hy
  have hd:decide ((k:Int)<(x.groups.length:Int))=true:=by simp;omega
  have hgy:=zK (f:=zsN) hy
  rw [zxb hy,if_pos h5] at hpf
  refine gq2 (zg hd (zg hgl (zg hgy (zg h5 (wkc k (by omega)))))) ?_
  exact zas.next hlt ⟨rfl,rfl,by omega⟩
 ·have hk0:zwo o.group x.groups=k:=by
   rw [hpf]
   cases hy:x.groups[k]? with
   | none=>rw [List.drop_eq_nil_of_le (by simpa using hy)];rfl
   | some y=>rw [zxb hy,if_neg (fun h=>hlt ⟨y,hy,h⟩)];rfl
  have gw:∀ l:List (List UInt8 × Int), ∀ e∈zcP l,e.length=2:=fun l=>zjk (f:=zsN) (fun _=>rfl) l
  have gdr:∀ j,List.drop j (List.take x.groups.length (zcP x.groups))=zcP (x.groups.drop j):=fun j=>by
   rw [← hgl,List.take_length];exact (List.map_drop ..).symm
  have gj:∀ j,zcP (List.take k x.groups)++[.str o.group,.int .i64 o.offset]::zcP (List.drop j x.groups)=zcP (List.take k x.groups++(o.group,o.offset)::List.drop j x.groups):=fun j=>by simp
  cases hG:hadG o.group x.groups with
  | none=>
   have gtk:List.take k (zcP x.groups)=zcP (x.groups.take k):=(List.map_take ..).symm
   have hAB:x.groups.length<=k∨∃ y,x.groups[k]? = some y/\Op.bytesLess y.1 o.group=false/\(y.1==o.group)=false:=by
    rw [hadG,hk0] at hG
    cases hy:x.groups[k]? with
    | none=>exact .inl (by simpa using hy)
    | some y=>
     rw [hy] at hG
     simp only at hG
     split at hG
     ·cases hG
     ·rename_i h
      refine .inr ⟨y,rfl,?_,by simpa using h⟩
      cases h5:Op.bytesLess y.1 o.group
      ·rfl
      ·exact (hlt ⟨y,hy,h5⟩).elim
   cases c1:decide (o.offset<0)
   rotate_left
   ·rcases hAB with hkl|⟨y,hy,h5,h6⟩
    ·have hd:decide ((k:Int)<(x.groups.length:Int))=false:=by simp;omega
     refine gq2 (zg hd (zg hgl c1)) ?_
     refine zeq ?_
     refine gq1 ?_
     exact bad _ _ (by rw [zdp,hG,if_pos (.inl (by simpa using c1))])
    ·have hltk:=zq hy
     have hd:decide ((k:Int)<(x.groups.length:Int))=true:=by simp;omega
     have hgy:=zK (f:=zsN) hy
     refine gq2 (zg hd (zg hgl (zg hgy (zg h5 (zg h6 c1))))) ?_
     refine zeq ?_
     refine gq1 ?_
     exact bad _ _ (by rw [zdp,hG,if_pos (.inl (by simpa using c1))])
   ·rcases hAB with hkl|⟨y,hy,h5,h6⟩
    case' inl=>
     have hd:decide ((k:Int)<(x.groups.length:Int))=false:=by simp;omega
     refine gq2 (zg hd (zg hgl c1)) ?_
    case' inr=>
     have hltk:=zq hy
     have hd:decide ((k:Int)<(x.groups.length:Int))=true:=by simp;omega
     have hgy:=zK (f:=zsN) hy
     refine gq2 (zg hd (zg hgl (zg hgy (zg h5 (zg h6 c1))))) ?_
    all_goals
     refine zoB n64 ?_
     cases c2:decide (o.offset > x.next)
    all_goals
     first
     | (
      have c2':=of_decide_eq_true c2
      refine gq2 c2 ?_
      refine zeq ?_
      refine gq1 ?_
      exact bad _ _ (by rw [zdp,if_pos (.inr (by simpa using c2))]))
     | (
      cases c3:decide ((x.groups.length:Int)≥8)
      ·refine gq2 (zg c2 (zg c3 (zg xb (zg xr (zg hgl (zg gtk (zg (gdr k) (zg (gj k) (zg hlf (zg xs (zg gs0 (zg gs1 (zg ss1 hcut))))))))))))) ?_
       have hl1:(List.take k x.groups).length<=8:=by rw [List.length_take];omega
       have hl2:(List.drop k x.groups).length<=8:=by rw [List.length_drop];omega
       refine ⟨gw _,by simp,by omega,by simp,by omega,by omega,by omega,by omega,gw _,gw _,by first|omega|(simp only [List.length_map];omega),by omega,by omega,by omega,?_⟩
       refine final _ _ _ ?_
       rw [zdp,hG,if_neg (by simp at c1 c2;simp;omega),if_neg (by simp at c3;simp;omega),hk0]
       rfl
      ·refine gq2 (zg c2 (zg c3 hgl)) ?_
       refine zeq ?_
       refine gq1 ?_
       exact bad _ _ (by rw [zdp,hG,if_neg (by simp at c1 c2;simp;omega),if_pos (by simp at c3;simp;omega)]))
  | some v=>
   obtain ⟨y,hy,hyn,hyv⟩:∃ y,x.groups[k]? = some y/\(y.1==o.group)=true/\y.2=v:=by
    rw [hadG,hk0] at hG
    cases hy:x.groups[k]? with
    | none=>rw [hy] at hG;cases hG
    | some y=>
     rw [hy] at hG
     simp only at hG
     split at hG
     ·rename_i h;cases hG;exact ⟨y,rfl,h,rfl⟩
     ·cases hG
   have hltk:=zq hy
   have hd:decide ((k:Int)<(x.groups.length:Int))=true:=by simp;omega
   have hgy:=zK (f:=zsN) hy
   have h5:Op.bytesLess y.1 o.group=false:=by
    cases h5:Op.bytesLess y.1 o.group
    ·rfl
    ·exact (hlt ⟨y,hy,h5⟩).elim
   subst hyv
   have gtk:List.take k (zcP x.groups)=zcP (x.groups.take k):=(List.map_take ..).symm
   cases c1:decide (o.offset<y.2)
   rotate_left
   ·refine gq2 (zg hd (zg hgl (zg hgy (zg h5 (zg hyn c1))))) ?_
    refine zeq ?_
    refine gq1 ?_
    exact bad _ _ (by rw [zdp,hG,if_pos (.inl (by simpa using c1))])
   refine gq2 (zg hd (zg hgl (zg hgy (zg h5 (zg hyn c1))))) ?_
   refine zoB n64 ?_
   cases c2:decide (o.offset > x.next)
   rotate_left
   ·refine gq2 c2 ?_
    refine zeq ?_
    refine gq1 ?_
    exact bad _ _ (by rw [zdp,if_pos (.inr (by simpa using c2))])
   refine gq2 (zg c2 (zg xb (zg xr (zg hgl (zg gtk (zg (gdr (k+1)) (zg (gj (k+1)) (zg hlf (zg (wkc k (by omega)) (zg xs (zg gs0 (zg gs1 (zg ss1 hcut))))))))))))) ?_
   have hl1:(List.take k x.groups).length<=8:=by rw [List.length_take];omega
   have hl2:(List.drop (k+1) x.groups).length<=8:=by rw [List.length_drop];omega
   refine ⟨gw _,by simp,by omega,by simp,by omega,by omega,by omega,by omega,gw _,gw _,by first|omega|(simp only [List.length_map];omega),by omega,by omega,by omega,?_⟩
   refine final _ _ _ ?_
   rw [zdp,hG,if_neg (by simp at c1 c2;simp;omega),if_neg (by simp),hk0]
   rfl
end Go.Proofs.YtfgbofkdhfjegaaGreat
