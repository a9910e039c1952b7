/- Contracts: a table of any byte strings, both sides. -/
import Derived.Test.YtpgahkdjkanblaaGreatId4
import Derived.Test.YtpgahkdjkanblaaGreatPt2
set_option linter.all false
set_option maxRecDepth 100000
namespace Go.Proofs.YtpgahkdjkanblaaGreat
open Go.AW
theorem zxZ {l:List (List UInt8)} {k:Nat} {x:List UInt8} (h:l[k]? = some x) (h0:(l.take k).Nodup) (hx:x ∉ l.take k):(l.take (k+1)).Nodup:=by
 rw [List.take_add_one,h]
 exact List.nodup_append.2 ⟨h0,by simp,by simp;exact fun a ha e=>hx (e ▸ ha)⟩
theorem look_some {l:List (List UInt8)} {b:List UInt8} (h:b ∈ l):(zfI l b).isSome=true:=by
 cases hh:zfI l b with
 | none=>exact absurd h (zsj hh)
 | some k=>rfl
theorem c_FromDup {σ:List zh} {l:List (List UInt8)} (hn:¬ l.Nodup) (hl0:l.length<=1048576) (hb:∀ b ∈ l,b.length<=1073741824) {K:KT}
  (hK:K (.tup [.d .nilp,.d (.int .i64 5)]) σ):zo Tryz.prog ziP [.d (.slice (zjf l))] σ K:=by
 refine zd zlA.is rfl fun hl _=>zlA.goes ?_
 have hlen:(zjf l).length=l.length:=List.length_map ..
 have hd:decide ((l.length:Int) > 1048576)=false:=by simp;omega
 simp only [zpW,iN,bT,bF,eN]
 refine zjv (zct hlen hd) ?_
 refine zyZ ?_
 refine zxB ?_
 refine zm l.length (fun k vs s=>vs = [.d (.int .i64 k)]/\s = σ++zvt σ.length (l.take k)/\(l.take k).Nodup) ⟨rfl,rfl,by simp⟩ ?_
 rintro k vs s hk ⟨rfl,rfl,hnd⟩
 by_cases hlt:k<l.length
 ·have hd:decide ((k:Int)<(l.length:Int))=true:=by simp;omega
  have hx:l[k]? = some l[k]:=by simp [hlt]
  have hgx:=zR (f:=fun b => [D.slice (bcs b)]) hx
  have hxb:=hb _ (List.getElem_mem hlt)
  obtain ⟨x,hxe⟩:∃ x,l[k]=x:=⟨_,rfl⟩
  rw [hxe] at hx hgx hxb
  have hT:zeS (σ++zvt σ.length (l.take k)) (σ.length+1) σ.length (σ.length+2) (l.take k):=by simpa using tabAt_new σ (l.take k) []
  have hP:∀ l',putTab (σ++zvt σ.length (l.take k)) (σ.length+1) σ.length (σ.length+2) l' = σ++zvt σ.length l':=fun l'=>by simpa using zxU σ (l.take k) l' []
  refine zjv (zct hlen (zct hd hgx)) ?_
  refine zwE hT ?_
  by_cases hm:x ∈ l.take k
  ·rw [look_some hm]
   refine zjv (zct hlen (zct hd hgx)) ?_
   refine zw hl ?_
   exact hK
  have hno:=ztH hm
  rw [hno]
  refine gq72 ?_
  refine c_tSum hT hxb (by rw [List.length_take];omega) ?_
  rw [hP]
  have e:zgz (l.take k) x=l.take (k+1):=by
   have h1:(l.take k).length=k:=by rw [List.length_take];omega
   rw [zgz,hno]
   simp only [h1]
   rw [if_neg (by omega),List.take_add_one,hx];rfl
  rw [e]
  have hw:IntKind.i64.wrap ((k:Int)+1)=((k+1:Nat):Int):=by rw [zas (by omega) (by omega)];rfl
  refine zjv hw ?_
  exact zaz.next hlt ⟨rfl,rfl,zxZ hx hnd hm⟩
 ·rw [List.take_of_length_le (by omega)] at hnd
  exact absurd hnd hn
theorem c_rtLookO {σ:List zh} {id t:Nat} {l:List (List UInt8)} {b:List UInt8} (hb : σ[id]? = some (.box [.own t (zjf l)])) (hl0:l.length<=1048576) {K:KT}
  (hK:K (.tup [.d (.int .i64 (zvG (zfI l b))),.d (.bool (zfI l b).isSome)]) σ):zo Tryz.prog zcL [.box id 0,.d (.slice (bcs b))] σ K:=by
 refine zd zgE.is rfl fun hl _=>zgE.goes ?_
 have hlen:(zjf l).length=l.length:=List.length_map ..
 simp only [zjq,iN,bT,bF,eN]
 refine zm l.length (fun k vs s=>vs = [.d (.int .i64 k)]/\s = σ/\zfI (l.take k) b=none) ⟨rfl,rfl,rfl⟩ ?_
 rintro k vs s hk ⟨rfl,rfl,hno⟩
 by_cases hlt:k<l.length
 ·have hd:decide ((k:Int)<(l.length:Int))=true:=by simp;omega
  have hx:l[k]? = some l[k]:=by simp [hlt]
  have hgx:=zR (f:=fun b => [D.slice (bcs b)]) hx
  obtain ⟨x,hxe⟩:∃ x,l[k]=x:=⟨_,rfl⟩
  rw [hxe] at hx hgx
  refine zjv (zct hlen (zct hd (zct hb hgx))) ?_
  refine c_rtSame ?_
  cases he:(x == b)
  ·refine zjv (wki k (by omega)) ?_
   exact zaz.next hlt ⟨rfl,rfl,look_next hx hno he⟩
  ·rw [look_hit hx hno he] at hK
   refine zjv (wki k (by omega)) ?_
   refine zw hl ?_
   exact hK
 ·have hd:decide ((k:Int)<(l.length:Int))=false:=by simp;omega
  rw [List.take_of_length_le (by omega)] at hno
  rw [hno] at hK
  refine zjv (zct hlen (zct hd hb)) ?_
  refine zw hl ?_
  exact hK
theorem gq78 {A P Q:Prop} (a:A) (h:Q) (e:A->Hd Q->P:=by intro a h;(repeat' first | simp -dsimp only [↓zeN, ↓zav, ↓zbq, ↓zeO, ↓zeH, ↓zeF, ↓zeI, ↓zeG, ↓zbv, ↓zbr, ↓zbw, ↓zbs, ↓zeJ, ↓zbp, ↓zbx, ↓zbt, ↓zby, ↓zbu, ↓zeE, ↓zeM, ↓zbo, ↓zbz, ↓zeC, ↓zeB, ↓zeD,iN,bT,bF,eN, ↓zcB, ↓unC, ↓zV, ↓zM, ↓zN, ↓zQ, ↓zY, ↓zal, ↓zdb, ↓zak, ↓zaH, ↓zT, ↓zf, ↓zj, ↓zbZ, ↓zb, ↓zag, ↓zE, ↓zaI, ↓zaO, ↓zc, ↓zy, ↓zl, ↓zG, ↓zaa, ↓zdm, ↓zdw, ↓zaj, ↓zar, ↓zaK, ↓zaS, ↓zaY, ↓zq, ↓zai, ↓zO, ↓zu, ↓zX,zdx,zbg,zbb,unA,zdd,bnd,zdY,zaf,zP,zdR,dm,dm1,zA,zae,zeh,zeg,zI,Q0,Q1,Q2,Q3,Q4,Q5,zZ,zC,zt,zL,zF,Q6,Q7,Q8,Q9,Q10,Q11,Q12,Q13,Q14,Nat.reduceAdd,Q15,Int.reduceToNat,Q16,Q17,Q18,Q19,Q20,reduceIte,Q21,Q22,zH,rep,zac,zel,toD,zah,Q23,Q24,Q25,Q26,Q27,Q28,Nat.reduceLeDiff,Q29,Nat.reduceSub,Q30,Q31,Q32,sc,Q33,Q34,Q35,Q36,Q37,Q26,Q38,Q39,zoy,zov,zos,zoz,zfG,zow,zot,zox,zou,zfF,zfH,zoB,zoC,Bool.not_true,Bool.not_false,List.length_map,Bool.and_false,Bool.and_self,Bool.false_and,Bool.true_and,Option.isSome_none,Option.isSome_some,Option.map_none,Option.map_some,beq_self_eq_true,bne_self_eq_false,a] | with_reducible refine zoE ?_ | fail);exact h.go):P:=e a ⟨h⟩
theorem c_rtFromL {σ:List zh} {l:List (List UInt8)} (hl0:l.length<=1048576) (hb:∀ b ∈ l,b.length<=1073741824) {K:KT} (ks:List zh->List Nat) (hks:l.Nodup->∀ T,ks (σ++rtO l :: T) = [σ.length]) (hks0:¬ l.Nodup->∀ s,ks s = [])
  (hN:¬ l.Nodup->K (.tup [.d .nilp,.d (.int .i64 5)]) σ) (hK:l.Nodup->K (.tup [.box σ.length 0,.d (.int .i64 0)]) (σ++[rtO l])):zo Tryz.prog zmj [.d (.slice (zjf l))] σ K:=by
 refine zwS zyF.is rfl ks fun hl _=>zyF.goes ?_
 have hlen:(zjf l).length=l.length:=List.length_map ..
 have hd:decide ((l.length:Int) > 1048576)=false:=by simp;omega
 simp only [zzr,iN,bT,bF,eN]
 refine zjv (zct hlen hd) ?_
 refine zfY l.length (fun k vs s=>vs = [.d (.int .i64 k)]/\(∃ T,s = σ ++ .box [.own (σ.length+1) (zjf (l.take k))] :: .tok 1 k :: T)/\(l.take k).Nodup) (.tokB σ.length 0 [.exact []] [] 1 (by rw [zt];rfl) rfl (by simp) (.refl _ _)) ⟨rfl,⟨[],by rw [zF];simp⟩,by simp⟩ ?_
 rintro k vs s hk ⟨rfl,⟨T,rfl⟩,hnd⟩
 have hget:(σ ++ .box [.own (σ.length+1) (zjf (l.take k))] :: .tok 1 k :: T)[σ.length]? = some (.box [.own (σ.length+1) (zjf (l.take k))]):=by rw [zt];rfl
 by_cases hlt:k<l.length
 ·have hd:decide ((k:Int)<(l.length:Int))=true:=by simp;omega
  have hx:l[k]? = some l[k]:=by simp [hlt]
  have hgx:=zR (f:=fun b => [D.slice (bcs b)]) hx
  have hxb:=hb _ (List.getElem_mem hlt)
  obtain ⟨x,hxe⟩:∃ x,l[k]=x:=⟨_,rfl⟩
  rw [hxe] at hx hgx hxb
  have hget2:∀ τ,(σ ++ .box [.own (σ.length+1) (zjf (l.take k))] :: .tok 1 k :: T ++ τ)[σ.length]? = some (.box [.own (σ.length+1) (zjf (l.take k))]):=fun τ=>zx hget
  have htok:∀ τ,(σ ++ .box [.own (σ.length+1) (zjf (l.take k))] :: .tok 1 k :: T ++ τ)[σ.length+1]? = some (.tok 1 k):=fun τ=>zx (by rw [zC];rfl)
  have hset:∀ X Y τ,((σ ++ .box [.own (σ.length+1) (zjf (l.take k))] :: .tok 1 k :: T ++ τ).set (σ.length+1) Y).set σ.length X = σ++X :: Y :: (T ++ τ):=fun X Y τ=>by rw [List.append_assoc,zL,zF];rfl
  have hget4:∀ Y τ,((σ ++ .box [.own (σ.length+1) (zjf (l.take k))] :: .tok 1 k :: T ++ τ).set (σ.length+1) Y)[σ.length]? = some (.box [.own (σ.length+1) (zjf (l.take k))]):=fun Y τ=>by rw [List.getElem?_set_ne (by omega)];exact hget2 τ
  obtain ⟨S,hS⟩:∃ S, σ ++ .box [.own (σ.length+1) (zjf (l.take k))] :: .tok 1 k :: T=S:=⟨_,rfl⟩
  have hSl:∃ T,S = σ++T:=⟨_,hS.symm⟩
  rw [hS] at hget hget2 htok hset hget4 ⊢
  refine zjv (zct hlen (zct hd hgx)) ?_
  refine c_rtLookO hget (by rw [List.length_take];omega) ?_
  by_cases hm:x ∈ l.take k
  ·have hno:¬ l.Nodup:=fun h=>by
    obtain ⟨i,hi,he⟩:=List.mem_take_iff_getElem.1 hm
    have:=(List.getElem_inj h).1 (he.trans hxe.symm)
    omega
   rw [look_some hm]
   refine zjv (zct hlen (zct hd hgx)) ?_
   obtain ⟨T',rfl⟩:=hSl
   refine endsKW_of ?_
   unfold zoG zxt
   rw [hks0 hno]
   have ht':(σ++T').take σ.length = σ:=zle _ _
   refine ⟨by simp,by rw [ht'];exact hl,by simp,by simp,?_⟩
   rw [ht']
   simp only [getL,zuX]
   have hr:zeR (zqx σ.length []) (zcO [AV.d D.nilp,AV.d (D.int .i64 5)])=some (.tup [.d .nilp,.d (.int .i64 5)]):=rfl
   rw [hr]
   simpa using hN hno
  ·have hno:=ztH hm
   rw [hno]
   have b1:∀ e ∈ bcs x,e.length=1:=zgs
   have bl:(bcs x).length=x.length:=zek x
   have t1:∀ e ∈ zjf (l.take k),e.length=1:=zhb (f:=fun b => [D.slice (bcs b)]) (fun _=>rfl) _
   have hlk:(zjf (l.take k)).length=k:=by rw [List.length_map,List.length_take];omega
   refine gq78 (zct hget (zct hget2 (zct htok (zct hset (zct hget4 (zct hgx (zct bl (zct hlk (wki k (by omega)))))))))) ?_
   exact zaz.next hlt ⟨rfl,⟨_,by rw [show zjf (l.take k)++[[D.slice (bcs x)]]=zjf (l.take (k+1)) by rw [List.take_add_one,hx];simp [zjf]]⟩,zxZ hx hnd hm⟩
 ·have hd:decide ((k:Int)<(l.length:Int))=false:=by simp;omega
  rw [List.take_of_length_le (by omega)] at hnd hget ⊢
  refine zjv (zct hlen hd) ?_
  refine ⟨_,.dataB σ.length 0 _ _ (zjf l) hget rfl rfl (.refl _ _),?_⟩
  rw [zF]
  refine zlp (σ' := σ) (os := [rtO l]) (τ := .tok 1 k :: T) rfl (hks hnd _) hl (by intro y hy;simp only [List.mem_cons,List.not_mem_nil,or_false] at hy;subst hy;exact zmQ _ _) ?_ (hK hnd)
  exact .tup _ (by simp [zfO];exact .box _ _ (by simp))
theorem c_rtFrom {σ:List zh} {l:List (List UInt8)} (hn:l.Nodup) (hl0:l.length<=1048576) (hb:∀ b ∈ l,b.length<=1073741824) {K:KT} (hK:K (.tup [.box σ.length 0,.d (.int .i64 0)]) (σ++[rtO l])):zo Tryz.prog zmj [.d (.slice (zjf l))] σ K :=
 c_rtFromL hl0 hb (fun _ => [σ.length]) (fun _ _=>rfl) (fun h=>absurd hn h) (fun h=>absurd hn h) fun _=>hK
theorem c_rtFromDup {σ:List zh} {l:List (List UInt8)} (hn:¬ l.Nodup) (hl0:l.length<=1048576) (hb:∀ b ∈ l,b.length<=1073741824) {K:KT} (hK:K (.tup [.d .nilp,.d (.int .i64 5)]) σ):zo Tryz.prog zmj [.d (.slice (zjf l))] σ K :=
 c_rtFromL hl0 hb (fun _ => []) (fun h=>absurd h hn) (fun _ _=>rfl) (fun _=>hK) fun h=>absurd h hn
end Go.Proofs.YtpgahkdjkanblaaGreat

/- The world of the laws about new views: a table and a ledger, as the program and as the document have it. -/
set_option maxRecDepth 100000
namespace Go.Proofs.YtpgahkdjkanblaaGreat
open Go.AW
def zhF (G:List zK) (l:List zK):List zK:=l.foldl (fun G s=>zjg G s.key s.dig) G
theorem signG_len (G:List zK) (k d:Int):(zjg G k d).length<=G.length+1:=by
 unfold zjg signL
 split
 ·split <;> simp
 ·omega
theorem ztl:∀ (l:List zK) (G:List zK),(zhF G l).length<=G.length+l.length
 | [],G=>by simp [zhF]
 | s :: l,G=>by
  have h1:=ztl l (zjg G s.key s.dig)
  have h2:=signG_len G s.key s.dig
  simp only [zhF,List.foldl_cons,List.length_cons] at h1 ⊢
  omega
structure WorldI (n:Nat) (S:List zh) (L:List (List UInt8)) (G:List zK):Prop where
 tab:zeS S (n+2) (n+1) (n+3) L
 rtab:S[n+4]? = some (rtO L)
 led:zev S (n+6) (n+5) (n+7) G
 rled:S[n+8]? = some (rlO G)
theorem WorldI.app {n:Nat} {S:List zh} {L:List (List UInt8)} {G:List zK} (h:WorldI n S L G) (τ:List zh):WorldI n (S ++ τ) L G:=⟨h.tab.app τ,zx h.rtab,h.led.app τ,zx h.rled⟩
def zma (n:Nat) (A:zh) (L:List (List UInt8)) (G:List zK):List zh:=A :: (zvt (n+1) L++(rtO L :: (ledO (n+5) G++[rlO G])))
theorem zxH (n:Nat) (A:zh) (L:List (List UInt8)) (G:List zK):(zma n A L G).length=9:=rfl
theorem zxI (σ:List zh) (A:zh) (L:List (List UInt8)) (G:List zK) (τ:List zh):WorldI σ.length (σ++(zma σ.length A L G ++ τ)) L G :=
 ⟨⟨by rw [zC];rfl,by rw [zC];rfl,by rw [zC];rfl⟩,by rw [zC];rfl,⟨by rw [zC];rfl,by rw [zC];rfl,by rw [zC];rfl⟩,by rw [zC];rfl⟩
theorem putLed_world (σ:List zh) (A:zh) (L:List (List UInt8)) (G G':List zK) (τ:List zh):(putLed (σ++(zma σ.length A L G ++ τ)) (σ.length+6) (σ.length+5) (σ.length+7) G').set (σ.length+8) (rlO G') = σ++(zma σ.length A L G' ++ τ):=by
 unfold putLed
 rw [zL,zL,zL,zL];rfl
abbrev ziI (tab:List (List UInt8)) (signs:List zK):zh := .box [.d (.slice (zjf tab)),.d (.slice (zap signs))]
theorem low_world (n:Nat) (tab:List (List UInt8)) (signs:List zK) (L:List (List UInt8)) (G:List zK):∀ x ∈ zma n (ziI tab signs) L G,zxv (n+(zma n (ziI tab signs) L G).length) x:=by
 intro x hx
 have h9:(zma n (ziI tab signs) L G).length=9:=rfl
 rw [h9]
 simp only [zma,List.cons_append,List.nil_append,List.mem_cons,List.not_mem_nil,or_false] at hx
 rcases hx with rfl | rfl | rfl | rfl | rfl | rfl | rfl | rfl | rfl
 ·intro c hc
  simp only [List.mem_cons,List.not_mem_nil,or_false] at hc
  rcases hc with rfl | rfl <;> exact .d _
 ·exact ztF L
 ·exact zyf (by omega) (by omega)
 ·trivial
 ·exact zmQ _ _
 ·exact ztG G
 ·exact zyf (by omega) (by omega)
 ·trivial
 ·exact ztm _ _
theorem c_made16N {σ:List zh} {tab:List (List UInt8)} {signs:List zK} (hl0:tab.length<=1048576) (hb:∀ b ∈ tab,b.length<=1073741824) (hnd:¬ tab.Nodup) {K:KT}
  (hN:K (.tup [.d .nilp,.d .nilp,.d .nilp,.d .nilp,.d (.bool false)]) σ) :
  zo Tryz.prog zgD [.agg [.d (.slice (zjf tab)),.d (.slice (zap signs))]] σ K:=by
 refine zd zgF.is rfl fun hl _=>zgF.goes ?_
 simp only [zjr,iN,bT,bF,eN]
 refine zxB ?_
 refine c_FromDup hnd hl0 hb ?_
 refine zxB ?_
 refine c_rtFromDup hnd hl0 hb ?_
 refine zxB ?_
 refine zrG ?_
 refine zjv (show ((5:Int) != 0)=true from rfl) ?_
 refine zw hl ?_
 exact hN
theorem gq79 {A P Q:Prop} (a:A) (h:Q) (e:A->Hd Q->P:=by intro a h;(repeat' first | simp -dsimp only [↓zeN, ↓zav, ↓zbq, ↓zeO, ↓zeH, ↓zeF, ↓zeI, ↓zeG, ↓zbv, ↓zbr, ↓zbw, ↓zbs, ↓zeJ, ↓zbp, ↓zbx, ↓zbt, ↓zby, ↓zbu, ↓zeE, ↓zeM, ↓zbo, ↓zbz, ↓zeC, ↓zeB, ↓zeD,iN,bT,bF,eN, ↓zcB, ↓unC, ↓zV, ↓zM, ↓zN, ↓zQ, ↓zY, ↓zal, ↓zdb, ↓zak, ↓zaH, ↓zT, ↓zf, ↓zj, ↓zbZ, ↓zb, ↓zag, ↓zE, ↓zaI, ↓zaO, ↓zc, ↓zy, ↓zl, ↓zG, ↓zaa, ↓zdm, ↓zdw, ↓zaj, ↓zar, ↓zaK, ↓zaS, ↓zaY, ↓zq, ↓zai, ↓zO, ↓zu, ↓zX,zdx,zbg,zbb,unA,zdd,bnd,zdY,zaf,zP,zdR,dm,dm1,zA,zae,zeh,zeg,zI,Q0,Q1,Q2,Q3,Q4,Q5,zZ,zC,zt,zL,zF,Q6,Q7,Q8,Q9,Q10,Q11,Q12,Q13,Q14,Nat.reduceAdd,Q15,Int.reduceToNat,Q16,Q17,Q18,Q19,Q20,reduceIte,Q21,Q22,zH,rep,zac,zel,toD,zah,Q23,Q24,Q25,Q26,Q27,Q28,Nat.reduceLeDiff,Q29,Nat.reduceSub,Q30,Q31,Q32,sc,Q33,Q34,Q35,Q36,Q37,Q26,Q38,Q39,zoy,zov,zos,zoz,zfG,zow,zot,zox,zou,zfF,zfH,zoB,zoC,Bool.not_true,Bool.not_false,List.length_map,zaE,zed,zdX,opA,zew,zgf,zbc,a] | with_reducible refine zoE ?_ | fail);exact h.go):P:=e a ⟨h⟩
theorem c_made16 {σ:List zh} {tab:List (List UInt8)} {signs:List zK} (hl0:tab.length<=1048576) (hb:∀ b ∈ tab,b.length<=1073741824) (hs:signs.length<=1048576) (hnd:tab.Nodup) {K:KT}
  (hK:∀ W,W.length=9->WorldI σ.length (σ++W) tab (zhF [] signs)->K (.tup [.box (σ.length+2) 0,.box (σ.length+6) 0,.box (σ.length+4) 0,.box (σ.length+8) 0,.d (.bool true)]) (σ++W)) :
  zo Tryz.prog zgD [.agg [.d (.slice (zjf tab)),.d (.slice (zap signs))]] σ K:=by
 refine zwS zgF.is rfl (fun _=>List.range' σ.length 9) fun hl _=>zgF.goes ?_
 have hsl:(zap signs).length=signs.length:=List.length_map ..
 simp only [zjr,iN,bT,bF,eN]
 refine zxB ?_
 refine c_From hnd hl0 hb ?_
 have hl1:(σ++[ziI tab signs]).length = σ.length+1:=by simp
 rw [hl1]
 obtain ⟨S2,hS2⟩:∃ S2, σ++[ziI tab signs]++zvt (σ.length+1) tab=S2:=⟨_,rfl⟩
 have hg2:S2[σ.length]? = some (ziI tab signs):=by rw [← hS2];exact zx (by rw [zt];rfl)
 have hl2:S2.length = σ.length+4:=by rw [← hS2];simp
 rw [hS2]
 obtain ⟨n2,hn2⟩:∃ n, σ.length+1+1=n:=⟨_,rfl⟩
 rw [hn2]
 refine zjv hg2 ?_
 refine c_rtFrom hnd hl0 hb ?_
 rw [hl2]
 obtain ⟨S3,hS3⟩:∃ S3,S2++[rtO tab]=S3:=⟨_,rfl⟩
 have hg3:S3[σ.length]? = some (ziI tab signs):=by rw [← hS3];exact zx hg2
 have hl3:S3.length = σ.length+5:=by rw [← hS3];simp [hl2]
 rw [hS3]
 obtain ⟨n4,hn4⟩:∃ n, σ.length+4=n:=⟨_,rfl⟩
 rw [hn4]
 refine zjv hg3 ?_
 refine zrG ?_
 rw [hl3]
 obtain ⟨S4,hS4⟩:∃ S4,S3++ledO (σ.length+5) []=S4:=⟨_,rfl⟩
 have hg4:∀ τ,(S4 ++ τ)[σ.length]? = some (ziI tab signs):=fun τ=>by rw [← hS4];exact zx (zx hg3)
 have hl4:S4.length = σ.length+8:=by rw [← hS4];simp [hl3]
 rw [hS4]
 obtain ⟨n6,hn6⟩:∃ n, σ.length+5+1=n:=⟨_,rfl⟩
 rw [hn6]
 refine zjv (zct hg4 hsl) ?_
 rw [hl4]
 obtain ⟨n8,hn8⟩:∃ n, σ.length+8=n:=⟨_,rfl⟩
 rw [hn8]
 have hW0:(S4++[zh.box [AV.exact []]]).set n8 (.box (([AV.exact []]:List AV).set 0 (.d (.slice [])))) = σ++zma σ.length (ziI tab signs) tab []:=by
  rw [← hn8, ← hl4,zF, ← hS4, ← hS3, ← hS2]
  simp [zma,rlO]
 refine zfY signs.length (fun k vs S=>vs = [.d (.int .i64 k)]/\∃ T,S = σ++(zma σ.length (ziI tab signs) tab (zhF [] (signs.take k))++T)) (.dataB n8 0 [.exact []] (.exact []) [] (by rw [← hn8, ← hl4,zt];rfl) rfl rfl (.refl _ _)) ⟨rfl,[],by rw [hW0];simp [zhF]⟩ ?_
 rintro k vs S hk ⟨rfl,T,rfl⟩
 have hI:=zxI σ (ziI tab signs) tab (zhF [] (signs.take k)) T
 have hgl:(zhF [] (signs.take k)).length<=1048576:=by
  have:=ztl (signs.take k) []
  have hlk:(signs.take k).length<=signs.length:=by rw [List.length_take];omega
  simp only [List.length_nil,Nat.zero_add] at this
  omega
 by_cases hlt:k<signs.length
 ·have hd:decide ((k:Int)<(signs.length:Int))=true:=by simp;omega
  have hx:signs[k]? = some signs[k]:=by simp [hlt]
  have hgx:=zR (f:=zgf) hx
  obtain ⟨x,hxe⟩:∃ x,signs[k]=x:=⟨_,rfl⟩
  rw [hxe] at hx hgx
  have hnx:zhF [] (signs.take (k+1))=zjg (zhF [] (signs.take k)) x.key x.dig:=by
   rw [List.take_add_one,hx];simp [zhF]
  have hput:=putLed_world σ (ziI tab signs) tab (zhF [] (signs.take k)) (zjg (zhF [] (signs.take k)) x.key x.dig) T
  obtain ⟨G,hG⟩:∃ G,zhF [] (signs.take k)=G:=⟨_,rfl⟩
  rw [hG] at hI hgl hnx hput ⊢
  obtain ⟨S,hS⟩:∃ S, σ++(zma σ.length (ziI tab signs) tab G++T)=S:=⟨_,rfl⟩
  rw [hS] at hI hput ⊢
  have hled:=hI.led
  have hlen6 : σ.length+6=n6:=by omega
  rw [hlen6] at hled hput
  rw [hn8] at hput
  refine gq79 (zct hd (zct hgx hsl)) ?_
  refine c_gSign (hled.app _) (by omega) ?_
  rw [ztp hled]
  obtain ⟨S',hS'⟩:∃ S',putLed S n6 (σ.length+5) (σ.length+7) (zjg G x.key x.dig)=S':=⟨_,rfl⟩
  have hSl:S'.length=S.length:=by rw [← hS',zxV]
  have hrl:S'[n8]? = some (rlO G):=by
   rw [← hS', ← hn8]
   unfold putLed
   rw [List.getElem?_set_ne (by omega),List.getElem?_set_ne (by omega),List.getElem?_set_ne (by omega)]
   exact hI.rled
  have hbx:(S' ++ [zh.box [.d (.int .i64 x.key),.d (.int .i64 x.dig)]])[S.length]? = some (.box [.d (.int .i64 x.key),.d (.int .i64 x.dig)]):=by rw [← hSl,zt];rfl
  rw [hS'] at hput ⊢
  refine zjv hbx ?_
  refine c_rgSign (zx hrl) (by omega) ?_
  rw [zbS hrl,hput]
  refine zjv (wki k (by omega)) ?_
  exact zaz.next hlt ⟨rfl,T++[zh.box [.d (.int .i64 x.key),.d (.int .i64 x.dig)]],by rw [hnx];try simp⟩
 ·have hd:decide ((k:Int)<(signs.length:Int))=false:=by simp;omega
  rw [List.take_of_length_le (by omega)] at hI ⊢
  have hI':=zxI σ (ziI tab signs) tab (zhF [] signs) []
  rw [List.append_nil] at hI'
  refine zjv (zct hd hsl) ?_
  refine endsKW_of ?_
  refine zlp (σ' := σ) (os:=zma σ.length (ziI tab signs) tab (zhF [] signs)) (τ:=T) rfl rfl hl (low_world _ _ _ _ _) ?_ ?_
  ·rw [zxH]
   have a:∀ k,k<9->Low (σ.length+9) (.box (σ.length+k) 0):=fun k hk => .box _ _ (by omega)
   subst hn2 hn4 hn6 hn8
   refine .tup _ ?_
   intro c hc
   simp only [List.mem_cons,List.not_mem_nil,or_false] at hc
   rcases hc with rfl | rfl | rfl | rfl | rfl
   ·exact a 2 (by omega)
   ·exact a 6 (by omega)
   ·exact a 4 (by omega)
   ·exact a 8 (by omega)
   ·exact .d _
  ·subst hn2 hn4 hn6 hn8
   exact hK _ (zxH ..) hI'
end Go.Proofs.YtpgahkdjkanblaaGreat
