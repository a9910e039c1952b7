/- Contracts: a table of any byte strings, both sides. -/
import Derived.Test.YtpgahkdjkanblaaGreatId3
import Derived.Test.YtpgahkdjkanblaaGreatPt2
set_option linter.all false
set_option maxRecDepth 100000
namespace Go.Proofs.YtpgahkdjkanblaaGreat
open Go.AW
theorem zyJ {l:List (List UInt8)} {k:Nat} {x:List UInt8} (h:l[k]? = some x) (h0:(l.take k).Nodup) (hx:x ∉ l.take k):(l.take (k+1)).Nodup:=by
 rw [List.take_add_one,h]
 exact List.nodup_append.2 ⟨h0,by simp,by simp;exact fun a ha e=>hx (e▸ha)⟩
theorem look_some {l:List (List UInt8)} {b:List UInt8} (h:b∈l):(zev l b).isSome=true:=by
 cases hh:zev l b with
 | none=>exact absurd h (zsa hh)
 | some k=>rfl
theorem c_FromDup {σ:List zd} {l:List (List UInt8)} (hn:¬ l.Nodup) (hl0:l.length<=1048576) (hb:∀ b∈l,b.length<=1073741824) {K:KT}
  (hK:K (.tup [.d .nilp,.d (.int .i64 5)]) σ):zj Tryz.prog ziK [.d (.slice (ziF l))] σ K:=by
 refine zdZ zoR fun hl => ?_
 have hlen:(ziF l).length=l.length:=List.length_map ..
 have hd:decide ((l.length:Int) > 1048576)=false:=by simp;omega
 simp only [zpr,iN,bT,bF,eN]
 refine zjv (zcg hlen hd) ?_
 refine zzs ?_
 refine zxV ?_
 refine zl l.length (fun k vs s=>vs = [.d (.int .i64 k)]/\s = σ++zvF σ.length (l.take k)/\(l.take k).Nodup) ⟨rfl,rfl,by simp⟩ ?_
 rintro k vs s hk ⟨rfl,rfl,hnd⟩
 by_cases hlt:k<l.length
 ·have hd:decide ((k:Int)<(l.length:Int))=true:=by simp;omega
  have hx:l[k]? = some l[k]:=by simp [hlt]
  have hgx:=zF (f:=fun b => [D.slice (bcs b)]) hx
  have hxb:=hb _ (List.getElem_mem hlt)
  obtain ⟨x,hxe⟩:∃ x,l[k]=x:=⟨_,rfl⟩
  rw [hxe] at hx hgx hxb
  have hT:zea (σ++zvF σ.length (l.take k)) (σ.length+1) σ.length (σ.length+2) (l.take k):=by simpa using tabAt_new σ (l.take k) []
  have hP:∀ l',putTab (σ++zvF σ.length (l.take k)) (σ.length+1) σ.length (σ.length+2) l' = σ++zvF σ.length l':=fun l'=>by simpa using zyD σ (l.take k) l' []
  refine zjv (zcg hlen (zcg hd hgx)) ?_
  refine ztQ hT ?_
  by_cases hm:x∈l.take k
  ·rw [look_some hm]
   refine zjv (zcg hlen (zcg hd hgx)) ?_
   refine zt hl ?_
   exact hK
  have hno:=zty hm
  rw [hno]
  refine gq50 ?_
  refine c_tSum hT hxb (by rw [List.length_take];omega) ?_
  rw [hP]
  have e:zgn (l.take k) x=l.take (k+1):=by
   have h1:(l.take k).length=k:=by rw [List.length_take];omega
   rw [zgn,hno]
   simp only [h1]
   rw [if_neg (by omega),List.take_add_one,hx];rfl
  rw [e]
  have hw:IntKind.i64.wrap ((k:Int)+1)=((k+1:Nat):Int):=by rw [zab (by omega) (by omega)];rfl
  refine zjv hw ?_
  exact zan.next hlt ⟨rfl,rfl,zyJ hx hnd hm⟩
 ·rw [List.take_of_length_le (by omega)] at hnd
  exact absurd hnd hn
theorem c_rtLookO {σ:List zd} {id t:Nat} {l:List (List UInt8)} {b:List UInt8} (hb : σ[id]? = some (.box [.own t (ziF l)])) (hl0:l.length<=1048576) {K:KT}
  (hK:K (.tup [.d (.int .i64 (zlS (zev l b))),.d (.bool (zev l b).isSome)]) σ):zj Tryz.prog zcd [.box id 0,.d (.slice (bcs b))] σ K:=by
 refine zeE znr fun hl => ?_
 have hlen:(ziF l).length=l.length:=List.length_map ..
 simp only [zjp,iN,bT,bF,eN]
 refine zl l.length (fun k vs s=>vs = [.d (.int .i64 k)]/\s = σ/\zev (l.take k) b=none) ⟨rfl,rfl,rfl⟩ ?_
 rintro k vs s hk ⟨rfl,rfl,hno⟩
 by_cases hlt:k<l.length
 ·have hd:decide ((k:Int)<(l.length:Int))=true:=by simp;omega
  have hx:l[k]? = some l[k]:=by simp [hlt]
  have hgx:=zF (f:=fun b => [D.slice (bcs b)]) hx
  obtain ⟨x,hxe⟩:∃ x,l[k]=x:=⟨_,rfl⟩
  rw [hxe] at hx hgx
  refine zjv (zcg hlen (zcg hd (zcg hb hgx))) ?_
  refine c_rtSame ?_
  cases he:(x==b)
  ·refine zjv (wki k (by omega)) ?_
   exact zan.next hlt ⟨rfl,rfl,look_next hx hno he⟩
  ·rw [look_hit hx hno he] at hK
   refine zjv (wki k (by omega)) ?_
   refine zt hl ?_
   exact hK
 ·have hd:decide ((k:Int)<(l.length:Int))=false:=by simp;omega
  rw [List.take_of_length_le (by omega)] at hno
  rw [hno] at hK
  refine zjv (zcg hlen (zcg hd hb)) ?_
  refine zt hl ?_
  exact hK
theorem gq55 {A P Q:Prop} (a:A) (h:Q) (e:A->Hd Q->P:=by intro a h;(repeat' first|simp -dsimp only [↓zhL, ↓zbi, ↓zcI, ↓zhM, ↓zhF, ↓zhD, ↓zhG, ↓zhE, ↓zcN, ↓zcJ, ↓zcO, ↓zcK, ↓zhH, ↓zcH, ↓zcP, ↓zcL, ↓zcQ, ↓zcM, ↓zhC, ↓zhK, ↓zcG, ↓zcR, ↓zhz, ↓zhy, ↓zhB,iN,bT,bF,eN, ↓zdT, ↓unC, ↓zam, ↓zY, ↓zZ, ↓zae, ↓zax, ↓zag, ↓zeQ, ↓zap, ↓zaQ, ↓zW, ↓zg, ↓zh, ↓zcW, ↓zb, ↓zaC, ↓zG, ↓zbv, ↓zbE, ↓zc, ↓zE, ↓zq, ↓zK, ↓zao, ↓zft, ↓zfB, ↓zaL, ↓zaX, ↓zbm, ↓zbC, ↓zcj, ↓zI, ↓zaH, ↓zaa, ↓zM, ↓zaw,zfE,zcw,zcp,unA,zeT,bnd,zgq,zaA,zL,zga,dm,dm1,zw,zad,zgP,zgO,zH,Q0,Q1,Q2,Q3,Q4,Q5,zay,zB,zD,zT,zP,Q6,Q7,Q8,Q9,Q10,Q11,Q12,Q13,Q14,Nat.reduceAdd,Q15,Int.reduceToNat,Q16,Q17,Q18,Q19,Q20,reduceIte,Q21,Q22,zU,rep,zar,zgW,toD,zaz,Q23,Q24,Q25,Q26,Q27,Q28,Nat.reduceLeDiff,Q29,Nat.reduceSub,Q30,Q31,Q32,sc,Q33,Q34,Q35,Q36,Q37,Q26,Q38,Q39,zwb,zvY,zvV,zwc,zks,zvZ,zvW,zwa,zvX,zkr,zkt,zwl,zwm,Bool.not_true,Bool.not_false,List.length_map,Bool.and_false,Bool.and_self,Bool.false_and,Bool.not_false,Bool.not_true,Bool.true_and,Int.toNat_natCast,Int.toNat_zero,List.drop_zero,List.length_map,List.length_nil,List.nil_append,List.take_length,Nat.sub_zero,Nat.zero_add,Option.isSome_none,Option.isSome_some,Option.map_none,Option.map_some,zX,beq_self_eq_true,bne_self_eq_false,a]|with_reducible refine zxk ?_|fail);exact h.go):P:=e a ⟨h⟩
theorem c_rtFromL {σ:List zd} {l:List (List UInt8)} (hl0:l.length<=1048576) (hb:∀ b∈l,b.length<=1073741824) {K:KT} (ks:List zd->List Nat) (hks:l.Nodup->∀ T,ks (σ++rtO l::T) = [σ.length]) (hks0:¬ l.Nodup->∀ s,ks s = [])
  (hN:¬ l.Nodup->K (.tup [.d .nilp,.d (.int .i64 5)]) σ) (hK:l.Nodup->K (.tup [.box σ.length 0,.d (.int .i64 0)]) (σ++[rtO l])):zj Tryz.prog zlV [.d (.slice (ziF l))] σ K:=by
 refine zxn zzg.is rfl ks fun hl _=>zzg.goes ?_
 have hlen:(ziF l).length=l.length:=List.length_map ..
 have hd:decide ((l.length:Int) > 1048576)=false:=by simp;omega
 simp only [zzK,iN,bT,bF,eN]
 refine zjv (zcg hlen hd) ?_
 refine zck l.length (fun k vs s=>vs = [.d (.int .i64 k)]/\(∃ T,s = σ ++ .box [.own (σ.length+1) (ziF (l.take k))]::.tok 1 k::T)/\(l.take k).Nodup) (.tokB σ.length 0 [.exact []] [] 1 (by rw [zD];rfl) rfl (by simp) (.refl _ _)) ⟨rfl,⟨[],by rw [zP];simp⟩,by simp⟩ ?_
 rintro k vs s hk ⟨rfl,⟨T,rfl⟩,hnd⟩
 have hget:(σ ++ .box [.own (σ.length+1) (ziF (l.take k))]::.tok 1 k::T)[σ.length]? = some (.box [.own (σ.length+1) (ziF (l.take k))]):=by rw [zD];rfl
 by_cases hlt:k<l.length
 ·have hd:decide ((k:Int)<(l.length:Int))=true:=by simp;omega
  have hx:l[k]? = some l[k]:=by simp [hlt]
  have hgx:=zF (f:=fun b => [D.slice (bcs b)]) hx
  have hxb:=hb _ (List.getElem_mem hlt)
  obtain ⟨x,hxe⟩:∃ x,l[k]=x:=⟨_,rfl⟩
  rw [hxe] at hx hgx hxb
  have hget2:∀ τ,(σ ++ .box [.own (σ.length+1) (ziF (l.take k))]::.tok 1 k::T ++ τ)[σ.length]? = some (.box [.own (σ.length+1) (ziF (l.take k))]):=fun τ=>zn hget
  have htok:∀ τ,(σ ++ .box [.own (σ.length+1) (ziF (l.take k))]::.tok 1 k::T ++ τ)[σ.length+1]? = some (.tok 1 k):=fun τ=>zn (by rw [zB];rfl)
  have hset:∀ X Y τ,((σ ++ .box [.own (σ.length+1) (ziF (l.take k))]::.tok 1 k::T ++ τ).set (σ.length+1) Y).set σ.length X = σ++X::Y::(T ++ τ):=fun X Y τ=>by rw [List.append_assoc,zT,zP];rfl
  have hget4:∀ Y τ,((σ ++ .box [.own (σ.length+1) (ziF (l.take k))]::.tok 1 k::T ++ τ).set (σ.length+1) Y)[σ.length]? = some (.box [.own (σ.length+1) (ziF (l.take k))]):=fun Y τ=>by rw [List.getElem?_set_ne (by omega)];exact hget2 τ
  obtain ⟨S,hS⟩:∃ S, σ ++ .box [.own (σ.length+1) (ziF (l.take k))]::.tok 1 k::T=S:=⟨_,rfl⟩
  have hSl:∃ T,S = σ++T:=⟨_,hS.symm⟩
  rw [hS] at hget hget2 htok hset hget4 ⊢
  refine zjv (zcg hlen (zcg hd hgx)) ?_
  refine c_rtLookO hget (by rw [List.length_take];omega) ?_
  by_cases hm:x∈l.take k
  ·have hno:¬ l.Nodup:=fun h=>by
    obtain ⟨i,hi,he⟩:=List.mem_take_iff_getElem.1 hm
    have:=(List.getElem_inj h).1 (he.trans hxe.symm)
    omega
   rw [look_some hm]
   refine zjv (zcg hlen (zcg hd hgx)) ?_
   obtain ⟨T',rfl⟩:=hSl
   refine endsKW_of ?_
   unfold zoj zrC
   rw [hks0 hno]
   have ht':(σ++T').take σ.length = σ:=zlc _ _
   refine ⟨by simp,by rw [ht'];exact hl,by simp,by simp,?_⟩
   rw [ht']
   simp only [getL,zte]
   have hr:zdY (zkW σ.length []) (zcq [AV.d D.nilp,AV.d (D.int .i64 5)])=some (.tup [.d .nilp,.d (.int .i64 5)]):=rfl
   rw [hr]
   simpa using hN hno
  ·have hno:=zty hm
   rw [hno]
   have b1:∀ e∈bcs x,e.length=1:=zez
   have bl:(bcs x).length=x.length:=zX x
   have t1:∀ e∈ziF (l.take k),e.length=1:=zec (f:=fun b => [D.slice (bcs b)]) (fun _=>rfl) _
   have hlk:(ziF (l.take k)).length=k:=by rw [List.length_map,List.length_take];omega
   refine gq55 (zcg hget (zcg hget2 (zcg htok (zcg hset (zcg hget4 (zcg hgx (zcg bl (zcg hlk (wki k (by omega)))))))))) ?_
   exact zan.next hlt ⟨rfl,⟨_,by rw [show ziF (l.take k)++[[D.slice (bcs x)]]=ziF (l.take (k+1)) by rw [List.take_add_one,hx];simp [ziF]]⟩,zyJ hx hnd hm⟩
 ·have hd:decide ((k:Int)<(l.length:Int))=false:=by simp;omega
  rw [List.take_of_length_le (by omega)] at hnd hget ⊢
  refine zjv (zcg hlen hd) ?_
  refine ⟨_,.dataB σ.length 0 _ _ (ziF l) hget rfl rfl (.refl _ _),?_⟩
  rw [zP]
  refine zll (σ' := σ) (os := [rtO l]) (τ := .tok 1 k::T) rfl (hks hnd _) hl (by intro y hy;simp only [List.mem_cons,List.not_mem_nil,or_false] at hy;subst hy;exact zmF _ _) ?_ (hK hnd)
  exact .tup _ (by simp [zfF];exact .box _ _ (by simp))
theorem c_rtFrom {σ:List zd} {l:List (List UInt8)} (hn:l.Nodup) (hl0:l.length<=1048576) (hb:∀ b∈l,b.length<=1073741824) {K:KT} (hK:K (.tup [.box σ.length 0,.d (.int .i64 0)]) (σ++[rtO l])):zj Tryz.prog zlV [.d (.slice (ziF l))] σ K:=
 c_rtFromL hl0 hb (fun _ => [σ.length]) (fun _ _=>rfl) (fun h=>absurd hn h) (fun h=>absurd hn h) fun _=>hK
theorem c_rtFromDup {σ:List zd} {l:List (List UInt8)} (hn:¬ l.Nodup) (hl0:l.length<=1048576) (hb:∀ b∈l,b.length<=1073741824) {K:KT} (hK:K (.tup [.d .nilp,.d (.int .i64 5)]) σ):zj Tryz.prog zlV [.d (.slice (ziF l))] σ K:=
 c_rtFromL hl0 hb (fun _ => []) (fun h=>absurd h hn) (fun _ _=>rfl) (fun _=>hK) fun h=>absurd h hn
def zhO (G:List zy) (l:List zy):List zy:=l.foldl (fun G s=>zie G s.key s.dig) G
theorem signG_len (G:List zy) (k d:Int):(zie G k d).length<=G.length+1:=by
 unfold zie zzU
 split
 ·split<;>simp
 ·omega
theorem ztb:∀ (l:List zy) (G:List zy),(zhO G l).length<=G.length+l.length
 | [],G=>by simp [zhO]
 | s::l,G=>by
  have h1:=ztb l (zie G s.key s.dig)
  have h2:=signG_len G s.key s.dig
  simp only [zhO,List.foldl_cons,List.length_cons] at h1 ⊢
  omega
structure WorldI (n:Nat) (S:List zd) (L:List (List UInt8)) (G:List zy):Prop where
 tab:zea S (n+2) (n+1) (n+3) L
 rtab:S[n+4]? = some (rtO L)
 led:zdL S (n+6) (n+5) (n+7) G
 rled:S[n+8]? = some (rlO G)
theorem WorldI.app {n:Nat} {S:List zd} {L:List (List UInt8)} {G:List zy} (h:WorldI n S L G) (τ:List zd):WorldI n (S ++ τ) L G:=⟨h.tab.app τ,zn h.rtab,h.led.app τ,zn h.rled⟩
def zlN (n:Nat) (A:zd) (L:List (List UInt8)) (G:List zy):List zd:=A::(zvF (n+1) L++(rtO L::(ledO (n+5) G++[rlO G])))
theorem zyq (n:Nat) (A:zd) (L:List (List UInt8)) (G:List zy):(zlN n A L G).length=9:=rfl
theorem zyr (σ:List zd) (A:zd) (L:List (List UInt8)) (G:List zy) (τ:List zd):WorldI σ.length (σ++(zlN σ.length A L G ++ τ)) L G:=
 ⟨⟨by rw [zB];rfl,by rw [zB];rfl,by rw [zB];rfl⟩,by rw [zB];rfl,⟨by rw [zB];rfl,by rw [zB];rfl,by rw [zB];rfl⟩,by rw [zB];rfl⟩
theorem putLed_world (σ:List zd) (A:zd) (L:List (List UInt8)) (G G':List zy) (τ:List zd):(putLed (σ++(zlN σ.length A L G ++ τ)) (σ.length+6) (σ.length+5) (σ.length+7) G').set (σ.length+8) (rlO G') = σ++(zlN σ.length A L G' ++ τ):=by
 unfold putLed
 rw [zT,zT,zT,zT];rfl
abbrev ziD (tab:List (List UInt8)) (signs:List zy):zd := .box [.d (.slice (ziF tab)),.d (.slice (zO signs))]
theorem low_world (n:Nat) (tab:List (List UInt8)) (signs:List zy) (L:List (List UInt8)) (G:List zy):∀ x∈zlN n (ziD tab signs) L G,zvA (n+(zlN n (ziD tab signs) L G).length) x:=by
 intro x hx
 have h9:(zlN n (ziD tab signs) L G).length=9:=rfl
 rw [h9]
 simp only [zlN,List.cons_append,List.nil_append,List.mem_cons,List.not_mem_nil,or_false] at hx
 rcases hx with rfl|rfl|rfl|rfl|rfl|rfl|rfl|rfl|rfl
 ·intro c hc
  simp only [List.mem_cons,List.not_mem_nil,or_false] at hc
  rcases hc with rfl|rfl<;>exact .d _
 ·exact ztw L
 ·exact zyP (by omega) (by omega)
 ·trivial
 ·exact zmF _ _
 ·exact ztx G
 ·exact zyP (by omega) (by omega)
 ·trivial
 ·exact ztc _ _
theorem c_made16N {σ:List zd} {tab:List (List UInt8)} {signs:List zy} (hl0:tab.length<=1048576) (hb:∀ b∈tab,b.length<=1073741824) (hnd:¬ tab.Nodup) {K:KT}
  (hN:K (.tup [.d .nilp,.d .nilp,.d .nilp,.d .nilp,.d (.bool false)]) σ) :
  zj Tryz.prog zgD [.agg [.d (.slice (ziF tab)),.d (.slice (zO signs))]] σ K:=by
 refine zdZ zjo fun hl => ?_
 simp only [zjq,iN,bT,bF,eN]
 refine zxV ?_
 refine c_FromDup hnd hl0 hb ?_
 refine zxV ?_
 refine c_rtFromDup hnd hl0 hb ?_
 refine zxV ?_
 refine zrt ?_
 refine zjv (show ((5:Int) != 0)=true from rfl) ?_
 refine zt hl ?_
 exact hN
theorem c_made16 {σ:List zd} {tab:List (List UInt8)} {signs:List zy} (hl0:tab.length<=1048576) (hb:∀ b∈tab,b.length<=1073741824) (hs:signs.length<=1048576) (hnd:tab.Nodup) {K:KT}
  (hK:∀ W,W.length=9->WorldI σ.length (σ++W) tab (zhO [] signs)->K (.tup [.box (σ.length+2) 0,.box (σ.length+6) 0,.box (σ.length+4) 0,.box (σ.length+8) 0,.d (.bool true)]) (σ++W)) :
  zj Tryz.prog zgD [.agg [.d (.slice (ziF tab)),.d (.slice (zO signs))]] σ K:=by
 refine zxn zjo.is rfl (fun _=>List.range' σ.length 9) fun hl _=>zjo.goes ?_
 have hsl:(zO signs).length=signs.length:=List.length_map ..
 simp only [zjq,iN,bT,bF,eN]
 refine zxV ?_
 refine c_From hnd hl0 hb ?_
 have hl1:(σ++[ziD tab signs]).length = σ.length+1:=by simp
 rw [hl1]
 obtain ⟨S2,hS2⟩:∃ S2, σ++[ziD tab signs]++zvF (σ.length+1) tab=S2:=⟨_,rfl⟩
 have hg2:S2[σ.length]? = some (ziD tab signs):=by rw [← hS2];exact zn (by rw [zD];rfl)
 have hl2:S2.length = σ.length+4:=by rw [← hS2];simp
 rw [hS2]
 obtain ⟨n2,hn2⟩:∃ n, σ.length+1+1=n:=⟨_,rfl⟩
 rw [hn2]
 refine zjv hg2 ?_
 refine c_rtFrom hnd hl0 hb ?_
 rw [hl2]
 obtain ⟨S3,hS3⟩:∃ S3,S2++[rtO tab]=S3:=⟨_,rfl⟩
 have hg3:S3[σ.length]? = some (ziD tab signs):=by rw [← hS3];exact zn hg2
 have hl3:S3.length = σ.length+5:=by rw [← hS3];simp [hl2]
 rw [hS3]
 obtain ⟨n4,hn4⟩:∃ n, σ.length+4=n:=⟨_,rfl⟩
 rw [hn4]
 refine zjv hg3 ?_
 refine zrt ?_
 rw [hl3]
 obtain ⟨S4,hS4⟩:∃ S4,S3++ledO (σ.length+5) []=S4:=⟨_,rfl⟩
 have hg4:∀ τ,(S4 ++ τ)[σ.length]? = some (ziD tab signs):=fun τ=>by rw [← hS4];exact zn (zn hg3)
 have hl4:S4.length = σ.length+8:=by rw [← hS4];simp [hl3]
 rw [hS4]
 obtain ⟨n6,hn6⟩:∃ n, σ.length+5+1=n:=⟨_,rfl⟩
 rw [hn6]
 refine zjv (zcg hg4 hsl) ?_
 rw [hl4]
 obtain ⟨n8,hn8⟩:∃ n, σ.length+8=n:=⟨_,rfl⟩
 rw [hn8]
 have hW0:(S4++[zd.box [AV.exact []]]).set n8 (.box (([AV.exact []]:List AV).set 0 (.d (.slice [])))) = σ++zlN σ.length (ziD tab signs) tab []:=by
  rw [← hn8, ← hl4,zP, ← hS4, ← hS3, ← hS2]
  simp [zlN,rlO]
 refine zck signs.length (fun k vs S=>vs = [.d (.int .i64 k)]/\∃ T,S = σ++(zlN σ.length (ziD tab signs) tab (zhO [] (signs.take k))++T)) (.dataB n8 0 [.exact []] (.exact []) [] (by rw [← hn8, ← hl4,zD];rfl) rfl rfl (.refl _ _)) ⟨rfl,[],by rw [hW0];simp [zhO]⟩ ?_
 rintro k vs S hk ⟨rfl,T,rfl⟩
 have hI:=zyr σ (ziD tab signs) tab (zhO [] (signs.take k)) T
 have hgl:(zhO [] (signs.take k)).length<=1048576:=by
  have:=ztb (signs.take k) []
  have hlk:(signs.take k).length<=signs.length:=by rw [List.length_take];omega
  simp only [List.length_nil,Nat.zero_add] at this
  omega
 by_cases hlt:k<signs.length
 ·have hd:decide ((k:Int)<(signs.length:Int))=true:=by simp;omega
  have hx:signs[k]? = some signs[k]:=by simp [hlt]
  have hgx:=zF (f:=zfi) hx
  obtain ⟨x,hxe⟩:∃ x,signs[k]=x:=⟨_,rfl⟩
  rw [hxe] at hx hgx
  have hnx:zhO [] (signs.take (k+1))=zie (zhO [] (signs.take k)) x.key x.dig:=by
   rw [List.take_add_one,hx];simp [zhO]
  have hput:=putLed_world σ (ziD tab signs) tab (zhO [] (signs.take k)) (zie (zhO [] (signs.take k)) x.key x.dig) T
  obtain ⟨G,hG⟩:∃ G,zhO [] (signs.take k)=G:=⟨_,rfl⟩
  rw [hG] at hI hgl hnx hput ⊢
  obtain ⟨S,hS⟩:∃ S, σ++(zlN σ.length (ziD tab signs) tab G++T)=S:=⟨_,rfl⟩
  rw [hS] at hI hput ⊢
  have hled:=hI.led
  have hlen6 : σ.length+6=n6:=by omega
  rw [hlen6] at hled hput
  rw [hn8] at hput
  refine gq53 (zcg hd (zcg hgx hsl)) ?_
  refine c_gSign (hled.app _) (by omega) ?_
  rw [zth hled]
  obtain ⟨S',hS'⟩:∃ S',putLed S n6 (σ.length+5) (σ.length+7) (zie G x.key x.dig)=S':=⟨_,rfl⟩
  have hSl:S'.length=S.length:=by rw [← hS',zyE]
  have hrl:S'[n8]? = some (rlO G):=by
   rw [← hS', ← hn8]
   unfold putLed
   rw [List.getElem?_set_ne (by omega),List.getElem?_set_ne (by omega),List.getElem?_set_ne (by omega)]
   exact hI.rled
  have hbx:(S' ++ [zd.box [.d (.int .i64 x.key),.d (.int .i64 x.dig)]])[S.length]? = some (.box [.d (.int .i64 x.key),.d (.int .i64 x.dig)]):=by rw [← hSl,zD];rfl
  rw [hS'] at hput ⊢
  refine zjv hbx ?_
  refine c_rgSign (zn hrl) (by omega) ?_
  rw [zbB hrl,hput]
  refine zjv (wki k (by omega)) ?_
  exact zan.next hlt ⟨rfl,T++[zd.box [.d (.int .i64 x.key),.d (.int .i64 x.dig)]],by rw [hnx];try simp⟩
 ·have hd:decide ((k:Int)<(signs.length:Int))=false:=by simp;omega
  rw [List.take_of_length_le (by omega)] at hI ⊢
  have hI':=zyr σ (ziD tab signs) tab (zhO [] signs) []
  rw [List.append_nil] at hI'
  refine zjv (zcg hd hsl) ?_
  refine endsKW_of ?_
  refine zll (σ' := σ) (os:=zlN σ.length (ziD tab signs) tab (zhO [] signs)) (τ:=T) rfl rfl hl (low_world _ _ _ _ _) ?_ ?_
  ·rw [zyq]
   have a:∀ k,k<9->Low (σ.length+9) (.box (σ.length+k) 0):=fun k hk => .box _ _ (by omega)
   subst hn2 hn4 hn6 hn8
   refine .tup _ ?_
   intro c hc
   simp only [List.mem_cons,List.not_mem_nil,or_false] at hc
   rcases hc with rfl|rfl|rfl|rfl|rfl
   ·exact a 2 (by omega)
   ·exact a 6 (by omega)
   ·exact a 4 (by omega)
   ·exact a 8 (by omega)
   ·exact .d _
  ·subst hn2 hn4 hn6 hn8
   exact hK _ (zyq ..) hI'
end Go.Proofs.YtpgahkdjkanblaaGreat
