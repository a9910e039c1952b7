/- Contract: whether a new view is one, the document's. -/
import Derived.Test.YtpgahkdjkanblaaGreatMkb
import Derived.Test.YtpgahkdjkanblaaGreatMc2
import Derived.Test.YtpgahkdjkanblaaGreatMa7
import Derived.Test.YtpgahkdjkanblaaGreatBase
set_option linter.all false
set_option maxRecDepth 100000
namespace Go.Proofs.YtpgahkdjkanblaaGreat
open Go.AW
theorem c_r16Check {σ:List zd} {id id2:Nat} {L:List (List UInt8)} {G:List zy} {f:Int} {M:zcS} (hT : σ[id]? = some (rtO L)) (hG : σ[id2]? = some (rlO G)) (hL:zka L) (hg:G.length<=1073741824) (hM:okNv M) {K:KT}
  (hK:K (.tup [zdu (zAF L G f M).c,.d (.slice (zu (zAF L G f M).xs)),.d (.bool (zAF L G f M).ok)]) σ):zj Tryz.prog zqK [.box id 0,.box id2 0,.d (.int .i64 f),zeR M] σ K:=by
 refine zAU e_r16_Check fun hl => ?_
 have hT1:∀ τ,(σ ++ τ)[id]? = some (rtO L):=fun τ=>zn hT
 have hG1:∀ τ,(σ ++ τ)[id2]? = some (rlO G):=fun τ=>zn hG
 have badK:zwU L G f M=false->K (.tup [zdu zgN,.d (.slice []),.d (.bool false)]) σ:=fun h=>by
  have e:zAF L G f M=⟨zgN,[],false⟩:=by rw [zAF,if_neg (by rw [h];decide)]
  rw [e] at hK
  exact hK
 have bad:∀ τ,zwU L G f M=false->AW.Ends σ.length K (some [.agg [.d (.int .i64 0),.d (.int .i64 0),.exact []],.exact [],.d (.bool false)]) (σ ++ τ):=fun τ h=>finP hl (badK h)
 have hcl:(zR M.changes).length=M.changes.length:=List.length_map ..
 have hel:(zu M.entries).length=M.entries.length:=List.length_map ..
 have hml:=hM.many
 simp only [zxq,iN,bT,bF,eN]
 cases h1:(M.kind==8)
 ·refine zol h1 ?_
  exact bad _ (by simp at h1;simp [zwU,h1])
 have h1':M.kind=8:=by simpa using h1
 refine zol h1 ?_
 refine ziR ?_
 cases h2:(zbs f==0)
 ·refine zol h2 ?_
  exact bad _ (by simp at h2;simp [zwU,h2])
 refine zol h2 ?_
 refine ztT ?_
 cases h3:(M.src==zbG f M.view)
 ·refine zol h3 ?_
  exact bad _ (by simp at h3;simp [zwU,h3])
 refine zol h3 ?_
 refine c_raValid8 (M:=M) (hT1 _) (hG1 _) hL.len hg hM.small h1' ?_
 cases h4:zcr L G M
 ·refine zQ ?_
  exact bad _ (by simp [zwU,h4])
 refine zQ ?_
 refine zxb (zgU hM.many hM.each) hM.range ?_
 rw [zvq]
 obtain ⟨c,hc⟩:∃ c,(zfZ f M.view M.changes).1=c:=⟨_,rfl⟩
 obtain ⟨xs,hxs⟩:∃ c,(zfZ f M.view M.changes).2.1=c:=⟨_,rfl⟩
 have hes:=zpA (f:=f) (view:=M.view) hM.each
 rw [hxs] at hes
 rw [hc,hxs]
 by_cases h5:zjn f M.view M.changes=0
 rotate_left
 ·have h5':(zjn f M.view M.changes != 0)=true:=by simpa using h5
  refine zfG h5' ?_
  exact bad _ (by simp [zwU,h5])
 have h5':(zjn f M.view M.changes==0)=true:=by simpa using h5
 have hxl:(zu xs).length=xs.length:=List.length_map ..
 have hcB:zwU L G f M=(decide (xs.length=M.entries.length)&&(M.changes.all (zbq L G f M.view)&&zwv L G M.src M.entries xs)):=by
  simp only [zwU,hxs,h1',h5,h4,decide_true,Bool.true_and]
  simp at h2 h3
  simp [h2, ← h3]
 have good:zwv L G M.src M.entries xs=true->M.changes.all (zbq L G f M.view)=true->xs.length=M.entries.length->K (.tup [zdu c,.d (.slice (zu M.entries)),.d (.bool true)]) σ:=fun a b d=>by
  have e:zAF L G f M=⟨c,M.entries,true⟩:=by rw [zAF,if_pos (by rw [hcB,a,b];simp [d]),hc]
  rw [e] at hK
  exact hK
 clear hK badK
 cases h6:((xs.length:Int)==(M.entries.length:Int))
 ·refine zxP (zi h5' (zi h6 (zi hel hxl))) ?_
  exact bad _ (by
   rw [hcB];have:¬ xs.length=M.entries.length:=fun e=>by rw [← e] at h6;simp at h6
   simp [this])
 have h6':xs.length=M.entries.length:=by simp at h6;omega
 refine zxP (zi h5' (zi h6 (zi hel hxl))) ?_
 refine zl M.changes.length (fun k vs s=>vs = [.d (.int .i64 k)]/\(∃ T,s = σ++(.box (msgL M)::.box [.d (.int .i64 0),.d (.int .i64 0),.exact []]::.box [.d (.int .i64 c.seq),.d (.int .i64 c.dig),.d (.slice (zO c.signs))]::T))/\(M.changes.take k).all (zbq L G f M.view)=true) ⟨rfl,⟨[],rfl⟩,rfl⟩ ?_
 rintro k vs s hk ⟨rfl,⟨T,rfl⟩,hall⟩
 by_cases hlt:k<M.changes.length
 ·have hd:decide ((k:Int)<(M.changes.length:Int))=true:=by simp;omega
  have hx:M.changes[k]? = some M.changes[k]:=by simp [hlt]
  have hgx:=zF (f:=zat) hx
  have hxc:=hM.each _ (List.getElem_mem hlt)
  obtain ⟨c',hc'⟩:∃ c',M.changes[k]=c':=⟨_,rfl⟩
  rw [hc'] at hx hgx hxc
  refine zfG (zi hd (zi hgx hcl)) ?_
  refine zzn (c:=c') (hT1 _) (hG1 _) hL hg hxc ?_
  cases hv:zbq L G f M.view c'
  ·refine zQ ?_
   exact bad _ (by rw [hcB,zub hx hv];simp)
  ·refine zfC (wki k (by omega)) ?_
   exact zan.next hlt ⟨rfl,⟨_,rfl⟩,znk hall hx hv⟩
 have hd:decide ((k:Int)<(M.changes.length:Int))=false:=by simp;omega
 rw [List.take_of_length_le (by omega)] at hall
 have badE:zwv L G M.src M.entries xs=false->zwU L G f M=false:=fun h=>by rw [hcB,h];simp
 have hzl:(M.entries.zip xs).length=M.entries.length:=by rw [List.length_zip];omega
 refine zfC (zi hd hcl) ?_
 clear hd hlt hk
 refine zl M.entries.length (fun k vs s=>vs = [.d (.int .i64 k)]/\(∃ T,s = σ++(.box (msgL M)::.box [.d (.int .i64 0),.d (.int .i64 0),.exact []]::.box [.d (.int .i64 c.seq),.d (.int .i64 c.dig),.d (.slice (zO c.signs))]::T))/\((M.entries.zip xs).take k).all (fun p=>znU p.1 p.2&&zeG L G M.src p.1)=true) ⟨rfl,⟨T,rfl⟩,rfl⟩ ?_
 clear T
 rintro k vs s hk ⟨rfl,⟨T,rfl⟩,hAll⟩
 by_cases hlt:k<M.entries.length
 ·have hd:decide ((k:Int)<(M.entries.length:Int))=true:=by simp;omega
  have hx:M.entries[k]? = some M.entries[k]:=by simp [hlt]
  have hy:xs[k]? = some (xs[k]'(by omega)):=List.getElem?_eq_getElem _
  have hgx:=zF (f:=zbh) hx
  have hgy:=zF (f:=zbh) hy
  have hxk:=hM.small.entry _ (List.getElem_mem hlt)
  have hyk:=(hes.2 (xs[k]'(by omega)) (List.getElem_mem _)).okB
  obtain ⟨x,hxe⟩:∃ c',M.entries[k]=c':=⟨_,rfl⟩
  obtain ⟨y,hye⟩:∃ c',(xs[k]'(by omega))=c':=⟨_,rfl⟩
  rw [hxe] at hx hgx hxk
  rw [hye] at hy hgy hyk
  have hz:(M.entries.zip xs)[k]? = some (x,y):=by rw [List.getElem?_zip_eq_some];exact ⟨hx,hy⟩
  have hbadk:(znU x y&&zeG L G M.src x)=false->zwU L G f M=false:=fun h=>badE (zub hz h)
  have hdx:decide ((k:Int)<(xs.length:Int))=true:=by simp;omega
  cases h7:(x.view==y.view)
  ·refine zxP (zi hdx (zi hgx (zi hgy (zi hxl h7)))) ?_
   exact bad _ (hbadk (by simp at h7;simp [znU,h7]))
  cases h8:(x.seq==y.seq)
  ·refine zxP (zi hdx (zi hgx (zi hgy (zi hxl (zi h7 h8))))) ?_
   exact bad _ (hbadk (by simp at h7 h8;simp [znU,h7,h8]))
  refine zxP (zi hdx (zi hgx (zi hgy (zi hxl (zi h7 h8))))) ?_
  refine zvw hxk.2 hyk.2 ?_
  cases h9:decide (x.batch=y.batch)
  ·refine zQ ?_
   exact bad _ (hbadk (by simp at h7 h8 h9;simp [znU,h7,h8,h9]))
  refine zQ ?_
  refine zyj (x:=x) (hT1 _) (hG1 _) hL.len hg hxk.1 ?_
  have hsw:znU x y=true:=by simp at h7 h8 h9;simp [znU,h7,h8,h9]
  cases h10:zeG L G M.src x
  ·refine zQ ?_
   exact bad _ (hbadk (by rw [hsw,h10];rfl))
  refine zfC (wki k (by omega)) ?_
  exact zan.next hlt ⟨rfl,⟨_,rfl⟩,znk hAll hz (by rw [hsw,h10];rfl)⟩
 ·have hdx:decide ((k:Int)<(xs.length:Int))=false:=by simp;omega
  rw [List.take_of_length_le (by omega)] at hAll
  have hK:=good hAll hall h6'
  refine zfC (zi hdx hxl) ?_
  refine zt hl ?_
  exact hK
structure zjc (L:List (List UInt8)) (G:List zy) (L':List (List UInt8)) (G':List zy):Prop where
 pre:∃ t,L' = L++t
 sub:∀ s∈G,s∈G'
theorem zjc.refl (L:List (List UInt8)) (G:List zy):zjc L G L G:=⟨⟨[],by simp⟩,fun _ h=>h⟩
theorem zjc.trans {L L1 L2:List (List UInt8)} {G G1 G2:List zy} (h:zjc L G L1 G1) (k:zjc L1 G1 L2 G2):zjc L G L2 G2:=by
 obtain ⟨⟨t,rfl⟩,h2⟩:=h
 obtain ⟨⟨u,rfl⟩,k2⟩:=k
 exact ⟨⟨t++u,by simp⟩,fun s hs=>k2 s (h2 s hs)⟩
theorem zjc.sum (L:List (List UInt8)) (G:List zy) (b:List UInt8):zjc L G (zgn L b) G:=by
 refine ⟨?_,fun _ h=>h⟩
 unfold zgn
 split
 ·exact ⟨[],by simp⟩
 ·split
  ·exact ⟨[],by simp⟩
  ·exact ⟨[b],rfl⟩
theorem zjc.sign (L:List (List UInt8)) (G:List zy) (k d:Int):zjc L G L (zie G k d):=by
 refine ⟨⟨[],by simp⟩,fun s hs => ?_⟩
 unfold zie zzU
 split
 ·split
  ·exact hs
  ·simp [hs]
 ·exact hs
theorem zjc.sgn (L:List (List UInt8)) (G:List zy) (k:Int) (b:List UInt8):zjc L G (zgn L b) (zlP L G k b):=by
 unfold zlP
 split
 ·exact zjc.sum ..
 ·exact (zjc.sum L G b).trans (zjc.sign ..)
theorem zjc.vot (L:List (List UInt8)) (G:List zy) (k a b c d:Int):zjc L G (zyt L a b c d) (zyu L G k a b c d):=by
 unfold zyt zyu
 split
 ·exact zjc.sgn ..
 ·exact zjc.refl ..
theorem zjc.dig (L:List (List UInt8)) (G:List zy) (b:List zC):zjc L G (zom L b) G:=by
 unfold zom
 split
 ·exact zjc.refl ..
 ·exact zjc.sum ..
theorem zjc.ent (L:List (List UInt8)) (G:List zy) (key:Int) (x:zaI):zjc L G (zqm L x) (zqn L G key x):=by
 unfold zqm zqn
 split
 ·exact zjc.dig ..
 ·exact (zjc.dig L G x.batch).trans (zjc.vot ..)
section
variable {L L':List (List UInt8)} {G G':List zy}
theorem zjc.look (h:zjc L G L' G') {b:List UInt8} {i:Nat} (hi:zev L b=some i):zev L' b=some i:=by
 obtain ⟨⟨t,rfl⟩,_⟩:=h
 unfold zev at hi ⊢
 rw [zpL,hi]
theorem zjc.signed (h:zjc L G L' G') {s:zy} {key:Int} {b:List UInt8} (hs:zfJ L G s key b=true):zfJ L' G' s key b=true:=by
 unfold zfJ at hs ⊢
 split at hs
 ·rename_i i hi
  rw [h.look hi]
  simp only [Bool.and_eq_true,decide_eq_true_eq] at hs ⊢
  exact ⟨hs.1,h.sub _ hs.2⟩
 ·cases hs
theorem zjc.vote (h:zjc L G L' G') {s:zy} {key a b c d:Int} (hs:zfy L G s key a b c d=true):zfy L' G' s key a b c d=true:=by
 simp only [zfy,Bool.and_eq_true] at hs ⊢
 exact ⟨hs.1,h.signed hs.2⟩
theorem zjc.votes (h:zjc L G L' G') {f lead view seq dig:Int}:∀ {l:List zy} {last:Int},zrI L G f lead view seq dig last l=true->zrI L' G' f lead view seq dig last l=true
 | [],_,_=>rfl
 | s::r,last,hs=>by
  simp only [zrI,Bool.and_eq_true] at hs ⊢
  exact ⟨hs.1,hs.2.1,hs.2.2.1,h.vote hs.2.2.2.1,h.votes hs.2.2.2.2⟩
theorem zjc.valid (h:zjc L G L' G') {s:zC} (hs:zgr L G s=true):zgr L' G' s=true:=by
 simp only [zgr,Bool.and_eq_true] at hs ⊢
 refine ⟨hs.1,?_⟩
 have h2:=hs.2
 split at h2
 ·rename_i i hi
  rw [h.look hi]
  simp only [Bool.and_eq_true,decide_eq_true_eq] at h2 ⊢
  exact ⟨h2.1,h.sub _ h2.2⟩
 ·cases h2
theorem zjc.batch (h:zjc L G L' G') {b:List zC} (hs:zgm L G b=true):zgm L' G' b=true:=by
 simp only [zgm,Bool.and_eq_true,Bool.not_eq_true',List.any_eq_false] at hs ⊢
 refine ⟨hs.1,fun x hx => ?_⟩
 have:=hs.2 x hx
 simp only [Bool.not_eq_true',Bool.not_eq_false] at this ⊢
 exact h.valid this
theorem zjc.prep (h:zjc L G L' G') {f:Int} {p:zbO} (hs:zgY L G f p=true):zgY L' G' f p=true:=by
 simp only [zgY,Bool.and_eq_true] at hs ⊢
 refine ⟨hs.1,h.batch hs.2.1,?_⟩
 have h2:=hs.2.2
 unfold zAd at h2 ⊢
 split at h2
 ·rename_i i hi
  rw [h.look hi]
  simp only [prepH,Bool.and_eq_true] at h2 ⊢
  exact ⟨h2.1,h.vote h2.2.1,h2.2.2.1,h.votes h2.2.2.2⟩
 ·cases h2
theorem zjc.above (h:zjc L G L' G') {f view low:Int}:∀ {l:List zbO} {last:Int},zkG L G f view low last l=true->zkG L' G' f view low last l=true
 | [],_,_=>rfl
 | p::r,last,hs=>by
  simp only [zkG,Bool.and_eq_true] at hs ⊢
  exact ⟨h.prep hs.1,hs.2.1,hs.2.2.1,hs.2.2.2.1,h.above hs.2.2.2.2⟩
theorem zjc.cert (h:zjc L G L' G') {f:Int} {c:zeP} (hs:zoh L G f c=true):zoh L' G' f c=true:=by
 simp only [zoh,Bool.and_eq_true,List.all_eq_true] at hs ⊢
 exact ⟨hs.1,hs.2.1,fun s hm=>h.vote (hs.2.2 s hm)⟩
theorem zjc.msg (h:zjc L G L' G') {m:zcS} (hs:zcr L G m=true):zcr L' G' m=true:=by
 simp only [zcr,Bool.and_eq_true] at hs ⊢
 exact ⟨hs.1,hs.2.1,h.signed hs.2.2⟩
theorem zjc.change (h:zjc L G L' G') {f view:Int} {c:zJ} (hs:zbq L G f view c=true):zbq L' G' f view c=true:=by
 simp only [zbq,Bool.and_eq_true] at hs ⊢
 exact ⟨hs.1,hs.2.1,hs.2.2.1,hs.2.2.2.1,h.msg hs.2.2.2.2.1,h.cert hs.2.2.2.2.2.1,hs.2.2.2.2.2.2.1,h.above hs.2.2.2.2.2.2.2⟩
theorem zjc.entry (h:zjc L G L' G') {key:Int} {x:zaI} (hs:zeG L G key x=true):zeG L' G' key x=true:=by
 simp only [zeG,Bool.and_eq_true] at hs ⊢
 refine ⟨hs.1,?_⟩
 have h2:=hs.2
 split at h2
 ·rename_i i hi
  rw [h.look hi]
  exact h.vote h2
 ·cases h2
end
theorem zsg {key:Int}:∀ (xs:List zaI) (L:List (List UInt8)) (G:List zy) (out:List zaI),zka L->(∀ x∈xs,ztF x)->zka (zbr key xs L G out).L/\(zbr key xs L G out).G.length<=G.length+xs.length
 | [],L,G,out,h,_=>⟨h,by simp [zbr]⟩
 | x::r,L,G,out,h,hx=>by
  rw [zbr]
  have h1:=h.ent (hx x (by simp)).ops
  have h2:=entG_len L G key x
  split
  ·exact ⟨h1,by simp;omega⟩
  ·obtain ⟨a,b⟩:=zsg (key:=key) r (zqm L x) (zqn L G key x) (out++[entX L key x]) h1 fun y hy=>hx y (by simp [hy])
   exact ⟨a,by simp;omega⟩
theorem sealM_keeps {L:List (List UInt8)} {G:List zy} {m:zcS} (h:zka L):zka (zhA L G m).L/\(zhA L G m).G.length<=G.length+1:=by
 unfold zhA
 by_cases h1:zaT (zbJ m)=0
 rotate_left
 ·rw [if_pos h1];exact ⟨h,by simp⟩
 rw [if_neg (by simpa using h1)]
 split
 ·exact ⟨h.sum (zvu h1),zzV ..⟩
 ·exact ⟨h.sum (zvu h1),zzV ..⟩
theorem make_keeps {L:List (List UInt8)} {G:List zy} {f view:Int} {cs:List zJ} (h:zka L) (hc:∀ c∈cs,zqf c):zka (ziM L G f view cs).L/\(ziM L G f view cs).G.length<=G.length+9:=by
 unfold ziM
 split
 ·exact ⟨h,by simp⟩
 split
 ·exact ⟨h,by simp⟩
 obtain ⟨hx8,hxs⟩:=zpA (f:=f) (view:=view) (cs:=cs.take (zaR 2 f).toNat) fun c hh=>hc c (List.mem_of_mem_take hh)
 obtain ⟨a,b⟩:=zsg (key:=zbG f view) _ L G [] h hxs
 split
 ·exact ⟨a,by simp only;omega⟩
 ·obtain ⟨c,d⟩:=sealM_keeps (L:=(zbr (zbG f view) (zfZ f view (cs.take (zaR 2 f).toNat)).2.1 L G []).L) (G:=(zbr (zbG f view) (zfZ f view (cs.take (zaR 2 f).toNat)).2.1 L G []).G) (m:=zpV f view (cs.take (zaR 2 f).toNat) (zbr (zbG f view) (zfZ f view (cs.take (zaR 2 f).toNat)).2.1 L G []).out) a
  exact ⟨c,by omega⟩
theorem mem_modify {α:Type} {l:List α} {i:Nat} {g : α → α} {x : α} (h:x∈l.modify i g):∃ y∈l,x=y∨x=g y:=by
 obtain ⟨k,hk⟩:=List.mem_iff_getElem?.1 h
 rw [List.getElem?_modify] at hk
 cases hy:l[k]? with
 | none=>rw [hy] at hk;cases hk
 | some y=>
  rw [hy] at hk
  have hm:=List.mem_of_getElem? hy
  by_cases e:i=k
  ·simp [e] at hk;exact ⟨y,hm,.inr hk.symm⟩
  ·simp [e] at hk;exact ⟨y,hm,.inl hk.symm⟩
theorem bent_ok {how which:Int} {m:zcS} (h:okNv m):okNv (ziU how which m):=by
 obtain ⟨⟨h1,h2,h3,h4,h5,h6,h7,h8,h9,h10⟩,m1,m2,m3⟩:=h
 have zww:∀ (i:Nat) (g:zaI->zaI),(∀ x,(g x).batch=x.batch∨(g x).batch = [])->okNv { m with entries:=m.entries.modify i g }:=fun i g hg=>by
  refine ⟨⟨h1,h2,h3,h4,h5,by simpa using h6,fun x hx => ?_,h8,h9,h10⟩,m1,m2,m3⟩
  obtain ⟨y,hy,e⟩:=mem_modify hx
  rcases e with rfl|rfl
  ·exact h7 _ hy
  ·rcases hg y with e|e
   ·have:=h7 y hy
    unfold zlA at *
    rw [e];exact this
   ·unfold zlA
    rw [e];exact ⟨⟨by simp,by simp⟩,⟨by simp,by simp⟩⟩
 unfold ziU
 split
 ·exact ⟨⟨h1,h2,h3,h4,h5,h6,h7,h8,h9,h10⟩,m1,m2,m3⟩
 split
 ·exact ⟨⟨h1,h2,h3,h4,h5,h6,h7,h8,h9,h10⟩,m1,m2,m3⟩
 split
 ·exact zww _ _ fun x => .inr rfl
 split
 ·exact zww _ _ fun x => .inl rfl
 split
 ·exact ⟨⟨h1,h2,h3,h4,h5,by simp only [List.length_take];omega,fun x hx=>h7 x (List.mem_of_mem_take hx),h8,h9,h10⟩,m1,m2,m3⟩
 split
 ·exact zww _ _ fun x => .inl rfl
 split
 ·exact ⟨⟨h1,h2,h3,by simp only [List.length_take];omega,fun c hc=>h5 c (List.mem_of_mem_take hc),h6,h7,h8,h9,h10⟩,by simp only [List.length_take];omega,fun c hc=>m2 c (List.mem_of_mem_take hc),fun c hc=>m3 c (List.mem_of_mem_take hc)⟩
 split
 ·exact ⟨⟨h1,h2,h3,h4,h5,h6,h7,h8,h9,h10⟩,m1,m2,m3⟩
 split
 ·exact ⟨⟨h1,h2,h3,h4,h5,h6,h7,h8,h9,h10⟩,m1,m2,m3⟩
 ·exact ⟨⟨h1,h2,h3,h4,h5,h6,h7,h8,h9,h10⟩,m1,m2,m3⟩
theorem make_changes (L:List (List UInt8)) (G:List zy) (f view:Int) (cs:List zJ):∀ c∈(ziM L G f view cs).m.changes,c∈cs:=by
 have none:∀ c∈zed.changes,c∈cs:=by simp [zed]
 have sl0:∀ (L:List (List UInt8)) (G:List zy) (m:zcS),(∀ c∈m.changes,c∈cs)->∀ c∈(zhA L G m).m.changes,c∈cs:=fun L G m h=>by
  unfold zhA
  split
  ·exact none
  ·split
   ·exact none
   ·exact h
 unfold ziM
 split
 ·exact none
 split
 ·exact none
 split
 ·exact none
 ·exact sl0 _ _ _ fun c hc=>List.mem_of_mem_take hc
theorem make_many {L:List (List UInt8)} {G:List zy} {f view:Int} {cs:List zJ} (h:cs.length<=1048576):(ziM L G f view cs).m.changes.length<=1048576:=by
 have none:zed.changes.length<=1048576:=by simp [zed]
 have sl0:∀ (L:List (List UInt8)) (G:List zy) (m:zcS),m.changes.length<=1048576->(zhA L G m).m.changes.length<=1048576:=fun L G m h=>by
  unfold zhA
  split
  ·exact none
  ·split
   ·exact none
   ·exact h
 unfold ziM
 split
 ·exact none
 split
 ·exact none
 split
 ·exact none
 ·exact sl0 _ _ _ (by simp only [zpV,List.length_take];omega)
def zyF:List (Bool × List Ty) := [(true,tyWorld),(false,[.int .i64]),(false,[.int .i64]),(false,[.slice tyChange]),(true,[.int .u8,.int .u8])]
theorem chk_small {L:List (List UInt8)} {G:List zy} {f:Int} {M:zcS} (h:okNv M):(zAF L G f M).c.signs.length<=1073741824/\(zAF L G f M).xs.length<=1073741824/\∀ x∈(zAF L G f M).xs,zhN x.batch:=by
 unfold zAF
 split
 ·exact ⟨(selF_small (zgU h.many h.each)).1,h.small.entries,fun x hx=>(h.small.entry x hx).2⟩
 ·exact ⟨by simp [zgN],by simp,by simp⟩
def zle:=zyF
theorem args_checks {xs:List AV} {n:Nat} (hn:n<=1048576) (h:ArgsOk zyF xs n):∃ tab signs f view cs how which,xs = [.agg [.d (.slice (ziF tab)),.d (.slice (zO signs))],.d (.int .i64 f),.d (.int .i64 view),.d (.slice (zR cs)),.agg [.d (.int .u8 how),.d (.int .u8 which)]] ∧
  tab.length<=1048576/\(∀ b∈tab,b.length<=1048576)/\signs.length<=1048576/\cs.length<=1048576/\(∀ c∈cs,zqf c)/\(∀ c∈cs,zgL c)/\(0<=how/\how<=255)/\(0<=which/\which<=255):=by
 obtain ⟨ds,xs1,m1,hf,hb1,rfl,h⟩:=h
 obtain ⟨tab,signs,rfl⟩:=dec_world hf
 obtain ⟨ds,xs2,m2,hf,hb2,rfl,h⟩:=h
 obtain ⟨d,rfl,h1⟩:=one_of hf
 obtain ⟨f,rfl,hfr⟩:=zew h1
 obtain ⟨ds,xs3,m3,hf,hb3,rfl,h⟩:=h
 obtain ⟨d,rfl,h1⟩:=one_of hf
 obtain ⟨view,rfl,hvr⟩:=zew h1
 obtain ⟨ds,xs4,m4,hf,hb4,rfl,h⟩:=h
 obtain ⟨d,rfl,h1⟩:=one_of hf
 obtain ⟨cs,rfl,hR⟩:=zzi h1 (fun e he=>dec_change he)
 obtain ⟨ds,xs5,m5,hf,hb5,rfl,rfl⟩:=h
 obtain ⟨d1,ds,rfl,h1,h⟩:=zaG hf
 obtain ⟨d2,ds,rfl,h2,h⟩:=zaG h
 obtain rfl:=zlO h
 obtain ⟨how,rfl⟩:=dec_u8 h1
 obtain ⟨which,rfl⟩:=dec_u8 h2
 have hb:zfq (zR cs)<=1048576:=by
  simp only [zeS,ziS] at hb1 hb2 hb3 hb4
  unfold zR
  omega
 simp only [zeS,ziS] at hb1
 have ht:=zqu tab
 have hs:=zta signs
 have ht':zfq (ziF tab)<=1048576:=by omega
 have u8:∀ b:UInt8, 0<=((b.toNat:Nat):Int)/\((b.toNat:Nat):Int)<=255:=fun b=>by have:=b.toNat_lt;omega
 exact ⟨tab,signs,f,view,cs,_,_,rfl,Nat.le_trans ht.1 ht',fun b hb=>Nat.le_trans (ht.2 b hb) ht',by omega,(leC_bulk hb).1,changes_all hb (by omega) hR,hR,u8 _,u8 _⟩
theorem ztB (xs:List AV) (n:Nat) (hn:n<=1048576) (h:ArgsOk zle xs n):zj Tryz.prog zkp xs [] fun r _=>r = .d (.bool true):=by
 obtain ⟨tab,signs,f,view,cs,how,which,rfl,ht,htb,hs,hcl,hca,hR,hhow,hwhich⟩:=args_checks hn h
 clear h
 refine acE5 zrj fun hl => ?_
 simp only [zkS,iN,bT,bF,eN,zl0]
 by_cases hnd:tab.Nodup
 rotate_left
 ·refine zQ ?_
  refine c_made16N ht (fun b hb=>Nat.le_trans (htb b hb) (by omega)) hnd ?_
  refine zQ ?_
  refine zxg ?_
  refine zQ ?_
  refine zxg ?_
  refine zQ ?_
  refine zt hl ?_
  rfl
 refine zQ ?_
 refine c_made16 ht (fun b hb=>Nat.le_trans (htb b hb) (by omega)) hs hnd fun W hW hI => ?_
 obtain ⟨S,hS⟩:∃ S,[ziD tab signs,.box [.d (.int .u8 how),.d (.int .u8 which)]]++W=S:=⟨_,rfl⟩
 have hgl:(zhO [] signs).length<=1048576:=by
  have:=ztb signs []
  simp only [List.length_nil,Nat.zero_add] at this
  omega
 obtain ⟨G,hG⟩:∃ G,zhO [] signs=G:=⟨_,rfl⟩
 rw [hG] at hgl
 rw [hG] at hI
 have hS1:S[1]? = some (.box [.d (.int .u8 how),.d (.int .u8 which)]):=by rw [← hS];rfl
 obtain ⟨n,hn⟩:∃ n,([ziD tab signs,.box [.d (.int .u8 how),.d (.int .u8 which)]]:List zd).length=n:=⟨_,rfl⟩
 have hn2:2=n:=hn
 have hS':([zd.box [.d (.slice (ziF tab)),.d (.slice (zO signs))],zd.box [.d (.int .u8 how),.d (.int .u8 which)]]++W:List zd)=S:=hS
 have hn':([zd.box [.d (.slice (ziF tab)),.d (.slice (zO signs))],zd.box [.d (.int .u8 how),.d (.int .u8 which)]]:List zd).length=n:=hn
 rw [hS',hn'] at hI
 rw [hS',hn']
 clear hS hS' hn hn'
 obtain ⟨hI1,hI2,hI3,hI4⟩:=hI
 have hTI:zka tab:=⟨hnd,ht,fun b hb=>Nat.le_trans (htb b hb) (by omega)⟩
 have hTG:TG ⟨n+2,n+1,n+3,n+6,n+5,n+7⟩ S tab G:=⟨hI1,hI3,by simp,by simp⟩
 have hms:=make_small (L:=tab) (G:=G) (f:=f) (view:=view) hcl hca
 have hmk:=make_keeps (L:=tab) (G:=G) (f:=f) (view:=view) hTI hca
 have hmc:=make_changes tab G f view cs
 have hml:=make_many (L:=tab) (G:=G) (f:=f) (view:=view) hcl
 refine zQ ?_
 refine zxg ?_
 refine zQ ?_
 refine c_nvMake hTG hTI hgl hcl hca hR ?_
 obtain ⟨R,hR'⟩:∃ R,ziM tab G f view cs=R:=⟨_,rfl⟩
 rw [hR'] at hms hmk hmc hml ⊢
 have hok:okNv (ziU how which R.m):=bent_ok ⟨hms,hml,fun c hc=>hca c (hmc c hc),fun c hc=>hR c (hmc c hc)⟩
 have r1:=zfk ⟨n+2,n+1,n+3,n+6,n+5,n+7⟩ S R.L R.G
 have hTG2:=hTG.put R.L R.G
 have o4:(zeD ⟨n+2,n+1,n+3,n+6,n+5,n+7⟩ S R.L R.G)[n+4]? = some (rtO tab):=by rw [TG.other (by simp)];exact hI2
 have o8:(zeD ⟨n+2,n+1,n+3,n+6,n+5,n+7⟩ S R.L R.G)[n+8]? = some (rlO G):=by rw [TG.other (by simp)];exact hI4
 have o1:(zeD ⟨n+2,n+1,n+3,n+6,n+5,n+7⟩ S R.L R.G)[1]? = some (.box [.d (.int .u8 how),.d (.int .u8 which)]):=by rw [TG.other (by simp;omega)];exact hS1
 obtain ⟨S2,hS2⟩:∃ S2,zeD ⟨n+2,n+1,n+3,n+6,n+5,n+7⟩ S R.L R.G=S2:=⟨_,rfl⟩
 rw [hS2] at r1 hTG2 o4 o8 o1 ⊢
 have hRR:RR (n+4) (n+8) S2 tab G:=⟨o4,o8,by simp⟩
 have r1':S.length=S2.length:=r1.symm
 refine zfC r1' ?_
 refine c_r16Make (hRR.app _) hTI hgl hcl hca hR ?_
 rw [hR',hRR.put_app]
 have r2:=zlR (n+4) (n+8) S2 R.L R.G
 have hRR2:=hRR.put R.L R.G
 have p1:(zgc (n+4) (n+8) S2 R.L R.G)[1]? = some (.box [.d (.int .u8 how),.d (.int .u8 which)]):=by
  unfold zgc
  rw [List.getElem?_set_ne (by omega),List.getElem?_set_ne (by omega)];exact o1
 have hTT:zea (zgc (n+4) (n+8) S2 R.L R.G) (n+2) (n+1) (n+3) R.L:=by
  obtain ⟨a1,a2,a3⟩:=hTG2.tab
  unfold zgc
  refine ⟨?_,?_,?_⟩
  all_goals rw [List.getElem?_set_ne (by simp),List.getElem?_set_ne (by simp)]
  ·exact a1
  ·exact a2
  ·exact a3
 have hLL:zdL (zgc (n+4) (n+8) S2 R.L R.G) (n+6) (n+5) (n+7) R.G:=by
  obtain ⟨a1,a2,a3⟩:=hTG2.led
  unfold zgc
  refine ⟨?_,?_,?_⟩
  all_goals rw [List.getElem?_set_ne (by simp),List.getElem?_set_ne (by simp)]
  ·exact a1
  ·exact a2
  ·exact a3
 obtain ⟨S3,hS3⟩:∃ S3,zgc (n+4) (n+8) S2 R.L R.G=S3:=⟨_,rfl⟩
 rw [hS3] at r2 hRR2 p1 hTT hLL ⊢
 have r2':S2.length=S3.length:=r2.symm
 have r3':S.length=S3.length:=r1'.trans r2'
 have p1':∀ τ,(S3 ++ τ)[1]? = some (.box [.d (.int .u8 how),.d (.int .u8 which)]):=fun τ=>zn p1
 have hee:(R.e==R.e)=true:=beq_self_eq_true _
 refine zol (zi r1' (zi r2' (zi r3' hee))) ?_
 refine c_kSame (a:=R.m) (b:=R.m) hms hms ?_
 rw [show decide (R.m=R.m)=true from decide_eq_true rfl]
 refine zfC (zi r1' (zi r2' (zi r3' p1'))) ?_
 refine c_bent hhow hwhich hms ?_
 obtain ⟨M,hM⟩:∃ M,ziU how which R.m=M:=⟨_,rfl⟩
 rw [hM] at hok ⊢
 have hsm:=chk_small (L:=R.L) (G:=R.G) (f:=f) hok
 have hgl2:R.G.length<=1073741824:=by have:=hmk.2;omega
 refine zfC (zi r1' (zi r2' r3')) ?_
 refine c_tLen (hTT.app _) ?_
 refine zfC r2' ?_
 refine c_gLen (hLL.app _) ?_
 refine zfC r2' ?_
 refine c_nvCheck (M:=M) (hTT.app _) (hLL.app _) hmk.1 hgl2 hok ?_
 obtain ⟨c,hc⟩:∃ c,zAF R.L R.G f M=c:=⟨_,rfl⟩
 rw [hc] at hsm ⊢
 refine zfG r2' ?_
 refine c_r16Check (M:=M) (zn hRR2.tab) (zn hRR2.led) hmk.1 hgl2 hok ?_
 rw [hc]
 refine zfG r2' ?_
 refine zpP (a:=c.c) (b:=c.c) hsm.1 ?_
 rw [show decide (c.c=c.c)=true from decide_eq_true rfl]
 refine zfC r2' ?_
 refine zss (a:=c.xs) (b:=c.xs) hsm.2.1 hsm.2.2 hsm.2.2 ?_
 rw [show decide (c.xs=c.xs)=true from decide_eq_true rfl]
 refine zmD r2' ?_
 refine c_tLen (hTT.app _) ?_
 refine zmD r2' ?_
 refine c_gLen (hLL.app _) ?_
 refine zmD r2' ?_
 exact finP (σ := []) hl rfl
open Go.AW Go.ChangeShapes Go.WideShapes Go.ChangeAt Go.RowKit
theorem zqI {H:Type} {enc:TypeId × Value->H} {P:Program} {w:World} {sp:Nat->Bool} {held:Bool} {vs:List Value} {ds gs:List (DataW H)} {ps:List MemPlace} {ts:List TypeId} (hl:ts.length=5)
  (h:DataW.TrodAll enc P w 0 sp held ts vs ds ps) (hg:gs = []):(Rows.newviewChecksSpec).fn H (ds++gs) = { results := [.lit (.bool true)],args:=ds }:=by
 subst hg
 have hd:ds.length=5:=by
  have:∀ (ts:List TypeId) (vs:List Value) (ds:List (DataW H)) (ps:List MemPlace),DataW.TrodAll enc P w 0 sp held ts vs ds ps->ds.length=ts.length:=by
   intro ts
   induction ts with
   | nil=>intro vs ds ps h;cases vs<;>cases ds<;>simp [DataW.TrodAll] at h ⊢
   | cons t ts ih=>
    intro vs ds ps h
    obtain ⟨v,vs',d,ds',p,q,rfl,rfl,rfl,h1,h2⟩:=trodAll_cons h
    simp [ih vs' ds' q h2]
  rw [this ts vs ds ps h,hl]
 rw [List.append_nil]
 match ds,hd with
 | [_,_,_,_,_],_=>rfl
theorem zpX (os:Os) (started:os.Started) (H:Type) (enc:TypeId × Value->H) (F:Stop.Interp) :
  ReturnsInHanded {} Tryz.checked os 3 .any ((Rows.OpenSpec.upto Rows.newviewChecksSpec).pre6 enc Tryz.prog Tryz.f3 Rows.newviewChecksUptoRow.domain false) (((Rows.OpenSpec.upto Rows.newviewChecksSpec).at F).post enc Tryz.prog Tryz.f3 false true false false):=by
 refine returnsInHanded_of_cond (C:=Tryz.checked) (s:=Rows.OpenSpec.upto Rows.newviewChecksSpec) (k:=Rows.uptoSmall) rfl own started (by kernel_rfl) Tryz.func3
  (OpenSpec.witness (enc:=enc) (C:=Tryz.checked) (s:=Rows.OpenSpec.upto Rows.newviewChecksSpec) (k:=Rows.uptoSmall) rfl false ⟨#[], #[(.agg #[(.slice none 0 0),(.slice none 0 0)]),(.int .i64 0),(.int .i64 0),(.slice none 0 0),(.agg #[(.int .u8 0),(.int .u8 0)])],[]⟩ 24 (by kernel_rfl) (by kernel_rfl) (by kernel_rfl)
   (x:=([(.agg [.nil,.nil]),(.lit (.int .i64 0)),(.lit (.int .i64 0)),.nil,(.agg [(.lit (.int .u8 0)),(.lit (.int .u8 0))])],[],[])) (by kernel_rfl) rfl (by kernel_rfl)) ?_
 intro W base args ds gs before hval hW _ hk _
 have hW0:DataW.Whole enc Tryz.prog Tryz.f3.params.toList (Rows.newviewChecksSpec).vars false W args.toList ds gs before:=hW
 have hg:gs = []:=by
  obtain ⟨p,q,hA,hV,_⟩:=hW0
  cases gs with
  | nil=>rfl
  | cons=>simp [Rows.newviewChecksSpec,DataW.TrodVars] at hV
 refine law_calls isBulk hval hW0 (pars:=zle) (by kernel_rfl) rfl (by obtain ⟨p,q,hA,_⟩:=hW0;exact zqI (by kernel_rfl) hA hg) laidOut mapsLaid slicesFull (by kernel_rfl) (tb := 4) (by kernel_rfl) (by kernel_rfl) fun xs has=>ztB xs _ ?_ has
 have:=small hk
 rw [hg,List.append_nil] at this
 exact this
theorem newviewChecks_upto:Rows.NewviewChecksUptoSaid:=
 OpenClaim.holds_of_cond 3 Tryz.f3 rfl rfl rfl rfl rfl rfl rfl ⟨rfl,rfl,rfl,rfl,rfl⟩ rfl rfl rfl rfl rfl (by kernel_rfl) Tryz.func3 (by kernel_rfl)
  (of_decide_eq_true (by kernel_rfl)) (by unfold Func.isWrapper;first|(rw [if_pos (by decide +kernel)];kernel_rfl)|(rw [if_neg (by decide +kernel)];exact ⟨rfl,rfl⟩))
  (fun os started H enc _ F=>zpX os started H enc F)
end Go.Proofs.YtpgahkdjkanblaaGreat
