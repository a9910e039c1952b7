/- Contracts: the bytes of the document's topics. -/
import Derived.Test.YtfgbofkdhfjegaaGreatTp3
set_option linter.all false
set_option maxRecDepth 100000
namespace Go.Proofs.YtfgbofkdhfjegaaGreat
open Go.AW
theorem znM {σ:List zh} {b x:List UInt8} (hx:x.length<=1073741824) (hb:b.length<=1073741800) {K:KT} (hK:K (.d (.slice (bcs (b++zqr x)))) (σ++[.tok 1 (b++zqr x).length])) :
  zp Tryz.prog zbD [.d (.slice (bcs b)),.d (.slice (bcs x))] σ K:=
 .weaken (zhB hx hb ⟨_,_,.data 0 _ _ rfl rfl (.refl _ _),hK⟩)
theorem c_r7Bytes {σ:List zh} {id t g:Nat} {T:zcf} (hT:zcw σ id t g T) (hI:zhZ T) (hL:zoh T.last) {K:KT} (hK:K (.d (.slice (bcs (zgj T)))) σ):zp Tryz.prog zgL [.box id 0] σ K:=by
 refine zfc zqP fun hl => ?_
 have hb:=hT.box
 have hrw:=hT.row
 have xb:∀ τ,(σ ++ τ)[id]? = _:=fun τ=>zf hb
 have xr:∀ τ,(σ ++ τ)[t]? = _:=fun τ=>zf hrw
 have f4:=zeB T.l
 have hlenA:(zaK (zce T.l)).length=T.l.length*4:=by rw [zfR f4,List.length_map]
 have hlf:(zce T.l).flatten.length=T.l.length*4:=by rw [← hlenA,zaK,List.length_map]
 have hn:=hI.len
 have hnl:=zJ (n:=T.l.length) (by omega)
 simp only [zkq,iN,bT,bF,eN]
 refine zmY hb ?_
 refine zmr (b := []) (by simp) (by omega) ?_
 rw [List.nil_append]
 refine gq1 ?_
 refine zo T.l.length (fun k vs s => ∃ τ,vs = [.d (.slice (bcs (zdi T.l.length++zqm (T.l.take k)))),.d (.int .i64 k)]/\s = σ ++ τ) ⟨[],by simp [zqm],by simp⟩ ?_
 rintro k vs s hk ⟨τ,rfl,rfl⟩
 have hbl:(zqm (T.l.take k)).length<=k*5600:=by
  have:=zwH (l:=T.l.take k) fun x hx=>hI.tops x (List.mem_of_mem_take hx)
  rw [List.length_take,Nat.min_eq_left hk] at this;exact this
 by_cases hlt:k<T.l.length
 ·have hd:decide ((k:Int)<(T.l.length:Int))=true:=by simp;omega
  have hx:T.l[k]? = some T.l[k]:=by simp [hlt]
  have hX:=hI.tops _ (List.getElem_mem hlt)
  obtain ⟨x,hxe⟩:∃ x,T.l[k]=x:=⟨_,rfl⟩
  rw [hxe] at hx hX
  have hgt:List.take 4 (List.drop (k*4) (zaK (zce T.l)))=(topD x).map .d:=znC f4 (zK hx)
  have hk4:k*4+4<=T.l.length*4:=by omega
  have hnx:x.next=x.base+x.recs.length:=rfl
  have a1:=hX.base;have a2:=hX.next;have a3:=hX.recs;have a4:=hX.groups;have a5:=hX.name
  have hbase:x.base=((x.base.toNat:Nat):Int):=by omega
  have m1:=zgC (x:=x.name) (by omega)
  have m2:=zJ (n:=x.base.toNat) (by omega)
  have m3:=zJ (n:=x.recs.length) (by omega)
  have m4:=zJ (n:=x.groups.length) (by omega)
  have hrl:=zF x.recs
  have hgl:(zcP x.groups).length=x.groups.length:=List.length_map ..
  obtain ⟨B,hB⟩:∃ B,zdi T.l.length++zqm (T.l.take k)=B:=⟨_,rfl⟩
  have hBl:B.length<=100000:=by rw [← hB];simp;omega
  obtain ⟨R,hR⟩:∃ R, σ ++ τ=R:=⟨_,rfl⟩
  have yb:∀ ρ,(R ++ ρ)[id]? = _:=fun ρ=>zf (hR▸xb τ)
  have yr:∀ ρ,(R ++ ρ)[t]? = _:=fun ρ=>zf (hR▸xr τ)
  have yb0:R[id]? = _:=hR▸xb τ
  have yr0:R[t]? = _:=hR▸xr τ
  rw [hB,hR]
  refine zmY (zg hd (zg yb0 (zg yr0 (zg hgt (zg hlf hk4))))) ?_
  refine znM (b:=B) (x:=x.name) (by omega) (by omega) ?_
  refine gq1 ?_
  rw [hbase]
  refine zmr (by simp;omega) (by omega) ?_
  refine gq2 hrl ?_
  refine zmr (by simp;omega) (by omega) ?_
  refine gq1 ?_
  obtain ⟨B1,hB1⟩:∃ B1,B++(zqr x.name++(zdi x.base.toNat++zdi x.recs.length))=B1:=⟨_,rfl⟩
  have hB1l:B1.length<=101000:=by rw [← hB1];simp;omega
  rw [hB1]
  refine zo x.recs.length (fun j vs s => ∃ ρ,vs = [.d (.slice (bcs (B1++zmW (x.recs.take j)))),.d (.int .i64 j)]/\s=R++(.box [.d (.str x.name),.d (.int .i64 x.base.toNat),.d (.slice (zbY x.recs)),.d (.slice (zcP x.groups))]::ρ)) ⟨_,by simp [zmW],rfl⟩ ?_
  rintro j vs s hj ⟨ρ,rfl,rfl⟩
  have hjl:(zmW (x.recs.take j)).length<=j*74:=by
   have:=zpK (f:=zqr) (n := 74) (l:=x.recs.take j) fun r hr=>by
    have:=hX.each r (List.mem_of_mem_take hr)
    have:=zgC (x:=r) (by omega)
    omega
   rw [List.length_take,Nat.min_eq_left hj] at this;exact this
  by_cases hlj:j<x.recs.length
  ·have hdj:decide ((j:Int)<(x.recs.length:Int))=true:=by simp;omega
   have hy:x.recs[j]? = some x.recs[j]:=by simp [hlj]
   have hry:=hX.each _ (List.getElem_mem hlj)
   obtain ⟨y,hye⟩:∃ y,x.recs[j]=y:=⟨_,rfl⟩
   rw [hye] at hy hry
   have hgy:=zhL hy
   refine gq2 (zg hdj (zg hrl hgy)) ?_
   refine znM (by omega) (by simp;omega) ?_
   refine gq2 (wkc j (by omega)) ?_
   refine zas.next hlj ⟨ρ++[_],?_,by simp;rfl⟩
   rw [List.take_add_one,hy]
   simp [zmW]
  ·have hdj:decide ((j:Int)<(x.recs.length:Int))=false:=by simp;omega
   have hjo:x.recs.take j=x.recs:=List.take_of_length_le (by omega)
   rw [hjo] at hjl ⊢
   refine gq2 (zg hdj (zg hrl hgl)) ?_
   refine zmr (by simp;omega) (by omega) ?_
   obtain ⟨B2,hB2⟩:∃ B2,B1++zmW x.recs++zdi x.groups.length=B2:=⟨_,rfl⟩
   have hB2l:B2.length<=120000:=by rw [← hB2];simp;omega
   rw [hB2]
   refine gq1 ?_
   refine zo x.groups.length (fun j vs s => ∃ ρ,vs = [.d (.slice (bcs (B2++zpJ (x.groups.take j)))),.d (.int .i64 j)]/\s=R++(.box [.d (.str x.name),.d (.int .i64 x.base.toNat),.d (.slice (zbY x.recs)),.d (.slice (zcP x.groups))]::ρ)) ⟨_,by simp [zpJ],rfl⟩ ?_
   clear ρ
   rintro j vs s hj ⟨ρ,rfl,rfl⟩
   have hjl:(zpJ (x.groups.take j)).length<=j*84:=by
    have:=zpK (f:=groupB) (n := 84) (l:=x.groups.take j) fun r hr=>zxf (hX.gs r (List.mem_of_mem_take hr))
    rw [List.length_take,Nat.min_eq_left hj] at this;exact this
   by_cases hlj:j<x.groups.length
   ·have hdj:decide ((j:Int)<(x.groups.length:Int))=true:=by simp;omega
    have hy:x.groups[j]? = some x.groups[j]:=by simp [hlj]
    have hgs:=hX.gs _ (List.getElem_mem hlj)
    obtain ⟨y,hye⟩:∃ y,x.groups[j]=y:=⟨_,rfl⟩
    rw [hye] at hy hgs
    have hgy:=zK (f:=zsN) hy
    have hyb:y.2=((y.2.toNat:Nat):Int):=by omega
    have p1:=zgC (x:=y.1) (by omega)
    refine gq2 (zg hdj (zg hgl hgy)) ?_
    refine znM (by omega) (by simp;omega) ?_
    refine gq1 ?_
    rw [hyb]
    refine zmr (by simp;omega) (by omega) ?_
    refine gq2 (wkc j (by omega)) ?_
    refine zas.next hlj ⟨ρ++[_],?_,by simp;rfl⟩
    rw [List.take_add_one,hy]
    simp [zpJ,groupB]
   ·have hdj:decide ((j:Int)<(x.groups.length:Int))=false:=by simp;omega
    have hjo:x.groups.take j=x.groups:=List.take_of_length_le (by omega)
    rw [hjo]
    refine gq2 (zg hdj (zg hgl (wkc k (by omega)))) ?_
    subst hR
    refine zas.next hlt ⟨τ++(.box [.d (.str x.name),.d (.int .i64 x.base.toNat),.d (.slice (zbY x.recs)),.d (.slice (zcP x.groups))]::ρ),?_,by simp⟩
    rw [List.take_add_one,hx]
    have e:zdi T.l.length++zqm (T.l.take k++[x])=B2++zpJ x.groups:=by
     rw [← hB2, ← hB1, ← hB]
     simp [zqm,topB]
    simp only [Option.toList_some,e]
 ·have hd:decide ((k:Int)<(T.l.length:Int))=false:=by simp;omega
  have hko:T.l.take k=T.l:=List.take_of_length_le (by omega)
  rw [hko] at hbl ⊢
  obtain ⟨B,hB⟩:∃ B,zdi T.l.length++zqm T.l=B:=⟨_,rfl⟩
  have hBl:B.length<=100000:=by rw [← hB];simp;omega
  rw [hB]
  have hlast:=hT.last
  refine zmY (zg hd xb) ?_
  refine zo 8 (fun j vs s => ∃ ρ,vs = [.d (.slice (bcs (B++zxd (T.last.take j)))),.d (.int .i64 j)]/\s = σ ++ ρ) ⟨_,by simp [zxd],rfl⟩ ?_
  rintro j vs s hj ⟨ρ,rfl,rfl⟩
  have hjl:(zxd (T.last.take j)).length<=j*30:=by
   have:=zxc (l:=T.last.take j) fun a ha=>hL a (List.mem_of_mem_take ha)
   rw [List.length_take,Nat.min_eq_left (by omega)] at this;exact this
  by_cases hlj:j<8
  ·have hdj:decide ((j:Int)<8)=true:=by simp;omega
   obtain ⟨a,ha⟩:∃ a,T.last[j]? = some a:=⟨_,List.getElem?_eq_getElem (by omega)⟩
   have hl3:=zuC ha
   have hlc:=zqG T.last
   obtain ⟨⟨z1,z2⟩,⟨z3,z4⟩,⟨z5,z6⟩⟩:=hL a (List.mem_of_getElem? ha)
   have hl4:∀ X:AV,List.take 3 (List.drop (1+j*3) (X::zkF T.last)) = [.d (.int .i64 a.1),.d (.int .i64 a.2.1),.d (.int .i64 a.2.2)]:=fun X=>by
    rw [Nat.add_comm,List.drop_succ_cons];exact hl3
   have e1:a.1=((a.1.toNat:Nat):Int):=by omega
   have e2:a.2.1=((a.2.1.toNat:Nat):Int):=by omega
   have e3:a.2.2=((a.2.2.toNat:Nat):Int):=by omega
   have p1:=zJ (n:=a.1.toNat) (by omega)
   have p2:=zJ (n:=a.2.1.toNat) (by omega)
   rw [e1,e2,e3] at hl4
   refine gq2 (zg hdj (zg xb hl4)) ?_
   refine zmr (by simp;omega) (by omega) ?_
   refine gq1 ?_
   refine zmr (by simp;omega) (by omega) ?_
   refine gq1 ?_
   refine zmr (by simp;omega) (by omega) ?_
   refine gq2 (wkc j (by omega)) ?_
   refine zas.next hlj ⟨ρ++[_],?_,by simp;rfl⟩
   rw [List.take_add_one,ha]
   simp [zxd,lastB]
  ·have hdj:decide ((j:Int)<8)=false:=by simp;omega
   have hjo:T.last.take j=T.last:=List.take_of_length_le (by omega)
   rw [hjo]
   refine gq2 hdj ?_
   refine zI hl ?_
   rw [← hB,List.append_assoc]
   exact hK
theorem zue {T:zcf} (hI:zhZ T) (hL:zoh T.last) (h8:T.last.length=8):(zgj T).length<=1000000:=by
 have h1:=zwH hI.tops
 have h2:=zxc hL
 have h3:=hI.len
 have h4:=zJ (n:=T.l.length) (by omega)
 simp only [zgj,List.length_append]
 omega
theorem zxy {σ:List zh} {id t g id2:Nat} {T:zcf} {L:List (List UInt8)} (hT:zcw σ id t g T) (hI:zhZ T) (hL:zoh T.last) (hT2 : σ[id2]? = some (rtO L)) (hL2:L.length<=1048576) {K:KT}
  (hK:K (.d (.int .i64 (zdX L (zgj T)))) (σ.set id2 (rtO (zfD L (zgj T))))):zp Tryz.prog zeg [.box id 0,.box id2 0] σ K:=by
 refine zeW zpP fun hl => ?_
 have:=zue hI hL hT.last
 simp only [zjJ,iN,bT,bF,eN]
 refine gq1 ?_
 refine c_r7Bytes hT hI hL ?_
 refine gq1 ?_
 refine zmo hT2 (by omega) hL2 ?_
 refine gq1 ?_
 exact zfk (by simp [zfz,dmT,dm,dm1,zcJ]) hl (zgl _ _) hK
abbrev zwh:zdl:=⟨0, 0, 0, 0, 0⟩
def genF (L:List (List UInt8)):zdl × Int × List (List UInt8):=
 let r:=rootF L []
 let L2:=zfD r.2 (zgj zff)
 if r.1=0∨zdX r.2 (zgj zff)=0 then (zwh, 6,L2) else (⟨0, 0, 0,r.1,zdX r.2 (zgj zff)⟩, 0,L2)
theorem c_r9Genesis {σ:List zh} {id:Nat} {L:List (List UInt8)} (hT : σ[id]? = some (rtO L)) (hL:L.length<=1048576) {K:KT}
  (hK:K (.tup [ztU (genF L).1,.d (.int .i64 (genF L).2.1)]) (σ.set id (rtO (genF L).2.2))):zp Tryz.prog zlS [.box id 0] σ K:=by
 refine zfc zyG fun hl => ?_
 have hid:=zB hT
 simp only [zro,iN,bT,bF,eN,zl2]
 refine gq1 ?_
 refine zoC (l := []) (zf hT) (by omega) (by simp) (by simp) ?_
 rw [List.set_append_left _ _ hid]
 obtain ⟨r,hr⟩:∃ r,rootF L []=r:=⟨_,rfl⟩
 rw [hr]
 have hl2 : σ.length=(σ.set id (rtO r.2)).length:=(List.length_set ..).symm
 have hT1:(σ.set id (rtO r.2))[id]? = some (rtO r.2):=List.getElem?_set_self hid
 have hS2:∀ Y,(σ.set id (rtO r.2)).set id Y = σ.set id Y:=fun Y=>List.set_set ..
 obtain ⟨S,hS⟩:∃ S, σ.set id (rtO r.2)=S:=⟨_,rfl⟩
 rw [hS] at hl2 hT1 hS2 ⊢
 refine gq43 hl2 ?_
 have hr2:r.2.length<=1048576:=by rw [← hr];exact (zeu 0 (Nat.le_refl _) hL).1
 have hTop:zcw (S++[.box [.d (.int .i64 0),.d (.int .i64 0),.d (.int .i64 0),.d (.int .i64 0),.d (.int .i64 0)],.box [.d (.int .i64 0),.d (.int .i64 0),.d (.int .i64 0),.d (.int .i64 r.1),.d (.int .i64 0)],.box (.rsl (S.length+3) 0 4 0 0::zkF zff.last),.row 0 4 []]) (S.length+2) (S.length+3) 0 zff:=
  ⟨by rw [zx];rfl,by rw [zx];rfl,rfl⟩
 have hLast:zoh zff.last:=fun a ha=>by
  have:=List.eq_of_mem_replicate ha
  subst this
  simp
 refine zp.pre (xs' := [.box (S.length+2) 0,.box id 0]) (σ':=S++[.box [.d (.int .i64 0),.d (.int .i64 0),.d (.int .i64 0),.d (.int .i64 0),.d (.int .i64 0)],.box [.d (.int .i64 0),.d (.int .i64 0),.d (.int .i64 0),.d (.int .i64 r.1),.d (.int .i64 0)],.box (.rsl (S.length+3) 0 4 0 0::zkF zff.last),.row 0 4 []]) ?_ ?_
 ·refine .rowB (S.length+2) 0 (.exact []::zkF zff.last) 4 (by rw [zx];rfl) rfl (by omega) ?_
  rw [zT,zW]
  simp only [List.set_cons_succ,List.set_cons_zero,List.length_cons,List.length_nil,List.append_assoc,List.cons_append,List.nil_append]
  exact .refl _ _
 refine zxy hTop .none hLast (zf hT1) hr2 ?_
 have hidS:id<S.length:=by omega
 rw [List.set_append_left _ _ hidS,hS2]
 have hg:genF L=if r.1=0∨zdX r.2 (zgj zff)=0 then (zwh, 6,zfD r.2 (zgj zff)) else (⟨0, 0, 0,r.1,zdX r.2 (zgj zff)⟩, 0,zfD r.2 (zgj zff)):=by rw [genF,hr]
 have hl3:S.length=(σ.set id (rtO (zfD r.2 (zgj zff)))).length:=by rw [← hl2,List.length_set]
 have hlo:zgh σ.length (σ.set id (rtO (zfD r.2 (zgj zff)))):=hl.set (zgl _ _)
 obtain ⟨d,hd⟩:∃ d,zdX r.2 (zgj zff)=d:=⟨_,rfl⟩
 obtain ⟨L2,hL2⟩:∃ L2,zfD r.2 (zgj zff)=L2:=⟨_,rfl⟩
 rw [hd,hL2] at hg
 rw [hL2] at hl3 hlo
 simp only [hd,hL2]
 obtain ⟨S2,hS2'⟩:∃ S2, σ.set id (rtO L2)=S2:=⟨_,rfl⟩
 rw [hS2'] at hl3 hlo ⊢
 have fin:∀ z,genF L=z->z.2.2=L2->K (.tup [ztU z.1,.d (.int .i64 z.2.1)]) S2:=fun z h h2=>by
  rw [h,h2,hS2'] at hK;exact hK
 cases c1:(r.1==0)
 ·cases c2:(d==0)
  ·refine gq43 (zg hl2 (zg hl3 (zg c1 c2))) ?_
   rw [← hl3, ← hl2]
   refine zeZ (by omega) ?_ hlo ?_
   ·simp [zfz,dmT,dm,dm1,zcJ,zcb,zfL]
   ·exact fin _ (by rw [hg,if_neg (by simp at c1 c2;omega)]) rfl
  ·refine gq43 (zg hl2 (zg hl3 (zg c1 c2))) ?_
   rw [← hl3, ← hl2]
   refine zeZ (by omega) ?_ hlo ?_
   ·simp [zfz,dmT,dm,dm1,zcJ,zcb,zfL]
   ·exact fin _ (by rw [hg,if_pos (.inr (by simpa using c2))]) rfl
 ·refine gq43 (zg hl2 (zg hl3 c1)) ?_
  rw [← hl3, ← hl2]
  refine zeZ (by omega) ?_ hlo ?_
  ·simp [zfz,dmT,dm,dm1,zcJ,zcb,zfL]
  ·exact fin _ (by rw [hg,if_pos (.inl (by simpa using c1))]) rfl
end Go.Proofs.YtfgbofkdhfjegaaGreat
