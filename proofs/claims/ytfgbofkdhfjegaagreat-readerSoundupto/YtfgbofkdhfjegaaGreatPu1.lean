/- Contract: whether a block has put what a proof names. -/
import Derived.Test.YtfgbofkdhfjegaaGreatBt2
import Derived.Test.YtfgbofkdhfjegaaGreatPt2
import Derived.Test.YtfgbofkdhfjegaaGreatCodec1
import Derived.Test.YtfgbofkdhfjegaaGreatBv5
set_option linter.all false
set_option maxRecDepth 100000
namespace Go.Proofs.YtfgbofkdhfjegaaGreat
open Go.AW
theorem any_next {α:Type} {f : α->Bool} {l:List α} {k:Nat} {x : α} (h:l[k]? = some x):(l.take (k+1)).any f=((l.take k).any f || f x):=by
 rw [List.take_add_one,h];simp
theorem any_hit {α:Type} {f : α->Bool} {l:List α} {k:Nat} {x : α} (h:l[k]? = some x) (hx:f x=true):l.any f=true:=List.any_eq_true.2 ⟨x,List.mem_of_getElem? h,hx⟩
def isPl (p r:zaI):Bool:=(r.topic==p.topic)&&((r.offset==p.offset)&&(r.rec_==p.rec_))
abbrev plO (p:zaI):zg := .box [.d (.str p.topic),.d (.int .i64 p.offset),.d (.slice (bcs p.rec_))]
abbrev plA (p:zaI):AV := .agg [.d (.str p.topic),.d (.int .i64 p.offset),.d (.slice (bcs p.rec_))]
theorem c_put25 {σ:List zg} {w n1 n2 n3 n4:Nat} {bs:List zbc} {c r' w':AV} {p:zaI} (hw : σ[w]? = some (.box [.box n1 0,.box n2 0,.box n3 0,.box n4 0,.d (.slice (zbC bs)),c,r',w'])) (hl0:bs.length<=1073741824) (hb:∀ b∈bs,zpT b) {K:KT}
  (hK:K (.d (.bool (bs.any fun b=>b.placed.any (isPl p)))) σ):zr Tryz.prog zin [.box w 0,plA p] σ K:=by
 refine zfP zsX fun hl => ?_
 have hbl:(zbC bs).length=bs.length:=List.length_map ..
 have hw':∀ τ,(σ ++ τ)[w]? = _:=fun τ=>zd hw
 simp only [zmz,iN,bT,bF,eN,zl3]
 refine gq2 hw' ?_
 refine zt bs.length (fun k vs s=>vs = [.d (.int .i64 k)]/\(∃ T,s = σ++T)/\s[σ.length]? = some (plO p)/\((bs.take k).any fun b=>b.placed.any (isPl p))=false) ⟨rfl,⟨[plO p],rfl⟩,by rw [zw];rfl,by simp⟩ ?_
 rintro k vs S hk ⟨rfl,⟨T,hT⟩,g0,hno⟩
 have g0':∀ τ,(S ++ τ)[σ.length]? = some (plO p):=fun τ=>zd g0
 by_cases hlt:k<bs.length
 ·have hd:decide ((k:Int)<(bs.length:Int))=true:=by simp;omega
  have hx:bs[k]? = some bs[k]:=by simp [hlt]
  have hbx:=hb _ (List.getElem_mem hlt)
  have hgx:=zP (f:=zha) hx
  obtain ⟨b,hbe⟩:∃ b,bs[k]=b:=⟨_,rfl⟩
  rw [hbe] at hx hgx hbx
  have hpl:(zbg b.placed).length=b.placed.length:=List.length_map ..
  have hpl2:=hbx.len
  refine gq2 (zf hd (zf hgx hbl)) ?_
  refine zt b.placed.length (fun j vs s=>vs = [.d (.int .i64 j)]/\(∃ T,s = σ++T)/\s[σ.length]? = some (plO p)/\((b.placed.take j).any (isPl p))=false) ⟨rfl,⟨_,by rw [hT,List.append_assoc]⟩,g0' _,by simp⟩ ?_
  rintro j vs S2 hj ⟨rfl,⟨T2,hT2⟩,g2,hno2⟩
  have g2':∀ τ,(S2 ++ τ)[σ.length]? = some (plO p):=fun τ=>zd g2
  by_cases hjl:j<b.placed.length
  ·have hd:decide ((j:Int)<(b.placed.length:Int))=true:=by simp;omega
   have hy:b.placed[j]? = some b.placed[j]:=by simp [hjl]
   have hgy:=zP (f:=zel) hy
   obtain ⟨r,hre⟩:∃ r,b.placed[j]=r:=⟨_,rfl⟩
   rw [hre] at hy hgy
   have hnx:=any_next (f:=isPl p) hy
   rw [hno2,Bool.false_or] at hnx
   have next:isPl p r=false->∀ U,zaB b.placed.length (fun j vs s=>vs = [.d (.int .i64 j)]/\(∃ T,s = σ++T)/\s[σ.length]? = some (plO p)/\((b.placed.take j).any (isPl p))=false) j [.d (.int .i64 ((j+1:Nat):Int))] (S2++U):=fun h U=>
    zaB.next hjl ⟨rfl,⟨_,by rw [hT2,List.append_assoc]⟩,g2' _,by rw [hnx,h]⟩
   cases e1:(r.topic==p.topic)
   ·refine gq2 (zf hd (zf hgy (zf hpl (zf g2' (zf e1 (wkc j (by omega))))))) ?_
    exact next (by simp [isPl,e1]) _
   ·cases e2:(r.offset==p.offset)
    ·refine gq2 (zf hd (zf hgy (zf hpl (zf g2' (zf e1 (zf e2 (wkc j (by omega)))))))) ?_
     exact next (by simp [isPl,e2]) _
    ·refine gq2 (zf hd (zf hgy (zf hpl (zf g2' (zf e1 e2))))) ?_
     refine zhR (a:=r.rec_) (b:=p.rec_) ?_
     cases e3:(r.rec_==p.rec_)
     ·refine gq2 (wkc j (by omega)) ?_
      exact next (by simp [isPl,e3]) _
     ·refine gq1 ?_
      rw [any_hit hx (any_hit hy (by simp [isPl,e1,e2,e3]))] at hK
      subst hT2
      rw [List.append_assoc]
      refine zT hl ?_
      exact hK
  ·have hd:decide ((j:Int)<(b.placed.length:Int))=false:=by simp;omega
   rw [show b.placed.take j=b.placed from List.take_of_length_le (by omega)] at hno2
   refine gq2 (zf hd (zf hpl (wkc k (by omega)))) ?_
   refine zaB.next hlt ⟨rfl,⟨T2,hT2⟩,g2,?_⟩
   rw [any_next hx,hno,hno2];rfl
 ·have hd:decide ((k:Int)<(bs.length:Int))=false:=by simp;omega
  rw [show bs.take k=bs from List.take_of_length_le (by omega)] at hno
  rw [hno] at hK
  refine gq2 (zf hd hbl) ?_
  subst hT
  refine zT hl ?_
  exact hK
def zgO (s:zaE) (o:Int):zbX:=match s.cs.find? (fun k=>(zhO s.L s.bs k [116] o).1==0) with
 | some k=>(zhO s.L s.bs k [116] o).2.1
 | none=>zlR
theorem c_proof25 {σ S:List zg} {C:zg} {r w:AV} {s:zaE} {L:List (List UInt8)} {G:List zI} {o:Int} {N m:Nat} {ks:List Int} {h0:zcF} (hE:WE σ C r w s L G S) (hI:StI N m s) (hm:m<=1000) (hH:zhU ks h0 s)
  {K:KT} (hK:∀ τ,K (zhl (zgO s o)) (S ++ τ)):zr Tryz.prog zey [.box (σ.length+9) 0,.d (.int .i64 o)] S K:=by
 refine zdZ zke.is rfl fun hl _=>zke.goes ?_
 have hcl:=hI.cl
 have hbl:=hI.bl
 have hcq:(zeg s.cs).length=s.cs.length:=List.length_map ..
 have w9:=fun τ=>zd (τ := τ) hE.st
 simp only [zks,iN,bT,bF,eN,zl4]
 refine gq2 (zf w9 hcq) ?_
 refine zt s.cs.length (fun k vs S'=>vs = [.d (.int .i64 k)]/\(∃ τ,S' = S ++ τ)/\S'[S.length]? = some (.box [.d (.str []),.d (.int .i64 0),.exact [],.exact [],.d (.int .i64 0),.d (.int .i64 0),.exact [],.d (.int .i64 0),.d (.int .i64 0),.exact []])/\∀ x∈s.cs.take k,((zhO s.L s.bs x [116] o).1==0)=false) ⟨rfl,⟨_,rfl⟩,by rw [zw];rfl,by simp⟩ ?_
 rintro k vs S' hk ⟨rfl,⟨τ,hτ⟩,hz,hno⟩
 have hE':WE σ C r w s L G S':=hτ▸hE.app τ
 have v9:=hE'.st
 have v9':=fun τ=>zd (τ := τ) hE'.st
 have z':=fun τ=>zd (τ := τ) hz
 have lz:=zy hz
 by_cases hlt:k<s.cs.length
 ·have hd:decide ((k:Int)<(s.cs.length:Int))=true:=by simp;omega
  have hx:s.cs[k]? = some s.cs[k]:=by simp [hlt]
  have hgx:=zP (f:=certD) hx
  have hsc:=hI.cs _ (List.getElem_mem hlt)
  obtain ⟨x,hxx⟩:∃ x,s.cs[k]=x:=⟨_,rfl⟩
  rw [hxx] at hx hgx hsc
  have hgx:(zeg s.cs)[k]? = some (certD x):=hgx
  have hw:IntKind.i64.wrap ((k:Int)+1)=((k+1:Nat):Int):=by rw [zab (by omega) (by omega)];rfl
  have hnx:((zhO s.L s.bs x [116] o).1==0)=false->∀ y∈s.cs.take (k+1),((zhO s.L s.bs y [116] o).1==0)=false:=fun h y hy=>by
   rw [List.take_add_one,hx] at hy
   rcases List.mem_append.1 hy with hy|hy
   ·exact hno y hy
   ·simp at hy;subst hy;exact h
  have hfd:((zhO s.L s.bs x [116] o).1==0)=true->zgO s o=(zhO s.L s.bs x [116] o).2.1:=fun h=>by
   have e:s.cs=s.cs.take k++x::s.cs.drop (k+1):=by
    obtain ⟨hk',rfl⟩:=List.getElem?_eq_some_iff.1 hx
    simp
   have hf:s.cs.find? (fun k=>(zhO s.L s.bs k [116] o).1==0)=some x:=by
    rw [e,List.find?_append,List.find?_eq_none.2 (fun y hy=>by simp [hno y hy]),Option.none_or,List.find?_cons,h]
   rw [zgO,hf]
  refine gq50 (zf hd (zf hgx (zf hcq (zf v9 v9')))) ?_
  refine ⟨?_,?_⟩
  rotate_left
  refine gq2 (zf v9 v9') ?_
  all_goals
   refine c_r23Make (L:=s.L) (l:=s.bs) (c:=x) (tp := [116]) (o:=o) (zd hE'.xb) hI.tab.len (by omega) hI.bs (by omega) ?_
   rw [make_same hH,zbl (zd hE'.xb)]
   obtain ⟨M,hM⟩:∃ M,zhO s.L s.bs x [116] o=M:=⟨_,rfl⟩
   rw [hM] at hnx hfd ⊢
   cases he:(M.1==0)
   ·refine gq2 (zf he hw) ?_
    exact zaB.next hlt ⟨rfl,⟨_,by rw [hτ,List.append_assoc]⟩,z' _,hnx he⟩
   ·have hf:=hfd he
    have s0:∀ τ Y,(S' ++ τ).set S.length Y=S'.set S.length Y ++ τ:=fun τ Y=>List.set_append_left _ _ lz
    have s1:∀ Y,(S'.set S.length Y)[S.length]? = some Y:=fun Y=>List.getElem?_set_self lz
    have s2:∀ Y τ,(S'.set S.length Y ++ τ)[S.length]? = some Y:=fun Y τ=>zd (s1 Y)
    have fin:∀ Y τ',K (zhl M.2.1) (S'.set S.length Y ++ τ'):=fun Y τ'=>by
     have e:S'.set S.length Y ++ τ' = S++(τ.set 0 Y ++ τ'):=by
      rw [hτ,List.set_append_right _ _ (Nat.le_refl _),Nat.sub_self,List.append_assoc]
     rw [e, ← hf];exact hK _
    refine gq2 (zf he (zf z' (zf s0 (zf s1 s2)))) ?_
    refine zfO ?_
    exact fin _ _
 ·have hd:decide ((k:Int)<(s.cs.length:Int))=false:=by simp;omega
  rw [show s.cs.take k=s.cs from List.take_of_length_le (by omega)] at hno
  have hf:zgO s o=zlR:=by
   rw [zgO,List.find?_eq_none.2 (fun y hy=>by simp [hno y hy])]
  have s1:∀ Y,(S'.set S.length Y)[S.length]? = some Y:=fun Y=>List.getElem?_set_self lz
  refine gq2 (zf hd (zf hcq (zf hz s1))) ?_
  have e:∀ Y,S'.set S.length Y=S ++ τ.set 0 Y:=fun Y=>by
   rw [hτ,List.set_append_right _ _ (Nat.le_refl _),Nat.sub_self]
  rw [e]
  refine zfO ?_
  rw [hf] at hK
  exact hK _
deriving instance DecidableEq for zaI
end Go.Proofs.YtfgbofkdhfjegaaGreat
