/- Contracts: whether a checkpoint's certificate is valid, on both sides. -/
import Derived.Test.YtpgahkdjkanblaaGreatWr6
import Derived.Test.YtpgahkdjkanblaaGreatPr4
import Derived.Test.YtpgahkdjkanblaaGreatKr6
import Derived.Test.YtpgahkdjkanblaaGreatAwFrz
set_option linter.all false
set_option maxRecDepth 100000
namespace Go.Proofs.YtpgahkdjkanblaaGreat
open Go.AW
theorem c_ptValid1 {σ:List zd} {a b c0 id m t id2 m2 t2:Nat} {L:List (List UInt8)} {G:List zy} {c:zeP} {s:zy} (ha : σ[a]? = some (.box [.box id 0])) (hb : σ[b]? = some (.box [.box id2 0])) (hc : σ[c0]? = some (certO c)) (hT:zea σ id m t L) (hG:zdL σ id2 m2 t2 G) (hL:zka L) (hg:G.length<=1073741824)
  {K:KT} (hK:K (.d (.bool (!zfy L G s s.key 6 0 c.seq c.dig))) σ):zj Tryz.prog zhj [.agg [.d (.int .i64 s.key),.d (.int .i64 s.dig)],.box a 0,.box b 0,.box c0 0] σ K:=by
 refine zAU zwQ fun hl => ?_
 have sa:∀ τ,(σ ++ τ)[a]? = _:=fun τ=>zn ha
 have sb:∀ τ,(σ ++ τ)[b]? = _:=fun τ=>zn hb
 have sc:∀ τ,(σ ++ τ)[c0]? = some (.box [.d (.int .i64 c.seq),.d (.int .i64 c.dig),.d (.slice (zO c.signs))]):=fun τ=>zn hc
 simp only [zpp,iN,bT,bF,eN]
 refine zA (zi sa sb) ?_
 refine zjO (s:=s) (hT.app _) (hG.app _) hL hg ?_
 refine zQ ?_
 refine zt hl ?_
 exact hK
theorem c_idxSign {σ:List zd} {b:List zy} {f:FuncId} {cap:List AV} {p:zy->Bool} (hb:b.length<=1073741824) (hf:∀ x∈b, ∀ K:AV->List zd->Prop,K (.d (.bool (p x))) σ->zj Tryz.prog f (.agg [.d (.int .i64 x.key),.d (.int .i64 x.dig)]::cap) σ K)
  {K:KT} (hK:∀ r:Int,decide (r≥0)=b.any p->K (.d (.int .i64 r)) σ):zj Tryz.prog zbU [.d (.slice (zO b)),.fn (.func f) [] cap] σ K:=by
 refine zeE zgu fun hl => ?_
 simp only [zdE,iN,bT,bF,eN]
 refine zQ ?_
 refine zl b.length (fun k vs s=>vs = [.d (.int .i64 k)]/\s = σ/\(b.take k).any p=false) ⟨rfl,rfl,by simp⟩ ?_
 rintro k vs s hk ⟨rfl,rfl,hno⟩
 by_cases hlt:k<b.length
 ·have hd:decide ((k:Int)<(b.length:Int))=true:=by simp;omega
  have hx:b[k]? = some b[k]:=by simp [hlt]
  have hfx:=hf _ (List.getElem_mem hlt)
  have hgx:=zF (f:=zfi) hx
  obtain ⟨x,hxe⟩:∃ x,b[k]=x:=⟨_,rfl⟩
  rw [hxe] at hx hgx hfx
  refine zfG (zi hd hgx) ?_
  refine hfx _ ?_
  cases h1:p x
  ·refine zA (wkc k (by omega)) ?_
   refine zan.next hlt ⟨rfl,rfl,?_⟩
   rw [List.take_add_one,hx]
   simp [hno,h1]
  ·refine zQ ?_
   refine zt hl ?_
   have:b.any p=true:=List.any_eq_true.2 ⟨x,List.mem_of_getElem? hx,h1⟩
   exact hK _ (by rw [this];simp)
 ·have hd:decide ((k:Int)<(b.length:Int))=false:=by simp;omega
  refine zA hd ?_
  refine zt hl ?_
  rw [List.take_of_length_le (by omega)] at hno
  exact hK _ (by rw [hno];rfl)
theorem c_hasSign {σ:List zd} {b:List zy} {f:FuncId} {cap:List AV} {p:zy->Bool} (hb:b.length<=1073741824) (hf:∀ x∈b, ∀ K:AV->List zd->Prop,K (.d (.bool (p x))) σ->zj Tryz.prog f (.agg [.d (.int .i64 x.key),.d (.int .i64 x.dig)]::cap) σ K)
  {K:KT} (hK:K (.d (.bool (b.any p))) σ):zj Tryz.prog zba [.d (.slice (zO b)),.fn (.func f) [] cap] σ K:=by
 refine zeE zfV fun hl => ?_
 simp only [zdo,iN,bT,bF,eN]
 refine zQ ?_
 refine c_idxSign hb hf fun r hr => ?_
 refine zA hr ?_
 refine zt hl ?_
 exact hK
theorem not_any (l:List zy) (p:zy->Bool):(!l.any fun s => !p s)=l.all p:=by
 induction l with
 | nil=>rfl
 | cons x l ih=>simp only [List.any_cons,List.all_cons,Bool.not_or,Bool.not_not,ih]
theorem c_ptValid {σ:List zd} {id m t id2 m2 t2:Nat} {L:List (List UInt8)} {G:List zy} {f:Int} {c:zeP} (hT:zea σ id m t L) (hG:zdL σ id2 m2 t2 G) (hL:zka L) (hg:G.length<=1073741824) (hl0:c.signs.length<=1073741824)
  {K:KT} (hK:K (.d (.bool (zoh L G f c))) σ):zj Tryz.prog zmR [.box id 0,.box id2 0,.d (.int .i64 f),zdu c] σ K:=by
 refine zAU zAy fun hl => ?_
 have fin:∀ z,zoh L G f c=z->K (.d (.bool z)) σ:=fun z h=>h▸hK
 clear hK
 simp only [zsN,iN,bT,bF,eN,zdu]
 refine zQ ?_
 refine c_ptNew (fun h0 => ?_) (fun h0 => ?_)
 ·have h0':(zbs f != 0)=true:=by simpa using h0
  refine zA h0' ?_
  refine zt hl ?_
  exact fin _ (by rw [zoh,decide_eq_false h0];rfl)
 refine zA (show ((0:Int) != 0)=false from rfl) ?_
 obtain ⟨S,hS⟩:∃ S, σ++[zd.box [.box id 0],.box [.box id2 0],certO c,.map [],.box [.d (.int .i64 f),.d (.int .i64 0),.d (.int .i64 0),.exact [],.map (σ.length+3),.exact []]]=S:=⟨_,rfl⟩
 have g0:∀ τ,(S ++ τ)[σ.length]? = some (.box [.box id 0]):=fun τ=>zn (by rw [← hS,zD];rfl)
 have g1:∀ τ,(S ++ τ)[σ.length+1]? = some (.box [.box id2 0]):=fun τ=>zn (by rw [← hS,zB];rfl)
 have g2:∀ τ,(S ++ τ)[σ.length+2]? = some (certO c):=fun τ=>zn (by rw [← hS,zB];rfl)
 have g4:S[σ.length+4]? = some (.box (.d (.int .i64 f)::[.d (.int .i64 0),.d (.int .i64 0),.exact [],.map (σ.length+3),.exact []])):=by rw [← hS,zB];rfl
 have g00:=g0 [];have g10:=g1 [];have g20:=g2 []
 rw [List.append_nil] at g00 g10 g20
 have tT:zea S id m t L:=hS▸hT.app _
 have tG:zdL S id2 m2 t2 G:=hS▸hG.app _
 have hpre:∃ T,S = σ++T:=⟨_,hS.symm⟩
 rw [hS]
 refine c_ptMayCert g4 hl0 ?_
 cases h1:zfb f c
 ·refine zQ ?_
  obtain ⟨T,rfl⟩:=hpre
  refine zt hl ?_
  exact fin _ (by rw [zoh,h1];simp)
 have hcf:zoh L G f c=c.signs.all fun s=>zfy L G s s.key 6 0 c.seq c.dig:=by rw [zoh,h1,decide_eq_true h0];rfl
 have tail:∀ τ,zj Tryz.prog zba [.d (.slice (zO c.signs)),.fn (.func zhj) [] [.box σ.length 0,.box (σ.length+1) 0,.box (σ.length+2) 0]] (S ++ τ) fun K1 s=>unC .not K1 s fun L1 s=>z1 (AW.Ends σ.length K) L1 s:=fun τ=>by
  refine c_hasSign (p:=fun s => !zfy L G s s.key 6 0 c.seq c.dig) hl0 (fun x _ K hK=>c_ptValid1 (g0 _) (g1 _) (g2 _) (tT.app _) (tG.app _) hL hg hK) ?_
  rw [hcf, ← not_any] at fin
  refine zQ ?_
  obtain ⟨T,rfl⟩:=hpre
  rw [List.append_assoc]
  refine zt hl ?_
  exact fin _ rfl
 have tail0:=tail []
 rw [List.append_nil] at tail0
 refine zA (zi g00 (zi g10 g20)) ?_
 refine c_tLen tT ?_
 cases h2:((L.length:Int)==0)
 ·refine zA (zi h2 (zi g00 (zi g10 g20))) ?_
  refine c_gLen tG ?_
  cases h3:((G.length:Int)==0)
  ·refine zA (zi h2 (zi h3 (zi g00 (zi g10 g20)))) ?_
   exact tail0
  ·refine zA (zi h2 (zi h3 (zi g00 (zi g10 g20)))) ?_
   refine zsw tG hg fun g' => ?_
   refine zA g2 ?_
   exact tail _
 ·refine zA (zi h2 (zi g00 (zi g10 g20))) ?_
  refine zsr tT hL.nd hL.len hL.each ?_
  refine zA g1 ?_
  refine c_gLen (tG.app _) ?_
  cases h3:((G.length:Int)==0)
  ·refine zA (zi h2 (zi h3 (zi g1 g2))) ?_
   exact tail _
  ·refine zA (zi h2 (zi h3 (zi g1 g2))) ?_
   refine zsw (tG.app _) hg fun g' => ?_
   refine zA g2 ?_
   exact tail _
theorem c_r14Valid {σ:List zd} {id id2:Nat} {L:List (List UInt8)} {G:List zy} {f:Int} {c:zeP} (hT : σ[id]? = some (rtO L)) (hG : σ[id2]? = some (rlO G)) (hL:L.length<=1048576) (hg:G.length<=1073741824) (hl0:c.signs.length<=1073741824)
  {K:KT} (hK:K (.d (.bool (zoh L G f c))) σ):zj Tryz.prog zqN [.box id 0,.box id2 0,.d (.int .i64 f),zdu c] σ K:=by
 refine zAU e_r14_Valid fun hl => ?_
 have fin:∀ z,zoh L G f c=z->K (.d (.bool z)) σ:=fun z h=>h▸hK
 clear hK
 have hlen:(zO c.signs).length=c.signs.length:=List.length_map ..
 simp only [zxt,iN,bT,bF,eN,zdu]
 refine zQ ?_
 refine ziR ?_
 cases h0:(zbs f != 0)
 rotate_left
 ·refine zA h0 ?_
  refine zt hl ?_
  have h0':zbs f≠0:=by simpa using h0
  exact fin _ (by rw [zoh,decide_eq_false h0'];rfl)
 have h0':zbs f=0:=by simpa using h0
 refine zA h0 ?_
 refine c_r14MayCert (f:=f) (cs := [.d (.int .i64 0),.d (.int .i64 0),.exact [],.exact [],.exact []]) (by rw [zB];rfl) hl0 ?_
 cases h1:zfb f c
 ·refine zQ ?_
  refine zt hl ?_
  exact fin _ (by rw [zoh,h1];simp)
 have hcf:zoh L G f c=c.signs.all fun s=>zfy L G s s.key 6 0 c.seq c.dig:=by rw [zoh,h1,decide_eq_true h0'];rfl
 refine zQ ?_
 refine zl c.signs.length (fun k vs s=>vs = [.d (.int .i64 k)]/\s = σ++[certO c,.box [.d (.int .i64 f),.d (.int .i64 0),.d (.int .i64 0),.exact [],.exact [],.exact []]]/\(c.signs.take k).all (fun s=>zfy L G s s.key 6 0 c.seq c.dig)=true) ⟨rfl,rfl,by simp⟩ ?_
 rintro k vs s hk ⟨rfl,rfl,hok⟩
 by_cases hlt:k<c.signs.length
 ·have hd:decide ((k:Int)<(c.signs.length:Int))=true:=by simp;omega
  have hx:c.signs[k]? = some c.signs[k]:=by simp [hlt]
  have hgx:=zF (f:=zfi) hx
  obtain ⟨x,hxe⟩:∃ x,c.signs[k]=x:=⟨_,rfl⟩
  rw [hxe] at hx hgx
  refine zfG (zi hd (zi hgx hlen)) ?_
  refine zjN (s:=x) (zn hT) (zn hG) hL hg ?_
  cases h2:zfy L G x x.key 6 0 c.seq c.dig
  ·refine zQ ?_
   refine zt hl ?_
   refine fin _ ?_
   rw [hcf,Bool.eq_false_iff]
   intro hall
   have:=List.all_eq_true.1 hall x (List.mem_of_getElem? hx)
   rw [h2] at this;cases this
  ·refine zA (wkc k (by omega)) ?_
   refine zan.next hlt ⟨rfl,rfl,?_⟩
   rw [List.take_add_one,hx]
   simp only [List.all_append,hok,Option.toList_some,List.all_cons,List.all_nil,Bool.true_and,Bool.and_true,h2]
 ·have hd:decide ((k:Int)<(c.signs.length:Int))=false:=by simp;omega
  rw [List.take_of_length_le (by omega)] at hok
  refine zA (zi hd hlen) ?_
  refine zt hl ?_
  exact fin _ (by rw [hcf,hok])
def zkG (L:List (List UInt8)) (G:List zy) (f view low:Int):Int->List zbO->Bool
 | _,[]=>true
 | last,p::r=>zgY L G f p&&(!(decide (p.view≥view))&&(!(decide (p.seq<=last))&&(!(decide (p.seq-8 > low))&&zkG L G f view low p.seq r)))
theorem zzw {L:List (List UInt8)} {G:List zy} {f view low last:Int} {l:List zbO} {k:Nat} {p:zbO} (h:l[k]? = some p) :
  zkG L G f view low last (l.drop k)=(zgY L G f p&&(!(decide (p.view≥view))&&(!(decide (p.seq<=last))&&(!(decide (p.seq-8 > low))&&zkG L G f view low p.seq (l.drop (k+1)))))):=by
 have hk:k<l.length:=(List.getElem?_eq_some_iff.1 h).1
 rw [List.drop_eq_getElem_cons hk,(List.getElem?_eq_some_iff.1 h).2]
 rfl
theorem prepF_seq {L:List (List UInt8)} {G:List zy} {f:Int} {p:zbO} (h:zgY L G f p=true):1<=p.seq/\p.seq<=9007199254740992:=by
 simp [zgY,zjs] at h
 omega
theorem c_prAbove {σ:List zd} {id m t id2 m2 t2:Nat} {L:List (List UInt8)} {G:List zy} {f view low:Int} {l:List zbO} (hT:zea σ id m t L) (hG:zdL σ id2 m2 t2 G) (hL:zka L) (hg:G.length<=1073741824) (hp:∀ p∈l,smallP p) (hl0:l.length<=1073741824) (hlow:zrF low)
  {K:KT} (hK:K (.d (.bool (zkG L G f view low low l))) σ):zj Tryz.prog zjl [.box id 0,.box id2 0,.d (.int .i64 f),.d (.int .i64 view),.d (.int .i64 low),.d (.slice (zdC l))] σ K:=by
 refine acE6 zvj fun hl => ?_
 have fin:∀ z,zkG L G f view low low l=z->K (.d (.bool z)) σ:=fun z h=>h▸hK
 clear hK
 have hlen:(zdC l).length=l.length:=List.length_map ..
 simp only [znK,iN,bT,bF,eN,zl3]
 refine zA hlen ?_
 refine zl l.length (fun k vs s => ∃ last:Int,vs = [.d (.int .i64 last),.d (.int .i64 k)]/\(∃ T,s = σ++T)/\low<=last ∧
   zkG L G f view low low l=zkG L G f view low last (l.drop k)) ⟨low,rfl,⟨[],by simp⟩,Int.le_refl _,by simp⟩ ?_
 rintro k vs s hk ⟨last,rfl,⟨T,rfl⟩,hlast,hpf⟩
 by_cases hlt:k<l.length
 ·have hd:decide ((k:Int)<(l.length:Int))=true:=by simp;omega
  have hx:l[k]? = some l[k]:=by simp [hlt]
  have hxs:=hp _ (List.getElem_mem hlt)
  have hgx:=zF (f:=zei) hx
  obtain ⟨p,hpe⟩:∃ p,l[k]=p:=⟨_,rfl⟩
  rw [hpe] at hx hgx hxs
  rw [zzw hx] at hpf
  have hw:IntKind.i64.wrap ((k:Int)+1)=((k+1:Nat):Int):=by rw [zab (by omega) (by omega)];rfl
  refine zkZ (zi hd (zi hgx hlen)) ?_
  refine c_prValid (p:=p) (hT.app _) (hG.app _) hL hg hxs ?_
  cases g1:zgY L G f p
  ·refine zQ ?_
   refine zt hl ?_
   exact fin _ (by rw [hpf,g1];rfl)
  have hsq:=prepF_seq g1
  rw [g1,Bool.true_and] at hpf
  cases g2:decide (p.view≥view)
  rotate_left
  ·refine zA g2 ?_
   refine zt hl ?_
   exact fin _ (by rw [hpf,g2];rfl)
  cases g3:decide (p.seq<=last)
  rotate_left
  ·refine zA (zi g2 g3) ?_
   refine zt hl ?_
   exact fin _ (by rw [hpf,g2,g3];rfl)
  rw [g2,g3] at hpf
  simp only [Bool.not_false,Bool.true_and] at hpf
  have g3':¬ p.seq<=last:=by simpa using g3
  cases g4:decide (low<0)
  ·have g4':decide (low≥0)=true:=by simp at g4 ⊢;omega
   have g4'':0<=low:=by simpa using g4'
   have hws:IntKind.i64.wrap (p.seq-low)=p.seq-low:=zab (by omega) (by omega)
   cases g5:decide (p.seq-low > 8)
   ·have e:decide (p.seq-8 > low)=false:=by simp at g5 ⊢;omega
    rw [e,Bool.not_false,Bool.true_and] at hpf
    refine zA (zi g2 (zi g3 (zi g4 (zi g4' (zi hws (zi g5 hw)))))) ?_
    exact zan.next hlt ⟨p.seq,rfl,⟨_,rfl⟩,by omega,hpf⟩
   ·have e:decide (p.seq-8 > low)=true:=by simp at g5 ⊢;omega
    rw [e] at hpf
    refine zA (zi g2 (zi g3 (zi g4 (zi g4' (zi hws (zi g5 hw)))))) ?_
    refine zt hl ?_
    exact fin _ hpf
  ·have g4':decide (low≥0)=false:=by simp at g4 ⊢;omega
   have g4'':low<0:=by simpa using g4
   have hlo:=hlow.1
   have hws:IntKind.i64.wrap (8+low)=8+low:=zab (by omega) (by omega)
   cases g5:decide (p.seq > 8+low)
   ·have e:decide (p.seq-8 > low)=false:=by simp at g5 ⊢;omega
    rw [e,Bool.not_false,Bool.true_and] at hpf
    refine zA (zi g2 (zi g3 (zi g4 (zi g4' (zi hws (zi g5 hw)))))) ?_
    exact zan.next hlt ⟨p.seq,rfl,⟨_,rfl⟩,by omega,hpf⟩
   ·have e:decide (p.seq-8 > low)=true:=by simp at g5 ⊢;omega
    rw [e] at hpf
    refine zA (zi g2 (zi g3 (zi g4 (zi g4' (zi hws (zi g5 hw)))))) ?_
    refine zt hl ?_
    exact fin _ hpf
 ·have hd:decide ((k:Int)<(l.length:Int))=false:=by simp;omega
  rw [List.drop_eq_nil_of_le (by omega)] at hpf
  refine zA (zi hd hlen) ?_
  refine zt hl ?_
  exact fin _ hpf
theorem c_r15Above {σ:List zd} {id id2:Nat} {L:List (List UInt8)} {G:List zy} {f view low:Int} {l:List zbO} (hT : σ[id]? = some (rtO L)) (hG : σ[id2]? = some (rlO G)) (hL:zka L) (hg:G.length<=1073741824) (hp:∀ p∈l,smallP p) (hl0:l.length<=1073741824)
  {K:KT} (hK:K (.d (.bool (zkG L G f view low low l))) σ):zj Tryz.prog zqM [.box id 0,.box id2 0,.d (.int .i64 f),.d (.int .i64 view),.d (.int .i64 low),.d (.slice (zdC l))] σ K:=by
 refine acE6 e_r15_Above fun hl => ?_
 have fin:∀ z,zkG L G f view low low l=z->K (.d (.bool z)) σ:=fun z h=>h▸hK
 clear hK
 have hlen:(zdC l).length=l.length:=List.length_map ..
 simp only [zxs,iN,bT,bF,eN]
 refine zA hlen ?_
 refine zl l.length (fun k vs s => ∃ last:Int,vs = [.d (.int .i64 last),.d (.int .i64 k)]/\s = σ/\low<=last ∧
   zkG L G f view low low l=zkG L G f view low last (l.drop k)) ⟨low,rfl,rfl,Int.le_refl _,by simp⟩ ?_
 rintro k vs s hk ⟨last,rfl,rfl,hlast,hpf⟩
 by_cases hlt:k<l.length
 ·have hd:decide ((k:Int)<(l.length:Int))=true:=by simp;omega
  have hx:l[k]? = some l[k]:=by simp [hlt]
  have hxs:=hp _ (List.getElem_mem hlt)
  have hgx:=zF (f:=zei) hx
  obtain ⟨p,hpe⟩:∃ p,l[k]=p:=⟨_,rfl⟩
  rw [hpe] at hx hgx hxs
  rw [zzw hx] at hpf
  have hw:IntKind.i64.wrap ((k:Int)+1)=((k+1:Nat):Int):=by rw [zab (by omega) (by omega)];rfl
  refine zkZ (zi hd (zi hgx hlen)) ?_
  refine c_r15Valid (p:=p) hT hG hL hg hxs ?_
  cases g1:zgY L G f p
  ·refine zQ ?_
   refine zt hl ?_
   exact fin _ (by rw [hpf,g1];rfl)
  have hsq:=prepF_seq g1
  rw [g1,Bool.true_and] at hpf
  cases g2:decide (p.view≥view)
  rotate_left
  ·refine zkZ (zi g2 hgx) ?_
   refine zt hl ?_
   exact fin _ (by rw [hpf,g2];rfl)
  cases g3:decide (p.seq<=last)
  rotate_left
  ·refine zkZ (zi g2 (zi g3 hgx)) ?_
   refine zt hl ?_
   exact fin _ (by rw [hpf,g2,g3];rfl)
  rw [g2,g3] at hpf
  simp only [Bool.not_false,Bool.true_and] at hpf
  have g3':¬ p.seq<=last:=by simpa using g3
  have g4:decide (p.seq<=low)=false:=by simp;omega
  have hws:IntKind.i64.wrap (p.seq-8)=p.seq-8:=zab (by omega) (by omega)
  cases g5:decide (p.seq-8 > low)
  ·rw [g5,Bool.not_false,Bool.true_and] at hpf
   refine zkZ (zi g2 (zi g3 (zi g4 (zi hws (zi g5 (zi hw hgx)))))) ?_
   exact zan.next hlt ⟨p.seq,rfl,rfl,by omega,hpf⟩
  ·rw [g5] at hpf
   refine zkZ (zi g2 (zi g3 (zi g4 (zi hws (zi g5 (zi hw hgx)))))) ?_
   refine zt hl ?_
   exact fin _ hpf
 ·have hd:decide ((k:Int)<(l.length:Int))=false:=by simp;omega
  rw [List.drop_eq_nil_of_le (by omega)] at hpf
  refine zA (zi hd hlen) ?_
  refine zt hl ?_
  exact fin _ hpf
def zbq (L:List (List UInt8)) (G:List zy) (f view:Int) (c:zJ):Bool:=
 decide (zbs f=0)&&(decide (c.view=view)&&(decide (0<=c.src)&&(decide (c.src<zaR 3 f)&&(zcr L G (vcM c)&&(zoh L G f c.cert&&(decide (c.cert.seq.tmod 4=0)&&zkG L G f view c.cert.seq c.cert.seq c.above))))))
structure zqf (c:zJ):Prop where
 ok:okCh c
 small:zjF c
 each:∀ p∈c.above,smallP p
 seq:zrF c.cert.seq
theorem vcM_small {c:zJ} (h:zqf c):zbn (vcM c):=by
 obtain ⟨n1,n2,n3,n4,n5,n6,n7,n8,n9,n10⟩:=zfI
 exact ⟨n1,n2,n3,by simp [vcM],by intro x hx;simp [vcM] at hx;subst hx;exact ⟨h.ok,h.small⟩,n6,n7,n8,n9,n10⟩
theorem zxc {σ:List zd} {id m t id2 m2 t2:Nat} {L:List (List UInt8)} {G:List zy} {f view:Int} {c:zJ} (hT:zea σ id m t L) (hG:zdL σ id2 m2 t2 G) (hL:zka L) (hg:G.length<=1073741824) (hc:zqf c) {K:KT}
  (hK:K (.d (.bool (zbq L G f view c))) σ):zj Tryz.prog zhl [.box id 0,.box id2 0,.d (.int .i64 f),.d (.int .i64 view),.agg (zbj c)] σ K:=by
 refine acE5 zwS fun hl => ?_
 have fin:∀ z,zbq L G f view c=z->K (.d (.bool z)) σ:=fun z h=>h▸hK
 clear hK
 have hT1:=fun τ=>hT.app τ
 have hG1:=fun τ=>hG.app τ
 have hsm:=vcM_small hc
 simp only [zpq,iN,bT,bF,eN]
 refine zQ ?_
 refine zkE ?_
 cases h1:(zbs f==0)
 ·refine zA h1 ?_
  refine zt hl ?_
  exact fin _ (by simp at h1;simp [zbq,h1])
 cases h2:(c.view==view)
 ·refine zA (zi h1 h2) ?_
  refine zt hl ?_
  exact fin _ (by simp at h2;simp [zbq,h2])
 cases h3:decide (c.src≥0)
 ·refine zA (zi h1 (zi h2 h3)) ?_
  refine zt hl ?_
  exact fin _ (by simp only [decide_eq_false_iff_not,ge_iff_le] at h3;simp [zbq,h3])
 refine zA (zi h1 (zi h2 h3)) ?_
 refine zkF ?_
 cases h4:decide (c.src<zaR 3 f)
 ·refine zA h4 ?_
  refine zt hl ?_
  exact fin _ (by simp only [decide_eq_false_iff_not] at h4;simp [zbq,h4])
 refine zA h4 ?_
 refine c_auChange (c:=c) ?_
 refine zQ ?_
 refine c_auValid7 (M:=vcM c) (c:=c) (hT1 _) (hG1 _) hL hg hsm rfl rfl ?_
 cases h5:zcr L G (vcM c)
 ·refine zQ ?_
  refine zt hl ?_
  exact fin _ (by simp [zbq,h5])
 refine zQ ?_
 refine c_ptValid (c:=c.cert) (hT1 _) (hG1 _) hL hg hc.ok.signs ?_
 cases h6:zoh L G f c.cert
 ·refine zQ ?_
  refine zt hl ?_
  exact fin _ (by simp [zbq,h6])
 have hq:((4:Int)==0)=false:=rfl
 cases h7:(c.cert.seq.tmod 4==0)
 ·refine zA (zi h7 hq) ?_
  refine zt hl ?_
  exact fin _ (by simp only [beq_eq_false_iff_ne,ne_eq] at h7;simp [zbq,h7])
 refine zA (zi h7 hq) ?_
 refine c_prAbove (hT1 _) (hG1 _) hL hg hc.each hc.ok.above hc.seq ?_
 refine zQ ?_
 refine zt hl ?_
 refine fin _ ?_
 simp only [beq_iff_eq] at h1 h2 h7
 simp only [decide_eq_true_eq,ge_iff_le] at h3 h4
 simp [zbq,h1,h2,h3,h4,h5,h6,h7]
theorem zzn {σ:List zd} {id id2:Nat} {L:List (List UInt8)} {G:List zy} {f view:Int} {c:zJ} (hT : σ[id]? = some (rtO L)) (hG : σ[id2]? = some (rlO G)) (hL:zka L) (hg:G.length<=1073741824) (hc:zqf c) {K:KT}
  (hK:K (.d (.bool (zbq L G f view c))) σ):zj Tryz.prog zmK [.box id 0,.box id2 0,.d (.int .i64 f),.d (.int .i64 view),.agg (zbj c)] σ K:=by
 refine acE5 e_r16_Valid fun hl => ?_
 have fin:∀ z,zbq L G f view c=z->K (.d (.bool z)) σ:=fun z h=>h▸hK
 clear hK
 have hT1:=fun τ=>zn (τ := τ) hT
 have hG1:=fun τ=>zn (τ := τ) hG
 have hsm:=vcM_small hc
 simp only [zxp,iN,bT,bF,eN]
 refine zQ ?_
 refine ziR ?_
 cases h1:(zbs f==0)
 ·refine zA h1 ?_
  refine zt hl ?_
  exact fin _ (by simp at h1;simp [zbq,h1])
 cases h2:(c.view==view)
 ·refine zA (zi h1 h2) ?_
  refine zt hl ?_
  exact fin _ (by simp at h2;simp [zbq,h2])
 cases h3:decide (c.src≥0)
 ·refine zA (zi h1 (zi h2 h3)) ?_
  refine zt hl ?_
  exact fin _ (by simp only [decide_eq_false_iff_not,ge_iff_le] at h3;simp [zbq,h3])
 refine zA (zi h1 (zi h2 h3)) ?_
 refine zmk ?_
 cases h4:decide (c.src<zaR 3 f)
 ·refine zA h4 ?_
  refine zt hl ?_
  exact fin _ (by simp only [decide_eq_false_iff_not] at h4;simp [zbq,h4])
 refine zA h4 ?_
 refine c_raChange (c:=c) ?_
 refine zQ ?_
 refine c_raValid7 (M:=vcM c) (c:=c) (hT1 _) (hG1 _) hL.len hg hsm rfl rfl ?_
 cases h5:zcr L G (vcM c)
 ·refine zQ ?_
  refine zt hl ?_
  exact fin _ (by simp [zbq,h5])
 refine zQ ?_
 refine c_r14Valid (c:=c.cert) (hT1 _) (hG1 _) hL.len hg hc.ok.signs ?_
 cases h6:zoh L G f c.cert
 ·refine zQ ?_
  refine zt hl ?_
  exact fin _ (by simp [zbq,h6])
 have hq:((4:Int)==0)=false:=rfl
 cases h7:(c.cert.seq.tmod 4==0)
 ·refine zA (zi h7 hq) ?_
  refine zt hl ?_
  exact fin _ (by simp only [beq_eq_false_iff_ne,ne_eq] at h7;simp [zbq,h7])
 refine zA (zi h7 hq) ?_
 refine c_r15Above (hT1 _) (hG1 _) hL hg hc.each hc.ok.above ?_
 refine zQ ?_
 refine zt hl ?_
 refine fin _ ?_
 simp only [beq_iff_eq] at h1 h2 h7
 simp only [decide_eq_true_eq,ge_iff_le] at h3 h4
 simp [zbq,h1,h2,h3,h4,h5,h6,h7]
end Go.Proofs.YtpgahkdjkanblaaGreat

/- Ends of calls that keep objects, at which objects are told otherwise. -/
namespace Go.AW
section
variable {P:Program} {σ:List zd}
def EndsKW (n:Nat) (ks:List zd->List Nat) (K:KT) (out:Option (List AV)) (σ':List zd):Prop := ∃ s,zsT [] σ' [] s/\zoj n ks K out s
theorem endsKW_of {n:Nat} {ks:List zd->List Nat} {K:KT} {out:Option (List AV)} {s:List zd} (h:zoj n ks K out s):EndsKW n ks K out s:=⟨s,.refl _ _,h⟩
theorem zxn {f:FuncId} {F:AF} {na:Nat} (hF:isFn P f F na) {as0:List AV} (has:as0.length=na) {K:KT} (ks:List zd->List Nat)
  (h:zgl σ.length σ->(∀ a∈as0,Low σ.length a)->awp P F.body (AtEnd fun fr' σ'=>EndsKW σ.length ks K (ztd fr' σ' F.res) σ') (zke 0 as0) σ):zj P f as0 σ K:=
 zmr hF has _ (fun {L w L' σ' w' fr' ts} S st0 S0 F' hz=>by
  obtain ⟨s,hw,hz⟩:=hz
  obtain ⟨L3,st3,S',_⟩:=zjU hw S0 (us := []) ⟨rfl,by simp⟩
  have st:=st0.trans st3
  unfold zoj zrC at hz
  split at hz
  ·rename_i l hl
   obtain ⟨z0,z1,z2,z3,z4⟩:=hz
   split at z4
   ·rename_i os hos
    split at z4
    ·rename_i os' r hos' hr
     obtain ⟨L2,k1,k2,k3⟩:=ztC S' z0 z1 z2 z3 hos hos'
     refine ⟨L2,_,l,r,hl,⟨st.os,st.tape,st.output,st.size,st.blk,st.cell,st.fz,fun b o hb ho=>st.own b o hb (k2.own b o ho),by simp;omega,fun id x hx => ?_⟩,k3,fun v hv=>(st3.rv hv).ren k2 hr,z4⟩
     have hid:=zp hx
     obtain ⟨x',g1,g2,g3,g4,g5⟩:=st.turns id x hx
     refine ⟨x',by rw [List.getElem?_append_left (by simp;omega),List.getElem?_take,if_pos hid];exact g1,g2,fun hk hk5=>(k1 id hid).trans (g3 hk hk5),fun sz n e => ?_,fun g sz cs e => ?_⟩
     ·obtain ⟨n',e1,e2,e3⟩:=g4 sz n e
      exact ⟨n',e1,e2,fun e=>(k1 id hid).trans (e3 e)⟩
     ·rcases g5 g sz cs e with h|⟨g',cs',e1,e2,e3⟩
      ·exact .inl h
      ·exact .inr ⟨g',cs',e1,e2,fun e=>⟨(k1 id hid).trans (e3 e).1,(e3 e).2⟩⟩
    ·exact z4.elim
   ·exact z4.elim
  ·exact hz.elim) h
end
end Go.AW
