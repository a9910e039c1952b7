/- Contracts: whether a checkpoint's certificate is valid, on both sides. -/
import Derived.Test.YtpgahkdjkanblaaGreatWr6
import Derived.Test.YtpgahkdjkanblaaGreatPr4
import Derived.Test.YtpgahkdjkanblaaGreatKr6
import Derived.Test.YtpgahkdjkanblaaGreatAwFrz
set_option linter.all false
set_option maxRecDepth 100000
namespace Go.Proofs.YtpgahkdjkanblaaGreat
open Go.AW
theorem c_ptValid1 {σ:List zh} {a b c0 id m t id2 m2 t2:Nat} {L:List (List UInt8)} {G:List zK} {c:zft} {s:zK} (ha : σ[a]? = some (.box [.box id 0])) (hb : σ[b]? = some (.box [.box id2 0])) (hc : σ[c0]? = some (certO c)) (hT:zeS σ id m t L) (hG:zev σ id2 m2 t2 G) (hL:znT L) (hg:G.length<=1073741824)
  {K:KT} (hK:K (.d (.bool (!zgP L G s s.key 6 0 c.seq c.dig))) σ):zo Tryz.prog zhl [.agg [.d (.int .i64 s.key),.d (.int .i64 s.dig)],.box a 0,.box b 0,.box c0 0] σ K:=by
 refine zd zpv.is rfl fun hl _=>zpv.goes ?_
 have sa:∀ τ,(σ ++ τ)[a]? = _:=fun τ=>zx ha
 have sb:∀ τ,(σ ++ τ)[b]? = _:=fun τ=>zx hb
 have sc:∀ τ,(σ ++ τ)[c0]? = some (.box [.d (.int .i64 c.seq),.d (.int .i64 c.dig),.d (.slice (zap c.signs))]):=fun τ=>zx hc
 simp only [zpU,iN,bT,bF,eN]
 refine zB (zn sa sb) ?_
 refine zns (s:=s) (hT.app _) (hG.app _) hL hg ?_
 refine zab ?_
 refine zw hl ?_
 exact hK
theorem c_idxSign {σ:List zh} {b:List zK} {f:FuncId} {cap:List AV} {p:zK->Bool} (hb:b.length<=1073741824) (hf:∀ x ∈ b, ∀ K:AV->List zh->Prop,K (.d (.bool (p x))) σ->zo Tryz.prog f (.agg [.d (.int .i64 x.key),.d (.int .i64 x.dig)] :: cap) σ K)
  {K:KT} (hK:∀ r:Int,decide (r ≥ 0)=b.any p->K (.d (.int .i64 r)) σ):zo Tryz.prog zcg [.d (.slice (zap b)),.fn (.func f) [] cap] σ K:=by
 refine zd zdG.is rfl fun hl _=>zdG.goes ?_
 simp only [zdL,iN,bT,bF,eN]
 refine zab ?_
 refine zm b.length (fun k vs s=>vs = [.d (.int .i64 k)]/\s = σ/\(b.take k).any p=false) ⟨rfl,rfl,by simp⟩ ?_
 rintro k vs s hk ⟨rfl,rfl,hno⟩
 by_cases hlt:k<b.length
 ·have hd:decide ((k:Int)<(b.length:Int))=true:=by simp;omega
  have hx:b[k]? = some b[k]:=by simp [hlt]
  have hfx:=hf _ (List.getElem_mem hlt)
  have hgx:=zR (f:=zgf) hx
  obtain ⟨x,hxe⟩:∃ x,b[k]=x:=⟨_,rfl⟩
  rw [hxe] at hx hgx hfx
  refine zhH (zn hd hgx) ?_
  refine hfx _ ?_
  cases h1:p x
  ·refine zB (wkc k (by omega)) ?_
   refine zaz.next hlt ⟨rfl,rfl,?_⟩
   rw [List.take_add_one,hx]
   simp [hno,h1]
  ·refine zab ?_
   refine zw hl ?_
   have:b.any p=true:=List.any_eq_true.2 ⟨x,List.mem_of_getElem? hx,h1⟩
   exact hK _ (by rw [this];simp)
 ·have hd:decide ((k:Int)<(b.length:Int))=false:=by simp;omega
  refine zB hd ?_
  refine zw hl ?_
  rw [List.take_of_length_le (by omega)] at hno
  exact hK _ (by rw [hno];rfl)
theorem c_hasSign {σ:List zh} {b:List zK} {f:FuncId} {cap:List AV} {p:zK->Bool} (hb:b.length<=1073741824) (hf:∀ x ∈ b, ∀ K:AV->List zh->Prop,K (.d (.bool (p x))) σ->zo Tryz.prog f (.agg [.d (.int .i64 x.key),.d (.int .i64 x.dig)] :: cap) σ K)
  {K:KT} (hK:K (.d (.bool (b.any p))) σ):zo Tryz.prog zbd [.d (.slice (zap b)),.fn (.func f) [] cap] σ K:=by
 refine zd zdj.is rfl fun hl _=>zdj.goes ?_
 simp only [zdl,iN,bT,bF,eN]
 refine zab ?_
 refine c_idxSign hb hf fun r hr => ?_
 refine zB hr ?_
 refine zw hl ?_
 exact hK
theorem not_any (l:List zK) (p:zK->Bool):(!l.any fun s => !p s)=l.all p:=by
 induction l with
 | nil=>rfl
 | cons x l ih=>simp only [List.any_cons,List.all_cons,Bool.not_or,Bool.not_not,ih]
theorem c_ptValid {σ:List zh} {id m t id2 m2 t2:Nat} {L:List (List UInt8)} {G:List zK} {f:Int} {c:zft} (hT:zeS σ id m t L) (hG:zev σ id2 m2 t2 G) (hL:znT L) (hg:G.length<=1073741824) (hl0:c.signs.length<=1073741824)
  {K:KT} (hK:K (.d (.bool (zrC L G f c))) σ):zo Tryz.prog zna [.box id 0,.box id2 0,.d (.int .i64 f),zgc c] σ K:=by
 refine zd zsz.is rfl fun hl _=>zsz.goes ?_
 have fin:∀ z,zrC L G f c=z->K (.d (.bool z)) σ:=fun z h=>h ▸ hK
 clear hK
 simp only [zsX,iN,bT,bF,eN,zgc]
 refine zab ?_
 refine c_ptNew (fun h0 => ?_) (fun h0 => ?_)
 ·have h0':(zbN f != 0)=true:=by simpa using h0
  refine zB h0' ?_
  refine zw hl ?_
  exact fin _ (by rw [zrC,decide_eq_false h0];rfl)
 refine zB (show ((0:Int) != 0)=false from rfl) ?_
 obtain ⟨S,hS⟩:∃ S, σ++[zh.box [.box id 0],.box [.box id2 0],certO c,.map [],.box [.d (.int .i64 f),.d (.int .i64 0),.d (.int .i64 0),.exact [],.map (σ.length+3),.exact []]]=S:=⟨_,rfl⟩
 have g0:∀ τ,(S ++ τ)[σ.length]? = some (.box [.box id 0]):=fun τ=>zx (by rw [← hS,zt];rfl)
 have g1:∀ τ,(S ++ τ)[σ.length+1]? = some (.box [.box id2 0]):=fun τ=>zx (by rw [← hS,zC];rfl)
 have g2:∀ τ,(S ++ τ)[σ.length+2]? = some (certO c):=fun τ=>zx (by rw [← hS,zC];rfl)
 have g4:S[σ.length+4]? = some (.box (.d (.int .i64 f) :: [.d (.int .i64 0),.d (.int .i64 0),.exact [],.map (σ.length+3),.exact []])):=by rw [← hS,zC];rfl
 have g00:=g0 [];have g10:=g1 [];have g20:=g2 []
 rw [List.append_nil] at g00 g10 g20
 have tT:zeS S id m t L:=hS ▸ hT.app _
 have tG:zev S id2 m2 t2 G:=hS ▸ hG.app _
 have hpre:∃ T,S = σ++T:=⟨_,hS.symm⟩
 rw [hS]
 refine c_ptMayCert g4 hl0 ?_
 cases h1:zfn f c
 ·refine zab ?_
  obtain ⟨T,rfl⟩:=hpre
  refine zw hl ?_
  exact fin _ (by rw [zrC,h1];simp)
 have hcf:zrC L G f c=c.signs.all fun s=>zgP L G s s.key 6 0 c.seq c.dig:=by rw [zrC,h1,decide_eq_true h0];rfl
 have tail:∀ τ,zo Tryz.prog zbd [.d (.slice (zap c.signs)),.fn (.func zhl) [] [.box σ.length 0,.box (σ.length+1) 0,.box (σ.length+2) 0]] (S ++ τ) fun K1 s=>unC .not K1 s fun L1 s=>z1 (AW.Ends σ.length K) L1 s:=fun τ=>by
  refine c_hasSign (p:=fun s => !zgP L G s s.key 6 0 c.seq c.dig) hl0 (fun x _ K hK=>c_ptValid1 (g0 _) (g1 _) (g2 _) (tT.app _) (tG.app _) hL hg hK) ?_
  rw [hcf, ← not_any] at fin
  refine zab ?_
  obtain ⟨T,rfl⟩:=hpre
  rw [List.append_assoc]
  refine zw hl ?_
  exact fin _ rfl
 have tail0:=tail []
 rw [List.append_nil] at tail0
 refine zB (zn g00 (zn g10 g20)) ?_
 refine c_tLen tT ?_
 cases h2:((L.length:Int) == 0)
 ·refine zB (zn h2 (zn g00 (zn g10 g20))) ?_
  refine c_gLen tG ?_
  cases h3:((G.length:Int) == 0)
  ·refine zB (zn h2 (zn h3 (zn g00 (zn g10 g20)))) ?_
   exact tail0
  ·refine zB (zn h2 (zn h3 (zn g00 (zn g10 g20)))) ?_
   refine zsG tG hg fun g' => ?_
   refine zB g2 ?_
   exact tail _
 ·refine zB (zn h2 (zn g00 (zn g10 g20))) ?_
  refine zsE tT hL.nd hL.len hL.each ?_
  refine zB g1 ?_
  refine c_gLen (tG.app _) ?_
  cases h3:((G.length:Int) == 0)
  ·refine zB (zn h2 (zn h3 (zn g1 g2))) ?_
   exact tail _
  ·refine zB (zn h2 (zn h3 (zn g1 g2))) ?_
   refine zsG (tG.app _) hg fun g' => ?_
   refine zB g2 ?_
   exact tail _
theorem c_r14Valid {σ:List zh} {id id2:Nat} {L:List (List UInt8)} {G:List zK} {f:Int} {c:zft} (hT : σ[id]? = some (rtO L)) (hG : σ[id2]? = some (rlO G)) (hL:L.length<=1048576) (hg:G.length<=1073741824) (hl0:c.signs.length<=1073741824)
  {K:KT} (hK:K (.d (.bool (zrC L G f c))) σ):zo Tryz.prog zrl [.box id 0,.box id2 0,.d (.int .i64 f),zgc c] σ K:=by
 refine zd zwf.is rfl fun hl _=>zwf.goes ?_
 have fin:∀ z,zrC L G f c=z->K (.d (.bool z)) σ:=fun z h=>h ▸ hK
 clear hK
 have hlen:(zap c.signs).length=c.signs.length:=List.length_map ..
 simp only [zwX,iN,bT,bF,eN,zgc]
 refine zab ?_
 refine zkK ?_
 cases h0:(zbN f != 0)
 rotate_left
 ·refine zB h0 ?_
  refine zw hl ?_
  have h0':zbN f ≠ 0:=by simpa using h0
  exact fin _ (by rw [zrC,decide_eq_false h0'];rfl)
 have h0':zbN f=0:=by simpa using h0
 refine zB h0 ?_
 refine c_r14MayCert (f:=f) (cs := [.d (.int .i64 0),.d (.int .i64 0),.exact [],.exact [],.exact []]) (by rw [zC];rfl) hl0 ?_
 cases h1:zfn f c
 ·refine zab ?_
  refine zw hl ?_
  exact fin _ (by rw [zrC,h1];simp)
 have hcf:zrC L G f c=c.signs.all fun s=>zgP L G s s.key 6 0 c.seq c.dig:=by rw [zrC,h1,decide_eq_true h0'];rfl
 refine zab ?_
 refine zm c.signs.length (fun k vs s=>vs = [.d (.int .i64 k)]/\s = σ++[certO c,.box [.d (.int .i64 f),.d (.int .i64 0),.d (.int .i64 0),.exact [],.exact [],.exact []]]/\(c.signs.take k).all (fun s=>zgP L G s s.key 6 0 c.seq c.dig)=true) ⟨rfl,rfl,by simp⟩ ?_
 rintro k vs s hk ⟨rfl,rfl,hok⟩
 by_cases hlt:k<c.signs.length
 ·have hd:decide ((k:Int)<(c.signs.length:Int))=true:=by simp;omega
  have hx:c.signs[k]? = some c.signs[k]:=by simp [hlt]
  have hgx:=zR (f:=zgf) hx
  obtain ⟨x,hxe⟩:∃ x,c.signs[k]=x:=⟨_,rfl⟩
  rw [hxe] at hx hgx
  refine zhH (zn hd (zn hgx hlen)) ?_
  refine zno (s:=x) (zx hT) (zx hG) hL hg ?_
  cases h2:zgP L G x x.key 6 0 c.seq c.dig
  ·refine zab ?_
   refine zw hl ?_
   refine fin _ ?_
   rw [hcf,Bool.eq_false_iff]
   intro hall
   have:=List.all_eq_true.1 hall x (List.mem_of_getElem? hx)
   rw [h2] at this;cases this
  ·refine zB (wkc k (by omega)) ?_
   refine zaz.next hlt ⟨rfl,rfl,?_⟩
   rw [List.take_add_one,hx]
   simp only [List.all_append,hok,Option.toList_some,List.all_cons,List.all_nil,Bool.true_and,Bool.and_true,h2]
 ·have hd:decide ((k:Int)<(c.signs.length:Int))=false:=by simp;omega
  rw [List.take_of_length_le (by omega)] at hok
  refine zB (zn hd hlen) ?_
  refine zw hl ?_
  exact fin _ (by rw [hcf,hok])
end Go.Proofs.YtpgahkdjkanblaaGreat

/- Contracts: certificates such as a view-change may tell. -/
set_option maxRecDepth 100000
namespace Go.Proofs.YtpgahkdjkanblaaGreat
open Go.AW
def znS (L:List (List UInt8)) (G:List zK) (f view low:Int):Int->List zcb->Bool
 | _,[]=>true
 | last,p :: r=>ziN L G f p && (!(decide (p.view ≥ view)) && (!(decide (p.seq<=last)) && (!(decide (p.seq - 8 > low)) && znS L G f view low p.seq r)))
theorem zzd {L:List (List UInt8)} {G:List zK} {f view low last:Int} {l:List zcb} {k:Nat} {p:zcb} (h:l[k]? = some p) :
  znS L G f view low last (l.drop k)=(ziN L G f p && (!(decide (p.view ≥ view)) && (!(decide (p.seq<=last)) && (!(decide (p.seq - 8 > low)) && znS L G f view low p.seq (l.drop (k+1)))))):=by
 have hk:k<l.length:=(List.getElem?_eq_some_iff.1 h).1
 rw [List.drop_eq_getElem_cons hk,(List.getElem?_eq_some_iff.1 h).2]
 rfl
theorem prepF_seq {L:List (List UInt8)} {G:List zK} {f:Int} {p:zcb} (h:ziN L G f p=true):1<=p.seq/\p.seq<=9007199254740992:=by
 simp [ziN,zjs] at h
 omega
theorem c_prAbove {σ:List zh} {id m t id2 m2 t2:Nat} {L:List (List UInt8)} {G:List zK} {f view low:Int} {l:List zcb} (hT:zeS σ id m t L) (hG:zev σ id2 m2 t2 G) (hL:znT L) (hg:G.length<=1073741824) (hp:∀ p ∈ l,smallP p) (hl0:l.length<=1073741824) (hlow:zqG low)
  {K:KT} (hK:K (.d (.bool (znS L G f view low low l))) σ):zo Tryz.prog zjo [.box id 0,.box id2 0,.d (.int .i64 f),.d (.int .i64 view),.d (.int .i64 low),.d (.slice (zeV l))] σ K:=by
 refine zd znK.is rfl fun hl _=>znK.goes ?_
 have fin:∀ z,znS L G f view low low l=z->K (.d (.bool z)) σ:=fun z h=>h ▸ hK
 clear hK
 have hlen:(zeV l).length=l.length:=List.length_map ..
 simp only [zog,iN,bT,bF,eN]
 refine zB hlen ?_
 refine zm l.length (fun k vs s => ∃ last:Int,vs = [.d (.int .i64 last),.d (.int .i64 k)]/\(∃ T,s = σ++T)/\low<=last ∧
   znS L G f view low low l=znS L G f view low last (l.drop k)) ⟨low,rfl,⟨[],by simp⟩,Int.le_refl _,by simp⟩ ?_
 rintro k vs s hk ⟨last,rfl,⟨T,rfl⟩,hlast,hpf⟩
 by_cases hlt:k<l.length
 ·have hd:decide ((k:Int)<(l.length:Int))=true:=by simp;omega
  have hx:l[k]? = some l[k]:=by simp [hlt]
  have hxs:=hp _ (List.getElem_mem hlt)
  have hgx:=zR (f:=zew) hx
  obtain ⟨p,hpe⟩:∃ p,l[k]=p:=⟨_,rfl⟩
  rw [hpe] at hx hgx hxs
  rw [zzd hx] at hpf
  have hw:IntKind.i64.wrap ((k:Int)+1)=((k+1:Nat):Int):=by rw [zas (by omega) (by omega)];rfl
  refine zqn (zn hd (zn hgx hlen)) ?_
  refine c_prValid (p:=p) (hT.app _) (hG.app _) hL hg hxs ?_
  cases g1:ziN L G f p
  ·refine zab ?_
   refine zw hl ?_
   exact fin _ (by rw [hpf,g1];rfl)
  have hsq:=prepF_seq g1
  rw [g1,Bool.true_and] at hpf
  cases g2:decide (p.view ≥ view)
  rotate_left
  ·refine zB g2 ?_
   refine zw hl ?_
   exact fin _ (by rw [hpf,g2];rfl)
  cases g3:decide (p.seq<=last)
  rotate_left
  ·refine zB (zn g2 g3) ?_
   refine zw hl ?_
   exact fin _ (by rw [hpf,g2,g3];rfl)
  rw [g2,g3] at hpf
  simp only [Bool.not_false,Bool.true_and] at hpf
  have g3':¬ p.seq<=last:=by simpa using g3
  cases g4:decide (low<0)
  ·have g4':decide (low ≥ 0)=true:=by simp at g4 ⊢;omega
   have g4'':0<=low:=by simpa using g4'
   have hws:IntKind.i64.wrap (p.seq - low)=p.seq - low:=zas (by omega) (by omega)
   cases g5:decide (p.seq - low > 8)
   ·have e:decide (p.seq - 8 > low)=false:=by simp at g5 ⊢;omega
    rw [e,Bool.not_false,Bool.true_and] at hpf
    refine zB (zn g2 (zn g3 (zn g4 (zn g4' (zn hws (zn g5 hw)))))) ?_
    exact zaz.next hlt ⟨p.seq,rfl,⟨_,rfl⟩,by omega,hpf⟩
   ·have e:decide (p.seq - 8 > low)=true:=by simp at g5 ⊢;omega
    rw [e] at hpf
    refine zB (zn g2 (zn g3 (zn g4 (zn g4' (zn hws (zn g5 hw)))))) ?_
    refine zw hl ?_
    exact fin _ hpf
  ·have g4':decide (low ≥ 0)=false:=by simp at g4 ⊢;omega
   have g4'':low<0:=by simpa using g4
   have hlo:=hlow.1
   have hws:IntKind.i64.wrap (8+low)=8+low:=zas (by omega) (by omega)
   cases g5:decide (p.seq > 8+low)
   ·have e:decide (p.seq - 8 > low)=false:=by simp at g5 ⊢;omega
    rw [e,Bool.not_false,Bool.true_and] at hpf
    refine zB (zn g2 (zn g3 (zn g4 (zn g4' (zn hws (zn g5 hw)))))) ?_
    exact zaz.next hlt ⟨p.seq,rfl,⟨_,rfl⟩,by omega,hpf⟩
   ·have e:decide (p.seq - 8 > low)=true:=by simp at g5 ⊢;omega
    rw [e] at hpf
    refine zB (zn g2 (zn g3 (zn g4 (zn g4' (zn hws (zn g5 hw)))))) ?_
    refine zw hl ?_
    exact fin _ hpf
 ·have hd:decide ((k:Int)<(l.length:Int))=false:=by simp;omega
  rw [List.drop_eq_nil_of_le (by omega)] at hpf
  refine zB (zn hd hlen) ?_
  refine zw hl ?_
  exact fin _ hpf
theorem c_r15Above {σ:List zh} {id id2:Nat} {L:List (List UInt8)} {G:List zK} {f view low:Int} {l:List zcb} (hT : σ[id]? = some (rtO L)) (hG : σ[id2]? = some (rlO G)) (hL:znT L) (hg:G.length<=1073741824) (hp:∀ p ∈ l,smallP p) (hl0:l.length<=1073741824)
  {K:KT} (hK:K (.d (.bool (znS L G f view low low l))) σ):zo Tryz.prog zrk [.box id 0,.box id2 0,.d (.int .i64 f),.d (.int .i64 view),.d (.int .i64 low),.d (.slice (zeV l))] σ K:=by
 refine zd zwe.is rfl fun hl _=>zwe.goes ?_
 have fin:∀ z,znS L G f view low low l=z->K (.d (.bool z)) σ:=fun z h=>h ▸ hK
 clear hK
 have hlen:(zeV l).length=l.length:=List.length_map ..
 simp only [zwW,iN,bT,bF,eN]
 refine zB hlen ?_
 refine zm l.length (fun k vs s => ∃ last:Int,vs = [.d (.int .i64 last),.d (.int .i64 k)]/\s = σ/\low<=last ∧
   znS L G f view low low l=znS L G f view low last (l.drop k)) ⟨low,rfl,rfl,Int.le_refl _,by simp⟩ ?_
 rintro k vs s hk ⟨last,rfl,rfl,hlast,hpf⟩
 by_cases hlt:k<l.length
 ·have hd:decide ((k:Int)<(l.length:Int))=true:=by simp;omega
  have hx:l[k]? = some l[k]:=by simp [hlt]
  have hxs:=hp _ (List.getElem_mem hlt)
  have hgx:=zR (f:=zew) hx
  obtain ⟨p,hpe⟩:∃ p,l[k]=p:=⟨_,rfl⟩
  rw [hpe] at hx hgx hxs
  rw [zzd hx] at hpf
  have hw:IntKind.i64.wrap ((k:Int)+1)=((k+1:Nat):Int):=by rw [zas (by omega) (by omega)];rfl
  refine zqn (zn hd (zn hgx hlen)) ?_
  refine c_r15Valid (p:=p) hT hG hL hg hxs ?_
  cases g1:ziN L G f p
  ·refine zab ?_
   refine zw hl ?_
   exact fin _ (by rw [hpf,g1];rfl)
  have hsq:=prepF_seq g1
  rw [g1,Bool.true_and] at hpf
  cases g2:decide (p.view ≥ view)
  rotate_left
  ·refine zqn (zn g2 hgx) ?_
   refine zw hl ?_
   exact fin _ (by rw [hpf,g2];rfl)
  cases g3:decide (p.seq<=last)
  rotate_left
  ·refine zqn (zn g2 (zn g3 hgx)) ?_
   refine zw hl ?_
   exact fin _ (by rw [hpf,g2,g3];rfl)
  rw [g2,g3] at hpf
  simp only [Bool.not_false,Bool.true_and] at hpf
  have g3':¬ p.seq<=last:=by simpa using g3
  have g4:decide (p.seq<=low)=false:=by simp;omega
  have hws:IntKind.i64.wrap (p.seq - 8)=p.seq - 8:=zas (by omega) (by omega)
  cases g5:decide (p.seq - 8 > low)
  ·rw [g5,Bool.not_false,Bool.true_and] at hpf
   refine zqn (zn g2 (zn g3 (zn g4 (zn hws (zn g5 (zn hw hgx)))))) ?_
   exact zaz.next hlt ⟨p.seq,rfl,rfl,by omega,hpf⟩
  ·rw [g5] at hpf
   refine zqn (zn g2 (zn g3 (zn g4 (zn hws (zn g5 (zn hw hgx)))))) ?_
   refine zw hl ?_
   exact fin _ hpf
 ·have hd:decide ((k:Int)<(l.length:Int))=false:=by simp;omega
  rw [List.drop_eq_nil_of_le (by omega)] at hpf
  refine zB (zn hd hlen) ?_
  refine zw hl ?_
  exact fin _ hpf
end Go.Proofs.YtpgahkdjkanblaaGreat

/- Contracts: which view-changes are valid, both sides. -/
set_option maxRecDepth 100000
namespace Go.Proofs.YtpgahkdjkanblaaGreat
open Go.AW
def zdr (L:List (List UInt8)) (G:List zK) (f view:Int) (c:zU):Bool :=
 decide (zbN f=0) && (decide (c.view=view) && (decide (0<=c.src) && (decide (c.src<zaW 3 f) && (zid L G (vcM c) && (zrC L G f c.cert && (decide (c.cert.seq.tmod 4=0) && znS L G f view c.cert.seq c.cert.seq c.above))))))
structure zsO (c:zU):Prop where
 ok:okCh c
 small:zjM c
 each:∀ p ∈ c.above,smallP p
 seq:zqG c.cert.seq
theorem vcM_small {c:zU} (h:zsO c):zbP (vcM c):=by
 obtain ⟨n1,n2,n3,n4,n5,n6,n7,n8,n9,n10⟩:=zfQ
 exact ⟨n1,n2,n3,by simp [vcM],by intro x hx;simp [vcM] at hx;subst hx;exact ⟨h.ok,h.small⟩,n6,n7,n8,n9,n10⟩
theorem c_nvValid {σ:List zh} {id m t id2 m2 t2:Nat} {L:List (List UInt8)} {G:List zK} {f view:Int} {c:zU} (hT:zeS σ id m t L) (hG:zev σ id2 m2 t2 G) (hL:znT L) (hg:G.length<=1073741824) (hc:zsO c) {K:KT}
  (hK:K (.d (.bool (zdr L G f view c))) σ):zo Tryz.prog zkp [.box id 0,.box id2 0,.d (.int .i64 f),.d (.int .i64 view),.agg (zbK c)] σ K:=by
 refine zd zpw.is rfl fun hl _=>zpw.goes ?_
 have fin:∀ z,zdr L G f view c=z->K (.d (.bool z)) σ:=fun z h=>h ▸ hK
 clear hK
 have hT1:=fun τ=>hT.app τ
 have hG1:=fun τ=>hG.app τ
 have hsm:=vcM_small hc
 simp only [zpV,iN,bT,bF,eN]
 refine zab ?_
 refine zmA ?_
 cases h1:(zbN f == 0)
 ·refine zB h1 ?_
  refine zw hl ?_
  exact fin _ (by simp at h1;simp [zdr,h1])
 cases h2:(c.view == view)
 ·refine zB (zn h1 h2) ?_
  refine zw hl ?_
  exact fin _ (by simp at h2;simp [zdr,h2])
 cases h3:decide (c.src ≥ 0)
 ·refine zB (zn h1 (zn h2 h3)) ?_
  refine zw hl ?_
  exact fin _ (by simp only [decide_eq_false_iff_not,ge_iff_le] at h3;simp [zdr,h3])
 refine zB (zn h1 (zn h2 h3)) ?_
 refine zkL ?_
 cases h4:decide (c.src<zaW 3 f)
 ·refine zB h4 ?_
  refine zw hl ?_
  exact fin _ (by simp only [decide_eq_false_iff_not] at h4;simp [zdr,h4])
 refine zB h4 ?_
 refine c_auChange (c:=c) ?_
 refine zab ?_
 refine c_auValid7 (M:=vcM c) (c:=c) (hT1 _) (hG1 _) hL hg hsm rfl rfl ?_
 cases h5:zid L G (vcM c)
 ·refine zab ?_
  refine zw hl ?_
  exact fin _ (by simp [zdr,h5])
 refine zab ?_
 refine c_ptValid (c:=c.cert) (hT1 _) (hG1 _) hL hg hc.ok.signs ?_
 cases h6:zrC L G f c.cert
 ·refine zab ?_
  refine zw hl ?_
  exact fin _ (by simp [zdr,h6])
 have hq:((4:Int) == 0)=false:=rfl
 cases h7:(c.cert.seq.tmod 4 == 0)
 ·refine zB (zn h7 hq) ?_
  refine zw hl ?_
  exact fin _ (by simp only [beq_eq_false_iff_ne,ne_eq] at h7;simp [zdr,h7])
 refine zB (zn h7 hq) ?_
 refine c_prAbove (hT1 _) (hG1 _) hL hg hc.each hc.ok.above hc.seq ?_
 refine zab ?_
 refine zw hl ?_
 refine fin _ ?_
 simp only [beq_iff_eq] at h1 h2 h7
 simp only [decide_eq_true_eq,ge_iff_le] at h3 h4
 simp [zdr,h1,h2,h3,h4,h5,h6,h7]
theorem c_r16Valid {σ:List zh} {id id2:Nat} {L:List (List UInt8)} {G:List zK} {f view:Int} {c:zU} (hT : σ[id]? = some (rtO L)) (hG : σ[id2]? = some (rlO G)) (hL:znT L) (hg:G.length<=1073741824) (hc:zsO c) {K:KT}
  (hK:K (.d (.bool (zdr L G f view c))) σ):zo Tryz.prog zri [.box id 0,.box id2 0,.d (.int .i64 f),.d (.int .i64 view),.agg (zbK c)] σ K:=by
 refine zd zwc.is rfl fun hl _=>zwc.goes ?_
 have fin:∀ z,zdr L G f view c=z->K (.d (.bool z)) σ:=fun z h=>h ▸ hK
 clear hK
 have hT1:=fun τ=>zx (τ := τ) hT
 have hG1:=fun τ=>zx (τ := τ) hG
 have hsm:=vcM_small hc
 simp only [zwU,iN,bT,bF,eN]
 refine zab ?_
 refine zkK ?_
 cases h1:(zbN f == 0)
 ·refine zB h1 ?_
  refine zw hl ?_
  exact fin _ (by simp at h1;simp [zdr,h1])
 cases h2:(c.view == view)
 ·refine zB (zn h1 h2) ?_
  refine zw hl ?_
  exact fin _ (by simp at h2;simp [zdr,h2])
 cases h3:decide (c.src ≥ 0)
 ·refine zB (zn h1 (zn h2 h3)) ?_
  refine zw hl ?_
  exact fin _ (by simp only [decide_eq_false_iff_not,ge_iff_le] at h3;simp [zdr,h3])
 refine zB (zn h1 (zn h2 h3)) ?_
 refine zmz ?_
 cases h4:decide (c.src<zaW 3 f)
 ·refine zB h4 ?_
  refine zw hl ?_
  exact fin _ (by simp only [decide_eq_false_iff_not] at h4;simp [zdr,h4])
 refine zB h4 ?_
 refine c_raChange (c:=c) ?_
 refine zab ?_
 refine c_raValid7 (M:=vcM c) (c:=c) (hT1 _) (hG1 _) hL.len hg hsm rfl rfl ?_
 cases h5:zid L G (vcM c)
 ·refine zab ?_
  refine zw hl ?_
  exact fin _ (by simp [zdr,h5])
 refine zab ?_
 refine c_r14Valid (c:=c.cert) (hT1 _) (hG1 _) hL.len hg hc.ok.signs ?_
 cases h6:zrC L G f c.cert
 ·refine zab ?_
  refine zw hl ?_
  exact fin _ (by simp [zdr,h6])
 have hq:((4:Int) == 0)=false:=rfl
 cases h7:(c.cert.seq.tmod 4 == 0)
 ·refine zB (zn h7 hq) ?_
  refine zw hl ?_
  exact fin _ (by simp only [beq_eq_false_iff_ne,ne_eq] at h7;simp [zdr,h7])
 refine zB (zn h7 hq) ?_
 refine c_r15Above (hT1 _) (hG1 _) hL hg hc.each hc.ok.above ?_
 refine zab ?_
 refine zw hl ?_
 refine fin _ ?_
 simp only [beq_iff_eq] at h1 h2 h7
 simp only [decide_eq_true_eq,ge_iff_le] at h3 h4
 simp [zdr,h1,h2,h3,h4,h5,h6,h7]
end Go.Proofs.YtpgahkdjkanblaaGreat

/- Ends of calls that keep objects, at which objects are told otherwise. -/
namespace Go.AW
section
variable {P:Program} {σ:List zh}
def EndsKW (n:Nat) (ks:List zh->List Nat) (K:KT) (out:Option (List AV)) (σ':List zh):Prop := ∃ s,zua [] σ' [] s/\zoG n ks K out s
theorem endsKW_of {n:Nat} {ks:List zh->List Nat} {K:KT} {out:Option (List AV)} {s:List zh} (h:zoG n ks K out s):EndsKW n ks K out s:=⟨s,.refl _ _,h⟩
theorem zwS {f:FuncId} {F:AF} {na:Nat} (hF:isFn P f F na) {as0:List AV} (has:as0.length=na) {K:KT} (ks:List zh->List Nat)
  (h:ziu σ.length σ->(∀ a ∈ as0,Low σ.length a)->awp P F.body (AtEnd fun fr' σ'=>EndsKW σ.length ks K (zuW fr' σ' F.res) σ') (zlg 0 as0) σ):zo P f as0 σ K :=
 zpF hF has _ (fun {L w L' σ' w' fr' ts} S st0 S0 F' hz=>by
  obtain ⟨s,hw,hz⟩:=hz
  obtain ⟨L3,st3,S',_⟩:=zmb hw S0 (us := []) ⟨rfl,by simp⟩
  have st:=st0.trans st3
  unfold zoG zxt at hz
  split at hz
  ·rename_i l hl
   obtain ⟨z0,z1,z2,z3,z4⟩:=hz
   split at z4
   ·rename_i os hos
    split at z4
    ·rename_i os' r hos' hr
     obtain ⟨L2,k1,k2,k3⟩:=zyh S' z0 z1 z2 z3 hos hos'
     refine ⟨L2,_,l,r,hl,⟨st.os,st.tape,st.output,st.size,st.blk,st.cell,st.fz,fun b o hb ho=>st.own b o hb (k2.own b o ho),by simp;omega,fun id x hx => ?_⟩,k3,fun v hv=>(st3.rv hv).ren k2 hr,z4⟩
     have hid:=zr hx
     obtain ⟨x',g1,g2,g3,g4,g5⟩:=st.turns id x hx
     refine ⟨x',by rw [List.getElem?_append_left (by simp;omega),List.getElem?_take,if_pos hid];exact g1,g2,fun hk hk5=>(k1 id hid).trans (g3 hk hk5),fun sz n e => ?_,fun g sz cs e => ?_⟩
     ·obtain ⟨n',e1,e2,e3⟩:=g4 sz n e
      exact ⟨n',e1,e2,fun e=>(k1 id hid).trans (e3 e)⟩
     ·rcases g5 g sz cs e with h | ⟨g',cs',e1,e2,e3⟩
      ·exact .inl h
      ·exact .inr ⟨g',cs',e1,e2,fun e=>⟨(k1 id hid).trans (e3 e).1,(e3 e).2⟩⟩
    ·exact z4.elim
   ·exact z4.elim
  ·exact hz.elim) h
end
end Go.AW
