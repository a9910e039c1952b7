/- Contracts: whether a checkpoint's certificate is valid, on both sides. -/
import Derived.Test.YtfgbofkdhfjegaaGreatQu1
import Derived.Test.YtfgbofkdhfjegaaGreatCk1
set_option linter.all false
set_option maxRecDepth 100000
namespace Go.Proofs.YtfgbofkdhfjegaaGreat
open Go.AW
theorem c_ptValid1 {σ:List zg} {a b c0 id m t id2 m2 t2:Nat} {L:List (List UInt8)} {G:List zI} {c:zfa} {s:zI} (ha : σ[a]? = some (.box [.box id 0])) (hb : σ[b]? = some (.box [.box id2 0])) (hc : σ[c0]? = some (certO c)) (hT:zdo σ id m t L) (hG:zee σ id2 m2 t2 G) (hL:zlJ L) (hg:G.length<=1073741824)
  {K:KT} (hK:K (.d (.bool (!zqJ L G s s.key 6 0 c.seq c.dig))) σ):zr Tryz.prog zfX [.agg [.d (.int .i64 s.key),.d (.int .i64 s.dig)],.box a 0,.box b 0,.box c0 0] σ K:=by
 refine acE4 zsS fun hl => ?_
 have sa:∀ τ,(σ ++ τ)[a]? = _:=fun τ=>zd ha
 have sb:∀ τ,(σ ++ τ)[b]? = _:=fun τ=>zd hb
 have sc:∀ τ,(σ ++ τ)[c0]? = some (.box [.d (.int .i64 c.seq),.d (.int .i64 c.dig),.d (.slice (zaW c.signs))]):=fun τ=>zd hc
 simp only [zmv,iN,bT,bF,eN]
 refine gq2 (zf sa sb) ?_
 refine zwF (s:=s) (hT.app _) (hG.app _) hL hg ?_
 refine gq1 ?_
 refine zT hl ?_
 exact hK
theorem c_idxSign {σ:List zg} {b:List zI} {f:FuncId} {cap:List AV} {p:zI->Bool} (hb:b.length<=1073741824) (hf:∀ x∈b, ∀ K:AV->List zg->Prop,K (.d (.bool (p x))) σ->zr Tryz.prog f (.agg [.d (.int .i64 x.key),.d (.int .i64 x.dig)]::cap) σ K)
  {K:KT} (hK:∀ r:Int,decide (r≥0)=b.any p->K (.d (.int .i64 r)) σ):zr Tryz.prog zbx [.d (.slice (zaW b)),.fn (.func f) [] cap] σ K:=by
 refine zfP zeW fun hl => ?_
 simp only [zcN,iN,bT,bF,eN]
 refine gq1 ?_
 refine zt b.length (fun k vs s=>vs = [.d (.int .i64 k)]/\s = σ/\(b.take k).any p=false) ⟨rfl,rfl,by simp⟩ ?_
 rintro k vs s hk ⟨rfl,rfl,hno⟩
 by_cases hlt:k<b.length
 ·have hd:decide ((k:Int)<(b.length:Int))=true:=by simp;omega
  have hx:b[k]? = some b[k]:=by simp [hlt]
  have hfx:=hf _ (List.getElem_mem hlt)
  have hgx:=zP (f:=zhI) hx
  obtain ⟨x,hxe⟩:∃ x,b[k]=x:=⟨_,rfl⟩
  rw [hxe] at hx hgx hfx
  refine gq8 (zf hd hgx) ?_
  refine hfx _ ?_
  cases h1:p x
  ·refine gq2 (wkc k (by omega)) ?_
   refine zaB.next hlt ⟨rfl,rfl,?_⟩
   rw [List.take_add_one,hx]
   simp [hno,h1]
  ·refine gq1 ?_
   refine zT hl ?_
   have:b.any p=true:=List.any_eq_true.2 ⟨x,List.mem_of_getElem? hx,h1⟩
   exact hK _ (by rw [this];simp)
 ·have hd:decide ((k:Int)<(b.length:Int))=false:=by simp;omega
  refine gq2 hd ?_
  refine zT hl ?_
  rw [List.take_of_length_le (by omega)] at hno
  exact hK _ (by rw [hno];rfl)
theorem c_hasSign {σ:List zg} {b:List zI} {f:FuncId} {cap:List AV} {p:zI->Bool} (hb:b.length<=1073741824) (hf:∀ x∈b, ∀ K:AV->List zg->Prop,K (.d (.bool (p x))) σ->zr Tryz.prog f (.agg [.d (.int .i64 x.key),.d (.int .i64 x.dig)]::cap) σ K)
  {K:KT} (hK:K (.d (.bool (b.any p))) σ):zr Tryz.prog zaM [.d (.slice (zaW b)),.fn (.func f) [] cap] σ K:=by
 refine zfP zeq fun hl => ?_
 simp only [zct,iN,bT,bF,eN]
 refine gq1 ?_
 refine c_idxSign hb hf fun r hr => ?_
 refine gq2 hr ?_
 refine zT hl ?_
 exact hK
theorem not_any (l:List zI) (p:zI->Bool):(!l.any fun s => !p s)=l.all p:=by
 induction l with
 | nil=>rfl
 | cons x l ih=>simp only [List.any_cons,List.all_cons,Bool.not_or,Bool.not_not,ih]
theorem c_ptValid {σ:List zg} {id m t id2 m2 t2:Nat} {L:List (List UInt8)} {G:List zI} {f:Int} {c:zfa} (hT:zdo σ id m t L) (hG:zee σ id2 m2 t2 G) (hL:zlJ L) (hg:G.length<=1073741824) (hl0:c.signs.length<=1073741824)
  {K:KT} (hK:K (.d (.bool (zth L G f c))) σ):zr Tryz.prog zkP [.box id 0,.box id2 0,.d (.int .i64 f),zot c] σ K:=by
 refine acE4 zwh fun hl => ?_
 have fin:∀ z,zth L G f c=z->K (.d (.bool z)) σ:=fun z h=>h▸hK
 clear hK
 simp only [zpC,iN,bT,bF,eN,zot]
 refine gq1 ?_
 refine c_ptNew (fun h0 => ?_) (fun h0 => ?_)
 ·have h0':(zcM f != 0)=true:=by simpa using h0
  refine gq2 h0' ?_
  refine zT hl ?_
  exact fin _ (by rw [zth,decide_eq_false h0];rfl)
 refine gq2 (show ((0:Int) != 0)=false from rfl) ?_
 obtain ⟨S,hS⟩:∃ S, σ++[zg.box [.box id 0],.box [.box id2 0],certO c,.map [],.box [.d (.int .i64 f),.d (.int .i64 0),.d (.int .i64 0),.exact [],.map (σ.length+3),.exact []]]=S:=⟨_,rfl⟩
 have g0:∀ τ,(S ++ τ)[σ.length]? = some (.box [.box id 0]):=fun τ=>zd (by rw [← hS,zw];rfl)
 have g1:∀ τ,(S ++ τ)[σ.length+1]? = some (.box [.box id2 0]):=fun τ=>zd (by rw [← hS,zx];rfl)
 have g2:∀ τ,(S ++ τ)[σ.length+2]? = some (certO c):=fun τ=>zd (by rw [← hS,zx];rfl)
 have g4:S[σ.length+4]? = some (.box (.d (.int .i64 f)::[.d (.int .i64 0),.d (.int .i64 0),.exact [],.map (σ.length+3),.exact []])):=by rw [← hS,zx];rfl
 have g00:=g0 [];have g10:=g1 [];have g20:=g2 []
 rw [List.append_nil] at g00 g10 g20
 have tT:zdo S id m t L:=hS▸hT.app _
 have tG:zee S id2 m2 t2 G:=hS▸hG.app _
 have hpre:∃ T,S = σ++T:=⟨_,hS.symm⟩
 rw [hS]
 refine c_ptMayCert g4 hl0 ?_
 cases h1:zhN f c
 ·refine gq1 ?_
  obtain ⟨T,rfl⟩:=hpre
  refine zT hl ?_
  exact fin _ (by rw [zth,h1];simp)
 have hcf:zth L G f c=c.signs.all fun s=>zqJ L G s s.key 6 0 c.seq c.dig:=by rw [zth,h1,decide_eq_true h0];rfl
 have tail:∀ τ,zr Tryz.prog zaM [.d (.slice (zaW c.signs)),.fn (.func zfX) [] [.box σ.length 0,.box (σ.length+1) 0,.box (σ.length+2) 0]] (S ++ τ) fun K1 s=>unC .not K1 s fun L1 s=>z1 (AW.Ends σ.length K) L1 s:=fun τ=>by
  refine c_hasSign (p:=fun s => !zqJ L G s s.key 6 0 c.seq c.dig) hl0 (fun x _ K hK=>c_ptValid1 (g0 _) (g1 _) (g2 _) (tT.app _) (tG.app _) hL hg hK) ?_
  rw [hcf, ← not_any] at fin
  refine gq1 ?_
  obtain ⟨T,rfl⟩:=hpre
  rw [List.append_assoc]
  refine zT hl ?_
  exact fin _ rfl
 have tail0:=tail []
 rw [List.append_nil] at tail0
 refine gq2 (zf g00 (zf g10 g20)) ?_
 refine c_tLen tT ?_
 cases h2:((L.length:Int)==0)
 ·refine gq2 (zf h2 (zf g00 (zf g10 g20))) ?_
  refine c_gLen tG ?_
  cases h3:((G.length:Int)==0)
  ·refine gq2 (zf h2 (zf h3 (zf g00 (zf g10 g20)))) ?_
   exact tail0
  ·refine gq2 (zf h2 (zf h3 (zf g00 (zf g10 g20)))) ?_
   refine zpr tG hg fun g' => ?_
   refine gq2 g2 ?_
   exact tail _
 ·refine gq2 (zf h2 (zf g00 (zf g10 g20))) ?_
  refine zpo tT hL.nd hL.len hL.each ?_
  refine gq2 g1 ?_
  refine c_gLen (tG.app _) ?_
  cases h3:((G.length:Int)==0)
  ·refine gq2 (zf h2 (zf h3 (zf g1 g2))) ?_
   exact tail _
  ·refine gq2 (zf h2 (zf h3 (zf g1 g2))) ?_
   refine zpr (tG.app _) hg fun g' => ?_
   refine gq2 g2 ?_
   exact tail _
structure zfy (p:zbX):Prop where
 topic:p.topic.length<=16777216
 rec_:p.rec_.length<=16777216
 headers:p.headers.length<=1073741824
 path:p.path.length<=1073741824
 signs:p.cert.signs.length<=1073741824
 off:ziK p.offset
 index:ziK p.index
 count:ziK p.count
 paths:∀ x∈p.path,ziK x
abbrev zlP (p:zbX):zg := .box [.d (.str p.topic),.d (.int .i64 p.offset),.d (.slice (bcs p.rec_)),.d (.slice (ziW p.headers)),.d (.int .i64 p.index),.d (.int .i64 p.count),.d (.slice (zdA p.path)),.d (.int .i64 p.cert.seq),.d (.int .i64 p.cert.dig),.d (.slice (zaW p.cert.signs))]
theorem zvG (e:Int) (a b:List Int):zhH (zhH e (zcC a)) (zcC b)=zhH e (zcC (a++b)):=by
 rw [zhQ]
 unfold zhH
 by_cases h:e=0
 ·by_cases h2:zcC a=0
  ·simp [h,h2]
  ·simp [h,h2]
 ·simp [h]
theorem zjK (e:Int) (a:List Int) (x:Int):zhH (zhH e (zcC a)) x=zhH e (zcC (a++[x])):=by
 have:x=zcC [x]:=by simp only [zcC];split<;>simp_all
 conv=>lhs;rw [this]
 exact zvG e a [x]
theorem zjJ (x:Int):zhH 0 x=x:=by simp [zhH]
theorem zkA (l:List Int) (x:Int):zhH (zcC l) x=zcC (l++[x]):=by rw [← zjJ (zcC l),zjK,zjJ]
theorem c_askProof {σ:List zg} {id:Nat} {p:zbX} (hσ : σ[id]? = some (zgf 0)) (hp:zfy p) {K:KT} (hK:K (.tup []) (σ.set id (zgf (zfH p)))) :
  zr Tryz.prog zcp [.box id 0,zhl p] σ K:=by
 refine zfP zgZ fun hl => ?_
 have hid:=zy hσ
 have hrl:=zaL p.rec_
 have hhl:(ziW p.headers).length=p.headers.length:=List.length_map ..
 have hpl:(zdA p.path).length=p.path.length:=List.length_map ..
 have hB:∀ X τ,(σ.set id X++zlP p::τ)[σ.length]? = some (zlP p):=fun X τ=>by
  rw [List.getElem?_append_right (by simp)];simp
 have hS:∀ E τ,(σ.set id (zgf E) ++ τ)[id]? = some (zgf E):=fun E τ=>zd (zbr hσ)
 have hP:∀ E Y τ,(σ.set id (zgf E) ++ τ).set id Y = σ.set id Y ++ τ:=fun E Y τ=>by rw [zbZ (zbr hσ),List.set_set]
 simp only [zet,iN,bT,bF,eN,zhl]
 refine zir ?_
 refine c_askName (zd hσ) (by have:=hp.topic;omega) ?_
 rw [zbZ hσ]
 refine zbw hB ?_
 refine zle (hS _ _) ?_
 rw [hP]
 refine zbw (zbb hB hrl) ?_
 refine zki (hS _ _) ?_
 rw [hP]
 refine zbw (zbb hB hhl) ?_
 refine zki (hS _ _) ?_
 rw [hP]
 rw [show zhH (zhH (zhH (zhH 0 (ztX p.topic)) (ziJ p.offset)) (inE p.rec_.length 0 64)) (inE p.headers.length 0 64)=zcC (zeR p) by
  rw [zjJ]
  simp only [zeR,zcC,zhH]
  by_cases h1:ztX p.topic=0
  ·by_cases h2:ziJ p.offset=0
   ·by_cases h3:inE p.rec_.length 0 64=0
    ·by_cases h4:inE p.headers.length 0 64=0<;>simp [h1,h2,h3,h4]
    ·simp [h1,h2,h3]
   ·simp [h1,h2]
  ·simp [h1]]
 refine zbw (zbb hB hhl) ?_
 refine zt p.headers.length (fun k vs s=>vs = [.d (.int .i64 k)]/\∃ T,s = σ.set id (zgf (zcC (zeR p++((p.headers.take k).map zho).flatten)))++zlP p::T) ⟨rfl,[],by simp⟩ ?_
 rintro k vs s hk ⟨rfl,T,rfl⟩
 by_cases hlt:k<p.headers.length
 ·have hd:decide ((k:Int)<(p.headers.length:Int))=true:=by simp;omega
  have hx:p.headers[k]? = some p.headers[k]:=by simp [hlt]
  have hgx:=zP (f:=hdrD) hx
  obtain ⟨h,hhe⟩:∃ h,p.headers[k]=h:=⟨_,rfl⟩
  rw [hhe] at hx hgx
  have hph:=hp.headers
  have hmn:((p.headers.take (k+1)).map zho).flatten=((p.headers.take k).map zho).flatten++zho h:=by
   rw [zdN hx];simp
  obtain ⟨Q,hQ⟩:∃ Q,zeR p++((p.headers.take k).map zho).flatten=Q:=⟨_,rfl⟩
  have hnx:zeR p++((p.headers.take (k+1)).map zho).flatten=Q++zho h:=by rw [hmn, ← hQ,List.append_assoc]
  rw [hQ]
  have hlX:∀ X,(σ.set id X).length = σ.length:=fun X=>List.length_set
  have hhb:∀ X Y,(σ.set id X++zlP p::(T++[Y]))[σ.length+(T.length+1)]? = some Y:=fun X Y=>by
   rw [← hlX X,zx,List.getElem?_cons_succ,zw];rfl
  refine zbw (zbb hd (zbb hgx hhl)) ?_
  refine c_askPos (hS _ _) ?_
  rw [hP]
  refine zbw (zbb hlX hhb) ?_
  have hg:∀ (k:Nat) x,[h.prev,h.batch,h.root,h.state][k]? = some x → [[D.int .i64 h.prev],[D.int .i64 h.batch],[D.int .i64 h.root],[D.int .i64 h.state]][k]? = some [D.int .i64 x]:=fun k x hx=>by
   have:=zP (f:=fun t => [D.int .i64 t]) hx
   simpa using this
  have hhd:zho h = [zuv h.seq]++[h.prev,h.batch,h.root,h.state].map ziJ:=rfl
  have hl4 : [h.prev,h.batch,h.root,h.state].length=4:=rfl
  have e0:zhH (zcC Q) (zuv h.seq)=zcC (Q++[zuv h.seq]):=by rw [← zjJ (zcC Q),zjK,zjJ]
  obtain ⟨l,hlq⟩:∃ l,[h.prev,h.batch,h.root,h.state]=l:=⟨_,rfl⟩
  rw [hlq] at hg hhd hl4
  rw [e0]
  refine zt 4 (fun j vs s=>vs = [.d (.int .i64 j)]/\∃ T,s = σ.set id (zgf (zcC (Q++([zuv h.seq]++(l.take j).map ziJ))))++zlP p::T) ⟨rfl,_,by simp;rfl⟩ ?_
  rintro j vs s hj ⟨rfl,T,rfl⟩
  by_cases hjl:j<4
  ·have hd2:decide ((j:Int)<((4:Nat):Int))=true:=by simp;omega
   have hy:l[j]? = some (l[j]'(by omega)):=List.getElem?_eq_getElem _
   have hgy:=hg j _ hy
   obtain ⟨y,hye⟩:∃ y,(l[j]'(by omega))=y:=⟨_,rfl⟩
   rw [hye] at hy hgy
   have hmy:=zdN (f:=ziJ) hy
   refine zbw (zbb hd2 hgy) ?_
   refine zle (hS _ _) ?_
   rw [hP]
   refine zbw (wkc j (by omega)) ?_
   refine zaB.next hjl ⟨rfl,T,?_⟩
   rw [hmy,zkA]
   simp
  ·have hd2:decide ((j:Int)<((4:Nat):Int))=false:=by simp;omega
   rw [List.take_of_length_le (by omega), ← hhd, ← hnx]
   refine zbw (zbb hd2 (wkc k (by omega))) ?_
   exact zaB.next hlt ⟨rfl,_,rfl⟩
 ·have hd:decide ((k:Int)<(p.headers.length:Int))=false:=by simp;omega
  rw [List.take_of_length_le (by omega)]
  obtain ⟨Q,hQ⟩:∃ Q,zeR p++(p.headers.map zho).flatten=Q:=⟨_,rfl⟩
  have hfin:zfH p=zcC (Q++(zdc p++(zjO p++(p.path.map ziJ++zhk p.cert)))):=by
   rw [zfH,zgG, ← List.append_assoc,hQ]
  rw [hQ]
  have hix:=hp.index
  have hct:=hp.count
  refine zbw (zbb hd hB) ?_
  refine zle (hS _ _) ?_
  rw [hP]
  refine zbw hB ?_
  refine zki (hS _ _) ?_
  rw [hP]
  have e1:zhH (zhH (zcC Q) (ziJ p.index)) (inE p.count 0 16)=zcC (Q++zdc p):=by
   rw [← zjJ (zcC Q),zjK,zjK,zjJ];simp [zdc]
  rw [e1]
  refine zbw hB ?_
  refine ztn (hS _ _) ?_
  rw [hP]
  refine zbw (zbb hB hpl) ?_
  refine zki (hS _ _) ?_
  rw [hP]
  have e2:zhH (zhH (zcC (Q++zdc p)) (inE p.index 0 (IntKind.i64.wrap (p.count-1)))) (inE p.path.length 0 8)=zcC (Q++zdc p++zjO p):=by
   by_cases hz:zcC (Q++zdc p)=0
   ·have hz2:zcC (zdc p)=0:=by
     rw [zhQ] at hz
     split at hz
     ·rename_i h;exact absurd hz h
     ·exact hz
    have hc0:inE p.count 0 16=0:=by
     simp only [zdc,zcC] at hz2
     split at hz2
     ·rename_i h;exact absurd hz2 h
     ·split at hz2
      ·rename_i h;exact absurd hz2 h
      ·rename_i h;simpa using h
    have:=inE_0 hc0
    rw [show IntKind.i64.wrap (p.count-1)=p.count-1 from zab (by omega) (by omega)]
    rw [← zjJ (zcC (Q++zdc p)),zjK,zjK,zjJ];simp [zjO]
   ·rw [zsF hz]
    simp [zhH,hz]
  rw [e2]
  obtain ⟨R,hR⟩:∃ R,Q++zdc p++zjO p=R:=⟨_,rfl⟩
  rw [hR]
  have hfin2:zfH p=zcC (R++(p.path.map ziJ++zhk p.cert)):=by rw [hfin, ← hR];simp
  have hpb:=hp.path
  refine zbw (zbb hB hpl) ?_
  refine zt p.path.length (fun k vs s=>vs = [.d (.int .i64 k)]/\∃ T,s = σ.set id (zgf (zcC (R++(p.path.take k).map ziJ)))++zlP p::T) ⟨rfl,_,by simp;rfl⟩ ?_
  rintro j vs s hj ⟨rfl,T,rfl⟩
  by_cases hjl:j<p.path.length
  ·have hd2:decide ((j:Int)<(p.path.length:Int))=true:=by simp;omega
   have hy:p.path[j]? = some p.path[j]:=by simp [hjl]
   have hgy:=zP (f:=fun t => [D.int .i64 t]) hy
   obtain ⟨y,hye⟩:∃ y,p.path[j]=y:=⟨_,rfl⟩
   rw [hye] at hy hgy
   have hmy:=zdN (f:=ziJ) hy
   refine zbw (zbb hd2 (zbb hgy hpl)) ?_
   refine zle (hS _ _) ?_
   rw [hP]
   refine zbw (wkc j (by omega)) ?_
   refine zaB.next hjl ⟨rfl,T,?_⟩
   rw [hmy,zkA]
   simp
  ·have hd2:decide ((j:Int)<(p.path.length:Int))=false:=by simp;omega
   rw [List.take_of_length_le (by omega)]
   refine zbw (zbb hd2 hB) ?_
   refine c_askCert (c:=p.cert) (hS _ _) hp.signs ?_
   rw [hP]
   have e3:zhH (zcC (R++p.path.map ziJ)) (zcC (zhk p.cert))=zfH p:=by
    rw [hfin2, ← List.append_assoc, ← zjJ (zcC (R++p.path.map ziJ)),zvG,zjJ]
   rw [e3]
   refine zir ?_
   exact zhY (by simp [zcH,dmT,zbS]) hl (zge _ _) hK
theorem zuj {σ:List zg} {p:zbX} (hp:zfy p) {K:KT} (hK:K (.d (.int .i64 (zfH p))) σ):zr Tryz.prog zeN [zhl p] σ K:=by
 refine zgp znl fun hl => ?_
 simp only [zhE,iN,bT,bF,eN,zhl]
 refine zir ?_
 refine c_askProof (p:=p) (by rw [zx];rfl) hp ?_
 rw [zO]
 refine zir ?_
 refine zT hl ?_
 exact hK
end Go.Proofs.YtfgbofkdhfjegaaGreat
