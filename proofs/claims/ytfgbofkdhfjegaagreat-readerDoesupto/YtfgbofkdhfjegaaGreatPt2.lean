/- Contracts: whether a checkpoint's certificate is valid, on both sides. -/
import Derived.Test.YtfgbofkdhfjegaaGreatAu3
import Derived.Test.YtfgbofkdhfjegaaGreatSpChk
set_option linter.all false
set_option maxRecDepth 100000
namespace Go.Proofs.YtfgbofkdhfjegaaGreat
open Go.AW
theorem c_ptValid1 {σ:List zh} {a b c0 id m t id2 m2 t2:Nat} {L:List (List UInt8)} {G:List zR} {c:zeX} {s:zR} (ha : σ[a]? = some (.box [.box id 0])) (hb : σ[b]? = some (.box [.box id2 0])) (hc : σ[c0]? = some (zyR c)) (hT:zdH σ id m t L) (hG:zeY σ id2 m2 t2 G) (hL:zne L) (hg:G.length<=1073741824)
  {K:KT} (hK:K (.d (.bool (!zkL L G s s.key 6 0 c.seq c.dig))) σ):zp Tryz.prog zgN [.agg [.d (.int .i64 s.key),.d (.int .i64 s.dig)],.box a 0,.box b 0,.box c0 0] σ K:=by
 refine acE4 zva fun hl => ?_
 have sa:∀ τ,(σ ++ τ)[a]? = _:=fun τ=>zf ha
 have sb:∀ τ,(σ ++ τ)[b]? = _:=fun τ=>zf hb
 have sc:∀ τ,(σ ++ τ)[c0]? = some (.box [.d (.int .i64 c.seq),.d (.int .i64 c.dig),.d (.slice (zaI c.signs))]):=fun τ=>zf hc
 simp only [zoc,iN,bT,bF,eN]
 refine gq2 (zg sa sb) ?_
 refine zzo (s:=s) (hT.app _) (hG.app _) hL hg ?_
 refine gq1 ?_
 refine zI hl ?_
 exact hK
theorem c_idxSign {σ:List zh} {b:List zR} {f:FuncId} {cap:List AV} {p:zR->Bool} (hb:b.length<=1073741824) (hf:∀ x∈b, ∀ K:AV->List zh->Prop,K (.d (.bool (p x))) σ->zp Tryz.prog f (.agg [.d (.int .i64 x.key),.d (.int .i64 x.dig)]::cap) σ K)
  {K:KT} (hK:∀ r:Int,decide (r≥0)=b.any p->K (.d (.int .i64 r)) σ):zp Tryz.prog zbP [.d (.slice (zaI b)),.fn (.func f) [] cap] σ K:=by
 refine zeW zfS fun hl => ?_
 simp only [zdb,iN,bT,bF,eN]
 refine gq1 ?_
 refine zo b.length (fun k vs s=>vs = [.d (.int .i64 k)]/\s = σ/\(b.take k).any p=false) ⟨rfl,rfl,by simp⟩ ?_
 rintro k vs s hk ⟨rfl,rfl,hno⟩
 by_cases hlt:k<b.length
 ·have hd:decide ((k:Int)<(b.length:Int))=true:=by simp;omega
  have hx:b[k]? = some b[k]:=by simp [hlt]
  have hfx:=hf _ (List.getElem_mem hlt)
  have hgx:=zK (f:=zgz) hx
  obtain ⟨x,hxe⟩:∃ x,b[k]=x:=⟨_,rfl⟩
  rw [hxe] at hx hgx hfx
  refine gq8 (zg hd hgx) ?_
  refine hfx _ ?_
  cases h1:p x
  ·refine gq2 (wkc k (by omega)) ?_
   refine zas.next hlt ⟨rfl,rfl,?_⟩
   rw [List.take_add_one,hx]
   simp [hno,h1]
  ·refine gq1 ?_
   refine zI hl ?_
   have:b.any p=true:=List.any_eq_true.2 ⟨x,List.mem_of_getElem? hx,h1⟩
   exact hK _ (by rw [this];simp)
 ·have hd:decide ((k:Int)<(b.length:Int))=false:=by simp;omega
  refine gq2 hd ?_
  refine zI hl ?_
  rw [List.take_of_length_le (by omega)] at hno
  exact hK _ (by rw [hno];rfl)
theorem c_hasSign {σ:List zh} {b:List zR} {f:FuncId} {cap:List AV} {p:zR->Bool} (hb:b.length<=1073741824) (hf:∀ x∈b, ∀ K:AV->List zh->Prop,K (.d (.bool (p x))) σ->zp Tryz.prog f (.agg [.d (.int .i64 x.key),.d (.int .i64 x.dig)]::cap) σ K)
  {K:KT} (hK:K (.d (.bool (b.any p))) σ):zp Tryz.prog zaV [.d (.slice (zaI b)),.fn (.func f) [] cap] σ K:=by
 refine zeW zfl fun hl => ?_
 simp only [zcG,iN,bT,bF,eN]
 refine gq1 ?_
 refine c_idxSign hb hf fun r hr => ?_
 refine gq2 hr ?_
 refine zI hl ?_
 exact hK
theorem not_any (l:List zR) (p:zR->Bool):(!l.any fun s => !p s)=l.all p:=by
 induction l with
 | nil=>rfl
 | cons x l ih=>simp only [List.any_cons,List.all_cons,Bool.not_or,Bool.not_not,ih]
theorem c_ptValid {σ:List zh} {id m t id2 m2 t2:Nat} {L:List (List UInt8)} {G:List zR} {f:Int} {c:zeX} (hT:zdH σ id m t L) (hG:zeY σ id2 m2 t2 G) (hL:zne L) (hg:G.length<=1073741824) (hl0:c.signs.length<=1073741824)
  {K:KT} (hK:K (.d (.bool (znL L G f c))) σ):zp Tryz.prog zlW [.box id 0,.box id2 0,.d (.int .i64 f),ziw c] σ K:=by
 refine acE4 zyI fun hl => ?_
 have fin:∀ z,znL L G f c=z->K (.d (.bool z)) σ:=fun z h=>h▸hK
 clear hK
 simp only [zrr,iN,bT,bF,eN,ziw]
 refine gq1 ?_
 refine c_ptNew (fun h0 => ?_) (fun h0 => ?_)
 ·have h0':(zcZ f != 0)=true:=by simpa using h0
  refine gq2 h0' ?_
  refine zI hl ?_
  exact fin _ (by rw [znL,decide_eq_false h0];rfl)
 refine gq2 (show ((0:Int) != 0)=false from rfl) ?_
 obtain ⟨S,hS⟩:∃ S, σ++[zh.box [.box id 0],.box [.box id2 0],zyR c,.map [],.box [.d (.int .i64 f),.d (.int .i64 0),.d (.int .i64 0),.exact [],.map (σ.length+3),.exact []]]=S:=⟨_,rfl⟩
 have g0:∀ τ,(S ++ τ)[σ.length]? = some (.box [.box id 0]):=fun τ=>zf (by rw [← hS,zy];rfl)
 have g1:∀ τ,(S ++ τ)[σ.length+1]? = some (.box [.box id2 0]):=fun τ=>zf (by rw [← hS,zx];rfl)
 have g2:∀ τ,(S ++ τ)[σ.length+2]? = some (zyR c):=fun τ=>zf (by rw [← hS,zx];rfl)
 have g4:S[σ.length+4]? = some (.box (.d (.int .i64 f)::[.d (.int .i64 0),.d (.int .i64 0),.exact [],.map (σ.length+3),.exact []])):=by rw [← hS,zx];rfl
 have g00:=g0 [];have g10:=g1 [];have g20:=g2 []
 rw [List.append_nil] at g00 g10 g20
 have tT:zdH S id m t L:=hS▸hT.app _
 have tG:zeY S id2 m2 t2 G:=hS▸hG.app _
 have hpre:∃ T,S = σ++T:=⟨_,hS.symm⟩
 rw [hS]
 refine c_ptMayCert g4 hl0 ?_
 cases h1:zel f c
 ·refine gq1 ?_
  obtain ⟨T,rfl⟩:=hpre
  refine zI hl ?_
  exact fin _ (by rw [znL,h1];simp)
 have hcf:znL L G f c=c.signs.all fun s=>zkL L G s s.key 6 0 c.seq c.dig:=by rw [znL,h1,decide_eq_true h0];rfl
 have tail:∀ τ,zp Tryz.prog zaV [.d (.slice (zaI c.signs)),.fn (.func zgN) [] [.box σ.length 0,.box (σ.length+1) 0,.box (σ.length+2) 0]] (S ++ τ) fun K1 s=>unC .not K1 s fun L1 s=>z1 (AW.Ends σ.length K) L1 s:=fun τ=>by
  refine c_hasSign (p:=fun s => !zkL L G s s.key 6 0 c.seq c.dig) hl0 (fun x _ K hK=>c_ptValid1 (g0 _) (g1 _) (g2 _) (tT.app _) (tG.app _) hL hg hK) ?_
  rw [hcf, ← not_any] at fin
  refine gq1 ?_
  obtain ⟨T,rfl⟩:=hpre
  rw [List.append_assoc]
  refine zI hl ?_
  exact fin _ rfl
 have tail0:=tail []
 rw [List.append_nil] at tail0
 refine gq2 (zg g00 (zg g10 g20)) ?_
 refine c_tLen tT ?_
 cases h2:((L.length:Int)==0)
 ·refine gq2 (zg h2 (zg g00 (zg g10 g20))) ?_
  refine c_gLen tG ?_
  cases h3:((G.length:Int)==0)
  ·refine gq2 (zg h2 (zg h3 (zg g00 (zg g10 g20)))) ?_
   exact tail0
  ·refine gq2 (zg h2 (zg h3 (zg g00 (zg g10 g20)))) ?_
   refine zrf tG hg fun g' => ?_
   refine gq2 g2 ?_
   exact tail _
 ·refine gq2 (zg h2 (zg g00 (zg g10 g20))) ?_
  refine zqY tT hL.nd hL.len hL.each ?_
  refine gq2 g1 ?_
  refine c_gLen (tG.app _) ?_
  cases h3:((G.length:Int)==0)
  ·refine gq2 (zg h2 (zg h3 (zg g1 g2))) ?_
   exact tail _
  ·refine gq2 (zg h2 (zg h3 (zg g1 g2))) ?_
   refine zrf (tG.app _) hg fun g' => ?_
   refine gq2 g2 ?_
   exact tail _
theorem c_r14Valid {σ:List zh} {id id2:Nat} {L:List (List UInt8)} {G:List zR} {f:Int} {c:zeX} (hT : σ[id]? = some (rtO L)) (hG : σ[id2]? = some (rlO G)) (hL:L.length<=1048576) (hg:G.length<=1073741824) (hl0:c.signs.length<=1073741824)
  {K:KT} (hK:K (.d (.bool (znL L G f c))) σ):zp Tryz.prog zpy [.box id 0,.box id2 0,.d (.int .i64 f),ziw c] σ K:=by
 refine acE4 e_r14_Valid fun hl => ?_
 have fin:∀ z,znL L G f c=z->K (.d (.bool z)) σ:=fun z h=>h▸hK
 clear hK
 have hlen:(zaI c.signs).length=c.signs.length:=List.length_map ..
 simp only [zvJ,iN,bT,bF,eN,ziw]
 refine gq1 ?_
 refine znN ?_
 cases h0:(zcZ f != 0)
 rotate_left
 ·refine gq2 h0 ?_
  refine zI hl ?_
  have h0':zcZ f≠0:=by simpa using h0
  exact fin _ (by rw [znL,decide_eq_false h0'];rfl)
 have h0':zcZ f=0:=by simpa using h0
 refine gq2 h0 ?_
 refine c_r14MayCert (f:=f) (cs := [.d (.int .i64 0),.d (.int .i64 0),.exact [],.exact [],.exact []]) (by rw [zx];rfl) hl0 ?_
 cases h1:zel f c
 ·refine gq1 ?_
  refine zI hl ?_
  exact fin _ (by rw [znL,h1];simp)
 have hcf:znL L G f c=c.signs.all fun s=>zkL L G s s.key 6 0 c.seq c.dig:=by rw [znL,h1,decide_eq_true h0'];rfl
 refine gq1 ?_
 refine zo c.signs.length (fun k vs s=>vs = [.d (.int .i64 k)]/\s = σ++[zyR c,.box [.d (.int .i64 f),.d (.int .i64 0),.d (.int .i64 0),.exact [],.exact [],.exact []]]/\(c.signs.take k).all (fun s=>zkL L G s s.key 6 0 c.seq c.dig)=true) ⟨rfl,rfl,by simp⟩ ?_
 rintro k vs s hk ⟨rfl,rfl,hok⟩
 by_cases hlt:k<c.signs.length
 ·have hd:decide ((k:Int)<(c.signs.length:Int))=true:=by simp;omega
  have hx:c.signs[k]? = some c.signs[k]:=by simp [hlt]
  have hgx:=zK (f:=zgz) hx
  obtain ⟨x,hxe⟩:∃ x,c.signs[k]=x:=⟨_,rfl⟩
  rw [hxe] at hx hgx
  refine gq8 (zg hd (zg hgx hlen)) ?_
  refine zzb (s:=x) (zf hT) (zf hG) hL hg ?_
  cases h2:zkL L G x x.key 6 0 c.seq c.dig
  ·refine gq1 ?_
   refine zI hl ?_
   refine fin _ ?_
   rw [hcf,Bool.eq_false_iff]
   intro hall
   have:=List.all_eq_true.1 hall x (List.mem_of_getElem? hx)
   rw [h2] at this;cases this
  ·refine gq2 (wkc k (by omega)) ?_
   refine zas.next hlt ⟨rfl,rfl,?_⟩
   rw [List.take_add_one,hx]
   simp only [List.all_append,hok,Option.toList_some,List.all_cons,List.all_nil,Bool.true_and,Bool.and_true,h2]
 ·have hd:decide ((k:Int)<(c.signs.length:Int))=false:=by simp;omega
  rw [List.take_of_length_le (by omega)] at hok
  refine gq2 (zg hd hlen) ?_
  refine zI hl ?_
  exact fin _ (by rw [hcf,hok])
structure zfe (p:zbW):Prop where
 topic:p.topic.length<=16777216
 rec_:p.rec_.length<=16777216
 headers:p.headers.length<=1073741824
 path:p.path.length<=1073741824
 signs:p.cert.signs.length<=1073741824
 off:zjT p.offset
 index:zjT p.index
 count:zjT p.count
 paths:∀ x∈p.path,zjT x
abbrev zhN (p:zbW):zh := .box [.d (.str p.topic),.d (.int .i64 p.offset),.d (.slice (bcs p.rec_)),.d (.slice (zgR p.headers)),.d (.int .i64 p.index),.d (.int .i64 p.count),.d (.slice (zcH p.path)),.d (.int .i64 p.cert.seq),.d (.int .i64 p.cert.dig),.d (.slice (zaI p.cert.signs))]
theorem zyg (e:Int) (a b:List Int):ziT (ziT e (zbz a)) (zbz b)=ziT e (zbz (a++b)):=by
 rw [zgg]
 unfold ziT
 by_cases h:e=0
 ·by_cases h2:zbz a=0
  ·simp [h,h2]
  ·simp [h,h2]
 ·simp [h]
theorem zkN (e:Int) (a:List Int) (x:Int):ziT (ziT e (zbz a)) x=ziT e (zbz (a++[x])):=by
 have:x=zbz [x]:=by simp only [zbz];split<;>simp_all
 conv=>lhs;rw [this]
 exact zyg e a [x]
theorem zkM (x:Int):ziT 0 x=x:=by simp [ziT]
theorem zlJ (l:List Int) (x:Int):ziT (zbz l) x=zbz (l++[x]):=by rw [← zkM (zbz l),zkN,zkM]
theorem c_askProof {σ:List zh} {id:Nat} {p:zbW} (hσ : σ[id]? = some (zgW 0)) (hp:zfe p) {K:KT} (hK:K (.tup []) (σ.set id (zgW (zcp p)))) :
  zp Tryz.prog zcC [.box id 0,zfB p] σ K:=by
 refine zeW zhY fun hl => ?_
 have hid:=zB hσ
 have hrl:=zav p.rec_
 have hhl:(zgR p.headers).length=p.headers.length:=List.length_map ..
 have hpl:(zcH p.path).length=p.path.length:=List.length_map ..
 have hB:∀ X τ,(σ.set id X++zhN p::τ)[σ.length]? = some (zhN p):=fun X τ=>by
  rw [List.getElem?_append_right (by simp)];simp
 have hS:∀ E τ,(σ.set id (zgW E) ++ τ)[id]? = some (zgW E):=fun E τ=>zf (zbJ hσ)
 have hP:∀ E Y τ,(σ.set id (zgW E) ++ τ).set id Y = σ.set id Y ++ τ:=fun E Y τ=>by rw [zcg (zbJ hσ),List.set_set]
 simp only [zfn,iN,bT,bF,eN,zfB]
 refine zdS ?_
 refine c_askName (zf hσ) (by have:=hp.topic;omega) ?_
 rw [zcg hσ]
 refine zaQ hB ?_
 refine zmt (hS _ _) ?_
 rw [hP]
 refine zaQ (zP hB hrl) ?_
 refine zlo (hS _ _) ?_
 rw [hP]
 refine zaQ (zP hB hhl) ?_
 refine zlo (hS _ _) ?_
 rw [hP]
 rw [show ziT (ziT (ziT (ziT 0 (zqy p.topic)) (zgm p.offset)) (inE p.rec_.length 0 64)) (inE p.headers.length 0 64)=zbz (zew p) by
  rw [zkM]
  simp only [zew,zbz,ziT]
  by_cases h1:zqy p.topic=0
  ·by_cases h2:zgm p.offset=0
   ·by_cases h3:inE p.rec_.length 0 64=0
    ·by_cases h4:inE p.headers.length 0 64=0<;>simp [h1,h2,h3,h4]
    ·simp [h1,h2,h3]
   ·simp [h1,h2]
  ·simp [h1]]
 refine zaQ (zP hB hhl) ?_
 refine zo p.headers.length (fun k vs s=>vs = [.d (.int .i64 k)]/\∃ T,s = σ.set id (zgW (zbz (zew p++((p.headers.take k).map zgw).flatten)))++zhN p::T) ⟨rfl,[],by simp⟩ ?_
 rintro k vs s hk ⟨rfl,T,rfl⟩
 by_cases hlt:k<p.headers.length
 ·have hd:decide ((k:Int)<(p.headers.length:Int))=true:=by simp;omega
  have hx:p.headers[k]? = some p.headers[k]:=by simp [hlt]
  have hgx:=zK (f:=ztT) hx
  obtain ⟨h,hhe⟩:∃ h,p.headers[k]=h:=⟨_,rfl⟩
  rw [hhe] at hx hgx
  have hph:=hp.headers
  have hmn:((p.headers.take (k+1)).map zgw).flatten=((p.headers.take k).map zgw).flatten++zgw h:=by
   rw [zem hx];simp
  obtain ⟨Q,hQ⟩:∃ Q,zew p++((p.headers.take k).map zgw).flatten=Q:=⟨_,rfl⟩
  have hnx:zew p++((p.headers.take (k+1)).map zgw).flatten=Q++zgw h:=by rw [hmn, ← hQ,List.append_assoc]
  rw [hQ]
  have hlX:∀ X,(σ.set id X).length = σ.length:=fun X=>List.length_set
  have hhb:∀ X Y,(σ.set id X++zhN p::(T++[Y]))[σ.length+(T.length+1)]? = some Y:=fun X Y=>by
   rw [← hlX X,zx,List.getElem?_cons_succ,zy];rfl
  refine zaQ (zP hd (zP hgx hhl)) ?_
  refine c_askPos (hS _ _) ?_
  rw [hP]
  refine zaQ (zP hlX hhb) ?_
  have hg:∀ (k:Nat) x,[h.prev,h.batch,h.root,h.state][k]? = some x → [[D.int .i64 h.prev],[D.int .i64 h.batch],[D.int .i64 h.root],[D.int .i64 h.state]][k]? = some [D.int .i64 x]:=fun k x hx=>by
   have:=zK (f:=fun t => [D.int .i64 t]) hx
   simpa using this
  have hhd:zgw h = [zwO h.seq]++[h.prev,h.batch,h.root,h.state].map zgm:=rfl
  have hl4 : [h.prev,h.batch,h.root,h.state].length=4:=rfl
  have e0:ziT (zbz Q) (zwO h.seq)=zbz (Q++[zwO h.seq]):=by rw [← zkM (zbz Q),zkN,zkM]
  obtain ⟨l,hlq⟩:∃ l,[h.prev,h.batch,h.root,h.state]=l:=⟨_,rfl⟩
  rw [hlq] at hg hhd hl4
  rw [e0]
  refine zo 4 (fun j vs s=>vs = [.d (.int .i64 j)]/\∃ T,s = σ.set id (zgW (zbz (Q++([zwO h.seq]++(l.take j).map zgm))))++zhN p::T) ⟨rfl,_,by simp;rfl⟩ ?_
  rintro j vs s hj ⟨rfl,T,rfl⟩
  by_cases hjl:j<4
  ·have hd2:decide ((j:Int)<((4:Nat):Int))=true:=by simp;omega
   have hy:l[j]? = some (l[j]'(by omega)):=List.getElem?_eq_getElem _
   have hgy:=hg j _ hy
   obtain ⟨y,hye⟩:∃ y,(l[j]'(by omega))=y:=⟨_,rfl⟩
   rw [hye] at hy hgy
   have hmy:=zem (f:=zgm) hy
   refine zaQ (zP hd2 hgy) ?_
   refine zmt (hS _ _) ?_
   rw [hP]
   refine zaQ (wkc j (by omega)) ?_
   refine zas.next hjl ⟨rfl,T,?_⟩
   rw [hmy,zlJ]
   simp
  ·have hd2:decide ((j:Int)<((4:Nat):Int))=false:=by simp;omega
   rw [List.take_of_length_le (by omega), ← hhd, ← hnx]
   refine zaQ (zP hd2 (wkc k (by omega))) ?_
   exact zas.next hlt ⟨rfl,_,rfl⟩
 ·have hd:decide ((k:Int)<(p.headers.length:Int))=false:=by simp;omega
  rw [List.take_of_length_le (by omega)]
  obtain ⟨Q,hQ⟩:∃ Q,zew p++(p.headers.map zgw).flatten=Q:=⟨_,rfl⟩
  have hfin:zcp p=zbz (Q++(zbO p++(zev p++(p.path.map zgm++zep p.cert)))):=by
   rw [zcp,zgD, ← List.append_assoc,hQ]
  rw [hQ]
  have hix:=hp.index
  have hct:=hp.count
  refine zaQ (zP hd hB) ?_
  refine zmt (hS _ _) ?_
  rw [hP]
  refine zaQ hB ?_
  refine zlo (hS _ _) ?_
  rw [hP]
  have e1:ziT (ziT (zbz Q) (zgm p.index)) (inE p.count 0 16)=zbz (Q++zbO p):=by
   rw [← zkM (zbz Q),zkN,zkN,zkM];simp [zbO]
  rw [e1]
  refine zaQ hB ?_
  refine zvv (hS _ _) ?_
  rw [hP]
  refine zaQ (zP hB hpl) ?_
  refine zlo (hS _ _) ?_
  rw [hP]
  have e2:ziT (ziT (zbz (Q++zbO p)) (inE p.index 0 (IntKind.i64.wrap (p.count-1)))) (inE p.path.length 0 8)=zbz (Q++zbO p++zev p):=by
   by_cases hz:zbz (Q++zbO p)=0
   ·have hz2:zbz (zbO p)=0:=by
     rw [zgg] at hz
     split at hz
     ·rename_i h;exact absurd hz h
     ·exact hz
    have hc0:inE p.count 0 16=0:=by
     simp only [zbO,zbz] at hz2
     split at hz2
     ·rename_i h;exact absurd hz2 h
     ·split at hz2
      ·rename_i h;exact absurd hz2 h
      ·rename_i h;simpa using h
    have:=inE_0 hc0
    rw [show IntKind.i64.wrap (p.count-1)=p.count-1 from zU (by omega) (by omega)]
    rw [← zkM (zbz (Q++zbO p)),zkN,zkN,zkM];simp [zev]
   ·rw [zjB hz]
    simp [ziT,hz]
  rw [e2]
  obtain ⟨R,hR⟩:∃ R,Q++zbO p++zev p=R:=⟨_,rfl⟩
  rw [hR]
  have hfin2:zcp p=zbz (R++(p.path.map zgm++zep p.cert)):=by rw [hfin, ← hR];simp
  have hpb:=hp.path
  refine zaQ (zP hB hpl) ?_
  refine zo p.path.length (fun k vs s=>vs = [.d (.int .i64 k)]/\∃ T,s = σ.set id (zgW (zbz (R++(p.path.take k).map zgm)))++zhN p::T) ⟨rfl,_,by simp;rfl⟩ ?_
  rintro j vs s hj ⟨rfl,T,rfl⟩
  by_cases hjl:j<p.path.length
  ·have hd2:decide ((j:Int)<(p.path.length:Int))=true:=by simp;omega
   have hy:p.path[j]? = some p.path[j]:=by simp [hjl]
   have hgy:=zK (f:=fun t => [D.int .i64 t]) hy
   obtain ⟨y,hye⟩:∃ y,p.path[j]=y:=⟨_,rfl⟩
   rw [hye] at hy hgy
   have hmy:=zem (f:=zgm) hy
   refine zaQ (zP hd2 (zP hgy hpl)) ?_
   refine zmt (hS _ _) ?_
   rw [hP]
   refine zaQ (wkc j (by omega)) ?_
   refine zas.next hjl ⟨rfl,T,?_⟩
   rw [hmy,zlJ]
   simp
  ·have hd2:decide ((j:Int)<(p.path.length:Int))=false:=by simp;omega
   rw [List.take_of_length_le (by omega)]
   refine zaQ (zP hd2 hB) ?_
   refine c_askCert (c:=p.cert) (hS _ _) hp.signs ?_
   rw [hP]
   have e3:ziT (zbz (R++p.path.map zgm)) (zbz (zep p.cert))=zcp p:=by
    rw [hfin2, ← List.append_assoc, ← zkM (zbz (R++p.path.map zgm)),zyg,zkM]
   rw [e3]
   refine zdS ?_
   exact zjh (by simp [zcJ,dmT,zcb]) hl (zgV _ _) hK
theorem zwC {σ:List zh} {p:zbW} (hp:zfe p) {K:KT} (hK:K (.d (.int .i64 (zcp p))) σ):zp Tryz.prog zfI [zfB p] σ K:=by
 refine zfc zoP fun hl => ?_
 simp only [ziR,iN,bT,bF,eN,zfB]
 refine zdS ?_
 refine c_askProof (p:=p) (by rw [zx];rfl) hp ?_
 rw [zT]
 refine zdS ?_
 refine zI hl ?_
 exact hK
end Go.Proofs.YtfgbofkdhfjegaaGreat
