/- Which proofs may be: the first error of all that is asked. No program in sight. -/
import Derived.Test.YtfgbofkdhfjegaaGreatMk3
import Derived.Test.YtfgbofkdhfjegaaGreatSpUtf
import Derived.Test.YtfgbofkdhfjegaaGreatOp1
import Derived.Test.YtfgbofkdhfjegaaGreatOpC
import Derived.Test.YtfgbofkdhfjegaaGreatCodec1
import Derived.Test.YtfgbofkdhfjegaaGreatHd1
import Derived.Test.YtfgbofkdhfjegaaGreatAwFrz
import Derived.Test.YtfgbofkdhfjegaaGreatRq2
set_option linter.all false
namespace Go.AW
def zbz:List Int->Int
 | [] => 0
 | e::r=>if e≠0 then e else zbz r
theorem zgg (a b:List Int):zbz (a++b)=if zbz a≠0 then zbz a else zbz b:=by
 induction a with
 | nil=>simp [zbz]
 | cons e r ih=>
  simp only [List.cons_append,zbz,ih]
  by_cases h:e=0
  ·simp [h]
  ·simp [h]
theorem zuK {a b:List Int} (h:zbz a=0):zbz (a++b)=zbz b:=by rw [zgg,if_neg (by simpa using h)]
theorem zjB {a b:List Int} (h:zbz a≠0):zbz (a++b)=zbz a:=by rw [zgg,if_pos h]
def ziT (e x:Int):Int:=if e≠0 then e else x
theorem thn_fst (e:Int) (l:List Int):ziT e (zbz l)=zbz (e::l):=rfl
def inE (n lo hi:Int):Int:=if n<lo∨n > hi then 100 else 0
def zgm (n:Int):Int:=inE n 0 9007199254740992
def zwO (n:Int):Int:=inE n 1 9007199254740992
def zqy (s:List UInt8):Int:=if zex s=true then 0 else 61
def zfo (l:List zR):List Int:=inE l.length 0 13::l.map fun s=>zah s.key s.dig
def zeo (c:zeX):Int:=if ((c.seq=0)≠(c.dig=0))∨(c.seq=0/\0<c.signs.length) then 100 else 0
def zep (c:zeX):List Int:=zgm c.seq::zgm c.dig::zeo c::zfo c.signs
def zgw (h:zdl):List Int := [zwO h.seq,zgm h.prev,zgm h.batch,zgm h.root,zgm h.state]
structure zbW where
 topic:List UInt8
 offset:Int
 rec_:List UInt8
 headers:List zdl
 index:Int
 count:Int
 path:List Int
 cert:zeX
abbrev proofD (p:zbW):List D := [.str p.topic,.int .i64 p.offset,.slice (bcs p.rec_),.slice (zgR p.headers),.int .i64 p.index,.int .i64 p.count,.slice (zcH p.path),.int .i64 p.cert.seq,.int .i64 p.cert.dig,.slice (zaI p.cert.signs)]
abbrev zfB (p:zbW):AV := .agg [.d (.str p.topic),.d (.int .i64 p.offset),.d (.slice (bcs p.rec_)),.d (.slice (zgR p.headers)),.d (.int .i64 p.index),.d (.int .i64 p.count),.d (.slice (zcH p.path)),.d (.int .i64 p.cert.seq),.d (.int .i64 p.cert.dig),.d (.slice (zaI p.cert.signs))]
abbrev ziw (c:zeX):AV := .agg [.d (.int .i64 c.seq),.d (.int .i64 c.dig),.d (.slice (zaI c.signs))]
def zew (p:zbW):List Int := [zqy p.topic,zgm p.offset,inE p.rec_.length 0 64,inE p.headers.length 0 64]
def zbO (p:zbW):List Int := [zgm p.index,inE p.count 0 16]
def zev (p:zbW):List Int := [inE p.index 0 (p.count-1),inE p.path.length 0 8]
def zgD (p:zbW):List Int:=zew p++((p.headers.map zgw).flatten++(zbO p++(zev p++(p.path.map zgm++zep p.cert))))
def zcp (p:zbW):Int:=zbz (zgD p)
theorem inE_0 {n lo hi:Int} (h:inE n lo hi=0):lo<=n/\n<=hi:=by
 unfold inE at h
 split at h
 ·cases h
 ·omega
theorem numE_0 {n:Int} (h:zgm n=0):0<=n/\n<=9007199254740992:=inE_0 h
end Go.AW

/- Contracts: what is asked of a proof, the program's. -/
set_option maxRecDepth 100000
namespace Go.Proofs.YtfgbofkdhfjegaaGreat
open Go.AW
abbrev zgW (e:Int):zh := .box [.d (.int .i64 e)]
theorem zgV (n:Nat) (e:Int):zyf n (zgW e):=by
 intro c hc
 simp only [List.mem_cons,List.not_mem_nil,or_false] at hc
 subst hc;exact .d _
theorem c_says {σ:List zh} {id:Nat} {e x:Int} (hσ : σ[id]? = some (zgW e)) {K:KT} (hK:K (.tup []) (σ.set id (zgW (ziT e x)))):zp Tryz.prog zat [.box id 0,.d (.int .i64 x)] σ K:=by
 refine zeW zoL fun hl => ?_
 simp only [ziN,iN,bT,bF,eN]
 cases h:(e==0)
 ·rw [ziT,if_pos (by simpa using h),zbF hσ] at hK
  refine zaQ (zP hσ h) ?_
  refine zI hl ?_
  exact hK
 ·rw [ziT,if_neg (by simpa using h)] at hK
  refine zaQ (zP hσ h) ?_
  exact zfk (by simp [zcJ,dmT,zcb]) hl (zgV _ _) hK
theorem thn_0 (e:Int):ziT e 0=e:=by
 unfold ziT;split
 ·rfl
 ·rename_i h;simp at h;exact h.symm
theorem zvv {σ:List zh} {id:Nat} {e n lo hi:Int} (hσ : σ[id]? = some (zgW e)) {K:KT} (hK:K (.tup []) (σ.set id (zgW (ziT e (inE n lo hi))))) :
  zp Tryz.prog zaB [.box id 0,.d (.int .i64 n),.d (.int .i64 lo),.d (.int .i64 hi)] σ K:=by
 refine acE4 zqS fun hl => ?_
 simp only [zku,iN,bT,bF,eN]
 have bad:(n<lo∨n > hi)->zp Tryz.prog zat [.box id 0,.d (.int .i64 100)] σ fun _ s=>AW.Ends σ.length K (some []) s:=fun h=>by
  rw [inE,if_pos h] at hK
  refine c_says hσ ?_
  exact zfk (by simp [zcJ,dmT,zcb]) hl (zgV _ _) hK
 cases h1:decide (n<lo)
 ·cases h2:decide (n > hi)
  ·rw [inE,if_neg (by simp at h1 h2;omega),thn_0,zbF hσ] at hK
   refine zaQ (zP h1 h2) ?_
   refine zI hl ?_
   exact hK
  ·refine zaQ (zP h1 h2) ?_
   exact bad (.inr (by simpa using h2))
 ·refine zaQ h1 ?_
  exact bad (.inl (by simpa using h1))
theorem zmt {σ:List zh} {id:Nat} {e n:Int} (hσ : σ[id]? = some (zgW e)) {K:KT} (hK:K (.tup []) (σ.set id (zgW (ziT e (zgm n))))) :
  zp Tryz.prog zaq [.box id 0,.d (.int .i64 n)] σ K:=by
 refine zeW zpU fun hl => ?_
 simp only [zjO,iN,bT,bF,eN]
 refine zdS ?_
 refine zvv hσ ?_
 exact zfk (by simp [zcJ,dmT,zcb]) hl (zgV _ _) hK
theorem c_askPos {σ:List zh} {id:Nat} {e n:Int} (hσ : σ[id]? = some (zgW e)) {K:KT} (hK:K (.tup []) (σ.set id (zgW (ziT e (zwO n))))) :
  zp Tryz.prog zbZ [.box id 0,.d (.int .i64 n)] σ K:=by
 refine zeW zpT fun hl => ?_
 simp only [zjN,iN,bT,bF,eN]
 refine zdS ?_
 refine zvv hσ ?_
 exact zfk (by simp [zcJ,dmT,zcb]) hl (zgV _ _) hK
theorem zlo {σ:List zh} {id:Nat} {e n hi:Int} (hσ : σ[id]? = some (zgW e)) {K:KT} (hK:K (.tup []) (σ.set id (zgW (ziT e (inE n 0 hi))))) :
  zp Tryz.prog zaR [.box id 0,.d (.int .i64 n),.d (.int .i64 hi)] σ K:=by
 refine acE3 zoN fun hl => ?_
 simp only [ziP,iN,bT,bF,eN]
 refine zdS ?_
 refine zvv hσ ?_
 exact zfk (by simp [zcJ,dmT,zcb]) hl (zgV _ _) hK
theorem c_askName {σ:List zh} {id:Nat} {e:Int} {x:List UInt8} (hσ : σ[id]? = some (zgW e)) (hx:x.length<=1073741824) {K:KT} (hK:K (.tup []) (σ.set id (zgW (ziT e (zqy x))))) :
  zp Tryz.prog zci [.box id 0,.d (.str x)] σ K:=by
 refine zeW zoM fun hl => ?_
 simp only [ziO,iN,bT,bF,eN]
 refine zdS ?_
 refine c_Name hx ?_
 cases h:zex x
 ·rw [zqy,if_neg (by simp [h])] at hK
  refine zdS ?_
  refine c_says hσ ?_
  exact zfk (by simp [zcJ,dmT,zcb]) hl (zgV _ _) hK
 ·rw [zqy,if_pos h,thn_0,zbF hσ] at hK
  refine zdS ?_
  refine zI hl ?_
  exact hK
theorem fst_snoc (e:Int) (l:List Int) (x:Int):ziT (zbz (e::l)) x=zbz (e::(l++[x])):=by
 rw [show e::(l++[x])=(e::l)++[x] from rfl,zgg]
 unfold ziT
 split
 ·rfl
 ·simp [zbz]
theorem zem {α β:Type} {f : α → β} {l:List α} {k:Nat} {x : α} (h:l[k]? = some x):(l.take (k+1)).map f=(l.take k).map f++[f x]:=by
 rw [List.take_add_one,h];simp
theorem wkc (k:Nat) (h:k<=1073741824):IntKind.i64.wrap ((k:Int)+1)=((k+1:Nat):Int):=by rw [zU (by omega) (by omega)];rfl
theorem fst1 (e x:Int):zbz [e,x]=ziT e x:=by
 unfold ziT
 simp only [zbz]
 split
 ·rfl
 ·split
  ·rfl
  ·rename_i h;simp at h;exact h.symm
theorem bft:((false:Bool)==true)=false:=rfl
theorem btf:((true:Bool)==false)=false:=rfl
theorem gq38 {A P Q:Prop} (a:A) (h:Q) (e:A->Hd Q->P:=by intro a h;(repeat' first|simp -dsimp only [↓zeU, ↓zaA, ↓zbp, ↓zeV, ↓zeO, ↓zeM, ↓zeP, ↓zeN, ↓zbu, ↓zbq, ↓zbv, ↓zbr, ↓zeQ, ↓zbo, ↓zbw, ↓zbs, ↓zbx, ↓zbt, ↓zeL, ↓zeT, ↓zbn, ↓zby, ↓zeG, ↓zeF, ↓zeK,iN,bT,bF,eN, ↓zco, ↓unC, ↓zX, ↓zM, ↓zN, ↓zQ, ↓zZ, ↓zai, ↓zcv, ↓zaf, ↓zaS, ↓zV, ↓zl, ↓zm, ↓zbg, ↓ze, ↓zae, ↓zC, ↓zaM, ↓zaT, ↓zd, ↓zA, ↓zr, ↓zD, ↓zao, ↓zcY, ↓zdn, ↓zap, ↓zaw, ↓zaN, ↓zaZ, ↓zbk, ↓zw, ↓zaj, ↓zO, ↓zE, ↓zY,zdr,zbm,zbl,unA,zdo,bnd,zdL,zab,zS,zdI,dm,dm1,zG,zak,zdZ,zdY,zH,Q0,Q1,Q2,Q3,Q4,Q5,zW,zx,zy,zT,zL,Q6,Q7,Q8,Q9,Q10,Q11,Q12,Q13,Q14,Nat.reduceAdd,Q15,Int.reduceToNat,Q16,Q17,Q18,Q19,Q20,reduceIte,Q21,Q22,zF,rep,zaa,zeC,toD,zag,Q23,Q24,Q25,Q26,Q27,Q28,Nat.reduceLeDiff,Q29,Nat.reduceSub,Q30,Q31,Q32,sc,Q33,Q34,Q35,Q36,Q37,Q26,Q38,Q39,zis,zio,zil,zit,zcN,ziq,zim,zir,zin,zcM,zcO,ziu,ziv,Bool.not_true,Bool.not_false,List.length_map,Bool.and_false,Bool.and_self,Bool.false_and,Bool.not_false,Bool.not_true,Bool.true_and,Int.toNat_natCast,Int.toNat_zero,List.drop_zero,List.length_map,List.length_nil,List.nil_append,List.take_length,Nat.sub_zero,Nat.zero_add,Option.isSome_none,Option.isSome_some,Option.map_none,Option.map_some,zav,beq_self_eq_true,bft,bne_self_eq_false,btf,zcu,ziw,zdq,zgT,ztT,zea,zjl,opA,zjU,zgz,zkz,zbX,a]|with_reducible refine zix ?_|fail);exact h.go):P:=e a ⟨h⟩
theorem c_askSigns {σ:List zh} {id:Nat} {e:Int} {l:List zR} (hσ : σ[id]? = some (zgW e)) (hl0:l.length<=1073741824) {K:KT} (hK:K (.tup []) (σ.set id (zgW (ziT e (zbz (zfo l)))))) :
  zp Tryz.prog zcc [.box id 0,.d (.slice (zaI l))] σ K:=by
 refine zeW znH fun hl => ?_
 have hlen:(zaI l).length=l.length:=List.length_map ..
 have hid:=zB hσ
 rw [thn_fst,zfo] at hK
 simp only [zic,iN,bT,bF,eN]
 refine zaQ hlen ?_
 refine zlo hσ ?_
 refine zaQ hlen ?_
 refine zo l.length (fun k vs s=>vs = [.d (.int .i64 k)]/\∃ T,s = σ.set id (zgW (zbz (e::(inE l.length 0 13::(l.take k).map fun s=>zah s.key s.dig))))++T) ⟨rfl,[],by rw [List.take_zero,List.map_nil,fst1,List.append_nil]⟩ ?_
 rintro k vs s hk ⟨rfl,T,rfl⟩
 by_cases hlt:k<l.length
 ·have hd:decide ((k:Int)<(l.length:Int))=true:=by simp;omega
  have hx:l[k]? = some l[k]:=by simp [hlt]
  have hgx:=zK (f:=zgz) hx
  obtain ⟨x,hxe⟩:∃ x,l[k]=x:=⟨_,rfl⟩
  rw [hxe] at hx hgx
  have hmn:=zem (f:=fun s:zR=>zah s.key s.dig) hx
  have fs:=fst_snoc e (inE l.length 0 13::(l.take k).map fun s=>zah s.key s.dig) (zah x.key x.dig)
  simp only [List.cons_append] at fs
  rw [← hmn] at fs
  obtain ⟨E,hE⟩:∃ E,zbz (e::(inE l.length 0 13::(l.take k).map fun s=>zah s.key s.dig))=E:=⟨_,rfl⟩
  rw [hE] at fs ⊢
  have hS:∀ τ,(σ.set id (zgW E) ++ τ)[id]? = some (zgW E):=fun τ=>zf (zbJ hσ)
  refine gq38 (zP hd (zP hgx hlen)) ?_
  refine zyX ?_
  refine zdS ?_
  refine c_says (e:=E) (hS _) ?_
  rw [zcg (zbJ hσ),List.set_set]
  refine zaQ (wkc k (by omega)) ?_
  exact zas.next hlt ⟨rfl,_,by rw [fs]⟩
 ·have hd:decide ((k:Int)<(l.length:Int))=false:=by simp;omega
  rw [List.take_of_length_le (by omega)]
  refine zaQ hd ?_
  exact zjh (by simp [zcJ,dmT,zcb]) hl (zgV _ _) hK
theorem zyz {A P Q:Prop} (a:A) (h:Q) (e:A->Hd Q->P:=by intro a h;(repeat' first|simp -dsimp only [↓zeU, ↓zaA, ↓zbp, ↓zeV, ↓zeO, ↓zeM, ↓zeP, ↓zeN, ↓zbu, ↓zbq, ↓zbv, ↓zbr, ↓zeQ, ↓zbo, ↓zbw, ↓zbs, ↓zbx, ↓zbt, ↓zeL, ↓zeT, ↓zbn, ↓zby, ↓zeG, ↓zeF, ↓zeK,iN,bT,bF,eN, ↓zco, ↓unC, ↓zX, ↓zM, ↓zN, ↓zQ, ↓zZ, ↓zai, ↓zcv, ↓zaf, ↓zaS, ↓zV, ↓zl, ↓zm, ↓zbg, ↓ze, ↓zae, ↓zC, ↓zaM, ↓zaT, ↓zd, ↓zA, ↓zr, ↓zD, ↓zao, ↓zcY, ↓zdn, ↓zap, ↓zaw, ↓zaN, ↓zaZ, ↓zbk, ↓zw, ↓zaj, ↓zO, ↓zE, ↓zY,zdr,zbm,zbl,unA,zdo,bnd,zdL,zab,zS,zdI,dm,dm1,zG,zak,zdZ,zdY,zH,Q0,Q1,Q2,Q3,Q4,Q5,zW,zx,zy,zT,zL,Q6,Q7,Q8,Q9,Q10,Q11,Q12,Q13,Q14,Nat.reduceAdd,Q15,Int.reduceToNat,Q16,Q17,Q18,Q19,Q20,reduceIte,Q21,Q22,zF,rep,zaa,zeC,toD,zag,Q23,Q24,Q25,Q26,Q27,Q28,Nat.reduceLeDiff,Q29,Nat.reduceSub,Q30,Q31,Q32,sc,Q33,Q34,Q35,Q36,Q37,Q26,Q38,Q39,zis,zio,zil,zit,zcN,ziq,zim,zir,zin,zcM,zcO,ziu,ziv,Bool.not_true,Bool.not_false,List.length_map,Bool.and_false,Bool.and_self,Bool.false_and,Bool.not_false,Bool.not_true,Bool.true_and,Int.toNat_natCast,Int.toNat_zero,List.drop_zero,List.length_map,List.length_nil,List.nil_append,List.take_length,Nat.sub_zero,Nat.zero_add,Option.isSome_none,Option.isSome_some,Option.map_none,Option.map_some,zav,beq_self_eq_true,bft,bne_self_eq_false,btf,a]|with_reducible refine zix ?_|fail);exact h.go):P:=e a ⟨h⟩
theorem c_askCert {σ:List zh} {id:Nat} {e:Int} {c:zeX} (hσ : σ[id]? = some (zgW e)) (hl0:c.signs.length<=1073741824) {K:KT} (hK:K (.tup []) (σ.set id (zgW (ziT e (zbz (zep c)))))) :
  zp Tryz.prog zcj [.box id 0,ziw c] σ K:=by
 refine zeW zoO fun hl => ?_
 have hlen:(zaI c.signs).length=c.signs.length:=List.length_map ..
 simp only [ziQ,iN,bT,bF,eN,ziw]
 have hB:∀ X,(σ.set id X++[zh.box [AV.d (D.int .i64 c.seq),AV.d (D.int .i64 c.dig),AV.d (D.slice (zaI c.signs))]])[σ.length]? = some (zh.box [AV.d (D.int .i64 c.seq),AV.d (D.int .i64 c.dig),AV.d (D.slice (zaI c.signs))]):=fun X=>by
  rw [List.getElem?_append_right (by simp)];simp
 have hS:∀ E τ,(σ.set id (zgW E) ++ τ)[id]? = some (zgW E):=fun E τ=>zf (zbJ hσ)
 have hP:∀ E Y τ,(σ.set id (zgW E) ++ τ).set id Y = σ.set id Y ++ τ:=fun E Y τ=>by rw [zcg (zbJ hσ),List.set_set]
 have e4:ziT e (zbz (zep c))=ziT (ziT (ziT (ziT e (zgm c.seq)) (zgm c.dig)) (zeo c)) (zbz (zfo c.signs)):=by
  simp only [zep,zbz,ziT]
  by_cases h0:e=0
  ·by_cases h1:zgm c.seq=0
   ·by_cases h2:zgm c.dig=0
    ·by_cases h3:zeo c=0
     ·simp [h0,h1,h2,h3]
     ·simp [h0,h1,h2,h3]
    ·simp [h0,h1,h2]
   ·simp [h0,h1]
  ·simp [h0]
 rw [e4] at hK
 refine zdS ?_
 refine zmt (zf hσ) ?_
 rw [zcg hσ]
 refine zaQ hB ?_
 refine zmt (hS _ _) ?_
 rw [hP]
 obtain ⟨E,hE⟩:∃ E,ziT (ziT e (zgm c.seq)) (zgm c.dig)=E:=⟨_,rfl⟩
 rw [hE] at hK ⊢
 have tail:∀ M,M=zeo c->zp Tryz.prog zcc [.box id 0,.d (.slice (zaI c.signs))] (σ.set id (zgW (ziT E M))++[zh.box [AV.d (D.int .i64 c.seq),AV.d (D.int .i64 c.dig),AV.d (D.slice (zaI c.signs))]]) fun _ s=>AW.Ends σ.length K (some []) s:=fun M hM=>by
  subst hM
  refine c_askSigns (hS _ _) hl0 ?_
  rw [hP]
  exact zjh (by simp [zcJ,dmT,zcb]) hl (zgV _ _) hK
 have no:zeo c=100->zp Tryz.prog zat [.box id 0,.d (.int .i64 100)] (σ.set id (zgW E)++[zh.box [AV.d (D.int .i64 c.seq),AV.d (D.int .i64 c.dig),AV.d (D.slice (zaI c.signs))]]) fun _ s=>fl 2 (.box σ.length 0) s fun g s=>cA Tryz.prog zcc [.box id 0,g] s fun _ s=>AW.Ends σ.length K (some []) s:=fun h=>by
  refine c_says (hS _ _) ?_
  rw [hP]
  refine zaQ hB ?_
  exact tail 100 h.symm
 have yes:zeo c=0->zp Tryz.prog zcc [.box id 0,.d (.slice (zaI c.signs))] (σ.set id (zgW E)++[zh.box [AV.d (D.int .i64 c.seq),AV.d (D.int .i64 c.dig),AV.d (D.slice (zaI c.signs))]]) fun _ s=>AW.Ends σ.length K (some []) s:=fun h=>by
  have:=tail 0 h.symm
  rw [thn_0] at this
  exact this
 cases h1:(c.seq==0)
 ·cases h2:(c.dig==0)
  ·refine zyz (zP hB (zP h1 h2)) ?_
   exact yes (by simp at h1 h2;simp [zeo,h1,h2])
  ·refine zyz (zP hB (zP h1 h2)) ?_
   exact no (by simp at h1 h2;simp [zeo,h1,h2])
 ·cases h2:(c.dig==0)
  ·refine zyz (zP hB (zP h1 h2)) ?_
   exact no (by simp at h1 h2;simp [zeo,h1,h2])
  ·cases h3:decide ((c.signs.length:Int) > 0)
   ·refine zyz (zP hB (zP h1 (zP h2 (zP hlen h3)))) ?_
    exact yes (by simp at h1 h2 h3;simp [zeo,h1,h2,h3])
   ·refine zyz (zP hB (zP h1 (zP h2 (zP hlen h3)))) ?_
    exact no (by simp only [beq_iff_eq,decide_eq_true_eq] at h1 h2 h3;rw [zeo,if_pos (.inr ⟨h1,by omega⟩)])
end Go.Proofs.YtfgbofkdhfjegaaGreat

/- The proof of a record in blocks. No program in sight. -/
namespace Go.AW
structure zbL where
 header:zdl
 batch:List zt
 placed:List zbi
abbrev ziE (b:zbL):List D := [.int .i64 b.header.seq,.int .i64 b.header.prev,.int .i64 b.header.batch,.int .i64 b.header.root,.int .i64 b.header.state,.slice (zda b.batch),.slice (zaH b.placed)]
abbrev zcd (l:List zbL):List (List D):=l.map ziE
def isP (t:List UInt8) (o:Int) (p:zbi):Bool:=(p.topic==t)&&(p.offset==o)
def plAt (t:List UInt8) (o:Int):List zbi->Nat->Option Nat
 | [],_=>none
 | p::r,i=>if isP t o p=true then some i else plAt t o r (i+1)
def zpL (t:List UInt8) (o:Int):List zbL->Nat->Option (Nat × Nat)
 | [],_=>none
 | b::r,i=>match plAt t o b.placed 0 with
  | some k=>some (i,k)
  | none=>zpL t o r (i+1)
def stepS (q:Option Int) (y:Int):Bool:=match q with
 | none=>true
 | some x=>IntKind.i64.wrap (x+1)==y
def runF (seq:Int):Option Int->List zbL->Option (List zdl)
 | _,[]=>none
 | q,b::r=>if stepS q b.header.seq=false then none else if b.header.seq=seq then some [b.header] else (runF seq (some b.header.seq) r).map (b.header::·)
def zwe:zbW:=⟨[], 0,[],[], 0, 0,[],⟨0, 0,[]⟩⟩
def ziZ (L:List (List UInt8)) (l:List zbL) (c:zeX) (t:List UInt8) (o:Int):Int × zbW × List (List UInt8):=
 match zpL t o l 0 with
 | none=>(4,zwe,L)
 | some (i,k)=>match runF c.seq none (l.drop i) with
  | none=>(7,zwe,L)
  | some hs=>
   let b:=l.getD i ⟨⟨0, 0, 0, 0, 0⟩,[],[]⟩
   let p:=zbA b.placed.length L k (b.placed.map zaL)
   (0,⟨t,o,(b.placed.getD k ⟨[], 0,[]⟩).rec_,hs,k,b.placed.length,p.1,c⟩,p.2)
theorem plAt_lt {t:List UInt8} {o:Int}:∀ {l:List zbi} {i k:Nat},plAt t o l i=some k->i<=k/\k<i+l.length
 | [],_,_,h=>by simp [plAt] at h
 | p::r,i,k,h=>by
  simp only [plAt] at h
  split at h
  ·cases h;simp
  ·have:=plAt_lt h;simp;omega
theorem zyC {t:List UInt8} {o:Int}:∀ {l:List zbL} {j i k:Nat},zpL t o l j=some (i,k)->∃ n b,i=j+n/\l[n]? = some b/\k<b.placed.length
 | [],_,_,_,h=>by simp [zpL] at h
 | b::r,j,i,k,h=>by
  simp only [zpL] at h
  split at h
  ·rename_i k' hk
   simp only [Option.some.injEq,Prod.mk.injEq] at h
   obtain ⟨rfl,rfl⟩:=h
   exact ⟨0,b,rfl,rfl,by have:=plAt_lt hk;omega⟩
  ·obtain ⟨n,b',h1,h2,h3⟩:=zyC h
   exact ⟨n+1,b',by omega,by simpa using h2,h3⟩
theorem plAt_step {t:List UInt8} {o:Int} {l:List zbi} {k:Nat} {p:zbi} (h:l[k]? = some p):plAt t o (l.drop k) k=if isP t o p=true then some k else plAt t o (l.drop (k+1)) (k+1):=by
 have hk:k<l.length:=(List.getElem?_eq_some_iff.1 h).1
 rw [List.drop_eq_getElem_cons hk,(List.getElem?_eq_some_iff.1 h).2]
 rfl
theorem findB_step {t:List UInt8} {o:Int} {l:List zbL} {k:Nat} {b:zbL} (h:l[k]? = some b):zpL t o (l.drop k) k=match plAt t o b.placed 0 with
  | some j=>some (k,j)
  | none=>zpL t o (l.drop (k+1)) (k+1):=by
 have hk:k<l.length:=(List.getElem?_eq_some_iff.1 h).1
 rw [List.drop_eq_getElem_cons hk,(List.getElem?_eq_some_iff.1 h).2]
 rfl
theorem runF_step {seq:Int} {q:Option Int} {l:List zbL} {k:Nat} {b:zbL} (h:l[k]? = some b):runF seq q (l.drop k)=if stepS q b.header.seq=false then none else if b.header.seq=seq then some [b.header] else (runF seq (some b.header.seq) (l.drop (k+1))).map (b.header::·):=by
 have hk:k<l.length:=(List.getElem?_eq_some_iff.1 h).1
 rw [List.drop_eq_getElem_cons hk,(List.getElem?_eq_some_iff.1 h).2]
 rfl
theorem runF_len {seq:Int}:∀ {l:List zbL} {q:Option Int} {hs:List zdl},runF seq q l=some hs->hs.length<=l.length
 | [],_,_,h=>by simp [runF] at h
 | b::r,q,hs,h=>by
  simp only [runF] at h
  split at h
  ·cases h
  ·split at h
   ·cases h;simp
   ·simp only [Option.map_eq_some_iff] at h
    obtain ⟨a,ha,rfl⟩:=h
    have:=runF_len ha
    simp;omega
end Go.AW

/- Contracts: the proof of a record: where it stands, which headers lead to the certificate; on both sides. -/
set_option maxRecDepth 100000
namespace Go.Proofs.YtfgbofkdhfjegaaGreat
open Go.AW
structure zuk (b:zbL):Prop where
 seq:zjT b.header.seq
 len:b.placed.length<=1048576
 each:∀ p∈b.placed,zng p
def znP (l:List zbL):Nat->Option Int
 | 0=>none
 | k+1=>(l[k]?).map fun b=>b.header.seq
end Go.Proofs.YtfgbofkdhfjegaaGreat

/- Requests that wait: of each client at most one. No program in sight. -/
namespace Go.AW
abbrev PQ:=List (Option zt)
structure zjb (q:PQ):Prop where
 len:q.length=8
 at_:∀ (i:Nat) x,q[i]? = some (some x)->x.client=i/\zad [x]=0/\okO x.op
def zfd (q:PQ):List zt:=q.filterMap id
def ofF (q:PQ) (c:Int):Option zt:=if 0<=c/\c<8 then (q[c.toNat]?).join else none
def mayPut:Option zt->Int->Bool
 | some y,t=>decide (y.time<t)
 | none,_=>true
def mayDone:Option zt->Int->Bool
 | some y,t=>decide (y.time<=t)
 | none,_=>false
def canPut (q:PQ) (x:zt):Bool:=decide (zad [x]=0)&&mayPut (ofF q x.client) x.time
def putQ (q:PQ) (x:zt):PQ:=if canPut q x=true then q.set x.client.toNat (some x) else q
def canDone (q:PQ) (c t:Int):Bool:=mayDone (ofF q c) t
def doneQ (q:PQ) (c t:Int):PQ:=if canDone q c t=true then q.set c.toNat none else q
theorem one_ok {x:zt} (h:zad [x]=0):0<=x.client/\x.client<8/\1<=x.time/\x.time<=9007199254740992/\zbG zex x.op=0/\zaF x=0/\zah x.key x.dig=0:=by
 simp only [zad,List.length_singleton,znE,errF] at h
 have h1:¬ (1 > 4):=by omega
 rw [if_neg h1] at h
 by_cases hr:zaF x=0
 ·by_cases hs:zah x.key x.dig=0
  ·unfold zaF at hr
   split at hr
   ·cases hr
   ·rename_i hc
    have hr':zaF x=0:=by unfold zaF;rw [if_neg hc];exact hr
    exact ⟨by omega,by omega,by omega,by omega,hr,hr',hs⟩
  ·exfalso
   simp [hr,hs] at h
 ·exfalso
  simp [hr] at h
theorem ofF_some {q:PQ} {c:Int} {x:zt} (h:ofF q c=some x):0<=c/\c<8/\q[c.toNat]? = some (some x):=by
 unfold ofF at h
 split at h
 ·rename_i hc
  refine ⟨hc.1,hc.2,?_⟩
  cases hq:q[c.toNat]? with
  | none=>rw [hq] at h;cases h
  | some o=>rw [hq] at h;simp at h;rw [h]
 ·cases h
theorem zjb.get {q:PQ} (hq:zjb q) {c:Int} (h0:0<=c) (h8:c<8):q[c.toNat]? = some (ofF q c):=by
 have hl:=hq.len
 have:q[c.toNat]? = some (q[c.toNat]'(by omega)):=List.getElem?_eq_getElem _
 unfold ofF
 rw [if_pos ⟨h0,h8⟩,this]
 rfl
theorem zjb.put {q:PQ} (hq:zjb q) {x:zt} (hx:okO x.op):zjb (putQ q x):=by
 unfold putQ
 split
 ·rename_i hc
  simp only [canPut,Bool.and_eq_true,decide_eq_true_eq] at hc
  obtain ⟨h0,h8,_⟩:=one_ok hc.1
  refine ⟨by simp [hq.len],fun i y h => ?_⟩
  rw [List.getElem?_set] at h
  split at h
  ·rename_i e
   split at h
   ·simp at h;subst h
    exact ⟨by omega,hc.1,hx⟩
   ·cases h
  ·exact hq.at_ i y h
 ·exact hq
theorem zjb.done {q:PQ} (hq:zjb q) {c t:Int}:zjb (doneQ q c t):=by
 unfold doneQ
 split
 ·refine ⟨by simp [hq.len],fun i y h => ?_⟩
  rw [List.getElem?_set] at h
  split at h
  ·split at h
   ·simp at h
   ·cases h
  ·exact hq.at_ i y h
 ·exact hq
theorem zqk {q:PQ} {x:zt} (h:x∈zfd q):∃ i:Nat,q[i]? = some (some x):=by
 simp only [zfd,List.mem_filterMap,id_eq,exists_eq_right] at h
 exact List.mem_iff_getElem?.1 h
end Go.AW

/- Contracts: a pool: made, asked, put into, done. -/
set_option maxRecDepth 100000
namespace Go.Proofs.YtfgbofkdhfjegaaGreat
open Go.AW
def digE (L:List (List UInt8)) (l:List zt):Int:=if zad l≠0 then zad l else if zdX L (zlp l)=0 then 6 else 0
def digD (L:List (List UInt8)) (l:List zt):Int:=if zad l≠0 then 0 else zdX L (zlp l)
def zmm (L:List (List UInt8)) (l:List zt):List (List UInt8):=if zad l≠0 then L else zfD L (zlp l)
end Go.Proofs.YtfgbofkdhfjegaaGreat
