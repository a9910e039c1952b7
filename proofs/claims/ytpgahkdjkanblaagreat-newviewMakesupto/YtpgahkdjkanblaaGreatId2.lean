/- Contracts: the program's tables and ledgers. -/
import Derived.Test.YtpgahkdjkanblaaGreatWr4
set_option linter.all false
set_option maxRecDepth 100000
namespace Go.Proofs.YtpgahkdjkanblaaGreat
open Go.AW
theorem zxB {P Q:Prop} (h:Q) (e:Hd Q->P:=by intro h;(repeat' first | simp -dsimp only [↓zeN, ↓zav, ↓zbq, ↓zeO, ↓zeH, ↓zeF, ↓zeI, ↓zeG, ↓zbv, ↓zbr, ↓zbw, ↓zbs, ↓zeJ, ↓zbp, ↓zbx, ↓zbt, ↓zby, ↓zbu, ↓zeE, ↓zeM, ↓zbo, ↓zbz, ↓zeC, ↓zeB, ↓zeD,iN,bT,bF,eN, ↓zcB, ↓unC, ↓zV, ↓zM, ↓zN, ↓zQ, ↓zY, ↓zal, ↓zdb, ↓zak, ↓zaH, ↓zT, ↓zf, ↓zj, ↓zbZ, ↓zb, ↓zag, ↓zE, ↓zaI, ↓zaO, ↓zc, ↓zy, ↓zl, ↓zG, ↓zaa, ↓zdm, ↓zdw, ↓zaj, ↓zar, ↓zaK, ↓zaS, ↓zaY, ↓zq, ↓zai, ↓zO, ↓zu, ↓zX,zdx,zbg,zbb,unA,zdd,bnd,zdY,zaf,zP,zdR,dm,dm1,zA,zae,zeh,zeg,zI,Q0,Q1,Q2,Q3,Q4,Q5,zZ,zC,zt,zL,zF,Q6,Q7,Q8,Q9,Q10,Q11,Q12,Q13,Q14,Nat.reduceAdd,Q15,Int.reduceToNat,Q16,Q17,Q18,Q19,Q20,reduceIte,Q21,Q22,zH,rep,zac,zel,toD,zah,Q23,Q24,Q25,Q26,Q27,Q28,Nat.reduceLeDiff,Q29,Nat.reduceSub,Q30,Q31,Q32,sc,Q33,Q34,Q35,Q36,Q37,Q26,Q38,Q39,zoy,zov,zos,zoz,zfG,zow,zot,zox,zou,zfF,zfH,zoB,zoC,Bool.not_true,Bool.not_false,List.length_map] | with_reducible refine zoE ?_ | fail);exact h.go):P:=e ⟨h⟩
theorem zyZ {σ:List zh} {K:KT} (hK:K (.box (σ.length+1) 0) (σ++zvt σ.length [])):zo Tryz.prog zjp [] σ K:=by
 refine zo.weaken ?_
 refine zce znO.is rfl (fun s=>List.range' σ.length 2) fun hl _=>znO.goes ?_
 simp only [zok,iN,bT,bF,eN]
 refine zxB ?_
 refine zes (σ' := σ) (os := [.map [],.box [.exact [],.map σ.length]]) rfl rfl hl ?_ (.box _ _ (by simp)) ?_
 ·intro x hx
  simp only [List.mem_cons,List.not_mem_nil,or_false] at hx
  rcases hx with rfl | rfl
  ·intro e he;cases he
  ·intro c hc
   simp only [List.mem_cons,List.not_mem_nil,or_false] at hc
   rcases hc with rfl | rfl
   ·exact .exact _
   ·exact .map _ (by simp)
 ·refine ⟨.box (σ.length+1) 0, σ++zvt σ.length [],?_,hK⟩
  refine .tokB (σ.length+1) 0 [.exact [],.map σ.length] [] 1 (by rw [zC];rfl) rfl (by simp) ?_
  have e:(σ++[zh.map [],zh.box [AV.exact [],AV.map σ.length]]).set (σ.length+1) (.box ([AV.exact [],AV.map σ.length].set 0 (.own (σ++[zh.map [],zh.box [AV.exact [],AV.map σ.length]]).length [])))++[.tok 1 0] = σ++zvt σ.length []:=by
   rw [zL];simp [zvt];rfl
  rw [List.length_nil,e]
  exact .refl _ _
theorem zrG {σ:List zh} {K:KT} (hK:K (.box (σ.length+1) 0) (σ++ledO σ.length [])):zo Tryz.prog zgk [] σ K:=by
 refine zo.weaken ?_
 refine zce zmw.is rfl (fun s=>List.range' σ.length 2) fun hl _=>zmw.goes ?_
 simp only [zmM,iN,bT,bF,eN]
 refine zxB ?_
 refine zes (σ' := σ) (os := [.map [],.box [.exact [],.map σ.length]]) rfl rfl hl ?_ (.box _ _ (by simp)) ?_
 ·intro x hx
  simp only [List.mem_cons,List.not_mem_nil,or_false] at hx
  rcases hx with rfl | rfl
  ·intro e he;cases he
  ·intro c hc
   simp only [List.mem_cons,List.not_mem_nil,or_false] at hc
   rcases hc with rfl | rfl
   ·exact .exact _
   ·exact .map _ (by simp)
 ·refine ⟨.box (σ.length+1) 0, σ++ledO σ.length [],?_,hK⟩
  refine .tokB (σ.length+1) 0 [.exact [],.map σ.length] [] 2 (by rw [zC];rfl) rfl (by simp) ?_
  have e:(σ++[zh.map [],zh.box [AV.exact [],AV.map σ.length]]).set (σ.length+1) (.box ([AV.exact [],AV.map σ.length].set 0 (.own (σ++[zh.map [],zh.box [AV.exact [],AV.map σ.length]]).length [])))++[.tok 2 0] = σ++ledO σ.length []:=by
   rw [zL];simp [ledO];rfl
  rw [List.length_nil,e]
  exact .refl _ _
theorem zjv {A P Q:Prop} (a:A) (h:Q) (e:A->Hd Q->P:=by intro a h;(repeat' first | simp -dsimp only [↓zeN, ↓zav, ↓zbq, ↓zeO, ↓zeH, ↓zeF, ↓zeI, ↓zeG, ↓zbv, ↓zbr, ↓zbw, ↓zbs, ↓zeJ, ↓zbp, ↓zbx, ↓zbt, ↓zby, ↓zbu, ↓zeE, ↓zeM, ↓zbo, ↓zbz, ↓zeC, ↓zeB, ↓zeD,iN,bT,bF,eN, ↓zcB, ↓unC, ↓zV, ↓zM, ↓zN, ↓zQ, ↓zY, ↓zal, ↓zdb, ↓zak, ↓zaH, ↓zT, ↓zf, ↓zj, ↓zbZ, ↓zb, ↓zag, ↓zE, ↓zaI, ↓zaO, ↓zc, ↓zy, ↓zl, ↓zG, ↓zaa, ↓zdm, ↓zdw, ↓zaj, ↓zar, ↓zaK, ↓zaS, ↓zaY, ↓zq, ↓zai, ↓zO, ↓zu, ↓zX,zdx,zbg,zbb,unA,zdd,bnd,zdY,zaf,zP,zdR,dm,dm1,zA,zae,zeh,zeg,zI,Q0,Q1,Q2,Q3,Q4,Q5,zZ,zC,zt,zL,zF,Q6,Q7,Q8,Q9,Q10,Q11,Q12,Q13,Q14,Nat.reduceAdd,Q15,Int.reduceToNat,Q16,Q17,Q18,Q19,Q20,reduceIte,Q21,Q22,zH,rep,zac,zel,toD,zah,Q23,Q24,Q25,Q26,Q27,Q28,Nat.reduceLeDiff,Q29,Nat.reduceSub,Q30,Q31,Q32,sc,Q33,Q34,Q35,Q36,Q37,Q26,Q38,Q39,zoy,zov,zos,zoz,zfG,zow,zot,zox,zou,zfF,zfH,zoB,zoC,Bool.not_true,Bool.not_false,List.length_map,a] | with_reducible refine zoE ?_ | fail);exact h.go):P:=e a ⟨h⟩
theorem zAf {σ:List zh} {id m t:Nat} {l:List (List UInt8)} (hT:zeS σ id m t l) {K:KT} (hK:K (.d (.bool false)) σ):zo Tryz.prog zdo [.box id 0] σ K:=by
 refine zd zlx.is rfl fun hl _=>zlx.goes ?_
 have hb:=hT.box
 simp only [zlL,iN,bT,bF,eN]
 refine zjv hb ?_
 refine zw hl ?_
 exact hK
theorem zAo {σ:List zh} {id m t:Nat} {g:List zK} (hG:zev σ id m t g) {K:KT} (hK:K (.d (.bool false)) σ):zo Tryz.prog zcW [.box id 0] σ K:=by
 refine zd zkG.is rfl fun hl _=>zkG.goes ?_
 have hb:=hG.box
 simp only [zkY,iN,bT,bF,eN]
 refine zjv hb ?_
 refine zw hl ?_
 exact hK
theorem zct {A B:Prop} (a:A) (b:B):A/\B:=⟨a,b⟩
theorem gq70 {A P Q:Prop} (a:A) (h:Q) (e:A->Hd Q->P:=by intro a h;(repeat' first | simp -dsimp only [↓zeN, ↓zav, ↓zbq, ↓zeO, ↓zeH, ↓zeF, ↓zeI, ↓zeG, ↓zbv, ↓zbr, ↓zbw, ↓zbs, ↓zeJ, ↓zbp, ↓zbx, ↓zbt, ↓zby, ↓zbu, ↓zeE, ↓zeM, ↓zbo, ↓zbz, ↓zeC, ↓zeB, ↓zeD,iN,bT,bF,eN, ↓zcB, ↓unC, ↓zV, ↓zM, ↓zN, ↓zQ, ↓zY, ↓zal, ↓zdb, ↓zak, ↓zaH, ↓zT, ↓zf, ↓zj, ↓zbZ, ↓zb, ↓zag, ↓zE, ↓zaI, ↓zaO, ↓zc, ↓zy, ↓zl, ↓zG, ↓zaa, ↓zdm, ↓zdw, ↓zaj, ↓zar, ↓zaK, ↓zaS, ↓zaY, ↓zq, ↓zai, ↓zO, ↓zu, ↓zX,zdx,zbg,zbb,unA,zdd,bnd,zdY,zaf,zP,zdR,dm,dm1,zA,zae,zeh,zeg,zI,Q0,Q1,Q2,Q3,Q4,Q5,zZ,zC,zt,zL,zF,Q6,Q7,Q8,Q9,Q10,Q11,Q12,Q13,Q14,Nat.reduceAdd,Q15,Int.reduceToNat,Q16,Q17,Q18,Q19,Q20,reduceIte,Q21,Q22,zH,rep,zac,zel,toD,zah,Q23,Q24,Q25,Q26,Q27,Q28,Nat.reduceLeDiff,Q29,Nat.reduceSub,Q30,Q31,Q32,sc,Q33,Q34,Q35,Q36,Q37,Q26,Q38,Q39,zoy,zov,zos,zoz,zfG,zow,zot,zox,zou,zfF,zfH,zoB,zoC,Bool.not_true,Bool.not_false,List.length_map,zgM,zfb,zdX,zga,zaK,zzQ,zaS,a] | with_reducible refine zoE ?_ | fail);exact h.go):P:=e a ⟨h⟩
theorem zwE {σ:List zh} {id m t:Nat} {l:List (List UInt8)} {b:List UInt8} (hT:zeS σ id m t l) {K:KT} (hK:K (.tup [.d (.int .i64 (zvG (zfI l b))),.d (.bool (zfI l b).isSome)]) σ) :
  zo Tryz.prog zdp [.box id 0,.d (.slice (bcs b))] σ K:=by
 refine zd zly.is rfl fun hl _=>zly.goes ?_
 have hb:=hT.box
 have hm:=hT.map
 have hf:=mfind_tab l b
 simp only [zlM,iN,bT,bF,eN]
 refine zxB ?_
 refine zAf hT ?_
 cases ho:zfI l b with
 | none =>
  rw [ho] at hf hK
  simp only [Option.map_none] at hf
  refine gq70 (zct hb (zct hm hf)) ?_
  refine zw hl ?_
  exact hK
 | some k =>
  rw [ho] at hf hK
  simp only [Option.map_some] at hf
  refine gq70 (zct hb (zct hm hf)) ?_
  refine zw hl ?_
  exact hK
theorem c_tLen {σ:List zh} {id m t:Nat} {l:List (List UInt8)} (hT:zeS σ id m t l) {K:KT} (hK:K (.d (.int .i64 l.length)) σ):zo Tryz.prog zgj [.box id 0] σ K:=by
 refine zd zmv.is rfl fun hl _=>zmv.goes ?_
 have hb:=hT.box
 simp only [zmL,iN,bT,bF,eN]
 refine zxB ?_
 refine zAf hT ?_
 refine zjv hb ?_
 refine zw hl ?_
 exact hK
theorem c_gLen {σ:List zh} {id m t:Nat} {g:List zK} (hG:zev σ id m t g) {K:KT} (hK:K (.d (.int .i64 g.length)) σ):zo Tryz.prog zho [.box id 0] σ K:=by
 refine zd zlz.is rfl fun hl _=>zlz.goes ?_
 have hb:=hG.box
 simp only [zlN,iN,bT,bF,eN]
 refine zxB ?_
 refine zAo hG ?_
 refine zjv hb ?_
 refine zw hl ?_
 exact hK
theorem c_gSigned {σ:List zh} {id m t:Nat} {g:List zK} {s:zK} (hG:zev σ id m t g) {K:KT} (hK:K (.d (.bool (decide (s ∈ g)))) σ) :
  zo Tryz.prog zep [.box id 0,.agg [.d (.int .i64 s.key),.d (.int .i64 s.dig)]] σ K:=by
 refine zd ziW.is rfl fun hl _=>ziW.goes ?_
 have hb:∀ τ,(σ ++ τ)[id]? = _:=fun τ=>zx hG.box
 have hm:∀ τ,(σ ++ τ)[m]? = _:=fun τ=>zx hG.map
 simp only [zjd,iN,bT,bF,eN]
 refine zxB ?_
 refine zAo (hG.app _) ?_
 by_cases hs:s ∈ g
 ·obtain ⟨k,hf⟩:=zse hs
  rw [decide_eq_true hs] at hK
  refine gq70 (zct hb (zct hm hf)) ?_
  refine zw hl ?_
  exact hK
 ·have hf:=zun hs
  rw [decide_eq_false hs] at hK
  refine gq70 (zct hb (zct hm hf)) ?_
  refine zw hl ?_
  exact hK
theorem gq71 {A P Q:Prop} (a:A) (h:Q) (e:A->Hd Q->P:=by intro a h;(repeat' first | simp -dsimp only [↓zeN, ↓zav, ↓zbq, ↓zeO, ↓zeH, ↓zeF, ↓zeI, ↓zeG, ↓zbv, ↓zbr, ↓zbw, ↓zbs, ↓zeJ, ↓zbp, ↓zbx, ↓zbt, ↓zby, ↓zbu, ↓zeE, ↓zeM, ↓zbo, ↓zbz, ↓zeC, ↓zeB, ↓zeD,iN,bT,bF,eN, ↓zcB, ↓unC, ↓zV, ↓zM, ↓zN, ↓zQ, ↓zY, ↓zal, ↓zdb, ↓zak, ↓zaH, ↓zT, ↓zf, ↓zj, ↓zbZ, ↓zb, ↓zag, ↓zE, ↓zaI, ↓zaO, ↓zc, ↓zy, ↓zl, ↓zG, ↓zaa, ↓zdm, ↓zdw, ↓zaj, ↓zar, ↓zaK, ↓zaS, ↓zaY, ↓zq, ↓zai, ↓zO, ↓zu, ↓zX,zdx,zbg,zbb,unA,zdd,bnd,zdY,zaf,zP,zdR,dm,dm1,zA,zae,zeh,zeg,zI,Q0,Q1,Q2,Q3,Q4,Q5,zZ,zC,zt,zL,zF,Q6,Q7,Q8,Q9,Q10,Q11,Q12,Q13,Q14,Nat.reduceAdd,Q15,Int.reduceToNat,Q16,Q17,Q18,Q19,Q20,reduceIte,Q21,Q22,zH,rep,zac,zel,toD,zah,Q23,Q24,Q25,Q26,Q27,Q28,Nat.reduceLeDiff,Q29,Nat.reduceSub,Q30,Q31,Q32,sc,Q33,Q34,Q35,Q36,Q37,Q26,Q38,Q39,zoy,zov,zos,zoz,zfG,zow,zot,zox,zou,zfF,zfH,zoB,zoC,Bool.not_true,Bool.not_false,List.length_map,zek,zgM,zga,zaS,a] | with_reducible refine zoE ?_ | fail);exact h.go):P:=e a ⟨h⟩
theorem c_tSum {σ:List zh} {id m t:Nat} {l:List (List UInt8)} {b:List UInt8} (hT:zeS σ id m t l) (hbl:b.length<=1073741824) (hll:l.length<=1048576) {K:KT}
  (hK:K (.d (.int .i64 (zoJ l b))) (putTab σ id m t (zgz l b))):zo Tryz.prog zeZ [.box id 0,.d (.slice (bcs b))] σ K:=by
 refine zd zmu.is rfl fun hl _=>zmu.goes ?_
 have hb:=hT.box
 have hm:=hT.map
 have ht:=hT.tok
 have hf:=mfind_tab l b
 obtain ⟨n1,n2,n3⟩:=hT.ne
 have hlen:(zjf l).length=l.length:=List.length_map ..
 simp only [zmK,iN,bT,bF,eN]
 refine zxB ?_
 refine zAf hT ?_
 cases ho:zfI l b with
 | some k =>
  rw [ho] at hf
  simp only [zoJ,zgz,ho] at hK
  rw [hT.self] at hK
  simp only [Option.map_some] at hf
  refine gq70 (zct hb (zct hm hf)) ?_
  refine zw hl ?_
  exact hK
 | none =>
  rw [ho] at hf
  simp only [zoJ,zgz,ho] at hK
  simp only [Option.map_none] at hf
  by_cases hfull:l.length ≥ 1048576
  ·rw [if_pos hfull,if_pos hfull,hT.self] at hK
   have hd:decide ((l.length:Int) ≥ 1048576)=true:=by simp;omega
   refine gq70 (zct hb (zct hm (zct hf (zct hlen hd)))) ?_
   refine zw hl ?_
   exact hK
  ·rw [if_neg hfull,if_neg hfull] at hK
   have hd:decide ((l.length:Int) ≥ 1048576)=false:=by simp;omega
   have g1:∀ τ,(σ ++ τ)[id]? = some (.box [.own t (zjf l),.map m]):=fun τ=>zx hb
   have g2:∀ τ,(σ ++ τ)[t]? = some (.tok 1 l.length):=fun τ=>zx ht
   have s1:∀ X τ,(σ ++ τ).set t X = σ.set t X ++ τ:=fun X τ=>zbS ht
   have hb':∀ X,(σ.set t X)[id]? = some (.box [.own t (zjf l),.map m]):=fun X=>by rw [List.getElem?_set_ne (Ne.symm n2)];exact hb
   have g3:∀ X τ,(σ.set t X ++ τ)[id]? = some (.box [.own t (zjf l),.map m]):=fun X τ=>zx (hb' X)
   have s2:∀ X Y τ,(σ.set t X ++ τ).set id Y=(σ.set t X).set id Y ++ τ:=fun X Y τ=>zbS (hb' X)
   have g4:∀ X Y τ,((σ.set t X).set id Y ++ τ)[id]? = some Y:=fun X Y τ=>zx (zcx (hb' X))
   have hm':∀ X Y,((σ.set t X).set id Y)[m]? = some (.map (tabM l)):=fun X Y=>by rw [List.getElem?_set_ne n1,List.getElem?_set_ne (Ne.symm n3)];exact hm
   have g5:∀ X Y τ,((σ.set t X).set id Y ++ τ)[m]? = some (.map (tabM l)):=fun X Y τ=>zx (hm' X Y)
   have s3:∀ X Y Z τ,((σ.set t X).set id Y ++ τ).set m Z=((σ.set t X).set id Y).set m Z ++ τ:=fun X Y Z τ=>zbS (hm' X Y)
   refine gq70 (zct hb (zct hm (zct hf (zct hlen hd)))) ?_
   refine zgm zgs (by rw [zek];omega) ?_
   refine gq71 (zct g1 (zct g2 (zct s1 (zct g3 (zct s2 (zct g4 (zct g5 (zct s3 (zct hf hlen))))))))) ?_
   refine ⟨hb.symm,by simp,by omega,?_⟩
   have e:putTab σ id m t (l++[b])=((σ.set t (zh.tok 1 (l.length+1))).set id (zh.box [AV.own t (zjf l++[[D.slice (bcs b)]]),AV.map m])).set m (zh.map (tabM l++[(AV.d (D.str b),AV.d (D.int IntKind.i64 ((l.length+1:Nat):Int)))])):=by
    simp [putTab,tabM_add,zjf]
    rw [← tabM_add];simp
   rw [← e]
   exact zcE (zqe ..) (by simp [zfO,dmT,dm,dm1,zcO]) (hT.lows hl _) hK
end Go.Proofs.YtpgahkdjkanblaaGreat

/- Contracts: a ledger signs; a table's clone; whether both were made. -/
set_option maxRecDepth 100000
namespace Go.Proofs.YtpgahkdjkanblaaGreat
open Go.AW
def zoq (s:zK):AV := .agg [.d (.int .i64 s.key),.d (.int .i64 s.dig)]
def signR (k d:Int):zK:=if zjh k d=0 then ⟨k,d⟩ else ⟨0, 0⟩
def zjg (g:List zK) (k d:Int):List zK:=if zjh k d=0 then signL g ⟨k,d⟩ else g
theorem c_gSign {σ:List zh} {id m t:Nat} {g:List zK} {k d:Int} (hG:zev σ id m t g) (hgl:g.length<=1073741824) {K:KT}
  (hK:K (.tup [zoq (signR k d),.d (.int .i64 (zjh k d))]) (putLed σ id m t (zjg g k d))):zo Tryz.prog zdW [.box id 0,.d (.int .i64 k),.d (.int .i64 d)] σ K:=by
 refine zd zkH.is rfl fun hl _=>zkH.goes ?_
 have hb:∀ τ,(σ ++ τ)[id]? = some (.box [.own t (zvN g),.map m]):=fun τ=>zx hG.box
 have hm:∀ τ,(σ ++ τ)[m]? = some (.map (ledM g)):=fun τ=>zx hG.map
 obtain ⟨n1,n2,n3⟩:=hG.ne
 have hlen:(zvN g).length=g.length:=List.length_map ..
 have bad:zjh k d ≠ 0->K (.tup [.agg [.d (.int .i64 0),.d (.int .i64 0)],.d (.int .i64 (zjh k d))]) σ:=fun h=>by
  rw [signR,zjg,if_neg h,if_neg h,hG.self] at hK
  exact hK
 simp only [zkZ,iN,bT,bF,eN]
 refine zxB ?_
 refine zAo (hG.app _) ?_
 cases h1:decide (k<0)
 ·cases h2:decide (k ≥ 21)
  ·have hk:¬ (k<0 ∨ k ≥ 21):=by simp at h1 h2;omega
   cases h3:decide (d<1)
   ·have he:zjh k d=0:=by rw [zjh,if_neg hk,if_neg (by simpa using h3)]
    rw [he,signR,zjg,if_pos he,if_pos he] at hK
    by_cases hs:(⟨k,d⟩:zK) ∈ g
    ·obtain ⟨j,hf⟩:=zse hs
     simp only at hf
     rw [signL,if_pos hs,hG.self] at hK
     refine gq70 (zct h1 (zct h2 (zct h3 (zct hb (zct hm hf))))) ?_
     refine zw hl ?_
     exact hK
    ·have hf:=zun hs
     simp only at hf
     rw [signL,if_neg hs] at hK
     have hmm : σ[m]? = some (.map (ledM g)):=hG.map
     have s1:∀ X τ,(σ ++ τ).set m X = σ.set m X ++ τ:=fun X τ=>zbS hG.map
     have hb':∀ X,(σ.set m X)[id]? = some (.box [.own t (zvN g),.map m]):=fun X=>by rw [List.getElem?_set_ne (Ne.symm n1)];exact hG.box
     have ht':∀ X,(σ.set m X)[t]? = some (.tok 2 g.length):=fun X=>by rw [List.getElem?_set_ne n3];exact hG.tok
     have g3:∀ X τ,(σ.set m X ++ τ)[id]? = some (.box [.own t (zvN g),.map m]):=fun X τ=>zx (hb' X)
     have g4:∀ X τ,(σ.set m X ++ τ)[t]? = some (.tok 2 g.length):=fun X τ=>zx (ht' X)
     have s2:∀ X Y τ,(σ.set m X ++ τ).set t Y=(σ.set m X).set t Y ++ τ:=fun X Y τ=>zbS (ht' X)
     have hb2:∀ X Y,((σ.set m X).set t Y)[id]? = some (.box [.own t (zvN g),.map m]):=fun X Y=>by rw [List.getElem?_set_ne (Ne.symm n2)];exact hb' X
     have s3:∀ X Y Z τ,((σ.set m X).set t Y ++ τ).set id Z=((σ.set m X).set t Y).set id Z ++ τ:=fun X Y Z τ=>zbS (hb2 X Y)
     have g5:∀ X Y τ,((σ.set m X).set t Y ++ τ)[id]? = some (.box [.own t (zvN g),.map m]):=fun X Y τ=>zx (hb2 X Y)
     have L1:∀ X:zh, σ.length=(σ.set m X).length:=fun X=>by simp
     have L2:∀ X Y:zh, σ.length=((σ.set m X).set t Y).length:=fun X Y=>by simp
     have L3:∀ X Y Z:zh, σ.length=(((σ.set m X).set t Y).set id Z).length:=fun X Y Z=>by simp
     have e1:∀ X τ n,(σ.set m X ++ τ)[σ.length+n]? = τ[n]?:=fun X τ n=>by rw [L1 X];exact zC ..
     have e2:∀ X Y Z τ n,(((σ.set m X).set t Y).set id Z ++ τ)[σ.length+n]? = τ[n]?:=fun X Y Z τ n=>by rw [L3 X Y Z];exact zC ..
     have e3:∀ X Y Z τ W,(((σ.set m X).set t Y).set id Z ++ τ).set σ.length W=((σ.set m X).set t Y).set id Z ++ τ.set 0 W:=fun X Y Z τ W=>by rw [L3 X Y Z];exact zF ..
     have e4:∀ X Y Z τ,(((σ.set m X).set t Y).set id Z ++ τ)[σ.length]? = τ[0]?:=fun X Y Z τ=>by rw [L3 X Y Z];exact zt ..
     refine gq70 (zct h1 (zct h2 (zct h3 (zct hb (zct hm (zct hf (zct s1 (zct g3 (zct g4 (zct s2 (zct s3 (zct g5 (zct e1 (zct e2 (zct e3 (zct e4 hlen)))))))))))))))) ?_
     have e:putLed σ id m t (g++[⟨k,d⟩])=(((σ.set m (zh.map (ledM g++[(AV.agg [AV.d (D.int IntKind.i64 k),AV.d (D.int IntKind.i64 d)],AV.d (D.bool true))]))).set t (zh.tok 2 (g.length+1))).set id (zh.box [AV.own t (zvN g++[[D.int IntKind.i64 k,D.int IntKind.i64 d]]),AV.map m])):=by
      rw [ledM_add g ⟨k,d⟩]
      simp [putLed,zvN,zgf]
     rw [← e]
     exact zcE (zxV ..) (by simp [zfO,dmT,dm,dm1,zcO,zaU,zdv]) (hG.lows hl _) hK
   ·have he:zjh k d=1:=by rw [zjh,if_neg hk,if_pos (by simpa using h3)]
    have:=bad (by rw [he];decide)
    rw [he] at this
    refine zjv (zct h1 (zct h2 h3)) ?_
    refine zw hl ?_
    exact this
  ·have he:zjh k d=20:=by rw [zjh,if_pos (by simp at h2;omega)]
   have:=bad (by rw [he];decide)
   rw [he] at this
   refine zjv (zct h1 h2) ?_
   refine zw hl ?_
   exact this
 ·have he:zjh k d=20:=by rw [zjh,if_pos (by simp at h1;omega)]
  have:=bad (by rw [he];decide)
  rw [he] at this
  refine zjv h1 ?_
  refine zw hl ?_
  exact this
theorem gq72 {P Q:Prop} (h:Q) (e:Hd Q->P:=by intro h;(repeat' first | simp -dsimp only [↓zeN, ↓zav, ↓zbq, ↓zeO, ↓zeH, ↓zeF, ↓zeI, ↓zeG, ↓zbv, ↓zbr, ↓zbw, ↓zbs, ↓zeJ, ↓zbp, ↓zbx, ↓zbt, ↓zby, ↓zbu, ↓zeE, ↓zeM, ↓zbo, ↓zbz, ↓zeC, ↓zeB, ↓zeD,iN,bT,bF,eN, ↓zcB, ↓unC, ↓zV, ↓zM, ↓zN, ↓zQ, ↓zY, ↓zal, ↓zdb, ↓zak, ↓zaH, ↓zT, ↓zf, ↓zj, ↓zbZ, ↓zb, ↓zag, ↓zE, ↓zaI, ↓zaO, ↓zc, ↓zy, ↓zl, ↓zG, ↓zaa, ↓zdm, ↓zdw, ↓zaj, ↓zar, ↓zaK, ↓zaS, ↓zaY, ↓zq, ↓zai, ↓zO, ↓zu, ↓zX,zdx,zbg,zbb,unA,zdd,bnd,zdY,zaf,zP,zdR,dm,dm1,zA,zae,zeh,zeg,zI,Q0,Q1,Q2,Q3,Q4,Q5,zZ,zC,zt,zL,zF,Q6,Q7,Q8,Q9,Q10,Q11,Q12,Q13,Q14,Nat.reduceAdd,Q15,Int.reduceToNat,Q16,Q17,Q18,Q19,Q20,reduceIte,Q21,Q22,zH,rep,zac,zel,toD,zah,Q23,Q24,Q25,Q26,Q27,Q28,Nat.reduceLeDiff,Q29,Nat.reduceSub,Q30,Q31,Q32,sc,Q33,Q34,Q35,Q36,Q37,Q26,Q38,Q39,zoy,zov,zos,zoz,zfG,zow,zot,zox,zou,zfF,zfH,zoB,zoC,Bool.not_true,Bool.not_false,List.length_map,Bool.and_false,Bool.and_self,Bool.false_and,Bool.true_and,Option.isSome_none,Option.isSome_some,Option.map_none,Option.map_some,beq_self_eq_true,bne_self_eq_false] | with_reducible refine zoE ?_ | fail);exact h.go):P:=e ⟨h⟩
theorem c_From {σ:List zh} {l:List (List UInt8)} (hn:l.Nodup) (hl0:l.length<=1048576) (hb:∀ b ∈ l,b.length<=1073741824) {K:KT}
  (hK:K (.tup [.box (σ.length+1) 0,.d (.int .i64 0)]) (σ++zvt σ.length l)):zo Tryz.prog ziP [.d (.slice (zjf l))] σ K:=by
 refine zce zlA.is rfl (fun s=>List.range' σ.length 3) fun hl _=>zlA.goes ?_
 have hlen:(zjf l).length=l.length:=List.length_map ..
 have hd:decide ((l.length:Int) > 1048576)=false:=by simp;omega
 simp only [zpW,iN,bT,bF,eN]
 refine zjv (zct hlen hd) ?_
 refine zyZ ?_
 refine zxB ?_
 refine zm l.length (fun k vs s=>vs = [.d (.int .i64 k)]/\s = σ++zvt σ.length (l.take k)) ⟨rfl,rfl⟩ ?_
 rintro k vs s hk ⟨rfl,rfl⟩
 by_cases hlt:k<l.length
 ·have hd:decide ((k:Int)<(l.length:Int))=true:=by simp;omega
  have hx:l[k]? = some l[k]:=by simp [hlt]
  have hgx:=zR (f:=fun b => [D.slice (bcs b)]) hx
  have hxb:=hb _ (List.getElem_mem hlt)
  have hnot:l[k] ∉ l.take k:=fun hm=>by
   obtain ⟨i,hi,he⟩:=List.mem_take_iff_getElem.1 hm
   have:=(List.getElem_inj hn).1 he
   omega
  obtain ⟨x,hxe⟩:∃ x,l[k]=x:=⟨_,rfl⟩
  rw [hxe] at hx hgx hxb hnot
  have hno:=ztH hnot
  have hT:zeS (σ++zvt σ.length (l.take k)) (σ.length+1) σ.length (σ.length+2) (l.take k):=by simpa using tabAt_new σ (l.take k) []
  have hP:∀ l',putTab (σ++zvt σ.length (l.take k)) (σ.length+1) σ.length (σ.length+2) l' = σ++zvt σ.length l':=fun l'=>by simpa using zxU σ (l.take k) l' []
  refine zjv (zct hlen (zct hd hgx)) ?_
  refine zwE hT ?_
  rw [hno]
  refine gq72 ?_
  refine c_tSum hT hxb (by rw [List.length_take];omega) ?_
  rw [hP]
  have e:zgz (l.take k) x=l.take (k+1):=by
   have h1:(l.take k).length=k:=by rw [List.length_take];omega
   rw [zgz,hno]
   simp only [h1]
   rw [if_neg (by omega),List.take_add_one,hx];rfl
  rw [e]
  have hw:IntKind.i64.wrap ((k:Int)+1)=((k+1:Nat):Int):=by rw [zas (by omega) (by omega)];rfl
  refine zjv hw ?_
  exact zaz.next hlt ⟨rfl,rfl⟩
 ·have hd:decide ((k:Int)<(l.length:Int))=false:=by simp;omega
  rw [List.take_of_length_le (by omega)]
  refine zjv (zct hlen hd) ?_
  refine zes (σ' := σ) (os:=zvt σ.length l) rfl rfl hl (low_tabO _ _) ?_ hK
  exact .tup _ (by simp [zfO];exact .box _ _ (by simp))
theorem zsE {σ:List zh} {id m t:Nat} {l:List (List UInt8)} (hT:zeS σ id m t l) (hn:l.Nodup) (hl0:l.length<=1048576) (hb:∀ b ∈ l,b.length<=1073741824) {K:KT}
  (hK:K (.box (σ.length+1) 0) (σ++zvt σ.length l)):zo Tryz.prog zcs [.box id 0] σ K:=by
 refine zce zkF.is rfl (fun s=>List.range' σ.length 3) fun hl _=>zkF.goes ?_
 have hbx:=hT.box
 simp only [zkX,iN,bT,bF,eN]
 refine zxB ?_
 refine zAf hT ?_
 refine zjv hbx ?_
 refine c_From hn hl0 hb ?_
 refine zxB ?_
 exact zes (σ' := σ) (os:=zvt σ.length l) rfl rfl hl (low_tabO _ _) (.box _ _ (by simp)) hK
theorem c_known {σ:List zh} {id m t:Nat} {l:List (List UInt8)} (hT:zeS σ id m t l) (hn:l.Nodup) (hl0:l.length<=1048576) (hb:∀ b ∈ l,b.length<=1073741824) {K:KT}
  (hK:K (.d (.bool true)) σ):zo Tryz.prog zki [.box id 0] σ K:=by
 refine zd zph.is rfl fun hl _=>zph.goes ?_
 simp only [zpG,iN,bT,bF,eN]
 refine zxB ?_
 refine c_tLen hT ?_
 cases h:decide ((l.length:Int) > 0)
 ·refine zjv h ?_
  refine zsE hT hn hl0 hb ?_
  refine zjv h ?_
  refine zw hl ?_
  exact hK
 ·refine zjv h ?_
  refine zw hl ?_
  exact hK
end Go.Proofs.YtpgahkdjkanblaaGreat
