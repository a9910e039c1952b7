/- Contracts: what is wrong with requests, signatures and batches, on both sides. -/
import Derived.Test.YtpgahkdjkanblaaGreatCodec1
import Derived.Test.YtpgahkdjkanblaaGreatRq1
import Derived.Test.YtpgahkdjkanblaaGreatSpTab
set_option linter.all false
set_option maxRecDepth 100000
namespace Go.Proofs.YtpgahkdjkanblaaGreat
open Go.AW
theorem zab {P Q:Prop} (h:Q) (e:Hd Q->P:=by intro h;(repeat' first | simp -dsimp only [↓zeN, ↓zav, ↓zbq, ↓zeO, ↓zeH, ↓zeF, ↓zeI, ↓zeG, ↓zbv, ↓zbr, ↓zbw, ↓zbs, ↓zeJ, ↓zbp, ↓zbx, ↓zbt, ↓zby, ↓zbu, ↓zeE, ↓zeM, ↓zbo, ↓zbz, ↓zeC, ↓zeB, ↓zeD,iN,bT,bF,eN, ↓zcB, ↓unC, ↓zV, ↓zM, ↓zN, ↓zQ, ↓zY, ↓zal, ↓zdb, ↓zak, ↓zaH, ↓zT, ↓zf, ↓zj, ↓zbZ, ↓zb, ↓zag, ↓zE, ↓zaI, ↓zaO, ↓zc, ↓zy, ↓zl, ↓zG, ↓zaa, ↓zdm, ↓zdw, ↓zaj, ↓zar, ↓zaK, ↓zaS, ↓zaY, ↓zq, ↓zai, ↓zO, ↓zu, ↓zX,zdx,zbg,zbb,unA,zdd,bnd,zdY,zaf,zP,zdR,dm,dm1,zA,zae,zeh,zeg,zI,Q0,Q1,Q2,Q3,Q4,Q5,zZ,zC,zt,zL,zF,Q6,Q7,Q8,Q9,Q10,Q11,Q12,Q13,Q14,Nat.reduceAdd,Q15,Int.reduceToNat,Q16,Q17,Q18,Q19,Q20,reduceIte,Q21,Q22,zH,rep,zac,zel,toD,zah,Q23,Q24,Q25,Q26,Q27,Q28,Nat.reduceLeDiff,Q29,Nat.reduceSub,Q30,Q31,Q32,sc,Q33,Q34,Q35,Q36,Q37,Q26,Q38,Q39,zoy,zov,zos,zoz,zfG,zow,zot,zox,zou,zfF,zfH,zoB,zoC,Bool.not_true,Bool.not_false,List.length_map] | with_reducible refine zoE ?_ | fail);exact h.go):P:=e ⟨h⟩
theorem c_rqCheck {σ:List zh} {x:zJ} (hx:okO x.op) {K:KT} (hK:K (.d (.int .i64 (zaq x))) σ):zo Tryz.prog zhc [reqA x] σ K:=by
 refine zd zpk.is rfl fun hl _=>zpk.goes ?_
 have fin:∀ z,zaq x=z->K (.d (.int .i64 z)) σ:=fun z h=>h ▸ hK
 clear hK
 simp only [zpJ,iN,bT,bF,eN,reqA]
 (repeat' (first | (refine gq3 ?_;try with_reducible exact True.intro) | (refine zad (fun h => ?_) (fun h => ?_) <;> (try rw [h])) | ((with_reducible refine And.intro ?_ ?_);focus (first | omega | rfl | decide))))
 all_goals first
  | (
   refine zw hl ?_
   (try simp only [decide_eq_true_eq,decide_eq_false_iff_not,beq_iff_eq,beq_eq_false_iff_ne,bne_iff_ne,ne_eq,Bool.not_eq_true',Bool.not_eq_false',bne_eq_false_iff_eq] at *)
   exact fin _ (by rw [zaq,if_pos (by omega)]))
  | skip
 refine c_Check (o:=x.op) hx.1 hx.2.1 hx.2.2.1 ?_
 refine zab ?_
 refine zw hl ?_
 (try simp only [decide_eq_true_eq,decide_eq_false_iff_not,beq_iff_eq,beq_eq_false_iff_ne,bne_iff_ne,ne_eq,Bool.not_eq_true',Bool.not_eq_false',bne_eq_false_iff_eq] at *)
 exact fin _ (by rw [zaq,if_neg (by omega)])
theorem c_rKey {σ:List zh} {c:Int} {K:KT} (hK:K (.d (.int .i64 (if c<0 ∨ c ≥ 8 then -1 else 13+c))) σ):zo Tryz.prog zoW [.d (.int .i64 c)] σ K:=by
 refine zd e_r08_Key.is rfl fun hl _=>e_r08_Key.goes ?_
 have fin:∀ z,(if c<0 ∨ c ≥ 8 then -1 else 13+c)=z->K (.d (.int .i64 z)) σ:=fun z h=>h ▸ hK
 clear hK
 simp only [S_r08_Key,iN,bT,bF,eN]
 (repeat' (first | (refine gq3 ?_;try with_reducible exact True.intro) | (refine zad (fun h => ?_) (fun h => ?_) <;> (try rw [h])) | ((with_reducible refine And.intro ?_ ?_);focus (first | omega | rfl | decide))))
 all_goals
  refine zw hl ?_
  (try simp only [decide_eq_true_eq,decide_eq_false_iff_not,beq_iff_eq,beq_eq_false_iff_ne,bne_iff_ne,ne_eq,Bool.not_eq_true',Bool.not_eq_false',bne_eq_false_iff_eq] at *)
 ·exact fin _ (by rw [if_pos (by omega)])
 ·exact fin _ (by rw [if_pos (by omega)])
 ·exact fin _ (by rw [if_neg (by omega),zas (by omega) (by omega)])
theorem zB {A P Q:Prop} (a:A) (h:Q) (e:A->Hd Q->P:=by intro a h;(repeat' first | simp -dsimp only [↓zeN, ↓zav, ↓zbq, ↓zeO, ↓zeH, ↓zeF, ↓zeI, ↓zeG, ↓zbv, ↓zbr, ↓zbw, ↓zbs, ↓zeJ, ↓zbp, ↓zbx, ↓zbt, ↓zby, ↓zbu, ↓zeE, ↓zeM, ↓zbo, ↓zbz, ↓zeC, ↓zeB, ↓zeD,iN,bT,bF,eN, ↓zcB, ↓unC, ↓zV, ↓zM, ↓zN, ↓zQ, ↓zY, ↓zal, ↓zdb, ↓zak, ↓zaH, ↓zT, ↓zf, ↓zj, ↓zbZ, ↓zb, ↓zag, ↓zE, ↓zaI, ↓zaO, ↓zc, ↓zy, ↓zl, ↓zG, ↓zaa, ↓zdm, ↓zdw, ↓zaj, ↓zar, ↓zaK, ↓zaS, ↓zaY, ↓zq, ↓zai, ↓zO, ↓zu, ↓zX,zdx,zbg,zbb,unA,zdd,bnd,zdY,zaf,zP,zdR,dm,dm1,zA,zae,zeh,zeg,zI,Q0,Q1,Q2,Q3,Q4,Q5,zZ,zC,zt,zL,zF,Q6,Q7,Q8,Q9,Q10,Q11,Q12,Q13,Q14,Nat.reduceAdd,Q15,Int.reduceToNat,Q16,Q17,Q18,Q19,Q20,reduceIte,Q21,Q22,zH,rep,zac,zel,toD,zah,Q23,Q24,Q25,Q26,Q27,Q28,Nat.reduceLeDiff,Q29,Nat.reduceSub,Q30,Q31,Q32,sc,Q33,Q34,Q35,Q36,Q37,Q26,Q38,Q39,zoy,zov,zos,zoz,zfG,zow,zot,zox,zou,zfF,zfH,zoB,zoC,Bool.not_true,Bool.not_false,List.length_map,a] | with_reducible refine zoE ?_ | fail);exact h.go):P:=e a ⟨h⟩
theorem zyP {σ:List zh} {x:zJ} (hx:okO x.op) {K:KT} (hK:K (.d (.int .i64 (zaq x))) σ):zo Tryz.prog zmW [reqA x] σ K:=by
 refine zd zwn.is rfl fun hl _=>zwn.goes ?_
 have fin:∀ z,zaq x=z->K (.d (.int .i64 z)) σ:=fun z h=>h ▸ hK
 clear hK
 simp only [zxf,iN,bT,bF,eN,reqA]
 refine zab ?_
 refine c_rKey ?_
 by_cases hc:x.client<0 ∨ x.client ≥ 8
 ·rw [if_pos hc]
  refine zB (show decide ((-1:Int)<0)=true from rfl) ?_
  refine zw hl ?_
  exact fin _ (by rw [zaq,if_pos (by omega)])
 ·rw [if_neg hc]
  have h0:decide (13+x.client<0)=false:=by simp;omega
  (refine gq4 h0 ?_;try with_reducible exact True.intro)
  (repeat' (first | (refine gq3 ?_;try with_reducible exact True.intro) | (refine zad (fun h => ?_) (fun h => ?_) <;> (try rw [h])) | ((with_reducible refine And.intro ?_ ?_);focus (first | omega | rfl | decide))))
  all_goals first
   | (
    refine zw hl ?_
    (try simp only [decide_eq_true_eq,decide_eq_false_iff_not,beq_iff_eq,beq_eq_false_iff_ne,bne_iff_ne,ne_eq,Bool.not_eq_true',Bool.not_eq_false',bne_eq_false_iff_eq] at *)
    exact fin _ (by rw [zaq,if_pos (by omega)]))
   | skip
  refine c_rCheck (o:=x.op) hx.1 hx.2.1 hx.2.2.1 ?_
  refine zab ?_
  refine zw hl ?_
  (try simp only [decide_eq_true_eq,decide_eq_false_iff_not,beq_iff_eq,beq_eq_false_iff_ne,bne_iff_ne,ne_eq,Bool.not_eq_true',Bool.not_eq_false',bne_eq_false_iff_eq] at *)
  exact fin _ (by rw [zaq,if_neg (by omega)])
theorem zet {σ:List zh} {k d:Int} {K:KT} (hK:K (.d (.int .i64 (zS k d))) σ):zo Tryz.prog zbI [.agg [.d (.int .i64 k),.d (.int .i64 d)]] σ K:=by
 refine zd zkw.is rfl fun hl _=>zkw.goes ?_
 have fin:∀ z,zS k d=z->K (.d (.int .i64 z)) σ:=fun z h=>h ▸ hK
 clear hK
 simp only [zkM,iN,bT,bF,eN]
 (repeat' (first | (refine gq3 ?_;try with_reducible exact True.intro) | (refine zad (fun h => ?_) (fun h => ?_) <;> (try rw [h])) | ((with_reducible refine And.intro ?_ ?_);focus (first | omega | rfl | decide))))
 all_goals
  refine zw hl ?_
  (try simp only [decide_eq_true_eq,decide_eq_false_iff_not,beq_iff_eq,beq_eq_false_iff_ne,bne_iff_ne,ne_eq,Bool.not_eq_true',Bool.not_eq_false',bne_eq_false_iff_eq] at *)
  first | exact fin _ (by rw [zS,if_pos (by omega)]) | exact fin _ (by rw [zS,if_neg (by omega)])
theorem zdg {σ:List zh} {k d:Int} {K:KT} (hK:K (.d (.int .i64 (zS k d))) σ):zo Tryz.prog zcm [.agg [.d (.int .i64 k),.d (.int .i64 d)]] σ K:=by
 refine zd zpt.is rfl fun hl _=>zpt.goes ?_
 have fin:∀ z,zS k d=z->K (.d (.int .i64 z)) σ:=fun z h=>h ▸ hK
 clear hK
 simp only [zpS,iN,bT,bF,eN]
 (repeat' (first | (refine gq3 ?_;try with_reducible exact True.intro) | (refine zad (fun h => ?_) (fun h => ?_) <;> (try rw [h])) | ((with_reducible refine And.intro ?_ ?_);focus (first | omega | rfl | decide))))
 all_goals
  refine zw hl ?_
  (try simp only [decide_eq_true_eq,decide_eq_false_iff_not,beq_iff_eq,beq_eq_false_iff_ne,bne_iff_ne,ne_eq,Bool.not_eq_true',Bool.not_eq_false',bne_eq_false_iff_eq] at *)
  first | exact fin _ (by rw [zS,if_pos (by omega)]) | exact fin _ (by rw [zS,if_neg (by omega)])
end Go.Proofs.YtpgahkdjkanblaaGreat

/- Contracts: what is asked of a proof, the program's. -/
set_option maxRecDepth 100000
namespace Go.Proofs.YtpgahkdjkanblaaGreat
open Go.AW
abbrev zgX (e:Int):zh := .box [.d (.int .i64 e)]
theorem zjY (n:Nat) (e:Int):zxv n (zgX e):=by
 intro c hc
 simp only [List.mem_cons,List.not_mem_nil,or_false] at hc
 subst hc;exact .d _
theorem c_says {σ:List zh} {id:Nat} {e x:Int} (hσ : σ[id]? = some (zgX e)) {K:KT} (hK:K (.tup []) (σ.set id (zgX (zoH e x)))):zo Tryz.prog zW [.box id 0,.d (.int .i64 x)] σ K:=by
 refine zd zjA.is rfl fun hl _=>zjA.goes ?_
 simp only [zjI,iN,bT,bF,eN]
 cases h:(e == 0)
 ·rw [zoH,if_pos (by simpa using h),zcz hσ] at hK
  refine zB (ze hσ h) ?_
  refine zw hl ?_
  exact hK
 ·rw [zoH,if_neg (by simpa using h)] at hK
  refine zB (ze hσ h) ?_
  exact zgL (by simp [zcO,dmT,zaU]) hl (zjY _ _) hK
theorem thn_0 (e:Int):zoH e 0=e:=by
 unfold zoH;split
 ·rfl
 ·rename_i h;simp at h;exact h.symm
theorem zAq {σ:List zh} {id:Nat} {e n lo hi:Int} (hσ : σ[id]? = some (zgX e)) {K:KT} (hK:K (.tup []) (σ.set id (zgX (zoH e (inE n lo hi))))) :
  zo Tryz.prog zaJ [.box id 0,.d (.int .i64 n),.d (.int .i64 lo),.d (.int .i64 hi)] σ K:=by
 refine zd zlv.is rfl fun hl _=>zlv.goes ?_
 simp only [zlJ,iN,bT,bF,eN]
 have bad:(n<lo ∨ n > hi)->zo Tryz.prog zW [.box id 0,.d (.int .i64 100)] σ fun _ s=>AW.Ends σ.length K (some []) s:=fun h=>by
  rw [inE,if_pos h] at hK
  refine c_says hσ ?_
  exact zgL (by simp [zcO,dmT,zaU]) hl (zjY _ _) hK
 cases h1:decide (n<lo)
 ·cases h2:decide (n > hi)
  ·rw [inE,if_neg (by simp at h1 h2;omega),thn_0,zcz hσ] at hK
   refine zB (ze h1 h2) ?_
   refine zw hl ?_
   exact hK
  ·refine zB (ze h1 h2) ?_
   exact bad (.inr (by simpa using h2))
 ·refine zB h1 ?_
  exact bad (.inl (by simpa using h1))
theorem zAp {σ:List zh} {id:Nat} {e n:Int} (hσ : σ[id]? = some (zgX e)) {K:KT} (hK:K (.tup []) (σ.set id (zgX (zoH e (zlX n))))) :
  zo Tryz.prog zaA [.box id 0,.d (.int .i64 n)] σ K:=by
 refine zd zkE.is rfl fun hl _=>zkE.goes ?_
 simp only [zkU,iN,bT,bF,eN]
 refine zab ?_
 refine zAq hσ ?_
 exact zgL (by simp [zcO,dmT,zaU]) hl (zjY _ _) hK
theorem c_askPos {σ:List zh} {id:Nat} {e n:Int} (hσ : σ[id]? = some (zgX e)) {K:KT} (hK:K (.tup []) (σ.set id (zgX (zoH e (zrN n))))) :
  zo Tryz.prog zaM [.box id 0,.d (.int .i64 n)] σ K:=by
 refine zd zkD.is rfl fun hl _=>zkD.goes ?_
 simp only [zkT,iN,bT,bF,eN]
 refine zab ?_
 refine zAq hσ ?_
 exact zgL (by simp [zcO,dmT,zaU]) hl (zjY _ _) hK
theorem c_askMany {σ:List zh} {id:Nat} {e n hi:Int} (hσ : σ[id]? = some (zgX e)) {K:KT} (hK:K (.tup []) (σ.set id (zgX (zoH e (inE n 0 hi))))) :
  zo Tryz.prog zbD [.box id 0,.d (.int .i64 n),.d (.int .i64 hi)] σ K:=by
 refine zd zjB.is rfl fun hl _=>zjB.goes ?_
 simp only [zjJ,iN,bT,bF,eN]
 refine zab ?_
 refine zAq hσ ?_
 exact zgL (by simp [zcO,dmT,zaU]) hl (zjY _ _) hK
theorem fst_snoc (e:Int) (l:List Int) (x:Int):zoH (zbn (e :: l)) x=zbn (e :: (l++[x])):=by
 rw [show e :: (l++[x])=(e :: l)++[x] from rfl,zjT]
 unfold zoH
 split
 ·rfl
 ·simp [zbn]
theorem zsg {α β:Type} {f : α → β} {l:List α} {k:Nat} {x : α} (h:l[k]? = some x):(l.take (k+1)).map f=(l.take k).map f++[f x]:=by
 rw [List.take_add_one,h];simp
theorem wkc (k:Nat) (h:k<=1073741824):IntKind.i64.wrap ((k:Int)+1)=((k+1:Nat):Int):=by rw [zas (by omega) (by omega)];rfl
theorem fst1 (e x:Int):zbn [e,x]=zoH e x:=by
 unfold zoH
 simp only [zbn]
 split
 ·rfl
 ·split
  ·rfl
  ·rename_i h;simp at h;exact h.symm
theorem bft:((false:Bool) == true)=false:=rfl
theorem btf:((true:Bool) == false)=false:=rfl
theorem zhH {A P Q:Prop} (a:A) (h:Q) (e:A->Hd Q->P:=by intro a h;(repeat' first | simp -dsimp only [↓zeN, ↓zav, ↓zbq, ↓zeO, ↓zeH, ↓zeF, ↓zeI, ↓zeG, ↓zbv, ↓zbr, ↓zbw, ↓zbs, ↓zeJ, ↓zbp, ↓zbx, ↓zbt, ↓zby, ↓zbu, ↓zeE, ↓zeM, ↓zbo, ↓zbz, ↓zeC, ↓zeB, ↓zeD,iN,bT,bF,eN, ↓zcB, ↓unC, ↓zV, ↓zM, ↓zN, ↓zQ, ↓zY, ↓zal, ↓zdb, ↓zak, ↓zaH, ↓zT, ↓zf, ↓zj, ↓zbZ, ↓zb, ↓zag, ↓zE, ↓zaI, ↓zaO, ↓zc, ↓zy, ↓zl, ↓zG, ↓zaa, ↓zdm, ↓zdw, ↓zaj, ↓zar, ↓zaK, ↓zaS, ↓zaY, ↓zq, ↓zai, ↓zO, ↓zu, ↓zX,zdx,zbg,zbb,unA,zdd,bnd,zdY,zaf,zP,zdR,dm,dm1,zA,zae,zeh,zeg,zI,Q0,Q1,Q2,Q3,Q4,Q5,zZ,zC,zt,zL,zF,Q6,Q7,Q8,Q9,Q10,Q11,Q12,Q13,Q14,Nat.reduceAdd,Q15,Int.reduceToNat,Q16,Q17,Q18,Q19,Q20,reduceIte,Q21,Q22,zH,rep,zac,zel,toD,zah,Q23,Q24,Q25,Q26,Q27,Q28,Nat.reduceLeDiff,Q29,Nat.reduceSub,Q30,Q31,Q32,sc,Q33,Q34,Q35,Q36,Q37,Q26,Q38,Q39,zoy,zov,zos,zoz,zfG,zow,zot,zox,zou,zfF,zfH,zoB,zoC,Bool.not_true,Bool.not_false,List.length_map,zaE,zed,hdrD,zdX,opA,zew,zgf,zgZ,zbc,a] | with_reducible refine zoE ?_ | fail);exact h.go):P:=e a ⟨h⟩
theorem zyW {σ:List zh} {id:Nat} {e:Int} {l:List zK} (hσ : σ[id]? = some (zgX e)) (hl0:l.length<=1073741824) {K:KT} (hK:K (.tup []) (σ.set id (zgX (zoH e (zbn (zcC l)))))) :
  zo Tryz.prog zbf [.box id 0,.d (.slice (zap l))] σ K:=by
 refine zd ziV.is rfl fun hl _=>ziV.goes ?_
 have hlen:(zap l).length=l.length:=List.length_map ..
 have hid:=zcT hσ
 rw [thn_fst,zcC] at hK
 simp only [zjc,iN,bT,bF,eN]
 refine zB hlen ?_
 refine c_askMany hσ ?_
 refine zB hlen ?_
 refine zm l.length (fun k vs s=>vs = [.d (.int .i64 k)]/\∃ T,s = σ.set id (zgX (zbn (e :: (inE l.length 0 13 :: (l.take k).map fun s=>zS s.key s.dig))))++T) ⟨rfl,[],by rw [List.take_zero,List.map_nil,fst1,List.append_nil]⟩ ?_
 rintro k vs s hk ⟨rfl,T,rfl⟩
 by_cases hlt:k<l.length
 ·have hd:decide ((k:Int)<(l.length:Int))=true:=by simp;omega
  have hx:l[k]? = some l[k]:=by simp [hlt]
  have hgx:=zR (f:=zgf) hx
  obtain ⟨x,hxe⟩:∃ x,l[k]=x:=⟨_,rfl⟩
  rw [hxe] at hx hgx
  have hmn:=zsg (f:=fun s:zK=>zS s.key s.dig) hx
  have fs:=fst_snoc e (inE l.length 0 13 :: (l.take k).map fun s=>zS s.key s.dig) (zS x.key x.dig)
  simp only [List.cons_append] at fs
  rw [← hmn] at fs
  obtain ⟨E,hE⟩:∃ E,zbn (e :: (inE l.length 0 13 :: (l.take k).map fun s=>zS s.key s.dig))=E:=⟨_,rfl⟩
  rw [hE] at fs ⊢
  have hS:∀ τ,(σ.set id (zgX E) ++ τ)[id]? = some (zgX E):=fun τ=>zx (zcx hσ)
  refine zhH (ze hd (ze hgx hlen)) ?_
  refine zet ?_
  refine zab ?_
  refine c_says (e:=E) (hS _) ?_
  rw [zbS (zcx hσ),List.set_set]
  refine zB (wkc k (by omega)) ?_
  exact zaz.next hlt ⟨rfl,_,by rw [fs]⟩
 ·have hd:decide ((k:Int)<(l.length:Int))=false:=by simp;omega
  rw [List.take_of_length_le (by omega)]
  refine zB hd ?_
  exact zgS (by simp [zcO,dmT,zaU]) hl (zjY _ _) hK
theorem gq52 {A P Q:Prop} (a:A) (h:Q) (e:A->Hd Q->P:=by intro a h;(repeat' first | simp -dsimp only [↓zeN, ↓zav, ↓zbq, ↓zeO, ↓zeH, ↓zeF, ↓zeI, ↓zeG, ↓zbv, ↓zbr, ↓zbw, ↓zbs, ↓zeJ, ↓zbp, ↓zbx, ↓zbt, ↓zby, ↓zbu, ↓zeE, ↓zeM, ↓zbo, ↓zbz, ↓zeC, ↓zeB, ↓zeD,iN,bT,bF,eN, ↓zcB, ↓unC, ↓zV, ↓zM, ↓zN, ↓zQ, ↓zY, ↓zal, ↓zdb, ↓zak, ↓zaH, ↓zT, ↓zf, ↓zj, ↓zbZ, ↓zb, ↓zag, ↓zE, ↓zaI, ↓zaO, ↓zc, ↓zy, ↓zl, ↓zG, ↓zaa, ↓zdm, ↓zdw, ↓zaj, ↓zar, ↓zaK, ↓zaS, ↓zaY, ↓zq, ↓zai, ↓zO, ↓zu, ↓zX,zdx,zbg,zbb,unA,zdd,bnd,zdY,zaf,zP,zdR,dm,dm1,zA,zae,zeh,zeg,zI,Q0,Q1,Q2,Q3,Q4,Q5,zZ,zC,zt,zL,zF,Q6,Q7,Q8,Q9,Q10,Q11,Q12,Q13,Q14,Nat.reduceAdd,Q15,Int.reduceToNat,Q16,Q17,Q18,Q19,Q20,reduceIte,Q21,Q22,zH,rep,zac,zel,toD,zah,Q23,Q24,Q25,Q26,Q27,Q28,Nat.reduceLeDiff,Q29,Nat.reduceSub,Q30,Q31,Q32,sc,Q33,Q34,Q35,Q36,Q37,Q26,Q38,Q39,zoy,zov,zos,zoz,zfG,zow,zot,zox,zou,zfF,zfH,zoB,zoC,Bool.not_true,Bool.not_false,List.length_map,beq_self_eq_true,bft,btf,a] | with_reducible refine zoE ?_ | fail);exact h.go):P:=e a ⟨h⟩
theorem gq53 {A P Q:Prop} (a:A) (h:Q) (e:A->Hd Q->P:=by intro a h;(repeat' first | simp -dsimp only [↓zeN, ↓zav, ↓zbq, ↓zeO, ↓zeH, ↓zeF, ↓zeI, ↓zeG, ↓zbv, ↓zbr, ↓zbw, ↓zbs, ↓zeJ, ↓zbp, ↓zbx, ↓zbt, ↓zby, ↓zbu, ↓zeE, ↓zeM, ↓zbo, ↓zbz, ↓zeC, ↓zeB, ↓zeD,iN,bT,bF,eN, ↓zcB, ↓unC, ↓zV, ↓zM, ↓zN, ↓zQ, ↓zY, ↓zal, ↓zdb, ↓zak, ↓zaH, ↓zT, ↓zf, ↓zj, ↓zbZ, ↓zb, ↓zag, ↓zE, ↓zaI, ↓zaO, ↓zc, ↓zy, ↓zl, ↓zG, ↓zaa, ↓zdm, ↓zdw, ↓zaj, ↓zar, ↓zaK, ↓zaS, ↓zaY, ↓zq, ↓zai, ↓zO, ↓zu, ↓zX,zdx,zbg,zbb,unA,zdd,bnd,zdY,zaf,zP,zdR,dm,dm1,zA,zae,zeh,zeg,zI,Q0,Q1,Q2,Q3,Q4,Q5,zZ,zC,zt,zL,zF,Q6,Q7,Q8,Q9,Q10,Q11,Q12,Q13,Q14,Nat.reduceAdd,Q15,Int.reduceToNat,Q16,Q17,Q18,Q19,Q20,reduceIte,Q21,Q22,zH,rep,zac,zel,toD,zah,Q23,Q24,Q25,Q26,Q27,Q28,Nat.reduceLeDiff,Q29,Nat.reduceSub,Q30,Q31,Q32,sc,Q33,Q34,Q35,Q36,Q37,Q26,Q38,Q39,zoy,zov,zos,zoz,zfG,zow,zot,zox,zou,zfF,zfH,zoB,zoC,Bool.not_true,Bool.not_false,List.length_map,bft,btf,a] | with_reducible refine zoE ?_ | fail);exact h.go):P:=e a ⟨h⟩
theorem c_askCert {σ:List zh} {id:Nat} {e:Int} {c:zft} (hσ : σ[id]? = some (zgX e)) (hl0:c.signs.length<=1073741824) {K:KT} (hK:K (.tup []) (σ.set id (zgX (zoH e (zbn (zcX c)))))) :
  zo Tryz.prog zcJ [.box id 0,zgc c] σ K:=by
 refine zd zjC.is rfl fun hl _=>zjC.goes ?_
 have hlen:(zap c.signs).length=c.signs.length:=List.length_map ..
 simp only [zjK,iN,bT,bF,eN,zgc]
 have hB:∀ X,(σ.set id X++[zh.box [AV.d (D.int .i64 c.seq),AV.d (D.int .i64 c.dig),AV.d (D.slice (zap c.signs))]])[σ.length]? = some (zh.box [AV.d (D.int .i64 c.seq),AV.d (D.int .i64 c.dig),AV.d (D.slice (zap c.signs))]):=fun X=>by
  rw [List.getElem?_append_right (by simp)];simp
 have hS:∀ E τ,(σ.set id (zgX E) ++ τ)[id]? = some (zgX E):=fun E τ=>zx (zcx hσ)
 have hP:∀ E Y τ,(σ.set id (zgX E) ++ τ).set id Y = σ.set id Y ++ τ:=fun E Y τ=>by rw [zbS (zcx hσ),List.set_set]
 have e4:zoH e (zbn (zcX c))=zoH (zoH (zoH (zoH e (zlX c.seq)) (zlX c.dig)) (zfp c)) (zbn (zcC c.signs)):=by
  simp only [zcX,zbn,zoH]
  by_cases h0:e=0
  ·by_cases h1:zlX c.seq=0
   ·by_cases h2:zlX c.dig=0
    ·by_cases h3:zfp c=0
     ·simp [h0,h1,h2,h3]
     ·simp [h0,h1,h2,h3]
    ·simp [h0,h1,h2]
   ·simp [h0,h1]
  ·simp [h0]
 rw [e4] at hK
 refine zab ?_
 refine zAp (zx hσ) ?_
 rw [zbS hσ]
 refine zB hB ?_
 refine zAp (hS _ _) ?_
 rw [hP]
 obtain ⟨E,hE⟩:∃ E,zoH (zoH e (zlX c.seq)) (zlX c.dig)=E:=⟨_,rfl⟩
 rw [hE] at hK ⊢
 have tail:∀ M,M=zfp c->zo Tryz.prog zbf [.box id 0,.d (.slice (zap c.signs))] (σ.set id (zgX (zoH E M))++[zh.box [AV.d (D.int .i64 c.seq),AV.d (D.int .i64 c.dig),AV.d (D.slice (zap c.signs))]]) fun _ s=>AW.Ends σ.length K (some []) s:=fun M hM=>by
  subst hM
  refine zyW (hS _ _) hl0 ?_
  rw [hP]
  exact zgS (by simp [zcO,dmT,zaU]) hl (zjY _ _) hK
 have no:zfp c=100->zo Tryz.prog zW [.box id 0,.d (.int .i64 100)] (σ.set id (zgX E)++[zh.box [AV.d (D.int .i64 c.seq),AV.d (D.int .i64 c.dig),AV.d (D.slice (zap c.signs))]]) fun _ s=>fl 2 (.box σ.length 0) s fun g s=>cA Tryz.prog zbf [.box id 0,g] s fun _ s=>AW.Ends σ.length K (some []) s:=fun h=>by
  refine c_says (hS _ _) ?_
  rw [hP]
  refine zB hB ?_
  exact tail 100 h.symm
 have yes:zfp c=0->zo Tryz.prog zbf [.box id 0,.d (.slice (zap c.signs))] (σ.set id (zgX E)++[zh.box [AV.d (D.int .i64 c.seq),AV.d (D.int .i64 c.dig),AV.d (D.slice (zap c.signs))]]) fun _ s=>AW.Ends σ.length K (some []) s:=fun h=>by
  have:=tail 0 h.symm
  rw [thn_0] at this
  exact this
 cases h1:(c.seq == 0)
 ·cases h2:(c.dig == 0)
  ·refine gq52 (ze hB (ze h1 h2)) ?_
   exact yes (by simp at h1 h2;simp [zfp,h1,h2])
  ·refine gq53 (ze hB (ze h1 h2)) ?_
   exact no (by simp at h1 h2;simp [zfp,h1,h2])
 ·cases h2:(c.dig == 0)
  ·refine gq53 (ze hB (ze h1 h2)) ?_
   exact no (by simp at h1 h2;simp [zfp,h1,h2])
  ·cases h3:decide ((c.signs.length:Int) > 0)
   ·refine gq52 (ze hB (ze h1 (ze h2 (ze hlen h3)))) ?_
    exact yes (by simp at h1 h2 h3;simp [zfp,h1,h2,h3])
   ·refine gq52 (ze hB (ze h1 (ze h2 (ze hlen h3)))) ?_
    exact no (by simp only [beq_iff_eq,decide_eq_true_eq] at h1 h2 h3;rw [zfp,if_pos (.inr ⟨h1,by omega⟩)])
end Go.Proofs.YtpgahkdjkanblaaGreat
