/- Contracts: what is wrong with requests, signatures and batches, on both sides. -/
import Derived.Test.YtpgahkdjkanblaaGreatCodec1
import Derived.Test.YtpgahkdjkanblaaGreatRq1
import Derived.Test.YtpgahkdjkanblaaGreatSpTab
set_option linter.all false
set_option maxRecDepth 100000
namespace Go.Proofs.YtpgahkdjkanblaaGreat
open Go.AW
theorem zQ {P Q:Prop} (h:Q) (e:Hd Q->P:=by intro h;(repeat' first|simp -dsimp only [↓zhL, ↓zbi, ↓zcI, ↓zhM, ↓zhF, ↓zhD, ↓zhG, ↓zhE, ↓zcN, ↓zcJ, ↓zcO, ↓zcK, ↓zhH, ↓zcH, ↓zcP, ↓zcL, ↓zcQ, ↓zcM, ↓zhC, ↓zhK, ↓zcG, ↓zcR, ↓zhz, ↓zhy, ↓zhB,iN,bT,bF,eN, ↓zdT, ↓unC, ↓zam, ↓zY, ↓zZ, ↓zae, ↓zax, ↓zag, ↓zeQ, ↓zap, ↓zaQ, ↓zW, ↓zg, ↓zh, ↓zcW, ↓zb, ↓zaC, ↓zG, ↓zbv, ↓zbE, ↓zc, ↓zE, ↓zq, ↓zK, ↓zao, ↓zft, ↓zfB, ↓zaL, ↓zaX, ↓zbm, ↓zbC, ↓zcj, ↓zI, ↓zaH, ↓zaa, ↓zM, ↓zaw,zfE,zcw,zcp,unA,zeT,bnd,zgq,zaA,zL,zga,dm,dm1,zw,zad,zgP,zgO,zH,Q0,Q1,Q2,Q3,Q4,Q5,zay,zB,zD,zT,zP,Q6,Q7,Q8,Q9,Q10,Q11,Q12,Q13,Q14,Nat.reduceAdd,Q15,Int.reduceToNat,Q16,Q17,Q18,Q19,Q20,reduceIte,Q21,Q22,zU,rep,zar,zgW,toD,zaz,Q23,Q24,Q25,Q26,Q27,Q28,Nat.reduceLeDiff,Q29,Nat.reduceSub,Q30,Q31,Q32,sc,Q33,Q34,Q35,Q36,Q37,Q26,Q38,Q39,zwb,zvY,zvV,zwc,zks,zvZ,zvW,zwa,zvX,zkr,zkt,zwl,zwm,Bool.not_true,Bool.not_false,List.length_map]|with_reducible refine zxk ?_|fail);exact h.go):P:=e ⟨h⟩
theorem c_rqCheck {σ:List zd} {x:zC} (hx:okO x.op) {K:KT} (hK:K (.d (.int .i64 (zai x))) σ):zj Tryz.prog zgZ [reqA x] σ K:=by
 refine zdZ zwB fun hl => ?_
 have fin:∀ z,zai x=z->K (.d (.int .i64 z)) σ:=fun z h=>h▸hK
 clear hK
 simp only [zpd,iN,bT,bF,eN,reqA]
 (repeat' (first|(refine gq3 ?_;try with_reducible exact True.intro)|(refine zV (fun h => ?_) (fun h => ?_)<;>(try rw [h]))|((with_reducible refine And.intro ?_ ?_);focus (first|omega|rfl|decide))))
 all_goals first
  | (
   refine zt hl ?_
   (try simp only [decide_eq_true_eq,decide_eq_false_iff_not,beq_iff_eq,beq_eq_false_iff_ne,bne_iff_ne,ne_eq,Bool.not_eq_true',Bool.not_eq_false',bne_eq_false_iff_eq] at *)
   exact fin _ (by rw [zai,if_pos (by omega)]))
  | skip
 refine c_Check (o:=x.op) hx.1 hx.2.1 hx.2.2.1 ?_
 refine zQ ?_
 refine zt hl ?_
 (try simp only [decide_eq_true_eq,decide_eq_false_iff_not,beq_iff_eq,beq_eq_false_iff_ne,bne_iff_ne,ne_eq,Bool.not_eq_true',Bool.not_eq_false',bne_eq_false_iff_eq] at *)
 exact fin _ (by rw [zai,if_neg (by omega)])
theorem c_rKey {σ:List zd} {c:Int} {K:KT} (hK:K (.d (.int .i64 (if c<0∨c≥8 then -1 else 13+c))) σ):zj Tryz.prog zoA [.d (.int .i64 c)] σ K:=by
 refine zdZ e_r08_Key fun hl => ?_
 have fin:∀ z,(if c<0∨c≥8 then -1 else 13+c)=z->K (.d (.int .i64 z)) σ:=fun z h=>h▸hK
 clear hK
 simp only [S_r08_Key,iN,bT,bF,eN]
 (repeat' (first|(refine gq3 ?_;try with_reducible exact True.intro)|(refine zV (fun h => ?_) (fun h => ?_)<;>(try rw [h]))|((with_reducible refine And.intro ?_ ?_);focus (first|omega|rfl|decide))))
 all_goals
  refine zt hl ?_
  (try simp only [decide_eq_true_eq,decide_eq_false_iff_not,beq_iff_eq,beq_eq_false_iff_ne,bne_iff_ne,ne_eq,Bool.not_eq_true',Bool.not_eq_false',bne_eq_false_iff_eq] at *)
 ·exact fin _ (by rw [if_pos (by omega)])
 ·exact fin _ (by rw [if_pos (by omega)])
 ·exact fin _ (by rw [if_neg (by omega),zab (by omega) (by omega)])
theorem zA {A P Q:Prop} (a:A) (h:Q) (e:A->Hd Q->P:=by intro a h;(repeat' first|simp -dsimp only [↓zhL, ↓zbi, ↓zcI, ↓zhM, ↓zhF, ↓zhD, ↓zhG, ↓zhE, ↓zcN, ↓zcJ, ↓zcO, ↓zcK, ↓zhH, ↓zcH, ↓zcP, ↓zcL, ↓zcQ, ↓zcM, ↓zhC, ↓zhK, ↓zcG, ↓zcR, ↓zhz, ↓zhy, ↓zhB,iN,bT,bF,eN, ↓zdT, ↓unC, ↓zam, ↓zY, ↓zZ, ↓zae, ↓zax, ↓zag, ↓zeQ, ↓zap, ↓zaQ, ↓zW, ↓zg, ↓zh, ↓zcW, ↓zb, ↓zaC, ↓zG, ↓zbv, ↓zbE, ↓zc, ↓zE, ↓zq, ↓zK, ↓zao, ↓zft, ↓zfB, ↓zaL, ↓zaX, ↓zbm, ↓zbC, ↓zcj, ↓zI, ↓zaH, ↓zaa, ↓zM, ↓zaw,zfE,zcw,zcp,unA,zeT,bnd,zgq,zaA,zL,zga,dm,dm1,zw,zad,zgP,zgO,zH,Q0,Q1,Q2,Q3,Q4,Q5,zay,zB,zD,zT,zP,Q6,Q7,Q8,Q9,Q10,Q11,Q12,Q13,Q14,Nat.reduceAdd,Q15,Int.reduceToNat,Q16,Q17,Q18,Q19,Q20,reduceIte,Q21,Q22,zU,rep,zar,zgW,toD,zaz,Q23,Q24,Q25,Q26,Q27,Q28,Nat.reduceLeDiff,Q29,Nat.reduceSub,Q30,Q31,Q32,sc,Q33,Q34,Q35,Q36,Q37,Q26,Q38,Q39,zwb,zvY,zvV,zwc,zks,zvZ,zvW,zwa,zvX,zkr,zkt,zwl,zwm,Bool.not_true,Bool.not_false,List.length_map,a]|with_reducible refine zxk ?_|fail);exact h.go):P:=e a ⟨h⟩
theorem zzl {σ:List zd} {x:zC} (hx:okO x.op) {K:KT} (hK:K (.d (.int .i64 (zai x))) σ):zj Tryz.prog zmN [reqA x] σ K:=by
 refine zdZ e_r08_Check fun hl => ?_
 have fin:∀ z,zai x=z->K (.d (.int .i64 z)) σ:=fun z h=>h▸hK
 clear hK
 simp only [zxA,iN,bT,bF,eN,reqA]
 refine zQ ?_
 refine c_rKey ?_
 by_cases hc:x.client<0∨x.client≥8
 ·rw [if_pos hc]
  refine zA (show decide ((-1:Int)<0)=true from rfl) ?_
  refine zt hl ?_
  exact fin _ (by rw [zai,if_pos (by omega)])
 ·rw [if_neg hc]
  have h0:decide (13+x.client<0)=false:=by simp;omega
  (refine gq4 h0 ?_;try with_reducible exact True.intro)
  (repeat' (first|(refine gq3 ?_;try with_reducible exact True.intro)|(refine zV (fun h => ?_) (fun h => ?_)<;>(try rw [h]))|((with_reducible refine And.intro ?_ ?_);focus (first|omega|rfl|decide))))
  all_goals first
   | (
    refine zt hl ?_
    (try simp only [decide_eq_true_eq,decide_eq_false_iff_not,beq_iff_eq,beq_eq_false_iff_ne,bne_iff_ne,ne_eq,Bool.not_eq_true',Bool.not_eq_false',bne_eq_false_iff_eq] at *)
    exact fin _ (by rw [zai,if_pos (by omega)]))
   | skip
  refine c_rCheck (o:=x.op) hx.1 hx.2.1 hx.2.2.1 ?_
  refine zQ ?_
  refine zt hl ?_
  (try simp only [decide_eq_true_eq,decide_eq_false_iff_not,beq_iff_eq,beq_eq_false_iff_ne,bne_iff_ne,ne_eq,Bool.not_eq_true',Bool.not_eq_false',bne_eq_false_iff_eq] at *)
  exact fin _ (by rw [zai,if_neg (by omega)])
theorem zer {σ:List zd} {k d:Int} {K:KT} (hK:K (.d (.int .i64 (zN k d))) σ):zj Tryz.prog zbu [.agg [.d (.int .i64 k),.d (.int .i64 d)]] σ K:=by
 refine zdZ zra fun hl => ?_
 have fin:∀ z,zN k d=z->K (.d (.int .i64 z)) σ:=fun z h=>h▸hK
 clear hK
 simp only [zkH,iN,bT,bF,eN]
 (repeat' (first|(refine gq3 ?_;try with_reducible exact True.intro)|(refine zV (fun h => ?_) (fun h => ?_)<;>(try rw [h]))|((with_reducible refine And.intro ?_ ?_);focus (first|omega|rfl|decide))))
 all_goals
  refine zt hl ?_
  (try simp only [decide_eq_true_eq,decide_eq_false_iff_not,beq_iff_eq,beq_eq_false_iff_ne,bne_iff_ne,ne_eq,Bool.not_eq_true',Bool.not_eq_false',bne_eq_false_iff_eq] at *)
  first|exact fin _ (by rw [zN,if_pos (by omega)])|exact fin _ (by rw [zN,if_neg (by omega)])
theorem zdl {σ:List zd} {k d:Int} {K:KT} (hK:K (.d (.int .i64 (zN k d))) σ):zj Tryz.prog zca [.agg [.d (.int .i64 k),.d (.int .i64 d)]] σ K:=by
 refine zdZ zwP fun hl => ?_
 have fin:∀ z,zN k d=z->K (.d (.int .i64 z)) σ:=fun z h=>h▸hK
 clear hK
 simp only [zpn,iN,bT,bF,eN]
 (repeat' (first|(refine gq3 ?_;try with_reducible exact True.intro)|(refine zV (fun h => ?_) (fun h => ?_)<;>(try rw [h]))|((with_reducible refine And.intro ?_ ?_);focus (first|omega|rfl|decide))))
 all_goals
  refine zt hl ?_
  (try simp only [decide_eq_true_eq,decide_eq_false_iff_not,beq_iff_eq,beq_eq_false_iff_ne,bne_iff_ne,ne_eq,Bool.not_eq_true',Bool.not_eq_false',bne_eq_false_iff_eq] at *)
  first|exact fin _ (by rw [zN,if_pos (by omega)])|exact fin _ (by rw [zN,if_neg (by omega)])
abbrev zgX (e:Int):zd := .box [.d (.int .i64 e)]
theorem zjQ (n:Nat) (e:Int):zvA n (zgX e):=by
 intro c hc
 simp only [List.mem_cons,List.not_mem_nil,or_false] at hc
 subst hc;exact .d _
theorem c_says {σ:List zd} {id:Nat} {e x:Int} (hσ : σ[id]? = some (zgX e)) {K:KT} (hK:K (.tup []) (σ.set id (zgX (zok e x)))):zj Tryz.prog zS [.box id 0,.d (.int .i64 x)] σ K:=by
 refine zeE zqc fun hl => ?_
 simp only [zjB,iN,bT,bF,eN]
 cases h:(e==0)
 ·rw [zok,if_pos (by simpa using h),zcm hσ] at hK
  refine zA (zo hσ h) ?_
  refine zt hl ?_
  exact hK
 ·rw [zok,if_neg (by simpa using h)] at hK
  refine zA (zo hσ h) ?_
  exact zgJ (by simp [zcq,dmT,zaU]) hl (zjQ _ _) hK
theorem thn_0 (e:Int):zok e 0=e:=by
 unfold zok;split
 ·rfl
 ·rename_i h;simp at h;exact h.symm
theorem zAR {σ:List zd} {id:Nat} {e n lo hi:Int} (hσ : σ[id]? = some (zgX e)) {K:KT} (hK:K (.tup []) (σ.set id (zgX (zok e (inE n lo hi))))) :
  zj Tryz.prog zaK [.box id 0,.d (.int .i64 n),.d (.int .i64 lo),.d (.int .i64 hi)] σ K:=by
 refine zAU zsn fun hl => ?_
 simp only [zlw,iN,bT,bF,eN]
 have bad:(n<lo∨n > hi)->zj Tryz.prog zS [.box id 0,.d (.int .i64 100)] σ fun _ s=>AW.Ends σ.length K (some []) s:=fun h=>by
  rw [inE,if_pos h] at hK
  refine c_says hσ ?_
  exact zgJ (by simp [zcq,dmT,zaU]) hl (zjQ _ _) hK
 cases h1:decide (n<lo)
 ·cases h2:decide (n > hi)
  ·rw [inE,if_neg (by simp at h1 h2;omega),thn_0,zcm hσ] at hK
   refine zA (zo h1 h2) ?_
   refine zt hl ?_
   exact hK
  ·refine zA (zo h1 h2) ?_
   exact bad (.inr (by simpa using h2))
 ·refine zA h1 ?_
  exact bad (.inl (by simpa using h1))
theorem zAQ {σ:List zd} {id:Nat} {e n:Int} (hσ : σ[id]? = some (zgX e)) {K:KT} (hK:K (.tup []) (σ.set id (zgX (zok e (zlL n))))) :
  zj Tryz.prog zas [.box id 0,.d (.int .i64 n)] σ K:=by
 refine zeE zri fun hl => ?_
 simp only [zkP,iN,bT,bF,eN]
 refine zQ ?_
 refine zAR hσ ?_
 exact zgJ (by simp [zcq,dmT,zaU]) hl (zjQ _ _) hK
theorem c_askPos {σ:List zd} {id:Nat} {e n:Int} (hσ : σ[id]? = some (zgX e)) {K:KT} (hK:K (.tup []) (σ.set id (zgX (zok e (zrD n))))) :
  zj Tryz.prog zaO [.box id 0,.d (.int .i64 n)] σ K:=by
 refine zeE zrh fun hl => ?_
 simp only [zkO,iN,bT,bF,eN]
 refine zQ ?_
 refine zAR hσ ?_
 exact zgJ (by simp [zcq,dmT,zaU]) hl (zjQ _ _) hK
theorem c_askMany {σ:List zd} {id:Nat} {e n hi:Int} (hσ : σ[id]? = some (zgX e)) {K:KT} (hK:K (.tup []) (σ.set id (zgX (zok e (inE n 0 hi))))) :
  zj Tryz.prog zbl [.box id 0,.d (.int .i64 n),.d (.int .i64 hi)] σ K:=by
 refine zyo zqd fun hl => ?_
 simp only [zjC,iN,bT,bF,eN]
 refine zQ ?_
 refine zAR hσ ?_
 exact zgJ (by simp [zcq,dmT,zaU]) hl (zjQ _ _) hK
theorem fst_snoc (e:Int) (l:List Int) (x:Int):zok (zbg (e::l)) x=zbg (e::(l++[x])):=by
 rw [show e::(l++[x])=(e::l)++[x] from rfl,zjL]
 unfold zok
 split
 ·rfl
 ·simp [zbg]
theorem zrX {α β:Type} {f : α → β} {l:List α} {k:Nat} {x : α} (h:l[k]? = some x):(l.take (k+1)).map f=(l.take k).map f++[f x]:=by
 rw [List.take_add_one,h];simp
theorem wkc (k:Nat) (h:k<=1073741824):IntKind.i64.wrap ((k:Int)+1)=((k+1:Nat):Int):=by rw [zab (by omega) (by omega)];rfl
theorem fst1 (e x:Int):zbg [e,x]=zok e x:=by
 unfold zok
 simp only [zbg]
 split
 ·rfl
 ·split
  ·rfl
  ·rename_i h;simp at h;exact h.symm
theorem bft:((false:Bool)==true)=false:=rfl
theorem btf:((true:Bool)==false)=false:=rfl
theorem zfG {A P Q:Prop} (a:A) (h:Q) (e:A->Hd Q->P:=by intro a h;(repeat' first|simp -dsimp only [↓zhL, ↓zbi, ↓zcI, ↓zhM, ↓zhF, ↓zhD, ↓zhG, ↓zhE, ↓zcN, ↓zcJ, ↓zcO, ↓zcK, ↓zhH, ↓zcH, ↓zcP, ↓zcL, ↓zcQ, ↓zcM, ↓zhC, ↓zhK, ↓zcG, ↓zcR, ↓zhz, ↓zhy, ↓zhB,iN,bT,bF,eN, ↓zdT, ↓unC, ↓zam, ↓zY, ↓zZ, ↓zae, ↓zax, ↓zag, ↓zeQ, ↓zap, ↓zaQ, ↓zW, ↓zg, ↓zh, ↓zcW, ↓zb, ↓zaC, ↓zG, ↓zbv, ↓zbE, ↓zc, ↓zE, ↓zq, ↓zK, ↓zao, ↓zft, ↓zfB, ↓zaL, ↓zaX, ↓zbm, ↓zbC, ↓zcj, ↓zI, ↓zaH, ↓zaa, ↓zM, ↓zaw,zfE,zcw,zcp,unA,zeT,bnd,zgq,zaA,zL,zga,dm,dm1,zw,zad,zgP,zgO,zH,Q0,Q1,Q2,Q3,Q4,Q5,zay,zB,zD,zT,zP,Q6,Q7,Q8,Q9,Q10,Q11,Q12,Q13,Q14,Nat.reduceAdd,Q15,Int.reduceToNat,Q16,Q17,Q18,Q19,Q20,reduceIte,Q21,Q22,zU,rep,zar,zgW,toD,zaz,Q23,Q24,Q25,Q26,Q27,Q28,Nat.reduceLeDiff,Q29,Nat.reduceSub,Q30,Q31,Q32,sc,Q33,Q34,Q35,Q36,Q37,Q26,Q38,Q39,zwb,zvY,zvV,zwc,zks,zvZ,zvW,zwa,zvX,zkr,zkt,zwl,zwm,Bool.not_true,Bool.not_false,List.length_map,Bool.and_false,Bool.and_self,Bool.false_and,Bool.not_false,Bool.not_true,Bool.true_and,Int.toNat_natCast,Int.toNat_zero,List.drop_zero,List.length_map,List.length_nil,List.nil_append,List.take_length,Nat.sub_zero,Nat.zero_add,Option.isSome_none,Option.isSome_some,Option.map_none,Option.map_some,zX,beq_self_eq_true,bft,bne_self_eq_false,btf,zco,zdu,zat,zbh,hdrD,zdR,zlS,opA,zei,zfi,zfK,zaN,a]|with_reducible refine zxk ?_|fail);exact h.go):P:=e a ⟨h⟩
theorem zzq {σ:List zd} {id:Nat} {e:Int} {l:List zy} (hσ : σ[id]? = some (zgX e)) (hl0:l.length<=1073741824) {K:KT} (hK:K (.tup []) (σ.set id (zgX (zok e (zbg (zcs l)))))) :
  zj Tryz.prog zbc [.box id 0,.d (.slice (zO l))] σ K:=by
 refine zeE zoN fun hl => ?_
 have hlen:(zO l).length=l.length:=List.length_map ..
 have hid:=zcY hσ
 rw [thn_fst,zcs] at hK
 simp only [ziY,iN,bT,bF,eN]
 refine zA hlen ?_
 refine c_askMany hσ ?_
 refine zA hlen ?_
 refine zl l.length (fun k vs s=>vs = [.d (.int .i64 k)]/\∃ T,s = σ.set id (zgX (zbg (e::(inE l.length 0 13::(l.take k).map fun s=>zN s.key s.dig))))++T) ⟨rfl,[],by rw [List.take_zero,List.map_nil,fst1,List.append_nil]⟩ ?_
 rintro k vs s hk ⟨rfl,T,rfl⟩
 by_cases hlt:k<l.length
 ·have hd:decide ((k:Int)<(l.length:Int))=true:=by simp;omega
  have hx:l[k]? = some l[k]:=by simp [hlt]
  have hgx:=zF (f:=zfi) hx
  obtain ⟨x,hxe⟩:∃ x,l[k]=x:=⟨_,rfl⟩
  rw [hxe] at hx hgx
  have hmn:=zrX (f:=fun s:zy=>zN s.key s.dig) hx
  have fs:=fst_snoc e (inE l.length 0 13::(l.take k).map fun s=>zN s.key s.dig) (zN x.key x.dig)
  simp only [List.cons_append] at fs
  rw [← hmn] at fs
  obtain ⟨E,hE⟩:∃ E,zbg (e::(inE l.length 0 13::(l.take k).map fun s=>zN s.key s.dig))=E:=⟨_,rfl⟩
  rw [hE] at fs ⊢
  have hS:∀ τ,(σ.set id (zgX E) ++ τ)[id]? = some (zgX E):=fun τ=>zn (zcl hσ)
  refine zfG (zo hd (zo hgx hlen)) ?_
  refine zer ?_
  refine zQ ?_
  refine c_says (e:=E) (hS _) ?_
  rw [zbB (zcl hσ),List.set_set]
  refine zA (wkc k (by omega)) ?_
  exact zan.next hlt ⟨rfl,_,by rw [fs]⟩
 ·have hd:decide ((k:Int)<(l.length:Int))=false:=by simp;omega
  rw [List.take_of_length_le (by omega)]
  refine zA hd ?_
  exact zgS (by simp [zcq,dmT,zaU]) hl (zjQ _ _) hK
theorem zmD {A P Q:Prop} (a:A) (h:Q) (e:A->Hd Q->P:=by intro a h;(repeat' first|simp -dsimp only [↓zhL, ↓zbi, ↓zcI, ↓zhM, ↓zhF, ↓zhD, ↓zhG, ↓zhE, ↓zcN, ↓zcJ, ↓zcO, ↓zcK, ↓zhH, ↓zcH, ↓zcP, ↓zcL, ↓zcQ, ↓zcM, ↓zhC, ↓zhK, ↓zcG, ↓zcR, ↓zhz, ↓zhy, ↓zhB,iN,bT,bF,eN, ↓zdT, ↓unC, ↓zam, ↓zY, ↓zZ, ↓zae, ↓zax, ↓zag, ↓zeQ, ↓zap, ↓zaQ, ↓zW, ↓zg, ↓zh, ↓zcW, ↓zb, ↓zaC, ↓zG, ↓zbv, ↓zbE, ↓zc, ↓zE, ↓zq, ↓zK, ↓zao, ↓zft, ↓zfB, ↓zaL, ↓zaX, ↓zbm, ↓zbC, ↓zcj, ↓zI, ↓zaH, ↓zaa, ↓zM, ↓zaw,zfE,zcw,zcp,unA,zeT,bnd,zgq,zaA,zL,zga,dm,dm1,zw,zad,zgP,zgO,zH,Q0,Q1,Q2,Q3,Q4,Q5,zay,zB,zD,zT,zP,Q6,Q7,Q8,Q9,Q10,Q11,Q12,Q13,Q14,Nat.reduceAdd,Q15,Int.reduceToNat,Q16,Q17,Q18,Q19,Q20,reduceIte,Q21,Q22,zU,rep,zar,zgW,toD,zaz,Q23,Q24,Q25,Q26,Q27,Q28,Nat.reduceLeDiff,Q29,Nat.reduceSub,Q30,Q31,Q32,sc,Q33,Q34,Q35,Q36,Q37,Q26,Q38,Q39,zwb,zvY,zvV,zwc,zks,zvZ,zvW,zwa,zvX,zkr,zkt,zwl,zwm,Bool.not_true,Bool.not_false,List.length_map,Bool.and_false,Bool.and_self,Bool.false_and,Bool.not_false,Bool.not_true,Bool.true_and,Int.toNat_natCast,Int.toNat_zero,List.drop_zero,List.length_map,List.length_nil,List.nil_append,List.take_length,Nat.sub_zero,Nat.zero_add,Option.isSome_none,Option.isSome_some,Option.map_none,Option.map_some,zX,beq_self_eq_true,bft,bne_self_eq_false,btf,a]|with_reducible refine zxk ?_|fail);exact h.go):P:=e a ⟨h⟩
theorem c_askCert {σ:List zd} {id:Nat} {e:Int} {c:zeP} (hσ : σ[id]? = some (zgX e)) (hl0:c.signs.length<=1073741824) {K:KT} (hK:K (.tup []) (σ.set id (zgX (zok e (zbg (zdd c)))))) :
  zj Tryz.prog zcB [.box id 0,zdu c] σ K:=by
 refine zeE zqe fun hl => ?_
 have hlen:(zO c.signs).length=c.signs.length:=List.length_map ..
 simp only [zjD,iN,bT,bF,eN,zdu]
 have hB:∀ X,(σ.set id X++[zd.box [AV.d (D.int .i64 c.seq),AV.d (D.int .i64 c.dig),AV.d (D.slice (zO c.signs))]])[σ.length]? = some (zd.box [AV.d (D.int .i64 c.seq),AV.d (D.int .i64 c.dig),AV.d (D.slice (zO c.signs))]):=fun X=>by
  rw [List.getElem?_append_right (by simp)];simp
 have hS:∀ E τ,(σ.set id (zgX E) ++ τ)[id]? = some (zgX E):=fun E τ=>zn (zcl hσ)
 have hP:∀ E Y τ,(σ.set id (zgX E) ++ τ).set id Y = σ.set id Y ++ τ:=fun E Y τ=>by rw [zbB (zcl hσ),List.set_set]
 have e4:zok e (zbg (zdd c))=zok (zok (zok (zok e (zlL c.seq)) (zlL c.dig)) (zfd c)) (zbg (zcs c.signs)):=by
  simp only [zdd,zbg,zok]
  by_cases h0:e=0
  ·by_cases h1:zlL c.seq=0
   ·by_cases h2:zlL c.dig=0
    ·by_cases h3:zfd c=0
     ·simp [h0,h1,h2,h3]
     ·simp [h0,h1,h2,h3]
    ·simp [h0,h1,h2]
   ·simp [h0,h1]
  ·simp [h0]
 rw [e4] at hK
 refine zQ ?_
 refine zAQ (zn hσ) ?_
 rw [zbB hσ]
 refine zA hB ?_
 refine zAQ (hS _ _) ?_
 rw [hP]
 obtain ⟨E,hE⟩:∃ E,zok (zok e (zlL c.seq)) (zlL c.dig)=E:=⟨_,rfl⟩
 rw [hE] at hK ⊢
 have tail:∀ M,M=zfd c->zj Tryz.prog zbc [.box id 0,.d (.slice (zO c.signs))] (σ.set id (zgX (zok E M))++[zd.box [AV.d (D.int .i64 c.seq),AV.d (D.int .i64 c.dig),AV.d (D.slice (zO c.signs))]]) fun _ s=>AW.Ends σ.length K (some []) s:=fun M hM=>by
  subst hM
  refine zzq (hS _ _) hl0 ?_
  rw [hP]
  exact zgS (by simp [zcq,dmT,zaU]) hl (zjQ _ _) hK
 have no:zfd c=100->zj Tryz.prog zS [.box id 0,.d (.int .i64 100)] (σ.set id (zgX E)++[zd.box [AV.d (D.int .i64 c.seq),AV.d (D.int .i64 c.dig),AV.d (D.slice (zO c.signs))]]) fun _ s=>fl 2 (.box σ.length 0) s fun g s=>cA Tryz.prog zbc [.box id 0,g] s fun _ s=>AW.Ends σ.length K (some []) s:=fun h=>by
  refine c_says (hS _ _) ?_
  rw [hP]
  refine zA hB ?_
  exact tail 100 h.symm
 have yes:zfd c=0->zj Tryz.prog zbc [.box id 0,.d (.slice (zO c.signs))] (σ.set id (zgX E)++[zd.box [AV.d (D.int .i64 c.seq),AV.d (D.int .i64 c.dig),AV.d (D.slice (zO c.signs))]]) fun _ s=>AW.Ends σ.length K (some []) s:=fun h=>by
  have:=tail 0 h.symm
  rw [thn_0] at this
  exact this
 cases h1:(c.seq==0)
 ·cases h2:(c.dig==0)
  ·refine zmD (zo hB (zo h1 h2)) ?_
   exact yes (by simp at h1 h2;simp [zfd,h1,h2])
  ·refine zmD (zo hB (zo h1 h2)) ?_
   exact no (by simp at h1 h2;simp [zfd,h1,h2])
 ·cases h2:(c.dig==0)
  ·refine zmD (zo hB (zo h1 h2)) ?_
   exact no (by simp at h1 h2;simp [zfd,h1,h2])
  ·cases h3:decide ((c.signs.length:Int) > 0)
   ·refine zmD (zo hB (zo h1 (zo h2 (zo hlen h3)))) ?_
    exact yes (by simp at h1 h2 h3;simp [zfd,h1,h2,h3])
   ·refine zmD (zo hB (zo h1 (zo h2 (zo hlen h3)))) ?_
    exact no (by simp only [beq_iff_eq,decide_eq_true_eq] at h1 h2 h3;rw [zfd,if_pos (.inr ⟨h1,by omega⟩)])
end Go.Proofs.YtpgahkdjkanblaaGreat
