/- Contracts: a client that reads: the program's. -/
import Derived.Test.YtfgbofkdhfjegaaGreatBt3
import Derived.Test.YtfgbofkdhfjegaaGreatCk4
import Derived.Test.YtfgbofkdhfjegaaGreatCk3
import Derived.Test.YtfgbofkdhfjegaaGreatMk8
import Derived.Test.YtfgbofkdhfjegaaGreatSpTop
set_option linter.all false
set_option maxRecDepth 100000
namespace Go.Proofs.YtfgbofkdhfjegaaGreat
open Go.AW
abbrev rdB (r : zmW) (tp lp rv : AV) : zh := .box [.d (.int .i64 r.f), .d (.int .i64 r.me), .d (.str r.topic), .d (.int .i64 r.next),tp,lp, .d (.int .i64 r.broker), .d (.int .i64 r.wait),rv]
section
variable {σ : List zh} {id a b a2 b2 : Nat} {r : zmW} {rv : AV} {K : KT} (hσ : σ[id]? = some (rdB r (.box a b) (.box a2 b2) rv))
include hσ
theorem zmR (hK : K (.d (.bool false)) σ) : zr Tryz.prog zbe [.box id 0] σ K := by
 refine zgk zna fun hl => ?_
 simp only [zhs,iN,bT,bF,eN]
 refine gq2 hσ ?_
 refine zV hl ?_
 exact hK
theorem zmS (hK : K (.d (.int .i64 r.next)) σ) : zr Tryz.prog zbg [.box id 0] σ K := by
 refine zgk znb fun hl => ?_
 simp only [zhu,iN,bT,bF,eN]
 refine gq1 ?_
 refine zmR hσ ?_
 refine gq2 hσ ?_
 refine zV hl ?_
 exact hK
theorem zuQ (hK : K (.d (.int .i64 r.broker)) σ) : zr Tryz.prog zcS [.box id 0] σ K := by
 refine zgk zlD fun hl => ?_
 simp only [zgn,iN,bT,bF,eN]
 refine gq1 ?_
 refine zmR hσ ?_
 refine gq2 hσ ?_
 refine zV hl ?_
 exact hK
theorem c_rdAsk (hK : K (.d (.slice (outsE (askR r)))) σ) : zr Tryz.prog zcL [.box id 0] σ K := by
 refine zgk zoc fun hl => ?_
 simp only [ziz,iN,bT,bF,eN,zl5,zl6]
 refine gq1 ?_
 refine zmR hσ ?_
 cases h : (r.next == 9007199254740992)
 ·rw [askR,if_neg (by simpa using h)] at hK
  refine gq2 (zf hσ h) ?_
  refine zV hl ?_
  exact hK
 ·rw [askR,if_pos (by simpa using h)] at hK
  refine gq2 (zf hσ h) ?_
  refine zV hl ?_
  exact hK
end
theorem gq44 {A P Q : Prop} (a : A) (h : Q) (e : A → Hd Q → P := by intro a h; (repeat' first | simp -dsimp only [↓zeY, ↓zaC, ↓zbz, ↓zeZ, ↓zeU, ↓zeS, ↓zeV, ↓zeT, ↓zbE, ↓zbA, ↓zbF, ↓zbB, ↓zeW, ↓zby, ↓zbG, ↓zbC, ↓zbH, ↓zbD, ↓zeR, ↓zeX, ↓zbx, ↓zbJ, ↓zeP, ↓zeO, ↓zeQ,iN,bT,bF,eN, ↓zcF, ↓unC, ↓zW, ↓zK, ↓zL, ↓zN, ↓zad, ↓zax, ↓zcB, ↓zal, ↓zbj, ↓zQ, ↓zo, ↓zj, ↓zbr, ↓zg, ↓zai, ↓zH, ↓zaM, ↓zaV, ↓ze, ↓zD, ↓zw, ↓zB, ↓zao, ↓zdb, ↓zdx, ↓zaq, ↓zay, ↓zaU, ↓zbd, ↓zbl, ↓zu, ↓zan, ↓zM, ↓zE, ↓zaa,zdz,zbq,zbn,unA,zdy,bnd,zec,zaf,zS,zdY,dm,dm1,zC,zah,zen,zem,zP,Q0,Q1,Q2,Q3,Q4,Q5,zT,zx,zy,zO,zI,Q6,Q7,Q8,Q9,Q10,Q11,Q12,Q13,Q14,Nat.reduceAdd,Q15,Int.reduceToNat,Q16,Q17,Q18,Q19,Q20,reduceIte,Q21,Q22,zG,rep,zZ,zeF,toD,zaj,Q23,Q24,Q25,Q26,Q27,Q28,Nat.reduceLeDiff,Q29,Nat.reduceSub,Q30,Q31,Q32,sc,Q33,Q34,Q35,Q36,Q37,Q26,Q38,Q39,zii,zif,zic,zij,zcN,zig,zid,zih,zie,zcM,zcO,zim,zin,Bool.not_true,Bool.not_false,List.length_map,List.set_set,a] | with_reducible refine zix ?_ | fail); exact h.go) : P := e a ⟨h⟩
theorem c_rdTick {σ : List zh} {id a b a2 b2 n : Nat} {r : zmW} {rv : AV} {K : KT} (hσ : σ[id]? = some (rdB r (.box a b) (.box a2 b2) rv)) (hI : RdrI n r)
  (hK : ∀ τ,K (.d (.slice (outsE (tickO r)))) (σ.set id (rdB (ztH r) (.box a b) (.box a2 b2) rv) ++ τ)) : zr Tryz.prog zeJ [.box id 0] σ K := by
 refine zdw zhm.is rfl fun hl _ => zhm.goes ?_
 have hw := hI.wait
 have hb := hI.broker
 have hf := hI.f
 have w1 : IntKind.i64.wrap (r.wait + 1) = r.wait + 1 := zU (by omega) (by omega)
 have w2 : IntKind.i64.wrap (r.broker + 1) = r.broker + 1 := zU (by omega) (by omega)
 have g0 : ∀ Y,(σ.set id Y)[id]? = some Y := fun Y => List.getElem?_set_self (zA hσ)
 have ht : zdQ 3 r.f = 3 * r.f + 1 := by rw [zdQ,if_neg (by omega)]
 have nz : (zdQ 3 r.f == 0) = false := by rw [ht]; simp; omega
 simp only [zht,iN,bT,bF,eN]
 refine gq1 ?_
 refine zmR hσ ?_
 cases h : decide (r.wait + 1 < 4)
 ·have h' : ¬ (r.wait + 1 < 4) := by simpa using h
  simp only [tickO,ztH,if_neg h'] at hK
  refine gq44 (zf hσ (zf g0 (zf w1 (zf h w2)))) ?_
  refine zta ?_
  refine gq44 (zf g0 (zf w2 nz)) ?_
  refine c_rdAsk (r := { r with wait := 0,broker := (r.broker + 1).tmod (zdQ 3 r.f) }) (a := a) (b := b) (a2 := a2) (b2 := b2) (rv := rv) (g0 _) ?_
  refine gq1 ?_
  have := hK []
  rw [List.append_nil] at this
  exact zff this
 ·have h' : r.wait + 1 < 4 := by simpa using h
  simp only [tickO,ztH,if_pos h'] at hK
  refine gq44 (zf hσ (zf g0 (zf w1 h))) ?_
  have := hK []
  rw [List.append_nil] at this
  exact zff this
abbrev zpS (l : List zaX) : List AV := (zaT l).flatten.map .d
abbrev rsv (t g : Nat) (l : List zaX) : AV := .rsl t g 3 0 l.length
theorem gq45 {A P Q : Prop} (a : A) (h : Q) (e : A → Hd Q → P := by intro a h; (repeat' first | simp -dsimp only [↓zeY, ↓zaC, ↓zbz, ↓zeZ, ↓zeU, ↓zeS, ↓zeV, ↓zeT, ↓zbE, ↓zbA, ↓zbF, ↓zbB, ↓zeW, ↓zby, ↓zbG, ↓zbC, ↓zbH, ↓zbD, ↓zeR, ↓zeX, ↓zbx, ↓zbJ, ↓zeP, ↓zeO, ↓zeQ,iN,bT,bF,eN, ↓zcF, ↓unC, ↓zW, ↓zK, ↓zL, ↓zN, ↓zad, ↓zax, ↓zcB, ↓zal, ↓zbj, ↓zQ, ↓zo, ↓zj, ↓zbr, ↓zg, ↓zai, ↓zH, ↓zaM, ↓zaV, ↓ze, ↓zD, ↓zw, ↓zB, ↓zao, ↓zdb, ↓zdx, ↓zaq, ↓zay, ↓zaU, ↓zbd, ↓zbl, ↓zu, ↓zan, ↓zM, ↓zE, ↓zaa,zdz,zbq,zbn,unA,zdy,bnd,zec,zaf,zS,zdY,dm,dm1,zC,zah,zen,zem,zP,Q0,Q1,Q2,Q3,Q4,Q5,zT,zx,zy,zO,zI,Q6,Q7,Q8,Q9,Q10,Q11,Q12,Q13,Q14,Nat.reduceAdd,Q15,Int.reduceToNat,Q16,Q17,Q18,Q19,Q20,reduceIte,Q21,Q22,zG,rep,zZ,zeF,toD,zaj,Q23,Q24,Q25,Q26,Q27,Q28,Nat.reduceLeDiff,Q29,Nat.reduceSub,Q30,Q31,Q32,sc,Q33,Q34,Q35,Q36,Q37,Q26,Q38,Q39,zii,zif,zic,zij,zcN,zig,zid,zih,zie,zcM,zcO,zim,zin,Bool.not_true,Bool.not_false,List.length_map,Bool.and_false,Bool.and_self,Bool.false_and,Bool.not_false,Bool.not_true,Bool.true_and,Int.toNat_natCast,Int.toNat_zero,List.drop_zero,List.length_map,List.length_nil,List.nil_append,List.take_length,Nat.sub_zero,Nat.zero_add,Option.isSome_none,Option.isSome_some,Option.map_none,Option.map_some,zdO,zaJ,beq_self_eq_true,bft,bne_self_eq_false,btf,zoU,zdY,a] | with_reducible refine zix ?_ | fail); exact h.go) : P := e a ⟨h⟩
theorem zwh {σ : List zh} {id tid m t lid m2 t2 u g n : Nat} {r : zmW} {L : List (List UInt8)} {G : List zJ} {x : zlj} {K : KT} (hσ : σ[id]? = some (rdB r (.box tid 0) (.box lid 0) (rsv u g r.L))) (hu : σ[u]? = some (.row g 3 (zpS r.L)))
  (hT : zdo σ tid m t L) (hG : zee σ lid m2 t2 G) (hL : zlH L) (hg : G.length ≤ 1073741824) (hI : RdrI n r) (hn : n ≤ 1048576) (hx : ziR x)
  (hbad : zfD L G r x ≠ 0 → ∀ τ,K (.tup [.d (.slice []), .d (.int .i64 (zfD L G r x))]) (σ ++ τ))
  (hok : zfD L G r x = 0 → ∀ g' τ,K (.tup [.d (.slice (outsE (askR (zfa r x)))), .d (.int .i64 0)]) ((σ.set u (.row g' 3 (zpS (zfa r x).L))).set id (rdB (zfa r x) (.box tid 0) (.box lid 0) (rsv u g' (zfa r x).L)) ++ τ)) :
  zr Tryz.prog zcy [.box id 0,msgA x] σ K := by
 refine zdw zgR.is rfl fun hl _ => zgR.goes ?_
 have hnx := hI.next
 have hln := hI.len
 have g0 : ∀ τ,(σ ++ τ)[id]? = some _ := fun τ => zd hσ
 have bad : ∀ z,zfD L G r x = z → z ≠ 0 → ∀ τ,ztC K (some [.exact [], .d (.int .i64 z)]) (σ ++ τ) := fun z h h0 τ => zff (by subst h; exact hbad h0 τ)
 simp only [zgX,iN,bT,bF,eN,zl4]
 refine gq1 ?_
 refine zmR (zd hσ) ?_
 cases h1 : (x.kind != 12)
 rotate_left
 ·refine gq2 (zf h1 g0) ?_
  exact bad 250 (by rw [zfD,if_pos (.inl (by simpa using h1))]) (by omega) _
 have hk : x.kind = 12 := by simpa using h1
 refine gq2 (zf h1 g0) ?_
 refine c_mCheck12 hx hk ?_
 cases h2 : (zon x != 0)
 rotate_left
 ·refine gq2 (zf h2 g0) ?_
  exact bad 250 (by rw [zfD,if_pos (.inr (.inl (by simpa using h2)))]) (by omega) _
 refine gq2 (zf h2 g0) ?_
 have hce : zcr [true,false] [.d (.str x.proof.topic), .d (.int .i64 x.proof.offset)] [.d (.str r.topic), .d (.int .i64 r.next)] = some ((x.proof.topic == r.topic) && (x.proof.offset == r.next)) := by simp [zcr]
 cases h3 : ((x.proof.topic == r.topic) && (x.proof.offset == r.next))
 ·rw [h3] at hce
  refine gq2 (zf hce g0) ?_
  refine bad 250 ?_ (by omega) _
  rw [zfD,if_pos]
  simp only [Bool.and_eq_false_iff,beq_eq_false_iff_ne] at h3
  rcases h3 with h3 | h3
  ·exact .inr (.inr (.inl h3))
  ·exact .inr (.inr (.inr (.inl h3)))
 rw [h3] at hce
 simp only [Bool.and_eq_true,beq_iff_eq] at h3
 obtain ⟨h3,h3'⟩ := h3
 cases h4 : (x.proof.offset == 9007199254740992)
 rotate_left
 ·refine gq2 (zf hce (zf h4 g0)) ?_
  refine bad 250 ?_ (by omega) _
  rw [zfD,if_pos (.inr (.inr (.inr (.inr (by rw [← h3']; simpa using h4)))))]
 have h4' : r.next ≠ 9007199254740992 := by rw [← h3']; simpa using h4
 have ht : zfD L G r x = verPF L G r.f x.proof := by
  rw [zfD,if_neg]
  rintro (h | h | h | h | h)
  ·exact h hk
  ·exact h (by simpa using h2)
  ·exact h h3
  ·exact h h3'
  ·exact h4' h
 refine gq2 (zf hce (zf h4 g0)) ?_
 refine c_pfVerify (p := x.proof) (f := r.f) (hT.app _) (hG.app _) hL hg hx.proof ?_
 cases h5 : (verPF L G r.f x.proof != 0)
 rotate_left
 ·refine gq2 h5 ?_
  exact bad _ ht (by simpa using h5) _
 have h5' : zfD L G r x = 0 := by rw [ht]; simpa using h5
 have hok := hok h5'
 clear bad hbad
 have hui : u ≠ id := fun e => by rw [e,hσ] at hu; cases hu
 have hpc : (zpS r.L).length = r.L.length * 3 := by
  simp only [zpS,List.length_map]
  induction r.L with
  | nil => rfl
  | cons p l ih => simp only [zaT,List.map_cons,List.flatten_cons,List.length_append,List.length_cons] at ih ⊢; simp only [zdi,List.length_cons,List.length_nil]; omega
 have g1 : ∀ τ,(σ ++ τ)[u]? = some _ := fun τ => zd hu
 have s1 : ∀ τ Y,(σ ++ τ).set u Y = σ.set u Y ++ τ := fun τ Y => List.set_append_left _ _ (zA hu)
 have f1' : ∀ Y,(σ.set u Y)[id]? = some _ := fun Y => (List.getElem?_set_ne hui).trans hσ
 have f1 : ∀ Y τ,(σ.set u Y ++ τ)[id]? = some _ := fun Y τ => zd (f1' Y)
 have s2 : ∀ Y τ Z,(σ.set u Y ++ τ).set id Z = (σ.set u Y).set id Z ++ τ := fun Y τ Z => List.set_append_left _ _ (zA (f1' Y))
 have f2 : ∀ Y Z τ,((σ.set u Y).set id Z ++ τ)[id]? = some Z := fun Y Z τ => zd (List.getElem?_set_self (zA (f1' Y)))
 have s3 : ∀ Y Z τ Z',((σ.set u Y).set id Z ++ τ).set id Z' = (σ.set u Y).set id Z' ++ τ := fun Y Z τ Z' => by
  rw [List.set_append_left _ _ (by simpa using zA hσ),List.set_set]
 have w1 : IntKind.i64.wrap (r.next + 1) = r.next + 1 := zU (by omega) (by omega)
 refine gq2 (zf h5 g0) ?_
 refine c_clRec (by have := hx.proof.rec_; omega) ?_
 refine gq45 (zf g0 (zf g1 (zf s1 (zf f1 (zf s2 (zf f2 (zf s3 (zf w1 hpc)))))))) ?_
 have e1 : zpS (zfa r x).L = zpS r.L ++ [.d (.str x.proof.topic), .d (.int .i64 x.proof.offset), .d (.slice (bcs x.proof.rec_))] := by
  simp only [zpS,zfa,zaT,List.map_append,List.flatten_append,List.map_cons,List.map_nil,List.flatten_cons,List.flatten_nil,List.append_nil,zdi,h3,h3']
 have e2 : (zfa r x).L.length = r.L.length + 1 := by simp [zfa]
 have hok := hok (g + 1)
 rw [e1] at hok
 simp only [rsv,e2] at hok
 refine c_rdAsk (r := zfa r x) (rv := .rsl u (g + 1) 3 0 (r.L.length + 1)) (f2 _ _ _) ?_
 refine gq1 ?_
 refine zff ?_
 exact hok _
theorem plCs_len (l : List zaX) : (zpS l).length = l.length * 3 := by
 simp only [zpS,List.length_map]
 induction l with
 | nil => rfl
 | cons p l ih => simp only [zaT,List.map_cons,List.flatten_cons,List.length_append,List.length_cons] at ih ⊢; simp only [zdi,List.length_cons,List.length_nil]; omega
theorem gq46 {A P Q : Prop} (a : A) (h : Q) (e : A → Hd Q → P := by intro a h; (repeat' first | simp -dsimp only [↓zeY, ↓zaC, ↓zbz, ↓zeZ, ↓zeU, ↓zeS, ↓zeV, ↓zeT, ↓zbE, ↓zbA, ↓zbF, ↓zbB, ↓zeW, ↓zby, ↓zbG, ↓zbC, ↓zbH, ↓zbD, ↓zeR, ↓zeX, ↓zbx, ↓zbJ, ↓zeP, ↓zeO, ↓zeQ,iN,bT,bF,eN, ↓zcF, ↓unC, ↓zW, ↓zK, ↓zL, ↓zN, ↓zad, ↓zax, ↓zcB, ↓zal, ↓zbj, ↓zQ, ↓zo, ↓zj, ↓zbr, ↓zg, ↓zai, ↓zH, ↓zaM, ↓zaV, ↓ze, ↓zD, ↓zw, ↓zB, ↓zao, ↓zdb, ↓zdx, ↓zaq, ↓zay, ↓zaU, ↓zbd, ↓zbl, ↓zu, ↓zan, ↓zM, ↓zE, ↓zaa,zdz,zbq,zbn,unA,zdy,bnd,zec,zaf,zS,zdY,dm,dm1,zC,zah,zen,zem,zP,Q0,Q1,Q2,Q3,Q4,Q5,zT,zx,zy,zO,zI,Q6,Q7,Q8,Q9,Q10,Q11,Q12,Q13,Q14,Nat.reduceAdd,Q15,Int.reduceToNat,Q16,Q17,Q18,Q19,Q20,reduceIte,Q21,Q22,zG,rep,zZ,zeF,toD,zaj,Q23,Q24,Q25,Q26,Q27,Q28,Nat.reduceLeDiff,Q29,Nat.reduceSub,Q30,Q31,Q32,sc,Q33,Q34,Q35,Q36,Q37,Q26,Q38,Q39,zii,zif,zic,zij,zcN,zig,zid,zih,zie,zcM,zcO,zim,zin,Bool.not_true,Bool.not_false,List.length_map,List.drop_zero,Nat.sub_zero,Nat.zero_mul,zdO,zoU,a] | with_reducible refine zix ?_ | fail); exact h.go) : P := e a ⟨h⟩
theorem c_clPlacedR {σ : List zh} {u g : Nat} {l : List zaX} (hu : σ[u]? = some (.row g 3 (zpS l))) (hn : l.length ≤ 1048576) {K : KT} (hK : ∀ g',K (rsv σ.length g' l) (σ ++ [.row g' 3 (zpS l)])) :
  zr Tryz.prog zbO [rsv u g l] σ K := by
 refine zr.weaken ?_
 refine zce zcz.is rfl (fun s => List.range' σ.length (s.length - σ.length)) fun hl _ => zcz.goes ?_
 have fin : ∀ g,zni σ.length (fun s => List.range' σ.length (s.length - σ.length)) (fun r s => ∃ r' s',zov [r] s [r'] s' ∧ K r' s') (some [rsv σ.length g l]) (σ ++ [.row g 3 (zpS l)]) := fun g =>
  zdd (σ' := σ) (os := [.row g 3 (zpS l)]) rfl (by simp) hl (by intro x hx; simp only [List.mem_cons,List.not_mem_nil,or_false] at hx; subst hx; exact zsm _ _) (.rsl _ _ _ _ _ (by simp)) ⟨_,_, .refl _ _,hK g⟩
 have hpc := plCs_len l
 simp only [zcA,iN,bT,bF,eN]
 have g1 : ∀ τ,(σ ++ τ)[u]? = some _ := fun τ => zd hu
 have tk : List.take (l.length * 3) (zpS l) = zpS l := List.take_of_length_le (by omega)
 simp only [zao,rsv,zdy]
 refine ⟨fun h0 => ⟨?_, ?_⟩,fun h0 => ?_⟩
 ·have hz : l = [] := List.eq_nil_of_length_eq_zero (by omega)
  subst hz
  refine gq1 ?_
  refine zkU (r := .exact []) (by simp) hl rfl ?_
  exact ⟨.rsl σ.length 0 3 0 0, σ ++ [.row 0 3 []], .row 0 3 rfl (by omega) (.refl _ _),hK 0⟩
 all_goals
  refine gq46 (zf g1 tk) ?_
  exact fin 1
theorem row_sm {α : Type} {l : List α} {i : Nat} {x : α} (h : l[i]? = some x) : l.take i ++ x :: l.drop (i + 1) = l := by
 obtain ⟨hi,rfl⟩ := List.getElem?_eq_some_iff.1 h
 simp
theorem zqI (l : List zaX) : ∀ e ∈ zaT l,e.length = 3 := zjq (f := zdi) (fun _ => rfl) l
theorem c_rdReadM {σ : List zh} {id a b a2 b2 u g : Nat} {r : zmW} {K : KT} (hσ : σ[id]? = some (rdB r (.box a b) (.box a2 b2) (rsv u g r.L))) (hu : σ[u]? = some (.row g 3 (zpS r.L))) (hn : r.L.length ≤ 1048576) (hr : ∀ p ∈ r.L,p.rec_.length ≤ 16777216)
  (hK : ∀ g',K (rsv σ.length g' r.L) (σ ++ [.row g' 3 (zpS r.L)])) : zr Tryz.prog zbf [.box id 0] σ K := by
 refine zce zgS.is rfl (fun s => List.range' σ.length 1) fun hl _ => zgS.goes ?_
 have h3 := zqI r.L
 have hlen : (zaT r.L).length = r.L.length := List.length_map ..
 simp only [zgY,iN,bT,bF,eN]
 refine gq1 ?_
 refine zmR hσ ?_
 refine gq2 hσ ?_
 refine c_clPlacedR hu hn fun g' => ?_
 refine gq5 ?_
 refine zt r.L.length (fun k vs s => vs = [.d (.int .i64 k)] ∧ s = σ ++ [.row g' 3 (zpS r.L)]) ⟨rfl,rfl⟩ ?_
 rintro k vs s hk ⟨rfl,rfl⟩
 by_cases hlt : k < r.L.length
 ·have hd : decide ((k : Int) < (r.L.length : Int)) = true := by simp; omega
  have hx : r.L[k]? = some r.L[k] := by simp [hlt]
  have hgx := zR (f := zdi) hx
  have hsm := hr _ (List.getElem_mem hlt)
  obtain ⟨p,hp⟩ : ∃ p,r.L[k] = p := ⟨_,rfl⟩
  rw [hp] at hx hgx hsm
  have g5 := zmN h3 hgx (i := 2) (by omega)
  have s5 := row_sm g5
  have hfl : (zaE (zaT r.L)).length = r.L.length * 3 := by rw [zfd h3,hlen]
  have e5 : zaE (zaT r.L) = zpS r.L := rfl
  simp only [zdi,List.getElem?_cons_succ,List.getElem?_cons_zero,Option.map_some] at g5 s5
  rw [e5] at g5 s5 hfl
  obtain ⟨R,hR⟩ : ∃ R,zpS r.L = R := ⟨_,rfl⟩
  rw [hR] at g5 s5 hfl ⊢
  have z5 : k * 3 + 2 + 1 ≤ R.length := by omega
  have zk : 0 ≤ (k : Int) := by omega
  refine gq2 (zf hd (zf g5 (zf s5 (zf zk z5)))) ?_
  refine c_clRec (by omega) ?_
  refine gq2 (zf hd (zf g5 (zf s5 (zf zk (zf z5 (wki k (by omega))))))) ?_
  exact zaF.next hlt ⟨rfl,rfl⟩
 ·have hd : decide ((k : Int) < (r.L.length : Int)) = false := by simp; omega
  refine gq2 hd ?_
  exact zdd (σ' := σ) (os := [.row g' 3 (zpS r.L)]) rfl rfl hl (by intro x hx; simp only [List.mem_cons,List.not_mem_nil,or_false] at hx; subst hx; exact zsm _ _) (.rsl _ _ _ _ _ (by simp)) (hK g')
theorem frz_rw {σ : List zh} {n₀ m t g sz : Nat} {es : List (List D)} (ht : σ[t]? = some (.row g sz (zaE es))) (hn : n₀ ≤ t) (h : ∀ e ∈ es,e.length = sz) : frz σ n₀ (m + 2) (.rsl t g sz 0 es.length) = some (.slice es) := by
 have hf : ∀ ds : List D,allO ((ds.map AV.d).map (frz σ n₀ (m + 1))) = some ds := by
  intro ds
  induction ds with
  | nil => rfl
  | cons d ds ih =>
   have : frz σ n₀ (m + 1) (.d d) = some d := rfl
   simp only [List.map_cons,this,allO,ih]
 have hc : ∀ (es : List (List D)),(∀ e ∈ es,e.length = sz) → zaj sz es.length es.flatten = es := by
  intro es
  induction es with
  | nil => intro _; rfl
  | cons e es ih =>
   intro h
   have he := h e List.mem_cons_self
   simp only [List.length_cons,zaj,List.flatten_cons]
   rw [List.take_left' he,List.drop_left' he,ih fun x hx => h x (List.mem_cons_of_mem _ hx)]
 have hl : (zaE es).length = es.length * sz := zfd h
 simp only [frz,ht,hn,true_and,and_self,if_true,Nat.zero_mul,List.drop_zero,Nat.sub_zero]
 rw [List.take_of_length_le (by omega),hf]
 simp only
 rw [hc es h]
theorem frz_dd (σ : List zh) (n m : Nat) (x : D) : frz σ n m (.d x) = some x := by cases m <;> rfl
theorem zpk {σ : List zh} {id a b a2 b2 u g : Nat} {r : zmW} {K : KT} (hσ : σ[id]? = some (rdB r (.box a b) (.box a2 b2) (rsv u g r.L))) (hu : σ[u]? = some (.row g 3 (zpS r.L))) (hn : r.L.length ≤ 1048576) (hr : ∀ p ∈ r.L,p.rec_.length ≤ 16777216)
  (hK : K (.d (.slice (zaT r.L))) σ) : zr Tryz.prog zbf [.box id 0] σ K := by
 have hlen : (zaT r.L).length = r.L.length := List.length_map ..
 refine zr.frz 2 (c_rdReadM hσ hu hn hr fun g' => ⟨_, ?_,by simp,hK⟩)
 have f1 : frz (σ ++ [.row g' 3 (zpS r.L)]) σ.length 2 (rsv σ.length g' r.L) = some (.slice (zaT r.L)) := by
  rw [rsv, ← hlen]
  exact frz_rw (m := 0) (by rw [zy]; rfl) (Nat.le_refl _) (zqI _)
 simp only [frzT,frz1,f1]
end Go.Proofs.YtfgbofkdhfjegaaGreat
