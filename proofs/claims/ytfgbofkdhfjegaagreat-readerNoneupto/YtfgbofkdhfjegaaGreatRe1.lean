/- Contracts: a client that reads: the program's. -/
import Derived.Test.YtfgbofkdhfjegaaGreatBt3
import Derived.Test.YtfgbofkdhfjegaaGreatCk4
import Derived.Test.YtfgbofkdhfjegaaGreatCk3
import Derived.Test.YtfgbofkdhfjegaaGreatMk8
import Derived.Test.YtfgbofkdhfjegaaGreatSpTop
set_option linter.all false
set_option maxRecDepth 100000
namespace Go.Proofs.YtfgbofkdhfjegaaGreat
open Go.AW
abbrev rdB (r : zrc) (tp lp rv : AV) : zh := .box [.d (.int .i64 r.f), .d (.int .i64 r.me), .d (.str r.topic), .d (.int .i64 r.next),tp,lp, .d (.int .i64 r.broker), .d (.int .i64 r.wait),rv]
section
variable {σ : List zh} {id a b a2 b2 : Nat} {r : zrc} {rv : AV} {K : KT} (hσ : σ[id]? = some (rdB r (.box a b) (.box a2 b2) rv))
include hσ
theorem zps (hK : K (.d (.bool false)) σ) : zp Tryz.prog zaw [.box id 0] σ K := by
 refine zeW zhD fun hl => ?_
 simp only [zeR,iN,bT,bF,eN]
 refine gq2 hσ ?_
 refine zT hl ?_
 exact hK
theorem c_rdNext (hK : K (.d (.int .i64 r.next)) σ) : zp Tryz.prog zcg [.box id 0] σ K := by
 refine zeW zhE fun hl => ?_
 simp only [zeS,iN,bT,bF,eN]
 refine gq1 ?_
 refine zps hσ ?_
 refine gq2 hσ ?_
 refine zT hl ?_
 exact hK
theorem c_rdAsk (hK : K (.d (.slice (outsE (askR r)))) σ) : zp Tryz.prog zbn [.box id 0] σ K := by
 refine zeW zix fun hl => ?_
 simp only [zfB,iN,bT,bF,eN,zl5,zl6]
 refine gq1 ?_
 refine zps hσ ?_
 cases h : (r.next == 9007199254740992)
 ·rw [askR,if_neg (by simpa using h)] at hK
  refine gq2 (zf hσ h) ?_
  refine zT hl ?_
  exact hK
 ·rw [askR,if_pos (by simpa using h)] at hK
  refine gq2 (zf hσ h) ?_
  refine zT hl ?_
  exact hK
end
abbrev zoI (l : List zbb) : List AV := (zbm l).flatten.map .d
abbrev rsv (t g : Nat) (l : List zbb) : AV := .rsl t g 3 0 l.length
theorem gq44 {A P Q : Prop} (a : A) (h : Q) (e : A → Hd Q → P := by intro a h; (repeat' first | simp -dsimp only [↓zfT, ↓zaI, ↓zbP, ↓zfV, ↓zfN, ↓zfL, ↓zfO, ↓zfM, ↓zbU, ↓zbQ, ↓zbV, ↓zbR, ↓zfP, ↓zbN, ↓zbW, ↓zbS, ↓zbX, ↓zbT, ↓zfK, ↓zfQ, ↓zbM, ↓zbY, ↓zfF, ↓zfE, ↓zfH,iN,bT,bF,eN, ↓zcJ, ↓unC, ↓zaa, ↓zK, ↓zL, ↓zO, ↓zaf, ↓zaz, ↓zcK, ↓zar, ↓zbk, ↓zR, ↓zo, ↓zj, ↓zbz, ↓zg, ↓zam, ↓zH, ↓zaV, ↓zbc, ↓ze, ↓zB, ↓zu, ↓zC, ↓zap, ↓zdk, ↓zdO, ↓zav, ↓zaF, ↓zaZ, ↓zbj, ↓zbt, ↓zA, ↓zas, ↓zM, ↓zF, ↓zae,zdP,zbI,zbC,unA,zdL,bnd,zeq,zag,zQ,zek,dm,dm1,zD,zak,zeP,zeO,zP,Q0,Q1,Q2,Q3,Q4,Q5,zW,zt,zy,zN,zJ,Q6,Q7,Q8,Q9,Q10,Q11,Q12,Q13,Q14,Nat.reduceAdd,Q15,Int.reduceToNat,Q16,Q17,Q18,Q19,Q20,reduceIte,Q21,Q22,zG,rep,zab,zfq,toD,zaq,Q23,Q24,Q25,Q26,Q27,Q28,Nat.reduceLeDiff,Q29,Nat.reduceSub,Q30,Q31,Q32,sc,Q33,Q34,Q35,Q36,Q37,Q26,Q38,Q39,zjD,zjA,zjx,zjE,zdf,zjB,zjy,zjC,zjz,zde,zdg,zjG,zjH,Bool.not_true,Bool.not_false,List.length_map,Bool.and_false,Bool.and_self,Bool.false_and,Bool.not_false,Bool.not_true,Bool.true_and,Int.toNat_natCast,Int.toNat_zero,List.drop_zero,List.length_map,List.length_nil,List.nil_append,List.take_length,Nat.sub_zero,Nat.zero_add,Option.isSome_none,Option.isSome_some,Option.map_none,Option.map_some,zdn,zaH,beq_self_eq_true,bft,bne_self_eq_false,btf,zpf,zek,a] | with_reducible refine zjK ?_ | fail); exact h.go) : P := e a ⟨h⟩
theorem zwq {σ : List zh} {id tid m t lid m2 t2 u g n : Nat} {r : zrc} {L : List (List UInt8)} {G : List zI} {x : zlS} {K : KT} (hσ : σ[id]? = some (rdB r (.box tid 0) (.box lid 0) (rsv u g r.L))) (hu : σ[u]? = some (.row g 3 (zoI r.L)))
  (hT : zdh σ tid m t L) (hG : zee σ lid m2 t2 G) (hL : zlT L) (hg : G.length ≤ 1073741824) (hI : RdrI n r) (hn : n ≤ 1048576) (hx : ziS x)
  (hbad : zgC L G r x ≠ 0 → ∀ τ,K (.tup [.d (.slice []), .d (.int .i64 (zgC L G r x))]) (σ ++ τ))
  (hok : zgC L G r x = 0 → ∀ g' τ,K (.tup [.d (.slice (outsE (askR (zeX r x)))), .d (.int .i64 0)]) ((σ.set u (.row g' 3 (zoI (zeX r x).L))).set id (rdB (zeX r x) (.box tid 0) (.box lid 0) (rsv u g' (zeX r x).L)) ++ τ)) :
  zp Tryz.prog zbg [.box id 0,msgA x] σ K := by
 refine zdV zhj.is rfl fun hl _ => zhj.goes ?_
 have hnx := hI.next
 have hln := hI.len
 have g0 : ∀ τ,(σ ++ τ)[id]? = some _ := fun τ => zd hσ
 have bad : ∀ z,zgC L G r x = z → z ≠ 0 → ∀ τ,ztI K (some [.exact [], .d (.int .i64 z)]) (σ ++ τ) := fun z h h0 τ => zfX (by subst h; exact hbad h0 τ)
 simp only [zho,iN,bT,bF,eN,zl4]
 refine gq1 ?_
 refine zps (zd hσ) ?_
 cases h1 : (x.kind != 12)
 rotate_left
 ·refine gq2 (zf h1 g0) ?_
  exact bad 250 (by rw [zgC,if_pos (.inl (by simpa using h1))]) (by omega) _
 have hk : x.kind = 12 := by simpa using h1
 refine gq2 (zf h1 g0) ?_
 refine c_mCheck12 hx hk ?_
 cases h2 : (zow x != 0)
 rotate_left
 ·refine gq2 (zf h2 g0) ?_
  exact bad 250 (by rw [zgC,if_pos (.inr (.inl (by simpa using h2)))]) (by omega) _
 refine gq2 (zf h2 g0) ?_
 have hce : zcv [true,false] [.d (.str x.proof.topic), .d (.int .i64 x.proof.offset)] [.d (.str r.topic), .d (.int .i64 r.next)] = some ((x.proof.topic == r.topic) && (x.proof.offset == r.next)) := by simp [zcv]
 cases h3 : ((x.proof.topic == r.topic) && (x.proof.offset == r.next))
 ·rw [h3] at hce
  refine gq2 (zf hce g0) ?_
  refine bad 250 ?_ (by omega) _
  rw [zgC,if_pos]
  simp only [Bool.and_eq_false_iff,beq_eq_false_iff_ne] at h3
  rcases h3 with h3 | h3
  ·exact .inr (.inr (.inl h3))
  ·exact .inr (.inr (.inr (.inl h3)))
 rw [h3] at hce
 simp only [Bool.and_eq_true,beq_iff_eq] at h3
 obtain ⟨h3,h3'⟩ := h3
 cases h4 : (x.proof.offset == 9007199254740992)
 rotate_left
 ·refine gq2 (zf hce (zf h4 g0)) ?_
  refine bad 250 ?_ (by omega) _
  rw [zgC,if_pos (.inr (.inr (.inr (.inr (by rw [← h3']; simpa using h4)))))]
 have h4' : r.next ≠ 9007199254740992 := by rw [← h3']; simpa using h4
 have ht : zgC L G r x = verPF L G r.f x.proof := by
  rw [zgC,if_neg]
  rintro (h | h | h | h | h)
  ·exact h hk
  ·exact h (by simpa using h2)
  ·exact h h3
  ·exact h h3'
  ·exact h4' h
 refine gq2 (zf hce (zf h4 g0)) ?_
 refine c_pfVerify (p := x.proof) (f := r.f) (hT.app _) (hG.app _) hL hg hx.proof ?_
 cases h5 : (verPF L G r.f x.proof != 0)
 rotate_left
 ·refine gq2 h5 ?_
  exact bad _ ht (by simpa using h5) _
 have h5' : zgC L G r x = 0 := by rw [ht]; simpa using h5
 have hok := hok h5'
 clear bad hbad
 have hui : u ≠ id := fun e => by rw [e,hσ] at hu; cases hu
 have hpc : (zoI r.L).length = r.L.length * 3 := by
  simp only [zoI,List.length_map]
  induction r.L with
  | nil => rfl
  | cons p l ih => simp only [zbm,List.map_cons,List.flatten_cons,List.length_append,List.length_cons] at ih ⊢; simp only [zgf,List.length_cons,List.length_nil]; omega
 have g1 : ∀ τ,(σ ++ τ)[u]? = some _ := fun τ => zd hu
 have s1 : ∀ τ Y,(σ ++ τ).set u Y = σ.set u Y ++ τ := fun τ Y => List.set_append_left _ _ (zx hu)
 have f1' : ∀ Y,(σ.set u Y)[id]? = some _ := fun Y => (List.getElem?_set_ne hui).trans hσ
 have f1 : ∀ Y τ,(σ.set u Y ++ τ)[id]? = some _ := fun Y τ => zd (f1' Y)
 have s2 : ∀ Y τ Z,(σ.set u Y ++ τ).set id Z = (σ.set u Y).set id Z ++ τ := fun Y τ Z => List.set_append_left _ _ (zx (f1' Y))
 have f2 : ∀ Y Z τ,((σ.set u Y).set id Z ++ τ)[id]? = some Z := fun Y Z τ => zd (List.getElem?_set_self (zx (f1' Y)))
 have s3 : ∀ Y Z τ Z',((σ.set u Y).set id Z ++ τ).set id Z' = (σ.set u Y).set id Z' ++ τ := fun Y Z τ Z' => by
  rw [List.set_append_left _ _ (by simpa using zx hσ),List.set_set]
 have w1 : IntKind.i64.wrap (r.next + 1) = r.next + 1 := zac (by omega) (by omega)
 refine gq2 (zf h5 g0) ?_
 refine c_clRec (by have := hx.proof.rec_; omega) ?_
 refine gq44 (zf g0 (zf g1 (zf s1 (zf f1 (zf s2 (zf f2 (zf s3 (zf w1 hpc)))))))) ?_
 have e1 : zoI (zeX r x).L = zoI r.L ++ [.d (.str x.proof.topic), .d (.int .i64 x.proof.offset), .d (.slice (bcs x.proof.rec_))] := by
  simp only [zoI,zeX,zbm,List.map_append,List.flatten_append,List.map_cons,List.map_nil,List.flatten_cons,List.flatten_nil,List.append_nil,zgf,h3,h3']
 have e2 : (zeX r x).L.length = r.L.length + 1 := by simp [zeX]
 have hok := hok (g + 1)
 rw [e1] at hok
 simp only [rsv,e2] at hok
 refine c_rdAsk (r := zeX r x) (rv := .rsl u (g + 1) 3 0 (r.L.length + 1)) (f2 _ _ _) ?_
 refine gq1 ?_
 refine zfX ?_
 exact hok _
theorem plCs_len (l : List zbb) : (zoI l).length = l.length * 3 := by
 simp only [zoI,List.length_map]
 induction l with
 | nil => rfl
 | cons p l ih => simp only [zbm,List.map_cons,List.flatten_cons,List.length_append,List.length_cons] at ih ⊢; simp only [zgf,List.length_cons,List.length_nil]; omega
theorem gq45 {A P Q : Prop} (a : A) (h : Q) (e : A → Hd Q → P := by intro a h; (repeat' first | simp -dsimp only [↓zfT, ↓zaI, ↓zbP, ↓zfV, ↓zfN, ↓zfL, ↓zfO, ↓zfM, ↓zbU, ↓zbQ, ↓zbV, ↓zbR, ↓zfP, ↓zbN, ↓zbW, ↓zbS, ↓zbX, ↓zbT, ↓zfK, ↓zfQ, ↓zbM, ↓zbY, ↓zfF, ↓zfE, ↓zfH,iN,bT,bF,eN, ↓zcJ, ↓unC, ↓zaa, ↓zK, ↓zL, ↓zO, ↓zaf, ↓zaz, ↓zcK, ↓zar, ↓zbk, ↓zR, ↓zo, ↓zj, ↓zbz, ↓zg, ↓zam, ↓zH, ↓zaV, ↓zbc, ↓ze, ↓zB, ↓zu, ↓zC, ↓zap, ↓zdk, ↓zdO, ↓zav, ↓zaF, ↓zaZ, ↓zbj, ↓zbt, ↓zA, ↓zas, ↓zM, ↓zF, ↓zae,zdP,zbI,zbC,unA,zdL,bnd,zeq,zag,zQ,zek,dm,dm1,zD,zak,zeP,zeO,zP,Q0,Q1,Q2,Q3,Q4,Q5,zW,zt,zy,zN,zJ,Q6,Q7,Q8,Q9,Q10,Q11,Q12,Q13,Q14,Nat.reduceAdd,Q15,Int.reduceToNat,Q16,Q17,Q18,Q19,Q20,reduceIte,Q21,Q22,zG,rep,zab,zfq,toD,zaq,Q23,Q24,Q25,Q26,Q27,Q28,Nat.reduceLeDiff,Q29,Nat.reduceSub,Q30,Q31,Q32,sc,Q33,Q34,Q35,Q36,Q37,Q26,Q38,Q39,zjD,zjA,zjx,zjE,zdf,zjB,zjy,zjC,zjz,zde,zdg,zjG,zjH,Bool.not_true,Bool.not_false,List.length_map,List.drop_zero,Nat.sub_zero,Nat.zero_mul,zdn,zpf,a] | with_reducible refine zjK ?_ | fail); exact h.go) : P := e a ⟨h⟩
theorem zth {σ : List zh} {u g : Nat} {l : List zbb} (hu : σ[u]? = some (.row g 3 (zoI l))) (hn : l.length ≤ 1048576) {K : KT} (hK : ∀ g',K (rsv σ.length g' l) (σ ++ [.row g' 3 (zoI l)])) :
  zp Tryz.prog zaW [rsv u g l] σ K := by
 refine zp.weaken ?_
 refine zbB zcA.is rfl (fun s => List.range' σ.length (s.length - σ.length)) fun hl _ => zcA.goes ?_
 have fin : ∀ g,zmN σ.length (fun s => List.range' σ.length (s.length - σ.length)) (fun r s => ∃ r' s',zoF [r] s [r'] s' ∧ K r' s') (some [rsv σ.length g l]) (σ ++ [.row g 3 (zoI l)]) := fun g =>
  zcp (σ' := σ) (os := [.row g 3 (zoI l)]) rfl (by simp) hl (by intro x hx; simp only [List.mem_cons,List.not_mem_nil,or_false] at hx; subst hx; exact zsv _ _) (.rsl _ _ _ _ _ (by simp)) ⟨_,_, .refl _ _,hK g⟩
 have hpc := plCs_len l
 simp only [zcB,iN,bT,bF,eN]
 have g1 : ∀ τ,(σ ++ τ)[u]? = some _ := fun τ => zd hu
 have tk : List.take (l.length * 3) (zoI l) = zoI l := List.take_of_length_le (by omega)
 simp only [zap,rsv,zdL]
 refine ⟨fun h0 => ⟨?_, ?_⟩,fun h0 => ?_⟩
 ·have hz : l = [] := List.eq_nil_of_length_eq_zero (by omega)
  subst hz
  refine gq1 ?_
  refine zli (r := .exact []) (by simp) hl rfl ?_
  exact ⟨.rsl σ.length 0 3 0 0, σ ++ [.row 0 3 []], .row 0 3 rfl (by omega) (.refl _ _),hK 0⟩
 all_goals
  refine gq45 (zf g1 tk) ?_
  exact fin 1
theorem row_sm {α : Type} {l : List α} {i : Nat} {x : α} (h : l[i]? = some x) : l.take i ++ x :: l.drop (i + 1) = l := by
 obtain ⟨hi,rfl⟩ := List.getElem?_eq_some_iff.1 h
 simp
theorem zqP (l : List zbb) : ∀ e ∈ zbm l,e.length = 3 := zjt (f := zgf) (fun _ => rfl) l
theorem c_rdReadM {σ : List zh} {id a b a2 b2 u g : Nat} {r : zrc} {K : KT} (hσ : σ[id]? = some (rdB r (.box a b) (.box a2 b2) (rsv u g r.L))) (hu : σ[u]? = some (.row g 3 (zoI r.L))) (hn : r.L.length ≤ 1048576) (hr : ∀ p ∈ r.L,p.rec_.length ≤ 16777216)
  (hK : ∀ g',K (rsv σ.length g' r.L) (σ ++ [.row g' 3 (zoI r.L)])) : zp Tryz.prog zaB [.box id 0] σ K := by
 refine zbB zcX.is rfl (fun s => List.range' σ.length 1) fun hl _ => zcX.goes ?_
 have h3 := zqP r.L
 have hlen : (zbm r.L).length = r.L.length := List.length_map ..
 simp only [zev,iN,bT,bF,eN]
 refine gq1 ?_
 refine zps hσ ?_
 refine gq2 hσ ?_
 refine zth hu hn fun g' => ?_
 refine gq5 ?_
 refine zr r.L.length (fun k vs s => vs = [.d (.int .i64 k)] ∧ s = σ ++ [.row g' 3 (zoI r.L)]) ⟨rfl,rfl⟩ ?_
 rintro k vs s hk ⟨rfl,rfl⟩
 by_cases hlt : k < r.L.length
 ·have hd : decide ((k : Int) < (r.L.length : Int)) = true := by simp; omega
  have hx : r.L[k]? = some r.L[k] := by simp [hlt]
  have hgx := zS (f := zgf) hx
  have hsm := hr _ (List.getElem_mem hlt)
  obtain ⟨p,hp⟩ : ∃ p,r.L[k] = p := ⟨_,rfl⟩
  rw [hp] at hx hgx hsm
  have g5 := znb h3 hgx (i := 2) (by omega)
  have s5 := row_sm g5
  have hfl : (zaE (zbm r.L)).length = r.L.length * 3 := by rw [zfa h3,hlen]
  have e5 : zaE (zbm r.L) = zoI r.L := rfl
  simp only [zgf,List.getElem?_cons_succ,List.getElem?_cons_zero,Option.map_some] at g5 s5
  rw [e5] at g5 s5 hfl
  obtain ⟨R,hR⟩ : ∃ R,zoI r.L = R := ⟨_,rfl⟩
  rw [hR] at g5 s5 hfl ⊢
  have z5 : k * 3 + 2 + 1 ≤ R.length := by omega
  have zk : 0 ≤ (k : Int) := by omega
  refine gq2 (zf hd (zf g5 (zf s5 (zf zk z5)))) ?_
  refine c_clRec (by omega) ?_
  refine gq2 (zf hd (zf g5 (zf s5 (zf zk (zf z5 (wki k (by omega))))))) ?_
  exact zaG.next hlt ⟨rfl,rfl⟩
 ·have hd : decide ((k : Int) < (r.L.length : Int)) = false := by simp; omega
  refine gq2 hd ?_
  exact zcp (σ' := σ) (os := [.row g' 3 (zoI r.L)]) rfl rfl hl (by intro x hx; simp only [List.mem_cons,List.not_mem_nil,or_false] at hx; subst hx; exact zsv _ _) (.rsl _ _ _ _ _ (by simp)) (hK g')
theorem frz_rw {σ : List zh} {n₀ m t g sz : Nat} {es : List (List D)} (ht : σ[t]? = some (.row g sz (zaE es))) (hn : n₀ ≤ t) (h : ∀ e ∈ es,e.length = sz) : frz σ n₀ (m + 2) (.rsl t g sz 0 es.length) = some (.slice es) := by
 have hf : ∀ ds : List D,allO ((ds.map AV.d).map (frz σ n₀ (m + 1))) = some ds := by
  intro ds
  induction ds with
  | nil => rfl
  | cons d ds ih =>
   have : frz σ n₀ (m + 1) (.d d) = some d := rfl
   simp only [List.map_cons,this,allO,ih]
 have hc : ∀ (es : List (List D)),(∀ e ∈ es,e.length = sz) → zaq sz es.length es.flatten = es := by
  intro es
  induction es with
  | nil => intro _; rfl
  | cons e es ih =>
   intro h
   have he := h e List.mem_cons_self
   simp only [List.length_cons,zaq,List.flatten_cons]
   rw [List.take_left' he,List.drop_left' he,ih fun x hx => h x (List.mem_cons_of_mem _ hx)]
 have hl : (zaE es).length = es.length * sz := zfa h
 simp only [frz,ht,hn,true_and,and_self,if_true,Nat.zero_mul,List.drop_zero,Nat.sub_zero]
 rw [List.take_of_length_le (by omega),hf]
 simp only
 rw [hc es h]
theorem frz_dd (σ : List zh) (n m : Nat) (x : D) : frz σ n m (.d x) = some x := by cases m <;> rfl
theorem c_rdRead {σ : List zh} {id a b a2 b2 u g : Nat} {r : zrc} {K : KT} (hσ : σ[id]? = some (rdB r (.box a b) (.box a2 b2) (rsv u g r.L))) (hu : σ[u]? = some (.row g 3 (zoI r.L))) (hn : r.L.length ≤ 1048576) (hr : ∀ p ∈ r.L,p.rec_.length ≤ 16777216)
  (hK : K (.d (.slice (zbm r.L))) σ) : zp Tryz.prog zaB [.box id 0] σ K := by
 have hlen : (zbm r.L).length = r.L.length := List.length_map ..
 refine zp.frz 2 (c_rdReadM hσ hu hn hr fun g' => ⟨_, ?_,by simp,hK⟩)
 have f1 : frz (σ ++ [.row g' 3 (zoI r.L)]) σ.length 2 (rsv σ.length g' r.L) = some (.slice (zbm r.L)) := by
  rw [rsv, ← hlen]
  exact frz_rw (m := 0) (by rw [zy]; rfl) (Nat.le_refl _) (zqP _)
 simp only [frzT,frz1,f1]
end Go.Proofs.YtfgbofkdhfjegaaGreat
