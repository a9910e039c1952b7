/- Contract: a proof is turned. -/
import Derived.Test.YtfjommppajkpoaaGreatBt2
import Derived.Test.YtfjommppajkpoaaGreatSpBulk
import Derived.Test.YtfjommppajkpoaaGreatPt2
set_option linter.all false
set_option maxRecDepth 100000
namespace Go.Proofs.YtfjommppajkpoaaGreat
open Go.AW
def zrj (n : Int) (len : Nat) : Nat := ((IntKind.u64.wrap n).tmod len).toNat
def zcE (p : zaE) (w : zmk) : zaE :=
 if w.do_ = 1 then { p with rec_ := w.rec_ }
 else if w.do_ = 2 then { p with offset := IntKind.i64.wrap (p.offset + 1) }
 else if w.do_ = 3 then { p with index := IntKind.i64.wrap (p.index + 1) }
 else if w.do_ = 4 then { p with count := IntKind.i64.wrap (p.count + w.n.tmod 3) }
 else if w.do_ = 5 then { p with path := p.path.set (zrj w.n p.path.length) w.dig }
 else if w.do_ = 6 then { p with headers := p.headers.drop 1 }
 else if w.do_ = 7 then { p with headers := p.headers.take (p.headers.length - 1) }
 else if w.do_ = 8 then { p with headers := p.headers.modify (zrj w.n p.headers.length) fun h => { h with root := w.dig } }
 else if w.do_ = 9 then { p with cert := { p.cert with signs := p.cert.signs.drop 1 } }
 else if w.do_ = 10 then { p with cert := { p.cert with dig := w.dig } }
 else if w.do_ = 11 then { p with cert := { p.cert with signs := p.cert.signs ++ [⟨w.n.tmod 13,w.dig⟩] } }
 else if w.do_ = 12 then { p with path := p.path ++ [w.dig] }
 else p
def zkt (p : zaE) (l : List zmk) : zaE := l.foldl zcE p
abbrev trC (n : Nat) (q : zaE) (gh lo hi gp gs lo2 hi2 : Nat) : List AV :=
 [.d (.str q.topic), .d (.int .i64 q.offset), .d (.slice (bcs q.rec_)), .rsl (n + 2) gh 5 lo hi, .d (.int .i64 q.index), .d (.int .i64 q.count), .rsl (n + 3) gp 1 0 q.path.length, .d (.int .i64 q.cert.seq), .d (.int .i64 q.cert.dig), .rsl (n + 4) gs 2 lo2 hi2]
abbrev zero10 : List AV := [.d (.str []), .d (.int .i64 0), .exact [], .exact [], .d (.int .i64 0), .d (.int .i64 0), .exact [], .d (.int .i64 0), .d (.int .i64 0), .exact []]
structure TrJ (σ : List zg) (k gh lo hi gp gs lo2 : Nat) (H : List zdW) (G : List zI) (q : zaE) (S : List zg) : Prop where
 a : S[σ.length]? = some (.box (trC σ.length q gh lo hi gp gs lo2 G.length))
 b : S[σ.length + 1]? = some (.box zero10)
 h : S[σ.length + 2]? = some (.row gh 5 (zaa (zdf H)))
 p : S[σ.length + 3]? = some (.row gp 1 (zaa (zbd q.path)))
 s : S[σ.length + 4]? = some (.row gs 2 (zaa (zas G)))
 hh : q.headers = (H.take hi).drop lo
 h1 : lo ≤ hi ∧ hi ≤ H.length ∧ H.length ≤ 1073741824
 ss : q.cert.signs = G.drop lo2
 s1 : lo2 ≤ G.length ∧ G.length ≤ 1073741824 + k
 p1 : q.path.length ≤ 1073741824 + k
 pre : S.take σ.length = σ
section
variable {σ S : List zg} {k gh lo hi gp gs lo2 : Nat} {H : List zdW} {G : List zI} {q : zaE}
theorem TrJ.app (j : TrJ σ k gh lo hi gp gs lo2 H G q S) (τ : List zg) : TrJ σ k gh lo hi gp gs lo2 H G q (S ++ τ) :=
 ⟨zf j.a,zf j.b,zf j.h,zf j.p,zf j.s,j.hh,j.h1,j.ss,j.s1,j.p1,by rw [List.take_append_of_le_length (by have := zA j.a; omega)]; exact j.pre⟩
theorem zcz {S : List zg} {n i : Nat} {y : zg} (h : n ≤ i) : (S.set i y).take n = S.take n := by
 rw [List.take_set,List.set_eq_of_length_le (by rw [List.length_take]; omega)]
theorem TrJ.set (j : TrJ σ k gh lo hi gp gs lo2 H G q S) (q' : zaE) (h : q'.headers = q.headers) (p : q'.path = q.path) (s : q'.cert.signs = q.cert.signs) : TrJ σ (k + 1) gh lo hi gp gs lo2 H G q' (S.set σ.length (.box (trC σ.length q' gh lo hi gp gs lo2 G.length))) :=
 ⟨List.getElem?_set_self (zA j.a),zd _ j.b (by omega),zd _ j.h (by omega),by rw [p]; exact zd _ j.p (by omega),zd _ j.s (by omega),h ▸ j.hh,j.h1,s ▸ j.ss,⟨j.s1.1,by have := j.s1.2; omega⟩,by rw [p]; have := j.p1; omega,by rw [zcz (Nat.le_refl _)]; exact j.pre⟩
theorem TrJ.path {i : Nat} (j : TrJ σ k gh lo hi gp gs lo2 H G q S) (d : Int) (h : i < q.path.length) : TrJ σ (k + 1) gh lo hi gp gs lo2 H G { q with path := q.path.set i d } (S.set (σ.length + 3) (.row gp 1 (zaa (zbd (q.path.set i d))))) :=
 ⟨by rw [trC,List.length_set]; exact zd _ j.a (by omega),zd _ j.b (by omega),zd _ j.h (by omega),List.getElem?_set_self (zA j.p),zd _ j.s (by omega),j.hh,j.h1,j.ss,⟨j.s1.1,by have := j.s1.2; omega⟩,by simp only [List.length_set]; have := j.p1; omega,by rw [zcz (by omega)]; exact j.pre⟩
theorem TrJ.hdrs (j : TrJ σ k gh lo hi gp gs lo2 H G q S) (lo' hi' : Nat) (h1 : lo' ≤ hi') (h2 : hi' ≤ H.length) : TrJ σ (k + 1) gh lo' hi' gp gs lo2 H G { q with headers := (H.take hi').drop lo' } (S.set σ.length (.box (trC σ.length q gh lo' hi' gp gs lo2 G.length))) :=
 ⟨List.getElem?_set_self (zA j.a),zd _ j.b (by omega),zd _ j.h (by omega),zd _ j.p (by omega),zd _ j.s (by omega),rfl,⟨h1,h2,j.h1.2.2⟩,j.ss,⟨j.s1.1,by have := j.s1.2; omega⟩,by have := j.p1; simp only; omega,by rw [zcz (Nat.le_refl _)]; exact j.pre⟩
theorem TrJ.sgns (j : TrJ σ k gh lo hi gp gs lo2 H G q S) (lo' : Nat) (h1 : lo' ≤ G.length) : TrJ σ (k + 1) gh lo hi gp gs lo' H G { q with cert := { q.cert with signs := G.drop lo' } } (S.set σ.length (.box (trC σ.length q gh lo hi gp gs lo' G.length))) :=
 ⟨List.getElem?_set_self (zA j.a),zd _ j.b (by omega),zd _ j.h (by omega),zd _ j.p (by omega),zd _ j.s (by omega),j.hh,j.h1,rfl,⟨h1,by have := j.s1.2; omega⟩,by have := j.p1; simp only; omega,by rw [zcz (Nat.le_refl _)]; exact j.pre⟩
theorem TrJ.row (j : TrJ σ k gh lo hi gp gs lo2 H G q S) (H' : List zdW) (hl : H'.length = H.length) : TrJ σ (k + 1) gh lo hi gp gs lo2 H' G { q with headers := (H'.take hi).drop lo } (S.set (σ.length + 2) (.row gh 5 (zaa (zdf H')))) :=
 ⟨zd _ j.a (by omega),zd _ j.b (by omega),List.getElem?_set_self (zA j.h),zd _ j.p (by omega),zd _ j.s (by omega),rfl,by rw [hl]; exact j.h1,j.ss,⟨j.s1.1,by have := j.s1.2; omega⟩,by have := j.p1; simp only; omega,by rw [zcz (by omega)]; exact j.pre⟩
theorem TrJ.growS (j : TrJ σ k gh lo hi gp gs lo2 H G q S) (G' : List zI) (hl : G'.length ≤ 1073741824 + (k + 1)) (g n : Nat) (hn : n = G'.length) : TrJ σ (k + 1) gh lo hi gp g 0 H G' { q with cert := { q.cert with signs := G' } } ((S.set (σ.length + 4) (.row g 2 (zaa (zas G')))).set σ.length (.box (trC σ.length q gh lo hi gp g 0 n))) := by
 subst hn
 exact ⟨List.getElem?_set_self (by have := zA j.a; simpa using this),zd _ (zd _ j.b (by omega)) (by omega),zd _ (zd _ j.h (by omega)) (by omega),zd _ (zd _ j.p (by omega)) (by omega),zd _ (List.getElem?_set_self (zA j.s)) (by omega),j.hh,j.h1,rfl,⟨by omega,hl⟩,by have := j.p1; simp only; omega,by rw [zcz (Nat.le_refl _),zcz (by omega)]; exact j.pre⟩
theorem TrJ.growP (j : TrJ σ k gh lo hi gp gs lo2 H G q S) (d : Int) (g : Nat) : TrJ σ (k + 1) gh lo hi g gs lo2 H G { q with path := q.path ++ [d] } ((S.set (σ.length + 3) (.row g 1 (zaa (zbd (q.path ++ [d]))))).set σ.length (.box [.d (.str q.topic), .d (.int .i64 q.offset), .d (.slice (bcs q.rec_)), .rsl (σ.length + 2) gh 5 lo hi, .d (.int .i64 q.index), .d (.int .i64 q.count), .rsl (σ.length + 3) g 1 0 (q.path.length + 1), .d (.int .i64 q.cert.seq), .d (.int .i64 q.cert.dig), .rsl (σ.length + 4) gs 2 lo2 G.length])) :=
 ⟨by rw [trC,List.length_append]; exact List.getElem?_set_self (by have := zA j.a; simpa using this),zd _ (zd _ j.b (by omega)) (by omega),zd _ (zd _ j.h (by omega)) (by omega),zd _ (List.getElem?_set_self (zA j.p)) (by omega),zd _ (zd _ j.s (by omega)) (by omega),j.hh,j.h1,j.ss,⟨j.s1.1,by have := j.s1.2; omega⟩,by rw [List.length_append]; have := j.p1; simp only [List.length_cons,List.length_nil]; omega,by rw [zcz (Nat.le_refl _),zcz (by omega)]; exact j.pre⟩
theorem TrJ.next (j : TrJ σ k gh lo hi gp gs lo2 H G q S) : TrJ σ (k + 1) gh lo hi gp gs lo2 H G q S :=
 ⟨j.a,j.b,j.h,j.p,j.s,j.hh,j.h1,j.ss,⟨j.s1.1,by have := j.s1.2; omega⟩,by have := j.p1; omega,j.pre⟩
end
theorem List.set_eq_take_append_cons_drop_lt {α : Type} {l : List α} {i : Nat} {x : α} (h : i < l.length) : l.set i x = l.take i ++ x :: l.drop (i + 1) := by
 rw [List.set_eq_take_append_cons_drop,if_pos h]
theorem znE {sz : Nat} {es : List (List D)} (h : ∀ e ∈ es,e.length = sz := by intro e he; obtain ⟨x,_,rfl⟩ := List.mem_map.1 he; rfl) : es.flatten.length = es.length * sz := by
 have := zdG h
 rwa [List.length_map] at this
theorem modify_slice {H : List zdW} {lo hi i : Nat} (f : zdW → zdW) (h1 : lo + i < hi) (h2 : lo + i < H.length) : ((H.take hi).drop lo).modify i f = ((H.set (lo + i) (f H[lo + i])).take hi).drop lo := by
 apply List.ext_getElem?
 intro m
 simp only [List.getElem?_modify,List.getElem?_drop,List.getElem?_take,List.getElem?_set]
 by_cases hm : i = m
 ·subst hm
  simp [h1,h2]
 ·have : ¬ lo + i = lo + m := by omega
  simp only [hm,this,if_false]
  split <;> simp
theorem wu64 (n : Int) : IntKind.u64.wrap n = n % 18446744073709551616 := rfl
theorem idx_facts (n : Int) {len : Nat} (h0 : 0 < len) (h1 : len ≤ 9000000000000000000) : IntKind.u64.wrap (len : Int) = len ∧ (IntKind.u64.wrap n).tmod (len : Int) = (zrj n len : Int) ∧ IntKind.i64.wrap (zrj n len : Int) = (zrj n len : Int) ∧ zrj n len < len := by
 have hw : 0 ≤ IntKind.u64.wrap n := by rw [wu64]; omega
 have h2 := Int.tmod_lt_of_pos (IntKind.u64.wrap n) (b := (len : Int)) (by omega)
 have h3 := Int.tmod_nonneg (len : Int) hw
 have e : (IntKind.u64.wrap n).tmod (len : Int) = (zrj n len : Int) := by rw [zrj]; omega
 refine ⟨?_,e, ?_,by omega⟩
 ·exact zci (by omega)
 ·exact zJ (by omega) (by omega)
theorem chunks_flat' (s : Nat) : ∀ (es : List (List D)),(∀ e ∈ es,e.length = s) → zah s es.length es.flatten = es
 | [],_ => rfl
 | e :: es,h => by
  simp only [List.length_cons,zah,List.flatten_cons]
  have he := h e List.mem_cons_self
  rw [List.take_left' he,List.drop_left' he,chunks_flat' s es fun e he => h e (List.mem_cons_of_mem _ he)]
theorem allO_frz {σ : List zg} {n m : Nat} : ∀ ds : List D,allO ((ds.map AV.d).map (frz σ n m)) = some ds
 | [] => rfl
 | d :: ds => by
  have : frz σ n m (.d d) = some d := by cases m <;> rfl
  simp only [List.map_cons,this,allO,allO_frz ds]
theorem zuL {σ : List zg} {n₀ m t g sz lo hi : Nat} {es : List (List D)} (ht : σ[t]? = some (.row g sz (zaa es))) (hn : n₀ ≤ t) (h : ∀ e ∈ es,e.length = sz) (hh : hi ≤ es.length) : frz σ n₀ (m + 2) (.rsl t g sz lo hi) = some (.slice ((es.take hi).drop lo)) := by
 have h2 : ∀ e ∈ (es.take hi).drop lo,e.length = sz := fun e he => h e (List.mem_of_mem_take (List.mem_of_mem_drop he))
 have hl : ((es.take hi).drop lo).length = hi - lo := by rw [List.length_drop,List.length_take]; omega
 have e1 : ((zaa es).drop (lo * sz)).take ((hi - lo) * sz) = zaa ((es.take hi).drop lo) := by
  rw [ziD h,zoX fun e he => h e (List.mem_of_mem_drop he),List.drop_take]
 simp only [frz,ht,hn,true_and,and_self,if_true,e1]
 rw [allO_frz]
 simp only
 rw [← hl,chunks_flat' sz _ h2]
def TrE (σ : List zg) (k : Nat) (q : zaE) (S : List zg) : Prop := ∃ gh lo hi gp gs lo2 H G,TrJ σ k gh lo hi gp gs lo2 H G q S
theorem tr_first {σ : List zg} {p : zaE} (hh : p.headers.length ≤ 1073741824) (hp : p.path.length ≤ 1073741824) (hs : p.cert.signs.length ≤ 1073741824) :
  TrJ σ 0 0 0 p.headers.length 0 0 0 p.headers p.cert.signs p (σ ++ [.box (trC σ.length p 0 0 p.headers.length 0 0 0 p.cert.signs.length), .box zero10, .row 0 5 (zaa (zdf p.headers)), .row 0 1 (zaa (zbd p.path)), .row 0 2 (zaa (zas p.cert.signs))]) :=
 ⟨by rw [zm]; rfl,by rw [zh]; rfl,by rw [zh]; rfl,by rw [zh]; rfl,by rw [zh]; rfl,by simp,by omega,rfl,by omega,by omega,by simp⟩
theorem gq43 {A P Q : Prop} (a : A) (h : Q) (e : A → Hd Q → P := by intro a h; (repeat' first | simp -dsimp only [↓zgr, ↓zaF, ↓zbL, ↓zgt, ↓zgn, ↓zgl, ↓zgo, ↓zgm, ↓zbR, ↓zbN, ↓zbS, ↓zbO, ↓zgp, ↓zbJ, ↓zbT, ↓zbP, ↓zbU, ↓zbQ, ↓zgj, ↓zgq, ↓zbI, ↓zbX, ↓zgc, ↓zgb, ↓zgi,iN,bT,bF,eN, ↓zdN, ↓unC, ↓zac, ↓zQ, ↓zR, ↓zV, ↓zak, ↓zau, ↓zco, ↓zag, ↓zaJ, ↓zW, ↓zp, ↓zo, ↓zbF, ↓zl, ↓zan, ↓zF, ↓zaM, ↓zaW, ↓ze, ↓zC, ↓zu, ↓zy, ↓zav, ↓zdr, ↓zdU, ↓zat, ↓zaB, ↓zaU, ↓zbk, ↓zbv, ↓zD, ↓zaq, ↓zS, ↓zE, ↓zam,zeb,zbD,zbB,unA,zei,bnd,zeF,zai,zP,zeE,dm,dm1,zB,zal,zfg,zff,zx,Q0,Q1,Q2,Q3,Q4,Q5,zZ,zh,zm,zT,zN,Q6,Q7,Q8,Q9,Q10,Q11,Q12,Q13,Q14,Nat.reduceAdd,Q15,Int.reduceToNat,Q16,Q17,Q18,Q19,Q20,reduceIte,Q21,Q22,zH,rep,zX,zfc,toD,zah,Q23,Q24,Q25,Q26,Q27,Q28,Nat.reduceLeDiff,Q29,Nat.reduceSub,Q30,Q31,Q32,sc,Q33,Q34,Q35,Q36,Q37,Q26,Q38,Q39,zkn,zkk,zkh,zko,zdu,zkl,zki,zkm,zkj,zdt,zdv,zkp,zkq,Bool.not_true,Bool.not_false,List.length_map,Bool.and_false,Bool.and_self,Bool.false_and,Bool.not_false,Bool.not_true,Bool.true_and,Int.toNat_natCast,Int.toNat_zero,List.drop_zero,List.length_map,List.length_nil,List.nil_append,List.take_length,Nat.sub_zero,Nat.zero_add,Option.isSome_none,Option.isSome_some,Option.map_none,Option.map_some,zdb,zaH,beq_self_eq_true,bft,bne_self_eq_false,btf,zqc,zeE,a] | with_reducible refine zkr ?_ | fail); exact h.go) : P := e a ⟨h⟩
theorem zlG {σ : List zg} {p : zaE} {l : List zmk} (hh : p.headers.length ≤ 1073741824) (hp : p.path.length ≤ 1073741824) (hs : p.cert.signs.length ≤ 1073741824) (hl0 : l.length ≤ 1073741824)
  {K : KT} (hK : K (zcp (zkt p l)) σ) : zq Tryz.prog zfM [zcp p, .d (.slice (twistsE l))] σ K := by
 refine acall_frz znG.is rfl 3 fun hl _ => znG.goes ?_
 have e1 : (zdf p.headers).length = p.headers.length := List.length_map ..
 have e2 : (zbd p.path).length = p.path.length := List.length_map ..
 have e3 : (zas p.cert.signs).length = p.cert.signs.length := List.length_map ..
 have e4 : (twistsE l).length = l.length := List.length_map ..
 have f1 : ∀ e ∈ zdf p.headers,e.length = 5 := by intro e he; obtain ⟨x,_,rfl⟩ := List.mem_map.1 he; rfl
 have f2 : ∀ e ∈ zbd p.path,e.length = 1 := by intro e he; obtain ⟨x,_,rfl⟩ := List.mem_map.1 he; rfl
 have f3 : ∀ e ∈ zas p.cert.signs,e.length = 2 := by intro e he; obtain ⟨x,_,rfl⟩ := List.mem_map.1 he; rfl
 simp only [zoa,iN,bT,bF,eN,zl0,zcp]
 refine gq43 (zc e1 (zc e2 (zc e3 (zc e4 (zc f1 (zc f2 f3)))))) ?_
 refine zw l.length (fun k vs S => vs = [.d (.int .i64 k)] ∧ TrE σ k (zkt p (l.take k)) S) ⟨rfl, 0, 0,p.headers.length, 0, 0, 0,p.headers,p.cert.signs,tr_first hh hp hs⟩ ?_
 rintro k vs S hk ⟨rfl,gh,lo,hi,gp,gs,lo2,H,G,j⟩
 obtain ⟨q,hq⟩ : ∃ q,zkt p (l.take k) = q := ⟨_,rfl⟩
 rw [hq] at j
 by_cases hlt : k < l.length
 ·have hd : decide ((k : Int) < (l.length : Int)) = true := by simp; omega
  have hx : l[k]? = some l[k] := by simp [hlt]
  have hgx := zU (f := twistD) hx
  obtain ⟨w,hw⟩ : ∃ w,l[k] = w := ⟨_,rfl⟩
  rw [hw] at hx hgx
  have hn : zkt p (l.take (k + 1)) = zcE q w := by rw [zkt,zeh hx, ← hq]; rfl
  have hwk : IntKind.i64.wrap ((k : Int) + 1) = ((k + 1 : Nat) : Int) := by rw [zJ (by omega) (by omega)]; rfl
  have ja : ∀ τ,(S ++ τ)[σ.length]? = some _ := fun τ => zf j.a
  have l0 := zA j.a
  have sa : ∀ τ Y,(S ++ τ).set σ.length Y = S.set σ.length Y ++ τ := fun τ Y => List.set_append_left _ _ l0
  have step : ∀ (q' : zaE) (S' : List zg),zcE q w = q' → TrE σ (k + 1) q' S' → zap l.length (fun k vs S => vs = [.d (.int .i64 k)] ∧ TrE σ k (zkt p (l.take k)) S) k [.d (.int .i64 ((k + 1 : Nat) : Int))] S' := fun q' S' h1 h2 => zap.next hlt ⟨rfl,by rw [hn,h1]; exact h2⟩
  cases c1 : (w.do_ == 1)
  rotate_left
  ·have e : w.do_ = 1 := by simpa using c1
   refine gq2 (zc hd (zc e4 (zc hgx (zc c1 (zc hwk (zc ja sa)))))) ?_
   exact step _ _ (by rw [zcE,e]; rfl) ⟨gh,lo,hi,gp,gs,lo2,H,G,(j.set { q with rec_ := w.rec_ } rfl rfl rfl).app _⟩
  cases c2 : (w.do_ == 2)
  rotate_left
  ·have e : w.do_ = 2 := by simpa using c2
   refine gq2 (zc hd (zc e4 (zc hgx (zc c1 (zc c2 (zc hwk (zc ja sa))))))) ?_
   exact step _ _ (by rw [zcE,e]; rfl) ⟨gh,lo,hi,gp,gs,lo2,H,G,(j.set { q with offset := IntKind.i64.wrap (q.offset + 1) } rfl rfl rfl).app _⟩
  cases c3 : (w.do_ == 3)
  rotate_left
  ·have e : w.do_ = 3 := by simpa using c3
   refine gq2 (zc hd (zc e4 (zc hgx (zc c1 (zc c2 (zc c3 (zc hwk (zc ja sa)))))))) ?_
   exact step _ _ (by rw [zcE,e]; rfl) ⟨gh,lo,hi,gp,gs,lo2,H,G,(j.set { q with index := IntKind.i64.wrap (q.index + 1) } rfl rfl rfl).app _⟩
  cases c4 : (w.do_ == 4)
  rotate_left
  ·have e : w.do_ = 4 := by simpa using c4
   refine gq2 (zc hd (zc e4 (zc hgx (zc c1 (zc c2 (zc c3 (zc c4 (zc hwk (zc ja sa))))))))) ?_
   exact step _ _ (by rw [zcE,e]; rfl) ⟨gh,lo,hi,gp,gs,lo2,H,G,(j.set { q with count := IntKind.i64.wrap (q.count + w.n.tmod 3) } rfl rfl rfl).app _⟩
  have jp : ∀ τ,(S ++ τ)[σ.length + 3]? = some _ := fun τ => zf j.p
  have jh : ∀ τ,(S ++ τ)[σ.length + 2]? = some _ := fun τ => zf j.h
  have js : ∀ τ,(S ++ τ)[σ.length + 4]? = some _ := fun τ => zf j.s
  cases c5 : (w.do_ == 5)
  rotate_left
  ·have e : w.do_ = 5 := by simpa using c5
   rcases Nat.eq_zero_or_pos q.path.length with h0 | h0
   ·have hz : decide (((q.path.length : Nat) : Int) > 0) = false := decide_eq_false (by omega)
    refine gq2 (zc hd (zc e4 (zc hgx (zc c1 (zc c2 (zc c3 (zc c4 (zc c5 (zc hwk (zc ja (zc sa hz))))))))))) ?_
    have e5 : zcE q w = q := by
     have : q.path = [] := List.eq_nil_of_length_eq_zero h0
     obtain ⟨a1,a2,a3,a4,a5,a6,a7,a8⟩ := q
     simp only at this
     subst this
     rw [zcE,e]; rfl
    exact step _ _ e5 ⟨gh,lo,hi,gp,gs,lo2,H,G,j.next.app _⟩
   ·have hz : decide (((q.path.length : Nat) : Int) > 0) = true := decide_eq_true (by omega)
    obtain ⟨hu,ht,hi1,hiq⟩ := idx_facts w.n h0 (by have := j.p1; omega)
    have hpl : (zaa (zbd q.path)).length = q.path.length := by rw [zdG (sz := 1) (fun e he => by obtain ⟨x,_,rfl⟩ := List.mem_map.1 he; rfl),List.length_map]; omega
    have hi2 : ((zrj w.n q.path.length : Nat) : Int).toNat = zrj w.n q.path.length := rfl
    have hi3 : zrj w.n q.path.length + 1 ≤ (zaa (zbd q.path)).length := by omega
    have hi4 : 0 ≤ ((zrj w.n q.path.length : Nat) : Int) := by omega
    have hi5 : ((zrj w.n q.path.length : Nat) : Int) < (q.path.length : Int) := by omega
    have sp : List.take (zrj w.n q.path.length) (zaa (zbd q.path)) ++ AV.d (.int .i64 w.dig) :: List.drop (zrj w.n q.path.length + 1) (zaa (zbd q.path)) = zaa (zbd (q.path.set (zrj w.n q.path.length) w.dig)) := by
     rw [← List.set_eq_take_append_cons_drop_lt (by omega)]
     have hget : (zbd q.path)[zrj w.n q.path.length]? = some [.int .i64 q.path[zrj w.n q.path.length]] := zU (f := fun x : Int => [D.int .i64 x]) (by simp [hiq])
     have := ziC (sz := 1) (es := zbd q.path) (fun e he => by obtain ⟨x,_,rfl⟩ := List.mem_map.1 he; rfl) hget (i := 0) (by omega) (.int .i64 w.dig)
     rw [Nat.mul_one,Nat.add_zero] at this
     rw [this]
     simp [List.map_set]
    refine gq2 (zc hd (zc e4 (zc hgx (zc c1 (zc c2 (zc c3 (zc c4 (zc c5 (zc hwk (zc ja (zc sa (zc hz (zc jp (zc hu (zc ht (zc hi1 (zc hi2 (zc hi3 (zc hi4 hi5))))))))))))))))))) ?_
    rw [sp]
    refine ⟨by rw [znE (sz := 1),List.length_map]; omega, ?_⟩
    exact step _ _ (by rw [zcE,e]; rfl) ⟨gh,lo,hi,gp,gs,lo2,H,G,(j.app _).path (i := zrj w.n q.path.length) w.dig hiq⟩
  have hql : q.headers.length = hi - lo := by rw [j.hh,List.length_drop,List.length_take]; have := j.h1; omega
  have hh0 : hi - lo = 0 → q.headers = [] := fun h => List.eq_nil_of_length_eq_zero (by omega)
  obtain ⟨o1,o2,o3⟩ := j.h1
  obtain ⟨o4,o5⟩ := j.s1
  have hlh : lo + (hi - lo) = hi := by omega
  have hlg : lo2 + (G.length - lo2) = G.length := by omega
  cases c6 : (w.do_ == 6)
  rotate_left
  ·have e : w.do_ = 6 := by simpa using c6
   rcases Nat.eq_zero_or_pos (hi - lo) with h0 | h0
   ·have hz : decide (((hi - lo : Nat) : Int) > 0) = false := decide_eq_false (by omega)
    refine gq2 (zc hd (zc e4 (zc hgx (zc c1 (zc c2 (zc c3 (zc c4 (zc c5 (zc c6 (zc hwk (zc ja (zc sa hz)))))))))))) ?_
    have e5 : zcE q w = q := by
     have := hh0 h0
     obtain ⟨a1,a2,a3,a4,a5,a6,a7,a8⟩ := q
     simp only at this
     subst this
     rw [zcE,e]; rfl
    exact step _ _ e5 ⟨gh,lo,hi,gp,gs,lo2,H,G,j.next.app _⟩
   ·have hz : decide (((hi - lo : Nat) : Int) > 0) = true := decide_eq_true (by omega)
    refine gq2 (zc hd (zc e4 (zc hgx (zc c1 (zc c2 (zc c3 (zc c4 (zc c5 (zc c6 (zc hwk (zc ja (zc sa (zc hz hlh))))))))))))) ?_
    refine step _ _ ?_ ⟨gh,_,_,gp,gs,lo2,H,G,(j.hdrs (lo + 1) hi (by omega) o2).app _⟩
    rw [zcE,e]
    show { q with headers := q.headers.drop 1 } = _
    rw [j.hh,List.drop_drop]
  cases c7 : (w.do_ == 7)
  rotate_left
  ·have e : w.do_ = 7 := by simpa using c7
   rcases Nat.eq_zero_or_pos (hi - lo) with h0 | h0
   ·have hz : decide (((hi - lo : Nat) : Int) > 0) = false := decide_eq_false (by omega)
    refine gq2 (zc hd (zc e4 (zc hgx (zc c1 (zc c2 (zc c3 (zc c4 (zc c5 (zc c6 (zc c7 (zc hwk (zc ja (zc sa hz))))))))))))) ?_
    have e5 : zcE q w = q := by
     have := hh0 h0
     obtain ⟨a1,a2,a3,a4,a5,a6,a7,a8⟩ := q
     simp only at this
     subst this
     rw [zcE,e]; rfl
    exact step _ _ e5 ⟨gh,lo,hi,gp,gs,lo2,H,G,j.next.app _⟩
   ·have hz : decide (((hi - lo : Nat) : Int) > 0) = true := decide_eq_true (by omega)
    have hw1 : IntKind.i64.wrap (((hi - lo : Nat) : Int) - 1) = ((hi - lo - 1 : Nat) : Int) := by rw [zJ (by omega) (by omega)]; omega
    refine gq2 (zc hd (zc e4 (zc hgx (zc c1 (zc c2 (zc c3 (zc c4 (zc c5 (zc c6 (zc c7 (zc hwk (zc ja (zc sa (zc hz (zc hlh hw1))))))))))))))) ?_
    refine step _ _ ?_ ⟨gh,_,_,gp,gs,lo2,H,G,(j.hdrs lo (lo + (hi - lo - 1)) (by omega) (by omega)).app _⟩
    rw [zcE,e]
    show { q with headers := q.headers.take (q.headers.length - 1) } = _
    rw [hql,j.hh,List.take_drop,List.take_take,Nat.min_eq_left (by omega)]
  cases c8 : (w.do_ == 8)
  rotate_left
  ·have e : w.do_ = 8 := by simpa using c8
   rcases Nat.eq_zero_or_pos (hi - lo) with h0 | h0
   ·have hz : decide (((hi - lo : Nat) : Int) > 0) = false := decide_eq_false (by omega)
    refine gq2 (zc hd (zc e4 (zc hgx (zc c1 (zc c2 (zc c3 (zc c4 (zc c5 (zc c6 (zc c7 (zc c8 (zc hwk (zc ja (zc sa hz)))))))))))))) ?_
    have e5 : zcE q w = q := by
     have : zcE q w = { q with headers := q.headers.modify (zrj w.n q.headers.length) fun h => { h with root := w.dig } } := by rw [zcE,e]; rfl
     have h8 : (q.headers.modify (zrj w.n q.headers.length) fun h => { h with root := w.dig }) = q.headers := by rw [hh0 h0,List.modify_nil]
     rw [this,h8]
    exact step _ _ e5 ⟨gh,lo,hi,gp,gs,lo2,H,G,j.next.app _⟩
   ·have hz : decide (((hi - lo : Nat) : Int) > 0) = true := decide_eq_true (by omega)
    obtain ⟨hu,ht,hi1,hiq⟩ := idx_facts w.n h0 (by omega)
    obtain ⟨i,hiQ⟩ : ∃ i,zrj w.n (hi - lo) = i := ⟨_,rfl⟩
    rw [hiQ] at ht hi1 hiq
    have hi2 : ((i : Nat) : Int).toNat = i := rfl
    have hi4 : 0 ≤ ((i : Nat) : Int) := by omega
    have hi5 : ((i : Nat) : Int) < ((hi - lo : Nat) : Int) := by omega
    refine gq2 (zc hd (zc e4 (zc hgx (zc c1 (zc c2 (zc c3 (zc c4 (zc c5 (zc c6 (zc c7 (zc c8 (zc hwk (zc ja (zc sa (zc hz (zc hu (zc ht (zc hi1 (zc hi2 (zc hi4 (zc hi5 jh))))))))))))))))))))) ?_
    have hin : lo + i < H.length := by omega
    have hgH : H[lo + i]? = some H[lo + i] := by simp [hin]
    have hgE : (zdf H)[lo + i]? = some (zuJ H[lo + i]) := zU (f := zuJ) hgH
    have hfl : (zaa (zdf H)).length = H.length * 5 := by rw [zdG (sz := 5) (fun e he => by obtain ⟨x,_,rfl⟩ := List.mem_map.1 he; rfl),List.length_map (f := zuJ)]
    have sp : List.take ((lo + i) * 5 + 3) (zaa (zdf H)) ++ AV.d (.int .i64 w.dig) :: List.drop ((lo + i) * 5 + 4) (zaa (zdf H)) = zaa (zdf (H.set (lo + i) { H[lo + i] with root := w.dig })) := by
     rw [← List.set_eq_take_append_cons_drop_lt (by omega),ziC (fun e he => by obtain ⟨x,_,rfl⟩ := List.mem_map.1 he; rfl) hgE (by omega)]
     simp [List.map_set]
    rw [sp]
    refine ⟨by rw [znE (sz := 5),List.length_map]; omega,step _ _ ?_ ⟨gh,lo,hi,gp,gs,lo2,_,G,(j.app _).row (H.set (lo + i) { H[lo + i] with root := w.dig }) (by simp)⟩⟩
    rw [zcE,e]
    show { q with headers := q.headers.modify (zrj w.n q.headers.length) fun h => { h with root := w.dig } } = _
    rw [hql,hiQ,j.hh]
    rw [modify_slice _ (by omega) hin]
  cases c9 : (w.do_ == 9)
  rotate_left
  ·have e : w.do_ = 9 := by simpa using c9
   rcases Nat.eq_zero_or_pos (G.length - lo2) with h0 | h0
   ·have hz : decide (((G.length - lo2 : Nat) : Int) > 0) = false := decide_eq_false (by omega)
    refine gq2 (zc hd (zc e4 (zc hgx (zc c1 (zc c2 (zc c3 (zc c4 (zc c5 (zc c6 (zc c7 (zc c8 (zc c9 (zc hwk (zc ja (zc sa hz))))))))))))))) ?_
    have e5 : zcE q w = q := by
     have h9 : q.cert.signs = [] := by rw [j.ss]; exact List.drop_of_length_le (by omega)
     obtain ⟨a1,a2,a3,a4,a5,a6,a7,⟨a8,a9,a10⟩⟩ := q
     simp only at h9
     subst h9
     rw [zcE,e]; rfl
    exact step _ _ e5 ⟨gh,lo,hi,gp,gs,lo2,H,G,j.next.app _⟩
   ·have hz : decide (((G.length - lo2 : Nat) : Int) > 0) = true := decide_eq_true (by omega)
    refine gq2 (zc hd (zc e4 (zc hgx (zc c1 (zc c2 (zc c3 (zc c4 (zc c5 (zc c6 (zc c7 (zc c8 (zc c9 (zc hwk (zc ja (zc sa (zc hz hlg)))))))))))))))) ?_
    refine step _ _ ?_ ⟨gh,lo,hi,gp,gs,_,H,G,(j.sgns (lo2 + 1) (by omega)).app _⟩
    rw [zcE,e]
    show { q with cert := { q.cert with signs := q.cert.signs.drop 1 } } = _
    rw [j.ss,List.drop_drop]
  cases c10 : (w.do_ == 10)
  rotate_left
  ·have e : w.do_ = 10 := by simpa using c10
   refine gq2 (zc hd (zc e4 (zc hgx (zc c1 (zc c2 (zc c3 (zc c4 (zc c5 (zc c6 (zc c7 (zc c8 (zc c9 (zc c10 (zc hwk (zc ja sa))))))))))))))) ?_
   exact step _ _ (by rw [zcE,e]; rfl) ⟨gh,lo,hi,gp,gs,lo2,H,G,(j.set { q with cert := { q.cert with dig := w.dig } } rfl rfl rfl).app _⟩
  cases c11 : (w.do_ == 11)
  rotate_left
  ·have e : w.do_ = 11 := by simpa using c11
   have u0 : ∀ τ Y,((S ++ τ).set (σ.length + 4) Y)[σ.length]? = _ := fun τ Y => zd Y (ja τ) (by omega)
   have sp : List.drop (lo2 * 2) (zaa (zas G)) ++ [AV.d (.int .i64 (w.n.tmod 13)),AV.d (.int .i64 w.dig)] = zaa (zas (G.drop lo2 ++ [⟨w.n.tmod 13,w.dig⟩])) := by
    rw [ziD (fun e he => by obtain ⟨x,_,rfl⟩ := List.mem_map.1 he; rfl)]
    simp [zaa,zfI,List.map_drop]
   refine gq43 (zc hd (zc e4 (zc hgx (zc c1 (zc c2 (zc c3 (zc c4 (zc c5 (zc c6 (zc c7 (zc c8 (zc c9 (zc c10 (zc c11 (zc hwk (zc ja (zc sa (zc js u0)))))))))))))))))) ?_
   rw [sp]
   refine ⟨by rw [znE (sz := 2),List.length_map],by omega,step { q with cert := { q.cert with signs := G.drop lo2 ++ [⟨w.n.tmod 13,w.dig⟩] } } _ ?_ ⟨gh,lo,hi,gp,gs + 1, 0,H,G.drop lo2 ++ [⟨w.n.tmod 13,w.dig⟩],(j.app _).growS (G.drop lo2 ++ [⟨w.n.tmod 13,w.dig⟩]) (by simp; omega) (gs + 1) (G.length - lo2 + 1) (by simp)⟩⟩
   rw [zcE,e]
   show { q with cert := { q.cert with signs := q.cert.signs ++ [(⟨w.n.tmod 13,w.dig⟩ : zI)] } } = _
   rw [j.ss]
  cases c12 : (w.do_ == 12)
  rotate_left
  ·have e : w.do_ = 12 := by simpa using c12
   have u0 : ∀ τ Y,((S ++ τ).set (σ.length + 3) Y)[σ.length]? = _ := fun τ Y => zd Y (ja τ) (by omega)
   have sp : zaa (zbd q.path) ++ [AV.d (.int .i64 w.dig)] = zaa (zbd (q.path ++ [w.dig])) := by simp [zaa]
   refine gq43 (zc hd (zc e4 (zc hgx (zc c1 (zc c2 (zc c3 (zc c4 (zc c5 (zc c6 (zc c7 (zc c8 (zc c9 (zc c10 (zc c11 (zc c12 (zc hwk (zc ja (zc sa (zc jp u0))))))))))))))))))) ?_
   rw [sp]
   refine ⟨by rw [znE (sz := 1),List.length_map]; omega,by have := j.p1; omega,step _ _ ?_ ⟨gh,lo,hi,_,gs,lo2,H,G,(j.app _).growP w.dig (gp + 1)⟩⟩
   rw [zcE,e]; rfl
  refine gq2 (zc hd (zc e4 (zc hgx (zc c1 (zc c2 (zc c3 (zc c4 (zc c5 (zc c6 (zc c7 (zc c8 (zc c9 (zc c10 (zc c11 (zc c12 (zc hwk (zc ja sa))))))))))))))))) ?_
  have e5 : zcE q w = q := by
   have q1 : ∀ n : Int,(w.do_ == n) = false → ¬ w.do_ = n := fun n h => by simpa using h
   rw [zcE,if_neg (q1 _ c1),if_neg (q1 _ c2),if_neg (q1 _ c3),if_neg (q1 _ c4),if_neg (q1 _ c5),if_neg (q1 _ c6),if_neg (q1 _ c7),if_neg (q1 _ c8),if_neg (q1 _ c9),if_neg (q1 _ c10),if_neg (q1 _ c11),if_neg (q1 _ c12)]
  exact step _ _ e5 ⟨gh,lo,hi,gp,gs,lo2,H,G,j.next.app _⟩
 ·have hd : decide ((k : Int) < (l.length : Int)) = false := by simp; omega
  rw [show l.take k = l from List.take_of_length_le (by omega)] at hq
  rw [hq] at hK
  have ja := j.a
  have jb := j.b
  have jb2 : ∀ Y,(S.set (σ.length + 1) Y)[σ.length + 1]? = some Y := fun Y => List.getElem?_set_self (zA jb)
  refine gq2 (zc hd (zc e4 (zc ja (zc jb jb2)))) ?_
  have hS : σ.length + 1 ≠ σ.length + 2 ∧ σ.length + 1 ≠ σ.length + 3 ∧ σ.length + 1 ≠ σ.length + 4 := by omega
  have kh := fun Y => zd (i := σ.length + 1) Y j.h (by omega)
  have kp := fun Y => zd (i := σ.length + 1) Y j.p (by omega)
  have ks := fun Y => zd (i := σ.length + 1) Y j.s (by omega)
  have hpre : ∀ Y,(S.set (σ.length + 1) Y).take σ.length = σ := fun Y => by rw [zcz (by omega)]; exact j.pre
  have z1 := zuL (n₀ := σ.length) (m := 1) (lo := lo) (hi := hi) (kh (.box [.d (.str q.topic), .d (.int .i64 q.offset), .d (.slice (bcs q.rec_)), .rsl (σ.length + 2) gh 5 lo hi, .d (.int .i64 q.index), .d (.int .i64 q.count), .rsl (σ.length + 3) gp 1 0 q.path.length, .d (.int .i64 q.cert.seq), .d (.int .i64 q.cert.dig), .rsl (σ.length + 4) gs 2 lo2 G.length])) (by omega) (fun e he => by obtain ⟨x,_,rfl⟩ := List.mem_map.1 he; rfl) (by rw [List.length_map]; exact j.h1.2.1)
  have z2 := zuL (n₀ := σ.length) (m := 1) (lo := 0) (hi := q.path.length) (kp (.box [.d (.str q.topic), .d (.int .i64 q.offset), .d (.slice (bcs q.rec_)), .rsl (σ.length + 2) gh 5 lo hi, .d (.int .i64 q.index), .d (.int .i64 q.count), .rsl (σ.length + 3) gp 1 0 q.path.length, .d (.int .i64 q.cert.seq), .d (.int .i64 q.cert.dig), .rsl (σ.length + 4) gs 2 lo2 G.length])) (by omega) (fun e he => by obtain ⟨x,_,rfl⟩ := List.mem_map.1 he; rfl) (by rw [List.length_map]; omega)
  have z3 := zuL (n₀ := σ.length) (m := 1) (lo := lo2) (hi := G.length) (ks (.box [.d (.str q.topic), .d (.int .i64 q.offset), .d (.slice (bcs q.rec_)), .rsl (σ.length + 2) gh 5 lo hi, .d (.int .i64 q.index), .d (.int .i64 q.count), .rsl (σ.length + 3) gp 1 0 q.path.length, .d (.int .i64 q.cert.seq), .d (.int .i64 q.cert.dig), .rsl (σ.length + 4) gs 2 lo2 G.length])) (by omega) (fun e he => by obtain ⟨x,_,rfl⟩ := List.mem_map.1 he; rfl) (by rw [List.length_map]; omega)
  rw [show (1 + 2 : Nat) = 3 from rfl] at z1 z2 z3
  have fd : ∀ S x,frz S σ.length 3 (.d x) = some x := fun _ _ => rfl
  simp only [EndsF,zbY,frzT,frz1,List.map_cons,List.map_nil,z1,z2,z3,fd,allO]
  rw [hpre]
  refine ⟨hl, ?_⟩
  have e1 : ((zdf H).take hi).drop lo = zdf q.headers := by rw [j.hh]; simp [List.map_take,List.map_drop]
  have e2 : ((zbd q.path).take q.path.length).drop 0 = zbd q.path := by rw [List.take_of_length_le (by simp)]; rfl
  have e3 : ((zas G).take G.length).drop lo2 = zas q.cert.signs := by rw [j.ss,List.take_of_length_le (by simp)]; simp [List.map_drop]
  rw [e1,e2,e3]
  exact hK
end Go.Proofs.YtfjommppajkpoaaGreat
