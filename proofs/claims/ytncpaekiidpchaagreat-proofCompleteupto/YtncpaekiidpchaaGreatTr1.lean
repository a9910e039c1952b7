/- Contract: a proof is turned. -/
import Derived.Test.YtncpaekiidpchaaGreatBt1
import Derived.Test.YtncpaekiidpchaaGreatSpBulk
import Derived.Test.YtncpaekiidpchaaGreatPt2
set_option linter.all false
set_option maxRecDepth 100000
namespace Go.Proofs.YtncpaekiidpchaaGreat
open Go.AW
def zqQ (n : Int) (len : Nat) : Nat := ((IntKind.u64.wrap n).tmod len).toNat
def zcH (p : zaU) (w : zkX) : zaU :=
 if w.do_ = 1 then { p with rec_ := w.rec_ }
 else if w.do_ = 2 then { p with offset := IntKind.i64.wrap (p.offset + 1) }
 else if w.do_ = 3 then { p with index := IntKind.i64.wrap (p.index + 1) }
 else if w.do_ = 4 then { p with count := IntKind.i64.wrap (p.count + w.n.tmod 3) }
 else if w.do_ = 5 then { p with path := p.path.set (zqQ w.n p.path.length) w.dig }
 else if w.do_ = 6 then { p with headers := p.headers.drop 1 }
 else if w.do_ = 7 then { p with headers := p.headers.take (p.headers.length - 1) }
 else if w.do_ = 8 then { p with headers := p.headers.modify (zqQ w.n p.headers.length) fun h => { h with root := w.dig } }
 else if w.do_ = 9 then { p with cert := { p.cert with signs := p.cert.signs.drop 1 } }
 else if w.do_ = 10 then { p with cert := { p.cert with dig := w.dig } }
 else if w.do_ = 11 then { p with cert := { p.cert with signs := p.cert.signs ++ [⟨w.n.tmod 13,w.dig⟩] } }
 else if w.do_ = 12 then { p with path := p.path ++ [w.dig] }
 else p
def zkl (p : zaU) (l : List zkX) : zaU := l.foldl zcH p
abbrev trC (n : Nat) (q : zaU) (gh lo hi gp gs lo2 hi2 : Nat) : List AV :=
 [.d (.str q.topic), .d (.int .i64 q.offset), .d (.slice (bcs q.rec_)), .rsl (n + 2) gh 5 lo hi, .d (.int .i64 q.index), .d (.int .i64 q.count), .rsl (n + 3) gp 1 0 q.path.length, .d (.int .i64 q.cert.seq), .d (.int .i64 q.cert.dig), .rsl (n + 4) gs 2 lo2 hi2]
abbrev zero10 : List AV := [.d (.str []), .d (.int .i64 0), .exact [], .exact [], .d (.int .i64 0), .d (.int .i64 0), .exact [], .d (.int .i64 0), .d (.int .i64 0), .exact []]
structure TrJ (σ : List zg) (k gh lo hi gp gs lo2 : Nat) (H : List zcF) (G : List zJ) (q : zaU) (S : List zg) : Prop where
 a : S[σ.length]? = some (.box (trC σ.length q gh lo hi gp gs lo2 G.length))
 b : S[σ.length + 1]? = some (.box zero10)
 h : S[σ.length + 2]? = some (.row gh 5 (zah (zeM H)))
 p : S[σ.length + 3]? = some (.row gp 1 (zah (zbO q.path)))
 s : S[σ.length + 4]? = some (.row gs 2 (zah (zaz G)))
 hh : q.headers = (H.take hi).drop lo
 h1 : lo ≤ hi ∧ hi ≤ H.length ∧ H.length ≤ 1073741824
 ss : q.cert.signs = G.drop lo2
 s1 : lo2 ≤ G.length ∧ G.length ≤ 1073741824 + k
 p1 : q.path.length ≤ 1073741824 + k
 pre : S.take σ.length = σ
section
variable {σ S : List zg} {k gh lo hi gp gs lo2 : Nat} {H : List zcF} {G : List zJ} {q : zaU}
theorem TrJ.app (j : TrJ σ k gh lo hi gp gs lo2 H G q S) (τ : List zg) : TrJ σ k gh lo hi gp gs lo2 H G q (S ++ τ) :=
 ⟨zf j.a,zf j.b,zf j.h,zf j.p,zf j.s,j.hh,j.h1,j.ss,j.s1,j.p1,by rw [List.take_append_of_le_length (by have := zF j.a; omega)]; exact j.pre⟩
theorem zcz {S : List zg} {n i : Nat} {y : zg} (h : n ≤ i) : (S.set i y).take n = S.take n := by
 rw [List.take_set,List.set_eq_of_length_le (by rw [List.length_take]; omega)]
theorem TrJ.set (j : TrJ σ k gh lo hi gp gs lo2 H G q S) (q' : zaU) (h : q'.headers = q.headers) (p : q'.path = q.path) (s : q'.cert.signs = q.cert.signs) : TrJ σ (k + 1) gh lo hi gp gs lo2 H G q' (S.set σ.length (.box (trC σ.length q' gh lo hi gp gs lo2 G.length))) :=
 ⟨List.getElem?_set_self (zF j.a),zc _ j.b (by omega),zc _ j.h (by omega),by rw [p]; exact zc _ j.p (by omega),zc _ j.s (by omega),h ▸ j.hh,j.h1,s ▸ j.ss,⟨j.s1.1,by have := j.s1.2; omega⟩,by rw [p]; have := j.p1; omega,by rw [zcz (Nat.le_refl _)]; exact j.pre⟩
theorem TrJ.path {i : Nat} (j : TrJ σ k gh lo hi gp gs lo2 H G q S) (d : Int) (h : i < q.path.length) : TrJ σ (k + 1) gh lo hi gp gs lo2 H G { q with path := q.path.set i d } (S.set (σ.length + 3) (.row gp 1 (zah (zbO (q.path.set i d))))) :=
 ⟨by rw [trC,List.length_set]; exact zc _ j.a (by omega),zc _ j.b (by omega),zc _ j.h (by omega),List.getElem?_set_self (zF j.p),zc _ j.s (by omega),j.hh,j.h1,j.ss,⟨j.s1.1,by have := j.s1.2; omega⟩,by simp only [List.length_set]; have := j.p1; omega,by rw [zcz (by omega)]; exact j.pre⟩
theorem TrJ.hdrs (j : TrJ σ k gh lo hi gp gs lo2 H G q S) (lo' hi' : Nat) (h1 : lo' ≤ hi') (h2 : hi' ≤ H.length) : TrJ σ (k + 1) gh lo' hi' gp gs lo2 H G { q with headers := (H.take hi').drop lo' } (S.set σ.length (.box (trC σ.length q gh lo' hi' gp gs lo2 G.length))) :=
 ⟨List.getElem?_set_self (zF j.a),zc _ j.b (by omega),zc _ j.h (by omega),zc _ j.p (by omega),zc _ j.s (by omega),rfl,⟨h1,h2,j.h1.2.2⟩,j.ss,⟨j.s1.1,by have := j.s1.2; omega⟩,by have := j.p1; simp only; omega,by rw [zcz (Nat.le_refl _)]; exact j.pre⟩
theorem TrJ.sgns (j : TrJ σ k gh lo hi gp gs lo2 H G q S) (lo' : Nat) (h1 : lo' ≤ G.length) : TrJ σ (k + 1) gh lo hi gp gs lo' H G { q with cert := { q.cert with signs := G.drop lo' } } (S.set σ.length (.box (trC σ.length q gh lo hi gp gs lo' G.length))) :=
 ⟨List.getElem?_set_self (zF j.a),zc _ j.b (by omega),zc _ j.h (by omega),zc _ j.p (by omega),zc _ j.s (by omega),j.hh,j.h1,rfl,⟨h1,by have := j.s1.2; omega⟩,by have := j.p1; simp only; omega,by rw [zcz (Nat.le_refl _)]; exact j.pre⟩
theorem TrJ.row (j : TrJ σ k gh lo hi gp gs lo2 H G q S) (H' : List zcF) (hl : H'.length = H.length) : TrJ σ (k + 1) gh lo hi gp gs lo2 H' G { q with headers := (H'.take hi).drop lo } (S.set (σ.length + 2) (.row gh 5 (zah (zeM H')))) :=
 ⟨zc _ j.a (by omega),zc _ j.b (by omega),List.getElem?_set_self (zF j.h),zc _ j.p (by omega),zc _ j.s (by omega),rfl,by rw [hl]; exact j.h1,j.ss,⟨j.s1.1,by have := j.s1.2; omega⟩,by have := j.p1; simp only; omega,by rw [zcz (by omega)]; exact j.pre⟩
theorem TrJ.growS (j : TrJ σ k gh lo hi gp gs lo2 H G q S) (G' : List zJ) (hl : G'.length ≤ 1073741824 + (k + 1)) (g n : Nat) (hn : n = G'.length) : TrJ σ (k + 1) gh lo hi gp g 0 H G' { q with cert := { q.cert with signs := G' } } ((S.set (σ.length + 4) (.row g 2 (zah (zaz G')))).set σ.length (.box (trC σ.length q gh lo hi gp g 0 n))) := by
 subst hn
 exact ⟨List.getElem?_set_self (by have := zF j.a; simpa using this),zc _ (zc _ j.b (by omega)) (by omega),zc _ (zc _ j.h (by omega)) (by omega),zc _ (zc _ j.p (by omega)) (by omega),zc _ (List.getElem?_set_self (zF j.s)) (by omega),j.hh,j.h1,rfl,⟨by omega,hl⟩,by have := j.p1; simp only; omega,by rw [zcz (Nat.le_refl _),zcz (by omega)]; exact j.pre⟩
theorem TrJ.growP (j : TrJ σ k gh lo hi gp gs lo2 H G q S) (d : Int) (g : Nat) : TrJ σ (k + 1) gh lo hi g gs lo2 H G { q with path := q.path ++ [d] } ((S.set (σ.length + 3) (.row g 1 (zah (zbO (q.path ++ [d]))))).set σ.length (.box [.d (.str q.topic), .d (.int .i64 q.offset), .d (.slice (bcs q.rec_)), .rsl (σ.length + 2) gh 5 lo hi, .d (.int .i64 q.index), .d (.int .i64 q.count), .rsl (σ.length + 3) g 1 0 (q.path.length + 1), .d (.int .i64 q.cert.seq), .d (.int .i64 q.cert.dig), .rsl (σ.length + 4) gs 2 lo2 G.length])) :=
 ⟨by rw [trC,List.length_append]; exact List.getElem?_set_self (by have := zF j.a; simpa using this),zc _ (zc _ j.b (by omega)) (by omega),zc _ (zc _ j.h (by omega)) (by omega),zc _ (List.getElem?_set_self (zF j.p)) (by omega),zc _ (zc _ j.s (by omega)) (by omega),j.hh,j.h1,j.ss,⟨j.s1.1,by have := j.s1.2; omega⟩,by rw [List.length_append]; have := j.p1; simp only [List.length_cons,List.length_nil]; omega,by rw [zcz (Nat.le_refl _),zcz (by omega)]; exact j.pre⟩
theorem TrJ.next (j : TrJ σ k gh lo hi gp gs lo2 H G q S) : TrJ σ (k + 1) gh lo hi gp gs lo2 H G q S :=
 ⟨j.a,j.b,j.h,j.p,j.s,j.hh,j.h1,j.ss,⟨j.s1.1,by have := j.s1.2; omega⟩,by have := j.p1; omega,j.pre⟩
end
theorem List.set_eq_take_append_cons_drop_lt {α : Type} {l : List α} {i : Nat} {x : α} (h : i < l.length) : l.set i x = l.take i ++ x :: l.drop (i + 1) := by
 rw [List.set_eq_take_append_cons_drop,if_pos h]
theorem zno {sz : Nat} {es : List (List D)} (h : ∀ e ∈ es,e.length = sz := by intro e he; obtain ⟨x,_,rfl⟩ := List.mem_map.1 he; rfl) : es.flatten.length = es.length * sz := by
 have := zdF h
 rwa [List.length_map] at this
theorem modify_slice {H : List zcF} {lo hi i : Nat} (f : zcF → zcF) (h1 : lo + i < hi) (h2 : lo + i < H.length) : ((H.take hi).drop lo).modify i f = ((H.set (lo + i) (f H[lo + i])).take hi).drop lo := by
 apply List.ext_getElem?
 intro m
 simp only [List.getElem?_modify,List.getElem?_drop,List.getElem?_take,List.getElem?_set]
 by_cases hm : i = m
 ·subst hm
  simp [h1,h2]
 ·have : ¬ lo + i = lo + m := by omega
  simp only [hm,this,if_false]
  split <;> simp
theorem wu64 (n : Int) : IntKind.u64.wrap n = n % 18446744073709551616 := rfl
theorem idx_facts (n : Int) {len : Nat} (h0 : 0 < len) (h1 : len ≤ 9000000000000000000) : IntKind.u64.wrap (len : Int) = len ∧ (IntKind.u64.wrap n).tmod (len : Int) = (zqQ n len : Int) ∧ IntKind.i64.wrap (zqQ n len : Int) = (zqQ n len : Int) ∧ zqQ n len < len := by
 have hw : 0 ≤ IntKind.u64.wrap n := by rw [wu64]; omega
 have h2 := Int.tmod_lt_of_pos (IntKind.u64.wrap n) (b := (len : Int)) (by omega)
 have h3 := Int.tmod_nonneg (len : Int) hw
 have e : (IntKind.u64.wrap n).tmod (len : Int) = (zqQ n len : Int) := by rw [zqQ]; omega
 refine ⟨?_,e, ?_,by omega⟩
 ·exact zch (by omega)
 ·exact zX (by omega) (by omega)
theorem chunks_flat' (s : Nat) : ∀ (es : List (List D)),(∀ e ∈ es,e.length = s) → zab s es.length es.flatten = es
 | [],_ => rfl
 | e :: es,h => by
  simp only [List.length_cons,zab,List.flatten_cons]
  have he := h e List.mem_cons_self
  rw [List.take_left' he,List.drop_left' he,chunks_flat' s es fun e he => h e (List.mem_cons_of_mem _ he)]
theorem allO_frz {σ : List zg} {n m : Nat} : ∀ ds : List D,allO ((ds.map AV.d).map (frz σ n m)) = some ds
 | [] => rfl
 | d :: ds => by
  have : frz σ n m (.d d) = some d := by cases m <;> rfl
  simp only [List.map_cons,this,allO,allO_frz ds]
theorem zub {σ : List zg} {n₀ m t g sz lo hi : Nat} {es : List (List D)} (ht : σ[t]? = some (.row g sz (zah es))) (hn : n₀ ≤ t) (h : ∀ e ∈ es,e.length = sz) (hh : hi ≤ es.length) : frz σ n₀ (m + 2) (.rsl t g sz lo hi) = some (.slice ((es.take hi).drop lo)) := by
 have h2 : ∀ e ∈ (es.take hi).drop lo,e.length = sz := fun e he => h e (List.mem_of_mem_take (List.mem_of_mem_drop he))
 have hl : ((es.take hi).drop lo).length = hi - lo := by rw [List.length_drop,List.length_take]; omega
 have e1 : ((zah es).drop (lo * sz)).take ((hi - lo) * sz) = zah ((es.take hi).drop lo) := by
  rw [ziD h,zoR fun e he => h e (List.mem_of_mem_drop he),List.drop_take]
 simp only [frz,ht,hn,true_and,and_self,if_true,e1]
 rw [allO_frz]
 simp only
 rw [← hl,chunks_flat' sz _ h2]
def TrE (σ : List zg) (k : Nat) (q : zaU) (S : List zg) : Prop := ∃ gh lo hi gp gs lo2 H G,TrJ σ k gh lo hi gp gs lo2 H G q S
theorem tr_first {σ : List zg} {p : zaU} (hh : p.headers.length ≤ 1073741824) (hp : p.path.length ≤ 1073741824) (hs : p.cert.signs.length ≤ 1073741824) :
  TrJ σ 0 0 0 p.headers.length 0 0 0 p.headers p.cert.signs p (σ ++ [.box (trC σ.length p 0 0 p.headers.length 0 0 0 p.cert.signs.length), .box zero10, .row 0 5 (zah (zeM p.headers)), .row 0 1 (zah (zbO p.path)), .row 0 2 (zah (zaz p.cert.signs))]) :=
 ⟨by rw [zy]; rfl,by rw [zr]; rfl,by rw [zr]; rfl,by rw [zr]; rfl,by rw [zr]; rfl,by simp,by omega,rfl,by omega,by omega,by simp⟩
theorem gq52 {A P Q : Prop} (a : A) (h : Q) (e : A → P = Q := by intro a; simp -dsimp only [↓zey, ↓zau, ↓zbj, ↓zeA, ↓zes, ↓zeq, ↓zet, ↓zer, ↓zbo, ↓zbk, ↓zbp, ↓zbl, ↓zeu, ↓zbi, ↓zbq, ↓zbm, ↓zbr, ↓zbn, ↓zep, ↓zew, ↓zbh, ↓zbs, ↓zeg, ↓zef, ↓zeo,iN,bT,bF,eN, ↓zcS, ↓unC, ↓zW, ↓zK, ↓zL, ↓zN, ↓zZ, ↓zaw, ↓zbT, ↓zag, ↓zbu, ↓zP, ↓zq, ↓zo, ↓zby, ↓zl, ↓zaf, ↓zH, ↓zaC, ↓zaG, ↓ze, ↓zC, ↓zt, ↓zw, ↓zan, ↓zcC, ↓zdb, ↓zal, ↓zat, ↓zaF, ↓zaP, ↓zaW, ↓zu, ↓zai, ↓zM, ↓zA, ↓zaa,zdi,zbd,zba,unA,zdk,bnd,zdw,zac,zS,zdy,dm,dm1,zB,zak,zdP,zdO,zQ,Q0,Q1,Q2,Q3,Q4,Q5,zR,zr,zy,zO,zI,Q6,Q7,Q8,Q9,Q10,Q11,Q12,Q13,Q14,Nat.reduceAdd,Q15,Int.reduceToNat,Q16,Q17,Q18,Q19,Q20,reduceIte,Q21,Q22,zE,rep,zV,zdG,toD,zab,Q23,Q24,Q25,Q26,Q27,Q28,Nat.reduceLeDiff,Q29,Nat.reduceSub,Q30,Q31,Q32,sc,Q33,Q34,Q35,Q36,Q37,Q26,Q38,Q39,zgH,zgE,zgB,zgI,zcf,zgF,zgC,zgG,zgD,zce,zcg,zgJ,zgK,Bool.not_true,Bool.not_false,List.length_map,zdf,zpV,a]; rfl) : P := (e a).mpr h
theorem zlz {σ : List zg} {p : zaU} {l : List zkX} (hh : p.headers.length ≤ 1073741824) (hp : p.path.length ≤ 1073741824) (hs : p.cert.signs.length ≤ 1073741824) (hl0 : l.length ≤ 1073741824)
  {K : KT} (hK : K (zgQ (zkl p l)) σ) : zD Tryz.prog zfA [zgQ p, .d (.slice (ztL l))] σ K := by
 refine acall_frz znr.is rfl 3 fun hl _ => znr.goes ?_
 have e1 : (zeM p.headers).length = p.headers.length := List.length_map ..
 have e2 : (zbO p.path).length = p.path.length := List.length_map ..
 have e3 : (zaz p.cert.signs).length = p.cert.signs.length := List.length_map ..
 have e4 : (ztL l).length = l.length := List.length_map ..
 have f1 : ∀ e ∈ zeM p.headers,e.length = 5 := by intro e he; obtain ⟨x,_,rfl⟩ := List.mem_map.1 he; rfl
 have f2 : ∀ e ∈ zbO p.path,e.length = 1 := by intro e he; obtain ⟨x,_,rfl⟩ := List.mem_map.1 he; rfl
 have f3 : ∀ e ∈ zaz p.cert.signs,e.length = 2 := by intro e he; obtain ⟨x,_,rfl⟩ := List.mem_map.1 he; rfl
 simp only [znP,iN,bT,bF,eN,zgQ]
 (repeat' first | refine gq52 (zd e1 (zd e2 (zd e3 (zd e4 (zd f1 (zd f2 f3)))))) ?_ | with_reducible first | exact ⟨⟩ | refine zh ?_ | fail)
 refine zG l.length (fun k vs S => vs = [.d (.int .i64 k)] ∧ TrE σ k (zkl p (l.take k)) S) ⟨rfl, 0, 0,p.headers.length, 0, 0, 0,p.headers,p.cert.signs,tr_first hh hp hs⟩ ?_
 rintro k vs S hk ⟨rfl,gh,lo,hi,gp,gs,lo2,H,G,j⟩
 obtain ⟨q,hq⟩ : ∃ q,zkl p (l.take k) = q := ⟨_,rfl⟩
 rw [hq] at j
 by_cases hlt : k < l.length
 ·have hd : decide ((k : Int) < (l.length : Int)) = true := by simp; omega
  have hx : l[k]? = some l[k] := by simp [hlt]
  have hgx := zae (f := zpf) hx
  obtain ⟨w,hw⟩ : ∃ w,l[k] = w := ⟨_,rfl⟩
  rw [hw] at hx hgx
  have hn : zkl p (l.take (k + 1)) = zcH q w := by rw [zkl,zdX hx, ← hq]; rfl
  have hwk : IntKind.i64.wrap ((k : Int) + 1) = ((k + 1 : Nat) : Int) := by rw [zX (by omega) (by omega)]; rfl
  have ja : ∀ τ,(S ++ τ)[σ.length]? = some _ := fun τ => zf j.a
  have l0 := zF j.a
  have sa : ∀ τ Y,(S ++ τ).set σ.length Y = S.set σ.length Y ++ τ := fun τ Y => List.set_append_left _ _ l0
  have step : ∀ (q' : zaU) (S' : List zg),zcH q w = q' → TrE σ (k + 1) q' S' → zav l.length (fun k vs S => vs = [.d (.int .i64 k)] ∧ TrE σ k (zkl p (l.take k)) S) k [.d (.int .i64 ((k + 1 : Nat) : Int))] S' := fun q' S' h1 h2 => zav.next hlt ⟨rfl,by rw [hn,h1]; exact h2⟩
  cases c1 : (w.do_ == 1)
  rotate_left
  ·have e : w.do_ = 1 := by simpa using c1
   (repeat' first | refine gq2 (zd hd (zd e4 (zd hgx (zd c1 (zd hwk (zd ja sa)))))) ?_ | with_reducible first | exact ⟨⟩ | refine zh ?_ | fail)
   exact step _ _ (by rw [zcH,e]; rfl) ⟨gh,lo,hi,gp,gs,lo2,H,G,(j.set { q with rec_ := w.rec_ } rfl rfl rfl).app _⟩
  cases c2 : (w.do_ == 2)
  rotate_left
  ·have e : w.do_ = 2 := by simpa using c2
   (repeat' first | refine gq2 (zd hd (zd e4 (zd hgx (zd c1 (zd c2 (zd hwk (zd ja sa))))))) ?_ | with_reducible first | exact ⟨⟩ | refine zh ?_ | fail)
   exact step _ _ (by rw [zcH,e]; rfl) ⟨gh,lo,hi,gp,gs,lo2,H,G,(j.set { q with offset := IntKind.i64.wrap (q.offset + 1) } rfl rfl rfl).app _⟩
  cases c3 : (w.do_ == 3)
  rotate_left
  ·have e : w.do_ = 3 := by simpa using c3
   (repeat' first | refine gq2 (zd hd (zd e4 (zd hgx (zd c1 (zd c2 (zd c3 (zd hwk (zd ja sa)))))))) ?_ | with_reducible first | exact ⟨⟩ | refine zh ?_ | fail)
   exact step _ _ (by rw [zcH,e]; rfl) ⟨gh,lo,hi,gp,gs,lo2,H,G,(j.set { q with index := IntKind.i64.wrap (q.index + 1) } rfl rfl rfl).app _⟩
  cases c4 : (w.do_ == 4)
  rotate_left
  ·have e : w.do_ = 4 := by simpa using c4
   (repeat' first | refine gq2 (zd hd (zd e4 (zd hgx (zd c1 (zd c2 (zd c3 (zd c4 (zd hwk (zd ja sa))))))))) ?_ | with_reducible first | exact ⟨⟩ | refine zh ?_ | fail)
   exact step _ _ (by rw [zcH,e]; rfl) ⟨gh,lo,hi,gp,gs,lo2,H,G,(j.set { q with count := IntKind.i64.wrap (q.count + w.n.tmod 3) } rfl rfl rfl).app _⟩
  have jp : ∀ τ,(S ++ τ)[σ.length + 3]? = some _ := fun τ => zf j.p
  have jh : ∀ τ,(S ++ τ)[σ.length + 2]? = some _ := fun τ => zf j.h
  have js : ∀ τ,(S ++ τ)[σ.length + 4]? = some _ := fun τ => zf j.s
  cases c5 : (w.do_ == 5)
  rotate_left
  ·have e : w.do_ = 5 := by simpa using c5
   rcases Nat.eq_zero_or_pos q.path.length with h0 | h0
   ·have hz : decide (((q.path.length : Nat) : Int) > 0) = false := decide_eq_false (by omega)
    (repeat' first | refine gq2 (zd hd (zd e4 (zd hgx (zd c1 (zd c2 (zd c3 (zd c4 (zd c5 (zd hwk (zd ja (zd sa hz))))))))))) ?_ | with_reducible first | exact ⟨⟩ | refine zh ?_ | fail)
    have e5 : zcH q w = q := by
     have : q.path = [] := List.eq_nil_of_length_eq_zero h0
     obtain ⟨a1,a2,a3,a4,a5,a6,a7,a8⟩ := q
     simp only at this
     subst this
     rw [zcH,e]; rfl
    exact step _ _ e5 ⟨gh,lo,hi,gp,gs,lo2,H,G,j.next.app _⟩
   ·have hz : decide (((q.path.length : Nat) : Int) > 0) = true := decide_eq_true (by omega)
    obtain ⟨hu,ht,hi1,hiq⟩ := idx_facts w.n h0 (by have := j.p1; omega)
    have hpl : (zah (zbO q.path)).length = q.path.length := by rw [zdF (sz := 1) (fun e he => by obtain ⟨x,_,rfl⟩ := List.mem_map.1 he; rfl),List.length_map]; omega
    have hi2 : ((zqQ w.n q.path.length : Nat) : Int).toNat = zqQ w.n q.path.length := rfl
    have hi3 : zqQ w.n q.path.length + 1 ≤ (zah (zbO q.path)).length := by omega
    have hi4 : 0 ≤ ((zqQ w.n q.path.length : Nat) : Int) := by omega
    have hi5 : ((zqQ w.n q.path.length : Nat) : Int) < (q.path.length : Int) := by omega
    have sp : List.take (zqQ w.n q.path.length) (zah (zbO q.path)) ++ AV.d (.int .i64 w.dig) :: List.drop (zqQ w.n q.path.length + 1) (zah (zbO q.path)) = zah (zbO (q.path.set (zqQ w.n q.path.length) w.dig)) := by
     rw [← List.set_eq_take_append_cons_drop_lt (by omega)]
     have hget : (zbO q.path)[zqQ w.n q.path.length]? = some [.int .i64 q.path[zqQ w.n q.path.length]] := zae (f := fun x : Int => [D.int .i64 x]) (by simp [hiq])
     have := ziC (sz := 1) (es := zbO q.path) (fun e he => by obtain ⟨x,_,rfl⟩ := List.mem_map.1 he; rfl) hget (i := 0) (by omega) (.int .i64 w.dig)
     rw [Nat.mul_one,Nat.add_zero] at this
     rw [this]
     simp [List.map_set]
    (repeat' first | refine gq2 (zd hd (zd e4 (zd hgx (zd c1 (zd c2 (zd c3 (zd c4 (zd c5 (zd hwk (zd ja (zd sa (zd hz (zd jp (zd hu (zd ht (zd hi1 (zd hi2 (zd hi3 (zd hi4 hi5))))))))))))))))))) ?_ | with_reducible first | exact ⟨⟩ | refine zh ?_ | fail)
    rw [sp]
    refine ⟨by rw [zno (sz := 1),List.length_map]; omega, ?_⟩
    exact step _ _ (by rw [zcH,e]; rfl) ⟨gh,lo,hi,gp,gs,lo2,H,G,(j.app _).path (i := zqQ w.n q.path.length) w.dig hiq⟩
  have hql : q.headers.length = hi - lo := by rw [j.hh,List.length_drop,List.length_take]; have := j.h1; omega
  have hh0 : hi - lo = 0 → q.headers = [] := fun h => List.eq_nil_of_length_eq_zero (by omega)
  obtain ⟨o1,o2,o3⟩ := j.h1
  obtain ⟨o4,o5⟩ := j.s1
  have hlh : lo + (hi - lo) = hi := by omega
  have hlg : lo2 + (G.length - lo2) = G.length := by omega
  cases c6 : (w.do_ == 6)
  rotate_left
  ·have e : w.do_ = 6 := by simpa using c6
   rcases Nat.eq_zero_or_pos (hi - lo) with h0 | h0
   ·have hz : decide (((hi - lo : Nat) : Int) > 0) = false := decide_eq_false (by omega)
    (repeat' first | refine gq2 (zd hd (zd e4 (zd hgx (zd c1 (zd c2 (zd c3 (zd c4 (zd c5 (zd c6 (zd hwk (zd ja (zd sa hz)))))))))))) ?_ | with_reducible first | exact ⟨⟩ | refine zh ?_ | fail)
    have e5 : zcH q w = q := by
     have := hh0 h0
     obtain ⟨a1,a2,a3,a4,a5,a6,a7,a8⟩ := q
     simp only at this
     subst this
     rw [zcH,e]; rfl
    exact step _ _ e5 ⟨gh,lo,hi,gp,gs,lo2,H,G,j.next.app _⟩
   ·have hz : decide (((hi - lo : Nat) : Int) > 0) = true := decide_eq_true (by omega)
    (repeat' first | refine gq2 (zd hd (zd e4 (zd hgx (zd c1 (zd c2 (zd c3 (zd c4 (zd c5 (zd c6 (zd hwk (zd ja (zd sa (zd hz hlh))))))))))))) ?_ | with_reducible first | exact ⟨⟩ | refine zh ?_ | fail)
    refine step _ _ ?_ ⟨gh,_,_,gp,gs,lo2,H,G,(j.hdrs (lo + 1) hi (by omega) o2).app _⟩
    rw [zcH,e]
    show { q with headers := q.headers.drop 1 } = _
    rw [j.hh,List.drop_drop]
  cases c7 : (w.do_ == 7)
  rotate_left
  ·have e : w.do_ = 7 := by simpa using c7
   rcases Nat.eq_zero_or_pos (hi - lo) with h0 | h0
   ·have hz : decide (((hi - lo : Nat) : Int) > 0) = false := decide_eq_false (by omega)
    (repeat' first | refine gq2 (zd hd (zd e4 (zd hgx (zd c1 (zd c2 (zd c3 (zd c4 (zd c5 (zd c6 (zd c7 (zd hwk (zd ja (zd sa hz))))))))))))) ?_ | with_reducible first | exact ⟨⟩ | refine zh ?_ | fail)
    have e5 : zcH q w = q := by
     have := hh0 h0
     obtain ⟨a1,a2,a3,a4,a5,a6,a7,a8⟩ := q
     simp only at this
     subst this
     rw [zcH,e]; rfl
    exact step _ _ e5 ⟨gh,lo,hi,gp,gs,lo2,H,G,j.next.app _⟩
   ·have hz : decide (((hi - lo : Nat) : Int) > 0) = true := decide_eq_true (by omega)
    have hw1 : IntKind.i64.wrap (((hi - lo : Nat) : Int) - 1) = ((hi - lo - 1 : Nat) : Int) := by rw [zX (by omega) (by omega)]; omega
    (repeat' first | refine gq2 (zd hd (zd e4 (zd hgx (zd c1 (zd c2 (zd c3 (zd c4 (zd c5 (zd c6 (zd c7 (zd hwk (zd ja (zd sa (zd hz (zd hlh hw1))))))))))))))) ?_ | with_reducible first | exact ⟨⟩ | refine zh ?_ | fail)
    refine step _ _ ?_ ⟨gh,_,_,gp,gs,lo2,H,G,(j.hdrs lo (lo + (hi - lo - 1)) (by omega) (by omega)).app _⟩
    rw [zcH,e]
    show { q with headers := q.headers.take (q.headers.length - 1) } = _
    rw [hql,j.hh,List.take_drop,List.take_take,Nat.min_eq_left (by omega)]
  cases c8 : (w.do_ == 8)
  rotate_left
  ·have e : w.do_ = 8 := by simpa using c8
   rcases Nat.eq_zero_or_pos (hi - lo) with h0 | h0
   ·have hz : decide (((hi - lo : Nat) : Int) > 0) = false := decide_eq_false (by omega)
    (repeat' first | refine gq2 (zd hd (zd e4 (zd hgx (zd c1 (zd c2 (zd c3 (zd c4 (zd c5 (zd c6 (zd c7 (zd c8 (zd hwk (zd ja (zd sa hz)))))))))))))) ?_ | with_reducible first | exact ⟨⟩ | refine zh ?_ | fail)
    have e5 : zcH q w = q := by
     have : zcH q w = { q with headers := q.headers.modify (zqQ w.n q.headers.length) fun h => { h with root := w.dig } } := by rw [zcH,e]; rfl
     have h8 : (q.headers.modify (zqQ w.n q.headers.length) fun h => { h with root := w.dig }) = q.headers := by rw [hh0 h0,List.modify_nil]
     rw [this,h8]
    exact step _ _ e5 ⟨gh,lo,hi,gp,gs,lo2,H,G,j.next.app _⟩
   ·have hz : decide (((hi - lo : Nat) : Int) > 0) = true := decide_eq_true (by omega)
    obtain ⟨hu,ht,hi1,hiq⟩ := idx_facts w.n h0 (by omega)
    obtain ⟨i,hiQ⟩ : ∃ i,zqQ w.n (hi - lo) = i := ⟨_,rfl⟩
    rw [hiQ] at ht hi1 hiq
    have hi2 : ((i : Nat) : Int).toNat = i := rfl
    have hi4 : 0 ≤ ((i : Nat) : Int) := by omega
    have hi5 : ((i : Nat) : Int) < ((hi - lo : Nat) : Int) := by omega
    (repeat' first | refine gq2 (zd hd (zd e4 (zd hgx (zd c1 (zd c2 (zd c3 (zd c4 (zd c5 (zd c6 (zd c7 (zd c8 (zd hwk (zd ja (zd sa (zd hz (zd hu (zd ht (zd hi1 (zd hi2 (zd hi4 (zd hi5 jh))))))))))))))))))))) ?_ | with_reducible first | exact ⟨⟩ | refine zh ?_ | fail)
    have hin : lo + i < H.length := by omega
    have hgH : H[lo + i]? = some H[lo + i] := by simp [hin]
    have hgE : (zeM H)[lo + i]? = some (hdrD H[lo + i]) := zae (f := hdrD) hgH
    have hfl : (zah (zeM H)).length = H.length * 5 := by rw [zdF (sz := 5) (fun e he => by obtain ⟨x,_,rfl⟩ := List.mem_map.1 he; rfl),List.length_map (f := hdrD)]
    have sp : List.take ((lo + i) * 5 + 3) (zah (zeM H)) ++ AV.d (.int .i64 w.dig) :: List.drop ((lo + i) * 5 + 4) (zah (zeM H)) = zah (zeM (H.set (lo + i) { H[lo + i] with root := w.dig })) := by
     rw [← List.set_eq_take_append_cons_drop_lt (by omega),ziC (fun e he => by obtain ⟨x,_,rfl⟩ := List.mem_map.1 he; rfl) hgE (by omega)]
     simp [List.map_set]
    rw [sp]
    refine ⟨by rw [zno (sz := 5),List.length_map]; omega,step _ _ ?_ ⟨gh,lo,hi,gp,gs,lo2,_,G,(j.app _).row (H.set (lo + i) { H[lo + i] with root := w.dig }) (by simp)⟩⟩
    rw [zcH,e]
    show { q with headers := q.headers.modify (zqQ w.n q.headers.length) fun h => { h with root := w.dig } } = _
    rw [hql,hiQ,j.hh]
    rw [modify_slice _ (by omega) hin]
  cases c9 : (w.do_ == 9)
  rotate_left
  ·have e : w.do_ = 9 := by simpa using c9
   rcases Nat.eq_zero_or_pos (G.length - lo2) with h0 | h0
   ·have hz : decide (((G.length - lo2 : Nat) : Int) > 0) = false := decide_eq_false (by omega)
    (repeat' first | refine gq2 (zd hd (zd e4 (zd hgx (zd c1 (zd c2 (zd c3 (zd c4 (zd c5 (zd c6 (zd c7 (zd c8 (zd c9 (zd hwk (zd ja (zd sa hz))))))))))))))) ?_ | with_reducible first | exact ⟨⟩ | refine zh ?_ | fail)
    have e5 : zcH q w = q := by
     have h9 : q.cert.signs = [] := by rw [j.ss]; exact List.drop_of_length_le (by omega)
     obtain ⟨a1,a2,a3,a4,a5,a6,a7,⟨a8,a9,a10⟩⟩ := q
     simp only at h9
     subst h9
     rw [zcH,e]; rfl
    exact step _ _ e5 ⟨gh,lo,hi,gp,gs,lo2,H,G,j.next.app _⟩
   ·have hz : decide (((G.length - lo2 : Nat) : Int) > 0) = true := decide_eq_true (by omega)
    (repeat' first | refine gq2 (zd hd (zd e4 (zd hgx (zd c1 (zd c2 (zd c3 (zd c4 (zd c5 (zd c6 (zd c7 (zd c8 (zd c9 (zd hwk (zd ja (zd sa (zd hz hlg)))))))))))))))) ?_ | with_reducible first | exact ⟨⟩ | refine zh ?_ | fail)
    refine step _ _ ?_ ⟨gh,lo,hi,gp,gs,_,H,G,(j.sgns (lo2 + 1) (by omega)).app _⟩
    rw [zcH,e]
    show { q with cert := { q.cert with signs := q.cert.signs.drop 1 } } = _
    rw [j.ss,List.drop_drop]
  cases c10 : (w.do_ == 10)
  rotate_left
  ·have e : w.do_ = 10 := by simpa using c10
   (repeat' first | refine gq2 (zd hd (zd e4 (zd hgx (zd c1 (zd c2 (zd c3 (zd c4 (zd c5 (zd c6 (zd c7 (zd c8 (zd c9 (zd c10 (zd hwk (zd ja sa))))))))))))))) ?_ | with_reducible first | exact ⟨⟩ | refine zh ?_ | fail)
   exact step _ _ (by rw [zcH,e]; rfl) ⟨gh,lo,hi,gp,gs,lo2,H,G,(j.set { q with cert := { q.cert with dig := w.dig } } rfl rfl rfl).app _⟩
  cases c11 : (w.do_ == 11)
  rotate_left
  ·have e : w.do_ = 11 := by simpa using c11
   have u0 : ∀ τ Y,((S ++ τ).set (σ.length + 4) Y)[σ.length]? = _ := fun τ Y => zc Y (ja τ) (by omega)
   have sp : List.drop (lo2 * 2) (zah (zaz G)) ++ [AV.d (.int .i64 (w.n.tmod 13)),AV.d (.int .i64 w.dig)] = zah (zaz (G.drop lo2 ++ [⟨w.n.tmod 13,w.dig⟩])) := by
    rw [ziD (fun e he => by obtain ⟨x,_,rfl⟩ := List.mem_map.1 he; rfl)]
    simp [zah,zid,List.map_drop]
   (repeat' first | refine gq52 (zd hd (zd e4 (zd hgx (zd c1 (zd c2 (zd c3 (zd c4 (zd c5 (zd c6 (zd c7 (zd c8 (zd c9 (zd c10 (zd c11 (zd hwk (zd ja (zd sa (zd js u0)))))))))))))))))) ?_ | with_reducible first | exact ⟨⟩ | refine zh ?_ | fail)
   rw [sp]
   refine ⟨by rw [zno (sz := 2),List.length_map],by omega,step { q with cert := { q.cert with signs := G.drop lo2 ++ [⟨w.n.tmod 13,w.dig⟩] } } _ ?_ ⟨gh,lo,hi,gp,gs + 1, 0,H,G.drop lo2 ++ [⟨w.n.tmod 13,w.dig⟩],(j.app _).growS (G.drop lo2 ++ [⟨w.n.tmod 13,w.dig⟩]) (by simp; omega) (gs + 1) (G.length - lo2 + 1) (by simp)⟩⟩
   rw [zcH,e]
   show { q with cert := { q.cert with signs := q.cert.signs ++ [(⟨w.n.tmod 13,w.dig⟩ : zJ)] } } = _
   rw [j.ss]
  cases c12 : (w.do_ == 12)
  rotate_left
  ·have e : w.do_ = 12 := by simpa using c12
   have u0 : ∀ τ Y,((S ++ τ).set (σ.length + 3) Y)[σ.length]? = _ := fun τ Y => zc Y (ja τ) (by omega)
   have sp : zah (zbO q.path) ++ [AV.d (.int .i64 w.dig)] = zah (zbO (q.path ++ [w.dig])) := by simp [zah]
   (repeat' first | refine gq52 (zd hd (zd e4 (zd hgx (zd c1 (zd c2 (zd c3 (zd c4 (zd c5 (zd c6 (zd c7 (zd c8 (zd c9 (zd c10 (zd c11 (zd c12 (zd hwk (zd ja (zd sa (zd jp u0))))))))))))))))))) ?_ | with_reducible first | exact ⟨⟩ | refine zh ?_ | fail)
   rw [sp]
   refine ⟨by rw [zno (sz := 1),List.length_map]; omega,by have := j.p1; omega,step _ _ ?_ ⟨gh,lo,hi,_,gs,lo2,H,G,(j.app _).growP w.dig (gp + 1)⟩⟩
   rw [zcH,e]; rfl
  (repeat' first | refine gq2 (zd hd (zd e4 (zd hgx (zd c1 (zd c2 (zd c3 (zd c4 (zd c5 (zd c6 (zd c7 (zd c8 (zd c9 (zd c10 (zd c11 (zd c12 (zd hwk (zd ja sa))))))))))))))))) ?_ | with_reducible first | exact ⟨⟩ | refine zh ?_ | fail)
  have e5 : zcH q w = q := by
   have q1 : ∀ n : Int,(w.do_ == n) = false → ¬ w.do_ = n := fun n h => by simpa using h
   rw [zcH,if_neg (q1 _ c1),if_neg (q1 _ c2),if_neg (q1 _ c3),if_neg (q1 _ c4),if_neg (q1 _ c5),if_neg (q1 _ c6),if_neg (q1 _ c7),if_neg (q1 _ c8),if_neg (q1 _ c9),if_neg (q1 _ c10),if_neg (q1 _ c11),if_neg (q1 _ c12)]
  exact step _ _ e5 ⟨gh,lo,hi,gp,gs,lo2,H,G,j.next.app _⟩
 ·have hd : decide ((k : Int) < (l.length : Int)) = false := by simp; omega
  rw [show l.take k = l from List.take_of_length_le (by omega)] at hq
  rw [hq] at hK
  have ja := j.a
  have jb := j.b
  have jb2 : ∀ Y,(S.set (σ.length + 1) Y)[σ.length + 1]? = some Y := fun Y => List.getElem?_set_self (zF jb)
  (repeat' first | refine gq2 (zd hd (zd e4 (zd ja (zd jb jb2)))) ?_ | with_reducible first | exact ⟨⟩ | refine zh ?_ | fail)
  have hS : σ.length + 1 ≠ σ.length + 2 ∧ σ.length + 1 ≠ σ.length + 3 ∧ σ.length + 1 ≠ σ.length + 4 := by omega
  have kh := fun Y => zc (i := σ.length + 1) Y j.h (by omega)
  have kp := fun Y => zc (i := σ.length + 1) Y j.p (by omega)
  have ks := fun Y => zc (i := σ.length + 1) Y j.s (by omega)
  have hpre : ∀ Y,(S.set (σ.length + 1) Y).take σ.length = σ := fun Y => by rw [zcz (by omega)]; exact j.pre
  have z1 := zub (n₀ := σ.length) (m := 1) (lo := lo) (hi := hi) (kh (.box [.d (.str q.topic), .d (.int .i64 q.offset), .d (.slice (bcs q.rec_)), .rsl (σ.length + 2) gh 5 lo hi, .d (.int .i64 q.index), .d (.int .i64 q.count), .rsl (σ.length + 3) gp 1 0 q.path.length, .d (.int .i64 q.cert.seq), .d (.int .i64 q.cert.dig), .rsl (σ.length + 4) gs 2 lo2 G.length])) (by omega) (fun e he => by obtain ⟨x,_,rfl⟩ := List.mem_map.1 he; rfl) (by rw [List.length_map]; exact j.h1.2.1)
  have z2 := zub (n₀ := σ.length) (m := 1) (lo := 0) (hi := q.path.length) (kp (.box [.d (.str q.topic), .d (.int .i64 q.offset), .d (.slice (bcs q.rec_)), .rsl (σ.length + 2) gh 5 lo hi, .d (.int .i64 q.index), .d (.int .i64 q.count), .rsl (σ.length + 3) gp 1 0 q.path.length, .d (.int .i64 q.cert.seq), .d (.int .i64 q.cert.dig), .rsl (σ.length + 4) gs 2 lo2 G.length])) (by omega) (fun e he => by obtain ⟨x,_,rfl⟩ := List.mem_map.1 he; rfl) (by rw [List.length_map]; omega)
  have z3 := zub (n₀ := σ.length) (m := 1) (lo := lo2) (hi := G.length) (ks (.box [.d (.str q.topic), .d (.int .i64 q.offset), .d (.slice (bcs q.rec_)), .rsl (σ.length + 2) gh 5 lo hi, .d (.int .i64 q.index), .d (.int .i64 q.count), .rsl (σ.length + 3) gp 1 0 q.path.length, .d (.int .i64 q.cert.seq), .d (.int .i64 q.cert.dig), .rsl (σ.length + 4) gs 2 lo2 G.length])) (by omega) (fun e he => by obtain ⟨x,_,rfl⟩ := List.mem_map.1 he; rfl) (by rw [List.length_map]; omega)
  rw [show (1 + 2 : Nat) = 3 from rfl] at z1 z2 z3
  have fd : ∀ S x,frz S σ.length 3 (.d x) = some x := fun _ _ => rfl
  simp only [EndsF,zca,frzT,frz1,List.map_cons,List.map_nil,z1,z2,z3,fd,allO]
  rw [hpre]
  refine ⟨hl, ?_⟩
  have e1 : ((zeM H).take hi).drop lo = zeM q.headers := by rw [j.hh]; simp [List.map_take,List.map_drop]
  have e2 : ((zbO q.path).take q.path.length).drop 0 = zbO q.path := by rw [List.take_of_length_le (by simp)]; rfl
  have e3 : ((zaz G).take G.length).drop lo2 = zaz q.cert.signs := by rw [j.ss,List.take_of_length_le (by simp)]; simp [List.map_drop]
  rw [e1,e2,e3]
  exact hK
end Go.Proofs.YtncpaekiidpchaaGreat
