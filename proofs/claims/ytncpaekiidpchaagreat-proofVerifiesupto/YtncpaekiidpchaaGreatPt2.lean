/- Contracts: whether a checkpoint's certificate is valid, on both sides. -/
import Derived.Test.YtncpaekiidpchaaGreatPt1
import Derived.Test.YtncpaekiidpchaaGreatSpChk
set_option linter.all false
set_option maxRecDepth 100000
namespace Go.Proofs.YtncpaekiidpchaaGreat
open Go.AW
theorem c_ptValid1 {σ : List zh} {a b c0 id m t id2 m2 t2 : Nat} {L : List (List UInt8)} {G : List zS} {c : zfk} {s : zS} (ha : σ[a]? = some (.box [.box id 0])) (hb : σ[b]? = some (.box [.box id2 0])) (hc : σ[c0]? = some (zvy c)) (hT : zcq σ id m t L) (hG : zev σ id2 m2 t2 G) (hL : zkB L) (hg : G.length ≤ 1073741824)
  {K : KT} (hK : K (.d (.bool (!ziR L G s s.key 6 0 c.seq c.dig))) σ) : zy Tryz.prog zfd [.agg [.d (.int .i64 s.key), .d (.int .i64 s.dig)], .box a 0, .box b 0, .box c0 0] σ K := by
 refine zi zlA.is rfl fun hl _ => zlA.goes ?_
 have sa : ∀ τ,(σ ++ τ)[a]? = _ := fun τ => zf ha
 have sb : ∀ τ,(σ ++ τ)[b]? = _ := fun τ => zf hb
 have sc : ∀ τ,(σ ++ τ)[c0]? = some (.box [.d (.int .i64 c.seq), .d (.int .i64 c.dig), .d (.slice (zax c.signs))]) := fun τ => zf hc
 simp only [zlU,iN,bT,bF,eN]
 (repeat' first | refine gq2 (zc sa sb) ?_ | with_reducible first | exact ⟨⟩ | refine zg ?_ | fail)
 refine zvM (s := s) (hT.app _) (hG.app _) hL hg ?_
 (repeat' first | refine gq1 ?_ | with_reducible first | exact ⟨⟩ | refine zg ?_ | fail)
 (first | refine zX hl ?_ | refine zW hl ?_)
 exact hK
theorem c_idxSign {σ : List zh} {b : List zS} {f : FuncId} {cap : List AV} {p : zS → Bool} (hb : b.length ≤ 1073741824) (hf : ∀ x ∈ b, ∀ K : AV → List zh → Prop,K (.d (.bool (p x))) σ → zy Tryz.prog f (.agg [.d (.int .i64 x.key), .d (.int .i64 x.dig)] :: cap) σ K)
  {K : KT} (hK : ∀ r : Int,decide (r ≥ 0) = b.any p → K (.d (.int .i64 r)) σ) : zy Tryz.prog zbp [.d (.slice (zax b)), .fn (.func f) [] cap] σ K := by
 refine zi zck.is rfl fun hl _ => zck.goes ?_
 simp only [zcl,iN,bT,bF,eN]
 (repeat' first | refine gq1 ?_ | with_reducible first | exact ⟨⟩ | refine zg ?_ | fail)
 refine zB b.length (fun k vs s => vs = [.d (.int .i64 k)] ∧ s = σ ∧ (b.take k).any p = false) ⟨rfl,rfl,by simp⟩ ?_
 rintro k vs s hk ⟨rfl,rfl,hno⟩
 by_cases hlt : k < b.length
 ·have hd : decide ((k : Int) < (b.length : Int)) = true := by simp; omega
  have hx : b[k]? = some b[k] := by simp [hlt]
  have hfx := hf _ (List.getElem_mem hlt)
  have hgx := zU (f := zgn) hx
  obtain ⟨x,hxe⟩ : ∃ x,b[k] = x := ⟨_,rfl⟩
  rw [hxe] at hx hgx hfx
  (repeat' first | refine gq34 (zc hd hgx) ?_ | with_reducible first | exact ⟨⟩ | refine zg ?_ | fail)
  refine hfx _ ?_
  cases h1 : p x
  ·(repeat' first | refine gq2 (wkc k (by omega)) ?_ | with_reducible first | exact ⟨⟩ | refine zg ?_ | fail)
   refine zap.next hlt ⟨rfl,rfl, ?_⟩
   rw [List.take_add_one,hx]
   simp [hno,h1]
  ·(repeat' first | refine gq1 ?_ | with_reducible first | exact ⟨⟩ | refine zg ?_ | fail)
   (first | refine zX hl ?_ | refine zW hl ?_)
   have : b.any p = true := List.any_eq_true.2 ⟨x,List.mem_of_getElem? hx,h1⟩
   exact hK _ (by rw [this]; simp)
 ·have hd : decide ((k : Int) < (b.length : Int)) = false := by simp; omega
  (repeat' first | refine gq2 hd ?_ | with_reducible first | exact ⟨⟩ | refine zg ?_ | fail)
  (first | refine zX hl ?_ | refine zW hl ?_)
  rw [List.take_of_length_le (by omega)] at hno
  exact hK _ (by rw [hno]; rfl)
theorem c_hasSign {σ : List zh} {b : List zS} {f : FuncId} {cap : List AV} {p : zS → Bool} (hb : b.length ≤ 1073741824) (hf : ∀ x ∈ b, ∀ K : AV → List zh → Prop,K (.d (.bool (p x))) σ → zy Tryz.prog f (.agg [.d (.int .i64 x.key), .d (.int .i64 x.dig)] :: cap) σ K)
  {K : KT} (hK : K (.d (.bool (b.any p))) σ) : zy Tryz.prog zaC [.d (.slice (zax b)), .fn (.func f) [] cap] σ K := by
 refine zi zbT.is rfl fun hl _ => zbT.goes ?_
 simp only [zbU,iN,bT,bF,eN]
 (repeat' first | refine gq1 ?_ | with_reducible first | exact ⟨⟩ | refine zg ?_ | fail)
 refine c_idxSign hb hf fun r hr => ?_
 (repeat' first | refine gq2 hr ?_ | with_reducible first | exact ⟨⟩ | refine zg ?_ | fail)
 (first | refine zX hl ?_ | refine zW hl ?_)
 exact hK
theorem not_any (l : List zS) (p : zS → Bool) : (!l.any fun s => !p s) = l.all p := by
 induction l with
 | nil => rfl
 | cons x l ih => simp only [List.any_cons,List.all_cons,Bool.not_or,Bool.not_not,ih]
theorem c_ptValid {σ : List zh} {id m t id2 m2 t2 : Nat} {L : List (List UInt8)} {G : List zS} {f : Int} {c : zfk} (hT : zcq σ id m t L) (hG : zev σ id2 m2 t2 G) (hL : zkB L) (hg : G.length ≤ 1073741824) (hl0 : c.signs.length ≤ 1073741824)
  {K : KT} (hK : K (.d (.bool (zlG L G f c))) σ) : zy Tryz.prog zjX [.box id 0, .box id2 0, .d (.int .i64 f),certA c] σ K := by
 refine zi zoc.is rfl fun hl _ => zoc.goes ?_
 have fin : ∀ z,zlG L G f c = z → K (.d (.bool z)) σ := fun z h => h ▸ hK
 clear hK
 simp only [zoF,iN,bT,bF,eN,certA]
 (repeat' first | refine gq1 ?_ | with_reducible first | exact ⟨⟩ | refine zg ?_ | fail)
 refine c_ptNew (fun h0 => ?_) (fun h0 => ?_)
 ·have h0' : (zdd f != 0) = true := by simpa using h0
  (repeat' first | refine gq2 h0' ?_ | with_reducible first | exact ⟨⟩ | refine zg ?_ | fail)
  (first | refine zX hl ?_ | refine zW hl ?_)
  exact fin _ (by rw [zlG,decide_eq_false h0]; rfl)
 (repeat' first | refine gq2 (show ((0 : Int) != 0) = false from rfl) ?_ | with_reducible first | exact ⟨⟩ | refine zg ?_ | fail)
 obtain ⟨S,hS⟩ : ∃ S, σ ++ [zh.box [.box id 0], .box [.box id2 0],zvy c, .map [], .box [.d (.int .i64 f), .d (.int .i64 0), .d (.int .i64 0), .exact [], .map (σ.length + 3), .exact []]] = S := ⟨_,rfl⟩
 have g0 : ∀ τ,(S ++ τ)[σ.length]? = some (.box [.box id 0]) := fun τ => zf (by rw [← hS,zx]; rfl)
 have g1 : ∀ τ,(S ++ τ)[σ.length + 1]? = some (.box [.box id2 0]) := fun τ => zf (by rw [← hS,zq]; rfl)
 have g2 : ∀ τ,(S ++ τ)[σ.length + 2]? = some (zvy c) := fun τ => zf (by rw [← hS,zq]; rfl)
 have g4 : S[σ.length + 4]? = some (.box (.d (.int .i64 f) :: [.d (.int .i64 0), .d (.int .i64 0), .exact [], .map (σ.length + 3), .exact []])) := by rw [← hS,zq]; rfl
 have g00 := g0 []; have g10 := g1 []; have g20 := g2 []
 rw [List.append_nil] at g00 g10 g20
 have tT : zcq S id m t L := hS ▸ hT.app _
 have tG : zev S id2 m2 t2 G := hS ▸ hG.app _
 have hpre : ∃ T,S = σ ++ T := ⟨_,hS.symm⟩
 rw [hS]
 refine c_ptMayCert g4 hl0 ?_
 cases h1 : zdk f c
 ·(repeat' first | refine gq1 ?_ | with_reducible first | exact ⟨⟩ | refine zg ?_ | fail)
  obtain ⟨T,rfl⟩ := hpre
  (first | refine zX hl ?_ | refine zW hl ?_)
  exact fin _ (by rw [zlG,h1]; simp)
 have hcf : zlG L G f c = c.signs.all fun s => ziR L G s s.key 6 0 c.seq c.dig := by rw [zlG,h1,decide_eq_true h0]; rfl
 have tail : ∀ τ,zy Tryz.prog zaC [.d (.slice (zax c.signs)), .fn (.func zfd) [] [.box σ.length 0, .box (σ.length + 1) 0, .box (σ.length + 2) 0]] (S ++ τ) fun K1 s => unC .not K1 s fun L1 s => z1 (AW.Ends σ.length K) L1 s := fun τ => by
  refine c_hasSign (p := fun s => !ziR L G s s.key 6 0 c.seq c.dig) hl0 (fun x _ K hK => c_ptValid1 (g0 _) (g1 _) (g2 _) (tT.app _) (tG.app _) hL hg hK) ?_
  rw [hcf, ← not_any] at fin
  (repeat' first | refine gq1 ?_ | with_reducible first | exact ⟨⟩ | refine zg ?_ | fail)
  obtain ⟨T,rfl⟩ := hpre
  rw [List.append_assoc]
  (first | refine zX hl ?_ | refine zW hl ?_)
  exact fin _ rfl
 have tail0 := tail []
 rw [List.append_nil] at tail0
 (repeat' first | refine gq2 (zc g00 (zc g10 g20)) ?_ | with_reducible first | exact ⟨⟩ | refine zg ?_ | fail)
 refine c_tLen tT ?_
 cases h2 : ((L.length : Int) == 0)
 ·(repeat' first | refine gq2 (zc h2 (zc g00 (zc g10 g20))) ?_ | with_reducible first | exact ⟨⟩ | refine zg ?_ | fail)
  refine c_gLen tG ?_
  cases h3 : ((G.length : Int) == 0)
  ·(repeat' first | refine gq2 (zc h2 (zc h3 (zc g00 (zc g10 g20)))) ?_ | with_reducible first | exact ⟨⟩ | refine zg ?_ | fail)
   exact tail0
  ·(repeat' first | refine gq2 (zc h2 (zc h3 (zc g00 (zc g10 g20)))) ?_ | with_reducible first | exact ⟨⟩ | refine zg ?_ | fail)
   refine zra tG hg fun g' => ?_
   (repeat' first | refine gq2 g2 ?_ | with_reducible first | exact ⟨⟩ | refine zg ?_ | fail)
   exact tail _
 ·(repeat' first | refine gq2 (zc h2 (zc g00 (zc g10 g20))) ?_ | with_reducible first | exact ⟨⟩ | refine zg ?_ | fail)
  refine zmo tT hL.nd hL.len hL.each ?_
  (repeat' first | refine gq2 g1 ?_ | with_reducible first | exact ⟨⟩ | refine zg ?_ | fail)
  refine c_gLen (tG.app _) ?_
  cases h3 : ((G.length : Int) == 0)
  ·(repeat' first | refine gq2 (zc h2 (zc h3 (zc g1 g2))) ?_ | with_reducible first | exact ⟨⟩ | refine zg ?_ | fail)
   exact tail _
  ·(repeat' first | refine gq2 (zc h2 (zc h3 (zc g1 g2))) ?_ | with_reducible first | exact ⟨⟩ | refine zg ?_ | fail)
   refine zra (tG.app _) hg fun g' => ?_
   (repeat' first | refine gq2 g2 ?_ | with_reducible first | exact ⟨⟩ | refine zg ?_ | fail)
   exact tail _
theorem c_r14Valid {σ : List zh} {id id2 : Nat} {L : List (List UInt8)} {G : List zS} {f : Int} {c : zfk} (hT : σ[id]? = some (rtO L)) (hG : σ[id2]? = some (rlO G)) (hL : L.length ≤ 1048576) (hg : G.length ≤ 1073741824) (hl0 : c.signs.length ≤ 1073741824)
  {K : KT} (hK : K (.d (.bool (zlG L G f c))) σ) : zy Tryz.prog zng [.box id 0, .box id2 0, .d (.int .i64 f),certA c] σ K := by
 refine zi zrR.is rfl fun hl _ => zrR.goes ?_
 have fin : ∀ z,zlG L G f c = z → K (.d (.bool z)) σ := fun z h => h ▸ hK
 clear hK
 have hlen : (zax c.signs).length = c.signs.length := List.length_map ..
 simp only [zsC,iN,bT,bF,eN,certA]
 (repeat' first | refine gq1 ?_ | with_reducible first | exact ⟨⟩ | refine zg ?_ | fail)
 refine zoo ?_
 cases h0 : (zdd f != 0)
 rotate_left
 ·(repeat' first | refine gq2 h0 ?_ | with_reducible first | exact ⟨⟩ | refine zg ?_ | fail)
  (first | refine zX hl ?_ | refine zW hl ?_)
  have h0' : zdd f ≠ 0 := by simpa using h0
  exact fin _ (by rw [zlG,decide_eq_false h0']; rfl)
 have h0' : zdd f = 0 := by simpa using h0
 (repeat' first | refine gq2 h0 ?_ | with_reducible first | exact ⟨⟩ | refine zg ?_ | fail)
 refine c_r14MayCert (f := f) (cs := [.d (.int .i64 0), .d (.int .i64 0), .exact [], .exact [], .exact []]) (by rw [zq]; rfl) hl0 ?_
 cases h1 : zdk f c
 ·(repeat' first | refine gq1 ?_ | with_reducible first | exact ⟨⟩ | refine zg ?_ | fail)
  (first | refine zX hl ?_ | refine zW hl ?_)
  exact fin _ (by rw [zlG,h1]; simp)
 have hcf : zlG L G f c = c.signs.all fun s => ziR L G s s.key 6 0 c.seq c.dig := by rw [zlG,h1,decide_eq_true h0']; rfl
 (repeat' first | refine gq1 ?_ | with_reducible first | exact ⟨⟩ | refine zg ?_ | fail)
 refine zB c.signs.length (fun k vs s => vs = [.d (.int .i64 k)] ∧ s = σ ++ [zvy c, .box [.d (.int .i64 f), .d (.int .i64 0), .d (.int .i64 0), .exact [], .exact [], .exact []]] ∧ (c.signs.take k).all (fun s => ziR L G s s.key 6 0 c.seq c.dig) = true) ⟨rfl,rfl,by simp⟩ ?_
 rintro k vs s hk ⟨rfl,rfl,hok⟩
 by_cases hlt : k < c.signs.length
 ·have hd : decide ((k : Int) < (c.signs.length : Int)) = true := by simp; omega
  have hx : c.signs[k]? = some c.signs[k] := by simp [hlt]
  have hgx := zU (f := zgn) hx
  obtain ⟨x,hxe⟩ : ∃ x,c.signs[k] = x := ⟨_,rfl⟩
  rw [hxe] at hx hgx
  (repeat' first | refine gq34 (zc hd (zc hgx hlen)) ?_ | with_reducible first | exact ⟨⟩ | refine zg ?_ | fail)
  refine zvD (s := x) (zf hT) (zf hG) hL hg ?_
  cases h2 : ziR L G x x.key 6 0 c.seq c.dig
  ·(repeat' first | refine gq1 ?_ | with_reducible first | exact ⟨⟩ | refine zg ?_ | fail)
   (first | refine zX hl ?_ | refine zW hl ?_)
   refine fin _ ?_
   rw [hcf,Bool.eq_false_iff]
   intro hall
   have := List.all_eq_true.1 hall x (List.mem_of_getElem? hx)
   rw [h2] at this; cases this
  ·(repeat' first | refine gq2 (wkc k (by omega)) ?_ | with_reducible first | exact ⟨⟩ | refine zg ?_ | fail)
   refine zap.next hlt ⟨rfl,rfl, ?_⟩
   rw [List.take_add_one,hx]
   simp only [List.all_append,hok,Option.toList_some,List.all_cons,List.all_nil,Bool.true_and,Bool.and_true,h2]
 ·have hd : decide ((k : Int) < (c.signs.length : Int)) = false := by simp; omega
  rw [List.take_of_length_le (by omega)] at hok
  (repeat' first | refine gq2 (zc hd hlen) ?_ | with_reducible first | exact ⟨⟩ | refine zg ?_ | fail)
  (first | refine zX hl ?_ | refine zW hl ?_)
  exact fin _ (by rw [hcf,hok])
end Go.Proofs.YtncpaekiidpchaaGreat

/- Contracts: whether a proof may be, the program's. -/
set_option maxRecDepth 100000
namespace Go.Proofs.YtncpaekiidpchaaGreat
open Go.AW
structure zdJ (p : zaW) : Prop where
 topic : p.topic.length ≤ 16777216
 rec_ : p.rec_.length ≤ 16777216
 headers : p.headers.length ≤ 1073741824
 path : p.path.length ≤ 1073741824
 signs : p.cert.signs.length ≤ 1073741824
 off : zmF p.offset
 index : zmF p.index
 count : zmF p.count
 paths : ∀ x ∈ p.path,zmF x
abbrev zmC (p : zaW) : zh := .box [.d (.str p.topic), .d (.int .i64 p.offset), .d (.slice (bcs p.rec_)), .d (.slice (zcR p.headers)), .d (.int .i64 p.index), .d (.int .i64 p.count), .d (.slice (zaX p.path)), .d (.int .i64 p.cert.seq), .d (.int .i64 p.cert.dig), .d (.slice (zax p.cert.signs))]
theorem thnE_app (e : Int) (a b : List Int) : zhf (zhf e (zcc a)) (zcc b) = zhf e (zcc (a ++ b)) := by
 rw [zfO]
 unfold zhf
 by_cases h : e = 0
 ·by_cases h2 : zcc a = 0
  ·simp [h,h2]
  ·simp [h,h2]
 ·simp [h]
theorem ziS (e : Int) (a : List Int) (x : Int) : zhf (zhf e (zcc a)) x = zhf e (zcc (a ++ [x])) := by
 have : x = zcc [x] := by simp only [zcc]; split <;> simp_all
 conv => lhs; rw [this]
 exact thnE_app e a [x]
theorem zkU (x : Int) : zhf 0 x = x := by simp [zhf]
theorem thn_snoc (l : List Int) (x : Int) : zhf (zcc l) x = zcc (l ++ [x]) := by rw [← zkU (zcc l),ziS,zkU]
theorem c_askProof {σ : List zh} {id : Nat} {p : zaW} (hσ : σ[id]? = some (zmu 0)) (hp : zdJ p) {K : KT} (hK : K (.tup []) (σ.set id (zmu (zcd p)))) :
  zy Tryz.prog zdP [.box id 0,zeO p] σ K := by
 refine zi zgf.is rfl fun hl _ => zgf.goes ?_
 have hid := zH hσ
 have hrl := zea p.rec_
 have hhl : (zcR p.headers).length = p.headers.length := List.length_map ..
 have hpl : (zaX p.path).length = p.path.length := List.length_map ..
 have hB : ∀ X τ,(σ.set id X ++ zmC p :: τ)[σ.length]? = some (zmC p) := fun X τ => by
  rw [List.getElem?_append_right (by simp)]; simp
 have hS : ∀ E τ,(σ.set id (zmu E) ++ τ)[id]? = some (zmu E) := fun E τ => zf (zbm hσ)
 have hP : ∀ E Y τ,(σ.set id (zmu E) ++ τ).set id Y = σ.set id Y ++ τ := fun E Y τ => by rw [zbD (zbm hσ),List.set_set]
 simp only [zgk,iN,bT,bF,eN,zeO]
 (repeat' first | refine zib ?_ | with_reducible first | exact ⟨⟩ | refine zg ?_ | fail)
 refine c_askName (zf hσ) (by have := hp.topic; omega) ?_
 rw [zbD hσ]
 (repeat' first | refine zcY hB ?_ | with_reducible first | exact ⟨⟩ | refine zg ?_ | fail)
 refine zmr (hS _ _) ?_
 rw [hP]
 (repeat' first | refine zcY (zbz hB hrl) ?_ | with_reducible first | exact ⟨⟩ | refine zg ?_ | fail)
 refine zlI (hS _ _) ?_
 rw [hP]
 (repeat' first | refine zcY (zbz hB hhl) ?_ | with_reducible first | exact ⟨⟩ | refine zg ?_ | fail)
 refine zlI (hS _ _) ?_
 rw [hP]
 rw [show zhf (zhf (zhf (zhf 0 (zta p.topic)) (zhZ p.offset)) (inE p.rec_.length 0 64)) (inE p.headers.length 0 64) = zcc (zex p) by
  rw [zkU]
  simp only [zex,zcc,zhf]
  by_cases h1 : zta p.topic = 0
  ·by_cases h2 : zhZ p.offset = 0
   ·by_cases h3 : inE p.rec_.length 0 64 = 0
    ·by_cases h4 : inE p.headers.length 0 64 = 0 <;> simp [h1,h2,h3,h4]
    ·simp [h1,h2,h3]
   ·simp [h1,h2]
  ·simp [h1]]
 (repeat' first | refine zcY (zbz hB hhl) ?_ | with_reducible first | exact ⟨⟩ | refine zg ?_ | fail)
 refine zB p.headers.length (fun k vs s => vs = [.d (.int .i64 k)] ∧ ∃ T,s = σ.set id (zmu (zcc (zex p ++ ((p.headers.take k).map zgx).flatten))) ++ zmC p :: T) ⟨rfl, [],by simp⟩ ?_
 rintro k vs s hk ⟨rfl,T,rfl⟩
 by_cases hlt : k < p.headers.length
 ·have hd : decide ((k : Int) < (p.headers.length : Int)) = true := by simp; omega
  have hx : p.headers[k]? = some p.headers[k] := by simp [hlt]
  have hgx := zU (f := hdrD) hx
  obtain ⟨h,hhe⟩ : ∃ h,p.headers[k] = h := ⟨_,rfl⟩
  rw [hhe] at hx hgx
  have hph := hp.headers
  have hmn : ((p.headers.take (k + 1)).map zgx).flatten = ((p.headers.take k).map zgx).flatten ++ zgx h := by
   rw [zha hx]; simp
  obtain ⟨Q,hQ⟩ : ∃ Q,zex p ++ ((p.headers.take k).map zgx).flatten = Q := ⟨_,rfl⟩
  have hnx : zex p ++ ((p.headers.take (k + 1)).map zgx).flatten = Q ++ zgx h := by rw [hmn, ← hQ,List.append_assoc]
  rw [hQ]
  have hlX : ∀ X,(σ.set id X).length = σ.length := fun X => List.length_set
  have hhb : ∀ X Y,(σ.set id X ++ zmC p :: (T ++ [Y]))[σ.length + (T.length + 1)]? = some Y := fun X Y => by
   rw [← hlX X,zq,List.getElem?_cons_succ,zx]; rfl
  (repeat' first | refine zcY (zbz hd (zbz hgx hhl)) ?_ | with_reducible first | exact ⟨⟩ | refine zg ?_ | fail)
  refine c_askPos (hS _ _) ?_
  rw [hP]
  (repeat' first | refine zcY (zbz hlX hhb) ?_ | with_reducible first | exact ⟨⟩ | refine zg ?_ | fail)
  have hg : ∀ (k : Nat) x, [h.prev,h.batch,h.root,h.state][k]? = some x → [[D.int .i64 h.prev], [D.int .i64 h.batch], [D.int .i64 h.root], [D.int .i64 h.state]][k]? = some [D.int .i64 x] := fun k x hx => by
   have := zU (f := fun t => [D.int .i64 t]) hx
   simpa using this
  have hhd : zgx h = [posE h.seq] ++ [h.prev,h.batch,h.root,h.state].map zhZ := rfl
  have hl4 : [h.prev,h.batch,h.root,h.state].length = 4 := rfl
  have e0 : zhf (zcc Q) (posE h.seq) = zcc (Q ++ [posE h.seq]) := by rw [← zkU (zcc Q),ziS,zkU]
  obtain ⟨l,hlq⟩ : ∃ l, [h.prev,h.batch,h.root,h.state] = l := ⟨_,rfl⟩
  rw [hlq] at hg hhd hl4
  rw [e0]
  refine zB 4 (fun j vs s => vs = [.d (.int .i64 j)] ∧ ∃ T,s = σ.set id (zmu (zcc (Q ++ ([posE h.seq] ++ (l.take j).map zhZ)))) ++ zmC p :: T) ⟨rfl,_,by simp; rfl⟩ ?_
  rintro j vs s hj ⟨rfl,T,rfl⟩
  by_cases hjl : j < 4
  ·have hd2 : decide ((j : Int) < ((4 : Nat) : Int)) = true := by simp; omega
   have hy : l[j]? = some (l[j]'(by omega)) := List.getElem?_eq_getElem _
   have hgy := hg j _ hy
   obtain ⟨y,hye⟩ : ∃ y,(l[j]'(by omega)) = y := ⟨_,rfl⟩
   rw [hye] at hy hgy
   have hmy := zha (f := zhZ) hy
   (repeat' first | refine zcY (zbz hd2 hgy) ?_ | with_reducible first | exact ⟨⟩ | refine zg ?_ | fail)
   refine zmr (hS _ _) ?_
   rw [hP]
   (repeat' first | refine zcY (wkc j (by omega)) ?_ | with_reducible first | exact ⟨⟩ | refine zg ?_ | fail)
   refine zap.next hjl ⟨rfl,T, ?_⟩
   rw [hmy,thn_snoc]
   simp
  ·have hd2 : decide ((j : Int) < ((4 : Nat) : Int)) = false := by simp; omega
   rw [List.take_of_length_le (by omega), ← hhd, ← hnx]
   (repeat' first | refine zcY (zbz hd2 (wkc k (by omega))) ?_ | with_reducible first | exact ⟨⟩ | refine zg ?_ | fail)
   exact zap.next hlt ⟨rfl,_,rfl⟩
 ·have hd : decide ((k : Int) < (p.headers.length : Int)) = false := by simp; omega
  rw [List.take_of_length_le (by omega)]
  obtain ⟨Q,hQ⟩ : ∃ Q,zex p ++ (p.headers.map zgx).flatten = Q := ⟨_,rfl⟩
  have hfin : zcd p = zcc (Q ++ (zbv p ++ (zdK p ++ (p.path.map zhZ ++ zfi p.cert)))) := by
   rw [zcd,znJ, ← List.append_assoc,hQ]
  rw [hQ]
  have hix := hp.index
  have hct := hp.count
  (repeat' first | refine zcY (zbz hd hB) ?_ | with_reducible first | exact ⟨⟩ | refine zg ?_ | fail)
  refine zmr (hS _ _) ?_
  rw [hP]
  (repeat' first | refine zcY hB ?_ | with_reducible first | exact ⟨⟩ | refine zg ?_ | fail)
  refine zlI (hS _ _) ?_
  rw [hP]
  have e1 : zhf (zhf (zcc Q) (zhZ p.index)) (inE p.count 0 16) = zcc (Q ++ zbv p) := by
   rw [← zkU (zcc Q),ziS,ziS,zkU]; simp [zbv]
  rw [e1]
  (repeat' first | refine zcY hB ?_ | with_reducible first | exact ⟨⟩ | refine zg ?_ | fail)
  refine zvN (hS _ _) ?_
  rw [hP]
  (repeat' first | refine zcY (zbz hB hpl) ?_ | with_reducible first | exact ⟨⟩ | refine zg ?_ | fail)
  refine zlI (hS _ _) ?_
  rw [hP]
  have e2 : zhf (zhf (zcc (Q ++ zbv p)) (inE p.index 0 (IntKind.i64.wrap (p.count - 1)))) (inE p.path.length 0 8) = zcc (Q ++ zbv p ++ zdK p) := by
   by_cases hz : zcc (Q ++ zbv p) = 0
   ·have hz2 : zcc (zbv p) = 0 := by
     rw [zfO] at hz
     split at hz
     ·rename_i h; exact absurd hz h
     ·exact hz
    have hc0 : inE p.count 0 16 = 0 := by
     simp only [zbv,zcc] at hz2
     split at hz2
     ·rename_i h; exact absurd hz2 h
     ·split at hz2
      ·rename_i h; exact absurd hz2 h
      ·rename_i h; simpa using h
    have := inE_0 hc0
    rw [show IntKind.i64.wrap (p.count - 1) = p.count - 1 from zP (by omega) (by omega)]
    rw [← zkU (zcc (Q ++ zbv p)),ziS,ziS,zkU]; simp [zdK]
   ·rw [zlp hz]
    simp [zhf,hz]
  rw [e2]
  obtain ⟨R,hR⟩ : ∃ R,Q ++ zbv p ++ zdK p = R := ⟨_,rfl⟩
  rw [hR]
  have hfin2 : zcd p = zcc (R ++ (p.path.map zhZ ++ zfi p.cert)) := by rw [hfin, ← hR]; simp
  have hpb := hp.path
  (repeat' first | refine zcY (zbz hB hpl) ?_ | with_reducible first | exact ⟨⟩ | refine zg ?_ | fail)
  refine zB p.path.length (fun k vs s => vs = [.d (.int .i64 k)] ∧ ∃ T,s = σ.set id (zmu (zcc (R ++ (p.path.take k).map zhZ))) ++ zmC p :: T) ⟨rfl,_,by simp; rfl⟩ ?_
  rintro j vs s hj ⟨rfl,T,rfl⟩
  by_cases hjl : j < p.path.length
  ·have hd2 : decide ((j : Int) < (p.path.length : Int)) = true := by simp; omega
   have hy : p.path[j]? = some p.path[j] := by simp [hjl]
   have hgy := zU (f := fun t => [D.int .i64 t]) hy
   obtain ⟨y,hye⟩ : ∃ y,p.path[j] = y := ⟨_,rfl⟩
   rw [hye] at hy hgy
   have hmy := zha (f := zhZ) hy
   (repeat' first | refine zcY (zbz hd2 (zbz hgy hpl)) ?_ | with_reducible first | exact ⟨⟩ | refine zg ?_ | fail)
   refine zmr (hS _ _) ?_
   rw [hP]
   (repeat' first | refine zcY (wkc j (by omega)) ?_ | with_reducible first | exact ⟨⟩ | refine zg ?_ | fail)
   refine zap.next hjl ⟨rfl,T, ?_⟩
   rw [hmy,thn_snoc]
   simp
  ·have hd2 : decide ((j : Int) < (p.path.length : Int)) = false := by simp; omega
   rw [List.take_of_length_le (by omega)]
   (repeat' first | refine zcY (zbz hd2 hB) ?_ | with_reducible first | exact ⟨⟩ | refine zg ?_ | fail)
   refine c_askCert (c := p.cert) (hS _ _) hp.signs ?_
   rw [hP]
   have e3 : zhf (zcc (R ++ p.path.map zhZ)) (zcc (zfi p.cert)) = zcd p := by
    rw [hfin2, ← List.append_assoc, ← zkU (zcc (R ++ p.path.map zhZ)),thnE_app,zkU]
   rw [e3]
   (repeat' first | refine zib ?_ | with_reducible first | exact ⟨⟩ | refine zg ?_ | fail)
   exact zji (by simp [zcf,dmT,zbu]) hl (zhb _ _) hK
theorem ztj {σ : List zh} {p : zaW} (hp : zdJ p) {K : KT} (hK : K (.d (.int .i64 (zcd p))) σ) : zy Tryz.prog zet [zeO p] σ K := by
 refine zi zgG.is rfl fun hl _ => zgG.goes ?_
 simp only [zgQ,iN,bT,bF,eN,zeO]
 (repeat' first | refine zib ?_ | with_reducible first | exact ⟨⟩ | refine zg ?_ | fail)
 refine c_askProof (p := p) (by rw [zq]; rfl) hp ?_
 rw [zO]
 (repeat' first | refine zib ?_ | with_reducible first | exact ⟨⟩ | refine zg ?_ | fail)
 (first | refine zX hl ?_ | refine zW hl ?_)
 exact hK
end Go.Proofs.YtncpaekiidpchaaGreat
