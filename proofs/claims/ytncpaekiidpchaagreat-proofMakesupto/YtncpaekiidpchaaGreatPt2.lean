/- Contracts: whether a checkpoint's certificate is valid, on both sides. -/
import Derived.Test.YtncpaekiidpchaaGreatPp1
import Derived.Test.YtncpaekiidpchaaGreatCk1
set_option linter.all false
set_option maxRecDepth 100000
namespace Go.Proofs.YtncpaekiidpchaaGreat
open Go.AW
theorem c_ptValid1 {σ : List zf} {a b c0 id m t id2 m2 t2 : Nat} {L : List (List UInt8)} {G : List zae} {c : zfF} {s : zae} (ha : σ[a]? = some (.box [.box id 0])) (hb : σ[b]? = some (.box [.box id2 0])) (hc : σ[c0]? = some (certO c)) (hT : zcu σ id m t L) (hG : zeb σ id2 m2 t2 G) (hL : zjY L) (hg : G.length ≤ 1073741824)
  {K : AV → List zf → Prop} (hK : K (.d (.bool (!zqw L G s s.key 6 0 c.seq c.dig))) σ) : zL Tryz.prog zeY [.agg [.d (.int .i64 s.key), .d (.int .i64 s.dig)], .box a 0, .box b 0, .box c0 0] σ K := by
 refine zj zkS.is rfl fun hl _ => zkS.goes ?_
 have sa : ∀ τ,(σ ++ τ)[a]? = _ := fun τ => zg ha
 have sb : ∀ τ,(σ ++ τ)[b]? = _ := fun τ => zg hb
 have sc : ∀ τ,(σ ++ τ)[c0]? = some (.box [.d (.int .i64 c.seq), .d (.int .i64 c.dig), .d (.slice (zaz c.signs))]) := fun τ => zg hc
 simp only [zlk,iN,bT,bF,eN]
 (repeat' first | refine gq2 (zd sa sb) ?_ | with_reducible first | exact ⟨⟩ | refine zh ?_ | fail)
 refine zvb (s := s) (hT.app _) (hG.app _) hL hg ?_
 (repeat' first | refine gq1 ?_ | with_reducible first | exact ⟨⟩ | refine zh ?_ | fail)
 (first | refine zao hl ?_ | refine zan hl ?_)
 exact hK
theorem c_idxSign {σ : List zf} {b : List zae} {f : FuncId} {cap : List AV} {p : zae → Bool} (hb : b.length ≤ 1073741824) (hf : ∀ x ∈ b, ∀ K : AV → List zf → Prop,K (.d (.bool (p x))) σ → zL Tryz.prog f (.agg [.d (.int .i64 x.key), .d (.int .i64 x.dig)] :: cap) σ K)
  {K : AV → List zf → Prop} (hK : ∀ r : Int,decide (r ≥ 0) = b.any p → K (.d (.int .i64 r)) σ) : zL Tryz.prog zbq [.d (.slice (zaz b)), .fn (.func f) [] cap] σ K := by
 refine zj zck.is rfl fun hl _ => zck.goes ?_
 simp only [zcl,iN,bT,bF,eN]
 (repeat' first | refine gq1 ?_ | with_reducible first | exact ⟨⟩ | refine zh ?_ | fail)
 refine zK b.length (fun k vs s => vs = [.d (.int .i64 k)] ∧ s = σ ∧ (b.take k).any p = false) ⟨rfl,rfl,by simp⟩ ?_
 rintro k vs s hk ⟨rfl,rfl,hno⟩
 by_cases hlt : k < b.length
 ·have hd : decide ((k : Int) < (b.length : Int)) = true := by simp; omega
  have hx : b[k]? = some b[k] := by simp [hlt]
  have hfx := hf _ (List.getElem_mem hlt)
  have hgx := zaf (f := zgE) hx
  obtain ⟨x,hxe⟩ : ∃ x,b[k] = x := ⟨_,rfl⟩
  rw [hxe] at hx hgx hfx
  (repeat' first | refine gq40 (zd hd hgx) ?_ | with_reducible first | exact ⟨⟩ | refine zh ?_ | fail)
  refine hfx _ ?_
  cases h1 : p x
  ·(repeat' first | refine gq2 (wkc k (by omega)) ?_ | with_reducible first | exact ⟨⟩ | refine zh ?_ | fail)
   refine zav.next hlt ⟨rfl,rfl, ?_⟩
   rw [List.take_add_one,hx]
   simp [hno,h1]
  ·(repeat' first | refine gq1 ?_ | with_reducible first | exact ⟨⟩ | refine zh ?_ | fail)
   (first | refine zao hl ?_ | refine zan hl ?_)
   have : b.any p = true := List.any_eq_true.2 ⟨x,List.mem_of_getElem? hx,h1⟩
   exact hK _ (by rw [this]; simp)
 ·have hd : decide ((k : Int) < (b.length : Int)) = false := by simp; omega
  (repeat' first | refine gq2 hd ?_ | with_reducible first | exact ⟨⟩ | refine zh ?_ | fail)
  (first | refine zao hl ?_ | refine zan hl ?_)
  rw [List.take_of_length_le (by omega)] at hno
  exact hK _ (by rw [hno]; rfl)
theorem c_hasSign {σ : List zf} {b : List zae} {f : FuncId} {cap : List AV} {p : zae → Bool} (hb : b.length ≤ 1073741824) (hf : ∀ x ∈ b, ∀ K : AV → List zf → Prop,K (.d (.bool (p x))) σ → zL Tryz.prog f (.agg [.d (.int .i64 x.key), .d (.int .i64 x.dig)] :: cap) σ K)
  {K : AV → List zf → Prop} (hK : K (.d (.bool (b.any p))) σ) : zL Tryz.prog zaJ [.d (.slice (zaz b)), .fn (.func f) [] cap] σ K := by
 refine zj zbT.is rfl fun hl _ => zbT.goes ?_
 simp only [zbU,iN,bT,bF,eN]
 (repeat' first | refine gq1 ?_ | with_reducible first | exact ⟨⟩ | refine zh ?_ | fail)
 refine c_idxSign hb hf fun r hr => ?_
 (repeat' first | refine gq2 hr ?_ | with_reducible first | exact ⟨⟩ | refine zh ?_ | fail)
 (first | refine zao hl ?_ | refine zan hl ?_)
 exact hK
theorem not_any (l : List zae) (p : zae → Bool) : (!l.any fun s => !p s) = l.all p := by
 induction l with
 | nil => rfl
 | cons x l ih => simp only [List.any_cons,List.all_cons,Bool.not_or,Bool.not_not,ih]
theorem c_ptValid {σ : List zf} {id m t id2 m2 t2 : Nat} {L : List (List UInt8)} {G : List zae} {f : Int} {c : zfF} (hT : zcu σ id m t L) (hG : zeb σ id2 m2 t2 G) (hL : zjY L) (hg : G.length ≤ 1073741824) (hl0 : c.signs.length ≤ 1073741824)
  {K : AV → List zf → Prop} (hK : K (.d (.bool (zuL L G f c))) σ) : zL Tryz.prog zjy [.box id 0, .box id2 0, .d (.int .i64 f),certA c] σ K := by
 refine zj zny.is rfl fun hl _ => zny.goes ?_
 have fin : ∀ z,zuL L G f c = z → K (.d (.bool z)) σ := fun z h => h ▸ hK
 clear hK
 simp only [znZ,iN,bT,bF,eN,certA]
 (repeat' first | refine gq1 ?_ | with_reducible first | exact ⟨⟩ | refine zh ?_ | fail)
 refine c_ptNew (fun h0 => ?_) (fun h0 => ?_)
 ·have h0' : (zeJ f != 0) = true := by simpa using h0
  (repeat' first | refine gq2 h0' ?_ | with_reducible first | exact ⟨⟩ | refine zh ?_ | fail)
  (first | refine zao hl ?_ | refine zan hl ?_)
  exact fin _ (by rw [zuL,decide_eq_false h0]; rfl)
 (repeat' first | refine gq2 (show ((0 : Int) != 0) = false from rfl) ?_ | with_reducible first | exact ⟨⟩ | refine zh ?_ | fail)
 obtain ⟨S,hS⟩ : ∃ S, σ ++ [zf.box [.box id 0], .box [.box id2 0],certO c, .map [], .box [.d (.int .i64 f), .d (.int .i64 0), .d (.int .i64 0), .exact [], .map (σ.length + 3), .exact []]] = S := ⟨_,rfl⟩
 have g0 : ∀ τ,(S ++ τ)[σ.length]? = some (.box [.box id 0]) := fun τ => zg (by rw [← hS,zw]; rfl)
 have g1 : ∀ τ,(S ++ τ)[σ.length + 1]? = some (.box [.box id2 0]) := fun τ => zg (by rw [← hS,zq]; rfl)
 have g2 : ∀ τ,(S ++ τ)[σ.length + 2]? = some (certO c) := fun τ => zg (by rw [← hS,zq]; rfl)
 have g4 : S[σ.length + 4]? = some (.box (.d (.int .i64 f) :: [.d (.int .i64 0), .d (.int .i64 0), .exact [], .map (σ.length + 3), .exact []])) := by rw [← hS,zq]; rfl
 have g00 := g0 []; have g10 := g1 []; have g20 := g2 []
 rw [List.append_nil] at g00 g10 g20
 have tT : zcu S id m t L := hS ▸ hT.app _
 have tG : zeb S id2 m2 t2 G := hS ▸ hG.app _
 have hpre : ∃ T,S = σ ++ T := ⟨_,hS.symm⟩
 rw [hS]
 refine c_ptMayCert g4 hl0 ?_
 cases h1 : zhQ f c
 ·(repeat' first | refine gq1 ?_ | with_reducible first | exact ⟨⟩ | refine zh ?_ | fail)
  obtain ⟨T,rfl⟩ := hpre
  (first | refine zao hl ?_ | refine zan hl ?_)
  exact fin _ (by rw [zuL,h1]; simp)
 have hcf : zuL L G f c = c.signs.all fun s => zqw L G s s.key 6 0 c.seq c.dig := by rw [zuL,h1,decide_eq_true h0]; rfl
 have tail : ∀ τ,zL Tryz.prog zaJ [.d (.slice (zaz c.signs)), .fn (.func zeY) [] [.box σ.length 0, .box (σ.length + 1) 0, .box (σ.length + 2) 0]] (S ++ τ) fun K1 s => unC .not K1 s fun L1 s => z1 (AW.Ends σ.length K) L1 s := fun τ => by
  refine c_hasSign (p := fun s => !zqw L G s s.key 6 0 c.seq c.dig) hl0 (fun x _ K hK => c_ptValid1 (g0 _) (g1 _) (g2 _) (tT.app _) (tG.app _) hL hg hK) ?_
  rw [hcf, ← not_any] at fin
  (repeat' first | refine gq1 ?_ | with_reducible first | exact ⟨⟩ | refine zh ?_ | fail)
  obtain ⟨T,rfl⟩ := hpre
  rw [List.append_assoc]
  (first | refine zao hl ?_ | refine zan hl ?_)
  exact fin _ rfl
 have tail0 := tail []
 rw [List.append_nil] at tail0
 (repeat' first | refine gq2 (zd g00 (zd g10 g20)) ?_ | with_reducible first | exact ⟨⟩ | refine zh ?_ | fail)
 refine c_tLen tT ?_
 cases h2 : ((L.length : Int) == 0)
 ·(repeat' first | refine gq2 (zd h2 (zd g00 (zd g10 g20))) ?_ | with_reducible first | exact ⟨⟩ | refine zh ?_ | fail)
  refine c_gLen tG ?_
  cases h3 : ((G.length : Int) == 0)
  ·(repeat' first | refine gq2 (zd h2 (zd h3 (zd g00 (zd g10 g20)))) ?_ | with_reducible first | exact ⟨⟩ | refine zh ?_ | fail)
   exact tail0
  ·(repeat' first | refine gq2 (zd h2 (zd h3 (zd g00 (zd g10 g20)))) ?_ | with_reducible first | exact ⟨⟩ | refine zh ?_ | fail)
   refine zqr tG hg fun g' => ?_
   (repeat' first | refine gq2 g2 ?_ | with_reducible first | exact ⟨⟩ | refine zh ?_ | fail)
   exact tail _
 ·(repeat' first | refine gq2 (zd h2 (zd g00 (zd g10 g20))) ?_ | with_reducible first | exact ⟨⟩ | refine zh ?_ | fail)
  refine zlI tT hL.nd hL.len hL.each ?_
  (repeat' first | refine gq2 g1 ?_ | with_reducible first | exact ⟨⟩ | refine zh ?_ | fail)
  refine c_gLen (tG.app _) ?_
  cases h3 : ((G.length : Int) == 0)
  ·(repeat' first | refine gq2 (zd h2 (zd h3 (zd g1 g2))) ?_ | with_reducible first | exact ⟨⟩ | refine zh ?_ | fail)
   exact tail _
  ·(repeat' first | refine gq2 (zd h2 (zd h3 (zd g1 g2))) ?_ | with_reducible first | exact ⟨⟩ | refine zh ?_ | fail)
   refine zqr (tG.app _) hg fun g' => ?_
   (repeat' first | refine gq2 g2 ?_ | with_reducible first | exact ⟨⟩ | refine zh ?_ | fail)
   exact tail _
end Go.Proofs.YtncpaekiidpchaaGreat

/- Contracts: whether a proof may be, the program's. -/
set_option maxRecDepth 100000
namespace Go.Proofs.YtncpaekiidpchaaGreat
open Go.AW
structure zdV (p : zbe) : Prop where
 topic : p.topic.length ≤ 16777216
 rec_ : p.rec_.length ≤ 16777216
 headers : p.headers.length ≤ 1073741824
 path : p.path.length ≤ 1073741824
 signs : p.cert.signs.length ≤ 1073741824
 off : zmK p.offset
 index : zmK p.index
 count : zmK p.count
 paths : ∀ x ∈ p.path,zmK x
abbrev zlU (p : zbe) : zf := .box [.d (.str p.topic), .d (.int .i64 p.offset), .d (.slice (bcs p.rec_)), .d (.slice (zde p.headers)), .d (.int .i64 p.index), .d (.int .i64 p.count), .d (.slice (zbC p.path)), .d (.int .i64 p.cert.seq), .d (.int .i64 p.cert.dig), .d (.slice (zaz p.cert.signs))]
theorem thnE_app (e : Int) (a b : List Int) : zgO (zgO e (zeO a)) (zeO b) = zgO e (zeO (a ++ b)) := by
 rw [zjF]
 unfold zgO
 by_cases h : e = 0
 ·by_cases h2 : zeO a = 0
  ·simp [h,h2]
  ·simp [h,h2]
 ·simp [h]
theorem ziq (e : Int) (a : List Int) (x : Int) : zgO (zgO e (zeO a)) x = zgO e (zeO (a ++ [x])) := by
 have : x = zeO [x] := by simp only [zeO]; split <;> simp_all
 conv => lhs; rw [this]
 exact thnE_app e a [x]
theorem zks (x : Int) : zgO 0 x = x := by simp [zgO]
theorem thn_snoc (l : List Int) (x : Int) : zgO (zeO l) x = zeO (l ++ [x]) := by rw [← zks (zeO l),ziq,zks]
theorem c_askProof {σ : List zf} {id : Nat} {p : zbe} (hσ : σ[id]? = some (zlN 0)) (hp : zdV p) {K : AV → List zf → Prop} (hK : K (.tup []) (σ.set id (zlN (zfe p)))) :
  zL Tryz.prog zdK [.box id 0,zdv p] σ K := by
 refine zj zfS.is rfl fun hl _ => zfS.goes ?_
 have hid := zN hσ
 have hrl := zeM p.rec_
 have hhl : (zde p.headers).length = p.headers.length := List.length_map ..
 have hpl : (zbC p.path).length = p.path.length := List.length_map ..
 have hB : ∀ X τ,(σ.set id X ++ zlU p :: τ)[σ.length]? = some (zlU p) := fun X τ => by
  rw [List.getElem?_append_right (by simp)]; simp
 have hS : ∀ E τ,(σ.set id (zlN E) ++ τ)[id]? = some (zlN E) := fun E τ => zg (zbn hσ)
 have hP : ∀ E Y τ,(σ.set id (zlN E) ++ τ).set id Y = σ.set id Y ++ τ := fun E Y τ => by rw [zbE (zbn hσ),List.set_set]
 simp only [zfY,iN,bT,bF,eN,zdv]
 (repeat' first | refine zrY ?_ | with_reducible first | exact ⟨⟩ | refine zh ?_ | fail)
 refine c_askName (zg hσ) (by have := hp.topic; omega) ?_
 rw [zbE hσ]
 (repeat' first | refine zeN hB ?_ | with_reducible first | exact ⟨⟩ | refine zh ?_ | fail)
 refine zlL (hS _ _) ?_
 rw [hP]
 (repeat' first | refine zeN (zbl hB hrl) ?_ | with_reducible first | exact ⟨⟩ | refine zh ?_ | fail)
 refine zkX (hS _ _) ?_
 rw [hP]
 (repeat' first | refine zeN (zbl hB hhl) ?_ | with_reducible first | exact ⟨⟩ | refine zh ?_ | fail)
 refine zkX (hS _ _) ?_
 rw [hP]
 rw [show zgO (zgO (zgO (zgO 0 (nameE p.topic)) (zok p.offset)) (inE p.rec_.length 0 64)) (inE p.headers.length 0 64) = zeO (zgU p) by
  rw [zks]
  simp only [zgU,zeO,zgO]
  by_cases h1 : nameE p.topic = 0
  ·by_cases h2 : zok p.offset = 0
   ·by_cases h3 : inE p.rec_.length 0 64 = 0
    ·by_cases h4 : inE p.headers.length 0 64 = 0 <;> simp [h1,h2,h3,h4]
    ·simp [h1,h2,h3]
   ·simp [h1,h2]
  ·simp [h1]]
 (repeat' first | refine zeN (zbl hB hhl) ?_ | with_reducible first | exact ⟨⟩ | refine zh ?_ | fail)
 refine zK p.headers.length (fun k vs s => vs = [.d (.int .i64 k)] ∧ ∃ T,s = σ.set id (zlN (zeO (zgU p ++ ((p.headers.take k).map zlX).flatten))) ++ zlU p :: T) ⟨rfl, [],by simp⟩ ?_
 rintro k vs s hk ⟨rfl,T,rfl⟩
 by_cases hlt : k < p.headers.length
 ·have hd : decide ((k : Int) < (p.headers.length : Int)) = true := by simp; omega
  have hx : p.headers[k]? = some p.headers[k] := by simp [hlt]
  have hgx := zaf (f := hdrD) hx
  obtain ⟨h,hhe⟩ : ∃ h,p.headers[k] = h := ⟨_,rfl⟩
  rw [hhe] at hx hgx
  have hph := hp.headers
  have hmn : ((p.headers.take (k + 1)).map zlX).flatten = ((p.headers.take k).map zlX).flatten ++ zlX h := by
   rw [zgK hx]; simp
  obtain ⟨Q,hQ⟩ : ∃ Q,zgU p ++ ((p.headers.take k).map zlX).flatten = Q := ⟨_,rfl⟩
  have hnx : zgU p ++ ((p.headers.take (k + 1)).map zlX).flatten = Q ++ zlX h := by rw [hmn, ← hQ,List.append_assoc]
  rw [hQ]
  have hlX : ∀ X,(σ.set id X).length = σ.length := fun X => List.length_set
  have hhb : ∀ X Y,(σ.set id X ++ zlU p :: (T ++ [Y]))[σ.length + (T.length + 1)]? = some Y := fun X Y => by
   rw [← hlX X,zq,List.getElem?_cons_succ,zw]; rfl
  (repeat' first | refine zeN (zbl hd (zbl hgx hhl)) ?_ | with_reducible first | exact ⟨⟩ | refine zh ?_ | fail)
  refine c_askPos (hS _ _) ?_
  rw [hP]
  (repeat' first | refine zeN (zbl hlX hhb) ?_ | with_reducible first | exact ⟨⟩ | refine zh ?_ | fail)
  have hg : ∀ (k : Nat) x, [h.prev,h.batch,h.root,h.state][k]? = some x → [[D.int .i64 h.prev], [D.int .i64 h.batch], [D.int .i64 h.root], [D.int .i64 h.state]][k]? = some [D.int .i64 x] := fun k x hx => by
   have := zaf (f := fun t => [D.int .i64 t]) hx
   simpa using this
  have hhd : zlX h = [posE h.seq] ++ [h.prev,h.batch,h.root,h.state].map zok := rfl
  have hl4 : [h.prev,h.batch,h.root,h.state].length = 4 := rfl
  have e0 : zgO (zeO Q) (posE h.seq) = zeO (Q ++ [posE h.seq]) := by rw [← zks (zeO Q),ziq,zks]
  obtain ⟨l,hlq⟩ : ∃ l, [h.prev,h.batch,h.root,h.state] = l := ⟨_,rfl⟩
  rw [hlq] at hg hhd hl4
  rw [e0]
  refine zK 4 (fun j vs s => vs = [.d (.int .i64 j)] ∧ ∃ T,s = σ.set id (zlN (zeO (Q ++ ([posE h.seq] ++ (l.take j).map zok)))) ++ zlU p :: T) ⟨rfl,_,by simp; rfl⟩ ?_
  rintro j vs s hj ⟨rfl,T,rfl⟩
  by_cases hjl : j < 4
  ·have hd2 : decide ((j : Int) < ((4 : Nat) : Int)) = true := by simp; omega
   have hy : l[j]? = some (l[j]'(by omega)) := List.getElem?_eq_getElem _
   have hgy := hg j _ hy
   obtain ⟨y,hye⟩ : ∃ y,(l[j]'(by omega)) = y := ⟨_,rfl⟩
   rw [hye] at hy hgy
   have hmy := zgK (f := zok) hy
   (repeat' first | refine zeN (zbl hd2 hgy) ?_ | with_reducible first | exact ⟨⟩ | refine zh ?_ | fail)
   refine zlL (hS _ _) ?_
   rw [hP]
   (repeat' first | refine zeN (wkc j (by omega)) ?_ | with_reducible first | exact ⟨⟩ | refine zh ?_ | fail)
   refine zav.next hjl ⟨rfl,T, ?_⟩
   rw [hmy,thn_snoc]
   simp
  ·have hd2 : decide ((j : Int) < ((4 : Nat) : Int)) = false := by simp; omega
   rw [List.take_of_length_le (by omega), ← hhd, ← hnx]
   (repeat' first | refine zeN (zbl hd2 (wkc k (by omega))) ?_ | with_reducible first | exact ⟨⟩ | refine zh ?_ | fail)
   exact zav.next hlt ⟨rfl,_,rfl⟩
 ·have hd : decide ((k : Int) < (p.headers.length : Int)) = false := by simp; omega
  rw [List.take_of_length_le (by omega)]
  obtain ⟨Q,hQ⟩ : ∃ Q,zgU p ++ (p.headers.map zlX).flatten = Q := ⟨_,rfl⟩
  have hfin : zfe p = zeO (Q ++ (zdb p ++ (zkv p ++ (p.path.map zok ++ zmR p.cert)))) := by
   rw [zfe,zuw, ← List.append_assoc,hQ]
  rw [hQ]
  have hix := hp.index
  have hct := hp.count
  (repeat' first | refine zeN (zbl hd hB) ?_ | with_reducible first | exact ⟨⟩ | refine zh ?_ | fail)
  refine zlL (hS _ _) ?_
  rw [hP]
  (repeat' first | refine zeN hB ?_ | with_reducible first | exact ⟨⟩ | refine zh ?_ | fail)
  refine zkX (hS _ _) ?_
  rw [hP]
  have e1 : zgO (zgO (zeO Q) (zok p.index)) (inE p.count 0 16) = zeO (Q ++ zdb p) := by
   rw [← zks (zeO Q),ziq,ziq,zks]; simp [zdb]
  rw [e1]
  (repeat' first | refine zeN hB ?_ | with_reducible first | exact ⟨⟩ | refine zh ?_ | fail)
  refine zvc (hS _ _) ?_
  rw [hP]
  (repeat' first | refine zeN (zbl hB hpl) ?_ | with_reducible first | exact ⟨⟩ | refine zh ?_ | fail)
  refine zkX (hS _ _) ?_
  rw [hP]
  have e2 : zgO (zgO (zeO (Q ++ zdb p)) (inE p.index 0 (IntKind.i64.wrap (p.count - 1)))) (inE p.path.length 0 8) = zeO (Q ++ zdb p ++ zkv p) := by
   by_cases hz : zeO (Q ++ zdb p) = 0
   ·have hz2 : zeO (zdb p) = 0 := by
     rw [zjF] at hz
     split at hz
     ·rename_i h; exact absurd hz h
     ·exact hz
    have hc0 : inE p.count 0 16 = 0 := by
     simp only [zdb,zeO] at hz2
     split at hz2
     ·rename_i h; exact absurd hz2 h
     ·split at hz2
      ·rename_i h; exact absurd hz2 h
      ·rename_i h; simpa using h
    have := inE_0 hc0
    rw [show IntKind.i64.wrap (p.count - 1) = p.count - 1 from zai (by omega) (by omega)]
    rw [← zks (zeO (Q ++ zdb p)),ziq,ziq,zks]; simp [zkv]
   ·rw [fstE_appN hz]
    simp [zgO,hz]
  rw [e2]
  obtain ⟨R,hR⟩ : ∃ R,Q ++ zdb p ++ zkv p = R := ⟨_,rfl⟩
  rw [hR]
  have hfin2 : zfe p = zeO (R ++ (p.path.map zok ++ zmR p.cert)) := by rw [hfin, ← hR]; simp
  have hpb := hp.path
  (repeat' first | refine zeN (zbl hB hpl) ?_ | with_reducible first | exact ⟨⟩ | refine zh ?_ | fail)
  refine zK p.path.length (fun k vs s => vs = [.d (.int .i64 k)] ∧ ∃ T,s = σ.set id (zlN (zeO (R ++ (p.path.take k).map zok))) ++ zlU p :: T) ⟨rfl,_,by simp; rfl⟩ ?_
  rintro j vs s hj ⟨rfl,T,rfl⟩
  by_cases hjl : j < p.path.length
  ·have hd2 : decide ((j : Int) < (p.path.length : Int)) = true := by simp; omega
   have hy : p.path[j]? = some p.path[j] := by simp [hjl]
   have hgy := zaf (f := fun t => [D.int .i64 t]) hy
   obtain ⟨y,hye⟩ : ∃ y,p.path[j] = y := ⟨_,rfl⟩
   rw [hye] at hy hgy
   have hmy := zgK (f := zok) hy
   (repeat' first | refine zeN (zbl hd2 (zbl hgy hpl)) ?_ | with_reducible first | exact ⟨⟩ | refine zh ?_ | fail)
   refine zlL (hS _ _) ?_
   rw [hP]
   (repeat' first | refine zeN (wkc j (by omega)) ?_ | with_reducible first | exact ⟨⟩ | refine zh ?_ | fail)
   refine zav.next hjl ⟨rfl,T, ?_⟩
   rw [hmy,thn_snoc]
   simp
  ·have hd2 : decide ((j : Int) < (p.path.length : Int)) = false := by simp; omega
   rw [List.take_of_length_le (by omega)]
   (repeat' first | refine zeN (zbl hd2 hB) ?_ | with_reducible first | exact ⟨⟩ | refine zh ?_ | fail)
   refine c_askCert (c := p.cert) (hS _ _) hp.signs ?_
   rw [hP]
   have e3 : zgO (zeO (R ++ p.path.map zok)) (zeO (zmR p.cert)) = zfe p := by
    rw [hfin2, ← List.append_assoc, ← zks (zeO (R ++ p.path.map zok)),thnE_app,zks]
   rw [e3]
   (repeat' first | refine zrY ?_ | with_reducible first | exact ⟨⟩ | refine zh ?_ | fail)
   exact ziF (by simp [zbV,dmT,zby]) hl (zgL _ _) hK
theorem zso {σ : List zf} {p : zbe} (hp : zdV p) {K : AV → List zf → Prop} (hK : K (.d (.int .i64 (zfe p))) σ) : zL Tryz.prog zdZ [zdv p] σ K := by
 refine zj zgr.is rfl fun hl _ => zgr.goes ?_
 simp only [zgB,iN,bT,bF,eN,zdv]
 (repeat' first | refine zrY ?_ | with_reducible first | exact ⟨⟩ | refine zh ?_ | fail)
 refine c_askProof (p := p) (by rw [zq]; rfl) hp ?_
 rw [zM]
 (repeat' first | refine zrY ?_ | with_reducible first | exact ⟨⟩ | refine zh ?_ | fail)
 (first | refine zao hl ?_ | refine zan hl ?_)
 exact hK
end Go.Proofs.YtncpaekiidpchaaGreat
