/- Contracts: whether a checkpoint's certificate is valid, on both sides. -/
import Derived.Test.YtfjommppajkpoaaGreatPt1
import Derived.Test.YtfjommppajkpoaaGreatSpChk
set_option linter.all false
set_option maxRecDepth 100000
namespace Go.Proofs.YtfjommppajkpoaaGreat
open Go.AW
theorem c_ptValid1 {σ : List zg} {a b c0 id m t id2 m2 t2 : Nat} {L : List (List UInt8)} {G : List zI} {c : zfV} {s : zI} (ha : σ[a]? = some (.box [.box id 0])) (hb : σ[b]? = some (.box [.box id2 0])) (hc : σ[c0]? = some (certO c)) (hT : zcd σ id m t L) (hG : zea σ id2 m2 t2 G) (hL : zjN L) (hg : G.length ≤ 1073741824)
  {K : KT} (hK : K (.d (.bool (!zin L G s s.key 6 0 c.seq c.dig))) σ) : zq Tryz.prog zeQ [.agg [.d (.int .i64 s.key), .d (.int .i64 s.dig)], .box a 0, .box b 0, .box c0 0] σ K := by
 refine acE4 zry fun hl => ?_
 have sa : ∀ τ,(σ ++ τ)[a]? = _ := fun τ => zf ha
 have sb : ∀ τ,(σ ++ τ)[b]? = _ := fun τ => zf hb
 have sc : ∀ τ,(σ ++ τ)[c0]? = some (.box [.d (.int .i64 c.seq), .d (.int .i64 c.dig), .d (.slice (zas c.signs))]) := fun τ => zf hc
 simp only [zll,iN,bT,bF,eN]
 refine gq2 (zc sa sb) ?_
 refine zvt (s := s) (hT.app _) (hG.app _) hL hg ?_
 refine gq1 ?_
 refine zK hl ?_
 exact hK
theorem c_idxSign {σ : List zg} {b : List zI} {f : FuncId} {cap : List AV} {p : zI → Bool} (hb : b.length ≤ 1073741824) (hf : ∀ x ∈ b, ∀ K : AV → List zg → Prop,K (.d (.bool (p x))) σ → zq Tryz.prog f (.agg [.d (.int .i64 x.key), .d (.int .i64 x.dig)] :: cap) σ K)
  {K : KT} (hK : ∀ r : Int,decide (r ≥ 0) = b.any p → K (.d (.int .i64 r)) σ) : zq Tryz.prog zaY [.d (.slice (zas b)), .fn (.func f) [] cap] σ K := by
 refine zga zek fun hl => ?_
 simp only [zcf,iN,bT,bF,eN]
 refine gq1 ?_
 refine zw b.length (fun k vs s => vs = [.d (.int .i64 k)] ∧ s = σ ∧ (b.take k).any p = false) ⟨rfl,rfl,by simp⟩ ?_
 rintro k vs s hk ⟨rfl,rfl,hno⟩
 by_cases hlt : k < b.length
 ·have hd : decide ((k : Int) < (b.length : Int)) = true := by simp; omega
  have hx : b[k]? = some b[k] := by simp [hlt]
  have hfx := hf _ (List.getElem_mem hlt)
  have hgx := zU (f := zfI) hx
  obtain ⟨x,hxe⟩ : ∃ x,b[k] = x := ⟨_,rfl⟩
  rw [hxe] at hx hgx hfx
  refine gq8 (zc hd hgx) ?_
  refine hfx _ ?_
  cases h1 : p x
  ·refine gq2 (wkc k (by omega)) ?_
   refine zap.next hlt ⟨rfl,rfl, ?_⟩
   rw [List.take_add_one,hx]
   simp [hno,h1]
  ·refine gq1 ?_
   refine zK hl ?_
   have : b.any p = true := List.any_eq_true.2 ⟨x,List.mem_of_getElem? hx,h1⟩
   exact hK _ (by rw [this]; simp)
 ·have hd : decide ((k : Int) < (b.length : Int)) = false := by simp; omega
  refine gq2 hd ?_
  refine zK hl ?_
  rw [List.take_of_length_le (by omega)] at hno
  exact hK _ (by rw [hno]; rfl)
theorem c_hasSign {σ : List zg} {b : List zI} {f : FuncId} {cap : List AV} {p : zI → Bool} (hb : b.length ≤ 1073741824) (hf : ∀ x ∈ b, ∀ K : AV → List zg → Prop,K (.d (.bool (p x))) σ → zq Tryz.prog f (.agg [.d (.int .i64 x.key), .d (.int .i64 x.dig)] :: cap) σ K)
  {K : KT} (hK : K (.d (.bool (b.any p))) σ) : zq Tryz.prog zay [.d (.slice (zas b)), .fn (.func f) [] cap] σ K := by
 refine zga zdH fun hl => ?_
 simp only [zbE,iN,bT,bF,eN]
 refine gq1 ?_
 refine c_idxSign hb hf fun r hr => ?_
 refine gq2 hr ?_
 refine zK hl ?_
 exact hK
theorem not_any (l : List zI) (p : zI → Bool) : (!l.any fun s => !p s) = l.all p := by
 induction l with
 | nil => rfl
 | cons x l ih => simp only [List.any_cons,List.all_cons,Bool.not_or,Bool.not_not,ih]
theorem c_ptValid {σ : List zg} {id m t id2 m2 t2 : Nat} {L : List (List UInt8)} {G : List zI} {f : Int} {c : zfV} (hT : zcd σ id m t L) (hG : zea σ id2 m2 t2 G) (hL : zjN L) (hg : G.length ≤ 1073741824) (hl0 : c.signs.length ≤ 1073741824)
  {K : KT} (hK : K (.d (.bool (zkX L G f c))) σ) : zq Tryz.prog zjq [.box id 0, .box id2 0, .d (.int .i64 f),ziN c] σ K := by
 refine acE4 zuV fun hl => ?_
 have fin : ∀ z,zkX L G f c = z → K (.d (.bool z)) σ := fun z h => h ▸ hK
 clear hK
 simp only [zog,iN,bT,bF,eN,ziN]
 refine gq1 ?_
 refine c_ptNew (fun h0 => ?_) (fun h0 => ?_)
 ·have h0' : (zcQ f != 0) = true := by simpa using h0
  refine gq2 h0' ?_
  refine zK hl ?_
  exact fin _ (by rw [zkX,decide_eq_false h0]; rfl)
 refine gq2 (show ((0 : Int) != 0) = false from rfl) ?_
 obtain ⟨S,hS⟩ : ∃ S, σ ++ [zg.box [.box id 0], .box [.box id2 0],certO c, .map [], .box [.d (.int .i64 f), .d (.int .i64 0), .d (.int .i64 0), .exact [], .map (σ.length + 3), .exact []]] = S := ⟨_,rfl⟩
 have g0 : ∀ τ,(S ++ τ)[σ.length]? = some (.box [.box id 0]) := fun τ => zf (by rw [← hS,zm]; rfl)
 have g1 : ∀ τ,(S ++ τ)[σ.length + 1]? = some (.box [.box id2 0]) := fun τ => zf (by rw [← hS,zh]; rfl)
 have g2 : ∀ τ,(S ++ τ)[σ.length + 2]? = some (certO c) := fun τ => zf (by rw [← hS,zh]; rfl)
 have g4 : S[σ.length + 4]? = some (.box (.d (.int .i64 f) :: [.d (.int .i64 0), .d (.int .i64 0), .exact [], .map (σ.length + 3), .exact []])) := by rw [← hS,zh]; rfl
 have g00 := g0 []; have g10 := g1 []; have g20 := g2 []
 rw [List.append_nil] at g00 g10 g20
 have tT : zcd S id m t L := hS ▸ hT.app _
 have tG : zea S id2 m2 t2 G := hS ▸ hG.app _
 have hpre : ∃ T,S = σ ++ T := ⟨_,hS.symm⟩
 rw [hS]
 refine c_ptMayCert g4 hl0 ?_
 cases h1 : zcX f c
 ·refine gq1 ?_
  obtain ⟨T,rfl⟩ := hpre
  refine zK hl ?_
  exact fin _ (by rw [zkX,h1]; simp)
 have hcf : zkX L G f c = c.signs.all fun s => zin L G s s.key 6 0 c.seq c.dig := by rw [zkX,h1,decide_eq_true h0]; rfl
 have tail : ∀ τ,zq Tryz.prog zay [.d (.slice (zas c.signs)), .fn (.func zeQ) [] [.box σ.length 0, .box (σ.length + 1) 0, .box (σ.length + 2) 0]] (S ++ τ) fun K1 s => unC .not K1 s fun L1 s => z1 (AW.Ends σ.length K) L1 s := fun τ => by
  refine c_hasSign (p := fun s => !zin L G s s.key 6 0 c.seq c.dig) hl0 (fun x _ K hK => c_ptValid1 (g0 _) (g1 _) (g2 _) (tT.app _) (tG.app _) hL hg hK) ?_
  rw [hcf, ← not_any] at fin
  refine gq1 ?_
  obtain ⟨T,rfl⟩ := hpre
  rw [List.append_assoc]
  refine zK hl ?_
  exact fin _ rfl
 have tail0 := tail []
 rw [List.append_nil] at tail0
 refine gq2 (zc g00 (zc g10 g20)) ?_
 refine c_tLen tT ?_
 cases h2 : ((L.length : Int) == 0)
 ·refine gq2 (zc h2 (zc g00 (zc g10 g20))) ?_
  refine c_gLen tG ?_
  cases h3 : ((G.length : Int) == 0)
  ·refine gq2 (zc h2 (zc h3 (zc g00 (zc g10 g20)))) ?_
   exact tail0
  ·refine gq2 (zc h2 (zc h3 (zc g00 (zc g10 g20)))) ?_
   refine zqA tG hg fun g' => ?_
   refine gq2 g2 ?_
   exact tail _
 ·refine gq2 (zc h2 (zc g00 (zc g10 g20))) ?_
  refine zjB tT hL.nd hL.len hL.each ?_
  refine gq2 g1 ?_
  refine c_gLen (tG.app _) ?_
  cases h3 : ((G.length : Int) == 0)
  ·refine gq2 (zc h2 (zc h3 (zc g1 g2))) ?_
   exact tail _
  ·refine gq2 (zc h2 (zc h3 (zc g1 g2))) ?_
   refine zqA (tG.app _) hg fun g' => ?_
   refine gq2 g2 ?_
   exact tail _
theorem c_r14Valid {σ : List zg} {id id2 : Nat} {L : List (List UInt8)} {G : List zI} {f : Int} {c : zfV} (hT : σ[id]? = some (rtO L)) (hG : σ[id2]? = some (rlO G)) (hL : L.length ≤ 1048576) (hg : G.length ≤ 1073741824) (hl0 : c.signs.length ≤ 1073741824)
  {K : KT} (hK : K (.d (.bool (zkX L G f c))) σ) : zq Tryz.prog zmy [.box id 0, .box id2 0, .d (.int .i64 f),ziN c] σ K := by
 refine acE4 e_r14_Valid fun hl => ?_
 have fin : ∀ z,zkX L G f c = z → K (.d (.bool z)) σ := fun z h => h ▸ hK
 clear hK
 have hlen : (zas c.signs).length = c.signs.length := List.length_map ..
 simp only [zsc,iN,bT,bF,eN,ziN]
 refine gq1 ?_
 refine znQ ?_
 cases h0 : (zcQ f != 0)
 rotate_left
 ·refine gq2 h0 ?_
  refine zK hl ?_
  have h0' : zcQ f ≠ 0 := by simpa using h0
  exact fin _ (by rw [zkX,decide_eq_false h0']; rfl)
 have h0' : zcQ f = 0 := by simpa using h0
 refine gq2 h0 ?_
 refine c_r14MayCert (f := f) (cs := [.d (.int .i64 0), .d (.int .i64 0), .exact [], .exact [], .exact []]) (by rw [zh]; rfl) hl0 ?_
 cases h1 : zcX f c
 ·refine gq1 ?_
  refine zK hl ?_
  exact fin _ (by rw [zkX,h1]; simp)
 have hcf : zkX L G f c = c.signs.all fun s => zin L G s s.key 6 0 c.seq c.dig := by rw [zkX,h1,decide_eq_true h0']; rfl
 refine gq1 ?_
 refine zw c.signs.length (fun k vs s => vs = [.d (.int .i64 k)] ∧ s = σ ++ [certO c, .box [.d (.int .i64 f), .d (.int .i64 0), .d (.int .i64 0), .exact [], .exact [], .exact []]] ∧ (c.signs.take k).all (fun s => zin L G s s.key 6 0 c.seq c.dig) = true) ⟨rfl,rfl,by simp⟩ ?_
 rintro k vs s hk ⟨rfl,rfl,hok⟩
 by_cases hlt : k < c.signs.length
 ·have hd : decide ((k : Int) < (c.signs.length : Int)) = true := by simp; omega
  have hx : c.signs[k]? = some c.signs[k] := by simp [hlt]
  have hgx := zU (f := zfI) hx
  obtain ⟨x,hxe⟩ : ∃ x,c.signs[k] = x := ⟨_,rfl⟩
  rw [hxe] at hx hgx
  refine gq8 (zc hd (zc hgx hlen)) ?_
  refine zvk (s := x) (zf hT) (zf hG) hL hg ?_
  cases h2 : zin L G x x.key 6 0 c.seq c.dig
  ·refine gq1 ?_
   refine zK hl ?_
   refine fin _ ?_
   rw [hcf,Bool.eq_false_iff]
   intro hall
   have := List.all_eq_true.1 hall x (List.mem_of_getElem? hx)
   rw [h2] at this; cases this
  ·refine gq2 (wkc k (by omega)) ?_
   refine zap.next hlt ⟨rfl,rfl, ?_⟩
   rw [List.take_add_one,hx]
   simp only [List.all_append,hok,Option.toList_some,List.all_cons,List.all_nil,Bool.true_and,Bool.and_true,h2]
 ·have hd : decide ((k : Int) < (c.signs.length : Int)) = false := by simp; omega
  rw [List.take_of_length_le (by omega)] at hok
  refine gq2 (zc hd hlen) ?_
  refine zK hl ?_
  exact fin _ (by rw [hcf,hok])
structure zdy (p : zaE) : Prop where
 topic : p.topic.length ≤ 16777216
 rec_ : p.rec_.length ≤ 16777216
 headers : p.headers.length ≤ 1073741824
 path : p.path.length ≤ 1073741824
 signs : p.cert.signs.length ≤ 1073741824
 off : zrk p.offset
 index : zrk p.index
 count : zrk p.count
 paths : ∀ x ∈ p.path,zrk x
abbrev zhe (p : zaE) : zg := .box [.d (.str p.topic), .d (.int .i64 p.offset), .d (.slice (bcs p.rec_)), .d (.slice (zdf p.headers)), .d (.int .i64 p.index), .d (.int .i64 p.count), .d (.slice (zbd p.path)), .d (.int .i64 p.cert.seq), .d (.int .i64 p.cert.dig), .d (.slice (zas p.cert.signs))]
theorem thnE_app (e : Int) (a b : List Int) : zgY (zgY e (zbV a)) (zbV b) = zgY e (zbV (a ++ b)) := by
 rw [zfG]
 unfold zgY
 by_cases h : e = 0
 ·by_cases h2 : zbV a = 0
  ·simp [h,h2]
  ·simp [h,h2]
 ·simp [h]
theorem ziq (e : Int) (a : List Int) (x : Int) : zgY (zgY e (zbV a)) x = zgY e (zbV (a ++ [x])) := by
 have : x = zbV [x] := by simp only [zbV]; split <;> simp_all
 conv => lhs; rw [this]
 exact thnE_app e a [x]
theorem zku (x : Int) : zgY 0 x = x := by simp [zgY]
theorem thn_snoc (l : List Int) (x : Int) : zgY (zbV l) x = zbV (l ++ [x]) := by rw [← zku (zbV l),ziq,zku]
theorem c_askProof {σ : List zg} {id : Nat} {p : zaE} (hσ : σ[id]? = some (zlK 0)) (hp : zdy p) {K : KT} (hK : K (.tup []) (σ.set id (zlK (zbW p)))) :
  zq Tryz.prog zdE [.box id 0,zcp p] σ K := by
 refine zga zkU fun hl => ?_
 have hid := zA hσ
 have hrl := zaH p.rec_
 have hhl : (zdf p.headers).length = p.headers.length := List.length_map ..
 have hpl : (zbd p.path).length = p.path.length := List.length_map ..
 have hB : ∀ X τ,(σ.set id X ++ zhe p :: τ)[σ.length]? = some (zhe p) := fun X τ => by
  rw [List.getElem?_append_right (by simp)]; simp
 have hS : ∀ E τ,(σ.set id (zlK E) ++ τ)[id]? = some (zlK E) := fun E τ => zf (zbs hσ)
 have hP : ∀ E Y τ,(σ.set id (zlK E) ++ τ).set id Y = σ.set id Y ++ τ := fun E Y τ => by rw [zbz (zbs hσ),List.set_set]
 simp only [zfX,iN,bT,bF,eN,zcp]
 refine zhJ ?_
 refine c_askName (zf hσ) (by have := hp.topic; omega) ?_
 rw [zbz hσ]
 refine zcJ hB ?_
 refine zlI (hS _ _) ?_
 rw [hP]
 refine zcJ (zbi hB hrl) ?_
 refine zkZ (hS _ _) ?_
 rw [hP]
 refine zcJ (zbi hB hhl) ?_
 refine zkZ (hS _ _) ?_
 rw [hP]
 rw [show zgY (zgY (zgY (zgY 0 (zsC p.topic)) (zhH p.offset)) (inE p.rec_.length 0 64)) (inE p.headers.length 0 64) = zbV (zef p) by
  rw [zku]
  simp only [zef,zbV,zgY]
  by_cases h1 : zsC p.topic = 0
  ·by_cases h2 : zhH p.offset = 0
   ·by_cases h3 : inE p.rec_.length 0 64 = 0
    ·by_cases h4 : inE p.headers.length 0 64 = 0 <;> simp [h1,h2,h3,h4]
    ·simp [h1,h2,h3]
   ·simp [h1,h2]
  ·simp [h1]]
 refine zcJ (zbi hB hhl) ?_
 refine zw p.headers.length (fun k vs s => vs = [.d (.int .i64 k)] ∧ ∃ T,s = σ.set id (zlK (zbV (zef p ++ ((p.headers.take k).map zgv).flatten))) ++ zhe p :: T) ⟨rfl, [],by simp⟩ ?_
 rintro k vs s hk ⟨rfl,T,rfl⟩
 by_cases hlt : k < p.headers.length
 ·have hd : decide ((k : Int) < (p.headers.length : Int)) = true := by simp; omega
  have hx : p.headers[k]? = some p.headers[k] := by simp [hlt]
  have hgx := zU (f := zuJ) hx
  obtain ⟨h,hhe⟩ : ∃ h,p.headers[k] = h := ⟨_,rfl⟩
  rw [hhe] at hx hgx
  have hph := hp.headers
  have hmn : ((p.headers.take (k + 1)).map zgv).flatten = ((p.headers.take k).map zgv).flatten ++ zgv h := by
   rw [zgQ hx]; simp
  obtain ⟨Q,hQ⟩ : ∃ Q,zef p ++ ((p.headers.take k).map zgv).flatten = Q := ⟨_,rfl⟩
  have hnx : zef p ++ ((p.headers.take (k + 1)).map zgv).flatten = Q ++ zgv h := by rw [hmn, ← hQ,List.append_assoc]
  rw [hQ]
  have hlX : ∀ X,(σ.set id X).length = σ.length := fun X => List.length_set
  have hhb : ∀ X Y,(σ.set id X ++ zhe p :: (T ++ [Y]))[σ.length + (T.length + 1)]? = some Y := fun X Y => by
   rw [← hlX X,zh,List.getElem?_cons_succ,zm]; rfl
  refine zcJ (zbi hd (zbi hgx hhl)) ?_
  refine c_askPos (hS _ _) ?_
  rw [hP]
  refine zcJ (zbi hlX hhb) ?_
  have hg : ∀ (k : Nat) x, [h.prev,h.batch,h.root,h.state][k]? = some x → [[D.int .i64 h.prev], [D.int .i64 h.batch], [D.int .i64 h.root], [D.int .i64 h.state]][k]? = some [D.int .i64 x] := fun k x hx => by
   have := zU (f := fun t => [D.int .i64 t]) hx
   simpa using this
  have hhd : zgv h = [posE h.seq] ++ [h.prev,h.batch,h.root,h.state].map zhH := rfl
  have hl4 : [h.prev,h.batch,h.root,h.state].length = 4 := rfl
  have e0 : zgY (zbV Q) (posE h.seq) = zbV (Q ++ [posE h.seq]) := by rw [← zku (zbV Q),ziq,zku]
  obtain ⟨l,hlq⟩ : ∃ l, [h.prev,h.batch,h.root,h.state] = l := ⟨_,rfl⟩
  rw [hlq] at hg hhd hl4
  rw [e0]
  refine zw 4 (fun j vs s => vs = [.d (.int .i64 j)] ∧ ∃ T,s = σ.set id (zlK (zbV (Q ++ ([posE h.seq] ++ (l.take j).map zhH)))) ++ zhe p :: T) ⟨rfl,_,by simp; rfl⟩ ?_
  rintro j vs s hj ⟨rfl,T,rfl⟩
  by_cases hjl : j < 4
  ·have hd2 : decide ((j : Int) < ((4 : Nat) : Int)) = true := by simp; omega
   have hy : l[j]? = some (l[j]'(by omega)) := List.getElem?_eq_getElem _
   have hgy := hg j _ hy
   obtain ⟨y,hye⟩ : ∃ y,(l[j]'(by omega)) = y := ⟨_,rfl⟩
   rw [hye] at hy hgy
   have hmy := zgQ (f := zhH) hy
   refine zcJ (zbi hd2 hgy) ?_
   refine zlI (hS _ _) ?_
   rw [hP]
   refine zcJ (wkc j (by omega)) ?_
   refine zap.next hjl ⟨rfl,T, ?_⟩
   rw [hmy,thn_snoc]
   simp
  ·have hd2 : decide ((j : Int) < ((4 : Nat) : Int)) = false := by simp; omega
   rw [List.take_of_length_le (by omega), ← hhd, ← hnx]
   refine zcJ (zbi hd2 (wkc k (by omega))) ?_
   exact zap.next hlt ⟨rfl,_,rfl⟩
 ·have hd : decide ((k : Int) < (p.headers.length : Int)) = false := by simp; omega
  rw [List.take_of_length_le (by omega)]
  obtain ⟨Q,hQ⟩ : ∃ Q,zef p ++ (p.headers.map zgv).flatten = Q := ⟨_,rfl⟩
  have hfin : zbW p = zbV (Q ++ (zbg p ++ (zdz p ++ (p.path.map zhH ++ zeX p.cert)))) := by
   rw [zbW,znp, ← List.append_assoc,hQ]
  rw [hQ]
  have hix := hp.index
  have hct := hp.count
  refine zcJ (zbi hd hB) ?_
  refine zlI (hS _ _) ?_
  rw [hP]
  refine zcJ hB ?_
  refine zkZ (hS _ _) ?_
  rw [hP]
  have e1 : zgY (zgY (zbV Q) (zhH p.index)) (inE p.count 0 16) = zbV (Q ++ zbg p) := by
   rw [← zku (zbV Q),ziq,ziq,zku]; simp [zbg]
  rw [e1]
  refine zcJ hB ?_
  refine zvu (hS _ _) ?_
  rw [hP]
  refine zcJ (zbi hB hpl) ?_
  refine zkZ (hS _ _) ?_
  rw [hP]
  have e2 : zgY (zgY (zbV (Q ++ zbg p)) (inE p.index 0 (IntKind.i64.wrap (p.count - 1)))) (inE p.path.length 0 8) = zbV (Q ++ zbg p ++ zdz p) := by
   by_cases hz : zbV (Q ++ zbg p) = 0
   ·have hz2 : zbV (zbg p) = 0 := by
     rw [zfG] at hz
     split at hz
     ·rename_i h; exact absurd hz h
     ·exact hz
    have hc0 : inE p.count 0 16 = 0 := by
     simp only [zbg,zbV] at hz2
     split at hz2
     ·rename_i h; exact absurd hz2 h
     ·split at hz2
      ·rename_i h; exact absurd hz2 h
      ·rename_i h; simpa using h
    have := inE_0 hc0
    rw [show IntKind.i64.wrap (p.count - 1) = p.count - 1 from zJ (by omega) (by omega)]
    rw [← zku (zbV (Q ++ zbg p)),ziq,ziq,zku]; simp [zdz]
   ·rw [zkO hz]
    simp [zgY,hz]
  rw [e2]
  obtain ⟨R,hR⟩ : ∃ R,Q ++ zbg p ++ zdz p = R := ⟨_,rfl⟩
  rw [hR]
  have hfin2 : zbW p = zbV (R ++ (p.path.map zhH ++ zeX p.cert)) := by rw [hfin, ← hR]; simp
  have hpb := hp.path
  refine zcJ (zbi hB hpl) ?_
  refine zw p.path.length (fun k vs s => vs = [.d (.int .i64 k)] ∧ ∃ T,s = σ.set id (zlK (zbV (R ++ (p.path.take k).map zhH))) ++ zhe p :: T) ⟨rfl,_,by simp; rfl⟩ ?_
  rintro j vs s hj ⟨rfl,T,rfl⟩
  by_cases hjl : j < p.path.length
  ·have hd2 : decide ((j : Int) < (p.path.length : Int)) = true := by simp; omega
   have hy : p.path[j]? = some p.path[j] := by simp [hjl]
   have hgy := zU (f := fun t => [D.int .i64 t]) hy
   obtain ⟨y,hye⟩ : ∃ y,p.path[j] = y := ⟨_,rfl⟩
   rw [hye] at hy hgy
   have hmy := zgQ (f := zhH) hy
   refine zcJ (zbi hd2 (zbi hgy hpl)) ?_
   refine zlI (hS _ _) ?_
   rw [hP]
   refine zcJ (wkc j (by omega)) ?_
   refine zap.next hjl ⟨rfl,T, ?_⟩
   rw [hmy,thn_snoc]
   simp
  ·have hd2 : decide ((j : Int) < (p.path.length : Int)) = false := by simp; omega
   rw [List.take_of_length_le (by omega)]
   refine zcJ (zbi hd2 hB) ?_
   refine c_askCert (c := p.cert) (hS _ _) hp.signs ?_
   rw [hP]
   have e3 : zgY (zbV (R ++ p.path.map zhH)) (zbV (zeX p.cert)) = zbW p := by
    rw [hfin2, ← List.append_assoc, ← zku (zbV (R ++ p.path.map zhH)),thnE_app,zku]
   rw [e3]
   refine zhJ ?_
   exact ziG (by simp [zbY,dmT,zbf]) hl (zgS _ _) hK
theorem zsR {σ : List zg} {p : zaE} (hp : zdy p) {K : KT} (hK : K (.d (.int .i64 (zbW p))) σ) : zq Tryz.prog zdT [zcp p] σ K := by
 refine zec zlV fun hl => ?_
 simp only [zgH,iN,bT,bF,eN,zcp]
 refine zhJ ?_
 refine c_askProof (p := p) (by rw [zh]; rfl) hp ?_
 rw [zT]
 refine zhJ ?_
 refine zK hl ?_
 exact hK
end Go.Proofs.YtfjommppajkpoaaGreat
