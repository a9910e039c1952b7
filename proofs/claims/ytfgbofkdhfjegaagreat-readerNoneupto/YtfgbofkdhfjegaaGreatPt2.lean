/- Contracts: whether a checkpoint's certificate is valid, on both sides. -/
import Derived.Test.YtfgbofkdhfjegaaGreatQu1
import Derived.Test.YtfgbofkdhfjegaaGreatCk1
set_option linter.all false
set_option maxRecDepth 100000
namespace Go.Proofs.YtfgbofkdhfjegaaGreat
open Go.AW
theorem c_ptValid1 {σ : List zh} {a b c0 id m t id2 m2 t2 : Nat} {L : List (List UInt8)} {G : List zI} {c : zff} {s : zI} (ha : σ[a]? = some (.box [.box id 0])) (hb : σ[b]? = some (.box [.box id2 0])) (hc : σ[c0]? = some (certO c)) (hT : zdh σ id m t L) (hG : zee σ id2 m2 t2 G) (hL : zlT L) (hg : G.length ≤ 1073741824)
  {K : KT} (hK : K (.d (.bool (!zrT L G s s.key 6 0 c.seq c.dig))) σ) : zp Tryz.prog zgl [.agg [.d (.int .i64 s.key), .d (.int .i64 s.dig)], .box a 0, .box b 0, .box c0 0] σ K := by
 refine acE4 zsS fun hl => ?_
 have sa : ∀ τ,(σ ++ τ)[a]? = _ := fun τ => zd ha
 have sb : ∀ τ,(σ ++ τ)[b]? = _ := fun τ => zd hb
 have sc : ∀ τ,(σ ++ τ)[c0]? = some (.box [.d (.int .i64 c.seq), .d (.int .i64 c.dig), .d (.slice (zbd c.signs))]) := fun τ => zd hc
 simp only [zmH,iN,bT,bF,eN]
 refine gq2 (zf sa sb) ?_
 refine zwB (s := s) (hT.app _) (hG.app _) hL hg ?_
 refine gq1 ?_
 refine zT hl ?_
 exact hK
theorem c_idxSign {σ : List zh} {b : List zI} {f : FuncId} {cap : List AV} {p : zI → Bool} (hb : b.length ≤ 1073741824) (hf : ∀ x ∈ b, ∀ K : AV → List zh → Prop,K (.d (.bool (p x))) σ → zp Tryz.prog f (.agg [.d (.int .i64 x.key), .d (.int .i64 x.dig)] :: cap) σ K)
  {K : KT} (hK : ∀ r : Int,decide (r ≥ 0) = b.any p → K (.d (.int .i64 r)) σ) : zp Tryz.prog zbD [.d (.slice (zbd b)), .fn (.func f) [] cap] σ K := by
 refine zfY zfc fun hl => ?_
 simp only [zcG,iN,bT,bF,eN]
 refine gq1 ?_
 refine zr b.length (fun k vs s => vs = [.d (.int .i64 k)] ∧ s = σ ∧ (b.take k).any p = false) ⟨rfl,rfl,by simp⟩ ?_
 rintro k vs s hk ⟨rfl,rfl,hno⟩
 by_cases hlt : k < b.length
 ·have hd : decide ((k : Int) < (b.length : Int)) = true := by simp; omega
  have hx : b[k]? = some b[k] := by simp [hlt]
  have hfx := hf _ (List.getElem_mem hlt)
  have hgx := zS (f := zil) hx
  obtain ⟨x,hxe⟩ : ∃ x,b[k] = x := ⟨_,rfl⟩
  rw [hxe] at hx hgx hfx
  refine gq8 (zf hd hgx) ?_
  refine hfx _ ?_
  cases h1 : p x
  ·refine gq2 (wkc k (by omega)) ?_
   refine zaG.next hlt ⟨rfl,rfl, ?_⟩
   rw [List.take_add_one,hx]
   simp [hno,h1]
  ·refine gq1 ?_
   refine zT hl ?_
   have : b.any p = true := List.any_eq_true.2 ⟨x,List.mem_of_getElem? hx,h1⟩
   exact hK _ (by rw [this]; simp)
 ·have hd : decide ((k : Int) < (b.length : Int)) = false := by simp; omega
  refine gq2 hd ?_
  refine zT hl ?_
  rw [List.take_of_length_le (by omega)] at hno
  exact hK _ (by rw [hno]; rfl)
theorem c_hasSign {σ : List zh} {b : List zI} {f : FuncId} {cap : List AV} {p : zI → Bool} (hb : b.length ≤ 1073741824) (hf : ∀ x ∈ b, ∀ K : AV → List zh → Prop,K (.d (.bool (p x))) σ → zp Tryz.prog f (.agg [.d (.int .i64 x.key), .d (.int .i64 x.dig)] :: cap) σ K)
  {K : KT} (hK : K (.d (.bool (b.any p))) σ) : zp Tryz.prog zaN [.d (.slice (zbd b)), .fn (.func f) [] cap] σ K := by
 refine zfY zes fun hl => ?_
 simp only [zcx,iN,bT,bF,eN]
 refine gq1 ?_
 refine c_idxSign hb hf fun r hr => ?_
 refine gq2 hr ?_
 refine zT hl ?_
 exact hK
theorem not_any (l : List zI) (p : zI → Bool) : (!l.any fun s => !p s) = l.all p := by
 induction l with
 | nil => rfl
 | cons x l ih => simp only [List.any_cons,List.all_cons,Bool.not_or,Bool.not_not,ih]
theorem c_ptValid {σ : List zh} {id m t id2 m2 t2 : Nat} {L : List (List UInt8)} {G : List zI} {f : Int} {c : zff} (hT : zdh σ id m t L) (hG : zee σ id2 m2 t2 G) (hL : zlT L) (hg : G.length ≤ 1073741824) (hl0 : c.signs.length ≤ 1073741824)
  {K : KT} (hK : K (.d (.bool (zwm L G f c))) σ) : zp Tryz.prog zkX [.box id 0, .box id2 0, .d (.int .i64 f),zox c] σ K := by
 refine acE4 zwb fun hl => ?_
 have fin : ∀ z,zwm L G f c = z → K (.d (.bool z)) σ := fun z h => h ▸ hK
 clear hK
 simp only [zpG,iN,bT,bF,eN,zox]
 refine gq1 ?_
 refine c_ptNew (fun h0 => ?_) (fun h0 => ?_)
 ·have h0' : (zdz f != 0) = true := by simpa using h0
  refine gq2 h0' ?_
  refine zT hl ?_
  exact fin _ (by rw [zwm,decide_eq_false h0]; rfl)
 refine gq2 (show ((0 : Int) != 0) = false from rfl) ?_
 obtain ⟨S,hS⟩ : ∃ S, σ ++ [zh.box [.box id 0], .box [.box id2 0],certO c, .map [], .box [.d (.int .i64 f), .d (.int .i64 0), .d (.int .i64 0), .exact [], .map (σ.length + 3), .exact []]] = S := ⟨_,rfl⟩
 have g0 : ∀ τ,(S ++ τ)[σ.length]? = some (.box [.box id 0]) := fun τ => zd (by rw [← hS,zy]; rfl)
 have g1 : ∀ τ,(S ++ τ)[σ.length + 1]? = some (.box [.box id2 0]) := fun τ => zd (by rw [← hS,zt]; rfl)
 have g2 : ∀ τ,(S ++ τ)[σ.length + 2]? = some (certO c) := fun τ => zd (by rw [← hS,zt]; rfl)
 have g4 : S[σ.length + 4]? = some (.box (.d (.int .i64 f) :: [.d (.int .i64 0), .d (.int .i64 0), .exact [], .map (σ.length + 3), .exact []])) := by rw [← hS,zt]; rfl
 have g00 := g0 []; have g10 := g1 []; have g20 := g2 []
 rw [List.append_nil] at g00 g10 g20
 have tT : zdh S id m t L := hS ▸ hT.app _
 have tG : zee S id2 m2 t2 G := hS ▸ hG.app _
 have hpre : ∃ T,S = σ ++ T := ⟨_,hS.symm⟩
 rw [hS]
 refine c_ptMayCert g4 hl0 ?_
 cases h1 : zja f c
 ·refine gq1 ?_
  obtain ⟨T,rfl⟩ := hpre
  refine zT hl ?_
  exact fin _ (by rw [zwm,h1]; simp)
 have hcf : zwm L G f c = c.signs.all fun s => zrT L G s s.key 6 0 c.seq c.dig := by rw [zwm,h1,decide_eq_true h0]; rfl
 have tail : ∀ τ,zp Tryz.prog zaN [.d (.slice (zbd c.signs)), .fn (.func zgl) [] [.box σ.length 0, .box (σ.length + 1) 0, .box (σ.length + 2) 0]] (S ++ τ) fun K1 s => unC .not K1 s fun L1 s => z1 (AW.Ends σ.length K) L1 s := fun τ => by
  refine c_hasSign (p := fun s => !zrT L G s s.key 6 0 c.seq c.dig) hl0 (fun x _ K hK => c_ptValid1 (g0 _) (g1 _) (g2 _) (tT.app _) (tG.app _) hL hg hK) ?_
  rw [hcf, ← not_any] at fin
  refine gq1 ?_
  obtain ⟨T,rfl⟩ := hpre
  rw [List.append_assoc]
  refine zT hl ?_
  exact fin _ rfl
 have tail0 := tail []
 rw [List.append_nil] at tail0
 refine gq2 (zf g00 (zf g10 g20)) ?_
 refine c_tLen tT ?_
 cases h2 : ((L.length : Int) == 0)
 ·refine gq2 (zf h2 (zf g00 (zf g10 g20))) ?_
  refine c_gLen tG ?_
  cases h3 : ((G.length : Int) == 0)
  ·refine gq2 (zf h2 (zf h3 (zf g00 (zf g10 g20)))) ?_
   exact tail0
  ·refine gq2 (zf h2 (zf h3 (zf g00 (zf g10 g20)))) ?_
   refine zpv tG hg fun g' => ?_
   refine gq2 g2 ?_
   exact tail _
 ·refine gq2 (zf h2 (zf g00 (zf g10 g20))) ?_
  refine znh tT hL.nd hL.len hL.each ?_
  refine gq2 g1 ?_
  refine c_gLen (tG.app _) ?_
  cases h3 : ((G.length : Int) == 0)
  ·refine gq2 (zf h2 (zf h3 (zf g1 g2))) ?_
   exact tail _
  ·refine gq2 (zf h2 (zf h3 (zf g1 g2))) ?_
   refine zpv (tG.app _) hg fun g' => ?_
   refine gq2 g2 ?_
   exact tail _
structure zgc (p : zcf) : Prop where
 topic : p.topic.length ≤ 16777216
 rec_ : p.rec_.length ≤ 16777216
 headers : p.headers.length ≤ 1073741824
 path : p.path.length ≤ 1073741824
 signs : p.cert.signs.length ≤ 1073741824
 off : ziM p.offset
 index : ziM p.index
 count : ziM p.count
 paths : ∀ x ∈ p.path,ziM x
abbrev zlZ (p : zcf) : zh := .box [.d (.str p.topic), .d (.int .i64 p.offset), .d (.slice (bcs p.rec_)), .d (.slice (ziO p.headers)), .d (.int .i64 p.index), .d (.int .i64 p.count), .d (.slice (zdK p.path)), .d (.int .i64 p.cert.seq), .d (.int .i64 p.cert.dig), .d (.slice (zbd p.cert.signs))]
theorem zvz (e : Int) (a b : List Int) : zhT (zhT e (zcD a)) (zcD b) = zhT e (zcD (a ++ b)) := by
 rw [zia]
 unfold zhT
 by_cases h : e = 0
 ·by_cases h2 : zcD a = 0
  ·simp [h,h2]
  ·simp [h,h2]
 ·simp [h]
theorem zjO (e : Int) (a : List Int) (x : Int) : zhT (zhT e (zcD a)) x = zhT e (zcD (a ++ [x])) := by
 have : x = zcD [x] := by simp only [zcD]; split <;> simp_all
 conv => lhs; rw [this]
 exact zvz e a [x]
theorem zjN (x : Int) : zhT 0 x = x := by simp [zhT]
theorem zkH (l : List Int) (x : Int) : zhT (zcD l) x = zcD (l ++ [x]) := by rw [← zjN (zcD l),zjO,zjN]
theorem c_askProof {σ : List zh} {id : Nat} {p : zcf} (hσ : σ[id]? = some (zgv 0)) (hp : zgc p) {K : KT} (hK : K (.tup []) (σ.set id (zgv (zgs p)))) :
  zp Tryz.prog zct [.box id 0,zhy p] σ K := by
 refine zfY zhm fun hl => ?_
 have hid := zx hσ
 have hrl := zaH p.rec_
 have hhl : (ziO p.headers).length = p.headers.length := List.length_map ..
 have hpl : (zdK p.path).length = p.path.length := List.length_map ..
 have hB : ∀ X τ,(σ.set id X ++ zlZ p :: τ)[σ.length]? = some (zlZ p) := fun X τ => by
  rw [List.getElem?_append_right (by simp)]; simp
 have hS : ∀ E τ,(σ.set id (zgv E) ++ τ)[id]? = some (zgv E) := fun E τ => zd (zbv hσ)
 have hP : ∀ E Y τ,(σ.set id (zgv E) ++ τ).set id Y = σ.set id Y ++ τ := fun E Y τ => by rw [zcd (zbv hσ),List.set_set]
 simp only [zew,iN,bT,bF,eN,zhy]
 refine ziv ?_
 refine c_askName (zd hσ) (by have := hp.topic; omega) ?_
 rw [zcd hσ]
 refine zbA hB ?_
 refine zlo (hS _ _) ?_
 rw [hP]
 refine zbA (zbe hB hrl) ?_
 refine zko (hS _ _) ?_
 rw [hP]
 refine zbA (zbe hB hhl) ?_
 refine zko (hS _ _) ?_
 rw [hP]
 rw [show zhT (zhT (zhT (zhT 0 (ztP p.topic)) (ziN p.offset)) (inE p.rec_.length 0 64)) (inE p.headers.length 0 64) = zcD (zge p) by
  rw [zjN]
  simp only [zge,zcD,zhT]
  by_cases h1 : ztP p.topic = 0
  ·by_cases h2 : ziN p.offset = 0
   ·by_cases h3 : inE p.rec_.length 0 64 = 0
    ·by_cases h4 : inE p.headers.length 0 64 = 0 <;> simp [h1,h2,h3,h4]
    ·simp [h1,h2,h3]
   ·simp [h1,h2]
  ·simp [h1]]
 refine zbA (zbe hB hhl) ?_
 refine zr p.headers.length (fun k vs s => vs = [.d (.int .i64 k)] ∧ ∃ T,s = σ.set id (zgv (zcD (zge p ++ ((p.headers.take k).map zjb).flatten))) ++ zlZ p :: T) ⟨rfl, [],by simp⟩ ?_
 rintro k vs s hk ⟨rfl,T,rfl⟩
 by_cases hlt : k < p.headers.length
 ·have hd : decide ((k : Int) < (p.headers.length : Int)) = true := by simp; omega
  have hx : p.headers[k]? = some p.headers[k] := by simp [hlt]
  have hgx := zS (f := hdrD) hx
  obtain ⟨h,hhe⟩ : ∃ h,p.headers[k] = h := ⟨_,rfl⟩
  rw [hhe] at hx hgx
  have hph := hp.headers
  have hmn : ((p.headers.take (k + 1)).map zjb).flatten = ((p.headers.take k).map zjb).flatten ++ zjb h := by
   rw [zdJ hx]; simp
  obtain ⟨Q,hQ⟩ : ∃ Q,zge p ++ ((p.headers.take k).map zjb).flatten = Q := ⟨_,rfl⟩
  have hnx : zge p ++ ((p.headers.take (k + 1)).map zjb).flatten = Q ++ zjb h := by rw [hmn, ← hQ,List.append_assoc]
  rw [hQ]
  have hlX : ∀ X,(σ.set id X).length = σ.length := fun X => List.length_set
  have hhb : ∀ X Y,(σ.set id X ++ zlZ p :: (T ++ [Y]))[σ.length + (T.length + 1)]? = some Y := fun X Y => by
   rw [← hlX X,zt,List.getElem?_cons_succ,zy]; rfl
  refine zbA (zbe hd (zbe hgx hhl)) ?_
  refine c_askPos (hS _ _) ?_
  rw [hP]
  refine zbA (zbe hlX hhb) ?_
  have hg : ∀ (k : Nat) x, [h.prev,h.batch,h.root,h.state][k]? = some x → [[D.int .i64 h.prev], [D.int .i64 h.batch], [D.int .i64 h.root], [D.int .i64 h.state]][k]? = some [D.int .i64 x] := fun k x hx => by
   have := zS (f := fun t => [D.int .i64 t]) hx
   simpa using this
  have hhd : zjb h = [zvL h.seq] ++ [h.prev,h.batch,h.root,h.state].map ziN := rfl
  have hl4 : [h.prev,h.batch,h.root,h.state].length = 4 := rfl
  have e0 : zhT (zcD Q) (zvL h.seq) = zcD (Q ++ [zvL h.seq]) := by rw [← zjN (zcD Q),zjO,zjN]
  obtain ⟨l,hlq⟩ : ∃ l, [h.prev,h.batch,h.root,h.state] = l := ⟨_,rfl⟩
  rw [hlq] at hg hhd hl4
  rw [e0]
  refine zr 4 (fun j vs s => vs = [.d (.int .i64 j)] ∧ ∃ T,s = σ.set id (zgv (zcD (Q ++ ([zvL h.seq] ++ (l.take j).map ziN)))) ++ zlZ p :: T) ⟨rfl,_,by simp; rfl⟩ ?_
  rintro j vs s hj ⟨rfl,T,rfl⟩
  by_cases hjl : j < 4
  ·have hd2 : decide ((j : Int) < ((4 : Nat) : Int)) = true := by simp; omega
   have hy : l[j]? = some (l[j]'(by omega)) := List.getElem?_eq_getElem _
   have hgy := hg j _ hy
   obtain ⟨y,hye⟩ : ∃ y,(l[j]'(by omega)) = y := ⟨_,rfl⟩
   rw [hye] at hy hgy
   have hmy := zdJ (f := ziN) hy
   refine zbA (zbe hd2 hgy) ?_
   refine zlo (hS _ _) ?_
   rw [hP]
   refine zbA (wkc j (by omega)) ?_
   refine zaG.next hjl ⟨rfl,T, ?_⟩
   rw [hmy,zkH]
   simp
  ·have hd2 : decide ((j : Int) < ((4 : Nat) : Int)) = false := by simp; omega
   rw [List.take_of_length_le (by omega), ← hhd, ← hnx]
   refine zbA (zbe hd2 (wkc k (by omega))) ?_
   exact zaG.next hlt ⟨rfl,_,rfl⟩
 ·have hd : decide ((k : Int) < (p.headers.length : Int)) = false := by simp; omega
  rw [List.take_of_length_le (by omega)]
  obtain ⟨Q,hQ⟩ : ∃ Q,zge p ++ (p.headers.map zjb).flatten = Q := ⟨_,rfl⟩
  have hfin : zgs p = zcD (Q ++ (zcU p ++ (zjS p ++ (p.path.map ziN ++ zhx p.cert)))) := by
   rw [zgs,ziV, ← List.append_assoc,hQ]
  rw [hQ]
  have hix := hp.index
  have hct := hp.count
  refine zbA (zbe hd hB) ?_
  refine zlo (hS _ _) ?_
  rw [hP]
  refine zbA hB ?_
  refine zko (hS _ _) ?_
  rw [hP]
  have e1 : zhT (zhT (zcD Q) (ziN p.index)) (inE p.count 0 16) = zcD (Q ++ zcU p) := by
   rw [← zjN (zcD Q),zjO,zjO,zjN]; simp [zcU]
  rw [e1]
  refine zbA hB ?_
  refine zti (hS _ _) ?_
  rw [hP]
  refine zbA (zbe hB hpl) ?_
  refine zko (hS _ _) ?_
  rw [hP]
  have e2 : zhT (zhT (zcD (Q ++ zcU p)) (inE p.index 0 (IntKind.i64.wrap (p.count - 1)))) (inE p.path.length 0 8) = zcD (Q ++ zcU p ++ zjS p) := by
   by_cases hz : zcD (Q ++ zcU p) = 0
   ·have hz2 : zcD (zcU p) = 0 := by
     rw [zia] at hz
     split at hz
     ·rename_i h; exact absurd hz h
     ·exact hz
    have hc0 : inE p.count 0 16 = 0 := by
     simp only [zcU,zcD] at hz2
     split at hz2
     ·rename_i h; exact absurd hz2 h
     ·split at hz2
      ·rename_i h; exact absurd hz2 h
      ·rename_i h; simpa using h
    have := inE_0 hc0
    rw [show IntKind.i64.wrap (p.count - 1) = p.count - 1 from zac (by omega) (by omega)]
    rw [← zjN (zcD (Q ++ zcU p)),zjO,zjO,zjN]; simp [zjS]
   ·rw [zsG hz]
    simp [zhT,hz]
  rw [e2]
  obtain ⟨R,hR⟩ : ∃ R,Q ++ zcU p ++ zjS p = R := ⟨_,rfl⟩
  rw [hR]
  have hfin2 : zgs p = zcD (R ++ (p.path.map ziN ++ zhx p.cert)) := by rw [hfin, ← hR]; simp
  have hpb := hp.path
  refine zbA (zbe hB hpl) ?_
  refine zr p.path.length (fun k vs s => vs = [.d (.int .i64 k)] ∧ ∃ T,s = σ.set id (zgv (zcD (R ++ (p.path.take k).map ziN))) ++ zlZ p :: T) ⟨rfl,_,by simp; rfl⟩ ?_
  rintro j vs s hj ⟨rfl,T,rfl⟩
  by_cases hjl : j < p.path.length
  ·have hd2 : decide ((j : Int) < (p.path.length : Int)) = true := by simp; omega
   have hy : p.path[j]? = some p.path[j] := by simp [hjl]
   have hgy := zS (f := fun t => [D.int .i64 t]) hy
   obtain ⟨y,hye⟩ : ∃ y,p.path[j] = y := ⟨_,rfl⟩
   rw [hye] at hy hgy
   have hmy := zdJ (f := ziN) hy
   refine zbA (zbe hd2 (zbe hgy hpl)) ?_
   refine zlo (hS _ _) ?_
   rw [hP]
   refine zbA (wkc j (by omega)) ?_
   refine zaG.next hjl ⟨rfl,T, ?_⟩
   rw [hmy,zkH]
   simp
  ·have hd2 : decide ((j : Int) < (p.path.length : Int)) = false := by simp; omega
   rw [List.take_of_length_le (by omega)]
   refine zbA (zbe hd2 hB) ?_
   refine c_askCert (c := p.cert) (hS _ _) hp.signs ?_
   rw [hP]
   have e3 : zhT (zcD (R ++ p.path.map ziN)) (zcD (zhx p.cert)) = zgs p := by
    rw [hfin2, ← List.append_assoc, ← zjN (zcD (R ++ p.path.map ziN)),zvz,zjN]
   rw [e3]
   refine ziv ?_
   exact zig (by simp [zcC,dmT,zbL]) hl (zgu _ _) hK
theorem zud {σ : List zh} {p : zcf} (hp : zgc p) {K : KT} (hK : K (.d (.int .i64 (zgs p))) σ) : zp Tryz.prog zeN [zhy p] σ K := by
 refine zeW znv fun hl => ?_
 simp only [zhS,iN,bT,bF,eN,zhy]
 refine ziv ?_
 refine c_askProof (p := p) (by rw [zt]; rfl) hp ?_
 rw [zN]
 refine ziv ?_
 refine zT hl ?_
 exact hK
end Go.Proofs.YtfgbofkdhfjegaaGreat
