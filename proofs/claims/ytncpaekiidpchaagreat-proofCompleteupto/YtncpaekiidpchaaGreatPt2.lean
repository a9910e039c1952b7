/- Contracts: whether a checkpoint's certificate is valid, on both sides. -/
import Derived.Test.YtncpaekiidpchaaGreatPp1
import Derived.Test.YtncpaekiidpchaaGreatCk1
set_option linter.all false
set_option maxRecDepth 100000
namespace Go.Proofs.YtncpaekiidpchaaGreat
open Go.AW
theorem c_ptValid1 {σ : List zg} {a b c0 id m t id2 m2 t2 : Nat} {L : List (List UInt8)} {G : List zJ} {c : zfH} {s : zJ} (ha : σ[a]? = some (.box [.box id 0])) (hb : σ[b]? = some (.box [.box id2 0])) (hc : σ[c0]? = some (certO c)) (hT : zcl σ id m t L) (hG : zdV σ id2 m2 t2 G) (hL : zkk L) (hg : G.length ≤ 1073741824)
  {K : KT} (hK : K (.d (.bool (!zpe L G s s.key 6 0 c.seq c.dig))) σ) : zD Tryz.prog zeU [.agg [.d (.int .i64 s.key), .d (.int .i64 s.dig)], .box a 0, .box b 0, .box c0 0] σ K := by
 refine zj zkN.is rfl fun hl _ => zkN.goes ?_
 have sa : ∀ τ,(σ ++ τ)[a]? = _ := fun τ => zf ha
 have sb : ∀ τ,(σ ++ τ)[b]? = _ := fun τ => zf hb
 have sc : ∀ τ,(σ ++ τ)[c0]? = some (.box [.d (.int .i64 c.seq), .d (.int .i64 c.dig), .d (.slice (zaz c.signs))]) := fun τ => zf hc
 simp only [zle,iN,bT,bF,eN]
 (repeat' first | refine gq2 (zd sa sb) ?_ | with_reducible first | exact ⟨⟩ | refine zh ?_ | fail)
 refine zuu (s := s) (hT.app _) (hG.app _) hL hg ?_
 (repeat' first | refine gq1 ?_ | with_reducible first | exact ⟨⟩ | refine zh ?_ | fail)
 (first | refine zaq hl ?_ | refine zap hl ?_)
 exact hK
theorem c_idxSign {σ : List zg} {b : List zJ} {f : FuncId} {cap : List AV} {p : zJ → Bool} (hb : b.length ≤ 1073741824) (hf : ∀ x ∈ b, ∀ K : AV → List zg → Prop,K (.d (.bool (p x))) σ → zD Tryz.prog f (.agg [.d (.int .i64 x.key), .d (.int .i64 x.dig)] :: cap) σ K)
  {K : KT} (hK : ∀ r : Int,decide (r ≥ 0) = b.any p → K (.d (.int .i64 r)) σ) : zD Tryz.prog zbb [.d (.slice (zaz b)), .fn (.func f) [] cap] σ K := by
 refine zj zcc.is rfl fun hl _ => zcc.goes ?_
 simp only [zcd,iN,bT,bF,eN]
 (repeat' first | refine gq1 ?_ | with_reducible first | exact ⟨⟩ | refine zh ?_ | fail)
 refine zG b.length (fun k vs s => vs = [.d (.int .i64 k)] ∧ s = σ ∧ (b.take k).any p = false) ⟨rfl,rfl,by simp⟩ ?_
 rintro k vs s hk ⟨rfl,rfl,hno⟩
 by_cases hlt : k < b.length
 ·have hd : decide ((k : Int) < (b.length : Int)) = true := by simp; omega
  have hx : b[k]? = some b[k] := by simp [hlt]
  have hfx := hf _ (List.getElem_mem hlt)
  have hgx := zae (f := zid) hx
  obtain ⟨x,hxe⟩ : ∃ x,b[k] = x := ⟨_,rfl⟩
  rw [hxe] at hx hgx hfx
  (repeat' first | refine gq33 (zd hd hgx) ?_ | with_reducible first | exact ⟨⟩ | refine zh ?_ | fail)
  refine hfx _ ?_
  cases h1 : p x
  ·(repeat' first | refine gq2 (wkc k (by omega)) ?_ | with_reducible first | exact ⟨⟩ | refine zh ?_ | fail)
   refine zav.next hlt ⟨rfl,rfl, ?_⟩
   rw [List.take_add_one,hx]
   simp [hno,h1]
  ·(repeat' first | refine gq1 ?_ | with_reducible first | exact ⟨⟩ | refine zh ?_ | fail)
   (first | refine zaq hl ?_ | refine zap hl ?_)
   have : b.any p = true := List.any_eq_true.2 ⟨x,List.mem_of_getElem? hx,h1⟩
   exact hK _ (by rw [this]; simp)
 ·have hd : decide ((k : Int) < (b.length : Int)) = false := by simp; omega
  (repeat' first | refine gq2 hd ?_ | with_reducible first | exact ⟨⟩ | refine zh ?_ | fail)
  (first | refine zaq hl ?_ | refine zap hl ?_)
  rw [List.take_of_length_le (by omega)] at hno
  exact hK _ (by rw [hno]; rfl)
theorem c_hasSign {σ : List zg} {b : List zJ} {f : FuncId} {cap : List AV} {p : zJ → Bool} (hb : b.length ≤ 1073741824) (hf : ∀ x ∈ b, ∀ K : AV → List zg → Prop,K (.d (.bool (p x))) σ → zD Tryz.prog f (.agg [.d (.int .i64 x.key), .d (.int .i64 x.dig)] :: cap) σ K)
  {K : KT} (hK : K (.d (.bool (b.any p))) σ) : zD Tryz.prog zaA [.d (.slice (zaz b)), .fn (.func f) [] cap] σ K := by
 refine zj zbM.is rfl fun hl _ => zbM.goes ?_
 simp only [zbN,iN,bT,bF,eN]
 (repeat' first | refine gq1 ?_ | with_reducible first | exact ⟨⟩ | refine zh ?_ | fail)
 refine c_idxSign hb hf fun r hr => ?_
 (repeat' first | refine gq2 hr ?_ | with_reducible first | exact ⟨⟩ | refine zh ?_ | fail)
 (first | refine zaq hl ?_ | refine zap hl ?_)
 exact hK
theorem not_any (l : List zJ) (p : zJ → Bool) : (!l.any fun s => !p s) = l.all p := by
 induction l with
 | nil => rfl
 | cons x l ih => simp only [List.any_cons,List.all_cons,Bool.not_or,Bool.not_not,ih]
theorem c_ptValid {σ : List zg} {id m t id2 m2 t2 : Nat} {L : List (List UInt8)} {G : List zJ} {f : Int} {c : zfH} (hT : zcl σ id m t L) (hG : zdV σ id2 m2 t2 G) (hL : zkk L) (hg : G.length ≤ 1073741824) (hl0 : c.signs.length ≤ 1073741824)
  {K : KT} (hK : K (.d (.bool (zro L G f c))) σ) : zD Tryz.prog zjs [.box id 0, .box id2 0, .d (.int .i64 f),certA c] σ K := by
 refine zj znx.is rfl fun hl _ => znx.goes ?_
 have fin : ∀ z,zro L G f c = z → K (.d (.bool z)) σ := fun z h => h ▸ hK
 clear hK
 simp only [znV,iN,bT,bF,eN,certA]
 (repeat' first | refine gq1 ?_ | with_reducible first | exact ⟨⟩ | refine zh ?_ | fail)
 refine c_ptNew (fun h0 => ?_) (fun h0 => ?_)
 ·have h0' : (zcP f != 0) = true := by simpa using h0
  (repeat' first | refine gq2 h0' ?_ | with_reducible first | exact ⟨⟩ | refine zh ?_ | fail)
  (first | refine zaq hl ?_ | refine zap hl ?_)
  exact fin _ (by rw [zro,decide_eq_false h0]; rfl)
 (repeat' first | refine gq2 (show ((0 : Int) != 0) = false from rfl) ?_ | with_reducible first | exact ⟨⟩ | refine zh ?_ | fail)
 obtain ⟨S,hS⟩ : ∃ S, σ ++ [zg.box [.box id 0], .box [.box id2 0],certO c, .map [], .box [.d (.int .i64 f), .d (.int .i64 0), .d (.int .i64 0), .exact [], .map (σ.length + 3), .exact []]] = S := ⟨_,rfl⟩
 have g0 : ∀ τ,(S ++ τ)[σ.length]? = some (.box [.box id 0]) := fun τ => zf (by rw [← hS,zy]; rfl)
 have g1 : ∀ τ,(S ++ τ)[σ.length + 1]? = some (.box [.box id2 0]) := fun τ => zf (by rw [← hS,zr]; rfl)
 have g2 : ∀ τ,(S ++ τ)[σ.length + 2]? = some (certO c) := fun τ => zf (by rw [← hS,zr]; rfl)
 have g4 : S[σ.length + 4]? = some (.box (.d (.int .i64 f) :: [.d (.int .i64 0), .d (.int .i64 0), .exact [], .map (σ.length + 3), .exact []])) := by rw [← hS,zr]; rfl
 have g00 := g0 []; have g10 := g1 []; have g20 := g2 []
 rw [List.append_nil] at g00 g10 g20
 have tT : zcl S id m t L := hS ▸ hT.app _
 have tG : zdV S id2 m2 t2 G := hS ▸ hG.app _
 have hpre : ∃ T,S = σ ++ T := ⟨_,hS.symm⟩
 rw [hS]
 refine c_ptMayCert g4 hl0 ?_
 cases h1 : zgt f c
 ·(repeat' first | refine gq1 ?_ | with_reducible first | exact ⟨⟩ | refine zh ?_ | fail)
  obtain ⟨T,rfl⟩ := hpre
  (first | refine zaq hl ?_ | refine zap hl ?_)
  exact fin _ (by rw [zro,h1]; simp)
 have hcf : zro L G f c = c.signs.all fun s => zpe L G s s.key 6 0 c.seq c.dig := by rw [zro,h1,decide_eq_true h0]; rfl
 have tail : ∀ τ,zD Tryz.prog zaA [.d (.slice (zaz c.signs)), .fn (.func zeU) [] [.box σ.length 0, .box (σ.length + 1) 0, .box (σ.length + 2) 0]] (S ++ τ) fun K1 s => unC .not K1 s fun L1 s => z1 (AW.Ends σ.length K) L1 s := fun τ => by
  refine c_hasSign (p := fun s => !zpe L G s s.key 6 0 c.seq c.dig) hl0 (fun x _ K hK => c_ptValid1 (g0 _) (g1 _) (g2 _) (tT.app _) (tG.app _) hL hg hK) ?_
  rw [hcf, ← not_any] at fin
  (repeat' first | refine gq1 ?_ | with_reducible first | exact ⟨⟩ | refine zh ?_ | fail)
  obtain ⟨T,rfl⟩ := hpre
  rw [List.append_assoc]
  (first | refine zaq hl ?_ | refine zap hl ?_)
  exact fin _ rfl
 have tail0 := tail []
 rw [List.append_nil] at tail0
 (repeat' first | refine gq2 (zd g00 (zd g10 g20)) ?_ | with_reducible first | exact ⟨⟩ | refine zh ?_ | fail)
 refine c_tLen tT ?_
 cases h2 : ((L.length : Int) == 0)
 ·(repeat' first | refine gq2 (zd h2 (zd g00 (zd g10 g20))) ?_ | with_reducible first | exact ⟨⟩ | refine zh ?_ | fail)
  refine c_gLen tG ?_
  cases h3 : ((G.length : Int) == 0)
  ·(repeat' first | refine gq2 (zd h2 (zd h3 (zd g00 (zd g10 g20)))) ?_ | with_reducible first | exact ⟨⟩ | refine zh ?_ | fail)
   exact tail0
  ·(repeat' first | refine gq2 (zd h2 (zd h3 (zd g00 (zd g10 g20)))) ?_ | with_reducible first | exact ⟨⟩ | refine zh ?_ | fail)
   refine zqg tG hg fun g' => ?_
   (repeat' first | refine gq2 g2 ?_ | with_reducible first | exact ⟨⟩ | refine zh ?_ | fail)
   exact tail _
 ·(repeat' first | refine gq2 (zd h2 (zd g00 (zd g10 g20))) ?_ | with_reducible first | exact ⟨⟩ | refine zh ?_ | fail)
  refine zlA tT hL.nd hL.len hL.each ?_
  (repeat' first | refine gq2 g1 ?_ | with_reducible first | exact ⟨⟩ | refine zh ?_ | fail)
  refine c_gLen (tG.app _) ?_
  cases h3 : ((G.length : Int) == 0)
  ·(repeat' first | refine gq2 (zd h2 (zd h3 (zd g1 g2))) ?_ | with_reducible first | exact ⟨⟩ | refine zh ?_ | fail)
   exact tail _
  ·(repeat' first | refine gq2 (zd h2 (zd h3 (zd g1 g2))) ?_ | with_reducible first | exact ⟨⟩ | refine zh ?_ | fail)
   refine zqg (tG.app _) hg fun g' => ?_
   (repeat' first | refine gq2 g2 ?_ | with_reducible first | exact ⟨⟩ | refine zh ?_ | fail)
   exact tail _
end Go.Proofs.YtncpaekiidpchaaGreat

/- Contracts: whether a proof may be, the program's. -/
set_option maxRecDepth 100000
namespace Go.Proofs.YtncpaekiidpchaaGreat
open Go.AW
structure zfg (p : zaU) : Prop where
 topic : p.topic.length ≤ 16777216
 rec_ : p.rec_.length ≤ 16777216
 headers : p.headers.length ≤ 1073741824
 path : p.path.length ≤ 1073741824
 signs : p.cert.signs.length ≤ 1073741824
 off : zmP p.offset
 index : zmP p.index
 count : zmP p.count
 paths : ∀ x ∈ p.path,zmP x
abbrev zsp (p : zaU) : zg := .box [.d (.str p.topic), .d (.int .i64 p.offset), .d (.slice (bcs p.rec_)), .d (.slice (zeM p.headers)), .d (.int .i64 p.index), .d (.int .i64 p.count), .d (.slice (zbO p.path)), .d (.int .i64 p.cert.seq), .d (.int .i64 p.cert.dig), .d (.slice (zaz p.cert.signs))]
theorem thnE_app (e : Int) (a b : List Int) : zgy (zgy e (zeG a)) (zeG b) = zgy e (zeG (a ++ b)) := by
 rw [zjB]
 unfold zgy
 by_cases h : e = 0
 ·by_cases h2 : zeG a = 0
  ·simp [h,h2]
  ·simp [h,h2]
 ·simp [h]
theorem ziq (e : Int) (a : List Int) (x : Int) : zgy (zgy e (zeG a)) x = zgy e (zeG (a ++ [x])) := by
 have : x = zeG [x] := by simp only [zeG]; split <;> simp_all
 conv => lhs; rw [this]
 exact thnE_app e a [x]
theorem zkm (x : Int) : zgy 0 x = x := by simp [zgy]
theorem thn_snoc (l : List Int) (x : Int) : zgy (zeG l) x = zeG (l ++ [x]) := by rw [← zkm (zeG l),ziq,zkm]
theorem c_askProof {σ : List zg} {id : Nat} {p : zaU} (hσ : σ[id]? = some (zlF 0)) (hp : zfg p) {K : KT} (hK : K (.tup []) (σ.set id (zlF (zex p)))) :
  zD Tryz.prog zdC [.box id 0,zgQ p] σ K := by
 refine zj zfE.is rfl fun hl _ => zfE.goes ?_
 have hid := zF hσ
 have hrl := zeJ p.rec_
 have hhl : (zeM p.headers).length = p.headers.length := List.length_map ..
 have hpl : (zbO p.path).length = p.path.length := List.length_map ..
 have hB : ∀ X τ,(σ.set id X ++ zsp p :: τ)[σ.length]? = some (zsp p) := fun X τ => by
  rw [List.getElem?_append_right (by simp)]; simp
 have hS : ∀ E τ,(σ.set id (zlF E) ++ τ)[id]? = some (zlF E) := fun E τ => zf (zbz hσ)
 have hP : ∀ E Y τ,(σ.set id (zlF E) ++ τ).set id Y = σ.set id Y ++ τ := fun E Y τ => by rw [zbI (zbz hσ),List.set_set]
 simp only [zfJ,iN,bT,bF,eN,zgQ]
 (repeat' first | refine zsF ?_ | with_reducible first | exact ⟨⟩ | refine zh ?_ | fail)
 refine c_askName (zf hσ) (by have := hp.topic; omega) ?_
 rw [zbI hσ]
 (repeat' first | refine zfU hB ?_ | with_reducible first | exact ⟨⟩ | refine zh ?_ | fail)
 refine zlC (hS _ _) ?_
 rw [hP]
 (repeat' first | refine zfU (zdv hB hrl) ?_ | with_reducible first | exact ⟨⟩ | refine zh ?_ | fail)
 refine zkT (hS _ _) ?_
 rw [hP]
 (repeat' first | refine zfU (zdv hB hhl) ?_ | with_reducible first | exact ⟨⟩ | refine zh ?_ | fail)
 refine zkT (hS _ _) ?_
 rw [hP]
 rw [show zgy (zgy (zgy (zgy 0 (nameE p.topic)) (zof p.offset)) (inE p.rec_.length 0 64)) (inE p.headers.length 0 64) = zeG (zfz p) by
  rw [zkm]
  simp only [zfz,zeG,zgy]
  by_cases h1 : nameE p.topic = 0
  ·by_cases h2 : zof p.offset = 0
   ·by_cases h3 : inE p.rec_.length 0 64 = 0
    ·by_cases h4 : inE p.headers.length 0 64 = 0 <;> simp [h1,h2,h3,h4]
    ·simp [h1,h2,h3]
   ·simp [h1,h2]
  ·simp [h1]]
 (repeat' first | refine zfU (zdv hB hhl) ?_ | with_reducible first | exact ⟨⟩ | refine zh ?_ | fail)
 refine zG p.headers.length (fun k vs s => vs = [.d (.int .i64 k)] ∧ ∃ T,s = σ.set id (zlF (zeG (zfz p ++ ((p.headers.take k).map zkE).flatten))) ++ zsp p :: T) ⟨rfl, [],by simp⟩ ?_
 rintro k vs s hk ⟨rfl,T,rfl⟩
 by_cases hlt : k < p.headers.length
 ·have hd : decide ((k : Int) < (p.headers.length : Int)) = true := by simp; omega
  have hx : p.headers[k]? = some p.headers[k] := by simp [hlt]
  have hgx := zae (f := hdrD) hx
  obtain ⟨h,hhe⟩ : ∃ h,p.headers[k] = h := ⟨_,rfl⟩
  rw [hhe] at hx hgx
  have hph := hp.headers
  have hmn : ((p.headers.take (k + 1)).map zkE).flatten = ((p.headers.take k).map zkE).flatten ++ zkE h := by
   rw [zgu hx]; simp
  obtain ⟨Q,hQ⟩ : ∃ Q,zfz p ++ ((p.headers.take k).map zkE).flatten = Q := ⟨_,rfl⟩
  have hnx : zfz p ++ ((p.headers.take (k + 1)).map zkE).flatten = Q ++ zkE h := by rw [hmn, ← hQ,List.append_assoc]
  rw [hQ]
  have hlX : ∀ X,(σ.set id X).length = σ.length := fun X => List.length_set
  have hhb : ∀ X Y,(σ.set id X ++ zsp p :: (T ++ [Y]))[σ.length + (T.length + 1)]? = some Y := fun X Y => by
   rw [← hlX X,zr,List.getElem?_cons_succ,zy]; rfl
  (repeat' first | refine zfU (zdv hd (zdv hgx hhl)) ?_ | with_reducible first | exact ⟨⟩ | refine zh ?_ | fail)
  refine c_askPos (hS _ _) ?_
  rw [hP]
  (repeat' first | refine zfU (zdv hlX hhb) ?_ | with_reducible first | exact ⟨⟩ | refine zh ?_ | fail)
  have hg : ∀ (k : Nat) x, [h.prev,h.batch,h.root,h.state][k]? = some x → [[D.int .i64 h.prev], [D.int .i64 h.batch], [D.int .i64 h.root], [D.int .i64 h.state]][k]? = some [D.int .i64 x] := fun k x hx => by
   have := zae (f := fun t => [D.int .i64 t]) hx
   simpa using this
  have hhd : zkE h = [posE h.seq] ++ [h.prev,h.batch,h.root,h.state].map zof := rfl
  have hl4 : [h.prev,h.batch,h.root,h.state].length = 4 := rfl
  have e0 : zgy (zeG Q) (posE h.seq) = zeG (Q ++ [posE h.seq]) := by rw [← zkm (zeG Q),ziq,zkm]
  obtain ⟨l,hlq⟩ : ∃ l, [h.prev,h.batch,h.root,h.state] = l := ⟨_,rfl⟩
  rw [hlq] at hg hhd hl4
  rw [e0]
  refine zG 4 (fun j vs s => vs = [.d (.int .i64 j)] ∧ ∃ T,s = σ.set id (zlF (zeG (Q ++ ([posE h.seq] ++ (l.take j).map zof)))) ++ zsp p :: T) ⟨rfl,_,by simp; rfl⟩ ?_
  rintro j vs s hj ⟨rfl,T,rfl⟩
  by_cases hjl : j < 4
  ·have hd2 : decide ((j : Int) < ((4 : Nat) : Int)) = true := by simp; omega
   have hy : l[j]? = some (l[j]'(by omega)) := List.getElem?_eq_getElem _
   have hgy := hg j _ hy
   obtain ⟨y,hye⟩ : ∃ y,(l[j]'(by omega)) = y := ⟨_,rfl⟩
   rw [hye] at hy hgy
   have hmy := zgu (f := zof) hy
   (repeat' first | refine zfU (zdv hd2 hgy) ?_ | with_reducible first | exact ⟨⟩ | refine zh ?_ | fail)
   refine zlC (hS _ _) ?_
   rw [hP]
   (repeat' first | refine zfU (wkc j (by omega)) ?_ | with_reducible first | exact ⟨⟩ | refine zh ?_ | fail)
   refine zav.next hjl ⟨rfl,T, ?_⟩
   rw [hmy,thn_snoc]
   simp
  ·have hd2 : decide ((j : Int) < ((4 : Nat) : Int)) = false := by simp; omega
   rw [List.take_of_length_le (by omega), ← hhd, ← hnx]
   (repeat' first | refine zfU (zdv hd2 (wkc k (by omega))) ?_ | with_reducible first | exact ⟨⟩ | refine zh ?_ | fail)
   exact zav.next hlt ⟨rfl,_,rfl⟩
 ·have hd : decide ((k : Int) < (p.headers.length : Int)) = false := by simp; omega
  rw [List.take_of_length_le (by omega)]
  obtain ⟨Q,hQ⟩ : ∃ Q,zfz p ++ (p.headers.map zkE).flatten = Q := ⟨_,rfl⟩
  have hfin : zex p = zeG (Q ++ (zct p ++ (ziu p ++ (p.path.map zof ++ zkR p.cert)))) := by
   rw [zex,zqc, ← List.append_assoc,hQ]
  rw [hQ]
  have hix := hp.index
  have hct := hp.count
  (repeat' first | refine zfU (zdv hd hB) ?_ | with_reducible first | exact ⟨⟩ | refine zh ?_ | fail)
  refine zlC (hS _ _) ?_
  rw [hP]
  (repeat' first | refine zfU hB ?_ | with_reducible first | exact ⟨⟩ | refine zh ?_ | fail)
  refine zkT (hS _ _) ?_
  rw [hP]
  have e1 : zgy (zgy (zeG Q) (zof p.index)) (inE p.count 0 16) = zeG (Q ++ zct p) := by
   rw [← zkm (zeG Q),ziq,ziq,zkm]; simp [zct]
  rw [e1]
  (repeat' first | refine zfU hB ?_ | with_reducible first | exact ⟨⟩ | refine zh ?_ | fail)
  refine zuv (hS _ _) ?_
  rw [hP]
  (repeat' first | refine zfU (zdv hB hpl) ?_ | with_reducible first | exact ⟨⟩ | refine zh ?_ | fail)
  refine zkT (hS _ _) ?_
  rw [hP]
  have e2 : zgy (zgy (zeG (Q ++ zct p)) (inE p.index 0 (IntKind.i64.wrap (p.count - 1)))) (inE p.path.length 0 8) = zeG (Q ++ zct p ++ ziu p) := by
   by_cases hz : zeG (Q ++ zct p) = 0
   ·have hz2 : zeG (zct p) = 0 := by
     rw [zjB] at hz
     split at hz
     ·rename_i h; exact absurd hz h
     ·exact hz
    have hc0 : inE p.count 0 16 = 0 := by
     simp only [zct,zeG] at hz2
     split at hz2
     ·rename_i h; exact absurd hz2 h
     ·split at hz2
      ·rename_i h; exact absurd hz2 h
      ·rename_i h; simpa using h
    have := inE_0 hc0
    rw [show IntKind.i64.wrap (p.count - 1) = p.count - 1 from zX (by omega) (by omega)]
    rw [← zkm (zeG (Q ++ zct p)),ziq,ziq,zkm]; simp [ziu]
   ·rw [fstE_appN hz]
    simp [zgy,hz]
  rw [e2]
  obtain ⟨R,hR⟩ : ∃ R,Q ++ zct p ++ ziu p = R := ⟨_,rfl⟩
  rw [hR]
  have hfin2 : zex p = zeG (R ++ (p.path.map zof ++ zkR p.cert)) := by rw [hfin, ← hR]; simp
  have hpb := hp.path
  (repeat' first | refine zfU (zdv hB hpl) ?_ | with_reducible first | exact ⟨⟩ | refine zh ?_ | fail)
  refine zG p.path.length (fun k vs s => vs = [.d (.int .i64 k)] ∧ ∃ T,s = σ.set id (zlF (zeG (R ++ (p.path.take k).map zof))) ++ zsp p :: T) ⟨rfl,_,by simp; rfl⟩ ?_
  rintro j vs s hj ⟨rfl,T,rfl⟩
  by_cases hjl : j < p.path.length
  ·have hd2 : decide ((j : Int) < (p.path.length : Int)) = true := by simp; omega
   have hy : p.path[j]? = some p.path[j] := by simp [hjl]
   have hgy := zae (f := fun t => [D.int .i64 t]) hy
   obtain ⟨y,hye⟩ : ∃ y,p.path[j] = y := ⟨_,rfl⟩
   rw [hye] at hy hgy
   have hmy := zgu (f := zof) hy
   (repeat' first | refine zfU (zdv hd2 (zdv hgy hpl)) ?_ | with_reducible first | exact ⟨⟩ | refine zh ?_ | fail)
   refine zlC (hS _ _) ?_
   rw [hP]
   (repeat' first | refine zfU (wkc j (by omega)) ?_ | with_reducible first | exact ⟨⟩ | refine zh ?_ | fail)
   refine zav.next hjl ⟨rfl,T, ?_⟩
   rw [hmy,thn_snoc]
   simp
  ·have hd2 : decide ((j : Int) < (p.path.length : Int)) = false := by simp; omega
   rw [List.take_of_length_le (by omega)]
   (repeat' first | refine zfU (zdv hd2 hB) ?_ | with_reducible first | exact ⟨⟩ | refine zh ?_ | fail)
   refine c_askCert (c := p.cert) (hS _ _) hp.signs ?_
   rw [hP]
   have e3 : zgy (zeG (R ++ p.path.map zof)) (zeG (zkR p.cert)) = zex p := by
    rw [hfin2, ← List.append_assoc, ← zkm (zeG (R ++ p.path.map zof)),thnE_app,zkm]
   rw [e3]
   (repeat' first | refine zsF ?_ | with_reducible first | exact ⟨⟩ | refine zh ?_ | fail)
   exact ziH (by simp [zca,dmT,zbv]) hl (zgv _ _) hK
theorem zsd {σ : List zg} {p : zaU} (hp : zfg p) {K : KT} (hK : K (.d (.int .i64 (zex p))) σ) : zD Tryz.prog zdT [zgQ p] σ K := by
 refine zj zgc.is rfl fun hl _ => zgc.goes ?_
 simp only [zgl,iN,bT,bF,eN,zgQ]
 (repeat' first | refine zsF ?_ | with_reducible first | exact ⟨⟩ | refine zh ?_ | fail)
 refine c_askProof (p := p) (by rw [zr]; rfl) hp ?_
 rw [zO]
 (repeat' first | refine zsF ?_ | with_reducible first | exact ⟨⟩ | refine zh ?_ | fail)
 (first | refine zaq hl ?_ | refine zap hl ?_)
 exact hK
end Go.Proofs.YtncpaekiidpchaaGreat
