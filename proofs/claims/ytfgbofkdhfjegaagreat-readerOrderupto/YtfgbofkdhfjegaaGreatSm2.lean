/- Contracts: parts of messages that are the same, the program's. -/
import Derived.Test.YtfgbofkdhfjegaaGreatBt3
import Derived.Test.YtfgbofkdhfjegaaGreatPt2
set_option linter.all false
set_option maxRecDepth 100000
namespace Go.Proofs.YtfgbofkdhfjegaaGreat
open Go.AW
theorem gq43 {A P Q : Prop} (a : A) (h : Q) (e : A → Hd Q → P := by intro a h; (repeat' first | simp -dsimp only [↓zeY, ↓zaC, ↓zbz, ↓zeZ, ↓zeU, ↓zeS, ↓zeV, ↓zeT, ↓zbE, ↓zbA, ↓zbF, ↓zbB, ↓zeW, ↓zby, ↓zbG, ↓zbC, ↓zbH, ↓zbD, ↓zeR, ↓zeX, ↓zbx, ↓zbJ, ↓zeP, ↓zeO, ↓zeQ,iN,bT,bF,eN, ↓zcF, ↓unC, ↓zW, ↓zK, ↓zL, ↓zN, ↓zad, ↓zax, ↓zcB, ↓zal, ↓zbj, ↓zQ, ↓zo, ↓zj, ↓zbr, ↓zg, ↓zai, ↓zH, ↓zaM, ↓zaV, ↓ze, ↓zD, ↓zw, ↓zB, ↓zao, ↓zdb, ↓zdx, ↓zaq, ↓zay, ↓zaU, ↓zbd, ↓zbl, ↓zu, ↓zan, ↓zM, ↓zE, ↓zaa,zdz,zbq,zbn,unA,zdy,bnd,zec,zaf,zS,zdY,dm,dm1,zC,zah,zen,zem,zP,Q0,Q1,Q2,Q3,Q4,Q5,zT,zx,zy,zO,zI,Q6,Q7,Q8,Q9,Q10,Q11,Q12,Q13,Q14,Nat.reduceAdd,Q15,Int.reduceToNat,Q16,Q17,Q18,Q19,Q20,reduceIte,Q21,Q22,zG,rep,zZ,zeF,toD,zaj,Q23,Q24,Q25,Q26,Q27,Q28,Nat.reduceLeDiff,Q29,Nat.reduceSub,Q30,Q31,Q32,sc,Q33,Q34,Q35,Q36,Q37,Q26,Q38,Q39,zii,zif,zic,zij,zcN,zig,zid,zih,zie,zcM,zcO,zim,zin,Bool.not_true,Bool.not_false,List.length_map,Bool.and_false,Bool.and_self,Bool.false_and,Bool.not_false,Bool.not_true,Bool.true_and,Int.toNat_natCast,Int.toNat_zero,List.drop_zero,List.length_map,List.length_nil,List.nil_append,List.take_length,Nat.sub_zero,Nat.zero_add,Option.isSome_none,Option.isSome_some,Option.map_none,Option.map_some,zaJ,beq_self_eq_true,bft,bne,bne_self_eq_false,btf,zcr,zoo,zer,zhk,hdrD,zdU,zjH,opA,znM,zhU,zkw,zch,a] | with_reducible refine zix ?_ | fail); exact h.go) : P := e a ⟨h⟩
theorem c_eqSign {σ : List zh} {a b : List zJ} (ha1 : a.length ≤ 1073741824) {K : KT} (hK : K (.d (.bool (decide (a = b)))) σ) :
  zr Tryz.prog zbk [.d (.slice (zaY a)), .d (.slice (zaY b))] σ K := by
 refine zfJ zgj fun hl => ?_
 have fin : ∀ z,decide (a = b) = z → K (.d (.bool z)) σ := fun z h => h ▸ hK
 clear hK
 simp only [zdm,iN,bT,bF,eN]
 cases hl0 : ((a.length : Int) != (b.length : Int))
 rotate_left
 ·refine zbK hl0 ?_
  refine zV hl ?_
  refine fin _ (decide_eq_false fun h => ?_)
  rw [h] at hl0; simp at hl0
 have hl2 : a.length = b.length := by simp at hl0; omega
 refine zbK hl0 ?_
 refine zt a.length (fun k vs s => vs = [.d (.int .i64 k)] ∧ (∃ T,s = σ ++ T) ∧ a.take k = b.take k) ⟨rfl,⟨[],by simp⟩,by simp⟩ ?_
 rintro k vs s hk ⟨rfl,⟨T,rfl⟩,htk⟩
 by_cases hlt : k < a.length
 ·have hd : decide ((k : Int) < (a.length : Int)) = true := by simp; omega
  have hx : a[k]? = some a[k] := by simp [hlt]
  have hy : b[k]? = some (b[k]'(by omega)) := List.getElem?_eq_getElem _
  have hgx := zR (f := zhU) hx
  have hgy := zR (f := zhU) hy
  obtain ⟨x,hxe⟩ : ∃ x,a[k] = x := ⟨_,rfl⟩
  obtain ⟨y,hye⟩ : ∃ y,(b[k]'(by omega)) = y := ⟨_,rfl⟩
  rw [hxe] at hx hgx
  rw [hye] at hy hgy
  obtain ⟨S,hS⟩ : ∃ S, σ ++ T = S := ⟨_,rfl⟩
  rw [hS]
  have hxy : x = y ↔ ((x.key == y.key && x.dig == y.dig)) = true := by cases x; cases y; simp
  cases h2 : ((x.key == y.key && x.dig == y.dig))
  ·refine gq43 (zbc hd (zbc hgx (zbc hgy h2))) ?_
   rw [← hS]
   refine zV hl ?_
   refine fin _ (decide_eq_false fun h => ?_)
   subst h
   rw [hx] at hy
   rw [hxy.1 (Option.some.inj hy)] at h2; cases h2
  ·refine gq43 (zbc hd (zbc hgx (zbc hgy (zbc h2 (wk1 k (by omega)))))) ?_
   exact zaF.next hlt ⟨rfl,⟨_,hS.symm⟩,zcY hx hy htk (hxy.2 h2)⟩
 ·have hd : decide ((k : Int) < (a.length : Int)) = false := by simp; omega
  refine zbK hd ?_
  refine zV hl ?_
  exact fin _ (decide_eq_true (zet hl2 (k := k) (by omega) htk))
theorem c_eqHdr {σ : List zh} {a b : List zcW} (ha1 : a.length ≤ 1073741824) {K : KT} (hK : K (.d (.bool (decide (a = b)))) σ) :
  zr Tryz.prog zbM [.d (.slice (zio a)), .d (.slice (zio b))] σ K := by
 refine zfJ zfh fun hl => ?_
 have fin : ∀ z,decide (a = b) = z → K (.d (.bool z)) σ := fun z h => h ▸ hK
 clear hK
 simp only [zcI,iN,bT,bF,eN]
 cases hl0 : ((a.length : Int) != (b.length : Int))
 rotate_left
 ·refine zbK hl0 ?_
  refine zV hl ?_
  refine fin _ (decide_eq_false fun h => ?_)
  rw [h] at hl0; simp at hl0
 have hl2 : a.length = b.length := by simp at hl0; omega
 refine zbK hl0 ?_
 refine zt a.length (fun k vs s => vs = [.d (.int .i64 k)] ∧ (∃ T,s = σ ++ T) ∧ a.take k = b.take k) ⟨rfl,⟨[],by simp⟩,by simp⟩ ?_
 rintro k vs s hk ⟨rfl,⟨T,rfl⟩,htk⟩
 by_cases hlt : k < a.length
 ·have hd : decide ((k : Int) < (a.length : Int)) = true := by simp; omega
  have hx : a[k]? = some a[k] := by simp [hlt]
  have hy : b[k]? = some (b[k]'(by omega)) := List.getElem?_eq_getElem _
  have hgx := zR (f := hdrD) hx
  have hgy := zR (f := hdrD) hy
  obtain ⟨x,hxe⟩ : ∃ x,a[k] = x := ⟨_,rfl⟩
  obtain ⟨y,hye⟩ : ∃ y,(b[k]'(by omega)) = y := ⟨_,rfl⟩
  rw [hxe] at hx hgx
  rw [hye] at hy hgy
  obtain ⟨S,hS⟩ : ∃ S, σ ++ T = S := ⟨_,rfl⟩
  rw [hS]
  have hxy : x = y ↔ ((x.seq == y.seq && (x.prev == y.prev && (x.batch == y.batch && (x.root == y.root && x.state == y.state))))) = true := by cases x; cases y; simp
  cases h2 : ((x.seq == y.seq && (x.prev == y.prev && (x.batch == y.batch && (x.root == y.root && x.state == y.state)))))
  ·refine gq43 (zbc hd (zbc hgx (zbc hgy h2))) ?_
   rw [← hS]
   refine zV hl ?_
   refine fin _ (decide_eq_false fun h => ?_)
   subst h
   rw [hx] at hy
   rw [hxy.1 (Option.some.inj hy)] at h2; cases h2
  ·refine gq43 (zbc hd (zbc hgx (zbc hgy (zbc h2 (wk1 k (by omega)))))) ?_
   exact zaF.next hlt ⟨rfl,⟨_,hS.symm⟩,zcY hx hy htk (hxy.2 h2)⟩
 ·have hd : decide ((k : Int) < (a.length : Int)) = false := by simp; omega
  refine zbK hd ?_
  refine zV hl ?_
  exact fin _ (decide_eq_true (zet hl2 (k := k) (by omega) htk))
theorem c_eqDig {σ : List zh} {a b : List Int} (ha1 : a.length ≤ 1073741824) {K : KT} (hK : K (.d (.bool (decide (a = b)))) σ) :
  zr Tryz.prog zbN [.d (.slice (zdB a)), .d (.slice (zdB b))] σ K := by
 refine zfJ zfi fun hl => ?_
 have fin : ∀ z,decide (a = b) = z → K (.d (.bool z)) σ := fun z h => h ▸ hK
 clear hK
 simp only [zcJ,iN,bT,bF,eN]
 cases hl0 : ((a.length : Int) != (b.length : Int))
 rotate_left
 ·refine zbK hl0 ?_
  refine zV hl ?_
  refine fin _ (decide_eq_false fun h => ?_)
  rw [h] at hl0; simp at hl0
 have hl2 : a.length = b.length := by simp at hl0; omega
 refine zbK hl0 ?_
 refine zt a.length (fun k vs s => vs = [.d (.int .i64 k)] ∧ (∃ T,s = σ ++ T) ∧ a.take k = b.take k) ⟨rfl,⟨[],by simp⟩,by simp⟩ ?_
 rintro k vs s hk ⟨rfl,⟨T,rfl⟩,htk⟩
 by_cases hlt : k < a.length
 ·have hd : decide ((k : Int) < (a.length : Int)) = true := by simp; omega
  have hx : a[k]? = some a[k] := by simp [hlt]
  have hy : b[k]? = some (b[k]'(by omega)) := List.getElem?_eq_getElem _
  have hgx := zR (f := fun t => [D.int .i64 t]) hx
  have hgy := zR (f := fun t => [D.int .i64 t]) hy
  obtain ⟨x,hxe⟩ : ∃ x,a[k] = x := ⟨_,rfl⟩
  obtain ⟨y,hye⟩ : ∃ y,(b[k]'(by omega)) = y := ⟨_,rfl⟩
  rw [hxe] at hx hgx
  rw [hye] at hy hgy
  obtain ⟨S,hS⟩ : ∃ S, σ ++ T = S := ⟨_,rfl⟩
  rw [hS]
  have hxy : x = y ↔ (x == y) = true := by simp
  cases h2 : (x == y)
  ·refine gq43 (zbc hd (zbc hgx (zbc hgy h2))) ?_
   rw [← hS]
   refine zV hl ?_
   refine fin _ (decide_eq_false fun h => ?_)
   subst h
   rw [hx] at hy
   rw [hxy.1 (Option.some.inj hy)] at h2; cases h2
  ·refine gq43 (zbc hd (zbc hgx (zbc hgy (zbc h2 (wk1 k (by omega)))))) ?_
   exact zaF.next hlt ⟨rfl,⟨_,hS.symm⟩,zcY hx hy htk (hxy.2 h2)⟩
 ·have hd : decide ((k : Int) < (a.length : Int)) = false := by simp; omega
  refine zbK hd ?_
  refine zV hl ?_
  exact fin _ (decide_eq_true (zet hl2 (k := k) (by omega) htk))
structure zrT (p : zow) : Prop where
 signs : p.signs.length ≤ 1073741824
 batch : zoD p.batch
structure zmD (c : zgg) : Prop where
 signs : c.cert.signs.length ≤ 1073741824
 above : c.above.length ≤ 1073741824
 each : ∀ p ∈ c.above,zrT p
def zrU (x : zmn) : Prop := zoD x.batch
abbrev entryA (x : zmn) : AV := .agg [.d (.int .i64 x.view), .d (.int .i64 x.seq), .d (.slice (zdf x.batch)), .d (.int .i64 x.key), .d (.int .i64 x.dig)]
theorem zor {σ : List zh} {a b : zfj} (ha : a.signs.length ≤ 1073741824) {K : KT} (hK : K (.d (.bool (decide (a = b)))) σ) : zr Tryz.prog zda [zoo a,zoo b] σ K := by
 refine zfJ zpd fun hl => ?_
 have fin : ∀ z,decide (a = b) = z → K (.d (.bool z)) σ := fun z h => h ▸ hK
 clear hK
 simp only [zjj,iN,bT,bF,eN]
 cases h1 : (a.seq == b.seq)
 ·refine zbK h1 ?_
  refine zV hl ?_
  exact fin _ (decide_eq_false fun h => by subst h; simp at h1)
 cases h2 : (a.dig == b.dig)
 ·refine zbK (zbc h1 h2) ?_
  refine zV hl ?_
  exact fin _ (decide_eq_false fun h => by subst h; simp at h2)
 refine zbK (zbc h1 h2) ?_
 refine c_eqSign ha ?_
 cases h3 : decide (a.signs = b.signs)
 ·refine ziq ?_
  refine zV hl ?_
  exact fin _ (decide_eq_false fun h => by subst h; simp at h3)
 ·refine ziq ?_
  refine zV hl ?_
  exact fin _ (decide_eq_true (by cases a; cases b; simp_all))
theorem c_mSamePrep {σ : List zh} {a b : zow} (ha : zrT a) (hb : zrT b) {K : KT} (hK : K (.d (.bool (decide (a = b)))) σ) :
  zr Tryz.prog zcT [.agg [.d (.int .i64 a.view), .d (.int .i64 a.seq), .d (.int .i64 a.dig), .d (.int .i64 a.fkey), .d (.int .i64 a.fdig), .d (.slice (zaY a.signs)), .d (.slice (zdf a.batch))], .agg [.d (.int .i64 b.view), .d (.int .i64 b.seq), .d (.int .i64 b.dig), .d (.int .i64 b.fkey), .d (.int .i64 b.fdig), .d (.slice (zaY b.signs)), .d (.slice (zdf b.batch))]] σ K := by
 refine zfJ zlF fun hl => ?_
 have fin : ∀ z,decide (a = b) = z → K (.d (.bool z)) σ := fun z h => h ▸ hK
 clear hK
 simp only [zgp,iN,bT,bF,eN]
 cases h1 : (a.view == b.view)
 ·refine zbK h1 ?_
  refine zV hl ?_
  exact fin _ (decide_eq_false fun h => by subst h; simp at h1)
 cases h2 : (a.seq == b.seq)
 ·refine zbK (zbc h1 h2) ?_
  refine zV hl ?_
  exact fin _ (decide_eq_false fun h => by subst h; simp at h2)
 cases h3 : (a.dig == b.dig)
 ·refine zbK (zbc h1 (zbc h2 h3)) ?_
  refine zV hl ?_
  exact fin _ (decide_eq_false fun h => by subst h; simp at h3)
 cases h4 : (a.fkey == b.fkey && a.fdig == b.fdig)
 ·refine zrm (zbc h1 (zbc h2 (zbc h3 h4))) ?_
  refine zV hl ?_
  exact fin _ (decide_eq_false fun h => by subst h; simp at h4)
 refine zrm (zbc h1 (zbc h2 (zbc h3 h4))) ?_
 refine c_eqSign ha.signs ?_
 cases h5 : decide (a.signs = b.signs)
 ·refine ziq ?_
  refine zV hl ?_
  exact fin _ (decide_eq_false fun h => by subst h; simp at h5)
 refine ziq ?_
 refine zsY ha.batch hb.batch ?_
 cases h6 : decide (a.batch = b.batch)
 ·refine ziq ?_
  refine zV hl ?_
  exact fin _ (decide_eq_false fun h => by subst h; simp at h6)
 ·refine ziq ?_
  refine zV hl ?_
  exact fin _ (decide_eq_true (by cases a; cases b; simp_all))
theorem c_eqPreps {σ : List zh} {a b : List zow} (ha1 : a.length ≤ 1073741824) (ha2 : ∀ x ∈ a,zrT x) (hb2 : ∀ x ∈ b,zrT x) {K : KT} (hK : K (.d (.bool (decide (a = b)))) σ) :
  zr Tryz.prog zae [.d (.slice (zuk a)), .d (.slice (zuk b)), .fn (.func zcT) [] []] σ K := by
 refine acE3 zbI fun hl => ?_
 have fin : ∀ z,decide (a = b) = z → K (.d (.bool z)) σ := fun z h => h ▸ hK
 clear hK
 simp only [zaD,iN,bT,bF,eN,zl3]
 cases hl0 : ((a.length : Int) != (b.length : Int))
 rotate_left
 ·refine zbK hl0 ?_
  refine zV hl ?_
  refine fin _ (decide_eq_false fun h => ?_)
  rw [h] at hl0; simp at hl0
 have hl2 : a.length = b.length := by simp at hl0; omega
 refine zbK hl0 ?_
 refine zt a.length (fun k vs s => vs = [.d (.int .i64 k)] ∧ (∃ T,s = σ ++ T) ∧ a.take k = b.take k) ⟨rfl,⟨[],by simp⟩,by simp⟩ ?_
 rintro k vs s hk ⟨rfl,⟨T,rfl⟩,htk⟩
 by_cases hlt : k < a.length
 ·have hd : decide ((k : Int) < (a.length : Int)) = true := by simp; omega
  have hx : a[k]? = some a[k] := by simp [hlt]
  have hy : b[k]? = some (b[k]'(by omega)) := List.getElem?_eq_getElem _
  have hgx := zR (f := znM) hx
  have hgy := zR (f := znM) hy
  have hxs := ha2 _ (List.getElem_mem hlt)
  have hys := hb2 _ (List.getElem_mem (show k < b.length by omega))
  obtain ⟨x,hxe⟩ : ∃ x,a[k] = x := ⟨_,rfl⟩
  obtain ⟨y,hye⟩ : ∃ y,(b[k]'(by omega)) = y := ⟨_,rfl⟩
  rw [hxe] at hx hgx hxs
  rw [hye] at hy hgy hys
  obtain ⟨S,hS⟩ : ∃ S, σ ++ T = S := ⟨_,rfl⟩
  rw [hS]
  refine zrm (zbc hd (zbc hgx hgy)) ?_
  refine c_mSamePrep (a := x) (b := y) hxs hys ?_
  cases he : decide (x = y)
  ·refine zbK hd ?_
   rw [← hS,List.append_assoc]
   refine zV hl ?_
   refine fin _ (decide_eq_false fun h => ?_)
   subst h
   rw [hx] at hy
   have := Option.some.inj hy
   simp [this] at he
  ·refine zbK (wk1 k (by omega)) ?_
   exact zaF.next hlt ⟨rfl,⟨_,by rw [← hS,List.append_assoc]⟩,zcY hx hy htk (by simpa using he)⟩
 ·have hd : decide ((k : Int) < (a.length : Int)) = false := by simp; omega
  refine zbK hd ?_
  refine zV hl ?_
  exact fin _ (decide_eq_true (zet hl2 (k := k) (by omega) htk))
theorem zwm {σ : List zh} {a b : zgg} (ha : zmD a) (hb : zmD b) {K : KT} (hK : K (.d (.bool (decide (a = b)))) σ) :
  zr Tryz.prog zdp [.agg [.d (.int .i64 a.view), .d (.int .i64 a.src), .d (.int .i64 a.cert.seq), .d (.int .i64 a.cert.dig), .d (.slice (zaY a.cert.signs)), .d (.slice (zuk a.above)), .d (.int .i64 a.key), .d (.int .i64 a.dig)], .agg [.d (.int .i64 b.view), .d (.int .i64 b.src), .d (.int .i64 b.cert.seq), .d (.int .i64 b.cert.dig), .d (.slice (zaY b.cert.signs)), .d (.slice (zuk b.above)), .d (.int .i64 b.key), .d (.int .i64 b.dig)]] σ K := by
 refine zfJ znc fun hl => ?_
 have fin : ∀ z,decide (a = b) = z → K (.d (.bool z)) σ := fun z h => h ▸ hK
 clear hK
 simp only [zhw,iN,bT,bF,eN]
 cases h1 : (a.view == b.view)
 ·refine zbK h1 ?_
  refine zV hl ?_
  exact fin _ (decide_eq_false fun h => by subst h; simp at h1)
 cases h2 : (a.src == b.src)
 ·refine zbK (zbc h1 h2) ?_
  refine zV hl ?_
  exact fin _ (decide_eq_false fun h => by subst h; simp at h2)
 refine zbK (zbc h1 h2) ?_
 refine zor (a := a.cert) (b := b.cert) ha.signs ?_
 cases h3 : decide (a.cert = b.cert)
 ·refine ziq ?_
  refine zV hl ?_
  exact fin _ (decide_eq_false fun h => by subst h; simp at h3)
 refine ziq ?_
 refine c_eqPreps ha.above ha.each hb.each ?_
 cases h4 : decide (a.above = b.above)
 ·refine ziq ?_
  refine zV hl ?_
  exact fin _ (decide_eq_false fun h => by subst h; simp at h4)
 cases h5 : (a.key == b.key && a.dig == b.dig)
 ·refine zrm h5 ?_
  refine zV hl ?_
  exact fin _ (decide_eq_false fun h => by subst h; simp at h5)
 ·refine zrm h5 ?_
  refine zV hl ?_
  exact fin _ (decide_eq_true (by cases a; cases b; simp_all))
theorem c_eqChanges {σ : List zh} {a b : List zgg} (ha1 : a.length ≤ 1073741824) (ha2 : ∀ x ∈ a,zmD x) (hb2 : ∀ x ∈ b,zmD x) {K : KT} (hK : K (.d (.bool (decide (a = b)))) σ) :
  zr Tryz.prog zas [.d (.slice (zkY a)), .d (.slice (zkY b)), .fn (.func zdp) [] []] σ K := by
 refine acE3 zcg fun hl => ?_
 have fin : ∀ z,decide (a = b) = z → K (.d (.bool z)) σ := fun z h => h ▸ hK
 clear hK
 simp only [zaO,iN,bT,bF,eN,zl9]
 cases hl0 : ((a.length : Int) != (b.length : Int))
 rotate_left
 ·refine zbK hl0 ?_
  refine zV hl ?_
  refine fin _ (decide_eq_false fun h => ?_)
  rw [h] at hl0; simp at hl0
 have hl2 : a.length = b.length := by simp at hl0; omega
 refine zbK hl0 ?_
 refine zt a.length (fun k vs s => vs = [.d (.int .i64 k)] ∧ (∃ T,s = σ ++ T) ∧ a.take k = b.take k) ⟨rfl,⟨[],by simp⟩,by simp⟩ ?_
 rintro k vs s hk ⟨rfl,⟨T,rfl⟩,htk⟩
 by_cases hlt : k < a.length
 ·have hd : decide ((k : Int) < (a.length : Int)) = true := by simp; omega
  have hx : a[k]? = some a[k] := by simp [hlt]
  have hy : b[k]? = some (b[k]'(by omega)) := List.getElem?_eq_getElem _
  have hgx := zR (f := zer) hx
  have hgy := zR (f := zer) hy
  have hxs := ha2 _ (List.getElem_mem hlt)
  have hys := hb2 _ (List.getElem_mem (show k < b.length by omega))
  obtain ⟨x,hxe⟩ : ∃ x,a[k] = x := ⟨_,rfl⟩
  obtain ⟨y,hye⟩ : ∃ y,(b[k]'(by omega)) = y := ⟨_,rfl⟩
  rw [hxe] at hx hgx hxs
  rw [hye] at hy hgy hys
  obtain ⟨S,hS⟩ : ∃ S, σ ++ T = S := ⟨_,rfl⟩
  rw [hS]
  refine zrm (zbc hd (zbc hgx hgy)) ?_
  refine zwm (a := x) (b := y) hxs hys ?_
  cases he : decide (x = y)
  ·refine zbK hd ?_
   rw [← hS,List.append_assoc]
   refine zV hl ?_
   refine fin _ (decide_eq_false fun h => ?_)
   subst h
   rw [hx] at hy
   have := Option.some.inj hy
   simp [this] at he
  ·refine zbK (wk1 k (by omega)) ?_
   exact zaF.next hlt ⟨rfl,⟨_,by rw [← hS,List.append_assoc]⟩,zcY hx hy htk (by simpa using he)⟩
 ·have hd : decide ((k : Int) < (a.length : Int)) = false := by simp; omega
  refine zbK hd ?_
  refine zV hl ?_
  exact fin _ (decide_eq_true (zet hl2 (k := k) (by omega) htk))
theorem c_mSameEntry {σ : List zh} {a b : zmn} (ha : zrU a) (hb : zrU b) {K : KT} (hK : K (.d (.bool (decide (a = b)))) σ) :
  zr Tryz.prog zdJ [entryA a,entryA b] σ K := by
 refine zfJ zog fun hl => ?_
 have fin : ∀ z,decide (a = b) = z → K (.d (.bool z)) σ := fun z h => h ▸ hK
 clear hK
 simp only [ziE,iN,bT,bF,eN]
 cases h1 : (a.view == b.view)
 ·refine zbK h1 ?_
  refine zV hl ?_
  exact fin _ (decide_eq_false fun h => by subst h; simp at h1)
 cases h2 : (a.seq == b.seq)
 ·refine zbK (zbc h1 h2) ?_
  refine zV hl ?_
  exact fin _ (decide_eq_false fun h => by subst h; simp at h2)
 refine zbK (zbc h1 h2) ?_
 refine zsY ha hb ?_
 cases h3 : decide (a.batch = b.batch)
 ·refine ziq ?_
  refine zV hl ?_
  exact fin _ (decide_eq_false fun h => by subst h; simp at h3)
 cases h5 : (a.key == b.key && a.dig == b.dig)
 ·refine zrm h5 ?_
  refine zV hl ?_
  exact fin _ (decide_eq_false fun h => by subst h; simp at h5)
 ·refine zrm h5 ?_
  refine zV hl ?_
  exact fin _ (decide_eq_true (by cases a; cases b; simp_all))
theorem c_eqEntries {σ : List zh} {a b : List zmn} (ha1 : a.length ≤ 1073741824) (ha2 : ∀ x ∈ a,zrU x) (hb2 : ∀ x ∈ b,zrU x) {K : KT} (hK : K (.d (.bool (decide (a = b)))) σ) :
  zr Tryz.prog zav [.d (.slice (zkT a)), .d (.slice (zkT b)), .fn (.func zdJ) [] []] σ K := by
 refine acE3 zcm fun hl => ?_
 have fin : ∀ z,decide (a = b) = z → K (.d (.bool z)) σ := fun z h => h ▸ hK
 clear hK
 simp only [zaW,iN,bT,bF,eN]
 cases hl0 : ((a.length : Int) != (b.length : Int))
 rotate_left
 ·refine zbK hl0 ?_
  refine zV hl ?_
  refine fin _ (decide_eq_false fun h => ?_)
  rw [h] at hl0; simp at hl0
 have hl2 : a.length = b.length := by simp at hl0; omega
 refine zbK hl0 ?_
 refine zt a.length (fun k vs s => vs = [.d (.int .i64 k)] ∧ (∃ T,s = σ ++ T) ∧ a.take k = b.take k) ⟨rfl,⟨[],by simp⟩,by simp⟩ ?_
 rintro k vs s hk ⟨rfl,⟨T,rfl⟩,htk⟩
 by_cases hlt : k < a.length
 ·have hd : decide ((k : Int) < (a.length : Int)) = true := by simp; omega
  have hx : a[k]? = some a[k] := by simp [hlt]
  have hy : b[k]? = some (b[k]'(by omega)) := List.getElem?_eq_getElem _
  have hgx := zR (f := zhk) hx
  have hgy := zR (f := zhk) hy
  have hxs := ha2 _ (List.getElem_mem hlt)
  have hys := hb2 _ (List.getElem_mem (show k < b.length by omega))
  obtain ⟨x,hxe⟩ : ∃ x,a[k] = x := ⟨_,rfl⟩
  obtain ⟨y,hye⟩ : ∃ y,(b[k]'(by omega)) = y := ⟨_,rfl⟩
  rw [hxe] at hx hgx hxs
  rw [hye] at hy hgy hys
  obtain ⟨S,hS⟩ : ∃ S, σ ++ T = S := ⟨_,rfl⟩
  rw [hS]
  refine zrm (zbc hd (zbc hgx hgy)) ?_
  refine c_mSameEntry (a := x) (b := y) hxs hys ?_
  cases he : decide (x = y)
  ·refine zbK hd ?_
   rw [← hS,List.append_assoc]
   refine zV hl ?_
   refine fin _ (decide_eq_false fun h => ?_)
   subst h
   rw [hx] at hy
   have := Option.some.inj hy
   simp [this] at he
  ·refine zbK (wk1 k (by omega)) ?_
   exact zaF.next hlt ⟨rfl,⟨_,by rw [← hS,List.append_assoc]⟩,zcY hx hy htk (by simpa using he)⟩
 ·have hd : decide ((k : Int) < (a.length : Int)) = false := by simp; omega
  refine zbK hd ?_
  refine zV hl ?_
  exact fin _ (decide_eq_true (zet hl2 (k := k) (by omega) htk))
end Go.Proofs.YtfgbofkdhfjegaaGreat
