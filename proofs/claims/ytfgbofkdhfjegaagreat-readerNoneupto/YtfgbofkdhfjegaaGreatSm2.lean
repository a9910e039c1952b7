/- Contracts: parts of messages that are the same, the program's. -/
import Derived.Test.YtfgbofkdhfjegaaGreatBt3
import Derived.Test.YtfgbofkdhfjegaaGreatPt2
set_option linter.all false
set_option maxRecDepth 100000
namespace Go.Proofs.YtfgbofkdhfjegaaGreat
open Go.AW
theorem gq43 {A P Q : Prop} (a : A) (h : Q) (e : A → Hd Q → P := by intro a h; (repeat' first | simp -dsimp only [↓zfT, ↓zaI, ↓zbP, ↓zfV, ↓zfN, ↓zfL, ↓zfO, ↓zfM, ↓zbU, ↓zbQ, ↓zbV, ↓zbR, ↓zfP, ↓zbN, ↓zbW, ↓zbS, ↓zbX, ↓zbT, ↓zfK, ↓zfQ, ↓zbM, ↓zbY, ↓zfF, ↓zfE, ↓zfH,iN,bT,bF,eN, ↓zcJ, ↓unC, ↓zaa, ↓zK, ↓zL, ↓zO, ↓zaf, ↓zaz, ↓zcK, ↓zar, ↓zbk, ↓zR, ↓zo, ↓zj, ↓zbz, ↓zg, ↓zam, ↓zH, ↓zaV, ↓zbc, ↓ze, ↓zB, ↓zu, ↓zC, ↓zap, ↓zdk, ↓zdO, ↓zav, ↓zaF, ↓zaZ, ↓zbj, ↓zbt, ↓zA, ↓zas, ↓zM, ↓zF, ↓zae,zdP,zbI,zbC,unA,zdL,bnd,zeq,zag,zQ,zek,dm,dm1,zD,zak,zeP,zeO,zP,Q0,Q1,Q2,Q3,Q4,Q5,zW,zt,zy,zN,zJ,Q6,Q7,Q8,Q9,Q10,Q11,Q12,Q13,Q14,Nat.reduceAdd,Q15,Int.reduceToNat,Q16,Q17,Q18,Q19,Q20,reduceIte,Q21,Q22,zG,rep,zab,zfq,toD,zaq,Q23,Q24,Q25,Q26,Q27,Q28,Nat.reduceLeDiff,Q29,Nat.reduceSub,Q30,Q31,Q32,sc,Q33,Q34,Q35,Q36,Q37,Q26,Q38,Q39,zjD,zjA,zjx,zjE,zdf,zjB,zjy,zjC,zjz,zde,zdg,zjG,zjH,Bool.not_true,Bool.not_false,List.length_map,Bool.and_false,Bool.and_self,Bool.false_and,Bool.not_false,Bool.not_true,Bool.true_and,Int.toNat_natCast,Int.toNat_zero,List.drop_zero,List.length_map,List.length_nil,List.nil_append,List.take_length,Nat.sub_zero,Nat.zero_add,Option.isSome_none,Option.isSome_some,Option.map_none,Option.map_some,zaH,beq_self_eq_true,bft,bne,bne_self_eq_false,btf,zcv,zox,zeu,zhB,hdrD,zdT,zjU,opA,znX,zil,zkJ,zcl,a] | with_reducible refine zjK ?_ | fail); exact h.go) : P := e a ⟨h⟩
theorem c_eqSign {σ : List zh} {a b : List zI} (ha1 : a.length ≤ 1073741824) {K : KT} (hK : K (.d (.bool (decide (a = b)))) σ) :
  zp Tryz.prog zbl [.d (.slice (zbd a)), .d (.slice (zbd b))] σ K := by
 refine zfY zgA fun hl => ?_
 have fin : ∀ z,decide (a = b) = z → K (.d (.bool z)) σ := fun z h => h ▸ hK
 clear hK
 simp only [zdj,iN,bT,bF,eN]
 cases hl0 : ((a.length : Int) != (b.length : Int))
 rotate_left
 ·refine zbA hl0 ?_
  refine zT hl ?_
  refine fin _ (decide_eq_false fun h => ?_)
  rw [h] at hl0; simp at hl0
 have hl2 : a.length = b.length := by simp at hl0; omega
 refine zbA hl0 ?_
 refine zr a.length (fun k vs s => vs = [.d (.int .i64 k)] ∧ (∃ T,s = σ ++ T) ∧ a.take k = b.take k) ⟨rfl,⟨[],by simp⟩,by simp⟩ ?_
 rintro k vs s hk ⟨rfl,⟨T,rfl⟩,htk⟩
 by_cases hlt : k < a.length
 ·have hd : decide ((k : Int) < (a.length : Int)) = true := by simp; omega
  have hx : a[k]? = some a[k] := by simp [hlt]
  have hy : b[k]? = some (b[k]'(by omega)) := List.getElem?_eq_getElem _
  have hgx := zS (f := zil) hx
  have hgy := zS (f := zil) hy
  obtain ⟨x,hxe⟩ : ∃ x,a[k] = x := ⟨_,rfl⟩
  obtain ⟨y,hye⟩ : ∃ y,(b[k]'(by omega)) = y := ⟨_,rfl⟩
  rw [hxe] at hx hgx
  rw [hye] at hy hgy
  obtain ⟨S,hS⟩ : ∃ S, σ ++ T = S := ⟨_,rfl⟩
  rw [hS]
  have hxy : x = y ↔ ((x.key == y.key && x.dig == y.dig)) = true := by cases x; cases y; simp
  cases h2 : ((x.key == y.key && x.dig == y.dig))
  ·refine gq43 (zbe hd (zbe hgx (zbe hgy h2))) ?_
   rw [← hS]
   refine zT hl ?_
   refine fin _ (decide_eq_false fun h => ?_)
   subst h
   rw [hx] at hy
   rw [hxy.1 (Option.some.inj hy)] at h2; cases h2
  ·refine gq43 (zbe hd (zbe hgx (zbe hgy (zbe h2 (wk1 k (by omega)))))) ?_
   exact zaG.next hlt ⟨rfl,⟨_,hS.symm⟩,zdx hx hy htk (hxy.2 h2)⟩
 ·have hd : decide ((k : Int) < (a.length : Int)) = false := by simp; omega
  refine zbA hd ?_
  refine zT hl ?_
  exact fin _ (decide_eq_true (zfG hl2 (k := k) (by omega) htk))
theorem c_eqHdr {σ : List zh} {a b : List zcS} (ha1 : a.length ≤ 1073741824) {K : KT} (hK : K (.d (.bool (decide (a = b)))) σ) :
  zp Tryz.prog zbE [.d (.slice (ziO a)), .d (.slice (ziO b))] σ K := by
 refine zfY zfd fun hl => ?_
 have fin : ∀ z,decide (a = b) = z → K (.d (.bool z)) σ := fun z h => h ▸ hK
 clear hK
 simp only [zcH,iN,bT,bF,eN]
 cases hl0 : ((a.length : Int) != (b.length : Int))
 rotate_left
 ·refine zbA hl0 ?_
  refine zT hl ?_
  refine fin _ (decide_eq_false fun h => ?_)
  rw [h] at hl0; simp at hl0
 have hl2 : a.length = b.length := by simp at hl0; omega
 refine zbA hl0 ?_
 refine zr a.length (fun k vs s => vs = [.d (.int .i64 k)] ∧ (∃ T,s = σ ++ T) ∧ a.take k = b.take k) ⟨rfl,⟨[],by simp⟩,by simp⟩ ?_
 rintro k vs s hk ⟨rfl,⟨T,rfl⟩,htk⟩
 by_cases hlt : k < a.length
 ·have hd : decide ((k : Int) < (a.length : Int)) = true := by simp; omega
  have hx : a[k]? = some a[k] := by simp [hlt]
  have hy : b[k]? = some (b[k]'(by omega)) := List.getElem?_eq_getElem _
  have hgx := zS (f := hdrD) hx
  have hgy := zS (f := hdrD) hy
  obtain ⟨x,hxe⟩ : ∃ x,a[k] = x := ⟨_,rfl⟩
  obtain ⟨y,hye⟩ : ∃ y,(b[k]'(by omega)) = y := ⟨_,rfl⟩
  rw [hxe] at hx hgx
  rw [hye] at hy hgy
  obtain ⟨S,hS⟩ : ∃ S, σ ++ T = S := ⟨_,rfl⟩
  rw [hS]
  have hxy : x = y ↔ ((x.seq == y.seq && (x.prev == y.prev && (x.batch == y.batch && (x.root == y.root && x.state == y.state))))) = true := by cases x; cases y; simp
  cases h2 : ((x.seq == y.seq && (x.prev == y.prev && (x.batch == y.batch && (x.root == y.root && x.state == y.state)))))
  ·refine gq43 (zbe hd (zbe hgx (zbe hgy h2))) ?_
   rw [← hS]
   refine zT hl ?_
   refine fin _ (decide_eq_false fun h => ?_)
   subst h
   rw [hx] at hy
   rw [hxy.1 (Option.some.inj hy)] at h2; cases h2
  ·refine gq43 (zbe hd (zbe hgx (zbe hgy (zbe h2 (wk1 k (by omega)))))) ?_
   exact zaG.next hlt ⟨rfl,⟨_,hS.symm⟩,zdx hx hy htk (hxy.2 h2)⟩
 ·have hd : decide ((k : Int) < (a.length : Int)) = false := by simp; omega
  refine zbA hd ?_
  refine zT hl ?_
  exact fin _ (decide_eq_true (zfG hl2 (k := k) (by omega) htk))
theorem c_eqDig {σ : List zh} {a b : List Int} (ha1 : a.length ≤ 1073741824) {K : KT} (hK : K (.d (.bool (decide (a = b)))) σ) :
  zp Tryz.prog zbF [.d (.slice (zdK a)), .d (.slice (zdK b))] σ K := by
 refine zfY zfe fun hl => ?_
 have fin : ∀ z,decide (a = b) = z → K (.d (.bool z)) σ := fun z h => h ▸ hK
 clear hK
 simp only [zcI,iN,bT,bF,eN]
 cases hl0 : ((a.length : Int) != (b.length : Int))
 rotate_left
 ·refine zbA hl0 ?_
  refine zT hl ?_
  refine fin _ (decide_eq_false fun h => ?_)
  rw [h] at hl0; simp at hl0
 have hl2 : a.length = b.length := by simp at hl0; omega
 refine zbA hl0 ?_
 refine zr a.length (fun k vs s => vs = [.d (.int .i64 k)] ∧ (∃ T,s = σ ++ T) ∧ a.take k = b.take k) ⟨rfl,⟨[],by simp⟩,by simp⟩ ?_
 rintro k vs s hk ⟨rfl,⟨T,rfl⟩,htk⟩
 by_cases hlt : k < a.length
 ·have hd : decide ((k : Int) < (a.length : Int)) = true := by simp; omega
  have hx : a[k]? = some a[k] := by simp [hlt]
  have hy : b[k]? = some (b[k]'(by omega)) := List.getElem?_eq_getElem _
  have hgx := zS (f := fun t => [D.int .i64 t]) hx
  have hgy := zS (f := fun t => [D.int .i64 t]) hy
  obtain ⟨x,hxe⟩ : ∃ x,a[k] = x := ⟨_,rfl⟩
  obtain ⟨y,hye⟩ : ∃ y,(b[k]'(by omega)) = y := ⟨_,rfl⟩
  rw [hxe] at hx hgx
  rw [hye] at hy hgy
  obtain ⟨S,hS⟩ : ∃ S, σ ++ T = S := ⟨_,rfl⟩
  rw [hS]
  have hxy : x = y ↔ (x == y) = true := by simp
  cases h2 : (x == y)
  ·refine gq43 (zbe hd (zbe hgx (zbe hgy h2))) ?_
   rw [← hS]
   refine zT hl ?_
   refine fin _ (decide_eq_false fun h => ?_)
   subst h
   rw [hx] at hy
   rw [hxy.1 (Option.some.inj hy)] at h2; cases h2
  ·refine gq43 (zbe hd (zbe hgx (zbe hgy (zbe h2 (wk1 k (by omega)))))) ?_
   exact zaG.next hlt ⟨rfl,⟨_,hS.symm⟩,zdx hx hy htk (hxy.2 h2)⟩
 ·have hd : decide ((k : Int) < (a.length : Int)) = false := by simp; omega
  refine zbA hd ?_
  refine zT hl ?_
  exact fin _ (decide_eq_true (zfG hl2 (k := k) (by omega) htk))
structure zsc (p : zoG) : Prop where
 signs : p.signs.length ≤ 1073741824
 batch : zoO p.batch
structure zmR (c : zgw) : Prop where
 signs : c.cert.signs.length ≤ 1073741824
 above : c.above.length ≤ 1073741824
 each : ∀ p ∈ c.above,zsc p
def zsd (x : zmA) : Prop := zoO x.batch
abbrev entryA (x : zmA) : AV := .agg [.d (.int .i64 x.view), .d (.int .i64 x.seq), .d (.slice (zdi x.batch)), .d (.int .i64 x.key), .d (.int .i64 x.dig)]
theorem zoA {σ : List zh} {a b : zff} (ha : a.signs.length ≤ 1073741824) {K : KT} (hK : K (.d (.bool (decide (a = b)))) σ) : zp Tryz.prog zcV [zox a,zox b] σ K := by
 refine zfY zpn fun hl => ?_
 have fin : ∀ z,decide (a = b) = z → K (.d (.bool z)) σ := fun z h => h ▸ hK
 clear hK
 simp only [zjn,iN,bT,bF,eN]
 cases h1 : (a.seq == b.seq)
 ·refine zbA h1 ?_
  refine zT hl ?_
  exact fin _ (decide_eq_false fun h => by subst h; simp at h1)
 cases h2 : (a.dig == b.dig)
 ·refine zbA (zbe h1 h2) ?_
  refine zT hl ?_
  exact fin _ (decide_eq_false fun h => by subst h; simp at h2)
 refine zbA (zbe h1 h2) ?_
 refine c_eqSign ha ?_
 cases h3 : decide (a.signs = b.signs)
 ·refine ziv ?_
  refine zT hl ?_
  exact fin _ (decide_eq_false fun h => by subst h; simp at h3)
 ·refine ziv ?_
  refine zT hl ?_
  exact fin _ (decide_eq_true (by cases a; cases b; simp_all))
theorem c_mSamePrep {σ : List zh} {a b : zoG} (ha : zsc a) (hb : zsc b) {K : KT} (hK : K (.d (.bool (decide (a = b)))) σ) :
  zp Tryz.prog zcP [.agg [.d (.int .i64 a.view), .d (.int .i64 a.seq), .d (.int .i64 a.dig), .d (.int .i64 a.fkey), .d (.int .i64 a.fdig), .d (.slice (zbd a.signs)), .d (.slice (zdi a.batch))], .agg [.d (.int .i64 b.view), .d (.int .i64 b.seq), .d (.int .i64 b.dig), .d (.int .i64 b.fkey), .d (.int .i64 b.fdig), .d (.slice (zbd b.signs)), .d (.slice (zdi b.batch))]] σ K := by
 refine zfY zlQ fun hl => ?_
 have fin : ∀ z,decide (a = b) = z → K (.d (.bool z)) σ := fun z h => h ▸ hK
 clear hK
 simp only [zgH,iN,bT,bF,eN]
 cases h1 : (a.view == b.view)
 ·refine zbA h1 ?_
  refine zT hl ?_
  exact fin _ (decide_eq_false fun h => by subst h; simp at h1)
 cases h2 : (a.seq == b.seq)
 ·refine zbA (zbe h1 h2) ?_
  refine zT hl ?_
  exact fin _ (decide_eq_false fun h => by subst h; simp at h2)
 cases h3 : (a.dig == b.dig)
 ·refine zbA (zbe h1 (zbe h2 h3)) ?_
  refine zT hl ?_
  exact fin _ (decide_eq_false fun h => by subst h; simp at h3)
 cases h4 : (a.fkey == b.fkey && a.fdig == b.fdig)
 ·refine zru (zbe h1 (zbe h2 (zbe h3 h4))) ?_
  refine zT hl ?_
  exact fin _ (decide_eq_false fun h => by subst h; simp at h4)
 refine zru (zbe h1 (zbe h2 (zbe h3 h4))) ?_
 refine c_eqSign ha.signs ?_
 cases h5 : decide (a.signs = b.signs)
 ·refine ziv ?_
  refine zT hl ?_
  exact fin _ (decide_eq_false fun h => by subst h; simp at h5)
 refine ziv ?_
 refine zte ha.batch hb.batch ?_
 cases h6 : decide (a.batch = b.batch)
 ·refine ziv ?_
  refine zT hl ?_
  exact fin _ (decide_eq_false fun h => by subst h; simp at h6)
 ·refine ziv ?_
  refine zT hl ?_
  exact fin _ (decide_eq_true (by cases a; cases b; simp_all))
theorem c_eqPreps {σ : List zh} {a b : List zoG} (ha1 : a.length ≤ 1073741824) (ha2 : ∀ x ∈ a,zsc x) (hb2 : ∀ x ∈ b,zsc x) {K : KT} (hK : K (.d (.bool (decide (a = b)))) σ) :
  zp Tryz.prog zZ [.d (.slice (zur a)), .d (.slice (zur b)), .fn (.func zcP) [] []] σ K := by
 refine acE3 zby fun hl => ?_
 have fin : ∀ z,decide (a = b) = z → K (.d (.bool z)) σ := fun z h => h ▸ hK
 clear hK
 simp only [zaC,iN,bT,bF,eN,zl3]
 cases hl0 : ((a.length : Int) != (b.length : Int))
 rotate_left
 ·refine zbA hl0 ?_
  refine zT hl ?_
  refine fin _ (decide_eq_false fun h => ?_)
  rw [h] at hl0; simp at hl0
 have hl2 : a.length = b.length := by simp at hl0; omega
 refine zbA hl0 ?_
 refine zr a.length (fun k vs s => vs = [.d (.int .i64 k)] ∧ (∃ T,s = σ ++ T) ∧ a.take k = b.take k) ⟨rfl,⟨[],by simp⟩,by simp⟩ ?_
 rintro k vs s hk ⟨rfl,⟨T,rfl⟩,htk⟩
 by_cases hlt : k < a.length
 ·have hd : decide ((k : Int) < (a.length : Int)) = true := by simp; omega
  have hx : a[k]? = some a[k] := by simp [hlt]
  have hy : b[k]? = some (b[k]'(by omega)) := List.getElem?_eq_getElem _
  have hgx := zS (f := znX) hx
  have hgy := zS (f := znX) hy
  have hxs := ha2 _ (List.getElem_mem hlt)
  have hys := hb2 _ (List.getElem_mem (show k < b.length by omega))
  obtain ⟨x,hxe⟩ : ∃ x,a[k] = x := ⟨_,rfl⟩
  obtain ⟨y,hye⟩ : ∃ y,(b[k]'(by omega)) = y := ⟨_,rfl⟩
  rw [hxe] at hx hgx hxs
  rw [hye] at hy hgy hys
  obtain ⟨S,hS⟩ : ∃ S, σ ++ T = S := ⟨_,rfl⟩
  rw [hS]
  refine zru (zbe hd (zbe hgx hgy)) ?_
  refine c_mSamePrep (a := x) (b := y) hxs hys ?_
  cases he : decide (x = y)
  ·refine zbA hd ?_
   rw [← hS,List.append_assoc]
   refine zT hl ?_
   refine fin _ (decide_eq_false fun h => ?_)
   subst h
   rw [hx] at hy
   have := Option.some.inj hy
   simp [this] at he
  ·refine zbA (wk1 k (by omega)) ?_
   exact zaG.next hlt ⟨rfl,⟨_,by rw [← hS,List.append_assoc]⟩,zdx hx hy htk (by simpa using he)⟩
 ·have hd : decide ((k : Int) < (a.length : Int)) = false := by simp; omega
  refine zbA hd ?_
  refine zT hl ?_
  exact fin _ (decide_eq_true (zfG hl2 (k := k) (by omega) htk))
theorem zwv {σ : List zh} {a b : zgw} (ha : zmR a) (hb : zmR b) {K : KT} (hK : K (.d (.bool (decide (a = b)))) σ) :
  zp Tryz.prog zdm [.agg [.d (.int .i64 a.view), .d (.int .i64 a.src), .d (.int .i64 a.cert.seq), .d (.int .i64 a.cert.dig), .d (.slice (zbd a.cert.signs)), .d (.slice (zur a.above)), .d (.int .i64 a.key), .d (.int .i64 a.dig)], .agg [.d (.int .i64 b.view), .d (.int .i64 b.src), .d (.int .i64 b.cert.seq), .d (.int .i64 b.cert.dig), .d (.slice (zbd b.cert.signs)), .d (.slice (zur b.above)), .d (.int .i64 b.key), .d (.int .i64 b.dig)]] σ K := by
 refine zfY znq fun hl => ?_
 have fin : ∀ z,decide (a = b) = z → K (.d (.bool z)) σ := fun z h => h ▸ hK
 clear hK
 simp only [zhN,iN,bT,bF,eN]
 cases h1 : (a.view == b.view)
 ·refine zbA h1 ?_
  refine zT hl ?_
  exact fin _ (decide_eq_false fun h => by subst h; simp at h1)
 cases h2 : (a.src == b.src)
 ·refine zbA (zbe h1 h2) ?_
  refine zT hl ?_
  exact fin _ (decide_eq_false fun h => by subst h; simp at h2)
 refine zbA (zbe h1 h2) ?_
 refine zoA (a := a.cert) (b := b.cert) ha.signs ?_
 cases h3 : decide (a.cert = b.cert)
 ·refine ziv ?_
  refine zT hl ?_
  exact fin _ (decide_eq_false fun h => by subst h; simp at h3)
 refine ziv ?_
 refine c_eqPreps ha.above ha.each hb.each ?_
 cases h4 : decide (a.above = b.above)
 ·refine ziv ?_
  refine zT hl ?_
  exact fin _ (decide_eq_false fun h => by subst h; simp at h4)
 cases h5 : (a.key == b.key && a.dig == b.dig)
 ·refine zru h5 ?_
  refine zT hl ?_
  exact fin _ (decide_eq_false fun h => by subst h; simp at h5)
 ·refine zru h5 ?_
  refine zT hl ?_
  exact fin _ (decide_eq_true (by cases a; cases b; simp_all))
theorem c_eqChanges {σ : List zh} {a b : List zgw} (ha1 : a.length ≤ 1073741824) (ha2 : ∀ x ∈ a,zmR x) (hb2 : ∀ x ∈ b,zmR x) {K : KT} (hK : K (.d (.bool (decide (a = b)))) σ) :
  zp Tryz.prog zao [.d (.slice (zng a)), .d (.slice (zng b)), .fn (.func zdm) [] []] σ K := by
 refine acE3 zck fun hl => ?_
 have fin : ∀ z,decide (a = b) = z → K (.d (.bool z)) σ := fun z h => h ▸ hK
 clear hK
 simp only [zaR,iN,bT,bF,eN,zl9]
 cases hl0 : ((a.length : Int) != (b.length : Int))
 rotate_left
 ·refine zbA hl0 ?_
  refine zT hl ?_
  refine fin _ (decide_eq_false fun h => ?_)
  rw [h] at hl0; simp at hl0
 have hl2 : a.length = b.length := by simp at hl0; omega
 refine zbA hl0 ?_
 refine zr a.length (fun k vs s => vs = [.d (.int .i64 k)] ∧ (∃ T,s = σ ++ T) ∧ a.take k = b.take k) ⟨rfl,⟨[],by simp⟩,by simp⟩ ?_
 rintro k vs s hk ⟨rfl,⟨T,rfl⟩,htk⟩
 by_cases hlt : k < a.length
 ·have hd : decide ((k : Int) < (a.length : Int)) = true := by simp; omega
  have hx : a[k]? = some a[k] := by simp [hlt]
  have hy : b[k]? = some (b[k]'(by omega)) := List.getElem?_eq_getElem _
  have hgx := zS (f := zeu) hx
  have hgy := zS (f := zeu) hy
  have hxs := ha2 _ (List.getElem_mem hlt)
  have hys := hb2 _ (List.getElem_mem (show k < b.length by omega))
  obtain ⟨x,hxe⟩ : ∃ x,a[k] = x := ⟨_,rfl⟩
  obtain ⟨y,hye⟩ : ∃ y,(b[k]'(by omega)) = y := ⟨_,rfl⟩
  rw [hxe] at hx hgx hxs
  rw [hye] at hy hgy hys
  obtain ⟨S,hS⟩ : ∃ S, σ ++ T = S := ⟨_,rfl⟩
  rw [hS]
  refine zru (zbe hd (zbe hgx hgy)) ?_
  refine zwv (a := x) (b := y) hxs hys ?_
  cases he : decide (x = y)
  ·refine zbA hd ?_
   rw [← hS,List.append_assoc]
   refine zT hl ?_
   refine fin _ (decide_eq_false fun h => ?_)
   subst h
   rw [hx] at hy
   have := Option.some.inj hy
   simp [this] at he
  ·refine zbA (wk1 k (by omega)) ?_
   exact zaG.next hlt ⟨rfl,⟨_,by rw [← hS,List.append_assoc]⟩,zdx hx hy htk (by simpa using he)⟩
 ·have hd : decide ((k : Int) < (a.length : Int)) = false := by simp; omega
  refine zbA hd ?_
  refine zT hl ?_
  exact fin _ (decide_eq_true (zfG hl2 (k := k) (by omega) htk))
theorem c_mSameEntry {σ : List zh} {a b : zmA} (ha : zsd a) (hb : zsd b) {K : KT} (hK : K (.d (.bool (decide (a = b)))) σ) :
  zp Tryz.prog zdG [entryA a,entryA b] σ K := by
 refine zfY zoq fun hl => ?_
 have fin : ∀ z,decide (a = b) = z → K (.d (.bool z)) σ := fun z h => h ▸ hK
 clear hK
 simp only [ziH,iN,bT,bF,eN]
 cases h1 : (a.view == b.view)
 ·refine zbA h1 ?_
  refine zT hl ?_
  exact fin _ (decide_eq_false fun h => by subst h; simp at h1)
 cases h2 : (a.seq == b.seq)
 ·refine zbA (zbe h1 h2) ?_
  refine zT hl ?_
  exact fin _ (decide_eq_false fun h => by subst h; simp at h2)
 refine zbA (zbe h1 h2) ?_
 refine zte ha hb ?_
 cases h3 : decide (a.batch = b.batch)
 ·refine ziv ?_
  refine zT hl ?_
  exact fin _ (decide_eq_false fun h => by subst h; simp at h3)
 cases h5 : (a.key == b.key && a.dig == b.dig)
 ·refine zru h5 ?_
  refine zT hl ?_
  exact fin _ (decide_eq_false fun h => by subst h; simp at h5)
 ·refine zru h5 ?_
  refine zT hl ?_
  exact fin _ (decide_eq_true (by cases a; cases b; simp_all))
theorem c_eqEntries {σ : List zh} {a b : List zmA} (ha1 : a.length ≤ 1073741824) (ha2 : ∀ x ∈ a,zsd x) (hb2 : ∀ x ∈ b,zsd x) {K : KT} (hK : K (.d (.bool (decide (a = b)))) σ) :
  zp Tryz.prog zax [.d (.slice (znc a)), .d (.slice (znc b)), .fn (.func zdG) [] []] σ K := by
 refine acE3 zcq fun hl => ?_
 have fin : ∀ z,decide (a = b) = z → K (.d (.bool z)) σ := fun z h => h ▸ hK
 clear hK
 simp only [zaX,iN,bT,bF,eN]
 cases hl0 : ((a.length : Int) != (b.length : Int))
 rotate_left
 ·refine zbA hl0 ?_
  refine zT hl ?_
  refine fin _ (decide_eq_false fun h => ?_)
  rw [h] at hl0; simp at hl0
 have hl2 : a.length = b.length := by simp at hl0; omega
 refine zbA hl0 ?_
 refine zr a.length (fun k vs s => vs = [.d (.int .i64 k)] ∧ (∃ T,s = σ ++ T) ∧ a.take k = b.take k) ⟨rfl,⟨[],by simp⟩,by simp⟩ ?_
 rintro k vs s hk ⟨rfl,⟨T,rfl⟩,htk⟩
 by_cases hlt : k < a.length
 ·have hd : decide ((k : Int) < (a.length : Int)) = true := by simp; omega
  have hx : a[k]? = some a[k] := by simp [hlt]
  have hy : b[k]? = some (b[k]'(by omega)) := List.getElem?_eq_getElem _
  have hgx := zS (f := zhB) hx
  have hgy := zS (f := zhB) hy
  have hxs := ha2 _ (List.getElem_mem hlt)
  have hys := hb2 _ (List.getElem_mem (show k < b.length by omega))
  obtain ⟨x,hxe⟩ : ∃ x,a[k] = x := ⟨_,rfl⟩
  obtain ⟨y,hye⟩ : ∃ y,(b[k]'(by omega)) = y := ⟨_,rfl⟩
  rw [hxe] at hx hgx hxs
  rw [hye] at hy hgy hys
  obtain ⟨S,hS⟩ : ∃ S, σ ++ T = S := ⟨_,rfl⟩
  rw [hS]
  refine zru (zbe hd (zbe hgx hgy)) ?_
  refine c_mSameEntry (a := x) (b := y) hxs hys ?_
  cases he : decide (x = y)
  ·refine zbA hd ?_
   rw [← hS,List.append_assoc]
   refine zT hl ?_
   refine fin _ (decide_eq_false fun h => ?_)
   subst h
   rw [hx] at hy
   have := Option.some.inj hy
   simp [this] at he
  ·refine zbA (wk1 k (by omega)) ?_
   exact zaG.next hlt ⟨rfl,⟨_,by rw [← hS,List.append_assoc]⟩,zdx hx hy htk (by simpa using he)⟩
 ·have hd : decide ((k : Int) < (a.length : Int)) = false := by simp; omega
  refine zbA hd ?_
  refine zT hl ?_
  exact fin _ (decide_eq_true (zfG hl2 (k := k) (by omega) htk))
end Go.Proofs.YtfgbofkdhfjegaaGreat
