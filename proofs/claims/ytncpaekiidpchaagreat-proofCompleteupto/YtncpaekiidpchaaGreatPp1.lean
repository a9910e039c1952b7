/- Certificates: whether they are valid. No program in sight. -/
import Derived.Test.YtncpaekiidpchaaGreatSpVote
import Derived.Test.YtncpaekiidpchaaGreatSpMake
import Derived.Test.YtncpaekiidpchaaGreatSpNv
import Derived.Test.YtncpaekiidpchaaGreatAu1
import Derived.Test.YtncpaekiidpchaaGreatCk1
set_option linter.all false
namespace Go.Proofs.YtncpaekiidpchaaGreat
open Go.AW
abbrev prepA (p : TPrep) : AV := .agg [.d (.int .i64 p.view), .d (.int .i64 p.seq), .d (.int .i64 p.dig), .d (.int .i64 p.fkey), .d (.int .i64 p.fdig), .d (.slice (zaz p.signs)), .d (.slice (ziS p.batch))]
end Go.Proofs.YtncpaekiidpchaaGreat

/- Contracts: whether a certificate is valid, the program's. -/
set_option maxRecDepth 100000
namespace Go.Proofs.YtncpaekiidpchaaGreat
open Go.AW
end Go.Proofs.YtncpaekiidpchaaGreat

/- Contracts: whether a certificate is valid, the program's. -/
set_option maxRecDepth 100000
namespace Go.Proofs.YtncpaekiidpchaaGreat
open Go.AW
structure smallP (p : TPrep) : Prop where
 ops : ∀ x ∈ p.batch,zjK x.op ≤ 20971520
 batch : p.batch.length ≤ 1073741824
 signs : p.signs.length ≤ 1073741824
end Go.Proofs.YtncpaekiidpchaaGreat

/- Contracts: votes and certificates, the document's. -/
set_option maxRecDepth 100000
namespace Go.Proofs.YtncpaekiidpchaaGreat
open Go.AW
end Go.Proofs.YtncpaekiidpchaaGreat

/- Checkpoints' certificates: which are valid. No program in sight. -/
namespace Go.AW
def zng (f seq d key : Int) : Bool := decide (seq ≥ 1) && (decide (seq ≤ 9007199254740992) && ((seq.tmod 4 == 0) && (decide (d ≥ 1) && (decide (d ≤ 9007199254740992) && (decide (key ≥ 0) && decide (key < zbP 3 f))))))
def zeroC (c : zfH) : Bool := (c.seq == 0) && ((c.dig == 0) && ((c.signs.length : Int) == 0))
def zrX (f seq d : Int) : Option zJ → List zJ → Bool
 | _, [] => true
 | p,s :: r => zng f seq d s.key && ((match p with | some q => !(decide (s.key ≤ q.key)) | none => true) && zrX f seq d (some s) r)
def zgt (f : Int) (c : zfH) : Bool := zeroC c || (decide ((c.signs.length : Int) ≥ zbP 2 f) && zrX f c.seq c.dig none c.signs)
def zro (L : List (List UInt8)) (G : List zJ) (f : Int) (c : zfH) : Bool := decide (zcP f = 0) && (zgt f c && c.signs.all fun s => zpe L G s s.key 6 0 c.seq c.dig)
theorem mayCs_drop {f seq d : Int} {p : Option zJ} {l : List zJ} {k : Nat} {s : zJ} (h : l[k]? = some s) : zrX f seq d p (l.drop k) = (zng f seq d s.key && ((match p with | some q => !(decide (s.key ≤ q.key)) | none => true) && zrX f seq d (some s) (l.drop (k + 1)))) := by
 have hk : k < l.length := (List.getElem?_eq_some_iff.1 h).1
 rw [List.drop_eq_getElem_cons hk,(List.getElem?_eq_some_iff.1 h).2]
 rfl
def aheadS (l : List zJ) : Nat → Option zJ
 | 0 => none
 | k + 1 => l[k]?
end Go.AW

/- Contracts: checkpoints' certificates, on both sides. -/
set_option maxRecDepth 100000
namespace Go.Proofs.YtncpaekiidpchaaGreat
open Go.AW
theorem c_ptZero {σ : List zg} {c : zfH} {K : KT} (hK : K (.d (.bool (zeroC c))) σ) : zD Tryz.prog zky [certA c] σ K := by
 refine zj zpy.is rfl fun hl _ => zpy.goes ?_
 have hlen : (zaz c.signs).length = c.signs.length := List.length_map ..
 have fin : ∀ z,zeroC c = z → K (.d (.bool z)) σ := fun z h => h ▸ hK
 clear hK
 simp only [zpN,iN,bT,bF,eN,certA]
 cases h1 : (c.seq == 0)
 ·(repeat' first | refine gq2 h1 ?_ | with_reducible first | exact ⟨⟩ | refine zh ?_ | fail)
  (first | refine zaq hl ?_ | refine zap hl ?_)
  exact fin _ (by simp [zeroC,h1])
 cases h2 : (c.dig == 0)
 ·(repeat' first | refine gq2 (zd h1 h2) ?_ | with_reducible first | exact ⟨⟩ | refine zh ?_ | fail)
  (first | refine zaq hl ?_ | refine zap hl ?_)
  exact fin _ (by simp [zeroC,h1,h2])
 (repeat' first | refine gq2 (zd h1 (zd h2 hlen)) ?_ | with_reducible first | exact ⟨⟩ | refine zh ?_ | fail)
 (first | refine zaq hl ?_ | refine zap hl ?_)
 exact fin _ (by simp [zeroC,h1,h2])
theorem c_ptMay {σ : List zg} {id : Nat} {f seq d key : Int} {cs : List AV} (hσ : σ[id]? = some (.box (.d (.int .i64 f) :: cs))) {K : KT} (hK : K (.d (.bool (zng f seq d key))) σ) :
  zD Tryz.prog zeV [.box id 0, .d (.int .i64 seq), .d (.int .i64 d), .d (.int .i64 key)] σ K := by
 refine zj zhO.is rfl fun hl _ => zhO.goes ?_
 have fin : ∀ z,zng f seq d key = z → K (.d (.bool z)) σ := fun z h => h ▸ hK
 clear hK
 have e4 : ((4 : Int) == 0) = false := rfl
 simp only [zhW,iN,bT,bF,eN]
 cases h1 : decide (seq ≥ 1)
 ·(repeat' first | refine gq2 h1 ?_ | with_reducible first | exact ⟨⟩ | refine zh ?_ | fail)
  (first | refine zaq hl ?_ | refine zap hl ?_)
  exact fin _ (by rw [zng,h1]; rfl)
 cases h2 : decide (seq ≤ 9007199254740992)
 ·(repeat' first | refine gq2 (zd h1 h2) ?_ | with_reducible first | exact ⟨⟩ | refine zh ?_ | fail)
  (first | refine zaq hl ?_ | refine zap hl ?_)
  exact fin _ (by rw [zng,h1,h2]; rfl)
 cases h3 : (seq.tmod 4 == 0)
 ·(repeat' first | refine gq2 (zd h1 (zd h2 (zd e4 h3))) ?_ | with_reducible first | exact ⟨⟩ | refine zh ?_ | fail)
  (first | refine zaq hl ?_ | refine zap hl ?_)
  exact fin _ (by rw [zng,h1,h2,h3]; rfl)
 cases h4 : decide (d ≥ 1)
 ·(repeat' first | refine gq2 (zd h1 (zd h2 (zd e4 (zd h3 h4)))) ?_ | with_reducible first | exact ⟨⟩ | refine zh ?_ | fail)
  (first | refine zaq hl ?_ | refine zap hl ?_)
  exact fin _ (by rw [zng,h1,h2,h3,h4]; rfl)
 cases h5 : decide (d ≤ 9007199254740992)
 ·(repeat' first | refine gq2 (zd h1 (zd h2 (zd e4 (zd h3 (zd h4 h5))))) ?_ | with_reducible first | exact ⟨⟩ | refine zh ?_ | fail)
  (first | refine zaq hl ?_ | refine zap hl ?_)
  exact fin _ (by rw [zng,h1,h2,h3,h4,h5]; rfl)
 cases h6 : decide (key ≥ 0)
 ·(repeat' first | refine gq2 (zd h1 (zd h2 (zd e4 (zd h3 (zd h4 (zd h5 h6)))))) ?_ | with_reducible first | exact ⟨⟩ | refine zh ?_ | fail)
  (first | refine zaq hl ?_ | refine zap hl ?_)
  exact fin _ (by rw [zng,h1,h2,h3,h4,h5,h6]; rfl)
 (repeat' first | refine gq2 (zd h1 (zd h2 (zd e4 (zd h3 (zd h4 (zd h5 (zd h6 hσ))))))) ?_ | with_reducible first | exact ⟨⟩ | refine zh ?_ | fail)
 refine c_quBrokers ?_
 (repeat' first | refine gq1 ?_ | with_reducible first | exact ⟨⟩ | refine zh ?_ | fail)
 (first | refine zaq hl ?_ | refine zap hl ?_)
 exact fin _ (by rw [zng,h1,h2,h3,h4,h5,h6]; rfl)
theorem zmM {l : List zJ} {k : Nat} {s : zJ} (h : l[k]? = some s) : aheadS l (k + 1) = some s := h
abbrev certO (c : zfH) : zg := .box [.d (.int .i64 c.seq), .d (.int .i64 c.dig), .d (.slice (zaz c.signs))]
theorem c_ptMayCert {σ : List zg} {id : Nat} {f : Int} {c : zfH} {cs : List AV} (hσ : σ[id]? = some (.box (.d (.int .i64 f) :: cs))) (hl0 : c.signs.length ≤ 1073741824) {K : KT} (hK : K (.d (.bool (zgt f c))) σ) :
  zD Tryz.prog zdp [.box id 0,certA c] σ K := by
 refine zj zfe.is rfl fun hl _ => zfe.goes ?_
 have fin : ∀ z,zgt f c = z → K (.d (.bool z)) σ := fun z h => h ▸ hK
 clear hK
 have hlen : (zaz c.signs).length = c.signs.length := List.length_map ..
 have hS : ∀ τ,(σ ++ τ)[id]? = some (.box (.d (.int .i64 f) :: cs)) := fun τ => zf hσ
 simp only [zff,iN,bT,bF,eN,certA]
 (repeat' first | refine gq1 ?_ | with_reducible first | exact ⟨⟩ | refine zh ?_ | fail)
 refine c_ptZero (c := c) ?_
 cases hz : zeroC c
 rotate_left
 ·(repeat' first | refine gq1 ?_ | with_reducible first | exact ⟨⟩ | refine zh ?_ | fail)
  (first | refine zaq hl ?_ | refine zap hl ?_)
  exact fin _ (by rw [zgt,hz]; rfl)
 (repeat' first | refine gq2 hlen ?_ | with_reducible first | exact ⟨⟩ | refine zh ?_ | fail)
 refine zG c.signs.length (fun k vs s => vs = [.d (.int .i64 k)] ∧ (∃ T,s = σ ++ certO c :: T) ∧ zrX f c.seq c.dig none c.signs = zrX f c.seq c.dig (aheadS c.signs k) (c.signs.drop k)) ⟨rfl,⟨[],rfl⟩,rfl⟩ ?_
 rintro k vs s hk ⟨rfl,⟨T,rfl⟩,hpf⟩
 have no : zrX f c.seq c.dig none c.signs = false → zgt f c = false := fun h => by rw [zgt,hz,h,Bool.and_false]; rfl
 by_cases hlt : k < c.signs.length
 ·have hd : decide ((k : Int) < (c.signs.length : Int)) = true := by simp; omega
  have hx : c.signs[k]? = some c.signs[k] := by simp [hlt]
  have hgx := zae (f := zid) hx
  obtain ⟨x,hxe⟩ : ∃ x,c.signs[k] = x := ⟨_,rfl⟩
  rw [hxe] at hx hgx
  rw [mayCs_drop hx] at hpf
  (repeat' first | refine gq33 (zd hd hgx) ?_ | with_reducible first | exact ⟨⟩ | refine zh ?_ | fail)
  refine c_ptMay (hS _) ?_
  cases h1 : zng f c.seq c.dig x.key
  ·(repeat' first | refine gq1 ?_ | with_reducible first | exact ⟨⟩ | refine zh ?_ | fail)
   (first | refine zaq hl ?_ | refine zap hl ?_)
   exact fin _ (no (by rw [hpf,h1]; rfl))
  rw [h1,Bool.true_and] at hpf
  cases k with
  | zero =>
   (repeat' first | refine gq2 (zd (show decide (((0 : Nat) : Int) > 0) = false from rfl) (wkc 0 (by omega))) ?_ | with_reducible first | exact ⟨⟩ | refine zh ?_ | fail)
   exact zav.next hlt ⟨rfl,⟨_,rfl⟩,by rw [hpf,zmM hx]; rfl⟩
  | succ j =>
   have hz1 : decide (((j + 1 : Nat) : Int) > 0) = true := decide_eq_true (by omega)
   have hw1 : IntKind.i64.wrap (((j + 1 : Nat) : Int) - 1) = (j : Int) := by rw [zX (by omega) (by omega)]; omega
   have hy : c.signs[j]? = some c.signs[j] := by simp [show j < c.signs.length by omega]
   have hgy := zae (f := zid) hy
   obtain ⟨y,hye⟩ : ∃ y,c.signs[j] = y := ⟨_,rfl⟩
   rw [hye] at hy hgy
   rw [zmM hy] at hpf
   simp only at hpf
   cases h2 : decide (x.key ≤ y.key)
   ·(repeat' first | refine gq33 (zd hz1 (zd hw1 (zd hgx (zd hgy (zd h2 (wkc (j + 1) (by omega))))))) ?_ | with_reducible first | exact ⟨⟩ | refine zh ?_ | fail)
    exact zav.next hlt ⟨rfl,⟨_,rfl⟩,by rw [hpf,h2,zmM hx]; simp⟩
   ·(repeat' first | refine gq33 (zd hz1 (zd hw1 (zd hgx (zd hgy h2)))) ?_ | with_reducible first | exact ⟨⟩ | refine zh ?_ | fail)
    (first | refine zaq hl ?_ | refine zap hl ?_)
    exact fin _ (no (by rw [hpf,h2]; rfl))
 ·have hd : decide ((k : Int) < (c.signs.length : Int)) = false := by simp; omega
  rw [List.drop_eq_nil_of_le (by omega)] at hpf
  (repeat' first | refine gq2 (zd hd (zd hlen hS)) ?_ | with_reducible first | exact ⟨⟩ | refine zh ?_ | fail)
  refine c_quBig ?_
  (repeat' first | refine gq1 ?_ | with_reducible first | exact ⟨⟩ | refine zh ?_ | fail)
  (first | refine zaq hl ?_ | refine zap hl ?_)
  exact fin _ (by rw [zgt,hz,hpf]; simp [zrX])
theorem c_ptNew {σ : List zg} {f : Int} {K : KT} (hN : zcP f ≠ 0 → K (.tup [.d .nilp, .d (.int .i64 (zcP f))]) σ)
  (hY : zcP f = 0 → K (.tup [.box (σ.length + 1) 0, .d (.int .i64 0)]) (σ ++ [.map [], .box [.d (.int .i64 f), .d (.int .i64 0), .d (.int .i64 0), .exact [], .map σ.length, .exact []]])) : zD Tryz.prog zmz [.d (.int .i64 f)] σ K := by
 refine zcr zri.is rfl (fun s => if s.length = σ.length then [] else List.range' σ.length 2) fun hl _ => zri.goes ?_
 simp only [zrN,iN,bT,bF,eN]
 (repeat' first | refine gq1 ?_ | with_reducible first | exact ⟨⟩ | refine zh ?_ | fail)
 refine zrr ?_
 cases h : (zcP f != 0)
 ·have h0 : zcP f = 0 := by simpa using h
  (repeat' first | refine gq2 h ?_ | with_reducible first | exact ⟨⟩ | refine zh ?_ | fail)
  refine zeX (os := [.map [], .box [.d (.int .i64 f), .d (.int .i64 0), .d (.int .i64 0), .exact [], .map σ.length, .exact []]]) rfl (by simp) hl ?_ ?_ (hY h0)
  ·intro x hx
   simp only [List.mem_cons,List.not_mem_nil,or_false] at hx
   rcases hx with rfl | rfl
   ·intro e he; simp at he
   ·intro c hc
    simp only [List.mem_cons,List.not_mem_nil,or_false] at hc
    rcases hc with rfl | rfl | rfl | rfl | rfl | rfl
    ·exact .d _
    ·exact .d _
    ·exact .d _
    ·exact .exact _
    ·exact .map _ (by simp)
    ·exact .exact _
  ·simp [zca,zbv,Low_box,zdh]
 ·(repeat' first | refine gq2 h ?_ | with_reducible first | exact ⟨⟩ | refine zh ?_ | fail)
  exact zqX (by simp) hl (by simp [zca,zcL,zis]) (hN (by simpa using h))
end Go.Proofs.YtncpaekiidpchaaGreat
