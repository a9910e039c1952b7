/- Contracts: the program's topics: all records of a topic, one after the other. -/
import Derived.Test.YtaocmalhjfakdaaKs2
import Derived.Test.YtaocmalhjfakdaaPr3
import Derived.Test.YtaocmalhjfakdaaTp1
set_option linter.all false
set_option maxRecDepth 100000
set_option linter.unusedSimpArgs false
set_option linter.unusedVariables false
namespace Go.Proofs.Ytaocmalhjfakdaa
open Go.AW

theorem zgk {σ : List zb} {b : List UInt8} {n : Nat} (hn : n < 18446744073709551616) (hb : b.length ≤ 1073741824) {K : AV → List zb → Prop} (hK : K (.d (.slice (bcs (b ++ zcR n)))) σ) :
    zC Try.prog zN [.d (.slice (bcs b)), .d (.int .u64 n)] σ K :=
  zC.frz 0 (c_PutNum hn hb ⟨_, rfl, by simp, hK⟩)
theorem zeU {σ : List zb} {b : List UInt8} {n : Int} (h0 : 0 ≤ n) (hn : n < 18446744073709551616) (hb : b.length ≤ 1073741824) {K : AV → List zb → Prop} (hK : K (.d (.slice (bcs (b ++ zcR n.toNat)))) σ) :
    zC Try.prog zN [.d (.slice (bcs b)), .d (.int .u64 n)] σ K := by
  have := zgk (σ := σ) (b := b) (n := n.toNat) (by omega) hb (K := K) hK
  rwa [show ((n.toNat : Nat) : Int) = n by omega] at this
theorem zfM {σ : List zb} {b x : List UInt8} (hx : x.length ≤ 1073741824) (hb : b.length ≤ 1073741800) {K : AV → List zb → Prop} (hK : K (.d (.slice (bcs (b ++ putB x)))) σ) :
    zC Try.prog zaT [.d (.slice (bcs b)), .d (.slice (bcs x))] σ K :=
  zC.frz 0 (c_PutBytes hx hb ⟨_, rfl, by simp, hK⟩)
def recsQ (T : zS) (n : List UInt8) : List (List UInt8) := match zhV T n with
  | none => []
  | some x => x.recs
def baseQ (T : zS) (n : List UInt8) : Int := match zhV T n with
  | none => 0
  | some x => x.base
def ANx (T : zS) (n : List UInt8) (i : Nat) (x : List AV) (i' : Nat) : Prop := ∃ r, (recsQ T n)[i]? = some r ∧ x = [.d (.int .i64 (baseQ T n + i)), .d (.slice (bcs r))] ∧ i' = i + 1
def AFin (T : zS) (n : List UInt8) (i : Nat) : Prop := i = (recsQ T n).length
section

variable {σ : List zb} {id : Nat} {T : zS} {O : Nat → Prop} {K : AV → List zb → Prop}

theorem c_tpAll {n : List UInt8} (hK : K (.fn (.func zaV) [] [.box σ.length 0, .box (σ.length + 1) 0]) (σ ++ [.box [.box id 0], .box [.d (.str n)]])) : zC Try.prog zbS [.box id 0, .d (.str n)] σ K := by
  refine zaI zdE.is rfl fun hl _ => zdE.goes ?_
  simp only [zdK, iN, bT, bF, eN]
  refine zen ?_
  exact zaW hK
theorem c_allRun {l ba bb m : Nat} {X : List zcS} {n : List UInt8} (hI : zee T) (hR : Rel X T.l) (J : Nat → List zb → Prop) (happ : ∀ i s τ, J i s → J i (s ++ τ)) (hT : ∀ i s, J i s → zdr s id m X T.last ∧ s[ba]? = some (.box [.box id 0]) ∧ s[bb]? = some (.box [.d (.str n)]))
    (hY : ∀ i x i' s, ANx T n i x i' → J i s → zkt Try.prog l x s fun v s' => v = .d (.bool true) ∧ J i' s') (h0 : J 0 σ) :
    zC Try.prog zaV [.fn (.yield l) [] [], .box ba 0, .box bb 0] σ fun _ s => ∃ i, AFin T n i ∧ J i s := by
  obtain ⟨hP, g1, g2⟩ := hT 0 σ h0
  refine zaI zcH.is rfl fun hl _ => zcH.goes ?_
  simp only [zcP, iN, bT, bF, eN]
  refine zbf (zf g1 g2) ?_
  refine zkn hP ?_
  rcases zif hR n with ⟨h1, h2⟩ | ⟨i, p, y, h1, h2, h3, h4, h5, h6⟩
  · rw [h1]
    have hf : AFin T n 0 := by rw [AFin, recsQ, h2]; rfl
    refine zbf (show ((4 : Int) != 0) = true from rfl) ?_
    exact zaW ⟨0, hf, h0⟩
  · rw [h1]
    have hy := hI.tops y h5
    have hr : recsQ T n = p.x.recs := by rw [recsQ, h4, h6.recs]
    have hbq : baseQ T n = p.x.base := by rw [baseQ, h4, h6.base]
    have hb := (hP.tops p (List.mem_of_getElem? h2)).b
    have hlen := zB p.x.recs
    have b1 := hy.recs; have b2 := hy.base; have b3 := hy.next; have b4 := hy.each
    have hnx : y.next = y.base + y.recs.length := rfl
    rw [← h6.base, ← h6.recs] at hnx
    rw [← h6.recs] at b1 b4
    rw [← h6.base] at b2
    refine zbf (zf hb (zf hlen (show ((0 : Int) != 0) = false from rfl))) ?_
    refine zba p.x.recs.length (fun k vs s => vs = [.d (.int .i64 k)] ∧ J k s) ⟨rfl, h0⟩ ?_
    rintro k vs s hk ⟨rfl, hJ⟩
    by_cases hlt : k < p.x.recs.length
    · have hd : decide ((k : Int) < (p.x.recs.length : Int)) = true := by simp; omega
      have hx : p.x.recs[k]? = some p.x.recs[k] := by simp [hlt]
      obtain ⟨r, hre⟩ : ∃ r, p.x.recs[k] = r := ⟨_, rfl⟩
      rw [hre] at hx
      have hg : (zbu p.x.recs)[k]? = some [.slice (bcs r)] := map_get (f := fun r => [D.slice (bcs r)]) hx
      have hrl := b4 r (List.mem_of_getElem? hx)
      have hb' := ((hT k s hJ).1.tops p (List.mem_of_getElem? h2)).b
      have hw : IntKind.i64.wrap (p.x.base + (k : Int)) = p.x.base + k := zcT (by omega) (by omega)
      refine zbf (zf hd (zf hg (zf hb' (zf hlen hw)))) ?_
      refine zkq (by omega) ?_
      refine zbf (zf hb' (wkc k (by omega))) ?_
      refine (hY k _ (k + 1) s ⟨r, by rw [hr]; exact hx, by rw [hbq], rfl⟩ hJ).mono ?_
      rintro v s' ⟨rfl, hJ'⟩
      refine zbf (wkc k (by omega)) ?_
      exact zeg.next hlt ⟨rfl, hJ'⟩
    · have hd : decide ((k : Int) < (p.x.recs.length : Int)) = false := by simp; omega
      have hko : k = p.x.recs.length := by omega
      refine zbf (zf hd hlen) ?_
      exact zaW ⟨k, by rw [AFin, hr]; exact hko, hJ⟩
end



end Go.Proofs.Ytaocmalhjfakdaa
