/- Contracts: the program's topics: all records of a topic, one after the other. -/
import Derived.Test.YtaocmalhjfakdaaKs2
import Derived.Test.YtaocmalhjfakdaaSpMap
set_option linter.all false
set_option maxRecDepth 100000
set_option linter.unusedSimpArgs false
set_option linter.unusedVariables false
namespace Go.Proofs.Ytaocmalhjfakdaa
open Go.AW

theorem ziN {σ : List zb} {b : List UInt8} {n : Nat} (hn : n < 18446744073709551616) (hb : b.length ≤ 1073741824) {K : AV → List zb → Prop} (hK : K (.d (.slice (bcs (b ++ zcz n)))) σ) :
    zu Try.prog zak [.d (.slice (bcs b)), .d (.int .u64 n)] σ K :=
  zu.frz 0 (c_PutNum hn hb ⟨_, rfl, by simp, hK⟩)
theorem zgS {σ : List zb} {b : List UInt8} {n : Int} (h0 : 0 ≤ n) (hn : n < 18446744073709551616) (hb : b.length ≤ 1073741824) {K : AV → List zb → Prop} (hK : K (.d (.slice (bcs (b ++ zcz n.toNat)))) σ) :
    zu Try.prog zak [.d (.slice (bcs b)), .d (.int .u64 n)] σ K := by
  have := ziN (σ := σ) (b := b) (n := n.toNat) (by omega) hb (K := K) hK
  rwa [show ((n.toNat : Nat) : Int) = n by omega] at this
theorem zil {σ : List zb} {b x : List UInt8} (hx : x.length ≤ 1073741824) (hb : b.length ≤ 1073741800) {K : AV → List zb → Prop} (hK : K (.d (.slice (bcs (b ++ putB x)))) σ) :
    zu Try.prog zby [.d (.slice (bcs b)), .d (.slice (bcs x))] σ K :=
  zu.frz 0 (c_PutBytes hx hb ⟨_, rfl, by simp, hK⟩)
def zcy (T : zP) (n : List UInt8) : List (List UInt8) := match zdo T n with
  | none => []
  | some x => x.recs
def zfP (T : zP) (n : List UInt8) : Int := match zdo T n with
  | none => 0
  | some x => x.base
def ANx (T : zP) (n : List UInt8) (i : Nat) (x : List AV) (i' : Nat) : Prop := ∃ r, (zcy T n)[i]? = some r ∧ x = [.d (.int .i64 (zfP T n + i)), .d (.slice (bcs r))] ∧ i' = i + 1
def AFin (T : zP) (n : List UInt8) (i : Nat) : Prop := i = (zcy T n).length
theorem recsQ_len {T : zP} (hI : zcF T) (n : List UInt8) : (zcy T n).length ≤ 64 ∧ (∀ r ∈ zcy T n, r.length ≤ 64) := by
  unfold zcy zdo
  split
  · simp
  · rename_i x hx
    split at hx
    · cases hx
    · have := hI.tops x (List.mem_of_getElem? hx)
      exact ⟨this.recs, this.each⟩
section

variable {σ : List zb} {id : Nat} {T : zP} {O : Nat → Prop} {K : AV → List zb → Prop}

theorem c_tpAll {n : List UInt8} (hK : K (.fn (.func zbA) [] [.box σ.length 0, .box (σ.length + 1) 0]) (σ ++ [.box [.box id 0], .box [.d (.str n)]])) : zu Try.prog zbP [.box id 0, .d (.str n)] σ K := by
  refine zau zfc.is rfl fun hl _ => zfc.goes ?_
  simp only [zfk, iN, bT, bF, eN]
  refine zbw ?_
  exact zaR hK
theorem c_allRun {l ba bb m : Nat} {X : List zcv} {n : List UInt8} (hI : zcF T) (hR : Rel X T.l) (J : Nat → List zb → Prop) (happ : ∀ i s τ, J i s → J i (s ++ τ)) (hT : ∀ i s, J i s → zdR s id m X T.last ∧ s[ba]? = some (.box [.box id 0]) ∧ s[bb]? = some (.box [.d (.str n)]))
    (hY : ∀ i x i' s, ANx T n i x i' → J i s → zmL Try.prog l x s fun v s' => v = .d (.bool true) ∧ J i' s') (h0 : J 0 σ) :
    zu Try.prog zbA [.fn (.yield l) [] [], .box ba 0, .box bb 0] σ fun _ s => ∃ i, AFin T n i ∧ J i s := by
  obtain ⟨hP, g1, g2⟩ := hT 0 σ h0
  refine zau zeb.is rfl fun hl _ => zeb.goes ?_
  simp only [zei, iN, bT, bF, eN]
  refine zV (zd g1 g2) ?_
  refine ziM hP ?_
  rcases zgD hR n with ⟨h1, h2⟩ | ⟨i, p, y, h1, h2, h3, h4, h5, h6⟩
  · rw [h1]
    have hf : AFin T n 0 := by rw [AFin, zcy, h2]; rfl
    refine zV (show ((4 : Int) != 0) = true from rfl) ?_
    exact zaR ⟨0, hf, h0⟩
  · rw [h1]
    have hy := hI.tops y h5
    have hr : zcy T n = p.x.recs := by rw [zcy, h4, h6.recs]
    have hbq : zfP T n = p.x.base := by rw [zfP, h4, h6.base]
    have hb := (hP.tops p (List.mem_of_getElem? h2)).b
    have hlen := zn p.x.recs
    have b1 := hy.recs; have b2 := hy.base; have b3 := hy.next; have b4 := hy.each
    have hnx : y.next = y.base + y.recs.length := rfl
    rw [← h6.base, ← h6.recs] at hnx
    rw [← h6.recs] at b1 b4
    rw [← h6.base] at b2
    refine zV (zd hb (zd hlen (show ((0 : Int) != 0) = false from rfl))) ?_
    refine zI p.x.recs.length (fun k vs s => vs = [.d (.int .i64 k)] ∧ J k s) ⟨rfl, h0⟩ ?_
    rintro k vs s hk ⟨rfl, hJ⟩
    by_cases hlt : k < p.x.recs.length
    · have hd : decide ((k : Int) < (p.x.recs.length : Int)) = true := by simp; omega
      have hx : p.x.recs[k]? = some p.x.recs[k] := by simp [hlt]
      obtain ⟨r, hre⟩ : ∃ r, p.x.recs[k] = r := ⟨_, rfl⟩
      rw [hre] at hx
      have hg : (zQ p.x.recs)[k]? = some [.slice (bcs r)] := zaP (f := fun r => [D.slice (bcs r)]) hx
      have hrl := b4 r (List.mem_of_getElem? hx)
      have hb' := ((hT k s hJ).1.tops p (List.mem_of_getElem? h2)).b
      have hw : IntKind.i64.wrap (p.x.base + (k : Int)) = p.x.base + k := zaO (by omega) (by omega)
      refine zV (zd hd (zd hg (zd hb' (zd hlen hw)))) ?_
      refine zkW (by omega) ?_
      refine zV (zd hb' (wkc k (by omega))) ?_
      refine (hY k _ (k + 1) s ⟨r, by rw [hr]; exact hx, by rw [hbq], rfl⟩ hJ).mono ?_
      rintro v s' ⟨rfl, hJ'⟩
      refine zV (wkc k (by omega)) ?_
      exact zca.next hlt ⟨rfl, hJ'⟩
    · have hd : decide ((k : Int) < (p.x.recs.length : Int)) = false := by simp; omega
      have hko : k = p.x.recs.length := by omega
      refine zV (zd hd hlen) ?_
      exact zaR ⟨k, by rw [AFin, hr]; exact hko, hJ⟩
end

end Go.Proofs.Ytaocmalhjfakdaa
