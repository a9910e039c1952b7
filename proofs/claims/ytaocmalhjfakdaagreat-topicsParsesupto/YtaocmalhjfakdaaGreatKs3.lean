/- Contracts: the program's topics: all records of a topic, one after the other. -/
import Derived.Test.YtaocmalhjfakdaaGreatTq8
import Derived.Test.YtaocmalhjfakdaaGreatPo1
set_option linter.all false
set_option maxRecDepth 100000
set_option linter.unusedSimpArgs false
set_option linter.unusedVariables false
namespace Go.Proofs.YtaocmalhjfakdaaGreat
open Go.AW

theorem zkW {σ : List zc} {b : List UInt8} {n : Nat} (hn : n < 18446744073709551616) (hb : b.length ≤ 1073741824) {K : KT} (hK : K (.d (.slice (bcs (b ++ zbQ n)))) σ) :
    zn Tryz.prog zaF [.d (.slice (bcs b)), .d (.int .u64 n)] σ K :=
  zn.frz 0 (c_PutNum hn hb ⟨_, rfl, by simp, hK⟩)
theorem ziH {σ : List zc} {b : List UInt8} {n : Int} (h0 : 0 ≤ n) (hn : n < 18446744073709551616) (hb : b.length ≤ 1073741824) {K : KT} (hK : K (.d (.slice (bcs (b ++ zbQ n.toNat)))) σ) :
    zn Tryz.prog zaF [.d (.slice (bcs b)), .d (.int .u64 n)] σ K := by
  have := zkW (σ := σ) (b := b) (n := n.toNat) (by omega) hb (K := K) hK
  rwa [show ((n.toNat : Nat) : Int) = n by omega] at this
theorem zkg {σ : List zc} {b x : List UInt8} (hx : x.length ≤ 1073741824) (hb : b.length ≤ 1073741800) {K : KT} (hK : K (.d (.slice (bcs (b ++ zjI x)))) σ) :
    zn Tryz.prog zbV [.d (.slice (bcs b)), .d (.slice (bcs x))] σ K :=
  zn.frz 0 (c_PutBytes hx hb ⟨_, rfl, by simp, hK⟩)
def zdC (T : zak) (n : List UInt8) : List (List UInt8) := match zef T n with
  | none => []
  | some x => x.recs
def zhj (T : zak) (n : List UInt8) : Int := match zef T n with
  | none => 0
  | some x => x.base
def ANx (T : zak) (n : List UInt8) (i : Nat) (x : List AV) (i' : Nat) : Prop := ∃ r, (zdC T n)[i]? = some r ∧ x = [.d (.int .i64 (zhj T n + i)), .d (.slice (bcs r))] ∧ i' = i + 1
def AFin (T : zak) (n : List UInt8) (i : Nat) : Prop := i = (zdC T n).length
theorem recsQ_len {T : zak} (hI : zed T) (n : List UInt8) : (zdC T n).length ≤ 64 ∧ (∀ r ∈ zdC T n, r.length ≤ 64) := by
  unfold zdC zef
  split
  · simp
  · rename_i x hx
    split at hx
    · cases hx
    · have := hI.tops x (List.mem_of_getElem? hx)
      exact ⟨this.recs, this.each⟩
section

variable {σ : List zc} {id : Nat} {T : zak} {O : Nat → Prop} {K : KT}

theorem c_tpAll {n : List UInt8} (hK : K (.fn (.func zca) [] [.box σ.length 0, .box (σ.length + 1) 0]) (σ ++ [.box [.box id 0], .box [.d (.str n)]])) : zn Tryz.prog zcM [.box id 0, .d (.str n)] σ K := by
  refine zaj zgj.is rfl fun hl _ => zgj.goes ?_
  simp only [zgq, iN, bT, bF, eN]
  refine zby ?_
  exact zaO hK
theorem c_allRun {l ba bb m : Nat} {X : List zeA} {n : List UInt8} (hI : zed T) (hR : Rel X T.l) (J : Nat → List zc → Prop) (happ : ∀ i s τ, J i s → J i (s ++ τ)) (hT : ∀ i s, J i s → zfp s id m X T.last ∧ s[ba]? = some (.box [.box id 0]) ∧ s[bb]? = some (.box [.d (.str n)]))
    (hY : ∀ i x i' s, ANx T n i x i' → J i s → zpy Tryz.prog l x s fun v s' => v = .d (.bool true) ∧ J i' s') (h0 : J 0 σ) :
    zn Tryz.prog zca [.fn (.yield l) [] [], .box ba 0, .box bb 0] σ fun _ s => ∃ i, AFin T n i ∧ J i s := by
  obtain ⟨hP, g1, g2⟩ := hT 0 σ h0
  refine zaj zfh.is rfl fun hl _ => zfh.goes ?_
  simp only [zfo, iN, bT, bF, eN]
  refine zt (zb g1 g2) ?_
  refine zkT hP ?_
  rcases zil hR n with ⟨h1, h2⟩ | ⟨i, p, y, h1, h2, h3, h4, h5, h6⟩
  · rw [h1]
    have hf : AFin T n 0 := by rw [AFin, zdC, h2]; rfl
    refine zt (show ((4 : Int) != 0) = true from rfl) ?_
    exact zaO ⟨0, hf, h0⟩
  · rw [h1]
    have hy := hI.tops y h5
    have hr : zdC T n = p.x.recs := by rw [zdC, h4, h6.recs]
    have hbq : zhj T n = p.x.base := by rw [zhj, h4, h6.base]
    have hb := (hP.tops p (List.mem_of_getElem? h2)).b
    have hlen := zo p.x.recs
    have b1 := hy.recs; have b2 := hy.base; have b3 := hy.next; have b4 := hy.each
    have hnx : y.next = y.base + y.recs.length := rfl
    rw [← h6.base, ← h6.recs] at hnx
    rw [← h6.recs] at b1 b4
    rw [← h6.base] at b2
    refine zt (zb hb (zb hlen (show ((0 : Int) != 0) = false from rfl))) ?_
    refine zF p.x.recs.length (fun k vs s => vs = [.d (.int .i64 k)] ∧ J k s) ⟨rfl, h0⟩ ?_
    rintro k vs s hk ⟨rfl, hJ⟩
    by_cases hlt : k < p.x.recs.length
    · have hd : decide ((k : Int) < (p.x.recs.length : Int)) = true := by simp; omega
      have hx : p.x.recs[k]? = some p.x.recs[k] := by simp [hlt]
      obtain ⟨r, hre⟩ : ∃ r, p.x.recs[k] = r := ⟨_, rfl⟩
      rw [hre] at hx
      have hg : (zK p.x.recs)[k]? = some [.slice (bcs r)] := zbo (f := fun r => [D.slice (bcs r)]) hx
      have hrl := b4 r (List.mem_of_getElem? hx)
      have hb' := ((hT k s hJ).1.tops p (List.mem_of_getElem? h2)).b
      have hw : IntKind.i64.wrap (p.x.base + (k : Int)) = p.x.base + k := zam (by omega) (by omega)
      refine zt (zb hd (zb hg (zb hb' (zb hlen hw)))) ?_
      refine zpv (by omega) ?_
      refine zt (zb hb' (wkc k (by omega))) ?_
      refine (hY k _ (k + 1) s ⟨r, by rw [hr]; exact hx, by rw [hbq], rfl⟩ hJ).mono ?_
      rintro v s' ⟨rfl, hJ'⟩
      refine zt (wkc k (by omega)) ?_
      exact zbC.next hlt ⟨rfl, hJ'⟩
    · have hd : decide ((k : Int) < (p.x.recs.length : Int)) = false := by simp; omega
      have hko : k = p.x.recs.length := by omega
      refine zt (zb hd hlen) ?_
      exact zaO ⟨k, by rw [AFin, hr]; exact hko, hJ⟩
end

end Go.Proofs.YtaocmalhjfakdaaGreat
