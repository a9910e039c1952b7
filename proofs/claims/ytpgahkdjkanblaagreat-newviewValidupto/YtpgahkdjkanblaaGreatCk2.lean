/- Contracts: whether a proof may be, the program's. -/
import Derived.Test.YtpgahkdjkanblaaGreatRc1
import Derived.Test.YtpgahkdjkanblaaGreatCodec1
set_option linter.all false
set_option maxRecDepth 100000
set_option linter.unusedSimpArgs false
set_option linter.unusedVariables false
namespace Go.Proofs.YtpgahkdjkanblaaGreat
open Go.AW

structure zvI (p : zlz) : Prop where
  topic : p.topic.length ≤ 16777216
  rec_ : p.rec_.length ≤ 16777216
  headers : p.headers.length ≤ 1073741824
  path : p.path.length ≤ 1073741824
  signs : p.cert.signs.length ≤ 1073741824
  off : zny p.offset
  index : zny p.index
  count : zny p.count
  paths : ∀ x ∈ p.path, zny x
abbrev proofO (p : zlz) : zf := .box [.d (.str p.topic), .d (.int .i64 p.offset), .d (.slice (bcs p.rec_)), .d (.slice (hdrsE p.headers)), .d (.int .i64 p.index), .d (.int .i64 p.count), .d (.slice (zop p.path)), .d (.int .i64 p.cert.seq), .d (.int .i64 p.cert.dig), .d (.slice (zas p.cert.signs))]
theorem thnE_app (e : Int) (a b : List Int) : zlW (zlW e (zbj a)) (zbj b) = zlW e (zbj (a ++ b)) := by
  rw [zif]
  unfold zlW
  by_cases h : e = 0
  · by_cases h2 : zbj a = 0
    · simp [h, h2]
    · simp [h, h2]
  · simp [h]
theorem thnE_app1 (e : Int) (a : List Int) (x : Int) : zlW (zlW e (zbj a)) x = zlW e (zbj (a ++ [x])) := by
  have : x = zbj [x] := by simp only [zbj]; split <;> simp_all
  conv => lhs; rw [this]
  exact thnE_app e a [x]
theorem thnE_z (x : Int) : zlW 0 x = x := by simp [zlW]
theorem zoI (l : List Int) (x : Int) : zlW (zbj l) x = zbj (l ++ [x]) := by rw [← thnE_z (zbj l), thnE_app1, thnE_z]
end Go.Proofs.YtpgahkdjkanblaaGreat

/- Contracts: whether a proof may be, the document's. -/
set_option maxRecDepth 100000
set_option linter.unusedSimpArgs false
set_option linter.unusedVariables false
namespace Go.Proofs.YtpgahkdjkanblaaGreat
open Go.AW

theorem c_kIn {σ : List zf} {n lo hi : Int} {K : KT} (hK : K (.d (.int .i64 (inE n lo hi))) σ) : zm Tryz.prog zid [.d (.int .i64 n), .d (.int .i64 lo), .d (.int .i64 hi)] σ K := by
  refine zc e_r10_in.is rfl fun hl _ => e_r10_in.goes ?_
  have fin : ∀ z, inE n lo hi = z → K (.d (.int .i64 z)) σ := fun z h => h ▸ hK
  clear hK
  simp only [S_r10_in, iN, bT, bF, eN]
  cases h1 : decide (n < lo)
  · cases h2 : decide (n > hi)
    · refine zH (zi h1 h2) ?_
      refine zq hl ?_
      exact fin 0 (by rw [inE, if_neg]; simp at h1 h2; omega)
    · refine zH (zi h1 h2) ?_
      refine zq hl ?_
      exact fin 100 (by rw [inE, if_pos]; simp at h1 h2; omega)
  · refine zH h1 ?_
    refine zq hl ?_
    exact fin 100 (by rw [inE, if_pos]; simp at h1; omega)
theorem c_kNum {σ : List zf} {n : Int} {K : KT} (hK : K (.d (.int .i64 (zjX n))) σ) : zm Tryz.prog zfb [.d (.int .i64 n)] σ K := by
  refine zc e_r10_num.is rfl fun hl _ => e_r10_num.goes ?_
  simp only [S_r10_num, iN, bT, bF, eN]
  refine zao ?_
  refine c_kIn ?_
  refine zao ?_
  refine zq hl ?_
  exact hK
theorem c_kPos {σ : List zf} {n : Int} {K : KT} (hK : K (.d (.int .i64 (zrC n))) σ) : zm Tryz.prog ziq [.d (.int .i64 n)] σ K := by
  refine zc e_r10_pos.is rfl fun hl _ => e_r10_pos.goes ?_
  simp only [S_r10_pos, iN, bT, bF, eN]
  refine zao ?_
  refine c_kIn ?_
  refine zao ?_
  refine zq hl ?_
  exact hK
theorem fst_drop {l : List Int} {k : Nat} {x : Int} (hx : l[k]? = some x) : zbj (l.drop k) = if x ≠ 0 then x else zbj (l.drop (k + 1)) := by
  have hk : k < l.length := (List.getElem?_eq_some_iff.1 hx).1
  rw [List.drop_eq_getElem_cons hk, (List.getElem?_eq_some_iff.1 hx).2]
  rfl
theorem zrO {σ : List zf} {l : List Int} (hl0 : l.length ≤ 1073741824) {K : KT} (hK : K (.d (.int .i64 (zbj l))) σ) : zm Tryz.prog zcD [.d (.slice (zop l))] σ K := by
  refine zc zsL.is rfl fun hl _ => zsL.goes ?_
  have fin : ∀ z, zbj l = z → K (.d (.int .i64 z)) σ := fun z h => h ▸ hK
  clear hK
  have hlen : (zop l).length = l.length := List.length_map ..
  simp only [ztB, iN, bT, bF, eN]
  refine zl l.length (fun k vs s => vs = [.d (.int .i64 k)] ∧ s = σ ∧ zbj l = zbj (l.drop k)) ⟨rfl, rfl, by simp⟩ ?_
  rintro k vs s hk ⟨rfl, rfl, hpf⟩
  by_cases hlt : k < l.length
  · have hd : decide ((k : Int) < (l.length : Int)) = true := by simp; omega
    have hx : l[k]? = some l[k] := by simp [hlt]
    have hgx := zQ (f := fun t => [D.int .i64 t]) hx
    obtain ⟨x, hxe⟩ : ∃ x, l[k] = x := ⟨_, rfl⟩
    rw [hxe] at hx hgx
    rw [fst_drop hx] at hpf
    cases h1 : (x != 0)
    · rw [if_neg (by simpa using h1)] at hpf
      refine zH (zi hd (zi hgx (zi hlen (zi h1 (wkc k (by omega)))))) ?_
      exact zaG.next hlt ⟨rfl, rfl, hpf⟩
    · rw [if_pos (by simpa using h1)] at hpf
      refine zH (zi hd (zi hgx (zi hlen h1))) ?_
      refine zq hl ?_
      exact fin _ hpf
  · have hd : decide ((k : Int) < (l.length : Int)) = false := by simp; omega
    rw [List.drop_eq_nil_of_le (by omega)] at hpf
    refine zH (zi hd hlen) ?_
    refine zq hl ?_
    exact fin _ hpf
theorem c_kSigns {σ : List zf} {l : List zP} (hl0 : l.length ≤ 1073741824) {K : KT} (hK : K (.d (.int .i64 (zbj (zbX l)))) σ) : zm Tryz.prog zio [.d (.slice (zas l))] σ K := by
  refine zc zsI.is rfl fun hl _ => zsI.goes ?_
  have fin : ∀ z, zbj (zbX l) = z → K (.d (.int .i64 z)) σ := fun z h => h ▸ hK
  clear hK
  have hlen : (zas l).length = l.length := List.length_map ..
  simp only [zty, iN, bT, bF, eN]
  cases h0 : decide ((l.length : Int) > 13)
  rotate_left
  · refine zH (zi hlen h0) ?_
    refine zq hl ?_
    refine fin 100 ?_
    have : inE l.length 0 13 = 100 := by rw [inE, if_pos]; simp at h0; omega
    simp [zbX, zbj, this]
  refine zH (zi hlen h0) ?_
  have e0 : zbj (zbX l) = zbj (l.map fun s => zL s.key s.dig) := by
    have : inE l.length 0 13 = 0 := by rw [inE, if_neg]; simp at h0; omega
    simp [zbX, zbj, this]
  refine zl l.length (fun k vs s => vs = [.d (.int .i64 k)] ∧ s = σ ∧ zbj (zbX l) = zbj ((l.map fun s => zL s.key s.dig).drop k)) ⟨rfl, rfl, by simpa using e0⟩ ?_
  rintro k vs s hk ⟨rfl, rfl, hpf⟩
  by_cases hlt : k < l.length
  · have hd : decide ((k : Int) < (l.length : Int)) = true := by simp; omega
    have hx : l[k]? = some l[k] := by simp [hlt]
    have hgx := zQ (f := zeS) hx
    obtain ⟨x, hxe⟩ : ∃ x, l[k] = x := ⟨_, rfl⟩
    rw [hxe] at hx hgx
    rw [fst_drop (x := zL x.key x.dig) (by simp [hx])] at hpf
    refine zjk (zi hd (zi hgx hlen)) ?_
    refine zef ?_
    cases h1 : (zL x.key x.dig != 0)
    · rw [if_neg (by simpa using h1)] at hpf
      refine zH (zi h1 (wkc k (by omega))) ?_
      exact zaG.next hlt ⟨rfl, rfl, hpf⟩
    · rw [if_pos (by simpa using h1)] at hpf
      refine zH h1 ?_
      refine zq hl ?_
      exact fin _ hpf
  · have hd : decide ((k : Int) < (l.length : Int)) = false := by simp; omega
    rw [List.drop_eq_nil_of_le (by simp; omega)] at hpf
    refine zH (zi hd hlen) ?_
    refine zq hl ?_
    exact fin _ hpf
theorem c_kCert {σ : List zf} {c : zek} (hl0 : c.signs.length ≤ 1073741824) {K : KT} (hK : K (.d (.int .i64 (zbj (zck c)))) σ) : zm Tryz.prog zfO [zgQ c] σ K := by
  refine zc zmx.is rfl fun hl _ => zmx.goes ?_
  have fin : ∀ z, zbj (zck c) = z → K (.d (.int .i64 z)) σ := fun z h => h ▸ hK
  clear hK
  have hlen : (zas c.signs).length = c.signs.length := List.length_map ..
  simp only [zmR, iN, bT, bF, eN, zgQ]
  refine zao ?_
  refine c_kNum ?_
  refine zao ?_
  refine c_kNum ?_
  refine zao ?_
  refine zrO (l := [zjX c.seq, zjX c.dig]) (by simp) ?_
  have e2 : zbj (zck c) = if zbj [zjX c.seq, zjX c.dig] ≠ 0 then zbj [zjX c.seq, zjX c.dig] else zbj (zdS c :: zbX c.signs) := by
    rw [← zif]; rfl
  cases h1 : (zbj [zjX c.seq, zjX c.dig] != 0)
  rotate_left
  · refine zH h1 ?_
    refine zq hl ?_
    exact fin _ (by rw [e2, if_pos (by simpa using h1)])
  have h1' : zbj [zjX c.seq, zjX c.dig] = 0 := by simpa using h1
  rw [if_neg (by simpa using h1)] at e2
  have hs : zjX c.seq = 0 := by
    simp only [zbj] at h1'; split at h1'
    · rename_i h; exact absurd h1' h
    · rename_i h; simpa using h
  have hsq := numE_0 hs
  have yes : zdS c = 0 → zm Tryz.prog zio [.d (.slice (zas c.signs))] (σ ++ [zf.box [AV.d (D.int .i64 c.seq), AV.d (D.int .i64 c.dig), AV.d (D.slice (zas c.signs))]]) fun G s => z1 (AW.Ends σ.length K) G s := fun h => by
    refine c_kSigns hl0 ?_
    refine zao ?_
    refine zq hl ?_
    refine fin _ ?_
    rw [e2]; simp [zbj, h]
  have no : zdS c = 100 → zbj (zck c) = 100 := fun h => by rw [e2]; simp [zbj, h]
  cases h2 : (c.seq == 0)
  · have h2' : ¬ c.seq = 0 := by simpa using h2
    have h3 : decide (c.seq > 0) = true := by simp; omega
    cases h4 : (c.dig == 0)
    · refine zH (zi h1 (zi h2 (zi h3 h4))) ?_
      exact yes (by simp at h4; simp [zdS, h2', h4])
    · refine zH (zi h1 (zi h2 (zi h3 h4))) ?_
      refine zq hl ?_
      exact fin 100 (no (by simp at h4; simp [zdS, h2', h4]))
  · have h2' : c.seq = 0 := by simpa using h2
    have h3 : decide (c.seq > 0) = false := by simp; omega
    cases h4 : (c.dig != 0)
    · cases h5 : decide ((c.signs.length : Int) > 0)
      · refine zH (zi h1 (zi h2 (zi h3 (zi h4 (zi hlen h5))))) ?_
        exact yes (by simp at h4 h5; simp [zdS, h2', h4, h5])
      · refine zH (zi h1 (zi h2 (zi h3 (zi h4 (zi hlen h5))))) ?_
        refine zq hl ?_
        refine fin 100 (no ?_)
        simp only [decide_eq_true_eq] at h5
        rw [zdS, if_pos (.inr ⟨h2', by omega⟩)]
    · refine zH (zi h1 (zi h2 (zi h3 h4))) ?_
      refine zq hl ?_
      exact fin 100 (no (by simp at h4; simp [zdS, h2', h4]))
end Go.Proofs.YtpgahkdjkanblaaGreat

/- Contracts: what is asked, as a list of errors that grows. -/
set_option maxRecDepth 100000
set_option linter.unusedSimpArgs false
set_option linter.unusedVariables false
namespace Go.Proofs.YtpgahkdjkanblaaGreat
open Go.AW

theorem thn_apps (P l : List Int) : zlW (zbj P) (zbj l) = zbj (P ++ l) := by rw [← thnE_z (zbj P), thnE_app, thnE_z]
section

variable {σ : List zf} {id : Nat} {P : List Int} {K : KT}

theorem c_aSays {x : Int} (hσ : σ[id]? = some (zhb (zbj P))) (hK : K (.tup []) (σ.set id (zhb (zbj (P ++ [x]))))) : zm Tryz.prog zT [.box id 0, .d (.int .i64 x)] σ K := c_says hσ (by rw [zoI]; exact hK)
theorem c_aIn {n lo hi : Int} (hσ : σ[id]? = some (zhb (zbj P))) (hK : K (.tup []) (σ.set id (zhb (zbj (P ++ [inE n lo hi]))))) : zm Tryz.prog zaz [.box id 0, .d (.int .i64 n), .d (.int .i64 lo), .d (.int .i64 hi)] σ K := zwv hσ (by rw [zoI]; exact hK)
theorem c_aNum {n : Int} (hσ : σ[id]? = some (zhb (zbj P))) (hK : K (.tup []) (σ.set id (zhb (zbj (P ++ [zjX n]))))) : zm Tryz.prog zaA [.box id 0, .d (.int .i64 n)] σ K := zwu hσ (by rw [zoI]; exact hK)
theorem c_aPos {n : Int} (hσ : σ[id]? = some (zhb (zbj P))) (hK : K (.tup []) (σ.set id (zhb (zbj (P ++ [zrC n]))))) : zm Tryz.prog zbf [.box id 0, .d (.int .i64 n)] σ K := c_askPos hσ (by rw [zoI]; exact hK)
theorem c_aMany {n hi : Int} (hσ : σ[id]? = some (zhb (zbj P))) (hK : K (.tup []) (σ.set id (zhb (zbj (P ++ [inE n 0 hi]))))) : zm Tryz.prog zbH [.box id 0, .d (.int .i64 n), .d (.int .i64 hi)] σ K := c_askMany hσ (by rw [zoI]; exact hK)
theorem c_aSigns {l : List zP} (hσ : σ[id]? = some (zhb (zbj P))) (hl0 : l.length ≤ 1073741824) (hK : K (.tup []) (σ.set id (zhb (zbj (P ++ zbX l))))) : zm Tryz.prog zaO [.box id 0, .d (.slice (zas l))] σ K := zvi hσ hl0 (by rw [thn_apps]; exact hK)
theorem c_aCert {c : zek} (hσ : σ[id]? = some (zhb (zbj P))) (hl0 : c.signs.length ≤ 1073741824) (hK : K (.tup []) (σ.set id (zhb (zbj (P ++ zck c))))) : zm Tryz.prog zcb [.box id 0, zgQ c] σ K := c_askCert hσ hl0 (by rw [thn_apps]; exact hK)
end

end Go.Proofs.YtpgahkdjkanblaaGreat
