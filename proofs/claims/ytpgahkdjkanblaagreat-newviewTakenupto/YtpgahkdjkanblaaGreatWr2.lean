/- Contracts: the bytes of view-changes and new views, the program's. -/
import Derived.Test.YtpgahkdjkanblaaGreatWr1
import Derived.Test.YtpgahkdjkanblaaGreatSm7
set_option linter.all false
set_option maxRecDepth 100000
set_option linter.unusedSimpArgs false
set_option linter.unusedVariables false
namespace Go.Proofs.YtpgahkdjkanblaaGreat
open Go.AW

theorem znr.trans {σ S S2 : List zd} {id : Nat} {B X O O' : zd} (h : znr σ id B O S) (hid : id < σ.length) (h2 : znr S id X O' S2) : znr σ id B O' S2 := by
  obtain ⟨_, _, τ, rfl⟩ := h2
  exact (h.set hid O').app τ
section

variable {σ S : List zd} {id : Nat} {B : zd} {b : List UInt8} {K : KT} (j : znr σ id B (wO b) S) (hid : id < σ.length)
include j hid
theorem ztE {l : List Int} (hb : b.length ≤ 536870912) (hl0 : l.length ≤ 1000) (hi : ∀ x ∈ l, 0 ≤ x ∧ x ≤ 9007199254740992) (hK : ∀ S, znr σ id B (wO (b ++ zcT l)) S → K (.tup []) S) :
    zl Tryz.prog zad [.box id 0, .d (.slice (zse l))] S K := c_wNum j.a hb hl0 hi (hK _ (j.set hid _))
theorem jw_many {n : Nat} (hb : b.length ≤ 536870912) (hn : n ≤ 1073741824) (hK : ∀ S, znr σ id B (wO (b ++ zdv n)) S → K (.tup []) S) :
    zl Tryz.prog zcb [.box id 0, .d (.int .i64 n)] S K := c_wMany j.a hb hn (hK _ (j.set hid _))
theorem jw_sign {k d : Int} (hb : b.length ≤ 536870912) (hc : zag k d = 0) (hK : ∀ S, znr σ id B (wO (b ++ zie k d)) S → K (.tup []) S) :
    zl Tryz.prog zaR [.box id 0, .agg [.d (.int .i64 k), .d (.int .i64 d)]] S K := zuX j.a hb hc (hK _ (j.set hid _))
theorem jw_batch {l : List zu} (hb : b.length ≤ 268435456) (hc : zD l = 0) (hK : ∀ S, znr σ id B (wO (b ++ zcP l)) S → K (.tup []) S) :
    zl Tryz.prog zbF [.box id 0, .d (.slice (zbD l))] S K := c_wBatch j.a hb hc (hK _ (j.set hid _))
theorem jw_signs {l : List zt} (hb : b.length ≤ 268435456) (hc : ∀ e ∈ zfs l, e = 0) (hK : ∀ S, znr σ id B (wO (b ++ ztq l)) S → K (.tup []) S) :
    zl Tryz.prog zcr [.box id 0, .d (.slice (zab l))] S K := c_wSigns j.a hb hc (hK _ (j.set hid _))
theorem jw_cert {c : zfB} (hb : b.length ≤ 134217728) (hc : ∀ e ∈ zfq c, e = 0) (hK : ∀ S, znr σ id B (wO (b ++ certB c)) S → K (.tup []) S) :
    zl Tryz.prog zcJ [.box id 0, zfX c] S K := c_wCert j.a hb hc (hK _ (j.set hid _))
end

theorem c_wBody {σ : List zd} {id : Nat} {b : List UInt8} {c : zO} (hσ : σ[id]? = some (wO b)) (hb : b.length ≤ 67108864) (hc : ∀ e ∈ zil c, e = 0) {K : KT} (hK : K (.tup []) (σ.set id (wO (b ++ zvf c)))) :
    zl Tryz.prog zdK [.box id 0, .agg (zek c)] σ K := by
  refine ze zhQ.is rfl fun hl _ => zhQ.goes ?_
  have hid := zcx hσ
  have hpl : (zfG c.above).length = c.above.length := List.length_map ..
  obtain ⟨h1, h2, h3, h4, h5⟩ := body_ok hc
  have n1 := zC (n := c.view.toNat) (by omega)
  have n2 := zC (n := c.src.toNat) (by omega)
  have n3 := zC (n := c.above.length) (by omega)
  have n4 := certB_len h3
  simp only [zhX, iN, bT, bF, eN]
  have j := znr.first hσ (.box (zek c))
  refine zaF ?_
  refine ztE (l := [c.view, c.src]) j hid (by omega) (by simp) (by simp; omega) fun S j => ?_
  have b0 := j.b
  refine zay b0 ?_
  refine jw_cert (c := c.cert) j hid (by simp [zcT]; omega) h3 fun S j => ?_
  have b0 := j.b
  refine zay (zq b0 hpl) ?_
  refine jw_many (n := c.above.length) j hid (by simp [zcT]; omega) (by omega) fun S j => ?_
  have b0 := j.b
  obtain ⟨Q, hQ⟩ : ∃ Q, b ++ zcT [c.view, c.src] ++ certB c.cert ++ zdv c.above.length = Q := ⟨_, rfl⟩
  have hQl : Q.length ≤ 67108864 + 400 := by rw [← hQ]; simp [zcT]; omega
  rw [hQ] at j
  refine zay (zq b0 hpl) ?_
  refine zy c.above.length (fun k vs S => vs = [.d (.int .i64 k)] ∧ znr σ id (.box (zek c)) (wO (Q ++ ((c.above.take k).map prepB).flatten)) S) ⟨rfl, by simpa using j⟩ ?_
  rintro k vs S hk ⟨rfl, j⟩
  by_cases hlt : k < c.above.length
  · have hd : decide ((k : Int) < (c.above.length : Int)) = true := by simp; omega
    have hx : c.above[k]? = some c.above[k] := by simp [hlt]
    have hpx := h5 _ (List.getElem_mem hlt)
    have hgx := zal (f := zgI) hx
    obtain ⟨p, hp⟩ : ∃ p, c.above[k] = p := ⟨_, rfl⟩
    rw [hp] at hx hgx hpx
    have hlen : (((c.above.take k).map prepB).flatten).length ≤ (c.above.take k).length * 4400 := zfw fun s hm => prepB_len (h5 s (List.mem_of_mem_take hm))
    have hlk : (c.above.take k).length = k := by rw [List.length_take]; omega
    obtain ⟨R, hR⟩ : ∃ R, Q ++ ((c.above.take k).map prepB).flatten = R := ⟨_, rfl⟩
    have hRl : R.length ≤ 67108864 + 36000 := by rw [← hR, List.length_append]; omega
    rw [hR] at j
    obtain ⟨p1, p2, p3, p4, p5, p6⟩ := prep_ok hpx
    have m1 := zC (n := p.view.toNat) (by omega)
    have m2 := zC (n := p.seq.toNat) (by omega)
    have m3 := zC (n := p.dig.toNat) (by omega)
    have m4 := zfF p4
    have m5 := zqb p5
    have hS : id < S.length := zcx j.a
    have i := znr.first j.a (.box (prepL p))
    refine znN (zq hd (zq hgx hpl)) ?_
    refine ztE (l := [p.view, p.seq, p.dig]) i hS (by omega) (by simp) (by simp; omega) fun S2 i => ?_
    have b0 := i.b
    refine zay b0 ?_
    refine jw_sign i hS (by simp [zcT]; omega) p4 fun S2 i => ?_
    have b0 := i.b
    refine zay b0 ?_
    refine jw_signs i hS (by simp [zcT]; omega) p5 fun S2 i => ?_
    have b0 := i.b
    refine zay b0 ?_
    refine jw_batch i hS (by simp [zcT]; omega) p6 fun S2 i => ?_
    refine zay (wkc k (by omega)) ?_
    refine zbp.next hlt ⟨rfl, (j.trans hid i).as ?_⟩
    rw [zfI hx, ← hR]
    simp [prepB, zcT]
  · have hd : decide ((k : Int) < (c.above.length : Int)) = false := by simp; omega
    rw [show c.above.take k = c.above from List.take_of_length_le (by omega)] at j
    refine zay (zq hd hpl) ?_
    exact (j.as (by rw [← hQ]; simp [zvf, zcT])).done (zqQ _ _) hl hK
theorem c_wChange {σ : List zd} {id : Nat} {b : List UInt8} {c : zO} (hσ : σ[id]? = some (wO b)) (hb : b.length ≤ 67108864) (hc : ∀ e ∈ zbN c, e = 0) {K : KT} (hK : K (.tup []) (σ.set id (wO (b ++ zkt c)))) :
    zl Tryz.prog zey [.box id 0, .agg (zek c)] σ K := by
  refine ze zgx.is rfl fun hl _ => zgx.goes ?_
  have hid := zcx hσ
  obtain ⟨h1, h2⟩ := zpx hc
  have n1 := zsE h1
  simp only [zgD, iN, bT, bF, eN]
  have j := znr.first hσ (.box (zek c))
  refine zaF ?_
  refine c_wBody (c := c) j.a hb h1 ?_
  have j := j.set hid (wO (b ++ zvf c))
  obtain ⟨S, hS⟩ : ∃ S, (σ ++ [zd.box (zek c)]).set id (wO (b ++ zvf c)) = S := ⟨_, rfl⟩
  rw [hS] at j ⊢
  have b0 := j.b
  refine zay b0 ?_
  refine jw_sign j hid (by simp; omega) h2 fun S j => ?_
  refine zaF ?_
  exact (j.as (by simp [zkt])).done (zqQ _ _) hl hK
end Go.Proofs.YtpgahkdjkanblaaGreat

/- Contracts: the bytes of messages, the program's: view-changes and new views. -/
set_option maxRecDepth 100000
set_option linter.unusedSimpArgs false
set_option linter.unusedVariables false
namespace Go.Proofs.YtpgahkdjkanblaaGreat
open Go.AW

theorem c_wUns7 {σ : List zd} {id : Nat} {b : List UInt8} {m : zes} {c : zO} (hσ : σ[id]? = some (wO b)) (hb : b.length ≤ 1000000) (hk : m.kind = 7) (hch : m.changes = [c]) (hc : ∀ e ∈ zil c, e = 0) {K : KT} (hK : K (.tup []) (σ.set id (wO (b ++ zpS m)))) :
    zl Tryz.prog zbX [.box id 0, zlf m] σ K := by
  refine ze zcD.is rfl fun hl _ => zcD.goes ?_
  have hid := zcx hσ
  have hgx : (zaL m.changes)[0]? = some (zbH c) := by rw [hch]; rfl
  have hgl : (zaL m.changes).length = 1 := by rw [hch]; rfl
  have n1 := zC (n := m.kind.toNat) (by omega)
  simp only [zdS, iN, bT, bF, eN]
  have j := znr.first hσ (msgO m)
  refine zaF ?_
  refine ztE (l := [m.kind]) j hid (by omega) (by simp) (by simp; omega) fun S j => ?_
  have b0 := j.b
  refine znN (zq b0 (zq (show (m.kind == 1) = false by rw [hk]; rfl) (zq (show (m.kind == 2) = false by rw [hk]; rfl) (zq (show (m.kind == 3) = false by rw [hk]; rfl) (zq (show (m.kind == 4) = false by rw [hk]; rfl) (zq (show (m.kind == 5) = false by rw [hk]; rfl) (zq (show (m.kind == 6) = false by rw [hk]; rfl) (zq (show (m.kind == 7) = true by rw [hk]; rfl) (zq (show (m.kind == 8) = false by rw [hk]; rfl) (zq (show (m.kind == 9) = false by rw [hk]; rfl) (zq (show (m.kind == 10) = false by rw [hk]; rfl) (zq (show (m.kind == 11) = false by rw [hk]; rfl) (zq (show (m.kind == 12) = false by rw [hk]; rfl) (zq hgx hgl)))))))))))))) ?_
  refine c_wBody (c := c) j.a (by simp [zcT]; omega) hc ?_
  refine zaF ?_
  exact ((j.set hid _).as (by simp [zpS, hk, hch, zcT])).done (zqQ _ _) hl hK
theorem c_wUns8 {σ : List zd} {id : Nat} {b : List UInt8} {m : zes} (hσ : σ[id]? = some (wO b)) (hb : b.length ≤ 1000000) (hk : m.kind = 8) (hc : ∀ e ∈ zfm m, e = 0) {K : KT} (hK : K (.tup []) (σ.set id (wO (b ++ zpS m)))) :
    zl Tryz.prog zbX [.box id 0, zlf m] σ K := by
  refine ze zcD.is rfl fun hl _ => zcD.goes ?_
  have hid := zcx hσ
  have hcl : (zaL m.changes).length = m.changes.length := List.length_map ..
  have hel : (zah m.entries).length = m.entries.length := List.length_map ..
  obtain ⟨h1, h2, h3, h4, h5, h6⟩ := newv_ok hc
  have n0 := zC (n := m.kind.toNat) (by omega)
  have n1 := zC (n := m.src.toNat) (by omega)
  have n2 := zC (n := m.view.toNat) (by omega)
  have n3 := zC (n := m.changes.length) (by omega)
  have n4 := zC (n := m.entries.length) (by omega)
  simp only [zdS, iN, bT, bF, eN]
  have j := znr.first hσ (msgO m)
  refine zaF ?_
  refine ztE (l := [m.kind]) j hid (by omega) (by simp) (by simp; omega) fun S j => ?_
  have b0 := j.b
  refine zay (zq b0 (zq (show (m.kind == 1) = false by rw [hk]; rfl) (zq (show (m.kind == 2) = false by rw [hk]; rfl) (zq (show (m.kind == 3) = false by rw [hk]; rfl) (zq (show (m.kind == 4) = false by rw [hk]; rfl) (zq (show (m.kind == 5) = false by rw [hk]; rfl) (zq (show (m.kind == 6) = false by rw [hk]; rfl) (zq (show (m.kind == 7) = false by rw [hk]; rfl) (zq (show (m.kind == 8) = true by rw [hk]; rfl) (zq (show (m.kind == 9) = false by rw [hk]; rfl) (zq (show (m.kind == 10) = false by rw [hk]; rfl) (zq (show (m.kind == 11) = false by rw [hk]; rfl) (show (m.kind == 12) = false by rw [hk]; rfl))))))))))))) ?_
  refine ztE (l := [m.src, m.view]) j hid (by simp [zcT]; omega) (by simp) (by simp; omega) fun S j => ?_
  have b0 := j.b
  refine zay (zq b0 hcl) ?_
  refine jw_many (n := m.changes.length) j hid (by simp [zcT]; omega) (by omega) fun S j => ?_
  have b0 := j.b
  obtain ⟨Q, hQ⟩ : ∃ Q, b ++ zcT [m.kind] ++ zcT [m.src, m.view] ++ zdv m.changes.length = Q := ⟨_, rfl⟩
  have hQl : Q.length ≤ 1001000 := by rw [← hQ]; simp [zcT]; omega
  rw [hQ] at j
  refine zay (zq b0 hcl) ?_
  refine zy m.changes.length (fun k vs S => vs = [.d (.int .i64 k)] ∧ znr σ id (msgO m) (wO (Q ++ ((m.changes.take k).map zkt).flatten)) S) ⟨rfl, by simpa using j⟩ ?_
  rintro k vs S hk0 ⟨rfl, j⟩
  have hlenC : ∀ k, (((m.changes.take k).map zkt).flatten).length ≤ 13 * 36020 := by
    intro k
    have := zfw (f := zkt) (n := 36020) (l := m.changes.take k) fun s hm => zsw (h4 s (List.mem_of_mem_take hm))
    have hlk : (m.changes.take k).length ≤ 13 := by rw [List.length_take]; omega
    have : (m.changes.take k).length * 36020 ≤ 13 * 36020 := Nat.mul_le_mul_right _ hlk
    omega
  have hlk1 := hlenC k
  by_cases hlt : k < m.changes.length
  · have hd : decide ((k : Int) < (m.changes.length : Int)) = true := by simp; omega
    have hx : m.changes[k]? = some m.changes[k] := by simp [hlt]
    have hpx := h4 _ (List.getElem_mem hlt)
    have hgx := zal (f := zbH) hx
    obtain ⟨p, hp⟩ : ∃ p, m.changes[k] = p := ⟨_, rfl⟩
    rw [hp] at hx hgx hpx
    have hS : id < S.length := zcx j.a
    have i := znr.first j.a (.box (zek p))
    refine znN (zq hd (zq hgx hcl)) ?_
    refine c_wChange (c := p) i.a (by simp only [List.length_append]; omega) hpx ?_
    refine zay (wkc k (by omega)) ?_
    refine zbp.next hlt ⟨rfl, (j.trans hid (i.set hS _)).as ?_⟩
    rw [zfI hx]
    try simp
  · have hd : decide ((k : Int) < (m.changes.length : Int)) = false := by simp; omega
    rw [show m.changes.take k = m.changes from List.take_of_length_le (by omega)] at j hlk1
    have b0 := j.b
    refine zay (zq hd (zq hcl (zq b0 hel))) ?_
    refine jw_many (n := m.entries.length) j hid (by simp only [List.length_append]; omega) (by omega) fun S j => ?_
    have b0 := j.b
    obtain ⟨R, hR⟩ : ∃ R, Q ++ (m.changes.map zkt).flatten ++ zdv m.entries.length = R := ⟨_, rfl⟩
    have hRl : R.length ≤ 2000000 := by rw [← hR]; simp only [List.length_append]; omega
    rw [hR] at j
    refine zay (zq b0 hel) ?_
    refine zy m.entries.length (fun k vs S => vs = [.d (.int .i64 k)] ∧ znr σ id (msgO m) (wO (R ++ ((m.entries.take k).map zrc).flatten)) S) ⟨rfl, by simpa using j⟩ ?_
    rintro k vs S hk1 ⟨rfl, j⟩
    by_cases hlt : k < m.entries.length
    · have hd : decide ((k : Int) < (m.entries.length : Int)) = true := by simp; omega
      have hx : m.entries[k]? = some m.entries[k] := by simp [hlt]
      have hpx := h6 _ (List.getElem_mem hlt)
      have hgx := zal (f := zdC) hx
      obtain ⟨p, hp⟩ : ∃ p, m.entries[k] = p := ⟨_, rfl⟩
      rw [hp] at hx hgx hpx
      have hlen : (((m.entries.take k).map zrc).flatten).length ≤ (m.entries.take k).length * 4040 := zfw fun s hm => ztP (h6 s (List.mem_of_mem_take hm))
      have hlk : (m.entries.take k).length = k := by rw [List.length_take]; omega
      obtain ⟨T, hT⟩ : ∃ T, R ++ ((m.entries.take k).map zrc).flatten = T := ⟨_, rfl⟩
      have hTl : T.length ≤ 3000000 := by rw [← hT, List.length_append]; omega
      rw [hT] at j
      obtain ⟨p1, p2, p3, p4⟩ := entry_ok hpx
      have m1 := zC (n := p.view.toNat) (by omega)
      have m2 := zC (n := p.seq.toNat) (by omega)
      have m3 := (zju p3).2
      have hS : id < S.length := zcx j.a
      have i := znr.first j.a (.box [.d (.int .i64 p.view), .d (.int .i64 p.seq), .d (.slice (zbD p.batch)), .d (.int .i64 p.key), .d (.int .i64 p.dig)])
      refine znN (zq hd (zq hgx hel)) ?_
      refine ztE (l := [p.view, p.seq]) i hS (by omega) (by simp) (by simp; omega) fun S2 i => ?_
      have b0 := i.b
      refine zay b0 ?_
      refine jw_batch i hS (by simp [zcT]; omega) p3 fun S2 i => ?_
      have b0 := i.b
      refine zay b0 ?_
      refine jw_sign i hS (by simp [zcT]; omega) p4 fun S2 i => ?_
      refine zay (wkc k (by omega)) ?_
      refine zbp.next hlt ⟨rfl, (j.trans hid i).as ?_⟩
      rw [zfI hx, ← hT]
      simp [zrc, zcT]
    · have hd : decide ((k : Int) < (m.entries.length : Int)) = false := by simp; omega
      rw [show m.entries.take k = m.entries from List.take_of_length_le (by omega)] at j
      refine zay (zq hd hel) ?_
      exact (j.as (by rw [← hR, ← hQ]; simp [zpS, hk, newvB, zcT])).done (zqQ _ _) hl hK
theorem c_wShort {σ : List zd} {id : Nat} {b : List UInt8} (hσ : σ[id]? = some (wO b)) {K : KT} (hK : K (.tup [.d (.slice (bcs (if b.length > 262144 then [] else b))), .d (.int .i64 (if b.length > 262144 then 3 else 0))]) σ) :
    zl Tryz.prog zfe [.box id 0] σ K := by
  refine ze zgT.is rfl fun hl _ => zgT.goes ?_
  simp only [zhd, iN, bT, bF, eN]
  by_cases h : b.length > 262144
  · have hd : decide ((b.length : Int) > 262144) = true := by simp; omega
    rw [if_pos h, if_pos h] at hK
    refine zay (zq hσ hd) ?_
    refine zV hl ?_
    exact hK
  · have hd : decide ((b.length : Int) > 262144) = false := by simp; omega
    rw [if_neg h, if_neg h] at hK
    refine zay (zq hσ hd) ?_
    refine zV hl ?_
    exact hK
end Go.Proofs.YtpgahkdjkanblaaGreat
