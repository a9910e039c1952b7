/- Contracts: a message's clone. -/
import Derived.Test.YtpgahkdjkanblaaGreatMa3
import Derived.Test.YtpgahkdjkanblaaGreatNv2
import Derived.Test.YtpgahkdjkanblaaGreatPr4
set_option linter.all false
set_option maxRecDepth 100000
set_option linter.unusedSimpArgs false
set_option linter.unusedVariables false
namespace Go.Proofs.YtpgahkdjkanblaaGreat
open Go.AW

theorem preps_seven (l : List zca) : ∀ e ∈ zfG l, e.length = 7 := zfS (f := zgI) (fun _ => rfl) l
theorem changes_eight (l : List zO) : ∀ e ∈ zaL l, e.length = 8 := zfS (f := zbH) (fun _ => rfl) l
theorem entries_five (l : List zaI) : ∀ e ∈ zah l, e.length = 5 := zfS (f := zdC) (fun _ => rfl) l
theorem zsC {σ : List zd} {c : zO} (hc : zlg c) {K : KT} (hK : K (.agg (zek c)) σ) : zl Tryz.prog zfn [.agg (zek c)] σ K := by
  refine zsI zgO.is rfl 2 fun hl _ => zgO.goes ?_
  have hlen : (zfG c.above).length = c.above.length := List.length_map ..
  have h7 := preps_seven c.above
  have hal := hc.above
  simp only [zgY, iN, bT, bF, eN]
  refine zaF ?_
  refine zly (c := c.cert) hc.signs ?_
  refine zaF ?_
  refine c_clPrepM h7 (by omega) fun g => ?_
  refine zlu hlen ?_
  refine zy c.above.length (fun k vs s => vs = [.d (.int .i64 k)] ∧ s = σ ++ [zd.box [.d (.int .i64 c.view), .d (.int .i64 c.src), .d (.int .i64 c.cert.seq), .d (.int .i64 c.cert.dig), .d (.slice (zab c.cert.signs)), .rsl (σ.length + 2) g 7 0 c.above.length, .d (.int .i64 c.key), .d (.int .i64 c.dig)],
    .box [.d (.int .i64 0), .d (.int .i64 0), .d (.int .i64 0), .d (.int .i64 0), .exact [], .exact [], .d (.int .i64 0), .d (.int .i64 0)], .row g 7 (zbb (zfG c.above))]) ⟨rfl, by first | rfl | simp⟩ ?_
  rintro k vs s hk ⟨rfl, rfl⟩
  by_cases hlt : k < c.above.length
  · have hd : decide ((k : Int) < (c.above.length : Int)) = true := by simp; omega
    have hx : c.above[k]? = some c.above[k] := by simp [hlt]
    have hgx := zal (f := zgI) hx
    have hsm := hc.each _ (List.getElem_mem hlt)
    obtain ⟨p, hp⟩ : ∃ p, c.above[k] = p := ⟨_, rfl⟩
    rw [hp] at hx hgx hsm
    have g5 := zqA h7 hgx (i := 5) (by omega)
    have g6 := zqA h7 hgx (i := 6) (by omega)
    have s5 := zuB g5
    have s6 := zuB g6
    have hfl : (zbb (zfG c.above)).length = c.above.length * 7 := by rw [zgu h7, hlen]
    simp only [zgI, List.getElem?_cons_succ, List.getElem?_cons_zero, Option.map_some] at g5 g6 s5 s6
    obtain ⟨R, hR⟩ : ∃ R, zbb (zfG c.above) = R := ⟨_, rfl⟩
    rw [hR] at g5 g6 s5 s6 hfl ⊢
    have z5 : k * 7 + 5 + 1 ≤ R.length := by omega
    have z6 : k * 7 + 6 + 1 ≤ R.length := by omega
    have zk : 0 ≤ (k : Int) := by omega
    refine zlu (zS hd (zS g5 (zS g6 (zS s5 (zS s6 (zS zk (zS z5 (zS z6 hd)))))))) ?_
    refine c_clSign hsm.signs ?_
    refine zlu (zS hd (zS g5 (zS g6 (zS s5 (zS s6 (zS zk (zS z5 (zS z6 hd)))))))) ?_
    refine zkR (b := p.batch) hsm.batch ?_
    refine zlu (zS hd (zS g5 (zS g6 (zS s5 (zS s6 (zS zk (zS z5 (zS z6 (wki k (by omega)))))))))) ?_
    exact zbp.next hlt ⟨rfl, rfl⟩
  · have hd : decide ((k : Int) < (c.above.length : Int)) = false := by simp; omega
    refine zlu hd ?_
    have hr : ∀ A B : zd, frz (σ ++ [A, B, .row g 7 (zbb (zfG c.above))]) σ.length 2 (.rsl (σ.length + 2) g 7 0 c.above.length) = some (.slice (zfG c.above)) := fun A B => by
      rw [← hlen]
      exact zoA (m := 0) (by rw [zn]; rfl) (by omega) h7
    refine zmQ (r := .agg (zek c)) ?_ hl hK
    simp only [zdy, frzT, ztL, List.map_cons, List.map_nil, frz_d, hr, allO]
abbrev ztj : List AV := [.d (.int .i64 0), .d (.int .i64 0), .d (.int .i64 0), .d (.int .i64 0), .d (.int .i64 0), .d (.int .i64 0), .d (.int .i64 0), .d (.int .i64 0), .d (.int .i64 0), .exact [], .d (.int .i64 0), .d (.int .i64 0), .exact [], .exact [], .exact [], .exact [], .d (.str []), .d (.int .i64 0), .d (.str []), .d (.int .i64 0), .exact [], .exact [], .d (.int .i64 0), .d (.int .i64 0), .exact [], .d (.int .i64 0), .d (.int .i64 0), .exact [], .d (.int .i64 0), .d (.int .i64 0)]
abbrev msgL2 (m : zes) (a b : AV) : List AV :=
  [.d (.int .i64 m.kind), .d (.int .i64 m.src), .d (.int .i64 m.view), .d (.int .i64 m.seq), .d (.int .i64 m.dig), .d (.int .i64 m.client), .d (.int .i64 m.time), .d (.int .i64 m.rerr), .d (.int .i64 m.roff), .d (.slice (zbD m.batch)),
    .d (.int .i64 m.cert.seq), .d (.int .i64 m.cert.dig), .d (.slice (zab m.cert.signs)), a, b, .d (.slice (bcs m.state)), .d (.str m.topic), .d (.int .i64 m.offset),
    .d (.str m.proof.topic), .d (.int .i64 m.proof.offset), .d (.slice (bcs m.proof.rec_)), .d (.slice (hdrsE m.proof.headers)), .d (.int .i64 m.proof.index), .d (.int .i64 m.proof.count), .d (.slice (zse m.proof.path)), .d (.int .i64 m.proof.cert.seq), .d (.int .i64 m.proof.cert.dig), .d (.slice (zab m.proof.cert.signs)), .d (.int .i64 m.key), .d (.int .i64 m.sdig)]
theorem gq68 {A P Q : Prop} (a : A) (h : Q) (e : A → Hd Q → P := by intro a h; (repeat' first | simp -dsimp only [↓zfa, ↓zat, ↓zbt, ↓zfb, ↓zeW, ↓zeU, ↓zeX, ↓zeV, ↓zby, ↓zbu, ↓zbz, ↓zbv, ↓zeY, ↓zbs, ↓zbA, ↓zbw, ↓zbB, ↓zbx, ↓zeT, ↓zeZ, ↓zbr, ↓zbC, ↓zeQ, ↓zeP, ↓zeS, iN, bT, bF, eN, ↓zcO, ↓unC, ↓zP, ↓zG, ↓zH, ↓zK, ↓zW, ↓zaz, ↓zdn, ↓zau, ↓zbf, ↓zQ, ↓zg, ↓zf, ↓zbY, ↓zb, ↓zae, ↓zL, ↓zaN, ↓zaO, ↓zc, ↓zB, ↓zj, ↓zE, ↓zY, ↓zdz, ↓zdA, ↓zam, ↓zap, ↓zaK, ↓zaV, ↓zbj, ↓zm, ↓zai, ↓zJ, ↓zr, ↓zT, zdD, zbo, zbk, unA, zcZ, bnd, zdZ, zac, zR, zdT, dm, dm1, zI, zan, zeq, zep, zZ, Q0, Q1, Q2, Q3, Q4, Q5, zX, zn, zo, zF, zA, Q6, Q7, Q8, Q9, Q10, Q11, Q12, Q13, Q14, Nat.reduceAdd, Q15, Int.reduceToNat, Q16, Q17, Q18, Q19, Q20, reduceIte, Q21, Q22, zw, rep, zU, zeo, toD, zaa, Q23, Q24, Q25, Q26, Q27, Q28, Nat.reduceLeDiff, Q29, Nat.reduceSub, Q30, Q31, Q32, sc, Q33, Q34, Q35, Q36, Q37, Q26, Q38, Q39, zlJ, zlG, zlD, zlK, zeM, zlH, zlE, zlI, zlF, zeL, zeN, zlL, zlM, Bool.not_true, Bool.not_false, List.length_map, Nat.sub_zero, z2, a] | with_reducible refine zmc ?_ | fail); exact h.go) : P := e a ⟨h⟩
theorem gq69 {A P Q : Prop} (a : A) (h : Q) (e : A → Hd Q → P := by intro a h; (repeat' first | simp -dsimp only [↓zfa, ↓zat, ↓zbt, ↓zfb, ↓zeW, ↓zeU, ↓zeX, ↓zeV, ↓zby, ↓zbu, ↓zbz, ↓zbv, ↓zeY, ↓zbs, ↓zbA, ↓zbw, ↓zbB, ↓zbx, ↓zeT, ↓zeZ, ↓zbr, ↓zbC, ↓zeQ, ↓zeP, ↓zeS, iN, bT, bF, eN, ↓zcO, ↓unC, ↓zP, ↓zG, ↓zH, ↓zK, ↓zW, ↓zaz, ↓zdn, ↓zau, ↓zbf, ↓zQ, ↓zg, ↓zf, ↓zbY, ↓zb, ↓zae, ↓zL, ↓zaN, ↓zaO, ↓zc, ↓zB, ↓zj, ↓zE, ↓zY, ↓zdz, ↓zdA, ↓zam, ↓zap, ↓zaK, ↓zaV, ↓zbj, ↓zm, ↓zai, ↓zJ, ↓zr, ↓zT, zdD, zbo, zbk, unA, zcZ, bnd, zdZ, zac, zR, zdT, dm, dm1, zI, zan, zeq, zep, zZ, Q0, Q1, Q2, Q3, Q4, Q5, zX, zn, zo, zF, zA, Q6, Q7, Q8, Q9, Q10, Q11, Q12, Q13, Q14, Nat.reduceAdd, Q15, Int.reduceToNat, Q16, Q17, Q18, Q19, Q20, reduceIte, Q21, Q22, zw, rep, zU, zeo, toD, zaa, Q23, Q24, Q25, Q26, Q27, Q28, Nat.reduceLeDiff, Q29, Nat.reduceSub, Q30, Q31, Q32, sc, Q33, Q34, Q35, Q36, Q37, Q26, Q38, Q39, zlJ, zlG, zlD, zlK, zeM, zlH, zlE, zlI, zlF, zeL, zeN, zlL, zlM, Bool.not_true, Bool.not_false, List.length_map, Nat.sub_zero, a] | with_reducible refine zmc ?_ | fail); exact h.go) : P := e a ⟨h⟩
theorem c_mgClone {σ : List zd} {m : zes} (hm : zcH m) {K : KT} (hK : K (zlf m) σ) : zl Tryz.prog ziZ [zlf m] σ K := by
  refine zsI zlO.is rfl 2 fun hl _ => zlO.goes ?_
  have hcl : (zaL m.changes).length = m.changes.length := List.length_map ..
  have hel : (zah m.entries).length = m.entries.length := List.length_map ..
  have h8 := changes_eight m.changes
  have h5 := entries_five m.entries
  have hal := hm.changes
  have hbl := hm.entries
  simp only [zme, iN, bT, bF, eN]
  refine zaF ?_
  refine zkR (b := m.batch) hm.batchS ?_
  refine zaF ?_
  refine zly (c := m.cert) hm.signs ?_
  refine zaF ?_
  refine c_clByt zht (by rw [zem]; exact hm.state) ?_
  refine zaF ?_
  refine c_clChangeM h8 (by omega) fun g => ?_
  refine zlu hcl ?_
  refine c_clEntryM h5 (by omega) fun g2 => ?_
  refine zlu (zS hcl hel) ?_
  obtain ⟨R, hR⟩ : ∃ R, zbb (zaL m.changes) = R := ⟨_, rfl⟩
  obtain ⟨Q, hQ⟩ : ∃ R, zbb (zah m.entries) = R := ⟨_, rfl⟩
  have hRl : R.length = m.changes.length * 8 := by rw [← hR, zgu h8, hcl]
  have hQl : Q.length = m.entries.length * 5 := by rw [← hQ, zgu h5, hel]
  rw [hR, hQ]
  refine zy m.changes.length (fun k vs s => vs = [.d (.int .i64 k)] ∧ s = σ ++ [zd.box (msgL2 m (.rsl (σ.length + 2) g 8 0 m.changes.length) (.rsl (σ.length + 3) g2 5 0 m.entries.length)), .box ztj, .row g 8 R, .row g2 5 Q]) ⟨rfl, rfl⟩ ?_
  rintro k vs s hk ⟨rfl, rfl⟩
  by_cases hlt : k < m.changes.length
  · have hd : decide ((k : Int) < (m.changes.length : Int)) = true := by simp; omega
    have hx : m.changes[k]? = some m.changes[k] := by simp [hlt]
    have hgx := zal (f := zbH) hx
    have hsm := (hm.change _ (List.getElem_mem hlt)).2
    obtain ⟨c, hc⟩ : ∃ c, m.changes[k] = c := ⟨_, rfl⟩
    rw [hc] at hx hgx hsm
    have g8 := zpl h8 hgx
    have s8 := row_same8 h8 hgx
    rw [hR] at g8 s8
    have z8 : k * 8 + 8 ≤ R.length := by omega
    have zk : 0 ≤ (k : Int) := by omega
    refine znN (zS hd (zS zk (zS z8 g8))) ?_
    refine zsC (c := c) hsm ?_
    refine zlu (zS hd (zS zk (zS z8 (wki k (by omega))))) ?_
    simp only [zbH, List.map_cons, List.map_nil, List.cons_append, List.nil_append] at s8
    exact zbp.next hlt ⟨rfl, by rw [s8]⟩
  · have hd : decide ((k : Int) < (m.changes.length : Int)) = false := by simp; omega
    refine zlu hd ?_
    refine zy m.entries.length (fun k vs s => vs = [.d (.int .i64 k)] ∧ s = σ ++ [zd.box (msgL2 m (.rsl (σ.length + 2) g 8 0 m.changes.length) (.rsl (σ.length + 3) g2 5 0 m.entries.length)), .box ztj, .row g 8 R, .row g2 5 Q]) ⟨rfl, rfl⟩ ?_
    rintro k vs s hk ⟨rfl, rfl⟩
    by_cases hlt : k < m.entries.length
    · have hd : decide ((k : Int) < (m.entries.length : Int)) = true := by simp; omega
      have hx : m.entries[k]? = some m.entries[k] := by simp [hlt]
      have hgx := zal (f := zdC) hx
      have hsm := (hm.entry _ (List.getElem_mem hlt)).2
      obtain ⟨x, hxe⟩ : ∃ c, m.entries[k] = c := ⟨_, rfl⟩
      rw [hxe] at hx hgx hsm
      have g2' := zqA h5 hgx (i := 2) (by omega)
      have s2 := zuB g2'
      simp only [zdC, List.getElem?_cons_succ, List.getElem?_cons_zero, Option.map_some] at g2' s2
      rw [hQ] at g2' s2
      have z2 : k * 5 + 2 + 1 ≤ Q.length := by omega
      have zk : 0 ≤ (k : Int) := by omega
      refine gq68 (zS hd (zS zk g2')) ?_
      refine zkR (b := x.batch) hsm ?_
      refine gq68 (zS hd (zS zk (zS s2 (wki k (by omega))))) ?_
      exact zbp.next hlt ⟨rfl, rfl⟩
    · have hd : decide ((k : Int) < (m.entries.length : Int)) = false := by simp; omega
      have hp := hm.proof
      have hh5 : ∀ e ∈ hdrsE m.proof.headers, e.length = 5 := zfS (f := hdrD) (fun _ => rfl) _
      have hh1 : ∀ e ∈ zse m.proof.path, e.length = 1 := zfS (f := fun x => [D.int .i64 x]) (fun _ => rfl) _
      refine gq69 hd ?_
      refine c_clByt zht (by rw [zem]; have := hp.rec_; omega) ?_
      refine zaF ?_
      refine c_clHdr hh5 (by rw [List.length_map]; exact hp.headers) ?_
      refine zaF ?_
      refine c_clDig hh1 (by rw [List.length_map]; exact hp.path) ?_
      refine zaF ?_
      refine zly (c := m.proof.cert) hp.signs ?_
      refine zaF ?_
      have hr1 : ∀ A B : zd, frz (σ ++ [A, B, .row g 8 R, .row g2 5 Q]) σ.length 2 (.rsl (σ.length + 2) g 8 0 m.changes.length) = some (.slice (zaL m.changes)) := fun A B => by
        rw [← hcl, ← hR]
        exact zoA (m := 0) (by rw [zn]; rfl) (by omega) h8
      have hr2 : ∀ A B : zd, frz (σ ++ [A, B, .row g 8 R, .row g2 5 Q]) σ.length 2 (.rsl (σ.length + 3) g2 5 0 m.entries.length) = some (.slice (zah m.entries)) := fun A B => by
        rw [← hel, ← hQ]
        exact zoA (m := 0) (by rw [zn]; rfl) (by omega) h5
      refine zmQ (r := zlf m) ?_ hl hK
      simp only [zdy, frzT, ztL, List.map_cons, List.map_nil, frz_d, hr1, hr2, allO]
end Go.Proofs.YtpgahkdjkanblaaGreat

/- Contracts: a new view is sealed, both sides. -/
set_option maxRecDepth 100000
set_option linter.unusedSimpArgs false
set_option linter.unusedVariables false
namespace Go.Proofs.YtpgahkdjkanblaaGreat
open Go.AW

abbrev znK (m : zes) (s : zt) : zes := { m with key := s.key, sdig := s.dig }
theorem c_auWith8 {σ : List zd} {m : zes} {s : zt} (hm : zcH m) (hk : m.kind = 8) {K : KT} (hK : K (zlf (znK m s)) σ) : zl Tryz.prog zlq [zlf m, .agg [.d (.int .i64 s.key), .d (.int .i64 s.dig)]] σ K := by
  refine ze zsp.is rfl fun hl _ => zsp.goes ?_
  simp only [zsO, iN, bT, bF, eN]
  refine zaF ?_
  refine c_mgClone (m := m) hm ?_
  refine zlu (zS (show (m.kind == 1) = false by rw [hk]; rfl) (zS (show (m.kind == 2) = false by rw [hk]; rfl) (zS (show (m.kind == 3) = false by rw [hk]; rfl) (zS (show (m.kind == 4) = false by rw [hk]; rfl) (zS (show (m.kind == 5) = false by rw [hk]; rfl) (zS (show (m.kind == 6) = false by rw [hk]; rfl) (zS (show (m.kind == 7) = false by rw [hk]; rfl) (zS (show (m.kind == 8) = true by rw [hk]; rfl) (zS (show (m.kind == 9) = false by rw [hk]; rfl) (zS (show (m.kind == 10) = false by rw [hk]; rfl) (zS (show (m.kind == 11) = false by rw [hk]; rfl) (show (m.kind == 12) = false by rw [hk]; rfl)))))))))))) ?_
  refine zV hl ?_
  exact hK
theorem zrT : msgL zfl = [.d (.int .i64 0), .d (.int .i64 0), .d (.int .i64 0), .d (.int .i64 0), .d (.int .i64 0), .d (.int .i64 0), .d (.int .i64 0), .d (.int .i64 0), .d (.int .i64 0), .d (.slice []), .d (.int .i64 0), .d (.int .i64 0), .d (.slice []), .d (.slice []), .d (.slice []), .d (.slice []), .d (.str []), .d (.int .i64 0), .d (.str []), .d (.int .i64 0), .d (.slice []), .d (.slice []), .d (.int .i64 0), .d (.int .i64 0), .d (.slice []), .d (.int .i64 0), .d (.int .i64 0), .d (.slice []), .d (.int .i64 0), .d (.int .i64 0)] := rfl
theorem zuU {m : zes} (h : zcK (zdE m) = 0) : (zdb m).length ≤ 1073741824 := by
  have := uns_len h
  simp only [zdb, h, if_true, List.length_cons]
  omega
theorem c_auSeal8 {i : TGi} {σ : List zd} {L : List (List UInt8)} {G : List zt} {m : zes} (h : TG i σ L G) (hL : zkx L) (hg : G.length ≤ 1073741824) (hm : zcH m) (hk : m.kind = 8) {K : KT}
    (hK : K (.tup [zlf (zhF L G m).m, .d (.int .i64 (zhF L G m).e)]) (zev i σ (zhF L G m).L (zhF L G m).G)) : zl Tryz.prog zox [.box i.id 0, .box i.id2 0, zlf m] σ K := by
  refine ze zst.is rfl fun hl _ => zst.goes ?_
  simp only [zsS, iN, bT, bF, eN]
  refine zaF ?_
  refine znH (h.tab.app _) (h.led.app _) hL hg ?_
  refine zaF ?_
  refine zrk (m := m) hm hk ?_
  by_cases h1 : zcK (zdE m) = 0
  rotate_left
  · have h1' : (zcK (zdE m) != 0) = true := by simpa using h1
    have e : zhF L G m = ⟨zfl, zcK (zdE m), L, G⟩ := if_pos h1
    rw [e] at hK
    simp only [h.self, zlf, zrT] at hK
    refine zlu h1' ?_
    refine zV hl ?_
    exact hK
  have h1' : (zcK (zdE m) != 0) = false := by simpa using h1
  have hcb : zdb m = 6 :: zpS (zdE m) := by simp [zdb, h1]
  have hbl := zuU h1
  obtain ⟨u, hu⟩ : ∃ u, zpS (zdE m) = u := ⟨_, rfl⟩
  obtain ⟨C, hC⟩ : ∃ C, zdb m = C := ⟨_, rfl⟩
  have e : zhF L G m = if sgnE L m.src C ≠ 0 then ⟨zfl, sgnE L m.src C, zib L C, zoW L G m.src C⟩
      else ⟨znK m (zsU L m.src C), 0, zib L C, zoW L G m.src C⟩ := by rw [← hC]; exact if_neg (by simpa using h1)
  rw [e] at hK
  have hCu : C = 6 :: u := by rw [← hC, hcb, hu]
  rw [hC] at hbl ⊢
  have hbc : bcs C = zdc 6 :: bcs u := by rw [hCu]; rfl
  rw [hbc]
  refine zlu h1' ?_
  rw [← hbc]
  refine c_auSign (h.app _) hL hbl hg ?_
  rw [h.put_app]
  have h2 := h.put (zib L C) (zoW L G m.src C)
  have hl2 := h.lows hl (zib L C) (zoW L G m.src C)
  have hs2 := zeJ i σ (zib L C) (zoW L G m.src C)
  have hpp : (if sgnE L m.src C ≠ 0 then (⟨zfl, sgnE L m.src C, zib L C, zoW L G m.src C⟩ : MakeR) else ⟨znK m (zsU L m.src C), 0, zib L C, zoW L G m.src C⟩).L = zib L C := by split <;> rfl
  have hpg : (if sgnE L m.src C ≠ 0 then (⟨zfl, sgnE L m.src C, zib L C, zoW L G m.src C⟩ : MakeR) else ⟨znK m (zsU L m.src C), 0, zib L C, zoW L G m.src C⟩).G = zoW L G m.src C := by split <;> rfl
  rw [hpp, hpg] at hK
  clear hpp hpg e
  obtain ⟨S2, hS2⟩ : ∃ S, zev i σ (zib L C) (zoW L G m.src C) = S := ⟨_, rfl⟩
  rw [hS2] at hK hs2 hl2 h2 ⊢
  have r2 : σ.length = S2.length := hs2.symm
  rw [r2] at hl2
  obtain ⟨sg, hsg⟩ : ∃ s, zsU L m.src C = s := ⟨_, rfl⟩
  obtain ⟨N, hN⟩ : ∃ s, sgnE L m.src C = s := ⟨_, rfl⟩
  rw [hsg, hN] at hK
  rw [hsg, hN]
  simp only [zta]
  by_cases hn : N = 0
  · have hq2 : (N != 0) = false := by simpa using hn
    rw [if_neg (by simpa using hn)] at hK
    refine zlu (zS hq2 r2) ?_
    refine c_auWith8 (m := m) (s := sg) hm hk ?_
    refine zlu r2 ?_
    refine zfx rfl ?_ hl2 hK
    simp [zjI, dmT, dm, dm1, zdy, zbL, zfZ]
  · have hq2 : (N != 0) = true := by simpa using hn
    rw [if_pos hn] at hK
    simp only [zlf, zrT] at hK
    refine zlu (zS hq2 r2) ?_
    refine zfx rfl ?_ hl2 hK
    simp [zjI, dmT, dm, dm1, zdy, zbL, zfZ]
end Go.Proofs.YtpgahkdjkanblaaGreat
