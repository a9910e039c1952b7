/- Contracts: a message's clone. -/
import Derived.Test.YtdgcepphjnoalaaGreatMa3
set_option linter.all false
set_option maxRecDepth 100000
set_option linter.unusedSimpArgs false
set_option linter.unusedVariables false
namespace Go.Proofs.YtdgcepphjnoalaaGreat
open Go.AW

theorem preps_seven (l : List zjy) : ∀ e ∈ zgy l, e.length = 7 := zih (f := zhG) (fun _ => rfl) l
theorem changes_eight (l : List zdx) : ∀ e ∈ zeu l, e.length = 8 := zih (f := zcD) (fun _ => rfl) l
theorem entries_five (l : List zhh) : ∀ e ∈ zet l, e.length = 5 := zih (f := zei) (fun _ => rfl) l
theorem zoL {σ : List zc} {c : zdx} (hc : zif c) {K : AV → List zc → Prop} (hK : K (.agg (changeL c)) σ) : zl Tryz.prog zdI [.agg (changeL c)] σ K := by
  refine acall_frz zfa.is rfl 2 fun hl _ => zfa.goes ?_
  have hlen : (zgy c.above).length = c.above.length := List.length_map ..
  have h7 := preps_seven c.above
  have hal := hc.above
  simp only [zfd, iN, bT, bF, eN, zl5]
  refine zaP ?_
  refine ziy (c := c.cert) hc.signs ?_
  refine zaP ?_
  refine c_clPrepM h7 (by omega) fun g => ?_
  refine zbi hlen ?_
  refine zae c.above.length (fun k vs s => vs = [.d (.int .i64 k)] ∧ s = σ ++ [zc.box [.d (.int .i64 c.view), .d (.int .i64 c.src), .d (.int .i64 c.cert.seq), .d (.int .i64 c.cert.dig), .d (.slice (zbQ c.cert.signs)), .rsl (σ.length + 2) g 7 0 c.above.length, .d (.int .i64 c.key), .d (.int .i64 c.dig)],
    .box [.d (.int .i64 0), .d (.int .i64 0), .d (.int .i64 0), .d (.int .i64 0), .exact [], .exact [], .d (.int .i64 0), .d (.int .i64 0)], .row g 7 (zdw (zgy c.above))]) ⟨rfl, by first | rfl | simp⟩ ?_
  rintro k vs s hk ⟨rfl, rfl⟩
  by_cases hlt : k < c.above.length
  · have hd : decide ((k : Int) < (c.above.length : Int)) = true := by simp; omega
    have hx : c.above[k]? = some c.above[k] := by simp [hlt]
    have hgx := zbZ (f := zhG) hx
    have hsm := hc.each _ (List.getElem_mem hlt)
    obtain ⟨p, hp⟩ : ∃ p, c.above[k] = p := ⟨_, rfl⟩
    rw [hp] at hx hgx hsm
    have g5 := zmm h7 hgx (i := 5) (by omega)
    have g6 := zmm h7 hgx (i := 6) (by omega)
    have s5 := zqH g5
    have s6 := zqH g6
    have hfl : (zdw (zgy c.above)).length = c.above.length * 7 := by rw [zjr h7, hlen]
    simp only [zhG, List.getElem?_cons_succ, List.getElem?_cons_zero, Option.map_some] at g5 g6 s5 s6
    obtain ⟨R, hR⟩ : ∃ R, zdw (zgy c.above) = R := ⟨_, rfl⟩
    rw [hR] at g5 g6 s5 s6 hfl ⊢
    have zz5 : k * 7 + 5 + 1 ≤ R.length := by omega
    have zz6 : k * 7 + 6 + 1 ≤ R.length := by omega
    have zk : 0 ≤ (k : Int) := by omega
    refine zbi (zj hd (zj g5 (zj g6 (zj s5 (zj s6 (zj zk (zj zz5 (zj zz6 hd)))))))) ?_
    refine c_clSign hsm.signs ?_
    refine zbi (zj hd (zj g5 (zj g6 (zj s5 (zj s6 (zj zk (zj zz5 (zj zz6 hd)))))))) ?_
    refine zlD (b := p.batch) hsm.batch ?_
    refine zbi (zj hd (zj g5 (zj g6 (zj s5 (zj s6 (zj zk (zj zz5 (zj zz6 (wki k (by omega)))))))))) ?_
    exact zdE.next hlt ⟨rfl, rfl⟩
  · have hd : decide ((k : Int) < (c.above.length : Int)) = false := by simp; omega
    refine zbi hd ?_
    have hr : ∀ A B : zc, frz (σ ++ [A, B, .row g 7 (zdw (zgy c.above))]) σ.length 2 (.rsl (σ.length + 2) g 7 0 c.above.length) = some (.slice (zgy c.above)) := fun A B => by
      rw [← hlen]
      exact frz_row (m := 0) (by rw [zw]; rfl) (by omega) h7
    refine endsF_app (r := .agg (changeL c)) ?_ hl hK
    simp only [zdg, frzT, frz1, List.map_cons, List.map_nil, frz_d, hr, allO]
abbrev zero30 : List AV := [.d (.int .i64 0), .d (.int .i64 0), .d (.int .i64 0), .d (.int .i64 0), .d (.int .i64 0), .d (.int .i64 0), .d (.int .i64 0), .d (.int .i64 0), .d (.int .i64 0), .exact [], .d (.int .i64 0), .d (.int .i64 0), .exact [], .exact [], .exact [], .exact [], .d (.str []), .d (.int .i64 0), .d (.str []), .d (.int .i64 0), .exact [], .exact [], .d (.int .i64 0), .d (.int .i64 0), .exact [], .d (.int .i64 0), .d (.int .i64 0), .exact [], .d (.int .i64 0), .d (.int .i64 0)]
abbrev msgL2 (m : zfc) (a b : AV) : List AV :=
  [.d (.int .i64 m.kind), .d (.int .i64 m.src), .d (.int .i64 m.view), .d (.int .i64 m.seq), .d (.int .i64 m.dig), .d (.int .i64 m.client), .d (.int .i64 m.time), .d (.int .i64 m.rerr), .d (.int .i64 m.roff), .d (.slice (zcR m.batch)),
    .d (.int .i64 m.cert.seq), .d (.int .i64 m.cert.dig), .d (.slice (zbQ m.cert.signs)), a, b, .d (.slice (bcs m.state)), .d (.str m.topic), .d (.int .i64 m.offset),
    .d (.str m.proof.topic), .d (.int .i64 m.proof.offset), .d (.slice (bcs m.proof.rec_)), .d (.slice (zqR m.proof.headers)), .d (.int .i64 m.proof.index), .d (.int .i64 m.proof.count), .d (.slice (zlt m.proof.path)), .d (.int .i64 m.proof.cert.seq), .d (.int .i64 m.proof.cert.dig), .d (.slice (zbQ m.proof.cert.signs)), .d (.int .i64 m.key), .d (.int .i64 m.sdig)]
theorem c_mgClone {σ : List zc} {m : zfc} (hm : zdy m) {K : AV → List zc → Prop} (hK : K (znr m) σ) : zl Tryz.prog zgE [znr m] σ K := by
  refine acall_frz ziG.is rfl 2 fun hl _ => ziG.goes ?_
  have hcl : (zeu m.changes).length = m.changes.length := List.length_map ..
  have hel : (zet m.entries).length = m.entries.length := List.length_map ..
  have h8 := changes_eight m.changes
  have h5 := entries_five m.entries
  have hal := hm.changes
  have hbl := hm.entries
  simp only [ziL, iN, bT, bF, eN, zl3]
  refine zaP ?_
  refine zlD (b := m.batch) hm.batchS ?_
  refine zaP ?_
  refine ziy (c := m.cert) hm.signs ?_
  refine zaP ?_
  refine c_clByt zhy (by rw [zaJ]; exact hm.state) ?_
  refine zaP ?_
  refine c_clChangeM h8 (by omega) fun g => ?_
  refine zbi hcl ?_
  refine c_clEntryM h5 (by omega) fun g2 => ?_
  refine zbi (zj hcl hel) ?_
  obtain ⟨R, hR⟩ : ∃ R, zdw (zeu m.changes) = R := ⟨_, rfl⟩
  obtain ⟨Q, hQ⟩ : ∃ R, zdw (zet m.entries) = R := ⟨_, rfl⟩
  have hRl : R.length = m.changes.length * 8 := by rw [← hR, zjr h8, hcl]
  have hQl : Q.length = m.entries.length * 5 := by rw [← hQ, zjr h5, hel]
  rw [hR, hQ]
  refine zae m.changes.length (fun k vs s => vs = [.d (.int .i64 k)] ∧ s = σ ++ [zc.box (msgL2 m (.rsl (σ.length + 2) g 8 0 m.changes.length) (.rsl (σ.length + 3) g2 5 0 m.entries.length)), .box zero30, .row g 8 R, .row g2 5 Q]) ⟨rfl, rfl⟩ ?_
  rintro k vs s hk ⟨rfl, rfl⟩
  by_cases hlt : k < m.changes.length
  · have hd : decide ((k : Int) < (m.changes.length : Int)) = true := by simp; omega
    have hx : m.changes[k]? = some m.changes[k] := by simp [hlt]
    have hgx := zbZ (f := zcD) hx
    have hsm := (hm.change _ (List.getElem_mem hlt)).2
    obtain ⟨c, hc⟩ : ∃ c, m.changes[k] = c := ⟨_, rfl⟩
    rw [hc] at hx hgx hsm
    have g8 := zos h8 hgx
    have s8 := row_same8 h8 hgx
    rw [hR] at g8 s8
    have zz8 : k * 8 + 8 ≤ R.length := by omega
    have zk : 0 ≤ (k : Int) := by omega
    refine zpb (zj hd (zj zk (zj zz8 g8))) ?_
    refine zoL (c := c) hsm ?_
    refine zbi (zj hd (zj zk (zj zz8 (wki k (by omega))))) ?_
    simp only [zcD, List.map_cons, List.map_nil, List.cons_append, List.nil_append] at s8
    exact zdE.next hlt ⟨rfl, by rw [s8]⟩
  · have hd : decide ((k : Int) < (m.changes.length : Int)) = false := by simp; omega
    refine zbi hd ?_
    refine zae m.entries.length (fun k vs s => vs = [.d (.int .i64 k)] ∧ s = σ ++ [zc.box (msgL2 m (.rsl (σ.length + 2) g 8 0 m.changes.length) (.rsl (σ.length + 3) g2 5 0 m.entries.length)), .box zero30, .row g 8 R, .row g2 5 Q]) ⟨rfl, rfl⟩ ?_
    rintro k vs s hk ⟨rfl, rfl⟩
    by_cases hlt : k < m.entries.length
    · have hd : decide ((k : Int) < (m.entries.length : Int)) = true := by simp; omega
      have hx : m.entries[k]? = some m.entries[k] := by simp [hlt]
      have hgx := zbZ (f := zei) hx
      have hsm := (hm.entry _ (List.getElem_mem hlt)).2
      obtain ⟨x, hxe⟩ : ∃ c, m.entries[k] = c := ⟨_, rfl⟩
      rw [hxe] at hx hgx hsm
      have g2' := zmm h5 hgx (i := 2) (by omega)
      have s2 := zqH g2'
      simp only [zei, List.getElem?_cons_succ, List.getElem?_cons_zero, Option.map_some] at g2' s2
      rw [hQ] at g2' s2
      have zz2 : k * 5 + 2 + 1 ≤ Q.length := by omega
      have zk : 0 ≤ (k : Int) := by omega
      refine gq24 (zj hd (zj zk (zj zz2 g2'))) ?_
      refine zlD (b := x.batch) hsm ?_
      refine gq24 (zj hd (zj zk (zj zz2 (zj s2 (wki k (by omega)))))) ?_
      exact zdE.next hlt ⟨rfl, rfl⟩
    · have hd : decide ((k : Int) < (m.entries.length : Int)) = false := by simp; omega
      have hp := hm.proof
      have hh5 : ∀ e ∈ zqR m.proof.headers, e.length = 5 := zih (f := hdrD) (fun _ => rfl) _
      have hh1 : ∀ e ∈ zlt m.proof.path, e.length = 1 := zih (f := fun x => [D.int .i64 x]) (fun _ => rfl) _
      refine gq24 hd ?_
      refine c_clByt zhy (by rw [zaJ]; have := hp.rec_; omega) ?_
      refine zaP ?_
      refine c_clHdr hh5 (by rw [List.length_map]; exact hp.headers) ?_
      refine zaP ?_
      refine c_clDig hh1 (by rw [List.length_map]; exact hp.path) ?_
      refine zaP ?_
      refine ziy (c := m.proof.cert) hp.signs ?_
      refine zaP ?_
      have hr1 : ∀ A B : zc, frz (σ ++ [A, B, .row g 8 R, .row g2 5 Q]) σ.length 2 (.rsl (σ.length + 2) g 8 0 m.changes.length) = some (.slice (zeu m.changes)) := fun A B => by
        rw [← hcl, ← hR]
        exact frz_row (m := 0) (by rw [zw]; rfl) (by omega) h8
      have hr2 : ∀ A B : zc, frz (σ ++ [A, B, .row g 8 R, .row g2 5 Q]) σ.length 2 (.rsl (σ.length + 3) g2 5 0 m.entries.length) = some (.slice (zet m.entries)) := fun A B => by
        rw [← hel, ← hQ]
        exact frz_row (m := 0) (by rw [zw]; rfl) (by omega) h5
      refine endsF_app (r := znr m) ?_ hl hK
      simp only [zdg, frzT, frz1, List.map_cons, List.map_nil, frz_d, hr1, hr2, allO]
end Go.Proofs.YtdgcepphjnoalaaGreat
