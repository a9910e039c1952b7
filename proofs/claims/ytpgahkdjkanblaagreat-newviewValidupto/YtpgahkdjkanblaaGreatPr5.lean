/- Contracts: certificates such as a view-change may tell. -/
import Derived.Test.YtpgahkdjkanblaaGreatPr4
import Derived.Test.YtpgahkdjkanblaaGreatKr6
import Derived.Test.YtpgahkdjkanblaaGreatPt2
import Derived.Test.YtpgahkdjkanblaaGreatSpMap
set_option linter.all false
set_option maxRecDepth 100000
set_option linter.unusedSimpArgs false
set_option linter.unusedVariables false
namespace Go.Proofs.YtpgahkdjkanblaaGreat
open Go.AW

def zly (L : List (List UInt8)) (G : List zP) (f view low : Int) : Int → List zbW → Bool
  | _, [] => true
  | last, p :: r => zhe L G f p && (!(decide (p.view ≥ view)) && (!(decide (p.seq ≤ last)) && (!(decide (p.seq - 8 > low)) && zly L G f view low p.seq r)))
theorem zvp {L : List (List UInt8)} {G : List zP} {f view low last : Int} {l : List zbW} {k : Nat} {p : zbW} (h : l[k]? = some p) :
    zly L G f view low last (l.drop k) = (zhe L G f p && (!(decide (p.view ≥ view)) && (!(decide (p.seq ≤ last)) && (!(decide (p.seq - 8 > low)) && zly L G f view low p.seq (l.drop (k + 1)))))) := by
  have hk : k < l.length := (List.getElem?_eq_some_iff.1 h).1
  rw [List.drop_eq_getElem_cons hk, (List.getElem?_eq_some_iff.1 h).2]
  rfl
theorem prepF_seq {L : List (List UInt8)} {G : List zP} {f : Int} {p : zbW} (h : zhe L G f p = true) : 1 ≤ p.seq ∧ p.seq ≤ 9007199254740992 := by
  simp [zhe, zhG] at h
  omega
theorem c_prAbove {σ : List zf} {id m t id2 m2 t2 : Nat} {L : List (List UInt8)} {G : List zP} {f view low : Int} {l : List zbW} (hT : zed σ id m t L) (hG : zee σ id2 m2 t2 G) (hL : zwx L) (hg : G.length ≤ 1073741824) (hp : ∀ p ∈ l, smallP p) (hl0 : l.length ≤ 1073741824) (hlow : zny low)
    {K : KT} (hK : K (.d (.bool (zly L G f view low low l))) σ) : zm Tryz.prog zhB [.box id 0, .box id2 0, .d (.int .i64 f), .d (.int .i64 view), .d (.int .i64 low), .d (.slice (zfI l))] σ K := by
  refine zc zlq.is rfl fun hl _ => zlq.goes ?_
  have fin : ∀ z, zly L G f view low low l = z → K (.d (.bool z)) σ := fun z h => h ▸ hK
  clear hK
  have hlen : (zfI l).length = l.length := List.length_map ..
  simp only [zlI, iN, bT, bF, eN]
  refine zH hlen ?_
  refine zl l.length (fun k vs s => ∃ last : Int, vs = [.d (.int .i64 last), .d (.int .i64 k)] ∧ (∃ T, s = σ ++ T) ∧ low ≤ last ∧
      zly L G f view low low l = zly L G f view low last (l.drop k)) ⟨low, rfl, ⟨[], by simp⟩, Int.le_refl _, by simp⟩ ?_
  rintro k vs s hk ⟨last, rfl, ⟨T, rfl⟩, hlast, hpf⟩
  by_cases hlt : k < l.length
  · have hd : decide ((k : Int) < (l.length : Int)) = true := by simp; omega
    have hx : l[k]? = some l[k] := by simp [hlt]
    have hxs := hp _ (List.getElem_mem hlt)
    have hgx := zQ (f := zeV) hx
    obtain ⟨p, hpe⟩ : ∃ p, l[k] = p := ⟨_, rfl⟩
    rw [hpe] at hx hgx hxs
    rw [zvp hx] at hpf
    have hw : IntKind.i64.wrap ((k : Int) + 1) = ((k + 1 : Nat) : Int) := by rw [zat (by omega) (by omega)]; rfl
    refine znj (zB hd (zB hgx hlen)) ?_
    refine c_prValid (p := p) (hT.app _) (hG.app _) hL hg hxs ?_
    cases g1 : zhe L G f p
    · refine zao ?_
      refine zq hl ?_
      exact fin _ (by rw [hpf, g1]; rfl)
    have hsq := prepF_seq g1
    rw [g1, Bool.true_and] at hpf
    cases g2 : decide (p.view ≥ view)
    rotate_left
    · refine zH g2 ?_
      refine zq hl ?_
      exact fin _ (by rw [hpf, g2]; rfl)
    cases g3 : decide (p.seq ≤ last)
    rotate_left
    · refine zH (zB g2 g3) ?_
      refine zq hl ?_
      exact fin _ (by rw [hpf, g2, g3]; rfl)
    rw [g2, g3] at hpf
    simp only [Bool.not_false, Bool.true_and] at hpf
    have g3' : ¬ p.seq ≤ last := by simpa using g3
    cases g4 : decide (low < 0)
    · have g4' : decide (low ≥ 0) = true := by simp at g4 ⊢; omega
      have g4'' : 0 ≤ low := by simpa using g4'
      have hws : IntKind.i64.wrap (p.seq - low) = p.seq - low := zat (by omega) (by omega)
      cases g5 : decide (p.seq - low > 8)
      · have e : decide (p.seq - 8 > low) = false := by simp at g5 ⊢; omega
        rw [e, Bool.not_false, Bool.true_and] at hpf
        refine zH (zB g2 (zB g3 (zB g4 (zB g4' (zB hws (zB g5 hw)))))) ?_
        exact zaG.next hlt ⟨p.seq, rfl, ⟨_, rfl⟩, by omega, hpf⟩
      · have e : decide (p.seq - 8 > low) = true := by simp at g5 ⊢; omega
        rw [e] at hpf
        refine zH (zB g2 (zB g3 (zB g4 (zB g4' (zB hws (zB g5 hw)))))) ?_
        refine zq hl ?_
        exact fin _ hpf
    · have g4' : decide (low ≥ 0) = false := by simp at g4 ⊢; omega
      have g4'' : low < 0 := by simpa using g4
      have hlo := hlow.1
      have hws : IntKind.i64.wrap (8 + low) = 8 + low := zat (by omega) (by omega)
      cases g5 : decide (p.seq > 8 + low)
      · have e : decide (p.seq - 8 > low) = false := by simp at g5 ⊢; omega
        rw [e, Bool.not_false, Bool.true_and] at hpf
        refine zH (zB g2 (zB g3 (zB g4 (zB g4' (zB hws (zB g5 hw)))))) ?_
        exact zaG.next hlt ⟨p.seq, rfl, ⟨_, rfl⟩, by omega, hpf⟩
      · have e : decide (p.seq - 8 > low) = true := by simp at g5 ⊢; omega
        rw [e] at hpf
        refine zH (zB g2 (zB g3 (zB g4 (zB g4' (zB hws (zB g5 hw)))))) ?_
        refine zq hl ?_
        exact fin _ hpf
  · have hd : decide ((k : Int) < (l.length : Int)) = false := by simp; omega
    rw [List.drop_eq_nil_of_le (by omega)] at hpf
    refine zH (zB hd hlen) ?_
    refine zq hl ?_
    exact fin _ hpf
theorem c_r15Above {σ : List zf} {id id2 : Nat} {L : List (List UInt8)} {G : List zP} {f view low : Int} {l : List zbW} (hT : σ[id]? = some (rtO L)) (hG : σ[id2]? = some (rlO G)) (hL : zwx L) (hg : G.length ≤ 1073741824) (hp : ∀ p ∈ l, smallP p) (hl0 : l.length ≤ 1073741824)
    {K : KT} (hK : K (.d (.bool (zly L G f view low low l))) σ) : zm Tryz.prog zod [.box id 0, .box id2 0, .d (.int .i64 f), .d (.int .i64 view), .d (.int .i64 low), .d (.slice (zfI l))] σ K := by
  refine zc zsE.is rfl fun hl _ => zsE.goes ?_
  have fin : ∀ z, zly L G f view low low l = z → K (.d (.bool z)) σ := fun z h => h ▸ hK
  clear hK
  have hlen : (zfI l).length = l.length := List.length_map ..
  simp only [ztu, iN, bT, bF, eN]
  refine zH hlen ?_
  refine zl l.length (fun k vs s => ∃ last : Int, vs = [.d (.int .i64 last), .d (.int .i64 k)] ∧ s = σ ∧ low ≤ last ∧
      zly L G f view low low l = zly L G f view low last (l.drop k)) ⟨low, rfl, rfl, Int.le_refl _, by simp⟩ ?_
  rintro k vs s hk ⟨last, rfl, rfl, hlast, hpf⟩
  by_cases hlt : k < l.length
  · have hd : decide ((k : Int) < (l.length : Int)) = true := by simp; omega
    have hx : l[k]? = some l[k] := by simp [hlt]
    have hxs := hp _ (List.getElem_mem hlt)
    have hgx := zQ (f := zeV) hx
    obtain ⟨p, hpe⟩ : ∃ p, l[k] = p := ⟨_, rfl⟩
    rw [hpe] at hx hgx hxs
    rw [zvp hx] at hpf
    have hw : IntKind.i64.wrap ((k : Int) + 1) = ((k + 1 : Nat) : Int) := by rw [zat (by omega) (by omega)]; rfl
    refine znj (zB hd (zB hgx hlen)) ?_
    refine c_r15Valid (p := p) hT hG hL hg hxs ?_
    cases g1 : zhe L G f p
    · refine zao ?_
      refine zq hl ?_
      exact fin _ (by rw [hpf, g1]; rfl)
    have hsq := prepF_seq g1
    rw [g1, Bool.true_and] at hpf
    cases g2 : decide (p.view ≥ view)
    rotate_left
    · refine znj (zB g2 hgx) ?_
      refine zq hl ?_
      exact fin _ (by rw [hpf, g2]; rfl)
    cases g3 : decide (p.seq ≤ last)
    rotate_left
    · refine znj (zB g2 (zB g3 hgx)) ?_
      refine zq hl ?_
      exact fin _ (by rw [hpf, g2, g3]; rfl)
    rw [g2, g3] at hpf
    simp only [Bool.not_false, Bool.true_and] at hpf
    have g3' : ¬ p.seq ≤ last := by simpa using g3
    have g4 : decide (p.seq ≤ low) = false := by simp; omega
    have hws : IntKind.i64.wrap (p.seq - 8) = p.seq - 8 := zat (by omega) (by omega)
    cases g5 : decide (p.seq - 8 > low)
    · rw [g5, Bool.not_false, Bool.true_and] at hpf
      refine znj (zB g2 (zB g3 (zB g4 (zB hws (zB g5 (zB hw hgx)))))) ?_
      exact zaG.next hlt ⟨p.seq, rfl, rfl, by omega, hpf⟩
    · rw [g5] at hpf
      refine znj (zB g2 (zB g3 (zB g4 (zB hws (zB g5 (zB hw hgx)))))) ?_
      refine zq hl ?_
      exact fin _ hpf
  · have hd : decide ((k : Int) < (l.length : Int)) = false := by simp; omega
    rw [List.drop_eq_nil_of_le (by omega)] at hpf
    refine zH (zB hd hlen) ?_
    refine zq hl ?_
    exact fin _ hpf
end Go.Proofs.YtpgahkdjkanblaaGreat

/- Contracts: which view-changes are valid, both sides. -/
set_option maxRecDepth 100000
set_option linter.unusedSimpArgs false
set_option linter.unusedVariables false
namespace Go.Proofs.YtpgahkdjkanblaaGreat
open Go.AW

def zdw (L : List (List UInt8)) (G : List zP) (f view : Int) (c : zaa) : Bool :=
  decide (zbK f = 0) && (decide (c.view = view) && (decide (0 ≤ c.src) && (decide (c.src < zcJ 3 f) && (zgC L G (vcM c) && (zou L G f c.cert && (decide (c.cert.seq.tmod 4 = 0) && zly L G f view c.cert.seq c.cert.seq c.above))))))
structure allCh (c : zaa) : Prop where
  ok : okCh c
  small : zjd c
  each : ∀ p ∈ c.above, smallP p
  seq : zny c.cert.seq
theorem vcM_small {c : zaa} (h : allCh c) : zdX (vcM c) := by
  obtain ⟨n1, n2, n3, n4, n5, n6, n7, n8, n9, n10⟩ := zrZ
  exact ⟨n1, n2, n3, by simp [vcM], by intro x hx; simp [vcM] at hx; subst hx; exact ⟨h.ok, h.small⟩, n6, n7, n8, n9, n10⟩
theorem c_nvValid {σ : List zf} {id m t id2 m2 t2 : Nat} {L : List (List UInt8)} {G : List zP} {f view : Int} {c : zaa} (hT : zed σ id m t L) (hG : zee σ id2 m2 t2 G) (hL : zwx L) (hg : G.length ≤ 1073741824) (hc : allCh c) {K : KT}
    (hK : K (.d (.bool (zdw L G f view c))) σ) : zm Tryz.prog zit [.box id 0, .box id2 0, .d (.int .i64 f), .d (.int .i64 view), .agg (zbV c)] σ K := by
  refine zc zmA.is rfl fun hl _ => zmA.goes ?_
  have fin : ∀ z, zdw L G f view c = z → K (.d (.bool z)) σ := fun z h => h ▸ hK
  clear hK
  have hT1 := fun τ => hT.app τ
  have hG1 := fun τ => hG.app τ
  have hsm := vcM_small hc
  simp only [zmU, iN, bT, bF, eN]
  refine zao ?_
  refine zks ?_
  cases h1 : (zbK f == 0)
  · refine zH h1 ?_
    refine zq hl ?_
    exact fin _ (by simp at h1; simp [zdw, h1])
  cases h2 : (c.view == view)
  · refine zH (zB h1 h2) ?_
    refine zq hl ?_
    exact fin _ (by simp at h2; simp [zdw, h2])
  cases h3 : decide (c.src ≥ 0)
  · refine zH (zB h1 (zB h2 h3)) ?_
    refine zq hl ?_
    exact fin _ (by simp only [decide_eq_false_iff_not, ge_iff_le] at h3; simp [zdw, h3])
  refine zH (zB h1 (zB h2 h3)) ?_
  refine ziM ?_
  cases h4 : decide (c.src < zcJ 3 f)
  · refine zH h4 ?_
    refine zq hl ?_
    exact fin _ (by simp only [decide_eq_false_iff_not] at h4; simp [zdw, h4])
  refine zH h4 ?_
  refine c_auChange (c := c) ?_
  refine zao ?_
  refine c_auValid7 (M := vcM c) (c := c) (hT1 _) (hG1 _) hL hg hsm rfl rfl ?_
  cases h5 : zgC L G (vcM c)
  · refine zao ?_
    refine zq hl ?_
    exact fin _ (by simp [zdw, h5])
  refine zao ?_
  refine c_ptValid (c := c.cert) (hT1 _) (hG1 _) hL hg hc.ok.signs ?_
  cases h6 : zou L G f c.cert
  · refine zao ?_
    refine zq hl ?_
    exact fin _ (by simp [zdw, h6])
  have hq : ((4 : Int) == 0) = false := rfl
  cases h7 : (c.cert.seq.tmod 4 == 0)
  · refine zH (zB h7 hq) ?_
    refine zq hl ?_
    exact fin _ (by simp only [beq_eq_false_iff_ne, ne_eq] at h7; simp [zdw, h7])
  refine zH (zB h7 hq) ?_
  refine c_prAbove (hT1 _) (hG1 _) hL hg hc.each hc.ok.above hc.seq ?_
  refine zao ?_
  refine zq hl ?_
  refine fin _ ?_
  simp only [beq_iff_eq] at h1 h2 h7
  simp only [decide_eq_true_eq, ge_iff_le] at h3 h4
  simp [zdw, h1, h2, h3, h4, h5, h6, h7]
theorem c_r16Valid {σ : List zf} {id id2 : Nat} {L : List (List UInt8)} {G : List zP} {f view : Int} {c : zaa} (hT : σ[id]? = some (rtO L)) (hG : σ[id2]? = some (rlO G)) (hL : zwx L) (hg : G.length ≤ 1073741824) (hc : allCh c) {K : KT}
    (hK : K (.d (.bool (zdw L G f view c))) σ) : zm Tryz.prog zob [.box id 0, .box id2 0, .d (.int .i64 f), .d (.int .i64 view), .agg (zbV c)] σ K := by
  refine zc zsC.is rfl fun hl _ => zsC.goes ?_
  have fin : ∀ z, zdw L G f view c = z → K (.d (.bool z)) σ := fun z h => h ▸ hK
  clear hK
  have hT1 := fun τ => zx (τ := τ) hT
  have hG1 := fun τ => zx (τ := τ) hG
  have hsm := vcM_small hc
  simp only [zts, iN, bT, bF, eN]
  refine zao ?_
  refine zkr ?_
  cases h1 : (zbK f == 0)
  · refine zH h1 ?_
    refine zq hl ?_
    exact fin _ (by simp at h1; simp [zdw, h1])
  cases h2 : (c.view == view)
  · refine zH (zB h1 h2) ?_
    refine zq hl ?_
    exact fin _ (by simp at h2; simp [zdw, h2])
  cases h3 : decide (c.src ≥ 0)
  · refine zH (zB h1 (zB h2 h3)) ?_
    refine zq hl ?_
    exact fin _ (by simp only [decide_eq_false_iff_not, ge_iff_le] at h3; simp [zdw, h3])
  refine zH (zB h1 (zB h2 h3)) ?_
  refine znn ?_
  cases h4 : decide (c.src < zcJ 3 f)
  · refine zH h4 ?_
    refine zq hl ?_
    exact fin _ (by simp only [decide_eq_false_iff_not] at h4; simp [zdw, h4])
  refine zH h4 ?_
  refine c_raChange (c := c) ?_
  refine zao ?_
  refine c_raValid7 (M := vcM c) (c := c) (hT1 _) (hG1 _) hL.len hg hsm rfl rfl ?_
  cases h5 : zgC L G (vcM c)
  · refine zao ?_
    refine zq hl ?_
    exact fin _ (by simp [zdw, h5])
  refine zao ?_
  refine c_r14Valid (c := c.cert) (hT1 _) (hG1 _) hL.len hg hc.ok.signs ?_
  cases h6 : zou L G f c.cert
  · refine zao ?_
    refine zq hl ?_
    exact fin _ (by simp [zdw, h6])
  have hq : ((4 : Int) == 0) = false := rfl
  cases h7 : (c.cert.seq.tmod 4 == 0)
  · refine zH (zB h7 hq) ?_
    refine zq hl ?_
    exact fin _ (by simp only [beq_eq_false_iff_ne, ne_eq] at h7; simp [zdw, h7])
  refine zH (zB h7 hq) ?_
  refine c_r15Above (hT1 _) (hG1 _) hL hg hc.each hc.ok.above ?_
  refine zao ?_
  refine zq hl ?_
  refine fin _ ?_
  simp only [beq_iff_eq] at h1 h2 h7
  simp only [decide_eq_true_eq, ge_iff_le] at h3 h4
  simp [zdw, h1, h2, h3, h4, h5, h6, h7]
end Go.Proofs.YtpgahkdjkanblaaGreat

/- Ends of calls that keep objects, at which objects are told otherwise. -/
set_option linter.unusedSimpArgs false
set_option linter.unusedVariables false
namespace Go.AW
section
variable {P : Program} {σ : List zf}
def EndsKW (n : Nat) (ks : List zf → List Nat) (K : KT) (out : Option (List AV)) (σ' : List zf) : Prop := ∃ s, zrS [] σ' [] s ∧ zoE n ks K out s
theorem endsKW_of {n : Nat} {ks : List zf → List Nat} {K : KT} {out : Option (List AV)} {s : List zf} (h : zoE n ks K out s) : EndsKW n ks K out s := ⟨s, .refl _ _, h⟩
theorem ztq {f : FuncId} {F : AF} {na : Nat} (hF : isFn P f F na) {as0 : List AV} (has : as0.length = na) {K : KT} (ks : List zf → List Nat)
    (h : zkE σ.length σ → (∀ a ∈ as0, Low σ.length a) → awp P F.body (AtEnd fun fr' σ' => EndsKW σ.length ks K (zse fr' σ' F.res) σ') (zjT 0 as0) σ) : zm P f as0 σ K :=
  zpC hF has _ (fun {L w L' σ' w' fr' ts} S st0 S0 F' hz => by
    obtain ⟨s, hw, hz⟩ := hz
    obtain ⟨L3, st3, S', _⟩ := zjS hw S0 (us := []) ⟨rfl, by simp⟩
    have st := st0.trans st3
    unfold zoE ztR at hz
    split at hz
    · rename_i l hl
      obtain ⟨z0, z1, z2, z3, z4⟩ := hz
      split at z4
      · rename_i os hos
        split at z4
        · rename_i os' r hos' hr
          obtain ⟨L2, k1, k2, k3⟩ := zuD S' z0 z1 z2 z3 hos hos'
          refine ⟨L2, _, l, r, hl, ⟨st.os, st.tape, st.output, st.size, st.blk, st.cell, st.fz, fun b o hb ho => st.own b o hb (k2.own b o ho), by simp; omega, fun id x hx => ?_⟩, k3, fun v hv => (st3.rv hv).ren k2 hr, z4⟩
          have hid := zk hx
          obtain ⟨x', g1, g2, g3, g4, g5⟩ := st.turns id x hx
          refine ⟨x', by rw [List.getElem?_append_left (by simp; omega), List.getElem?_take, if_pos hid]; exact g1, g2, fun hk hk5 => (k1 id hid).trans (g3 hk hk5), fun sz n e => ?_, fun g sz cs e => ?_⟩
          · obtain ⟨n', e1, e2, e3⟩ := g4 sz n e
            exact ⟨n', e1, e2, fun e => (k1 id hid).trans (e3 e)⟩
          · rcases g5 g sz cs e with h | ⟨g', cs', e1, e2, e3⟩
            · exact .inl h
            · exact .inr ⟨g', cs', e1, e2, fun e => ⟨(k1 id hid).trans (e3 e).1, (e3 e).2⟩⟩
        · exact z4.elim
      · exact z4.elim
    · exact hz.elim) h
end

end Go.AW
