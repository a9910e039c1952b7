/- Contracts: whether a checkpoint's certificate is valid, on both sides. -/
import Derived.Test.YtpgahkdjkanblaaGreatPr4
import Derived.Test.YtpgahkdjkanblaaGreatAwFrz
set_option linter.all false
set_option maxRecDepth 100000
set_option linter.unusedSimpArgs false
set_option linter.unusedVariables false
namespace Go.Proofs.YtpgahkdjkanblaaGreat
open Go.AW

theorem c_ptValid1 {σ : List zd} {a b c0 id m t id2 m2 t2 : Nat} {L : List (List UInt8)} {G : List zt} {c : zfB} {s : zt} (ha : σ[a]? = some (.box [.box id 0])) (hb : σ[b]? = some (.box [.box id2 0])) (hc : σ[c0]? = some (certO c)) (hT : zdG σ id m t L) (hG : zdu σ id2 m2 t2 G) (hL : zkx L) (hg : G.length ≤ 1073741824)
    {K : KT} (hK : K (.d (.bool (!zgJ L G s s.key 6 0 c.seq c.dig))) σ) : zl Tryz.prog zgo [.agg [.d (.int .i64 s.key), .d (.int .i64 s.dig)], .box a 0, .box b 0, .box c0 0] σ K := by
  refine ze zmX.is rfl fun hl _ => zmX.goes ?_
  have sa : ∀ τ, (σ ++ τ)[a]? = _ := fun τ => zM ha
  have sb : ∀ τ, (σ ++ τ)[b]? = _ := fun τ => zM hb
  have sc : ∀ τ, (σ ++ τ)[c0]? = some (.box [.d (.int .i64 c.seq), .d (.int .i64 c.dig), .d (.slice (zab c.signs))]) := fun τ => zM hc
  simp only [znl, iN, bT, bF, eN]
  refine zay (zS sa sb) ?_
  refine ziI (s := s) (hT.app _) (hG.app _) hL hg ?_
  refine zaF ?_
  refine zV hl ?_
  exact hK
theorem c_idxSign {σ : List zd} {b : List zt} {f : FuncId} {cap : List AV} {p : zt → Bool} (hb : b.length ≤ 1073741824) (hf : ∀ x ∈ b, ∀ K : AV → List zd → Prop, K (.d (.bool (p x))) σ → zl Tryz.prog f (.agg [.d (.int .i64 x.key), .d (.int .i64 x.dig)] :: cap) σ K)
    {K : KT} (hK : ∀ r : Int, decide (r ≥ 0) = b.any p → K (.d (.int .i64 r)) σ) : zl Tryz.prog zbR [.d (.slice (zab b)), .fn (.func f) [] cap] σ K := by
  refine ze zdd.is rfl fun hl _ => zdd.goes ?_
  simp only [zdi, iN, bT, bF, eN]
  refine zaF ?_
  refine zy b.length (fun k vs s => vs = [.d (.int .i64 k)] ∧ s = σ ∧ (b.take k).any p = false) ⟨rfl, rfl, by simp⟩ ?_
  rintro k vs s hk ⟨rfl, rfl, hno⟩
  by_cases hlt : k < b.length
  · have hd : decide ((k : Int) < (b.length : Int)) = true := by simp; omega
    have hx : b[k]? = some b[k] := by simp [hlt]
    have hfx := hf _ (List.getElem_mem hlt)
    have hgx := zal (f := zgH) hx
    obtain ⟨x, hxe⟩ : ∃ x, b[k] = x := ⟨_, rfl⟩
    rw [hxe] at hx hgx hfx
    refine znN (zS hd hgx) ?_
    refine hfx _ ?_
    cases h1 : p x
    · refine zay (wkc k (by omega)) ?_
      refine zbp.next hlt ⟨rfl, rfl, ?_⟩
      rw [List.take_add_one, hx]
      simp [hno, h1]
    · refine zaF ?_
      refine zV hl ?_
      have : b.any p = true := List.any_eq_true.2 ⟨x, List.mem_of_getElem? hx, h1⟩
      exact hK _ (by rw [this]; simp)
  · have hd : decide ((k : Int) < (b.length : Int)) = false := by simp; omega
    refine zay hd ?_
    refine zV hl ?_
    rw [List.take_of_length_le (by omega)] at hno
    exact hK _ (by rw [hno]; rfl)
theorem c_hasSign {σ : List zd} {b : List zt} {f : FuncId} {cap : List AV} {p : zt → Bool} (hb : b.length ≤ 1073741824) (hf : ∀ x ∈ b, ∀ K : AV → List zd → Prop, K (.d (.bool (p x))) σ → zl Tryz.prog f (.agg [.d (.int .i64 x.key), .d (.int .i64 x.dig)] :: cap) σ K)
    {K : KT} (hK : K (.d (.bool (b.any p))) σ) : zl Tryz.prog zaQ [.d (.slice (zab b)), .fn (.func f) [] cap] σ K := by
  refine ze zcN.is rfl fun hl _ => zcN.goes ?_
  simp only [zcR, iN, bT, bF, eN]
  refine zaF ?_
  refine c_idxSign hb hf fun r hr => ?_
  refine zay hr ?_
  refine zV hl ?_
  exact hK
theorem not_any (l : List zt) (p : zt → Bool) : (!l.any fun s => !p s) = l.all p := by
  induction l with
  | nil => rfl
  | cons x l ih => simp only [List.any_cons, List.all_cons, Bool.not_or, Bool.not_not, ih]
theorem c_ptValid {σ : List zd} {id m t id2 m2 t2 : Nat} {L : List (List UInt8)} {G : List zt} {f : Int} {c : zfB} (hT : zdG σ id m t L) (hG : zdu σ id2 m2 t2 G) (hL : zkx L) (hg : G.length ≤ 1073741824) (hl0 : c.signs.length ≤ 1073741824)
    {K : KT} (hK : K (.d (.bool (zsx L G f c))) σ) : zl Tryz.prog zln [.box id 0, .box id2 0, .d (.int .i64 f), zfX c] σ K := by
  refine ze zps.is rfl fun hl _ => zps.goes ?_
  have fin : ∀ z, zsx L G f c = z → K (.d (.bool z)) σ := fun z h => h ▸ hK
  clear hK
  simp only [zpN, iN, bT, bF, eN, zfX]
  refine zaF ?_
  refine c_ptNew (fun h0 => ?_) (fun h0 => ?_)
  · have h0' : (zci f != 0) = true := by simpa using h0
    refine zay h0' ?_
    refine zV hl ?_
    exact fin _ (by rw [zsx, decide_eq_false h0]; rfl)
  refine zay (show ((0 : Int) != 0) = false from rfl) ?_
  obtain ⟨S, hS⟩ : ∃ S, σ ++ [zd.box [.box id 0], .box [.box id2 0], certO c, .map [], .box [.d (.int .i64 f), .d (.int .i64 0), .d (.int .i64 0), .exact [], .map (σ.length + 3), .exact []]] = S := ⟨_, rfl⟩
  have g0 : ∀ τ, (S ++ τ)[σ.length]? = some (.box [.box id 0]) := fun τ => zM (by rw [← hS, zo]; rfl)
  have g1 : ∀ τ, (S ++ τ)[σ.length + 1]? = some (.box [.box id2 0]) := fun τ => zM (by rw [← hS, zn]; rfl)
  have g2 : ∀ τ, (S ++ τ)[σ.length + 2]? = some (certO c) := fun τ => zM (by rw [← hS, zn]; rfl)
  have g4 : S[σ.length + 4]? = some (.box (.d (.int .i64 f) :: [.d (.int .i64 0), .d (.int .i64 0), .exact [], .map (σ.length + 3), .exact []])) := by rw [← hS, zn]; rfl
  have g00 := g0 []; have g10 := g1 []; have g20 := g2 []
  rw [List.append_nil] at g00 g10 g20
  have tT : zdG S id m t L := hS ▸ hT.app _
  have tG : zdu S id2 m2 t2 G := hS ▸ hG.app _
  have hpre : ∃ T, S = σ ++ T := ⟨_, hS.symm⟩
  rw [hS]
  refine c_ptMayCert g4 hl0 ?_
  cases h1 : zjQ f c
  · refine zaF ?_
    obtain ⟨T, rfl⟩ := hpre
    refine zV hl ?_
    exact fin _ (by rw [zsx, h1]; simp)
  have hcf : zsx L G f c = c.signs.all fun s => zgJ L G s s.key 6 0 c.seq c.dig := by rw [zsx, h1, decide_eq_true h0]; rfl
  have tail : ∀ τ, zl Tryz.prog zaQ [.d (.slice (zab c.signs)), .fn (.func zgo) [] [.box σ.length 0, .box (σ.length + 1) 0, .box (σ.length + 2) 0]] (S ++ τ) fun K1 s => unC .not K1 s fun L1 s => z1 (AW.Ends σ.length K) L1 s := fun τ => by
    refine c_hasSign (p := fun s => !zgJ L G s s.key 6 0 c.seq c.dig) hl0 (fun x _ K hK => c_ptValid1 (g0 _) (g1 _) (g2 _) (tT.app _) (tG.app _) hL hg hK) ?_
    rw [hcf, ← not_any] at fin
    refine zaF ?_
    obtain ⟨T, rfl⟩ := hpre
    rw [List.append_assoc]
    refine zV hl ?_
    exact fin _ rfl
  have tail0 := tail []
  rw [List.append_nil] at tail0
  refine zay (zS g00 (zS g10 g20)) ?_
  refine c_tLen tT ?_
  cases h2 : ((L.length : Int) == 0)
  · refine zay (zS h2 (zS g00 (zS g10 g20))) ?_
    refine c_gLen tG ?_
    cases h3 : ((G.length : Int) == 0)
    · refine zay (zS h2 (zS h3 (zS g00 (zS g10 g20)))) ?_
      exact tail0
    · refine zay (zS h2 (zS h3 (zS g00 (zS g10 g20)))) ?_
      refine zpA tG hg fun g' => ?_
      refine zay g2 ?_
      exact tail _
  · refine zay (zS h2 (zS g00 (zS g10 g20))) ?_
    refine zpy tT hL.nd hL.len hL.each ?_
    refine zay g1 ?_
    refine c_gLen (tG.app _) ?_
    cases h3 : ((G.length : Int) == 0)
    · refine zay (zS h2 (zS h3 (zS g1 g2))) ?_
      exact tail _
    · refine zay (zS h2 (zS h3 (zS g1 g2))) ?_
      refine zpA (tG.app _) hg fun g' => ?_
      refine zay g2 ?_
      exact tail _
end Go.Proofs.YtpgahkdjkanblaaGreat

/- Contracts: certificates such as a view-change may tell. -/
set_option maxRecDepth 100000
set_option linter.unusedSimpArgs false
set_option linter.unusedVariables false
namespace Go.Proofs.YtpgahkdjkanblaaGreat
open Go.AW

def zne (L : List (List UInt8)) (G : List zt) (f view low : Int) : Int → List zca → Bool
  | _, [] => true
  | last, p :: r => zmt L G f p && (!(decide (p.view ≥ view)) && (!(decide (p.seq ≤ last)) && (!(decide (p.seq - 8 > low)) && zne L G f view low p.seq r)))
theorem above_drop {L : List (List UInt8)} {G : List zt} {f view low last : Int} {l : List zca} {k : Nat} {p : zca} (h : l[k]? = some p) :
    zne L G f view low last (l.drop k) = (zmt L G f p && (!(decide (p.view ≥ view)) && (!(decide (p.seq ≤ last)) && (!(decide (p.seq - 8 > low)) && zne L G f view low p.seq (l.drop (k + 1)))))) := by
  have hk : k < l.length := (List.getElem?_eq_some_iff.1 h).1
  rw [List.drop_eq_getElem_cons hk, (List.getElem?_eq_some_iff.1 h).2]
  rfl
theorem prepF_seq {L : List (List UInt8)} {G : List zt} {f : Int} {p : zca} (h : zmt L G f p = true) : 1 ≤ p.seq ∧ p.seq ≤ 9007199254740992 := by
  simp [zmt, zpa] at h
  omega
theorem c_prAbove {σ : List zd} {id m t id2 m2 t2 : Nat} {L : List (List UInt8)} {G : List zt} {f view low : Int} {l : List zca} (hT : zdG σ id m t L) (hG : zdu σ id2 m2 t2 G) (hL : zkx L) (hg : G.length ≤ 1073741824) (hp : ∀ p ∈ l, smallP p) (hl0 : l.length ≤ 1073741824) (hlow : znV low)
    {K : KT} (hK : K (.d (.bool (zne L G f view low low l))) σ) : zl Tryz.prog zii [.box id 0, .box id2 0, .d (.int .i64 f), .d (.int .i64 view), .d (.int .i64 low), .d (.slice (zfG l))] σ K := by
  refine ze zlV.is rfl fun hl _ => zlV.goes ?_
  have fin : ∀ z, zne L G f view low low l = z → K (.d (.bool z)) σ := fun z h => h ▸ hK
  clear hK
  have hlen : (zfG l).length = l.length := List.length_map ..
  simp only [zml, iN, bT, bF, eN]
  refine zeB hlen ?_
  refine zy l.length (fun k vs s => ∃ last : Int, vs = [.d (.int .i64 last), .d (.int .i64 k)] ∧ (∃ T, s = σ ++ T) ∧ low ≤ last ∧
      zne L G f view low low l = zne L G f view low last (l.drop k)) ⟨low, rfl, ⟨[], by simp⟩, Int.le_refl _, by simp⟩ ?_
  rintro k vs s hk ⟨last, rfl, ⟨T, rfl⟩, hlast, hpf⟩
  by_cases hlt : k < l.length
  · have hd : decide ((k : Int) < (l.length : Int)) = true := by simp; omega
    have hx : l[k]? = some l[k] := by simp [hlt]
    have hxs := hp _ (List.getElem_mem hlt)
    have hgx := zal (f := zgI) hx
    obtain ⟨p, hpe⟩ : ∃ p, l[k] = p := ⟨_, rfl⟩
    rw [hpe] at hx hgx hxs
    rw [above_drop hx] at hpf
    have hw : IntKind.i64.wrap ((k : Int) + 1) = ((k + 1 : Nat) : Int) := by rw [zbE (by omega) (by omega)]; rfl
    refine gq46 (zS hd (zS hgx hlen)) ?_
    refine c_prValid (p := p) (hT.app _) (hG.app _) hL hg hxs ?_
    cases g1 : zmt L G f p
    · refine zaF ?_
      refine zV hl ?_
      exact fin _ (by rw [hpf, g1]; rfl)
    have hsq := prepF_seq g1
    rw [g1, Bool.true_and] at hpf
    cases g2 : decide (p.view ≥ view)
    rotate_left
    · refine zeB g2 ?_
      refine zV hl ?_
      exact fin _ (by rw [hpf, g2]; rfl)
    cases g3 : decide (p.seq ≤ last)
    rotate_left
    · refine zeB (zS g2 g3) ?_
      refine zV hl ?_
      exact fin _ (by rw [hpf, g2, g3]; rfl)
    rw [g2, g3] at hpf
    simp only [Bool.not_false, Bool.true_and] at hpf
    have g3' : ¬ p.seq ≤ last := by simpa using g3
    cases g4 : decide (low < 0)
    · have g4' : decide (low ≥ 0) = true := by simp at g4 ⊢; omega
      have g4'' : 0 ≤ low := by simpa using g4'
      have hws : IntKind.i64.wrap (p.seq - low) = p.seq - low := zbE (by omega) (by omega)
      cases g5 : decide (p.seq - low > 8)
      · have e : decide (p.seq - 8 > low) = false := by simp at g5 ⊢; omega
        rw [e, Bool.not_false, Bool.true_and] at hpf
        refine zeB (zS g2 (zS g3 (zS g4 (zS g4' (zS hws (zS g5 hw)))))) ?_
        exact zbp.next hlt ⟨p.seq, rfl, ⟨_, rfl⟩, by omega, hpf⟩
      · have e : decide (p.seq - 8 > low) = true := by simp at g5 ⊢; omega
        rw [e] at hpf
        refine zeB (zS g2 (zS g3 (zS g4 (zS g4' (zS hws (zS g5 hw)))))) ?_
        refine zV hl ?_
        exact fin _ hpf
    · have g4' : decide (low ≥ 0) = false := by simp at g4 ⊢; omega
      have g4'' : low < 0 := by simpa using g4
      have hlo := hlow.1
      have hws : IntKind.i64.wrap (8 + low) = 8 + low := zbE (by omega) (by omega)
      cases g5 : decide (p.seq > 8 + low)
      · have e : decide (p.seq - 8 > low) = false := by simp at g5 ⊢; omega
        rw [e, Bool.not_false, Bool.true_and] at hpf
        refine zeB (zS g2 (zS g3 (zS g4 (zS g4' (zS hws (zS g5 hw)))))) ?_
        exact zbp.next hlt ⟨p.seq, rfl, ⟨_, rfl⟩, by omega, hpf⟩
      · have e : decide (p.seq - 8 > low) = true := by simp at g5 ⊢; omega
        rw [e] at hpf
        refine zeB (zS g2 (zS g3 (zS g4 (zS g4' (zS hws (zS g5 hw)))))) ?_
        refine zV hl ?_
        exact fin _ hpf
  · have hd : decide ((k : Int) < (l.length : Int)) = false := by simp; omega
    rw [List.drop_eq_nil_of_le (by omega)] at hpf
    refine zeB (zS hd hlen) ?_
    refine zV hl ?_
    exact fin _ hpf
end Go.Proofs.YtpgahkdjkanblaaGreat

/- Contracts: which view-changes are valid, both sides. -/
set_option maxRecDepth 100000
set_option linter.unusedSimpArgs false
set_option linter.unusedVariables false
namespace Go.Proofs.YtpgahkdjkanblaaGreat
open Go.AW

def zcF (L : List (List UInt8)) (G : List zt) (f view : Int) (c : zO) : Bool :=
  decide (zci f = 0) && (decide (c.view = view) && (decide (0 ≤ c.src) && (decide (c.src < zaB 3 f) && (zet L G (vcM c) && (zsx L G f c.cert && (decide (c.cert.seq.tmod 4 = 0) && zne L G f view c.cert.seq c.cert.seq c.above))))))
structure zoM (c : zO) : Prop where
  ok : okCh c
  small : zlg c
  each : ∀ p ∈ c.above, smallP p
  seq : znV c.cert.seq
theorem vcM_small {c : zO} (h : zoM c) : zcH (vcM c) := by
  obtain ⟨n1, n2, n3, n4, n5, n6, n7, n8, n9, n10⟩ := zfk
  exact ⟨n1, n2, n3, by simp [vcM], by intro x hx; simp [vcM] at hx; subst hx; exact ⟨h.ok, h.small⟩, n6, n7, n8, n9, n10⟩
theorem zsA {σ : List zd} {id m t id2 m2 t2 : Nat} {L : List (List UInt8)} {G : List zt} {f view : Int} {c : zO} (hT : zdG σ id m t L) (hG : zdu σ id2 m2 t2 G) (hL : zkx L) (hg : G.length ≤ 1073741824) (hc : zoM c) {K : KT}
    (hK : K (.d (.bool (zcF L G f view c))) σ) : zl Tryz.prog zgq [.box id 0, .box id2 0, .d (.int .i64 f), .d (.int .i64 view), .agg (zek c)] σ K := by
  refine ze zmY.is rfl fun hl _ => zmY.goes ?_
  have fin : ∀ z, zcF L G f view c = z → K (.d (.bool z)) σ := fun z h => h ▸ hK
  clear hK
  have hT1 := fun τ => hT.app τ
  have hG1 := fun τ => hG.app τ
  have hsm := vcM_small hc
  simp only [znm, iN, bT, bF, eN]
  refine zaF ?_
  refine zjs ?_
  cases h1 : (zci f == 0)
  · refine zay h1 ?_
    refine zV hl ?_
    exact fin _ (by simp at h1; simp [zcF, h1])
  cases h2 : (c.view == view)
  · refine zay (zS h1 h2) ?_
    refine zV hl ?_
    exact fin _ (by simp at h2; simp [zcF, h2])
  cases h3 : decide (c.src ≥ 0)
  · refine zay (zS h1 (zS h2 h3)) ?_
    refine zV hl ?_
    exact fin _ (by simp only [decide_eq_false_iff_not, ge_iff_le] at h3; simp [zcF, h3])
  refine zay (zS h1 (zS h2 h3)) ?_
  refine zjt ?_
  cases h4 : decide (c.src < zaB 3 f)
  · refine zay h4 ?_
    refine zV hl ?_
    exact fin _ (by simp only [decide_eq_false_iff_not] at h4; simp [zcF, h4])
  refine zay h4 ?_
  refine c_auChange (c := c) ?_
  refine zaF ?_
  refine c_auValid7 (M := vcM c) (c := c) (hT1 _) (hG1 _) hL hg hsm rfl rfl ?_
  cases h5 : zet L G (vcM c)
  · refine zaF ?_
    refine zV hl ?_
    exact fin _ (by simp [zcF, h5])
  refine zaF ?_
  refine c_ptValid (c := c.cert) (hT1 _) (hG1 _) hL hg hc.ok.signs ?_
  cases h6 : zsx L G f c.cert
  · refine zaF ?_
    refine zV hl ?_
    exact fin _ (by simp [zcF, h6])
  have hq : ((4 : Int) == 0) = false := rfl
  cases h7 : (c.cert.seq.tmod 4 == 0)
  · refine zay (zS h7 hq) ?_
    refine zV hl ?_
    exact fin _ (by simp only [beq_eq_false_iff_ne, ne_eq] at h7; simp [zcF, h7])
  refine zay (zS h7 hq) ?_
  refine c_prAbove (hT1 _) (hG1 _) hL hg hc.each hc.ok.above hc.seq ?_
  refine zaF ?_
  refine zV hl ?_
  refine fin _ ?_
  simp only [beq_iff_eq] at h1 h2 h7
  simp only [decide_eq_true_eq, ge_iff_le] at h3 h4
  simp [zcF, h1, h2, h3, h4, h5, h6, h7]
end Go.Proofs.YtpgahkdjkanblaaGreat

/- Ends of calls that keep objects, at which objects are told otherwise. -/
set_option linter.unusedSimpArgs false
set_option linter.unusedVariables false
namespace Go.AW
section
variable {P : Program} {σ : List zd}
def EndsKW (n : Nat) (ks : List zd → List Nat) (K : KT) (out : Option (List AV)) (σ' : List zd) : Prop := ∃ s, zpV [] σ' [] s ∧ zmz n ks K out s
theorem endsKW_of {n : Nat} {ks : List zd → List Nat} {K : KT} {out : Option (List AV)} {s : List zd} (h : zmz n ks K out s) : EndsKW n ks K out s := ⟨s, .refl _ _, h⟩
theorem zsH {f : FuncId} {F : AF} {na : Nat} (hF : isFn P f F na) {as0 : List AV} (has : as0.length = na) {K : KT} (ks : List zd → List Nat)
    (h : zin σ.length σ → (∀ a ∈ as0, Low σ.length a) → awp P F.body (AtEnd fun fr' σ' => EndsKW σ.length ks K (zqc fr' σ' F.res) σ') (ziS 0 as0) σ) : zl P f as0 σ K :=
  zkW hF has _ (fun {L w L' σ' w' fr' ts} S st0 S0 F' hz => by
    obtain ⟨s, hw, hz⟩ := hz
    obtain ⟨L3, st3, S', _⟩ := ziM hw S0 (us := []) ⟨rfl, by simp⟩
    have st := st0.trans st3
    unfold zmz zoP at hz
    split at hz
    · rename_i l hl
      obtain ⟨z0, z1, z2, z3, z4⟩ := hz
      split at z4
      · rename_i os hos
        split at z4
        · rename_i os' r hos' hr
          obtain ⟨L2, k1, k2, k3⟩ := zqx S' z0 z1 z2 z3 hos hos'
          refine ⟨L2, _, l, r, hl, ⟨st.os, st.tape, st.output, st.size, st.blk, st.cell, st.fz, fun b o hb ho => st.own b o hb (k2.own b o ho), by simp; omega, fun id x hx => ?_⟩, k3, fun v hv => (st3.rv hv).ren k2 hr, z4⟩
          have hid := zh hx
          obtain ⟨x', g1, g2, g3, g4, g5⟩ := st.turns id x hx
          refine ⟨x', by rw [List.getElem?_append_left (by simp; omega), List.getElem?_take, if_pos hid]; exact g1, g2, fun hk hk5 => (k1 id hid).trans (g3 hk hk5), fun sz n e => ?_, fun g sz cs e => ?_⟩
          · obtain ⟨n', e1, e2, e3⟩ := g4 sz n e
            exact ⟨n', e1, e2, fun e => (k1 id hid).trans (e3 e)⟩
          · rcases g5 g sz cs e with h | ⟨g', cs', e1, e2, e3⟩
            · exact .inl h
            · exact .inr ⟨g', cs', e1, e2, fun e => ⟨(k1 id hid).trans (e3 e).1, (e3 e).2⟩⟩
        · exact z4.elim
      · exact z4.elim
    · exact hz.elim) h
end

end Go.AW
