/- Contracts: whether a checkpoint's certificate is valid, on both sides. -/
import Derived.Test.YtpgahkdjkanblaaGreatPt1
set_option linter.all false
set_option maxRecDepth 100000
set_option linter.unusedSimpArgs false
set_option linter.unusedVariables false
namespace Go.Proofs.YtpgahkdjkanblaaGreat
open Go.AW

theorem c_ptValid1 {σ : List zf} {a b c0 id m t id2 m2 t2 : Nat} {L : List (List UInt8)} {G : List zP} {c : zek} {s : zP} (ha : σ[a]? = some (.box [.box id 0])) (hb : σ[b]? = some (.box [.box id2 0])) (hc : σ[c0]? = some (certO c)) (hT : zed σ id m t L) (hG : zee σ id2 m2 t2 G) (hL : zwx L) (hg : G.length ≤ 1073741824)
    {K : KT} (hK : K (.d (.bool (!zfw L G s s.key 6 0 c.seq c.dig))) σ) : zm Tryz.prog zfP [.agg [.d (.int .i64 s.key), .d (.int .i64 s.dig)], .box a 0, .box b 0, .box c0 0] σ K := by
  refine zc zmz.is rfl fun hl _ => zmz.goes ?_
  have sa : ∀ τ, (σ ++ τ)[a]? = _ := fun τ => zx ha
  have sb : ∀ τ, (σ ++ τ)[b]? = _ := fun τ => zx hb
  have sc : ∀ τ, (σ ++ τ)[c0]? = some (.box [.d (.int .i64 c.seq), .d (.int .i64 c.dig), .d (.slice (zas c.signs))]) := fun τ => zx hc
  simp only [zmT, iN, bT, bF, eN]
  refine zH (zB sa sb) ?_
  refine zlf (s := s) (hT.app _) (hG.app _) hL hg ?_
  refine zao ?_
  refine zq hl ?_
  exact hK
theorem c_idxSign {σ : List zf} {b : List zP} {f : FuncId} {cap : List AV} {p : zP → Bool} (hb : b.length ≤ 1073741824) (hf : ∀ x ∈ b, ∀ K : AV → List zf → Prop, K (.d (.bool (p x))) σ → zm Tryz.prog f (.agg [.d (.int .i64 x.key), .d (.int .i64 x.dig)] :: cap) σ K)
    {K : KT} (hK : ∀ r : Int, decide (r ≥ 0) = b.any p → K (.d (.int .i64 r)) σ) : zm Tryz.prog zbL [.d (.slice (zas b)), .fn (.func f) [] cap] σ K := by
  refine zc zcM.is rfl fun hl _ => zcM.goes ?_
  simp only [zcP, iN, bT, bF, eN]
  refine zao ?_
  refine zl b.length (fun k vs s => vs = [.d (.int .i64 k)] ∧ s = σ ∧ (b.take k).any p = false) ⟨rfl, rfl, by simp⟩ ?_
  rintro k vs s hk ⟨rfl, rfl, hno⟩
  by_cases hlt : k < b.length
  · have hd : decide ((k : Int) < (b.length : Int)) = true := by simp; omega
    have hx : b[k]? = some b[k] := by simp [hlt]
    have hfx := hf _ (List.getElem_mem hlt)
    have hgx := zQ (f := zeS) hx
    obtain ⟨x, hxe⟩ : ∃ x, b[k] = x := ⟨_, rfl⟩
    rw [hxe] at hx hgx hfx
    refine zjk (zB hd hgx) ?_
    refine hfx _ ?_
    cases h1 : p x
    · refine zH (wkc k (by omega)) ?_
      refine zaG.next hlt ⟨rfl, rfl, ?_⟩
      rw [List.take_add_one, hx]
      simp [hno, h1]
    · refine zao ?_
      refine zq hl ?_
      have : b.any p = true := List.any_eq_true.2 ⟨x, List.mem_of_getElem? hx, h1⟩
      exact hK _ (by rw [this]; simp)
  · have hd : decide ((k : Int) < (b.length : Int)) = false := by simp; omega
    refine zH hd ?_
    refine zq hl ?_
    rw [List.take_of_length_le (by omega)] at hno
    exact hK _ (by rw [hno]; rfl)
theorem c_hasSign {σ : List zf} {b : List zP} {f : FuncId} {cap : List AV} {p : zP → Bool} (hb : b.length ≤ 1073741824) (hf : ∀ x ∈ b, ∀ K : AV → List zf → Prop, K (.d (.bool (p x))) σ → zm Tryz.prog f (.agg [.d (.int .i64 x.key), .d (.int .i64 x.dig)] :: cap) σ K)
    {K : KT} (hK : K (.d (.bool (b.any p))) σ) : zm Tryz.prog zaN [.d (.slice (zas b)), .fn (.func f) [] cap] σ K := by
  refine zc zcu.is rfl fun hl _ => zcu.goes ?_
  simp only [zcx, iN, bT, bF, eN]
  refine zao ?_
  refine c_idxSign hb hf fun r hr => ?_
  refine zH hr ?_
  refine zq hl ?_
  exact hK
theorem not_any (l : List zP) (p : zP → Bool) : (!l.any fun s => !p s) = l.all p := by
  induction l with
  | nil => rfl
  | cons x l ih => simp only [List.any_cons, List.all_cons, Bool.not_or, Bool.not_not, ih]
theorem c_ptValid {σ : List zf} {id m t id2 m2 t2 : Nat} {L : List (List UInt8)} {G : List zP} {f : Int} {c : zek} (hT : zed σ id m t L) (hG : zee σ id2 m2 t2 G) (hL : zwx L) (hg : G.length ≤ 1073741824) (hl0 : c.signs.length ≤ 1073741824)
    {K : KT} (hK : K (.d (.bool (zou L G f c))) σ) : zm Tryz.prog zkR [.box id 0, .box id2 0, .d (.int .i64 f), zgQ c] σ K := by
  refine zc zpk.is rfl fun hl _ => zpk.goes ?_
  have fin : ∀ z, zou L G f c = z → K (.d (.bool z)) σ := fun z h => h ▸ hK
  clear hK
  simp only [zpL, iN, bT, bF, eN, zgQ]
  refine zao ?_
  refine c_ptNew (fun h0 => ?_) (fun h0 => ?_)
  · have h0' : (zbK f != 0) = true := by simpa using h0
    refine zH h0' ?_
    refine zq hl ?_
    exact fin _ (by rw [zou, decide_eq_false h0]; rfl)
  refine zH (show ((0 : Int) != 0) = false from rfl) ?_
  obtain ⟨S, hS⟩ : ∃ S, σ ++ [zf.box [.box id 0], .box [.box id2 0], certO c, .map [], .box [.d (.int .i64 f), .d (.int .i64 0), .d (.int .i64 0), .exact [], .map (σ.length + 3), .exact []]] = S := ⟨_, rfl⟩
  have g0 : ∀ τ, (S ++ τ)[σ.length]? = some (.box [.box id 0]) := fun τ => zx (by rw [← hS, zt]; rfl)
  have g1 : ∀ τ, (S ++ τ)[σ.length + 1]? = some (.box [.box id2 0]) := fun τ => zx (by rw [← hS, zC]; rfl)
  have g2 : ∀ τ, (S ++ τ)[σ.length + 2]? = some (certO c) := fun τ => zx (by rw [← hS, zC]; rfl)
  have g4 : S[σ.length + 4]? = some (.box (.d (.int .i64 f) :: [.d (.int .i64 0), .d (.int .i64 0), .exact [], .map (σ.length + 3), .exact []])) := by rw [← hS, zC]; rfl
  have g00 := g0 []; have g10 := g1 []; have g20 := g2 []
  rw [List.append_nil] at g00 g10 g20
  have tT : zed S id m t L := hS ▸ hT.app _
  have tG : zee S id2 m2 t2 G := hS ▸ hG.app _
  have hpre : ∃ T, S = σ ++ T := ⟨_, hS.symm⟩
  rw [hS]
  refine c_ptMayCert g4 hl0 ?_
  cases h1 : zdQ f c
  · refine zao ?_
    obtain ⟨T, rfl⟩ := hpre
    refine zq hl ?_
    exact fin _ (by rw [zou, h1]; simp)
  have hcf : zou L G f c = c.signs.all fun s => zfw L G s s.key 6 0 c.seq c.dig := by rw [zou, h1, decide_eq_true h0]; rfl
  have tail : ∀ τ, zm Tryz.prog zaN [.d (.slice (zas c.signs)), .fn (.func zfP) [] [.box σ.length 0, .box (σ.length + 1) 0, .box (σ.length + 2) 0]] (S ++ τ) fun K1 s => unC .not K1 s fun L1 s => z1 (AW.Ends σ.length K) L1 s := fun τ => by
    refine c_hasSign (p := fun s => !zfw L G s s.key 6 0 c.seq c.dig) hl0 (fun x _ K hK => c_ptValid1 (g0 _) (g1 _) (g2 _) (tT.app _) (tG.app _) hL hg hK) ?_
    rw [hcf, ← not_any] at fin
    refine zao ?_
    obtain ⟨T, rfl⟩ := hpre
    rw [List.append_assoc]
    refine zq hl ?_
    exact fin _ rfl
  have tail0 := tail []
  rw [List.append_nil] at tail0
  refine zH (zB g00 (zB g10 g20)) ?_
  refine c_tLen tT ?_
  cases h2 : ((L.length : Int) == 0)
  · refine zH (zB h2 (zB g00 (zB g10 g20))) ?_
    refine c_gLen tG ?_
    cases h3 : ((G.length : Int) == 0)
    · refine zH (zB h2 (zB h3 (zB g00 (zB g10 g20)))) ?_
      exact tail0
    · refine zH (zB h2 (zB h3 (zB g00 (zB g10 g20)))) ?_
      refine zrP tG hg fun g' => ?_
      refine zH g2 ?_
      exact tail _
  · refine zH (zB h2 (zB g00 (zB g10 g20))) ?_
    refine zwh tT hL.nd hL.len hL.each ?_
    refine zH g1 ?_
    refine c_gLen (tG.app _) ?_
    cases h3 : ((G.length : Int) == 0)
    · refine zH (zB h2 (zB h3 (zB g1 g2))) ?_
      exact tail _
    · refine zH (zB h2 (zB h3 (zB g1 g2))) ?_
      refine zrP (tG.app _) hg fun g' => ?_
      refine zH g2 ?_
      exact tail _
theorem c_r14Valid {σ : List zf} {id id2 : Nat} {L : List (List UInt8)} {G : List zP} {f : Int} {c : zek} (hT : σ[id]? = some (rtO L)) (hG : σ[id2]? = some (rlO G)) (hL : L.length ≤ 1048576) (hg : G.length ≤ 1073741824) (hl0 : c.signs.length ≤ 1073741824)
    {K : KT} (hK : K (.d (.bool (zou L G f c))) σ) : zm Tryz.prog zoe [.box id 0, .box id2 0, .d (.int .i64 f), zgQ c] σ K := by
  refine zc zsF.is rfl fun hl _ => zsF.goes ?_
  have fin : ∀ z, zou L G f c = z → K (.d (.bool z)) σ := fun z h => h ▸ hK
  clear hK
  have hlen : (zas c.signs).length = c.signs.length := List.length_map ..
  simp only [ztv, iN, bT, bF, eN, zgQ]
  refine zao ?_
  refine zkr ?_
  cases h0 : (zbK f != 0)
  rotate_left
  · refine zH h0 ?_
    refine zq hl ?_
    have h0' : zbK f ≠ 0 := by simpa using h0
    exact fin _ (by rw [zou, decide_eq_false h0']; rfl)
  have h0' : zbK f = 0 := by simpa using h0
  refine zH h0 ?_
  refine c_r14MayCert (f := f) (cs := [.d (.int .i64 0), .d (.int .i64 0), .exact [], .exact [], .exact []]) (by rw [zC]; rfl) hl0 ?_
  cases h1 : zdQ f c
  · refine zao ?_
    refine zq hl ?_
    exact fin _ (by rw [zou, h1]; simp)
  have hcf : zou L G f c = c.signs.all fun s => zfw L G s s.key 6 0 c.seq c.dig := by rw [zou, h1, decide_eq_true h0']; rfl
  refine zao ?_
  refine zl c.signs.length (fun k vs s => vs = [.d (.int .i64 k)] ∧ s = σ ++ [certO c, .box [.d (.int .i64 f), .d (.int .i64 0), .d (.int .i64 0), .exact [], .exact [], .exact []]] ∧ (c.signs.take k).all (fun s => zfw L G s s.key 6 0 c.seq c.dig) = true) ⟨rfl, rfl, by simp⟩ ?_
  rintro k vs s hk ⟨rfl, rfl, hok⟩
  by_cases hlt : k < c.signs.length
  · have hd : decide ((k : Int) < (c.signs.length : Int)) = true := by simp; omega
    have hx : c.signs[k]? = some c.signs[k] := by simp [hlt]
    have hgx := zQ (f := zeS) hx
    obtain ⟨x, hxe⟩ : ∃ x, c.signs[k] = x := ⟨_, rfl⟩
    rw [hxe] at hx hgx
    refine zjk (zB hd (zB hgx hlen)) ?_
    refine zlc (s := x) (zx hT) (zx hG) hL hg ?_
    cases h2 : zfw L G x x.key 6 0 c.seq c.dig
    · refine zao ?_
      refine zq hl ?_
      refine fin _ ?_
      rw [hcf, Bool.eq_false_iff]
      intro hall
      have := List.all_eq_true.1 hall x (List.mem_of_getElem? hx)
      rw [h2] at this; cases this
    · refine zH (wkc k (by omega)) ?_
      refine zaG.next hlt ⟨rfl, rfl, ?_⟩
      rw [List.take_add_one, hx]
      simp only [List.all_append, hok, Option.toList_some, List.all_cons, List.all_nil, Bool.true_and, Bool.and_true, h2]
  · have hd : decide ((k : Int) < (c.signs.length : Int)) = false := by simp; omega
    rw [List.take_of_length_le (by omega)] at hok
    refine zH (zB hd hlen) ?_
    refine zq hl ?_
    exact fin _ (by rw [hcf, hok])
end Go.Proofs.YtpgahkdjkanblaaGreat
