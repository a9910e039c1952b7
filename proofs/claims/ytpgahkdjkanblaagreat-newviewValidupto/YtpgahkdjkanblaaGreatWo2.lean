/- The world of the laws about new views: a table and a ledger, as the program and as the document have it. -/
import Derived.Test.YtpgahkdjkanblaaGreatWo1
set_option linter.all false
set_option maxRecDepth 100000
set_option linter.unusedSimpArgs false
set_option linter.unusedVariables false
namespace Go.Proofs.YtpgahkdjkanblaaGreat
open Go.AW

def zgg (G : List zP) (l : List zP) : List zP := l.foldl (fun G s => znq G s.key s.dig) G
theorem signG_len (G : List zP) (k d : Int) : (znq G k d).length ≤ G.length + 1 := by
  unfold znq signL
  split
  · split <;> simp
  · omega
theorem zqj : ∀ (l : List zP) (G : List zP), (zgg G l).length ≤ G.length + l.length
  | [], G => by simp [zgg]
  | s :: l, G => by
    have h1 := zqj l (znq G s.key s.dig)
    have h2 := signG_len G s.key s.dig
    simp only [zgg, List.foldl_cons, List.length_cons] at h1 ⊢
    omega
structure WorldI (n : Nat) (S : List zf) (L : List (List UInt8)) (G : List zP) : Prop where
  tab : zed S (n + 2) (n + 1) (n + 3) L
  rtab : S[n + 4]? = some (rtO L)
  led : zee S (n + 6) (n + 5) (n + 7) G
  rled : S[n + 8]? = some (rlO G)
theorem WorldI.app {n : Nat} {S : List zf} {L : List (List UInt8)} {G : List zP} (h : WorldI n S L G) (τ : List zf) : WorldI n (S ++ τ) L G := ⟨h.tab.app τ, zx h.rtab, h.led.app τ, zx h.rled⟩
def zjR (n : Nat) (A : zf) (L : List (List UInt8)) (G : List zP) : List zf := A :: (zrV (n + 1) L ++ (rtO L :: (ledO (n + 5) G ++ [rlO G])))
theorem zuf (n : Nat) (A : zf) (L : List (List UInt8)) (G : List zP) : (zjR n A L G).length = 9 := rfl
theorem zug (σ : List zf) (A : zf) (L : List (List UInt8)) (G : List zP) (τ : List zf) : WorldI σ.length (σ ++ (zjR σ.length A L G ++ τ)) L G :=
  ⟨⟨by rw [zC]; rfl, by rw [zC]; rfl, by rw [zC]; rfl⟩, by rw [zC]; rfl, ⟨by rw [zC]; rfl, by rw [zC]; rfl, by rw [zC]; rfl⟩, by rw [zC]; rfl⟩
theorem putLed_world (σ : List zf) (A : zf) (L : List (List UInt8)) (G G' : List zP) (τ : List zf) : (putLed (σ ++ (zjR σ.length A L G ++ τ)) (σ.length + 6) (σ.length + 5) (σ.length + 7) G').set (σ.length + 8) (rlO G') = σ ++ (zjR σ.length A L G' ++ τ) := by
  unfold putLed
  rw [zN, zN, zN, zN]; rfl
abbrev zhc (tab : List (List UInt8)) (signs : List zP) : zf := .box [.d (.slice (ziZ tab)), .d (.slice (zas signs))]
theorem low_world (n : Nat) (tab : List (List UInt8)) (signs : List zP) (L : List (List UInt8)) (G : List zP) : ∀ x ∈ zjR n (zhc tab signs) L G, ztT (n + (zjR n (zhc tab signs) L G).length) x := by
  intro x hx
  have h9 : (zjR n (zhc tab signs) L G).length = 9 := rfl
  rw [h9]
  simp only [zjR, List.cons_append, List.nil_append, List.mem_cons, List.not_mem_nil, or_false] at hx
  rcases hx with rfl | rfl | rfl | rfl | rfl | rfl | rfl | rfl | rfl
  · intro c hc
    simp only [List.mem_cons, List.not_mem_nil, or_false] at hc
    rcases hc with rfl | rfl <;> exact .d _
  · exact zqB L
  · exact zuB (by omega) (by omega)
  · trivial
  · exact rtO_low _ _
  · exact zqC G
  · exact zuB (by omega) (by omega)
  · trivial
  · exact rlO_low _ _
theorem c_made16N {σ : List zf} {tab : List (List UInt8)} {signs : List zP} (hl0 : tab.length ≤ 1048576) (hb : ∀ b ∈ tab, b.length ≤ 1073741824) (hnd : ¬ tab.Nodup) {K : KT}
    (hN : K (.tup [.d .nilp, .d .nilp, .d .nilp, .d .nilp, .d (.bool false)]) σ) :
    zm Tryz.prog zfm [.agg [.d (.slice (ziZ tab)), .d (.slice (zas signs))]] σ K := by
  refine zc zfo.is rfl fun hl _ => zfo.goes ?_
  simp only [zhE, iN, bT, bF, eN]
  refine zwa ?_
  refine c_FromDup hnd hl0 hb ?_
  refine zwa ?_
  refine c_rtFromDup hnd hl0 hb ?_
  refine zwa ?_
  refine zoy ?_
  refine ziy (show ((5 : Int) != 0) = true from rfl) ?_
  refine zq hl ?_
  exact hN
theorem gq72 {A P Q : Prop} (a : A) (h : Q) (e : A → Hd Q → P := by intro a h; (repeat' first | simp -dsimp only [↓zey, ↓zay, ↓zbs, ↓zez, ↓zeu, ↓zes, ↓zev, ↓zet, ↓zbx, ↓zbt, ↓zby, ↓zbu, ↓zew, ↓zbr, ↓zbz, ↓zbv, ↓zbA, ↓zbw, ↓zer, ↓zex, ↓zbp, ↓zbB, ↓zep, ↓zeo, ↓zeq, iN, bT, bF, eN, ↓zcv, ↓unC, ↓zU, ↓zI, ↓zJ, ↓zM, ↓zX, ↓zal, ↓zcX, ↓zai, ↓zaJ, ↓zW, ↓zg, ↓zn, ↓zbP, ↓zb, ↓zaf, ↓zD, ↓zaI, ↓zaQ, ↓zd, ↓zF, ↓zj, ↓zG, ↓zam, ↓zdc, ↓zdj, ↓zak, ↓zau, ↓zaL, ↓zaY, ↓zbh, ↓zo, ↓zaj, ↓zK, ↓zr, ↓zV, zdk, zbn, zbk, unA, zdu, bnd, zdG, zae, zO, zdW, dm, dm1, zR, zaF, zea, zdZ, zw, Q0, Q1, Q2, Q3, Q4, Q5, zY, zC, zt, zN, zE, Q6, Q7, Q8, Q9, Q10, Q11, Q12, Q13, Q14, Nat.reduceAdd, Q15, Int.reduceToNat, Q16, Q17, Q18, Q19, Q20, reduceIte, Q21, Q22, zA, rep, zZ, zeB, toD, zap, Q23, Q24, Q25, Q26, Q27, Q28, Nat.reduceLeDiff, Q29, Nat.reduceSub, Q30, Q31, Q32, sc, Q33, Q34, Q35, Q36, Q37, Q26, Q38, Q39, zpZ, zpW, zpT, zqa, zgd, zpX, zpU, zpY, zpV, zgc, zge, zqb, zqc, Bool.not_true, Bool.not_false, List.length_map, zbm, zhJ, zcU, opA, zeV, zeS, zaM, a] | with_reducible refine zqd ?_ | fail); exact h.go) : P := e a ⟨h⟩
theorem c_made16 {σ : List zf} {tab : List (List UInt8)} {signs : List zP} (hl0 : tab.length ≤ 1048576) (hb : ∀ b ∈ tab, b.length ≤ 1073741824) (hs : signs.length ≤ 1048576) (hnd : tab.Nodup) {K : KT}
    (hK : ∀ W, W.length = 9 → WorldI σ.length (σ ++ W) tab (zgg [] signs) → K (.tup [.box (σ.length + 2) 0, .box (σ.length + 6) 0, .box (σ.length + 4) 0, .box (σ.length + 8) 0, .d (.bool true)]) (σ ++ W)) :
    zm Tryz.prog zfm [.agg [.d (.slice (ziZ tab)), .d (.slice (zas signs))]] σ K := by
  refine ztq zfo.is rfl (fun _ => List.range' σ.length 9) fun hl _ => zfo.goes ?_
  have hsl : (zas signs).length = signs.length := List.length_map ..
  simp only [zhE, iN, bT, bF, eN]
  refine zwa ?_
  refine c_From hnd hl0 hb ?_
  have hl1 : (σ ++ [zhc tab signs]).length = σ.length + 1 := by simp
  rw [hl1]
  obtain ⟨S2, hS2⟩ : ∃ S2, σ ++ [zhc tab signs] ++ zrV (σ.length + 1) tab = S2 := ⟨_, rfl⟩
  have hg2 : S2[σ.length]? = some (zhc tab signs) := by rw [← hS2]; exact zx (by rw [zt]; rfl)
  have hl2 : S2.length = σ.length + 4 := by rw [← hS2]; simp
  rw [hS2]
  obtain ⟨n2, hn2⟩ : ∃ n, σ.length + 1 + 1 = n := ⟨_, rfl⟩
  rw [hn2]
  refine ziy hg2 ?_
  refine c_rtFrom hnd hl0 hb ?_
  rw [hl2]
  obtain ⟨S3, hS3⟩ : ∃ S3, S2 ++ [rtO tab] = S3 := ⟨_, rfl⟩
  have hg3 : S3[σ.length]? = some (zhc tab signs) := by rw [← hS3]; exact zx hg2
  have hl3 : S3.length = σ.length + 5 := by rw [← hS3]; simp [hl2]
  rw [hS3]
  obtain ⟨n4, hn4⟩ : ∃ n, σ.length + 4 = n := ⟨_, rfl⟩
  rw [hn4]
  refine ziy hg3 ?_
  refine zoy ?_
  rw [hl3]
  obtain ⟨S4, hS4⟩ : ∃ S4, S3 ++ ledO (σ.length + 5) [] = S4 := ⟨_, rfl⟩
  have hg4 : ∀ τ, (S4 ++ τ)[σ.length]? = some (zhc tab signs) := fun τ => by rw [← hS4]; exact zx (zx hg3)
  have hl4 : S4.length = σ.length + 8 := by rw [← hS4]; simp [hl3]
  rw [hS4]
  obtain ⟨n6, hn6⟩ : ∃ n, σ.length + 5 + 1 = n := ⟨_, rfl⟩
  rw [hn6]
  refine ziy (zcc hg4 hsl) ?_
  rw [hl4]
  obtain ⟨n8, hn8⟩ : ∃ n, σ.length + 8 = n := ⟨_, rfl⟩
  rw [hn8]
  have hW0 : (S4 ++ [zf.box [AV.exact []]]).set n8 (.box (([AV.exact []] : List AV).set 0 (.d (.slice [])))) = σ ++ zjR σ.length (zhc tab signs) tab [] := by
    rw [← hn8, ← hl4, zE, ← hS4, ← hS3, ← hS2]
    simp [zjR, rlO]
  refine zhg signs.length (fun k vs S => vs = [.d (.int .i64 k)] ∧ ∃ T, S = σ ++ (zjR σ.length (zhc tab signs) tab (zgg [] (signs.take k)) ++ T)) (.dataB n8 0 [.exact []] (.exact []) [] (by rw [← hn8, ← hl4, zt]; rfl) rfl rfl (.refl _ _)) ⟨rfl, [], by rw [hW0]; simp [zgg]⟩ ?_
  rintro k vs S hk ⟨rfl, T, rfl⟩
  have hI := zug σ (zhc tab signs) tab (zgg [] (signs.take k)) T
  have hgl : (zgg [] (signs.take k)).length ≤ 1048576 := by
    have := zqj (signs.take k) []
    have hlk : (signs.take k).length ≤ signs.length := by rw [List.length_take]; omega
    simp only [List.length_nil, Nat.zero_add] at this
    omega
  by_cases hlt : k < signs.length
  · have hd : decide ((k : Int) < (signs.length : Int)) = true := by simp; omega
    have hx : signs[k]? = some signs[k] := by simp [hlt]
    have hgx := zQ (f := zeS) hx
    obtain ⟨x, hxe⟩ : ∃ x, signs[k] = x := ⟨_, rfl⟩
    rw [hxe] at hx hgx
    have hnx : zgg [] (signs.take (k + 1)) = znq (zgg [] (signs.take k)) x.key x.dig := by
      rw [List.take_add_one, hx]; simp [zgg]
    have hput := putLed_world σ (zhc tab signs) tab (zgg [] (signs.take k)) (znq (zgg [] (signs.take k)) x.key x.dig) T
    obtain ⟨G, hG⟩ : ∃ G, zgg [] (signs.take k) = G := ⟨_, rfl⟩
    rw [hG] at hI hgl hnx hput ⊢
    obtain ⟨S, hS⟩ : ∃ S, σ ++ (zjR σ.length (zhc tab signs) tab G ++ T) = S := ⟨_, rfl⟩
    rw [hS] at hI hput ⊢
    have hled := hI.led
    have hlen6 : σ.length + 6 = n6 := by omega
    rw [hlen6] at hled hput
    rw [hn8] at hput
    refine gq72 (zcc hd (zcc hgx hsl)) ?_
    refine c_gSign (hled.app _) (by omega) ?_
    rw [putLed_app hled]
    obtain ⟨S', hS'⟩ : ∃ S', putLed S n6 (σ.length + 5) (σ.length + 7) (znq G x.key x.dig) = S' := ⟨_, rfl⟩
    have hSl : S'.length = S.length := by rw [← hS', zur]
    have hrl : S'[n8]? = some (rlO G) := by
      rw [← hS', ← hn8]
      unfold putLed
      rw [List.getElem?_set_ne (by omega), List.getElem?_set_ne (by omega), List.getElem?_set_ne (by omega)]
      exact hI.rled
    have hbx : (S' ++ [zf.box [.d (.int .i64 x.key), .d (.int .i64 x.dig)]])[S.length]? = some (.box [.d (.int .i64 x.key), .d (.int .i64 x.dig)]) := by rw [← hSl, zt]; rfl
    rw [hS'] at hput ⊢
    refine ziy hbx ?_
    refine c_rgSign (zx hrl) (by omega) ?_
    rw [zfi hrl, hput]
    refine ziy (wki k (by omega)) ?_
    exact zaG.next hlt ⟨rfl, T ++ [zf.box [.d (.int .i64 x.key), .d (.int .i64 x.dig)]], by rw [hnx]; try simp⟩
  · have hd : decide ((k : Int) < (signs.length : Int)) = false := by simp; omega
    rw [List.take_of_length_le (by omega)] at hI ⊢
    have hI' := zug σ (zhc tab signs) tab (zgg [] signs) []
    rw [List.append_nil] at hI'
    refine ziy (zcc hd hsl) ?_
    refine endsKW_of ?_
    refine zjl (σ' := σ) (os := zjR σ.length (zhc tab signs) tab (zgg [] signs)) (τ := T) rfl rfl hl (low_world _ _ _ _ _) ?_ ?_
    · rw [zuf]
      have a : ∀ k, k < 9 → Low (σ.length + 9) (.box (σ.length + k) 0) := fun k hk => .box _ _ (by omega)
      subst hn2 hn4 hn6 hn8
      refine .tup _ ?_
      intro c hc
      simp only [List.mem_cons, List.not_mem_nil, or_false] at hc
      rcases hc with rfl | rfl | rfl | rfl | rfl
      · exact a 2 (by omega)
      · exact a 6 (by omega)
      · exact a 4 (by omega)
      · exact a 8 (by omega)
      · exact .d _
    · subst hn2 hn4 hn6 hn8
      exact hK _ (zuf ..) hI'
end Go.Proofs.YtpgahkdjkanblaaGreat
