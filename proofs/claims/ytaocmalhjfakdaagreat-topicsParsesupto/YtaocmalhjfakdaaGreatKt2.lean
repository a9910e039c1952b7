/- Contract: the document's reader reads a topic. -/
import Derived.Test.YtaocmalhjfakdaaGreatKt1
import Derived.Test.YtaocmalhjfakdaaGreatTp6
set_option linter.all false
set_option maxRecDepth 100000
set_option linter.unusedSimpArgs false
set_option linter.unusedVariables false
namespace Go.Proofs.YtaocmalhjfakdaaGreat
open Go.AW

structure TdJ (σ : List zc) (id eb : Nat) (nm : List UInt8) (b : Int) (v2 v3 : AV) (s : Rd) (S : List zc) : Prop where
  rd : RrA S id s
  st : Rst σ S id
  a : S[σ.length]? = some (.box [.d (.str []), .d (.int .i64 0), .exact [], .exact []])
  e : S[eb]? = some (.box [.d (.str nm), .d (.int .i64 b), v2, v3])
  lt : id < σ.length ∧ σ.length < eb
section

variable {σ S S' : List zc} {id eb j : Nat} {nm : List UInt8} {b : Int} {v2 v3 : AV} {s s' : Rd}

theorem TdJ.next (h : TdJ σ id eb nm b v2 v3 s S) (h1 : RrA S' id s') (h2 : Rst S S' id) : TdJ σ id eb nm b v2 v3 s' S' := by
  obtain ⟨l1, l2⟩ := h.lt
  exact ⟨h1, h.st.trans h2, h2.at_ h.a (by omega), h2.at_ h.e (by omega), h.lt⟩
theorem TdJ.app (h : TdJ σ id eb nm b v2 v3 s S) (τ : List zc) : TdJ σ id eb nm b v2 v3 s (S ++ τ) := h.next (h.rd.app τ) (.app _ _ _)
theorem TdJ.set (h : TdJ σ id eb nm b v2 v3 s S) (h1 : σ.length < j) (h2 : j ≠ eb) (X : zc) : TdJ σ id eb nm b v2 v3 s (S.set j X) := by
  obtain ⟨l1, l2⟩ := h.lt
  have k : ∀ i, i ≠ j → (S.set j X)[i]? = S[i]? := fun i hi => List.getElem?_set_ne (Ne.symm hi)
  exact ⟨h.rd.keep (k _ (by omega)), ⟨by simpa using h.st.len, fun i h3 h4 => (k _ (by omega)).trans (h.st.get i h3 h4)⟩, (k _ (by omega)).trans h.a, (k _ (by omega)).trans h.e, h.lt⟩
theorem TdJ.put (h : TdJ σ id eb nm b v2 v3 s S) (b' : Int) (w2 w3 : AV) : TdJ σ id eb nm b' w2 w3 s (S.set eb (.box [.d (.str nm), .d (.int .i64 b'), w2, w3])) := by
  obtain ⟨l1, l2⟩ := h.lt
  have k : ∀ X i, i ≠ eb → (S.set eb X)[i]? = S[i]? := fun X i hi => List.getElem?_set_ne (Ne.symm hi)
  exact ⟨h.rd.keep (k _ _ (by omega)), ⟨by simpa using h.st.len, fun i h3 h4 => (k _ _ (by omega)).trans (h.st.get i h3 h4)⟩, (k _ _ (by omega)).trans h.a, List.getElem?_set_self (zg h.e), h.lt⟩
theorem RrA.cell (h : RrA σ id s) : ∃ c, σ[id]? = some (.box [c, .d (.int .i64 s.e)]) := by
  obtain ⟨⟨c, h1, _⟩, _⟩ := h
  exact ⟨c, h1⟩
end

theorem wku (k : Nat) (h : k < 9223372036854775807) : IntKind.u64.wrap ((k : Int) + 1) = ((k + 1 : Nat) : Int) := by
  have := zcH (n := k + 1) (by omega)
  rwa [show ((k + 1 : Nat) : Int) = (k : Int) + 1 by omega] at this ⊢
section

variable {σ : List zc} {id : Nat} {s : Rd} {K : KT}

def TopT (P : Program) (x0 a e F N0 L0 : AV) (s : LO) (Z : ZT) : Prop :=
 zbP [N0, L0, (.d (.int .u64 0))] s fun v s M =>
 zaK v fun N v => zaK v fun O v => zaK v fun Q v => bP .lss Q F s fun R s =>
 gTm R x0 s fun S s =>
 gT R (zbE S s) s fun T s =>
 gTl R 1 T s fun U s =>
 gT R (bP .eql U (iN 0) s) s fun V s =>
 anC R V s fun W s =>
 zl W (cA P zbg [x0, (iN 1024)] s fun X s =>
 zaa .toStr X s fun Y s =>
 zy (zX [(.d (.str [])), iN 0] [(0, 1, Y)]) s fun a0 s =>
 cp [(.d (.str [])), iN 0] 2 a0 s fun b0 s =>
 cA P zJ [x0, (.d (.int .u64 9007199254740992))] s fun c0 s =>
 zaa (.int .i64) c0 s fun d0 s =>
 zh 1 b0 s fun e0 s =>
 zi 1 e0 d0 s fun _ s =>
 gTl O 0 b0 s fun g0 s =>
 gT O (cA P zeR [g0] s) s fun h0 s =>
 anC O h0 s fun i0 s =>
 gTl i0 0 b0 s fun j0 s =>
 gTm i0 N s fun l0 s =>
 gT i0 (bP .gtr j0 l0 s) s fun m0 s =>
 anC i0 m0 s fun o0 s =>
 gT o0 (zh 1 b0 s) s fun p0 s =>
 gT o0 (zk false 1 p0 s) s fun q0 s =>
 gT o0 (zk true 4 e s) s fun r0 s =>
 gT o0 (cA P zas [r0] s) s fun u0 t =>
 zS p0 s t ∧ (gT o0 (bP .leq q0 u0 t) t fun w0 s =>
 anC o0 w0 s fun y0 s =>
 fl 0 b0 s fun z0 s =>
 fl 3 e s fun A0 s =>
 zk true 2 b0 s fun B0 s =>
 m1 2 [(.d (.str [])), iN 0] B0 s fun C0 s =>
 zr 2 24 A0 C0 s fun D0 s =>
 zh 3 e s fun E0 s =>
 zi 1 E0 D0 s fun _ s =>
 bP .add Q (.d (.int .u64 1)) s fun G0 s =>
 M [z0, y0, G0] s)) (zk true 4 e s fun H0 s =>
 zi 4 a H0 s fun _ s =>
 Z (zp (zaG a s true 4) (zp (some O) (some []))) s)
theorem zoy {S6 : List zc} {eb tk : Nat} {nm : List UInt8} {b N : Nat} {R : List (List UInt8)} {s6 : Rd} {g : Nat} {ok0 : Bool} (hb : b ≤ 9007199254740992) (hR : R.length ≤ 64) (hg : g ≤ 8) (hN : (b : Int) + R.length = N)
    (hJ : TdJ σ id eb nm b (.own tk (zK R)) (.exact []) s6 S6)
    (hK : ∀ S, RrA S id (zfZ N ok0 g s6).s → Rst σ S id → K (.tup [.agg [.d (.str nm), .d (.int .i64 b), .d (.slice (zK R)), .d (.slice (zW (zfZ N ok0 g s6).G))], .d (.bool (zfZ N ok0 g s6).ok)]) S) :
    TopT Tryz.prog (.box id 0) (.box σ.length 0) (.box eb 0) (.d (.int .u64 g)) (.d (.str [])) (.d (.bool ok0)) S6 (zli K) := by
  unfold TopT
  simp only [iN, bT, bF, eN]
  obtain ⟨l1, l2⟩ := hJ.lt
  have hnx : ∀ G, (zu.mk nm b R G).next = (N : Int) := fun G => hN
  have hw : zle [.d (.str []), .d (.bool ok0), .d (.int .u64 0)] S6 [.d (.str []), .d (.bool ok0), .d (.int .u64 0)] (S6.set eb (.box [.d (.str nm), .d (.int .i64 b), .own tk (zK R), .own S6.length []]) ++ [.tok 2 0]) := .tokB eb 3 _ [] 2 hJ.e rfl (by simp) (.refl _ _)
  have hlt6 := zg hJ.e
  have hJ0 := (hJ.put b (.own tk (zK R)) (.own S6.length [])).app [.tok 2 0]
  obtain ⟨tk2, htk2⟩ : ∃ tk2, S6.length = tk2 := ⟨_, rfl⟩
  have ltk2 : eb < tk2 := by omega
  have ht0 : (S6.set eb (.box [.d (.str nm), .d (.int .i64 b), .own tk (zK R), .own tk2 []]) ++ [.tok 2 0])[tk2]? = some (.tok 2 0) := by
    rw [List.getElem?_append_right (by simp; omega)]; simp [htk2]
  rw [htk2] at hw hJ0
  refine zcc g (fun k vs S => vs = [.d (.str (zfZ N ok0 k s6).last), .d (.bool (zfZ N ok0 k s6).ok), .d (.int .u64 k)] ∧ TdJ σ id eb nm b (.own tk (zK R)) (.own tk2 (zW (zfZ N ok0 k s6).G)) (zfZ N ok0 k s6).s S ∧ S[tk2]? = some (.tok 2 (zfZ N ok0 k s6).G.length) ∧ (zfZ N ok0 k s6).G.length ≤ k) hw ⟨rfl, hJ0, ht0, Nat.le_refl _⟩ ?_
  rintro k vs S hk ⟨rfl, hJ, ht, hGl⟩
  obtain ⟨c, hc⟩ := hJ.rd.cell
  have he := hJ.e
  have ha := hJ.a
  have hstep : zfZ N ok0 (k + 1) s6 = zmv N (zfZ N ok0 k s6) := rfl
  have hstuck : ¬ (zfZ N ok0 k s6).s.e = 0 → zfZ N ok0 g s6 = zfZ N ok0 k s6 := fun h => zji (p := fun d : DSt => d.s.e = 0) (fun d hd => by unfold zmv; rw [if_neg hd]) hk h
  have hend : k = g → zfZ N ok0 g s6 = zfZ N ok0 k s6 := fun h => by rw [h]
  obtain ⟨D, hD⟩ : ∃ D, zfZ N ok0 k s6 = D := ⟨_, rfl⟩
  rw [hD] at hJ ht hGl hc he hstep hstuck hend ⊢
  have fin : zfZ N ok0 g s6 = D → zli K (some [.agg [.d (.str nm), .d (.int .i64 b), .own tk (zK R), .own tk2 (zW D.G)], .d (.bool D.ok)]) (S.set σ.length (.box [.d (.str nm), .d (.int .i64 b), .own tk (zK R), .own tk2 (zW D.G)])) := fun h => by
    rw [h] at hK
    exact zaO (hK _ (hJ.rd.set (by omega) _) ⟨by simpa using hJ.st.len, fun i h1 h2 => by rw [List.getElem?_set_ne (by omega)]; exact hJ.st.get i h1 h2⟩)
  have f1 : ∀ X, (S.set σ.length X)[σ.length]? = some X := fun X => List.getElem?_set_self (zg ha)
  by_cases hlt : k < g
  · have hd : decide ((k : Int) < (g : Int)) = true := by simp; omega
    cases h0 : (D.s.e == 0)
    · refine zt (zb hd (zb hc (zb h0 (zb he (zb ha f1))))) ?_
      exact fin (hstuck (by simpa using h0))
    · refine zt (zb hd (zb hc h0)) ?_
      have h0' : D.s.e = 0 := by simpa using h0
      have hds : ∀ a v, zaJ true 1024 D.s = a → zax true 9007199254740992 a.2 = v → zmv N D = ⟨a.1, D.ok && zaZ a.1 && Op.bytesLess D.last a.1 && decide ((v.1 : Int) ≤ N), D.G ++ [(a.1, (v.1 : Int))], v.2⟩ := by
        rintro _ _ rfl rfl
        unfold zmv
        rw [if_pos h0']
      have hbl := zeY true 1024 D.s
      refine znB (m := 1024) (by omega) hJ.rd fun S7 hS7 hR7 => ?_
      have hJ7 := hJ.next hS7 hR7
      have ht7 := hR7.at_ ht (by omega)
      obtain ⟨a, hA⟩ : ∃ a, zaJ true 1024 D.s = a := ⟨_, rfl⟩
      rw [hA] at hJ7 hbl ⊢
      refine gq38 ?_
      have hJ8 := hJ7.app [.box [.d (.str a.1), .d (.int .i64 0)]]
      have lid := hJ7.rd.lt
      have le7 := zg hJ7.e
      have lt7 := zg ht7
      refine zhO (m := 9007199254740992) (by omega) hJ8.rd fun S9 hS9 hR9 => ?_
      have hJ9 := hJ8.next hS9 hR9
      have ht9 := hR9.at_ (zf ht7) (by omega)
      have hb9 : S9[S7.length]? = some (.box [.d (.str a.1), .d (.int .i64 0)]) := hR9.at_ (by rw [zj]; rfl) (by omega)
      have hvl := zaX true 9007199254740992 a.2
      have hds := hds a (zax true 9007199254740992 a.2) hA rfl
      obtain ⟨v, hv⟩ : ∃ v, zax true 9007199254740992 a.2 = v := ⟨_, rfl⟩
      rw [hv] at hJ9 hvl hds ⊢
      have hwv : IntKind.i64.wrap ((v.1 : Nat) : Int) = (v.1 : Int) := zam (by omega) (by omega)
      have lb9 := zg hb9
      have hbs : ∀ X, (S9.set S7.length X)[S7.length]? = some X := fun X => List.getElem?_set_self lb9
      have hes : ∀ X, (S9.set S7.length X)[eb]? = _ := fun X => (List.getElem?_set_ne (by omega)).trans hJ9.e
      have hts : ∀ X, (S9.set S7.length X)[tk2]? = _ := fun X => (List.getElem?_set_ne (by omega)).trans ht9
      have hes2 : ∀ X Y, ((S9.set S7.length X).set tk2 Y)[eb]? = _ := fun X Y => (List.getElem?_set_ne (by omega)).trans (hes X)
      have hgl : (zW D.G).length = D.G.length := List.length_map ..
      have hwk := wku k (by omega)
      have last : ∀ B, zmv N D = ⟨a.1, B, D.G ++ [(a.1, (v.1 : Int))], v.2⟩ → zbC g (fun k vs S => vs = [.d (.str (zfZ N ok0 k s6).last), .d (.bool (zfZ N ok0 k s6).ok), .d (.int .u64 k)] ∧ TdJ σ id eb nm b (.own tk (zK R)) (.own tk2 (zW (zfZ N ok0 k s6).G)) (zfZ N ok0 k s6).s S ∧ S[tk2]? = some (.tok 2 (zfZ N ok0 k s6).G.length) ∧ (zfZ N ok0 k s6).G.length ≤ k) k [.d (.str a.1), .d (.bool B), .d (.int .u64 ((k + 1 : Nat) : Int))]
          (((S9.set S7.length (.box [.d (.str a.1), .d (.int .i64 v.1)])).set tk2 (.tok 2 (D.G.length + 1))).set eb (.box [.d (.str nm), .d (.int .i64 b), .own tk (zK R), .own tk2 (zW D.G ++ [[.str a.1, .int .i64 v.1]])])) := fun B hB => by
        refine zbC.next hlt ⟨by rw [hstep, hB], ?_, ?_, ?_⟩
        · rw [hstep, hB]
          have := ((hJ9.set (j := S7.length) (by omega) (by omega) (.box [.d (.str a.1), .d (.int .i64 v.1)])).set (j := tk2) (by omega) (by omega) (.tok 2 (D.G.length + 1))).put b (.own tk (zK R)) (.own tk2 (zW D.G ++ [[.str a.1, .int .i64 v.1]]))
          simpa [zW] using this
        · rw [hstep, hB, List.getElem?_set_ne (by omega), List.getElem?_set_self (by simp; omega)]; simp
        · rw [hstep, hB]; simp; omega
      cases hok : D.ok
      · rw [hok] at hds
        simp only [Bool.false_and] at hds
        refine zt (zb hb9 (zb hwv (zb hbs (zb hes (zb hts (zb hes2 (zb hgl (zb hok hwk)))))))) ?_
        exact last _ hds
      · rw [hok] at hds
        simp only [Bool.true_and] at hds
        refine zt (zb hb9 (zb hwv (zb hbs (zb hes (zb hts (zb hes2 (zb hgl (zb hok hwk)))))))) ?_
        refine znA (by omega) ?_
        cases hnf : zaZ a.1
        · rw [hnf] at hds
          simp only [Bool.false_and] at hds
          refine zt (zb hb9 (zb hwv (zb hbs (zb hes (zb hts (zb hes2 (zb hgl (zb hnf hwk)))))))) ?_
          exact last _ hds
        · rw [hnf] at hds
          simp only [Bool.true_and] at hds
          have c3 := zmD a.1 D.last
          cases hls : Op.bytesLess D.last a.1
          · rw [hls] at hds c3
            simp only [Bool.false_and] at hds
            refine zt (zb hb9 (zb hwv (zb hbs (zb hes (zb hts (zb hes2 (zb hgl (zb hnf (zb c3 hwk))))))))) ?_
            exact last _ hds
          · rw [hls] at hds c3
            simp only [Bool.true_and] at hds
            refine zt (zb hb9 (zb hwv (zb hbs (zb hes (zb hts (zb hes2 (zb hgl (zb hnf (zb c3 hwk))))))))) ?_
            refine zev (x := ⟨nm, b, R, D.G⟩) (by rw [hnx]; omega) ?_
            rw [hnx]
            cases hle : decide ((v.1 : Int) ≤ (N : Int))
            · rw [hle] at hds
              refine zt (zb hb9 (zb hwv (zb hbs (zb hes (zb hts (zb hes2 (zb hgl (zb hle hwk)))))))) ?_
              exact last _ hds
            · rw [hle] at hds
              refine zt (zb hb9 (zb hwv (zb hbs (zb hes (zb hts (zb hes2 (zb hgl (zb hle hwk)))))))) ?_
              exact last _ hds
  · have hd : decide ((k : Int) < (g : Int)) = false := by simp; omega
    refine zt (zb hd (zb he (zb ha f1))) ?_
    exact fin (hend (by omega))
end

end Go.Proofs.YtaocmalhjfakdaaGreat
