/- Contract: a topic is read. -/
import Derived.Test.YtaocmalhjfakdaaGreatKs9
import Derived.Test.YtaocmalhjfakdaaGreatSpRqP
import Derived.Test.YtaocmalhjfakdaaGreatTq8
set_option linter.all false
set_option maxRecDepth 100000
set_option linter.unusedSimpArgs false
set_option linter.unusedVariables false
namespace Go.Proofs.YtaocmalhjfakdaaGreat
open Go.AW

theorem zjf (n : List UInt8) : ∀ {es : List (AV × AV)} {names : List (List UInt8)} (i : Nat), es.map Prod.fst = names.map (fun x => AV.d (.str x)) → ∃ r, ziw .str (.d (.str n)) es i = some r
  | [], _, i, _ => ⟨none, rfl⟩
  | e :: es, names, i, h => by
    cases names with
    | nil => simp at h
    | cons m names =>
      simp only [List.map_cons, List.cons.injEq] at h
      obtain ⟨h1, h2⟩ := h
      obtain ⟨r, hr⟩ := zjf n (es := es) (names := names) (i + 1) h2
      simp only [ziw, h1, zfO]
      cases (n == m)
      · exact ⟨r, hr⟩
      · exact ⟨_, rfl⟩
def zeZ (es : List (AV × AV)) : Prop := ∃ names : List (List UInt8), es.map Prod.fst = names.map (fun x => AV.d (.str x))
theorem zeZ.app {es : List (AV × AV)} (h : zeZ es) (n : List UInt8) (v : AV) : zeZ (es ++ [(.d (.str n), v)]) := by
  obtain ⟨names, h⟩ := h
  exact ⟨names ++ [n], by simp [h]⟩
theorem zeZ.set {es : List (AV × AV)} (h : zeZ es) (i : Nat) (n : List UInt8) (v : AV) : zeZ (es.set i (.d (.str n), v)) := by
  obtain ⟨names, h⟩ := h
  exact ⟨names.set i n, by rw [List.map_set, List.map_set, h]⟩
structure TpJ (σ : List zc) (id d tk : Nat) (b : Int) (R : List (List UInt8)) (es : List (AV × AV)) (s : Rd) (S : List zc) : Prop where
  rd : RdA S id s
  st : Rst σ S id
  a : S[σ.length]? = some (.box [.box id 0])
  m : S[d]? = some (.map es)
  f : S[d + 1]? = some (.box [.d (.int .i64 b), .own tk (zK R), .map d])
  t : S[tk]? = some (.tok 1 R.length)
  lt : id < σ.length ∧ σ.length < d ∧ d + 1 < tk
section

variable {σ S S' : List zc} {id d tk : Nat} {b : Int} {R : List (List UInt8)} {es : List (AV × AV)} {s s' : Rd}

theorem TpJ.next (h : TpJ σ id d tk b R es s S) (h1 : RdA S' id s') (h2 : Rst S S' id) : TpJ σ id d tk b R es s' S' := by
  obtain ⟨l1, l2, l3⟩ := h.lt
  exact ⟨h1, h.st.trans h2, h2.at_ h.a (by omega), h2.at_ h.m (by omega), h2.at_ h.f (by omega), h2.at_ h.t (by omega), h.lt⟩
theorem TpJ.push (h : TpJ σ id d tk b R es s S) (r : List UInt8) : TpJ σ id d tk b (R ++ [r]) es s ((S.set tk (.tok 1 (R.length + 1))).set (d + 1) (.box [.d (.int .i64 b), .own tk (zK R ++ [[.slice (bcs r)]]), .map d])) := by
  obtain ⟨l1, l2, l3⟩ := h.lt
  have k : ∀ X Y j, j ≠ tk → j ≠ d + 1 → ((S.set tk X).set (d + 1) Y)[j]? = S[j]? := fun X Y j h1 h2 => by rw [List.getElem?_set_ne (Ne.symm h2), List.getElem?_set_ne (Ne.symm h1)]
  refine ⟨h.rd.keep (k _ _ _ (by omega) (by omega)), ⟨by simpa using h.st.len, fun j h1 h2 => (k _ _ _ (by omega) (by omega)).trans (h.st.get j h1 h2)⟩, (k _ _ _ (by omega) (by omega)).trans h.a, (k _ _ _ (by omega) (by omega)).trans h.m, ?_, ?_, h.lt⟩
  · rw [List.getElem?_set_self (by simpa using zg h.f)]; simp [zK]
  · rw [List.getElem?_set_ne (by omega), List.getElem?_set_self (zg h.t)]; simp
theorem TpJ.put (h : TpJ σ id d tk b R es s S) (es' : List (AV × AV)) : TpJ σ id d tk b R es' s (S.set d (.map es')) := by
  obtain ⟨l1, l2, l3⟩ := h.lt
  have k : ∀ X j, j ≠ d → (S.set d X)[j]? = S[j]? := fun X j h1 => List.getElem?_set_ne (Ne.symm h1)
  exact ⟨h.rd.keep (k _ _ (by omega)), ⟨by simpa using h.st.len, fun j h1 h2 => (k _ _ (by omega)).trans (h.st.get j h1 h2)⟩, (k _ _ (by omega)).trans h.a, List.getElem?_set_self (zg h.m), (k _ _ (by omega)).trans h.f, (k _ _ (by omega)).trans h.t, h.lt⟩
end

section

variable {σ : List zc} {id : Nat} {s : Rd} {K : KT}

theorem c_rdTopic {name : List UInt8} (h : RdA σ id s)
    (hK : ∀ S f g t, RdA S id (zfs name s).2 → Rst σ S id → f < S.length → ((zfs name s).2.e = 0 → TopAt S ⟨(zfs name s).1, f, g, t⟩ ∧ σ.length ≤ f ∧ σ.length ≤ g ∧ σ.length ≤ t) → K (.box f 0) S) : zn Tryz.prog zdn [.agg [.box id 0]] σ K := by
  refine zaj zff.is rfl fun hl _ => zff.goes ?_
  have hid := h.lt
  have hP : ∀ b n r f g, zax false 9007199254740992 s = b → zax false 64 b.2 = n → zdN false n.1 n.2 = r → (if b.1 + r.1.length > 9007199254740992 then r.2.fail false 70 else r.2) = f → zax false 8 f = g → zfs name s = (⟨name, (b.1 : Int), r.1, (zkH (b.1 + r.1.length) g.1 g.2).G⟩, (zkH (b.1 + r.1.length) g.1 g.2).s) := by
    rintro _ _ _ _ _ rfl rfl rfl rfl rfl; rfl
  simp only [zfk, iN, bT, bF, eN]
  refine zby ?_
  refine zgQ (m := 9007199254740992) (by omega) (by omega) (h.app _) fun S1 hS1 hR1 => ?_
  rw [show (9007199254740992 : Int).toNat = 9007199254740992 from rfl] at hS1 ⊢
  have hbl := zaX false 9007199254740992 s
  obtain ⟨b, hb⟩ : ∃ b, zax false 9007199254740992 s = b := ⟨_, rfl⟩
  rw [hb] at hS1 hbl ⊢
  have a0 : S1[σ.length]? = some (.box [.box id 0]) := hR1.at_ (by rw [zj]; rfl) (by omega)
  have l0 := zg a0
  have hid1 := hS1.lt
  have b0 : ∀ τ, (S1 ++ τ)[σ.length]? = _ := fun τ => zf a0
  refine zt b0 ?_
  refine zgQ (m := 64) (by omega) (by omega) (hS1.app _) fun S2 hS2 hR2 => ?_
  rw [show (64 : Int).toNat = 64 from rfl] at hS2 ⊢
  have hnl := zaX false 64 b.2
  obtain ⟨n, hn⟩ : ∃ n, zax false 64 b.2 = n := ⟨_, rfl⟩
  rw [hn] at hS2 hnl ⊢
  have c0 : S2[σ.length]? = _ := hR2.at_ (b0 _) (by omega)
  have c1 : S2[S1.length]? = some (.map []) := hR2.at_ (by rw [zj]; rfl) (by omega)
  have c2 : S2[S1.length + 1]? = some (.box [.d (.int .i64 b.1), .exact [], .map S1.length]) := hR2.at_ (by rw [zE]; rfl) (by omega)
  have l2 := zg c2
  have e1 : (S1 ++ [zc.map []]).length = S1.length + 1 := by simp
  refine zby ?_
  rw [e1]
  have hs1 := hR1.len
  simp only [List.length_append, List.length_cons, List.length_nil] at hs1
  have hw : zle [.d (.int .i64 0)] S2 [.d (.int .i64 0)] (S2.set (S1.length + 1) (.box [.d (.int .i64 b.1), .own S2.length [], .map S1.length]) ++ [.tok 1 0]) := .tokB (S1.length + 1) 1 _ [] 1 c2 rfl (by simp) (.refl _ _)
  have hJ0 : TpJ σ id S1.length S2.length b.1 [] [] n.2 (S2.set (S1.length + 1) (.box [.d (.int .i64 b.1), .own S2.length [], .map S1.length]) ++ [.tok 1 0]) := by
    have k : ∀ X j, j ≠ S1.length + 1 → j < S2.length → (S2.set (S1.length + 1) X ++ [.tok 1 0])[j]? = S2[j]? := fun X j h1 h2 => by rw [List.getElem?_append_left (by simpa using h2), List.getElem?_set_ne (Ne.symm h1)]
    have hr : Rst σ S2 id := ((Rst.app _ _ _).trans hR1).trans ((Rst.app _ _ _).trans hR2)
    refine ⟨hS2.keep (k _ _ (by omega) hS2.lt), ⟨by have := hr.len; simp; omega, fun j h1 h2 => (k _ _ (by omega) (by omega)).trans (hr.get j h1 h2)⟩, (k _ _ (by omega) (by omega)).trans c0, (k _ _ (by omega) (by omega)).trans c1, zf (List.getElem?_set_self l2), ?_, by omega⟩
    rw [List.getElem?_append_right (by simp)]; simp
  obtain ⟨d, hd⟩ : ∃ d, S1.length = d := ⟨_, rfl⟩
  obtain ⟨tk, htk⟩ : ∃ tk, S2.length = tk := ⟨_, rfl⟩
  rw [hd, htk] at hw hJ0
  rw [hd]
  have hdl : σ.length < d := by omega
  clear hR1 hS1 a0 b0 hS2 hR2 c0 c1 c2
  refine zcc n.1 (fun j vs S => vs = [.d (.int .i64 j)] ∧ TpJ σ id d tk b.1 (zdN false j n.2).1 [] (zdN false j n.2).2 S) hw ⟨rfl, hJ0⟩ ?_
  rintro j vs S hj ⟨rfl, hJ⟩
  have hrl := zmU false n.2 j
  have hre := zo (zdN false j n.2).1
  by_cases hlt : j < n.1
  · have hdj : decide ((j : Int) < (n.1 : Int)) = true := by simp; omega
    obtain ⟨r, hr⟩ : ∃ r, zdN false j n.2 = r := ⟨_, rfl⟩
    have hstep : zdN false (j + 1) n.2 = (r.1 ++ [(zaJ false 64 r.2).1], (zaJ false 64 r.2).2) := by rw [zdN, hr]
    rw [hr] at hJ hrl hre
    have g1 := hJ.a; have g2 := hJ.f
    refine zt (zb hdj (zb g1 g2)) ?_
    refine c_BytesA (m := 64) (by omega) hJ.rd fun S' hS' hR' => ?_
    have hJ' := hJ.next hS' hR'
    obtain ⟨w, hw⟩ : ∃ w, zaJ false 64 r.2 = w := ⟨_, rfl⟩
    rw [hw] at hstep hJ' ⊢
    have k1 := hJ'.f; have k2 := hJ'.t
    have k3 : ∀ X, (S'.set tk X)[d + 1]? = _ := fun X => (List.getElem?_set_ne (by have := hJ.lt; omega)).trans k1
    refine zt (zb g2 (zb k1 (zb k2 (zb k3 (zb hre (zb hrl (wkc j (by omega)))))))) ?_
    have hpush := hJ'.push w.1
    rw [hrl] at hpush
    exact zbC.next hlt ⟨rfl, by rw [hstep]; exact hpush⟩
  · have hdj : decide ((j : Int) < (n.1 : Int)) = false := by simp; omega
    have hjn : j = n.1 := by omega
    subst hjn
    obtain ⟨r, hr⟩ : ∃ r, zdN false n.1 n.2 = r := ⟨_, rfl⟩
    rw [hr] at hJ hrl hre
    have g1 := hJ.a; have g2 := hJ.f
    have hnx : ∀ G, (zu.mk name b.1 r.1 G).next = b.1 + r.1.length := fun G => rfl
    refine zt hdj ?_
    refine zdL (x := ⟨name, b.1, r.1, []⟩) g2 (by rw [hnx]; omega) ?_
    rw [hnx]
    cases c9 : decide ((b.1 : Int) + (r.1.length : Int) > 9007199254740992)
    · have hf : (if b.1 + r.1.length > 9007199254740992 then r.2.fail false 70 else r.2) = r.2 := if_neg (by simp at c9; omega)
      have hN : (zax false 8 r.2).1 ≠ 0 → b.1 + r.1.length ≤ 9007199254740992 := fun _ => by simp at c9; omega
      obtain ⟨X, hX⟩ : ∃ X, r.2 = X := ⟨_, rfl⟩
      replace hf := hf.trans hX
      rw [hX] at hJ hN
      refine zt (zb c9 g1) ?_
      (
      refine zgQ (m := 8) (by omega) (by omega) hJ.rd fun S3 hS3 hR3 => ?_
      rw [show (8 : Int).toNat = 8 from rfl] at hS3 ⊢
      have hgl := zaX false 8 X
      replace hJ := hJ.next hS3 hR3
      obtain ⟨g, hg⟩ : ∃ g, zax false 8 X = g := ⟨_, rfl⟩
      rw [hg] at hJ hgl hN ⊢
      have hT := hP b n r X g hb hn hr hf hg
      rw [hT] at hK
      clear hT hP
      have hNi : ((b.1 : Int) + (r.1.length : Int)).toNat = b.1 + r.1.length := by omega
      obtain ⟨N, hNN⟩ : ∃ N, b.1 + r.1.length = N := ⟨_, rfl⟩
      have hNi2 : (b.1 : Int) + (r.1.length : Int) = (N : Int) := by omega
      rw [hNN] at hK hN
      refine zF g.1 (fun k vs S => vs = [.d (.str (zkH N k g.2).above), .d (.int .i64 k)] ∧ ∃ es, TpJ σ id d tk b.1 r.1 es (zkH N k g.2).s S ∧ zeZ es ∧ ((zkH N k g.2).s.e = 0 → es = grpM (zkH N k g.2).G)) ⟨rfl, [], hJ, ⟨[], rfl⟩, fun _ => rfl⟩ ?_
      rintro k vs S hk ⟨rfl, es, hJ4, hs4, hG4⟩
      have u1 := hJ4.a; have u2 := hJ4.f; have u3 := hJ4.m
      by_cases hlk : k < g.1
      · have hdk : decide ((k : Int) < (g.1 : Int)) = true := by simp; omega
        have hN := hN (by omega)
        have hstep : zkH N (k + 1) g.2 = zhJ N (zkH N k g.2) := rfl
        have hok := zjU (next := N) (s := g.2) (k := k + 1)
        rw [hstep] at hok
        have hok0 := zjU (next := N) (s := g.2) (k := k)
        obtain ⟨G, hG⟩ : ∃ G, zkH N k g.2 = G := ⟨_, rfl⟩
        rw [hG] at hstep hok hok0 hJ4 hG4 ⊢
        refine zt (zb hdk u1) ?_
        refine zpq hJ4.rd fun S5 hS5 hR5 => ?_
        have hJ5 := hJ4.next hS5 hR5
        have hst : zhJ N G = ⟨(zdr G.above G.s).1, G.G ++ [((zdr G.above G.s).1, ((zax false N (zdr G.above G.s).2).1 : Int))], (zax false N (zdr G.above G.s).2).2⟩ := rfl
        have hnok := zkF (above := G.above) (s := G.s)
        obtain ⟨w, hw⟩ : ∃ w, zdr G.above G.s = w := ⟨_, rfl⟩
        rw [hw] at hJ5 hst hnok ⊢
        have v1 := hJ5.a; have v2 := hJ5.f; have v3 := hJ5.m
        refine zt (zb u1 (zb u2 (zb v1 (zb v2 v3)))) ?_
        refine zdL (x := ⟨name, b.1, r.1, []⟩) v2 (by rw [hnx]; omega) ?_
        rw [hnx, hNi2]
        refine zt (zb v1 v2) ?_
        refine zgQ (m := (N : Int)) (by omega) (by omega) hJ5.rd fun S6 hS6 hR6 => ?_
        rw [Int.toNat_natCast] at hS6 ⊢
        have hJ6 := hJ5.next hS6 hR6
        have hvok := zci (c := false) (m := N) (s := w.2)
        obtain ⟨v, hv⟩ : ∃ v, zax false N w.2 = v := ⟨_, rfl⟩
        rw [hv] at hJ6 hst hvok ⊢
        have w1 := hJ6.a; have w2 := hJ6.f; have w3 := hJ6.m
        have hfn : v.2.e = 0 → ziw .str (.d (.str w.1)) es 0 = some none := fun h => by
          obtain ⟨h1, _⟩ := hvok h
          obtain ⟨_, h2, h3, _⟩ := hnok h1
          have hG0 := hok0 h3
          rw [hG4 h3, zfY]
          have : zgy w.1 G.G 0 = none := by
            cases hx : zgy w.1 G.G 0 with
            | none => rfl
            | some q =>
              obtain ⟨q, z⟩ := q
              obtain ⟨i, _, hi⟩ := zga hx
              rcases hG0.abv _ (List.mem_of_getElem? hi) with e | e
              · simp only at e; rw [e] at h2; exact absurd h2 (zgO _)
              · exact absurd (zen e h2) (zgO _)
          rw [this]; rfl
        obtain ⟨keys, hkeys⟩ := hs4
        obtain ⟨q, hq⟩ := zjf w.1 (es := es) 0 hkeys
        have hs4 : zeZ es := ⟨keys, hkeys⟩
        cases q with
        | none =>
          refine zlY (zb v2 (zb w2 (zb w3 (zb hq (wkc k (by omega)))))) ?_
          refine zbC.next hlk ⟨by rw [hstep, hst], _, by rw [hstep, hst]; exact hJ6.put _, hs4.app _ _, fun h => ?_⟩
          rw [hstep, hst] at h ⊢
          have h1 := (hvok h).1
          have h3 := (hnok h1).2.2.1
          rw [hG4 h3]; simp [grpM]
        | some q =>
          obtain ⟨qi, qv⟩ := q
          refine zlY (zb v2 (zb w2 (zb w3 (zb hq (wkc k (by omega)))))) ?_
          refine zbC.next hlk ⟨by rw [hstep, hst], _, by rw [hstep, hst]; exact hJ6.put _, hs4.set _ _ _, fun h => ?_⟩
          rw [hstep, hst] at h
          have := hfn h
          rw [hq] at this; cases this
      · have hdk : decide ((k : Int) < (g.1 : Int)) = false := by simp; omega
        have hko : k = g.1 := by omega
        rw [hko] at hJ4 hG4
        refine zt hdk ?_
        refine zaO (hK S (d + 1) d tk hJ4.rd hJ4.st (zg hJ4.f) fun h => ⟨⟨hJ4.f, ?_, hJ4.t⟩, ?_, ?_, ?_⟩)
        · rw [← hG4 h]; exact hJ4.m
        all_goals have := hJ4.lt; omega)
    · have hf : (if b.1 + r.1.length > 9007199254740992 then r.2.fail false 70 else r.2) = r.2.fail false 70 := if_pos (by simp at c9; omega)
      have hN : (zax false 8 (r.2.fail false 70)).1 ≠ 0 → b.1 + r.1.length ≤ 9007199254740992 := fun h => by
        refine absurd (numP_e (c := false) (m := 8) (s := r.2.fail false 70) fun h2 => ?_) h
        exact absurd (zci h2).1 (zlB (by decide))
      obtain ⟨X, hX⟩ : ∃ X, r.2.fail false 70 = X := ⟨_, rfl⟩
      refine zt (zb c9 g1) ?_
      refine zaq hJ.rd fun S9 hS9 hR9 => ?_
      replace hf := hf.trans hX
      rw [hX] at hS9 hN
      replace hJ := hJ.next hS9 hR9
      have g1 := hJ.a
      refine zt g1 ?_
      (
      refine zgQ (m := 8) (by omega) (by omega) hJ.rd fun S3 hS3 hR3 => ?_
      rw [show (8 : Int).toNat = 8 from rfl] at hS3 ⊢
      have hgl := zaX false 8 X
      replace hJ := hJ.next hS3 hR3
      obtain ⟨g, hg⟩ : ∃ g, zax false 8 X = g := ⟨_, rfl⟩
      rw [hg] at hJ hgl hN ⊢
      have hT := hP b n r X g hb hn hr hf hg
      rw [hT] at hK
      clear hT hP
      have hNi : ((b.1 : Int) + (r.1.length : Int)).toNat = b.1 + r.1.length := by omega
      obtain ⟨N, hNN⟩ : ∃ N, b.1 + r.1.length = N := ⟨_, rfl⟩
      have hNi2 : (b.1 : Int) + (r.1.length : Int) = (N : Int) := by omega
      rw [hNN] at hK hN
      refine zF g.1 (fun k vs S => vs = [.d (.str (zkH N k g.2).above), .d (.int .i64 k)] ∧ ∃ es, TpJ σ id d tk b.1 r.1 es (zkH N k g.2).s S ∧ zeZ es ∧ ((zkH N k g.2).s.e = 0 → es = grpM (zkH N k g.2).G)) ⟨rfl, [], hJ, ⟨[], rfl⟩, fun _ => rfl⟩ ?_
      rintro k vs S hk ⟨rfl, es, hJ4, hs4, hG4⟩
      have u1 := hJ4.a; have u2 := hJ4.f; have u3 := hJ4.m
      by_cases hlk : k < g.1
      · have hdk : decide ((k : Int) < (g.1 : Int)) = true := by simp; omega
        have hN := hN (by omega)
        have hstep : zkH N (k + 1) g.2 = zhJ N (zkH N k g.2) := rfl
        have hok := zjU (next := N) (s := g.2) (k := k + 1)
        rw [hstep] at hok
        have hok0 := zjU (next := N) (s := g.2) (k := k)
        obtain ⟨G, hG⟩ : ∃ G, zkH N k g.2 = G := ⟨_, rfl⟩
        rw [hG] at hstep hok hok0 hJ4 hG4 ⊢
        refine zt (zb hdk u1) ?_
        refine zpq hJ4.rd fun S5 hS5 hR5 => ?_
        have hJ5 := hJ4.next hS5 hR5
        have hst : zhJ N G = ⟨(zdr G.above G.s).1, G.G ++ [((zdr G.above G.s).1, ((zax false N (zdr G.above G.s).2).1 : Int))], (zax false N (zdr G.above G.s).2).2⟩ := rfl
        have hnok := zkF (above := G.above) (s := G.s)
        obtain ⟨w, hw⟩ : ∃ w, zdr G.above G.s = w := ⟨_, rfl⟩
        rw [hw] at hJ5 hst hnok ⊢
        have v1 := hJ5.a; have v2 := hJ5.f; have v3 := hJ5.m
        refine zt (zb u1 (zb u2 (zb v1 (zb v2 v3)))) ?_
        refine zdL (x := ⟨name, b.1, r.1, []⟩) v2 (by rw [hnx]; omega) ?_
        rw [hnx, hNi2]
        refine zt (zb v1 v2) ?_
        refine zgQ (m := (N : Int)) (by omega) (by omega) hJ5.rd fun S6 hS6 hR6 => ?_
        rw [Int.toNat_natCast] at hS6 ⊢
        have hJ6 := hJ5.next hS6 hR6
        have hvok := zci (c := false) (m := N) (s := w.2)
        obtain ⟨v, hv⟩ : ∃ v, zax false N w.2 = v := ⟨_, rfl⟩
        rw [hv] at hJ6 hst hvok ⊢
        have w1 := hJ6.a; have w2 := hJ6.f; have w3 := hJ6.m
        have hfn : v.2.e = 0 → ziw .str (.d (.str w.1)) es 0 = some none := fun h => by
          obtain ⟨h1, _⟩ := hvok h
          obtain ⟨_, h2, h3, _⟩ := hnok h1
          have hG0 := hok0 h3
          rw [hG4 h3, zfY]
          have : zgy w.1 G.G 0 = none := by
            cases hx : zgy w.1 G.G 0 with
            | none => rfl
            | some q =>
              obtain ⟨q, z⟩ := q
              obtain ⟨i, _, hi⟩ := zga hx
              rcases hG0.abv _ (List.mem_of_getElem? hi) with e | e
              · simp only at e; rw [e] at h2; exact absurd h2 (zgO _)
              · exact absurd (zen e h2) (zgO _)
          rw [this]; rfl
        obtain ⟨keys, hkeys⟩ := hs4
        obtain ⟨q, hq⟩ := zjf w.1 (es := es) 0 hkeys
        have hs4 : zeZ es := ⟨keys, hkeys⟩
        cases q with
        | none =>
          refine zlY (zb v2 (zb w2 (zb w3 (zb hq (wkc k (by omega)))))) ?_
          refine zbC.next hlk ⟨by rw [hstep, hst], _, by rw [hstep, hst]; exact hJ6.put _, hs4.app _ _, fun h => ?_⟩
          rw [hstep, hst] at h ⊢
          have h1 := (hvok h).1
          have h3 := (hnok h1).2.2.1
          rw [hG4 h3]; simp [grpM]
        | some q =>
          obtain ⟨qi, qv⟩ := q
          refine zlY (zb v2 (zb w2 (zb w3 (zb hq (wkc k (by omega)))))) ?_
          refine zbC.next hlk ⟨by rw [hstep, hst], _, by rw [hstep, hst]; exact hJ6.put _, hs4.set _ _ _, fun h => ?_⟩
          rw [hstep, hst] at h
          have := hfn h
          rw [hq] at this; cases this
      · have hdk : decide ((k : Int) < (g.1 : Int)) = false := by simp; omega
        have hko : k = g.1 := by omega
        rw [hko] at hJ4 hG4
        refine zt hdk ?_
        refine zaO (hK S (d + 1) d tk hJ4.rd hJ4.st (zg hJ4.f) fun h => ⟨⟨hJ4.f, ?_, hJ4.t⟩, ?_, ?_, ?_⟩)
        · rw [← hG4 h]; exact hJ4.m
        all_goals have := hJ4.lt; omega)
end

end Go.Proofs.YtaocmalhjfakdaaGreat
