/- A table and a ledger into both of which a call writes. What a new view's primary tells, in plain terms. -/
import Derived.Test.YtpgahkdjkanblaaGreatRq3
import Derived.Test.YtpgahkdjkanblaaGreatAu3
import Derived.Test.YtpgahkdjkanblaaGreatSpPut
import Derived.Test.YtpgahkdjkanblaaGreatRq5
import Derived.Test.YtpgahkdjkanblaaGreatSm2
import Derived.Test.YtpgahkdjkanblaaGreatSpMap
import Derived.Test.YtpgahkdjkanblaaGreatNr3
import Derived.Test.YtpgahkdjkanblaaGreatRq1
set_option linter.all false
set_option maxRecDepth 100000
set_option linter.unusedSimpArgs false
set_option linter.unusedVariables false
namespace Go.Proofs.YtpgahkdjkanblaaGreat
open Go.AW

structure TGi where
  id : Nat
  m : Nat
  t : Nat
  id2 : Nat
  m2 : Nat
  t2 : Nat
structure TG (i : TGi) (σ : List zd) (L : List (List UInt8)) (G : List zt) : Prop where
  tab : zdG σ i.id i.m i.t L
  led : zdu σ i.id2 i.m2 i.t2 G
  n1 : i.id ≠ i.id2
  n2 : i.m ≠ i.m2
def zev (i : TGi) (σ : List zd) (L : List (List UInt8)) (G : List zt) : List zd := putLed (putTab σ i.id i.m i.t L) i.id2 i.m2 i.t2 G
theorem TG.app {i : TGi} {σ : List zd} {L : List (List UInt8)} {G : List zt} (h : TG i σ L G) (τ : List zd) : TG i (σ ++ τ) L G := ⟨h.tab.app τ, h.led.app τ, h.n1, h.n2⟩
theorem TG.put {i : TGi} {σ : List zd} {L : List (List UInt8)} {G : List zt} (h : TG i σ L G) (L' : List (List UInt8)) (G' : List zt) : TG i (zev i σ L' G') L' G' :=
  ⟨(h.tab.put L').putLed (zdu.putTab h.tab h.led h.n1 h.n2 L') h.n1 h.n2 G', (zdu.putTab h.tab h.led h.n1 h.n2 L').put G', h.n1, h.n2⟩
theorem TG.put_app {i : TGi} {σ : List zd} {L : List (List UInt8)} {G : List zt} (h : TG i σ L G) (L' : List (List UInt8)) (G' : List zt) (τ : List zd) : zev i (σ ++ τ) L' G' = zev i σ L' G' ++ τ := by
  unfold zev
  rw [zqe h.tab, zqg (zdu.putTab h.tab h.led h.n1 h.n2 L')]
theorem zeJ (i : TGi) (σ : List zd) (L : List (List UInt8)) (G : List zt) : (zev i σ L G).length = σ.length := by simp [zev, putTab, putLed]
theorem TG.self {i : TGi} {σ : List zd} {L : List (List UInt8)} {G : List zt} (h : TG i σ L G) : zev i σ L G = σ := by
  unfold zev; rw [h.tab.self, h.led.self]
theorem TG.lows {i : TGi} {σ : List zd} {L : List (List UInt8)} {G : List zt} (h : TG i σ L G) (hl : zin σ.length σ) (L' : List (List UInt8)) (G' : List zt) : zin σ.length (zev i σ L' G') := by
  have h1 := h.tab.lows hl L'
  have h2 := (zdu.putTab h.tab h.led h.n1 h.n2 L').lows (by rw [znx]; exact h1) G'
  rw [znx] at h2
  exact h2
theorem zrP {i : TGi} {σ : List zd} {L L' : List (List UInt8)} {G : List zt} (h : TG i σ L G) : putTab σ i.id i.m i.t L' = zev i σ L' G := by
  unfold zev
  rw [(zdu.putTab h.tab h.led h.n1 h.n2 L').self]
theorem put_led_tab {i : TGi} {σ : List zd} {L : List (List UInt8)} {G G' : List zt} (h : TG i σ L G) : putLed σ i.id2 i.m2 i.t2 G' = zev i σ L G' := by
  unfold zev
  rw [h.tab.self]
theorem TG.ne {i : TGi} {σ : List zd} {L : List (List UInt8)} {G : List zt} (h : TG i σ L G) : [i.id, i.m, i.t, i.id2, i.m2, i.t2].Nodup := by
  obtain ⟨a1, a2, a3⟩ := h.tab.ne
  obtain ⟨b1, b2, b3⟩ := h.led.ne
  obtain ⟨⟨c1, c2⟩, ⟨d1, d2⟩, ⟨e1, e2, e3⟩⟩ := apart2 h.tab h.led h.n1 h.n2
  have := h.n1
  have := h.n2
  simp
  exact ⟨⟨a1, a2, ‹_›, c1, c2⟩, ⟨a3, d1, ‹_›, d2⟩, ⟨e1, e2, e3⟩, ⟨b1, b2⟩, b3⟩
theorem set2 {α : Type} (l : List α) (i : Nat) (x y : α) : (l.set i x).set i y = l.set i y := List.set_set ..
theorem setc {α : Type} (l : List α) {i j : Nat} (x y : α) (h : i ≠ j) : (l.set i x).set j y = (l.set j y).set i x := List.set_comm _ _ h
theorem TG.other {i : TGi} {σ : List zd} {k : Nat} (hk : k ≠ i.id ∧ k ≠ i.m ∧ k ≠ i.t ∧ k ≠ i.id2 ∧ k ≠ i.m2 ∧ k ≠ i.t2) (L : List (List UInt8)) (G : List zt) : (zev i σ L G)[k]? = σ[k]? := by
  obtain ⟨h1, h2, h3, h4, h5, h6⟩ := hk
  unfold zev putTab putLed
  rw [List.getElem?_set_ne (Ne.symm h4), List.getElem?_set_ne (Ne.symm h6), List.getElem?_set_ne (Ne.symm h5), List.getElem?_set_ne (Ne.symm h2), List.getElem?_set_ne (Ne.symm h1), List.getElem?_set_ne (Ne.symm h3)]
theorem TG.put_put {i : TGi} {σ : List zd} {L : List (List UInt8)} {G : List zt} (h : TG i σ L G) (L1 L2 : List (List UInt8)) (G1 G2 : List zt) : zev i (zev i σ L1 G1) L2 G2 = zev i σ L2 G2 := by
  have h1 := (h.put L1 G1).put L2 G2
  have h2 := h.put L2 G2
  apply List.ext_getElem?
  intro k
  by_cases e1 : k = i.id
  · subst e1; rw [h1.tab.box, h2.tab.box]
  by_cases e2 : k = i.m
  · subst e2; rw [h1.tab.map, h2.tab.map]
  by_cases e3 : k = i.t
  · subst e3; rw [h1.tab.tok, h2.tab.tok]
  by_cases e4 : k = i.id2
  · subst e4; rw [h1.led.box, h2.led.box]
  by_cases e5 : k = i.m2
  · subst e5; rw [h1.led.map, h2.led.map]
  by_cases e6 : k = i.t2
  · subst e6; rw [h1.led.tok, h2.led.tok]
  rw [TG.other ⟨e1, e2, e3, e4, e5, e6⟩, TG.other ⟨e1, e2, e3, e4, e5, e6⟩, TG.other ⟨e1, e2, e3, e4, e5, e6⟩]
/-! entries -/
def noEn : zaI := ⟨0, 0, [], 0, 0⟩
def zkI (L : List (List UInt8)) (key : Int) (x : zaI) : Int := if digE L x.batch ≠ 0 then digE L x.batch else votE (zri L x.batch) key 2 x.view x.seq (zrw L x.batch)
def zsW (L : List (List UInt8)) (x : zaI) : List (List UInt8) := if digE L x.batch ≠ 0 then zri L x.batch else votL (zri L x.batch) 2 x.view x.seq (zrw L x.batch)
def zsX (L : List (List UInt8)) (G : List zt) (key : Int) (x : zaI) : List zt := if digE L x.batch ≠ 0 then G else votG (zri L x.batch) G key 2 x.view x.seq (zrw L x.batch)
def entX (L : List (List UInt8)) (key : Int) (x : zaI) : zaI := if zkI L key x ≠ 0 then noEn else
  { x with key := (votS (zri L x.batch) key 2 x.view x.seq (zrw L x.batch)).key, dig := (votS (zri L x.batch) key 2 x.view x.seq (zrw L x.batch)).dig }
structure LoopR where
  e : Int
  L : List (List UInt8)
  G : List zt
  out : List zaI
def zaA (key : Int) : List zaI → List (List UInt8) → List zt → List zaI → LoopR
  | [], L, G, out => ⟨0, L, G, out⟩
  | x :: r, L, G, out => if zkI L key x ≠ 0 then ⟨zkI L key x, zsW L x, zsX L G key x, out⟩ else zaA key r (zsW L x) (zsX L G key x) (out ++ [entX L key x])
structure MakeR where
  m : zes
  e : Int
  L : List (List UInt8)
  G : List zt
def zhF (L : List (List UInt8)) (G : List zt) (m : zes) : MakeR :=
  if zcK (zdE m) ≠ 0 then ⟨zfl, zcK (zdE m), L, G⟩
  else if sgnE L m.src (zdb m) ≠ 0 then ⟨zfl, sgnE L m.src (zdb m), zib L (zdb m), zoW L G m.src (zdb m)⟩
  else ⟨{ m with key := (zsU L m.src (zdb m)).key, sdig := (zsU L m.src (zdb m)).dig }, 0, zib L (zdb m), zoW L G m.src (zdb m)⟩
def ziE (f view : Int) (cs : List zO) (xs : List zaI) : zes := { zfl with kind := 8, src := zcA f view, view := view, changes := cs, entries := xs }
theorem take_get {α : Type} {l : List α} {n k : Nat} (h : k < n) : (l.take n)[k]? = l[k]? := by rw [List.getElem?_take, if_pos h]
theorem srcOk_take {f : Int} {cs : List zO} {n k : Nat} (h : k < n) : zuu f (cs.take n) k = zuu f cs k := by
  have hp : zlj (cs.take n) k = zlj cs k := by
    cases k with
    | zero => rfl
    | succ k => simp only [zlj, take_get (show k < n by omega)]
  simp only [zuu, take_get h, hp]
theorem zqr {f view : Int} {cs : List zO} (h : zmw f view cs = 0) : zci f = 0 ∧ ¬ (view < 1 ∨ view > 9007199254740992) ∧ zmD f cs cs.length = true ∧ zaB 2 f ≤ cs.length := by
  unfold zmw at h
  by_cases h0 : zci f ≠ 0
  · rw [if_pos h0] at h; exact absurd h h0
  rw [if_neg h0] at h
  by_cases h1 : view < 1 ∨ view > 9007199254740992
  · rw [if_pos h1] at h; cases h
  rw [if_neg h1] at h
  by_cases h2 : zmD f cs cs.length = false
  · rw [if_pos h2] at h; cases h
  rw [if_neg h2] at h
  by_cases h3 : (cs.length : Int) < zaB 2 f
  · rw [if_pos h3] at h; cases h
  exact ⟨by simpa using h0, h1, by simpa using h2, by omega⟩
theorem zuW {f : Int} (h : zci f = 0) : 1 ≤ f ∧ f ≤ 4 := by
  unfold zci at h
  split at h
  · cases h
  · omega
theorem mayF_take {f view : Int} {cs : List zO} (h : zmw f view cs = 0) : zmw f view (cs.take (zaB 2 f).toNat) = 0 := by
  obtain ⟨h1, h2, h3, h4⟩ := zqr h
  have hf := zuW h1
  have ht : zaB 2 f = 2 * f + 1 := by rw [zaB, if_neg (by omega)]
  have hl : (cs.take (zaB 2 f).toNat).length = (zaB 2 f).toNat := by rw [List.length_take]; omega
  have hs : zmD f (cs.take (zaB 2 f).toNat) (cs.take (zaB 2 f).toNat).length = true := by
    simp only [zmD, List.all_eq_true, List.mem_range] at h3 ⊢
    intro k hk
    rw [srcOk_take (by omega)]
    exact h3 k (by omega)
  unfold zmw
  rw [if_neg (by simp [h1]), if_neg h2, if_neg (by rw [hs]; decide), if_neg (by omega)]
end Go.Proofs.YtpgahkdjkanblaaGreat

/- Contracts: votes and entries signed, the program's. -/
set_option maxRecDepth 100000
set_option linter.unusedSimpArgs false
set_option linter.unusedVariables false
namespace Go.Proofs.YtpgahkdjkanblaaGreat
open Go.AW

theorem c_auSign {i : TGi} {σ : List zd} {L : List (List UInt8)} {G : List zt} {key : Int} {b : List UInt8} (h : TG i σ L G) (hL : zkx L) (hbl : b.length ≤ 1073741824) (hg : G.length ≤ 1073741824) {K : KT}
    (hK : K (.tup [zta (zsU L key b), .d (.int .i64 (sgnE L key b))]) (zev i σ (zib L b) (zoW L G key b))) :
    zl Tryz.prog zlr [.box i.id 0, .box i.id2 0, .d (.int .i64 key), .d (.slice (bcs b))] σ K := by
  refine ze zsq.is rfl fun hl _ => zsq.goes ?_
  simp only [zsP, iN, bT, bF, eN]
  refine zaF ?_
  refine c_tSum (h.tab.app _) hbl hL.len ?_
  rw [zqe h.tab, zrP h]
  have h1 := h.put (zib L b) G
  have hl1 := h.lows hl (zib L b) G
  have hs1 := zeJ i σ (zib L b) G
  have hpp := h.put_put (zib L b) (zib L b) G (zoW L G key b)
  obtain ⟨S1, hS1⟩ : ∃ S, zev i σ (zib L b) G = S := ⟨_, rfl⟩
  rw [hS1] at h1 hl1 hs1 hpp ⊢
  have r1 : σ.length = S1.length := hs1.symm
  rw [r1] at hl1
  by_cases hz : znL L b = 0
  · have hq : (znL L b == 0) = true := by simpa using hz
    simp only [sgnE, zsU, zoW, if_pos hz, zta, hS1] at hK
    refine zay (zq hq r1) ?_
    refine zfx rfl ?_ hl1 hK
    simp [zjI, dmT, dm, dm1, zdy, zbL, zfZ]
  · have hq : (znL L b == 0) = false := by simpa using hz
    rw [← hpp] at hK
    simp only [sgnE, zsU, zoW, if_neg hz] at hK
    refine zay (zq hq r1) ?_
    refine c_gSign (h1.led.app _) hg ?_
    rw [zqg h1.led, put_led_tab h1]
    have h2 := h1.put (zib L b) (zid G key (znL L b))
    have hl2 := h1.lows hl1 (zib L b) (zid G key (znL L b))
    have hs2 := zeJ i S1 (zib L b) (zid G key (znL L b))
    obtain ⟨S2, hS2⟩ : ∃ S, zev i S1 (zib L b) (zid G key (znL L b)) = S := ⟨_, rfl⟩
    rw [hS2] at hK hs2 hl2 h2 ⊢
    have r3 : S1.length = S2.length := hs2.symm
    have r2 : σ.length = S2.length := r1.trans r3
    rw [r3] at hl2
    simp only [zta] at hK ⊢
    refine zay (zq r2 r3) ?_
    refine zfx rfl ?_ hl2 hK
    simp [zjI, dmT, dm, dm1, zdy, zbL, zfZ]
theorem c_auVote {i : TGi} {σ : List zd} {L : List (List UInt8)} {G : List zt} {key a b c d : Int} (h : TG i σ L G) (hL : zkx L) (hg : G.length ≤ 1073741824) {K : KT}
    (hK : K (.tup [zta (votS L key a b c d), .d (.int .i64 (votE L key a b c d))]) (zev i σ (votL L a b c d) (votG L G key a b c d))) :
    zl Tryz.prog zow [.box i.id 0, .box i.id2 0, .d (.int .i64 key), .d (.int .i64 a), .d (.int .i64 b), .d (.int .i64 c), .d (.int .i64 d)] σ K := by
  refine ze zss.is rfl fun hl _ => zss.goes ?_
  simp only [zsR, iN, bT, bF, eN]
  refine zaF ?_
  refine znH (h.tab.app _) (h.led.app _) hL hg ?_
  refine zaF ?_
  refine c_auMay ?_
  cases hm : mayV a b c d
  · simp only [votS, votE, votL, votG, hm, Bool.false_eq_true, if_false, zta, h.self] at hK
    refine zaF ?_
    refine zV hl ?_
    exact hK
  · simp only [votS, votE, votL, votG, hm, if_true] at hK
    have hbl := voteB_len hm
    refine zaF ?_
    refine zpB hm ?_
    refine zaF ?_
    refine c_auSign (h.app _) hL (by omega) hg ?_
    rw [h.put_app]
    have hl2 := h.lows hl (zib L (zoS a b c d)) (zoW L G key (zoS a b c d))
    have hs2 := zeJ i σ (zib L (zoS a b c d)) (zoW L G key (zoS a b c d))
    obtain ⟨S2, hS2⟩ : ∃ S, zev i σ (zib L (zoS a b c d)) (zoW L G key (zoS a b c d)) = S := ⟨_, rfl⟩
    rw [hS2] at hK hs2 hl2 ⊢
    have r3 : σ.length = S2.length := hs2.symm
    rw [r3] at hl2
    simp only [zta] at hK ⊢
    refine zay r3 ?_
    refine zfx rfl ?_ hl2 hK
    simp [zjI, dmT, dm, dm1, zdy, zbL, zfZ]
theorem zkx.vote {L : List (List UInt8)} (h : zkx L) (a b c d : Int) : zkx (votL L a b c d) := by
  unfold votL
  split
  · rename_i hm
    exact h.sum (by have := voteB_len hm; omega)
  · exact h
theorem zux (L : List (List UInt8)) (G : List zt) (key : Int) (b : List UInt8) : (zoW L G key b).length ≤ G.length + 1 := by
  unfold zoW zid zsZ
  split
  · omega
  · split
    · split
      · omega
      · simp
    · omega
theorem votG_len (L : List (List UInt8)) (G : List zt) (key a b c d : Int) : (votG L G key a b c d).length ≤ G.length + 1 := by
  unfold votG
  split
  · exact zux ..
  · omega
theorem zkx.dig' {L : List (List UInt8)} (h : zkx L) {l : List zu} (hx : ∀ s ∈ l, zmB s.op ≤ 20971520) : zkx (zri L l) := by
  unfold zri
  split
  · exact h
  · rename_i hc
    have := zog hx
    rw [zeG, if_pos (by simpa using hc)] at this
    exact h.sum (by omega)
theorem zkx.ent {L : List (List UInt8)} (h : zkx L) {x : zaI} (hx : ∀ s ∈ x.batch, zmB s.op ≤ 20971520) : zkx (zsW L x) := by
  unfold zsW
  split
  · exact h.dig' hx
  · exact (h.dig' hx).vote ..
theorem entG_len (L : List (List UInt8)) (G : List zt) (key : Int) (x : zaI) : (zsX L G key x).length ≤ G.length + 1 := by
  unfold zsX
  split
  · omega
  · exact votG_len ..
theorem c_auEntry {i : TGi} {σ : List zd} {L : List (List UInt8)} {G : List zt} {key : Int} {x : zaI} (h : TG i σ L G) (hL : zkx L) (hg : G.length ≤ 1073741824) (hx : ∀ s ∈ x.batch, zmB s.op ≤ 20971520) (hll : x.batch.length ≤ 1073741824)
    {K : KT} (hK : K (.tup [zsj (entX L key x), .d (.int .i64 (zkI L key x))]) (zev i σ (zsW L x) (zsX L G key x))) :
    zl Tryz.prog zmM [.box i.id 0, .box i.id2 0, .d (.int .i64 key), zsj x] σ K := by
  refine ze zrh.is rfl fun hl _ => zrh.goes ?_
  have hok : ziR x.batch := ⟨hll, fun s hs => by have := zuw (hx s hs); exact ⟨this.2.2.1, this.2.2.2⟩⟩
  simp only [zrp, iN, bT, bF, eN]
  refine zaF ?_
  refine znH (h.tab.app _) (h.led.app _) hL hg ?_
  refine zaF ?_
  refine c_rqDigest (h.tab.app _) hL hx hll ?_
  rw [zqe h.tab, zrP h]
  have h1 := h.put (zri L x.batch) G
  have hl1 := h.lows hl (zri L x.batch) G
  have hs1 := zeJ i σ (zri L x.batch) G
  have hpp := fun G' L' => h.put_put (zri L x.batch) L' G G'
  obtain ⟨S1, hS1⟩ : ∃ S, zev i σ (zri L x.batch) G = S := ⟨_, rfl⟩
  rw [hS1] at h1 hl1 hs1 ⊢
  simp only [hS1] at hpp
  have r1 : σ.length = S1.length := hs1.symm
  rw [r1] at hl1
  by_cases hz : digE L x.batch = 0
  rotate_left
  · have hq : (digE L x.batch != 0) = true := by simpa using hz
    simp only [entX, zkI, zsW, zsX, if_pos hz, ne_eq, hz, not_false_eq_true, if_true, noEn, hS1] at hK
    refine zay (zq hq r1) ?_
    refine zfx rfl ?_ hl1 hK
    simp [zjI, dmT, dm, dm1, zdy, zbL, zfZ]
  have hq : (digE L x.batch != 0) = false := by simpa using hz
  have hz' : ¬ digE L x.batch ≠ 0 := by simpa using hz
  have e1 : zkI L key x = votE (zri L x.batch) key 2 x.view x.seq (zrw L x.batch) := if_neg hz'
  have e2 : zsW L x = votL (zri L x.batch) 2 x.view x.seq (zrw L x.batch) := if_neg hz'
  have e3 : zsX L G key x = votG (zri L x.batch) G key 2 x.view x.seq (zrw L x.batch) := if_neg hz'
  have hL1 := hL.dig' hx
  unfold entX at hK
  rw [e1, e2, e3, ← hpp] at hK
  obtain ⟨L1, hL1e⟩ : ∃ A, zri L x.batch = A := ⟨_, rfl⟩
  rw [hL1e] at hK h1 hL1
  refine zay (zq hq r1) ?_
  refine zkR (b := x.batch) hok ?_
  refine zay r1 ?_
  refine c_auVote (h1.app _) hL1 hg ?_
  rw [h1.put_app]
  have h2 := h1.put (votL L1 2 x.view x.seq (zrw L x.batch)) (votG L1 G key 2 x.view x.seq (zrw L x.batch))
  have hl2 := h1.lows hl1 (votL L1 2 x.view x.seq (zrw L x.batch)) (votG L1 G key 2 x.view x.seq (zrw L x.batch))
  have hs2 := zeJ i S1 (votL L1 2 x.view x.seq (zrw L x.batch)) (votG L1 G key 2 x.view x.seq (zrw L x.batch))
  obtain ⟨S2, hS2⟩ : ∃ S, zev i S1 (votL L1 2 x.view x.seq (zrw L x.batch)) (votG L1 G key 2 x.view x.seq (zrw L x.batch)) = S := ⟨_, rfl⟩
  rw [hS2] at hK hs2 hl2 h2 ⊢
  have r3 : S1.length = S2.length := hs2.symm
  have r2 : σ.length = S2.length := r1.trans r3
  rw [r3] at hl2
  obtain ⟨sg, hsg⟩ : ∃ s, votS L1 key 2 x.view x.seq (zrw L x.batch) = s := ⟨_, rfl⟩
  obtain ⟨N, hN⟩ : ∃ s, votE L1 key 2 x.view x.seq (zrw L x.batch) = s := ⟨_, rfl⟩
  rw [hsg, hN] at hK
  rw [hsg, hN]
  simp only [zta]
  by_cases hn : N = 0
  · have hq2 : (N != 0) = false := by simpa using hn
    rw [if_neg (by simpa using hn), hn] at hK
    refine zay (zq hq2 (zq r2 r3)) ?_
    refine zfx rfl ?_ hl2 hK
    simp [zjI, dmT, dm, dm1, zdy, zbL, zfZ]
  · have hq2 : (N != 0) = true := by simpa using hn
    rw [if_pos hn] at hK
    simp only [noEn] at hK
    refine zay (zq hq2 (zq r2 r3)) ?_
    refine zfx rfl ?_ hl2 hK
    simp [zjI, dmT, dm, dm1, zdy, zbL, zfZ]
end Go.Proofs.YtpgahkdjkanblaaGreat

/- Contracts: certificates that are kept. -/
set_option maxRecDepth 100000
set_option linter.unusedSimpArgs false
set_option linter.unusedVariables false
namespace Go.Proofs.YtpgahkdjkanblaaGreat
open Go.AW

theorem c_clSign {σ : List zd} {l : List zt} (hn : l.length ≤ 1073741824) {K : KT} (hK : K (.d (.slice (zab l))) σ) : zl Tryz.prog zbJ [.d (.slice (zab l))] σ K := by
  refine ze zdW.is rfl fun hl _ => zdW.goes ?_
  have hlen : (zab l).length = l.length := List.length_map ..
  have h2 : ∀ e ∈ zab l, e.length = 2 := zfS (f := zgH) (fun _ => rfl) l
  simp only [zdY, iN, bT, bF, eN, zY, zcZ]
  obtain ⟨es, hes⟩ : ∃ es, zab l = es := ⟨_, rfl⟩
  rw [hes] at hlen h2 hK ⊢
  cases es with
  | nil =>
    refine ⟨?_, ?_⟩
    · refine zaF ?_
      refine zV hl ?_
      exact hK
    · refine zaF ?_
      refine zV hl ?_
      exact hK
  | cons e es =>
    simp only [zP, zr, zI, zR, rep, zj, zeo, zaa, zE, zdT]
    refine ⟨h2, by simp, by rw [hlen]; simp; omega, ?_⟩
    refine zV hl ?_
    exact hK
abbrev hE (l : List (Int × zca)) : List (AV × AV) := zuQ (l.map fun e => (e.1, prepA e.2))
structure HeldAt (σ : List zd) (h m : Nat) (l : List (Int × zca)) : Prop where
  box : σ[h]? = some (.box [.map m])
  map : σ[m]? = some (.map (hE l))
theorem HeldAt.app {σ : List zd} {h m : Nat} {l : List (Int × zca)} (H : HeldAt σ h m l) (τ : List zd) : HeldAt (σ ++ τ) h m l := ⟨zM H.box, zM H.map⟩
end Go.Proofs.YtpgahkdjkanblaaGreat
