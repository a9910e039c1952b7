/- Contracts: bytes that grow, the program's. -/
import Derived.Test.YtdgcepphjnoalaaGreatRq2
import Derived.Test.YtdgcepphjnoalaaGreatCk4
import Derived.Test.YtdgcepphjnoalaaGreatSm5
import Derived.Test.YtdgcepphjnoalaaGreatCl1
import Derived.Test.YtdgcepphjnoalaaGreatSpTab
set_option linter.all false
set_option maxRecDepth 100000
set_option linter.unusedSimpArgs false
set_option linter.unusedVariables false
namespace Go.Proofs.YtdgcepphjnoalaaGreat
open Go.AW

structure zqw (σ : List zc) (id : Nat) (B O : zc) (S : List zc) : Prop where
  a : S[id]? = some O
  b : S[σ.length]? = some B
  pre : ∃ τ, S = σ.set id O ++ τ
section

variable {σ S : List zc} {id : Nat} {B O O' : zc}

theorem zqw.first (hσ : σ[id]? = some O) (B : zc) : zqw σ id B O (σ ++ [B]) := ⟨zy hσ, by rw [zu]; rfl, [B], by rw [zdP hσ]⟩
theorem zqw.set (h : zqw σ id B O S) (hid : id < σ.length) (O' : zc) : zqw σ id B O' (S.set id O') := by
  obtain ⟨h1, h2, τ, h3⟩ := h
  refine ⟨List.getElem?_set_self (zbR h1), (List.getElem?_set_ne (by omega)).trans h2, τ, ?_⟩
  rw [h3, List.set_append_left _ _ (by simpa using hid), List.set_set]
theorem zqw.app (h : zqw σ id B O S) (τ : List zc) : zqw σ id B O (S ++ τ) := by
  obtain ⟨h1, h2, τ', h3⟩ := h
  exact ⟨zy h1, zy h2, τ' ++ τ, by rw [h3, List.append_assoc]⟩
theorem zqw.done {K : AV → List zc → Prop} (h : zqw σ id B O S) (hO : zqv σ.length O) (hl : zfz σ.length σ) (hK : K (.tup []) (σ.set id O)) : AW.Ends σ.length K (some []) S := by
  obtain ⟨_, _, τ, rfl⟩ := h
  exact zfp (by simp [zdg, dmT, zda]) hl hO hK
theorem zqw.as (h : zqw σ id B O S) (e : O = O') : zqw σ id B O' S := e ▸ h
end

abbrev wO (b : List UInt8) : zc := .box [.d (.slice (bcs b))]
theorem wO_low (n : Nat) (b : List UInt8) : zqv n (wO b) := by
  intro c hc
  simp only [List.mem_cons, List.not_mem_nil, or_false] at hc
  subst hc; exact .d _
theorem w64 {x : Int} (h0 : 0 ≤ x) (h1 : x ≤ 9007199254740992) : IntKind.u64.wrap x = ((x.toNat : Nat) : Int) := by
  rw [show x = ((x.toNat : Nat) : Int) by omega, zho (by omega)]; rfl
section

variable {σ : List zc} {id : Nat} {b : List UInt8} {K : AV → List zc → Prop}

theorem c_wNum {l : List Int} (hσ : σ[id]? = some (wO b)) (hb : b.length ≤ 536870912) (hl0 : l.length ≤ 1000) (hi : ∀ x ∈ l, 0 ≤ x ∧ x ≤ 9007199254740992) (hK : K (.tup []) (σ.set id (wO (b ++ zdH l)))) :
    zl Tryz.prog zY [.box id 0, .d (.slice (zlt l))] σ K := by
  refine zoQ zhd.is rfl fun hl _ => zhd.goes ?_
  have hid := zbR hσ
  simp only [zhi, iN, bT, bF, eN]
  refine zaP ?_
  refine zae l.length (fun k vs s => vs = [.d (.int .i64 k)] ∧ ∃ c T, s = σ.set id (.box [c]) ++ T ∧ (c = .d (.slice (bcs (b ++ zdH (l.take k)))) ∨ ∃ t, c = .own t (bcs (b ++ zdH (l.take k))))) ⟨rfl, _, [], by rw [List.append_nil, zdP hσ], .inl (by simp [zdH])⟩ ?_
  rintro k vs s hk ⟨rfl, c, T, rfl, hc⟩
  have hbox : (σ.set id (.box [c]) ++ T)[id]? = some (.box [c]) := zy (zhb hσ)
  by_cases hlt : k < l.length
  · have hd : decide ((k : Int) < (l.length : Int)) = true := by simp; omega
    have hx : l[k]? = some l[k] := by simp [hlt]
    have hxi := hi _ (List.getElem_mem hlt)
    have hgx := zbZ (f := fun t => [D.int .i64 t]) hx
    obtain ⟨x, hxe⟩ : ∃ x, l[k] = x := ⟨_, rfl⟩
    rw [hxe] at hx hgx hxi
    have hln := zoc (l := l.take k) (fun y hy => by have := hi y (List.mem_of_mem_take hy); omega)
    have hlk : (l.take k).length = k := by rw [List.length_take]; omega
    have hw := w64 hxi.1 hxi.2
    have hbl : (b ++ zdH (l.take k)).length ≤ 1073741824 := by rw [List.length_append]; omega
    have hnx : b ++ zdH (l.take (k + 1)) = b ++ (zdH (l.take k) ++ zdC x.toNat) := by rw [List.take_add_one, hx]; simp [zdH]
    have fin : ∀ t τ, ∃ c' T', (σ.set id (.box [c]) ++ T ++ τ).set id (.box [.own t (bcs (b ++ (zdH (l.take k) ++ zdC x.toNat)))]) = σ.set id (.box [c']) ++ T' ∧ (c' = .d (.slice (bcs (b ++ zdH (l.take (k + 1))))) ∨ ∃ t, c' = .own t (bcs (b ++ zdH (l.take (k + 1))))) := by
      intro t τ
      refine ⟨_, T ++ τ, ?_, .inr ⟨t, rfl⟩⟩
      rw [hnx, List.append_assoc, List.set_append_left _ _ (by simpa using hid), List.set_set]
    have hbox2 : ∀ τ, (σ.set id (.box [c]) ++ T ++ τ)[id]? = some (.box [c]) := fun τ => zy hbox
    obtain ⟨S, hS⟩ : ∃ S, σ.set id (.box [c]) ++ T = S := ⟨_, rfl⟩
    rw [hS] at hbox fin hbox2 ⊢
    rcases hc with rfl | ⟨t, rfl⟩
    · refine gq22 (zj hd (zj hgx (zj hbox hw))) ?_
      refine zdS (by omega) hbl ?_
      refine gq22 (zj hbox2 (wkc k (by omega))) ?_
      exact zdE.next hlt ⟨rfl, fin _ _⟩
    · refine gq22 (zj hd (zj hgx (zj hbox hw))) ?_
      refine zdS (by omega) hbl ?_
      refine gq22 (zj hbox2 (wkc k (by omega))) ?_
      exact zdE.next hlt ⟨rfl, fin _ _⟩
  · have hd : decide ((k : Int) < (l.length : Int)) = false := by simp; omega
    rw [List.take_of_length_le (by omega)] at hc
    rcases hc with rfl | ⟨t, rfl⟩
    · refine gq22 hd ?_
      refine zqW (zfp (by simp [zdg, dmT, zda]) hl (wO_low _ _) hK)
    · refine gq22 hd ?_
      exact zqd hσ (by simp [zdg, dmT, zda]) hl hK
theorem c_wSign {k d : Int} (hσ : σ[id]? = some (wO b)) (hb : b.length ≤ 536870912) (hc : zaF k d = 0) (hK : K (.tup []) (σ.set id (wO (b ++ signB k d)))) :
    zl Tryz.prog zbJ [.box id 0, .agg [.d (.int .i64 k), .d (.int .i64 d)]] σ K := by
  refine zoQ zfI.is rfl fun hl _ => zfI.goes ?_
  have hid := zbR hσ
  have hσ1 := fun τ => zy (τ := τ) hσ
  simp only [zfL, iN, bT, bF, eN]
  refine gq22 hσ1 ?_
  refine c_PutSignO (by omega) hc ?_
  refine gq22 hσ1 ?_
  rw [List.set_append_left _ _ hid]
  exact zqd hσ (by simp [zdg, dmT, zda]) hl hK
end


theorem zqw.trans {σ S S2 : List zc} {id : Nat} {B X O O' : zc} (h : zqw σ id B O S) (hid : id < σ.length) (h2 : zqw S id X O' S2) : zqw σ id B O' S2 := by
  obtain ⟨_, _, τ, rfl⟩ := h2
  exact (h.set hid O').app τ
section

variable {σ S : List zc} {id : Nat} {B : zc} {b : List UInt8} {K : AV → List zc → Prop} (j : zqw σ id B (wO b) S) (hid : id < σ.length)
include j hid
theorem jw_num {l : List Int} (hb : b.length ≤ 536870912) (hl0 : l.length ≤ 1000) (hi : ∀ x ∈ l, 0 ≤ x ∧ x ≤ 9007199254740992) (hK : ∀ S, zqw σ id B (wO (b ++ zdH l)) S → K (.tup []) S) :
    zl Tryz.prog zY [.box id 0, .d (.slice (zlt l))] S K := c_wNum j.a hb hl0 hi (hK _ (j.set hid _))
end


theorem c_wShort {σ : List zc} {id : Nat} {b : List UInt8} (hσ : σ[id]? = some (wO b)) {K : AV → List zc → Prop} (hK : K (.tup [.d (.slice (bcs (if b.length > 262144 then [] else b))), .d (.int .i64 (if b.length > 262144 then 3 else 0))]) σ) :
    zl Tryz.prog zdu [.box id 0] σ K := by
  refine zfT ziZ fun hl => ?_
  simp only [zff, iN, bT, bF, eN]
  by_cases h : b.length > 262144
  · have hd : decide ((b.length : Int) > 262144) = true := by simp; omega
    rw [if_pos h, if_pos h] at hK
    refine zbi (zj hσ hd) ?_
    refine zap hl ?_
    exact hK
  · have hd : decide ((b.length : Int) > 262144) = false := by simp; omega
    rw [if_neg h, if_neg h] at hK
    refine zbi (zj hσ hd) ?_
    refine zap hl ?_
    exact hK

theorem c_mSome {σ : List zc} {K : AV → List zc → Prop} (hK : K (.agg [.d (.int .i64 0), .d (.int .i64 1)]) σ) : zl Tryz.prog zfv [] σ K := by
  refine acE0 zpt fun hl => ?_
  simp only [zks, iN, bT, bF, eN]
  refine zaP ?_
  refine zap hl ?_
  exact hK

structure zdT (σ : List zc) (id m t : Nat) (l : List (List UInt8)) : Prop where
  box : σ[id]? = some (.box [.own t (tabE l), .map m])
  map : σ[m]? = some (.map (tabM l))
  tok : σ[t]? = some (.tok 1 l.length)
structure zdp (σ : List zc) (id m t : Nat) (g : List zS) : Prop where
  box : σ[id]? = some (.box [.own t (ledE g), .map m])
  map : σ[m]? = some (.map (zpV g))
  tok : σ[t]? = some (.tok 2 g.length)
def putTab (σ : List zc) (id m t : Nat) (l : List (List UInt8)) : List zc := ((σ.set t (.tok 1 l.length)).set id (.box [.own t (tabE l), .map m])).set m (.map (tabM l))
def putLed (σ : List zc) (id m t : Nat) (g : List zS) : List zc := ((σ.set m (.map (zpV g))).set t (.tok 2 g.length)).set id (.box [.own t (ledE g), .map m])
abbrev tabO (n : Nat) (l : List (List UInt8)) : List zc := [.map (tabM l), .box [.own (n + 2) (tabE l), .map n], .tok 1 l.length]
abbrev ledO (n : Nat) (g : List zS) : List zc := [.map (zpV g), .box [.own (n + 2) (ledE g), .map n], .tok 2 g.length]
theorem zdT.ne {σ : List zc} {id m t : Nat} {l : List (List UInt8)} (h : zdT σ id m t l) : id ≠ m ∧ id ≠ t ∧ m ≠ t := by
  refine ⟨fun e => ?_, fun e => ?_, fun e => ?_⟩ <;> subst e
  · have := h.box; rw [h.map] at this; cases this
  · have := h.box; rw [h.tok] at this; cases this
  · have := h.map; rw [h.tok] at this; cases this
theorem zdp.ne {σ : List zc} {id m t : Nat} {g : List zS} (h : zdp σ id m t g) : id ≠ m ∧ id ≠ t ∧ m ≠ t := by
  refine ⟨fun e => ?_, fun e => ?_, fun e => ?_⟩ <;> subst e
  · have := h.box; rw [h.map] at this; cases this
  · have := h.box; rw [h.tok] at this; cases this
  · have := h.map; rw [h.tok] at this; cases this
theorem zdT.self {σ : List zc} {id m t : Nat} {l : List (List UInt8)} (h : zdT σ id m t l) : putTab σ id m t l = σ := by
  unfold putTab
  rw [zdP h.tok, zdP h.box, zdP h.map]
theorem zdp.self {σ : List zc} {id m t : Nat} {g : List zS} (h : zdp σ id m t g) : putLed σ id m t g = σ := by
  unfold putLed
  rw [zdP h.map, zdP h.tok, zdP h.box]
theorem zdT.app {σ : List zc} {id m t : Nat} {l : List (List UInt8)} (h : zdT σ id m t l) (τ : List zc) : zdT (σ ++ τ) id m t l := ⟨zy h.box, zy h.map, zy h.tok⟩
theorem zdp.app {σ : List zc} {id m t : Nat} {g : List zS} (h : zdp σ id m t g) (τ : List zc) : zdp (σ ++ τ) id m t g := ⟨zy h.box, zy h.map, zy h.tok⟩
theorem tabAt_new (σ : List zc) (l : List (List UInt8)) (τ : List zc) : zdT (σ ++ (tabO σ.length l ++ τ)) (σ.length + 1) σ.length (σ.length + 2) l :=
  ⟨by rw [zw]; rfl, by rw [zu]; rfl, by rw [zw]; rfl⟩
theorem ledAt_new (σ : List zc) (g : List zS) (τ : List zc) : zdp (σ ++ (ledO σ.length g ++ τ)) (σ.length + 1) σ.length (σ.length + 2) g :=
  ⟨by rw [zw]; rfl, by rw [zu]; rfl, by rw [zw]; rfl⟩
theorem putTab_new (σ : List zc) (l l' : List (List UInt8)) (τ : List zc) : putTab (σ ++ (tabO σ.length l ++ τ)) (σ.length + 1) σ.length (σ.length + 2) l' = σ ++ (tabO σ.length l' ++ τ) := by
  unfold putTab
  rw [zN, zN, zG]; rfl
theorem putLed_new (σ : List zc) (g g' : List zS) (τ : List zc) : putLed (σ ++ (ledO σ.length g ++ τ)) (σ.length + 1) σ.length (σ.length + 2) g' = σ ++ (ledO σ.length g' ++ τ) := by
  unfold putLed
  rw [zG, zN, zN]; rfl
theorem zma {σ : List zc} {id m t : Nat} {l : List (List UInt8)} (h : zdT σ id m t l) (l' : List (List UInt8)) (τ : List zc) : putTab (σ ++ τ) id m t l' = putTab σ id m t l' ++ τ := by
  have h1 := zbR h.box; have h2 := zbR h.map; have h3 := zbR h.tok
  unfold putTab
  rw [List.set_append_left _ _ h3, List.set_append_left _ _ (by simpa using h1), List.set_append_left _ _ (by simpa using h2)]
theorem zmb {σ : List zc} {id m t : Nat} {g : List zS} (h : zdp σ id m t g) (g' : List zS) (τ : List zc) : putLed (σ ++ τ) id m t g' = putLed σ id m t g' ++ τ := by
  have h1 := zbR h.box; have h2 := zbR h.map; have h3 := zbR h.tok
  unfold putLed
  rw [List.set_append_left _ _ h2, List.set_append_left _ _ (by simpa using h3), List.set_append_left _ _ (by simpa using h1)]
theorem zjM (σ : List zc) (id m t : Nat) (l : List (List UInt8)) : (putTab σ id m t l).length = σ.length := by simp [putTab]
theorem zpG (σ : List zc) (id m t : Nat) (g : List zS) : (putLed σ id m t g).length = σ.length := by simp [putLed]
theorem zpQ {n : Nat} (l : List (List UInt8)) : zqv n (.map (tabM l)) := by
  have key : ∀ (l : List (List UInt8)) (i : Nat), ∀ e ∈ zpe l i, Low n e.1 ∧ Low n e.2 := by
    intro l
    induction l with
    | nil => intro i e h; cases h
    | cons x r ih =>
      intro i e h
      simp only [zpe, List.mem_cons] at h
      rcases h with rfl | h
      · exact ⟨.d _, .d _⟩
      · exact ih _ e h
  exact fun e he => key l 0 e he
theorem zpR {n : Nat} (g : List zS) : zqv n (.map (zpV g)) := by
  intro e he
  simp only [zpV, List.mem_map] at he
  obtain ⟨s, _, rfl⟩ := he
  exact ⟨.agg _ (by simp [zhZ]), .d _⟩
theorem lowBox {n t m : Nat} {es : List (List D)} (ht : t < n) (hm : m < n) : zqv n (.box [.own t es, .map m]) := by
  intro c hc
  simp only [List.mem_cons, List.not_mem_nil, or_false] at hc
  rcases hc with rfl | rfl
  · exact .own _ _ ht
  · exact .map _ hm
theorem zdT.lows {σ : List zc} {id m t : Nat} {l : List (List UInt8)} (h : zdT σ id m t l) (hl : zfz σ.length σ) (l' : List (List UInt8)) : zfz σ.length (putTab σ id m t l') :=
  ((hl.setO (show zqv _ (.tok 1 l'.length) from trivial)).setO (lowBox (zbR h.tok) (zbR h.map))).setO (zpQ l')
theorem zdp.lows {σ : List zc} {id m t : Nat} {g : List zS} (h : zdp σ id m t g) (hl : zfz σ.length σ) (g' : List zS) : zfz σ.length (putLed σ id m t g') :=
  ((hl.setO (zpR g')).setO (show zqv _ (.tok 2 g'.length) from trivial)).setO (lowBox (zbR h.tok) (zbR h.map))
theorem low_tabO (n : Nat) (l : List (List UInt8)) : ∀ x ∈ tabO n l, zqv (n + (tabO n l).length) x := by
  intro x hx
  simp only [List.mem_cons, List.not_mem_nil, or_false] at hx
  rcases hx with rfl | rfl | rfl
  · exact zpQ l
  · exact lowBox (by simp) (by simp)
  · trivial
theorem low_ledO (n : Nat) (g : List zS) : ∀ x ∈ ledO n g, zqv (n + (ledO n g).length) x := by
  intro x hx
  simp only [List.mem_cons, List.not_mem_nil, or_false] at hx
  rcases hx with rfl | rfl | rfl
  · exact zpR g
  · exact lowBox (by simp) (by simp)
  · trivial
end Go.Proofs.YtdgcepphjnoalaaGreat
