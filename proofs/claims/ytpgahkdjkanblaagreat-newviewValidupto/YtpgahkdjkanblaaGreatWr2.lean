/- Contracts: the bytes of view-changes and new views, the program's. -/
import Derived.Test.YtpgahkdjkanblaaGreatWr1
import Derived.Test.YtpgahkdjkanblaaGreatSm5
import Derived.Test.YtpgahkdjkanblaaGreatQu1
import Derived.Test.YtpgahkdjkanblaaGreatSpTab
set_option linter.all false
set_option maxRecDepth 100000
set_option linter.unusedSimpArgs false
set_option linter.unusedVariables false
namespace Go.Proofs.YtpgahkdjkanblaaGreat
open Go.AW

theorem zpR.trans {σ S S2 : List zf} {id : Nat} {B X O O' : zf} (h : zpR σ id B O S) (hid : id < σ.length) (h2 : zpR S id X O' S2) : zpR σ id B O' S2 := by
  obtain ⟨_, _, τ, rfl⟩ := h2
  exact (h.set hid O').app τ
section

variable {σ S : List zf} {id : Nat} {B : zf} {b : List UInt8} {K : KT} (j : zpR σ id B (wO b) S) (hid : id < σ.length)
include j hid
theorem jw_num {l : List Int} (hb : b.length ≤ 536870912) (hl0 : l.length ≤ 1000) (hi : ∀ x ∈ l, 0 ≤ x ∧ x ≤ 9007199254740992) (hK : ∀ S, zpR σ id B (wO (b ++ zbq l)) S → K (.tup []) S) :
    zm Tryz.prog zab [.box id 0, .d (.slice (zop l))] S K := c_wNum j.a hb hl0 hi (hK _ (j.set hid _))
theorem jw_many {n : Nat} (hb : b.length ≤ 536870912) (hn : n ≤ 1073741824) (hK : ∀ S, zpR σ id B (wO (b ++ zcf n)) S → K (.tup []) S) :
    zm Tryz.prog zbQ [.box id 0, .d (.int .i64 n)] S K := c_wMany j.a hb hn (hK _ (j.set hid _))
theorem jw_sign {k d : Int} (hb : b.length ≤ 536870912) (hc : zL k d = 0) (hK : ∀ S, zpR σ id B (wO (b ++ zfD k d)) S → K (.tup []) S) :
    zm Tryz.prog zbc [.box id 0, .agg [.d (.int .i64 k), .d (.int .i64 d)]] S K := c_wSign j.a hb hc (hK _ (j.set hid _))
theorem jw_batch {l : List zu} (hb : b.length ≤ 268435456) (hc : zy l = 0) (hK : ∀ S, zpR σ id B (wO (b ++ zff l)) S → K (.tup []) S) :
    zm Tryz.prog zbl [.box id 0, .d (.slice (zbo l))] S K := c_wBatch j.a hb hc (hK _ (j.set hid _))
theorem jw_signs {l : List zP} (hb : b.length ≤ 268435456) (hc : ∀ e ∈ zbX l, e = 0) (hK : ∀ S, zpR σ id B (wO (b ++ zsc l)) S → K (.tup []) S) :
    zm Tryz.prog zci [.box id 0, .d (.slice (zas l))] S K := c_wSigns j.a hb hc (hK _ (j.set hid _))
theorem jw_cert {c : zek} (hb : b.length ≤ 134217728) (hc : ∀ e ∈ zck c, e = 0) (hK : ∀ S, zpR σ id B (wO (b ++ ztb c)) S → K (.tup []) S) :
    zm Tryz.prog zcs [.box id 0, zgQ c] S K := c_wCert j.a hb hc (hK _ (j.set hid _))
end

theorem c_wBody {σ : List zf} {id : Nat} {b : List UInt8} {c : zaa} (hσ : σ[id]? = some (wO b)) (hb : b.length ≤ 67108864) (hc : ∀ e ∈ zdp c, e = 0) {K : KT} (hK : K (.tup []) (σ.set id (wO (b ++ ztl c)))) :
    zm Tryz.prog zeF [.box id 0, .agg (zbV c)] σ K := by
  refine zc zhm.is rfl fun hl _ => zhm.goes ?_
  have hid := zdB hσ
  have hpl : (zfI c.above).length = c.above.length := List.length_map ..
  obtain ⟨h1, h2, h3, h4, h5⟩ := body_ok hc
  have n1 := zp (n := c.view.toNat) (by omega)
  have n2 := zp (n := c.src.toNat) (by omega)
  have n3 := zp (n := c.above.length) (by omega)
  have n4 := zta h3
  simp only [zhs, iN, bT, bF, eN]
  have j := zpR.first hσ (.box (zbV c))
  refine zao ?_
  refine jw_num (l := [c.view, c.src]) j hid (by omega) (by simp) (by simp; omega) fun S j => ?_
  have b0 := j.b
  refine zH b0 ?_
  refine jw_cert (c := c.cert) j hid (by simp [zbq]; omega) h3 fun S j => ?_
  have b0 := j.b
  refine zH (zi b0 hpl) ?_
  refine jw_many (n := c.above.length) j hid (by simp [zbq]; omega) (by omega) fun S j => ?_
  have b0 := j.b
  obtain ⟨Q, hQ⟩ : ∃ Q, b ++ zbq [c.view, c.src] ++ ztb c.cert ++ zcf c.above.length = Q := ⟨_, rfl⟩
  have hQl : Q.length ≤ 67108864 + 400 := by rw [← hQ]; simp [zbq]; omega
  rw [hQ] at j
  refine zH (zi b0 hpl) ?_
  refine zl c.above.length (fun k vs S => vs = [.d (.int .i64 k)] ∧ zpR σ id (.box (zbV c)) (wO (Q ++ ((c.above.take k).map zrB).flatten)) S) ⟨rfl, by simpa using j⟩ ?_
  rintro k vs S hk ⟨rfl, j⟩
  by_cases hlt : k < c.above.length
  · have hd : decide ((k : Int) < (c.above.length : Int)) = true := by simp; omega
    have hx : c.above[k]? = some c.above[k] := by simp [hlt]
    have hpx := h5 _ (List.getElem_mem hlt)
    have hgx := zQ (f := zeV) hx
    obtain ⟨p, hp⟩ : ∃ p, c.above[k] = p := ⟨_, rfl⟩
    rw [hp] at hx hgx hpx
    have hlen : (((c.above.take k).map zrB).flatten).length ≤ (c.above.take k).length * 4400 := zgN fun s hm => zsg (h5 s (List.mem_of_mem_take hm))
    have hlk : (c.above.take k).length = k := by rw [List.length_take]; omega
    obtain ⟨R, hR⟩ : ∃ R, Q ++ ((c.above.take k).map zrB).flatten = R := ⟨_, rfl⟩
    have hRl : R.length ≤ 67108864 + 36000 := by rw [← hR, List.length_append]; omega
    rw [hR] at j
    obtain ⟨p1, p2, p3, p4, p5, p6⟩ := prep_ok hpx
    have m1 := zp (n := p.view.toNat) (by omega)
    have m2 := zp (n := p.seq.toNat) (by omega)
    have m3 := zp (n := p.dig.toNat) (by omega)
    have m4 := zfH p4
    have m5 := znd p5
    have hS : id < S.length := zdB j.a
    have i := zpR.first j.a (.box (prepL p))
    refine zjk (zi hd (zi hgx hpl)) ?_
    refine jw_num (l := [p.view, p.seq, p.dig]) i hS (by omega) (by simp) (by simp; omega) fun S2 i => ?_
    have b0 := i.b
    refine zH b0 ?_
    refine jw_sign i hS (by simp [zbq]; omega) p4 fun S2 i => ?_
    have b0 := i.b
    refine zH b0 ?_
    refine jw_signs i hS (by simp [zbq]; omega) p5 fun S2 i => ?_
    have b0 := i.b
    refine zH b0 ?_
    refine jw_batch i hS (by simp [zbq]; omega) p6 fun S2 i => ?_
    refine zH (wkc k (by omega)) ?_
    refine zaG.next hlt ⟨rfl, (j.trans hid i).as ?_⟩
    rw [zhi hx, ← hR]
    simp [zrB, zbq]
  · have hd : decide ((k : Int) < (c.above.length : Int)) = false := by simp; omega
    rw [show c.above.take k = c.above from List.take_of_length_le (by omega)] at j
    refine zH (zi hd hpl) ?_
    exact (j.as (by rw [← hQ]; simp [ztl, zbq])).done (zuh _ _) hl hK
end Go.Proofs.YtpgahkdjkanblaaGreat

/- Contracts: the bytes of messages, the program's: view-changes and new views. -/
set_option maxRecDepth 100000
set_option linter.unusedSimpArgs false
set_option linter.unusedVariables false
namespace Go.Proofs.YtpgahkdjkanblaaGreat
open Go.AW

theorem c_wUns7 {σ : List zf} {id : Nat} {b : List UInt8} {m : zgs} {c : zaa} (hσ : σ[id]? = some (wO b)) (hb : b.length ≤ 1000000) (hk : m.kind = 7) (hch : m.changes = [c]) (hc : ∀ e ∈ zdp c, e = 0) {K : KT} (hK : K (.tup []) (σ.set id (wO (b ++ zqU m)))) :
    zm Tryz.prog zcp [.box id 0, zqx m] σ K := by
  refine zc zfe.is rfl fun hl _ => zfe.goes ?_
  have hid := zdB hσ
  have hgx : (zaP m.changes)[0]? = some (zbm c) := by rw [hch]; rfl
  have hgl : (zaP m.changes).length = 1 := by rw [hch]; rfl
  have n1 := zp (n := m.kind.toNat) (by omega)
  simp only [zfh, iN, bT, bF, eN]
  have j := zpR.first hσ (msgO m)
  refine zao ?_
  refine jw_num (l := [m.kind]) j hid (by omega) (by simp) (by simp; omega) fun S j => ?_
  have b0 := j.b
  refine zjk (zi b0 (zi (show (m.kind == 1) = false by rw [hk]; rfl) (zi (show (m.kind == 2) = false by rw [hk]; rfl) (zi (show (m.kind == 3) = false by rw [hk]; rfl) (zi (show (m.kind == 4) = false by rw [hk]; rfl) (zi (show (m.kind == 5) = false by rw [hk]; rfl) (zi (show (m.kind == 6) = false by rw [hk]; rfl) (zi (show (m.kind == 7) = true by rw [hk]; rfl) (zi (show (m.kind == 8) = false by rw [hk]; rfl) (zi (show (m.kind == 9) = false by rw [hk]; rfl) (zi (show (m.kind == 10) = false by rw [hk]; rfl) (zi (show (m.kind == 11) = false by rw [hk]; rfl) (zi (show (m.kind == 12) = false by rw [hk]; rfl) (zi hgx hgl)))))))))))))) ?_
  refine c_wBody (c := c) j.a (by simp [zbq]; omega) hc ?_
  refine zao ?_
  exact ((j.set hid _).as (by simp [zqU, hk, hch, zbq])).done (zuh _ _) hl hK
theorem c_wShort {σ : List zf} {id : Nat} {b : List UInt8} (hσ : σ[id]? = some (wO b)) {K : KT} (hK : K (.tup [.d (.slice (bcs (if b.length > 262144 then [] else b))), .d (.int .i64 (if b.length > 262144 then 3 else 0))]) σ) :
    zm Tryz.prog zei [.box id 0] σ K := by
  refine zc zgn.is rfl fun hl _ => zgn.goes ?_
  simp only [zgx, iN, bT, bF, eN]
  by_cases h : b.length > 262144
  · have hd : decide ((b.length : Int) > 262144) = true := by simp; omega
    rw [if_pos h, if_pos h] at hK
    refine zH (zi hσ hd) ?_
    refine zq hl ?_
    exact hK
  · have hd : decide ((b.length : Int) > 262144) = false := by simp; omega
    rw [if_neg h, if_neg h] at hK
    refine zH (zi hσ hd) ?_
    refine zq hl ?_
    exact hK
end Go.Proofs.YtpgahkdjkanblaaGreat

/- Contracts: the bytes of messages with and without their signature, the program's: view-changes and new views. -/
set_option maxRecDepth 100000
set_option linter.unusedSimpArgs false
set_option linter.unusedVariables false
namespace Go.Proofs.YtpgahkdjkanblaaGreat
open Go.AW

theorem c_mBytes7 {σ : List zf} {m : zgs} (hm : zdX m) (hk : m.kind = 7) {K : KT} (hK : K (.tup [.d (.slice (bcs (zqA m))), .d (.int .i64 (zdn m))]) σ) :
    zm Tryz.prog ziu [zqx m] σ K := by
  refine zc zmC.is rfl fun hl _ => zmC.goes ?_
  have fin : ∀ x z, zqA m = x → zdn m = z → K (.tup [.d (.slice (bcs x)), .d (.int .i64 z)]) σ := fun x z h h' => h ▸ h' ▸ hK
  clear hK
  simp only [zmW, iN, bT, bF, eN]
  refine zao ?_
  refine c_mCheck7 (m := m) hm hk ?_
  cases h1 : (zbU m != 0)
  rotate_left
  · have h1' : zbU m ≠ 0 := by simpa using h1
    have e1 : zdn m = zbU m := by simp [zdn, h1']
    have e2 : zqA m = [] := by simp [zqA, e1, h1']
    refine zH h1 ?_
    refine zq hl ?_
    exact fin _ _ e2 e1
  have h1' : zbU m = 0 := by simpa using h1
  obtain ⟨c, hc, he⟩ := check7 hk h1'
  obtain ⟨he1, he2⟩ := zpq he
  have hgx : (zaP m.changes)[0]? = some (zbm c) := by rw [hc]; rfl
  have hgl : (zaP m.changes).length = 1 := by rw [hc]; rfl
  have n0 := zp (n := m.kind.toNat) (by omega)
  have n1 := bodyB_len he1
  have n2 := zfH he2
  have hu : zqU m = zcf m.kind.toNat ++ ztl c := by simp [zqU, hk, hc]
  have hf : zua m = zqU m ++ zfD c.key c.dig := by simp [zua, ownS, hk, hc]
  refine zH h1 ?_
  refine zm.pre (.dataB (σ.length + 1) 0 [.exact []] (.exact []) [] (by simp) rfl rfl (.refl _ _)) ?_
  have hW : ((σ ++ [msgO m, .box [.exact []]]).set (σ.length + 1) (.box (([AV.exact []] : List AV).set 0 (.d (.slice []))))) = σ ++ [msgO m, wO []] := by rw [zN]; rfl
  rw [hW]
  refine c_wUns7 (b := []) (m := m) (c := c) (by rw [zC]; rfl) (by simp) hk hc he1 ?_
  rw [zN]
  refine zjk (zi (show (m.kind == 1) = false by rw [hk]; rfl) (zi (show (m.kind == 2) = false by rw [hk]; rfl) (zi (show (m.kind == 3) = false by rw [hk]; rfl) (zi (show (m.kind == 4) = false by rw [hk]; rfl) (zi (show (m.kind == 5) = false by rw [hk]; rfl) (zi (show (m.kind == 6) = false by rw [hk]; rfl) (zi (show (m.kind == 7) = true by rw [hk]; rfl) (zi (show (m.kind == 8) = false by rw [hk]; rfl) (zi (show (m.kind == 9) = false by rw [hk]; rfl) (zi (show (m.kind == 10) = false by rw [hk]; rfl) (zi (show (m.kind == 11) = false by rw [hk]; rfl) (zi (show (m.kind == 12) = false by rw [hk]; rfl) (zi hgx hgl))))))))))))) ?_
  refine c_wSign (b := zqU m) (by rw [zC]; rfl) (by rw [hu]; simp only [List.length_append]; omega) he2 ?_
  rw [zN]
  refine zao ?_
  refine c_wShort (b := zqU m ++ zfD c.key c.dig) (by rw [zC]; rfl) ?_
  have hlen : ¬ (zqU m ++ zfD c.key c.dig).length > 262144 := by rw [hu]; simp only [List.length_append]; omega
  rw [if_neg hlen, if_neg hlen]
  refine zao ?_
  refine zq hl ?_
  have e1 : zdn m = 0 := by simp only [zdn, h1', ne_eq, not_true, if_false, hf, hlen]
  refine fin _ _ ?_ e1
  simp [zqA, e1, hf]
theorem c_mSome {σ : List zf} {K : KT} (hK : K (.agg [.d (.int .i64 0), .d (.int .i64 1)]) σ) : zm Tryz.prog zha [] σ K := by
  refine zc znH.is rfl fun hl _ => znH.goes ?_
  simp only [znV, iN, bT, bF, eN]
  refine zao ?_
  refine zq hl ?_
  exact hK
end Go.Proofs.YtpgahkdjkanblaaGreat

/- Contracts: tables of byte strings and ledgers of signatures, as the program keeps them. -/
set_option maxRecDepth 100000
set_option linter.unusedSimpArgs false
set_option linter.unusedVariables false
namespace Go.Proofs.YtpgahkdjkanblaaGreat
open Go.AW

structure zed (σ : List zf) (id m t : Nat) (l : List (List UInt8)) : Prop where
  box : σ[id]? = some (.box [.own t (ziZ l), .map m])
  map : σ[m]? = some (.map (tabM l))
  tok : σ[t]? = some (.tok 1 l.length)
structure zee (σ : List zf) (id m t : Nat) (g : List zP) : Prop where
  box : σ[id]? = some (.box [.own t (zrE g), .map m])
  map : σ[m]? = some (.map (ledM g))
  tok : σ[t]? = some (.tok 2 g.length)
def putTab (σ : List zf) (id m t : Nat) (l : List (List UInt8)) : List zf := ((σ.set t (.tok 1 l.length)).set id (.box [.own t (ziZ l), .map m])).set m (.map (tabM l))
def putLed (σ : List zf) (id m t : Nat) (g : List zP) : List zf := ((σ.set m (.map (ledM g))).set t (.tok 2 g.length)).set id (.box [.own t (zrE g), .map m])
abbrev zrV (n : Nat) (l : List (List UInt8)) : List zf := [.map (tabM l), .box [.own (n + 2) (ziZ l), .map n], .tok 1 l.length]
abbrev ledO (n : Nat) (g : List zP) : List zf := [.map (ledM g), .box [.own (n + 2) (zrE g), .map n], .tok 2 g.length]
theorem zed.ne {σ : List zf} {id m t : Nat} {l : List (List UInt8)} (h : zed σ id m t l) : id ≠ m ∧ id ≠ t ∧ m ≠ t := by
  refine ⟨fun e => ?_, fun e => ?_, fun e => ?_⟩ <;> subst e
  · have := h.box; rw [h.map] at this; cases this
  · have := h.box; rw [h.tok] at this; cases this
  · have := h.map; rw [h.tok] at this; cases this
theorem zee.ne {σ : List zf} {id m t : Nat} {g : List zP} (h : zee σ id m t g) : id ≠ m ∧ id ≠ t ∧ m ≠ t := by
  refine ⟨fun e => ?_, fun e => ?_, fun e => ?_⟩ <;> subst e
  · have := h.box; rw [h.map] at this; cases this
  · have := h.box; rw [h.tok] at this; cases this
  · have := h.map; rw [h.tok] at this; cases this
theorem zed.self {σ : List zf} {id m t : Nat} {l : List (List UInt8)} (h : zed σ id m t l) : putTab σ id m t l = σ := by
  unfold putTab
  rw [zeI h.tok, zeI h.box, zeI h.map]
theorem zee.self {σ : List zf} {id m t : Nat} {g : List zP} (h : zee σ id m t g) : putLed σ id m t g = σ := by
  unfold putLed
  rw [zeI h.map, zeI h.tok, zeI h.box]
theorem zed.app {σ : List zf} {id m t : Nat} {l : List (List UInt8)} (h : zed σ id m t l) (τ : List zf) : zed (σ ++ τ) id m t l := ⟨zx h.box, zx h.map, zx h.tok⟩
theorem zee.app {σ : List zf} {id m t : Nat} {g : List zP} (h : zee σ id m t g) (τ : List zf) : zee (σ ++ τ) id m t g := ⟨zx h.box, zx h.map, zx h.tok⟩
theorem tabAt_new (σ : List zf) (l : List (List UInt8)) (τ : List zf) : zed (σ ++ (zrV σ.length l ++ τ)) (σ.length + 1) σ.length (σ.length + 2) l :=
  ⟨by rw [zC]; rfl, by rw [zt]; rfl, by rw [zC]; rfl⟩
theorem ledAt_new (σ : List zf) (g : List zP) (τ : List zf) : zee (σ ++ (ledO σ.length g ++ τ)) (σ.length + 1) σ.length (σ.length + 2) g :=
  ⟨by rw [zC]; rfl, by rw [zt]; rfl, by rw [zC]; rfl⟩
theorem zuq (σ : List zf) (l l' : List (List UInt8)) (τ : List zf) : putTab (σ ++ (zrV σ.length l ++ τ)) (σ.length + 1) σ.length (σ.length + 2) l' = σ ++ (zrV σ.length l' ++ τ) := by
  unfold putTab
  rw [zN, zN, zE]; rfl
theorem putLed_new (σ : List zf) (g g' : List zP) (τ : List zf) : putLed (σ ++ (ledO σ.length g ++ τ)) (σ.length + 1) σ.length (σ.length + 2) g' = σ ++ (ledO σ.length g' ++ τ) := by
  unfold putLed
  rw [zE, zN, zN]; rfl
theorem putLed_app {σ : List zf} {id m t : Nat} {g : List zP} (h : zee σ id m t g) (g' : List zP) (τ : List zf) : putLed (σ ++ τ) id m t g' = putLed σ id m t g' ++ τ := by
  have h1 := zdB h.box; have h2 := zdB h.map; have h3 := zdB h.tok
  unfold putLed
  rw [List.set_append_left _ _ h2, List.set_append_left _ _ (by simpa using h3), List.set_append_left _ _ (by simpa using h1)]
theorem putTab_len (σ : List zf) (id m t : Nat) (l : List (List UInt8)) : (putTab σ id m t l).length = σ.length := by simp [putTab]
theorem zur (σ : List zf) (id m t : Nat) (g : List zP) : (putLed σ id m t g).length = σ.length := by simp [putLed]
theorem zqB {n : Nat} (l : List (List UInt8)) : ztT n (.map (tabM l)) := by
  have key : ∀ (l : List (List UInt8)) (i : Nat), ∀ e ∈ ztU l i, Low n e.1 ∧ Low n e.2 := by
    intro l
    induction l with
    | nil => intro i e h; cases h
    | cons x r ih =>
      intro i e h
      simp only [ztU, List.mem_cons] at h
      rcases h with rfl | h
      · exact ⟨.d _, .d _⟩
      · exact ih _ e h
  exact fun e he => key l 0 e he
theorem zqC {n : Nat} (g : List zP) : ztT n (.map (ledM g)) := by
  intro e he
  simp only [ledM, List.mem_map] at he
  obtain ⟨s, _, rfl⟩ := he
  exact ⟨.agg _ (by simp [ztP]), .d _⟩
theorem zuB {n t m : Nat} {es : List (List D)} (ht : t < n) (hm : m < n) : ztT n (.box [.own t es, .map m]) := by
  intro c hc
  simp only [List.mem_cons, List.not_mem_nil, or_false] at hc
  rcases hc with rfl | rfl
  · exact .own _ _ ht
  · exact .map _ hm
theorem zed.lows {σ : List zf} {id m t : Nat} {l : List (List UInt8)} (h : zed σ id m t l) (hl : zkE σ.length σ) (l' : List (List UInt8)) : zkE σ.length (putTab σ id m t l') :=
  ((hl.setO (show ztT _ (.tok 1 l'.length) from trivial)).setO (zuB (zdB h.tok) (zdB h.map))).setO (zqB l')
theorem zee.lows {σ : List zf} {id m t : Nat} {g : List zP} (h : zee σ id m t g) (hl : zkE σ.length σ) (g' : List zP) : zkE σ.length (putLed σ id m t g') :=
  ((hl.setO (zqC g')).setO (show ztT _ (.tok 2 g'.length) from trivial)).setO (zuB (zdB h.tok) (zdB h.map))
theorem low_tabO (n : Nat) (l : List (List UInt8)) : ∀ x ∈ zrV n l, ztT (n + (zrV n l).length) x := by
  intro x hx
  simp only [List.mem_cons, List.not_mem_nil, or_false] at hx
  rcases hx with rfl | rfl | rfl
  · exact zqB l
  · exact zuB (by simp) (by simp)
  · trivial
theorem low_ledO (n : Nat) (g : List zP) : ∀ x ∈ ledO n g, ztT (n + (ledO n g).length) x := by
  intro x hx
  simp only [List.mem_cons, List.not_mem_nil, or_false] at hx
  rcases hx with rfl | rfl | rfl
  · exact zqC g
  · exact zuB (by simp) (by simp)
  · trivial
end Go.Proofs.YtpgahkdjkanblaaGreat
