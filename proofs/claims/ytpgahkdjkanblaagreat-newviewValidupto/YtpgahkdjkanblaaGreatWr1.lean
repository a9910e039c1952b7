/- Contracts: bytes that grow, the program's. -/
import Derived.Test.YtpgahkdjkanblaaGreatRd1
import Derived.Test.YtpgahkdjkanblaaGreatSpPut
import Derived.Test.YtpgahkdjkanblaaGreatSpMsg
set_option linter.all false
set_option maxRecDepth 100000
set_option linter.unusedSimpArgs false
set_option linter.unusedVariables false
namespace Go.Proofs.YtpgahkdjkanblaaGreat
open Go.AW

structure zpR (σ : List zf) (id : Nat) (B O : zf) (S : List zf) : Prop where
  a : S[id]? = some O
  b : S[σ.length]? = some B
  pre : ∃ τ, S = σ.set id O ++ τ
section

variable {σ S : List zf} {id : Nat} {B O O' : zf}

theorem zpR.first (hσ : σ[id]? = some O) (B : zf) : zpR σ id B O (σ ++ [B]) := ⟨zx hσ, by rw [zt]; rfl, [B], by rw [zeI hσ]⟩
theorem zpR.set (h : zpR σ id B O S) (hid : id < σ.length) (O' : zf) : zpR σ id B O' (S.set id O') := by
  obtain ⟨h1, h2, τ, h3⟩ := h
  refine ⟨List.getElem?_set_self (zdB h1), (List.getElem?_set_ne (by omega)).trans h2, τ, ?_⟩
  rw [h3, List.set_append_left _ _ (by simpa using hid), List.set_set]
theorem zpR.app (h : zpR σ id B O S) (τ : List zf) : zpR σ id B O (S ++ τ) := by
  obtain ⟨h1, h2, τ', h3⟩ := h
  exact ⟨zx h1, zx h2, τ' ++ τ, by rw [h3, List.append_assoc]⟩
theorem zpR.done {K : KT} (h : zpR σ id B O S) (hO : ztT σ.length O) (hl : zkE σ.length σ) (hK : K (.tup []) (σ.set id O)) : AW.Ends σ.length K (some []) S := by
  obtain ⟨_, _, τ, rfl⟩ := h
  exact zfz (by simp [zdF, dmT, zcV]) hl hO hK
theorem zpR.as (h : zpR σ id B O S) (e : O = O') : zpR σ id B O' S := e ▸ h
end

abbrev wO (b : List UInt8) : zf := .box [.d (.slice (bcs b))]
theorem zuh (n : Nat) (b : List UInt8) : ztT n (wO b) := by
  intro c hc
  simp only [List.mem_cons, List.not_mem_nil, or_false] at hc
  subst hc; exact .d _
theorem w64 {x : Int} (h0 : 0 ≤ x) (h1 : x ≤ 9007199254740992) : IntKind.u64.wrap x = ((x.toNat : Nat) : Int) := by
  rw [show x = ((x.toNat : Nat) : Int) by omega, zcC (by omega)]; rfl
section

variable {σ : List zf} {id : Nat} {b : List UInt8} {K : KT}

theorem c_wNum {l : List Int} (hσ : σ[id]? = some (wO b)) (hb : b.length ≤ 536870912) (hl0 : l.length ≤ 1000) (hi : ∀ x ∈ l, 0 ≤ x ∧ x ≤ 9007199254740992) (hK : K (.tup []) (σ.set id (wO (b ++ zbq l)))) :
    zm Tryz.prog zab [.box id 0, .d (.slice (zop l))] σ K := by
  refine zpB zjo.is rfl fun hl _ => zjo.goes ?_
  have hid := zdB hσ
  simp only [zjD, iN, bT, bF, eN]
  refine zao ?_
  refine zl l.length (fun k vs s => vs = [.d (.int .i64 k)] ∧ ∃ c T, s = σ.set id (.box [c]) ++ T ∧ (c = .d (.slice (bcs (b ++ zbq (l.take k)))) ∨ ∃ t, c = .own t (bcs (b ++ zbq (l.take k))))) ⟨rfl, _, [], by rw [List.append_nil, zeI hσ], .inl (by simp [zbq])⟩ ?_
  rintro k vs s hk ⟨rfl, c, T, rfl, hc⟩
  have hbox : (σ.set id (.box [c]) ++ T)[id]? = some (.box [c]) := zx (zdh hσ)
  by_cases hlt : k < l.length
  · have hd : decide ((k : Int) < (l.length : Int)) = true := by simp; omega
    have hx : l[k]? = some l[k] := by simp [hlt]
    have hxi := hi _ (List.getElem_mem hlt)
    have hgx := zQ (f := fun t => [D.int .i64 t]) hx
    obtain ⟨x, hxe⟩ : ∃ x, l[k] = x := ⟨_, rfl⟩
    rw [hxe] at hx hgx hxi
    have hln := zsj (l := l.take k) (fun y hy => by have := hi y (List.mem_of_mem_take hy); omega)
    have hlk : (l.take k).length = k := by rw [List.length_take]; omega
    have hw := w64 hxi.1 hxi.2
    have hbl : (b ++ zbq (l.take k)).length ≤ 1073741824 := by rw [List.length_append]; omega
    have hnx : b ++ zbq (l.take (k + 1)) = b ++ (zbq (l.take k) ++ zcf x.toNat) := by rw [List.take_add_one, hx]; simp [zbq]
    have fin : ∀ t τ, ∃ c' T', (σ.set id (.box [c]) ++ T ++ τ).set id (.box [.own t (bcs (b ++ (zbq (l.take k) ++ zcf x.toNat)))]) = σ.set id (.box [c']) ++ T' ∧ (c' = .d (.slice (bcs (b ++ zbq (l.take (k + 1))))) ∨ ∃ t, c' = .own t (bcs (b ++ zbq (l.take (k + 1))))) := by
      intro t τ
      refine ⟨_, T ++ τ, ?_, .inr ⟨t, rfl⟩⟩
      rw [hnx, List.append_assoc, List.set_append_left _ _ (by simpa using hid), List.set_set]
    have hbox2 : ∀ τ, (σ.set id (.box [c]) ++ T ++ τ)[id]? = some (.box [c]) := fun τ => zx hbox
    obtain ⟨S, hS⟩ : ∃ S, σ.set id (.box [c]) ++ T = S := ⟨_, rfl⟩
    rw [hS] at hbox fin hbox2 ⊢
    rcases hc with rfl | ⟨t, rfl⟩
    · refine zH (zi hd (zi hgx (zi hbox hw))) ?_
      refine zdU (by omega) hbl ?_
      refine zH (zi hbox2 (wkc k (by omega))) ?_
      exact zaG.next hlt ⟨rfl, fin _ _⟩
    · refine zH (zi hd (zi hgx (zi hbox hw))) ?_
      refine zdU (by omega) hbl ?_
      refine zH (zi hbox2 (wkc k (by omega))) ?_
      exact zaG.next hlt ⟨rfl, fin _ _⟩
  · have hd : decide ((k : Int) < (l.length : Int)) = false := by simp; omega
    rw [List.take_of_length_le (by omega)] at hc
    rcases hc with rfl | ⟨t, rfl⟩
    · refine zH hd ?_
      refine zpb (zfz (by simp [zdF, dmT, zcV]) hl (zuh _ _) hK)
    · refine zH hd ?_
      exact znl hσ (by simp [zdF, dmT, zcV]) hl hK
theorem c_wMany {n : Nat} (hσ : σ[id]? = some (wO b)) (hb : b.length ≤ 536870912) (hn : n ≤ 1073741824) (hK : K (.tup []) (σ.set id (wO (b ++ zcf n)))) :
    zm Tryz.prog zbQ [.box id 0, .d (.int .i64 n)] σ K := by
  refine zc ziD.is rfl fun hl _ => ziD.goes ?_
  simp only [ziR, iN, bT, bF, eN]
  refine zao ?_
  refine c_wNum (l := [(n : Int)]) hσ hb (by simp) (by simp; omega) ?_
  refine zao ?_
  exact zft (by simp [zdF, dmT, zcV]) hl (zuh _ _) (by rw [show zbq [(n : Int)] = zcf n by simp [zbq]]; exact hK)
theorem c_wSign {k d : Int} (hσ : σ[id]? = some (wO b)) (hb : b.length ≤ 536870912) (hc : zL k d = 0) (hK : K (.tup []) (σ.set id (wO (b ++ zfD k d)))) :
    zm Tryz.prog zbc [.box id 0, .agg [.d (.int .i64 k), .d (.int .i64 d)]] σ K := by
  refine zpB zhk.is rfl fun hl _ => zhk.goes ?_
  have hid := zdB hσ
  have hσ1 := fun τ => zx (τ := τ) hσ
  simp only [zhq, iN, bT, bF, eN]
  refine zH hσ1 ?_
  refine zvj (by omega) hc ?_
  refine zH hσ1 ?_
  rw [List.set_append_left _ _ hid]
  exact znl hσ (by simp [zdF, dmT, zcV]) hl hK
theorem c_wBatch {l : List zu} (hσ : σ[id]? = some (wO b)) (hb : b.length ≤ 268435456) (hc : zy l = 0) (hK : K (.tup []) (σ.set id (wO (b ++ zff l)))) :
    zm Tryz.prog zbl [.box id 0, .d (.slice (zbo l))] σ K := by
  refine zpB zgo.is rfl fun hl _ => zgo.goes ?_
  have hid := zdB hσ
  have hσ1 := fun τ => zx (τ := τ) hσ
  simp only [zgy, iN, bT, bF, eN]
  refine zH (zi hσ hσ1) ?_
  refine c_PutBatchO hb (fun x hx => Nat.le_trans ((zoA hc).1 x hx) (by omega)) hc ?_
  refine zH (zi hσ hσ1) ?_
  rw [List.set_append_left _ _ hid]
  exact znl hσ (by simp [zdF, dmT, zcV]) hl hK
theorem c_wSigns {l : List zP} (hσ : σ[id]? = some (wO b)) (hb : b.length ≤ 268435456) (hc : ∀ e ∈ zbX l, e = 0) (hK : K (.tup []) (σ.set id (wO (b ++ zsc l)))) :
    zm Tryz.prog zci [.box id 0, .d (.slice (zas l))] σ K := by
  refine zc zgm.is rfl fun hl _ => zgm.goes ?_
  obtain ⟨h13, hs⟩ := zvJ hc
  have hid := zdB hσ
  have hll : (zas l).length = l.length := List.length_map ..
  simp only [zgw, iN, bT, bF, eN]
  refine zH hll ?_
  refine c_wMany (n := l.length) hσ (by omega) (by omega) ?_
  refine zH hll ?_
  refine zl l.length (fun k vs s => vs = [.d (.int .i64 k)] ∧ ∃ T, s = σ.set id (wO (b ++ (zcf l.length ++ ((l.take k).map fun s => zfD s.key s.dig).flatten))) ++ T) ⟨rfl, [], by simp⟩ ?_
  rintro k vs s hk ⟨rfl, T, rfl⟩
  obtain ⟨O, hO⟩ : ∃ O, wO (b ++ (zcf l.length ++ ((l.take k).map fun s => zfD s.key s.dig).flatten)) = O := ⟨_, rfl⟩
  rw [hO]
  by_cases hlt : k < l.length
  · have hd : decide ((k : Int) < (l.length : Int)) = true := by simp; omega
    have hx : l[k]? = some l[k] := by simp [hlt]
    have hxi := hs _ (List.getElem_mem hlt)
    have hgx := zQ (f := zeS) hx
    obtain ⟨x, hxe⟩ : ∃ x, l[k] = x := ⟨_, rfl⟩
    rw [hxe] at hx hgx hxi
    have hlen : (((l.take k).map fun s => zfD s.key s.dig).flatten).length ≤ (l.take k).length * 20 := zgN fun s hm => zfH (hs s (List.mem_of_mem_take hm))
    have hlk : (l.take k).length = k := by rw [List.length_take]; omega
    have n1 := zp (n := l.length) (by omega)
    obtain ⟨S, hS⟩ : ∃ S, σ.set id O ++ T = S := ⟨_, rfl⟩
    have hSid : S[id]? = some O := by rw [← hS]; exact zx (zdh hσ)
    rw [hS]
    refine zjk (zi hd (zi hgx hll)) ?_
    refine c_wSign (by rw [← hO] at hSid; exact zx hSid) (by simp only [List.length_append]; omega) hxi ?_
    refine zH (wkc k (by omega)) ?_
    refine zaG.next hlt ⟨rfl, T ++ [.box [.d (.int .i64 x.key), .d (.int .i64 x.dig)]], ?_⟩
    rw [zhi hx, ← hS, List.append_assoc (σ.set id O), List.set_append_left _ _ (by simpa using hid), List.set_set]
    try simp
  · have hd : decide ((k : Int) < (l.length : Int)) = false := by simp; omega
    rw [List.take_of_length_le (by omega)] at hO
    subst hO
    refine zH (zi hd hll) ?_
    exact zfz (by simp [zdF, dmT, zcV]) hl (zuh _ _) hK
theorem c_wCert {c : zek} (hσ : σ[id]? = some (wO b)) (hb : b.length ≤ 134217728) (hc : ∀ e ∈ zck c, e = 0) (hK : K (.tup []) (σ.set id (wO (b ++ ztb c)))) :
    zm Tryz.prog zcs [.box id 0, zgQ c] σ K := by
  refine zc zhl.is rfl fun hl _ => zhl.goes ?_
  have hid := zdB hσ
  obtain ⟨h1, h2, h3⟩ := cert_ok hc
  have n1 := zp (n := c.seq.toNat) (by omega)
  have n2 := zp (n := c.dig.toNat) (by omega)
  have j := zpR.first hσ (.box [.d (.int .i64 c.seq), .d (.int .i64 c.dig), .d (.slice (zas c.signs))])
  simp only [zhr, iN, bT, bF, eN]
  refine zao ?_
  refine c_wNum (l := [c.seq, c.dig]) j.a (by omega) (by simp) (by simp; omega) ?_
  have j := j.set hid (wO (b ++ zbq [c.seq, c.dig]))
  obtain ⟨S, hS⟩ : ∃ S, (σ ++ [zf.box [.d (.int .i64 c.seq), .d (.int .i64 c.dig), .d (.slice (zas c.signs))]]).set id (wO (b ++ zbq [c.seq, c.dig])) = S := ⟨_, rfl⟩
  rw [hS] at j ⊢
  have b := j.b
  refine zH b ?_
  refine c_wSigns j.a (by simp [zbq]; omega) h3 ?_
  refine zao ?_
  exact (j.set hid _).done (zuh _ _) hl (by simpa [zbq, ztb] using hK)
end

end Go.Proofs.YtpgahkdjkanblaaGreat
