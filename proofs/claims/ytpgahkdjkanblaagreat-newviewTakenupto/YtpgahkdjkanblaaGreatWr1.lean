/- Contracts: bytes that grow, the program's. -/
import Derived.Test.YtpgahkdjkanblaaGreatRq2
import Derived.Test.YtpgahkdjkanblaaGreatSpPut
import Derived.Test.YtpgahkdjkanblaaGreatSpMsg
set_option linter.all false
set_option maxRecDepth 100000
set_option linter.unusedSimpArgs false
set_option linter.unusedVariables false
namespace Go.Proofs.YtpgahkdjkanblaaGreat
open Go.AW

structure znr (σ : List zd) (id : Nat) (B O : zd) (S : List zd) : Prop where
  a : S[id]? = some O
  b : S[σ.length]? = some B
  pre : ∃ τ, S = σ.set id O ++ τ
section

variable {σ S : List zd} {id : Nat} {B O O' : zd}

theorem znr.first (hσ : σ[id]? = some O) (B : zd) : znr σ id B O (σ ++ [B]) := ⟨zM hσ, by rw [zo]; rfl, [B], by rw [zeu hσ]⟩
theorem znr.set (h : znr σ id B O S) (hid : id < σ.length) (O' : zd) : znr σ id B O' (S.set id O') := by
  obtain ⟨h1, h2, τ, h3⟩ := h
  refine ⟨List.getElem?_set_self (zcx h1), (List.getElem?_set_ne (by omega)).trans h2, τ, ?_⟩
  rw [h3, List.set_append_left _ _ (by simpa using hid), List.set_set]
theorem znr.app (h : znr σ id B O S) (τ : List zd) : znr σ id B O (S ++ τ) := by
  obtain ⟨h1, h2, τ', h3⟩ := h
  exact ⟨zM h1, zM h2, τ' ++ τ, by rw [h3, List.append_assoc]⟩
theorem znr.done {K : KT} (h : znr σ id B O S) (hO : zrE σ.length O) (hl : zin σ.length σ) (hK : K (.tup []) (σ.set id O)) : AW.Ends σ.length K (some []) S := by
  obtain ⟨_, _, τ, rfl⟩ := h
  exact zgd (by simp [zdy, dmT, zbL]) hl hO hK
theorem znr.as (h : znr σ id B O S) (e : O = O') : znr σ id B O' S := e ▸ h
end

abbrev wO (b : List UInt8) : zd := .box [.d (.slice (bcs b))]
theorem zqQ (n : Nat) (b : List UInt8) : zrE n (wO b) := by
  intro c hc
  simp only [List.mem_cons, List.not_mem_nil, or_false] at hc
  subst hc; exact .d _
theorem w64 {x : Int} (h0 : 0 ≤ x) (h1 : x ≤ 9007199254740992) : IntKind.u64.wrap x = ((x.toNat : Nat) : Int) := by
  rw [show x = ((x.toNat : Nat) : Int) by omega, zgj (by omega)]; rfl
section

variable {σ : List zd} {id : Nat} {b : List UInt8} {K : KT}

theorem c_wNum {l : List Int} (hσ : σ[id]? = some (wO b)) (hb : b.length ≤ 536870912) (hl0 : l.length ≤ 1000) (hi : ∀ x ∈ l, 0 ≤ x ∧ x ≤ 9007199254740992) (hK : K (.tup []) (σ.set id (wO (b ++ zcT l)))) :
    zl Tryz.prog zad [.box id 0, .d (.slice (zse l))] σ K := by
  refine zpK zjT.is rfl fun hl _ => zjT.goes ?_
  have hid := zcx hσ
  simp only [zkg, iN, bT, bF, eN]
  refine zaF ?_
  refine zy l.length (fun k vs s => vs = [.d (.int .i64 k)] ∧ ∃ c T, s = σ.set id (.box [c]) ++ T ∧ (c = .d (.slice (bcs (b ++ zcT (l.take k)))) ∨ ∃ t, c = .own t (bcs (b ++ zcT (l.take k))))) ⟨rfl, _, [], by rw [List.append_nil, zeu hσ], .inl (by simp [zcT])⟩ ?_
  rintro k vs s hk ⟨rfl, c, T, rfl, hc⟩
  have hbox : (σ.set id (.box [c]) ++ T)[id]? = some (.box [c]) := zM (zcL hσ)
  by_cases hlt : k < l.length
  · have hd : decide ((k : Int) < (l.length : Int)) = true := by simp; omega
    have hx : l[k]? = some l[k] := by simp [hlt]
    have hxi := hi _ (List.getElem_mem hlt)
    have hgx := zal (f := fun t => [D.int .i64 t]) hx
    obtain ⟨x, hxe⟩ : ∃ x, l[k] = x := ⟨_, rfl⟩
    rw [hxe] at hx hgx hxi
    have hln := zrS (l := l.take k) (fun y hy => by have := hi y (List.mem_of_mem_take hy); omega)
    have hlk : (l.take k).length = k := by rw [List.length_take]; omega
    have hw := w64 hxi.1 hxi.2
    have hbl : (b ++ zcT (l.take k)).length ≤ 1073741824 := by rw [List.length_append]; omega
    have hnx : b ++ zcT (l.take (k + 1)) = b ++ (zcT (l.take k) ++ zdv x.toNat) := by rw [List.take_add_one, hx]; simp [zcT]
    have fin : ∀ t τ, ∃ c' T', (σ.set id (.box [c]) ++ T ++ τ).set id (.box [.own t (bcs (b ++ (zcT (l.take k) ++ zdv x.toNat)))]) = σ.set id (.box [c']) ++ T' ∧ (c' = .d (.slice (bcs (b ++ zcT (l.take (k + 1))))) ∨ ∃ t, c' = .own t (bcs (b ++ zcT (l.take (k + 1))))) := by
      intro t τ
      refine ⟨_, T ++ τ, ?_, .inr ⟨t, rfl⟩⟩
      rw [hnx, List.append_assoc, List.set_append_left _ _ (by simpa using hid), List.set_set]
    have hbox2 : ∀ τ, (σ.set id (.box [c]) ++ T ++ τ)[id]? = some (.box [c]) := fun τ => zM hbox
    obtain ⟨S, hS⟩ : ∃ S, σ.set id (.box [c]) ++ T = S := ⟨_, rfl⟩
    rw [hS] at hbox fin hbox2 ⊢
    rcases hc with rfl | ⟨t, rfl⟩
    · refine zay (zq hd (zq hgx (zq hbox hw))) ?_
      refine zeF (by omega) hbl ?_
      refine zay (zq hbox2 (wkc k (by omega))) ?_
      exact zbp.next hlt ⟨rfl, fin _ _⟩
    · refine zay (zq hd (zq hgx (zq hbox hw))) ?_
      refine zeF (by omega) hbl ?_
      refine zay (zq hbox2 (wkc k (by omega))) ?_
      exact zbp.next hlt ⟨rfl, fin _ _⟩
  · have hd : decide ((k : Int) < (l.length : Int)) = false := by simp; omega
    rw [List.take_of_length_le (by omega)] at hc
    rcases hc with rfl | ⟨t, rfl⟩
    · refine zay hd ?_
      refine zpp (zgd (by simp [zdy, dmT, zbL]) hl (zqQ _ _) hK)
    · refine zay hd ?_
      exact znD hσ (by simp [zdy, dmT, zbL]) hl hK
theorem c_wMany {n : Nat} (hσ : σ[id]? = some (wO b)) (hb : b.length ≤ 536870912) (hn : n ≤ 1073741824) (hK : K (.tup []) (σ.set id (wO (b ++ zdv n)))) :
    zl Tryz.prog zcb [.box id 0, .d (.int .i64 n)] σ K := by
  refine ze zjh.is rfl fun hl _ => zjh.goes ?_
  simp only [zjx, iN, bT, bF, eN]
  refine zaF ?_
  refine c_wNum (l := [(n : Int)]) hσ hb (by simp) (by simp; omega) ?_
  refine zaF ?_
  exact zfW (by simp [zdy, dmT, zbL]) hl (zqQ _ _) (by rw [show zcT [(n : Int)] = zdv n by simp [zcT]]; exact hK)
theorem zuX {k d : Int} (hσ : σ[id]? = some (wO b)) (hb : b.length ≤ 536870912) (hc : zag k d = 0) (hK : K (.tup []) (σ.set id (wO (b ++ zie k d)))) :
    zl Tryz.prog zaR [.box id 0, .agg [.d (.int .i64 k), .d (.int .i64 d)]] σ K := by
  refine zpK zhO.is rfl fun hl _ => zhO.goes ?_
  have hid := zcx hσ
  have hσ1 := fun τ => zM (τ := τ) hσ
  simp only [zhV, iN, bT, bF, eN]
  refine zay hσ1 ?_
  refine zud (by omega) hc ?_
  refine zay hσ1 ?_
  rw [List.set_append_left _ _ hid]
  exact znD hσ (by simp [zdy, dmT, zbL]) hl hK
theorem c_wBatch {l : List zu} (hσ : σ[id]? = some (wO b)) (hb : b.length ≤ 268435456) (hc : zD l = 0) (hK : K (.tup []) (σ.set id (wO (b ++ zcP l)))) :
    zl Tryz.prog zbF [.box id 0, .d (.slice (zbD l))] σ K := by
  refine zpK zgU.is rfl fun hl _ => zgU.goes ?_
  have hid := zcx hσ
  have hσ1 := fun τ => zM (τ := τ) hσ
  simp only [zhe, iN, bT, bF, eN]
  refine zay (zq hσ hσ1) ?_
  refine c_PutBatchO hb (fun x hx => Nat.le_trans ((zju hc).1 x hx) (by omega)) hc ?_
  refine zay (zq hσ hσ1) ?_
  rw [List.set_append_left _ _ hid]
  exact znD hσ (by simp [zdy, dmT, zbL]) hl hK
theorem c_wSigns {l : List zt} (hσ : σ[id]? = some (wO b)) (hb : b.length ≤ 268435456) (hc : ∀ e ∈ zfs l, e = 0) (hK : K (.tup []) (σ.set id (wO (b ++ ztq l)))) :
    zl Tryz.prog zcr [.box id 0, .d (.slice (zab l))] σ K := by
  refine ze zgS.is rfl fun hl _ => zgS.goes ?_
  obtain ⟨h13, hs⟩ := signs_ok hc
  have hid := zcx hσ
  have hll : (zab l).length = l.length := List.length_map ..
  simp only [zhc, iN, bT, bF, eN]
  refine zay hll ?_
  refine c_wMany (n := l.length) hσ (by omega) (by omega) ?_
  refine zay hll ?_
  refine zy l.length (fun k vs s => vs = [.d (.int .i64 k)] ∧ ∃ T, s = σ.set id (wO (b ++ (zdv l.length ++ ((l.take k).map fun s => zie s.key s.dig).flatten))) ++ T) ⟨rfl, [], by simp⟩ ?_
  rintro k vs s hk ⟨rfl, T, rfl⟩
  obtain ⟨O, hO⟩ : ∃ O, wO (b ++ (zdv l.length ++ ((l.take k).map fun s => zie s.key s.dig).flatten)) = O := ⟨_, rfl⟩
  rw [hO]
  by_cases hlt : k < l.length
  · have hd : decide ((k : Int) < (l.length : Int)) = true := by simp; omega
    have hx : l[k]? = some l[k] := by simp [hlt]
    have hxi := hs _ (List.getElem_mem hlt)
    have hgx := zal (f := zgH) hx
    obtain ⟨x, hxe⟩ : ∃ x, l[k] = x := ⟨_, rfl⟩
    rw [hxe] at hx hgx hxi
    have hlen : (((l.take k).map fun s => zie s.key s.dig).flatten).length ≤ (l.take k).length * 20 := zfw fun s hm => zfF (hs s (List.mem_of_mem_take hm))
    have hlk : (l.take k).length = k := by rw [List.length_take]; omega
    have n1 := zC (n := l.length) (by omega)
    obtain ⟨S, hS⟩ : ∃ S, σ.set id O ++ T = S := ⟨_, rfl⟩
    have hSid : S[id]? = some O := by rw [← hS]; exact zM (zcL hσ)
    rw [hS]
    refine znN (zq hd (zq hgx hll)) ?_
    refine zuX (by rw [← hO] at hSid; exact zM hSid) (by simp only [List.length_append]; omega) hxi ?_
    refine zay (wkc k (by omega)) ?_
    refine zbp.next hlt ⟨rfl, T ++ [.box [.d (.int .i64 x.key), .d (.int .i64 x.dig)]], ?_⟩
    rw [zfI hx, ← hS, List.append_assoc (σ.set id O), List.set_append_left _ _ (by simpa using hid), List.set_set]
    try simp
  · have hd : decide ((k : Int) < (l.length : Int)) = false := by simp; omega
    rw [List.take_of_length_le (by omega)] at hO
    subst hO
    refine zay (zq hd hll) ?_
    exact zgd (by simp [zdy, dmT, zbL]) hl (zqQ _ _) hK
theorem c_wCert {c : zfB} (hσ : σ[id]? = some (wO b)) (hb : b.length ≤ 134217728) (hc : ∀ e ∈ zfq c, e = 0) (hK : K (.tup []) (σ.set id (wO (b ++ certB c)))) :
    zl Tryz.prog zcJ [.box id 0, zfX c] σ K := by
  refine ze zhP.is rfl fun hl _ => zhP.goes ?_
  have hid := zcx hσ
  obtain ⟨h1, h2, h3⟩ := cert_ok hc
  have n1 := zC (n := c.seq.toNat) (by omega)
  have n2 := zC (n := c.dig.toNat) (by omega)
  have j := znr.first hσ (.box [.d (.int .i64 c.seq), .d (.int .i64 c.dig), .d (.slice (zab c.signs))])
  simp only [zhW, iN, bT, bF, eN]
  refine zaF ?_
  refine c_wNum (l := [c.seq, c.dig]) j.a (by omega) (by simp) (by simp; omega) ?_
  have j := j.set hid (wO (b ++ zcT [c.seq, c.dig]))
  obtain ⟨S, hS⟩ : ∃ S, (σ ++ [zd.box [.d (.int .i64 c.seq), .d (.int .i64 c.dig), .d (.slice (zab c.signs))]]).set id (wO (b ++ zcT [c.seq, c.dig])) = S := ⟨_, rfl⟩
  rw [hS] at j ⊢
  have b := j.b
  refine zay b ?_
  refine c_wSigns j.a (by simp [zcT]; omega) h3 ?_
  refine zaF ?_
  exact (j.set hid _).done (zqQ _ _) hl (by simpa [zcT, certB] using hK)
end

end Go.Proofs.YtpgahkdjkanblaaGreat
