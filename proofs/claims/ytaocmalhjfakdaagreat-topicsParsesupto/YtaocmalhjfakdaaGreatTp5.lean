/- Contracts: the bytes of the document's topics. -/
import Derived.Test.YtaocmalhjfakdaaGreatTp4
set_option linter.all false
set_option maxRecDepth 100000
set_option linter.unusedSimpArgs false
set_option linter.unusedVariables false
namespace Go.Proofs.YtaocmalhjfakdaaGreat
open Go.AW

theorem ziF {σ : List zc} {b x : List UInt8} (hx : x.length ≤ 1073741824) (hb : b.length ≤ 1073741800) {K : KT} (hK : K (.d (.slice (bcs (b ++ zjI x)))) (σ ++ [.tok 1 (b ++ zjI x).length])) :
    zn Tryz.prog zda [.d (.slice (bcs b)), .d (.slice (bcs x))] σ K :=
  .weaken (c_rPutBytes hx hb ⟨_, _, .data 0 _ _ rfl rfl (.refl _ _), hK⟩)
theorem c_r7Bytes {σ : List zc} {id t g : Nat} {T : zak} (hT : zbT σ id t g T) (hI : zed T) (hL : LastI T.last) {K : KT} (hK : K (.d (.slice (bcs (zic T)))) σ) : zn Tryz.prog zei [.box id 0] σ K := by
  refine zmx zkO fun hl => ?_
  have hb := hT.box
  have hrw := hT.row
  have xb : ∀ τ, (σ ++ τ)[id]? = _ := fun τ => zf hb
  have xr : ∀ τ, (σ ++ τ)[t]? = _ := fun τ => zf hrw
  have f4 := zbL T.l
  have hlenA : (zT (zaE T.l)).length = T.l.length * 4 := by rw [zdp f4, List.length_map]
  have hlf : (zaE T.l).flatten.length = T.l.length * 4 := by rw [← hlenA, zT, List.length_map]
  have hn := hI.len
  have hnl := zZ (n := T.l.length) (by omega)
  simp only [zgH, iN, bT, bF, eN]
  refine zmq hb ?_
  refine ziG (b := []) (by simp) (by omega) ?_
  rw [List.nil_append]
  refine zby ?_
  refine zF T.l.length (fun k vs s => ∃ τ, vs = [.d (.slice (bcs (zbQ T.l.length ++ zaR (T.l.take k)))), .d (.int .i64 k)] ∧ s = σ ++ τ) ⟨[], by simp [zaR], by simp⟩ ?_
  rintro k vs s hk ⟨τ, rfl, rfl⟩
  have hbl : (zaR (T.l.take k)).length ≤ k * 5600 := by
    have := znX (l := T.l.take k) fun x hx => hI.tops x (List.mem_of_mem_take hx)
    rw [List.length_take, Nat.min_eq_left hk] at this; exact this
  by_cases hlt : k < T.l.length
  · have hd : decide ((k : Int) < (T.l.length : Int)) = true := by simp; omega
    have hx : T.l[k]? = some T.l[k] := by simp [hlt]
    have hX := hI.tops _ (List.getElem_mem hlt)
    obtain ⟨x, hxe⟩ : ∃ x, T.l[k] = x := ⟨_, rfl⟩
    rw [hxe] at hx hX
    have hgt : List.take 4 (List.drop (k * 4) (zT (zaE T.l))) = (topD x).map .d := zhc f4 (zbo hx)
    have hk4 : k * 4 + 4 ≤ T.l.length * 4 := by omega
    have hnx : x.next = x.base + x.recs.length := rfl
    have a1 := hX.base; have a2 := hX.next; have a3 := hX.recs; have a4 := hX.groups; have a5 := hX.name
    have hbase : x.base = ((x.base.toNat : Nat) : Int) := by omega
    have m1 := zfM (x := x.name) (by omega)
    have m2 := zZ (n := x.base.toNat) (by omega)
    have m3 := zZ (n := x.recs.length) (by omega)
    have m4 := zZ (n := x.groups.length) (by omega)
    have hrl := zo x.recs
    have hgl : (zW x.groups).length = x.groups.length := List.length_map ..
    obtain ⟨B, hB⟩ : ∃ B, zbQ T.l.length ++ zaR (T.l.take k) = B := ⟨_, rfl⟩
    have hBl : B.length ≤ 100000 := by rw [← hB]; simp; omega
    obtain ⟨R, hR⟩ : ∃ R, σ ++ τ = R := ⟨_, rfl⟩
    have yb : ∀ ρ, (R ++ ρ)[id]? = _ := fun ρ => zf (hR ▸ xb τ)
    have yr : ∀ ρ, (R ++ ρ)[t]? = _ := fun ρ => zf (hR ▸ xr τ)
    have yb0 : R[id]? = _ := hR ▸ xb τ
    have yr0 : R[t]? = _ := hR ▸ xr τ
    rw [hB, hR]
    refine zmq (zb hd (zb yb0 (zb yr0 (zb hgt (zb hlf hk4))))) ?_
    refine ziF (b := B) (x := x.name) (by omega) (by omega) ?_
    refine zby ?_
    rw [hbase]
    refine ziG (by simp; omega) (by omega) ?_
    refine zt hrl ?_
    refine ziG (by simp; omega) (by omega) ?_
    refine zby ?_
    obtain ⟨B1, hB1⟩ : ∃ B1, B ++ (zjI x.name ++ (zbQ x.base.toNat ++ zbQ x.recs.length)) = B1 := ⟨_, rfl⟩
    have hB1l : B1.length ≤ 101000 := by rw [← hB1]; simp; omega
    rw [hB1]
    refine zF x.recs.length (fun j vs s => ∃ ρ, vs = [.d (.slice (bcs (B1 ++ zcg (x.recs.take j)))), .d (.int .i64 j)] ∧ s = R ++ (.box [.d (.str x.name), .d (.int .i64 x.base.toNat), .d (.slice (zK x.recs)), .d (.slice (zW x.groups))] :: ρ)) ⟨_, by simp [zcg], rfl⟩ ?_
    rintro j vs s hj ⟨ρ, rfl, rfl⟩
    have hjl : (zcg (x.recs.take j)).length ≤ j * 74 := by
      have := zhK (f := zjI) (n := 74) (l := x.recs.take j) fun r hr => by
        have := hX.each r (List.mem_of_mem_take hr)
        have := zfM (x := r) (by omega)
        omega
      rw [List.length_take, Nat.min_eq_left hj] at this; exact this
    by_cases hlj : j < x.recs.length
    · have hdj : decide ((j : Int) < (x.recs.length : Int)) = true := by simp; omega
      have hy : x.recs[j]? = some x.recs[j] := by simp [hlj]
      have hry := hX.each _ (List.getElem_mem hlj)
      obtain ⟨y, hye⟩ : ∃ y, x.recs[j] = y := ⟨_, rfl⟩
      rw [hye] at hy hry
      have hgy := zgd hy
      refine zt (zb hdj (zb hrl hgy)) ?_
      refine ziF (by omega) (by simp; omega) ?_
      refine zt (wkc j (by omega)) ?_
      refine zbC.next hlj ⟨ρ ++ [_], ?_, by simp; rfl⟩
      rw [List.take_add_one, hy]
      simp [zcg]
    · have hdj : decide ((j : Int) < (x.recs.length : Int)) = false := by simp; omega
      have hjo : x.recs.take j = x.recs := List.take_of_length_le (by omega)
      rw [hjo] at hjl ⊢
      refine zt (zb hdj (zb hrl hgl)) ?_
      refine ziG (by simp; omega) (by omega) ?_
      obtain ⟨B2, hB2⟩ : ∃ B2, B1 ++ zcg x.recs ++ zbQ x.groups.length = B2 := ⟨_, rfl⟩
      have hB2l : B2.length ≤ 120000 := by rw [← hB2]; simp; omega
      rw [hB2]
      refine zby ?_
      refine zF x.groups.length (fun j vs s => ∃ ρ, vs = [.d (.slice (bcs (B2 ++ zaz (x.groups.take j)))), .d (.int .i64 j)] ∧ s = R ++ (.box [.d (.str x.name), .d (.int .i64 x.base.toNat), .d (.slice (zK x.recs)), .d (.slice (zW x.groups))] :: ρ)) ⟨_, by simp [zaz], rfl⟩ ?_
      clear ρ
      rintro j vs s hj ⟨ρ, rfl, rfl⟩
      have hjl : (zaz (x.groups.take j)).length ≤ j * 84 := by
        have := zhK (f := ziB) (n := 84) (l := x.groups.take j) fun r hr => zly (hX.gs r (List.mem_of_mem_take hr))
        rw [List.length_take, Nat.min_eq_left hj] at this; exact this
      by_cases hlj : j < x.groups.length
      · have hdj : decide ((j : Int) < (x.groups.length : Int)) = true := by simp; omega
        have hy : x.groups[j]? = some x.groups[j] := by simp [hlj]
        have hgs := hX.gs _ (List.getElem_mem hlj)
        obtain ⟨y, hye⟩ : ∃ y, x.groups[j] = y := ⟨_, rfl⟩
        rw [hye] at hy hgs
        have hgy := zbo (f := zjy) hy
        have hyb : y.2 = ((y.2.toNat : Nat) : Int) := by omega
        have p1 := zfM (x := y.1) (by omega)
        refine zt (zb hdj (zb hgl hgy)) ?_
        refine ziF (by omega) (by simp; omega) ?_
        refine zby ?_
        rw [hyb]
        refine ziG (by simp; omega) (by omega) ?_
        refine zt (wkc j (by omega)) ?_
        refine zbC.next hlj ⟨ρ ++ [_], ?_, by simp; rfl⟩
        rw [List.take_add_one, hy]
        simp [zaz, ziB]
      · have hdj : decide ((j : Int) < (x.groups.length : Int)) = false := by simp; omega
        have hjo : x.groups.take j = x.groups := List.take_of_length_le (by omega)
        rw [hjo]
        refine zt (zb hdj (zb hgl (wkc k (by omega)))) ?_
        subst hR
        refine zbC.next hlt ⟨τ ++ (.box [.d (.str x.name), .d (.int .i64 x.base.toNat), .d (.slice (zK x.recs)), .d (.slice (zW x.groups))] :: ρ), ?_, by simp⟩
        rw [List.take_add_one, hx]
        have e : zbQ T.l.length ++ zaR (T.l.take k ++ [x]) = B2 ++ zaz x.groups := by
          rw [← hB2, ← hB1, ← hB]
          simp [zaR, topB]
        simp only [Option.toList_some, e]
  · have hd : decide ((k : Int) < (T.l.length : Int)) = false := by simp; omega
    have hko : T.l.take k = T.l := List.take_of_length_le (by omega)
    rw [hko] at hbl ⊢
    obtain ⟨B, hB⟩ : ∃ B, zbQ T.l.length ++ zaR T.l = B := ⟨_, rfl⟩
    have hBl : B.length ≤ 100000 := by rw [← hB]; simp; omega
    rw [hB]
    have hlast := hT.last
    refine zmq (zb hd xb) ?_
    refine zF 8 (fun j vs s => ∃ ρ, vs = [.d (.slice (bcs (B ++ zaP (T.last.take j)))), .d (.int .i64 j)] ∧ s = σ ++ ρ) ⟨_, by simp [zaP], rfl⟩ ?_
    rintro j vs s hj ⟨ρ, rfl, rfl⟩
    have hjl : (zaP (T.last.take j)).length ≤ j * 30 := by
      have := zon (l := T.last.take j) fun a ha => hL a (List.mem_of_mem_take ha)
      rw [List.length_take, Nat.min_eq_left (by omega)] at this; exact this
    by_cases hlj : j < 8
    · have hdj : decide ((j : Int) < 8) = true := by simp; omega
      obtain ⟨a, ha⟩ : ∃ a, T.last[j]? = some a := ⟨_, List.getElem?_eq_getElem (by omega)⟩
      have hl3 := ziz ha
      have hlc := zeo T.last
      obtain ⟨⟨z1, z2⟩, ⟨z3, z4⟩, ⟨z5, z6⟩⟩ := hL a (List.mem_of_getElem? ha)
      have hl4 : ∀ X : AV, List.take 3 (List.drop (1 + j * 3) (X :: zbB T.last)) = [.d (.int .i64 a.1), .d (.int .i64 a.2.1), .d (.int .i64 a.2.2)] := fun X => by
        rw [Nat.add_comm, List.drop_succ_cons]; exact hl3
      have e1 : a.1 = ((a.1.toNat : Nat) : Int) := by omega
      have e2 : a.2.1 = ((a.2.1.toNat : Nat) : Int) := by omega
      have e3 : a.2.2 = ((a.2.2.toNat : Nat) : Int) := by omega
      have p1 := zZ (n := a.1.toNat) (by omega)
      have p2 := zZ (n := a.2.1.toNat) (by omega)
      rw [e1, e2, e3] at hl4
      refine zt (zb hdj (zb xb hl4)) ?_
      refine ziG (by simp; omega) (by omega) ?_
      refine zby ?_
      refine ziG (by simp; omega) (by omega) ?_
      refine zby ?_
      refine ziG (by simp; omega) (by omega) ?_
      refine zt (wkc j (by omega)) ?_
      refine zbC.next hlj ⟨ρ ++ [_], ?_, by simp; rfl⟩
      rw [List.take_add_one, ha]
      simp [zaP, ziA]
    · have hdj : decide ((j : Int) < 8) = false := by simp; omega
      have hjo : T.last.take j = T.last := List.take_of_length_le (by omega)
      rw [hjo]
      refine zt hdj ?_
      refine zdv hl ?_
      rw [← hB, List.append_assoc]
      exact hK
end Go.Proofs.YtaocmalhjfakdaaGreat
