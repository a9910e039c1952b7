/- Contracts: the bytes of the document's topics. -/
import Derived.Test.YtaocmalhjfakdaaTp4
set_option linter.all false
set_option maxRecDepth 100000
set_option linter.unusedSimpArgs false
set_option linter.unusedVariables false
namespace Go.Proofs.Ytaocmalhjfakdaa
open Go.AW

theorem zgQ {σ : List zb} {b x : List UInt8} (hx : x.length ≤ 1073741824) (hb : b.length ≤ 1073741800) {K : AV → List zb → Prop} (hK : K (.d (.slice (bcs (b ++ putB x)))) (σ ++ [.tok 1 (b ++ putB x).length])) :
    zu Try.prog zcd [.d (.slice (bcs b)), .d (.slice (bcs x))] σ K :=
  .weaken (c_rPutBytes hx hb ⟨_, _, .data 0 _ _ rfl rfl (.refl _ _), hK⟩)
theorem c_r7Bytes {σ : List zb} {id t g : Nat} {T : zP} (hT : zbo σ id t g T) (hI : zcF T) (hL : LastI T.last) {K : AV → List zb → Prop} (hK : K (.d (.slice (bcs (topsB T)))) σ) : zu Try.prog zdq [.box id 0] σ K := by
  refine zlr ziL fun hl => ?_
  have hb := hT.box
  have hrw := hT.row
  have xb : ∀ τ, (σ ++ τ)[id]? = _ := fun τ => ze hb
  have xr : ∀ τ, (σ ++ τ)[t]? = _ := fun τ => ze hrw
  have f4 := zbx T.l
  have hlenA : (zM (zaw T.l)).length = T.l.length * 4 := by rw [zcU f4, List.length_map]
  have hlf : (zaw T.l).flatten.length = T.l.length * 4 := by rw [← hlenA, zM, List.length_map]
  have hn := hI.len
  have hnl := zN (n := T.l.length) (by omega)
  simp only [zfw, iN, bT, bF, eN]
  refine zjB hb ?_
  refine zgR (b := []) (by simp) (by omega) ?_
  rw [List.nil_append]
  refine zbw ?_
  refine zI T.l.length (fun k vs s => ∃ τ, vs = [.d (.slice (bcs (zcz T.l.length ++ zeo (T.l.take k)))), .d (.int .i64 k)] ∧ s = σ ++ τ) ⟨[], by simp [zeo], by simp⟩ ?_
  rintro k vs s hk ⟨τ, rfl, rfl⟩
  have hbl : (zeo (T.l.take k)).length ≤ k * 5600 := by
    have := zlu (l := T.l.take k) fun x hx => hI.tops x (List.mem_of_mem_take hx)
    rw [List.length_take, Nat.min_eq_left hk] at this; exact this
  by_cases hlt : k < T.l.length
  · have hd : decide ((k : Int) < (T.l.length : Int)) = true := by simp; omega
    have hx : T.l[k]? = some T.l[k] := by simp [hlt]
    have hX := hI.tops _ (List.getElem_mem hlt)
    obtain ⟨x, hxe⟩ : ∃ x, T.l[k] = x := ⟨_, rfl⟩
    rw [hxe] at hx hX
    have hgt : List.take 4 (List.drop (k * 4) (zM (zaw T.l))) = (topD x).map .d := zfH f4 (zaP hx)
    have hk4 : k * 4 + 4 ≤ T.l.length * 4 := by omega
    have hnx : x.next = x.base + x.recs.length := rfl
    have a1 := hX.base; have a2 := hX.next; have a3 := hX.recs; have a4 := hX.groups; have a5 := hX.name
    have hbase : x.base = ((x.base.toNat : Nat) : Int) := by omega
    have m1 := zeF (x := x.name) (by omega)
    have m2 := zN (n := x.base.toNat) (by omega)
    have m3 := zN (n := x.recs.length) (by omega)
    have m4 := zN (n := x.groups.length) (by omega)
    have hrl := zn x.recs
    have hgl : (zaC x.groups).length = x.groups.length := List.length_map ..
    obtain ⟨B, hB⟩ : ∃ B, zcz T.l.length ++ zeo (T.l.take k) = B := ⟨_, rfl⟩
    have hBl : B.length ≤ 100000 := by rw [← hB]; simp; omega
    obtain ⟨R, hR⟩ : ∃ R, σ ++ τ = R := ⟨_, rfl⟩
    have yb : ∀ ρ, (R ++ ρ)[id]? = _ := fun ρ => ze (hR ▸ xb τ)
    have yr : ∀ ρ, (R ++ ρ)[t]? = _ := fun ρ => ze (hR ▸ xr τ)
    have yb0 : R[id]? = _ := hR ▸ xb τ
    have yr0 : R[t]? = _ := hR ▸ xr τ
    rw [hB, hR]
    refine zjB (zd hd (zd yb0 (zd yr0 (zd hgt (zd hlf hk4))))) ?_
    refine zgQ (b := B) (x := x.name) (by omega) (by omega) ?_
    refine zbw ?_
    rw [hbase]
    refine zgR (by simp; omega) (by omega) ?_
    refine zV hrl ?_
    refine zgR (by simp; omega) (by omega) ?_
    refine zbw ?_
    obtain ⟨B1, hB1⟩ : ∃ B1, B ++ (putB x.name ++ (zcz x.base.toNat ++ zcz x.recs.length)) = B1 := ⟨_, rfl⟩
    have hB1l : B1.length ≤ 101000 := by rw [← hB1]; simp; omega
    rw [hB1]
    refine zI x.recs.length (fun j vs s => ∃ ρ, vs = [.d (.slice (bcs (B1 ++ zgs (x.recs.take j)))), .d (.int .i64 j)] ∧ s = R ++ (.box [.d (.str x.name), .d (.int .i64 x.base.toNat), .d (.slice (zQ x.recs)), .d (.slice (zaC x.groups))] :: ρ)) ⟨_, by simp [zgs], rfl⟩ ?_
    rintro j vs s hj ⟨ρ, rfl, rfl⟩
    have hjl : (zgs (x.recs.take j)).length ≤ j * 74 := by
      have := zgb (f := putB) (n := 74) (l := x.recs.take j) fun r hr => by
        have := hX.each r (List.mem_of_mem_take hr)
        have := zeF (x := r) (by omega)
        omega
      rw [List.length_take, Nat.min_eq_left hj] at this; exact this
    by_cases hlj : j < x.recs.length
    · have hdj : decide ((j : Int) < (x.recs.length : Int)) = true := by simp; omega
      have hy : x.recs[j]? = some x.recs[j] := by simp [hlj]
      have hry := hX.each _ (List.getElem_mem hlj)
      obtain ⟨y, hye⟩ : ∃ y, x.recs[j] = y := ⟨_, rfl⟩
      rw [hye] at hy hry
      have hgy := zeR hy
      refine zV (zd hdj (zd hrl hgy)) ?_
      refine zgQ (by omega) (by simp; omega) ?_
      refine zV (wkc j (by omega)) ?_
      refine zca.next hlj ⟨ρ ++ [_], ?_, by simp; rfl⟩
      rw [List.take_add_one, hy]
      simp [zgs]
    · have hdj : decide ((j : Int) < (x.recs.length : Int)) = false := by simp; omega
      have hjo : x.recs.take j = x.recs := List.take_of_length_le (by omega)
      rw [hjo] at hjl ⊢
      refine zV (zd hdj (zd hrl hgl)) ?_
      refine zgR (by simp; omega) (by omega) ?_
      obtain ⟨B2, hB2⟩ : ∃ B2, B1 ++ zgs x.recs ++ zcz x.groups.length = B2 := ⟨_, rfl⟩
      have hB2l : B2.length ≤ 120000 := by rw [← hB2]; simp; omega
      rw [hB2]
      refine zbw ?_
      refine zI x.groups.length (fun j vs s => ∃ ρ, vs = [.d (.slice (bcs (B2 ++ zcE (x.groups.take j)))), .d (.int .i64 j)] ∧ s = R ++ (.box [.d (.str x.name), .d (.int .i64 x.base.toNat), .d (.slice (zQ x.recs)), .d (.slice (zaC x.groups))] :: ρ)) ⟨_, by simp [zcE], rfl⟩ ?_
      clear ρ
      rintro j vs s hj ⟨ρ, rfl, rfl⟩
      have hjl : (zcE (x.groups.take j)).length ≤ j * 84 := by
        have := zgb (f := zkG) (n := 84) (l := x.groups.take j) fun r hr => zjk (hX.gs r (List.mem_of_mem_take hr))
        rw [List.length_take, Nat.min_eq_left hj] at this; exact this
      by_cases hlj : j < x.groups.length
      · have hdj : decide ((j : Int) < (x.groups.length : Int)) = true := by simp; omega
        have hy : x.groups[j]? = some x.groups[j] := by simp [hlj]
        have hgs := hX.gs _ (List.getElem_mem hlj)
        obtain ⟨y, hye⟩ : ∃ y, x.groups[j] = y := ⟨_, rfl⟩
        rw [hye] at hy hgs
        have hgy := zaP (f := zhK) hy
        have hyb : y.2 = ((y.2.toNat : Nat) : Int) := by omega
        have p1 := zeF (x := y.1) (by omega)
        refine zV (zd hdj (zd hgl hgy)) ?_
        refine zgQ (by omega) (by simp; omega) ?_
        refine zbw ?_
        rw [hyb]
        refine zgR (by simp; omega) (by omega) ?_
        refine zV (wkc j (by omega)) ?_
        refine zca.next hlj ⟨ρ ++ [_], ?_, by simp; rfl⟩
        rw [List.take_add_one, hy]
        simp [zcE, zkG]
      · have hdj : decide ((j : Int) < (x.groups.length : Int)) = false := by simp; omega
        have hjo : x.groups.take j = x.groups := List.take_of_length_le (by omega)
        rw [hjo]
        refine zV (zd hdj (zd hgl (wkc k (by omega)))) ?_
        subst hR
        refine zca.next hlt ⟨τ ++ (.box [.d (.str x.name), .d (.int .i64 x.base.toNat), .d (.slice (zQ x.recs)), .d (.slice (zaC x.groups))] :: ρ), ?_, by simp⟩
        rw [List.take_add_one, hx]
        have e : zcz T.l.length ++ zeo (T.l.take k ++ [x]) = B2 ++ zcE x.groups := by
          rw [← hB2, ← hB1, ← hB]
          simp [zeo, topB]
        simp only [Option.toList_some, e]
  · have hd : decide ((k : Int) < (T.l.length : Int)) = false := by simp; omega
    have hko : T.l.take k = T.l := List.take_of_length_le (by omega)
    rw [hko] at hbl ⊢
    obtain ⟨B, hB⟩ : ∃ B, zcz T.l.length ++ zeo T.l = B := ⟨_, rfl⟩
    have hBl : B.length ≤ 100000 := by rw [← hB]; simp; omega
    rw [hB]
    have hlast := hT.last
    refine zjB (zd hd xb) ?_
    refine zI 8 (fun j vs s => ∃ ρ, vs = [.d (.slice (bcs (B ++ zeq (T.last.take j)))), .d (.int .i64 j)] ∧ s = σ ++ ρ) ⟨_, by simp [zeq], rfl⟩ ?_
    rintro j vs s hj ⟨ρ, rfl, rfl⟩
    have hjl : (zeq (T.last.take j)).length ≤ j * 30 := by
      have := zlI (l := T.last.take j) fun a ha => hL a (List.mem_of_mem_take ha)
      rw [List.length_take, Nat.min_eq_left (by omega)] at this; exact this
    by_cases hlj : j < 8
    · have hdj : decide ((j : Int) < 8) = true := by simp; omega
      obtain ⟨a, ha⟩ : ∃ a, T.last[j]? = some a := ⟨_, List.getElem?_eq_getElem (by omega)⟩
      have hl3 := zeW ha
      have hlc := zcL T.last
      obtain ⟨⟨z1, z2⟩, ⟨z3, z4⟩, ⟨z5, z6⟩⟩ := hL a (List.mem_of_getElem? ha)
      have hl4 : ∀ X : AV, List.take 3 (List.drop (1 + j * 3) (X :: zbb T.last)) = [.d (.int .i64 a.1), .d (.int .i64 a.2.1), .d (.int .i64 a.2.2)] := fun X => by
        rw [Nat.add_comm, List.drop_succ_cons]; exact hl3
      have e1 : a.1 = ((a.1.toNat : Nat) : Int) := by omega
      have e2 : a.2.1 = ((a.2.1.toNat : Nat) : Int) := by omega
      have e3 : a.2.2 = ((a.2.2.toNat : Nat) : Int) := by omega
      have p1 := zN (n := a.1.toNat) (by omega)
      have p2 := zN (n := a.2.1.toNat) (by omega)
      rw [e1, e2, e3] at hl4
      refine zV (zd hdj (zd xb hl4)) ?_
      refine zgR (by simp; omega) (by omega) ?_
      refine zbw ?_
      refine zgR (by simp; omega) (by omega) ?_
      refine zbw ?_
      refine zgR (by simp; omega) (by omega) ?_
      refine zV (wkc j (by omega)) ?_
      refine zca.next hlj ⟨ρ ++ [_], ?_, by simp; rfl⟩
      rw [List.take_add_one, ha]
      simp [zeq, lastB]
    · have hdj : decide ((j : Int) < 8) = false := by simp; omega
      have hjo : T.last.take j = T.last := List.take_of_length_le (by omega)
      rw [hjo]
      refine zV hdj ?_
      refine zde hl ?_
      rw [← hB, List.append_assoc]
      exact hK

end Go.Proofs.Ytaocmalhjfakdaa
