/- Contracts: the program's topics: names, groups, what was committed, what a client was told last. -/
import Derived.Test.YthpnelbciibjeaaGreatKs1
import Derived.Test.YthpnelbciibjeaaGreatTq8
import Derived.Test.YthpnelbciibjeaaGreatPr4
set_option linter.all false
set_option maxRecDepth 100000
set_option linter.unusedSimpArgs false
set_option linter.unusedVariables false
namespace Go.Proofs.YthpnelbciibjeaaGreat
open Go.AW

theorem zkl {α : Type} {l m : List α} (h1 : l.Nodup) (h2 : m.Nodup) (h : ∀ a, a ∈ l ↔ a ∈ m) : l.Perm m := (List.perm_ext_iff_of_nodup h1 h2).2 h
theorem rel_names {X : List zdf} {T : List zak} (h : Rel X T) : (X.map zdf.name).Perm (T.map zak.name) := by
  refine zkl h.nod h.sort.nodup fun a => ?_
  constructor
  · intro ha
    obtain ⟨p, hp, rfl⟩ := List.mem_map.1 ha
    obtain ⟨y, hy, hr⟩ := h.fw p hp
    exact List.mem_map.2 ⟨y, hy, hr.name.symm⟩
  · intro ha
    obtain ⟨y, hy, rfl⟩ := List.mem_map.1 ha
    obtain ⟨p, hp, hr⟩ := h.bw y hy
    exact List.mem_map.2 ⟨p, hp, hr.name⟩
theorem gr_names {G L : List (List UInt8 × Int)} (h : GR G L) : (G.map Prod.fst).Perm (L.map Prod.fst) := by
  refine zkl h.nod h.sort.nodup fun a => ?_
  simp only [List.mem_map, h.mem]
def zmN (T : zaz) (n : List UInt8) : Option zak := match atF n T.l 0 with
  | none => none
  | some k => T.l[k]?
def znq (T : zaz) (n : List UInt8) : List (List UInt8 × Int) := match zmN T n with
  | none => []
  | some x => x.groups
theorem zmW {X : List zdf} {T : zaz} (h : Rel X T.l) (n : List UInt8) : (zfO n X 0 = none ∧ zmN T n = none) ∨ ∃ i p y, zfO n X 0 = some (i, p) ∧ X[i]? = some p ∧ p.x.name = n ∧ zmN T n = some y ∧ y ∈ T.l ∧ TR p.x y := by
  cases hx : zfO n X 0 with
  | none => exact .inl ⟨rfl, by rw [zmN, h.no hx]⟩
  | some q =>
    obtain ⟨i, p⟩ := q
    obtain ⟨h1, h2, k, y, h3, h4, h5⟩ := h.yes hx
    refine .inr ⟨i, p, y, rfl, h1, h2, ?_, List.mem_of_getElem? h4, h5⟩
    rw [zmN, h3]; exact h4
abbrev strsE (l : List (List UInt8)) : List (List D) := l.map fun x => [.str x]
section

variable {σ : List zc} {id m : Nat} {X : List zdf} {T : zaz} {O : Nat → Prop} {K : AV → List zc → Prop}

theorem c_KeysTop {m : Nat} (hK : K (.fn (.func zF) [] [.box σ.length 0]) (σ ++ [.box [.map m]])) : zo Tryz.prog zQ [.map m] σ K := by
  refine zbl zax.is rfl fun hl _ => zax.goes ?_
  simp only [zaA, iN, bT, bF, eN]
  refine gq1 ?_
  exact zbR hK
theorem c_KeysGrp {m : Nat} (hK : K (.fn (.func zU) [] [.box σ.length 0]) (σ ++ [.box [.map m]])) : zo Tryz.prog zaC [.map m] σ K := by
  refine zbl zbc.is rfl fun hl _ => zbc.goes ?_
  simp only [zbd, iN, bT, bF, eN]
  refine gq1 ?_
  exact zbR hK
theorem hf_top : F2 Tryz.prog zF zhE := zbk
theorem hf_grp : F2 Tryz.prog zU zhE := zcz
theorem c_tpNames (h : zeR σ id T O) (hI : zef T) (hK : K (.d (.slice (strsE (T.l.map zak.name)))) σ) : zo Tryz.prog zcT [.box id 0] σ K := by
  obtain ⟨m, X, hP, hR, hO⟩ := h
  refine zhS ziq fun hl => ?_
  have hb := hP.box
  have hlen : X.length ≤ 8 := by rw [hR.len]; exact hI.len
  simp only [zeJ, iN, bT, bF, eN]
  refine gq1 ?_
  refine zjb hb ?_
  refine gq2 hb ?_
  refine c_KeysTop ?_
  refine gq1 ?_
  refine zmd (names := X.map zdf.name) (L := T.l.map zak.name) hf_top (by simp [zpe, zjf]) (by simp; omega) (by rw [zm]; rfl) (zf hP.map) (rel_names hR) hR.sort ?_
  refine gq1 ?_
  refine zbx hl ?_
  exact hK
theorem c_tpGroups {n : List UInt8} (h : zeR σ id T O) (hI : zef T) (hK : K (.d (.slice (strsE ((znq T n).map Prod.fst)))) σ) : zo Tryz.prog zcK [.box id 0, .d (.str n)] σ K := by
  obtain ⟨m, X, hP, hR, hO⟩ := h
  refine zjy zhQ fun hl => ?_
  simp only [zeo, iN, bT, bF, eN]
  refine gq1 ?_
  refine c_tpFind hP ?_
  rcases zmW hR n with ⟨h1, h2⟩ | ⟨i, p, y, h1, h2, h3, h4, h5, h6⟩
  · rw [h1]
    rw [znq, h2] at hK
    refine gq2 (show ((4 : Int) != 0) = true from rfl) ?_
    refine zbx hl ?_
    exact hK
  · rw [h1]
    rw [znq, h4] at hK
    have hp := hP.tops p (List.mem_of_getElem? h2)
    have hb := hp.b
    have hlen : p.x.groups.length ≤ 8 := by rw [h6.gr.len]; exact (hI.tops y h5).groups
    refine gq2 hb ?_
    refine c_KeysGrp ?_
    refine gq1 ?_
    refine zmd (names := p.x.groups.map Prod.fst) (L := y.groups.map Prod.fst) hf_grp (by simp [grpM, zjf]) (by simp; omega) (by rw [zm]; rfl) (zf hp.g) (gr_names h6.gr) h6.gr.sort ?_
    refine gq1 ?_
    refine zbx hl ?_
    exact hK
end


theorem zkH {σ : List zc} {b : List UInt8} {n : Nat} (hn : n < 18446744073709551616) (hb : b.length ≤ 1073741824) {K : AV → List zc → Prop} (hK : K (.d (.slice (bcs (b ++ zbs n)))) σ) :
    zo Tryz.prog zA [.d (.slice (bcs b)), .d (.int .u64 n)] σ K :=
  zo.frz 0 (zde hn hb ⟨_, rfl, by simp, hK⟩)
theorem ziw {σ : List zc} {b : List UInt8} {n : Int} (h0 : 0 ≤ n) (hn : n < 18446744073709551616) (hb : b.length ≤ 1073741824) {K : AV → List zc → Prop} (hK : K (.d (.slice (bcs (b ++ zbs n.toNat)))) σ) :
    zo Tryz.prog zA [.d (.slice (bcs b)), .d (.int .u64 n)] σ K := by
  have := zkH (σ := σ) (b := b) (n := n.toNat) (by omega) hb (K := K) hK
  rwa [show ((n.toNat : Nat) : Int) = n by omega] at this
theorem zjV {σ : List zc} {b x : List UInt8} (hx : x.length ≤ 1073741824) (hb : b.length ≤ 1073741800) {K : AV → List zc → Prop} (hK : K (.d (.slice (bcs (b ++ zka x)))) σ) :
    zo Tryz.prog zal [.d (.slice (bcs b)), .d (.slice (bcs x))] σ K :=
  zo.frz 0 (zfy hx hb ⟨_, rfl, by simp, hK⟩)
def recsQ (T : zaz) (n : List UInt8) : List (List UInt8) := match zmN T n with
  | none => []
  | some x => x.recs
def baseQ (T : zaz) (n : List UInt8) : Int := match zmN T n with
  | none => 0
  | some x => x.base
def ANx (T : zaz) (n : List UInt8) (i : Nat) (x : List AV) (i' : Nat) : Prop := ∃ r, (recsQ T n)[i]? = some r ∧ x = [.d (.int .i64 (baseQ T n + i)), .d (.slice (bcs r))] ∧ i' = i + 1
def AFin (T : zaz) (n : List UInt8) (i : Nat) : Prop := i = (recsQ T n).length
section

variable {σ : List zc} {id : Nat} {T : zaz} {O : Nat → Prop} {K : AV → List zc → Prop}

theorem c_tpAll {n : List UInt8} (hK : K (.fn (.func zbJ) [] [.box σ.length 0, .box (σ.length + 1) 0]) (σ ++ [.box [.box id 0], .box [.d (.str n)]])) : zo Tryz.prog zdq [.box id 0, .d (.str n)] σ K := by
  refine zbl zfQ.is rfl fun hl _ => zfQ.goes ?_
  simp only [zfU, iN, bT, bF, eN]
  refine gq1 ?_
  exact zbR hK
theorem c_allRun {l ba bb m : Nat} {X : List zdf} {n : List UInt8} (hI : zef T) (hR : Rel X T.l) (J : Nat → List zc → Prop) (happ : ∀ i s τ, J i s → J i (s ++ τ)) (hT : ∀ i s, J i s → zeO s id m X T.last ∧ s[ba]? = some (.box [.box id 0]) ∧ s[bb]? = some (.box [.d (.str n)]))
    (hY : ∀ i x i' s, ANx T n i x i' → J i s → zqo Tryz.prog l x s fun v s' => v = .d (.bool true) ∧ J i' s') (h0 : J 0 σ) :
    zo Tryz.prog zbJ [.fn (.yield l) [] [], .box ba 0, .box bb 0] σ fun _ s => ∃ i, AFin T n i ∧ J i s := by
  obtain ⟨hP, g1, g2⟩ := hT 0 σ h0
  refine zbl zeF.is rfl fun hl _ => zeF.goes ?_
  simp only [zeN, iN, bT, bF, eN]
  refine gq2 (zh g1 g2) ?_
  refine c_tpFind hP ?_
  rcases zmW hR n with ⟨h1, h2⟩ | ⟨i, p, y, h1, h2, h3, h4, h5, h6⟩
  · rw [h1]
    have hf : AFin T n 0 := by rw [AFin, recsQ, h2]; rfl
    refine gq2 (show ((4 : Int) != 0) = true from rfl) ?_
    exact zbR ⟨0, hf, h0⟩
  · rw [h1]
    have hy := hI.tops y h5
    have hr : recsQ T n = p.x.recs := by rw [recsQ, h4, h6.recs]
    have hbq : baseQ T n = p.x.base := by rw [baseQ, h4, h6.base]
    have hb := (hP.tops p (List.mem_of_getElem? h2)).b
    have hlen := zC p.x.recs
    have b1 := hy.recs; have b2 := hy.base; have b3 := hy.next; have b4 := hy.each
    have hnx : y.next = y.base + y.recs.length := rfl
    rw [← h6.base, ← h6.recs] at hnx
    rw [← h6.recs] at b1 b4
    rw [← h6.base] at b2
    refine gq2 (zh hb (zh hlen (show ((0 : Int) != 0) = false from rfl))) ?_
    refine zV p.x.recs.length (fun k vs s => vs = [.d (.int .i64 k)] ∧ J k s) ⟨rfl, h0⟩ ?_
    rintro k vs s hk ⟨rfl, hJ⟩
    by_cases hlt : k < p.x.recs.length
    · have hd : decide ((k : Int) < (p.x.recs.length : Int)) = true := by simp; omega
      have hx : p.x.recs[k]? = some p.x.recs[k] := by simp [hlt]
      obtain ⟨r, hre⟩ : ∃ r, p.x.recs[k] = r := ⟨_, rfl⟩
      rw [hre] at hx
      have hg : (zcp p.x.recs)[k]? = some [.slice (bcs r)] := zdu (f := fun r => [D.slice (bcs r)]) hx
      have hrl := b4 r (List.mem_of_getElem? hx)
      have hb' := ((hT k s hJ).1.tops p (List.mem_of_getElem? h2)).b
      have hw : IntKind.i64.wrap (p.x.base + (k : Int)) = p.x.base + k := zaK (by omega) (by omega)
      refine gq2 (zh hd (zh hg (zh hb' (zh hlen hw)))) ?_
      refine zqj (by omega) ?_
      refine gq2 (zh hb' (wkc k (by omega))) ?_
      refine (hY k _ (k + 1) s ⟨r, by rw [hr]; exact hx, by rw [hbq], rfl⟩ hJ).mono ?_
      rintro v s' ⟨rfl, hJ'⟩
      refine gq2 (wkc k (by omega)) ?_
      exact zcE.next hlt ⟨rfl, hJ'⟩
    · have hd : decide ((k : Int) < (p.x.recs.length : Int)) = false := by simp; omega
      have hko : k = p.x.recs.length := by omega
      refine gq2 (zh hd hlen) ?_
      exact zbR ⟨k, by rw [AFin, hr]; exact hko, hJ⟩
end


theorem ends_take {σ S : List zc} {K : AV → List zc → Prop} {l : List AV} (h : S.take σ.length = σ) (h1 : Low σ.length (dmT (zbo l))) (hl : zeS σ.length σ) (hK : K (dmT (zbo l)) σ) : AW.Ends σ.length K (some l) S := by
  unfold AW.Ends
  rw [h]
  exact ⟨h1, hl, hK⟩


theorem topsB_len {T : zaz} (hI : zef T) (hL : znU T.last) (h8 : T.last.length = 8) : (zdm T).length ≤ 1000000 := by
  have h1 := zon hI.tops
  have h2 := zoC hL
  have h3 := hI.len
  have h4 := zn (n := T.l.length) (by omega)
  simp only [zdm, List.length_append]
  omega
abbrev znW : zfs := ⟨0, 0, 0, 0, 0⟩
def genF (L : List (List UInt8)) : zfs × Int × List (List UInt8) :=
  let r := zdp L []
  let L2 := zfA r.2 (zdm zdg)
  if r.1 = 0 ∨ zhT r.2 (zdm zdg) = 0 then (znW, 6, L2) else (⟨0, 0, 0, r.1, zhT r.2 (zdm zdg)⟩, 0, L2)
end Go.Proofs.YthpnelbciibjeaaGreat
