/- Contracts: the program's topics: names, groups, what was committed, what a client was told last. -/
import Derived.Test.YthpnelbciibjeaaKs1
import Derived.Test.YthpnelbciibjeaaTq8
import Derived.Test.YthpnelbciibjeaaPr4
set_option linter.all false
set_option maxRecDepth 100000
set_option linter.unusedSimpArgs false
set_option linter.unusedVariables false
namespace Go.Proofs.Ythpnelbciibjeaa
open Go.AW

theorem zje {α : Type} {l m : List α} (h1 : l.Nodup) (h2 : m.Nodup) (h : ∀ a, a ∈ l ↔ a ∈ m) : l.Perm m := (List.perm_ext_iff_of_nodup h1 h2).2 h
theorem rel_names {X : List zcH} {T : List zX} (h : Rel X T) : (X.map zcH.name).Perm (T.map zX.name) := by
  refine zje h.nod h.sort.nodup fun a => ?_
  constructor
  · intro ha
    obtain ⟨p, hp, rfl⟩ := List.mem_map.1 ha
    obtain ⟨y, hy, hr⟩ := h.fw p hp
    exact List.mem_map.2 ⟨y, hy, hr.name.symm⟩
  · intro ha
    obtain ⟨y, hy, rfl⟩ := List.mem_map.1 ha
    obtain ⟨p, hp, hr⟩ := h.bw y hy
    exact List.mem_map.2 ⟨p, hp, hr.name⟩
theorem gr_names {G L : List (List UInt8 × Int)} (h : GR G L) : (G.map Prod.fst).Perm (L.map Prod.fst) := by
  refine zje h.nod h.sort.nodup fun a => ?_
  simp only [List.mem_map, h.mem]
def zlg (T : zaq) (n : List UInt8) : Option zX := match atF n T.l 0 with
  | none => none
  | some k => T.l[k]?
def zlM (T : zaq) (n : List UInt8) : List (List UInt8 × Int) := match zlg T n with
  | none => []
  | some x => x.groups
theorem zlt {X : List zcH} {T : zaq} (h : Rel X T.l) (n : List UInt8) : (zfl n X 0 = none ∧ zlg T n = none) ∨ ∃ i p y, zfl n X 0 = some (i, p) ∧ X[i]? = some p ∧ p.x.name = n ∧ zlg T n = some y ∧ y ∈ T.l ∧ TR p.x y := by
  cases hx : zfl n X 0 with
  | none => exact .inl ⟨rfl, by rw [zlg, h.no hx]⟩
  | some q =>
    obtain ⟨i, p⟩ := q
    obtain ⟨h1, h2, k, y, h3, h4, h5⟩ := h.yes hx
    refine .inr ⟨i, p, y, rfl, h1, h2, ?_, List.mem_of_getElem? h4, h5⟩
    rw [zlg, h3]; exact h4
abbrev strsE (l : List (List UInt8)) : List (List D) := l.map fun x => [.str x]
section

variable {σ : List zc} {id m : Nat} {X : List zcH} {T : zaq} {O : Nat → Prop} {K : AV → List zc → Prop}

theorem c_KeysTop {m : Nat} (hK : K (.fn (.func zx) [] [.box σ.length 0]) (σ ++ [.box [.map m]])) : zj Try.prog zL [.map m] σ K := by
  refine zba zam.is rfl fun hl _ => zam.goes ?_
  simp only [zar, iN, bT, bF, eN]
  refine gq1 ?_
  exact zbE hK
theorem c_KeysGrp {m : Nat} (hK : K (.fn (.func zN) [] [.box σ.length 0]) (σ ++ [.box [.map m]])) : zj Try.prog zas [.map m] σ K := by
  refine zba zaS.is rfl fun hl _ => zaS.goes ?_
  simp only [zaU, iN, bT, bF, eN]
  refine gq1 ?_
  exact zbE hK
theorem hf_top : F2 Try.prog zx zgE := zaZ
theorem hf_grp : F2 Try.prog zN zgE := zbZ
theorem c_tpNames (h : zeB σ id T O) (hI : zdQ T) (hK : K (.d (.slice (strsE (T.l.map zX.name)))) σ) : zj Try.prog zct [.box id 0] σ K := by
  obtain ⟨m, X, hP, hR, hO⟩ := h
  refine zhr zhj fun hl => ?_
  have hb := hP.box
  have hlen : X.length ≤ 8 := by rw [hR.len]; exact hI.len
  simp only [zev, iN, bT, bF, eN]
  refine gq1 ?_
  refine zhO hb ?_
  refine gq2 hb ?_
  refine c_KeysTop ?_
  refine gq1 ?_
  refine zkE (names := X.map zcH.name) (L := T.l.map zX.name) hf_top (by simp [znq, zhT]) (by simp; omega) (by rw [zr]; rfl) (zf hP.map) (rel_names hR) hR.sort ?_
  refine gq1 ?_
  refine zbD hl ?_
  exact hK
theorem c_tpGroups {n : List UInt8} (h : zeB σ id T O) (hI : zdQ T) (hK : K (.d (.slice (strsE ((zlM T n).map Prod.fst)))) σ) : zj Try.prog zcj [.box id 0, .d (.str n)] σ K := by
  obtain ⟨m, X, hP, hR, hO⟩ := h
  refine zla zgQ fun hl => ?_
  simp only [zdY, iN, bT, bF, eN]
  refine gq1 ?_
  refine c_tpFind hP ?_
  rcases zlt hR n with ⟨h1, h2⟩ | ⟨i, p, y, h1, h2, h3, h4, h5, h6⟩
  · rw [h1]
    rw [zlM, h2] at hK
    refine gq2 (show ((4 : Int) != 0) = true from rfl) ?_
    refine zbD hl ?_
    exact hK
  · rw [h1]
    rw [zlM, h4] at hK
    have hp := hP.tops p (List.mem_of_getElem? h2)
    have hb := hp.b
    have hlen : p.x.groups.length ≤ 8 := by rw [h6.gr.len]; exact (hI.tops y h5).groups
    refine gq2 hb ?_
    refine c_KeysGrp ?_
    refine gq1 ?_
    refine zkE (names := p.x.groups.map Prod.fst) (L := y.groups.map Prod.fst) hf_grp (by simp [grpM, zhT]) (by simp; omega) (by rw [zr]; rfl) (zf hp.g) (gr_names h6.gr) h6.gr.sort ?_
    refine gq1 ?_
    refine zbD hl ?_
    exact hK
end


theorem zjv {σ : List zc} {b : List UInt8} {n : Nat} (hn : n < 18446744073709551616) (hb : b.length ≤ 1073741824) {K : AV → List zc → Prop} (hK : K (.d (.slice (bcs (b ++ zbB n)))) σ) :
    zj Try.prog zp [.d (.slice (bcs b)), .d (.int .u64 n)] σ K :=
  zj.frz 0 (zcG hn hb ⟨_, rfl, by simp, hK⟩)
theorem zho {σ : List zc} {b : List UInt8} {n : Int} (h0 : 0 ≤ n) (hn : n < 18446744073709551616) (hb : b.length ≤ 1073741824) {K : AV → List zc → Prop} (hK : K (.d (.slice (bcs (b ++ zbB n.toNat)))) σ) :
    zj Try.prog zp [.d (.slice (bcs b)), .d (.int .u64 n)] σ K := by
  have := zjv (σ := σ) (b := b) (n := n.toNat) (by omega) hb (K := K) hK
  rwa [show ((n.toNat : Nat) : Int) = n by omega] at this
theorem ziQ {σ : List zc} {b x : List UInt8} (hx : x.length ≤ 1073741824) (hb : b.length ≤ 1073741800) {K : AV → List zc → Prop} (hK : K (.d (.slice (bcs (b ++ ziU x)))) σ) :
    zj Try.prog zaa [.d (.slice (bcs b)), .d (.slice (bcs x))] σ K :=
  zj.frz 0 (zfa hx hb ⟨_, rfl, by simp, hK⟩)
def recsQ (T : zaq) (n : List UInt8) : List (List UInt8) := match zlg T n with
  | none => []
  | some x => x.recs
def baseQ (T : zaq) (n : List UInt8) : Int := match zlg T n with
  | none => 0
  | some x => x.base
def ANx (T : zaq) (n : List UInt8) (i : Nat) (x : List AV) (i' : Nat) : Prop := ∃ r, (recsQ T n)[i]? = some r ∧ x = [.d (.int .i64 (baseQ T n + i)), .d (.slice (bcs r))] ∧ i' = i + 1
def AFin (T : zaq) (n : List UInt8) (i : Nat) : Prop := i = (recsQ T n).length
section

variable {σ : List zc} {id : Nat} {T : zaq} {O : Nat → Prop} {K : AV → List zc → Prop}

theorem c_tpAll {n : List UInt8} (hK : K (.fn (.func zbx) [] [.box σ.length 0, .box (σ.length + 1) 0]) (σ ++ [.box [.box id 0], .box [.d (.str n)]])) : zj Try.prog zdj [.box id 0, .d (.str n)] σ K := by
  refine zba zfo.is rfl fun hl _ => zfo.goes ?_
  simp only [zfs, iN, bT, bF, eN]
  refine gq1 ?_
  exact zbE hK
theorem c_allRun {l ba bb m : Nat} {X : List zcH} {n : List UInt8} (hI : zdQ T) (hR : Rel X T.l) (J : Nat → List zc → Prop) (happ : ∀ i s τ, J i s → J i (s ++ τ)) (hT : ∀ i s, J i s → zez s id m X T.last ∧ s[ba]? = some (.box [.box id 0]) ∧ s[bb]? = some (.box [.d (.str n)]))
    (hY : ∀ i x i' s, ANx T n i x i' → J i s → zoo Try.prog l x s fun v s' => v = .d (.bool true) ∧ J i' s') (h0 : J 0 σ) :
    zj Try.prog zbx [.fn (.yield l) [] [], .box ba 0, .box bb 0] σ fun _ s => ∃ i, AFin T n i ∧ J i s := by
  obtain ⟨hP, g1, g2⟩ := hT 0 σ h0
  refine zba zer.is rfl fun hl _ => zer.goes ?_
  simp only [zey, iN, bT, bF, eN]
  refine gq2 (zg g1 g2) ?_
  refine c_tpFind hP ?_
  rcases zlt hR n with ⟨h1, h2⟩ | ⟨i, p, y, h1, h2, h3, h4, h5, h6⟩
  · rw [h1]
    have hf : AFin T n 0 := by rw [AFin, recsQ, h2]; rfl
    refine gq2 (show ((4 : Int) != 0) = true from rfl) ?_
    exact zbE ⟨0, hf, h0⟩
  · rw [h1]
    have hy := hI.tops y h5
    have hr : recsQ T n = p.x.recs := by rw [recsQ, h4, h6.recs]
    have hbq : baseQ T n = p.x.base := by rw [baseQ, h4, h6.base]
    have hb := (hP.tops p (List.mem_of_getElem? h2)).b
    have hlen := zD p.x.recs
    have b1 := hy.recs; have b2 := hy.base; have b3 := hy.next; have b4 := hy.each
    have hnx : y.next = y.base + y.recs.length := rfl
    rw [← h6.base, ← h6.recs] at hnx
    rw [← h6.recs] at b1 b4
    rw [← h6.base] at b2
    refine gq2 (zg hb (zg hlen (show ((0 : Int) != 0) = false from rfl))) ?_
    refine zV p.x.recs.length (fun k vs s => vs = [.d (.int .i64 k)] ∧ J k s) ⟨rfl, h0⟩ ?_
    rintro k vs s hk ⟨rfl, hJ⟩
    by_cases hlt : k < p.x.recs.length
    · have hd : decide ((k : Int) < (p.x.recs.length : Int)) = true := by simp; omega
      have hx : p.x.recs[k]? = some p.x.recs[k] := by simp [hlt]
      obtain ⟨r, hre⟩ : ∃ r, p.x.recs[k] = r := ⟨_, rfl⟩
      rw [hre] at hx
      have hg : (zbK p.x.recs)[k]? = some [.slice (bcs r)] := zef (f := fun r => [D.slice (bcs r)]) hx
      have hrl := b4 r (List.mem_of_getElem? hx)
      have hb' := ((hT k s hJ).1.tops p (List.mem_of_getElem? h2)).b
      have hw : IntKind.i64.wrap (p.x.base + (k : Int)) = p.x.base + k := zbJ (by omega) (by omega)
      refine gq2 (zg hd (zg hg (zg hb' (zg hlen hw)))) ?_
      refine zoj (by omega) ?_
      refine gq2 (zg hb' (wkc k (by omega))) ?_
      refine (hY k _ (k + 1) s ⟨r, by rw [hr]; exact hx, by rw [hbq], rfl⟩ hJ).mono ?_
      rintro v s' ⟨rfl, hJ'⟩
      refine gq2 (wkc k (by omega)) ?_
      exact zcd.next hlt ⟨rfl, hJ'⟩
    · have hd : decide ((k : Int) < (p.x.recs.length : Int)) = false := by simp; omega
      have hko : k = p.x.recs.length := by omega
      refine gq2 (zg hd hlen) ?_
      exact zbE ⟨k, by rw [AFin, hr]; exact hko, hJ⟩
end


theorem ends_take {σ S : List zc} {K : AV → List zc → Prop} {l : List AV} (h : S.take σ.length = σ) (h1 : Low σ.length (dmT (zdg l))) (hl : zfx σ.length σ) (hK : K (dmT (zdg l)) σ) : AW.Ends σ.length K (some l) S := by
  unfold AW.Ends
  rw [h]
  exact ⟨h1, hl, hK⟩


theorem topsB_len {T : zaq} (hI : zdQ T) (hL : zmn T.last) (h8 : T.last.length = 8) : (zcQ T).length ≤ 1000000 := by
  have h1 := zmF hI.tops
  have h2 := zmV hL
  have h3 := hI.len
  have h4 := zk (n := T.l.length) (by omega)
  simp only [zcQ, List.length_append]
  omega
abbrev zmp : zfc := ⟨0, 0, 0, 0, 0⟩
def genF (L : List (List UInt8)) : zfc × Int × List (List UInt8) :=
  let r := zdi L []
  let L2 := zfP r.2 (zcQ zcI)
  if r.1 = 0 ∨ ziB r.2 (zcQ zcI) = 0 then (zmp, 6, L2) else (⟨0, 0, 0, r.1, ziB r.2 (zcQ zcI)⟩, 0, L2)
end Go.Proofs.Ythpnelbciibjeaa
