/- Contract: topics that are the same. -/
import Derived.Test.YtaocmalhjfakdaaKs6
import Derived.Test.YtaocmalhjfakdaaSh
import Derived.Shelf.SlMaps.Clone
import Derived.Ground.SlmcProg
import Derived.Test.YtaocmalhjfakdaaAwFun
import Derived.Test.YtaocmalhjfakdaaAwSndR
set_option linter.all false
set_option maxRecDepth 100000
set_option linter.unusedSimpArgs false
set_option linter.unusedVariables false
namespace Go.Proofs.Ytaocmalhjfakdaa
open Go.AW

theorem strsE_len (l : List (List UInt8)) : (zit l).length = l.length := List.length_map ..
theorem c_EqualS {σ : List zb} {l : List (List UInt8)} {K : AV → List zb → Prop} (hl0 : l.length ≤ 1073741824) (hK : K (.d (.bool true)) σ) : zu Try.prog zaN [.d (.slice (zit l)), .d (.slice (zit l))] σ K := by
  refine acE2 zeG fun hl => ?_
  have hll := strsE_len l
  have s1 : ∀ x : Int, (x != x) = false := fun x => by simp
  simp only [zcl, iN, bT, bF, eN]
  refine zV (zd hll s1) ?_
  refine zI l.length (fun k vs s => vs = [.d (.int .i64 k)] ∧ s = σ) ⟨rfl, rfl⟩ ?_
  rintro k vs s hk ⟨rfl, rfl⟩
  by_cases hlt : k < l.length
  · have hd : decide ((k : Int) < (l.length : Int)) = true := by simp; omega
    obtain ⟨x, hx⟩ : ∃ x, l[k]? = some x := ⟨_, List.getElem?_eq_getElem hlt⟩
    have hgx : (zit l)[k]? = some [.str x] := zaP (f := fun x => [D.str x]) hx
    have s2 : (x == x) = true := by simp
    refine zV (zd hd (zd hll (zd hgx (zd s2 (wkc k (by omega)))))) ?_
    exact zca.next hlt ⟨rfl, rfl⟩
  · have hd : decide ((k : Int) < (l.length : Int)) = false := by simp; omega
    refine zV (zd hd hll) ?_
    refine zde hl ?_
    exact hK
structure SmJ (σ : List zb) (A : zb) (tn k : Nat) (S : List zb) : Prop where
  pre : S.take σ.length = σ
  box : S[σ.length]? = some A
  tok : S[tn]? = some (.tok 1 k)
  lt : σ.length < tn
section

variable {σ S : List zb} {A : zb} {tn k : Nat}

theorem SmJ.app (h : SmJ σ A tn k S) (τ : List zb) : SmJ σ A tn k (S ++ τ) := ⟨by rw [List.take_append_of_le_length (by have := zh h.box; omega)]; exact h.pre, ze h.box, ze h.tok, h.lt⟩
theorem SmJ.set (h : SmJ σ A tn k S) {i : Nat} (h1 : σ.length < i) (h2 : i ≠ tn) (Y : zb) : SmJ σ A tn k (S.set i Y) := ⟨by rw [zhY (by omega)]; exact h.pre, (List.getElem?_set_ne (by omega)).trans h.box, (List.getElem?_set_ne h2).trans h.tok, h.lt⟩
theorem SmJ.next (h : SmJ σ A tn k S) : SmJ σ A tn (k + 1) (S.set tn (.tok 1 (k + 1))) := ⟨by rw [zhY (by have := h.lt; omega)]; exact h.pre, (List.getElem?_set_ne (by have := h.lt; omega)).trans h.box, List.getElem?_set_self (zh h.tok), h.lt⟩
theorem SmJ.get (h : SmJ σ A tn k S) {j : Nat} (hj : j < σ.length) : S[j]? = σ[j]? := by
  have := congrArg (·[j]?) h.pre
  simpa [List.getElem?_take, hj] using this
theorem SmJ.top (h : SmJ σ A tn k S) {id : Nat} {T : zP} {O : Nat → Prop} (hT : zdm σ id T O) : zdm S id T O := hT.keep fun j hj => h.get (hT.own_lt hj)
theorem SmJ.tops (h : SmJ σ A tn k S) {id t g : Nat} {T : zP} (hT : zbo σ id t g T) : zbo S id t g T := ⟨(h.get (zh hT.box)).trans hT.box, (h.get (zh hT.row)).trans hT.row, hT.last⟩
end

theorem c_same {σ : List zb} {id id2 t g : Nat} {T : zP} {O : Nat → Prop} {o : TOp} {K : AV → List zb → Prop} (h : zdm σ id T O) (h2 : zbo σ id2 t g T) (hI : zcF T) (hL : LastI T.last) (hK : K (.d (.bool true)) σ) : zu Try.prog zjf [.box id 0, .box id2 0, opA o] σ K := by
  refine acE3 e_l07_same fun hl => ?_
  have hb := h2.box; have hr := h2.row
  have hn := hI.len
  have fl4 : (zaw T.l).flatten.length = T.l.length * 4 := by
    have f4 := zbx T.l
    have hlen : (zM (zaw T.l)).length = T.l.length * 4 := by rw [zcU f4, List.length_map]
    rw [← hlen, zM, List.length_map]
  simp only [zmb, iN, bT, bF, eN, opA]
  have xb : ∀ τ, (σ ++ τ)[id2]? = _ := fun τ => ze hb
  refine zjB xb ?_
  obtain ⟨A, hA⟩ : ∃ A, zb.box [.d (.int .i64 o.kind), .d (.str o.topic), .d (.str o.group), .d (.int .i64 o.offset), .d (.slice (zQ o.recs))] = A := ⟨_, rfl⟩
  rw [hA]
  refine zcr T.l.length (fun k vs S => vs = [.own (σ.length + 1) (zit ((T.l.map zJ.name).take k)), .d (.int .i64 k)] ∧ SmJ σ A (σ.length + 1) k S) (.tok 0 [] 1 rfl (by simp) (.refl _ _)) ⟨by simp, ⟨by simp, by simp, by rw [List.append_assoc, zE]; rfl, by omega⟩⟩ ?_
  rintro k vs S hk ⟨rfl, hJ⟩
  have hbox := hJ.box
  rw [← hA] at hbox
  by_cases hlt : k < T.l.length
  · have hd : decide ((k : Int) < (T.l.length : Int)) = true := by simp; omega
    obtain ⟨x, hx⟩ : ∃ x, T.l[k]? = some x := ⟨_, List.getElem?_eq_getElem hlt⟩
    obtain ⟨c0, c1, c2, c3, c4, c5⟩ := zis hx
    have hX := hI.tops x (List.mem_of_getElem? hx)
    have x4 := hX.groups
    have hgl : (zaC x.groups).length = x.groups.length := List.length_map ..
    have yb := (hJ.tops h2).box; have yr := (hJ.tops h2).row
    have k1 : (zit ((T.l.map zJ.name).take k)).length = k := by simp; omega
    have htk : ∀ τ, (S ++ τ)[σ.length + 1]? = _ := fun τ => ze hJ.tok
    have hz : ∀ a τ, (S ++ a :: τ)[S.length]? = some a := fun a τ => zl ..
    have hset : ∀ Y τ, (S ++ τ).set (σ.length + 1) Y = S.set (σ.length + 1) Y ++ τ := fun Y τ => List.set_append_left _ _ (zh hJ.tok)
    have hz2 : ∀ Y a τ, (S.set (σ.length + 1) Y ++ a :: τ)[S.length]? = some a := fun Y a τ => by rw [List.getElem?_append_right (by simp)]; simp
    refine zjB (zd hd (zd yb (zd yr (zd c4 (zd c5 (zd fl4 (zd k1 (zd htk (zd hz (zd hset hz2)))))))))) ?_
    have hJ1 := hJ.next.app [.box [.d (.str x.name), .d (.int .i64 x.base), .d (.slice (zQ x.recs)), .d (.slice (zaC x.groups))]]
    have gx : (S.set (σ.length + 1) (.tok 1 (k + 1)) ++ [zb.box [.d (.str x.name), .d (.int .i64 x.base), .d (.slice (zQ x.recs)), .d (.slice (zaC x.groups))]])[S.length]? = some (.box [.d (.str x.name), .d (.int .i64 x.base), .d (.slice (zQ x.recs)), .d (.slice (zaC x.groups))]) := hz2 _ _ _
    obtain ⟨S1, hS1⟩ : ∃ S1, S.set (σ.length + 1) (.tok 1 (k + 1)) ++ [zb.box [.d (.str x.name), .d (.int .i64 x.base), .d (.slice (zQ x.recs)), .d (.slice (zaC x.groups))]] = S1 := ⟨_, rfl⟩
    rw [hS1] at hJ1 gx ⊢
    have l1 := zh gx
    have l2 := zh hJ.tok
    refine zcr x.groups.length (fun j vs S' => vs = [.own S1.length (zit ((x.groups.map Prod.fst).take j)), .d (.int .i64 j)] ∧ SmJ σ A (σ.length + 1) (k + 1) S' ∧ S'[S.length]? = some (.box [.d (.str x.name), .d (.int .i64 x.base), .d (.slice (zQ x.recs)), .d (.slice (zaC x.groups))]) ∧ S'[S1.length]? = some (.tok 1 j))
      (.tok 0 [] 1 rfl (by simp) (.refl _ _)) ⟨by simp, hJ1.app _, ze gx, by rw [zl]; rfl⟩ ?_
    rintro j vs S' hj ⟨rfl, hJ2, gx2, gt⟩
    have hbox2 := hJ2.box
    rw [← hA] at hbox2
    have l3 := zh gt
    by_cases hlj : j < x.groups.length
    · have hdj : decide ((j : Int) < (x.groups.length : Int)) = true := by simp; omega
      obtain ⟨a, ha⟩ : ∃ a, x.groups[j]? = some a := ⟨_, List.getElem?_eq_getElem hlj⟩
      have hag := zaP (f := zhK) ha
      have k2 : (zit ((x.groups.map Prod.fst).take j)).length = j := by simp; omega
      have u1 : ∀ τ, (S' ++ τ)[S1.length]? = _ := fun τ => ze gt
      have u2 : ∀ a τ, (S' ++ a :: τ)[S'.length]? = some a := fun a τ => zl ..
      refine zV (zd hdj (zd hgl (zd hag (zd k2 (zd u1 (zd u2 (wkc j (by omega)))))))) ?_
      refine zca.next hlj ⟨?_, (hJ2.app _).set (by omega) (by omega) _, ?_, List.getElem?_set_self (by simp; omega)⟩
      · rw [List.take_add_one, List.getElem?_map, ha]; simp
      · rw [List.getElem?_set_ne (by omega)]; exact ze gx2
    · have hdj : decide ((j : Int) < (x.groups.length : Int)) = false := by simp; omega
      have hjo : (x.groups.map Prod.fst).take j = x.groups.map Prod.fst := List.take_of_length_le (by simp; omega)
      rw [hjo]
      refine zV (zd hdj (zd hgl (zd gx2 hbox2))) ?_
      refine zkV (hJ2.top h) (hJ2.tops h2) hI ?_
      refine zV gx2 ?_
      refine zlR (hJ2.top h) hI ?_
      have hgq : zie T x.name = x.groups := by
        obtain ⟨m, X, hP, hR⟩ := h.prg
        obtain ⟨i, p, y, h1, h2, h3, h4, h5, h6⟩ := (zgD hR x.name).resolve_left fun h => by
          obtain ⟨p, hp, hr⟩ := hR.bw x (List.mem_of_getElem? hx)
          exact zfI h.1 p hp hr.name
        have hyx : y = x := ziu hR.sort h5 (List.mem_of_getElem? hx) (h6.name.symm.trans h3)
        rw [zie, h4, hyx]
      rw [hgq]
      refine zbw ?_
      refine c_EqualS (by simp; omega) ?_
      refine zV (wkc k (by omega)) ?_
      refine zca.next hlt ⟨?_, hJ2⟩
      rw [List.take_add_one, List.getElem?_map, hx]; simp
  · have hd : decide ((k : Int) < (T.l.length : Int)) = false := by simp; omega
    have hko : (T.l.map zJ.name).take k = T.l.map zJ.name := List.take_of_length_le (by simp; omega)
    rw [hko]
    refine zjB (zd hd hbox) ?_
    refine c_tpGet (hJ.top h) hI ?_
    refine zV hbox ?_
    refine c_r7Get (hJ.tops h2) hI ?_
    refine zbw ?_
    refine c_tpNames (hJ.top h) hI ?_
    refine zbw ?_
    refine c_EqualS (by simp; omega) ?_
    refine zV hbox ?_
    refine zkV (hJ.top h) (hJ.tops h2) hI ?_
    refine zbw ?_
    refine c_eq07 ?_
    rw [beq_self_eq_true]
    have s1 : ∀ x : Int, (x == x) = true := fun x => by simp
    refine zV s1 ?_
    refine c_tpBytes (hJ.top h) hI hL ?_
    refine zbw ?_
    refine c_r7Bytes (hJ.tops h2) hI hL ?_
    refine zbw ?_
    refine zeI ?_
    rw [beq_self_eq_true]
    refine zbw ?_
    exact zgN hJ.pre (by simp [zlt, dmT, dm, dm1, zep]) hl hK
open Go.Shelf Go.Proofs
def cloneM_ren : Go.Shelf.Ren := ⟨fun | 5 => 45 | 7 => 75 | n => n, fun | 23 => 98 | 25 => 9 | 3 => 2 | 4 => 4 | 20 => 20 | n => n, fun | n => n⟩
theorem cloneM : Go.Proofs.SlLaysW.n5 Try.prog cloneM_ren := {
  mixed := by kernel_rfl
  f5 := ⟨Try.f45.name, by decide, Try.func45.trans (congrArg some (by kernel_rfl))⟩
  f7 := Try.func75.trans (congrArg some (by kernel_rfl))
  t4 := Try.underlying4
  a4 := Try.isAgg4
  z4 := Try.sizeOf4
  v4 := Try.zeroValue4
  t20 := Try.underlying20
  a20 := Try.isAgg20
  z20 := Try.sizeOf20
  v20 := Try.zeroValue20
  t23 := Try.underlying98
  a23 := Try.isAgg98
  z23 := Try.sizeOf98
  v23 := Try.zeroValue98 }
end Go.Proofs.Ytaocmalhjfakdaa

/- A MAP IS CLONED: the kit's contract of maps.Clone, told in the own logic. -/
set_option linter.unusedSimpArgs false
set_option linter.unusedVariables false
namespace Go.AW

def CloneC (P : Program) (f : FuncId) : Prop := ∀ (b : Nat) (es : Array MapEntry) (clock : Nat) (w : World), w.heap[b]? = some (.map es clock) →
  Calls P f #[.map (some b)] w fun e w' => e = .returned (.map (some w.heap.size)) ∧ w' = w.alloc (.map es clock)
theorem zlq {P : Program} {f : FuncId} (hok : zjI P f = true) (hc : CloneC P f) {σ : List zb} {id : Nat} {es : List (AV × AV)} (hσ : σ[id]? = some (.map es)) {K : AV → List zb → Prop}
    (hK : K (.map σ.length) (σ ++ [.map es])) : zu P f [.map id] σ K := by
  refine ⟨hok, fun L w vs S hv => ?_⟩
  obtain ⟨hv1, hv2⟩ := hv
  obtain ⟨v, rfl⟩ : ∃ v, vs = [v] := by
    match vs, hv1 with
    | [v], _ => exact ⟨v, rfl⟩
  have hv3 := hv2 0 _ _ rfl rfl
  obtain ⟨rfl, _⟩ := hv3.map_inv
  obtain ⟨ms, clock, h1, h2, h3, h4⟩ := map_block' S hσ
  refine (hc _ ms clock w h1).mono ?_
  rintro e w' ⟨rfl, rfl⟩
  have hf : ∀ b c, zbE { a := ⟨w.heap.size, 0, none⟩ } (.map es) b c → b = w.heap.size := fun b c h => h
  have st := zbt L σ (.map ms clock) { a := ⟨w.heap.size, 0, none⟩ } (.map es) hf
  have S' := zce S (.map ms clock) { a := ⟨w.heap.size, 0, none⟩ } (.map es) hf ⟨ms, clock, by
    show (w.heap.push _)[w.heap.size]? = _
    simp, by simpa using h2, fun j e m he hm => (h3 j e m he (by simpa using hm)).mono st, h4⟩
  refine ⟨_, _, .map σ.length, st, S', ?_, hK⟩
  have := RV.map (w := w.alloc (.map ms clock)) (L := zeE L σ.length { a := ⟨w.heap.size, 0, none⟩ }) (σ := σ ++ [.map es]) σ.length ⟨.map es, by simp, by simp [zb.kind]⟩
  rw [zp] at this
  exact this
end Go.AW
