/- Contract: topics that are the same. -/
import Derived.Test.YtaocmalhjfakdaaGreatKs6
set_option linter.all false
set_option maxRecDepth 100000
set_option linter.unusedSimpArgs false
set_option linter.unusedVariables false
namespace Go.Proofs.YtaocmalhjfakdaaGreat
open Go.AW

theorem strsE_len (l : List (List UInt8)) : (zkq l).length = l.length := List.length_map ..
theorem c_EqualS {σ : List zc} {l : List (List UInt8)} {K : KT} (hl0 : l.length ≤ 1073741824) (hK : K (.d (.bool true)) σ) : zn Tryz.prog zbc [.d (.slice (zkq l)), .d (.slice (zkq l))] σ K := by
  refine znT zfR fun hl => ?_
  have hll := strsE_len l
  have s1 : ∀ x : Int, (x != x) = false := fun x => by simp
  simp only [zdi, iN, bT, bF, eN]
  refine zt (zb hll s1) ?_
  refine zF l.length (fun k vs s => vs = [.d (.int .i64 k)] ∧ s = σ) ⟨rfl, rfl⟩ ?_
  rintro k vs s hk ⟨rfl, rfl⟩
  by_cases hlt : k < l.length
  · have hd : decide ((k : Int) < (l.length : Int)) = true := by simp; omega
    obtain ⟨x, hx⟩ : ∃ x, l[k]? = some x := ⟨_, List.getElem?_eq_getElem hlt⟩
    have hgx : (zkq l)[k]? = some [.str x] := zbo (f := fun x => [D.str x]) hx
    have s2 : (x == x) = true := by simp
    refine zt (zb hd (zb hll (zb hgx (zb s2 (wkc k (by omega)))))) ?_
    exact zbC.next hlt ⟨rfl, rfl⟩
  · have hd : decide ((k : Int) < (l.length : Int)) = false := by simp; omega
    refine zt (zb hd hll) ?_
    refine zdv hl ?_
    exact hK
structure SmJ (σ : List zc) (A : zc) (tn k : Nat) (S : List zc) : Prop where
  pre : S.take σ.length = σ
  box : S[σ.length]? = some A
  tok : S[tn]? = some (.tok 1 k)
  lt : σ.length < tn
section

variable {σ S : List zc} {A : zc} {tn k : Nat}

theorem SmJ.app (h : SmJ σ A tn k S) (τ : List zc) : SmJ σ A tn k (S ++ τ) := ⟨by rw [List.take_append_of_le_length (by have := zg h.box; omega)]; exact h.pre, zf h.box, zf h.tok, h.lt⟩
theorem SmJ.set (h : SmJ σ A tn k S) {i : Nat} (h1 : σ.length < i) (h2 : i ≠ tn) (Y : zc) : SmJ σ A tn k (S.set i Y) := ⟨by rw [zjH (by omega)]; exact h.pre, (List.getElem?_set_ne (by omega)).trans h.box, (List.getElem?_set_ne h2).trans h.tok, h.lt⟩
theorem SmJ.next (h : SmJ σ A tn k S) : SmJ σ A tn (k + 1) (S.set tn (.tok 1 (k + 1))) := ⟨by rw [zjH (by have := h.lt; omega)]; exact h.pre, (List.getElem?_set_ne (by have := h.lt; omega)).trans h.box, List.getElem?_set_self (zg h.tok), h.lt⟩
theorem SmJ.get (h : SmJ σ A tn k S) {j : Nat} (hj : j < σ.length) : S[j]? = σ[j]? := by
  have := congrArg (·[j]?) h.pre
  simpa [List.getElem?_take, hj] using this
theorem SmJ.top (h : SmJ σ A tn k S) {id : Nat} {T : zak} {O : Nat → Prop} (hT : zfj σ id T O) : zfj S id T O := hT.keep fun j hj => h.get (hT.own_lt hj)
theorem SmJ.tops (h : SmJ σ A tn k S) {id t g : Nat} {T : zak} (hT : zbT σ id t g T) : zbT S id t g T := ⟨(h.get (zg hT.box)).trans hT.box, (h.get (zg hT.row)).trans hT.row, hT.last⟩
end

theorem c_same {σ : List zc} {id id2 t g : Nat} {T : zak} {O : Nat → Prop} {o : TOp} {K : KT} (h : zfj σ id T O) (h2 : zbT σ id2 t g T) (hI : zed T) (hL : LastI T.last) (hK : K (.d (.bool true)) σ) : zn Tryz.prog zls [.box id 0, .box id2 0, opA o] σ K := by
  refine acE3 e_l07_same fun hl => ?_
  have hb := h2.box; have hr := h2.row
  have hn := hI.len
  have fl4 : (zaE T.l).flatten.length = T.l.length * 4 := by
    have f4 := zbL T.l
    have hlen : (zT (zaE T.l)).length = T.l.length * 4 := by rw [zdp f4, List.length_map]
    rw [← hlen, zT, List.length_map]
  simp only [zoI, iN, bT, bF, eN, opA]
  have xb : ∀ τ, (σ ++ τ)[id2]? = _ := fun τ => zf hb
  refine zmq xb ?_
  obtain ⟨A, hA⟩ : ∃ A, zc.box [.d (.int .i64 o.kind), .d (.str o.topic), .d (.str o.group), .d (.int .i64 o.offset), .d (.slice (zK o.recs))] = A := ⟨_, rfl⟩
  rw [hA]
  refine zcc T.l.length (fun k vs S => vs = [.own (σ.length + 1) (zkq ((T.l.map zu.name).take k)), .d (.int .i64 k)] ∧ SmJ σ A (σ.length + 1) k S) (.tok 0 [] 1 rfl (by simp) (.refl _ _)) ⟨by simp, ⟨by simp, by simp, by rw [List.append_assoc, zE]; rfl, by omega⟩⟩ ?_
  rintro k vs S hk ⟨rfl, hJ⟩
  have hbox := hJ.box
  rw [← hA] at hbox
  by_cases hlt : k < T.l.length
  · have hd : decide ((k : Int) < (T.l.length : Int)) = true := by simp; omega
    obtain ⟨x, hx⟩ : ∃ x, T.l[k]? = some x := ⟨_, List.getElem?_eq_getElem hlt⟩
    obtain ⟨c0, c1, c2, c3, c4, c5⟩ := zko hx
    have hX := hI.tops x (List.mem_of_getElem? hx)
    have x4 := hX.groups
    have hgl : (zW x.groups).length = x.groups.length := List.length_map ..
    have yb := (hJ.tops h2).box; have yr := (hJ.tops h2).row
    have k1 : (zkq ((T.l.map zu.name).take k)).length = k := by simp; omega
    have htk : ∀ τ, (S ++ τ)[σ.length + 1]? = _ := fun τ => zf hJ.tok
    have hz : ∀ a τ, (S ++ a :: τ)[S.length]? = some a := fun a τ => zj ..
    have hset : ∀ Y τ, (S ++ τ).set (σ.length + 1) Y = S.set (σ.length + 1) Y ++ τ := fun Y τ => List.set_append_left _ _ (zg hJ.tok)
    have hz2 : ∀ Y a τ, (S.set (σ.length + 1) Y ++ a :: τ)[S.length]? = some a := fun Y a τ => by rw [List.getElem?_append_right (by simp)]; simp
    refine zmq (zb hd (zb yb (zb yr (zb c4 (zb c5 (zb fl4 (zb k1 (zb htk (zb hz (zb hset hz2)))))))))) ?_
    have hJ1 := hJ.next.app [.box [.d (.str x.name), .d (.int .i64 x.base), .d (.slice (zK x.recs)), .d (.slice (zW x.groups))]]
    have gx : (S.set (σ.length + 1) (.tok 1 (k + 1)) ++ [zc.box [.d (.str x.name), .d (.int .i64 x.base), .d (.slice (zK x.recs)), .d (.slice (zW x.groups))]])[S.length]? = some (.box [.d (.str x.name), .d (.int .i64 x.base), .d (.slice (zK x.recs)), .d (.slice (zW x.groups))]) := hz2 _ _ _
    obtain ⟨S1, hS1⟩ : ∃ S1, S.set (σ.length + 1) (.tok 1 (k + 1)) ++ [zc.box [.d (.str x.name), .d (.int .i64 x.base), .d (.slice (zK x.recs)), .d (.slice (zW x.groups))]] = S1 := ⟨_, rfl⟩
    rw [hS1] at hJ1 gx ⊢
    have l1 := zg gx
    have l2 := zg hJ.tok
    refine zcc x.groups.length (fun j vs S' => vs = [.own S1.length (zkq ((x.groups.map Prod.fst).take j)), .d (.int .i64 j)] ∧ SmJ σ A (σ.length + 1) (k + 1) S' ∧ S'[S.length]? = some (.box [.d (.str x.name), .d (.int .i64 x.base), .d (.slice (zK x.recs)), .d (.slice (zW x.groups))]) ∧ S'[S1.length]? = some (.tok 1 j))
      (.tok 0 [] 1 rfl (by simp) (.refl _ _)) ⟨by simp, hJ1.app _, zf gx, by rw [zj]; rfl⟩ ?_
    rintro j vs S' hj ⟨rfl, hJ2, gx2, gt⟩
    have hbox2 := hJ2.box
    rw [← hA] at hbox2
    have l3 := zg gt
    by_cases hlj : j < x.groups.length
    · have hdj : decide ((j : Int) < (x.groups.length : Int)) = true := by simp; omega
      obtain ⟨a, ha⟩ : ∃ a, x.groups[j]? = some a := ⟨_, List.getElem?_eq_getElem hlj⟩
      have hag := zbo (f := zjy) ha
      have k2 : (zkq ((x.groups.map Prod.fst).take j)).length = j := by simp; omega
      have u1 : ∀ τ, (S' ++ τ)[S1.length]? = _ := fun τ => zf gt
      have u2 : ∀ a τ, (S' ++ a :: τ)[S'.length]? = some a := fun a τ => zj ..
      refine zt (zb hdj (zb hgl (zb hag (zb k2 (zb u1 (zb u2 (wkc j (by omega)))))))) ?_
      refine zbC.next hlj ⟨?_, (hJ2.app _).set (by omega) (by omega) _, ?_, List.getElem?_set_self (by simp; omega)⟩
      · rw [List.take_add_one, List.getElem?_map, ha]; simp
      · rw [List.getElem?_set_ne (by omega)]; exact zf gx2
    · have hdj : decide ((j : Int) < (x.groups.length : Int)) = false := by simp; omega
      have hjo : (x.groups.map Prod.fst).take j = x.groups.map Prod.fst := List.take_of_length_le (by simp; omega)
      rw [hjo]
      refine zt (zb hdj (zb hgl (zb gx2 hbox2))) ?_
      refine znz (hJ2.top h) (hJ2.tops h2) hI ?_
      refine zt gx2 ?_
      refine zox (hJ2.top h) hI ?_
      have hgq : zjV T x.name = x.groups := by
        obtain ⟨m, X, hP, hR⟩ := h.prg
        obtain ⟨i, p, y, h1, h2, h3, h4, h5, h6⟩ := (zil hR x.name).resolve_left fun h => by
          obtain ⟨p, hp, hr⟩ := hR.bw x (List.mem_of_getElem? hx)
          exact zhd h.1 p hp hr.name
        have hyx : y = x := zks hR.sort h5 (List.mem_of_getElem? hx) (h6.name.symm.trans h3)
        rw [zjV, h4, hyx]
      rw [hgq]
      refine zby ?_
      refine c_EqualS (by simp; omega) ?_
      refine zt (wkc k (by omega)) ?_
      refine zbC.next hlt ⟨?_, hJ2⟩
      rw [List.take_add_one, List.getElem?_map, hx]; simp
  · have hd : decide ((k : Int) < (T.l.length : Int)) = false := by simp; omega
    have hko : (T.l.map zu.name).take k = T.l.map zu.name := List.take_of_length_le (by simp; omega)
    rw [hko]
    refine zmq (zb hd hbox) ?_
    refine c_tpGet (hJ.top h) hI ?_
    refine zt hbox ?_
    refine c_r7Get (hJ.tops h2) hI ?_
    refine zby ?_
    refine c_tpNames (hJ.top h) hI ?_
    refine zby ?_
    refine c_EqualS (by simp; omega) ?_
    refine zt hbox ?_
    refine znz (hJ.top h) (hJ.tops h2) hI ?_
    refine zby ?_
    refine c_eq07 ?_
    rw [beq_self_eq_true]
    have s1 : ∀ x : Int, (x == x) = true := fun x => by simp
    refine zt s1 ?_
    refine c_tpBytes (hJ.top h) hI hL ?_
    refine zby ?_
    refine c_r7Bytes (hJ.tops h2) hI hL ?_
    refine zby ?_
    refine zew ?_
    rw [beq_self_eq_true]
    refine zby ?_
    exact ziC hJ.pre (by simp [zeB, dmT, dm, dm1, zcJ]) hl hK
end Go.Proofs.YtaocmalhjfakdaaGreat
