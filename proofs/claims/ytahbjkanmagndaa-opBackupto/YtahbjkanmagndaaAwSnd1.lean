/- What an operation does, against the model: the operations that only compute, and those that read memory. -/
import Derived.Test.YtahbjkanmagndaaAwCode
import Derived.Laws.Cells
import Derived.Laws.Entries
import Derived.Tactics
set_option linter.all false
set_option linter.unusedSimpArgs false
set_option linter.unusedVariables false
namespace Go.AW

theorem litS_sound {w : World} {L : Nat → Loc} {σ : List AObj} {v : Value} {a : AV} (h : litS v = some a) : RV w L σ a v := by
  unfold litS at h
  split at h <;> cases h
  · exact .d _ _ (.int _ _)
  · exact .d _ _ (.bool _)
  · rename_i s
    have e : s = ⟨s.data.toList.toArray⟩ := by cases s; rfl
    rw [e]; exact .d _ _ (.str _)
  · exact .exact [] none (.empty none 0 (fun _ => rfl))
  · exact .d _ _ .nilp
  · exact .d _ _ .nilmap
  · exact .d _ _ .nilfn

theorem mapM_some {α β : Type} {f : α → Option β} : ∀ {l : List α} {r : List β}, l.mapM f = some r → r.length = l.length ∧ ∀ (i : Nat) a b, l[i]? = some a → r[i]? = some b → f a = some b
  | [], r, h => by simp at h; subst h; simp
  | a :: l, r, h => by
    simp only [List.mapM_cons, Option.bind_eq_bind, Option.bind_eq_some_iff, Option.pure_def, Option.some.injEq] at h
    obtain ⟨b, hb, r', hr, rfl⟩ := h
    obtain ⟨h1, h2⟩ := mapM_some hr
    refine ⟨by simp [h1], fun i x y hx hy => ?_⟩
    cases i with
    | zero => simp at hx hy; subst hx hy; exact hb
    | succ i => simp at hx hy; exact h2 i x y hx hy

theorem litA_sound {w : World} {L : Nat → Loc} {σ : List AObj} {v : Value} {a : AV} (h : litA v = some a) : RV w L σ a v := by
  unfold litA at h
  split at h
  · rename_i cs
    simp only [Option.map_eq_some_iff] at h
    obtain ⟨l, hl, rfl⟩ := h
    obtain ⟨h1, h2⟩ := mapM_some hl
    have := RV.agg (w := w) (L := L) (σ := σ) l cs.toList h1.symm (fun i c v hc hv => litS_sound (h2 i v c hv hc))
    simpa using this
  · exact litS_sound h

theorem ev_sound {w : World} {L : Nat → Loc} {σ : List AObj} {fr : Frame} {a : Act} (F : FR w L σ fr a.tmps) {o : Operand} {x : Opd} (h : opd o = some x) : RV w L σ (ev fr x) (a.eval o) := by
  cases o with
  | tmp t =>
    simp [opd] at h; subst h
    simp only [ev, Act.eval]
    exact F.at' t
  | const v =>
    simp only [opd, Option.map_eq_some_iff] at h
    obtain ⟨b, hb, rfl⟩ := h
    exact litA_sound hb
  | global g => simp [opd] at h
  | func f =>
    simp [opd] at h; subst h
    exact .fn _ [] [] [] [] rfl rfl (by simp) (by simp)

theorem evs_sound {w : World} {L : Nat → Loc} {σ : List AObj} {fr : Frame} {a : Act} (F : FR w L σ fr a.tmps) {os : List Operand} {xs : List Opd} (h : os.mapM opd = some xs) :
    RVs w L σ (xs.map (ev fr)) (os.map a.eval) := by
  obtain ⟨h1, h2⟩ := mapM_some h
  refine ⟨by simp [h1], fun i b v hb hv => ?_⟩
  simp only [List.getElem?_map, Option.map_eq_some_iff] at hb hv
  obtain ⟨x, hx, rfl⟩ := hb
  obtain ⟨o, ho, rfl⟩ := hv
  exact ev_sound F (h2 i o x ho hx)

section inv
variable {w : World} {L : Nat → Loc} {σ : List AObj} {v : Value}
theorem RV.int_inv {k : IntKind} {n : Int} (h : RV w L σ (.d (.int k n)) v) : v = .int k n := by cases h with | d _ _ h => cases h; rfl
theorem RV.bool_inv {b : Bool} (h : RV w L σ (.d (.bool b)) v) : v = .bool b := by cases h with | d _ _ h => cases h; rfl
theorem RV.str_inv {s : List UInt8} (h : RV w L σ (.d (.str s)) v) : v = .string ⟨s.toArray⟩ := by cases h with | d _ _ h => cases h; rfl
theorem RV.nilp_inv (h : RV w L σ (.d .nilp) v) : v = .pointer none := by cases h with | d _ _ h => cases h; rfl
theorem RV.box_inv {id off : Nat} (h : RV w L σ (.box id off) v) : v = .pointer (some ⟨(L id).a.block, (L id).a.off + off, none⟩) ∧ Fixed σ id := by cases h with | box _ _ h => exact ⟨rfl, h⟩
theorem RV.agg_inv {cs : List AV} (h : RV w L σ (.agg cs) v) : ∃ vs : List Value, v = .agg vs.toArray ∧ RVs w L σ cs vs := by cases h with | agg _ vs h1 h2 => exact ⟨vs, rfl, h1, h2⟩
theorem RV.tup_inv {cs : List AV} (h : RV w L σ (.tup cs) v) : ∃ vs : List Value, v = .tuple vs.toArray ∧ RVs w L σ cs vs := by cases h with | tup _ vs h1 h2 => exact ⟨vs, rfl, h1, h2⟩
theorem RV.vp_inv {cs : List D} (h : RV w L σ (.vp cs) v) : ∃ b off, v = .pointer (some ⟨b, off, none⟩) ∧ ∀ (j : Nat) d, cs[j]? = some d → ∃ v, w.cell? ⟨b, off + j, none⟩ = some v ∧ ¬ Own L σ b (off + j) ∧ RD w (Own L σ) d v := by cases h with | vp _ b off h => exact ⟨b, off, rfl, h⟩
theorem RV.fn_inv {f : Fn} {first cap : List AV} (h : RV w L σ (.fn f first cap) v) : ∃ fs cs : List Value, v = .func f fs.toArray cs.toArray ∧ RVs w L σ first fs ∧ RVs w L σ cap cs := by cases h with | fn _ _ _ fs cs h1 h2 h3 h4 => exact ⟨fs, cs, rfl, ⟨h1, h3⟩, ⟨h2, h4⟩⟩
theorem RV.map_inv {id : Nat} (h : RV w L σ (.map id) v) : v = .map (some (L id).a.block) ∧ Fixed σ id := by cases h with | map _ h => exact ⟨rfl, h⟩
theorem RV.nilmap_inv (h : RV w L σ (.d .nilmap) v) : v = .map none := by cases h with | d _ _ h => cases h; rfl
theorem RV.iter_inv {id : Nat} (h : RV w L σ (.iter id) v) : v = .pointer (some ⟨(L id).a.block, 0, none⟩) ∧ Fixed σ id := by cases h with | iter _ h => exact ⟨rfl, h⟩
theorem RV.bsl_inv {id off len cap sz : Nat} (h : RV w L σ (.bsl id off len cap sz) v) : v = .slice (some ⟨(L id).a.block, (L id).a.off + off, none⟩) len cap ∧ Fixed σ id ∧ len ≤ cap := by cases h with | bsl _ _ _ _ _ h1 h2 => exact ⟨rfl, h1, h2⟩
theorem RV.nil_tup (h : RV w L σ (.tup []) v) : v = .tuple #[] := by
  obtain ⟨vs, rfl, h1, _⟩ := h.tup_inv
  have : vs = [] := by simpa using h1
  subst this; rfl
theorem RV.esOf_inv {a : AV} {es : List (List D)} (h : RV w L σ a v) (he : esOf a = some es) : RD w (Own L σ) (.slice es) v := by
  unfold esOf at he
  split at he <;> cases he
  · cases h with | d _ _ h => exact h
  · cases h with | own _ _ _ _ _ _ _ _ h _ => exact h
  · cases h with | exact _ _ h => exact h
theorem RV.intV_inv {a : AV} {n : Int} (h : RV w L σ a v) (he : intV a = some n) : ∃ k, v = .int k n := by
  unfold intV at he
  split at he
  · cases he; exact ⟨_, h.int_inv⟩
  · cases he
theorem RD.len {es : List (List D)} {O : Nat → Nat → Prop} (h : RD w O (.slice es) v) : ∃ a cap, v = .slice a es.length cap ∧ es.length ≤ cap ∧ (a = none → cap = 0) := by
  cases h with
  | empty a cap h => exact ⟨a, cap, rfl, Nat.zero_le _, h⟩
  | slice es b off cap sz vs h0 h1 h2 h3 h4 => exact ⟨_, cap, rfl, h1, fun e => by cases e⟩
end inv

section
variable {P : Program} {o : Oper} {i : I} {fr : Frame} {σ : List AObj} {K : AV → List AObj → Prop} {L : Nat → Loc} {w : World} {a : Act}

/-- what is to be shown of an operation that yields a value -/
def Yields1 (P : Program) (o : Oper) (a : Act) (L : Nat → Loc) (σ : List AObj) (w : World) (K : AV → List AObj → Prop) : Prop :=
  ∃ r v L' σ' w', ((execOp a.eval o).run P w = .ok (.value v) w' ∨ ((execOp a.eval o).run P w = .ok .skip w' ∧ v = .tuple #[])) ∧ Step L σ w L' σ' w' ∧ Sim L' σ' w' ∧ RV w' L' σ' r v ∧ K r σ'

theorem Yields1.same {P : Program} {o : Oper} {a : Act} {L : Nat → Loc} {σ : List AObj} {w : World} {K : AV → List AObj → Prop} (S : Sim L σ w) {r : AV} {v : Value}
    (h : (execOp a.eval o).run P w = .ok (.value v) w) (hr : RV w L σ r v) (hk : K r σ) : Yields1 P o a L σ w K :=
  ⟨r, v, L, σ, w, .inl h, Step.refl _ _ _, S, hr, hk⟩

theorem snd_mv (S : Sim L σ w) (F : FR w L σ fr a.tmps) {x : Operand} {y : Opd} (hx : opd x = some y) (ho : o.op = .move x ∨ o.op = .assign x) (h : astep P (.mv y) fr σ K) : Yields1 P o a L σ w K := by
  refine .same S (r := ev fr y) (v := a.eval x) ?_ (ev_sound F hx) h
  rcases ho with ho | ho <;> simp [execOp, ho]

theorem snd_pick (S : Sim L σ w) (F : FR w L σ fr a.tmps) {c x y : Operand} {c' x' y' : Opd} (hc : opd c = some c') (hx : opd x = some x') (hy : opd y = some y') (ho : o.op = .pick c x y)
    (h : astep P (.pick c' x' y') fr σ K) : Yields1 P o a L σ w K := by
  simp only [astep, pickC, boxC] at h
  split at h
  · rename_i t ht
    have hv := ev_sound F hc
    rw [ht] at hv
    have hv := hv.bool_inv
    cases t
    · exact .same S (r := ev fr y') (v := a.eval y) (by simp [execOp, ho, hv, asBool]) (ev_sound F hy) (h.2 rfl)
    · exact .same S (r := ev fr x') (v := a.eval x) (by simp [execOp, ho, hv, asBool]) (ev_sound F hx) (h.1 rfl)
  · exact h.elim

theorem zeros_sound {t : TypeId} {z : List AV} (h : zeros P t = some z) : ∃ i v, P.info? t = some i ∧ i.zero = some v ∧ v.cells.toList.mapM litS = some z := by
  simp only [zeros, Option.bind_eq_bind, Option.bind_eq_some_iff] at h
  obtain ⟨i, hi, v, hv, hz⟩ := h
  exact ⟨i, v, hi, hv, hz⟩

theorem zeros_rv {z : List AV} {v : Value} (h : v.cells.toList.mapM litS = some z) : RVs w L σ z v.cells.toList := by
  obtain ⟨h1, h2⟩ := mapM_some h
  exact ⟨h1.symm, fun i c x hc hx => litS_sound (h2 i x c hx hc)⟩

/-- a new box over known cells -/
theorem new_box (S : Sim L σ w) {cs : List AV} {vs : Array Value} (hv : RVs w L σ cs vs.toList) (t : TypeId) :
    ∃ L', Step L σ w L' (σ ++ [.box cs]) (w.alloc (.cells vs t)) ∧ Sim L' (σ ++ [.box cs]) (w.alloc (.cells vs t)) ∧
      L' σ.length = { a := ⟨w.heap.size, 0, none⟩ } := by
  have hf : ∀ b c, Foot { a := ⟨w.heap.size, 0, none⟩ } (.box cs) b c → b = w.heap.size := fun b c h => h.1
  have s := extend_step L σ (.cells vs t) { a := ⟨w.heap.size, 0, none⟩ } (.box cs) hf
  refine ⟨_, s, extend_sim S (.cells vs t) _ _ hf ⟨rfl, by simp, fun j c hj => ?_⟩, Lput_same _ _ _⟩
  have hl : j < vs.size := by have := lt_of_get hj; have := hv.1; simp at this; omega
  dsimp only
  rw [Nat.zero_add]
  refine ⟨World.frozen?_alloc_at _ _ _ _ rfl, vs[j], ?_, s.rv (hv.2 j c _ hj (by simp [hl]))⟩
  rw [World.cell?_alloc_new]; simp [hl]

theorem snd_alloc (S : Sim L σ w) {t : TypeId} {z : List AV} (hz : zeros P t = some z) (ho : o.op = .alloc t) (h : astep P (.alloc z) fr σ K) : Yields1 P o a L σ w K := by
  obtain ⟨i, v, hi, hv, hm⟩ := zeros_sound hz
  obtain ⟨L', s, S', e⟩ := new_box S (zeros_rv hm (w := w) (L := L) (σ := σ)) t
  refine ⟨.box σ.length 0, .pointer (some ⟨w.heap.size, 0, none⟩), L', _, _, .inl ?_, s, S', ?_, h⟩
  · simp [execOp, ho, Instr.alloc, zeroValue, typeInfo, hi, hv, newVar, newRow, newObj, program, Sem.run]
  · have := RV.box (w := w.alloc (.cells v.cells t)) (L := L') (σ := σ ++ [.box z]) σ.length 0 ⟨.box z, by simp, by simp [AObj.kind]⟩
    rw [e] at this
    simpa using this

theorem RV.cells {x : AV} {v : Value} (h : RV w L σ x v) {cs : List AV} (hc : cellsA x = some cs) : RVs w L σ cs v.cells.toList := by
  cases h with
  | agg cs' vs h1 h2 => simp [cellsA] at hc; subst hc; exact ⟨by simpa [Value.cells] using h1, by simpa [Value.cells] using h2⟩
  | tup => simp [cellsA] at hc
  | undef => simp [cellsA] at hc
  | d x v h =>
    simp [cellsA] at hc; subst hc
    have e : v.cells = #[v] := by cases h <;> rfl
    rw [e]
    exact ⟨rfl, fun i c u hc hu => by cases i <;> simp at hc hu; subst hc hu; exact .d _ _ h⟩
  | own t es v sz n h1 h2 h3 h4 h5 =>
    simp [cellsA] at hc; subst hc
    have e : v.cells = #[v] := by cases h4 <;> rfl
    rw [e]
    exact ⟨rfl, fun i c u hc hu => by cases i <;> simp at hc hu; subst hc hu; exact .own t es v sz n h1 h2 h3 h4 h5⟩
  | exact es b h => simp [cellsA] at hc; subst hc; exact ⟨rfl, fun i c u hc hu => by cases i <;> simp [Value.cells] at hc hu; subst hc hu; exact .exact es b h⟩
  | bsl id off len cap sz h1 h2 => simp [cellsA] at hc; subst hc; exact ⟨rfl, fun i c u hc hu => by cases i <;> simp [Value.cells] at hc hu; subst hc hu; exact .bsl id off len cap sz h1 h2⟩
  | box id off h => simp [cellsA] at hc; subst hc; exact ⟨rfl, fun i c u hc hu => by cases i <;> simp [Value.cells] at hc hu; subst hc hu; exact .box id off h⟩
  | vp cs' b off h => simp [cellsA] at hc; subst hc; exact ⟨rfl, fun i c u hc hu => by cases i <;> simp [Value.cells] at hc hu; subst hc hu; exact .vp cs' b off h⟩
  | map id h => simp [cellsA] at hc; subst hc; exact ⟨rfl, fun i c u hc hu => by cases i <;> simp [Value.cells] at hc hu; subst hc hu; exact .map id h⟩
  | iter id h => simp [cellsA] at hc; subst hc; exact ⟨rfl, fun i c u hc hu => by cases i <;> simp [Value.cells] at hc hu; subst hc hu; exact .iter id h⟩
  | fn f first cap fs gs h1 h2 h3 h4 => simp [cellsA] at hc; subst hc; exact ⟨rfl, fun i c u hc hu => by cases i <;> simp [Value.cells] at hc hu; subst hc hu; exact .fn f first cap fs gs h1 h2 h3 h4⟩

theorem snd_box (S : Sim L σ w) (F : FR w L σ fr a.tmps) {t : TypeId} {x : Operand} {y : Opd} (hx : opd x = some y) (ho : o.op = .box t x) (h : astep P (.boxi y) fr σ K) : Yields1 P o a L σ w K := by
  simp only [astep, pickC, boxC] at h
  split at h
  · rename_i cs hcs
    obtain ⟨L', s, S', e⟩ := new_box S ((ev_sound F hx).cells hcs) t
    refine ⟨.box σ.length 0, .pointer (some ⟨w.heap.size, 0, none⟩), L', _, _, .inl ?_, s, S', ?_, h⟩
    · simp [execOp, ho, Instr.box, newVar, newRow, newObj, Sem.run]
    · have := RV.box (w := w.alloc (.cells (a.eval x).cells t)) (L := L') (σ := σ ++ [.box cs]) σ.length 0 ⟨.box cs, by simp, by simp [AObj.kind]⟩
      rw [e] at this
      simpa using this
  · exact h.elim
end
end Go.AW
