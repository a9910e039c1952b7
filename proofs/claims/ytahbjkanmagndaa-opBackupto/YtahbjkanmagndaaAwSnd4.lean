/- What an operation does, against the model: conversions, slices, indexes, parts, literals. -/
import Derived.Test.YtahbjkanmagndaaAwSnd3
import Derived.Laws.BytesArg
set_option linter.all false
set_option linter.unusedSimpArgs false
set_option linter.unusedVariables false
namespace Go.AW
section
variable {P : Program} {o : Oper} {i : I} {fr : Frame} {σ : List AObj} {K : AV → List AObj → Prop} {L : Nat → Loc} {w : World} {a : Act}

theorem alloc_quiet (S : Sim L σ w) (o : Obj) : Step L σ w L σ (w.alloc o) ∧ Sim L σ (w.alloc o) := by
  have s : Step L σ w L σ (w.alloc o) := ⟨rfl, rfl, rfl, by simp, fun b hb _ => RowKit.Below.heap_alloc w o b hb, fun b c hb _ => World.cell?_alloc_lt w o _ hb, fun _ _ _ h => h, Nat.le_refl _, fun _ _ h => .refl h⟩
  exact ⟨s, ⟨fun id x hx => (S.obj id x hx).keep s (fun b c hf => ⟨World.cell?_alloc_lt w o _ (hf.lt (S.obj id x hx)), frozen?_alloc_lt w o _ (hf.lt (S.obj id x hx))⟩) (fun b hb => RowKit.Below.heap_alloc w o b ((hb 0).lt (S.obj id x hx))), S.apart⟩⟩

theorem cell?_alloc_any (w : World) (c : Array Value) (t : TypeId) (f : Nat × Nat) (i : Nat) : (w.alloc (.cells c t f)).cell? ⟨w.heap.size, i, none⟩ = c[i]? := by
  show (match (w.heap.push (.cells c t f))[w.heap.size]? with | some (.cells c _ _) => if (none : Option Nat).isSome then none else c[i]? | _ => none) = _
  simp

/-- a slice over a block that nobody owns -/
theorem RD.of_block {O : Nat → Nat → Prop} {es : List (List D)} {b cap sz : Nat} {off : Nat} (hcap : es.length ≤ cap) (hsz : ∀ e ∈ es, e.length = sz)
    (h : ∀ (i : Nat) e (j : Nat) d, es[i]? = some e → e[j]? = some d → ∃ v, w.cell? ⟨b, off + (i * sz + j), none⟩ = some v ∧ ¬ O b (off + (i * sz + j)) ∧ RD w O d v) : RD w O (.slice es) (.slice (some ⟨b, off, none⟩) es.length cap) := by
  by_cases he : es = []
  · subst he; exact .empty _ _ (fun e => by cases e)
  · refine .slice es b off cap sz (fun k => (w.cell? ⟨b, off + k, none⟩).getD undef) he hcap hsz (fun i e j d hi hj => ?_) (fun i e j d hi hj => ?_)
    · obtain ⟨v, h1, h2, _⟩ := h i e j d hi hj
      exact ⟨by rw [h1]; rfl, h2⟩
    · obtain ⟨v, h1, _, h3⟩ := h i e j d hi hj
      rw [h1]; exact h3

theorem snd_conv (S : Sim L σ w) (F : FR w L σ fr a.tmps) {src dst : TypeId} {x : Operand} {i : I} (ho : o.op = .convert src dst x) (hc : compI P o = some i) (h : astep P i fr σ K) : Yields1 P o a L σ w K := by
  unfold compI at hc
  rw [ho] at hc
  simp only at hc
  split at hc
  · rename_i k0 k hsrc hdst
    simp only [Option.bind_eq_bind, Option.bind_eq_some_iff, Option.pure_def, Option.some.injEq] at hc
    obtain ⟨y, hx, rfl⟩ := hc
    simp only [astep, convC] at h
    have hv := ev_sound F hx
    split at h
    · rename_i k1 n hid
      rw [hid] at hv
      have hv := hv.int_inv
      exact .same S (r := .d (.int k (k.wrap n))) (v := .int k (k.wrap n)) (by simp [execOp, ho, hv, convert, run_underlying hsrc, run_underlying hdst, Conv.intToInt]) (.d _ _ (.int _ _)) h
    · exact h.elim
  · rename_i e hsrc hdst
    split at hc
    · rename_i he
      simp only [Option.bind_eq_bind, Option.bind_eq_some_iff, Option.pure_def, Option.some.injEq] at hc
      obtain ⟨y, hx, rfl⟩ := hc
      simp only [astep, convC] at h
      have hv := ev_sound F hx
      split at h
      · rename_i s hid
        rw [hid] at hv
        have hv := hv.str_inv
        have hrun := run_bytes_of_string (P := P) w src dst e ⟨s.toArray⟩ hsrc hdst he
        obtain ⟨S1, s1⟩ := S.drew (w.drawn + 1)
        obtain ⟨s2, S2⟩ := alloc_quiet S1 (.cells (bytesRow ⟨s.toArray⟩ (grownCap w (ByteArray.mk s.toArray).size 0 e)) e ((bytesRow ⟨s.toArray⟩ (grownCap w (ByteArray.mk s.toArray).size 0 e)).size, (bytesRow ⟨s.toArray⟩ (grownCap w (ByteArray.mk s.toArray).size 0 e)).size + 1))
        refine ⟨.d (.slice (s.map byteCell)), _, L, σ, _, .inl (by simp [execOp, ho, hv, hrun]; rfl), s1.trans s2, S2, .d _ _ ?_, h⟩
        have hl : (ByteArray.mk s.toArray).size = (s.map byteCell).length := by simp [ByteArray.size]
        rw [hl]
        refine RD.of_block (sz := 1) ?_ (by intro e he; simp at he; obtain ⟨b, _, rfl⟩ := he; rfl) (fun i e' j d hi hj => ?_)
        · unfold grownCap; simp [Question.cut]
        · simp only [List.getElem?_map, Option.map_eq_some_iff] at hi
          obtain ⟨b, hb, rfl⟩ := hi
          have hj0 : j = 0 := by have := lt_of_get hj; simp [byteCell] at this; exact this
          subst hj0
          simp [byteCell] at hj
          subst hj
          refine ⟨.int .u8 b.toNat, ?_, ?_, .int _ _⟩
          · have := cell?_alloc_any { w with drawn := w.drawn + 1 } (bytesRow ⟨s.toArray⟩ (grownCap w (s.map byteCell).length 0 e)) e ((bytesRow ⟨s.toArray⟩ (grownCap w (s.map byteCell).length 0 e)).size, (bytesRow ⟨s.toArray⟩ (grownCap w (s.map byteCell).length 0 e)).size + 1) i
            simp only [Nat.zero_add, Nat.mul_one, Nat.add_zero]
            refine this.trans ?_
            have hil := lt_of_get hb
            have hb' : s[i] = b := by rw [List.getElem?_eq_getElem hil] at hb; exact Option.some.inj hb
            simp [bytesRow, Array.getElem?_append, hil, hb']
          · intro hown
            have := S.own_lt hown
            exact Nat.lt_irrefl _ this
      · exact h.elim
    · cases hc
  · rename_i e hsrc hdst
    split at hc
    · rename_i he
      simp only [Option.bind_eq_bind, Option.bind_eq_some_iff, Option.pure_def, Option.some.injEq] at hc
      obtain ⟨y, hx, rfl⟩ := hc
      simp only [astep, convC] at h
      have hv := ev_sound F hx
      split at h
      · rename_i es hes
        split at h
        · rename_i s hs
          have hrd := hv.esOf_inv hes
          refine .same S (r := .d (.str s)) (v := .string ⟨s.toArray⟩) ?_ (.d _ _ (.str _)) h
          have hby : ∀ (es : List (List D)) (s : List UInt8), bytesOf es = some s → es.length = s.length ∧ ∀ (i : Nat) b, s[i]? = some b → ∃ n : Int, es[i]? = some [D.int .u8 n] ∧ b = UInt8.ofNat n.toNat := by
            intro es
            induction es with
            | nil => intro s h; simp [bytesOf] at h; subst h; simp
            | cons e es ih =>
              intro s h
              unfold bytesOf at h
              split at h
              · rename_i heq; cases heq
              · rename_i n r heq
                cases heq
                simp only [Option.map_eq_some_iff] at h
                obtain ⟨s', h1, rfl⟩ := h
                obtain ⟨h2, h3⟩ := ih s' h1
                refine ⟨by simp [h2], fun i b hb => ?_⟩
                cases i with
                | zero => simp at hb; subst hb; exact ⟨n, rfl, rfl⟩
                | succ i => simp at hb; exact h3 i b hb
              · cases h
          obtain ⟨hl, hall⟩ := hby es s hs
          generalize hX : a.eval x = X at hrd
          cases hrd with
          | empty b cap hb =>
            have : s = [] := by simpa using hl.symm
            subst this
            cases b with
            | none => simp only [execOp, ho]; rw [hX]; simp [run_convert_bytes_nil w src e hsrc he 0 cap dst hdst]; rfl
            | some b =>
              simp only [execOp, ho]; rw [hX]
              have := run_convert_bytes_back (P := P) w src dst e b cap [] hsrc he hdst (by simp)
              rw [List.length_nil] at this
              simp [this]
          | slice es b off cap sz vs h0 h1 h2 h3 h4 =>
            simp only [execOp, ho]; rw [hX]
            have := run_convert_bytes_arg (P := P) w src e hsrc he b off es.length cap (es.map fun e => match e with | [.int _ n] => n | _ => 0) (by simp) (fun i hi => by
              have hsl : i < s.length := by omega
              obtain ⟨n, hn, _⟩ := hall i s[i] (by simp [hsl])
              have hsz : sz = 1 := by
                have := h2 [.int .u8 n] (List.mem_of_getElem? hn)
                simpa using this.symm
              subst hsz
              have hc := (h3 i _ 0 (.int .u8 n) hn rfl).1
              have hr := h4 i _ 0 (.int .u8 n) hn rfl
              simp only [Nat.mul_one, Nat.add_zero] at hc hr
              rw [hc]
              have hq := RV.int_inv (L := L) (σ := σ) (.d _ _ hr)
              rw [hq]
              simp [List.getD, hn]) dst hdst
            simp [this]
            congr 2
            unfold strOfNums
            congr 1
            apply congrArg List.toArray
            apply List.ext_getElem?
            intro i
            by_cases hi : i < s.length
            · obtain ⟨n, hn, hb⟩ := hall i s[i] (by simp [hi])
              simp [hn, hi, hb]
            · simp [List.getElem?_eq_none (show s.length ≤ i by omega), List.getElem?_eq_none (show es.length ≤ i by omega)]
        · exact h.elim
      · exact h.elim
    · cases hc
  · rename_i hsrc hdst
    simp only [Option.bind_eq_bind, Option.bind_eq_some_iff, Option.pure_def, Option.some.injEq] at hc
    obtain ⟨y, hx, rfl⟩ := hc
    simp only [astep, convC] at h
    have hv := ev_sound F hx
    split at h
    · rename_i s hid
      rw [hid] at hv
      have hv := hv.str_inv
      exact .same S (r := .d (.str s)) (v := .string ⟨s.toArray⟩) (by simp [execOp, ho, hv, convert, run_underlying hsrc, run_underlying hdst]) (.d _ _ (.str _)) h
    · exact h.elim
  · cases hc

end
end Go.AW
