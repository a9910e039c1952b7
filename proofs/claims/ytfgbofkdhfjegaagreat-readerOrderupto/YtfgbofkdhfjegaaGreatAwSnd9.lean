/- What an operation does, against the model: maps; is a slice nil. -/
import Derived.Test.YtfgbofkdhfjegaaGreatAwSnd5
import Derived.MapKept
import Derived.WideKeyRuns
import Derived.WalkSpells
import Derived.Orders
import Derived.Deep.LoopGhost
import Derived.Test.YtfgbofkdhfjegaaGreatAwBase
set_option linter.all false
namespace Go.AW
open Go.MapKept
section
variable {P : Program} {o : Oper} {i : I} {fr : zam} {σ : List zh} {K : KT} {L : Nat → Loc} {w : World} {a : Act}
theorem zuD {r : Nat} {es : Array MapEntry} {clock : Nat} (hb : w.heap[r]? = some (.map es clock)) : (getObj r).run P w = .ok (.map es clock) w := by
 simp [getObj,Sem.run,hb]
theorem setmap {r : Nat} {es : Array MapEntry} {clock : Nat} (o : Obj) (hb : w.heap[r]? = some (.map es clock)) : (setObj r o).run P w = .ok () { w with heap := w.heap.setIfInBounds r o } := by
 simp [setObj,Sem.run,hb]
theorem zsr {t : TypeId} {kk : KK} (h : kkOf P t = some kk) :
  (kk = .int ∧ ∃ k,P.underlying t = some (.int k)) ∨ (kk = .str ∧ P.underlying t = some .string) ∨ (∃ n,kk = .ints n ∧ zrl P t = some n) := by
 unfold kkOf at h
 split at h
 ·rename_i k hk; cases h; exact .inl ⟨rfl,k,hk⟩
 ·rename_i hk; cases h; exact .inr (.inl ⟨rfl,hk⟩)
 ·rename_i fs hk
  simp only [Option.map_eq_some_iff] at h
  obtain ⟨n,hn,rfl⟩ := h
  exact .inr (.inr ⟨n,rfl,hn⟩)
 ·cases h
theorem znl (em : Bool) (d : Nat) {fields : List Field} {us : List Value} : ∀ (l : List Field) (s : Nat) (xs : List AV), (∀ (k : Nat) f, l[k]? = some f → f.name ≠ "_" ∧ f.offset = s + k ∧ ∃ q, P.underlying f.type = some (.int q)) →
  xs.length = l.length → RVs w L σ xs (us.drop s) → (zdU xs xs).isSome = true →
  (forIn l PUnit.unit fun f _ => (do
    if f.name ≠ "_" then Instr.checkKey em (d + 1) f.type (← part f.type us.toArray f.offset)
    pure (ForInStep.yield PUnit.unit) : Sem (ForInStep PUnit))).run P w = .ok PUnit.unit w
 | [],s,xs,_,hl,_,_ => by simp
 | f :: l,s,xs,hf,hl,hx,he => by
  cases xs with
  | nil => simp at hl
  | cons x xs =>
  obtain ⟨hn,ho,q,hq⟩ := hf 0 f rfl
  obtain ⟨r,hr⟩ := Option.isSome_iff_exists.1 he
  obtain ⟨k,a,b,r',rfl,e2,hr',_⟩ := zkQ hr
  have hu : us[s]? = some (.int k a) := by
   have h1 := hx.1; simp at h1
   have h2 : us[s]? = some (us[s]'(by omega)) := List.getElem?_eq_getElem _
   have := hx.2 0 _ (us[s]'(by omega)) rfl (by simp [List.getElem?_drop,h2])
   rw [h2,this.int_inv]
  have hag : ztl P f.type = some false := by simp [ztl,hq]
  have p1 : (part f.type us.toArray f.offset).run P w = .ok (.int k a) w := by simp [part,zfv hag,ho,hu]
  have ih := znl em d (fields := fields) (us := us) l (s + 1) xs (fun j g hj => by have := hf (j + 1) g hj; exact ⟨this.1,by rw [this.2.1]; omega,this.2.2⟩) (by simpa using hl)
   ⟨by have := hx.1; simp at this ⊢; omega,fun j c u hc hu => hx.2 (j + 1) c u hc (by rw [List.getElem?_drop] at hu ⊢; rw [← hu]; congr 1; omega)⟩ (by rw [hr']; rfl)
  have hc : (Instr.checkKey em (d + 1) f.type (.int k a)).run P w = .ok () w := by simp [Instr.checkKey,run_underlying hq]
  rw [List.forIn_cons]
  simp only [hn,ne_eq,not_false_eq_true,if_true,Sem.run_bind,p1,hc,Result.andThen_ok,Sem.run_pure]
  simpa [hn] using ih
theorem zoE {t : TypeId} {kk : KK} (h : kkOf P t = some kk) {k : AV} {v : Value} (hk : zfY kk k = true) (hv : RV w L σ k v) (em : Bool) : (Instr.checkKey em 10000 t v).run P w = .ok () w := by
 rcases zsr h with ⟨rfl,q,hq⟩ | ⟨rfl,hq⟩ | ⟨n,rfl,hn⟩
 ·cases k <;> simp only [zfY,Bool.false_eq_true] at hk
  rename_i x
  cases x <;> simp only [zfY,Bool.false_eq_true] at hk
  rw [hv.int_inv]
  change (Instr.checkKey em (9999 + 1) t _).run P w = _
  unfold Instr.checkKey
  simp [run_underlying hq]
 ·cases k <;> simp only [zfY,Bool.false_eq_true] at hk
  rename_i x
  cases x <;> simp only [zfY,Bool.false_eq_true] at hk
  rw [hv.str_inv]
  change (Instr.checkKey em (9999 + 1) t _).run P w = _
  unfold Instr.checkKey
  simp [run_underlying hq]
 ·cases k <;> simp only [zfY,Bool.false_eq_true,Bool.and_eq_true,beq_iff_eq] at hk
  rename_i xs
  obtain ⟨us,rfl,r1⟩ := hv.agg_inv
  obtain ⟨fs,inf,hu1,hu2,hu3,hu4,hu5,hu6,hu7⟩ := zfF hn
  have := znl em 9998 (fields := fs.toList) fs.toList 0 xs (us := us) (fun k f hk => by have := hu7 k f (by simpa using hk); exact ⟨this.1,by rw [this.2.1]; omega,this.2.2⟩) (by rw [hk.1, ← hu4]; simp) (by simpa using r1) hk.2
  change (Instr.checkKey em (9999 + 1) t _).run P w = _
  unfold Instr.checkKey
  simp only [Sem.run_bind,run_underlying hu1,Result.andThen_ok]
  simp at this ⊢
  rw [this]; rfl
theorem keyEq_val {kk : KK} {x y : AV} {r : Bool} {u v : Value} (h : zgN kk x y = some r) (hu : RV w L σ x u) (hv : RV w L σ y v) (hr : r = true) : u = v := by
 subst hr
 cases kk with
 | int =>
  cases x <;> try (simp [zgN] at h; done)
  cases y <;> try (simp [zgN] at h; done)
  rename_i x y
  cases x <;> cases y <;> simp [zgN] at h
  obtain ⟨rfl,rfl⟩ := h
  rw [hu.int_inv,hv.int_inv]
 | str =>
  cases x <;> try (simp [zgN] at h; done)
  cases y <;> try (simp [zgN] at h; done)
  rename_i x y
  cases x <;> cases y <;> simp [zgN] at h
  subst h
  rw [hu.str_inv,hv.str_inv]
 | ints n =>
  cases x <;> try (simp [zgN] at h; done)
  cases y <;> try (simp [zgN] at h; done)
  rename_i xs ys
  simp only [zgN,Option.ite_none_right_eq_some] at h
  obtain ⟨us,rfl,r1⟩ := hu.agg_inv
  obtain ⟨vs,rfl,r2⟩ := hv.agg_inv
  obtain ⟨hln,h⟩ := h
  clear hln
  have : us = vs := by
   clear hu hv
   induction xs generalizing ys us vs with
   | nil =>
    cases ys with
    | nil => have h1 := r1.1; have h2 := r2.1; cases us <;> cases vs <;> simp at h1 h2 ⊢
    | cons y ys => simp [zdU] at h
   | cons x xs ih =>
    cases ys with
    | nil => simp [zdU] at h
    | cons y ys =>
    obtain ⟨k,a,b,r',rfl,rfl,hr',e⟩ := zkQ h
    cases us with
    | nil => have := r1.1; simp at this
    | cons u us =>
    cases vs with
    | nil => have := r2.1; simp at this
    | cons v vs =>
    have e1 := (r1.2 0 _ u rfl rfl).int_inv
    have e2 := (r2.2 0 _ v rfl rfl).int_inv
    have e' : a = b ∧ r' = true := by
     have := e.symm
     simpa using this
    rw [e'.2] at hr'
    rw [e1,e2,e'.1,ih ys us ⟨by have := r1.1; simpa using this,fun i c v hc hv => r1.2 (i + 1) c v hc hv⟩ vs ⟨by have := r2.1; simpa using this,fun i c v hc hv => r2.2 (i + 1) c v hc hv⟩ hr']
  rw [this]
theorem zqD (n : Nat) : ∀ (xs : List AV) (us : List Value),RVs w L σ xs us → (zdU xs xs).isSome = true → ((us.zip us).all fun (x,y) => Instr.sameBits n x y) = true
 | [],us,h,_ => by have := h.1; cases us <;> simp_all
 | x :: xs,us,h,he => by
  obtain ⟨r,hr⟩ := Option.isSome_iff_exists.1 he
  obtain ⟨k,a,b,r',rfl,e2,hr',_⟩ := zkQ hr
  cases us with
  | nil => have := h.1; simp at this
  | cons u us =>
  have e1 := (h.2 0 _ u rfl rfl).int_inv
  subst e1
  have ih := zqD n xs us ⟨by have := h.1; simpa using this,fun i c v hc hv => h.2 (i + 1) c v hc hv⟩ (by rw [hr']; rfl)
  simp only [List.zip_cons_cons,List.all_cons,ih,Bool.and_true]
  cases n <;> simp [Instr.sameBits]
theorem run_stays {kk : KK} {x : AV} {u : Value} (hx : zfY kk x = true) (hu : RV w L σ x u) : (Instr.keyThatStays u u).run P w = .ok u w := by
 have : Instr.sameBits 10000 u u = true := by
  cases kk with
  | int =>
   cases x <;> simp only [zfY,Bool.false_eq_true] at hx
   rename_i x
   cases x <;> simp only [zfY,Bool.false_eq_true] at hx
   rw [hu.int_inv]; simp [Instr.sameBits]
  | str =>
   cases x <;> simp only [zfY,Bool.false_eq_true] at hx
   rename_i x
   cases x <;> simp only [zfY,Bool.false_eq_true] at hx
   rw [hu.str_inv]
   show (_ == _) = true
   simp [bytes_beq]
  | ints n =>
   cases x <;> simp only [zfY,Bool.false_eq_true,Bool.and_eq_true] at hx
   obtain ⟨us,rfl,r1⟩ := hu.agg_inv
   have := zqD 9999 _ us r1 hx.2
   simp only [Instr.sameBits,beq_self_eq_true,Bool.true_and]
   simpa using this
 simp [Instr.keyThatStays,this]
theorem zkx {t : TypeId} {kk : KK} (h : kkOf P t = some kk) {k : AV} {v : Value} (hv : RV w L σ k v) : ∀ (es : List (AV × AV)) (ms : List MapEntry) (i : Nat) {r : Option (Nat × AV)},ms.length = es.length →
  (∀ (j : Nat) e m,es[j]? = some e → ms[j]? = some m → RE w L σ e m) → zoO kk k es i = some r →
  match r with
  | none => (∃ d,P.underlying t = some d ∧ Instr.findNow d v ms i = some none) ∨ (zrl P t).isSome = true ∧ (Instr.findAsking t v ms i).run P w = .ok none w
  | some (p,x) => ∃ j e m,p = i + j ∧ es[j]? = some e ∧ ms[j]? = some m ∧ e.2 = x ∧ m.key = v ∧
    ((∃ d,P.underlying t = some d ∧ Instr.findNow d v ms i = some (some (p,m.val))) ∨ (zrl P t).isSome = true ∧ (Instr.findAsking t v ms i).run P w = .ok (some (p,m.val)) w)
 | [],ms,i,r,hl,_,hr => by
  have : ms = [] := by simpa using hl
  subst this
  simp only [zoO,Option.some.injEq] at hr
  subst hr
  rcases zsr h with ⟨rfl,q,hq⟩ | ⟨rfl,hq⟩ | ⟨n,rfl,hn⟩
  ·exact .inl ⟨_,hq,rfl⟩
  ·exact .inl ⟨_,hq,rfl⟩
  ·exact .inr ⟨by rw [hn]; rfl,by simp [Instr.findAsking]⟩
 | e :: es,ms,i,r,hl,hre,hr => by
  cases ms with
  | nil => simp at hl
  | cons m ms =>
  have hk := hre 0 e m rfl rfl
  simp only [zoO] at hr
  -- one entry
  have one : ∀ {b},zgN kk k e.1 = some b → (∃ d,P.underlying t = some d ∧ Instr.sameNow d v m.key = some b) ∨ (zrl P t).isSome = true ∧ (Op.equal t v m.key).run P w = .ok b w := fun {b} hb => by
   rcases zsr h with ⟨rfl,q,hq⟩ | ⟨rfl,hq⟩ | ⟨n,rfl,hn⟩
   ·left
    refine ⟨_,hq, ?_⟩
    cases k <;> try (simp [zgN] at hb; done)
    generalize hE : e.1 = y at hb hk
    cases y <;> try (simp [zgN] at hb; done)
    rename_i x y
    cases x <;> cases y <;> simp [zgN] at hb
    obtain ⟨e1,rfl⟩ := hb
    have h1 := hk.1
    rw [hE] at h1
    rw [hv.int_inv,h1.int_inv,e1]
    simp [Instr.sameNow]
   ·left
    refine ⟨_,hq, ?_⟩
    cases k <;> try (simp [zgN] at hb; done)
    generalize hE : e.1 = y at hb hk
    cases y <;> try (simp [zgN] at hb; done)
    rename_i x y
    cases x <;> cases y <;> simp [zgN] at hb
    have h1 := hk.1
    rw [hE] at h1
    rw [hv.str_inv,h1.str_inv]
    rename_i s t
    simp only [Instr.sameNow, ← hb,Option.some.injEq]
    rw [Bool.eq_iff_iff,bytes_beq]
    simp
   ·right
    refine ⟨by rw [hn]; rfl, ?_⟩
    cases k <;> try (simp [zgN] at hb; done)
    generalize hE : e.1 = y at hb hk
    cases y <;> try (simp [zgN] at hb; done)
    rename_i xs ys
    simp only [zgN,Option.ite_none_right_eq_some] at hb
    have h1 := hk.1
    rw [hE] at h1
    obtain ⟨us,e1,r1⟩ := hv.agg_inv
    obtain ⟨vs,e2,r2⟩ := h1.agg_inv
    obtain ⟨fs,inf,hu1,hu2,hu3,hu4,hu5,hu6,hu7⟩ := zfF hn
    have hfo : P.fieldsOf t = fs := by simp [Program.fieldsOf,hu1]
    rw [e1,e2]
    show (Op.equalIn 10000 t (.agg us.toArray) (.agg vs.toArray)).run P w = .ok b w
    rw [run_equalIn_agg w 9999 t _ _ (by rw [hfo]; exact hu1) hu2,hfo]
    exact zkS 9998 fs.toList 0 xs ys us vs b (fun k f hk => by have := hu7 k f (by simpa using hk); exact ⟨this.1,by rw [this.2.1]; omega,this.2.2⟩) (by rw [hb.1, ← hu4]; simp) (by simpa using r1) (by simpa using r2) hb.2
  split at hr
  ·rename_i hb
   cases hr
   refine ⟨0,e,m,rfl,rfl,rfl,rfl,(keyEq_val hb hv hk.1 rfl).symm, ?_⟩
   rcases one hb with ⟨d,hd,h1⟩ | ⟨hs,h1⟩
   ·exact .inl ⟨d,hd,by simp [Instr.findNow,h1]⟩
   ·exact .inr ⟨hs,by simp [Instr.findAsking,h1]⟩
  ·rename_i hb
   have ih := zkx h hv es ms (i + 1) (r := r) (by simpa using hl) (fun j e m he hm => hre (j + 1) e m he hm) hr
   have h0 := one hb
   cases r with
   | none =>
    dsimp only at ih ⊢
    rcases h0 with ⟨d,hd,h1⟩ | ⟨hs,h1⟩
    ·rcases ih with ⟨d',hd',h2⟩ | ⟨hs,h2⟩
     ·rw [hd] at hd'; cases hd'
      exact .inl ⟨d,hd,by simp [Instr.findNow,h1,h2]⟩
     ·exfalso
      rw [Option.isSome_iff_exists] at hs
      obtain ⟨n,hn⟩ := hs
      obtain ⟨fs,_,hu1,_⟩ := zfF hn
      rw [hd] at hu1; cases hu1
      simp [Instr.sameNow] at h1
    ·rcases ih with ⟨d',hd',h2⟩ | ⟨hs',h2⟩
     ·right
      refine ⟨hs, ?_⟩
      obtain ⟨n,hn⟩ := Option.isSome_iff_exists.1 hs
      obtain ⟨fs,_,hu1,_⟩ := zfF hn
      rw [hd'] at hu1; cases hu1
      cases ms with
      | nil => simp [Instr.findAsking,h1]
      | cons m' ms => simp [Instr.findNow,Instr.sameNow] at h2
     ·exact .inr ⟨hs,by simp [Instr.findAsking,h1,h2]⟩
   | some px =>
    obtain ⟨p,x⟩ := px
    dsimp only at ih ⊢
    obtain ⟨j,e',m',g1,g2,g3,g4,g5,g6⟩ := ih
    refine ⟨j + 1,e',m',by omega,g2,g3,g4,g5, ?_⟩
    rcases h0 with ⟨d,hd,h1⟩ | ⟨hs,h1⟩
    ·rcases g6 with ⟨d',hd',h2⟩ | ⟨hs,h2⟩
     ·rw [hd] at hd'; cases hd'
      exact .inl ⟨d,hd,by simp [Instr.findNow,h1,h2]⟩
     ·exfalso
      obtain ⟨n,hn⟩ := Option.isSome_iff_exists.1 hs
      obtain ⟨fs,_,hu1,_⟩ := zfF hn
      rw [hd] at hu1; cases hu1
      simp [Instr.sameNow] at h1
    ·rcases g6 with ⟨d',hd',h2⟩ | ⟨hs',h2⟩
     ·exfalso
      obtain ⟨n,hn⟩ := Option.isSome_iff_exists.1 hs
      obtain ⟨fs,_,hu1,_⟩ := zfF hn
      rw [hd'] at hu1; cases hu1
      cases ms with
      | nil => simp [Instr.findNow] at h2
      | cons m' ms => simp [Instr.findNow,Instr.sameNow] at h2
     ·exact .inr ⟨hs,by simp [Instr.findAsking,h1,h2]⟩
  ·cases hr
theorem run_findKey' {t : TypeId} {v : Value} {ms : List MapEntry} {r : Option (Nat × Value)} (h : (∃ d,P.underlying t = some d ∧ Instr.findNow d v ms 0 = some r) ∨ (zrl P t).isSome = true ∧ (Instr.findAsking t v ms 0).run P w = .ok r w) :
  (Instr.findKey t v ms).run P w = .ok r w := by
 rcases h with ⟨d,hd,h⟩ | ⟨hs,h⟩
 ·exact run_findKey hd h
 ·obtain ⟨n,hn⟩ := Option.isSome_iff_exists.1 hs
  obtain ⟨fs,_,hu1,_⟩ := zfF hn
  rw [run_findKey_eq w (by rw [hu1]),h]
theorem zsk (S : Sim L σ w) {id : Nat} {es : List (AV × AV)} (h : σ[id]? = some (.map es)) :
  ∃ ms clock,w.heap[(L id).a.block]? = some (.map ms clock) ∧ ms.toList.length = es.length ∧ ∀ (j : Nat) e m,es[j]? = some e → ms.toList[j]? = some m → RE w L σ e m := by
 obtain ⟨ms,clock,h1,h2,h3⟩ := S.obj id _ h
 exact ⟨ms,clock,h1,by simpa using h2,fun j e m he hm => h3 j e m he (by simpa using hm)⟩
theorem snd_mkmap (S : Sim L σ w) {t : TypeId} {kt et : TypeId} (ht : P.underlying t = some (.map kt et)) (ho : o.op = .makeMap t none) (h : zaP P .mkmap fr σ K) : zaI P o a L σ w K := by
 have hf : ∀ b c,zeE { a := ⟨w.heap.size, 0,none⟩ } (.map []) b c → b = w.heap.size := fun b c h => h
 have st := zgA L σ (.map #[] 0) { a := ⟨w.heap.size, 0,none⟩ } (.map []) hf
 have S' := zjQ S (.map #[] 0) { a := ⟨w.heap.size, 0,none⟩ } (.map []) hf ⟨#[], 0,by
  show (w.heap.push _)[w.heap.size]? = _
  simp,rfl,by simp⟩
 refine ⟨.map σ.length, .map (some w.heap.size),_,_,_, .inl ?_,st,S', ?_,h⟩
 ·simp [execOp,ho,Instr.makeMap,newObj,Sem.run]
 ·have := RV.map (w := w.alloc (.map #[] 0)) (L := ziO L σ.length { a := ⟨w.heap.size, 0,none⟩ }) (σ := σ ++ [.map []]) σ.length ⟨.map [],by simp,by simp [zh.kind]⟩
  rw [zac] at this
  exact this
theorem snd_mget (S : Sim L σ w) (F : FR w L σ fr a.tmps) {t kt et : TypeId} {m k : Operand} {ok : Bool} {kk : KK} {inf : TypeInfo} {z : Value} {za : AV} {m' k' : Opd} (ht : P.underlying t = some (.map kt et)) (hkk : kkOf P kt = some kk)
  (hi : P.info? et = some inf) (hz : inf.zero = some z) (hza : litA z = some za) (hm : opd m = some m') (hk : opd k = some k') (ho : o.op = .lookup t m k ok) (h : zaP P (.mget kk ok za m' k') fr σ K) : zaI P o a L σ w K := by
 simp only [zaP,zaU] at h
 have hv := zX F hm
 have hu := zX F hk
 have hzero : (zeroValue et).run P w = .ok z w := by simp [zeroValue,typeInfo,hi,hz]
 split at h
 ·rename_i es hes
  obtain ⟨hfit,h⟩ := h
  have hc := zoE hkk hfit hu
  -- the entries in the model
  obtain ⟨ms,hget,hl,hre⟩ : ∃ ms : Array MapEntry,(a.eval m = .map none ∧ ms = #[] ∨ ∃ r clock,a.eval m = .map (some r) ∧ w.heap[r]? = some (.map ms clock)) ∧ ms.toList.length = es.length ∧ ∀ (j : Nat) e x,es[j]? = some e → ms.toList[j]? = some x → RE w L σ e x := by
   generalize ev fr m' = M at hes hv
   cases M <;> simp only [zfe] at hes <;> try (cases hes; done)
   ·rename_i x
    cases x <;> simp only [zfe] at hes <;> try (cases hes; done)
    cases hes
    exact ⟨#[], .inl ⟨hv.nilmap_inv,rfl⟩,rfl,by simp⟩
   ·rename_i id
    split at hes
    ·rename_i es' hes'
     cases hes
     obtain ⟨ms,clock,h1,h2,h3⟩ := zsk S hes'
     exact ⟨ms, .inr ⟨_,clock,hv.map_inv.1,h1⟩,h2,h3⟩
    ·cases hes
  have fin : ∀ {r v},(Instr.lookup t (a.eval m) (a.eval k) ok).run P w = .ok v w → RV w L σ r v → K r σ → zaI P o a L σ w K := fun {r v} h1 h2 h3 =>
   .same S (r := r) (v := v) (by simp [execOp,ho,h1]) h2 h3
  have fin2 : ∀ {x v} (is : Bool),RV w L σ x v → RV w L σ (mgetR ok x is) (if ok then .tuple #[v, .bool is] else v) := fun {x v} is hx => by
   cases ok
   ·exact hx
   ·exact .tup [x, .d (.bool is)] [v, .bool is] rfl (fun i c u hc hu => by
     match i with
     | 0 => simp at hc hu; subst hc hu; exact hx
     | 1 => simp at hc hu; subst hc hu; exact .d _ _ (.bool _)
     | n + 2 => simp at hc)
  split at h
  ·rename_i p v hf
   have := zkx hkk hu es ms.toList 0 hl hre hf
   obtain ⟨j,e,x,e1,e2,e3,e4,e5,e6⟩ := this
   have hrun := run_findKey' e6
   refine fin (v := if ok then .tuple #[x.val, .bool true] else x.val) ?_ (fin2 true (by rw [← e4]; exact (hre j e x e2 e3).2)) h
   rcases hget with ⟨hmn,rfl⟩ | ⟨rr,clock,hmn,hh⟩
   ·simp only [Instr.lookup,Sem.run_bind,run_underlying ht,Result.andThen_ok,hmn,hc,hrun,Sem.run_pure]
   ·simp only [Instr.lookup,Sem.run_bind,run_underlying ht,Result.andThen_ok,hmn,zuD hh,hc,hrun,Sem.run_pure]
  ·rename_i hf
   have := zkx hkk hu es ms.toList 0 hl hre hf
   have hrun := run_findKey' this
   refine fin (v := if ok then .tuple #[z, .bool false] else z) ?_ (fin2 false (zuu hza)) h
   rcases hget with ⟨hmn,rfl⟩ | ⟨rr,clock,hmn,hh⟩
   ·simp only [Instr.lookup,Sem.run_bind,run_underlying ht,Result.andThen_ok,hmn,hc,hrun,hzero,Sem.run_pure]
   ·simp only [Instr.lookup,Sem.run_bind,run_underlying ht,Result.andThen_ok,hmn,zuD hh,hc,hrun,hzero,Sem.run_pure]
  ·exact h.elim
 ·exact h.elim
theorem snd_mset (S : Sim L σ w) (F : FR w L σ fr a.tmps) {t kt et : TypeId} {m k x : Operand} {kk : KK} {m' k' x' : Opd} (ht : P.underlying t = some (.map kt et)) (hkk : kkOf P kt = some kk)
  (hm : opd m = some m') (hk : opd k = some k') (hx : opd x = some x') (ho : o.op = .mapUpdate t m k x ∨ o.op = .insert t m k x) (h : zaP P (.mset kk m' k' x') fr σ K) : zaI P o a L σ w K := by
 simp only [zaP,zbd] at h
 have hv := zX F hm
 have hu := zX F hk
 have hz := zX F hx
 split at h
 ·rename_i id hid
  rw [hid] at hv
  split at h
  ·rename_i es hes
   obtain ⟨hfit,h⟩ := h
   have hc := zoE hkk hfit hu
   obtain ⟨ms,clock,h1,h2,h3⟩ := zsk S hes
   have hlt := (Array.getElem?_eq_some_iff.1 h1).1
   have fin : ∀ {es' : List (AV × AV)} {ms' : Array MapEntry} {clock' : Nat},(Instr.mapUpdate t (a.eval m) (a.eval k) (a.eval x)).run P w = .ok () { w with heap := w.heap.setIfInBounds (L id).a.block (.map ms' clock') } →
     ms'.size = es'.length → (∀ (j : Nat) e y,es'[j]? = some e → ms'[j]? = some y → RE w L σ e y) → K (.tup []) (σ.set id (.map es')) → zaI P o a L σ w K := fun {es' ms' clock'} g1 g2 g3 g4 => by
    obtain ⟨st,S'⟩ := obj_set S hes (x' := .map es') rfl (by simp [zh.kind]) (by simp [zh.kind]) (.map ms' clock') (fun w' e st => by
     subst e
     refine ⟨ms',clock', ?_,g2,fun j e y hj hy => (g3 j e y hj hy).mono st⟩
     show (w.heap.setIfInBounds _ _)[_]? = _
     simp [hlt])
    refine ⟨.tup [], .tuple #[],L,_,_, .inr ⟨?_,rfl⟩,st,S', .tup [] [] rfl (by simp),g4⟩
    rcases ho with ho | ho <;> simp [execOp,ho,g1]
   have hme := hv.map_inv.1
   split at h
   ·rename_i p v hf
    obtain ⟨j,e,y,e1,e2,e3,e4,e5,e6⟩ := zkx hkk hu es ms.toList 0 h2 h3 hf
    have hrun := run_findKey' e6
    have hpj : p = j := by omega
    subst hpj
    have hky : ms[p]? = some y := by simpa using e3
    refine fin (es' := es.set p (ev fr k',ev fr x')) (ms' := ms.modify p fun e => { e with key := a.eval k,val := a.eval x }) (clock' := clock) ?_ (by simpa using h2) (fun j' e' y' hj hy => ?_) h
    ·have hst := run_stays (P := P) hfit hu
     simp only [Instr.mapUpdate,Sem.run_bind,run_underlying ht,Result.andThen_ok,hme,zuD h1,hc,hrun,hky,Option.map_some,Option.getD_some,e5,hst,setmap _ h1]
    ·rw [Array.getElem?_modify] at hy
     rw [List.getElem?_set] at hj
     split at hj
     ·rename_i hpe
      subst hpe
      split at hj
      ·cases hj
       rw [if_pos rfl,hky] at hy
       cases hy
       exact ⟨hu,hz⟩
      ·cases hj
     ·rename_i hpe
      rw [if_neg hpe] at hy
      exact h3 j' e' y' hj (by simpa using hy)
   ·rename_i hf
    have hrun := run_findKey' (zkx hkk hu es ms.toList 0 h2 h3 hf)
    refine fin (es' := es ++ [(ev fr k',ev fr x')]) (ms' := ms.push { key := a.eval k,val := a.eval x,born := clock }) (clock' := clock + 1) ?_ (by simpa using h2) (fun j' e' y' hj hy => ?_) h
    ·simp only [Instr.mapUpdate,Sem.run_bind,run_underlying ht,Result.andThen_ok,hme,zuD h1,hc,hrun,setmap _ h1]
    ·have hms : ms.size = es.length := by simpa using h2
     rw [Array.getElem?_push] at hy
     split at hy
     ·rename_i hpe
      cases hy
      rw [hpe,hms,List.getElem?_concat_length] at hj
      cases hj
      exact ⟨hu,hz⟩
     ·rename_i hpe
      have hlt2 : j' < ms.size := (Array.getElem?_eq_some_iff.1 hy).1
      rw [List.getElem?_append_left (by omega)] at hj
      exact h3 j' e' y' hj (by simpa using hy)
   ·exact h.elim
  ·exact h.elim
 ·exact h.elim
theorem snd_mdel (S : Sim L σ w) (F : FR w L σ fr a.tmps) {c : Call} {t kt et : TypeId} {m k : Operand} {kk : KK} {m' k' : Opd} (ho : o.op = .call c) (hcal : c.callee = .builtin .delete) (hat : c.argTypes[0]? = some t) (hargs : c.args.toList = [m,k])
  (ht : P.underlying t = some (.map kt et)) (hkk : kkOf P kt = some kk)
  (hm : opd m = some m') (hk : opd k = some k') (h : zaP P (.mdel kk m' k') fr σ K) : zaI P o a L σ w K := by
 have hargs' : c.args = #[m,k] := by apply Array.ext'; simpa using hargs
 simp only [zaP,zbl] at h
 have hv := zX F hm
 have hu := zX F hk
 have run : ∀ {w'},(Builtin.delete_ c.argTypes o.type #[a.eval m,a.eval k]).run P w = .ok (.tuple #[]) w' → (execOp a.eval o).run P w = .ok (.value (.tuple #[])) w' := fun {w'} h1 => by
  simp [execOp,ho,resolve,hcal,hargs',invoke,builtin,h1]
 split at h
 ·rename_i id hid
  rw [hid] at hv
  split at h
  ·rename_i es hes
   obtain ⟨hfit,h⟩ := h
   have hc := zoE hkk hfit hu
   obtain ⟨ms,clock,h1,h2,h3⟩ := zsk S hes
   have hlt := (Array.getElem?_eq_some_iff.1 h1).1
   have fin : ∀ {es' : List (AV × AV)} {ms' : Array MapEntry} {clock' : Nat},(Builtin.delete_ c.argTypes o.type #[a.eval m,a.eval k]).run P w = .ok (.tuple #[]) { w with heap := w.heap.setIfInBounds (L id).a.block (.map ms' clock') } →
     ms'.size = es'.length → (∀ (j : Nat) e y,es'[j]? = some e → ms'[j]? = some y → RE w L σ e y) → K (.tup []) (σ.set id (.map es')) → zaI P o a L σ w K := fun {es' ms' clock'} g1 g2 g3 g4 => by
    obtain ⟨st,S'⟩ := obj_set S hes (x' := .map es') rfl (by simp [zh.kind]) (by simp [zh.kind]) (.map ms' clock') (fun w' e st => by
     subst e
     refine ⟨ms',clock', ?_,g2,fun j e y hj hy => (g3 j e y hj hy).mono st⟩
     show (w.heap.setIfInBounds _ _)[_]? = _
     simp [hlt])
    exact ⟨.tup [], .tuple #[],L,_,_, .inl (run g1),st,S', .tup [] [] rfl (by simp),g4⟩
   have hme := hv.map_inv.1
   split at h
   ·rename_i p v hf
    obtain ⟨j,e,y,e1,e2,e3,e4,e5,e6⟩ := zkx hkk hu es ms.toList 0 h2 h3 hf
    have hrun := run_findKey' e6
    have hpj : p = j := by omega
    subst hpj
    have hms : ms.size = es.length := by simpa using h2
    have hplt := zl e2
    refine fin (es' := es.eraseIdx p) (ms' := ms.eraseIdxIfInBounds p) (clock' := clock) ?_ ?_ (fun j' e' y' hj hy => ?_) h
    ·simp only [Builtin.delete_,List.getElem?_toArray,List.getElem?_cons_zero,List.getElem?_cons_succ,hat,Sem.run_bind,run_underlying ht,Result.andThen_ok,hme,zuD h1,hc,hrun,setmap _ h1,Sem.run_pure]
    ·rw [Array.eraseIdxIfInBounds,dif_pos (by omega)]
     simp [List.length_eraseIdx,hplt,hms]
    ·rw [Array.eraseIdxIfInBounds,dif_pos (by omega), ← Array.getElem?_toList,Array.toList_eraseIdx] at hy
     rw [List.getElem?_eraseIdx] at hj hy
     split at hj
     ·rename_i hlt'
      rw [if_pos hlt'] at hy
      exact h3 j' e' y' hj hy
     ·rename_i hlt'
      rw [if_neg hlt'] at hy
      exact h3 (j' + 1) e' y' hj hy
   ·rename_i hf
    have hrun := run_findKey' (zkx hkk hu es ms.toList 0 h2 h3 hf)
    have hset : σ.set id (.map es) = σ := by
     apply List.ext_getElem?
     intro j
     rw [List.getElem?_set]
     split
     ·rename_i e; subst e; rw [hes,if_pos (zl hes)]
     ·rfl
    refine fin (es' := es) (ms' := ms) (clock' := clock) ?_ (by simpa using h2) (fun j' e' y' hj hy => h3 j' e' y' hj (by simpa using hy)) (by rw [hset]; exact h)
    simp only [Builtin.delete_,List.getElem?_toArray,List.getElem?_cons_zero,List.getElem?_cons_succ,hat,Sem.run_bind,run_underlying ht,Result.andThen_ok,hme,zuD h1,hc,hrun,setmap _ h1,Sem.run_pure]
   ·exact h.elim
  ·exact h.elim
 ·rename_i hid
  rw [hid] at hv
  obtain ⟨hfit,h⟩ := h
  have hc := zoE hkk hfit hu
  refine .same S (r := .tup []) (v := .tuple #[]) (run ?_) (.tup [] [] rfl (by simp)) h
  simp only [Builtin.delete_,List.getElem?_toArray,List.getElem?_cons_zero,List.getElem?_cons_succ,hat,Sem.run_bind,run_underlying ht,Result.andThen_ok,hv.nilmap_inv,hc,Sem.run_pure]
 ·exact h.elim
theorem snd_isnil (S : Sim L σ w) (F : FR w L σ fr a.tmps) {op : BinOp} {t u : TypeId} {x y : Operand} {x' : Opd} (hn : nilCmp P op t y = true) (hx : opd x = some x') (ho : o.op = .binOp op t x y u)
  (h : zaP P (.isnil (zst op) x') fr σ K) : zaI P o a L σ w K := by
 simp only [zaP,zao] at h
 have hv := zX F hx
 obtain ⟨e,ht,hy,hop⟩ : ∃ e,P.underlying t = some (.slice e) ∧ y = .const (.slice none 0 0) ∧ (op = .eql ∨ op = .neq) := by
  unfold nilCmp at hn
  split at hn
  ·exact ⟨_,by assumption,rfl, .inl rfl⟩
  ·exact ⟨_,by assumption,rfl, .inr rfl⟩
  ·cases hn
 subst hy
 have fin : ∀ {b n c},a.eval x = .slice b n c → K (.d (.bool (b.isNone != zst op))) σ → zaI P o a L σ w K := fun {b n c} h1 h2 => by
  refine .same S (r := .d (.bool (b.isNone != zst op))) (v := .bool (b.isNone != zst op)) ?_ (.d _ _ (.bool _)) h2
  have he : a.eval (.const (.slice none 0 0)) = .slice none 0 0 := rfl
  rcases hop with rfl | rfl
  ·simp [execOp,ho,h1,he,eqGuard_at_slice,Lib.run_eql_slice_nil w t e b n c 0 0 ht,zst]
  ·have := run_neq_slice_nil_any w t e b n c 0 0 ht
   simp [execOp,ho,h1,he,eqGuard_at_slice,this,zst]
 split at h
 ·rename_i hes
  obtain ⟨b,cap,hX,_⟩ := (hv.esOf_inv hes).len
  refine fin hX ?_
  cases b with
  | none => cases hq : zst op <;> simp <;> first | exact h.1 | exact h.2
  | some _ => cases hq : zst op <;> simp <;> first | exact h.1 | exact h.2
 ·rename_i e' es' hes
  obtain ⟨b,cap,hX,hle,hb⟩ := (hv.esOf_inv hes).len
  refine fin hX ?_
  cases b with
  | none => have := hb rfl; simp at hle; omega
  | some _ => simpa using h
 ·split at h
  ·rename_i hid
   rw [hid] at hv
   obtain ⟨hX,_⟩ := hv.bsl_inv
   exact fin hX (by simpa using h)
  ·rename_i lo hi hid
   rw [hid] at hv
   obtain ⟨b,cap,hX,_,_,hle,hb,_⟩ := hv.rsl_inv
   refine fin hX ?_
   rcases Nat.eq_zero_or_pos (hi - lo) with h0 | h0
   ·have h' := h.1 h0
    cases b with
    | none => cases hq : zst op <;> simp <;> first | exact h'.1 | exact h'.2
    | some _ => cases hq : zst op <;> simp <;> first | exact h'.1 | exact h'.2
   ·have h' := h.2 h0
    cases b with
    | none => have := hb rfl; omega
    | some _ => simpa using h'
  ·exact h.elim
end
section
variable {P : Program} {o : Oper} {fr : zam} {σ : List zh} {K : KT} {L : Nat → Loc} {w : World} {a : Act}
theorem callOk_spec {f : FuncId} (h : zuN P f = true) : ∃ fn c, P.funcs[f]? = some fn ∧ fn.name ≠ "runtime.NumGoroutine" ∧ fn.body = some c := by
 unfold zuN at h
 split at h
 ·rename_i fn hf
  simp only [Bool.and_eq_true,bne_iff_ne,ne_eq] at h
  obtain ⟨h1,h2⟩ := h
  cases hb : fn.body with
  | none => simp [hb] at h2
  | some c => exact ⟨fn,c,hf,h1,hb⟩
 ·cases h
theorem zlM {f : FuncId} (h : zuN P f = true) (args : Array Value) (w : World) : (callFunc f args).run P w = .ok (.enter f args) w := by
 obtain ⟨fn,c,h1,h2,h3⟩ := callOk_spec h
 simp [callFunc,program,Sem.run,h1,h2,h3]
theorem dm1_sound {x : AV} {v : Value} (h : RV w L σ x v) : RV w L σ (dm1 x) v := by
 cases h with
 | own _ _ _ _ _ _ _ _ h => exact .d _ _ h
 | exact _ _ h => exact .d _ _ h
 | d _ _ h => exact .d _ _ h
 | agg _ _ h1 h2 => exact .agg _ _ h1 h2
 | tup _ _ h1 h2 => exact .tup _ _ h1 h2
 | bsl _ _ _ _ _ h1 h2 => exact .bsl _ _ _ _ _ h1 h2
 | box _ _ h => exact .box _ _ h
 | vp _ _ _ h => exact .vp _ _ _ h
 | map _ h => exact .map _ h
 | iter _ h => exact .iter _ h
 | fn _ _ _ _ _ h1 h2 h3 h4 => exact .fn _ _ _ _ _ h1 h2 h3 h4
 | rsl _ _ _ _ _ _ _ h1 h2 h3 h4 h5 h6 h7 => exact .rsl _ _ _ _ _ _ _ h1 h2 h3 h4 h5 h6 h7
 | rpt _ _ _ _ _ h1 h2 h3 => exact .rpt _ _ _ _ _ h1 h2 h3
 | undef _ => exact .undef _
theorem zrF {x : AV} {v : Value} (h : RV w L σ x v) : RV w L σ (dm x) v := by
 cases x with
 | agg cs =>
  obtain ⟨vs,rfl,h1,h2⟩ := h.agg_inv
  refine .agg _ _ (by simpa using h1) fun i c v hc hv => ?_
  simp only [List.getElem?_map,Option.map_eq_some_iff] at hc
  obtain ⟨c',hc',rfl⟩ := hc
  exact dm1_sound (h2 i c' v hc' hv)
 | _ => exact dm1_sound h
theorem RVs.append {as0 bs : List AV} {us vs : List Value} (h1 : RVs w L σ as0 us) (h2 : RVs w L σ bs vs) : RVs w L σ (as0 ++ bs) (us ++ vs) := by
 refine ⟨by simp [h1.1,h2.1],fun i x v hx hv => ?_⟩
 rcases Nat.lt_or_ge i as0.length with hl | hl
 ·rw [List.getElem?_append_left hl] at hx
  rw [List.getElem?_append_left (by rw [h1.1]; exact hl)] at hv
  exact h1.2 i x v hx hv
 ·rw [List.getElem?_append_right hl] at hx
  rw [List.getElem?_append_right (by rw [h1.1]; exact hl),h1.1] at hv
  exact h2.2 _ x v hx hv
theorem dms_sound (F : FR w L σ fr a.tmps) {os : List Operand} {xs : List Opd} (h : os.mapM opd = some xs) : RVs w L σ (xs.map fun x => dm (ev fr x)) (os.map a.eval) := by
 have h0 := zjS F h
 refine ⟨by have := h0.1; simpa using this,fun i b v hb hv => ?_⟩
 simp only [List.getElem?_map,Option.map_eq_some_iff] at hb
 obtain ⟨x,hx,rfl⟩ := hb
 exact zrF (h0.2 i (ev fr x) v (by simp [hx]) hv)
abbrev After (P : Program) (o : Oper) (a : Act) (L : Nat → Loc) (σ : List zh) (w : World) (K : KT) (next : Act → World → Prop) : Prop :=
 ∀ r v L' σ' w',zdg L σ w L' σ' w' → Sim L' σ' w' → RV w' L' σ' r v → K r σ' → next (a.put o.dst v) w'
theorem zaI.wp (h : zaI P o a L σ w K) {next : Act → World → Prop} {Q : Exit → Act → World → Prop} (hk : After P o a L σ w K next) : o.wp P a w next Q := by
 obtain ⟨r,v,L', σ',w',hrun,s,S',hr,hK⟩ := h
 unfold Oper.wp
 rcases hrun with hrun | ⟨hrun,rfl⟩
 ·rw [hrun]; exact hk r v L' σ' w' s S' hr hK
 ·rw [hrun]; exact hk r _ L' σ' w' s S' hr hK
theorem call_wp {f : FuncId} {as0 : List AV} {vs : List Value} (hrun : (execOp a.eval o).run P w = .ok (.enter f vs.toArray) w) (S : Sim L σ w) (hv : RVs w L σ as0 vs) (h : zr P f as0 σ K) {next : Act → World → Prop} {Q : Exit → Act → World → Prop}
  (hk : After P o a L σ w K next) : o.wp P a w next Q := by
 unfold Oper.wp
 rw [hrun,Oper.upon_enter]
 refine (h.2 L w vs S hv).mono fun e w' he => ?_
 cases e with
 | returned v =>
  obtain ⟨L', σ',r,s,S',hr,hK⟩ := he
  exact hk r v L' σ' w' s S' hr hK
 | panicked ch => exact he.elim
 | outgrown => exact he.elim
theorem astep_sound {i : I} (hc : zcn P o = some i.norm) (S : Sim L σ w) (F : FR w L σ fr a.tmps) (h : zaP P i fr σ K) {next : Act → World → Prop} {Q : Exit → Act → World → Prop}
  (hk : After P o a L σ w K next) : o.wp P a w next Q := by
 cases hop : o.op with
 | move x =>
  simp only [zcn,hop,Option.bind_eq_bind,Option.bind_eq_some_iff,Option.pure_def,Option.some.injEq] at hc
  obtain ⟨y,hy,hc⟩ := hc
  cases i <;> simp only [I.norm] at hc <;> cases hc
  exact (snd_mv S F hy (.inl hop) h).wp hk
 | assign x =>
  simp only [zcn,hop,Option.bind_eq_bind,Option.bind_eq_some_iff,Option.pure_def,Option.some.injEq] at hc
  obtain ⟨y,hy,hc⟩ := hc
  cases i <;> simp only [I.norm] at hc <;> cases hc
  exact (snd_mv S F hy (.inr hop) h).wp hk
 | pick c x y =>
  simp only [zcn,hop,Option.bind_eq_bind,Option.bind_eq_some_iff,Option.pure_def,Option.some.injEq] at hc
  obtain ⟨c',hc',x',hx,y',hy,hc⟩ := hc
  cases i <;> simp only [I.norm] at hc <;> cases hc
  exact (snd_pick S F hc' hx hy hop h).wp hk
 | alloc t =>
  simp only [zcn,hop,Option.bind_eq_bind,Option.bind_eq_some_iff,Option.pure_def,Option.some.injEq] at hc
  obtain ⟨z,hz,hc⟩ := hc
  cases i <;> simp only [I.norm] at hc <;> cases hc
  exact (snd_alloc S hz hop h).wp hk
 | box t x =>
  simp only [zcn,hop,Option.bind_eq_bind,Option.bind_eq_some_iff,Option.pure_def,Option.some.injEq] at hc
  obtain ⟨y,hy,hc⟩ := hc
  cases i <;> simp only [I.norm] at hc <;> cases hc
  exact (snd_box S F hy hop h).wp hk
 | build t parts =>
  have hc' := hc
  simp only [zcn,hop] at hc
  have : i.norm = i := by
   split at hc
   ·simp only [Option.bind_eq_bind,Option.bind_eq_some_iff] at hc
    obtain ⟨_,_,_,_,hc⟩ := hc
    split at hc
    ·simp only [Option.pure_def,Option.some.injEq] at hc
     cases i <;> simp only [I.norm] at hc <;> cases hc; rfl
    ·cases hc
   ·simp only [Option.bind_eq_bind,Option.bind_eq_some_iff,Option.pure_def,Option.some.injEq] at hc
    obtain ⟨_,_,_,_,_,_,hc⟩ := hc
    cases i <;> simp only [I.norm] at hc <;> cases hc; rfl
   ·cases hc
  rw [this] at hc'
  exact (snd_build S F hop hc' h).wp hk
 | buildSlice t n parts =>
  have hc' := hc
  simp only [zcn,hop] at hc
  split at hc
  ·simp only [Option.bind_eq_bind,Option.bind_eq_some_iff,Option.pure_def] at hc
   obtain ⟨_,_,_,_,_,_,hc⟩ := hc
   split at hc
   ·simp only [Option.some.injEq] at hc
    cases i <;> simp only [I.norm] at hc <;> cases hc
    exact (snd_mkslice S F hop hc' h).wp hk
   ·cases hc
  ·cases hc
 | load t x =>
  simp only [zcn,hop,Option.bind_eq_bind,Option.bind_eq_some_iff,Option.pure_def,Option.some.injEq] at hc
  obtain ⟨g,hg,n,hn,y,hy,hc⟩ := hc
  cases i <;> simp only [I.norm] at hc <;> cases hc
  exact (snd_load S F hg hn hy hop h).wp hk
 | store t x y =>
  simp only [zcn,hop,Option.bind_eq_bind,Option.bind_eq_some_iff,Option.pure_def,Option.some.injEq] at hc
  obtain ⟨n,hn,x',hx,y',hy,hc⟩ := hc
  cases i <;> simp only [I.norm] at hc <;> cases hc
  exact (snd_store S F hn hx hy hop h).wp hk
 | nilCheck x =>
  simp only [zcn,hop,Option.bind_eq_bind,Option.bind_eq_some_iff,Option.pure_def,Option.some.injEq] at hc
  obtain ⟨y,hy,hc⟩ := hc
  cases i <;> simp only [I.norm] at hc <;> cases hc
  exact (snd_nilchk S F hy hop h).wp hk
 | binOp op t x y u =>
  simp only [zcn,hop] at hc
  split at hc
  ·rename_i hn
   simp only [Option.bind_eq_bind,Option.bind_eq_some_iff,Option.pure_def,Option.some.injEq] at hc
   obtain ⟨x',hx,hc⟩ := hc
   cases i <;> simp only [I.norm] at hc <;> cases hc
   exact (snd_isnil S F hn hx hop h).wp hk
  ·simp only [Option.bind_eq_bind,Option.bind_eq_some_iff,Option.pure_def,Option.some.injEq] at hc
   obtain ⟨e,he,x',hx,y',hy,hc⟩ := hc
   cases i <;> simp only [I.norm] at hc <;> cases hc
   exact (snd_bin S F he hx hy hop h).wp hk
 | makeMap t r =>
  cases r with
  | some r => simp [zcn,hop] at hc
  | none =>
   simp only [zcn,hop] at hc
   split at hc
   ·rename_i kt et ht
    cases i <;> simp only [I.norm] at hc <;> cases hc
    exact (snd_mkmap S ht hop h).wp hk
   ·cases hc
 | lookup t m k ok =>
  simp only [zcn,hop] at hc
  split at hc
  ·rename_i kt et ht
   simp only [Option.bind_eq_bind,Option.bind_eq_some_iff,Option.pure_def,Option.some.injEq] at hc
   obtain ⟨kk,hkk,inf,hi,z,hz,za,hza,m',hm,k',hk',hc⟩ := hc
   cases i <;> simp only [I.norm] at hc <;> cases hc
   exact (snd_mget S F ht hkk hi hz hza hm hk' hop h).wp hk
  ·cases hc
 | mapUpdate t m k x =>
  simp only [zcn,hop] at hc
  split at hc
  ·rename_i kt et ht
   simp only [Option.bind_eq_bind,Option.bind_eq_some_iff,Option.pure_def,Option.some.injEq] at hc
   obtain ⟨kk,hkk,m',hm,k',hk',x',hx,hc⟩ := hc
   cases i <;> simp only [I.norm] at hc <;> cases hc
   exact (snd_mset S F ht hkk hm hk' hx (.inl hop) h).wp hk
  ·cases hc
 | insert t m k x =>
  simp only [zcn,hop] at hc
  split at hc
  ·rename_i kt et ht
   simp only [Option.bind_eq_bind,Option.bind_eq_some_iff,Option.pure_def,Option.some.injEq] at hc
   obtain ⟨kk,hkk,m',hm,k',hk',x',hx,hc⟩ := hc
   cases i <;> simp only [I.norm] at hc <;> cases hc
   exact (snd_mset S F ht hkk hm hk' hx (.inr hop) h).wp hk
  ·cases hc
 | unOp op t x =>
  simp only [zcn,hop,Option.bind_eq_bind,Option.bind_eq_some_iff,Option.pure_def,Option.some.injEq] at hc
  obtain ⟨y,hy,hc⟩ := hc
  cases i <;> simp only [I.norm] at hc <;> cases hc
  exact (snd_un S F hy hop h).wp hk
 | convert src dst x =>
  have hc' := hc
  simp only [zcn,hop] at hc
  have : i.norm = i := by
   cases i <;> first | rfl | skip
   all_goals
    split at hc <;> first
     | (split at hc <;> first | (simp only [Option.bind_eq_bind,Option.bind_eq_some_iff,Option.pure_def,Option.some.injEq] at hc; obtain ⟨_,_,hc⟩ := hc; simp only [I.norm] at hc; cases hc; done) | (cases hc; done))
     | (simp only [Option.bind_eq_bind,Option.bind_eq_some_iff,Option.pure_def,Option.some.injEq] at hc; obtain ⟨_,_,hc⟩ := hc; simp only [I.norm] at hc; cases hc; done)
     | (cases hc; done)
  rw [this] at hc'
  exact (snd_conv S F hop hc' h).wp hk
 | slice t x lo hi mx =>
  have hc' := hc
  simp only [zcn,hop] at hc
  have : i.norm = i := by
   cases i <;> first | rfl | skip
   all_goals
    split at hc
    ·simp only [Option.bind_eq_bind,Option.bind_eq_some_iff,Option.pure_def,Option.some.injEq] at hc
     obtain ⟨_,_,_,_,_,_,_,_,hc⟩ := hc; simp only [I.norm] at hc; cases hc
    ·simp only [Option.bind_eq_bind,Option.bind_eq_some_iff,Option.pure_def,Option.some.injEq] at hc
     obtain ⟨_,_,_,_,_,_,_,_,_,_,hc⟩ := hc; simp only [I.norm] at hc; cases hc
    ·simp only [Option.bind_eq_bind,Option.bind_eq_some_iff,Option.pure_def,Option.some.injEq] at hc
     obtain ⟨_,_,_,_,_,_,_,_,_,_,hc⟩ := hc; simp only [I.norm] at hc; cases hc
    ·cases hc
  rw [this] at hc'
  exact (snd_slc S F hop hc' h).wp hk
 | fieldAddr t x k =>
  have hc' := hc
  simp only [zcn,hop] at hc
  have : i.norm = i := by
   cases i <;> first | rfl | skip
   all_goals
    split at hc
    ·simp only [Option.bind_eq_bind,Option.bind_eq_some_iff] at hc
     obtain ⟨_,_,_,_,hc⟩ := hc
     split at hc
     ·cases hc
     ·simp only [Option.bind_eq_some_iff,Option.pure_def,Option.some.injEq] at hc
      obtain ⟨_,_,hc⟩ := hc; simp only [I.norm] at hc; cases hc
    ·cases hc
  rw [this] at hc'
  exact (snd_faddr S F hop hc' h).wp hk
 | field t x k =>
  have hc' := hc
  simp only [zcn,hop] at hc
  have : i.norm = i := by
   cases i <;> first | rfl | skip
   all_goals
    split at hc
    ·simp only [Option.bind_eq_bind,Option.bind_eq_some_iff,Option.pure_def,Option.some.injEq] at hc
     obtain ⟨_,_,_,_,_,_,_,_,hc⟩ := hc; simp only [I.norm] at hc; cases hc
    ·cases hc
  rw [this] at hc'
  exact (snd_field S F hop hc' h).wp hk
 | indexAddr t x y =>
  have hc' := hc
  simp only [zcn,hop] at hc
  have : i.norm = i := by
   cases i <;> first | rfl | skip
   all_goals
    split at hc
    ·simp only [Option.bind_eq_bind,Option.bind_eq_some_iff,Option.pure_def,Option.some.injEq] at hc
     obtain ⟨_,_,_,_,_,_,hc⟩ := hc; simp only [I.norm] at hc; cases hc
    ·simp only [Option.bind_eq_bind,Option.bind_eq_some_iff,Option.pure_def,Option.some.injEq] at hc
     obtain ⟨_,_,_,_,_,_,hc⟩ := hc; simp only [I.norm] at hc; cases hc
    ·cases hc
  rw [this] at hc'
  exact (snd_iaddr S F hop hc' h).wp hk
 | index t x y =>
  have hc' := hc
  simp only [zcn,hop] at hc
  have : i.norm = i := by
   cases i <;> first | rfl | skip
   all_goals
    split at hc
    ·simp only [Option.bind_eq_bind,Option.bind_eq_some_iff,Option.pure_def,Option.some.injEq] at hc
     obtain ⟨_,_,_,_,hc⟩ := hc; simp only [I.norm] at hc; cases hc
    ·simp only [Option.bind_eq_bind,Option.bind_eq_some_iff,Option.pure_def,Option.some.injEq] at hc
     obtain ⟨_,_,_,_,_,_,_,_,hc⟩ := hc; simp only [I.norm] at hc; cases hc
    ·cases hc
  rw [this] at hc'
  exact (snd_idxA S F hop hc' h).wp hk
 | extract x k =>
  simp only [zcn,hop,Option.bind_eq_bind,Option.bind_eq_some_iff,Option.pure_def,Option.some.injEq] at hc
  obtain ⟨y,hy,hc⟩ := hc
  cases i <;> simp only [I.norm] at hc <;> cases hc
  exact (snd_extract S F hy hop h).wp hk
 | range t x =>
  have hc' := hc
  simp only [zcn,hop] at hc
  have : i.norm = i := by
   cases i <;> first | rfl | skip
   all_goals
    split at hc
    ·simp only [Option.bind_eq_bind,Option.bind_eq_some_iff,Option.pure_def,Option.some.injEq] at hc
     obtain ⟨_,_,hc⟩ := hc; simp only [I.norm] at hc; cases hc
    ·cases hc
  rw [this] at hc'
  exact (snd_rangeS S F hop hc' h).wp hk
 | next x s =>
  cases s
  ·simp [zcn,hop] at hc
  ·simp only [zcn,hop,Option.bind_eq_bind,Option.bind_eq_some_iff,Option.pure_def,Option.some.injEq] at hc
   obtain ⟨y,hy,hc⟩ := hc
   cases i <;> simp only [I.norm] at hc <;> cases hc
   exact (snd_nextS S F hy hop h).wp hk
 | makeFunc f first cap =>
  simp only [zcn,hop,Option.bind_eq_bind,Option.bind_eq_some_iff,Option.pure_def,Option.some.injEq] at hc
  obtain ⟨f',hf,c',hcp,hc⟩ := hc
  cases i <;> simp only [I.norm] at hc <;> cases hc
  exact (snd_mkfn S F hf hcp hop h).wp hk
 | call c =>
  simp only [zcn,hop] at hc
  split at hc
  ·rename_i f hcal
   split at hc
   ·rename_i hok
    simp only [Option.bind_eq_bind,Option.bind_eq_some_iff,Option.pure_def,Option.some.injEq] at hc
    obtain ⟨args,hargs,hc⟩ := hc
    cases i <;> simp only [I.norm] at hc <;> cases hc
    rename_i raw
    have e1 : c.args.map a.eval = (c.args.toList.map a.eval).toArray := by apply Array.ext'; simp
    cases raw
    ·refine call_wp (vs := c.args.toList.map a.eval) ?_ S (dms_sound F hargs) h hk
     simp [execOp,hop,resolve,hcal,Act.eval,Deferred.ofValue,invoke,zlM hok,e1]
    ·refine call_wp (vs := c.args.toList.map a.eval) ?_ S (zjS F hargs) h hk
     simp [execOp,hop,resolve,hcal,Act.eval,Deferred.ofValue,invoke,zlM hok,e1]
   ·cases hc
  ·rename_i x _ hcal
   simp only [Option.bind_eq_bind,Option.bind_eq_some_iff,Option.pure_def,Option.some.injEq] at hc
   obtain ⟨g,hg,args,hargs,hc⟩ := hc
   cases i <;> simp only [I.norm] at hc <;> cases hc
   simp only [zaP,zaq] at h
   have hv := zX F hg
   split at h
   ·rename_i f first cap hid
    rw [hid] at hv
    obtain ⟨fs,cs,hX,r1,r2⟩ := hv.fn_inv
    refine call_wp (vs := fs ++ c.args.toList.map a.eval ++ cs) ?_ S ((r1.append (dms_sound F hargs)).append r2) h hk
    have e1 : c.args.map a.eval = (c.args.toList.map a.eval).toArray := by apply Array.ext'; simp
    simp [execOp,hop,resolve,hcal,hX,Deferred.ofValue,invoke,zlM h.1,e1]
   ·exact h.elim
  ·rename_i hcal
   split at hc
   ·rename_i t x ht hargs
    have key : ∀ (k : LK) (y : Opd),opd x = some y → i = .len k y → LKok P t k → o.wp P a w next Q := fun k y hy hi hp => by
     subst hi; exact (snd_len S F hop hcal ht hargs hy hp h).wp hk
    split at hc
    ·rename_i hu
     simp only [Option.bind_eq_bind,Option.bind_eq_some_iff,Option.pure_def,Option.some.injEq] at hc
     obtain ⟨y,hy,hc⟩ := hc
     exact key .str y hy (by cases i <;> simp only [I.norm] at hc <;> cases hc; rfl) hu
    ·rename_i e hu
     simp only [Option.bind_eq_bind,Option.bind_eq_some_iff,Option.pure_def,Option.some.injEq] at hc
     obtain ⟨y,hy,hc⟩ := hc
     exact key .sl y hy (by cases i <;> simp only [I.norm] at hc <;> cases hc; rfl) ⟨e,hu⟩
    ·rename_i n e hu
     simp only [Option.bind_eq_bind,Option.bind_eq_some_iff,Option.pure_def,Option.some.injEq] at hc
     obtain ⟨y,hy,hc⟩ := hc
     exact key (.arr n) y hy (by cases i <;> simp only [I.norm] at hc <;> cases hc; rfl) (.inl ⟨e,hu⟩)
    ·simp only [Option.bind_eq_bind,Option.bind_eq_some_iff,Option.pure_def,Option.some.injEq] at hc
     obtain ⟨y,hy,hc⟩ := hc
     exact key .map y hy (by cases i <;> simp only [I.norm] at hc <;> cases hc; rfl) ⟨_,_,by assumption⟩
    ·rename_i e hu
     split at hc
     ·rename_i n e' hu'
      simp only [Option.bind_eq_bind,Option.bind_eq_some_iff,Option.pure_def,Option.some.injEq] at hc
      obtain ⟨y,hy,hc⟩ := hc
      exact key (.arr n) y hy (by cases i <;> simp only [I.norm] at hc <;> cases hc; rfl) (.inr ⟨e,e',hu,hu'⟩)
     ·cases hc
    ·cases hc
   ·cases hc
  ·rename_i hcal
   split at hc
   ·rename_i t u x y hat hargs
    have key : ∀ e,P.underlying t = some (.slice e) → ((∃ e',P.underlying u = some (.slice e')) ∨ P.underlying u = some .string) →
      (do let s ← sizeOf? P e; let i ← P.info? e; let z ← zpJ P e; if 0 < s && z.length == s && 0 < i.bytes then pure (I.append false s i.bytes z (← opd x) (← opd y)) else none) = some i.norm → o.wp P a w next Q := fun e ht hu hc => by
     simp only [Option.bind_eq_bind,Option.bind_eq_some_iff] at hc
     obtain ⟨s,hs,inf,hi,z,hz,hc⟩ := hc
     split at hc
     ·rename_i hcond
      simp only [Bool.and_eq_true,decide_eq_true_eq,beq_iff_eq] at hcond
      simp only [Option.bind_eq_some_iff,Option.pure_def,Option.some.injEq] at hc
      obtain ⟨x',hx,y',hy,hc⟩ := hc
      cases i <;> simp only [I.norm] at hc <;> cases hc
      rename_i mu
      cases mu
      ·exact (snd_append S F hop hcal hat hargs ht hu hs hi hz hcond.1.1 hcond.1.2 hcond.2 rfl hx hy h).wp hk
      ·exact (snd_appendR S F hop hcal hat hargs ht hu hs hi hz hcond.1.1 hcond.1.2 hcond.2 rfl hx hy h).wp hk
     ·cases hc
    split at hc
    ·rename_i e e' ht hu; exact key e ht (.inl ⟨e',hu⟩) hc
    ·rename_i e ht hu; exact key e ht (.inr hu) hc
    ·rename_i e k0 ht hu
     simp only [Option.bind_eq_bind,Option.bind_eq_some_iff] at hc
     obtain ⟨s,hs,inf,hi,z,hz,hc⟩ := hc
     split at hc
     ·rename_i hcond
      simp only [Bool.and_eq_true,decide_eq_true_eq,beq_iff_eq] at hcond
      simp only [Option.bind_eq_some_iff,Option.pure_def,Option.some.injEq] at hc
      obtain ⟨x',hx,y',hy,hc⟩ := hc
      cases i <;> simp only [I.norm] at hc <;> cases hc
      exact (snd_appz S F hop hcal hat hargs ht hu hs hi hz hcond.1.1 hcond.1.2 hcond.2 rfl hx hy h).wp hk
     ·cases hc
    ·cases hc
   ·cases hc
  ·rename_i hcal
   split at hc
   ·rename_i t m k hat hargs
    split at hc
    ·rename_i kt et ht
     simp only [Option.bind_eq_bind,Option.bind_eq_some_iff,Option.pure_def,Option.some.injEq] at hc
     obtain ⟨kk,hkk,m',hm,k',hk',hc⟩ := hc
     cases i <;> simp only [I.norm] at hc <;> cases hc
     exact (snd_mdel S F hop hcal hat hargs ht hkk hm hk' h).wp hk
    ·cases hc
   ·cases hc
  ·rename_i hcal
   split at hc
   ·rename_i t x hat hargs
    split at hc
    ·rename_i e ht
     simp only [Option.bind_eq_bind,Option.bind_eq_some_iff,Option.pure_def,Option.some.injEq] at hc
     obtain ⟨x',hx,hc⟩ := hc
     cases i <;> simp only [I.norm] at hc <;> cases hc
     exact (snd_cap S F hop hcal hat hargs ht hx h).wp hk
    ·cases hc
   ·cases hc
  ·rename_i hcal
   simp only [Option.bind_eq_bind,Option.bind_eq_some_iff,Option.pure_def,Option.some.injEq] at hc
   obtain ⟨ys,hys,hc⟩ := hc
   cases i <;> simp only [I.norm] at hc <;> cases hc
   exact (snd_max S F hop hcal hys h).wp hk
  ·rename_i hcal
   simp only [Option.bind_eq_bind,Option.bind_eq_some_iff,Option.pure_def,Option.some.injEq] at hc
   obtain ⟨ys,hys,hc⟩ := hc
   cases i <;> simp only [I.norm] at hc <;> cases hc
   exact (snd_min S F hop hcal hys h).wp hk
  ·cases hc
 | makeInterface t x =>
  simp only [zcn,hop,Option.some.injEq] at hc
  cases i <;> simp only [I.norm] at hc <;> cases hc
  exact h.elim
 | panic x =>
  simp only [zcn,hop,Option.some.injEq] at hc
  cases i <;> simp only [I.norm] at hc <;> cases hc
  exact h.elim
 | _ => simp [zcn,hop] at hc
end
variable {P : Program}
theorem zr.mono0 {f : FuncId} {as0 : List AV} {σ : List zh} {K K' : AV → List zh → Prop} (hk : ∀ r σ',K r σ' → K' r σ') (h : zr P f as0 σ K) : zr P f as0 σ K' :=
 ⟨h.1,fun L w vs S hv => Calls.mono (h.2 L w vs S hv) fun e w' he => by
  cases e with
  | returned v => obtain ⟨L', σ',r,a,b,c,d⟩ := he; exact ⟨L', σ',r,a,b,c,hk _ _ d⟩
  | panicked _ => exact he
  | outgrown => exact he⟩
theorem binA_mono {op : BinOp} {e : EK} {x y : AV} {K K' : AV → Prop} (hk : ∀ a,K a → K' a) (h : zdz op e x y K) : zdz op e x y K' := by
 unfold zdz at *
 repeat' split at h
 all_goals (first | exact h.elim | exact hk _ h | exact ⟨h.1,hk _ h.2⟩ | exact ⟨h.1,h.2.1,hk _ h.2.2⟩ | skip)
 all_goals (simp only [*]; try exact ⟨h.1,hk _ h.2⟩)
 all_goals grind
theorem boxC_mono (x : AV) {σ : List zh} {K K' : KT} (hk : ∀ a s,K a s → K' a s) (h : zbj x σ K) : zbj x σ K' := by
 unfold zbj at *
 repeat' split at h
 all_goals (first | exact h.elim | skip)
 all_goals (revert h; try simp only [*,if_true,if_false,Bool.false_eq_true,reduceIte,ite_true,ite_false])
 all_goals (intro h)
 all_goals (repeat (refine ⟨h.1, ?_⟩; replace h := h.2))
 all_goals (first | exact hk _ _ h | exact h.elim)
theorem buildC_mono (o : Option (List AV)) {σ : List zh} {K K' : KT} (hk : ∀ a s,K a s → K' a s) (h : zD o σ K) : zD o σ K' := by
 unfold zD at *
 repeat' split at h
 all_goals (first | exact h.elim | skip)
 all_goals (revert h; try simp only [*,if_true,if_false,Bool.false_eq_true,reduceIte,ite_true,ite_false])
 all_goals (intro h)
 all_goals (repeat (refine ⟨h.1, ?_⟩; replace h := h.2))
 all_goals (first | exact hk _ _ h | exact h.elim)
theorem zvG (mu : Bool) (s n : Nat) (o : Option (List AV)) {σ : List zh} {K K' : KT} (hk : ∀ a s,K a s → K' a s) (h : zw mu s n o σ K) : zw mu s n o σ K' := by
 unfold zw at *
 repeat' split at h
 all_goals (first | exact h.elim | skip)
 all_goals (revert h; try simp only [*,if_true,if_false,Bool.false_eq_true,reduceIte,ite_true,ite_false])
 all_goals (intro h)
 all_goals (repeat (refine ⟨h.1, ?_⟩; replace h := h.2))
 all_goals (first | exact hk _ _ h | exact h.elim)
theorem loadC_mono (agg : Bool) (n : Nat) (x : AV) {σ : List zh} {K K' : KT} (hk : ∀ a s,K a s → K' a s) (h : zo agg n x σ K) : zo agg n x σ K' := by
 unfold zo at *
 repeat' split at h
 all_goals (first | exact h.elim | skip)
 all_goals (revert h; try simp only [*,if_true,if_false,Bool.false_eq_true,reduceIte,ite_true,ite_false])
 all_goals (intro h)
 all_goals (repeat (refine ⟨h.1, ?_⟩; replace h := h.2))
 all_goals (first | exact hk _ _ h | exact h.elim)
theorem storeC_mono (n : Nat) (x y : AV) {σ : List zh} {K K' : KT} (hk : ∀ a s,K a s → K' a s) (h : zj n x y σ K) : zj n x y σ K' := by
 unfold zj at *
 repeat' split at h
 all_goals (first | exact h.elim | skip)
 all_goals (revert h; try simp only [*,if_true,if_false,Bool.false_eq_true,reduceIte,ite_true,ite_false])
 all_goals (intro h)
 all_goals (repeat (refine ⟨h.1, ?_⟩; replace h := h.2))
 all_goals (first | exact hk _ _ h | exact h.elim)
theorem nilC_mono (x : AV) {σ : List zh} {K K' : KT} (hk : ∀ a s,K a s → K' a s) (h : zbr x σ K) : zbr x σ K' := by
 unfold zbr at *
 repeat' split at h
 all_goals (first | exact h.elim | skip)
 all_goals (revert h; try simp only [*,if_true,if_false,Bool.false_eq_true,reduceIte,ite_true,ite_false])
 all_goals (intro h)
 all_goals (repeat (refine ⟨h.1, ?_⟩; replace h := h.2))
 all_goals (first | exact hk _ _ h | exact h.elim)
theorem convC_mono (c : CK) (x : AV) {σ : List zh} {K K' : KT} (hk : ∀ a s,K a s → K' a s) (h : zal c x σ K) : zal c x σ K' := by
 unfold zal at *
 repeat' split at h
 all_goals (first | exact h.elim | skip)
 all_goals (revert h; try simp only [*,if_true,if_false,Bool.false_eq_true,reduceIte,ite_true,ite_false])
 all_goals (intro h)
 all_goals (repeat (refine ⟨h.1, ?_⟩; replace h := h.2))
 all_goals (first | exact hk _ _ h | exact h.elim)
theorem slcC_mono (k : SK) (x : AV) (lo hi mx : Option AV) {σ : List zh} {K K' : KT} (hk : ∀ a s,K a s → K' a s) (h : zcB k x lo hi mx σ K) : zcB k x lo hi mx σ K' := by
 unfold zcB at *
 repeat' split at h
 all_goals (first | exact h.elim | skip)
 all_goals (revert h; try simp only [*,if_true,if_false,Bool.false_eq_true,reduceIte,ite_true,ite_false])
 all_goals (intro h)
 all_goals (repeat (refine ⟨h.1, ?_⟩; replace h := h.2))
 all_goals (first | exact hk _ _ h | exact h.elim)
theorem faddrC_mono (off : Nat) (x : AV) {σ : List zh} {K K' : KT} (hk : ∀ a s,K a s → K' a s) (h : zg off x σ K) : zg off x σ K' := by
 unfold zg at *
 repeat' split at h
 all_goals (first | exact h.elim | skip)
 all_goals (revert h; try simp only [*,if_true,if_false,Bool.false_eq_true,reduceIte,ite_true,ite_false])
 all_goals (intro h)
 all_goals (repeat (refine ⟨h.1, ?_⟩; replace h := h.2))
 all_goals (first | exact hk _ _ h | exact h.elim)
theorem fieldC_mono (agg : Bool) (off n : Nat) (x : AV) {σ : List zh} {K K' : KT} (hk : ∀ a s,K a s → K' a s) (h : zai agg off n x σ K) : zai agg off n x σ K' := by
 unfold zai at *
 repeat' split at h
 all_goals (first | exact h.elim | skip)
 all_goals (revert h; try simp only [*,if_true,if_false,Bool.false_eq_true,reduceIte,ite_true,ite_false])
 all_goals (intro h)
 all_goals (repeat (refine ⟨h.1, ?_⟩; replace h := h.2))
 all_goals (first | exact hk _ _ h | exact h.elim)
theorem iaddrC_mono (arr : Option Nat) (sz : Nat) (x i : AV) {σ : List zh} {K K' : KT} (hk : ∀ a s,K a s → K' a s) (h : zH arr sz x i σ K) : zH arr sz x i σ K' := by
 unfold zH at *
 repeat' split at h
 all_goals (first | exact h.elim | skip)
 all_goals (revert h; try simp only [*,if_true,if_false,Bool.false_eq_true,reduceIte,ite_true,ite_false])
 all_goals (intro h)
 all_goals (repeat (refine ⟨h.1, ?_⟩; replace h := h.2))
 all_goals (first | exact hk _ _ h | exact h.elim)
theorem idxSC_mono (x i : AV) {σ : List zh} {K K' : KT} (hk : ∀ a s,K a s → K' a s) (h : zaM x i σ K) : zaM x i σ K' := by
 unfold zaM at *
 repeat' split at h
 all_goals (first | exact h.elim | skip)
 all_goals (revert h; try simp only [*,if_true,if_false,Bool.false_eq_true,reduceIte,ite_true,ite_false])
 all_goals (intro h)
 all_goals (repeat (refine ⟨h.1, ?_⟩; replace h := h.2))
 all_goals (first | exact hk _ _ h | exact h.elim)
theorem idxAC_mono (agg : Bool) (n sz : Nat) (x i : AV) {σ : List zh} {K K' : KT} (hk : ∀ a s,K a s → K' a s) (h : zaV agg n sz x i σ K) : zaV agg n sz x i σ K' := by
 unfold zaV at *
 repeat' split at h
 all_goals (first | exact h.elim | skip)
 all_goals (revert h; try simp only [*,if_true,if_false,Bool.false_eq_true,reduceIte,ite_true,ite_false])
 all_goals (intro h)
 all_goals (repeat (refine ⟨h.1, ?_⟩; replace h := h.2))
 all_goals (first | exact hk _ _ h | exact h.elim)
theorem zvP (x : AV) (k : Nat) {σ : List zh} {K K' : KT} (hk : ∀ a s,K a s → K' a s) (h : ze x k σ K) : ze x k σ K' := by
 unfold ze at *
 repeat' split at h
 all_goals (first | exact h.elim | skip)
 all_goals (revert h; try simp only [*,if_true,if_false,Bool.false_eq_true,reduceIte,ite_true,ite_false])
 all_goals (intro h)
 all_goals (repeat (refine ⟨h.1, ?_⟩; replace h := h.2))
 all_goals (first | exact hk _ _ h | exact h.elim)
theorem lenC_mono (k : LK) (x : AV) {σ : List zh} {K K' : KT} (hk : ∀ a s,K a s → K' a s) (h : zax k x σ K) : zax k x σ K' := by
 unfold zax at *
 repeat' split at h
 all_goals (first | exact h.elim | skip)
 all_goals (revert h; try simp only [*,if_true,if_false,Bool.false_eq_true,reduceIte,ite_true,ite_false])
 all_goals (intro h)
 all_goals (repeat (refine ⟨h.1, ?_⟩; replace h := h.2))
 all_goals (first | exact hk _ _ h | exact h.elim)
theorem appendC_mono (sz bytes : Nat) (x y : AV) {σ : List zh} {K K' : KT} (hk : ∀ a s,K a s → K' a s) (h : zB sz bytes x y σ K) : zB sz bytes x y σ K' := by
 unfold zB at *
 repeat' split at h
 all_goals (first | exact h.elim | skip)
 all_goals (revert h; try simp only [*,if_true,if_false,Bool.false_eq_true,reduceIte,ite_true,ite_false])
 all_goals (intro h)
 all_goals (repeat (refine ⟨h.1, ?_⟩; replace h := h.2))
 all_goals (first | exact hk _ _ h | exact h.elim)
theorem zqk (sz bytes : Nat) (x : AV) (m : Nat) (ys : List AV) {σ : List zh} {K K' : KT} (hk : ∀ a s,K a s → K' a s) (h : zoU sz bytes x m ys σ K) : zoU sz bytes x m ys σ K' := by
 unfold zoU at *
 repeat' split at h
 all_goals (first | exact h.elim | skip)
 all_goals (revert h; try simp only [*,if_true,if_false,Bool.false_eq_true,reduceIte,ite_true,ite_false])
 all_goals (intro h)
 all_goals (repeat (refine ⟨h.1, ?_⟩; replace h := h.2))
 all_goals (first | exact hk _ _ h | exact h.elim)
theorem zwv (sz bytes : Nat) (x y : AV) {σ : List zh} {K K' : KT} (hk : ∀ a s,K a s → K' a s) (h : zdO sz bytes x y σ K) : zdO sz bytes x y σ K' := by
 unfold zdO at *
 split at h
 ·split at h
  ·exact ⟨h.1,h.2.1,h.2.2.1,zqk _ _ _ _ _ hk h.2.2.2⟩
  ·exact h.elim
 ·split at h
  ·exact ⟨h.1,zqk _ _ _ _ _ hk h.2⟩
  ·exact h.elim
theorem capC_mono (x : AV) {σ : List zh} {K K' : KT} (hk : ∀ a s,K a s → K' a s) (h : capC x σ K) : capC x σ K' := by
 unfold capC at *
 split at h
 ·exact hk _ _ h
 ·exact h.elim
theorem appzC_mono (sz bytes : Nat) (z : List AV) (x n : AV) {σ : List zh} {K K' : KT} (hk : ∀ a s,K a s → K' a s) (h : appzC sz bytes z x n σ K) : appzC sz bytes z x n σ K' := by
 unfold appzC at *
 split at h
 ·exact ⟨h.1,zqk _ _ _ _ _ hk h.2⟩
 ·exact h.elim
theorem maxC_mono (xs : List AV) {σ : List zh} {K K' : KT} (hk : ∀ a s,K a s → K' a s) (h : zdb xs σ K) : zdb xs σ K' := by
 unfold zdb at *
 repeat' split at h
 all_goals (first | exact h.elim | skip)
 all_goals (revert h; try simp only [*,if_true,if_false,Bool.false_eq_true,reduceIte,ite_true,ite_false])
 all_goals (intro h)
 all_goals (repeat (refine ⟨h.1, ?_⟩; replace h := h.2))
 all_goals (first | exact hk _ _ h | exact h.elim)
theorem minC_mono (xs : List AV) {σ : List zh} {K K' : KT} (hk : ∀ a s,K a s → K' a s) (h : zdx xs σ K) : zdx xs σ K' := by
 unfold zdx at *
 repeat' split at h
 all_goals (first | exact h.elim | skip)
 all_goals (revert h; try simp only [*,if_true,if_false,Bool.false_eq_true,reduceIte,ite_true,ite_false])
 all_goals (intro h)
 all_goals (repeat (refine ⟨h.1, ?_⟩; replace h := h.2))
 all_goals (first | exact hk _ _ h | exact h.elim)
theorem rangeC_mono (x : AV) {σ : List zh} {K K' : KT} (hk : ∀ a s,K a s → K' a s) (h : zan x σ K) : zan x σ K' := by
 unfold zan at *
 repeat' split at h
 all_goals (first | exact h.elim | skip)
 all_goals (revert h; try simp only [*,if_true,if_false,Bool.false_eq_true,reduceIte,ite_true,ite_false])
 all_goals (intro h)
 all_goals (repeat (refine ⟨h.1, ?_⟩; replace h := h.2))
 all_goals (first | exact hk _ _ h | exact h.elim)
theorem nextC_mono (x : AV) {σ : List zh} {K K' : KT} (hk : ∀ a s,K a s → K' a s) (h : zoL x σ K) : zoL x σ K' := by
 unfold zoL at *
 repeat' split at h
 all_goals (first | exact h.elim | skip)
 all_goals (revert h; try simp only [*,if_true,if_false,Bool.false_eq_true,reduceIte,ite_true,ite_false])
 all_goals (intro h)
 all_goals (repeat (refine ⟨h.1, ?_⟩; replace h := h.2))
 all_goals (first | exact hk _ _ h | exact h.elim)
theorem isnilC_mono (neg : Bool) (x : AV) {σ : List zh} {K K' : KT} (hk : ∀ a s,K a s → K' a s) (h : zao neg x σ K) : zao neg x σ K' := by
 unfold zao at *
 repeat' split at h
 all_goals (first | exact h.elim | exact ⟨hk _ _ h.1,hk _ _ h.2⟩ | exact hk _ _ h | exact ⟨fun e => ⟨hk _ _ (h.1 e).1,hk _ _ (h.1 e).2⟩,fun e => hk _ _ (h.2 e)⟩)
theorem mgetC_mono (kk : KK) (ok : Bool) (z m k : AV) {σ : List zh} {K K' : KT} (hk : ∀ a s,K a s → K' a s) (h : zaU kk ok z m k σ K) : zaU kk ok z m k σ K' := by
 unfold zaU at *
 split at h
 ·refine ⟨h.1, ?_⟩
  replace h := h.2
  split at h <;> first | exact hk _ _ h | exact h.elim
 ·exact h.elim
theorem msetC_mono (kk : KK) (m k x : AV) {σ : List zh} {K K' : KT} (hk : ∀ a s,K a s → K' a s) (h : zbd kk m k x σ K) : zbd kk m k x σ K' := by
 unfold zbd at *
 split at h
 ·split at h
  ·refine ⟨h.1, ?_⟩
   replace h := h.2
   split at h <;> first | exact hk _ _ h | exact h.elim
  ·exact h.elim
 ·exact h.elim
theorem mdelC_mono (kk : KK) (m k : AV) {σ : List zh} {K K' : KT} (hk : ∀ a s,K a s → K' a s) (h : zbl kk m k σ K) : zbl kk m k σ K' := by
 unfold zbl at *
 split at h
 ·split at h
  ·refine ⟨h.1, ?_⟩
   replace h := h.2
   split at h <;> first | exact hk _ _ h | exact h.elim
  ·exact h.elim
 ·exact ⟨h.1,hk _ _ h.2⟩
 ·exact h.elim
theorem zuX {i : I} {fr : zam} {σ : List zh} {K K' : KT} (hk : ∀ a s,K a s → K' a s) (h : zaP P i fr σ K) : zaP P i fr σ K' := by
 cases i <;> simp only [zaP] at h ⊢
 case mv => exact hk _ _ h
 case pick => unfold ztK at *; split at h <;> first | exact ⟨fun e => hk _ _ (h.1 e),fun e => hk _ _ (h.2 e)⟩ | exact h
 case alloc => exact hk _ _ h
 case boxi => exact boxC_mono _ hk h
 case build => exact buildC_mono _ hk h
 case mkslice => exact zvG _ _ _ _ hk h
 case load => exact loadC_mono _ _ _ hk h
 case store => exact storeC_mono _ _ _ hk h
 case nilchk => exact nilC_mono _ hk h
 case bin => exact binA_mono (fun a => hk a σ) h
 case un => unfold unA at *; split at h <;> first | exact hk _ _ h | exact h
 case conv => exact convC_mono _ _ hk h
 case slc => exact slcC_mono _ _ _ _ _ hk h
 case faddr => exact faddrC_mono _ _ hk h
 case field => exact fieldC_mono _ _ _ _ hk h
 case iaddr => exact iaddrC_mono _ _ _ _ hk h
 case idxS => exact idxSC_mono _ _ hk h
 case idxA => exact idxAC_mono _ _ _ _ _ hk h
 case extract => exact zvP _ _ hk h
 case len => exact lenC_mono _ _ hk h
 case append mu _ _ _ _ _ =>
  cases mu
  ·exact appendC_mono _ _ _ _ hk h
  ·exact zwv _ _ _ _ hk h
 case maxi => exact maxC_mono _ hk h
 case mini => exact minC_mono _ hk h
 case rangeS => exact rangeC_mono _ hk h
 case nextS => exact nextC_mono _ hk h
 case isnil => exact isnilC_mono _ _ hk h
 case mkmap => exact hk _ _ h
 case mget => exact mgetC_mono _ _ _ _ _ hk h
 case mset => exact msetC_mono _ _ _ _ hk h
 case mdel => exact mdelC_mono _ _ _ hk h
 case call raw _ _ => cases raw <;> exact zr.mono0 hk h
 case callv => unfold zaq at *; split at h <;> first | exact zr.mono0 hk h | exact h
 case mkfn => exact hk _ _ h
 case cap => exact capC_mono _ hk h
 case appz => exact appzC_mono _ _ _ _ _ hk h
def Opd.slots : Opd → List Nat
 | .tmp t => [t]
 | .lit _ => []
def osl : Option Opd → List Nat
 | some x => x.slots
 | none => []
def lsl (l : List Opd) : List Nat := l.flatMap Opd.slots
def psl (l : List (Nat × Nat × Opd)) : List Nat := l.flatMap fun p => p.2.2.slots
def I.reads : I → List Nat
 | .mv x | .boxi x | .load _ _ x | .nilchk x | .un _ x | .conv _ x | .faddr _ x | .field _ _ _ x | .extract x _ | .len _ x | .rangeS x | .nextS x | .isnil _ x | .cap x => x.slots
 | .bad => []
 | .appz _ _ _ x n => x.slots ++ n.slots
 | .mkmap => []
 | .mget _ _ _ m k => m.slots ++ k.slots
 | .mset _ m k x => m.slots ++ k.slots ++ x.slots
 | .mdel _ m k => m.slots ++ k.slots
 | .pick c a b => c.slots ++ a.slots ++ b.slots
 | .alloc _ => []
 | .build _ ps => psl ps
 | .mkslice _ _ _ _ ps => psl ps
 | .store _ a x => a.slots ++ x.slots
 | .bin _ _ x y => x.slots ++ y.slots
 | .slc _ x lo hi mx => x.slots ++ osl lo ++ osl hi ++ osl mx
 | .iaddr _ _ x i => x.slots ++ i.slots
 | .idxS x i => x.slots ++ i.slots
 | .idxA _ _ _ x i => x.slots ++ i.slots
 | .append _ _ _ _ x y => x.slots ++ y.slots
 | .maxi xs => lsl xs
 | .mini xs => lsl xs
 | .call _ _ xs => lsl xs
 | .callv f xs => f.slots ++ lsl xs
 | .mkfn _ xs ys => lsl xs ++ lsl ys
def Ai.reads (x : Ai) : List Nat :=
 match x.g with
 | some (s,_) => s :: x.i.reads
 | none => x.i.reads
theorem zbv {fr fr' : zam} {x : Opd} (h : ∀ t ∈ x.slots,zgl fr t = zgl fr' t) : ev fr x = ev fr' x := by
 cases x with
 | tmp t => exact h t (by simp [Opd.slots])
 | lit a => rfl
theorem oev_ext {fr fr' : zam} {x : Option Opd} (h : ∀ t ∈ osl x,zgl fr t = zgl fr' t) : x.map (ev fr) = x.map (ev fr') := by
 cases x with
 | none => rfl
 | some x => simp only [Option.map_some]; rw [zbv h]
theorem znU {fr fr' : zam} {l : List Opd} (h : ∀ t ∈ lsl l,zgl fr t = zgl fr' t) : l.map (ev fr) = l.map (ev fr') :=
 List.map_congr_left fun x hx => zbv fun t ht => h t (List.mem_flatMap.2 ⟨x,hx,ht⟩)
theorem zsC {fr fr' : zam} : ∀ {l : List (Nat × Nat × Opd)} {cs : List AV},(∀ t ∈ psl l,zgl fr t = zgl fr' t) → zrn fr cs l = zrn fr' cs l
 | [],_,_ => rfl
 | (off,s,x) :: l,cs,h => by
  have e : ev fr x = ev fr' x := zbv fun t ht => h t (by simp [psl,ht])
  simp only [zrn]
  rw [e]
  split
  ·split
   ·exact zsC fun t ht => h t (by simp only [psl,List.flatMap_cons,List.mem_append] at ht ⊢; exact .inr ht)
   ·rfl
  ·rfl
theorem zpq {i : I} {fr fr' : zam} {σ : List zh} {K : KT} (h : ∀ t ∈ i.reads,zgl fr t = zgl fr' t) : zaP P i fr σ K = zaP P i fr' σ K := by
 cases i <;> simp only [zaP,I.reads,List.mem_append] at h ⊢
 case mv x => rw [zbv h]
 case boxi x => rw [zbv h]
 case load x => rw [zbv h]
 case nilchk x => rw [zbv h]
 case un x => rw [zbv h]
 case conv x => rw [zbv h]
 case faddr x => rw [zbv h]
 case field x => rw [zbv h]
 case extract x => rw [zbv h]
 case len x => rw [zbv h]
 case rangeS x => rw [zbv h]
 case nextS x => rw [zbv h]
 case isnil x => rw [zbv h]
 case cap x => rw [zbv h]
 case appz x n => rw [zbv (x := x) fun t ht => h t (.inl ht),zbv (x := n) fun t ht => h t (.inr ht)]
 case mget m k => rw [zbv (x := m) fun t ht => h t (.inl ht),zbv (x := k) fun t ht => h t (.inr ht)]
 case mset m k x => rw [zbv (x := m) fun t ht => h t (.inl (.inl ht)),zbv (x := k) fun t ht => h t (.inl (.inr ht)),zbv (x := x) fun t ht => h t (.inr ht)]
 case mdel m k => rw [zbv (x := m) fun t ht => h t (.inl ht),zbv (x := k) fun t ht => h t (.inr ht)]
 case pick c a b => rw [zbv (x := c) fun t ht => h t (.inl (.inl ht)),zbv (x := a) fun t ht => h t (.inl (.inr ht)),zbv (x := b) fun t ht => h t (.inr ht)]
 case build => rw [zsC h]
 case mkslice => rw [zsC h]
 case store a x => rw [zbv (x := a) fun t ht => h t (.inl ht),zbv (x := x) fun t ht => h t (.inr ht)]
 case bin x y => rw [zbv (x := x) fun t ht => h t (.inl ht),zbv (x := y) fun t ht => h t (.inr ht)]
 case slc x lo hi mx => rw [zbv (x := x) fun t ht => h t (.inl (.inl (.inl ht))),oev_ext (x := lo) fun t ht => h t (.inl (.inl (.inr ht))),oev_ext (x := hi) fun t ht => h t (.inl (.inr ht)),oev_ext (x := mx) fun t ht => h t (.inr ht)]
 case iaddr x y => rw [zbv (x := x) fun t ht => h t (.inl ht),zbv (x := y) fun t ht => h t (.inr ht)]
 case idxS x y => rw [zbv (x := x) fun t ht => h t (.inl ht),zbv (x := y) fun t ht => h t (.inr ht)]
 case idxA x y => rw [zbv (x := x) fun t ht => h t (.inl ht),zbv (x := y) fun t ht => h t (.inr ht)]
 case append x y => rw [zbv (x := x) fun t ht => h t (.inl ht),zbv (x := y) fun t ht => h t (.inr ht)]
 case maxi => rw [znU h]
 case mini => rw [znU h]
 case call raw f xs =>
  have : xs.map (fun x => dm (ev fr x)) = xs.map (fun x => dm (ev fr' x)) := by
   have := congrArg (List.map dm) (znU h)
   simpa [List.map_map,Function.comp_def] using this
  rw [this,znU h]
 case callv f xs =>
  have : xs.map (fun x => dm (ev fr x)) = xs.map (fun x => dm (ev fr' x)) := by
   have := congrArg (List.map dm) (znU (l := xs) fun t ht => h t (.inr ht))
   simpa [List.map_map,Function.comp_def] using this
  rw [this,zbv (x := f) fun t ht => h t (.inl ht)]
 case mkfn f xs ys => rw [znU (l := xs) fun t ht => h t (.inl ht),znU (l := ys) fun t ht => h t (.inr ht)]
def I.quiet : I → Bool
 | .mv _ | .pick .. | .build .. | .mkslice false .. | .load .. | .nilchk _ | .bin .. | .un .. | .conv .. | .slc .. | .faddr .. | .field .. | .iaddr .. | .idxS .. | .idxA .. | .extract .. | .maxi _ | .mini _ | .mget .. => true
 | .len k _ => match k with | .map => false | _ => true
 | _ => false
def I.at? : I → Option Opd
 | .load _ _ x => some x
 | .mget _ _ _ m _ => some m
 | _ => none
def zP (a : AV) (σ σ' : List zh) : Prop :=
 match a with
 | .box id _ => σ'[id]? = σ[id]?
 | .map id => σ'[id]? = σ[id]?
 | .rpt t _ _ => σ'[t]? = σ[t]?
 | _ => True
theorem binA_quiet {op : BinOp} {e : EK} {x y : AV} {K : AV → Prop} (h : zdz op e x y K) : ∃ v,K v ∧ ∀ K' : AV → Prop,K' v → zdz op e x y K' := by
 unfold zdz at *
 repeat' split at h
 all_goals (first | exact h.elim | exact h.2.elim | exact ⟨_,h,fun _ h' => h'⟩ | exact ⟨_,h.2,fun _ h' => ⟨h.1,h'⟩⟩ | exact ⟨_,h.2.2,fun _ h' => ⟨h.1,h.2.1,h'⟩⟩ | skip)
 all_goals (simp only [*] at h ⊢)
 all_goals (first | exact ⟨_,h,fun _ h' => h'⟩ | exact ⟨_,h.2,fun _ h' => ⟨h.1,h'⟩⟩ | skip)
theorem buildC_quiet (o : Option (List AV)) {σ : List zh} {K : KT} (h : zD o σ K) : ∃ v,K v σ ∧ ∀ (σ' : List zh) (K' : KT),K' v σ' → zD o σ' K' := by
 unfold zD at *
 repeat' split at h
 all_goals (first | exact h.elim | skip)
 all_goals (revert h; try simp only [*,if_true,if_false,Bool.false_eq_true,reduceIte,ite_true,ite_false])
 all_goals (intro h)
 all_goals (first | exact h.2.elim | exact h.2.2.elim | exact ⟨_,h,fun _ _ h' => h'⟩ | exact ⟨_,h.2,fun _ _ h' => ⟨h.1,h'⟩⟩ | exact ⟨_,h.2.2,fun _ _ h' => ⟨h.1,h.2.1,h'⟩⟩ | exact ⟨_,h.2.2.2,fun _ _ h' => ⟨h.1,h.2.1,h.2.2.1,h'⟩⟩ | exact ⟨_,h.2.2.2.2,fun _ _ h' => ⟨h.1,h.2.1,h.2.2.1,h.2.2.2.1,h'⟩⟩ | exact ⟨_,h.2.2.2.2.2,fun _ _ h' => ⟨h.1,h.2.1,h.2.2.1,h.2.2.2.1,h.2.2.2.2.1,h'⟩⟩ | exact ⟨_,h.2.2.2.2.2.2,fun _ _ h' => ⟨h.1,h.2.1,h.2.2.1,h.2.2.2.1,h.2.2.2.2.1,h.2.2.2.2.2.1,h'⟩⟩)
theorem nilC_quiet (x : AV) {σ : List zh} {K : KT} (h : zbr x σ K) : ∃ v,K v σ ∧ ∀ (σ' : List zh) (K' : KT),K' v σ' → zbr x σ' K' := by
 unfold zbr at *
 repeat' split at h
 all_goals (first | exact h.elim | skip)
 all_goals (revert h; try simp only [*,if_true,if_false,Bool.false_eq_true,reduceIte,ite_true,ite_false])
 all_goals (intro h)
 all_goals (first | exact h.2.elim | exact h.2.2.elim | exact ⟨_,h,fun _ _ h' => h'⟩ | exact ⟨_,h.2,fun _ _ h' => ⟨h.1,h'⟩⟩ | exact ⟨_,h.2.2,fun _ _ h' => ⟨h.1,h.2.1,h'⟩⟩ | exact ⟨_,h.2.2.2,fun _ _ h' => ⟨h.1,h.2.1,h.2.2.1,h'⟩⟩ | exact ⟨_,h.2.2.2.2,fun _ _ h' => ⟨h.1,h.2.1,h.2.2.1,h.2.2.2.1,h'⟩⟩ | exact ⟨_,h.2.2.2.2.2,fun _ _ h' => ⟨h.1,h.2.1,h.2.2.1,h.2.2.2.1,h.2.2.2.2.1,h'⟩⟩ | exact ⟨_,h.2.2.2.2.2.2,fun _ _ h' => ⟨h.1,h.2.1,h.2.2.1,h.2.2.2.1,h.2.2.2.2.1,h.2.2.2.2.2.1,h'⟩⟩)
theorem convC_quiet (c : CK) (x : AV) {σ : List zh} {K : KT} (h : zal c x σ K) : ∃ v,K v σ ∧ ∀ (σ' : List zh) (K' : KT),K' v σ' → zal c x σ' K' := by
 unfold zal at *
 repeat' split at h
 all_goals (first | exact h.elim | skip)
 all_goals (revert h; try simp only [*,if_true,if_false,Bool.false_eq_true,reduceIte,ite_true,ite_false])
 all_goals (intro h)
 all_goals (first | exact h.2.elim | exact h.2.2.elim | exact ⟨_,h,fun _ _ h' => h'⟩ | exact ⟨_,h.2,fun _ _ h' => ⟨h.1,h'⟩⟩ | exact ⟨_,h.2.2,fun _ _ h' => ⟨h.1,h.2.1,h'⟩⟩ | exact ⟨_,h.2.2.2,fun _ _ h' => ⟨h.1,h.2.1,h.2.2.1,h'⟩⟩ | exact ⟨_,h.2.2.2.2,fun _ _ h' => ⟨h.1,h.2.1,h.2.2.1,h.2.2.2.1,h'⟩⟩ | exact ⟨_,h.2.2.2.2.2,fun _ _ h' => ⟨h.1,h.2.1,h.2.2.1,h.2.2.2.1,h.2.2.2.2.1,h'⟩⟩ | exact ⟨_,h.2.2.2.2.2.2,fun _ _ h' => ⟨h.1,h.2.1,h.2.2.1,h.2.2.2.1,h.2.2.2.2.1,h.2.2.2.2.2.1,h'⟩⟩)
theorem slcC_quiet (k : SK) (x : AV) (lo hi mx : Option AV) {σ : List zh} {K : KT} (h : zcB k x lo hi mx σ K) : ∃ v,K v σ ∧ ∀ (σ' : List zh) (K' : KT),K' v σ' → zcB k x lo hi mx σ' K' := by
 unfold zcB at *
 repeat' split at h
 all_goals (first | exact h.elim | skip)
 all_goals (revert h; try simp only [*,if_true,if_false,Bool.false_eq_true,reduceIte,ite_true,ite_false])
 all_goals (intro h)
 all_goals (first | exact h.2.elim | exact h.2.2.elim | exact ⟨_,h,fun _ _ h' => h'⟩ | exact ⟨_,h.2,fun _ _ h' => ⟨h.1,h'⟩⟩ | exact ⟨_,h.2.2,fun _ _ h' => ⟨h.1,h.2.1,h'⟩⟩ | exact ⟨_,h.2.2.2,fun _ _ h' => ⟨h.1,h.2.1,h.2.2.1,h'⟩⟩ | exact ⟨_,h.2.2.2.2,fun _ _ h' => ⟨h.1,h.2.1,h.2.2.1,h.2.2.2.1,h'⟩⟩ | exact ⟨_,h.2.2.2.2.2,fun _ _ h' => ⟨h.1,h.2.1,h.2.2.1,h.2.2.2.1,h.2.2.2.2.1,h'⟩⟩ | exact ⟨_,h.2.2.2.2.2.2,fun _ _ h' => ⟨h.1,h.2.1,h.2.2.1,h.2.2.2.1,h.2.2.2.2.1,h.2.2.2.2.2.1,h'⟩⟩)
theorem faddrC_quiet (off : Nat) (x : AV) {σ : List zh} {K : KT} (h : zg off x σ K) : ∃ v,K v σ ∧ ∀ (σ' : List zh) (K' : KT),K' v σ' → zg off x σ' K' := by
 unfold zg at *
 repeat' split at h
 all_goals (first | exact h.elim | skip)
 all_goals (revert h; try simp only [*,if_true,if_false,Bool.false_eq_true,reduceIte,ite_true,ite_false])
 all_goals (intro h)
 all_goals (first | exact h.2.elim | exact h.2.2.elim | exact ⟨_,h,fun _ _ h' => h'⟩ | exact ⟨_,h.2,fun _ _ h' => ⟨h.1,h'⟩⟩ | exact ⟨_,h.2.2,fun _ _ h' => ⟨h.1,h.2.1,h'⟩⟩ | exact ⟨_,h.2.2.2,fun _ _ h' => ⟨h.1,h.2.1,h.2.2.1,h'⟩⟩ | exact ⟨_,h.2.2.2.2,fun _ _ h' => ⟨h.1,h.2.1,h.2.2.1,h.2.2.2.1,h'⟩⟩ | exact ⟨_,h.2.2.2.2.2,fun _ _ h' => ⟨h.1,h.2.1,h.2.2.1,h.2.2.2.1,h.2.2.2.2.1,h'⟩⟩ | exact ⟨_,h.2.2.2.2.2.2,fun _ _ h' => ⟨h.1,h.2.1,h.2.2.1,h.2.2.2.1,h.2.2.2.2.1,h.2.2.2.2.2.1,h'⟩⟩)
theorem fieldC_quiet (agg : Bool) (off n : Nat) (x : AV) {σ : List zh} {K : KT} (h : zai agg off n x σ K) : ∃ v,K v σ ∧ ∀ (σ' : List zh) (K' : KT),K' v σ' → zai agg off n x σ' K' := by
 unfold zai at *
 repeat' split at h
 all_goals (first | exact h.elim | skip)
 all_goals (revert h; try simp only [*,if_true,if_false,Bool.false_eq_true,reduceIte,ite_true,ite_false])
 all_goals (intro h)
 all_goals (first | exact h.2.elim | exact h.2.2.elim | exact ⟨_,h,fun _ _ h' => h'⟩ | exact ⟨_,h.2,fun _ _ h' => ⟨h.1,h'⟩⟩ | exact ⟨_,h.2.2,fun _ _ h' => ⟨h.1,h.2.1,h'⟩⟩ | exact ⟨_,h.2.2.2,fun _ _ h' => ⟨h.1,h.2.1,h.2.2.1,h'⟩⟩ | exact ⟨_,h.2.2.2.2,fun _ _ h' => ⟨h.1,h.2.1,h.2.2.1,h.2.2.2.1,h'⟩⟩ | exact ⟨_,h.2.2.2.2.2,fun _ _ h' => ⟨h.1,h.2.1,h.2.2.1,h.2.2.2.1,h.2.2.2.2.1,h'⟩⟩ | exact ⟨_,h.2.2.2.2.2.2,fun _ _ h' => ⟨h.1,h.2.1,h.2.2.1,h.2.2.2.1,h.2.2.2.2.1,h.2.2.2.2.2.1,h'⟩⟩)
theorem iaddrC_quiet (arr : Option Nat) (sz : Nat) (x i : AV) {σ : List zh} {K : KT} (h : zH arr sz x i σ K) : ∃ v,K v σ ∧ ∀ (σ' : List zh) (K' : KT),K' v σ' → zH arr sz x i σ' K' := by
 unfold zH at *
 repeat' split at h
 all_goals (first | exact h.elim | skip)
 all_goals (revert h; try simp only [*,if_true,if_false,Bool.false_eq_true,reduceIte,ite_true,ite_false])
 all_goals (intro h)
 all_goals (first | exact h.2.elim | exact h.2.2.elim | exact ⟨_,h,fun _ _ h' => h'⟩ | exact ⟨_,h.2,fun _ _ h' => ⟨h.1,h'⟩⟩ | exact ⟨_,h.2.2,fun _ _ h' => ⟨h.1,h.2.1,h'⟩⟩ | exact ⟨_,h.2.2.2,fun _ _ h' => ⟨h.1,h.2.1,h.2.2.1,h'⟩⟩ | exact ⟨_,h.2.2.2.2,fun _ _ h' => ⟨h.1,h.2.1,h.2.2.1,h.2.2.2.1,h'⟩⟩ | exact ⟨_,h.2.2.2.2.2,fun _ _ h' => ⟨h.1,h.2.1,h.2.2.1,h.2.2.2.1,h.2.2.2.2.1,h'⟩⟩ | exact ⟨_,h.2.2.2.2.2.2,fun _ _ h' => ⟨h.1,h.2.1,h.2.2.1,h.2.2.2.1,h.2.2.2.2.1,h.2.2.2.2.2.1,h'⟩⟩)
theorem idxSC_quiet (x i : AV) {σ : List zh} {K : KT} (h : zaM x i σ K) : ∃ v,K v σ ∧ ∀ (σ' : List zh) (K' : KT),K' v σ' → zaM x i σ' K' := by
 unfold zaM at *
 repeat' split at h
 all_goals (first | exact h.elim | skip)
 all_goals (revert h; try simp only [*,if_true,if_false,Bool.false_eq_true,reduceIte,ite_true,ite_false])
 all_goals (intro h)
 all_goals (first | exact h.2.elim | exact h.2.2.elim | exact ⟨_,h,fun _ _ h' => h'⟩ | exact ⟨_,h.2,fun _ _ h' => ⟨h.1,h'⟩⟩ | exact ⟨_,h.2.2,fun _ _ h' => ⟨h.1,h.2.1,h'⟩⟩ | exact ⟨_,h.2.2.2,fun _ _ h' => ⟨h.1,h.2.1,h.2.2.1,h'⟩⟩ | exact ⟨_,h.2.2.2.2,fun _ _ h' => ⟨h.1,h.2.1,h.2.2.1,h.2.2.2.1,h'⟩⟩ | exact ⟨_,h.2.2.2.2.2,fun _ _ h' => ⟨h.1,h.2.1,h.2.2.1,h.2.2.2.1,h.2.2.2.2.1,h'⟩⟩ | exact ⟨_,h.2.2.2.2.2.2,fun _ _ h' => ⟨h.1,h.2.1,h.2.2.1,h.2.2.2.1,h.2.2.2.2.1,h.2.2.2.2.2.1,h'⟩⟩)
theorem idxAC_quiet (agg : Bool) (n sz : Nat) (x i : AV) {σ : List zh} {K : KT} (h : zaV agg n sz x i σ K) : ∃ v,K v σ ∧ ∀ (σ' : List zh) (K' : KT),K' v σ' → zaV agg n sz x i σ' K' := by
 unfold zaV at *
 repeat' split at h
 all_goals (first | exact h.elim | skip)
 all_goals (revert h; try simp only [*,if_true,if_false,Bool.false_eq_true,reduceIte,ite_true,ite_false])
 all_goals (intro h)
 all_goals (first | exact h.2.elim | exact h.2.2.elim | exact ⟨_,h,fun _ _ h' => h'⟩ | exact ⟨_,h.2,fun _ _ h' => ⟨h.1,h'⟩⟩ | exact ⟨_,h.2.2,fun _ _ h' => ⟨h.1,h.2.1,h'⟩⟩ | exact ⟨_,h.2.2.2,fun _ _ h' => ⟨h.1,h.2.1,h.2.2.1,h'⟩⟩ | exact ⟨_,h.2.2.2.2,fun _ _ h' => ⟨h.1,h.2.1,h.2.2.1,h.2.2.2.1,h'⟩⟩ | exact ⟨_,h.2.2.2.2.2,fun _ _ h' => ⟨h.1,h.2.1,h.2.2.1,h.2.2.2.1,h.2.2.2.2.1,h'⟩⟩ | exact ⟨_,h.2.2.2.2.2.2,fun _ _ h' => ⟨h.1,h.2.1,h.2.2.1,h.2.2.2.1,h.2.2.2.2.1,h.2.2.2.2.2.1,h'⟩⟩)
theorem ztP (x : AV) (k : Nat) {σ : List zh} {K : KT} (h : ze x k σ K) : ∃ v,K v σ ∧ ∀ (σ' : List zh) (K' : KT),K' v σ' → ze x k σ' K' := by
 unfold ze at *
 repeat' split at h
 all_goals (first | exact h.elim | skip)
 all_goals (revert h; try simp only [*,if_true,if_false,Bool.false_eq_true,reduceIte,ite_true,ite_false])
 all_goals (intro h)
 all_goals (first | exact h.2.elim | exact h.2.2.elim | exact ⟨_,h,fun _ _ h' => h'⟩ | exact ⟨_,h.2,fun _ _ h' => ⟨h.1,h'⟩⟩ | exact ⟨_,h.2.2,fun _ _ h' => ⟨h.1,h.2.1,h'⟩⟩ | exact ⟨_,h.2.2.2,fun _ _ h' => ⟨h.1,h.2.1,h.2.2.1,h'⟩⟩ | exact ⟨_,h.2.2.2.2,fun _ _ h' => ⟨h.1,h.2.1,h.2.2.1,h.2.2.2.1,h'⟩⟩ | exact ⟨_,h.2.2.2.2.2,fun _ _ h' => ⟨h.1,h.2.1,h.2.2.1,h.2.2.2.1,h.2.2.2.2.1,h'⟩⟩ | exact ⟨_,h.2.2.2.2.2.2,fun _ _ h' => ⟨h.1,h.2.1,h.2.2.1,h.2.2.2.1,h.2.2.2.2.1,h.2.2.2.2.2.1,h'⟩⟩)
theorem maxC_quiet (xs : List AV) {σ : List zh} {K : KT} (h : zdb xs σ K) : ∃ v,K v σ ∧ ∀ (σ' : List zh) (K' : KT),K' v σ' → zdb xs σ' K' := by
 unfold zdb at *
 repeat' split at h
 all_goals (first | exact h.elim | skip)
 all_goals (revert h; try simp only [*,if_true,if_false,Bool.false_eq_true,reduceIte,ite_true,ite_false])
 all_goals (intro h)
 all_goals (first | exact h.2.elim | exact h.2.2.elim | exact ⟨_,h,fun _ _ h' => h'⟩ | exact ⟨_,h.2,fun _ _ h' => ⟨h.1,h'⟩⟩ | exact ⟨_,h.2.2,fun _ _ h' => ⟨h.1,h.2.1,h'⟩⟩ | exact ⟨_,h.2.2.2,fun _ _ h' => ⟨h.1,h.2.1,h.2.2.1,h'⟩⟩ | exact ⟨_,h.2.2.2.2,fun _ _ h' => ⟨h.1,h.2.1,h.2.2.1,h.2.2.2.1,h'⟩⟩ | exact ⟨_,h.2.2.2.2.2,fun _ _ h' => ⟨h.1,h.2.1,h.2.2.1,h.2.2.2.1,h.2.2.2.2.1,h'⟩⟩ | exact ⟨_,h.2.2.2.2.2.2,fun _ _ h' => ⟨h.1,h.2.1,h.2.2.1,h.2.2.2.1,h.2.2.2.2.1,h.2.2.2.2.2.1,h'⟩⟩)
theorem minC_quiet (xs : List AV) {σ : List zh} {K : KT} (h : zdx xs σ K) : ∃ v,K v σ ∧ ∀ (σ' : List zh) (K' : KT),K' v σ' → zdx xs σ' K' := by
 unfold zdx at *
 repeat' split at h
 all_goals (first | exact h.elim | skip)
 all_goals (revert h; try simp only [*,if_true,if_false,Bool.false_eq_true,reduceIte,ite_true,ite_false])
 all_goals (intro h)
 all_goals (first | exact h.2.elim | exact h.2.2.elim | exact ⟨_,h,fun _ _ h' => h'⟩ | exact ⟨_,h.2,fun _ _ h' => ⟨h.1,h'⟩⟩ | exact ⟨_,h.2.2,fun _ _ h' => ⟨h.1,h.2.1,h'⟩⟩ | exact ⟨_,h.2.2.2,fun _ _ h' => ⟨h.1,h.2.1,h.2.2.1,h'⟩⟩ | exact ⟨_,h.2.2.2.2,fun _ _ h' => ⟨h.1,h.2.1,h.2.2.1,h.2.2.2.1,h'⟩⟩ | exact ⟨_,h.2.2.2.2.2,fun _ _ h' => ⟨h.1,h.2.1,h.2.2.1,h.2.2.2.1,h.2.2.2.2.1,h'⟩⟩ | exact ⟨_,h.2.2.2.2.2.2,fun _ _ h' => ⟨h.1,h.2.1,h.2.2.1,h.2.2.2.1,h.2.2.2.2.1,h.2.2.2.2.2.1,h'⟩⟩)
theorem loadC_quiet (agg : Bool) (n : Nat) (x : AV) {σ : List zh} {K : KT} (h : zo agg n x σ K) : ∃ v,K v σ ∧ ∀ (σ' : List zh) (K' : KT),zP x σ σ' → K' v σ' → zo agg n x σ' K' := by
 unfold zo at h
 split at h
 ·rename_i id off
  split at h
  ·rename_i cs hcs
   split at h
   ·rename_i hg
    exact ⟨_,h.2,fun σ' K' hk h' => by
     have hk' : σ'[id]? = σ[id]? := hk
     simp only [zo]; rw [hk',hcs]; simp only [hg,if_true]; exact ⟨h.1,h'⟩⟩
   ·rename_i hg
    split at h
    ·rename_i hv
     exact ⟨_,h,fun σ' K' hk h' => by
      have hk' : σ'[id]? = σ[id]? := hk
      simp only [zo]; rw [hk',hcs]; simp only [if_neg hg]; rw [hv]; exact h'⟩
    ·exact h.elim
  ·exact h.elim
 ·split at h
  ·rename_i hg
   exact ⟨_,h.2,fun σ' K' hk h' => by simp only [zo,if_pos hg]; exact ⟨h.1,h'⟩⟩
  ·rename_i hg
   split at h
   ·rename_i hv
    exact ⟨_,h,fun σ' K' hk h' => by simp only [zo,if_neg hg]; rw [hv]; exact h'⟩
   ·exact h.elim
 ·rename_i t g off
  split at h
  ·rename_i cs hcs
   obtain ⟨hg',h⟩ := h
   split at h
   ·rename_i hg
    exact ⟨_,h.2,fun σ' K' hk h' => by
     have hk' : σ'[t]? = σ[t]? := hk
     simp only [zo]; rw [hk',hcs]; simp only [hg,if_true]; exact ⟨hg',h.1,h'⟩⟩
   ·rename_i hg
    split at h
    ·rename_i hv
     exact ⟨_,h,fun σ' K' hk h' => by
      have hk' : σ'[t]? = σ[t]? := hk
      simp only [zo]; rw [hk',hcs]; simp only [if_neg hg]; rw [hv]; exact ⟨hg',h'⟩⟩
    ·exact h.elim
  ·exact h.elim
 ·exact h.elim
theorem mgetC_quiet (kk : KK) (ok : Bool) (z m k : AV) {σ : List zh} {K : KT} (h : zaU kk ok z m k σ K) : ∃ v,K v σ ∧ ∀ (σ' : List zh) (K' : KT),zP m σ σ' → K' v σ' → zaU kk ok z m k σ' K' := by
 unfold zaU at h
 split at h
 ·rename_i es hes
  have key : ∀ σ',zP m σ σ' → zfe m σ' = some es := fun σ' hk => by
   cases m with
   | d x => cases x <;> simp only [zfe] at hes ⊢ <;> exact hes
   | map id => simp only [zfe,zP] at hes hk ⊢; rw [hk]; exact hes
   | _ => simp only [zfe] at hes; cases hes
  obtain ⟨h1,h⟩ := h
  split at h
  ·rename_i hf
   exact ⟨_,h,fun σ' K' hk h' => by simp only [zaU,key σ' hk,hf]; exact ⟨h1,h'⟩⟩
  ·rename_i hf
   exact ⟨_,h,fun σ' K' hk h' => by simp only [zaU,key σ' hk,hf]; exact ⟨h1,h'⟩⟩
  ·exact h.elim
 ·exact h.elim
theorem lenC_quiet (k : LK) (x : AV) (hq : (match k with | .map => false | _ => true) = true) {σ : List zh} {K : KT} (h : zax k x σ K) : ∃ v,K v σ ∧ ∀ (σ' : List zh) (K' : KT),K' v σ' → zax k x σ' K' := by
 cases k with
 | map => cases hq
 | _ =>
  simp only [zax] at h ⊢
  repeat' split at h
  all_goals (first | exact h.elim | skip)
  all_goals (revert h; try simp only [*])
  all_goals (intro h)
  all_goals (exact ⟨_,h,fun _ _ h' => h'⟩)
theorem ztM (s n : Nat) (o : Option (List AV)) {σ : List zh} {K : KT} (h : zw false s n o σ K) : ∃ v,K v σ ∧ ∀ (σ' : List zh) (K' : KT),K' v σ' → zw false s n o σ' K' := by
 simp only [zw,Bool.false_eq_true,if_false] at *
 repeat' split at h
 all_goals (first | exact h.elim | skip)
 all_goals (revert h; try simp only [*])
 all_goals (intro h)
 all_goals (exact ⟨_,h,fun _ _ h' => h'⟩)
theorem pickC_quiet (c a b : AV) {σ : List zh} {K : KT} (h : ztK c a b σ K) : ∃ v,K v σ ∧ ∀ (σ' : List zh) (K' : KT),K' v σ' → ztK c a b σ' K' := by
 unfold ztK at *
 split at h
 ·rename_i t
  cases t
  ·exact ⟨_,h.2 rfl,fun _ _ h' => ⟨fun e => Bool.noConfusion e,fun _ => h'⟩⟩
  ·exact ⟨_,h.1 rfl,fun _ _ h' => ⟨fun _ => h',fun e => Bool.noConfusion e⟩⟩
 ·exact h.elim
theorem unA_quiet (op : UnOp) (x : AV) {K : AV → Prop} (h : unA op x K) : ∃ v,K v ∧ ∀ K' : AV → Prop,K' v → unA op x K' := by
 unfold unA at *
 split at h
 ·exact ⟨_,h,fun _ h' => h'⟩
 ·exact ⟨_,h,fun _ h' => h'⟩
 ·exact h.elim
theorem zti {i : I} (hq : i.quiet = true) {fr : zam} {σ : List zh} {K : KT} (h : zaP P i fr σ K) :
  ∃ v,K v σ ∧ ∀ (σ' : List zh) (K' : KT),(∀ o,i.at? = some o → zP (ev fr o) σ σ') → K' v σ' → zaP P i fr σ' K' := by
 cases i <;> simp only [I.quiet,Bool.false_eq_true] at hq <;> simp only [zaP] at h ⊢
 case mv => exact ⟨_,h,fun _ _ _ h' => h'⟩
 case pick => obtain ⟨v,hv,hk⟩ := pickC_quiet _ _ _ h; exact ⟨v,hv,fun σ' K' _ h' => hk σ' K' h'⟩
 case build => obtain ⟨v,hv,hk⟩ := buildC_quiet _ h; exact ⟨v,hv,fun σ' K' _ h' => hk σ' K' h'⟩
 case mkslice mu _ _ _ _ =>
  cases mu
  ·obtain ⟨v,hv,hk⟩ := ztM _ _ _ h; exact ⟨v,hv,fun σ' K' _ h' => hk σ' K' h'⟩
  ·simp [I.quiet] at hq
 case load => obtain ⟨v,hv,hk⟩ := loadC_quiet _ _ _ h; exact ⟨v,hv,fun σ' K' ho h' => hk σ' K' (ho _ rfl) h'⟩
 case nilchk => obtain ⟨v,hv,hk⟩ := nilC_quiet _ h; exact ⟨v,hv,fun σ' K' _ h' => hk σ' K' h'⟩
 case bin => obtain ⟨v,hv,hk⟩ := binA_quiet h; exact ⟨v,hv,fun σ' K' _ h' => hk (fun a => K' a σ') h'⟩
 case un => obtain ⟨v,hv,hk⟩ := unA_quiet _ _ h; exact ⟨v,hv,fun σ' K' _ h' => hk (fun a => K' a σ') h'⟩
 case conv => obtain ⟨v,hv,hk⟩ := convC_quiet _ _ h; exact ⟨v,hv,fun σ' K' _ h' => hk σ' K' h'⟩
 case slc => obtain ⟨v,hv,hk⟩ := slcC_quiet _ _ _ _ _ h; exact ⟨v,hv,fun σ' K' _ h' => hk σ' K' h'⟩
 case faddr => obtain ⟨v,hv,hk⟩ := faddrC_quiet _ _ h; exact ⟨v,hv,fun σ' K' _ h' => hk σ' K' h'⟩
 case field => obtain ⟨v,hv,hk⟩ := fieldC_quiet _ _ _ _ h; exact ⟨v,hv,fun σ' K' _ h' => hk σ' K' h'⟩
 case iaddr => obtain ⟨v,hv,hk⟩ := iaddrC_quiet _ _ _ _ h; exact ⟨v,hv,fun σ' K' _ h' => hk σ' K' h'⟩
 case idxS => obtain ⟨v,hv,hk⟩ := idxSC_quiet _ _ h; exact ⟨v,hv,fun σ' K' _ h' => hk σ' K' h'⟩
 case idxA => obtain ⟨v,hv,hk⟩ := idxAC_quiet _ _ _ _ _ h; exact ⟨v,hv,fun σ' K' _ h' => hk σ' K' h'⟩
 case extract => obtain ⟨v,hv,hk⟩ := ztP _ _ h; exact ⟨v,hv,fun σ' K' _ h' => hk σ' K' h'⟩
 case len => obtain ⟨v,hv,hk⟩ := lenC_quiet _ _ hq h; exact ⟨v,hv,fun σ' K' _ h' => hk σ' K' h'⟩
 case maxi => obtain ⟨v,hv,hk⟩ := maxC_quiet _ h; exact ⟨v,hv,fun σ' K' _ h' => hk σ' K' h'⟩
 case mini => obtain ⟨v,hv,hk⟩ := minC_quiet _ h; exact ⟨v,hv,fun σ' K' _ h' => hk σ' K' h'⟩
 case mget => obtain ⟨v,hv,hk⟩ := mgetC_quiet _ _ _ _ _ h; exact ⟨v,hv,fun σ' K' ho h' => hk σ' K' (ho _ rfl) h'⟩
theorem zir (fr : zam) (d : Option Nat) (a : AV) (i : Nat) : zgl (aput fr d a) i = if d = some i then a else zgl fr i := by
 cases d with
 | none => simp [aput]
 | some d => simp only [aput,zjP,Option.some.injEq]; by_cases h : i = d <;> simp [h,eq_comm]
def FEq (fr fr' : zam) : Prop := ∀ i,zgl fr i = zgl fr' i
def FE (K : zam → List zh → Prop) : Prop := ∀ fr fr' σ,FEq fr fr' → K fr σ → K fr' σ
theorem zrH {x : Ai} {fr fr' : zam} {σ : List zh} {K K' : zam → List zh → Prop} (he : ∀ t ∈ x.reads,zgl fr t = zgl fr' t)
  (hk : ∀ u s,K (aput fr x.dst u) s → K' (aput fr' x.dst u) s) (h : aop P x fr σ K) : aop P x fr' σ K' := by
 unfold aop at *
 cases hg : x.g with
 | none =>
  simp only [hg] at h ⊢
  rw [← zpq (fr := fr) (fr' := fr') fun t ht => he t (by simp only [Ai.reads,hg]; exact ht)]
  exact zuX (fun a s => hk a s) h
 | some p =>
  obtain ⟨s,want⟩ := p
  simp only [hg] at h ⊢
  have e1 : ∀ t ∈ x.i.reads,zgl fr t = zgl fr' t := fun t ht => he t (by simp only [Ai.reads,hg]; exact List.mem_cons_of_mem _ ht)
  have e0 : zgl fr s = zgl fr' s := he s (by simp only [Ai.reads,hg]; exact List.mem_cons_self)
  rw [← e0]
  unfold zgP at *
  split at h
  ·refine ⟨fun e => ?_,fun e => hk _ _ (h.2 e)⟩
   have h1 := h.1 e
   rw [← zpq (fr := fr) (fr' := fr') e1]
   exact zuX (fun a s => hk a s) h1
  ·exact hk _ _ h
  ·exact h
theorem zdP {x : Ai} {fr : zam} {σ : List zh} {K K' : zam → List zh → Prop} (hk : ∀ f s,K f s → K' f s) (h : aop P x fr σ K) : aop P x fr σ K' :=
 zrH (fun _ _ => rfl) (fun _ _ => hk _ _) h
theorem zps {x : Ai} (hq : x.i.quiet = true) {fr : zam} {σ : List zh} {K : zam → List zh → Prop} (h : aop P x fr σ K) :
  ∃ v,K (aput fr x.dst v) σ ∧ ∀ (fr' : zam) (σ' : List zh) (K' : zam → List zh → Prop),(∀ t ∈ x.reads,zgl fr t = zgl fr' t) → (∀ o,x.i.at? = some o → zP (ev fr o) σ σ') → K' (aput fr' x.dst v) σ' → aop P x fr' σ' K' := by
 unfold aop at h
 cases hg : x.g with
 | none =>
  simp only [hg] at h
  obtain ⟨v,hv,hk⟩ := zti hq h
  refine ⟨v,hv,fun fr' σ' K' he hb h' => ?_⟩
  unfold aop
  simp only [hg]
  rw [← zpq (fr := fr) (fr' := fr') fun t ht => he t (by simp only [Ai.reads,hg]; exact ht)]
  exact hk σ' _ hb h'
 | some p =>
  obtain ⟨s,want⟩ := p
  simp only [hg] at h
  unfold zgP at h
  have e0 : ∀ fr' : zam,(∀ t ∈ x.reads,zgl fr t = zgl fr' t) → zgl fr s = zgl fr' s := fun fr' he => he s (by simp only [Ai.reads,hg]; exact List.mem_cons_self)
  split at h
  ·rename_i b hb
   cases hbw : (b == want)
   ·refine ⟨_,h.2 hbw,fun fr' σ' K' he _ h' => ?_⟩
    unfold aop
    simp only [hg]
    rw [← e0 fr' he,hb]
    exact ⟨fun e => (by rw [hbw] at e; cases e),fun _ => h'⟩
   ·obtain ⟨v,hv,hk⟩ := zti hq (h.1 hbw)
    refine ⟨v,hv,fun fr' σ' K' he ho h' => ?_⟩
    unfold aop
    simp only [hg]
    rw [← e0 fr' he,hb]
    refine ⟨fun _ => ?_,fun e => (by rw [hbw] at e; cases e)⟩
    rw [← zpq (fr := fr) (fr' := fr') fun t ht => he t (by simp only [Ai.reads,hg]; exact List.mem_cons_of_mem _ ht)]
    exact hk σ' _ ho h'
  ·rename_i hb
   refine ⟨_,h,fun fr' σ' K' he _ h' => ?_⟩
   unfold aop
   simp only [hg]
   rw [← e0 fr' he,hb]
   exact h'
  ·exact h.elim
def zvJ (fr : zam) (σ σ' : List zh) : List Nat → Prop → Prop
 | [],p => p
 | o :: r,p => zP (zgl fr o) σ σ' ∧ zvJ fr σ σ' r p
theorem zil {fr : zam} {σ σ' : List zh} {p : Prop} : ∀ {l : List Nat},zvJ fr σ σ' l p ↔ (∀ o ∈ l,zP (zgl fr o) σ σ') ∧ p
 | [] => by simp [zvJ]
 | o :: r => by simp only [zvJ,zil (l := r),List.mem_cons,forall_eq_or_imp,and_assoc]
def zdv (P : Program) (l : List Ai) : List (Nat × List Nat) → zam → List zh → (zam → List zh → Prop) → Prop
 | [],fr, σ,K => K fr σ
 | (i,nd) :: r,fr, σ,K =>
  match l[i]? with
  | some x => aop P x fr σ fun f s => zvJ fr σ s nd (zdv P l r f s K)
  | none => False
theorem FEq.put {fr fr' : zam} (h : FEq fr fr') (d : Option Nat) (a : AV) : FEq (aput fr d a) (aput fr' d a) := fun i => by
 rw [zir,zir,h i]
theorem FEq.ev {fr fr' : zam} (h : FEq fr fr') (o : Opd) : ev fr o = ev fr' o := zbv fun t _ => h t
theorem zrJ {l : List Ai} {K : zam → List zh → Prop} (hK : FE K) : ∀ (lin : List (Nat × List Nat)) (fr fr' : zam) (σ : List zh),FEq fr fr' → zdv P l lin fr σ K → zdv P l lin fr' σ K
 | [],fr,fr', σ,he,h => hK fr fr' σ he h
 | (i,nd) :: r,fr,fr', σ,he,h => by
  unfold zdv at *
  split at h
  ·refine zrH (fun t _ => he t) (fun u s hs => ?_) h
   rw [zil] at hs ⊢
   exact ⟨fun o ho => (by rw [← he o]; exact hs.1 o ho),zrJ hK r _ _ s (he.put _ u) hs.2⟩
  ·exact h
def passes (x y : Ai) : Bool :=
 x.i.quiet && (x.dst.all fun d => !y.reads.contains d) && (y.dst.all fun d => !x.reads.contains d) && (match x.dst with | some d => !(y.dst == some d) | none => true)
theorem zsd {x y : Ai} (h : passes x y = true) : x.i.quiet = true ∧ (∀ d,x.dst = some d → d ∉ y.reads) ∧ (∀ d,y.dst = some d → d ∉ x.reads) ∧ (∀ d,x.dst = some d → y.dst ≠ some d) := by
 simp only [passes,Bool.and_eq_true] at h
 obtain ⟨⟨⟨h1,h2⟩,h3⟩,h4⟩ := h
 refine ⟨h1,fun d hd => ?_,fun d hd => ?_,fun d hd => ?_⟩
 ·rw [hd] at h2; simpa using h2
 ·rw [hd] at h3; simpa using h3
 ·rw [hd] at h4; simpa using h4
theorem swap {x y : Ai} {fr : zam} {σ : List zh} {K : zam → List zh → Prop} (hp : passes x y = true) (hK : FE K)
  (h : aop P x fr σ fun f s => aop P y f s fun f' s' => (∀ o,x.i.at? = some o → zP (ev fr o) σ s') ∧ K f' s') :
  aop P y fr σ fun f s => aop P x f s K := by
 obtain ⟨hq,h1,h2,h3⟩ := zsd hp
 obtain ⟨v,hv,hk⟩ := zps hq h
 refine zrH (fun t ht => ?_) (fun u s hs => ?_) hv
 ·rw [zir]
  split
  ·rename_i e; exact absurd ht (h1 t e)
  ·rfl
 ·refine hk _ _ _ (fun t ht => ?_) hs.1 (hK _ _ s (fun i => ?_) hs.2)
  ·rw [zir]
   split
   ·rename_i e; exact absurd ht (h2 t e)
   ·rfl
  ·simp only [zir]
   by_cases hx : x.dst = some i
   ·have := h3 i hx
    simp [hx,this]
   ·simp [hx]
theorem aop_still {x : Ai} (hq : x.i.quiet = true) {fr : zam} {σ : List zh} {K : zam → List zh → Prop} (h : aop P x fr σ K) : aop P x fr σ fun f s => s = σ ∧ K f s := by
 obtain ⟨v,hv,hk⟩ := zps hq h
 refine hk fr σ _ (fun _ _ => rfl) (fun o _ => ?_) ⟨rfl,hv⟩
 unfold zP; split <;> trivial
def pairOk (x y : Ai) (nx ny : List Nat) : Bool :=
 nx.isEmpty && passes x y && (match x.i.at? with | some (.tmp t) => y.i.quiet || ny.contains t | some (.lit (.box _ _)) => false | some (.lit (.map _)) => false | some (.lit (.rpt _ _ _)) => false | _ => true)
def zpN (x y : Ai) : Bool :=
 match x.i.at? with
 | some (.tmp t) => !(y.dst == some t) && !(x.dst == some t)
 | _ => true
theorem extract {l : List Ai} {K : zam → List zh → Prop} (hK : FE K) {i : Nat} {nd : List Nat} {x : Ai} (hx : l[i]? = some x) {post : List (Nat × List Nat)} :
  ∀ (pre : List (Nat × List Nat)) (fr : zam) (σ : List zh),(∀ p ∈ pre, ∃ y,l[p.1]? = some y ∧ pairOk y x p.2 nd = true) →
   (pre.Pairwise fun p q => ∀ y z,l[p.1]? = some y → l[q.1]? = some z → zpN y z = true) → (∀ p ∈ pre, ∀ y,l[p.1]? = some y → zpN y y = true) →
   zdv P l (pre ++ (i,nd) :: post) fr σ K →
   aop P x fr σ fun f s => ((x.i.quiet = true → s = σ) ∧ ∀ t ∈ nd,(∀ p ∈ pre, ∀ y,l[p.1]? = some y → y.dst ≠ some t) → zP (zgl fr t) σ s) ∧ zdv P l (pre ++ post) f s K
 | [],fr, σ,_,_,_,h => by
  simp only [List.nil_append,zdv,hx] at h
  have h2 : aop P x fr σ fun f s => (∀ t ∈ nd,zP (zgl fr t) σ s) ∧ zdv P l post f s K := zdP (fun f s hs => zil.1 hs) h
  by_cases hq : x.i.quiet = true
  ·exact zdP (fun f s hs => ⟨⟨fun _ => hs.1,fun t ht _ => hs.2.1 t ht⟩,hs.2.2⟩) (aop_still hq h2)
  ·exact zdP (fun f s hs => ⟨⟨fun e => absurd e hq,fun t ht _ => hs.1 t ht⟩,hs.2⟩) h2
 | (j,nj) :: pre,fr, σ,hp,hs,hss,h => by
  obtain ⟨y,hy,hpy⟩ := hp (j,nj) List.mem_cons_self
  simp only [pairOk,Bool.and_eq_true,List.isEmpty_iff] at hpy
  obtain ⟨⟨hnj,hps⟩,hat⟩ := hpy
  subst hnj
  have hyq := (zsd hps).1
  have hyy := hss (j, []) List.mem_cons_self y hy
  rw [List.pairwise_cons] at hs
  simp only [List.cons_append,zdv,hy,zvJ] at h
  obtain ⟨v,hv,hk⟩ := zps hyq h
  have ih := extract hK hx pre _ σ (fun p hp' => hp p (List.mem_cons_of_mem _ hp')) hs.2 (fun p hp' => hss p (List.mem_cons_of_mem _ hp')) hv
  have h3 : aop P y fr σ fun f s => aop P x f s fun f' s' => (∀ o,y.i.at? = some o → zP (ev fr o) σ s') ∧
    (((x.i.quiet = true → s' = σ) ∧ ∀ t ∈ nd,(∀ p ∈ (j, []) :: pre, ∀ y,l[p.1]? = some y → y.dst ≠ some t) → zP (zgl fr t) σ s') ∧ zdv P l (pre ++ post) f' s' K) := by
   refine hk fr σ _ (fun _ _ => rfl) (fun o _ => (by unfold zP; split <;> trivial)) (zdP (fun f' s' hh => ?_) ih)
   refine ⟨fun o ho => ?_,⟨hh.1.1,fun t ht hno => ?_⟩,hh.2⟩
   ·cases o with
    | lit a =>
     rw [ho] at hat
     cases a <;> first | trivial | simp at hat
    | tmp t =>
     rw [ho] at hat
     simp only [Bool.or_eq_true,List.contains_iff_mem] at hat
     rcases hat with hq | hm
     ·rw [hh.1.1 hq]; simp only [zP]; split <;> trivial
     ·have h4 := hh.1.2 t hm fun p hp' z hz => by
       have := hs.1 p hp' y z hy hz
       simp only [zpN,ho,Bool.and_eq_true] at this
       have := this.1
       simpa using this
      have h5 : y.dst ≠ some t := by
       simp only [zpN,ho,Bool.and_eq_true] at hyy
       simpa using hyy.1
      rw [zir,if_neg h5] at h4
      exact h4
   ·have h4 := hh.1.2 t ht fun p hp' z hz => hno p (List.mem_cons_of_mem _ hp') z hz
    rw [zir,if_neg (hno (j, []) List.mem_cons_self y hy)] at h4
    exact h4
  have hKK : FE fun f' s' => ((x.i.quiet = true → s' = σ) ∧ ∀ t ∈ nd,(∀ p ∈ (j, []) :: pre, ∀ y,l[p.1]? = some y → y.dst ≠ some t) → zP (zgl fr t) σ s') ∧ zdv P l (pre ++ post) f' s' K :=
   fun f f' s he hh => ⟨hh.1,zrJ hK _ _ _ _ he hh.2⟩
  refine zdP (fun f s hh => ?_) (swap hps hKK h3)
  obtain ⟨v',hv',_⟩ := zps hyq hh
  refine ⟨hv'.1, ?_⟩
  simp only [List.cons_append,zdv,hy,zvJ]
  exact zdP (fun f' s' h' => h'.2) hh
variable {P : Program}
def pw {α : Type} (f : α → α → Bool) : List α → Bool
 | [] => true
 | a :: r => r.all (f a) && pw f r
theorem pw_spec {α : Type} {f : α → α → Bool} : ∀ {l : List α},pw f l = true → l.Pairwise fun a b => f a b = true
 | [],_ => .nil
 | a :: r,h => by
  simp only [pw,Bool.and_eq_true,List.all_eq_true] at h
  exact .cons h.1 (pw_spec h.2)
def mask (cl : List Nat) : List Nat → Nat
 | [] => 0
 | j :: r => (2 ^ j ||| cl.getD j 0) ||| mask cl r
theorem mask_spec {cl : List Nat} {p : Nat} : ∀ {a : List Nat},(mask cl a).testBit p = true → ∃ j ∈ a,p = j ∨ (cl.getD j 0).testBit p = true
 | [],h => by simp [mask] at h
 | j :: r,h => by
  simp only [mask,Nat.testBit_or,Bool.or_eq_true] at h
  rcases h with (h | h) | h
  ·rw [Nat.testBit_two_pow] at h
   exact ⟨j,List.mem_cons_self, .inl (by simpa using h : j = p).symm⟩
  ·exact ⟨j,List.mem_cons_self, .inr h⟩
  ·obtain ⟨k,hk,h'⟩ := mask_spec h
   exact ⟨k,List.mem_cons_of_mem _ hk,h'⟩
def linB (l : List Ai) (after : List (List Nat)) (cl : List Nat) (p q : Nat × List Nat) : Bool :=
 !(p.1 == q.1) && !(after.getD p.1 []).contains q.1 && match l[p.1]?,l[q.1]? with
  | some x,some y => zpN x y && ((cl.getD q.1 0).testBit p.1 || pairOk x y p.2 q.2)
  | _,_ => false
def linA (l : List Ai) (after : List (List Nat)) (cl : List Nat) (i : Nat) : Bool :=
 (after.getD i []).all (fun j => decide (j < i) || (after.getD j []).isEmpty && decide (j < after.length)) && (mask cl (after.getD i []) ||| cl.getD i 0 == mask cl (after.getD i [])) && match l[i]? with
  | some x => zpN x x
  | none => false
def linOk (l : List Ai) (after : List (List Nat)) (lin : List (Nat × List Nat)) (cl : List Nat) : Bool :=
 lin.length == after.length && (List.range after.length).all (fun i => (lin.map (·.1)).contains i && linA l after cl i) && lin.all (fun p => decide (p.1 < after.length)) && pw (linB l after cl) lin
structure zmy (l : List Ai) (after : List (List Nat)) (cl : List Nat) (lin : List (Nat × List Nat)) (listed : List Bool) : Prop where
 len : listed.length = after.length
 mem : ∀ i,i < after.length → (listed.getD i true = false ↔ ∃ p ∈ lin,p.1 = i)
 low : ∀ p ∈ lin,p.1 < after.length
 pair : lin.Pairwise fun p q => linB l after cl p q = true
 down : ∀ i,i < after.length → listed.getD i true = true → ∀ j ∈ after.getD i [],listed.getD j false = true
theorem zik {l : List Ai} {after : List (List Nat)} {cl : List Nat} {i : Nat} (h : linA l after cl i = true) :
  (∀ j ∈ after.getD i [],j < i ∨ (after.getD j [] = [] ∧ j < after.length)) ∧ (∀ p,(cl.getD i 0).testBit p = true → ∃ j ∈ after.getD i [],p = j ∨ (cl.getD j 0).testBit p = true) ∧ ∃ x,l[i]? = some x ∧ zpN x x = true := by
 simp only [linA,Bool.and_eq_true,List.all_eq_true,Bool.or_eq_true,decide_eq_true_eq,beq_iff_eq,List.isEmpty_iff] at h
 refine ⟨h.1.1,fun p hp => mask_spec ?_, ?_⟩
 ·rw [← h.1.2,Nat.testBit_or,hp,Bool.or_true]
 ·have := h.2
  split at this
  ·rename_i x hx; exact ⟨x,hx,this⟩
  ·cases this
theorem zsx {l : List Bool} {i n : Nat} (hl : l.length = n) (hi : i < n) (a b : Bool) : l.getD i a = l.getD i b := by
 subst hl
 simp [List.getD,List.getElem?_eq_getElem hi]
theorem zkX {l : List Ai} {after : List (List Nat)} {cl : List Nat} {lin : List (Nat × List Nat)} {listed : List Bool} (hA : ∀ i,i < after.length → linA l after cl i = true) (I : zmy l after cl lin listed) :
  ∀ (n i : Nat),i < n → i < after.length → (∀ j ∈ after.getD i [],listed.getD j false = true) → ∀ p,(cl.getD i 0).testBit p = true → listed.getD p false = true
 | 0,i,h,_,_,_,_ => absurd h (Nat.not_lt_zero _)
 | n + 1,i,hn,hi,hd,p,hp => by
  obtain ⟨h1,h2,_⟩ := zik (hA i hi)
  obtain ⟨j,hj,hpj⟩ := h2 p hp
  rcases hpj with rfl | hpj
  ·exact hd p hj
  ·rcases h1 j hj with hji | ⟨he,hjn⟩
   ·have hjn : j < after.length := by omega
    exact zkX hA I n j (by omega) hjn (I.down j hjn (by rw [zsx I.len hjn true false]; exact hd j hj)) p hpj
   ·obtain ⟨_,h2',_⟩ := zik (hA j hjn)
    obtain ⟨k,hk,_⟩ := h2' p hpj
    rw [he] at hk; cases hk
theorem zds {after : List (List Nat)} {listed : List Bool} {i : Nat} : i ∈ zje after listed ↔ i < after.length ∧ listed.getD i true = false ∧ ∀ j ∈ after.getD i [],listed.getD j false = true := by
 simp only [zje,List.mem_filter,List.mem_range,Bool.and_eq_true,Bool.not_eq_true',List.all_eq_true]
theorem zpt {l : List Ai} {after : List (List Nat)} {cl : List Nat} (hA : ∀ i,i < after.length → linA l after cl i = true) {K : zam → List zh → Prop} (hK : FE K) :
  ∀ (n : Nat) (lin : List (Nat × List Nat)) (listed : List Bool) (fr : zam) (σ : List zh),lin.length = n → zmy l after cl lin listed → zdv P l lin fr σ K → aany P l after K n listed fr σ
 | 0,lin,listed,fr, σ,hn,I,h => by
  have e : lin = [] := List.length_eq_zero_iff.1 hn
  subst e
  refine ⟨?_,h⟩
  rw [List.eq_nil_iff_forall_not_mem]
  intro i hi
  obtain ⟨h1,h2,_⟩ := zds.1 hi
  obtain ⟨p,hp,_⟩ := (I.mem i h1).1 h2
  cases hp
 | n + 1,lin,listed,fr, σ,hn,I,h => by
  refine ⟨fun h0 => ?_,fun i hi => ?_⟩
  ·exfalso
   cases lin with
   | nil => cases hn
   | cons p r =>
    have hlow := I.low p List.mem_cons_self
    have hr : p.1 ∈ zje after listed := by
     refine zds.2 ⟨hlow,(I.mem _ hlow).2 ⟨p,List.mem_cons_self,rfl⟩,fun j hj => ?_⟩
     have hjp := (zik (hA _ hlow)).1 j hj
     have hjn : j < after.length := by
      rcases hjp with h | h; · omega
      exact h.2
     have hjne : j ≠ p.1 := by
      rintro rfl
      rcases hjp with h | h
      ·omega
      ·rw [h.1] at hj; cases hj
     cases hl : listed.getD j false with
     | true => rfl
     | false =>
      rw [zsx I.len hjn false true] at hl
      obtain ⟨q,hq,e⟩ := (I.mem j hjn).1 hl
      rcases List.mem_cons.1 hq with rfl | hq
      ·exact absurd e.symm hjne
      ·have := (List.pairwise_cons.1 I.pair).1 q hq
       simp only [linB,Bool.and_eq_true,Bool.not_eq_true',List.contains_eq_mem,decide_eq_false_iff_not] at this
       rw [e] at this
       exact absurd hj this.1.2
    rw [h0] at hr
    cases hr
  ·obtain ⟨h1,h2,h3⟩ := zds.1 hi
   obtain ⟨q,hq,e⟩ := (I.mem i h1).1 h2
   obtain ⟨pre,post,rfl⟩ := List.append_of_mem hq
   obtain ⟨i',nd⟩ := q
   simp only at e
   subst e
   obtain ⟨_,_,x,hx,_⟩ := zik (hA i' h1)
   have hpair := List.pairwise_append.1 I.pair
   have hcross : ∀ p ∈ pre,linB l after cl p (i',nd) = true := fun p hp => hpair.2.2 p hp (i',nd) List.mem_cons_self
   have hpost : ∀ p ∈ post,linB l after cl (i',nd) p = true := fun p hp => (List.pairwise_cons.1 hpair.2.1).1 p hp
   have hB : ∀ p q,linB l after cl p q = true → p.1 ≠ q.1 ∧ ∃ y z,l[p.1]? = some y ∧ l[q.1]? = some z ∧ zpN y z = true ∧ ((cl.getD q.1 0).testBit p.1 = true ∨ pairOk y z p.2 q.2 = true) := by
    intro p q hpq
    simp only [linB,Bool.and_eq_true,Bool.not_eq_true',beq_eq_false_iff_ne] at hpq
    refine ⟨hpq.1.1, ?_⟩
    have := hpq.2
    split at this
    ·rename_i y z hy hz
     simp only [Bool.and_eq_true,Bool.or_eq_true] at this
     exact ⟨y,z,hy,hz,this.1,this.2⟩
    ·cases this
   have hun : ∀ p ∈ pre,listed.getD p.1 false = false := fun p hp => by
    have hlow := I.low p (List.mem_append_left _ hp)
    rw [zsx I.len hlow false true]
    exact (I.mem _ hlow).2 ⟨p,List.mem_append_left _ hp,rfl⟩
   have hex := extract hK hx (post := post) pre fr σ (fun p hp => by
     obtain ⟨_,y,z,hy,hz,_,hor⟩ := hB _ _ (hcross p hp)
     rw [hx] at hz; cases hz
     refine ⟨y,hy, ?_⟩
     rcases hor with hc | hc
     ·have := zkX hA I _ i' (Nat.lt_succ_self _) h1 h3 p.1 hc
      rw [hun p hp] at this; cases this
     ·exact hc)
    (hpair.1.imp fun {p q} hpq y z hy hz => by
     obtain ⟨_,y',z',hy',hz',hs,_⟩ := hB _ _ hpq
     rw [hy] at hy'; rw [hz] at hz'; cases hy'; cases hz'; exact hs)
    (fun p hp y hy => by
     obtain ⟨_,_,y',hy',hs⟩ := zik (hA p.1 (I.low p (List.mem_append_left _ hp)))
     rw [hy] at hy'; cases hy'; exact hs) h
   simp only [hx]
   refine zdP (fun f s hs => zpt hA hK n (pre ++ post) (listed.set i' true) f s (by simp at hn ⊢; omega) ?_ hs.2) hex
   have hne : ∀ p ∈ pre ++ post,p.1 ≠ i' := fun p hp => by
    rcases List.mem_append.1 hp with hp | hp
    ·exact (hB _ _ (hcross p hp)).1
    ·exact fun e => (hB _ _ (hpost p hp)).1 e.symm
   have hset : ∀ k d,k ≠ i' → (listed.set i' true).getD k d = listed.getD k d := fun k d hk => by simp [List.getD,List.getElem?_set_ne (Ne.symm hk)]
   have hseti : ∀ d,(listed.set i' true).getD i' d = true := fun d => by simp [List.getD,List.getElem?_set,I.len,h1]
   refine ⟨by rw [List.length_set]; exact I.len,fun k hk => ?_,fun p hp => I.low p ?_, ?_,fun k hk hl j hj => ?_⟩
   ·by_cases hki : k = i'
    ·subst hki
     rw [hseti]
     exact ⟨fun e => Bool.noConfusion e,fun ⟨p,hp,e⟩ => absurd e (hne p hp)⟩
    ·rw [hset k true hki,I.mem k hk]
     constructor
     ·rintro ⟨p,hp,rfl⟩
      refine ⟨p, ?_,rfl⟩
      rcases List.mem_append.1 hp with hp | hp
      ·exact List.mem_append_left _ hp
      ·rcases List.mem_cons.1 hp with rfl | hp
       ·exact absurd rfl hki
       ·exact List.mem_append_right _ hp
     ·rintro ⟨p,hp,rfl⟩
      refine ⟨p, ?_,rfl⟩
      rcases List.mem_append.1 hp with hp | hp
      ·exact List.mem_append_left _ hp
      ·exact List.mem_append_right _ (List.mem_cons_of_mem _ hp)
   ·rcases List.mem_append.1 hp with hp | hp
    ·exact List.mem_append_left _ hp
    ·exact List.mem_append_right _ (List.mem_cons_of_mem _ hp)
   ·exact I.pair.sublist (List.Sublist.append_left (List.sublist_cons_self _ _) _)
   ·have hj' : listed.getD j false = true := by
     by_cases hki : k = i'
     ·subst hki; exact h3 j hj
     ·rw [hset k true hki] at hl
      exact I.down k hk hl j hj
    by_cases hji : j = i'
    ·subst hji; exact hseti _
    ·rw [hset j false hji]; exact hj'
theorem linOk_inv {l : List Ai} {after : List (List Nat)} {lin : List (Nat × List Nat)} {cl : List Nat} (h : linOk l after lin cl = true) :
  lin.length = after.length ∧ zmy l after cl lin (List.replicate after.length false) ∧ ∀ i,i < after.length → linA l after cl i = true := by
 simp only [linOk,Bool.and_eq_true,List.all_eq_true,decide_eq_true_eq,beq_iff_eq,List.mem_range,List.contains_eq_mem,List.mem_map] at h
 obtain ⟨⟨⟨h1,h2⟩,h3⟩,h4⟩ := h
 refine ⟨h1,⟨by simp,fun i hi => ?_,h3,pw_spec h4,fun i hi e => ?_⟩,fun i hi => (h2 i hi).2⟩
 ·constructor
  ·intro _
   exact (h2 i hi).1
  ·intro _
   simp [List.getD,hi]
 ·simp [List.getD,hi] at e
theorem draw_front {l : List Ai} {after : List (List Nat)} {cl : List Nat} {pre post post' : List (Nat × List Nat)} {i' : Nat} {nd : List Nat} {listed : List Bool} (hA : ∀ i,i < after.length → linA l after cl i = true)
  (I : zmy l after cl (pre ++ (i',nd) :: post') listed) (h1 : i' < after.length) (h2 : listed.getD i' true = false) (h3 : ∀ j ∈ after.getD i' [],listed.getD j false = true) {x : Ai} (hx : l[i']? = some x)
  {K : zam → List zh → Prop} (hK : FE K) {fr : zam} {σ : List zh} (h : zdv P l (pre ++ (i',nd) :: post) fr σ K) :
  aop P x fr σ fun f s => zdv P l (pre ++ post) f s K := by
 have hpair := List.pairwise_append.1 I.pair
 have hcross : ∀ p ∈ pre,linB l after cl p (i',nd) = true := fun p hp => hpair.2.2 p hp (i',nd) List.mem_cons_self
 have hB : ∀ p q,linB l after cl p q = true → p.1 ≠ q.1 ∧ ∃ y z,l[p.1]? = some y ∧ l[q.1]? = some z ∧ zpN y z = true ∧ ((cl.getD q.1 0).testBit p.1 = true ∨ pairOk y z p.2 q.2 = true) := by
  intro p q hpq
  simp only [linB,Bool.and_eq_true,Bool.not_eq_true',beq_eq_false_iff_ne] at hpq
  refine ⟨hpq.1.1, ?_⟩
  have := hpq.2
  split at this
  ·rename_i y z hy hz
   simp only [Bool.and_eq_true,Bool.or_eq_true] at this
   exact ⟨y,z,hy,hz,this.1,this.2⟩
  ·cases this
 have hun : ∀ p ∈ pre,listed.getD p.1 false = false := fun p hp => by
  have hlow := I.low p (List.mem_append_left _ hp)
  rw [zsx I.len hlow false true]
  exact (I.mem _ hlow).2 ⟨p,List.mem_append_left _ hp,rfl⟩
 have hex := extract hK hx (post := post) pre fr σ (fun p hp => by
   obtain ⟨_,y,z,hy,hz,_,hor⟩ := hB _ _ (hcross p hp)
   rw [hx] at hz; cases hz
   refine ⟨y,hy, ?_⟩
   rcases hor with hc | hc
   ·have := zkX hA I _ i' (Nat.lt_succ_self _) h1 h3 p.1 hc
    rw [hun p hp] at this; cases this
   ·exact hc)
  (hpair.1.imp fun {p q} hpq y z hy hz => by
   obtain ⟨_,y',z',hy',hz',hs,_⟩ := hB _ _ hpq
   rw [hy] at hy'; rw [hz] at hz'; cases hy'; cases hz'; exact hs)
  (fun p hp y hy => by
   obtain ⟨_,_,y',hy',hs⟩ := zik (hA p.1 (I.low p (List.mem_append_left _ hp)))
   rw [hy] at hy'; cases hy'; exact hs) h
 exact zdP (fun f s hs => hs.2) hex
theorem adraw_mono' {l : List Ai} {K K' : zam → List zh → Prop} (hk : ∀ f s,K f s → K' f s) : ∀ (lin : List (Nat × List Nat)) (fr : zam) (σ : List zh),zdv P l lin fr σ K → zdv P l lin fr σ K'
 | [],fr, σ,h => hk _ _ h
 | (i,nd) :: r,fr, σ,h => by
  unfold zdv at *
  split at h
  ·refine zdP (fun f s hs => ?_) h
   rw [zil] at hs ⊢
   exact ⟨hs.1,adraw_mono' hk r _ s hs.2⟩
  ·exact h
theorem linOk_any {l : List Ai} {after : List (List Nat)} {lin : List (Nat × List Nat)} {cl : List Nat} (h : linOk l after lin cl = true) {K : zam → List zh → Prop} (hK : FE K) {fr : zam} {σ : List zh} (hd : zdv P l lin fr σ K) :
  aany P l after K after.length (List.replicate after.length false) fr σ := by
 simp only [linOk,Bool.and_eq_true,List.all_eq_true,decide_eq_true_eq,beq_iff_eq,List.mem_range,List.contains_eq_mem,List.mem_map] at h
 obtain ⟨⟨⟨h1,h2⟩,h3⟩,h4⟩ := h
 refine zpt (fun i hi => (h2 i hi).2) hK _ lin _ fr σ h1 ⟨by simp,fun i hi => ?_,h3,pw_spec h4,fun i hi e => ?_⟩ hd
 ·constructor
  ·intro _
   exact (h2 i hi).1
  ·intro _
   simp [List.getD,hi]
 ·simp [List.getD,hi] at e
theorem zmy.step {l : List Ai} {after : List (List Nat)} {cl : List Nat} {pre post : List (Nat × List Nat)} {i' : Nat} {nd : List Nat} {listed : List Bool} (I : zmy l after cl (pre ++ (i',nd) :: post) listed) (h1 : i' < after.length)
  (h3 : ∀ j ∈ after.getD i' [],listed.getD j false = true) : zmy l after cl (pre ++ post) (listed.set i' true) := by
 have hpair := List.pairwise_append.1 I.pair
 have hcross : ∀ p ∈ pre,linB l after cl p (i',nd) = true := fun p hp => hpair.2.2 p hp (i',nd) List.mem_cons_self
 have hpost : ∀ p ∈ post,linB l after cl (i',nd) p = true := fun p hp => (List.pairwise_cons.1 hpair.2.1).1 p hp
 have hB : ∀ p q,linB l after cl p q = true → p.1 ≠ q.1 := by
  intro p q hpq
  simp only [linB,Bool.and_eq_true,Bool.not_eq_true',beq_eq_false_iff_ne] at hpq
  exact hpq.1.1
 have hne : ∀ p ∈ pre ++ post,p.1 ≠ i' := fun p hp => by
  rcases List.mem_append.1 hp with hp | hp
  ·exact hB _ _ (hcross p hp)
  ·exact fun e => hB _ _ (hpost p hp) e.symm
 have hset : ∀ k d,k ≠ i' → (listed.set i' true).getD k d = listed.getD k d := fun k d hk => by simp [List.getD,List.getElem?_set_ne (Ne.symm hk)]
 have hseti : ∀ d,(listed.set i' true).getD i' d = true := fun d => by simp [List.getD,List.getElem?_set,I.len,h1]
 refine ⟨by rw [List.length_set]; exact I.len,fun k hk => ?_,fun p hp => I.low p ?_, ?_,fun k hk hl j hj => ?_⟩
 ·by_cases hki : k = i'
  ·subst hki
   rw [hseti]
   exact ⟨fun e => Bool.noConfusion e,fun ⟨p,hp,e⟩ => absurd e (hne p hp)⟩
  ·rw [hset k true hki,I.mem k hk]
   constructor
   ·rintro ⟨p,hp,rfl⟩
    refine ⟨p, ?_,rfl⟩
    rcases List.mem_append.1 hp with hp | hp
    ·exact List.mem_append_left _ hp
    ·rcases List.mem_cons.1 hp with rfl | hp
     ·exact absurd rfl hki
     ·exact List.mem_append_right _ hp
   ·rintro ⟨p,hp,rfl⟩
    refine ⟨p, ?_,rfl⟩
    rcases List.mem_append.1 hp with hp | hp
    ·exact List.mem_append_left _ hp
    ·exact List.mem_append_right _ (List.mem_cons_of_mem _ hp)
 ·rcases List.mem_append.1 hp with hp | hp
  ·exact List.mem_append_left _ hp
  ·exact List.mem_append_right _ (List.mem_cons_of_mem _ hp)
 ·exact I.pair.sublist (List.Sublist.append_left (List.sublist_cons_self _ _) _)
 ·have hj' : listed.getD j false = true := by
   by_cases hki : k = i'
   ·subst hki; exact h3 j hj
   ·rw [hset k true hki] at hl
    exact I.down k hk hl j hj
  by_cases hji : j = i'
  ·subst hji; exact hseti _
  ·rw [hset j false hji]; exact hj'
def dep (after : List (List Nat)) (i j : Nat) : List (List Nat) := after.set i (j :: after.getD i [])
theorem zqu (after : List (List Nat)) (i j : Nat) : (dep after i j).length = after.length := by simp [dep]
theorem dep_ne (after : List (List Nat)) {i j k : Nat} (h : k ≠ i) : (dep after i j).getD k [] = after.getD k [] := by
 simp [dep,List.getD,List.getElem?_set_ne (Ne.symm h)]
theorem dep_same (after : List (List Nat)) {i j : Nat} (h : i < after.length) : (dep after i j).getD i [] = j :: after.getD i [] := by
 simp [dep,List.getD,List.getElem?_set,h]
theorem ziu {after : List (List Nat)} {i j : Nat} {listed : List Bool} {k : Nat} (h : k ∈ zje after listed) (hk : k = i → listed.getD j false = true) : k ∈ zje (dep after i j) listed := by
 obtain ⟨h1,h2,h3⟩ := zds.1 h
 refine zds.2 ⟨by rw [zqu]; exact h1,h2,fun x hx => ?_⟩
 by_cases e : k = i
 ·subst e
  rw [dep_same _ h1] at hx
  rcases List.mem_cons.1 hx with rfl | hx
  ·exact hk rfl
  ·exact h3 x hx
 ·rw [dep_ne _ e] at hx
  exact h3 x hx
theorem ready_dep {after : List (List Nat)} {i j : Nat} {listed : List Bool} {k : Nat} (h : k ∈ zje (dep after i j) listed) : k ∈ zje after listed := by
 obtain ⟨h1,h2,h3⟩ := zds.1 h
 rw [zqu] at h1
 refine zds.2 ⟨h1,h2,fun x hx => h3 x ?_⟩
 by_cases e : k = i
 ·subst e
  rw [dep_same _ h1]
  exact List.mem_cons_of_mem _ hx
 ·rw [dep_ne _ e]
  exact hx
theorem nil_dep {after : List (List Nat)} {i j : Nat} {listed : List Bool} (h : zje after listed = []) : zje (dep after i j) listed = [] := by
 rw [List.eq_nil_iff_forall_not_mem] at h ⊢
 exact fun k hk => h k (ready_dep hk)
theorem zqA {l : List Ai} {after : List (List Nat)} {i j : Nat} {K : zam → List zh → Prop} : ∀ (n : Nat) (listed : List Bool) (fr : zam) (σ : List zh),listed.getD j false = true → aany P l (dep after i j) K n listed fr σ → aany P l after K n listed fr σ
 | 0,listed,fr, σ,hj,h => by
  refine ⟨?_,h.2⟩
  have h1 := h.1
  rw [List.eq_nil_iff_forall_not_mem] at h1 ⊢
  exact fun k hk => h1 k (ziu hk fun _ => hj)
 | n + 1,listed,fr, σ,hj,h => by
  refine ⟨fun h0 => h.1 (nil_dep h0),fun k hk => ?_⟩
  have h2 := h.2 k (ziu hk fun _ => hj)
  split at h2
  ·refine zdP (fun f s hs => zqA n _ f s ?_ hs) h2
   by_cases e : k = j
   ·subst e
    rcases Nat.lt_or_ge k listed.length with hl | hl
    ·simp [List.getD,List.getElem?_set,hl]
    ·simp [List.getD,List.getElem?_eq_none hl] at hj
   ·simp only [List.getD,List.getElem?_set_ne e]
    exact hj
  ·exact h2.elim
theorem zml {l : List Ai} {K : zam → List zh → Prop} : ∀ (a b : List (Nat × List Nat)) (fr : zam) (σ : List zh),zdv P l a fr σ (fun f s => zdv P l b f s K) → zdv P l (a ++ b) fr σ K
 | [],b,fr, σ,h => h
 | (i,nd) :: r,b,fr, σ,h => by
  rw [List.cons_append]
  unfold zdv at *
  split at h
  ·refine zdP (fun f s hs => ?_) h
   rw [zil] at hs ⊢
   exact ⟨hs.1,zml r b f s hs.2⟩
  ·exact h.elim
structure Two (l : List Ai) (after : List (List Nat)) (p q : Nat) : Prop where
 hp : p < after.length
 hq : q < after.length
 ne : p ≠ q
theorem two_any {l : List Ai} {after : List (List Nat)} {p q : Nat} {clA clB : List Nat} {restA restB : List (Nat × List Nat)} (hne : p ≠ q)
  (hA : ∀ i,i < (dep after q p).length → linA l (dep after q p) clA i = true) (hB : ∀ i,i < (dep after p q).length → linA l (dep after p q) clB i = true)
  {K : zam → List zh → Prop} (hK : FE K) :
  ∀ (n : Nat) (pre : List (Nat × List Nat)) (listed : List Bool) (fr : zam) (σ : List zh),
   (∀ x,x < after.length → listed.getD x true = false → x = p ∨ x = q ∨ (∃ y ∈ pre,y.1 = x) ∨ (clA.getD x 0).testBit p = true) →
   listed.getD p false = false → listed.getD q false = false → p < after.length → q < after.length →
   (pre ++ restA).length = n → (pre ++ restB).length = n → zmy l (dep after q p) clA (pre ++ restA) listed → zmy l (dep after p q) clB (pre ++ restB) listed →
   zdv P l pre fr σ (fun f s => zdv P l restA f s K ∧ zdv P l restB f s K) → aany P l after K n listed fr σ := by
 intro n
 induction n with
 | zero =>
  intro pre listed fr σ hx hp hq hpl hql e1 e2 IA IB h
  have e : pre ++ restA = [] := List.length_eq_zero_iff.1 e1
  have : ∃ y ∈ pre ++ restA,y.1 = p := (IA.mem p (by rw [zqu]; exact hpl)).1 (by rw [zsx (by rw [IA.len,zqu]) hpl true false]; exact hp)
  rw [e] at this
  obtain ⟨y,hy,_⟩ := this
  cases hy
 | succ n ih =>
  intro pre listed fr σ hx hp hq hpl hql e1 e2 IA IB h
  have AA := zpt hA hK (n + 1) _ listed fr σ e1 IA (zml _ _ _ _ (adraw_mono' (fun f s hs => hs.1) pre fr σ h))
  have AB := zpt hB hK (n + 1) _ listed fr σ e2 IB (zml _ _ _ _ (adraw_mono' (fun f s hs => hs.2) pre fr σ h))
  refine ⟨fun h0 => AA.1 (nil_dep h0),fun i hi => ?_⟩
  obtain ⟨h1,h2,h3⟩ := zds.1 hi
  have hset : ∀ d,(listed.set i true).getD i d = true := fun d => by
   have := IA.len
   rw [zqu] at this
   simp [List.getD,List.getElem?_set,this,h1]
  by_cases eip : i = p
  ·subst eip
   have h4 := AA.2 i (ziu hi fun e => absurd e hne)
   split at h4
   ·exact zdP (fun f s hs => zqA n _ f s (hset _) hs) h4
   ·exact h4.elim
  by_cases eiq : i = q
  ·subst eiq
   have h4 := AB.2 i (ziu hi fun e => absurd e (Ne.symm hne))
   split at h4
   ·exact zdP (fun f s hs => zqA n _ f s (hset _) hs) h4
   ·exact h4.elim
  have hin : ∃ y ∈ pre,y.1 = i := by
   rcases hx i h1 h2 with h | h | h | h
   ·exact absurd h eip
   ·exact absurd h eiq
   ·exact h
   ·obtain ⟨a1,a2,a3⟩ := zds.1 (ziu (i := q) (j := p) hi fun e => absurd e eiq)
    have := zkX hA IA _ i (Nat.lt_succ_self _) a1 a3 p h
    rw [this] at hp; cases hp
  obtain ⟨y,hy,e⟩ := hin
  obtain ⟨pre1,post1,rfl⟩ := List.append_of_mem hy
  obtain ⟨i',nd⟩ := y
  simp only at e
  subst e
  have hiA := ziu (i := q) (j := p) hi fun e => absurd e eiq
  have hiB := ziu (i := p) (j := q) hi fun e => absurd e eip
  obtain ⟨a1,a2,a3⟩ := zds.1 hiA
  obtain ⟨b1,b2,b3⟩ := zds.1 hiB
  obtain ⟨_,_,x,hxl,_⟩ := zik (hA i' a1)
  have IA' : zmy l (dep after q p) clA (pre1 ++ (i',nd) :: (post1 ++ restA)) listed := by simpa [List.append_assoc] using IA
  have IB' : zmy l (dep after p q) clB (pre1 ++ (i',nd) :: (post1 ++ restB)) listed := by simpa [List.append_assoc] using IB
  have hex := draw_front hA IA' a1 a2 a3 hxl (K := fun f s => zdv P l restA f s K ∧ zdv P l restB f s K) (fun f f' s he hs => ⟨zrJ hK _ _ _ _ he hs.1,zrJ hK _ _ _ _ he hs.2⟩) (post := post1) h
  simp only [hxl]
  refine zdP (fun f s hs => ih (pre1 ++ post1) (listed.set i' true) f s (fun k hk hkl => ?_) ?_ ?_ hpl hql ?_ ?_ ?_ ?_ hs) hex
  ·by_cases ek : k = i'
   ·subst ek; rw [hset] at hkl; cases hkl
   ·have hkl' : listed.getD k true = false := by simpa [List.getD,List.getElem?_set_ne (Ne.symm ek)] using hkl
    rcases hx k hk hkl' with h | h | ⟨y,hy,e⟩ | h
    ·exact .inl h
    ·exact .inr (.inl h)
    ·refine .inr (.inr (.inl ⟨y, ?_,e⟩))
     rcases List.mem_append.1 hy with hy | hy
     ·exact List.mem_append_left _ hy
     ·rcases List.mem_cons.1 hy with rfl | hy
      ·exact absurd e.symm ek
      ·exact List.mem_append_right _ hy
    ·exact .inr (.inr (.inr h))
  ·simpa [List.getD,List.getElem?_set_ne eip] using hp
  ·simpa [List.getD,List.getElem?_set_ne eiq] using hq
  ·simp only [List.length_append,List.length_cons] at e1 ⊢; omega
  ·simp only [List.length_append,List.length_cons] at e2 ⊢; omega
  ·have := IA'.step a1 a3
   simpa [List.append_assoc] using this
  ·have := IB'.step b1 b3
   simpa [List.append_assoc] using this
def twoOk (l : List Ai) (after : List (List Nat)) (lin : List (Nat × List Nat)) : List Nat → Bool
 | p :: q :: k :: r =>
  decide (p < after.length) && decide (q < after.length) && !(p == q) && decide (k ≤ after.length) && linOk l (dep after q p) (lin.take after.length) (r.take after.length) &&
  linOk l (dep after p q) (lin.take k ++ lin.drop after.length) (r.drop after.length) &&
  (List.range after.length).all fun x => x == p || x == q || ((lin.take k).map (·.1)).contains x || ((r.take after.length).getD x 0).testBit p
 | _ => false
def twoK : List Nat → Nat
 | _ :: _ :: k :: _ => k
 | _ => 0
theorem twoOk_any {l : List Ai} {after : List (List Nat)} {lin : List (Nat × List Nat)} {cl : List Nat} (h : twoOk l after lin cl = true) {K : zam → List zh → Prop} (hK : FE K) {fr : zam} {σ : List zh}
  (hd : zdv P l (lin.take (twoK cl)) fr σ fun f s => zdv P l ((lin.take after.length).drop (twoK cl)) f s K ∧ zdv P l (lin.drop after.length) f s K) :
  aany P l after K after.length (List.replicate after.length false) fr σ := by
 unfold twoOk at h
 split at h
 ·rename_i p q k r
  simp only [twoK] at hd
  simp only [Bool.and_eq_true,decide_eq_true_eq,Bool.not_eq_true',beq_eq_false_iff_ne] at h
  obtain ⟨⟨⟨⟨⟨⟨hp,hq⟩,hne⟩,hk⟩,hA⟩,hB⟩,hx⟩ := h
  obtain ⟨lA,IA,AA⟩ := linOk_inv hA
  obtain ⟨lB,IB,AB⟩ := linOk_inv hB
  rw [zqu] at lA lB IA IB
  have esplit : lin.take k ++ (lin.take after.length).drop k = lin.take after.length := by
   have e1 : lin.take k = (lin.take after.length).take k := by rw [List.take_take,Nat.min_eq_left hk]
   rw [e1]
   exact List.take_append_drop ..
  refine two_any hne AA AB hK after.length (lin.take k) _ fr σ (fun x hxl _ => ?_) ?_ ?_ hp hq ?_ ?_ ?_ ?_ hd
  ·have := List.all_eq_true.1 hx x (List.mem_range.2 hxl)
   simp only [Bool.or_eq_true,beq_iff_eq,List.contains_eq_mem,decide_eq_true_eq,List.mem_map] at this
   rcases this with ((h | h) | h) | h
   ·exact .inl h
   ·exact .inr (.inl h)
   ·exact .inr (.inr (.inl h))
   ·exact .inr (.inr (.inr h))
  ·simp [List.getD,hp]
  ·simp [List.getD,hq]
  ·rw [esplit]; exact lA
  ·exact lB
  ·rw [esplit]; exact IA
  ·exact IB
 ·cases h
def keysLt (n : Nat) (fr : zam) : Prop := ∀ p ∈ fr,p.1 < n
theorem zke {l : List Ai} {n : Nat} (hl : ∀ x ∈ l, ∀ d,x.dst = some d → d < n) {K : zam → List zh → Prop} : ∀ (lin : List (Nat × List Nat)) (fr : zam) (σ : List zh),keysLt n fr → zdv P l lin fr σ K → zdv P l lin fr σ fun f s => keysLt n f ∧ K f s
 | [],fr, σ,hf,h => ⟨hf,h⟩
 | (i,nd) :: r,fr, σ,hf,h => by
  unfold zdv at *
  split at h
  ·rename_i x hx
   refine zrH (fun _ _ => rfl) (fun u s hs => ?_) h
   rw [zil] at hs ⊢
   refine ⟨hs.1,zke hl r _ s (fun p hp => ?_) hs.2⟩
   unfold aput at hp
   split at hp
   ·rename_i d hd
    rcases List.mem_cons.1 hp with rfl | hp
    ·exact hl x (List.mem_of_getElem? hx) d hd
    ·exact hf p hp
   ·exact hf p hp
  ·exact h
theorem zkd {l : List Ai} {K K' : zam → List zh → Prop} (hk : ∀ f s,K f s → K' f s) : ∀ (lin : List (Nat × List Nat)) (fr : zam) (σ : List zh),zdv P l lin fr σ K → zdv P l lin fr σ K'
 | [],fr, σ,h => hk _ _ h
 | (i,nd) :: r,fr, σ,h => by
  unfold zdv at *
  split at h
  ·refine zdP (fun f s hs => ?_) h
   rw [zil] at hs ⊢
   exact ⟨hs.1,zkd hk r _ s hs.2⟩
  ·exact h
inductive Ex where
 | normal
 | exit (id : Nat)
 | ret
def awp (P : Program) : AC → (Ex → zam → List zh → Prop) → zam → List zh → Prop
 | .skip,Q,fr, σ => Q .normal fr σ
 | .ops l,Q,fr, σ => aops P l fr σ (Q .normal)
 | .draw l after lin cl,Q,fr, σ => match linOk l after lin cl with
  | true => zdv P l lin fr σ (Q .normal)
  | false => match twoOk l after lin cl with
   | true => zdv P l (lin.take (twoK cl)) fr σ fun f s => zdv P l ((lin.take after.length).drop (twoK cl)) f s (Q .normal) ∧ zdv P l (lin.drop after.length) f s (Q .normal)
   | false => False
 | .seq a b,Q,fr, σ => awp P a (fun | .normal,fr', σ' => awp P b Q fr' σ' | e,fr', σ' => Q e fr' σ') fr σ
 | .cond c a b,Q,fr, σ => zn (ev fr c) (awp P a Q fr σ) (awp P b Q fr σ)
 | .block id a,Q,fr, σ => awp P a (fun | .exit id',fr', σ' => if id' = id then Q .normal fr' σ' else Q (.exit id') fr' σ' | e,fr', σ' => Q e fr' σ') fr σ
 | .loop lv dd a,Q,fr, σ => zbb (lv.map (zgl fr)) σ fun vs σ' again =>
   awp P a (fun | .normal,f,s => again (lv.map (zgl f)) s | e,f,s => Q e f s) (setS (kill fr dd) lv vs) σ'
 | .exit id,Q,fr, σ => Q (.exit id) fr σ
 | .ret,Q,fr, σ => Q .ret fr σ
end Go.AW
