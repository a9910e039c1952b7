/- From a law's call in the own logic to what the given row asks of it. -/
import Derived.Test.YtfjommppajkpoaaGreatAwDraw2
import Derived.ProofKit
import Derived.OpenShut
set_option linter.all false
namespace Go.AW
open Go.ChangeShapes Go.WideShapes Go.ChangeAt Go.RowKit
def loc0 : Loc := { a := ⟨0, 0,none⟩ }
def argA (g : Bool) (ds : List D) : AV :=
 match g with
 | true => .agg (ds.map .d)
 | false => .d (ds.headD .nilp)
def ArgsOk : List (Bool × List Ty) → List AV → Nat → Prop
 | [],as0,_ => as0 = []
 | (g,ty) :: r,as0,n => ∃ ds as' m,zel ty ds ∧ zhx ds + m ≤ n ∧ as0 = argA g ds :: as' ∧ ArgsOk r as' m
def parOf (P : Program) (t : TypeId) : Option (Bool × List Ty) :=
 match zqn P t,flat P 24 t with
 | some g,some ts => if g || ts.length == 1 then some (g,ts) else none
 | _,_ => none
section
variable {H : Type} {enc : TypeId × Value → H} {P : Program} {W : World} {sp : Nat → Bool} {held : Bool} {bw : DataW H → Nat}
theorem cells_one_of {t : TypeId} {v : Value} {w : World} {r : Reach} {b : Nat} (hok : Value.okWide P w r b t v) (hg : zqn P t = some false) (ts : List Ty) (hts : flat P 24 t = some ts) : v.cells.toList = [v] := by
 unfold zqn at hg
 unfold Value.okWide at hok
 cases hu : P.underlying t with
 | none => simp [hu] at hg
 | some d =>
  rw [hu] at hg hok
  cases d <;> simp at hg <;> simp only at hok <;> cases v <;> first | rfl | (simp [Cell.okWide,Cell.ok,hu] at hok; done)
theorem args_ok (hB : IsBulk bw) : ∀ (ts : List TypeId) (pars : List (Bool × List Ty)) (vs : List Value) (dws : List (DataW H)) (ps : List MemPlace),ts.mapM (parOf P) = some pars →
  DataW.TrodAll enc P W 0 sp held ts vs dws ps → (∀ (j : Nat) t v,ts[j]? = some t → vs[j]? = some v → ∃ b,Value.okWide P W .any b t v) →
  ∃ as0,ArgsOk pars as0 (dws.map bw).sum ∧ RVs W (fun _ => loc0) [] as0 vs
 | [],pars,vs,dws,ps,h1,h2,h3 => by
  simp at h1; subst h1
  cases vs <;> cases dws <;> simp [DataW.TrodAll] at h2
  exact ⟨[],rfl,rfl,by simp⟩
 | t :: ts,pars,vs,dws,ps,h1,h2,h3 => by
  simp only [List.mapM_cons,Option.bind_eq_bind,Option.bind_eq_some_iff,Option.pure_def,Option.some.injEq] at h1
  obtain ⟨⟨g,ty⟩,hp,pars',hps,rfl⟩ := h1
  obtain ⟨v,vs',d,ds',p,q,rfl,rfl,rfl,h4,h5⟩ := trodAll_cons h2
  obtain ⟨as0,ih1,ih2⟩ := args_ok hB ts pars' vs' ds' q hps h5 (fun j t v hj hv => h3 (j + 1) t v hj hv)
  unfold parOf at hp
  split at hp
  ·rename_i g' ts' hag hfl
   simp only [Option.ite_none_right_eq_some,Option.some.injEq,Prod.mk.injEq] at hp
   obtain ⟨hc,rfl,rfl⟩ := hp
   obtain ⟨fuel,h4⟩ := h4
   obtain ⟨ds,k1,k2,k3⟩ := zqG hB 24 t _ fuel v.cells.toList d p hfl h4
   have hown : Own (fun _ => loc0) ([] : List zg) = fun _ _ => False := by
    funext b o
    simp [Own]
   refine ⟨argA g' ds :: as0,⟨ds,as0,_,k1,by simp only [List.map_cons,List.sum_cons]; exact Nat.add_le_add_right k3 _,rfl,ih1⟩,by have := ih2.1; simp [this],fun i a u ha hu => ?_⟩
   cases i with
   | succ i => exact ih2.2 i a u ha hu
   | zero =>
    simp at ha hu
    subst ha hu
    obtain ⟨b,hok⟩ := h3 0 t v rfl rfl
    cases g' with
    | false =>
     have hcv := cells_one_of hok hag _ hfl
     rw [hcv] at k2
     obtain ⟨x,rfl⟩ : ∃ x,ds = [x] := by
      have := k2.1
      match ds with
      | [x] => exact ⟨x,rfl⟩
      | [] => simp at this
      | _ :: _ :: _ => simp at this
     refine .d _ _ ?_
     rw [hown]
     exact k2.2 0 x v rfl rfl
    | true =>
     have hv : ∃ cs,v = .agg cs := by
      unfold zqn at hag
      unfold Value.okWide at hok
      split at hag
      ·rename_i hu; rw [hu] at hok; obtain ⟨cs,h,_⟩ := hok; exact ⟨cs,h⟩
      ·rename_i hu; rw [hu] at hok; obtain ⟨cs,h,_⟩ := hok; exact ⟨cs,h⟩
      ·cases hag
      ·cases hag
     obtain ⟨cs,rfl⟩ := hv
     have e : cs = cs.toList.toArray := by simp
     have k2' : zlq W ds cs.toList := k2
     show RV W _ [] (.agg (ds.map .d)) (.agg cs)
     rw [e]
     refine .agg _ _ (by have := k2'.1; simp at this ⊢; omega) fun i c u hc hu => ?_
     simp only [List.getElem?_map,Option.map_eq_some_iff] at hc
     obtain ⟨x,hx,rfl⟩ := hc
     refine .d _ _ ?_
     rw [hown]
     exact k2'.2 i x u hx hu
  ·cases hp
theorem law_end {f : Func} {s : ChangeSpec} {w' : World} {args : Array Value} {v : Value} {ds gs : List (DataW H)} {before : List MemPlace}
  (hW : DataW.Whole enc P f.params.toList s.vars false W args.toList ds gs before) (hvars : s.vars = []) (hfn : s.fn H (ds ++ gs) = { results := [.lit (.bool true)],args := ds })
  (hlaid : laidOutB P = true) (hmaps : mapsRowed P = true) (hfull : ∀ t e,t < P.types.size → P.underlying t = some (.slice e) → 0 < P.cellsOf e) (hpar : ∀ t ∈ f.params.toList,t < P.types.size)
  {tb : TypeId} (hres : f.resultTypes = #[tb]) (htb : P.underlying tb = some .bool)
  (hb : Below W.heap.size W w') (hv : v = .bool true) : s.post enc P f false true false false W args v w' := by
 subst hv
 have hW0 := hW
 have hlt : ∀ p ∈ before,p.block < W.heap.size := fun p hp => hW0.lt p hp
 obtain ⟨p,q,hA,hV,hpq,hz,hn⟩ := hW
 rw [hvars] at hV
 have hgq : gs = [] ∧ q = [] := by
  cases gs with
  | nil => exact ⟨rfl,by simpa [DataW.TrodVars] using hV⟩
  | cons => simp [DataW.TrodVars] at hV
 obtain ⟨rfl,rfl⟩ := hgq
 rw [List.append_nil] at hpq
 have carry : ∀ {ts : List TypeId} {vs : List Value} {ds : List (DataW H)} {ps : List MemPlace} {sp : Nat → Bool},DataW.TrodAll enc P W 0 sp true ts vs ds ps → (∀ x ∈ ps,W.sameAt w' x) → DataW.TrodAll enc P w' 0 sp true ts vs ds ps := by
  intro ts
  induction ts with
  | nil => intro vs ds ps sp h _; cases vs <;> cases ds <;> simp [DataW.TrodAll] at h ⊢; exact h
  | cons t ts ih =>
   intro vs ds ps sp h hs
   obtain ⟨v,vs',d,ds',p,q,rfl,rfl,rfl,⟨n,h1⟩,h2⟩ := trodAll_cons h
   exact ⟨p,q,⟨n,DataW.trod_carry n _ _ _ h1 (fun x hx => hs x (List.mem_append_left _ hx))⟩,ih h2 (fun x hx => hs x (List.mem_append_right _ hx)),rfl⟩
 have hargs : ∀ sp : Nat → Bool,(∀ x ∈ p,sp x.block = true) → DataW.TrodAll enc P w' 0 sp true f.params.toList args.toList ds p := fun sp hsp =>
  carry (DataW.TrodAll.respare (kids_rows hlaid hmaps) hfull hpar hA hsp) (fun x hx => hb.same (hlt x (by rw [hpq]; exact hx)))
 have hbool : ∀ (b : Nat) (sp : Nat → Bool) (hd : Bool),DataW.Trod enc P w' b sp hd tb (.bool true) (.lit (.bool true)) [] := fun b sp hd => ⟨1,by simp [DataW.trod,htb,Value.cells]⟩
 have hrl : (Value.bool true).resultList f.resultTypes.size = [.bool true] := by rw [hres]; rfl
 have hresT : ∀ (b : Nat) (sp : Nat → Bool) (hd : Bool),DataW.TrodAll enc P w' b sp hd f.resultTypes.toList ((Value.bool true).resultList f.resultTypes.size) [.lit (.bool true)] [] := fun b sp hd => by
  rw [hrl,hres]
  exact ⟨[], [],hbool b sp hd,rfl,rfl⟩
 refine ⟨ds, [],before, [],p, [],hW0, ?_, ?_, ?_,hb.frame _,fun h => by cases h⟩
 ·rw [hfn]; exact hresT _ _ _
 ·rw [hfn]; exact hargs _ (fun x hx => by have := hlt x (by rw [hpq]; exact hx); simpa using this)
 ·rw [hvars,hfn]; simp [DataW.TrodVars]
theorem law_calls (hB : IsBulk bw) {f : FuncId} {fn : Func} {s : ChangeSpec} {args : Array Value} {ds gs : List (DataW H)} {before : List MemPlace} {base : Nat} {pars : List (Bool × List Ty)}
  (hval : ∀ (j : Nat) t v,fn.params[j]? = some t → args[j]? = some v → Value.okWide P W .any base t v)
  (hW : DataW.Whole enc P fn.params.toList s.vars false W args.toList ds gs before) (hpars : fn.params.toList.mapM (parOf P) = some pars) (hvars : s.vars = []) (hfn : s.fn H (ds ++ gs) = { results := [.lit (.bool true)],args := ds })
  (hlaid : laidOutB P = true) (hmaps : mapsRowed P = true) (hfull : ((List.range P.types.size).all fun t => match P.underlying t with | some (.slice e) => decide (0 < P.cellsOf e) | _ => true) = true) (hpar : (fn.params.toList.all fun t => decide (t < P.types.size)) = true)
  {tb : TypeId} (hres : fn.resultTypes = #[tb]) (htb : P.underlying tb = some .bool)
  (h : ∀ as0,ArgsOk pars as0 (ds.map bw).sum → zq P f as0 [] fun r _ => r = .d (.bool true)) :
  Calls P f args W fun e W' => ∃ v,e = .returned v ∧ s.post enc P fn false true false false W args v W' := by
 have hW0 := hW
 obtain ⟨p,q,hA,hV,hpq,hz,hn⟩ := hW
 obtain ⟨as0,h1,h2⟩ := args_ok hB fn.params.toList pars args.toList ds p hpars hA (fun j t v hj hv => ⟨base,hval j t v (by simpa using hj) (by simpa using hv)⟩)
 have hS : Sim (fun _ => loc0) [] W := ⟨by simp,by simp⟩
 have := (h as0 h1).2 (fun _ => loc0) W args.toList hS h2
 rw [Array.toArray_toList] at this
 refine this.mono fun e W' he => ?_
 cases e with
 | panicked c => exact he.elim
 | outgrown => exact he.elim
 | returned v =>
  obtain ⟨L', σ',r,st,S',hr,rfl⟩ := he
  have hvb := hr.bool_inv
  have hb : Below W.heap.size W W' := ⟨st.os,st.tape,st.output,st.size,fun k hk => st.blk k hk (fun o => by simp [Own])⟩
  exact ⟨v,rfl,law_end hW0 hvars hfn hlaid hmaps (slices_full_of P hfull) (fun t ht => by simpa using List.all_eq_true.1 hpar t ht) hres htb hb hvb⟩
end
end Go.AW
