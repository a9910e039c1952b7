/- THE ABSTRACT LOGIC IS SOUND: what is shown of a function's resolved code holds of the model's run. -/
import Derived.Test.YtfgbofkdhfjegaaGreatAwSnd5
import Derived.Orders
import Derived.Deep.LoopGhost
import Derived.Test.YtfgbofkdhfjegaaGreatAwBase
set_option linter.all false
namespace Go.AW
section
variable {P:Program} {o:Oper} {fr:zar} {σ:List zh} {K:KT} {L:Nat->Loc} {w:World} {a:Act}
theorem callOk_spec {f : FuncId} (h : zxs P f = true) : ∃ fn c, P.funcs[f]? = some fn ∧ fn.name ≠ "runtime.NumGoroutine" ∧ fn.body = some c := by
 unfold zxs at h
 split at h
 ·rename_i fn hf
  simp only [Bool.and_eq_true,bne_iff_ne,ne_eq] at h
  obtain ⟨h1,h2⟩:=h
  cases hb:fn.body with
  | none=>simp [hb] at h2
  | some c=>exact ⟨fn,c,hf,h1,hb⟩
 ·cases h
theorem znj {f:FuncId} (h:zxs P f=true) (args:Array Value) (w:World):(callFunc f args).run P w = .ok (.enter f args) w:=by
 obtain ⟨fn,c,h1,h2,h3⟩:=callOk_spec h
 simp [callFunc,program,Sem.run,h1,h2,h3]
theorem dm1_sound {x:AV} {v:Value} (h:RV w L σ x v):RV w L σ (dm1 x) v:=by
 cases h with
 | own _ _ _ _ _ _ _ _ h=>exact .d _ _ h
 | exact _ _ h=>exact .d _ _ h
 | d _ _ h=>exact .d _ _ h
 | agg _ _ h1 h2=>exact .agg _ _ h1 h2
 | tup _ _ h1 h2=>exact .tup _ _ h1 h2
 | bsl _ _ _ _ _ h1 h2=>exact .bsl _ _ _ _ _ h1 h2
 | box _ _ h=>exact .box _ _ h
 | vp _ _ _ h=>exact .vp _ _ _ h
 | map _ h=>exact .map _ h
 | iter _ h=>exact .iter _ h
 | fn _ _ _ _ _ h1 h2 h3 h4=>exact .fn _ _ _ _ _ h1 h2 h3 h4
 | rsl _ _ _ _ _ _ _ h1 h2 h3 h4 h5 h6 h7=>exact .rsl _ _ _ _ _ _ _ h1 h2 h3 h4 h5 h6 h7
 | rpt _ _ _ _ _ h1 h2 h3=>exact .rpt _ _ _ _ _ h1 h2 h3
 | undef _=>exact .undef _
theorem ztV {x:AV} {v:Value} (h:RV w L σ x v):RV w L σ (dm x) v:=by
 cases x with
 | agg cs=>
  obtain ⟨vs,rfl,h1,h2⟩:=h.agg_inv
  refine .agg _ _ (by simpa using h1) fun i c v hc hv => ?_
  simp only [List.getElem?_map,Option.map_eq_some_iff] at hc
  obtain ⟨c',hc',rfl⟩:=hc
  exact dm1_sound (h2 i c' v hc' hv)
 | _=>exact dm1_sound h
theorem RVs.append {as0 bs:List AV} {us vs:List Value} (h1:RVs w L σ as0 us) (h2:RVs w L σ bs vs):RVs w L σ (as0++bs) (us++vs):=by
 refine ⟨by simp [h1.1,h2.1],fun i x v hx hv => ?_⟩
 rcases Nat.lt_or_ge i as0.length with hl|hl
 ·rw [List.getElem?_append_left hl] at hx
  rw [List.getElem?_append_left (by rw [h1.1];exact hl)] at hv
  exact h1.2 i x v hx hv
 ·rw [List.getElem?_append_right hl] at hx
  rw [List.getElem?_append_right (by rw [h1.1];exact hl),h1.1] at hv
  exact h2.2 _ x v hx hv
theorem dms_sound (F:FR w L σ fr a.tmps) {os:List Operand} {xs:List Opd} (h:os.mapM opd=some xs):RVs w L σ (xs.map fun x=>dm (ev fr x)) (os.map a.eval):=by
 have h0:=zle F h
 refine ⟨by have:=h0.1;simpa using this,fun i b v hb hv => ?_⟩
 simp only [List.getElem?_map,Option.map_eq_some_iff] at hb
 obtain ⟨x,hx,rfl⟩:=hb
 exact ztV (h0.2 i (ev fr x) v (by simp [hx]) hv)
abbrev After (P:Program) (o:Oper) (a:Act) (L:Nat->Loc) (σ:List zh) (w:World) (K:KT) (next:Act->World->Prop):Prop:=
 ∀ r v L' σ' w',zdz L σ w L' σ' w' → Sim L' σ' w' → RV w' L' σ' r v->K r σ' → next (a.put o.dst v) w'
theorem zaU.wp (h:zaU P o a L σ w K) {next:Act->World->Prop} {Q:Exit->Act->World->Prop} (hk:After P o a L σ w K next):o.wp P a w next Q:=by
 obtain ⟨r,v,L', σ',w',hrun,s,S',hr,hK⟩:=h
 unfold Oper.wp
 rcases hrun with hrun|⟨hrun,rfl⟩
 ·rw [hrun];exact hk r v L' σ' w' s S' hr hK
 ·rw [hrun];exact hk r _ L' σ' w' s S' hr hK
theorem call_wp {f:FuncId} {as0:List AV} {vs:List Value} (hrun:(execOp a.eval o).run P w = .ok (.enter f vs.toArray) w) (S:Sim L σ w) (hv:RVs w L σ as0 vs) (h:zp P f as0 σ K) {next:Act->World->Prop} {Q:Exit->Act->World->Prop}
  (hk:After P o a L σ w K next):o.wp P a w next Q:=by
 unfold Oper.wp
 rw [hrun,Oper.upon_enter]
 refine (h.2 L w vs S hv).mono fun e w' he => ?_
 cases e with
 | returned v=>
  obtain ⟨L', σ',r,s,S',hr,hK⟩:=he
  exact hk r v L' σ' w' s S' hr hK
 | panicked ch=>exact he.elim
 | outgrown=>exact he.elim
theorem astep_sound {i:I} (hc:zcy P o=some i.norm) (S:Sim L σ w) (F:FR w L σ fr a.tmps) (h:zbb P i fr σ K) {next:Act->World->Prop} {Q:Exit->Act->World->Prop}
  (hk:After P o a L σ w K next):o.wp P a w next Q:=by
 cases hop:o.op with
 | move x=>
  simp only [zcy,hop,Option.bind_eq_bind,Option.bind_eq_some_iff,Option.pure_def,Option.some.injEq] at hc
  obtain ⟨y,hy,hc⟩:=hc
  cases i<;>simp only [I.norm] at hc<;>cases hc
  exact (snd_mv S F hy (.inl hop) h).wp hk
 | assign x=>
  simp only [zcy,hop,Option.bind_eq_bind,Option.bind_eq_some_iff,Option.pure_def,Option.some.injEq] at hc
  obtain ⟨y,hy,hc⟩:=hc
  cases i<;>simp only [I.norm] at hc<;>cases hc
  exact (snd_mv S F hy (.inr hop) h).wp hk
 | pick c x y=>
  simp only [zcy,hop,Option.bind_eq_bind,Option.bind_eq_some_iff,Option.pure_def,Option.some.injEq] at hc
  obtain ⟨c',hc',x',hx,y',hy,hc⟩:=hc
  cases i<;>simp only [I.norm] at hc<;>cases hc
  exact (snd_pick S F hc' hx hy hop h).wp hk
 | alloc t=>
  simp only [zcy,hop,Option.bind_eq_bind,Option.bind_eq_some_iff,Option.pure_def,Option.some.injEq] at hc
  obtain ⟨z,hz,hc⟩:=hc
  cases i<;>simp only [I.norm] at hc<;>cases hc
  exact (snd_alloc S hz hop h).wp hk
 | box t x=>
  simp only [zcy,hop,Option.bind_eq_bind,Option.bind_eq_some_iff,Option.pure_def,Option.some.injEq] at hc
  obtain ⟨y,hy,hc⟩:=hc
  cases i<;>simp only [I.norm] at hc<;>cases hc
  exact (snd_box S F hy hop h).wp hk
 | build t parts=>
  have hc':=hc
  simp only [zcy,hop] at hc
  have:i.norm=i:=by
   split at hc
   ·simp only [Option.bind_eq_bind,Option.bind_eq_some_iff] at hc
    obtain ⟨_,_,_,_,hc⟩:=hc
    split at hc
    ·simp only [Option.pure_def,Option.some.injEq] at hc
     cases i<;>simp only [I.norm] at hc<;>cases hc;rfl
    ·cases hc
   ·simp only [Option.bind_eq_bind,Option.bind_eq_some_iff,Option.pure_def,Option.some.injEq] at hc
    obtain ⟨_,_,_,_,_,_,hc⟩:=hc
    cases i<;>simp only [I.norm] at hc<;>cases hc;rfl
   ·cases hc
  rw [this] at hc'
  exact (snd_build S F hop hc' h).wp hk
 | buildSlice t n parts=>
  have hc':=hc
  simp only [zcy,hop] at hc
  split at hc
  ·simp only [Option.bind_eq_bind,Option.bind_eq_some_iff,Option.pure_def] at hc
   obtain ⟨_,_,_,_,_,_,hc⟩:=hc
   split at hc
   ·simp only [Option.some.injEq] at hc
    cases i<;>simp only [I.norm] at hc<;>cases hc
    exact (snd_mkslice S F hop hc' h).wp hk
   ·cases hc
  ·cases hc
 | load t x=>
  simp only [zcy,hop,Option.bind_eq_bind,Option.bind_eq_some_iff,Option.pure_def,Option.some.injEq] at hc
  obtain ⟨g,hg,n,hn,y,hy,hc⟩:=hc
  cases i<;>simp only [I.norm] at hc<;>cases hc
  exact (snd_load S F hg hn hy hop h).wp hk
 | store t x y=>
  simp only [zcy,hop,Option.bind_eq_bind,Option.bind_eq_some_iff,Option.pure_def,Option.some.injEq] at hc
  obtain ⟨n,hn,x',hx,y',hy,hc⟩:=hc
  cases i<;>simp only [I.norm] at hc<;>cases hc
  exact (snd_store S F hn hx hy hop h).wp hk
 | nilCheck x=>
  simp only [zcy,hop,Option.bind_eq_bind,Option.bind_eq_some_iff,Option.pure_def,Option.some.injEq] at hc
  obtain ⟨y,hy,hc⟩:=hc
  cases i<;>simp only [I.norm] at hc<;>cases hc
  exact (snd_nilchk S F hy hop h).wp hk
 | binOp op t x y u=>
  simp only [zcy,hop] at hc
  split at hc
  ·rename_i hn
   simp only [Option.bind_eq_bind,Option.bind_eq_some_iff,Option.pure_def,Option.some.injEq] at hc
   obtain ⟨x',hx,hc⟩:=hc
   cases i<;>simp only [I.norm] at hc<;>cases hc
   exact (snd_isnil S F hn hx hop h).wp hk
  ·simp only [Option.bind_eq_bind,Option.bind_eq_some_iff,Option.pure_def,Option.some.injEq] at hc
   obtain ⟨e,he,x',hx,y',hy,hc⟩:=hc
   cases i<;>simp only [I.norm] at hc<;>cases hc
   exact (snd_bin S F he hx hy hop h).wp hk
 | makeMap t r=>
  cases r with
  | some r=>simp [zcy,hop] at hc
  | none=>
   simp only [zcy,hop] at hc
   split at hc
   ·rename_i kt et ht
    cases i<;>simp only [I.norm] at hc<;>cases hc
    exact (snd_mkmap S ht hop h).wp hk
   ·cases hc
 | lookup t m k ok=>
  simp only [zcy,hop] at hc
  split at hc
  ·rename_i kt et ht
   simp only [Option.bind_eq_bind,Option.bind_eq_some_iff,Option.pure_def,Option.some.injEq] at hc
   obtain ⟨kk,hkk,inf,hi,z,hz,za,hza,m',hm,k',hk',hc⟩:=hc
   cases i<;>simp only [I.norm] at hc<;>cases hc
   exact (snd_mget S F ht hkk hi hz hza hm hk' hop h).wp hk
  ·cases hc
 | mapUpdate t m k x=>
  simp only [zcy,hop] at hc
  split at hc
  ·rename_i kt et ht
   simp only [Option.bind_eq_bind,Option.bind_eq_some_iff,Option.pure_def,Option.some.injEq] at hc
   obtain ⟨kk,hkk,m',hm,k',hk',x',hx,hc⟩:=hc
   cases i<;>simp only [I.norm] at hc<;>cases hc
   exact (snd_mset S F ht hkk hm hk' hx (.inl hop) h).wp hk
  ·cases hc
 | insert t m k x=>
  simp only [zcy,hop] at hc
  split at hc
  ·rename_i kt et ht
   simp only [Option.bind_eq_bind,Option.bind_eq_some_iff,Option.pure_def,Option.some.injEq] at hc
   obtain ⟨kk,hkk,m',hm,k',hk',x',hx,hc⟩:=hc
   cases i<;>simp only [I.norm] at hc<;>cases hc
   exact (snd_mset S F ht hkk hm hk' hx (.inr hop) h).wp hk
  ·cases hc
 | unOp op t x=>
  simp only [zcy,hop,Option.bind_eq_bind,Option.bind_eq_some_iff,Option.pure_def,Option.some.injEq] at hc
  obtain ⟨y,hy,hc⟩:=hc
  cases i<;>simp only [I.norm] at hc<;>cases hc
  exact (snd_un S F hy hop h).wp hk
 | convert src dst x=>
  have hc':=hc
  simp only [zcy,hop] at hc
  have:i.norm=i:=by
   cases i<;>first|rfl|skip
   all_goals
    split at hc<;>first
     | (split at hc<;>first|(simp only [Option.bind_eq_bind,Option.bind_eq_some_iff,Option.pure_def,Option.some.injEq] at hc;obtain ⟨_,_,hc⟩:=hc;simp only [I.norm] at hc;cases hc;done)|(cases hc;done))
     | (simp only [Option.bind_eq_bind,Option.bind_eq_some_iff,Option.pure_def,Option.some.injEq] at hc;obtain ⟨_,_,hc⟩:=hc;simp only [I.norm] at hc;cases hc;done)
     | (cases hc;done)
  rw [this] at hc'
  exact (snd_conv S F hop hc' h).wp hk
 | slice t x lo hi mx=>
  have hc':=hc
  simp only [zcy,hop] at hc
  have:i.norm=i:=by
   cases i<;>first|rfl|skip
   all_goals
    split at hc
    ·simp only [Option.bind_eq_bind,Option.bind_eq_some_iff,Option.pure_def,Option.some.injEq] at hc
     obtain ⟨_,_,_,_,_,_,_,_,hc⟩:=hc;simp only [I.norm] at hc;cases hc
    ·simp only [Option.bind_eq_bind,Option.bind_eq_some_iff,Option.pure_def,Option.some.injEq] at hc
     obtain ⟨_,_,_,_,_,_,_,_,_,_,hc⟩:=hc;simp only [I.norm] at hc;cases hc
    ·simp only [Option.bind_eq_bind,Option.bind_eq_some_iff,Option.pure_def,Option.some.injEq] at hc
     obtain ⟨_,_,_,_,_,_,_,_,_,_,hc⟩:=hc;simp only [I.norm] at hc;cases hc
    ·cases hc
  rw [this] at hc'
  exact (snd_slc S F hop hc' h).wp hk
 | fieldAddr t x k=>
  have hc':=hc
  simp only [zcy,hop] at hc
  have:i.norm=i:=by
   cases i<;>first|rfl|skip
   all_goals
    split at hc
    ·simp only [Option.bind_eq_bind,Option.bind_eq_some_iff] at hc
     obtain ⟨_,_,_,_,hc⟩:=hc
     split at hc
     ·cases hc
     ·simp only [Option.bind_eq_some_iff,Option.pure_def,Option.some.injEq] at hc
      obtain ⟨_,_,hc⟩:=hc;simp only [I.norm] at hc;cases hc
    ·cases hc
  rw [this] at hc'
  exact (snd_faddr S F hop hc' h).wp hk
 | field t x k=>
  have hc':=hc
  simp only [zcy,hop] at hc
  have:i.norm=i:=by
   cases i<;>first|rfl|skip
   all_goals
    split at hc
    ·simp only [Option.bind_eq_bind,Option.bind_eq_some_iff,Option.pure_def,Option.some.injEq] at hc
     obtain ⟨_,_,_,_,_,_,_,_,hc⟩:=hc;simp only [I.norm] at hc;cases hc
    ·cases hc
  rw [this] at hc'
  exact (snd_field S F hop hc' h).wp hk
 | indexAddr t x y=>
  have hc':=hc
  simp only [zcy,hop] at hc
  have:i.norm=i:=by
   cases i<;>first|rfl|skip
   all_goals
    split at hc
    ·simp only [Option.bind_eq_bind,Option.bind_eq_some_iff,Option.pure_def,Option.some.injEq] at hc
     obtain ⟨_,_,_,_,_,_,hc⟩:=hc;simp only [I.norm] at hc;cases hc
    ·simp only [Option.bind_eq_bind,Option.bind_eq_some_iff,Option.pure_def,Option.some.injEq] at hc
     obtain ⟨_,_,_,_,_,_,hc⟩:=hc;simp only [I.norm] at hc;cases hc
    ·cases hc
  rw [this] at hc'
  exact (snd_iaddr S F hop hc' h).wp hk
 | index t x y=>
  have hc':=hc
  simp only [zcy,hop] at hc
  have:i.norm=i:=by
   cases i<;>first|rfl|skip
   all_goals
    split at hc
    ·simp only [Option.bind_eq_bind,Option.bind_eq_some_iff,Option.pure_def,Option.some.injEq] at hc
     obtain ⟨_,_,_,_,hc⟩:=hc;simp only [I.norm] at hc;cases hc
    ·simp only [Option.bind_eq_bind,Option.bind_eq_some_iff,Option.pure_def,Option.some.injEq] at hc
     obtain ⟨_,_,_,_,_,_,_,_,hc⟩:=hc;simp only [I.norm] at hc;cases hc
    ·cases hc
  rw [this] at hc'
  exact (snd_idxA S F hop hc' h).wp hk
 | extract x k=>
  simp only [zcy,hop,Option.bind_eq_bind,Option.bind_eq_some_iff,Option.pure_def,Option.some.injEq] at hc
  obtain ⟨y,hy,hc⟩:=hc
  cases i<;>simp only [I.norm] at hc<;>cases hc
  exact (snd_extract S F hy hop h).wp hk
 | range t x=>
  have hc':=hc
  simp only [zcy,hop] at hc
  have:i.norm=i:=by
   cases i<;>first|rfl|skip
   all_goals
    split at hc
    ·simp only [Option.bind_eq_bind,Option.bind_eq_some_iff,Option.pure_def,Option.some.injEq] at hc
     obtain ⟨_,_,hc⟩:=hc;simp only [I.norm] at hc;cases hc
    ·cases hc
  rw [this] at hc'
  exact (snd_rangeS S F hop hc' h).wp hk
 | next x s=>
  cases s
  ·simp [zcy,hop] at hc
  ·simp only [zcy,hop,Option.bind_eq_bind,Option.bind_eq_some_iff,Option.pure_def,Option.some.injEq] at hc
   obtain ⟨y,hy,hc⟩:=hc
   cases i<;>simp only [I.norm] at hc<;>cases hc
   exact (snd_nextS S F hy hop h).wp hk
 | makeFunc f first cap=>
  simp only [zcy,hop,Option.bind_eq_bind,Option.bind_eq_some_iff,Option.pure_def,Option.some.injEq] at hc
  obtain ⟨f',hf,c',hcp,hc⟩:=hc
  cases i<;>simp only [I.norm] at hc<;>cases hc
  exact (snd_mkfn S F hf hcp hop h).wp hk
 | call c=>
  simp only [zcy,hop] at hc
  split at hc
  ·rename_i f hcal
   split at hc
   ·rename_i hok
    simp only [Option.bind_eq_bind,Option.bind_eq_some_iff,Option.pure_def,Option.some.injEq] at hc
    obtain ⟨args,hargs,hc⟩:=hc
    cases i<;>simp only [I.norm] at hc<;>cases hc
    rename_i raw
    have e1:c.args.map a.eval=(c.args.toList.map a.eval).toArray:=by apply Array.ext';simp
    cases raw
    ·refine call_wp (vs:=c.args.toList.map a.eval) ?_ S (dms_sound F hargs) h hk
     simp [execOp,hop,resolve,hcal,Act.eval,Deferred.ofValue,invoke,znj hok,e1]
    ·refine call_wp (vs:=c.args.toList.map a.eval) ?_ S (zle F hargs) h hk
     simp [execOp,hop,resolve,hcal,Act.eval,Deferred.ofValue,invoke,znj hok,e1]
   ·cases hc
  ·rename_i x _ hcal
   simp only [Option.bind_eq_bind,Option.bind_eq_some_iff,Option.pure_def,Option.some.injEq] at hc
   obtain ⟨g,hg,args,hargs,hc⟩:=hc
   cases i<;>simp only [I.norm] at hc<;>cases hc
   simp only [zbb,zap] at h
   have hv:=zac F hg
   split at h
   ·rename_i f first cap hid
    rw [hid] at hv
    obtain ⟨fs,cs,hX,r1,r2⟩:=hv.fn_inv
    refine call_wp (vs:=fs++c.args.toList.map a.eval++cs) ?_ S ((r1.append (dms_sound F hargs)).append r2) h hk
    have e1:c.args.map a.eval=(c.args.toList.map a.eval).toArray:=by apply Array.ext';simp
    simp [execOp,hop,resolve,hcal,hX,Deferred.ofValue,invoke,znj h.1,e1]
   ·exact h.elim
  ·rename_i hcal
   split at hc
   ·rename_i t x ht hargs
    have key:∀ (k:LK) (y:Opd),opd x=some y->i = .len k y->LKok P t k->o.wp P a w next Q:=fun k y hy hi hp=>by
     subst hi;exact (snd_len S F hop hcal ht hargs hy hp h).wp hk
    split at hc
    ·rename_i hu
     simp only [Option.bind_eq_bind,Option.bind_eq_some_iff,Option.pure_def,Option.some.injEq] at hc
     obtain ⟨y,hy,hc⟩:=hc
     exact key .str y hy (by cases i<;>simp only [I.norm] at hc<;>cases hc;rfl) hu
    ·rename_i e hu
     simp only [Option.bind_eq_bind,Option.bind_eq_some_iff,Option.pure_def,Option.some.injEq] at hc
     obtain ⟨y,hy,hc⟩:=hc
     exact key .sl y hy (by cases i<;>simp only [I.norm] at hc<;>cases hc;rfl) ⟨e,hu⟩
    ·rename_i n e hu
     simp only [Option.bind_eq_bind,Option.bind_eq_some_iff,Option.pure_def,Option.some.injEq] at hc
     obtain ⟨y,hy,hc⟩:=hc
     exact key (.arr n) y hy (by cases i<;>simp only [I.norm] at hc<;>cases hc;rfl) (.inl ⟨e,hu⟩)
    ·simp only [Option.bind_eq_bind,Option.bind_eq_some_iff,Option.pure_def,Option.some.injEq] at hc
     obtain ⟨y,hy,hc⟩:=hc
     exact key .map y hy (by cases i<;>simp only [I.norm] at hc<;>cases hc;rfl) ⟨_,_,by assumption⟩
    ·rename_i e hu
     split at hc
     ·rename_i n e' hu'
      simp only [Option.bind_eq_bind,Option.bind_eq_some_iff,Option.pure_def,Option.some.injEq] at hc
      obtain ⟨y,hy,hc⟩:=hc
      exact key (.arr n) y hy (by cases i<;>simp only [I.norm] at hc<;>cases hc;rfl) (.inr ⟨e,e',hu,hu'⟩)
     ·cases hc
    ·cases hc
   ·cases hc
  ·rename_i hcal
   split at hc
   ·rename_i t u x y hat hargs
    have key:∀ e,P.underlying t=some (.slice e)->((∃ e',P.underlying u=some (.slice e'))∨P.underlying u=some .string) →
      (do let s ← sizeOf? P e;let i ← P.info? e;let z ← zrC P e;if 0<s&&z.length==s&&0<i.bytes then pure (I.append false s i.bytes z (← opd x) (← opd y)) else none)=some i.norm->o.wp P a w next Q:=fun e ht hu hc=>by
     simp only [Option.bind_eq_bind,Option.bind_eq_some_iff] at hc
     obtain ⟨s,hs,inf,hi,z,hz,hc⟩:=hc
     split at hc
     ·rename_i hcond
      simp only [Bool.and_eq_true,decide_eq_true_eq,beq_iff_eq] at hcond
      simp only [Option.bind_eq_some_iff,Option.pure_def,Option.some.injEq] at hc
      obtain ⟨x',hx,y',hy,hc⟩:=hc
      cases i<;>simp only [I.norm] at hc<;>cases hc
      rename_i mu
      cases mu
      ·exact (snd_append S F hop hcal hat hargs ht hu hs hi hz hcond.1.1 hcond.1.2 hcond.2 rfl hx hy h).wp hk
      ·exact (snd_appendR S F hop hcal hat hargs ht hu hs hi hz hcond.1.1 hcond.1.2 hcond.2 rfl hx hy h).wp hk
     ·cases hc
    split at hc
    ·rename_i e e' ht hu;exact key e ht (.inl ⟨e',hu⟩) hc
    ·rename_i e ht hu;exact key e ht (.inr hu) hc
    ·rename_i e k0 ht hu
     simp only [Option.bind_eq_bind,Option.bind_eq_some_iff] at hc
     obtain ⟨s,hs,inf,hi,z,hz,hc⟩:=hc
     split at hc
     ·rename_i hcond
      simp only [Bool.and_eq_true,decide_eq_true_eq,beq_iff_eq] at hcond
      simp only [Option.bind_eq_some_iff,Option.pure_def,Option.some.injEq] at hc
      obtain ⟨x',hx,y',hy,hc⟩:=hc
      cases i<;>simp only [I.norm] at hc<;>cases hc
      exact (snd_appz S F hop hcal hat hargs ht hu hs hi hz hcond.1.1 hcond.1.2 hcond.2 rfl hx hy h).wp hk
     ·cases hc
    ·cases hc
   ·cases hc
  ·rename_i hcal
   split at hc
   ·rename_i t m k hat hargs
    split at hc
    ·rename_i kt et ht
     simp only [Option.bind_eq_bind,Option.bind_eq_some_iff,Option.pure_def,Option.some.injEq] at hc
     obtain ⟨kk,hkk,m',hm,k',hk',hc⟩:=hc
     cases i<;>simp only [I.norm] at hc<;>cases hc
     exact (snd_mdel S F hop hcal hat hargs ht hkk hm hk' h).wp hk
    ·cases hc
   ·cases hc
  ·rename_i hcal
   split at hc
   ·rename_i t x hat hargs
    split at hc
    ·rename_i e ht
     simp only [Option.bind_eq_bind,Option.bind_eq_some_iff,Option.pure_def,Option.some.injEq] at hc
     obtain ⟨x',hx,hc⟩:=hc
     cases i<;>simp only [I.norm] at hc<;>cases hc
     exact (snd_cap S F hop hcal hat hargs ht hx h).wp hk
    ·cases hc
   ·cases hc
  ·rename_i hcal
   simp only [Option.bind_eq_bind,Option.bind_eq_some_iff,Option.pure_def,Option.some.injEq] at hc
   obtain ⟨ys,hys,hc⟩:=hc
   cases i<;>simp only [I.norm] at hc<;>cases hc
   exact (snd_max S F hop hcal hys h).wp hk
  ·rename_i hcal
   simp only [Option.bind_eq_bind,Option.bind_eq_some_iff,Option.pure_def,Option.some.injEq] at hc
   obtain ⟨ys,hys,hc⟩:=hc
   cases i<;>simp only [I.norm] at hc<;>cases hc
   exact (snd_min S F hop hcal hys h).wp hk
  ·cases hc
 | makeInterface t x=>
  simp only [zcy,hop,Option.some.injEq] at hc
  cases i<;>simp only [I.norm] at hc<;>cases hc
  exact h.elim
 | panic x=>
  simp only [zcy,hop,Option.some.injEq] at hc
  cases i<;>simp only [I.norm] at hc<;>cases hc
  exact h.elim
 | _=>simp [zcy,hop] at hc
end
variable {P:Program}
theorem zp.mono0 {f:FuncId} {as0:List AV} {σ:List zh} {K K':AV->List zh->Prop} (hk:∀ r σ',K r σ' → K' r σ') (h:zp P f as0 σ K):zp P f as0 σ K':=
 ⟨h.1,fun L w vs S hv=>Calls.mono (h.2 L w vs S hv) fun e w' he=>by
  cases e with
  | returned v=>obtain ⟨L', σ',r,a,b,c,d⟩:=he;exact ⟨L', σ',r,a,b,c,hk _ _ d⟩
  | panicked _=>exact he
  | outgrown=>exact he⟩
theorem binA_mono {op:BinOp} {e:EK} {x y:AV} {K K':AV->Prop} (hk:∀ a,K a->K' a) (h:zdr op e x y K):zdr op e x y K':=by
 unfold zdr at *
 repeat' split at h
 all_goals (first|exact h.elim|exact hk _ h|exact ⟨h.1,hk _ h.2⟩|exact ⟨h.1,h.2.1,hk _ h.2.2⟩|skip)
 all_goals (simp only [*];try exact ⟨h.1,hk _ h.2⟩)
 all_goals grind
theorem boxC_mono (x:AV) {σ:List zh} {K K':KT} (hk:∀ a s,K a s->K' a s) (h:zaS x σ K):zaS x σ K':=by
 unfold zaS at *
 repeat' split at h
 all_goals (first|exact h.elim|skip)
 all_goals (revert h;try simp only [*,if_true,if_false,Bool.false_eq_true,reduceIte,ite_true,ite_false])
 all_goals (intro h)
 all_goals (repeat (refine ⟨h.1,?_⟩;replace h:=h.2))
 all_goals (first|exact hk _ _ h|exact h.elim)
theorem buildC_mono (o:Option (List AV)) {σ:List zh} {K K':KT} (hk:∀ a s,K a s->K' a s) (h:zA o σ K):zA o σ K':=by
 unfold zA at *
 repeat' split at h
 all_goals (first|exact h.elim|skip)
 all_goals (revert h;try simp only [*,if_true,if_false,Bool.false_eq_true,reduceIte,ite_true,ite_false])
 all_goals (intro h)
 all_goals (repeat (refine ⟨h.1,?_⟩;replace h:=h.2))
 all_goals (first|exact hk _ _ h|exact h.elim)
theorem zyt (mu:Bool) (s n:Nat) (o:Option (List AV)) {σ:List zh} {K K':KT} (hk:∀ a s,K a s->K' a s) (h:zr mu s n o σ K):zr mu s n o σ K':=by
 unfold zr at *
 repeat' split at h
 all_goals (first|exact h.elim|skip)
 all_goals (revert h;try simp only [*,if_true,if_false,Bool.false_eq_true,reduceIte,ite_true,ite_false])
 all_goals (intro h)
 all_goals (repeat (refine ⟨h.1,?_⟩;replace h:=h.2))
 all_goals (first|exact hk _ _ h|exact h.elim)
theorem loadC_mono (agg:Bool) (n:Nat) (x:AV) {σ:List zh} {K K':KT} (hk:∀ a s,K a s->K' a s) (h:zl agg n x σ K):zl agg n x σ K':=by
 unfold zl at *
 repeat' split at h
 all_goals (first|exact h.elim|skip)
 all_goals (revert h;try simp only [*,if_true,if_false,Bool.false_eq_true,reduceIte,ite_true,ite_false])
 all_goals (intro h)
 all_goals (repeat (refine ⟨h.1,?_⟩;replace h:=h.2))
 all_goals (first|exact hk _ _ h|exact h.elim)
theorem storeC_mono (n:Nat) (x y:AV) {σ:List zh} {K K':KT} (hk:∀ a s,K a s->K' a s) (h:zm n x y σ K):zm n x y σ K':=by
 unfold zm at *
 repeat' split at h
 all_goals (first|exact h.elim|skip)
 all_goals (revert h;try simp only [*,if_true,if_false,Bool.false_eq_true,reduceIte,ite_true,ite_false])
 all_goals (intro h)
 all_goals (repeat (refine ⟨h.1,?_⟩;replace h:=h.2))
 all_goals (first|exact hk _ _ h|exact h.elim)
theorem nilC_mono (x:AV) {σ:List zh} {K K':KT} (hk:∀ a s,K a s->K' a s) (h:zbg x σ K):zbg x σ K':=by
 unfold zbg at *
 repeat' split at h
 all_goals (first|exact h.elim|skip)
 all_goals (revert h;try simp only [*,if_true,if_false,Bool.false_eq_true,reduceIte,ite_true,ite_false])
 all_goals (intro h)
 all_goals (repeat (refine ⟨h.1,?_⟩;replace h:=h.2))
 all_goals (first|exact hk _ _ h|exact h.elim)
theorem convC_mono (c:CK) (x:AV) {σ:List zh} {K K':KT} (hk:∀ a s,K a s->K' a s) (h:zaf c x σ K):zaf c x σ K':=by
 unfold zaf at *
 repeat' split at h
 all_goals (first|exact h.elim|skip)
 all_goals (revert h;try simp only [*,if_true,if_false,Bool.false_eq_true,reduceIte,ite_true,ite_false])
 all_goals (intro h)
 all_goals (repeat (refine ⟨h.1,?_⟩;replace h:=h.2))
 all_goals (first|exact hk _ _ h|exact h.elim)
theorem slcC_mono (k:SK) (x:AV) (lo hi mx:Option AV) {σ:List zh} {K K':KT} (hk:∀ a s,K a s->K' a s) (h:zcv k x lo hi mx σ K):zcv k x lo hi mx σ K':=by
 unfold zcv at *
 repeat' split at h
 all_goals (first|exact h.elim|skip)
 all_goals (revert h;try simp only [*,if_true,if_false,Bool.false_eq_true,reduceIte,ite_true,ite_false])
 all_goals (intro h)
 all_goals (repeat (refine ⟨h.1,?_⟩;replace h:=h.2))
 all_goals (first|exact hk _ _ h|exact h.elim)
theorem faddrC_mono (off:Nat) (x:AV) {σ:List zh} {K K':KT} (hk:∀ a s,K a s->K' a s) (h:ze off x σ K):ze off x σ K':=by
 unfold ze at *
 repeat' split at h
 all_goals (first|exact h.elim|skip)
 all_goals (revert h;try simp only [*,if_true,if_false,Bool.false_eq_true,reduceIte,ite_true,ite_false])
 all_goals (intro h)
 all_goals (repeat (refine ⟨h.1,?_⟩;replace h:=h.2))
 all_goals (first|exact hk _ _ h|exact h.elim)
theorem fieldC_mono (agg:Bool) (off n:Nat) (x:AV) {σ:List zh} {K K':KT} (hk:∀ a s,K a s->K' a s) (h:zae agg off n x σ K):zae agg off n x σ K':=by
 unfold zae at *
 repeat' split at h
 all_goals (first|exact h.elim|skip)
 all_goals (revert h;try simp only [*,if_true,if_false,Bool.false_eq_true,reduceIte,ite_true,ite_false])
 all_goals (intro h)
 all_goals (repeat (refine ⟨h.1,?_⟩;replace h:=h.2))
 all_goals (first|exact hk _ _ h|exact h.elim)
theorem iaddrC_mono (arr:Option Nat) (sz:Nat) (x i:AV) {σ:List zh} {K K':KT} (hk:∀ a s,K a s->K' a s) (h:zC arr sz x i σ K):zC arr sz x i σ K':=by
 unfold zC at *
 repeat' split at h
 all_goals (first|exact h.elim|skip)
 all_goals (revert h;try simp only [*,if_true,if_false,Bool.false_eq_true,reduceIte,ite_true,ite_false])
 all_goals (intro h)
 all_goals (repeat (refine ⟨h.1,?_⟩;replace h:=h.2))
 all_goals (first|exact hk _ _ h|exact h.elim)
theorem idxSC_mono (x i:AV) {σ:List zh} {K K':KT} (hk:∀ a s,K a s->K' a s) (h:zaM x i σ K):zaM x i σ K':=by
 unfold zaM at *
 repeat' split at h
 all_goals (first|exact h.elim|skip)
 all_goals (revert h;try simp only [*,if_true,if_false,Bool.false_eq_true,reduceIte,ite_true,ite_false])
 all_goals (intro h)
 all_goals (repeat (refine ⟨h.1,?_⟩;replace h:=h.2))
 all_goals (first|exact hk _ _ h|exact h.elim)
theorem idxAC_mono (agg:Bool) (n sz:Nat) (x i:AV) {σ:List zh} {K K':KT} (hk:∀ a s,K a s->K' a s) (h:zaT agg n sz x i σ K):zaT agg n sz x i σ K':=by
 unfold zaT at *
 repeat' split at h
 all_goals (first|exact h.elim|skip)
 all_goals (revert h;try simp only [*,if_true,if_false,Bool.false_eq_true,reduceIte,ite_true,ite_false])
 all_goals (intro h)
 all_goals (repeat (refine ⟨h.1,?_⟩;replace h:=h.2))
 all_goals (first|exact hk _ _ h|exact h.elim)
theorem zyE (x:AV) (k:Nat) {σ:List zh} {K K':KT} (hk:∀ a s,K a s->K' a s) (h:zd x k σ K):zd x k σ K':=by
 unfold zd at *
 repeat' split at h
 all_goals (first|exact h.elim|skip)
 all_goals (revert h;try simp only [*,if_true,if_false,Bool.false_eq_true,reduceIte,ite_true,ite_false])
 all_goals (intro h)
 all_goals (repeat (refine ⟨h.1,?_⟩;replace h:=h.2))
 all_goals (first|exact hk _ _ h|exact h.elim)
theorem lenC_mono (k:LK) (x:AV) {σ:List zh} {K K':KT} (hk:∀ a s,K a s->K' a s) (h:zai k x σ K):zai k x σ K':=by
 unfold zai at *
 repeat' split at h
 all_goals (first|exact h.elim|skip)
 all_goals (revert h;try simp only [*,if_true,if_false,Bool.false_eq_true,reduceIte,ite_true,ite_false])
 all_goals (intro h)
 all_goals (repeat (refine ⟨h.1,?_⟩;replace h:=h.2))
 all_goals (first|exact hk _ _ h|exact h.elim)
theorem appendC_mono (sz bytes:Nat) (x y:AV) {σ:List zh} {K K':KT} (hk:∀ a s,K a s->K' a s) (h:zD sz bytes x y σ K):zD sz bytes x y σ K':=by
 unfold zD at *
 repeat' split at h
 all_goals (first|exact h.elim|skip)
 all_goals (revert h;try simp only [*,if_true,if_false,Bool.false_eq_true,reduceIte,ite_true,ite_false])
 all_goals (intro h)
 all_goals (repeat (refine ⟨h.1,?_⟩;replace h:=h.2))
 all_goals (first|exact hk _ _ h|exact h.elim)
theorem zsi (sz bytes:Nat) (x:AV) (m:Nat) (ys:List AV) {σ:List zh} {K K':KT} (hk:∀ a s,K a s->K' a s) (h:zqI sz bytes x m ys σ K):zqI sz bytes x m ys σ K':=by
 unfold zqI at *
 repeat' split at h
 all_goals (first|exact h.elim|skip)
 all_goals (revert h;try simp only [*,if_true,if_false,Bool.false_eq_true,reduceIte,ite_true,ite_false])
 all_goals (intro h)
 all_goals (repeat (refine ⟨h.1,?_⟩;replace h:=h.2))
 all_goals (first|exact hk _ _ h|exact h.elim)
theorem zzr (sz bytes:Nat) (x y:AV) {σ:List zh} {K K':KT} (hk:∀ a s,K a s->K' a s) (h:zer sz bytes x y σ K):zer sz bytes x y σ K':=by
 unfold zer at *
 split at h
 ·split at h
  ·exact ⟨h.1,h.2.1,h.2.2.1,zsi _ _ _ _ _ hk h.2.2.2⟩
  ·exact h.elim
 ·split at h
  ·exact ⟨h.1,zsi _ _ _ _ _ hk h.2⟩
  ·exact h.elim
theorem capC_mono (x:AV) {σ:List zh} {K K':KT} (hk:∀ a s,K a s->K' a s) (h:capC x σ K):capC x σ K':=by
 unfold capC at *
 split at h
 ·exact hk _ _ h
 ·exact h.elim
theorem appzC_mono (sz bytes:Nat) (z:List AV) (x n:AV) {σ:List zh} {K K':KT} (hk:∀ a s,K a s->K' a s) (h:appzC sz bytes z x n σ K):appzC sz bytes z x n σ K':=by
 unfold appzC at *
 split at h
 ·exact ⟨h.1,zsi _ _ _ _ _ hk h.2⟩
 ·exact h.elim
theorem maxC_mono (xs:List AV) {σ:List zh} {K K':KT} (hk:∀ a s,K a s->K' a s) (h:zcY xs σ K):zcY xs σ K':=by
 unfold zcY at *
 repeat' split at h
 all_goals (first|exact h.elim|skip)
 all_goals (revert h;try simp only [*,if_true,if_false,Bool.false_eq_true,reduceIte,ite_true,ite_false])
 all_goals (intro h)
 all_goals (repeat (refine ⟨h.1,?_⟩;replace h:=h.2))
 all_goals (first|exact hk _ _ h|exact h.elim)
theorem minC_mono (xs:List AV) {σ:List zh} {K K':KT} (hk:∀ a s,K a s->K' a s) (h:zdn xs σ K):zdn xs σ K':=by
 unfold zdn at *
 repeat' split at h
 all_goals (first|exact h.elim|skip)
 all_goals (revert h;try simp only [*,if_true,if_false,Bool.false_eq_true,reduceIte,ite_true,ite_false])
 all_goals (intro h)
 all_goals (repeat (refine ⟨h.1,?_⟩;replace h:=h.2))
 all_goals (first|exact hk _ _ h|exact h.elim)
theorem rangeC_mono (x:AV) {σ:List zh} {K K':KT} (hk:∀ a s,K a s->K' a s) (h:zaj x σ K):zaj x σ K':=by
 unfold zaj at *
 repeat' split at h
 all_goals (first|exact h.elim|skip)
 all_goals (revert h;try simp only [*,if_true,if_false,Bool.false_eq_true,reduceIte,ite_true,ite_false])
 all_goals (intro h)
 all_goals (repeat (refine ⟨h.1,?_⟩;replace h:=h.2))
 all_goals (first|exact hk _ _ h|exact h.elim)
theorem nextC_mono (x:AV) {σ:List zh} {K K':KT} (hk:∀ a s,K a s->K' a s) (h:zqx x σ K):zqx x σ K':=by
 unfold zqx at *
 repeat' split at h
 all_goals (first|exact h.elim|skip)
 all_goals (revert h;try simp only [*,if_true,if_false,Bool.false_eq_true,reduceIte,ite_true,ite_false])
 all_goals (intro h)
 all_goals (repeat (refine ⟨h.1,?_⟩;replace h:=h.2))
 all_goals (first|exact hk _ _ h|exact h.elim)
theorem isnilC_mono (neg:Bool) (x:AV) {σ:List zh} {K K':KT} (hk:∀ a s,K a s->K' a s) (h:zao neg x σ K):zao neg x σ K':=by
 unfold zao at *
 repeat' split at h
 all_goals (first|exact h.elim|exact ⟨hk _ _ h.1,hk _ _ h.2⟩|exact hk _ _ h|exact ⟨fun e=>⟨hk _ _ (h.1 e).1,hk _ _ (h.1 e).2⟩,fun e=>hk _ _ (h.2 e)⟩)
theorem mgetC_mono (kk:KK) (ok:Bool) (z m k:AV) {σ:List zh} {K K':KT} (hk:∀ a s,K a s->K' a s) (h:zaN kk ok z m k σ K):zaN kk ok z m k σ K':=by
 unfold zaN at *
 split at h
 ·refine ⟨h.1,?_⟩
  replace h:=h.2
  split at h<;>first|exact hk _ _ h|exact h.elim
 ·exact h.elim
theorem msetC_mono (kk:KK) (m k x:AV) {σ:List zh} {K K':KT} (hk:∀ a s,K a s->K' a s) (h:zaZ kk m k x σ K):zaZ kk m k x σ K':=by
 unfold zaZ at *
 split at h
 ·split at h
  ·refine ⟨h.1,?_⟩
   replace h:=h.2
   split at h<;>first|exact hk _ _ h|exact h.elim
  ·exact h.elim
 ·exact h.elim
theorem mdelC_mono (kk:KK) (m k:AV) {σ:List zh} {K K':KT} (hk:∀ a s,K a s->K' a s) (h:zbk kk m k σ K):zbk kk m k σ K':=by
 unfold zbk at *
 split at h
 ·split at h
  ·refine ⟨h.1,?_⟩
   replace h:=h.2
   split at h<;>first|exact hk _ _ h|exact h.elim
  ·exact h.elim
 ·exact ⟨h.1,hk _ _ h.2⟩
 ·exact h.elim
theorem zxE {i:I} {fr:zar} {σ:List zh} {K K':KT} (hk:∀ a s,K a s->K' a s) (h:zbb P i fr σ K):zbb P i fr σ K':=by
 cases i<;>simp only [zbb] at h ⊢
 case mv=>exact hk _ _ h
 case pick=>unfold zwk at *;split at h<;>first|exact ⟨fun e=>hk _ _ (h.1 e),fun e=>hk _ _ (h.2 e)⟩|exact h
 case alloc=>exact hk _ _ h
 case boxi=>exact boxC_mono _ hk h
 case build=>exact buildC_mono _ hk h
 case mkslice=>exact zyt _ _ _ _ hk h
 case load=>exact loadC_mono _ _ _ hk h
 case store=>exact storeC_mono _ _ _ hk h
 case nilchk=>exact nilC_mono _ hk h
 case bin=>exact binA_mono (fun a=>hk a σ) h
 case un=>unfold unA at *;split at h<;>first|exact hk _ _ h|exact h
 case conv=>exact convC_mono _ _ hk h
 case slc=>exact slcC_mono _ _ _ _ _ hk h
 case faddr=>exact faddrC_mono _ _ hk h
 case field=>exact fieldC_mono _ _ _ _ hk h
 case iaddr=>exact iaddrC_mono _ _ _ _ hk h
 case idxS=>exact idxSC_mono _ _ hk h
 case idxA=>exact idxAC_mono _ _ _ _ _ hk h
 case extract=>exact zyE _ _ hk h
 case len=>exact lenC_mono _ _ hk h
 case append mu _ _ _ _ _=>
  cases mu
  ·exact appendC_mono _ _ _ _ hk h
  ·exact zzr _ _ _ _ hk h
 case maxi=>exact maxC_mono _ hk h
 case mini=>exact minC_mono _ hk h
 case rangeS=>exact rangeC_mono _ hk h
 case nextS=>exact nextC_mono _ hk h
 case isnil=>exact isnilC_mono _ _ hk h
 case mkmap=>exact hk _ _ h
 case mget=>exact mgetC_mono _ _ _ _ _ hk h
 case mset=>exact msetC_mono _ _ _ _ hk h
 case mdel=>exact mdelC_mono _ _ _ hk h
 case call raw _ _=>cases raw<;>exact zp.mono0 hk h
 case callv=>unfold zap at *;split at h<;>first|exact zp.mono0 hk h|exact h
 case mkfn=>exact hk _ _ h
 case cap=>exact capC_mono _ hk h
 case appz=>exact appzC_mono _ _ _ _ _ hk h
def Opd.slots:Opd->List Nat
 | .tmp t => [t]
 | .lit _ => []
def osl:Option Opd->List Nat
 | some x=>x.slots
 | none => []
def lsl (l:List Opd):List Nat:=l.flatMap Opd.slots
def psl (l:List (Nat × Nat × Opd)):List Nat:=l.flatMap fun p=>p.2.2.slots
def I.reads:I->List Nat
 | .mv x|.boxi x|.load _ _ x|.nilchk x|.un _ x|.conv _ x|.faddr _ x|.field _ _ _ x|.extract x _|.len _ x|.rangeS x|.nextS x|.isnil _ x|.cap x=>x.slots
 | .bad => []
 | .appz _ _ _ x n=>x.slots++n.slots
 | .mkmap => []
 | .mget _ _ _ m k=>m.slots++k.slots
 | .mset _ m k x=>m.slots++k.slots++x.slots
 | .mdel _ m k=>m.slots++k.slots
 | .pick c a b=>c.slots++a.slots++b.slots
 | .alloc _ => []
 | .build _ ps=>psl ps
 | .mkslice _ _ _ _ ps=>psl ps
 | .store _ a x=>a.slots++x.slots
 | .bin _ _ x y=>x.slots++y.slots
 | .slc _ x lo hi mx=>x.slots++osl lo++osl hi++osl mx
 | .iaddr _ _ x i=>x.slots++i.slots
 | .idxS x i=>x.slots++i.slots
 | .idxA _ _ _ x i=>x.slots++i.slots
 | .append _ _ _ _ x y=>x.slots++y.slots
 | .maxi xs=>lsl xs
 | .mini xs=>lsl xs
 | .call _ _ xs=>lsl xs
 | .callv f xs=>f.slots++lsl xs
 | .mkfn _ xs ys=>lsl xs++lsl ys
def Ai.reads (x:Ai):List Nat:=
 match x.g with
 | some (s,_)=>s::x.i.reads
 | none=>x.i.reads
theorem zbK {fr fr':zar} {x:Opd} (h:∀ t∈x.slots,zha fr t=zha fr' t):ev fr x=ev fr' x:=by
 cases x with
 | tmp t=>exact h t (by simp [Opd.slots])
 | lit a=>rfl
theorem oev_ext {fr fr':zar} {x:Option Opd} (h:∀ t∈osl x,zha fr t=zha fr' t):x.map (ev fr)=x.map (ev fr'):=by
 cases x with
 | none=>rfl
 | some x=>simp only [Option.map_some];rw [zbK h]
theorem zpG {fr fr':zar} {l:List Opd} (h:∀ t∈lsl l,zha fr t=zha fr' t):l.map (ev fr)=l.map (ev fr'):=
 List.map_congr_left fun x hx=>zbK fun t ht=>h t (List.mem_flatMap.2 ⟨x,hx,ht⟩)
theorem zuO {fr fr':zar}:∀ {l:List (Nat × Nat × Opd)} {cs:List AV},(∀ t∈psl l,zha fr t=zha fr' t)->ztt fr cs l=ztt fr' cs l
 | [],_,_=>rfl
 | (off,s,x)::l,cs,h=>by
  have e:ev fr x=ev fr' x:=zbK fun t ht=>h t (by simp [psl,ht])
  simp only [ztt]
  rw [e]
  split
  ·split
   ·exact zuO fun t ht=>h t (by simp only [psl,List.flatMap_cons,List.mem_append] at ht ⊢;exact .inr ht)
   ·rfl
  ·rfl
theorem zri {i:I} {fr fr':zar} {σ:List zh} {K:KT} (h:∀ t∈i.reads,zha fr t=zha fr' t):zbb P i fr σ K=zbb P i fr' σ K:=by
 cases i<;>simp only [zbb,I.reads,List.mem_append] at h ⊢
 case mv x=>rw [zbK h]
 case boxi x=>rw [zbK h]
 case load x=>rw [zbK h]
 case nilchk x=>rw [zbK h]
 case un x=>rw [zbK h]
 case conv x=>rw [zbK h]
 case faddr x=>rw [zbK h]
 case field x=>rw [zbK h]
 case extract x=>rw [zbK h]
 case len x=>rw [zbK h]
 case rangeS x=>rw [zbK h]
 case nextS x=>rw [zbK h]
 case isnil x=>rw [zbK h]
 case cap x=>rw [zbK h]
 case appz x n=>rw [zbK (x:=x) fun t ht=>h t (.inl ht),zbK (x:=n) fun t ht=>h t (.inr ht)]
 case mget m k=>rw [zbK (x:=m) fun t ht=>h t (.inl ht),zbK (x:=k) fun t ht=>h t (.inr ht)]
 case mset m k x=>rw [zbK (x:=m) fun t ht=>h t (.inl (.inl ht)),zbK (x:=k) fun t ht=>h t (.inl (.inr ht)),zbK (x:=x) fun t ht=>h t (.inr ht)]
 case mdel m k=>rw [zbK (x:=m) fun t ht=>h t (.inl ht),zbK (x:=k) fun t ht=>h t (.inr ht)]
 case pick c a b=>rw [zbK (x:=c) fun t ht=>h t (.inl (.inl ht)),zbK (x:=a) fun t ht=>h t (.inl (.inr ht)),zbK (x:=b) fun t ht=>h t (.inr ht)]
 case build=>rw [zuO h]
 case mkslice=>rw [zuO h]
 case store a x=>rw [zbK (x:=a) fun t ht=>h t (.inl ht),zbK (x:=x) fun t ht=>h t (.inr ht)]
 case bin x y=>rw [zbK (x:=x) fun t ht=>h t (.inl ht),zbK (x:=y) fun t ht=>h t (.inr ht)]
 case slc x lo hi mx=>rw [zbK (x:=x) fun t ht=>h t (.inl (.inl (.inl ht))),oev_ext (x:=lo) fun t ht=>h t (.inl (.inl (.inr ht))),oev_ext (x:=hi) fun t ht=>h t (.inl (.inr ht)),oev_ext (x:=mx) fun t ht=>h t (.inr ht)]
 case iaddr x y=>rw [zbK (x:=x) fun t ht=>h t (.inl ht),zbK (x:=y) fun t ht=>h t (.inr ht)]
 case idxS x y=>rw [zbK (x:=x) fun t ht=>h t (.inl ht),zbK (x:=y) fun t ht=>h t (.inr ht)]
 case idxA x y=>rw [zbK (x:=x) fun t ht=>h t (.inl ht),zbK (x:=y) fun t ht=>h t (.inr ht)]
 case append x y=>rw [zbK (x:=x) fun t ht=>h t (.inl ht),zbK (x:=y) fun t ht=>h t (.inr ht)]
 case maxi=>rw [zpG h]
 case mini=>rw [zpG h]
 case call raw f xs=>
  have:xs.map (fun x=>dm (ev fr x))=xs.map (fun x=>dm (ev fr' x)):=by
   have:=congrArg (List.map dm) (zpG h)
   simpa [List.map_map,Function.comp_def] using this
  rw [this,zpG h]
 case callv f xs=>
  have:xs.map (fun x=>dm (ev fr x))=xs.map (fun x=>dm (ev fr' x)):=by
   have:=congrArg (List.map dm) (zpG (l:=xs) fun t ht=>h t (.inr ht))
   simpa [List.map_map,Function.comp_def] using this
  rw [this,zbK (x:=f) fun t ht=>h t (.inl ht)]
 case mkfn f xs ys=>rw [zpG (l:=xs) fun t ht=>h t (.inl ht),zpG (l:=ys) fun t ht=>h t (.inr ht)]
def I.quiet:I->Bool
 | .mv _|.pick .. | .build .. | .mkslice false .. | .load .. | .nilchk _|.bin .. | .un .. | .conv .. | .slc .. | .faddr .. | .field .. | .iaddr .. | .idxS .. | .idxA .. | .extract .. | .maxi _|.mini _|.mget ..=>true
 | .len k _=>match k with|.map=>false|_=>true
 | _=>false
def I.at?:I->Option Opd
 | .load _ _ x=>some x
 | .mget _ _ _ m _=>some m
 | _=>none
def zH (a:AV) (σ σ':List zh):Prop:=
 match a with
 | .box id _ => σ'[id]? = σ[id]?
 | .map id => σ'[id]? = σ[id]?
 | .rpt t _ _ => σ'[t]? = σ[t]?
 | _=>True
theorem binA_quiet {op:BinOp} {e:EK} {x y:AV} {K:AV->Prop} (h:zdr op e x y K):∃ v,K v/\∀ K':AV->Prop,K' v->zdr op e x y K':=by
 unfold zdr at *
 repeat' split at h
 all_goals (first|exact h.elim|exact h.2.elim|exact ⟨_,h,fun _ h'=>h'⟩|exact ⟨_,h.2,fun _ h'=>⟨h.1,h'⟩⟩|exact ⟨_,h.2.2,fun _ h'=>⟨h.1,h.2.1,h'⟩⟩|skip)
 all_goals (simp only [*] at h ⊢)
 all_goals (first|exact ⟨_,h,fun _ h'=>h'⟩|exact ⟨_,h.2,fun _ h'=>⟨h.1,h'⟩⟩|skip)
theorem buildC_quiet (o:Option (List AV)) {σ:List zh} {K:KT} (h:zA o σ K):∃ v,K v σ/\∀ (σ':List zh) (K':KT),K' v σ' → zA o σ' K':=by
 unfold zA at *
 repeat' split at h
 all_goals (first|exact h.elim|skip)
 all_goals (revert h;try simp only [*,if_true,if_false,Bool.false_eq_true,reduceIte,ite_true,ite_false])
 all_goals (intro h)
 all_goals (first|exact h.2.elim|exact h.2.2.elim|exact ⟨_,h,fun _ _ h'=>h'⟩|exact ⟨_,h.2,fun _ _ h'=>⟨h.1,h'⟩⟩|exact ⟨_,h.2.2,fun _ _ h'=>⟨h.1,h.2.1,h'⟩⟩|exact ⟨_,h.2.2.2,fun _ _ h'=>⟨h.1,h.2.1,h.2.2.1,h'⟩⟩|exact ⟨_,h.2.2.2.2,fun _ _ h'=>⟨h.1,h.2.1,h.2.2.1,h.2.2.2.1,h'⟩⟩|exact ⟨_,h.2.2.2.2.2,fun _ _ h'=>⟨h.1,h.2.1,h.2.2.1,h.2.2.2.1,h.2.2.2.2.1,h'⟩⟩|exact ⟨_,h.2.2.2.2.2.2,fun _ _ h'=>⟨h.1,h.2.1,h.2.2.1,h.2.2.2.1,h.2.2.2.2.1,h.2.2.2.2.2.1,h'⟩⟩)
theorem nilC_quiet (x:AV) {σ:List zh} {K:KT} (h:zbg x σ K):∃ v,K v σ/\∀ (σ':List zh) (K':KT),K' v σ' → zbg x σ' K':=by
 unfold zbg at *
 repeat' split at h
 all_goals (first|exact h.elim|skip)
 all_goals (revert h;try simp only [*,if_true,if_false,Bool.false_eq_true,reduceIte,ite_true,ite_false])
 all_goals (intro h)
 all_goals (first|exact h.2.elim|exact h.2.2.elim|exact ⟨_,h,fun _ _ h'=>h'⟩|exact ⟨_,h.2,fun _ _ h'=>⟨h.1,h'⟩⟩|exact ⟨_,h.2.2,fun _ _ h'=>⟨h.1,h.2.1,h'⟩⟩|exact ⟨_,h.2.2.2,fun _ _ h'=>⟨h.1,h.2.1,h.2.2.1,h'⟩⟩|exact ⟨_,h.2.2.2.2,fun _ _ h'=>⟨h.1,h.2.1,h.2.2.1,h.2.2.2.1,h'⟩⟩|exact ⟨_,h.2.2.2.2.2,fun _ _ h'=>⟨h.1,h.2.1,h.2.2.1,h.2.2.2.1,h.2.2.2.2.1,h'⟩⟩|exact ⟨_,h.2.2.2.2.2.2,fun _ _ h'=>⟨h.1,h.2.1,h.2.2.1,h.2.2.2.1,h.2.2.2.2.1,h.2.2.2.2.2.1,h'⟩⟩)
theorem convC_quiet (c:CK) (x:AV) {σ:List zh} {K:KT} (h:zaf c x σ K):∃ v,K v σ/\∀ (σ':List zh) (K':KT),K' v σ' → zaf c x σ' K':=by
 unfold zaf at *
 repeat' split at h
 all_goals (first|exact h.elim|skip)
 all_goals (revert h;try simp only [*,if_true,if_false,Bool.false_eq_true,reduceIte,ite_true,ite_false])
 all_goals (intro h)
 all_goals (first|exact h.2.elim|exact h.2.2.elim|exact ⟨_,h,fun _ _ h'=>h'⟩|exact ⟨_,h.2,fun _ _ h'=>⟨h.1,h'⟩⟩|exact ⟨_,h.2.2,fun _ _ h'=>⟨h.1,h.2.1,h'⟩⟩|exact ⟨_,h.2.2.2,fun _ _ h'=>⟨h.1,h.2.1,h.2.2.1,h'⟩⟩|exact ⟨_,h.2.2.2.2,fun _ _ h'=>⟨h.1,h.2.1,h.2.2.1,h.2.2.2.1,h'⟩⟩|exact ⟨_,h.2.2.2.2.2,fun _ _ h'=>⟨h.1,h.2.1,h.2.2.1,h.2.2.2.1,h.2.2.2.2.1,h'⟩⟩|exact ⟨_,h.2.2.2.2.2.2,fun _ _ h'=>⟨h.1,h.2.1,h.2.2.1,h.2.2.2.1,h.2.2.2.2.1,h.2.2.2.2.2.1,h'⟩⟩)
theorem slcC_quiet (k:SK) (x:AV) (lo hi mx:Option AV) {σ:List zh} {K:KT} (h:zcv k x lo hi mx σ K):∃ v,K v σ/\∀ (σ':List zh) (K':KT),K' v σ' → zcv k x lo hi mx σ' K':=by
 unfold zcv at *
 repeat' split at h
 all_goals (first|exact h.elim|skip)
 all_goals (revert h;try simp only [*,if_true,if_false,Bool.false_eq_true,reduceIte,ite_true,ite_false])
 all_goals (intro h)
 all_goals (first|exact h.2.elim|exact h.2.2.elim|exact ⟨_,h,fun _ _ h'=>h'⟩|exact ⟨_,h.2,fun _ _ h'=>⟨h.1,h'⟩⟩|exact ⟨_,h.2.2,fun _ _ h'=>⟨h.1,h.2.1,h'⟩⟩|exact ⟨_,h.2.2.2,fun _ _ h'=>⟨h.1,h.2.1,h.2.2.1,h'⟩⟩|exact ⟨_,h.2.2.2.2,fun _ _ h'=>⟨h.1,h.2.1,h.2.2.1,h.2.2.2.1,h'⟩⟩|exact ⟨_,h.2.2.2.2.2,fun _ _ h'=>⟨h.1,h.2.1,h.2.2.1,h.2.2.2.1,h.2.2.2.2.1,h'⟩⟩|exact ⟨_,h.2.2.2.2.2.2,fun _ _ h'=>⟨h.1,h.2.1,h.2.2.1,h.2.2.2.1,h.2.2.2.2.1,h.2.2.2.2.2.1,h'⟩⟩)
theorem faddrC_quiet (off:Nat) (x:AV) {σ:List zh} {K:KT} (h:ze off x σ K):∃ v,K v σ/\∀ (σ':List zh) (K':KT),K' v σ' → ze off x σ' K':=by
 unfold ze at *
 repeat' split at h
 all_goals (first|exact h.elim|skip)
 all_goals (revert h;try simp only [*,if_true,if_false,Bool.false_eq_true,reduceIte,ite_true,ite_false])
 all_goals (intro h)
 all_goals (first|exact h.2.elim|exact h.2.2.elim|exact ⟨_,h,fun _ _ h'=>h'⟩|exact ⟨_,h.2,fun _ _ h'=>⟨h.1,h'⟩⟩|exact ⟨_,h.2.2,fun _ _ h'=>⟨h.1,h.2.1,h'⟩⟩|exact ⟨_,h.2.2.2,fun _ _ h'=>⟨h.1,h.2.1,h.2.2.1,h'⟩⟩|exact ⟨_,h.2.2.2.2,fun _ _ h'=>⟨h.1,h.2.1,h.2.2.1,h.2.2.2.1,h'⟩⟩|exact ⟨_,h.2.2.2.2.2,fun _ _ h'=>⟨h.1,h.2.1,h.2.2.1,h.2.2.2.1,h.2.2.2.2.1,h'⟩⟩|exact ⟨_,h.2.2.2.2.2.2,fun _ _ h'=>⟨h.1,h.2.1,h.2.2.1,h.2.2.2.1,h.2.2.2.2.1,h.2.2.2.2.2.1,h'⟩⟩)
theorem fieldC_quiet (agg:Bool) (off n:Nat) (x:AV) {σ:List zh} {K:KT} (h:zae agg off n x σ K):∃ v,K v σ/\∀ (σ':List zh) (K':KT),K' v σ' → zae agg off n x σ' K':=by
 unfold zae at *
 repeat' split at h
 all_goals (first|exact h.elim|skip)
 all_goals (revert h;try simp only [*,if_true,if_false,Bool.false_eq_true,reduceIte,ite_true,ite_false])
 all_goals (intro h)
 all_goals (first|exact h.2.elim|exact h.2.2.elim|exact ⟨_,h,fun _ _ h'=>h'⟩|exact ⟨_,h.2,fun _ _ h'=>⟨h.1,h'⟩⟩|exact ⟨_,h.2.2,fun _ _ h'=>⟨h.1,h.2.1,h'⟩⟩|exact ⟨_,h.2.2.2,fun _ _ h'=>⟨h.1,h.2.1,h.2.2.1,h'⟩⟩|exact ⟨_,h.2.2.2.2,fun _ _ h'=>⟨h.1,h.2.1,h.2.2.1,h.2.2.2.1,h'⟩⟩|exact ⟨_,h.2.2.2.2.2,fun _ _ h'=>⟨h.1,h.2.1,h.2.2.1,h.2.2.2.1,h.2.2.2.2.1,h'⟩⟩|exact ⟨_,h.2.2.2.2.2.2,fun _ _ h'=>⟨h.1,h.2.1,h.2.2.1,h.2.2.2.1,h.2.2.2.2.1,h.2.2.2.2.2.1,h'⟩⟩)
theorem iaddrC_quiet (arr:Option Nat) (sz:Nat) (x i:AV) {σ:List zh} {K:KT} (h:zC arr sz x i σ K):∃ v,K v σ/\∀ (σ':List zh) (K':KT),K' v σ' → zC arr sz x i σ' K':=by
 unfold zC at *
 repeat' split at h
 all_goals (first|exact h.elim|skip)
 all_goals (revert h;try simp only [*,if_true,if_false,Bool.false_eq_true,reduceIte,ite_true,ite_false])
 all_goals (intro h)
 all_goals (first|exact h.2.elim|exact h.2.2.elim|exact ⟨_,h,fun _ _ h'=>h'⟩|exact ⟨_,h.2,fun _ _ h'=>⟨h.1,h'⟩⟩|exact ⟨_,h.2.2,fun _ _ h'=>⟨h.1,h.2.1,h'⟩⟩|exact ⟨_,h.2.2.2,fun _ _ h'=>⟨h.1,h.2.1,h.2.2.1,h'⟩⟩|exact ⟨_,h.2.2.2.2,fun _ _ h'=>⟨h.1,h.2.1,h.2.2.1,h.2.2.2.1,h'⟩⟩|exact ⟨_,h.2.2.2.2.2,fun _ _ h'=>⟨h.1,h.2.1,h.2.2.1,h.2.2.2.1,h.2.2.2.2.1,h'⟩⟩|exact ⟨_,h.2.2.2.2.2.2,fun _ _ h'=>⟨h.1,h.2.1,h.2.2.1,h.2.2.2.1,h.2.2.2.2.1,h.2.2.2.2.2.1,h'⟩⟩)
theorem idxSC_quiet (x i:AV) {σ:List zh} {K:KT} (h:zaM x i σ K):∃ v,K v σ/\∀ (σ':List zh) (K':KT),K' v σ' → zaM x i σ' K':=by
 unfold zaM at *
 repeat' split at h
 all_goals (first|exact h.elim|skip)
 all_goals (revert h;try simp only [*,if_true,if_false,Bool.false_eq_true,reduceIte,ite_true,ite_false])
 all_goals (intro h)
 all_goals (first|exact h.2.elim|exact h.2.2.elim|exact ⟨_,h,fun _ _ h'=>h'⟩|exact ⟨_,h.2,fun _ _ h'=>⟨h.1,h'⟩⟩|exact ⟨_,h.2.2,fun _ _ h'=>⟨h.1,h.2.1,h'⟩⟩|exact ⟨_,h.2.2.2,fun _ _ h'=>⟨h.1,h.2.1,h.2.2.1,h'⟩⟩|exact ⟨_,h.2.2.2.2,fun _ _ h'=>⟨h.1,h.2.1,h.2.2.1,h.2.2.2.1,h'⟩⟩|exact ⟨_,h.2.2.2.2.2,fun _ _ h'=>⟨h.1,h.2.1,h.2.2.1,h.2.2.2.1,h.2.2.2.2.1,h'⟩⟩|exact ⟨_,h.2.2.2.2.2.2,fun _ _ h'=>⟨h.1,h.2.1,h.2.2.1,h.2.2.2.1,h.2.2.2.2.1,h.2.2.2.2.2.1,h'⟩⟩)
theorem idxAC_quiet (agg:Bool) (n sz:Nat) (x i:AV) {σ:List zh} {K:KT} (h:zaT agg n sz x i σ K):∃ v,K v σ/\∀ (σ':List zh) (K':KT),K' v σ' → zaT agg n sz x i σ' K':=by
 unfold zaT at *
 repeat' split at h
 all_goals (first|exact h.elim|skip)
 all_goals (revert h;try simp only [*,if_true,if_false,Bool.false_eq_true,reduceIte,ite_true,ite_false])
 all_goals (intro h)
 all_goals (first|exact h.2.elim|exact h.2.2.elim|exact ⟨_,h,fun _ _ h'=>h'⟩|exact ⟨_,h.2,fun _ _ h'=>⟨h.1,h'⟩⟩|exact ⟨_,h.2.2,fun _ _ h'=>⟨h.1,h.2.1,h'⟩⟩|exact ⟨_,h.2.2.2,fun _ _ h'=>⟨h.1,h.2.1,h.2.2.1,h'⟩⟩|exact ⟨_,h.2.2.2.2,fun _ _ h'=>⟨h.1,h.2.1,h.2.2.1,h.2.2.2.1,h'⟩⟩|exact ⟨_,h.2.2.2.2.2,fun _ _ h'=>⟨h.1,h.2.1,h.2.2.1,h.2.2.2.1,h.2.2.2.2.1,h'⟩⟩|exact ⟨_,h.2.2.2.2.2.2,fun _ _ h'=>⟨h.1,h.2.1,h.2.2.1,h.2.2.2.1,h.2.2.2.2.1,h.2.2.2.2.2.1,h'⟩⟩)
theorem zwq (x:AV) (k:Nat) {σ:List zh} {K:KT} (h:zd x k σ K):∃ v,K v σ/\∀ (σ':List zh) (K':KT),K' v σ' → zd x k σ' K':=by
 unfold zd at *
 repeat' split at h
 all_goals (first|exact h.elim|skip)
 all_goals (revert h;try simp only [*,if_true,if_false,Bool.false_eq_true,reduceIte,ite_true,ite_false])
 all_goals (intro h)
 all_goals (first|exact h.2.elim|exact h.2.2.elim|exact ⟨_,h,fun _ _ h'=>h'⟩|exact ⟨_,h.2,fun _ _ h'=>⟨h.1,h'⟩⟩|exact ⟨_,h.2.2,fun _ _ h'=>⟨h.1,h.2.1,h'⟩⟩|exact ⟨_,h.2.2.2,fun _ _ h'=>⟨h.1,h.2.1,h.2.2.1,h'⟩⟩|exact ⟨_,h.2.2.2.2,fun _ _ h'=>⟨h.1,h.2.1,h.2.2.1,h.2.2.2.1,h'⟩⟩|exact ⟨_,h.2.2.2.2.2,fun _ _ h'=>⟨h.1,h.2.1,h.2.2.1,h.2.2.2.1,h.2.2.2.2.1,h'⟩⟩|exact ⟨_,h.2.2.2.2.2.2,fun _ _ h'=>⟨h.1,h.2.1,h.2.2.1,h.2.2.2.1,h.2.2.2.2.1,h.2.2.2.2.2.1,h'⟩⟩)
theorem maxC_quiet (xs:List AV) {σ:List zh} {K:KT} (h:zcY xs σ K):∃ v,K v σ/\∀ (σ':List zh) (K':KT),K' v σ' → zcY xs σ' K':=by
 unfold zcY at *
 repeat' split at h
 all_goals (first|exact h.elim|skip)
 all_goals (revert h;try simp only [*,if_true,if_false,Bool.false_eq_true,reduceIte,ite_true,ite_false])
 all_goals (intro h)
 all_goals (first|exact h.2.elim|exact h.2.2.elim|exact ⟨_,h,fun _ _ h'=>h'⟩|exact ⟨_,h.2,fun _ _ h'=>⟨h.1,h'⟩⟩|exact ⟨_,h.2.2,fun _ _ h'=>⟨h.1,h.2.1,h'⟩⟩|exact ⟨_,h.2.2.2,fun _ _ h'=>⟨h.1,h.2.1,h.2.2.1,h'⟩⟩|exact ⟨_,h.2.2.2.2,fun _ _ h'=>⟨h.1,h.2.1,h.2.2.1,h.2.2.2.1,h'⟩⟩|exact ⟨_,h.2.2.2.2.2,fun _ _ h'=>⟨h.1,h.2.1,h.2.2.1,h.2.2.2.1,h.2.2.2.2.1,h'⟩⟩|exact ⟨_,h.2.2.2.2.2.2,fun _ _ h'=>⟨h.1,h.2.1,h.2.2.1,h.2.2.2.1,h.2.2.2.2.1,h.2.2.2.2.2.1,h'⟩⟩)
theorem minC_quiet (xs:List AV) {σ:List zh} {K:KT} (h:zdn xs σ K):∃ v,K v σ/\∀ (σ':List zh) (K':KT),K' v σ' → zdn xs σ' K':=by
 unfold zdn at *
 repeat' split at h
 all_goals (first|exact h.elim|skip)
 all_goals (revert h;try simp only [*,if_true,if_false,Bool.false_eq_true,reduceIte,ite_true,ite_false])
 all_goals (intro h)
 all_goals (first|exact h.2.elim|exact h.2.2.elim|exact ⟨_,h,fun _ _ h'=>h'⟩|exact ⟨_,h.2,fun _ _ h'=>⟨h.1,h'⟩⟩|exact ⟨_,h.2.2,fun _ _ h'=>⟨h.1,h.2.1,h'⟩⟩|exact ⟨_,h.2.2.2,fun _ _ h'=>⟨h.1,h.2.1,h.2.2.1,h'⟩⟩|exact ⟨_,h.2.2.2.2,fun _ _ h'=>⟨h.1,h.2.1,h.2.2.1,h.2.2.2.1,h'⟩⟩|exact ⟨_,h.2.2.2.2.2,fun _ _ h'=>⟨h.1,h.2.1,h.2.2.1,h.2.2.2.1,h.2.2.2.2.1,h'⟩⟩|exact ⟨_,h.2.2.2.2.2.2,fun _ _ h'=>⟨h.1,h.2.1,h.2.2.1,h.2.2.2.1,h.2.2.2.2.1,h.2.2.2.2.2.1,h'⟩⟩)
theorem loadC_quiet (agg:Bool) (n:Nat) (x:AV) {σ:List zh} {K:KT} (h:zl agg n x σ K):∃ v,K v σ/\∀ (σ':List zh) (K':KT),zH x σ σ' → K' v σ' → zl agg n x σ' K':=by
 unfold zl at h
 split at h
 ·rename_i id off
  split at h
  ·rename_i cs hcs
   split at h
   ·rename_i hg
    exact ⟨_,h.2,fun σ' K' hk h'=>by
     have hk' : σ'[id]? = σ[id]?:=hk
     simp only [zl];rw [hk',hcs];simp only [hg,if_true];exact ⟨h.1,h'⟩⟩
   ·rename_i hg
    split at h
    ·rename_i hv
     exact ⟨_,h,fun σ' K' hk h'=>by
      have hk' : σ'[id]? = σ[id]?:=hk
      simp only [zl];rw [hk',hcs];simp only [if_neg hg];rw [hv];exact h'⟩
    ·exact h.elim
  ·exact h.elim
 ·split at h
  ·rename_i hg
   exact ⟨_,h.2,fun σ' K' hk h'=>by simp only [zl,if_pos hg];exact ⟨h.1,h'⟩⟩
  ·rename_i hg
   split at h
   ·rename_i hv
    exact ⟨_,h,fun σ' K' hk h'=>by simp only [zl,if_neg hg];rw [hv];exact h'⟩
   ·exact h.elim
 ·rename_i t g off
  split at h
  ·rename_i cs hcs
   obtain ⟨hg',h⟩:=h
   split at h
   ·rename_i hg
    exact ⟨_,h.2,fun σ' K' hk h'=>by
     have hk' : σ'[t]? = σ[t]?:=hk
     simp only [zl];rw [hk',hcs];simp only [hg,if_true];exact ⟨hg',h.1,h'⟩⟩
   ·rename_i hg
    split at h
    ·rename_i hv
     exact ⟨_,h,fun σ' K' hk h'=>by
      have hk' : σ'[t]? = σ[t]?:=hk
      simp only [zl];rw [hk',hcs];simp only [if_neg hg];rw [hv];exact ⟨hg',h'⟩⟩
    ·exact h.elim
  ·exact h.elim
 ·exact h.elim
theorem mgetC_quiet (kk:KK) (ok:Bool) (z m k:AV) {σ:List zh} {K:KT} (h:zaN kk ok z m k σ K):∃ v,K v σ/\∀ (σ':List zh) (K':KT),zH m σ σ' → K' v σ' → zaN kk ok z m k σ' K':=by
 unfold zaN at h
 split at h
 ·rename_i es hes
  have key:∀ σ',zH m σ σ' → zeA m σ' = some es:=fun σ' hk=>by
   cases m with
   | d x=>cases x<;>simp only [zeA] at hes ⊢ <;> exact hes
   | map id=>simp only [zeA,zH] at hes hk ⊢;rw [hk];exact hes
   | _=>simp only [zeA] at hes;cases hes
  obtain ⟨h1,h⟩:=h
  split at h
  ·rename_i hf
   exact ⟨_,h,fun σ' K' hk h'=>by simp only [zaN,key σ' hk,hf];exact ⟨h1,h'⟩⟩
  ·rename_i hf
   exact ⟨_,h,fun σ' K' hk h'=>by simp only [zaN,key σ' hk,hf];exact ⟨h1,h'⟩⟩
  ·exact h.elim
 ·exact h.elim
theorem lenC_quiet (k:LK) (x:AV) (hq:(match k with|.map=>false|_=>true)=true) {σ:List zh} {K:KT} (h:zai k x σ K):∃ v,K v σ/\∀ (σ':List zh) (K':KT),K' v σ' → zai k x σ' K':=by
 cases k with
 | map=>cases hq
 | _=>
  simp only [zai] at h ⊢
  repeat' split at h
  all_goals (first|exact h.elim|skip)
  all_goals (revert h;try simp only [*])
  all_goals (intro h)
  all_goals (exact ⟨_,h,fun _ _ h'=>h'⟩)
theorem zwm (s n:Nat) (o:Option (List AV)) {σ:List zh} {K:KT} (h:zr false s n o σ K):∃ v,K v σ/\∀ (σ':List zh) (K':KT),K' v σ' → zr false s n o σ' K':=by
 simp only [zr,Bool.false_eq_true,if_false] at *
 repeat' split at h
 all_goals (first|exact h.elim|skip)
 all_goals (revert h;try simp only [*])
 all_goals (intro h)
 all_goals (exact ⟨_,h,fun _ _ h'=>h'⟩)
theorem pickC_quiet (c a b:AV) {σ:List zh} {K:KT} (h:zwk c a b σ K):∃ v,K v σ/\∀ (σ':List zh) (K':KT),K' v σ' → zwk c a b σ' K':=by
 unfold zwk at *
 split at h
 ·rename_i t
  cases t
  ·exact ⟨_,h.2 rfl,fun _ _ h'=>⟨fun e=>Bool.noConfusion e,fun _=>h'⟩⟩
  ·exact ⟨_,h.1 rfl,fun _ _ h'=>⟨fun _=>h',fun e=>Bool.noConfusion e⟩⟩
 ·exact h.elim
theorem unA_quiet (op:UnOp) (x:AV) {K:AV->Prop} (h:unA op x K):∃ v,K v/\∀ K':AV->Prop,K' v->unA op x K':=by
 unfold unA at *
 split at h
 ·exact ⟨_,h,fun _ h'=>h'⟩
 ·exact ⟨_,h,fun _ h'=>h'⟩
 ·exact h.elim
theorem zvC {i:I} (hq:i.quiet=true) {fr:zar} {σ:List zh} {K:KT} (h:zbb P i fr σ K) :
  ∃ v,K v σ/\∀ (σ':List zh) (K':KT),(∀ o,i.at? = some o->zH (ev fr o) σ σ')->K' v σ' → zbb P i fr σ' K':=by
 cases i<;>simp only [I.quiet,Bool.false_eq_true] at hq<;>simp only [zbb] at h ⊢
 case mv=>exact ⟨_,h,fun _ _ _ h'=>h'⟩
 case pick=>obtain ⟨v,hv,hk⟩:=pickC_quiet _ _ _ h;exact ⟨v,hv,fun σ' K' _ h'=>hk σ' K' h'⟩
 case build=>obtain ⟨v,hv,hk⟩:=buildC_quiet _ h;exact ⟨v,hv,fun σ' K' _ h'=>hk σ' K' h'⟩
 case mkslice mu _ _ _ _=>
  cases mu
  ·obtain ⟨v,hv,hk⟩:=zwm _ _ _ h;exact ⟨v,hv,fun σ' K' _ h'=>hk σ' K' h'⟩
  ·simp [I.quiet] at hq
 case load=>obtain ⟨v,hv,hk⟩:=loadC_quiet _ _ _ h;exact ⟨v,hv,fun σ' K' ho h'=>hk σ' K' (ho _ rfl) h'⟩
 case nilchk=>obtain ⟨v,hv,hk⟩:=nilC_quiet _ h;exact ⟨v,hv,fun σ' K' _ h'=>hk σ' K' h'⟩
 case bin=>obtain ⟨v,hv,hk⟩:=binA_quiet h;exact ⟨v,hv,fun σ' K' _ h'=>hk (fun a=>K' a σ') h'⟩
 case un=>obtain ⟨v,hv,hk⟩:=unA_quiet _ _ h;exact ⟨v,hv,fun σ' K' _ h'=>hk (fun a=>K' a σ') h'⟩
 case conv=>obtain ⟨v,hv,hk⟩:=convC_quiet _ _ h;exact ⟨v,hv,fun σ' K' _ h'=>hk σ' K' h'⟩
 case slc=>obtain ⟨v,hv,hk⟩:=slcC_quiet _ _ _ _ _ h;exact ⟨v,hv,fun σ' K' _ h'=>hk σ' K' h'⟩
 case faddr=>obtain ⟨v,hv,hk⟩:=faddrC_quiet _ _ h;exact ⟨v,hv,fun σ' K' _ h'=>hk σ' K' h'⟩
 case field=>obtain ⟨v,hv,hk⟩:=fieldC_quiet _ _ _ _ h;exact ⟨v,hv,fun σ' K' _ h'=>hk σ' K' h'⟩
 case iaddr=>obtain ⟨v,hv,hk⟩:=iaddrC_quiet _ _ _ _ h;exact ⟨v,hv,fun σ' K' _ h'=>hk σ' K' h'⟩
 case idxS=>obtain ⟨v,hv,hk⟩:=idxSC_quiet _ _ h;exact ⟨v,hv,fun σ' K' _ h'=>hk σ' K' h'⟩
 case idxA=>obtain ⟨v,hv,hk⟩:=idxAC_quiet _ _ _ _ _ h;exact ⟨v,hv,fun σ' K' _ h'=>hk σ' K' h'⟩
 case extract=>obtain ⟨v,hv,hk⟩:=zwq _ _ h;exact ⟨v,hv,fun σ' K' _ h'=>hk σ' K' h'⟩
 case len=>obtain ⟨v,hv,hk⟩:=lenC_quiet _ _ hq h;exact ⟨v,hv,fun σ' K' _ h'=>hk σ' K' h'⟩
 case maxi=>obtain ⟨v,hv,hk⟩:=maxC_quiet _ h;exact ⟨v,hv,fun σ' K' _ h'=>hk σ' K' h'⟩
 case mini=>obtain ⟨v,hv,hk⟩:=minC_quiet _ h;exact ⟨v,hv,fun σ' K' _ h'=>hk σ' K' h'⟩
 case mget=>obtain ⟨v,hv,hk⟩:=mgetC_quiet _ _ _ _ _ h;exact ⟨v,hv,fun σ' K' ho h'=>hk σ' K' (ho _ rfl) h'⟩
theorem zjA (fr:zar) (d:Option Nat) (a:AV) (i:Nat):zha (aput fr d a) i=if d=some i then a else zha fr i:=by
 cases d with
 | none=>simp [aput]
 | some d=>simp only [aput,zlb,Option.some.injEq];by_cases h:i=d<;>simp [h,eq_comm]
def FEq (fr fr':zar):Prop := ∀ i,zha fr i=zha fr' i
def FE (K:zar->List zh->Prop):Prop := ∀ fr fr' σ,FEq fr fr' → K fr σ->K fr' σ
theorem ztX {x:Ai} {fr fr':zar} {σ:List zh} {K K':zar->List zh->Prop} (he:∀ t∈x.reads,zha fr t=zha fr' t)
  (hk:∀ u s,K (aput fr x.dst u) s->K' (aput fr' x.dst u) s) (h:aop P x fr σ K):aop P x fr' σ K':=by
 unfold aop at *
 cases hg:x.g with
 | none=>
  simp only [hg] at h ⊢
  rw [← zri (fr:=fr) (fr':=fr') fun t ht=>he t (by simp only [Ai.reads,hg];exact ht)]
  exact zxE (fun a s=>hk a s) h
 | some p=>
  obtain ⟨s,want⟩:=p
  simp only [hg] at h ⊢
  have e1:∀ t∈x.i.reads,zha fr t=zha fr' t:=fun t ht=>he t (by simp only [Ai.reads,hg];exact List.mem_cons_of_mem _ ht)
  have e0:zha fr s=zha fr' s:=he s (by simp only [Ai.reads,hg];exact List.mem_cons_self)
  rw [← e0]
  unfold zhS at *
  split at h
  ·refine ⟨fun e => ?_,fun e=>hk _ _ (h.2 e)⟩
   have h1:=h.1 e
   rw [← zri (fr:=fr) (fr':=fr') e1]
   exact zxE (fun a s=>hk a s) h1
  ·exact hk _ _ h
  ·exact h
theorem zes {x:Ai} {fr:zar} {σ:List zh} {K K':zar->List zh->Prop} (hk:∀ f s,K f s->K' f s) (h:aop P x fr σ K):aop P x fr σ K':=
 ztX (fun _ _=>rfl) (fun _ _=>hk _ _) h
theorem zrk {x:Ai} (hq:x.i.quiet=true) {fr:zar} {σ:List zh} {K:zar->List zh->Prop} (h:aop P x fr σ K) :
  ∃ v,K (aput fr x.dst v) σ/\∀ (fr':zar) (σ':List zh) (K':zar->List zh->Prop),(∀ t∈x.reads,zha fr t=zha fr' t)->(∀ o,x.i.at? = some o->zH (ev fr o) σ σ')->K' (aput fr' x.dst v) σ' → aop P x fr' σ' K':=by
 unfold aop at h
 cases hg:x.g with
 | none=>
  simp only [hg] at h
  obtain ⟨v,hv,hk⟩:=zvC hq h
  refine ⟨v,hv,fun fr' σ' K' he hb h' => ?_⟩
  unfold aop
  simp only [hg]
  rw [← zri (fr:=fr) (fr':=fr') fun t ht=>he t (by simp only [Ai.reads,hg];exact ht)]
  exact hk σ' _ hb h'
 | some p=>
  obtain ⟨s,want⟩:=p
  simp only [hg] at h
  unfold zhS at h
  have e0:∀ fr':zar,(∀ t∈x.reads,zha fr t=zha fr' t)->zha fr s=zha fr' s:=fun fr' he=>he s (by simp only [Ai.reads,hg];exact List.mem_cons_self)
  split at h
  ·rename_i b hb
   cases hbw:(b==want)
   ·refine ⟨_,h.2 hbw,fun fr' σ' K' he _ h' => ?_⟩
    unfold aop
    simp only [hg]
    rw [← e0 fr' he,hb]
    exact ⟨fun e=>(by rw [hbw] at e;cases e),fun _=>h'⟩
   ·obtain ⟨v,hv,hk⟩:=zvC hq (h.1 hbw)
    refine ⟨v,hv,fun fr' σ' K' he ho h' => ?_⟩
    unfold aop
    simp only [hg]
    rw [← e0 fr' he,hb]
    refine ⟨fun _ => ?_,fun e=>(by rw [hbw] at e;cases e)⟩
    rw [← zri (fr:=fr) (fr':=fr') fun t ht=>he t (by simp only [Ai.reads,hg];exact List.mem_cons_of_mem _ ht)]
    exact hk σ' _ ho h'
  ·rename_i hb
   refine ⟨_,h,fun fr' σ' K' he _ h' => ?_⟩
   unfold aop
   simp only [hg]
   rw [← e0 fr' he,hb]
   exact h'
  ·exact h.elim
def zyy (fr:zar) (σ σ':List zh):List Nat->Prop->Prop
 | [],p=>p
 | o::r,p=>zH (zha fr o) σ σ' ∧ zyy fr σ σ' r p
theorem zjy {fr:zar} {σ σ':List zh} {p:Prop}:∀ {l:List Nat},zyy fr σ σ' l p↔(∀ o∈l,zH (zha fr o) σ σ')/\p
 | []=>by simp [zyy]
 | o::r=>by simp only [zyy,zjy (l:=r),List.mem_cons,forall_eq_or_imp,and_assoc]
def zdW (P:Program) (l:List Ai):List (Nat × List Nat)->zar->List zh->(zar->List zh->Prop)->Prop
 | [],fr, σ,K=>K fr σ
 | (i,nd)::r,fr, σ,K=>
  match l[i]? with
  | some x=>aop P x fr σ fun f s=>zyy fr σ s nd (zdW P l r f s K)
  | none=>False
theorem FEq.put {fr fr':zar} (h:FEq fr fr') (d:Option Nat) (a:AV):FEq (aput fr d a) (aput fr' d a):=fun i=>by
 rw [zjA,zjA,h i]
theorem FEq.ev {fr fr':zar} (h:FEq fr fr') (o:Opd):ev fr o=ev fr' o:=zbK fun t _=>h t
theorem ztZ {l:List Ai} {K:zar->List zh->Prop} (hK:FE K):∀ (lin:List (Nat × List Nat)) (fr fr':zar) (σ:List zh),FEq fr fr' → zdW P l lin fr σ K->zdW P l lin fr' σ K
 | [],fr,fr', σ,he,h=>hK fr fr' σ he h
 | (i,nd)::r,fr,fr', σ,he,h=>by
  unfold zdW at *
  split at h
  ·refine ztX (fun t _=>he t) (fun u s hs => ?_) h
   rw [zjy] at hs ⊢
   exact ⟨fun o ho=>(by rw [← he o];exact hs.1 o ho),ztZ hK r _ _ s (he.put _ u) hs.2⟩
  ·exact h
def passes (x y:Ai):Bool:=
 x.i.quiet&&(x.dst.all fun d => !y.reads.contains d)&&(y.dst.all fun d => !x.reads.contains d)&&(match x.dst with|some d => !(y.dst==some d)|none=>true)
theorem zus {x y:Ai} (h:passes x y=true):x.i.quiet=true/\(∀ d,x.dst=some d->d ∉ y.reads)/\(∀ d,y.dst=some d->d ∉ x.reads)/\(∀ d,x.dst=some d->y.dst≠some d):=by
 simp only [passes,Bool.and_eq_true] at h
 obtain ⟨⟨⟨h1,h2⟩,h3⟩,h4⟩:=h
 refine ⟨h1,fun d hd => ?_,fun d hd => ?_,fun d hd => ?_⟩
 ·rw [hd] at h2;simpa using h2
 ·rw [hd] at h3;simpa using h3
 ·rw [hd] at h4;simpa using h4
theorem swap {x y:Ai} {fr:zar} {σ:List zh} {K:zar->List zh->Prop} (hp:passes x y=true) (hK:FE K)
  (h:aop P x fr σ fun f s=>aop P y f s fun f' s'=>(∀ o,x.i.at? = some o->zH (ev fr o) σ s')/\K f' s') :
  aop P y fr σ fun f s=>aop P x f s K:=by
 obtain ⟨hq,h1,h2,h3⟩:=zus hp
 obtain ⟨v,hv,hk⟩:=zrk hq h
 refine ztX (fun t ht => ?_) (fun u s hs => ?_) hv
 ·rw [zjA]
  split
  ·rename_i e;exact absurd ht (h1 t e)
  ·rfl
 ·refine hk _ _ _ (fun t ht => ?_) hs.1 (hK _ _ s (fun i => ?_) hs.2)
  ·rw [zjA]
   split
   ·rename_i e;exact absurd ht (h2 t e)
   ·rfl
  ·simp only [zjA]
   by_cases hx:x.dst=some i
   ·have:=h3 i hx
    simp [hx,this]
   ·simp [hx]
theorem aop_still {x:Ai} (hq:x.i.quiet=true) {fr:zar} {σ:List zh} {K:zar->List zh->Prop} (h:aop P x fr σ K):aop P x fr σ fun f s=>s = σ/\K f s:=by
 obtain ⟨v,hv,hk⟩:=zrk hq h
 refine hk fr σ _ (fun _ _=>rfl) (fun o _ => ?_) ⟨rfl,hv⟩
 unfold zH;split<;>trivial
def pairOk (x y:Ai) (nx ny:List Nat):Bool:=
 nx.isEmpty&&passes x y&&(match x.i.at? with|some (.tmp t)=>y.i.quiet || ny.contains t|some (.lit (.box _ _))=>false|some (.lit (.map _))=>false|some (.lit (.rpt _ _ _))=>false|_=>true)
def zrI (x y:Ai):Bool:=
 match x.i.at? with
 | some (.tmp t) => !(y.dst==some t) && !(x.dst==some t)
 | _=>true
theorem extract {l:List Ai} {K:zar->List zh->Prop} (hK:FE K) {i:Nat} {nd:List Nat} {x:Ai} (hx:l[i]? = some x) {post:List (Nat × List Nat)} :
  ∀ (pre:List (Nat × List Nat)) (fr:zar) (σ:List zh),(∀ p∈pre, ∃ y,l[p.1]? = some y/\pairOk y x p.2 nd=true) →
   (pre.Pairwise fun p q => ∀ y z,l[p.1]? = some y->l[q.1]? = some z->zrI y z=true)->(∀ p∈pre, ∀ y,l[p.1]? = some y->zrI y y=true) →
   zdW P l (pre++(i,nd)::post) fr σ K →
   aop P x fr σ fun f s=>((x.i.quiet=true->s = σ)/\∀ t∈nd,(∀ p∈pre, ∀ y,l[p.1]? = some y->y.dst≠some t)->zH (zha fr t) σ s)/\zdW P l (pre++post) f s K
 | [],fr, σ,_,_,_,h=>by
  simp only [List.nil_append,zdW,hx] at h
  have h2:aop P x fr σ fun f s=>(∀ t∈nd,zH (zha fr t) σ s)/\zdW P l post f s K:=zes (fun f s hs=>zjy.1 hs) h
  by_cases hq:x.i.quiet=true
  ·exact zes (fun f s hs=>⟨⟨fun _=>hs.1,fun t ht _=>hs.2.1 t ht⟩,hs.2.2⟩) (aop_still hq h2)
  ·exact zes (fun f s hs=>⟨⟨fun e=>absurd e hq,fun t ht _=>hs.1 t ht⟩,hs.2⟩) h2
 | (j,nj)::pre,fr, σ,hp,hs,hss,h=>by
  obtain ⟨y,hy,hpy⟩:=hp (j,nj) List.mem_cons_self
  simp only [pairOk,Bool.and_eq_true,List.isEmpty_iff] at hpy
  obtain ⟨⟨hnj,hps⟩,hat⟩:=hpy
  subst hnj
  have hyq:=(zus hps).1
  have hyy:=hss (j,[]) List.mem_cons_self y hy
  rw [List.pairwise_cons] at hs
  simp only [List.cons_append,zdW,hy,zyy] at h
  obtain ⟨v,hv,hk⟩:=zrk hyq h
  have ih:=extract hK hx pre _ σ (fun p hp'=>hp p (List.mem_cons_of_mem _ hp')) hs.2 (fun p hp'=>hss p (List.mem_cons_of_mem _ hp')) hv
  have h3:aop P y fr σ fun f s=>aop P x f s fun f' s'=>(∀ o,y.i.at? = some o->zH (ev fr o) σ s') ∧
    (((x.i.quiet=true->s' = σ)/\∀ t∈nd,(∀ p∈(j,[])::pre, ∀ y,l[p.1]? = some y->y.dst≠some t)->zH (zha fr t) σ s')/\zdW P l (pre++post) f' s' K):=by
   refine hk fr σ _ (fun _ _=>rfl) (fun o _=>(by unfold zH;split<;>trivial)) (zes (fun f' s' hh => ?_) ih)
   refine ⟨fun o ho => ?_,⟨hh.1.1,fun t ht hno => ?_⟩,hh.2⟩
   ·cases o with
    | lit a=>
     rw [ho] at hat
     cases a<;>first|trivial|simp at hat
    | tmp t=>
     rw [ho] at hat
     simp only [Bool.or_eq_true,List.contains_iff_mem] at hat
     rcases hat with hq|hm
     ·rw [hh.1.1 hq];simp only [zH];split<;>trivial
     ·have h4:=hh.1.2 t hm fun p hp' z hz=>by
       have:=hs.1 p hp' y z hy hz
       simp only [zrI,ho,Bool.and_eq_true] at this
       have:=this.1
       simpa using this
      have h5:y.dst≠some t:=by
       simp only [zrI,ho,Bool.and_eq_true] at hyy
       simpa using hyy.1
      rw [zjA,if_neg h5] at h4
      exact h4
   ·have h4:=hh.1.2 t ht fun p hp' z hz=>hno p (List.mem_cons_of_mem _ hp') z hz
    rw [zjA,if_neg (hno (j,[]) List.mem_cons_self y hy)] at h4
    exact h4
  have hKK:FE fun f' s'=>((x.i.quiet=true->s' = σ)/\∀ t∈nd,(∀ p∈(j,[])::pre, ∀ y,l[p.1]? = some y->y.dst≠some t)->zH (zha fr t) σ s')/\zdW P l (pre++post) f' s' K:=
   fun f f' s he hh=>⟨hh.1,ztZ hK _ _ _ _ he hh.2⟩
  refine zes (fun f s hh => ?_) (swap hps hKK h3)
  obtain ⟨v',hv',_⟩:=zrk hyq hh
  refine ⟨hv'.1,?_⟩
  simp only [List.cons_append,zdW,hy,zyy]
  exact zes (fun f' s' h'=>h'.2) hh
variable {P:Program}
def pw {α:Type} (f : α → α->Bool):List α->Bool
 | []=>true
 | a::r=>r.all (f a)&&pw f r
theorem pw_spec {α:Type} {f : α → α->Bool}:∀ {l:List α},pw f l=true->l.Pairwise fun a b=>f a b=true
 | [],_ => .nil
 | a::r,h=>by
  simp only [pw,Bool.and_eq_true,List.all_eq_true] at h
  exact .cons h.1 (pw_spec h.2)
def mask (cl:List Nat):List Nat->Nat
 | [] => 0
 | j::r=>(2 ^ j ||| cl.getD j 0) ||| mask cl r
theorem mask_spec {cl:List Nat} {p:Nat}:∀ {a:List Nat},(mask cl a).testBit p=true->∃ j∈a,p=j∨(cl.getD j 0).testBit p=true
 | [],h=>by simp [mask] at h
 | j::r,h=>by
  simp only [mask,Nat.testBit_or,Bool.or_eq_true] at h
  rcases h with (h|h)|h
  ·rw [Nat.testBit_two_pow] at h
   exact ⟨j,List.mem_cons_self,.inl (by simpa using h:j=p).symm⟩
  ·exact ⟨j,List.mem_cons_self,.inr h⟩
  ·obtain ⟨k,hk,h'⟩:=mask_spec h
   exact ⟨k,List.mem_cons_of_mem _ hk,h'⟩
def linB (l:List Ai) (after:List (List Nat)) (cl:List Nat) (p q:Nat × List Nat):Bool:=
 !(p.1==q.1) && !(after.getD p.1 []).contains q.1&&match l[p.1]?,l[q.1]? with
  | some x,some y=>zrI x y&&((cl.getD q.1 0).testBit p.1 || pairOk x y p.2 q.2)
  | _,_=>false
def linA (l:List Ai) (after:List (List Nat)) (cl:List Nat) (i:Nat):Bool:=
 (after.getD i []).all (fun j=>decide (j<i) || (after.getD j []).isEmpty&&decide (j<after.length))&&(mask cl (after.getD i []) ||| cl.getD i 0==mask cl (after.getD i []))&&match l[i]? with
  | some x=>zrI x x
  | none=>false
def linOk (l:List Ai) (after:List (List Nat)) (lin:List (Nat × List Nat)) (cl:List Nat):Bool:=
 lin.length==after.length&&(List.range after.length).all (fun i=>(lin.map (·.1)).contains i&&linA l after cl i)&&lin.all (fun p=>decide (p.1<after.length))&&pw (linB l after cl) lin
structure zog (l:List Ai) (after:List (List Nat)) (cl:List Nat) (lin:List (Nat × List Nat)) (listed:List Bool):Prop where
 len:listed.length=after.length
 mem:∀ i,i<after.length->(listed.getD i true=false↔∃ p∈lin,p.1=i)
 low:∀ p∈lin,p.1<after.length
 pair:lin.Pairwise fun p q=>linB l after cl p q=true
 down:∀ i,i<after.length->listed.getD i true=true->∀ j∈after.getD i [],listed.getD j false=true
theorem zjx {l:List Ai} {after:List (List Nat)} {cl:List Nat} {i:Nat} (h:linA l after cl i=true) :
  (∀ j∈after.getD i [],j<i∨(after.getD j [] = []/\j<after.length))/\(∀ p,(cl.getD i 0).testBit p=true->∃ j∈after.getD i [],p=j∨(cl.getD j 0).testBit p=true)/\∃ x,l[i]? = some x/\zrI x x=true:=by
 simp only [linA,Bool.and_eq_true,List.all_eq_true,Bool.or_eq_true,decide_eq_true_eq,beq_iff_eq,List.isEmpty_iff] at h
 refine ⟨h.1.1,fun p hp=>mask_spec ?_,?_⟩
 ·rw [← h.1.2,Nat.testBit_or,hp,Bool.or_true]
 ·have:=h.2
  split at this
  ·rename_i x hx;exact ⟨x,hx,this⟩
  ·cases this
theorem zuJ {l:List Bool} {i n:Nat} (hl:l.length=n) (hi:i<n) (a b:Bool):l.getD i a=l.getD i b:=by
 subst hl
 simp [List.getD,List.getElem?_eq_getElem hi]
theorem zmn {l:List Ai} {after:List (List Nat)} {cl:List Nat} {lin:List (Nat × List Nat)} {listed:List Bool} (hA:∀ i,i<after.length->linA l after cl i=true) (I:zog l after cl lin listed) :
  ∀ (n i:Nat),i<n->i<after.length->(∀ j∈after.getD i [],listed.getD j false=true)->∀ p,(cl.getD i 0).testBit p=true->listed.getD p false=true
 | 0,i,h,_,_,_,_=>absurd h (Nat.not_lt_zero _)
 | n+1,i,hn,hi,hd,p,hp=>by
  obtain ⟨h1,h2,_⟩:=zjx (hA i hi)
  obtain ⟨j,hj,hpj⟩:=h2 p hp
  rcases hpj with rfl|hpj
  ·exact hd p hj
  ·rcases h1 j hj with hji|⟨he,hjn⟩
   ·have hjn:j<after.length:=by omega
    exact zmn hA I n j (by omega) hjn (I.down j hjn (by rw [zuJ I.len hjn true false];exact hd j hj)) p hpj
   ·obtain ⟨_,h2',_⟩:=zjx (hA j hjn)
    obtain ⟨k,hk,_⟩:=h2' p hpj
    rw [he] at hk;cases hk
theorem zdR {after:List (List Nat)} {listed:List Bool} {i:Nat}:i∈zkn after listed↔i<after.length/\listed.getD i true=false/\∀ j∈after.getD i [],listed.getD j false=true:=by
 simp only [zkn,List.mem_filter,List.mem_range,Bool.and_eq_true,Bool.not_eq_true',List.all_eq_true]
theorem zrm {l:List Ai} {after:List (List Nat)} {cl:List Nat} (hA:∀ i,i<after.length->linA l after cl i=true) {K:zar->List zh->Prop} (hK:FE K) :
  ∀ (n:Nat) (lin:List (Nat × List Nat)) (listed:List Bool) (fr:zar) (σ:List zh),lin.length=n->zog l after cl lin listed->zdW P l lin fr σ K->aany P l after K n listed fr σ
 | 0,lin,listed,fr, σ,hn,I,h=>by
  have e:lin = []:=List.length_eq_zero_iff.1 hn
  subst e
  refine ⟨?_,h⟩
  rw [List.eq_nil_iff_forall_not_mem]
  intro i hi
  obtain ⟨h1,h2,_⟩:=zdR.1 hi
  obtain ⟨p,hp,_⟩:=(I.mem i h1).1 h2
  cases hp
 | n+1,lin,listed,fr, σ,hn,I,h=>by
  refine ⟨fun h0 => ?_,fun i hi => ?_⟩
  ·exfalso
   cases lin with
   | nil=>cases hn
   | cons p r=>
    have hlow:=I.low p List.mem_cons_self
    have hr:p.1∈zkn after listed:=by
     refine zdR.2 ⟨hlow,(I.mem _ hlow).2 ⟨p,List.mem_cons_self,rfl⟩,fun j hj => ?_⟩
     have hjp:=(zjx (hA _ hlow)).1 j hj
     have hjn:j<after.length:=by
      rcases hjp with h|h;· omega
      exact h.2
     have hjne:j≠p.1:=by
      rintro rfl
      rcases hjp with h|h
      ·omega
      ·rw [h.1] at hj;cases hj
     cases hl:listed.getD j false with
     | true=>rfl
     | false=>
      rw [zuJ I.len hjn false true] at hl
      obtain ⟨q,hq,e⟩:=(I.mem j hjn).1 hl
      rcases List.mem_cons.1 hq with rfl|hq
      ·exact absurd e.symm hjne
      ·have:=(List.pairwise_cons.1 I.pair).1 q hq
       simp only [linB,Bool.and_eq_true,Bool.not_eq_true',List.contains_eq_mem,decide_eq_false_iff_not] at this
       rw [e] at this
       exact absurd hj this.1.2
    rw [h0] at hr
    cases hr
  ·obtain ⟨h1,h2,h3⟩:=zdR.1 hi
   obtain ⟨q,hq,e⟩:=(I.mem i h1).1 h2
   obtain ⟨pre,post,rfl⟩:=List.append_of_mem hq
   obtain ⟨i',nd⟩:=q
   simp only at e
   subst e
   obtain ⟨_,_,x,hx,_⟩:=zjx (hA i' h1)
   have hpair:=List.pairwise_append.1 I.pair
   have hcross:∀ p∈pre,linB l after cl p (i',nd)=true:=fun p hp=>hpair.2.2 p hp (i',nd) List.mem_cons_self
   have hpost:∀ p∈post,linB l after cl (i',nd) p=true:=fun p hp=>(List.pairwise_cons.1 hpair.2.1).1 p hp
   have hB:∀ p q,linB l after cl p q=true->p.1≠q.1/\∃ y z,l[p.1]? = some y/\l[q.1]? = some z/\zrI y z=true/\((cl.getD q.1 0).testBit p.1=true∨pairOk y z p.2 q.2=true):=by
    intro p q hpq
    simp only [linB,Bool.and_eq_true,Bool.not_eq_true',beq_eq_false_iff_ne] at hpq
    refine ⟨hpq.1.1,?_⟩
    have:=hpq.2
    split at this
    ·rename_i y z hy hz
     simp only [Bool.and_eq_true,Bool.or_eq_true] at this
     exact ⟨y,z,hy,hz,this.1,this.2⟩
    ·cases this
   have hun:∀ p∈pre,listed.getD p.1 false=false:=fun p hp=>by
    have hlow:=I.low p (List.mem_append_left _ hp)
    rw [zuJ I.len hlow false true]
    exact (I.mem _ hlow).2 ⟨p,List.mem_append_left _ hp,rfl⟩
   have hex:=extract hK hx (post:=post) pre fr σ (fun p hp=>by
     obtain ⟨_,y,z,hy,hz,_,hor⟩:=hB _ _ (hcross p hp)
     rw [hx] at hz;cases hz
     refine ⟨y,hy,?_⟩
     rcases hor with hc|hc
     ·have:=zmn hA I _ i' (Nat.lt_succ_self _) h1 h3 p.1 hc
      rw [hun p hp] at this;cases this
     ·exact hc)
    (hpair.1.imp fun {p q} hpq y z hy hz=>by
     obtain ⟨_,y',z',hy',hz',hs,_⟩:=hB _ _ hpq
     rw [hy] at hy';rw [hz] at hz';cases hy';cases hz';exact hs)
    (fun p hp y hy=>by
     obtain ⟨_,_,y',hy',hs⟩:=zjx (hA p.1 (I.low p (List.mem_append_left _ hp)))
     rw [hy] at hy';cases hy';exact hs) h
   simp only [hx]
   refine zes (fun f s hs=>zrm hA hK n (pre++post) (listed.set i' true) f s (by simp at hn ⊢;omega) ?_ hs.2) hex
   have hne:∀ p∈pre++post,p.1≠i':=fun p hp=>by
    rcases List.mem_append.1 hp with hp|hp
    ·exact (hB _ _ (hcross p hp)).1
    ·exact fun e=>(hB _ _ (hpost p hp)).1 e.symm
   have hset:∀ k d,k≠i' → (listed.set i' true).getD k d=listed.getD k d:=fun k d hk=>by simp [List.getD,List.getElem?_set_ne (Ne.symm hk)]
   have hseti:∀ d,(listed.set i' true).getD i' d=true:=fun d=>by simp [List.getD,List.getElem?_set,I.len,h1]
   refine ⟨by rw [List.length_set];exact I.len,fun k hk => ?_,fun p hp=>I.low p ?_,?_,fun k hk hl j hj => ?_⟩
   ·by_cases hki:k=i'
    ·subst hki
     rw [hseti]
     exact ⟨fun e=>Bool.noConfusion e,fun ⟨p,hp,e⟩=>absurd e (hne p hp)⟩
    ·rw [hset k true hki,I.mem k hk]
     constructor
     ·rintro ⟨p,hp,rfl⟩
      refine ⟨p,?_,rfl⟩
      rcases List.mem_append.1 hp with hp|hp
      ·exact List.mem_append_left _ hp
      ·rcases List.mem_cons.1 hp with rfl|hp
       ·exact absurd rfl hki
       ·exact List.mem_append_right _ hp
     ·rintro ⟨p,hp,rfl⟩
      refine ⟨p,?_,rfl⟩
      rcases List.mem_append.1 hp with hp|hp
      ·exact List.mem_append_left _ hp
      ·exact List.mem_append_right _ (List.mem_cons_of_mem _ hp)
   ·rcases List.mem_append.1 hp with hp|hp
    ·exact List.mem_append_left _ hp
    ·exact List.mem_append_right _ (List.mem_cons_of_mem _ hp)
   ·exact I.pair.sublist (List.Sublist.append_left (List.sublist_cons_self _ _) _)
   ·have hj':listed.getD j false=true:=by
     by_cases hki:k=i'
     ·subst hki;exact h3 j hj
     ·rw [hset k true hki] at hl
      exact I.down k hk hl j hj
    by_cases hji:j=i'
    ·subst hji;exact hseti _
    ·rw [hset j false hji];exact hj'
theorem linOk_inv {l:List Ai} {after:List (List Nat)} {lin:List (Nat × List Nat)} {cl:List Nat} (h:linOk l after lin cl=true) :
  lin.length=after.length/\zog l after cl lin (List.replicate after.length false)/\∀ i,i<after.length->linA l after cl i=true:=by
 simp only [linOk,Bool.and_eq_true,List.all_eq_true,decide_eq_true_eq,beq_iff_eq,List.mem_range,List.contains_eq_mem,List.mem_map] at h
 obtain ⟨⟨⟨h1,h2⟩,h3⟩,h4⟩:=h
 refine ⟨h1,⟨by simp,fun i hi => ?_,h3,pw_spec h4,fun i hi e => ?_⟩,fun i hi=>(h2 i hi).2⟩
 ·constructor
  ·intro _
   exact (h2 i hi).1
  ·intro _
   simp [List.getD,hi]
 ·simp [List.getD,hi] at e
theorem draw_front {l:List Ai} {after:List (List Nat)} {cl:List Nat} {pre post post':List (Nat × List Nat)} {i':Nat} {nd:List Nat} {listed:List Bool} (hA:∀ i,i<after.length->linA l after cl i=true)
  (I:zog l after cl (pre++(i',nd)::post') listed) (h1:i' < after.length) (h2:listed.getD i' true=false) (h3:∀ j∈after.getD i' [],listed.getD j false=true) {x:Ai} (hx:l[i']? = some x)
  {K:zar->List zh->Prop} (hK:FE K) {fr:zar} {σ:List zh} (h:zdW P l (pre++(i',nd)::post) fr σ K) :
  aop P x fr σ fun f s=>zdW P l (pre++post) f s K:=by
 have hpair:=List.pairwise_append.1 I.pair
 have hcross:∀ p∈pre,linB l after cl p (i',nd)=true:=fun p hp=>hpair.2.2 p hp (i',nd) List.mem_cons_self
 have hB:∀ p q,linB l after cl p q=true->p.1≠q.1/\∃ y z,l[p.1]? = some y/\l[q.1]? = some z/\zrI y z=true/\((cl.getD q.1 0).testBit p.1=true∨pairOk y z p.2 q.2=true):=by
  intro p q hpq
  simp only [linB,Bool.and_eq_true,Bool.not_eq_true',beq_eq_false_iff_ne] at hpq
  refine ⟨hpq.1.1,?_⟩
  have:=hpq.2
  split at this
  ·rename_i y z hy hz
   simp only [Bool.and_eq_true,Bool.or_eq_true] at this
   exact ⟨y,z,hy,hz,this.1,this.2⟩
  ·cases this
 have hun:∀ p∈pre,listed.getD p.1 false=false:=fun p hp=>by
  have hlow:=I.low p (List.mem_append_left _ hp)
  rw [zuJ I.len hlow false true]
  exact (I.mem _ hlow).2 ⟨p,List.mem_append_left _ hp,rfl⟩
 have hex:=extract hK hx (post:=post) pre fr σ (fun p hp=>by
   obtain ⟨_,y,z,hy,hz,_,hor⟩:=hB _ _ (hcross p hp)
   rw [hx] at hz;cases hz
   refine ⟨y,hy,?_⟩
   rcases hor with hc|hc
   ·have:=zmn hA I _ i' (Nat.lt_succ_self _) h1 h3 p.1 hc
    rw [hun p hp] at this;cases this
   ·exact hc)
  (hpair.1.imp fun {p q} hpq y z hy hz=>by
   obtain ⟨_,y',z',hy',hz',hs,_⟩:=hB _ _ hpq
   rw [hy] at hy';rw [hz] at hz';cases hy';cases hz';exact hs)
  (fun p hp y hy=>by
   obtain ⟨_,_,y',hy',hs⟩:=zjx (hA p.1 (I.low p (List.mem_append_left _ hp)))
   rw [hy] at hy';cases hy';exact hs) h
 exact zes (fun f s hs=>hs.2) hex
theorem adraw_mono' {l:List Ai} {K K':zar->List zh->Prop} (hk:∀ f s,K f s->K' f s):∀ (lin:List (Nat × List Nat)) (fr:zar) (σ:List zh),zdW P l lin fr σ K->zdW P l lin fr σ K'
 | [],fr, σ,h=>hk _ _ h
 | (i,nd)::r,fr, σ,h=>by
  unfold zdW at *
  split at h
  ·refine zes (fun f s hs => ?_) h
   rw [zjy] at hs ⊢
   exact ⟨hs.1,adraw_mono' hk r _ s hs.2⟩
  ·exact h
theorem linOk_any {l:List Ai} {after:List (List Nat)} {lin:List (Nat × List Nat)} {cl:List Nat} (h:linOk l after lin cl=true) {K:zar->List zh->Prop} (hK:FE K) {fr:zar} {σ:List zh} (hd:zdW P l lin fr σ K) :
  aany P l after K after.length (List.replicate after.length false) fr σ:=by
 simp only [linOk,Bool.and_eq_true,List.all_eq_true,decide_eq_true_eq,beq_iff_eq,List.mem_range,List.contains_eq_mem,List.mem_map] at h
 obtain ⟨⟨⟨h1,h2⟩,h3⟩,h4⟩:=h
 refine zrm (fun i hi=>(h2 i hi).2) hK _ lin _ fr σ h1 ⟨by simp,fun i hi => ?_,h3,pw_spec h4,fun i hi e => ?_⟩ hd
 ·constructor
  ·intro _
   exact (h2 i hi).1
  ·intro _
   simp [List.getD,hi]
 ·simp [List.getD,hi] at e
theorem zog.step {l:List Ai} {after:List (List Nat)} {cl:List Nat} {pre post:List (Nat × List Nat)} {i':Nat} {nd:List Nat} {listed:List Bool} (I:zog l after cl (pre++(i',nd)::post) listed) (h1:i' < after.length)
  (h3:∀ j∈after.getD i' [],listed.getD j false=true):zog l after cl (pre++post) (listed.set i' true):=by
 have hpair:=List.pairwise_append.1 I.pair
 have hcross:∀ p∈pre,linB l after cl p (i',nd)=true:=fun p hp=>hpair.2.2 p hp (i',nd) List.mem_cons_self
 have hpost:∀ p∈post,linB l after cl (i',nd) p=true:=fun p hp=>(List.pairwise_cons.1 hpair.2.1).1 p hp
 have hB:∀ p q,linB l after cl p q=true->p.1≠q.1:=by
  intro p q hpq
  simp only [linB,Bool.and_eq_true,Bool.not_eq_true',beq_eq_false_iff_ne] at hpq
  exact hpq.1.1
 have hne:∀ p∈pre++post,p.1≠i':=fun p hp=>by
  rcases List.mem_append.1 hp with hp|hp
  ·exact hB _ _ (hcross p hp)
  ·exact fun e=>hB _ _ (hpost p hp) e.symm
 have hset:∀ k d,k≠i' → (listed.set i' true).getD k d=listed.getD k d:=fun k d hk=>by simp [List.getD,List.getElem?_set_ne (Ne.symm hk)]
 have hseti:∀ d,(listed.set i' true).getD i' d=true:=fun d=>by simp [List.getD,List.getElem?_set,I.len,h1]
 refine ⟨by rw [List.length_set];exact I.len,fun k hk => ?_,fun p hp=>I.low p ?_,?_,fun k hk hl j hj => ?_⟩
 ·by_cases hki:k=i'
  ·subst hki
   rw [hseti]
   exact ⟨fun e=>Bool.noConfusion e,fun ⟨p,hp,e⟩=>absurd e (hne p hp)⟩
  ·rw [hset k true hki,I.mem k hk]
   constructor
   ·rintro ⟨p,hp,rfl⟩
    refine ⟨p,?_,rfl⟩
    rcases List.mem_append.1 hp with hp|hp
    ·exact List.mem_append_left _ hp
    ·rcases List.mem_cons.1 hp with rfl|hp
     ·exact absurd rfl hki
     ·exact List.mem_append_right _ hp
   ·rintro ⟨p,hp,rfl⟩
    refine ⟨p,?_,rfl⟩
    rcases List.mem_append.1 hp with hp|hp
    ·exact List.mem_append_left _ hp
    ·exact List.mem_append_right _ (List.mem_cons_of_mem _ hp)
 ·rcases List.mem_append.1 hp with hp|hp
  ·exact List.mem_append_left _ hp
  ·exact List.mem_append_right _ (List.mem_cons_of_mem _ hp)
 ·exact I.pair.sublist (List.Sublist.append_left (List.sublist_cons_self _ _) _)
 ·have hj':listed.getD j false=true:=by
   by_cases hki:k=i'
   ·subst hki;exact h3 j hj
   ·rw [hset k true hki] at hl
    exact I.down k hk hl j hj
  by_cases hji:j=i'
  ·subst hji;exact hseti _
  ·rw [hset j false hji];exact hj'
def dep (after:List (List Nat)) (i j:Nat):List (List Nat):=after.set i (j::after.getD i [])
theorem zsu (after:List (List Nat)) (i j:Nat):(dep after i j).length=after.length:=by simp [dep]
theorem dep_ne (after:List (List Nat)) {i j k:Nat} (h:k≠i):(dep after i j).getD k []=after.getD k []:=by
 simp [dep,List.getD,List.getElem?_set_ne (Ne.symm h)]
theorem dep_same (after:List (List Nat)) {i j:Nat} (h:i<after.length):(dep after i j).getD i []=j::after.getD i []:=by
 simp [dep,List.getD,List.getElem?_set,h]
theorem zjE {after:List (List Nat)} {i j:Nat} {listed:List Bool} {k:Nat} (h:k∈zkn after listed) (hk:k=i->listed.getD j false=true):k∈zkn (dep after i j) listed:=by
 obtain ⟨h1,h2,h3⟩:=zdR.1 h
 refine zdR.2 ⟨by rw [zsu];exact h1,h2,fun x hx => ?_⟩
 by_cases e:k=i
 ·subst e
  rw [dep_same _ h1] at hx
  rcases List.mem_cons.1 hx with rfl|hx
  ·exact hk rfl
  ·exact h3 x hx
 ·rw [dep_ne _ e] at hx
  exact h3 x hx
theorem ready_dep {after:List (List Nat)} {i j:Nat} {listed:List Bool} {k:Nat} (h:k∈zkn (dep after i j) listed):k∈zkn after listed:=by
 obtain ⟨h1,h2,h3⟩:=zdR.1 h
 rw [zsu] at h1
 refine zdR.2 ⟨h1,h2,fun x hx=>h3 x ?_⟩
 by_cases e:k=i
 ·subst e
  rw [dep_same _ h1]
  exact List.mem_cons_of_mem _ hx
 ·rw [dep_ne _ e]
  exact hx
theorem nil_dep {after:List (List Nat)} {i j:Nat} {listed:List Bool} (h:zkn after listed = []):zkn (dep after i j) listed = []:=by
 rw [List.eq_nil_iff_forall_not_mem] at h ⊢
 exact fun k hk=>h k (ready_dep hk)
theorem zsC {l:List Ai} {after:List (List Nat)} {i j:Nat} {K:zar->List zh->Prop}:∀ (n:Nat) (listed:List Bool) (fr:zar) (σ:List zh),listed.getD j false=true->aany P l (dep after i j) K n listed fr σ->aany P l after K n listed fr σ
 | 0,listed,fr, σ,hj,h=>by
  refine ⟨?_,h.2⟩
  have h1:=h.1
  rw [List.eq_nil_iff_forall_not_mem] at h1 ⊢
  exact fun k hk=>h1 k (zjE hk fun _=>hj)
 | n+1,listed,fr, σ,hj,h=>by
  refine ⟨fun h0=>h.1 (nil_dep h0),fun k hk => ?_⟩
  have h2:=h.2 k (zjE hk fun _=>hj)
  split at h2
  ·refine zes (fun f s hs=>zsC n _ f s ?_ hs) h2
   by_cases e:k=j
   ·subst e
    rcases Nat.lt_or_ge k listed.length with hl|hl
    ·simp [List.getD,List.getElem?_set,hl]
    ·simp [List.getD,List.getElem?_eq_none hl] at hj
   ·simp only [List.getD,List.getElem?_set_ne e]
    exact hj
  ·exact h2.elim
theorem znQ {l:List Ai} {K:zar->List zh->Prop}:∀ (a b:List (Nat × List Nat)) (fr:zar) (σ:List zh),zdW P l a fr σ (fun f s=>zdW P l b f s K)->zdW P l (a++b) fr σ K
 | [],b,fr, σ,h=>h
 | (i,nd)::r,b,fr, σ,h=>by
  rw [List.cons_append]
  unfold zdW at *
  split at h
  ·refine zes (fun f s hs => ?_) h
   rw [zjy] at hs ⊢
   exact ⟨hs.1,znQ r b f s hs.2⟩
  ·exact h.elim
structure Two (l:List Ai) (after:List (List Nat)) (p q:Nat):Prop where
 hp:p<after.length
 hq:q<after.length
 ne:p≠q
theorem two_any {l:List Ai} {after:List (List Nat)} {p q:Nat} {clA clB:List Nat} {restA restB:List (Nat × List Nat)} (hne:p≠q)
  (hA:∀ i,i<(dep after q p).length->linA l (dep after q p) clA i=true) (hB:∀ i,i<(dep after p q).length->linA l (dep after p q) clB i=true)
  {K:zar->List zh->Prop} (hK:FE K) :
  ∀ (n:Nat) (pre:List (Nat × List Nat)) (listed:List Bool) (fr:zar) (σ:List zh),
   (∀ x,x<after.length->listed.getD x true=false->x=p∨x=q∨(∃ y∈pre,y.1=x)∨(clA.getD x 0).testBit p=true) →
   listed.getD p false=false->listed.getD q false=false->p<after.length->q<after.length →
   (pre++restA).length=n->(pre++restB).length=n->zog l (dep after q p) clA (pre++restA) listed->zog l (dep after p q) clB (pre++restB) listed →
   zdW P l pre fr σ (fun f s=>zdW P l restA f s K/\zdW P l restB f s K)->aany P l after K n listed fr σ:=by
 intro n
 induction n with
 | zero=>
  intro pre listed fr σ hx hp hq hpl hql e1 e2 IA IB h
  have e:pre++restA = []:=List.length_eq_zero_iff.1 e1
  have:∃ y∈pre++restA,y.1=p:=(IA.mem p (by rw [zsu];exact hpl)).1 (by rw [zuJ (by rw [IA.len,zsu]) hpl true false];exact hp)
  rw [e] at this
  obtain ⟨y,hy,_⟩:=this
  cases hy
 | succ n ih=>
  intro pre listed fr σ hx hp hq hpl hql e1 e2 IA IB h
  have AA:=zrm hA hK (n+1) _ listed fr σ e1 IA (znQ _ _ _ _ (adraw_mono' (fun f s hs=>hs.1) pre fr σ h))
  have AB:=zrm hB hK (n+1) _ listed fr σ e2 IB (znQ _ _ _ _ (adraw_mono' (fun f s hs=>hs.2) pre fr σ h))
  refine ⟨fun h0=>AA.1 (nil_dep h0),fun i hi => ?_⟩
  obtain ⟨h1,h2,h3⟩:=zdR.1 hi
  have hset:∀ d,(listed.set i true).getD i d=true:=fun d=>by
   have:=IA.len
   rw [zsu] at this
   simp [List.getD,List.getElem?_set,this,h1]
  by_cases eip:i=p
  ·subst eip
   have h4:=AA.2 i (zjE hi fun e=>absurd e hne)
   split at h4
   ·exact zes (fun f s hs=>zsC n _ f s (hset _) hs) h4
   ·exact h4.elim
  by_cases eiq:i=q
  ·subst eiq
   have h4:=AB.2 i (zjE hi fun e=>absurd e (Ne.symm hne))
   split at h4
   ·exact zes (fun f s hs=>zsC n _ f s (hset _) hs) h4
   ·exact h4.elim
  have hin:∃ y∈pre,y.1=i:=by
   rcases hx i h1 h2 with h|h|h|h
   ·exact absurd h eip
   ·exact absurd h eiq
   ·exact h
   ·obtain ⟨a1,a2,a3⟩:=zdR.1 (zjE (i:=q) (j:=p) hi fun e=>absurd e eiq)
    have:=zmn hA IA _ i (Nat.lt_succ_self _) a1 a3 p h
    rw [this] at hp;cases hp
  obtain ⟨y,hy,e⟩:=hin
  obtain ⟨pre1,post1,rfl⟩:=List.append_of_mem hy
  obtain ⟨i',nd⟩:=y
  simp only at e
  subst e
  have hiA:=zjE (i:=q) (j:=p) hi fun e=>absurd e eiq
  have hiB:=zjE (i:=p) (j:=q) hi fun e=>absurd e eip
  obtain ⟨a1,a2,a3⟩:=zdR.1 hiA
  obtain ⟨b1,b2,b3⟩:=zdR.1 hiB
  obtain ⟨_,_,x,hxl,_⟩:=zjx (hA i' a1)
  have IA':zog l (dep after q p) clA (pre1++(i',nd)::(post1++restA)) listed:=by simpa [List.append_assoc] using IA
  have IB':zog l (dep after p q) clB (pre1++(i',nd)::(post1++restB)) listed:=by simpa [List.append_assoc] using IB
  have hex:=draw_front hA IA' a1 a2 a3 hxl (K:=fun f s=>zdW P l restA f s K/\zdW P l restB f s K) (fun f f' s he hs=>⟨ztZ hK _ _ _ _ he hs.1,ztZ hK _ _ _ _ he hs.2⟩) (post:=post1) h
  simp only [hxl]
  refine zes (fun f s hs=>ih (pre1++post1) (listed.set i' true) f s (fun k hk hkl => ?_) ?_ ?_ hpl hql ?_ ?_ ?_ ?_ hs) hex
  ·by_cases ek:k=i'
   ·subst ek;rw [hset] at hkl;cases hkl
   ·have hkl':listed.getD k true=false:=by simpa [List.getD,List.getElem?_set_ne (Ne.symm ek)] using hkl
    rcases hx k hk hkl' with h|h|⟨y,hy,e⟩|h
    ·exact .inl h
    ·exact .inr (.inl h)
    ·refine .inr (.inr (.inl ⟨y,?_,e⟩))
     rcases List.mem_append.1 hy with hy|hy
     ·exact List.mem_append_left _ hy
     ·rcases List.mem_cons.1 hy with rfl|hy
      ·exact absurd e.symm ek
      ·exact List.mem_append_right _ hy
    ·exact .inr (.inr (.inr h))
  ·simpa [List.getD,List.getElem?_set_ne eip] using hp
  ·simpa [List.getD,List.getElem?_set_ne eiq] using hq
  ·simp only [List.length_append,List.length_cons] at e1 ⊢;omega
  ·simp only [List.length_append,List.length_cons] at e2 ⊢;omega
  ·have:=IA'.step a1 a3
   simpa [List.append_assoc] using this
  ·have:=IB'.step b1 b3
   simpa [List.append_assoc] using this
def twoOk (l:List Ai) (after:List (List Nat)) (lin:List (Nat × List Nat)):List Nat->Bool
 | p::q::k::r=>
  decide (p<after.length)&&decide (q<after.length) && !(p==q)&&decide (k<=after.length)&&linOk l (dep after q p) (lin.take after.length) (r.take after.length) &&
  linOk l (dep after p q) (lin.take k++lin.drop after.length) (r.drop after.length) &&
  (List.range after.length).all fun x=>x==p || x==q || ((lin.take k).map (·.1)).contains x || ((r.take after.length).getD x 0).testBit p
 | _=>false
def twoK:List Nat->Nat
 | _::_::k::_=>k
 | _ => 0
theorem twoOk_any {l:List Ai} {after:List (List Nat)} {lin:List (Nat × List Nat)} {cl:List Nat} (h:twoOk l after lin cl=true) {K:zar->List zh->Prop} (hK:FE K) {fr:zar} {σ:List zh}
  (hd:zdW P l (lin.take (twoK cl)) fr σ fun f s=>zdW P l ((lin.take after.length).drop (twoK cl)) f s K/\zdW P l (lin.drop after.length) f s K) :
  aany P l after K after.length (List.replicate after.length false) fr σ:=by
 unfold twoOk at h
 split at h
 ·rename_i p q k r
  simp only [twoK] at hd
  simp only [Bool.and_eq_true,decide_eq_true_eq,Bool.not_eq_true',beq_eq_false_iff_ne] at h
  obtain ⟨⟨⟨⟨⟨⟨hp,hq⟩,hne⟩,hk⟩,hA⟩,hB⟩,hx⟩:=h
  obtain ⟨lA,IA,AA⟩:=linOk_inv hA
  obtain ⟨lB,IB,AB⟩:=linOk_inv hB
  rw [zsu] at lA lB IA IB
  have esplit:lin.take k++(lin.take after.length).drop k=lin.take after.length:=by
   have e1:lin.take k=(lin.take after.length).take k:=by rw [List.take_take,Nat.min_eq_left hk]
   rw [e1]
   exact List.take_append_drop ..
  refine two_any hne AA AB hK after.length (lin.take k) _ fr σ (fun x hxl _ => ?_) ?_ ?_ hp hq ?_ ?_ ?_ ?_ hd
  ·have:=List.all_eq_true.1 hx x (List.mem_range.2 hxl)
   simp only [Bool.or_eq_true,beq_iff_eq,List.contains_eq_mem,decide_eq_true_eq,List.mem_map] at this
   rcases this with ((h|h)|h)|h
   ·exact .inl h
   ·exact .inr (.inl h)
   ·exact .inr (.inr (.inl h))
   ·exact .inr (.inr (.inr h))
  ·simp [List.getD,hp]
  ·simp [List.getD,hq]
  ·rw [esplit];exact lA
  ·exact lB
  ·rw [esplit];exact IA
  ·exact IB
 ·cases h
def keysLt (n:Nat) (fr:zar):Prop := ∀ p∈fr,p.1<n
theorem zlr {l:List Ai} {n:Nat} (hl:∀ x∈l, ∀ d,x.dst=some d->d<n) {K:zar->List zh->Prop}:∀ (lin:List (Nat × List Nat)) (fr:zar) (σ:List zh),keysLt n fr->zdW P l lin fr σ K->zdW P l lin fr σ fun f s=>keysLt n f/\K f s
 | [],fr, σ,hf,h=>⟨hf,h⟩
 | (i,nd)::r,fr, σ,hf,h=>by
  unfold zdW at *
  split at h
  ·rename_i x hx
   refine ztX (fun _ _=>rfl) (fun u s hs => ?_) h
   rw [zjy] at hs ⊢
   refine ⟨hs.1,zlr hl r _ s (fun p hp => ?_) hs.2⟩
   unfold aput at hp
   split at hp
   ·rename_i d hd
    rcases List.mem_cons.1 hp with rfl|hp
    ·exact hl x (List.mem_of_getElem? hx) d hd
    ·exact hf p hp
   ·exact hf p hp
  ·exact h
theorem zlq {l:List Ai} {K K':zar->List zh->Prop} (hk:∀ f s,K f s->K' f s):∀ (lin:List (Nat × List Nat)) (fr:zar) (σ:List zh),zdW P l lin fr σ K->zdW P l lin fr σ K'
 | [],fr, σ,h=>hk _ _ h
 | (i,nd)::r,fr, σ,h=>by
  unfold zdW at *
  split at h
  ·refine zes (fun f s hs => ?_) h
   rw [zjy] at hs ⊢
   exact ⟨hs.1,zlq hk r _ s hs.2⟩
  ·exact h
inductive Ex where
 | normal
 | exit (id:Nat)
 | ret
def awp (P:Program):AC->(Ex->zar->List zh->Prop)->zar->List zh->Prop
 | .skip,Q,fr, σ=>Q .normal fr σ
 | .ops l,Q,fr, σ=>aops P l fr σ (Q .normal)
 | .draw l after lin cl,Q,fr, σ=>match linOk l after lin cl with
  | true=>zdW P l lin fr σ (Q .normal)
  | false=>match twoOk l after lin cl with
   | true=>zdW P l (lin.take (twoK cl)) fr σ fun f s=>zdW P l ((lin.take after.length).drop (twoK cl)) f s (Q .normal)/\zdW P l (lin.drop after.length) f s (Q .normal)
   | false=>False
 | .seq a b,Q,fr, σ=>awp P a (fun|.normal,fr', σ'=>awp P b Q fr' σ' | e,fr', σ'=>Q e fr' σ') fr σ
 | .cond c a b,Q,fr, σ=>zj (ev fr c) (awp P a Q fr σ) (awp P b Q fr σ)
 | .block id a,Q,fr, σ=>awp P a (fun|.exit id',fr', σ'=>if id' = id then Q .normal fr' σ' else Q (.exit id') fr' σ' | e,fr', σ'=>Q e fr' σ') fr σ
 | .loop lv dd a,Q,fr, σ=>zaP (lv.map (zha fr)) σ fun vs σ' again=>
   awp P a (fun|.normal,f,s=>again (lv.map (zha f)) s|e,f,s=>Q e f s) (setS (kill fr dd) lv vs) σ'
 | .exit id,Q,fr, σ=>Q (.exit id) fr σ
 | .ret,Q,fr, σ=>Q .ret fr σ
section
variable {P:Program}
def zie (A:List Nat) (a a':Act):Prop:=a'.tmps.size=a.tmps.size/\∀ i,i ∉ A->a'.tmps[i]? = a.tmps[i]?
theorem zie.refl (A:List Nat) (a:Act):zie A a a:=⟨rfl,fun _ _=>rfl⟩
theorem zie.trans {A B:List Nat} {a b c:Act} (h:zie A a b) (k:zie B b c):zie (A++B) a c:=⟨k.1.trans h.1,fun i hi=>by
 simp only [List.mem_append,not_or] at hi
 exact (k.2 i hi.2).trans (h.2 i hi.1)⟩
theorem zie.mono {A B:List Nat} {a b:Act} (h:zie A a b) (hs:∀ i∈A,i∈B):zie B a b:=⟨h.1,fun i hi=>h.2 i (fun hA=>hi (hs i hA))⟩
theorem zie.put (a:Act) (dst:Option Nat) (v:Value):zie dst.toList a (a.put dst v):=⟨by cases dst<;>simp [Act.put],fun i hi=>by
 cases dst with
 | none=>rfl
 | some d=>
  simp at hi
  simp only [Act.put,Array.getElem?_setIfInBounds]
  rw [if_neg (fun e=>hi e.symm)]⟩
def asg:AC->List Nat
 | .ops l=>l.filterMap (·.dst)
 | .draw l _ _ _=>l.filterMap (·.dst)
 | .seq a b=>asg a++asg b
 | .cond _ a b=>asg a++asg b
 | .block _ a=>asg a
 | .loop _ _ a=>asg a
 | _ => []
def dstOk (n:Nat) (x:Ai):Bool:=match x.dst with|none=>true|some d=>Nat.blt d n
def nodup:List Nat->Bool
 | []=>true
 | a::l=>l.all (fun b=>Nat.blt a b || Nat.blt b a)&&nodup l
theorem zwQ:∀ {l:List Nat},nodup l=true->l.Nodup
 | [],_ => .nil
 | a::l,h=>by
  simp only [nodup,Bool.and_eq_true,List.all_eq_true,Bool.or_eq_true,Nat.blt_eq] at h
  exact List.nodup_cons.2 ⟨fun hm=>by have:=h.1 a hm;omega,zwQ h.2⟩
def AC.ok (n:Nat):AC->Bool
 | .ops l=>l.all (dstOk n)
 | .draw l _ _ _=>l.all (dstOk n)
 | .seq a b=>a.ok n&&b.ok n
 | .cond _ a b=>a.ok n&&b.ok n
 | .block _ a=>a.ok n
 | .loop lv dd a=>a.ok n&&nodup lv&&lv.all (fun i=>Nat.blt i n)&&dd.all (fun i=>Nat.blt i n)&&(asg a).all fun i=>lv.contains i || dd.contains i
 | _=>true
theorem zyQ {n:Nat} {x:Ai} (h:dstOk n x=true) (d:Nat) (hd:x.dst=some d):d<n:=by
 simp only [dstOk,hd] at h
 rwa [Nat.blt_eq] at h
abbrev Then (A:List Nat) (a:Act) (L:Nat->Loc) (σ:List zh) (w:World) (K:zar->List zh->Prop) (next:Act->World->Prop):Prop:=
 ∀ fr' L' σ' a' w',zdz L σ w L' σ' w' → Sim L' σ' w' → FR w' L' σ' fr' a'.tmps->a'.defers=a.defers->zie A a a' → K fr' σ' → next a' w'
theorem FR.aput {w:World} {L:Nat->Loc} {σ:List zh} {fr:zar} {a:Act} (h:FR w L σ fr a.tmps) {x:AV} {v:Value} (hv:RV w L σ x v) {dst:Option Nat} (hd:∀ d,dst=some d->d<a.tmps.size):FR w L σ (aput fr dst x) (a.put dst v).tmps:=by
 cases dst with
 | none=>exact h
 | some d=>exact h.put (hd d rfl) hv
theorem zwN (a:Act) (dst:Option Nat) (v:Value):(a.put dst v).defers=a.defers:=by cases dst<;>rfl
theorem aop_sound {ops:Array Oper} {i:Nat} {x:Ai} {o:Oper} {fr:zar} {σ:List zh} {L:Nat->Loc} {w:World} {a:Act} {K:zar->List zh->Prop} {next:Act->World->Prop} {Q:Exit->Act->World->Prop}
  (ho:ops[i]? = some o) (hc:zvk P ops o=some x.norm) (S:Sim L σ w) (F:FR w L σ fr a.tmps) (h:aop P x fr σ K) (hdst:∀ d,x.dst=some d->d<a.tmps.size) (hk:Then x.dst.toList a L σ w K next):wpOp P ops Q i next a w:=by
 unfold wpOp
 simp only [ho]
 simp only [zvk,Option.bind_eq_bind,Option.bind_eq_some_iff] at hc
 obtain ⟨i',hi,hc⟩:=hc
 have step1:∀ {K':AV->List zh->Prop},zbb P x.i fr σ (fun r σ'=>K (aput fr x.dst r) σ')->i' = x.i.norm->o.dst=x.dst->o.wp P a w next Q:=fun {K'} h1 e1 e2=>by
  subst e1
  refine astep_sound hi S F h1 fun r v L' σ' w' s S' hr hK => ?_
  rw [e2]
  exact hk _ L' σ' _ w' s S' ((s.fr F).aput hr hdst) (zwN _ _ _) (zie.put _ _ _) hK
 have skip1:o.dst=x.dst->K (aput fr x.dst (.tup [])) σ->next (a.put o.dst undef) w:=fun e2 hK=>by
  rw [e2]
  exact hk _ L σ _ w (zdz.refl _ _ _) S (F.aput (.tup [] [] rfl (by simp)) hdst) (zwN _ _ _) (zie.put _ _ _) hK
 split at hc
 ·rename_i hg
  simp only [Option.pure_def,Option.some.injEq] at hc
  have hx1:x.norm.g=none:=by rw [← hc]
  have hx2:i' = x.i.norm:=by have:=congrArg Ai.i hc;exact this
  have hx3:o.dst=x.dst:=by have:=congrArg Ai.dst hc;exact this
  have hxg:x.g=none:=hx1
  simp only [aop,hxg] at h
  rw [if_pos (by simp [Region.wanted,hg])]
  exact .inl (step1 (K':=fun _ _=>True) h hx2 hx3)
 ·rename_i j want hg
  simp only [Option.bind_eq_some_iff,Option.pure_def,Option.some.injEq] at hc
  obtain ⟨oj,hoj,d,hd,hc⟩:=hc
  have hx2:i' = x.i.norm:=by have:=congrArg Ai.i hc;exact this
  have hx3:o.dst=x.dst:=by have:=congrArg Ai.dst hc;exact this
  have hxg:x.g=some (d,want):=by have:=congrArg Ai.g hc;exact this.symm
  simp only [aop,hxg] at h
  have hyl:yielded ops a.tmps j=match a.tmps[d]? with|some (.bool b)=>some b|_=>none:=by
   simp only [yielded,hoj,hd,Option.bind_some];rfl
  have hw:Region.wanted o (yielded ops a.tmps)=(yielded ops a.tmps j==some want):=by simp [Region.wanted,hg]
  have hat:∀ {c},zha fr d=c->c≠.undef->∃ v,a.tmps[d]? = some v/\RV w L σ c v:=fun {c} hc hne=>by
   have hl:d<a.tmps.size:=by
    rcases Nat.lt_or_ge d a.tmps.size with h|h
    ·exact h
    ·exact absurd (hc.symm.trans (zuI (fun p hp e=>by have:=F.keys p hp;omega))) hne
   have hv:a.tmps[d]? = some a.tmps[d]:=Array.getElem?_eq_getElem _
   exact ⟨_,hv,hc▸F.at_ d _ hv⟩
  unfold zhS at h
  split at h
  ·rename_i b hfr
   obtain ⟨v,hv,hr⟩:=hat hfr (fun e=>by cases e)
   have hb:=hr.bool_inv
   subst hb
   rw [hw,hyl,hv]
   by_cases hbw:b=want
   ·subst hbw
    rw [if_pos (by simp)]
    exact .inl (step1 (K':=fun _ _=>True) (h.1 (by simp)) hx2 hx3)
   ·rw [if_neg (by simpa using hbw)]
    exact skip1 hx3 (h.2 (by simpa using hbw))
  ·rename_i hfr
   obtain ⟨v,hv,hr⟩:=hat hfr (fun e=>by cases e)
   have hb:=hr.nil_tup
   subst hb
   rw [hw,hyl,hv,if_neg (by simp)]
   exact skip1 hx3 h
  ·exact h.elim
theorem zxF {ops:Array Oper} {Q:Exit->Act->World->Prop}:∀ (l:List Ai) (s:Nat) (fr:zar) (σ:List zh) (L:Nat->Loc) (w:World) (a:Act) (K:zar->List zh->Prop),
  l.length+s=ops.size->(∀ (k:Nat) x,l[k]? = some x->∃ o,ops[s+k]? = some o/\zvk P ops o=some x.norm)->Sim L σ w->FR w L σ fr a.tmps->l.all (dstOk a.tmps.size)=true->aops P l fr σ K->Then (l.filterMap (·.dst)) a L σ w K (Q .normal)->wpOps P ops Q (List.range' s l.length) a w
 | [],s,fr, σ,L,w,a,K,_,_,S,F,_,h,hk=>by
  simp only [List.length_nil,List.range'_zero,wpOps]
  exact hk fr L σ a w (zdz.refl _ _ _) S F rfl (zie.refl _ _) h
 | x::l,s,fr, σ,L,w,a,K,hl,hx,S,F,hok,h,hk=>by
  simp only [List.all_cons,Bool.and_eq_true] at hok
  simp only [List.length_cons] at hl ⊢
  rw [List.range'_succ,wpOps_cons]
  obtain ⟨o,ho,hc⟩:=hx 0 x rfl
  refine aop_sound ho hc S F h (zyQ hok.1) fun fr' L' σ' a' w' st S' F' hd hag hK => ?_
  refine zxF l (s+1) fr' σ' L' w' a' K (by omega) (fun k y hy => ?_) S' F' (by rw [hag.1];exact hok.2) hK fun fr2 L2 σ2 a2 w2 st2 S2 F2 hd2 hag2 hK2=>hk fr2 L2 σ2 a2 w2 (st.trans st2) S2 F2 (hd2.trans hd) ((hag.trans hag2).mono fun i hi=>by
   cases hx':x.dst<;>simp_all) hK2
  obtain ⟨o',ho',hc'⟩:=hx (k+1) y hy
  exact ⟨o',by rw [← ho'];congr 1;omega,hc'⟩
theorem ready_eq {ops:Array Oper} {after:List (List Nat)} (ha:after=ops.toList.map deps) (listed:Array Bool) (l':List Bool) (hl:l' = listed.toList) :
  zkn after l' = Region.ready .any ops listed:=by
 subst ha hl
 unfold zkn Region.ready
 simp only [List.length_map,Array.length_toList]
 apply List.filter_congr
 intro i hi
 have hi':i<ops.size:=List.mem_range.1 hi
 have e1:listed.toList.getD i true=listed.getD i true:=by simp [List.getD,Array.getD,Array.getElem?_toList];split<;>simp_all
 rw [e1]
 congr 1
 have e2:(ops.toList.map deps).getD i []=deps ops[i]:=by simp [List.getD,hi']
 rw [e2]
 simp only [Array.getElem?_eq_getElem hi',Option.map_some,Option.getD_some,deps]
 have key:∀ k,listed.toList.getD k false=listed.getD k false:=fun k=>by simp [List.getD,Array.getD,Array.getElem?_toList];split<;>simp_all
 rw [Bool.eq_iff_iff]
 simp only [List.all_eq_true,List.mem_map,List.mem_filter,Array.all_eq_true',Bool.or_eq_true,Bool.not_eq_true',key]
 constructor
 ·intro h e he
  by_cases hb:Region.binds .any e=true
  ·exact .inr (h e.on ⟨e,⟨by simpa using he,hb⟩,rfl⟩)
  ·left;simpa using hb
 ·rintro h x ⟨e,⟨he,hb⟩,rfl⟩
  rcases h e (by simpa using he) with h1|h1
  ·rw [hb] at h1;cases h1
  ·exact h1
theorem zxG {ops:Array Oper} {Q:Exit->Act->World->Prop} {l:List Ai} {after:List (List Nat)} (ha:after=ops.toList.map deps) (hl:l.length=ops.size)
  (hx:∀ (k:Nat) x,l[k]? = some x->∃ o,ops[k]? = some o/\zvk P ops o=some x.norm):∀ (n:Nat) (listed:Array Bool) (l':List Bool) (fr:zar) (σ:List zh) (L:Nat->Loc) (w:World) (a:Act) (K:zar->List zh->Prop),
  l' = listed.toList->Sim L σ w->FR w L σ fr a.tmps->l.all (dstOk a.tmps.size)=true->aany P l after K n l' fr σ->Then (l.filterMap (·.dst)) a L σ w K (Q .normal)->wpAny P .any ops Q n listed a w
 | 0,listed,l',fr, σ,L,w,a,K,e,S,F,_,h,hk=>by
  have hr:=ready_eq ha listed l' e
  exact ⟨by rw [← hr];exact h.1,hk fr L σ a w (zdz.refl _ _ _) S F rfl (zie.refl _ _) h.2⟩
 | n+1,listed,l',fr, σ,L,w,a,K,e,S,F,hok,h,hk=>by
  have hr:=ready_eq ha listed l' e
  refine ⟨fun h0=>hk fr L σ a w (zdz.refl _ _ _) S F rfl (zie.refl _ _) (h.1 (by rw [hr];exact h0)),fun i hi => ?_⟩
  have h2:=h.2 i (by rw [hr];exact hi)
  split at h2
  ·rename_i x hxi
   obtain ⟨o,ho,hc⟩:=hx i x hxi
   refine aop_sound ho hc S F h2 (zyQ (List.all_eq_true.1 hok x (List.mem_of_getElem? hxi))) fun fr' L' σ' a' w' st S' F' hd hag hK => ?_
   exact zxG ha hl hx n (listed.setIfInBounds i true) (l'.set i true) fr' σ' L' w' a' K (by rw [e];simp) S' F' (by rw [hag.1];exact hok) hK fun fr2 L2 σ2 a2 w2 st2 S2 F2 hd2 hag2 hK2=>hk fr2 L2 σ2 a2 w2 (st.trans st2) S2 F2 (hd2.trans hd) ((hag.trans hag2).mono fun j hj=>by
    rcases List.mem_append.1 hj with h|h
    ·exact List.mem_filterMap.2 ⟨x,List.mem_of_getElem? hxi,by simpa using h⟩
    ·exact h) hK2
  ·exact h2.elim
structure zlH (A:List Nat) (a0:Act) (L:Nat->Loc) (σ:List zh) (w:World) (Q:zar->List zh->Prop) (a:Act) (w':World):Prop where
 ex:∃ L' σ' fr',zdz L σ w L' σ' w' ∧ Sim L' σ' w' ∧ FR w' L' σ' fr' a.tmps/\a.defers = []/\zie A a0 a/\Q fr' σ'
def lift (A:List Nat) (a0:Act) (L:Nat->Loc) (σ:List zh) (w:World) (Q:Ex->zar->List zh->Prop):Exit->Act->World->Prop
 | .normal,a,w'=>zlH A a0 L σ w (Q .normal) a w'
 | .exit id,a,w'=>zlH A a0 L σ w (Q (.exit id)) a w'
 | .ret,a,w'=>zlH A a0 L σ w (Q .ret) a w'
 | _,_,_=>False
theorem zlH.widen {A B:List Nat} {a0 a1:Act} {L L1:Nat->Loc} {σ σ1:List zh} {w w1:World} {Q:zar->List zh->Prop} {a:Act} {w':World} (st:zdz L σ w L1 σ1 w1) (hag:zie A a0 a1) (h:zlH B a1 L1 σ1 w1 Q a w'):zlH (A++B) a0 L σ w Q a w':=by
 obtain ⟨L', σ',fr',s,S,F,hd,hg,hq⟩:=h
 exact ⟨L', σ',fr',st.trans s,S,F,hd,hag.trans hg,hq⟩
theorem zlH.more {A B:List Nat} {a0:Act} {L:Nat->Loc} {σ:List zh} {w:World} {Q:zar->List zh->Prop} {a:Act} {w':World} (h:zlH A a0 L σ w Q a w') (hs:∀ i∈A,i∈B):zlH B a0 L σ w Q a w':=by
 obtain ⟨L', σ',fr',s,S,F,hd,hg,hq⟩:=h
 exact ⟨L', σ',fr',s,S,F,hd,hg.mono hs,hq⟩
theorem mapO {ops:Array Oper} {l:List Ai} (h:ops.toList.mapM (zvk P ops)=some (l.map Ai.norm)):l.length=ops.size/\∀ (k:Nat) x,l[k]? = some x->∃ o,ops[k]? = some o/\zvk P ops o=some x.norm:=by
 obtain ⟨h1,h2⟩:=mapM_some h
 have hl:l.length=ops.size:=by simpa using h1
 refine ⟨hl,fun k x hk => ?_⟩
 have hlt:=zq hk
 have ho:ops[k]? = some (ops[k]'(by omega)):=Array.getElem?_eq_getElem _
 exact ⟨_,ho,h2 k _ x.norm (by simpa using ho) (by simp [hk])⟩
theorem getS_kill:∀ (dd:List Nat) (fr:zar) (i:Nat),zha (kill fr dd) i=if i∈dd then .undef else zha fr i
 | [],fr,i=>by simp [kill]
 | j::dd,fr,i=>by
  simp only [kill]
  rw [getS_kill dd _ i,zlb]
  by_cases h1:i∈dd
  ·simp [h1]
  ·by_cases h2:i=j<;>simp [h1,h2]
theorem keys_kill:∀ (dd:List Nat) (fr:zar) {n:Nat},(∀ p∈fr,p.1<n)->(∀ i∈dd,i<n)->∀ p∈kill fr dd,p.1<n
 | [],fr,n,h,_=>h
 | j::dd,fr,n,h,hd=>keys_kill dd _ (fun p hp=>by
   rcases List.mem_cons.1 hp with rfl|hp
   ·exact hd j (by simp)
   ·exact h p hp) (fun i hi=>hd i (by simp [hi]))
theorem zuE:∀ (lv:List Nat) (fr:zar) (vs:List AV) {n:Nat},(∀ p∈fr,p.1<n)->(∀ i∈lv,i<n)->∀ p∈setS fr lv vs,p.1<n
 | [],fr,_,n,h,_=>h
 | j::lv,fr,vs,n,h,hd=>zuE lv _ _ (fun p hp=>by
   rcases List.mem_cons.1 hp with rfl|hp
   ·exact hd j (by simp)
   ·exact h p hp) (fun i hi=>hd i (by simp [hi]))
theorem zqK (g:Nat->AV):∀ (lv:List Nat) (fr:zar) (i:Nat),zha (setS fr lv (lv.map g)) i=if i∈lv then g i else zha fr i
 | [],fr,i=>by simp [setS]
 | j::lv,fr,i=>by
  simp only [List.map_cons,setS,List.drop_succ_cons,List.drop_zero]
  rw [zqK g lv _ i,zlb]
  by_cases h1:i∈lv
  ·simp [h1]
  ·by_cases h2:i=j
   ·subst h2;simp [h1,List.getD]
   ·simp [h1,h2]
theorem FR.head {w:World} {L:Nat->Loc} {σ:List zh} {fr fr':zar} {a a':Act} {A lv dd:List Nat} (F:FR w L σ fr a.tmps) (F':FR w L σ fr' a'.tmps) (hag:zie A a a') (hA:∀ i∈A,i∈lv∨i∈dd)
  (h1:∀ i∈lv,i<a.tmps.size) (h2:∀ i∈dd,i<a.tmps.size):FR w L σ (setS (kill fr dd) lv (lv.map (zha fr'))) a'.tmps:=by
 refine ⟨fun i v hv => ?_,by rw [hag.1];exact zuE lv _ _ (keys_kill dd _ F.keys h2) h1⟩
 rw [zqK,getS_kill]
 split
 ·exact F'.at_ i v hv
 ·rename_i hi
  split
  ·exact .undef v
  ·rename_i hd
   have hA':i ∉ A:=fun h=>(hA i h).elim hi hd
   rw [hag.2 i hA'] at hv
   exact F.at_ i v hv
theorem zkK {vs vs':List AV} {σ σ':List zh} (hw:zqe vs σ vs' σ'):∀ {L:Nat->Loc} {w:World} {us:List Value},Sim L σ w->RVs w L σ vs us->∃ L',zdz L σ w L' σ' w/\Sim L' σ' w/\RVs w L' σ' vs' us:=by
 have setv:∀ {L:Nat->Loc} {w:World} {σ:List zh} {vs:List AV} {us:List Value} {i:Nat} {a:AV},RVs w L σ vs us->(∀ u,us[i]? = some u->RV w L σ a u)->RVs w L σ (vs.set i a) us:=fun {L w σ vs us i a} h ha=>by
  refine ⟨by rw [List.length_set];exact h.1,fun j c u hc hu => ?_⟩
  rw [List.getElem?_set] at hc
  split at hc
  ·rename_i e;subst e
   split at hc
   ·cases hc;exact ha u hu
   ·cases hc
  ·exact h.2 j c u hc hu
 induction hw with
 | refl vs σ=>intro L w us S hv;exact ⟨L,zdz.refl _ _ _,S,hv⟩
 | tok i es sz hi hes _ ih=>
  rename_i vs σ vs' σ'
  intro L w us S hv
  have hlt:=zq hi
  have hu:us[i]? = some (us[i]'(by rw [hv.1];exact hlt)):=List.getElem?_eq_getElem _
  obtain ⟨a,hv',hrd,ha,hs⟩:=zld (hv.2 i _ _ hi hu)
  obtain ⟨st,S2⟩:=add_tok S sz es.length a ha hs
  obtain ⟨L',s',S',h'⟩:=ih S2 (setv ⟨hv.1,fun j c u hc hu=>st.rv (hv.2 j c u hc hu)⟩ fun u hu'=>by
   rw [hu] at hu';cases hu'
   refine .own _ _ _ sz es.length (by simp) (Nat.le_refl _) hes (st.rd hrd) fun _ => ?_
   rw [hv',zam]
   cases a<;>rfl)
  exact ⟨L',st.trans s',S',h'⟩
 | row i sz hi hsz _ ih=>
  rename_i vs σ vs' σ'
  intro L w us S hv
  have hlt:=zq hi
  have hu:us[i]? = some (us[i]'(by rw [hv.1];exact hlt)):=List.getElem?_eq_getElem _
  obtain ⟨a,hv',hrd,ha,hs⟩:=zld (hv.2 i _ _ hi hu)
  obtain ⟨st,S2,hr⟩:=add_row S sz hsz a
  obtain ⟨L',s',S',h'⟩:=ih S2 (setv ⟨hv.1,fun j c u hc hu=>st.rv (hv.2 j c u hc hu)⟩ fun u hu'=>by
   rw [hu] at hu';cases hu'
   rw [hv'];exact hr)
  exact ⟨L',st.trans s',S',h'⟩
 | tokB id j cs es sz hid hj hes _ ih=>
  rename_i vs σ vs' σ'
  intro L w us S hv
  obtain ⟨L1,st,S1⟩:=box_tok S hid hj sz hes
  obtain ⟨L',s',S',h'⟩:=ih S1 ⟨hv.1,fun j c u hc hu=>st.rv (hv.2 j c u hc hu)⟩
  exact ⟨L',st.trans s',S',h'⟩
 | rowB id j cs sz hid hj hsz _ ih=>
  rename_i vs σ vs' σ'
  intro L w us S hv
  obtain ⟨L1,st,S1⟩:=box_row S hid hj sz hsz
  obtain ⟨L',s',S',h'⟩:=ih S1 ⟨hv.1,fun j c u hc hu=>st.rv (hv.2 j c u hc hu)⟩
  exact ⟨L',st.trans s',S',h'⟩
 | cut i t g sz lo hi cs hi' ht _ ih=>
  rename_i vs σ vs' σ'
  intro L w us S hv
  have hlt:=zq hi'
  have hu:us[i]? = some (us[i]'(by rw [hv.1];exact hlt)):=List.getElem?_eq_getElem _
  obtain ⟨st,S1,hr⟩:=row_cut S ht (hv.2 i _ _ hi' hu)
  obtain ⟨L',s',S',h'⟩:=ih S1 (setv ⟨hv.1,fun j c u hc hu=>st.rv (hv.2 j c u hc hu)⟩ fun u hu'=>by
   rw [hu] at hu';cases hu'
   exact hr)
  exact ⟨L',st.trans s',S',h'⟩
 | data i c es hi hc _ ih=>
  rename_i vs σ vs' σ'
  intro L w us S hv
  have hlt:=zq hi
  have hu:us[i]? = some (us[i]'(by rw [hv.1];exact hlt)):=List.getElem?_eq_getElem _
  have hrd:=(hv.2 i _ _ hi hu).esOf_inv hc
  exact ih S (setv hv fun u hu'=>by rw [hu] at hu';cases hu';exact .d _ _ hrd)
 | dataB id j cs c es hid hj hc _ ih=>
  rename_i vs σ vs' σ'
  intro L w us S hv
  obtain ⟨_,_,hcells⟩:=S.obj id _ hid
  obtain ⟨_,u,hu,hr⟩:=hcells j _ hj
  obtain ⟨st,S1⟩:=box_retell' S hid hj (c' := .d (.slice es)) (fun v hv=>by
   rw [hu] at hv;cases hv
   exact .d _ _ (hr.esOf_inv hc))
  obtain ⟨L',s',S',h'⟩:=ih S1 ⟨hv.1,fun j c u hc hu=>st.rv (hv.2 j c u hc hu)⟩
  exact ⟨L',st.trans s',S',h'⟩
 | dataR t j g sz cs c es ht hj hc _ ih=>
  rename_i vs σ vs' σ'
  intro L w us S hv
  obtain ⟨st,S1⟩:=row_retell S ht hj (c' := .d (.slice es)) rfl (fun v hv => .d _ _ (hv.esOf_inv hc))
  obtain ⟨L',s',S',h'⟩:=ih S1 ⟨hv.1,fun j c u hc hu=>st.rv (hv.2 j c u hc hu)⟩
  exact ⟨L',st.trans s',S',h'⟩
theorem nodup_fun:∀ {lv:List Nat} {vs:List AV},lv.Nodup->vs.length=lv.length->∃ g:Nat->AV,lv.map g=vs
 | [],vs,_,h=>⟨fun _ => .undef,by rw [List.eq_nil_of_length_eq_zero (l:=vs) (by simpa using h)];rfl⟩
 | i::lv,[],_,h=>by simp at h
 | i::lv,v::vs,hn,h=>by
  rw [List.nodup_cons] at hn
  obtain ⟨g,hg⟩:=nodup_fun hn.2 (vs:=vs) (by simpa using h)
  refine ⟨fun k=>if k=i then v else g k,?_⟩
  simp only [List.map_cons,if_true,List.cons.injEq,true_and]
  rw [← hg]
  exact List.map_congr_left fun k hk=>by rw [if_neg (fun e:k=i=>hn.1 (e▸hk))]
theorem FR.retold {w:World} {L L':Nat->Loc} {σ σ':List zh} {fr:zar} {ts:Array Value} (F:FR w L σ fr ts) (s:zdz L σ w L' σ' w) {lv:List Nat} (hn:lv.Nodup) (hlt:∀ i∈lv,i<ts.size) {vs':List AV} (hv:RVs w L' σ' vs' (lv.map fun i=>ts.getD i undef)) :
  ∃ fr',FR w L' σ' fr' ts/\lv.map (zha fr')=vs':=by
 obtain ⟨g,rfl⟩:=nodup_fun (vs:=vs') hn (by have:=hv.1;simpa using this.symm)
 refine ⟨setS fr lv (lv.map g),⟨fun i v hi => ?_,zuE lv _ _ F.keys hlt⟩,List.map_congr_left fun i hi=>by rw [zqK,if_pos hi]⟩
 rw [zqK]
 split
 ·rename_i hm
  obtain ⟨k,hk⟩:=List.mem_iff_getElem?.1 hm
  refine hv.2 k (g i) v (by simp [hk]) ?_
  simp only [List.getElem?_map,hk,Option.map_some,Option.some.injEq]
  have:=(Array.getElem?_eq_some_iff.1 hi).1
  rw [Array.getElem?_eq_getElem this] at hi
  simp [Array.getD,this]
  exact Option.some.inj hi
 ·exact s.rv (F.at_ i v hi)
theorem awp_sound (hP:P.follows .mixedOrders=true):∀ (c:Code) (ac:AC) (Q:Ex->zar->List zh->Prop) (fr:zar) (σ:List zh) (L:Nat->Loc) (w:World) (a:Act),
  znJ P c=some ac.norm->ac.ok a.tmps.size=true->awp P ac Q fr σ->Sim L σ w->FR w L σ fr a.tmps->a.defers = []->c.wp P (lift (asg ac) a L σ w Q) a w:=by
 intro c
 induction c with
 | skip=>
  intro ac Q fr σ L w a hc hok h S F hd
  simp only [znJ,Option.some.injEq] at hc
  cases ac<;>simp only [AC.norm] at hc<;>cases hc
  exact wp_skip ⟨L, σ,fr,zdz.refl _ _ _,S,F,hd,zie.refl _ _,h⟩
 | region id ops draw=>
  intro ac Q fr σ L w a hc hok h S F hd
  cases draw
  ·simp only [znJ,Option.bind_eq_bind,Option.bind_eq_some_iff,Option.pure_def,Option.some.injEq] at hc
   obtain ⟨l',hl',hc⟩:=hc
   cases ac<;>simp only [AC.norm] at hc<;>cases hc
   rename_i l
   obtain ⟨hl,hx⟩:=mapO hl'
   refine wp_region ?_
   rw [List.range_eq_range', ← hl]
   exact zxF l 0 fr σ L w a (Q .normal) (by omega) (fun k x hk=>by rw [Nat.zero_add];exact hx k x hk) S F hok h fun fr' L' σ' a' w' st S' F' hd' hag hK=>⟨L', σ',fr',st,S',F',hd'.trans hd,hag,hK⟩
  ·simp only [znJ,Option.bind_eq_bind,Option.bind_eq_some_iff,Option.pure_def,Option.some.injEq] at hc
   obtain ⟨l',hl',hc⟩:=hc
   cases ac<;>simp only [AC.norm] at hc<;>cases hc
   rename_i l lin cl
   obtain ⟨hl,hx⟩:=mapO hl'
   obtain ⟨S1,s1⟩:=S.drew (w.drawn+1)
   refine wp_region_any hP ?_
   simp only [awp] at h
   have h2:aany P l (ops.toList.map deps) (fun f s => ∃ f0,FEq f0 f/\keysLt a.tmps.size f0/\Q .normal f0 s) (ops.toList.map deps).length (List.replicate (ops.toList.map deps).length false) fr σ:=by
    have hkey:∀ x∈l, ∀ d,x.dst=some d->d<a.tmps.size:=fun x hxl d hd=>zyQ (List.all_eq_true.1 hok x hxl) d hd
    have hFE:FE fun f s => ∃ f0,FEq f0 f/\keysLt a.tmps.size f0/\Q .normal f0 s:=fun f f' s he hh=>by
     obtain ⟨f0,e,hh⟩:=hh
     exact ⟨f0,fun i=>(e i).trans (he i),hh⟩
    split at h
    ·rename_i hlin
     have h1:=zlr (n:=a.tmps.size) hkey lin fr σ F.keys h
     exact linOk_any hlin hFE (zlq (fun f s hh=>⟨f,fun _=>rfl,hh⟩) lin fr σ h1)
    ·split at h
     ·rename_i hlin
      refine twoOk_any hlin hFE (zlq (fun f s hh => ?_) _ fr σ (zlr (n:=a.tmps.size) hkey _ fr σ F.keys h))
      obtain ⟨hf,hA,hB⟩:=hh
      exact ⟨zlq (fun f s hh=>⟨f,fun _=>rfl,hh⟩) _ f s (zlr (n:=a.tmps.size) hkey _ f s hf hA),zlq (fun f s hh=>⟨f,fun _=>rfl,hh⟩) _ f s (zlr (n:=a.tmps.size) hkey _ f s hf hB)⟩
     ·exact h.elim
   simp only [List.length_map,Array.length_toList] at h2
   exact zxG rfl hl hx ops.size _ _ fr σ L _ a _ (by simp) S1 (s1.fr F) hok h2 fun fr' L' σ' a' w' st S' F' hd' hag hK=>by
    obtain ⟨f0,e,hk0,hq⟩:=hK
    exact ⟨L', σ',f0,s1.trans st,S',⟨fun i v hv=>(by rw [e i];exact F'.at_ i v hv),(by rw [hag.1];exact hk0)⟩,hd'.trans hd,hag,hq⟩
 | seq x y ihx ihy=>
  intro ac Q fr σ L w a hc hok h S F hd
  simp only [znJ,Option.bind_eq_bind,Option.bind_eq_some_iff,Option.pure_def,Option.some.injEq] at hc
  obtain ⟨x',hx,y',hy,hc⟩:=hc
  cases ac<;>simp only [AC.norm] at hc<;>cases hc
  rename_i ax ay
  simp only [AC.ok,Bool.and_eq_true] at hok
  refine wp_seq (wp_mono (ihx ax _ fr σ L w a hx hok.1 h S F hd) fun e a' w' he => ?_)
  cases e with
  | normal=>
   obtain ⟨L', σ',fr',st,S',F',hd',hag,hq⟩:=he
   refine wp_mono (ihy ay Q fr' σ' L' w' a' hy (by rw [hag.1];exact hok.2) hq S' F' hd') fun e2 a2 w2 he2 => ?_
   cases e2 with
   | normal=>exact zlH.widen st hag he2
   | exit id=>exact zlH.widen st hag he2
   | ret=>exact zlH.widen st hag he2
   | goto l=>exact he2
   | panic ch=>exact he2
   | outgrown=>exact he2.elim
  | exit id=>exact zlH.more he (fun i hi=>List.mem_append_left _ hi)
  | ret=>exact zlH.more he (fun i hi=>List.mem_append_left _ hi)
  | goto l=>exact he
  | panic ch=>exact he
  | outgrown=>exact he.elim
 | cond c x y ihx ihy=>
  intro ac Q fr σ L w a hc hok h S F hd
  simp only [znJ,Option.bind_eq_bind,Option.bind_eq_some_iff,Option.pure_def,Option.some.injEq] at hc
  obtain ⟨c',hcc,x',hx,y',hy,hc⟩:=hc
  cases ac<;>simp only [AC.norm] at hc<;>cases hc
  rename_i ax ay
  simp only [AC.ok,Bool.and_eq_true] at hok
  simp only [awp,zj] at h
  have hv:=zac F hcc
  have wide:∀ {B:List Nat},(∀ i∈B,i∈asg ax++asg ay)->∀ e a' w',lift B a L σ w Q e a' w' → lift (asg (.cond c' ax ay)) a L σ w Q e a' w':=fun {B} hs e a' w' he=>by
   cases e with
   | normal=>exact zlH.more he hs
   | exit id=>exact zlH.more he hs
   | ret=>exact zlH.more he hs
   | goto l=>exact he
   | panic ch=>exact he
   | outgrown=>exact he.elim
  split at h
  ·rename_i t ht
   rw [ht] at hv
   exact wp_cond_split hv.bool_inv (fun e=>wp_mono (ihx ax Q fr σ L w a hx hok.1 (h.1 e) S F hd) (wide fun i hi=>List.mem_append_left _ hi)) (fun e=>wp_mono (ihy ay Q fr σ L w a hy hok.2 (h.2 e) S F hd) (wide fun i hi=>List.mem_append_right _ hi))
  ·exact h.elim
 | block id x ihx=>
  intro ac Q fr σ L w a hc hok h S F hd
  simp only [znJ,Option.bind_eq_bind,Option.bind_eq_some_iff,Option.pure_def,Option.some.injEq] at hc
  obtain ⟨x',hx,hc⟩:=hc
  cases ac<;>simp only [AC.norm] at hc<;>cases hc
  rename_i ax
  refine wp_block (wp_mono (ihx ax _ fr σ L w a hx hok h S F hd) fun e a' w' he => ?_)
  cases e with
  | normal=>exact he
  | exit id'=>
   obtain ⟨L', σ',fr',st,S',F',hd',hag,hq⟩:=he
   simp only [Exit.inBlock]
   dsimp only at hq
   split
   ·rename_i hid;rw [if_pos hid] at hq;exact ⟨L', σ',fr',st,S',F',hd',hag,hq⟩
   ·rename_i hid;rw [if_neg hid] at hq;exact ⟨L', σ',fr',st,S',F',hd',hag,hq⟩
  | ret=>exact he
  | goto l=>exact he
  | panic ch=>exact he
  | outgrown=>exact he.elim
 | loop x ihx=>
  intro ac Q fr σ L w a hc hok h S F hd
  simp only [znJ,Option.bind_eq_bind,Option.bind_eq_some_iff,Option.pure_def,Option.some.injEq] at hc
  obtain ⟨x',hx,hc⟩:=hc
  cases ac<;>simp only [AC.norm] at hc<;>cases hc
  rename_i lv dd ax
  simp only [AC.ok,Bool.and_eq_true,List.all_eq_true,Bool.or_eq_true,List.contains_iff_mem,Nat.blt_eq] at hok
  obtain ⟨⟨⟨⟨hok,hnd⟩,hlv⟩,hdd⟩,hmem⟩:=hok
  obtain ⟨I,n₀,⟨vs0,s0,hweak,h0⟩,hround⟩:=h
  obtain ⟨L0,st0,S0,hv0⟩:=zkK hweak S (us:=lv.map fun i=>a.tmps.getD i undef) ⟨by simp,fun k c u hc hu=>by
   simp only [List.getElem?_map,Option.map_eq_some_iff] at hc hu
   obtain ⟨i,hi,rfl⟩:=hc
   obtain ⟨j,hj,rfl⟩:=hu
   rw [hi] at hj;cases hj
   exact F.at' i⟩
  obtain ⟨fr0,F0,hvs0⟩:=F.retold st0 (zwQ hnd) hlv hv0
  rw [← hvs0] at h0
  refine wp_loop_ghost (fun n a' w' => ∃ L' σ' fr',zdz L σ w L' σ' w' ∧ Sim L' σ' w' ∧ FR w' L' σ' fr' a'.tmps/\a'.defers = []/\zie (asg ax) a a' ∧ I n (lv.map (zha fr')) σ') n₀ ⟨L0,s0,fr0,st0,S0,F0,hd,zie.refl _ _,h0⟩ ?_
  rintro n a' w' ⟨L', σ',fr',st,S',F',hd',hag,hI⟩
  have Fh:=FR.head (st.fr F) F' hag hmem hlv hdd
  refine wp_mono (ihx ax _ _ σ' L' w' a' hx (by rw [hag.1];exact hok) (hround n _ σ' hI) S' Fh hd') fun e a2 w2 he => ?_
  have wide:∀ {Q':zar->List zh->Prop},zlH (asg ax) a' L' σ' w' Q' a2 w2->zlH (asg ax) a L σ w Q' a2 w2:=fun hh=>(zlH.widen st hag hh).more fun i hi=>by
   rcases List.mem_append.1 hi with h|h<;>exact h
  cases e with
  | normal=>
   obtain ⟨L2, σ2,fr2,st2,S2,F2,hd2,hag2,n',hlt,hI2⟩:=he
   have hagA:zie (asg ax) a a2:=(hag.trans hag2).mono fun i hi=>by rcases List.mem_append.1 hi with h|h<;>exact h
   exact ⟨n',hlt,L2, σ2,fr2,st.trans st2,S2,F2,hd2,hagA,hI2⟩
  | exit id=>exact wide he
  | ret=>exact wide he
  | goto l=>exact he
  | panic ch=>exact he
  | outgrown=>exact he.elim
 | exit id=>
  intro ac Q fr σ L w a hc hok h S F hd
  simp only [znJ,Option.some.injEq] at hc
  cases ac<;>simp only [AC.norm] at hc<;>cases hc
  exact wp_exit ⟨L, σ,fr,zdz.refl _ _ _,S,F,hd,zie.refl _ _,h⟩
 | ret=>
  intro ac Q fr σ L w a hc hok h S F hd
  simp only [znJ,Option.some.injEq] at hc
  cases ac<;>simp only [AC.norm] at hc<;>cases hc
  exact wp_ret ⟨L, σ,fr,zdz.refl _ _ _,S,F,hd,zie.refl _ _,h⟩
 | rangeFunc f ps as0 b=>intro ac Q fr σ L w a hc;simp [znJ] at hc
 | scope b=>intro ac Q fr σ L w a hc;simp [znJ] at hc
 | label l=>intro ac Q fr σ L w a hc;simp [znJ] at hc
 | goto l=>intro ac Q fr σ L w a hc;simp [znJ] at hc
 | refuse why=>intro ac Q fr σ L w a hc;simp [znJ] at hc
end
section
variable {P:Program} {w:World} {L:Nat->Loc} {σ:List zh}
inductive RI where
 | tmp (t:Nat)
 | cell (t:Nat) (agg:Bool) (n:Nat)
def riOk (P:Program) (r:ResultVar):Option RI:=
 match r with
 | .tmp t=>some (.tmp t)
 | .cell t ty=>do pure (.cell t (← zvG P ty) (← sizeOf? P ty))
def zak (v:AV) (σ:List zh) (g:Bool) (n:Nat):Option AV:=
 match v with
 | .box id off=>
  match σ[id]? with
  | some (.box cs)=>if g then (if off+n<=cs.length then some (.agg ((cs.drop off).take n)) else none) else cs[off]?
  | _=>none
 | _=>none
def zG (a:Option AV) (l:Option (List AV)):Option (List AV):=match a,l with|some a,some l=>some (a::l)|_,_=>none
def resA (fr:zar) (σ:List zh):RI->Option AV
 | .tmp t=>some (zha fr t)
 | .cell t g n=>zak (zha fr t) σ g n
def ztq (fr:zar) (σ:List zh):List RI->Option (List AV)
 | []=>some []
 | r::rs=>zG (resA fr σ r) (ztq fr σ rs)
def zcJ:List AV->AV
 | [a]=>a
 | l => .tup l
theorem load_box (S:Sim L σ w) {id off:Nat} {cs:List AV} (hcs : σ[id]? = some (.box cs)) {t:TypeId} {g:Bool} {n:Nat} (hg:zvG P t=some g) (hn:sizeOf? P t=some n) {r:AV}
  (hr:(if g then (if off+n<=cs.length then some (.agg ((cs.drop off).take n)) else none) else cs[off]?)=some r) :
  ∃ v,(loadVar t ⟨(L id).a.block,(L id).a.off+off,none⟩).run P w = .ok v w/\RV w L σ r v:=by
 obtain ⟨_,_,hcells⟩:=S.obj id _ hcs
 cases g
 ·simp only [Bool.false_eq_true,if_false] at hr
  obtain ⟨_,v,h1,h2⟩:=hcells off r hr
  refine ⟨v,?_,h2⟩
  have:=zni (w:=w) hg hn (b:=(L id).a.block) (off:=(L id).a.off+off) (vs := [v]) (fun j u hj=>by cases j<;>simp at hj;subst hj;exact h1) (by simp) (by simp)
  simpa using this
 ·simp only [if_true] at hr
  split at hr
  ·rename_i hle
   cases hr
   obtain ⟨vs,hl,hat⟩:∃ vs:List Value,vs.length=n/\∀ (j:Nat) v,vs[j]? = some v->w.cell? ⟨(L id).a.block,(L id).a.off+off+j,none⟩=some v/\∀ c,cs[off+j]? = some c->RV w L σ c v:=by
    refine ⟨(List.range n).map fun j=>(w.cell? ⟨(L id).a.block,(L id).a.off+off+j,none⟩).getD undef,by simp,fun j v hj => ?_⟩
    have hjn:j<n:=by have:=zq hj;simpa using this
    simp [hjn] at hj
    have hc:cs[off+j]? = some (cs[off+j]'(by omega)):=List.getElem?_eq_getElem _
    obtain ⟨_,u,h1,h2⟩:=hcells (off+j) _ hc
    rw [← Nat.add_assoc] at h1
    rw [h1] at hj;simp at hj;subst hj
    exact ⟨h1,fun c hc'=>by rw [hc] at hc';cases hc';exact h2⟩
   refine ⟨.agg vs.toArray,?_,.agg _ _ (by simp;omega) fun j c v hc hv => ?_⟩
   ·have:=zni (w:=w) hg hn (b:=(L id).a.block) (off:=(L id).a.off+off) (vs:=vs) (fun j u hj=>(hat j u hj).1) (fun _=>hl) (by simp)
    simpa using this
   ·rw [List.getElem?_take] at hc
    split at hc
    ·rw [List.getElem?_drop] at hc;exact (hat j v hv).2 c hc
    ·cases hc
  ·cases hr
theorem zuo (S:Sim L σ w) {fr:zar} {ts:Array Value} (F:FR w L σ fr ts):∀ (rs:List ResultVar) (ris:List RI) (out:List AV),rs.mapM (riOk P)=some ris->ztq fr σ ris=some out →
  ∃ vs:List Value,(rs.mapM fun r=>(match r with|.tmp t=>pure (ts.getD t undef)|.cell a t=>do loadVar t (← asAddr (ts.getD a undef)):Sem Value)).run P w = .ok vs w/\RVs w L σ out vs
 | [],ris,out,h1,h2=>by
  simp at h1;subst h1
  simp [ztq] at h2;subst h2
  exact ⟨[],by simp,rfl,by simp⟩
 | r::rs,ris,out,h1,h2=>by
  simp only [List.mapM_cons,Option.bind_eq_bind,Option.bind_eq_some_iff,Option.pure_def,Option.some.injEq] at h1
  obtain ⟨ri,hri,ris',hris,rfl⟩:=h1
  simp only [ztq,zG] at h2
  split at h2
  ·rename_i x l hx hl
   cases h2
   obtain ⟨vs,hv,hr⟩:=zuo S F rs ris' l hris hl
   have hat:∀ (t:Nat),RV w L σ (zha fr t) (ts.getD t undef):=fun t=>F.at' t
   have one:∃ v,((match r with|.tmp t=>pure (ts.getD t undef)|.cell a t=>do loadVar t (← asAddr (ts.getD a undef)):Sem Value)).run P w = .ok v w/\RV w L σ x v:=by
    cases r with
    | tmp t=>
     simp [riOk] at hri;subst hri
     simp only [resA,Option.some.injEq] at hx
     exact ⟨ts.getD t undef,rfl,hx▸hat t⟩
    | cell t ty=>
     simp only [riOk,Option.bind_eq_bind,Option.bind_eq_some_iff,Option.pure_def,Option.some.injEq] at hri
     obtain ⟨g,hg,n,hn,rfl⟩:=hri
     simp only [resA,zak] at hx
     split at hx
     ·rename_i id off hid
      split at hx
      ·rename_i cs hcs
       have hat':=hat t
       rw [hid] at hat'
       obtain ⟨e1,_⟩:=hat'.box_inv
       obtain ⟨v,h3,h4⟩:=load_box S hcs hg hn hx
       exact ⟨v,by simp [e1,asAddr,h3],h4⟩
      ·cases hx
     ·cases hx
   obtain ⟨v,h3,h4⟩:=one
   refine ⟨v::vs,by simp only [List.mapM_cons,Sem.run_bind,h3,Result.andThen_ok,hv,Sem.run_pure],by simp [hr.1],fun i c u hc hu => ?_⟩
   cases i with
   | zero=>simp at hc hu;subst hc hu;exact h4
   | succ i=>simp at hc hu;exact hr.2 i c u hc hu
  ·cases h2
theorem zyo (S:Sim L σ w) {fn:Func} {fr:zar} {ts:Array Value} (F:FR w L σ fr ts) {ris:List RI} {out:List AV} (h1:fn.results.toList.mapM (riOk P)=some ris) (h2:ztq fr σ ris=some out) :
  ∃ v,(results fn ts).run P w = .ok v w/\RV w L σ (zcJ out) v:=by
 obtain ⟨vs,hv,hr⟩:=zuo S F _ _ _ h1 h2
 have hm:(fn.results.mapM fun r=>(match r with|.tmp t=>pure (ts.getD t undef)|.cell a t=>do loadVar t (← asAddr (ts.getD a undef)):Sem Value)).run P w = .ok vs.toArray w:=by
  rw [Array.mapM_eq_mapM_toList,Sem.run_map,hv];rfl
 have hlen:=hr.1
 have hres:(results fn ts).run P w = .ok (if h:vs.toArray.size=1 then vs.toArray[0] else .tuple vs.toArray) w:=by
  unfold results
  rw [Sem.run_bind]
  have e:(fn.results.mapM fun r=>(match r with|.tmp t=>pure (ts.getD t undef)|.cell a t=>do loadVar t (← asAddr (ts.getD a undef)):Sem Value))=(fn.results.mapM fun
   | .tmp t=>pure (ts.getD t undef)
   | .cell a t=>do loadVar t (← asAddr (ts.getD a undef))):=rfl
  refine (congrArg (fun x=>Result.andThen x _) hm).trans ?_
  rfl
 cases out with
 | nil=>
  have:vs = []:=by simpa using hlen
  subst this
  exact ⟨.tuple #[],hres,.tup [] [] rfl (by simp)⟩
 | cons a out=>
  cases out with
  | nil=>
   cases vs with
   | nil=>simp at hlen
   | cons v vs=>
    have:vs = []:=by simpa using hlen
    subst this
    exact ⟨v,hres,hr.2 0 a v rfl rfl⟩
  | cons b out=>
   refine ⟨.tuple vs.toArray,?_,.tup _ _ hr.1 hr.2⟩
   rw [hres,dif_neg (by simp at hlen ⊢;omega)]
inductive Low (n:Nat):AV->Prop
 | d (x):Low n (.d x)
 | agg (cs):(∀ c∈cs,Low n c)->Low n (.agg cs)
 | tup (cs):(∀ c∈cs,Low n c)->Low n (.tup cs)
 | own (t es):t<n->Low n (.own t es)
 | exact (es):Low n (.exact es)
 | bsl (id off len cap sz):id<n->Low n (.bsl id off len cap sz)
 | box (id off):id<n->Low n (.box id off)
 | vp (cs):Low n (.vp cs)
 | map (id):id<n->Low n (.map id)
 | iter (id):id<n->Low n (.iter id)
 | fn (f first cap):(∀ c∈first,Low n c)->(∀ c∈cap,Low n c)->Low n (.fn f first cap)
 | rsl (t g sz lo hi):t<n->Low n (.rsl t g sz lo hi)
 | rpt (t g off):t<n->Low n (.rpt t g off)
 | undef:Low n .undef
def zyf (n:Nat):zh->Prop
 | .box cs => ∀ c∈cs,Low n c
 | .map es => ∀ e∈es,Low n e.1/\Low n e.2
 | .row _ _ cs => ∀ c∈cs,Low n c
 | _=>True
def zgh (n:Nat) (σ:List zh):Prop := ∀ (id:Nat) x, σ[id]? = some x->zyf n x
theorem RV.low {x:AV} {v:Value} (h:RV w L σ x v):Low σ.length x:=by
 have lt:∀ {id},zqf σ id->id < σ.length:=fun ⟨_,h,_⟩=>zq h
 have all:∀ {cs:List AV} {vs:List Value},vs.length=cs.length->(∀ (i:Nat) c v,cs[i]? = some c->vs[i]? = some v->Low σ.length c)->∀ c∈cs,Low σ.length c:=fun {cs vs} hl h c hc=>by
  obtain ⟨i,hi⟩:=List.mem_iff_getElem?.1 hc
  have hlt:=zq hi
  exact h i c (vs[i]'(by omega)) hi (List.getElem?_eq_getElem _)
 induction h with
 | d=>exact .d _
 | agg cs vs hl _ ih=>exact .agg _ (all hl ih)
 | tup cs vs hl _ ih=>exact .tup _ (all hl ih)
 | own t es v sz n h=>exact .own _ _ (zq h)
 | exact=>exact .exact _
 | bsl _ _ _ _ _ h=>exact .bsl _ _ _ _ _ (lt h)
 | box _ _ h=>exact .box _ _ (lt h)
 | vp=>exact .vp _
 | map _ h=>exact .map _ (lt h)
 | iter _ h=>exact .iter _ (lt h)
 | fn f first cap fs cs h1 h2 _ _ ih1 ih2=>exact .fn _ _ _ (all h1 ih1) (all h2 ih2)
 | rsl t g sz lo hi a c h=>obtain ⟨_,h,_⟩:=h;exact .rsl _ _ _ _ _ (zq h)
 | rpt t g off b o h=>obtain ⟨_,h,_⟩:=h;exact .rpt _ _ _ (zq h)
 | undef=>exact .undef
theorem Sim.lows (S:Sim L σ w):zgh σ.length σ:=by
 intro id x hx
 cases x with
 | box cs=>
  intro c hc
  obtain ⟨j,hj⟩:=List.mem_iff_getElem?.1 hc
  obtain ⟨_,v,_,h⟩:=(S.obj id _ hx).2.2 j c hj
  exact h.low
 | map es=>
  intro e he
  obtain ⟨j,hj⟩:=List.mem_iff_getElem?.1 he
  obtain ⟨ms,clock,_,h2,h3⟩:=S.obj id _ hx
  have hlt:=zq hj
  have:=h3 j e (ms[j]'(by omega)) hj (by simp [h2,hlt])
  exact ⟨this.1.low,this.2.low⟩
 | row g sz cs=>
  intro c hc
  obtain ⟨j,hj⟩:=List.mem_iff_getElem?.1 hc
  obtain ⟨v,_,h⟩:=(S.obj id _ hx).2.2.2.2.2 j c hj
  exact h.low
 | _=>trivial
theorem zgh.set {n:Nat} (h:zgh n σ) {id:Nat} {x:zh} (hx:zyf n x):zgh n (σ.set id x):=by
 intro i y hy
 rcases zaD hy with ⟨rfl,rfl⟩|⟨_,hy⟩
 ·exact hx
 ·exact h i y hy
theorem zhM {O O':Nat->Nat->Prop} (ho:∀ b o,O' b o->O b o) {x:D} {v:Value} (h:RD w O x v):RD w O' x v:=h.mono (fun _ _ _ _=>rfl) (fun b o _=>ho b o)
theorem zqv {n:Nat} {b o:Nat} (h:Own L (σ.take n) b o):Own L σ b o:=by
 obtain ⟨id,x,hx,hf⟩:=h
 rw [List.getElem?_take] at hx
 split at hx
 ·exact ⟨id,x,hx,hf⟩
 ·cases hx
theorem RV.take {n:Nat} {x:AV} {v:Value} (h:RV w L σ x v) (hl:Low n x):RV w L (σ.take n) x v:=by
 have fx:∀ {id},zqf σ id->id<n->zqf (σ.take n) id:=fun {id} ⟨y,h,k⟩ hlt=>⟨y,by rw [List.getElem?_take,if_pos hlt];exact h,k⟩
 have rd:∀ {x:D} {v:Value},RD w (Own L σ) x v->RD w (Own L (σ.take n)) x v:=fun h=>zhM (fun _ _=>zqv) h
 induction h with
 | d _ _ h=>exact .d _ _ (rd h)
 | agg cs vs h1 h2 ih=>cases hl with|agg _ hl=>exact .agg _ _ h1 fun i c v hc hv=>ih i c v hc hv (hl c (List.mem_of_getElem? hc))
 | tup cs vs h1 h2 ih=>cases hl with|tup _ hl=>exact .tup _ _ h1 fun i c v hc hv=>ih i c v hc hv (hl c (List.mem_of_getElem? hc))
 | own t es v sz k h1 h2 h3 h4 h5=>cases hl with|own _ _ hl=>exact .own t es v sz k (by rw [List.getElem?_take,if_pos hl];exact h1) h2 h3 (rd h4) h5
 | exact es a h=>exact .exact _ _ (rd h)
 | bsl id off len cap sz h1 h2=>cases hl with|bsl _ _ _ _ _ hl=>exact .bsl _ _ _ _ _ (fx h1 hl) h2
 | box id off h1=>cases hl with|box _ _ hl=>exact .box _ _ (fx h1 hl)
 | vp cs b off h=>
  refine .vp _ _ _ fun j d hj => ?_
  obtain ⟨v,h1,h2,h3⟩:=h j d hj
  exact ⟨v,h1,fun h=>h2 (zqv h),rd h3⟩
 | map id h1=>cases hl with|map _ hl=>exact .map _ (fx h1 hl)
 | iter id h1=>cases hl with|iter _ hl=>exact .iter _ (fx h1 hl)
 | fn f first cap fs cs h1 h2 _ _ ih1 ih2=>
  cases hl with|fn _ _ _ hl1 hl2=>exact .fn _ _ _ _ _ h1 h2 (fun i c v hc hv=>ih1 i c v hc hv (hl1 c (List.mem_of_getElem? hc))) (fun i c v hc hv=>ih2 i c v hc hv (hl2 c (List.mem_of_getElem? hc)))
 | rsl t g sz lo hi a c h1 h2 h3 h4 h5 h6 h7=>
  cases hl with|rsl _ _ _ _ _ hl=>
  have e:(σ.take n)[t]? = σ[t]?:=by rw [List.getElem?_take,if_pos hl]
  exact .rsl _ _ _ _ _ _ _ (by obtain ⟨y,k1,k2⟩:=h1;exact ⟨y,by rw [e];exact k1,k2⟩) (by rw [e];exact h2) h3 h4 h5 h6 (by rw [e];exact h7)
 | rpt t g off b o h1 h2 h3=>
  cases hl with|rpt _ _ _ hl=>
  have e:(σ.take n)[t]? = σ[t]?:=by rw [List.getElem?_take,if_pos hl]
  exact .rpt _ _ _ _ _ (by obtain ⟨y,k1,k2⟩:=h1;exact ⟨y,by rw [e];exact k1,k2⟩) (by rw [e];exact h2) (by rw [e];exact h3)
 | undef v=>exact .undef v
theorem Sim.take (S:Sim L σ w) {n:Nat} (hl:zgh n (σ.take n)):Sim L (σ.take n) w:=by
 have get:∀ {id x},(σ.take n)[id]? = some x → σ[id]? = some x:=fun {id x} h=>by
  rw [List.getElem?_take] at h
  split at h
  ·exact h
  ·cases h
 refine ⟨fun id x hx => ?_,fun i j x y b o hij hx hy=>S.apart i j x y b o hij (get hx) (get hy)⟩
 have ho:=S.obj id x (get hx)
 cases x with
 | box cs=>
  obtain ⟨h1,h2,h3⟩:=ho
  refine ⟨h1,h2,fun j c hj => ?_⟩
  obtain ⟨h4,v,h5,h6⟩:=h3 j c hj
  exact ⟨h4,v,h5,h6.take (hl id _ hx c (List.mem_of_getElem? hj))⟩
 | tok sz k=>exact ho
 | iter s pos=>exact ho
 | map es=>
  obtain ⟨ms,clock,h1,h2,h3⟩:=ho
  refine ⟨ms,clock,h1,h2,fun i e m he hm => ?_⟩
  have g:=h3 i e m he hm
  have l:=hl id _ hx e (List.mem_of_getElem? he)
  exact ⟨g.1.take l.1,g.2.take l.2⟩
 | row g sz cs=>
  obtain ⟨h0,h1,hsc,hs,h2,h3⟩:=ho
  refine ⟨h0,h1,hsc,hs,h2,fun j c hj => ?_⟩
  obtain ⟨v,h5,h6⟩:=h3 j c hj
  exact ⟨v,h5,h6.take (hl id _ hx c (List.mem_of_getElem? hj))⟩
 | dead=>trivial
theorem zdz.take {L':Nat->Loc} {σ':List zh} {w':World} (s:zdz L σ w L' σ' w'):zdz L σ w L' (σ'.take σ.length) w':=by
 refine ⟨s.os,s.tape,s.output,s.size,s.blk,s.cell,s.fz,fun b o hb h=>s.own b o hb (zqv h),by have:=s.len;simp;omega,fun id x hx => ?_⟩
 obtain ⟨x',h1,h2,h3,h4⟩:=s.turns id x hx
 exact ⟨x',by rw [List.getElem?_take,if_pos (zq hx)];exact h1,h2,h3,h4⟩
def dmT:AV->AV
 | .tup vs => .tup (vs.map dm)
 | a=>dm a
theorem zvf {x:AV} {v:Value} (h:RV w L σ x v):RV w L σ (dmT x) v:=by
 cases x with
 | tup cs=>
  obtain ⟨vs,rfl,h1,h2⟩:=h.tup_inv
  refine .tup _ _ (by simpa using h1) fun i c v hc hv => ?_
  simp only [List.getElem?_map,Option.map_eq_some_iff] at hc
  obtain ⟨c',hc',rfl⟩:=hc
  exact ztV (h2 i c' v hc' hv)
 | _=>exact ztV h
def Ends (n:Nat) (K:KT) (out:Option (List AV)) (σ':List zh):Prop:=
 match out with
 | some l=>Low n (dmT (zcJ l))/\zgh n (σ'.take n)/\K (dmT (zcJ l)) (σ'.take n)
 | none=>False
structure AF where
 nargs:Nat
 ntmps:Nat
 res:List RI
 body:AC
def isF (P:Program) (f:FuncId) (F:AF):Prop:=
 ∃ fn c, P.funcs[f]? = some fn ∧ fn.name ≠ "runtime.NumGoroutine" ∧ fn.body = some c ∧ znJ P c = some F.body.norm ∧ F.body.ok F.ntmps = true ∧ F.nargs ≤ F.ntmps ∧ fn.results.toList.mapM (riOk P) = some F.res ∧ fn.ntmps = F.ntmps ∧ P.follows .mixedOrders = true
def isFn (P:Program) (f:FuncId) (F:AF) (n:Nat):Prop:=isF P f F/\F.nargs=n
def zkb:Nat->List AV->zar
 | _,[] => []
 | i,a::l=>(i,a)::zkb (i+1) l
def AtEnd (Z:zar->List zh->Prop):Ex->zar->List zh->Prop
 | .normal,fr, σ=>Z fr σ
 | .ret,fr, σ=>Z fr σ
 | .exit _,_,_=>False
theorem znR {f:FuncId} {F:AF} {na:Nat} (hF:isFn P f F na) {as0:List AV} (has:as0.length=na) {K:KT} (Z:zar->List zh->Prop)
  (hZ:∀ {L:Nat->Loc} {w:World} {L':Nat->Loc} {σ':List zh} {w':World} {fr':zar} {ts:Array Value},Sim L σ w->zdz L σ w L' σ' w' → Sim L' σ' w' → FR w' L' σ' fr' ts->Z fr' σ' →
   ∃ L2 σ2 out r,ztq fr' σ' F.res=some out/\zdz L σ w L2 σ2 w' ∧ Sim L2 σ2 w' ∧ (∀ v,RV w' L' σ' (zcJ out) v->RV w' L2 σ2 r v)/\K r σ2)
  (h:zgh σ.length σ->(∀ a∈as0,Low σ.length a)->awp P F.body (AtEnd Z) (zkb 0 as0) σ):zp P f as0 σ K:=by
 obtain ⟨⟨fn,c,h1,h2,h3,h4,hok,hna,h5,h6,hP⟩,rfl⟩:=hF
 refine ⟨by simp [zxs,h1,h2,h3],fun L w vs S hv => ?_⟩
 refine calls_of_wp h1 h3 ?_
 have hlow:∀ a∈as0,Low σ.length a:=fun a ha=>by
  obtain ⟨i,hi⟩:=List.mem_iff_getElem?.1 ha
  have hlt:=zq hi
  exact (hv.2 i a (vs[i]'(by rw [hv.1];exact hlt)) hi (List.getElem?_eq_getElem _)).low
 have hsz:(vs.toArray++Array.replicate (fn.ntmps-vs.toArray.size) undef).size=F.ntmps:=by simp [hv.1,h6,has];omega
 have key:∀ (as0:List AV) (i j:Nat),zha (zkb i as0) j=if i<=j then (as0[j-i]?).getD .undef else .undef:=by
  intro as0
  induction as0 with
  | nil=>intro i j;simp [zkb,zha]
  | cons a as0 ih=>
   intro i j
   simp only [zkb]
   rw [zlb,ih]
   by_cases h1:j=i
   ·subst h1;simp
   ·by_cases h2:i<=j
    ·rw [if_neg h1,if_pos (by omega),if_pos h2,show j-i=(j-(i+1))+1 by omega];simp
    ·rw [if_neg h1,if_neg (by omega),if_neg h2]
 have keys:∀ (as0:List AV) (i:Nat), ∀ p∈zkb i as0,p.1<i+as0.length:=by
  intro as0
  induction as0 with
  | nil=>intro i p hp;cases hp
  | cons a as0 ih=>
   intro i p hp
   simp only [zkb] at hp
   rcases List.mem_cons.1 hp with rfl|hp
   ·simp
   ·have:=ih (i+1) p hp;simp;omega
 have F0:FR w L σ (zkb 0 as0) (vs.toArray++Array.replicate (fn.ntmps-vs.toArray.size) undef):=by
  refine ⟨fun i v hv' => ?_,fun p hp=>by rw [hsz];have:=keys as0 0 p hp;omega⟩
  rw [key,if_pos (Nat.zero_le _),Nat.sub_zero]
  rcases Nat.lt_or_ge i as0.length with hl|hl
  ·rw [Array.getElem?_append_left (by simp [hv.1,hl])] at hv'
   have ha:as0[i]? = some as0[i]:=List.getElem?_eq_getElem _
   rw [ha]
   exact hv.2 i _ v ha (by simpa using hv')
  ·rw [List.getElem?_eq_none hl];exact .undef v
 refine wp_mono (awp_sound hP c F.body _ _ σ L w { tmps:=vs.toArray++Array.replicate (fn.ntmps-vs.toArray.size) undef,defers := [] } h4 (by show F.body.ok (vs.toArray++Array.replicate (fn.ntmps-vs.toArray.size) undef).size=true;rw [hsz];exact hok) (h S.lows hlow) S F0 rfl) fun e a' w' he => ?_
 have fin:∀ L' σ' fr',zdz L σ w L' σ' w' → Sim L' σ' w' → FR w' L' σ' fr' a'.tmps->a'.defers = []->Z fr' σ' → a'.defers = []/\∃ v,(results fn a'.tmps).run P w' = .ok v w' ∧ CR L σ w K (.returned v) w':=fun L' σ' fr' st S' F' hd hz=>by
  obtain ⟨L2, σ2,out,r,g1,g2,g3,g4,g5⟩:=hZ S st S' F' hz
  obtain ⟨v,hrun,hr⟩:=zyo S' F' h5 g1
  exact ⟨hd,v,hrun,L2, σ2,r,g2,g3,g4 v hr,g5⟩
 cases e with
 | normal=>obtain ⟨L', σ',fr',st,S',F',hd,_,hz⟩:=he;exact fin L' σ' fr' st S' F' hd hz
 | ret=>obtain ⟨L', σ',fr',st,S',F',hd,_,hz⟩:=he;exact fin L' σ' fr' st S' F' hd hz
 | exit id=>obtain ⟨L', σ',fr',st,S',F',hd,_,hz⟩:=he;exact hz.elim
 | goto l=>exact he.elim
 | panic ch=>exact he.elim
 | outgrown=>exact he.elim
theorem zja {f:FuncId} {F:AF} {na:Nat} (hF:isFn P f F na) {as0:List AV} (has:as0.length=na) {K:KT}
  (h:zgh σ.length σ->(∀ a∈as0,Low σ.length a)->awp P F.body (AtEnd fun fr' σ'=>Ends σ.length K (ztq fr' σ' F.res) σ') (zkb 0 as0) σ):zp P f as0 σ K:=
 znR hF has _ (fun {L w L' σ' w' fr' ts} S st S' F' hz=>by
  unfold Ends at hz
  split at hz
  ·rename_i l hl
   obtain ⟨z1,z2,z3⟩:=hz
   exact ⟨L',_,l,dmT (zcJ l),hl,st.take,S'.take z2,fun v hr=>(zvf hr).take z1,z3⟩
  ·exact hz.elim) h
theorem zp.mono {f:FuncId} {as0:List AV} {K K':AV->List zh->Prop} (h:zp P f as0 σ K) (hk:∀ r σ',K r σ' → K' r σ'):zp P f as0 σ K':=
 ⟨h.1,fun L w vs S hv=>(h.2 L w vs S hv).mono fun e w' he=>by
  cases e with
  | returned v=>obtain ⟨L', σ',r,s,S',hr,hK⟩:=he;exact ⟨L', σ',r,s,S',hr,hk r σ' hK⟩
  | panicked ch=>exact he
  | outgrown=>exact he⟩
end
def zV (z:List AV) (σ:List zh) (K:KT):Prop:=K (.box σ.length 0) (σ++[.box z])
def zco (op:BinOp) (e:EK) (x y:AV) (σ:List zh) (K:KT):Prop:=zdr op e x y (fun a=>K a σ)
def unC (op:UnOp) (x:AV) (σ:List zh) (K:KT):Prop:=unA op x (fun a=>K a σ)
def zaw (σ:List zh) (K:KT):Prop:=K (.map σ.length) (σ++[.map []])
def zau (vs:List AV) (k:AV->List AV->Prop):Prop:=k (vs.getD 0 .undef) (vs.drop 1)
def zS:List AV->List (Nat × Nat × AV)->Option (List AV)
 | cs,[]=>some cs
 | cs,(off,s,x)::r=>
  match zab x with
  | some xs=>if xs.length=s/\off+s<=cs.length then zS (zaa cs off xs) r else none
  | none=>none
abbrev LO:=List zh
def iN (n:Int):AV := .d (.int .i64 n)
def bT:AV := .d (.bool true)
def bF:AV := .d (.bool false)
def eN:AV := .exact []
def gF (g:AV) (body:KT->Prop) (σ:LO) (K:KT):Prop:=zhS g false body σ K
def gT (g:AV) (body:KT->Prop) (σ:LO) (K:KT):Prop:=zhS g true body σ K
def gFm (g x:AV) (σ:LO) (K:KT):Prop:=zhS g false (fun k=>k x σ) σ K
def gTm (g x:AV) (σ:LO) (K:KT):Prop:=zhS g true (fun k=>k x σ) σ K
def fl (off:Nat) (x:AV) (σ:LO) (K:KT):Prop:=ze off x σ fun a s=>zl false 1 a s K
def nfl (off:Nat) (x:AV) (σ:LO) (K:KT):Prop:=zbg x σ fun b s=>ze off b s fun a s=>zl false 1 a s K
def gFl (g:AV) (off:Nat) (x:AV) (σ:LO) (K:KT):Prop:=zhS g false (ze off x σ) σ fun a s=>zhS g false (zl false 1 a s) s K
def gTl (g:AV) (off:Nat) (x:AV) (σ:LO) (K:KT):Prop:=zhS g true (ze off x σ) σ fun a s=>zhS g true (zl false 1 a s) s K
def il (m:Bool) (sz n:Nat) (x i:AV) (σ:LO) (K:KT):Prop:=zC none sz x i σ fun a s=>zl m n a s K
def cp (z:List AV) (n:Nat) (x:AV) (σ:LO) (K:KT):Prop:=zV z σ fun b s=>zm n b x s fun _ s=>K b s
def orC (g x:AV) (σ:LO) (K:KT):Prop:=zwk g bT x σ K
def anC (g x:AV) (σ:LO) (K:KT):Prop:=zwk g x bF σ K
def cA (P:Program) (f:FuncId) (as0:List AV) (σ:LO) (K:KT):Prop:=zp P f (as0.map dm) σ K
def bP (op:BinOp) (x y:AV) (σ:LO) (K:KT):Prop:=zco op .plain x y σ K
def z1 (Z:Option (List AV)->LO->Prop) (a:AV) (σ:LO):Prop:=Z (zG (some a) (some [])) σ
def z2 (Z:Option (List AV)->LO->Prop) (a b:AV) (σ:LO):Prop:=Z (zG (some a) (zG (some b) (some []))) σ
def m1 (n:Nat) (z:List AV) (x:AV) (σ:LO) (K:KT):Prop:=zr false n 1 (zS (rep z 1) [(0,n,x)]) σ K
theorem zzt (p q:Prop):BB true p q=p:=propext ⟨fun h=>h.1 rfl,fun h=>⟨fun _=>h,fun e=>Bool.noConfusion e⟩⟩
theorem zua (p q:Prop):BB false p q=q:=propext ⟨fun h=>h.2 rfl,fun h=>⟨fun e=>Bool.noConfusion e,fun _=>h⟩⟩
theorem BB_not (b:Bool) (p q:Prop):BB (!b) p q=BB b q p:=by cases b<;>simp [zzt,zua]
theorem BB_beqT (b:Bool) (p q:Prop):BB (b==true) p q=BB b p q:=by cases b<;>rfl
theorem BB_beqF (b:Bool) (p q:Prop):BB (b==false) p q=BB b q p:=by cases b<;>simp [zzt,zua]
@[congr] theorem BB_congr {b b':Bool} {p q p' q':Prop} (hb:b=b') (hp:b' = true->p=p') (hq:b' = false->q=q'):BB b p q=BB b' p' q':=by
 subst hb
 cases b
 ·simp only [zua];exact hq rfl
 ·simp only [zzt];exact hp rfl
theorem zfz (n:Nat) (x:D):Low n (.d x)=True:=eq_true (.d x)
theorem zwd (n:Nat) (es:List (List D)):Low n (.exact es)=True:=eq_true (.exact es)
theorem zfL (n:Nat) (cs:List AV):Low n (.agg cs) = ∀ c∈cs,Low n c:=propext ⟨fun h=>by cases h with|agg _ h=>exact h,.agg cs⟩
theorem zcb (n:Nat) (cs:List AV):Low n (.tup cs) = ∀ c∈cs,Low n c:=propext ⟨fun h=>by cases h with|tup _ h=>exact h,.tup cs⟩
theorem Low_box (n id off:Nat):Low n (.box id off)=(id<n):=propext ⟨fun h=>by cases h with|box _ _ h=>exact h,.box id off⟩
end Go.AW
