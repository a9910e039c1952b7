/- Types that lead nowhere back: told by a walk of their parts, once. -/
import Derived.JoinedCond
import Derived.KernelRfl
import Derived.Test.YtdgcepphjnoalaaGreatAwDraw2
import Derived.IntWalk
import GoSem.Core.Utf8
set_option linter.all false
set_option maxRecDepth 100000
namespace Go.AW
def zrL (P:Program):Nat->TypeId->Bool
 | 0,_=>false
 | n+1,t=>(P.partsOf t).all (zrL P n)
inductive Leads (P:Program):TypeId->TypeId->Prop
 | refl (t):Leads P t t
 | step {a b c}:Leads P a b->c∈P.partsOf b->Leads P a c
theorem dups_mem {x:Nat}{l:List Nat}(h:x∈l.eraseDups):x∈l:=List.mem_eraseDups.1 h
theorem zwm {P:Program}:∀(n:Nat) (seen:List TypeId) (t:TypeId),(∀x∈seen,Leads P t x)->∀x∈P.grown n seen,Leads P t x
 | 0,seen,t,h=>by simpa [Program.grown] using h
 | n+1,seen,t,h=>by
  rw[Program.grown];refine zwm n _ t fun x hx=>?_;have hx:=dups_mem hx;rcases List.mem_append.1 hx with hx|hx
  ·exact h x hx
  ·obtain⟨y,hy,hxy⟩:=List.mem_flatMap.1 hx;exact .step (h y hy) hxy
theorem zzj {P:Program}{t x:TypeId}(h:x∈P.book t):Leads P t x:=
 zwm _ _ _ (by simp;exact .refl t) x h
theorem tree_part {P:Program}{n:Nat}{t v:TypeId}(h:zrL P n t=true)(hv:v∈P.partsOf t):∃m,m<n/\zrL P m v=true:=by
 cases n with
 | zero=>simp[zrL]at h
 | succ n=>exact⟨n,by omega,List.all_eq_true.1 h v hv⟩
theorem zyl {P:Program}{n:Nat}{t u:TypeId}(h:zrL P n t=true)(hl:Leads P t u):∃m,m<=n/\zrL P m u=true:=by
 induction hl with
 | refl=>exact⟨n,Nat.le_refl _,h⟩
 | step _ hc ih=>
  obtain⟨m,h1,h2⟩:=ih
  obtain⟨k,h3,h4⟩:=tree_part h2 hc
  exact⟨k,by omega,h4⟩
theorem tree_no {P:Program}(n:Nat):∀(u v:TypeId),zrL P n u=true->v∈P.partsOf u->Leads P v u->False:=by
 induction n using Nat.strongRecOn with
 | _ n ih=>
  intro u v h hv hl
  obtain⟨k,h1,h2⟩:=tree_part h hv
  obtain⟨m,h3,h4⟩:=zyl h2 hl
  exact ih m (by omega) u v h4 hv hl
theorem loops_none {P:Program}{n:Nat}{t:TypeId}(h:zrL P n t=true):P.loopsFrom t=false:=by
 cases hl:P.loopsFrom t with
 | false=>rfl
 | true=>
  unfold Program.loopsFrom at hl
  obtain⟨u,hu,hl⟩:=List.any_eq_true.1 hl
  obtain⟨v,hv,hl⟩:=List.any_eq_true.1 hl
  have hc:u∈P.book v:=by simpa using hl
  obtain⟨m,_,h2⟩:=zyl h (zzj hu)
  exact(tree_no m u v h2 hv (zzj hc)).elim
theorem any_loops {P:Program}{ts:List TypeId}(h:ts.all (zrL P 24)=true):ts.any (fun t=>P.loopsFrom t)=false:=by
 rw[List.any_eq_false];intro t ht;rw[loops_none (List.all_eq_true.1 h t ht)];simp
inductive Note where
 | l (lv:List Nat) (dd:List (Nat × Nat))
 | d (rs:List (Nat × Nat)) (nd:List (Nat × List Nat))
 | dd (lin:List (Nat × List Nat)) (cl:List Nat)
def rg:List (Nat × Nat)->List Nat
 | []=>[]
 | (a,n)::r=>List.range' a n++rg r
def ndOf (i:Nat):List (Nat × List Nat)->List Nat
 | []=>[]
 | (j,l)::r=>match Nat.beq i j with
  | true=>l
  | false=>ndOf i r
def clo (acc:List Nat):List (List Nat)->List Nat
 | []=>acc
 | d::r=>clo (acc++[d.foldl (fun m j=>Nat.lor m (Nat.lor (2 ^ j) (acc.getD j 0))) 0]) r
def zxF:AC->List Note->AC × List Note
 | .draw l d _ _,.d rs nd::ns=>(.draw l d ((rg rs).map fun i=>(i,ndOf i nd)) (clo [] d),ns)
 | .draw l d _ _,.dd lin cl::ns=>(.draw l d lin cl,ns)
 | .seq a b,ns=>match zxF a ns with
  | (a',n1)=>match zxF b n1 with
   | (b',n2)=>(.seq a' b',n2)
 | .cond c a b,ns=>match zxF a ns with
  | (a',n1)=>match zxF b n1 with
   | (b',n2)=>(.cond c a' b',n2)
 | .block id a,ns=>match zxF a ns with
  | (a',n1)=>(.block id a',n1)
 | .loop _ _ a,.l lv dd::ns=>match zxF a ns with
  | (a',n1)=>(.loop lv (rg dd) a',n1)
 | .rangeF g ps a b,ns=>match zxF a ns with
  | (a',n1)=>match zxF b n1 with
   | (b',n2)=>(.rangeF g ps a' b',n2)
 | c,ns=>(c,ns)
theorem zfE:∀(c:AC) (ns:List Note),(zxF c ns).1.norm=c.norm
 | .skip,_|.ops _,_|.exit _,_|.ret,_=>by simp[zxF]
 | .draw l d _ _,ns=>by
  cases ns with
  | nil=>simp[zxF]
  | cons n ns=>cases n<;>simp[zxF,AC.norm]
 | .seq a b,ns=>by simp only[zxF,AC.norm,zfE a,zfE b]
 | .cond c a b,ns=>by simp only[zxF,AC.norm,zfE a,zfE b]
 | .block id a,ns=>by simp only[zxF,AC.norm,zfE a]
 | .rangeF g ps a b,ns=>by simp only[zxF,AC.norm,zfE a,zfE b]
 | .loop _ _ a,ns=>by
  cases ns with
  | nil=>simp[zxF]
  | cons n ns=>cases n<;>simp[zxF,AC.norm,zfE a]
def I.mark:I->I
 | .mkslice _ s n z p=>.mkslice true s n z p
 | .append _ s b z x y=>.append true s b z x y
 | .call _ f xs=>.call true f xs
 | i=>i
def AC.mark:AC->AC
 | .ops l=>.ops (l.map fun x=>{ x with i:=x.i.mark })
 | .draw l d p q=>.draw (l.map fun x=>{ x with i:=x.i.mark }) d p q
 | .seq a b=>.seq a.mark b.mark
 | .cond c a b=>.cond c a.mark b.mark
 | .block id a=>.block id a.mark
 | .loop p q a=>.loop p q a.mark
 | .rangeF g ps a b=>.rangeF g ps a.mark b.mark
 | c=>c
theorem I.norm_mark (i:I):i.mark.norm=i.norm:=by cases i<;>rfl
theorem AC.norm_mark:∀c:AC,c.mark.norm=c.norm
 | .skip|.exit _|.ret=>rfl
 | .ops l=>by simp[AC.mark,AC.norm,Ai.norm,Function.comp_def,I.norm_mark]
 | .draw l d _ _=>by simp[AC.mark,AC.norm,Ai.norm,Function.comp_def,I.norm_mark]
 | .seq a b=>by simp[AC.mark,AC.norm,norm_mark a,norm_mark b]
 | .cond c a b=>by simp[AC.mark,AC.norm,norm_mark a,norm_mark b]
 | .block _ a=>by simp[AC.mark,AC.norm,norm_mark a]
 | .loop _ _ a=>by simp[AC.mark,AC.norm,norm_mark a]
 | .rangeF g ps a b=>by simp only[AC.mark,AC.norm,norm_mark a,norm_mark b]
theorem compI_norm {P:Program}{o:Oper}{i:I}(h:zcC P o=some i):i.norm=i:=by
 unfold zcC at h;split at h;all_goals(try(repeat' split at h))
 all_goals(simp only[Option.bind_eq_bind,Option.bind_eq_some_iff,Option.pure_def,Option.some.injEq,reduceCtorEq]at h)
 all_goals(try(repeat (obtain⟨_,h⟩:=h)))
 all_goals first
  | rfl
  | (subst h;rfl)
  | (cases h;done)
  | (split at h<;>(try simp only[Option.bind_eq_bind,Option.bind_eq_some_iff,Option.pure_def,Option.some.injEq,reduceCtorEq]at h)<;>(try(repeat (obtain⟨_,h⟩:=h)))<;>first|rfl|(subst h;rfl))
theorem compO_norm {P:Program}{ops:Array Oper}{o:Oper}{x:Ai}(h:zwP P ops o=some x):x.norm=x:=by
 simp only[zwP,Option.bind_eq_bind,Option.bind_eq_some_iff]at h;obtain⟨i,hi,h⟩:=h;have hn:=compI_norm hi;split at h
 ·simp only[Option.pure_def,Option.some.injEq]at h;subst h;simp[Ai.norm,hn]
 ·simp only[Option.bind_eq_some_iff,Option.pure_def,Option.some.injEq]at h;obtain⟨_,_,_,_,h⟩:=h;subst h;simp[Ai.norm,hn]
theorem zwd {P:Program}{ops:Array Oper}:∀ {l:List Oper} {xs:List Ai},l.mapM (zwP P ops)=some xs->xs.map Ai.norm=xs
 | [],xs,h=>by simp at h;subst h;rfl
 | o::l,xs,h=>by
  simp only[List.mapM_cons,Option.bind_eq_bind,Option.bind_eq_some_iff,Option.pure_def,Option.some.injEq]at h;obtain⟨x,hx,ys,hy,h⟩:=h;subst h;simp[compO_norm hx,zwd hy]
theorem comp_norm {P:Program}:∀ {c:Code} {a:AC},znI P c=some a->a.norm=a:=by
 intro c;induction c with
 | skip=>intro a h;simp only[znI,Option.some.injEq]at h;subst h;rfl
 | region _ ops d=>
  intro a h
  cases d
  ·simp only[znI,Option.bind_eq_bind,Option.bind_eq_some_iff,Option.pure_def,Option.some.injEq]at h
   obtain⟨xs,hx,h⟩:=h
   subst h
   simp[AC.norm,zwd hx]
  ·simp only[znI,Option.bind_eq_bind,Option.bind_eq_some_iff,Option.pure_def,Option.some.injEq]at h
   obtain⟨xs,hx,h⟩:=h
   subst h
   simp[AC.norm,zwd hx]
 | seq a b ih1 ih2=>
  intro x h
  simp only[znI,Option.bind_eq_bind,Option.bind_eq_some_iff,Option.pure_def,Option.some.injEq]at h
  obtain⟨y,hy,z,hz,h⟩:=h
  subst h
  simp[AC.norm,ih1 hy,ih2 hz]
 | cond c a b ih1 ih2=>
  intro x h
  simp only[znI,Option.bind_eq_bind,Option.bind_eq_some_iff,Option.pure_def,Option.some.injEq]at h
  obtain⟨_,_,y,hy,z,hz,h⟩:=h
  subst h
  simp[AC.norm,ih1 hy,ih2 hz]
 | block id a ih=>
  intro x h
  simp only[znI,Option.bind_eq_bind,Option.bind_eq_some_iff,Option.pure_def,Option.some.injEq]at h
  obtain⟨y,hy,h⟩:=h
  subst h
  simp[AC.norm,ih hy]
 | loop a ih=>
  intro x h
  simp only[znI,Option.bind_eq_bind,Option.bind_eq_some_iff,Option.pure_def,Option.some.injEq]at h
  obtain⟨y,hy,h⟩:=h
  subst h
  simp[AC.norm,ih hy]
 | rangeFunc g ps ca cb iha ihb=>
  intro x h
  simp only[znI,Option.bind_eq_bind,Option.bind_eq_some_iff,Option.pure_def,Option.some.injEq]at h
  obtain⟨_,_,y,hy,z,hz,h⟩:=h
  subst h
  simp[AC.norm,iha hy,ihb hz]
 | exit id=>intro a h;simp only[znI,Option.some.injEq]at h;subst h;rfl
 | ret=>intro a h;simp only[znI,Option.some.injEq]at h;subst h;rfl
 | _=>intro a h;simp[znI]at h
def zzk (P:Program) (fn:Func):AC:=((fn.body.bind (znI P)).getD .skip)
def formOf (P:Program) (fn:Func) (na:Nat) (ns:List Note):AF:=⟨na,fn.ntmps,(fn.results.toList.mapM (riOk P)).getD [],(zxF (zzk P fn) ns).1⟩
def zAm (P:Program) (fn:Func) (na:Nat) (ns:List Note):AF:=⟨na,fn.ntmps,(fn.results.toList.mapM (riOk P)).getD [],(zxF (zzk P fn).mark ns).1⟩
def fnOk (P:Program) (fn:Func) (F:AF):Bool:=
 (fn.body.bind (znI P)).isSome&&(F.body.ok F.ntmps&&(Nat.ble F.nargs F.ntmps&&((fn.results.toList.mapM (riOk P)).isSome&&P.follows .mixedOrders)))
theorem isF_gen {P : Program} {f : FuncId} {fn : Func} {F : AF} (h1 : P.funcs[f]? = some fn) (h2 : fn.name ≠ "runtime.NumGoroutine") (hb : F.body.norm = (zzk P fn).norm) (hn : F.ntmps = fn.ntmps) (hr : F.res = (fn.results.toList.mapM (riOk P)).getD [])
  (h3:fnOk P fn F=true):isF P f F:=by
 simp only[fnOk,Bool.and_eq_true,Nat.ble_eq]at h3;obtain⟨c1,c2,c3,c4,c5⟩:=h3;obtain⟨a,ha⟩:=Option.isSome_iff_exists.1 c1;obtain⟨r,hr'⟩:=Option.isSome_iff_exists.1 c4;have hb2:zzk P fn=a:=by rw[zzk,ha];rfl
 simp only[Option.bind_eq_some_iff]at ha;obtain⟨c,hc,hca⟩:=ha;exact⟨fn,c,h1,h2,hc,by rw[hca,hb,hb2,comp_norm hca],c2,c3,by rw[hr,hr'];rfl,hn.symm,c5⟩
theorem isF_form {P : Program} {f : FuncId} {fn : Func} {na : Nat} {ns : List Note} (h1 : P.funcs[f]? = some fn) (h2 : fn.name ≠ "runtime.NumGoroutine") (h3 : fnOk P fn (formOf P fn na ns) = true) : isFn P f (formOf P fn na ns) na :=
 ⟨isF_gen h1 h2 (zfE _ _) rfl rfl h3,rfl⟩
theorem isF_formM {P : Program} {f : FuncId} {fn : Func} {na : Nat} {ns : List Note} (h1 : P.funcs[f]? = some fn) (h2 : fn.name ≠ "runtime.NumGoroutine") (h3 : fnOk P fn (zAm P fn na ns) = true) : isFn P f (zAm P fn na ns) na :=
 ⟨isF_gen h1 h2 ((zfE _ _).trans (AC.norm_mark _)) rfl rfl h3,rfl⟩
abbrev Goes (F:AF) (xs:List AV) (P:Program) (σ:List AObj) (Z:Option (List AV)->List AObj->Prop):Prop:=
 awp P F.body (AtEnd fun fr s=>Z (zuH fr s F.res) s) (zlj 0 xs) σ
def ForF (P₀:Program) (f:FuncId) (na:Nat) (G:AF->Prop):Prop:=∃F,isFn P₀ f F na/\G F
abbrev ZT:=Option (List AV)->List AObj->Prop
theorem zg {P : Program} {f : FuncId} {fn : Func} {na : Nat} {G : AF → Prop} (ns : List Note) (h1 : P.funcs[f]? = some fn) (h2 : fn.name ≠ "runtime.NumGoroutine" := by decide +kernel) (h3 : fnOk P fn (formOf P fn na ns) = true := by kernel_rfl) (h4 : G (formOf P fn na ns) := by intros; rename_i h; exact cast (by kernel_rfl) h) : ForF P f na G :=
 ⟨_,isF_form h1 h2 h3,h4⟩
theorem znl {P : Program} {f : FuncId} {fn : Func} {na : Nat} {G : AF → Prop} (ns : List Note) (h1 : P.funcs[f]? = some fn) (h2 : fn.name ≠ "runtime.NumGoroutine" := by decide +kernel) (h3 : fnOk P fn (zAm P fn na ns) = true := by kernel_rfl) (h4 : G (zAm P fn na ns) := by intros; rename_i h; exact cast (by kernel_rfl) h) : ForF P f na G :=
 ⟨_,isF_formM h1 h2 h3,h4⟩
theorem ForF.is {P:Program}{f:FuncId}{na:Nat}{G:AF->Prop}(h:ForF P f na G):isFn P f (Classical.choose h) na:=(Classical.choose_spec h).1
theorem ForF.goes {P:Program}{f:FuncId}{na:Nat}{G:AF->Prop}(h:ForF P f na G):G (Classical.choose h):=(Classical.choose_spec h).2
abbrev F0 (P₀:Program) (f:FuncId) (S:Program->LO->ZT->Prop):Prop:=ForF P₀ f 0 fun F=>∀ {P:Program} {σ:LO} {Z:ZT},S P σ Z->Goes F [] P σ Z
abbrev F1 (P₀:Program) (f:FuncId) (S:Program->AV->LO->ZT->Prop):Prop:=ForF P₀ f 1 fun F=>∀ {P:Program} {x0:AV} {σ:LO} {Z:ZT},S P x0 σ Z->Goes F [x0] P σ Z
abbrev F2 (P₀:Program) (f:FuncId) (S:Program->AV->AV->LO->ZT->Prop):Prop:=ForF P₀ f 2 fun F=>∀ {P:Program} {x0 x1:AV} {σ:LO} {Z:ZT},S P x0 x1 σ Z->Goes F [x0,x1] P σ Z
abbrev F3 (P₀:Program) (f:FuncId) (S:Program->AV->AV->AV->LO->ZT->Prop):Prop:=ForF P₀ f 3 fun F=>∀ {P:Program} {x0 x1 x2:AV} {σ:LO} {Z:ZT},S P x0 x1 x2 σ Z->Goes F [x0,x1,x2] P σ Z
abbrev F4 (P₀:Program) (f:FuncId) (S:Program->AV->AV->AV->AV->LO->ZT->Prop):Prop:=ForF P₀ f 4 fun F=>∀ {P:Program} {x0 x1 x2 x3:AV} {σ:LO} {Z:ZT},S P x0 x1 x2 x3 σ Z->Goes F [x0,x1,x2,x3] P σ Z
abbrev F5 (P₀:Program) (f:FuncId) (S:Program->AV->AV->AV->AV->AV->LO->ZT->Prop):Prop:=ForF P₀ f 5 fun F=>∀ {P:Program} {x0 x1 x2 x3 x4:AV} {σ:LO} {Z:ZT},S P x0 x1 x2 x3 x4 σ Z->Goes F [x0,x1,x2,x3,x4] P σ Z
theorem acE0 {P:Program}{f:FuncId}{S:Program->LO->ZT->Prop}(e:F0 P f S){σ:LO}{K:AV->LO->Prop}(h:zhm σ.length σ->S P  σ (Ends σ.length K)):ACall P f [] σ K:=zlE e.is rfl fun hl _=>e.goes (h hl)
theorem zey {P:Program}{f:FuncId}{S:Program->AV->LO->ZT->Prop}(e:F1 P f S){x0:AV}{σ:LO}{K:AV->LO->Prop}(h:zhm σ.length σ->S P x0 σ (Ends σ.length K)):ACall P f [x0] σ K:=zlE e.is rfl fun hl _=>e.goes (h hl)
theorem zen {P:Program}{f:FuncId}{S:Program->AV->AV->LO->ZT->Prop}(e:F2 P f S){x0 x1:AV}{σ:LO}{K:AV->LO->Prop}(h:zhm σ.length σ->S P x0 x1 σ (Ends σ.length K)):ACall P f [x0,x1] σ K:=zlE e.is rfl fun hl _=>e.goes (h hl)
theorem acE3 {P:Program}{f:FuncId}{S:Program->AV->AV->AV->LO->ZT->Prop}(e:F3 P f S){x0 x1 x2:AV}{σ:LO}{K:AV->LO->Prop}(h:zhm σ.length σ->S P x0 x1 x2 σ (Ends σ.length K)):ACall P f [x0,x1,x2] σ K:=zlE e.is rfl fun hl _=>e.goes (h hl)
theorem acE4 {P:Program}{f:FuncId}{S:Program->AV->AV->AV->AV->LO->ZT->Prop}(e:F4 P f S){x0 x1 x2 x3:AV}{σ:LO}{K:AV->LO->Prop}(h:zhm σ.length σ->S P x0 x1 x2 x3 σ (Ends σ.length K)):ACall P f [x0,x1,x2,x3] σ K:=zlE e.is rfl fun hl _=>e.goes (h hl)
theorem acE5 {P:Program}{f:FuncId}{S:Program->AV->AV->AV->AV->AV->LO->ZT->Prop}(e:F5 P f S){x0 x1 x2 x3 x4:AV}{σ:LO}{K:AV->LO->Prop}(h:zhm σ.length σ->S P x0 x1 x2 x3 x4 σ (Ends σ.length K)):ACall P f [x0,x1,x2,x3,x4] σ K:=zlE e.is rfl fun hl _=>e.goes (h hl)
def I.zmark:I->I
 | .mv (.lit (.exact []))=>.nilc
 | i=>i
def AC.zmark:AC->AC
 | .ops l=>.ops (l.map fun x=>{ x with i:=x.i.zmark })
 | .draw l d p q=>.draw (l.map fun x=>{ x with i:=x.i.zmark }) d p q
 | .seq a b=>.seq a.zmark b.zmark
 | .cond c a b=>.cond c a.zmark b.zmark
 | .block id a=>.block id a.zmark
 | .loop p q a=>.loop p q a.zmark
 | .rangeF g ps a b=>.rangeF g ps a.zmark b.zmark
 | c=>c
theorem I.norm_zmark (i:I):i.zmark.norm=i.norm:=by
 unfold I.zmark;split<;>rfl
theorem AC.norm_zmark:∀c:AC,c.zmark.norm=c.norm
 | .skip|.exit _|.ret=>rfl
 | .ops l=>by simp[AC.zmark,AC.norm,Ai.norm,Function.comp_def,I.norm_zmark]
 | .draw l d _ _=>by simp[AC.zmark,AC.norm,Ai.norm,Function.comp_def,I.norm_zmark]
 | .seq a b=>by simp[AC.zmark,AC.norm,norm_zmark a,norm_zmark b]
 | .cond c a b=>by simp[AC.zmark,AC.norm,norm_zmark a,norm_zmark b]
 | .block _ a=>by simp[AC.zmark,AC.norm,norm_zmark a]
 | .loop _ _ a=>by simp[AC.zmark,AC.norm,norm_zmark a]
 | .rangeF g ps a b=>by simp only[AC.zmark,AC.norm,norm_zmark a,norm_zmark b]
def formZOf (P:Program) (fn:Func) (na:Nat) (ns:List Note):AF:=⟨na,fn.ntmps,(fn.results.toList.mapM (riOk P)).getD [],(zxF (zzk P fn).zmark ns).1⟩
theorem formZ_of {P : Program} {f : FuncId} {fn : Func} {na : Nat} {G : AF → Prop} (ns : List Note) (h1 : P.funcs[f]? = some fn) (h2 : fn.name ≠ "runtime.NumGoroutine") (h3 : fnOk P fn (formZOf P fn na ns) = true) (h4 : G (formZOf P fn na ns)) : ForF P f na G :=
 ⟨_,⟨isF_gen h1 h2 ((zfE _ _).trans (AC.norm_zmark _)) rfl rfl h3,rfl⟩,h4⟩
section
variable {P:Program} {w:World} {L:Nat->Loc} {σ:List AObj}
def idxK:List Nat->Nat->Nat->Option Nat
 | [],_,_=>none
 | k::ks,id,m=>if id=k then some m else idxK ks id (m+1)
def zqT (n:Nat) (ks:List Nat) (id:Nat):Option Nat:=if id<n then some id else idxK ks id n
mutual
def zeG (f:Nat->Option Nat):AV->Option AV
 | .d x=>some (.d x)
 | .agg cs=>match zmm f cs with|some l=>some (.agg l)|none=>none
 | .tup cs=>match zmm f cs with|some l=>some (.tup l)|none=>none
 | .own t es=>match f t with|some t'=>some (.own t' es)|none=>none
 | .exact es=>some (.exact es)
 | .bsl id off len cap sz=>match f id with|some i=>some (.bsl i off len cap sz)|none=>none
 | .box id off=>match f id with|some i=>some (.box i off)|none=>none
 | .vp cs=>some (.vp cs)
 | .map id=>match f id with|some i=>some (.map i)|none=>none
 | .iter id=>match f id with|some i=>some (.iter i)|none=>none
 | .fn g a b=>match zmm f a,zmm f b with|some a',some b'=>some (.fn g a' b')|_,_=>none
 | .rsl t g sz lo hi=>match f t with|some t'=>some (.rsl t' g sz lo hi)|none=>none
 | .rpt t g off=>match f t with|some t'=>some (.rpt t' g off)|none=>none
 | .nils=>some .nils
 | .undef=>some .undef
def zmm (f:Nat->Option Nat):List AV->Option (List AV)
 | []=>some []
 | a::l=>match zeG f a,zmm f l with|some a',some l'=>some (a'::l')|_,_=>none
end
def renPs (f:Nat->Option Nat):List (AV × AV)->Option (List (AV × AV))
 | []=>some []
 | e::l=>match zeG f e.1,zeG f e.2,renPs f l with|some a,some b,some l'=>some ((a,b)::l')|_,_,_=>none
def zpX (f:Nat->Option Nat):AObj->Option AObj
 | .box cs=>match zmm f cs with|some l=>some (.box l)|none=>none
 | .map es=>match renPs f es with|some l=>some (.map l)|none=>none
 | .tok sz n=>some (.tok sz n)
 | .iter s p=>some (.iter s p)
 | .dead=>some .dead
 | .mapr c bs es=>match renPs f es with|some l=>some (.mapr c bs l)|none=>none
 | .mit none c s=>some (.mit none c s)
 | .lrec b r vs=>match zmm f vs with|some l=>some (.lrec b r l)|none=>none
 | .mit (some m) c s=>match f m with|some m'=>some (.mit (some m') c s)|none=>none
 | .row g sz cs=>match zmm f cs with|some l=>some (.row g sz l)|none=>none
def zvU (f:Nat->Option Nat):List AObj->Option (List AObj)
 | []=>some []
 | x::l=>match zpX f x,zvU f l with|some a,some l'=>some (a::l')|_,_=>none
theorem zfk {f:Nat->Option Nat}:∀ {l l':List AV},zmm f l=some l'→l'.length=l.length/\∀(i:Nat) a b,l[i]? = some a->l'[i]? = some b->zeG f a=some b
 | [],l',h=>by simp[zmm]at h;subst h;simp
 | a::l,l',h=>by
  simp only[zmm]at h;split at h
  ·rename_i a' t h1 h2;cases h;obtain⟨g1,g2⟩:=zfk h2;refine⟨by simp[g1],fun i x y hx hy=>?_⟩;cases i with
   | zero=>simp at hx hy;subst hx hy;exact h1
   | succ i=>exact g2 i x y hx hy
  ·cases h
theorem zvT {f:Nat->Option Nat}:∀ {l l':List (AV × AV)},renPs f l=some l'→l'.length=l.length/\∀(i:Nat) a b,l[i]? = some a->l'[i]? = some b->zeG f a.1=some b.1/\zeG f a.2=some b.2
 | [],l',h=>by simp[renPs]at h;subst h;simp
 | a::l,l',h=>by
  simp only[renPs]at h;split at h
  ·rename_i a' b' t h1 h2 h3;cases h;obtain⟨g1,g2⟩:=zvT h3;refine⟨by simp[g1],fun i x y hx hy=>?_⟩;cases i with
   | zero=>simp at hx hy;subst hx hy;exact⟨h1,h2⟩
   | succ i=>exact g2 i x y hx hy
  ·cases h
theorem renOs_get {f:Nat->Option Nat}:∀ {l l':List AObj},zvU f l=some l'→l'.length=l.length/\∀(i:Nat) a b,l[i]? = some a->l'[i]? = some b->zpX f a=some b
 | [],l',h=>by simp[zvU]at h;subst h;simp
 | a::l,l',h=>by
  simp only[zvU]at h;split at h
  ·rename_i a' t h1 h2;cases h;obtain⟨g1,g2⟩:=renOs_get h2;refine⟨by simp[g1],fun i x y hx hy=>?_⟩;cases i with
   | zero=>simp at hx hy;subst hx hy;exact h1
   | succ i=>exact g2 i x y hx hy
  ·cases h
structure zAR (L L2:Nat->Loc) (σ σ2:List AObj) (f:Nat->Option Nat):Prop where
 obj:∀id i x,f id=some i→σ[id]? = some x->L2 i=L id/\∃y,σ2[i]? = some y/\y.kind=x.kind/\(∀sz n,x=.tok sz n->y=.tok sz n)/\(∀g sz cs,x=.row g sz cs->∃cs',y=.row g sz cs'∧cs'.length=cs.length)
 own:∀b o,Own L2 σ2 b o->Own L σ b o
theorem RV.ren {L2:Nat->Loc}{σ2:List AObj}{f:Nat->Option Nat}(R:zAR L L2 σ σ2 f){x y:AV}{v:Value}(h:RV w L σ x v)(hy:zeG f x=some y):RV w L2 σ2 y v:=by
 have rd:∀ {x:D} {v:Value},RD w (Own L σ) x v->RD w (Own L2 σ2) x v:=fun h=>ziM R.own h;have fx:∀ {id i},f id=some i->zql σ id->L2 i=L id/\zql σ2 i:=fun{id i} hf ⟨z,h1,h2⟩=>by
  obtain⟨e,y,g1,g2,_⟩:=R.obj id i z hf h1;exact⟨e,y,g1,by rw[g2];exact h2⟩
 have rw':∀ {t i},f t=some i->zyj σ t->L2 i=L t/\zyj σ2 i/\∀g sz cs',σ2[i]? = some (.row g sz cs')->∃cs,σ[t]? = some (.row g sz cs)/\cs'.length=cs.length:=fun{t i} hf ⟨z,h1,h2⟩=>by
  obtain⟨e,y,g1,g2,_,g4⟩:=R.obj t i z hf h1;refine⟨e,⟨y,g1,by rw[g2];exact h2⟩,fun g sz cs' e'=>?_⟩;rw[g1]at e';cases e';cases z with
  | row g0 sz0 cs0=>
   obtain⟨cs2,e2,e3⟩:=g4 g0 sz0 cs0 rfl
   cases e2
   exact⟨cs0,h1,e3⟩
  | _=>simp[AObj.kind]at g2
 induction h generalizing y with
 | d _ _ h=>simp[zeG]at hy;subst hy;exact .d _ _ (rd h)
 | agg cs vs h1 h2 ih=>
  simp only[zeG]at hy
  split at hy
  ·rename_i l hl
   cases hy
   obtain⟨g1,g2⟩:=zfk hl
   refine .agg _ _ (by omega) fun i c v hc hv=>?_
   have hi:=zo hc
   have hx:cs[i]? = some (cs[i]'(by omega)):=List.getElem?_eq_getElem _
   exact ih i _ v hx hv (g2 i _ c hx hc)
  ·cases hy
 | tup cs vs h1 h2 ih=>
  simp only[zeG]at hy
  split at hy
  ·rename_i l hl
   cases hy
   obtain⟨g1,g2⟩:=zfk hl
   refine .tup _ _ (by omega) fun i c v hc hv=>?_
   have hi:=zo hc
   have hx:cs[i]? = some (cs[i]'(by omega)):=List.getElem?_eq_getElem _
   exact ih i _ v hx hv (g2 i _ c hx hc)
  ·cases hy
 | own t es v sz k h1 h2 h3 h4 h5=>
  simp only[zeG]at hy
  split at hy
  ·rename_i t' ht
   cases hy
   obtain⟨e,y,g1,g2,g3,_⟩:=R.obj t t' _ ht h1
   rw[g3 sz k rfl]at g1
   exact .own t' es v sz k g1 h2 h3 (rd h4) (by rw[e];exact h5)
  ·cases hy
 | exact es a h=>simp[zeG]at hy;subst hy;exact .exact _ _ (rd h)
 | nils=>simp[zeG]at hy;subst hy;exact .nils
 | bsl id off len cap sz h1 h2=>
  simp only[zeG]at hy
  split at hy
  ·rename_i i hi
   cases hy
   obtain⟨e,g⟩:=fx hi h1
   rw[← e];exact .bsl _ _ _ _ _ g h2
  ·cases hy
 | box id off h1=>
  simp only[zeG]at hy
  split at hy
  ·rename_i i hi
   cases hy
   obtain⟨e,g⟩:=fx hi h1
   rw[← e];exact .box _ _ g
  ·cases hy
 | vp cs b off h=>
  simp[zeG]at hy;subst hy
  refine .vp _ _ _ fun j d hj=>?_
  obtain⟨v,h1,h2,h3⟩:=h j d hj
  exact⟨v,h1,fun h=>h2 (R.own _ _ h),rd h3⟩
 | map id h1=>
  simp only[zeG]at hy
  split at hy
  ·rename_i i hi
   cases hy
   obtain⟨e,g⟩:=fx hi h1
   rw[← e];exact .map _ g
  ·cases hy
 | iter id h1=>
  simp only[zeG]at hy
  split at hy
  ·rename_i i hi
   cases hy
   obtain⟨e,g⟩:=fx hi h1
   rw[← e];exact .iter _ g
  ·cases hy
 | fn g first cap fs cs h1 h2 _ _ ih1 ih2=>
  simp only[zeG]at hy
  split at hy
  ·rename_i a b ha hb
   cases hy
   obtain⟨g1,g2⟩:=zfk ha
   obtain⟨k1,k2⟩:=zfk hb
   refine .fn _ _ _ _ _ (by omega) (by omega) (fun i c v hc hv=>?_) (fun i c v hc hv=>?_)
   ·have hi:=zo hc
    have hx:first[i]? = some (first[i]'(by omega)):=List.getElem?_eq_getElem _
    exact ih1 i _ v hx hv (g2 i _ c hx hc)
   ·have hi:=zo hc
    have hx:cap[i]? = some (cap[i]'(by omega)):=List.getElem?_eq_getElem _
    exact ih2 i _ v hx hv (k2 i _ c hx hc)
  ·cases hy
 | rsl t g sz lo hi a c h1 h2 h3 h4 h5 h6 h7=>
  simp only[zeG]at hy
  split at hy
  ·rename_i i hi'
   cases hy
   obtain⟨e,k1,k2⟩:=rw' hi' h1
   refine .rsl _ _ _ _ _ _ _ k1 (fun g' sz' cs' e'=>?_) h3 h4 h5 h6 (fun sz' cs' e'=>?_)
   ·obtain⟨cs,e2,_⟩:=k2 g' sz' cs' e'
    exact h2 g' sz' cs e2
   ·obtain⟨cs,e2,e3⟩:=k2 g sz' cs' e'
    rw[e,e3]
    exact h7 sz' cs e2
  ·cases hy
 | rpt t g off b o h1 h2 h3=>
  simp only[zeG]at hy
  split at hy
  ·rename_i i hi'
   cases hy
   obtain⟨e,k1,k2⟩:=rw' hi' h1
   refine .rpt _ _ _ _ _ k1 (fun g' sz' cs' e'=>?_) (fun sz' cs' e'=>?_)
   ·obtain⟨cs,e2,_⟩:=k2 g' sz' cs' e'
    exact h2 g' sz' cs e2
   ·obtain⟨cs,e2,e3⟩:=k2 g sz' cs' e'
    rw[e]
    exact h3 sz' cs e2
  ·cases hy
 | undef v=>simp[zeG]at hy;subst hy;exact .undef v
theorem renAV_sc {f:Nat->Option Nat}{a b:AV}(h:zeG f a=some b)(hs:sc a=true):sc b=true:=by
 cases a<;>simp only[zeG]at h<;>first
  | (simp[sc]at hs;done)
  | (cases h;rfl)
  | (split at h<;>first|(cases h;rfl)|(cases h;done))
theorem zsQ.ren {L2:Nat->Loc}{σ2:List AObj}{f:Nat->Option Nat}(R:zAR L L2 σ σ2 f){x y:AObj}{l:Loc}(h:zsQ w L σ l x)(hy:zpX f x=some y):zsQ w L2 σ2 l y:=by
 cases x with
 | box cs=>
  simp only[zpX]at hy
  split at hy
  ·rename_i l' hl
   cases hy
   obtain⟨g1,g2⟩:=zfk hl
   obtain⟨h1,h2,h3⟩:=h
   refine⟨h1,h2,fun j c hj=>?_⟩
   have hi:=zo hj
   have hx:cs[j]? = some (cs[j]'(by omega)):=List.getElem?_eq_getElem _
   obtain⟨h4,v,h5,h6⟩:=h3 j _ hx
   exact⟨h4,v,h5,h6.ren R (g2 j _ c hx hj)⟩
  ·cases hy
 | map es=>
  simp only[zpX]at hy
  split at hy
  ·rename_i l' hl
   cases hy
   obtain⟨g1,g2⟩:=zvT hl
   obtain⟨ms,clock,h1,h2,h3,h4⟩:=h
   refine⟨ms,clock,h1,by omega,fun i e m he hm=>?_,h4⟩
   have hi:=zo he
   have hx:es[i]? = some (es[i]'(by omega)):=List.getElem?_eq_getElem _
   have k:=h3 i _ m hx hm
   have q:=g2 i _ e hx he
   exact⟨k.1.ren R q.1,k.2.ren R q.2⟩
  ·cases hy
 | mapr c bs es=>
  simp only[zpX]at hy
  split at hy
  ·rename_i l' hl
   cases hy
   obtain⟨g1,g2⟩:=zvT hl
   obtain⟨ms,h1,h2,h3,h4⟩:=h
   refine⟨ms,h1,by omega,fun i e m he hm=>?_,h4⟩
   have hi:=zo he
   have hx:es[i]? = some (es[i]'(by omega)):=List.getElem?_eq_getElem _
   have k:=h3 i _ m hx hm
   have q:=g2 i _ e hx he
   exact⟨k.1.ren R q.1,k.2.ren R q.2⟩
  ·cases hy
 | lrec b r vs=>
  simp only[zpX]at hy
  split at hy
  ·rename_i l' hl
   cases hy
   obtain⟨g1,g2⟩:=zfk hl
   obtain⟨h1,h2,h3,h4⟩:=h
   refine⟨h1,h2,by omega,fun i c v hc hv=>?_⟩
   have hi:=zo hc
   have hx:vs[i]? = some (vs[i]'(by omega)):=List.getElem?_eq_getElem _
   exact(h4 i _ v hx hv).ren R (g2 i _ c hx hc)
  ·cases hy
 | mit m c seen=>
  cases m with
  | none=>simp[zpX]at hy;subst hy;exact h
  | some m=>
   simp only[zpX]at hy
   split at hy
   ·rename_i m' hm
    cases hy
    obtain⟨⟨z,k1,k2⟩,h2⟩:=h
    obtain⟨e,z',g1,g2,_⟩:=R.obj m m' z hm k1
    exact⟨⟨z',g1,by rw[g2];exact k2⟩,by rw[e];exact h2⟩
   ·cases hy
 | row g sz cs=>
  simp only[zpX]at hy
  split at hy
  ·rename_i l' hl
   cases hy
   obtain⟨g1,g2⟩:=zfk hl
   obtain⟨h1,h2,hsc,hs,h3,h4⟩:=h
   refine⟨h1,by rw[g1];exact h2,fun d hd=>?_,hs,h3,fun j c hj=>?_⟩
   ·obtain⟨j,hj⟩:=List.mem_iff_getElem?.1 hd
    have hi:=zo hj
    have hx:cs[j]? = some (cs[j]'(by omega)):=List.getElem?_eq_getElem _
    exact renAV_sc (g2 j _ d hx hj) (hsc _ (List.mem_of_getElem? hx))
   ·have hi:=zo hj
    have hx:cs[j]? = some (cs[j]'(by omega)):=List.getElem?_eq_getElem _
    obtain⟨v,h5,h6⟩:=h4 j _ hx
    exact⟨v,h5,h6.ren R (g2 j _ c hx hj)⟩
  ·cases hy
 | tok sz n=>simp[zpX]at hy;subst hy;exact h
 | iter s p=>simp[zpX]at hy;subst hy;exact h
 | dead=>simp[zpX]at hy;subst hy;exact h
theorem zml {f:Nat->Option Nat}{x y:AObj}(h:zpX f x=some y):y.kind=x.kind/\(∀sz n,x=.tok sz n->y=.tok sz n)/\(∀g sz cs,x=.row g sz cs->∃cs',y=.row g sz cs'∧cs'.length=cs.length)/\∀(l:Loc) b o,zfw l y b o↔zfw l x b o:=by
 cases x with
 | box cs=>
  simp only[zpX]at h
  split at h
  ·rename_i l hl
   cases h
   obtain⟨g1,_⟩:=zfk hl
   exact⟨rfl,nofun,nofun,fun l b o=>by simp only[zfw];rw[g1]⟩
  ·cases h
 | map es=>
  simp only[zpX]at h
  split at h
  ·cases h
   exact⟨rfl,nofun,nofun,fun l b o=>Iff.rfl⟩
  ·cases h
 | mapr c bs es=>
  simp only[zpX]at h
  split at h
  ·cases h
   exact⟨rfl,nofun,nofun,fun l b o=>Iff.rfl⟩
  ·cases h
 | lrec b r vs=>
  simp only[zpX]at h
  split at h
  ·cases h
   exact⟨rfl,nofun,nofun,fun l b o=>Iff.rfl⟩
  ·cases h
 | mit m c seen=>
  cases m with
  | none=>simp only[zpX,Option.some.injEq]at h;subst h;exact⟨rfl,nofun,nofun,fun l b o=>Iff.rfl⟩
  | some m=>
   simp only[zpX]at h
   split at h
   ·cases h
    exact⟨rfl,nofun,nofun,fun l b o=>Iff.rfl⟩
   ·cases h
 | row g sz cs=>
  simp only[zpX]at h
  split at h
  ·rename_i l hl
   cases h
   obtain⟨g1,_⟩:=zfk hl
   exact⟨rfl,nofun,fun g' sz' cs' e=>by cases e;exact⟨l,rfl,g1⟩,fun l b o=>Iff.rfl⟩
  ·cases h
 | tok sz n=>simp[zpX]at h;subst h;exact⟨rfl,fun _ _ e=>e,nofun,fun _ _ _=>Iff.rfl⟩
 | iter s p=>simp[zpX]at h;subst h;exact⟨rfl,nofun,nofun,fun _ _ _=>Iff.rfl⟩
 | dead=>simp[zpX]at h;subst h;exact⟨rfl,nofun,nofun,fun _ _ _=>Iff.rfl⟩
mutual
theorem zrS {n:Nat}{f:Nat->Option Nat}(hf:∀id,id<n->f id=some id):∀ {x:AV},Low n x->zeG f x=some x
 | .d x,_=>rfl
 | .agg cs,h=>by cases h with|agg _ h=>simp only[zeG,zhd hf h]
 | .tup cs,h=>by cases h with|tup _ h=>simp only[zeG,zhd hf h]
 | .own t es,h=>by cases h with|own _ _ h=>simp only[zeG,hf t h]
 | .exact es,_=>rfl
 | .nils,_=>rfl
 | .bsl id off len cap sz,h=>by cases h with|bsl _ _ _ _ _ h=>simp only[zeG,hf id h]
 | .box id off,h=>by cases h with|box _ _ h=>simp only[zeG,hf id h]
 | .vp cs,_=>rfl
 | .map id,h=>by cases h with|map _ h=>simp only[zeG,hf id h]
 | .iter id,h=>by cases h with|iter _ h=>simp only[zeG,hf id h]
 | .fn g a b,h=>by cases h with|fn _ _ _ h1 h2=>simp only[zeG,zhd hf h1,zhd hf h2]
 | .rsl t g sz lo hi,h=>by cases h with|rsl _ _ _ _ _ h=>simp only[zeG,hf t h]
 | .rpt t g off,h=>by cases h with|rpt _ _ _ h=>simp only[zeG,hf t h]
 | .undef,_=>rfl
theorem zhd {n:Nat}{f:Nat->Option Nat}(hf:∀id,id<n->f id=some id):∀ {l:List AV},(∀c∈l,Low n c)->zmm f l=some l
 | [],_=>rfl
 | a::l,h=>by simp only[zmm,zrS hf (h a List.mem_cons_self),zhd hf (fun c hc=>h c (List.mem_cons_of_mem _ hc))]
end
theorem zvS {n:Nat}{f:Nat->Option Nat}(hf:∀id,id<n->f id=some id):∀ {l:List (AV × AV)},(∀e∈l,Low n e.1/\Low n e.2)->renPs f l=some l
 | [],_=>rfl
 | a::l,h=>by
  have:=h a List.mem_cons_self;simp only[renPs,zrS hf this.1,zrS hf this.2,zvS hf (fun c hc=>h c (List.mem_cons_of_mem _ hc))]
theorem renO_low {n:Nat}{f:Nat->Option Nat}(hf:∀id,id<n->f id=some id){x:AObj}(h:ztV n x):zpX f x=some x:=by
 cases x with
 | box cs=>simp only[zpX,zhd hf h]
 | map es=>simp only[zpX,zvS hf h]
 | mapr c bs es=>simp only[zpX,zvS hf h]
 | lrec b r vs=>simp only[zpX,zhd hf h]
 | mit m c seen=>
  cases m with
  | none=>rfl
  | some m=>simp only[zpX,hf m h]
 | row g sz cs=>simp only[zpX,zhd hf h]
 | _=>rfl
theorem idxK_spec:∀ {ks:List Nat} {id m i:Nat},idxK ks id m=some i->m<=i/\ks[i-m]? = some id
 | [],_,_,_,h=>by simp[idxK]at h
 | k::ks,id,m,i,h=>by
  simp only[idxK]at h;split at h
  ·rename_i e;cases h;exact⟨Nat.le_refl _,by simp[e]⟩
  ·obtain⟨h1,h2⟩:=idxK_spec h;exact⟨by omega,by rw[show i-m=(i-(m+1))+1 by omega];simpa using h2⟩
def getL (σ:List AObj):List Nat->Option (List AObj)
 | []=>some []
 | k::ks=>match σ[k]?,getL σ ks with|some x,some l=>some (x::l)|_,_=>none
theorem getL_get:∀ {ks:List Nat} {l:List AObj},getL σ ks=some l->l.length=ks.length/\∀(i:Nat) k x,ks[i]? = some k->l[i]? = some x→σ[k]? = some x
 | [],l,h=>by simp[getL]at h;subst h;simp
 | k::ks,l,h=>by
  simp only[getL]at h;split at h
  ·rename_i x t h1 h2;cases h;obtain⟨g1,g2⟩:=getL_get h2;refine⟨by simp[g1],fun i k x hk hx=>?_⟩;cases i with
   | zero=>simp at hk hx;subst hk hx;exact h1
   | succ i=>exact g2 i k x hk hx
  ·cases h
def zAS (n:Nat) (ks:List Nat) (K:KT) (out:Option (List AV)) (σ':List AObj):Prop:=
 match out with
 | some l=>n≤σ'.length/\zhm n (σ'.take n)/\(∀k∈ks,n<=k)/\ks.Nodup ∧
  match getL σ' ks with
  | some os=>match zvU (zqT n ks) os,zeG (zqT n ks) (zck l)with
   | some os',some r=>K r (σ'.take n++os')
   | _,_=>False
  | none=>False
 | none=>False
def zsR (n:Nat) (ks:List AObj->List Nat) (K:KT) (out:Option (List AV)) (σ':List AObj):Prop:=zAS n (ks σ') K out σ'
theorem keep_sound {n:Nat}{ks:List Nat}{os os':List AObj}(S:Sim L σ w)(hn:n≤σ.length)(hlow:zhm n (σ.take n))(hks:∀k∈ks,n<=k)(hnd:ks.Nodup)(hos:getL σ ks=some os)(hos':zvU (zqT n ks) os=some os') :
  ∃L2,(∀id,id<n->L2 id=L id)/\zAR L L2 σ (σ.take n++os') (zqT n ks)/\Sim L2 (σ.take n++os') w:=by
 have hlt:(σ.take n).length=n:=by simp[hn]
 obtain⟨a1,a2⟩:=getL_get hos;obtain⟨b1,b2⟩:=renOs_get hos';let src:Nat->Nat:=fun i=>if i<n then i else ks.getD (i-n) 0
 refine⟨fun i=>L (src i),fun id h=>by simp[src,h],?_,?_⟩;all_goals
  have obj2:∀i y,(σ.take n++os')[i]? = some y->∃x,σ[src i]? = some x/\zpX (zqT n ks) x=some y/\(i<n∨n<=i/\ks[i-n]? = some (src i)):=fun i y hy=>by
   rcases Nat.lt_or_ge i n with hi|hi
   ·rw[List.getElem?_append_left (by omega),List.getElem?_take,if_pos hi]at hy;refine⟨y,by simpa [src,hi] using hy,renO_low (n:=n) (fun id h=>by simp[zqT,h]) (hlow i y (by rw[List.getElem?_take,if_pos hi];exact hy)),.inl hi⟩
   ·rw[List.getElem?_append_right (by omega),hlt]at hy;have h1:=zo hy;have hx:os[i-n]? = some (os[i-n]'(by omega)):=List.getElem?_eq_getElem _;have hk:ks[i-n]? = some (ks[i-n]'(by omega)):=List.getElem?_eq_getElem _;have hsrc:src i=ks[i-n]'(by omega):=by
     have:¬i<n:=by omega
     simp[src,this,List.getD,hk]
    exact⟨_,by rw[hsrc];exact a2 _ _ _ hk hx,b2 _ _ y hx hy,.inr ⟨hi,by rw[hsrc];exact hk⟩⟩
  have foot:∀b o,Own (fun i=>L (src i)) (σ.take n++os') b o->Own L σ b o:=fun b o ⟨i,y,hy,hf⟩=>by
   obtain⟨x,h1,h2,_⟩:=obj2 i y hy;exact⟨src i,x,h1,((zml h2).2.2.2 _ _ _).1 hf⟩
  have R:zAR L (fun i=>L (src i)) σ (σ.take n++os') (zqT n ks):=⟨fun id i x hi hx=>by
   unfold zqT at hi;split at hi
   ·rename_i hid;cases hi;refine⟨by simp[src,hid],x,?_,rfl,fun _ _ e=>e,fun g sz cs e=>⟨cs,e,rfl⟩⟩;rw[List.getElem?_append_left (by omega),List.getElem?_take,if_pos hid];exact hx
   ·obtain⟨h1,h2⟩:=idxK_spec hi;have hi':¬i<n:=by omega
    have hsrc:src i=id:=by simp[src,hi',List.getD,h2]
    refine⟨by rw[hsrc],?_⟩;have h3:=zo h2;have hy:(σ.take n++os')[i]? = some (os'[i-n]'(by omega)):=by
     rw[List.getElem?_append_right (by omega),hlt];exact List.getElem?_eq_getElem _
    obtain⟨x',g1,g2,_⟩:=obj2 i _ hy;rw[hsrc,hx]at g1;cases g1;exact⟨_,hy,(zml g2).1,(zml g2).2.1,(zml g2).2.2.1⟩,foot⟩
 ·exact R
 ·refine⟨fun i y hy=>?_,fun i j x y b o hij hx hy hfx hfy=>?_⟩
  ·obtain⟨x,h1,h2,_⟩:=obj2 i y hy;exact(S.obj _ _ h1).ren R h2
  ·obtain⟨x',h1,h2,h3⟩:=obj2 i x hx;obtain⟨y',g1,g2,g3⟩:=obj2 j y hy;have hne:src i≠src j:=by
    rcases h3 with hi|⟨hi,hki⟩<;>rcases g3 with hj|⟨hj,hkj⟩
    ·simpa [src,hi,hj] using hij
    ·have:=hks _ (List.mem_of_getElem? hkj);have e:src i=i:=by simp[src,hi]
     omega
    ·have:=hks _ (List.mem_of_getElem? hki);have e:src j=j:=by simp[src,hj]
     omega
    ·intro e;rw[e]at hki;have l1:=zo hki;have l2:=zo hkj;have:=(List.getElem?_inj l1 hnd).1 (hki.trans hkj.symm);omega
   exact S.apart _ _ _ _ b o hne h1 g1 (((zml h2).2.2.2 _ _ _).1 hfx) (((zml g2).2.2.2 _ _ _).1 hfy)
theorem zbM {f:FuncId}{F:AF}{na:Nat}(hF:isFn P f F na){as0:List AV}(has:as0.length=na){K:KT}(ks:List AObj->List Nat)
  (h:zhm σ.length σ->(∀a∈as0,Low σ.length a)->awp P F.body (AtEnd fun fr' σ'=>zsR σ.length ks K (zuH fr' σ' F.res) σ') (zlj 0 as0) σ):ACall P f as0 σ K:=
 zoV hF has _ (fun{L w L' σ' w' fr' ts} S st S' F' hz=>by
  unfold zsR zAS at hz;split at hz
  ·rename_i l hl;obtain⟨z0,z1,z2,z3,z4⟩:=hz;split at z4
   ·rename_i os hos;split at z4
    ·rename_i os' r hos' hr;obtain⟨L2,k1,k2,k3⟩:=keep_sound S' z0 z1 z2 z3 hos hos';refine⟨L2,_,l,r,hl,⟨st.os,st.tape,st.output,st.size,st.blk,st.cell,st.fz,fun b o hb ho=>st.own b o hb (k2.own b o ho),by simp;omega,fun id x hx=>?_⟩,k3,fun v hv=>hv.ren k2 hr,z4⟩;have hid:=zo hx;obtain⟨x',g1,g2,g3,g4,g5⟩:=st.turns id x hx;refine⟨x',by rw[List.getElem?_append_left (by simp;omega),List.getElem?_take,if_pos hid];exact g1,g2,fun hk hk5=>(k1 id hid).trans (g3 hk hk5),fun sz n e=>?_,fun g sz cs e=>?_⟩
     ·obtain⟨n',e1,e2,e3⟩:=g4 sz n e;exact⟨n',e1,e2,fun e=>(k1 id hid).trans (e3 e)⟩
     ·rcases g5 g sz cs e with h|⟨g',cs',e1,e2,e3⟩
      ·exact .inl h
      ·exact .inr ⟨g',cs',e1,e2,fun e=>⟨(k1 id hid).trans (e3 e).1,(e3 e).2⟩⟩
    ·exact z4.elim
   ·exact z4.elim
  ·exact hz.elim) h
end
section
variable {P:Program} {w:World} {L:Nat->Loc} {σ:List AObj}
theorem ACall.tok {f:FuncId}{xs:List AV}{es:List (List D)}{sz:Nat}(hsz:∀e∈es,e.length=sz){K:KT}
  (h:ACall P f xs σ fun r σ'=>(r=.own σ.length es∧σ'=σ++[.tok sz es.length])∨(r=.exact es∧σ'=σ)) (hK:K (.own σ.length es) (σ++[.tok sz es.length])):ACall P f xs σ K:=
 ⟨h.1,fun L w vs S hv=>(h.2 L w vs S hv).mono fun e w' he=>by
  cases e with
  | panicked ch=>exact he
  | outgrown=>exact he
  | returned v=>
   obtain⟨L',σ',r,s,S',hr,hcase⟩:=he
   rcases hcase with⟨rfl,rfl⟩|⟨rfl,rfl⟩
   ·exact⟨L',_,_,s,S',hr,hK⟩
   ·obtain⟨a,hv',hrd,ha,hs⟩:=zmx hr
    obtain⟨st,S2⟩:=add_tok S' sz es.length a ha hs
    refine⟨_,_,_,s.trans st,S2,?_,hK⟩
    refine .own _ _ _ sz es.length (by simp) (Nat.le_refl _) hsz (st.rd hrd) fun _=>?_
    rw[hv',zY]
    cases a<;>rfl⟩
end
variable {σ:List AObj}
abbrev bcs (bs:List UInt8):List (List D):=bs.map zch
theorem ziy {bs:List UInt8}:∀e∈bcs bs,e.length=1:=by
 intro e he;obtain⟨b,_,rfl⟩:=List.mem_map.1 he;rfl
theorem zam (bs:List UInt8):(bcs bs).length=bs.length:=by simp[bcs]
theorem zix (bs:List UInt8):zrC (bcs bs)=some bs:=by
 induction bs with
 | nil=>rfl
 | cons b bs ih=>
  simp only[bcs]at ih
  simp only[bcs,List.map_cons,zch,zrC,ih,Option.map_some]
  simp
theorem ztS (a b:List UInt8):bcs a++bcs b=bcs (a++b):=by simp[bcs]
theorem zA {α:Type}(σ τ:List α)(k:Nat):(σ++τ)[σ.length+k]? = τ[k]?:=by
 rw[List.getElem?_append_right (by omega),Nat.add_sub_cancel_left]
theorem zB {α:Type}(σ τ:List α):(σ++τ)[σ.length]? = τ[0]?:=by
 rw[List.getElem?_append_right (by omega),Nat.sub_self]
theorem zX {α:Type}(σ τ:List α)(k:Nat)(x:α):(σ++τ).set (σ.length+k) x=σ++τ.set k x:=by
 rw[List.set_append_right _ _ (by omega),Nat.add_sub_cancel_left]
theorem zaa {α:Type}(σ τ:List α)(x:α):(σ++τ).set σ.length x=σ++τ.set 0 x:=by
 rw[List.set_append_right _ _ (by omega),Nat.sub_self]
theorem zba {α:Type}(σ τ:List α):(σ++τ).length=σ.length+τ.length:=by simp
theorem zi {α:Type}{σ τ:List α}{id:Nat}{x:α}(h:σ[id]? = some x):(σ++τ)[id]? = some x:=by
 rw[List.getElem?_append_left (List.getElem?_eq_some_iff.1 h).1];exact h
theorem zdg {α:Type}{σ τ:List α}{id:Nat}{x y:α}(h:σ[id]? = some x):(σ++τ).set id y=σ.set id y++τ:=by
 rw[List.set_append_left _ _ (List.getElem?_eq_some_iff.1 h).1]
theorem map_dm1_d (ds:List D):(ds.map AV.d).map dm1=ds.map AV.d:=by simp[Function.comp_def,dm1]
theorem zmt (n:Nat)(ds:List D):∀c∈ds.map AV.d,Low n c:=by
 intro c hc;obtain⟨d,_,rfl⟩:=List.mem_map.1 hc;exact .d _
inductive Tag {α:Sort _} (p:α):Type
 | mk
def BBL (b:Bool) (p q:Prop) (_:Tag p) (_:Tag q):Prop:=BB b p q
def ACallL (P:Program) (f:FuncId) (as_:List AV) (σ:List AObj) (K:KT) (_:Tag K):Prop:=ACall P f as_ σ K
theorem zbR (P:Program)(f:FuncId)(as_:List AV)(σ:List AObj)(K:KT):ACall P f as_ σ K=ACallL P f as_ σ K .mk:=rfl
def loopCL (init:List AV) (σ:List AObj) (round:List AV->List AObj->(List AV->List AObj->Prop)->Prop) (_:Tag round):Prop:=zaZ init σ round
theorem zeb (init:List AV)(σ:List AObj)(round:List AV->List AObj->(List AV->List AObj->Prop)->Prop):zaZ init σ round=loopCL init σ round .mk:=rfl
theorem zak (p q:Prop)(t:Tag p)(u:Tag q):BBL true p q t u=p:=zAT p q
theorem zO (p q:Prop)(t:Tag p)(u:Tag q):BBL false p q t u=q:=zvB p q
theorem zV {b:Bool}{p q:Prop}{t:Tag p}{u:Tag q}(h1:b=true->p)(h2:b=false->q):BBL b p q t u:=⟨h1,h2⟩
theorem zaU (b:Bool)(p q:Prop)(t:Tag p)(u:Tag q):BBL (!b) p q t u=BBL b q p u t:=BB_not b p q
theorem zai (b:Bool)(body:KT->Prop)(σ:List AObj)(K:KT):ziQ (.d (.bool b)) true body σ K=BBL b (body K) (K (.tup []) σ) .mk .mk:=by
 simp only[ziQ,BB_beqT];rfl
theorem zaj (b:Bool)(body:KT->Prop)(σ:List AObj)(K:KT):ziQ (.d (.bool b)) false body σ K=BBL b (K (.tup []) σ) (body K) .mk .mk:=by
 simp only[ziQ,BB_beqF];rfl
theorem zav (w:Bool)(body:KT->Prop)(σ:List AObj)(K:KT):ziQ (.tup []) w body σ K=K (.tup []) σ:=rfl
theorem zaC (b:Bool)(p q:Prop):zh (.d (.bool b)) p q=BBL b p q .mk .mk:=rfl
theorem zaW (b:Bool)(x y:AV)(σ:List AObj)(K:KT):zxL (.d (.bool b)) x y σ K=BBL b (K x σ) (K y σ) .mk .mk:=rfl
theorem zlu (b:Bool)(body:KT->Prop)(σ:List AObj)(K:KT):gF (.d (.bool b)) body σ K=BBL b (K (.tup []) σ) (body K) .mk .mk:=zaj b body σ K
theorem zls (b:Bool)(body:KT->Prop)(σ:List AObj)(K:KT):gT (.d (.bool b)) body σ K=BBL b (body K) (K (.tup []) σ) .mk .mk:=zai b body σ K
theorem zlv (body:KT->Prop)(σ:List AObj)(K:KT):gF (.tup []) body σ K=K (.tup []) σ:=rfl
theorem zlt (body:KT->Prop)(σ:List AObj)(K:KT):gT (.tup []) body σ K=K (.tup []) σ:=rfl
theorem zeg (b:Bool)(x:AV)(σ:List AObj)(K:KT):gFm (.d (.bool b)) x σ K=BBL b (K (.tup []) σ) (K x σ) .mk .mk:=zaj b _ σ K
theorem zec (b:Bool)(x:AV)(σ:List AObj)(K:KT):gTm (.d (.bool b)) x σ K=BBL b (K x σ) (K (.tup []) σ) .mk .mk:=zai b _ σ K
theorem zeh (x:AV)(σ:List AObj)(K:KT):gFm (.tup []) x σ K=K (.tup []) σ:=rfl
theorem zed (x:AV)(σ:List AObj)(K:KT):gTm (.tup []) x σ K=K (.tup []) σ:=rfl
theorem zlw (off:Nat)(x:AV)(σ:List AObj)(K:KT):fl off x σ K=zc off x σ fun a s=>ze false 1 a s K:=rfl
theorem zdX (off:Nat)(x:AV)(σ:List AObj)(K:KT):nfl off x σ K=zbg x σ fun b s=>zc off b s fun a s=>ze false 1 a s K:=rfl
theorem zei (b:Bool)(off:Nat)(x:AV)(σ:List AObj)(K:KT):gFl (.d (.bool b)) off x σ K=BBL b (K (.tup []) σ) (zc off x σ fun a s=>ze false 1 a s K) .mk .mk:=by
 cases b<;>simp[gFl,zaj,zak,zO]
theorem zee (b:Bool)(off:Nat)(x:AV)(σ:List AObj)(K:KT):gTl (.d (.bool b)) off x σ K=BBL b (zc off x σ fun a s=>ze false 1 a s K) (K (.tup []) σ) .mk .mk:=by
 cases b<;>simp[gTl,zai,zak,zO]
theorem zej (off:Nat)(x:AV)(σ:List AObj)(K:KT):gFl (.tup []) off x σ K=K (.tup []) σ:=rfl
theorem zef (off:Nat)(x:AV)(σ:List AObj)(K:KT):gTl (.tup []) off x σ K=K (.tup []) σ:=rfl
theorem zlq (m:Bool)(sz n:Nat)(x i:AV)(σ:List AObj)(K:KT):il m sz n x i σ K=zN none sz x i σ fun a s=>ze m n a s K:=rfl
theorem zlA (z:List AV)(n:Nat)(x:AV)(σ:List AObj)(K:KT):cp z n x σ K=zad z σ fun b s=>zl n b x s fun _ s=>K b s:=rfl
theorem zdW (b:Bool)(x:AV)(σ:List AObj)(K:KT):orC (.d (.bool b)) x σ K=BBL b (K (.d (.bool true)) σ) (K x σ) .mk .mk:=rfl
theorem zem (b:Bool)(x:AV)(σ:List AObj)(K:KT):anC (.d (.bool b)) x σ K=BBL b (K x σ) (K (.d (.bool false)) σ) .mk .mk:=rfl
theorem zlC (P:Program)(f:FuncId)(as_:List AV)(σ:List AObj)(K:KT):cA P f as_ σ K=ACallL P f (as_.map dm) σ K .mk:=rfl
theorem zlD (op:BinOp)(x y:AV)(σ:List AObj)(K:KT):bP op x y σ K=zev op .plain x y σ K:=rfl
theorem zli (Z:Option (List AV)->List AObj->Prop)(a:AV)(σ:List AObj):z1 Z a σ=Z (zH (some a) (some [])) σ:=rfl
theorem zlh (Z:Option (List AV)->List AObj->Prop)(a b:AV)(σ:List AObj):z2 Z a b σ=Z (zH (some a) (zH (some b) (some []))) σ:=rfl
theorem zln (n:Nat)(z:List AV)(x:AV)(σ:List AObj)(K:KT):m1 n z x σ K=zp false n 1 (zL (rep z 1) [(0,n,x)]) σ K:=rfl
theorem zmZ (σ τ:List AObj):(σ++τ).take σ.length=σ:=by simp
theorem zpM {σ τ:List AObj}{K:KT}{l:List AV}(h1:Low σ.length (dmT (zck l)))(hl:zhm σ.length σ)(h:K (dmT (zck l)) σ):Ends σ.length K (some l) (σ++τ):=by
 unfold Ends;rw[zmZ];exact⟨h1,hl,h⟩
theorem zwr {K:KT}{l:List AV}(h1:Low σ.length (dmT (zck l)))(hl:zhm σ.length σ)(h:K (dmT (zck l)) σ):Ends σ.length K (some l) σ:=by
 unfold Ends;rw[List.take_length];exact⟨h1,hl,h⟩
theorem finP {σ τ:List AObj}{K:KT}{l:List AV}(hl:zhm σ.length σ)(h:K (dmT (zck l)) σ)(h1:Low σ.length (dmT (zck l)):=by simp[zgQ,dmT,dm,dm1,zck,zbw,zfs,zxD]):Ends σ.length K (some l) (σ++τ):=zpM h1 hl h
theorem finQ {K:KT}{l:List AV}(hl:zhm σ.length σ)(h:K (dmT (zck l)) σ)(h1:Low σ.length (dmT (zck l)):=by simp[zgQ,dmT,dm,dm1,zck,zbw,zfs,zxD]):Ends σ.length K (some l) σ:=zwr h1 hl h
theorem kk7 {x:Int}(h:x=7):(x==1)=false/\(x==2)=false/\(x==3)=false/\(x==4)=false/\(x==5)=false/\(x==6)=false/\(x==7)=true/\(x==8)=false/\(x==9)=false/\(x==10)=false/\(x==11)=false/\(x==12)=false:=by subst h;exact⟨rfl,rfl,rfl,rfl,rfl,rfl,rfl,rfl,rfl,rfl,rfl,rfl⟩
theorem kk8 {x:Int}(h:x=8):(x==1)=false/\(x==2)=false/\(x==3)=false/\(x==4)=false/\(x==5)=false/\(x==6)=false/\(x==7)=false/\(x==8)=true/\(x==9)=false/\(x==10)=false/\(x==11)=false/\(x==12)=false:=by subst h;exact⟨rfl,rfl,rfl,rfl,rfl,rfl,rfl,rfl,rfl,rfl,rfl,rfl⟩
theorem kk12 {x:Int}(h:x=12):(x==1)=false/\(x==2)=false/\(x==3)=false/\(x==4)=false/\(x==5)=false/\(x==6)=false/\(x==7)=false/\(x==8)=false/\(x==9)=false/\(x==10)=false/\(x==11)=false/\(x==12)=true:=by subst h;exact⟨rfl,rfl,rfl,rfl,rfl,rfl,rfl,rfl,rfl,rfl,rfl,rfl⟩
structure Hd (p:Prop):Prop where
 go:p
theorem zu {σ s:List AObj}{K:KT}{l:List AV}(hl:zhm σ.length σ)(h:K (dmT (zck l)) σ)(e:∃τ,s=σ++τ:=by first|with_reducible exact⟨_,rfl⟩|exact⟨[],(List.append_nil _).symm⟩)(h1:Low σ.length (dmT (zck l)):=by simp[zgQ,dmT,dm,dm1,zck,zbw,zfs,zxD]):Ends σ.length K (some l) s:=by
 obtain⟨τ,rfl⟩:=e;exact zpM h1 hl h
theorem zou {P:Prop}(e:P:=by(try simp only[decide_eq_true_eq,decide_eq_false_iff_not,beq_iff_eq,beq_eq_false_iff_ne,bne_iff_ne,ne_eq,Bool.not_eq_true',Bool.not_eq_false',bne_eq_false_iff_eq]at *);omega):P:=e
theorem zvh {p q:Prop}(h2:q)(h1:p:=by first|omega|rfl|decide|(simp;done)|fail):p/\q:=⟨h1,h2⟩
theorem endsL_none {σ τ:List AObj}{K:KT}{l:List AV}{r:AV}(hl:zhm σ.length σ)(hr:zeG (zqT σ.length []) (zck l)=some r)(h:K r σ):zAS σ.length [] K (some l) (σ++τ):=by
 simp only[zAS,getL,zvU,hr,zmZ];refine⟨by simp,hl,by simp,by simp,by simpa using h⟩
theorem endsL_none0 {K:KT}{l:List AV}{r:AV}(hl:zhm σ.length σ)(hr:zeG (zqT σ.length []) (zck l)=some r)(h:K r σ):zAS σ.length [] K (some l) σ:=by
 have:=endsL_none (τ:=[]) hl hr h;simpa using this
theorem endsL_own {σ τ:List AObj}{K:KT}{t sz n:Nat}{es:List (List D)}(hl:zhm σ.length σ)(ht:σ.length<=t)(hg:(σ++τ)[t]? = some (.tok sz n))(h:K (.own σ.length es) (σ++[.tok sz n])) :
  zAS σ.length [t] K (some [.own t es]) (σ++τ):=by
 have h1:¬t<σ.length:=by omega
 simp only[zAS,getL,hg,zvU,zpX,zck,zeG,zqT,idxK,h1,if_false,if_true,zmZ];exact⟨by simp,hl,by simpa using ht,by simp,h⟩
theorem zno {ks:List AObj->List Nat}{K:KT}{l:List AV}{r:AV}(hks:ks σ=[])(hl:zhm σ.length σ)(hr:zeG (zqT σ.length []) (zck l)=some r)(h:K r σ):zsR σ.length ks K (some l) σ:=by
 unfold zsR;rw[hks];exact endsL_none0 hl hr h
theorem zoJ {σ τ:List AObj}{ks:List AObj->List Nat}{K:KT}{t sz n:Nat}{es:List (List D)}(hks:ks (σ++τ)=[t])(hl:zhm σ.length σ)(ht:σ.length<=t)(hg:(σ++τ)[t]? = some (.tok sz n))(h:K (.own σ.length es) (σ++[.tok sz n])) :
  zsR σ.length ks K (some [.own t es]) (σ++τ):=by
 unfold zsR;rw[hks];exact endsL_own hl ht hg h
theorem zmz {ks:List AObj->List Nat}{K:KT}{sz n:Nat}{es:List (List D)}(hl:zhm σ.length σ)(hks:ks (σ++[.tok sz n])=[σ.length])(h:K (.own σ.length es) (σ++[.tok sz n])) :
  zsR σ.length ks K (some [.own σ.length es]) (σ++[.tok sz n]):=zoJ hks hl (Nat.le_refl _) List.getElem?_concat_length h
def zaF (N:Nat) (I:Nat->List AV->List AObj->Prop) (k:Nat) (vs:List AV) (s:List AObj):Prop:=∃n',n'<N-k/\∃k',k'≤N/\n'=N-k'∧I k' vs s
theorem zaF.next {N:Nat}{I:Nat->List AV->List AObj->Prop}{k:Nat}{vs:List AV}{s:List AObj}(hk:k<N)(h:I (k+1) vs s):zaF N I k vs s:=
 ⟨N-(k+1),by omega,k+1,by omega,rfl,h⟩
theorem zaF.to {N:Nat}{I:Nat->List AV->List AObj->Prop}{k:Nat}{vs:List AV}{s:List AObj}(k':Nat)(hk:k<k')(hk':k'≤N)(h:I k' vs s):zaF N I k vs s:=
 ⟨N-k',by omega,k',by omega,rfl,h⟩
theorem zlo {init:List AV}{round:List AV->List AObj->(List AV->List AObj->Prop)->Prop}(N:Nat)(I:Nat->List AV->List AObj->Prop){vs0:List AV}{s0:List AObj}(hw:zqk init σ vs0 s0)
  (h0:I 0 vs0 s0) (h:∀k vs s,k<=N->I k vs s->round vs s (zaF N I k)):zaZ init σ round:=by
 refine⟨fun n vs s=>∃k,k<=N/\n=N-k/\I k vs s,N,⟨vs0,s0,hw,0,Nat.zero_le _,rfl,h0⟩,?_⟩;rintro n vs s ⟨k,hk,rfl,hI⟩;exact h k vs s hk hI
theorem zn {init:List AV}{round:List AV->List AObj->(List AV->List AObj->Prop)->Prop}(N:Nat)(I:Nat->List AV->List AObj->Prop)
  (h0:I 0 init σ) (h:∀k vs s,k<=N->I k vs s->round vs s (zaF N I k)):zaZ init σ round:=zlo N I (.refl _ _) h0 h
theorem zuP:decide (((0:Nat):Int)>0)=false:=rfl
theorem zuM:decide (((1:Nat):Int)>0)=true:=rfl
theorem zuJ:decide (((2:Nat):Int)>0)=true:=rfl
theorem zuQ:(((0:Nat):Int)==0)=true:=rfl
theorem zjr:(((1:Nat):Int)==0)=false:=rfl
theorem zuN:(((1:Nat):Int)==1)=true:=rfl
theorem zuK:(((2:Nat):Int)==2)=true:=rfl
theorem zuO:(((0:Nat):Int) != 0)=false:=rfl
theorem zuL:(((1:Nat):Int) != 1)=false:=rfl
theorem zjq:(((1:Nat):Int) != 0)=true:=rfl
theorem zjs:(((0:Nat):Int) != 1)=true:=rfl
theorem zuS:((0:Int) != 0)=false:=rfl
theorem zuT:((0:Int)==0)=true:=rfl
theorem zJ (a:AV)(l:List AV)(k:AV->List AV->Prop):zaE (a::l) k=k a l:=rfl
theorem Q0 {α:Type _}{a:α}{l:List α}:(a::l)[0]? = some a:=rfl
theorem Q1 {α:Type _}{a:α}{i:Nat}{l:List α}:(a::l)[i+1]? = l[i]?:=rfl
theorem Q2 {α:Type _}{β:Type _}{f:α→β}{a:α}{l:List α}:List.map f (a::l)=f a::List.map f l:=rfl
theorem Q3 {α:Type _}{β:Type _}{f:α→β}:List.map f []=[]:=rfl
theorem Q4 {α:Type _}{a:α}{as0:List α}:(a::as0).length=as0.length+1:=rfl
theorem Q5 {α:Type _}:([]:List α).length=0:=rfl
theorem Q6 {α:Type _}(as0 bs cs:List α):as0++bs++cs=as0++(bs++cs):=List.append_assoc as0 bs cs
theorem Q7 {α:Type _}{a:α}{as0 bs:List α}:a::as0++bs=a::(as0++bs):=rfl
theorem Q8 {α:Type _}(as0:List α):[]++as0=as0:=rfl
theorem Q9 {α:Type _}{x:α}{xs:List α}{a:α}:(x::xs).set 0 a=a::xs:=rfl
theorem Q10 {α:Type _}{x:α}{xs:List α}{i:Nat}{a:α}:(x::xs).set (i+1) a=x::xs.set i a:=rfl
theorem Q11 (n m k:Nat):n+m+k=n+(m+k):=Nat.add_assoc n m k
theorem Q12 (n:Nat):0+n=n:=Nat.zero_add n
theorem Q13 (n:Nat):n+0=n:=rfl
theorem Q14 (n:Nat):n*1=n:=Nat.mul_one n
theorem Q15 (n:Nat):((n:Int)).toNat=n:=rfl
theorem Q16 {α:Type _}{β:Type _}(a:α)(f:α→β):Option.map f (some a)=some (f a):=rfl
theorem Q17 {α:Type _}{β:Type _}(f:α→β):Option.map f none=none:=rfl
theorem Q18:(false=true)=False:=Bool.false_eq_true
theorem Q19 {α:Sort _}{x:Decidable True}(t e:α):(if True then t else e)=t:=if_true t e
theorem Q20 {α:Sort _}{x:Decidable False}(t e:α):(if False then t else e)=e:=if_false t e
theorem Q21 (p:Prop):(True/\p)=p:=true_and p
theorem Q22 (p:Prop):(p/\True)=p:=and_true p
theorem Q23 {α:Type _}{a:α}{as0:List α}{i:Nat}:List.take (i+1) (a::as0)=a::List.take i as0:=rfl
theorem Q24 {α:Type _}{l:List α}:List.take 0 l=[]:=rfl
theorem Q25 {α:Type _}{a:α}{l:List α}{i:Nat}:List.drop (i+1) (a::l)=List.drop i l:=rfl
theorem Q26 {α:Type _}{l:List α}:List.drop 0 l=l:=rfl
theorem Q27 {α:Type _}{i:Nat}:List.take i ([]:List α)=[]:=List.take_nil
theorem Q28 {α:Type _}{i:Nat}:List.drop i ([]:List α)=[]:=List.drop_nil
theorem Q29 (n:Nat):n<=n:=Nat.le_refl n
theorem Q30 {α:Type _}(as0:List α):as0++[]=as0:=List.append_nil as0
theorem Q31 {α:Type _}{a:α}{l:List α}{f:α->Bool}:(a::l).all f=(f a&&l.all f):=rfl
theorem Q32 {α:Type _}{f:α->Bool}:[].all f=true:=rfl
theorem Q33 (b:Bool):(b&&true)=b:=Bool.and_true b
theorem Q34 (b:Bool):(b&&b)=b:=Bool.and_self b
theorem Q35 (n:Nat):¬n<n:=Nat.lt_irrefl n
theorem Q36 (n:Nat):0*n=0:=Nat.zero_mul n
theorem Q37 (n:Nat):n-0=n:=rfl
theorem Q38 {α:Type _}{l:List α}{L:List (List α)}:(l::L).flatten=l++L.flatten:=rfl
theorem Q39 {α:Type _}:([]:List (List α)).flatten=[]:=rfl
def zbt (n:Nat):List UInt8:=if n<128 then [UInt8.ofNat n]else UInt8.ofNat (n % 128+128)::zbt (n / 128)
termination_by n
decreasing_by omega
theorem zmn {n:Nat}(h:n<128):zbt n=[UInt8.ofNat n]:=by rw[zbt,if_pos h]
theorem zvq {n:Nat}(h:¬n<128):zbt n=UInt8.ofNat (n % 128+128)::zbt (n / 128):=by rw[zbt,if_neg h]
theorem numB_len:∀(k n:Nat),n<128 ^ (k+1)→1<=(zbt n).length/\(zbt n).length<=k+1
 | 0,n,h=>by rw[zmn (by simpa using h)];simp
 | k+1,n,h=>by
  by_cases hs:n<128
  ·rw[zmn hs];simp
  ·rw[zvq hs];have:=numB_len k (n / 128) (by rw[Nat.div_lt_iff_lt_mul (by omega)];rw[Nat.pow_succ]at h;exact h);simp;omega
theorem zj {n:Nat}(h:n<18446744073709551616):1<=(zbt n).length/\(zbt n).length<=10:=numB_len 9 n (by omega)
theorem or128:∀x:Fin 256,(BitVec.ofInt 8 (x.val:Int) ||| BitVec.ofInt 8 128).toNat=x.val % 128+128:=by decide +kernel
theorem wrap8 (n:Nat):IntKind.u8.wrap (n:Int)=((n % 256:Nat):Int):=by
 simp[IntKind.wrap,IntKind.signed,IntKind.bits]
theorem zvj {n:Nat}(h:n<256):IntKind.u8.wrap (n:Int)=(n:Int):=by rw[wrap8,Nat.mod_eq_of_lt h]
theorem zdQ {n:Nat}(h:n<18446744073709551616):IntKind.u64.wrap (n:Int)=(n:Int):=by
 simp[IntKind.wrap,IntKind.signed,IntKind.bits];omega
theorem zaT {n:Int}(h1:-9223372036854775808<=n)(h2:n<=9223372036854775807):IntKind.i64.wrap n=n:=IntWalk.i64_in n ⟨h1,h2⟩
theorem zpR {n:Nat}(h:n<256):((UInt8.ofNat n).toNat:Int)=(n:Int):=by
 simp;omega
structure TOp where
 kind:Int
 topic:List UInt8
 group:List UInt8
 offset:Int
 recs:List (List UInt8)
deriving DecidableEq
def zdv (rs:List (List UInt8)):List (List D):=rs.map fun r=>[D.slice (bcs r)]
def opA (o:TOp):AV:=.agg [.d (.int .i64 o.kind),.d (.str o.topic),.d (.str o.group),.d (.int .i64 o.offset),.d (.slice (zdv o.recs))]
def noOp:TOp:=⟨0,[],[],0,[]⟩
theorem zy (rs:List (List UInt8)):(zdv rs).length=rs.length:=by simp[zdv]
theorem zgA {rs:List (List UInt8)}{k:Nat}{r:List UInt8}(h:rs[k]? = some r):(zdv rs)[k]? = some [D.slice (bcs r)]:=by simp[zdv,h]
def zot (o:TOp):TOp:=
 if o.kind=1 then{ noOp with kind:=o.kind,topic:=o.topic }
 else if o.kind=2 then{ noOp with kind:=o.kind,topic:=o.topic,recs:=o.recs }
 else if o.kind=3 then{ noOp with kind:=o.kind,topic:=o.topic,group:=o.group,offset:=o.offset }
 else if o.kind=4 then{ noOp with kind:=o.kind,topic:=o.topic,offset:=o.offset }
 else{ noOp with kind:=o.kind }
def ziC (o:TOp):Bool:=decide (0<=o.kind/\o.kind<=4)
def zaM (name:List UInt8->Bool) (o:TOp):Int:=
 if ziC o=false∨o≠zot o then 60
 else if o.kind≠0/\name o.topic=false then 61
 else if o.kind=3/\name o.group=false then 61
 else if o.kind=2/\(o.recs.length<1∨o.recs.length>4∨o.recs.any (fun r=>decide (r.length>64))=true)then 62
 else if o.offset<0∨o.offset>9007199254740992 then 60
 else 0
def zkk (x:List UInt8):List UInt8:=zbt x.length++x
def zrT (rs:List (List UInt8)):List UInt8:=(rs.map zkk).flatten
def opB (o:TOp):List UInt8:=
 zbt o.kind.toNat++((if o.kind≠0 then zkk o.topic else []) ++
  (if o.kind=2 then zbt o.recs.length++zrT o.recs else if o.kind=3 then zkk o.group++zbt o.offset.toNat else if o.kind=4 then zbt o.offset.toNat else []))
theorem opB_0 {o:TOp}(h:o.kind=0):opB o=zbt o.kind.toNat:=by simp[opB,h]
theorem opB_1 {o:TOp}(h:o.kind=1):opB o=zbt o.kind.toNat++(zbt o.topic.length++o.topic):=by simp[opB,h,zkk]
theorem opB_2 {o:TOp}(h:o.kind=2):opB o=zbt o.kind.toNat++(zbt o.topic.length++(o.topic++(zbt o.recs.length++zrT o.recs))):=by simp[opB,h,zkk]
theorem opB_3 {o:TOp}(h:o.kind=3):opB o=zbt o.kind.toNat++(zbt o.topic.length++(o.topic++(zbt o.group.length++(o.group++zbt o.offset.toNat)))):=by simp[opB,h,zkk]
theorem opB_4 {o:TOp}(h:o.kind=4):opB o=zbt o.kind.toNat++(zbt o.topic.length++(o.topic++zbt o.offset.toNat)):=by simp[opB,h,zkk]
def zmW (o:TOp):Nat:=o.topic.length+o.group.length+(o.recs.map fun r=>r.length+10).sum
theorem zdh {x:List UInt8}(h:x.length<18446744073709551616):(zkk x).length<=x.length+10:=by
 have:=zj h;simp only[zkk,List.length_append];omega
theorem zlU (rs:List (List UInt8))(h:(rs.map fun r=>r.length+10).sum<=1073741824):∀k,(zrT (rs.take k)).length<=(rs.map fun r=>r.length+10).sum:=by
 have key:∀l:List (List UInt8),(l.map fun r=>r.length+10).sum<=1073741824->(zrT l).length<=(l.map fun r=>r.length+10).sum:=by
  intro l;induction l with
  | nil=>simp[zrT]
  | cons r l ih=>
   intro h
   simp only[List.map_cons,List.sum_cons]at h ⊢
   have h1:=ih (by omega)
   have h2:=zdh (x:=r) (by omega)
   simp only[zrT,List.map_cons,List.flatten_cons,List.length_append]at h1 ⊢
   omega
 have sum_take:∀(l:List (List UInt8)) k,((l.take k).map fun r=>r.length+10).sum<=(l.map fun r=>r.length+10).sum:=by
  intro l;induction l with
  | nil=>simp
  | cons r l ih=>
   intro k
   cases k with
   | zero=>simp
   | succ k=>simp only[List.take_succ_cons,List.map_cons,List.sum_cons];have:=ih k;omega
 intro k;have h1:=sum_take rs k;have:=key (rs.take k) (by omega);omega
theorem zyt {rs:List (List UInt8)}{k:Nat}{r:List UInt8}(h:rs[k]? = some r):zrT (rs.take (k+1))=zrT (rs.take k)++zkk r:=by
 rw[List.take_add_one,h];simp[zrT]
theorem znb (rs:List (List UInt8)):rs.length<=(rs.map fun r=>r.length+10).sum:=by
 induction rs with
 | nil=>simp
 | cons r l ih=>simp only[List.map_cons,List.sum_cons,List.length_cons];omega
theorem rec_le {rs:List (List UInt8)}{r:List UInt8}(h:r∈rs):r.length<=(rs.map fun r=>r.length+10).sum:=by
 induction rs with
 | nil=>cases h
 | cons x l ih=>
  simp only[List.map_cons,List.sum_cons]
  rcases List.mem_cons.1 h with rfl|h
  ·omega
  ·have:=ih h;omega
theorem zvv {name:List UInt8->Bool}{o:TOp}(h:zaM name o=0):0<=o.kind/\o.kind<=4/\0<=o.offset/\o.offset<=9007199254740992/\o=zot o:=by
 unfold zaM ziC at h;grind
theorem zct {α:Type}{a b:List α}(hl:a.length=b.length){k:Nat}(hk:k=a.length)(h:a.take k=b.take k):a=b:=by
 rw[hk,List.take_length,hl,List.take_length]at h;exact h
theorem zbs {α:Type}{a b:List α}{k:Nat}{x y:α}(ha:a[k]? = some x)(hb:b[k]? = some y)(h:a.take k=b.take k)(e:x=y):a.take (k+1)=b.take (k+1):=by
 rw[List.take_add_one,List.take_add_one,ha,hb,h,e]
def at8 (s:List UInt8) (i:Nat):Nat:=(s[i]?.getD 0).toNat
def znY (c:Nat):Nat:=if c<128 then 1 else if 194<=c/\c<224 then 2 else if 224<=c/\c<240 then 3 else if 240<=c/\c<245 then 4 else 0
def zil (s:List UInt8) (z:Nat):Nat->Nat
 | 0=>at8 s 0 % 2 ^ (7-z)
 | i+1=>zil s z i*64+at8 s (i+1) % 64
def ztM (s:List UInt8) (i:Nat):Bool:=decide (128<=at8 s i/\at8 s i<192)
def zhf (z:Nat):Nat:=if z=2 then 128 else if z=3 then 2048 else if z=4 then 65536 else 0
def zmi (s:List UInt8):Nat × Nat:=
 let z:=znY (at8 s 0)
 if z=0∨z>s.length then(0,0)
 else if z=1 then(at8 s 0,1)
 else if (∀i,i<z→1<=i->ztM s i=true)then
  if zil s z (z-1)<zhf z∨zil s z (z-1)>1114111∨(55296<=zil s z (z-1)/\zil s z (z-1)<57344)then(0,0)else(zil s z (z-1),z)
 else(0,0)
theorem zxe (s:List UInt8)(i:Nat):at8 s i<256:=(s[i]?.getD 0).toNat_lt
theorem znz (s:List UInt8)(p i:Nat):at8 (s.drop p) i=at8 s (p+i):=by simp[at8,List.getElem?_drop]
theorem get_at8 (s:List UInt8)(i:Nat):((ByteArray.mk s.toArray).get! i).toNat=at8 s i:=by
 simp only[ByteArray.get!,at8];rw[getElem!_def];simp only[List.getElem?_toArray];cases s[i]? <;> rfl
theorem all2 (p:Nat->Bool):(∀i,i<2→1<=i->p i=true)↔p 1=true:=⟨fun h=>h 1 (by omega) (by omega),fun h i h1 h2=>by
 obtain rfl:i=1:=by omega
 exact h⟩
theorem all3 (p:Nat->Bool):(∀i,i<3→1<=i->p i=true)↔p 1=true/\p 2=true:=⟨fun h=>⟨h 1 (by omega) (by omega),h 2 (by omega) (by omega)⟩,fun h i h1 h2=>by
 have:i=1∨i=2:=by omega
 rcases this with rfl|rfl
 ·exact h.1
 ·exact h.2⟩
theorem all4 (p:Nat->Bool):(∀i,i<4→1<=i->p i=true)↔p 1=true/\p 2=true/\p 3=true:=⟨fun h=>⟨h 1 (by omega) (by omega),h 2 (by omega) (by omega),h 3 (by omega) (by omega)⟩,fun h i h1 h2=>by
 have:i=1∨i=2∨i=3:=by omega
 rcases this with rfl|rfl|rfl
 ·exact h.1
 ·exact h.2.1
 ·exact h.2.2⟩
def zsj (s:List UInt8):Nat × Nat:=if (zmi s).2=0 then(65533,1)else zmi s
theorem decode_eq (s:List UInt8)(p:Nat)(hp:p<s.length):Utf8.decode ⟨s.toArray⟩ p=zsj (s.drop p):=by
 have hsz:(ByteArray.mk s.toArray).size=s.length:=by simp[ByteArray.size]
 have hl:(s.drop p).length=s.length-p:=by simp
 unfold Utf8.decode;simp only[get_at8,hsz,Nat.add_zero];have h0:=zxe s p;have h1:=zxe s (p+1);have h2:=zxe s (p+2);have h3:=zxe s (p+3);simp only[zsj,zmi,znY,hl,znz,Nat.add_zero];generalize e0:at8 s p=b0 at *;generalize e1:at8 s (p+1)=b1 at *;generalize e2:at8 s (p+2)=b2 at *;generalize e3:at8 s (p+3)=b3 at *;have hc1:ztM (s.drop p) 1=decide (128<=b1/\b1<192):=by simp only[ztM,znz,e1]
 have hc2:ztM (s.drop p) 2=decide (128<=b2/\b2<192):=by simp only[ztM,znz,e2]
 have hc3:ztM (s.drop p) 3=decide (128<=b3/\b3<192):=by simp only[ztM,znz,e3]
 have p2:zil (s.drop p) 2 1=b0 % 32*64+b1 % 64:=by simp only[zil,znz,Nat.add_zero,e0,e1]
 have p3:zil (s.drop p) 3 2=b0 % 16*4096+b1 % 64*64+b2 % 64:=by simp only[zil,znz,Nat.add_zero,e0,e1,e2];omega
 have p4:zil (s.drop p) 4 3=b0 % 8*262144+b1 % 64*4096+b2 % 64*64+b3 % 64:=by simp only[zil,znz,Nat.add_zero,e0,e1,e2,e3];omega
 have c1:(b1 / 64==2)=decide (128<=b1/\b1<192):=by rw[Bool.eq_iff_iff];simp;omega
 have c2:(b2 / 64==2)=decide (128<=b2/\b2<192):=by rw[Bool.eq_iff_iff];simp;omega
 have c3:(b3 / 64==2)=decide (128<=b3/\b3<192):=by rw[Bool.eq_iff_iff];simp;omega
 simp only[c1,c2,c3];by_cases a1:b0<128
 ·have:¬(1>s.length-p):=by omega
  simp[a1,this]
 by_cases a2:194<=b0/\b0<224
 ·have q1:(b0 / 32==6)=true:=by simp;omega
  have q2:(b0 / 16==14)=false:=by simp;omega
  have q3:(b0 / 8==30)=false:=by simp;omega
  simp only[a1,a2,q1,q2,q3,if_false,if_true,all2,hc1,p2,zhf];by_cases l1:p+1<s.length
  ·have:¬(2>s.length-p):=by omega
   by_cases k1:128<=b1/\b1<192
   ·have g1:128<=b0 % 32*64+b1 % 64:=by omega
    have g2:¬(b0 % 32*64+b1 % 64<128∨b0 % 32*64+b1 % 64>1114111∨55296<=b0 % 32*64+b1 % 64/\b0 % 32*64+b1 % 64<57344):=by omega
    simp[l1,this,k1,g1,g2,all2,hc1,p2,zhf,Utf8.runeError]
   ·simp[l1,this,k1,all2,hc1,p2,zhf,Utf8.runeError]
  ·have:2>s.length-p:=by omega
   simp[l1,this,all2,hc1,p2,zhf,Utf8.runeError]
 by_cases a3:224<=b0/\b0<240
 ·have q1:(b0 / 32==6)=false:=by simp;omega
  have q2:(b0 / 16==14)=true:=by simp;omega
  have q3:(b0 / 8==30)=false:=by simp;omega
  simp only[a1,a2,a3,q1,q2,q3,if_false,if_true,all3,hc1,hc2,p3,zhf];by_cases l1:p+2<s.length
  ·have:¬(3>s.length-p):=by omega
   have l2:p+1<s.length:=by omega
   by_cases k1:128<=b1/\b1<192
   ·by_cases k2:128<=b2/\b2<192
    ·obtain⟨v,hv⟩:∃v,v=b0 % 16*4096+b1 % 64*64+b2 % 64:=⟨_,rfl⟩;simp only[← hv];rw[← hv]at p3;have hv':v<65536:=by omega
     by_cases g:v<2048∨55296<=v/\v<57344
     ·have g1:(decide (v≥2048)&&Utf8.valid (v:Int))=false:=by simp[Utf8.valid];omega
      have g2:v<2048∨v>1114111∨55296<=v/\v<57344:=by omega
      simp[l1,l2,this,k1,k2,g2,g1,all3,hc1,hc2,p3,zhf,Utf8.runeError]
     ·have g1:(decide (v≥2048)&&Utf8.valid (v:Int))=true:=by simp[Utf8.valid];omega
      have g2:¬(v<2048∨v>1114111∨55296<=v/\v<57344):=by omega
      rw[g1];simp[l1,l2,this,k1,k2,g2,all3,hc1,hc2,p3,zhf,Utf8.runeError]
    ·simp[l1,l2,this,k1,k2,all3,hc1,hc2,p3,zhf,Utf8.runeError]
   ·simp[l1,l2,this,k1,all3,hc1,hc2,p3,zhf,Utf8.runeError]
  ·have:3>s.length-p:=by omega
   simp[l1,this,all3,hc1,hc2,p3,zhf,Utf8.runeError]
 by_cases a4:240<=b0/\b0<245
 ·have q1:(b0 / 32==6)=false:=by simp;omega
  have q2:(b0 / 16==14)=false:=by simp;omega
  have q3:(b0 / 8==30)=true:=by simp;omega
  simp only[a1,a2,a3,a4,q1,q2,q3,if_false,if_true,all4,hc1,hc2,hc3,p4,zhf];by_cases l1:p+3<s.length
  ·have:¬(4>s.length-p):=by omega
   have l2:p+1<s.length:=by omega
   have l3:p+2<s.length:=by omega
   by_cases k1:128<=b1/\b1<192
   ·by_cases k2:128<=b2/\b2<192
    ·by_cases k3:128<=b3/\b3<192
     ·obtain⟨v,hv⟩:∃v,v=b0 % 8*262144+b1 % 64*4096+b2 % 64*64+b3 % 64:=⟨_,rfl⟩;simp only[← hv];rw[← hv]at p4;by_cases g:v<65536∨v>1114111
      ·have g1:(decide (v≥65536)&&Utf8.valid (v:Int))=false:=by simp[Utf8.valid];omega
       have g2:v<65536∨v>1114111∨55296<=v/\v<57344:=by omega
       rw[g1];simp[l1,l2,l3,this,k1,k2,k3,g2,all4,hc1,hc2,hc3,p4,zhf,Utf8.runeError]
      ·have g1:(decide (v≥65536)&&Utf8.valid (v:Int))=true:=by simp[Utf8.valid];omega
       have g2:¬(v<65536∨v>1114111∨55296<=v/\v<57344):=by omega
       rw[g1];simp[l1,l2,l3,this,k1,k2,k3,g2,all4,hc1,hc2,hc3,p4,zhf,Utf8.runeError]
     ·simp[l1,l2,l3,this,k1,k2,k3,all4,hc1,hc2,hc3,p4,zhf,Utf8.runeError]
    ·simp[l1,l2,l3,this,k1,k2,all4,hc1,hc2,hc3,p4,zhf,Utf8.runeError]
   ·simp[l1,l2,l3,this,k1,all4,hc1,hc2,hc3,p4,zhf,Utf8.runeError]
  ·have:4>s.length-p:=by omega
   simp[l1,this,all4,hc1,hc2,hc3,p4,zhf,Utf8.runeError]
 ·have q2:(b0 / 16==14)=false:=by simp;omega
  simp only[a1,a2,a3,a4,q2,if_false,if_true];by_cases q:b0 / 32=6
  ·have h192:b0=192∨b0=193:=by omega
   have q3:(b0 / 8==30)=false:=by simp;omega
   have g:¬(b0 % 32*64+b1 % 64≥128):=by omega
   simp[q,q3,g,Utf8.runeError]
  ·by_cases q':b0 / 8=30
   ·have g:¬((b0 % 8*262144+b1 % 64*4096+b2 % 64*64+b3 % 64)<=1114111):=by omega
    obtain⟨v,hv⟩:∃v,v=b0 % 8*262144+b1 % 64*4096+b2 % 64*64+b3 % 64:=⟨_,rfl⟩;rw[← hv]at g;simp only[← hv];have g1:Utf8.valid (v:Int)=false:=by simp[Utf8.valid];omega
    simp[q,q',g1,Utf8.runeError]
   ·simp[q,q',Utf8.runeError]
theorem zmF (s:List UInt8):(zmi s).2<=s.length/\(zmi s).2<=4/\(zmi s).1<=1114111:=by
 have h0:=zxe s 0;have hz:znY (at8 s 0)<=4:=by unfold znY;split<;>(try split)<;>(try split)<;>(try split)<;>omega
 simp only[zmi];split
 ·simp
 ·rename_i h;split
  ·rename_i h1;simp only[];omega
  ·split
   ·split
    ·simp
    ·simp only[];omega
   ·simp
theorem goDec_width (s:List UInt8)(h:s≠[]):1<=(zsj s).2/\(zsj s).2<=s.length/\(zsj s).1<=1114111:=by
 have h1:=zmF s;have h2:0<s.length:=List.length_pos_iff.2 h;unfold zsj;split
 ·simp;omega
 ·omega
def badF (v:Nat):Bool:=decide (v<33∨(127<=v/\v<=159)∨v=47∨v=65533)
def zfh:Nat->List UInt8->Option Nat
 | 0,_=>none
 | f+1,s=>if s=[]then some 0 else if (zmi s).2=0∨badF (zmi s).1=true then none else(zfh f (s.drop (zmi s).2)).map (· + 1)
def ziL (s:List UInt8):Nat:=match zfh (s.length+1) s with
 | some n=>if n>16 then 0 else n
 | none=>0
def zdY (s:List UInt8):Bool:=decide (0<ziL s)
theorem goDec_bad (s:List UInt8):badF (zsj s).1=(decide ((zmi s).2=0) || badF (zmi s).1):=by
 unfold zsj;split
 ·rename_i h;simp[h,badF]
 ·rename_i h;simp[h]
theorem goDec_good {s:List UInt8}(h:badF (zsj s).1=false):zsj s=zmi s/\(zmi s).2≠0/\badF (zmi s).1=false:=by
 rw[goDec_bad]at h;simp at h;exact⟨by simp[zsj,h.1],h.1,h.2⟩
theorem zrw:∀(f g:Nat) (s:List UInt8),s.length<f->s.length<g->zfh f s=zfh g s
 | 0,_,_,h,_=>by omega
 | _,0,_,_,h=>by omega
 | f+1,g+1,s,h1,h2=>by
  simp only[zfh];split
  ·rfl
  ·rename_i hs;split
   ·rfl
   ·rename_i hd;have hw:=zmF s;have:0<s.length:=List.length_pos_iff.2 hs;rw[zrw f g _ (by simp;omega) (by simp;omega)]
theorem list_as {α β:Type}{f:α→β}:∀ {l:List β},(∀e∈l,∃a,e=f a)->∃as_:List α,l=as_.map f
 | [],_=>⟨[],rfl⟩
 | e::l,h=>by
  obtain⟨a,rfl⟩:=h e List.mem_cons_self;obtain⟨as_,rfl⟩:=list_as (l:=l) (fun x hx=>h x (List.mem_cons_of_mem _ hx));exact⟨a::as_,rfl⟩
theorem fits1 {t:Ty}{d:D}(h:zcZ [t] [d]):zlg t d:=h.2 0 t d rfl rfl
theorem zyA {t:Ty}{ds:List D}(h:zcZ [t] ds):∃d,ds=[d]/\zlg t d:=by
 match ds,h with
 | [d],h=>exact⟨d,rfl,fits1 h⟩
theorem zt {t:Ty}{ts:List Ty}{ds:List D}(h:zcZ (t::ts) ds):∃d ds',ds=d::ds'∧zlg t d/\zcZ ts ds':=by
 match ds,h with
 | d::ds',h=>exact⟨d,ds',rfl,h.2 0 t d rfl rfl,by have:=h.1;simpa using this,fun i t d h1 h2=>h.2 (i+1) t d h1 h2⟩
theorem zeF {ds:List D}(h:zcZ [] ds):ds=[]:=by
 have:=h.1;simpa using this
theorem dec_int {k:IntKind}{d:D}(h:zlg (.int k) d):∃n,d=.int k n/\(Lit.int k n).wf=true:=by cases h with|int _ n h=>exact⟨n,rfl,h⟩
theorem zaG {d:D}(h:zlg (.int .i64) d):∃n,d=.int .i64 n∧-9223372036854775808<=n/\n<=9223372036854775807:=by
 obtain⟨n,hd,h2⟩:=dec_int h;exact⟨n,hd,by simpa [Lit.wf,IntKind.min,IntKind.max,IntKind.signed,IntKind.bits] using h2⟩
theorem dec_u8 {d:D}(h:zlg (.int .u8) d):∃b:UInt8,d=.int .u8 b.toNat:=by
 obtain⟨n,hd,h2⟩:=dec_int h;have h':0<=n/\n<=255:=by simpa [Lit.wf,IntKind.min,IntKind.max,IntKind.signed,IntKind.bits] using h2
 exact⟨UInt8.ofNat n.toNat,by rw[hd,zpR (by omega)];congr 1;omega⟩
theorem ztK {d:D}(h:zlg .str d):∃s,d=.str s:=by cases h with|str s _=>exact⟨s,rfl⟩
theorem zfR {α:Type}{ts:List Ty}{d:D}{f:α->List D}(h:zlg (.slice ts) d)(hf:∀e,zcZ ts e->∃a,e=f a):∃as_:List α,d=.slice (as_.map f):=by
 cases h with
 | slice _ es h1 h2 h3=>
  obtain⟨as_,rfl⟩:=list_as (f:=f) (fun e he=>hf e ⟨h2 e he,h3 e he⟩)
  exact⟨as_,rfl⟩
theorem zwN {d:D}(h:zlg (.slice [.int .u8]) d):∃bs,d=.slice (bcs bs):=zfR h fun e he=>by
 obtain⟨d,rfl,h⟩:=zyA he;obtain⟨b,rfl⟩:=dec_u8 h;exact⟨b,rfl⟩
theorem dec_recs {d:D}(h:zlg (.slice [.slice [.int .u8]]) d):∃rs,d=.slice (zdv rs):=zfR h fun e he=>by
 obtain⟨d,rfl,h⟩:=zyA he;obtain⟨b,rfl⟩:=zwN h;exact⟨b,rfl⟩
theorem zvy (bs:List UInt8):zdp (bcs bs)=bs.length:=by
 induction bs with
 | nil=>rfl
 | cons b bs ih=>simp only[bcs,List.map_cons,zch,zdp,zcP,zfT,List.length_cons]at ih ⊢;omega
theorem bulk_recs (rs:List (List UInt8)):zdp (zdv rs)=(rs.map fun r=>r.length+1).sum:=by
 induction rs with
 | nil=>rfl
 | cons r rs ih=>simp only[zdv,List.map_cons,zdp,zcP,zfT,List.sum_cons,zvy]at ih ⊢;omega
def tyOp:List Ty:=[.int .i64,.str,.str,.int .i64,.slice [.slice [.int .u8]]]
def zqt (n:Int):Prop:=-9223372036854775808<=n/\n<=9223372036854775807
def opR (o:TOp):Prop:=zqt o.kind/\zqt o.offset
def opD (o:TOp):List D:=[.int .i64 o.kind,.str o.topic,.str o.group,.int .i64 o.offset,.slice (zdv o.recs)]
theorem dec_op {ds:List D}(h:zcZ tyOp ds):∃o:TOp,ds=opD o/\opR o:=by
 obtain⟨d1,ds1,rfl,h1,g1⟩:=zt h;obtain⟨k,rfl,k1,k2⟩:=zaG h1;obtain⟨d2,ds2,rfl,h2,g2⟩:=zt g1;obtain⟨t,rfl⟩:=ztK h2;obtain⟨d3,ds3,rfl,h3,g3⟩:=zt g2;obtain⟨g,rfl⟩:=ztK h3;obtain⟨d4,ds4,rfl,h4,g4⟩:=zt g3;obtain⟨f,rfl,f1,f2⟩:=zaG h4;obtain⟨d5,ds5,rfl,h5,g5⟩:=zt g4;obtain⟨r,rfl⟩:=dec_recs h5;rw[zeF g5];exact⟨⟨k,t,g,f,r⟩,rfl,⟨k1,k2⟩,f1,f2⟩
theorem opSz_bulk (o:TOp):zmW o<=10*zcP (opD o):=by
 have:(o.recs.map fun r=>r.length+10).sum<=10*(o.recs.map fun r=>r.length+1).sum:=by
  induction o.recs with
  | nil=>simp
  | cons r rs ih=>simp only[List.map_cons,List.sum_cons];omega
 simp only[zmW,opD,zcP,zfT,bulk_recs];omega
structure zK where
 key:Int
 dig:Int
deriving DecidableEq
structure zr where
 client:Int
 time:Int
 op:TOp
 key:Int
 dig:Int
deriving DecidableEq
structure zjY where
 view:Int
 seq:Int
 dig:Int
 fkey:Int
 fdig:Int
 signs:List zK
 batch:List zr
deriving DecidableEq
structure zjt where
 seq:Int
 dig:Int
 signs:List zK
deriving DecidableEq
structure zbk where
 view:Int
 src:Int
 cert:zjt
 above:List zjY
 key:Int
 dig:Int
deriving DecidableEq
structure zhQ where
 view:Int
 seq:Int
 batch:List zr
 key:Int
 dig:Int
deriving DecidableEq
def zgo (s:zK):List D:=[.int .i64 s.key,.int .i64 s.dig]
abbrev zat (l:List zK):List (List D):=l.map zgo
def zay (x:zr):List D:=[.int .i64 x.client,.int .i64 x.time,.int .i64 x.op.kind,.str x.op.topic,.str x.op.group,.int .i64 x.op.offset,.slice (zdv x.op.recs),.int .i64 x.key,.int .i64 x.dig]
abbrev zbA (b:List zr):List (List D):=b.map zay
def zfy (p:zjY):List D:=[.int .i64 p.view,.int .i64 p.seq,.int .i64 p.dig,.int .i64 p.fkey,.int .i64 p.fdig,.slice (zat p.signs),.slice (zbA p.batch)]
abbrev zft (l:List zjY):List (List D):=l.map zfy
def certD (c:zjt):List D:=[.int .i64 c.seq,.int .i64 c.dig,.slice (zat c.signs)]
def zag (c:zbk):List D:=[.int .i64 c.view,.int .i64 c.src,.int .i64 c.cert.seq,.int .i64 c.cert.dig,.slice (zat c.cert.signs),.slice (zft c.above),.int .i64 c.key,.int .i64 c.dig]
abbrev zap (l:List zbk):List (List D):=l.map zag
def zdd (x:zhQ):List D:=[.int .i64 x.view,.int .i64 x.seq,.slice (zbA x.batch),.int .i64 x.key,.int .i64 x.dig]
abbrev zbq (l:List zhQ):List (List D):=l.map zdd
theorem zjj {α:Type}{f:α->List D}{n:Nat}(hf:∀a,(f a).length=n)(l:List α):∀e∈l.map f,e.length=n:=by
 intro e he;obtain⟨a,_,rfl⟩:=List.mem_map.1 he;exact hf a
theorem batch_nine (l:List zr):∀e∈zbA l,e.length=9:=zjj (f:=zay) (fun _=>rfl) l
theorem preps_seven (l:List zjY):∀e∈zft l,e.length=7:=zjj (f:=zfy) (fun _=>rfl) l
theorem changes_eight (l:List zbk):∀e∈zap l,e.length=8:=zjj (f:=zag) (fun _=>rfl) l
theorem entries_five (l:List zhQ):∀e∈zbq l,e.length=5:=zjj (f:=zdd) (fun _=>rfl) l
theorem zQ {α:Type}{f:α->List D}{l:List α}{k:Nat}{x:α}(h:l[k]? = some x):(l.map f)[k]? = some (f x):=by simp[h]
theorem map_snoc {α:Type}{f:α->List D}{l:List α}{k:Nat}{x:α}(h:l[k]? = some x):(l.take k).map f++[f x]=(l.take (k+1)).map f:=by
 rw[List.take_add_one,h];simp
def zvG:List Ty:=[.int .i64,.int .i64]
def zvm:List Ty:=[.int .i64,.int .i64,.int .i64,.str,.str,.int .i64,.slice [.slice [.int .u8]],.int .i64,.int .i64]
def tyPrep:List Ty:=[.int .i64,.int .i64,.int .i64,.int .i64,.int .i64,.slice zvG,.slice zvm]
def tyChange:List Ty:=[.int .i64,.int .i64,.int .i64,.int .i64,.slice zvG,.slice tyPrep,.int .i64,.int .i64]
def signR (s:zK):Prop:=zqt s.key/\zqt s.dig
def signedR (x:zr):Prop:=zqt x.client/\zqt x.time/\opR x.op/\zqt x.key/\zqt x.dig
def prepR (p:zjY):Prop:=zqt p.view/\zqt p.seq/\zqt p.dig/\zqt p.fkey/\zqt p.fdig
def changeR (c:zbk):Prop:=zqt c.view/\zqt c.src/\zqt c.cert.seq/\zqt c.cert.dig/\(∀p∈c.above,prepR p)/\zqt c.key/\zqt c.dig
theorem zyX {α:Type}{ts:List Ty}{d:D}{f:α->List D}{R:α->Prop}(h:zlg (.slice ts) d)(hf:∀e,zcZ ts e->∃a,e=f a/\R a):∃as_:List α,d=.slice (as_.map f)/\∀a∈as_,R a:=by
 cases h with
 | slice _ es h1 h2 h3=>
  have:∀l:List (List D),(∀e∈l,zcZ ts e)->∃as_:List α,l=as_.map f/\∀a∈as_,R a:=by
   intro l;induction l with
   | nil=>intro _;exact⟨[],rfl,by simp⟩
   | cons e l ih=>
    intro hl
    obtain⟨a,rfl,ha⟩:=hf e (hl e (.head _))
    obtain⟨as_,rfl,has⟩:=ih fun e he=>hl e (.tail _ he)
    exact⟨a::as_,rfl,by simpa using ⟨ha,has⟩⟩
  obtain⟨as_,rfl,h4⟩:=this es (fun e he=>⟨h2 e he,h3 e he⟩)
  exact⟨as_,rfl,h4⟩
theorem zvu {ds:List D}(h:zcZ zvG ds):∃s:zK,ds=zgo s/\signR s:=by
 obtain⟨d1,ds,rfl,h1,h⟩:=zt h;obtain⟨d2,ds,rfl,h2,h⟩:=zt h;obtain rfl:=zeF h;obtain⟨a,rfl,ha⟩:=zaG h1;obtain⟨b,rfl,hb⟩:=zaG h2;exact⟨⟨a,b⟩,rfl,ha,hb⟩
theorem ztL {ds:List D}(h:zcZ zvm ds):∃s:zr,ds=zay s/\signedR s:=by
 obtain⟨d1,ds,rfl,h1,h⟩:=zt h;obtain⟨d2,ds,rfl,h2,h⟩:=zt h;obtain⟨d3,ds,rfl,h3,h⟩:=zt h;obtain⟨d4,ds,rfl,h4,h⟩:=zt h;obtain⟨d5,ds,rfl,h5,h⟩:=zt h;obtain⟨d6,ds,rfl,h6,h⟩:=zt h;obtain⟨d7,ds,rfl,h7,h⟩:=zt h;obtain⟨d8,ds,rfl,h8,h⟩:=zt h;obtain⟨d9,ds,rfl,h9,h⟩:=zt h;obtain rfl:=zeF h;obtain⟨a1,rfl,k1⟩:=zaG h1;obtain⟨a2,rfl,k2⟩:=zaG h2;obtain⟨a3,rfl,k3⟩:=zaG h3;obtain⟨a4,rfl⟩:=ztK h4;obtain⟨a5,rfl⟩:=ztK h5;obtain⟨a6,rfl,k6⟩:=zaG h6;obtain⟨a7,rfl⟩:=dec_recs h7;obtain⟨a8,rfl,k8⟩:=zaG h8;obtain⟨a9,rfl,k9⟩:=zaG h9;exact⟨⟨a1,a2,⟨a3,a4,a5,a6,a7⟩,a8,a9⟩,rfl,k1,k2,⟨k3,k6⟩,k8,k9⟩
theorem dec_prep {ds:List D}(h:zcZ tyPrep ds):∃s:zjY,ds=zfy s/\prepR s:=by
 obtain⟨d1,ds,rfl,h1,h⟩:=zt h;obtain⟨d2,ds,rfl,h2,h⟩:=zt h;obtain⟨d3,ds,rfl,h3,h⟩:=zt h;obtain⟨d4,ds,rfl,h4,h⟩:=zt h;obtain⟨d5,ds,rfl,h5,h⟩:=zt h;obtain⟨d6,ds,rfl,h6,h⟩:=zt h;obtain⟨d7,ds,rfl,h7,h⟩:=zt h;obtain rfl:=zeF h;obtain⟨a1,rfl,k1⟩:=zaG h1;obtain⟨a2,rfl,k2⟩:=zaG h2;obtain⟨a3,rfl,k3⟩:=zaG h3;obtain⟨a4,rfl,k4⟩:=zaG h4;obtain⟨a5,rfl,k5⟩:=zaG h5;obtain⟨a6,rfl⟩:=zfR h6 (fun e he=>(zvu he).imp fun _ h=>h.1);obtain⟨a7,rfl⟩:=zfR h7 (fun e he=>(ztL he).imp fun _ h=>h.1);exact⟨⟨a1,a2,a3,a4,a5,a6,a7⟩,rfl,k1,k2,k3,k4,k5⟩
theorem dec_change {ds:List D}(h:zcZ tyChange ds):∃s:zbk,ds=zag s/\changeR s:=by
 obtain⟨d1,ds,rfl,h1,h⟩:=zt h;obtain⟨d2,ds,rfl,h2,h⟩:=zt h;obtain⟨d3,ds,rfl,h3,h⟩:=zt h;obtain⟨d4,ds,rfl,h4,h⟩:=zt h;obtain⟨d5,ds,rfl,h5,h⟩:=zt h;obtain⟨d6,ds,rfl,h6,h⟩:=zt h;obtain⟨d7,ds,rfl,h7,h⟩:=zt h;obtain⟨d8,ds,rfl,h8,h⟩:=zt h;obtain rfl:=zeF h;obtain⟨a1,rfl,k1⟩:=zaG h1;obtain⟨a2,rfl,k2⟩:=zaG h2;obtain⟨a3,rfl,k3⟩:=zaG h3;obtain⟨a4,rfl,k4⟩:=zaG h4;obtain⟨a5,rfl⟩:=zfR h5 (fun e he=>(zvu he).imp fun _ h=>h.1);obtain⟨a6,rfl,k6⟩:=zyX h6 (fun e he=>dec_prep he);obtain⟨a7,rfl,k7⟩:=zaG h7;obtain⟨a8,rfl,k8⟩:=zaG h8;exact⟨⟨a1,a2,⟨a3,a4,a5⟩,a6,a7,a8⟩,rfl,k1,k2,k3,k4,k6,k7,k8⟩
def zT (x:zr):Int:=if x.client<0∨x.client≥8∨x.time<1∨x.time>9007199254740992 then 80 else zaM zdY x.op
def zx (k d:Int):Int:=if k<0∨k≥21∨d<1∨d>9007199254740992 then 81 else 0
def zyU (s:zr):Int:=if zT s≠0 then zT s else zx s.key s.dig
def zoa:List zr->Int
 | []=>0
 | s::r=>if zyU s≠0 then zyU s else zoa r
def ndup (a b:zr):Prop:=¬(a.client=b.client/\a.time=b.time)
instance:DecidableRel ndup:=fun a b=>inferInstanceAs (Decidable (¬_))
def zD (l:List zr):Int:=
 if l.length>4 then 3 else if zoa l≠0 then zoa l else if l.Pairwise ndup then 0 else 5
theorem zpL {l:List zr}:∀ {k:Nat} {x:zr},l[k]? = some x->zoa (l.take k)=0->zyU x≠0->zoa l=zyU x:=by
 induction l with
 | nil=>intro k x h;simp at h
 | cons s r ih=>
  intro k x h h0 hx
  cases k with
  | zero=>simp at h;subst h;simp[zoa,hx]
  | succ k=>
   simp only[List.take_succ_cons,zoa]at h0 ⊢
   simp at h
   split at h0
   ·rename_i hs;exact absurd h0 hs
   ·rename_i hs;rw[if_neg hs];exact ih h h0 hx
theorem zyT {l:List zr}{k:Nat}{x:zr}(h:l[k]? = some x)(h0:zoa (l.take k)=0)(hx:zyU x=0):zoa (l.take (k+1))=0:=by
 have key:∀(a:List zr),zoa a=0->zoa (a++[x])=0:=by
  intro a;induction a with
  | nil=>intro _;simp[zoa,hx]
  | cons s r ih=>
   intro h
   simp only[List.cons_append,zoa]at h ⊢
   split at h
   ·rename_i hs;exact absurd h hs
   ·rename_i hs;rw[if_neg hs];exact ih h
 rw[List.take_add_one,h];exact key _ h0
theorem zyx {l:List zr}{k:Nat}{x:zr}(h:l[k]? = some x)(h0:(l.take k).Pairwise ndup)(hx:∀y∈l.take k,¬(x.client=y.client/\x.time=y.time)):(l.take (k+1)).Pairwise ndup:=by
 rw[List.take_add_one,h];refine List.pairwise_append.2 ⟨h0,by simp,fun a ha b hb=>?_⟩;simp at hb;subst hb;exact fun e=>hx a ha ⟨e.1.symm,e.2.symm⟩
theorem pairs_not {l:List zr}{k j:Nat}{x y:zr}(h:l[k]? = some x)(hy:l[j]? = some y)(hj:j<k)(hxy:x.client=y.client/\x.time=y.time):¬l.Pairwise ndup:=by
 intro hp;rw[List.pairwise_iff_getElem]at hp;obtain⟨hk,rfl⟩:=List.getElem?_eq_some_iff.1 h;obtain⟨hj',rfl⟩:=List.getElem?_eq_some_iff.1 hy;exact hp j k hj' hk hj ⟨hxy.1.symm,hxy.2.symm⟩
def okO (o:TOp):Prop:=o.topic.length<=1073741824/\o.group.length<=1073741824/\o.recs.length<=1073741824/\∀r∈o.recs,r.length<=1073741824
def okB (b:List zr):Prop:=b.length<=1073741824/\∀x∈b,okO x.op
def allO {α:Type}:List (Option α)->Option (List α)
 | []=>some []
 | some a::l=>match allO l with|some r=>some (a::r)|none=>none
 | none::_=>none
theorem zvA {α:Type}:∀ {l:List (Option α)} {r:List α},allO l=some r->r.length=l.length/\∀(i:Nat) a b,l[i]? = some a->r[i]? = some b->a=some b
 | [],r,h=>by simp[allO]at h;subst h;simp
 | none::l,r,h=>by simp[allO]at h
 | some a::l,r,h=>by
  simp only[allO]at h;split at h
  ·rename_i r' hr;cases h;obtain⟨h1,h2⟩:=zvA hr;refine⟨by simp[h1],fun i x y hx hy=>?_⟩;cases i with
   | zero=>simp at hx hy;subst hx hy;rfl
   | succ i=>simp at hx hy;exact h2 i x y hx hy
  ·cases h
def frz (σ:List AObj) (n₀:Nat):Nat->AV->Option D
 | _,.d x=>some x
 | _,.own _ es=>some (.slice es)
 | _,.exact es=>some (.slice es)
 | n+1,.rsl t g sz lo hi=>match σ[t]? with
  | some (.row g' sz' cs)=>if n₀<=t/\g'=g/\sz'=sz then
    match allO (((cs.drop (lo*sz)).take ((hi-lo)*sz)).map (frz σ n₀ n))with
    | some ds=>some (.slice (zaD sz (hi-lo) ds))
    | none=>none
   else none
  | _=>none
 | _,_=>none
def frz1 (σ:List AObj) (n₀ n:Nat):AV->Option AV
 | .agg cs=>match allO (cs.map (frz σ n₀ n))with|some ds=>some (.agg (ds.map .d))|none=>none
 | a=>match frz σ n₀ n a with|some x=>some (.d x)|none=>none
def frzT (σ:List AObj) (n₀ n:Nat):AV->Option AV
 | .tup vs=>match allO (vs.map (frz1 σ n₀ n))with|some l=>some (.tup l)|none=>none
 | a=>frz1 σ n₀ n a
section
variable {P:Program} {w:World} {L:Nat->Loc} {σ:List AObj}
theorem frz_sound (S:Sim L σ w){O:Nat->Nat->Prop}{n₀:Nat}(hO:∀b o,O b o->Own L σ b o)(hno:∀t x,n₀<=t→σ[t]? = some x->x.kind=5->∀b o,zfw (L t) x b o->¬O b o) :
  ∀(n:Nat) (a:AV) (x:D) (v:Value),RV w L σ a v->frz σ n₀ n a=some x->RD w O x v:=by
 intro n;induction n with
 | zero=>
  intro a x v h hx
  cases h with
  | d _ _ h=>simp[frz]at hx;subst hx;exact ziM hO h
  | own _ _ _ _ _ _ _ _ h=>simp[frz]at hx;subst hx;exact ziM hO h
  | exact _ _ h=>simp[frz]at hx;subst hx;exact ziM hO h
  | _=>simp[frz]at hx
 | succ n ih=>
  intro a x v h hx
  cases h with
  | d _ _ h=>simp[frz]at hx;subst hx;exact ziM hO h
  | own _ _ _ _ _ _ _ _ h=>simp[frz]at hx;subst hx;exact ziM hO h
  | exact _ _ h=>simp[frz]at hx;subst hx;exact ziM hO h
  | rsl t g sz lo hi b c h1 h2 h3 h4 h5 h6 h7=>
   simp only[frz]at hx
   split at hx
   ·rename_i g' sz' cs hcs
    split at hx
    ·rename_i hc
     obtain⟨hn,rfl,rfl⟩:=hc
     split at hx
     ·rename_i ds hds
      cases hx
      obtain⟨a1,a2⟩:=zvA hds
      obtain⟨_,q2,q3,q4,q5⟩:=h7 sz' cs hcs
      obtain⟨p0,⟨m,p1,p1'⟩,p2,p3,p4,p5⟩:=S.obj t _ hcs
      have hmul:hi*sz'≤(L t).cap*sz':=Nat.mul_le_mul_right _ q3
      have hsub:lo*sz'+(hi-lo)*sz'=hi*sz':=by rw[← Nat.add_mul];congr 1;omega
      have hdl:ds.length=(hi-lo)*sz':=by rw[a1];simp;omega
      have hcl:(zaD sz' (hi-lo) ds).length=hi-lo:=zkg _ _ _
      rcases Nat.eq_zero_or_pos (hi-lo)with h0|h0
      ·rw[h0]at hcl ⊢
       rw[List.eq_nil_of_length_eq_zero hcl]
       exact .empty _ _ h5
      ·rw[q5 (by omega)]
       have hch:=zrx sz' (hi-lo) ds hdl
       generalize hes:zaD sz' (hi-lo) ds=es at hcl hch
       rw[← hcl]
       refine RD.of_block (sz:=sz') (by rw[hcl];exact h4) hch fun i e j d hi' hj=>?_
       rw[← hes]at hi'
       obtain⟨c1,c2,c3⟩:=zpO sz' (hi-lo) ds i e j d hi' hj
       have hlt:=zo c3
       rw[hdl]at hlt
       have hc:cs[lo*sz'+(i*sz'+j)]? = some (cs[lo*sz'+(i*sz'+j)]'(by omega)):=List.getElem?_eq_getElem _
       obtain⟨u,u1,u2⟩:=p5 _ _ hc
       refine⟨u,by rw[Nat.add_assoc];exact u1,hno t _ hn hcs rfl _ _ ⟨rfl,by omega,by omega⟩,ih _ d u u2 ?_⟩
       refine a2 (i*sz'+j) _ d ?_ c3
       rw[List.getElem?_map,List.getElem?_take,if_pos hlt,List.getElem?_drop,hc]
       rfl
     ·cases hx
    ·cases hx
   ·cases hx
  | _=>simp[frz]at hx
theorem zyP (S:Sim L σ w){L2:Nat->Loc}{σ2:List AObj}{n₀ n:Nat}(hO:∀b o,Own L2 σ2 b o->Own L σ b o)(hno:∀t x,n₀<=t→σ[t]? = some x->x.kind=5->∀b o,zfw (L t) x b o->¬Own L2 σ2 b o)
  {a r:AV} {v:Value} (h:RV w L σ a v) (hr:frz1 σ n₀ n a=some r):RV w L2 σ2 r v:=by
 have one:(match frz σ n₀ n a with|some x=>some (AV.d x)|none=>none)=some r->RV w L2 σ2 r v:=fun hr=>by
  split at hr
  ·rename_i x hx;cases hr;exact .d _ _ (frz_sound S hO hno n a x v h hx)
  ·cases hr
 cases a with
 | agg cs=>
  simp only[frz1]at hr
  split at hr
  ·rename_i ds hds
   cases hr
   obtain⟨vs,rfl,h1,h2⟩:=h.agg_inv
   obtain⟨a1,a2⟩:=zvA hds
   refine .agg _ _ (by simp at a1 ⊢;omega) fun i c u hc hu=>?_
   simp only[List.getElem?_map,Option.map_eq_some_iff]at hc
   obtain⟨d,hd,rfl⟩:=hc
   have hlt:=zo hd
   have hcs:cs[i]? = some (cs[i]'(by simp at a1;omega)):=List.getElem?_eq_getElem _
   exact .d _ _ (frz_sound S hO hno n _ d u (h2 i _ u hcs hu) (a2 i _ d (by rw[List.getElem?_map,hcs];rfl) hd))
  ·cases hr
 | _=>exact one hr
theorem zyO (S:Sim L σ w){L2:Nat->Loc}{σ2:List AObj}{n₀ n:Nat}(hO:∀b o,Own L2 σ2 b o->Own L σ b o)(hno:∀t x,n₀<=t→σ[t]? = some x->x.kind=5->∀b o,zfw (L t) x b o->¬Own L2 σ2 b o)
  {a r:AV} {v:Value} (h:RV w L σ a v) (hr:frzT σ n₀ n a=some r):RV w L2 σ2 r v:=by
 cases a with
 | tup cs=>
  simp only[frzT]at hr
  split at hr
  ·rename_i l hl
   cases hr
   obtain⟨vs,rfl,h1,h2⟩:=h.tup_inv
   obtain⟨a1,a2⟩:=zvA hl
   refine .tup _ _ (by simp at a1 ⊢;omega) fun i c u hc hu=>?_
   have hlt:=zo hc
   have hcs:cs[i]? = some (cs[i]'(by simp at a1;omega)):=List.getElem?_eq_getElem _
   exact zyP S hO hno (h2 i _ u hcs hu) (a2 i _ c (by rw[List.getElem?_map,hcs];rfl) hc)
  ·cases hr
 | _=>exact zyP S hO hno h hr
def EndsF (m n:Nat) (K:KT) (out:Option (List AV)) (σ':List AObj):Prop:=
 match out with
 | some l=>match frzT σ' n m (zck l)with
  | some r=>zhm n (σ'.take n)/\K r (σ'.take n)
  | none=>False
 | none=>False
theorem zsH {f:FuncId}{F:AF}{na:Nat}(hF:isFn P f F na){as0:List AV}(has:as0.length=na){K:KT}(m:Nat)
  (h:zhm σ.length σ->(∀a∈as0,Low σ.length a)->awp P F.body (AtEnd fun fr' σ'=>EndsF m σ.length K (zuH fr' σ' F.res) σ') (zlj 0 as0) σ):ACall P f as0 σ K:=
 zoV hF has _ (fun{L w L' σ' w' fr' ts} S st S' F' hz=>by
  unfold EndsF at hz;split at hz
  ·rename_i l hl;split at hz
   ·rename_i r hr;obtain⟨z2,z3⟩:=hz;refine⟨L',_,l,r,hl,st.take,S'.take z2,fun v hv=>zyO S' (fun b o=>zrV) (fun t x ht hx hk b o hf hown=>?_) hv hr,z3⟩;obtain⟨id,y,hy,hfy⟩:=hown;rw[List.getElem?_take]at hy;split at hy
    ·rename_i hid;exact S'.apart id t y x b o (by omega) hy hx hfy hf
    ·cases hy
   ·exact hz.elim
  ·exact hz.elim) h
theorem zso {τ:List AObj}{K:KT}{l:List AV}{m:Nat}{r:AV}(hr:frzT (σ++τ) σ.length m (zck l)=some r)(hl:zhm σ.length σ)(h:K r σ):EndsF m σ.length K (some l) (σ++τ):=by
 simp only[EndsF,hr,zmZ];exact⟨hl,h⟩
end
section
variable {P:Program} {σ:List AObj}
theorem renId_range {n m id:Nat}(h:id<n+m):zqT n (List.range' n m) id=some id:=by
 unfold zqT;split
 ·rfl
 ·rename_i hn;have:∀(m a:Nat),a<=id->id<a+m->idxK (List.range' a m) id a=some id:=by
   intro m;induction m with
   | zero=>intro a h1 h2;omega
   | succ m ih=>
    intro a h1 h2
    simp only[List.range'_succ,idxK]
    by_cases e:a=id
    ·subst e;simp
    ·have e':¬id=a:=fun h=>e h.symm
     first
      | (rw[if_neg e];exact ih (a+1) (by omega) (by omega))
      | (rw[if_neg e'];exact ih (a+1) (by omega) (by omega))
  exact this m n (by omega) h
theorem zyM:∀(os:List AObj) (σ τ:List AObj),getL (σ++(os++τ)) (List.range' σ.length os.length)=some os
 | [],σ,τ=>rfl
 | x::os,σ,τ=>by
  simp only[List.length_cons,List.range'_succ,getL];have h1:(σ++(x::os++τ))[σ.length]? = some x:=by rw[List.getElem?_append_right (Nat.le_refl _),Nat.sub_self];rfl
  rw[h1];have h2:=zyM os (σ++[x]) τ;simp only[List.length_append,List.length_cons,List.length_nil,Nat.zero_add,List.append_assoc,List.cons_append,List.nil_append]at h2;simp only[List.cons_append];rw[h2]
theorem renOs_low {n:Nat}{f:Nat->Option Nat}(hf:∀id,id<n->f id=some id):∀ {l:List AObj},(∀x∈l,ztV n x)->zvU f l=some l
 | [],_=>rfl
 | x::l,h=>by simp only[zvU,renO_low hf (h x List.mem_cons_self),renOs_low hf fun y hy=>h y (List.mem_cons_of_mem _ hy)]
theorem zun {n:Nat}{σ' os τ:List AObj}{ks:List AObj->List Nat}{K:KT}{l:List AV}(hn:σ'.length=n)(hks:ks (σ'++(os++τ))=List.range' n os.length)(hl:zhm n σ')(hos:∀x∈os,ztV (n+os.length) x)
  (hr:Low (n+os.length) (zck l)) (h:K (zck l) (σ'++os)):zsR n ks K (some l) (σ'++(os++τ)):=by
 subst hn;unfold zsR zAS;rw[hks];have ht:(σ'++(os++τ)).take σ'.length=σ':=zmZ _ _;simp only[zyM,ht];have hf:∀id,id<σ'.length+os.length->zqT σ'.length (List.range' σ'.length os.length) id=some id:=fun id h=>renId_range h;refine⟨by simp,hl,fun k hk=>by simp[List.mem_range'_1]at hk;exact hk.1,List.nodup_range',?_⟩;rw[renOs_low hf hos,zrS hf hr];exact h
theorem zdk {n:Nat}{σ' os:List AObj}{ks:List AObj->List Nat}{K:KT}{l:List AV}(hn:σ'.length=n)(hks:ks (σ'++os)=List.range' n os.length)(hl:zhm n σ')(hos:∀x∈os,ztV (n+os.length) x)
  (hr:Low (n+os.length) (zck l)) (h:K (zck l) (σ'++os)):zsR n ks K (some l) (σ'++os):=by
 have:=zun (os:=os) (τ:=[]) (ks:=ks) (K:=K) hn (by simpa using hks) hl hos hr h;simpa using this
theorem ACall.weaken {f:FuncId}{xs:List AV}{K:KT}(h:ACall P f xs σ fun r s=>∃r' s',zqk [r] s [r'] s'∧K r' s'):ACall P f xs σ K:=
 ⟨h.1,fun L w vs S hv=>(h.2 L w vs S hv).mono fun e w' he=>by
  cases e with
  | panicked _=>exact he
  | outgrown=>exact he
  | returned v=>
   obtain⟨L',σ',r,st,S',hr,r',s',hw,hK⟩:=he
   obtain⟨L2,st2,S2,hv2⟩:=zmj hw S' (us:=[v]) ⟨rfl,fun i c u hc hu=>by cases i<;>simp at hc hu;subst hc hu;exact hr⟩
   exact⟨L2,s',r',st.trans st2,S2,hv2.2 0 r' v rfl rfl,hK⟩⟩
theorem ACall.dm {f:FuncId}{xs:List AV}{K:KT}(h:ACall P f (xs.map AW.dm) σ K):ACall P f xs σ K:=
 ⟨h.1,fun L w vs S hv=>h.2 L w vs S ⟨by rw[List.length_map];exact hv.1,fun i a v ha hu=>by
  simp only[List.getElem?_map,Option.map_eq_some_iff]at ha;obtain⟨a',ha',rfl⟩:=ha;exact zvs (hv.2 i a' v ha' hu)⟩⟩
theorem ACall.pre {f:FuncId}{xs xs':List AV}{σ':List AObj}{K:KT}(hw:zqk xs σ xs' σ')(h:ACall P f xs' σ' K):ACall P f xs σ K:=
 ⟨h.1,fun L w vs S hv=>by
  obtain⟨L1,st,S1,hv1⟩:=zmj hw S hv;refine(h.2 L1 w vs S1 hv1).mono fun e w' he=>?_;cases e with
  | panicked _=>exact he
  | outgrown=>exact he
  | returned v=>
   obtain⟨L',s',r,st',S',hr,hK⟩:=he
   exact⟨L',s',r,st.trans st',S',hr,hK⟩⟩
def EndsW (n:Nat) (K:KT) (out:Option (List AV)) (σ':List AObj):Prop:=∃s,zqk [] σ' [] s/\Ends n K out s
theorem zja {f:FuncId}{F:AF}{na:Nat}(hF:isFn P f F na){as0:List AV}(has:as0.length=na){K:KT}
  (h:zhm σ.length σ->(∀a∈as0,Low σ.length a)->awp P F.body (AtEnd fun fr' σ'=>EndsW σ.length K (zuH fr' σ' F.res) σ') (zlj 0 as0) σ):ACall P f as0 σ K:=
 zoV hF has _ (fun{L w L' σ' w' fr' ts} S st S' F' hz=>by
  obtain⟨s,hw,hz⟩:=hz;obtain⟨L2,st2,S2,_⟩:=zmj hw S' (us:=[]) ⟨rfl,by simp⟩;unfold Ends at hz;split at hz
  ·rename_i l hl;obtain⟨z1,z2,z3⟩:=hz;exact⟨L2,_,l,dmT (zck l),hl,(st.trans st2).take,S2.take z2,fun v hr=>(zwM (st2.rv hr)).take z1,z3⟩
  ·exact hz.elim) h
theorem ziI {n:Nat}{K:KT}{out:Option (List AV)}(h:Ends n K out σ):EndsW n K out σ:=⟨σ,.refl _ _,h⟩
theorem zhm.setO {n:Nat}(h:zhm n σ){id:Nat}{x:AObj}(hx:ztV n x):zhm n (σ.set id x):=zhm.set h hx
theorem zeK {τ:List AObj}{id:Nat}{x:AObj}{K:KT}{l:List AV}(h1:Low σ.length (dmT (zck l)))(hl:zhm σ.length σ)(hx:ztV σ.length x)(h:K (dmT (zck l)) (σ.set id x)):Ends σ.length K (some l) (σ.set id x++τ):=by
 unfold Ends;have:(σ.set id x++τ).take σ.length=σ.set id x:=by
  have e:(σ.set id x).length=σ.length:=List.length_set;rw[← e];exact zmZ _ _
 rw[this];exact⟨h1,hl.setO hx,h⟩
theorem zeW {id:Nat}{x:AObj}{K:KT}{l:List AV}(h1:Low σ.length (dmT (zck l)))(hl:zhm σ.length σ)(hx:ztV σ.length x)(h:K (dmT (zck l)) (σ.set id x)):Ends σ.length K (some l) (σ.set id x):=by
 have:=zeK (τ:=[]) h1 hl hx h;simpa using this
theorem zbQ {α:Type}{σ:List α}{id:Nat}{x:α}(h:σ[id]? = some x):σ.set id x=σ:=by
 obtain⟨hl,hh⟩:=List.getElem?_eq_some_iff.1 h;rw[← hh];exact List.set_getElem_self hl
theorem zdo {α:Type}{σ:List α}{id:Nat}{x y:α}(h:σ[id]? = some x):(σ.set id y)[id]? = some y:=by
 simp[(List.getElem?_eq_some_iff.1 h).1]
theorem zZ {α:Type}{σ:List α}{id:Nat}{x:α}(h:σ[id]? = some x):id<σ.length:=(List.getElem?_eq_some_iff.1 h).1
end
end Go.AW
